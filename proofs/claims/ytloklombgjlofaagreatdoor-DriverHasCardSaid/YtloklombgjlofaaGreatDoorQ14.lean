/- Our own library, part 14. -/
import Derived.KernelRfl
import Derived.Test.YtloklombgjlofaaGreatDoorQ11
import Derived.Test.YtloklombgjlofaaGreatDoorQ10
import Derived.Test.YtloklombgjlofaaGreatDoorQ13
set_option maxHeartbeats 8000000
set_option maxRecDepth 800
set_option linter.all false
namespace Am.Sigs
open Am Go
abbrev fuel:Nat:=100000
def Sem (cl:Nat->Call):Prop := ∀ d,cl d=ja6 prog fuel d
theorem at_ {cl:Nat->Call} (hcl:Sem cl) {d f:Nat} {fn:AFn} {args:List V} {h:H} {R:V->H->Prop} (hd:0<d) (hp:jbA prog.prims f=none) (hf:jbA prog.fns f=some fn) (hl:(args.length == fn.np)=true)
  (k:Run (cl (d-1)) fuel fn.body [] (Env.ofArgs args 0) h (Fin fn.res R)) : ∃ v h',cl d (.fn f) args h=some (v,h')/\R v h':=by
 rw [hcl d];rw [hcl (d-1)] at k;exact callN_at hd hp hf hl k
theorem yl_ {cl:Nat->Call} (hcl:Sem cl) {d l:Nat} {args:List V} {h:H} {R:V->H->Prop} {ps:List Nat} {env e0:Env} {assign body:AC} {LO:LoopState->Option Ex->Obj} (hd:0<d)
  (hLO:LO=(fun st pd=>.loop st pd ps env assign body)) (hl:h.get l=some (LO .ready none)) (he:jbw env ps args=some e0)
  (k:Run (cl (d-1)) fuel assign [] e0 h fun x e1 h1=>x = .normal/\h1.get l=some (LO .ready none) /\
   Run (cl (d-1)) fuel body [] e1 (h1.set l (LO .busy none)) fun ex _ h3=>(∃ st3 pd3,h3.get l=some (LO st3 pd3))/\R (.bool ex.goes) (h3.set l (LO ex.st ex.pend))) :
  ∃ v h',cl d (.yld l) args h=some (v,h')/\R v h':=by
 rw [hcl d];rw [hcl (d-1)] at k;exact yield_lo hd hLO hl he k
theorem same_in {cl:Nat->Call} (hcl:Sem cl) {d:Nat} {t:Tgt} {args:List V} {h h' h2:H} {v:V} {X:Nat->Option Obj} (hr:ja6 prog fuel d t args h=some (v,h')) (x:Ext X h h2) : ∃ h2',cl d t args h2=some (v,h2')/\Ext X h' h2':=by
 rw [hcl d];exact (jdU primsF fuel d).1 _ _ _ _ _ hr _ _ x
theorem ext_all {h:H} (hwf : ∀ j,h.nx<=j->h.get j=none):Ext h.get ⟨h.nx,.lf⟩ h :=
 ⟨rfl,fun j=>by simp [H.get,T.get],fun j hj=>⟨by
  rcases zu j h.nx with h1 | h1
  ·exact h1
  ·exact absurd (hwf j h1) hj,rfl⟩⟩
def ran (r:Option (V × H)) (p:V->H->Bool):Bool:=match r with
 | some (v,h')=>p v h'
 | none=>false
theorem ran_ex {r:Option (V × H)} {p:V->H->Bool} (hr:ran r p=true) : ∃ v h',r=some (v,h')/\p v h'=true:=by
 cases r with
 | none=>cases hr
 | some x=>exact ⟨x.1,x.2,rfl,hr⟩
def jjk:V->Bool
 | .bool b=>b
 | _=>false
theorem isTrue_eq {v:V} (h:jjk v=true):v = .bool true:=by
 cases v<;>simp_all [jjk]
theorem ext_kept {X:Nat->Option Obj} {h h2:H} (x:Ext X h h2) {j:Nat} {o:Obj} (hj:X j=some o):h2.get j=some o:=by
 rw [x.get,(x.off j (by simp [hj])).2,hj];rfl
def isS:Option Obj->Nat
 | some _=>1
 | none=>0
def up:Nat->Nat
 | 0=>0
 | n+1=>2*n+3
def ttop:T->Nat
 | .lf=>0
 | .nd v l r=>Nat.max (isS v) (Nat.max (2*(ttop l)) (up (ttop r)))
theorem jgM : ∀ (t:T) (k:Nat),(ttop t)<=k->t.get k=none
 | .lf,_,_=>rfl
 | .nd v l r,k,h=>by
  have h1:Nat.max (isS v) (Nat.max (2*(ttop l)) (up (ttop r)))<=k:=h
  have a1:=zx (Nat.le_max_left _ _) h1
  have a2:=zx (Nat.le_max_left _ _) (zx (Nat.le_max_right _ _) h1)
  have a3:=zx (Nat.le_max_right _ _) (zx (Nat.le_max_right _ _) h1)
  rw [T.get_nd]
  by_cases k0:k=0
  ·subst k0
   rw [if_pos rfl]
   cases v with
   | none=>rfl
   | some _=>simp [isS] at a1
  ·rw [if_neg k0]
   by_cases ko:k%2=1
   ·rw [if_pos ko];exact jgM l _ om
   ·rw [if_neg ko]
    refine jgM r _ ?_
    cases e:(ttop r) with
    | zero=>omega
    | succ n=>rw [e] at a3;simp [up] at a3;omega
end Am.Sigs
namespace Am
open Go
theorem jgQ {e:Env} {h:H} : ja1 e h []=true:=rfl
theorem jcz {e:Env} {h:H} {d:Nat} {a:Opd} {g:Option (Nat × Bool)} {r:List (Nat × I × Option (Nat × Bool))} {b o:Nat} {l:List V} {ro:Bool} {v:V} (ha:a.ev e=some (.ptr (some (b,o)))) (hb:h.get b=some (.cells l ro)) (hv:l[o]?=some v)
  (hd:e.get d=some v) (k:ja1 e h r=true):ja1 e h ((d,.load1 a,g) :: r)=true:=by
 simp only [ja1,I.read,ha,jh2 hb hv,hd,V.same_refl,k,Bool.and_true]
 cases wanted e g<;>rfl
section
variable {call:Call} {fuel base:Nat} {K:List Fr} {e:Env} {h h':H} {Q:Post} {ix:Nat} {dst:Option Nat} {ops:List Ins} {keep:List Nat} {at_:Option Nat} {c:List (Nat × I × Option (Nat × Bool))}
theorem Ops.storeN_chk {a x:Opd} {b o n:Nat} {l vs:List V} (ha:a.ev e=some (.ptr (some (b,o)))) (hx:x.ev e=some (.agg vs)) (hl:vs.length=n) (h1:vs.all V.one=true) (hb:h.get b=some (.cells l false)) (hn:o+n<=l.length)
  (hk:ja1 e (h.set b (.cells (ja2 l o vs) false)) c=true) (k:Ops call fuel base ops keep K (layv e dst .undef) (h.set b (.cells (ja2 l o vs) false)) Q):Ops call fuel base (⟨ix,dst,.store n a x,none,at_,c⟩ :: ops) keep K e h Q:=by
 subst hl
 refine Ops.step_chk (I.run_eff rfl ?_) hk k
 simp only [I.eff,ha,hx,V.cells,jdl hb hn h1,beq_self_eq_true,cond_true]
theorem Ops.store1_chk {a x:Opd} {b o:Nat} {l:List V} {v:V} (ha:a.ev e=some (.ptr (some (b,o)))) (hx:x.ev e=some v) (h1:v.one=true) (hb:h.get b=some (.cells l false)) (hn:o<l.length)
  (hk:ja1 e (h.set b (.cells (l.set o v) false)) c=true) (k:Ops call fuel base ops keep K (layv e dst .undef) (h.set b (.cells (l.set o v) false)) Q):Ops call fuel base (⟨ix,dst,.store 1 a x,none,at_,c⟩ :: ops) keep K e h Q:=by
 have hc:v.cells=[v]:=by cases v<;>first | rfl | (simp [V.one] at h1)
 refine Ops.step_chk (I.run_eff rfl ?_) hk k
 have hs:=jdl (o:=o) (vs:=[v]) hb (by simp only [List.length_singleton];omega) (by simp [h1])
 simp only [I.eff,ha,hx,hc,hs]
 rfl
def Cap.fits:Cap->Nat->Nat->Prop
 | .fix k,n,_=>n<=k
 | .grow q,_,sz=>q=sz
theorem Ops.mkSliceN {bytes n:Nat} {z:V} {l c':Opd} (hl:l.ev e=some (.i (n:Int))) (hc:c'.ev e=some (.i (n:Int))) (hb:n*bytes<=2 ^ 46) (hn:n<=2 ^ 46)
  (k:Ops call fuel base ops keep K (layv e dst (.slice (some (h.nx,0)) n (.fix n))) (h.new (.cells (List.replicate n z) false)) Q):Ops call fuel base (⟨ix,dst,.mkSlice 1 bytes [z] l c',none,none,[]⟩ :: ops) keep K e h Q:=by
 refine Ops.make (ob := .cells (List.replicate n z) false) (mk:=fun b=>.slice (some (b,0)) n (.fix n)) rfl ?_ k
 have e1:(Nat.ble n n&&Nat.ble (n*bytes) (2 ^ 46)&&Nat.ble n (2 ^ 46))=true:=by
  simp only [zm,Nat.ble_eq];omega
 have e2 : ∀ n,(List.replicate n [z]).flatten=List.replicate n z:=by
  intro n
  induction n with
  | zero=>rfl
  | succ n ih=>rw [List.replicate_succ,List.flatten_cons,ih];rfl
 have e3:(V.i (n:Int))=V.int .i64 (Int.ofNat n):=rfl
 simp only [I.make,hl,hc,e3,e1,cond_true,e2]
end
theorem Row.one {N sz n:Nat} {h:H} {v:V} {cs:List V} (r:Row N h sz v n cs):v.one=true:=by
 rcases r with ⟨_,_,rfl⟩ | ⟨q,_,_,rfl,_⟩<;>rfl
end Am
namespace Am.Sigs
open Am Go
structure En where
 what:Int
 fd:Int
 ring:Option (List UInt8)
 writes:Bool
 shut:Bool
 inn:Int
 out:Int
def En.ptr:Option (List UInt8)->Nat->V
 | none,_=>.ptr none
 | some _,r=>.p r 0
def En.cells (x:En) (r:Nat):List V:=[.i x.what,.i x.fd,En.ptr x.ring r,.bool x.writes,.bool x.shut,.int .u64 x.inn,.int .u64 x.out]
structure Wi where
 e0:En
 e1:En
 cap:Nat
 reset:Bool
 backlog:Int
 waiting:List Int
def Wi.cells (x:Wi) (r0 r1:Nat) (wv:V):List V:=x.e0.cells r0++(x.e1.cells r1++[.bool x.reset,.i x.backlog,wv])
def Wi.obj (x:Wi) (r0 r1:Nat) (wv:V):Obj := .cells (x.cells r0 r1 wv) false
def upu (n:Int):Int:=IntKind.wrap .u64 (n+1)
def En.came (x:En) (i o:Bool):En := { x with inn:=if i&&x.ring.isSome then upu x.inn else x.inn,out:=if o&&x.writes then upu x.out else x.out }
def Wi.e (x:Wi):Nat->En
 | 0=>x.e0
 | _=>x.e1
def Wi.put (x:Wi) (k:Nat) (e:En):Wi:=match k with
 | 0=>{ x with e0:=e }
 | _=>{ x with e1:=e }
def Wi.came (x:Wi) (k:Nat) (i o:Bool):Wi:=x.put k ((x.e k).came i o)
def Wi.silent (x:Wi) (k:Nat):Bool:=(x.e (1-k)).what == 3||(x.e (1-k)).shut
section
variable {cl:Nat->Call} (hcl:Sem cl)
include hcl
theorem xp_silent {d wb r0 r1 k:Nat} {wv:V} {h:H} {x:Wi} (hd:1<=d) (hw:h.get wb=some (x.obj r0 r1 wv)) (hk:k=0\/k=1):cl d (.fn F.jc3) [.p wb 0,.i (k:Int)] h=some (.bool (x.silent k),h):=by
 refine jar (at_ hcl om rfl rfl rfl ?_)
 obtain ⟨⟨w0,f0,q0,wr0,s0,i0,o0⟩,⟨w1,f1,q1,wr1,s1,i1,o1⟩,cap,rs,bl,wt⟩:=x
 simp only [Wi.obj,Wi.cells,En.cells,List.cons_append,List.nil_append] at hw
 rcases hk with rfl | rfl
 ·by_cases h3:w1=3
  ·refine qs1 ?_
   exact ⟨by simp [Wi.silent,Wi.e,h3],rfl⟩
  ·refine qs1 ?_
   exact ⟨by simp [Wi.silent,Wi.e,h3],rfl⟩
 ·by_cases h3:w0=3
  ·refine qs1 ?_
   exact ⟨by simp [Wi.silent,Wi.e,h3],rfl⟩
  ·refine qs1 ?_
   exact ⟨by simp [Wi.silent,Wi.e,h3],rfl⟩
end
structure RX where
 x:Wi
 v0:V
 v1:V
 vw:V
def En.rcells (e:En) (v:V):List V:=[.i e.what,.i e.fd,.bool e.ring.isSome,.bool e.writes,v,.bool e.shut,.int .u64 e.inn,.int .u64 e.out]
def RX.cells (r:RX):List V:=r.x.e0.rcells r.v0++(r.x.e1.rcells r.v1++[.i r.x.cap,.bool r.x.reset,.i r.x.backlog,r.vw])
def RX.v (r:RX):Nat->V
 | 0=>r.v0
 | _=>r.v1
def rows (l:List RX):List V:=(l.map RX.cells).flatten
theorem RX.len (r:RX):r.cells.length=20:=by simp [RX.cells,En.rcells]
theorem jgv (l:List RX):(rows l).length=l.length*20:=by
 induction l with
 | nil=>rfl
 | cons r l ih=>simp only [rows,List.map_cons,List.flatten_cons,ze,RX.len] at ih ⊢;rw [ih];simp [Nat.add_mul];omega
theorem jgw (l l':List RX):rows (l++l')=rows l++rows l':=by simp [rows]
section
variable {l:List RX} {n k:Nat} {r:RX}
theorem r_lt (hr:l[n]?=some r):n<l.length:=by
 rcases zu n l.length with h | h
 ·exact h
 ·rw [zc h] at hr;cases hr
end
theorem get_set {l:List RX} {n:Nat} {r r':RX} (hr:l[n]?=some r):(l.set n r')[n]?=some r':=by
 rw [zg,if_pos rfl,if_pos (r_lt hr)]
structure RAt (h:H) (rw q:Nat) (l:List RX) (tl:List V):Prop where
 hw:h.get rw=some (.cells (.slice (some (q,0)) l.length (.grow 20) :: tl) false)
 hq:h.get q=some (.cells (rows l) false)
 ne:rw≠q
theorem RAt.upd {h h':H} {rw q:Nat} {l l':List RX} {tl:List V} (a:RAt h rw q l tl) (u:Upd q (.cells (rows l') false) h h') (hl:l'.length=l.length):RAt h' rw q l' tl :=
 ⟨by rw [u.get _ a.ne,a.hw,hl],u.self,a.ne⟩
theorem RAt.set {h:H} {rw q n o:Nat} {l:List RX} {tl:List V} {r r':RX} {v:V} (a:RAt h rw q l tl) (hr:l[n]?=some r) (e:(rows l).set o v=rows (l.set n r')) :
  RAt (h.set q (.cells ((rows l).set o v) false)) rw q (l.set n r') tl:=by
 rw [e];exact a.upd Upd.set Zd
def RX.came (r:RX) (k:Nat) (i o:Bool):RX := { r with x:=r.x.came k i o }
section
variable {cl:Nat->Call} (hcl:Sem cl)
include hcl
end
abbrev bts (l:List UInt8):List V:=l.map jdZ
theorem bts_get {l:List UInt8} {i:Nat} {x:UInt8} (h:l[i]?=some x):(bts l)[i]?=some (jdZ x):=by simp [h]
structure RingC (h:H) (r bb:Nat) (buf:List UInt8) (frm n cap:Nat) (inn out:Int):Prop where
 hr:h.get r=some (.cells [.slice (some (bb,0)) cap (.fix cap),.i frm,.i n,.int .u64 inn,.int .u64 out,.bool true] false)
 hb:h.get bb=some (.cells (bts buf) false)
structure RingV (buf q:List UInt8) (frm cap:Nat):Prop where
 len:buf.length=cap
 flt:frm<cap
 fit:q.length<=cap
 small:cap<=65536
 at_ : ∀ i,i<q.length->buf[(frm+i)%cap]?=q[i]?
def jaG (h:H) (r bb:Nat) (q:List UInt8) (cap:Nat):Prop := ∃ buf frm inn out,RingC h r bb buf frm q.length cap inn out/\RingV buf q frm cap
theorem jaG.keep {h h':H} {r bb:Nat} {q:List UInt8} {cap:Nat} (a:jaG h r bb q cap) (h1:h'.get r=h.get r) (h2:h'.get bb=h.get bb):jaG h' r bb q cap:=by
 obtain ⟨buf,frm,inn,out,c,v⟩:=a
 exact ⟨buf,frm,inn,out,⟨by rw [h1,c.hr],by rw [h2,c.hb]⟩,v⟩
section
variable {cl:Nat->Call} (hcl:Sem cl)
include hcl
theorem jiO {d r bb:Nat} {h:H} {buf:List UInt8} {frm n cap:Nat} {inn out:Int} (hd:1<=d) (c:RingC h r bb buf frm n cap inn out):cl d (.fn F.jeg) [.p r 0] h=some (.bool false,h):=by
 refine jar (at_ hcl om rfl rfl rfl ?_)
 have hr:=c.hr
 refine qx1 ?_
 exact ⟨rfl,rfl⟩
theorem rp_len {d r bb:Nat} {h:H} {buf:List UInt8} {frm n cap:Nat} {inn out:Int} (hd:2<=d) (c:RingC h r bb buf frm n cap inn out):cl d (.fn F.jcm) [.p r 0] h=some (.i n,h):=by
 refine jar (at_ hcl om rfl rfl rfl ?_)
 have hr:=c.hr
 have hn:=jiO hcl (d:=d-1) om c
 refine qx1 ?_
 exact ⟨rfl,rfl⟩
theorem rp_room {d r bb:Nat} {h:H} {buf:List UInt8} {frm n cap:Nat} {inn out:Int} (hd:2<=d) (c:RingC h r bb buf frm n cap inn out) (h1:n<=cap) (h2:cap<=65536):cl d (.fn F.jeh) [.p r 0] h=some (.i ((cap-n:Nat):Int),h):=by
 refine jar (at_ hcl om rfl rfl rfl ?_)
 have hr:=c.hr
 have hn:=jiO hcl (d:=d-1) om c
 refine qx1 ?_
 exact ⟨by congr 1;omega,rfl⟩
theorem jjM {d:Nat} {h:H} {n:Nat} (hd:1<=d) (h1:n<=65536):cl d (.fn F.jhc) [.i n] h=some (.tup [.p (h.nx+1) 0,.i 0],
  (h.new (.cells (List.replicate n (.int .u8 0)) false)).new (.cells [.slice (some (h.nx,0)) n (.fix n),.i 0,.i 0,.int .u64 0,.int .u64 0,.bool true] false)):=by
 refine jar (at_ hcl om rfl rfl rfl ?_)
 refine qx1 ?_
 refine Ops.mkSliceN rfl rfl om om ?_
 refine qx1 ?_
 refine Ops.make rfl rfl ?_
 refine qx1 ?_
 exact ⟨rfl,rfl⟩
end
structure BytesAt (h:H) (a:Option (Nat × Nat)) (c:Cap) (l:List UInt8):Prop where
 none_:a=none->c = .fix 0/\l=[]
 fits:c.fits l.length 1
 at_:l≠[] -> ∃ b o cs ro,a=some (b,o)/\b<h.nx/\h.get b=some (.cells cs ro) /\ ∀ (i:Nat) (x:UInt8),l[i]?=some x->cs[o+i]?=some (jdZ x)
theorem jaG.of {h:H} {r bb cap frm:Nat} {buf q:List UInt8} {f n inn out:Int} (hr:h.get r=some (.cells [.slice (some (bb,0)) cap (.fix cap),.i f,.i n,.int .u64 inn,.int .u64 out,.bool true] false)) (hb:h.get bb=some (.cells (bts buf) false))
  (hf:f=frm) (hn:n=q.length) (v:RingV buf q frm cap):jaG h r bb q cap:=by
 subst hf hn
 exact ⟨buf,frm,inn,out,⟨hr,hb⟩,v⟩
section
variable {cl:Nat->Call} (hcl:Sem cl)
include hcl
end
def VB (h:H) (v:V) (l:List UInt8):Prop := ∃ a c,v = .slice a l.length c/\BytesAt h a c l
theorem VB.keep {h h':H} {v:V} {l:List UInt8} (a:VB h v l) (hx:h.nx<=h'.nx) (hk : ∀ z,v.at?=some z->h'.get z=h.get z):VB h' v l:=by
 obtain ⟨a,c,rfl,n,f,g⟩:=a
 refine ⟨a,c,rfl,n,f,fun hl=>?_⟩
 obtain ⟨b,o,cs,ro,rfl,h1,h2,h3⟩:=g hl
 exact ⟨b,o,cs,ro,rfl,by omega,by rw [hk b rfl,h2],h3⟩
theorem VB.keep2 {h h':H} {v:V} {l:List UInt8} (a:VB h v l) (hx:h.nx<=h'.nx) (hk:l≠[] -> ∀ z,v.at?=some z->h'.get z=h.get z):VB h' v l:=by
 obtain ⟨a,c,rfl,n,f,g⟩:=a
 refine ⟨a,c,rfl,n,f,fun hl=>?_⟩
 obtain ⟨b,o,cs,ro,rfl,h1,h2,h3⟩:=g hl
 exact ⟨b,o,cs,ro,rfl,by omega,by rw [hk hl b rfl,h2],h3⟩
theorem VB.nil (h:H):VB h .nils []:=⟨none,.fix 0,rfl,fun _=>⟨rfl,rfl⟩,zn _,fun h=>absurd rfl h⟩
theorem VB.one {h:H} {v:V} {l:List UInt8} (a:VB h v l):v.one=true:=by obtain ⟨a,c,rfl,_⟩:=a;rfl
def VI (h:H) (v:V) (l:List Int):Prop := ∃ a c,v = .slice a l.length c/\(a=none->c = .fix 0/\l=[])/\c.fits l.length 1/\(l≠[] -> ∃ b o cs ro,a=some (b,o)/\b<h.nx/\h.get b=some (.cells cs ro) /\ ∀ (i:Nat) (x:Int),l[i]?=some x->cs[o+i]?=some (.i x))
theorem VI.keep {h h':H} {v:V} {l:List Int} (a:VI h v l) (hx:h.nx<=h'.nx) (hk : ∀ z,v.at?=some z->h'.get z=h.get z):VI h' v l:=by
 obtain ⟨a,c,rfl,n,f,g⟩:=a
 refine ⟨a,c,rfl,n,f,fun hl=>?_⟩
 obtain ⟨b,o,cs,ro,rfl,h1,h2,h3⟩:=g hl
 exact ⟨b,o,cs,ro,rfl,by omega,by rw [hk b rfl,h2],h3⟩
theorem VI.nil (h:H):VI h .nils []:=⟨none,.fix 0,rfl,fun _=>⟨rfl,rfl⟩,zn _,fun h=>absurd rfl h⟩
theorem VI.one {h:H} {v:V} {l:List Int} (a:VI h v l):v.one=true:=by obtain ⟨a,c,rfl,_⟩:=a;rfl
section
variable {call:Call} {fuel base:Nat} {ops:List Ins} {keep:List Nat} {K:List Fr} {e:Env} {h:H} {Q:Post} {ix:Nat} {dst at_:Option Nat}
end
structure ROk (h:H) (rw q:Nat) (r:RX):Prop where
 b : ∀ k,k=0\/k=1->VB h (r.v k) ((r.x.e k).ring.getD []) /\ ∀ z,(r.v k).at?=some z->z≠q/\z≠rw/\z<h.nx
 w:VI h r.vw r.x.waiting /\ ∀ z,r.vw.at?=some z->z≠q/\z≠rw/\z<h.nx
theorem ROk.keep {h h':H} {rw q:Nat} {r:RX} (a:ROk h rw q r) (c:Ch (fun j=>j=q\/j=rw) h h'):ROk h' rw q r:=by
 refine ⟨fun k hk=>?_,?_⟩
 ·obtain ⟨p,s⟩:=a.b k hk
  refine ⟨p.keep c.nx fun z hz=>c.get z (s z hz).2.2 fun e=>?_,fun z hz=>⟨(s z hz).1,(s z hz).2.1,zp (s z hz).2.2 c.nx⟩⟩
  rcases e with e | e
  ·exact (s z hz).1 e
  ·exact (s z hz).2.1 e
 ·obtain ⟨p,s⟩:=a.w
  refine ⟨p.keep c.nx fun z hz=>c.get z (s z hz).2.2 fun e=>?_,fun z hz=>⟨(s z hz).1,(s z hz).2.1,zp (s z hz).2.2 c.nx⟩⟩
  rcases e with e | e
  ·exact (s z hz).1 e
  ·exact (s z hz).2.1 e
structure RW (h:H) (rw q:Nat) (l:List RX) (tl:List V):Prop where
 lw:rw<h.nx
 lq:q<h.nx
 ne:rw≠q
 at_:l≠[]->RAt h rw q l tl
 nil:l=[]->h.get rw=some (.cells (.nils :: tl) false)
 ok : ∀ r∈l,ROk h rw q r
abbrev RC (rw q:Nat):Nat->Prop:=fun j=>j=q\/j=rw
theorem RW.rat {h:H} {rw q n:Nat} {l:List RX} {tl:List V} {r:RX} (w:RW h rw q l tl) (hr:l[n]?=some r):RAt h rw q l tl:=w.at_ (by rintro rfl;simp at hr)
theorem RW.head {h:H} {rw q:Nat} {l:List RX} {tl:List V} (w:RW h rw q l tl) : ∃ a c,h.get rw=some (.cells (.slice a l.length c :: tl) false)/\(l≠[]->a=some (q,0)/\c = .grow 20):=by
 by_cases hl:l=[]
 ·subst hl;exact ⟨none,.fix 0,w.nil rfl,fun h=>absurd rfl h⟩
 ·exact ⟨_,_,(w.at_ hl).hw,fun _=>⟨rfl,rfl⟩⟩
theorem RW.set {h h':H} {rw q n:Nat} {l:List RX} {tl:List V} {r r':RX} (w:RW h rw q l tl) (hr:l[n]?=some r) (u:Upd q (.cells (rows (l.set n r')) false) h h') (hk:ROk h rw q r'):RW h' rw q (l.set n r') tl:=by
 have ch:Ch (RC rw q) h h':=u.ch (.inl rfl)
 refine ⟨by rw [u.nx];exact w.lw,by rw [u.nx];exact w.lq,w.ne,fun _=>(w.rat hr).upd u Zd,fun e=>?_,fun s hs=>?_⟩
 ·have h1:=congrArg List.length e
  have h2:=r_lt hr
  simp only [List.length_set,List.length_nil] at h1
  omega
 ·rcases List.mem_or_eq_of_mem_set hs with h1 | rfl
  ·exact (w.ok s h1).keep ch
  ·exact hk.keep ch
theorem ROk.same {h:H} {rw q:Nat} {r r':RX} (a:ROk h rw q r) (h0:r'.v0=r.v0) (h1:r'.v1=r.v1) (hw:r'.vw=r.vw) (e0:r'.x.e0.ring=r.x.e0.ring) (e1:r'.x.e1.ring=r.x.e1.ring) (e2:r'.x.waiting=r.x.waiting):ROk h rw q r':=by
 refine ⟨fun k hk=>?_,by rw [hw,e2];exact a.w⟩
 have:=a.b k hk
 rcases hk with rfl | rfl
 ·simp only [RX.v,Wi.e] at this ⊢;rw [h0,e0];exact this
 ·simp only [RX.v,Wi.e] at this ⊢;rw [h1,e1];exact this
theorem ROk.came {h:H} {rw q k:Nat} {r:RX} (a:ROk h rw q r) (hk:k=0\/k=1) (i o:Bool):ROk h rw q (r.came k i o):=by
 rcases hk with rfl | rfl
 ·exact a.same rfl rfl rfl rfl rfl rfl
 ·exact a.same rfl rfl rfl rfl rfl rfl
section
variable {cl:Nat->Call} (hcl:Sem cl)
include hcl
end
section
variable {cl:Nat->Call} (hcl:Sem cl)
include hcl
end
def two (a b:Nat):Nat->Nat
 | 0=>a
 | _=>b
theorem Wi.reset_cell {x:Wi} {r0 r1:Nat} {wv:V} {o:Nat} (ho:o=14):(x.cells r0 r1 wv)[o]?=some (.bool x.reset):=by
 subst ho;simp [Wi.cells,En.cells]
theorem Wi.backlog_cell {x:Wi} {r0 r1:Nat} {wv:V} {o:Nat} (ho:o=15):(x.cells r0 r1 wv)[o]?=some (.i x.backlog):=by
 subst ho;simp [Wi.cells,En.cells]
theorem Wi.cells_length (x:Wi) (r0 r1:Nat) (wv:V):(x.cells r0 r1 wv).length=17:=by simp [Wi.cells,En.cells]
def Wi.setq (x:Wi) (k:Nat) (q:List UInt8):Wi:=x.put k { x.e k with ring:=some q }
theorem Wi.setq_cells {x:Wi} {r0 r1 k:Nat} {wv:V} {q q':List UInt8} (hk:k=0\/k=1) (hq:(x.e k).ring=some q):(x.setq k q').cells r0 r1 wv=x.cells r0 r1 wv:=by
 rcases hk with rfl | rfl
 ·have hq:x.e0.ring=some q:=hq
  simp [Wi.setq,Wi.put,Wi.e,Wi.cells,En.cells,hq,En.ptr]
 ·have hq:x.e1.ring=some q:=hq
  simp [Wi.setq,Wi.put,Wi.e,Wi.cells,En.cells,hq,En.ptr]
def Wi.take (x:Wi) (k m:Nat) (q:List UInt8):Wi:=(x.setq k (q.drop m)).came (1-k) false (decide (0<m))
def Wi.fill (x:Wi) (k m:Nat) (q l:List UInt8):Wi:=(x.setq (1-k) (q++l.take m)).came (1-k) (decide (0<m)) false
section
variable {cl:Nat->Call} (hcl:Sem cl)
include hcl
end
theorem VB.ofRow {h:H} {v:V} {q:List UInt8} {N:Nat} (r:Row N h 1 v q.length (bts q)):VB h v q /\ ∀ z,v.at?=some z->N<=z/\z<h.nx:=by
 refine ⟨?_,fun z hz=>r.at_ge hz⟩
 rcases r with ⟨h1,h2,rfl⟩ | ⟨b,h1,h2,rfl,h4,h5⟩
 ·have:q=[]:=by simpa using h1
  subst this;exact VB.nil h
 ·exact ⟨_,_,rfl,fun e=>by (cases e),rfl,fun _=>⟨b,0,_,false,rfl,h2,h4,fun i x hi=>by rw [Nat.zero_add];exact bts_get hi⟩⟩
section
variable {call:Call} {fuel base:Nat} {ops:List Ins} {keep:List Nat} {K:List Fr} {e:Env} {h:H} {Q:Post} {ix:Nat} {dst:Option Nat} {c:List (Nat × I × Option (Nat × Bool))}
end
def RX.putv (r:RX) (k:Nat) (v:V) (b:List UInt8):RX:=match k with
 | 0=>{ r with x:=r.x.setq 0 b,v0:=v }
 | _=>{ r with x:=r.x.setq 1 b,v1:=v }
theorem ROk.putv {h:H} {rw q k:Nat} {r:RX} {v:V} {b:List UInt8} (a:ROk h rw q r) (hk:k=0\/k=1) (hv:VB h v b) (hz : ∀ z,v.at?=some z->z≠q/\z≠rw/\z<h.nx):ROk h rw q (r.putv k v b):=by
 refine ⟨fun j hj=>?_,?_⟩
 ·have ha:=a.b j hj
  rcases hk with rfl | rfl<;>rcases hj with rfl | rfl
  ·exact ⟨hv,hz⟩
  ·exact ha
  ·exact ha
  ·exact ⟨hv,hz⟩
 ·rcases hk with rfl | rfl<;>exact a.w
def RX.take (r:RX) (k m:Nat) (b:List UInt8) (v:V):RX:=(r.putv k v (b.drop m)).came (1-k) false (decide (0<m))
def RX.fill (r:RX) (k m:Nat) (b l:List UInt8) (v:V):RX:=(r.putv (1-k) v (b++l.take m)).came (1-k) (decide (0<m)) false
section
variable {cl:Nat->Call} (hcl:Sem cl)
include hcl
end
theorem ROk.put {h:H} {rw q k:Nat} {r:RX} (a:ROk h rw q r) (hk:k=0\/k=1) {e:En} (he:e.ring=(r.x.e k).ring):ROk h rw q { r with x:=r.x.put k e } := by
 rcases hk with rfl | rfl
 ·exact a.same rfl rfl rfl he rfl rfl
 ·exact a.same rfl rfl rfl rfl he rfl
section
variable {cl:Nat->Call} (hcl:Sem cl)
include hcl
end
abbrev Ws:=List Wi
def AtW (ws:Ws) (n k:Nat) (fd:Int):Prop := ∃ x,ws[n]?=some x/\(k=0\/k=1)/\(x.e k).what=1/\(x.e k).fd=fd
def Uniq (ws:Ws):Prop := ∀ n k n' k' fd,AtW ws n k fd->AtW ws n' k' fd->n=n'/\k=k'
open Classical in
noncomputable def atS (ws:Ws) (fd:Int):Option (Nat × Nat):=if h : ∃ p:Nat × Nat,AtW ws p.1 p.2 fd then some h.choose else none
theorem jdr {ws:Ws} {n k:Nat} {fd:Int} (u:Uniq ws) (h:AtW ws n k fd):atS ws fd=some (n,k):=by
 unfold atS
 have hx : ∃ p:Nat × Nat,AtW ws p.1 p.2 fd:=⟨(n,k),h⟩
 rw [dif_pos hx]
 have:=u _ _ _ _ _ hx.choose_spec h
 congr 1
 exact Prod.ext this.1 this.2
theorem jds {ws:Ws} {fd:Int} (h : ∀ n k,¬ AtW ws n k fd):atS ws fd=none:=by
 unfold atS
 rw [dif_neg fun ⟨p,hp⟩=>h _ _ hp]
theorem jjV {ws:Ws} {n k:Nat} {fd:Int} (h:AtW ws n k fd) : ∃ x,ws[n]?=some x/\(k=0\/k=1):=by
 obtain ⟨x,h1,h2,_⟩:=h;exact ⟨x,h1,h2⟩
theorem map_set {l:List RX} {n:Nat} {r:RX} : (l.set n r).map RX.x=(l.map RX.x).set n r.x:=List.map_set
noncomputable def jcP {α : Type} (ws:Ws) (fd:Int) (no : α) (f:Nat->Nat->Wi -> α) : α := match atS ws fd with
 | none=>no
 | some (n,k)=>match ws[n]? with
  | none=>no
  | some x=>f n k x
theorem withFd_no {α : Type} {ws:Ws} {fd:Int} {no : α} {f:Nat->Nat->Wi -> α} (h : ∀ n k,¬ AtW ws n k fd):jcP ws fd no f=no:=by
 unfold jcP;rw [jds h]
theorem withFd_at {α : Type} {ws:Ws} {fd:Int} {no : α} {f:Nat->Nat->Wi -> α} {n k:Nat} {x:Wi} (u:Uniq ws) (h:AtW ws n k fd) (hx:ws[n]?=some x):jcP ws fd no f=f n k x:=by
 unfold jcP;rw [jdr u h];simp only [hx]
abbrev WhV (x:Wi):Prop:=(0<=x.e0.what/\x.e0.what<=3)/\0<=x.e1.what/\x.e1.what<=3
structure WiOk (x:Wi):Prop where
 cap0:1<=x.cap
 cap1:x.cap<=65536
 len : ∀ k,k=0\/k=1 -> ∀ q,(x.e k).ring=some q->q.length<=x.cap
 pair : ∀ k,k=0\/k=1->((x.e k).writes=true↔(x.e (1-k)).ring≠none)
 out:x.e1.what=2->x.e0.ring≠none/\x.e1.ring≠none
 bl:0<=x.backlog/\x.backlog<=64
 wh:WhV x
structure WsOk (ws:Ws):Prop where
 uniq:Uniq ws
 ok : ∀ x∈ws,WiOk x
 len:ws.length<=1000
 wait : ∀ x∈ws,x.waiting.length<=64 /\ ∀ m∈x.waiting,∃ y:Wi,0<=m/\ws[m.toNat]?=some y/\y.e0.what=0
theorem map_get {l:List RX} {n:Nat} {r:RX} (hr:l[n]?=some r):(l.map RX.x)[n]?=some r.x:=by simp [hr]
theorem WsOk.wi {l:List RX} {n:Nat} {r:RX} (o:WsOk (l.map RX.x)) (hr:l[n]?=some r):WiOk r.x:=o.ok _ (zb (map_get hr))
section
variable {cl:Nat->Call} (hcl:Sem cl)
include hcl
end
section
variable {cl:Nat->Call} (hcl:Sem cl)
include hcl
end
theorem Run.unroll {call:Call} {fuel n:Nat} {live:List Nat} {body:AC} {K:List Fr} {e:Env} {h:H} {Q:Post} (hf:fuel=n+1) (k:Run call fuel body (.loop live body n :: K) (e.only live) h Q):Run call fuel (.loop live body) K e h Q:=by
 obtain ⟨x,e1,h1,hd,x2,e2,h2,ha,hq⟩:=k
 have it:iter (D call fuel body) live fuel e h=match D call fuel body (e.only live) h with
  | some (.normal,e',h')=>iter (D call fuel body) live n e' h'
  | r=>r:=by rw [hf];rfl
 cases x<;>simp only [after] at ha
 ·split at ha
  ·next x3 e3 h3 hb=>exact ⟨x3,e3,h3,by simp only [D,it,hd,hb],x2,e2,h2,ha,hq⟩
  ·cases ha
 ·exact ⟨_,e1,h1,by simp only [D,it,hd],x2,e2,h2,ha,hq⟩
 ·exact ⟨_,e1,h1,by simp only [D,it,hd],x2,e2,h2,ha,hq⟩
theorem End.unroll {call:Call} {fuel n:Nat} {live:List Nat} {body:AC} {K:List Fr} {e:Env} {h:H} {Q:Post} (k:Run call fuel body (.loop live body n :: K) (e.only live) h Q):End call fuel (.loop live body (n+1) :: K) .normal e h Q:=by
 obtain ⟨x,e1,h1,hd,x2,e2,h2,ha,hq⟩:=k
 cases x<;>simp only [after] at ha
 ·split at ha
  ·next x3 e3 h3 hb=>exact ⟨x2,e2,h2,by simp only [after,iter,hd,hb,ha],hq⟩
  ·cases ha
 ·exact ⟨x2,e2,h2,by simp only [after,iter,hd,ha],hq⟩
 ·exact ⟨x2,e2,h2,by simp only [after,iter,hd,ha],hq⟩
theorem VI.cell {h:H} {l:List Int} {a:Option (Nat × Nat)} {c:Cap} {i:Nat} {x:Int} (hv:VI h (.slice a l.length c) l) (hi:l[i]?=some x) : ∃ b o cs ro,a=some (b,o)/\h.get b=some (.cells cs ro)/\cs[o+(i:Int).toNat*1]?=some (.i x):=by
 obtain ⟨a',c',e,_,_,g⟩:=hv
 cases e
 obtain ⟨b,o,cs,ro,rfl,h1,h2,h3⟩:=g (by rintro rfl;simp at hi)
 exact ⟨b,o,cs,ro,rfl,h2,by rw [show o+(i:Int).toNat*1=o+i by omega];exact h3 _ _ hi⟩
section
variable {cl:Nat->Call} (hcl:Sem cl)
include hcl
end
def RX.reset (r:RX):RX := { r with x := { r.x with reset:=true } }
section
variable {cl:Nat->Call} (hcl:Sem cl)
include hcl
end
structure WAt (h:H) (w:Nat) (wl:List V) (s wsb wn:Nat) (wcap:Cap) (wsl:List V):Prop where
 hw:h.get w=some (.cells wl false)
 hs:wl[0+289]?=some (.p s 0)
 hws:wl[0+288]?=some (.slice (some (wsb,0)) wn wcap)
 hb:h.get wsb=some (.cells wsl false)
theorem WAt.keep {h h':H} {w:Nat} {wl:List V} {s wsb wn:Nat} {wcap:Cap} {wsl:List V} (a:WAt h w wl s wsb wn wcap wsl) (h1:h'.get w=h.get w) (h2:h'.get wsb=h.get wsb):WAt h' w wl s wsb wn wcap wsl :=
 ⟨by rw [h1,a.hw],a.hs,a.hws,by rw [h2,a.hb]⟩
structure FdAt (wl wsl:List V) (wn fd n k wb:Nat):Prop where
 small:fd<=95
 op:wl[fd*3]?=some (.bool true)
 wi:wl[fd*3+1]?=some (.i (n:Int))
 en:wl[fd*3+2]?=some (.i (k:Int))
 lt:n<wn
 at_:wsl[n]?=some (.p wb 0)
 k01:k=0\/k=1
theorem jkp {l:List V} {o:Nat} {a b c:V} (h0:l[o]?=some a) (h1:l[o+1]?=some b) (h2:l[o+2]?=some c):(l.drop o).take 3=[a,b,c]:=by
 apply List.ext_getElem?
 intro i
 rw [List.getElem?_take,zk]
 match i with
 | 0=>simpa using h0
 | 1=>simpa using h1
 | 2=>simpa using h2
 | n+3=>
  have : ¬ n+3<3:=by omega
  rw [if_neg this];rfl
theorem len_of {l:List V} {o:Nat} {a:V} (h:l[o]?=some a):o<l.length:=by
 rcases zu o l.length with h1 | h1
 ·exact h1
 ·rw [zc h1] at h;cases h
theorem resN {e:Env} {h:H} {s n b o:Nat} {l:List V} {ro:Bool} {rs:List RV} {r:List V} (hs:e.get s=some (.ptr (some (b,o)))) (hl:h.get b=some (.cells l ro)) (hn:o+n<=l.length) (hr:jb0 e h rs=some r) :
  jb0 e h (.cellN s n :: rs)=some (.agg ((l.drop o).take n) :: r):=by simp only [jb0,hs,jdB hl hn,hr]
section
variable {cl:Nat->Call} (hcl:Sem cl)
include hcl
theorem jiD {d b s:Nat} {h:H} {l:List V} {ro:Bool} (hd:1<=d) (hb:h.get b=some (.cells l ro)) (hs:l[0+289]?=some (.p s 0)):cl d (.fn F.jbB) [.p b 0] h=some (.bool false,h):=by
 refine jar (at_ hcl om rfl rfl rfl ?_)
 refine qx1 ?_
 exact ⟨rfl,rfl⟩
theorem wp_find {d w s wsb wn fd n k wb:Nat} {h:H} {wl wsl:List V} {wcap:Cap} (hd:2<=d) (A:WAt h w wl s wsb wn wcap wsl) (B:FdAt wl wsl wn fd n k wb) (l1:w<h.nx) (l2:wsb<h.nx) :
  ∃ h',cl d (.fn F.jaD) [.p w 0,.i (fd:Int)] h=some (.tup [.agg [.bool true,.i (n:Int),.i (k:Int)],.p wb 0,.i 0],h')/\Ch (fun _=>False) h h'/\h'.nx=h.nx+1:=by
 obtain ⟨hw,hs,hws,hb⟩:=A
 obtain ⟨f1,f2,f3,f4,f5,f6,f7⟩:=B
 refine jbp (at_ hcl om rfl rfl rfl ?_)
 refine qo1 ?_
 refine Ops.make rfl rfl ?_
 have hw1:=(jad (h:=h) (o := .cells [.bool false,.i 0,.i 0] false) l1).trans hw
 have hb1:=(jad (h:=h) (o := .cells [.bool false,.i 0,.i 0] false) l2).trans hb
 have hn:=jiD hcl (d:=d-1) om hw1 hs
 have f2':wl[0+0+(fd:Int).toNat*3+0]?=some (.bool true):=by rw [show 0+0+(fd:Int).toNat*3+0=fd*3 by omega];exact f2
 have f3':wl[0+0+(fd:Int).toNat*3+1]?=some (.i (n:Int)):=by rw [show 0+0+(fd:Int).toNat*3+1=fd*3+1 by omega];exact f3
 have f6':wsl[0+(n:Int).toNat*1]?=some (.p wb 0):=by rw [show 0+(n:Int).toNat*1=n by omega];exact f6
 have h3:=jkp f2 f3 f4
 have hlen:=len_of f4
 refine qx1 ?_
 refine Ops.loadN rfl hw1 om ?_
 rw [show 0+0+(fd:Int).toNat*3=fd*3 by omega,h3]
 have f3'':wl[fd*3+1]?=some (.i (n:Int)):=f3
 refine qx1 ?_
 have hw2:((h.new (.cells [.bool false,.i 0,.i 0] false)).set h.nx (.cells (ja2 [.bool false,.i 0,.i 0] 0 [.bool true,.i (n:Int),.i (k:Int)]) false)).get w=some (.cells wl false):=by rw [jaa om,hw1]
 have hb2:((h.new (.cells [.bool false,.i 0,.i 0] false)).set h.nx (.cells (ja2 [.bool false,.i 0,.i 0] 0 [.bool true,.i (n:Int),.i (k:Int)]) false)).get wsb=some (.cells wsl false):=by rw [jaa om,hb1]
 refine Ops.storeN_chk rfl rfl rfl rfl (jae _) (zq rfl) (jcz rfl hw2 hws rfl (jcz rfl hw2 f3' rfl (jcz rfl hb2 f6' rfl jgQ))) ?_
 refine qx1 ?_
 refine zcf (resN rfl (jab _) (zq rfl) rfl) ?_
 exact ⟨rfl,⟨by simp,fun j hj _=>by rw [jaa om,jad hj]⟩,rfl⟩
end
def Wi.rIn (x:Wi) (k:Nat):Bool:=match (x.e k).ring with
 | none=>false
 | some q=>!q.isEmpty||(x.e (1-k)).what == 3||(x.e (1-k)).shut||x.reset
def Wi.rOut (x:Wi) (k:Nat):Bool:=(x.e k).writes && !(x.e k).shut&&(decide ((((x.e (1-k)).ring.getD []).length:Int)<x.cap)||(x.e (1-k)).what == 3||x.reset)
def Wi.ready (x:Wi) (k:Nat):List V :=
 if 0<x.backlog then [.bool true,.bool (!x.waiting.isEmpty),.bool false,.bool false,.bool false,.int .u64 (x.e k).inn,.int .u64 (x.e k).out]
 else [.bool true,.bool (x.rIn k),.bool (x.rOut k),.bool ((x.e (1-k)).what == 3),.bool x.reset,.int .u64 (x.e k).inn,.int .u64 (x.e k).out]
def jjf:List V:=[.bool false,.bool false,.bool false,.bool false,.bool false,.int .u64 0,.int .u64 0]
noncomputable def jew (ws:Ws) (fd:Int):List V:=jcP ws fd jjf fun _ k x=>x.ready k
theorem jcb {call:Call} {fuel s n b:Nat} {e:Env} {h:H} {R:V->H->Prop} {l:List V} (hs:e.get s=some (.ptr (some (b,0)))) (hl:h.get b=some (.cells l false)) (hn:l.length=n) (k:R (.agg l) h) :
  End call fuel [] .ret e h (Fin [.cellN s n] R):=by
 refine End.fin1 (resN hs hl om rfl) ?_
 rw [zi,zf om];exact k
section
variable {cl:Nat->Call} (hcl:Sem cl)
include hcl
abbrev jcZ:Obj := .cells [.bool false,.bool false,.bool false,.bool false,.bool false,.int .u64 0,.int .u64 0] false
end
section
variable {cl:Nat->Call} (hcl:Sem cl)
include hcl
end
theorem RX.cells_one {r:RX} (h0:r.v0.one=true) (h1:r.v1.one=true) (hw:r.vw.one=true):r.cells.all V.one=true:=by
 obtain ⟨⟨e0,e1,cap,rs,bl,wt⟩,v0,v1,vw⟩:=r
 simp only at h0 h1 hw
 simp only [RX.cells,En.rcells,List.cons_append,List.nil_append,List.all_cons,List.all_nil,h0,h1,hw]
 rfl
theorem Run.fin_mono {call:Call} {fuel:Nat} {c:AC} {res:List RV} {e:Env} {h:H} {R R':V->H->Prop} (k:Run call fuel c [] e h (Fin res R)) (hR : ∀ v h',R v h'->R' v h'):Run call fuel c [] e h (Fin res R'):=by
 obtain ⟨x',e',h',hd',x2,e2,h2,ha,⟨⟨p1,l,p2,p3⟩⟩⟩:=k
 exact ⟨x',e',h',hd',x2,e2,h2,ha,⟨⟨p1,l,p2,hR _ _ p3⟩⟩⟩
section
variable {cl:Nat->Call} (hcl:Sem cl)
include hcl
end
def sgc (hd:Nat->Bool) (pd:Nat->Int):List V:=tab 32 (fun k=>.bool (hd k))++tab 32 (fun k=>.i (pd k))
abbrev sig? (s:Int):Prop:=1<=s/\s<=31
structure Tb where
 hd:Nat->Bool
 pd:Nat->Int
def Tb.obj (t:Tb):Obj := .cells (sgc t.hd t.pd) false
def Tb.zero:Tb:=⟨fun _=>false,fun _=>0⟩
def Tb.has (t:Tb) (s:Int):Bool:=decide (sig? s)&&t.hd s.toNat
theorem jhG:List.replicate 32 (V.bool false)++List.replicate 32 (V.i 0)=sgc (fun _=>false) (fun _=>0):=by
 rw [jcd,jcd];rfl
theorem sp_new {cl:Nat->Call} (hcl:Sem cl) {d:Nat} (hd:1<=d) (h:H):cl d (.fn F.sigs_New) [] h=some (.p h.nx 0,h.new Tb.zero.obj):=by
 refine jar (at_ hcl om rfl rfl rfl ?_)
 refine qo1 ?_
 refine Ops.make rfl rfl ?_
 refine qo1 ?_
 exact ⟨rfl,by rw [Tb.obj,Tb.zero,<- jhG];rfl⟩
def Tb.ok (t:Tb) (n:Int):Prop := ∀ k,0<=t.pd k/\t.pd k<=n
abbrev ints (l:List Int):List V:=l.map V.i
def Tb.take (t:Tb):Tb:=⟨t.hd,fun j=>if 1<=j/\j<32 then 0 else t.pd j⟩
def Old (h h':H):Prop:=h.nx<=h'.nx /\ ∀ j,j<h.nx->h'.get j=h.get j
theorem Old.refl (h:H):Old h h:=⟨zn _,fun _ _=>rfl⟩
theorem Old.trans {h h1 h2:H} (a:Old h h1) (b:Old h1 h2):Old h h2:=⟨zx a.1 b.1,fun j hj=>by rw [b.2 j (zp hj a.1),a.2 j hj]⟩
theorem Old.ch {h h':H} {B:Nat->Prop} (a:Old h h'):Ch B h h':=⟨a.1,fun j hj _=>a.2 j hj⟩
theorem RW.old {h h':H} {rw q:Nat} {l:List RX} {tl:List V} (w:RW h rw q l tl) (a:Old h h'):RW h' rw q l tl :=
 ⟨zp w.lw a.1,zp w.lq a.1,w.ne,fun hl=>⟨by rw [a.2 _ w.lw,(w.at_ hl).hw],by rw [a.2 _ w.lq,(w.at_ hl).hq],w.ne⟩,fun hl=>by rw [a.2 _ w.lw,w.nil hl],fun s hs=>(w.ok s hs).keep a.ch⟩
noncomputable def jan (ws:Ws) (n:Nat):List Int:=((List.range n).filter fun i:Nat=>(atS ws (i:Int)).isNone).map fun i:Nat=>(i:Int)
theorem jcK (ws:Ws) (n:Nat):jan ws (n+1)=jan ws n++if (atS ws (n:Int)).isNone then [(n:Int)] else []:=by
 unfold jan
 rw [List.range_succ,List.filter_append,List.map_append]
 congr 1
 by_cases h:(atS ws (n:Int)).isNone<;>simp [h]
theorem freeL_len (ws:Ws) (n:Nat):(jan ws n).length<=n:=by
 unfold jan
 rw [List.length_map]
 exact zx (List.length_filter_le _ _) Zd
theorem VI.ofRow {h:H} {v:V} {l:List Int} {N:Nat} (r:Row N h 1 v l.length (ints l)):VI h v l /\ ∀ z,v.at?=some z->N<=z/\z<h.nx:=by
 refine ⟨?_,fun z hz=>r.at_ge hz⟩
 rcases r with ⟨h1,h2,rfl⟩ | ⟨b,h1,h2,rfl,h4,h5⟩
 ·have:l=[]:=by simpa using h1
  subst this;exact VI.nil h
 ·exact ⟨_,_,rfl,fun e=>by (cases e),rfl,fun _=>⟨b,0,_,false,rfl,h2,h4,fun i x hi=>by rw [Nat.zero_add,List.getElem?_map,hi];rfl⟩⟩
section
variable {cl:Nat->Call} (hcl:Sem cl)
include hcl
end
section
variable {call:Call} {fuel base:Nat} {ops:List Ins} {keep:List Nat} {K:List Fr} {e:Env} {h:H} {Q:Post} {ix:Nat} {dst at_:Option Nat}
end
section
variable {cl:Nat->Call} (hcl:Sem cl)
include hcl
end
section
variable {call:Call} {fuel base:Nat} {ops:List Ins} {keep:List Nat} {K:List Fr} {e:Env} {h:H} {Q:Post} {ix:Nat} {dst:Option Nat}
end
theorem RW.row {h:H} {rw q:Nat} {l:List RX} {tl:List V} (w:RW h rw q l tl) : ∃ v,h.get rw=some (.cells (v :: tl) false)/\Row 0 h 20 v l.length (rows l)/\(∀ z,v.at?=some z->z=q)/\v.one=true:=by
 by_cases hl:l=[]
 ·subst hl;exact ⟨.nils,w.nil rfl,Row.nil _ _ _,fun z hz=>by (cases hz),rfl⟩
 ·have a:=w.at_ hl
  exact ⟨_,a.hw,.inr ⟨q,by omega,w.lq,rfl,a.hq,jgv l⟩,fun z hz=>by cases hz;rfl,rfl⟩
def RX.fresh (x:Wi):RX:=⟨x,.nils,.nils,.nils⟩
structure Fresh (x:Wi):Prop where
 r0:x.e0.ring.getD []=[]
 r1:x.e1.ring.getD []=[]
 wt:x.waiting=[]
theorem ROk.fresh {h:H} {rw q:Nat} {x:Wi} (f:Fresh x):ROk h rw q (RX.fresh x):=by
 refine ⟨fun k hk=>?_,by rw [show (RX.fresh x).x.waiting=[] from f.wt];exact VI.nil h,fun z hz=>by cases hz⟩
 rcases hk with rfl | rfl
 ·exact ⟨by rw [show ((RX.fresh x).x.e 0).ring.getD []=[] from f.r0];exact VB.nil h,fun z hz=>by cases hz⟩
 ·exact ⟨by rw [show ((RX.fresh x).x.e 1).ring.getD []=[] from f.r1];exact VB.nil h,fun z hz=>by cases hz⟩
theorem RW.push {h h1:H} {rw q q':Nat} {l:List RX} {tl:List V} {x:Wi} (w:RW h rw q l tl) (f:Fresh x) (hrow:h1.get q'=some (.cells (rows l++(RX.fresh x).cells) false)) (hn:h.nx<=q') (hx:q'<h1.nx)
  (hk : ∀ j,j<h.nx->j≠q->h1.get j=h.get j) :
  RW (h1.set rw (.cells (.slice (some (q',0)) (l.length+1) (.grow 20) :: tl) false)) rw q' (l++[RX.fresh x]) tl/\Ch (RC rw q) h (h1.set rw (.cells (.slice (some (q',0)) (l.length+1) (.grow 20) :: tl) false)):=by
 have lw:=w.lw
 have lq:=w.lq
 have ch:Ch (RC rw q) h (h1.set rw (.cells (.slice (some (q',0)) (l.length+1) (.grow 20) :: tl) false)) :=
  ⟨by show h.nx<=h1.nx;omega,fun j hj hn=>by rw [jaa (fun e=>hn (.inr e)),hk j hj (fun e=>hn (.inl e))]⟩
 refine ⟨⟨by show rw<h1.nx;omega,by show q'<h1.nx;omega,by omega,fun _=>⟨by rw [jab];simp,by rw [jaa om,hrow,jgw];simp [rows],by omega⟩,fun e=>by simp at e,fun s hs=>?_⟩,ch⟩
 rcases List.mem_append.1 hs with h2 | h2
 ·have a:=w.ok s h2
  have b:=a.keep ch
  refine ⟨fun k hk=>⟨(b.b k hk).1,fun z hz=>?_⟩,b.w.1,fun z hz=>?_⟩
  ·have p:=(a.b k hk).2 z hz
   exact ⟨by omega,p.2.1,by show z<h1.nx;omega⟩
  ·have p:=a.w.2 z hz
   exact ⟨by omega,p.2.1,by show z<h1.nx;omega⟩
 ·obtain rfl:s=RX.fresh x:=by simpa using h2
  exact ROk.fresh f
section
variable {cl:Nat->Call} (hcl:Sem cl)
include hcl
end
def newW (kind n f0 f1:Int):Wi :=
 if kind=0 then ⟨⟨1,f0,some [],false,false,0,0⟩,⟨1,f1,none,true,false,0,0⟩,n.toNat,false,0,[]⟩
 else if kind=1 then ⟨⟨1,f0,some [],true,false,0,0⟩,⟨1,f1,some [],true,false,0,0⟩,n.toNat,false,0,[]⟩
 else if kind=2 then ⟨⟨1,f0,some [],true,false,0,0⟩,⟨2,0,some [],true,false,0,0⟩,n.toNat,false,0,[]⟩
 else ⟨⟨1,f0,none,false,false,0,0⟩,⟨0,0,none,false,false,0,0⟩,n.toNat,false,n,[]⟩
noncomputable def jaS (ws:Ws) (kind n:Int):(List Int × Int) × Ws :=
 if n<1\/65536<n\/(kind=3/\64<n) then (([],2),ws)
 else match jan ws 96 with
  | []=>(([],112),ws)
  | f0 :: fs=>if (fs=[]/\kind<2)\/1000<=ws.length then (([],112),ws)
   else (((f0 :: fs).take (if kind<2 then 2 else 1),0),ws++[newW kind n f0 (fs.headD 0)])
theorem Old.new {h h1:H} {o:Obj} (a:Old h h1):Old h (h1.new o):=a.trans ⟨by simp,fun _ hj=>jad hj⟩
theorem Old.set {h h1:H} {o:Obj} {b:Nat} (a:Old h h1) (hb:h.nx<=b):Old h (h1.set b o):=⟨a.1,fun j hj=>by rw [jaa om,a.2 j hj]⟩
theorem Run.opqh {call:Call} {fuel:Nat} {c:AC} {K:List Fr} {e:Env} {h:H} {Q:Post} (k : ∀ G,G=h->Run call fuel c K e G Q):Run call fuel c K e h Q:=k h rfl
section
variable {cl:Nat->Call} (hcl:Sem cl)
include hcl
end
section
variable {call:Call} {fuel base:Nat} {ops:List Ins} {keep:List Nat} {K:List Fr} {e:Env} {h:H} {Q:Post} {ix:Nat} {dst:Option Nat} {c:List (Nat × I × Option (Nat × Bool))}
end
section
variable {cl:Nat->Call} (hcl:Sem cl)
include hcl
end
section
variable {cl:Nat->Call} (hcl:Sem cl)
include hcl
end
def tail (now:Int) (hd:Nat->Bool) (ct:Nat->Int) (no si:Int):List V :=
 .int .u64 now :: (tab 32 (fun i=>.bool (hd i))++(tab 32 (fun i=>.i (ct i))++[.i no,.i si]))
section
variable {v:V} {now no si:Int} {hd:Nat->Bool} {ct:Nat->Int}
end
theorem RW.tl {h:H} {rw q:Nat} {l:List RX} {tl tl':List V} {v:V} (w:RW h rw q l tl) (hv:h.get rw=some (.cells (v :: tl) false)):RW (h.set rw (.cells (v :: tl') false)) rw q l tl':=by
 have ch:Ch (RC rw q) h (h.set rw (.cells (v :: tl') false)):=Ch.set (.inr rfl)
 refine ⟨w.lw,w.lq,w.ne,fun hl=>?_,fun hl=>?_,fun s hs=>(w.ok s hs).keep ch⟩
 ·have a:=w.at_ hl
  rw [a.hw] at hv
  cases hv
  exact ⟨by rw [jab],by rw [jaa w.ne.symm,a.hq],w.ne⟩
 ·have a:=w.nil hl
  rw [a] at hv
  cases hv
  rw [jab]
section
variable {cl:Nat->Call} (hcl:Sem cl)
include hcl
end
def NtOk (ws:Ws) (no si:Int):Prop:=no = -1 \/ ∃ (n k:Nat) (x:Wi),no=n/\si=k/\(k=0\/k=1)/\ws[n]?=some x/\x.e0.ring≠none/\x.e1.ring≠none
section
variable {cl:Nat->Call} (hcl:Sem cl)
include hcl
end
def put1 {α : Type} (f:Nat -> α) (s:Nat) (v : α):Nat -> α := fun i=>if i=s then v else f i
section
variable {v:V} {now no si:Int} {hd:Nat->Bool} {ct:Nat->Int}
end
def isSig (s:Int):Prop:=1<=s/\s<=31
instance (s:Int):Decidable (isSig s):=inferInstanceAs (Decidable (_/\_))
section
variable {cl:Nat->Call} (hcl:Sem cl)
include hcl
end
section
variable {cl:Nat->Call} (hcl:Sem cl)
include hcl
end
section
variable {cl:Nat->Call} (hcl:Sem cl)
include hcl
end
def pc:Option (Nat × Nat)->Nat->V
 | none,0=>.bool false
 | none,_=>.i 0
 | some _,0=>.bool true
 | some p,1=>.i (p.1:Int)
 | some p,_=>.i (p.2:Int)
def plc (p:Option (Nat × Nat)):List V:=[pc p 0,pc p 1,pc p 2]
def jbF (f:Nat->Option (Nat × Nat)):List V:=tab 288 fun j=>pc (f (j/3)) (j%3)
theorem jax (f:Nat->Option (Nat × Nat)):(jbF f).length=288:=by simp [jbF]
theorem jcu {f:Nat->Option (Nat × Nat)} {i j o:Nat} (hi:i<96) (hj:j<3) (ho:o=i*3+j):(jbF f)[o]?=some (pc (f i) j):=by
 subst ho
 unfold jbF
 rw [jhJ om,show (i*3+j)/3=i by omega,show (i*3+j)%3=j by omega]
theorem fdTab_set {f g:Nat->Option (Nat × Nat)} {i o:Nat} {p:Option (Nat × Nat)} (hi:i<96) (ho:o=i*3) (hg : ∀ j,j<96->g j=if j=i then p else f j):ja2 (jbF f) o (plc p)=jbF g:=by
 subst ho
 show (((jbF f).set (i*3) (pc p 0)).set (i*3+1) (pc p 1)).set (i*3+1+1) (pc p 2)=_
 unfold jbF
 rw [jdw,jdw,jdw]
 refine jce fun j hj=>?_
 rw [hg (j/3) om]
 by_cases h2:j=i*3+1+1
 ·subst h2
  rw [if_pos rfl,if_pos om,show (i*3+1+1)%3=2 by omega]
 rw [if_neg h2]
 by_cases h1:j=i*3+1
 ·subst h1
  rw [if_pos rfl,if_pos om,show (i*3+1)%3=1 by omega]
 rw [if_neg h1]
 by_cases h0:j=i*3
 ·subst h0
  rw [if_pos rfl,if_pos om,show (i*3)%3=0 by omega]
 rw [if_neg h0,if_neg om]
theorem jgO {f g:Nat->Option (Nat × Nat)} (h : ∀ j,j<96->f j=g j):jbF f=jbF g:=jce fun j hj=>by rw [h (j/3) om]
def wc (f:Nat->Option (Nat × Nat)) (wv:V) (s:Nat) (now:Int) (no:Option (Nat × Nat)):List V:=jbF f++([wv,.p s 0,.int .u64 now]++plc no)
section
variable {f:Nat->Option (Nat × Nat)} {wv:V} {s o:Nat} {now:Int} {no:Option (Nat × Nat)}
theorem jbG:(wc f wv s now no).length=294:=by simp [wc,jax,plc]
theorem jko {i j:Nat} (hi:i<96) (hj:j<3) (ho:o=i*3+j):(wc f wv s now no)[o]?=some (pc (f i) j):=by
 unfold wc
 rw [zd,if_pos (by rw [jax];omega),jcu hi hj ho]
theorem jkn {j:Nat} (ho:o=288+j):(wc f wv s now no)[o]?=([wv,.p s 0,.int .u64 now]++plc no)[j]?:=by
 subst ho
 unfold wc
 rw [zd,if_neg (by rw [jax];omega),jax,Nat.add_sub_cancel_left]
theorem jcc (ho:o=288):(wc f wv s now no)[o]?=some wv:=jkn (j:=0) ho
theorem jiE (ho:o=289):(wc f wv s now no)[o]?=some (.p s 0):=jkn (j:=1) ho
theorem wc_set {o:Nat} {j:Nat} {v:V} (ho:o=288+j):(wc f wv s now no).set o v=jbF f++(([wv,.p s 0,.int .u64 now]++plc no).set j v):=by
 subst ho
 unfold wc
 rw [List.set_append,if_neg (by rw [jax];omega),jax,Nat.add_sub_cancel_left]
theorem jfz {v:V} (ho:o=288):(wc f wv s now no).set o v=wc f v s now no:=by rw [wc_set (j:=0) ho];rfl
theorem jdc {a b vs:List V} {o:Nat} (h:o+vs.length<=a.length):ja2 (a++b) o vs=ja2 a o vs++b:=by
 induction vs generalizing a o with
 | nil=>rfl
 | cons v r ih=>
  have h':o+(r.length+1)<=a.length:=h
  rw [jdz,jdz,List.set_append,if_pos om,ih Zc]
theorem jdv {g:Nat->Option (Nat × Nat)} {i:Nat} {p:Option (Nat × Nat)} (hi:i<96) (ho:o=i*3) (hg : ∀ j,j<96->g j=if j=i then p else f j):ja2 (wc f wv s now no) o (plc p)=wc g wv s now no:=by
 unfold wc
 rw [jdc (by rw [jax];show o+3<=_;omega),fdTab_set hi ho hg]
end
structure WX where
 x:Wi
 wb:Nat
 r0:Nat
 b0:Nat
 r1:Nat
 b1:Nat
 wv:V
def WX.r (t:WX):Nat->Nat:=two t.r0 t.r1
def WX.b (t:WX):Nat->Nat:=two t.b0 t.b1
theorem VI.keep2 {h h':H} {v:V} {l:List Int} (a:VI h v l) (hx:h.nx<=h'.nx) (hk:l≠[] -> ∀ z,v.at?=some z->h'.get z=h.get z):VI h' v l:=by
 obtain ⟨a,c,rfl,n,f,g⟩:=a
 refine ⟨a,c,rfl,n,f,fun hl=>?_⟩
 obtain ⟨b,o,cs,ro,rfl,h1,h2,h3⟩:=g hl
 exact ⟨b,o,cs,ro,rfl,by omega,by rw [hk hl b rfl,h2],h3⟩
structure XOk (h:H) (ow:Nat->Nat) (n:Nat) (t:WX):Prop where
 hx:h.get t.wb=some (t.x.obj t.r0 t.r1 t.wv)
 ox:ow t.wb=10*n+10
 lx:t.wb<h.nx
 ring : ∀ k,k=0\/k=1 -> ∀ q,(t.x.e k).ring=some q->jaG h (t.r k) (t.b k) q t.x.cap/\ow (t.r k)=10*n+11+2*k/\ow (t.b k)=10*n+12+2*k/\t.r k<h.nx/\t.b k<h.nx
 wait:VI h t.wv t.x.waiting/\(t.x.waiting≠[] -> ∀ z,t.wv.at?=some z->ow z=10*n+15/\z<h.nx)
theorem XOk.keep {h h':H} {ow:Nat->Nat} {n:Nat} {t:WX} (a:XOk h ow n t) (hx:h.nx<=h'.nx) (hk : ∀ j,10*n+10<=ow j->ow j<=10*n+19->h'.get j=h.get j):XOk h' ow n t:=by
 refine ⟨by rw [hk _ (by rw [a.ox];omega) (by rw [a.ox];omega),a.hx],a.ox,zp a.lx hx,fun k h01 q hq=>?_,?_⟩
 ·obtain ⟨p1,p2,p3,p4,p5⟩:=a.ring k h01 q hq
  refine ⟨p1.keep (hk _ ?_ ?_) (hk _ ?_ ?_),p2,p3,zp p4 hx,zp p5 hx⟩<;>omega
 ·refine ⟨a.wait.1.keep2 hx fun hl z hz=>?_,fun hl z hz=>⟨(a.wait.2 hl z hz).1,zp (a.wait.2 hl z hz).2 hx⟩⟩
  have:=(a.wait.2 hl z hz).1
  exact hk z om om
theorem XOk.tag {h:H} {ow ow':Nat->Nat} {n:Nat} {t:WX} (a:XOk h ow n t) (hk : ∀ j,j<h.nx->ow' j=ow j):XOk h ow' n t:=by
 refine ⟨a.hx,by rw [hk _ a.lx,a.ox],a.lx,fun k h01 q hq=>?_,a.wait.1,fun hl z hz=>?_⟩
 ·obtain ⟨p1,p2,p3,p4,p5⟩:=a.ring k h01 q hq
  exact ⟨p1,by rw [hk _ p4,p2],by rw [hk _ p5,p3],p4,p5⟩
 ·obtain ⟨p1,p2⟩:=a.wait.2 hl z hz
  exact ⟨by rw [hk _ p2,p1],p2⟩
abbrev wxs (l:List WX):Ws:=l.map WX.x
abbrev wps (l:List WX):List V:=l.map fun t=>.p t.wb 0
structure WF (h:H) (w s:Nat) (ow:Nat->Nat) (f:Nat->Option (Nat × Nat)) (l:List WX) (now:Int) (t:Tb) (no:Option (Nat × Nat)):Prop where
 hw : ∃ wv,h.get w=some (.cells (wc f wv s now no) false)/\Row 0 h 1 wv l.length (wps l) /\ ∀ z,wv.at?=some z->ow z=2
 hs:h.get s=some t.obj
 tw:ow w=1
 ts:ow s=3
 lw:w<h.nx
 ls:s<h.nx
 top : ∀ j,h.nx<=j->ow j=0
 ok : ∀ n t,l[n]?=some t->XOk h ow n t
section
variable {h h':H} {w s:Nat} {ow:Nat->Nat} {f:Nat->Option (Nat × Nat)} {l:List WX} {now:Int} {t tb:Tb} {no:Option (Nat × Nat)}
theorem WF.keep (a:WF h w s ow f l now t no) (hx:h.nx<=h'.nx) (hk : ∀ j,ow j≠0->h'.get j=h.get j):WF h' w s ow f l now t no:=by
 obtain ⟨wv,p1,p2,p3⟩:=a.hw
 exact ⟨⟨wv,by rw [hk w (by rw [a.tw];omega),p1],p2.keep hx fun z hz=>hk z (by rw [p3 z hz];omega),p3⟩,by rw [hk s (by rw [a.ts];omega),a.hs],a.tw,a.ts,zp a.lw hx,zp a.ls hx,
  fun j hj=>a.top j (zx hx hj),fun n t ht=>(a.ok n t ht).keep hx fun j h1 _=>hk j om⟩
theorem WF.lt_of (a:WF h w s ow f l now t no) {j:Nat} (hj:ow j≠0):j<h.nx:=by
 rcases zu j h.nx with h1 | h1
 ·exact h1
 ·exact absurd (a.top j h1) hj
theorem WF.old (a:WF h w s ow f l now t no) (o:Old h h'):WF h' w s ow f l now t no:=a.keep o.1 fun j hj=>o.2 j (a.lt_of hj)
theorem WF.congr {g:Nat->Option (Nat × Nat)} (a:WF h w s ow f l now t no) (e : ∀ j,j<96->g j=f j):WF h w s ow g l now t no:=by
 obtain ⟨wv,p1,p2,p3⟩:=a.hw
 refine ⟨⟨wv,?_,p2,p3⟩,a.hs,a.tw,a.ts,a.lw,a.ls,a.top,a.ok⟩
 rw [p1];unfold wc;rw [jgO e]
theorem WF.head (a:WF h w s ow f l now t no) : ∃ sa c,h.get w=some (.cells (wc f (.slice sa l.length c) s now no) false)/\(l≠[] -> ∃ z,sa=some (z,0)/\z<h.nx/\ow z=2/\h.get z=some (.cells (wps l) false)):=by
 obtain ⟨wv,p1,p2,p3⟩:=a.hw
 rcases p2 with ⟨h1,h2,rfl⟩ | ⟨z,h1,h2,rfl,h4,h5⟩
 ·refine ⟨none,.fix 0,by rw [p1,h1],fun hl=>absurd (zl.1 h1) hl⟩
 ·exact ⟨_,_,p1,fun _=>⟨z,rfl,h2,p3 z rfl,h4⟩⟩
end
theorem jhy {l:List WX} {n:Nat} {t:WX} (h:l[n]?=some t):(wxs l)[n]?=some t.x:=by simp [h]
theorem get_mapx {l:List WX} {n:Nat} {x:Wi} (h:(wxs l)[n]?=some x) : ∃ t,l[n]?=some t/\t.x=x:=by
 rw [List.getElem?_map] at h
 cases hr:l[n]? with
 | none=>rw [hr] at h;cases h
 | some r=>rw [hr] at h;cases h;exact ⟨r,rfl,rfl⟩
theorem x_lt {l:List WX} {n:Nat} {t:WX} (hr:l[n]?=some t):n<l.length:=by
 rcases zu n l.length with h | h
 ·exact h
 ·rw [zc h] at hr;cases hr
theorem set_wps {l:List WX} {n:Nat} {t t':WX} (ht:l[n]?=some t) (hb:t'.wb=t.wb):wps (l.set n t')=wps l:=by
 apply List.ext_getElem?
 intro i
 rw [List.getElem?_map,List.getElem?_map,zg]
 by_cases e:n=i
 ·subst e;rw [if_pos rfl,if_pos (x_lt ht),ht];simp [hb]
 ·rw [if_neg e]
theorem jiC {l:List WX} {n:Nat} {t:WX} : wxs (l.set n t)=(wxs l).set n t.x:=List.map_set
section
variable {h h':H} {w s:Nat} {ow:Nat->Nat} {f:Nat->Option (Nat × Nat)} {l:List WX} {now:Int} {tb:Tb} {no:Option (Nat × Nat)}
theorem WF.turn (a:WF h w s ow f l now tb no) {n:Nat} {t t':WX} (ht:l[n]?=some t) (hx:h.nx<=h'.nx) (hk : ∀ j,ow j≠0 -> ¬ (10*n+10<=ow j/\ow j<=10*n+19)->h'.get j=h.get j) (ok:XOk h' ow n t') (hb:t'.wb=t.wb):WF h' w s ow f (l.set n t') now tb no:=by
 obtain ⟨wv,p1,p2,p3⟩:=a.hw
 refine ⟨⟨wv,by rw [hk w (by rw [a.tw];omega) (by rw [a.tw];omega),p1],?_,p3⟩,by rw [hk s (by rw [a.ts];omega) (by rw [a.ts];omega),a.hs],a.tw,a.ts,zp a.lw hx,zp a.ls hx,fun j hj=>a.top j (zx hx hj),fun m t2 ht2=>?_⟩
 ·rw [List.length_set,set_wps ht hb]
  exact p2.keep hx fun z hz=>hk z (by rw [p3 z hz];omega) (by rw [p3 z hz];omega)
 ·rw [zg] at ht2
  by_cases e:n=m
  ·subst e
   rw [if_pos rfl,if_pos (x_lt ht)] at ht2
   cases ht2
   exact ok
  ·rw [if_neg e] at ht2
   exact (a.ok m t2 ht2).keep hx fun j h1 h2=>hk j om om
theorem WF.step (a:WF h w s ow f l now tb no) {n:Nat} {t:WX} {x':Wi} {B:Nat->Prop} (ht:l[n]?=some t) (ch:Ch B h h') (hB : ∀ j,j<h.nx->B j->10*n+10<=ow j/\ow j<=10*n+14) (ho:h'.get t.wb=some (x'.obj t.r0 t.r1 t.wv)) (hwt:x'.waiting=t.x.waiting)
  (hr : ∀ k,k=0\/k=1 -> ∀ q',(x'.e k).ring=some q' -> ∃ q,(t.x.e k).ring=some q/\jaG h' (t.r k) (t.b k) q' x'.cap):WF h' w s ow f (l.set n { t with x:=x' }) now tb no:=by
 have k:=a.ok n t ht
 have hg : ∀ j,ow j≠0 -> ¬ (10*n+10<=ow j/\ow j<=10*n+14)->h'.get j=h.get j:=fun j hj hn=>ch.get j (a.lt_of hj) fun hb=>hn (hB j (a.lt_of hj) hb)
 refine a.turn ht ch.nx (fun j hj hn=>hg j hj fun ⟨e1,e2⟩=>hn ⟨e1,by omega⟩) ⟨ho,k.ox,zp k.lx ch.nx,fun i hi q' hq'=>?_,?_⟩ rfl
 ·obtain ⟨q,e1,e2⟩:=hr i hi q' hq'
  obtain ⟨_,p2,p3,p4,p5⟩:=k.ring i hi q e1
  exact ⟨e2,p2,p3,zp p4 ch.nx,zp p5 ch.nx⟩
 ·show VI h' t.wv x'.waiting/\(x'.waiting≠[]->_)
  rw [hwt]
  refine ⟨k.wait.1.keep2 ch.nx fun hl z hz=>?_,fun hl z hz=>⟨(k.wait.2 hl z hz).1,zp (k.wait.2 hl z hz).2 ch.nx⟩⟩
  have:=(k.wait.2 hl z hz).1
  exact hg z om om
theorem WF.upd (a:WF h w s ow f l now tb no) {n:Nat} {t:WX} {x':Wi} (ht:l[n]?=some t) (u:Upd t.wb (x'.obj t.r0 t.r1 t.wv) h h') (hwt:x'.waiting=t.x.waiting) (hc:x'.cap=t.x.cap) (hr : ∀ k,k=0\/k=1->(x'.e k).ring=(t.x.e k).ring):WF h' w s ow f (l.set n { t with x:=x' }) now tb no:=by
 have k:=a.ok n t ht
 refine a.step ht (u.ch (B:=fun j=>j=t.wb) rfl) (fun j _ e=>by rw [e,k.ox];omega) u.self hwt fun i hi q' hq'=>?_
 rw [hr i hi] at hq'
 obtain ⟨p1,p2,p3,p4,p5⟩:=k.ring i hi q' hq'
 have k2:=k.ox
 refine ⟨q',hq',?_⟩
 rw [hc]
 refine p1.keep (u.get _ fun e=>?_) (u.get _ fun e=>?_)
 ·rw [e] at p2;omega
 ·rw [e] at p3;omega
end
structure WW (h:H) (w s:Nat) (ow:Nat->Nat) (l:List WX) (now:Int) (t:Tb) (no:Option (Nat × Nat)):Prop where
 wf:WF h w s ow (fun i=>atS (wxs l) (i:Int)) l now t no
 fds : ∀ n k fd,AtW (wxs l) n k fd->0<=fd/\fd<=95
def Wi.SameFd (x y:Wi):Prop := ∀ k,k=0\/k=1->((y.e k).what=1↔(x.e k).what=1)/\((x.e k).what=1->(y.e k).fd=(x.e k).fd)
theorem Wi.SameFd.refl (x:Wi):x.SameFd x:=fun _ _=>⟨Iff.rfl,fun _=>rfl⟩
theorem Wi.SameFd.trans {x y z:Wi} (a:x.SameFd y) (b:y.SameFd z):x.SameFd z:=fun k hk=>⟨(b k hk).1.trans (a k hk).1,fun h=>by rw [(b k hk).2 ((a k hk).1.2 h),(a k hk).2 h]⟩
theorem AtW_set {ws:Ws} {n:Nat} {x y:Wi} (hx:ws[n]?=some x) (hs:x.SameFd y) (m k:Nat) (fd:Int):AtW (ws.set n y) m k fd↔AtW ws m k fd:=by
 unfold AtW
 rw [zg]
 by_cases e:n=m
 ·subst e
  have hlt:n<ws.length:=by
   rcases zu n ws.length with h | h
   ·exact h
   ·rw [zc h] at hx;cases hx
  rw [if_pos rfl,if_pos hlt,hx]
  constructor
  ·rintro ⟨_,e0,hk,h1,h2⟩;cases e0;exact ⟨x,rfl,hk,(hs k hk).1.1 h1,by rw [<- (hs k hk).2 ((hs k hk).1.1 h1),h2]⟩
  ·rintro ⟨_,e0,hk,h1,h2⟩;cases e0;exact ⟨y,rfl,hk,(hs k hk).1.2 h1,by rw [(hs k hk).2 h1,h2]⟩
 ·rw [if_neg e]
theorem atS_congr {ws ws':Ws} (h : ∀ n k fd,AtW ws' n k fd↔AtW ws n k fd) (fd:Int):atS ws' fd=atS ws fd:=by
 have e:AtW ws'=AtW ws:=by funext n k fd;exact propext (h n k fd)
 unfold atS
 rw [e]
section
variable {h h':H} {w s:Nat} {ow:Nat->Nat} {l:List WX} {now:Int} {t:Tb} {no:Option (Nat × Nat)}
theorem WW.old (a:WW h w s ow l now t no) (o:Old h h'):WW h' w s ow l now t no:=⟨a.wf.old o,a.fds⟩
theorem WF.same {n:Nat} {x:Wi} {y:WX} (a:WF h' w s ow (fun i=>atS (wxs l) (i:Int)) (l.set n y) now t no) (fds : ∀ n k fd,AtW (wxs l) n k fd->0<=fd/\fd<=95) (hx:(wxs l)[n]?=some x) (hs:x.SameFd y.x):WW h' w s ow (l.set n y) now t no:=by
 have hat:=AtW_set hx hs
 refine ⟨a.congr fun j _=>by rw [jiC,atS_congr hat],fun m k fd hm=>fds m k fd ?_⟩
 rw [jiC] at hm
 exact (hat m k fd).1 hm
end
def WSt (h:H) (w s:Nat) (ow:Nat->Nat) (ws:Ws) (now:Int) (t:Tb) (no:Option (Nat × Nat)):Prop := ∃ l,WW h w s ow l now t no/\wxs l=ws
structure To (h h':H) (ow ow':Nat->Nat):Prop where
 ch:Ch (fun j=>ow j≠0) h h'
 tag : ∀ j,j<h.nx->ow' j=ow j
theorem To.refl (h:H) (ow:Nat->Nat):To h h ow ow:=⟨Ch.refl _ _,fun _ _=>rfl⟩
theorem To.trans {h h1 h2:H} {a b c:Nat->Nat} (x:To h h1 a b) (y:To h1 h2 b c):To h h2 a c :=
 ⟨x.ch.trans_new y.ch fun j hj hb=>by rw [x.tag j hj] at hb;exact hb,fun j hj=>by rw [y.tag j (zp hj x.ch.nx),x.tag j hj]⟩
theorem To.old {h h1 h2:H} {a b:Nat->Nat} (x:Old h h1) (y:To h1 h2 a b):To h h2 a b:=To.trans ⟨x.ch,fun _ _=>rfl⟩ y
theorem To.of_old {h h1:H} {a:Nat->Nat} (x:Old h h1):To h h1 a a:=⟨x.ch,fun _ _=>rfl⟩
theorem WSt.old {h h':H} {w s:Nat} {ow:Nat->Nat} {ws:Ws} {now:Int} {t:Tb} {no:Option (Nat × Nat)} (a:WSt h w s ow ws now t no) (o:Old h h'):WSt h' w s ow ws now t no:=by
 obtain ⟨l,a,e⟩:=a;exact ⟨l,a.old o,e⟩
theorem Old.ofCh {h h':H} (c:Ch (fun _=>False) h h'):Old h h':=⟨c.nx,fun j hj=>c.get j hj id⟩
theorem ne_nil_of {l:List WX} {n:Nat} {t:WX} (h:l[n]?=some t):l≠[]:=by rintro rfl;simp at h
theorem wps_get {l:List WX} {n:Nat} {t:WX} (h:l[n]?=some t):(wps l)[n]?=some (.p t.wb 0):=by simp [h]
section
variable {h h':H} {w s:Nat} {ow:Nat->Nat} {f:Nat->Option (Nat × Nat)} {l:List WX} {now:Int} {tb:Tb} {no:Option (Nat × Nat)}
theorem WF.wat (a:WF h w s ow f l now tb no) (hl:l≠[]) : ∃ z c,WAt h w (wc f (.slice (some (z,0)) l.length c) s now no) s z l.length c (wps l)/\z<h.nx/\ow z=2:=by
 obtain ⟨sa,c,p1,p2⟩:=a.head
 obtain ⟨z,rfl,p3,p4,p5⟩:=p2 hl
 exact ⟨z,c,⟨p1,jiE rfl,jcc rfl,p5⟩,p3,p4⟩
theorem WW.fdat (a:WW h w s ow l now tb no) (u:Uniq (wxs l)) {n k m:Nat} {t:WX} (hat:AtW (wxs l) n k (m:Int)) (ht:l[n]?=some t) {wv:V} : FdAt (wc (fun i=>atS (wxs l) (i:Int)) wv s now no) (wps l) l.length m n k t.wb:=by
 have hm:=a.fds n k m hat
 have e:=jdr u hat
 obtain ⟨_,_,hk⟩:=jjV hat
 have c0 : ∀ j,j<3->(wc (fun i=>atS (wxs l) (i:Int)) wv s now no)[m*3+j]?=some (pc (some (n,k)) j):=fun j hj=>by
  rw [jko (i:=m) (j:=j) om hj rfl];show some (pc (atS (wxs l) (m:Int)) j)=_;rw [e]
 exact ⟨by omega,c0 0 om,c0 1 om,c0 2 om,x_lt ht,wps_get ht,hk⟩
end
section
variable {cl:Nat->Call} (hcl:Sem cl) {h:H} {w s:Nat} {ow:Nat->Nat} {f:Nat->Option (Nat × Nat)} {l:List WX} {now:Int} {tb:Tb} {no:Option (Nat × Nat)}
include hcl
theorem jeB {d:Nat} (hd:1<=d) (a:WF h w s ow f l now tb no):cl d (.fn F.jbB) [.p w 0] h=some (.bool false,h):=by
 obtain ⟨sa,c,p1,_⟩:=a.head
 exact jiD hcl hd p1 (jiE rfl)
theorem jhH {d:Nat} {fd:Int} (hd:2<=d) (a:WW h w s ow l now tb no) (hno : ∀ n k,¬ AtW (wxs l) n k fd) :
  ∃ h',cl d (.fn F.jaD) [.p w 0,.i fd] h=some (.tup [.agg [.bool false,.i 0,.i 0],.ptr none,.i 110],h')/\Old h h'/\h'.nx=h.nx+1:=by
 have o1:Old h (h.new (.cells [.bool false,.i 0,.i 0] false)):=(Old.refl h).new
 have hn:=jeB hcl (d:=d-1) om (a.wf.old o1)
 obtain ⟨sa,c,hw,_⟩:=(a.wf.old o1).head
 refine jbp (at_ hcl om rfl rfl rfl ?_)
 refine qo1 ?_
 refine Ops.make rfl rfl ?_
 by_cases h1:fd<0
 ·refine qx1 ?_
  refine Ops.storeN rfl rfl rfl rfl (jae _) (zq rfl) ?_
  refine qx1 ?_
  refine zcf (resN rfl (jab _) (zq rfl) rfl) ?_
  exact ⟨rfl,o1.set om,rfl⟩
 by_cases h2:95<fd
 ·refine qx1 ?_
  refine Ops.storeN rfl rfl rfl rfl (jae _) (zq rfl) ?_
  refine qx1 ?_
  refine zcf (resN rfl (jab _) (zq rfl) rfl) ?_
  exact ⟨rfl,o1.set om,rfl⟩
 obtain ⟨m,rfl⟩:=zw (by omega:0<=fd)
 have e:atS (wxs l) (m:Int)=none:=jds hno
 have f2:(wc (fun i=>atS (wxs l) (i:Int)) (.slice sa l.length c) s now no)[0+0+(m:Int).toNat*3+0]?=some (.bool false):=by
  rw [jko (i:=m) (j:=0) om om om]
  show some (pc (atS (wxs l) (m:Int)) 0)=_;rw [e];rfl
 refine qx1 ?_
 refine Ops.storeN rfl rfl rfl rfl (jae _) (zq rfl) ?_
 refine qx1 ?_
 refine zcf (resN rfl (jab _) (zq rfl) rfl) ?_
 exact ⟨rfl,o1.set om,rfl⟩
theorem ww_find {d:Nat} {fd:Int} (hd:2<=d) (a:WW h w s ow l now tb no) (u:Uniq (wxs l)) :
  ((∀ n k,¬ AtW (wxs l) n k fd) /\ ∃ h',cl d (.fn F.jaD) [.p w 0,.i fd] h=some (.tup [.agg [.bool false,.i 0,.i 0],.ptr none,.i 110],h')/\Old h h'/\h'.nx=h.nx+1) \/
  ∃ (n k m:Nat) (t:WX),fd=m/\m<=95/\AtW (wxs l) n k fd/\l[n]?=some t/\(k=0\/k=1) /\ ∃ h',cl d (.fn F.jaD) [.p w 0,.i fd] h=some (.tup [.agg [.bool true,.i (n:Int),.i (k:Int)],.p t.wb 0,.i 0],h')/\Old h h'/\h'.nx=h.nx+1:=by
 by_cases hex : ∃ p:Nat × Nat,AtW (wxs l) p.1 p.2 fd
 ·obtain ⟨⟨n,k⟩,hat⟩:=hex
  have hat:AtW (wxs l) n k fd:=hat
  have hm:=a.fds n k fd hat
  obtain ⟨m,rfl⟩:=zw hm.1
  obtain ⟨x,hx,hk⟩:=jjV hat
  obtain ⟨t,ht,_⟩:=get_mapx hx
  obtain ⟨z,c,A,lz,_⟩:=a.wf.wat (ne_nil_of ht)
  obtain ⟨h',e1,e2,e3⟩:=wp_find hcl hd A (a.fdat u hat ht) a.wf.lw lz
  exact .inr ⟨n,k,m,t,rfl,by omega,hat,ht,hk,h',e1,Old.ofCh e2,e3⟩
 ·have hno : ∀ n k,¬ AtW (wxs l) n k fd:=fun n k hat=>hex ⟨(n,k),hat⟩
  exact .inl ⟨hno,jhH hcl hd a hno⟩
end
section
variable {cl:Nat->Call} (hcl:Sem cl)
include hcl
theorem wr_out {d b4 b8 b9 b10 wb cap rk ro:Nat} {g:H} {own oth:En} {wl:List V} {rst i hup:Bool} {a c:Int} (hd:3<=d) (g4:g.get b4=some jcZ) (g8:g.get b8=some (.cells (own.cells rk) false)) (g9:g.get b9=some (.cells (oth.cells ro) false))
  (g10:g.get b10=some (.cells [.bool true,.bool i,.bool false,.bool hup,.bool rst,.int .u64 a,.int .u64 c] false)) (gx:g.get wb=some (.cells wl false)) (hx:wl[0+14]?=some (.bool rst)) (n1:b4≠b10) (n2:b8≠b10) (n3:b9≠b10) (n4:wb≠b10)
  (hR:own.writes=true -> ∃ q b,oth.ring=some q/\jaG g ro b q cap) :
  Run (cl (d-1)) fuel c99_0 [] [(4,.p b4 0),(6,.p wb 0),(8,.p b8 0),(9,.p b9 0),(10,.p b10 0)] g
   (Fin c99.res fun v' h'=>v' = .agg [.bool true,.bool i,.bool (own.writes && !own.shut&&(decide (((oth.ring.getD []).length:Int)<cap)||hup||rst)),.bool hup,.bool rst,.int .u64 a,.int .u64 c]/\Ch (fun j=>j=b4\/j=b10) g h'):=by
 obtain ⟨w0,f0,q0,wr0,s0,i0,o0⟩:=own
 obtain ⟨w1,f1,q1,wr1,s1,i1,o1⟩:=oth
 simp only [En.cells] at g8 g9
 cases wr0
 case false=>
  refine qm1 ?_
  exact jcb rfl (jab _) rfl ⟨rfl,(Ch.set (.inr rfl)).trans (Ch.set (.inl rfl))⟩
 obtain ⟨q,b,hq,R⟩:=hR rfl
 have hq:q1=some q:=hq
 subst hq
 simp only [En.ptr] at g9
 cases s0
 case true=>
  refine qm1 ?_
  exact jcb rfl (jab _) rfl ⟨rfl,(Ch.set (.inr rfl)).trans (Ch.set (.inl rfl))⟩
 cases hup
 case true=>
  refine qm1 ?_
  exact jcb rfl (jab _) rfl ⟨by simp [ja2],(Ch.set (.inr rfl)).trans (Ch.set (.inl rfl))⟩
 cases rst
 case true=>
  refine qm1 ?_
  exact jcb rfl (jab _) rfl ⟨by simp [ja2],(Ch.set (.inr rfl)).trans (Ch.set (.inl rfl))⟩
 obtain ⟨buf,frm,inn,out,C,V⟩:=R
 have hroom:=rp_room hcl (d:=d-1) om C V.fit V.small
 have e1:decide (0<((cap-q.length:Nat):Int))=decide ((q.length:Int)<cap):=by
  have:=V.fit
  by_cases h1:(q.length:Int)<cap
  ·rw [decide_eq_true h1,decide_eq_true om]
  ·rw [decide_eq_false h1,decide_eq_false om]
 clear C V hR
 refine qm1 ?_
 rw [e1]
 exact jcb rfl (jab _) rfl ⟨by simp [ja2],(Ch.set (.inr rfl)).trans (Ch.set (.inl rfl))⟩
theorem Fin.mono {res:List RV} {R R':V->H->Prop} {x:Ex} {e:Env} {h:H} (k:Fin res R x e h) (hR : ∀ v,R v h->R' v h):Fin res R' x e h:=by
 obtain ⟨p1,l,p2,p3⟩:=k;exact ⟨p1,l,p2,hR _ p3⟩
theorem wr_in {d b4 b5 b8 b9 b10 r0 r1 bo k n t0:Nat} {g:H} {x:Wi} {wv:V} {hup:Bool} (hd:3<=d) (hk:k=0\/k=1) (g4:g.get b4=some jcZ) (g5:g.get b5=some (.cells [.bool true,.i (n:Int),.i (k:Int)] false)) (g8:g.get b8=some (.cells ((x.e k).cells (two r0 r1 k)) false)) (g9:g.get b9=some (.cells ((x.e (1-k)).cells (two r0 r1 (1-k))) false))
  (g10:g.get b10=some (.cells [.bool true,.bool false,.bool false,.bool hup,.bool x.reset,.int .u64 (x.e k).inn,.int .u64 (x.e k).out] false)) (gx:g.get t0=some (x.obj r0 r1 wv)) (n1:b4≠b10) (n2:b8≠b10) (n3:b9≠b10) (n4:t0≠b10)
  (hhup:hup=((x.e (1-k)).what == 3)) (hO : ∀ q,(x.e k).ring=some q->jaG g (two r0 r1 k) bo q x.cap) (hR:(x.e k).writes=true -> ∃ q bt,(x.e (1-k)).ring=some q/\jaG g (two r0 r1 (1-k)) bt q x.cap/\two r0 r1 (1-k)≠b10/\bt≠b10) :
  Run (cl (d-1)) fuel c99_1 [] [(4,.p b4 0),(5,.p b5 0),(6,.p t0 0),(8,.p b8 0),(9,.p b9 0),(10,.p b10 0)] g
   (Fin c99.res fun v' h'=>v' = .agg [.bool true,.bool (x.rIn k),.bool (x.rOut k),.bool ((x.e (1-k)).what == 3),.bool x.reset,.int .u64 (x.e k).inn,.int .u64 (x.e k).out]/\Ch (fun j=>j=b4\/j=b10) g h'):=by
 refine Run.seq (Run.cut (fun y e' g'=>y = .normal/\e'=[(4,.p b4 0),(6,.p t0 0),(8,.p b8 0),(9,.p b9 0),(10,.p b10 0)] /\
  Upd b10 (.cells [.bool true,.bool (x.rIn k),.bool false,.bool hup,.bool x.reset,.int .u64 (x.e k).inn,.int .u64 (x.e k).out] false) g g') ?_ ?_)
 case refine_2=>
  rintro _ _ g' ⟨rfl,rfl,u⟩
  refine End.seq ?_
  have:=wr_out hcl (d:=d) (cap:=x.cap) (wl:=x.cells r0 r1 wv) hd (by rw [u.get _ n1,g4]) (by rw [u.get _ n2,g8]) (by rw [u.get _ n3,g9]) u.self (by rw [u.get _ n4,gx];rfl) (Wi.reset_cell rfl) n1 n2 n3 n4 fun hw=>by
   obtain ⟨q,bt,q1,q2,n6,n7⟩:=hR hw
   exact ⟨q,bt,q1,q2.keep (u.get _ n6) (u.get _ n7)⟩
  refine Run.fin_mono this fun v h' ⟨p1,p2⟩=>⟨?_,(u.ch (.inr rfl)).trans p2⟩
  rw [p1,hhup];rfl
 have hsil:=xp_silent hcl (d:=d-1) om gx hk
 have hx14:=Wi.reset_cell (x:=x) (r0:=r0) (r1:=r1) (wv:=wv) (o:=0+14) rfl
 unfold Wi.obj at gx
 have hrin:x.rIn k=match (x.e k).ring with
  | none=>false
  | some q=>!q.isEmpty||x.silent k||x.reset:=by
  unfold Wi.rIn Wi.silent
  cases (x.e k).ring with
  | none=>rfl
  | some q=>simp [Bool.or_assoc]
 rw [hrin]
 clear hrin hR
 cases hring:(x.e k).ring with
 | none=>
  have c8:((x.e k).cells (two r0 r1 k))[0+2]?=some (.ptr none):=by simp [En.cells,hring,En.ptr]
  refine qm1 ?_
  exact End.nil ⟨rfl,rfl,Upd.set⟩
 | some q=>
  have c8:((x.e k).cells (two r0 r1 k))[0+2]?=some (.p (two r0 r1 k) 0):=by simp [En.cells,hring,En.ptr]
  obtain ⟨buf,frm,inn,out,C,V⟩:=hO q hring
  have hlen:=rp_len hcl (d:=d-1) om C
  clear C V hO
  cases q with
  | cons y q=>
   have hpos:0<(((y :: q:List UInt8).length:Nat):Int):=by simp
   have eT:decide (0<(((y :: q:List UInt8).length:Nat):Int))=true:=decide_eq_true hpos
   refine qm1 ?_
   exact End.nil ⟨rfl,rfl,Upd.set⟩
  | nil=>
   have hlen:cl (d-1) (.fn F.jcm) [.p (two r0 r1 k) 0] g=some (.i 0,g):=hlen
   cases hsl:x.silent k
   ·rw [hsl] at hsil
    cases hrs:x.reset
    ·rw [hrs] at hx14 g10
     refine qm1 ?_
     exact End.nil ⟨rfl,rfl,Upd.set⟩
    ·rw [hrs] at hx14 g10
     refine qm1 ?_
     exact End.nil ⟨rfl,rfl,Upd.set⟩
   ·rw [hsl] at hsil
    refine qm1 ?_
    exact End.nil ⟨rfl,rfl,Upd.set⟩
end
section
variable {x:Wi} {k m:Nat} {q:List UInt8}
theorem Wi.take_self (hk:k=0\/k=1):((x.take k m q).e k).ring=some (q.drop m):=by
 rcases hk with rfl | rfl<;>simp [Wi.take,Wi.setq,Wi.came,Wi.put,Wi.e,En.came]
theorem Wi.take_other (hk:k=0\/k=1):((x.take k m q).e (1-k)).ring=(x.e (1-k)).ring:=by
 rcases hk with rfl | rfl<;>simp [Wi.take,Wi.setq,Wi.came,Wi.put,Wi.e,En.came]
theorem Wi.take_wait (hk:k=0\/k=1):(x.take k m q).waiting=x.waiting:=by rcases hk with rfl | rfl<;>rfl
theorem Wi.take_cap (hk:k=0\/k=1):(x.take k m q).cap=x.cap:=by rcases hk with rfl | rfl<;>rfl
theorem jeK {i k:Nat} (hi:i=0\/i=1) (hk:k=0\/k=1) (h:i≠k):i=1-k:=by omega
end
section
variable {h h':H} {w s:Nat} {ow:Nat->Nat} {f:Nat->Option (Nat × Nat)} {l:List WX} {now:Int} {tb:Tb} {no:Option (Nat × Nat)} {n k m:Nat} {t:WX} {q:List UInt8}
theorem WF.take (a:WF h w s ow f l now tb no) (ht:l[n]?=some t) (hk:k=0\/k=1) (hq:(t.x.e k).ring=some q) (ch:Ch (fun j=>j=t.wb\/j=t.r k) h h') (ho:h'.get t.wb=some ((t.x.take k m q).obj t.r0 t.r1 t.wv)) (hR:jaG h' (t.r k) (t.b k) (q.drop m) t.x.cap) :
  WF h' w s ow f (l.set n { t with x:=t.x.take k m q }) now tb no:=by
 have X:=a.ok n t ht
 have hox:=X.ox
 obtain ⟨_,o1,_⟩:=X.ring k hk q hq
 refine a.step ht ch (fun j _ hb=>?_) ho (Wi.take_wait hk) fun i hi q' hq'=>?_
 ·rcases hb with rfl | rfl<;>omega
 ·rw [Wi.take_cap hk]
  by_cases hik:i=k
  ·subst hik
   rw [Wi.take_self hk] at hq'
   cases hq'
   exact ⟨q,hq,hR⟩
  ·obtain rfl:=jeK hi hk hik
   rw [Wi.take_other hk] at hq'
   obtain ⟨p1,p2,p3,p4,p5⟩:=X.ring _ hi q' hq'
   refine ⟨q',hq',p1.keep (ch.get _ p4 ?_) (ch.get _ p5 ?_)⟩
   ·rintro (e | e)
    ·rw [e] at p2;omega
    ·rw [e] at p2;omega
   ·rintro (e | e)
    ·rw [e] at p3;omega
    ·rw [e] at p3;omega
theorem XOk.apart (a:XOk h ow n t) (hk:k=0\/k=1) (hq:(t.x.e k).ring=some q):jaG h (t.r k) (t.b k) q t.x.cap/\t.r k<h.nx/\t.b k<h.nx/\t.r k≠t.b k/\t.wb≠t.r k/\t.wb≠t.b k:=by
 have o0:=a.ox
 obtain ⟨p1,p2,p3,p4,p5⟩:=a.ring k hk q hq
 refine ⟨p1,p4,p5,fun e=>?_,fun e=>?_,fun e=>?_⟩
 ·rw [e] at p2;omega
 ·rw [e] at o0;omega
 ·rw [e] at o0;omega
end
section
variable {cl:Nat->Call} (hcl:Sem cl) {h:H} {w s:Nat} {ow:Nat->Nat} {ws:Ws} {now:Int} {tb:Tb} {no:Option (Nat × Nat)}
include hcl
end
theorem Wi.en_cells {x:Wi} {r0 r1 k o:Nat} {wv:V} (hk:k=0\/k=1) (ho:o=k*7):((x.cells r0 r1 wv).drop o).take 7=(x.e k).cells (two r0 r1 k):=by
 subst ho
 rcases hk with rfl | rfl<;>rfl
theorem En.cells_one (x:En) (r:Nat):(x.cells r).all V.one=true:=by
 obtain ⟨w,f,q,wr,s,i,o⟩:=x
 cases q<;>rfl
theorem chk_loadN {e:Env} {h:H} {d n:Nat} {a:Opd} {g:Option (Nat × Bool)} {r:List (Nat × I × Option (Nat × Bool))} {b o:Nat} {l:List V} {ro:Bool} {v:List V} (ha:a.ev e=some (.ptr (some (b,o)))) (hb:h.get b=some (.cells l ro)) (hn:o+n<=l.length)
  (hv:(l.drop o).take n=v) (hd:e.get d=some (.agg v)) (k:ja1 e h r=true):ja1 e h ((d,.loadN n a,g) :: r)=true:=by
 simp only [ja1,I.read,ha,jdB hb hn,hv,hd,V.same_refl,k,Bool.and_true]
 cases wanted e g<;>rfl
section
variable {cl:Nat->Call} (hcl:Sem cl)
include hcl
end
section
variable {cl:Nat->Call} (hcl:Sem cl) {h0:H} {w s:Nat} {ow:Nat->Nat} {ws:Ws} {now:Int} {tb:Tb} {no:Option (Nat × Nat)}
include hcl
theorem jgW {d:Nat} {fd:Int} (hd:4<=d) (a:WSt h0 w s ow ws now tb no) (o:WsOk ws) :
  ∃ h',cl d (.fn F.jaP) [.p w 0,.i fd] h0=some (.agg (jew ws fd),h')/\Old h0 h':=by
 obtain ⟨l,a,rfl⟩:=a
 have oA:Old h0 (h0.new jcZ):=(Old.refl _).new
 have gA0:(h0.new jcZ).get h0.nx=some jcZ:=jae _
 have nA:(h0.new jcZ).nx=h0.nx+1:=rfl
 refine jbp (at_ hcl om rfl rfl rfl ?_)
 refine qo1 ?_
 refine Ops.make (ob:=jcZ) rfl rfl ?_
 generalize h0.new jcZ=hA at oA gA0 nA ⊢
 rcases ww_find hcl (d:=d-1) (fd:=fd) om (a.old oA) o.uniq with ⟨hno,h1,e1,o1,x1⟩ | ⟨n,k,m,t,rfl,hm,hat,ht,hk,h1,e1,o1,x1⟩
 ·have hS:jew (wxs l) fd=jjf:=withFd_no hno
  rw [hS]
  have g1:h1.get h0.nx=some jcZ:=by rw [o1.2 _ om,gA0]
  refine qm1 ?_
  refine jcb rfl (jab _) rfl ⟨rfl,?_⟩
  exact ((oA.trans o1).new.set om).set (zn _)
 have hS:jew (wxs l) (m:Int)=_:=withFd_at o.uniq hat (jhy ht)
 have hS:jew (wxs l) (m:Int)=t.x.ready k:=hS
 rw [hS]
 have WI:=o.ok _ (zb (jhy ht))
 have X:=a.wf.ok n t ht
 have hk':1-k=0\/1-k=1:=by omega
 let h2:=(h1.new (.cells [.bool false,.i 0,.i 0] false)).set h1.nx (.cells [.bool true,.i (n:Int),.i (k:Int)] false)
 have n2:h2.nx=h0.nx+3:=by show h1.nx+1=_;omega
 have g2 : ∀ j,j<h0.nx->h2.get j=h0.get j:=fun j hj=>by
  show (H.set _ _ _).get j=_
  rw [jaa om,jad om,o1.2 j om,oA.2 j hj]
 have g20:h2.get h0.nx=some jcZ:=by
  show (H.set _ _ _).get _=_
  rw [jaa om,jad om,o1.2 _ om];exact gA0
 have gp:h2.get h1.nx=some (.cells [.bool true,.i (n:Int),.i (k:Int)] false):=jab _
 have y1:h1.nx=h0.nx+2:=by omega
 obtain ⟨C,hC⟩ : ∃ C,C=c99_1:=⟨_,rfl⟩
 simp only [c99_8,c99_7,c99_6,c99_5,c99_4,c99_3,yB,yC,yF]
 rw [<- hC]
 refine qo1 ?_
 refine Ops.callf rfl e1 ?_
 refine qo1 ?_
 refine Ops.make rfl rfl ?_
 refine qx1 ?_
 refine Ops.storeN rfl rfl rfl rfl (jae _) (zq rfl) ?_
 rw [show ((h1.new (.cells [.bool false,.i 0,.i 0] false)).set h1.nx (.cells (ja2 [.bool false,.i 0,.i 0] 0 [.bool true,.i (n:Int),.i (k:Int)]) false))=h2 from rfl]
 clear_value h2
 clear e1 o1 gA0 nA oA
 have hx:=X.hx
 have lx:=X.lx
 have hx2:h2.get t.wb=some (.cells (t.x.cells t.r0 t.r1 t.wv) false):=by rw [g2 _ lx];exact hx
 have ek:((1:Int)-(k:Int)).toNat=1-k:=by omega
 have hcl17:=Wi.cells_length t.x t.r0 t.r1 t.wv
 rw [y1] at gp ⊢
 refine qx1 ?_
 refine Run.region ?_
 rw [n2]
 refine qx1 ?_
 refine Ops.loadN rfl hx2 om ?_
 rw [Wi.en_cells hk om]
 refine qx1 ?_
 refine Ops.loadN rfl hx2 om ?_
 rw [Wi.en_cells (k:=1-k) hk' om]
 refine Ops.make_at rfl rfl ?_
 refine Ops.make_at rfl rfl ?_
 refine Ops.storeN_chk rfl rfl rfl (En.cells_one _ _) (by rw [jaa om];exact jab _) (zq rfl) ?_ ?_
 ·refine jcz rfl (l:=[.bool true,.i (n:Int),.i (k:Int)]) (ro:=false) (by rw [jaa om,jaa om,jaa om];exact gp) rfl rfl (chk_loadN rfl (l:=t.x.cells t.r0 t.r1 t.wv) (ro:=false) (by rw [jaa om,jaa om,jaa om];exact hx2) om (Wi.en_cells (k:=1-k) hk' om) rfl jgQ)
 refine Ops.storeN rfl rfl rfl (En.cells_one _ _) (by rw [jaa om];exact jab _) (zq rfl) ?_
 have ow7 : ∀ (e:En) (r:Nat),ja2 [V.i 0,V.i 0,V.ptr none,V.bool false,V.bool false,V.int IntKind.u64 0,V.int IntKind.u64 0] 0 (e.cells r)=e.cells r:=fun e r=>jcR _ _ rfl
 rw [ow7,ow7]
 generalize hh:H.set (H.set (H.set (H.set _ _ _) _ _) _ _) _ _=h3
 have z3:h3.nx=h0.nx+5:=by rw [<- hh];show h2.nx+2=_;omega
 have zo:h3.get (h0.nx+3)=some (.cells ((t.x.e k).cells (two t.r0 t.r1 k)) false):=by
  rw [<- hh,jaa om];exact jab _
 have zt:h3.get (h0.nx+3+1)=some (.cells ((t.x.e (1-k)).cells (two t.r0 t.r1 (1-k))) false):=by
  rw [<- hh];exact jab _
 have g3 : ∀ j,j<h0.nx+3->h3.get j=h2.get j:=fun j hj=>by
  rw [<- hh,jaa om,jaa om,jaa om,jaa om];rfl
 have hx3:h3.get t.wb=some (.cells (t.x.cells t.r0 t.r1 t.wv) false):=by rw [g3 _ om,hx2]
 have z0:h3.get h0.nx=some jcZ:=by rw [g3 _ om,g20]
 have gp3:h3.get (h0.nx+2)=some (.cells [.bool true,.i (n:Int),.i (k:Int)] false):=by rw [g3 _ om,gp]
 have kk : ∀ j,j<h0.nx->h3.get j=h0.get j:=fun j hj=>by rw [g3 _ om,g2 _ hj]
 clear hh g3 gp hx2 g20 g2 n2
 have zo:h3.get (h0.nx+3+0)=some (.cells ((t.x.e k).cells (two t.r0 t.r1 k)) false):=zo
 have i5:((t.x.e k).cells (two t.r0 t.r1 k))[0+5]?=some (.int .u64 (t.x.e k).inn):=rfl
 have i6:((t.x.e k).cells (two t.r0 t.r1 k))[0+6]?=some (.int .u64 (t.x.e k).out):=rfl
 have f15:=Wi.backlog_cell (x:=t.x) (r0:=t.r0) (r1:=t.r1) (wv:=t.wv) (o:=0+15) rfl
 have f14:=Wi.reset_cell (x:=t.x) (r0:=t.r0) (r1:=t.r1) (wv:=t.wv) (o:=0+14) rfl
 obtain ⟨av,cp,hva,_⟩:=X.wait.1
 have f16:(t.x.cells t.r0 t.r1 t.wv)[0+16]?=some (.slice av t.x.waiting.length cp):=by simp [Wi.cells,En.cells,hva]
 have o3:Old h0 h3:=⟨by omega,kk⟩
 by_cases hbl:0<t.x.backlog
 ·have hR:t.x.ready k=[.bool true,.bool (!t.x.waiting.isEmpty),.bool false,.bool false,.bool false,.int .u64 (t.x.e k).inn,.int .u64 (t.x.e k).out]:=if_pos hbl
  rw [hR]
  have ew:decide (0<((t.x.waiting.length:Nat):Int)) = !t.x.waiting.isEmpty:=by cases t.x.waiting<;>simp
  clear hC hcl17 ek hk' y1
  refine qm1 ?_
  rw [ew]
  refine jcb rfl (jab _) rfl ⟨rfl,?_⟩
  exact (((o3.new.set om).set om).set om)
 ·have hR:t.x.ready k=[.bool true,.bool (t.x.rIn k),.bool (t.x.rOut k),.bool ((t.x.e (1-k)).what == 3),.bool t.x.reset,.int .u64 (t.x.e k).inn,.int .u64 (t.x.e k).out]:=if_neg hbl
  rw [hR]
  have j0:((t.x.e (1-k)).cells (two t.r0 t.r1 (1-k)))[0+0]?=some (.i (t.x.e (1-k)).what):=rfl
  refine qm1 ?_
  refine Ops.store1_chk rfl rfl rfl (by first | exact jab _ | (rw [jab])) (zq rfl) ?_ ?_
  ·exact jcz rfl (l:=t.x.cells t.r0 t.r1 t.wv) (ro:=false) (by rw [jaa om,jaa om,jad om];exact hx3) f14 rfl jgQ
  refine qs1 ?_
  generalize hh:H.set (H.set (H.set _ _ _) _ _) _ _=h5
  have y5:h5.nx=h3.nx+1:=by rw [<- hh];rfl
  have g5 : ∀ j,j<h3.nx->h5.get j=h3.get j:=fun j hj=>by
   rw [<- hh,jaa om,jaa om,jaa om,jad hj]
  have ehup:decide ((t.x.e (1-k)).what=3)=((t.x.e (1-k)).what == 3):=rfl
  have z5:h5.get h3.nx=some (.cells [.bool true,.bool false,.bool false,.bool ((t.x.e (1-k)).what == 3),.bool t.x.reset,.int .u64 (t.x.e k).inn,.int .u64 (t.x.e k).out] false):=by
   rw [<- hh,jab,<- ehup];rfl
  clear hh
  have o5:Old h0 h5:=o3.trans ⟨by omega,g5⟩
  have lr : ∀ i,i=0\/i=1 -> ∀ q,(t.x.e i).ring=some q->jaG h5 (t.r i) (t.b i) q t.x.cap/\t.r i<h0.nx/\t.b i<h0.nx:=fun i hi q hq=>by
   obtain ⟨p1,_,_,p4,p5⟩:=X.ring i hi q hq
   exact ⟨p1.keep (o5.2 _ p4) (o5.2 _ p5),p4,p5⟩
  have q4:h5.get h0.nx=some jcZ:=by rw [g5 _ om,z0]
  have q5:h5.get (h0.nx+2)=some (.cells [.bool true,.i (n:Int),.i (k:Int)] false):=by rw [g5 _ om,gp3]
  have q8:h5.get (h0.nx+3+0)=some (.cells ((t.x.e k).cells (two t.r0 t.r1 k)) false):=by rw [g5 _ om,zo]
  have q9:h5.get (h0.nx+3+1)=some (.cells ((t.x.e (1-k)).cells (two t.r0 t.r1 (1-k))) false):=by rw [g5 _ om,zt]
  have qx:h5.get t.wb=some (t.x.obj t.r0 t.r1 t.wv):=by rw [g5 _ om,hx3];rfl
  have hpair:=WI.pair k hk
  rw [hC]
  refine Run.fin_mono (wr_in hcl (d:=d) (bo:=t.b k) (n:=n) (hup:=(t.x.e (1-k)).what == 3) om hk q4 q5 q8 q9 z5 qx om om om om rfl (fun q hq=>(lr k hk q hq).1) fun hwr=>?_) fun v h' ⟨p1,p2⟩=>⟨p1,?_⟩
  ·obtain ⟨q,hq⟩:=Option.ne_none_iff_exists'.1 (hpair.1 hwr)
   obtain ⟨r1,r2,r3⟩:=lr (1-k) hk' q hq
   exact ⟨q,t.b (1-k),hq,r1,by show t.r (1-k)≠_;omega,by omega⟩
  ·have hn5:=o5.1
   exact ⟨zx hn5 p2.nx,fun j hj=>by rw [p2.get j om (by rintro (e | e)<;>omega),o5.2 j hj]⟩
end
def lc (f:Nat->Int):List V:=tab 96 (fun _=>V.i 0)++(tab 96 (fun i=>V.i (f i))++[.bool true])
section
variable {f g:Nat->Int} {i o:Nat} {v:Int}
theorem lc_m (ho:o=192):(lc f)[o]?=some (.bool true):=by
 subst ho
 unfold lc
 rw [List.getElem?_append_right Zd,tab_length,List.getElem?_append_right Zd,tab_length];rfl
theorem lc_len:(lc f).length=193:=by simp [lc]
theorem lc_set_w (hi:i<96) (ho:o=96+i):(lc f).set o (.i v)=lc (put1 f i v):=by
 subst ho
 unfold lc
 rw [List.set_append,if_neg Zd,tab_length,show 96+i-96=i by omega,List.set_append,if_pos (by simpa using hi),jdw]
 congr 2
 exact jce fun k _=>by unfold put1;split<;>rfl
end
def inFd (fd:Int):Prop:=0<=fd/\fd<=95
section
variable {cl:Nat->Call} (hcl:Sem cl) {d L:Nat} {h:H} {fd n:Int} {f:Nat->Int}
include hcl
theorem cg_none (hd:1<=d) (hL:h.get L=some (.cells (lc f) false)):cl d (.fn F.jdi) [.p L 0] h=some (.bool false,h):=by
 have h0:(lc f)[0+192]?=some (.bool true):=lc_m rfl
 refine jar (at_ hcl om rfl rfl rfl ?_)
 refine qx1 ?_
 exact ⟨rfl,rfl⟩
theorem cg_in (hd:1<=d) (hf:inFd fd):cl d (.fn F.change_in) [.i fd] h=some (.bool true,h):=by
 obtain ⟨f0,f1⟩:=hf
 refine jar (at_ hcl om rfl rfl rfl ?_)
 refine qx1 ?_
 exact ⟨by rw [decide_eq_true f1],rfl⟩
abbrev offW (n:Int):Int:=IntKind.i64.wrap ↑(BitVec.ofInt IntKind.i64.bits n &&& ~~~BitVec.ofInt IntKind.i64.bits 38).toNat
abbrev onW (n:Int):Int:=IntKind.i64.wrap ↑(BitVec.ofInt IntKind.i64.bits n &&& BitVec.ofInt IntKind.i64.bits 6).toNat
def mayW (n:Int):Bool:=decide (offW n=0)&&(decide (n=0)||decide (onW n≠0))
theorem jjT (hd:1<=d):cl d (.fn F.ji2) [.i n] h=some (.bool (mayW n),h):=by
 refine jar (at_ hcl om rfl rfl rfl ?_)
 unfold mayW
 by_cases ha:offW n=0
 ·by_cases hn:n=0
  ·refine qx1 ?_
   exact ⟨by rw [decide_eq_true ha,decide_eq_true hn];rfl,rfl⟩
  ·refine qx1 ?_
   exact ⟨by rw [decide_eq_true ha,decide_eq_false hn];rfl,rfl⟩
 ·refine qx1 ?_
  exact ⟨by rw [decide_eq_false ha];rfl,rfl⟩
theorem cg_Want (hd:2<=d) (hL:h.get L=some (.cells (lc f) false)) (hf:inFd fd) (hm:mayW n=true):cl d (.fn F.jdj) [.p L 0,.i fd,.i n] h=some (.i 0,h.set L (.cells (lc (put1 f fd.toNat n)) false)):=by
 have e1:=cg_none hcl (d:=d-1) om hL
 have e2:=cg_in hcl (d:=d-1) (h:=h) om hf
 have e3:=jjT hcl (d:=d-1) (h:=h) (n:=n) om
 rw [hm] at e3
 obtain ⟨f0,f1⟩:=hf
 have hl2:0+96+fd.toNat*1<(lc f).length:=by rw [lc_len];omega
 rw [<- lc_set_w (f:=f) (i:=fd.toNat) (o:=0+96+fd.toNat*1) (v:=n) om om]
 refine jar (at_ hcl om rfl rfl rfl ?_)
 refine qx1 ?_
 refine Ops.store1 rfl rfl rfl hL hl2 ?_
 refine qx1 ?_
 exact ⟨rfl,rfl⟩
end
section
variable {x:Wi} {k m:Nat} {q b:List UInt8}
theorem Wi.fill_self (hk:k=0\/k=1):((x.fill k m q b).e (1-k)).ring=some (q++b.take m):=by
 rcases hk with rfl | rfl<;>simp [Wi.fill,Wi.setq,Wi.came,Wi.put,Wi.e,En.came]
theorem Wi.fill_other (hk:k=0\/k=1):((x.fill k m q b).e k).ring=(x.e k).ring:=by
 rcases hk with rfl | rfl<;>simp [Wi.fill,Wi.setq,Wi.came,Wi.put,Wi.e,En.came]
theorem Wi.fill_wait (hk:k=0\/k=1):(x.fill k m q b).waiting=x.waiting:=by rcases hk with rfl | rfl<;>rfl
theorem Wi.fill_cap (hk:k=0\/k=1):(x.fill k m q b).cap=x.cap:=by rcases hk with rfl | rfl<;>rfl
end
section
variable {h h':H} {w s:Nat} {ow:Nat->Nat} {f:Nat->Option (Nat × Nat)} {l:List WX} {now:Int} {tb:Tb} {no:Option (Nat × Nat)} {n k m:Nat} {t:WX} {q b:List UInt8}
theorem WF.fill (a:WF h w s ow f l now tb no) (ht:l[n]?=some t) (hk:k=0\/k=1) (hq:(t.x.e (1-k)).ring=some q) (ch:Ch (fun j=>j=t.wb\/j=t.r (1-k)\/j=t.b (1-k)) h h') (ho:h'.get t.wb=some ((t.x.fill k m q b).obj t.r0 t.r1 t.wv)) (hR:jaG h' (t.r (1-k)) (t.b (1-k)) (q++b.take m) t.x.cap) :
  WF h' w s ow f (l.set n { t with x:=t.x.fill k m q b }) now tb no:=by
 have X:=a.ok n t ht
 have hox:=X.ox
 have hk':1-k=0\/1-k=1:=by omega
 obtain ⟨_,o1,o2,_⟩:=X.ring _ hk' q hq
 refine a.step ht ch (fun j _ hb=>?_) ho (Wi.fill_wait hk) fun i hi q' hq'=>?_
 ·rcases hb with rfl | rfl | rfl<;>omega
 ·rw [Wi.fill_cap hk]
  by_cases hik:i=k
  ·subst hik
   rw [Wi.fill_other hk] at hq'
   obtain ⟨p1,p2,p3,p4,p5⟩:=X.ring _ hi q' hq'
   refine ⟨q',hq',p1.keep (ch.get _ p4 ?_) (ch.get _ p5 ?_)⟩
   ·rintro (e | e | e)
    ·rw [e] at p2;omega
    ·rw [e] at p2;omega
    ·rw [e] at p2;omega
   ·rintro (e | e | e)
    ·rw [e] at p3;omega
    ·rw [e] at p3;omega
    ·rw [e] at p3;omega
  ·obtain rfl:=jeK hi hk hik
   rw [Wi.fill_self hk] at hq'
   cases hq'
   exact ⟨q,hq,hR⟩
theorem XOk.to (X:XOk h ow n t) (hk:k=0\/k=1) (hq:(t.x.e k).ring=some q) (ch:Ch (fun j=>j=t.wb\/j=t.r k\/j=t.b k) h h'):To h h' ow ow :=
 ⟨ch.weaken fun j hj hb=>by
  have o1:=X.ox
  obtain ⟨_,o2,o3,_⟩:=X.ring k hk q hq
  rcases hb with rfl | rfl | rfl
  ·omega
  ·show ow (t.r k)≠0;omega
  ·show ow (t.b k)≠0;omega,fun _ _=>rfl⟩
end
section
variable {cl:Nat->Call} (hcl:Sem cl)
include hcl
variable {h:H} {w s:Nat} {ow:Nat->Nat} {ws:Ws} {now:Int} {tb:Tb} {no:Option (Nat × Nat)}
end
section
variable {h h':H} {w s:Nat} {ow:Nat->Nat} {f:Nat->Option (Nat × Nat)} {l:List WX} {now:Int} {tb:Tb} {no:Option (Nat × Nat)} {n k m:Nat} {t:WX} {q b:List UInt8}
theorem WF.place (a:WF h w s ow f l now tb no) {i o:Nat} {p:Option (Nat × Nat)} {wl:List V} (hi:i<96) (ho:o=i*3) (hl:h.get w=some (.cells wl false)):WF (h.set w (.cells (ja2 wl o (plc p)) false)) w s ow (fun j=>if j=i then p else f j) l now tb no:=by
 obtain ⟨wv,p1,p2,p3⟩:=a.hw
 rw [hl] at p1;cases p1
 have hne : ∀ j,ow j≠1->j≠w:=fun j hj e=>hj (by rw [e,a.tw])
 refine ⟨⟨wv,?_,p2.keep (zn _) fun z hz=>jaa (hne z (by rw [p3 z hz];omega)),p3⟩,?_,a.tw,a.ts,a.lw,a.ls,a.top,fun m t ht=>(a.ok m t ht).keep (zn _) fun j h1 _=>jaa (hne j om)⟩
 ·rw [jab,jdv (g:=fun j=>if j=i then p else f j) hi ho fun j _=>rfl]
 ·rw [jaa (hne s (by rw [a.ts];omega)),a.hs]
theorem WF.clear (a:WF h w s ow f l now tb no) (ht:l[n]?=some t) (hk:k=0\/k=1) (hq:(t.x.e k).ring=some q) (ch:Ch (fun j=>j=t.r k) h h') (hR:jaG h' (t.r k) (t.b k) b t.x.cap) :
  WF h' w s ow f (l.set n { t with x:=t.x.setq k b }) now tb no:=by
 have X:=a.ok n t ht
 have hox:=X.ox
 obtain ⟨_,o1,_⟩:=X.ring k hk q hq
 refine a.step ht ch (fun j _ hb=>?_) ?_ ?_ fun i hi q' hq'=>?_
 ·have hb:j=t.r k:=hb
  subst hb;omega
 ·have hne:t.wb≠t.r k:=fun e=>by rw [e] at hox;omega
  rw [ch.get _ X.lx hne,X.hx]
  unfold Wi.obj
  rw [Wi.setq_cells hk hq]
 ·rcases hk with rfl | rfl<;>rfl
 ·have hc:(t.x.setq k b).cap=t.x.cap:=by rcases hk with rfl | rfl<;>rfl
  rw [hc]
  by_cases hik:i=k
  ·subst hik
   have e:((t.x.setq i b).e i).ring=some b:=by rcases hi with rfl | rfl<;>rfl
   rw [e] at hq';cases hq'
   exact ⟨q,hq,hR⟩
  ·obtain rfl:=jeK hi hk hik
   have e:((t.x.setq k b).e (1-k)).ring=(t.x.e (1-k)).ring:=by rcases hk with rfl | rfl<;>rfl
   rw [e] at hq'
   obtain ⟨p1,p2,p3,p4,p5⟩:=X.ring _ hi q' hq'
   refine ⟨q',hq',p1.keep (ch.get _ p4 fun e=>?_) (ch.get _ p5 fun e=>?_)⟩
   ·rw [e] at p2;omega
   ·rw [e] at p3;omega
end
section
variable {cl:Nat->Call} (hcl:Sem cl)
include hcl
variable {h:H} {w s:Nat} {ow:Nat->Nat} {f:Nat->Option (Nat × Nat)} {ws:Ws} {now:Int} {tb:Tb} {no:Option (Nat × Nat)}
end
theorem ji6 {ws ws':Ws} {fd:Int} (h : ∀ n k,AtW ws' n k fd↔AtW ws n k fd):atS ws' fd=atS ws fd:=by
 have e:(fun p:Nat × Nat=>AtW ws' p.1 p.2 fd)=fun p=>AtW ws p.1 p.2 fd:=by funext p;exact propext (h p.1 p.2)
 have e2:(∃ p:Nat × Nat,AtW ws' p.1 p.2 fd) = ∃ p:Nat × Nat,AtW ws p.1 p.2 fd:=congrArg Exists e
 unfold atS
 by_cases hx : ∃ p:Nat × Nat,AtW ws p.1 p.2 fd
 ·have hx' : ∃ p:Nat × Nat,AtW ws' p.1 p.2 fd:=e2 ▸ hx
  rw [dif_pos hx,dif_pos hx']
  congr 2
 ·have hx' : ¬ ∃ p:Nat × Nat,AtW ws' p.1 p.2 fd:=e2 ▸ hx
  rw [dif_neg hx,dif_neg hx']
section
variable {h h':H} {w s:Nat} {ow:Nat->Nat} {f:Nat->Option (Nat × Nat)} {l:List WX} {now:Int} {tb:Tb} {no:Option (Nat × Nat)} {n k m:Nat} {t:WX}
end
section
variable {cl:Nat->Call} (hcl:Sem cl) {h:H} {w s:Nat} {ow:Nat->Nat} {ws:Ws} {now:Int} {tb:Tb} {no:Option (Nat × Nat)}
include hcl
end
section
variable {cl:Nat->Call} (hcl:Sem cl)
include hcl
end
section
variable {v:V} {now no si:Int} {hd:Nat->Bool} {ct:Nat->Int}
end
section
variable {cl:Nat->Call} (hcl:Sem cl)
include hcl
end
section
variable {cl:Nat->Call} (hcl:Sem cl)
include hcl
end
section
variable {cl:Nat->Call} (hcl:Sem cl)
include hcl
end
end Am.Sigs
