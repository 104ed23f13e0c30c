/- Our own library, part 16. -/
import Derived.KernelRfl
import Derived.Test.YtfajaihbhmbpnaaGreatDoorZ11
import Derived.Test.YtfajaihbhmbpnaaGreatDoorZ10
import Derived.Test.YtfajaihbhmbpnaaGreatDoorZ15
import Derived.Test.YtfajaihbhmbpnaaGreatDoorZ09
import Derived.Test.YtfajaihbhmbpnaaGreatDoorZ14
set_option maxHeartbeats 8000000
set_option maxRecDepth 800
set_option linter.all false
namespace Am.Sigs
open Am Go
abbrev fuel:Nat:=100000
def Sem (cl:Nat->Call):Prop:=(∀ d,cl d=jax prog fuel d) \/ ∀ d,cl d=jax jaJ fuel d
theorem primT {f:Nat} (h:jaL prog.prims f=none):jaL jaJ.prims f=none:=by
 unfold prog at h
 simp only [jaL] at h
 revert h
 generalize Nat.beq _ f=b
 cases b with
 | true=>intro h;cases h
 | false=>exact fun h=>h
theorem at_ {cl:Nat->Call} (hcl:Sem cl) {d f:Nat} {fn:AFn} {args:List V} {h:H} {R:V->H->Prop} (hd:0<d) (hp:jaL prog.prims f=none) (hf:jaL prog.fns f=some fn) (hl:(args.length == fn.np)=true)
  (k:Run (cl (d-1)) fuel fn.body [] (Env.ofArgs args 0) h (Fin fn.res R)) : ∃ v h',cl d (.fn f) args h=some (v,h')/\R v h':=by
 rcases hcl with hcl | hcl
 ·rw [hcl d];rw [hcl (d-1)] at k;exact jff hd hp hf hl k
 ·rw [hcl d];rw [hcl (d-1)] at k;exact jff hd (primT hp) hf hl k
theorem aT {cl:Nat->Call} (hcl:Sem cl) {d f:Nat} {fn:AFn} {args:List V} {h:H} {R:V->H->Prop} (k:Run (cl (d-1)) fuel fn.body [] (Env.ofArgs args 0) h (Fin fn.res R)) (hd:0<d:=by omega) (hp:jaL prog.prims f=none:=by exact rfl) (hf:jaL prog.fns f=some fn:=by exact rfl) (hl:(args.length==fn.np)=true:=by exact rfl):∃ v h',cl d (.fn f) args h=some (v,h') /\ R v h':=at_ hcl hd hp hf hl k
theorem same_in {cl:Nat->Call} (hcl : ∀ d,cl d=jax prog fuel d) {d:Nat} {t:Tgt} {args:List V} {h h' h2:H} {v:V} {X:Nat->Option Obj} (hr:jax prog fuel d t args h=some (v,h')) (x:Ext X h h2) : ∃ h2',cl d t args h2=some (v,h2')/\Ext X h' h2':=by
 rw [hcl d];exact (jbo primsF fuel d).1 _ _ _ _ _ hr _ _ x
def ran (r:Option (V × H)) (p:V->H->Bool):Bool:=match r with
 | some (v,h')=>p v h'
 | none=>false
theorem ran_ex {r:Option (V × H)} {p:V->H->Bool} (hr:ran r p=true) : ∃ v h',r=some (v,h')/\p v h'=true:=by
 cases r with
 | none=>cases hr
 | some x=>exact ⟨x.1,x.2,rfl,hr⟩
def jgb:V->Bool
 | .bool b=>b
 | _=>false
theorem isTrue_eq {v:V} (h:jgb v=true):v = .bool true:=by
 cases v<;>simp_all [jgb]
def isS:Option Obj->Nat
 | some _=>1
 | none=>0
end Am.Sigs
namespace Am
open Go
section
variable {call:Call} {fuel base:Nat} {K:List Fr} {e:Env} {h h':H} {Q:Post} {ix:Nat} {dst:Option Nat} {ops:List Ins} {keep:List Nat} {at_:Option Nat} {c:List (Nat × I × Option (Nat × Bool))}
def Cap.fits:Cap->Nat->Nat->Prop
 | .fix k,n,_=>n<=k
 | .grow q,_,sz=>q=sz
end
theorem Row.one {N sz n:Nat} {h:H} {v:V} {cs:List V} (r:Row N h sz v n cs):v.one=true:=by
 rcases r with ⟨_,_,rfl⟩ | ⟨q,_,_,rfl,_⟩<;>rfl
end Am
namespace Am.Sigs
open Am Go
structure En where
 what:Int
 fd:Int
 ring:Option (List UInt8)
 writes:Bool
 shut:Bool
 inn:Int
 out:Int
def En.ptr:Option (List UInt8)->Nat->V
 | none,_=>.ptr none
 | some _,r=>.p r 0
def En.cells (x:En) (r:Nat):List V:=[.i x.what,.i x.fd,En.ptr x.ring r,.bool x.writes,.bool x.shut,.int .u64 x.inn,.int .u64 x.out]
structure Wi where
 e0:En
 e1:En
 cap:Nat
 reset:Bool
 backlog:Int
 waiting:List Int
def Wi.cells (x:Wi) (r0 r1:Nat) (wv:V):List V:=x.e0.cells r0++(x.e1.cells r1++[.bool x.reset,.i x.backlog,wv])
def Wi.obj (x:Wi) (r0 r1:Nat) (wv:V):Obj := .cells (x.cells r0 r1 wv) false
def upu (n:Int):Int:=IntKind.wrap .u64 (n+1)
def En.came (x:En) (i o:Bool):En := { x with inn:=if i&&x.ring.isSome then upu x.inn else x.inn,out:=if o&&x.writes then upu x.out else x.out }
def Wi.e (x:Wi):Nat->En
 | 0=>x.e0
 | _=>x.e1
def Wi.put (x:Wi) (k:Nat) (e:En):Wi:=match k with
 | 0=>{ x with e0:=e }
 | _=>{ x with e1:=e }
def Wi.came (x:Wi) (k:Nat) (i o:Bool):Wi:=x.put k ((x.e k).came i o)
section
variable {cl:Nat->Call} (hcl:Sem cl)
include hcl
end
structure RX where
 x:Wi
 v0:V
 v1:V
 vw:V
def En.rcells (e:En) (v:V):List V:=[.i e.what,.i e.fd,.bool e.ring.isSome,.bool e.writes,v,.bool e.shut,.int .u64 e.inn,.int .u64 e.out]
def RX.cells (r:RX):List V:=r.x.e0.rcells r.v0++(r.x.e1.rcells r.v1++[.i r.x.cap,.bool r.x.reset,.i r.x.backlog,r.vw])
def RX.v (r:RX):Nat->V
 | 0=>r.v0
 | _=>r.v1
def rows (l:List RX):List V:=(l.map RX.cells).flatten
theorem RX.len (r:RX):r.cells.length=20:=by simp [RX.cells,En.rcells]
theorem je8 (l:List RX):(rows l).length=l.length*20:=by
 induction l with
 | nil=>rfl
 | cons r l ih=>simp only [rows,List.map_cons,zC,ze,RX.len] at ih ⊢;rw [ih];simp [Nat.add_mul];omega
theorem je9 (l l':List RX):rows (l++l')=rows l++rows l':=by simp [rows]
section
variable {l:List RX} {n k:Nat} {r:RX}
theorem r_lt (hr:l[n]?=some r):n<l.length:=by
 rcases zr n l.length with h | h
 ·exact h
 ·rw [zc h] at hr;cases hr
end
theorem get_set {l:List RX} {n:Nat} {r r':RX} (hr:l[n]?=some r):(l.set n r')[n]?=some r':=by
 rw [zg,zq rfl,zq (r_lt hr)]
structure RAt (h:H) (rw q:Nat) (l:List RX) (tl:List V):Prop where
 hw:h.get rw=some (.cells (.slice (some (q,0)) l.length (.grow 20) :: tl) false)
 hq:h.get q=some (.cells (rows l) false)
 ne:rw≠q
theorem RAt.upd {h h':H} {rw q:Nat} {l l':List RX} {tl:List V} (a:RAt h rw q l tl) (u:Upd q (.cells (rows l') false) h h') (hl:l'.length=l.length):RAt h' rw q l' tl :=
 ⟨by rw [u.get _ a.ne,a.hw,hl],u.self,a.ne⟩
theorem RAt.set {h:H} {rw q n o:Nat} {l:List RX} {tl:List V} {r r':RX} {v:V} (a:RAt h rw q l tl) (hr:l[n]?=some r) (e:(rows l).set o v=rows (l.set n r')) :
  RAt (h.set q (.cells ((rows l).set o v) false)) rw q (l.set n r') tl:=by
 rw [e];exact a.upd Upd.set Zb
def RX.came (r:RX) (k:Nat) (i o:Bool):RX := { r with x:=r.x.came k i o }
section
variable {cl:Nat->Call} (hcl:Sem cl)
include hcl
end
abbrev bts (l:List UInt8):List V:=l.map jfE
structure RingC (h:H) (r bb:Nat) (buf:List UInt8) (frm n cap:Nat) (inn out:Int):Prop where
 hr:h.get r=some (.cells [.slice (some (bb,0)) cap (.fix cap),.i frm,.i n,.int .u64 inn,.int .u64 out,.bool true] false)
 hb:h.get bb=some (.cells (bts buf) false)
structure RingV (buf q:List UInt8) (frm cap:Nat):Prop where
 len:buf.length=cap
 flt:frm<cap
 fit:q.length<=cap
 small:cap<=65536
 at_ : ∀ i,i<q.length->buf[(frm+i)%cap]?=q[i]?
def jbq (h:H) (r bb:Nat) (q:List UInt8) (cap:Nat):Prop := ∃ buf frm inn out,RingC h r bb buf frm q.length cap inn out/\RingV buf q frm cap
theorem jbq.keep {h h':H} {r bb:Nat} {q:List UInt8} {cap:Nat} (a:jbq h r bb q cap) (h1:h'.get r=h.get r) (h2:h'.get bb=h.get bb):jbq h' r bb q cap:=by
 obtain ⟨buf,frm,inn,out,c,v⟩:=a
 exact ⟨buf,frm,inn,out,⟨by rw [h1,c.hr],by rw [h2,c.hb]⟩,v⟩
section
variable {cl:Nat->Call} (hcl:Sem cl)
include hcl
end
structure BytesAt (h:H) (a:Option (Nat × Nat)) (c:Cap) (l:List UInt8):Prop where
 none_:a=none->c = .fix 0/\l=[]
 fits:c.fits l.length 1
 at_:l≠[] -> ∃ b o cs ro,a=some (b,o)/\b<h.nx/\h.get b=some (.cells cs ro) /\ ∀ (i:Nat) (x:UInt8),l[i]?=some x->cs[o+i]?=some (jfE x)
theorem jbq.of {h:H} {r bb cap frm:Nat} {buf q:List UInt8} {f n inn out:Int} (hr:h.get r=some (.cells [.slice (some (bb,0)) cap (.fix cap),.i f,.i n,.int .u64 inn,.int .u64 out,.bool true] false)) (hb:h.get bb=some (.cells (bts buf) false))
  (hf:f=frm) (hn:n=q.length) (v:RingV buf q frm cap):jbq h r bb q cap:=by
 subst hf hn
 exact ⟨buf,frm,inn,out,⟨hr,hb⟩,v⟩
section
variable {cl:Nat->Call} (hcl:Sem cl)
include hcl
end
def VB (h:H) (v:V) (l:List UInt8):Prop := ∃ a c,v = .slice a l.length c/\BytesAt h a c l
theorem VB.keep {h h':H} {v:V} {l:List UInt8} (a:VB h v l) (hx:h.nx<=h'.nx) (hk : ∀ z,v.at?=some z->h'.get z=h.get z):VB h' v l:=by
 obtain ⟨a,c,rfl,n,f,g⟩:=a
 refine ⟨a,c,rfl,n,f,fun hl=>?_⟩
 obtain ⟨b,o,cs,ro,rfl,h1,h2,h3⟩:=g hl
 exact ⟨b,o,cs,ro,rfl,by omega,by rw [hk b rfl,h2],h3⟩
theorem VB.keep2 {h h':H} {v:V} {l:List UInt8} (a:VB h v l) (hx:h.nx<=h'.nx) (hk:l≠[] -> ∀ z,v.at?=some z->h'.get z=h.get z):VB h' v l:=by
 obtain ⟨a,c,rfl,n,f,g⟩:=a
 refine ⟨a,c,rfl,n,f,fun hl=>?_⟩
 obtain ⟨b,o,cs,ro,rfl,h1,h2,h3⟩:=g hl
 exact ⟨b,o,cs,ro,rfl,by omega,by rw [hk hl b rfl,h2],h3⟩
theorem VB.nil (h:H):VB h .nils []:=⟨none,.fix 0,rfl,fun _=>⟨rfl,rfl⟩,zn _,fun h=>zx rfl h⟩
theorem VB.one {h:H} {v:V} {l:List UInt8} (a:VB h v l):v.one=true:=by obtain ⟨a,c,rfl,_⟩:=a;rfl
def VI (h:H) (v:V) (l:List Int):Prop := ∃ a c,v = .slice a l.length c/\(a=none->c = .fix 0/\l=[])/\c.fits l.length 1/\(l≠[] -> ∃ b o cs ro,a=some (b,o)/\b<h.nx/\h.get b=some (.cells cs ro) /\ ∀ (i:Nat) (x:Int),l[i]?=some x->cs[o+i]?=some (.i x))
theorem VI.keep {h h':H} {v:V} {l:List Int} (a:VI h v l) (hx:h.nx<=h'.nx) (hk : ∀ z,v.at?=some z->h'.get z=h.get z):VI h' v l:=by
 obtain ⟨a,c,rfl,n,f,g⟩:=a
 refine ⟨a,c,rfl,n,f,fun hl=>?_⟩
 obtain ⟨b,o,cs,ro,rfl,h1,h2,h3⟩:=g hl
 exact ⟨b,o,cs,ro,rfl,by omega,by rw [hk b rfl,h2],h3⟩
theorem VI.nil (h:H):VI h .nils []:=⟨none,.fix 0,rfl,fun _=>⟨rfl,rfl⟩,zn _,fun h=>zx rfl h⟩
theorem VI.one {h:H} {v:V} {l:List Int} (a:VI h v l):v.one=true:=by obtain ⟨a,c,rfl,_⟩:=a;rfl
section
variable {call:Call} {fuel base:Nat} {ops:List Ins} {keep:List Nat} {K:List Fr} {e:Env} {h:H} {Q:Post} {ix:Nat} {dst at_:Option Nat}
end
structure ROk (h:H) (rw q:Nat) (r:RX):Prop where
 b : ∀ k,k=0\/k=1->VB h (r.v k) ((r.x.e k).ring.getD []) /\ ∀ z,(r.v k).at?=some z->z≠q/\z≠rw/\z<h.nx
 w:VI h r.vw r.x.waiting /\ ∀ z,r.vw.at?=some z->z≠q/\z≠rw/\z<h.nx
theorem ROk.keep {h h':H} {rw q:Nat} {r:RX} (a:ROk h rw q r) (c:Ch (fun j=>j=q\/j=rw) h h'):ROk h' rw q r:=by
 refine ⟨fun k hk=>?_,?_⟩
 ·obtain ⟨p,s⟩:=a.b k hk
  refine ⟨p.keep c.nx fun z hz=>c.get z (s z hz).2.2 fun e=>?_,fun z hz=>⟨(s z hz).1,(s z hz).2.1,zo (s z hz).2.2 c.nx⟩⟩
  rcases e with e | e
  ·exact (s z hz).1 e
  ·exact (s z hz).2.1 e
 ·obtain ⟨p,s⟩:=a.w
  refine ⟨p.keep c.nx fun z hz=>c.get z (s z hz).2.2 fun e=>?_,fun z hz=>⟨(s z hz).1,(s z hz).2.1,zo (s z hz).2.2 c.nx⟩⟩
  rcases e with e | e
  ·exact (s z hz).1 e
  ·exact (s z hz).2.1 e
structure RW (h:H) (rw q:Nat) (l:List RX) (tl:List V):Prop where
 lw:rw<h.nx
 lq:q<h.nx
 ne:rw≠q
 at_:l≠[]->RAt h rw q l tl
 nil:l=[]->h.get rw=some (.cells (.nils :: tl) false)
 ok : ∀ r∈l,ROk h rw q r
abbrev RC (rw q:Nat):Nat->Prop:=fun j=>j=q\/j=rw
theorem RW.rat {h:H} {rw q n:Nat} {l:List RX} {tl:List V} {r:RX} (w:RW h rw q l tl) (hr:l[n]?=some r):RAt h rw q l tl:=w.at_ (by rintro rfl;simp at hr)
theorem RW.head {h:H} {rw q:Nat} {l:List RX} {tl:List V} (w:RW h rw q l tl) : ∃ a c,h.get rw=some (.cells (.slice a l.length c :: tl) false)/\(l≠[]->a=some (q,0)/\c = .grow 20):=by
 by_cases hl:l=[]
 ·subst hl;exact ⟨none,.fix 0,w.nil rfl,fun h=>zx rfl h⟩
 ·exact ⟨_,_,(w.at_ hl).hw,fun _=>⟨rfl,rfl⟩⟩
theorem RW.set {h h':H} {rw q n:Nat} {l:List RX} {tl:List V} {r r':RX} (w:RW h rw q l tl) (hr:l[n]?=some r) (u:Upd q (.cells (rows (l.set n r')) false) h h') (hk:ROk h rw q r'):RW h' rw q (l.set n r') tl:=by
 have ch:Ch (RC rw q) h h':=u.ch (.inl rfl)
 refine ⟨by rw [u.nx];exact w.lw,by rw [u.nx];exact w.lq,w.ne,fun _=>(w.rat hr).upd u Zb,fun e=>?_,fun s hs=>?_⟩
 ·have h1:=congrArg List.length e
  have h2:=r_lt hr
  simp only [List.length_set,List.length_nil] at h1
  omega
 ·rcases List.mem_or_eq_of_mem_set hs with h1 | rfl
  ·exact (w.ok s h1).keep ch
  ·exact hk.keep ch
theorem ROk.same {h:H} {rw q:Nat} {r r':RX} (a:ROk h rw q r) (h0:r'.v0=r.v0) (h1:r'.v1=r.v1) (hw:r'.vw=r.vw) (e0:r'.x.e0.ring=r.x.e0.ring) (e1:r'.x.e1.ring=r.x.e1.ring) (e2:r'.x.waiting=r.x.waiting):ROk h rw q r':=by
 refine ⟨fun k hk=>?_,by rw [hw,e2];exact a.w⟩
 have:=a.b k hk
 rcases hk with rfl | rfl
 ·simp only [RX.v,Wi.e] at this ⊢;rw [h0,e0];exact this
 ·simp only [RX.v,Wi.e] at this ⊢;rw [h1,e1];exact this
theorem ROk.came {h:H} {rw q k:Nat} {r:RX} (a:ROk h rw q r) (hk:k=0\/k=1) (i o:Bool):ROk h rw q (r.came k i o):=by
 rcases hk with rfl | rfl
 ·exact a.same rfl rfl rfl rfl rfl rfl
 ·exact a.same rfl rfl rfl rfl rfl rfl
section
variable {cl:Nat->Call} (hcl:Sem cl)
include hcl
end
section
variable {cl:Nat->Call} (hcl:Sem cl)
include hcl
end
def two (a b:Nat):Nat->Nat
 | 0=>a
 | _=>b
def Wi.setq (x:Wi) (k:Nat) (q:List UInt8):Wi:=x.put k { x.e k with ring:=some q }
theorem Wi.setq_cells {x:Wi} {r0 r1 k:Nat} {wv:V} {q q':List UInt8} (hk:k=0\/k=1) (hq:(x.e k).ring=some q):(x.setq k q').cells r0 r1 wv=x.cells r0 r1 wv:=by
 rcases hk with rfl | rfl
 ·have hq:x.e0.ring=some q:=hq
  simp [Wi.setq,Wi.put,Wi.e,Wi.cells,En.cells,hq,En.ptr]
 ·have hq:x.e1.ring=some q:=hq
  simp [Wi.setq,Wi.put,Wi.e,Wi.cells,En.cells,hq,En.ptr]
def Wi.take (x:Wi) (k m:Nat) (q:List UInt8):Wi:=(x.setq k (q.drop m)).came (1-k) false (decide (0<m))
def Wi.fill (x:Wi) (k m:Nat) (q l:List UInt8):Wi:=(x.setq (1-k) (q++l.take m)).came (1-k) (decide (0<m)) false
section
variable {cl:Nat->Call} (hcl:Sem cl)
include hcl
end
section
variable {call:Call} {fuel base:Nat} {ops:List Ins} {keep:List Nat} {K:List Fr} {e:Env} {h:H} {Q:Post} {ix:Nat} {dst:Option Nat} {c:List (Nat × I × Option (Nat × Bool))}
end
def RX.putv (r:RX) (k:Nat) (v:V) (b:List UInt8):RX:=match k with
 | 0=>{ r with x:=r.x.setq 0 b,v0:=v }
 | _=>{ r with x:=r.x.setq 1 b,v1:=v }
theorem ROk.putv {h:H} {rw q k:Nat} {r:RX} {v:V} {b:List UInt8} (a:ROk h rw q r) (hk:k=0\/k=1) (hv:VB h v b) (hz : ∀ z,v.at?=some z->z≠q/\z≠rw/\z<h.nx):ROk h rw q (r.putv k v b):=by
 refine ⟨fun j hj=>?_,?_⟩
 ·have ha:=a.b j hj
  rcases hk with rfl | rfl<;>rcases hj with rfl | rfl
  ·exact ⟨hv,hz⟩
  ·exact ha
  ·exact ha
  ·exact ⟨hv,hz⟩
 ·rcases hk with rfl | rfl<;>exact a.w
def RX.take (r:RX) (k m:Nat) (b:List UInt8) (v:V):RX:=(r.putv k v (b.drop m)).came (1-k) false (decide (0<m))
def RX.fill (r:RX) (k m:Nat) (b l:List UInt8) (v:V):RX:=(r.putv (1-k) v (b++l.take m)).came (1-k) (decide (0<m)) false
section
variable {cl:Nat->Call} (hcl:Sem cl)
include hcl
end
theorem ROk.put {h:H} {rw q k:Nat} {r:RX} (a:ROk h rw q r) (hk:k=0\/k=1) {e:En} (he:e.ring=(r.x.e k).ring):ROk h rw q { r with x:=r.x.put k e } := by
 rcases hk with rfl | rfl
 ·exact a.same rfl rfl rfl he rfl rfl
 ·exact a.same rfl rfl rfl rfl he rfl
section
variable {cl:Nat->Call} (hcl:Sem cl)
include hcl
end
abbrev Ws:=List Wi
def AtW (ws:Ws) (n k:Nat) (fd:Int):Prop := ∃ x,ws[n]?=some x/\(k=0\/k=1)/\(x.e k).what=1/\(x.e k).fd=fd
def Uniq (ws:Ws):Prop := ∀ n k n' k' fd,AtW ws n k fd->AtW ws n' k' fd->n=n'/\k=k'
open Classical in
noncomputable def atS (ws:Ws) (fd:Int):Option (Nat × Nat):=if h : ∃ p:Nat × Nat,AtW ws p.1 p.2 fd then some h.choose else none
theorem map_set {l:List RX} {n:Nat} {r:RX} : (l.set n r).map RX.x=(l.map RX.x).set n r.x:=List.map_set
abbrev WhV (x:Wi):Prop:=(0<=x.e0.what/\x.e0.what<=3)/\0<=x.e1.what/\x.e1.what<=3
structure WiOk (x:Wi):Prop where
 cap0:1<=x.cap
 cap1:x.cap<=65536
 len : ∀ k,k=0\/k=1 -> ∀ q,(x.e k).ring=some q->q.length<=x.cap
 pair : ∀ k,k=0\/k=1->((x.e k).writes=true↔(x.e (1-k)).ring≠none)
 out:x.e1.what=2->x.e0.ring≠none/\x.e1.ring≠none
 bl:0<=x.backlog/\x.backlog<=64
 wh:WhV x
structure WsOk (ws:Ws):Prop where
 uniq:Uniq ws
 ok : ∀ x∈ws,WiOk x
 len:ws.length<=1000
 wait : ∀ x∈ws,x.waiting.length<=64 /\ ∀ m∈x.waiting,∃ y:Wi,0<=m/\ws[m.toNat]?=some y/\y.e0.what=0
theorem map_get {l:List RX} {n:Nat} {r:RX} (hr:l[n]?=some r):(l.map RX.x)[n]?=some r.x:=by simp [hr]
theorem WsOk.wi {l:List RX} {n:Nat} {r:RX} (o:WsOk (l.map RX.x)) (hr:l[n]?=some r):WiOk r.x:=o.ok _ (zb (map_get hr))
section
variable {cl:Nat->Call} (hcl:Sem cl)
include hcl
end
section
variable {cl:Nat->Call} (hcl:Sem cl)
include hcl
end
theorem VI.cell {h:H} {l:List Int} {a:Option (Nat × Nat)} {c:Cap} {i:Nat} {x:Int} (hv:VI h (.slice a l.length c) l) (hi:l[i]?=some x) : ∃ b o cs ro,a=some (b,o)/\h.get b=some (.cells cs ro)/\cs[o+(i:Int).toNat*1]?=some (.i x):=by
 obtain ⟨a',c',e,_,_,g⟩:=hv
 cases e
 obtain ⟨b,o,cs,ro,rfl,h1,h2,h3⟩:=g (by rintro rfl;simp at hi)
 exact ⟨b,o,cs,ro,rfl,h2,by rw [show o+(i:Int).toNat*1=o+i by omega];exact h3 _ _ hi⟩
section
variable {cl:Nat->Call} (hcl:Sem cl)
include hcl
end
def RX.reset (r:RX):RX := { r with x := { r.x with reset:=true } }
section
variable {cl:Nat->Call} (hcl:Sem cl)
include hcl
end
structure WAt (h:H) (w:Nat) (wl:List V) (s wsb wn:Nat) (wcap:Cap) (wsl:List V):Prop where
 hw:h.get w=some (.cells wl false)
 hs:wl[0+289]?=some (.p s 0)
 hws:wl[0+288]?=some (.slice (some (wsb,0)) wn wcap)
 hb:h.get wsb=some (.cells wsl false)
theorem WAt.keep {h h':H} {w:Nat} {wl:List V} {s wsb wn:Nat} {wcap:Cap} {wsl:List V} (a:WAt h w wl s wsb wn wcap wsl) (h1:h'.get w=h.get w) (h2:h'.get wsb=h.get wsb):WAt h' w wl s wsb wn wcap wsl :=
 ⟨by rw [h1,a.hw],a.hs,a.hws,by rw [h2,a.hb]⟩
structure FdAt (wl wsl:List V) (wn fd n k wb:Nat):Prop where
 small:fd<=95
 op:wl[fd*3]?=some (.bool true)
 wi:wl[fd*3+1]?=some (.i (n:Int))
 en:wl[fd*3+2]?=some (.i (k:Int))
 lt:n<wn
 at_:wsl[n]?=some (.p wb 0)
 k01:k=0\/k=1
section
variable {cl:Nat->Call} (hcl:Sem cl)
include hcl
end
def Wi.rIn (x:Wi) (k:Nat):Bool:=match (x.e k).ring with
 | none=>false
 | some q=>!q.isEmpty||(x.e (1-k)).what == 3||(x.e (1-k)).shut||x.reset
def Wi.rOut (x:Wi) (k:Nat):Bool:=(x.e k).writes && !(x.e k).shut&&(decide ((((x.e (1-k)).ring.getD []).length:Int)<x.cap)||(x.e (1-k)).what == 3||x.reset)
def Wi.ready (x:Wi) (k:Nat):List V :=
 if 0<x.backlog then [.bool true,.bool (!x.waiting.isEmpty),.bool false,.bool false,.bool false,.int .u64 (x.e k).inn,.int .u64 (x.e k).out]
 else [.bool true,.bool (x.rIn k),.bool (x.rOut k),.bool ((x.e (1-k)).what == 3),.bool x.reset,.int .u64 (x.e k).inn,.int .u64 (x.e k).out]
section
variable {cl:Nat->Call} (hcl:Sem cl)
include hcl
end
section
variable {cl:Nat->Call} (hcl:Sem cl)
include hcl
end
section
variable {cl:Nat->Call} (hcl:Sem cl)
include hcl
end
def sgc (hd:Nat->Bool) (pd:Nat->Int):List V:=tab 32 (fun k=>.bool (hd k))++tab 32 (fun k=>.i (pd k))
abbrev sig? (s:Int):Prop:=1<=s/\s<=31
structure Tb where
 hd:Nat->Bool
 pd:Nat->Int
def Tb.obj (t:Tb):Obj := .cells (sgc t.hd t.pd) false
def Tb.zero:Tb:=⟨fun _=>false,fun _=>0⟩
def Tb.has (t:Tb) (s:Int):Bool:=decide (sig? s)&&t.hd s.toNat
def Tb.ok (t:Tb) (n:Int):Prop := ∀ k,0<=t.pd k/\t.pd k<=n
abbrev ints (l:List Int):List V:=l.map V.i
def Tb.take (t:Tb):Tb:=⟨t.hd,fun j=>if 1<=j/\j<32 then 0 else t.pd j⟩
def Old (h h':H):Prop:=h.nx<=h'.nx /\ ∀ j,j<h.nx->h'.get j=h.get j
theorem Old.refl (h:H):Old h h:=⟨zn _,fun _ _=>rfl⟩
theorem Old.trans {h h1 h2:H} (a:Old h h1) (b:Old h1 h2):Old h h2:=⟨zu a.1 b.1,fun j hj=>by rw [b.2 j (zo hj a.1),a.2 j hj]⟩
theorem Old.ch {h h':H} {B:Nat->Prop} (a:Old h h'):Ch B h h':=⟨a.1,fun j hj _=>a.2 j hj⟩
theorem RW.old {h h':H} {rw q:Nat} {l:List RX} {tl:List V} (w:RW h rw q l tl) (a:Old h h'):RW h' rw q l tl :=
 ⟨zo w.lw a.1,zo w.lq a.1,w.ne,fun hl=>⟨by rw [a.2 _ w.lw,(w.at_ hl).hw],by rw [a.2 _ w.lq,(w.at_ hl).hq],w.ne⟩,fun hl=>by rw [a.2 _ w.lw,w.nil hl],fun s hs=>(w.ok s hs).keep a.ch⟩
section
variable {cl:Nat->Call} (hcl:Sem cl)
include hcl
end
section
variable {cl:Nat->Call} (hcl:Sem cl)
include hcl
end
section
variable {cl:Nat->Call} (hcl:Sem cl)
include hcl
end
def pc:Option (Nat × Nat)->Nat->V
 | none,0=>.bool false
 | none,_=>.i 0
 | some _,0=>.bool true
 | some p,1=>.i (p.1:Int)
 | some p,_=>.i (p.2:Int)
def plc (p:Option (Nat × Nat)):List V:=[pc p 0,pc p 1,pc p 2]
def jdE (f:Nat->Option (Nat × Nat)):List V:=tab 288 fun j=>pc (f (j/3)) (j%3)
theorem jeu (f:Nat->Option (Nat × Nat)):(jdE f).length=288:=by simp [jdE]
theorem fdTab_set {f g:Nat->Option (Nat × Nat)} {i o:Nat} {p:Option (Nat × Nat)} (hi:i<96) (ho:o=i*3) (hg : ∀ j,j<96->g j=if j=i then p else f j):ja7 (jdE f) o (plc p)=jdE g:=by
 subst ho
 show (((jdE f).set (i*3) (pc p 0)).set (i*3+1) (pc p 1)).set (i*3+1+1) (pc p 2)=_
 unfold jdE
 rw [je3,je3,je3]
 refine jdN fun j hj=>?_
 rw [hg (j/3) om]
 by_cases h2:j=i*3+1+1
 ·subst h2
  rw [zq rfl,zq om,show (i*3+1+1)%3=2 by omega]
 rw [zp h2]
 by_cases h1:j=i*3+1
 ·subst h1
  rw [zq rfl,zq om,show (i*3+1)%3=1 by omega]
 rw [zp h1]
 by_cases h0:j=i*3
 ·subst h0
  rw [zq rfl,zq om,show (i*3)%3=0 by omega]
 rw [zp h0,zp om]
theorem jeM {f g:Nat->Option (Nat × Nat)} (h : ∀ j,j<96->f j=g j):jdE f=jdE g:=jdN fun j hj=>by rw [h (j/3) om]
def wc (f:Nat->Option (Nat × Nat)) (wv:V) (s:Nat) (now:Int) (no:Option (Nat × Nat)):List V:=jdE f++([wv,.p s 0,.int .u64 now]++plc no)
section
variable {f:Nat->Option (Nat × Nat)} {wv:V} {s o:Nat} {now:Int} {no:Option (Nat × Nat)}
theorem jco {a b vs:List V} {o:Nat} (h:o+vs.length<=a.length):ja7 (a++b) o vs=ja7 a o vs++b:=by
 induction vs generalizing a o with
 | nil=>rfl
 | cons v r ih=>
  have h':o+(r.length+1)<=a.length:=h
  rw [jc1,jc1,List.set_append,zq om,ih Za]
theorem wc_set_fd {g:Nat->Option (Nat × Nat)} {i:Nat} {p:Option (Nat × Nat)} (hi:i<96) (ho:o=i*3) (hg : ∀ j,j<96->g j=if j=i then p else f j):ja7 (wc f wv s now no) o (plc p)=wc g wv s now no:=by
 unfold wc
 rw [jco (by rw [jeu];show o+3<=_;omega),fdTab_set hi ho hg]
end
structure WX where
 x:Wi
 wb:Nat
 r0:Nat
 b0:Nat
 r1:Nat
 b1:Nat
 wv:V
def WX.r (t:WX):Nat->Nat:=two t.r0 t.r1
def WX.b (t:WX):Nat->Nat:=two t.b0 t.b1
theorem VI.keep2 {h h':H} {v:V} {l:List Int} (a:VI h v l) (hx:h.nx<=h'.nx) (hk:l≠[] -> ∀ z,v.at?=some z->h'.get z=h.get z):VI h' v l:=by
 obtain ⟨a,c,rfl,n,f,g⟩:=a
 refine ⟨a,c,rfl,n,f,fun hl=>?_⟩
 obtain ⟨b,o,cs,ro,rfl,h1,h2,h3⟩:=g hl
 exact ⟨b,o,cs,ro,rfl,by omega,by rw [hk hl b rfl,h2],h3⟩
structure XOk (h:H) (ow:Nat->Nat) (n:Nat) (t:WX):Prop where
 hx:h.get t.wb=some (t.x.obj t.r0 t.r1 t.wv)
 ox:ow t.wb=10*n+10
 lx:t.wb<h.nx
 ring : ∀ k,k=0\/k=1 -> ∀ q,(t.x.e k).ring=some q->jbq h (t.r k) (t.b k) q t.x.cap/\ow (t.r k)=10*n+11+2*k/\ow (t.b k)=10*n+12+2*k/\t.r k<h.nx/\t.b k<h.nx
 wait:VI h t.wv t.x.waiting/\(t.x.waiting≠[] -> ∀ z,t.wv.at?=some z->ow z=10*n+15/\z<h.nx)
theorem XOk.keep {h h':H} {ow:Nat->Nat} {n:Nat} {t:WX} (a:XOk h ow n t) (hx:h.nx<=h'.nx) (hk : ∀ j,10*n+10<=ow j->ow j<=10*n+19->h'.get j=h.get j):XOk h' ow n t:=by
 refine ⟨by rw [hk _ (by rw [a.ox];omega) (by rw [a.ox];omega),a.hx],a.ox,zo a.lx hx,fun k h01 q hq=>?_,?_⟩
 ·obtain ⟨p1,p2,p3,p4,p5⟩:=a.ring k h01 q hq
  refine ⟨p1.keep (hk _ ?_ ?_) (hk _ ?_ ?_),p2,p3,zo p4 hx,zo p5 hx⟩<;>omega
 ·refine ⟨a.wait.1.keep2 hx fun hl z hz=>?_,fun hl z hz=>⟨(a.wait.2 hl z hz).1,zo (a.wait.2 hl z hz).2 hx⟩⟩
  have:=(a.wait.2 hl z hz).1
  exact hk z om om
theorem XOk.tag {h:H} {ow ow':Nat->Nat} {n:Nat} {t:WX} (a:XOk h ow n t) (hk : ∀ j,j<h.nx->ow' j=ow j):XOk h ow' n t:=by
 refine ⟨a.hx,by rw [hk _ a.lx,a.ox],a.lx,fun k h01 q hq=>?_,a.wait.1,fun hl z hz=>?_⟩
 ·obtain ⟨p1,p2,p3,p4,p5⟩:=a.ring k h01 q hq
  exact ⟨p1,by rw [hk _ p4,p2],by rw [hk _ p5,p3],p4,p5⟩
 ·obtain ⟨p1,p2⟩:=a.wait.2 hl z hz
  exact ⟨by rw [hk _ p2,p1],p2⟩
abbrev wxs (l:List WX):Ws:=l.map WX.x
abbrev wps (l:List WX):List V:=l.map fun t=>.p t.wb 0
structure WF (h:H) (w s:Nat) (ow:Nat->Nat) (f:Nat->Option (Nat × Nat)) (l:List WX) (now:Int) (t:Tb) (no:Option (Nat × Nat)):Prop where
 hw : ∃ wv,h.get w=some (.cells (wc f wv s now no) false)/\Row 0 h 1 wv l.length (wps l) /\ ∀ z,wv.at?=some z->ow z=2
 hs:h.get s=some t.obj
 tw:ow w=1
 ts:ow s=3
 lw:w<h.nx
 ls:s<h.nx
 top : ∀ j,h.nx<=j->ow j=0
 ok : ∀ n t,l[n]?=some t->XOk h ow n t
section
variable {h h':H} {w s:Nat} {ow:Nat->Nat} {f:Nat->Option (Nat × Nat)} {l:List WX} {now:Int} {t tb:Tb} {no:Option (Nat × Nat)}
theorem WF.keep (a:WF h w s ow f l now t no) (hx:h.nx<=h'.nx) (hk : ∀ j,ow j≠0->h'.get j=h.get j):WF h' w s ow f l now t no:=by
 obtain ⟨wv,p1,p2,p3⟩:=a.hw
 exact ⟨⟨wv,by rw [hk w (by rw [a.tw];omega),p1],p2.keep hx fun z hz=>hk z (by rw [p3 z hz];omega),p3⟩,by rw [hk s (by rw [a.ts];omega),a.hs],a.tw,a.ts,zo a.lw hx,zo a.ls hx,
  fun j hj=>a.top j (zu hx hj),fun n t ht=>(a.ok n t ht).keep hx fun j h1 _=>hk j om⟩
theorem WF.lt_of (a:WF h w s ow f l now t no) {j:Nat} (hj:ow j≠0):j<h.nx:=by
 rcases zr j h.nx with h1 | h1
 ·exact h1
 ·exact zx (a.top j h1) hj
theorem WF.old (a:WF h w s ow f l now t no) (o:Old h h'):WF h' w s ow f l now t no:=a.keep o.1 fun j hj=>o.2 j (a.lt_of hj)
theorem WF.congr {g:Nat->Option (Nat × Nat)} (a:WF h w s ow f l now t no) (e : ∀ j,j<96->g j=f j):WF h w s ow g l now t no:=by
 obtain ⟨wv,p1,p2,p3⟩:=a.hw
 refine ⟨⟨wv,?_,p2,p3⟩,a.hs,a.tw,a.ts,a.lw,a.ls,a.top,a.ok⟩
 rw [p1];unfold wc;rw [jeM e]
theorem WF.head (a:WF h w s ow f l now t no) : ∃ sa c,h.get w=some (.cells (wc f (.slice sa l.length c) s now no) false)/\(l≠[] -> ∃ z,sa=some (z,0)/\z<h.nx/\ow z=2/\h.get z=some (.cells (wps l) false)):=by
 obtain ⟨wv,p1,p2,p3⟩:=a.hw
 rcases p2 with ⟨h1,h2,rfl⟩ | ⟨z,h1,h2,rfl,h4,h5⟩
 ·refine ⟨none,.fix 0,by rw [p1,h1],fun hl=>zx (zl.1 h1) hl⟩
 ·exact ⟨_,_,p1,fun _=>⟨z,rfl,h2,p3 z rfl,h4⟩⟩
end
theorem x_lt {l:List WX} {n:Nat} {t:WX} (hr:l[n]?=some t):n<l.length:=by
 rcases zr n l.length with h | h
 ·exact h
 ·rw [zc h] at hr;cases hr
theorem set_wps {l:List WX} {n:Nat} {t t':WX} (ht:l[n]?=some t) (hb:t'.wb=t.wb):wps (l.set n t')=wps l:=by
 apply List.ext_getElem?
 intro i
 rw [List.getElem?_map,List.getElem?_map,zg]
 by_cases e:n=i
 ·subst e;rw [zq rfl,zq (x_lt ht),ht];simp [hb]
 ·rw [zp e]
theorem jfJ {l:List WX} {n:Nat} {t:WX} : wxs (l.set n t)=(wxs l).set n t.x:=List.map_set
section
variable {h h':H} {w s:Nat} {ow:Nat->Nat} {f:Nat->Option (Nat × Nat)} {l:List WX} {now:Int} {tb:Tb} {no:Option (Nat × Nat)}
theorem WF.turn (a:WF h w s ow f l now tb no) {n:Nat} {t t':WX} (ht:l[n]?=some t) (hx:h.nx<=h'.nx) (hk : ∀ j,ow j≠0 -> ¬ (10*n+10<=ow j/\ow j<=10*n+19)->h'.get j=h.get j) (ok:XOk h' ow n t') (hb:t'.wb=t.wb):WF h' w s ow f (l.set n t') now tb no:=by
 obtain ⟨wv,p1,p2,p3⟩:=a.hw
 refine ⟨⟨wv,by rw [hk w (by rw [a.tw];omega) (by rw [a.tw];omega),p1],?_,p3⟩,by rw [hk s (by rw [a.ts];omega) (by rw [a.ts];omega),a.hs],a.tw,a.ts,zo a.lw hx,zo a.ls hx,fun j hj=>a.top j (zu hx hj),fun m t2 ht2=>?_⟩
 ·rw [List.length_set,set_wps ht hb]
  exact p2.keep hx fun z hz=>hk z (by rw [p3 z hz];omega) (by rw [p3 z hz];omega)
 ·rw [zg] at ht2
  by_cases e:n=m
  ·subst e
   rw [zq rfl,zq (x_lt ht)] at ht2
   cases ht2
   exact ok
  ·rw [zp e] at ht2
   exact (a.ok m t2 ht2).keep hx fun j h1 h2=>hk j om om
theorem WF.step (a:WF h w s ow f l now tb no) {n:Nat} {t:WX} {x':Wi} {B:Nat->Prop} (ht:l[n]?=some t) (ch:Ch B h h') (hB : ∀ j,j<h.nx->B j->10*n+10<=ow j/\ow j<=10*n+14) (ho:h'.get t.wb=some (x'.obj t.r0 t.r1 t.wv)) (hwt:x'.waiting=t.x.waiting)
  (hr : ∀ k,k=0\/k=1 -> ∀ q',(x'.e k).ring=some q' -> ∃ q,(t.x.e k).ring=some q/\jbq h' (t.r k) (t.b k) q' x'.cap):WF h' w s ow f (l.set n { t with x:=x' }) now tb no:=by
 have k:=a.ok n t ht
 have hg : ∀ j,ow j≠0 -> ¬ (10*n+10<=ow j/\ow j<=10*n+14)->h'.get j=h.get j:=fun j hj hn=>ch.get j (a.lt_of hj) fun hb=>hn (hB j (a.lt_of hj) hb)
 refine a.turn ht ch.nx (fun j hj hn=>hg j hj fun ⟨e1,e2⟩=>hn ⟨e1,by omega⟩) ⟨ho,k.ox,zo k.lx ch.nx,fun i hi q' hq'=>?_,?_⟩ rfl
 ·obtain ⟨q,e1,e2⟩:=hr i hi q' hq'
  obtain ⟨_,p2,p3,p4,p5⟩:=k.ring i hi q e1
  exact ⟨e2,p2,p3,zo p4 ch.nx,zo p5 ch.nx⟩
 ·show VI h' t.wv x'.waiting/\(x'.waiting≠[]->_)
  rw [hwt]
  refine ⟨k.wait.1.keep2 ch.nx fun hl z hz=>?_,fun hl z hz=>⟨(k.wait.2 hl z hz).1,zo (k.wait.2 hl z hz).2 ch.nx⟩⟩
  have:=(k.wait.2 hl z hz).1
  exact hg z om om
theorem WF.upd (a:WF h w s ow f l now tb no) {n:Nat} {t:WX} {x':Wi} (ht:l[n]?=some t) (u:Upd t.wb (x'.obj t.r0 t.r1 t.wv) h h') (hwt:x'.waiting=t.x.waiting) (hc:x'.cap=t.x.cap) (hr : ∀ k,k=0\/k=1->(x'.e k).ring=(t.x.e k).ring):WF h' w s ow f (l.set n { t with x:=x' }) now tb no:=by
 have k:=a.ok n t ht
 refine a.step ht (u.ch (B:=fun j=>j=t.wb) rfl) (fun j _ e=>by rw [e,k.ox];omega) u.self hwt fun i hi q' hq'=>?_
 rw [hr i hi] at hq'
 obtain ⟨p1,p2,p3,p4,p5⟩:=k.ring i hi q' hq'
 have k2:=k.ox
 refine ⟨q',hq',?_⟩
 rw [hc]
 refine p1.keep (u.get _ fun e=>?_) (u.get _ fun e=>?_)
 ·rw [e] at p2;omega
 ·rw [e] at p3;omega
end
structure WW (h:H) (w s:Nat) (ow:Nat->Nat) (l:List WX) (now:Int) (t:Tb) (no:Option (Nat × Nat)):Prop where
 wf:WF h w s ow (fun i=>atS (wxs l) (i:Int)) l now t no
 fds : ∀ n k fd,AtW (wxs l) n k fd->0<=fd/\fd<=95
def Wi.SameFd (x y:Wi):Prop := ∀ k,k=0\/k=1->((y.e k).what=1↔(x.e k).what=1)/\((x.e k).what=1->(y.e k).fd=(x.e k).fd)
theorem Wi.SameFd.refl (x:Wi):x.SameFd x:=fun _ _=>⟨Iff.rfl,fun _=>rfl⟩
theorem Wi.SameFd.trans {x y z:Wi} (a:x.SameFd y) (b:y.SameFd z):x.SameFd z:=fun k hk=>⟨(b k hk).1.trans (a k hk).1,fun h=>by rw [(b k hk).2 ((a k hk).1.2 h),(a k hk).2 h]⟩
theorem AtW_set {ws:Ws} {n:Nat} {x y:Wi} (hx:ws[n]?=some x) (hs:x.SameFd y) (m k:Nat) (fd:Int):AtW (ws.set n y) m k fd↔AtW ws m k fd:=by
 unfold AtW
 rw [zg]
 by_cases e:n=m
 ·subst e
  have hlt:n<ws.length:=by
   rcases zr n ws.length with h | h
   ·exact h
   ·rw [zc h] at hx;cases hx
  rw [zq rfl,zq hlt,hx]
  constructor
  ·rintro ⟨_,e0,hk,h1,h2⟩;cases e0;exact ⟨x,rfl,hk,(hs k hk).1.1 h1,by rw [<- (hs k hk).2 ((hs k hk).1.1 h1),h2]⟩
  ·rintro ⟨_,e0,hk,h1,h2⟩;cases e0;exact ⟨y,rfl,hk,(hs k hk).1.2 h1,by rw [(hs k hk).2 h1,h2]⟩
 ·rw [zp e]
theorem atS_congr {ws ws':Ws} (h : ∀ n k fd,AtW ws' n k fd↔AtW ws n k fd) (fd:Int):atS ws' fd=atS ws fd:=by
 have e:AtW ws'=AtW ws:=by funext n k fd;exact propext (h n k fd)
 unfold atS
 rw [e]
section
variable {h h':H} {w s:Nat} {ow:Nat->Nat} {l:List WX} {now:Int} {t:Tb} {no:Option (Nat × Nat)}
theorem WW.old (a:WW h w s ow l now t no) (o:Old h h'):WW h' w s ow l now t no:=⟨a.wf.old o,a.fds⟩
theorem WF.same {n:Nat} {x:Wi} {y:WX} (a:WF h' w s ow (fun i=>atS (wxs l) (i:Int)) (l.set n y) now t no) (fds : ∀ n k fd,AtW (wxs l) n k fd->0<=fd/\fd<=95) (hx:(wxs l)[n]?=some x) (hs:x.SameFd y.x):WW h' w s ow (l.set n y) now t no:=by
 have hat:=AtW_set hx hs
 refine ⟨a.congr fun j _=>by rw [jfJ,atS_congr hat],fun m k fd hm=>fds m k fd ?_⟩
 rw [jfJ] at hm
 exact (hat m k fd).1 hm
end
def WSt (h:H) (w s:Nat) (ow:Nat->Nat) (ws:Ws) (now:Int) (t:Tb) (no:Option (Nat × Nat)):Prop := ∃ l,WW h w s ow l now t no/\wxs l=ws
structure To (h h':H) (ow ow':Nat->Nat):Prop where
 ch:Ch (fun j=>ow j≠0) h h'
 tag : ∀ j,j<h.nx->ow' j=ow j
theorem To.refl (h:H) (ow:Nat->Nat):To h h ow ow:=⟨Ch.refl _ _,fun _ _=>rfl⟩
theorem To.trans {h h1 h2:H} {a b c:Nat->Nat} (x:To h h1 a b) (y:To h1 h2 b c):To h h2 a c :=
 ⟨x.ch.trans_new y.ch fun j hj hb=>by rw [x.tag j hj] at hb;exact hb,fun j hj=>by rw [y.tag j (zo hj x.ch.nx),x.tag j hj]⟩
theorem To.old {h h1 h2:H} {a b:Nat->Nat} (x:Old h h1) (y:To h1 h2 a b):To h h2 a b:=To.trans ⟨x.ch,fun _ _=>rfl⟩ y
theorem WSt.old {h h':H} {w s:Nat} {ow:Nat->Nat} {ws:Ws} {now:Int} {t:Tb} {no:Option (Nat × Nat)} (a:WSt h w s ow ws now t no) (o:Old h h'):WSt h' w s ow ws now t no:=by
 obtain ⟨l,a,e⟩:=a;exact ⟨l,a.old o,e⟩
section
variable {call:Call} {fuel base:Nat} {ops:List Ins} {keep:List Nat} {K:List Fr} {e:Env} {h:H} {Q:Post} {ix:Nat} {dst at_:Option Nat}
end
section
variable {cl:Nat->Call} (hcl:Sem cl)
include hcl
end
section
variable {call:Call} {fuel base:Nat} {ops:List Ins} {keep:List Nat} {K:List Fr} {e:Env} {h:H} {Q:Post} {ix:Nat} {dst:Option Nat}
end
theorem RW.row {h:H} {rw q:Nat} {l:List RX} {tl:List V} (w:RW h rw q l tl) : ∃ v,h.get rw=some (.cells (v :: tl) false)/\Row 0 h 20 v l.length (rows l)/\(∀ z,v.at?=some z->z=q)/\v.one=true:=by
 by_cases hl:l=[]
 ·subst hl;exact ⟨.nils,w.nil rfl,Row.nil _ _ _,fun z hz=>by (cases hz),rfl⟩
 ·have a:=w.at_ hl
  exact ⟨_,a.hw,.inr ⟨q,by omega,w.lq,rfl,a.hq,je8 l⟩,fun z hz=>by cases hz;rfl,rfl⟩
def RX.fresh (x:Wi):RX:=⟨x,.nils,.nils,.nils⟩
structure Fresh (x:Wi):Prop where
 r0:x.e0.ring.getD []=[]
 r1:x.e1.ring.getD []=[]
 wt:x.waiting=[]
theorem ROk.fresh {h:H} {rw q:Nat} {x:Wi} (f:Fresh x):ROk h rw q (RX.fresh x):=by
 refine ⟨fun k hk=>?_,by rw [show (RX.fresh x).x.waiting=[] from f.wt];exact VI.nil h,fun z hz=>by cases hz⟩
 rcases hk with rfl | rfl
 ·exact ⟨by rw [show ((RX.fresh x).x.e 0).ring.getD []=[] from f.r0];exact VB.nil h,fun z hz=>by cases hz⟩
 ·exact ⟨by rw [show ((RX.fresh x).x.e 1).ring.getD []=[] from f.r1];exact VB.nil h,fun z hz=>by cases hz⟩
theorem RW.push {h h1:H} {rw q q':Nat} {l:List RX} {tl:List V} {x:Wi} (w:RW h rw q l tl) (f:Fresh x) (hrow:h1.get q'=some (.cells (rows l++(RX.fresh x).cells) false)) (hn:h.nx<=q') (hx:q'<h1.nx)
  (hk : ∀ j,j<h.nx->j≠q->h1.get j=h.get j) :
  RW (h1.set rw (.cells (.slice (some (q',0)) (l.length+1) (.grow 20) :: tl) false)) rw q' (l++[RX.fresh x]) tl/\Ch (RC rw q) h (h1.set rw (.cells (.slice (some (q',0)) (l.length+1) (.grow 20) :: tl) false)):=by
 have lw:=w.lw
 have lq:=w.lq
 have ch:Ch (RC rw q) h (h1.set rw (.cells (.slice (some (q',0)) (l.length+1) (.grow 20) :: tl) false)) :=
  ⟨by show h.nx<=h1.nx;omega,fun j hj hn=>by rw [jar (fun e=>hn (.inr e)),hk j hj (fun e=>hn (.inl e))]⟩
 refine ⟨⟨by show rw<h1.nx;omega,by show q'<h1.nx;omega,by omega,fun _=>⟨by rw [jaI];simp,by rw [jar om,hrow,je9];simp [rows],by omega⟩,fun e=>by simp at e,fun s hs=>?_⟩,ch⟩
 rcases zy.1 hs with h2 | h2
 ·have a:=w.ok s h2
  have b:=a.keep ch
  refine ⟨fun k hk=>⟨(b.b k hk).1,fun z hz=>?_⟩,b.w.1,fun z hz=>?_⟩
  ·have p:=(a.b k hk).2 z hz
   exact ⟨by omega,p.2.1,by show z<h1.nx;omega⟩
  ·have p:=a.w.2 z hz
   exact ⟨by omega,p.2.1,by show z<h1.nx;omega⟩
 ·obtain rfl:s=RX.fresh x:=by simpa using h2
  exact ROk.fresh f
section
variable {cl:Nat->Call} (hcl:Sem cl)
include hcl
end
theorem Old.new {h h1:H} {o:Obj} (a:Old h h1):Old h (h1.new o):=a.trans ⟨by simp,fun _ hj=>jau hj⟩
theorem Old.set {h h1:H} {o:Obj} {b:Nat} (a:Old h h1) (hb:h.nx<=b):Old h (h1.set b o):=⟨a.1,fun j hj=>by rw [jar om,a.2 j hj]⟩
section
variable {cl:Nat->Call} (hcl:Sem cl)
include hcl
end
section
variable {h h':H} {w s:Nat} {ow:Nat->Nat} {f:Nat->Option (Nat × Nat)} {l:List WX} {now:Int} {tb:Tb} {no:Option (Nat × Nat)}
end
section
variable {cl:Nat->Call} (hcl:Sem cl) {h:H} {w s:Nat} {ow:Nat->Nat} {f:Nat->Option (Nat × Nat)} {l:List WX} {now:Int} {tb:Tb} {no:Option (Nat × Nat)}
include hcl
end
section
variable {x:Wi} {k m:Nat} {q:List UInt8}
theorem Wi.take_self (hk:k=0\/k=1):((x.take k m q).e k).ring=some (q.drop m):=by
 rcases hk with rfl | rfl<;>simp [Wi.take,Wi.setq,Wi.came,Wi.put,Wi.e,En.came]
theorem Wi.take_other (hk:k=0\/k=1):((x.take k m q).e (1-k)).ring=(x.e (1-k)).ring:=by
 rcases hk with rfl | rfl<;>simp [Wi.take,Wi.setq,Wi.came,Wi.put,Wi.e,En.came]
theorem Wi.take_wait (hk:k=0\/k=1):(x.take k m q).waiting=x.waiting:=by rcases hk with rfl | rfl<;>rfl
theorem Wi.take_cap (hk:k=0\/k=1):(x.take k m q).cap=x.cap:=by rcases hk with rfl | rfl<;>rfl
theorem jdq {i k:Nat} (hi:i=0\/i=1) (hk:k=0\/k=1) (h:i≠k):i=1-k:=by omega
end
section
variable {h h':H} {w s:Nat} {ow:Nat->Nat} {f:Nat->Option (Nat × Nat)} {l:List WX} {now:Int} {tb:Tb} {no:Option (Nat × Nat)} {n k m:Nat} {t:WX} {q:List UInt8}
theorem WF.take (a:WF h w s ow f l now tb no) (ht:l[n]?=some t) (hk:k=0\/k=1) (hq:(t.x.e k).ring=some q) (ch:Ch (fun j=>j=t.wb\/j=t.r k) h h') (ho:h'.get t.wb=some ((t.x.take k m q).obj t.r0 t.r1 t.wv)) (hR:jbq h' (t.r k) (t.b k) (q.drop m) t.x.cap) :
  WF h' w s ow f (l.set n { t with x:=t.x.take k m q }) now tb no:=by
 have X:=a.ok n t ht
 have hox:=X.ox
 obtain ⟨_,o1,_⟩:=X.ring k hk q hq
 refine a.step ht ch (fun j _ hb=>?_) ho (Wi.take_wait hk) fun i hi q' hq'=>?_
 ·rcases hb with rfl | rfl<;>omega
 ·rw [Wi.take_cap hk]
  by_cases hik:i=k
  ·subst hik
   rw [Wi.take_self hk] at hq'
   cases hq'
   exact ⟨q,hq,hR⟩
  ·obtain rfl:=jdq hi hk hik
   rw [Wi.take_other hk] at hq'
   obtain ⟨p1,p2,p3,p4,p5⟩:=X.ring _ hi q' hq'
   refine ⟨q',hq',p1.keep (ch.get _ p4 ?_) (ch.get _ p5 ?_)⟩
   ·rintro (e | e)
    ·rw [e] at p2;omega
    ·rw [e] at p2;omega
   ·rintro (e | e)
    ·rw [e] at p3;omega
    ·rw [e] at p3;omega
theorem XOk.apart (a:XOk h ow n t) (hk:k=0\/k=1) (hq:(t.x.e k).ring=some q):jbq h (t.r k) (t.b k) q t.x.cap/\t.r k<h.nx/\t.b k<h.nx/\t.r k≠t.b k/\t.wb≠t.r k/\t.wb≠t.b k:=by
 have o0:=a.ox
 obtain ⟨p1,p2,p3,p4,p5⟩:=a.ring k hk q hq
 refine ⟨p1,p4,p5,fun e=>?_,fun e=>?_,fun e=>?_⟩
 ·rw [e] at p2;omega
 ·rw [e] at o0;omega
 ·rw [e] at o0;omega
end
section
variable {cl:Nat->Call} (hcl:Sem cl) {h:H} {w s:Nat} {ow:Nat->Nat} {ws:Ws} {now:Int} {tb:Tb} {no:Option (Nat × Nat)}
include hcl
end
section
variable {x:Wi} {k m:Nat} {q b:List UInt8}
theorem Wi.fill_self (hk:k=0\/k=1):((x.fill k m q b).e (1-k)).ring=some (q++b.take m):=by
 rcases hk with rfl | rfl<;>simp [Wi.fill,Wi.setq,Wi.came,Wi.put,Wi.e,En.came]
theorem Wi.fill_other (hk:k=0\/k=1):((x.fill k m q b).e k).ring=(x.e k).ring:=by
 rcases hk with rfl | rfl<;>simp [Wi.fill,Wi.setq,Wi.came,Wi.put,Wi.e,En.came]
theorem Wi.fill_wait (hk:k=0\/k=1):(x.fill k m q b).waiting=x.waiting:=by rcases hk with rfl | rfl<;>rfl
theorem Wi.fill_cap (hk:k=0\/k=1):(x.fill k m q b).cap=x.cap:=by rcases hk with rfl | rfl<;>rfl
end
section
variable {h h':H} {w s:Nat} {ow:Nat->Nat} {f:Nat->Option (Nat × Nat)} {l:List WX} {now:Int} {tb:Tb} {no:Option (Nat × Nat)} {n k m:Nat} {t:WX} {q b:List UInt8}
theorem WF.fill (a:WF h w s ow f l now tb no) (ht:l[n]?=some t) (hk:k=0\/k=1) (hq:(t.x.e (1-k)).ring=some q) (ch:Ch (fun j=>j=t.wb\/j=t.r (1-k)\/j=t.b (1-k)) h h') (ho:h'.get t.wb=some ((t.x.fill k m q b).obj t.r0 t.r1 t.wv)) (hR:jbq h' (t.r (1-k)) (t.b (1-k)) (q++b.take m) t.x.cap) :
  WF h' w s ow f (l.set n { t with x:=t.x.fill k m q b }) now tb no:=by
 have X:=a.ok n t ht
 have hox:=X.ox
 have hk':1-k=0\/1-k=1:=by omega
 obtain ⟨_,o1,o2,_⟩:=X.ring _ hk' q hq
 refine a.step ht ch (fun j _ hb=>?_) ho (Wi.fill_wait hk) fun i hi q' hq'=>?_
 ·rcases hb with rfl | rfl | rfl<;>omega
 ·rw [Wi.fill_cap hk]
  by_cases hik:i=k
  ·subst hik
   rw [Wi.fill_other hk] at hq'
   obtain ⟨p1,p2,p3,p4,p5⟩:=X.ring _ hi q' hq'
   refine ⟨q',hq',p1.keep (ch.get _ p4 ?_) (ch.get _ p5 ?_)⟩
   ·rintro (e | e | e)
    ·rw [e] at p2;omega
    ·rw [e] at p2;omega
    ·rw [e] at p2;omega
   ·rintro (e | e | e)
    ·rw [e] at p3;omega
    ·rw [e] at p3;omega
    ·rw [e] at p3;omega
  ·obtain rfl:=jdq hi hk hik
   rw [Wi.fill_self hk] at hq'
   cases hq'
   exact ⟨q,hq,hR⟩
theorem XOk.to (X:XOk h ow n t) (hk:k=0\/k=1) (hq:(t.x.e k).ring=some q) (ch:Ch (fun j=>j=t.wb\/j=t.r k\/j=t.b k) h h'):To h h' ow ow :=
 ⟨ch.weaken fun j hj hb=>by
  have o1:=X.ox
  obtain ⟨_,o2,o3,_⟩:=X.ring k hk q hq
  rcases hb with rfl | rfl | rfl
  ·omega
  ·show ow (t.r k)≠0;omega
  ·show ow (t.b k)≠0;omega,fun _ _=>rfl⟩
end
section
variable {cl:Nat->Call} (hcl:Sem cl)
include hcl
variable {h:H} {w s:Nat} {ow:Nat->Nat} {ws:Ws} {now:Int} {tb:Tb} {no:Option (Nat × Nat)}
end
section
variable {h h':H} {w s:Nat} {ow:Nat->Nat} {f:Nat->Option (Nat × Nat)} {l:List WX} {now:Int} {tb:Tb} {no:Option (Nat × Nat)} {n k m:Nat} {t:WX} {q b:List UInt8}
theorem WF.place (a:WF h w s ow f l now tb no) {i o:Nat} {p:Option (Nat × Nat)} {wl:List V} (hi:i<96) (ho:o=i*3) (hl:h.get w=some (.cells wl false)):WF (h.set w (.cells (ja7 wl o (plc p)) false)) w s ow (fun j=>if j=i then p else f j) l now tb no:=by
 obtain ⟨wv,p1,p2,p3⟩:=a.hw
 rw [hl] at p1;cases p1
 have hne : ∀ j,ow j≠1->j≠w:=fun j hj e=>hj (by rw [e,a.tw])
 refine ⟨⟨wv,?_,p2.keep (zn _) fun z hz=>jar (hne z (by rw [p3 z hz];omega)),p3⟩,?_,a.tw,a.ts,a.lw,a.ls,a.top,fun m t ht=>(a.ok m t ht).keep (zn _) fun j h1 _=>jar (hne j om)⟩
 ·rw [jaI,wc_set_fd (g:=fun j=>if j=i then p else f j) hi ho fun j _=>rfl]
 ·rw [jar (hne s (by rw [a.ts];omega)),a.hs]
theorem WF.clear (a:WF h w s ow f l now tb no) (ht:l[n]?=some t) (hk:k=0\/k=1) (hq:(t.x.e k).ring=some q) (ch:Ch (fun j=>j=t.r k) h h') (hR:jbq h' (t.r k) (t.b k) b t.x.cap) :
  WF h' w s ow f (l.set n { t with x:=t.x.setq k b }) now tb no:=by
 have X:=a.ok n t ht
 have hox:=X.ox
 obtain ⟨_,o1,_⟩:=X.ring k hk q hq
 refine a.step ht ch (fun j _ hb=>?_) ?_ ?_ fun i hi q' hq'=>?_
 ·have hb:j=t.r k:=hb
  subst hb;omega
 ·have hne:t.wb≠t.r k:=fun e=>by rw [e] at hox;omega
  rw [ch.get _ X.lx hne,X.hx]
  unfold Wi.obj
  rw [Wi.setq_cells hk hq]
 ·rcases hk with rfl | rfl<;>rfl
 ·have hc:(t.x.setq k b).cap=t.x.cap:=by rcases hk with rfl | rfl<;>rfl
  rw [hc]
  by_cases hik:i=k
  ·subst hik
   have e:((t.x.setq i b).e i).ring=some b:=by rcases hi with rfl | rfl<;>rfl
   rw [e] at hq';cases hq'
   exact ⟨q,hq,hR⟩
  ·obtain rfl:=jdq hi hk hik
   have e:((t.x.setq k b).e (1-k)).ring=(t.x.e (1-k)).ring:=by rcases hk with rfl | rfl<;>rfl
   rw [e] at hq'
   obtain ⟨p1,p2,p3,p4,p5⟩:=X.ring _ hi q' hq'
   refine ⟨q',hq',p1.keep (ch.get _ p4 fun e=>?_) (ch.get _ p5 fun e=>?_)⟩
   ·rw [e] at p2;omega
   ·rw [e] at p3;omega
end
section
variable {cl:Nat->Call} (hcl:Sem cl)
include hcl
variable {h:H} {w s:Nat} {ow:Nat->Nat} {f:Nat->Option (Nat × Nat)} {ws:Ws} {now:Int} {tb:Tb} {no:Option (Nat × Nat)}
end
section
variable {h h':H} {w s:Nat} {ow:Nat->Nat} {f:Nat->Option (Nat × Nat)} {l:List WX} {now:Int} {tb:Tb} {no:Option (Nat × Nat)} {n k m:Nat} {t:WX}
end
section
variable {cl:Nat->Call} (hcl:Sem cl) {h:H} {w s:Nat} {ow:Nat->Nat} {ws:Ws} {now:Int} {tb:Tb} {no:Option (Nat × Nat)}
include hcl
end
section
variable {call:Call} {fuel base:Nat} {ops:List Ins} {keep:List Nat} {K:List Fr} {e:Env} {h:H} {Q:Post} {ix:Nat} {dst:Option Nat} {c:List (Nat × I × Option (Nat × Bool))}
end
section
variable {cl:Nat->Call} (hcl:Sem cl)
include hcl
end
section
variable {cl:Nat->Call} (hcl:Sem cl)
include hcl
end
def tail (now:Int) (hd:Nat->Bool) (ct:Nat->Int) (no si:Int):List V :=
 .int .u64 now :: (tab 32 (fun i=>.bool (hd i))++(tab 32 (fun i=>.i (ct i))++[.i no,.i si]))
section
variable {v:V} {now no si:Int} {hd:Nat->Bool} {ct:Nat->Int}
end
theorem RW.tl {h:H} {rw q:Nat} {l:List RX} {tl tl':List V} {v:V} (w:RW h rw q l tl) (hv:h.get rw=some (.cells (v :: tl) false)):RW (h.set rw (.cells (v :: tl') false)) rw q l tl':=by
 have ch:Ch (RC rw q) h (h.set rw (.cells (v :: tl') false)):=Ch.set (.inr rfl)
 refine ⟨w.lw,w.lq,w.ne,fun hl=>?_,fun hl=>?_,fun s hs=>(w.ok s hs).keep ch⟩
 ·have a:=w.at_ hl
  rw [a.hw] at hv
  cases hv
  exact ⟨by rw [jaI],by rw [jar w.ne.symm,a.hq],w.ne⟩
 ·have a:=w.nil hl
  rw [a] at hv
  cases hv
  rw [jaI]
section
variable {cl:Nat->Call} (hcl:Sem cl)
include hcl
end
def NtOk (ws:Ws) (no si:Int):Prop:=no = -1 \/ ∃ (n k:Nat) (x:Wi),no=n/\si=k/\(k=0\/k=1)/\ws[n]?=some x/\x.e0.ring≠none/\x.e1.ring≠none
section
variable {cl:Nat->Call} (hcl:Sem cl)
include hcl
end
section
variable {v:V} {now no si:Int} {hd:Nat->Bool} {ct:Nat->Int}
end
def isSig (s:Int):Prop:=1<=s/\s<=31
instance (s:Int):Decidable (isSig s):=inferInstanceAs (Decidable (_/\_))
section
variable {cl:Nat->Call} (hcl:Sem cl)
include hcl
end
section
variable {cl:Nat->Call} (hcl:Sem cl)
include hcl
end
section
variable {v:V} {now no si:Int} {hd:Nat->Bool} {ct:Nat->Int}
end
section
variable {cl:Nat->Call} (hcl:Sem cl)
include hcl
end
section
variable {cl:Nat->Call} (hcl:Sem cl)
include hcl
end
section
variable {cl:Nat->Call} (hcl:Sem cl)
include hcl
end
def WsOne (ws:Ws):Prop := ∀ (i j:Nat) (x y:Wi) (p q:Nat) (m:Int),ws[i]?=some x->ws[j]?=some y->x.waiting[p]?=some m->y.waiting[q]?=some m->i=j/\p=q
structure WsK (ws:Ws):Prop where
 ok:WsOk ws
 one:WsOne ws
def Wi.SubFd (x y:Wi):Prop := ∀ k,k=0\/k=1->(y.e k).what=1->(x.e k).what=1/\(y.e k).fd=(x.e k).fd
theorem Wi.SubFd.refl (x:Wi):x.SubFd x:=fun _ _ h=>⟨h,rfl⟩
theorem Wi.SubFd.trans {x y z:Wi} (a:x.SubFd y) (b:y.SubFd z):x.SubFd z:=fun k hk h=>⟨(a k hk (b k hk h).1).1,by rw [(b k hk h).2,(a k hk (b k hk h).1).2]⟩
theorem w_lt {ws:Ws} {n:Nat} {x:Wi} (hr:ws[n]?=some x):n<ws.length:=by
 rcases zr n ws.length with h | h
 ·exact h
 ·rw [zc h] at hr;cases hr
theorem w_get {ws:Ws} {n:Nat} (h:n<ws.length) : ∃ x,ws[n]?=some x:=⟨_,za h⟩
theorem w_set {ws:Ws} {n m:Nat} {y z:Wi} (h:(ws.set n y)[m]?=some z):(m=n/\z=y)\/(m≠n/\ws[m]?=some z):=by
 rw [zg] at h
 by_cases e:n=m
 ·rw [zq e] at h
  by_cases hl:n<ws.length
  ·rw [zq hl] at h;cases h;exact .inl ⟨e.symm,rfl⟩
  ·rw [zp hl] at h;cases h
 ·rw [zp e] at h;exact .inr ⟨fun h=>e h.symm,h⟩
theorem WsK.mild {ws ws':Ws} (K:WsK ws) (hl:ws'.length=ws.length)
  (h : ∀ (i:Nat) (z':Wi),ws'[i]?=some z' -> ∃ z,ws[i]?=some z/\z.SubFd z'/\WiOk z'/\(∃ c,z'.waiting=z.waiting.drop c)/\(z.e0.what=0->(∃ (j:Nat) (u:Wi),ws'[j]?=some u/\(i:Int)∈u.waiting)->z'.e0.what=0)):WsK ws':=by
 refine ⟨⟨?_,fun x hx=>?_,by rw [hl];exact K.ok.len,fun x hx=>?_⟩,?_⟩
 ·have sub : ∀ n k fd,AtW ws' n k fd->AtW ws n k fd:=by
   rintro n k fd ⟨x,hx,hk,h1,h2⟩
   obtain ⟨z,e1,e2,_⟩:=h n x hx
   exact ⟨z,e1,hk,(e2 k hk h1).1,by rw [<- (e2 k hk h1).2,h2]⟩
  exact fun n k n' k' fd a b=>K.ok.uniq n k n' k' fd (sub _ _ _ a) (sub _ _ _ b)
 ·obtain ⟨i,hi⟩:=List.mem_iff_getElem?.1 hx
  obtain ⟨z,_,_,e,_⟩:=h i x hi
  exact e
 ·obtain ⟨i,hi⟩:=List.mem_iff_getElem?.1 hx
  obtain ⟨z,e1,_,_,⟨c,e2⟩,_⟩:=h i x hi
  obtain ⟨p1,p2⟩:=K.ok.wait z (zb e1)
  refine ⟨by rw [e2,List.length_drop];omega,fun m hm=>?_⟩
  obtain ⟨y,y0,y1,y2⟩:=p2 m (by rw [e2] at hm;exact List.mem_of_mem_drop hm)
  obtain ⟨y',hy'⟩:=w_get (ws:=ws') (n:=m.toNat) (by rw [hl];exact w_lt y1)
  obtain ⟨u,u1,_,_,_,u2⟩:=h _ _ hy'
  rw [y1] at u1;cases u1
  exact ⟨y',y0,hy',u2 y2 ⟨i,x,hi,by rw [Int.toNat_of_nonneg y0];exact hm⟩⟩
 ·intro i j x y p q m hx hy hp hq
  obtain ⟨a,a1,_,_,⟨c,a2⟩,_⟩:=h i x hx
  obtain ⟨b,b1,_,_,⟨c',b2⟩,_⟩:=h j y hy
  rw [a2,zk] at hp
  rw [b2,zk] at hq
  obtain ⟨e1,e2⟩:=K.one i j a b (c+p) (c'+q) m a1 b1 hp hq
  refine ⟨e1,?_⟩
  subst e1
  rw [hx] at hy;cases hy
  rw [a1] at b1;cases b1
  have:=a2.symm.trans b2
  have h1:=congrArg List.length this
  rw [List.length_drop,List.length_drop] at h1
  have h2:c+p<a.waiting.length:=by
   rcases zr (c+p) a.waiting.length with h | h
   ·exact h
   ·rw [zc h] at hp;cases hp
  omega
theorem WsK.set {ws:Ws} {n:Nat} {x y:Wi} (K:WsK ws) (hx:ws[n]?=some x) (hs:x.SubFd y) (hok:WiOk x->WiOk y) (hw:y.waiting=x.waiting) (h0:x.e0.what=0->y.e0.what=0):WsK (ws.set n y):=by
 refine K.mild Zb fun i z' hz=>?_
 rcases w_set hz with ⟨rfl,rfl⟩ | ⟨_,hz⟩
 ·exact ⟨x,hx,hs,hok (K.ok.ok x (zb hx)),⟨0,by rw [hw];rfl⟩,fun h _=>h0 h⟩
 ·exact ⟨z',hz,Wi.SubFd.refl _,K.ok.ok z' (zb hz),⟨0,rfl⟩,fun h _=>h⟩
theorem WiOk.of {x y:Wi} (a:WiOk x) (hc:y.cap=x.cap) (hw : ∀ k,k=0\/k=1->(y.e k).writes=(x.e k).writes) (hr : ∀ k,k=0\/k=1->((y.e k).ring=none↔(x.e k).ring=none)) (hl : ∀ k,k=0\/k=1 -> ∀ q,(y.e k).ring=some q->q.length<=x.cap) (ho:y.e1.what=2->x.e1.what=2) (hb:y.backlog=x.backlog:=by rfl) (hv:WhV x->WhV y:=by exact fun h=>h):WiOk y:=by
 refine ⟨by rw [hc];exact a.cap0,by rw [hc];exact a.cap1,fun k hk q hq=>by rw [hc];exact hl k hk q hq,fun k hk=>?_,fun h2=>?_,by rw [hb];exact a.bl,hv a.wh⟩
 ·rw [hw k hk,a.pair k hk,ne_eq,ne_eq]
  refine not_congr ?_
  rcases hk with rfl | rfl
  ·exact (hr 1 (.inr rfl)).symm
  ·exact (hr 0 (.inl rfl)).symm
 ·have:=a.out (ho h2)
  exact ⟨fun e=>this.1 ((hr 0 (.inl rfl)).1 e),fun e=>this.2 ((hr 1 (.inr rfl)).1 e)⟩
theorem WiOk.nil {x:Wi} (a:WiOk x) : ∀ k,k=0\/k=1 -> ∀ q,(x.e k).ring=some q->q.length<=x.cap:=a.len
theorem jgn {x:Wi} {k:Nat} {i o:Bool} (hk:k=0\/k=1):x.SubFd (x.came k i o):=by
 intro j hj
 rcases hk with rfl | rfl<;>rcases hj with rfl | rfl<;>exact fun h=>⟨h,rfl⟩
theorem jgm {x:Wi} {k:Nat} {i o:Bool} (hk:k=0\/k=1) (a:WiOk x):WiOk (x.came k i o):=by
 rcases hk with rfl | rfl
 ·refine a.of rfl (fun j hj=>?_) (fun j hj=>?_) (fun j hj q hq=>?_) fun h=>h
  ·rcases hj with rfl | rfl<;>rfl
  ·rcases hj with rfl | rfl<;>exact Iff.rfl
  ·rcases hj with rfl | rfl
   ·exact a.len 0 Zb q hq
   ·exact a.len 1 Zb q hq
 ·refine a.of rfl (fun j hj=>?_) (fun j hj=>?_) (fun j hj q hq=>?_) fun h=>h
  ·rcases hj with rfl | rfl<;>rfl
  ·rcases hj with rfl | rfl<;>exact Iff.rfl
  ·rcases hj with rfl | rfl
   ·exact a.len 0 Zb q hq
   ·exact a.len 1 Zb q hq
theorem jgl {x:Wi} {k:Nat} {i o:Bool} (hk:k=0\/k=1):(x.came k i o).e0.what=x.e0.what:=by rcases hk with rfl | rfl<;>rfl
theorem jgk {x:Wi} {k:Nat} {i o:Bool} (hk:k=0\/k=1):(x.came k i o).waiting=x.waiting:=by rcases hk with rfl | rfl<;>rfl
theorem jfP {x:Wi} {k:Nat} {q:List UInt8} (hk:k=0\/k=1):x.SubFd (x.setq k q):=by
 intro j hj
 rcases hk with rfl | rfl<;>rcases hj with rfl | rfl<;>exact fun h=>⟨h,rfl⟩
theorem jfO {x:Wi} {k:Nat} {q q':List UInt8} (hk:k=0\/k=1) (hq:(x.e k).ring=some q) (hl:q'.length<=x.cap) (a:WiOk x):WiOk (x.setq k q'):=by
 rcases hk with rfl | rfl
 ·have hq:x.e0.ring=some q:=hq
  refine a.of rfl (fun j hj=>?_) (fun j hj=>?_) (fun j hj q2 hq2=>?_) fun h=>h
  ·rcases hj with rfl | rfl<;>rfl
  ·rcases hj with rfl | rfl
   ·show (some q'=none)↔x.e0.ring=none
    rw [hq];simp
   ·exact Iff.rfl
  ·rcases hj with rfl | rfl
   ·have:some q'=some q2:=hq2
    cases this;exact hl
   ·exact a.len 1 Zb q2 hq2
 ·have hq:x.e1.ring=some q:=hq
  refine a.of rfl (fun j hj=>?_) (fun j hj=>?_) (fun j hj q2 hq2=>?_) fun h=>h
  ·rcases hj with rfl | rfl<;>rfl
  ·rcases hj with rfl | rfl
   ·exact Iff.rfl
   ·show (some q'=none)↔x.e1.ring=none
    rw [hq];simp
  ·rcases hj with rfl | rfl
   ·exact a.len 0 Zb q2 hq2
   ·have:some q'=some q2:=hq2
    cases this;exact hl
theorem jfN {x:Wi} {k:Nat} {q:List UInt8} (hk:k=0\/k=1):(x.setq k q).e0.what=x.e0.what:=by rcases hk with rfl | rfl<;>rfl
theorem jfM {x:Wi} {k:Nat} {q:List UInt8} (hk:k=0\/k=1):(x.setq k q).waiting=x.waiting:=by rcases hk with rfl | rfl<;>rfl
theorem jbQ {k:Nat} (hk:k=0\/k=1):1-k=0\/1-k=1:=by omega
theorem WsK.take {ws:Ws} {n k m:Nat} {x:Wi} {q:List UInt8} (K:WsK ws) (hx:ws[n]?=some x) (hk:k=0\/k=1) (hq:(x.e k).ring=some q):WsK (ws.set n (x.take k m q)):=by
 have hl:=(K.ok.ok x (zb hx)).len k hk q hq
 exact K.set hx ((jfP hk).trans (jgn (jbQ hk))) (fun a=>jgm (jbQ hk) (jfO hk hq (by rw [List.length_drop];omega) a)) (by unfold Wi.take;rw [jgk (jbQ hk),jfM hk]) (by unfold Wi.take;rw [jgl (jbQ hk),jfN hk];exact id)
theorem WsK.fill {ws:Ws} {n k m:Nat} {x:Wi} {q b:List UInt8} (K:WsK ws) (hx:ws[n]?=some x) (hk:k=0\/k=1) (hq:(x.e (1-k)).ring=some q) (hm:m<=x.cap-q.length):WsK (ws.set n (x.fill k m q b)):=by
 have hl:=(K.ok.ok x (zb hx)).len (1-k) (jbQ hk) q hq
 exact K.set hx ((jfP (jbQ hk)).trans (jgn (jbQ hk))) (fun a=>jgm (jbQ hk) (jfO (jbQ hk) hq (by rw [ze,List.length_take];omega) a)) (by unfold Wi.fill;rw [jgk (jbQ hk),jfM (jbQ hk)]) (by unfold Wi.fill;rw [jgl (jbQ hk),jfN (jbQ hk)];exact id)
theorem jdK {ws:Ws} {x:Wi} {n k:Nat} {fd:Int} (h:AtW (ws++[x]) n k fd):AtW ws n k fd\/(n=ws.length/\(k=0\/k=1)/\(x.e k).what=1/\(x.e k).fd=fd):=by
 obtain ⟨y,hy,hk,h1,h2⟩:=h
 rcases zr n ws.length with hl | hl
 ·rw [zd,zq hl] at hy
  exact .inl ⟨y,hy,hk,h1,h2⟩
 ·rw [zd,zp om] at hy
  have:n-ws.length=0:=by
   rcases Nat.eq_zero_or_pos (n-ws.length) with e | e
   ·exact e
   ·rw [zc (show 1<=_ from e)] at hy;cases hy
  rw [this] at hy
  cases hy
  exact .inr ⟨by omega,hk,h1,h2⟩
theorem jeY {ws:Ws} {x y:Wi} {n:Nat} (h:(ws++[x])[n]?=some y):ws[n]?=some y\/(n=ws.length/\y=x):=by
 rcases zr n ws.length with hl | hl
 ·rw [zd,zq hl] at h
  exact .inl h
 ·rw [zd,zp om] at h
  have:n-ws.length=0:=by
   rcases Nat.eq_zero_or_pos (n-ws.length) with e | e
   ·exact e
   ·rw [zc (show 1<=_ from e)] at h;cases h
  rw [this] at h
  cases h
  exact .inr ⟨by omega,rfl⟩
theorem jeX {ws:Ws} {x y:Wi} {n:Nat} (h:ws[n]?=some y):(ws++[x])[n]?=some y:=by rw [zd,zq (w_lt h),h]
theorem push_uniq {ws:Ws} {x:Wi} (u:Uniq ws) (hf : ∀ k,k=0\/k=1->(x.e k).what=1 -> ∀ n j,¬ AtW ws n j (x.e k).fd) (h2:x.e0.what=1->x.e1.what=1->x.e0.fd≠x.e1.fd):Uniq (ws++[x]):=by
 intro n k n' k' fd a b
 rcases jdK a with a | ⟨rfl,hk,w1,f1⟩
 ·rcases jdK b with b | ⟨rfl,hk',w1,f1⟩
  ·exact u _ _ _ _ _ a b
  ·exact zx (by rw [f1];exact a) (hf k' hk' w1 n k)
 ·rcases jdK b with b | ⟨rfl,hk',w2,f2⟩
  ·exact zx (by rw [f1];exact b) (hf k hk w1 n' k')
  ·refine ⟨rfl,?_⟩
   rcases hk with rfl | rfl<;>rcases hk' with rfl | rfl
   ·rfl
   ·exact zx (f1.trans f2.symm) (h2 w1 w2)
   ·exact zx (f2.trans f1.symm) (h2 w2 w1)
   ·rfl
theorem WsK.push {ws:Ws} {x:Wi} (K:WsK ws) (ox:WiOk x) (hw:x.waiting=[]) (hl:ws.length<1000) (hf : ∀ k,k=0\/k=1->(x.e k).what=1 -> ∀ n j,¬ AtW ws n j (x.e k).fd) (h2:x.e0.what=1->x.e1.what=1->x.e0.fd≠x.e1.fd):WsK (ws++[x]):=by
 refine ⟨⟨push_uniq K.ok.uniq hf h2,fun y hy=>?_,by rw [ze];show ws.length+1<=1000;omega,fun y hy=>?_⟩,?_⟩
 ·rcases zy.1 hy with h | h
  ·exact K.ok.ok y h
  ·obtain rfl:y=x:=by simpa using h
   exact ox
 ·rcases zy.1 hy with h | h
  ·obtain ⟨p1,p2⟩:=K.ok.wait y h
   refine ⟨p1,fun m hm=>?_⟩
   obtain ⟨z,z0,z1,z2⟩:=p2 m hm
   exact ⟨z,z0,jeX z1,z2⟩
  ·obtain rfl:y=x:=by simpa using h
   rw [hw];simp
 ·intro i j a b p q m ha hb hp hq
  rcases jeY ha with ha | ⟨rfl,rfl⟩
  ·rcases jeY hb with hb | ⟨rfl,rfl⟩
   ·exact K.one i j a b p q m ha hb hp hq
   ·rw [hw] at hq;simp at hq
  ·rw [hw] at hp;simp at hp
def Wi.RK (x y:Wi):Prop := ∀ k,k=0\/k=1->(x.e k).ring≠none->(y.e k).ring≠none
theorem Wi.RK.refl (x:Wi):x.RK x:=fun _ _ h=>h
theorem Wi.RK.trans {x y z:Wi} (a:x.RK y) (b:y.RK z):x.RK z:=fun k hk h=>b k hk (a k hk h)
def WsR (ws ws':Ws):Prop := ∀ (n:Nat) (x:Wi),ws[n]?=some x -> ∃ y,ws'[n]?=some y/\x.RK y
theorem WsR.refl (ws:Ws):WsR ws ws:=fun _ x h=>⟨x,h,Wi.RK.refl x⟩
theorem WsR.trans {a b c:Ws} (x:WsR a b) (y:WsR b c):WsR a c:=fun n u hu=>by
 obtain ⟨v,hv,h1⟩:=x n u hu
 obtain ⟨w,hw,h2⟩:=y n v hv
 exact ⟨w,hw,h1.trans h2⟩
theorem WsR.set {ws:Ws} {n:Nat} {x y:Wi} (hx:ws[n]?=some x) (h:x.RK y):WsR ws (ws.set n y):=fun m u hu=>by
 by_cases e:n=m
 ·subst e
  rw [hx] at hu;cases hu
  exact ⟨y,by rw [zg,zq rfl,zq (w_lt hx)],h⟩
 ·exact ⟨u,by rw [zg,zp e,hu],Wi.RK.refl u⟩
theorem WsR.push {ws:Ws} {x:Wi} : WsR ws (ws++[x]):=fun _ u hu=>⟨u,jeX hu,Wi.RK.refl u⟩
theorem NtOk.keep {ws ws':Ws} {no si:Int} (a:NtOk ws no si) (r:WsR ws ws'):NtOk ws' no si:=by
 rcases a with a | ⟨n,k,x,h1,h2,h3,h4,h5,h6⟩
 ·exact .inl a
 ·obtain ⟨y,hy,rk⟩:=r n x h4
  exact .inr ⟨n,k,y,h1,h2,h3,hy,rk 0 (.inl rfl) h5,rk 1 (.inr rfl) h6⟩
def noI:Option (Nat × Nat)->Int
 | none=>-1
 | some p=>p.1
def siI:Option (Nat × Nat)->Int
 | none=>0
 | some p=>p.2
section
variable {cl:Nat->Call} (hcl:Sem cl) {h:H} {w s:Nat} {ow:Nat->Nat} {ws:Ws} {now:Int} {tb:Tb} {no:Option (Nat × Nat)}
include hcl
end
section
variable {h h':H} {w s:Nat} {ow:Nat->Nat} {f:Nat->Option (Nat × Nat)} {l:List WX} {ws:Ws} {now:Int} {tb tb':Tb} {no:Option (Nat × Nat)}
end
section
variable {cl:Nat->Call} (hcl:Sem cl) {h:H} {w s:Nat} {ow:Nat->Nat} {ws:Ws} {now:Int} {tb:Tb} {no:Option (Nat × Nat)}
include hcl
end
section
variable {cl:Nat->Call} (hcl:Sem cl) {h:H} {w s:Nat} {ow:Nat->Nat} {ws:Ws} {now:Int} {tb:Tb} {no:Option (Nat × Nat)}
include hcl
end
theorem sem_F {cl:Nat->Call} (hcl:Sem cl) (d:Nat):jbE (cl d)/\je1 (cl d):=by
 first
 | (rw [hcl d];exact jbo primsF fuel d)
 | (rcases hcl with hcl | hcl<;>rw [hcl d]<;>first | exact jbo primsF fuel d | exact jbo jeZ fuel d)
structure Mono (g h:H):Prop where
 nx:h.nx=g.nx
 get : ∀ j o,j<g.nx->g.get j=some o->h.get j=some o
theorem VB.mono {g h:H} {v:V} {l:List UInt8} (m:Mono g h) (a:VB g v l):VB h v l:=by
 obtain ⟨a,c,rfl,n,f,k⟩:=a
 refine ⟨a,c,rfl,n,f,fun hl=>?_⟩
 obtain ⟨b,o,cs,ro,rfl,h1,h2,h3⟩:=k hl
 exact ⟨b,o,cs,ro,rfl,by rw [m.nx];exact h1,m.get b _ h1 h2,h3⟩
theorem VI.mono {g h:H} {v:V} {l:List Int} (m:Mono g h) (a:VI g v l):VI h v l:=by
 obtain ⟨a,c,rfl,n,f,k⟩:=a
 refine ⟨a,c,rfl,n,f,fun hl=>?_⟩
 obtain ⟨b,o,cs,ro,rfl,h1,h2,h3⟩:=k hl
 exact ⟨b,o,cs,ro,rfl,by rw [m.nx];exact h1,m.get b _ h1 h2,h3⟩
theorem Row.mono {N sz n:Nat} {g h:H} {v:V} {cs:List V} (m:Mono g h) (a:Row N g sz v n cs):Row N h sz v n cs:=by
 rcases a with a | ⟨q,h1,h2,rfl,h4,h5⟩
 ·exact .inl a
 ·exact .inr ⟨q,h1,by rw [m.nx];exact h2,rfl,m.get q _ h2 h4,h5⟩
theorem RW.mono {g h:H} {rw q:Nat} {l:List RX} {tl:List V} (m:Mono g h) (a:RW g rw q l tl):RW h rw q l tl:=by
 refine ⟨by rw [m.nx];exact a.lw,by rw [m.nx];exact a.lq,a.ne,fun hl=>⟨m.get _ _ a.lw (a.at_ hl).hw,m.get _ _ a.lq (a.at_ hl).hq,a.ne⟩,fun hl=>m.get _ _ a.lw (a.nil hl),fun r hr=>?_⟩
 obtain ⟨p1,p2⟩:=a.ok r hr
 exact ⟨fun k hk=>⟨(p1 k hk).1.mono m,fun z hz=>by rw [m.nx];exact (p1 k hk).2 z hz⟩,p2.1.mono m,fun z hz=>by rw [m.nx];exact p2.2 z hz⟩
theorem RW.re {g:H} {rw q q':Nat} {tl:List V} (a:RW g rw q [] tl) (h1:q'<g.nx) (h2:rw≠q'):RW g rw q' [] tl :=
 ⟨a.lw,h1,h2,fun h=>zx rfl h,a.nil,fun r hr=>by cases hr⟩
theorem jg0 (h:H) (own:Nat->Prop) : ∀ n,∃ g:H,g.nx=h.nx/\(∀ j,j<n -> ¬ own j->g.get j=none) /\ ∀ j,n<=j\/own j->g.get j=h.get j
 | 0=>⟨h,rfl,fun j hj=>by omega,fun _ _=>rfl⟩
 | n+1=>by
  obtain ⟨g,g1,g2,g3⟩:=jg0 h own n
  by_cases e:own n
  ·refine ⟨g,g1,fun j hj ho=>?_,fun j hj=>g3 j (hj.imp (fun h=>by omega) id)⟩
   rcases zr j n with h1 | h1
   ·exact g2 j h1 ho
   ·obtain rfl:j=n:=by omega
    exact zx e ho
  ·refine ⟨g.kill n,g1,fun j hj ho=>?_,fun j hj=>?_⟩
   ·by_cases ej:j=n
    ·subst ej;rw [H.get_kill,zq rfl]
    ·rw [jbl ej];exact g2 j om ho
   ·have ej:j≠n:=by
     rintro rfl
     rcases hj with h1 | h1
     ·omega
     ·exact e h1
    rw [jbl ej];exact g3 j (hj.imp (fun h=>by omega) id)
structure RO (h:H) (ro dat:Nat->Prop) (rw:Nat) (l:List RX) (tl:List V):Prop where
 ex : ∃ q,(l≠[]->ro q) /\ ∀ g:H,g.nx=h.nx->(∀ j,j<h.nx->ro j\/dat j->g.get j=h.get j)->RW g rw q l tl
 lt : ∀ j,ro j\/dat j->j<h.nx
 hr:ro rw
 ap : ∀ j,ro j -> ¬ dat j
theorem RO.keep {h h':H} {ro dat:Nat->Prop} {rw:Nat} {l:List RX} {tl:List V} (a:RO h ro dat rw l tl) (hx:h.nx<=h'.nx) (hk : ∀ j,ro j\/dat j->h'.get j=h.get j):RO h' ro dat rw l tl:=by
 obtain ⟨q,hq,k⟩:=a.ex
 refine ⟨⟨q,hq,fun g g1 g2=>?_⟩,fun j hj=>zo (a.lt j hj) hx,a.hr,a.ap⟩
 have w:=k ⟨h.nx,g.t⟩ rfl fun j hj ho=>(g2 j (zo hj hx) ho).trans (hk j ho)
 exact w.old ⟨by rw [g1];exact hx,fun _ _=>rfl⟩
theorem RO.call {cl:Nat->Call} (hcl:Sem cl) {d p f:Nat} {args:List V} {h:H} {ro dat:Nat->Prop} {rw:Nat} {l:List RX} {tl:List V} {P:H->V->List RX->List V->Prop} (a:RO h ro dat rw l tl) (hp:p<h.nx) (hop:h.get p≠none) (hnp : ¬ (ro p\/dat p))
  (mono : ∀ g g' v l tl,Mono g g'->P g v l tl->P g' v l tl)
  (k : ∀ g q,(∀ j,j<h.nx->ro j\/dat j->g.get j=h.get j)->g.nx=h.nx->RW g rw q l tl->(q=p\/ro q) -> ∃ v q' l' tl' g',cl d (.fn f) args g=some (v,g')/\RW g' rw q' l' tl'/\Ch (RC rw q) g g'/\(q'=q\/g.nx<=q')/\P g' v l' tl') :
  ∃ v l' tl' h',cl d (.fn f) args h=some (v,h')/\RO h' (fun j=>ro j\/(h.nx<=j/\j<h'.nx)) dat rw l' tl'/\Ch ro h h'/\P h' v l' tl':=by
 obtain ⟨q0,hq0,k0⟩:=a.ex
 obtain ⟨g,g1,g2,g3⟩:=jg0 h (fun j=>ro j\/dat j) h.nx
 have w0:=k0 g g1 fun j _ ho=>g3 j (.inr ho)
 obtain ⟨q,w,hq⟩ : ∃ q,RW g rw q l tl/\(q=p\/ro q):=by
  by_cases hl:l=[]
  ·subst hl
   exact ⟨p,w0.re (by rw [g1];exact hp) (fun e=>hnp (.inl (by rw [<- e];exact a.hr))),.inl rfl⟩
  ·exact ⟨q0,w0,.inr (hq0 hl)⟩
 obtain ⟨v,q',l',tl',g',e1,e2,e3,e5,e4⟩:=k g q (fun j _ ho=>g3 j (.inr ho)) g1 w hq
 have X:Ext (fun j=>if j<h.nx/\g.get j=none then h.get j else none) g h:=by
  refine ⟨g1.symm,fun j=>?_,fun j hj=>?_⟩
  ·by_cases hj:j<h.nx
   ·by_cases ho:ro j\/dat j
    ·rw [g3 j (.inr ho)]
     cases hh:h.get j<;>simp [hh]
    ·rw [g2 j hj ho];simp [hj]
   ·rw [g3 j (.inl om)]
    cases hh:h.get j<;>simp [hj]
  ·by_cases hc:j<h.nx/\g.get j=none
   ·exact ⟨by rw [g1];exact hc.1,hc.2⟩
   ·simp [hc] at hj
 have hF:=sem_F hcl d
 obtain ⟨h',q1,q2⟩:=hF.1 _ _ _ _ _ e1 _ _ X
 have hx:h.nx<=h'.nx:=by rw [q2.nx,<- g1];exact e3.nx
 have m:Mono g' h':=⟨q2.nx,fun j o _ hj=>q2.has hj⟩
 have off : ∀ j,j<h.nx -> ¬ (ro j\/dat j)->g'.get j=none:=by
  intro j hj ho
  by_cases hz:h.get j=none
  ·rw [e3.get j (by rw [g1];exact hj) (by
    rintro (rfl | rfl)
    ·rcases hq with rfl | hq
     ·exact hop hz
     ·exact ho (.inl hq)
    ·exact ho (.inl a.hr)),g2 j hj ho]
  ·exact (q2.off j (by simp [hj,g2 j hj ho,hz])).2
 have same : ∀ j,(ro j\/dat j)->h'.get j=g'.get j:=by
  intro j ho
  rw [q2.get j]
  by_cases hz:g.get j=none
  ·have:h.get j=none:=by rw [<- g3 j (.inr ho),hz]
   simp [this]
  ·simp [hz]
 refine ⟨v,l',tl',h',q1,⟨⟨q',fun hl=>?_,fun g4 n4 k4=>?_⟩,fun j hj=>?_,.inl a.hr,fun j hj hd=>?_⟩,⟨hx,fun j hj ho=>?_⟩,mono _ _ _ _ _ m e4⟩
 ·have hz:=(e2.at_ hl).hq
  rcases zr q' h.nx with h1 | h1
  ·rcases e5 with rfl | h2
   ·rcases hq with rfl | hq
    ·rw [off q' h1 hnp] at hz;cases hz
    ·exact .inl hq
   ·omega
  ·exact .inr ⟨h1,by rw [q2.nx];exact e2.lq⟩
 ·refine e2.mono ⟨by rw [n4,q2.nx],fun j o hj hg=>?_⟩
  by_cases ho:ro j\/dat j
  ·rw [k4 j (by rw [q2.nx];exact hj) (ho.imp .inl id),same j ho,hg]
  ·rcases zr j h.nx with h1 | h1
   ·rw [off j h1 ho] at hg;cases hg
   ·rw [k4 j (by rw [q2.nx];exact hj) (.inl (.inr ⟨h1,by rw [q2.nx];exact hj⟩)),q2.has hg]
 ·rcases hj with (hj | hj) | hj
  ·exact zo (a.lt j (.inl hj)) hx
  ·exact hj.2
  ·exact zo (a.lt j (.inr hj)) hx
 ·rcases hj with hj | hj
  ·exact a.ap j hj hd
  ·have:=a.lt j (.inr hd)
   omega
 ·by_cases hd:dat j
  ·have hne : ¬ RC rw q j:=by
    rintro (rfl | rfl)
    ·rcases hq with rfl | hq
     ·exact hnp (.inr hd)
     ·exact a.ap _ hq hd
    ·exact a.ap _ a.hr hd
   rw [same j (.inr hd),e3.get j (by rw [g1];exact hj) hne,g3 j (.inr (.inr hd))]
  ·have h2:=off j hj (fun h=>h.elim ho hd)
   rw [q2.get j,h2]
   have h3:=g2 j hj (fun h=>h.elim ho hd)
   simp [hj,h3]
structure St where
 ws:Ws
 now:Int
 tb:Tb
 no:Option (Nat × Nat)
abbrev St.tl (r:St):List V:=tail r.now r.tb.hd r.tb.pd (noI r.no) (siI r.no)
section
variable {h h':H} {w s:Nat} {ow:Nat->Nat} {ws:Ws} {now:Int} {tb:Tb} {no:Option (Nat × Nat)}
theorem WSt.keep (a:WSt h w s ow ws now tb no) (hx:h.nx<=h'.nx) (hk : ∀ j,ow j≠0->h'.get j=h.get j):WSt h' w s ow ws now tb no:=by
 obtain ⟨l,a,e⟩:=a
 exact ⟨l,⟨a.wf.keep hx hk,a.fds⟩,e⟩
theorem WSt.top (a:WSt h w s ow ws now tb no) {j:Nat} (hj:h.nx<=j):ow j=0:=by
 obtain ⟨l,a,e⟩:=a
 exact a.wf.top j hj
theorem WSt.lt_of (a:WSt h w s ow ws now tb no) {j:Nat} (hj:ow j≠0):j<h.nx:=by
 obtain ⟨l,a,e⟩:=a
 exact a.wf.lt_of hj
theorem WSt.lw (a:WSt h w s ow ws now tb no):w<h.nx:=by
 obtain ⟨l,a,e⟩:=a
 exact a.wf.lw
end
structure BB (h:H) (p w s rw:Nat) (ow:Nat->Nat) (ro dat:Nat->Prop) (a r:St):Prop where
 W:WSt h w s ow a.ws a.now a.tb a.no
 R : ∃ l,RO h ro dat rw l r.tl/\l.map RX.x=r.ws
 hp:h.get p=some (.cells [.p w 0,.p rw 0] false)
 lp:p<h.nx
 sep : ∀ j,ro j\/dat j->ow j=0
 op:ow p=0
 rp : ¬ (ro p\/dat p)
structure Fm (h h':H) (ow:Nat->Nat) (ro:Nat->Prop) (ow':Nat->Nat) (ro':Nat->Prop):Prop where
 ch:Ch (fun j=>ow j≠0\/ro j) h h'
 tag : ∀ j,j<h.nx->ow' j=ow j
 rtag : ∀ j,j<h.nx->(ro' j↔ro j)
theorem Fm.refl {h:H} {ow:Nat->Nat} {ro:Nat->Prop} : Fm h h ow ro ow ro:=⟨Ch.refl _ _,fun _ _=>rfl,fun _ _=>Iff.rfl⟩
theorem Fm.trans {h h1 h2:H} {a b c:Nat->Nat} {x y z:Nat->Prop} (f:Fm h h1 a x b y) (g:Fm h1 h2 b y c z):Fm h h2 a x c z :=
 ⟨f.ch.trans_new g.ch fun j hj hb=>by rw [f.tag j hj,f.rtag j hj] at hb;exact hb,
  fun j hj=>by rw [g.tag j (zo hj f.ch.nx),f.tag j hj],fun j hj=>(g.rtag j (zo hj f.ch.nx)).trans (f.rtag j hj)⟩
theorem Fm.old {h h1:H} {ow:Nat->Nat} {ro:Nat->Prop} (o:Old h h1):Fm h h1 ow ro ow ro:=⟨o.ch,fun _ _=>rfl,fun _ _=>Iff.rfl⟩
theorem Fm.to {h h1:H} {ow ow':Nat->Nat} {ro:Nat->Prop} (t:To h h1 ow ow'):Fm h h1 ow ro ow' ro:=⟨t.ch.weaken fun _ _ hb=>.inl hb,t.tag,fun _ _=>Iff.rfl⟩
section
variable {h h':H} {p w s rw:Nat} {ow ow':Nat->Nat} {ro dat:Nat->Prop} {a a' r r':St}
theorem BB.old (b:BB h p w s rw ow ro dat a r) (o:Old h h'):BB h' p w s rw ow ro dat a r:=by
 obtain ⟨l,R,e⟩:=b.R
 exact ⟨b.W.old o,⟨l,R.keep o.1 fun j hj=>o.2 j (R.lt j hj),e⟩,by rw [o.2 _ b.lp,b.hp],zo b.lp o.1,b.sep,b.op,b.rp⟩
theorem BB.off (b:BB h p w s rw ow ro dat a r) (hx:h.nx<=h'.nx) (hk : ∀ j,j<h.nx->ow j≠0\/ro j\/dat j\/j=p->h'.get j=h.get j):BB h' p w s rw ow ro dat a r:=by
 obtain ⟨l,R,e⟩:=b.R
 exact ⟨b.W.keep hx fun j hj=>hk j (b.W.lt_of hj) (.inl hj),⟨l,R.keep hx fun j hj=>hk j (R.lt j hj) (.inr (hj.imp id .inl)),e⟩,by rw [hk _ b.lp (.inr (.inr (.inr rfl))),b.hp],zo b.lp hx,b.sep,b.op,b.rp⟩
theorem BB.wc (b:BB h p w s rw ow ro dat a r) (W:WSt h' w s ow' a'.ws a'.now a'.tb a'.no) (t:To h h' ow ow'):BB h' p w s rw ow' ro dat a' r:=by
 obtain ⟨l,R,e⟩:=b.R
 refine ⟨W,⟨l,R.keep t.ch.nx fun j hj=>t.ch.get j (R.lt j hj) fun hne=>hne (b.sep j hj),e⟩,by rw [t.ch.get p b.lp fun hne=>hne b.op,b.hp],zo b.lp t.ch.nx,fun j hj=>by rw [t.tag j (R.lt j hj)];exact b.sep j hj,by rw [t.tag p b.lp];exact b.op,b.rp⟩
theorem BB.ro_lt (b:BB h p w s rw ow ro dat a r) {j:Nat} (hj:ro j\/dat j):j<h.nx:=by
 obtain ⟨l,R,e⟩:=b.R
 exact R.lt j hj
theorem BB.ap (b:BB h p w s rw ow ro dat a r) {j:Nat} (hj:dat j) : ¬ ro j:=by
 obtain ⟨l,R,e⟩:=b.R
 exact fun h=>R.ap j h hj
end
theorem Tb.ok.mono {t:Tb} {m n:Int} (a:t.ok m) (h:m<=n):t.ok n:=fun k=>⟨(a k).1,by have:=(a k).2;omega⟩
structure StOk (st:St) (i:Nat):Prop where
 K:WsK st.ws
 nt:NtOk st.ws (noI st.no) (siI st.no)
 now:0<=st.now/\st.now<=18446744073709551615
 tb:st.tb.ok i
theorem StOk.ws {st:St} {i:Nat} {ws:Ws} (o:StOk st i) (K:WsK ws) (r:WsR st.ws ws):StOk { st with ws:=ws } (i+1) :=
 ⟨K,o.nt.keep r,o.now,o.tb.mono om⟩
section
variable {call:Call} {fuel base:Nat} {ops:List Ins} {keep:List Nat} {K:List Fr} {e:Env} {h:H} {Q:Post} {ix:Nat} {dst at_:Option Nat}
theorem Ops.mark {x:Opd} {b o n:Nat} {c:Cap} {l:List V} (hx:x.ev e=some (.slice (some (b,o)) n c)) (hb:h.get b=some (.cells l false)) (hn:Nat.ble 1 n=true) (k:Ops call fuel base ops keep K (layv e dst (.slice (some (b,o)) n c)) h Q) :
  Ops call fuel base (⟨ix,dst,.mark x,none,at_,[]⟩ :: ops) keep K e h Q:=by
 refine Ops.step (I.run_eff rfl ?_) k
 simp only [I.eff,hx,hb,hn,cond_true]
end
abbrev opV (k a n t:Int) (dv:V):List V:=[.i k,.i a,.i n,.int .u64 t,dv]
structure Dat (h:H) (dat:Nat->Prop) (dv:V) (D:List UInt8):Prop where
 v:VB h dv D
 z:D≠[] -> ∀ z,dv.at?=some z->dat z
 len:D.length<=300
structure Cpy (h:H) (p:Nat) (ow:Nat->Nat) (ro dat:Nat->Prop) (vd:V) (D:List UInt8):Prop where
 v:VB h vd D
 z : ∀ z,vd.at?=some z->z<h.nx/\ow z=0 /\ ¬ ro z /\ ¬ dat z/\z≠p
section
variable {h h':H} {p w s rw:Nat} {ow ow':Nat->Nat} {ro ro' dat:Nat->Prop} {a r a' r':St} {dv vd:V} {D:List UInt8}
theorem BB.keepD (b:BB h p w s rw ow ro dat a r) (f:Fm h h' ow ro ow' ro') {z:Nat} (hz:dat z):h'.get z=h.get z :=
 f.ch.get z (b.ro_lt (.inr hz)) fun e=>e.elim (fun e=>e (b.sep z (.inr hz))) (b.ap hz)
theorem Dat.keep (d:Dat h dat dv D) (b:BB h p w s rw ow ro dat a r) (f:Fm h h' ow ro ow' ro'):Dat h' dat dv D :=
 ⟨d.v.keep2 f.ch.nx fun hl z hz=>b.keepD f (d.z hl z hz),d.z,d.len⟩
theorem Cpy.keep (c:Cpy h p ow ro dat vd D) (f:Fm h h' ow ro ow' ro'):Cpy h' p ow' ro' dat vd D :=
 ⟨c.v.keep f.ch.nx fun z hz=>by
  obtain ⟨p1,p2,p3,p4,p5⟩:=c.z z hz
  exact f.ch.get z p1 fun e=>e.elim (fun e=>e p2) p3,fun z hz=>by
  obtain ⟨p1,p2,p3,p4,p5⟩:=c.z z hz
  exact ⟨zo p1 f.ch.nx,by rw [f.tag z p1];exact p2,fun e=>p3 ((f.rtag z p1).1 e),p4,p5⟩⟩
theorem Fm.two {h1 h2:H} {ow1:Nat->Nat} (o:Old h h') (t:To h' h1 ow ow1) (f:Fm h1 h2 ow1 ro ow1 ro'):Fm h h2 ow ro ow1 ro':=(Fm.old o).trans ((Fm.to t).trans f)
end
section
variable {call:Call} {fuel base:Nat} {ops:List Ins} {keep:List Nat} {K:List Fr} {e:Env} {h:H} {Q:Post} {ix:Nat} {dst at_:Option Nat}
end
section
variable {f:Nat->Option (Nat × Nat)} {wv:V} {s:Nat} {now:Int} {no:Option (Nat × Nat)}
end
section
variable {cl:Nat->Call} (hcl:Sem cl) {h:H} {w s:Nat} {ow:Nat->Nat} {f:Nat->Option (Nat × Nat)} {l:List WX} {now:Int} {tb:Tb} {no:Option (Nat × Nat)}
include hcl
end
section
variable {cl:Nat->Call} (hcl:Sem cl) {h:H} {w s:Nat} {ow:Nat->Nat} {l:List WX} {now:Int} {tb:Tb} {no:Option (Nat × Nat)}
include hcl
end
def tg:Nat->Nat
 | 0=>0
 | 1=>2
 | 2=>1
 | 3=>4
 | _=>3
def jcr (ow:Nat->Nat) (N L m z:Nat):Nat->Nat:=fun j=>if j=z then 2 else if N<=j/\j<N+m then 10*L+10+tg (j-N) else ow j
theorem jfT {ow:Nat->Nat} {N L m z:Nat} : jcr ow N L m z z=2:=zq rfl
theorem jfU {ow:Nat->Nat} {N L m z i:Nat} (h:i<m) (hz:N+i≠z):jcr ow N L m z (N+i)=10*L+10+tg i:=by
 unfold jcr
 rw [zp hz,zq om,show N+i-N=i by omega]
theorem jdp {ow:Nat->Nat} {N L m z j:Nat} (h:j<N\/N+m<=j) (hz:j≠z):jcr ow N L m z j=ow j:=by
 unfold jcr
 rw [zp hz,zp om]
theorem XOk.tag0 {h:H} {ow ow':Nat->Nat} {n:Nat} {t:WX} (a:XOk h ow n t) (hk : ∀ j,ow j≠0->ow' j=ow j):XOk h ow' n t:=by
 refine ⟨a.hx,by rw [hk _ (by rw [a.ox];omega),a.ox],a.lx,fun k h01 q hq=>?_,a.wait.1,fun hl z hz=>?_⟩
 ·obtain ⟨p1,p2,p3,p4,p5⟩:=a.ring k h01 q hq
  exact ⟨p1,by rw [hk _ om,p2],by rw [hk _ om,p3],p4,p5⟩
 ·obtain ⟨p1,p2⟩:=a.wait.2 hl z hz
  exact ⟨by rw [hk _ om,p1],p2⟩
theorem WF.push {h h':H} {w s:Nat} {ow:Nat->Nat} {f g:Nat->Option (Nat × Nat)} {l:List WX} {now:Int} {tb:Tb} {no:Option (Nat × Nat)} {m z N:Nat} {wv:V} {t:WX} (a:WF h w s ow f l now tb no)
  (hm:m=1\/m=5) (hN:N+m<=h.nx) (h0 : ∀ j,N<=j->j<N+m->ow j=0) (hx:h.nx<=z) (hz:z<h'.nx) (hk : ∀ j,ow j≠0->ow j≠2->j≠w->h'.get j=h.get j)
  (hw:h'.get w=some (.cells (wc g wv s now no) false)) (row:Row 0 h' 1 wv (l.length+1) (wps l++[.p N 0])) (hat : ∀ y,wv.at?=some y->y=z)
  (t0:t.wb=N) (t1:m=5->t.b0=N+1/\t.r0=N+2/\t.b1=N+3/\t.r1=N+4)
  (ho:h'.get N=some (t.x.obj t.r0 t.r1 t.wv)) (hwt:t.x.waiting=[]) (hwv:t.wv = .nils)
  (hr : ∀ k,k=0\/k=1 -> ∀ q,(t.x.e k).ring=some q->m=5/\jbq h' (t.r k) (t.b k) q t.x.cap) :
  WF h' w s (jcr ow N l.length m z) g (l++[t]) now tb no:=by
 have hz0:ow z=0:=a.top z hx
 have keep : ∀ j,ow j≠0->jcr ow N l.length m z j=ow j:=fun j hj=>jdp (by
  rcases zr j N with h1 | h1
  ·exact .inl h1
  ·rcases zr j (N+m) with h2 | h2
   ·exact zx (h0 j h1 h2) hj
   ·exact .inr h2) fun e=>hj (by rw [e,hz0])
 have nx:h.nx<=h'.nx:=by omega
 refine ⟨⟨wv,hw,?_,fun y hy=>by rw [hat y hy,jfT]⟩,?_,?_,?_,zo a.lw nx,zo a.ls nx,fun j hj=>?_,fun n u hu=>?_⟩
 ·rw [ze]
  show Row 0 h' 1 wv (l.length+1) (wps (l++[t]))
  have:wps (l++[t])=wps l++[.p N 0]:=by rw [<- t0];simp
  rw [this];exact row
 ·rw [hk s (by rw [a.ts];omega) (by rw [a.ts];omega) (fun e=>by have:=a.ts;rw [e,a.tw] at this;omega),a.hs]
 ·rw [keep w (by rw [a.tw];omega),a.tw]
 ·rw [keep s (by rw [a.ts];omega),a.ts]
 ·rw [jdp om om,a.top j om]
 ·rcases zr n l.length with hn | hn
  ·rw [zd,zq hn] at hu
   have o:=(a.ok n u hu).tag0 keep
   refine o.keep nx fun j j1 j2=>?_
   have hj:ow j≠0:=by
    intro e
    rcases zr j N with h1 | h1
    ·by_cases ez:j=z
     ·omega
     ·rw [jdp (.inl h1) ez,e] at j1;omega
    ·by_cases ez:j=z
     ·rw [ez,jfT] at j1;omega
     ·rcases zr j (N+m) with h2 | h2
      ·obtain ⟨i,rfl⟩ : ∃ i,j=N+i:=⟨j-N,by omega⟩
       rw [jfU om ez] at j2;omega
      ·rw [jdp (.inr h2) ez,e] at j1;omega
   refine hk j hj (fun e=>?_) fun e=>?_
   ·rw [keep j hj,e] at j1;omega
   ·rw [keep j hj,e,a.tw] at j1;omega
  ·rw [zd,zp om] at hu
   have e0:n-l.length=0:=by
    rcases Nat.eq_zero_or_pos (n-l.length) with e | e
    ·exact e
    ·rw [zc (show 1<=_ from e)] at hu;cases hu
   rw [e0] at hu
   cases hu
   obtain rfl:n=l.length:=by omega
   have tag : ∀ i,i<m->jcr ow N l.length m z (N+i)=10*l.length+10+tg i:=fun i hi=>jfU hi om
   refine ⟨by rw [t0];exact ho,by rw [t0];exact tag 0 om,by rw [t0];omega,fun k hk q hq=>?_,by rw [hwt,hwv];exact VI.nil h',fun hl=>zx hwt hl⟩
   obtain ⟨r1,r2⟩:=hr k hk q hq
   obtain ⟨p1,p2,p3,p4⟩:=t1 r1
   refine ⟨r2,?_⟩
   rcases hk with rfl | rfl
   ·show jcr ow N l.length m z t.r0=_/\jcr ow N l.length m z t.b0=_/\t.r0<h'.nx/\t.b0<h'.nx
    rw [p1,p2]
    exact ⟨tag 2 om,tag 1 om,by omega,by omega⟩
   ·show jcr ow N l.length m z t.r1=_/\jcr ow N l.length m z t.b1=_/\t.r1<h'.nx/\t.b1<h'.nx
    rw [p3,p4]
    exact ⟨tag 4 om,tag 3 om,by omega,by omega⟩
section
variable {cl:Nat->Call} (hcl:Sem cl)
include hcl
end
def Wi.name (x:Wi) (k:Nat) (i:Nat):Wi:=x.put k { x.e k with what:=1,fd:=i }
structure Opened (h h':H) (w s N:Nat) (ow:Nat->Nat) (g:Nat->Option (Nat × Nat)) (l:List WX) (now:Int) (no:Option (Nat × Nat)) (o:Obj):Prop where
 ho:h'.get N=some o
 hw : ∃ wv z,h'.get w=some (.cells (wc g wv s now no) false)/\Row 0 h' 1 wv (l.length+1) (wps l++[.p N 0])/\(∀ y,wv.at?=some y->y=z)/\h.nx<=z/\z<h'.nx
 hk : ∀ j,j<h.nx->j≠N->j≠w->ow j≠2->h'.get j=h.get j
 nx:h.nx<=h'.nx
section
variable {cl:Nat->Call} (hcl:Sem cl) {h:H} {w s:Nat} {ow:Nat->Nat} {f:Nat->Option (Nat × Nat)} {l:List WX} {now:Int} {tb:Tb} {no:Option (Nat × Nat)}
include hcl
end
section
variable {cl:Nat->Call} (hcl:Sem cl) {h:H} {w s:Nat} {ow:Nat->Nat} {l:List WX} {now:Int} {tb:Tb} {no:Option (Nat × Nat)}
include hcl
end
section
variable {cl:Nat->Call} (hcl:Sem cl) {h:H} {w s:Nat} {ow:Nat->Nat} {l:List WX} {now:Int} {tb:Tb} {no:Option (Nat × Nat)}
include hcl
end
theorem WSt.len {h:H} {w s:Nat} {ow:Nat->Nat} {ws:Ws} {now:Int} {tb:Tb} {no:Option (Nat × Nat)} (a:WSt h w s ow ws now tb no) : ∃ f av cp,h.get w=some (.cells (wc f (.slice av ws.length cp) s now no) false):=by
 obtain ⟨l,a,rfl⟩:=a
 obtain ⟨av,cp,hw,_⟩:=a.wf.head
 exact ⟨fun i=>atS (wxs l) (i:Int),av,cp,by rw [hw,List.length_map]⟩
section
variable {cl:Nat->Call} (hcl:Sem cl) {h:H} {w s:Nat} {ow:Nat->Nat} {ws:Ws} {now:Int} {tb:Tb} {no:Option (Nat × Nat)}
include hcl
end
section
variable {h:H} {w s:Nat} {ow:Nat->Nat} {f:Nat->Option (Nat × Nat)} {l:List WX} {now:Int} {tb:Tb} {no:Option (Nat × Nat)} {n m:Nat} {t:WX}
end
section
variable {cl:Nat->Call} (hcl:Sem cl) {h:H} {w s:Nat} {ow:Nat->Nat} {ws:Ws} {now:Int} {tb:Tb} {no:Option (Nat × Nat)}
include hcl
end
def RowZ (N:Nat) (h:H) (v:V) (l:List Int):Prop:=Row N h 1 v l.length (ints l)\/(l=[] /\ ∃ b,v = .slice (some (b,0)) 0 (.fix 0)/\N<=b/\b<h.nx)
theorem RowZ.at_ge {N:Nat} {h:H} {v:V} {l:List Int} (r:RowZ N h v l) {q:Nat} (hq:v.at?=some q):N<=q/\q<h.nx:=by
 rcases r with r | ⟨_,b,rfl,h1,h2⟩
 ·exact r.at_ge hq
 ·cases hq;exact ⟨h1,h2⟩
theorem RowZ.keep {N:Nat} {h h':H} {v:V} {l:List Int} (r:RowZ N h v l) (hx:h.nx<=h'.nx) (hg : ∀ q,v.at?=some q->h'.get q=h.get q):RowZ N h' v l:=by
 rcases r with r | ⟨h0,b,rfl,h1,h2⟩
 ·exact .inl (r.keep hx hg)
 ·exact .inr ⟨h0,b,rfl,h1,by omega⟩
section
variable {call:Call} {fuel base:Nat} {ops:List Ins} {keep:List Nat} {K:List Fr} {e:Env} {h:H} {Q:Post} {ix:Nat} {dst:Option Nat}
end
section
variable {cl:Nat->Call} (hcl:Sem cl)
include hcl
end
section
variable {cl:Nat->Call} (hcl:Sem cl) {h:H} {w s:Nat} {ow:Nat->Nat} {l:List WX} {now:Int} {tb:Tb} {no:Option (Nat × Nat)}
include hcl
end
section
variable {cl:Nat->Call} (hcl:Sem cl) {h:H} {w s:Nat} {ow:Nat->Nat} {l:List WX} {now:Int} {tb:Tb} {no:Option (Nat × Nat)}
include hcl
end
section
variable {cl:Nat->Call} (hcl:Sem cl) {h:H} {w s:Nat} {ow:Nat->Nat} {ws:Ws} {now:Int} {tb:Tb} {no:Option (Nat × Nat)}
include hcl
end
section
variable {cl:Nat->Call} (hcl:Sem cl) {h:H} {p w s rw:Nat} {ow:Nat->Nat} {ro dat:Nat->Prop} {st:St} {a n t:Int} {dv vd:V} {D:List UInt8}
include hcl
end
section
variable {cl:Nat->Call} (hcl:Sem cl) {h:H} {p w s rw:Nat} {ow:Nat->Nat} {ro dat:Nat->Prop} {st:St} {a n t:Int} {dv vd:V} {D:List UInt8}
include hcl
end
section
variable {call:Call} {fuel base:Nat} {K:List Fr} {e:Env} {h:H} {Q:Post} {ix:Nat} {dst at_:Option Nat} {ops:List Ins} {keep:List Nat}
end
section
variable {cl:Nat->Call} (hcl:Sem cl) {h:H} {p w s rw:Nat} {ow:Nat->Nat} {ro dat:Nat->Prop} {st:St} {a n t:Int} {dv vd:V} {D:List UInt8}
include hcl
end
theorem VB.lt {h:H} {v:V} {l:List UInt8} (a:VB h v l) (hl:l≠[]) {z:Nat} (hz:v.at?=some z):z<h.nx:=by
 obtain ⟨a,c,rfl,n,f,g⟩:=a
 obtain ⟨b,o,cs,ro,rfl,h1,_⟩:=g hl
 cases hz;exact h1
section
variable {cl:Nat->Call} (hcl:Sem cl) {h:H} {p w s rw:Nat} {ow:Nat->Nat} {ro dat:Nat->Prop} {st:St} {a n t:Int} {dv vd:V} {D:List UInt8}
include hcl
end
section
variable {call:Call} {fuel base:Nat} {K:List Fr} {e:Env} {h:H} {Q:Post} {ix:Nat} {dst:Option Nat} {ops:List Ins} {keep:List Nat}
end
section
variable {cl:Nat->Call} (hcl:Sem cl)
include hcl
end
def PD (h:H) (p w s rw:Nat) (ow:Nat->Nat) (ro dat:Nat->Prop) (vd:V) (st':St):Post:=fun y e g=>y = .normal/\e=[(5,vd),(6,.bool true)] /\ ∃ ow' ro',BB g p w s rw ow' ro' dat st' st'/\Fm h g ow ro ow' ro'
theorem PD.mk {call:Call} {fuel:Nat} {h g:H} {p w s rw:Nat} {ow ow':Nat->Nat} {ro ro' dat:Nat->Prop} {vd:V} {st':St} (b:BB g p w s rw ow' ro' dat st' st') (f:Fm h g ow ro ow' ro'):End call fuel [] .normal [(5,vd),(6,.bool true)] g (PD h p w s rw ow ro dat vd st') :=
 End.nil ⟨rfl,rfl,ow',ro',b,f⟩
section
variable {cl:Nat->Call} (hcl:Sem cl) {h:H} {p w s rw:Nat} {ow:Nat->Nat} {ro dat:Nat->Prop} {st:St} {a n t:Int} {dv vd:V} {D:List UInt8}
include hcl
end
section
variable {cl:Nat->Call} (hcl:Sem cl) {h:H} {p w s rw:Nat} {ow:Nat->Nat} {ro dat:Nat->Prop} {st:St} {a n t:Int} {dv vd:V} {D:List UInt8}
include hcl
end
section
variable {cl:Nat->Call} (hcl:Sem cl) {h:H} {p w s rw:Nat} {ow:Nat->Nat} {ro dat:Nat->Prop} {st:St} {a n t:Int} {dv vd:V} {D:List UInt8}
include hcl
end
section
variable {cl:Nat->Call} (hcl:Sem cl) {h:H} {p w s rw:Nat} {ow:Nat->Nat} {ro dat:Nat->Prop} {st:St} {k a n t:Int} {dv vd:V} {D:List UInt8}
include hcl
end
section
variable {cl:Nat->Call} (hcl:Sem cl)
include hcl
theorem Fin.mono {res:List RV} {R R':V->H->Prop} {x:Ex} {e:Env} {h:H} (k:Fin res R x e h) (hR : ∀ v,R v h->R' v h):Fin res R' x e h:=by
 obtain ⟨p1,l,p2,p3⟩:=k;exact ⟨p1,l,p2,hR _ p3⟩
end
section
variable {cl:Nat->Call} (hcl:Sem cl)
include hcl
end
section
variable {cl:Nat->Call} (hcl:Sem cl) {h0:H} {w s:Nat} {ow:Nat->Nat} {ws:Ws} {now:Int} {tb:Tb} {no:Option (Nat × Nat)}
include hcl
end
structure Rdy where
 op:Bool
 inn:Bool
 out:Bool
 hup:Bool
 err:Bool
 rd:Int
 wr:Int
def Rdy.cells (r:Rdy):List V:=[.bool r.op,.bool r.inn,.bool r.out,.bool r.hup,.bool r.err,.int .u64 r.rd,.int .u64 r.wr]
def Rdy.no:Rdy:=⟨false,false,false,false,false,0,0⟩
def mayAsk (ev:Int):Prop:=ev=0\/ev=1\/ev=4\/ev=5
instance (ev:Int):Decidable (mayAsk ev):=inferInstanceAs (Decidable (_\/_))
structure BX (h0 h:H) (p w s rw:Nat) (ow:Nat->Nat) (ro:Nat->Prop) (st:St) (i:Nat):Prop where
 b:BB h p w s rw ow ro (fun j=>j<h0.nx) st st
 so:StOk st i
 old:Old h0 h
 own : ∀ j,ow j≠0\/ro j->h0.nx<=j
 lp:h0.nx<=p
theorem Ops.build {call:Call} {fuel base:Nat} {K:List Fr} {e:Env} {h:H} {Q:Post} {ix:Nat} {dst:Option Nat} {ops:List Ins} {keep:List Nat} {at_:Option Nat} {zero l:List V} {parts:List (Nat × Nat × Opd)} {ps:List (Nat × Nat × V)}
  (he:ja4 e parts=some ps) (hf:ja0 zero ps=some l) (k:Ops call fuel base ops keep K (layv e dst (.agg l)) h Q):Ops call fuel base (⟨ix,dst,.build zero parts,none,at_,[]⟩ :: ops) keep K e h Q :=
 Ops.pure rfl (by simp only [I.pure,he,hf]) k
section
variable {cl:Nat->Call} (hcl:Sem cl)
include hcl
end
theorem BytesAt.keep {h h':H} {a:Option (Nat × Nat)} {c:Cap} {l:List UInt8} (t:BytesAt h a c l) (hx:h.nx<=h'.nx) (hk : ∀ j o,j<h.nx->h.get j=some o->h'.get j=some o):BytesAt h' a c l :=
 ⟨t.none_,t.fits,fun hn=>by
  obtain ⟨b,o,cs,ro,q1,q2,q3,q4⟩:=t.at_ hn
  exact ⟨b,o,cs,ro,q1,by omega,hk _ _ q2 q3,q4⟩⟩
theorem BytesAt.lt {h:H} {a:Option (Nat × Nat)} {c:Cap} {l:List UInt8} (t:BytesAt h a c l) {N:Nat} (hN:h.nx<=N) {z o:Nat} (ha:a=some (z,o)) (hl:l≠[]):z<N:=by
 obtain ⟨b,o',cs,ro,q1,q2,_⟩:=t.at_ hl
 rw [q1] at ha;cases ha;omega
structure OpX where
 k:Int
 a:Int
 n:Int
 t:Int
 dv:V
 D:List UInt8
abbrev OpX.V (x:OpX):List V:=opV x.k x.a x.n x.t x.dv
structure OpOk (h:H) (x:OpX):Prop where
 dv : ∃ a c,x.dv = .slice a x.D.length c/\(x.D.length<=300->BytesAt h a c x.D)
 t0:0<=x.t
 t1:x.t<=18446744073709551615
theorem OpOk.keep {h h':H} {x:OpX} (o:OpOk h x) (hx:h.nx<=h'.nx) (hk : ∀ j o,j<h.nx->h.get j=some o->h'.get j=some o):OpOk h' x:=by
 obtain ⟨⟨a,c,e,g⟩,t0,t1⟩:=o
 exact ⟨⟨a,c,e,fun hl=>(g hl).keep hx hk⟩,t0,t1⟩
theorem OpOk.dat {h:H} {x:OpX} (o:OpOk h x) (hl:x.D.length<=300):Dat h (fun j=>j<h.nx) x.dv x.D:=by
 obtain ⟨⟨a,c,e,g⟩,_,_⟩:=o
 refine ⟨⟨a,c,e,g hl⟩,fun hn z hz=>?_,hl⟩
 obtain ⟨b,o,cs,ro,q1,q2,_⟩:=(g hl).at_ hn
 rw [e,q1] at hz
 cases hz;exact q2
def jg8 (h:H) (lv:V) (L:List OpX):Prop := ∃ ad c,lv = .slice ad L.length c/\(L.length<=200->(∀ x∈L,OpOk h x)/\(L≠[] -> ∃ b cs ro,ad=some (b,0)/\b<h.nx/\h.get b=some (.cells cs ro)/\cs.length=L.length*5 /\ ∀ (i:Nat) (x:OpX),L[i]?=some x->(cs.drop (i*5)).take 5=x.V))
theorem jg8.keep {h h':H} {lv:V} {L:List OpX} (o:jg8 h lv L) (hx:h.nx<=h'.nx) (hk : ∀ j o,j<h.nx->h.get j=some o->h'.get j=some o):jg8 h' lv L:=by
 obtain ⟨ad,c,e,g⟩:=o
 refine ⟨ad,c,e,fun hl=>⟨fun x hx'=>((g hl).1 x hx').keep hx hk,fun hn=>?_⟩⟩
 obtain ⟨b,cs,ro,q1,q2,q3,q4⟩:=(g hl).2 hn
 exact ⟨b,cs,ro,q1,by omega,hk _ _ q2 q3,q4⟩
section
variable {cl:Nat->Call} (hcl:Sem cl)
include hcl
end
theorem flat_get : ∀ {L:List OpX} {i:Nat} {x:OpX},L[i]?=some x->(((L.map OpX.V).flatten).drop (i*5)).take 5=x.V
 | [],i,x,h=>by simp at h
 | y :: L,0,x,h=>by simp at h;subst h;rfl
 | y :: L,i+1,x,h=>by
  rw [List.map_cons,zC,show (i+1)*5=(OpX.V y).length+i*5 by show _=5+_;omega,<- List.drop_drop,List.drop_left]
  exact flat_get (by simpa using h)
def hB (n:Nat):H:=((((⟨n,.lf⟩:H).set 0 (.cells jag true)).set 2 (.cells jaf true)).set 3 (.cells jak true)).set 4 (.cells jal true)
theorem hB_get (n j:Nat):(hB n).get j=if j=4 then some (.cells jal true) else if j=3 then some (.cells jak true) else if j=2 then some (.cells jaf true) else if j=0 then some (.cells jag true) else none:=by
 unfold hB
 rw [H.get_set,H.get_set,H.get_set,H.get_set]
 rfl
def gB (j:Nat):Prop:=j=0\/j=2\/j=3\/j=4
instance (j:Nat):Decidable (gB j):=by unfold gB;infer_instance
set_option maxRecDepth 100000 in
theorem namesB:ran (jax prog fuel 60 (.fn 5) [] (hB 9)) (fun v _=>jgb v)=true:=by kernel_rfl
theorem jd6 {cl:Nat->Call} (hcl : ∀ d,cl d=jax prog fuel d) {h0:H} (hnx:h0.nx=9) (hwf : ∀ b,9<=b->h0.get b=none) (l2:h0.get 2=some (.cells jaf true)) (l4:h0.get 4=some (.cells jal true)) (l3:h0.get 3=some (.cells jak true)) (l0:h0.get 0=some (.cells jag true)) :
  ∃ h',cl 60 (.fn 5) [] h0=some (.bool true,h'):=by
 obtain ⟨v,e,r,p⟩:=ran_ex namesB
 obtain rfl:=isTrue_eq p
 have hg0 : ∀ j,(hB 9).get j=if gB j then h0.get j else none:=fun j=>by
  rw [hB_get]
  by_cases g4:j=4
  ·subst g4;rw [l4,zq rfl,zq (by decide)]
  by_cases g3:j=3
  ·subst g3;rw [l3,zp (by decide),zq rfl,zq (by decide)]
  by_cases g2:j=2
  ·subst g2;rw [l2,zp (by decide),zp (by decide),zq rfl,zq (by decide)]
  by_cases g0:j=0
  ·subst g0;rw [l0];rfl
  rw [zp g4,zp g3,zp g2,zp g0,zp (by unfold gB;omega)]
 have hX:Ext (fun j=>if gB j then none else h0.get j) (hB 9) h0:=by
  refine ⟨hnx,fun j=>?_,fun j hj=>?_⟩
  ·rw [hg0]
   by_cases h:gB j
   ·rw [zq h,zq h];cases h0.get j<;>rfl
   ·rw [zp h,zp h];rfl
  ·have h : ¬ gB j:=fun e=>hj (zq e)
   rw [zp h] at hj
   refine ⟨?_,by rw [hg0,zp h]⟩
   show j<9
   rcases zr j 9 with h | h
   ·exact h
   ·exact zx (hwf j h) hj
 obtain ⟨h',q,_⟩:=same_in hcl r hX
 exact ⟨h',q⟩
end Am.Sigs
