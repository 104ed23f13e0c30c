/- Our own library, part 15. -/
import Derived.KernelRfl
import Derived.Test.YtjpkpdlpolnehaaGreatDoorV11
import Derived.Test.YtjpkpdlpolnehaaGreatDoorV10
import Derived.Test.YtjpkpdlpolnehaaGreatDoorV14
set_option maxHeartbeats 8000000
set_option maxRecDepth 800
set_option linter.all false
namespace Am.Sigs
open Am Go
abbrev fuel:Nat:=100000
def Sem (cl:Nat->Call):Prop := ∀ d,cl d=jaL prog fuel d
theorem at_ {cl:Nat->Call} (hcl:Sem cl) {d f:Nat} {fn:AFn} {args:List V} {h:H} {R:V->H->Prop} (hd:0<d) (hp:jbI prog.prims f=none) (hf:jbI prog.fns f=some fn) (hl:(args.length == fn.np)=true)
  (k:Run (cl (d-1)) fuel fn.body [] (Env.ofArgs args 0) h (Fin fn.res R)) : ∃ v h',cl d (.fn f) args h=some (v,h')/\R v h':=by
 rw [hcl d];rw [hcl (d-1)] at k;exact callN_at hd hp hf hl k
theorem aT {cl:Nat->Call} (hcl:Sem cl) {d f:Nat} {fn:AFn} {args:List V} {h:H} {R:V->H->Prop} (k:Run (cl (d-1)) fuel fn.body [] (Env.ofArgs args 0) h (Fin fn.res R)) (hd:0<d:=by omega) (hp:jbI prog.prims f=none:=by exact rfl) (hf:jbI prog.fns f=some fn:=by exact rfl) (hl:(args.length==fn.np)=true:=by exact rfl):∃ v h',cl d (.fn f) args h=some (v,h') /\ R v h':=at_ hcl hd hp hf hl k
theorem yl_ {cl:Nat->Call} (hcl:Sem cl) {d l:Nat} {args:List V} {h:H} {R:V->H->Prop} {ps:List Nat} {env e0:Env} {assign body:AC} {LO:LoopState->Option Ex->Obj} (hd:0<d)
  (hLO:LO=(fun st pd=>.loop st pd ps env assign body)) (hl:h.get l=some (LO .ready none)) (he:jcB env ps args=some e0)
  (k:Run (cl (d-1)) fuel assign [] e0 h fun x e1 h1=>x = .normal/\h1.get l=some (LO .ready none) /\
   Run (cl (d-1)) fuel body [] e1 (h1.set l (LO .busy none)) fun ex _ h3=>(∃ st3 pd3,h3.get l=some (LO st3 pd3))/\R (.bool ex.goes) (h3.set l (LO ex.st ex.pend))) :
  ∃ v h',cl d (.yld l) args h=some (v,h')/\R v h':=by
 rw [hcl d];rw [hcl (d-1)] at k;exact yield_lo hd hLO hl he k
theorem jlT {cl:Nat->Call} (hcl:Sem cl) {d f:Nat} {p:Prim} {args:List V} {h:H} (hd:0<d) (hp:jbI prog.prims f=some p):cl d (.fn f) args h=p args h:=by
 rw [hcl d]
 cases d with
 | zero=>omega
 | succ d=>simp only [jaL,hp]
theorem same_in {cl:Nat->Call} (hcl:Sem cl) {d:Nat} {t:Tgt} {args:List V} {h h' h2:H} {v:V} {X:Nat->Option Obj} (hr:jaL prog fuel d t args h=some (v,h')) (x:Ext X h h2) : ∃ h2',cl d t args h2=some (v,h2')/\Ext X h' h2':=by
 rw [hcl d];exact (jd2 primsF fuel d).1 _ _ _ _ _ hr _ _ x
def ran (r:Option (V × H)) (p:V->H->Bool):Bool:=match r with
 | some (v,h')=>p v h'
 | none=>false
theorem ran_ex {r:Option (V × H)} {p:V->H->Bool} (hr:ran r p=true) : ∃ v h',r=some (v,h')/\p v h'=true:=by
 cases r with
 | none=>cases hr
 | some x=>exact ⟨x.1,x.2,rfl,hr⟩
def jlz:V->Bool
 | .bool b=>b
 | _=>false
theorem isTrue_eq {v:V} (h:jlz v=true):v = .bool true:=by
 cases v<;>simp_all [jlz]
theorem ext_kept {X:Nat->Option Obj} {h h2:H} (x:Ext X h h2) {j:Nat} {o:Obj} (hj:X j=some o):h2.get j=some o:=by
 rw [x.get,(x.off j (by simp [hj])).2,hj];rfl
def isS:Option Obj->Nat
 | some _=>1
 | none=>0
def up:Nat->Nat
 | 0=>0
 | n+1=>2*n+3
def ttop:T->Nat
 | .lf=>0
 | .nd v l r=>Nat.max (isS v) (Nat.max (2*(ttop l)) (up (ttop r)))
end Am.Sigs
namespace Am
open Go
theorem jba {e:Env} {h:H} : ja0 e h []=true:=rfl
theorem jaK {e:Env} {h:H} {d:Nat} {a:Opd} {g:Option (Nat × Bool)} {r:List (Nat × I × Option (Nat × Bool))} {b o:Nat} {l:List V} {ro:Bool} {v:V} (ha:a.ev e=some (.ptr (some (b,o)))) (hb:h.get b=some (.cells l ro)) (hv:l[o]?=some v)
  (hd:e.get d=some v) (k:ja0 e h r=true):ja0 e h ((d,.load1 a,g) :: r)=true:=by
 simp only [ja0,I.read,ha,jjG hb hv,hd,V.same_refl,k,Bool.and_true]
 cases wanted e g<;>rfl
section
variable {call:Call} {fuel base:Nat} {K:List Fr} {e:Env} {h h':H} {Q:Post} {ix:Nat} {dst:Option Nat} {ops:List Ins} {keep:List Nat} {at_:Option Nat} {c:List (Nat × I × Option (Nat × Bool))}
theorem Ops.callf_chk {f:FuncId} {args:List Opd} {vs:List V} {v:V} (ha:evs e args=some vs) (hc:call (.fn f) vs h=some (v,h')) (hk:ja0 e h' c=true) (k:Ops call fuel base ops keep K (layv e dst v) h' Q) :
  Ops call fuel base (⟨ix,dst,.call f args,none,at_,c⟩ :: ops) keep K e h Q :=
 Ops.step_chk (I.run_eff rfl (by simp only [I.eff,ha,hc])) hk k
theorem Ops.storeN_chk {a x:Opd} {b o n:Nat} {l vs:List V} (ha:a.ev e=some (.ptr (some (b,o)))) (hx:x.ev e=some (.agg vs)) (hl:vs.length=n) (h1:vs.all V.one=true) (hb:h.get b=some (.cells l false)) (hn:o+n<=l.length)
  (hk:ja0 e (h.set b (.cells (jay l o vs) false)) c=true) (k:Ops call fuel base ops keep K (layv e dst .undef) (h.set b (.cells (jay l o vs) false)) Q):Ops call fuel base (⟨ix,dst,.store n a x,none,at_,c⟩ :: ops) keep K e h Q:=by
 subst hl
 refine Ops.step_chk (I.run_eff rfl ?_) hk k
 simp only [I.eff,ha,hx,V.cells,jeS hb hn h1,beq_self_eq_true,cond_true]
theorem jkE {l:List V} (h : ∀ (i:Nat) (v:V),l[i]?=some v->v.one=true):l.all V.one=true:=by
 rw [zQ]
 intro v hv
 obtain ⟨i,hi⟩:=List.getElem?_of_mem hv
 exact h i v hi
theorem copyV_of {sz d:Nat} {db dof m:Nat} {cd cs2:Cap} {sb so ln:Nat} {ld ls new:List V} {ro:Bool} (hn:d=Nat.min ln m) (h0:0<d*sz) (hs:h.get sb=some (.cells ls ro)) (hsl:so+d*sz<=ls.length) (hnew:(ls.drop so).take (d*sz)=new)
  (hone:new.all V.one=true) (hd:h.get db=some (.cells ld false)) (hdl:dof+d*sz<=ld.length) :
  jhe h sz (.slice (some (db,dof)) m cd) (.slice (some (sb,so)) ln cs2)=some (.i d,h.set db (.cells (jay ld dof new) false)):=by
 have hlen:new.length=d*sz:=by rw [<- hnew];simp;omega
 have h1:(d*sz == 0)=false:=by simp;omega
 have hne:new.isEmpty=false:=by cases new<;>simp_all
 simp only [jhe,lenOf,<- hn,jam,h1,cond_false,jb3 hs hsl,hnew,hne]
 rw [jeS hd om hone]
theorem Ops.copy_chk {sz d:Nat} {x y:Opd} {db dof m:Nat} {cd cs2:Cap} {sb so ln:Nat} {ld ls new:List V} {ro:Bool} (hx:x.ev e=some (.slice (some (db,dof)) m cd)) (hy:y.ev e=some (.slice (some (sb,so)) ln cs2)) (hn:d=Nat.min ln m) (h0:0<d*sz)
  (hs:h.get sb=some (.cells ls ro)) (hsl:so+d*sz<=ls.length) (hnew:(ls.drop so).take (d*sz)=new) (hone:new.all V.one=true) (hd:h.get db=some (.cells ld false)) (hdl:dof+d*sz<=ld.length)
  (hk:ja0 e (h.set db (.cells (jay ld dof new) false)) c=true) (k:Ops call fuel base ops keep K (layv e dst (.i d)) (h.set db (.cells (jay ld dof new) false)) Q) :
  Ops call fuel base (⟨ix,dst,.copy sz x y,none,at_,c⟩ :: ops) keep K e h Q :=
 Ops.step_chk (I.run_eff rfl (by simp only [I.eff,hx,hy,copyV_of hn h0 hs hsl hnew hone hd hdl])) hk k
theorem Ops.remN {x y:Opd} {kd:IntKind} {a b:Nat} (hx:x.ev e=some (.int kd (a:Int))) (hy:y.ev e=some (.int kd (b:Int))) (hb:0<b) (k:Ops call fuel base ops keep K (layv e dst (.int kd ((a%b:Nat):Int))) h Q) :
  Ops call fuel base (⟨ix,dst,.bin .rem x y,none,at_,[]⟩ :: ops) keep K e h Q:=by
 refine Ops.pure rfl ?_ k
 have h0:((b:Int) == 0)=false:=by simp;omega
 have h1:((a:Int).tmod (b:Int))=((a%b:Nat):Int):=by rw [Int.tmod_eq_emod_of_nonneg om];simp
 simp only [I.pure,hx,hy,binOp,jbo,jcy,beq_self_eq_true,Bool.or_true,cond_true,h0,cond_false,h1]
def Cap.less:Cap->Nat->Cap
 | .fix k,l=>.fix (k-l)
 | .grow q,_=>.grow q
def Cap.fits:Cap->Nat->Nat->Prop
 | .fix k,n,_=>n<=k
 | .grow q,_,sz=>q=sz
theorem jeR {n m:Nat} (h:n<=m):upto (n:Int) m=true:=by
 show upto (Int.ofNat n) m=true
 simp [upto,h]
theorem slc_b {len l r:Nat} {cap:Cap} {sz:Nat} (h1:l<=r) (h2:r<=len) (hf:cap.fits len sz):jbb len (cap.room len) (some (.i (l:Int))) (some (.i (r:Int))) none=some (l,r,cap.room len):=by
 have hc:r<=cap.room len:=by
  cases cap with
  | fix k=>exact zx h2 hf
  | grow q=>exact h2
 simp only [jbb,slcM,slcH,slcL,sB,asInt,jeR hc,jeR h1,cond_true,zt,Option.isSome_none]
theorem slc_h {len r:Nat} {cap:Cap} {sz:Nat} (h2:r<=len) (hf:cap.fits len sz):jbb len (cap.room len) none (some (.i (r:Int))) none=some (0,r,cap.room len):=by
 have hc:r<=cap.room len:=by
  cases cap with
  | fix k=>exact zx h2 hf
  | grow q=>exact h2
 simp only [jbb,slcM,slcH,slcL,sB,asInt,jeR hc,cond_true,zt,Option.isSome_none]
theorem slc_l {len l:Nat} {cap:Cap} (h1:l<=len):jbb len (cap.room len) (some (.i (l:Int))) none none=some (l,len,cap.room len):=by
 simp only [jbb,slcM,slcH,slcL,sB,asInt,jeR h1,cond_true,zt,Option.isSome_none,cond_false]
theorem Ops.slice_b {sz b o len l r:Nat} {cap:Cap} {x lo hi:Opd} (hx:x.ev e=some (.slice (some (b,o)) len cap)) (hlo:lo.ev e=some (.i (l:Int))) (hhi:hi.ev e=some (.i (r:Int))) (h1:l<=r) (h2:r<=len) (hf:cap.fits len sz)
  (k:Ops call fuel base ops keep K (layv e dst (.slice (some (b,o+l*sz)) (r-l) (cap.less l))) h Q):Ops call fuel base (⟨ix,dst,.slice sz x (some lo) (some hi) none,none,at_,[]⟩ :: ops) keep K e h Q:=by
 refine Ops.pure rfl ?_ k
 simp only [I.pure,hx,evo,hlo,hhi,slc_b h1 h2 hf]
 cases cap with
 | fix k=>rfl
 | grow q=>have hq:q=sz:=hf;subst hq;simp [Cap.less]
theorem Ops.slice_h {sz b o len r:Nat} {cap:Cap} {x hi:Opd} (hx:x.ev e=some (.slice (some (b,o)) len cap)) (hhi:hi.ev e=some (.i (r:Int))) (h2:r<=len) (hf:cap.fits len sz)
  (k:Ops call fuel base ops keep K (layv e dst (.slice (some (b,o)) r cap)) h Q):Ops call fuel base (⟨ix,dst,.slice sz x none (some hi) none,none,at_,[]⟩ :: ops) keep K e h Q:=by
 refine Ops.pure rfl ?_ k
 simp only [I.pure,hx,evo,hhi,slc_h h2 hf]
 cases cap with
 | fix k=>simp [Cap.room]
 | grow q=>have hq:q=sz:=hf;subst hq;simp
theorem Ops.slice_l {sz b o len l:Nat} {cap:Cap} {x lo:Opd} (hx:x.ev e=some (.slice (some (b,o)) len cap)) (hlo:lo.ev e=some (.i (l:Int))) (h1:l<=len) (hf:cap.fits len sz)
  (k:Ops call fuel base ops keep K (layv e dst (.slice (some (b,o+l*sz)) (len-l) (cap.less l))) h Q):Ops call fuel base (⟨ix,dst,.slice sz x (some lo) none none,none,at_,[]⟩ :: ops) keep K e h Q:=by
 refine Ops.pure rfl ?_ k
 simp only [I.pure,hx,evo,hlo,slc_l h1]
 cases cap with
 | fix k=>rfl
 | grow q=>have hq:q=sz:=hf;subst hq;simp [Cap.less]
theorem Ops.mkSliceN {bytes n:Nat} {z:V} {l c':Opd} (hl:l.ev e=some (.i (n:Int))) (hc:c'.ev e=some (.i (n:Int))) (hb:n*bytes<=2 ^ 46) (hn:n<=2 ^ 46)
  (k:Ops call fuel base ops keep K (layv e dst (.slice (some (h.nx,0)) n (.fix n))) (h.new (.cells (List.replicate n z) false)) Q):Ops call fuel base (⟨ix,dst,.mkSlice 1 bytes [z] l c',none,none,[]⟩ :: ops) keep K e h Q:=by
 refine zcu (ob := .cells (List.replicate n z) false) (mk:=fun b=>.slice (some (b,0)) n (.fix n)) rfl ?_ k
 have e1:(Nat.ble n n&&Nat.ble (n*bytes) (2 ^ 46)&&Nat.ble n (2 ^ 46))=true:=by
  simp only [zn,zO];omega
 have e2 : ∀ n,(List.replicate n [z]).flatten=List.replicate n z:=by
  intro n
  induction n with
  | zero=>rfl
  | succ n ih=>rw [List.replicate_succ,zT,ih];rfl
 have e3:(V.i (n:Int))=V.int .i64 (Int.ofNat n):=rfl
 simp only [I.make,hl,hc,e3,e1,cond_true,e2]
end
theorem jjo {N sz bytes n m sb so:Nat} {h:H} {v:V} {cs new ls:List V} {cap:Cap} {ro:Bool} (r:Row N h sz v n cs) (hN:N<=h.nx) (hm:0<m) (hs:h.get sb=some (.cells ls ro)) (hsl:so+m*sz<=ls.length) (hnew:(ls.drop so).take (m*sz)=new) (h1:new.all V.one=true) (hz:1<=sz)
  (hb:(n+m)*bytes<=2 ^ 46) (hn:n+m<=2 ^ 46) :
  ∃ v' h',jav h sz bytes v (.slice (some (sb,so)) m cap)=some (v',h')/\Row N h' sz v' (n+m) (cs++new)/\h'.nx=h.nx+1/\v'.at?=some h.nx /\ ∀ j,j<h.nx->v.at?≠some j->h'.get j=h.get j:=by
 have hlen:new.length=m*sz:=by rw [<- hnew];simp;omega
 have hms:0<m*sz:=Nat.mul_pos hm hz
 have hsrc:jam h sz m (.slice (some (sb,so)) m cap)=some new:=by
  have:(m*sz == 0)=false:=by simp;omega
  simp only [jam,this,cond_false]
  rw [jb3 hs hsl,hnew]
 have hcond:(Nat.ble ((n+m)*bytes) (2 ^ 46)&&Nat.ble (n+m) (2 ^ 46))=true:=by simp only [zn,zO];exact ⟨hb,hn⟩
 have h10:(m == 0)=false:=by simp;omega
 rcases r with ⟨rfl,rfl,rfl⟩ | ⟨q,hq1,hq2,rfl,hq4,hq5⟩
 ·refine ⟨.slice (some (h.nx,0)) m (.grow sz),h.new (.cells new false),?_,.inr ⟨h.nx,hN,by simp,by rw [zN],by rw [jac];rfl,by simp [hlen]⟩,by simp,rfl,fun j hj _=>jad hj⟩
  simp only [jav,lenOf,hsrc]
  rw [hcond]
  simp only [cond_true,h10,cond_false,newRow]
 ·have hg:(Nat.beq sz sz&&Nat.ble (0+n*sz) cs.length&&new.all V.one)=true:=by
   simp only [zn,zO,h1,and_true]
   exact ⟨Nat.beq_refl _,by omega⟩
  have htk:(cs.drop 0).take (n*sz)=cs:=by rw [zj,zg om]
  refine ⟨.slice (some (h.nx,0)) (n+m) (.grow sz),(h.kill q).new (.cells (cs++new) false),?_,.inr ⟨h.nx,hN,by simp,rfl,?_,?_⟩,by simp,rfl,?_⟩
  ·simp only [jav,lenOf,hsrc]
   rw [hcond]
   simp only [cond_true,h10,cond_false,hq4]
   rw [hg]
   simp only [cond_true,newRow,htk]
   rfl
  ·exact jac (h:=h.kill q) _
  ·simp [hq5,hlen,Nat.add_mul]
  ·intro j hj hv
   have hjq:j≠q:=fun e=>hv (by subst e;rfl)
   rw [jad (by simpa using hj),jan hjq]
theorem Row.one {N sz n:Nat} {h:H} {v:V} {cs:List V} (r:Row N h sz v n cs):v.one=true:=by
 rcases r with ⟨_,_,rfl⟩ | ⟨q,_,_,rfl,_⟩<;>rfl
theorem Ops.appendN {call:Call} {fuel base:Nat} {K:List Fr} {e:Env} {h:H} {Q:Post} {ix:Nat} {dst:Option Nat} {ops:List Ins} {keep:List Nat} {N sz bytes n m sb so:Nat} {x y:Opd} {sv:V} {cs new ls:List V} {cap:Cap} {ro:Bool}
  (hx:x.ev e=some sv) (hy:y.ev e=some (.slice (some (sb,so)) m cap)) (r:Row N h sz sv n cs) (hN:N<=h.nx) (hm:0<m) (hs:h.get sb=some (.cells ls ro)) (hsl:so+m*sz<=ls.length) (hnew:(ls.drop so).take (m*sz)=new) (h1:new.all V.one=true) (hz:1<=sz)
  (hb:(n+m)*bytes<=2 ^ 46) (hn:n+m<=2 ^ 46)
  (k : ∀ v' h',Row N h' sz v' (n+m) (cs++new)->h'.nx=h.nx+1->v'.at?=some h.nx->(∀ j,j<h.nx->sv.at?≠some j->h'.get j=h.get j)->Ops call fuel base ops keep K (layv e dst v') h' Q) :
  Ops call fuel base (⟨ix,dst,.append sz bytes x y,none,none,[]⟩ :: ops) keep K e h Q:=by
 obtain ⟨v',h',e1,e2,e3,e4,e5⟩:=jjo (bytes:=bytes) (cap:=cap) r hN hm hs hsl hnew h1 hz hb hn
 exact Ops.step (I.run_eff rfl (by simp only [I.eff,hx,hy,e1])) (k v' h' e2 e3 e4 e5)
abbrev Zm:=@Ops.callf_chk
end Am
namespace Am.Sigs
open Am Go
structure En where
 what:Int
 fd:Int
 ring:Option (List UInt8)
 writes:Bool
 shut:Bool
 inn:Int
 out:Int
def En.ptr:Option (List UInt8)->Nat->V
 | none,_=>.ptr none
 | some _,r=>.p r 0
def En.cells (x:En) (r:Nat):List V:=[.i x.what,.i x.fd,En.ptr x.ring r,.bool x.writes,.bool x.shut,.int .u64 x.inn,.int .u64 x.out]
structure Wi where
 e0:En
 e1:En
 cap:Nat
 reset:Bool
 backlog:Int
 waiting:List Int
def Wi.cells (x:Wi) (r0 r1:Nat) (wv:V):List V:=x.e0.cells r0++(x.e1.cells r1++[.bool x.reset,.i x.backlog,wv])
def Wi.obj (x:Wi) (r0 r1:Nat) (wv:V):Obj := .cells (x.cells r0 r1 wv) false
def upu (n:Int):Int:=IntKind.wrap .u64 (n+1)
def En.came (x:En) (i o:Bool):En := { x with inn:=if i&&x.ring.isSome then upu x.inn else x.inn,out:=if o&&x.writes then upu x.out else x.out }
def Wi.e (x:Wi):Nat->En
 | 0=>x.e0
 | _=>x.e1
def Wi.put (x:Wi) (k:Nat) (e:En):Wi:=match k with
 | 0=>{ x with e0:=e }
 | _=>{ x with e1:=e }
def Wi.came (x:Wi) (k:Nat) (i o:Bool):Wi:=x.put k ((x.e k).came i o)
def Wi.silent (x:Wi) (k:Nat):Bool:=(x.e (1-k)).what == 3||(x.e (1-k)).shut
section
variable {cl:Nat->Call} (hcl:Sem cl)
include hcl
theorem jdU {d wb r0 r1 k:Nat} {wv:V} {h:H} {x:Wi} (hd:1<=d) (hw:h.get wb=some (x.obj r0 r1 wv)) (hk:k=0\/k=1) (i o:Bool) :
  ∃ h',cl d (.fn 99) [.p wb 0,.i (k:Int),.bool i,.bool o] h=some (.tup [],h')/\Upd wb ((x.came k i o).obj r0 r1 wv) h h':=by
 refine jak (aT hcl ?_)
 have e0:x.came k i o=(x.came k i false).came k false o:=by
  rcases hk with rfl | rfl<;>simp [Wi.came,Wi.put,Wi.e,En.came]
 rw [e0]
 refine zab (Run.cut (fun y e g=>y = .normal/\(∃ r:Env,e=(0,.p wb 0) :: (1,.i (k:Int)) :: (3,.bool o) :: r)/\Upd wb ((x.came k i false).obj r0 r1 wv) h g) ?_ ?_)
 ·obtain ⟨⟨w0,f0,q0,wr0,s0,i0,o0⟩,⟨w1,f1,q1,wr1,s1,i1,o1⟩,cap,rs,bl,wt⟩:=x
  simp only [Wi.obj,Wi.cells,En.cells,zS,zU] at hw
  rcases hk with rfl | rfl
  ·cases i<;>cases q0<;>simp only [En.ptr] at hw
   all_goals
    repeat' (first|refine qsy ?_|(refine zsp ?_ ?_<;>intro _)|fail)
    refine End.nil ⟨rfl,⟨_,rfl⟩,?_⟩
    first | exact Upd.set | exact Upd.refl hw
  ·cases i<;>cases q1<;>simp only [En.ptr] at hw
   all_goals
    repeat' (first|refine qsy ?_|(refine zsp ?_ ?_<;>intro _)|fail)
    refine End.nil ⟨rfl,⟨_,rfl⟩,?_⟩
    first | exact Upd.set | exact Upd.refl hw
 ·rintro _ _ g ⟨rfl,⟨rest,rfl⟩,u⟩
  have hw:=u.self
  generalize x.came k i false=x' at u hw ⊢
  suffices Run (cl (d-1)) fuel c99_2 [] ((0,.p wb 0) :: (1,.i (k:Int)) :: (3,.bool o) :: rest) g (Fin c99.res fun v' h'=>v'=V.tup []/\Upd wb ((x'.came k false o).obj r0 r1 wv) g h') by
   refine zae ?_
   obtain ⟨⟨y,e',h',q1,⟨⟨y2,e2,h2,q2,⟨q3,l,q4,q5,q6⟩⟩⟩⟩⟩:=this
   exact ⟨⟨y,e',h',q1,⟨⟨y2,e2,h2,q2,⟨⟨q3,l,q4,q5,u.trans q6⟩⟩⟩⟩⟩⟩
  clear u e0
  obtain ⟨⟨w0,f0,q0,wr0,s0,i0,o0⟩,⟨w1,f1,q1,wr1,s1,i1,o1⟩,cap,rs,bl,wt⟩:=x'
  simp only [Wi.obj,Wi.cells,En.cells,zS,zU] at hw
  rcases hk with rfl | rfl
  ·cases o<;>cases wr0
   all_goals
    repeat' (first|refine qsy ?_|(refine zsp ?_ ?_<;>intro _)|fail)
    first | exact ⟨rfl,Upd.refl hw⟩ | exact ⟨rfl,Upd.set⟩
  ·cases o<;>cases wr1
   all_goals
    repeat' (first|refine qsy ?_|(refine zsp ?_ ?_<;>intro _)|fail)
    first | exact ⟨rfl,Upd.refl hw⟩ | exact ⟨rfl,Upd.set⟩
end
structure RX where
 x:Wi
 v0:V
 v1:V
 vw:V
def En.rcells (e:En) (v:V):List V:=[.i e.what,.i e.fd,.bool e.ring.isSome,.bool e.writes,v,.bool e.shut,.int .u64 e.inn,.int .u64 e.out]
def RX.cells (r:RX):List V:=r.x.e0.rcells r.v0++(r.x.e1.rcells r.v1++[.i r.x.cap,.bool r.x.reset,.i r.x.backlog,r.vw])
def RX.v (r:RX):Nat->V
 | 0=>r.v0
 | _=>r.v1
def rows (l:List RX):List V:=(l.map RX.cells).flatten
theorem RX.len (r:RX):r.cells.length=20:=by simp [RX.cells,En.rcells]
theorem jiN (l:List RX):(rows l).length=l.length*20:=by
 induction l with
 | nil=>rfl
 | cons r l ih=>simp only [rows,List.map_cons,zT,zf,RX.len] at ih ⊢;rw [ih];simp [Nat.add_mul];omega
theorem jiO (l l':List RX):rows (l++l')=rows l++rows l':=by simp [rows]
section
variable {l:List RX} {n k:Nat} {r:RX}
theorem r_lt (hr:l[n]?=some r):n<l.length:=by
 rcases zu n l.length with h | h
 ·exact h
 ·rw [zd h] at hr;cases hr
end
theorem get_set {l:List RX} {n:Nat} {r r':RX} (hr:l[n]?=some r):(l.set n r')[n]?=some r':=by
 rw [zh,zC rfl,zC (r_lt hr)]
theorem set_set {l:List RX} {n:Nat} {r r':RX} : (l.set n r).set n r'=l.set n r':=by simp
structure RAt (h:H) (rw q:Nat) (l:List RX) (tl:List V):Prop where
 hw:h.get rw=some (.cells (.slice (some (q,0)) l.length (.grow 20) :: tl) false)
 hq:h.get q=some (.cells (rows l) false)
 ne:rw≠q
theorem RAt.upd {h h':H} {rw q:Nat} {l l':List RX} {tl:List V} (a:RAt h rw q l tl) (u:Upd q (.cells (rows l') false) h h') (hl:l'.length=l.length):RAt h' rw q l' tl :=
 ⟨by rw [u.get _ a.ne,a.hw,hl],u.self,a.ne⟩
theorem RAt.set {h:H} {rw q n o:Nat} {l:List RX} {tl:List V} {r r':RX} {v:V} (a:RAt h rw q l tl) (hr:l[n]?=some r) (e:(rows l).set o v=rows (l.set n r')) :
  RAt (h.set q (.cells ((rows l).set o v) false)) rw q (l.set n r') tl:=by
 rw [e];exact a.upd Upd.set Zd
def RX.came (r:RX) (k:Nat) (i o:Bool):RX := { r with x:=r.x.came k i o }
section
variable {cl:Nat->Call} (hcl:Sem cl)
include hcl
end
abbrev bts (l:List UInt8):List V:=l.map jbN
theorem jjl {l:List UInt8} {i:Nat} {x:UInt8} (h:l[i]?=some x):(bts l)[i]?=some (jbN x):=by simp [h]
theorem jlB (l:List UInt8):(bts l).all V.one=true:=by
 refine jkE fun i v hv=>?_
 rw [List.getElem?_map] at hv
 cases h:l[i]? with
 | none=>rw [h] at hv;cases hv
 | some x=>rw [h] at hv;cases hv;rfl
def putB (buf:List UInt8) (o:Nat) (xs:List UInt8):List UInt8:=buf.take o++(xs++buf.drop (o+xs.length))
theorem jiR {buf xs:List UInt8} {o:Nat} (h:o+xs.length<=buf.length):(putB buf o xs).length=buf.length:=by simp [putB];omega
theorem jgG {buf xs:List UInt8} {o:Nat} (h:o+xs.length<=buf.length) (k:Nat):(putB buf o xs)[k]?=if o<=k/\k<o+xs.length then xs[k-o]? else buf[k]?:=by
 unfold putB
 rw [ze]
 have hl:(buf.take o).length=o:=by simp;omega
 rw [hl]
 by_cases h1:k<o
 ·rw [zC h1,zz om,zL,zC h1]
 ·rw [zz h1,ze]
  by_cases h2:k-o<xs.length
  ·rw [zC h2,zC om]
  ·rw [zz h2,zz om,zl]
   congr 1;omega
theorem jkf {buf xs:List UInt8} {o:Nat} (h:o+xs.length<=buf.length):jay (bts buf) o (bts xs)=bts (putB buf o xs):=by
 apply zR
 intro k
 rw [jdc _ _ _ _ (by simpa using h)]
 simp only [List.getElem?_map,jgG h,List.length_map]
 split
 ·simp
 ·simp
structure RingC (h:H) (r bb:Nat) (buf:List UInt8) (frm n cap:Nat) (inn out:Int):Prop where
 hr:h.get r=some (.cells [.slice (some (bb,0)) cap (.fix cap),.i frm,.i n,.int .u64 inn,.int .u64 out,.bool true] false)
 hb:h.get bb=some (.cells (bts buf) false)
structure RingV (buf q:List UInt8) (frm cap:Nat):Prop where
 len:buf.length=cap
 flt:frm<cap
 fit:q.length<=cap
 small:cap<=65536
 at_ : ∀ i,i<q.length->buf[(frm+i)%cap]?=q[i]?
def jaw (h:H) (r bb:Nat) (q:List UInt8) (cap:Nat):Prop := ∃ buf frm inn out,RingC h r bb buf frm q.length cap inn out/\RingV buf q frm cap
theorem jaw.keep {h h':H} {r bb:Nat} {q:List UInt8} {cap:Nat} (a:jaw h r bb q cap) (h1:h'.get r=h.get r) (h2:h'.get bb=h.get bb):jaw h' r bb q cap:=by
 obtain ⟨buf,frm,inn,out,c,v⟩:=a
 exact ⟨buf,frm,inn,out,⟨by rw [h1,c.hr],by rw [h2,c.hb]⟩,v⟩
section
variable {cl:Nat->Call} (hcl:Sem cl)
include hcl
theorem jld {d r bb:Nat} {h:H} {buf:List UInt8} {frm n cap:Nat} {inn out:Int} (hd:1<=d) (c:RingC h r bb buf frm n cap inn out):cl d (.fn 84) [.p r 0] h=some (.bool false,h):=by
 refine jao (aT hcl ?_)
 have hr:=c.hr
 refine qx ?_
 exact ⟨rfl,rfl⟩
theorem jh7 {d r bb:Nat} {h:H} {buf:List UInt8} {frm n cap:Nat} {inn out:Int} (hd:2<=d) (c:RingC h r bb buf frm n cap inn out):cl d (.fn 49) [.p r 0] h=some (.i n,h):=by
 refine jao (aT hcl ?_)
 have hr:=c.hr
 have hn:=jld hcl (d:=d-1) om c
 refine qx ?_
 exact ⟨rfl,rfl⟩
theorem jlc {d r bb:Nat} {h:H} {buf:List UInt8} {frm n cap:Nat} {inn out:Int} (hd:2<=d) (c:RingC h r bb buf frm n cap inn out) (h1:n<=cap) (h2:cap<=65536):cl d (.fn 50) [.p r 0] h=some (.i ((cap-n:Nat):Int),h):=by
 refine jao (aT hcl ?_)
 have hr:=c.hr
 have hn:=jld hcl (d:=d-1) om c
 refine qx ?_
 exact ⟨by congr 1;omega,rfl⟩
theorem jmg {d:Nat} {h:H} {n:Nat} (hd:1<=d) (h1:n<=65536):cl d (.fn 39) [.i n] h=some (.tup [.p (h.nx+1) 0,.i 0],
  (h.new (.cells (List.replicate n (.int .u8 0)) false)).new (.cells [.slice (some (h.nx,0)) n (.fix n),.i 0,.i 0,.int .u64 0,.int .u64 0,.bool true] false)):=by
 refine jao (aT hcl ?_)
 refine qx ?_
 refine Ops.mkSliceN rfl rfl om om ?_
 refine qx ?_
 refine zcu rfl rfl ?_
 refine qx ?_
 exact ⟨rfl,rfl⟩
theorem jfp {d L nb fb rb r bb cap f0 n0:Nat} {h:H} (hd:2<=d) (hne:nb≠fb) (h0:0<cap) (h1:cap<=65536) (h2:n0<=65536) (h3:f0<=1000000) (I:Nat->H->Prop)
  (hI : ∀ k g g',I k g->(∀ j,j≠nb->j≠fb->g'.get j=g.get j)->g'.nx=g.nx->I k g')
  (hr : ∀ k g,I k g->g.get rb=some (.cells [.p r 0] false) /\ ∃ rest,g.get r=some (.cells (.slice (some (bb,0)) cap (.fix cap) :: rest) false))
  (hy : ∀ k g m,I k g->k<n0->m=min ((f0+k)%cap+(n0-k)) cap-(f0+k)%cap->g.get nb=some (.cells [.i ((n0-k:Nat):Int)] false)->g.get fb=some (.cells [.i ((f0+k:Nat):Int)] false) ->
   ∃ g',cl (d-1) (.yld L) [.slice (some (bb,(f0+k)%cap)) m (.fix (cap-(f0+k)%cap))] g=some (.bool true,g')/\I (k+m) g'/\g'.get nb=g.get nb/\g'.get fb=g.get fb)
  (hs:I 0 h) (hn:h.get nb=some (.cells [.i (n0:Int)] false)) (hf:h.get fb=some (.cells [.i (f0:Int)] false)) : ∃ v h',cl d (.fn 107) [.yld L,.p nb 0,.p fb 0,.p rb 0] h=some (v,h')/\I n0 h':=by
 refine aT hcl ?_
 refine qx ?_
 refine Zl (fun m e g=>∃ k:Nat,m=n0-k/\k<=n0/\e=[(0,.yld L),(1,.p nb 0),(2,.p fb 0),(3,.p rb 0)]/\I k g/\g.get nb=some (.cells [.i ((n0-k:Nat):Int)] false)/\g.get fb=some (.cells [.i ((f0+k:Nat):Int)] false))
  (k:=n0) Ze ⟨0,rfl,by omega,rfl,hs,by simpa using hn,by simpa using hf⟩ ?_
 clear hs hn hf
 rintro _ _ g ⟨k,rfl,hk,rfl,hi,gn,gf⟩ n ih
 obtain ⟨g1,rest,g2⟩:=hr k g hi
 by_cases hlt:k<n0
 case neg=>
  have:k=n0:=by omega
  subst this
  refine qx ?_
  exact hi
 obtain ⟨g',y1,y2,y3,y4⟩:=hy k g _ hi hlt rfl gn gf
 have hmod:=Nat.mod_lt (f0+k) h0
 generalize hat:(f0+k)%cap=a at hmod y1 y2
 refine qx ?_
 refine Ops.remN rfl rfl h0 ?_
 rw [hat]
 refine qx ?_
 refine Ops.slice_b (l:=a) (r:=min (a+(n0-k)) cap) rfl rfl ?_ om om (zp _) ?_
 ·show some (V.i (min ((a:Int)+((n0-k:Nat):Int)) (cap:Int)))=some (V.i ((min (a+(n0-k)) cap:Nat):Int))
  congr 2;omega
 have ea:0+a*1=a:=by omega
 rw [ea]
 refine qx ?_
 refine Ops.yield rfl rfl y1 ?_
 refine qx ?_
 rw [gf] at y4
 rw [gn] at y3
 refine Ga ?_
 have hm:0<min (a+(n0-k)) cap-a:=by omega
 have hm2:min (a+(n0-k)) cap-a<=n0-k:=by omega
 generalize min (a+(n0-k)) cap-a=m at hm hm2 y1 y2 ⊢
 refine ih (n0-(k+m)) om _ _ ⟨k+m,rfl,by omega,rfl,hI (k+m) g' _ y2 (fun j j1 j2=>by rw [jaa j1,jaa j2]) rfl,?_,?_⟩
 ·rw [jab]
  show some (Obj.cells [V.i (((n0-k:Nat):Int)-(m:Int))] false)=_
  congr 4;omega
 ·rw [jaa hne.symm,jab]
  show some (Obj.cells [V.i (((f0+k:Nat):Int)+(m:Int))] false)=_
  congr 4;omega
theorem jh6 {d r:Nat} {h:H} {f n:Int} (hd:1<=d):cl d (.fn 83) [.p r 0,.i f,.i n] h =
  some (.clo 107 [.p (h.nx+2) 0,.p (h.nx+1) 0,.p h.nx 0],((h.new (.cells [.p r 0] false)).new (.cells [.i f] false)).new (.cells [.i n] false)):=by
 refine jao (aT hcl ?_)
 refine qx ?_
 refine zcu rfl rfl ?_
 refine qx ?_
 refine zcu rfl rfl ?_
 refine qx ?_
 refine zcu rfl rfl ?_
 refine qx ?_
 exact ⟨rfl,rfl⟩
end
structure BytesAt (h:H) (a:Option (Nat × Nat)) (c:Cap) (l:List UInt8):Prop where
 none_:a=none->c = .fix 0/\l=[]
 fits:c.fits l.length 1
 at_:l≠[] -> ∃ b o cs ro,a=some (b,o)/\b<h.nx/\h.get b=some (.cells cs ro) /\ ∀ (i:Nat) (x:UInt8),l[i]?=some x->cs[o+i]?=some (jbN x)
theorem fits_less {c:Cap} {n k:Nat} (h:c.fits n 1) (hk:k<=n):(c.less k).fits (n-k) 1:=by
 cases c with
 | fix q=>simp only [Cap.less,Cap.fits] at h ⊢;omega
 | grow q=>exact h
theorem fits_le {c:Cap} {n k:Nat} (h:c.fits n 1) (hk:k<=n):c.fits k 1:=by
 cases c with
 | fix q=>simp only [Cap.fits] at h ⊢;omega
 | grow q=>exact h
theorem less_less {c:Cap} {a b:Nat} : (c.less a).less b=c.less (a+b):=by
 cases c with
 | fix q=>simp only [Cap.less];congr 1;omega
 | grow q=>rfl
theorem less_zero {c:Cap} : c.less 0=c:=by
 cases c<;>rfl
theorem jdh {x i c:Nat} (h:x%c+i<c):(x+i)%c=x%c+i:=by
 rw [Nat.add_mod,Nat.mod_eq_of_lt (show i<c by omega),Nat.mod_eq_of_lt h]
theorem jmk {x y c:Nat} (h1:x<y) (h2:y-x<c):x%c≠y%c:=by
 intro e
 have:(y-x)%c=0:=by
  have:=Nat.sub_mod_eq_zero_of_mod_eq e.symm
  exact this
 rw [Nat.mod_eq_of_lt h2] at this
 omega
theorem jfF {l:List UInt8} {cs:List V} {o k m:Nat} (hc : ∀ (i:Nat) (x:UInt8),l[i]?=some x->cs[o+i]?=some (jbN x)) (hm:k+m<=l.length) (h0:0<m) :
  o+k+m<=cs.length/\(cs.drop (o+k)).take m=bts ((l.drop k).take m):=by
 have h1:o+k+m<=cs.length:=by
  have:=hc (k+m-1) _ (za om)
  rcases zu (o+(k+m-1)) cs.length with h | h
  ·omega
  ·rw [zd h] at this;cases this
 refine ⟨h1,zR fun i=>?_⟩
 rw [zL,List.getElem?_map,zL]
 by_cases hi:i<m
 ·rw [zC hi,zC hi,zl,zl]
  have:=hc (k+i) _ (za om)
  rw [show o+k+i=o+(k+i) by omega,this,za om];rfl
 ·rw [zz hi,zz hi];rfl
theorem nil_slice {call:Call} {fuel base:Nat} {ops:List Ins} {keep:List Nat} {K:List Fr} {e:Env} {h:H} {Q:Post} {ix:Nat} {dst:Option Nat} {at_:Option Nat} {sz:Nat} {x hi:Opd} (hx:x.ev e=some .nils) (hhi:hi.ev e=some (.i 0))
  (k:Ops call fuel base ops keep K (layv e dst .nils) h Q):Ops call fuel base (⟨ix,dst,.slice sz x none (some hi) none,none,at_,[]⟩ :: ops) keep K e h Q:=by
 refine Ops.pure rfl ?_ k
 simp only [I.pure,hx,evo,hhi]
 rfl
theorem jaw.of {h:H} {r bb cap frm:Nat} {buf q:List UInt8} {f n inn out:Int} (hr:h.get r=some (.cells [.slice (some (bb,0)) cap (.fix cap),.i f,.i n,.int .u64 inn,.int .u64 out,.bool true] false)) (hb:h.get bb=some (.cells (bts buf) false))
  (hf:f=frm) (hn:n=q.length) (v:RingV buf q frm cap):jaw h r bb q cap:=by
 subst hf hn
 exact ⟨buf,frm,inn,out,⟨hr,hb⟩,v⟩
section
variable {cl:Nat->Call} (hcl:Sem cl)
include hcl
theorem rp_put {d r bb cap:Nat} {h0:H} {q l:List UInt8} {a:Option (Nat × Nat)} {c:Cap} (hd:6<=d) (R:jaw h0 r bb q cap) (hr:r<h0.nx) (hbb:bb<h0.nx) (hrb:r≠bb) (hl:BytesAt h0 a c l) (hll:l.length<=1000000000)
  (hne : ∀ b o,a=some (b,o)->l≠[]->b≠bb/\b≠r) :
  ∃ h',cl d (.fn 110) [.p r 0,.slice a l.length c] h0=some (.i ((min l.length (cap-q.length):Nat):Int),h')/\jaw h' r bb (q++l.take (min l.length (cap-q.length))) cap/\Ch (fun j=>j=r\/j=bb) h0 h':=by
 have R0:=R
 obtain ⟨buf,frm,inn,out,C,W⟩:=R
 have hroom:=jlc hcl (d:=d-1) om C W.fit W.small
 have hC:=C.hr
 have w1:=W.fit
 have w2:=W.small
 have w3:=W.flt
 refine jak (aT hcl ?_)
 generalize hm:min l.length (cap-q.length)=m
 have hmin:min (l.length:Int) ((cap-q.length:Nat):Int)=(m:Int):=by omega
 have cut : ∀ {ops:List Ins} {keep:List Nat} {K:List Fr} {e:Env} {Q:Post} {ix:Nat} {dst:Option Nat} {x hi:Opd} {base:Nat},x.ev e=some (.slice a l.length c)->hi.ev e=some (.i (min (l.length:Int) ((cap-q.length:Nat):Int))) ->
   Ops (cl (d-1)) fuel base ops keep K (layv e dst (.slice a m c)) h0 Q->Ops (cl (d-1)) fuel base (⟨ix,dst,.slice 1 x none (some hi) none,none,none,[]⟩ :: ops) keep K e h0 Q:=by
  intro ops keep K e Q ix dst x hi base hx hh k
  rw [hmin] at hh
  cases a with
  | none=>
   obtain ⟨rfl,rfl⟩:=hl.none_ rfl
   have:m=0:=by rw [<- hm];simp
   subst this
   exact nil_slice hx hh k
  | some p=>exact Ops.slice_h hx hh om hl.fits k
 by_cases h00:m=0
 ·subst h00
  refine qx ?_
  refine cut rfl rfl ?_
  refine qx ?_
  exact ⟨rfl,by simpa using R0,Ch.refl _ _⟩
 have hln:l≠[]:=by rintro rfl;simp at hm;omega
 obtain ⟨b,o,cs,ro,rfl,hb,hcs,hel⟩:=hl.at_ hln
 obtain ⟨n1,n2⟩:=hne b o rfl hln
 have hml:m<=l.length:=by omega
 have hmc:q.length+m<=cap:=by omega
 refine qx ?_
 refine cut rfl rfl ?_
 refine qx ?_
 refine zcu rfl rfl ?_
 refine Ga ?_
 have hbox:=jh6 hcl (d:=d-1) (r:=r) (h:=(h0.new (.cells [.nils] false)).set h0.nx (.cells ([.nils].set 0 (.slice (some (b,o)) m c)) false)) (f:=(frm:Int)+(q.length:Int)) (n:=(m:Int)) om
 refine Ga ?_
 clear hbox
 generalize hH:((((h0.new (.cells [.nils] false)).set h0.nx (.cells ([.nils].set 0 (.slice (some (b,o)) m c)) false)).new (.cells [.p r 0] false)).new (.cells [.i ((frm:Int)+(q.length:Int))] false)).new (.cells [.i (m:Int)] false)=H1
 have x1:H1.nx=h0.nx+4:=by rw [<- hH];rfl
 have g0:H1.get h0.nx=some (.cells [.slice (some (b,o)) m c] false):=by rw [<- hH];exact qgt
 have g1:H1.get (h0.nx+1)=some (.cells [.p r 0] false):=by rw [<- hH];exact qgt
 have g2:H1.get (h0.nx+2)=some (.cells [.i ((frm+q.length:Nat):Int)] false):=by rw [<- hH];exact qgt
 have g3:H1.get (h0.nx+3)=some (.cells [.i (m:Int)] false):=by rw [<- hH];exact qgt
 have gj : ∀ j,j<h0.nx->H1.get j=h0.get j:=by
  intro j hj
  rw [<- hH,jad Zc,jad Zc,jad Zc,jaa om,jad hj]
 clear hH
 refine Run.rangeFunc_lo rfl qkp fun LO hLO=>?_
 rw [x1]
 have hne23:h0.nx+3≠h0.nx+2:=by omega
 obtain ⟨v,h',hc,k1,k2,⟨buf',k3,k4,k5,k6⟩,k7,k8⟩:=jfp hcl (d:=d-1) (L:=h0.nx+4) (nb:=h0.nx+3) (fb:=h0.nx+2) (rb:=h0.nx+1) (r:=r) (bb:=bb) (cap:=cap) (f0:=frm+q.length) (n0:=m)
  om hne23 om w2 om om
  (fun k g=>g.get h0.nx=some (.cells [.slice (some (b,o+k)) (m-k) (c.less k)] false)/\g.get (h0.nx+4)=some (LO .ready none) /\
   (∃ buf':List UInt8,g.get bb=some (.cells (bts buf') false)/\buf'.length=cap/\(∀ i,i<q.length->buf'[(frm+i)%cap]?=q[i]?) /\ ∀ i,i<k->buf'[(frm+q.length+i)%cap]?=l[i]?) /\
   (g.get (h0.nx+1)=some (.cells [.p r 0] false)/\h0.nx+5<=g.nx) /\ ∀ j,j<h0.nx->j≠bb->g.get j=h0.get j)
  (by
   rintro k g g' ⟨i1,i2,⟨buf',i3,i4⟩,⟨i5,i6⟩,i7⟩ hg hx
   refine ⟨by rw [hg _ om om,i1],by rw [hg _ om om,i2],⟨buf',by rw [hg _ om om,i3],i4⟩,⟨by rw [hg _ om om,i5],by omega⟩,fun j hj hb=>by rw [hg _ om om,i7 j hj hb]⟩)
  (by
   rintro k g ⟨i1,i2,i3,⟨i5,i6⟩,i7⟩
   exact ⟨i5,_,by rw [i7 r hr hrb,hC]⟩)
  (by
   rintro k g mm ⟨i1,i2,⟨buf',i3,i4,i8,i9⟩,⟨i5,i6⟩,i7⟩ hk hmm gn gf
   have hmod:=Nat.mod_lt (frm+q.length+k) (show 0<cap by omega)
   generalize hat:(frm+q.length+k)%cap=at1 at hmod hmm
   have hmm1:0<mm:=by omega
   have hmm2:k+mm<=m:=by omega
   have hmm3:at1+mm<=cap:=by omega
   obtain ⟨p1,p2⟩:=jfF hel (show k+mm<=l.length by omega) hmm1
   generalize hxs:(l.drop k).take mm=xs at p2
   have hxl:xs.length=mm:=by rw [<- hxs];simp;omega
   have hsrc:g.get b=some (.cells cs ro):=by rw [i7 b hb n1,hcs]
   refine jak (yl_ hcl om hLO i2 rfl ?_)
   refine qx ?_
   refine End.nil ⟨rfl,i2,?_⟩
   refine Ga ?_
   have hbx:h0.nx≠bb:=by omega
   refine Ops.copy_chk (d:=mm) (ls:=cs) (new:=bts xs) (ld:=bts buf') rfl rfl (by show mm=min (m-k) _;omega) om (ro:=ro) (by rw [jaa om,hsrc]) om (by rw [Nat.mul_one];exact p2) (jlB _) (by rw [jaa om,i3]) Zc
    (jaK rfl (l:=[.slice (some (b,o+k)) (m-k) (c.less k)]) (ro:=false) qgt rfl rfl jba) ?_
   rw [jkf om]
   refine Ops.slice_l (l:=mm) rfl rfl om (fits_less (fits_le hl.fits hml) om) ?_
   rw [less_less,Nat.mul_one,Nat.add_assoc o k mm,show m-k-mm=m-(k+mm) by omega]
   refine Ga ?_
   refine End.nil ⟨⟨.busy,none,qgt⟩,rfl,⟨qgt,jab _,⟨putB buf' at1 xs,qgt,by rw [jiR om,i4],?_,?_⟩,⟨qgt,i6⟩,fun j hj hjb=>?_⟩,qgt,qgt⟩
   ·intro i hi
    have hp:=Nat.mod_lt (frm+i) (show 0<cap by omega)
    rw [jgG om,zz,i8 i hi]
    rintro ⟨s1,s2⟩
    have e1:=jdh (x:=frm+q.length+k) (i:=(frm+i)%cap-at1) (c:=cap) om
    rw [hat] at e1
    exact jmk (x:=frm+i) (y:=frm+q.length+k+((frm+i)%cap-at1)) (c:=cap) om om (by rw [e1];omega)
   ·intro i hi
    have hp:=Nat.mod_lt (frm+q.length+i) (show 0<cap by omega)
    rw [jgG om]
    by_cases hik:i<k
    ·rw [zz,i9 i hik]
     rintro ⟨s1,s2⟩
     have e1:=jdh (x:=frm+q.length+k) (i:=(frm+q.length+i)%cap-at1) (c:=cap) om
     rw [hat] at e1
     exact jmk (x:=frm+q.length+i) (y:=frm+q.length+k+((frm+q.length+i)%cap-at1)) (c:=cap) om om (by rw [e1];omega)
    ·have e1:=jdh (x:=frm+q.length+k) (i:=i-k) (c:=cap) om
     rw [hat,show frm+q.length+k+(i-k)=frm+q.length+i by omega] at e1
     rw [e1,zC om,<- hxs,zL,zC om,zl]
     congr 1;omega
   ·have:=i7 j hj hjb
    exact qgt)
  (h:=H1.new (LO .ready none))
  ⟨by rw [jad om,g0];simp [less_zero],by rw [<- x1,jac],⟨buf,by rw [jad om,gj bb hbb,C.hb],W.len,W.at_,fun i hi=>by omega⟩,⟨by rw [jad om,g1],by simp [x1]⟩,
   fun j hj _=>by rw [jad om,gj j hj]⟩
  (by rw [jad om,g3]) (by rw [jad om,g2])
 refine ⟨v,h',hc,.normal,k2,?_⟩
 have k9:(h'.kill (h0.nx+4)).get r=some (.cells [.slice (some (bb,0)) cap (.fix cap),.i frm,.i q.length,.int .u64 inn,.int .u64 out,.bool true] false):=by rw [jan om,k8 r hr hrb,hC]
 refine Ga ?_
 refine ⟨rfl,jaw.of (frm:=frm) (buf:=buf') (jab _) ?_ rfl ?_ ⟨k4,w3,by simp;omega,w2,fun i hi=>?_⟩,?_⟩
 ·rw [jaa (Ne.symm hrb),jaa (Ne.symm hrb),jan om,k3]
 ·simp only [zf,List.length_take];omega
 ·rw [ze]
  simp only [zf,List.length_take] at hi
  by_cases hiq:i<q.length
  ·rw [zC hiq,k5 i hiq]
  ·rw [zz hiq,zL,zC om,<- k6 (i-q.length) om]
   congr 2;omega
 ·refine ⟨by simp;omega,fun j hj hn=>?_⟩
  rw [jaa (fun e=>hn (.inl e)),jaa (fun e=>hn (.inl e)),jan om,k8 j hj (fun e=>hn (.inr e))]
end
def VB (h:H) (v:V) (l:List UInt8):Prop := ∃ a c,v = .slice a l.length c/\BytesAt h a c l
theorem VB.keep {h h':H} {v:V} {l:List UInt8} (a:VB h v l) (hx:h.nx<=h'.nx) (hk : ∀ z,v.at?=some z->h'.get z=h.get z):VB h' v l:=by
 obtain ⟨a,c,rfl,n,f,g⟩:=a
 refine ⟨a,c,rfl,n,f,fun hl=>?_⟩
 obtain ⟨b,o,cs,ro,rfl,h1,h2,h3⟩:=g hl
 exact ⟨b,o,cs,ro,rfl,by omega,by rw [hk b rfl,h2],h3⟩
theorem VB.keep2 {h h':H} {v:V} {l:List UInt8} (a:VB h v l) (hx:h.nx<=h'.nx) (hk:l≠[] -> ∀ z,v.at?=some z->h'.get z=h.get z):VB h' v l:=by
 obtain ⟨a,c,rfl,n,f,g⟩:=a
 refine ⟨a,c,rfl,n,f,fun hl=>?_⟩
 obtain ⟨b,o,cs,ro,rfl,h1,h2,h3⟩:=g hl
 exact ⟨b,o,cs,ro,rfl,by omega,by rw [hk hl b rfl,h2],h3⟩
theorem VB.nil (h:H):VB h .nils []:=⟨none,.fix 0,rfl,fun _=>⟨rfl,rfl⟩,zp _,fun h=>zI rfl h⟩
theorem VB.one {h:H} {v:V} {l:List UInt8} (a:VB h v l):v.one=true:=by obtain ⟨a,c,rfl,_⟩:=a;rfl
def VI (h:H) (v:V) (l:List Int):Prop := ∃ a c,v = .slice a l.length c/\(a=none->c = .fix 0/\l=[])/\c.fits l.length 1/\(l≠[] -> ∃ b o cs ro,a=some (b,o)/\b<h.nx/\h.get b=some (.cells cs ro) /\ ∀ (i:Nat) (x:Int),l[i]?=some x->cs[o+i]?=some (.i x))
theorem VI.keep {h h':H} {v:V} {l:List Int} (a:VI h v l) (hx:h.nx<=h'.nx) (hk : ∀ z,v.at?=some z->h'.get z=h.get z):VI h' v l:=by
 obtain ⟨a,c,rfl,n,f,g⟩:=a
 refine ⟨a,c,rfl,n,f,fun hl=>?_⟩
 obtain ⟨b,o,cs,ro,rfl,h1,h2,h3⟩:=g hl
 exact ⟨b,o,cs,ro,rfl,by omega,by rw [hk b rfl,h2],h3⟩
theorem VI.nil (h:H):VI h .nils []:=⟨none,.fix 0,rfl,fun _=>⟨rfl,rfl⟩,zp _,fun h=>zI rfl h⟩
theorem VI.one {h:H} {v:V} {l:List Int} (a:VI h v l):v.one=true:=by obtain ⟨a,c,rfl,_⟩:=a;rfl
section
variable {call:Call} {fuel base:Nat} {ops:List Ins} {keep:List Nat} {K:List Fr} {e:Env} {h:H} {Q:Post} {ix:Nat} {dst at_:Option Nat}
end
structure ROk (h:H) (rw q:Nat) (r:RX):Prop where
 b : ∀ k,k=0\/k=1->VB h (r.v k) ((r.x.e k).ring.getD []) /\ ∀ z,(r.v k).at?=some z->z≠q/\z≠rw/\z<h.nx
 w:VI h r.vw r.x.waiting /\ ∀ z,r.vw.at?=some z->z≠q/\z≠rw/\z<h.nx
theorem ROk.keep {h h':H} {rw q:Nat} {r:RX} (a:ROk h rw q r) (c:Ch (fun j=>j=q\/j=rw) h h'):ROk h' rw q r:=by
 refine ⟨fun k hk=>?_,?_⟩
 ·obtain ⟨p,s⟩:=a.b k hk
  refine ⟨p.keep c.nx fun z hz=>c.get z (s z hz).2.2 fun e=>?_,fun z hz=>⟨(s z hz).1,(s z hz).2.1,zq (s z hz).2.2 c.nx⟩⟩
  rcases e with e | e
  ·exact (s z hz).1 e
  ·exact (s z hz).2.1 e
 ·obtain ⟨p,s⟩:=a.w
  refine ⟨p.keep c.nx fun z hz=>c.get z (s z hz).2.2 fun e=>?_,fun z hz=>⟨(s z hz).1,(s z hz).2.1,zq (s z hz).2.2 c.nx⟩⟩
  rcases e with e | e
  ·exact (s z hz).1 e
  ·exact (s z hz).2.1 e
structure RW (h:H) (rw q:Nat) (l:List RX) (tl:List V):Prop where
 lw:rw<h.nx
 lq:q<h.nx
 ne:rw≠q
 at_:l≠[]->RAt h rw q l tl
 nil:l=[]->h.get rw=some (.cells (.nils :: tl) false)
 ok : ∀ r∈l,ROk h rw q r
abbrev RC (rw q:Nat):Nat->Prop:=fun j=>j=q\/j=rw
theorem RW.rat {h:H} {rw q n:Nat} {l:List RX} {tl:List V} {r:RX} (w:RW h rw q l tl) (hr:l[n]?=some r):RAt h rw q l tl:=w.at_ (by rintro rfl;simp at hr)
theorem RW.head {h:H} {rw q:Nat} {l:List RX} {tl:List V} (w:RW h rw q l tl) : ∃ a c,h.get rw=some (.cells (.slice a l.length c :: tl) false)/\(l≠[]->a=some (q,0)/\c = .grow 20):=by
 by_cases hl:l=[]
 ·subst hl;exact ⟨none,.fix 0,w.nil rfl,fun h=>zI rfl h⟩
 ·exact ⟨_,_,(w.at_ hl).hw,fun _=>⟨rfl,rfl⟩⟩
theorem RW.set {h h':H} {rw q n:Nat} {l:List RX} {tl:List V} {r r':RX} (w:RW h rw q l tl) (hr:l[n]?=some r) (u:Upd q (.cells (rows (l.set n r')) false) h h') (hk:ROk h rw q r'):RW h' rw q (l.set n r') tl:=by
 have ch:Ch (RC rw q) h h':=u.ch (.inl rfl)
 refine ⟨by rw [u.nx];exact w.lw,by rw [u.nx];exact w.lq,w.ne,fun _=>(w.rat hr).upd u Zd,fun e=>?_,fun s hs=>?_⟩
 ·have h1:=congrArg List.length e
  have h2:=r_lt hr
  simp only [List.length_set,List.length_nil] at h1
  omega
 ·rcases List.mem_or_eq_of_mem_set hs with h1 | rfl
  ·exact (w.ok s h1).keep ch
  ·exact hk.keep ch
theorem ROk.same {h:H} {rw q:Nat} {r r':RX} (a:ROk h rw q r) (h0:r'.v0=r.v0) (h1:r'.v1=r.v1) (hw:r'.vw=r.vw) (e0:r'.x.e0.ring=r.x.e0.ring) (e1:r'.x.e1.ring=r.x.e1.ring) (e2:r'.x.waiting=r.x.waiting):ROk h rw q r':=by
 refine ⟨fun k hk=>?_,by rw [hw,e2];exact a.w⟩
 have:=a.b k hk
 rcases hk with rfl | rfl
 ·simp only [RX.v,Wi.e] at this ⊢;rw [h0,e0];exact this
 ·simp only [RX.v,Wi.e] at this ⊢;rw [h1,e1];exact this
theorem ROk.came {h:H} {rw q k:Nat} {r:RX} (a:ROk h rw q r) (hk:k=0\/k=1) (i o:Bool):ROk h rw q (r.came k i o):=by
 rcases hk with rfl | rfl
 ·exact a.same rfl rfl rfl rfl rfl rfl
 ·exact a.same rfl rfl rfl rfl rfl rfl
section
variable {cl:Nat->Call} (hcl:Sem cl)
include hcl
end
theorem jkh {buf q:List UInt8} {frm cap k mm a:Nat} (W:RingV buf q frm cap) (ha:(frm+k)%cap=a) (h1:a+mm<=cap) (h2:k+mm<=q.length):((bts buf).drop a).take mm=bts ((q.drop k).take mm):=by
 refine zR fun i=>?_
 rw [zL,List.getElem?_map,zL]
 by_cases hi:i<mm
 ·rw [zC hi,zC hi,zl,zl,List.getElem?_map]
  have e1:=jdh (x:=frm+k) (i:=i) (c:=cap) om
  have:=W.at_ (k+i) om
  rw [<- Nat.add_assoc,e1,ha] at this
  rw [this]
 ·rw [zz hi,zz hi];rfl
section
variable {cl:Nat->Call} (hcl:Sem cl)
include hcl
theorem jle {d r bb cap frm:Nat} {h0:H} {buf q:List UInt8} {inn out n:Int} (hd:6<=d) (C:RingC h0 r bb buf frm q.length cap inn out) (W:RingV buf q frm cap) (hr:r<h0.nx) (hbb:bb<h0.nx) :
  ∃ v h',cl d (.fn 48) [.p r 0,.i n] h0=some (v,h')/\Row h0.nx h' 1 v (min n q.length).toNat (bts (q.take (min n q.length).toNat))/\((min n q.length).toNat=0->v = .nils)/\Ch (fun _=>False) h0 h':=by
 have hlen:=jh7 hcl (d:=d-1) om (h:=h0.new (.cells [.nils] false)) ⟨by rw [jad hr,C.hr],by rw [jad hbb,C.hb]⟩
 have hC:=(jad (h:=h0) (o := .cells [.nils] false) hr).trans C.hr
 have w1:=W.fit
 have w2:=W.small
 have w3:=W.flt
 refine aT hcl ?_
 refine qx ?_
 refine zcu rfl rfl ?_
 by_cases hpos:0<min n (q.length:Int)
 case neg=>
  refine Ga ?_
  rw [show (min n (q.length:Int)).toNat=0 by omega]
  exact ⟨Row.nil _ _ _,fun _=>rfl,Ch.new⟩
 generalize hm:(min n (q.length:Int)).toNat=m
 have hmn:min n (q.length:Int)=(m:Int):=by omega
 rw [hmn] at hpos
 have hmq:m<=q.length:=by omega
 have hbox:=jh6 hcl (d:=d-1) (r:=r) (h:=h0.new (.cells [.nils] false)) (f:=(frm:Int)) (n:=min n (q.length:Int)) om
 refine Ga ?_
 clear hbox hlen
 rw [hmn]
 generalize hH:(((h0.new (.cells [.nils] false)).new (.cells [.p r 0] false)).new (.cells [.i (frm:Int)] false)).new (.cells [.i (m:Int)] false)=H1
 have x1:H1.nx=h0.nx+4:=by rw [<- hH];rfl
 have g0:H1.get h0.nx=some (.cells [.nils] false):=by rw [<- hH];exact qgt
 have g1:H1.get (h0.nx+1)=some (.cells [.p r 0] false):=by rw [<- hH];exact qgt
 have g2:H1.get (h0.nx+2)=some (.cells [.i (frm:Int)] false):=by rw [<- hH];exact qgt
 have g3:H1.get (h0.nx+3)=some (.cells [.i (m:Int)] false):=by rw [<- hH];exact qgt
 have gj : ∀ j,j<h0.nx->H1.get j=h0.get j:=by
  intro j hj
  rw [<- hH,jad Zc,jad Zc,jad Zc,jad hj]
 clear hH hC
 refine Run.rangeFunc_lo rfl qkp fun LO hLO=>?_
 rw [x1]
 have hne23:h0.nx+3≠h0.nx+2:=by omega
 obtain ⟨v,h',hc,⟨sv,k1,k3⟩,k2,⟨k7,k6⟩,k8⟩:=jfp hcl (d:=d-1) (L:=h0.nx+4) (nb:=h0.nx+3) (fb:=h0.nx+2) (rb:=h0.nx+1) (r:=r) (bb:=bb) (cap:=cap) (f0:=frm) (n0:=m)
  om hne23 om w2 om om
  (fun k g=>(∃ sv,g.get h0.nx=some (.cells [sv] false)/\Row (h0.nx+5) g 1 sv k (bts (q.take k)))/\g.get (h0.nx+4)=some (LO .ready none) /\
   (g.get (h0.nx+1)=some (.cells [.p r 0] false)/\h0.nx+5<=g.nx) /\ ∀ j,j<h0.nx->g.get j=h0.get j)
  (by
   rintro k g g' ⟨⟨sv,i1,ir⟩,i2,⟨i5,i6⟩,i7⟩ hg hx
   exact ⟨⟨sv,by rw [hg _ om om,i1],ir.keep om fun z hz=>by have:=ir.at_ge hz;exact hg _ om om⟩,by rw [hg _ om om,i2],⟨by rw [hg _ om om,i5],by omega⟩,fun j hj=>by rw [hg _ om om,i7 j hj]⟩)
  (by
   rintro k g ⟨i1,i2,⟨i5,i6⟩,i7⟩
   exact ⟨i5,_,by rw [i7 r hr,C.hr]⟩)
  (by
   rintro k g mm ⟨⟨sv,i1,ir⟩,i2,⟨i5,i6⟩,i7⟩ hk hmm gn gf
   have hmod:=Nat.mod_lt (frm+k) (show 0<cap by omega)
   generalize hat:(frm+k)%cap=at1 at hmod hmm
   have hmm1:0<mm:=by omega
   have hmm2:k+mm<=m:=by omega
   have hmm3:at1+mm<=cap:=by omega
   have hpc:=jkh W hat hmm3 (show k+mm<=q.length by omega)
   have hsrc:g.get bb=some (.cells (bts buf) false):=by rw [i7 bb hbb,C.hb]
   refine jak (yl_ hcl om hLO i2 rfl ?_)
   refine qx ?_
   refine End.nil ⟨rfl,i2,?_⟩
   refine Ga ?_
   have ir':Row (h0.nx+5) (g.set (h0.nx+4) (LO .busy none)) 1 sv k (bts (q.take k)):=ir.keep Zd fun z hz=>by have:=ir.at_ge hz;exact jaa om
   refine Ops.appendN (N:=h0.nx+5) rfl rfl ir' (by simpa using i6) hmm1 (ro:=false) (by rw [jaa om,hsrc]) (by have:=W.len;simp;omega) (by rw [Nat.mul_one];exact hpc) (jlB _) om om om fun v' h2 q1 q2 q3 q4=>?_
   simp only [H.nx_set] at q2 q3 q4
   have q5 : ∀ j,j<h0.nx+5->h2.get j=(g.set (h0.nx+4) (LO .busy none)).get j:=fun j hj=>q4 j om fun hv=>by have:=(ir.at_ge hv).1;omega
   have b0:h2.get h0.nx=some (.cells [sv] false):=by rw [q5 _ om];exact qgt
   have hone:=q1.one
   refine zcs rfl rfl hone b0 Nat.zero_lt_one ?_
   refine Ga ?_
   refine End.nil ⟨⟨.busy,none,by rw [jaa om,q5 _ om,jab]⟩,rfl,⟨⟨v',qgt,?_⟩,jab _,⟨?_,by simp;omega⟩,fun j hj=>?_⟩,?_,?_⟩
   ·have e:bts (q.take k)++bts ((q.drop k).take mm)=bts (q.take (k+mm)):=by rw [<- List.map_append,List.take_add]
    rw [<- e]
    refine q1.keep Zd fun z hz=>?_
    rw [q3] at hz;cases hz
    rw [jaa om,jaa om]
   ·rw [jaa om,jaa om,q5 _ om,jaa om,i5]
   ·rw [jaa om,jaa om,q5 _ om,jaa om,i7 j hj]
   ·rw [jaa om,jaa om,q5 _ om,jaa om]
   ·rw [jaa om,jaa om,q5 _ om,jaa om])
  (h:=H1.new (LO .ready none))
  ⟨⟨.nils,by rw [jad om,g0],Row.nil _ _ _⟩,by rw [<- x1,jac],⟨by rw [jad om,g1],by simp [x1]⟩,fun j hj=>by rw [jad om,gj j hj]⟩
  (by rw [jad om,g3]) (by rw [jad om,g2])
 refine ⟨v,h',hc,.normal,k2,?_⟩
 have k9:(h'.kill (h0.nx+4)).get h0.nx=some (.cells [sv] false):=by rw [jan om,k1]
 refine Ga ?_
 exact ⟨(k3.keep Zd fun z hz=>by have:=k3.at_ge hz;exact jan om).weaken om,fun hz=>by omega,by simp;omega,fun j hj _=>by rw [jan om,k8 j hj]⟩
theorem jlb {d r bb cap:Nat} {h0:H} {q:List UInt8} {n:Int} (hd:7<=d) (R:jaw h0 r bb q cap) (hr:r<h0.nx) (hbb:bb<h0.nx) (hrb:r≠bb) :
  ∃ v h',cl d (.fn 111) [.p r 0,.i n] h0=some (v,h')/\Row h0.nx h' 1 v (min n q.length).toNat (bts (q.take (min n q.length).toNat))/\((min n q.length).toNat=0->v = .nils)/\jaw h' r bb (q.drop (min n q.length).toNat) cap/\Ch (fun j=>j=r) h0 h':=by
 have R0:=R
 obtain ⟨buf,frm,inn,out,C,W⟩:=R
 obtain ⟨v,h1,e1,row,hnil,ch⟩:=jle hcl (d:=d-1) (n:=n) om C W hr hbb
 have c1:=(ch.get r hr id).trans C.hr
 have c2:=(ch.get bb hbb id).trans C.hb
 have w1:=W.fit
 have w2:=W.small
 have w3:=W.flt
 refine aT hcl ?_
 generalize hm:(min n (q.length:Int)).toNat=m at row hnil ⊢
 have hmq:m<=q.length:=by omega
 obtain ⟨c,⟨a,rfl⟩,hrow⟩:=row.shape
 by_cases h00:m=0
 ·subst h00
  refine Ga ?_
  exact ⟨row,hnil,by simpa using R0.keep (ch.get r hr id) (ch.get bb hbb id),ch.weaken fun j _ hj=>hj.elim⟩
 refine Ga ?_
 refine Ops.remN rfl rfl om ?_
 refine Ga ?_
 refine ⟨row.keep Zd fun z hz=>?_,hnil,jaw.of (frm:=(frm+m)%cap) (buf:=buf) (jab _) ?_ rfl ?_ ⟨W.len,Nat.mod_lt _ om,by simp;omega,w2,fun i hi=>?_⟩,?_⟩
 ·have:=row.at_ge hz
  have:z≠r:=by omega
  rw [jaa this,jaa this,jaa this]
 ·rw [jaa (Ne.symm hrb),jaa (Ne.symm hrb),jaa (Ne.symm hrb),c2]
 ·simp only [List.length_drop];omega
 ·simp only [List.length_drop] at hi
  have:=W.at_ (m+i) om
  rw [zl,<- this]
  congr 1
  rw [Nat.mod_add_mod]
  congr 1;omega
 ·refine ⟨by simp;exact ch.nx,fun j hj hn=>?_⟩
  have:j≠r:=hn
  rw [jaa this,jaa this,jaa this,ch.get j hj id]
end
def two (a b:Nat):Nat->Nat
 | 0=>a
 | _=>b
theorem Wi.ring_cell {x:Wi} {r0 r1 k:Nat} {wv:V} {q:List UInt8} (hk:k=0\/k=1) (hq:(x.e k).ring=some q) {o:Nat} (ho:o=k*7+2):(x.cells r0 r1 wv)[o]?=some (.p (two r0 r1 k) 0):=by
 subst ho
 rcases hk with rfl | rfl
 ·have hq:x.e0.ring=some q:=hq
  simp [Wi.cells,En.cells,hq,En.ptr,two]
 ·have hq:x.e1.ring=some q:=hq
  simp [Wi.cells,En.cells,hq,En.ptr,two]
theorem Wi.what_cell {x:Wi} {r0 r1 k:Nat} {wv:V} (hk:k=0\/k=1) {o:Nat} (ho:o=k*7):(x.cells r0 r1 wv)[o]?=some (.i (x.e k).what):=by
 subst ho;rcases hk with rfl | rfl<;>simp [Wi.cells,En.cells,Wi.e]
theorem Wi.shut_cell {x:Wi} {r0 r1 k:Nat} {wv:V} (hk:k=0\/k=1) {o:Nat} (ho:o=k*7+4):(x.cells r0 r1 wv)[o]?=some (.bool (x.e k).shut):=by
 subst ho;rcases hk with rfl | rfl<;>simp [Wi.cells,En.cells,Wi.e]
theorem Wi.reset_cell {x:Wi} {r0 r1:Nat} {wv:V} {o:Nat} (ho:o=14):(x.cells r0 r1 wv)[o]?=some (.bool x.reset):=by
 subst ho;simp [Wi.cells,En.cells]
theorem Wi.cells_length (x:Wi) (r0 r1:Nat) (wv:V):(x.cells r0 r1 wv).length=17:=by simp [Wi.cells,En.cells]
def Wi.setq (x:Wi) (k:Nat) (q:List UInt8):Wi:=x.put k { x.e k with ring:=some q }
theorem Wi.setq_cells {x:Wi} {r0 r1 k:Nat} {wv:V} {q q':List UInt8} (hk:k=0\/k=1) (hq:(x.e k).ring=some q):(x.setq k q').cells r0 r1 wv=x.cells r0 r1 wv:=by
 rcases hk with rfl | rfl
 ·have hq:x.e0.ring=some q:=hq
  simp [Wi.setq,Wi.put,Wi.e,Wi.cells,En.cells,hq,En.ptr]
 ·have hq:x.e1.ring=some q:=hq
  simp [Wi.setq,Wi.put,Wi.e,Wi.cells,En.cells,hq,En.ptr]
def Wi.take (x:Wi) (k m:Nat) (q:List UInt8):Wi:=(x.setq k (q.drop m)).came (1-k) false (decide (0<m))
def Wi.fill (x:Wi) (k m:Nat) (q l:List UInt8):Wi:=(x.setq (1-k) (q++l.take m)).came (1-k) (decide (0<m)) false
def Wi.doShut (x:Wi) (k:Nat):Wi:=if (x.e k).shut=true then x else (x.put k { x.e k with shut:=true }).came (1-k) true false
section
variable {cl:Nat->Call} (hcl:Sem cl)
include hcl
theorem xp_take {d wb r0 r1 k b:Nat} {wv:V} {h0:H} {x:Wi} {n:Int} {q:List UInt8} (hd:8<=d) (hw:h0.get wb=some (x.obj r0 r1 wv)) (hk:k=0\/k=1) (hq:(x.e k).ring=some q) (R:jaw h0 (two r0 r1 k) b q x.cap)
  (l1:wb<h0.nx) (l2:two r0 r1 k<h0.nx) (l3:b<h0.nx) (n1:two r0 r1 k≠b) (n2:wb≠two r0 r1 k) (n3:wb≠b) :
  ∃ v h',cl d (.fn 95) [.p wb 0,.i (k:Int),.i n] h0=some (v,h')/\Row h0.nx h' 1 v (min n q.length).toNat (bts (q.take (min n q.length).toNat))/\((min n q.length).toNat=0->v = .nils)/\h'.get wb=some ((x.take k (min n q.length).toNat q).obj r0 r1 wv) /\
   jaw h' (two r0 r1 k) b (q.drop (min n q.length).toNat) x.cap/\Ch (fun j=>j=wb\/j=two r0 r1 k) h0 h':=by
 obtain ⟨v,h1,e1,row,hnil,R1,ch⟩:=jlb hcl (d:=d-1) (n:=n) om R l2 l3 n1
 have hrc:=Wi.ring_cell (x:=x) (r0:=r0) (r1:=r1) (wv:=wv) hk hq (o:=0+0+(k:Int).toNat*7+2) om
 generalize hm:(min n (q.length:Int)).toNat=m at row hnil R1 ⊢
 have hw1:h1.get wb=some ((x.setq k (q.drop m)).obj r0 r1 wv):=by rw [ch.get wb l1 n2,hw,Wi.obj,Wi.obj,Wi.setq_cells hk hq]
 obtain ⟨h2,e2,u2⟩:=jdU hcl (d:=d-1) (k:=1-k) om hw1 om false (decide (0<m))
 obtain ⟨c,⟨a,rfl⟩,hrow⟩:=row.shape
 have ek:(1:Int)-(k:Int)=((1-k:Nat):Int):=by omega
 have eb:decide (0<(m:Int))=decide (0<m):=by simp
 have hx:((x.setq k (q.drop m)).came (1-k) false (decide (0<m)))=x.take k m q:=rfl
 rw [hx] at u2
 have hnx:=ch.nx
 have hw:=hw
 unfold Wi.obj at hw
 refine aT hcl ?_
 refine qx ?_
 rw [ek,eb]
 refine qx ?_
 refine ⟨row.keep (by rw [u2.nx];exact zp _) fun z hz=>?_,hnil,u2.self,R1.keep (u2.get _ n2.symm) (u2.get _ n3.symm),by rw [u2.nx];exact hnx,fun j hj hn=>?_⟩
 ·have:=row.at_ge hz
  exact u2.get _ om
 ·rw [u2.get j (fun e=>hn (.inl e)),ch.get j hj (fun e=>hn (.inr e))]
theorem jlW {d wb r0 r1 k b:Nat} {wv:V} {h0:H} {x:Wi} {q l:List UInt8} {a:Option (Nat × Nat)} {c:Cap} (hd:7<=d) (hw:h0.get wb=some (x.obj r0 r1 wv)) (hk:k=0\/k=1) (hq:(x.e (1-k)).ring=some q) (R:jaw h0 (two r0 r1 (1-k)) b q x.cap)
  (l1:wb<h0.nx) (l2:two r0 r1 (1-k)<h0.nx) (l3:b<h0.nx) (n1:two r0 r1 (1-k)≠b) (n2:wb≠two r0 r1 (1-k)) (n3:wb≠b) (hl:BytesAt h0 a c l) (hll:l.length<=1000000000)
  (hne : ∀ z o,a=some (z,o)->l≠[]->z≠b/\z≠two r0 r1 (1-k)) :
  ∃ h',cl d (.fn 94) [.p wb 0,.i (k:Int),.slice a l.length c] h0=some (.i ((min l.length (x.cap-q.length):Nat):Int),h')/\h'.get wb=some ((x.fill k (min l.length (x.cap-q.length)) q l).obj r0 r1 wv) /\
   jaw h' (two r0 r1 (1-k)) b (q++l.take (min l.length (x.cap-q.length))) x.cap/\Ch (fun j=>j=wb\/j=two r0 r1 (1-k)\/j=b) h0 h':=by
 obtain ⟨h1,e1,R1,ch⟩:=rp_put hcl (d:=d-1) om R l2 l3 n1 hl hll hne
 have ek:(1:Int)-(k:Int)=((1-k:Nat):Int):=by omega
 have hk':1-k=0\/1-k=1:=by omega
 have hrc:=Wi.ring_cell (x:=x) (r0:=r0) (r1:=r1) (wv:=wv) hk' hq (o:=0+0+((1:Int)-(k:Int)).toNat*7+2) om
 generalize hm:min l.length (x.cap-q.length)=m at e1 R1 ⊢
 have hw1:h1.get wb=some ((x.setq (1-k) (q++l.take m)).obj r0 r1 wv):=by rw [ch.get wb l1 om,hw,Wi.obj,Wi.obj,Wi.setq_cells hk' hq]
 obtain ⟨h2,e2,u2⟩:=jdU hcl (d:=d-1) (k:=1-k) om hw1 hk' (decide (0<m)) false
 have eb:decide (0<(m:Int))=decide (0<m):=by simp
 have hx:((x.setq (1-k) (q++l.take m)).came (1-k) (decide (0<m)) false)=x.fill k m q l:=rfl
 rw [hx] at u2
 have hnx:=ch.nx
 have hw:=hw
 unfold Wi.obj at hw
 refine jak (aT hcl ?_)
 refine qx ?_
 rw [ek,eb]
 refine qx ?_
 refine ⟨rfl,u2.self,R1.keep (u2.get _ n2.symm) (u2.get _ n3.symm),by rw [u2.nx];exact hnx,fun j hj hn=>?_⟩
 rw [u2.get j (fun e=>hn (.inl e)),ch.get j hj (fun e=>hn (.inr e))]
theorem xp_shut {d wb r0 r1 k:Nat} {wv:V} {h:H} {x:Wi} (hd:2<=d) (hw:h.get wb=some (x.obj r0 r1 wv)) (hk:k=0\/k=1) :
  ∃ h',cl d (.fn 96) [.p wb 0,.i (k:Int)] h=some (.tup [],h')/\Upd wb ((x.doShut k).obj r0 r1 wv) h h':=by
 refine jak (aT hcl ?_)
 have hsc:=Wi.shut_cell (x:=x) (r0:=r0) (r1:=r1) (wv:=wv) hk (o:=0+0+(k:Int).toNat*7+4) om
 have hw0:=hw
 unfold Wi.obj at hw
 by_cases hs:(x.e k).shut=true
 ·have hs' : ¬ (x.e k).shut=false:=by simp [hs]
  refine qx ?_
  exact ⟨rfl,by rw [Wi.doShut,zC hs];exact Upd.refl hw0⟩
 ·have hs':(x.e k).shut=false:=by simpa using hs
  refine qx ?_
  refine zcs rfl rfl rfl hw (by rw [Wi.cells_length];omega) ?_
  have e1:Obj.cells ((x.cells r0 r1 wv).set (0+0+(k:Int).toNat*7+4) (.bool true)) false=(x.put k { x.e k with shut:=true }).obj r0 r1 wv:=by
   rcases hk with rfl | rfl<;>rfl
  rw [e1]
  obtain ⟨h2,e2,u2⟩:=jdU hcl (d:=d-1) (k:=1-k) om (jab (h:=h) (b:=wb) ((x.put k { x.e k with shut:=true }).obj r0 r1 wv)) om true false
  have ek:(1:Int)-(k:Int)=((1-k:Nat):Int):=by omega
  refine qx ?_
  rw [ek]
  refine qx ?_
  refine ⟨rfl,?_⟩
  rw [Wi.doShut,zz hs]
  exact Upd.set.trans u2
end
theorem VB.ofRow {h:H} {v:V} {q:List UInt8} {N:Nat} (r:Row N h 1 v q.length (bts q)):VB h v q /\ ∀ z,v.at?=some z->N<=z/\z<h.nx:=by
 refine ⟨?_,fun z hz=>r.at_ge hz⟩
 rcases r with ⟨h1,h2,rfl⟩ | ⟨b,h1,h2,rfl,h4,h5⟩
 ·have:q=[]:=by simpa using h1
  subst this;exact VB.nil h
 ·exact ⟨_,_,rfl,fun e=>by (cases e),rfl,fun _=>⟨b,0,_,false,rfl,h2,h4,fun i x hi=>by rw [zN];exact jjl hi⟩⟩
section
variable {call:Call} {fuel base:Nat} {ops:List Ins} {keep:List Nat} {K:List Fr} {e:Env} {h:H} {Q:Post} {ix:Nat} {dst:Option Nat} {c:List (Nat × I × Option (Nat × Bool))}
end
def RX.putv (r:RX) (k:Nat) (v:V) (b:List UInt8):RX:=match k with
 | 0=>{ r with x:=r.x.setq 0 b,v0:=v }
 | _=>{ r with x:=r.x.setq 1 b,v1:=v }
theorem ROk.putv {h:H} {rw q k:Nat} {r:RX} {v:V} {b:List UInt8} (a:ROk h rw q r) (hk:k=0\/k=1) (hv:VB h v b) (hz : ∀ z,v.at?=some z->z≠q/\z≠rw/\z<h.nx):ROk h rw q (r.putv k v b):=by
 refine ⟨fun j hj=>?_,?_⟩
 ·have ha:=a.b j hj
  rcases hk with rfl | rfl<;>rcases hj with rfl | rfl
  ·exact ⟨hv,hz⟩
  ·exact ha
  ·exact ha
  ·exact ⟨hv,hz⟩
 ·rcases hk with rfl | rfl<;>exact a.w
def RX.take (r:RX) (k m:Nat) (b:List UInt8) (v:V):RX:=(r.putv k v (b.drop m)).came (1-k) false (decide (0<m))
def RX.fill (r:RX) (k m:Nat) (b l:List UInt8) (v:V):RX:=(r.putv (1-k) v (b++l.take m)).came (1-k) (decide (0<m)) false
section
variable {cl:Nat->Call} (hcl:Sem cl)
include hcl
end
def RX.doShut (r:RX) (k:Nat):RX := { r with x:=r.x.doShut k }
def Wi.close (x:Wi) (k:Nat):Wi:=let y:=x.came (1-k) (!(x.e k).shut) true;y.put k { y.e k with what:=3 }
def RX.close (r:RX) (k:Nat):RX := { r with x:=r.x.close k }
theorem ROk.put {h:H} {rw q k:Nat} {r:RX} (a:ROk h rw q r) (hk:k=0\/k=1) {e:En} (he:e.ring=(r.x.e k).ring):ROk h rw q { r with x:=r.x.put k e } := by
 rcases hk with rfl | rfl
 ·exact a.same rfl rfl rfl he rfl rfl
 ·exact a.same rfl rfl rfl rfl he rfl
section
variable {cl:Nat->Call} (hcl:Sem cl)
include hcl
end
abbrev Ws:=List Wi
def AtW (ws:Ws) (n k:Nat) (fd:Int):Prop := ∃ x,ws[n]?=some x/\(k=0\/k=1)/\(x.e k).what=1/\(x.e k).fd=fd
def Uniq (ws:Ws):Prop := ∀ n k n' k' fd,AtW ws n k fd->AtW ws n' k' fd->n=n'/\k=k'
open Classical in
noncomputable def atS (ws:Ws) (fd:Int):Option (Nat × Nat):=if h : ∃ p:Nat × Nat,AtW ws p.1 p.2 fd then some h.choose else none
theorem jhj {ws:Ws} {n k:Nat} {fd:Int} (u:Uniq ws) (h:AtW ws n k fd):atS ws fd=some (n,k):=by
 unfold atS
 have hx : ∃ p:Nat × Nat,AtW ws p.1 p.2 fd:=⟨(n,k),h⟩
 rw [dif_pos hx]
 have:=u _ _ _ _ _ hx.choose_spec h
 congr 1
 exact Prod.ext this.1 this.2
theorem jhk {ws:Ws} {fd:Int} (h : ∀ n k,¬ AtW ws n k fd):atS ws fd=none:=by
 unfold atS
 rw [dif_neg fun ⟨p,hp⟩=>h _ _ hp]
theorem jms {ws:Ws} {n k:Nat} {fd:Int} (h:AtW ws n k fd) : ∃ x,ws[n]?=some x/\(k=0\/k=1):=by
 obtain ⟨x,h1,h2,_⟩:=h;exact ⟨x,h1,h2⟩
theorem map_set {l:List RX} {n:Nat} {r:RX} : (l.set n r).map RX.x=(l.map RX.x).set n r.x:=List.map_set
noncomputable def jbw {α : Type} (ws:Ws) (fd:Int) (no : α) (f:Nat->Nat->Wi -> α) : α := match atS ws fd with
 | none=>no
 | some (n,k)=>match ws[n]? with
  | none=>no
  | some x=>f n k x
theorem withFd_no {α : Type} {ws:Ws} {fd:Int} {no : α} {f:Nat->Nat->Wi -> α} (h : ∀ n k,¬ AtW ws n k fd):jbw ws fd no f=no:=by
 unfold jbw;rw [jhk h]
theorem jhx {α : Type} {ws:Ws} {fd:Int} {no : α} {f:Nat->Nat->Wi -> α} {n k:Nat} {x:Wi} (u:Uniq ws) (h:AtW ws n k fd) (hx:ws[n]?=some x):jbw ws fd no f=f n k x:=by
 unfold jbw;rw [jhj u h];simp only [hx]
noncomputable def jlj (ws:Ws) (fd many:Int):(List UInt8 × Bool × Int) × Ws :=
 jbw ws fd (([],false,110),ws) fun n k x=>match (x.e k).ring with
  | none=>(([],false,111),ws)
  | some q=>if many<1 then (([],false,2),ws) else if x.reset then (([],false,115),ws)
   else if q≠[] then ((q.take (min many q.length).toNat,false,0),ws.set n (x.take k (min many q.length).toNat q))
   else if x.silent k then (([],true,0),ws) else (([],false,113),ws)
noncomputable def jhr (ws:Ws) (fd:Int) (b:List UInt8):(Int × Int) × Ws :=
 jbw ws fd ((0,110),ws) fun n k x=>if (x.e k).writes=false then ((0,111),ws) else if x.reset then ((0,115),ws)
  else if (x.e k).shut=true\/(x.e (1-k)).what=3 then ((0,116-2),ws) else if b=[] then ((0,0),ws)
  else match (x.e (1-k)).ring with
   | none=>((0,111),ws)
   | some q=>if min b.length (x.cap-q.length)=0 then ((0,113),ws.set n (x.fill k 0 q b)) else (((min b.length (x.cap-q.length):Nat),0),ws.set n (x.fill k (min b.length (x.cap-q.length)) q b))
noncomputable def jkV (ws:Ws) (fd:Int):Int × Ws :=
 jbw ws fd (110,ws) fun n k x=>if (x.e k).ring=none\/(x.e k).writes=false then (111,ws) else (0,ws.set n (x.doShut k))
noncomputable def jhy (ws:Ws) (fd:Int):Int × Int:=jbw ws fd (0,110) fun n _ _=>(n,0)
def OutW (ws:Ws) (n:Int) (x:Wi):Prop:=0<=n/\ws[n.toNat]?=some x/\x.e1.what=2
def jbT {α : Type} (ws:Ws) (n:Int) (no : α) (f:Nat->Wi -> α) : α := if 0<=n then match ws[n.toNat]? with
  | none=>no
  | some x=>if x.e1.what=2 then f n.toNat x else no
 else no
theorem jcv {α : Type} {ws:Ws} {n:Int} {no : α} {f:Nat->Wi -> α} (h : ∀ x,¬ OutW ws n x):jbT ws n no f=no:=by
 unfold jbT
 split
 ·next h0=>
  split
  ·rfl
  ·next x hx=>
   split
   ·next h2=>exact zI ⟨h0,hx,h2⟩ (h x)
   ·rfl
 ·rfl
theorem jcw {α : Type} {ws:Ws} {n:Nat} {no : α} {f:Nat->Wi -> α} {x:Wi} (hx:ws[n]?=some x) (h2:x.e1.what=2):jbT ws (n:Int) no f=f n x:=by
 unfold jbT
 rw [zC om]
 simp only [zt,hx,h2,if_true]
def putS (ws:Ws) (n:Int) (b:List UInt8):(Int × Int) × Ws :=
 jbT ws n ((0,116),ws) fun n x=>if x.reset then ((0,115),ws) else if x.e1.shut=true\/x.e0.what=3 then ((0,114),ws)
  else match x.e0.ring with
   | none=>((0,0),ws)
   | some q=>(((min b.length (x.cap-q.length):Nat),0),ws.set n (x.fill 1 (min b.length (x.cap-q.length)) q b))
def jdv (ws:Ws) (n many:Int):(List UInt8 × Int) × Ws :=
 jbT ws n (([],116),ws) fun n x=>if many<0 then (([],2),ws) else if x.reset then (([],115),ws)
  else match x.e1.ring with
   | none=>(([],0),ws)
   | some q=>((q.take (min many q.length).toNat,0),ws.set n (x.take 1 (min many q.length).toNat q))
def jbd (ws:Ws) (n:Int):Int × Ws:=jbT ws n (116,ws) fun n x=>(0,ws.set n (x.doShut 1))
def jaM (ws:Ws) (n:Int):Int × Ws:=jbT ws n (116,ws) fun n x=>(0,ws.set n (x.close 1))
def Wi.doReset (x:Wi):Wi:=if x.reset then x else
 let y:Wi := { x with reset:=true }
 let y:=(y.setq 0 []).came 0 true true
 (y.setq 1 []).came 1 true true
def jcU (ws:Ws) (n:Int):Int × Ws:=jbT ws n (116,ws) fun n x=>(0,ws.set n x.doReset)
abbrev WhV (x:Wi):Prop:=(0<=x.e0.what/\x.e0.what<=3)/\0<=x.e1.what/\x.e1.what<=3
structure WiOk (x:Wi):Prop where
 cap0:1<=x.cap
 cap1:x.cap<=65536
 len : ∀ k,k=0\/k=1 -> ∀ q,(x.e k).ring=some q->q.length<=x.cap
 pair : ∀ k,k=0\/k=1->((x.e k).writes=true↔(x.e (1-k)).ring≠none)
 out:x.e1.what=2->x.e0.ring≠none/\x.e1.ring≠none
 bl:0<=x.backlog/\x.backlog<=64
 wh:WhV x
structure WsOk (ws:Ws):Prop where
 uniq:Uniq ws
 ok : ∀ x∈ws,WiOk x
 len:ws.length<=1000
 wait : ∀ x∈ws,x.waiting.length<=64 /\ ∀ m∈x.waiting,∃ y:Wi,0<=m/\ws[m.toNat]?=some y/\y.e0.what=0
def jet (ws:Ws) (m:Int):Ws:=match ws[m.toNat]? with
 | none=>ws
 | some x=>ws.set m.toNat (x.close 0)
def jb7:Ws->List Int->Ws
 | ws,[]=>ws
 | ws,m :: r=>jb7 (jet ws m) r
def noWait (ws:Ws) (n:Nat):Ws:=match ws[n]? with
 | none=>ws
 | some x=>ws.set n { x with waiting:=[] }
noncomputable def ji0 (ws:Ws) (fd:Int):Int × Ws :=
 jbw ws fd (110,ws) fun n k x=>(0,noWait (jb7 (ws.set n (x.close k)) x.waiting) n)
theorem Wi.close_waiting {x:Wi} {k:Nat} (hk:k=0\/k=1):(x.close k).waiting=x.waiting:=by rcases hk with rfl | rfl<;>rfl
theorem Wi.close_ring {x:Wi} {k j:Nat} (hk:k=0\/k=1) (hj:j=0\/j=1):((x.close k).e j).ring=(x.e j).ring:=by rcases hk with rfl | rfl<;>rcases hj with rfl | rfl<;>rfl
theorem map_get {l:List RX} {n:Nat} {r:RX} (hr:l[n]?=some r):(l.map RX.x)[n]?=some r.x:=by simp [hr]
theorem WsOk.wi {l:List RX} {n:Nat} {r:RX} (o:WsOk (l.map RX.x)) (hr:l[n]?=some r):WiOk r.x:=o.ok _ (zc (map_get hr))
section
variable {cl:Nat->Call} (hcl:Sem cl)
include hcl
end
section
variable {cl:Nat->Call} (hcl:Sem cl)
include hcl
end
theorem Run.unroll {call:Call} {fuel n:Nat} {live:List Nat} {body:AC} {K:List Fr} {e:Env} {h:H} {Q:Post} (hf:fuel=n+1) (k:Run call fuel body (.loop live body n :: K) (e.only live) h Q):Run call fuel (.loop live body) K e h Q:=by
 obtain ⟨x,e1,h1,hd,x2,e2,h2,ha,hq⟩:=k
 have it:iter (D call fuel body) live fuel e h=match D call fuel body (e.only live) h with
  | some (.normal,e',h')=>iter (D call fuel body) live n e' h'
  | r=>r:=by rw [hf];rfl
 cases x<;>simp only [after] at ha
 ·split at ha
  ·next x3 e3 h3 hb=>exact ⟨x3,e3,h3,by simp only [D,it,hd,hb],x2,e2,h2,ha,hq⟩
  ·cases ha
 ·exact ⟨_,e1,h1,by simp only [D,it,hd],x2,e2,h2,ha,hq⟩
 ·exact ⟨_,e1,h1,by simp only [D,it,hd],x2,e2,h2,ha,hq⟩
theorem End.unroll {call:Call} {fuel n:Nat} {live:List Nat} {body:AC} {K:List Fr} {e:Env} {h:H} {Q:Post} (k:Run call fuel body (.loop live body n :: K) (e.only live) h Q):End call fuel (.loop live body (n+1) :: K) .normal e h Q:=by
 obtain ⟨x,e1,h1,hd,x2,e2,h2,ha,hq⟩:=k
 cases x<;>simp only [after] at ha
 ·split at ha
  ·next x3 e3 h3 hb=>exact ⟨x2,e2,h2,by simp only [after,iter,hd,hb,ha],hq⟩
  ·cases ha
 ·exact ⟨x2,e2,h2,by simp only [after,iter,hd,ha],hq⟩
 ·exact ⟨x2,e2,h2,by simp only [after,iter,hd,ha],hq⟩
def RX.noWait (r:RX):RX := { r with x := { r.x with waiting:=[] },vw := .nils }
theorem ROk.noWait {h:H} {rw q:Nat} {r:RX} (a:ROk h rw q r):ROk h rw q r.noWait :=
 ⟨fun k hk=>by have:=a.b k hk;rcases hk with rfl | rfl<;>exact this,VI.nil h,fun z hz=>by cases hz⟩
theorem VI.cell {h:H} {l:List Int} {a:Option (Nat × Nat)} {c:Cap} {i:Nat} {x:Int} (hv:VI h (.slice a l.length c) l) (hi:l[i]?=some x) : ∃ b o cs ro,a=some (b,o)/\h.get b=some (.cells cs ro)/\cs[o+(i:Int).toNat*1]?=some (.i x):=by
 obtain ⟨a',c',e,_,_,g⟩:=hv
 cases e
 obtain ⟨b,o,cs,ro,rfl,h1,h2,h3⟩:=g (by rintro rfl;simp at hi)
 exact ⟨b,o,cs,ro,rfl,h2,by rw [show o+(i:Int).toNat*1=o+i by omega];exact h3 _ _ hi⟩
section
variable {cl:Nat->Call} (hcl:Sem cl)
include hcl
end
def RX.reset (r:RX):RX := { r with x := { r.x with reset:=true } }
def RX.doReset (r:RX):RX:=(((r.reset.putv 0 .nils []).came 0 true true).putv 1 .nils []).came 1 true true
section
variable {cl:Nat->Call} (hcl:Sem cl)
include hcl
end
structure WAt (h:H) (w:Nat) (wl:List V) (s wsb wn:Nat) (wcap:Cap) (wsl:List V):Prop where
 hw:h.get w=some (.cells wl false)
 hs:wl[0+289]?=some (.p s 0)
 hws:wl[0+288]?=some (.slice (some (wsb,0)) wn wcap)
 hb:h.get wsb=some (.cells wsl false)
theorem WAt.keep {h h':H} {w:Nat} {wl:List V} {s wsb wn:Nat} {wcap:Cap} {wsl:List V} (a:WAt h w wl s wsb wn wcap wsl) (h1:h'.get w=h.get w) (h2:h'.get wsb=h.get wsb):WAt h' w wl s wsb wn wcap wsl :=
 ⟨by rw [h1,a.hw],a.hs,a.hws,by rw [h2,a.hb]⟩
structure FdAt (wl wsl:List V) (wn fd n k wb:Nat):Prop where
 small:fd<=95
 op:wl[fd*3]?=some (.bool true)
 wi:wl[fd*3+1]?=some (.i (n:Int))
 en:wl[fd*3+2]?=some (.i (k:Int))
 lt:n<wn
 at_:wsl[n]?=some (.p wb 0)
 k01:k=0\/k=1
theorem jm5 {l:List V} {o:Nat} {a b c:V} (h0:l[o]?=some a) (h1:l[o+1]?=some b) (h2:l[o+2]?=some c):(l.drop o).take 3=[a,b,c]:=by
 apply zR
 intro i
 rw [zL,zl]
 match i with
 | 0=>simpa using h0
 | 1=>simpa using h1
 | 2=>simpa using h2
 | n+3=>
  have : ¬ n+3<3:=by omega
  rw [zz this];rfl
theorem len_of {l:List V} {o:Nat} {a:V} (h:l[o]?=some a):o<l.length:=by
 rcases zu o l.length with h1 | h1
 ·exact h1
 ·rw [zd h1] at h;cases h
theorem resN {e:Env} {h:H} {s n b o:Nat} {l:List V} {ro:Bool} {rs:List RV} {r:List V} (hs:e.get s=some (.ptr (some (b,o)))) (hl:h.get b=some (.cells l ro)) (hn:o+n<=l.length) (hr:jc9 e h rs=some r) :
  jc9 e h (.cellN s n :: rs)=some (.agg ((l.drop o).take n) :: r):=by simp only [jc9,hs,jb3 hl hn,hr]
section
variable {cl:Nat->Call} (hcl:Sem cl)
include hcl
theorem jiB {d b s:Nat} {h:H} {l:List V} {ro:Bool} (hd:1<=d) (hb:h.get b=some (.cells l ro)) (hs:l[0+289]?=some (.p s 0)):cl d (.fn 24) [.p b 0] h=some (.bool false,h):=by
 refine jao (aT hcl ?_)
 refine qx ?_
 exact ⟨rfl,rfl⟩
theorem wp_find {d w s wsb wn fd n k wb:Nat} {h:H} {wl wsl:List V} {wcap:Cap} (hd:2<=d) (A:WAt h w wl s wsb wn wcap wsl) (B:FdAt wl wsl wn fd n k wb) (l1:w<h.nx) (l2:wsb<h.nx) :
  ∃ h',cl d (.fn 70) [.p w 0,.i (fd:Int)] h=some (.tup [.agg [.bool true,.i (n:Int),.i (k:Int)],.p wb 0,.i 0],h')/\Ch (fun _=>False) h h'/\h'.nx=h.nx+1:=by
 obtain ⟨hw,hs,hws,hb⟩:=A
 obtain ⟨f1,f2,f3,f4,f5,f6,f7⟩:=B
 refine jak (aT hcl ?_)
 refine qo ?_
 refine zcu rfl rfl ?_
 have hw1:=(jad (h:=h) (o := .cells [.bool false,.i 0,.i 0] false) l1).trans hw
 have hb1:=(jad (h:=h) (o := .cells [.bool false,.i 0,.i 0] false) l2).trans hb
 have hn:=jiB hcl (d:=d-1) om hw1 hs
 have f2':wl[0+0+(fd:Int).toNat*3+0]?=some (.bool true):=by rw [show 0+0+(fd:Int).toNat*3+0=fd*3 by omega];exact f2
 have f3':wl[0+0+(fd:Int).toNat*3+1]?=some (.i (n:Int)):=by rw [show 0+0+(fd:Int).toNat*3+1=fd*3+1 by omega];exact f3
 have f6':wsl[0+(n:Int).toNat*1]?=some (.p wb 0):=by rw [show 0+(n:Int).toNat*1=n by omega];exact f6
 have h3:=jm5 f2 f3 f4
 have hlen:=len_of f4
 refine qx ?_
 refine zcw rfl hw1 om ?_
 rw [show 0+0+(fd:Int).toNat*3=fd*3 by omega,h3]
 have f3'':wl[fd*3+1]?=some (.i (n:Int)):=f3
 refine qx ?_
 have hw2:((h.new (.cells [.bool false,.i 0,.i 0] false)).set h.nx (.cells (jay [.bool false,.i 0,.i 0] 0 [.bool true,.i (n:Int),.i (k:Int)]) false)).get w=some (.cells wl false):=by rw [jaa om,hw1]
 have hb2:((h.new (.cells [.bool false,.i 0,.i 0] false)).set h.nx (.cells (jay [.bool false,.i 0,.i 0] 0 [.bool true,.i (n:Int),.i (k:Int)]) false)).get wsb=some (.cells wsl false):=by rw [jaa om,hb1]
 refine Ops.storeN_chk rfl rfl rfl rfl (jac _) (zr rfl) (jaK rfl hw2 hws rfl (jaK rfl hw2 f3' rfl (jaK rfl hb2 f6' rfl jba))) ?_
 refine qx ?_
 refine zcf (resN rfl (jab _) (zr rfl) rfl) ?_
 exact ⟨rfl,⟨by simp,fun j hj _=>by rw [jaa om,jad hj]⟩,rfl⟩
end
def Wi.rIn (x:Wi) (k:Nat):Bool:=match (x.e k).ring with
 | none=>false
 | some q=>!q.isEmpty||(x.e (1-k)).what == 3||(x.e (1-k)).shut||x.reset
def Wi.rOut (x:Wi) (k:Nat):Bool:=(x.e k).writes && !(x.e k).shut&&(decide ((((x.e (1-k)).ring.getD []).length:Int)<x.cap)||(x.e (1-k)).what == 3||x.reset)
def Wi.ready (x:Wi) (k:Nat):List V :=
 if 0<x.backlog then [.bool true,.bool (!x.waiting.isEmpty),.bool false,.bool false,.bool false,.int .u64 (x.e k).inn,.int .u64 (x.e k).out]
 else [.bool true,.bool (x.rIn k),.bool (x.rOut k),.bool ((x.e (1-k)).what == 3),.bool x.reset,.int .u64 (x.e k).inn,.int .u64 (x.e k).out]
theorem fin_agg {call:Call} {fuel s n b:Nat} {e:Env} {h:H} {R:V->H->Prop} {l:List V} (hs:e.get s=some (.ptr (some (b,0)))) (hl:h.get b=some (.cells l false)) (hn:l.length=n) (k:R (.agg l) h) :
  End call fuel [] .ret e h (Fin [.cellN s n] R):=by
 refine End.fin1 (resN hs hl om rfl) ?_
 rw [zj,zg om];exact k
section
variable {cl:Nat->Call} (hcl:Sem cl)
include hcl
end
section
variable {cl:Nat->Call} (hcl:Sem cl)
include hcl
end
theorem Run.fin_mono {call:Call} {fuel:Nat} {c:AC} {res:List RV} {e:Env} {h:H} {R R':V->H->Prop} (k:Run call fuel c [] e h (Fin res R)) (hR : ∀ v h',R v h'->R' v h'):Run call fuel c [] e h (Fin res R'):=by
 obtain ⟨x',e',h',hd',x2,e2,h2,ha,⟨⟨p1,l,p2,p3⟩⟩⟩:=k
 exact ⟨x',e',h',hd',x2,e2,h2,ha,⟨⟨p1,l,p2,hR _ _ p3⟩⟩⟩
section
variable {cl:Nat->Call} (hcl:Sem cl)
include hcl
end
def sgc (hd:Nat->Bool) (pd:Nat->Int):List V:=tab 32 (fun k=>.bool (hd k))++tab 32 (fun k=>.i (pd k))
theorem jke (hd:Nat->Bool) (pd:Nat->Int):(sgc hd pd).length=64:=by simp [sgc]
theorem jmd {hd:Nat->Bool} {pd:Nat->Int} {k o:Nat} (hk:k<32) (ho:o=k):(sgc hd pd)[o]?=some (.bool (hd k)):=by
 subst ho
 unfold sgc
 rw [ze,zC (by simpa using hk),jdY hk]
theorem jkW {hd:Nat->Bool} {pd:Nat->Int} {k o:Nat} (hk:k<32) (ho:o=32+k):(sgc hd pd)[o]?=some (.i (pd k)):=by
 subst ho
 unfold sgc
 rw [ze,zz Zd,tab_length,zZ,jdY hk]
theorem jkd {hd:Nat->Bool} {pd:Nat->Int} {k o:Nat} {n:Int} (ho:o=32+k):(sgc hd pd).set o (.i n)=sgc hd (fun j=>if j=k then n else pd j):=by
 subst ho
 unfold sgc
 rw [List.set_append,zz Zd,tab_length,zZ,jg1]
 congr 1
 refine jfg fun j _=>?_
 by_cases e:j=k<;>simp [e]
abbrev sig? (s:Int):Prop:=1<=s/\s<=31
theorem sp_is {cl:Nat->Call} (hcl:Sem cl) {d:Nat} (hd:1<=d) (s:Int) (h:H):cl d (.fn 86) [.i s] h=some (.bool (decide (sig? s)),h):=by
 refine jao (at_ hcl hd rfl rfl rfl ?_)
 repeat' (first|refine qoy ?_|(refine zsp ?_ ?_<;>intro _)|fail)
 all_goals exact ⟨by simp [*],rfl⟩
theorem jkS {cl:Nat->Call} (hcl:Sem cl) {d:Nat} (hd:2<=d) (b:Nat) (s:Int) (h:H):cl d (.fn 52) [.p b 0,.i s] h=some (.i (if sig? s then 0 else 100),h):=by
 refine jao (aT hcl ?_)
 refine qo ?_
 refine zaw rfl (sp_is hcl om s h) ?_
 repeat' (first|refine qoy ?_|(refine zsp ?_ ?_<;>intro _)|fail)
 all_goals exact ⟨by simp [*],rfl⟩
structure Tb where
 hd:Nat->Bool
 pd:Nat->Int
def Tb.obj (t:Tb):Obj := .cells (sgc t.hd t.pd) false
def Tb.zero:Tb:=⟨fun _=>false,fun _=>0⟩
def Tb.handle (t:Tb) (s:Int) (on:Bool):Tb :=
 if sig? s then ⟨fun j=>if j=s.toNat then on else t.hd j,if on then t.pd else fun j=>if j=s.toNat then 0 else t.pd j⟩ else t
def Tb.raise (t:Tb) (s:Int):Tb :=
 if sig? s/\t.hd s.toNat=true then ⟨t.hd,fun j=>if j=s.toNat then t.pd j+1 else t.pd j⟩ else t
theorem sp_raise {cl:Nat->Call} (hcl:Sem cl) {d b:Nat} {h:H} {t:Tb} (hd:3<=d) (hb:h.get b=some t.obj) (s:Int) (hp : ∀ k,0<=t.pd k/\t.pd k<=1000000) :
  ∃ h',cl d (.fn 100) [.p b 0,.i s] h=some (.i (if sig? s then 0 else 100),h')/\Upd b (t.raise s).obj h h':=by
 refine jak (aT hcl ?_)
 have hm:=jkS hcl (d:=d-1) om b s h
 unfold Tb.obj at hb
 by_cases hs:sig? s
 ·rw [zC hs] at hm ⊢
  obtain ⟨s1,s2⟩:=hs
  have hp:=hp s.toNat
  refine qo ?_
  refine zaw rfl hm ?_
  refine qo ?_
  refine Ops.load1 rfl hb (jmd (k:=s.toNat) om om) ?_
  repeat' (first|refine qoy ?_|(refine zsp ?_ ?_<;>intro _)|fail)
  ·refine Ops.load1 rfl hb (jkW (k:=s.toNat) om om) ?_
   refine qo ?_
   refine Ops.load1 rfl hb (jkW (k:=s.toNat) om om) ?_
   refine qo ?_
   refine zcs rfl rfl rfl hb (by rw [jke];omega) ?_
   rw [jkd (k:=s.toNat) om]
   refine qo ?_
   refine ⟨rfl,?_⟩
   rw [Tb.raise,zC ⟨⟨s1,s2⟩,by assumption⟩,show min 1 (2147483647-t.pd s.toNat)=1 by omega]
   have:(fun j=>if j=s.toNat then t.pd s.toNat+1 else t.pd j)=fun j=>if j=s.toNat then t.pd j+1 else t.pd j:=by
    funext j;by_cases e:j=s.toNat<;>simp [e]
   rw [this]
   exact Upd.set
  ·refine ⟨rfl,?_⟩
   rw [Tb.raise,zz (fun x=>by simp_all)]
   exact Upd.refl hb
 ·rw [zz hs] at hm ⊢
  refine qo ?_
  refine zaw rfl hm ?_
  refine qo ?_
  refine ⟨rfl,?_⟩
  rw [Tb.raise,zz (fun x=>hs x.1)]
  exact Upd.refl hb
def Tb.cnt (t:Tb) (s:Int):Int:=if sig? s then t.pd s.toNat else 0
def Tb.has (t:Tb) (s:Int):Bool:=decide (sig? s)&&t.hd s.toNat
theorem jjz {cl:Nat->Call} (hcl:Sem cl) {d b:Nat} {h:H} {t:Tb} (hd:3<=d) (hb:h.get b=some t.obj) (s:Int):cl d (.fn 30) [.p b 0,.i s] h=some (.i (t.cnt s),h):=by
 refine jao (aT hcl ?_)
 have hm:=jkS hcl (d:=d-1) om b s h
 unfold Tb.obj at hb
 by_cases hs:sig? s
 ·rw [zC hs] at hm
  obtain ⟨s1,s2⟩:=hs
  refine qo ?_
  refine zaw rfl hm ?_
  refine qo ?_
  refine Ops.load1 rfl hb (jkW (k:=s.toNat) om om) ?_
  refine qo ?_
  exact ⟨by rw [Tb.cnt,zC ⟨s1,s2⟩],rfl⟩
 ·rw [zz hs] at hm
  refine qo ?_
  refine zaw rfl hm ?_
  refine qo ?_
  exact ⟨by rw [Tb.cnt,zz hs],rfl⟩
theorem jjP:List.replicate 32 (V.bool false)++List.replicate 32 (V.i 0)=sgc (fun _=>false) (fun _=>0):=by
 rw [jd6,jd6];rfl
theorem sp_new {cl:Nat->Call} (hcl:Sem cl) {d:Nat} (hd:1<=d) (h:H):cl d (.fn 18) [] h=some (.p h.nx 0,h.new Tb.zero.obj):=by
 refine jao (aT hcl ?_)
 refine qo ?_
 refine zcu rfl rfl ?_
 refine qo ?_
 exact ⟨rfl,by rw [Tb.obj,Tb.zero,<- jjP];rfl⟩
theorem cnt_nat (t:Tb) {k:Nat} (hk:k<32):t.cnt (k:Int)=if k=0 then 0 else t.pd k:=by
 unfold Tb.cnt
 by_cases h0:k=0
 ·subst h0;simp
 ·rw [zC ⟨by omega,by omega⟩,zz h0];rfl
theorem jiK {cl:Nat->Call} (hcl:Sem cl) {d L c b:Nat} {t:Tb} (hd:5<=d) (I:Nat->H->Prop)
  (hc : ∀ k h,I k h->h.get c=some (.cells [.p b 0] false)/\h.get b=some t.obj)
  (hs : ∀ k h,k<32->I k h->(k=0\/t.pd k=0)->I (k+1) h)
  (hy : ∀ k h,k<32->k≠0->t.pd k≠0->I k h -> ∃ h',cl (d-1) (.yld L) [.agg [.i k,.i (t.pd k)]] h=some (.bool true,h')/\I (k+1) h')
  {h:H} (h0:I 0 h) : ∃ v h',cl d (.fn 121) [.yld L,.p c 0] h=some (v,h')/\I 32 h':=by
 refine aT hcl ?_
 refine qo ?_
 refine Zl (fun m e h=>∃ k:Nat,m=32-k/\k<=32/\e=[(0,.yld L),(1,.p c 0),(5,.i k)]/\I k h) (k:=32) (by decide) ⟨0,rfl,by omega,rfl,h0⟩ ?_
 rintro _ _ h ⟨k,rfl,hk,rfl,hI⟩ n ih
 obtain ⟨hc1,hb1⟩:=hc k h hI
 repeat' (first|refine qoy ?_|(refine zsp ?_ ?_<;>intro _)|fail)
 ·refine Ops.load1 rfl hc1 rfl ?_
  refine qo ?_
  have hcn:=jjz hcl (d:=d-1) om hb1 k
  rw [cnt_nat t om] at hcn
  refine zaw rfl hcn ?_
  by_cases hz:k=0\/t.pd k=0
  ·have e0:(if k=0 then (0:Int) else t.pd k)=0:=by rcases hz with hz | hz<;>simp [hz]
   rw [e0]
   refine qo ?_
   exact ih (32-(k+1)) om _ _ ⟨k+1,rfl,by omega,rfl,hs k h om hI hz⟩
  ·have hz1:k≠0:=fun e=>hz (.inl e)
   have hz2:t.pd k≠0:=fun e=>hz (.inr e)
   rw [zz hz1]
   refine qo ?_
   obtain ⟨h2,hy1,hy2⟩:=hy k h om hz1 hz2 hI
   refine Ops.yield rfl rfl hy1 ?_
   refine qo ?_
   exact ih (32-(k+1)) om _ _ ⟨k+1,rfl,by omega,rfl,hy2⟩
 ·have:k=32:=by omega
  subst this
  exact hI
theorem sp_counts {cl:Nat->Call} (hcl:Sem cl) {d b:Nat} {h:H} (hd:1<=d):cl d (.fn 116) [.p b 0] h=some (.clo 121 [.p h.nx 0],h.new (.cells [.p b 0] false)):=by
 refine jao (aT hcl ?_)
 refine qo ?_
 refine zcu rfl rfl ?_
 refine qo ?_
 exact ⟨rfl,rfl⟩
def Tb.sum (t:Tb):Nat->Int
 | 0=>0
 | k+1=>if k=0\/t.pd k=0 then t.sum k else t.sum k+t.pd k
def Tb.ok (t:Tb) (n:Int):Prop := ∀ k,0<=t.pd k/\t.pd k<=n
theorem Tb.sum_le {t:Tb} {n:Int} (ht:t.ok n) : ∀ k:Nat,0<=t.sum k/\t.sum k<=k*n
 | 0=>by simp [Tb.sum]
 | k+1=>by
  have h1:=Tb.sum_le ht k
  have h2:=ht k
  unfold Tb.sum
  have e:((k+1:Nat):Int)*n=k*n+n:=by simp [Int.add_mul]
  split<;>omega
theorem jka {cl:Nat->Call} (hcl:Sem cl) {d b:Nat} {h0:H} {t:Tb} (hd:8<=d) (hb:h0.get b=some t.obj) (hlt:b<h0.nx) (ht:t.ok 1000000) :
  ∃ h',cl d (.fn 112) [.p b 0] h0=some (.i (t.sum 32),h')/\Ch (fun _=>False) h0 h':=by
 refine jak (aT hcl ?_)
 refine qo ?_
 refine zcu rfl rfl ?_
 refine qo ?_
 refine zcs rfl rfl rfl (jac _) Zd ?_
 refine qo ?_
 refine zaw rfl (sp_counts hcl om) ?_
 refine qo ?_
 refine Run.rangeFunc_lo rfl qkp fun LO hLO=>?_
 obtain ⟨v,h',hc,k1,k2,k3,k4,k5,k6⟩:=jiK hcl (d:=d-1) (L:=h0.nx+2) (c:=h0.nx+1) (b:=b) (t:=t) om
  (fun k h=>h.get h0.nx=some (.cells [.i (t.sum k)] false)/\h.get (h0.nx+1)=some (.cells [.p b 0] false)/\h.get (h0.nx+2)=some (LO .ready none)/\h.get b=some t.obj/\h0.nx+3<=h.nx /\ ∀ j,j<h0.nx->h.get j=h0.get j)
  (fun k h hI=>⟨hI.2.1,hI.2.2.2.1⟩)
  (fun k h _ hI hz=>by rw [Tb.sum,zC hz];exact hI)
  (by
   intro k g hk hk0 hk1 ⟨g1,g2,g3,g4,g5,g6⟩
   have hs:=Tb.sum_le ht k
   have hpk:=ht k
   have hk32:(k:Int)*1000000<=32000000:=by omega
   refine jak (yl_ hcl om hLO g3 rfl ?_)
   refine qo ?_
   refine zcu rfl rfl ?_
   refine qo ?_
   refine zct rfl rfl rfl rfl (jac _) Zd ?_
   refine qo ?_
   refine End.nil ⟨rfl,qgt,?_⟩
   refine qo ?_
   refine Ops.load1 rfl (l:=[.i (t.sum k)]) (ro:=false) qgt rfl ?_
   refine qo ?_
   refine Ops.load1 rfl (l:=[.i k,.i (t.pd k)]) (ro:=false) qgt rfl ?_
   refine qo ?_
   refine zcs rfl rfl rfl (l:=[.i (t.sum k)]) qgt Nat.zero_lt_one ?_
   refine qo ?_
   refine End.nil ⟨⟨.busy,none,qgt⟩,rfl,?_⟩
   rw [Tb.sum,zz om]
   refine ⟨qgt,qgt,qgt,qgt,?_,?_⟩
   ·simp;omega
   ·intro j hj
    have:=g6 j hj
    exact qgt)
  (h:=(((h0.new (.cells [.i 0] false)).set h0.nx (.cells [.i 0] false)).new (.cells [.p b 0] false)).new (LO .ready none))
  (by
   refine ⟨qgt,qgt,qgt,qgt,?_,?_⟩
   ·simp
   ·intro j hj
    exact qgt)
 refine ⟨v,h',hc,.normal,k3,?_⟩
 refine qo ?_
 refine Ops.load1 rfl (l:=[.i (t.sum 32)]) (ro:=false) qgt rfl ?_
 refine qo ?_
 refine ⟨rfl,?_,?_⟩
 ·simp;omega
 ·intro j hj _
  have:=k6 j hj
  exact qgt
abbrev ints (l:List Int):List V:=l.map V.i
def Tb.take (t:Tb):Tb:=⟨t.hd,fun j=>if 1<=j/\j<32 then 0 else t.pd j⟩
def Old (h h':H):Prop:=h.nx<=h'.nx /\ ∀ j,j<h.nx->h'.get j=h.get j
theorem Old.refl (h:H):Old h h:=⟨zp _,fun _ _=>rfl⟩
theorem Old.trans {h h1 h2:H} (a:Old h h1) (b:Old h1 h2):Old h h2:=⟨zx a.1 b.1,fun j hj=>by rw [b.2 j (zq hj a.1),a.2 j hj]⟩
theorem Old.ch {h h':H} {B:Nat->Prop} (a:Old h h'):Ch B h h':=⟨a.1,fun j hj _=>a.2 j hj⟩
theorem RW.old {h h':H} {rw q:Nat} {l:List RX} {tl:List V} (w:RW h rw q l tl) (a:Old h h'):RW h' rw q l tl :=
 ⟨zq w.lw a.1,zq w.lq a.1,w.ne,fun hl=>⟨by rw [a.2 _ w.lw,(w.at_ hl).hw],by rw [a.2 _ w.lq,(w.at_ hl).hq],w.ne⟩,fun hl=>by rw [a.2 _ w.lw,w.nil hl],fun s hs=>(w.ok s hs).keep a.ch⟩
noncomputable def jar (ws:Ws) (n:Nat):List Int:=((List.range n).filter fun i:Nat=>(atS ws (i:Int)).isNone).map fun i:Nat=>(i:Int)
theorem jer (ws:Ws) (n:Nat):jar ws (n+1)=jar ws n++if (atS ws (n:Int)).isNone then [(n:Int)] else []:=by
 unfold jar
 rw [List.range_succ,List.filter_append,List.map_append]
 congr 1
 by_cases h:(atS ws (n:Int)).isNone<;>simp [h]
theorem freeL_len (ws:Ws) (n:Nat):(jar ws n).length<=n:=by
 unfold jar
 rw [List.length_map]
 exact zx (List.length_filter_le _ _) Zd
theorem VI.ofRow {h:H} {v:V} {l:List Int} {N:Nat} (r:Row N h 1 v l.length (ints l)):VI h v l /\ ∀ z,v.at?=some z->N<=z/\z<h.nx:=by
 refine ⟨?_,fun z hz=>r.at_ge hz⟩
 rcases r with ⟨h1,h2,rfl⟩ | ⟨b,h1,h2,rfl,h4,h5⟩
 ·have:l=[]:=by simpa using h1
  subst this;exact VI.nil h
 ·exact ⟨_,_,rfl,fun e=>by (cases e),rfl,fun _=>⟨b,0,_,false,rfl,h2,h4,fun i x hi=>by rw [zN,List.getElem?_map,hi];rfl⟩⟩
section
variable {cl:Nat->Call} (hcl:Sem cl)
include hcl
end
abbrev Zn:=@Old.refl
section
variable {cl:Nat->Call} (hcl:Sem cl)
include hcl
theorem jjs {d w s wsb wn n wb r0 r1:Nat} {h:H} {wl wsl:List V} {wcap:Cap} {x:Wi} {wv:V} (hd:2<=d) (A:WAt h w wl s wsb wn wcap wsl) (hn:n<wn) (hat:wsl[n]?=some (.p wb 0)) (hx:h.get wb=some (x.obj r0 r1 wv)) (h2:x.e1.what=2) :
  cl d (.fn 93) [.p w 0,.i (n:Int)] h=some (.tup [.p wb 0,.i 0],h):=by
 obtain ⟨hw,hs,hws,hb⟩:=A
 refine jao (aT hcl ?_)
 have hno:=jiB hcl (d:=d-1) om hw hs
 have f1:wsl[0+(n:Int).toNat*1]?=some (.p wb 0):=by rw [show 0+(n:Int).toNat*1=n by omega];exact hat
 have f2:(x.cells r0 r1 wv)[0+0+(1:Int).toNat*7+0]?=some (.i 2):=by rw [<- h2];exact Wi.what_cell (k:=1) (.inr rfl) rfl
 unfold Wi.obj at hx
 refine qx ?_
 exact ⟨rfl,rfl⟩
theorem wp_Put {d w s wsb wn n wb r0 r1 b:Nat} {h0:H} {wl wsl:List V} {wcap:Cap} {x:Wi} {wv:V} {q l:List UInt8} {a:Option (Nat × Nat)} {c:Cap} (hd:8<=d) (A:WAt h0 w wl s wsb wn wcap wsl) (hn:n<wn) (hat:wsl[n]?=some (.p wb 0)) (hx:h0.get wb=some (x.obj r0 r1 wv))
  (h2:x.e1.what=2) (hr:x.reset=false) (hs1:x.e1.shut=false) (h3:x.e0.what≠3) (hq:x.e0.ring=some q) (R:jaw h0 r0 b q x.cap) (l1:wb<h0.nx) (l2:r0<h0.nx) (l3:b<h0.nx) (n1:r0≠b) (n2:wb≠r0) (n3:wb≠b) (hl:BytesAt h0 a c l) (hll:l.length<=1000000000)
  (hne : ∀ z o,a=some (z,o)->l≠[]->z≠b/\z≠r0) :
  ∃ h',cl d (.fn 71) [.p w 0,.i (n:Int),.slice a l.length c] h0=some (.tup [.i ((min l.length (x.cap-q.length):Nat):Int),.i 0],h')/\h'.get wb=some ((x.fill 1 (min l.length (x.cap-q.length)) q l).obj r0 r1 wv) /\
   jaw h' r0 b (q++l.take (min l.length (x.cap-q.length))) x.cap/\Ch (fun j=>j=wb\/j=r0\/j=b) h0 h':=by
 have ho:=jjs hcl (d:=d-1) om A hn hat hx h2
 obtain ⟨h1,e1,p1,p2,p3⟩:=jlW hcl (d:=d-1) (k:=1) om hx (.inr rfl) hq R l1 l2 l3 n1 n2 n3 hl hll hne
 have f1:(x.cells r0 r1 wv)[0+14]?=some (.bool false):=by rw [<- hr];exact Wi.reset_cell rfl
 have f2:(x.cells r0 r1 wv)[0+0+(1:Int).toNat*7+4]?=some (.bool false):=by rw [<- hs1];exact Wi.shut_cell (k:=1) (.inr rfl) rfl
 have f3:(x.cells r0 r1 wv)[0+0+(0:Int).toNat*7+0]?=some (.i x.e0.what):=Wi.what_cell (k:=0) (.inl rfl) rfl
 unfold Wi.obj at hx
 refine jak (aT hcl ?_)
 refine qx ?_
 exact ⟨rfl,p1,p2,p3⟩
theorem wp_Take {d w s wsb wn n wb r0 r1 b:Nat} {h0:H} {wl wsl:List V} {wcap:Cap} {x:Wi} {wv:V} {q:List UInt8} {t:Int} (hd:9<=d) (A:WAt h0 w wl s wsb wn wcap wsl) (hn:n<wn) (hat:wsl[n]?=some (.p wb 0)) (hx:h0.get wb=some (x.obj r0 r1 wv))
  (h2:x.e1.what=2) (hr:x.reset=false) (ht:0<=t) (hq:x.e1.ring=some q) (R:jaw h0 r1 b q x.cap) (l1:wb<h0.nx) (l2:r1<h0.nx) (l3:b<h0.nx) (n1:r1≠b) (n2:wb≠r1) (n3:wb≠b) :
  ∃ v h',cl d (.fn 72) [.p w 0,.i (n:Int),.i t] h0=some (.tup [v,.i 0],h')/\Row h0.nx h' 1 v (min t q.length).toNat (bts (q.take (min t q.length).toNat))/\((min t q.length).toNat=0->v = .nils)/\h'.get wb=some ((x.take 1 (min t q.length).toNat q).obj r0 r1 wv) /\
   jaw h' r1 b (q.drop (min t q.length).toNat) x.cap/\Ch (fun j=>j=wb\/j=r1) h0 h':=by
 have ho:=jjs hcl (d:=d-1) om A hn hat hx h2
 obtain ⟨v,h1,e1,row,hnil,p1,p2,p3⟩:=xp_take hcl (d:=d-1) (k:=1) (n:=t) om hx (.inr rfl) hq R l1 l2 l3 n1 n2 n3
 have f1:(x.cells r0 r1 wv)[0+14]?=some (.bool false):=by rw [<- hr];exact Wi.reset_cell rfl
 unfold Wi.obj at hx
 suffices ∃ v2 h',cl d (.fn 72) [.p w 0,.i (n:Int),.i t] h0=some (v2,h')/\v2 = .tup [v,.i 0]/\h'=h1 by
  obtain ⟨v2,h',q1,q2,q3⟩:=this
  subst q2 q3
  exact ⟨v,h',q1,row,hnil,p1,p2,p3⟩
 refine aT hcl ?_
 refine qx ?_
 exact ⟨rfl,rfl⟩
end
section
variable {cl:Nat->Call} (hcl:Sem cl)
include hcl
end
end Am.Sigs
