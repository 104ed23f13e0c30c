/- Our own library, part 14. -/
import Derived.KernelRfl
import Derived.Test.YtafdknfdmlknfaaGreatH11
import Derived.Test.YtafdknfdmlknfaaGreatH10
import Derived.Test.YtafdknfdmlknfaaGreatH13
set_option maxHeartbeats 8000000
set_option maxRecDepth 800
set_option linter.all false
namespace Am.Sigs
open Am Go
abbrev fuel:Nat:=100000
def Sem (cl:Nat->Call):Prop := ∀ d,cl d=jbF prog fuel d
theorem at_ {cl:Nat->Call} (hcl:Sem cl) {d f:Nat} {fn:AFn} {args:List V} {h:H} {R:V->H->Prop} (hd:0<d) (hp:jd2 prog.prims f=none) (hf:jd2 prog.fns f=some fn) (hl:(args.length == fn.np)=true)
  (k:Run (cl (d-1)) fuel fn.body [] (Env.ofArgs args 0) h (Fin fn.res R)) : ∃ v h',cl d (.fn f) args h=some (v,h')/\R v h':=by
 rw [hcl d];rw [hcl (d-1)] at k;exact callN_at hd hp hf hl k
theorem aT {cl:Nat->Call} (hcl:Sem cl) {d f:Nat} {fn:AFn} {args:List V} {h:H} {R:V->H->Prop} (k:Run (cl (d-1)) fuel fn.body [] (Env.ofArgs args 0) h (Fin fn.res R)) (hd:0<d:=by omega) (hp:jd2 prog.prims f=none:=by exact rfl) (hf:jd2 prog.fns f=some fn:=by exact rfl) (hl:(args.length==fn.np)=true:=by exact rfl):∃ v h',cl d (.fn f) args h=some (v,h') /\ R v h':=at_ hcl hd hp hf hl k
theorem yl_ {cl:Nat->Call} (hcl:Sem cl) {d l:Nat} {args:List V} {h:H} {R:V->H->Prop} {ps:List Nat} {env e0:Env} {assign body:AC} {LO:LoopState->Option Ex->Obj} (hd:0<d)
  (hLO:LO=(fun st pd=>.loop st pd ps env assign body)) (hl:h.get l=some (LO .ready none)) (he:jdI env ps args=some e0)
  (k:Run (cl (d-1)) fuel assign [] e0 h fun x e1 h1=>x = .normal/\h1.get l=some (LO .ready none) /\
   Run (cl (d-1)) fuel body [] e1 (h1.set l (LO .busy none)) fun ex _ h3=>(∃ st3 pd3,h3.get l=some (LO st3 pd3))/\R (.bool ex.goes) (h3.set l (LO ex.st ex.pend))) :
  ∃ v h',cl d (.yld l) args h=some (v,h')/\R v h':=by
 rw [hcl d];rw [hcl (d-1)] at k;exact yield_lo hd hLO hl he k
theorem prim_ {cl:Nat->Call} (hcl:Sem cl) {d f:Nat} {p:Prim} {args:List V} {h:H} (hd:0<d) (hp:jd2 prog.prims f=some p):cl d (.fn f) args h=p args h:=by
 rw [hcl d]
 cases d with
 | zero=>omega
 | succ d=>simp only [jbF,hp]
theorem same_in {cl:Nat->Call} (hcl:Sem cl) {d:Nat} {t:Tgt} {args:List V} {h h' h2:H} {v:V} {X:Nat->Option Obj} (hr:jbF prog fuel d t args h=some (v,h')) (x:Ext X h h2) : ∃ h2',cl d t args h2=some (v,h2')/\Ext X h' h2':=by
 rw [hcl d];exact (jhP primsF fuel d).1 _ _ _ _ _ hr _ _ x
theorem ext_all {h:H} (hwf : ∀ j,h.nx<=j->h.get j=none):Ext h.get ⟨h.nx,.lf⟩ h :=
 ⟨rfl,fun j=>by simp [H.get,T.get],fun j hj=>⟨by
  rcases zA j h.nx with h1 | h1
  ·exact h1
  ·exact zM (hwf j h1) hj,rfl⟩⟩
def ran (r:Option (V × H)) (p:V->H->Bool):Bool:=match r with
 | some (v,h')=>p v h'
 | none=>false
theorem ran_ex {r:Option (V × H)} {p:V->H->Bool} (hr:ran r p=true) : ∃ v h',r=some (v,h')/\p v h'=true:=by
 cases r with
 | none=>cases hr
 | some x=>exact ⟨x.1,x.2,rfl,hr⟩
def jnQ:V->Bool
 | .bool b=>b
 | _=>false
theorem isTrue_eq {v:V} (h:jnQ v=true):v = .bool true:=by
 cases v<;>simp_all [jnQ]
theorem ext_kept {X:Nat->Option Obj} {h h2:H} (x:Ext X h h2) {j:Nat} {o:Obj} (hj:X j=some o):h2.get j=some o:=by
 rw [x.get,(x.off j (by simp [hj])).2,hj];rfl
def isS:Option Obj->Nat
 | some _=>1
 | none=>0
def up:Nat->Nat
 | 0=>0
 | n+1=>2*n+3
def ttop:T->Nat
 | .lf=>0
 | .nd v l r=>Nat.max (isS v) (Nat.max (2*(ttop l)) (up (ttop r)))
theorem jlf : ∀ (t:T) (k:Nat),(ttop t)<=k->t.get k=none
 | .lf,_,_=>rfl
 | .nd v l r,k,h=>by
  have h1:Nat.max (isS v) (Nat.max (2*(ttop l)) (up (ttop r)))<=k:=h
  have a1:=zE (Nat.le_max_left _ _) h1
  have a2:=zE (Nat.le_max_left _ _) (zE (Nat.le_max_right _ _) h1)
  have a3:=zE (Nat.le_max_right _ _) (zE (Nat.le_max_right _ _) h1)
  rw [T.get_nd]
  by_cases k0:k=0
  ·subst k0
   rw [zG rfl]
   cases v with
   | none=>rfl
   | some _=>simp [isS] at a1
  ·rw [zF k0]
   by_cases ko:k%2=1
   ·rw [zG ko];exact jlf l _ om
   ·rw [zF ko]
    refine jlf r _ ?_
    cases e:(ttop r) with
    | zero=>omega
    | succ n=>rw [e] at a3;simp [up] at a3;omega
end Am.Sigs
namespace Am
open Go
theorem jbn {e:Env} {h:H} : jaO e h []=true:=rfl
theorem jaN {e:Env} {h:H} {d:Nat} {a:Opd} {g:Option (Nat × Bool)} {r:List (Nat × I × Option (Nat × Bool))} {b o:Nat} {l:List V} {ro:Bool} {v:V} (ha:a.ev e=some (.ptr (some (b,o)))) (hb:h.get b=some (.cells l ro)) (hv:l[o]?=some v)
  (hd:e.get d=some v) (k:jaO e h r=true):jaO e h ((d,.load1 a,g) :: r)=true:=by
 simp only [jaO,I.read,ha,jcQ hb hv,hd,V.same_refl,k,Bool.and_true]
 cases wanted e g<;>rfl
section
variable {call:Call} {fuel base:Nat} {K:List Fr} {e:Env} {h h':H} {Q:Post} {ix:Nat} {dst:Option Nat} {ops:List Ins} {keep:List Nat} {at_:Option Nat} {c:List (Nat × I × Option (Nat × Bool))}
theorem Ops.callf_chk {f:FuncId} {args:List Opd} {vs:List V} {v:V} (ha:evs e args=some vs) (hc:call (.fn f) vs h=some (v,h')) (hk:jaO e h' c=true) (k:Ops call fuel base ops keep K (layv e dst v) h' Q) :
  Ops call fuel base (⟨ix,dst,.call f args,none,at_,c⟩ :: ops) keep K e h Q :=
 Ops.step_chk (Zw rfl (by simp only [I.eff,ha,hc])) hk k
theorem Ops.storeN_chk {a x:Opd} {b o n:Nat} {l vs:List V} (ha:a.ev e=some (.ptr (some (b,o)))) (hx:x.ev e=some (.agg vs)) (hl:vs.length=n) (h1:vs.all V.one=true) (hb:h.get b=some (.cells l false)) (hn:o+n<=l.length)
  (hk:jaO e (h.set b (.cells (jat l o vs) false)) c=true) (k:Ops call fuel base ops keep K (layv e dst .undef) (h.set b (.cells (jat l o vs) false)) Q):Ops call fuel base (⟨ix,dst,.store n a x,none,at_,c⟩ :: ops) keep K e h Q:=by
 subst hl
 refine Ops.step_chk (Zw rfl ?_) hk k
 simp only [I.eff,ha,hx,V.cells,jfs hb hn h1,beq_self_eq_true,cond_true]
theorem Ops.store1_chk {a x:Opd} {b o:Nat} {l:List V} {v:V} (ha:a.ev e=some (.ptr (some (b,o)))) (hx:x.ev e=some v) (h1:v.one=true) (hb:h.get b=some (.cells l false)) (hn:o<l.length)
  (hk:jaO e (h.set b (.cells (l.set o v) false)) c=true) (k:Ops call fuel base ops keep K (layv e dst .undef) (h.set b (.cells (l.set o v) false)) Q):Ops call fuel base (⟨ix,dst,.store 1 a x,none,at_,c⟩ :: ops) keep K e h Q:=by
 have hc:v.cells=[v]:=by cases v<;>first | rfl | (simp [V.one] at h1)
 refine Ops.step_chk (Zw rfl ?_) hk k
 have hs:=jfs (o:=o) (vs:=[v]) hb (by simp only [List.length_singleton];omega) (by simp [h1])
 simp only [I.eff,ha,hx,hc,hs]
 rfl
theorem jnc {l:List V} (h : ∀ (i:Nat) (v:V),l[i]?=some v->v.one=true):l.all V.one=true:=by
 rw [zV]
 intro v hv
 obtain ⟨i,hi⟩:=List.getElem?_of_mem hv
 exact h i v hi
theorem copyV_of {sz d:Nat} {db dof m:Nat} {cd cs2:Cap} {sb so ln:Nat} {ld ls new:List V} {ro:Bool} (hn:d=Nat.min ln m) (h0:0<d*sz) (hs:h.get sb=some (.cells ls ro)) (hsl:so+d*sz<=ls.length) (hnew:(ls.drop so).take (d*sz)=new)
  (hone:new.all V.one=true) (hd:h.get db=some (.cells ld false)) (hdl:dof+d*sz<=ld.length) :
  jjo h sz (.slice (some (db,dof)) m cd) (.slice (some (sb,so)) ln cs2)=some (.i d,h.set db (.cells (jat ld dof new) false)):=by
 have hlen:new.length=d*sz:=by rw [<- hnew];simp;omega
 have h1:(d*sz == 0)=false:=by simp;omega
 have hne:new.isEmpty=false:=by cases new<;>simp_all
 simp only [jjo,lenOf,<- hn,ja2,h1,cond_false,jdc hs hsl,hnew,hne]
 rw [jfs hd om hone]
theorem Ops.copy_chk {sz d:Nat} {x y:Opd} {db dof m:Nat} {cd cs2:Cap} {sb so ln:Nat} {ld ls new:List V} {ro:Bool} (hx:x.ev e=some (.slice (some (db,dof)) m cd)) (hy:y.ev e=some (.slice (some (sb,so)) ln cs2)) (hn:d=Nat.min ln m) (h0:0<d*sz)
  (hs:h.get sb=some (.cells ls ro)) (hsl:so+d*sz<=ls.length) (hnew:(ls.drop so).take (d*sz)=new) (hone:new.all V.one=true) (hd:h.get db=some (.cells ld false)) (hdl:dof+d*sz<=ld.length)
  (hk:jaO e (h.set db (.cells (jat ld dof new) false)) c=true) (k:Ops call fuel base ops keep K (layv e dst (.i d)) (h.set db (.cells (jat ld dof new) false)) Q) :
  Ops call fuel base (⟨ix,dst,.copy sz x y,none,at_,c⟩ :: ops) keep K e h Q :=
 Ops.step_chk (Zw rfl (by simp only [I.eff,hx,hy,copyV_of hn h0 hs hsl hnew hone hd hdl])) hk k
theorem Ops.remN {x y:Opd} {kd:IntKind} {a b:Nat} (hx:x.ev e=some (.int kd (a:Int))) (hy:y.ev e=some (.int kd (b:Int))) (hb:0<b) (k:Ops call fuel base ops keep K (layv e dst (.int kd ((a%b:Nat):Int))) h Q) :
  Ops call fuel base (⟨ix,dst,.bin .rem x y,none,at_,[]⟩ :: ops) keep K e h Q:=by
 refine zau rfl ?_ k
 have h0:((b:Int) == 0)=false:=by simp;omega
 have h1:((a:Int).tmod (b:Int))=((a%b:Nat):Int):=by rw [Zj om];simp
 simp only [I.pure,hx,hy,binOp,jbV,jdw,beq_self_eq_true,Bool.or_true,cond_true,h0,cond_false,h1]
def Cap.less:Cap->Nat->Cap
 | .fix k,l=>.fix (k-l)
 | .grow q,_=>.grow q
def Cap.fits:Cap->Nat->Nat->Prop
 | .fix k,n,_=>n<=k
 | .grow q,_,sz=>q=sz
theorem jgR {n m:Nat} (h:n<=m):upto (n:Int) m=true:=by
 show upto (Int.ofNat n) m=true
 simp [upto,h]
theorem slc_b {len l r:Nat} {cap:Cap} {sz:Nat} (h1:l<=r) (h2:r<=len) (hf:cap.fits len sz):jbR len (cap.room len) (some (.i (l:Int))) (some (.i (r:Int))) none=some (l,r,cap.room len):=by
 have hc:r<=cap.room len:=by
  cases cap with
  | fix k=>exact zE h2 hf
  | grow q=>exact h2
 simp only [jbR,slcM,slcH,slcL,sB,asInt,jgR hc,jgR h1,cond_true,zz,Option.isSome_none]
theorem slc_h {len r:Nat} {cap:Cap} {sz:Nat} (h2:r<=len) (hf:cap.fits len sz):jbR len (cap.room len) none (some (.i (r:Int))) none=some (0,r,cap.room len):=by
 have hc:r<=cap.room len:=by
  cases cap with
  | fix k=>exact zE h2 hf
  | grow q=>exact h2
 simp only [jbR,slcM,slcH,slcL,sB,asInt,jgR hc,cond_true,zz,Option.isSome_none]
theorem slc_l {len l:Nat} {cap:Cap} (h1:l<=len):jbR len (cap.room len) (some (.i (l:Int))) none none=some (l,len,cap.room len):=by
 simp only [jbR,slcM,slcH,slcL,sB,asInt,jgR h1,cond_true,zz,Option.isSome_none,cond_false]
theorem Ops.slice_b {sz b o len l r:Nat} {cap:Cap} {x lo hi:Opd} (hx:x.ev e=some (.slice (some (b,o)) len cap)) (hlo:lo.ev e=some (.i (l:Int))) (hhi:hi.ev e=some (.i (r:Int))) (h1:l<=r) (h2:r<=len) (hf:cap.fits len sz)
  (k:Ops call fuel base ops keep K (layv e dst (.slice (some (b,o+l*sz)) (r-l) (cap.less l))) h Q):Ops call fuel base (⟨ix,dst,.slice sz x (some lo) (some hi) none,none,at_,[]⟩ :: ops) keep K e h Q:=by
 refine zau rfl ?_ k
 simp only [I.pure,hx,evo,hlo,hhi,slc_b h1 h2 hf]
 cases cap with
 | fix k=>rfl
 | grow q=>have hq:q=sz:=hf;subst hq;simp [Cap.less]
theorem Ops.slice_h {sz b o len r:Nat} {cap:Cap} {x hi:Opd} (hx:x.ev e=some (.slice (some (b,o)) len cap)) (hhi:hi.ev e=some (.i (r:Int))) (h2:r<=len) (hf:cap.fits len sz)
  (k:Ops call fuel base ops keep K (layv e dst (.slice (some (b,o)) r cap)) h Q):Ops call fuel base (⟨ix,dst,.slice sz x none (some hi) none,none,at_,[]⟩ :: ops) keep K e h Q:=by
 refine zau rfl ?_ k
 simp only [I.pure,hx,evo,hhi,slc_h h2 hf]
 cases cap with
 | fix k=>simp [Cap.room]
 | grow q=>have hq:q=sz:=hf;subst hq;simp
theorem Ops.slice_l {sz b o len l:Nat} {cap:Cap} {x lo:Opd} (hx:x.ev e=some (.slice (some (b,o)) len cap)) (hlo:lo.ev e=some (.i (l:Int))) (h1:l<=len) (hf:cap.fits len sz)
  (k:Ops call fuel base ops keep K (layv e dst (.slice (some (b,o+l*sz)) (len-l) (cap.less l))) h Q):Ops call fuel base (⟨ix,dst,.slice sz x (some lo) none none,none,at_,[]⟩ :: ops) keep K e h Q:=by
 refine zau rfl ?_ k
 simp only [I.pure,hx,evo,hlo,slc_l h1]
 cases cap with
 | fix k=>rfl
 | grow q=>have hq:q=sz:=hf;subst hq;simp [Cap.less]
theorem Ops.mkSliceN {bytes n:Nat} {z:V} {l c':Opd} (hl:l.ev e=some (.i (n:Int))) (hc:c'.ev e=some (.i (n:Int))) (hb:n*bytes<=2 ^ 46) (hn:n<=2 ^ 46)
  (k:Ops call fuel base ops keep K (layv e dst (.slice (some (h.nx,0)) n (.fix n))) (h.new (.cells (List.replicate n z) false)) Q):Ops call fuel base (⟨ix,dst,.mkSlice 1 bytes [z] l c',none,none,[]⟩ :: ops) keep K e h Q:=by
 refine zcu (ob := .cells (List.replicate n z) false) (mk:=fun b=>.slice (some (b,0)) n (.fix n)) rfl ?_ k
 have e1:(Nat.ble n n&&Nat.ble (n*bytes) (2 ^ 46)&&Nat.ble n (2 ^ 46))=true:=by
  simp only [zq,zT];omega
 have e2 : ∀ n,(List.replicate n [z]).flatten=List.replicate n z:=by
  intro n
  induction n with
  | zero=>rfl
  | succ n ih=>rw [List.replicate_succ,Zh,ih];rfl
 have e3:(V.i (n:Int))=V.int .i64 (Int.ofNat n):=rfl
 simp only [I.make,hl,hc,e3,e1,cond_true,e2]
end
theorem jfj {N sz bytes n m sb so:Nat} {h:H} {v:V} {cs new ls:List V} {cap:Cap} {ro:Bool} (r:Row N h sz v n cs) (hN:N<=h.nx) (hm:0<m) (hs:h.get sb=some (.cells ls ro)) (hsl:so+m*sz<=ls.length) (hnew:(ls.drop so).take (m*sz)=new) (h1:new.all V.one=true) (hz:1<=sz)
  (hb:(n+m)*bytes<=2 ^ 46) (hn:n+m<=2 ^ 46) :
  ∃ v' h',jaK h sz bytes v (.slice (some (sb,so)) m cap)=some (v',h')/\Row N h' sz v' (n+m) (cs++new)/\h'.nx=h.nx+1/\v'.at?=some h.nx /\ ∀ j,j<h.nx->v.at?≠some j->h'.get j=h.get j:=by
 have hlen:new.length=m*sz:=by rw [<- hnew];simp;omega
 have hms:0<m*sz:=Nat.mul_pos hm hz
 have hsrc:ja2 h sz m (.slice (some (sb,so)) m cap)=some new:=by
  have:(m*sz == 0)=false:=by simp;omega
  simp only [ja2,this,cond_false]
  rw [jdc hs hsl,hnew]
 have hcond:(Nat.ble ((n+m)*bytes) (2 ^ 46)&&Nat.ble (n+m) (2 ^ 46))=true:=by simp only [zq,zT];exact ⟨hb,hn⟩
 have h10:(m == 0)=false:=by simp;omega
 rcases r with ⟨rfl,rfl,rfl⟩ | ⟨q,hq1,hq2,rfl,hq4,hq5⟩
 ·refine ⟨.slice (some (h.nx,0)) m (.grow sz),h.new (.cells new false),?_,.inr ⟨h.nx,hN,by simp,by rw [zS],by rw [jad];rfl,by simp [hlen]⟩,by simp,rfl,fun j hj _=>jac hj⟩
  simp only [jaK,lenOf,hsrc]
  rw [hcond]
  simp only [cond_true,h10,cond_false,newRow]
 ·have hg:(Nat.beq sz sz&&Nat.ble (0+n*sz) cs.length&&new.all V.one)=true:=by
   simp only [zq,zT,h1,and_true]
   exact ⟨Nat.beq_refl _,by omega⟩
  have htk:(cs.drop 0).take (n*sz)=cs:=by rw [zl,zh om]
  refine ⟨.slice (some (h.nx,0)) (n+m) (.grow sz),(h.kill q).new (.cells (cs++new) false),?_,.inr ⟨h.nx,hN,by simp,rfl,?_,?_⟩,by simp,rfl,?_⟩
  ·simp only [jaK,lenOf,hsrc]
   rw [hcond]
   simp only [cond_true,h10,cond_false,hq4]
   rw [hg]
   simp only [cond_true,newRow,htk]
   rfl
  ·exact jad (h:=h.kill q) _
  ·simp [hq5,hlen,Nat.add_mul]
  ·intro j hj hv
   have hjq:j≠q:=fun e=>hv (by subst e;rfl)
   rw [jac (by simpa using hj),jae hjq]
theorem Row.one {N sz n:Nat} {h:H} {v:V} {cs:List V} (r:Row N h sz v n cs):v.one=true:=by
 rcases r with ⟨_,_,rfl⟩ | ⟨q,_,_,rfl,_⟩<;>rfl
theorem Ops.appendN {call:Call} {fuel base:Nat} {K:List Fr} {e:Env} {h:H} {Q:Post} {ix:Nat} {dst:Option Nat} {ops:List Ins} {keep:List Nat} {N sz bytes n m sb so:Nat} {x y:Opd} {sv:V} {cs new ls:List V} {cap:Cap} {ro:Bool}
  (hx:x.ev e=some sv) (hy:y.ev e=some (.slice (some (sb,so)) m cap)) (r:Row N h sz sv n cs) (hN:N<=h.nx) (hm:0<m) (hs:h.get sb=some (.cells ls ro)) (hsl:so+m*sz<=ls.length) (hnew:(ls.drop so).take (m*sz)=new) (h1:new.all V.one=true) (hz:1<=sz)
  (hb:(n+m)*bytes<=2 ^ 46) (hn:n+m<=2 ^ 46)
  (k : ∀ v' h',Row N h' sz v' (n+m) (cs++new)->h'.nx=h.nx+1->v'.at?=some h.nx->(∀ j,j<h.nx->sv.at?≠some j->h'.get j=h.get j)->Ops call fuel base ops keep K (layv e dst v') h' Q) :
  Ops call fuel base (⟨ix,dst,.append sz bytes x y,none,none,[]⟩ :: ops) keep K e h Q:=by
 obtain ⟨v',h',e1,e2,e3,e4,e5⟩:=jfj (bytes:=bytes) (cap:=cap) r hN hm hs hsl hnew h1 hz hb hn
 exact Ops.step (Zw rfl (by simp only [I.eff,hx,hy,e1])) (k v' h' e2 e3 e4 e5)
end Am
namespace Am.Sigs
open Am Go
structure En where
 what:Int
 fd:Int
 ring:Option (List UInt8)
 writes:Bool
 shut:Bool
 inn:Int
 out:Int
def En.ptr:Option (List UInt8)->Nat->V
 | none,_=>.ptr none
 | some _,r=>.p r 0
def En.cells (x:En) (r:Nat):List V:=[.i x.what,.i x.fd,En.ptr x.ring r,.bool x.writes,.bool x.shut,.int .u64 x.inn,.int .u64 x.out]
structure Wi where
 e0:En
 e1:En
 cap:Nat
 reset:Bool
 backlog:Int
 waiting:List Int
def Wi.cells (x:Wi) (r0 r1:Nat) (wv:V):List V:=x.e0.cells r0++(x.e1.cells r1++[.bool x.reset,.i x.backlog,wv])
def Wi.obj (x:Wi) (r0 r1:Nat) (wv:V):Obj := .cells (x.cells r0 r1 wv) false
def upu (n:Int):Int:=IntKind.wrap .u64 (n+1)
def En.came (x:En) (i o:Bool):En := { x with inn:=if i&&x.ring.isSome then upu x.inn else x.inn,out:=if o&&x.writes then upu x.out else x.out }
def Wi.e (x:Wi):Nat->En
 | 0=>x.e0
 | _=>x.e1
def Wi.put (x:Wi) (k:Nat) (e:En):Wi:=match k with
 | 0=>{ x with e0:=e }
 | _=>{ x with e1:=e }
def Wi.came (x:Wi) (k:Nat) (i o:Bool):Wi:=x.put k ((x.e k).came i o)
def Wi.silent (x:Wi) (k:Nat):Bool:=(x.e (1-k)).what == 3||(x.e (1-k)).shut
section
variable {cl:Nat->Call} (hcl:Sem cl)
include hcl
theorem jfS {d wb r0 r1 k:Nat} {wv:V} {h:H} {x:Wi} (hd:1<=d) (hw:h.get wb=some (x.obj r0 r1 wv)) (hk:k=0\/k=1) (i o:Bool) :
  ∃ h',cl d (.fn 113) [.p wb 0,.i (k:Int),.bool i,.bool o] h=some (.tup [],h')/\Upd wb ((x.came k i o).obj r0 r1 wv) h h':=by
 refine jai (aT hcl ?_)
 have e0:x.came k i o=(x.came k i false).came k false o:=by
  rcases hk with rfl | rfl<;>simp [Wi.came,Wi.put,Wi.e,En.came]
 rw [e0]
 refine zab (Run.cut (fun y e g=>y = .normal/\(∃ r:Env,e=(0,.p wb 0) :: (1,.i (k:Int)) :: (3,.bool o) :: r)/\Upd wb ((x.came k i false).obj r0 r1 wv) h g) ?_ ?_)
 ·obtain ⟨⟨w0,f0,q0,wr0,s0,i0,o0⟩,⟨w1,f1,q1,wr1,s1,i1,o1⟩,cap,rs,bl,wt⟩:=x
  simp only [Wi.obj,Wi.cells,En.cells,zZ,Zi] at hw
  rcases hk with rfl | rfl
  ·cases i<;>cases q0<;>simp only [En.ptr] at hw
   all_goals
    repeat' (first|refine qsy ?_|(refine zsp ?_ ?_<;>intro _)|fail)
    refine Zv ⟨rfl,⟨_,rfl⟩,?_⟩
    first | exact ZA | exact Upd.refl hw
  ·cases i<;>cases q1<;>simp only [En.ptr] at hw
   all_goals
    repeat' (first|refine qsy ?_|(refine zsp ?_ ?_<;>intro _)|fail)
    refine Zv ⟨rfl,⟨_,rfl⟩,?_⟩
    first | exact ZA | exact Upd.refl hw
 ·rintro _ _ g ⟨rfl,⟨rest,rfl⟩,u⟩
  have hw:=u.self
  generalize x.came k i false=x' at u hw ⊢
  suffices Run (cl (d-1)) fuel c113_2 [] ((0,.p wb 0) :: (1,.i (k:Int)) :: (3,.bool o) :: rest) g (Fin c113.res fun v' h'=>v'=V.tup []/\Upd wb ((x'.came k false o).obj r0 r1 wv) g h') by
   refine zae ?_
   obtain ⟨⟨y,e',h',q1,⟨⟨y2,e2,h2,q2,⟨q3,l,q4,q5,q6⟩⟩⟩⟩⟩:=this
   exact ⟨⟨y,e',h',q1,⟨⟨y2,e2,h2,q2,⟨⟨q3,l,q4,q5,u.trans q6⟩⟩⟩⟩⟩⟩
  clear u e0
  obtain ⟨⟨w0,f0,q0,wr0,s0,i0,o0⟩,⟨w1,f1,q1,wr1,s1,i1,o1⟩,cap,rs,bl,wt⟩:=x'
  simp only [Wi.obj,Wi.cells,En.cells,zZ,Zi] at hw
  rcases hk with rfl | rfl
  ·cases o<;>cases wr0
   all_goals
    repeat' (first|refine qsy ?_|(refine zsp ?_ ?_<;>intro _)|fail)
    first | exact ⟨rfl,Upd.refl hw⟩ | exact ⟨rfl,ZA⟩
  ·cases o<;>cases wr1
   all_goals
    repeat' (first|refine qsy ?_|(refine zsp ?_ ?_<;>intro _)|fail)
    first | exact ⟨rfl,Upd.refl hw⟩ | exact ⟨rfl,ZA⟩
theorem jj2 {d wb r0 r1 k:Nat} {wv:V} {h:H} {x:Wi} (hd:1<=d) (hw:h.get wb=some (x.obj r0 r1 wv)) (hk:k=0\/k=1):cl d (.fn 52) [.p wb 0,.i (k:Int)] h=some (.bool (x.silent k),h):=by
 refine jan (aT hcl ?_)
 obtain ⟨⟨w0,f0,q0,wr0,s0,i0,o0⟩,⟨w1,f1,q1,wr1,s1,i1,o1⟩,cap,rs,bl,wt⟩:=x
 simp only [Wi.obj,Wi.cells,En.cells,zZ,Zi] at hw
 rcases hk with rfl | rfl
 ·by_cases h3:w1=3
  ·refine Gb ?_
   exact ⟨by simp [Wi.silent,Wi.e,h3],rfl⟩
  ·refine Gb ?_
   exact ⟨by simp [Wi.silent,Wi.e,h3],rfl⟩
 ·by_cases h3:w0=3
  ·refine Gb ?_
   exact ⟨by simp [Wi.silent,Wi.e,h3],rfl⟩
  ·refine Gb ?_
   exact ⟨by simp [Wi.silent,Wi.e,h3],rfl⟩
end
structure RX where
 x:Wi
 v0:V
 v1:V
 vw:V
def En.rcells (e:En) (v:V):List V:=[.i e.what,.i e.fd,.bool e.ring.isSome,.bool e.writes,v,.bool e.shut,.int .u64 e.inn,.int .u64 e.out]
def RX.cells (r:RX):List V:=r.x.e0.rcells r.v0++(r.x.e1.rcells r.v1++[.i r.x.cap,.bool r.x.reset,.i r.x.backlog,r.vw])
def RX.v (r:RX):Nat->V
 | 0=>r.v0
 | _=>r.v1
def rows (l:List RX):List V:=(l.map RX.cells).flatten
theorem RX.len (r:RX):r.cells.length=20:=by simp [RX.cells,En.rcells]
theorem ja4 (l:List RX):(rows l).length=l.length*20:=by
 induction l with
 | nil=>rfl
 | cons r l ih=>simp only [rows,List.map_cons,Zh,zg,RX.len] at ih ⊢;rw [ih];simp [Nat.add_mul];omega
theorem jf2 (r:RX) (l:List RX):rows (r :: l)=r.cells++rows l:=rfl
theorem jkN (l l':List RX):rows (l++l')=rows l++rows l':=by simp [rows]
theorem jiQ : ∀ {l:List RX} {n j:Nat} {r:RX},l[n]?=some r->j<20->(rows l)[n*20+j]?=r.cells[j]?
 | [],_,_,_,h,_=>by simp at h
 | a :: l,0,j,r,h,hj=>by
  simp at h;subst h
  rw [jf2,ze,zG (by rw [RX.len];omega)];congr 1;omega
 | a :: l,n+1,j,r,h,hj=>by
  rw [jf2,ze,zF (by rw [RX.len];omega),RX.len,show (n+1)*20+j-20=n*20+j by omega]
  exact jiQ (by simpa using h) hj
theorem je4 : ∀ {l:List RX} {n j o:Nat} {r r':RX} {v:V},l[n]?=some r->j<20->r'.cells=r.cells.set j v->o=n*20+j->(rows l).set o v=rows (l.set n r')
 | [],_,_,_,_,_,_,h,_,_,_=>by simp at h
 | a :: l,0,j,o,r,r',v,h,hj,hc,ho=>by
  simp at h;subst h
  rw [jf2,zX,zG (by rw [RX.len];omega),show o=j by omega,<- hc];rfl
 | a :: l,n+1,j,o,r,r',v,h,hj,hc,ho=>by
  rw [jf2,zX,zF (by rw [RX.len];omega),RX.len,je4 (n:=n) (j:=j) (r':=r') (by simpa using h) hj hc om];rfl
section
variable {l:List RX} {n k:Nat} {r:RX}
theorem r_en (hr:l[n]?=some r) (hk:k=0\/k=1) {f:Nat} (hf:f<8):(rows l)[0+(n:Int).toNat*20+0+(k:Int).toNat*8+f]?=((r.x.e k).rcells (r.v k))[f]?:=by
 have e:0+(n:Int).toNat*20+0+(k:Int).toNat*8+f=n*20+(k*8+f):=by omega
 rw [e,jiQ hr om]
 have hl : ∀ (e:En) v,(e.rcells v).length=8:=fun e v=>rfl
 unfold RX.cells
 rcases hk with rfl | rfl
 ·rw [ze,zG (by rw [hl];omega)];congr 1
  try omega
 ·rw [ze,zF (by rw [hl];omega),ze,zG (by rw [hl];first | omega | (rw [hl];omega)),hl];congr 1
  try omega
theorem r_tl (hr:l[n]?=some r) {f:Nat} (h0:16<=f) (hf:f<20):(rows l)[0+(n:Int).toNat*20+f]?=[V.i r.x.cap,.bool r.x.reset,.i r.x.backlog,r.vw][f-16]?:=by
 have e:0+(n:Int).toNat*20+f=n*20+f:=by omega
 rw [e,jiQ hr hf]
 have hl : ∀ (e:En) v,(e.rcells v).length=8:=fun e v=>rfl
 unfold RX.cells
 rw [ze,zF (by rw [hl];omega),ze,zF (by rw [hl,hl];omega),hl,hl];congr 1
theorem jiu (hr:l[n]?=some r) (hk:k=0\/k=1):(rows l)[0+(n:Int).toNat*20+0+(k:Int).toNat*8+0]?=some (.i (r.x.e k).what):=r_en hr hk om
theorem r_fd (hr:l[n]?=some r) (hk:k=0\/k=1):(rows l)[0+(n:Int).toNat*20+0+(k:Int).toNat*8+1]?=some (.i (r.x.e k).fd):=r_en hr hk om
theorem jhr (hr:l[n]?=some r) (hk:k=0\/k=1):(rows l)[0+(n:Int).toNat*20+0+(k:Int).toNat*8+2]?=some (.bool (r.x.e k).ring.isSome):=r_en hr hk om
theorem jiV (hr:l[n]?=some r) (hk:k=0\/k=1):(rows l)[0+(n:Int).toNat*20+0+(k:Int).toNat*8+3]?=some (.bool (r.x.e k).writes):=r_en hr hk om
theorem r_b (hr:l[n]?=some r) (hk:k=0\/k=1):(rows l)[0+(n:Int).toNat*20+0+(k:Int).toNat*8+4]?=some (r.v k):=r_en hr hk om
theorem jjN (hr:l[n]?=some r) (hk:k=0\/k=1):(rows l)[0+(n:Int).toNat*20+0+(k:Int).toNat*8+5]?=some (.bool (r.x.e k).shut):=r_en hr hk om
theorem r_in (hr:l[n]?=some r) (hk:k=0\/k=1):(rows l)[0+(n:Int).toNat*20+0+(k:Int).toNat*8+6]?=some (.int .u64 (r.x.e k).inn):=r_en hr hk om
theorem r_out (hr:l[n]?=some r) (hk:k=0\/k=1):(rows l)[0+(n:Int).toNat*20+0+(k:Int).toNat*8+7]?=some (.int .u64 (r.x.e k).out):=r_en hr hk om
theorem r_cap (hr:l[n]?=some r):(rows l)[0+(n:Int).toNat*20+16]?=some (.i r.x.cap):=r_tl hr om om
theorem jhq (hr:l[n]?=some r):(rows l)[0+(n:Int).toNat*20+17]?=some (.bool r.x.reset):=r_tl hr om om
theorem jjO (hr:l[n]?=some r):(rows l)[0+(n:Int).toNat*20+18]?=some (.i r.x.backlog):=r_tl hr om om
theorem jlK (hr:l[n]?=some r):(rows l)[0+(n:Int).toNat*20+19]?=some r.vw:=r_tl hr om om
theorem jie {r':RX} {f o:Nat} {v:V} (hr:l[n]?=some r) (hk:k=0\/k=1) (hf:f<8) (hc:r'.cells=r.cells.set (k*8+f) v) (ho:o=n*20+(k*8+f)):(rows l).set o v=rows (l.set n r') :=
 je4 hr om hc ho
theorem r_lt (hr:l[n]?=some r):n<l.length:=by
 rcases zA n l.length with h | h
 ·exact h
 ·rw [zc h] at hr;cases hr
end
theorem je2 {l:List RX} {n:Nat} {r:RX} (hr:l[n]?=some r):l.set n r=l:=by
 apply zW
 intro i
 rw [zi]
 by_cases h:n=i
 ·subst h;rw [zG rfl,zG (r_lt hr),hr]
 ·rw [zF h]
theorem get_set {l:List RX} {n:Nat} {r r':RX} (hr:l[n]?=some r):(l.set n r')[n]?=some r':=by
 rw [zi,zG rfl,zG (r_lt hr)]
theorem set_set {l:List RX} {n:Nat} {r r':RX} : (l.set n r).set n r'=l.set n r':=by simp
structure RAt (h:H) (rw q:Nat) (l:List RX) (tl:List V):Prop where
 hw:h.get rw=some (.cells (.slice (some (q,0)) l.length (.grow 20) :: tl) false)
 hq:h.get q=some (.cells (rows l) false)
 ne:rw≠q
theorem RAt.upd {h h':H} {rw q:Nat} {l l':List RX} {tl:List V} (a:RAt h rw q l tl) (u:Upd q (.cells (rows l') false) h h') (hl:l'.length=l.length):RAt h' rw q l' tl :=
 ⟨by rw [u.get _ a.ne,a.hw,hl],u.self,a.ne⟩
theorem RAt.set {h:H} {rw q n o:Nat} {l:List RX} {tl:List V} {r r':RX} {v:V} (a:RAt h rw q l tl) (hr:l[n]?=some r) (e:(rows l).set o v=rows (l.set n r')) :
  RAt (h.set q (.cells ((rows l).set o v) false)) rw q (l.set n r') tl:=by
 rw [e];exact a.upd ZA Zd
def RX.came (r:RX) (k:Nat) (i o:Bool):RX := { r with x:=r.x.came k i o }
theorem RX.came_ff (r:RX) (k:Nat):r.came k false false=r:=by
 obtain ⟨x,v0,v1,vw⟩:=r
 match k with
 | 0=>rfl
 | _+1=>rfl
theorem RX.came_two (r:RX) (k:Nat) (hk:k=0\/k=1) (i o:Bool):r.came k i o=(r.came k i false).came k false o:=by
 rcases hk with rfl | rfl<;>simp [RX.came,Wi.came,Wi.put,Wi.e,En.came]
theorem RX.came_no_in {r:RX} {k:Nat} (hk:k=0\/k=1) (i:Bool) (h:(i&&(r.x.e k).ring.isSome)=false):r.came k i false=r:=by
 obtain ⟨⟨e0,e1,cap,rs,bl,wt⟩,v0,v1,vw⟩:=r
 rcases hk with rfl | rfl<;>simp only [Wi.e] at h<;>simp [RX.came,Wi.came,Wi.put,Wi.e,En.came,h]
theorem RX.came_no_out {r:RX} {k:Nat} (hk:k=0\/k=1) (o:Bool) (h:(o&&(r.x.e k).writes)=false):r.came k false o=r:=by
 obtain ⟨⟨e0,e1,cap,rs,bl,wt⟩,v0,v1,vw⟩:=r
 rcases hk with rfl | rfl<;>simp only [Wi.e] at h<;>simp [RX.came,Wi.came,Wi.put,Wi.e,En.came,h]
theorem RX.came_in {r:RX} {k:Nat} (hk:k=0\/k=1) (h:(r.x.e k).ring.isSome=true):(r.came k true false).cells=r.cells.set (k*8+6) (.int .u64 (IntKind.wrap .u64 ((r.x.e k).inn+1))):=by
 obtain ⟨⟨e0,e1,cap,rs,bl,wt⟩,v0,v1,vw⟩:=r
 rcases hk with rfl | rfl<;>simp only [Wi.e] at h<;>simp [RX.came,Wi.came,Wi.put,Wi.e,En.came,h,RX.cells,En.rcells,upu]
theorem RX.came_out {r:RX} {k:Nat} (hk:k=0\/k=1) (h:(r.x.e k).writes=true):(r.came k false true).cells=r.cells.set (k*8+7) (.int .u64 (IntKind.wrap .u64 ((r.x.e k).out+1))):=by
 obtain ⟨⟨e0,e1,cap,rs,bl,wt⟩,v0,v1,vw⟩:=r
 rcases hk with rfl | rfl<;>simp only [Wi.e] at h<;>simp [RX.came,Wi.came,Wi.put,Wi.e,En.came,h,RX.cells,En.rcells,upu]
section
variable {cl:Nat->Call} (hcl:Sem cl)
include hcl
theorem rw_rise {d rw q n k:Nat} {h:H} {l:List RX} {tl:List V} {r:RX} (hd:1<=d) (A:RAt h rw q l tl) (hr:l[n]?=some r) (hk:k=0\/k=1) (i o:Bool) :
  ∃ h',cl d (.fn 114) [.p rw 0,.i (n:Int),.i (k:Int),.bool i,.bool o] h=some (.tup [],h')/\Upd q (.cells (rows (l.set n (r.came k i o))) false) h h':=by
 refine jai (aT hcl ?_)
 rw [RX.came_two r k hk]
 refine zab (Run.cut (fun y e g=>y = .normal/\(∃ s:Env,e=(0,.p rw 0) :: (1,.i (n:Int)) :: (2,.i (k:Int)) :: (4,.bool o) :: s)/\Upd q (.cells (rows (l.set n (r.came k i false))) false) h g) ?_ ?_)
 ·obtain ⟨hw,hq,hne⟩:=A
  have q1:=jhr hr hk
  have q3:=r_in hr hk
  have hn:=r_lt hr
  have hlen:0+(n:Int).toNat*20+0+(k:Int).toNat*8+6<(rows l).length:=by rw [ja4];omega
  cases hre:(r.x.e k).ring.isSome
  ·rw [RX.came_no_in hk i (by rw [hre];simp),je2 hr]
   rw [hre] at q1
   cases i
   all_goals
    repeat' (first|refine qxy ?_|(refine zsp ?_ ?_<;>intro _)|fail)
    exact Zv ⟨rfl,⟨_,rfl⟩,Upd.refl hq⟩
  ·rw [hre] at q1
   cases i
   ·rw [RX.came_no_in hk false rfl,je2 hr]
    refine Ga ?_
    exact Zv ⟨rfl,⟨_,rfl⟩,Upd.refl hq⟩
   ·refine Ga ?_
    refine zcs rfl rfl rfl hq hlen ?_
    rw [jie hr hk om (RX.came_in hk hre) om]
    refine Ga ?_
    exact Zv ⟨rfl,⟨_,rfl⟩,ZA⟩
 ·rintro _ _ g ⟨rfl,⟨s,rfl⟩,u⟩
  have A1:=A.upd u Zd
  have hr1:=get_set (r':=r.came k i false) hr
  rw [<- set_set (l:=l) (r:=r.came k i false)]
  generalize l.set n (r.came k i false)=l1 at u A1 hr1 ⊢
  generalize r.came k i false=r1 at hr1 ⊢
  clear A hr
  obtain ⟨hw,hq,hne⟩:=A1
  have q2:=jiV hr1 hk
  have q4:=r_out hr1 hk
  have hn:=r_lt hr1
  have hlen:0+(n:Int).toNat*20+0+(k:Int).toNat*8+7<(rows l1).length:=by rw [ja4];omega
  cases hwr:(r1.x.e k).writes
  ·rw [RX.came_no_out hk o (by rw [hwr];simp),je2 hr1]
   rw [hwr] at q2
   cases o
   all_goals
    repeat' (first|refine qxy ?_|(refine zsp ?_ ?_<;>intro _)|fail)
    exact ⟨rfl,u⟩
  ·rw [hwr] at q2
   cases o
   ·rw [RX.came_no_out hk false rfl,je2 hr1]
    refine Ga ?_
    exact ⟨rfl,u⟩
   ·refine Ga ?_
    refine zcs rfl rfl rfl hq hlen ?_
    rw [jie hr1 hk om (RX.came_out hk hwr) om]
    refine Ga ?_
    exact ⟨rfl,u.trans ZA⟩
end
abbrev bts (l:List UInt8):List V:=l.map jg0
theorem jjv {l:List UInt8} {i:Nat} {x:UInt8} (h:l[i]?=some x):(bts l)[i]?=some (jg0 x):=by simp [h]
theorem jls (l:List UInt8):(bts l).all V.one=true:=by
 refine jnc fun i v hv=>?_
 rw [List.getElem?_map] at hv
 cases h:l[i]? with
 | none=>rw [h] at hv;cases hv
 | some x=>rw [h] at hv;cases hv;rfl
def putB (buf:List UInt8) (o:Nat) (xs:List UInt8):List UInt8:=buf.take o++(xs++buf.drop (o+xs.length))
theorem jkS {buf xs:List UInt8} {o:Nat} (h:o+xs.length<=buf.length):(putB buf o xs).length=buf.length:=by simp [putB];omega
theorem jiW {buf xs:List UInt8} {o:Nat} (h:o+xs.length<=buf.length) (k:Nat):(putB buf o xs)[k]?=if o<=k/\k<o+xs.length then xs[k-o]? else buf[k]?:=by
 unfold putB
 rw [ze]
 have hl:(buf.take o).length=o:=by simp;omega
 rw [hl]
 by_cases h1:k<o
 ·rw [zG h1,zF om,zQ,zG h1]
 ·rw [zF h1,ze]
  by_cases h2:k-o<xs.length
  ·rw [zG h2,zG om]
  ·rw [zF h2,zF om,zn]
   congr 1;omega
theorem jmt {buf xs:List UInt8} {o:Nat} (h:o+xs.length<=buf.length):jat (bts buf) o (bts xs)=bts (putB buf o xs):=by
 apply zW
 intro k
 rw [je3 _ _ _ _ (by simpa using h)]
 simp only [List.getElem?_map,jiW h,List.length_map]
 split
 ·simp
 ·simp
structure RingC (h:H) (r bb:Nat) (buf:List UInt8) (frm n cap:Nat) (inn out:Int):Prop where
 hr:h.get r=some (.cells [.slice (some (bb,0)) cap (.fix cap),.i frm,.i n,.int .u64 inn,.int .u64 out,.bool true] false)
 hb:h.get bb=some (.cells (bts buf) false)
structure RingV (buf q:List UInt8) (frm cap:Nat):Prop where
 len:buf.length=cap
 flt:frm<cap
 fit:q.length<=cap
 small:cap<=65536
 at_ : ∀ i,i<q.length->buf[(frm+i)%cap]?=q[i]?
def ja5 (h:H) (r bb:Nat) (q:List UInt8) (cap:Nat):Prop := ∃ buf frm inn out,RingC h r bb buf frm q.length cap inn out/\RingV buf q frm cap
theorem ja5.keep {h h':H} {r bb:Nat} {q:List UInt8} {cap:Nat} (a:ja5 h r bb q cap) (h1:h'.get r=h.get r) (h2:h'.get bb=h.get bb):ja5 h' r bb q cap:=by
 obtain ⟨buf,frm,inn,out,c,v⟩:=a
 exact ⟨buf,frm,inn,out,⟨by rw [h1,c.hr],by rw [h2,c.hb]⟩,v⟩
section
variable {cl:Nat->Call} (hcl:Sem cl)
include hcl
theorem jn9 {d r bb:Nat} {h:H} {buf:List UInt8} {frm n cap:Nat} {inn out:Int} (hd:1<=d) (c:RingC h r bb buf frm n cap inn out):cl d (.fn 104) [.p r 0] h=some (.bool false,h):=by
 refine jan (aT hcl ?_)
 have hr:=c.hr
 refine Ga ?_
 exact ⟨rfl,rfl⟩
theorem jlF {d r bb:Nat} {h:H} {buf:List UInt8} {frm n cap:Nat} {inn out:Int} (hd:2<=d) (c:RingC h r bb buf frm n cap inn out):cl d (.fn 51) [.p r 0] h=some (.i n,h):=by
 refine jan (aT hcl ?_)
 have hr:=c.hr
 have hn:=jn9 hcl (d:=d-1) om c
 refine Ga ?_
 exact ⟨rfl,rfl⟩
theorem jn8 {d r bb:Nat} {h:H} {buf:List UInt8} {frm n cap:Nat} {inn out:Int} (hd:2<=d) (c:RingC h r bb buf frm n cap inn out) (h1:n<=cap) (h2:cap<=65536):cl d (.fn 53) [.p r 0] h=some (.i ((cap-n:Nat):Int),h):=by
 refine jan (aT hcl ?_)
 have hr:=c.hr
 have hn:=jn9 hcl (d:=d-1) om c
 refine Ga ?_
 exact ⟨by congr 1;omega,rfl⟩
theorem jo8 {d:Nat} {h:H} {n:Nat} (hd:1<=d) (h1:n<=65536):cl d (.fn 105) [.i n] h=some (.tup [.p (h.nx+1) 0,.i 0],
  (h.new (.cells (List.replicate n (.int .u8 0)) false)).new (.cells [.slice (some (h.nx,0)) n (.fix n),.i 0,.i 0,.int .u64 0,.int .u64 0,.bool true] false)):=by
 refine jan (aT hcl ?_)
 refine Ga ?_
 refine Ops.mkSliceN rfl rfl om om ?_
 refine Ga ?_
 refine zcu rfl rfl ?_
 refine Ga ?_
 exact ⟨rfl,rfl⟩
theorem jhn {d L nb fb rb r bb cap f0 n0:Nat} {h:H} (hd:2<=d) (hne:nb≠fb) (h0:0<cap) (h1:cap<=65536) (h2:n0<=65536) (h3:f0<=1000000) (I:Nat->H->Prop)
  (hI : ∀ k g g',I k g->(∀ j,j≠nb->j≠fb->g'.get j=g.get j)->g'.nx=g.nx->I k g')
  (hr : ∀ k g,I k g->g.get rb=some (.cells [.p r 0] false) /\ ∃ rest,g.get r=some (.cells (.slice (some (bb,0)) cap (.fix cap) :: rest) false))
  (hy : ∀ k g m,I k g->k<n0->m=min ((f0+k)%cap+(n0-k)) cap-(f0+k)%cap->g.get nb=some (.cells [.i ((n0-k:Nat):Int)] false)->g.get fb=some (.cells [.i ((f0+k:Nat):Int)] false) ->
   ∃ g',cl (d-1) (.yld L) [.slice (some (bb,(f0+k)%cap)) m (.fix (cap-(f0+k)%cap))] g=some (.bool true,g')/\I (k+m) g'/\g'.get nb=g.get nb/\g'.get fb=g.get fb)
  (hs:I 0 h) (hn:h.get nb=some (.cells [.i (n0:Int)] false)) (hf:h.get fb=some (.cells [.i (f0:Int)] false)) : ∃ v h',cl d (.fn 146) [.yld L,.p nb 0,.p fb 0,.p rb 0] h=some (v,h')/\I n0 h':=by
 refine aT hcl ?_
 refine Ga ?_
 refine Zx (fun m e g=>∃ k:Nat,m=n0-k/\k<=n0/\e=[(0,.yld L),(1,.p nb 0),(2,.p fb 0),(3,.p rb 0)]/\I k g/\g.get nb=some (.cells [.i ((n0-k:Nat):Int)] false)/\g.get fb=some (.cells [.i ((f0+k:Nat):Int)] false))
  (k:=n0) Ze ⟨0,rfl,by omega,rfl,hs,by simpa using hn,by simpa using hf⟩ ?_
 clear hs hn hf
 rintro _ _ g ⟨k,rfl,hk,rfl,hi,gn,gf⟩ n ih
 obtain ⟨g1,rest,g2⟩:=hr k g hi
 by_cases hlt:k<n0
 case neg=>
  have:k=n0:=by omega
  subst this
  refine Ga ?_
  exact hi
 obtain ⟨g',y1,y2,y3,y4⟩:=hy k g _ hi hlt rfl gn gf
 have hmod:=Nat.mod_lt (f0+k) h0
 generalize hat:(f0+k)%cap=a at hmod y1 y2
 refine Ga ?_
 refine Ops.remN rfl rfl h0 ?_
 rw [hat]
 refine Ga ?_
 refine Ops.slice_b (l:=a) (r:=min (a+(n0-k)) cap) rfl rfl ?_ om om (zr _) ?_
 ·show some (V.i (min ((a:Int)+((n0-k:Nat):Int)) (cap:Int)))=some (V.i ((min (a+(n0-k)) cap:Nat):Int))
  congr 2;omega
 have ea:0+a*1=a:=by omega
 rw [ea]
 refine Ga ?_
 refine Ops.yield rfl rfl y1 ?_
 refine Ga ?_
 rw [gf] at y4
 rw [gn] at y3
 refine Gb ?_
 have hm:0<min (a+(n0-k)) cap-a:=by omega
 have hm2:min (a+(n0-k)) cap-a<=n0-k:=by omega
 generalize min (a+(n0-k)) cap-a=m at hm hm2 y1 y2 ⊢
 refine ih (n0-(k+m)) om _ _ ⟨k+m,rfl,by omega,rfl,hI (k+m) g' _ y2 (fun j j1 j2=>by rw [jaa j1,jaa j2]) rfl,?_,?_⟩
 ·rw [jab]
  show some (Obj.cells [V.i (((n0-k:Nat):Int)-(m:Int))] false)=_
  congr 4;omega
 ·rw [jaa hne.symm,jab]
  show some (Obj.cells [V.i (((f0+k:Nat):Int)+(m:Int))] false)=_
  congr 4;omega
theorem jjE {d r:Nat} {h:H} {f n:Int} (hd:1<=d):cl d (.fn 136) [.p r 0,.i f,.i n] h =
  some (.clo 146 [.p (h.nx+2) 0,.p (h.nx+1) 0,.p h.nx 0],((h.new (.cells [.p r 0] false)).new (.cells [.i f] false)).new (.cells [.i n] false)):=by
 refine jan (aT hcl ?_)
 refine Ga ?_
 refine zcu rfl rfl ?_
 refine Ga ?_
 refine zcu rfl rfl ?_
 refine Ga ?_
 refine zcu rfl rfl ?_
 refine Ga ?_
 exact ⟨rfl,rfl⟩
end
structure BytesAt (h:H) (a:Option (Nat × Nat)) (c:Cap) (l:List UInt8):Prop where
 none_:a=none->c = .fix 0/\l=[]
 fits:c.fits l.length 1
 at_:l≠[] -> ∃ b o cs ro,a=some (b,o)/\b<h.nx/\h.get b=some (.cells cs ro) /\ ∀ (i:Nat) (x:UInt8),l[i]?=some x->cs[o+i]?=some (jg0 x)
theorem jhC {c:Cap} {n k:Nat} (h:c.fits n 1) (hk:k<=n):(c.less k).fits (n-k) 1:=by
 cases c with
 | fix q=>simp only [Cap.less,Cap.fits] at h ⊢;omega
 | grow q=>exact h
theorem jlh {c:Cap} {n k:Nat} (h:c.fits n 1) (hk:k<=n):c.fits k 1:=by
 cases c with
 | fix q=>simp only [Cap.fits] at h ⊢;omega
 | grow q=>exact h
theorem less_less {c:Cap} {a b:Nat} : (c.less a).less b=c.less (a+b):=by
 cases c with
 | fix q=>simp only [Cap.less];congr 1;omega
 | grow q=>rfl
theorem less_zero {c:Cap} : c.less 0=c:=by
 cases c<;>rfl
theorem jeD {x i c:Nat} (h:x%c+i<c):(x+i)%c=x%c+i:=by
 rw [Nat.add_mod,Nat.mod_eq_of_lt (show i<c by omega),Nat.mod_eq_of_lt h]
theorem joJ {x y c:Nat} (h1:x<y) (h2:y-x<c):x%c≠y%c:=by
 intro e
 have:(y-x)%c=0:=by
  have:=Nat.sub_mod_eq_zero_of_mod_eq e.symm
  exact this
 rw [Nat.mod_eq_of_lt h2] at this
 omega
theorem jdP {l:List UInt8} {cs:List V} {o k m:Nat} (hc : ∀ (i:Nat) (x:UInt8),l[i]?=some x->cs[o+i]?=some (jg0 x)) (hm:k+m<=l.length) (h0:0<m) :
  o+k+m<=cs.length/\(cs.drop (o+k)).take m=bts ((l.drop k).take m):=by
 have h1:o+k+m<=cs.length:=by
  have:=hc (k+m-1) _ (za om)
  rcases zA (o+(k+m-1)) cs.length with h | h
  ·omega
  ·rw [zc h] at this;cases this
 refine ⟨h1,zW fun i=>?_⟩
 rw [zQ,List.getElem?_map,zQ]
 by_cases hi:i<m
 ·rw [zG hi,zG hi,zn,zn]
  have:=hc (k+i) _ (za om)
  rw [show o+k+i=o+(k+i) by omega,this,za om];rfl
 ·rw [zF hi,zF hi];rfl
theorem nil_slice {call:Call} {fuel base:Nat} {ops:List Ins} {keep:List Nat} {K:List Fr} {e:Env} {h:H} {Q:Post} {ix:Nat} {dst:Option Nat} {at_:Option Nat} {sz:Nat} {x hi:Opd} (hx:x.ev e=some .nils) (hhi:hi.ev e=some (.i 0))
  (k:Ops call fuel base ops keep K (layv e dst .nils) h Q):Ops call fuel base (⟨ix,dst,.slice sz x none (some hi) none,none,at_,[]⟩ :: ops) keep K e h Q:=by
 refine zau rfl ?_ k
 simp only [I.pure,hx,evo,hhi]
 rfl
theorem ja5.of {h:H} {r bb cap frm:Nat} {buf q:List UInt8} {f n inn out:Int} (hr:h.get r=some (.cells [.slice (some (bb,0)) cap (.fix cap),.i f,.i n,.int .u64 inn,.int .u64 out,.bool true] false)) (hb:h.get bb=some (.cells (bts buf) false))
  (hf:f=frm) (hn:n=q.length) (v:RingV buf q frm cap):ja5 h r bb q cap:=by
 subst hf hn
 exact ⟨buf,frm,inn,out,⟨hr,hb⟩,v⟩
section
variable {cl:Nat->Call} (hcl:Sem cl)
include hcl
theorem rp_put {d r bb cap:Nat} {h0:H} {q l:List UInt8} {a:Option (Nat × Nat)} {c:Cap} (hd:6<=d) (R:ja5 h0 r bb q cap) (hr:r<h0.nx) (hbb:bb<h0.nx) (hrb:r≠bb) (hl:BytesAt h0 a c l) (hll:l.length<=1000000000)
  (hne : ∀ b o,a=some (b,o)->l≠[]->b≠bb/\b≠r) :
  ∃ h',cl d (.fn 115) [.p r 0,.slice a l.length c] h0=some (.i ((min l.length (cap-q.length):Nat):Int),h')/\ja5 h' r bb (q++l.take (min l.length (cap-q.length))) cap/\Ch (fun j=>j=r\/j=bb) h0 h':=by
 have R0:=R
 obtain ⟨buf,frm,inn,out,C,W⟩:=R
 have hroom:=jn8 hcl (d:=d-1) om C W.fit W.small
 have hC:=C.hr
 have w1:=W.fit
 have w2:=W.small
 have w3:=W.flt
 refine jai (aT hcl ?_)
 generalize hm:min l.length (cap-q.length)=m
 have hmin:min (l.length:Int) ((cap-q.length:Nat):Int)=(m:Int):=by omega
 have cut : ∀ {ops:List Ins} {keep:List Nat} {K:List Fr} {e:Env} {Q:Post} {ix:Nat} {dst:Option Nat} {x hi:Opd} {base:Nat},x.ev e=some (.slice a l.length c)->hi.ev e=some (.i (min (l.length:Int) ((cap-q.length:Nat):Int))) ->
   Ops (cl (d-1)) fuel base ops keep K (layv e dst (.slice a m c)) h0 Q->Ops (cl (d-1)) fuel base (⟨ix,dst,.slice 1 x none (some hi) none,none,none,[]⟩ :: ops) keep K e h0 Q:=by
  intro ops keep K e Q ix dst x hi base hx hh k
  rw [hmin] at hh
  cases a with
  | none=>
   obtain ⟨rfl,rfl⟩:=hl.none_ rfl
   have:m=0:=by rw [<- hm];simp
   subst this
   exact nil_slice hx hh k
  | some p=>exact Ops.slice_h hx hh om hl.fits k
 by_cases h00:m=0
 ·subst h00
  refine Ga ?_
  refine cut rfl rfl ?_
  refine Ga ?_
  exact ⟨rfl,by simpa using R0,Zy _ _⟩
 have hln:l≠[]:=by rintro rfl;simp at hm;omega
 obtain ⟨b,o,cs,ro,rfl,hb,hcs,hel⟩:=hl.at_ hln
 obtain ⟨n1,n2⟩:=hne b o rfl hln
 have hml:m<=l.length:=by omega
 have hmc:q.length+m<=cap:=by omega
 refine Ga ?_
 refine cut rfl rfl ?_
 refine Ga ?_
 refine zcu rfl rfl ?_
 refine Gb ?_
 have hbox:=jjE hcl (d:=d-1) (r:=r) (h:=(h0.new (.cells [.nils] false)).set h0.nx (.cells ([.nils].set 0 (.slice (some (b,o)) m c)) false)) (f:=(frm:Int)+(q.length:Int)) (n:=(m:Int)) om
 refine Gb ?_
 clear hbox
 generalize hH:((((h0.new (.cells [.nils] false)).set h0.nx (.cells ([.nils].set 0 (.slice (some (b,o)) m c)) false)).new (.cells [.p r 0] false)).new (.cells [.i ((frm:Int)+(q.length:Int))] false)).new (.cells [.i (m:Int)] false)=H1
 have x1:H1.nx=h0.nx+4:=by rw [<- hH];rfl
 have g0:H1.get h0.nx=some (.cells [.slice (some (b,o)) m c] false):=by rw [<- hH];exact qgt
 have g1:H1.get (h0.nx+1)=some (.cells [.p r 0] false):=by rw [<- hH];exact qgt
 have g2:H1.get (h0.nx+2)=some (.cells [.i ((frm+q.length:Nat):Int)] false):=by rw [<- hH];exact qgt
 have g3:H1.get (h0.nx+3)=some (.cells [.i (m:Int)] false):=by rw [<- hH];exact qgt
 have gj : ∀ j,j<h0.nx->H1.get j=h0.get j:=by
  intro j hj
  rw [<- hH,jac Zc,jac Zc,jac Zc,jaa om,jac hj]
 clear hH
 refine Zz rfl qkp fun LO hLO=>?_
 rw [x1]
 have hne23:h0.nx+3≠h0.nx+2:=by omega
 obtain ⟨v,h',hc,k1,k2,⟨buf',k3,k4,k5,k6⟩,k7,k8⟩:=jhn hcl (d:=d-1) (L:=h0.nx+4) (nb:=h0.nx+3) (fb:=h0.nx+2) (rb:=h0.nx+1) (r:=r) (bb:=bb) (cap:=cap) (f0:=frm+q.length) (n0:=m)
  om hne23 om w2 om om
  (fun k g=>g.get h0.nx=some (.cells [.slice (some (b,o+k)) (m-k) (c.less k)] false)/\g.get (h0.nx+4)=some (LO .ready none) /\
   (∃ buf':List UInt8,g.get bb=some (.cells (bts buf') false)/\buf'.length=cap/\(∀ i,i<q.length->buf'[(frm+i)%cap]?=q[i]?) /\ ∀ i,i<k->buf'[(frm+q.length+i)%cap]?=l[i]?) /\
   (g.get (h0.nx+1)=some (.cells [.p r 0] false)/\h0.nx+5<=g.nx) /\ ∀ j,j<h0.nx->j≠bb->g.get j=h0.get j)
  (by
   rintro k g g' ⟨i1,i2,⟨buf',i3,i4⟩,⟨i5,i6⟩,i7⟩ hg hx
   refine ⟨by rw [hg _ om om,i1],by rw [hg _ om om,i2],⟨buf',by rw [hg _ om om,i3],i4⟩,⟨by rw [hg _ om om,i5],by omega⟩,fun j hj hb=>by rw [hg _ om om,i7 j hj hb]⟩)
  (by
   rintro k g ⟨i1,i2,i3,⟨i5,i6⟩,i7⟩
   exact ⟨i5,_,by rw [i7 r hr hrb,hC]⟩)
  (by
   rintro k g mm ⟨i1,i2,⟨buf',i3,i4,i8,i9⟩,⟨i5,i6⟩,i7⟩ hk hmm gn gf
   have hmod:=Nat.mod_lt (frm+q.length+k) (show 0<cap by omega)
   generalize hat:(frm+q.length+k)%cap=at1 at hmod hmm
   have hmm1:0<mm:=by omega
   have hmm2:k+mm<=m:=by omega
   have hmm3:at1+mm<=cap:=by omega
   obtain ⟨p1,p2⟩:=jdP hel (show k+mm<=l.length by omega) hmm1
   generalize hxs:(l.drop k).take mm=xs at p2
   have hxl:xs.length=mm:=by rw [<- hxs];simp;omega
   have hsrc:g.get b=some (.cells cs ro):=by rw [i7 b hb n1,hcs]
   refine jai (yl_ hcl om hLO i2 rfl ?_)
   refine Ga ?_
   refine Zv ⟨rfl,i2,?_⟩
   refine Gb ?_
   have hbx:h0.nx≠bb:=by omega
   refine Ops.copy_chk (d:=mm) (ls:=cs) (new:=bts xs) (ld:=bts buf') rfl rfl (by show mm=min (m-k) _;omega) om (ro:=ro) (by rw [jaa om,hsrc]) om (by rw [Nat.mul_one];exact p2) (jls _) (by rw [jaa om,i3]) Zc
    (jaN rfl (l:=[.slice (some (b,o+k)) (m-k) (c.less k)]) (ro:=false) qgt rfl rfl jbn) ?_
   rw [jmt om]
   refine Ops.slice_l (l:=mm) rfl rfl om (jhC (jlh hl.fits hml) om) ?_
   rw [less_less,Nat.mul_one,Nat.add_assoc o k mm,show m-k-mm=m-(k+mm) by omega]
   refine Gb ?_
   refine Zv ⟨⟨.busy,none,qgt⟩,rfl,⟨qgt,jab _,⟨putB buf' at1 xs,qgt,by rw [jkS om,i4],?_,?_⟩,⟨qgt,i6⟩,fun j hj hjb=>?_⟩,qgt,qgt⟩
   ·intro i hi
    have hp:=Nat.mod_lt (frm+i) (show 0<cap by omega)
    rw [jiW om,zF,i8 i hi]
    rintro ⟨s1,s2⟩
    have e1:=jeD (x:=frm+q.length+k) (i:=(frm+i)%cap-at1) (c:=cap) om
    rw [hat] at e1
    exact joJ (x:=frm+i) (y:=frm+q.length+k+((frm+i)%cap-at1)) (c:=cap) om om (by rw [e1];omega)
   ·intro i hi
    have hp:=Nat.mod_lt (frm+q.length+i) (show 0<cap by omega)
    rw [jiW om]
    by_cases hik:i<k
    ·rw [zF,i9 i hik]
     rintro ⟨s1,s2⟩
     have e1:=jeD (x:=frm+q.length+k) (i:=(frm+q.length+i)%cap-at1) (c:=cap) om
     rw [hat] at e1
     exact joJ (x:=frm+q.length+i) (y:=frm+q.length+k+((frm+q.length+i)%cap-at1)) (c:=cap) om om (by rw [e1];omega)
    ·have e1:=jeD (x:=frm+q.length+k) (i:=i-k) (c:=cap) om
     rw [hat,show frm+q.length+k+(i-k)=frm+q.length+i by omega] at e1
     rw [e1,zG om,<- hxs,zQ,zG om,zn]
     congr 1;omega
   ·have:=i7 j hj hjb
    exact qgt)
  (h:=H1.new (LO .ready none))
  ⟨by rw [jac om,g0];simp [less_zero],by rw [<- x1,jad],⟨buf,by rw [jac om,gj bb hbb,C.hb],W.len,W.at_,fun i hi=>by omega⟩,⟨by rw [jac om,g1],by simp [x1]⟩,
   fun j hj _=>by rw [jac om,gj j hj]⟩
  (by rw [jac om,g3]) (by rw [jac om,g2])
 refine ⟨v,h',hc,.normal,k2,?_⟩
 have k9:(h'.kill (h0.nx+4)).get r=some (.cells [.slice (some (bb,0)) cap (.fix cap),.i frm,.i q.length,.int .u64 inn,.int .u64 out,.bool true] false):=by rw [jae om,k8 r hr hrb,hC]
 refine Gb ?_
 refine ⟨rfl,ja5.of (frm:=frm) (buf:=buf') (jab _) ?_ rfl ?_ ⟨k4,w3,by simp;omega,w2,fun i hi=>?_⟩,?_⟩
 ·rw [jaa (Ne.symm hrb),jaa (Ne.symm hrb),jae om,k3]
 ·simp only [zg,List.length_take];omega
 ·rw [ze]
  simp only [zg,List.length_take] at hi
  by_cases hiq:i<q.length
  ·rw [zG hiq,k5 i hiq]
  ·rw [zF hiq,zQ,zG om,<- k6 (i-q.length) om]
   congr 2;omega
 ·refine ⟨by simp;omega,fun j hj hn=>?_⟩
  rw [jaa (fun e=>hn (.inl e)),jaa (fun e=>hn (.inl e)),jae om,k8 j hj (fun e=>hn (.inr e))]
end
def VB (h:H) (v:V) (l:List UInt8):Prop := ∃ a c,v = .slice a l.length c/\BytesAt h a c l
theorem VB.keep {h h':H} {v:V} {l:List UInt8} (a:VB h v l) (hx:h.nx<=h'.nx) (hk : ∀ z,v.at?=some z->h'.get z=h.get z):VB h' v l:=by
 obtain ⟨a,c,rfl,n,f,g⟩:=a
 refine ⟨a,c,rfl,n,f,fun hl=>?_⟩
 obtain ⟨b,o,cs,ro,rfl,h1,h2,h3⟩:=g hl
 exact ⟨b,o,cs,ro,rfl,by omega,by rw [hk b rfl,h2],h3⟩
theorem VB.keep2 {h h':H} {v:V} {l:List UInt8} (a:VB h v l) (hx:h.nx<=h'.nx) (hk:l≠[] -> ∀ z,v.at?=some z->h'.get z=h.get z):VB h' v l:=by
 obtain ⟨a,c,rfl,n,f,g⟩:=a
 refine ⟨a,c,rfl,n,f,fun hl=>?_⟩
 obtain ⟨b,o,cs,ro,rfl,h1,h2,h3⟩:=g hl
 exact ⟨b,o,cs,ro,rfl,by omega,by rw [hk hl b rfl,h2],h3⟩
theorem VB.nil (h:H):VB h .nils []:=⟨none,.fix 0,rfl,fun _=>⟨rfl,rfl⟩,zr _,fun h=>zM rfl h⟩
theorem VB.one {h:H} {v:V} {l:List UInt8} (a:VB h v l):v.one=true:=by obtain ⟨a,c,rfl,_⟩:=a;rfl
def VI (h:H) (v:V) (l:List Int):Prop := ∃ a c,v = .slice a l.length c/\(a=none->c = .fix 0/\l=[])/\c.fits l.length 1/\(l≠[] -> ∃ b o cs ro,a=some (b,o)/\b<h.nx/\h.get b=some (.cells cs ro) /\ ∀ (i:Nat) (x:Int),l[i]?=some x->cs[o+i]?=some (.i x))
theorem VI.keep {h h':H} {v:V} {l:List Int} (a:VI h v l) (hx:h.nx<=h'.nx) (hk : ∀ z,v.at?=some z->h'.get z=h.get z):VI h' v l:=by
 obtain ⟨a,c,rfl,n,f,g⟩:=a
 refine ⟨a,c,rfl,n,f,fun hl=>?_⟩
 obtain ⟨b,o,cs,ro,rfl,h1,h2,h3⟩:=g hl
 exact ⟨b,o,cs,ro,rfl,by omega,by rw [hk b rfl,h2],h3⟩
theorem VI.nil (h:H):VI h .nils []:=⟨none,.fix 0,rfl,fun _=>⟨rfl,rfl⟩,zr _,fun h=>zM rfl h⟩
theorem VI.one {h:H} {v:V} {l:List Int} (a:VI h v l):v.one=true:=by obtain ⟨a,c,rfl,_⟩:=a;rfl
section
variable {call:Call} {fuel base:Nat} {ops:List Ins} {keep:List Nat} {K:List Fr} {e:Env} {h:H} {Q:Post} {ix:Nat} {dst at_:Option Nat}
theorem Ops.cut_l {x lo:Opd} {v:V} {l:List UInt8} {m:Nat} (hx:x.ev e=some v) (hv:VB h v l) (hlo:lo.ev e=some (.i (m:Int))) (hm:m<=l.length)
  (k : ∀ v',VB h v' (l.drop m)->(∀ z,v'.at?=some z->v.at?=some z)->Ops call fuel base ops keep K (layv e dst v') h Q):Ops call fuel base (⟨ix,dst,.slice 1 x (some lo) none none,none,at_,[]⟩ :: ops) keep K e h Q:=by
 obtain ⟨a,c,rfl,n,f,g⟩:=hv
 cases a with
 | none=>
  obtain ⟨rfl,rfl⟩:=n rfl
  obtain rfl:m=0:=by simpa using hm
  refine zau (v := .nils) rfl ?_ (k .nils (VB.nil h) fun z hz=>by cases hz)
  simp only [I.pure,hx,evo,hlo]
  rfl
 | some p=>
  obtain ⟨b,o⟩:=p
  refine Ops.slice_l hx hlo hm f (k _ ⟨some (b,o+m*1),c.less m,by simp,fun e=>by (cases e),by simpa using jhC f hm,fun hl=>?_⟩ fun z hz=>hz)
  obtain ⟨b',o',cs,ro,e0,h1,h2,h3⟩:=g (by rintro rfl;simp at hl)
  cases e0
  refine ⟨b,o+m*1,cs,ro,rfl,h1,h2,fun i x hi=>?_⟩
  rw [zn] at hi
  rw [show o+m*1+i=o+(m+i) by omega]
  exact h3 _ _ hi
theorem Ops.cut_h {x hi:Opd} {v:V} {l:List UInt8} {m:Nat} (hx:x.ev e=some v) (hv:VB h v l) (hhi:hi.ev e=some (.i (m:Int))) (hm:m<=l.length)
  (k : ∀ v',VB h v' (l.take m)->(∀ z,v'.at?=some z->v.at?=some z)->Ops call fuel base ops keep K (layv e dst v') h Q):Ops call fuel base (⟨ix,dst,.slice 1 x none (some hi) none,none,at_,[]⟩ :: ops) keep K e h Q:=by
 obtain ⟨a,c,rfl,n,f,g⟩:=hv
 have hl':(l.take m).length=m:=by simp;omega
 cases a with
 | none=>
  obtain ⟨rfl,rfl⟩:=n rfl
  obtain rfl:m=0:=by simpa using hm
  refine zau (v := .nils) rfl ?_ (k .nils (VB.nil h) fun z hz=>by cases hz)
  simp only [I.pure,hx,evo,hhi]
  rfl
 | some p=>
  obtain ⟨b,o⟩:=p
  refine Ops.slice_h hx hhi hm f (k _ ⟨some (b,o),c,by rw [hl'],fun e=>by (cases e),by rw [hl'];exact jlh f hm,fun hl=>?_⟩ fun z hz=>hz)
  obtain ⟨b',o',cs,ro,e0,h1,h2,h3⟩:=g (by rintro rfl;simp at hl)
  cases e0
  refine ⟨b,o,cs,ro,rfl,h1,h2,fun i x hi=>h3 _ _ ?_⟩
  rw [zQ] at hi
  by_cases hc:i<m
  ·rwa [zG hc] at hi
  ·rw [zF hc] at hi;cases hi
end
structure ROk (h:H) (rw q:Nat) (r:RX):Prop where
 b : ∀ k,k=0\/k=1->VB h (r.v k) ((r.x.e k).ring.getD []) /\ ∀ z,(r.v k).at?=some z->z≠q/\z≠rw/\z<h.nx
 w:VI h r.vw r.x.waiting /\ ∀ z,r.vw.at?=some z->z≠q/\z≠rw/\z<h.nx
theorem ROk.keep {h h':H} {rw q:Nat} {r:RX} (a:ROk h rw q r) (c:Ch (fun j=>j=q\/j=rw) h h'):ROk h' rw q r:=by
 refine ⟨fun k hk=>?_,?_⟩
 ·obtain ⟨p,s⟩:=a.b k hk
  refine ⟨p.keep c.nx fun z hz=>c.get z (s z hz).2.2 fun e=>?_,fun z hz=>⟨(s z hz).1,(s z hz).2.1,zu (s z hz).2.2 c.nx⟩⟩
  rcases e with e | e
  ·exact (s z hz).1 e
  ·exact (s z hz).2.1 e
 ·obtain ⟨p,s⟩:=a.w
  refine ⟨p.keep c.nx fun z hz=>c.get z (s z hz).2.2 fun e=>?_,fun z hz=>⟨(s z hz).1,(s z hz).2.1,zu (s z hz).2.2 c.nx⟩⟩
  rcases e with e | e
  ·exact (s z hz).1 e
  ·exact (s z hz).2.1 e
structure RW (h:H) (rw q:Nat) (l:List RX) (tl:List V):Prop where
 lw:rw<h.nx
 lq:q<h.nx
 ne:rw≠q
 at_:l≠[]->RAt h rw q l tl
 nil:l=[]->h.get rw=some (.cells (.nils :: tl) false)
 ok : ∀ r∈l,ROk h rw q r
abbrev RC (rw q:Nat):Nat->Prop:=fun j=>j=q\/j=rw
theorem RW.rat {h:H} {rw q n:Nat} {l:List RX} {tl:List V} {r:RX} (w:RW h rw q l tl) (hr:l[n]?=some r):RAt h rw q l tl:=w.at_ (by rintro rfl;simp at hr)
theorem RW.rok {h:H} {rw q n:Nat} {l:List RX} {tl:List V} {r:RX} (w:RW h rw q l tl) (hr:l[n]?=some r):ROk h rw q r:=w.ok r (zb hr)
theorem RW.head {h:H} {rw q:Nat} {l:List RX} {tl:List V} (w:RW h rw q l tl) : ∃ a c,h.get rw=some (.cells (.slice a l.length c :: tl) false)/\(l≠[]->a=some (q,0)/\c = .grow 20):=by
 by_cases hl:l=[]
 ·subst hl;exact ⟨none,.fix 0,w.nil rfl,fun h=>zM rfl h⟩
 ·exact ⟨_,_,(w.at_ hl).hw,fun _=>⟨rfl,rfl⟩⟩
theorem RW.set {h h':H} {rw q n:Nat} {l:List RX} {tl:List V} {r r':RX} (w:RW h rw q l tl) (hr:l[n]?=some r) (u:Upd q (.cells (rows (l.set n r')) false) h h') (hk:ROk h rw q r'):RW h' rw q (l.set n r') tl:=by
 have ch:Ch (RC rw q) h h':=u.ch (.inl rfl)
 refine ⟨by rw [u.nx];exact w.lw,by rw [u.nx];exact w.lq,w.ne,fun _=>(w.rat hr).upd u Zd,fun e=>?_,fun s hs=>?_⟩
 ·have h1:=congrArg List.length e
  have h2:=r_lt hr
  simp only [List.length_set,List.length_nil] at h1
  omega
 ·rcases List.mem_or_eq_of_mem_set hs with h1 | rfl
  ·exact (w.ok s h1).keep ch
  ·exact hk.keep ch
theorem ROk.same {h:H} {rw q:Nat} {r r':RX} (a:ROk h rw q r) (h0:r'.v0=r.v0) (h1:r'.v1=r.v1) (hw:r'.vw=r.vw) (e0:r'.x.e0.ring=r.x.e0.ring) (e1:r'.x.e1.ring=r.x.e1.ring) (e2:r'.x.waiting=r.x.waiting):ROk h rw q r':=by
 refine ⟨fun k hk=>?_,by rw [hw,e2];exact a.w⟩
 have:=a.b k hk
 rcases hk with rfl | rfl
 ·simp only [RX.v,Wi.e] at this ⊢;rw [h0,e0];exact this
 ·simp only [RX.v,Wi.e] at this ⊢;rw [h1,e1];exact this
theorem ROk.came {h:H} {rw q k:Nat} {r:RX} (a:ROk h rw q r) (hk:k=0\/k=1) (i o:Bool):ROk h rw q (r.came k i o):=by
 rcases hk with rfl | rfl
 ·exact a.same rfl rfl rfl rfl rfl rfl
 ·exact a.same rfl rfl rfl rfl rfl rfl
section
variable {cl:Nat->Call} (hcl:Sem cl)
include hcl
theorem jhm {d rw q n k:Nat} {h:H} {l:List RX} {tl:List V} {r:RX} (hd:1<=d) (w:RW h rw q l tl) (hr:l[n]?=some r) (hk:k=0\/k=1) (i o:Bool) :
  ∃ h',cl d (.fn 114) [.p rw 0,.i (n:Int),.i (k:Int),.bool i,.bool o] h=some (.tup [],h')/\RW h' rw q (l.set n (r.came k i o)) tl/\Ch (RC rw q) h h':=by
 obtain ⟨h',e,u⟩:=rw_rise hcl hd (w.rat hr) hr hk i o
 exact ⟨h',e,w.set hr u ((w.rok hr).came hk i o),u.ch (.inl rfl)⟩
def IsAt (l:List RX) (n k:Nat) (fd:Int):Prop := ∃ r,l[n]?=some r/\(k=0\/k=1)/\(r.x.e k).what=1/\(r.x.e k).fd=fd
theorem rp_at {d rw q:Nat} {h:H} {l:List RX} {tl:List V} {fd:Int} (hd:1<=d) (w:RW h rw q l tl) (hlen:l.length<=1000) :
  ∃ n k:Int,cl d (.fn 61) [.p rw 0,.i fd] h=some (.tup [.i n,.i k],h)/\((n = -1/\k = -1 /\ ∀ n k,¬ IsAt l n k fd) \/ ∃ n' k':Nat,n=n'/\k=k'/\IsAt l n' k' fd):=by
 suffices k : ∃ v h',cl d (.fn 61) [.p rw 0,.i fd] h=some (v,h') /\ ∃ n k:Int,v = .tup [.i n,.i k]/\h'=h/\((n = -1/\k = -1 /\ ∀ n k,¬ IsAt l n k fd) \/ ∃ n' k':Nat,n=n'/\k=k'/\IsAt l n' k' fd) by
  obtain ⟨_,_,e,n,k,rfl,rfl,p⟩:=k;exact ⟨n,k,e,p⟩
 refine aT hcl ?_
 obtain ⟨a,c,hw,hac⟩:=w.head
 refine Ga ?_
 refine Zx (fun m e g=>∃ n:Nat,m=l.length-n/\n<=l.length/\e=[(0,.p rw 0),(1,.i fd),(6,.i n)]/\g=h /\ ∀ n' k',n'<n -> ¬ IsAt l n' k' fd)
  (k:=l.length) Ze ⟨0,rfl,by omega,rfl,rfl,fun _ _ h=>by omega⟩ ?_
 rintro _ _ h ⟨n,rfl,hn,rfl,rfl,hno⟩ f ih
 by_cases hlt:n<l.length
 case neg=>
  refine Ga ?_
  refine ⟨-1,-1,rfl,rfl,.inl ⟨rfl,rfl,fun n' k' hat=>?_⟩⟩
  obtain ⟨r,hr,_⟩:=id hat
  exact hno n' k' (by have:=r_lt hr;omega) hat
 obtain ⟨rfl,rfl⟩:=hac (by rintro rfl;simp at hlt)
 obtain ⟨r,hr⟩ : ∃ r,l[n]?=some r:=⟨_,za hlt⟩
 have hq:=(w.rat hr).hq
 have hn1:((n+1:Nat):Int)=(n:Int)+1:=by omega
 refine Ga ?_
 refine Zx (fun m e g=>∃ k:Nat,m=2-k/\k<=2/\e=[(0,.p rw 0),(1,.i fd),(6,.i n),(7,.i k)]/\g=h /\ ∀ k',k'<k -> ¬ IsAt l n k' fd)
  (k:=2) Ze ⟨0,rfl,by omega,rfl,rfl,fun _ h=>by omega⟩ ?_
 rintro _ _ h ⟨k,rfl,hk,rfl,rfl,hno2⟩ f2 ih2
 by_cases hk2:k<2
 case neg=>
  obtain rfl:k=2:=by omega
  clear ih2
  refine Ga ?_
  refine ih (l.length-(n+1)) om _ _ ⟨n+1,rfl,by omega,by rw [hn1],rfl,fun n' k' hlt' hat=>?_⟩
  rcases zA n' n with h1 | h1
  ·exact hno n' k' h1 hat
  ·obtain rfl:n'=n:=by omega
   obtain ⟨_,_,hkk,_⟩:=id hat
   exact hno2 k' om hat
 have hk01:k=0\/k=1:=by omega
 have q1:=jiu hr hk01
 have q2:=r_fd hr hk01
 have hk1:((k+1:Nat):Int)=(k:Int)+1:=by omega
 by_cases h1:(r.x.e k).what=1
 case neg=>
  refine Ga ?_
  refine ih2 (2-(k+1)) om _ _ ⟨k+1,rfl,by omega,by rw [hk1],rfl,fun k' hlt' hat=>?_⟩
  rcases zA k' k with h2 | h2
  ·exact hno2 k' h2 hat
  ·obtain rfl:k'=k:=by omega
   obtain ⟨r',hr',_,hw1,_⟩:=hat
   rw [hr] at hr';cases hr';exact h1 hw1
 by_cases h2:(r.x.e k).fd=fd
 case neg=>
  refine Ga ?_
  refine ih2 (2-(k+1)) om _ _ ⟨k+1,rfl,by omega,by rw [hk1],rfl,fun k' hlt' hat=>?_⟩
  rcases zA k' k with h3 | h3
  ·exact hno2 k' h3 hat
  ·obtain rfl:k'=k:=by omega
   obtain ⟨r',hr',_,_,hw1⟩:=hat
   rw [hr] at hr';cases hr';exact h2 hw1
 clear ih ih2
 refine Ga ?_
 exact ⟨n,k,rfl,rfl,.inr ⟨n,k,rfl,rfl,r,hr,hk01,h1,h2⟩⟩
end
theorem jmy {buf q:List UInt8} {frm cap k mm a:Nat} (W:RingV buf q frm cap) (ha:(frm+k)%cap=a) (h1:a+mm<=cap) (h2:k+mm<=q.length):((bts buf).drop a).take mm=bts ((q.drop k).take mm):=by
 refine zW fun i=>?_
 rw [zQ,List.getElem?_map,zQ]
 by_cases hi:i<mm
 ·rw [zG hi,zG hi,zn,zn,List.getElem?_map]
  have e1:=jeD (x:=frm+k) (i:=i) (c:=cap) om
  have:=W.at_ (k+i) om
  rw [<- Nat.add_assoc,e1,ha] at this
  rw [this]
 ·rw [zF hi,zF hi];rfl
section
variable {cl:Nat->Call} (hcl:Sem cl)
include hcl
theorem rp_look {d r bb cap frm:Nat} {h0:H} {buf q:List UInt8} {inn out n:Int} (hd:6<=d) (C:RingC h0 r bb buf frm q.length cap inn out) (W:RingV buf q frm cap) (hr:r<h0.nx) (hbb:bb<h0.nx) :
  ∃ v h',cl d (.fn 135) [.p r 0,.i n] h0=some (v,h')/\Row h0.nx h' 1 v (min n q.length).toNat (bts (q.take (min n q.length).toNat))/\((min n q.length).toNat=0->v = .nils)/\Ch (fun _=>False) h0 h':=by
 have hlen:=jlF hcl (d:=d-1) om (h:=h0.new (.cells [.nils] false)) ⟨by rw [jac hr,C.hr],by rw [jac hbb,C.hb]⟩
 have hC:=(jac (h:=h0) (o := .cells [.nils] false) hr).trans C.hr
 have w1:=W.fit
 have w2:=W.small
 have w3:=W.flt
 refine aT hcl ?_
 refine Ga ?_
 refine zcu rfl rfl ?_
 by_cases hpos:0<min n (q.length:Int)
 case neg=>
  refine Gb ?_
  rw [show (min n (q.length:Int)).toNat=0 by omega]
  exact ⟨Row.nil _ _ _,fun _=>rfl,Ch.new⟩
 generalize hm:(min n (q.length:Int)).toNat=m
 have hmn:min n (q.length:Int)=(m:Int):=by omega
 rw [hmn] at hpos
 have hmq:m<=q.length:=by omega
 have hbox:=jjE hcl (d:=d-1) (r:=r) (h:=h0.new (.cells [.nils] false)) (f:=(frm:Int)) (n:=min n (q.length:Int)) om
 refine Gb ?_
 clear hbox hlen
 rw [hmn]
 generalize hH:(((h0.new (.cells [.nils] false)).new (.cells [.p r 0] false)).new (.cells [.i (frm:Int)] false)).new (.cells [.i (m:Int)] false)=H1
 have x1:H1.nx=h0.nx+4:=by rw [<- hH];rfl
 have g0:H1.get h0.nx=some (.cells [.nils] false):=by rw [<- hH];exact qgt
 have g1:H1.get (h0.nx+1)=some (.cells [.p r 0] false):=by rw [<- hH];exact qgt
 have g2:H1.get (h0.nx+2)=some (.cells [.i (frm:Int)] false):=by rw [<- hH];exact qgt
 have g3:H1.get (h0.nx+3)=some (.cells [.i (m:Int)] false):=by rw [<- hH];exact qgt
 have gj : ∀ j,j<h0.nx->H1.get j=h0.get j:=by
  intro j hj
  rw [<- hH,jac Zc,jac Zc,jac Zc,jac hj]
 clear hH hC
 refine Zz rfl qkp fun LO hLO=>?_
 rw [x1]
 have hne23:h0.nx+3≠h0.nx+2:=by omega
 obtain ⟨v,h',hc,⟨sv,k1,k3⟩,k2,⟨k7,k6⟩,k8⟩:=jhn hcl (d:=d-1) (L:=h0.nx+4) (nb:=h0.nx+3) (fb:=h0.nx+2) (rb:=h0.nx+1) (r:=r) (bb:=bb) (cap:=cap) (f0:=frm) (n0:=m)
  om hne23 om w2 om om
  (fun k g=>(∃ sv,g.get h0.nx=some (.cells [sv] false)/\Row (h0.nx+5) g 1 sv k (bts (q.take k)))/\g.get (h0.nx+4)=some (LO .ready none) /\
   (g.get (h0.nx+1)=some (.cells [.p r 0] false)/\h0.nx+5<=g.nx) /\ ∀ j,j<h0.nx->g.get j=h0.get j)
  (by
   rintro k g g' ⟨⟨sv,i1,ir⟩,i2,⟨i5,i6⟩,i7⟩ hg hx
   exact ⟨⟨sv,by rw [hg _ om om,i1],ir.keep om fun z hz=>by have:=ir.at_ge hz;exact hg _ om om⟩,by rw [hg _ om om,i2],⟨by rw [hg _ om om,i5],by omega⟩,fun j hj=>by rw [hg _ om om,i7 j hj]⟩)
  (by
   rintro k g ⟨i1,i2,⟨i5,i6⟩,i7⟩
   exact ⟨i5,_,by rw [i7 r hr,C.hr]⟩)
  (by
   rintro k g mm ⟨⟨sv,i1,ir⟩,i2,⟨i5,i6⟩,i7⟩ hk hmm gn gf
   have hmod:=Nat.mod_lt (frm+k) (show 0<cap by omega)
   generalize hat:(frm+k)%cap=at1 at hmod hmm
   have hmm1:0<mm:=by omega
   have hmm2:k+mm<=m:=by omega
   have hmm3:at1+mm<=cap:=by omega
   have hpc:=jmy W hat hmm3 (show k+mm<=q.length by omega)
   have hsrc:g.get bb=some (.cells (bts buf) false):=by rw [i7 bb hbb,C.hb]
   refine jai (yl_ hcl om hLO i2 rfl ?_)
   refine Ga ?_
   refine Zv ⟨rfl,i2,?_⟩
   refine Gb ?_
   have ir':Row (h0.nx+5) (g.set (h0.nx+4) (LO .busy none)) 1 sv k (bts (q.take k)):=ir.keep Zd fun z hz=>by have:=ir.at_ge hz;exact jaa om
   refine Ops.appendN (N:=h0.nx+5) rfl rfl ir' (by simpa using i6) hmm1 (ro:=false) (by rw [jaa om,hsrc]) (by have:=W.len;simp;omega) (by rw [Nat.mul_one];exact hpc) (jls _) om om om fun v' h2 q1 q2 q3 q4=>?_
   simp only [H.nx_set] at q2 q3 q4
   have q5 : ∀ j,j<h0.nx+5->h2.get j=(g.set (h0.nx+4) (LO .busy none)).get j:=fun j hj=>q4 j om fun hv=>by have:=(ir.at_ge hv).1;omega
   have b0:h2.get h0.nx=some (.cells [sv] false):=by rw [q5 _ om];exact qgt
   have hone:=q1.one
   refine zcs rfl rfl hone b0 zP ?_
   refine Gb ?_
   refine Zv ⟨⟨.busy,none,by rw [jaa om,q5 _ om,jab]⟩,rfl,⟨⟨v',qgt,?_⟩,jab _,⟨?_,by simp;omega⟩,fun j hj=>?_⟩,?_,?_⟩
   ·have e:bts (q.take k)++bts ((q.drop k).take mm)=bts (q.take (k+mm)):=by rw [<- List.map_append,List.take_add]
    rw [<- e]
    refine q1.keep Zd fun z hz=>?_
    rw [q3] at hz;cases hz
    rw [jaa om,jaa om]
   ·rw [jaa om,jaa om,q5 _ om,jaa om,i5]
   ·rw [jaa om,jaa om,q5 _ om,jaa om,i7 j hj]
   ·rw [jaa om,jaa om,q5 _ om,jaa om]
   ·rw [jaa om,jaa om,q5 _ om,jaa om])
  (h:=H1.new (LO .ready none))
  ⟨⟨.nils,by rw [jac om,g0],Row.nil _ _ _⟩,by rw [<- x1,jad],⟨by rw [jac om,g1],by simp [x1]⟩,fun j hj=>by rw [jac om,gj j hj]⟩
  (by rw [jac om,g3]) (by rw [jac om,g2])
 refine ⟨v,h',hc,.normal,k2,?_⟩
 have k9:(h'.kill (h0.nx+4)).get h0.nx=some (.cells [sv] false):=by rw [jae om,k1]
 refine Gb ?_
 exact ⟨(k3.keep Zd fun z hz=>by have:=k3.at_ge hz;exact jae om).weaken om,fun hz=>by omega,by simp;omega,fun j hj _=>by rw [jae om,k8 j hj]⟩
theorem jn6 {d r bb cap:Nat} {h0:H} {q:List UInt8} {n:Int} (hd:7<=d) (R:ja5 h0 r bb q cap) (hr:r<h0.nx) (hbb:bb<h0.nx) (hrb:r≠bb) :
  ∃ v h',cl d (.fn 112) [.p r 0,.i n] h0=some (v,h')/\Row h0.nx h' 1 v (min n q.length).toNat (bts (q.take (min n q.length).toNat))/\((min n q.length).toNat=0->v = .nils)/\ja5 h' r bb (q.drop (min n q.length).toNat) cap/\Ch (fun j=>j=r) h0 h':=by
 have R0:=R
 obtain ⟨buf,frm,inn,out,C,W⟩:=R
 obtain ⟨v,h1,e1,row,hnil,ch⟩:=rp_look hcl (d:=d-1) (n:=n) om C W hr hbb
 have c1:=(ch.get r hr id).trans C.hr
 have c2:=(ch.get bb hbb id).trans C.hb
 have w1:=W.fit
 have w2:=W.small
 have w3:=W.flt
 refine aT hcl ?_
 generalize hm:(min n (q.length:Int)).toNat=m at row hnil ⊢
 have hmq:m<=q.length:=by omega
 obtain ⟨c,⟨a,rfl⟩,hrow⟩:=row.shape
 by_cases h00:m=0
 ·subst h00
  refine Gb ?_
  exact ⟨row,hnil,by simpa using R0.keep (ch.get r hr id) (ch.get bb hbb id),ch.weaken fun j _ hj=>hj.elim⟩
 refine Gb ?_
 refine Ops.remN rfl rfl om ?_
 refine Gb ?_
 refine ⟨row.keep Zd fun z hz=>?_,hnil,ja5.of (frm:=(frm+m)%cap) (buf:=buf) (jab _) ?_ rfl ?_ ⟨W.len,Nat.mod_lt _ om,by simp;omega,w2,fun i hi=>?_⟩,?_⟩
 ·have:=row.at_ge hz
  have:z≠r:=by omega
  rw [jaa this,jaa this,jaa this]
 ·rw [jaa (Ne.symm hrb),jaa (Ne.symm hrb),jaa (Ne.symm hrb),c2]
 ·simp only [List.length_drop];omega
 ·simp only [List.length_drop] at hi
  have:=W.at_ (m+i) om
  rw [zn,<- this]
  congr 1
  rw [Nat.mod_add_mod]
  congr 1;omega
 ·refine ⟨by simp;exact ch.nx,fun j hj hn=>?_⟩
  have:j≠r:=hn
  rw [jaa this,jaa this,jaa this,ch.get j hj id]
end
def two (a b:Nat):Nat->Nat
 | 0=>a
 | _=>b
theorem Wi.ring_cell {x:Wi} {r0 r1 k:Nat} {wv:V} {q:List UInt8} (hk:k=0\/k=1) (hq:(x.e k).ring=some q) {o:Nat} (ho:o=k*7+2):(x.cells r0 r1 wv)[o]?=some (.p (two r0 r1 k) 0):=by
 subst ho
 rcases hk with rfl | rfl
 ·have hq:x.e0.ring=some q:=hq
  simp [Wi.cells,En.cells,hq,En.ptr,two]
 ·have hq:x.e1.ring=some q:=hq
  simp [Wi.cells,En.cells,hq,En.ptr,two]
theorem Wi.what_cell {x:Wi} {r0 r1 k:Nat} {wv:V} (hk:k=0\/k=1) {o:Nat} (ho:o=k*7):(x.cells r0 r1 wv)[o]?=some (.i (x.e k).what):=by
 subst ho;rcases hk with rfl | rfl<;>simp [Wi.cells,En.cells,Wi.e]
theorem Wi.shut_cell {x:Wi} {r0 r1 k:Nat} {wv:V} (hk:k=0\/k=1) {o:Nat} (ho:o=k*7+4):(x.cells r0 r1 wv)[o]?=some (.bool (x.e k).shut):=by
 subst ho;rcases hk with rfl | rfl<;>simp [Wi.cells,En.cells,Wi.e]
theorem Wi.writes_cell {x:Wi} {r0 r1 k:Nat} {wv:V} (hk:k=0\/k=1) {o:Nat} (ho:o=k*7+3):(x.cells r0 r1 wv)[o]?=some (.bool (x.e k).writes):=by
 subst ho;rcases hk with rfl | rfl<;>simp [Wi.cells,En.cells,Wi.e]
theorem Wi.reset_cell {x:Wi} {r0 r1:Nat} {wv:V} {o:Nat} (ho:o=14):(x.cells r0 r1 wv)[o]?=some (.bool x.reset):=by
 subst ho;simp [Wi.cells,En.cells]
theorem Wi.backlog_cell {x:Wi} {r0 r1:Nat} {wv:V} {o:Nat} (ho:o=15):(x.cells r0 r1 wv)[o]?=some (.i x.backlog):=by
 subst ho;simp [Wi.cells,En.cells]
theorem Wi.cells_length (x:Wi) (r0 r1:Nat) (wv:V):(x.cells r0 r1 wv).length=17:=by simp [Wi.cells,En.cells]
def Wi.setq (x:Wi) (k:Nat) (q:List UInt8):Wi:=x.put k { x.e k with ring:=some q }
theorem Wi.setq_cells {x:Wi} {r0 r1 k:Nat} {wv:V} {q q':List UInt8} (hk:k=0\/k=1) (hq:(x.e k).ring=some q):(x.setq k q').cells r0 r1 wv=x.cells r0 r1 wv:=by
 rcases hk with rfl | rfl
 ·have hq:x.e0.ring=some q:=hq
  simp [Wi.setq,Wi.put,Wi.e,Wi.cells,En.cells,hq,En.ptr]
 ·have hq:x.e1.ring=some q:=hq
  simp [Wi.setq,Wi.put,Wi.e,Wi.cells,En.cells,hq,En.ptr]
def Wi.take (x:Wi) (k m:Nat) (q:List UInt8):Wi:=(x.setq k (q.drop m)).came (1-k) false (decide (0<m))
def Wi.fill (x:Wi) (k m:Nat) (q l:List UInt8):Wi:=(x.setq (1-k) (q++l.take m)).came (1-k) (decide (0<m)) false
def Wi.doShut (x:Wi) (k:Nat):Wi:=if (x.e k).shut=true then x else (x.put k { x.e k with shut:=true }).came (1-k) true false
section
variable {cl:Nat->Call} (hcl:Sem cl)
include hcl
theorem jnh {d wb r0 r1 k b:Nat} {wv:V} {h0:H} {x:Wi} {n:Int} {q:List UInt8} (hd:8<=d) (hw:h0.get wb=some (x.obj r0 r1 wv)) (hk:k=0\/k=1) (hq:(x.e k).ring=some q) (R:ja5 h0 (two r0 r1 k) b q x.cap)
  (l1:wb<h0.nx) (l2:two r0 r1 k<h0.nx) (l3:b<h0.nx) (n1:two r0 r1 k≠b) (n2:wb≠two r0 r1 k) (n3:wb≠b) :
  ∃ v h',cl d (.fn 62) [.p wb 0,.i (k:Int),.i n] h0=some (v,h')/\Row h0.nx h' 1 v (min n q.length).toNat (bts (q.take (min n q.length).toNat))/\((min n q.length).toNat=0->v = .nils)/\h'.get wb=some ((x.take k (min n q.length).toNat q).obj r0 r1 wv) /\
   ja5 h' (two r0 r1 k) b (q.drop (min n q.length).toNat) x.cap/\Ch (fun j=>j=wb\/j=two r0 r1 k) h0 h':=by
 obtain ⟨v,h1,e1,row,hnil,R1,ch⟩:=jn6 hcl (d:=d-1) (n:=n) om R l2 l3 n1
 have hrc:=Wi.ring_cell (x:=x) (r0:=r0) (r1:=r1) (wv:=wv) hk hq (o:=0+0+(k:Int).toNat*7+2) om
 generalize hm:(min n (q.length:Int)).toNat=m at row hnil R1 ⊢
 have hw1:h1.get wb=some ((x.setq k (q.drop m)).obj r0 r1 wv):=by rw [ch.get wb l1 n2,hw,Wi.obj,Wi.obj,Wi.setq_cells hk hq]
 obtain ⟨h2,e2,u2⟩:=jfS hcl (d:=d-1) (k:=1-k) om hw1 om false (decide (0<m))
 obtain ⟨c,⟨a,rfl⟩,hrow⟩:=row.shape
 have ek:(1:Int)-(k:Int)=((1-k:Nat):Int):=by omega
 have eb:decide (0<(m:Int))=decide (0<m):=by simp
 have hx:((x.setq k (q.drop m)).came (1-k) false (decide (0<m)))=x.take k m q:=rfl
 rw [hx] at u2
 have hnx:=ch.nx
 have hw:=hw
 unfold Wi.obj at hw
 refine aT hcl ?_
 refine Ga ?_
 rw [ek,eb]
 refine Ga ?_
 refine ⟨row.keep (by rw [u2.nx];exact zr _) fun z hz=>?_,hnil,u2.self,R1.keep (u2.get _ n2.symm) (u2.get _ n3.symm),by rw [u2.nx];exact hnx,fun j hj hn=>?_⟩
 ·have:=row.at_ge hz
  exact u2.get _ om
 ·rw [u2.get j (fun e=>hn (.inl e)),ch.get j hj (fun e=>hn (.inr e))]
theorem jnj {d wb r0 r1 k b:Nat} {wv:V} {h0:H} {x:Wi} {q l:List UInt8} {a:Option (Nat × Nat)} {c:Cap} (hd:7<=d) (hw:h0.get wb=some (x.obj r0 r1 wv)) (hk:k=0\/k=1) (hq:(x.e (1-k)).ring=some q) (R:ja5 h0 (two r0 r1 (1-k)) b q x.cap)
  (l1:wb<h0.nx) (l2:two r0 r1 (1-k)<h0.nx) (l3:b<h0.nx) (n1:two r0 r1 (1-k)≠b) (n2:wb≠two r0 r1 (1-k)) (n3:wb≠b) (hl:BytesAt h0 a c l) (hll:l.length<=1000000000)
  (hne : ∀ z o,a=some (z,o)->l≠[]->z≠b/\z≠two r0 r1 (1-k)) :
  ∃ h',cl d (.fn 64) [.p wb 0,.i (k:Int),.slice a l.length c] h0=some (.i ((min l.length (x.cap-q.length):Nat):Int),h')/\h'.get wb=some ((x.fill k (min l.length (x.cap-q.length)) q l).obj r0 r1 wv) /\
   ja5 h' (two r0 r1 (1-k)) b (q++l.take (min l.length (x.cap-q.length))) x.cap/\Ch (fun j=>j=wb\/j=two r0 r1 (1-k)\/j=b) h0 h':=by
 obtain ⟨h1,e1,R1,ch⟩:=rp_put hcl (d:=d-1) om R l2 l3 n1 hl hll hne
 have ek:(1:Int)-(k:Int)=((1-k:Nat):Int):=by omega
 have hk':1-k=0\/1-k=1:=by omega
 have hrc:=Wi.ring_cell (x:=x) (r0:=r0) (r1:=r1) (wv:=wv) hk' hq (o:=0+0+((1:Int)-(k:Int)).toNat*7+2) om
 generalize hm:min l.length (x.cap-q.length)=m at e1 R1 ⊢
 have hw1:h1.get wb=some ((x.setq (1-k) (q++l.take m)).obj r0 r1 wv):=by rw [ch.get wb l1 om,hw,Wi.obj,Wi.obj,Wi.setq_cells hk' hq]
 obtain ⟨h2,e2,u2⟩:=jfS hcl (d:=d-1) (k:=1-k) om hw1 hk' (decide (0<m)) false
 have eb:decide (0<(m:Int))=decide (0<m):=by simp
 have hx:((x.setq (1-k) (q++l.take m)).came (1-k) (decide (0<m)) false)=x.fill k m q l:=rfl
 rw [hx] at u2
 have hnx:=ch.nx
 have hw:=hw
 unfold Wi.obj at hw
 refine jai (aT hcl ?_)
 refine Ga ?_
 rw [ek,eb]
 refine Ga ?_
 refine ⟨rfl,u2.self,R1.keep (u2.get _ n2.symm) (u2.get _ n3.symm),by rw [u2.nx];exact hnx,fun j hj hn=>?_⟩
 rw [u2.get j (fun e=>hn (.inl e)),ch.get j hj (fun e=>hn (.inr e))]
theorem jni {d wb r0 r1 k:Nat} {wv:V} {h:H} {x:Wi} (hd:2<=d) (hw:h.get wb=some (x.obj r0 r1 wv)) (hk:k=0\/k=1) :
  ∃ h',cl d (.fn 66) [.p wb 0,.i (k:Int)] h=some (.tup [],h')/\Upd wb ((x.doShut k).obj r0 r1 wv) h h':=by
 refine jai (aT hcl ?_)
 have hsc:=Wi.shut_cell (x:=x) (r0:=r0) (r1:=r1) (wv:=wv) hk (o:=0+0+(k:Int).toNat*7+4) om
 have hw0:=hw
 unfold Wi.obj at hw
 by_cases hs:(x.e k).shut=true
 ·have hs' : ¬ (x.e k).shut=false:=by simp [hs]
  refine Ga ?_
  exact ⟨rfl,by rw [Wi.doShut,zG hs];exact Upd.refl hw0⟩
 ·have hs':(x.e k).shut=false:=by simpa using hs
  refine Ga ?_
  refine zcs rfl rfl rfl hw (by rw [Wi.cells_length];omega) ?_
  have e1:Obj.cells ((x.cells r0 r1 wv).set (0+0+(k:Int).toNat*7+4) (.bool true)) false=(x.put k { x.e k with shut:=true }).obj r0 r1 wv:=by
   rcases hk with rfl | rfl<;>rfl
  rw [e1]
  obtain ⟨h2,e2,u2⟩:=jfS hcl (d:=d-1) (k:=1-k) om (jab (h:=h) (b:=wb) ((x.put k { x.e k with shut:=true }).obj r0 r1 wv)) om true false
  have ek:(1:Int)-(k:Int)=((1-k:Nat):Int):=by omega
  refine Ga ?_
  rw [ek]
  refine Ga ?_
  refine ⟨rfl,?_⟩
  rw [Wi.doShut,zF hs]
  exact Upd.set.trans u2
end
abbrev ZB:=@Wi.reset_cell
theorem VB.ofRow {h:H} {v:V} {q:List UInt8} {N:Nat} (r:Row N h 1 v q.length (bts q)):VB h v q /\ ∀ z,v.at?=some z->N<=z/\z<h.nx:=by
 refine ⟨?_,fun z hz=>r.at_ge hz⟩
 rcases r with ⟨h1,h2,rfl⟩ | ⟨b,h1,h2,rfl,h4,h5⟩
 ·have:q=[]:=by simpa using h1
  subst this;exact VB.nil h
 ·exact ⟨_,_,rfl,fun e=>by (cases e),rfl,fun _=>⟨b,0,_,false,rfl,h2,h4,fun i x hi=>by rw [zS];exact jjv hi⟩⟩
section
variable {call:Call} {fuel base:Nat} {ops:List Ins} {keep:List Nat} {K:List Fr} {e:Env} {h:H} {Q:Post} {ix:Nat} {dst:Option Nat} {c:List (Nat × I × Option (Nat × Bool))}
theorem Ops.appB {N:Nat} {x y:Opd} {sv v:V} {q l:List UInt8} (hx:x.ev e=some sv) (hy:y.ev e=some v) (r:Row N h 1 sv q.length (bts q)) (hN:N<=h.nx) (hv:VB h v l) (hn:q.length+l.length<=1000000000)
  (hc : ∀ h':H,h.nx<=h'.nx->(∀ j,j<h.nx->sv.at?≠some j->h'.get j=h.get j)->jaO e h' c=true)
  (k : ∀ v' h',Row N h' 1 v' (q++l).length (bts (q++l))->h.nx<=h'.nx->(∀ j,j<h.nx->sv.at?≠some j->h'.get j=h.get j)->Ops call fuel base ops keep K (layv e dst v') h' Q) :
  Ops call fuel base (⟨ix,dst,.append 1 1 x y,none,none,c⟩ :: ops) keep K e h Q:=by
 obtain ⟨a,cp,rfl,n,f,g⟩:=hv
 by_cases hl:l=[]
 ·subst hl
  have hsrc:ja2 h 1 0 (.slice a 0 cp)=some []:=by cases a<;>rfl
  refine Ops.step_chk (v:=sv) (h':=h) (Zw rfl ?_) (hc h (zr _) fun _ _ _=>rfl) (k sv h (by simpa using r) (zr _) fun _ _ _=>rfl)
  obtain ⟨cap,⟨sa,rfl⟩,_⟩:=r.shape
  simp only [I.eff,hx,hy,jaK,lenOf,List.length_nil,hsrc]
  have hcond:(Nat.ble ((q.length+0)*1) (2 ^ 46)&&Nat.ble (q.length+0) (2 ^ 46))=true:=by simp only [zq,zT];omega
  rw [hcond];rfl
 ·obtain ⟨b,o,cs,ro,rfl,h1,h2,h3⟩:=g hl
  have hpos:0<l.length:=by cases l<;>simp_all
  obtain ⟨p1,p2⟩:=jdP (k:=0) (m:=l.length) h3 om hpos
  rw [zl,zh (zr _)] at p2
  obtain ⟨v',h',e1,e2,e3,e4,e5⟩:=jfj (bytes:=1) (cap:=cp) (m:=l.length) (so:=o) (new:=bts l) r hN hpos h2 om (by rw [Nat.mul_one];exact p2) (jls l) om om om
  refine Ops.step_chk (Zw rfl (by simp only [I.eff,hx,hy,e1])) (hc h' om e5) (k v' h' ?_ om e5)
  rw [zg];simpa using e2
end
def RX.putv (r:RX) (k:Nat) (v:V) (b:List UInt8):RX:=match k with
 | 0=>{ r with x:=r.x.setq 0 b,v0:=v }
 | _=>{ r with x:=r.x.setq 1 b,v1:=v }
theorem RX.putv_cells {r:RX} {k:Nat} {v:V} {q b:List UInt8} (hk:k=0\/k=1) (hq:(r.x.e k).ring=some q):(r.putv k v b).cells=r.cells.set (k*8+4) v:=by
 obtain ⟨⟨e0,e1,cap,rs,bl,wt⟩,v0,v1,vw⟩:=r
 rcases hk with rfl | rfl<;>simp only [Wi.e] at hq<;>simp [RX.putv,Wi.setq,Wi.put,Wi.e,RX.cells,En.rcells,hq]
theorem ROk.putv {h:H} {rw q k:Nat} {r:RX} {v:V} {b:List UInt8} (a:ROk h rw q r) (hk:k=0\/k=1) (hv:VB h v b) (hz : ∀ z,v.at?=some z->z≠q/\z≠rw/\z<h.nx):ROk h rw q (r.putv k v b):=by
 refine ⟨fun j hj=>?_,?_⟩
 ·have ha:=a.b j hj
  rcases hk with rfl | rfl<;>rcases hj with rfl | rfl
  ·exact ⟨hv,hz⟩
  ·exact ha
  ·exact ha
  ·exact ⟨hv,hz⟩
 ·rcases hk with rfl | rfl<;>exact a.w
def RX.take (r:RX) (k m:Nat) (b:List UInt8) (v:V):RX:=(r.putv k v (b.drop m)).came (1-k) false (decide (0<m))
def RX.fill (r:RX) (k m:Nat) (b l:List UInt8) (v:V):RX:=(r.putv (1-k) v (b++l.take m)).came (1-k) (decide (0<m)) false
section
variable {cl:Nat->Call} (hcl:Sem cl)
include hcl
theorem jnA {d rw q n k:Nat} {h:H} {l:List RX} {tl:List V} {r:RX} {b:List UInt8} {many:Int} (hd:2<=d) (w:RW h rw q l tl) (hr:l[n]?=some r) (hk:k=0\/k=1) (hb:(r.x.e k).ring=some b) (h0:0<=many) :
  ∃ v v' h',cl d (.fn 63) [.p rw 0,.i (n:Int),.i (k:Int),.i many] h=some (v,h')/\VB h' v (b.take (min many b.length).toNat)/\RW h' rw q (l.set n (r.take k (min many b.length).toNat b v')) tl/\Ch (RC rw q) h h':=by
 suffices s : ∃ v h',cl d (.fn 63) [.p rw 0,.i (n:Int),.i (k:Int),.i many] h=some (v,h') /\ ∃ v',VB h' v (b.take (min many b.length).toNat)/\RW h' rw q (l.set n (r.take k (min many b.length).toNat b v')) tl/\Ch (RC rw q) h h' by
  obtain ⟨v,h',e,v',p⟩:=s;exact ⟨v,v',h',e,p⟩
 obtain ⟨hw,hq,hne⟩:=w.rat hr
 have q1:=r_b hr hk
 have hn:=r_lt hr
 obtain ⟨hv,hz⟩:=(w.rok hr).b k hk
 rw [hb] at hv
 simp only [Option.getD_some] at hv
 obtain ⟨a,c,hva,hba⟩:=id hv
 have hlen:0+(n:Int).toNat*20+0+(k:Int).toNat*8+4<(rows l).length:=by rw [ja4];omega
 have ek:(1:Int)-(k:Int)=((1-k:Nat):Int):=by omega
 generalize hm:(min many (b.length:Int)).toNat=m
 have hml:m<=b.length:=by omega
 have eb:decide (0<(m:Int))=decide (0<m):=by simp
 have main : ∀ (K:List Fr) (Q:Post) v',VB h v' (b.drop m)->(∀ z,v'.at?=some z->(r.v k).at?=some z) ->
   ∃ h2,cl (d-1) (.fn 114) [.p rw 0,.i (n:Int),.i (1-(k:Int)),.bool false,.bool (decide (0<(m:Int)))] (h.set q (.cells ((rows l).set (0+(n:Int).toNat*20+0+(k:Int).toNat*8+4) v') false))=some (.tup [],h2) /\
    VB h2 (r.v k) b/\RW h2 rw q (l.set n (r.take k m b v')) tl/\Ch (RC rw q) h h2:=by
  intro K Q v' hv' hz'
  rw [jie hr hk om (RX.putv_cells (r:=r) (v:=v') (b:=b.drop m) hk hb) om]
  have u1:Upd q (.cells (rows (l.set n (r.putv k v' (b.drop m)))) false) h (h.set q (.cells (rows (l.set n (r.putv k v' (b.drop m)))) false)):=ZA
  have w1:=w.set hr u1 ((w.rok hr).putv hk hv' fun z hzz=>hz z (hz' z hzz))
  obtain ⟨h2,e2,w2,c2⟩:=jhm hcl (d:=d-1) (k:=1-k) om w1 (get_set hr) om false (decide (0<m))
  rw [set_set] at w2
  refine ⟨h2,by rw [ek,eb];exact e2,hv.keep (by have:=c2.nx;simpa using this) fun z hzz=>?_,w2,(u1.ch (.inl rfl)).trans c2⟩
  have hzz':=hz z hzz
  rw [c2.get z (by simpa using hzz'.2.2) (fun e=>by rcases e with e | e;exact hzz'.1 e;exact hzz'.2.1 e),jaa hzz'.1]
 have fin : ∀ (K':List Fr) (Q':Post),True:=fun _ _=>trivial
 refine aT hcl ?_
 rw [hva] at q1
 by_cases hgt:(b.length:Int)<many
 ·have hmb:m=b.length:=by omega
  refine Ga ?_
  refine Ops.cut_l rfl (by rw [<- hva];exact hv) (by rw [<- hmb];rfl) hml fun v' hv' hz'=>?_
  obtain ⟨h2,e2,p1,p2,p3⟩:=main [] (fun _ _ _=>True) v' hv' (by rw [hva];exact hz')
  rw [hmb] at e2
  refine Ga ?_
  refine zcs rfl rfl hv'.one hq hlen ?_
  refine Ga ?_
  refine Ops.cut_h rfl (by rw [<- hva];exact p1) (by rw [<- hmb];rfl) hml fun v2 hv2 _=>?_
  refine Ga ?_
  exact ⟨v',hv2,p2,p3⟩
 ·obtain ⟨m',rfl⟩:=zC h0
  obtain rfl:m'=m:=by omega
  refine Ga ?_
  refine Ops.cut_l rfl (by rw [<- hva];exact hv) rfl hml fun v' hv' hz'=>?_
  obtain ⟨h2,e2,p1,p2,p3⟩:=main [] (fun _ _ _=>True) v' hv' (by rw [hva];exact hz')
  refine Ga ?_
  refine zcs rfl rfl hv'.one hq hlen ?_
  refine Ga ?_
  refine Ops.cut_h rfl (by rw [<- hva];exact p1) rfl hml fun v2 hv2 _=>?_
  refine Ga ?_
  exact ⟨v',hv2,p2,p3⟩
end
def RX.doShut (r:RX) (k:Nat):RX := { r with x:=r.x.doShut k }
def Wi.close (x:Wi) (k:Nat):Wi:=let y:=x.came (1-k) (!(x.e k).shut) true;y.put k { y.e k with what:=3 }
def RX.close (r:RX) (k:Nat):RX := { r with x:=r.x.close k }
theorem RX.shut_cells {r:RX} {k:Nat} (hk:k=0\/k=1):(({ r with x:=r.x.put k { r.x.e k with shut:=true } } : RX)).cells=r.cells.set (k*8+5) (.bool true):=by
 obtain ⟨⟨e0,e1,cap,rs,bl,wt⟩,v0,v1,vw⟩:=r
 rcases hk with rfl | rfl<;>simp [Wi.put,Wi.e,RX.cells,En.rcells]
theorem RX.what_cells {r:RX} {k:Nat} {w:Int} (hk:k=0\/k=1):(({ r with x:=r.x.put k { r.x.e k with what:=w } } : RX)).cells=r.cells.set (k*8) (.i w):=by
 obtain ⟨⟨e0,e1,cap,rs,bl,wt⟩,v0,v1,vw⟩:=r
 rcases hk with rfl | rfl<;>simp [Wi.put,Wi.e,RX.cells,En.rcells]
theorem ROk.put {h:H} {rw q k:Nat} {r:RX} (a:ROk h rw q r) (hk:k=0\/k=1) {e:En} (he:e.ring=(r.x.e k).ring):ROk h rw q { r with x:=r.x.put k e } := by
 rcases hk with rfl | rfl
 ·exact a.same rfl rfl rfl he rfl rfl
 ·exact a.same rfl rfl rfl rfl he rfl
section
variable {cl:Nat->Call} (hcl:Sem cl)
include hcl
theorem jn7 {d rw q n k:Nat} {h:H} {l:List RX} {tl:List V} {r:RX} (hd:2<=d) (w:RW h rw q l tl) (hr:l[n]?=some r) (hk:k=0\/k=1) :
  ∃ h',cl d (.fn 67) [.p rw 0,.i (n:Int),.i (k:Int)] h=some (.tup [],h')/\RW h' rw q (l.set n (r.doShut k)) tl/\Ch (RC rw q) h h':=by
 refine jai (aT hcl ?_)
 obtain ⟨hw,hq,hne⟩:=w.rat hr
 have q1:=jjN hr hk
 have hn:=r_lt hr
 have hlen:0+(n:Int).toNat*20+0+(k:Int).toNat*8+5<(rows l).length:=by rw [ja4];omega
 have ek:(1:Int)-(k:Int)=((1-k:Nat):Int):=by omega
 cases hs:(r.x.e k).shut
 ·have e0:r.doShut k=RX.came { r with x:=r.x.put k { r.x.e k with shut:=true } } (1-k) true false:=by simp [RX.doShut,Wi.doShut,hs,RX.came]
  rw [hs] at q1
  have hc:=RX.shut_cells (r:=r) hk
  have hok:=(w.rok hr).put (e := { r.x.e k with shut:=true }) hk rfl
  rw [e0]
  generalize ({ r with x:=r.x.put k { r.x.e k with shut:=true } } : RX)=r1 at hc hok ⊢
  have u1:Upd q (.cells (rows (l.set n r1)) false) h (h.set q (.cells (rows (l.set n r1)) false)):=ZA
  have w1:=w.set hr u1 hok
  obtain ⟨h2,e2,w2,c2⟩:=jhm hcl (d:=d-1) (k:=1-k) om w1 (get_set hr) om true false
  rw [set_set] at w2
  rw [<- ek] at e2
  refine Ga ?_
  refine zcs rfl rfl rfl hq hlen ?_
  rw [jie hr hk om hc om]
  refine Ga ?_
  exact ⟨rfl,w2,(u1.ch (.inl rfl)).trans c2⟩
 ·have e0:r.doShut k=r:=by simp [RX.doShut,Wi.doShut,hs]
  rw [hs] at q1
  rw [e0,je2 hr]
  refine Ga ?_
  exact ⟨rfl,w,Zy _ _⟩
theorem jiP {d rw q n k:Nat} {h:H} {l:List RX} {tl:List V} {r:RX} (hd:2<=d) (w:RW h rw q l tl) (hr:l[n]?=some r) (hk:k=0\/k=1) :
  ∃ h',cl d (.fn 69) [.p rw 0,.i (n:Int),.i (k:Int)] h=some (.tup [],h')/\RW h' rw q (l.set n (r.close k)) tl/\Ch (RC rw q) h h':=by
 refine jai (aT hcl ?_)
 have q1:=jjN hr hk
 have hn0:=r_lt hr
 obtain ⟨hw,hq,hne⟩:=w.rat hr
 have ek:(1:Int)-(k:Int)=((1-k:Nat):Int):=by omega
 obtain ⟨h2,e2,w2,c2⟩:=jhm hcl (d:=d-1) (k:=1-k) om w hr om (!(r.x.e k).shut) true
 have eb:decide ((r.x.e k).shut=false) = !(r.x.e k).shut:=by cases (r.x.e k).shut<;>rfl
 rw [<- ek,<- eb] at e2
 have hr2:=get_set (r':=r.came (1-k) (!(r.x.e k).shut) true) hr
 have e0:r.close k = { r.came (1-k) (!(r.x.e k).shut) true with x:=(r.came (1-k) (!(r.x.e k).shut) true).x.put k { (r.came (1-k) (!(r.x.e k).shut) true).x.e k with what:=3 } } := rfl
 rw [e0,<- set_set (l:=l) (r:=r.came (1-k) (!(r.x.e k).shut) true)]
 clear e0 eb
 generalize l.set n (r.came (1-k) (!(r.x.e k).shut) true)=l2 at w2 hr2 ⊢
 generalize r.came (1-k) (!(r.x.e k).shut) true=r2 at hr2 ⊢
 have hn:=r_lt hr2
 have hlen:0+(n:Int).toNat*20+0+(k:Int).toNat*8+0<(rows l2).length:=by rw [ja4];omega
 obtain ⟨hw2,hq2,_⟩:=w2.rat hr2
 have u:Upd q (.cells (rows (l2.set n { r2 with x:=r2.x.put k { r2.x.e k with what:=3 } })) false) h2 (h2.set q (.cells (rows (l2.set n { r2 with x:=r2.x.put k { r2.x.e k with what:=3 } })) false)):=ZA
 have w3:=w2.set hr2 u ((w2.rok hr2).put (e := { r2.x.e k with what:=3 }) hk rfl)
 refine Ga ?_
 refine zcs rfl rfl rfl hq2 hlen ?_
 rw [jie (f:=0) hr2 hk om (RX.what_cells (r:=r2) (w:=3) hk) om]
 refine Ga ?_
 exact ⟨rfl,w3,c2.trans (u.ch (.inl rfl))⟩
def jk5 (l:List RX) (n:Int):Prop := ∃ m r,n=((m:Nat):Int)/\l[m]?=some r/\r.x.e1.what=2
open Classical in
theorem rp_outer {d rw q:Nat} {h:H} {l:List RX} {tl:List V} {n:Int} (hd:1<=d) (w:RW h rw q l tl):cl d (.fn 117) [.p rw 0,.i n] h=some (.bool (decide (jk5 l n)),h):=by
 refine jan (aT hcl ?_)
 obtain ⟨a,c,hw,hac⟩:=w.head
 by_cases h0:0<=n
 case neg=>
  have hno : ¬ jk5 l n:=fun ⟨m,r,e,_⟩=>by omega
  rw [zH hno]
  refine Ga ?_
  exact ⟨rfl,rfl⟩
 obtain ⟨m,rfl⟩:=zC h0
 by_cases hlt:m<l.length
 case neg=>
  have hno : ¬ jk5 l m:=fun ⟨m',r,e,hr,_⟩=>by have:=r_lt hr;omega
  rw [zH hno]
  refine Ga ?_
  exact ⟨rfl,rfl⟩
 obtain ⟨rfl,rfl⟩:=hac (by rintro rfl;simp at hlt)
 obtain ⟨r,hr⟩ : ∃ r,l[m]?=some r:=⟨_,za hlt⟩
 have hq:=(w.rat hr).hq
 have q1:=jiu (k:=1) hr (.inr rfl)
 by_cases h2:(r.x.e 1).what=2
 ·have his:jk5 l m:=⟨m,r,rfl,hr,h2⟩
  rw [zJ his]
  rw [h2] at q1
  refine Ga ?_
  exact ⟨rfl,rfl⟩
 ·have hno : ¬ jk5 l m:=fun ⟨m',r',e,hr',h3⟩=>by
   obtain rfl:m'=m:=by omega
   rw [hr] at hr';cases hr';exact h2 h3
  rw [zH hno]
  refine Ga ?_
  exact ⟨by rw [zH h2],rfl⟩
theorem jkM {d rw q n k:Nat} {h:H} {l:List RX} {tl:List V} {r:RX} {b c:List UInt8} {vc:V} (hd:2<=d) (w:RW h rw q l tl) (hr:l[n]?=some r) (hk:k=0\/k=1) (hb:(r.x.e (1-k)).ring=some b) (hcap:b.length<=r.x.cap) (hc1:r.x.cap<=65536)
  (hc:VB h vc c) (hcl2:c.length<=1000) (hca:c≠[] -> ∀ z,vc.at?=some z->z≠q/\z≠rw/\z<h.nx) :
  ∃ v' h',cl d (.fn 65) [.p rw 0,.i (n:Int),.i (k:Int),vc] h=some (.i ((min c.length (r.x.cap-b.length):Nat):Int),h')/\RW h' rw q (l.set n (r.fill k (min c.length (r.x.cap-b.length)) b c v')) tl/\Ch (RC rw q) h h':=by
 suffices s : ∃ v h',cl d (.fn 65) [.p rw 0,.i (n:Int),.i (k:Int),vc] h=some (v,h') /\ ∃ v',v = .i ((min c.length (r.x.cap-b.length):Nat):Int)/\RW h' rw q (l.set n (r.fill k (min c.length (r.x.cap-b.length)) b c v')) tl/\Ch (RC rw q) h h' by
  obtain ⟨_,h',e,v',rfl,p⟩:=s;exact ⟨v',h',e,p⟩
 obtain ⟨hw,hq,hne⟩:=w.rat hr
 have hk':1-k=0\/1-k=1:=by omega
 have ek:(1:Int)-(k:Int)=((1-k:Nat):Int):=by omega
 have q1:=r_b hr hk'
 have q2:=r_cap hr
 rw [<- ek] at q1
 have hn:=r_lt hr
 obtain ⟨hv,hz⟩:=(w.rok hr).b (1-k) hk'
 rw [hb] at hv
 simp only [Option.getD_some] at hv
 obtain ⟨a,ca,hva,hba⟩:=id hv
 obtain ⟨a2,ca2,rfl,hba2⟩:=id hc
 have hlen:0+(n:Int).toNat*20+0+((1:Int)-(k:Int)).toNat*8+4<(rows l).length:=by rw [ja4,ek];omega
 generalize hm:min c.length (r.x.cap-b.length)=m
 have hml:m<=c.length:=by omega
 have eb:decide (0<(m:Int))=decide (0<m):=by simp
 have main : ∀ (h2:H) (v':V),Row h.nx h2 1 v' (b++c.take m).length (bts (b++c.take m))->h.nx<=h2.nx->(∀ j,j<h.nx->h2.get j=h.get j) ->
   h2.get q=some (.cells (rows l) false)/\v'.one=true /\
   ∃ h3,cl (d-1) (.fn 114) [.p rw 0,.i (n:Int),.i (1-(k:Int)),.bool (decide (0<(m:Int))),.bool false] (h2.set q (.cells ((rows l).set (0+(n:Int).toNat*20+0+((1:Int)-(k:Int)).toNat*8+4) v') false))=some (.tup [],h3) /\
    RW h3 rw q (l.set n (r.fill k m b c v')) tl/\Ch (RC rw q) h h3:=by
  intro h2 v' row hnx hold
  obtain ⟨hv',hz'⟩:=VB.ofRow row
  have ch:Ch (RC rw q) h h2:=⟨hnx,fun j hj _=>hold j hj⟩
  have lq:=w.lq
  have lw:=w.lw
  have hq2:h2.get q=some (.cells (rows l) false):=by rw [hold q lq,hq]
  have w2:RW h2 rw q l tl:=⟨by omega,by omega,hne,fun hl=>⟨by rw [hold rw lw,(w.at_ hl).hw],hq2,hne⟩,fun e=>by rw [hold rw lw,w.nil e],fun s hs=>(w.ok s hs).keep ch⟩
  refine ⟨hq2,row.one,?_⟩
  rw [jie hr hk' om (RX.putv_cells (r:=r) (v:=v') (b:=b++c.take m) hk' hb) om]
  have u1:Upd q (.cells (rows (l.set n (r.putv (1-k) v' (b++c.take m)))) false) h2 (h2.set q (.cells (rows (l.set n (r.putv (1-k) v' (b++c.take m)))) false)):=ZA
  have w3:=w2.set hr u1 ((w2.rok hr).putv hk' hv' fun z hzz=>by have:=hz' z hzz;omega)
  obtain ⟨h4,e4,w4,c4⟩:=jhm hcl (d:=d-1) (k:=1-k) om w3 (get_set hr) hk' (decide (0<m)) false
  rw [set_set] at w4
  exact ⟨h4,by rw [ek,eb];exact e4,w4,(ch.trans (u1.ch (.inl rfl))).trans c4⟩
 refine aT hcl ?_
 rw [hva] at q1
 by_cases hgt:(r.x.cap:Int)-(b.length:Int)<(c.length:Int)
 ·have hmb:(m:Int)=(r.x.cap:Int)-(b.length:Int):=by omega
  refine Ga ?_
  rw [<- hmb]
  refine Ops.appB (N:=h.nx) (q:=[]) rfl rfl (Row.nil _ _ _) (zr _) (by rw [<- hva];exact hv) Zc (fun _ _ _=>rfl) fun v1 h1 row1 hx1 hold1=>?_
  have hold1' : ∀ j,j<h.nx->h1.get j=h.get j:=fun j hj=>hold1 j hj (by intro e;cases e)
  have hw1:h1.get rw=some (.cells (.slice (some (q,0)) l.length (.grow 20) :: tl) false):=by rw [hold1' rw w.lw,hw]
  have hq1:h1.get q=some (.cells (rows l) false):=by rw [hold1' q w.lq,hq]
  have hc':VB h1 (.slice a2 c.length ca2) c:=hc.keep2 hx1 fun hl z hzz=>hold1' z (hca hl z hzz).2.2
  have hne1 : ∀ j,j<h.nx->v1.at?≠some j:=fun j hj e=>by have:=row1.at_ge e;omega
  refine Ga ?_
  refine Ops.cut_h rfl hc' rfl hml fun v2 hv2 _=>?_
  refine Ga ?_
  refine Ops.appB (N:=h.nx) rfl rfl row1 hx1 hv2 Zc (fun h' hnx' ho'=>jaN rfl (by rw [ho' rw (by have:=w.lw;omega) (hne1 rw w.lw),hw1]) rfl rfl jbn) fun v3 h3 row3 hx3 hold3=>?_
  obtain ⟨hq3,hone,h4,e4,w4,c4⟩:=main h3 v3 (by simpa using row3) om fun j hj=>by rw [hold3 j om (hne1 j hj),hold1' j hj]
  refine Ga ?_
  refine zcs rfl rfl hone hq3 hlen ?_
  refine Ga ?_
  exact ⟨v3,rfl,w4,c4⟩
 ·have hmb:m=c.length:=by omega
  rw [hmb] at main hml ⊢
  clear hmb hm eb
  refine Ga ?_
  refine Ops.appB (N:=h.nx) (q:=[]) rfl rfl (Row.nil _ _ _) (zr _) (by rw [<- hva];exact hv) Zc (fun _ _ _=>rfl) fun v1 h1 row1 hx1 hold1=>?_
  have hold1' : ∀ j,j<h.nx->h1.get j=h.get j:=fun j hj=>hold1 j hj (by intro e;cases e)
  have hw1:h1.get rw=some (.cells (.slice (some (q,0)) l.length (.grow 20) :: tl) false):=by rw [hold1' rw w.lw,hw]
  have hq1:h1.get q=some (.cells (rows l) false):=by rw [hold1' q w.lq,hq]
  have hc':VB h1 (.slice a2 c.length ca2) c:=hc.keep2 hx1 fun hl z hzz=>hold1' z (hca hl z hzz).2.2
  have hne1 : ∀ j,j<h.nx->v1.at?≠some j:=fun j hj e=>by have:=row1.at_ge e;omega
  refine Ga ?_
  refine Ops.cut_h rfl hc' rfl hml fun v2 hv2 _=>?_
  refine Ga ?_
  refine Ops.appB (N:=h.nx) rfl rfl row1 hx1 hv2 Zc (fun h' hnx' ho'=>jaN rfl (by rw [ho' rw (by have:=w.lw;omega) (hne1 rw w.lw),hw1]) rfl rfl jbn) fun v3 h3 row3 hx3 hold3=>?_
  obtain ⟨hq3,hone,h4,e4,w4,c4⟩:=main h3 v3 (by simpa using row3) om fun j hj=>by rw [hold3 j om (hne1 j hj),hold1' j hj]
  refine Ga ?_
  refine zcs rfl rfl hone hq3 hlen ?_
  refine Ga ?_
  exact ⟨v3,rfl,w4,c4⟩
end
end Am.Sigs
