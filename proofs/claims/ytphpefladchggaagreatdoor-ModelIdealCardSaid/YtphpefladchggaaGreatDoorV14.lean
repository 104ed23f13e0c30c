/- Our own library, part 14. -/
import Derived.KernelRfl
import Derived.Test.YtphpefladchggaaGreatDoorV10
import Derived.Test.YtphpefladchggaaGreatDoorV13
set_option maxHeartbeats 8000000
set_option maxRecDepth 800
set_option linter.all false
namespace Am.Sigs
open Am Go
abbrev fuel:Nat:=100000
def Sem(cl:Nat->Call):Prop:= ∀d,cl d=jcl prog fuel d
theorem at_{cl:Nat->Call}(Z:Sem cl){d f:Nat}{fn:AFn}{args:List V}{h:H}{R:V->H->Prop}(hd:0<d)(hp:jdt prog.prims f=none)(hf:jdt prog.fns f=some fn)(hl:(args.length == fn.np)=true)
  (k:Run (cl (d-1)) fuel fn.body [] (Env.ofArgs args 0) h (Fin fn.res R)):∃v h',cl d (.fn f) args h=some (v,h')/\R v h':=by
 rw[Z d];rw[Z (d-1)]at k;exact callN_at hd hp hf hl k
theorem aT{cl:Nat->Call}(Z:Sem cl){d f:Nat}{fn:AFn}{args:List V}{h:H}{R:V->H->Prop}(k:Run (cl (d-1)) fuel fn.body [] (Env.ofArgs args 0) h (Fin fn.res R))(hd:0<d:=by omega)(hp:jdt prog.prims f=none:=by exact rfl)(hf:jdt prog.fns f=some fn:=by exact rfl)(hl:(args.length==fn.np)=true:=by exact rfl):∃v h',cl d (.fn f) args h=some (v,h')/\R v h':=at_ Z hd hp hf hl k
theorem yl_{cl:Nat->Call}(Z:Sem cl){d l:Nat}{args:List V}{h:H}{R:V->H->Prop}{ps:List Nat}{env e0:Env}{assign body:AC}{LO:LoopState->Option Ex->Obj}(hd:0<d)
  (mD:LO=(fun st pd=>.loop st pd ps env assign body)) (hl:h.get l=some (LO .ready none)) (he:jef env ps args=some e0)
  (k:Run (cl (d-1)) fuel assign [] e0 h fun x e1 h1=>x = .normal/\h1.get l=some (LO .ready none) /\
   Run (cl (d-1)) fuel body [] e1 (h1.set l (LO .busy none)) fun ex _ h3=>(∃qI iK,h3.get l=some (LO qI iK))/\R (.bool ex.goes) (h3.set l (LO ex.st ex.pend))) :
  ∃v h',cl d (.yld l) args h=some (v,h')/\R v h':=by
 rw[Z d];rw[Z (d-1)]at k;exact yield_lo hd mD hl he k
theorem jps{cl:Nat->Call}(Z:Sem cl){d f:Nat}{p:Prim}{args:List V}{h:H}(hd:0<d)(hp:jdt prog.prims f=some p):cl d (.fn f) args h=p args h:=by
 rw[Z d];cases d with
 |zero=>omega
 |succ d=>simp only[jcl,hp]
def isS:Option Obj->Nat
 |some _=>1
 |none=>0
end Am.Sigs
namespace Am
open Go
theorem ja9{e:Env}{h:H}:jaO e h []=true:=rfl
theorem jau{e:Env}{h:H}{d:Nat}{a:Opd}{g:Option (Nat×Bool)}{r:List (Nat×I×Option (Nat×Bool))}{b o:Nat}{l:List V}{ro:Bool}{v:V}(ha:a.ev e=some (.ptr (some (b,o))))(hb:h.get b=some (.cells l ro))(hv:l[o]?=some v)
  (hd:e.get d=some v) (k:jaO e h r=true):jaO e h ((d,.load1 a,g)::r)=true:=by
 simp only[jaO,I.read,ha,jgq hb hv,hd,V.same_refl,k,Bool.and_true];cases wanted e g<;>rfl
section
variable{call:Call}{fuel base:Nat}{K:List Fr}{e:Env}{h h':H}{Q:Post}{ix:Nat}{dst:Option Nat}{ops:List Ins}{keep:List Nat}{at_:Option Nat}{c:List (Nat×I×Option (Nat×Bool))}
theorem Ops.callf_chk{f:FuncId}{args:List Opd}{vs:List V}{v:V}(ha:evs e args=some vs)(hc:call (.fn f) vs h=some (v,h'))(hk:jaO e h' c=true)(k:Ops call fuel base ops keep K (layv e dst v) h' Q) :
  Ops call fuel base (⟨ix,dst,.call f args,none,at_,c⟩::ops) keep K e h Q:=
 Ops.step_chk (Zp rfl (by simp only[I.eff,ha,hc])) hk k
theorem Ops.storeN_chk{a x:Opd}{b o n:Nat}{l vs:List V}(ha:a.ev e=some (.ptr (some (b,o))))(hx:x.ev e=some (.agg vs))(hl:vs.length=n)(h1:vs.all V.one=true)(hb:h.get b=some (.cells l false))(hn:o+n<=l.length)
  (hk:jaO e (h.set b (.cells (jao l o vs) false)) c=true) (k:Ops call fuel base ops keep K (layv e dst .undef) (h.set b (.cells (jao l o vs) false)) Q):Ops call fuel base (⟨ix,dst,.store n a x,none,at_,c⟩::ops) keep K e h Q:=by
 subst hl;refine Ops.step_chk (Zp rfl ?_) hk k;simp only[I.eff,ha,hx,V.cells,jfW hb hn h1,beq_self_eq_true,cond_true]
theorem Ops.store1_chk{a x:Opd}{b o:Nat}{l:List V}{v:V}(ha:a.ev e=some (.ptr (some (b,o))))(hx:x.ev e=some v)(h1:v.one=true)(hb:h.get b=some (.cells l false))(hn:o<l.length)
  (hk:jaO e (h.set b (.cells (l.set o v) false)) c=true) (k:Ops call fuel base ops keep K (layv e dst .undef) (h.set b (.cells (l.set o v) false)) Q):Ops call fuel base (⟨ix,dst,.store 1 a x,none,at_,c⟩::ops) keep K e h Q:=by
 have hc:v.cells=[v]:=by cases v<;>first|rfl|(simp[V.one]at h1)
 refine Ops.step_chk (Zp rfl ?_) hk k;have hs:=jfW (o:=o) (vs:=[v]) hb (by simp only[List.length_singleton];omega) (by simp[h1]);simp only[I.eff,ha,hx,hc,hs];rfl
theorem joe{l:List V}(h:∀(i:Nat) (v:V),l[i]?=some v->v.one=true):l.all V.one=true:=by
 rw[zS];intro v hv;obtain⟨i,hi⟩:=List.getElem?_of_mem hv;exact h i v hi
theorem copyV_of{sz d:Nat}{db dof m:Nat}{cd lJ:Cap}{sb so ln:Nat}{ld ls new:List V}{ro:Bool}(hn:d=Nat.min ln m)(h0:0<d*sz)(hs:h.get sb=some (.cells ls ro))(kA:so+d*sz<=ls.length)(mB:(ls.drop so).take (d*sz)=new)
  (m9:new.all V.one=true) (hd:h.get db=some (.cells ld false)) (hdl:dof+d*sz<=ld.length) :
  jks h sz (.slice (some (db,dof)) m cd) (.slice (some (sb,so)) ln lJ)=some (.i d,h.set db (.cells (jao ld dof new) false)):=by
 have j4:new.length=d*sz:=by rw[<- mB];simp;omega
 have h1:(d*sz == 0)=false:=by simp;omega
 have d5:new.isEmpty=false:=by cases new<;>simp_all
 simp only[jks,lenOf,<- hn,jaz,h1,cond_false,jcz hs kA,mB,d5];rw[jfW hd om m9]
theorem Ops.copy_chk{sz d:Nat}{x y:Opd}{db dof m:Nat}{cd lJ:Cap}{sb so ln:Nat}{ld ls new:List V}{ro:Bool}(hx:x.ev e=some (.slice (some (db,dof)) m cd))(hy:y.ev e=some (.slice (some (sb,so)) ln lJ))(hn:d=Nat.min ln m)(h0:0<d*sz)
  (hs:h.get sb=some (.cells ls ro)) (kA:so+d*sz<=ls.length) (mB:(ls.drop so).take (d*sz)=new) (m9:new.all V.one=true) (hd:h.get db=some (.cells ld false)) (hdl:dof+d*sz<=ld.length)
  (hk:jaO e (h.set db (.cells (jao ld dof new) false)) c=true) (k:Ops call fuel base ops keep K (layv e dst (.i d)) (h.set db (.cells (jao ld dof new) false)) Q) :
  Ops call fuel base (⟨ix,dst,.copy sz x y,none,at_,c⟩::ops) keep K e h Q:=
 Ops.step_chk (Zp rfl (by simp only[I.eff,hx,hy,copyV_of hn h0 hs kA mB m9 hd hdl])) hk k
theorem Ops.remN{x y:Opd}{kd:IntKind}{a b:Nat}(hx:x.ev e=some (.int kd (a:Int)))(hy:y.ev e=some (.int kd (b:Int)))(hb:0<b)(k:Ops call fuel base ops keep K (layv e dst (.int kd ((a%b:Nat):Int))) h Q) :
  Ops call fuel base (⟨ix,dst,.bin .rem x y,none,at_,[]⟩::ops) keep K e h Q:=by
 refine zau rfl ?_ k;have h0:((b:Int) == 0)=false:=by simp;omega
 have h1:((a:Int).tmod (b:Int))=((a%b:Nat):Int):=by rw[Int.tmod_eq_emod_of_nonneg om];simp
 simp only[I.pure,hx,hy,binOp,jc0,jdX,beq_self_eq_true,Bool.or_true,cond_true,h0,cond_false,h1]
def Cap.less:Cap->Nat->Cap
 |.fix k,l=>.fix (k-l)
 |.grow q,_=>.grow q
 |.least q k,l=>.least q (k-l)
def Cap.fits:Cap->Nat->Nat->Prop
 |.fix k,n,_=>n<=k
 |.grow q,_,sz=>q=sz
 |.least ..,_,_=>False
theorem jh6{n m:Nat}(h:n<=m):upto (n:Int) m=true:=by
 show upto (Int.ofNat n) m=true;simp[upto,h]
theorem slc_b{len l r:Nat}{cap:Cap}{sz:Nat}(h1:l<=r)(h2:r<=len)(hf:cap.fits len sz):jce len (cap.room len) (some (.i (l:Int))) (some (.i (r:Int))) none=some (l,r,cap.room len):=by
 have hc:r<=cap.room len:=by
  cases cap with
  |fix k=>exact zA h2 hf
  |grow q=>exact h2
  |least q k=>exact hf.elim
 simp only[jce,slcM,slcH,slcL,sB,asInt,jh6 hc,jh6 h1,cond_true,zw,Option.isSome_none]
theorem slc_h{len r:Nat}{cap:Cap}{sz:Nat}(h2:r<=len)(hf:cap.fits len sz):jce len (cap.room len) none (some (.i (r:Int))) none=some (0,r,cap.room len):=by
 have hc:r<=cap.room len:=by
  cases cap with
  |fix k=>exact zA h2 hf
  |grow q=>exact h2
  |least q k=>exact hf.elim
 simp only[jce,slcM,slcH,slcL,sB,asInt,jh6 hc,cond_true,zw,Option.isSome_none]
theorem slc_l{len l:Nat}{cap:Cap}(h1:l<=len):jce len (cap.room len) (some (.i (l:Int))) none none=some (l,len,cap.room len):=by
 simp only[jce,slcM,slcH,slcL,sB,asInt,jh6 h1,cond_true,zw,Option.isSome_none,cond_false]
theorem Ops.slice_b{sz b o len l r:Nat}{cap:Cap}{x lo hi:Opd}(hx:x.ev e=some (.slice (some (b,o)) len cap))(wE:lo.ev e=some (.i (l:Int)))(xE:hi.ev e=some (.i (r:Int)))(h1:l<=r)(h2:r<=len)(hf:cap.fits len sz)
  (k:Ops call fuel base ops keep K (layv e dst (.slice (some (b,o+l*sz)) (r-l) (cap.less l))) h Q):Ops call fuel base (⟨ix,dst,.slice sz x (some lo) (some hi) none,none,at_,[]⟩::ops) keep K e h Q:=by
 refine zau rfl ?_ k;simp only[I.pure,hx,evo,wE,xE,slc_b h1 h2 hf];cases cap with
 |fix k=>rfl
 |grow q=>have hq:q=sz:=hf;subst hq;simp[Cap.less]
 |least q k=>exact hf.elim
theorem Ops.slice_h{sz b o len r:Nat}{cap:Cap}{x hi:Opd}(hx:x.ev e=some (.slice (some (b,o)) len cap))(xE:hi.ev e=some (.i (r:Int)))(h2:r<=len)(hf:cap.fits len sz)
  (k:Ops call fuel base ops keep K (layv e dst (.slice (some (b,o)) r cap)) h Q):Ops call fuel base (⟨ix,dst,.slice sz x none (some hi) none,none,at_,[]⟩::ops) keep K e h Q:=by
 refine zau rfl ?_ k;simp only[I.pure,hx,evo,xE,slc_h h2 hf];cases cap with
 |fix k=>simp[Cap.room]
 |grow q=>have hq:q=sz:=hf;subst hq;simp
 |least q k=>exact hf.elim
theorem Ops.slice_l{sz b o len l:Nat}{cap:Cap}{x lo:Opd}(hx:x.ev e=some (.slice (some (b,o)) len cap))(wE:lo.ev e=some (.i (l:Int)))(h1:l<=len)(hf:cap.fits len sz)
  (k:Ops call fuel base ops keep K (layv e dst (.slice (some (b,o+l*sz)) (len-l) (cap.less l))) h Q):Ops call fuel base (⟨ix,dst,.slice sz x (some lo) none none,none,at_,[]⟩::ops) keep K e h Q:=by
 refine zau rfl ?_ k;simp only[I.pure,hx,evo,wE,slc_l h1];cases cap with
 |fix k=>rfl
 |grow q=>have hq:q=sz:=hf;subst hq;simp[Cap.less]
 |least q k=>exact hf.elim
theorem Ops.mkSliceN{bytes n:Nat}{z:V}{l c':Opd}(hl:l.ev e=some (.i (n:Int)))(hc:c'.ev e=some (.i (n:Int)))(hb:n*bytes<=2 ^ 46)(hn:n<=2 ^ 46)
  (k:Ops call fuel base ops keep K (layv e dst (.slice (some (h.nx,0)) n (.fix n))) (h.new (.cells (List.replicate n z) false)) Q):Ops call fuel base (⟨ix,dst,.mkSlice 1 bytes [z] l c',none,none,[]⟩::ops) keep K e h Q:=by
 refine zcu (ob:= .cells (List.replicate n z) false) (mk:=fun b=>.slice (some (b,0)) n (.fix n)) rfl ?_ k;have e1:(Nat.ble n n&&Nat.ble (n*bytes) (2 ^ 46)&&Nat.ble n (2 ^ 46))=true:=by
  simp only[zp,zQ];omega
 have e2:∀n,(List.replicate n [z]).flatten=List.replicate n z:=by
  intro n;induction n with
  |zero=>rfl
  |succ n ih=>rw[List.replicate_succ,zW,ih];rfl
 have e3:(V.i (n:Int))=V.int .i64 (Int.ofNat n):=rfl;simp only[I.make,hl,hc,e3,e1,cond_true,e2]
end
theorem jfH{N sz bytes n m sb so:Nat}{h:H}{v:V}{cs new ls:List V}{cap:Cap}{ro:Bool}(r:Row N h sz v n cs)(hN:N<=h.nx)(hm:0<m)(hs:h.get sb=some (.cells ls ro))(kA:so+m*sz<=ls.length)(mB:(ls.drop so).take (m*sz)=new)(h1:new.all V.one=true)(hz:1<=sz)
  (hb:(n+m)*bytes<=2 ^ 46) (hn:n+m<=2 ^ 46) :
  ∃v' h',jaH h sz bytes v (.slice (some (sb,so)) m cap)=some (v',h')/\Row N h' sz v' (n+m) (cs++new)/\h'.nx=h.nx+1/\v'.at?=some h.nx/\∀j,j<h.nx->v.at?≠some j->h'.get j=h.get j:=by
 have j4:new.length=m*sz:=by rw[<- mB];simp;omega
 have Dj:0<m*sz:=Nat.mul_pos hm hz;have eB:jaz h sz m (.slice (some (sb,so)) m cap)=some new:=by
  have:(m*sz == 0)=false:=by simp;omega
  simp only[jaz,this,cond_false];rw[jcz hs kA,mB]
 have tC:(Nat.ble ((n+m)*bytes) (2 ^ 46)&&Nat.ble (n+m) (2 ^ 46))=true:=by simp only[zp,zQ];exact⟨hb,hn⟩
 have jB:(m == 0)=false:=by simp;omega
 rcases r with⟨rfl,rfl,rfl⟩|⟨q,pD,iD,rfl,hU,iU⟩
 .refine⟨.slice (some (h.nx,0)) m (.grow sz),h.new (.cells new false),?_,.inr ⟨h.nx,hN,by simp,by rw[zP],by rw[jac];rfl,by simp[j4]⟩,by simp,rfl,fun j hj _=>jad hj⟩;simp only[jaH,lenOf,eB];rw[tC];simp only[cond_true,jB,cond_false,newRow]
 .have hg:(Nat.beq sz sz&&Nat.ble (0+n*sz) cs.length&&new.all V.one)=true:=by
   simp only[zp,zQ,h1,and_true];exact⟨Nat.beq_refl _,by omega⟩
  have tL:(cs.drop 0).take (n*sz)=cs:=by rw[zk,zh om]
  refine⟨.slice (some (h.nx,0)) (n+m) (.grow sz),(h.kill q).new (.cells (cs++new) false),?_,.inr ⟨h.nx,hN,by simp,rfl,?_,?_⟩,by simp,rfl,?_⟩
  .simp only[jaH,lenOf,eB];rw[tC];simp only[cond_true,jB,cond_false,hU];rw[hg];simp only[cond_true,newRow,tL];rfl
  .exact jac (h:=h.kill q) _
  .simp[iU,j4,Nat.add_mul]
  .intro j hj hv;have dP:j≠q:=fun e=>hv (by subst e;rfl);rw[jad (by simpa using hj),jai dP]
theorem Row.one{N sz n:Nat}{h:H}{v:V}{cs:List V}(r:Row N h sz v n cs):v.one=true:=by
 rcases r with⟨_,_,rfl⟩|⟨q,_,_,rfl,_⟩<;>rfl
theorem Ops.appendN{call:Call}{fuel base:Nat}{K:List Fr}{e:Env}{h:H}{Q:Post}{ix:Nat}{dst:Option Nat}{ops:List Ins}{keep:List Nat}{N sz bytes n m sb so:Nat}{x y:Opd}{sv:V}{cs new ls:List V}{cap:Cap}{ro:Bool}
  (hx:x.ev e=some sv) (hy:y.ev e=some (.slice (some (sb,so)) m cap)) (r:Row N h sz sv n cs) (hN:N<=h.nx) (hm:0<m) (hs:h.get sb=some (.cells ls ro)) (kA:so+m*sz<=ls.length) (mB:(ls.drop so).take (m*sz)=new) (h1:new.all V.one=true) (hz:1<=sz)
  (hb:(n+m)*bytes<=2 ^ 46) (hn:n+m<=2 ^ 46)
  (k:∀v' h',Row N h' sz v' (n+m) (cs++new)->h'.nx=h.nx+1->v'.at?=some h.nx->(∀j,j<h.nx->sv.at?≠some j->h'.get j=h.get j)->Ops call fuel base ops keep K (layv e dst v') h' Q) :
  Ops call fuel base (⟨ix,dst,.append sz bytes x y,none,none,[]⟩::ops) keep K e h Q:=by
 obtain⟨v',h',e1,e2,e3,e4,e5⟩:=jfH (bytes:=bytes) (cap:=cap) r hN hm hs kA mB h1 hz hb hn;exact Ops.step (Zp rfl (by simp only[I.eff,hx,hy,e1])) (k v' h' e2 e3 e4 e5)
abbrev Zu:=@Ops.callf_chk
end Am
namespace Am.Sigs
open Am Go
structure En where
 what:Int
 fd:Int
 ring:Option (List UInt8)
 writes:Bool
 shut:Bool
 inn:Int
 out:Int
def En.ptr:Option (List UInt8)->Nat->V
 |none,_=>.ptr none
 |some _,r=>.p r 0
def En.cells(x:En)(r:Nat):List V:=[.i x.what,.i x.fd,En.ptr x.ring r,.bool x.writes,.bool x.shut,.int .u64 x.inn,.int .u64 x.out]
structure Wi where
 e0:En
 e1:En
 cap:Nat
 reset:Bool
 backlog:Int
 waiting:List Int
def Wi.cells(x:Wi)(r0 r1:Nat)(wv:V):List V:=x.e0.cells r0++(x.e1.cells r1++[.bool x.reset,.i x.backlog,wv])
def Wi.obj(x:Wi)(r0 r1:Nat)(wv:V):Obj:= .cells (x.cells r0 r1 wv) false
def upu(n:Int):Int:=IntKind.wrap .u64 (n+1)
def En.came(x:En)(i o:Bool):En:= {x with inn:=if i&&x.ring.isSome then upu x.inn else x.inn,out:=if o&&x.writes then upu x.out else x.out}
def Wi.e(x:Wi):Nat->En
 |0=>x.e0
 |_=>x.e1
def Wi.put(x:Wi)(k:Nat)(e:En):Wi:=match k with
 |0=>{x with e0:=e}
 |_=>{x with e1:=e}
def Wi.came(x:Wi)(k:Nat)(i o:Bool):Wi:=x.put k ((x.e k).came i o)
def Wi.silent(x:Wi)(k:Nat):Bool:=(x.e (1-k)).what == 3||(x.e (1-k)).shut
section
variable{cl:Nat->Call}(Z:Sem cl)
include Z
theorem jg0{d wb r0 r1 k:Nat}{wv:V}{h:H}{x:Wi}(hd:1<=d)(hw:h.get wb=some (x.obj r0 r1 wv))(hk:k=0\/k=1)(i o:Bool) :
  ∃h',cl d (.fn 148) [.p wb 0,.i (k:Int),.bool i,.bool o] h=some (.tup [],h')/\Upd wb ((x.came k i o).obj r0 r1 wv) h h':=by
 refine jae (aT Z ?_);have e0:x.came k i o=(x.came k i false).came k false o:=by
  rcases hk with rfl|rfl<;>simp[Wi.came,Wi.put,Wi.e,En.came]
 rw[e0];refine zab (Run.cut (fun y e g=>y = .normal/\(∃r:Env,e=(0,.p wb 0)::(1,.i (k:Int))::(3,.bool o)::r)/\Upd wb ((x.came k i false).obj r0 r1 wv) h g) ?_ ?_)
 .obtain⟨⟨w0,f0,q0,uI,s0,i0,o0⟩,⟨w1,f1,q1,mJ,s1,i1,o1⟩,cap,rs,bl,wt⟩:=x;simp only[Wi.obj,Wi.cells,En.cells,List.cons_append,List.nil_append]at hw;rcases hk with rfl|rfl
  .cases i<;>cases q0<;>simp only[En.ptr]at hw
   all_goals
    repeat' (first|refine qsy ?_|(refine zsp ?_ ?_<;>intro _)|fail)
    refine Zn ⟨rfl,⟨_,rfl⟩,?_⟩
    first|exact Zt|exact Upd.refl hw
  .cases i<;>cases q1<;>simp only[En.ptr]at hw
   all_goals
    repeat' (first|refine qsy ?_|(refine zsp ?_ ?_<;>intro _)|fail)
    refine Zn ⟨rfl,⟨_,rfl⟩,?_⟩
    first|exact Zt|exact Upd.refl hw
 .rintro _ _ g ⟨rfl,⟨rest,rfl⟩,u⟩;have hw:=u.self;generalize x.came k i false=x' at u hw ⊢
  suffices Run (cl (d-1)) fuel c148_2 [] ((0,.p wb 0)::(1,.i (k:Int))::(3,.bool o)::rest) g (Fin c148.res fun v' h'=>v'=V.tup []/\Upd wb ((x'.came k false o).obj r0 r1 wv) g h') by
   refine zae ?_;obtain⟨⟨y,e',h',q1,⟨⟨y2,e2,h2,q2,⟨q3,l,q4,q5,q6⟩⟩⟩⟩⟩:=this;exact⟨⟨y,e',h',q1,⟨⟨y2,e2,h2,q2,⟨⟨q3,l,q4,q5,u.trans q6⟩⟩⟩⟩⟩⟩
  clear u e0;obtain⟨⟨w0,f0,q0,uI,s0,i0,o0⟩,⟨w1,f1,q1,mJ,s1,i1,o1⟩,cap,rs,bl,wt⟩:=x';simp only[Wi.obj,Wi.cells,En.cells,List.cons_append,List.nil_append]at hw;rcases hk with rfl|rfl
  .cases o<;>cases uI
   all_goals
    repeat' (first|refine qsy ?_|(refine zsp ?_ ?_<;>intro _)|fail)
    first|exact⟨rfl,Upd.refl hw⟩|exact⟨rfl,Zt⟩
  .cases o<;>cases mJ
   all_goals
    repeat' (first|refine qsy ?_|(refine zsp ?_ ?_<;>intro _)|fail)
    first|exact⟨rfl,Upd.refl hw⟩|exact⟨rfl,Zt⟩
theorem jk6{d wb r0 r1 k:Nat}{wv:V}{h:H}{x:Wi}(hd:1<=d)(hw:h.get wb=some (x.obj r0 r1 wv))(hk:k=0\/k=1):cl d (.fn 80) [.p wb 0,.i (k:Int)] h=some (.bool (x.silent k),h):=by
 refine jaj (aT Z ?_);obtain⟨⟨w0,f0,q0,uI,s0,i0,o0⟩,⟨w1,f1,q1,mJ,s1,i1,o1⟩,cap,rs,bl,wt⟩:=x;simp only[Wi.obj,Wi.cells,En.cells,List.cons_append,List.nil_append]at hw;rcases hk with rfl|rfl
 .by_cases h3:w1=3
  .refine Gb ?_;exact⟨by simp[Wi.silent,Wi.e,h3],rfl⟩
  .refine Gb ?_;exact⟨by simp[Wi.silent,Wi.e,h3],rfl⟩
 .by_cases h3:w0=3
  .refine Gb ?_;exact⟨by simp[Wi.silent,Wi.e,h3],rfl⟩
  .refine Gb ?_;exact⟨by simp[Wi.silent,Wi.e,h3],rfl⟩
end
structure RX where
 x:Wi
 v0:V
 v1:V
 vw:V
def En.rcells(e:En)(v:V):List V:=[.i e.what,.i e.fd,.bool e.ring.isSome,.bool e.writes,v,.bool e.shut,.int .u64 e.inn,.int .u64 e.out]
def RX.cells(r:RX):List V:=r.x.e0.rcells r.v0++(r.x.e1.rcells r.v1++[.i r.x.cap,.bool r.x.reset,.i r.x.backlog,r.vw])
def RX.v(r:RX):Nat->V
 |0=>r.v0
 |_=>r.v1
def rows(l:List RX):List V:=(l.map RX.cells).flatten
theorem RX.len(r:RX):r.cells.length=20:=by simp[RX.cells,En.rcells]
theorem ja1(l:List RX):(rows l).length=l.length*20:=by
 induction l with
 |nil=>rfl
 |cons r l ih=>simp only[rows,List.map_cons,zW,zg,RX.len]at ih ⊢;rw[ih];simp[Nat.add_mul];omega
theorem jdR(r:RX)(l:List RX):rows (r::l)=r.cells++rows l:=rfl
theorem jlQ(l l':List RX):rows (l++l')=rows l++rows l':=by simp[rows]
theorem jjL:∀{l:List RX} {n j:Nat} {r:RX},l[n]?=some r->j<20->(rows l)[n*20+j]?=r.cells[j]?
 |[],_,_,_,h,_=>by simp at h
 |a::l,0,j,r,h,hj=>by
  simp at h;subst h;rw[jdR,ze,zD (by rw[RX.len];omega)];congr 1;omega
 |a::l,n+1,j,r,h,hj=>by
  rw[jdR,ze,zC (by rw[RX.len];omega),RX.len,show (n+1)*20+j-20=n*20+j by omega];exact jjL (by simpa using h) hj
theorem jeW:∀{l:List RX} {n j o:Nat} {r r':RX} {v:V},l[n]?=some r->j<20->r'.cells=r.cells.set j v->o=n*20+j->(rows l).set o v=rows (l.set n r')
 |[],_,_,_,_,_,_,h,_,_,_=>by simp at h
 |a::l,0,j,o,r,r',v,h,hj,hc,ho=>by
  simp at h;subst h;rw[jdR,zU,zD (by rw[RX.len];omega),show o=j by omega,<- hc];rfl
 |a::l,n+1,j,o,r,r',v,h,hj,hc,ho=>by
  rw[jdR,zU,zC (by rw[RX.len];omega),RX.len,jeW (n:=n) (j:=j) (r':=r') (by simpa using h) hj hc om];rfl
section
variable{l:List RX}{n k:Nat}{r:RX}
theorem r_en(hr:l[n]?=some r)(hk:k=0\/k=1){f:Nat}(hf:f<8):(rows l)[0+(n:Int).toNat*20+0+(k:Int).toNat*8+f]?=((r.x.e k).rcells (r.v k))[f]?:=by
 have e:0+(n:Int).toNat*20+0+(k:Int).toNat*8+f=n*20+(k*8+f):=by omega
 rw[e,jjL hr om];have hl:∀(e:En) v,(e.rcells v).length=8:=fun e v=>rfl;unfold RX.cells;rcases hk with rfl|rfl
 .rw[ze,zD (by rw[hl];omega)];congr 1
  try omega
 .rw[ze,zC (by rw[hl];omega),ze,zD (by rw[hl];first|omega|(rw[hl];omega)),hl];congr 1
  try omega
theorem r_tl(hr:l[n]?=some r){f:Nat}(h0:16<=f)(hf:f<20):(rows l)[0+(n:Int).toNat*20+f]?=[V.i r.x.cap,.bool r.x.reset,.i r.x.backlog,r.vw][f-16]?:=by
 have e:0+(n:Int).toNat*20+f=n*20+f:=by omega
 rw[e,jjL hr hf];have hl:∀(e:En) v,(e.rcells v).length=8:=fun e v=>rfl;unfold RX.cells;rw[ze,zC (by rw[hl];omega),ze,zC (by rw[hl,hl];omega),hl,hl];congr 1
theorem jji(hr:l[n]?=some r)(hk:k=0\/k=1):(rows l)[0+(n:Int).toNat*20+0+(k:Int).toNat*8+0]?=some (.i (r.x.e k).what):=r_en hr hk om
theorem r_fd(hr:l[n]?=some r)(hk:k=0\/k=1):(rows l)[0+(n:Int).toNat*20+0+(k:Int).toNat*8+1]?=some (.i (r.x.e k).fd):=r_en hr hk om
theorem jic(hr:l[n]?=some r)(hk:k=0\/k=1):(rows l)[0+(n:Int).toNat*20+0+(k:Int).toNat*8+2]?=some (.bool (r.x.e k).ring.isSome):=r_en hr hk om
theorem jjQ(hr:l[n]?=some r)(hk:k=0\/k=1):(rows l)[0+(n:Int).toNat*20+0+(k:Int).toNat*8+3]?=some (.bool (r.x.e k).writes):=r_en hr hk om
theorem r_b(hr:l[n]?=some r)(hk:k=0\/k=1):(rows l)[0+(n:Int).toNat*20+0+(k:Int).toNat*8+4]?=some (r.v k):=r_en hr hk om
theorem jkR(hr:l[n]?=some r)(hk:k=0\/k=1):(rows l)[0+(n:Int).toNat*20+0+(k:Int).toNat*8+5]?=some (.bool (r.x.e k).shut):=r_en hr hk om
theorem r_in(hr:l[n]?=some r)(hk:k=0\/k=1):(rows l)[0+(n:Int).toNat*20+0+(k:Int).toNat*8+6]?=some (.int .u64 (r.x.e k).inn):=r_en hr hk om
theorem r_out(hr:l[n]?=some r)(hk:k=0\/k=1):(rows l)[0+(n:Int).toNat*20+0+(k:Int).toNat*8+7]?=some (.int .u64 (r.x.e k).out):=r_en hr hk om
theorem r_cap(hr:l[n]?=some r):(rows l)[0+(n:Int).toNat*20+16]?=some (.i r.x.cap):=r_tl hr om om
theorem jib(hr:l[n]?=some r):(rows l)[0+(n:Int).toNat*20+17]?=some (.bool r.x.reset):=r_tl hr om om
theorem jid(hr:l[n]?=some r):(rows l)[0+(n:Int).toNat*20+18]?=some (.i r.x.backlog):=r_tl hr om om
theorem jmL(hr:l[n]?=some r):(rows l)[0+(n:Int).toNat*20+19]?=some r.vw:=r_tl hr om om
theorem jiM{r':RX}{f o:Nat}{v:V}(hr:l[n]?=some r)(hk:k=0\/k=1)(hf:f<8)(hc:r'.cells=r.cells.set (k*8+f) v)(ho:o=n*20+(k*8+f)):(rows l).set o v=rows (l.set n r'):=
 jeW hr om hc ho
theorem r_lt(hr:l[n]?=some r):n<l.length:=by
 rcases zx n l.length with h|h
 .exact h
 .rw[zd h]at hr;cases hr
end
theorem jeU{l:List RX}{n:Nat}{r:RX}(hr:l[n]?=some r):l.set n r=l:=by
 apply zT;intro i;rw[zi];by_cases h:n=i
 .subst h;rw[zD rfl,zD (r_lt hr),hr]
 .rw[zC h]
theorem get_set{l:List RX}{n:Nat}{r r':RX}(hr:l[n]?=some r):(l.set n r')[n]?=some r':=by
 rw[zi,zD rfl,zD (r_lt hr)]
theorem set_set{l:List RX}{n:Nat}{r r':RX}:(l.set n r).set n r'=l.set n r':=by simp
structure RAt(h:H)(rw q:Nat)(l:List RX)(tl:List V):Prop where
 hw:h.get rw=some (.cells (.slice (some (q,0)) l.length (.grow 20)::tl) false)
 hq:h.get q=some (.cells (rows l) false)
 ne:rw≠q
theorem RAt.upd{h h':H}{rw q:Nat}{l l':List RX}{tl:List V}(a:RAt h rw q l tl)(u:Upd q (.cells (rows l') false) h h')(hl:l'.length=l.length):RAt h' rw q l' tl:=
 ⟨by rw[u.get _ a.ne,a.hw,hl],u.self,a.ne⟩
theorem RAt.set{h:H}{rw q n o:Nat}{l:List RX}{tl:List V}{r r':RX}{v:V}(a:RAt h rw q l tl)(hr:l[n]?=some r)(e:(rows l).set o v=rows (l.set n r')) :
  RAt (h.set q (.cells ((rows l).set o v) false)) rw q (l.set n r') tl:=by
 rw[e];exact a.upd Zt Zd
def RX.came(r:RX)(k:Nat)(i o:Bool):RX:= {r with x:=r.x.came k i o}
theorem RX.came_ff(r:RX)(k:Nat):r.came k false false=r:=by
 obtain⟨x,v0,v1,vw⟩:=r
 match k with
 |0=>rfl
 |_+1=>rfl
theorem RX.came_two(r:RX)(k:Nat)(hk:k=0\/k=1)(i o:Bool):r.came k i o=(r.came k i false).came k false o:=by
 rcases hk with rfl|rfl<;>simp[RX.came,Wi.came,Wi.put,Wi.e,En.came]
theorem RX.came_no_in{r:RX}{k:Nat}(hk:k=0\/k=1)(i:Bool)(h:(i&&(r.x.e k).ring.isSome)=false):r.came k i false=r:=by
 obtain⟨⟨e0,e1,cap,rs,bl,wt⟩,v0,v1,vw⟩:=r;rcases hk with rfl|rfl<;>simp only[Wi.e]at h<;>simp[RX.came,Wi.came,Wi.put,Wi.e,En.came,h]
theorem RX.came_no_out{r:RX}{k:Nat}(hk:k=0\/k=1)(o:Bool)(h:(o&&(r.x.e k).writes)=false):r.came k false o=r:=by
 obtain⟨⟨e0,e1,cap,rs,bl,wt⟩,v0,v1,vw⟩:=r;rcases hk with rfl|rfl<;>simp only[Wi.e]at h<;>simp[RX.came,Wi.came,Wi.put,Wi.e,En.came,h]
theorem RX.came_in{r:RX}{k:Nat}(hk:k=0\/k=1)(h:(r.x.e k).ring.isSome=true):(r.came k true false).cells=r.cells.set (k*8+6) (.int .u64 (IntKind.wrap .u64 ((r.x.e k).inn+1))):=by
 obtain⟨⟨e0,e1,cap,rs,bl,wt⟩,v0,v1,vw⟩:=r;rcases hk with rfl|rfl<;>simp only[Wi.e]at h<;>simp[RX.came,Wi.came,Wi.put,Wi.e,En.came,h,RX.cells,En.rcells,upu]
theorem RX.came_out{r:RX}{k:Nat}(hk:k=0\/k=1)(h:(r.x.e k).writes=true):(r.came k false true).cells=r.cells.set (k*8+7) (.int .u64 (IntKind.wrap .u64 ((r.x.e k).out+1))):=by
 obtain⟨⟨e0,e1,cap,rs,bl,wt⟩,v0,v1,vw⟩:=r;rcases hk with rfl|rfl<;>simp only[Wi.e]at h<;>simp[RX.came,Wi.came,Wi.put,Wi.e,En.came,h,RX.cells,En.rcells,upu]
section
variable{cl:Nat->Call}(Z:Sem cl)
include Z
theorem rw_rise{d rw q n k:Nat}{h:H}{l:List RX}{tl:List V}{r:RX}(hd:1<=d)(A:RAt h rw q l tl)(hr:l[n]?=some r)(hk:k=0\/k=1)(i o:Bool) :
  ∃h',cl d (.fn 149) [.p rw 0,.i (n:Int),.i (k:Int),.bool i,.bool o] h=some (.tup [],h')/\Upd q (.cells (rows (l.set n (r.came k i o))) false) h h':=by
 refine jae (aT Z ?_);rw[RX.came_two r k hk];refine zab (Run.cut (fun y e g=>y = .normal/\(∃s:Env,e=(0,.p rw 0)::(1,.i (n:Int))::(2,.i (k:Int))::(4,.bool o)::s)/\Upd q (.cells (rows (l.set n (r.came k i false))) false) h g) ?_ ?_)
 .obtain⟨hw,hq,d5⟩:=A;have q1:=jic hr hk;have q3:=r_in hr hk;have hn:=r_lt hr;have j4:0+(n:Int).toNat*20+0+(k:Int).toNat*8+6<(rows l).length:=by rw[ja1];omega
  cases hre:(r.x.e k).ring.isSome
  .rw[RX.came_no_in hk i (by rw[hre];simp),jeU hr];rw[hre]at q1;cases i
   all_goals
    repeat' (first|refine qxy ?_|(refine zsp ?_ ?_<;>intro _)|fail)
    exact Zn ⟨rfl,⟨_,rfl⟩,Upd.refl hq⟩
  .rw[hre]at q1;cases i
   .rw[RX.came_no_in hk false rfl,jeU hr];refine Ga ?_;exact Zn ⟨rfl,⟨_,rfl⟩,Upd.refl hq⟩
   .refine Ga ?_;refine zcs rfl rfl rfl hq j4 ?_;rw[jiM hr hk om (RX.came_in hk hre) om];refine Ga ?_;exact Zn ⟨rfl,⟨_,rfl⟩,Zt⟩
 .rintro _ _ g ⟨rfl,⟨s,rfl⟩,u⟩;have A1:=A.upd u Zd;have y8:=get_set (r':=r.came k i false) hr;rw[<- set_set (l:=l) (r:=r.came k i false)];generalize l.set n (r.came k i false)=l1 at u A1 y8 ⊢;generalize r.came k i false=r1 at y8 ⊢;clear A hr;obtain⟨hw,hq,d5⟩:=A1;have q2:=jjQ y8 hk;have q4:=r_out y8 hk;have hn:=r_lt y8;have j4:0+(n:Int).toNat*20+0+(k:Int).toNat*8+7<(rows l1).length:=by rw[ja1];omega
  cases fB:(r1.x.e k).writes
  .rw[RX.came_no_out hk o (by rw[fB];simp),jeU y8];rw[fB]at q2;cases o
   all_goals
    repeat' (first|refine qxy ?_|(refine zsp ?_ ?_<;>intro _)|fail)
    exact⟨rfl,u⟩
  .rw[fB]at q2;cases o
   .rw[RX.came_no_out hk false rfl,jeU y8];refine Ga ?_;exact⟨rfl,u⟩
   .refine Ga ?_;refine zcs rfl rfl rfl hq j4 ?_;rw[jiM y8 hk om (RX.came_out hk fB) om];refine Ga ?_;exact⟨rfl,u.trans Zt⟩
end
abbrev bts(l:List UInt8):List V:=l.map jcY
theorem jkz{l:List UInt8}{i:Nat}{x:UInt8}(h:l[i]?=some x):(bts l)[i]?=some (jcY x):=by simp[h]
theorem jmq(l:List UInt8):(bts l).all V.one=true:=by
 refine joe fun i v hv=>?_;rw[List.getElem?_map]at hv;cases h:l[i]? with
 |none=>rw[h]at hv;cases hv
 |some x=>rw[h]at hv;cases hv;rfl
def putB(buf:List UInt8)(o:Nat)(xs:List UInt8):List UInt8:=buf.take o++(xs++buf.drop (o+xs.length))
theorem jlU{buf xs:List UInt8}{o:Nat}(h:o+xs.length<=buf.length):(putB buf o xs).length=buf.length:=by simp[putB];omega
theorem jjR{buf xs:List UInt8}{o:Nat}(h:o+xs.length<=buf.length)(k:Nat):(putB buf o xs)[k]?=if o<=k/\k<o+xs.length then xs[k-o]? else buf[k]?:=by
 unfold putB;rw[ze];have hl:(buf.take o).length=o:=by simp;omega
 rw[hl];by_cases h1:k<o
 .rw[zD h1,zC om,zN,zD h1]
 .rw[zC h1,ze];by_cases h2:k-o<xs.length
  .rw[zD h2,zD om]
  .rw[zC h2,zC om,zm];congr 1;omega
theorem jnx{buf xs:List UInt8}{o:Nat}(h:o+xs.length<=buf.length):jao (bts buf) o (bts xs)=bts (putB buf o xs):=by
 apply zT;intro k;rw[jeV _ _ _ _ (by simpa using h)];simp only[List.getElem?_map,jjR h,List.length_map];split
 .simp
 .simp
structure RingC(h:H)(r bb:Nat)(buf:List UInt8)(frm n cap:Nat)(inn out:Int):Prop where
 hr:h.get r=some (.cells [.slice (some (bb,0)) cap (.fix cap),.i frm,.i n,.int .u64 inn,.int .u64 out,.bool true] false)
 hb:h.get bb=some (.cells (bts buf) false)
structure RingV(buf q:List UInt8)(frm cap:Nat):Prop where
 len:buf.length=cap
 flt:frm<cap
 fit:q.length<=cap
 small:cap<=65536
 at_:∀i,i<q.length->buf[(frm+i)%cap]?=q[i]?
def ja3(h:H)(r bb:Nat)(q:List UInt8)(cap:Nat):Prop:= ∃buf frm inn out,RingC h r bb buf frm q.length cap inn out/\RingV buf q frm cap
theorem ja3.keep{h h':H}{r bb:Nat}{q:List UInt8}{cap:Nat}(a:ja3 h r bb q cap)(h1:h'.get r=h.get r)(h2:h'.get bb=h.get bb):ja3 h' r bb q cap:=by
 obtain⟨buf,frm,inn,out,c,v⟩:=a;exact⟨buf,frm,inn,out,⟨by rw[h1,c.hr],by rw[h2,c.hb]⟩,v⟩
section
variable{cl:Nat->Call}(Z:Sem cl)
include Z
theorem joA{d r bb:Nat}{h:H}{buf:List UInt8}{frm n cap:Nat}{inn out:Int}(hd:1<=d)(c:RingC h r bb buf frm n cap inn out):cl d (.fn 166) [.p r 0] h=some (.bool false,h):=by
 refine jaj (aT Z ?_);have hr:=c.hr;refine Ga ?_;exact⟨rfl,rfl⟩
theorem jje{d r bb:Nat}{h:H}{buf:List UInt8}{frm n cap:Nat}{inn out:Int}(hd:2<=d)(c:RingC h r bb buf frm n cap inn out):cl d (.fn 115) [.p r 0] h=some (.i n,h):=by
 refine jaj (aT Z ?_);have hr:=c.hr;have hn:=joA Z (d:=d-1) om c;refine Ga ?_;exact⟨rfl,rfl⟩
theorem jlO{d r bb:Nat}{h:H}{buf:List UInt8}{frm n cap:Nat}{inn out:Int}(hd:2<=d)(c:RingC h r bb buf frm n cap inn out)(h1:n<=cap)(h2:cap<=65536):cl d (.fn 116) [.p r 0] h=some (.i ((cap-n:Nat):Int),h):=by
 refine jaj (aT Z ?_);have hr:=c.hr;have hn:=joA Z (d:=d-1) om c;refine Ga ?_;exact⟨by congr 1;omega,rfl⟩
theorem jpA{d:Nat}{h:H}{n:Nat}(hd:1<=d)(h1:n<=65536):cl d (.fn 142) [.i n] h=some (.tup [.p (h.nx+1) 0,.i 0],
  (h.new (.cells (List.replicate n (.int .u8 0)) false)).new (.cells [.slice (some (h.nx,0)) n (.fix n),.i 0,.i 0,.int .u64 0,.int .u64 0,.bool true] false)):=by
 refine jaj (aT Z ?_);refine Ga ?_;refine Ops.mkSliceN rfl rfl om om ?_;refine Ga ?_;refine zcu rfl rfl ?_;refine Ga ?_;exact⟨rfl,rfl⟩
theorem jhY{d L nb fb rb r bb cap f0 n0:Nat}{h:H}(hd:2<=d)(d5:nb≠fb)(h0:0<cap)(h1:cap<=65536)(h2:n0<=65536)(h3:f0<=1000000)(I:Nat->H->Prop)
  (hI:∀k g g',I k g->(∀j,j≠nb->j≠fb->g'.get j=g.get j)->g'.nx=g.nx->I k g')
  (hr:∀k g,I k g->g.get rb=some (.cells [.p r 0] false)/\∃rest,g.get r=some (.cells (.slice (some (bb,0)) cap (.fix cap)::rest) false))
  (hy:∀k g m,I k g->k<n0->m=min ((f0+k)%cap+(n0-k)) cap-(f0+k)%cap->g.get nb=some (.cells [.i ((n0-k:Nat):Int)] false)->g.get fb=some (.cells [.i ((f0+k:Nat):Int)] false) ->
   ∃g',cl (d-1) (.yld L) [.slice (some (bb,(f0+k)%cap)) m (.fix (cap-(f0+k)%cap))] g=some (.bool true,g')/\I (k+m) g'/\g'.get nb=g.get nb/\g'.get fb=g.get fb)
  (hs:I 0 h) (hn:h.get nb=some (.cells [.i (n0:Int)] false)) (hf:h.get fb=some (.cells [.i (f0:Int)] false)):∃v h',cl d (.fn 193) [.yld L,.p nb 0,.p fb 0,.p rb 0] h=some (v,h')/\I n0 h':=by
 refine aT Z ?_;refine Ga ?_;refine Zq (fun m e g=>∃k:Nat,m=n0-k/\k<=n0/\e=[(0,.yld L),(1,.p nb 0),(2,.p fb 0),(3,.p rb 0)]/\I k g/\g.get nb=some (.cells [.i ((n0-k:Nat):Int)] false)/\g.get fb=some (.cells [.i ((f0+k:Nat):Int)] false))
  (k:=n0) Ze ⟨0,rfl,by omega,rfl,hs,by simpa using hn,by simpa using hf⟩ ?_
 clear hs hn hf;rintro _ _ g ⟨k,rfl,hk,rfl,hi,gn,gf⟩ n ih;obtain⟨g1,rest,g2⟩:=hr k g hi;by_cases d4:k<n0
 case neg=>
  have:k=n0:=by omega
  subst this;refine Ga ?_;exact hi
 obtain⟨g',y1,y2,y3,y4⟩:=hy k g _ hi d4 rfl gn gf;have gP:=Nat.mod_lt (f0+k) h0;generalize d7:(f0+k)%cap=a at gP y1 y2;refine Ga ?_;refine Ops.remN rfl rfl h0 ?_;rw[d7];refine Ga ?_;refine Ops.slice_b (l:=a) (r:=min (a+(n0-k)) cap) rfl rfl ?_ om om (zq _) ?_
 .show some (V.i (min ((a:Int)+((n0-k:Nat):Int)) (cap:Int)))=some (V.i ((min (a+(n0-k)) cap:Nat):Int));congr 2;omega
 have ea:0+a*1=a:=by omega
 rw[ea];refine Ga ?_;refine Ops.yield rfl rfl y1 ?_;refine Ga ?_;rw[gf]at y4;rw[gn]at y3;refine Gb ?_;have hm:0<min (a+(n0-k)) cap-a:=by omega
 have fE:min (a+(n0-k)) cap-a<=n0-k:=by omega
 generalize min (a+(n0-k)) cap-a=m at hm fE y1 y2 ⊢;refine ih (n0-(k+m)) om _ _ ⟨k+m,rfl,by omega,rfl,hI (k+m) g' _ y2 (fun j j1 j2=>by rw[jaa j1,jaa j2]) rfl,?_,?_⟩
 .rw[jab];show some (Obj.cells [V.i (((n0-k:Nat):Int)-(m:Int))] false)=_;congr 4;omega
 .rw[jaa d5.symm,jab];show some (Obj.cells [V.i (((f0+k:Nat):Int)+(m:Int))] false)=_;congr 4;omega
theorem jkJ{d r:Nat}{h:H}{f n:Int}(hd:1<=d):cl d (.fn 178) [.p r 0,.i f,.i n] h =
  some (.clo 193 [.p (h.nx+2) 0,.p (h.nx+1) 0,.p h.nx 0],((h.new (.cells [.p r 0] false)).new (.cells [.i f] false)).new (.cells [.i n] false)):=by
 refine jaj (aT Z ?_);refine Ga ?_;refine zcu rfl rfl ?_;refine Ga ?_;refine zcu rfl rfl ?_;refine Ga ?_;refine zcu rfl rfl ?_;refine Ga ?_;exact⟨rfl,rfl⟩
end
structure BytesAt(h:H)(a:Option (Nat×Nat))(c:Cap)(l:List UInt8):Prop where
 none_:a=none->c = .fix 0/\l=[]
 fits:c.fits l.length 1
 at_:l≠[] -> ∃b o cs ro,a=some (b,o)/\b<h.nx/\h.get b=some (.cells cs ro)/\∀(i:Nat) (x:UInt8),l[i]?=some x->cs[o+i]?=some (jcY x)
theorem ji2{c:Cap}{n k:Nat}(h:c.fits n 1)(hk:k<=n):(c.less k).fits (n-k) 1:=by
 cases c with
 |fix q=>simp only[Cap.less,Cap.fits]at h ⊢;omega
 |grow q=>exact h
 |least q m=>exact h
theorem jmi{c:Cap}{n k:Nat}(h:c.fits n 1)(hk:k<=n):c.fits k 1:=by
 cases c with
 |fix q=>simp only[Cap.fits]at h ⊢;omega
 |grow q=>exact h
 |least q m=>exact h
theorem less_less{c:Cap}{a b:Nat}:(c.less a).less b=c.less (a+b):=by
 cases c with
 |fix q=>simp only[Cap.less];congr 1;omega
 |grow q=>rfl
 |least q m=>simp only[Cap.less];congr 1;omega
theorem less_zero{c:Cap}:c.less 0=c:=by
 cases c<;>rfl
theorem jfd{x i c:Nat}(h:x%c+i<c):(x+i)%c=x%c+i:=by
 rw[Nat.add_mod,Nat.mod_eq_of_lt (show i<c by omega),Nat.mod_eq_of_lt h]
theorem jpO{x y c:Nat}(h1:x<y)(h2:y-x<c):x%c≠y%c:=by
 intro e;have:(y-x)%c=0:=by
  have:=Nat.sub_mod_eq_zero_of_mod_eq e.symm;exact this
 rw[Nat.mod_eq_of_lt h2]at this;omega
theorem jen{l:List UInt8}{cs:List V}{o k m:Nat}(hc:∀(i:Nat) (x:UInt8),l[i]?=some x->cs[o+i]?=some (jcY x))(hm:k+m<=l.length)(h0:0<m) :
  o+k+m<=cs.length/\(cs.drop (o+k)).take m=bts ((l.drop k).take m):=by
 have h1:o+k+m<=cs.length:=by
  have:=hc (k+m-1) _ (za om);rcases zx (o+(k+m-1)) cs.length with h|h
  .omega
  .rw[zd h]at this;cases this
 refine⟨h1,zT fun i=>?_⟩;rw[zN,List.getElem?_map,zN];by_cases hi:i<m
 .rw[zD hi,zD hi,zm,zm];have:=hc (k+i) _ (za om);rw[show o+k+i=o+(k+i) by omega,this,za om];rfl
 .rw[zC hi,zC hi];rfl
theorem nil_slice{call:Call}{fuel base:Nat}{ops:List Ins}{keep:List Nat}{K:List Fr}{e:Env}{h:H}{Q:Post}{ix:Nat}{dst:Option Nat}{at_:Option Nat}{sz:Nat}{x hi:Opd}(hx:x.ev e=some .nils)(xE:hi.ev e=some (.i 0))
  (k:Ops call fuel base ops keep K (layv e dst .nils) h Q):Ops call fuel base (⟨ix,dst,.slice sz x none (some hi) none,none,at_,[]⟩::ops) keep K e h Q:=by
 refine zau rfl ?_ k;simp only[I.pure,hx,evo,xE];rfl
theorem ja3.of{h:H}{r bb cap frm:Nat}{buf q:List UInt8}{f n inn out:Int}(hr:h.get r=some (.cells [.slice (some (bb,0)) cap (.fix cap),.i f,.i n,.int .u64 inn,.int .u64 out,.bool true] false))(hb:h.get bb=some (.cells (bts buf) false))
  (hf:f=frm) (hn:n=q.length) (v:RingV buf q frm cap):ja3 h r bb q cap:=by
 subst hf hn;exact⟨buf,frm,inn,out,⟨hr,hb⟩,v⟩
section
variable{cl:Nat->Call}(Z:Sem cl)
include Z
theorem rp_put{d r bb cap:Nat}{h0:H}{q l:List UInt8}{a:Option (Nat×Nat)}{c:Cap}(hd:6<=d)(R:ja3 h0 r bb q cap)(hr:r<h0.nx)(fD:bb<h0.nx)(vI:r≠bb)(hl:BytesAt h0 a c l)(mE:l.length<=1000000000)
  (d5:∀b o,a=some (b,o)->l≠[]->b≠bb/\b≠r) :
  ∃h',cl d (.fn 150) [.p r 0,.slice a l.length c] h0=some (.i ((min l.length (cap-q.length):Nat):Int),h')/\ja3 h' r bb (q++l.take (min l.length (cap-q.length))) cap/\Ch (fun j=>j=r\/j=bb) h0 h':=by
 have R0:=R;obtain⟨buf,frm,inn,out,C,W⟩:=R;have Yc:=jlO Z (d:=d-1) om C W.fit W.small;have hC:=C.hr;have w1:=W.fit;have w2:=W.small;have w3:=W.flt;refine jae (aT Z ?_);generalize hm:min l.length (cap-q.length)=m;have mU:min (l.length:Int) ((cap-q.length:Nat):Int)=(m:Int):=by omega
 have cut:∀{ops:List Ins} {keep:List Nat} {K:List Fr} {e:Env} {Q:Post} {ix:Nat} {dst:Option Nat} {x hi:Opd} {base:Nat},x.ev e=some (.slice a l.length c)->hi.ev e=some (.i (min (l.length:Int) ((cap-q.length:Nat):Int))) ->
   Ops (cl (d-1)) fuel base ops keep K (layv e dst (.slice a m c)) h0 Q->Ops (cl (d-1)) fuel base (⟨ix,dst,.slice 1 x none (some hi) none,none,none,[]⟩::ops) keep K e h0 Q:=by
  intro ops keep K e Q ix dst x hi base hx hh k;rw[mU]at hh;cases a with
  |none=>
   obtain⟨rfl,rfl⟩:=hl.none_ rfl;have:m=0:=by rw[<- hm];simp
   subst this;exact nil_slice hx hh k
  |some p=>exact Ops.slice_h hx hh om hl.fits k
 by_cases dD:m=0
 .subst dD;refine Ga ?_;refine cut rfl rfl ?_;refine Ga ?_;exact⟨rfl,by simpa using R0,Zr _ _⟩
 have aI:l≠[]:=by rintro rfl;simp at hm;omega
 obtain⟨b,o,cs,ro,rfl,hb,lA,dC⟩:=hl.at_ aI;obtain⟨n1,n2⟩:=d5 b o rfl aI;have sF:m<=l.length:=by omega
 have aF:q.length+m<=cap:=by omega
 refine Ga ?_;refine cut rfl rfl ?_;refine Ga ?_;refine zcu rfl rfl ?_;refine Gb ?_;have nU:=jkJ Z (d:=d-1) (r:=r) (h:=(h0.new (.cells [.nils] false)).set h0.nx (.cells ([.nils].set 0 (.slice (some (b,o)) m c)) false)) (f:=(frm:Int)+(q.length:Int)) (n:=(m:Int)) om;refine Gb ?_;clear nU;generalize hH:((((h0.new (.cells [.nils] false)).set h0.nx (.cells ([.nils].set 0 (.slice (some (b,o)) m c)) false)).new (.cells [.p r 0] false)).new (.cells [.i ((frm:Int)+(q.length:Int))] false)).new (.cells [.i (m:Int)] false)=H1;have x1:H1.nx=h0.nx+4:=by rw[<- hH];rfl
 have g0:H1.get h0.nx=some (.cells [.slice (some (b,o)) m c] false):=by rw[<- hH];exact qgt
 have g1:H1.get (h0.nx+1)=some (.cells [.p r 0] false):=by rw[<- hH];exact qgt
 have g2:H1.get (h0.nx+2)=some (.cells [.i ((frm+q.length:Nat):Int)] false):=by rw[<- hH];exact qgt
 have g3:H1.get (h0.nx+3)=some (.cells [.i (m:Int)] false):=by rw[<- hH];exact qgt
 have gj:∀j,j<h0.nx->H1.get j=h0.get j:=by
  intro j hj;rw[<- hH,jad Zc,jad Zc,jad Zc,jaa om,jad hj]
 clear hH;refine Run.rangeFunc_lo rfl qkp fun LO mD=>?_;rw[x1];have oU:h0.nx+3≠h0.nx+2:=by omega
 obtain⟨v,h',hc,k1,k2,⟨buf',k3,k4,k5,k6⟩,k7,k8⟩:=jhY Z (d:=d-1) (L:=h0.nx+4) (nb:=h0.nx+3) (fb:=h0.nx+2) (rb:=h0.nx+1) (r:=r) (bb:=bb) (cap:=cap) (f0:=frm+q.length) (n0:=m)
  om oU om w2 om om
  (fun k g=>g.get h0.nx=some (.cells [.slice (some (b,o+k)) (m-k) (c.less k)] false)/\g.get (h0.nx+4)=some (LO .ready none) /\
   (∃buf':List UInt8,g.get bb=some (.cells (bts buf') false)/\buf'.length=cap/\(∀i,i<q.length->buf'[(frm+i)%cap]?=q[i]?)/\∀i,i<k->buf'[(frm+q.length+i)%cap]?=l[i]?) /\
   (g.get (h0.nx+1)=some (.cells [.p r 0] false)/\h0.nx+5<=g.nx)/\∀j,j<h0.nx->j≠bb->g.get j=h0.get j)
  (by
   rintro k g g' ⟨i1,i2,⟨buf',i3,i4⟩,⟨i5,i6⟩,i7⟩ hg hx;refine⟨by rw[hg _ om om,i1],by rw[hg _ om om,i2],⟨buf',by rw[hg _ om om,i3],i4⟩,⟨by rw[hg _ om om,i5],by omega⟩,fun j hj hb=>by rw[hg _ om om,i7 j hj hb]⟩)
  (by
   rintro k g ⟨i1,i2,i3,⟨i5,i6⟩,i7⟩;exact⟨i5,_,by rw[i7 r hr vI,hC]⟩)
  (by
   rintro k g mm ⟨i1,i2,⟨buf',i3,i4,i8,i9⟩,⟨i5,i6⟩,i7⟩ hk fG gn gf;have gP:=Nat.mod_lt (frm+q.length+k) (show 0<cap by omega);generalize d7:(frm+q.length+k)%cap=at1 at gP fG;have pU:0<mm:=by omega
   have Ad:k+mm<=m:=by omega
   have eY:at1+mm<=cap:=by omega
   obtain⟨p1,p2⟩:=jen dC (show k+mm<=l.length by omega) pU;generalize bF:(l.drop k).take mm=xs at p2;have cP:xs.length=mm:=by rw[<- bF];simp;omega
   have eB:g.get b=some (.cells cs ro):=by rw[i7 b hb n1,lA]
   refine jae (yl_ Z om mD i2 rfl ?_);refine Ga ?_;refine Zn ⟨rfl,i2,?_⟩;refine Gb ?_;have aE:h0.nx≠bb:=by omega
   refine Ops.copy_chk (d:=mm) (ls:=cs) (new:=bts xs) (ld:=bts buf') rfl rfl (by show mm=min (m-k) _;omega) om (ro:=ro) (by rw[jaa om,eB]) om (by rw[Nat.mul_one];exact p2) (jmq _) (by rw[jaa om,i3]) Zc
    (jau rfl (l:=[.slice (some (b,o+k)) (m-k) (c.less k)]) (ro:=false) qgt rfl rfl ja9) ?_
   rw[jnx om];refine Ops.slice_l (l:=mm) rfl rfl om (ji2 (jmi hl.fits sF) om) ?_;rw[less_less,Nat.mul_one,Nat.add_assoc o k mm,show m-k-mm=m-(k+mm) by omega];refine Gb ?_;refine Zn ⟨⟨.busy,none,qgt⟩,rfl,⟨qgt,jab _,⟨putB buf' at1 xs,qgt,by rw[jlU om,i4],?_,?_⟩,⟨qgt,i6⟩,fun j hj hjb=>?_⟩,qgt,qgt⟩
   .intro i hi;have hp:=Nat.mod_lt (frm+i) (show 0<cap by omega);rw[jjR om,zC,i8 i hi];rintro⟨s1,s2⟩;have e1:=jfd (x:=frm+q.length+k) (i:=(frm+i)%cap-at1) (c:=cap) om;rw[d7]at e1;exact jpO (x:=frm+i) (y:=frm+q.length+k+((frm+i)%cap-at1)) (c:=cap) om om (by rw[e1];omega)
   .intro i hi;have hp:=Nat.mod_lt (frm+q.length+i) (show 0<cap by omega);rw[jjR om];by_cases nF:i<k
    .rw[zC,i9 i nF];rintro⟨s1,s2⟩;have e1:=jfd (x:=frm+q.length+k) (i:=(frm+q.length+i)%cap-at1) (c:=cap) om;rw[d7]at e1;exact jpO (x:=frm+q.length+i) (y:=frm+q.length+k+((frm+q.length+i)%cap-at1)) (c:=cap) om om (by rw[e1];omega)
    .have e1:=jfd (x:=frm+q.length+k) (i:=i-k) (c:=cap) om;rw[d7,show frm+q.length+k+(i-k)=frm+q.length+i by omega]at e1;rw[e1,zD om,<- bF,zN,zD om,zm];congr 1;omega
   .have:=i7 j hj hjb;exact qgt)
  (h:=H1.new (LO .ready none))
  ⟨by rw[jad om,g0];simp[less_zero],by rw[<- x1,jac],⟨buf,by rw[jad om,gj bb fD,C.hb],W.len,W.at_,fun i hi=>by omega⟩,⟨by rw[jad om,g1],by simp[x1]⟩,
   fun j hj _=>by rw[jad om,gj j hj]⟩
  (by rw[jad om,g3]) (by rw[jad om,g2])
 refine⟨v,h',hc,.normal,k2,?_⟩;have k9:(h'.kill (h0.nx+4)).get r=some (.cells [.slice (some (bb,0)) cap (.fix cap),.i frm,.i q.length,.int .u64 inn,.int .u64 out,.bool true] false):=by rw[jai om,k8 r hr vI,hC]
 refine Gb ?_;refine⟨rfl,ja3.of (frm:=frm) (buf:=buf') (jab _) ?_ rfl ?_ ⟨k4,w3,by simp;omega,w2,fun i hi=>?_⟩,?_⟩
 .rw[jaa (Ne.symm vI),jaa (Ne.symm vI),jai om,k3]
 .simp only[zg,List.length_take];omega
 .rw[ze];simp only[zg,List.length_take]at hi;by_cases hiq:i<q.length
  .rw[zD hiq,k5 i hiq]
  .rw[zC hiq,zN,zD om,<- k6 (i-q.length) om];congr 2;omega
 .refine⟨by simp;omega,fun j hj hn=>?_⟩;rw[jaa (fun e=>hn (.inl e)),jaa (fun e=>hn (.inl e)),jai om,k8 j hj (fun e=>hn (.inr e))]
end
def VB(h:H)(v:V)(l:List UInt8):Prop:= ∃a c,v = .slice a l.length c/\BytesAt h a c l
theorem VB.keep{h h':H}{v:V}{l:List UInt8}(a:VB h v l)(hx:h.nx<=h'.nx)(hk:∀z,v.at?=some z->h'.get z=h.get z):VB h' v l:=by
 obtain⟨a,c,rfl,n,f,g⟩:=a;refine⟨a,c,rfl,n,f,fun hl=>?_⟩;obtain⟨b,o,cs,ro,rfl,h1,h2,h3⟩:=g hl;exact⟨b,o,cs,ro,rfl,by omega,by rw[hk b rfl,h2],h3⟩
theorem VB.keep2{h h':H}{v:V}{l:List UInt8}(a:VB h v l)(hx:h.nx<=h'.nx)(hk:l≠[] -> ∀z,v.at?=some z->h'.get z=h.get z):VB h' v l:=by
 obtain⟨a,c,rfl,n,f,g⟩:=a;refine⟨a,c,rfl,n,f,fun hl=>?_⟩;obtain⟨b,o,cs,ro,rfl,h1,h2,h3⟩:=g hl;exact⟨b,o,cs,ro,rfl,by omega,by rw[hk hl b rfl,h2],h3⟩
theorem VB.nil(h:H):VB h .nils []:=⟨none,.fix 0,rfl,fun _=>⟨rfl,rfl⟩,zq _,fun h=>zJ rfl h⟩
theorem VB.one{h:H}{v:V}{l:List UInt8}(a:VB h v l):v.one=true:=by obtain⟨a,c,rfl,_⟩:=a;rfl
def VI(h:H)(v:V)(l:List Int):Prop:= ∃a c,v = .slice a l.length c/\(a=none->c = .fix 0/\l=[])/\c.fits l.length 1/\(l≠[] -> ∃b o cs ro,a=some (b,o)/\b<h.nx/\h.get b=some (.cells cs ro)/\∀(i:Nat) (x:Int),l[i]?=some x->cs[o+i]?=some (.i x))
theorem VI.keep{h h':H}{v:V}{l:List Int}(a:VI h v l)(hx:h.nx<=h'.nx)(hk:∀z,v.at?=some z->h'.get z=h.get z):VI h' v l:=by
 obtain⟨a,c,rfl,n,f,g⟩:=a;refine⟨a,c,rfl,n,f,fun hl=>?_⟩;obtain⟨b,o,cs,ro,rfl,h1,h2,h3⟩:=g hl;exact⟨b,o,cs,ro,rfl,by omega,by rw[hk b rfl,h2],h3⟩
theorem VI.nil(h:H):VI h .nils []:=⟨none,.fix 0,rfl,fun _=>⟨rfl,rfl⟩,zq _,fun h=>zJ rfl h⟩
theorem VI.one{h:H}{v:V}{l:List Int}(a:VI h v l):v.one=true:=by obtain⟨a,c,rfl,_⟩:=a;rfl
section
variable{call:Call}{fuel base:Nat}{ops:List Ins}{keep:List Nat}{K:List Fr}{e:Env}{h:H}{Q:Post}{ix:Nat}{dst at_:Option Nat}
theorem Ops.cut_l{x lo:Opd}{v:V}{l:List UInt8}{m:Nat}(hx:x.ev e=some v)(hv:VB h v l)(wE:lo.ev e=some (.i (m:Int)))(hm:m<=l.length)
  (k:∀v',VB h v' (l.drop m)->(∀z,v'.at?=some z->v.at?=some z)->Ops call fuel base ops keep K (layv e dst v') h Q):Ops call fuel base (⟨ix,dst,.slice 1 x (some lo) none none,none,at_,[]⟩::ops) keep K e h Q:=by
 obtain⟨a,c,rfl,n,f,g⟩:=hv;cases a with
 |none=>
  obtain⟨rfl,rfl⟩:=n rfl;obtain rfl:m=0:=by simpa using hm
  refine zau (v:= .nils) rfl ?_ (k .nils (VB.nil h) fun z hz=>by cases hz);simp only[I.pure,hx,evo,wE];rfl
 |some p=>
  obtain⟨b,o⟩:=p;refine Ops.slice_l hx wE hm f (k _ ⟨some (b,o+m*1),c.less m,by simp,fun e=>by (cases e),by simpa using ji2 f hm,fun hl=>?_⟩ fun z hz=>hz);obtain⟨b',o',cs,ro,e0,h1,h2,h3⟩:=g (by rintro rfl;simp at hl);cases e0;refine⟨b,o+m*1,cs,ro,rfl,h1,h2,fun i x hi=>?_⟩;rw[zm]at hi;rw[show o+m*1+i=o+(m+i) by omega];exact h3 _ _ hi
theorem Ops.cut_h{x hi:Opd}{v:V}{l:List UInt8}{m:Nat}(hx:x.ev e=some v)(hv:VB h v l)(xE:hi.ev e=some (.i (m:Int)))(hm:m<=l.length)
  (k:∀v',VB h v' (l.take m)->(∀z,v'.at?=some z->v.at?=some z)->Ops call fuel base ops keep K (layv e dst v') h Q):Ops call fuel base (⟨ix,dst,.slice 1 x none (some hi) none,none,at_,[]⟩::ops) keep K e h Q:=by
 obtain⟨a,c,rfl,n,f,g⟩:=hv;have uD:(l.take m).length=m:=by simp;omega
 cases a with
 |none=>
  obtain⟨rfl,rfl⟩:=n rfl;obtain rfl:m=0:=by simpa using hm
  refine zau (v:= .nils) rfl ?_ (k .nils (VB.nil h) fun z hz=>by cases hz);simp only[I.pure,hx,evo,xE];rfl
 |some p=>
  obtain⟨b,o⟩:=p;refine Ops.slice_h hx xE hm f (k _ ⟨some (b,o),c,by rw[uD],fun e=>by (cases e),by rw[uD];exact jmi f hm,fun hl=>?_⟩ fun z hz=>hz);obtain⟨b',o',cs,ro,e0,h1,h2,h3⟩:=g (by rintro rfl;simp at hl);cases e0;refine⟨b,o,cs,ro,rfl,h1,h2,fun i x hi=>h3 _ _ ?_⟩;rw[zN]at hi;by_cases hc:i<m
  .rwa[zD hc]at hi
  .rw[zC hc]at hi;cases hi
end
structure ROk(h:H)(rw q:Nat)(r:RX):Prop where
 b:∀k,k=0\/k=1->VB h (r.v k) ((r.x.e k).ring.getD [])/\∀z,(r.v k).at?=some z->z≠q/\z≠rw/\z<h.nx
 w:VI h r.vw r.x.waiting/\∀z,r.vw.at?=some z->z≠q/\z≠rw/\z<h.nx
theorem ROk.keep{h h':H}{rw q:Nat}{r:RX}(a:ROk h rw q r)(c:Ch (fun j=>j=q\/j=rw) h h'):ROk h' rw q r:=by
 refine⟨fun k hk=>?_,?_⟩
 .obtain⟨p,s⟩:=a.b k hk;refine⟨p.keep c.nx fun z hz=>c.get z (s z hz).2.2 fun e=>?_,fun z hz=>⟨(s z hz).1,(s z hz).2.1,zr (s z hz).2.2 c.nx⟩⟩;rcases e with e|e
  .exact (s z hz).1 e
  .exact (s z hz).2.1 e
 .obtain⟨p,s⟩:=a.w;refine⟨p.keep c.nx fun z hz=>c.get z (s z hz).2.2 fun e=>?_,fun z hz=>⟨(s z hz).1,(s z hz).2.1,zr (s z hz).2.2 c.nx⟩⟩;rcases e with e|e
  .exact (s z hz).1 e
  .exact (s z hz).2.1 e
structure RW(h:H)(rw q:Nat)(l:List RX)(tl:List V):Prop where
 lw:rw<h.nx
 lq:q<h.nx
 ne:rw≠q
 at_:l≠[]->RAt h rw q l tl
 nil:l=[]->h.get rw=some (.cells (.nils::tl) false)
 ok:∀r∈l,ROk h rw q r
abbrev RC(rw q:Nat):Nat->Prop:=fun j=>j=q\/j=rw
theorem RW.rat{h:H}{rw q n:Nat}{l:List RX}{tl:List V}{r:RX}(w:RW h rw q l tl)(hr:l[n]?=some r):RAt h rw q l tl:=w.at_ (by rintro rfl;simp at hr)
theorem RW.rok{h:H}{rw q n:Nat}{l:List RX}{tl:List V}{r:RX}(w:RW h rw q l tl)(hr:l[n]?=some r):ROk h rw q r:=w.ok r (zc hr)
theorem RW.head{h:H}{rw q:Nat}{l:List RX}{tl:List V}(w:RW h rw q l tl):∃a c,h.get rw=some (.cells (.slice a l.length c::tl) false)/\(l≠[]->a=some (q,0)/\c = .grow 20):=by
 by_cases hl:l=[]
 .subst hl;exact⟨none,.fix 0,w.nil rfl,fun h=>zJ rfl h⟩
 .exact⟨_,_,(w.at_ hl).hw,fun _=>⟨rfl,rfl⟩⟩
theorem RW.set{h h':H}{rw q n:Nat}{l:List RX}{tl:List V}{r r':RX}(w:RW h rw q l tl)(hr:l[n]?=some r)(u:Upd q (.cells (rows (l.set n r')) false) h h')(hk:ROk h rw q r'):RW h' rw q (l.set n r') tl:=by
 have ch:Ch (RC rw q) h h':=u.ch (.inl rfl);refine⟨by rw[u.nx];exact w.lw,by rw[u.nx];exact w.lq,w.ne,fun _=>(w.rat hr).upd u Zd,fun e=>?_,fun s hs=>?_⟩
 .have h1:=congrArg List.length e;have h2:=r_lt hr;simp only[List.length_set,List.length_nil]at h1;omega
 .rcases List.mem_or_eq_of_mem_set hs with h1|rfl
  .exact (w.ok s h1).keep ch
  .exact hk.keep ch
theorem ROk.same{h:H}{rw q:Nat}{r r':RX}(a:ROk h rw q r)(h0:r'.v0=r.v0)(h1:r'.v1=r.v1)(hw:r'.vw=r.vw)(e0:r'.x.e0.ring=r.x.e0.ring)(e1:r'.x.e1.ring=r.x.e1.ring)(e2:r'.x.waiting=r.x.waiting):ROk h rw q r':=by
 refine⟨fun k hk=>?_,by rw[hw,e2];exact a.w⟩;have:=a.b k hk;rcases hk with rfl|rfl
 .simp only[RX.v,Wi.e]at this ⊢;rw[h0,e0];exact this
 .simp only[RX.v,Wi.e]at this ⊢;rw[h1,e1];exact this
theorem ROk.came{h:H}{rw q k:Nat}{r:RX}(a:ROk h rw q r)(hk:k=0\/k=1)(i o:Bool):ROk h rw q (r.came k i o):=by
 rcases hk with rfl|rfl
 .exact a.same rfl rfl rfl rfl rfl rfl
 .exact a.same rfl rfl rfl rfl rfl rfl
section
variable{cl:Nat->Call}(Z:Sem cl)
include Z
theorem jhX{d rw q n k:Nat}{h:H}{l:List RX}{tl:List V}{r:RX}(hd:1<=d)(w:RW h rw q l tl)(hr:l[n]?=some r)(hk:k=0\/k=1)(i o:Bool) :
  ∃h',cl d (.fn 149) [.p rw 0,.i (n:Int),.i (k:Int),.bool i,.bool o] h=some (.tup [],h')/\RW h' rw q (l.set n (r.came k i o)) tl/\Ch (RC rw q) h h':=by
 obtain⟨h',e,u⟩:=rw_rise Z hd (w.rat hr) hr hk i o;exact⟨h',e,w.set hr u ((w.rok hr).came hk i o),u.ch (.inl rfl)⟩
def IsAt(l:List RX)(n k:Nat)(fd:Int):Prop:= ∃r,l[n]?=some r/\(k=0\/k=1)/\(r.x.e k).what=1/\(r.x.e k).fd=fd
theorem rp_at{d rw q:Nat}{h:H}{l:List RX}{tl:List V}{fd:Int}(hd:1<=d)(w:RW h rw q l tl)(j4:l.length<=1000) :
  ∃n k:Int,cl d (.fn 78) [.p rw 0,.i fd] h=some (.tup [.i n,.i k],h)/\((n = -1/\k = -1/\∀n k,¬IsAt l n k fd)\/∃n' k':Nat,n=n'/\k=k'/\IsAt l n' k' fd):=by
 suffices k:∃v h',cl d (.fn 78) [.p rw 0,.i fd] h=some (v,h')/\∃n k:Int,v = .tup [.i n,.i k]/\h'=h/\((n = -1/\k = -1/\∀n k,¬IsAt l n k fd)\/∃n' k':Nat,n=n'/\k=k'/\IsAt l n' k' fd) by
  obtain⟨_,_,e,n,k,rfl,rfl,p⟩:=k;exact⟨n,k,e,p⟩
 refine aT Z ?_;obtain⟨a,c,hw,iP⟩:=w.head;refine Ga ?_;refine Zq (fun m e g=>∃n:Nat,m=l.length-n/\n<=l.length/\e=[(0,.p rw 0),(1,.i fd),(6,.i n)]/\g=h/\∀n' k',n'<n -> ¬IsAt l n' k' fd)
  (k:=l.length) Ze ⟨0,rfl,by omega,rfl,rfl,fun _ _ h=>by omega⟩ ?_
 rintro _ _ h ⟨n,rfl,hn,rfl,rfl,j5⟩ f ih;by_cases d4:n<l.length
 case neg=>
  refine Ga ?_;refine⟨-1,-1,rfl,rfl,.inl ⟨rfl,rfl,fun n' k' d7=>?_⟩⟩;obtain⟨r,hr,_⟩:=id d7;exact j5 n' k' (by have:=r_lt hr;omega) d7
 obtain⟨rfl,rfl⟩:=iP (by rintro rfl;simp at d4);obtain⟨r,hr⟩:∃r,l[n]?=some r:=⟨_,za d4⟩
 have hq:=(w.rat hr).hq;have jC:((n+1:Nat):Int)=(n:Int)+1:=by omega
 refine Ga ?_;refine Zq (fun m e g=>∃k:Nat,m=2-k/\k<=2/\e=[(0,.p rw 0),(1,.i fd),(6,.i n),(7,.i k)]/\g=h/\∀k',k'<k -> ¬IsAt l n k' fd)
  (k:=2) Ze ⟨0,rfl,by omega,rfl,rfl,fun _ h=>by omega⟩ ?_
 rintro _ _ h ⟨k,rfl,hk,rfl,rfl,qU⟩ f2 ih2;by_cases nB:k<2
 case neg=>
  obtain rfl:k=2:=by omega
  clear ih2;refine Ga ?_;refine ih (l.length-(n+1)) om _ _ ⟨n+1,rfl,by omega,by rw[jC],rfl,fun n' k' xB d7=>?_⟩;rcases zx n' n with h1|h1
  .exact j5 n' k' h1 d7
  .obtain rfl:n'=n:=by omega
   obtain⟨_,_,kO,_⟩:=id d7;exact qU k' om d7
 have rU:k=0\/k=1:=by omega
 have q1:=jji hr rU;have q2:=r_fd hr rU;have mF:((k+1:Nat):Int)=(k:Int)+1:=by omega
 by_cases h1:(r.x.e k).what=1
 case neg=>
  refine Ga ?_;refine ih2 (2-(k+1)) om _ _ ⟨k+1,rfl,by omega,by rw[mF],rfl,fun k' xB d7=>?_⟩;rcases zx k' k with h2|h2
  .exact qU k' h2 d7
  .obtain rfl:k'=k:=by omega
   obtain⟨r',dE,_,l9,_⟩:=d7;rw[hr]at dE;cases dE;exact h1 l9
 by_cases h2:(r.x.e k).fd=fd
 case neg=>
  refine Ga ?_;refine ih2 (2-(k+1)) om _ _ ⟨k+1,rfl,by omega,by rw[mF],rfl,fun k' xB d7=>?_⟩;rcases zx k' k with h3|h3
  .exact qU k' h3 d7
  .obtain rfl:k'=k:=by omega
   obtain⟨r',dE,_,_,l9⟩:=d7;rw[hr]at dE;cases dE;exact h2 l9
 clear ih ih2;refine Ga ?_;exact⟨n,k,rfl,rfl,.inr ⟨n,k,rfl,rfl,r,hr,rU,h1,h2⟩⟩
end
theorem jn1{buf q:List UInt8}{frm cap k mm a:Nat}(W:RingV buf q frm cap)(ha:(frm+k)%cap=a)(h1:a+mm<=cap)(h2:k+mm<=q.length):((bts buf).drop a).take mm=bts ((q.drop k).take mm):=by
 refine zT fun i=>?_;rw[zN,List.getElem?_map,zN];by_cases hi:i<mm
 .rw[zD hi,zD hi,zm,zm,List.getElem?_map];have e1:=jfd (x:=frm+k) (i:=i) (c:=cap) om;have:=W.at_ (k+i) om;rw[<- Nat.add_assoc,e1,ha]at this;rw[this]
 .rw[zC hi,zC hi];rfl
section
variable{cl:Nat->Call}(Z:Sem cl)
include Z
theorem joB{d r bb cap frm:Nat}{h0:H}{buf q:List UInt8}{inn out n:Int}(hd:6<=d)(C:RingC h0 r bb buf frm q.length cap inn out)(W:RingV buf q frm cap)(hr:r<h0.nx)(fD:bb<h0.nx) :
  ∃v h',cl d (.fn 174) [.p r 0,.i n] h0=some (v,h')/\Row h0.nx h' 1 v (min n q.length).toNat (bts (q.take (min n q.length).toNat))/\((min n q.length).toNat=0->v = .nils)/\Ch (fun _=>False) h0 h':=by
 have j4:=jje Z (d:=d-1) om (h:=h0.new (.cells [.nils] false)) ⟨by rw[jad hr,C.hr],by rw[jad fD,C.hb]⟩;have hC:=(jad (h:=h0) (o:= .cells [.nils] false) hr).trans C.hr;have w1:=W.fit;have w2:=W.small;have w3:=W.flt;refine aT Z ?_;refine Ga ?_;refine zcu rfl rfl ?_;by_cases pB:0<min n (q.length:Int)
 case neg=>
  refine Gb ?_;rw[show (min n (q.length:Int)).toNat=0 by omega];exact⟨Row.nil _ _ _,fun _=>rfl,Ch.new⟩
 generalize hm:(min n (q.length:Int)).toNat=m;have vR:min n (q.length:Int)=(m:Int):=by omega
 rw[vR]at pB;have Bd:m<=q.length:=by omega
 have nU:=jkJ Z (d:=d-1) (r:=r) (h:=h0.new (.cells [.nils] false)) (f:=(frm:Int)) (n:=min n (q.length:Int)) om;refine Gb ?_;clear nU j4;rw[vR];generalize hH:(((h0.new (.cells [.nils] false)).new (.cells [.p r 0] false)).new (.cells [.i (frm:Int)] false)).new (.cells [.i (m:Int)] false)=H1;have x1:H1.nx=h0.nx+4:=by rw[<- hH];rfl
 have g0:H1.get h0.nx=some (.cells [.nils] false):=by rw[<- hH];exact qgt
 have g1:H1.get (h0.nx+1)=some (.cells [.p r 0] false):=by rw[<- hH];exact qgt
 have g2:H1.get (h0.nx+2)=some (.cells [.i (frm:Int)] false):=by rw[<- hH];exact qgt
 have g3:H1.get (h0.nx+3)=some (.cells [.i (m:Int)] false):=by rw[<- hH];exact qgt
 have gj:∀j,j<h0.nx->H1.get j=h0.get j:=by
  intro j hj;rw[<- hH,jad Zc,jad Zc,jad Zc,jad hj]
 clear hH hC;refine Run.rangeFunc_lo rfl qkp fun LO mD=>?_;rw[x1];have oU:h0.nx+3≠h0.nx+2:=by omega
 obtain⟨v,h',hc,⟨sv,k1,k3⟩,k2,⟨k7,k6⟩,k8⟩:=jhY Z (d:=d-1) (L:=h0.nx+4) (nb:=h0.nx+3) (fb:=h0.nx+2) (rb:=h0.nx+1) (r:=r) (bb:=bb) (cap:=cap) (f0:=frm) (n0:=m)
  om oU om w2 om om
  (fun k g=>(∃sv,g.get h0.nx=some (.cells [sv] false)/\Row (h0.nx+5) g 1 sv k (bts (q.take k)))/\g.get (h0.nx+4)=some (LO .ready none) /\
   (g.get (h0.nx+1)=some (.cells [.p r 0] false)/\h0.nx+5<=g.nx)/\∀j,j<h0.nx->g.get j=h0.get j)
  (by
   rintro k g g' ⟨⟨sv,i1,ir⟩,i2,⟨i5,i6⟩,i7⟩ hg hx;exact⟨⟨sv,by rw[hg _ om om,i1],ir.keep om fun z hz=>by have:=ir.at_ge hz;exact hg _ om om⟩,by rw[hg _ om om,i2],⟨by rw[hg _ om om,i5],by omega⟩,fun j hj=>by rw[hg _ om om,i7 j hj]⟩)
  (by
   rintro k g ⟨i1,i2,⟨i5,i6⟩,i7⟩;exact⟨i5,_,by rw[i7 r hr,C.hr]⟩)
  (by
   rintro k g mm ⟨⟨sv,i1,ir⟩,i2,⟨i5,i6⟩,i7⟩ hk fG gn gf;have gP:=Nat.mod_lt (frm+k) (show 0<cap by omega);generalize d7:(frm+k)%cap=at1 at gP fG;have pU:0<mm:=by omega
   have Ad:k+mm<=m:=by omega
   have eY:at1+mm<=cap:=by omega
   have Cd:=jn1 W d7 eY (show k+mm<=q.length by omega);have eB:g.get bb=some (.cells (bts buf) false):=by rw[i7 bb fD,C.hb]
   refine jae (yl_ Z om mD i2 rfl ?_);refine Ga ?_;refine Zn ⟨rfl,i2,?_⟩;refine Gb ?_;have ir':Row (h0.nx+5) (g.set (h0.nx+4) (LO .busy none)) 1 sv k (bts (q.take k)):=ir.keep Zd fun z hz=>by have:=ir.at_ge hz;exact jaa om
   refine Ops.appendN (N:=h0.nx+5) rfl rfl ir' (by simpa using i6) pU (ro:=false) (by rw[jaa om,eB]) (by have:=W.len;simp;omega) (by rw[Nat.mul_one];exact Cd) (jmq _) om om om fun v' h2 q1 q2 q3 q4=>?_;simp only[H.nx_set]at q2 q3 q4;have q5:∀j,j<h0.nx+5->h2.get j=(g.set (h0.nx+4) (LO .busy none)).get j:=fun j hj=>q4 j om fun hv=>by have:=(ir.at_ge hv).1;omega
   have b0:h2.get h0.nx=some (.cells [sv] false):=by rw[q5 _ om];exact qgt
   have m9:=q1.one;refine zcs rfl rfl m9 b0 zM ?_;refine Gb ?_;refine Zn ⟨⟨.busy,none,by rw[jaa om,q5 _ om,jab]⟩,rfl,⟨⟨v',qgt,?_⟩,jab _,⟨?_,by simp;omega⟩,fun j hj=>?_⟩,?_,?_⟩
   .have e:bts (q.take k)++bts ((q.drop k).take mm)=bts (q.take (k+mm)):=by rw[<- List.map_append,List.take_add]
    rw[<- e];refine q1.keep Zd fun z hz=>?_;rw[q3]at hz;cases hz;rw[jaa om,jaa om]
   .rw[jaa om,jaa om,q5 _ om,jaa om,i5]
   .rw[jaa om,jaa om,q5 _ om,jaa om,i7 j hj]
   .rw[jaa om,jaa om,q5 _ om,jaa om]
   .rw[jaa om,jaa om,q5 _ om,jaa om])
  (h:=H1.new (LO .ready none))
  ⟨⟨.nils,by rw[jad om,g0],Row.nil _ _ _⟩,by rw[<- x1,jac],⟨by rw[jad om,g1],by simp[x1]⟩,fun j hj=>by rw[jad om,gj j hj]⟩
  (by rw[jad om,g3]) (by rw[jad om,g2])
 refine⟨v,h',hc,.normal,k2,?_⟩;have k9:(h'.kill (h0.nx+4)).get h0.nx=some (.cells [sv] false):=by rw[jai om,k1]
 refine Gb ?_;exact⟨(k3.keep Zd fun z hz=>by have:=k3.at_ge hz;exact jai om).weaken om,fun hz=>by omega,by simp;omega,fun j hj _=>by rw[jai om,k8 j hj]⟩
theorem jo8{d r bb cap:Nat}{h0:H}{q:List UInt8}{n:Int}(hd:7<=d)(R:ja3 h0 r bb q cap)(hr:r<h0.nx)(fD:bb<h0.nx)(vI:r≠bb) :
  ∃v h',cl d (.fn 147) [.p r 0,.i n] h0=some (v,h')/\Row h0.nx h' 1 v (min n q.length).toNat (bts (q.take (min n q.length).toNat))/\((min n q.length).toNat=0->v = .nils)/\ja3 h' r bb (q.drop (min n q.length).toNat) cap/\Ch (fun j=>j=r) h0 h':=by
 have R0:=R;obtain⟨buf,frm,inn,out,C,W⟩:=R;obtain⟨v,h1,e1,row,rG,ch⟩:=joB Z (d:=d-1) (n:=n) om C W hr fD;have c1:=(ch.get r hr id).trans C.hr;have c2:=(ch.get bb fD id).trans C.hb;have w1:=W.fit;have w2:=W.small;have w3:=W.flt;refine aT Z ?_;generalize hm:(min n (q.length:Int)).toNat=m at row rG ⊢;have Bd:m<=q.length:=by omega
 obtain⟨c,⟨a,rfl⟩,lF⟩:=row.shape;by_cases dD:m=0
 .subst dD;refine Gb ?_;exact⟨row,rG,by simpa using R0.keep (ch.get r hr id) (ch.get bb fD id),ch.weaken fun j _ hj=>hj.elim⟩
 refine Gb ?_;refine Ops.remN rfl rfl om ?_;refine Gb ?_;refine⟨row.keep Zd fun z hz=>?_,rG,ja3.of (frm:=(frm+m)%cap) (buf:=buf) (jab _) ?_ rfl ?_ ⟨W.len,Nat.mod_lt _ om,by simp;omega,w2,fun i hi=>?_⟩,?_⟩
 .have:=row.at_ge hz;have:z≠r:=by omega
  rw[jaa this,jaa this,jaa this]
 .rw[jaa (Ne.symm vI),jaa (Ne.symm vI),jaa (Ne.symm vI),c2]
 .simp only[List.length_drop];omega
 .simp only[List.length_drop]at hi;have:=W.at_ (m+i) om;rw[zm,<- this];congr 1;rw[Nat.mod_add_mod];congr 1;omega
 .refine⟨by simp;exact ch.nx,fun j hj hn=>?_⟩;have:j≠r:=hn;rw[jaa this,jaa this,jaa this,ch.get j hj id]
end
def two(a b:Nat):Nat->Nat
 |0=>a
 |_=>b
theorem Wi.ring_cell{x:Wi}{r0 r1 k:Nat}{wv:V}{q:List UInt8}(hk:k=0\/k=1)(hq:(x.e k).ring=some q){o:Nat}(ho:o=k*7+2):(x.cells r0 r1 wv)[o]?=some (.p (two r0 r1 k) 0):=by
 subst ho;rcases hk with rfl|rfl
 .have hq:x.e0.ring=some q:=hq;simp[Wi.cells,En.cells,hq,En.ptr,two]
 .have hq:x.e1.ring=some q:=hq;simp[Wi.cells,En.cells,hq,En.ptr,two]
theorem Wi.what_cell{x:Wi}{r0 r1 k:Nat}{wv:V}(hk:k=0\/k=1){o:Nat}(ho:o=k*7):(x.cells r0 r1 wv)[o]?=some (.i (x.e k).what):=by
 subst ho;rcases hk with rfl|rfl<;>simp[Wi.cells,En.cells,Wi.e]
theorem Wi.shut_cell{x:Wi}{r0 r1 k:Nat}{wv:V}(hk:k=0\/k=1){o:Nat}(ho:o=k*7+4):(x.cells r0 r1 wv)[o]?=some (.bool (x.e k).shut):=by
 subst ho;rcases hk with rfl|rfl<;>simp[Wi.cells,En.cells,Wi.e]
theorem Wi.writes_cell{x:Wi}{r0 r1 k:Nat}{wv:V}(hk:k=0\/k=1){o:Nat}(ho:o=k*7+3):(x.cells r0 r1 wv)[o]?=some (.bool (x.e k).writes):=by
 subst ho;rcases hk with rfl|rfl<;>simp[Wi.cells,En.cells,Wi.e]
theorem Wi.reset_cell{x:Wi}{r0 r1:Nat}{wv:V}{o:Nat}(ho:o=14):(x.cells r0 r1 wv)[o]?=some (.bool x.reset):=by
 subst ho;simp[Wi.cells,En.cells]
theorem Wi.backlog_cell{x:Wi}{r0 r1:Nat}{wv:V}{o:Nat}(ho:o=15):(x.cells r0 r1 wv)[o]?=some (.i x.backlog):=by
 subst ho;simp[Wi.cells,En.cells]
theorem Wi.cells_length(x:Wi)(r0 r1:Nat)(wv:V):(x.cells r0 r1 wv).length=17:=by simp[Wi.cells,En.cells]
def Wi.setq(x:Wi)(k:Nat)(q:List UInt8):Wi:=x.put k {x.e k with ring:=some q}
theorem Wi.setq_cells{x:Wi}{r0 r1 k:Nat}{wv:V}{q q':List UInt8}(hk:k=0\/k=1)(hq:(x.e k).ring=some q):(x.setq k q').cells r0 r1 wv=x.cells r0 r1 wv:=by
 rcases hk with rfl|rfl
 .have hq:x.e0.ring=some q:=hq;simp[Wi.setq,Wi.put,Wi.e,Wi.cells,En.cells,hq,En.ptr]
 .have hq:x.e1.ring=some q:=hq;simp[Wi.setq,Wi.put,Wi.e,Wi.cells,En.cells,hq,En.ptr]
def Wi.take(x:Wi)(k m:Nat)(q:List UInt8):Wi:=(x.setq k (q.drop m)).came (1-k) false (decide (0<m))
def Wi.fill(x:Wi)(k m:Nat)(q l:List UInt8):Wi:=(x.setq (1-k) (q++l.take m)).came (1-k) (decide (0<m)) false
def Wi.doShut(x:Wi)(k:Nat):Wi:=if (x.e k).shut=true then x else (x.put k {x.e k with shut:=true}).came (1-k) true false
section
variable{cl:Nat->Call}(Z:Sem cl)
include Z
theorem joh{d wb r0 r1 k b:Nat}{wv:V}{h0:H}{x:Wi}{n:Int}{q:List UInt8}(hd:8<=d)(hw:h0.get wb=some (x.obj r0 r1 wv))(hk:k=0\/k=1)(hq:(x.e k).ring=some q)(R:ja3 h0 (two r0 r1 k) b q x.cap)
  (l1:wb<h0.nx) (l2:two r0 r1 k<h0.nx) (l3:b<h0.nx) (n1:two r0 r1 k≠b) (n2:wb≠two r0 r1 k) (n3:wb≠b) :
  ∃v h',cl d (.fn 79) [.p wb 0,.i (k:Int),.i n] h0=some (v,h')/\Row h0.nx h' 1 v (min n q.length).toNat (bts (q.take (min n q.length).toNat))/\((min n q.length).toNat=0->v = .nils)/\h'.get wb=some ((x.take k (min n q.length).toNat q).obj r0 r1 wv) /\
   ja3 h' (two r0 r1 k) b (q.drop (min n q.length).toNat) x.cap/\Ch (fun j=>j=wb\/j=two r0 r1 k) h0 h':=by
 obtain⟨v,h1,e1,row,rG,R1,ch⟩:=jo8 Z (d:=d-1) (n:=n) om R l2 l3 n1;have Dd:=Wi.ring_cell (x:=x) (r0:=r0) (r1:=r1) (wv:=wv) hk hq (o:=0+0+(k:Int).toNat*7+2) om;generalize hm:(min n (q.length:Int)).toNat=m at row rG R1 ⊢;have l9:h1.get wb=some ((x.setq k (q.drop m)).obj r0 r1 wv):=by rw[ch.get wb l1 n2,hw,Wi.obj,Wi.obj,Wi.setq_cells hk hq]
 obtain⟨h2,e2,u2⟩:=jg0 Z (d:=d-1) (k:=1-k) om l9 om false (decide (0<m));obtain⟨c,⟨a,rfl⟩,lF⟩:=row.shape;have ek:(1:Int)-(k:Int)=((1-k:Nat):Int):=by omega
 have eb:decide (0<(m:Int))=decide (0<m):=by simp
 have hx:((x.setq k (q.drop m)).came (1-k) false (decide (0<m)))=x.take k m q:=rfl;rw[hx]at u2;have kF:=ch.nx;have hw:=hw;unfold Wi.obj at hw;refine aT Z ?_;refine Ga ?_;rw[ek,eb];refine Ga ?_;refine⟨row.keep (by rw[u2.nx];exact zq _) fun z hz=>?_,rG,u2.self,R1.keep (u2.get _ n2.symm) (u2.get _ n3.symm),by rw[u2.nx];exact kF,fun j hj hn=>?_⟩
 .have:=row.at_ge hz;exact u2.get _ om
 .rw[u2.get j (fun e=>hn (.inl e)),ch.get j hj (fun e=>hn (.inr e))]
theorem joj{d wb r0 r1 k b:Nat}{wv:V}{h0:H}{x:Wi}{q l:List UInt8}{a:Option (Nat×Nat)}{c:Cap}(hd:7<=d)(hw:h0.get wb=some (x.obj r0 r1 wv))(hk:k=0\/k=1)(hq:(x.e (1-k)).ring=some q)(R:ja3 h0 (two r0 r1 (1-k)) b q x.cap)
  (l1:wb<h0.nx) (l2:two r0 r1 (1-k)<h0.nx) (l3:b<h0.nx) (n1:two r0 r1 (1-k)≠b) (n2:wb≠two r0 r1 (1-k)) (n3:wb≠b) (hl:BytesAt h0 a c l) (mE:l.length<=1000000000)
  (d5:∀z o,a=some (z,o)->l≠[]->z≠b/\z≠two r0 r1 (1-k)) :
  ∃h',cl d (.fn 82) [.p wb 0,.i (k:Int),.slice a l.length c] h0=some (.i ((min l.length (x.cap-q.length):Nat):Int),h')/\h'.get wb=some ((x.fill k (min l.length (x.cap-q.length)) q l).obj r0 r1 wv) /\
   ja3 h' (two r0 r1 (1-k)) b (q++l.take (min l.length (x.cap-q.length))) x.cap/\Ch (fun j=>j=wb\/j=two r0 r1 (1-k)\/j=b) h0 h':=by
 obtain⟨h1,e1,R1,ch⟩:=rp_put Z (d:=d-1) om R l2 l3 n1 hl mE d5;have ek:(1:Int)-(k:Int)=((1-k:Nat):Int):=by omega
 have w6:1-k=0\/1-k=1:=by omega
 have Dd:=Wi.ring_cell (x:=x) (r0:=r0) (r1:=r1) (wv:=wv) w6 hq (o:=0+0+((1:Int)-(k:Int)).toNat*7+2) om;generalize hm:min l.length (x.cap-q.length)=m at e1 R1 ⊢;have l9:h1.get wb=some ((x.setq (1-k) (q++l.take m)).obj r0 r1 wv):=by rw[ch.get wb l1 om,hw,Wi.obj,Wi.obj,Wi.setq_cells w6 hq]
 obtain⟨h2,e2,u2⟩:=jg0 Z (d:=d-1) (k:=1-k) om l9 w6 (decide (0<m)) false;have eb:decide (0<(m:Int))=decide (0<m):=by simp
 have hx:((x.setq (1-k) (q++l.take m)).came (1-k) (decide (0<m)) false)=x.fill k m q l:=rfl;rw[hx]at u2;have kF:=ch.nx;have hw:=hw;unfold Wi.obj at hw;refine jae (aT Z ?_);refine Ga ?_;rw[ek,eb];refine Ga ?_;refine⟨rfl,u2.self,R1.keep (u2.get _ n2.symm) (u2.get _ n3.symm),by rw[u2.nx];exact kF,fun j hj hn=>?_⟩;rw[u2.get j (fun e=>hn (.inl e)),ch.get j hj (fun e=>hn (.inr e))]
theorem joi{d wb r0 r1 k:Nat}{wv:V}{h:H}{x:Wi}(hd:2<=d)(hw:h.get wb=some (x.obj r0 r1 wv))(hk:k=0\/k=1) :
  ∃h',cl d (.fn 84) [.p wb 0,.i (k:Int)] h=some (.tup [],h')/\Upd wb ((x.doShut k).obj r0 r1 wv) h h':=by
 refine jae (aT Z ?_);have Ed:=Wi.shut_cell (x:=x) (r0:=r0) (r1:=r1) (wv:=wv) hk (o:=0+0+(k:Int).toNat*7+4) om;have sU:=hw;unfold Wi.obj at hw;by_cases hs:(x.e k).shut=true
 .have dF:¬(x.e k).shut=false:=by simp[hs]
  refine Ga ?_;exact⟨rfl,by rw[Wi.doShut,zD hs];exact Upd.refl sU⟩
 .have dF:(x.e k).shut=false:=by simpa using hs
  refine Ga ?_;refine zcs rfl rfl rfl hw (by rw[Wi.cells_length];omega) ?_;have e1:Obj.cells ((x.cells r0 r1 wv).set (0+0+(k:Int).toNat*7+4) (.bool true)) false=(x.put k {x.e k with shut:=true}).obj r0 r1 wv:=by
   rcases hk with rfl|rfl<;>rfl
  rw[e1];obtain⟨h2,e2,u2⟩:=jg0 Z (d:=d-1) (k:=1-k) om (jab (h:=h) (b:=wb) ((x.put k {x.e k with shut:=true}).obj r0 r1 wv)) om true false;have ek:(1:Int)-(k:Int)=((1-k:Nat):Int):=by omega
  refine Ga ?_;rw[ek];refine Ga ?_;refine⟨rfl,?_⟩;rw[Wi.doShut,zC hs];exact Upd.set.trans u2
end
abbrev Zv:=@Wi.reset_cell
theorem VB.ofRow{h:H}{v:V}{q:List UInt8}{N:Nat}(r:Row N h 1 v q.length (bts q)):VB h v q/\∀z,v.at?=some z->N<=z/\z<h.nx:=by
 refine⟨?_,fun z hz=>r.at_ge hz⟩;rcases r with⟨h1,h2,rfl⟩|⟨b,h1,h2,rfl,h4,h5⟩
 .have:q=[]:=by simpa using h1
  subst this;exact VB.nil h
 .exact⟨_,_,rfl,fun e=>by (cases e),rfl,fun _=>⟨b,0,_,false,rfl,h2,h4,fun i x hi=>by rw[zP];exact jkz hi⟩⟩
section
variable{call:Call}{fuel base:Nat}{ops:List Ins}{keep:List Nat}{K:List Fr}{e:Env}{h:H}{Q:Post}{ix:Nat}{dst:Option Nat}{c:List (Nat×I×Option (Nat×Bool))}
theorem Ops.appB{N:Nat}{x y:Opd}{sv v:V}{q l:List UInt8}(hx:x.ev e=some sv)(hy:y.ev e=some v)(r:Row N h 1 sv q.length (bts q))(hN:N<=h.nx)(hv:VB h v l)(hn:q.length+l.length<=1000000000)
  (hc:∀h':H,h.nx<=h'.nx->(∀j,j<h.nx->sv.at?≠some j->h'.get j=h.get j)->jaO e h' c=true)
  (k:∀v' h',Row N h' 1 v' (q++l).length (bts (q++l))->h.nx<=h'.nx->(∀j,j<h.nx->sv.at?≠some j->h'.get j=h.get j)->Ops call fuel base ops keep K (layv e dst v') h' Q) :
  Ops call fuel base (⟨ix,dst,.append 1 1 x y,none,none,c⟩::ops) keep K e h Q:=by
 obtain⟨a,cp,rfl,n,f,g⟩:=hv;by_cases hl:l=[]
 .subst hl;have eB:jaz h 1 0 (.slice a 0 cp)=some []:=by cases a<;>rfl
  refine Ops.step_chk (v:=sv) (h':=h) (Zp rfl ?_) (hc h (zq _) fun _ _ _=>rfl) (k sv h (by simpa using r) (zq _) fun _ _ _=>rfl);obtain⟨cap,⟨sa,rfl⟩,_⟩:=r.shape;simp only[I.eff,hx,hy,jaH,lenOf,List.length_nil,eB];have tC:(Nat.ble ((q.length+0)*1) (2 ^ 46)&&Nat.ble (q.length+0) (2 ^ 46))=true:=by simp only[zp,zQ];omega
  rw[tC];rfl
 .obtain⟨b,o,cs,ro,rfl,h1,h2,h3⟩:=g hl;have pB:0<l.length:=by cases l<;>simp_all
  obtain⟨p1,p2⟩:=jen (k:=0) (m:=l.length) h3 om pB;rw[zk,zh (zq _)]at p2;obtain⟨v',h',e1,e2,e3,e4,e5⟩:=jfH (bytes:=1) (cap:=cp) (m:=l.length) (so:=o) (new:=bts l) r hN pB h2 om (by rw[Nat.mul_one];exact p2) (jmq l) om om om;refine Ops.step_chk (Zp rfl (by simp only[I.eff,hx,hy,e1])) (hc h' om e5) (k v' h' ?_ om e5);rw[zg];simpa using e2
end
def RX.putv(r:RX)(k:Nat)(v:V)(b:List UInt8):RX:=match k with
 |0=>{r with x:=r.x.setq 0 b,v0:=v}
 |_=>{r with x:=r.x.setq 1 b,v1:=v}
theorem RX.putv_cells{r:RX}{k:Nat}{v:V}{q b:List UInt8}(hk:k=0\/k=1)(hq:(r.x.e k).ring=some q):(r.putv k v b).cells=r.cells.set (k*8+4) v:=by
 obtain⟨⟨e0,e1,cap,rs,bl,wt⟩,v0,v1,vw⟩:=r;rcases hk with rfl|rfl<;>simp only[Wi.e]at hq<;>simp[RX.putv,Wi.setq,Wi.put,Wi.e,RX.cells,En.rcells,hq]
theorem ROk.putv{h:H}{rw q k:Nat}{r:RX}{v:V}{b:List UInt8}(a:ROk h rw q r)(hk:k=0\/k=1)(hv:VB h v b)(hz:∀z,v.at?=some z->z≠q/\z≠rw/\z<h.nx):ROk h rw q (r.putv k v b):=by
 refine⟨fun j hj=>?_,?_⟩
 .have ha:=a.b j hj;rcases hk with rfl|rfl<;>rcases hj with rfl|rfl
  .exact⟨hv,hz⟩
  .exact ha
  .exact ha
  .exact⟨hv,hz⟩
 .rcases hk with rfl|rfl<;>exact a.w
def RX.take(r:RX)(k m:Nat)(b:List UInt8)(v:V):RX:=(r.putv k v (b.drop m)).came (1-k) false (decide (0<m))
def RX.fill(r:RX)(k m:Nat)(b l:List UInt8)(v:V):RX:=(r.putv (1-k) v (b++l.take m)).came (1-k) (decide (0<m)) false
section
variable{cl:Nat->Call}(Z:Sem cl)
include Z
theorem joC{d rw q n k:Nat}{h:H}{l:List RX}{tl:List V}{r:RX}{b:List UInt8}{many:Int}(hd:2<=d)(w:RW h rw q l tl)(hr:l[n]?=some r)(hk:k=0\/k=1)(hb:(r.x.e k).ring=some b)(h0:0<=many) :
  ∃v v' h',cl d (.fn 81) [.p rw 0,.i (n:Int),.i (k:Int),.i many] h=some (v,h')/\VB h' v (b.take (min many b.length).toNat)/\RW h' rw q (l.set n (r.take k (min many b.length).toNat b v')) tl/\Ch (RC rw q) h h':=by
 suffices s:∃v h',cl d (.fn 81) [.p rw 0,.i (n:Int),.i (k:Int),.i many] h=some (v,h')/\∃v',VB h' v (b.take (min many b.length).toNat)/\RW h' rw q (l.set n (r.take k (min many b.length).toNat b v')) tl/\Ch (RC rw q) h h' by
  obtain⟨v,h',e,v',p⟩:=s;exact⟨v,v',h',e,p⟩
 obtain⟨hw,hq,d5⟩:=w.rat hr;have q1:=r_b hr hk;have hn:=r_lt hr;obtain⟨hv,hz⟩:=(w.rok hr).b k hk;rw[hb]at hv;simp only[Option.getD_some]at hv;obtain⟨a,c,aA,nJ⟩:=id hv;have j4:0+(n:Int).toNat*20+0+(k:Int).toNat*8+4<(rows l).length:=by rw[ja1];omega
 have ek:(1:Int)-(k:Int)=((1-k:Nat):Int):=by omega
 generalize hm:(min many (b.length:Int)).toNat=m;have sF:m<=b.length:=by omega
 have eb:decide (0<(m:Int))=decide (0<m):=by simp
 have main:∀(K:List Fr) (Q:Post) v',VB h v' (b.drop m)->(∀z,v'.at?=some z->(r.v k).at?=some z) ->
   ∃h2,cl (d-1) (.fn 149) [.p rw 0,.i (n:Int),.i (1-(k:Int)),.bool false,.bool (decide (0<(m:Int)))] (h.set q (.cells ((rows l).set (0+(n:Int).toNat*20+0+(k:Int).toNat*8+4) v') false))=some (.tup [],h2) /\
    VB h2 (r.v k) b/\RW h2 rw q (l.set n (r.take k m b v')) tl/\Ch (RC rw q) h h2:=by
  intro K Q v' jF iA;rw[jiM hr hk om (RX.putv_cells (r:=r) (v:=v') (b:=b.drop m) hk hb) om];have u1:Upd q (.cells (rows (l.set n (r.putv k v' (b.drop m)))) false) h (h.set q (.cells (rows (l.set n (r.putv k v' (b.drop m)))) false)):=Zt;have w1:=w.set hr u1 ((w.rok hr).putv hk jF fun z tG=>hz z (iA z tG));obtain⟨h2,e2,w2,c2⟩:=jhX Z (d:=d-1) (k:=1-k) om w1 (get_set hr) om false (decide (0<m));rw[set_set]at w2;refine⟨h2,by rw[ek,eb];exact e2,hv.keep (by have:=c2.nx;simpa using this) fun z tG=>?_,w2,(u1.ch (.inl rfl)).trans c2⟩;have xR:=hz z tG;rw[c2.get z (by simpa using xR.2.2) (fun e=>by rcases e with e|e;exact xR.1 e;exact xR.2.1 e),jaa xR.1]
 have fin:∀(K':List Fr) (Q':Post),True:=fun _ _=>trivial;refine aT Z ?_;rw[aA]at q1;by_cases hgt:(b.length:Int)<many
 .have lK:m=b.length:=by omega
  refine Ga ?_;refine Ops.cut_l rfl (by rw[<- aA];exact hv) (by rw[<- lK];rfl) sF fun v' jF iA=>?_;obtain⟨h2,e2,p1,p2,p3⟩:=main [] (fun _ _ _=>True) v' jF (by rw[aA];exact iA);rw[lK]at e2;refine Ga ?_;refine zcs rfl rfl jF.one hq j4 ?_;refine Ga ?_;refine Ops.cut_h rfl (by rw[<- aA];exact p1) (by rw[<- lK];rfl) sF fun v2 wA _=>?_;refine Ga ?_;exact⟨v',wA,p2,p3⟩
 .obtain⟨m',rfl⟩:=zz h0;obtain rfl:m'=m:=by omega
  refine Ga ?_;refine Ops.cut_l rfl (by rw[<- aA];exact hv) rfl sF fun v' jF iA=>?_;obtain⟨h2,e2,p1,p2,p3⟩:=main [] (fun _ _ _=>True) v' jF (by rw[aA];exact iA);refine Ga ?_;refine zcs rfl rfl jF.one hq j4 ?_;refine Ga ?_;refine Ops.cut_h rfl (by rw[<- aA];exact p1) rfl sF fun v2 wA _=>?_;refine Ga ?_;exact⟨v',wA,p2,p3⟩
end
def RX.doShut(r:RX)(k:Nat):RX:= {r with x:=r.x.doShut k}
def Wi.close(x:Wi)(k:Nat):Wi:=let y:=x.came (1-k) (!(x.e k).shut) true;y.put k {y.e k with what:=3}
def RX.close(r:RX)(k:Nat):RX:= {r with x:=r.x.close k}
theorem RX.shut_cells{r:RX}{k:Nat}(hk:k=0\/k=1):(({r with x:=r.x.put k {r.x.e k with shut:=true}}:RX)).cells=r.cells.set (k*8+5) (.bool true):=by
 obtain⟨⟨e0,e1,cap,rs,bl,wt⟩,v0,v1,vw⟩:=r;rcases hk with rfl|rfl<;>simp[Wi.put,Wi.e,RX.cells,En.rcells]
theorem RX.what_cells{r:RX}{k:Nat}{w:Int}(hk:k=0\/k=1):(({r with x:=r.x.put k {r.x.e k with what:=w}}:RX)).cells=r.cells.set (k*8) (.i w):=by
 obtain⟨⟨e0,e1,cap,rs,bl,wt⟩,v0,v1,vw⟩:=r;rcases hk with rfl|rfl<;>simp[Wi.put,Wi.e,RX.cells,En.rcells]
theorem ROk.put{h:H}{rw q k:Nat}{r:RX}(a:ROk h rw q r)(hk:k=0\/k=1){e:En}(he:e.ring=(r.x.e k).ring):ROk h rw q {r with x:=r.x.put k e}:= by
 rcases hk with rfl|rfl
 .exact a.same rfl rfl rfl he rfl rfl
 .exact a.same rfl rfl rfl rfl he rfl
section
variable{cl:Nat->Call}(Z:Sem cl)
include Z
theorem jo9{d rw q n k:Nat}{h:H}{l:List RX}{tl:List V}{r:RX}(hd:2<=d)(w:RW h rw q l tl)(hr:l[n]?=some r)(hk:k=0\/k=1) :
  ∃h',cl d (.fn 85) [.p rw 0,.i (n:Int),.i (k:Int)] h=some (.tup [],h')/\RW h' rw q (l.set n (r.doShut k)) tl/\Ch (RC rw q) h h':=by
 refine jae (aT Z ?_);obtain⟨hw,hq,d5⟩:=w.rat hr;have q1:=jkR hr hk;have hn:=r_lt hr;have j4:0+(n:Int).toNat*20+0+(k:Int).toNat*8+5<(rows l).length:=by rw[ja1];omega
 have ek:(1:Int)-(k:Int)=((1-k:Nat):Int):=by omega
 cases hs:(r.x.e k).shut
 .have e0:r.doShut k=RX.came {r with x:=r.x.put k {r.x.e k with shut:=true}} (1-k) true false:=by simp[RX.doShut,Wi.doShut,hs,RX.came]
  rw[hs]at q1;have hc:=RX.shut_cells (r:=r) hk;have m7:=(w.rok hr).put (e:= {r.x.e k with shut:=true}) hk rfl;rw[e0];generalize ({r with x:=r.x.put k {r.x.e k with shut:=true}}:RX)=r1 at hc m7 ⊢;have u1:Upd q (.cells (rows (l.set n r1)) false) h (h.set q (.cells (rows (l.set n r1)) false)):=Zt;have w1:=w.set hr u1 m7;obtain⟨h2,e2,w2,c2⟩:=jhX Z (d:=d-1) (k:=1-k) om w1 (get_set hr) om true false;rw[set_set]at w2;rw[<- ek]at e2;refine Ga ?_;refine zcs rfl rfl rfl hq j4 ?_;rw[jiM hr hk om hc om];refine Ga ?_;exact⟨rfl,w2,(u1.ch (.inl rfl)).trans c2⟩
 .have e0:r.doShut k=r:=by simp[RX.doShut,Wi.doShut,hs]
  rw[hs]at q1;rw[e0,jeU hr];refine Ga ?_;exact⟨rfl,w,Zr _ _⟩
theorem jjK{d rw q n k:Nat}{h:H}{l:List RX}{tl:List V}{r:RX}(hd:2<=d)(w:RW h rw q l tl)(hr:l[n]?=some r)(hk:k=0\/k=1) :
  ∃h',cl d (.fn 87) [.p rw 0,.i (n:Int),.i (k:Int)] h=some (.tup [],h')/\RW h' rw q (l.set n (r.close k)) tl/\Ch (RC rw q) h h':=by
 refine jae (aT Z ?_);have q1:=jkR hr hk;have fK:=r_lt hr;obtain⟨hw,hq,d5⟩:=w.rat hr;have ek:(1:Int)-(k:Int)=((1-k:Nat):Int):=by omega
 obtain⟨h2,e2,w2,c2⟩:=jhX Z (d:=d-1) (k:=1-k) om w hr om (!(r.x.e k).shut) true;have eb:decide ((r.x.e k).shut=false) = !(r.x.e k).shut:=by cases (r.x.e k).shut<;>rfl
 rw[<- ek,<- eb]at e2;have y9:=get_set (r':=r.came (1-k) (!(r.x.e k).shut) true) hr;have e0:r.close k = {r.came (1-k) (!(r.x.e k).shut) true with x:=(r.came (1-k) (!(r.x.e k).shut) true).x.put k { (r.came (1-k) (!(r.x.e k).shut) true).x.e k with what:=3}}:= rfl;rw[e0,<- set_set (l:=l) (r:=r.came (1-k) (!(r.x.e k).shut) true)];clear e0 eb;generalize l.set n (r.came (1-k) (!(r.x.e k).shut) true)=l2 at w2 y9 ⊢;generalize r.came (1-k) (!(r.x.e k).shut) true=r2 at y9 ⊢;have hn:=r_lt y9;have j4:0+(n:Int).toNat*20+0+(k:Int).toNat*8+0<(rows l2).length:=by rw[ja1];omega
 obtain⟨qA,iD,_⟩:=w2.rat y9;have u:Upd q (.cells (rows (l2.set n {r2 with x:=r2.x.put k {r2.x.e k with what:=3}})) false) h2 (h2.set q (.cells (rows (l2.set n {r2 with x:=r2.x.put k {r2.x.e k with what:=3}})) false)):=Zt;have w3:=w2.set y9 u ((w2.rok y9).put (e:= {r2.x.e k with what:=3}) hk rfl);refine Ga ?_;refine zcs rfl rfl rfl iD j4 ?_;rw[jiM (f:=0) y9 hk om (RX.what_cells (r:=r2) (w:=3) hk) om];refine Ga ?_;exact⟨rfl,w3,c2.trans (u.ch (.inl rfl))⟩
def jl6(l:List RX)(n:Int):Prop:= ∃m r,n=((m:Nat):Int)/\l[m]?=some r/\r.x.e1.what=2
open Classical in
theorem rp_outer{d rw q:Nat}{h:H}{l:List RX}{tl:List V}{n:Int}(hd:1<=d)(w:RW h rw q l tl):cl d (.fn 152) [.p rw 0,.i n] h=some (.bool (decide (jl6 l n)),h):=by
 refine jaj (aT Z ?_);obtain⟨a,c,hw,iP⟩:=w.head;by_cases h0:0<=n
 case neg=>
  have j5:¬jl6 l n:=fun ⟨m,r,e,_⟩=>by omega
  rw[zE j5];refine Ga ?_;exact⟨rfl,rfl⟩
 obtain⟨m,rfl⟩:=zz h0;by_cases d4:m<l.length
 case neg=>
  have j5:¬jl6 l m:=fun ⟨m',r,e,hr,_⟩=>by have:=r_lt hr;omega
  rw[zE j5];refine Ga ?_;exact⟨rfl,rfl⟩
 obtain⟨rfl,rfl⟩:=iP (by rintro rfl;simp at d4);obtain⟨r,hr⟩:∃r,l[m]?=some r:=⟨_,za d4⟩
 have hq:=(w.rat hr).hq;have q1:=jji (k:=1) hr (.inr rfl);by_cases h2:(r.x.e 1).what=2
 .have Fd:jl6 l m:=⟨m,r,rfl,hr,h2⟩
  rw[zG Fd];rw[h2]at q1;refine Ga ?_;exact⟨rfl,rfl⟩
 .have j5:¬jl6 l m:=fun ⟨m',r',e,dE,h3⟩=>by
   obtain rfl:m'=m:=by omega
   rw[hr]at dE;cases dE;exact h2 h3
  rw[zE j5];refine Ga ?_;exact⟨by rw[zE h2],rfl⟩
theorem jlP{d rw q n k:Nat}{h:H}{l:List RX}{tl:List V}{r:RX}{b c:List UInt8}{vc:V}(hd:2<=d)(w:RW h rw q l tl)(hr:l[n]?=some r)(hk:k=0\/k=1)(hb:(r.x.e (1-k)).ring=some b)(wH:b.length<=r.x.cap)(xD:r.x.cap<=65536)
  (hc:VB h vc c) (uL:c.length<=1000) (jR:c≠[] -> ∀z,vc.at?=some z->z≠q/\z≠rw/\z<h.nx) :
  ∃v' h',cl d (.fn 83) [.p rw 0,.i (n:Int),.i (k:Int),vc] h=some (.i ((min c.length (r.x.cap-b.length):Nat):Int),h')/\RW h' rw q (l.set n (r.fill k (min c.length (r.x.cap-b.length)) b c v')) tl/\Ch (RC rw q) h h':=by
 suffices s:∃v h',cl d (.fn 83) [.p rw 0,.i (n:Int),.i (k:Int),vc] h=some (v,h')/\∃v',v = .i ((min c.length (r.x.cap-b.length):Nat):Int)/\RW h' rw q (l.set n (r.fill k (min c.length (r.x.cap-b.length)) b c v')) tl/\Ch (RC rw q) h h' by
  obtain⟨_,h',e,v',rfl,p⟩:=s;exact⟨v',h',e,p⟩
 obtain⟨hw,hq,d5⟩:=w.rat hr;have w6:1-k=0\/1-k=1:=by omega
 have ek:(1:Int)-(k:Int)=((1-k:Nat):Int):=by omega
 have q1:=r_b hr w6;have q2:=r_cap hr;rw[<- ek]at q1;have hn:=r_lt hr;obtain⟨hv,hz⟩:=(w.rok hr).b (1-k) w6;rw[hb]at hv;simp only[Option.getD_some]at hv;obtain⟨a,ca,aA,nJ⟩:=id hv;obtain⟨a2,fY,rfl,Ej⟩:=id hc;have j4:0+(n:Int).toNat*20+0+((1:Int)-(k:Int)).toNat*8+4<(rows l).length:=by rw[ja1,ek];omega
 generalize hm:min c.length (r.x.cap-b.length)=m;have sF:m<=c.length:=by omega
 have eb:decide (0<(m:Int))=decide (0<m):=by simp
 have main:∀(h2:H) (v':V),Row h.nx h2 1 v' (b++c.take m).length (bts (b++c.take m))->h.nx<=h2.nx->(∀j,j<h.nx->h2.get j=h.get j) ->
   h2.get q=some (.cells (rows l) false)/\v'.one=true /\
   ∃h3,cl (d-1) (.fn 149) [.p rw 0,.i (n:Int),.i (1-(k:Int)),.bool (decide (0<(m:Int))),.bool false] (h2.set q (.cells ((rows l).set (0+(n:Int).toNat*20+0+((1:Int)-(k:Int)).toNat*8+4) v') false))=some (.tup [],h3) /\
    RW h3 rw q (l.set n (r.fill k m b c v')) tl/\Ch (RC rw q) h h3:=by
  intro h2 v' row kF uB;obtain⟨jF,iA⟩:=VB.ofRow row;have ch:Ch (RC rw q) h h2:=⟨kF,fun j hj _=>uB j hj⟩
  have lq:=w.lq;have lw:=w.lw;have iD:h2.get q=some (.cells (rows l) false):=by rw[uB q lq,hq]
  have w2:RW h2 rw q l tl:=⟨by omega,by omega,d5,fun hl=>⟨by rw[uB rw lw,(w.at_ hl).hw],iD,d5⟩,fun e=>by rw[uB rw lw,w.nil e],fun s hs=>(w.ok s hs).keep ch⟩
  refine⟨iD,row.one,?_⟩;rw[jiM hr w6 om (RX.putv_cells (r:=r) (v:=v') (b:=b++c.take m) w6 hb) om];have u1:Upd q (.cells (rows (l.set n (r.putv (1-k) v' (b++c.take m)))) false) h2 (h2.set q (.cells (rows (l.set n (r.putv (1-k) v' (b++c.take m)))) false)):=Zt;have w3:=w2.set hr u1 ((w2.rok hr).putv w6 jF fun z tG=>by have:=iA z tG;omega);obtain⟨h4,e4,w4,c4⟩:=jhX Z (d:=d-1) (k:=1-k) om w3 (get_set hr) w6 (decide (0<m)) false;rw[set_set]at w4;exact⟨h4,by rw[ek,eb];exact e4,w4,(ch.trans (u1.ch (.inl rfl))).trans c4⟩
 refine aT Z ?_;rw[aA]at q1;by_cases hgt:(r.x.cap:Int)-(b.length:Int)<(c.length:Int)
 .have lK:(m:Int)=(r.x.cap:Int)-(b.length:Int):=by omega
  refine Ga ?_;rw[<- lK];refine Ops.appB (N:=h.nx) (q:=[]) rfl rfl (Row.nil _ _ _) (zq _) (by rw[<- aA];exact hv) Zc (fun _ _ _=>rfl) fun v1 h1 lC qB hold1=>?_;have jG:∀j,j<h.nx->h1.get j=h.get j:=fun j hj=>hold1 j hj (by intro e;cases e);have l9:h1.get rw=some (.cells (.slice (some (q,0)) l.length (.grow 20)::tl) false):=by rw[jG rw w.lw,hw]
  have pD:h1.get q=some (.cells (rows l) false):=by rw[jG q w.lq,hq]
  have tF:VB h1 (.slice a2 c.length fY) c:=hc.keep2 qB fun hl z tG=>jG z (jR hl z tG).2.2;have mK:∀j,j<h.nx->v1.at?≠some j:=fun j hj e=>by have:=lC.at_ge e;omega
  refine Ga ?_;refine Ops.cut_h rfl tF rfl sF fun v2 wA _=>?_;refine Ga ?_;refine Ops.appB (N:=h.nx) rfl rfl lC qB wA Zc (fun h' hnx' qC=>jau rfl (by rw[qC rw (by have:=w.lw;omega) (mK rw w.lw),l9]) rfl rfl ja9) fun v3 h3 bG nK hold3=>?_;obtain⟨mN,m9,h4,e4,w4,c4⟩:=main h3 v3 (by simpa using bG) om fun j hj=>by rw[hold3 j om (mK j hj),jG j hj]
  refine Ga ?_;refine zcs rfl rfl m9 mN j4 ?_;refine Ga ?_;exact⟨v3,rfl,w4,c4⟩
 .have lK:m=c.length:=by omega
  rw[lK]at main sF ⊢;clear lK hm eb;refine Ga ?_;refine Ops.appB (N:=h.nx) (q:=[]) rfl rfl (Row.nil _ _ _) (zq _) (by rw[<- aA];exact hv) Zc (fun _ _ _=>rfl) fun v1 h1 lC qB hold1=>?_;have jG:∀j,j<h.nx->h1.get j=h.get j:=fun j hj=>hold1 j hj (by intro e;cases e);have l9:h1.get rw=some (.cells (.slice (some (q,0)) l.length (.grow 20)::tl) false):=by rw[jG rw w.lw,hw]
  have pD:h1.get q=some (.cells (rows l) false):=by rw[jG q w.lq,hq]
  have tF:VB h1 (.slice a2 c.length fY) c:=hc.keep2 qB fun hl z tG=>jG z (jR hl z tG).2.2;have mK:∀j,j<h.nx->v1.at?≠some j:=fun j hj e=>by have:=lC.at_ge e;omega
  refine Ga ?_;refine Ops.cut_h rfl tF rfl sF fun v2 wA _=>?_;refine Ga ?_;refine Ops.appB (N:=h.nx) rfl rfl lC qB wA Zc (fun h' hnx' qC=>jau rfl (by rw[qC rw (by have:=w.lw;omega) (mK rw w.lw),l9]) rfl rfl ja9) fun v3 h3 bG nK hold3=>?_;obtain⟨mN,m9,h4,e4,w4,c4⟩:=main h3 v3 (by simpa using bG) om fun j hj=>by rw[hold3 j om (mK j hj),jG j hj]
  refine Ga ?_;refine zcs rfl rfl m9 mN j4 ?_;refine Ga ?_;exact⟨v3,rfl,w4,c4⟩
end
abbrev Ws:=List Wi
def AtW(ws:Ws)(n k:Nat)(fd:Int):Prop:= ∃x,ws[n]?=some x/\(k=0\/k=1)/\(x.e k).what=1/\(x.e k).fd=fd
def Uniq(ws:Ws):Prop:= ∀n k n' k' fd,AtW ws n k fd->AtW ws n' k' fd->n=n'/\k=k'
open Classical in
noncomputable def atS(ws:Ws)(fd:Int):Option (Nat×Nat):=if h:∃p:Nat×Nat,AtW ws p.1 p.2 fd then some h.choose else none
theorem jdA{ws:Ws}{n k:Nat}{fd:Int}(u:Uniq ws)(h:AtW ws n k fd):atS ws fd=some (n,k):=by
 unfold atS;have hx:∃p:Nat×Nat,AtW ws p.1 p.2 fd:=⟨(n,k),h⟩
 rw[dif_pos hx];have:=u _ _ _ _ _ hx.choose_spec h;congr 1;exact Prod.ext this.1 this.2
theorem jfh{ws:Ws}{fd:Int}(h:∀n k,¬AtW ws n k fd):atS ws fd=none:=by
 unfold atS;rw[dif_neg fun ⟨p,hp⟩=>h _ _ hp]
theorem jqs{l:List RX}{n k:Nat}{fd:Int}:IsAt l n k fd↔AtW (l.map RX.x) n k fd:=by
 unfold IsAt AtW;constructor
 .rintro⟨r,h1,h2⟩;exact⟨r.x,by simp[h1],h2⟩
 .rintro⟨x,h1,h2⟩;rw[List.getElem?_map]at h1;cases hr:l[n]? with
  |none=>rw[hr]at h1;cases h1
  |some r=>rw[hr]at h1;cases h1;exact⟨r,rfl,h2⟩
theorem jpX{ws:Ws}{n k:Nat}{fd:Int}(h:AtW ws n k fd):∃x,ws[n]?=some x/\(k=0\/k=1):=by
 obtain⟨x,h1,h2,_⟩:=h;exact⟨x,h1,h2⟩
theorem map_set{l:List RX}{n:Nat}{r:RX}:(l.set n r).map RX.x=(l.map RX.x).set n r.x:=List.map_set
noncomputable def jcd{α:Type}(ws:Ws)(fd:Int)(no:α)(f:Nat->Nat->Wi -> α):α:= match atS ws fd with
 |none=>no
 |some (n,k)=>match ws[n]? with
  |none=>no
  |some x=>f n k x
theorem jaD{α:Type}{ws:Ws}{fd:Int}{no:α}{f:Nat->Nat->Wi -> α}(h:∀n k,¬AtW ws n k fd):jcd ws fd no f=no:=by
 unfold jcd;rw[jfh h]
theorem jaA{α:Type}{ws:Ws}{fd:Int}{no:α}{f:Nat->Nat->Wi -> α}{n k:Nat}{x:Wi}(u:Uniq ws)(h:AtW ws n k fd)(hx:ws[n]?=some x):jcd ws fd no f=f n k x:=by
 unfold jcd;rw[jdA u h];simp only[hx]
noncomputable def jcv(ws:Ws)(fd many:Int):(List UInt8×Bool×Int)×Ws:=
 jcd ws fd (([],false,110),ws) fun n k x=>match (x.e k).ring with
  |none=>(([],false,111),ws)
  |some q=>if many<1 then (([],false,2),ws) else if x.reset then (([],false,115),ws)
   else if q≠[] then ((q.take (min many q.length).toNat,false,0),ws.set n (x.take k (min many q.length).toNat q))
   else if x.silent k then (([],true,0),ws) else (([],false,113),ws)
noncomputable def jbL(ws:Ws)(fd:Int)(b:List UInt8):(Int×Int)×Ws:=
 jcd ws fd ((0,110),ws) fun n k x=>if (x.e k).writes=false then ((0,111),ws) else if x.reset then ((0,115),ws)
  else if (x.e k).shut=true\/(x.e (1-k)).what=3 then ((0,116-2),ws) else if b=[] then ((0,0),ws)
  else match (x.e (1-k)).ring with
   |none=>((0,111),ws)
   |some q=>if min b.length (x.cap-q.length)=0 then ((0,113),ws.set n (x.fill k 0 q b)) else (((min b.length (x.cap-q.length):Nat),0),ws.set n (x.fill k (min b.length (x.cap-q.length)) q b))
noncomputable def jeb(ws:Ws)(fd:Int):Int×Ws:=
 jcd ws fd (110,ws) fun n k x=>if (x.e k).ring=none\/(x.e k).writes=false then (111,ws) else (0,ws.set n (x.doShut k))
noncomputable def jfO(ws:Ws)(fd:Int):Int×Int:=jcd ws fd (0,110) fun n _ _=>(n,0)
def OutW(ws:Ws)(n:Int)(x:Wi):Prop:=0<=n/\ws[n.toNat]?=some x/\x.e1.what=2
def jdf{α:Type}(ws:Ws)(n:Int)(no:α)(f:Nat->Wi -> α):α:= if 0<=n then match ws[n.toNat]? with
  |none=>no
  |some x=>if x.e1.what=2 then f n.toNat x else no
 else no
theorem jbI{α:Type}{ws:Ws}{n:Int}{no:α}{f:Nat->Wi -> α}(h:∀x,¬OutW ws n x):jdf ws n no f=no:=by
 unfold jdf;split
 .next h0=>
  split
  .rfl
  .next x hx=>
   split
   .next h2=>exact zJ ⟨h0,hx,h2⟩ (h x)
   .rfl
 .rfl
theorem jbJ{α:Type}{ws:Ws}{n:Nat}{no:α}{f:Nat->Wi -> α}{x:Wi}(hx:ws[n]?=some x)(h2:x.e1.what=2):jdf ws (n:Int) no f=f n x:=by
 unfold jdf;rw[zD om];simp only[zw,hx,h2,if_true]
def putS(ws:Ws)(n:Int)(b:List UInt8):(Int×Int)×Ws:=
 jdf ws n ((0,116),ws) fun n x=>if x.reset then ((0,115),ws) else if x.e1.shut=true\/x.e0.what=3 then ((0,114),ws)
  else match x.e0.ring with
   |none=>((0,0),ws)
   |some q=>(((min b.length (x.cap-q.length):Nat),0),ws.set n (x.fill 1 (min b.length (x.cap-q.length)) q b))
def jct(ws:Ws)(n many:Int):(List UInt8×Int)×Ws:=
 jdf ws n (([],116),ws) fun n x=>if many<0 then (([],2),ws) else if x.reset then (([],115),ws)
  else match x.e1.ring with
   |none=>(([],0),ws)
   |some q=>((q.take (min many q.length).toNat,0),ws.set n (x.take 1 (min many q.length).toNat q))
def jaB(ws:Ws)(n:Int):Int×Ws:=jdf ws n (116,ws) fun n x=>(0,ws.set n (x.doShut 1))
def ja2(ws:Ws)(n:Int):Int×Ws:=jdf ws n (116,ws) fun n x=>(0,ws.set n (x.close 1))
def Wi.doReset(x:Wi):Wi:=if x.reset then x else
 let y:Wi:= {x with reset:=true}
 let y:=(y.setq 0 []).came 0 true true
 (y.setq 1 []).came 1 true true
def jch(ws:Ws)(n:Int):Int×Ws:=jdf ws n (116,ws) fun n x=>(0,ws.set n x.doReset)
abbrev WhV(x:Wi):Prop:=(0<=x.e0.what/\x.e0.what<=3)/\0<=x.e1.what/\x.e1.what<=3
structure WiOk(x:Wi):Prop where
 cap0:1<=x.cap
 cap1:x.cap<=65536
 len:∀k,k=0\/k=1 -> ∀q,(x.e k).ring=some q->q.length<=x.cap
 pair:∀k,k=0\/k=1->((x.e k).writes=true↔(x.e (1-k)).ring≠none)
 out:x.e1.what=2->x.e0.ring≠none/\x.e1.ring≠none
 bl:0<=x.backlog/\x.backlog<=64
 wh:WhV x
structure WsOk(ws:Ws):Prop where
 uniq:Uniq ws
 ok:∀x∈ws,WiOk x
 len:ws.length<=1000
 wait:∀x∈ws,x.waiting.length<=64/\∀m∈x.waiting,∃y:Wi,0<=m/\ws[m.toNat]?=some y/\y.e0.what=0
def jdL(ws:Ws)(m:Int):Ws:=match ws[m.toNat]? with
 |none=>ws
 |some x=>ws.set m.toNat (x.close 0)
def jaG:Ws->List Int->Ws
 |ws,[]=>ws
 |ws,m::r=>jaG (jdL ws m) r
def noWait(ws:Ws)(n:Nat):Ws:=match ws[n]? with
 |none=>ws
 |some x=>ws.set n {x with waiting:=[]}
noncomputable def jc4(ws:Ws)(fd:Int):Int×Ws:=
 jcd ws fd (110,ws) fun n k x=>(0,noWait (jaG (ws.set n (x.close k)) x.waiting) n)
theorem Wi.close_waiting{x:Wi}{k:Nat}(hk:k=0\/k=1):(x.close k).waiting=x.waiting:=by rcases hk with rfl|rfl<;>rfl
theorem Wi.close_ring{x:Wi}{k j:Nat}(hk:k=0\/k=1)(hj:j=0\/j=1):((x.close k).e j).ring=(x.e j).ring:=by rcases hk with rfl|rfl<;>rcases hj with rfl|rfl<;>rfl
theorem jaN{l:List RX}{n:Nat}{r:RX}(hr:l[n]?=some r):(l.map RX.x)[n]?=some r.x:=by simp[hr]
theorem WsOk.wi{l:List RX}{n:Nat}{r:RX}(o:WsOk (l.map RX.x))(hr:l[n]?=some r):WiOk r.x:=o.ok _ (zc (jaN hr))
theorem jos{r:RX}{k m:Nat}{b:List UInt8}{v:V}(hk:k=0\/k=1):(r.take k m b v).x=r.x.take k m b:=by rcases hk with rfl|rfl<;>rfl
theorem jmY{r:RX}{k m:Nat}{b l:List UInt8}{v:V}(hk:k=0\/k=1):(r.fill k m b l v).x=r.x.fill k m b l:=by rcases hk with rfl|rfl<;>rfl
section
variable{cl:Nat->Call}(Z:Sem cl)
include Z
theorem jdQ{d rw q:Nat}{h:H}{l:List RX}{tl:List V}{fd:Int}(hd:1<=d)(w:RW h rw q l tl)(o:WsOk (l.map RX.x)) :
  ((∀n k,¬AtW (l.map RX.x) n k fd)/\cl d (.fn 78) [.p rw 0,.i fd] h=some (.tup [.i (-1),.i (-1)],h)) \/
  ∃(n k:Nat) (r:RX),AtW (l.map RX.x) n k fd/\l[n]?=some r/\(k=0\/k=1)/\cl d (.fn 78) [.p rw 0,.i fd] h=some (.tup [.i (n:Int),.i (k:Int)],h):=by
 obtain⟨n,k,e,p⟩:=rp_at Z (fd:=fd) hd w (by simpa using o.len);rcases p with⟨rfl,rfl,p⟩|⟨n,k,rfl,rfl,p⟩
 .exact .inl ⟨fun n k hk=>p n k (jqs.2 hk),e⟩
 .obtain⟨r,hr,hk,_⟩:=id p;exact .inr ⟨n,k,r,jqs.1 p,hr,hk,e⟩
theorem rq_Read{d rw q:Nat}{h:H}{l:List RX}{tl:List V}{fd many:Int}(hd:3<=d)(w:RW h rw q l tl)(o:WsOk (l.map RX.x)) :
  ∃v l' h',cl d (.fn 36) [.p rw 0,.i fd,.i many] h=some (.tup [v,.bool (jcv (l.map RX.x) fd many).1.2.1,.i (jcv (l.map RX.x) fd many).1.2.2],h') /\
   VB h' v (jcv (l.map RX.x) fd many).1.1/\RW h' rw q l' tl/\l'.map RX.x=(jcv (l.map RX.x) fd many).2/\Ch (RC rw q) h h':=by
 suffices s:∃v' h',cl d (.fn 36) [.p rw 0,.i fd,.i many] h=some (v',h')/\∃v l',v' = .tup [v,.bool (jcv (l.map RX.x) fd many).1.2.1,.i (jcv (l.map RX.x) fd many).1.2.2] /\
   VB h' v (jcv (l.map RX.x) fd many).1.1/\RW h' rw q l' tl/\l'.map RX.x=(jcv (l.map RX.x) fd many).2/\Ch (RC rw q) h h' by
  obtain⟨_,h',e,v,l',rfl,p⟩:=s;exact⟨v,l',h',e,p⟩
 refine aT Z ?_;rcases jdQ Z (d:=d-1) (fd:=fd) om w o with⟨j5,ea⟩|⟨n,k,r,d7,hr,hk,ea⟩
 .have hS:jcv (l.map RX.x) fd many=(([],false,110),l.map RX.x):=jaD j5;rw[hS];refine Ga ?_;exact⟨_,l,rfl,VB.nil h,w,rfl,Zr _ _⟩
 obtain⟨hw,hq,d5⟩:=w.rat hr;have hn:=r_lt hr;have q1:=jic hr hk;have q2:=jib hr;have q3:=r_b hr hk;have ek:(1:Int)-(k:Int)=((1-k:Nat):Int):=by omega
 have w6:1-k=0\/1-k=1:=by omega
 have q4:=jji hr w6;have q5:=jkR hr w6;rw[<- ek]at q4 q5;have hS:jcv (l.map RX.x) fd many=_:=jaA o.uniq d7 (jaN hr);cases w7:(r.x.e k).ring with
 |none=>
  rw[hS];simp only[w7];rw[w7]at q1;refine Ga ?_;exact⟨_,l,rfl,VB.nil h,w,rfl,Zr _ _⟩
 |some b=>
  rw[w7]at q1;simp only[w7]at hS;by_cases hm:many<1
  .rw[zD hm]at hS;rw[hS];refine Ga ?_;exact⟨_,l,rfl,VB.nil h,w,rfl,Zr _ _⟩
  rw[zC hm]at hS;cases hrs:r.x.reset
  case true=>
   rw[hrs,zD rfl]at hS;rw[hS];rw[hrs]at q2;refine Ga ?_;exact⟨_,l,rfl,VB.nil h,w,rfl,Zr _ _⟩
  rw[hrs,zC Zd]at hS;rw[hrs]at q2;obtain⟨hv,hz⟩:=(w.rok hr).b k hk;rw[w7]at hv;simp only[Option.getD_some]at hv;obtain⟨a,c,aA,_⟩:=id hv;rw[aA]at q3;by_cases hb:b=[]
  .subst hb;rw[zC Zd]at hS;have q3:(rows l)[0+(n:Int).toNat*20+0+(k:Int).toNat*8+4]?=some (V.slice a 0 c):=q3;cases hsi:r.x.silent k
   .rw[hsi,zC Zd]at hS;rw[hS];simp only[Wi.silent,Bool.or_eq_false_iff,beq_eq_false_iff_ne]at hsi;rw[hsi.2]at q5;have h3:=hsi.1;refine Ga ?_;exact⟨_,l,rfl,VB.nil h,w,rfl,Zr _ _⟩
   .rw[hsi,zD rfl]at hS;rw[hS];by_cases h3:(r.x.e (1-k)).what=3
    .refine Ga ?_;exact⟨_,l,rfl,VB.nil h,w,rfl,Zr _ _⟩
    .have bC:(r.x.e (1-k)).shut=true:=by simpa[Wi.silent,h3] using hsi
     rw[bC]at q5;refine Ga ?_;exact⟨_,l,rfl,VB.nil h,w,rfl,Zr _ _⟩
  .rw[zD hb]at hS;rw[hS];have pB:0<(b.length:Int):=by cases b<;>simp_all
   obtain⟨v,v',h',e2,p1,p2,p3⟩:=joC Z (d:=d-1) (many:=many) om w hr hk w7 om;refine Ga ?_;exact⟨v,_,rfl,p1,p2,by rw[map_set,jos hk],p3⟩
end
theorem isOut_wx{l:List RX}{n:Int}:jl6 l n ↔ ∃x,OutW (l.map RX.x) n x:=by
 unfold jl6 OutW;constructor
 .rintro⟨m,r,rfl,hr,h2⟩;exact⟨r.x,by omega,by simpa using⟨r,hr,rfl⟩,h2⟩
 .rintro⟨x,h0,hx,h2⟩;rw[List.getElem?_map]at hx;cases hr:l[n.toNat]? with
  |none=>rw[hr]at hx;cases hx
  |some r=>rw[hr]at hx;cases hx;exact⟨n.toNat,r,by omega,hr,h2⟩
section
variable{cl:Nat->Call}(Z:Sem cl)
include Z
open Classical in
theorem jhZ{d rw q:Nat}{h:H}{l:List RX}{tl:List V}{n:Int}(hd:1<=d)(w:RW h rw q l tl) :
  ((∀x,¬OutW (l.map RX.x) n x)/\cl d (.fn 152) [.p rw 0,.i n] h=some (.bool false,h)) \/
  ∃(m:Nat) (r:RX),n=m/\l[m]?=some r/\r.x.e1.what=2/\cl d (.fn 152) [.p rw 0,.i n] h=some (.bool true,h):=by
 have e:=rp_outer Z (n:=n) hd w;by_cases ho:jl6 l n
 .rw[zG ho]at e;obtain⟨m,r,rfl,hr,h2⟩:=ho;exact .inr ⟨m,r,rfl,hr,h2,e⟩
 .rw[zE ho]at e;exact .inl ⟨fun x hx=>ho (isOut_wx.2 ⟨x,hx⟩),e⟩
theorem rq_Write{d rw q:Nat}{h:H}{l:List RX}{tl:List V}{fd:Int}{b:List UInt8}{vb:V}(hd:3<=d)(w:RW h rw q l tl)(o:WsOk (l.map RX.x))(hb:VB h vb b)(iE:b.length<=1000)(nJ:b≠[] -> ∀z,vb.at?=some z->z≠q/\z≠rw/\z<h.nx) :
  ∃l' h',cl d (.fn 38) [.p rw 0,.i fd,vb] h=some (.tup [.i (jbL (l.map RX.x) fd b).1.1,.i (jbL (l.map RX.x) fd b).1.2],h') /\
   RW h' rw q l' tl/\l'.map RX.x=(jbL (l.map RX.x) fd b).2/\Ch (RC rw q) h h':=by
 suffices s:∃v' h',cl d (.fn 38) [.p rw 0,.i fd,vb] h=some (v',h')/\∃l',v' = .tup [.i (jbL (l.map RX.x) fd b).1.1,.i (jbL (l.map RX.x) fd b).1.2] /\
   RW h' rw q l' tl/\l'.map RX.x=(jbL (l.map RX.x) fd b).2/\Ch (RC rw q) h h' by
  obtain⟨_,h',e,l',rfl,p⟩:=s;exact⟨l',h',e,p⟩
 refine aT Z ?_;rcases jdQ Z (d:=d-1) (fd:=fd) om w o with⟨j5,ea⟩|⟨n,k,r,d7,hr,hk,ea⟩
 .have hS:jbL (l.map RX.x) fd b=((0,110),l.map RX.x):=jaD j5;rw[hS];refine Ga ?_;exact⟨l,rfl,w,rfl,Zr _ _⟩
 obtain⟨hw,hq,d5⟩:=w.rat hr;have hn:=r_lt hr;have q1:=jjQ hr hk;have q2:=jib hr;have q3:=jkR hr hk;have ek:(1:Int)-(k:Int)=((1-k:Nat):Int):=by omega
 have w6:1-k=0\/1-k=1:=by omega
 have q4:=jji hr w6;rw[<- ek]at q4;have hS:jbL (l.map RX.x) fd b=_:=jaA o.uniq d7 (jaN hr);cases fB:(r.x.e k).writes
 .rw[fB,zD rfl]at hS;rw[hS];rw[fB]at q1;refine Ga ?_;exact⟨l,rfl,w,rfl,Zr _ _⟩
 rw[fB,zC Zd]at hS;rw[fB]at q1;cases hrs:r.x.reset
 case true=>
  rw[hrs,zD rfl]at hS;rw[hS];rw[hrs]at q2;refine Ga ?_;exact⟨l,rfl,w,rfl,Zr _ _⟩
 rw[hrs,zC Zd]at hS;rw[hrs]at q2;cases bC:(r.x.e k).shut
 case true=>
  rw[zD (.inl bC)]at hS;rw[hS];rw[bC]at q3;refine Ga ?_;exact⟨l,rfl,w,rfl,Zr _ _⟩
 rw[bC]at q3;by_cases h3:(r.x.e (1-k)).what=3
 .rw[zD (.inr h3)]at hS;rw[hS];refine Ga ?_;exact⟨l,rfl,w,rfl,Zr _ _⟩
 rw[zC (by rintro (e|e);(rw[bC]at e;cases e);exact h3 e)]at hS;obtain⟨a,c,rfl,_⟩:=id hb;by_cases xC:b=[]
 .rw[zD xC]at hS;rw[hS];subst xC;refine Ga ?_;exact⟨l,rfl,w,rfl,Zr _ _⟩
 rw[zC xC]at hS;have pB:¬(b.length:Int)=0:=by have:=List.length_pos_iff.2 xC;omega
 have gY:=(o.wi hr).pair k hk;cases w7:(r.x.e (1-k)).ring with
 |none=>exact zJ w7 (gY.1 fB)
 |some b'=>
  simp only[w7]at hS;obtain⟨v',h',e2,p2,p3⟩:=jlP Z (d:=d-1) (k:=k) om w hr hk w7 ((o.wi hr).len _ w6 _ w7) (o.wi hr).cap1 hb iE nJ;generalize hm:min b.length (r.x.cap-b'.length)=m at hS e2 p2;by_cases gC:m=0
  .subst gC;rw[zD rfl]at hS;rw[hS];have e2:cl (d-1) (.fn 83) _ h=some (.i 0,h'):=e2;refine Ga ?_;exact⟨_,rfl,p2,by rw[map_set,jmY hk],p3⟩
  .rw[zC gC]at hS;rw[hS];have mC:¬(m:Int)=0:=by omega
   refine Ga ?_;exact⟨_,rfl,p2,by rw[map_set,jmY hk],p3⟩
theorem rq_Shut{d rw q:Nat}{h:H}{l:List RX}{tl:List V}{fd:Int}(hd:3<=d)(w:RW h rw q l tl)(o:WsOk (l.map RX.x)) :
  ∃l' h',cl d (.fn 40) [.p rw 0,.i fd] h=some (.i (jeb (l.map RX.x) fd).1,h')/\RW h' rw q l' tl/\l'.map RX.x=(jeb (l.map RX.x) fd).2/\Ch (RC rw q) h h':=by
 suffices s:∃v' h',cl d (.fn 40) [.p rw 0,.i fd] h=some (v',h')/\∃l',v' = .i (jeb (l.map RX.x) fd).1/\RW h' rw q l' tl/\l'.map RX.x=(jeb (l.map RX.x) fd).2/\Ch (RC rw q) h h' by
  obtain⟨_,h',e,l',rfl,p⟩:=s;exact⟨l',h',e,p⟩
 refine aT Z ?_;rcases jdQ Z (d:=d-1) (fd:=fd) om w o with⟨j5,ea⟩|⟨n,k,r,d7,hr,hk,ea⟩
 .have hS:jeb (l.map RX.x) fd=(110,l.map RX.x):=jaD j5;rw[hS];refine Ga ?_;exact⟨l,rfl,w,rfl,Zr _ _⟩
 obtain⟨hw,hq,d5⟩:=w.rat hr;have hn:=r_lt hr;have q1:=jjQ hr hk;have q2:=jic hr hk;have hS:jeb (l.map RX.x) fd=_:=jaA o.uniq d7 (jaN hr);cases w7:(r.x.e k).ring with
 |none=>
  rw[zD (.inl w7)]at hS;rw[hS];rw[w7]at q2;refine Ga ?_;exact⟨l,rfl,w,rfl,Zr _ _⟩
 |some b=>
  rw[w7]at q2;cases fB:(r.x.e k).writes
  .rw[zD (.inr fB)]at hS;rw[hS];rw[fB]at q1;refine Ga ?_;exact⟨l,rfl,w,rfl,Zr _ _⟩
  .rw[zC (by rintro (e|e);(rw[w7]at e;cases e);rw[fB]at e;cases e)]at hS;rw[hS];rw[fB]at q1;obtain⟨h',e2,p2,p3⟩:=jo9 Z (d:=d-1) om w hr hk;refine Ga ?_;exact⟨_,rfl,p2,by rw[map_set];rfl,p3⟩
theorem rq_Wire{d rw q:Nat}{h:H}{l:List RX}{tl:List V}{fd:Int}(hd:2<=d)(w:RW h rw q l tl)(o:WsOk (l.map RX.x)) :
  cl d (.fn 109) [.p rw 0,.i fd] h=some (.tup [.i (jfO (l.map RX.x) fd).1,.i (jfO (l.map RX.x) fd).2],h):=by
 refine jaj (aT Z ?_);rcases jdQ Z (d:=d-1) (fd:=fd) om w o with⟨j5,ea⟩|⟨n,k,r,d7,hr,hk,ea⟩
 .have hS:jfO (l.map RX.x) fd=(0,110):=jaD j5;rw[hS];refine Ga ?_;exact⟨rfl,rfl⟩
 .have hS:jfO (l.map RX.x) fd=((n:Int),0):=jaA o.uniq d7 (jaN hr);rw[hS];refine Ga ?_;exact⟨rfl,rfl⟩
theorem jhW{d rw q:Nat}{h:H}{l:List RX}{tl:List V}{n:Int}(hd:3<=d)(w:RW h rw q l tl) :
  ∃l' h',cl d (.fn 93) [.p rw 0,.i n] h=some (.i (jaB (l.map RX.x) n).1,h')/\RW h' rw q l' tl/\l'.map RX.x=(jaB (l.map RX.x) n).2/\Ch (RC rw q) h h':=by
 suffices s:∃v' h',cl d (.fn 93) [.p rw 0,.i n] h=some (v',h')/\∃l',v' = .i (jaB (l.map RX.x) n).1/\RW h' rw q l' tl/\l'.map RX.x=(jaB (l.map RX.x) n).2/\Ch (RC rw q) h h' by
  obtain⟨_,h',e,l',rfl,p⟩:=s;exact⟨l',h',e,p⟩
 refine aT Z ?_;rcases jhZ Z (d:=d-1) (n:=n) om w with⟨j5,ea⟩|⟨m,r,rfl,hr,h2,ea⟩
 .have hS:jaB (l.map RX.x) n=(116,l.map RX.x):=jbI j5;rw[hS];refine Ga ?_;exact⟨l,rfl,w,rfl,Zr _ _⟩
 .have hS:jaB (l.map RX.x) m=_:=jbJ (jaN hr) h2;rw[hS];obtain⟨h',e2,p2,p3⟩:=jo9 Z (d:=d-1) (k:=1) om w hr (.inr rfl);refine Ga ?_;exact⟨_,rfl,p2,by rw[map_set];rfl,p3⟩
theorem jhi{d rw q:Nat}{h:H}{l:List RX}{tl:List V}{n:Int}(hd:3<=d)(w:RW h rw q l tl) :
  ∃l' h',cl d (.fn 95) [.p rw 0,.i n] h=some (.i (ja2 (l.map RX.x) n).1,h')/\RW h' rw q l' tl/\l'.map RX.x=(ja2 (l.map RX.x) n).2/\Ch (RC rw q) h h':=by
 suffices s:∃v' h',cl d (.fn 95) [.p rw 0,.i n] h=some (v',h')/\∃l',v' = .i (ja2 (l.map RX.x) n).1/\RW h' rw q l' tl/\l'.map RX.x=(ja2 (l.map RX.x) n).2/\Ch (RC rw q) h h' by
  obtain⟨_,h',e,l',rfl,p⟩:=s;exact⟨l',h',e,p⟩
 refine aT Z ?_;rcases jhZ Z (d:=d-1) (n:=n) om w with⟨j5,ea⟩|⟨m,r,rfl,hr,h2,ea⟩
 .have hS:ja2 (l.map RX.x) n=(116,l.map RX.x):=jbI j5;rw[hS];refine Ga ?_;exact⟨l,rfl,w,rfl,Zr _ _⟩
 .have hS:ja2 (l.map RX.x) m=_:=jbJ (jaN hr) h2;rw[hS];obtain⟨h',e2,p2,p3⟩:=jjK Z (d:=d-1) (k:=1) om w hr (.inr rfl);refine Ga ?_;exact⟨_,rfl,p2,by rw[map_set];rfl,p3⟩
theorem jp9{d rw q:Nat}{h:H}{l:List RX}{tl:List V}{n:Int}{b:List UInt8}{vb:V}(hd:3<=d)(w:RW h rw q l tl)(o:WsOk (l.map RX.x))(hb:VB h vb b)(iE:b.length<=1000)(nJ:b≠[] -> ∀z,vb.at?=some z->z≠q/\z≠rw/\z<h.nx) :
  ∃l' h',cl d (.fn 89) [.p rw 0,.i n,vb] h=some (.tup [.i (putS (l.map RX.x) n b).1.1,.i (putS (l.map RX.x) n b).1.2],h')/\RW h' rw q l' tl/\l'.map RX.x=(putS (l.map RX.x) n b).2/\Ch (RC rw q) h h':=by
 suffices s:∃v' h',cl d (.fn 89) [.p rw 0,.i n,vb] h=some (v',h')/\∃l',v' = .tup [.i (putS (l.map RX.x) n b).1.1,.i (putS (l.map RX.x) n b).1.2]/\RW h' rw q l' tl/\l'.map RX.x=(putS (l.map RX.x) n b).2/\Ch (RC rw q) h h' by
  obtain⟨_,h',e,l',rfl,p⟩:=s;exact⟨l',h',e,p⟩
 refine aT Z ?_;rcases jhZ Z (d:=d-1) (n:=n) om w with⟨j5,ea⟩|⟨m,r,rfl,hr,h2,ea⟩
 .have hS:putS (l.map RX.x) n b=((0,116),l.map RX.x):=jbI j5;rw[hS];refine Ga ?_;exact⟨l,rfl,w,rfl,Zr _ _⟩
 obtain⟨hw,hq,d5⟩:=w.rat hr;have hn:=r_lt hr;have q2:=jib hr;have q3:=jkR (k:=1) hr (.inr rfl);have q4:=jji (k:=0) hr (.inl rfl);have hS:putS (l.map RX.x) m b=_:=jbJ (jaN hr) h2;cases hrs:r.x.reset
 case true=>
  rw[hrs,zD rfl]at hS;rw[hS];rw[hrs]at q2;refine Ga ?_;exact⟨l,rfl,w,rfl,Zr _ _⟩
 rw[hrs,zC Zd]at hS;rw[hrs]at q2;cases bC:r.x.e1.shut
 case true=>
  rw[zD (.inl bC)]at hS;rw[hS];rw[show (r.x.e 1).shut=true from bC]at q3;refine Ga ?_;exact⟨l,rfl,w,rfl,Zr _ _⟩
 rw[show (r.x.e 1).shut=false from bC]at q3;have q4:(rows l)[0+(m:Int).toNat*20+0+((0:Nat):Int).toNat*8+0]?=some (.i r.x.e0.what):=q4;by_cases h3:r.x.e0.what=3
 .rw[zD (.inr h3)]at hS;rw[hS];refine Ga ?_;exact⟨l,rfl,w,rfl,Zr _ _⟩
 rw[zC (by rintro (e|e);(rw[bC]at e;cases e);exact h3 e)]at hS;obtain⟨b',w7⟩:=zK.1 ((o.wi hr).out h2).1;simp only[w7]at hS;obtain⟨v',h',e2,p2,p3⟩:=jlP Z (d:=d-1) (k:=1) (b:=b') om w hr (.inr rfl) w7 ((o.wi hr).len 0 (.inl rfl) _ w7) (o.wi hr).cap1 hb iE nJ;rw[hS];refine Ga ?_;exact⟨_,rfl,p2,by rw[map_set,jmY (.inr rfl)],p3⟩
theorem jo6{d rw q:Nat}{h:H}{l:List RX}{tl:List V}{n many:Int}(hd:3<=d)(w:RW h rw q l tl)(o:WsOk (l.map RX.x)) :
  ∃v l' h',cl d (.fn 91) [.p rw 0,.i n,.i many] h=some (.tup [v,.i (jct (l.map RX.x) n many).1.2],h')/\VB h' v (jct (l.map RX.x) n many).1.1/\RW h' rw q l' tl/\l'.map RX.x=(jct (l.map RX.x) n many).2/\Ch (RC rw q) h h':=by
 suffices s:∃v' h',cl d (.fn 91) [.p rw 0,.i n,.i many] h=some (v',h')/\∃v l',v' = .tup [v,.i (jct (l.map RX.x) n many).1.2]/\VB h' v (jct (l.map RX.x) n many).1.1/\RW h' rw q l' tl/\l'.map RX.x=(jct (l.map RX.x) n many).2/\Ch (RC rw q) h h' by
  obtain⟨_,h',e,v,l',rfl,p⟩:=s;exact⟨v,l',h',e,p⟩
 refine aT Z ?_;rcases jhZ Z (d:=d-1) (n:=n) om w with⟨j5,ea⟩|⟨m,r,rfl,hr,h2,ea⟩
 .have hS:jct (l.map RX.x) n many=(([],116),l.map RX.x):=jbI j5;rw[hS];refine Ga ?_;exact⟨_,l,rfl,VB.nil h,w,rfl,Zr _ _⟩
 obtain⟨hw,hq,d5⟩:=w.rat hr;have hn:=r_lt hr;have q2:=jib hr;have hS:jct (l.map RX.x) m many=_:=jbJ (jaN hr) h2;by_cases hm:many<0
 .rw[zD hm]at hS;rw[hS];refine Ga ?_;exact⟨_,l,rfl,VB.nil h,w,rfl,Zr _ _⟩
 rw[zC hm]at hS;cases hrs:r.x.reset
 case true=>
  rw[hrs,zD rfl]at hS;rw[hS];rw[hrs]at q2;refine Ga ?_;exact⟨_,l,rfl,VB.nil h,w,rfl,Zr _ _⟩
 rw[hrs,zC Zd]at hS;rw[hrs]at q2;obtain⟨b',w7⟩:=zK.1 ((o.wi hr).out h2).2;simp only[w7]at hS;obtain⟨v,v',h',e2,p1,p2,p3⟩:=joC Z (d:=d-1) (k:=1) (many:=many) om w hr (.inr rfl) w7 om;rw[hS];refine Ga ?_;exact⟨v,_,rfl,p1,p2,by rw[map_set,jos (.inr rfl)],p3⟩
end
theorem Run.unroll{call:Call}{fuel n:Nat}{live:List Nat}{body:AC}{K:List Fr}{e:Env}{h:H}{Q:Post}(hf:fuel=n+1)(k:Run call fuel body (.loop live body n::K) (e.only live) h Q):Run call fuel (.loop live body) K e h Q:=by
 obtain⟨x,e1,h1,hd,x2,e2,h2,ha,hq⟩:=k;have it:iter (D call fuel body) live fuel e h=match D call fuel body (e.only live) h with
  |some (.normal,e',h')=>iter (D call fuel body) live n e' h'
  |r=>r:=by rw[hf];rfl
 cases x<;>simp only[after]at ha
 .split at ha
  .next x3 e3 h3 hb=>exact⟨x3,e3,h3,by simp only[D,it,hd,hb],x2,e2,h2,ha,hq⟩
  .cases ha
 .exact⟨_,e1,h1,by simp only[D,it,hd],x2,e2,h2,ha,hq⟩
 .exact⟨_,e1,h1,by simp only[D,it,hd],x2,e2,h2,ha,hq⟩
theorem End.unroll{call:Call}{fuel n:Nat}{live:List Nat}{body:AC}{K:List Fr}{e:Env}{h:H}{Q:Post}(k:Run call fuel body (.loop live body n::K) (e.only live) h Q):End call fuel (.loop live body (n+1)::K) .normal e h Q:=by
 obtain⟨x,e1,h1,hd,x2,e2,h2,ha,hq⟩:=k;cases x<;>simp only[after]at ha
 .split at ha
  .next x3 e3 h3 hb=>exact⟨x2,e2,h2,by simp only[after,iter,hd,hb,ha],hq⟩
  .cases ha
 .exact⟨x2,e2,h2,by simp only[after,iter,hd,ha],hq⟩
 .exact⟨x2,e2,h2,by simp only[after,iter,hd,ha],hq⟩
def RX.noWait(r:RX):RX:= {r with x:= {r.x with waiting:=[]},vw:= .nils}
theorem RX.noWait_cells(r:RX):r.noWait.cells=r.cells.set 19 .nils:=by
 obtain⟨⟨e0,e1,cap,rs,bl,wt⟩,v0,v1,vw⟩:=r;simp[RX.noWait,RX.cells,En.rcells]
theorem ROk.noWait{h:H}{rw q:Nat}{r:RX}(a:ROk h rw q r):ROk h rw q r.noWait:=
 ⟨fun k hk=>by have:=a.b k hk;rcases hk with rfl|rfl<;>exact this,VI.nil h,fun z hz=>by cases hz⟩
theorem VI.cell{h:H}{l:List Int}{a:Option (Nat×Nat)}{c:Cap}{i:Nat}{x:Int}(hv:VI h (.slice a l.length c) l)(hi:l[i]?=some x):∃b o cs ro,a=some (b,o)/\h.get b=some (.cells cs ro)/\cs[o+(i:Int).toNat*1]?=some (.i x):=by
 obtain⟨a',c',e,_,_,g⟩:=hv;cases e;obtain⟨b,o,cs,ro,rfl,h1,h2,h3⟩:=g (by rintro rfl;simp at hi);exact⟨b,o,cs,ro,rfl,h2,by rw[show o+(i:Int).toNat*1=o+i by omega];exact h3 _ _ hi⟩
section
variable{cl:Nat->Call}(Z:Sem cl)
include Z
theorem rq_Close{d rw q:Nat}{h:H}{l:List RX}{tl:List V}{fd:Int}(hd:3<=d)(w:RW h rw q l tl)(o:WsOk (l.map RX.x)) :
  ∃l' h',cl d (.fn 42) [.p rw 0,.i fd] h=some (.i (jc4 (l.map RX.x) fd).1,h')/\RW h' rw q l' tl/\l'.map RX.x=(jc4 (l.map RX.x) fd).2/\Ch (RC rw q) h h':=by
 suffices s:∃v' h',cl d (.fn 42) [.p rw 0,.i fd] h=some (v',h')/\∃l',v' = .i (jc4 (l.map RX.x) fd).1/\RW h' rw q l' tl/\l'.map RX.x=(jc4 (l.map RX.x) fd).2/\Ch (RC rw q) h h' by
  obtain⟨_,h',e,l',rfl,p⟩:=s;exact⟨l',h',e,p⟩
 refine aT Z ?_;rcases jdQ Z (d:=d-1) (fd:=fd) om w o with⟨j5,ea⟩|⟨n,k,r,d7,hr,hk,ea⟩
 .have hS:jc4 (l.map RX.x) fd=(110,l.map RX.x):=jaD j5;rw[hS];refine Ga ?_;exact⟨l,rfl,w,rfl,Zr _ _⟩
 have hS:jc4 (l.map RX.x) fd=_:=jaA o.uniq d7 (jaN hr);rw[hS];obtain⟨wl,ww⟩:=o.wait _ (zc (jaN hr));obtain⟨h1,e1,w1,c1⟩:=jjK Z (d:=d-1) om w hr hk;have hn:=r_lt hr;have y8:=get_set (r':=r.close k) hr;have qB:(l.set n (r.close k)).map RX.x=(l.map RX.x).set n (r.x.close k):=map_set;have pF:(r.close k).vw=r.vw:=rfl;have tU:(r.close k).x.waiting=r.x.waiting:=Wi.close_waiting hk;rw[<- qB];have hY:(l.set n (r.close k)).length=l.length:=by simp
 generalize hL:r.x.waiting=L at wl ww tU ⊢;have uA:=(w.rok hr).w.1;rw[hL]at uA;obtain⟨a,cp,aA,_⟩:=id uA;have Gd:∀m∈L,∃j:Nat,m=j/\j<l.length:=by
  intro m hm;obtain⟨y,m0,hy,_⟩:=ww m hm;refine⟨m.toNat,by omega,?_⟩;rcases zx m.toNat l.length with h|h
  .exact h
  .rw[zd (by simpa using h)]at hy;cases hy
 clear hS d7 ww o w;generalize l.set n (r.close k)=l1 at w1 y8 qB hY ⊢;generalize r.close k=r1 at y8 pF tU;refine Ga ?_;refine Zq (fun m e g=>∃(i:Nat) (l2:List RX) (r2:RX),m=L.length-i/\i<=L.length/\e=[(0,.p rw 0),(5,.i n),(7,.i i)]/\RW g rw q l2 tl/\l2.length=l.length/\l2[n]?=some r2/\r2.vw=r.vw/\r2.x.waiting=L /\
   jaG (l2.map RX.x) (L.drop i)=jaG (l1.map RX.x) L/\Ch (RC rw q) h g)
  (k:=L.length) Ze ⟨0,l1,r1,rfl,by omega,rfl,w1,hY,y8,pF,tU,rfl,c1⟩ ?_
 rintro _ _ g ⟨i,l2,r2,rfl,hi,rfl,w2,iY,y9,wA,uU,uL,c2⟩ f ih;obtain⟨hw,hq,d5⟩:=w2.rat y9;have cI:=r_lt y9;have q1:=jmL y9;rw[wA,aA]at q1;have wL:=(w2.rok y9).w.1;rw[wA,aA,uU]at wL;by_cases d4:i<L.length
 .have jP:=za d4;have iJ:L.drop i=L[i]::L.drop (i+1):=List.drop_eq_getElem_cons d4;obtain⟨j,hj,nC⟩:=Gd L[i] (List.getElem_mem d4);rw[hj]at jP iJ;obtain⟨b,of,cs,ro,rfl,lA,Jd⟩:=wL.cell jP;obtain⟨r3,dI⟩:∃r3,l2[j]?=some r3:=⟨_,za om⟩
  obtain⟨g3,e3,w3,c3⟩:=jjK Z (d:=d-1) (k:=0) om w2 dI (.inl rfl);have a8:((i+1:Nat):Int)=(i:Int)+1:=by omega
  have e3:cl (d-1) (.fn 87) [.p rw 0,.i (j:Int),.i 0] g=some (.tup [],g3):=e3;have vU:∃r4,(l2.set j (r3.close 0))[n]?=some r4/\r4.vw=r.vw/\r4.x.waiting=L:=by
   by_cases hjn:j=n
   .subst hjn;rw[y9]at dI;cases dI;exact⟨_,get_set y9,wA,uU⟩
   .exact⟨r2,by rw[zi,zC hjn,y9],wA,uU⟩
  obtain⟨r4,Kd,Ld,pK⟩:=vU;have wU:jaG ((l2.set j (r3.close 0)).map RX.x) (L.drop (i+1))=jaG (l1.map RX.x) L:=by
   rw[<- uL,iJ];show _=jaG (jdL (l2.map RX.x) (j:Int)) _;unfold jdL;rw[zw,jaN dI,map_set];rfl
  clear uL iJ y8 uA wL qB;refine Ga ?_;exact ih (L.length-(i+1)) om _ _ ⟨i+1,_,r4,rfl,by omega,by rw[a8],w3,by rw[List.length_set,iY],Kd,Ld,pK,wU,c2.trans c3⟩
 .obtain rfl:i=L.length:=by omega
  rw[List.drop_length]at uL;have uL:l2.map RX.x=jaG (l1.map RX.x) L:=uL;have j4:0+(n:Int).toNat*20+19<(rows l2).length:=by rw[ja1];omega
  have u:Upd q (.cells (rows (l2.set n r2.noWait)) false) g (g.set q (.cells (rows (l2.set n r2.noWait)) false)):=Zt;have w4:=w2.set y9 u (w2.rok y9).noWait;clear ih;refine Ga ?_;refine zcs rfl rfl rfl hq j4 ?_;rw[jeW y9 om (RX.noWait_cells r2) om];refine Ga ?_;refine⟨_,rfl,w4,?_,c2.trans (u.ch (.inl rfl))⟩;show _=noWait _ n;unfold noWait;rw[<- uL,jaN y9,map_set];rfl
end
abbrev Zw:=@Run.unroll
abbrev Zx:=@End.unroll
def RX.reset(r:RX):RX:= {r with x:= {r.x with reset:=true}}
theorem RX.reset_cells(r:RX):r.reset.cells=r.cells.set 17 (.bool true):=by
 obtain⟨⟨e0,e1,cap,rs,bl,wt⟩,v0,v1,vw⟩:=r;simp[RX.reset,RX.cells,En.rcells]
def RX.doReset(r:RX):RX:=(((r.reset.putv 0 .nils []).came 0 true true).putv 1 .nils []).came 1 true true
theorem RX.doReset_x{r:RX}(h:r.x.reset=false):r.doReset.x=r.x.doReset:=by
 unfold Wi.doReset;rw[zC (by simp[h])];rfl
section
variable{cl:Nat->Call}(Z:Sem cl)
include Z
theorem jmD{d rw q:Nat}{h:H}{l:List RX}{tl:List V}{n:Int}(hd:3<=d)(w:RW h rw q l tl)(o:WsOk (l.map RX.x)) :
  ∃l' h',cl d (.fn 97) [.p rw 0,.i n] h=some (.i (jch (l.map RX.x) n).1,h')/\RW h' rw q l' tl/\l'.map RX.x=(jch (l.map RX.x) n).2/\Ch (RC rw q) h h':=by
 suffices s:∃v' h',cl d (.fn 97) [.p rw 0,.i n] h=some (v',h')/\∃l',v' = .i (jch (l.map RX.x) n).1/\RW h' rw q l' tl/\l'.map RX.x=(jch (l.map RX.x) n).2/\Ch (RC rw q) h h' by
  obtain⟨_,h',e,l',rfl,p⟩:=s;exact⟨l',h',e,p⟩
 refine aT Z ?_;rcases jhZ Z (d:=d-1) (n:=n) om w with⟨j5,ea⟩|⟨m,r,rfl,hr,h2,ea⟩
 .have hS:jch (l.map RX.x) n=(116,l.map RX.x):=jbI j5;rw[hS];refine Ga ?_;exact⟨l,rfl,w,rfl,Zr _ _⟩
 have hS:jch (l.map RX.x) m=_:=jbJ (jaN hr) h2;obtain⟨hw,hq,d5⟩:=w.rat hr;have hn:=r_lt hr;have q2:=jib hr;cases hrs:r.x.reset
 case true=>
  rw[show r.x.doReset=r.x by unfold Wi.doReset;rw[zD hrs]]at hS;rw[hS];rw[hrs]at q2;refine Ga ?_;refine⟨l,rfl,w,?_,Zr _ _⟩;rw[<- map_set,jeU hr]
 rw[hrs]at q2;rw[hS,<- RX.doReset_x hrs];obtain⟨b0,uC⟩:=zK.1 ((o.wi hr).out h2).1;obtain⟨b1,vF⟩:=zK.1 ((o.wi hr).out h2).2;have u1:Upd q (.cells (rows (l.set m r.reset)) false) h (h.set q (.cells (rows (l.set m r.reset)) false)):=Zt;have jY:ROk h rw q r.reset:=(w.rok hr).same rfl rfl rfl rfl rfl rfl;have w1:=w.set hr u1 jY;have c1:Ch (RC rw q) h (h.set q (.cells (rows (l.set m r.reset)) false)):=u1.ch (.inl rfl);have j4:0+(m:Int).toNat*20+17<(rows l).length:=by rw[ja1];omega
 have y8:=get_set (r':=r.reset) hr;have aB:∀s,l.set m s=(l.set m r.reset).set m s:=fun s=>set_set.symm;rw[map_set.symm,aB];unfold RX.doReset;have tO:(r.reset.x.e 0).ring=some b0:=uC;have kY:(r.reset.x.e 1).ring=some b1:=vF;refine Ga ?_;refine zcs rfl rfl rfl hq j4 ?_;rw[jeW hr om (RX.reset_cells r) om];clear q2 aB hS ea u1 jY j4 hrs uC vF h2 o hw hq;generalize h.set q (.cells (rows (l.set m r.reset)) false)=g at w1 c1 ⊢;generalize l.set m r.reset=l1 at w1 y8 ⊢;generalize r.reset=r1 at y8 tO kY ⊢;clear hn;have round:∀(k:Nat) (b:List UInt8) (g:H) (l1:List RX) (r1:RX),k=0\/k=1->RW g rw q l1 tl->l1[m]?=some r1->(r1.x.e k).ring=some b ->
   ∃g',cl (d-1) (.fn 149) [.p rw 0,.i (m:Int),.i (k:Int),.bool true,.bool true] (g.set q (.cells ((rows l1).set (0+(m:Int).toNat*20+0+(k:Int).toNat*8+4) .nils) false))=some (.tup [],g') /\
    RW g' rw q (l1.set m ((r1.putv k .nils []).came k true true)) tl/\Ch (RC rw q) g g':=by
  intro k b g l1 r1 hk w hr hb;rw[jiM hr hk om (RX.putv_cells (r:=r1) (v:= .nils) (b:=[]) hk hb) om];have u:Upd q (.cells (rows (l1.set m (r1.putv k .nils []))) false) g (g.set q (.cells (rows (l1.set m (r1.putv k .nils []))) false)):=Zt;have w2:=w.set hr u ((w.rok hr).putv hk (VB.nil g) fun z hz=>by cases hz);obtain⟨g',e,w3,c⟩:=jhX Z (d:=d-1) (k:=k) om w2 (get_set hr) hk true true;rw[set_set]at w3;exact⟨g',e,w3,(u.ch (.inl rfl)).trans c⟩
 obtain⟨g2,e2,w2,c2⟩:=round 0 b0 g l1 r1 (.inl rfl) w1 y8 tO;have y9:=get_set (r':=(r1.putv 0 .nils []).came 0 true true) y8;obtain⟨g3,e3,w3,c3⟩:=round 1 b1 g2 _ _ (.inr rfl) w2 y9 kY;rw[set_set]at w3;obtain⟨l9,pD,_⟩:=w1.rat y8;obtain⟨qA,iD,_⟩:=w2.rat y9;have jC:=r_lt y8;have cI:=r_lt y9;clear round;refine Ga ?_;refine Zw (n:=99999) rfl ?_;refine Ga ?_;refine zcs rfl rfl rfl pD (by rw[ja1];omega) ?_;refine Ga ?_;refine Zx ?_;refine Ga ?_;refine zcs rfl rfl rfl iD (by rw[ja1];omega) ?_;refine Ga ?_;refine Zx ?_;refine Ga ?_;exact⟨_,rfl,w3,rfl,(c1.trans c2).trans c3⟩
end
structure WAt(h:H)(w:Nat)(wl:List V)(s wsb wn:Nat)(wcap:Cap)(wsl:List V):Prop where
 hw:h.get w=some (.cells wl false)
 hs:wl[0+289]?=some (.p s 0)
 hws:wl[0+288]?=some (.slice (some (wsb,0)) wn wcap)
 hb:h.get wsb=some (.cells wsl false)
theorem WAt.keep{h h':H}{w:Nat}{wl:List V}{s wsb wn:Nat}{wcap:Cap}{wsl:List V}(a:WAt h w wl s wsb wn wcap wsl)(h1:h'.get w=h.get w)(h2:h'.get wsb=h.get wsb):WAt h' w wl s wsb wn wcap wsl:=
 ⟨by rw[h1,a.hw],a.hs,a.hws,by rw[h2,a.hb]⟩
structure FdAt(wl wsl:List V)(wn fd n k wb:Nat):Prop where
 small:fd<=95
 op:wl[fd*3]?=some (.bool true)
 wi:wl[fd*3+1]?=some (.i (n:Int))
 en:wl[fd*3+2]?=some (.i (k:Int))
 lt:n<wn
 at_:wsl[n]?=some (.p wb 0)
 k01:k=0\/k=1
theorem jqo{l:List V}{o:Nat}{a b c:V}(h0:l[o]?=some a)(h1:l[o+1]?=some b)(h2:l[o+2]?=some c):(l.drop o).take 3=[a,b,c]:=by
 apply zT;intro i;rw[zN,zm]
 match i with
 |0=>simpa using h0
 |1=>simpa using h1
 |2=>simpa using h2
 |n+3=>
  have:¬n+3<3:=by omega
  rw[zC this];rfl
theorem len_of{l:List V}{o:Nat}{a:V}(h:l[o]?=some a):o<l.length:=by
 rcases zx o l.length with h1|h1
 .exact h1
 .rw[zd h1]at h;cases h
theorem resN{e:Env}{h:H}{s n b o:Nat}{l:List V}{ro:Bool}{rs:List RV}{r:List V}(hs:e.get s=some (.ptr (some (b,o))))(hl:h.get b=some (.cells l ro))(hn:o+n<=l.length)(hr:jdG e h rs=some r) :
  jdG e h (.cellN s n::rs)=some (.agg ((l.drop o).take n)::r):=by simp only[jdG,hs,jcz hl hn,hr]
section
variable{cl:Nat->Call}(Z:Sem cl)
include Z
theorem jlA{d b s:Nat}{h:H}{l:List V}{ro:Bool}(hd:1<=d)(hb:h.get b=some (.cells l ro))(hs:l[0+289]?=some (.p s 0)):cl d (.fn 74) [.p b 0] h=some (.bool false,h):=by
 refine jaj (aT Z ?_);refine Ga ?_;exact⟨rfl,rfl⟩
theorem jlB{d w s wsb wn fd n k wb:Nat}{h:H}{wl wsl:List V}{wcap:Cap}(hd:2<=d)(A:WAt h w wl s wsb wn wcap wsl)(B:FdAt wl wsl wn fd n k wb)(l1:w<h.nx)(l2:wsb<h.nx) :
  ∃h',cl d (.fn 76) [.p w 0,.i (fd:Int)] h=some (.tup [.agg [.bool true,.i (n:Int),.i (k:Int)],.p wb 0,.i 0],h')/\Ch (fun _=>False) h h'/\h'.nx=h.nx+1:=by
 obtain⟨hw,hs,hws,hb⟩:=A;obtain⟨f1,f2,f3,f4,f5,f6,f7⟩:=B;refine jae (aT Z ?_);refine qo ?_;refine zcu rfl rfl ?_;have l9:=(jad (h:=h) (o:= .cells [.bool false,.i 0,.i 0] false) l1).trans hw;have vF:=(jad (h:=h) (o:= .cells [.bool false,.i 0,.i 0] false) l2).trans hb;have hn:=jlA Z (d:=d-1) om l9 hs;have Gj:wl[0+0+(fd:Int).toNat*3+0]?=some (.bool true):=by rw[show 0+0+(fd:Int).toNat*3+0=fd*3 by omega];exact f2
 have Md:wl[0+0+(fd:Int).toNat*3+1]?=some (.i (n:Int)):=by rw[show 0+0+(fd:Int).toNat*3+1=fd*3+1 by omega];exact f3
 have Nd:wsl[0+(n:Int).toNat*1]?=some (.p wb 0):=by rw[show 0+(n:Int).toNat*1=n by omega];exact f6
 have h3:=jqo f2 f3 f4;have j4:=len_of f4;refine Ga ?_;refine zcw rfl l9 om ?_;rw[show 0+0+(fd:Int).toNat*3=fd*3 by omega,h3];have f3'':wl[fd*3+1]?=some (.i (n:Int)):=f3;refine Ga ?_;have qA:((h.new (.cells [.bool false,.i 0,.i 0] false)).set h.nx (.cells (jao [.bool false,.i 0,.i 0] 0 [.bool true,.i (n:Int),.i (k:Int)]) false)).get w=some (.cells wl false):=by rw[jaa om,l9]
 have dB:((h.new (.cells [.bool false,.i 0,.i 0] false)).set h.nx (.cells (jao [.bool false,.i 0,.i 0] 0 [.bool true,.i (n:Int),.i (k:Int)]) false)).get wsb=some (.cells wsl false):=by rw[jaa om,vF]
 refine Ops.storeN_chk rfl rfl rfl rfl (jac _) (zu rfl) (jau rfl qA hws rfl (jau rfl qA Md rfl (jau rfl dB Nd rfl ja9))) ?_;refine Ga ?_;refine zcf (resN rfl (jab _) (zu rfl) rfl) ?_;exact⟨rfl,⟨by simp,fun j hj _=>by rw[jaa om,jad hj]⟩,rfl⟩
end
def Wi.rIn(x:Wi)(k:Nat):Bool:=match (x.e k).ring with
 |none=>false
 |some q=>!q.isEmpty||(x.e (1-k)).what == 3||(x.e (1-k)).shut||x.reset
def Wi.rOut(x:Wi)(k:Nat):Bool:=(x.e k).writes && !(x.e k).shut&&(decide ((((x.e (1-k)).ring.getD []).length:Int)<x.cap)||(x.e (1-k)).what == 3||x.reset)
def Wi.ready(x:Wi)(k:Nat):List V:=
 if 0<x.backlog then [.bool true,.bool (!x.waiting.isEmpty),.bool false,.bool false,.bool false,.int .u64 (x.e k).inn,.int .u64 (x.e k).out]
 else [.bool true,.bool (x.rIn k),.bool (x.rOut k),.bool ((x.e (1-k)).what == 3),.bool x.reset,.int .u64 (x.e k).inn,.int .u64 (x.e k).out]
def jlZ:List V:=[.bool false,.bool false,.bool false,.bool false,.bool false,.int .u64 0,.int .u64 0]
noncomputable def jfr(ws:Ws)(fd:Int):List V:=jcd ws fd jlZ fun _ k x=>x.ready k
theorem jia:∀{l:List RX} {n o:Nat} {r:RX},l[n]?=some r->o=n*20->((rows l).drop o).take 20=r.cells
 |[],_,_,_,h,_=>by simp at h
 |a::l,0,o,r,h,ho=>by
  simp at h;subst h;subst ho;rw[jdR,Nat.zero_mul,zk,List.take_append_of_le_length (by rw[RX.len];omega),zh (by rw[RX.len];omega)]
 |a::l,n+1,o,r,h,ho=>by
  subst ho;rw[jdR,show (n+1)*20=a.cells.length+n*20 by rw[RX.len];omega,<- List.drop_drop,List.drop_left];exact jia (by simpa using h) rfl
theorem jbj{call:Call}{fuel s n b:Nat}{e:Env}{h:H}{R:V->H->Prop}{l:List V}(hs:e.get s=some (.ptr (some (b,0))))(hl:h.get b=some (.cells l false))(hn:l.length=n)(k:R (.agg l) h) :
  End call fuel [] .ret e h (Fin [.cellN s n] R):=by
 refine End.fin1 (resN hs hl om rfl) ?_;rw[zk,zh om];exact k
section
variable{cl:Nat->Call}(Z:Sem cl)
include Z
abbrev jew:Obj:= .cells [.bool false,.bool false,.bool false,.bool false,.bool false,.int .u64 0,.int .u64 0] false
theorem rd_out{d b4 b7 b8 k n0 n1:Nat}{g:H}{x:Wi}{a0 a1:Option (Nat×Nat)}{c0 c1:Cap}{vw:V}{i:Bool}(hk:k=0\/k=1)(g7:g.get b7=some (.cells (RX.cells ⟨x,.slice a0 n0 c0,.slice a1 n1 c1,vw⟩) false))
  (g8:g.get b8=some (.cells [.bool true,.bool i,.bool false,.bool ((x.e (1-k)).what == 3),.bool x.reset,.int .u64 (x.e k).inn,.int .u64 (x.e k).out] false)) (g4:g.get b4=some jew) (xU:b4≠b8) (lY:b4≠b7) (yU:b7≠b8)
  (fK:n0=(x.e0.ring.getD []).length) (jC:n1=(x.e1.ring.getD []).length) :
  Run (cl (d-1)) fuel c51_0 [] [(4,.p b4 0),(6,.i (k:Int)),(7,.p b7 0),(8,.p b8 0),(9,.bool ((x.e (1-k)).what == 3))] g
   (Fin c51.res fun v' h'=>v' = .agg [.bool true,.bool i,.bool (x.rOut k),.bool ((x.e (1-k)).what == 3),.bool x.reset,.int .u64 (x.e k).inn,.int .u64 (x.e k).out]/\Ch (fun j=>j=b4\/j=b8) g h'):=by
 obtain⟨⟨w0,f0,q0,uI,s0,i0,o0⟩,⟨w1,f1,q1,mJ,s1,i1,o1⟩,cap,rs,bl,wt⟩:=x;simp only[RX.cells,En.rcells,List.cons_append,List.nil_append]at g7;simp only at fK jC;subst fK jC;rcases hk with rfl|rfl
 .simp only[Wi.e,Nat.sub_zero]at g8 ⊢;simp only[Wi.rOut,Wi.e,Nat.sub_zero];generalize (w1 == 3)=gone at g8 ⊢;cases uI
  case false=>
   refine qm ?_;exact jbj rfl (jab _) rfl ⟨rfl,(Zs (.inr rfl)).trans (Zs (.inl rfl))⟩
  cases s0
  case true=>
   refine qm ?_;exact jbj rfl (jab _) rfl ⟨rfl,(Zs (.inr rfl)).trans (Zs (.inl rfl))⟩
  by_cases d4:(((q1.getD []).length:Int)<cap)
  .refine qm ?_;exact jbj rfl (jab _) rfl ⟨by simp[jao,d4],(Zs (.inr rfl)).trans (Zs (.inl rfl))⟩
  cases gone
  case true=>
   refine qm ?_;exact jbj rfl (jab _) rfl ⟨by simp[jao],(Zs (.inr rfl)).trans (Zs (.inl rfl))⟩
  cases rs
  .refine qm ?_;exact jbj rfl (jab _) rfl ⟨by simp[jao,d4],(Zs (.inr rfl)).trans (Zs (.inl rfl))⟩
  .refine qm ?_;exact jbj rfl (jab _) rfl ⟨by simp[jao],(Zs (.inr rfl)).trans (Zs (.inl rfl))⟩
 .simp only[Wi.e,Nat.sub_self]at g8 ⊢;simp only[Wi.rOut,Wi.e,Nat.sub_self];generalize (w0 == 3)=gone at g8 ⊢;cases mJ
  case false=>
   refine qm ?_;exact jbj rfl (jab _) rfl ⟨rfl,(Zs (.inr rfl)).trans (Zs (.inl rfl))⟩
  cases s1
  case true=>
   refine qm ?_;exact jbj rfl (jab _) rfl ⟨rfl,(Zs (.inr rfl)).trans (Zs (.inl rfl))⟩
  by_cases d4:(((q0.getD []).length:Int)<cap)
  .refine qm ?_;exact jbj rfl (jab _) rfl ⟨by simp[jao,d4],(Zs (.inr rfl)).trans (Zs (.inl rfl))⟩
  cases gone
  case true=>
   refine qm ?_;exact jbj rfl (jab _) rfl ⟨by simp[jao],(Zs (.inr rfl)).trans (Zs (.inl rfl))⟩
  cases rs
  .refine qm ?_;exact jbj rfl (jab _) rfl ⟨by simp[jao,d4],(Zs (.inr rfl)).trans (Zs (.inl rfl))⟩
  .refine qm ?_;exact jbj rfl (jab _) rfl ⟨by simp[jao],(Zs (.inr rfl)).trans (Zs (.inl rfl))⟩
end
section
variable{cl:Nat->Call}(Z:Sem cl)
include Z
theorem rd_in{d b4 b7 b8 k n0 n1:Nat}{g:H}{x:Wi}{a0 a1:Option (Nat×Nat)}{c0 c1:Cap}{vw:V}(hk:k=0\/k=1)(g7:g.get b7=some (.cells (RX.cells ⟨x,.slice a0 n0 c0,.slice a1 n1 c1,vw⟩) false))
  (g8:g.get b8=some (.cells [.bool true,.bool false,.bool false,.bool ((x.e (1-k)).what == 3),.bool x.reset,.int .u64 (x.e k).inn,.int .u64 (x.e k).out] false)) (g4:g.get b4=some jew) (xU:b4≠b8) (lY:b4≠b7) (yU:b7≠b8)
  (fK:n0=(x.e0.ring.getD []).length) (jC:n1=(x.e1.ring.getD []).length) :
  Run (cl (d-1)) fuel c51_1 [] [(4,.p b4 0),(6,.i (k:Int)),(7,.p b7 0),(8,.p b8 0),(9,.bool ((x.e (1-k)).what == 3))] g
   (Fin c51.res fun v' h'=>v' = .agg [.bool true,.bool (x.rIn k),.bool (x.rOut k),.bool ((x.e (1-k)).what == 3),.bool x.reset,.int .u64 (x.e k).inn,.int .u64 (x.e k).out]/\Ch (fun j=>j=b4\/j=b8) g h'):=by
 refine zab (Run.cut (fun y e' g'=>y = .normal/\e'=[(4,.p b4 0),(6,.i (k:Int)),(7,.p b7 0),(8,.p b8 0),(9,.bool ((x.e (1-k)).what == 3))] /\
  Upd b8 (.cells [.bool true,.bool (x.rIn k),.bool false,.bool ((x.e (1-k)).what == 3),.bool x.reset,.int .u64 (x.e k).inn,.int .u64 (x.e k).out] false) g g') ?_ ?_)
 case refine_2=>
  rintro _ _ g' ⟨rfl,rfl,u⟩;refine End.seq ?_;have:=rd_out Z (d:=d) hk (by rw[u.get _ yU,g7]) u.self (by rw[u.get _ xU,g4]) xU lY yU fK jC;obtain⟨x',e',h',oI,x2,e2,h2,ha,⟨⟨p1,l,p2,p3,p4⟩⟩⟩:=this;exact⟨x',e',h',oI,x2,e2,h2,ha,⟨⟨p1,l,p2,p3,(u.ch (.inr rfl)).trans p4⟩⟩⟩
 obtain⟨⟨w0,f0,q0,uI,s0,i0,o0⟩,⟨w1,f1,q1,mJ,s1,i1,o1⟩,cap,rs,bl,wt⟩:=x;simp only[RX.cells,En.rcells,List.cons_append,List.nil_append]at g7;simp only at fK jC;subst fK jC;rcases hk with rfl|rfl
 .simp only[Wi.e,Nat.sub_zero]at g8 ⊢;simp only[Wi.rIn,Wi.e,Nat.sub_zero];generalize (w1 == 3)=gone at g8 ⊢;cases q0 with
  |none=>
   refine qm ?_;exact Zn ⟨rfl,rfl,Zt⟩
  |some b=>
   simp only[Option.getD_some]at g7;cases b with
   |cons y b=>
    have pB:0<(((y::b:List UInt8).length:Nat):Int):=by simp
    refine qm ?_;exact Zn ⟨rfl,rfl,Zt⟩
   |nil=>
    simp only[List.isEmpty_nil,Bool.not_true,Bool.false_or];have hz:¬0<((([]:List UInt8).length:Nat):Int):=by simp
    cases gone
    case true=>
     refine qm ?_;exact Zn ⟨rfl,rfl,Zt⟩
    cases s1
    case true=>
     refine qm ?_;exact Zn ⟨rfl,rfl,Zt⟩
    cases rs
    .refine qm ?_;exact Zn ⟨rfl,rfl,Zt⟩
    .refine qm ?_;exact Zn ⟨rfl,rfl,Zt⟩
 .simp only[Wi.e,Nat.sub_self]at g8 ⊢;simp only[Wi.rIn,Wi.e,Nat.sub_self];generalize (w0 == 3)=gone at g8 ⊢;cases q1 with
  |none=>
   refine qm ?_;exact Zn ⟨rfl,rfl,Zt⟩
  |some b=>
   simp only[Option.getD_some]at g7;cases b with
   |cons y b=>
    have pB:0<(((y::b:List UInt8).length:Nat):Int):=by simp
    refine qm ?_;exact Zn ⟨rfl,rfl,Zt⟩
   |nil=>
    simp only[List.isEmpty_nil,Bool.not_true,Bool.false_or];have hz:¬0<((([]:List UInt8).length:Nat):Int):=by simp
    cases gone
    case true=>
     refine qm ?_;exact Zn ⟨rfl,rfl,Zt⟩
    cases s0
    case true=>
     refine qm ?_;exact Zn ⟨rfl,rfl,Zt⟩
    cases rs
    .refine qm ?_;exact Zn ⟨rfl,rfl,Zt⟩
    .refine qm ?_;exact Zn ⟨rfl,rfl,Zt⟩
end
theorem RX.cells_one{r:RX}(h0:r.v0.one=true)(h1:r.v1.one=true)(hw:r.vw.one=true):r.cells.all V.one=true:=by
 obtain⟨⟨e0,e1,cap,rs,bl,wt⟩,v0,v1,vw⟩:=r;simp only at h0 h1 hw;simp only[RX.cells,En.rcells,List.cons_append,List.nil_append,List.all_cons,List.all_nil,h0,h1,hw];rfl
theorem Run.fin_mono{call:Call}{fuel:Nat}{c:AC}{res:List RV}{e:Env}{h:H}{R R':V->H->Prop}(k:Run call fuel c [] e h (Fin res R))(hR:∀v h',R v h'->R' v h'):Run call fuel c [] e h (Fin res R'):=by
 obtain⟨x',e',h',oI,x2,e2,h2,ha,⟨⟨p1,l,p2,p3⟩⟩⟩:=k;exact⟨x',e',h',oI,x2,e2,h2,ha,⟨⟨p1,l,p2,hR _ _ p3⟩⟩⟩
section
variable{cl:Nat->Call}(Z:Sem cl)
include Z
theorem rd_main{d k:Nat}{g h:H}{x:Wi}{a0 a1 aw:Option (Nat×Nat)}{c0 c1 cw:Cap}(hk:k=0\/k=1)(kF:g.nx=h.nx+2)(g7:g.get (h.nx+1)=some (.cells (RX.cells ⟨x,.slice a0 (x.e0.ring.getD []).length c0,.slice a1 (x.e1.ring.getD []).length c1,.slice aw x.waiting.length cw⟩) false))
  (g4:g.get h.nx=some jew) (uB:∀j,j<h.nx->g.get j=h.get j) :
  Run (cl (d-1)) fuel c51_5 [] [(4,.p h.nx 0),(6,.i (k:Int)),(7,.p (h.nx+1) 0)] g (Fin c51.res fun v' h'=>v' = .agg (x.ready k)/\Ch (fun _=>False) h h'):=by
 simp only[c51_5,c51_4,c51_2,yB,yF];obtain⟨C,hC⟩:∃C,C=c51_1:=⟨_,rfl⟩
 rw[<- hC];have w9:=fun (b8:Nat) (g':H)=>rd_in Z (d:=d) (b4:=h.nx) (b7:=h.nx+1) (b8:=b8) (g:=g') (x:=x) (a0:=a0) (a1:=a1) (c0:=c0) (c1:=c1) (n0:=(x.e0.ring.getD []).length) (n1:=(x.e1.ring.getD []).length) (vw:= .slice aw x.waiting.length cw) hk;have mY:=g7;have ch:∀b (o1 o2 o3:Obj),b=g.nx->Ch (fun _=>False) h ((((g.reserve 1).set b o1).set b o2).set h.nx o3):=by
  rintro b o1 o2 o3 rfl;refine⟨by simp[H.reserve];omega,fun j hj _=>?_⟩;rw[jaa om,jaa om,jaa om];exact uB j hj
 obtain⟨⟨w0,f0,q0,uI,s0,i0,o0⟩,⟨w1,f1,q1,mJ,s1,i1,o1⟩,cap,rs,bl,wt⟩:=x;simp only[RX.cells,En.rcells,List.cons_append,List.nil_append]at g7;have g7:(g.reserve 1).get (h.nx+1)=_:=g7;have g4:(g.reserve 1).get h.nx=_:=g4;have qK:h.nx+1≠g.nx+0:=by omega
 have sK:h.nx≠g.nx+0:=by omega
 rcases hk with rfl|rfl
 .refine zab (Zo ?_);by_cases iE:0<bl
  .refine qm ?_;refine Ops.make_at rfl rfl ?_;refine qm ?_;refine jbj rfl (jab _) rfl ⟨?_,by simp[H.reserve];omega,fun j hj _=>?_⟩
   .have fC:decide (0<(wt.length:Int)) = !wt.isEmpty:=by cases wt<;>simp
    unfold Wi.ready;rw[zD iE,<- fC];rfl
   .rw[jaa om,jaa om,jaa om,jaa om];exact uB j hj
  .refine qm ?_;refine Ops.make_at rfl rfl ?_;refine qm ?_;have eH:decide (w1=3)=(w1 == 3):=by rw[Bool.eq_iff_iff];simp
   rw[eH,hC];refine Run.fin_mono (w9 (g.nx+0) _ ?_ ?_ ?_ om om om rfl rfl) ?_
   .rw[jaa qK,jaa qK,jaa qK,jaa qK];exact mY
   .exact jab _
   .rw[jaa sK,jaa sK,jaa sK,jaa sK];exact g4
   .rintro v h2 ⟨p3,p4⟩;refine⟨?_,by have:=p4.nx;simp[H.reserve]at this;omega,fun j hj _=>?_⟩
    .rw[p3];unfold Wi.ready;rw[zC iE]
    .rw[p4.get j (by simp[H.reserve];omega) om,jaa om,jaa om,jaa om,jaa om];exact uB j hj
 .refine zab (Zo ?_);by_cases iE:0<bl
  .refine qm ?_;refine Ops.make_at rfl rfl ?_;refine qm ?_;refine jbj rfl (jab _) rfl ⟨?_,by simp[H.reserve];omega,fun j hj _=>?_⟩
   .have fC:decide (0<(wt.length:Int)) = !wt.isEmpty:=by cases wt<;>simp
    unfold Wi.ready;rw[zD iE,<- fC];rfl
   .rw[jaa om,jaa om,jaa om,jaa om];exact uB j hj
  .refine qm ?_;refine Ops.make_at rfl rfl ?_;refine qm ?_;have eH:decide (w0=3)=(w0 == 3):=by rw[Bool.eq_iff_iff];simp
   rw[eH,hC];refine Run.fin_mono (w9 (g.nx+0) _ ?_ ?_ ?_ om om om rfl rfl) ?_
   .rw[jaa qK,jaa qK,jaa qK,jaa qK];exact mY
   .exact jab _
   .rw[jaa sK,jaa sK,jaa sK,jaa sK];exact g4
   .rintro v h2 ⟨p3,p4⟩;refine⟨?_,by have:=p4.nx;simp[H.reserve]at this;omega,fun j hj _=>?_⟩
    .rw[p3];unfold Wi.ready;rw[zC iE]
    .rw[p4.get j (by simp[H.reserve];omega) om,jaa om,jaa om,jaa om,jaa om];exact uB j hj
theorem jmE{d rw q:Nat}{h:H}{l:List RX}{tl:List V}{fd:Int}(hd:3<=d)(w:RW h rw q l tl)(o:WsOk (l.map RX.x)) :
  ∃h',cl d (.fn 51) [.p rw 0,.i fd] h=some (.agg (jfr (l.map RX.x) fd),h')/\Ch (fun _=>False) h h':=by
 suffices s:∃v' h',cl d (.fn 51) [.p rw 0,.i fd] h=some (v',h')/\v' = .agg (jfr (l.map RX.x) fd)/\Ch (fun _=>False) h h' by
  obtain⟨_,h',e,rfl,p⟩:=s;exact⟨h',e,p⟩
 refine aT Z ?_;obtain⟨C,hC⟩:∃C,C=c51_5:=⟨_,rfl⟩
 simp only[c51,c51_8,c51_7,c51_6,yB,yF];rw[<- hC];have l1:=w.lw;have l2:=w.lq;have w0:RW (h.new jew) rw q l tl:=by
  have Pd:Ch (RC rw q) h (h.new jew):=Ch.new;exact⟨by simp;omega,by simp;omega,w.ne,fun hl=>⟨by rw[jad l1,(w.at_ hl).hw],by rw[jad l2,(w.at_ hl).hq],w.ne⟩,fun hl=>by rw[jad l1,w.nil hl],fun s hs=>(w.ok s hs).keep Pd⟩
 rcases jdQ Z (d:=d-1) (fd:=fd) om w0 o with⟨j5,ea⟩|⟨n,k,r,d7,hr,hk,ea⟩
 .have hS:jfr (l.map RX.x) fd=jlZ:=jaD j5;rw[hS];refine qm ?_;exact jbj rfl (jab _) rfl ⟨rfl,⟨by simp,fun j hj _=>by rw[jaa om,jad hj]⟩⟩
 have hS:jfr (l.map RX.x) fd=r.x.ready k:=jaA o.uniq d7 (jaN hr);rw[hS];obtain⟨hw,hq,d5⟩:=w0.rat hr;have hn:=r_lt hr;obtain⟨v0ok,_⟩:=(w0.rok hr).b 0 (.inl rfl);obtain⟨v1ok,_⟩:=(w0.rok hr).b 1 (.inr rfl);obtain⟨vwok,_⟩:=(w0.rok hr).w;have m9:=RX.cells_one (r:=r) v0ok.one v1ok.one vwok.one;obtain⟨a0,c0,e0,_⟩:=v0ok;obtain⟨a1,c1,e1,_⟩:=v1ok;obtain⟨aw,cw,ew,_⟩:=vwok;have aV:=jia (o:=0+(n:Int).toNat*20) hr om;refine qm ?_;refine zcw rfl hq (by rw[ja1];omega) ?_;rw[aV];refine qm ?_;refine zct rfl rfl (RX.len r) m9 (jac _) (by decide) ?_;rw[jcn _ _ (by rw[RX.len];rfl)];obtain⟨x,v0,v1,vw⟩:=r;simp only[RX.v]at e0 e1 ew;subst e0 e1 ew;have xL:((h.new jew).new (.cells [.i 0,.i 0,.bool false,.bool false,.nils,.bool false,.int .u64 0,.int .u64 0,.i 0,.i 0,.bool false,.bool false,.nils,.bool false,.int .u64 0,.int .u64 0,.i 0,.bool false,.i 0,.nils] false)).nx=h.nx+2:=by simp
 refine Ops.nil qkp (End.seq ?_);rw[hC];exact rd_main Z hk xL (jab _) (by rw[jaa Zd,jad Zd,jac]) (fun j hj=>by rw[jaa Zc,jad Zc,jad hj])
end
abbrev Zy:=@Run.fin_mono
def sgc(hd:Nat->Bool)(pd:Nat->Int):List V:=tab 32 (fun k=>.bool (hd k))++tab 32 (fun k=>.i (pd k))
theorem jeT(hd:Nat->Bool)(pd:Nat->Int):(sgc hd pd).length=64:=by simp[sgc]
theorem jp6{hd:Nat->Bool}{pd:Nat->Int}{k o:Nat}(hk:k<32)(ho:o=k):(sgc hd pd)[o]?=some (.bool (hd k)):=by
 subst ho;unfold sgc;rw[ze,zD (by simpa using hk),jcD hk]
theorem joz{hd:Nat->Bool}{pd:Nat->Int}{k o:Nat}(hk:k<32)(ho:o=32+k):(sgc hd pd)[o]?=some (.i (pd k)):=by
 subst ho;unfold sgc;rw[ze,zC Zd,tab_length,Zi,jcD hk]
theorem jnw{hd:Nat->Bool}{pd:Nat->Int}{k o:Nat}{t:Bool}(hk:k<32)(ho:o=k):(sgc hd pd).set o (.bool t)=sgc (fun j=>if j=k then t else hd j) pd:=by
 subst ho;unfold sgc;rw[zU,zD (by simpa using hk),je4];congr 1;refine jcL fun j _=>?_;by_cases e:j=o<;>simp[e]
theorem jg9{hd:Nat->Bool}{pd:Nat->Int}{k o:Nat}{n:Int}(ho:o=32+k):(sgc hd pd).set o (.i n)=sgc hd (fun j=>if j=k then n else pd j):=by
 subst ho;unfold sgc;rw[zU,zC Zd,tab_length,Zi,je4];congr 1;refine jcL fun j _=>?_;by_cases e:j=k<;>simp[e]
abbrev sig?(s:Int):Prop:=1<=s/\s<=31
theorem sp_is{cl:Nat->Call}(Z:Sem cl){d:Nat}(hd:1<=d)(s:Int)(h:H):cl d (.fn 185) [.i s] h=some (.bool (decide (sig? s)),h):=by
 refine jaj (at_ Z hd rfl rfl rfl ?_)
 repeat' (first|refine qoy ?_|(refine zsp ?_ ?_<;>intro _)|fail)
 all_goals exact⟨by simp[*],rfl⟩
theorem jm9{cl:Nat->Call}(Z:Sem cl){d:Nat}(hd:2<=d)(b:Nat)(s:Int)(h:H):cl d (.fn 170) [.p b 0,.i s] h=some (.i (if sig? s then 0 else 100),h):=by
 refine jaj (aT Z ?_);refine qo ?_;refine zaw rfl (sp_is Z om s h) ?_
 repeat' (first|refine qoy ?_|(refine zsp ?_ ?_<;>intro _)|fail)
 all_goals exact⟨by simp[*],rfl⟩
structure Tb where
 hd:Nat->Bool
 pd:Nat->Int
def Tb.obj(t:Tb):Obj:= .cells (sgc t.hd t.pd) false
def Tb.zero:Tb:=⟨fun _=>false,fun _=>0⟩
def Tb.handle(t:Tb)(s:Int)(on:Bool):Tb:=
 if sig? s then⟨fun j=>if j=s.toNat then on else t.hd j,if on then t.pd else fun j=>if j=s.toNat then 0 else t.pd j⟩ else t
def Tb.raise(t:Tb)(s:Int):Tb:=
 if sig? s/\t.hd s.toNat=true then⟨t.hd,fun j=>if j=s.toNat then t.pd j+1 else t.pd j⟩ else t
theorem sp_handle{cl:Nat->Call}(Z:Sem cl){d b:Nat}{h:H}{t:Tb}(hd:3<=d)(hb:h.get b=some t.obj)(s:Int)(on:Bool) :
  ∃h',cl d (.fn 155) [.p b 0,.i s,.bool on] h=some (.i (if sig? s then 0 else 100),h')/\Upd b (t.handle s on).obj h h':=by
 refine jae (aT Z ?_);have hm:=jm9 Z (d:=d-1) om b s h;unfold Tb.obj at hb;by_cases hs:sig? s
 .rw[zD hs]at hm ⊢;obtain⟨s1,s2⟩:=hs;refine qo ?_;refine zaw rfl hm ?_;refine qo ?_;refine zcs rfl rfl rfl hb (by rw[jeT];omega) ?_;rw[jnw (k:=s.toNat) om om];cases on
  .refine qo ?_;refine zcs rfl rfl rfl (jab _) (by rw[jeT];omega) ?_;rw[jg9 (k:=s.toNat) om];refine qo ?_;refine⟨rfl,?_⟩;have:(t.handle s false).obj = .cells (sgc (fun j=>if j=s.toNat then false else t.hd j) (fun j=>if j=s.toNat then 0 else t.pd j)) false:=by
    rw[Tb.handle,zD ⟨s1,s2⟩];rfl
   rw[this];exact Upd.set.trans Zt
  .refine qo ?_;refine⟨rfl,?_⟩;have:(t.handle s true).obj = .cells (sgc (fun j=>if j=s.toNat then true else t.hd j) t.pd) false:=by
    rw[Tb.handle,zD ⟨s1,s2⟩];rfl
   rw[this];exact Zt
 .rw[zC hs]at hm ⊢;refine qo ?_;refine zaw rfl hm ?_;refine qo ?_;refine⟨rfl,?_⟩;rw[Tb.handle,zC hs];exact Upd.refl hb
theorem sp_raise{cl:Nat->Call}(Z:Sem cl){d b:Nat}{h:H}{t:Tb}(hd:3<=d)(hb:h.get b=some t.obj)(s:Int)(hp:∀k,0<=t.pd k/\t.pd k<=1000000) :
  ∃h',cl d (.fn 156) [.p b 0,.i s] h=some (.i (if sig? s then 0 else 100),h')/\Upd b (t.raise s).obj h h':=by
 refine jae (aT Z ?_);have hm:=jm9 Z (d:=d-1) om b s h;unfold Tb.obj at hb;by_cases hs:sig? s
 .rw[zD hs]at hm ⊢;obtain⟨s1,s2⟩:=hs;have hp:=hp s.toNat;refine qo ?_;refine zaw rfl hm ?_;refine qo ?_;refine zav rfl hb (jp6 (k:=s.toNat) om om) ?_
  repeat' (first|refine qoy ?_|(refine zsp ?_ ?_<;>intro _)|fail)
  .refine zav rfl hb (joz (k:=s.toNat) om om) ?_;refine qo ?_;refine zav rfl hb (joz (k:=s.toNat) om om) ?_;refine qo ?_;refine zcs rfl rfl rfl hb (by rw[jeT];omega) ?_;rw[jg9 (k:=s.toNat) om];refine qo ?_;refine⟨rfl,?_⟩;rw[Tb.raise,zD ⟨⟨s1,s2⟩,by assumption⟩,show min 1 (2147483647-t.pd s.toNat)=1 by omega];have:(fun j=>if j=s.toNat then t.pd s.toNat+1 else t.pd j)=fun j=>if j=s.toNat then t.pd j+1 else t.pd j:=by
    funext j;by_cases e:j=s.toNat<;>simp[e]
   rw[this];exact Zt
  .refine⟨rfl,?_⟩;rw[Tb.raise,zC (fun x=>by simp_all)];exact Upd.refl hb
 .rw[zC hs]at hm ⊢;refine qo ?_;refine zaw rfl hm ?_;refine qo ?_;refine⟨rfl,?_⟩;rw[Tb.raise,zC (fun x=>hs x.1)];exact Upd.refl hb
def Tb.cnt(t:Tb)(s:Int):Int:=if sig? s then t.pd s.toNat else 0
def Tb.has(t:Tb)(s:Int):Bool:=decide (sig? s)&&t.hd s.toNat
theorem jjB{cl:Nat->Call}(Z:Sem cl){d b:Nat}{h:H}{t:Tb}(hd:3<=d)(hb:h.get b=some t.obj)(s:Int):cl d (.fn 129) [.p b 0,.i s] h=some (.i (t.cnt s),h):=by
 refine jaj (aT Z ?_);have hm:=jm9 Z (d:=d-1) om b s h;unfold Tb.obj at hb;by_cases hs:sig? s
 .rw[zD hs]at hm;obtain⟨s1,s2⟩:=hs;refine qo ?_;refine zaw rfl hm ?_;refine qo ?_;refine zav rfl hb (joz (k:=s.toNat) om om) ?_;refine qo ?_;exact⟨by rw[Tb.cnt,zD ⟨s1,s2⟩],rfl⟩
 .rw[zC hs]at hm;refine qo ?_;refine zaw rfl hm ?_;refine qo ?_;exact⟨by rw[Tb.cnt,zC hs],rfl⟩
theorem jnk:List.replicate 32 (V.bool false)++List.replicate 32 (V.i 0)=sgc (fun _=>false) (fun _=>0):=by
 rw[jfS,jfS];rfl
theorem sp_new{cl:Nat->Call}(Z:Sem cl){d:Nat}(hd:1<=d)(h:H):cl d (.fn 71) [] h=some (.p h.nx 0,h.new Tb.zero.obj):=by
 refine jaj (aT Z ?_);refine qo ?_;refine zcu rfl rfl ?_;refine qo ?_;exact⟨rfl,by rw[Tb.obj,Tb.zero,<- jnk];rfl⟩
def Tb.cnts(t:Tb):Nat->List (Nat×Int)
 |0=>[]
 |k+1=>if k=0\/t.pd k=0 then t.cnts k else t.cnts k++[(k,t.pd k)]
theorem cnt_nat(t:Tb){k:Nat}(hk:k<32):t.cnt (k:Int)=if k=0 then 0 else t.pd k:=by
 unfold Tb.cnt;by_cases h0:k=0
 .subst h0;simp
 .rw[zD ⟨by omega,by omega⟩,zC h0];rfl
theorem jhS{cl:Nat->Call}(Z:Sem cl){d L c b:Nat}{t:Tb}(hd:5<=d)(I:Nat->H->Prop)
  (hc:∀k h,I k h->h.get c=some (.cells [.p b 0] false)/\h.get b=some t.obj)
  (hs:∀k h,k<32->I k h->(k=0\/t.pd k=0)->I (k+1) h)
  (hy:∀k h,k<32->k≠0->t.pd k≠0->I k h -> ∃h',cl (d-1) (.yld L) [.agg [.i k,.i (t.pd k)]] h=some (.bool true,h')/\I (k+1) h')
  {h:H} (h0:I 0 h):∃v h',cl d (.fn 184) [.yld L,.p c 0] h=some (v,h')/\I 32 h':=by
 refine aT Z ?_;refine qo ?_;refine Zq (fun m e h=>∃k:Nat,m=32-k/\k<=32/\e=[(0,.yld L),(1,.p c 0),(5,.i k)]/\I k h) (k:=32) (by decide) ⟨0,rfl,by omega,rfl,h0⟩ ?_;rintro _ _ h ⟨k,rfl,hk,rfl,hI⟩ n ih;obtain⟨xD,vF⟩:=hc k h hI
 repeat' (first|refine qoy ?_|(refine zsp ?_ ?_<;>intro _)|fail)
 .refine zav rfl xD rfl ?_;refine qo ?_;have nN:=jjB Z (d:=d-1) om vF k;rw[cnt_nat t om]at nN;refine zaw rfl nN ?_;by_cases hz:k=0\/t.pd k=0
  .have e0:(if k=0 then (0:Int) else t.pd k)=0:=by rcases hz with hz|hz<;>simp[hz]
   rw[e0];refine qo ?_;exact ih (32-(k+1)) om _ _ ⟨k+1,rfl,by omega,rfl,hs k h om hI hz⟩
  .have iC:k≠0:=fun e=>hz (.inl e);have bD:t.pd k≠0:=fun e=>hz (.inr e);rw[zC iC];refine qo ?_;obtain⟨h2,Qd,sE⟩:=hy k h om iC bD hI;refine Ops.yield rfl rfl Qd ?_;refine qo ?_;exact ih (32-(k+1)) om _ _ ⟨k+1,rfl,by omega,rfl,sE⟩
 .have:k=32:=by omega
  subst this;exact hI
theorem jkG{cl:Nat->Call}(Z:Sem cl){d b:Nat}{h:H}(hd:1<=d):cl d (.fn 168) [.p b 0] h=some (.clo 184 [.p h.nx 0],h.new (.cells [.p b 0] false)):=by
 refine jaj (aT Z ?_);refine qo ?_;refine zcu rfl rfl ?_;refine qo ?_;exact⟨rfl,rfl⟩
def Tb.sum(t:Tb):Nat->Int
 |0=>0
 |k+1=>if k=0\/t.pd k=0 then t.sum k else t.sum k+t.pd k
def Tb.ok(t:Tb)(n:Int):Prop:= ∀k,0<=t.pd k/\t.pd k<=n
theorem Tb.sum_le{t:Tb}{n:Int}(ht:t.ok n):∀k:Nat,0<=t.sum k/\t.sum k<=k*n
 |0=>by simp[Tb.sum]
 |k+1=>by
  have h1:=Tb.sum_le ht k;have h2:=ht k;unfold Tb.sum;have e:((k+1:Nat):Int)*n=k*n+n:=by simp[Int.add_mul]
  split<;>omega
theorem jja{cl:Nat->Call}(Z:Sem cl){d b:Nat}{h0:H}{t:Tb}(hd:8<=d)(hb:h0.get b=some t.obj)(d4:b<h0.nx)(ht:t.ok 1000000) :
  ∃h',cl d (.fn 128) [.p b 0] h0=some (.i (t.sum 32),h')/\Ch (fun _=>False) h0 h':=by
 refine jae (aT Z ?_);refine qo ?_;refine zcu rfl rfl ?_;refine qo ?_;refine zcs rfl rfl rfl (jac _) Zd ?_;refine qo ?_;refine zaw rfl (jkG Z om) ?_;refine qo ?_;refine Run.rangeFunc_lo rfl qkp fun LO mD=>?_;obtain⟨v,h',hc,k1,k2,k3,k4,k5,k6⟩:=jhS Z (d:=d-1) (L:=h0.nx+2) (c:=h0.nx+1) (b:=b) (t:=t) om
  (fun k h=>h.get h0.nx=some (.cells [.i (t.sum k)] false)/\h.get (h0.nx+1)=some (.cells [.p b 0] false)/\h.get (h0.nx+2)=some (LO .ready none)/\h.get b=some t.obj/\h0.nx+3<=h.nx/\∀j,j<h0.nx->h.get j=h0.get j)
  (fun k h hI=>⟨hI.2.1,hI.2.2.2.1⟩)
  (fun k h _ hI hz=>by rw[Tb.sum,zD hz];exact hI)
  (by
   intro k g hk nY mF ⟨g1,g2,g3,g4,g5,g6⟩;have hs:=Tb.sum_le ht k;have Hj:=ht k;have Jj:(k:Int)*1000000<=32000000:=by omega
   refine jae (yl_ Z om mD g3 rfl ?_);refine qo ?_;refine zcu rfl rfl ?_;refine qo ?_;refine zct rfl rfl rfl rfl (jac _) Zd ?_;refine qo ?_;refine Zn ⟨rfl,qgt,?_⟩;refine qo ?_;refine zav rfl (l:=[.i (t.sum k)]) (ro:=false) qgt rfl ?_;refine qo ?_;refine zav rfl (l:=[.i k,.i (t.pd k)]) (ro:=false) qgt rfl ?_;refine qo ?_;refine zcs rfl rfl rfl (l:=[.i (t.sum k)]) qgt zM ?_;refine qo ?_;refine Zn ⟨⟨.busy,none,qgt⟩,rfl,?_⟩;rw[Tb.sum,zC om];refine⟨qgt,qgt,qgt,qgt,?_,?_⟩
   .simp;omega
   .intro j hj;have:=g6 j hj;exact qgt)
  (h:=(((h0.new (.cells [.i 0] false)).set h0.nx (.cells [.i 0] false)).new (.cells [.p b 0] false)).new (LO .ready none))
  (by
   refine⟨qgt,qgt,qgt,qgt,?_,?_⟩
   .simp
   .intro j hj;exact qgt)
 refine⟨v,h',hc,.normal,k3,?_⟩;refine qo ?_;refine zav rfl (l:=[.i (t.sum 32)]) (ro:=false) qgt rfl ?_;refine qo ?_;refine⟨rfl,?_,?_⟩
 .simp;omega
 .intro j hj _;have:=k6 j hj;exact qgt
end Am.Sigs
