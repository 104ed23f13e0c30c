/- Our own library, part 24. -/
import Derived.Test.YtafdknfdmlknfaaGreatH23
import Derived.Test.YtafdknfdmlknfaaGreatH14
import Derived.Test.YtafdknfdmlknfaaGreatH21
import Derived.Test.YtafdknfdmlknfaaGreatH20
set_option maxHeartbeats 8000000
set_option maxRecDepth 800
set_option linter.all false
namespace Am.Sigs
open Am Go
section
variable {cl:Nat->Call} (hcl:Sem cl) {d D w s:Nat} {h:H} {ow:Nat->Nat} {ws:Ws} {now:Int} {tb:Tb} {no:Option (Nat × Nat)} {k:Int} {fr fw:Nat->Bool}
include hcl
theorem dr_kernel (hd:8<=d) (hD:h.get D=some (.cells (dw w k fr fw) false)) (lD:D<h.nx) (hb:k=1 -> ∀ i,64<=i->(fr i||fw i)=false) :
  ∃ v h',cl d (.fn 45) [.p D 0] h=some (v,h')/\KD h' k fr fw v/\(∀ t lv z,v = .iface t lv->lv.at?=some z->h.nx<=z)/\Old h h':=by
 have e1:=jlW hcl (d:=d-1) (D:=D) (h:=(h.new (.cells [.int .u32 0,.int .u32 0,.int .u32 0,.int .u32 0] false)).new (.cells [.nils] false)) om
 have oX:Old h (((h.new (.cells [.int .u32 0,.int .u32 0,.int .u32 0,.int .u32 0] false)).new (.cells [.nils] false)).new (.cells [.p D 0] false)):=(ZD h).new.new.new
 have x0:(((h.new (.cells [.int .u32 0,.int .u32 0,.int .u32 0,.int .u32 0] false)).new (.cells [.nils] false)).new (.cells [.p D 0] false)).get h.nx=some (.cells [.int .u32 0,.int .u32 0,.int .u32 0,.int .u32 0] false):=qgt
 have x1:(((h.new (.cells [.int .u32 0,.int .u32 0,.int .u32 0,.int .u32 0] false)).new (.cells [.nils] false)).new (.cells [.p D 0] false)).get (h.nx+1)=some (.cells [.nils] false):=qgt
 have x2:(((h.new (.cells [.int .u32 0,.int .u32 0,.int .u32 0,.int .u32 0] false)).new (.cells [.nils] false)).new (.cells [.p D 0] false)).get (h.nx+2)=some (.cells [.p D 0] false):=qgt
 have xn:(((h.new (.cells [.int .u32 0,.int .u32 0,.int .u32 0,.int .u32 0] false)).new (.cells [.nils] false)).new (.cells [.p D 0] false)).nx=h.nx+3:=rfl
 have q1:(dw w k fr fw)[0+1]?=some (.i k):=rfl
 refine aT hcl ?_
 refine qm ?_
 change Run _ _ _ _ [(0,.p D 0),(3,.p h.nx 0),(4,.p (h.nx+1) 0),(8,.clo 101 [.p (h.nx+2) 0])] _ _
 generalize ((h.new (.cells [.int .u32 0,.int .u32 0,.int .u32 0,.int .u32 0] false)).new (.cells [.nils] false)).new (.cells [.p D 0] false)=X at oX x0 x1 x2 xn ⊢
 refine Zz rfl qkp fun LO hLO=>?_
 rw [xn]
 obtain ⟨h',hc,hI⟩:=ji2 hcl (d:=d-1) (h:=X.new (LO .ready none)) (L:=h.nx+3) (c:=h.nx+2) (D:=D) (w:=w) (k:=k) (fr:=fr) (fw:=fw) om
  (fun i g=>i<=96/\(∃ R S,g.get h.nx=some (.cells (setV R++setV S) false)/\Put k fr R i/\Put k fw S i)/\(∃ sv,g.get (h.nx+1)=some (.cells [sv] false)/\Row (h.nx+4) g 2 sv (askL fr fw i).length (jav (jbX (askL fr fw i))))/\g.get (h.nx+2)=some (.cells [.p D 0] false)/\g.get (h.nx+3)=some (LO .ready none)/\h.nx+4<=g.nx/\Old h g)
  (fun i g p=>⟨p.2.2.2.1,by rw [p.2.2.2.2.2.2.2 D lD,hD]⟩)
  (by
   rintro i g hi hab ⟨pi,⟨R,S,p0,pR,pS⟩,pA,p2⟩
   have e:askL fr fw (i+1)=askL fr fw i:=by simp [askL,hab]
   simp only [Bool.or_eq_false_iff] at hab
   rw [e]
   exact ⟨by omega,⟨R,S,p0,pR.skip hab.1,pS.skip hab.2⟩,pA,p2⟩)
  (by
   rintro i g hi hab ⟨pi,⟨R,S,p0,pR,pS⟩,⟨sv,p1,pr⟩,p2,p3,p5,p6⟩
   have hlen:=jfO fr fw i
   have e:askL fr fw (i+1)=askL fr fw i++[(i,fr i,fw i)]:=by simp [askL,hab]
   have h64:k=1->i<64:=fun hk=>by
    rcases zA i 64 with q | q
    ·exact q
    ·rw [hb hk i q] at hab;cases hab
   rw [e]
   generalize askL fr fw i=P at pr hlen ⊢
   suffices q : ∃ v' g',cl (d-1-1) (.yld (h.nx+3)) [.i (i:Int),.i (ja8 (fr i) (fw i))] g=some (v',g')/\(v' = .bool true/\(i+1<=96/\(∃ R S,g'.get h.nx=some (.cells (setV R++setV S) false)/\Put k fr R (i+1)/\Put k fw S (i+1))/\(∃ sv,g'.get (h.nx+1)=some (.cells [sv] false)/\Row (h.nx+4) g' 2 sv (P++[(i,fr i,fw i)]).length (jav (jbX (P++[(i,fr i,fw i)]))))/\g'.get (h.nx+2)=some (.cells [.p D 0] false)/\g'.get (h.nx+3)=some (LO .ready none)/\h.nx+4<=g'.nx/\Old h g')) by
    obtain ⟨_,g',e,rfl,q⟩:=q
    exact ⟨g',e,q⟩
   refine yl_ hcl om hLO p3 rfl ?_
   refine Ga ?_
   refine Zv ⟨rfl,p3,?_⟩
   have gk : ∀ j,j≠h.nx+3->(g.set (h.nx+3) (LO .busy none)).get j=g.get j:=fun j hj=>jaa hj
   refine Run.block (Run.cut (fun x e' g'=>x = .normal/\e'=[] /\ ∃ v2,g'.get h.nx=some (.cells (setV (if fr i then jcU R (i:Int) else R)++setV (if fw i then jcU S (i:Int) else S)) false)/\g'.get (h.nx+1)=some (.cells [v2] false)/\Row (h.nx+4) g' 2 v2 (P++[(i,fr i,fw i)]).length (jav (jbX (P++[(i,fr i,fw i)])))/\g.nx<=g'.nx/\(∀ j,j<h.nx+4->j≠h.nx->j≠h.nx+1->g'.get j=(g.set (h.nx+3) (LO .busy none)).get j))
    (dk_body hcl (d:=d-1-1-1) (g:=g.set (h.nx+3) (LO .busy none)) (b3:=h.nx) (b4:=h.nx+1) (N:=h.nx+4) (i:=i) (sv:=sv) (P:=P) (R:=R) (S:=S) om hab (by simpa using p5) om om om (by rw [gk _ om,p0]) (by rw [gk _ om,p1]) (pr.keep Zd fun z hz=>by have:=(pr.at_ge hz).1;rw [gk _ om]) om
     fun g' v2 k3 k4 rr kx kj=>⟨rfl,rfl,v2,k3,k4,rr,by simpa using kx,kj⟩) ?_)
   rintro _ _ g' ⟨rfl,rfl,v2,k3,k4,rr,kx,kj⟩
   have p7:=p6.1
   refine Ga ?_
   refine Zv ⟨⟨.busy,none,by rw [kj _ om om om];exact jab _⟩,rfl,by omega,⟨_,_,by rw [jaa om];exact k3,?_,?_⟩,⟨v2,by rw [jaa om];exact k4,rr.keep Zd fun z hz=>by have:=(rr.at_ge hz).1;rw [jaa om]⟩,by rw [jaa om,kj _ om om om,gk _ om,p2],jab _,by simp;omega,⟨by simp;omega,fun j hj=>by rw [jaa om,kj _ om om om,gk _ om,p6.2 j hj]⟩⟩
   ·cases hr:fr i
    ·exact pR.skip hr
    ·exact pR.add hr h64
   ·cases hr:fw i
    ·exact pS.skip hr
    ·exact pS.add hr h64)
  ⟨by omega,⟨fun _=>false,fun _=>false,by rw [jac om,x0,jfx];rfl,Put.zero,Put.zero⟩,⟨.nils,by rw [jac om,x1],by simpa [askL,jbX,jav] using Row.nil _ _ _⟩,by rw [jac om,x2],by rw [<- xn,jad],by simp [xn],oX.new⟩
 obtain ⟨_,⟨R,S,p0,pR,pS⟩,⟨sv,p1,pr⟩,p2,p3,p5,p6⟩:=hI
 refine ⟨_,_,hc,.normal,p3,?_⟩
 have k0:(h'.kill (h.nx+3)).get h.nx=some (.cells (setV R++setV S) false):=by rw [jae om,p0]
 have k1:(h'.kill (h.nx+3)).get (h.nx+1)=some (.cells [sv] false):=by rw [jae om,p1]
 have kD:(h'.kill (h.nx+3)).get D=some (.cells (dw w k fr fw) false):=by rw [jae om,p6.2 D lD,hD]
 have o9:Old h (h'.kill (h.nx+3)):=⟨p6.1,fun j hj=>by rw [jae om,p6.2 j hj]⟩
 have r9:Row (h.nx+4) (h'.kill (h.nx+3)) 2 sv (askL fr fw 96).length (jav (jbX (askL fr fw 96))):=pr.keep (zr _) fun z hz=>by have:=(pr.at_ge hz).1;rw [jae om]
 rw [<- jgX] at r9
 have hvp:=vp_row r9
 have hone:=r9.one
 have hfr : ∀ z,sv.at?=some z->h.nx<=z:=fun z hz=>by have:=(r9.at_ge hz).1;omega
 clear hLO hc p0 p1 p2 p3 pr r9
 generalize h'.kill (h.nx+3)=H9 at k0 k1 kD o9 hvp ⊢
 by_cases hk:k=1
 ·have hRS:setV R++setV S=setV fr++setV fw:=by
   rw [jbv (f:=R) (g:=fr) fun i hi=>by rw [pR hk i hi,zJ (show i<96 by omega),Bool.and_true],jbv (f:=S) (g:=fw) fun i hi=>by rw [pS hk i hi,zJ (show i<96 by omega),Bool.and_true]]
  rw [hRS] at k0
  clear pR pS hRS hvp hone
  refine Ga ?_
  refine zcw rfl k0 (zw rfl) ?_
  refine Ga ?_
  refine ⟨.sel hk rfl,fun t lv z e hz=>?_,o9⟩
  injection e with e1 e2
  rw [<- e2] at hz
  cases hz
 ·obtain ⟨av,cv,rfl,_⟩:=id hvp
  clear pR pS
  refine Ga ?_
  refine ⟨.pol hk _ rfl hvp,fun t lv z e hz=>?_,o9⟩
  injection e with e1 e2
  rw [<- e2] at hz
  exact hfr z hz
end
end Am.Sigs
namespace Am
open Am Go
abbrev MI:=List (Int × Int × Nat)
def esI (M:MI):List (V × V × Nat):=M.map fun x=>(.i x.1,.i x.2.1,x.2.2)
def atI:MI->Int->Int
 | [],_=>0
 | x :: M,k=>if k=x.1 then x.2.1 else atI M k
def putI (k v:Int) (c:Nat):MI->MI
 | []=>[(k,v,c)]
 | x :: M=>if k=x.1 then (k,v,x.2.2) :: M else x :: putI k v c M
theorem jlt (k v:Int) (c:Nat) (j:Int) : ∀ M:MI,atI (putI k v c M) j=if j=k then v else atI M j
 | []=>by simp only [putI,atI]
 | x :: M=>by
  have ih:=jlt k v c j M
  simp only [putI]
  by_cases h:k=x.1
  ·rw [zG h]
   simp only [atI]
   by_cases h2:j=k
   ·rw [zG h2,zG h2]
   ·rw [zF h2,zF h2,zF (fun e=>h2 (e.trans h.symm))]
  ·rw [zF h]
   simp only [atI]
   rw [ih]
   by_cases h2:j=k
   ·rw [zF (fun e=>h (h2.symm.trans e)),zG h2,zG h2]
   ·rw [zF h2,zF h2]
abbrev kI:KS := .leaf (.int .i64)
theorem keyI (a b:Int):jgm kI (.i a) (.i b)=some (a == b):=rfl
theorem joZ (k:Int) : ∀ (M:MI) (i:Nat),(findKey kI (.i k) (esI M) i=some none/\atI M k=0 /\ ∀ v c,esI M++[(.i k,.i v,c)]=esI (putI k v c M)) \/
  (∃ j b,findKey kI (.i k) (esI M) i=some (some (i+j,.i (atI M k),b)) /\ ∀ v c,(esI M).set j (.i k,.i v,b)=esI (putI k v c M))
 | [],i=>.inl ⟨rfl,rfl,fun _ _=>rfl⟩
 | x :: M,i=>by
  have e0:findKey kI (.i k) (esI (x :: M)) i=match jgm kI (.i k) (.i x.1) with | some true=>some (some (i,V.i x.2.1,x.2.2)) | some false=>findKey kI (.i k) (esI M) (i+1) | none=>none:=rfl
  by_cases h:k=x.1
  ·refine .inr ⟨0,x.2.2,?_,fun v c=>?_⟩
   ·rw [e0,keyI,beq_iff_eq.2 h]
    simp only [atI]
    rw [zG h];rfl
   ·show _=esI (if k=x.1 then _ else _)
    rw [zG h];rfl
  ·have hk:(k == x.1)=false:=by rw [beq_eq_false_iff_ne];exact h
   rw [keyI,hk] at e0
   have ea:atI (x :: M) k=atI M k:=by simp only [atI];rw [zF h]
   have ep : ∀ v c,esI (putI k v c (x :: M))=(.i x.1,.i x.2.1,x.2.2) :: esI (putI k v c M):=fun v c=>by
    show esI (if k=x.1 then _ else _)=_
    rw [zF h];rfl
   rcases joZ k M (i+1) with ⟨h1,h2,h3⟩ | ⟨j,b,h1,h2⟩
   ·exact .inl ⟨by rw [e0];exact h1,by rw [ea,h2],fun v c=>by rw [ep,<- h3 v c];rfl⟩
   ·exact .inr ⟨j+1,b,by rw [e0];simp only [];rw [h1,ea,show i+1+j=i+(j+1) by omega],fun v c=>by rw [ep,<- h2 v c];rfl⟩
theorem jnZ (k:Int) (M:MI):jlj kI (.i k) (esI M)=findKey kI (.i k) (esI M) 0:=by
 show (bif (jgm kI (.i k) (.i k)).isSome then _ else _)=_
 rw [keyI];rfl
section
variable {call:Call} {fuel base:Nat} {K:List Fr} {e:Env} {h:H} {Q:Post} {ix:Nat} {dst at_:Option Nat} {ops:List Ins} {keep:List Nat}
theorem Ops.lookI {m k:Opd} {r c:Nat} {M:MI} {n:Int} (hm:m.ev e=some (.map (some r))) (hk:k.ev e=some (.i n)) (hr:h.get r=some (.map (esI M) c)) (kk:Ops call fuel base ops keep K (layv e dst (.i (atI M n))) h Q) :
  Ops call fuel base (⟨ix,dst,.lookup kI (.i 0) false m k,none,at_,[]⟩ :: ops) keep K e h Q:=by
 refine Ops.step (I.run_read rfl ?_) kk
 simp only [I.read,hm,hk,H.map?,hr,jnZ]
 rcases joZ n M 0 with ⟨h1,h2,_⟩ | ⟨j,b,h1,_⟩
 ·rw [h1,h2];rfl
 ·rw [h1];rfl
theorem Ops.mputI {m k x:Opd} {r c:Nat} {M:MI} {n v:Int} (hm:m.ev e=some (.map (some r))) (hk:k.ev e=some (.i n)) (hx:x.ev e=some (.i v)) (hr:h.get r=some (.map (esI M) c))
  (kk : ∀ (M':MI) c',(∀ j,atI M' j=if j=n then v else atI M j)->Ops call fuel base ops keep K (layv e dst .undef) (h.set r (.map (esI M') c')) Q) :
  Ops call fuel base (⟨ix,dst,.mput kI m k x,none,at_,[]⟩ :: ops) keep K e h Q:=by
 rcases joZ n M 0 with ⟨h1,h2,h3⟩ | ⟨j,b,h1,h3⟩
 ·refine Ops.step (Zw rfl ?_) (kk (putI n v c M) (c+1) fun j=>jlt n v c j M)
  simp only [I.eff,hm,hk,hx,H.map?,hr,jnZ,h1]
  rw [h3]
 ·refine Ops.step (Zw rfl ?_) (kk (putI n v c M) c fun j=>jlt n v c j M)
  simp only [I.eff,hm,hk,hx,H.map?,hr,jnZ,h1]
  rw [zS,h3 v c]
end
end Am
namespace Am.Sigs
open Am Go
theorem jjw {fr fw:Nat->Bool} : ∀ {n:Nat} {x:AskP},x∈askL fr fw n->x.1<n/\x.2.1=fr x.1/\x.2.2=fw x.1/\(x.2.1||x.2.2)=true
 | 0,x,h=>by cases h
 | n+1,x,h=>by
  rw [askL] at h
  rcases zR.1 h with h | h
  ·obtain ⟨h1,h2⟩:=jjw h
   exact ⟨by omega,h2⟩
  ·split at h
   ·next hh=>
    obtain rfl:x=(n,fr n,fw n):=by simpa using h
    exact ⟨by simp,rfl,rfl,hh⟩
   ·cases h
theorem asks_may (P:List AskP) : ∀ p∈jbX P,jeM p.2:=fun p hp=>by
 obtain ⟨x,_,rfl⟩:=List.mem_map.1 hp
 exact evI_may _ _
theorem evI_fit (a b:Bool) : -9223372036854775808<=evI a b/\evI a b<=9223372036854775807:=by cases a<;>cases b<;>decide
theorem jmb (fr fw:Nat->Bool):jnY (jbX (askL fr fw 96)):=fun p hp=>by
 obtain ⟨x,hx,rfl⟩:=List.mem_map.1 hp
 have:=(jjw hx).1
 exact ⟨⟨by show (-9223372036854775808:Int)<=(x.1:Int);omega,by show (x.1:Int)<=9223372036854775807;omega⟩,evI_fit _ _⟩
section
variable {cl:Nat->Call} (hcl:Sem cl) {d D w s:Nat} {h:H} {ow:Nat->Nat} {ws:Ws} {now:Int} {tb:Tb} {no:Option (Nat × Nat)} {k:Int} {fr fw:Nat->Bool}
include hcl
theorem dr_sholds (hd:14<=d) (a:WSt h w s ow ws now tb no) (o:WsOk ws) : ∃ (b:Bool) (h':H),cl d (.fn 176) [.agg (setV fr++setV fw),.p w 0] h=some (.bool b,h')/\Old h h':=by
 have oX:Old h (h.new (.cells (setV fr++setV fw) false)):=(ZD h).new
 have x0:(h.new (.cells (setV fr++setV fw) false)).get h.nx=some (.cells (setV fr++setV fw) false):=jad _
 have xn:(h.new (.cells (setV fr++setV fw) false)).nx=h.nx+1:=rfl
 obtain ⟨T,h1,e1,o1,_,_,_,_⟩:=jo5 hcl (d:=d-1) (f:=fr) (g:=fw) (h:=h.new (.cells (setV fr++setV fw) false)) om
 obtain ⟨b,h2,e2,o2,_⟩:=sl_Holds hcl (d:=d-1) (top:=T+1) (f:=fr) (g:=fw) (h:=h1) om ((a.old oX).old o1) o
 have y0:h1.get h.nx=some (.cells (setV fr++setV fw) false):=by rw [o1.2 _ om,x0]
 clear a o
 refine ⟨b,?_⟩
 refine jai (aT hcl ?_)
 refine qm ?_
 refine Ops.callf_chk rfl e1 ?_ ?_
 ·exact jcJ (b:=h.nx) (o:=0) (l:=setV fr++setV fw) (ro:=false) rfl y0 (zw rfl) rfl rfl (jcJ (b:=h.nx) (o:=2) (l:=setV fr++setV fw) (ro:=false) rfl y0 (zw rfl) rfl rfl jbn)
 refine Ga ?_
 exact ⟨rfl,(oX.trans o1).trans o2⟩
theorem dr_lholds {v:V} {P:List (Int × Int)} (hd:12<=d) (a:WSt h w s ow ws now tb no) (o:WsOk ws) (hv:VP h v P) (hf:jnY P) (hl:P.length<=96) : ∃ (b:Bool) (h':H),cl d (.fn 196) [v,.p w 0] h=some (.bool b,h')/\Old h h':=by
 obtain ⟨h1,e1,o1⟩:=pl_holds hcl (d:=d-1) (v:=v) (l:=P) om a o hv hf om
 generalize (if mayP P then decide (0<cntP (polL ws P)) else true)=b at e1
 refine ⟨b,jai (aT hcl ?_)⟩
 clear a o hf
 refine Ga ?_
 exact ⟨rfl,o1⟩
theorem dr_hold {c1 c2:Nat} {v:V} (hd:15<=d) (a:WSt h w s ow ws now tb no) (o:WsOk ws) (K:KD h k fr fw v) (g1:h.get c1=some (.cells [v] false)) (g2:h.get c2=some (.cells [.p D 0] false)) (hD:h.get D=some (.cells (dw w k fr fw) false)) :
  ∃ (b:Bool) (h':H),cl d (.fn 47) [.p c1 0,.p c2 0] h=some (.bool b,h')/\Old h h':=by
 have q0:(dw w k fr fw)[0+0]?=some (.p w 0):=rfl
 obtain ⟨_,rfl⟩ | ⟨_,lv,rfl,r⟩:=K
 ·obtain ⟨b,h1,e1,o1⟩:=dr_sholds hcl (d:=d-1) (fr:=fr) (fw:=fw) om a o
  refine ⟨b,jai (aT hcl ?_)⟩
  clear a o
  refine Ga ?_
  refine Ops.invk rfl rfl rfl e1 ?_
  refine Ga ?_
  exact ⟨rfl,o1⟩
 ·obtain ⟨b,h2,e2,o2⟩:=dr_lholds hcl (d:=d-1) om a o r (jmb _ _) (by rw [jgX];exact jfO _ _ _)
  obtain ⟨av,cv,rfl,_⟩:=id r
  refine ⟨b,jai (aT hcl ?_)⟩
  clear a o
  refine Ga ?_
  refine Ops.invk rfl rfl rfl e2 ?_
  refine Ga ?_
  exact ⟨rfl,o2⟩
end
theorem or4 (a b:Bool):IntKind.i64.wrap ((BitVec.ofInt IntKind.i64.bits (ja8 a b) ||| BitVec.ofInt IntKind.i64.bits 4).toNat:Int)=ja8 a true:=by cases a<;>cases b<;>decide
theorem or2 (a b:Bool):IntKind.i64.wrap ((BitVec.ofInt IntKind.i64.bits (ja8 a b) ||| BitVec.ofInt IntKind.i64.bits 2).toNat:Int)=ja8 true b:=by cases a<;>cases b<;>decide
theorem jl6 {L:List Int} {i:Nat} {n j:Int} (hx:L[i]?=some n):decide (j∈L.take (i+1))=(decide (j=n)||decide (j∈L.take i)):=by
 rw [List.take_add_one,hx]
 simp [Bool.or_comm]
section
variable {cl:Nat->Call} (hcl:Sem cl) {d D w s:Nat} {h:H} {ow:Nat->Nat} {ws:Ws} {now:Int} {tb:Tb} {no:Option (Nat × Nat)} {k:Int} {fr fw:Nat->Bool}
include hcl
theorem st_tail {g:H} {r c b7:Nat} {M:MI} {A:Int->Bool} {S:Nat->Bool} {sbe:Env} (hd:7<=d) (hM : ∀ j,atI M j=ja8 (A j) false) (hr:g.get r=some (.map (esI M) c)) (h7:g.get b7=some (.cells (setV S) false)) (lr:r<g.nx) :
  Run (cl d) fuel c177_4 [] ((7,.p b7 0) :: (10,.map (some r)) :: sbe) g (Fin c177.res fun v g'=>v = .tup [.map (some r),.i 0]/\(∃ M' c',g'.get r=some (.map (esI M') c') /\ ∀ j,atI M' j=ja8 (A j) (decide (j∈jay S 64)))/\g.nx<=g'.nx /\ ∀ j,j<g.nx->j≠r->g'.get j=g.get j):=by
 obtain ⟨v2,g2,e7,r7,o7⟩:=jnX hcl (d:=d) (f:=S) (h:=g) om
 have hr':g2.get r=some (.map (esI M) c):=by rw [o7.2 _ lr,hr]
 have hll:=jem S 64
 generalize jay S 64=L at e7 r7 hll ⊢
 obtain ⟨cp2,⟨a2,rfl⟩,hel⟩:=r7.shape
 clear r7
 refine Ga ?_
 refine Ops.loadA (v:=setV S) rfl h7 (zw rfl) rfl ?_
 refine Ga ?_
 refine Zx (fun m e g1=>∃ (i:Nat) (M1:MI) (c1:Nat),m=L.length-i/\i<=L.length/\e=[(10,.map (some r)),(48,.slice a2 L.length cp2),(49,.i (L.length:Int)),(50,.i (i:Int))]/\g1.get r=some (.map (esI M1) c1)/\(∀ j,atI M1 j=ja8 (A j) (decide (j∈L.take i)))/\g1.nx=g2.nx /\ ∀ j,j≠r->g1.get j=g2.get j)
  (k:=L.length) Ze ⟨0,M,c,rfl,by omega,rfl,hr',fun j=>by rw [hM];simp,rfl,fun _ _=>rfl⟩ ?_
 clear hM hr hr' h7 e7
 rintro _ _ g1 ⟨i,M1,c1,rfl,hi,rfl,k1,k2,k3,k4⟩ n ih
 by_cases hlt:(i:Int)<L.length
 case neg=>
  obtain rfl:i=L.length:=by omega
  rw [List.take_length] at k2
  clear ih hel
  refine Ga ?_
  exact ⟨rfl,⟨M1,c1,k1,k2⟩,by rw [k3];exact o7.1,fun j hj hjr=>by rw [k4 j hjr,o7.2 j hj]⟩
 obtain ⟨q,q1,q2,eq,gq⟩:=hel i om
 cases eq
 have hq:g1.get q=some (.cells (ints L) false):=by rw [k4 q om,gq]
 have hx:=za (show i<L.length by omega)
 generalize L[i]=n0 at hx
 have hv:(ints L)[0+(i:Int).toNat*1]?=some (.i n0):=by simp [ints,hx]
 have hi1:(i:Int)+1=((i+1:Nat):Int):=by omega
 have htm:=fun j=>jl6 (j:=j) hx
 clear hel
 refine Ga ?_
 refine Ops.lookI rfl rfl k1 ?_
 refine Ga ?_
 refine Ops.mputI rfl rfl rfl k1 fun M2 c2 hM2=>?_
 refine Ga ?_
 rw [hi1]
 refine ih (L.length-(i+1)) om _ _ ⟨i+1,M2,c2,rfl,by omega,rfl,jab _,fun j=>?_,by simpa using k3,fun j hj=>by rw [jaa hj,k4 j hj]⟩
 rw [hM2,htm]
 by_cases e:j=n0
 ·subst e
  rw [zG rfl,k2,or4,zJ rfl,Bool.true_or]
 ·rw [zF e,k2,zH e,Bool.false_or]
end
theorem jek {f:Nat->Bool} {m:Nat} : ∀ {n:Nat},(m:Int)∈jay f n↔m<n/\f m=true
 | 0=>by simp [jay]
 | n+1=>by
  have ih:=jek (f:=f) (m:=m) (n:=n)
  rw [jay,zR,ih]
  cases h:f n
  ·simp only [zU,if_false,List.not_mem_nil,or_false]
   constructor
   ·rintro ⟨a,b⟩;exact ⟨by omega,b⟩
   ·rintro ⟨a,b⟩
    refine ⟨?_,b⟩
    rcases zA m n with q | q
    ·exact q
    ·obtain rfl:m=n:=by omega
     rw [h] at b;cases b
  ·simp only [if_true,List.mem_singleton]
   constructor
   ·rintro (⟨a,b⟩ | e)
    ·exact ⟨by omega,b⟩
    ·obtain rfl:m=n:=by omega
     exact ⟨by omega,h⟩
   ·rintro ⟨a,b⟩
    by_cases e:m=n
    ·exact .inr (by rw [e])
    ·exact .inl ⟨by omega,b⟩
theorem jkw {f:Nat->Bool} {m:Nat} (hm:m<64):decide ((m:Int)∈jay f 64)=f m:=by
 by_cases h:f m=true
 ·rw [zJ (jek.2 ⟨hm,h⟩),h]
 ·rw [zH (fun e=>h (jek.1 e).2)]
  cases hh:f m
  ·rfl
  ·exact zM hh h
inductive TD (n0:Nat) (h:H) (ws:Ws) (fr fw:Nat->Bool) (v:V):Prop
 | err (e:Int) (hv:v = .tup [.map none,.i e]) (he:e≠0)
 | ok (r c:Nat) (M:MI) (hv:v = .tup [.map (some r),.i 0]) (nr:n0<=r) (lr:r<h.nx) (hr:h.get r=some (.map (esI M) c)) (hM : ∀ m:Nat,m<96->atI M m=ja8 (fr m&&inR (rdyS ws m)) (fw m&&outR (rdyS ws m)))
section
variable {cl:Nat->Call} (hcl:Sem cl) {d D w s:Nat} {h:H} {ow:Nat->Nat} {ws:Ws} {now:Int} {tb:Tb} {no:Option (Nat × Nat)} {k:Int} {fr fw:Nat->Bool}
include hcl
theorem st_main {g:H} {r b6 b7:Nat} {R S:Nat->Bool} (hd:7<=d) (hr:g.get r=some (.map (esI []) 0)) (h6:g.get b6=some (.cells (setV R) false)) (h7:g.get b7=some (.cells (setV S) false)) (lr:r<g.nx) (l7:b7<g.nx) :
  Run (cl d) fuel c177_5 [] [(6,.p b6 0),(7,.p b7 0),(10,.map (some r))] g (Fin c177.res fun v g'=>v = .tup [.map (some r),.i 0]/\(∃ M' c',g'.get r=some (.map (esI M') c') /\ ∀ j,atI M' j=ja8 (decide (j∈jay R 64)) (decide (j∈jay S 64)))/\g.nx<=g'.nx /\ ∀ j,j<g.nx->j≠r->g'.get j=g.get j):=by
 obtain ⟨v2,g2,e7,r7,o7⟩:=jnX hcl (d:=d) (f:=R) (h:=g) om
 have hr':g2.get r=some (.map (esI []) 0):=by rw [o7.2 _ lr,hr]
 have h7':g2.get b7=some (.cells (setV S) false):=by rw [o7.2 _ l7,h7]
 have h7r:b7≠r:=by rintro rfl;rw [hr] at h7;cases h7
 have hll:=jem R 64
 obtain ⟨C,hC⟩ : ∃ C,C=c177_4:=⟨_,rfl⟩
 simp only [c177_5,<- hC,uF]
 generalize jay R 64=L at e7 r7 hll ⊢
 obtain ⟨cp2,⟨a2,rfl⟩,hel⟩:=r7.shape
 clear r7
 refine Ga ?_
 refine Ops.loadA (v:=setV R) rfl h6 (zw rfl) rfl ?_
 refine Ga ?_
 refine Zx (fun m e g1=>∃ (i:Nat) (M1:MI) (c1:Nat),m=L.length-i/\i<=L.length/\e=[(7,.p b7 0),(10,.map (some r)),(36,.slice a2 L.length cp2),(37,.i (L.length:Int)),(38,.i (i:Int))]/\g1.get r=some (.map (esI M1) c1)/\(∀ j,atI M1 j=ja8 (decide (j∈L.take i)) false)/\g1.nx=g2.nx /\ ∀ j,j≠r->g1.get j=g2.get j)
  (k:=L.length) Ze ⟨0,[],0,rfl,by omega,rfl,hr',fun j=>by simp [atI,ja8],rfl,fun _ _=>rfl⟩ ?_
 clear hr hr' h6 e7
 rintro _ _ g1 ⟨i,M1,c1,rfl,hi,rfl,k1,k2,k3,k4⟩ n ih
 by_cases hlt:(i:Int)<L.length
 case neg=>
  obtain rfl:i=L.length:=by omega
  rw [List.take_length] at k2
  have ox:=o7.1
  have T:=Run.fin_mono (st_tail hcl (d:=d) (g:=g1) (r:=r) (c:=c1) (b7:=b7) (M:=M1) (A:=fun j=>decide (j∈L)) (S:=S) (sbe:=[(36,.slice a2 L.length cp2),(37,.i (L.length:Int)),(38,.i (L.length:Int)),(39,.bool (decide ((L.length:Int)<L.length)))]) hd k2 k1 (by rw [k4 _ h7r,h7']) om)
   (R':=fun v g'=>v = .tup [.map (some r),.i 0]/\(∃ M' c',g'.get r=some (.map (esI M') c') /\ ∀ j,atI M' j=ja8 (decide (j∈L)) (decide (j∈jay S 64)))/\g.nx<=g'.nx /\ ∀ j,j<g.nx->j≠r->g'.get j=g.get j) fun v g' p=>⟨p.1,p.2.1,by have:=p.2.2.1;omega,fun j hj hr=>by rw [p.2.2.2 j om hr,k4 j hr,o7.2 j hj]⟩
  rw [<- hC] at T
  clear ih hel
  refine Ga ?_
  exact T
 obtain ⟨q,q1,q2,eq,gq⟩:=hel i om
 cases eq
 have hq:g1.get q=some (.cells (ints L) false):=by rw [k4 q om,gq]
 have hx:=za (show i<L.length by omega)
 generalize L[i]=n0 at hx
 have hv:(ints L)[0+(i:Int).toNat*1]?=some (.i n0):=by simp [ints,hx]
 have hi1:(i:Int)+1=((i+1:Nat):Int):=by omega
 have htm:=fun j=>jl6 (j:=j) hx
 clear hel
 refine Ga ?_
 refine Ops.lookI rfl rfl k1 ?_
 refine Ga ?_
 refine Ops.mputI rfl rfl rfl k1 fun M2 c2 hM2=>?_
 refine Ga ?_
 rw [hi1]
 refine ih (L.length-(i+1)) om _ _ ⟨i+1,M2,c2,rfl,by omega,rfl,jab _,fun j=>?_,by simpa using k3,fun j hj=>by rw [jaa hj,k4 j hj]⟩
 rw [hM2,htm]
 by_cases e:j=n0
 ·subst e
  rw [zG rfl,k2,or2,zJ rfl,Bool.true_or]
 ·rw [zF e,k2,zH e,Bool.false_or]
theorem dr_stold (hd:13<=d) (a:WSt h w s ow ws now tb no) (o:WsOk ws) (hb : ∀ i,64<=i->(fr i||fw i)=false) :
  ∃ v h',cl d (.fn 177) [.agg (setV fr++setV fw),.p w 0] h=some (v,h')/\TD h.nx h' ws fr fw v/\Old h h':=by
 have oX:Old h (h.new (.cells (setV fr++setV fw) false)):=(ZD h).new
 have x0:(h.new (.cells (setV fr++setV fw) false)).get h.nx=some (.cells (setV fr++setV fw) false):=jad _
 have xn:(h.new (.cells (setV fr++setV fw) false)).nx=h.nx+1:=rfl
 obtain ⟨C5,hC5⟩ : ∃ C,C=c177_5:=⟨_,rfl⟩
 refine aT hcl ?_
 simp only [c177,c177_7,c177_6,<- hC5,yB,yH,yJ]
 refine qm ?_
 change Run _ _ _ _ _ (h.new (.cells (setV fr++setV fw) false)) _
 generalize h.new (.cells (setV fr++setV fw) false)=X at oX x0 xn ⊢
 refine Run.region2 fun HR oR xR=>?_
 obtain ⟨T,h1,e1,o1,_,t1,t2,_⟩:=jo5 hcl (d:=d-1) (f:=fr) (g:=fw) (h:=HR) om
 obtain ⟨R,S,h2,e2,o2,r1,_⟩:=jjA hcl (d:=d-1) (top:=T+1) (f:=fr) (g:=fw) (h:=h1) om (((a.old oX).old oR).old o1) o
 have y0:HR.get h.nx=some (.cells (setV fr++setV fw) false):=by rw [oR.2 _ om,x0]
 have y1:h1.get h.nx=some (.cells (setV fr++setV fw) false):=by rw [o1.2 _ om,y0]
 have x1:=o1.1
 have x2:=o2.1
 generalize ((cntS R 64+cntS S 64:Nat):Int)=n at e2
 generalize hE:jch ws fr fw (T+1)=er at e2 r1
 clear a o
 refine Ga ?_
 refine Ops.loadA (v:=setV fr) rfl y0 (zw rfl) rfl ?_
 refine Ga ?_
 refine Ops.loadA (v:=setV fw) rfl y0 (zw rfl) rfl ?_
 refine Ga ?_
 refine Ops.loadA (v:=setV fr) rfl y0 (zw rfl) rfl ?_
 refine Ga ?_
 refine Ops.loadA (v:=setV fw) rfl y0 (zw rfl) rfl ?_
 refine Ops.callf_chk rfl e1 ?_ ?_
 ·exact jcJ (b:=h.nx) (o:=0) (l:=setV fr++setV fw) (ro:=false) rfl y1 (zw rfl) rfl rfl (jcJ (b:=h.nx) (o:=2) (l:=setV fr++setV fw) (ro:=false) rfl y1 (zw rfl) rfl rfl jbn)
 refine Ga ?_
 refine Ops.mk2S ((oR.trans o1).trans o2) om (by decide) rfl rfl fun H5 o5 k6 k7 x5=>?_
 have o9:=oX.trans o5
 by_cases he:er=0
 case neg=>
  clear e1 e2 o1 o2 oR y0 y1 r1
  refine Ga ?_
  exact ⟨.err er rfl he,o9⟩
 obtain ⟨rfl,rfl⟩:=r1 he
 have l6:=k6.lt
 have l7:=k7.lt
 have T1:=st_main hcl (d:=d-1) (g:=H5.new (.map [] 0)) (r:=H5.nx) (b6:=X.nx+0) (b7:=X.nx+1) om (jad _) (by rw [jac l6];exact k6.at_) (by rw [jac l7];exact k7.at_) (Nat.lt_succ_self _) (Nat.lt_succ_of_lt l7)
 have T2:=Run.fin_mono T1 (R':=fun v h'=>TD h.nx h' ws fr fw v/\Old h h') fun v g' p=>by
  obtain ⟨rfl,⟨M',c',p1,p2⟩,p3,p4⟩:=p
  have p3':H5.nx+1<=g'.nx:=p3
  have o9x:=o9.1
  refine ⟨.ok H5.nx c' M' rfl om om p1 fun m hm=>?_,⟨by omega,fun j hj=>by rw [p4 j (by show j<H5.nx+1;omega) om,jac om,o9.2 j hj]⟩⟩
  rw [p2]
  by_cases h64:m<64
  ·rw [jkw h64,jkw h64]
   unfold selS
   have q : ∀ b c:Bool,(b=true->orS fr fw m=true)->(b&&decide ((m:Int)<T+1)&&c)=(b&&c):=fun b c hb=>by
    cases b
    ·rfl
    ·rw [zJ (show (m:Int)<T+1 by have:=t2 m h64 (hb rfl);omega)];rfl
   rw [q (fr m) _ fun e=>by simp [orS,e],q (fw m) _ fun e=>by simp [orS,e]]
  ·have:=hb m om
   simp only [Bool.or_eq_false_iff] at this
   rw [this.1,this.2,zH fun e=>h64 (jek.1 e).1,zH fun e=>h64 (jek.1 e).1];rfl
 rw [<- hC5] at T2
 clear T1 e1 e2 o1 o2 o5 oR y0 y1 hb t1 t2
 refine qm ?_
 exact T2
end
theorem cell2 {cs:List V} {o:Nat} {x y:V} (h:(cs.drop o).take 2=[x,y]):cs[o]?=some x/\cs[o+1]?=some y:=by
 have h0:((cs.drop o).take 2)[0]?=some x:=by rw [h];rfl
 have h1:((cs.drop o).take 2)[1]?=some y:=by rw [h];rfl
 simp only [zQ,zn] at h0 h1
 exact ⟨by simpa using h0,by simpa using h1⟩
theorem polI_no (r:Rdy) (m:Nat) (a b:Bool) (ho:r.op=false):jcL r (m:Int) (evI a b)=32:=by
 unfold jcL
 rw [zF om,zG ho]
theorem flI_eq (a b:Bool) (r:Rdy):ja8 (a&&(r.inn&&a||r.hup||r.err)) (b&&(r.out&&b||r.hup||r.err))=flI a b r:=by
 unfold flI inR outR
 cases a<;>cases b<;>simp
theorem jmd {fr fw:Nat->Bool} {m:Nat} (hm:(fr m||fw m)=true) : ∀ {n:Nat},m<n->m∈(askL fr fw n).map (·.1)
 | 0,h=>by omega
 | n+1,h=>by
  rw [askL,List.map_append,zR]
  by_cases e:m=n
  ·subst e
   exact .inr (by rw [zG hm];simp)
  ·exact .inl (jmd hm om)
section
variable {cl:Nat->Call} (hcl:Sem cl) {d D w s:Nat} {h:H} {ow:Nat->Nat} {ws:Ws} {now:Int} {tb:Tb} {no:Option (Nat × Nat)} {k:Int} {fr fw:Nat->Bool}
include hcl
theorem jkW (hd:1<=d) (a b:Bool):cl d (.fn 200) [.i (ja8 a b),.i 32] h=some (.tup [.i 0,.i 110],h):=by
 refine jan (aT hcl ?_)
 generalize ja8 a b=t
 refine Ga ?_
 exact ⟨rfl,rfl⟩
theorem dr_ltold {v:V} (hd:12<=d) (a:WSt h w s ow ws now tb no) (o:WsOk ws) (hv:VP h v (jbX (askL fr fw 96))) :
  ∃ v' h',cl d (.fn 197) [v,.p w 0] h=some (v',h')/\TD h.nx h' ws fr fw v'/\Old h h':=by
 have hl9:=jfO fr fw 96
 have hmem:=fun x hx=>jjw (fr:=fr) (fw:=fw) (n:=96) (x:=x) hx
 have hall:=fun m (hm:(fr m||fw m)=true) (h9:m<96)=>jmd (n:=96) hm h9
 obtain ⟨v1,h1,e1,o1,q⟩:=pl_poll hcl (d:=d-1) (v:=v) (l:=jbX (askL fr fw 96)) om a o hv (jmb _ _) (by rw [jgX];omega)
 generalize askL fr fw 96=P at hv hl9 hmem hall e1 q
 have hlP:(jbX P).length=P.length:=jgX P
 have hpe : ∀ (i:Nat) (x:AskP),P[i]?=some x->(jbX P)[i]?=some ((x.1:Int),evI x.2.1 x.2.2)/\(polL ws (jbX P))[i]?=some (jcL (rdyS ws x.1) x.1 (evI x.2.1 x.2.2)):=fun i x hx=>by
  have e:(jbX P)[i]?=some ((x.1:Int),evI x.2.1 x.2.2):=by unfold jbX;rw [List.getElem?_map,hx];rfl
  exact ⟨e,by unfold polL;rw [List.getElem?_map,e];rfl⟩
 obtain ⟨ov,rfl,r1⟩ : ∃ ov,v1 = .tup [ov,.i (cntP (polL ws (jbX P))),.i 0]/\Row h.nx h1 1 ov (jbX P).length (ints (polL ws (jbX P))):=by
  rcases q with q | q
  ·exact zM ⟨by rw [hlP];exact hl9,asks_may P⟩ q.1
  ·exact q.2
 generalize cntP (polL ws (jbX P))=n0 at e1
 generalize polL ws (jbX P)=PL at r1 hpe
 obtain ⟨cp1,⟨a1,rfl⟩,hel⟩:=r1.shape
 obtain ⟨av,cv,rfl,_⟩:=id hv
 have hv1:=hv.keep o1
 generalize jbX P=Q at *
 have ox:=o1.1
 clear a o r1 q
 refine aT hcl ?_
 refine qm ?_
 refine Zx (fun m e g=>∃ (i:Nat) (M:MI) (c:Nat),m=Q.length-i/\i<=Q.length/\e=[(0,.slice av Q.length cv),(8,.i 0),(9,.map (some h1.nx)),(23,.slice a1 Q.length cp1),(24,.i (Q.length:Int)),(25,.i (i:Int))]/\g.get h1.nx=some (.map (esI M) c)/\(∀ m:Nat,atI M m=if m∈(P.take i).map (·.1) then flI (fr m) (fw m) (rdyS ws m) else 0)/\g.nx=h1.nx+1 /\ ∀ j,j<h1.nx->g.get j=h1.get j)
  (k:=Q.length) Ze ⟨0,[],0,rfl,by omega,rfl,jad _,fun m=>by simp [atI],rfl,fun j hj=>jac hj⟩ ?_
 clear e1 hv
 rintro _ _ g ⟨i,M,c,rfl,hi,rfl,k1,k2,k3,k4⟩ n ih
 by_cases hlt:(i:Int)<Q.length
 case neg=>
  obtain rfl:i=Q.length:=by omega
  rw [zh om] at k2
  clear ih hel hpe hv1
  refine Ga ?_
  refine ⟨.ok h1.nx c M rfl om om k1 fun m hm=>?_,⟨by omega,fun j hj=>by rw [k4 j om,o1.2 j hj]⟩⟩
  rw [k2]
  by_cases hfm:(fr m||fw m)=true
  ·rw [zG (hall m hfm hm)];rfl
  ·rw [zF fun e=>?_]
   ·simp only [Bool.or_eq_true,not_or,Bool.not_eq_true] at hfm
    rw [hfm.1,hfm.2];rfl
   ·obtain ⟨x,hx,rfl⟩:=List.mem_map.1 e
    obtain ⟨_,x2,x3,x4⟩:=hmem x hx
    rw [x2,x3] at x4
    exact hfm x4
 have hx:=za (show i<P.length by omega)
 have hxm:=hmem _ (zb hx)
 have htk:P.take (i+1)=P.take i++[P[i]'om]:=by rw [List.take_add_one,hx];rfl
 generalize P[i]'om=x at hx hxm htk
 obtain ⟨x1,xa,xb⟩:=x
 obtain ⟨y1,y2,y3,y4⟩:=hxm
 have y1:x1<96:=y1
 have y2:xa=fr x1:=y2
 have y3:xb=fw x1:=y3
 obtain ⟨p1,p2⟩:=hpe _ _ hx
 have p1:Q[i]?=some ((x1:Int),evI xa xb):=p1
 have p2:PL[i]?=some (jcL (rdyS ws x1) x1 (evI xa xb)):=p2
 obtain ⟨q,q1,q2,eq,gq⟩:=hel i om
 cases eq
 obtain ⟨b,o',cs,ro,rfl,lb,hbk,hcs,hcc⟩:=hv1.get p1
 obtain ⟨c0,c1⟩:=cell2 hcc
 have c0:cs[o'+(i:Int).toNat*2+0]?=some (.i (x1:Int)):=by rw [zz];exact c0
 have c1:cs[o'+(i:Int).toNat*2+1]?=some (.i (evI xa xb)):=by rw [zz];exact c1
 have gb:g.get b=some (.cells cs ro):=by rw [k4 b lb,hbk]
 have hq:g.get q=some (.cells (ints PL) false):=by rw [k4 q q2,gq]
 have hv':(ints PL)[0+(i:Int).toNat*1]?=some (.i (jcL (rdyS ws x1) x1 (evI xa xb))):=by simp [ints,p2]
 have hi1:(i:Int)+1=((i+1:Nat):Int):=by omega
 have o9:Old h g:=⟨by omega,fun j hj=>by rw [k4 j om,o1.2 j hj]⟩
 clear hel hpe hv1 hall hmem hcc hbk gq
 cases hop:(rdyS ws x1).op with
 | false=>
  rw [polI_no _ _ _ _ hop] at hv'
  have e2:=jkW hcl (d:=d-1) (h:=g) om xa xb
  clear ih k2
  have K : ∀ e:Int,e≠0->TD h.nx g ws fr fw (.tup [.map none,.i e])/\Old h g:=fun e he=>⟨.err e rfl he,o9⟩
  have K:=K 110 (by decide)
  cases xa<;>cases xb<;>simp only [ja8,evI] at e2 c1
  all_goals
   repeat' (first|refine qxy ?_|(refine zsp ?_ ?_<;>intro _)|fail)
   exact K
 | true=>
  rw [polI _ _ _ _ hop] at hv'
  have e2:=pl_flags hcl (d:=d-1) (h:=g) om xa xb (rdyS ws x1).hup ((rdyS ws x1).inn&&xa) ((rdyS ws x1).out&&xb) (rdyS ws x1).err
  rw [flI_eq] at e2
  replace hv':(ints PL)[0+(i:Int).toNat*1]?=some (.i (tI (rdyS ws x1).hup ((rdyS ws x1).inn&&xa) ((rdyS ws x1).out&&xb) (rdyS ws x1).err)):=hv'
  generalize tI (rdyS ws x1).hup ((rdyS ws x1).inn&&xa) ((rdyS ws x1).out&&xb) (rdyS ws x1).err=tv at hv' e2
  have L : ∀ (M2:MI) (c2:Nat),(∀ j,atI M2 j=if j=(x1:Int) then flI xa xb (rdyS ws x1) else atI M j) -> ∃ (i':Nat) (M':MI) (c':Nat),Q.length-(i+1)=Q.length-i'/\i'<=Q.length/\[(0,.slice (some (b,o')) Q.length cv),(8,.i 0),(9,.map (some h1.nx)),(23,.slice (some (q,0)) Q.length cp1),(24,.i (Q.length:Int)),(25,.i ((i+1:Nat):Int))]=[(0,.slice (some (b,o')) Q.length cv),(8,.i 0),(9,.map (some h1.nx)),(23,.slice (some (q,0)) Q.length cp1),(24,.i (Q.length:Int)),(25,V.i (i':Int))]/\(g.set h1.nx (.map (esI M2) c2)).get h1.nx=some (.map (esI M') c')/\(∀ m:Nat,atI M' m=if m∈(P.take i').map (·.1) then flI (fr m) (fw m) (rdyS ws m) else 0)/\(g.set h1.nx (.map (esI M2) c2)).nx=h1.nx+1 /\ ∀ j,j<h1.nx->(g.set h1.nx (.map (esI M2) c2)).get j=h1.get j:=fun M2 c2 hM2=>by
   refine ⟨i+1,M2,c2,rfl,by omega,rfl,jab _,fun m=>?_,by simpa using k3,fun j hj=>by rw [jaa om,k4 j hj]⟩
   rw [hM2,htk,List.map_append]
   by_cases e:m=x1
   ·subst e
    rw [zG rfl,zG Zd,y2,y3]
   ·rw [zF om,k2]
    have:(m∈List.map (fun x=>x.1) (List.take i P)++List.map (fun x=>x.1) [(x1,xa,xb)])↔m∈List.map (fun x=>x.1) (List.take i P):=by simp [e]
    simp only [this]
  generalize flI xa xb (rdyS ws x1)=fv at e2 L
  cases xa<;>cases xb<;>simp only [ja8,evI] at e2 c1
  all_goals
   repeat' (first|refine qxy ?_|(refine zsp ?_ ?_<;>intro _)|fail)
   refine Ops.mputI rfl rfl rfl k1 fun M2 c2 hM2=>?_
   repeat' (first|refine qxy ?_|(refine zsp ?_ ?_<;>intro _)|fail)
   rw [hi1]
   exact ih (Q.length-(i+1)) om _ _ (L M2 c2 hM2)
end
def repP (P:List AskP):List (Int × Int):=P.map fun x=>((x.1:Int),ja8 x.2.1 x.2.2)
theorem andW {a b p q:Bool} (hp:p=true->a=true) (hq:q=true->b=true):IntKind.i64.wrap ((BitVec.ofInt IntKind.i64.bits (ja8 p q) &&& BitVec.ofInt IntKind.i64.bits (ja8 a b)).toNat:Int)=ja8 p q:=by
 cases p<;>cases q<;>cases a<;>cases b<;>first | decide | (exact zM (hp rfl) (by decide)) | (exact zM (hq rfl) (by decide))
section
variable {cl:Nat->Call} (hcl:Sem cl) {d D w s:Nat} {k:Int} {fr fw:Nat->Bool}
include hcl
theorem dr_tail {g:H} {B4 B8 B13 r c:Nat} {M:MI} {m:Int} {p q:Nat->Bool} (hd:6<=d) (g4:g.get B4=some (.cells [.p D 0] false)) (g8:g.get B8=some (.cells [.nils] false)) (g13:g.get B13=some (.cells [.map (some r)] false)) (gr:g.get r=some (.map (esI M) c))
  (hM : ∀ i:Nat,i<96->atI M i=ja8 (p i) (q i)) (hp : ∀ i,p i=true->fr i=true) (hq : ∀ i,q i=true->fw i=true) (hD:g.get D=some (.cells (dw w k fr fw) false)) (l4:B4<g.nx) (l8:B8<g.nx) (l13:B13<g.nx) (lr:r<g.nx) (lD:D<g.nx)
  (n4:B4≠B8) (n13:B13≠B8) (nr:r≠B8) (nD:D≠B8) :
  Run (cl d) fuel c14_5 [] [(4,.p B4 0),(8,.p B8 0),(9,.nils),(10,.i m),(11,.i 0),(13,.p B13 0)] g (Fin c14.res fun v h'=>∃ lv,v = .tup [lv,.nils,.i m,.i 0]/\Row g.nx h' 2 lv (askL p q 96).length (jav (repP (askL p q 96)))/\g.nx<=h'.nx /\ ∀ j,j<g.nx->j≠B8->h'.get j=g.get j):=by
 have q98:(dw w k fr fw)[0+98]?=some (.i 0):=dc_n
 have e1:=jlW hcl (d:=d) (D:=D) (h:=g) om
 have o1:Old g (g.new (.cells [.p D 0] false)):=(ZD g).new
 have x1:(g.new (.cells [.p D 0] false)).get g.nx=some (.cells [.p D 0] false):=jad _
 have xn:(g.new (.cells [.p D 0] false)).nx=g.nx+1:=rfl
 refine Ga ?_
 change Run _ _ _ _ [(4,.p B4 0),(8,.p B8 0),(9,.nils),(10,.i m),(13,.p B13 0),(58,.clo 101 [.p g.nx 0])] _ _
 generalize g.new (.cells [.p D 0] false)=X at o1 x1 xn ⊢
 refine Zz rfl qkp fun LO hLO=>?_
 rw [xn]
 obtain ⟨h',hc,hI⟩:=ji2 hcl (d:=d) (h:=X.new (LO .ready none)) (L:=g.nx+1) (c:=g.nx) (D:=D) (w:=w) (k:=k) (fr:=fr) (fw:=fw) om
  (fun i g'=>i<=96/\(∃ sv,g'.get B8=some (.cells [sv] false)/\Row (g.nx+2) g' 2 sv (askL p q i).length (jav (repP (askL p q i))))/\g'.get g.nx=some (.cells [.p D 0] false)/\g'.get (g.nx+1)=some (LO .ready none)/\g.nx+2<=g'.nx /\ ∀ j,j<g.nx->j≠B8->g'.get j=g.get j)
  (fun i g' z=>⟨z.2.2.1,by rw [z.2.2.2.2.2 D lD nD,hD]⟩)
  (by
   rintro i g' hi hab ⟨pi,pA⟩
   simp only [Bool.or_eq_false_iff] at hab
   have e:askL p q (i+1)=askL p q i:=by
    have h1:p i=false:=by
     cases h:p i
     ·rfl
     ·rw [hp i h] at hab;cases hab.1
    have h2:q i=false:=by
     cases h:q i
     ·rfl
     ·rw [hq i h] at hab;cases hab.2
    simp [askL,h1,h2]
   rw [e]
   exact ⟨by omega,pA⟩)
  (by
   rintro i g' hi hab ⟨pi,⟨sv,p1,pr⟩,p2,p3,p5,p6⟩
   have hlen:=jfO p q i
   have hMi:=hM i hi
   have hand:=andW (hp i) (hq i)
   have pD:g'.get D=some (.cells (dw w k fr fw) false):=by rw [p6 D lD nD,hD]
   have p4':g'.get B4=some (.cells [.p D 0] false):=by rw [p6 B4 l4 n4,g4]
   have p13:g'.get B13=some (.cells [.map (some r)] false):=by rw [p6 B13 l13 n13,g13]
   have pR:g'.get r=some (.map (esI M) c):=by rw [p6 r lr nr,gr]
   have hw:(dw w k fr fw)[0+2+(i:Int).toNat*1]?=some (.i (ja8 (fr i) (fw i))):=by rw [zz];exact dc_f hi om
   have hlt:(i:Int)<96:=by omega
   have e0:askL p q (i+1)=askL p q i++if (p i||q i)=true then [(i,p i,q i)] else []:=rfl
   rw [e0]
   generalize askL p q i=P at pr hlen ⊢
   suffices z : ∃ v' g2,cl (d-1) (.yld (g.nx+1)) [.i (i:Int),.i (ja8 (fr i) (fw i))] g'=some (v',g2)/\(v' = .bool true/\(i+1<=96/\(∃ sv,g2.get B8=some (.cells [sv] false)/\Row (g.nx+2) g2 2 sv (P++if (p i||q i)=true then [(i,p i,q i)] else []).length (jav (repP (P++if (p i||q i)=true then [(i,p i,q i)] else []))))/\g2.get g.nx=some (.cells [.p D 0] false)/\g2.get (g.nx+1)=some (LO .ready none)/\g.nx+2<=g2.nx /\ ∀ j,j<g.nx->j≠B8->g2.get j=g.get j)) by
    obtain ⟨_,g2,e,rfl,z⟩:=z
    exact ⟨g2,e,z⟩
   obtain ⟨cp,⟨asv,rfl⟩,_⟩:=pr.shape
   have gk : ∀ j,j≠g.nx+1->(g'.set (g.nx+1) (LO .busy none)).get j=g'.get j:=fun j hj=>jaa hj
   have b4:=(gk B4 om).trans p4'
   have b8:=(gk B8 om).trans p1
   have b13:=(gk B13 om).trans p13
   have bR:=(gk r om).trans pR
   have bD:=(gk D om).trans pD
   have pr2:Row (g.nx+2) (g'.set (g.nx+1) (LO .busy none)) 2 (.slice asv P.length cp) P.length (jav (repP P)):=pr.keep Zd fun z hz=>by have:=(pr.at_ge hz).1;rw [gk _ om]
   have rb:=fun z hz=>pr.at_ge (q:=z) hz
   refine yl_ hcl om hLO p3 rfl ?_
   clear p4' p1 p13 pR pD g4 g8 g13 gr hD e1 pr hM hp hq
   by_cases hpq:(p i||q i)=true
   ·rw [zG hpq]
    have hne : ¬ ja8 (p i) (q i)=0:=by
     revert hpq
     cases p i<;>cases q i<;>decide
    generalize ja8 (fr i) (fw i)=wv at hand hw ⊢
    refine Ga ?_
    refine Zv ⟨rfl,p3,?_⟩
    refine Ga ?_
    refine Ops.lookI rfl rfl bR ?_
    rw [hMi]
    refine Ga ?_
    rw [hand]
    refine Ga ?_
    refine Ops.push (N:=g.nx+2) (new:=[.i (i:Int),.i (ja8 (p i) (q i))]) rfl rfl rfl rfl om rfl rfl pr2 (by simpa using p5) om om fun v2 g2 row' hx' hz' hk'=>?_
    have hx':g'.nx<=g2.nx:=by simpa using hx'
    have hk2 : ∀ j,j<g.nx+2->g2.get j=(g'.set (g.nx+1) (LO .busy none)).get j:=fun j hj=>hk' j Zc fun e=>by have:=(rb _ e).1;omega
    have hone:=row'.one
    have q8:=(hk2 B8 om).trans b8
    refine zcs rfl rfl hone q8 zP ?_
    refine Ga ?_
    refine Zv ⟨⟨.busy,none,by rw [jaa om,hk2 _ om];exact jab _⟩,rfl,by omega,⟨v2,by rw [jaa om];exact jab _,?_⟩,by rw [jaa om,jaa om,hk2 _ om,gk _ om,p2],jab _,by simp;omega,fun j hj h8=>by rw [jaa om,jaa h8,hk2 _ om,gk _ om,p6 j hj h8]⟩
    have r2:Row (g.nx+2) g2 2 v2 (P++[(i,p i,q i)]).length (jav (repP (P++[(i,p i,q i)]))):=by simpa [repP,jav] using row'
    exact r2.keep Zd fun z hz=>by have:=hz' z hz;simp at this;rw [jaa om,jaa om]
   ·rw [zF hpq,List.append_nil]
    have hz0:ja8 (p i) (q i)=0:=by
     revert hpq
     cases p i<;>cases q i<;>decide
    rw [hz0] at hand hMi
    generalize ja8 (fr i) (fw i)=wv at hand hw ⊢
    refine Ga ?_
    refine Zv ⟨rfl,p3,?_⟩
    refine Ga ?_
    refine Ops.lookI rfl rfl bR ?_
    rw [hMi]
    refine Ga ?_
    rw [hand]
    refine Ga ?_
    refine Zv ⟨⟨.busy,none,jab _⟩,rfl,by omega,⟨_,by rw [jaa om];exact b8,pr2.keep Zd fun z hz=>by have:=(rb z hz).1;rw [jaa om]⟩,by rw [jaa om,gk _ om,p2],jab _,by simpa using p5,fun j hj h8=>by rw [jaa om,gk _ om,p6 j hj h8]⟩)
  ⟨by omega,⟨.nils,by rw [jac om,o1.2 _ l8,g8],by simpa [askL,repP,jav] using Row.nil _ _ _⟩,by rw [jac om,x1],by rw [<- xn,jad],by simp [xn],fun j hj _=>by rw [jac om,o1.2 j hj]⟩
 obtain ⟨_,⟨sv,p1,pr⟩,p2,p3,p5,p6⟩:=hI
 refine ⟨_,_,hc,.normal,p3,?_⟩
 have k8:(h'.kill (g.nx+1)).get B8=some (.cells [sv] false):=by rw [jae om,p1]
 have k4:(h'.kill (g.nx+1)).get B4=some (.cells [.p D 0] false):=by rw [jae om,p6 B4 l4 n4,g4]
 have kD:(h'.kill (g.nx+1)).get D=some (.cells (dw w k fr fw) false):=by rw [jae om,p6 D lD nD,hD]
 have kk : ∀ j,j<g.nx->j≠B8->(h'.kill (g.nx+1)).get j=g.get j:=fun j hj h8=>by rw [jae om,p6 j hj h8]
 have r9:Row (g.nx+2) (h'.kill (g.nx+1)) 2 sv (askL p q 96).length (jav (repP (askL p q 96))):=pr.keep (zr _) fun z hz=>by have:=(pr.at_ge hz).1;rw [jae om]
 have hnx:g.nx+2<=(h'.kill (g.nx+1)).nx:=p5
 have hone:=r9.one
 clear hLO hc p1 p2 p3 pr p6 e1
 generalize h'.kill (g.nx+1)=Z at k8 k4 kD kk r9 hnx ⊢
 refine Ga ?_
 refine zcs rfl rfl hone k8 zP ?_
 refine Ga ?_
 refine End.fin2 (a:=sv) (b := .nils) (l:=[.i m,.i 0]) ?_ ?_
 rotate_left
 ·exact ⟨sv,rfl,(r9.weaken om).keep Zd fun z hz=>by have:=(r9.at_ge hz).1;rw [jaa om],by simp;omega,fun j hj h8=>by rw [jaa h8,kk j hj h8]⟩
 show (match (Z.set B8 (.cells [sv] false)).load1 B8 0,some [V.nils,.i m,.i 0] with | some v,some l=>some (v :: l) | _,_=>none)=_
 rw [jcQ (jab _) rfl]
end
theorem KD.keepz {h h':H} {k:Int} {fr fw:Nat->Bool} {v:V} (a:KD h k fr fw v) (hx:h.nx<=h'.nx) (hk : ∀ t lv z,v = .iface t lv->lv.at?=some z->z<h.nx->h'.get z=h.get z):KD h' k fr fw v:=by
 obtain ⟨hk1,e⟩ | ⟨hk1,lv,e,r⟩:=a
 ·exact .sel hk1 e
 ·refine .pol hk1 lv e ?_
  obtain ⟨ad,c,rfl,g⟩:=r
  refine ⟨ad,c,rfl,fun hl=>?_⟩
  obtain ⟨b,o',cs,ro,rfl,h1,h2,h3⟩:=g hl
  exact ⟨b,o',cs,ro,rfl,zu h1 hx,by rw [hk _ _ b e rfl h1,h2],h3⟩
theorem WB.keepz {h h':H} {w s:Nat} {ow:Nat->Nat} {ro:Nat->Prop} {J:H->Prop} {a:St} (b:WB h w s ow ro J a) (hx:h.nx<=h'.nx) (hk : ∀ j,j<h.nx->ow j≠0\/ro j->h'.get j=h.get j):WB h' w s ow ro J a :=
 ⟨b.W.keep hx fun j hj=>hk j (b.W.lt_of hj) (.inl hj),fun g gx gk=>b.J g (zE hx gx) fun j hj hr=>by rw [gk j (zu hj hx) hr,hk j hj (.inr hr)],b.sep,fun j hj=>zu (b.lt j hj) hx⟩
theorem ST.re {h:H} {ow:Nat->Nat} {ro:Nat->Prop} {sb:Nat} {bs:Option Nat} {X Y:Nat->Prop} {L:List SpX} {o:List Int} (A:ST h ow ro sb bs X L o) (hX : ∀ z,z<h.nx->X z->Y z):ST h ow ro sb bs Y L o:=by
 obtain ⟨v,ov,e1,e2,e3,e4,e5,e6⟩:=A.ex
 exact ⟨A.own,A.bown,⟨v,ov,e1,e2,e3,fun y hy=>(e4 y hy).keep (zr _) (fun z hz hp=>⟨rfl,hp.1,hp.2.1,hX z hz hp.2.2⟩) (fun z hz hp=>⟨rfl,hp.1,hp.2.1,hX z hz hp.2.2⟩),e5,fun hl z hz=>⟨(e6 hl z hz).1,(e6 hl z hz).2.1,hX z (e5.lt hl hz) (e6 hl z hz).2.2⟩⟩,A.few⟩
inductive DP (h h':H) (ws:Ws) (fr fw:Nat->Bool) (v:V):Prop
 | no (m e:Int) (hv:v = .tup [.nils,.nils,.i m,.i e]) (hm:e≠0\/m=3\/m=4)
 | ok (m:Int) (lv:V) (P:List AskP) (hP:P=askL (fun i=>fr i&&inR (rdyS ws i)) (fun i=>fw i&&outR (rdyS ws i)) 96) (hv:v = .tup [lv,.nils,.i m,.i 0]) (h3:m≠3) (h4:m≠4) (r:Row h.nx h' 2 lv P.length (jav (repP P)))
section
variable {cl:Nat->Call} (hcl:Sem cl) {h:H} {D w s:Nat} {ow:Nat->Nat} {ro:Nat->Prop} {J:H->Prop} {a:St} {d i sb:Nat} {wt k:Int} {fv:Bool} {bs:Option Nat} {X:Nat->Prop} {L:List SpX} {o:List Int} {fr fw:Nat->Bool}
include hcl
theorem jlm {N:Nat} (hd:20<=d) (b:WB h w s ow ro J a) (so:StOk a i) (A:ST h ow ro sb bs X L o) (hi:i+sumM L<=N) (hN:N<=900000) (hL:L.length<=2000) (oD:Ow h ow ro D) (nDs:D≠sb) (nDb:bs≠some D)
  (hD:h.get D=some (.cells (dw w k fr fw) false)) (hb:k=1 -> ∀ i,64<=i->(fr i||fw i)=false) (w0:0<=wt) (w1:wt<=18446744073709551615) :
  ∃ v h',cl d (.fn 14) [.p D 0,.p sb 0,.int .u64 wt,.bool fv] h=some (v,h') /\ ∃ ow' L' i' o' a',DP h h' a'.ws fr fw v/\WB h' w s ow' ro J a'/\StOk a' i'/\ST h' ow' ro sb bs X L' o'/\Fs h h' ow ro ow' ro (fun j=>j=sb\/bs=some j)/\i'+sumM L'<=N/\L'.length<=2000:=by
 have lD:=oD.lt
 have q0:(dw w k fr fw)[0+0]?=some (.p w 0):=rfl
 have oX:Old h ((h.new (.cells [.p D 0] false)).new (.cells [.nils] false)):=(ZD h).new.new
 have x4:((h.new (.cells [.p D 0] false)).new (.cells [.nils] false)).get h.nx=some (.cells [.p D 0] false):=qgt
 have x8:((h.new (.cells [.p D 0] false)).new (.cells [.nils] false)).get (h.nx+1)=some (.cells [.nils] false):=qgt
 have xn:((h.new (.cells [.p D 0] false)).new (.cells [.nils] false)).nx=h.nx+2:=rfl
 have fresh : ∀ z,h.nx<=z->ow z=0 /\ ¬ ro z /\ ¬ (z=sb\/bs=some z):=fun z hz=>⟨b.W.top hz,fun e=>by have:=b.lt _ e;omega,fun e=>e.elim (fun e=>by have:=A.own.lt;omega) fun e=>by have:=(A.bown z e).1.lt;omega⟩
 refine aT hcl ?_
 obtain ⟨C8,hC8⟩ : ∃ C,C=c14_8:=⟨_,rfl⟩
 simp only [c14,c14_10,c14_9,<- hC8,yB,yJ]
 refine zab (zac (zcu rfl rfl (zcu rfl rfl (Ops.mv rfl (Ops.mv rfl (Ops.mv rfl (Ops.nil qkp (End.seq ?_))))))))
 change Run _ _ _ _ [(1,.p sb 0),(2,.int .u64 wt),(3,.bool fv),(4,.p h.nx 0),(8,.p (h.nx+1) 0),(9,.nils)] ((h.new (.cells [.p D 0] false)).new (.cells [.nils] false)) _
 generalize (h.new (.cells [.p D 0] false)).new (.cells [.nils] false)=Y at oX x4 x8 xn ⊢
 have xD:Y.get D=some (.cells (dw w k fr fw) false):=by rw [oX.2 _ lD,hD]
 have e0:=jhK hcl (d:=d-1) om xD
 obtain ⟨v,X2,e2,K,Kf,o2⟩:=dr_kernel hcl (d:=d-1) om xD om hb
 have y2:=o2.1
 have hone:v.one=true:=by obtain ⟨_,rfl⟩ | ⟨_,_,rfl,_⟩:=K<;>rfl
 generalize hX:(X2.new (.cells [.nili] false)).set X2.nx (.cells [v] false)=X3
 have o3:Old X2 X3:=by rw [<- hX];exact (ZD X2).new.set (zr _)
 have o13:Old h X3:=(oX.trans o2).trans o3
 have z12:X3.get X2.nx=some (.cells [v] false):=by rw [<- hX];exact jab _
 have z3:=o2.trans o3
 have z4:X3.get h.nx=some (.cells [.p D 0] false):=by rw [z3.2 _ om,x4]
 have z8:X3.get (h.nx+1)=some (.cells [.nils] false):=by rw [z3.2 _ om,x8]
 have zD:X3.get D=some (.cells (dw w k fr fw) false):=by rw [o13.2 _ lD,hD]
 have l3:X3.nx=X2.nx+1:=by rw [<- hX];rfl
 have K3:=K.keep o3
 have b3:=b.old o13
 have A3:=(A.re (Y:=fun z=>X z/\z<h.nx) fun z hz hx=>⟨hx,hz⟩).tail o13
 have gF : ∀ (g:H) (ow1:Nat->Nat),Fs X3 g ow ro ow1 ro (fun j=>j=sb\/bs=some j)->(∀ z,z<X3.nx->h.nx<=z\/z=D->g.get z=X3.get z):=fun g ow1 f z hz hzz=>by
  rcases hzz with q | rfl
  ·obtain ⟨q1,q2,q3⟩:=fresh z q
   exact f.ch.get z hz fun e=>e.elim (fun e=>e q1) fun e=>e.elim q2 q3
  ·exact f.ch.get z hz fun e=>e.elim (fun e=>e oD.o0) fun e=>e.elim oD.r0 fun e=>e.elim nDs nDb
 have gK : ∀ (g:H) (ow1:Nat->Nat),Fs X3 g ow ro ow1 ro (fun j=>j=sb\/bs=some j)->KD g k fr fw v:=fun g ow1 f=>K3.keepz f.ch.nx fun t lv z e hz hl=>gF g ow1 f z hl (.inl (by have:=Kf t lv z e hz;omega))
 obtain ⟨v4,X4,e4,m,ow',L',i',o',a',rfl,b4,so4,A4,f4,hi4,hL4⟩:=te_Sleep hcl (d:=d-1) (cf:=47) (cap:=[.p X2.nx 0,.p h.nx 0]) (fv:=fv) (wt:=wt) om b3 so A3 hi hN hL
  (fun g ow1 a1 i1 f bb ss=>dr_hold hcl (d:=d-1-1) om bb.W ss.K.ok (gK g ow1 f) (by rw [gF g ow1 f _ om (.inl om),z12]) (by rw [gF g ow1 f _ om (.inl om),z4]) (by rw [gF g ow1 f _ (by have:=o13.1;omega) (.inr rfl),zD])) w0 w1
 have k4:X4.get h.nx=some (.cells [.p D 0] false):=by rw [gF _ _ f4 _ om (.inl om),z4]
 have k8:X4.get (h.nx+1)=some (.cells [.nils] false):=by rw [gF _ _ f4 _ om (.inl om),z8]
 have kD:X4.get D=some (.cells (dw w k fr fw) false):=by rw [gF _ _ f4 _ (by have:=o13.1;omega) (.inr rfl),zD]
 have k12:X4.get X2.nx=some (.cells [v] false):=by rw [gF _ _ f4 _ om (.inl om),z12]
 have K4:=gK _ _ f4
 have y5:=f4.ch.nx
 have ff:Fs h X4 ow ro ow' ro (fun j=>j=sb\/bs=some j):=(Fs.old (S:=fun j=>j=sb\/bs=some j) o13).trans f4 fun _ _ e=>e
 have done : ∀ (Z:H) (r:V),X4.nx<=Z.nx->(∀ j,j<X4.nx->j≠h.nx+1->Z.get j=X4.get j)->DP h Z a'.ws fr fw r -> ∃ ow' L' i' o' a',DP h Z a'.ws fr fw r/\WB Z w s ow' ro J a'/\StOk a' i'/\ST Z ow' ro sb bs X L' o'/\Fs h Z ow ro ow' ro (fun j=>j=sb\/bs=some j)/\i'+sumM L'<=N/\L'.length<=2000:=fun Z r zx zk zd=>by
  obtain ⟨t0,r1,s1⟩:=fresh (h.nx+1) om
  have t1:ow' (h.nx+1)=0:=by rw [f4.tag _ om];exact t0
  have fz:Fs X4 Z ow' ro ow' ro (fun j=>j=h.nx+1):=⟨⟨zx,fun j hj hn=>zk j hj fun e=>hn (.inr (.inr e))⟩,fun _ _=>rfl,fun _ _=>Iff.rfl⟩
  exact ⟨ow',L',i',o',a',zd,b4.keepz zx fun j hj hq=>zk j hj fun e=>hq.elim (fun q=>q (e ▸ t1)) fun q=>r1 (e ▸ q),so4,(A4.fs fz (fun e=>s1 (.inl e.symm)) (fun z hz e=>s1 (.inr (e ▸ hz))) fun z hz e=>by have:=hz.2;omega).re fun z _ hz=>hz.1,ff.trans fz fun j hj e=>by omega,hi4,hL4⟩
 have hn1:h.nx+1<X4.nx:=by omega
 have W4:=b4.W
 have oK:=so4.K.ok
 clear b A b3 A3 b4 A4 so so4 f4 ff hi hi4 hL hL4 gF gK K K3 fresh o13 o2 o3 oX z3 hD xD x8 z8 z12 oD
 refine qm ?_
 refine zcs (l:=[.nili]) rfl rfl hone (jad _) zP ?_
 change Ops _ _ _ _ _ _ _ ((X2.new (.cells [.nili] false)).set X2.nx (.cells [v] false)) _
 rw [hX]
 subst hC8
 obtain ⟨C6,hC6⟩ : ∃ C,C=c14_6:=⟨_,rfl⟩
 simp only [c14_8,c14_7,<- hC6,yB,yF]
 have hk8 : ∀ (r:V),(X4.set (h.nx+1) (.cells [r] false)).nx=X4.nx /\ ∀ j,j<X4.nx->j≠h.nx+1->(X4.set (h.nx+1) (.cells [r] false)).get j=X4.get j:=fun r=>⟨rfl,fun j _ hj=>jaa hj⟩
 by_cases hm:m=3\/m=4
 ·have F:=done (X4.set (h.nx+1) (.cells [.nils] false)) (.tup [.nils,.nils,.i m,.i 0]) Zd (fun j _ hj=>jaa hj) (.no m 0 rfl (.inr hm))
  clear done
  rcases hm with rfl | rfl
  all_goals
   repeat' (first|refine qsy ?_|(refine zsp ?_ ?_<;>intro _)|fail)
   refine End.fin2 (a := .nils) (b := .nils) ?_ F
   show (match (X4.set (h.nx+1) (.cells [.nils] false)).load1 (h.nx+1) 0,some _ with | some v,some l=>some (v :: l) | _,_=>none)=_
   rw [jcQ (jab _) rfl]
 obtain ⟨h3,h4⟩:m≠3/\m≠4:=⟨fun e=>hm (.inl e),fun e=>hm (.inr e)⟩
 clear hm
 refine Ga ?_
 subst hC6
 obtain ⟨C5,hC5⟩ : ∃ C,C=c14_5:=⟨_,rfl⟩
 simp only [c14_6,<- hC5,uF]
 clear e0 e2 e4
 refine zab (Run.region1 fun HR oR xR=>?_)
 have r12:HR.get X2.nx=some (.cells [v] false):=by rw [oR.2 _ om,k12]
 have r4:HR.get h.nx=some (.cells [.p D 0] false):=by rw [oR.2 _ om,k4]
 have rD:HR.get D=some (.cells (dw w k fr fw) false):=by rw [oR.2 _ om,kD]
 have T : ∀ (Y5:H) (mm:Option Nat) (e:Int),Old HR Y5->TD HR.nx Y5 a'.ws fr fw (.tup [.map mm,.i e])->Run (cl (d-1)) fuel C5 [] [(4,.p h.nx 0),(8,.p (h.nx+1) 0),(9,.nils),(10,.i m),(11,.i e),(13,.p (X4.nx+0) 0)] ((Y5.set (X4.nx+0) (.cells [.map none] false)).set (X4.nx+0) (.cells [.map mm] false)) (Fin c14.res fun v h'=>∃ ow' L' i' o' a',DP h h' a'.ws fr fw v/\WB h' w s ow' ro J a'/\StOk a' i'/\ST h' ow' ro sb bs X L' o'/\Fs h h' ow ro ow' ro (fun j=>j=sb\/bs=some j)/\i'+sumM L'<=N/\L'.length<=2000):=fun Y5 mm e o5 td=>by
  have oR5:=oR.trans o5
  have x5:=oR5.1
  have x6:=o5.1
  have gY : ∀ j,j≠X4.nx->((Y5.set (X4.nx+0) (.cells [.map none] false)).set (X4.nx+0) (.cells [.map mm] false)).get j=Y5.get j:=fun j hj=>by rw [jaa om,jaa om]
  have g13:((Y5.set (X4.nx+0) (.cells [.map none] false)).set (X4.nx+0) (.cells [.map mm] false)).get (X4.nx+0)=some (.cells [.map mm] false):=jab _
  have gx:((Y5.set (X4.nx+0) (.cells [.map none] false)).set (X4.nx+0) (.cells [.map mm] false)).nx=Y5.nx:=rfl
  generalize (Y5.set (X4.nx+0) (.cells [.map none] false)).set (X4.nx+0) (.cells [.map mm] false)=G at gY g13 gx ⊢
  have gX : ∀ j,j<X4.nx->G.get j=X4.get j:=fun j hj=>by rw [gY j om,oR5.2 j hj]
  have g8:=(gX _ hn1).trans k8
  rw [hC5]
  obtain ⟨e',hv,he⟩ | ⟨r,c,M,hv,nr,lr,hr,hM⟩:=td
  ·cases hv
   have F:=done (G.set (h.nx+1) (.cells [.nils] false)) (.tup [.nils,.nils,.i 0,.i e]) (by show X4.nx<=G.nx;omega) (fun j hj h8=>by rw [jaa h8,gX j hj]) (.no 0 e rfl (.inl he))
   clear done
   refine Gb ?_
   refine End.fin2 (a := .nils) (b := .nils) ?_ F
   show (match (G.set (h.nx+1) (.cells [.nils] false)).load1 (h.nx+1) 0,some _ with | some v,some l=>some (v :: l) | _,_=>none)=_
   rw [jcQ (jab _) rfl]
  ·cases hv
   refine Run.fin_mono (dr_tail hcl (d:=d-1) (k:=k) (fr:=fr) (fw:=fw) (w:=w) (D:=D) (r:=r) (c:=c) (M:=M) (m:=m) (p:=fun i=>fr i&&inR (rdyS a'.ws i)) (q:=fun i=>fw i&&outR (rdyS a'.ws i)) om ((gX _ om).trans k4) g8 g13 (by rw [gY r om,hr]) hM
    (fun i hi=>by simp only [zq] at hi;exact hi.1) (fun i hi=>by simp only [zq] at hi;exact hi.1) ((gX _ om).trans kD) om om om om om om om om om) fun v' Z z=>?_
   obtain ⟨lv,rfl,z2,z3,z4⟩:=z
   exact done Z _ om (fun j hj h8=>by rw [z4 j om h8,gX j hj]) (.ok m lv _ rfl rfl h3 h4 (z2.weaken om))
 clear done
 obtain ⟨hk,rfl⟩ | ⟨hk,lv,rfl,r⟩:=K4
 ·obtain ⟨tv,X5,e5,td,o5⟩:=dr_stold hcl (d:=d-1) (fr:=fr) (fw:=fw) om (W4.old oR) oK (hb hk)
  obtain ⟨mm,e,rfl⟩ : ∃ mm e,tv = .tup [.map mm,.i e]:=by
   obtain ⟨e',hv,_⟩ | ⟨r,c,M,hv,_⟩:=td
   ·exact ⟨_,_,hv⟩
   ·exact ⟨_,_,hv⟩
  have T5:=T X5 mm e o5 td
  clear T td
  refine Ga ?_
  refine Ops.invk rfl rfl rfl e5 ?_
  refine Ga ?_
  refine Ops.make_at rfl rfl ?_
  refine zcs rfl rfl rfl (jab _) zP ?_
  refine Ga ?_
  exact T5
 ·obtain ⟨tv,X5,e5,td,o5⟩:=dr_ltold hcl (d:=d-1) (fr:=fr) (fw:=fw) om (W4.old oR) oK (r.keep oR)
  obtain ⟨mm,e,rfl⟩ : ∃ mm e,tv = .tup [.map mm,.i e]:=by
   obtain ⟨e',hv,_⟩ | ⟨r,c,M,hv,_⟩:=td
   ·exact ⟨_,_,hv⟩
   ·exact ⟨_,_,hv⟩
  have T5:=T X5 mm e o5 td
  obtain ⟨av,cv,rfl,_⟩:=id r
  clear T td
  refine Ga ?_
  refine Ops.invk rfl rfl rfl e5 ?_
  refine Ga ?_
  refine Ops.make_at rfl rfl ?_
  refine zcs rfl rfl rfl (jab _) zP ?_
  refine Ga ?_
  exact T5
end
theorem bv_le38 (x:BitVec 64) (h:x &&& ~~~(38#64)=0#64):x.toNat<=38:=by
 have h5:x &&& 38#64=x:=by
  apply BitVec.eq_of_getElem_eq
  intro i hi
  have:=congrArg (fun y:BitVec 64=>y[i]) h
  simp only [BitVec.getElem_and,BitVec.getElem_not,BitVec.getElem_zero] at this ⊢
  revert this
  cases x[i]<;>cases (38#64)[i]<;>simp
 have e:(x &&& 38#64).toNat=x.toNat:=by rw [h5]
 rw [BitVec.toNat_and] at e
 have:=Nat.and_le_right (n:=x.toNat) (m:=(38#64).toNat)
 rw [e] at this
 exact this
theorem all38 : ∀ k:_root_.Fin 39,(BitVec.ofNat 64 k.val &&& ~~~(38#64)=0#64)->k.val=0\/k.val=2\/k.val=4\/k.val=6\/k.val=32\/k.val=34\/k.val=36\/k.val=38:=by decide
theorem set_bits {n:Int} (h0 : -9223372036854775808<=n) (h1:n<=9223372036854775807) (h:IntKind.i64.wrap ((BitVec.ofInt 64 n &&& ~~~(BitVec.ofInt 64 38)).toNat:Int)=0):n=0\/n=2\/n=4\/n=6\/n=32\/n=34\/n=36\/n=38:=by
 have h2:=jj3 (BitVec.isLt _) h
 have h3:BitVec.ofInt 64 n &&& ~~~(38#64)=0#64:=BitVec.eq_of_toNat_eq (by simpa using h2)
 have hi:(BitVec.ofInt 64 n).toInt=n:=by
  rw [BitVec.toInt_ofInt]
  unfold Int.bmod
  simp
  split<;>omega
 have hle:=bv_le38 _ h3
 have hx:BitVec.ofInt 64 n=BitVec.ofNat 64 (BitVec.ofInt 64 n).toNat:=(fun x:BitVec 64=>(by simp:x=BitVec.ofNat 64 x.toNat)) _
 generalize hm:(BitVec.ofInt 64 n).toNat=m at hle hx
 have q:=all38 ⟨m,by omega⟩ (by rw [<- hx];exact h3)
 have e:n=(m:Int):=by
  rw [<- hi,BitVec.toInt_eq_toNat_cond,hm,zG om]
 simp only at q
 omega
def setF (f:Nat->Bool) (m:Nat) (b:Bool):Nat->Bool:=fun i=>if i=m then b else f i
theorem joa {w:Nat} {k:Int} {fr fw:Nat->Bool} {m:Nat} (a b:Bool):dc w k (put1 (jiA fr fw) m (ja8 a b)) 0=dw w k (setF fr m a) (setF fw m b):=dc_congr fun i _=>by
 show (if i=m then ja8 a b else ja8 (fr i) (fw i))=ja8 (if i=m then a else fr i) (if i=m then b else fw i)
 by_cases e:i=m
 ·rw [zG e,zG e,zG e]
 ·rw [zF e,zF e,zF e]
theorem jkI {k:Int} {fr fw:Nat->Bool} {m:Nat} {a b:Bool} (hb:k=1 -> ∀ i,64<=i->(fr i||fw i)=false) (hm:k=1->64<=m->(a||b)=false):k=1 -> ∀ i,64<=i->(setF fr m a i||setF fw m b i)=false:=fun hk i hi=>by
 unfold setF
 by_cases e:i=m
 ·rw [zG e,zG e];exact hm hk (e ▸ hi)
 ·rw [zF e,zF e];exact hb hk i hi
section
variable {cl:Nat->Call} (hcl:Sem cl) {d D w s:Nat} {h:H} {ow:Nat->Nat} {ws:Ws} {now:Int} {tb:Tb} {no:Option (Nat × Nat)} {k fd n:Int} {fr fw:Nat->Bool}
include hcl
theorem dr_Set (hd:6<=d) (n0 : -9223372036854775808<=n) (n1:n<=9223372036854775807) (a:WSt h w s ow ws now tb no) (o:WsOk ws) (hD:h.get D=some (.cells (dw w k fr fw) false)) (lD:D<h.nx) (hb:k=1 -> ∀ i,64<=i->(fr i||fw i)=false) :
  ∃ v h',cl d (.fn 12) [.p D 0,.i fd,.i n] h=some (v,h') /\ ∃ e fr' fw',v = .i e/\Ch (fun j=>j=D) h h'/\h'.get D=some (.cells (dw w k fr' fw') false)/\(k=1 -> ∀ i,64<=i->(fr' i||fw' i)=false):=by
 have e1:=jhK hcl (d:=d-1) om hD
 have same : ∀ (e:Int) (g:H),Old h g -> ∃ e' fr' fw',V.i e = .i e'/\Ch (fun j=>j=D) h g/\g.get D=some (.cells (dw w k fr' fw') false)/\(k=1 -> ∀ i,64<=i->(fr' i||fw' i)=false):=fun e g og=>⟨e,fr,fw,rfl,og.ch,by rw [og.2 _ lD,hD],hb⟩
 by_cases hf:isFd fd
 case neg=>
  have e2:=ji3 hcl (d:=d-1) (h:=h) om hf
  have S:=same 2 h (ZD h)
  refine aT hcl ?_
  clear a o same hb
  refine Ga ?_
  exact S
 have e2:=jjn hcl (d:=d-1) (h:=h) om hf
 by_cases hz:IntKind.i64.wrap ((BitVec.ofInt IntKind.i64.bits n &&& ~~~(BitVec.ofInt IntKind.i64.bits 38)).toNat:Int)=0
 case neg=>
  have S:=same 2 h (ZD h)
  refine aT hcl ?_
  clear a o same hb
  refine Ga ?_
  exact S
 have hn:=set_bits n0 n1 hz
 clear hz n0 n1
 obtain ⟨f0,f1⟩:=id hf
 have q98:(dw w k fr fw)[0+98]?=some (.i 0):=dc_n
 have ne : ¬ fd+1=0:=by omega
 obtain ⟨h1,e3,o1⟩:=dp_may hcl (d:=d-1) (fd:=fd) om a o hD lD
 have hD1:h1.get D=some (.cells (dw w k fr fw) false):=by rw [o1.2 D lD,hD]
 have hl:0+2+fd.toNat*1<(dw w k fr fw).length:=by show _<(dc w k (jiA fr fw) 0).length;rw [jod];omega
 have put : ∀ a b:Bool,(mayD ws k fd=0) -> ∃ e' fr' fw',V.i 0 = .i e'/\Ch (fun j=>j=D) h (h1.set D (.cells ((dw w k fr fw).set (0+2+fd.toNat*1) (.i (ja8 a b))) false))/\(h1.set D (.cells ((dw w k fr fw).set (0+2+fd.toNat*1) (.i (ja8 a b))) false)).get D=some (.cells (dw w k fr' fw') false)/\(k=1 -> ∀ i,64<=i->(fr' i||fw' i)=false):=fun a b hm=>by
  refine ⟨0,setF fr fd.toNat a,setF fw fd.toNat b,rfl,o1.ch.trans (Ch.set rfl),?_,jkI hb fun hk h64=>?_⟩
  ·rw [joN (i:=fd.toNat) om om,joa];exact jab _
  ·exfalso
   unfold mayD at hm
   split at hm
   ·omega
   ·rw [zG ⟨hk,by omega⟩] at hm;omega
 have forget : ∃ e' fr' fw',V.i 0 = .i e'/\Ch (fun j=>j=D) h (h.set D (.cells (dc w k (put1 (jiA fr fw) fd.toNat 0) 0) false))/\(h.set D (.cells (dc w k (put1 (jiA fr fw) fd.toNat 0) 0) false)).get D=some (.cells (dw w k fr' fw') false)/\(k=1 -> ∀ i,64<=i->(fr' i||fw' i)=false) :=
  ⟨0,setF fr fd.toNat false,setF fw fd.toNat false,rfl,Ch.set rfl,by rw [<- joa];exact jab _,jkI hb fun _ _=>rfl⟩
 have e4:=jkv hcl (d:=d-1) om hD hf
 have S1:=fun e=>same e h1 o1
 have S0:=same 2 h (ZD h)
 clear a o same hb
 generalize mayD ws k fd=m at e3 put
 refine aT hcl ?_
 rcases hn with rfl | rfl | rfl | rfl | rfl | rfl | rfl | rfl
 ·clear put S1 e3
  refine Ga ?_
  exact forget
 case inr.inr.inr.inr.inl=>
  clear put S1 e3 e4
  refine Ga ?_
  exact S0
 all_goals
  by_cases hm:m=0
  ·subst hm
   have P1:=put true false rfl
   have P2:=put false true rfl
   have P3:=put true true rfl
   have S:=S1 191
   clear put S1 forget e4
   repeat' (first|refine qxy ?_|(refine zsp ?_ ?_<;>intro _)|fail)
   first
    | exact S
    | (refine zcs rfl rfl rfl hD1 hl ?_
       repeat' (first|refine qxy ?_|(refine zsp ?_ ?_<;>intro _)|fail)
       first | exact P1 | exact P2 | exact P3)
  ·have S:=S1 m
   clear put S1 forget e4
   repeat' (first|refine qxy ?_|(refine zsp ?_ ?_<;>intro _)|fail)
   exact S
end
theorem StOk.mono {st:St} {i j:Nat} (o:StOk st i) (h:i<=j):StOk st j:=⟨o.K,o.nt,o.now,o.tb.mono om⟩
structure BX2 (h0 h:H) (p w s rw:Nat) (ow:Nat->Nat) (ro:Nat->Prop) (a r:St) (i j:Nat):Prop where
 b:BB h p w s rw ow ro (fun j=>j<h0.nx) a r
 so:StOk a i
 sq:StOk r j
 old:Old h0 h
 own : ∀ j,ow j≠0\/ro j->h0.nx<=j
abbrev roB (h0:H) (p:Nat) (ro:Nat->Prop):Nat->Prop:=fun z=>ro z\/z<h0.nx\/z=p
abbrev JB (h0:H) (p w rw:Nat) (ro:Nat->Prop) (r:St):H->Prop:=fun g=>(∃ l,RO g ro (fun j=>j<h0.nx) rw l r.tl/\l.map RX.x=r.ws)/\g.get p=some (.cells [.p w 0,.p rw 0] false) /\ ∀ j,j<h0.nx->g.get j=h0.get j
section
variable {h0 h h':H} {p w s rw i j:Nat} {ow ow':Nat->Nat} {ro ro':Nat->Prop} {a a' r r' st:St}
theorem BX.two (x:BX h0 h p w s rw ow ro st i):BX2 h0 h p w s rw ow ro st st i i:=⟨x.b,x.so,x.so,x.old,x.own⟩
theorem BX2.fm {i' j':Nat} (x:BX2 h0 h p w s rw ow ro a r i j) (b:BB h' p w s rw ow' ro' (fun j=>j<h0.nx) a' r') (f:Fm h h' ow ro ow' ro') (so:StOk a' i') (sq:StOk r' j'):BX2 h0 h' p w s rw ow' ro' a' r' i' j':=by
 refine ⟨b,so,sq,joB x.old f x.own,fun j hj=>?_⟩
 rcases zA j h.nx with h1 | h1
 ·rw [f.tag j h1,f.rtag j h1] at hj
  exact x.own j hj
 ·exact zE x.old.1 h1
theorem BX2.old' (x:BX2 h0 h p w s rw ow ro a r i j) (o:Old h h'):BX2 h0 h' p w s rw ow ro a r i j:=x.fm (x.b.old o) (Fm.old o) x.so x.sq
theorem BX2.turn (x:BX2 h0 h p w s rw ow ro a r i j) {D:Nat} (oD:Ow h ow (roB h0 p ro) D) (c:Ch (fun j=>j=D) h h'):BX2 h0 h' p w s rw ow ro a r i j where
 b:=x.b.off c.nx fun z hz ho=>c.get z hz fun e=>by
  subst e
  rcases ho with ho | ho | ho | ho
  ·exact ho oD.o0
  ·exact oD.r0 (.inl ho)
  ·exact oD.r0 (.inr (.inl ho))
  ·exact oD.r0 (.inr (.inr ho))
 so:=x.so
 sq:=x.sq
 old:=⟨zE x.old.1 c.nx,fun z hz=>by rw [c.get z (zu hz x.old.1) fun e=>oD.r0 (.inr (.inl (e ▸ hz))),x.old.2 z hz]⟩
 own:=x.own
theorem BX2.wb (x:BX2 h0 h p w s rw ow ro a r i j):WB h w s ow (roB h0 p ro) (JB h0 p w rw ro r) a where
 W:=x.b.W
 J:=fun g gx gk=>by
  obtain ⟨l,R,e⟩:=x.b.R
  exact ⟨⟨l,R.keep gx fun j hj=>gk j (R.lt j hj) (hj.imp id .inl),e⟩,by rw [gk p x.b.lp (.inr (.inr rfl)),x.b.hp],fun j hj=>by rw [gk j (zu hj x.old.1) (.inr (.inl hj)),x.old.2 j hj]⟩
 sep:=fun j hj=>by
  rcases hj with hj | hj | rfl
  ·exact x.b.sep j (.inl hj)
  ·exact x.b.sep j (.inr hj)
  ·exact x.b.op
 lt:=fun j hj=>by
  rcases hj with hj | hj | rfl
  ·exact x.b.ro_lt (.inl hj)
  ·exact x.b.ro_lt (.inr hj)
  ·exact x.b.lp
theorem BX2.of_wb {S:Nat->Prop} {i':Nat} (x:BX2 h0 h p w s rw ow ro a r i j) (B:WB h' w s ow' (roB h0 p ro) (JB h0 p w rw ro r) a') (so':StOk a' i') (f:Fs h h' ow (roB h0 p ro) ow' (roB h0 p ro) S):BX2 h0 h' p w s rw ow' ro a' r i' j:=by
 obtain ⟨R,hp,ho⟩:=B.J h' (zr _) (fun _ _ _=>rfl)
 refine ⟨⟨B.W,R,hp,zu x.b.lp f.ch.nx,fun j hj=>B.sep j (hj.imp id .inl),B.sep p (.inr (.inr rfl)),x.b.rp⟩,so',x.sq,⟨zE x.old.1 f.ch.nx,ho⟩,fun j hj=>?_⟩
 rcases zA j h.nx with h1 | h1
 ·rw [f.tag j h1] at hj
  exact x.own j hj
 ·exact zE x.old.1 h1
theorem Fs.of_fmB {S:Nat->Prop} (f:Fm h h' ow ro ow' ro'):Fs h h' ow (roB h0 p ro) ow' (roB h0 p ro') S :=
 ⟨f.ch.weaken fun _ _ hb=>hb.elim .inl fun hb=>.inr (.inl (.inl hb)),f.tag,fun z hz=>or_congr (f.rtag z hz) Iff.rfl⟩
variable {cl:Nat->Call} (hcl:Sem cl)
include hcl
theorem joO {d:Nat} {x:OpX} (hd:16<=d) (b:BX2 h0 h p w s rw ow ro a r i j) (hi:i<=900000) (hj:j<=900000) (hx:OpOk h0 x) (hl:x.D.length<=300) :
  ∃ y h' ow' ro',cl d (.fn 9) [.p p 0,.agg x.V] h=some (.bool y,h')/\BX2 h0 h' p w s rw ow' ro' (doS x.k x.a x.n x.t x.D a) (doS x.k x.a x.n x.t x.D r) (i+1) (j+1)/\Fm h h' ow ro ow' ro':=by
 have hD:Dat h (fun j=>j<h0.nx) x.dv x.D:=by
  have:=hx.dat hl
  exact ⟨this.v.keep2 b.old.1 fun hn z hz=>b.old.2 z (this.z hn z hz),this.z,hl⟩
 obtain ⟨y,h',ow',ro',e,b',f⟩:=do_any hcl (k:=x.k) (a:=x.a) (n:=x.n) (t:=x.t) hd b.b (b.so.mono (Nat.le_max_left i j)) (b.sq.mono (Nat.le_max_right i j)) om hD hx.t0 hx.t1
 exact ⟨y,h',ow',ro',e,b.fm b' f (joc b.so hx.t0 hx.t1) (joc b.sq hx.t0 hx.t1),f⟩
end
structure LI (h0 g:H) (p w s rw sb:Nat) (bs:Option Nat) (D:Nat) (k:Int) (n:Nat) (ow:Nat->Nat) (ro:Nat->Prop) (a r:St) (i j:Nat) (L:List SpX) (o:List Int) (fr fw:Nat->Bool):Prop where
 b:BX2 h0 g p w s rw ow ro a r i j
 A:ST g ow (roB h0 p ro) sb bs (fun z=>z≠D) L o
 oD:Ow g ow (roB h0 p ro) D
 nDs:D≠sb
 nDb:bs≠some D
 gD:g.get D=some (.cells (dw w k fr fw) false)
 hb:k=1 -> ∀ i,64<=i->(fr i||fw i)=false
 hi:i+sumM L<=n
 hj:j<=n
 hL:L.length<=2000
def LE (h0 g:H) (p w s rw sb:Nat) (bs:Option Nat) (D:Nat) (k:Int) (n:Nat):Prop := ∃ ow ro a r i j L o fr fw,LI h0 g p w s rw sb bs D k n ow ro a r i j L o fr fw
section
variable {h0 g g':H} {p w s rw sb D n i j:Nat} {bs:Option Nat} {k:Int} {ow ow':Nat->Nat} {ro ro':Nat->Prop} {a a' r r':St} {L:List SpX} {o:List Int} {fr fw fr' fw':Nat->Bool}
theorem LI.turn (x:LI h0 g p w s rw sb bs D k n ow ro a r i j L o fr fw) (c:Ch (fun j=>j=D) g g') (hD:g'.get D=some (.cells (dw w k fr' fw') false)) (hb:k=1 -> ∀ i,64<=i->(fr' i||fw' i)=false):LI h0 g' p w s rw sb bs D k n ow ro a r i j L o fr' fw':=by
 have f:Fs g g' ow (roB h0 p ro) ow (roB h0 p ro) (fun j=>j=D):=⟨c.weaken fun _ _ e=>.inr (.inr e),fun _ _=>rfl,fun _ _=>Iff.rfl⟩
 exact ⟨x.b.turn x.oD c,x.A.fs f (fun e=>x.nDs e.symm) (fun z hz e=>x.nDb (e ▸ hz)) (fun z hz e=>hz e),x.oD.fs f,x.nDs,x.nDb,hD,hb,x.hi,x.hj,x.hL⟩
theorem LI.old' (x:LI h0 g p w s rw sb bs D k n ow ro a r i j L o fr fw) (c:Old g g'):LI h0 g' p w s rw sb bs D k n ow ro a r i j L o fr fw :=
 ⟨x.b.old' c,x.A.tail c,x.oD.fs (Fs.old (S:=fun _=>False) c),x.nDs,x.nDb,by rw [c.2 D x.oD.lt,x.gD],x.hb,x.hi,x.hj,x.hL⟩
theorem LI.doneB (x:LI h0 g p w s rw sb bs D k n ow ro a r i j L o fr fw) (b:BX2 h0 g' p w s rw ow' ro' a' r' (i+1) (j+1)) (f:Fm g g' ow ro ow' ro'):LI h0 g' p w s rw sb bs D k (n+1) ow' ro' a' r' (i+1) (j+1) L o fr fw:=by
 have f':Fs g g' ow (roB h0 p ro) ow' (roB h0 p ro') (fun _=>False):=Fs.of_fmB f
 exact ⟨b,x.A.fs f' (fun e=>e) (fun _ _ e=>e) fun _ _ e=>e,x.oD.fs f',x.nDs,x.nDb,by rw [f'.getw x.oD fun e=>e,x.gD],x.hb,by have:=x.hi;omega,by have:=x.hj;omega,x.hL⟩
theorem LI.wake {L':List SpX} {o':List Int} {i':Nat} (x:LI h0 g p w s rw sb bs D k n ow ro a r i j L o fr fw) (B:WB g' w s ow' (roB h0 p ro) (JB h0 p w rw ro r) a') (so':StOk a' i') (A:ST g' ow' (roB h0 p ro) sb bs (fun z=>z≠D) L' o')
  (f:Fs g g' ow (roB h0 p ro) ow' (roB h0 p ro) (fun j=>j=sb\/bs=some j)) (hi:i'+sumM L'<=n) (hL:L'.length<=2000):LI h0 g' p w s rw sb bs D k n ow' ro a' r i' j L' o' fr fw :=
 ⟨x.b.of_wb B so' f,A,x.oD.fs f,x.nDs,x.nDb,by rw [f.getw x.oD fun e=>e.elim x.nDs x.nDb,x.gD],x.hb,hi,x.hj,hL⟩
theorem LI.le (x:LI h0 g p w s rw sb bs D k n ow ro a r i j L o fr fw):LE h0 g p w s rw sb bs D k n:=⟨_,_,_,_,_,_,_,_,_,_,x⟩
theorem LI.le1 (x:LI h0 g p w s rw sb bs D k n ow ro a r i j L o fr fw):LE h0 g p w s rw sb bs D k (n+1):=⟨_,_,_,_,_,_,_,_,_,_,⟨x.b,x.A,x.oD,x.nDs,x.nDb,x.gD,x.hb,Nat.le_succ_of_le x.hi,Nat.le_succ_of_le x.hj,x.hL⟩⟩
theorem LE.old' (x:LE h0 g p w s rw sb bs D k n) (c:Old g g'):LE h0 g' p w s rw sb bs D k n:=by
 obtain ⟨_,_,_,_,_,_,_,_,_,_,x⟩:=x
 exact (x.old' c).le
end
theorem jlH {h:H} : ∀ {l:List Int} {cs:List V},jbq (jbM .i64) h l cs->cs=ints l
 | [],_,e=>e
 | x :: l,_,⟨u,w,e,h1,h2⟩=>by
  obtain ⟨rfl,_⟩:=h1
  rw [e,jlH h2];rfl
theorem ints_of {h:H} {l:List Int} {u:V} (r:jb0 60 (jbM .i64) h l [u]):(∃ ad c,u = .slice ad l.length c)/\(l.length<=60->VI h u l/\(l≠[] -> ∀ z,u.at?=some z->z<h.nx)):=by
 obtain ⟨a,c,e,h1,h2,h3⟩:=r
 cases e
 refine ⟨⟨a,_,rfl⟩,fun hB=>⟨⟨a,.fix c,rfl,fun e=>?_,h2,fun hn=>?_⟩,fun hn z hz=>?_⟩⟩
 ·obtain ⟨rfl,rfl⟩:=h3 e;exact ⟨rfl,rfl⟩
 ·obtain ⟨b,cs,q1,q2,q3,q4⟩:=h1 hB hn
  exact ⟨b,0,cs,true,q1,q2,q3,fun i x hi=>by rw [jlH q4,zS];simp [hi]⟩
 ·obtain ⟨b,cs,rfl,q2,q3,q4⟩:=h1 hB hn
  cases hz;exact q2
theorem mvs4_of {h:H} {l:List (Int × Int × Int × List Int × Unit)} {u:V} (r:jb0 60 joX h l [u]) : ∃ L:List MvX,L.length=l.length/\jon 60 h u L/\(L.length<=60->At4 h (· < h.nx) MvX.V u L):=by
 obtain ⟨ad,c,e,h1,h2,h3⟩:=r
 cases e
 by_cases hl:l.length<=60
 ·by_cases hn:l=[]
  ·subst hn
   exact ⟨[],rfl,⟨⟨ad,.fix c,rfl⟩,fun _=>⟨fun x hx=>(by cases hx),ad,.fix c,rfl,fun e=>zM rfl e⟩⟩,fun _=>⟨ad,.fix c,rfl,fun e=>⟨by rw [(h3 e).1],rfl⟩,Zm _,fun e=>zM rfl e⟩⟩
  ·obtain ⟨b,cs,rfl,q1,q2,q3⟩:=h1 hl hn
   obtain ⟨L,l1,rfl,l3⟩:=jnL q3
   exact ⟨L,l1,⟨⟨_,.fix c,by rw [l1]⟩,fun _=>⟨l3,_,.fix c,by rw [l1],fun _=>⟨b,_,true,rfl,q1,q2,jfC (fun _=>rfl) L,fun i x hx=>jcI (fun _=>rfl) hx⟩⟩⟩,fun _=>⟨_,.fix c,by rw [l1],fun e=>(by cases e),by show L.length<=c;omega,fun _=>⟨b,0,_,true,rfl,q1,q1,q2,fun i x hx=>by rw [zS];exact jcI (fun _=>rfl) hx⟩⟩⟩
 ·exact ⟨List.replicate l.length ⟨⟨0,0,0,[]⟩,.nils⟩,by simp,⟨⟨ad,.fix c,by simp⟩,fun hl'=>zM (by simpa using hl') hl⟩,fun hl'=>zM (by simpa using hl') hl⟩
abbrev joU:H->Int × Bool × List Int × List (Int × Int × Int × List Int × Unit) × Unit->List V->Prop:=jbw (jbM .u64) (jbw jkP (jbw (jb0 60 (jbM .i64)) (jbw (jb0 60 joX) jjJ)))
def SpIn (h:H) (x:SpX):Prop:=SpOk h x/\(x.ml.length<=60->x.ol.length<=60->(∀ m∈x.ml,m.m.D.length<=1100)->StepAt h (· < h.nx) (· < h.nx) x)
theorem jny {h:H} : ∀ {l:List (Int × Bool × List Int × List (Int × Int × Int × List Int × Unit) × Unit)} {cs:List V},jbq joU h l cs -> ∃ L:List SpX,L.length=l.length/\cs=(L.map SpX.V).flatten /\ ∀ x∈L,SpIn h x
 | [],_,e=>⟨[],rfl,e,fun x hx=>by cases hx⟩
 | y :: l,_,⟨u,w,e,h1,h2⟩=>by
  obtain ⟨L,l1,l2,l3⟩:=jny h2
  obtain ⟨_,_,rfl,⟨rfl,t0,t1⟩,_,_,rfl,hb,u3,w3,rfl,r3,u4,w4,rfl,r4,hw⟩:=h1
  obtain rfl:_=_:=hb
  obtain rfl:w4=[]:=hw
  have ⟨a3,c3,e3,_⟩:=r3
  have ⟨a4,c4,e4,_⟩:=r4
  subst e3 e4
  obtain ⟨i1,i2⟩:=ints_of r3
  obtain ⟨M,m1,m2,m3⟩:=mvs4_of r4
  refine ⟨⟨y.1,y.2.1,y.2.2.1,.slice a3 y.2.2.1.length (.fix c3),M,.slice a4 y.2.2.2.1.length (.fix c4)⟩ :: L,by simp [l1],by rw [e,l2];rfl,fun x hx=>?_⟩
  rcases Zn.1 hx with rfl | hx
  ·refine ⟨⟨⟨i1,fun hl=>(i2 hl).1⟩,m2,t0,t1⟩,fun hm ho hd=>⟨⟨(i2 ho).1,(i2 ho).2⟩,m3 hm,fun m hmm=>?_,t0,t1⟩⟩
   obtain ⟨a,c,e,g⟩:=(m2.2 hm).1 m hmm
   have hB:=g (hd m hmm)
   have hv:VB h m.dv m.m.D:=⟨a,c,e,hB⟩
   exact ⟨hv,fun hn z hz=>hv.lt hn hz⟩
  ·exact l3 x hx
theorem jnv : ∀ {l l':List SpX},l.map SpX.sp=l'.map SpX.sp->sumM l=sumM l'
 | [],[],_=>rfl
 | x :: l,y :: l',h=>by
  simp only [List.map_cons,List.cons.injEq] at h
  have h1:x.ml.length=y.ml.length:=by have:=congrArg (fun s=>s.moves.length) h.1;simpa [SpX.sp] using this
  show x.ml.length+sumM l=y.ml.length+sumM l'
  rw [h1,jnv h.2]
 | [],y :: l',h=>by simp at h
 | x :: l,[],h=>by simp at h
def SpsN (h:H) (v:V) (l:List SpX):Prop := ∃ ad c,v = .slice ad l.length c/\(l.length<=2000->(∀ x∈l,SpIn h x)/\At4 h (· < h.nx) SpX.V v l)
theorem spsN_of {h:H} {l:List (Int × Bool × List Int × List (Int × Int × Int × List Int × Unit) × Unit)} {u:V} (r:jb0 2000 joU h l [u]) : ∃ L:List SpX,SpsN h u L/\jnd h u L:=by
 obtain ⟨ad,c,e,h1,h2,h3⟩:=r
 cases e
 by_cases hl:l.length<=2000
 ·by_cases hn:l=[]
  ·subst hn
   exact ⟨[],⟨ad,.fix c,rfl,fun _=>⟨fun x hx=>(by cases hx),ad,.fix c,rfl,fun e=>⟨by rw [(h3 e).1],rfl⟩,Zm _,fun e=>zM rfl e⟩⟩,ad,.fix c,rfl,fun _=>⟨fun x hx=>(by cases hx),fun e=>zM rfl e⟩⟩
  ·obtain ⟨b,cs,rfl,q1,q2,q3⟩:=h1 hl hn
   obtain ⟨L,l1,rfl,l3⟩:=jny q3
   exact ⟨L,⟨_,.fix c,by rw [l1],fun _=>⟨l3,_,.fix c,by rw [l1],fun e=>(by cases e),by show L.length<=c;omega,fun _=>⟨b,0,_,true,rfl,q1,q1,q2,fun i x hx=>by rw [zS];exact jcI (fun _=>rfl) hx⟩⟩⟩,
    _,.fix c,by rw [l1],fun _=>⟨fun x hx=>(l3 x hx).1,fun _=>⟨b,_,true,rfl,q1,q2,jfC (fun _=>rfl) L,fun i x hx=>jcI (fun _=>rfl) hx⟩⟩⟩
 ·exact ⟨List.replicate l.length ⟨0,false,[],.nils,[],.nils⟩,⟨ad,.fix c,by simp,fun hl'=>zM (by simpa using hl') hl⟩,ad,.fix c,by simp,fun hl'=>zM (by simp at hl';omega) hl⟩
section
variable {h h':H}
theorem VI.keepK {v:V} {l:List Int} (a:VI h v l) (hx:h.nx<=h'.nx) (hk : ∀ j o,j<h.nx->h.get j=some o->h'.get j=some o):VI h' v l:=by
 obtain ⟨ad,c,e,n,f,g⟩:=a
 refine ⟨ad,c,e,n,f,fun hl=>?_⟩
 obtain ⟨b,o,cs,ro,q1,q2,q3,q4⟩:=g hl
 exact ⟨b,o,cs,ro,q1,zu q2 hx,hk _ _ q2 q3,q4⟩
theorem At4.keepK {α : Type} {f : α -> List V} {v:V} {l:List α} (a:At4 h (· < h.nx) f v l) (hx:h.nx<=h'.nx) (hk : ∀ j o,j<h.nx->h.get j=some o->h'.get j=some o):At4 h' (· < h'.nx) f v l:=by
 obtain ⟨ad,c,e,n,ft,g⟩:=a
 refine ⟨ad,c,e,n,ft,fun hl=>?_⟩
 obtain ⟨b,o,cs,ro,q1,q2,q3,q4,q5⟩:=g hl
 exact ⟨b,o,cs,ro,q1,zu q2 hx,zu q2 hx,hk _ _ q2 q4,q5⟩
theorem MvOk.keepK {x:MvX} (a:MvOk h x) (hx:h.nx<=h'.nx) (hk : ∀ j o,j<h.nx->h.get j=some o->h'.get j=some o):MvOk h' x:=by
 obtain ⟨z,c,e,g⟩:=a
 exact ⟨z,c,e,fun hl=>(g hl).keep hx hk⟩
theorem jon.keepK {B:Nat} {v:V} {l:List MvX} (a:jon B h v l) (hx:h.nx<=h'.nx) (hk : ∀ j o,j<h.nx->h.get j=some o->h'.get j=some o):jon B h' v l:=by
 refine ⟨a.1,fun hl=>⟨fun x hm=>((a.2 hl).1 x hm).keepK hx hk,?_⟩⟩
 obtain ⟨ad,c,e,g⟩:=(a.2 hl).2
 refine ⟨ad,c,e,fun hn=>?_⟩
 obtain ⟨b,cs,ro,q1,q2,q3,q4⟩:=g hn
 exact ⟨b,cs,ro,q1,zu q2 hx,hk _ _ q2 q3,q4⟩
theorem SpOk.keepK {x:SpX} (a:SpOk h x) (hx:h.nx<=h'.nx) (hk : ∀ j o,j<h.nx->h.get j=some o->h'.get j=some o):SpOk h' x :=
 ⟨⟨a.ov.1,fun hl=>(a.ov.2 hl).keepK hx hk⟩,a.mv.keepK hx hk,a.t0,a.t1⟩
theorem SpIn.keepK {x:SpX} (a:SpIn h x) (hx:h.nx<=h'.nx) (hk : ∀ j o,j<h.nx->h.get j=some o->h'.get j=some o):SpIn h' x:=by
 refine ⟨a.1.keepK hx hk,fun h1 h2 h3=>?_⟩
 have s:=a.2 h1 h2 h3
 exact ⟨⟨s.ov.1.keepK hx hk,fun hn z hz=>zu (s.ov.2 hn z hz) hx⟩,s.mv.keepK hx hk,fun m hm=>by
  obtain ⟨ad,c,e,g⟩:=(s.dv m hm).1
  exact ⟨⟨ad,c,e,g.keep hx hk⟩,fun hn z hz=>zu ((s.dv m hm).2 hn z hz) hx⟩,s.t0,s.t1⟩
theorem SpsN.keepK {v:V} {l:List SpX} (a:SpsN h v l) (hx:h.nx<=h'.nx) (hk : ∀ j o,j<h.nx->h.get j=some o->h'.get j=some o):SpsN h' v l:=by
 obtain ⟨ad,c,e,g⟩:=a
 exact ⟨ad,c,e,fun hl=>⟨fun x hm=>((g hl).1 x hm).keepK hx hk,(g hl).2.keepK hx hk⟩⟩
theorem jnd.keepK {v:V} {l:List SpX} (a:jnd h v l) (hx:h.nx<=h'.nx) (hk : ∀ j o,j<h.nx->h.get j=some o->h'.get j=some o):jnd h' v l:=by
 obtain ⟨ad,c,e,g⟩:=a
 refine ⟨ad,c,e,fun hl=>⟨fun x hm=>((g hl).1 x hm).keepK hx hk,fun hn=>?_⟩⟩
 obtain ⟨b,cs,ro,q1,q2,q3,q4⟩:=(g hl).2 hn
 exact ⟨b,cs,ro,q1,zu q2 hx,hk _ _ q2 q3,q4⟩
end
theorem SpsN.at {h:H} {v:V} {l:List SpX} (a:SpsN h v l) (hl:l.length<=2000) (hm : ∀ x∈l,x.sp.may):jgQ h (· < h.nx) (· < h.nx) v l:=by
 obtain ⟨ad,c,e,g⟩:=a
 refine ⟨(g hl).2,fun x hx=>((g hl).1 x hx).2 ?_ ?_ fun m hmm=>?_⟩
 ·have:=(hm x hx).1;simp [SpX.sp] at this;omega
 ·have:=(hm x hx).2.1;simp [SpX.sp] at this;omega
 ·have:=(hm x hx).2.2.2 m.m (List.mem_map.2 ⟨m,hmm,rfl⟩)
  have:=this.2.2.2.2.1
  omega
theorem SpX.few_may {x:SpX} (h:x.sp.may):x.few:=by
 refine ⟨?_,?_,fun m hm=>?_⟩
 ·have:=h.1;simp [SpX.sp] at this;omega
 ·have:=h.2.1;simp [SpX.sp] at this;omega
 ·have:=(h.2.2.2 m.m (List.mem_map.2 ⟨m,hm,rfl⟩)).2.2.2.2.1
  omega
section
variable {cl:Nat->Call} (hcl:Sem cl)
include hcl
theorem rn_May {d:Nat} {h h0:H} {x:SpX} (hd:4<=d) (a:SpOk h0 x) (oh:Old h0 h) : ∃ h',cl d (.fn 20) [.agg x.V] h=some (.bool (decide x.sp.may),h')/\Old h h':=by
 have o:Old h (h.new (.cells x.V false)):=(ZD h).new
 have g0:(h.new (.cells x.V false)).get h.nx=some (.cells x.V false):=jad _
 have x0:h.nx<(h.new (.cells x.V false)).nx:=by simp
 have oG:=oh.trans o
 generalize hG:h.new (.cells x.V false)=G at o g0 x0 oG
 obtain ⟨ao,co,eo⟩:=a.ov.1
 obtain ⟨am,cm,em⟩:=a.mv.1
 have q2:(x.V)[0+2]?=some (.slice ao x.ol.length co):=by rw [<- eo];rfl
 have q3:(x.V)[0+3]?=some (.slice am x.ml.length cm):=by rw [<- em];rfl
 refine jai (aT hcl ?_)
 by_cases h1:(x.ml.length:Int)>50
 ·have hm : ¬ x.sp.may:=fun e=>by have:=e.1;simp [SpX.sp] at this;omega
  subst hG
  clear a
  refine qm ?_
  exact ⟨by rw [zH hm],o⟩
 by_cases h2:(x.ol.length:Int)>50
 ·have hm : ¬ x.sp.may:=fun e=>by have:=e.2.1;simp [SpX.sp] at this;omega
  subst hG
  clear a
  refine qm ?_
  exact ⟨by rw [zH hm],o⟩
 obtain ⟨_,_,e1,n1,f1,b1⟩:=a.ov.2 om
 rw [eo] at e1;cases e1
 obtain ⟨hmo,_,_,e2,b2⟩:=a.mv.2 om
 rw [em] at e2;cases e2
 have l1:(x.ol.length:Int)<=50:=by omega
 have l2:(x.ml.length:Int)<=50:=by omega
 clear a n1 f1 eo em
 obtain ⟨C,hC⟩ : ∃ C,C=c20_3:=⟨_,rfl⟩
 obtain ⟨C1,hC1⟩ : ∃ C,C=c20_1:=⟨_,rfl⟩
 simp only [c20,c20_4,<- hC,<- hC1,uF,yB]
 have T:Run (cl (d-1)) fuel (.loop [1,3] C) [.block 0,.seq (.seq (.seq (.region 0 [.mk4 0 (some 4) (.mv (.c (.i 0))) none] [1,4]) (.block 2 (.loop [1,4] C1))) (.seq (.region 0 [.mk4 0 (some 2) (.mv (.c (.bool true))) none] [2]) (.ret)))] [(1,.p h.nx 0),(3,.i 0)] G (Fin c20.res fun v h'=>v = .bool (decide x.sp.may)/\Old h h'):=by
  rw [hC]
  refine Zx (fun m e g=>∃ i:Nat,m=x.ol.length-i/\i<=x.ol.length/\e=[(1,.p h.nx 0),(3,.i (i:Int))]/\g=G /\ ∀ j y,j<i->x.ol[j]?=some y -> ¬ badN y)
   (k:=x.ol.length) Ze ⟨0,rfl,by omega,rfl,rfl,fun j x hj=>by omega⟩ ?_
  rintro _ _ g ⟨i,rfl,hi,rfl,rfl,hj⟩ n' ih
  by_cases hlt:(i:Int)<x.ol.length
  case pos=>
   obtain ⟨y,hy⟩:=jfl (l:=x.ol) (i:=i) om
   obtain ⟨b,oo,cs,ro,rfl,lb,gb,hc⟩:=b1 (by intro e;rw [e] at hy;simp at hy)
   have h4:cs[oo+(i:Int).toNat*1]?=some (.i y):=by rw [zz,Nat.mul_one];exact hc i y hy
   have hym:=zb hy
   have hi1:(i:Int)+1=((i+1:Nat):Int):=by omega
   have gb:=(oG.2 b lb).trans gb
   clear b1 b2 hc hmo
   by_cases k1:y<0
   ·have hm : ¬ x.sp.may:=fun e=>by have:=(e.2.2.1 y hym).1;omega
    clear ih hj
    refine Ga ?_
    exact ⟨by rw [zH hm],o⟩
   by_cases k2:y>999
   ·have hm : ¬ x.sp.may:=fun e=>by have:=(e.2.2.1 y hym).2;omega
    clear ih hj
    refine Ga ?_
    exact ⟨by rw [zH hm],o⟩
   refine Ga ?_
   rw [hi1]
   refine ih (x.ol.length-(i+1)) om _ _ ⟨i+1,rfl,by omega,rfl,rfl,fun j z hj' hz=>?_⟩
   by_cases e:j=i
   ·subst e
    rw [hy] at hz;cases hz
    unfold badN;omega
   ·exact hj j z om hz
  have hok : ∀ n∈x.ol,0<=n/\n<=999:=fun n hn=>by
   obtain ⟨j,hjl,e⟩:=zY hn
   have:=hj j n om (by rw [za hjl,e])
   unfold badN at this;omega
  clear ih b1 hj
  refine Ga ?_
  rw [hC1]
  refine Zx (fun m e g'=>∃ i:Nat,m=x.ml.length-i/\i<=x.ml.length/\e=[(1,.p h.nx 0),(4,.i (i:Int))]/\Old g g' /\ ∀ j y,j<i->x.ml[j]?=some y->y.m.may)
   (k:=x.ml.length) Ze ⟨0,rfl,by omega,rfl,ZD _,fun j x hj=>by omega⟩ ?_
  rintro _ _ g' ⟨i,rfl,hi,rfl,og,hj⟩ n' ih
  have gg:g'.get h.nx=some (.cells x.V false):=by rw [og.2 _ x0,g0]
  by_cases hlt:(i:Int)<x.ml.length
  case neg=>
   have hm:x.sp.may:=⟨by simp [SpX.sp];omega,by simp [SpX.sp];omega,hok,fun m hm=>by
    obtain ⟨y,hy,rfl⟩:=List.mem_map.1 hm
    obtain ⟨j,hjl,e⟩:=zY hy
    exact hj j y om (by rw [za hjl,e])⟩
   clear ih b2 hj hmo hok
   refine Ga ?_
   exact ⟨by rw [zJ hm],o.trans og⟩
  obtain ⟨y,hy⟩:=jfl (l:=x.ml) (i:=i) om
  obtain ⟨b,cs,ro,rfl,lb,gb,_,hc⟩:=b2 (by intro e;rw [e] at hy;simp at hy)
  have gb1:g'.get b=some (.cells cs ro):=by rw [(oG.trans og).2 b lb,gb]
  have h4:(cs.drop (0+(i:Int).toNat*4)).take 4=y.V:=by rw [zz,zS];exact hc i y hy
  have hlen:=jiB h4 rfl
  have hym:=zb hy
  have hi1:(i:Int)+1=((i+1:Nat):Int):=by omega
  have hv:=hmo y hym
  obtain ⟨m,dv⟩:=y
  obtain ⟨da,dc,e,_⟩:=hv
  have e:dv = .slice da m.D.length dc:=e
  subst e
  obtain ⟨g2,e2,o2⟩:=rm_may hcl (d:=d-1) (h:=g') (m:=m) (a:=da) (c:=dc) om
  clear b2 hc hmo
  by_cases hm1:m.may
  ·rw [zJ hm1] at e2
   refine Ga ?_
   refine zcw rfl gb1 hlen ?_
   rw [h4]
   refine Ga ?_
   rw [hi1]
   refine ih (x.ml.length-(i+1)) om _ _ ⟨i+1,rfl,by omega,rfl,og.trans o2,fun j z hj' hz=>?_⟩
   by_cases e:j=i
   ·subst e
    rw [hy] at hz;cases hz
    exact hm1
   ·exact hj j z om hz
  ·rw [zH hm1] at e2
   have hm : ¬ x.sp.may:=fun e=>hm1 (e.2.2.2 m (List.mem_map.2 ⟨_,hym,rfl⟩))
   clear ih hj hok
   refine Ga ?_
   refine zcw rfl gb1 hlen ?_
   rw [h4]
   refine Ga ?_
   exact ⟨by rw [zH hm],(o.trans og).trans o2⟩
 subst hG
 clear hmo b1 b2
 refine qm ?_
 exact T
theorem rn_All {d:Nat} {h:H} {v:V} {l:List SpX} (hd:5<=d) (a:SpsN h v l) : ∃ h',cl d (.fn 6) [v] h=some (.bool (decide (l.length<=2000 /\ ∀ x∈l,x.sp.may)),h')/\Old h h':=by
 obtain ⟨ad,c,rfl,a⟩:=a
 refine jai (aT hcl ?_)
 by_cases h1:(l.length:Int)>2000
 ·refine Ga ?_
  exact ⟨by rw [zH (fun e=>by have:=e.1;omega)],ZD _⟩
 have hl:l.length<=2000:=by omega
 obtain ⟨hs,⟨_,_,e0,_,_,hb⟩⟩:=a hl
 cases e0
 refine Ga ?_
 refine Zx (fun m e g=>∃ i:Nat,m=l.length-i/\i<=l.length/\e=[(0,.slice ad l.length c),(3,.i (i:Int))]/\Old h g /\ ∀ j y,j<i->l[j]?=some y->y.sp.may)
  (k:=l.length) Ze ⟨0,rfl,by omega,rfl,ZD _,fun j x hj=>by omega⟩ ?_
 rintro _ _ g ⟨i,rfl,hi,rfl,og,hj⟩ n' ih
 by_cases hlt:(i:Int)<l.length
 case neg=>
  have hall : ∀ x∈l,x.sp.may:=fun y hy=>by
   obtain ⟨j,hjl,e⟩:=zY hy
   exact hj j y om (by rw [za hjl,e])
  clear ih hj hb hs
  refine Ga ?_
  exact ⟨by rw [zJ (⟨hl,hall⟩:l.length<=2000/\_)],og⟩
 obtain ⟨y,hy⟩:=jfl (l:=l) (i:=i) om
 obtain ⟨b,oo,cs,ro,rfl,lb,_,gb,hc⟩:=hb (by intro e;rw [e] at hy;simp at hy)
 have gb1:g.get b=some (.cells cs ro):=by rw [og.2 b lb,gb]
 have h4:(cs.drop (oo+(i:Int).toNat*4)).take 4=y.V:=by rw [zz];exact hc i y hy
 have hlen:=jiB h4 rfl
 have hym:=zb hy
 have hi1:(i:Int)+1=((i+1:Nat):Int):=by omega
 obtain ⟨g2,e2,o2⟩:=rn_May hcl (d:=d-1) om (hs y hym).1 og
 clear hb hc hs
 by_cases hm1:y.sp.may
 ·rw [zJ hm1] at e2
  refine Ga ?_
  refine zcw rfl gb1 hlen ?_
  rw [h4]
  refine Ga ?_
  rw [hi1]
  refine ih (l.length-(i+1)) om _ _ ⟨i+1,rfl,by omega,rfl,og.trans o2,fun j z hj' hz=>?_⟩
  by_cases e:j=i
  ·subst e
   rw [hy] at hz;cases hz
   exact hm1
  ·exact hj j z om hz
 ·rw [zH hm1] at e2
  have hall : ¬ (l.length<=2000 /\ ∀ x∈l,x.sp.may):=fun e=>hm1 (e.2 y hym)
  clear ih hj
  refine Ga ?_
  refine zcw rfl gb1 hlen ?_
  rw [h4]
  refine Ga ?_
  exact ⟨by rw [zH hall],og.trans o2⟩
end
structure OdX where
 k:Int
 fd:Int
 n:Int
 t:Int
 b:Bool
 x:OpX
abbrev OdX.V (o:OdX):List V := .i o.k :: .i o.fd :: .i o.n :: .int .u64 o.t :: .bool o.b :: o.x.V
abbrev jov:H->Int × Int × Int × Int × Bool × (Int × Int × Int × Int × List Int × Unit) × Unit->List V->Prop:=jbw (jbM .i64) (jbw (jbM .i64) (jbw (jbM .i64) (jbw (jbM .u64) (jbw jkP (jbw jmH jjJ)))))
theorem op_of {h:H} {y:Int × Int × Int × Int × List Int × Unit} {u:List V} (h1:jmH h y u) : ∃ X:OpX,u=X.V/\OpOk h X:=by
 obtain ⟨v,e1,r,t0,t1⟩:=jhx h1
 obtain ⟨a,c,rfl,hB⟩:=jjt r
 exact ⟨⟨y.1,y.2.1,y.2.2.1,y.2.2.2.1,.slice a y.2.2.2.2.1.length (.fix c),y.2.2.2.2.1.map jk3⟩,e1,⟨⟨a,.fix c,by simp,fun hl=>hB (by simpa using hl)⟩,t0,t1⟩⟩
structure OdOk (h:H) (X:OdX):Prop where
 x:OpOk h X.x
 n0 : -9223372036854775808<=X.n
 n1:X.n<=9223372036854775807
 t0:0<=X.t
 t1:X.t<=18446744073709551615
theorem OdOk.keep {h h':H} {X:OdX} (o:OdOk h X) (hx:h.nx<=h'.nx) (hk : ∀ j o,j<h.nx->h.get j=some o->h'.get j=some o):OdOk h' X:=⟨o.x.keep hx hk,o.n0,o.n1,o.t0,o.t1⟩
theorem od_of {h:H} {y:Int × Int × Int × Int × Bool × (Int × Int × Int × Int × List Int × Unit) × Unit} {vs:List V} (r:jov h y vs) : ∃ X:OdX,vs=X.V/\OdOk h X:=by
 obtain ⟨_,_,rfl,⟨rfl,_⟩,_,_,rfl,⟨rfl,_⟩,_,_,rfl,⟨rfl,n0,n1⟩,_,_,rfl,⟨rfl,t0,t1⟩,_,w4,rfl,rb,u,w',rfl,r2,hn⟩:=r
 obtain rfl:w'=[]:=hn
 obtain rfl:_=[_]:=rb
 obtain ⟨X,rfl,ok⟩:=op_of r2
 exact ⟨⟨y.1,y.2.1,y.2.2.1,y.2.2.2.1,y.2.2.2.2.1,X⟩,rfl,⟨ok,n0,n1,t0,t1⟩⟩
theorem joC {h:H} : ∀ {l:List (Int × Int × Int × Int × Bool × (Int × Int × Int × Int × List Int × Unit) × Unit)} {cs:List V},jbq jov h l cs -> ∃ L:List OdX,L.length=l.length/\cs=(L.map OdX.V).flatten /\ ∀ x∈L,OdOk h x
 | [],_,e=>⟨[],rfl,e,fun x hx=>by cases hx⟩
 | y :: l,_,⟨u,w,e,h1,h2⟩=>by
  obtain ⟨L,l1,l2,l3⟩:=joC h2
  obtain ⟨X,e1,ok⟩:=od_of h1
  refine ⟨X :: L,by simp [l1],by rw [e,e1,l2];rfl,fun x hx=>?_⟩
  rcases Zn.1 hx with rfl | hx
  ·exact ok
  ·exact l3 x hx
theorem joD : ∀ L:List OdX,(L.map OdX.V).flatten.length=L.length*10
 | []=>rfl
 | x :: L=>by
  have:=joD L
  have h5:(OdX.V x).length=10:=rfl
  show (OdX.V x++(L.map OdX.V).flatten).length=_
  rw [zg,this,h5]
  simp;omega
theorem joE : ∀ {L:List OdX} {i:Nat} {x:OdX},L[i]?=some x->(((L.map OdX.V).flatten).drop (i*10)).take 10=x.V
 | [],i,x,h=>by simp at h
 | y :: L,0,x,h=>by simp at h;subst h;rfl
 | y :: L,i+1,x,h=>by
  rw [List.map_cons,Zh,show (i+1)*10=(OdX.V y).length+i*10 by show _=10+_;omega,<- List.drop_drop,List.drop_left]
  exact joE (by simpa using h)
def jol (h:H) (lv:V) (L:List OdX):Prop := ∃ ad c,lv = .slice ad L.length c/\(L.length<=60->(∀ x∈L,OdOk h x)/\(L≠[] -> ∃ b cs ro,ad=some (b,0)/\b<h.nx/\h.get b=some (.cells cs ro)/\cs.length=L.length*10 /\ ∀ (i:Nat) (x:OdX),L[i]?=some x->(cs.drop (i*10)).take 10=x.V))
theorem jol.keep {h h':H} {lv:V} {L:List OdX} (o:jol h lv L) (hx:h.nx<=h'.nx) (hk : ∀ j o,j<h.nx->h.get j=some o->h'.get j=some o):jol h' lv L:=by
 obtain ⟨ad,c,e,g⟩:=o
 refine ⟨ad,c,e,fun hl=>⟨fun x hx'=>((g hl).1 x hx').keep hx hk,fun hn=>?_⟩⟩
 obtain ⟨b,cs,ro,q1,q2,q3,q4⟩:=(g hl).2 hn
 exact ⟨b,cs,ro,q1,by omega,hk _ _ q2 q3,q4⟩
theorem odsIn_of {h:H} {l:List (Int × Int × Int × Int × Bool × (Int × Int × Int × Int × List Int × Unit) × Unit)} {u:V} (r:jb0 60 jov h l [u]) : ∃ L:List OdX,L.length=l.length/\jol h u L:=by
 obtain ⟨ad,c,e,h1,h2,h3⟩:=r
 cases e
 by_cases hl:l.length<=60
 ·by_cases hn:l=[]
  ·subst hn
   exact ⟨[],rfl,ad,.fix c,rfl,fun _=>⟨fun x hx=>(by cases hx),fun e=>zM rfl e⟩⟩
  ·obtain ⟨b,cs,rfl,q1,q2,q3⟩:=h1 hl hn
   obtain ⟨L,l1,rfl,l3⟩:=joC q3
   exact ⟨L,l1,_,.fix c,by rw [l1],fun _=>⟨l3,fun _=>⟨b,_,true,rfl,q1,q2,joD L,fun i x hx=>joE hx⟩⟩⟩
 ·exact ⟨List.replicate l.length ⟨0,0,0,0,false,⟨0,0,0,0,.nils,[]⟩⟩,by simp,ad,.fix c,by simp,fun hl'=>zM (by simpa using hl') hl⟩
theorem od_cell {cs:List V} {i k:Nat} {x:OdX} {v:V} (hc:(cs.drop (i*10)).take 10=x.V) (hk:k<10) (hv:x.V[k]?=some v):cs[i*10+k]?=some v:=by
 have:((cs.drop (i*10)).take 10)[k]?=some v:=by rw [hc];exact hv
 rwa [zQ,zG hk,zn] at this
section
variable {cl:Nat->Call} (hcl:Sem cl) {d:Nat} {h:H}
include hcl
theorem g19_all {lv sv cv:V} {L:List OpX} {S:List SpX} {C:List OdX} (hd:2<=d) (hL:jne h lv L) (hS:jnd h sv S) (hC:jol h cv C) :
  ∃ v,cl d (.fn 7) [lv,sv,cv] h=some (v,h)/\(v = .i 1\/(v = .i 0/\L.length<=60/\fewL L/\fewS S/\C.length<=60 /\ ∀ x∈C,x.x.D.length<=300)):=by
 suffices q : ∃ v h',cl d (.fn 7) [lv,sv,cv] h=some (v,h')/\h'=h/\(v = .i 1\/(v = .i 0/\L.length<=60/\fewL L/\fewS S/\C.length<=60 /\ ∀ x∈C,x.x.D.length<=300)) by
  obtain ⟨v,_,e,rfl,q⟩:=q;exact ⟨v,e,q⟩
 obtain ⟨v,e1,hv⟩:=gr_ok hcl (d:=d-1) om hL
 obtain ⟨v2,e2,hv2⟩:=gs_ok hcl (d:=d-1) om hS
 obtain ⟨ad,c,rfl,_⟩:=hL
 obtain ⟨ad2,c2,rfl,_⟩:=hS
 obtain ⟨ad3,c3,rfl,hin⟩:=hC
 refine aT hcl ?_
 by_cases h60:60<(L.length:Int)
 ·clear hin
  refine Ga ?_
  exact ⟨rfl,.inl rfl⟩
 by_cases h61:60<(S.length:Int)
 ·clear hin
  refine Ga ?_
  exact ⟨rfl,.inl rfl⟩
 by_cases h62:60<(C.length:Int)
 ·clear hin
  refine Ga ?_
  exact ⟨rfl,.inl rfl⟩
 obtain rfl | ⟨rfl,hf⟩:=hv
 ·clear hin
  refine Ga ?_
  exact ⟨rfl,.inl rfl⟩
 obtain rfl | ⟨rfl,hf2⟩:=hv2
 ·clear hin
  refine Ga ?_
  exact ⟨rfl,.inl rfl⟩
 obtain ⟨hok,hel⟩:=hin om
 clear hin
 refine Ga ?_
 refine Zx (fun m e g=>∃ i:Nat,m=C.length-i/\i<=C.length/\e=[(2,.slice ad3 C.length c3),(7,.i (i:Int))]/\g=h /\ ∀ j y,j<i->C[j]?=some y->y.x.D.length<=300)
  (k:=C.length) Ze ⟨0,rfl,by omega,rfl,rfl,fun j x hj=>by omega⟩ ?_
 rintro _ _ g ⟨i,rfl,hi,rfl,rfl,hj⟩ n' ih
 by_cases hlt:(i:Int)<C.length
 case neg=>
  have hall : ∀ x∈C,x.x.D.length<=300:=fun y hy=>by
   obtain ⟨j,hjl,e⟩:=zY hy
   exact hj j y om (by rw [za hjl,e])
  clear ih hj hel hok
  refine Ga ?_
  exact ⟨rfl,.inr ⟨rfl,by omega,hf,hf2,by omega,hall⟩⟩
 obtain ⟨y,hy⟩:=jfl (l:=C) (i:=i) om
 obtain ⟨b,cs,ro,rfl,lb,gb,_,hc⟩:=hel (by intro e;rw [e] at hy;simp at hy)
 obtain ⟨da,dc,edv,_⟩:=(hok y (zb hy)).x.dv
 have q9:cs[0+(i:Int).toNat*10+9]?=some (.slice da y.x.D.length dc):=by
  rw [zS,zz]
  exact od_cell (hc i y hy) om (by rw [<- edv];rfl)
 have hi1:(i:Int)+1=((i+1:Nat):Int):=by omega
 clear hok hel hc
 by_cases h300:300<(y.x.D.length:Int)
 ·clear ih hj
  refine Ga ?_
  exact ⟨rfl,.inl rfl⟩
 refine Ga ?_
 rw [hi1]
 refine ih (C.length-(i+1)) om _ _ ⟨i+1,rfl,by omega,rfl,rfl,fun j z hj' hz=>?_⟩
 by_cases e:j=i
 ·subst e
  rw [hy] at hz;cases hz
  omega
 ·exact hj j z om hz
end
theorem jmc {p q:Nat->Bool} {m:Nat} : ∀ {n:Nat},m<=n -> ∃ r,askL p q n=askL p q m++r
 | 0,h=>by
  obtain rfl:m=0:=by omega
  exact ⟨[],rfl⟩
 | n+1,h=>by
  by_cases e:m=n+1
  ·subst e;exact ⟨[],(List.append_nil _).symm⟩
  ·obtain ⟨r,hr⟩:=jmc (p:=p) (q:=q) (m:=m) (n:=n) om
   exact ⟨r++_,by rw [askL,hr,List.append_assoc]⟩
theorem joi {p q:Nat->Bool} {m n:Nat} (hm:m<n) (h:(p m||q m)=true):(askL p q n)[(askL p q m).length]?=some (m,p m,q m):=by
 obtain ⟨r,hr⟩:=jmc (p:=p) (q:=q) (m:=m+1) (n:=n) om
 rw [hr,askL,zG h,List.append_assoc,List.getElem?_append_right (zr _),Nat.sub_self]
 rfl
theorem askL_skip {p q:Nat->Bool} {m:Nat} (h:(p m||q m)=false):(askL p q (m+1)).length=(askL p q m).length:=by
 rw [askL,zF (by rw [h];exact Bool.false_ne_true),List.append_nil]
theorem askL_step {p q:Nat->Bool} {m:Nat} (h:(p m||q m)=true):(askL p q (m+1)).length=(askL p q m).length+1:=by
 rw [askL,zG h,zg];rfl
theorem askL_lt' {p q:Nat->Bool} {m n:Nat} (hm:m<n) (h:(p m||q m)=true):(askL p q m).length<(askL p q n).length:=by
 rcases zA (askL p q m).length (askL p q n).length with h2 | h2
 ·exact h2
 ·have:=joi hm h
  rw [zc h2] at this;cases this
theorem jjI : ∀ {P:List AskP} {i:Nat} {x:AskP},P[i]?=some x->(jav (repP P))[i*2]?=some (.i (x.1:Int))/\(jav (repP P))[i*2+1]?=some (.i (ja8 x.2.1 x.2.2))
 | [],i,x,h=>by simp at h
 | y :: P,0,x,h=>by
  obtain rfl:y=x:=by simpa using h
  exact ⟨rfl,rfl⟩
 | y :: P,i+1,x,h=>by
  obtain ⟨h1,h2⟩:=jjI (P:=P) (i:=i) (x:=x) (by simpa using h)
  have e:jav (repP (y :: P)) = .i (y.1:Int) :: .i (ja8 y.2.1 y.2.2) :: jav (repP P):=rfl
  rw [e,show (i+1)*2=i*2+1+1 by omega]
  exact ⟨by simpa using h1,by simpa using h2⟩
end Am.Sigs
