/- Our own library, part 21. -/
import Derived.Test.YtloklombgjlofaaGreatQ20
import Derived.Test.YtloklombgjlofaaGreatQ01
set_option maxHeartbeats 8000000
set_option maxRecDepth 800
set_option linter.all false
namespace Am.Sigs
open Am Go
theorem Run.loopZ {call:Call} {fuel:Nat} {K:List Fr} {e:Env} {h:H} {Q:Post} {live:List Nat} {body:AC} (hk:0<fuel) (k : ∀ n,Run call fuel body (.loop live body n :: K) (e.only live) h Q):Run call fuel (.loop live body) K e h Q :=
 Run.loop (fun m e' h'=>m=0/\e'=e/\h'=h) (k:=0) hk ⟨rfl,rfl,rfl⟩ fun _ _ _ ⟨_,e2,e3⟩ n _=>by rw [e2,e3];exact k n
theorem Ops.bslice1 {call:Call} {fuel base:Nat} {ops:List Ins} {keep:List Nat} {K:List Fr} {e:Env} {h:H} {Q:Post} {ix:Nat} {dst:Option Nat} {sz:Nat} {x:Opd} {xv:V} {zero new:List V} (hx:x.ev e=some xv) (hnew:xv.cells=new) (hl:new.length=sz) (hzl:zero.length=sz)
  (k:Ops call fuel base ops keep K (layv e dst (.slice (some (h.nx,0)) 1 (.fix 1))) (h.new (.cells new false)) Q) :
  Ops call fuel base (⟨ix,dst,.bslice sz 1 zero [(0,x)],none,none,[]⟩ :: ops) keep K e h Q:=by
 have hf:ja9 zero [(0*sz,sz,xv)]=some new:=by
  have e1:(xv.cells.length == sz&&Nat.ble (0*sz+sz) zero.length)=true:=by simp [hnew,hl,hzl]
  simp only [ja9]
  rw [e1,cond_true,hnew,Nat.zero_mul,jcT _ _ om]
 refine Ops.make (ob := .cells new false) (mk:=fun b=>.slice (some (b,0)) 1 (.fix 1)) rfl ?_ k
 simp only [I.make,jbv,List.map,hx,hf]
structure OdX where
 k:Int
 x:OpX
 fd:Int
 n:Int
 t:Int
 b:Bool
abbrev OdX.V (o:OdX):List V := .i o.k :: (o.x.V++[.i o.fd,.i o.n,.int .u64 o.t,.bool o.b])
abbrev jnw:H->Int × (Int × Int × Int × Int × List Int × Unit) × Int × Int × Int × Bool × Unit->List V->Prop:=jbW (jcH .i64) (jbW jmr (jbW (jcH .i64) (jbW (jcH .i64) (jbW (jcH .u64) (jbW jni jlg)))))
theorem op_of {h:H} {y:Int × Int × Int × Int × List Int × Unit} {u:List V} (h1:jmr h y u) : ∃ X:OpX,u=X.V/\OpOk h X:=by
 obtain ⟨v,e1,r,t0,t1⟩:=jgF h1
 obtain ⟨a,c,rfl,hB⟩:=jlB r
 exact ⟨⟨y.1,y.2.1,y.2.2.1,y.2.2.2.1,.slice a y.2.2.2.2.1.length (.fix c),y.2.2.2.2.1.map jkJ⟩,e1,⟨⟨a,.fix c,by simp,fun hl=>hB (by simpa using hl)⟩,t0,t1⟩⟩
theorem joU {h:H} {y:Int × (Int × Int × Int × Int × List Int × Unit) × Int × Int × Int × Bool × Unit} {vs:List V} (r:jnw h y vs) : ∃ X:OdX,vs=X.V/\OpOk h X.x:=by
 obtain ⟨_,_,rfl,⟨rfl,_⟩,u,w,rfl,r2,_,_,rfl,⟨rfl,_⟩,_,_,rfl,⟨rfl,_⟩,_,_,rfl,⟨rfl,_⟩,_,w',rfl,rb,hn⟩:=r
 obtain rfl:w'=[]:=hn
 obtain rfl:_=[_]:=rb
 obtain ⟨X,rfl,ok⟩:=op_of r2
 exact ⟨⟨y.1,X,y.2.2.1,y.2.2.2.1,y.2.2.2.2.1,y.2.2.2.2.2.1⟩,rfl,ok⟩
theorem joq {h:H} : ∀ {l:List (Int × (Int × Int × Int × Int × List Int × Unit) × Int × Int × Int × Bool × Unit)} {cs:List V},jbs jnw h l cs -> ∃ L:List OdX,L.length=l.length/\cs=(L.map OdX.V).flatten /\ ∀ x∈L,OpOk h x.x
 | [],_,e=>⟨[],rfl,e,fun x hx=>by cases hx⟩
 | y :: l,_,⟨u,w,e,h1,h2⟩=>by
  obtain ⟨L,l1,l2,l3⟩:=joq h2
  obtain ⟨X,e1,ok⟩:=joU h1
  refine ⟨X :: L,by simp [l1],by rw [e,e1,l2];rfl,fun x hx=>?_⟩
  rcases List.mem_cons.1 hx with rfl | hx
  ·exact ok
  ·exact l3 x hx
theorem jor : ∀ L:List OdX,(L.map OdX.V).flatten.length=L.length*10
 | []=>rfl
 | x :: L=>by
  have:=jor L
  have h5:(OdX.V x).length=10:=rfl
  show (OdX.V x++(L.map OdX.V).flatten).length=_
  rw [ze,this,h5]
  simp;omega
theorem jos : ∀ {L:List OdX} {i:Nat} {x:OdX},L[i]?=some x->(((L.map OdX.V).flatten).drop (i*10)).take 10=x.V
 | [],i,x,h=>by simp at h
 | y :: L,0,x,h=>by simp at h;subst h;rfl
 | y :: L,i+1,x,h=>by
  rw [List.map_cons,List.flatten_cons,show (i+1)*10=(OdX.V y).length+i*10 by show _=10+_;omega,<- List.drop_drop,List.drop_left]
  exact jos (by simpa using h)
def jnT (h:H) (lv:V) (L:List OdX):Prop := ∃ ad c,lv = .slice ad L.length c/\(L.length<=100->(∀ x∈L,OpOk h x.x)/\(L≠[] -> ∃ b cs ro,ad=some (b,0)/\b<h.nx/\h.get b=some (.cells cs ro)/\cs.length=L.length*10 /\ ∀ (i:Nat) (x:OdX),L[i]?=some x->(cs.drop (i*10)).take 10=x.V))
theorem jnT.keep {h h':H} {lv:V} {L:List OdX} (o:jnT h lv L) (hx:h.nx<=h'.nx) (hk : ∀ j o,j<h.nx->h.get j=some o->h'.get j=some o):jnT h' lv L:=by
 obtain ⟨ad,c,e,g⟩:=o
 refine ⟨ad,c,e,fun hl=>⟨fun x hx'=>((g hl).1 x hx').keep hx hk,fun hn=>?_⟩⟩
 obtain ⟨b,cs,ro,q1,q2,q3,q4⟩:=(g hl).2 hn
 exact ⟨b,cs,ro,q1,by omega,hk _ _ q2 q3,q4⟩
theorem odsIn_of {h:H} {l:List (Int × (Int × Int × Int × Int × List Int × Unit) × Int × Int × Int × Bool × Unit)} {u:V} (r:jcV 100 jnw h l [u]) : ∃ L:List OdX,L.length=l.length/\jnT h u L:=by
 obtain ⟨ad,c,e,h1,h2,h3⟩:=r
 cases e
 by_cases hl:l.length<=100
 ·by_cases hn:l=[]
  ·subst hn
   exact ⟨[],rfl,ad,.fix c,rfl,fun _=>⟨fun x hx=>(by cases hx),fun e=>absurd rfl e⟩⟩
  ·obtain ⟨b,cs,rfl,q1,q2,q3⟩:=h1 hl hn
   obtain ⟨L,l1,rfl,l3⟩:=joq q3
   exact ⟨L,l1,_,.fix c,by rw [l1],fun _=>⟨l3,fun _=>⟨b,_,true,rfl,q1,q2,jor L,fun i x hx=>jos hx⟩⟩⟩
 ·exact ⟨List.replicate l.length ⟨0,⟨0,0,0,0,.nils,[]⟩,0,0,0,false⟩,by simp,ad,.fix c,by simp,fun hl'=>absurd (by simpa using hl') hl⟩
theorem od_cell {cs:List V} {i k:Nat} {x:OdX} {v:V} (hc:(cs.drop (i*10)).take 10=x.V) (hk:k<10) (hv:x.V[k]?=some v):cs[i*10+k]?=some v:=by
 have:((cs.drop (i*10)).take 10)[k]?=some v:=by rw [hc];exact hv
 rwa [List.getElem?_take,if_pos hk,zl] at this
section
variable {cl:Nat->Call} (hcl:Sem cl) {d:Nat} {h:H}
include hcl
theorem g20_ok {lv:V} {L:List OdX} (hd:2<=d) (hL:jnT h lv L) : ∃ v h',cl d (.fn F.jdJ) [lv] h=some (v,h')/\Old h h'/\(v = .i 1\/(v = .i 0/\L.length<=100))/\((∀ j,h.nx<=j->h.get j=none) -> ∀ j,h'.nx<=j->h'.get j=none):=by
 obtain ⟨ad,c,rfl,hin⟩:=hL
 refine at_ hcl om rfl rfl rfl ?_
 by_cases h1:100<(L.length:Int)
 ·refine qx1 ?_
  exact ⟨Old.refl _,.inl rfl,id⟩
 obtain ⟨hok,hel⟩:=hin om
 refine qx1 ?_
 refine Run.loop (fun m e g=>∃ i:Nat,m=L.length-i/\i<=L.length/\e=[(0,.slice ad L.length c),(8,.i (L.length:Int)),(9,.i (i:Int))]/\Old h g/\((∀ j,h.nx<=j->h.get j=none) -> ∀ j,g.nx<=j->g.get j=none)) (k:=L.length) Ze ⟨0,rfl,by omega,rfl,Old.refl _,id⟩ ?_
 rintro _ _ g ⟨i,rfl,hi,rfl,og,wg⟩ n' ih
 by_cases hlt:(i:Int)<L.length
 case neg=>
  clear ih hel hok
  refine qx1 ?_
  exact ⟨og,.inr ⟨rfl,by omega⟩,wg⟩
 obtain ⟨x,hx⟩:=jnZ (l:=L) (i:=i) om
 obtain ⟨b,cs,ro,rfl,lb,hb,hcl',hc⟩:=hel (by rintro rfl;simp at hx)
 have hbg:g.get b=some (.cells cs ro):=by rw [og.2 b lb,hb]
 have h10:=hc i x hx
 have h5:(cs.drop (0+(i:Int).toNat*10+1)).take 5=x.x.V:=by
  rw [Nat.zero_add,zu]
  have:((cs.drop (i*10)).take 10).drop 1=x.V.drop 1:=by rw [h10]
  rw [List.drop_take,List.drop_drop] at this
  have t5:=congrArg (List.take 5) this
  rw [List.take_take] at t5
  exact t5
 have hl5:0+(i:Int).toNat*10+1+5<=cs.length:=by rw [hcl',zu];omega
 have okx:=(hok x (zb hx)).keep (h':=g.new (.cells x.x.V false)) (by have:=og.1;simp;omega) fun j o hj ho=>by rw [jad (zq hj og.1),og.2 j hj,ho]
 have hIn:jkO (g.new (.cells x.x.V false)) (.slice (some (g.nx,0)) 1 (.fix 1)) [x.x]:=⟨_,.fix 1,rfl,fun _=>⟨fun y hy=>by rw [List.mem_singleton.1 hy];exact okx,fun _=>⟨g.nx,x.x.V,false,rfl,Nat.lt_succ_self _,jac _,rfl,fun j y hy=>by
  have hj:j<1:=(List.getElem?_eq_some_iff.1 hy).1
  obtain rfl:j=0:=by omega
  cases hy;rfl⟩⟩⟩
 obtain ⟨gv,e1,hg⟩:=joZ hcl (d:=d-1) om hIn
 have hi1:(i:Int)+1=((i+1:Nat):Int):=by omega
 have og':Old h (g.new (.cells x.x.V false)):=og.new
 have wg':(∀ j,h.nx<=j->h.get j=none) -> ∀ j,(g.new (.cells x.x.V false)).nx<=j->(g.new (.cells x.x.V false)).get j=none:=fun hw j hj=>by
  have hj:g.nx+1<=j:=hj
  rw [H.get_new,if_neg om,wg hw j om]
 clear hok hel hc h10 hIn okx
 obtain ⟨xv,hxv⟩ : ∃ xv,xv=x.x.V:=⟨_,rfl⟩
 have hl0:xv.length=5:=by rw [hxv];rfl
 rw [<- hxv] at h5 e1 og' wg'
 clear hxv
 rcases hg with rfl | ⟨rfl,_⟩
 ·refine qx1 ?_
  refine Ops.loadN rfl hbg hl5 ?_
  rw [h5]
  refine Ops.bslice1 rfl rfl hl0 rfl ?_
  refine qx1 ?_
  exact ⟨og',.inl rfl,wg'⟩
 ·refine qx1 ?_
  refine Ops.loadN rfl hbg hl5 ?_
  rw [h5]
  refine Ops.bslice1 rfl rfl hl0 rfl ?_
  refine qx1 ?_
  rw [hi1]
  exact ih (L.length-(i+1)) om _ _ ⟨i+1,rfl,by omega,rfl,og',wg'⟩
end
section
variable {cl:Nat->Call} (hcl:Sem cl) {d:Nat} {h:H}
include hcl
theorem mv_NewZ (hd:4<=d) : ∃ sb h',cl d (.fn F.moves_New) [.nils] h=some (.tup [.p sb 0,.i 0],h')/\Old h h':=by
 have e3:cl (d-3) (.fn F.jbP) [.nils,.clo F.jgG []] h=some (.i (-1),h):=by
  refine jak (at_ hcl om rfl rfl rfl ?_)
  refine qx1 ?_
  refine Run.loopZ Ze fun n'=>?_
  refine qx1 ?_
  exact ⟨rfl,rfl⟩
 have e2:cl (d-2) (.fn F.jbH) [.nils,.clo F.jgG []] h=some (.bool false,h):=by
  refine jak (at_ hcl om rfl rfl rfl ?_)
  refine qx1 ?_
  exact ⟨rfl,rfl⟩
 have e1:cl (d-1) (.fn F.moves_all) [.nils] h=some (.bool true,h):=by
  refine jak (at_ hcl om rfl rfl rfl ?_)
  refine qx1 ?_
  exact ⟨rfl,rfl⟩
 have e0:cl (d-1) (.fn F.jkp) [.nils] h=some (.nils,h):=by
  refine jak (at_ hcl om rfl rfl rfl ?_)
  refine qx1 ?_
  refine Run.loopZ Ze fun n'=>?_
  refine qx1 ?_
  exact ⟨rfl,rfl⟩
 refine ⟨h.nx,h.new (.cells [.nils,.nils] false),jak (at_ hcl om rfl rfl rfl ?_),(Old.refl h).new⟩
 clear e2 e3
 refine qm1 ?_
 exact ⟨rfl,rfl⟩
theorem bt20 {lv:V} {L:List OpX} (hd:17<=d) (hwf : ∀ j,h.nx<=j->h.get j=none) (hL:jkO h lv L) (h60:L.length<=60) (hfew:fewL L) :
  ∃ p w s rw sb ow ro h',cl d (.fn F.jcw) [lv,.nils] h=some (.tup [.p p 0,.p sb 0],h')/\BX h h' p w s rw ow ro (runS L st0) L.length:=by
 suffices q : ∃ v h',cl d (.fn F.jcw) [lv,.nils] h=some (v,h') /\ ∃ p w s rw sb ow ro,v = .tup [.p p 0,.p sb 0]/\BX h h' p w s rw ow ro (runS L st0) L.length by
  obtain ⟨_,h',e,p,w,s,rw,sb,ow,ro,rfl,q⟩:=q;exact ⟨p,w,s,rw,sb,ow,ro,h',e,q⟩
 obtain ⟨p,w,s,rw,ow,ro,h3,e3,b3⟩:=nw_fresh hcl (d:=d-1) om h hwf
 obtain ⟨ad,c,rfl,hin⟩:=hL
 obtain ⟨hok,hel⟩:=hin hfew.1
 clear hwf hin
 refine at_ hcl om rfl rfl rfl ?_
 refine qx1 ?_
 refine Run.loop (fun m e g=>∃ (i:Nat) (ow:Nat->Nat) (ro:Nat->Prop),m=L.length-i/\i<=L.length/\e=[(0,.slice ad L.length c),(1,.nils),(6,.p p 0),(12,.i (L.length:Int)),(13,.i (i:Int))]/\BX h g p w s rw ow ro (runS (L.take i) st0) i)
  (k:=L.length) Ze ⟨0,ow,ro,rfl,by omega,rfl,b3⟩ ?_
 clear b3 e3 ow ro h3
 rintro _ _ g ⟨i,ow,ro,rfl,hi,rfl,bx⟩ n2 ih
 by_cases hlt:(i:Int)<L.length
 case neg=>
  obtain rfl:i=L.length:=by omega
  obtain ⟨sb,g',e4,o4⟩:=mv_NewZ hcl (d:=d-1) (h:=g) om
  have bx':=bx.old' o4
  rw [List.take_length] at bx'
  clear ih hel hok bx
  refine qx1 ?_
  exact ⟨p,w,s,rw,sb,ow,ro,rfl,bx'⟩
 obtain ⟨x,hx⟩:=jnZ (l:=L) (i:=i) om
 have hxm:=zb hx
 obtain ⟨b,cs,ro',rfl,lb,hb,hlen,hc⟩:=hel (by rintro rfl;simp at hx)
 have h5:(cs.drop (0+(i:Int).toNat*5)).take 5=x.V:=by rw [Nat.zero_add,zu];exact hc i x hx
 have hbg:g.get b=some (.cells cs ro'):=by rw [bx.old.2 b lb,hb]
 obtain ⟨g2,ow2,ro2,e2,bx2,_⟩:=bx_do hcl (d:=d-1) om bx om (hok x hxm) (hfew.2 x hxm)
 have hi1:(i:Int)+1=((i+1:Nat):Int):=by omega
 rw [<- runS_take hx] at bx2
 clear hok hel hfew bx hc
 refine qx1 ?_
 refine Ops.loadN rfl hbg om ?_
 rw [h5]
 refine qx1 ?_
 rw [hi1]
 exact ih (L.length-(i+1)) om _ _ ⟨i+1,ow2,ro2,rfl,by omega,rfl,bx2⟩
end
end Am.Sigs
namespace Am
open Go
noncomputable def jnC (n:Nat) (f:Nat->Option V):Option V:=Nat.rec (f 0) (fun k _=>f (Nat.succ k)) n
theorem jj9 (n:Nat) (f:Nat->Option V):jnC n f=f n:=by cases n<;>rfl
noncomputable def jep (k:IntKind) (n:Int):Option V:=Int.rec (fun m=>jnC m fun m=>some (.int k (.ofNat m))) (fun m=>jnC m fun m=>some (.int k (.negSucc m))) n
theorem jbL (k:IntKind) (n:Int):jep k n=some (.int k n):=by
 cases n with
 | ofNat m=>unfold jep;exact jj9 m _
 | negSucc m=>unfold jep;exact jj9 m _
noncomputable def maxN:IntKind->Nat
 | .i8=>127 | .i16=>32767 | .i32=>2147483647 | .i64=>9223372036854775807
 | .u8=>255 | .u16=>65535 | .u32=>4294967295 | .u64=>18446744073709551615
noncomputable def minN:IntKind->Nat
 | .i8=>128 | .i16=>32768 | .i32=>2147483648 | .i64=>9223372036854775808
 | _=>0
noncomputable def jgr (k:IntKind) (n:Int):Int:=Int.rec (fun m=>bif Nat.ble m (maxN k) then n else k.wrap n) (fun m=>bif Nat.blt m (minN k) then n else k.wrap n) n
theorem jcn (k:IntKind) (n:Int):jgr k n=k.wrap n:=by
 cases n with
 | ofNat m=>
  show (bif Nat.ble m (maxN k) then (Int.ofNat m) else k.wrap (Int.ofNat m))=_
  cases e:Nat.ble m (maxN k)
  ·rfl
  ·have h:=zr e
   have h0:Int.ofNat m=(m:Int):=rfl
   cases k<;>simp only [maxN] at h<;>simp only [cond_true,IntKind.wrap,IntKind.bits,IntKind.signed,h0]<;>(try simp only [Bool.false_and,Bool.true_and,decide_eq_true_eq,Bool.false_eq_true,if_false])<;>(first | omega | (split<;>omega))
 | negSucc m=>
  show (bif Nat.blt m (minN k) then (Int.negSucc m) else k.wrap (Int.negSucc m))=_
  cases e:Nat.blt m (minN k)
  ·rfl
  ·have h:m<minN k:=zr e
   have h0:Int.negSucc m = -(m:Int)-1:=by omega
   cases k<;>simp only [minN] at h<;>(try omega)<;>simp only [cond_true,IntKind.wrap,IntKind.bits,IntKind.signed,h0]<;>(try simp only [Bool.true_and,decide_eq_true_eq])<;>(split<;>omega)
noncomputable def ltF:Int->Int->Bool
 | .ofNat a,.ofNat b=>Nat.blt a b
 | .ofNat _,.negSucc _=>false
 | .negSucc _,.ofNat _=>true
 | .negSucc a,.negSucc b=>Nat.blt b a
theorem jnO (a b:Nat):Nat.blt a b=decide (a<b):=by
 by_cases h:a<b
 ·rw [decide_eq_true h];exact Nat.ble_eq_true_of_le h
 ·rw [decide_eq_false h]
  cases e:Nat.blt a b
  ·rfl
  ·exact absurd (zr e) h
theorem jlw (a b:Int):ltF a b=decide (a<b):=by
 cases a with
 | ofNat a=>cases b with
  | ofNat b=>simp only [ltF,jnO];exact decide_eq_decide.2 (show a<b↔((a:Nat):Int)<((b:Nat):Int) by omega)
  | negSucc b=>simp only [ltF];symm;rw [decide_eq_false_iff_not];show ¬ ((a:Nat):Int)<Int.negSucc b;omega
 | negSucc a=>cases b with
  | ofNat b=>simp only [ltF];symm;rw [decide_eq_true_eq];show Int.negSucc a<((b:Nat):Int);omega
  | negSucc b=>simp only [ltF,jnO];exact decide_eq_decide.2 om
noncomputable def eqF:Int->Int->Bool
 | .ofNat a,.ofNat b=>Nat.beq a b
 | .negSucc a,.negSucc b=>Nat.beq a b
 | _,_=>false
theorem jl2 (a b:Int):eqF a b=(a == b):=by
 cases a with
 | ofNat a=>cases b with
  | ofNat b=>
   simp only [eqF]
   by_cases h:a=b
   ·subst h;simp
   ·have h2:(Int.ofNat a == Int.ofNat b)=false:=by rw [beq_eq_false_iff_ne];intro e;exact h (by injection e)
    rw [h2]
    cases e:Nat.beq a b
    ·rfl
    ·exact absurd (Nat.eq_of_beq_eq_true e) h
  | negSucc b=>simp only [eqF];symm;rw [beq_eq_false_iff_ne];intro e;cases e
 | negSucc a=>cases b with
  | ofNat b=>simp only [eqF];symm;rw [beq_eq_false_iff_ne];intro e;cases e
  | negSucc b=>
   simp only [eqF]
   by_cases h:a=b
   ·subst h;simp
   ·have h2:(Int.negSucc a == Int.negSucc b)=false:=by rw [beq_eq_false_iff_ne];intro e;exact h (by injection e)
    rw [h2]
    cases e:Nat.beq a b
    ·rfl
    ·exact absurd (Nat.eq_of_beq_eq_true e) h
noncomputable def subF:Int->Int->Int
 | .ofNat a,.ofNat b=>bif Nat.ble b a then .ofNat (Nat.sub a b) else Int.sub (.ofNat a) (.ofNat b)
 | a,b=>Int.sub a b
theorem subF_eq (a b:Int):subF a b=a-b:=by
 cases a with
 | ofNat a=>cases b with
  | ofNat b=>
   show (bif Nat.ble b a then Int.ofNat (Nat.sub a b) else Int.sub (.ofNat a) (.ofNat b))=_
   cases e:Nat.ble b a
   ·rfl
   ·have h:=zr e
    show ((a-b:Nat):Int)=(a:Int)-(b:Int)
    omega
  | negSucc _=>rfl
 | negSucc _=>rfl
noncomputable def ikN:IntKind->Nat
 | .i8=>0 | .i16=>1 | .i32=>2 | .i64=>3 | .u8=>4 | .u16=>5 | .u32=>6 | .u64=>7
noncomputable def ikEq (a b:IntKind):Bool:=Nat.beq (ikN a) (ikN b)
theorem ikEq_eq (a b:IntKind):ikEq a b=(a == b):=by cases a<;>cases b<;>rfl
noncomputable def i_add (k:IntKind) (a b:Int):Option V:=jep k (jgr k (Int.add a b))
noncomputable def i_sub (k:IntKind) (a b:Int):Option V:=jep k (jgr k (subF a b))
noncomputable def i_mul (k:IntKind) (a b:Int):Option V:=jep k (jgr k (Int.mul a b))
noncomputable def i_eql (_:IntKind) (a b:Int):Option V:=some (.bool (eqF a b))
noncomputable def i_neq (_:IntKind) (a b:Int):Option V:=some (.bool !(eqF a b))
noncomputable def i_lss (_:IntKind) (a b:Int):Option V:=some (.bool (ltF a b))
noncomputable def i_gtr (_:IntKind) (a b:Int):Option V:=some (.bool (ltF b a))
noncomputable def i_leq (_:IntKind) (a b:Int):Option V:=some (.bool !(ltF b a))
noncomputable def i_geq (_:IntKind) (a b:Int):Option V:=some (.bool !(ltF a b))
noncomputable def joF (k:IntKind) (a b:Int):Option V:=bif eqF b 0 then none else jep k (jgr k (a.tdiv b))
noncomputable def joE (k:IntKind) (a b:Int):Option V:=bif eqF b 0 then none else jep k (a.tmod b)
noncomputable def toF (k:IntKind):Int->Nat
 | .ofNat a=>Nat.mod a (Nat.pow 2 k.bits)
 | .negSucc a=>Nat.sub (Nat.pow 2 k.bits) (Nat.succ (Nat.mod a (Nat.pow 2 k.bits)))
theorem jfI (k:IntKind) (a:Int):toF k a=(BitVec.ofInt k.bits a).toNat:=by
 have hp:0<2 ^ k.bits:=Nat.pow_pos (by decide)
 rw [BitVec.toNat_ofInt]
 cases a with
 | ofNat a=>show a%2 ^ k.bits=_;rfl
 | negSucc a=>
  show 2 ^ k.bits-Nat.succ (a%2 ^ k.bits)=_
  have h1:a%2 ^ k.bits<2 ^ k.bits:=Nat.mod_lt _ hp
  have h2:=Nat.div_add_mod a (2 ^ k.bits)
  have h3:Int.negSucc a = -(a:Int)-1:=by omega
  have h4:(Int.negSucc a)%((2 ^ k.bits:Nat):Int)=((2 ^ k.bits-Nat.succ (a%2 ^ k.bits):Nat):Int):=by
   have e:Int.negSucc a=((2 ^ k.bits-Nat.succ (a%2 ^ k.bits):Nat):Int)+((2 ^ k.bits:Nat):Int)*(-((a/2 ^ k.bits:Nat):Int)-1):=by
    rw [h3,Int.mul_sub,Int.mul_neg,Int.mul_one]
    have h5:(a:Int)=((2 ^ k.bits:Nat):Int)*((a/2 ^ k.bits:Nat):Int)+((a%2 ^ k.bits:Nat):Int):=by exact_mod_cast h2.symm
    omega
   rw [e,Int.add_mul_emod_self_left]
   exact Int.emod_eq_of_lt om om
  rw [h4];rfl
noncomputable def i_and (k:IntKind) (a b:Int):Option V:=jep k (jgr k (.ofNat (Nat.land (toF k a) (toF k b))))
noncomputable def i_or (k:IntKind) (a b:Int):Option V:=jep k (jgr k (.ofNat (Nat.lor (toF k a) (toF k b))))
noncomputable def i_xor (k:IntKind) (a b:Int):Option V:=jep k (jgr k (.ofNat (Nat.xor (toF k a) (toF k b))))
noncomputable def i_andNot (k:IntKind) (a b:Int):Option V:=jep k (jgr k (.ofNat (Nat.land (toF k a) (Nat.sub (Nat.sub (Nat.pow 2 k.bits) 1) (toF k b)))))
noncomputable def minF (a b:Nat):Nat:=bif Nat.ble a b then a else b
noncomputable def joY (k:IntKind) (a b:Int):Option V:=Int.rec (fun b=>jep k (jgr k (Int.mul a (.ofNat (Nat.pow 2 (minF b k.bits)))))) (fun _=>none) b
noncomputable def joX (k:IntKind) (a b:Int):Option V:=Int.rec (fun b=>Int.rec (fun a=>jep k (.ofNat (Nat.div a (Nat.pow 2 (minF b k.bits))))) (fun a=>jep k (Int.fdiv (.negSucc a) (2 ^ (Nat.min b k.bits)))) a) (fun _=>none) b
noncomputable def jlz (op:BinOp):IntKind->Int->Int->Option V :=
 match op with
 | .add=>i_add
 | .sub=>i_sub
 | .mul=>i_mul
 | .quo=>joF
 | .rem=>joE
 | .and=>i_and
 | .or=>i_or
 | .xor=>i_xor
 | .andNot=>i_andNot
 | .eql=>i_eql
 | .neq=>i_neq
 | .lss=>i_lss
 | .leq=>i_leq
 | .gtr=>i_gtr
 | .geq=>i_geq
 | .shl=>joY
 | .shr=>joX
theorem jhI (a b:Int):(!decide (b<a))=decide (a<=b):=by by_cases h:b<a<;>simp [h]<;>omega
theorem jnz (a b:Nat):minF a b=Nat.min a b:=by
 unfold minF
 cases e:Nat.ble a b
 ·have : ¬ a<=b:=fun h=>by rw [Nat.ble_eq_true_of_le h] at e;cases e
  simp only [cond_false];exact (Nat.min_eq_right om).symm
 ·exact (Nat.min_eq_left (zr e)).symm
theorem intOpF_eq (op:BinOp) (k:IntKind) (a b:Int):jlz op k a b=jbY op k a b:=by
 cases op
 case add=>exact (jbL _ _).trans (by rw [jcn];rfl)
 case sub=>exact (jbL _ _).trans (by rw [jcn,subF_eq];rfl)
 case mul=>exact (jbL _ _).trans (by rw [jcn];rfl)
 case quo=>show joF k a b=_;unfold joF;rw [jl2,jbL,jcn];rfl
 case rem=>show joE k a b=_;unfold joE;rw [jl2,jbL];rfl
 case and=>exact (jbL _ _).trans (by rw [jcn,jfI,jfI];simp only [jbY,BitVec.toNat_and];rfl)
 case or=>exact (jbL _ _).trans (by rw [jcn,jfI,jfI];simp only [jbY,BitVec.toNat_or];rfl)
 case xor=>exact (jbL _ _).trans (by rw [jcn,jfI,jfI];simp only [jbY,BitVec.toNat_xor];rfl)
 case andNot=>exact (jbL _ _).trans (by rw [jcn,jfI,jfI];simp only [jbY,BitVec.toNat_and,BitVec.toNat_not];rfl)
 case shl=>
  cases b with
  | negSucc b=>simp [jlz,joY,jbY]
  | ofNat b=>
   refine (jbL _ _).trans ?_
   have h1:decide ((Int.ofNat b)<0)=false:=by simp
   simp only [jbY,h1,cond_false,jcn,jnz]
   congr 3
 case shr=>
  cases b with
  | negSucc b=>simp [jlz,joX,jbY]
  | ofNat b=>
   have h1:decide ((Int.ofNat b)<0)=false:=by simp
   simp only [jbY,h1,cond_false]
   cases a with
   | negSucc a=>exact jbL _ _
   | ofNat a=>
    show jep k (.ofNat (Nat.div a (Nat.pow 2 (minF b k.bits))))=_
    rw [jbL,jnz]
    congr 2
    have h2:((2:Int) ^ (Nat.min b k.bits))=((2 ^ (Nat.min b k.bits):Nat):Int):=(Int.natCast_pow 2 _).symm
    have h3:Int.fdiv (Int.ofNat a) ((2 ^ (Nat.min b k.bits):Nat):Int)=((a/2 ^ (Nat.min b k.bits):Nat):Int):=Int.ofNat_fdiv a _ |>.symm
    show _=Int.fdiv (Int.ofNat a) (2 ^ (Nat.min b k.bits))
    rw [h2,h3];rfl
 case eql=>show some _=some _;rw [jl2]
 case neq=>show some (V.bool !(eqF a b))=_;rw [jl2];rfl
 case lss=>show some (V.bool (ltF a b))=_;rw [jlw];rfl
 case gtr=>show some (V.bool (ltF b a))=_;rw [jlw];rfl
 case leq=>show some (V.bool !(ltF b a))=_;rw [jlw,jhI];rfl
 case geq=>show some (V.bool !(ltF a b))=_;rw [jlw,jhI];rfl
noncomputable def jnP (op:BinOp):V->V->Option V
 | .int k a,.int k' b=>bif jbN op||ikEq k k' then jlz op k a b else none
 | .str a,.str b=>jod op a b
 | _,_=>none
theorem binOpF_eq (op:BinOp) (a b:V):jnP op a b=binOp op a b:=by
 cases a<;>cases b<;>first | rfl | (simp only [jnP,binOp,ikEq_eq,intOpF_eq])
noncomputable def getF (e:Env) (s:Nat):Option V:=List.rec (motive:=fun _=>Option V) none (fun p _ ih=>bif Nat.beq p.1 s then some p.2 else ih) e
theorem jiC : ∀ (e:Env) (s:Nat),getF e s=e.get s
 | [],_=>rfl
 | (k,v) :: r,s=>by
  show (bif Nat.beq k s then some v else getF r s)=_
  rw [jiC r s];rfl
noncomputable def evF (x:Opd) (e:Env):Option V:=Opd.rec (fun s=>getF e s) (fun v=>some v) x
theorem ja6 (x:Opd) (e:Env):evF x e=x.ev e:=by
 cases x
 ·exact jiC _ _
 ·rfl
noncomputable def evsF (e:Env):List Opd->Option (List V)
 | []=>some []
 | x :: r=>match evF x e,evsF e r with
  | some v,some l=>some (v :: l)
  | _,_=>none
theorem jdR (e:Env) : ∀ l,evsF e l=evs e l
 | []=>rfl
 | x :: r=>by simp only [evsF,evs,ja6,jdR e r];rfl
theorem joC (a b:Nat):Nat.beq a b=(a == b):=by
 by_cases h:a=b
 ·subst h;simp
 ·rw [show (a == b)=false by simpa using h]
  cases e:Nat.beq a b
  ·rfl
  ·exact absurd (Nat.eq_of_beq_eq_true e) h
noncomputable def fin1 (o:Option V) (h:H):Option (V × H):=Option.rec none (fun v=>some (v,h)) o
noncomputable def finA (o:Option (Obj × (Nat->V))) (h:H) (at_:Option Nat):Option (V × H):=match o with
 | some (ob,mk)=>match at_ with
  | none=>some (mk h.nx,h.new ob)
  | some b=>some (mk b,h.set b ob)
 | none=>none
theorem ja8 (o:Option V) (h:H):fin1 o h=(match o with | some v=>some (v,h) | none=>none):=by cases o<;>rfl
noncomputable def joS (x:Opd) (e:Env):Option V :=
 match evF x e with
  | some v=>some (v)
  | none=>none
noncomputable def jnk (c:Opd) (a:Opd) (b:Opd) (e:Env):Option V :=
 match evF c e with
  | some (.bool true)=>match evF a e with
   | some v=>some (v)
   | none=>none
  | some (.bool false)=>match evF b e with
   | some v=>some (v)
   | none=>none
  | _=>none
noncomputable def jlp (zero:List V) (parts:List (Nat × Nat × Opd)) (e:Env):Option V :=
 match jbv e parts with
  | some ps=>match ja9 zero ps with
   | some l=>some (.agg l)
   | none=>none
  | none=>none
noncomputable def jlk (x:Opd) (e:Env):Option V :=
 match evF x e with
  | some (.ptr (some a))=>some (.ptr (some a))
  | some (.clo f c)=>some (.clo f c)
  | some (.yld l)=>some (.yld l)
  | some (.iface t v)=>some (.iface t v)
  | _=>none
noncomputable def jnl (name:String) (x:Opd) (e:Env):Option V :=
 match evF x e with
  | some (.iface t v)=>some (.bm name t v)
  | _=>none
noncomputable def pf_nilckB (name:String) (tbl:List (TypeId × FuncId)) (x:Opd) (e:Env):Option V :=
 match evF x e with
  | some (.bm n t v)=>bif n == name&&tbl.any (fun p=>p.1 == t) then some (.bm n t v) else none
  | _=>none
noncomputable def jop (op:BinOp) (x:Opd) (y:Opd) (e:Env):Option V :=
 match evF x e,evF y e with
  | some a,some b=>match jnP op a b with
   | some v=>some (v)
   | none=>none
  | _,_=>none
noncomputable def joT (k:EK) (neg:Bool) (x:Opd) (y:Opd) (e:Env):Option V :=
 match evF x e,evF y e with
  | some a,some b=>match eqOp k a b with
   | some r=>some (.bool (bif neg then !r else r))
   | none=>none
  | _,_=>none
noncomputable def joR (op:UnOp) (x:Opd) (e:Env):Option V :=
 match evF x e with
  | some a=>match unOp op a with
   | some v=>some (v)
   | none=>none
  | none=>none
noncomputable def jhE (k:IntKind) (x:Opd) (e:Env):Option V :=
 match evF x e with
  | some (.int _ n)=>some (.int k (jgr k n))
  | _=>none
noncomputable def jmo (x:Opd) (e:Env):Option V :=
 match evF x e with
  | some (.str s)=>some (.str s)
  | _=>none
noncomputable def jhC (t:TypeId) (x:Opd) (e:Env):Option V :=
 match evF x e with
  | some v=>some (.iface t v)
  | none=>none
noncomputable def jll (f:FuncId) (cap:List Opd) (e:Env):Option V :=
 match evsF e cap with
  | some l=>some (.clo f l)
  | none=>none
noncomputable def jjr (x:Opd) (lo:Option Opd) (hi:Option Opd) (e:Env):Option V :=
 match evF x e,evo e lo,evo e hi with
  | some (.str s),some lo,some hi=>match jbq s.length s.length lo hi none with
   | some (l,r,_)=>some (.str ((s.take r).drop l))
   | none=>none
  | _,_,_=>none
noncomputable def jlj (sz:Nat) (x:Opd) (lo:Option Opd) (hi:Option Opd) (mx:Option Opd) (e:Env):Option V :=
 match evF x e,evo e lo,evo e hi,evo e mx with
  | some (.slice a len cap),some lo,some hi,some mx=>match jbq len (cap.room len) lo hi mx with
   | some (l,r,m)=>
    match a with
    | none=>some (.slice none 0 (.fix 0))
    | some (b,o)=>match cap,mx with
     | .grow q,none=>bif Nat.beq q sz then some (.slice (some (b,o+l*sz)) (r-l) (.grow q)) else none
     | _,_=>some (.slice (some (b,o+l*sz)) (r-l) (.fix (m-l)))
   | none=>none
  | _,_,_,_=>none
noncomputable def pf_sliceA (n:Nat) (sz:Nat) (x:Opd) (lo:Option Opd) (hi:Option Opd) (mx:Option Opd) (e:Env):Option V :=
 match evF x e,evo e lo,evo e hi,evo e mx with
  | some (.ptr (some (b,o))),some lo,some hi,some mx=>match jbq n n lo hi mx with
   | some (l,r,m)=>some (.slice (some (b,o+l*sz)) (r-l) (.fix (m-l)))
   | none=>none
  | _,_,_,_=>none
noncomputable def jlo (off:Nat) (x:Opd) (e:Env):Option V :=
 match evF x e with
  | some (.ptr (some (b,o)))=>some (.ptr (some (b,o+off)))
  | _=>none
noncomputable def jln (off:Nat) (n:Option Nat) (x:Opd) (e:Env):Option V :=
 match evF x e with
  | some (.agg l)=>match part l off n with
   | some v=>some (v)
   | none=>none
  | _=>none
noncomputable def jnr (len:Nat) (sz:Nat) (x:Opd) (i:Opd) (e:Env):Option V :=
 match evF x e,evF i e with
  | some (.ptr (some (b,o))),some (.int _ n)=>bif jeu n len then some (.ptr (some (b,o+n.toNat*sz))) else none
  | _,_=>none
noncomputable def jnq (sz:Nat) (x:Opd) (i:Opd) (e:Env):Option V :=
 match evF x e,evF i e with
  | some (.slice (some (b,o)) len _),some (.int _ n)=>bif jeu n len then some (.ptr (some (b,o+n.toNat*sz))) else none
  | _,_=>none
noncomputable def joo (len:Nat) (sz:Nat) (n:Option Nat) (x:Opd) (i:Opd) (e:Env):Option V :=
 match evF x e,evF i e with
  | some (.agg l),some (.int _ k)=>bif jeu k len then
    match part l (k.toNat*sz) n with
    | some v=>some (v)
    | none=>none
   else none
  | _,_=>none
noncomputable def jlm (x:Opd) (i:Opd) (e:Env):Option V :=
 match evF x e,evF i e with
  | some (.str s),some (.int _ n)=>bif jeu n s.length then
    match s[n.toNat]? with
    | some b=>some (jfh b)
    | none=>none
   else none
  | _,_=>none
noncomputable def jmn (t:TypeId) (zero:V) (ok:Bool) (x:Opd) (e:Env):Option V :=
 match evF x e with
  | some (.iface u v)=>bif Nat.beq u t then some (if ok then .tup [v,.bool true] else v) else if ok then some (.tup [zero,.bool false]) else none
  | some .nili=>if ok then some (.tup [zero,.bool false]) else none
  | _=>none
noncomputable def jno (x:Opd) (e:Env):Option V :=
 match evF x e with
  | some (.str s)=>some (.int .i64 s.length)
  | _=>none
noncomputable def jnp (x:Opd) (e:Env):Option V :=
 match evF x e with
  | some (.slice _ n _)=>some (.int .i64 n)
  | _=>none
noncomputable def jhD (x:Opd) (i:Nat) (e:Env):Option V :=
 match evF x e with
  | some (.tup l)=>match l[i]? with
   | some v=>some (v)
   | none=>none
  | _=>none
noncomputable def jnm (xs:List Opd) (e:Env):Option V :=
 match evsF e xs with
  | some (a :: r)=>match jiE minV a r with
   | some v=>some (v)
   | none=>none
  | _=>none
noncomputable def jnn (xs:List Opd) (e:Env):Option V :=
 match evsF e xs with
  | some (a :: r)=>match jiE maxV a r with
   | some v=>some (v)
   | none=>none
  | _=>none
noncomputable def jld (a:Opd) (e:Env) (h:H):Option V :=
 match evF a e with
  | some (.ptr (some (b,o)))=>match h.load1 b o with
   | some v=>some (v)
   | none=>none
  | _=>none
noncomputable def jlc (n:Nat) (a:Opd) (e:Env) (h:H):Option V :=
 match evF a e with
  | some (.ptr (some (b,o)))=>match h.load b o n with
   | some l=>some (.agg l)
   | none=>none
  | _=>none
noncomputable def jh6 (x:Opd) (e:Env) (h:H):Option V :=
 match evF x e with
  | some (.slice none _ _)=>some (.str [])
  | some (.slice (some (b,o)) n _)=>bif n == 0 then some (.str []) else
   match h.load b o n with
   | some l=>match bytesOf l with
    | some s=>some (.str s)
    | none=>none
   | none=>none
  | _=>none
noncomputable def jjg (ks:KS) (zero:V) (ok:Bool) (m:Opd) (k:Opd) (e:Env) (h:H):Option V :=
 match evF m e,evF k e with
  | some (.map none),some k=>match jeX ks k [] with
   | some _=>some (if ok then .tup [zero,.bool false] else zero)
   | none=>none
  | some (.map (some r)),some k=>match h.map? r with
   | some (es,_)=>match jeX ks k es with
    | some (some (_,v,_))=>some (if ok then .tup [v,.bool true] else v)
    | some none=>some (if ok then .tup [zero,.bool false] else zero)
    | none=>none
   | none=>none
  | _,_=>none
noncomputable def rf_lenM (x:Opd) (e:Env) (h:H):Option V :=
 match evF x e with
  | some (.map none)=>some (.int .i64 0)
  | some (.map (some r))=>match h.map? r with
   | some (es,_)=>some (.int .i64 es.length)
   | none=>none
  | _=>none
noncomputable def jle (x:Opd) (e:Env) (h:H):Option V :=
 match evF x e with
  | some (.ptr (some (b,0)))=>match h.get b with
   | some (.iter (some r) _ seen last)=>match h.map? r,seen.getLast? with
    | some (es,c),some st=>bif Nat.beq c last then
      match es.find? (fun x=>Nat.beq x.2.2 st) with
      | some (k,v,_)=>some (.tup [k,v])
      | none=>none
     else none
    | _,_=>none
   | _=>none
  | _=>none
noncomputable def jlu (_x0:Nat) (zero:List V) (_e:Env):Option (Obj × (Nat->V)) :=
 some (.cells zero false,fun b=>.ptr (some (b,0)))
noncomputable def joy (_x0:Nat) (x:Opd) (e:Env):Option (Obj × (Nat->V)) :=
 match evF x e with
  | some v=>some (.cells v.cells false,fun b=>.ptr (some (b,0)))
  | none=>none
noncomputable def jjy (sz:Nat) (len:Nat) (zero:List V) (parts:List (Nat × Opd)) (e:Env):Option (Obj × (Nat->V)) :=
 match jbv e (parts.map fun p=>(p.1*sz,sz,p.2)) with
  | some ps=>match ja9 zero ps with
   | some l=>some (.cells l false,fun b=>.slice (some (b,0)) len (.fix len))
   | none=>none
  | none=>none
noncomputable def jmt (x:Opd) (e:Env):Option (Obj × (Nat->V)) :=
 match evF x e with
  | some (.str s)=>bif Nat.ble s.length (2 ^ 46) then some (.cells (s.map jfh) false,fun b=>.slice (some (b,0)) s.length (.grow 1)) else none
  | _=>none
noncomputable def jlt  (_e:Env):Option (Obj × (Nat->V)) :=
 some (.map [] 0,fun b=>.map (some b))
noncomputable def jhJ (_x0:Nat) (bytes:Nat) (zero:List V) (len:Opd) (cap:Opd) (e:Env):Option (Obj × (Nat->V)) :=
 match len.ev e,cap.ev e with
  | some (.int _ (.ofNat l)),some (.int _ (.ofNat c))=>
   bif Nat.ble l c&&Nat.ble (c*bytes) (2 ^ 46)&&Nat.ble c (2 ^ 46) then some (.cells (List.replicate c zero).flatten false,fun b=>.slice (some (b,0)) l (.fix c)) else none
  | _,_=>none
noncomputable def jl4 (n:Nat) (a:Opd) (x:Opd) (_call:Call) (e:Env) (h:H):Option (V × H) :=
 match evF a e,evF x e with
  | some (.ptr (some (b,o))),some v=>
   bif Nat.beq v.cells.length n then
    match h.store b o v.cells with
    | some h'=>some (.undef,h')
    | none=>none
   else none
  | _,_=>none
noncomputable def jnE (ks:KS) (m:Opd) (k:Opd) (v:Opd) (_call:Call) (e:Env) (h:H):Option (V × H) :=
 match evF m e,evF k e,evF v e with
  | some (.map (some r)),some k,some v=>match h.map? r with
   | some (es,c)=>match jeX ks k es with
    | some (some (i,_,born))=>some (.undef,h.set r (.map (es.set i (k,v,born)) c))
    | some none=>some (.undef,h.set r (.map (es++[(k,v,c)]) (c+1)))
    | none=>none
   | none=>none
  | _,_,_=>none
noncomputable def ef_mentry (ks:KS) (zero:V) (m:Opd) (k:Opd) (_call:Call) (e:Env) (h:H):Option (V × H) :=
 match evF m e,evF k e with
  | some (.map (some r)),some k=>match h.map? r with
   | some (es,c)=>match jeX ks k es with
    | some (some (i,v,born))=>some (.tup [v,.int .i64 born],h.set r (.map (es.set i (k,v,born)) c))
    | some none=>some (.tup [zero,.int .i64 c],h.set r (.map (es++[(k,zero,c)]) (c+1)))
    | none=>none
   | none=>none
  | _,_=>none
noncomputable def jm8 (m:Opd) (s:Opd) (v:Opd) (_call:Call) (e:Env) (h:H):Option (V × H) :=
 match evF m e,evF s e,evF v e with
  | some (.map (some r)),some (.int _ st),some v=>match h.map? r with
   | some (es,c)=>match es.findIdx? (fun x=>(x.2.2:Int) == st) with
    | some i=>match es[i]? with
     | some x=>some (.undef,h.set r (.map (es.set i (x.1,v,x.2.2)) c))
     | none=>none
    | none=>none
   | none=>none
  | _,_,_=>none
noncomputable def jnF (ks:KS) (m:Opd) (k:Opd) (_call:Call) (e:Env) (h:H):Option (V × H) :=
 match evF m e,evF k e with
  | some (.map none),some k=>match jeX ks k [] with
   | some _=>some (.undef,h)
   | none=>none
  | some (.map (some r)),some k=>match h.map? r with
   | some (es,c)=>match jeX ks k es with
    | some (some (i,_,_))=>some (.undef,h.set r (.map (es.eraseIdx i) c))
    | some none=>some (.undef,h)
    | none=>none
   | none=>none
  | _,_=>none
noncomputable def jl5 (str:Bool) (x:Opd) (_call:Call) (e:Env) (h:H):Option (V × H) :=
 match str,evF x e with
  | true,some (.str s)=>some (.ptr (some (h.nx,0)),h.new (.siter s 0))
  | false,some (.map none)=>some (.ptr (some (h.nx,0)),h.new (.iter none 0 [] 0))
  | false,some (.map (some r))=>match h.map? r with
   | some (_,c)=>some (.ptr (some (h.nx,0)),h.new (.iter (some r) c [] c))
   | none=>none
  | _,_=>none
noncomputable def jnD (str:Bool) (x:Opd) (_call:Call) (e:Env) (h:H):Option (V × H) :=
 match evF x e with
  | some (.ptr (some (b,0)))=>match str,h.get b with
   | true,some (.siter s pos)=>match s[pos]? with
    | none=>some (.tup [.bool false],h)
    | some c=>bif Nat.blt c.toNat 128 then some (.tup [.bool true,.i pos,.int .i32 c.toNat],h.set b (.siter s (pos+1))) else none
   | false,some (.iter none _ _ _)=>some (.tup [.bool false],h)
   | false,some (.iter (some r) since seen last)=>match h.map? r with
    | some (es,c)=>bif jhR seen last es then none else
     match jmO seen es with
     | []=>some (.tup [.bool false],h)
     | [(k,v,born)]=>bif Nat.blt born since then some (.tup [.bool true,k,v],h.set b (.iter (some r) since (seen++[born]) c)) else none
     | _=>none
    | none=>none
   | _,_=>none
  | _=>none
noncomputable def jnI (f:FuncId) (args:List Opd) (call:Call) (e:Env) (h:H):Option (V × H) :=
 match evsF e args with
  | some l=>call (.fn f) l h
  | none=>none
noncomputable def jl6 (x:Opd) (args:List Opd) (call:Call) (e:Env) (h:H):Option (V × H) :=
 match evF x e,evsF e args with
  | some (.clo f cap),some l=>call (.fn f) (l++cap) h
  | some (.yld r),some l=>call (.yld r) l h
  | _,_=>none
noncomputable def jl7 (ms:MT) (x:Opd) (args:List Opd) (call:Call) (e:Env) (h:H):Option (V × H) :=
 match evF x e,evsF e args with
  | some (.clo f cap),some l=>call (.fn f) (l++cap) h
  | some (.yld r),some l=>call (.yld r) l h
  | some (.bm n t v),some l=>match ms.find? (fun p=>p.1 == n) with
   | some (_,tbl)=>match tbl.find? (fun p=>p.1 == t) with
    | some (_,f)=>call (.fn f) (v :: l) h
    | none=>none
   | none=>none
  | _,_=>none
noncomputable def jjC (tbl:List (TypeId × FuncId)) (x:Opd) (args:List Opd) (call:Call) (e:Env) (h:H):Option (V × H) :=
 match evF x e,evsF e args with
  | some (.iface t v),some l=>match tbl.find? (fun p=>p.1 == t) with
   | some (_,f)=>call (.fn f) (v :: l) h
   | none=>none
  | _,_=>none
noncomputable def jjD (sz:Nat) (bytes:Nat) (x:Opd) (y:Opd) (_call:Call) (e:Env) (h:H):Option (V × H) :=
 match evF x e,evF y e with
  | some a,some b=>jbc h sz bytes a b
  | _,_=>none
noncomputable def jnH (sz:Nat) (x:Opd) (y:Opd) (_call:Call) (e:Env) (h:H):Option (V × H) :=
 match evF x e,evF y e with
  | some a,some b=>jh0 h sz a b
  | _,_=>none
noncomputable def jnG (x:Opd) (_call:Call) (e:Env) (h:H):Option (V × H) :=
 match evF x e with
  | some (.slice (some (b,o)) n c)=>match h.get b with
   | some (.cells _ false)=>bif Nat.ble 1 n then some (.slice (some (b,o)) n c,h) else none
   | _=>none
  | _=>none
abbrev RunT:=Call->Env->H->Option Nat->Option (V × H)
noncomputable def joH (q0:Opd):RunT:=fun _ e h _=>fin1 (joS q0 e) h
noncomputable def jku (q0:Opd) (q1:Opd) (q2:Opd):RunT:=fun _ e h _=>fin1 (jnk q0 q1 q2 e) h
noncomputable def jiA (q0:Nat) (q1:List V):RunT:=fun _ e h a=>finA (jlu q0 q1 e) h a
noncomputable def jn8 (q0:Nat) (q1:Opd):RunT:=fun _ e h a=>finA (joy q0 q1 e) h a
noncomputable def ji9 (q0:List V) (q1:List (Nat × Nat × Opd)):RunT:=fun _ e h _=>fin1 (jlp q0 q1 e) h
noncomputable def jgO (q0:Nat) (q1:Nat) (q2:List V) (q3:List (Nat × Opd)):RunT:=fun _ e h a=>finA (jjy q0 q1 q2 q3 e) h a
noncomputable def ji2 (q0:Opd):RunT:=fun _ e h _=>fin1 (jld q0 e h) h
noncomputable def ji1 (q0:Nat) (q1:Opd):RunT:=fun _ e h _=>fin1 (jlc q0 q1 e h) h
noncomputable def jiv (q0:Nat) (q1:Opd) (q2:Opd):RunT:=fun call e h _=>jl4 q0 q1 q2 call e h
noncomputable def jiy (q0:Opd):RunT:=fun _ e h _=>fin1 (jlk q0 e) h
noncomputable def jkx (q0:String) (q1:Opd):RunT:=fun _ e h _=>fin1 (jnl q0 q1 e) h
noncomputable def go_nilckB (q0:String) (q1:List (TypeId × FuncId)) (q2:Opd):RunT:=fun _ e h _=>fin1 (pf_nilckB q0 q1 q2 e) h
noncomputable def jn9 (q0:BinOp) (q1:Opd) (q2:Opd):RunT:=fun _ e h _=>fin1 (jop q0 q1 q2 e) h
noncomputable def joI (q0:EK) (q1:Bool) (q2:Opd) (q3:Opd):RunT:=fun _ e h _=>fin1 (joT q0 q1 q2 q3 e) h
noncomputable def joG (q0:UnOp) (q1:Opd):RunT:=fun _ e h _=>fin1 (joR q0 q1 e) h
noncomputable def jf9 (q0:IntKind) (q1:Opd):RunT:=fun _ e h _=>fin1 (jhE q0 q1 e) h
noncomputable def jm4 (q0:Opd):RunT:=fun _ e h _=>fin1 (jmo q0 e) h
noncomputable def jm1 (q0:Opd):RunT:=fun _ e h a=>finA (jmt q0 e) h a
noncomputable def jf5 (q0:Opd):RunT:=fun _ e h _=>fin1 (jh6 q0 e h) h
noncomputable def jk1 (q0:Opd):RunT:=fun call e h _=>jnG q0 call e h
noncomputable def jk6  : RunT:=fun _ _ _ _=>none
noncomputable def jf7 (q0:TypeId) (q1:Opd):RunT:=fun _ e h _=>fin1 (jhC q0 q1 e) h
noncomputable def ji0 (q0:FuncId) (q1:List Opd):RunT:=fun _ e h _=>fin1 (jll q0 q1 e) h
noncomputable def jiz  : RunT:=fun _ e h a=>finA (jlt  e) h a
noncomputable def jf6 (q0:Nat) (q1:Nat) (q2:List V) (q3:Opd) (q4:Opd):RunT:=fun _ e h a=>finA (jhJ q0 q1 q2 q3 q4 e) h a
noncomputable def jgL (q0:Opd) (q1:Option Opd) (q2:Option Opd):RunT:=fun _ e h _=>fin1 (jjr q0 q1 q2 e) h
noncomputable def jiw (q0:Nat) (q1:Opd) (q2:Option Opd) (q3:Option Opd) (q4:Option Opd):RunT:=fun _ e h _=>fin1 (jlj q0 q1 q2 q3 q4 e) h
noncomputable def go_sliceA (q0:Nat) (q1:Nat) (q2:Opd) (q3:Option Opd) (q4:Option Opd) (q5:Option Opd):RunT:=fun _ e h _=>fin1 (pf_sliceA q0 q1 q2 q3 q4 q5 e) h
noncomputable def ji5 (q0:Nat) (q1:Opd):RunT:=fun _ e h _=>fin1 (jlo q0 q1 e) h
noncomputable def ji4 (q0:Nat) (q1:Option Nat) (q2:Opd):RunT:=fun _ e h _=>fin1 (jln q0 q1 q2 e) h
noncomputable def jk5 (q0:Nat) (q1:Nat) (q2:Opd) (q3:Opd):RunT:=fun _ e h _=>fin1 (jnr q0 q1 q2 q3 e) h
noncomputable def jk4 (q0:Nat) (q1:Opd) (q2:Opd):RunT:=fun _ e h _=>fin1 (jnq q0 q1 q2 e) h
noncomputable def jn7 (q0:Nat) (q1:Nat) (q2:Option Nat) (q3:Opd) (q4:Opd):RunT:=fun _ e h _=>fin1 (joo q0 q1 q2 q3 q4 e) h
noncomputable def ji3 (q0:Opd) (q1:Opd):RunT:=fun _ e h _=>fin1 (jlm q0 q1 e) h
noncomputable def jgM (q0:KS) (q1:V) (q2:Bool) (q3:Opd) (q4:Opd):RunT:=fun _ e h _=>fin1 (jjg q0 q1 q2 q3 q4 e h) h
noncomputable def jkw (q0:KS) (q1:Opd) (q2:Opd) (q3:Opd):RunT:=fun call e h _=>jnE q0 q1 q2 q3 call e h
noncomputable def go_mentry (q0:KS) (q1:V) (q2:Opd) (q3:Opd):RunT:=fun call e h _=>ef_mentry q0 q1 q2 q3 call e h
noncomputable def jm3 (q0:Opd) (q1:Opd) (q2:Opd):RunT:=fun call e h _=>jm8 q0 q1 q2 call e h
noncomputable def jkz (q0:KS) (q1:Opd) (q2:Opd):RunT:=fun call e h _=>jnF q0 q1 q2 call e h
noncomputable def jix (q0:Bool) (q1:Opd):RunT:=fun call e h _=>jl5 q0 q1 call e h
noncomputable def jkv (q0:Bool) (q1:Opd):RunT:=fun call e h _=>jnD q0 q1 call e h
noncomputable def ji6 (q0:Opd):RunT:=fun _ e h _=>fin1 (jle q0 e h) h
noncomputable def jm2 (q0:TypeId) (q1:V) (q2:Bool) (q3:Opd):RunT:=fun _ e h _=>fin1 (jmn q0 q1 q2 q3 e) h
noncomputable def jf8 (q0:Opd) (q1:Nat):RunT:=fun _ e h _=>fin1 (jhD q0 q1 e) h
noncomputable def jk8 (q0:FuncId) (q1:List Opd):RunT:=fun call e h _=>jnI q0 q1 call e h
noncomputable def ji7 (q0:Opd) (q1:List Opd):RunT:=fun call e h _=>jl6 q0 q1 call e h
noncomputable def ji8 (q0:MT) (q1:Opd) (q2:List Opd):RunT:=fun call e h _=>jl7 q0 q1 q2 call e h
noncomputable def jgN (q0:List (TypeId × FuncId)) (q1:Opd) (q2:List Opd):RunT:=fun call e h _=>jjC q0 q1 q2 call e h
noncomputable def jk2 (q0:Opd):RunT:=fun _ e h _=>fin1 (jno q0 e) h
noncomputable def jk3 (q0:Opd):RunT:=fun _ e h _=>fin1 (jnp q0 e) h
noncomputable def go_lenM (q0:Opd):RunT:=fun _ e h _=>fin1 (rf_lenM q0 e h) h
noncomputable def jgP (q0:Nat) (q1:Nat) (q2:Opd) (q3:Opd):RunT:=fun call e h _=>jjD q0 q1 q2 q3 call e h
noncomputable def jk7 (q0:Nat) (q1:Opd) (q2:Opd):RunT:=fun call e h _=>jnH q0 q1 q2 call e h
noncomputable def jky (q0:List Opd):RunT:=fun _ e h _=>fin1 (jnm q0 e) h
noncomputable def jk0 (q0:List Opd):RunT:=fun _ e h _=>fin1 (jnn q0 e) h
noncomputable def runF (i:I):RunT :=
 I.rec (motive:=fun _=>RunT) joH jku jiA jn8 ji9 jgO ji2 ji1 jiv jiy jkx jn9 joI joG jf9 jf5 jk1 jk6 jf7 ji0 jiz jf6 jgL jiw ji5 ji4 jk5 jk4 jn7 ji3 jgM jkw jkz jix jkv ji6 jf8 jk8 ji7 ji8 jgN jk2 jk3 jgP jk7 jky jk0 i
theorem runF_eq (i:I) (call:Call) (e:Env) (h:H) (a:Option Nat):runF i call e h a=i.run call e h a:=by
 cases i
 case mv q0=>
  show joH q0 call e h a=_
  simp only [joH,joS,I.run,I.cls,I.pure,ja8,ja6]<;>rfl
 case pick q0 q1 q2=>
  show jku q0 q1 q2 call e h a=_
  simp only [jku,jnk,I.run,I.cls,I.pure,ja8,ja6]<;>rfl
 case alloc q0 q1=>
  show jiA q0 q1 call e h a=_
  simp only [jiA,jlu,I.run,I.cls,I.make,finA]<;>rfl
 case box q0 q1=>
  show jn8 q0 q1 call e h a=_
  simp only [jn8,joy,I.run,I.cls,I.make,finA,ja6]<;>rfl
 case build q0 q1=>
  show ji9 q0 q1 call e h a=_
  simp only [ji9,jlp,I.run,I.cls,I.pure,ja8]<;>rfl
 case bslice q0 q1 q2 q3=>
  show jgO q0 q1 q2 q3 call e h a=_
  simp only [jgO,jjy,I.run,I.cls,I.make,finA]<;>rfl
 case load1 q0=>
  show ji2 q0 call e h a=_
  simp only [ji2,jld,I.run,I.cls,I.read,ja8,ja6]<;>rfl
 case loadN q0 q1=>
  show ji1 q0 q1 call e h a=_
  simp only [ji1,jlc,I.run,I.cls,I.read,ja8,ja6]<;>rfl
 case store q0 q1 q2=>
  show jiv q0 q1 q2 call e h a=_
  simp only [jiv,jl4,I.run,I.cls,I.eff,ja6,joC]<;>rfl
 case nilck q0=>
  show jiy q0 call e h a=_
  simp only [jiy,jlk,I.run,I.cls,I.pure,ja8,ja6]<;>rfl
 case mkBm q0 q1=>
  show jkx q0 q1 call e h a=_
  simp only [jkx,jnl,I.run,I.cls,I.pure,ja8,ja6]<;>rfl
 case bin q0 q1 q2=>
  show jn9 q0 q1 q2 call e h a=_
  simp only [jn9,jop,I.run,I.cls,I.pure,ja8,ja6,binOpF_eq]<;>rfl
 case eq q0 q1 q2 q3=>
  show joI q0 q1 q2 q3 call e h a=_
  simp only [joI,joT,I.run,I.cls,I.pure,ja8,ja6]<;>rfl
 case un q0 q1=>
  show joG q0 q1 call e h a=_
  simp only [joG,joR,I.run,I.cls,I.pure,ja8,ja6]<;>rfl
 case convInt q0 q1=>
  show jf9 q0 q1 call e h a=_
  simp only [jf9,jhE,I.run,I.cls,I.pure,ja8,ja6,jcn]<;>rfl
 case ofBytes q0=>
  show jf5 q0 call e h a=_
  simp only [jf5,jh6,I.run,I.cls,I.read,ja8,ja6]<;>rfl
 case mark q0=>
  show jk1 q0 call e h a=_
  simp only [jk1,jnG,I.run,I.cls,I.eff,ja6]<;>rfl
 case fail =>
  show jk6  call e h a=_
  simp only [jk6,I.run,I.cls,I.pure]<;>rfl
 case mkIface q0 q1=>
  show jf7 q0 q1 call e h a=_
  simp only [jf7,jhC,I.run,I.cls,I.pure,ja8,ja6]<;>rfl
 case mkClo q0 q1=>
  show ji0 q0 q1 call e h a=_
  simp only [ji0,jll,I.run,I.cls,I.pure,ja8,jdR]<;>rfl
 case mkMap =>
  show jiz  call e h a=_
  simp only [jiz,jlt,I.run,I.cls,I.make,finA]<;>rfl
 case mkSlice q0 q1 q2 q3 q4=>
  show jf6 q0 q1 q2 q3 q4 call e h a=_
  simp only [jf6,jhJ,I.run,I.cls,I.make,finA]<;>rfl
 case sliceS q0 q1 q2=>
  show jgL q0 q1 q2 call e h a=_
  simp only [jgL,jjr,I.run,I.cls,I.pure,ja8,ja6]<;>rfl
 case slice q0 q1 q2 q3 q4=>
  show jiw q0 q1 q2 q3 q4 call e h a=_
  simp only [jiw,jlj,I.run,I.cls,I.pure,ja8,ja6]<;>rfl
 case faddr q0 q1=>
  show ji5 q0 q1 call e h a=_
  simp only [ji5,jlo,I.run,I.cls,I.pure,ja8,ja6]<;>rfl
 case field q0 q1 q2=>
  show ji4 q0 q1 q2 call e h a=_
  simp only [ji4,jln,I.run,I.cls,I.pure,ja8,ja6]<;>rfl
 case ixaA q0 q1 q2 q3=>
  show jk5 q0 q1 q2 q3 call e h a=_
  simp only [jk5,jnr,I.run,I.cls,I.pure,ja8,ja6]<;>rfl
 case ixaS q0 q1 q2=>
  show jk4 q0 q1 q2 call e h a=_
  simp only [jk4,jnq,I.run,I.cls,I.pure,ja8,ja6]<;>rfl
 case ixA q0 q1 q2 q3 q4=>
  show jn7 q0 q1 q2 q3 q4 call e h a=_
  simp only [jn7,joo,I.run,I.cls,I.pure,ja8,ja6]<;>rfl
 case ixStr q0 q1=>
  show ji3 q0 q1 call e h a=_
  simp only [ji3,jlm,I.run,I.cls,I.pure,ja8,ja6]<;>rfl
 case lookup q0 q1 q2 q3 q4=>
  show jgM q0 q1 q2 q3 q4 call e h a=_
  simp only [jgM,jjg,I.run,I.cls,I.read,ja8,ja6]<;>rfl
 case mput q0 q1 q2 q3=>
  show jkw q0 q1 q2 q3 call e h a=_
  simp only [jkw,jnE,I.run,I.cls,I.eff,ja6]<;>rfl
 case mdel q0 q1 q2=>
  show jkz q0 q1 q2 call e h a=_
  simp only [jkz,jnF,I.run,I.cls,I.eff,ja6]<;>rfl
 case range q0 q1=>
  show jix q0 q1 call e h a=_
  simp only [jix,jl5,I.run,I.cls,I.eff,ja6]<;>rfl
 case next q0 q1=>
  show jkv q0 q1 call e h a=_
  simp only [jkv,jnD,I.run,I.cls,I.eff,ja6]<;>rfl
 case entry q0=>
  show ji6 q0 call e h a=_
  simp only [ji6,jle,I.run,I.cls,I.read,ja8,ja6]<;>rfl
 case extract q0 q1=>
  show jf8 q0 q1 call e h a=_
  simp only [jf8,jhD,I.run,I.cls,I.pure,ja8,ja6]<;>rfl
 case call q0 q1=>
  show jk8 q0 q1 call e h a=_
  simp only [jk8,jnI,I.run,I.cls,I.eff,jdR]<;>rfl
 case callv q0 q1=>
  show ji7 q0 q1 call e h a=_
  simp only [ji7,jl6,I.run,I.cls,I.eff,ja6,jdR]<;>rfl
 case callb q0 q1 q2=>
  show ji8 q0 q1 q2 call e h a=_
  simp only [ji8,jl7,I.run,I.cls,I.eff,ja6,jdR]<;>rfl
 case invoke q0 q1 q2=>
  show jgN q0 q1 q2 call e h a=_
  simp only [jgN,jjC,I.run,I.cls,I.eff,ja6,jdR]<;>rfl
 case lenS q0=>
  show jk2 q0 call e h a=_
  simp only [jk2,jno,I.run,I.cls,I.pure,ja8,ja6]<;>rfl
 case lenL q0=>
  show jk3 q0 call e h a=_
  simp only [jk3,jnp,I.run,I.cls,I.pure,ja8,ja6]<;>rfl
 case append q0 q1 q2 q3=>
  show jgP q0 q1 q2 q3 call e h a=_
  simp only [jgP,jjD,I.run,I.cls,I.eff,ja6]<;>rfl
 case copy q0 q1 q2=>
  show jk7 q0 q1 q2 call e h a=_
  simp only [jk7,jnH,I.run,I.cls,I.eff,ja6]<;>rfl
 case minI q0=>
  show jky q0 call e h a=_
  simp only [jky,jnm,I.run,I.cls,I.pure,ja8,jdR]<;>rfl
 case maxI q0=>
  show jk0 q0 call e h a=_
  simp only [jk0,jnn,I.run,I.cls,I.pure,ja8,jdR]<;>rfl
noncomputable def jjw (e:Env):List Nat->Env
 | []=>[]
 | s :: r=>match getF e s with
  | some v=>(s,v) :: jjw e r
  | none=>jjw e r
theorem jgl (e:Env) : ∀ l,jjw e l=e.only l
 | []=>rfl
 | s :: r=>by simp only [jjw,Env.only,jiC,jgl e r];rfl
noncomputable def jo9 (e:Env):Option (Nat × Bool)->Bool
 | none=>true
 | some (j,want)=>match getF e j with
  | some (.bool b)=>b == want
  | _=>false
theorem wantF_eq (e:Env) (g:Option (Nat × Bool)):jo9 e g=wanted e g:=by
 cases g with
 | none=>rfl
 | some g=>obtain ⟨j,w⟩:=g;simp only [jo9,wanted,jiC];rfl
noncomputable def joV (s:Ins) (e:Env) (k:Env->H->Option (Env × H)) (o:Option (V × H)):Option (Env × H):=match o with
 | some (v,h')=>match s.chk with
  | []=>k (layv e s.dst v) h'
  | c=>bif jaG e h' c then k (layv e s.dst v) h' else none
 | none=>none
noncomputable def opF (s:Ins) (call:Call) (base:Nat) (e:Env) (h:H) (k:Env->H->Option (Env × H)):Option (Env × H) :=
 bif jo9 e s.guard then joV s e k (runF s.i call e h (s.at_.map (base + ·))) else k (layv e s.dst .undef) h
noncomputable def jg3 (l:List Ins):Call->Nat->Env->H->Option (Env × H) :=
 List.rec (motive:=fun _=>Call->Nat->Env->H->Option (Env × H)) (fun _ _ e h=>some (e,h)) (fun s _ ih call base e h=>opF s call base e h (ih call base)) l
theorem jh4 : ∀ (l:List Ins) (call:Call) (base:Nat) (e:Env) (h:H),jg3 l call base e h=jay call base l e h
 | [],_,_,_,_=>rfl
 | s :: r,call,base,e,h=>by
  show opF s call base e h (jg3 r call base)=_
  have ih:jg3 r call base=jay call base r:=by funext e h;exact jh4 r call base e h
  rw [ih]
  have hd:jay call base (s :: r) e h=(bif wanted e s.guard then
   match s.i.run call e h (s.at_.map (base + ·)) with
   | some (v,h')=>bif jaG e h' s.chk then jay call base r (layv e s.dst v) h' else none
   | none=>none
  else jay call base r (layv e s.dst .undef) h):=rfl
  rw [hd]
  unfold opF
  rw [wantF_eq,runF_eq]
  generalize wanted e s.guard=g
  cases g
  ·rfl
  ·simp only [cond_true]
   unfold joV
   cases I.run call e h (Option.map (fun x=>base+x) s.at_) s.i with
   | none=>rfl
   | some q=>
    obtain ⟨v,h'⟩:=q
    simp only
    cases s.chk with
    | nil=>simp [jaG]
    | cons _ _=>rfl
abbrev DT:=Call->Nat->Env->H->Res
noncomputable def joD (keep:List Nat) (o:Option (Env × H)):Res:=match o with
 | some (e',h')=>some (.normal,jjw e' keep,h')
 | none=>none
noncomputable def jof (r:Res) (k:Env->H->Res):Res:=match r with
 | some (.normal,e',h')=>k e' h'
 | r=>r
noncomputable def jn2 (c:Option V) (a b:Env->H->Res) (e:Env) (h:H):Res:=match c with
 | some (.bool true)=>a e h
 | some (.bool false)=>b e h
 | _=>none
noncomputable def jkt (id:Nat) (r:Res):Res:=match r with
 | some (.exit id',e',h')=>bif Nat.beq id' id then some (.normal,e',h') else some (.exit id',e',h')
 | r=>r
noncomputable def jn3 (body:Env->H->Res) (live:List Nat) (n:Nat):Env->H->Res :=
 Nat.rec (motive:=fun _=>Env->H->Res) (fun _ _=>none) (fun _ ih e h=>jof (body (jjw e live) h) ih) n
theorem jly (body:Env->H->Res) (live:List Nat) : ∀ (n:Nat) (e:Env) (h:H),jn3 body live n e h=iter body live n e h
 | 0,_,_=>rfl
 | n+1,e,h=>by
  show jof (body (jjw e live) h) (jn3 body live n)=_
  have ih:jn3 body live n=iter body live n:=by funext e h;exact jly body live n e h
  rw [ih,jgl];rfl
noncomputable def jks (f:Option V) (params live:List Nat) (assign body:AC) (call:Call) (e:Env) (h:H):Res :=
  match f with
  | some (.clo g cap)=>
   match call (.fn g) (.yld h.nx :: cap) (h.new (.loop .ready none params (jjw e live) assign body)) with
   | some (_,h')=>
    match h'.get h.nx with
    | some (.loop st pend _ _ _ _)=>
     match st with
     | .busy=>none
     | _=>match pend with
      | none=>some (.normal,e,h'.kill h.nx)
      | some ex=>some (ex,e,h'.kill h.nx)
    | _=>none
   | none=>none
  | _=>none
noncomputable def DF (c:AC):DT:=AC.rec (motive:=fun _=>DT)
 (fun _ _ e h=>some (.normal,e,h))
 (fun res ops keep call _ e h=>joD keep (jg3 ops call h.nx e (h.reserve res)))
 (fun _ _ iha ihb call fuel e h=>jof (iha call fuel e h) (ihb call fuel))
 (fun c _ _ iha ihb call fuel e h=>jn2 (evF c e) (iha call fuel) (ihb call fuel) e h)
 (fun id _ ih call fuel e h=>jkt id (ih call fuel e h))
 (fun live _ ih call fuel e h=>jn3 (ih call fuel) live fuel e h)
 (fun f params live assign body _ _ call _ e h=>jks (evF f e) params live assign body call e h)
 (fun id _ _ e h=>some (.exit id,e,h))
 (fun _ _ e h=>some (.ret,e,h))
 (fun _ ih=>ih)
 (fun _ _ _ e h=>some (.normal,e,h)) c
theorem jiP : ∀ (c:AC) (call:Call) (fuel:Nat) (e:Env) (h:H),DF c call fuel e h=D call fuel c e h
 | .skip,_,_,_,_=>rfl
 | .label _,_,_,_,_=>rfl
 | .exit _,_,_,_,_=>rfl
 | .ret,_,_,_,_=>rfl
 | .scope a,call,fuel,e,h=>jiP a call fuel e h
 | .region res ops keep,call,fuel,e,h=>by
  show joD keep (jg3 ops call h.nx e (h.reserve res))=_
  rw [jh4];simp only [D,joD,jgl]
  cases jay call h.nx ops e (h.reserve res)<;>rfl
 | .seq a b,call,fuel,e,h=>by
  show jof (DF a call fuel e h) (DF b call fuel)=_
  have ih:DF b call fuel=D call fuel b:=by funext e h;exact jiP b call fuel e h
  rw [ih,jiP a];rfl
 | .cond c a b,call,fuel,e,h=>by
  show jn2 (evF c e) (DF a call fuel) (DF b call fuel) e h=_
  simp only [jn2,D,ja6,jiP a,jiP b];rfl
 | .block id a,call,fuel,e,h=>by
  show jkt id (DF a call fuel e h)=_
  rw [jiP a];simp only [jkt,D,joC];rfl
 | .loop live a,call,fuel,e,h=>by
  show jn3 (DF a call fuel) live fuel e h=_
  have ih:DF a call fuel=D call fuel a:=by funext e h;exact jiP a call fuel e h
  rw [ih,jly];rfl
 | .rangeFunc f params live assign body,call,fuel,e,h=>by
  show jks (evF f e) params live assign body call e h=_
  simp only [jks,D,ja6,jgl];rfl
noncomputable def jna (call:Call) (fuel:Nat) (fn:AFn) (args:List V) (h:H):Option (V × H) :=
 bif Nat.beq args.length fn.np then
  match DF fn.body call fuel (Env.ofArgs args 0) h with
  | some (.exit _,_,_)=>none
  | some (_,e,h')=>match jde e h' fn.res with
   | some l=>some (jdx l,h')
   | none=>none
  | none=>none
 else none
theorem runFnF_eq (call:Call) (fuel:Nat) (fn:AFn) (args:List V) (h:H):jna call fuel fn args h=jg4 call fuel fn args h:=by
 simp only [jna,jg4,jiP,joC];rfl
noncomputable def jg2 (call:Call) (fuel:Nat) (l:Nat) (args:List V) (h:H):Option (V × H) :=
 match h.get l with
 | some (.loop _ _ params env assign body)=>
  match jdf env params args with
  | none=>none
  | some e0=>
   match DF assign call fuel e0 h with
   | some (.normal,e1,h1)=>
    match h1.get l with
    | some (.loop .ready p ps en a b)=>
     match DF body call fuel e1 (h1.set l (.loop .busy p ps en a b)) with
     | some (ex,_,h3)=>
      match h3.get l with
      | some (.loop _ _ ps' en' a' b')=>
       match ex with
       | .normal=>some (.bool true,h3.set l (.loop .ready none ps' en' a' b'))
       | ex=>some (.bool false,h3.set l (.loop .done (some ex) ps' en' a' b'))
      | _=>none
     | none=>none
    | _=>none
   | _=>none
 | _=>none
theorem jja (call:Call) (fuel:Nat) (l:Nat) (args:List V) (h:H):jg2 call fuel l args h=jc6 call fuel l args h:=by
 simp only [jg2,jc6,jiP];rfl
noncomputable def jjP {α : Type} (l:List (Nat × α)) (s:Nat):Option α := List.rec (motive:=fun _=>Option α) none (fun p _ ih=>bif Nat.beq p.1 s then some p.2 else ih) l
theorem jjO {α : Type} : ∀ (l:List (Nat × α)) (s:Nat),jjP l s=jd6 l s
 | [],_=>rfl
 | (k,v) :: r,s=>by
  show (bif Nat.beq k s then some v else jjP r s)=_
  rw [jjO r s];rfl
noncomputable def joJ (call:Call) (fuel:Nat) (fns:List (FuncId × AFn)) (f:FuncId) (args:List V) (h:H) (p:Option Prim):Option (V × H):=match p with
 | some p=>p args h
 | none=>match jjP fns f with
  | some fn=>jna call fuel fn args h
  | none=>none
noncomputable def jpa (P:Prog) (fuel:Nat) (call:Call) (t:Tgt) (args:List V) (h:H):Option (V × H) :=
 Tgt.rec (fun f=>joJ call fuel P.fns f args h (jjP P.prims f)) (fun l=>jg2 call fuel l args h) t
noncomputable def joK (P:Prog) (fuel:Nat) (n:Nat):Call:=Nat.rec (motive:=fun _=>Call) (fun _ _ _=>none) (fun _ ih=>jpa P fuel ih) n
theorem jlA (P:Prog) (fuel:Nat) : ∀ n,joK P fuel n=jb5 P fuel n
 | 0=>rfl
 | n+1=>by
  show jpa P fuel (joK P fuel n)=_
  rw [jlA P fuel n]
  funext t args h
  cases t with
  | fn f=>
   show joJ (jb5 P fuel n) fuel P.fns f args h (jjP P.prims f)=_
   simp only [joJ,jjO,runFnF_eq,jb5];rfl
  | yld l=>exact jja _ _ _ _ _
end Am
namespace Am.Sigs
open Am Go
theorem alive20F:ran (joK prog fuel 59 (.fn F.jcx) [] ⟨305,.lf⟩) (jiN 1237)=true:=by kernel_rfl
theorem ran_via {f g:Call} (e:f=g) {t:Tgt} {a:List V} {h:H} {P:V->H->Bool} (p:ran (f t a h) P=true):ran (g t a h) P=true:=e ▸ p
theorem alive20:ran (jb5 prog fuel 59 (.fn F.jcx) [] ⟨305,.lf⟩) (jiN 1237)=true:=ran_via (jlA prog fuel 59) alive20F
theorem jkM {cl:Nat->Call} (hcl:Sem cl) {f d:Nat} {h0:H} {n n':Nat} (run:ran (jb5 prog fuel d (.fn f) [] ⟨n,.lf⟩) (jiN n')=true) (hnx:h0.nx=n) (hwf : ∀ b,n<=b->h0.get b=none) (hn:n<=n') :
  ∃ h1,cl d (.fn f) [] h0=some (.bool true,h1)/\h1.nx=n'/\(∀ j,n'<=j->h1.get j=none) /\ ∀ j o,h0.get j=some o->h1.get j=some o:=by
 obtain ⟨v1,e1,ra,pa⟩:=ran_ex run
 unfold jiN at pa
 simp only [zn,Nat.beq_eq,Nat.ble_eq] at pa
 obtain ⟨p1,p2,p3⟩:=pa
 obtain rfl:=isTrue_eq p1
 have hX:Ext h0.get ⟨n,.lf⟩ h0:=by have:=ext_all (h:=h0) (by rw [hnx];exact hwf);rwa [hnx] at this
 obtain ⟨h1,qa,xa⟩:=same_in hcl ra hX
 refine ⟨h1,qa,by rw [xa.nx];exact p2,fun j hj=>?_,fun j o hj=>ext_kept xa hj⟩
 rw [xa.get,hwf j om,show e1.get j=none from jk9 _ _ om];rfl
structure DI (g:H) (w s:Nat) (ow:Nat->Nat) (ws:Ws) (now:Int) (tb:Tb) (no:Option (Nat × Nat)) (D L A O:Nat) (kv:V) (room:Int) (f u:Nat->Int) (oV:List V):Prop where
 W:WSt g w s ow ws now tb no
 gD:g.get D=some (.cells (ddc w kv L room) false)
 gL:g.get L=some (.cells (lc f) false)
 gA:g.get A=some (.cells (tab 96 fun i=>.i (u i)) false)
 gO:g.get O=some (.cells oV false)
 lD:D<g.nx
 lL:L<g.nx
 lA:A<g.nx
 lO:O<g.nx
 tL:ow L=0
 tA:ow A=0
 dl:D≠L
 da:D≠A
 la:L≠A
 ol:O≠L
 oa:O≠A
section
variable {g g':H} {w s:Nat} {ow:Nat->Nat} {ws:Ws} {now:Int} {tb:Tb} {no:Option (Nat × Nat)} {D L A O:Nat} {kv:V} {room:Int} {f f' u:Nat->Int} {oV:List V}
theorem DI.turn (a:DI g w s ow ws now tb no D L A O kv room f u oV) (c:Ch (fun j=>j=L) g g') (h:g'.get L=some (.cells (lc f') false)):DI g' w s ow ws now tb no D L A O kv room f' u oV where
 W:=a.W.keep c.nx fun j hj=>c.get j (a.W.lt_of hj) fun e=>hj (by rw [e];exact a.tL)
 gD:=by rw [c.get _ a.lD a.dl,a.gD]
 gL:=h
 gA:=by rw [c.get _ a.lA a.la.symm,a.gA]
 gO:=by rw [c.get _ a.lO a.ol,a.gO]
 lD:=zq a.lD c.nx
 lL:=zq a.lL c.nx
 lA:=zq a.lA c.nx
 lO:=zq a.lO c.nx
 tL:=a.tL
 tA:=a.tA
 dl:=a.dl
 da:=a.da
 la:=a.la
 ol:=a.ol
 oa:=a.oa
theorem DI.row (a:DI g w s ow ws now tb no D L A O kv room f u oV) {i:Nat} (hi:i<96) {o:Nat} (ho:o=i) {v:Int} : DI (g.set A (.cells ((tab 96 fun i=>.i (u i)).set o (.i v)) false)) w s ow ws now tb no D L A O kv room f (put1 u i v) oV where
 W:=a.W.keep (zp _) fun j hj=>jaa fun e=>hj (by rw [e];exact a.tA)
 gD:=by rw [jaa a.da,a.gD]
 gL:=by rw [jaa a.la,a.gL]
 gA:=by
  rw [jab,ho,jdd,jbS (g:=fun j=>V.i (put1 u i v j)) (fun k _=>by unfold put1;split<;>rfl)]
 gO:=by rw [jaa a.oa,a.gO]
 lD:=a.lD
 lL:=a.lL
 lA:=a.lA
 lO:=a.lO
 tL:=a.tL
 tA:=a.tA
 dl:=a.dl
 da:=a.da
 la:=a.la
 ol:=a.ol
 oa:=a.oa
end
section
variable {cl:Nat->Call} (hcl:Sem cl) {d:Nat} {g:H} {w s p sb:Nat} {ow:Nat->Nat} {ws:Ws} {now:Int} {tb:Tb} {no:Option (Nat × Nat)} {D L A O:Nat} {kv:V} {room:Int} {f u:Nat->Int} {o:OdX}
include hcl
theorem st20 (hd:7<=d) (a:WSt g w s ow ws now tb no) (ok:WsOk ws) (hD:g.get D=some (.cells (ddc w kv L room) false)) (hL:g.get L=some (.cells (lc f) false)) (lD:D<g.nx) (lL:L<g.nx) (hk:o.k=1\/o.k=2) :
  ∃ v g' f',cl d (.fn F.jc4) [.p D 0,.p p 0,.p sb 0,.agg o.V] g=some (v,g')/\Ch (fun j=>j=L) g g'/\g'.get L=some (.cells (lc f') false):=by
 suffices q : ∃ v g',cl d (.fn F.jc4) [.p D 0,.p p 0,.p sb 0,.agg o.V] g=some (v,g')/\Ch (fun j=>j=L) g g' /\ ∃ f',g'.get L=some (.cells (lc f') false) by
  obtain ⟨v,g',e,c,f',q⟩:=q;exact ⟨v,g',f',e,c,q⟩
 have o1:Old g (g.new (.cells o.V false)):=(Old.refl g).new
 have b1:(g.new (.cells o.V false)).get g.nx=some (.cells o.V false):=jac _
 have n1:(g.new (.cells o.V false)).nx=g.nx+1:=rfl
 have x0:o.V[0+0]?=some (.i o.k):=rfl
 have x6:o.V[0+6]?=some (.i o.fd):=rfl
 have x7:o.V[0+7]?=some (.i o.n):=rfl
 refine at_ hcl om rfl rfl rfl ?_
 obtain ⟨oV,hoV⟩ : ∃ oV,oV=o.V:=⟨_,rfl⟩
 rw [<- hoV] at o1 b1 n1 x0 x6 x7 ⊢
 clear hoV
 obtain ⟨k,x,fd,n,t,b⟩:=o
 have hm : ∀ {K:AC} {e:Env} {Q:Post},Run (cl (d-1)) fuel K [] e (g.new (.cells oV false)) Q->Run (cl (d-1)) fuel K [] e (g.new (.cells oV false)) Q:=fun h=>h
 have hD1:(g.new (.cells oV false)).get D=some (.cells (ddc w kv L room) false):=by rw [o1.2 D lD,hD]
 have hL1:(g.new (.cells oV false)).get L=some (.cells (lc f) false):=by rw [o1.2 L lL,hL]
 rcases hk with rfl | rfl
 ·obtain ⟨e,g2,e2,c2,q2⟩:=jo4 hcl (d:=d-1) (fd:=fd) (n:=n) om (a.old o1) ok hD1 hL1 om om
  have hf : ∃ f',g2.get L=some (.cells (lc f') false):=by
   rcases q2 with ⟨_,_,q⟩ | ⟨_,q⟩
   ·exact ⟨_,q⟩
   ·exact ⟨_,q⟩
  clear a ok q2
  refine qm1 ?_
  exact ⟨o1.ch.trans c2,hf⟩
 ·obtain ⟨g2,e2,c2,q2⟩:=jjE hcl (d:=d-1) (fd:=fd) om hD1 hL1
  have b2:g2.get g.nx=some (.cells oV false):=by rw [c2.get _ om om,b1]
  clear a ok
  refine qm1 ?_
  exact ⟨o1.ch.trans c2,_,q2⟩
abbrev jkE:V->H->Prop:=fun v _=>v = .bool true
theorem dw_fill {O9:V} (hd:3<=d) (a:DI g w s ow ws now tb no D L A O kv room f u o.V) :
  Run (cl d) fuel (.block 2 (.loop [7,9,12,15,93] (.seq (.region 0 [.mk4 0 (some 94) (.bin .lss (.t 93) (.c (.i 96))) none] [7,9,12,15,93,94]) (c3_9)))) [] [(7,.p O 0),(9,O9),(12,.p D 0),(15,.p A 0),(93,.i 0)] g
   fun x e h=>x = .normal/\e=[(7,.p O 0),(9,O9),(12,.p D 0),(15,.p A 0),(93,.i ((96:Nat):Int)),(94,.bool (decide (((96:Nat):Int)<96)))] /\ ∃ u',DI h w s ow ws now tb no D L A O kv room f u' o.V /\ ∀ i,i<96->u' i=f i:=by
 refine Run.block ?_
 refine Run.loop (fun m e h=>∃ (i:Nat) (u':Nat->Int),m=96-i/\i<=96/\e=[(7,.p O 0),(9,O9),(12,.p D 0),(15,.p A 0),(93,.i (i:Int))]/\DI h w s ow ws now tb no D L A O kv room f u' o.V /\ ∀ j,j<i->u' j=f j) (k:=96) Ze ⟨0,u,rfl,by omega,rfl,a,fun j hj=>by omega⟩ ?_
 rintro _ _ h ⟨i,u',rfl,hi,rfl,b,hu⟩ n ih
 by_cases hlt:i<96
 case neg=>
  obtain rfl:i=96:=by omega
  have hlt' : ¬ ((96:Nat):Int)<96:=by omega
  clear ih a
  refine qx1 ?_
  exact End.nil ⟨rfl,rfl,u',b,hu⟩
 have hlt':(i:Int)<96:=by omega
 have e1:=jff hcl (d:=d) (fd:=(i:Int)) om b.gD b.gL
 rw [if_pos ⟨by omega,by omega⟩,zu] at e1
 have hA:=b.gA
 have hl:0+(i:Int).toNat*1<(tab 96 fun i=>V.i (u' i)).length:=by simp;omega
 have b2:=b.row hlt (o:=0+(i:Int).toNat*1) om (v:=f i)
 have hi1:(i:Int)+1=((i+1:Nat):Int):=by omega
 clear a b
 generalize (tab 96 fun i=>V.i (u' i))=W at hA hl b2
 refine qx1 ?_
 refine Ops.store1 rfl rfl rfl hA hl ?_
 refine qx1 ?_
 rw [hi1]
 refine ih (96-(i+1)) om _ _ ⟨i+1,_,rfl,by omega,rfl,b2,fun j hj=>?_⟩
 unfold put1
 by_cases e:j=i
 ·rw [if_pos e,e]
 ·rw [if_neg e];exact hu j om
theorem dw_chk {O9:V} (hd:3<=d) (a:DI g w s ow ws now tb no D L A O kv room f u o.V) (hu : ∀ i,i<96->u i=f i) :
  Run (cl d) fuel (.block 4 (.loop [7,9,12,15,115] (.seq (.region 0 [.mk4 0 (some 116) (.bin .lss (.t 115) (.c (.i 96))) none] [7,9,12,15,115,116]) (c3_5)))) [] [(7,.p O 0),(9,O9),(12,.p D 0),(15,.p A 0),(115,.i 0)] g
   fun x e h=>x = .normal/\e=[(7,.p O 0),(9,O9),(12,.p D 0),(15,.p A 0),(115,.i ((96:Nat):Int)),(116,.bool (decide (((96:Nat):Int)<96)))]/\h=g:=by
 refine Run.block ?_
 refine Run.loop (fun m e h=>∃ (i:Nat),m=96-i/\i<=96/\e=[(7,.p O 0),(9,O9),(12,.p D 0),(15,.p A 0),(115,.i (i:Int))]/\h=g) (k:=96) Ze ⟨0,rfl,by omega,rfl,rfl⟩ ?_
 rintro _ _ _ ⟨i,rfl,hi,rfl,rfl⟩ n ih
 by_cases hlt:i<96
 case neg=>
  obtain rfl:i=96:=by omega
  have hlt' : ¬ ((96:Nat):Int)<96:=by omega
  clear ih a
  refine qx1 ?_
  exact End.nil ⟨rfl,rfl,rfl⟩
 have hlt':(i:Int)<96:=by omega
 have e1:=jff hcl (d:=d) (fd:=(i:Int)) om a.gD a.gL
 rw [if_pos ⟨by omega,by omega⟩,zu] at e1
 have hA:=a.gA
 have hv:(tab 96 fun i=>V.i (u i))[0+(i:Int).toNat*1]?=some (.i (f i)):=by
  rw [show 0+(i:Int).toNat*1=i by omega,jbC hlt,hu i hlt]
 have hi1:(i:Int)+1=((i+1:Nat):Int):=by omega
 have hne : ¬ f i≠f i:=fun h=>h rfl
 clear a hu
 generalize (tab 96 fun i=>V.i (u i))=W at hA hv
 refine qx1 ?_
 refine Ops.callf_chk rfl e1 (jbw rfl hA hv rfl jcm) ?_
 refine qx1 ?_
 rw [hi1]
 exact ih (96-(i+1)) om _ _ ⟨i+1,rfl,by omega,rfl,rfl⟩
theorem jnJ {O9:V} (hd:3<=d) (a:DI g w s ow ws now tb no D L A O kv room f u o.V) (hu : ∀ i,i<96->u i=f i) :
  Run (cl d) fuel (.block 6 (.loop [9,12,15,141] (.seq (.region 0 [.mk4 0 (some 142) (.bin .lss (.t 141) (.c (.i 96))) none] [9,12,15,141,142]) (c3_1)))) [] [(9,O9),(12,.p D 0),(15,.p A 0),(141,.i 0)] g
   fun x e h=>x = .normal/\e=[(9,O9),(12,.p D 0),(15,.p A 0),(141,.i ((96:Nat):Int)),(142,.bool (decide (((96:Nat):Int)<96)))]/\h=g:=by
 refine Run.block ?_
 refine Run.loop (fun m e h=>∃ (i:Nat),m=96-i/\i<=96/\e=[(9,O9),(12,.p D 0),(15,.p A 0),(141,.i (i:Int))]/\h=g) (k:=96) Ze ⟨0,rfl,by omega,rfl,rfl⟩ ?_
 rintro _ _ _ ⟨i,rfl,hi,rfl,rfl⟩ n ih
 by_cases hlt:i<96
 case neg=>
  obtain rfl:i=96:=by omega
  have hlt' : ¬ ((96:Nat):Int)<96:=by omega
  clear ih a
  refine qx1 ?_
  exact End.nil ⟨rfl,rfl,rfl⟩
 have hlt':(i:Int)<96:=by omega
 have e1:=jff hcl (d:=d) (fd:=(i:Int)) om a.gD a.gL
 rw [if_pos ⟨by omega,by omega⟩,zu] at e1
 have hA:=a.gA
 have hv:(tab 96 fun i=>V.i (u i))[0+(i:Int).toNat*1]?=some (.i (f i)):=by
  rw [show 0+(i:Int).toNat*1=i by omega,jbC hlt,hu i hlt]
 have hi1:(i:Int)+1=((i+1:Nat):Int):=by omega
 have hne : ¬ f i≠f i:=fun h=>h rfl
 clear a hu
 generalize (tab 96 fun i=>V.i (u i))=W at hA hv
 refine qx1 ?_
 refine Ops.callf_chk rfl e1 (jbw rfl hA hv rfl jcm) ?_
 refine qx1 ?_
 rw [hi1]
 exact ih (96-(i+1)) om _ _ ⟨i+1,rfl,by omega,rfl,rfl⟩
theorem dw_3 (hd:3<=d) (a:DI g w s ow ws now tb no D L A O kv room (if 0<=o.fd/\o.fd<=95 then put1 f o.fd.toNat 0 else f) u o.V) (hu : ∀ i,i<96->u i=f i) :
  Run (cl d) fuel c3_3 [] [(7,.p O 0),(9,.bool true),(12,.p D 0),(15,.p A 0)] g (Fin c3.res jkE):=by
 have x6:o.V[0+6]?=some (.i o.fd):=rfl
 have hO:=a.gO
 have hA:=a.gA
 obtain ⟨C2,hC2⟩ : ∃ C,C=c3_2:=⟨_,rfl⟩
 have T : ∀ (e:Env),e=[(9,V.bool true),(12,.p D 0),(15,.p A 0),(141,.i ((96:Nat):Int)),(142,.bool (decide (((96:Nat):Int)<96)))] -> ∀ h f,h.get D=some (.cells (ddc w kv L room) false)->h.get L=some (.cells (lc f) false)->Run (cl d) fuel C2 [] e h (Fin c3.res jkE):=by
  rintro _ rfl h f hD hL
  subst hC2
  have e1:=jff hcl (d:=d) (fd := -1) om hD hL
  have e2:=jff hcl (d:=d) (fd:=96) om hD hL
  rw [if_neg om] at e1 e2
  clear a hO hA hu x6
  refine qx1 ?_
  rfl
 by_cases hf:0<=o.fd/\o.fd<=95
 ·rw [if_pos hf] at a
  obtain ⟨f0,f1⟩:=hf
  have hl:0+o.fd.toNat*1<(tab 96 fun i=>V.i (u i)).length:=by simp;omega
  have a2:=a.row (i:=o.fd.toNat) om (o:=0+o.fd.toNat*1) om (v:=0)
  have hu2 : ∀ i,i<96->put1 u o.fd.toNat 0 i=put1 f o.fd.toNat 0 i:=fun i hi=>by
   unfold put1
   by_cases e:i=o.fd.toNat
   ·rw [if_pos e,if_pos e]
   ·rw [if_neg e,if_neg e,hu i hi]
  have B:=jnJ hcl (O9 := .bool true) hd a2 hu2
  have T2:=T _ rfl _ _ a2.gD a2.gL
  generalize o.V=oV at hO x6 B
  generalize o.fd=fd at *
  generalize (tab 96 fun i=>V.i (u i))=W at hA hl B T2
  simp only [c3_3,<- hC2,yC]
  clear a a2 hu hu2 T hC2
  refine qb1 ?_
  refine Ops.store1 rfl rfl rfl hA hl ?_
  refine qb1 ?_
  refine Run.cut _ B ?_
  rintro _ _ _ ⟨rfl,rfl,rfl⟩
  refine qx1 ?_
  exact T2
 ·rw [if_neg hf] at a
  have B:=jnJ hcl (O9 := .bool true) hd a hu
  have T2:=T _ rfl _ _ a.gD a.gL
  generalize o.V=oV at hO x6 B
  generalize o.fd=fd at *
  simp only [c3_3,<- hC2,yC]
  clear a hu T hC2
  by_cases f0:0<=fd
  ·have f1 : ¬ fd<=95:=by omega
   clear hf
   refine qb1 ?_
   refine Run.cut _ B ?_
   rintro _ _ _ ⟨rfl,rfl,rfl⟩
   refine qx1 ?_
   exact T2
  ·clear hf
   refine qb1 ?_
   refine Run.cut _ B ?_
   rintro _ _ _ ⟨rfl,rfl,rfl⟩
   refine qx1 ?_
   exact T2
theorem dw_7 {sbe:Env} (hd:3<=d) (a:DI g w s ow ws now tb no D L A O kv room f u o.V) (hu : ∀ i,i<96->u i=f i) :
  Run (cl d) fuel c3_7 [] ((7,.p O 0) :: (9,.bool true) :: (12,.p D 0) :: (15,.p A 0) :: sbe) g (Fin c3.res jkE):=by
 have B:=dw_chk hcl (O9 := .bool true) hd a hu
 obtain ⟨g2,e2,c2,q2⟩:=jjE hcl (d:=d) (fd:=o.fd) hd a.gD a.gL
 have a2:=a.turn c2 q2
 have T:=dw_3 hcl hd a2 hu
 have x6:o.V[0+6]?=some (.i o.fd):=rfl
 have hO:=a.gO
 obtain ⟨C3,hC3⟩ : ∃ C,C=c3_3:=⟨_,rfl⟩
 rw [<- hC3] at T
 simp only [c3_7,<- hC3,yC]
 generalize o.V=oV at hO x6 B
 generalize o.fd=fd at *
 clear a a2 hu hC3
 refine qb1 ?_
 refine Run.cut _ B ?_
 rintro _ _ _ ⟨rfl,rfl,rfl⟩
 refine qx1 ?_
 exact T
theorem dw_10 {sbe:Env} (hd:6<=d) (a:DI g w s ow ws now tb no D L A O kv room f u o.V) (ok:WsOk ws) (hu : ∀ i,i<96->u i=f i) :
  Run (cl d) fuel c3_10 [] ((7,.p O 0) :: (9,.bool true) :: (12,.p D 0) :: (15,.p A 0) :: sbe) g (Fin c3.res jkE):=by
 obtain ⟨e,g2,e2,c2,q2⟩:=jo4 hcl (d:=d) (fd:=o.fd) (n:=o.n) hd a.W ok a.gD a.gL a.lD a.lL
 have x6:o.V[0+6]?=some (.i o.fd):=rfl
 have x7:o.V[0+7]?=some (.i o.n):=rfl
 have hO:=a.gO
 have hO2:g2.get O=some (.cells o.V false):=by rw [c2.get _ a.lO a.ol,hO]
 have hA2:g2.get A=some (.cells (tab 96 fun i=>.i (u i)) false):=by rw [c2.get _ a.lA a.la.symm,a.gA]
 obtain ⟨C7,hC7⟩ : ∃ C,C=c3_7:=⟨_,rfl⟩
 rcases q2 with ⟨rfl,hf,q2⟩ | ⟨hne,q2⟩
 ·obtain ⟨f0,f1⟩:=hf
  have a2:=(a.turn c2 q2).row (i:=o.fd.toNat) om (o:=0+o.fd.toNat*1) om (v:=o.n)
  have hl:0+o.fd.toNat*1<(tab 96 fun i=>V.i (u i)).length:=by simp;omega
  have T:=dw_7 hcl (d:=d) (sbe:=[]) om a2 (fun i hi=>by
   unfold put1
   by_cases e:i=o.fd.toNat
   ·rw [if_pos e,if_pos e]
   ·rw [if_neg e,if_neg e,hu i hi])
  rw [<- hC7] at T
  simp only [c3_10,<- hC7,yC]
  generalize o.V=oV at hO hO2 x6 x7
  generalize o.fd=fd at *
  generalize o.n=n at *
  generalize (tab 96 fun i=>V.i (u i))=W at hA2 hl T
  clear a a2 hu hC7 ok
  refine qx1 ?_
  refine Ops.store1 rfl rfl rfl hA2 hl ?_
  refine qx1 ?_
  exact T
 ·have T:=dw_7 hcl (d:=d) (sbe:=[(109,.bool (decide (e=0)))]) om (a.turn c2 q2) hu
  rw [<- hC7] at T
  simp only [c3_10,<- hC7,yC]
  generalize o.V=oV at hO hO2 x6 x7
  generalize o.fd=fd at *
  generalize o.n=n at *
  clear a hu hC7 ok
  refine qx1 ?_
  exact T
theorem dw_14 {v2 v10 v11:V} {sbe:Env} (hd:6<=d) (W:WSt g w s ow ws now tb no) (ok:WsOk ws) (hD:g.get D=some (.cells (ddc w kv L room) false)) (hL:g.get L=some (.cells (lc f) false)) (hO:g.get O=some (.cells o.V false)) (lD:D<g.nx) (lL:L<g.nx) (lO:O<g.nx) (tL:ow L=0) (dl:D≠L) (ol:O≠L) :
  Run (cl d) fuel c3_14 [] ((2,v2) :: (7,.p O 0) :: (9,.bool true) :: (10,v10) :: (11,v11) :: (12,.p D 0) :: sbe) g (Fin c3.res jkE):=by
 have o1:Old g (g.new (.cells (List.replicate 96 (.i 0)) false)):=(Old.refl g).new
 have a:DI (g.new (.cells (List.replicate 96 (.i 0)) false)) w s ow ws now tb no D L g.nx O kv room f (fun _=>0) o.V :=
  ⟨W.old o1,by rw [o1.2 _ lD,hD],by rw [o1.2 _ lL,hL],by rw [jac,jdr],by rw [o1.2 _ lO,hO],Nat.lt_succ_of_lt lD,Nat.lt_succ_of_lt lL,Nat.lt_succ_self _,Nat.lt_succ_of_lt lO,tL,W.top (zp _),dl,by omega,by omega,ol,by omega⟩
 have B:=dw_fill hcl (d:=d) (O9 := .bool true) om a
 obtain ⟨C10,hC10⟩ : ∃ C,C=c3_10:=⟨_,rfl⟩
 have T : ∀ (x:Ex) (e:Env) (h:H),x = .normal/\e=[(7,.p O 0),(9,.bool true),(12,.p D 0),(15,.p g.nx 0),(93,.i ((96:Nat):Int)),(94,.bool (decide (((96:Nat):Int)<96)))]/\(∃ u',DI h w s ow ws now tb no D L g.nx O kv room f u' o.V /\ ∀ i,i<96->u' i=f i)->Run (cl d) fuel C10 [] e h (Fin c3.res jkE):=by
  rintro _ _ h ⟨rfl,rfl,u',b,hu⟩
  rw [hC10]
  exact dw_10 hcl hd b ok hu
 simp only [c3_14,<- hC10,yN]
 generalize o.V=oV at *
 clear W ok hD hL hO tL dl ol a hC10
 refine Run.seq (Run.region0 (Ops.make rfl rfl ?_))
 refine qb1 ?_
 refine Run.cut _ B ?_
 rintro x e h q
 have T2:=T x e h q
 obtain ⟨rfl,rfl,_⟩:=q
 refine qx1 ?_
 exact T2
theorem jhz {h0:H} (hnx:h0.nx=303) (hwf : ∀ b,303<=b->h0.get b=none) {x0:Int × Int × Unit} {u0:List V} (r0:jbW (jcH .i64) (jbW (jcH .i64) jlg) h0 x0 u0)
  {l1:List (Int × Int × Int × Int × List Int × Unit)} {u1:V} (r1:jcV 200 jmr h0 l1 [u1]) {l2:List (Int × (Int × Int × Int × Int × List Int × Unit) × Int × Int × Int × Bool × Unit)} {u2:V} (r2:jcV 100 jnw h0 l2 [u2])
  {x3:Int × (Int × Int × Int × Int × List Int × Unit) × Int × Int × Int × Bool × Unit} {u3:List V} (r3:jnw h0 x3 u3) :
  ∃ h',cl 60 (.fn F.jb9) [.agg u0,u1,u2,.agg u3] h0=some (.bool true,h'):=by
 suffices q : ∃ v h',cl 60 (.fn F.jb9) [.agg u0,u1,u2,.agg u3] h0=some (v,h')/\v = .bool true by
  obtain ⟨_,h',e,rfl⟩:=q;exact ⟨h',e⟩
 obtain ⟨k,room,rfl⟩ : ∃ k room,u0=[.i k,.i room]:=by
  obtain ⟨_,_,rfl,⟨rfl,_⟩,_,w0,rfl,⟨rfl,_⟩,hn⟩:=r0
  obtain rfl:w0=[]:=hn
  exact ⟨_,_,rfl⟩
 obtain ⟨o,rfl,_⟩:=joU r3
 obtain ⟨L,_,hL0⟩:=opsIn_of r1
 obtain ⟨M,_,hM0⟩:=odsIn_of r2
 clear r0 r1 r2 r3
 have o1:Old h0 ((h0.new (.cells [.i k,.i room] false)).new (.cells o.V false)):=(Old.refl h0).new.new
 have n1:((h0.new (.cells [.i k,.i room] false)).new (.cells o.V false)).nx=305:=by show h0.nx+2=_;omega
 have bX:((h0.new (.cells [.i k,.i room] false)).new (.cells o.V false)).get h0.nx=some (.cells [.i k,.i room] false):=qgt
 have bO:((h0.new (.cells [.i k,.i room] false)).new (.cells o.V false)).get (h0.nx+1)=some (.cells o.V false):=qgt
 have wf1 : ∀ b,305<=b->((h0.new (.cells [.i k,.i room] false)).new (.cells o.V false)).get b=none:=fun b hb=>by
  rw [H.get_new,if_neg Zc,H.get_new,if_neg om,hwf b om]
 obtain ⟨h2,ea,n2,wf2,k2⟩:=jkM hcl alive20 n1 wf1 om
 have hL:=hL0.keep (h':=h2) om fun j o hj ho=>k2 j o (by rw [o1.2 j hj,ho])
 have hM:=hM0.keep (h':=h2) om fun j o hj ho=>k2 j o (by rw [o1.2 j hj,ho])
 have bX2:=k2 _ _ bX
 have bO2:=k2 _ _ bO
 rw [hnx] at bX2 bO2
 obtain ⟨gv,eg,hg⟩:=joZ hcl (d:=59) om hL
 obtain ⟨mv,h3,em,o3,hm,wf3⟩:=g20_ok hcl (d:=59) om hM
 have wf3:=wf3 (by rw [n2];exact wf2)
 obtain ⟨C18,hC18⟩ : ∃ C,C=c3_18:=⟨_,rfl⟩
 have T : ∀ {v0:V} {sbe:Env},L.length<=60->fewL L->M.length<=100->Run (cl 59) fuel C18 [] ((1,u1) :: (2,u2) :: (4,.p 303 0) :: (7,.p 304 0) :: (9,.bool true) :: sbe) h3 (Fin c3.res jkE):=by
  intro _ sbe h60 hfew hM100
  obtain ⟨p,w,s,rw,sb,ow,ro,h4,eb,bx⟩:=bt20 hcl (d:=59) om wf3 (hL.keep o3.1 fun j o hj ho=>by rw [o3.2 j hj,ho]) h60 hfew
  have bX4:h4.get 303=some (.cells [.i k,.i room] false):=by rw [bx.old.2 _ (by have:=o3.1;omega),o3.2 _ om,bX2]
  have bO4:h4.get 304=some (.cells o.V false):=by rw [bx.old.2 _ (by have:=o3.1;omega),o3.2 _ om,bO2]
  have hp:=bx.b.hp
  have hM4:=hM.keep (h':=h4) (zy o3.1 bx.old.1) fun j o hj ho=>by rw [bx.old.2 j (zq hj o3.1),o3.2 j hj,ho]
  have W4:=bx.b.W
  have ok4:=bx.so.K.ok
  have n4:305<=h4.nx:=by have:=o3.1;have:=bx.old.1;omega
  subst hC18
  clear hL hM hL0 hM0 hwf wf1 wf2 wf3 k2 bx hg hm ea eg em
  by_cases hk:(k=3\/k=4)/\1<=room/\room<=256
  case neg=>
   have e1:=dq_New_no hcl (d:=59) (w:=w) (h:=h4) om hk
   clear hk W4 ok4 hM4
   refine qx1 ?_
   rfl
  obtain ⟨hk,r0,r1⟩:=hk
  obtain ⟨D,Lb,kv,h5,e1,o5,gD,gL,dl,lo1,lo2,lD,lL⟩:=dq_New hcl (d:=59) (w:=w) (h:=h4) om hk r0 r1
  have W5:=W4.old o5
  have tL:=W4.top lo2
  have bO5:h5.get 304=some (.cells o.V false):=by rw [o5.2 _ om,bO4]
  obtain ⟨ad,cp,rfl,hin⟩:=hM4
  obtain ⟨hok,hel⟩:=hin hM100
  obtain ⟨C14,hC14⟩ : ∃ C,C=c3_14:=⟨_,rfl⟩
  simp only [c3_18,c3_17,c3_16,c3_15,<- hC14,uF,yB,yC]
  clear hin hk W4
  refine qx1 ?_
  refine Run.loop (fun m e g=>∃ (i:Nat) (f:Nat->Int),m=M.length-i/\i<=M.length/\e=[(2,.slice ad M.length cp),(7,.p 304 0),(9,.bool true),(10,.p p 0),(11,.p sb 0),(12,.p D 0),(66,.i (M.length:Int)),(67,.i (i:Int))]/\Ch (fun j=>j=Lb) h5 g/\g.get Lb=some (.cells (lc f) false))
   (k:=M.length) Ze ⟨0,_,rfl,by omega,rfl,Ch.refl _ _,gL⟩ ?_
  rintro _ _ g ⟨i,f,rfl,hi,rfl,cg,gLg⟩ n ih
  have Wg:WSt g w s ow _ _ _ _:=W5.keep cg.nx fun j hj=>cg.get j (W5.lt_of hj) fun e=>hj (by rw [e];exact tL)
  have gDg:g.get D=some (.cells (ddc w kv Lb room) false):=by rw [cg.get _ lD dl,gD]
  have nD:D<g.nx:=zq lD cg.nx
  have nL:Lb<g.nx:=zq lL cg.nx
  by_cases hlt:(i:Int)<M.length
  case neg=>
   have T:=dw_14 hcl (d:=59) (v2 := .slice ad M.length cp) (v10 := .p p 0) (v11 := .p sb 0) (sbe:=[(66,.i (M.length:Int)),(67,.i (i:Int)),(68,.bool (decide ((i:Int)<M.length)))]) om Wg ok4 gDg gLg (by rw [cg.get 304 (by have:=o5.1;omega) om,bO5]) nD nL (by have:=o5.1;have:=cg.nx;omega) tL dl om
   rw [<- hC14] at T
   clear ih hel hok hC14 W5 Wg ok4
   refine qx1 ?_
   exact T
  obtain ⟨x,hx⟩:=jnZ (l:=M) (i:=i) om
  obtain ⟨b,cs,ro',rfl,lb,hb,hlen,hc⟩:=hel (by rintro rfl;simp at hx)
  have hc:=hc i x hx
  have hbg:g.get b=some (.cells cs ro'):=by rw [cg.get b (zq lb o5.1) om,o5.2 b lb,hb]
  have c0:cs[0+(i:Int).toNat*10+0]?=some (.i x.k):=by
   rw [Nat.zero_add,zu];exact od_cell hc om rfl
  have h10:(cs.drop (0+(i:Int).toNat*10)).take 10=x.V:=by rw [Nat.zero_add,zu];exact hc
  have hl10:0+(i:Int).toNat*10+10<=cs.length:=by rw [hlen,zu];omega
  have hi1:(i:Int)+1=((i+1:Nat):Int):=by omega
  have S:=fun hk=>st20 hcl (d:=59) (p:=p) (sb:=sb) (o:=x) om Wg ok4 gDg gLg nD nL hk
  generalize hV:x.V=xV at h10 S
  generalize x.k=xk at c0 S
  clear hok hel hc hC14 W5 Wg ok4 hx hV
  by_cases k1:xk=1
  ·obtain ⟨v,g2,f2,e2,c2,q2⟩:=S (.inl k1)
   clear S
   refine qx1 ?_
   refine Ops.loadN rfl hbg hl10 ?_
   rw [h10]
   refine qx1 ?_
   rw [hi1]
   exact ih (M.length-(i+1)) om _ _ ⟨i+1,f2,rfl,by omega,rfl,cg.trans c2,q2⟩
  by_cases k2:xk=2
  ·obtain ⟨v,g2,f2,e2,c2,q2⟩:=S (.inr k2)
   clear S
   refine qx1 ?_
   refine Ops.loadN rfl hbg hl10 ?_
   rw [h10]
   refine qx1 ?_
   rw [hi1]
   exact ih (M.length-(i+1)) om _ _ ⟨i+1,f2,rfl,by omega,rfl,cg.trans c2,q2⟩
  ·clear S
   refine qx1 ?_
   rw [hi1]
   exact ih (M.length-(i+1)) om _ _ ⟨i+1,f,rfl,by omega,rfl,cg,gLg⟩
 refine at_ hcl om rfl rfl rfl ?_
 have hX:=h0.nx
 obtain ⟨ad,cp,rfl,hin⟩:=id hL
 rw [hnx] at bO
 simp only [c3,c3_19,<- hC18,yB,yH]
 generalize o.V=oV at *
 clear hL0 hM0 hwf wf1 wf2 hL hM bX bO hin
 refine Run.seq (Run.region0 (Ops.make (ob := .cells [.i k,.i room] false) (mk:=fun b=>.ptr (some (b,0))) rfl rfl (Ops.make (ob := .cells oV false) (mk:=fun b=>.ptr (some (b,0))) rfl rfl ?_)))
 have hp1:V.ptr (some (h0.nx,0)) = .p 303 0:=by rw [hnx]
 have hp2:V.ptr (some ((h0.new (.cells [.i k,.i room] false)).nx,0)) = .p 304 0:=by show V.ptr (some (h0.nx+1,0))=_;rw [hnx]
 rw [hp1,hp2]
 rcases hg with rfl | ⟨rfl,hfew⟩
 ·clear T hm
  refine qm1 ?_
  rfl
 by_cases h60:60<(L.length:Int)
 ·clear T hm
  refine qm1 ?_
  rfl
 rcases hm with rfl | ⟨rfl,hM100⟩
 ·clear T
  refine qm1 ?_
  rfl
 ·have T1:=T (v0 := .nils) (sbe:=[(37,.bool false)]) om hfew hM100
  clear T
  refine qm1 ?_
  exact T1
end
end Am.Sigs
