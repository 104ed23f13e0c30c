/- Our own library, part 9. -/
import Derived.Lone
import Derived.Test.YtccoogikjelcbaaGreatDoorM08
set_option maxHeartbeats 8000000
set_option maxRecDepth 800
set_option linter.all false
namespace Am
open Go
def Fm (fn:FuncId) (ro:Option Nat) (t:Array Value) (todo:List Item) (ds:List Deferred):Frame :=
 { fn,tmps:=t,todo,defers:=ds,mode := .run,kind := .normal,roundOf:=ro }
theorem jgE (fn:FuncId) (ro:Option Nat) (t:Array Value) (todo:List Item) (ds:List Deferred):(Fm fn ro t todo ds).eval=evT t:=by
 funext x;cases x<;>rfl
section
variable {P:Program} {fn:FuncId} {ro:Option Nat} {t:Array Value} {k:List Item} {ds:List Deferred} {cs:List Frame} {w:World}
theorem st_skip:step P (lone (Fm fn ro t (.code .skip :: k) ds) cs w) = .next (lone (Fm fn ro t k ds) cs w):=step_lone_go (by simp [stepG,stepG.exec,Fm])
theorem st_label {l:Nat} : step P (lone (Fm fn ro t (.code (.label l) :: k) ds) cs w) = .next (lone (Fm fn ro t k ds) cs w):=step_lone_go (by simp [stepG,stepG.exec,Fm])
theorem jkz {id:Nat} : step P (lone (Fm fn ro t (.inBlock id :: k) ds) cs w) = .next (lone (Fm fn ro t k ds) cs w):=step_lone_go (by simp [stepG,stepG.exec,Fm])
theorem jky {b:Code} : step P (lone (Fm fn ro t (.inScope b :: k) ds) cs w) = .next (lone (Fm fn ro t k ds) cs w):=step_lone_go (by simp [stepG,stepG.exec,Fm])
theorem st_seq {a b:Code} : step P (lone (Fm fn ro t (.code (.seq a b) :: k) ds) cs w) = .next (lone (Fm fn ro t (.code a :: .code b :: k) ds) cs w):=step_lone_go (by simp [stepG,stepG.exec,Fm])
theorem jlB {c:Operand} {x y:Code} {b:Bool} (h:evT t c = .bool b) :
  step P (lone (Fm fn ro t (.code (.cond c x y) :: k) ds) cs w) = .next (lone (Fm fn ro t (.code (if b then x else y) :: k) ds) cs w) :=
 step_lone_go (by
  have:=congrFun (jgE fn ro t (.code (.cond c x y) :: k) ds) c
  simp only [Fm] at this
  simp [stepG,stepG.exec,Fm,this,h])
theorem st_block {id:Nat} {c:Code} : step P (lone (Fm fn ro t (.code (.block id c) :: k) ds) cs w) = .next (lone (Fm fn ro t (.code c :: .inBlock id :: k) ds) cs w):=step_lone_go (by simp [stepG,stepG.exec,Fm])
theorem st_loop {c:Code} : step P (lone (Fm fn ro t (.code (.loop c) :: k) ds) cs w) = .next (lone (Fm fn ro t (.code c :: .inLoop c :: k) ds) cs w):=step_lone_go (by simp [stepG,stepG.exec,Fm])
theorem st_inLoop {c:Code} : step P (lone (Fm fn ro t (.inLoop c :: k) ds) cs w) = .next (lone (Fm fn ro t (.code c :: .inLoop c :: k) ds) cs w):=step_lone_go (by simp [stepG,stepG.exec,Fm])
theorem st_scope {c:Code} : step P (lone (Fm fn ro t (.code (.scope c) :: k) ds) cs w) = .next (lone (Fm fn ro t (.code c :: .inScope c :: k) ds) cs w):=step_lone_go (by simp [stepG,stepG.exec,Fm])
theorem st_exit {id:Nat} {k':List Item} (h:exitTo id k=some k'):step P (lone (Fm fn ro t (.code (.exit id) :: k) ds) cs w) = .next (lone (Fm fn ro t k' ds) cs w) :=
 step_lone_go (by simp [stepG,stepG.exec,Fm,h])
theorem st_region {id:Nat} {ops:Array Oper} : step P (lone (Fm fn ro t (.code (.region id ops false) :: k) ds) cs w) = .next (lone (Fm fn ro t (.inRegion ops (List.range ops.size) :: k) ds) cs w) :=
 step_lone_go (by simp [stepG,stepG.exec,Fm])
theorem je5 {id:Nat} {ops:Array Oper} : step P (lone (Fm fn ro t (.code (.region id ops true) :: k) ds) cs w) =
  .next (lone (Fm fn ro t (.inRegion ops (Region.schedule (P.follows .mixedOrders) ops (w.tape w.drawn (.order fn id))) :: k) ds) cs { w with drawn:=w.drawn+1 }) :=
 step_lone_go (by simp [stepG,stepG.exec,Fm,choose,Sem.run,Question.forced,Question.cut])
theorem jcC {ops:Array Oper} : step P (lone (Fm fn ro t (.inRegion ops [] :: k) ds) cs w) = .next (lone (Fm fn ro t k ds) cs w):=step_lone_go (by simp [stepG,stepG.exec,Fm])
def putT (t:Array Value) (dst:Option Tmp) (x:Value):Array Value :=
 match dst with
 | some d=>t.setIfInBounds d x
 | none=>t
theorem jci {ops:Array Oper} {i:Nat} {rest:List Nat} {o:Oper} (ho:ops[i]?=some o) (x:Value) :
  (Fm fn ro t (.inRegion ops (i :: rest) :: k) ds).finish x=Fm fn ro (putT t o.dst x) (.inRegion ops rest :: k) ds:=by
 cases hd:o.dst<;>simp [Frame.finish,Fm,ho,putT,hd]
theorem jkw {ops:Array Oper} {i:Nat} {rest:List Nat} {o:Oper} (ho:ops[i]?=some o) (hw:Region.wanted o (yielded ops t)=false) :
  step P (lone (Fm fn ro t (.inRegion ops (i :: rest) :: k) ds) cs w) = .next (lone (Fm fn ro (putT t o.dst undef) (.inRegion ops rest :: k) ds) cs w):=by
 rw [<- jci ho]
 exact step_lone_go (by simp only [Fm];simp [stepG,stepG.exec,ho,hw])
theorem jdC {ops:Array Oper} {i:Nat} {rest:List Nat} {o:Oper} (ho:ops[i]?=some o) (hw:Region.wanted o (yielded ops t)=true) (hd : ∀ c,o.op ≠ .defer c) :
  stepG P true { frame:=Fm fn ro t (.inRegion ops (i :: rest) :: k) ds,callers:=cs,status := .running,dying:=none } w =
   stepG.apply P true (Fm fn ro t (.inRegion ops (i :: rest) :: k) ds) cs none (execOp (evT t) o) w:=by
 have he:=jgE fn ro t (.inRegion ops (i :: rest) :: k) ds
 simp only [Fm] at he
 obtain ⟨dst,op,ty,pos,after,guard⟩:=o
 cases ro with
 | none=>simp [stepG,stepG.exec,stepG.oper,Frame.oper?,Fm,ho,hw,he]
 | some l=>
  cases op<;>first | exact zw rfl (hd _) | simp [stepG,stepG.exec,stepG.oper,Frame.oper?,Fm,ho,hw,he]
theorem jcz {ops:Array Oper} {i:Nat} {rest:List Nat} {o:Oper} (ho:ops[i]?=some o) (hw:Region.wanted o (yielded ops t)=true) (hd : ∀ c,o.op ≠ .defer c) {x:Value} {w':World}
  (hr:(execOp (evT t) o).run P w = .ok (.value x) w') :
  step P (lone (Fm fn ro t (.inRegion ops (i :: rest) :: k) ds) cs w) = .next (lone (Fm fn ro (putT t o.dst x) (.inRegion ops rest :: k) ds) cs w'):=by
 refine step_lone_go ?_
 rw [jdC ho hw hd,<- jci ho]
 simp [stepG.apply,hr]
theorem jkx {ops:Array Oper} {i:Nat} {rest:List Nat} {o:Oper} (ho:ops[i]?=some o) (hw:Region.wanted o (yielded ops t)=true) (hd : ∀ c,o.op ≠ .defer c) {w':World}
  (hr:(execOp (evT t) o).run P w = .ok .skip w') :
  step P (lone (Fm fn ro t (.inRegion ops (i :: rest) :: k) ds) cs w) = .next (lone (Fm fn ro (putT t o.dst undef) (.inRegion ops rest :: k) ds) cs w'):=by
 refine step_lone_go ?_
 rw [jdC ho hw hd,<- jci ho]
 simp [stepG.apply,hr]
theorem ji1 {ops:Array Oper} {i:Nat} {rest:List Nat} {o:Oper} (ho:ops[i]?=some o) (hw:Region.wanted o (yielded ops t)=true) (hd : ∀ c,o.op ≠ .defer c) {f:FuncId} {args:Array Value} {w':World}
  (hr:(execOp (evT t) o).run P w = .ok (.enter f args) w') :
  step P (lone (Fm fn ro t (.inRegion ops (i :: rest) :: k) ds) cs w) = .next (lone (Frame.enter P f args .normal) (Fm fn ro t (.inRegion ops (i :: rest) :: k) ds :: cs) w'):=by
 refine step_lone_go ?_
 rw [jdC ho hw hd]
 simp [stepG.apply,hr,Fm]
theorem ji0 {ops:Array Oper} {i:Nat} {rest:List Nat} {o:Oper} (ho:ops[i]?=some o) (hw:Region.wanted o (yielded ops t)=true) (hd : ∀ c,o.op ≠ .defer c) {l:Nat} {f:FuncId} {t':Array Value} {a b:Code} {w':World}
  (hr:(execOp (evT t) o).run P w = .ok (.round l f t' a b) w') :
  step P (lone (Fm fn ro t (.inRegion ops (i :: rest) :: k) ds) cs w) = .next (lone (Frame.round l f t' a b .normal) (Fm fn ro t (.inRegion ops (i :: rest) :: k) ds :: cs) w'):=by
 refine step_lone_go ?_
 rw [jdC ho hw hd]
 simp [stepG.apply,hr,Fm]
def jdv (r:Nat):Deferred := { target := .collected r,args := #[] }
theorem jhk {f:Operand} {ps:Array Tmp} {a b:Code} {l:Nat} {mk:List Deferred} {w1:World} (hl:(Instr.enterLoop fn t ps a b ro).run P w = .ok (l,mk) w1) {g:FuncId} {args:Array Value} {w2:World}
  (hr:(do let d<-resolve (evT t) { callee := .value f,args := #[.const (.func (.yield l) #[] #[])],argTypes := #[] } 0;invoke d.target d.args:Sem Next).run P w1 = .ok (.enter g args) w2) :
  step P (lone (Fm fn ro t (.code (.rangeFunc f ps a b) :: k) ds) cs w) = .next (lone (Frame.enter P g args .normal) (Fm fn ro t (.inRangeFunc l :: k) (mk++ds) :: cs) w2):=by
 refine step_lone_go ?_
 have he:=jgE fn ro t (.inRangeFunc l :: k) (mk++ds)
 simp only [Fm] at he
 simp [stepG,stepG.exec,Fm,Sem.runT_eq,hl,stepG.apply,he] at hr ⊢
 simp [hr]
theorem jeL {l:Nat} (x:Value):(Fm fn ro t (.inRangeFunc l :: k) ds).finish x=Fm fn ro t (.endRangeFunc l :: k) ds:=rfl
theorem ji2 {l:Nat} {j:Option Code} {w':World} (hr:(Instr.endLoop l).run P w = .ok j w') :
  step P (lone (Fm fn ro t (.endRangeFunc l :: k) ds) cs w) = .next (lone (Fm fn ro t ((j.map Item.code).toList++k) ds) cs w'):=by
 refine step_lone_go ?_
 simp [stepG,stepG.exec,Fm,Sem.runT_eq,hr]
theorem jfP {l:Nat} {w':World} (hr:(Instr.beginRound l).run P w = .ok () w') :
  step P (lone (Fm fn (some l) t (.beginRound :: k) ds) cs w) = .next (lone (Fm fn (some l) t k ds) cs w'):=by
 refine step_lone_go ?_
 simp [stepG,stepG.exec,Fm,stepG.apply,hr,Frame.finish]
theorem jfO {l:Nat} {jump:Option Code} {todo:List Item} {x:Value} {w':World} {c:Frame} (hj:(jump=none/\todo=[])\/(jump=some .ret /\ ∃ k',todo = .code .ret :: k')\/(∃ id k',jump=some (.exit id)/\todo = .code (.exit id) :: k'/\exitTo id k'=none))
  (hr:(Instr.endRound l jump).run P w = .ok x w'):step P (lone (Fm fn (some l) t todo ds) (c :: cs) w) = .next (lone (c.finish x) cs w'):=by
 refine step_lone_go ?_
 rcases hj with ⟨rfl,rfl⟩ | ⟨rfl,k',rfl⟩ | ⟨id,k',rfl,rfl,he⟩
 ·simp [stepG,stepG.exec,Fm,Sem.runT_eq,hr,doReturn]
 ·simp [stepG,stepG.exec,Fm,Sem.runT_eq,hr,doReturn]
 ·simp [stepG,stepG.exec,Fm,Sem.runT_eq,hr,doReturn,he]
theorem st_ret {todo:List Item} (hj:todo=[] \/ ∃ k',todo = .code .ret :: k'):step P (lone (Fm fn none t todo ds) cs w) = .next (lone { Fm fn none t todo ds with mode := .returning } cs w):=by
 refine step_lone_go ?_
 rcases hj with rfl | ⟨k',rfl⟩<;>simp [stepG,stepG.exec,Fm]
theorem st_unmark {todo:List Item} {r:Nat} {w':World} (hr:(Instr.takeDeferred r).run P w = .ok [] w') :
  step P (lone { Fm fn none t todo (jdv r :: ds) with mode := .returning } cs w) = .next (lone { Fm fn none t todo ds with mode := .returning } cs w'):=by
 refine step_lone_go ?_
 simp [stepG,unwind,Fm,jdv,Sem.runT_eq,hr]
end
end Am
namespace Am
open Go
def Does (P:Program) (m:Mp) (c:Frame) (cs:List Frame):Tgt->Array Value->World->World->Value->Prop
 | .fn f,xs,w,w',x=>(callFunc f xs).run P w = .ok (.value x) w'\/((callFunc f xs).run P w = .ok (.enter f xs) w/\Steps P (lone (Frame.enter P f xs .normal) (c :: cs) w) (lone (c.finish x) cs w'))
 | .yld l,xs,w,w',x=>∃ loc fid t a b,m l=some loc/\(Instr.yield loc.β xs).run P w = .ok (.round loc.β fid t a b) w/\Steps P (lone (Frame.round loc.β fid t a b .normal) (c :: cs) w) (lone (c.finish x) cs w')
def jcv (P:Program) (C:Cx) (call:Am.Call):Prop :=
 ∀ tgt args h v h',call tgt args h=some (v,h') -> ∀ m w (xs:Array Value),HRel P C m h w->GOk C m->jah m args xs.toList ->
  ∀ c cs,∃ m' w' x,Step P C h.nx m h w m' h' w'/\VRel m' v x/\Does P m c cs tgt xs w w' x
theorem iM_call {P:Program} {C:Cx} {f:FuncId} {args:List Opd} {op:Op} (h:iM P C (.call f args) op=true) :
  ∃ args' ts,op = .call { callee := .value (.func f),args:=args',argTypes:=ts } /\ ja1 C args args'.toList=true:=by
 unfold iM at h
 split at h<;>first | contradiction | skip
 next heq=>cases heq;simp only [zm,nbeq,zq] at h;obtain ⟨rfl,h⟩:=h;exact ⟨_,_,rfl,h⟩
theorem iM_callv {P:Program} {C:Cx} {x:Opd} {args:List Opd} {op:Op} (h:iM P C (.callv x args) op=true) :
  ∃ y args' ts,op = .call { callee := .value y,args:=args',argTypes:=ts } /\ opdM C x y=true/\ja1 C args args'.toList=true:=by
 unfold iM at h
 split at h<;>first | contradiction | skip
 next heq=>cases heq;simp only [zm] at h;exact ⟨_,_,_,rfl,h.1,h.2⟩
theorem iM_callb {P:Program} {C:Cx} {ms:List (String × List (TypeId × FuncId))} {x:Opd} {args:List Opd} {op:Op} (h:iM P C (.callb ms x args) op=true) :
  ∃ y args' ts,op = .call { callee := .value y,args:=args',argTypes:=ts } /\ opdM C x y=true/\ja1 C args args'.toList=true/\(ms.all fun q=>q.2.all fun p=>jeG P p.1 p.2 q.1)=true:=by
 unfold iM at h
 split at h<;>first | contradiction | skip
 next heq=>cases heq;simp only [zm] at h;exact ⟨_,_,_,rfl,h.1.1,h.1.2,h.2⟩
theorem iM_invoke {P:Program} {C:Cx} {tbl:List (TypeId × FuncId)} {x:Opd} {args:List Opd} {op:Op} (h:iM P C (.invoke tbl x args) op=true) :
  ∃ y name args' ts,op = .call { callee := .invoke y name,args:=args',argTypes:=ts } /\ opdM C x y=true/\ja1 C args args'.toList=true/\(tbl.all fun p=>jeG P p.1 p.2 name)=true:=by
 unfold iM at h
 split at h<;>first | contradiction | skip
 next heq=>cases heq;simp only [zm] at h;exact ⟨_,_,_,_,rfl,h.1.1,h.1.2,h.2⟩
section
variable {P:Program} {C:Cx} {N:Nat} {m:Mp} {h h':H} {w:World} {e:Env} {t:Array Value} {o:Oper} {v:V} {call:Am.Call}
theorem jlO {i:I} (hM:iM P C i o.op=true) (hi:i ≠ .fail) : ∀ c,o.op ≠ .defer c:=by
 intro c hc
 rw [hc] at hM
 cases i<;>first | exact hi rfl | (simp [iM] at hM;done)
theorem jfg {ty:TypeId} {f:FuncId} {name:String} (hm:jeG P ty f name=true) (x:Value) (n:Nat):(method (n+1) ty x name).run P w = .ok (f,x) w:=by
 unfold jeG at hm
 split at hm
 ·next i hi=>
  split at hm
  ·next mt hmt=>
   simp only [zm] at hm
   obtain ⟨hp,hm⟩:=hm
   have hp':mt.path.toList=[]:=by simpa using hp
   have hti:(typeInfo ty).run P w = .ok i w:=by simp [typeInfo,hi]
   split at hm
   ·next g b d hf hu=>
    simp only [zm,beq_iff_eq,nbeq,zq] at hm
    obtain ⟨rfl,rfl⟩:=hm
    simp only [method,zF,hti,zG,hmt,hp',follow,zH,hf,receiverAt,zI hu]
    cases d<;>simp only [jlV,Place.get,zH,zG]
   ·cases hm
  ·cases hm
 ·cases hm
theorem eff_steps (hT:TOk P C) (hC:jcv P C call) (hG:GOk C m) (hR:HRel P C m h w) (he:ERel m e t) (hN:N<=h.nx) {i:I} (hc:i.cls = .E) (hM:iM P C i o.op=true) (hr:i.eff call e h=some (v,h')) {ops:Array Oper} {ix:Nat}
  (ho:ops[ix]?=some o) (hw:Region.wanted o (yielded ops t)=true) :
  ∀ fn ro rest k ds cs,∃ m' w' x,Step P C N m h w m' h' w'/\VRel m' v x/\Steps P (lone (Fm fn ro t (.inRegion ops (ix :: rest) :: k) ds) cs w) (lone (Fm fn ro (putT t o.dst x) (.inRegion ops rest :: k) ds) cs w'):=by
 intro fn ro rest k ds cs
 have hif:i ≠ .fail:=by intro e;subst e;simp [I.cls] at hc
 have hd:=jlO hM hif
 by_cases hn:i.calls=false
 ·obtain ⟨m',w',hs,hx⟩:=eff_sound hT hG hR he hN hc hn hM hr
  rcases hx with ⟨x,h1,h2⟩ | ⟨h1,rfl⟩
  ·exact ⟨m',w',x,hs,h2,.one (jcz ho hw hd h1)⟩
  ·exact ⟨m',w',undef,hs,⟨#[],rfl,rfl⟩,.one (jkx ho hw hd h1)⟩
 ·
  have key : ∀ tgt vs (xs:Array Value),call tgt vs h=some (v,h')->jah m vs xs.toList->(∀ f,tgt = .fn f->(execOp (evT t) o).run P w=(callFunc f xs).run P w) ->
    (∀ l loc,tgt = .yld l->m l=some loc->(execOp (evT t) o).run P w=(Instr.yield loc.β xs).run P w) ->
    ∃ m' w' x,Step P C N m h w m' h' w'/\VRel m' v x/\Steps P (lone (Fm fn ro t (.inRegion ops (ix :: rest) :: k) ds) cs w) (lone (Fm fn ro (putT t o.dst x) (.inRegion ops rest :: k) ds) cs w'):=by
   intro tgt vs xs hcall hxs hfn hyl
   obtain ⟨m',w',x,h1,h2,h3⟩:=hC tgt vs h v h' hcall m w xs hR hG hxs (Fm fn ro t (.inRegion ops (ix :: rest) :: k) ds) cs
   refine ⟨m',w',x,h1.weaken hN,h2,?_⟩
   cases tgt with
   | fn f=>
    rcases h3 with h3 | ⟨h3,h4⟩
    ·exact .one (jcz ho hw hd (by rw [hfn f rfl];exact h3))
    ·refine .head (ji1 ho hw hd (by rw [hfn f rfl];exact h3)) ?_
     rw [jci ho] at h4
     exact h4
   | yld l=>
    obtain ⟨loc,fid,t',a,b,h4,h5,h6⟩:=h3
    refine .head (ji0 ho hw hd (by rw [hyl l loc rfl h4];exact h5)) ?_
    rw [jci ho] at h6
    exact h6
  cases i with
  | call f args=>
   obtain ⟨args',ts,hop,hM⟩:=iM_call hM
   simp only [I.eff] at hr
   split at hr
   ·next vs hvs=>
    refine key (.fn _) vs _ hr (jb6 (t:=t) hG he hM hvs) (fun g hg=>?_) (fun l loc hl _=>by cases hl)
    cases hg
    simp only [execOp,hop,zF,resolve,Deferred.ofValue,evT,zH,zG,invoke]
    simp
   ·cases hr
  | callv x args=>
   obtain ⟨y,args',ts,hop,hM1,hM2⟩:=iM_callv hM
   simp only [I.eff] at hr
   split at hr
   ·next f cap vs g1 g2=>
    obtain ⟨xs,e1,h5⟩:=jab (t:=t) hG he hM1 g1
    have h6:=jb6 (t:=t) hG he hM2 g2
    refine key (.fn f) (vs++cap) (_++xs) hr (by rw [Array.toList_append];exact h6.append h5) (fun g hg=>?_) (fun l loc hl _=>by cases hl)
    cases hg
    simp only [execOp,hop,zF,resolve,e1,Deferred.ofValue,zH,zG,invoke]
    simp
   ·next l vs g1 g2=>
    obtain ⟨loc,h5,e1⟩:=jab (t:=t) hG he hM1 g1
    have h6:=jb6 (t:=t) hG he hM2 g2
    refine key (.yld l) vs _ hr h6 (fun g hg=>by cases hg) (fun l' loc' hl hm=>?_)
    cases hl
    rw [h5] at hm;cases hm
    simp only [execOp,hop,zF,resolve,e1,Deferred.ofValue,zH,zG,invoke]
    simp
   ·next f u vs g1 g2=>
    obtain ⟨y',e1,h5⟩:=jab (t:=t) hG he hM1 g1
    have h6:=jb6 (t:=t) hG he hM2 g2
    refine key (.fn f) (u :: vs) (#[y']++_) hr (by rw [Array.toList_append];exact ⟨y',_,rfl,h5,h6⟩) (fun g hg=>?_) (fun l loc hl _=>by cases hl)
    cases hg
    simp only [execOp,hop,zF,resolve,e1,Deferred.ofValue,zH,zG,invoke]
    simp
   ·cases hr
  | callb ms x args=>
   obtain ⟨y,args',ts,hop,hM1,hM2,hM3⟩:=iM_callb hM
   simp only [I.eff] at hr
   split at hr
   ·next f cap vs g1 g2=>
    obtain ⟨xs,e1,h5⟩:=jab (t:=t) hG he hM1 g1
    have h6:=jb6 (t:=t) hG he hM2 g2
    refine key (.fn f) (vs++cap) (_++xs) hr (by rw [Array.toList_append];exact h6.append h5) (fun g hg=>?_) (fun l loc hl _=>by cases hl)
    cases hg
    simp only [execOp,hop,zF,resolve,e1,Deferred.ofValue,zH,zG,invoke]
    simp
   ·next l vs g1 g2=>
    obtain ⟨loc,h5,e1⟩:=jab (t:=t) hG he hM1 g1
    have h6:=jb6 (t:=t) hG he hM2 g2
    refine key (.yld l) vs _ hr h6 (fun g hg=>by cases hg) (fun l' loc' hl hm=>?_)
    cases hl
    rw [h5] at hm;cases hm
    simp only [execOp,hop,zF,resolve,e1,Deferred.ofValue,zH,zG,invoke]
    simp
   ·next n ty u vs g1 g2=>
    split at hr
    ·next q1 tbl hq1=>
     split at hr
     ·next q2 f hf=>
      obtain ⟨y',e1,h5⟩:=jab (t:=t) hG he hM1 g1
      have h6:=jb6 (t:=t) hG he hM2 g2
      have hn:=List.find?_some hq1
      simp only [beq_iff_eq] at hn
      subst hn
      have hq:=List.find?_some hf
      simp only [beq_iff_eq] at hq
      subst hq
      have hm:=zC.1 (zC.1 hM3 _ (List.mem_of_find?_eq_some hq1)) _ (List.mem_of_find?_eq_some hf)
      refine key (.fn f) (u :: vs) (#[y']++_) hr (by rw [Array.toList_append];exact ⟨y',_,rfl,h5,h6⟩) (fun g hg=>?_) (fun l loc hl _=>by cases hl)
      cases hg
      have hmr:=jfg hm y' (P.types.size+Made.depth-1) (w:=w)
      have hfu:P.types.size+Made.depth-1+1=P.types.size+Made.depth:=by unfold Made.depth;omega
      rw [hfu] at hmr
      have h0 : ∀ (a:Value) (xs:Array Value),(#[a]++xs)[0]?=some a:=fun a xs=>by simp [Array.getElem?_append]
      have h1 : ∀ (a:Value) (xs:Array Value),(#[a]++xs).extract 1 (#[a]++xs).size=xs:=fun a xs=>by
       apply Array.ext' ;simp
      simp only [execOp,hop,zF,resolve,e1,Deferred.ofValue,zH,zG,invoke,h0,h1]
      simp [callMethod,hmr]
     ·cases hr
    ·cases hr
   ·next f u vs g1 g2=>
    obtain ⟨y',e1,h5⟩:=jab (t:=t) hG he hM1 g1
    have h6:=jb6 (t:=t) hG he hM2 g2
    refine key (.fn f) (u :: vs) (#[y']++_) hr (by rw [Array.toList_append];exact ⟨y',_,rfl,h5,h6⟩) (fun g hg=>?_) (fun l loc hl _=>by cases hl)
    cases hg
    simp only [execOp,hop,zF,resolve,e1,Deferred.ofValue,zH,zG,invoke]
    simp
   ·cases hr
  | invoke tbl x args=>
   obtain ⟨x',name,args',ts,hop,hM1,hM2,hM3⟩:=iM_invoke hM
   simp only [I.eff] at hr
   split at hr
   ·next ty u vs g1 g2=>
    split at hr
    ·next q f hf=>
     obtain ⟨y,e1,h5⟩:=jab (t:=t) hG he hM1 g1
     have h6:=jb6 (t:=t) hG he hM2 g2
     have hmem:=List.mem_of_find?_eq_some hf
     have hq:=List.find?_some hf
     have hm:=zC.1 hM3 _ hmem
     simp only [beq_iff_eq] at hq
     subst hq
     refine key (.fn f) (u :: vs) (#[y]++_) hr (by rw [Array.toList_append];exact ⟨y,_,rfl,h5,h6⟩) (fun g hg=>?_) (fun l loc hl _=>by cases hl)
     cases hg
     have hmr:=jfg hm y (P.types.size+Made.depth-1) (w:=w)
     have hfu:P.types.size+Made.depth-1+1=P.types.size+Made.depth:=by unfold Made.depth;omega
     rw [hfu] at hmr
     have h0 : ∀ (a:Value) (xs:Array Value),(#[a]++xs)[0]?=some a:=fun a xs=>by simp [Array.getElem?_append]
     have h1 : ∀ (a:Value) (xs:Array Value),(#[a]++xs).extract 1 (#[a]++xs).size=xs:=fun a xs=>by
      apply Array.ext' ;simp
     simp only [execOp,hop,zF,resolve,e1,zH,zG,invoke,h0,h1]
     simp [callMethod,hmr]
    ·cases hr
   ·cases hr
  | _=>simp [I.calls] at hn
end
end Am
namespace Am
open Go
section
variable {e e2:Env}
theorem jae {x:Opd} (h : ∀ s∈x.slots,e.get s=e2.get s):x.ev e=x.ev e2:=by
 cases x with
 | t s=>exact h s (by simp [Opd.slots])
 | c _=>rfl
theorem jbv : ∀ {l:List Opd},(∀ s∈jh8 l,e.get s=e2.get s)->evs e l=evs e2 l
 | [],_=>rfl
 | x :: r,h=>by
  simp only [evs]
  rw [jae (x:=x) fun s hs=>h s (by simp [jh8,hs]),jbv (l:=r) fun s hs=>h s (by
   simp only [jh8,List.flatMap_cons,zy];exact .inr hs)]
theorem jck {x:Option Opd} (h : ∀ s∈jfb x,e.get s=e2.get s):evo e x=evo e2 x:=by
 cases x with
 | none=>rfl
 | some x=>simp only [evo];rw [jae (x:=x) h]
theorem jbW : ∀ {l:List (Nat × Nat × Opd)},(∀ s∈(l.flatMap fun p=>p.2.2.slots),e.get s=e2.get s)->jaR e l=jaR e2 l
 | [],_=>rfl
 | (_,_,x) :: r,h=>by
  simp only [jaR]
  rw [jae (x:=x) fun s hs=>h s (by simp [hs]),jbW (l:=r) fun s hs=>h s (by
   simp only [List.flatMap_cons,zy];exact .inr hs)]
theorem jd3 (sz:Nat) : ∀ (l:List (Nat × Opd)),((l.map fun p=>(p.1*sz,sz,p.2)).flatMap fun p=>p.2.2.slots)=l.flatMap fun p=>p.2.slots
 | []=>rfl
 | _ :: r=>by simp [jd3 sz r]
theorem jkD {i:I} (h : ∀ s∈i.slots,e.get s=e2.get s):i.pure e=i.pure e2:=by
 cases i<;>simp only [I.slots,zy,or_imp,forall_and] at h<;>simp only [I.pure]
 case mv x=>rw [jae h]
 case recap u x=>rw [jae h]
 case pick c a b=>rw [jae h.1.1,jae h.1.2,jae h.2]
 case build z ps=>rw [jbW h]
 case nilck x=>rw [jae h]
 case mkBm n x=>rw [jae h]
 case mkBcl n x=>rw [jae h]
 case nilckB n tbl x=>rw [jae h]
 case bin op x y=>rw [jae h.1,jae h.2]
 case eq k n x y=>rw [jae h.1,jae h.2]
 case un op x=>rw [jae h]
 case convInt k x=>rw [jae h]
 case mkIface t x=>rw [jae h]
 case mkClo f l=>rw [jbv h]
 case sliceS x lo hi=>rw [jae h.1.1,jck h.1.2,jck h.2]
 case slice sz x lo hi mx=>rw [jae h.1.1.1,jck h.1.1.2,jck h.1.2,jck h.2]
 case faddr off x=>rw [jae h]
 case field off n x=>rw [jae h]
 case ixaA a b x y=>rw [jae h.1,jae h.2]
 case ixaS a x y=>rw [jae h.1,jae h.2]
 case ixA a b c x y=>rw [jae h.1,jae h.2]
 case ixStr x y=>rw [jae h.1,jae h.2]
 case extract x i=>rw [jae h]
 case lenS x=>rw [jae h]
 case lenL x=>rw [jae h]
 case minI l=>rw [jbv h]
 case maxI l=>rw [jbv h]
theorem jcX {i:I} (h : ∀ s∈i.slots,e.get s=e2.get s) (hp:H):i.read e hp=i.read e2 hp:=by
 cases i<;>simp only [I.slots,zy,or_imp,forall_and] at h<;>simp only [I.read]
 case load1 x=>rw [jae h]
 case loadN n x=>rw [jae h]
 case ofBytes x=>rw [jae h]
 case lookup ks z ok x y=>rw [jae h.1,jae h.2]
theorem jkK {i:I} (h : ∀ s∈i.slots,e.get s=e2.get s):i.make e=i.make e2:=by
 cases i<;>simp only [I.slots,zy,or_imp,forall_and] at h<;>simp only [I.make]
 case box sz x=>rw [jae h]
 case bslice sz n z ps=>rw [jbW (by rw [jd3];exact h)]
 case toBytes x=>rw [jae h]
 case mkSlice a b c x y=>rw [jae h.1,jae h.2]
theorem eff_congr {i:I} (h : ∀ s∈i.slots,e.get s=e2.get s) (call:Am.Call) (hp:H):i.eff call e hp=i.eff call e2 hp:=by
 cases i<;>simp only [I.slots,zy,or_imp,forall_and] at h<;>simp only [I.eff]
 case mark x=>rw [jae h]
 case store n a x=>rw [jae h.1,jae h.2]
 case mput ks a b c=>rw [jae h.1.1,jae h.1.2,jae h.2]
 case mdel ks a b=>rw [jae h.1,jae h.2]
 case call f l=>rw [jbv h]
 case callv x l=>rw [jae h.1,jbv h.2]
 case callb ms x l=>rw [jae h.1,jbv h.2]
 case invoke tbl x l=>rw [jae h.1,jbv h.2]
 case append a b x y=>rw [jae h.1,jae h.2]
 case copy a x y=>rw [jae h.1,jae h.2]
 case clear z x=>rw [jae h]
theorem jbq {g:Option (Nat × Bool)} (h : ∀ s∈jel g,e.get s=e2.get s):wanted e g=wanted e2 g:=by
 cases g with
 | none=>rfl
 | some p=>simp only [wanted];rw [h p.1 (by simp [jel])]
end
structure Ext (X:Nat->Option Obj) (h h2:H):Prop where
 nx:h2.nx=h.nx
 get : ∀ j,h2.get j=(h.get j).or (X j)
 off : ∀ j,X j≠none->j<h.nx/\h.get j=none
section
variable {X:Nat->Option Obj} {h h2:H}
theorem Ext.refl (h:H):Ext (fun _=>none) h h:=⟨rfl,fun j=>by simp,fun j hj=>zw rfl hj⟩
theorem Ext.has (x:Ext X h h2) {b:Nat} {o:Obj} (hb:h.get b=some o):h2.get b=some o:=by rw [x.get,hb];rfl
theorem Ext.none_of (x:Ext X h h2) {b:Nat} {o:Obj} (hb:h.get b=Option.some o):X b=none:=by
 by_cases e:X b=none
 ·exact e
 ·have:=(x.off b e).2;rw [hb] at this;cases this
theorem Ext.none_nx (x:Ext X h h2) {b:Nat} (hb:h.nx<=b):X b=none:=by
 by_cases e:X b=none
 ·exact e
 ·have:=(x.off b e).1;omega
theorem Ext.upd (x:Ext X h h2) {b:Nat} (hX:X b=none) (o:Option Obj):Ext X (h.upd b o) (h2.upd b o):=by
 refine ⟨x.nx,fun j=>?_,fun j hj=>?_⟩
 ·rw [H.get_upd,H.get_upd]
  by_cases e:j=b
  ·subst e;rw [zg rfl,zg rfl,hX];simp
  ·rw [zb e,zb e];exact x.get j
 ·have hne:j≠b:=fun e=>hj (e ▸ hX)
  rw [H.get_upd,zb hne];exact x.off j hj
theorem Ext.set (x:Ext X h h2) {b:Nat} (hX:X b=none) (o:Obj):Ext X (h.set b o) (h2.set b o):=x.upd hX _
theorem Ext.kill (x:Ext X h h2) {b:Nat} (hX:X b=none):Ext X (h.kill b) (h2.kill b):=x.upd hX _
theorem Ext.new (x:Ext X h h2) (o:Obj):Ext X (h.new o) (h2.new o):=by
 refine ⟨by simp [x.nx],fun j=>?_,fun j hj=>?_⟩
 ·rw [H.get_new,H.get_new,x.nx]
  by_cases e:j=h.nx
  ·subst e;rw [zg rfl,zg rfl];rfl
  ·rw [zb e,zb e];exact x.get j
 ·have:=x.off j hj
  have hne:j≠h.nx:=by omega
  rw [H.get_new,zb hne];exact ⟨by simp;omega,this.2⟩
theorem Ext.reserve (x:Ext X h h2) (n:Nat):Ext X (h.reserve n) (h2.reserve n) :=
 ⟨by simp [x.nx],fun j=>by simp [x.get],fun j hj=>by have:=x.off j hj;exact ⟨by simp;omega,this.2⟩⟩
theorem Ext.load (x:Ext X h h2) {b o n:Nat} {l:List V} (hl:h.load b o n=Option.some l):h2.load b o n=Option.some l:=by
 unfold H.load at *
 split at hl
 ·next hb=>rw [x.has hb];exact hl
 ·cases hl
theorem Ext.load1 (x:Ext X h h2) {b o:Nat} {v:V} (hl:h.load1 b o=Option.some v):h2.load1 b o=Option.some v:=by
 unfold H.load1 at *
 split at hl
 ·next hb=>rw [x.has hb];exact hl
 ·cases hl
theorem Ext.map? (x:Ext X h h2) {b:Nat} {es:List (V × V × Nat) × Nat} (hl:h.map? b=Option.some es):h2.map? b=Option.some es/\X b=none:=by
 unfold H.map? at *
 split at hl
 ·next hb=>rw [x.has hb];exact ⟨hl,x.none_of hb⟩
 ·cases hl
theorem Ext.store (x:Ext X h h2) {b o:Nat} {vs:List V} {h':H} (hl:h.store b o vs=Option.some h') : ∃ h2',h2.store b o vs=Option.some h2'/\Ext X h' h2':=by
 unfold H.store at *
 split at hl
 ·next hb=>
  rw [x.has hb]
  dsimp only
  revert hl
  generalize (Nat.ble _ _&&_)=c
  cases c with
  | false=>intro hl;cases hl
  | true=>intro hl;cases hl;exact ⟨_,rfl,x.set (x.none_of hb) _⟩
 ·cases hl
theorem Ext.src (x:Ext X h h2) {sz n:Nat} {v:V} {l:List V} (hl:jaT h sz n v=Option.some l):jaT h2 sz n v=Option.some l:=by
 unfold jaT at *
 split at hl
 ·exact hl
 ·revert hl
  generalize (n*sz == 0)=c
  cases c with
  | true=>exact id
  | false=>exact x.load
 ·exact hl
 ·cases hl
theorem Ext.append (x:Ext X h h2) {sz bytes:Nat} {a b v:V} {h':H} (hl:jb8 h sz bytes a b=Option.some (v,h')) : ∃ h2',jb8 h2 sz bytes a b=Option.some (v,h2')/\Ext X h' h2':=by
 unfold jb8 at *
 split at hl
 ·cases hl
 next n hn=>
 split at hl
 ·cases hl
 next new hnew=>
 rw [x.src hnew]
 dsimp only
 split at hl
 ·next base len cap=>
  try dsimp only
  revert hl
  generalize (Nat.ble _ _&&Nat.ble _ _)=c
  cases c with
  | false=>intro hl;cases hl
  | true=>
  dsimp only [cond_true]
  generalize (n == 0)=c
  cases c with
  | true=>intro hl;cases hl;exact ⟨_,rfl,x⟩
  | false=>
  dsimp only [cond_false]
  cases base with
  | none=>
   intro hl
   simp only [jbt,Option.some.injEq,Prod.mk.injEq] at hl ⊢
   obtain ⟨rfl,rfl⟩:=hl
   exact ⟨_,⟨by rw [x.nx],rfl⟩,x.new _⟩
  | some p=>
   obtain ⟨b,o⟩:=p
   cases cap with
   | fix c=>
    dsimp only
    generalize (Nat.ble _ c)=q
    cases q with
    | true=>
     dsimp only [cond_true]
     intro hl
     split at hl
     ·next h3 hs=>
      cases hl
      obtain ⟨h4,e1,e2⟩:=x.store hs
      rw [e1]
      exact ⟨_,rfl,e2⟩
     ·cases hl
    | false=>
     dsimp only [cond_false]
     intro hl
     split at hl
     ·next old ho=>
      have:(bif len*sz == 0 then some [] else h2.load b o (len*sz))=some old:=by
       revert ho
       generalize (len*sz == 0)=c
       cases c with
       | true=>exact id
       | false=>exact x.load
      rw [this]
      simp only [jbt,Option.some.injEq,Prod.mk.injEq] at hl ⊢
      obtain ⟨rfl,rfl⟩:=hl
      exact ⟨_,⟨by rw [x.nx],rfl⟩,x.new _⟩
     ·cases hl
   | least q k=>
    dsimp only
    generalize (Nat.beq q sz&&Nat.ble _ k)=c
    cases c with
    | true=>
     dsimp only [cond_true]
     intro hl
     split at hl
     ·next h3 hs=>
      cases hl
      obtain ⟨h4,e1,e2⟩:=x.store hs
      rw [e1]
      exact ⟨_,rfl,e2⟩
     ·cases hl
    | false=>intro hl;cases hl
   | grow q=>
    dsimp only
    intro hl
    split at hl
    ·next l hb=>
     rw [x.has hb]
     dsimp only
     revert hl
     generalize (_&&_&&_)=c
     cases c with
     | false=>intro hl;cases hl
     | true=>
      dsimp only [cond_true]
      intro hl
      simp only [jbt,Option.some.injEq,Prod.mk.injEq] at hl ⊢
      obtain ⟨rfl,rfl⟩:=hl
      exact ⟨_,⟨by simp [x.nx],rfl⟩,(x.kill (x.none_of hb)).new _⟩
    ·cases hl
 ·cases hl
theorem Ext.copy (x:Ext X h h2) {sz:Nat} {a b v:V} {h':H} (hl:jhR h sz a b=Option.some (v,h')) : ∃ h2',jhR h2 sz a b=Option.some (v,h2')/\Ext X h' h2':=by
 unfold jhR at *
 split at hl
 ·next base len c k hk=>
  dsimp only at hl ⊢
  split at hl
  ·cases hl
  next l hs=>
  rw [x.src hs]
  dsimp only
  revert hl
  generalize l.isEmpty=c
  cases c with
  | true=>intro hl;cases hl;exact ⟨_,rfl,x⟩
  | false=>
   dsimp only [cond_false]
   intro hl
   split at hl
   ·cases hl
   ·split at hl
    ·next h3 hs=>
     cases hl
     obtain ⟨h4,e1,e2⟩:=x.store hs
     rw [e1]
     exact ⟨_,rfl,e2⟩
    ·cases hl
 ·cases hl
theorem Ext.clear (x:Ext X h h2) {z:List V} {a v:V} {h':H} (hl:jd1 h z a=Option.some (v,h')) : ∃ h2',jd1 h2 z a=Option.some (v,h2')/\Ext X h' h2':=by
 unfold jd1 at *
 split at hl
 ·next base n c=>
  revert hl
  generalize Nat.beq n 0=b
  cases b with
  | true=>intro hl;cases hl;exact ⟨_,rfl,x⟩
  | false=>
   dsimp only [cond_false]
   intro hl
   split at hl
   ·cases hl;exact ⟨_,rfl,x⟩
   ·split at hl
    ·next h3 hs=>
     cases hl
     obtain ⟨h4,e1,e2⟩:=x.store hs
     rw [e1]
     exact ⟨_,rfl,e2⟩
    ·cases hl
 ·cases hl
theorem Ext.read (x:Ext X h h2) {e:Env} {i:I} {v:V} (hr:i.read e h=Option.some v):i.read e h2=Option.some v:=by
 cases i<;>simp only [I.read] at hr ⊢ <;> try (cases hr;done)
 case load1 a=>
  split at hr
  ·split at hr
   ·next hl=>rw [x.load1 hl];exact hr
   ·cases hr
  ·cases hr
 case loadN n a=>
  split at hr
  ·split at hr
   ·next hl=>rw [x.load hl];exact hr
   ·cases hr
  ·cases hr
 case ofBytes a=>
  split at hr
  ·exact hr
  ·next n _ _=>
   revert hr
   generalize (n == 0)=c
   cases c with
   | true=>exact id
   | false=>
    dsimp only [cond_false]
    intro hr
    split at hr
    ·next hl=>rw [x.load hl];exact hr
    ·cases hr
  ·cases hr
 case lookup ks z ok m k=>
  split at hr
  ·exact hr
  ·split at hr
   ·next hl=>rw [(x.map? hl).1];exact hr
   ·cases hr
  ·cases hr
end
def jcn (call:Am.Call):Prop := ∀ tgt args h v h',call tgt args h=some (v,h') -> ∀ X h2,Ext X h h2 -> ∃ h2',call tgt args h2=some (v,h2')/\Ext X h' h2'
section
variable {X:Nat->Option Obj} {h h2 h':H} {call:Am.Call} {e:Env} {v:V}
theorem Ext.eff (hC:jcn call) (x:Ext X h h2) {i:I} (hr:i.eff call e h=some (v,h')) : ∃ h2',i.eff call e h2=some (v,h2')/\Ext X h' h2':=by
 cases i<;>simp only [I.eff] at hr ⊢ <;> try (cases hr;done)
 case mark a=>
  split at hr
  ·split at hr
   ·next n _ _ _ hb=>
    simp only [zt,zA] at hr
    split at hr
    ·next h1=>cases hr;rw [x.has hb];exact ⟨_,by simp only [zt,zA,zg h1],x⟩
    ·cases hr
   ·cases hr
  ·cases hr
 case store n a y=>
  split at hr
  ·next u _ _=>
   revert hr
   generalize (u.cells.length == n)=c
   cases c with
   | false=>intro hr;cases hr
   | true=>
    dsimp only [cond_true]
    intro hr
    split at hr
    ·next hs=>
     cases hr
     obtain ⟨h4,e1,e2⟩:=x.store hs
     rw [e1];exact ⟨_,rfl,e2⟩
    ·cases hr
  ·cases hr
 case mput ks a b c=>
  split at hr
  ·split at hr
   ·next hm=>
    rw [(x.map? hm).1]
    dsimp only
    split at hr
    ·cases hr;exact ⟨_,rfl,x.set (x.map? hm).2 _⟩
    ·cases hr;exact ⟨_,rfl,x.set (x.map? hm).2 _⟩
    ·cases hr
   ·cases hr
  ·cases hr
 case mdel ks a b=>
  split at hr
  ·split at hr
   ·cases hr;exact ⟨_,rfl,x⟩
   ·cases hr
  ·split at hr
   ·next hm=>
    rw [(x.map? hm).1]
    dsimp only
    split at hr
    ·cases hr;exact ⟨_,rfl,x.set (x.map? hm).2 _⟩
    ·cases hr;exact ⟨_,rfl,x⟩
    ·cases hr
   ·cases hr
  ·cases hr
 case call f l=>
  split at hr
  ·exact hC _ _ _ _ _ hr _ _ x
  ·cases hr
 case callv y l=>
  split at hr
  ·exact hC _ _ _ _ _ hr _ _ x
  ·exact hC _ _ _ _ _ hr _ _ x
  ·exact hC _ _ _ _ _ hr _ _ x
  ·cases hr
 case callb ms y l=>
  split at hr
  ·exact hC _ _ _ _ _ hr _ _ x
  ·exact hC _ _ _ _ _ hr _ _ x
  ·split at hr
   ·split at hr
    ·exact hC _ _ _ _ _ hr _ _ x
    ·cases hr
   ·cases hr
  ·exact hC _ _ _ _ _ hr _ _ x
  ·cases hr
 case invoke tbl y l=>
  split at hr
  ·split at hr
   ·exact hC _ _ _ _ _ hr _ _ x
   ·cases hr
  ·cases hr
 case append a b y z=>
  split at hr
  ·exact x.append hr
  ·cases hr
 case copy a y z=>
  split at hr
  ·exact x.copy hr
  ·cases hr
 case clear a y=>
  split at hr
  ·exact x.clear hr
  ·cases hr
theorem Ext.chk (x:Ext X h h2) : ∀ {l:List (Nat × I × Option (Nat × Bool))},jaB e h l=true->jaB e h2 l=true
 | [],_=>rfl
 | (d,i,g) :: r,hc=>by
  simp only [jaB,zm] at hc ⊢
  refine ⟨?_,x.chk hc.2⟩
  have h1:=hc.1
  revert h1
  cases wanted e g with
  | false=>exact id
  | true=>
   dsimp only [cond_true]
   intro h1
   split at h1
   ·next a b ha hb=>rw [x.read ha,hb];exact h1
   ·cases h1
theorem Ext.run (hC:jcn call) (x:Ext X h h2) {i:I} {at_:Option Nat} (ha : ∀ b,at_=some b->X b=none) (hr:i.run call e h at_=some (v,h')) :
  ∃ h2',i.run call e h2 at_=some (v,h2')/\Ext X h' h2':=by
 unfold I.run at *
 cases hc:i.cls<;>simp only [hc] at hr ⊢
 ·split at hr
  ·next hp=>cases hr;exact ⟨_,rfl,x⟩
  ·cases hr
 ·split at hr
  ·next hp=>cases hr;rw [x.read hp];exact ⟨_,rfl,x⟩
  ·cases hr
 ·split at hr
  ·next hp=>
   split at hr
   ·cases hr;exact ⟨_,by rw [x.nx],x.new _⟩
   ·cases hr;exact ⟨_,rfl,x.set (ha _ rfl) _⟩
  ·cases hr
 ·exact Ext.eff hC x hr
end
end Am
namespace Am
open Go
def jnd (body:Env->H->Res):Prop := ∀ e h ex e' h',body e h=some (ex,e',h')->h.nx<=h'.nx /\ ∀ X h2,Ext X h h2 -> ∃ h2',body e h2=some (ex,e',h2')/\Ext X h' h2'
def jeN (call:Am.Call):Prop := ∀ tgt args h v h',call tgt args h=some (v,h')->h.nx<=h'.nx
section
variable {X:Nat->Option Obj} {h h2 h':H} {call:Am.Call} {e:Env} {v:V}
theorem jcA {b o:Nat} {vs:List V} (hl:h.store b o vs=some h'):h'.nx=h.nx:=by
 unfold H.store at hl
 split at hl
 ·revert hl
  generalize (Nat.ble _ _&&_)=c
  cases c with
  | false=>intro hl;cases hl
  | true=>intro hl;cases hl;rfl
 ·cases hl
theorem append_nx {sz bytes:Nat} {a b:V} (hl:jb8 h sz bytes a b=some (v,h')):h.nx<=h'.nx:=by
 unfold jb8 at hl
 split at hl
 ·cases hl
 split at hl
 ·cases hl
 split at hl
 ·next base len cap=>
  revert hl
  generalize (Nat.ble _ _&&Nat.ble _ _)=c
  cases c with
  | false=>intro hl;cases hl
  | true=>
  dsimp only [cond_true]
  generalize (_ == 0)=c
  cases c with
  | true=>intro hl;cases hl;exact zn _
  | false=>
  dsimp only [cond_false]
  intro hl
  split at hl
  ·simp only [jbt,Option.some.injEq,Prod.mk.injEq] at hl
   rw [<- hl.2];simp
  ·revert hl
   generalize (Nat.ble _ _)=c
   cases c with
   | true=>
    dsimp only [cond_true]
    intro hl
    split at hl
    ·next hs=>cases hl;rw [jcA hs];exact zn _
    ·cases hl
   | false=>
    dsimp only [cond_false]
    intro hl
    split at hl
    ·simp only [jbt,Option.some.injEq,Prod.mk.injEq] at hl
     rw [<- hl.2];simp
    ·cases hl
  ·revert hl
   generalize (_&&_)=c
   cases c with
   | true=>
    dsimp only [cond_true]
    intro hl
    split at hl
    ·next hs=>cases hl;rw [jcA hs];exact zn _
    ·cases hl
   | false=>intro hl;cases hl
  ·split at hl
   ·revert hl
    generalize (_&&_&&_)=c
    cases c with
    | false=>intro hl;cases hl
    | true=>
     dsimp only [cond_true]
     intro hl
     simp only [jbt,Option.some.injEq,Prod.mk.injEq] at hl
     rw [<- hl.2];simp
   ·cases hl
 ·cases hl
theorem copy_nx {sz:Nat} {a b:V} (hl:jhR h sz a b=some (v,h')):h.nx<=h'.nx:=by
 unfold jhR at hl
 split at hl
 ·dsimp only at hl
  split at hl
  ·cases hl
  revert hl
  generalize List.isEmpty _=c
  cases c with
  | true=>intro hl;cases hl;exact zn _
  | false=>
   dsimp only [cond_false]
   intro hl
   split at hl
   ·cases hl
   ·split at hl
    ·next hs=>cases hl;rw [jcA hs];exact zn _
    ·cases hl
 ·cases hl
theorem clear_nx {z:List V} {a v:V} (hl:jd1 h z a=some (v,h')):h.nx<=h'.nx:=by
 unfold jd1 at hl
 split at hl
 ·revert hl
  generalize Nat.beq _ 0=c
  cases c with
  | true=>intro hl;cases hl;exact zn _
  | false=>
   dsimp only [cond_false]
   intro hl
   split at hl
   ·cases hl;exact zn _
   ·split at hl
    ·next hs=>cases hl;rw [jcA hs];exact zn _
    ·cases hl
 ·cases hl
theorem eff_nx (hG:jeN call) {i:I} (hr:i.eff call e h=some (v,h')):h.nx<=h'.nx:=by
 cases i<;>simp only [I.eff] at hr<;>try (cases hr;done)
 case mark a=>
  split at hr
  ·split at hr
   ·simp only [zt] at hr
    split at hr
    ·cases hr;exact zn _
    ·cases hr
   ·cases hr
  ·cases hr
 case store n a y=>
  split at hr
  ·next u _ _=>
   revert hr
   generalize (u.cells.length == n)=c
   cases c with
   | false=>intro hr;cases hr
   | true=>
    dsimp only [cond_true]
    intro hr
    split at hr
    ·next hs=>cases hr;rw [jcA hs];exact zn _
    ·cases hr
  ·cases hr
 case mput ks a b c=>
  split at hr
  ·split at hr
   ·split at hr
    ·cases hr;simp
    ·cases hr;simp
    ·cases hr
   ·cases hr
  ·cases hr
 case mdel ks a b=>
  split at hr
  ·split at hr
   ·cases hr;simp
   ·cases hr
  ·split at hr
   ·split at hr
    ·cases hr;simp
    ·cases hr;simp
    ·cases hr
   ·cases hr
  ·cases hr
 case call f l=>
  split at hr
  ·exact hG _ _ _ _ _ hr
  ·cases hr
 case callv y l=>
  split at hr
  ·exact hG _ _ _ _ _ hr
  ·exact hG _ _ _ _ _ hr
  ·exact hG _ _ _ _ _ hr
  ·cases hr
 case callb ms y l=>
  split at hr
  ·exact hG _ _ _ _ _ hr
  ·exact hG _ _ _ _ _ hr
  ·split at hr
   ·split at hr
    ·exact hG _ _ _ _ _ hr
    ·cases hr
   ·cases hr
  ·exact hG _ _ _ _ _ hr
  ·cases hr
 case invoke tbl y l=>
  split at hr
  ·split at hr
   ·exact hG _ _ _ _ _ hr
   ·cases hr
  ·cases hr
 case append a b y z=>
  split at hr
  ·exact append_nx hr
  ·cases hr
 case copy a y z=>
  split at hr
  ·exact copy_nx hr
  ·cases hr
 case clear a y=>
  split at hr
  ·exact clear_nx hr
  ·cases hr
theorem run_nx (hG:jeN call) {i:I} {at_:Option Nat} (hr:i.run call e h at_=some (v,h')):h.nx<=h'.nx:=by
 unfold I.run at hr
 cases hc:i.cls<;>simp only [hc] at hr
 ·split at hr
  ·cases hr;exact zn _
  ·cases hr
 ·split at hr
  ·cases hr;exact zn _
  ·cases hr
 ·split at hr
  ·split at hr
   ·cases hr;simp
   ·cases hr;simp
  ·cases hr
 ·exact eff_nx hG hr
theorem Ext.runOps (hC:jcn call) (hG:jeN call) {base:Nat} : ∀ {l:List Ins} {e e':Env} {h h2 h':H},Ext X h h2->(∀ k,base<=k->X k=none)->jag call base l e h=some (e',h') ->
  h.nx<=h'.nx /\ ∃ h2',Am.jag call base l e h2=some (e',h2')/\Ext X h' h2'
 | [],e,e',h,h2,h',x,_,hr=>by cases hr;exact ⟨zn _,_,rfl,x⟩
 | s :: r,e,e',h,h2,h',x,hX,hr=>by
  simp only [Am.jag] at hr ⊢
  revert hr
  cases wanted e s.guard with
  | false=>exact fun hr=>Ext.runOps hC hG x hX hr
  | true=>
   dsimp only [cond_true]
   intro hr
   split at hr
   ·next v h1 h1r=>
    obtain ⟨h3,e3,x3⟩:=x.run hC (fun b hb=>by
     cases ha:s.at_ with
     | none=>rw [ha] at hb;cases hb
     | some k=>rw [ha] at hb;cases hb;exact hX _ (Nat.le_add_right _ _)) h1r
    rw [e3]
    dsimp only
    revert hr
    cases hc:jaB e h1 s.chk with
    | false=>intro hr;cases hr
    | true=>
     dsimp only [cond_true]
     intro hr
     rw [x3.chk hc]
     have:=Ext.runOps hC hG x3 hX hr
     exact ⟨zu (run_nx hG h1r) this.1,this.2⟩
   ·cases hr
theorem joH {body:Env->H->Res} (hB:jnd body) (live:List Nat) : ∀ n,jnd (iter body live n)
 | 0=>fun e h ex e' h' hr=>by cases hr
 | n+1=>fun e h ex e' h' hr=>by
  simp only [iter] at hr ⊢
  split at hr
  ·next e1 h1 hb=>
   have h3:=hB _ _ _ _ _ hb
   have h4:=joH hB live n _ _ _ _ _ hr
   refine ⟨zu h3.1 h4.1,fun X h2 x=>?_⟩
   obtain ⟨h5,e5,x5⟩:=h3.2 X h2 x
   rw [e5]
   exact h4.2 X h5 x5
  ·next hb=>
   have h3:=hB _ _ _ _ _ hr
   refine ⟨h3.1,fun X h2 x=>?_⟩
   obtain ⟨h5,e5,x5⟩:=h3.2 X h2 x
   rw [e5]
   have hne:ex ≠ .normal:=fun e0=>hb e' h' (by rw [hr,e0])
   split
   ·next e1=>cases e1;exact zw rfl hne
   ·exact ⟨_,rfl,x5⟩
theorem D_F (hC:jcn call) (hG:jeN call) (fuel:Nat) : ∀ c,jnd (D call fuel c)
 | .skip=>fun e h ex e' h' hr=>by cases hr;exact ⟨zn _,fun X h2 x=>⟨_,rfl,x⟩⟩
 | .label _=>fun e h ex e' h' hr=>by cases hr;exact ⟨zn _,fun X h2 x=>⟨_,rfl,x⟩⟩
 | .exit _=>fun e h ex e' h' hr=>by cases hr;exact ⟨zn _,fun X h2 x=>⟨_,rfl,x⟩⟩
 | .ret=>fun e h ex e' h' hr=>by cases hr;exact ⟨zn _,fun X h2 x=>⟨_,rfl,x⟩⟩
 | .scope b=>D_F hC hG fuel b
 | .loop live b=>joH (D_F hC hG fuel b) live fuel
 | .region res ops keep=>fun e h ex e' h' hr=>by
  simp only [D] at hr ⊢
  split at hr
  ·next e1 h1 hb=>
   cases hr
   refine ⟨?_,fun X h2 x=>?_⟩
   ·have:=(Ext.runOps hC hG (Ext.refl _) (fun _ _=>rfl) hb).1
    simp at this;omega
   ·have:=(Ext.runOps hC hG (x.reserve res) (fun k hk=>x.none_nx hk) hb).2
    obtain ⟨h3,e3,x3⟩:=this
    rw [x.nx,e3]
    exact ⟨_,rfl,x3⟩
  ·cases hr
 | .seq a b=>fun e h ex e' h' hr=>by
  simp only [D] at hr ⊢
  split at hr
  ·next e1 h1 hb=>
   have h3:=D_F hC hG fuel a _ _ _ _ _ hb
   have h4:=D_F hC hG fuel b _ _ _ _ _ hr
   refine ⟨zu h3.1 h4.1,fun X h2 x=>?_⟩
   obtain ⟨h5,e5,x5⟩:=h3.2 X h2 x
   rw [e5]
   exact h4.2 X h5 x5
  ·next hb=>
   have h3:=D_F hC hG fuel a _ _ _ _ _ hr
   refine ⟨h3.1,fun X h2 x=>?_⟩
   obtain ⟨h5,e5,x5⟩:=h3.2 X h2 x
   rw [e5]
   have hne:ex ≠ .normal:=fun e0=>hb e' h' (by rw [hr,e0])
   split
   ·next e1=>cases e1;exact zw rfl hne
   ·exact ⟨_,rfl,x5⟩
 | .cond c a b=>fun e h ex e' h' hr=>by
  simp only [D] at hr ⊢
  split at hr
  ·exact D_F hC hG fuel a _ _ _ _ _ hr
  ·exact D_F hC hG fuel b _ _ _ _ _ hr
  ·cases hr
 | .block id b=>fun e h ex e' h' hr=>by
  simp only [D] at hr ⊢
  split at hr
  ·next id' e1 h1 hb=>
   have h3:=D_F hC hG fuel b _ _ _ _ _ hb
   have hh:h'=h1:=by
    revert hr
    cases (id' == id)<;>intro hr<;>cases hr<;>rfl
   subst hh
   refine ⟨h3.1,fun X h2 x=>?_⟩
   obtain ⟨h5,e5,x5⟩:=h3.2 X h2 x
   rw [e5]
   dsimp only
   revert hr
   cases (id' == id)<;>intro hr<;>cases hr<;>exact ⟨_,rfl,x5⟩
  ·next hb=>
   have h3:=D_F hC hG fuel b _ _ _ _ _ hr
   refine ⟨h3.1,fun X h2 x=>?_⟩
   obtain ⟨h5,e5,x5⟩:=h3.2 X h2 x
   rw [e5]
   have hne : ∀ id',ex ≠ .exit id':=fun id' e0=>hb id' e' h' (by rw [hr,e0])
   split
   ·next e1=>cases e1;exact zw rfl (hne _)
   ·exact ⟨_,rfl,x5⟩
 | .rangeFunc f ps live a b=>fun e h ex e' h' hr=>by
  simp only [D] at hr ⊢
  split at hr
  ·next g cap hf=>
   split at hr
   ·next v h1 hc=>
    have g1:=hG _ _ _ _ _ hc
    simp only [H.nx_new] at g1
    split at hr
    ·next st pend x1 x2 x3 x4 hl=>
     have key:h.nx<=h'.nx/\h'=h1.kill h.nx:=by
      split at hr
      ·cases hr
      ·split at hr<;>cases hr<;>exact ⟨by simp;omega,rfl⟩
     refine ⟨key.1,fun X h2 x=>?_⟩
     obtain ⟨h5,e5,x5⟩:=hC _ _ _ _ _ hc X _ (x.new _)
     rw [x.nx,e5]
     dsimp only
     rw [x5.has hl]
     dsimp only
     have hk:=x5.kill (x.none_nx (zn _))
     rw [key.2]
     split at hr
     ·cases hr
     ·split at hr<;>cases hr<;>exact ⟨_,rfl,hk⟩
    ·cases hr
   ·cases hr
  ·cases hr
def rvOf (e:Env) (h:H):RV->Option V
 | .tmp s=>e.get s
 | .cell1 s=>match e.get s with
  | some (.ptr (some (b,o)))=>h.load1 b o
  | _=>none
 | .cellN s n=>match e.get s with
  | some (.ptr (some (b,o)))=>match h.load b o n with
   | some l=>some (.agg l)
   | none=>none
  | _=>none
theorem jeS (e:Env) (h:H) (r:RV) (rs:List RV):jbR e h (r :: rs)=match rvOf e h r,jbR e h rs with
  | some v,some l=>some (v :: l)
  | _,_=>none:=by
 cases r<;>rfl
theorem rvOf_F {h h2:H} (x:Ext X h h2) {e:Env} {r:RV} {v:V} (h1:rvOf e h r=some v):rvOf e h2 r=some v:=by
 cases r with
 | tmp s=>exact h1
 | cell1 s=>
  simp only [rvOf] at h1 ⊢
  split at h1
  ·next hp=>exact x.load1 h1
  ·cases h1
 | cellN s n=>
  simp only [rvOf] at h1 ⊢
  split at h1
  ·next hp=>
   split at h1
   ·next hl=>rw [x.load hl];exact h1
   ·cases h1
  ·cases h1
theorem ji5 {h h2:H} (x:Ext X h h2) {e:Env} : ∀ {l:List RV} {vs:List V},jbR e h l=some vs->jbR e h2 l=some vs
 | [],_,hr=>hr
 | r :: rs,vs,hr=>by
  rw [jeS] at hr ⊢
  split at hr
  ·next v l h1 h3=>rw [ji5 x h3,rvOf_F x h1];exact hr
  ·cases hr
theorem runFn_F (hC:jcn call) (hG:jeN call) {fuel:Nat} {fn:AFn} {args:List V} (hr:jcW call fuel fn args h=some (v,h')) :
  h.nx<=h'.nx /\ ∀ X h2,Ext X h h2 -> ∃ h2',jcW call fuel fn args h2=some (v,h2')/\Ext X h' h2':=by
 simp only [jcW] at hr ⊢
 revert hr
 generalize (args.length == fn.np)=c
 cases c with
 | false=>intro hr;cases hr
 | true=>
  dsimp only [cond_true]
  intro hr
  split at hr
  ·cases hr
  ·next ex e1 h1 hne hd=>
   split at hr
   ·next l hl=>
    cases hr
    have h3:=D_F hC hG fuel _ _ _ _ _ _ hd
    refine ⟨h3.1,fun X h2 x=>?_⟩
    obtain ⟨h5,e5,x5⟩:=h3.2 X h2 x
    rw [e5]
    split
    ·next e6=>cases e6;exact zw rfl (hne _)
    ·next e6=>cases e6;rw [ji5 x5 hl];exact ⟨_,rfl,x5⟩
    ·next e6=>cases e6
   ·cases hr
  ·cases hr
theorem jk0 (hC:jcn call) (hG:jeN call) {fuel l:Nat} {args:List V} (hr:jbE call fuel l args h=some (v,h')) :
  h.nx<=h'.nx /\ ∀ X h2,Ext X h h2 -> ∃ h2',jbE call fuel l args h2=some (v,h2')/\Ext X h' h2':=by
 simp only [jbE] at hr ⊢
 split at hr
 ·next st pd ps env a b hl=>
  split at hr
  ·cases hr
  ·next e0 he0=>
   split at hr
   ·next e1 h1 ha=>
    have f1:=D_F hC hG fuel _ _ _ _ _ _ ha
    split at hr
    ·next ps1 en1 a1 b1 hl1=>
     split at hr
     ·next ex e3 h3 hb=>
      have f2:=D_F hC hG fuel _ _ _ _ _ _ hb
      simp only [H.nx_set] at f2
      split at hr
      ·next st3 pd3 ps3 en3 a3 b3 hl3=>
       have key:h'.nx=h3.nx:=by split at hr<;>cases hr<;>rfl
       refine ⟨by rw [key];exact zu f1.1 f2.1,fun X h2 x=>?_⟩
       rw [x.has hl]
       dsimp only
       rw [he0]
       dsimp only
       obtain ⟨h5,e5,x5⟩:=f1.2 X h2 x
       rw [e5]
       dsimp only
       rw [x5.has hl1]
       dsimp only
       obtain ⟨h6,e6,x6⟩:=f2.2 X _ (x5.set (x5.none_of hl1) _)
       rw [e6]
       dsimp only
       rw [x6.has hl3]
       dsimp only
       split at hr<;>cases hr<;>exact ⟨_,rfl,x6.set (x6.none_of hl3) _⟩
      ·cases hr
     ·cases hr
    ·cases hr
   ·cases hr
 ·cases hr
end
def jbh (P:Prog):Prop := ∀ f p,jaL P.prims f=some p -> ∀ args h v h',p args h=some (v,h')->h.nx<=h'.nx /\ ∀ X h2,Ext X h h2 -> ∃ h2',p args h2=some (v,h2')/\Ext X h' h2'
theorem jbY {P:Prog} (hP:jbh P) (fuel:Nat) : ∀ n,jcn (ja9 P fuel n)/\jeN (ja9 P fuel n)
 | 0=>⟨fun tgt args h v h' hr=>by simp [ja9] at hr,fun tgt args h v h' hr=>by simp [ja9] at hr⟩
 | n+1=>by
  have ih:=jbY hP fuel n
  have key : ∀ tgt args h v h',ja9 P fuel (n+1) tgt args h=some (v,h')->h.nx<=h'.nx /\ ∀ X h2,Ext X h h2 -> ∃ h2',ja9 P fuel (n+1) tgt args h2=some (v,h2')/\Ext X h' h2':=by
   intro tgt args h v h' hr
   cases tgt with
   | fn f=>
    simp only [ja9] at hr ⊢
    split at hr
    ·next p hp=>exact hP f p hp _ _ _ _ hr
    ·split at hr
     ·exact runFn_F ih.1 ih.2 hr
     ·cases hr
   | yld l=>
    simp only [ja9] at hr ⊢
    exact jk0 ih.1 ih.2 hr
  exact ⟨fun tgt args h v h' hr=>(key tgt args h v h' hr).2,fun tgt args h v h' hr=>(key tgt args h v h' hr).1⟩
end Am
namespace Am
open Go
def EnvX (d:Option Nat) (e e2:Env):Prop := ∀ s,some s≠d->e2.get s=e.get s
theorem jbH (k:Nat) (v:V) (e:Env) (s:Nat):Env.get ((k,v) :: e) s=if k=s then some v else e.get s:=by
 simp only [Env.get,nbeq,jbX]
theorem jaJ (e:Env) (d:Option Nat) (v:V) (s:Nat):(layv e d v).get s=if d=some s then some v else e.get s:=by
 cases d with
 | none=>simp [layv]
 | some d=>simp only [layv,jbH,Option.some.injEq]
theorem EnvX.layv {d:Option Nat} {e e2:Env} (x:EnvX d e e2) (q:Option Nat) (v:V):EnvX d (layv e q v) (layv e2 q v):=by
 intro s hs
 rw [jaJ,jaJ]
 split
 ·rfl
 ·exact x s hs
theorem EnvX.refl (d:Option Nat) (e:Env):EnvX d e e:=fun _ _=>rfl
def Off (d:Option Nat) (a:Ins):Prop := ∀ s,d=some s->s ∉ a.looks/\s ∉ a.clooks/\a.dst≠some s
theorem Off.none (a:Ins):Off none a:=fun s h=>by cases h
section
variable {X:Nat->Option Obj} {h h2 h':H} {call:Am.Call} {base:Nat}
theorem jdK {e e2:Env} {i:I} (hs : ∀ s∈i.slots,e.get s=e2.get s) (h:H) (at_:Option Nat):i.run call e h at_=i.run call e2 h at_:=by
 unfold I.run
 rw [jkD hs,jcX hs,jkK hs,eff_congr hs]
theorem jhV {e e2:Env} : ∀ {l:List (Nat × I × Option (Nat × Bool))},(∀ s∈(l.flatMap fun c=>c.1 :: (jel c.2.2++c.2.1.slots)),e.get s=e2.get s) -> ∀ h,jaB e h l=jaB e2 h l
 | [],_,_=>rfl
 | (d,i,g) :: r,hs,h=>by
  simp only [List.flatMap_cons,zy,zE] at hs
  simp only [jaB]
  rw [jbq (e:=e) (e2:=e2) (g:=g) (fun s h=>hs s (.inl (.inr (.inl h)))),jcX (e:=e) (e2:=e2) (i:=i) (fun s h=>hs s (.inl (.inr (.inr h)))),hs d (.inl (.inl rfl)),
   jhV (l:=r) (fun s h=>hs s (.inr h)) h]
theorem Off.agree {d:Option Nat} {a:Ins} (ho:Off d a) {e e2:Env} (x:EnvX d e e2):(∀ s∈jel a.guard,e.get s=e2.get s)/\(∀ s∈a.i.slots,e.get s=e2.get s)/\(∀ s∈a.clooks,e.get s=e2.get s):=by
 refine ⟨fun s hs=>?_,fun s hs=>?_,fun s hs=>?_⟩
 ·refine (x s fun e=>?_).symm
  exact (ho s e.symm).1 (by unfold Ins.looks;simp [hs])
 ·refine (x s fun e=>?_).symm
  exact (ho s e.symm).1 (by unfold Ins.looks;simp [hs])
 ·refine (x s fun e=>?_).symm
  exact (ho s e.symm).2.1 hs
theorem jb4 (hC:jcn call) {d:Option Nat} : ∀ {l:List Ins} {e e' e2:Env} {h h' h2:H},EnvX d e e2->Ext X h h2->(∀ a∈l,∀ k,a.at_=some k->X (base+k)=none)->(∀ a∈l,Off d a) ->
  jag call base l e h=some (e',h') -> ∃ e2' h2',jag call base l e2 h2=some (e2',h2')/\EnvX d e' e2'/\(∀ s,d=some s->e2'.get s=e2.get s)/\Ext X h' h2'
 | [],e,e',e2,h,h',h2,x,y,_,_,hr=>by cases hr;exact ⟨_,_,rfl,x,fun _ _=>rfl,y⟩
 | a :: r,e,e',e2,h,h',h2,x,y,hX,hO,hr=>by
  have hX' : ∀ b∈r,∀ k,b.at_=some k->X (base+k)=none:=fun b hb=>hX b (zj _ hb)
  have hO' : ∀ b∈r,Off d b:=fun b hb=>hO b (zj _ hb)
  have ho:=hO a (zh ..)
  obtain ⟨g1,g2,g3⟩:=ho.agree x
  have hkeep : ∀ (v:V) s,d=some s->(layv e2 a.dst v).get s=e2.get s:=fun v s hs=>by
   rw [jaJ,zb (ho s hs).2.2]
  simp only [jag] at hr ⊢
  rw [<- jbq g1]
  revert hr
  cases wanted e a.guard with
  | false=>
   dsimp only [cond_false]
   intro hr
   obtain ⟨e3,h3,q1,q2,q3,q4⟩:=jb4 hC (x.layv a.dst .undef) y hX' hO' hr
   exact ⟨e3,h3,q1,q2,fun s hs=>(q3 s hs).trans (hkeep _ s hs),q4⟩
  | true=>
   dsimp only [cond_true]
   intro hr
   split at hr
   ·next v h1 h1r=>
    rw [jdK g2] at h1r
    obtain ⟨h3,e3,x3⟩:=y.run hC (fun b hb=>by
     cases ha:a.at_ with
     | none=>rw [ha] at hb;cases hb
     | some k=>rw [ha] at hb;cases hb;exact hX a (zh ..) k ha) h1r
    rw [e3]
    dsimp only
    revert hr
    rw [jhV g3]
    cases hc:jaB e2 h1 a.chk with
    | false=>intro hr;cases hr
    | true=>
     dsimp only [cond_true]
     intro hr
     rw [x3.chk hc]
     obtain ⟨e4,h4,q1,q2,q3,q4⟩:=jb4 hC (x.layv a.dst v) x3 hX' hO' hr
     exact ⟨e4,h4,q1,q2,fun s hs=>(q3 s hs).trans (hkeep _ s hs),q4⟩
   ·cases hr
theorem jbs {s:Nat} : ∀ {l:List Ins} {e e':Env} {h h':H},(∀ a∈l,a.dst≠some s)->jag call base l e h=some (e',h')->e'.get s=e.get s
 | [],e,e',h,h',_,hr=>by cases hr;rfl
 | a :: r,e,e',h,h',hs,hr=>by
  have h0 : ∀ v,(layv e a.dst v).get s=e.get s:=fun v=>by rw [jaJ,zb (hs a (zh ..))]
  have hs' : ∀ b∈r,b.dst≠some s:=fun b hb=>hs b (zj _ hb)
  simp only [jag] at hr
  revert hr
  cases wanted e a.guard with
  | false=>dsimp only [cond_false];intro hr;rw [jbs hs' hr,h0]
  | true=>
   dsimp only [cond_true]
   intro hr
   split at hr
   ·revert hr
    cases jaB e _ a.chk with
    | false=>intro hr;cases hr
    | true=>dsimp only [cond_true];intro hr;rw [jbs hs' hr,h0]
   ·cases hr
theorem runOps_append {l':List Ins} : ∀ {l:List Ins} {e:Env} {h:H},jag call base (l++l') e h=match jag call base l e h with
  | some (e1,h1)=>jag call base l' e1 h1
  | none=>none
 | [],e,h=>rfl
 | a :: r,e,h=>by
  simp only [List.cons_append,jag]
  cases wanted e a.guard with
  | false=>dsimp only [cond_false];exact runOps_append
  | true=>
   dsimp only [cond_true]
   cases a.i.run call e h (a.at_.map (base + ·)) with
   | none=>rfl
   | some p=>
    obtain ⟨v,h1⟩:=p
    dsimp only
    cases jaB e h1 a.chk with
    | false=>rfl
    | true=>dsimp only [cond_true];exact runOps_append
def jgI (a:Ins):Prop:=a.i.cls = .P\/a.i.cls = .R
theorem jcI {a:Ins} (hq:jgI a) {e:Env} {at_:Option Nat} {v:V} (hr:a.i.run call e h at_=some (v,h')):h'=h:=by
 unfold I.run at hr
 rcases hq with hq | hq<;>rw [hq] at hr<;>dsimp only at hr<;>split at hr<;>cases hr<;>rfl
theorem jcJ : ∀ {l:List Ins} {e e':Env} {h h':H},(∀ a∈l,jgI a)->jag call base l e h=some (e',h')->h'=h
 | [],e,e',h,h',_,hr=>by cases hr;rfl
 | a :: r,e,e',h,h',hq,hr=>by
  have hq' : ∀ b∈r,jgI b:=fun b hb=>hq b (zj _ hb)
  simp only [jag] at hr
  revert hr
  cases wanted e a.guard with
  | false=>exact jcJ hq'
  | true=>
   dsimp only [cond_true]
   intro hr
   split at hr
   ·next h1r=>
    have:=jcI (hq a (zh ..)) h1r
    subst this
    revert hr
    cases jaB e _ a.chk with
    | false=>intro hr;cases hr
    | true=>exact jcJ hq'
   ·cases hr
theorem jdD {a b:Opd} (h:Opd.same a b=true):a=b:=by
 cases a<;>cases b<;>simp [Opd.same] at h
 ·rw [h]
 ·rw [V.same_eq h]
theorem sameR_eq {a b:I} (h:I.sameR a b=true):a=b:=by
 unfold I.sameR at h
 split at h
 all_goals first | rw [jdD h] | (simp only [zm,nbeq,zq] at h;rw [h.1,jdD h.2]) | (simp only [zm,beq_iff_eq] at h;obtain ⟨⟨⟨⟨rfl,h1⟩,rfl⟩,h2⟩,h3⟩:=h;rw [V.same_eq h1,jdD h2,jdD h3]) | cases h
theorem jmo {e:Env} {h:H} : ∀ {l:List (Nat × I × Option (Nat × Bool))},jaB e h l=true -> ∀ c∈l,wanted e c.2.2=true -> ∃ v,c.2.1.read e h=some v/\e.get c.1=some v
 | [],_,c,hc,_=>by cases hc
 | (d,i,g) :: r,hk,c,hc,hw=>by
  simp only [jaB,zm] at hk
  rcases zE.1 hc with rfl | hc
  ·have:=hk.1
   dsimp only at hw
   rw [hw] at this
   dsimp only [cond_true] at this
   split at this
   ·next v u h1 h2=>rw [V.same_eq this] at h1;exact ⟨u,h1,h2⟩
   ·cases this
  ·exact jmo hk.2 c hc hw
theorem jbQ {d:Option Nat} {hb:H} {ef:Env} : ∀ {l:List Ins} {e e' e2:Env} {h h':H},EnvX d e e2->(∀ a∈l,jgI a/\a.chk=[])->(∀ a∈l,Off d a) ->
  (∀ a∈l,a.i.cls = .R->(∃ d,a.dst=some d/\d ∉ a.looks/\(wanted ef a.guard=true -> ∃ v,a.i.read ef hb=some v/\ef.get d=some v))) ->
  l.Pairwise (fun a b=>a.i.cls = .R -> ∀ s,b.dst=some s->s ∉ a.looks/\a.dst≠some s)->(∀ s,e'.get s=ef.get s) ->
  jag call base l e h=some (e',h') -> ∃ e2',jag call base l e2 hb=some (e2',hb)/\EnvX d e' e2'/\(∀ s,d=some s->e2'.get s=e2.get s)
 | [],e,e',e2,h,h',x,_,_,_,_,_,hr=>by cases hr;exact ⟨_,rfl,x,fun _ _=>rfl⟩
 | a :: r,e,e',e2,h,h',x,hq,hO,hk,hp,hf,hr=>by
  have hq' : ∀ b∈r,jgI b/\b.chk=[]:=fun b hb=>hq b (zj _ hb)
  have hO' : ∀ b∈r,Off d b:=fun b hb=>hO b (zj _ hb)
  have hk':=fun b hb=>hk b (zj a hb)
  obtain ⟨hp1,hp'⟩:=List.pairwise_cons.1 hp
  have ho:=hO a (zh ..)
  have hka:=hk a (zh ..)
  obtain ⟨hqa,hca⟩:=hq a (zh ..)
  obtain ⟨g1,g2,g3⟩:=ho.agree x
  have hkeep : ∀ (v:V) s,d=some s->(layv e2 a.dst v).get s=e2.get s:=fun v s hs=>by
   rw [jaJ,zb (ho s hs).2.2]
  simp only [jag] at hr ⊢
  rw [<- jbq g1]
  revert hr
  cases hw:wanted e a.guard with
  | false=>
   dsimp only [cond_false]
   intro hr
   obtain ⟨e3,q1,q2,q3⟩:=jbQ (x.layv a.dst .undef) hq' hO' hk' hp' hf hr
   exact ⟨e3,q1,q2,fun s hs=>(q3 s hs).trans (hkeep _ s hs)⟩
  | true=>
   dsimp only [cond_true]
   intro hr
   split at hr
   ·next v h1 h1r=>
    have hh:=jcI hqa h1r
    subst hh
    rw [hca] at hr ⊢
    simp only [jaB,cond_true] at hr ⊢
    have hrun:a.i.run call e2 hb (a.at_.map (base + ·))=some (v,hb):=by
     rw [<- jdK g2]
     unfold I.run at h1r ⊢
     rcases hqa with hc | hc
     ·rw [hc] at h1r ⊢
      dsimp only at h1r ⊢
      split at h1r
      ·cases h1r;rfl
      ·cases h1r
     ·rw [hc] at h1r ⊢
      dsimp only at h1r ⊢
      split at h1r
      ·next u hu=>
       cases h1r
       obtain ⟨da,hd1,hd2,hd3⟩:=hka hc
       have agree : ∀ s,s∈a.looks->ef.get s=e.get s:=by
        intro s hs
        rw [<- hf,jbs (s:=s) (fun b hb e1=>(hp1 b hb hc s e1).1 hs) hr,jaJ,hd1,zb]
        intro e1;cases e1;exact hd2 hs
       have hv:ef.get da=some v:=by
        rw [<- hf,jbs (s:=da) (fun b hb e1=>(hp1 b hb hc da e1).2 hd1) hr,jaJ,hd1,zg rfl]
       obtain ⟨v',r1,r2⟩:=hd3 (by rw [jbq (e2:=e) fun s hs=>agree s (by unfold Ins.looks;simp [hs])];exact hw)
       rw [hv] at r2;cases r2
       rw [jcX (e2:=e) fun s hs=>agree s (by unfold Ins.looks;simp [hs])] at r1
       rw [r1]
      ·cases h1r
    rw [hrun]
    dsimp only
    obtain ⟨e4,q1,q2,q3⟩:=jbQ (x.layv a.dst v) hq' hO' hk' hp' hf hr
    exact ⟨e4,q1,q2,fun s hs=>(q3 s hs).trans (hkeep _ s hs)⟩
   ·cases hr
structure Free (a b:Ins):Prop where
 off:Off b.dst a
 nolook : ∀ d,a.dst=some d->d ∉ b.looks
 cls:b.i.cls ≠ .P->(a.i.cls = .E->b.i.cls = .A)/\(a.i.cls = .A->b.i.cls = .A) /\
  (a.i.cls = .R->b.i.cls = .E -> ∃ d,a.dst=some d/\(d,a.i,a.guard)∈b.chk)
structure Ok1 (a:Ins):Prop where
 chk:a.i.cls ≠ .E->a.chk=[]
 own:a.i.cls = .R -> ∀ d,a.dst=some d->d ∉ a.looks
def Keep (a b:Ins):Prop:=a.i.cls = .R -> ∀ s,b.dst=some s->s ∉ a.looks/\a.dst≠some s
def One (call:Am.Call) (base:Nat) (b:Ins) (e:Env) (h:H) (v:V) (h1:H):Prop :=
 (wanted e b.guard=false/\v = .undef/\h1=h)\/(wanted e b.guard=true/\b.i.run call e h (b.at_.map (base + ·))=some (v,h1))
theorem comm (hC:jcn call) {pre post:List Ins} {b:Ins} {e e':Env} {h h':H} (hr:jag call base (pre++b :: post) e h=some (e',h')) (hF : ∀ a∈pre,Free a b) (hok : ∀ a∈pre,Ok1 a) (hpw:pre.Pairwise Keep)
  (hat : ∀ k,b.at_=some k->h.get (base+k)=none/\base+k<h.nx /\ ∀ a∈pre,a.at_≠some k) (hA:b.i.cls = .A -> ∃ k,b.at_=some k) :
  ∃ v h1,One call base b e h v h1 /\ ∃ e2' h2',jag call base (pre++post) (layv e b.dst v) h1=some (e2',h2')/\(∀ s,e2'.get s=e'.get s)/\Ext (fun _=>none) h' h2':=by
 rw [runOps_append] at hr
 cases hp:jag call base pre e h with
 | none=>rw [hp] at hr;cases hr
 | some p=>
 obtain ⟨e1,h1⟩:=p
 rw [hp] at hr
 dsimp only at hr
 have hsame : ∀ s∈b.looks,e1.get s=e.get s:=fun s hs=>jbs (fun a ha e0=>(hF a ha).nolook s e0 hs) hp
 have hg : ∀ s∈jel b.guard,e1.get s=e.get s:=fun s hs=>hsame s (by unfold Ins.looks;simp [hs])
 have hi : ∀ s∈b.i.slots,e1.get s=e.get s:=fun s hs=>hsame s (by unfold Ins.looks;simp [hs])
 have fin : ∀ (v:V) (hx hy:H),jag call base post (layv e1 b.dst v) hx=some (e',h') -> ∀ e3 h3,jag call base pre (layv e b.dst v) hy=some (e3,h3)->EnvX b.dst e1 e3 ->
   (∀ s,b.dst=some s->e3.get s=(layv e b.dst v).get s)->Ext (fun _=>none) hx h3 ->
   ∃ e2' h2',jag call base (pre++post) (layv e b.dst v) hy=some (e2',h2')/\(∀ s,e2'.get s=e'.get s)/\Ext (fun _=>none) h' h2':=by
  intro v hx hy h4 e3 h3 h5 h6 h7 h8
  rw [runOps_append,h5]
  dsimp only
  have hx':EnvX none (layv e1 b.dst v) e3:=by
   intro s _
   rw [jaJ]
   split
   ·next e0=>rw [h7 s e0,jaJ,zg e0]
   ·next e0=>exact h6 s fun e9=>e0 e9.symm
  obtain ⟨e4,h4',q1,q2,_,q4⟩:=jb4 hC hx' h8 (fun _ _ _ _=>rfl) (fun a _=>Off.none a) h4
  exact ⟨e4,h4',q1,fun s=>q2 s Zb,q4⟩
 have hx0 : ∀ v,EnvX b.dst e (layv e b.dst v):=fun v s hs=>by rw [jaJ,zb fun e0=>hs e0.symm]
 have hO : ∀ a∈pre,Off b.dst a:=fun a ha=>(hF a ha).off
 have plain : ∀ v,jag call base post (layv e1 b.dst v) h1=some (e',h') -> ∃ e2' h2',jag call base (pre++post) (layv e b.dst v) h=some (e2',h2')/\(∀ s,e2'.get s=e'.get s)/\Ext (fun _=>none) h' h2':=by
  intro v h4
  obtain ⟨e3,h3,q1,q2,q3,q4⟩:=jb4 hC (hx0 v) (Ext.refl h) (fun _ _ _ _=>rfl) hO hp
  exact fin v h1 h h4 e3 h3 q1 q2 q3 q4
 simp only [jag] at hr
 rw [jbq hg] at hr
 revert hr
 cases hw:wanted e b.guard with
 | false=>
  dsimp only [cond_false]
  intro hr
  exact ⟨.undef,h,.inl ⟨hw,rfl,rfl⟩,plain _ hr⟩
 | true=>
 dsimp only [cond_true]
 intro hr
 rw [jdK hi] at hr
 split at hr
 ·next v hb hbr=>
  revert hr
  cases hc:jaB e1 hb b.chk with
  | false=>intro hr;cases hr
  | true=>
  dsimp only [cond_true]
  intro hr
  cases hcl:b.i.cls with
  | P=>
   have hq:jgI b := .inl hcl
   have:=jcI hq hbr
   subst this
   refine ⟨v,h,.inr ⟨hw,?_⟩,plain v hr⟩
   unfold I.run at hbr ⊢
   rw [hcl] at hbr ⊢
   dsimp only at hbr ⊢
   split at hbr
   ·cases hbr;rfl
   ·cases hbr
  | R=>
   have hqa : ∀ a∈pre,jgI a:=fun a ha=>by
    have:=(hF a ha).cls (by rw [hcl];simp)
    cases ha':a.i.cls with
    | P=>exact .inl ha'
    | R=>exact .inr ha'
    | A=>have:=this.2.1 ha';rw [hcl] at this;cases this
    | E=>have:=this.1 ha';rw [hcl] at this;cases this
   have hh:=jcJ hqa hp
   subst hh
   have:=jcI (.inr hcl) hbr
   subst this
   exact ⟨v,_,.inr ⟨hw,hbr⟩,plain v hr⟩
  | E=>
   have hqa : ∀ a∈pre,jgI a:=fun a ha=>by
    have:=(hF a ha).cls (by rw [hcl];simp)
    cases ha':a.i.cls with
    | P=>exact .inl ha'
    | R=>exact .inr ha'
    | A=>have:=this.2.1 ha';rw [hcl] at this;cases this
    | E=>have:=this.1 ha';rw [hcl] at this;cases this
   have hh:=jcJ hqa hp
   subst hh
   have hqc : ∀ a∈pre,jgI a/\a.chk=[]:=fun a ha=>⟨hqa a ha,(hok a ha).chk fun e0=>by
    rcases hqa a ha with h9 | h9<;>rw [h9] at e0<;>cases e0⟩
   obtain ⟨e3,q1,q2,q3⟩:=jbQ (hb:=hb) (ef:=e1) (hx0 v) hqc hO (fun a ha hR=>by
    obtain ⟨d,h6,h7⟩:=((hF a ha).cls (by rw [hcl];simp)).2.2 hR hcl
    refine ⟨d,h6,(hok a ha).own hR d h6,fun h8=>?_⟩
    exact jmo hc _ h7 h8) hpw (fun _=>rfl) hp
   obtain ⟨e4,h4,r1⟩:=fin v hb hb hr e3 hb q1 q2 q3 (Ext.refl hb)
   exact ⟨v,hb,.inr ⟨hw,hbr⟩,e4,h4,r1⟩
  | A=>
   obtain ⟨k,hk⟩:=hA hcl
   obtain ⟨k1,k2,k3⟩:=hat k hk
   unfold I.run at hbr
   rw [hcl,hk] at hbr
   dsimp only [Option.map_some] at hbr
   split at hbr
   ·next ob mk hm=>
    cases hbr
    have hx:Ext (fun j=>if j=base+k then some ob else none) h (h.set (base+k) ob):=by
     refine ⟨rfl,fun j=>?_,fun j hj=>?_⟩
     ·rw [H.get_set]
      by_cases e0:j=base+k
      ·subst e0;simp [k1]
      ·simp [e0]
     ·by_cases e0:j=base+k
      ·subst e0;exact ⟨k2,k1⟩
      ·simp [e0] at hj
    obtain ⟨e3,h3,q1,q2,q3,q4⟩:=jb4 hC (hx0 (mk (base+k))) hx (fun a ha k' hk'=>by
     have hne:base+k'≠base+k:=fun e0=>k3 a ha (by rw [hk'];congr 1;omega)
     exact zb hne) hO hp
    have hz:Ext (fun _=>none) (h1.set (base+k) ob) h3:=by
     refine ⟨q4.nx,fun j=>?_,fun j hj=>zw rfl hj⟩
     rw [H.get_set,q4.get]
     by_cases e0:j=base+k
     ·have:=(q4.off j (by simp [e0])).2
      rw [this];simp [e0]
     ·simp [e0]
    obtain ⟨e4,h4,r1⟩:=fin _ _ _ hr e3 h3 q1 q2 q3 hz
    refine ⟨_,_,.inr ⟨hw,?_⟩,e4,h4,r1⟩
    unfold I.run
    rw [hcl,hk]
    dsimp only [Option.map_some]
    rw [hm]
   ·cases hbr
 ·cases hr
end
end Am
namespace Am
open Go
theorem jcK (t:Array Value) (dst:Option Nat) (x:Value):(putT t dst x).size=t.size:=by
 cases dst<;>simp [putT]
section
variable {P:Program} {C:Cx} {N:Nat} {m:Mp} {h h':H} {w:World} {e:Env} {t:Array Value} {v:V} {call:Am.Call}
theorem ERel.layv (he:ERel m e t) {dst:Option Nat} {x:Value} (hv:VRel m v x) (hd : ∀ d,dst=some d->d<t.size):ERel m (layv e dst v) (putT t dst x):=by
 intro s u hu
 rw [jaJ] at hu
 cases dst with
 | none=>rw [zb Zb] at hu;exact he s u hu
 | some d=>
  have:=hd d rfl
  by_cases e0:d=s
  ·subst e0
   simp at hu;subst hu
   exact ⟨x,by simp [putT,this],hv⟩
  ·rw [zb (by simpa using e0)] at hu
   obtain ⟨y,h1,h2⟩:=he s u hu
   exact ⟨y,by simp [putT,Array.getElem?_setIfInBounds_ne e0,h1],h2⟩
theorem VRel.bool {b:Bool} : ∀ {v:V},VRel m v (.bool b)->v = .bool b
 | .bool _,h=>by cases h;rfl
 | .int _ _,h=>by cases h
 | .str _,h=>by cases h
 | .ptr none,h=>by cases h
 | .ptr (some _),⟨_,_,h⟩=>by cases h
 | .slice none _ _,⟨_,_,h⟩=>by cases h
 | .slice (some _) _ _,⟨_,_,_,_,h,_⟩=>by cases h
 | .map none,h=>by cases h
 | .map (some _),⟨_,_,h⟩=>by cases h
 | .clo _ _,⟨_,h,_⟩=>by cases h
 | .yld _,⟨_,_,h⟩=>by cases h
 | .nilfn,h=>by cases h
 | .bm _ _ _,⟨_,h,_⟩=>by cases h
 | .bcl _ _,⟨_,h,_⟩=>by cases h
 | .iface _ _,⟨_,h,_⟩=>by cases h
 | .nili,h=>by cases h
 | .ifc,⟨_,_,h⟩=>by cases h
 | .agg _,⟨_,h,_⟩=>by cases h
 | .tup _,⟨_,h,_⟩=>by cases h
theorem jjX (he:ERel m e t) {g:Option (Nat × Bool)} {ops:Array Oper} {o:Oper} (hM:jfn ops g o.guard=true) (hk : ∀ s b,g=some (s,b)->e.get s≠none) :
  Region.wanted o (yielded ops t)=wanted e g:=by
 unfold jfn at hM
 split at hM
 ·next h1=>rw [Region.wanted,h1];rfl
 ·next s b j b' h1=>
  simp only [zm,beq_iff_eq] at hM
  obtain ⟨rfl,hM⟩:=hM
  split at hM
  ·next o' ho'=>
   have hd:o'.dst=some s:=by simpa using hM
   rw [Region.wanted,h1]
   dsimp only
   unfold yielded
   rw [ho']
   simp only [Option.bind_some,hd]
   have hne:=hk s b rfl
   cases hs:e.get s with
   | none=>exact zw hs hne
   | some v=>
    obtain ⟨x,hx,hv⟩:=he s v hs
    rw [hx]
    simp only [wanted,hs]
    cases x with
    | bool q=>
     have:=hv.bool
     subst this
     cases q<;>cases b<;>rfl
    | _=>
     cases v with
     | bool q=>cases hv
     | _=>rfl
  ·cases hM
 ·cases hM
theorem jch {nt:Nat} {ops:Array Oper} {s:Ins} (hM:insM P C nt ops s=true) : ∃ o,ops[s.ix]?=some o/\s.dst=o.dst/\(∀ d,s.dst=some d->d<nt)/\jfn ops s.guard o.guard=true/\iM P C s.i o.op=true:=by
 unfold insM at hM
 split at hM
 ·next o ho=>
  simp only [zm,beq_iff_eq] at hM
  refine ⟨o,ho,hM.1.1.1,?_,hM.1.2,hM.2⟩
  intro d hd
  have:=hM.1.1.2
  rw [hd] at this
  simp [Nat.blt] at this;omega
 ·cases hM
theorem jh2 (hT:TOk P C) (hC:jcv P C call) (hG:GOk C m) (hR:HRel P C m h w) (he:ERel m e t) (hN:N<=h.nx) {nt:Nat} (hnt:nt<=t.size) {ops:Array Oper} {s:Ins} (hM:insM P C nt ops s=true)
  (hg : ∀ q b,s.guard=some (q,b)->e.get q≠none) {base:Nat} (hat : ∀ k,s.at_=some k->N<=base+k/\base+k<h.nx/\m (base+k)=none/\h.get (base+k)=none) (h1:One call base s e h v h') :
  ∀ fn ro rest k ds cs,∃ m' w' x,Step P C N m h w m' h' w'/\ERel m' (layv e s.dst v) (putT t s.dst x)/\(∀ j,j<h.nx->m j=none->h.get j=none->s.at_.map (base + ·)≠some j->m' j=none/\h'.get j=none) /\
   Steps P (lone (Fm fn ro t (.inRegion ops (s.ix :: rest) :: k) ds) cs w) (lone (Fm fn ro (putT t s.dst x) (.inRegion ops rest :: k) ds) cs w'):=by
 intro fn ro rest k ds cs
 obtain ⟨o,ho,hdst,hlt,hgM,hiM⟩:=jch hM
 have hwant:=jjX he hgM hg
 have hd : ∀ d,s.dst=some d->d<t.size:=fun d hd=>zo (hlt d hd) hnt
 rcases h1 with ⟨hw,rfl,rfl⟩ | ⟨hw,hr⟩
 ·rw [hw] at hwant
  exact ⟨m,w,undef,Step.refl N hR,he.layv ⟨#[],rfl,rfl⟩ hd,fun j _ h1 h2 _=>⟨h1,h2⟩,.one (by rw [hdst];exact jkw ho hwant)⟩
 ·rw [hw] at hwant
  have hval : ∀ {m' w' x},(execOp (evT t) o).run P w = .ok (.value x) w'->s.i ≠ .fail->Step P C N m h w m' h' w'->VRel m' v x->(∀ j,j<h.nx->m j=none->h.get j=none->s.at_.map (base + ·)≠some j->m' j=none/\h'.get j=none) ->
    ∃ m' w' x,Step P C N m h w m' h' w'/\ERel m' (layv e s.dst v) (putT t s.dst x)/\(∀ j,j<h.nx->m j=none->h.get j=none->s.at_.map (base + ·)≠some j->m' j=none/\h'.get j=none) /\
     Steps P (lone (Fm fn ro t (.inRegion ops (s.ix :: rest) :: k) ds) cs w) (lone (Fm fn ro (putT t s.dst x) (.inRegion ops rest :: k) ds) cs w'):=by
   intro m' w' x q1 q2 q3 q4 q5
   exact ⟨m',w',x,q3,(he.mono q3.mono).layv q4 hd,q5,.one (by rw [hdst];exact jcz ho hwant (jlO hiM q2) q1)⟩
  unfold I.run at hr
  cases hc:s.i.cls<;>rw [hc] at hr<;>dsimp only at hr
  ·split at hr
   ·next u hu=>
    cases hr
    obtain ⟨x,h2,h3⟩:=jk5 (o:=o) hT hG he hc hiM hu w
    exact hval h2 (fun e0=>by rw [e0] at hu;simp [I.pure] at hu) (Step.refl N hR) h3 fun j _ h1 h2 _=>⟨h1,h2⟩
   ·cases hr
  ·split at hr
   ·next u hu=>
    cases hr
    obtain ⟨x,h2,h3⟩:=jk2 (o:=o) hT hG hR he hc hiM hu
    exact hval h2 (fun e0=>by rw [e0] at hu;simp [I.read] at hu) (Step.refl N hR) h3 fun j _ h1 h2 _=>⟨h1,h2⟩
   ·cases hr
  ·split at hr
   ·next ob mk hm=>
    obtain ⟨co,x,w',ext,h2,h3,h4,h5⟩:=jkI (o:=o) hT hG he hc hiM hm w
    have hf:s.i ≠ .fail:=fun e0=>by rw [e0] at hm;simp [I.make] at hm
    have hcase:s.at_=none \/ ∃ k,s.at_=some k:=by cases s.at_<;>simp
    rcases hcase with hat' | ⟨k,hat'⟩
    ·rw [hat'] at hr
     dsimp only [Option.map_none] at hr
     cases hr
     have hid:m h.nx=none:=by
      cases e0:m h.nx with
      | none=>rfl
      | some l=>have:=hR.dom _ _ e0;omega
     have hge:h.get h.nx=none:=by
      cases e0:h.get h.nx with
      | none=>rfl
      | some o1=>obtain ⟨l,_,e1,_⟩:=hR.obj _ _ e0;rw [hid] at e1;cases e1
     obtain ⟨h6,h7⟩:=h5 _ hid
     refine hval h2 hf (jcB hR hN hid hge (fun j=>H.get_new h j ob) Zb Zb h3 h4 h6) h7 fun j hj h1 h2 _=>⟨?_,?_⟩
     ·unfold Mp.add;rw [zb om];exact h1
     ·rw [H.get_new,zb om];exact h2
    ·rw [hat'] at hr
     dsimp only [Option.map_some] at hr
     cases hr
     obtain ⟨k1,k2,k3,k4⟩:=hat k hat'
     obtain ⟨h6,h7⟩:=h5 _ k3
     refine hval h2 hf (jcB hR k1 k3 k4 (fun j=>H.get_set h _ j ob) Zb (by simpa using k2) h3 h4 h6) h7 fun j hj h1 h2 h8=>?_
     have hne:j≠base+k:=fun e0=>h8 (by rw [hat',e0];rfl)
     refine ⟨?_,?_⟩
     ·unfold Mp.add;rw [zb hne];exact h1
     ·rw [H.get_set,zb hne];exact h2
   ·cases hr
  ·obtain ⟨m',w',x,h2,h3,h4⟩:=eff_steps (N:=h.nx) hT hC hG hR he (zn _) hc hiM hr ho hwant fn ro rest k ds cs
   refine ⟨m',w',x,h2.weaken hN,(he.mono h2.mono).layv h3 hd,fun j hj q1 q2 _=>⟨h2.old j hj q1,h2.dead j hj q2⟩,?_⟩
   rw [hdst]
   exact h4
end
end Am
