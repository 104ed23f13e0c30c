/- Our own library, part 9: an abstract machine, sound for the model, and what the functions do over it. No condition. -/
import Derived.Lone
import Derived.Test.YtkcenemffnfoeaaGreatK08
import Derived.Test.YtkcenemffnfoeaaGreatK06
set_option maxHeartbeats 8000000
set_option linter.all false
namespace Am
open Go
def Fm (fn:FuncId) (ro:Option Nat) (t:Array Value) (todo:List Item) (ds:List Deferred):Frame :=
 { fn,tmps:=t,todo,defers:=ds,mode := .run,kind := .normal,roundOf:=ro }
theorem jja (fn:FuncId) (ro:Option Nat) (t:Array Value) (todo:List Item) (ds:List Deferred):(Fm fn ro t todo ds).eval=evT t:=by
 funext x;cases x<;>rfl
section
variable {P:Program} {fn:FuncId} {ro:Option Nat} {t:Array Value} {k:List Item} {ds:List Deferred} {cs:List Frame} {w:World}
theorem st_skip:step P (lone (Fm fn ro t (.code .skip :: k) ds) cs w) = .next (lone (Fm fn ro t k ds) cs w):=step_lone_go (by simp [stepG,stepG.exec,Fm])
theorem st_label {l:Nat} : step P (lone (Fm fn ro t (.code (.label l) :: k) ds) cs w) = .next (lone (Fm fn ro t k ds) cs w):=step_lone_go (by simp [stepG,stepG.exec,Fm])
theorem jme {id:Nat} : step P (lone (Fm fn ro t (.inBlock id :: k) ds) cs w) = .next (lone (Fm fn ro t k ds) cs w):=step_lone_go (by simp [stepG,stepG.exec,Fm])
theorem jmd {b:Code} : step P (lone (Fm fn ro t (.inScope b :: k) ds) cs w) = .next (lone (Fm fn ro t k ds) cs w):=step_lone_go (by simp [stepG,stepG.exec,Fm])
theorem st_seq {a b:Code} : step P (lone (Fm fn ro t (.code (.seq a b) :: k) ds) cs w) = .next (lone (Fm fn ro t (.code a :: .code b :: k) ds) cs w):=step_lone_go (by simp [stepG,stepG.exec,Fm])
theorem jnd {c:Operand} {x y:Code} {b:Bool} (h:evT t c = .bool b) :
  step P (lone (Fm fn ro t (.code (.cond c x y) :: k) ds) cs w) = .next (lone (Fm fn ro t (.code (if b then x else y) :: k) ds) cs w) :=
 step_lone_go (by
  have:=congrFun (jja fn ro t (.code (.cond c x y) :: k) ds) c
  simp only [Fm] at this
  simp [stepG,stepG.exec,Fm,this,h])
theorem st_block {id:Nat} {c:Code} : step P (lone (Fm fn ro t (.code (.block id c) :: k) ds) cs w) = .next (lone (Fm fn ro t (.code c :: .inBlock id :: k) ds) cs w):=step_lone_go (by simp [stepG,stepG.exec,Fm])
theorem st_loop {c:Code} : step P (lone (Fm fn ro t (.code (.loop c) :: k) ds) cs w) = .next (lone (Fm fn ro t (.code c :: .inLoop c :: k) ds) cs w):=step_lone_go (by simp [stepG,stepG.exec,Fm])
theorem st_inLoop {c:Code} : step P (lone (Fm fn ro t (.inLoop c :: k) ds) cs w) = .next (lone (Fm fn ro t (.code c :: .inLoop c :: k) ds) cs w):=step_lone_go (by simp [stepG,stepG.exec,Fm])
theorem st_scope {c:Code} : step P (lone (Fm fn ro t (.code (.scope c) :: k) ds) cs w) = .next (lone (Fm fn ro t (.code c :: .inScope c :: k) ds) cs w):=step_lone_go (by simp [stepG,stepG.exec,Fm])
theorem st_exit {id:Nat} {k':List Item} (h:exitTo id k=some k'):step P (lone (Fm fn ro t (.code (.exit id) :: k) ds) cs w) = .next (lone (Fm fn ro t k' ds) cs w) :=
 step_lone_go (by simp [stepG,stepG.exec,Fm,h])
theorem st_region {id:Nat} {ops:Array Oper} : step P (lone (Fm fn ro t (.code (.region id ops false) :: k) ds) cs w) = .next (lone (Fm fn ro t (.inRegion ops (List.range ops.size) :: k) ds) cs w) :=
 step_lone_go (by simp [stepG,stepG.exec,Fm])
theorem jhG {id:Nat} {ops:Array Oper} : step P (lone (Fm fn ro t (.code (.region id ops true) :: k) ds) cs w) =
  .next (lone (Fm fn ro t (.inRegion ops (Region.schedule (P.follows .mixedOrders) ops (w.tape w.drawn (.order fn id))) :: k) ds) cs { w with drawn:=w.drawn+1 }) :=
 step_lone_go (by simp [stepG,stepG.exec,Fm,choose,Sem.run,Question.forced,Question.cut])
theorem jfe {ops:Array Oper} : step P (lone (Fm fn ro t (.inRegion ops [] :: k) ds) cs w) = .next (lone (Fm fn ro t k ds) cs w):=step_lone_go (by simp [stepG,stepG.exec,Fm])
def putT (t:Array Value) (dst:Option Tmp) (x:Value):Array Value :=
 match dst with
 | some d=>t.setIfInBounds d x
 | none=>t
theorem jem {ops:Array Oper} {i:Nat} {rest:List Nat} {o:Oper} (ho:ops[i]?=some o) (x:Value) :
  (Fm fn ro t (.inRegion ops (i :: rest) :: k) ds).finish x=Fm fn ro (putT t o.dst x) (.inRegion ops rest :: k) ds:=by
 cases hd:o.dst<;>simp [Frame.finish,Fm,ho,putT,hd]
theorem jmb {ops:Array Oper} {i:Nat} {rest:List Nat} {o:Oper} (ho:ops[i]?=some o) (hw:Region.wanted o (yielded ops t)=false) :
  step P (lone (Fm fn ro t (.inRegion ops (i :: rest) :: k) ds) cs w) = .next (lone (Fm fn ro (putT t o.dst undef) (.inRegion ops rest :: k) ds) cs w):=by
 rw [<- jem ho]
 exact step_lone_go (by simp only [Fm];simp [stepG,stepG.exec,ho,hw])
theorem jg5 {ops:Array Oper} {i:Nat} {rest:List Nat} {o:Oper} (ho:ops[i]?=some o) (hw:Region.wanted o (yielded ops t)=true) (hd : ∀ c,o.op ≠ .defer c) :
  stepG P true { frame:=Fm fn ro t (.inRegion ops (i :: rest) :: k) ds,callers:=cs,status := .running,dying:=none } w =
   stepG.apply P true (Fm fn ro t (.inRegion ops (i :: rest) :: k) ds) cs none (execOp (evT t) o) w:=by
 have he:=jja fn ro t (.inRegion ops (i :: rest) :: k) ds
 simp only [Fm] at he
 obtain ⟨dst,op,ty,pos,after,guard⟩:=o
 cases ro with
 | none=>simp [stepG,stepG.exec,stepG.oper,Frame.oper?,Fm,ho,hw,he]
 | some l=>
  cases op<;>first | exact absurd rfl (hd _) | simp [stepG,stepG.exec,stepG.oper,Frame.oper?,Fm,ho,hw,he]
theorem jeN {ops:Array Oper} {i:Nat} {rest:List Nat} {o:Oper} (ho:ops[i]?=some o) (hw:Region.wanted o (yielded ops t)=true) (hd : ∀ c,o.op ≠ .defer c) {x:Value} {w':World}
  (hr:(execOp (evT t) o).run P w = .ok (.value x) w') :
  step P (lone (Fm fn ro t (.inRegion ops (i :: rest) :: k) ds) cs w) = .next (lone (Fm fn ro (putT t o.dst x) (.inRegion ops rest :: k) ds) cs w'):=by
 refine step_lone_go ?_
 rw [jg5 ho hw hd,<- jem ho]
 simp [stepG.apply,hr]
theorem jmc {ops:Array Oper} {i:Nat} {rest:List Nat} {o:Oper} (ho:ops[i]?=some o) (hw:Region.wanted o (yielded ops t)=true) (hd : ∀ c,o.op ≠ .defer c) {w':World}
  (hr:(execOp (evT t) o).run P w = .ok .skip w') :
  step P (lone (Fm fn ro t (.inRegion ops (i :: rest) :: k) ds) cs w) = .next (lone (Fm fn ro (putT t o.dst undef) (.inRegion ops rest :: k) ds) cs w'):=by
 refine step_lone_go ?_
 rw [jg5 ho hw hd,<- jem ho]
 simp [stepG.apply,hr]
theorem jk7 {ops:Array Oper} {i:Nat} {rest:List Nat} {o:Oper} (ho:ops[i]?=some o) (hw:Region.wanted o (yielded ops t)=true) (hd : ∀ c,o.op ≠ .defer c) {f:FuncId} {args:Array Value} {w':World}
  (hr:(execOp (evT t) o).run P w = .ok (.enter f args) w') :
  step P (lone (Fm fn ro t (.inRegion ops (i :: rest) :: k) ds) cs w) = .next (lone (Frame.enter P f args .normal) (Fm fn ro t (.inRegion ops (i :: rest) :: k) ds :: cs) w'):=by
 refine step_lone_go ?_
 rw [jg5 ho hw hd]
 simp [stepG.apply,hr,Fm]
theorem jk6 {ops:Array Oper} {i:Nat} {rest:List Nat} {o:Oper} (ho:ops[i]?=some o) (hw:Region.wanted o (yielded ops t)=true) (hd : ∀ c,o.op ≠ .defer c) {l:Nat} {f:FuncId} {t':Array Value} {a b:Code} {w':World}
  (hr:(execOp (evT t) o).run P w = .ok (.round l f t' a b) w') :
  step P (lone (Fm fn ro t (.inRegion ops (i :: rest) :: k) ds) cs w) = .next (lone (Frame.round l f t' a b .normal) (Fm fn ro t (.inRegion ops (i :: rest) :: k) ds :: cs) w'):=by
 refine step_lone_go ?_
 rw [jg5 ho hw hd]
 simp [stepG.apply,hr,Fm]
def jgd (r:Nat):Deferred := { target := .collected r,args := #[] }
theorem jjw {f:Operand} {ps:Array Tmp} {a b:Code} {l:Nat} {mk:List Deferred} {w1:World} (hl:(Instr.enterLoop fn t ps a b ro).run P w = .ok (l,mk) w1) {g:FuncId} {args:Array Value} {w2:World}
  (hr:(do let d<-resolve (evT t) { callee := .value f,args := #[.const (.func (.yield l) #[] #[])],argTypes := #[] } 0;invoke d.target d.args:Sem Next).run P w1 = .ok (.enter g args) w2) :
  step P (lone (Fm fn ro t (.code (.rangeFunc f ps a b) :: k) ds) cs w) = .next (lone (Frame.enter P g args .normal) (Fm fn ro t (.inRangeFunc l :: k) (mk++ds) :: cs) w2):=by
 refine step_lone_go ?_
 have he:=jja fn ro t (.inRangeFunc l :: k) (mk++ds)
 simp only [Fm] at he
 simp [stepG,stepG.exec,Fm,Sem.runT_eq,hl,stepG.apply,he] at hr ⊢
 simp [hr]
theorem jhT {l:Nat} (x:Value):(Fm fn ro t (.inRangeFunc l :: k) ds).finish x=Fm fn ro t (.endRangeFunc l :: k) ds:=rfl
theorem jk8 {l:Nat} {j:Option Code} {w':World} (hr:(Instr.endLoop l).run P w = .ok j w') :
  step P (lone (Fm fn ro t (.endRangeFunc l :: k) ds) cs w) = .next (lone (Fm fn ro t ((j.map Item.code).toList++k) ds) cs w'):=by
 refine step_lone_go ?_
 simp [stepG,stepG.exec,Fm,Sem.runT_eq,hr]
theorem jiv {l:Nat} {w':World} (hr:(Instr.beginRound l).run P w = .ok () w') :
  step P (lone (Fm fn (some l) t (.beginRound :: k) ds) cs w) = .next (lone (Fm fn (some l) t k ds) cs w'):=by
 refine step_lone_go ?_
 simp [stepG,stepG.exec,Fm,stepG.apply,hr,Frame.finish]
theorem jiu {l:Nat} {jump:Option Code} {todo:List Item} {x:Value} {w':World} {c:Frame} (hj:(jump=none/\todo=[])\/(jump=some .ret /\ ∃ k',todo = .code .ret :: k')\/(∃ id k',jump=some (.exit id)/\todo = .code (.exit id) :: k'/\exitTo id k'=none))
  (hr:(Instr.endRound l jump).run P w = .ok x w'):step P (lone (Fm fn (some l) t todo ds) (c :: cs) w) = .next (lone (c.finish x) cs w'):=by
 refine step_lone_go ?_
 rcases hj with ⟨rfl,rfl⟩ | ⟨rfl,k',rfl⟩ | ⟨id,k',rfl,rfl,he⟩
 ·simp [stepG,stepG.exec,Fm,Sem.runT_eq,hr,doReturn]
 ·simp [stepG,stepG.exec,Fm,Sem.runT_eq,hr,doReturn]
 ·simp [stepG,stepG.exec,Fm,Sem.runT_eq,hr,doReturn,he]
theorem st_ret {todo:List Item} (hj:todo=[] \/ ∃ k',todo = .code .ret :: k'):step P (lone (Fm fn none t todo ds) cs w) = .next (lone { Fm fn none t todo ds with mode := .returning } cs w):=by
 refine step_lone_go ?_
 rcases hj with rfl | ⟨k',rfl⟩<;>simp [stepG,stepG.exec,Fm]
theorem st_unmark {todo:List Item} {r:Nat} {w':World} (hr:(Instr.takeDeferred r).run P w = .ok [] w') :
  step P (lone { Fm fn none t todo (jgd r :: ds) with mode := .returning } cs w) = .next (lone { Fm fn none t todo ds with mode := .returning } cs w'):=by
 refine step_lone_go ?_
 simp [stepG,unwind,Fm,jgd,Sem.runT_eq,hr]
end
end Am
namespace Am
open Go
def Does (P:Program) (m:Mp):Tgt->Array Value->World->World->Value->Prop
 | .fn f,xs,w,w',x=>(callFunc f xs).run P w = .ok (.value x) w'\/((callFunc f xs).run P w = .ok (.enter f xs) w /\ ∀ c cs,Steps P (lone (Frame.enter P f xs .normal) (c :: cs) w) (lone (c.finish x) cs w'))
 | .yld l,xs,w,w',x=>∃ loc fid t a b,m l=some loc/\(Instr.yield loc.β xs).run P w = .ok (.round loc.β fid t a b) w /\ ∀ c cs,Steps P (lone (Frame.round loc.β fid t a b .normal) (c :: cs) w) (lone (c.finish x) cs w')
def jeJ (P:Program) (C:Cx) (call:Am.Call):Prop :=
 ∀ tgt args h v h',call tgt args h=some (v,h') -> ∀ m w (xs:Array Value),HRel P C m h w->GOk C m->jar m args xs.toList ->
  ∃ m' w' x,Step P C h.nx m h w m' h' w'/\VRel m' v x/\Does P m tgt xs w w' x
theorem iM_call {P:Program} {C:Cx} {f:FuncId} {args:List Opd} {op:Op} (h:iM P C (.call f args) op=true) :
  ∃ args' ts,op = .call { callee := .value (.func f),args:=args',argTypes:=ts } /\ jbx C args args'.toList=true:=by
 unfold iM at h
 split at h<;>first | contradiction | skip
 next heq=>cases heq;simp only [Bool.and_eq_true,nbeq,decide_eq_true_eq] at h;obtain ⟨rfl,h⟩:=h;exact ⟨_,_,rfl,h⟩
theorem iM_callv {P:Program} {C:Cx} {x:Opd} {args:List Opd} {op:Op} (h:iM P C (.callv x args) op=true) :
  ∃ y args' ts,op = .call { callee := .value y,args:=args',argTypes:=ts } /\ opdM C x y=true/\jbx C args args'.toList=true:=by
 unfold iM at h
 split at h<;>first | contradiction | skip
 next heq=>cases heq;simp only [Bool.and_eq_true] at h;exact ⟨_,_,_,rfl,h.1,h.2⟩
theorem iM_invoke {P:Program} {C:Cx} {tbl:List (TypeId × FuncId)} {x:Opd} {args:List Opd} {op:Op} (h:iM P C (.invoke tbl x args) op=true) :
  ∃ y name args' ts,op = .call { callee := .invoke y name,args:=args',argTypes:=ts } /\ opdM C x y=true/\jbx C args args'.toList=true/\(tbl.all fun p=>jjY P p.1 p.2 name)=true:=by
 unfold iM at h
 split at h<;>first | contradiction | skip
 next heq=>cases heq;simp only [Bool.and_eq_true] at h;exact ⟨_,_,_,_,rfl,h.1.1,h.1.2,h.2⟩
section
variable {P:Program} {C:Cx} {N:Nat} {m:Mp} {h h':H} {w:World} {e:Env} {t:Array Value} {o:Oper} {v:V} {call:Am.Call}
theorem jny {i:I} (hM:iM P C i o.op=true) (hi:i ≠ .fail) : ∀ c,o.op ≠ .defer c:=by
 intro c hc
 rw [hc] at hM
 cases i<;>first | exact hi rfl | (simp [iM] at hM;done)
theorem jm7 {ty:TypeId} {f:FuncId} {name:String} (hm:jjY P ty f name=true) (x:Value) (n:Nat):(method (n+1) ty x name).run P w = .ok (f,x) w:=by
 unfold jjY at hm
 split at hm
 ·next i hi=>
  split at hm
  ·next mt hmt=>
   simp only [Bool.and_eq_true] at hm
   obtain ⟨hp,hm⟩:=hm
   have hp':mt.path.toList=[]:=by simpa using hp
   have hti:(typeInfo ty).run P w = .ok i w:=by simp [typeInfo,hi]
   split at hm
   ·next g b d hf hu=>
    simp only [Bool.and_eq_true,beq_iff_eq,nbeq,decide_eq_true_eq] at hm
    obtain ⟨rfl,rfl⟩:=hm
    simp only [method,Sem.run_bind,hti,Result.andThen_ok,hmt,hp',follow,Sem.run_pure,hf,receiverAt,run_underlying hu]
    cases d<;>simp only [jn3,Place.get,Sem.run_pure,Result.andThen_ok]
   ·cases hm
  ·cases hm
 ·cases hm
theorem eff_steps (hT:TOk P C) (hC:jeJ P C call) (hG:GOk C m) (hR:HRel P C m h w) (he:ERel m e t) (hN:N<=h.nx) {i:I} (hc:i.cls = .E) (hM:iM P C i o.op=true) (hr:i.eff call e h=some (v,h')) {ops:Array Oper} {ix:Nat}
  (ho:ops[ix]?=some o) (hw:Region.wanted o (yielded ops t)=true) :
  ∃ m' w' x,Step P C N m h w m' h' w'/\VRel m' v x /\ ∀ fn ro rest k ds cs,Steps P (lone (Fm fn ro t (.inRegion ops (ix :: rest) :: k) ds) cs w) (lone (Fm fn ro (putT t o.dst x) (.inRegion ops rest :: k) ds) cs w'):=by
 have hif:i ≠ .fail:=by intro e;subst e;simp [I.cls] at hc
 have hd:=jny hM hif
 by_cases hn:i.calls=false
 ·obtain ⟨m',w',hs,hx⟩:=eff_sound hT hG hR he hN hc hn hM hr
  rcases hx with ⟨x,h1,h2⟩ | ⟨h1,rfl⟩
  ·exact ⟨m',w',x,hs,h2,fun fn ro rest k ds cs=>.one (jeN ho hw hd h1)⟩
  ·exact ⟨m',w',undef,hs,⟨#[],rfl,rfl⟩,fun fn ro rest k ds cs=>.one (jmc ho hw hd h1)⟩
 ·
  have key : ∀ tgt vs (xs:Array Value),call tgt vs h=some (v,h')->jar m vs xs.toList->(∀ f,tgt = .fn f->(execOp (evT t) o).run P w=(callFunc f xs).run P w) ->
    (∀ l loc,tgt = .yld l->m l=some loc->(execOp (evT t) o).run P w=(Instr.yield loc.β xs).run P w) ->
    ∃ m' w' x,Step P C N m h w m' h' w'/\VRel m' v x /\ ∀ fn ro rest k ds cs,Steps P (lone (Fm fn ro t (.inRegion ops (ix :: rest) :: k) ds) cs w) (lone (Fm fn ro (putT t o.dst x) (.inRegion ops rest :: k) ds) cs w'):=by
   intro tgt vs xs hcall hxs hfn hyl
   obtain ⟨m',w',x,h1,h2,h3⟩:=hC tgt vs h v h' hcall m w xs hR hG hxs
   refine ⟨m',w',x,h1.weaken hN,h2,fun fn ro rest k ds cs=>?_⟩
   cases tgt with
   | fn f=>
    rcases h3 with h3 | ⟨h3,h4⟩
    ·exact .one (jeN ho hw hd (by rw [hfn f rfl];exact h3))
    ·refine .head (jk7 ho hw hd (by rw [hfn f rfl];exact h3)) ?_
     have:=h4 (Fm fn ro t (.inRegion ops (ix :: rest) :: k) ds) cs
     rw [jem ho] at this
     exact this
   | yld l=>
    obtain ⟨loc,fid,t',a,b,h4,h5,h6⟩:=h3
    refine .head (jk6 ho hw hd (by rw [hyl l loc rfl h4];exact h5)) ?_
    have:=h6 (Fm fn ro t (.inRegion ops (ix :: rest) :: k) ds) cs
    rw [jem ho] at this
    exact this
  cases i with
  | call f args=>
   obtain ⟨args',ts,hop,hM⟩:=iM_call hM
   simp only [I.eff] at hr
   split at hr
   ·next vs hvs=>
    refine key (.fn _) vs _ hr (jfR (t:=t) hG he hM hvs) (fun g hg=>?_) (fun l loc hl _=>by cases hl)
    cases hg
    simp only [execOp,hop,Sem.run_bind,resolve,Deferred.ofValue,evT,Sem.run_pure,Result.andThen_ok,invoke]
    simp
   ·cases hr
  | callv x args=>
   obtain ⟨y,args',ts,hop,hM1,hM2⟩:=iM_callv hM
   simp only [I.eff] at hr
   split at hr
   ·next f cap vs g1 g2=>
    obtain ⟨xs,e1,h5⟩:=jae (t:=t) hG he hM1 g1
    have h6:=jfR (t:=t) hG he hM2 g2
    refine key (.fn f) (vs++cap) (_++xs) hr (by rw [Array.toList_append];exact h6.append h5) (fun g hg=>?_) (fun l loc hl _=>by cases hl)
    cases hg
    simp only [execOp,hop,Sem.run_bind,resolve,e1,Deferred.ofValue,Sem.run_pure,Result.andThen_ok,invoke]
    simp
   ·next l vs g1 g2=>
    obtain ⟨loc,h5,e1⟩:=jae (t:=t) hG he hM1 g1
    have h6:=jfR (t:=t) hG he hM2 g2
    refine key (.yld l) vs _ hr h6 (fun g hg=>by cases hg) (fun l' loc' hl hm=>?_)
    cases hl
    rw [h5] at hm;cases hm
    simp only [execOp,hop,Sem.run_bind,resolve,e1,Deferred.ofValue,Sem.run_pure,Result.andThen_ok,invoke]
    simp
   ·cases hr
  | invoke tbl x args=>
   obtain ⟨x',name,args',ts,hop,hM1,hM2,hM3⟩:=iM_invoke hM
   simp only [I.eff] at hr
   split at hr
   ·next ty u vs g1 g2=>
    split at hr
    ·next q f hf=>
     obtain ⟨y,e1,h5⟩:=jae (t:=t) hG he hM1 g1
     have h6:=jfR (t:=t) hG he hM2 g2
     have hmem:=List.mem_of_find?_eq_some hf
     have hq:=List.find?_some hf
     have hm:=List.all_eq_true.1 hM3 _ hmem
     simp only [beq_iff_eq] at hq
     subst hq
     refine key (.fn f) (u :: vs) (#[y]++_) hr (by rw [Array.toList_append];exact ⟨y,_,rfl,h5,h6⟩) (fun g hg=>?_) (fun l loc hl _=>by cases hl)
     cases hg
     have hmr:=jm7 hm y (P.types.size+Made.depth-1) (w:=w)
     have hfu:P.types.size+Made.depth-1+1=P.types.size+Made.depth:=by unfold Made.depth;omega
     rw [hfu] at hmr
     have h0 : ∀ (a:Value) (xs:Array Value),(#[a]++xs)[0]?=some a:=fun a xs=>by simp [Array.getElem?_append]
     have h1 : ∀ (a:Value) (xs:Array Value),(#[a]++xs).extract 1 (#[a]++xs).size=xs:=fun a xs=>by
      apply Array.ext' ;simp
     simp only [execOp,hop,Sem.run_bind,resolve,e1,Sem.run_pure,Result.andThen_ok,invoke,h0,h1]
     simp [callMethod,hmr]
    ·cases hr
   ·cases hr
  | _=>simp [I.calls] at hn
end
end Am
namespace Am
open Go
section
variable {e e2:Env}
theorem jai {x:Opd} (h : ∀ s∈x.slots,e.get s=e2.get s):x.ev e=x.ev e2:=by
 cases x with
 | t s=>exact h s (by simp [Opd.slots])
 | c _=>rfl
theorem jcQ : ∀ {l:List Opd},(∀ s∈jkb l,e.get s=e2.get s)->evs e l=evs e2 l
 | [],_=>rfl
 | x :: r,h=>by
  simp only [evs]
  rw [jai (x:=x) fun s hs=>h s (by simp [jkb,hs]),jcQ (l:=r) fun s hs=>h s (by
   simp only [jkb,List.flatMap_cons,List.mem_append];exact .inr hs)]
theorem jc4 {x:Option Opd} (h : ∀ s∈jih x,e.get s=e2.get s):evo e x=evo e2 x:=by
 cases x with
 | none=>rfl
 | some x=>simp only [evo];rw [jai (x:=x) h]
theorem jdC : ∀ {l:List (Nat × Nat × Opd)},(∀ s∈(l.flatMap fun p=>p.2.2.slots),e.get s=e2.get s)->jbO e l=jbO e2 l
 | [],_=>rfl
 | (_,_,x) :: r,h=>by
  simp only [jbO]
  rw [jai (x:=x) fun s hs=>h s (by simp [hs]),jdC (l:=r) fun s hs=>h s (by
   simp only [List.flatMap_cons,List.mem_append];exact .inr hs)]
theorem jgj (sz:Nat) : ∀ (l:List (Nat × Opd)),((l.map fun p=>(p.1*sz,sz,p.2)).flatMap fun p=>p.2.2.slots)=l.flatMap fun p=>p.2.slots
 | []=>rfl
 | _ :: r=>by simp [jgj sz r]
theorem jm1 {i:I} (h : ∀ s∈i.slots,e.get s=e2.get s):i.pure e=i.pure e2:=by
 cases i<;>simp only [I.slots,List.mem_append,or_imp,forall_and] at h<;>simp only [I.pure]
 case mv x=>rw [jai h]
 case pick c a b=>rw [jai h.1.1,jai h.1.2,jai h.2]
 case build z ps=>rw [jdC h]
 case nilck x=>rw [jai h]
 case mkBm n x=>rw [jai h]
 case nilckB n tbl x=>rw [jai h]
 case bin op x y=>rw [jai h.1,jai h.2]
 case eq k n x y=>rw [jai h.1,jai h.2]
 case un op x=>rw [jai h]
 case convInt k x=>rw [jai h]
 case convStr x=>rw [jai h]
 case mkIface t x=>rw [jai h]
 case mkClo f l=>rw [jcQ h]
 case sliceS x lo hi=>rw [jai h.1.1,jc4 h.1.2,jc4 h.2]
 case slice sz x lo hi mx=>rw [jai h.1.1.1,jc4 h.1.1.2,jc4 h.1.2,jc4 h.2]
 case sliceA n sz x lo hi mx=>rw [jai h.1.1.1,jc4 h.1.1.2,jc4 h.1.2,jc4 h.2]
 case faddr off x=>rw [jai h]
 case field off n x=>rw [jai h]
 case ixaA a b x y=>rw [jai h.1,jai h.2]
 case ixaS a x y=>rw [jai h.1,jai h.2]
 case ixA a b c x y=>rw [jai h.1,jai h.2]
 case ixStr x y=>rw [jai h.1,jai h.2]
 case tassert t z ok x=>rw [jai h]
 case extract x i=>rw [jai h]
 case lenS x=>rw [jai h]
 case lenL x=>rw [jai h]
 case minI l=>rw [jcQ h]
 case maxI l=>rw [jcQ h]
theorem jfG {i:I} (h : ∀ s∈i.slots,e.get s=e2.get s) (hp:H):i.read e hp=i.read e2 hp:=by
 cases i<;>simp only [I.slots,List.mem_append,or_imp,forall_and] at h<;>simp only [I.read]
 case load1 x=>rw [jai h]
 case loadN n x=>rw [jai h]
 case ofBytes x=>rw [jai h]
 case lookup ks z ok x y=>rw [jai h.1,jai h.2]
 case lenM x=>rw [jai h]
theorem jmA {i:I} (h : ∀ s∈i.slots,e.get s=e2.get s):i.make e=i.make e2:=by
 cases i<;>simp only [I.slots,List.mem_append,or_imp,forall_and] at h<;>simp only [I.make]
 case box sz x=>rw [jai h]
 case bslice sz n z ps=>rw [jdC (by rw [jgj];exact h)]
 case toBytes x=>rw [jai h]
 case mkSlice a b c x y=>rw [jai h.1,jai h.2]
theorem eff_congr {i:I} (h : ∀ s∈i.slots,e.get s=e2.get s) (call:Am.Call) (hp:H):i.eff call e hp=i.eff call e2 hp:=by
 cases i<;>simp only [I.slots,List.mem_append,or_imp,forall_and] at h<;>simp only [I.eff]
 case mark x=>rw [jai h]
 case store n a x=>rw [jai h.1,jai h.2]
 case mput ks a b c=>rw [jai h.1.1,jai h.1.2,jai h.2]
 case mentry ks z a b=>rw [jai h.1,jai h.2]
 case mestore a b c=>rw [jai h.1.1,jai h.1.2,jai h.2]
 case mdel ks a b=>rw [jai h.1,jai h.2]
 case call f l=>rw [jcQ h]
 case callv x l=>rw [jai h.1,jcQ h.2]
 case invoke tbl x l=>rw [jai h.1,jcQ h.2]
 case append a b x y=>rw [jai h.1,jai h.2]
 case copy a x y=>rw [jai h.1,jai h.2]
theorem jcw {g:Option (Nat × Bool)} (h : ∀ s∈jht g,e.get s=e2.get s):wanted e g=wanted e2 g:=by
 cases g with
 | none=>rfl
 | some p=>simp only [wanted];rw [h p.1 (by simp [jht])]
end
structure Ext (X:Nat->Option Obj) (h h2:H):Prop where
 nx:h2.nx=h.nx
 get : ∀ j,h2.get j=(h.get j).or (X j)
 off : ∀ j,X j≠none->j<h.nx/\h.get j=none
section
variable {X:Nat->Option Obj} {h h2:H}
theorem Ext.refl (h:H):Ext (fun _=>none) h h:=⟨rfl,fun j=>by simp,fun j hj=>absurd rfl hj⟩
theorem Ext.has (x:Ext X h h2) {b:Nat} {o:Obj} (hb:h.get b=some o):h2.get b=some o:=by rw [x.get,hb];rfl
theorem Ext.none_of (x:Ext X h h2) {b:Nat} {o:Obj} (hb:h.get b=Option.some o):X b=none:=by
 by_cases e:X b=none
 ·exact e
 ·have:=(x.off b e).2;rw [hb] at this;cases this
theorem Ext.none_nx (x:Ext X h h2) {b:Nat} (hb:h.nx<=b):X b=none:=by
 by_cases e:X b=none
 ·exact e
 ·have:=(x.off b e).1;omega
theorem Ext.upd (x:Ext X h h2) {b:Nat} (hX:X b=none) (o:Option Obj):Ext X (h.upd b o) (h2.upd b o):=by
 refine ⟨x.nx,fun j=>?_,fun j hj=>?_⟩
 ·rw [H.get_upd,H.get_upd]
  by_cases e:j=b
  ·subst e;rw [if_pos rfl,if_pos rfl,hX];simp
  ·rw [if_neg e,if_neg e];exact x.get j
 ·have hne:j≠b:=fun e=>hj (e ▸ hX)
  rw [H.get_upd,if_neg hne];exact x.off j hj
theorem Ext.set (x:Ext X h h2) {b:Nat} (hX:X b=none) (o:Obj):Ext X (h.set b o) (h2.set b o):=x.upd hX _
theorem Ext.kill (x:Ext X h h2) {b:Nat} (hX:X b=none):Ext X (h.kill b) (h2.kill b):=x.upd hX _
theorem Ext.new (x:Ext X h h2) (o:Obj):Ext X (h.new o) (h2.new o):=by
 refine ⟨by simp [x.nx],fun j=>?_,fun j hj=>?_⟩
 ·rw [H.get_new,H.get_new,x.nx]
  by_cases e:j=h.nx
  ·subst e;rw [if_pos rfl,if_pos rfl];rfl
  ·rw [if_neg e,if_neg e];exact x.get j
 ·have:=x.off j hj
  have hne:j≠h.nx:=by omega
  rw [H.get_new,if_neg hne];exact ⟨by simp;omega,this.2⟩
theorem Ext.reserve (x:Ext X h h2) (n:Nat):Ext X (h.reserve n) (h2.reserve n) :=
 ⟨by simp [x.nx],fun j=>by simp [x.get],fun j hj=>by have:=x.off j hj;exact ⟨by simp;omega,this.2⟩⟩
theorem Ext.load (x:Ext X h h2) {b o n:Nat} {l:List V} (hl:h.load b o n=Option.some l):h2.load b o n=Option.some l:=by
 unfold H.load at *
 split at hl
 ·next hb=>rw [x.has hb];exact hl
 ·cases hl
theorem Ext.load1 (x:Ext X h h2) {b o:Nat} {v:V} (hl:h.load1 b o=Option.some v):h2.load1 b o=Option.some v:=by
 unfold H.load1 at *
 split at hl
 ·next hb=>rw [x.has hb];exact hl
 ·cases hl
theorem Ext.map? (x:Ext X h h2) {b:Nat} {es:List (V × V × Nat) × Nat} (hl:h.map? b=Option.some es):h2.map? b=Option.some es/\X b=none:=by
 unfold H.map? at *
 split at hl
 ·next hb=>rw [x.has hb];exact ⟨hl,x.none_of hb⟩
 ·cases hl
theorem Ext.store (x:Ext X h h2) {b o:Nat} {vs:List V} {h':H} (hl:h.store b o vs=Option.some h') : ∃ h2',h2.store b o vs=Option.some h2'/\Ext X h' h2':=by
 unfold H.store at *
 split at hl
 ·next hb=>
  rw [x.has hb]
  dsimp only
  revert hl
  generalize (Nat.ble _ _&&_)=c
  cases c with
  | false=>intro hl;cases hl
  | true=>intro hl;cases hl;exact ⟨_,rfl,x.set (x.none_of hb) _⟩
 ·cases hl
theorem Ext.src (x:Ext X h h2) {sz n:Nat} {v:V} {l:List V} (hl:ja2 h sz n v=Option.some l):ja2 h2 sz n v=Option.some l:=by
 unfold ja2 at *
 split at hl
 ·exact hl
 ·revert hl
  generalize (n*sz == 0)=c
  cases c with
  | true=>exact id
  | false=>exact x.load
 ·exact hl
 ·cases hl
theorem Ext.append (x:Ext X h h2) {sz bytes:Nat} {a b v:V} {h':H} (hl:jbf h sz bytes a b=Option.some (v,h')) : ∃ h2',jbf h2 sz bytes a b=Option.some (v,h2')/\Ext X h' h2':=by
 unfold jbf at *
 split at hl
 ·cases hl
 next n hn=>
 split at hl
 ·cases hl
 next new hnew=>
 rw [x.src hnew]
 dsimp only
 split at hl
 ·next base len cap=>
  try dsimp only
  revert hl
  generalize (Nat.ble _ _&&Nat.ble _ _)=c
  cases c with
  | false=>intro hl;cases hl
  | true=>
  dsimp only [cond_true]
  generalize (n == 0)=c
  cases c with
  | true=>intro hl;cases hl;exact ⟨_,rfl,x⟩
  | false=>
  dsimp only [cond_false]
  cases base with
  | none=>
   intro hl
   simp only [newRow,Option.some.injEq,Prod.mk.injEq] at hl ⊢
   obtain ⟨rfl,rfl⟩:=hl
   exact ⟨_,⟨by rw [x.nx],rfl⟩,x.new _⟩
  | some p=>
   obtain ⟨b,o⟩:=p
   cases cap with
   | fix c=>
    dsimp only
    generalize (Nat.ble _ c)=q
    cases q with
    | true=>
     dsimp only [cond_true]
     intro hl
     split at hl
     ·next h3 hs=>
      cases hl
      obtain ⟨h4,e1,e2⟩:=x.store hs
      rw [e1]
      exact ⟨_,rfl,e2⟩
     ·cases hl
    | false=>
     dsimp only [cond_false]
     intro hl
     split at hl
     ·next old ho=>
      have:(bif len*sz == 0 then some [] else h2.load b o (len*sz))=some old:=by
       revert ho
       generalize (len*sz == 0)=c
       cases c with
       | true=>exact id
       | false=>exact x.load
      rw [this]
      simp only [newRow,Option.some.injEq,Prod.mk.injEq] at hl ⊢
      obtain ⟨rfl,rfl⟩:=hl
      exact ⟨_,⟨by rw [x.nx],rfl⟩,x.new _⟩
     ·cases hl
   | grow q=>
    dsimp only
    intro hl
    split at hl
    ·next l hb=>
     rw [x.has hb]
     dsimp only
     revert hl
     generalize (_&&_&&_)=c
     cases c with
     | false=>intro hl;cases hl
     | true=>
      dsimp only [cond_true]
      intro hl
      simp only [newRow,Option.some.injEq,Prod.mk.injEq] at hl ⊢
      obtain ⟨rfl,rfl⟩:=hl
      exact ⟨_,⟨by simp [x.nx],rfl⟩,(x.kill (x.none_of hb)).new _⟩
    ·cases hl
 ·cases hl
theorem Ext.copy (x:Ext X h h2) {sz:Nat} {a b v:V} {h':H} (hl:jjb h sz a b=Option.some (v,h')) : ∃ h2',jjb h2 sz a b=Option.some (v,h2')/\Ext X h' h2':=by
 unfold jjb at *
 split at hl
 ·next base len c k hk=>
  dsimp only at hl ⊢
  split at hl
  ·cases hl
  next l hs=>
  rw [x.src hs]
  dsimp only
  revert hl
  generalize l.isEmpty=c
  cases c with
  | true=>intro hl;cases hl;exact ⟨_,rfl,x⟩
  | false=>
   dsimp only [cond_false]
   intro hl
   split at hl
   ·cases hl
   ·split at hl
    ·next h3 hs=>
     cases hl
     obtain ⟨h4,e1,e2⟩:=x.store hs
     rw [e1]
     exact ⟨_,rfl,e2⟩
    ·cases hl
 ·cases hl
theorem Ext.read (x:Ext X h h2) {e:Env} {i:I} {v:V} (hr:i.read e h=Option.some v):i.read e h2=Option.some v:=by
 cases i<;>simp only [I.read] at hr ⊢ <;> try (cases hr;done)
 case load1 a=>
  split at hr
  ·split at hr
   ·next hl=>rw [x.load1 hl];exact hr
   ·cases hr
  ·cases hr
 case loadN n a=>
  split at hr
  ·split at hr
   ·next hl=>rw [x.load hl];exact hr
   ·cases hr
  ·cases hr
 case ofBytes a=>
  split at hr
  ·exact hr
  ·next n _ _=>
   revert hr
   generalize (n == 0)=c
   cases c with
   | true=>exact id
   | false=>
    dsimp only [cond_false]
    intro hr
    split at hr
    ·next hl=>rw [x.load hl];exact hr
    ·cases hr
  ·cases hr
 case lookup ks z ok m k=>
  split at hr
  ·exact hr
  ·split at hr
   ·next hl=>rw [(x.map? hl).1];exact hr
   ·cases hr
  ·cases hr
 case lenM m=>
  split at hr
  ·exact hr
  ·split at hr
   ·next hl=>rw [(x.map? hl).1];exact hr
   ·cases hr
  ·cases hr
end
def jf3 (call:Am.Call):Prop := ∀ tgt args h v h',call tgt args h=some (v,h') -> ∀ X h2,Ext X h h2 -> ∃ h2',call tgt args h2=some (v,h2')/\Ext X h' h2'
section
variable {X:Nat->Option Obj} {h h2 h':H} {call:Am.Call} {e:Env} {v:V}
theorem Ext.eff (hC:jf3 call) (x:Ext X h h2) {i:I} (hr:i.eff call e h=some (v,h')) : ∃ h2',i.eff call e h2=some (v,h2')/\Ext X h' h2':=by
 cases i<;>simp only [I.eff] at hr ⊢ <;> try (cases hr;done)
 case mark a=>
  split at hr
  ·split at hr
   ·next n _ _ _ hb=>
    simp only [cond_eq_ite,Nat.ble_eq] at hr
    split at hr
    ·next h1=>cases hr;rw [x.has hb];exact ⟨_,by simp only [cond_eq_ite,Nat.ble_eq,if_pos h1],x⟩
    ·cases hr
   ·cases hr
  ·cases hr
 case store n a y=>
  split at hr
  ·next u _ _=>
   revert hr
   generalize (u.cells.length == n)=c
   cases c with
   | false=>intro hr;cases hr
   | true=>
    dsimp only [cond_true]
    intro hr
    split at hr
    ·next hs=>
     cases hr
     obtain ⟨h4,e1,e2⟩:=x.store hs
     rw [e1];exact ⟨_,rfl,e2⟩
    ·cases hr
  ·cases hr
 case mput ks a b c=>
  split at hr
  ·split at hr
   ·next hm=>
    rw [(x.map? hm).1]
    dsimp only
    split at hr
    ·cases hr;exact ⟨_,rfl,x.set (x.map? hm).2 _⟩
    ·cases hr;exact ⟨_,rfl,x.set (x.map? hm).2 _⟩
    ·cases hr
   ·cases hr
  ·cases hr
 case mentry ks z a b=>
  split at hr
  ·split at hr
   ·next hm=>
    rw [(x.map? hm).1]
    dsimp only
    split at hr
    ·cases hr;exact ⟨_,rfl,x.set (x.map? hm).2 _⟩
    ·cases hr;exact ⟨_,rfl,x.set (x.map? hm).2 _⟩
    ·cases hr
   ·cases hr
  ·cases hr
 case mestore a b c=>
  split at hr
  ·split at hr
   ·next hm=>
    rw [(x.map? hm).1]
    dsimp only
    split at hr
    ·split at hr
     ·cases hr;exact ⟨_,rfl,x.set (x.map? hm).2 _⟩
     ·cases hr
    ·cases hr
   ·cases hr
  ·cases hr
 case mdel ks a b=>
  split at hr
  ·split at hr
   ·cases hr;exact ⟨_,rfl,x⟩
   ·cases hr
  ·split at hr
   ·next hm=>
    rw [(x.map? hm).1]
    dsimp only
    split at hr
    ·cases hr;exact ⟨_,rfl,x.set (x.map? hm).2 _⟩
    ·cases hr;exact ⟨_,rfl,x⟩
    ·cases hr
   ·cases hr
  ·cases hr
 case call f l=>
  split at hr
  ·exact hC _ _ _ _ _ hr _ _ x
  ·cases hr
 case callv y l=>
  split at hr
  ·exact hC _ _ _ _ _ hr _ _ x
  ·exact hC _ _ _ _ _ hr _ _ x
  ·cases hr
 case invoke tbl y l=>
  split at hr
  ·split at hr
   ·exact hC _ _ _ _ _ hr _ _ x
   ·cases hr
  ·cases hr
 case append a b y z=>
  split at hr
  ·exact x.append hr
  ·cases hr
 case copy a y z=>
  split at hr
  ·exact x.copy hr
  ·cases hr
theorem Ext.chk (x:Ext X h h2) : ∀ {l:List (Nat × I × Option (Nat × Bool))},jaC e h l=true->jaC e h2 l=true
 | [],_=>rfl
 | (d,i,g) :: r,hc=>by
  simp only [jaC,Bool.and_eq_true] at hc ⊢
  refine ⟨?_,x.chk hc.2⟩
  have h1:=hc.1
  revert h1
  cases wanted e g with
  | false=>exact id
  | true=>
   dsimp only [cond_true]
   intro h1
   split at h1
   ·next a b ha hb=>rw [x.read ha,hb];exact h1
   ·cases h1
theorem Ext.run (hC:jf3 call) (x:Ext X h h2) {i:I} {at_:Option Nat} (ha : ∀ b,at_=some b->X b=none) (hr:i.run call e h at_=some (v,h')) :
  ∃ h2',i.run call e h2 at_=some (v,h2')/\Ext X h' h2':=by
 unfold I.run at *
 cases hc:i.cls<;>simp only [hc] at hr ⊢
 ·split at hr
  ·next hp=>cases hr;exact ⟨_,rfl,x⟩
  ·cases hr
 ·split at hr
  ·next hp=>cases hr;rw [x.read hp];exact ⟨_,rfl,x⟩
  ·cases hr
 ·split at hr
  ·next hp=>
   split at hr
   ·cases hr;exact ⟨_,by rw [x.nx],x.new _⟩
   ·cases hr;exact ⟨_,rfl,x.set (ha _ rfl) _⟩
  ·cases hr
 ·exact Ext.eff hC x hr
end
end Am
namespace Am
open Go
def joz (body:Env->H->Res):Prop := ∀ e h ex e' h',body e h=some (ex,e',h')->h.nx<=h'.nx /\ ∀ X h2,Ext X h h2 -> ∃ h2',body e h2=some (ex,e',h2')/\Ext X h' h2'
def jlw (call:Am.Call):Prop := ∀ tgt args h v h',call tgt args h=some (v,h')->h.nx<=h'.nx
section
variable {X:Nat->Option Obj} {h h2 h':H} {call:Am.Call} {e:Env} {v:V}
theorem jit {b o:Nat} {vs:List V} (hl:h.store b o vs=some h'):h'.nx=h.nx:=by
 unfold H.store at hl
 split at hl
 ·revert hl
  generalize (Nat.ble _ _&&_)=c
  cases c with
  | false=>intro hl;cases hl
  | true=>intro hl;cases hl;rfl
 ·cases hl
theorem append_nx {sz bytes:Nat} {a b:V} (hl:jbf h sz bytes a b=some (v,h')):h.nx<=h'.nx:=by
 unfold jbf at hl
 split at hl
 ·cases hl
 split at hl
 ·cases hl
 split at hl
 ·next base len cap=>
  revert hl
  generalize (Nat.ble _ _&&Nat.ble _ _)=c
  cases c with
  | false=>intro hl;cases hl
  | true=>
  dsimp only [cond_true]
  generalize (_ == 0)=c
  cases c with
  | true=>intro hl;cases hl;exact Nat.le_refl _
  | false=>
  dsimp only [cond_false]
  intro hl
  split at hl
  ·simp only [newRow,Option.some.injEq,Prod.mk.injEq] at hl
   rw [<- hl.2];simp
  ·revert hl
   generalize (Nat.ble _ _)=c
   cases c with
   | true=>
    dsimp only [cond_true]
    intro hl
    split at hl
    ·next hs=>cases hl;rw [jit hs];exact Nat.le_refl _
    ·cases hl
   | false=>
    dsimp only [cond_false]
    intro hl
    split at hl
    ·simp only [newRow,Option.some.injEq,Prod.mk.injEq] at hl
     rw [<- hl.2];simp
    ·cases hl
  ·split at hl
   ·revert hl
    generalize (_&&_&&_)=c
    cases c with
    | false=>intro hl;cases hl
    | true=>
     dsimp only [cond_true]
     intro hl
     simp only [newRow,Option.some.injEq,Prod.mk.injEq] at hl
     rw [<- hl.2];simp
   ·cases hl
 ·cases hl
theorem copy_nx {sz:Nat} {a b:V} (hl:jjb h sz a b=some (v,h')):h.nx<=h'.nx:=by
 unfold jjb at hl
 split at hl
 ·dsimp only at hl
  split at hl
  ·cases hl
  revert hl
  generalize List.isEmpty _=c
  cases c with
  | true=>intro hl;cases hl;exact Nat.le_refl _
  | false=>
   dsimp only [cond_false]
   intro hl
   split at hl
   ·cases hl
   ·split at hl
    ·next hs=>cases hl;rw [jit hs];exact Nat.le_refl _
    ·cases hl
 ·cases hl
theorem eff_nx (hG:jlw call) {i:I} (hr:i.eff call e h=some (v,h')):h.nx<=h'.nx:=by
 cases i<;>simp only [I.eff] at hr<;>try (cases hr;done)
 case mark a=>
  split at hr
  ·split at hr
   ·simp only [cond_eq_ite] at hr
    split at hr
    ·cases hr;exact Nat.le_refl _
    ·cases hr
   ·cases hr
  ·cases hr
 case store n a y=>
  split at hr
  ·next u _ _=>
   revert hr
   generalize (u.cells.length == n)=c
   cases c with
   | false=>intro hr;cases hr
   | true=>
    dsimp only [cond_true]
    intro hr
    split at hr
    ·next hs=>cases hr;rw [jit hs];exact Nat.le_refl _
    ·cases hr
  ·cases hr
 case mput ks a b c=>
  split at hr
  ·split at hr
   ·split at hr
    ·cases hr;simp
    ·cases hr;simp
    ·cases hr
   ·cases hr
  ·cases hr
 case mentry ks z a b=>
  split at hr
  ·split at hr
   ·split at hr
    ·cases hr;simp
    ·cases hr;simp
    ·cases hr
   ·cases hr
  ·cases hr
 case mestore a b c=>
  split at hr
  ·split at hr
   ·split at hr
    ·split at hr
     ·cases hr;simp
     ·cases hr
    ·cases hr
   ·cases hr
  ·cases hr
 case mdel ks a b=>
  split at hr
  ·split at hr
   ·cases hr;simp
   ·cases hr
  ·split at hr
   ·split at hr
    ·cases hr;simp
    ·cases hr;simp
    ·cases hr
   ·cases hr
  ·cases hr
 case call f l=>
  split at hr
  ·exact hG _ _ _ _ _ hr
  ·cases hr
 case callv y l=>
  split at hr
  ·exact hG _ _ _ _ _ hr
  ·exact hG _ _ _ _ _ hr
  ·cases hr
 case invoke tbl y l=>
  split at hr
  ·split at hr
   ·exact hG _ _ _ _ _ hr
   ·cases hr
  ·cases hr
 case append a b y z=>
  split at hr
  ·exact append_nx hr
  ·cases hr
 case copy a y z=>
  split at hr
  ·exact copy_nx hr
  ·cases hr
theorem run_nx (hG:jlw call) {i:I} {at_:Option Nat} (hr:i.run call e h at_=some (v,h')):h.nx<=h'.nx:=by
 unfold I.run at hr
 cases hc:i.cls<;>simp only [hc] at hr
 ·split at hr
  ·cases hr;exact Nat.le_refl _
  ·cases hr
 ·split at hr
  ·cases hr;exact Nat.le_refl _
  ·cases hr
 ·split at hr
  ·split at hr
   ·cases hr;simp
   ·cases hr;simp
  ·cases hr
 ·exact eff_nx hG hr
theorem Ext.runOps (hC:jf3 call) (hG:jlw call) {base:Nat} : ∀ {l:List Ins} {e e':Env} {h h2 h':H},Ext X h h2->(∀ k,base<=k->X k=none)->ja6 call base l e h=some (e',h') ->
  h.nx<=h'.nx /\ ∃ h2',Am.ja6 call base l e h2=some (e',h2')/\Ext X h' h2'
 | [],e,e',h,h2,h',x,_,hr=>by cases hr;exact ⟨Nat.le_refl _,_,rfl,x⟩
 | s :: r,e,e',h,h2,h',x,hX,hr=>by
  simp only [Am.ja6] at hr ⊢
  revert hr
  cases wanted e s.guard with
  | false=>exact fun hr=>Ext.runOps hC hG x hX hr
  | true=>
   dsimp only [cond_true]
   intro hr
   split at hr
   ·next v h1 h1r=>
    obtain ⟨h3,e3,x3⟩:=x.run hC (fun b hb=>by
     cases ha:s.at_ with
     | none=>rw [ha] at hb;cases hb
     | some k=>rw [ha] at hb;cases hb;exact hX _ (Nat.le_add_right _ _)) h1r
    rw [e3]
    dsimp only
    revert hr
    cases hc:jaC e h1 s.chk with
    | false=>intro hr;cases hr
    | true=>
     dsimp only [cond_true]
     intro hr
     rw [x3.chk hc]
     have:=Ext.runOps hC hG x3 hX hr
     exact ⟨Nat.le_trans (run_nx hG h1r) this.1,this.2⟩
   ·cases hr
theorem jo7 {body:Env->H->Res} (hB:joz body) (live:List Nat) : ∀ n,joz (iter body live n)
 | 0=>fun e h ex e' h' hr=>by cases hr
 | n+1=>fun e h ex e' h' hr=>by
  simp only [iter] at hr ⊢
  split at hr
  ·next e1 h1 hb=>
   have h3:=hB _ _ _ _ _ hb
   have h4:=jo7 hB live n _ _ _ _ _ hr
   refine ⟨Nat.le_trans h3.1 h4.1,fun X h2 x=>?_⟩
   obtain ⟨h5,e5,x5⟩:=h3.2 X h2 x
   rw [e5]
   exact h4.2 X h5 x5
  ·next hb=>
   have h3:=hB _ _ _ _ _ hr
   refine ⟨h3.1,fun X h2 x=>?_⟩
   obtain ⟨h5,e5,x5⟩:=h3.2 X h2 x
   rw [e5]
   have hne:ex ≠ .normal:=fun e0=>hb e' h' (by rw [hr,e0])
   split
   ·next e1=>cases e1;exact absurd rfl hne
   ·exact ⟨_,rfl,x5⟩
theorem D_F (hC:jf3 call) (hG:jlw call) (fuel:Nat) : ∀ c,joz (D call fuel c)
 | .skip=>fun e h ex e' h' hr=>by cases hr;exact ⟨Nat.le_refl _,fun X h2 x=>⟨_,rfl,x⟩⟩
 | .label _=>fun e h ex e' h' hr=>by cases hr;exact ⟨Nat.le_refl _,fun X h2 x=>⟨_,rfl,x⟩⟩
 | .exit _=>fun e h ex e' h' hr=>by cases hr;exact ⟨Nat.le_refl _,fun X h2 x=>⟨_,rfl,x⟩⟩
 | .ret=>fun e h ex e' h' hr=>by cases hr;exact ⟨Nat.le_refl _,fun X h2 x=>⟨_,rfl,x⟩⟩
 | .scope b=>D_F hC hG fuel b
 | .loop live b=>jo7 (D_F hC hG fuel b) live fuel
 | .region res ops keep=>fun e h ex e' h' hr=>by
  simp only [D] at hr ⊢
  split at hr
  ·next e1 h1 hb=>
   cases hr
   refine ⟨?_,fun X h2 x=>?_⟩
   ·have:=(Ext.runOps hC hG (Ext.refl _) (fun _ _=>rfl) hb).1
    simp at this;omega
   ·have:=(Ext.runOps hC hG (x.reserve res) (fun k hk=>x.none_nx hk) hb).2
    obtain ⟨h3,e3,x3⟩:=this
    rw [x.nx,e3]
    exact ⟨_,rfl,x3⟩
  ·cases hr
 | .seq a b=>fun e h ex e' h' hr=>by
  simp only [D] at hr ⊢
  split at hr
  ·next e1 h1 hb=>
   have h3:=D_F hC hG fuel a _ _ _ _ _ hb
   have h4:=D_F hC hG fuel b _ _ _ _ _ hr
   refine ⟨Nat.le_trans h3.1 h4.1,fun X h2 x=>?_⟩
   obtain ⟨h5,e5,x5⟩:=h3.2 X h2 x
   rw [e5]
   exact h4.2 X h5 x5
  ·next hb=>
   have h3:=D_F hC hG fuel a _ _ _ _ _ hr
   refine ⟨h3.1,fun X h2 x=>?_⟩
   obtain ⟨h5,e5,x5⟩:=h3.2 X h2 x
   rw [e5]
   have hne:ex ≠ .normal:=fun e0=>hb e' h' (by rw [hr,e0])
   split
   ·next e1=>cases e1;exact absurd rfl hne
   ·exact ⟨_,rfl,x5⟩
 | .cond c a b=>fun e h ex e' h' hr=>by
  simp only [D] at hr ⊢
  split at hr
  ·exact D_F hC hG fuel a _ _ _ _ _ hr
  ·exact D_F hC hG fuel b _ _ _ _ _ hr
  ·cases hr
 | .block id b=>fun e h ex e' h' hr=>by
  simp only [D] at hr ⊢
  split at hr
  ·next id' e1 h1 hb=>
   have h3:=D_F hC hG fuel b _ _ _ _ _ hb
   have hh:h'=h1:=by
    revert hr
    cases (id' == id)<;>intro hr<;>cases hr<;>rfl
   subst hh
   refine ⟨h3.1,fun X h2 x=>?_⟩
   obtain ⟨h5,e5,x5⟩:=h3.2 X h2 x
   rw [e5]
   dsimp only
   revert hr
   cases (id' == id)<;>intro hr<;>cases hr<;>exact ⟨_,rfl,x5⟩
  ·next hb=>
   have h3:=D_F hC hG fuel b _ _ _ _ _ hr
   refine ⟨h3.1,fun X h2 x=>?_⟩
   obtain ⟨h5,e5,x5⟩:=h3.2 X h2 x
   rw [e5]
   have hne : ∀ id',ex ≠ .exit id':=fun id' e0=>hb id' e' h' (by rw [hr,e0])
   split
   ·next e1=>cases e1;exact absurd rfl (hne _)
   ·exact ⟨_,rfl,x5⟩
 | .rangeFunc f ps live a b=>fun e h ex e' h' hr=>by
  simp only [D] at hr ⊢
  split at hr
  ·next g cap hf=>
   split at hr
   ·next v h1 hc=>
    have g1:=hG _ _ _ _ _ hc
    simp only [H.nx_new] at g1
    split at hr
    ·next st pend x1 x2 x3 x4 hl=>
     have key:h.nx<=h'.nx/\h'=h1.kill h.nx:=by
      split at hr
      ·cases hr
      ·split at hr<;>cases hr<;>exact ⟨by simp;omega,rfl⟩
     refine ⟨key.1,fun X h2 x=>?_⟩
     obtain ⟨h5,e5,x5⟩:=hC _ _ _ _ _ hc X _ (x.new _)
     rw [x.nx,e5]
     dsimp only
     rw [x5.has hl]
     dsimp only
     have hk:=x5.kill (x.none_nx (Nat.le_refl _))
     rw [key.2]
     split at hr
     ·cases hr
     ·split at hr<;>cases hr<;>exact ⟨_,rfl,hk⟩
    ·cases hr
   ·cases hr
  ·cases hr
def rvOf (e:Env) (h:H):RV->Option V
 | .tmp s=>e.get s
 | .cell1 s=>match e.get s with
  | some (.ptr (some (b,o)))=>h.load1 b o
  | _=>none
 | .cellN s n=>match e.get s with
  | some (.ptr (some (b,o)))=>match h.load b o n with
   | some l=>some (.agg l)
   | none=>none
  | _=>none
theorem jid (e:Env) (h:H) (r:RV) (rs:List RV):jdk e h (r :: rs)=match rvOf e h r,jdk e h rs with
  | some v,some l=>some (v :: l)
  | _,_=>none:=by
 cases r<;>rfl
theorem rvOf_F {h h2:H} (x:Ext X h h2) {e:Env} {r:RV} {v:V} (h1:rvOf e h r=some v):rvOf e h2 r=some v:=by
 cases r with
 | tmp s=>exact h1
 | cell1 s=>
  simp only [rvOf] at h1 ⊢
  split at h1
  ·next hp=>exact x.load1 h1
  ·cases h1
 | cellN s n=>
  simp only [rvOf] at h1 ⊢
  split at h1
  ·next hp=>
   split at h1
   ·next hl=>rw [x.load hl];exact h1
   ·cases h1
  ·cases h1
theorem jns {h h2:H} (x:Ext X h h2) {e:Env} : ∀ {l:List RV} {vs:List V},jdk e h l=some vs->jdk e h2 l=some vs
 | [],_,hr=>hr
 | r :: rs,vs,hr=>by
  rw [jid] at hr ⊢
  split at hr
  ·next v l h1 h3=>rw [jns x h3,rvOf_F x h1];exact hr
  ·cases hr
theorem runFn_F (hC:jf3 call) (hG:jlw call) {fuel:Nat} {fn:AFn} {args:List V} (hr:ji5 call fuel fn args h=some (v,h')) :
  h.nx<=h'.nx /\ ∀ X h2,Ext X h h2 -> ∃ h2',ji5 call fuel fn args h2=some (v,h2')/\Ext X h' h2':=by
 simp only [ji5] at hr ⊢
 revert hr
 generalize (args.length == fn.np)=c
 cases c with
 | false=>intro hr;cases hr
 | true=>
  dsimp only [cond_true]
  intro hr
  split at hr
  ·cases hr
  ·next ex e1 h1 hne hd=>
   split at hr
   ·next l hl=>
    cases hr
    have h3:=D_F hC hG fuel _ _ _ _ _ _ hd
    refine ⟨h3.1,fun X h2 x=>?_⟩
    obtain ⟨h5,e5,x5⟩:=h3.2 X h2 x
    rw [e5]
    split
    ·next e6=>cases e6;exact absurd rfl (hne _)
    ·next e6=>cases e6;rw [jns x5 hl];exact ⟨_,rfl,x5⟩
    ·next e6=>cases e6
   ·cases hr
  ·cases hr
theorem jmj (hC:jf3 call) (hG:jlw call) {fuel l:Nat} {args:List V} (hr:jd5 call fuel l args h=some (v,h')) :
  h.nx<=h'.nx /\ ∀ X h2,Ext X h h2 -> ∃ h2',jd5 call fuel l args h2=some (v,h2')/\Ext X h' h2':=by
 simp only [jd5] at hr ⊢
 split at hr
 ·next st pd ps env a b hl=>
  split at hr
  ·cases hr
  ·next e0 he0=>
   split at hr
   ·next e1 h1 ha=>
    have f1:=D_F hC hG fuel _ _ _ _ _ _ ha
    split at hr
    ·next ps1 en1 a1 b1 hl1=>
     split at hr
     ·next ex e3 h3 hb=>
      have f2:=D_F hC hG fuel _ _ _ _ _ _ hb
      simp only [H.nx_set] at f2
      split at hr
      ·next st3 pd3 ps3 en3 a3 b3 hl3=>
       have key:h'.nx=h3.nx:=by split at hr<;>cases hr<;>rfl
       refine ⟨by rw [key];exact Nat.le_trans f1.1 f2.1,fun X h2 x=>?_⟩
       rw [x.has hl]
       dsimp only
       rw [he0]
       dsimp only
       obtain ⟨h5,e5,x5⟩:=f1.2 X h2 x
       rw [e5]
       dsimp only
       rw [x5.has hl1]
       dsimp only
       obtain ⟨h6,e6,x6⟩:=f2.2 X _ (x5.set (x5.none_of hl1) _)
       rw [e6]
       dsimp only
       rw [x6.has hl3]
       dsimp only
       split at hr<;>cases hr<;>exact ⟨_,rfl,x6.set (x6.none_of hl3) _⟩
      ·cases hr
     ·cases hr
    ·cases hr
   ·cases hr
 ·cases hr
end
def jnI (P:Prog):Prop := ∀ f p,jdy P.prims f=some p -> ∀ args h v h',p args h=some (v,h')->h.nx<=h'.nx /\ ∀ X h2,Ext X h h2 -> ∃ h2',p args h2=some (v,h2')/\Ext X h' h2'
theorem jh5 {P:Prog} (hP:jnI P) (fuel:Nat) : ∀ n,jf3 (jbA P fuel n)/\jlw (jbA P fuel n)
 | 0=>⟨fun tgt args h v h' hr=>by simp [jbA] at hr,fun tgt args h v h' hr=>by simp [jbA] at hr⟩
 | n+1=>by
  have ih:=jh5 hP fuel n
  have key : ∀ tgt args h v h',jbA P fuel (n+1) tgt args h=some (v,h')->h.nx<=h'.nx /\ ∀ X h2,Ext X h h2 -> ∃ h2',jbA P fuel (n+1) tgt args h2=some (v,h2')/\Ext X h' h2':=by
   intro tgt args h v h' hr
   cases tgt with
   | fn f=>
    simp only [jbA] at hr ⊢
    split at hr
    ·next p hp=>exact hP f p hp _ _ _ _ hr
    ·split at hr
     ·exact runFn_F ih.1 ih.2 hr
     ·cases hr
   | yld l=>
    simp only [jbA] at hr ⊢
    exact jmj ih.1 ih.2 hr
  exact ⟨fun tgt args h v h' hr=>(key tgt args h v h' hr).2,fun tgt args h v h' hr=>(key tgt args h v h' hr).1⟩
end Am
namespace Am
open Go
inductive Fr where
 | seq (b:AC)
 | block (id:Nat)
 | loop (live:List Nat) (body:AC) (n:Nat)
 deriving Inhabited
def after (call:Call) (fuel:Nat):List Fr->Ex->Env->H->Res
 | [],x,e,h=>some (x,e,h)
 | .seq b :: K,.normal,e,h=>match D call fuel b e h with
  | some (x,e',h')=>after call fuel K x e' h'
  | none=>none
 | .seq _ :: K,x,e,h=>after call fuel K x e h
 | .block id :: K,.exit id',e,h=>if id'=id then after call fuel K .normal e h else after call fuel K (.exit id') e h
 | .block _ :: K,x,e,h=>after call fuel K x e h
 | .loop live body n :: K,.normal,e,h=>match iter (D call fuel body) live n e h with
  | some (x,e',h')=>after call fuel K x e' h'
  | none=>none
 | .loop _ _ _ :: K,x,e,h=>after call fuel K x e h
abbrev Post:=Ex->Env->H->Prop
structure End (call:Call) (fuel:Nat) (K:List Fr) (x:Ex) (e:Env) (h:H) (Q:Post):Prop where
 out : ∃ x' e' h',after call fuel K x e h=some (x',e',h')/\Q x' e' h'
structure Run (call:Call) (fuel:Nat) (c:AC) (K:List Fr) (e:Env) (h:H) (Q:Post):Prop where
 out : ∃ x e' h',D call fuel c e h=some (x,e',h')/\End call fuel K x e' h' Q
structure Ops (call:Call) (fuel base:Nat) (ops:List Ins) (keep:List Nat) (K:List Fr) (e:Env) (h:H) (Q:Post):Prop where
 out : ∃ e' h',ja6 call base ops e h=some (e',h')/\End call fuel K .normal (e'.only keep) h' Q
inductive Kept (e:Env):List Nat->Env->Prop where
 | nil:Kept e [] []
 | cons {s:Nat} {v:V} {r:List Nat} {t:Env} (h:e.get s=some v) (k:Kept e r t):Kept e (s :: r) ((s,v) :: t)
 | miss {s:Nat} {r:List Nat} {t:Env} (h:e.get s=none) (k:Kept e r t):Kept e (s :: r) t
theorem Kept.eq {e:Env} : ∀ {l:List Nat} {t:Env},Kept e l t->e.only l=t
 | _,_,.nil=>rfl
 | _,_,.cons h k=>by simp only [Env.only,h,k.eq]
 | _,_,.miss h k=>by simp only [Env.only,h,k.eq]
section
variable {call:Call} {fuel base:Nat} {K:List Fr} {e e':Env} {h h':H} {Q:Post}
theorem Run.skip (k:End call fuel K .normal e h Q):Run call fuel .skip K e h Q:=⟨_,_,_,rfl,k⟩
theorem Run.label {l:Nat} (k:End call fuel K .normal e h Q):Run call fuel (.label l) K e h Q:=⟨_,_,_,rfl,k⟩
theorem Run.exit {id:Nat} (k:End call fuel K (.exit id) e h Q):Run call fuel (.exit id) K e h Q:=⟨_,_,_,rfl,k⟩
theorem Run.ret (k:End call fuel K .ret e h Q):Run call fuel .ret K e h Q:=⟨_,_,_,rfl,k⟩
theorem Run.scope {c:AC} (k:Run call fuel c K e h Q):Run call fuel (.scope c) K e h Q:=⟨k.out⟩
theorem Run.seq {a b:AC} (k:Run call fuel a (.seq b :: K) e h Q):Run call fuel (.seq a b) K e h Q:=by
 obtain ⟨x,e1,h1,hd,x2,e2,h2,ha,hq⟩:=k
 cases x<;>simp only [after] at ha
 ·split at ha
  ·next x3 e3 h3 hb=>exact ⟨x3,e3,h3,by simp only [D,hd,hb],x2,e2,h2,ha,hq⟩
  ·cases ha
 ·exact ⟨_,e1,h1,by simp only [D,hd],x2,e2,h2,ha,hq⟩
 ·exact ⟨_,e1,h1,by simp only [D,hd],x2,e2,h2,ha,hq⟩
theorem End.seq {b:AC} (k:Run call fuel b K e h Q):End call fuel (.seq b :: K) .normal e h Q:=by
 obtain ⟨x,e1,h1,hd,x2,e2,h2,ha,hq⟩:=k
 exact ⟨x2,e2,h2,by simp only [after,hd,ha],hq⟩
theorem End.seq_exit {b:AC} {id:Nat} (k:End call fuel K (.exit id) e h Q):End call fuel (.seq b :: K) (.exit id) e h Q:=⟨k.out⟩
theorem End.seq_ret {b:AC} (k:End call fuel K .ret e h Q):End call fuel (.seq b :: K) .ret e h Q:=⟨k.out⟩
theorem Run.block {id:Nat} {a:AC} (k:Run call fuel a (.block id :: K) e h Q):Run call fuel (.block id a) K e h Q:=by
 obtain ⟨x,e1,h1,hd,x2,e2,h2,ha,hq⟩:=k
 cases x<;>simp only [after] at ha
 ·exact ⟨_,e1,h1,by simp only [D,hd],x2,e2,h2,ha,hq⟩
 ·next id'=>
  split at ha
  ·next e0=>subst e0;exact ⟨.normal,e1,h1,by simp [D,hd],x2,e2,h2,ha,hq⟩
  ·next e0=>
   have e1':(id' == id)=false:=by simpa using e0
   exact ⟨.exit id',e1,h1,by simp only [D,hd,e1',cond_false],x2,e2,h2,ha,hq⟩
 ·exact ⟨_,e1,h1,by simp only [D,hd],x2,e2,h2,ha,hq⟩
theorem End.block {id:Nat} (k:End call fuel K .normal e h Q):End call fuel (.block id :: K) .normal e h Q:=⟨k.out⟩
theorem End.block_ret {id:Nat} (k:End call fuel K .ret e h Q):End call fuel (.block id :: K) .ret e h Q:=⟨k.out⟩
theorem End.block_exit {id:Nat} (k:End call fuel K .normal e h Q):End call fuel (.block id :: K) (.exit id) e h Q:=by
 obtain ⟨x2,e2,h2,ha,hq⟩:=k
 exact ⟨x2,e2,h2,by simp only [after,if_pos,ha],hq⟩
theorem End.block_exit' {id id':Nat} (hne:Nat.beq id' id=false) (k:End call fuel K (.exit id') e h Q):End call fuel (.block id :: K) (.exit id') e h Q:=by
 obtain ⟨x2,e2,h2,ha,hq⟩:=k
 have:id'≠id:=by rintro rfl;simp at hne
 exact ⟨x2,e2,h2,by simp only [after,if_neg this,ha],hq⟩
theorem End.loop_exit {live:List Nat} {body:AC} {n id:Nat} (k:End call fuel K (.exit id) e h Q):End call fuel (.loop live body n :: K) (.exit id) e h Q:=⟨k.out⟩
theorem End.loop_ret {live:List Nat} {body:AC} {n:Nat} (k:End call fuel K .ret e h Q):End call fuel (.loop live body n :: K) .ret e h Q:=⟨k.out⟩
theorem End.nil {x:Ex} (k:Q x e h):End call fuel [] x e h Q:=⟨_,_,_,rfl,k⟩
theorem Run.cond_true {c:Opd} {a b:AC} (hc:c.ev e=some (.bool true)) (k:Run call fuel a K e h Q):Run call fuel (.cond c a b) K e h Q:=by
 obtain ⟨x,e1,h1,hd,q⟩:=k;exact ⟨x,e1,h1,by simp only [D,hc,hd],q⟩
theorem Run.cond_false {c:Opd} {a b:AC} (hc:c.ev e=some (.bool false)) (k:Run call fuel b K e h Q):Run call fuel (.cond c a b) K e h Q:=by
 obtain ⟨x,e1,h1,hd,q⟩:=k;exact ⟨x,e1,h1,by simp only [D,hc,hd],q⟩
theorem Run.cond {c:Opd} {a b:AC} {t:Bool} (hc:c.ev e=some (.bool t)) (ka:t=true->Run call fuel a K e h Q) (kb:t=false->Run call fuel b K e h Q):Run call fuel (.cond c a b) K e h Q:=by
 cases t
 ·exact Run.cond_false hc (kb rfl)
 ·exact Run.cond_true hc (ka rfl)
theorem Run.region {res:Nat} {ops:List Ins} {keep:List Nat} (k:Ops call fuel h.nx ops keep K e (h.reserve res) Q):Run call fuel (.region res ops keep) K e h Q:=by
 obtain ⟨e1,h1,hr,q⟩:=k
 exact ⟨.normal,e1.only keep,h1,by simp only [D,hr],q⟩
theorem Run.region0 {ops:List Ins} {keep:List Nat} (k:Ops call fuel h.nx ops keep K e h Q):Run call fuel (.region 0 ops keep) K e h Q:=Run.region k
theorem Ops.nil {keep:List Nat} (hk:Kept e keep e') (k:End call fuel K .normal e' h Q):Ops call fuel base [] keep K e h Q:=⟨e,h,rfl,by rw [hk.eq];exact k⟩
theorem Ops.step {ix:Nat} {dst:Option Nat} {i:I} {at_:Option Nat} {ops:List Ins} {keep:List Nat} {v:V}
  (hr:i.run call e h (at_.map (base + ·))=some (v,h')) (k:Ops call fuel base ops keep K (layv e dst v) h' Q) :
  Ops call fuel base (⟨ix,dst,i,none,at_,[]⟩ :: ops) keep K e h Q:=by
 obtain ⟨e1,h1,hr1,q⟩:=k
 exact ⟨e1,h1,by simp only [ja6,wanted,cond_true,hr,jaC,hr1],q⟩
theorem Ops.step_chk {ix:Nat} {dst:Option Nat} {i:I} {at_:Option Nat} {c:List (Nat × I × Option (Nat × Bool))} {ops:List Ins} {keep:List Nat} {v:V}
  (hr:i.run call e h (at_.map (base + ·))=some (v,h')) (hc:jaC e h' c=true) (k:Ops call fuel base ops keep K (layv e dst v) h' Q) :
  Ops call fuel base (⟨ix,dst,i,none,at_,c⟩ :: ops) keep K e h Q:=by
 obtain ⟨e1,h1,hr1,q⟩:=k
 exact ⟨e1,h1,by simp only [ja6,wanted,cond_true,hr,hc,hr1],q⟩
theorem Ops.guard {ix:Nat} {dst:Option Nat} {i:I} {g:Nat × Bool} {at_:Option Nat} {c:List (Nat × I × Option (Nat × Bool))} {ops:List Ins} {keep:List Nat} {t:Bool}
  (hg:e.get g.1=some (.bool t)) (k:t=g.2->Ops call fuel base (⟨ix,dst,i,none,at_,c⟩ :: ops) keep K e h Q) (k':t = !g.2->Ops call fuel base ops keep K (layv e dst .undef) h Q) :
  Ops call fuel base (⟨ix,dst,i,some g,at_,c⟩ :: ops) keep K e h Q:=by
 obtain ⟨j,w⟩:=g
 by_cases e0:t=w
 ·subst e0
  obtain ⟨e1,h1,hr1,q⟩:=k rfl
  refine ⟨e1,h1,?_,q⟩
  simp only [ja6,wanted] at hr1 ⊢
  simpa only [hg,beq_self_eq_true] using hr1
 ·have e2:t = !w:=by cases t<;>cases w<;>simp_all
  obtain ⟨e1,h1,hr1,q⟩:=k' e2
  refine ⟨e1,h1,?_,q⟩
  have e3:(t == w)=false:=by simpa using e0
  simpa only [ja6,wanted,hg,e3,cond_false] using hr1
theorem Ops.on {ix:Nat} {dst:Option Nat} {i:I} {j:Nat} {w:Bool} {at_:Option Nat} {c:List (Nat × I × Option (Nat × Bool))} {ops:List Ins} {keep:List Nat}
  (hg:e.get j=some (.bool w)) (k:Ops call fuel base (⟨ix,dst,i,none,at_,c⟩ :: ops) keep K e h Q) :
  Ops call fuel base (⟨ix,dst,i,some (j,w),at_,c⟩ :: ops) keep K e h Q :=
 Ops.guard (t:=w) hg (fun _=>k) (fun h=>by cases w<;>cases h)
theorem Ops.off {ix:Nat} {dst:Option Nat} {i:I} {j:Nat} {w:Bool} {at_:Option Nat} {c:List (Nat × I × Option (Nat × Bool))} {ops:List Ins} {keep:List Nat}
  (hg:e.get j=some (.bool (!w))) (k:Ops call fuel base ops keep K (layv e dst .undef) h Q) :
  Ops call fuel base (⟨ix,dst,i,some (j,w),at_,c⟩ :: ops) keep K e h Q :=
 Ops.guard (t := !w) hg (fun h=>by cases w<;>cases h) (fun _=>k)
theorem I.run_pure {i:I} {a:Option Nat} {v:V} (hc:i.cls = .P) (hp:i.pure e=some v):i.run call e h a=some (v,h):=by simp only [I.run,hc,hp]
theorem I.run_read {i:I} {a:Option Nat} {v:V} (hc:i.cls = .R) (hp:i.read e h=some v):i.run call e h a=some (v,h):=by simp only [I.run,hc,hp]
theorem I.run_make {i:I} {o:Obj} {mk:Nat->V} (hc:i.cls = .A) (hp:i.make e=some (o,mk)):i.run call e h none=some (mk h.nx,h.new o):=by simp only [I.run,hc,hp]
theorem I.run_make_at {i:I} {o:Obj} {mk:Nat->V} {b:Nat} (hc:i.cls = .A) (hp:i.make e=some (o,mk)):i.run call e h (some b)=some (mk b,h.set b o):=by simp only [I.run,hc,hp]
theorem I.run_eff {i:I} {a:Option Nat} {v:V} (hc:i.cls = .E) (hp:i.eff call e h=some (v,h')):i.run call e h a=some (v,h'):=by simp only [I.run,hc,hp]
theorem Run.loop {live:List Nat} {body:AC} (I:Nat->Env->H->Prop) {k:Nat} (hk:k<fuel) (h0:I k e h)
  (step : ∀ k e h,I k e h -> ∀ n,(∀ k'<k,∀ e' h',I k' e' h'->End call fuel (.loop live body n :: K) .normal e' h' Q)->Run call fuel body (.loop live body n :: K) (e.only live) h Q) :
  Run call fuel (.loop live body) K e h Q:=by
 have go : ∀ n k e h,k<n->I k e h->End call fuel (.loop live body n :: K) .normal e h Q:=by
  intro n
  induction n with
  | zero=>intro k e h hk;omega
  | succ n ih=>
   intro k e h hk hi
   obtain ⟨x,e1,h1,hd,x2,e2,h2,ha,hq⟩:=step k e h hi n fun k' hk' e' h' hi'=>ih k' e' h' om hi'
   refine ⟨x2,e2,h2,?_,hq⟩
   cases x<;>simp only [after] at ha
   ·split at ha
    ·next x3 e3 h3 hb=>simp only [after,iter,hd,hb,ha]
    ·cases ha
   ·simp only [after,iter,hd,ha]
   ·simp only [after,iter,hd,ha]
 obtain ⟨x2,e2,h2,ha,hq⟩:=go fuel k e h hk h0
 simp only [after] at ha
 split at ha
 ·next x3 e3 h3 hb=>exact ⟨x3,e3,h3,by simp only [D,hb],x2,e2,h2,ha,hq⟩
 ·cases ha
theorem runFn_of {fn:AFn} {args:List V} {R:V->H->Prop} (hl:(args.length == fn.np)=true)
  (k:Run call fuel fn.body [] (Env.ofArgs args 0) h fun x e' h'=>(∀ id,x ≠ .exit id) /\ ∃ l,jdk e' h' fn.res=some l/\R (jef l) h') :
  ∃ v h',ji5 call fuel fn args h=some (v,h')/\R v h':=by
 obtain ⟨x,e1,h1,hd,x2,e2,h2,ha,hx,l,hq,hR⟩:=k
 simp only [after] at ha
 cases ha
 refine ⟨jef l,h1,?_,hR⟩
 simp only [ji5,hl,cond_true,hd]
 cases x with
 | exit id=>exact absurd rfl (hx id)
 | normal=>simp only [hq]
 | ret=>simp only [hq]
end
theorem callN_of {P:Prog} {fuel n f:Nat} {fn:AFn} {args:List V} {h:H} {R:V->H->Prop} (hp:jdy P.prims f=none) (hf:jdy P.fns f=some fn)
  (k : ∃ v h',ji5 (jbA P fuel n) fuel fn args h=some (v,h')/\R v h') : ∃ v h',jbA P fuel (n+1) (.fn f) args h=some (v,h')/\R v h':=by
 simpa only [jbA,hp,hf] using k
end Am
namespace Am
open Go
def tab (n:Nat) (f:Nat->V):List V:=(List.range n).map f
@[simp] theorem tab_length (n:Nat) (f:Nat->V):(tab n f).length=n:=by simp [tab]
theorem jis (n:Nat) (f:Nat->V) (k:Nat):(tab n f)[k]?=if k<n then some (f k) else none:=by
 unfold tab
 rw [List.getElem?_map]
 by_cases h:k<n
 ·simp [h]
 ·simp [h]
theorem jds {n:Nat} {f:Nat->V} {k:Nat} (h:k<n):(tab n f)[k]?=some (f k):=by rw [jis,if_pos h]
theorem jeM (n:Nat) (f:Nat->V) (k:Nat) (v:V):(tab n f).set k v=tab n (fun j=>if j=k then v else f j):=by
 apply List.ext_getElem?
 intro i
 rw [List.getElem?_set,jis,jis,tab_length]
 by_cases h1:k=i
 ·subst h1;by_cases h2:k<n<;>simp [h2]
 ·have : ¬ i=k:=fun e=>h1 e.symm
  simp [h1,this]
theorem jdt {n:Nat} {f g:Nat->V} (h : ∀ k,k<n->f k=g k):tab n f=tab n g:=by
 unfold tab;exact List.map_congr_left fun k hk=>h k (by simpa using hk)
theorem jfb (n:Nat) (v:V):List.replicate n v=tab n (fun _=>v):=by
 apply List.ext_getElem?
 intro i
 rw [jis,List.getElem?_replicate]
theorem jd3 (l:List V) (o:Nat) (v:V) (r:List V):jat l o (v :: r)=jat (l.set o v) (o+1) r:=rfl
theorem jan (vs l:List V) (h:vs.length=l.length):jat l 0 vs=vs:=by
 apply List.ext_getElem?
 intro j
 rw [jex _ _ _ _ om]
 by_cases h1:j<vs.length
 ·rw [if_pos om];simp
 ·rw [if_neg om,List.getElem?_eq_none om,List.getElem?_eq_none om]
section
variable {h h' h'':H} {b o n:Nat} {l vs:List V} {ro:Bool} {v:V}
theorem je9 (hb:h.get b=some (.cells l ro)) (hv:l[o]?=some v):h.load1 b o=some v:=by simp only [H.load1,hb,hv]
theorem jcP (hb:h.get b=some (.cells l ro)) (hn:o+n<=l.length):h.load b o n=some ((l.drop o).take n):=by
 simp only [H.load,hb,cond_eq_ite,Nat.ble_eq,hn,if_true]
theorem jfc (hb:h.get b=some (.cells l false)) (hn:o+vs.length<=l.length) (ho:vs.all V.one=true):h.store b o vs=some (h.set b (.cells (jat l o vs) false)):=by
 simp only [H.store,hb,cond_eq_ite,Bool.and_eq_true,Nat.ble_eq,hn,ho,and_self,if_true]
theorem jab (o:Obj):(h.set b o).get b=some o:=by rw [H.get_set,if_pos rfl]
theorem jaa {j:Nat} {o:Obj} (hne:j≠b):(h.set b o).get j=h.get j:=by rw [H.get_set,if_neg hne]
theorem jad (o:Obj):(h.new o).get h.nx=some o:=by rw [H.get_new,if_pos rfl]
theorem jac {j:Nat} {o:Obj} (hlt:j<h.nx):(h.new o).get j=h.get j:=by rw [H.get_new,if_neg om]
theorem zzn {j:Nat} {o:Obj} {x:Option Obj} (hne:j≠b) (k:h.get j=x):(h.set b o).get j=x:=(jaa hne).trans k
theorem zzl {j:Nat} {o:Obj} {x:Option Obj} (hlt:j<h.nx) (k:h.get j=x):(h.new o).get j=x:=(jac hlt).trans k
theorem jaf {j:Nat} (hne:j≠b):(h.kill b).get j=h.get j:=by rw [H.get_kill,if_neg hne]
structure Ch (B:Nat->Prop) (h h':H):Prop where
 nx:h.nx<=h'.nx
 get : ∀ j,j<h.nx -> ¬ B j->h'.get j=h.get j
theorem Ch.refl (B:Nat->Prop) (h:H):Ch B h h:=⟨Nat.le_refl _,fun _ _ _=>rfl⟩
theorem Ch.trans {B:Nat->Prop} (a:Ch B h h') (c:Ch B h' h''):Ch B h h'' :=
 ⟨Nat.le_trans a.nx c.nx,fun j hj hn=>by rw [c.get j (Nat.lt_of_lt_of_le hj a.nx) hn,a.get j hj hn]⟩
theorem Ch.weaken {B B':Nat->Prop} (a:Ch B h h') (hB : ∀ j,j<h.nx->B j->B' j):Ch B' h h':=⟨a.nx,fun j hj hn=>a.get j hj fun hb=>hn (hB j hj hb)⟩
theorem Ch.trans_new {B B':Nat->Prop} (a:Ch B h h') (c:Ch B' h' h'') (hB : ∀ j,j<h.nx->B' j->B j):Ch B h h'' :=
 ⟨Nat.le_trans a.nx c.nx,fun j hj hn=>by rw [c.get j (Nat.lt_of_lt_of_le hj a.nx) fun hb=>hn (hB j hj hb),a.get j hj hn]⟩
theorem Ch.set {B:Nat->Prop} {ob:Obj} (hB:B b):Ch B h (h.set b ob):=⟨Nat.le_refl _,fun j _ hn=>jaa fun e=>hn (e ▸ hB)⟩
theorem Ch.new {B:Nat->Prop} {ob:Obj} : Ch B h (h.new ob):=⟨by simp,fun j hj _=>jac hj⟩
theorem Ch.kill {B:Nat->Prop} (hB:B b):Ch B h (h.kill b):=⟨Nat.le_refl _,fun j _ hn=>jaf fun e=>hn (e ▸ hB)⟩
end
end Am
