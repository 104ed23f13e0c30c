/- The model's machine, step by step, in a frame that may be a round of a range over a function. -/
import Derived.Test.YtloklombgjlofaaGreatDoorIns
import Derived.Calls
import Derived.Lone
namespace Am
open Go

/-- A running frame. -/
def Fm (fn : FuncId) (ro : Option Nat) (t : Array Value) (todo : List Item) (ds : List Deferred) : Frame :=
  { fn, tmps := t, todo, defers := ds, mode := .run, kind := .normal, roundOf := ro }

theorem eval_Fm (fn : FuncId) (ro : Option Nat) (t : Array Value) (todo : List Item) (ds : List Deferred) : (Fm fn ro t todo ds).eval = evT t := by
  funext x; cases x <;> rfl

section
variable {P : Program} {fn : FuncId} {ro : Option Nat} {t : Array Value} {k : List Item} {ds : List Deferred} {cs : List Frame} {w : World}

theorem st_skip : step P (lone (Fm fn ro t (.code .skip :: k) ds) cs w) = .next (lone (Fm fn ro t k ds) cs w) := step_lone_go (by simp [stepG, stepG.exec, Fm])
theorem st_label {l : Nat} : step P (lone (Fm fn ro t (.code (.label l) :: k) ds) cs w) = .next (lone (Fm fn ro t k ds) cs w) := step_lone_go (by simp [stepG, stepG.exec, Fm])
theorem st_inBlock {id : Nat} : step P (lone (Fm fn ro t (.inBlock id :: k) ds) cs w) = .next (lone (Fm fn ro t k ds) cs w) := step_lone_go (by simp [stepG, stepG.exec, Fm])
theorem st_inScope {b : Code} : step P (lone (Fm fn ro t (.inScope b :: k) ds) cs w) = .next (lone (Fm fn ro t k ds) cs w) := step_lone_go (by simp [stepG, stepG.exec, Fm])
theorem st_seq {a b : Code} : step P (lone (Fm fn ro t (.code (.seq a b) :: k) ds) cs w) = .next (lone (Fm fn ro t (.code a :: .code b :: k) ds) cs w) := step_lone_go (by simp [stepG, stepG.exec, Fm])
theorem st_cond {c : Operand} {x y : Code} {b : Bool} (h : evT t c = .bool b) :
    step P (lone (Fm fn ro t (.code (.cond c x y) :: k) ds) cs w) = .next (lone (Fm fn ro t (.code (if b then x else y) :: k) ds) cs w) :=
  step_lone_go (by
    have := congrFun (eval_Fm fn ro t (.code (.cond c x y) :: k) ds) c
    simp only [Fm] at this
    simp [stepG, stepG.exec, Fm, this, h])
theorem st_block {id : Nat} {c : Code} : step P (lone (Fm fn ro t (.code (.block id c) :: k) ds) cs w) = .next (lone (Fm fn ro t (.code c :: .inBlock id :: k) ds) cs w) := step_lone_go (by simp [stepG, stepG.exec, Fm])
theorem st_loop {c : Code} : step P (lone (Fm fn ro t (.code (.loop c) :: k) ds) cs w) = .next (lone (Fm fn ro t (.code c :: .inLoop c :: k) ds) cs w) := step_lone_go (by simp [stepG, stepG.exec, Fm])
theorem st_inLoop {c : Code} : step P (lone (Fm fn ro t (.inLoop c :: k) ds) cs w) = .next (lone (Fm fn ro t (.code c :: .inLoop c :: k) ds) cs w) := step_lone_go (by simp [stepG, stepG.exec, Fm])
theorem st_scope {c : Code} : step P (lone (Fm fn ro t (.code (.scope c) :: k) ds) cs w) = .next (lone (Fm fn ro t (.code c :: .inScope c :: k) ds) cs w) := step_lone_go (by simp [stepG, stepG.exec, Fm])
theorem st_exit {id : Nat} {k' : List Item} (h : exitTo id k = some k') : step P (lone (Fm fn ro t (.code (.exit id) :: k) ds) cs w) = .next (lone (Fm fn ro t k' ds) cs w) :=
  step_lone_go (by simp [stepG, stepG.exec, Fm, h])
theorem st_region {id : Nat} {ops : Array Oper} : step P (lone (Fm fn ro t (.code (.region id ops false) :: k) ds) cs w) = .next (lone (Fm fn ro t (.inRegion ops (List.range ops.size) :: k) ds) cs w) :=
  step_lone_go (by simp [stepG, stepG.exec, Fm])
theorem st_region_draw {id : Nat} {ops : Array Oper} : step P (lone (Fm fn ro t (.code (.region id ops true) :: k) ds) cs w) =
    .next (lone (Fm fn ro t (.inRegion ops (Region.schedule (P.follows .mixedOrders) ops (w.tape w.drawn (.order fn id))) :: k) ds) cs { w with drawn := w.drawn + 1 }) :=
  step_lone_go (by simp [stepG, stepG.exec, Fm, choose, Sem.run, Question.forced, Question.cut])
theorem st_region_end {ops : Array Oper} : step P (lone (Fm fn ro t (.inRegion ops [] :: k) ds) cs w) = .next (lone (Fm fn ro t k ds) cs w) := step_lone_go (by simp [stepG, stepG.exec, Fm])

/-- The slot is set. -/
def putT (t : Array Value) (dst : Option Tmp) (x : Value) : Array Value :=
  match dst with
  | some d => t.setIfInBounds d x
  | none => t

theorem finish_Fm {ops : Array Oper} {i : Nat} {rest : List Nat} {o : Oper} (ho : ops[i]? = some o) (x : Value) :
    (Fm fn ro t (.inRegion ops (i :: rest) :: k) ds).finish x = Fm fn ro (putT t o.dst x) (.inRegion ops rest :: k) ds := by
  cases hd : o.dst <;> simp [Frame.finish, Fm, ho, putT, hd]

theorem st_op_skip {ops : Array Oper} {i : Nat} {rest : List Nat} {o : Oper} (ho : ops[i]? = some o) (hw : Region.wanted o (yielded ops t) = false) :
    step P (lone (Fm fn ro t (.inRegion ops (i :: rest) :: k) ds) cs w) = .next (lone (Fm fn ro (putT t o.dst undef) (.inRegion ops rest :: k) ds) cs w) := by
  rw [← finish_Fm ho]
  exact step_lone_go (by simp only [Fm]; simp [stepG, stepG.exec, ho, hw])

theorem stepG_Fm {ops : Array Oper} {i : Nat} {rest : List Nat} {o : Oper} (ho : ops[i]? = some o) (hw : Region.wanted o (yielded ops t) = true) (hd : ∀ c, o.op ≠ .defer c) :
    stepG P true { frame := Fm fn ro t (.inRegion ops (i :: rest) :: k) ds, callers := cs, status := .running, dying := none } w =
      stepG.apply P true (Fm fn ro t (.inRegion ops (i :: rest) :: k) ds) cs none (execOp (evT t) o) w := by
  have he := eval_Fm fn ro t (.inRegion ops (i :: rest) :: k) ds
  simp only [Fm] at he
  obtain ⟨dst, op, ty, pos, after, guard⟩ := o
  cases ro with
  | none => simp [stepG, stepG.exec, stepG.oper, Frame.oper?, Fm, ho, hw, he]
  | some l =>
    cases op <;> first | exact absurd rfl (hd _) | simp [stepG, stepG.exec, stepG.oper, Frame.oper?, Fm, ho, hw, he]

theorem st_op_value {ops : Array Oper} {i : Nat} {rest : List Nat} {o : Oper} (ho : ops[i]? = some o) (hw : Region.wanted o (yielded ops t) = true) (hd : ∀ c, o.op ≠ .defer c) {x : Value} {w' : World}
    (hr : (execOp (evT t) o).run P w = .ok (.value x) w') :
    step P (lone (Fm fn ro t (.inRegion ops (i :: rest) :: k) ds) cs w) = .next (lone (Fm fn ro (putT t o.dst x) (.inRegion ops rest :: k) ds) cs w') := by
  refine step_lone_go ?_
  rw [stepG_Fm ho hw hd, ← finish_Fm ho]
  simp [stepG.apply, hr]

theorem st_op_none {ops : Array Oper} {i : Nat} {rest : List Nat} {o : Oper} (ho : ops[i]? = some o) (hw : Region.wanted o (yielded ops t) = true) (hd : ∀ c, o.op ≠ .defer c) {w' : World}
    (hr : (execOp (evT t) o).run P w = .ok .skip w') :
    step P (lone (Fm fn ro t (.inRegion ops (i :: rest) :: k) ds) cs w) = .next (lone (Fm fn ro (putT t o.dst undef) (.inRegion ops rest :: k) ds) cs w') := by
  refine step_lone_go ?_
  rw [stepG_Fm ho hw hd, ← finish_Fm ho]
  simp [stepG.apply, hr]

theorem st_op_enter {ops : Array Oper} {i : Nat} {rest : List Nat} {o : Oper} (ho : ops[i]? = some o) (hw : Region.wanted o (yielded ops t) = true) (hd : ∀ c, o.op ≠ .defer c) {f : FuncId} {args : Array Value} {w' : World}
    (hr : (execOp (evT t) o).run P w = .ok (.enter f args) w') :
    step P (lone (Fm fn ro t (.inRegion ops (i :: rest) :: k) ds) cs w) = .next (lone (Frame.enter P f args .normal) (Fm fn ro t (.inRegion ops (i :: rest) :: k) ds :: cs) w') := by
  refine step_lone_go ?_
  rw [stepG_Fm ho hw hd]
  simp [stepG.apply, hr, Fm]

theorem st_op_round {ops : Array Oper} {i : Nat} {rest : List Nat} {o : Oper} (ho : ops[i]? = some o) (hw : Region.wanted o (yielded ops t) = true) (hd : ∀ c, o.op ≠ .defer c) {l : Nat} {f : FuncId} {t' : Array Value} {a b : Code} {w' : World}
    (hr : (execOp (evT t) o).run P w = .ok (.round l f t' a b) w') :
    step P (lone (Fm fn ro t (.inRegion ops (i :: rest) :: k) ds) cs w) = .next (lone (Frame.round l f t' a b .normal) (Fm fn ro t (.inRegion ops (i :: rest) :: k) ds :: cs) w') := by
  refine step_lone_go ?_
  rw [stepG_Fm ho hw hd]
  simp [stepG.apply, hr, Fm]

/-! A range over a function. -/

/-- The mark that a range over a function leaves among the deferred calls. -/
def markOf (r : Nat) : Deferred := { target := .collected r, args := #[] }

theorem st_rangeFunc {f : Operand} {ps : Array Tmp} {a b : Code} {l : Nat} {mk : List Deferred} {w1 : World} (hl : (Instr.enterLoop fn t ps a b ro).run P w = .ok (l, mk) w1) {g : FuncId} {args : Array Value} {w2 : World}
    (hr : (do let d ← resolve (evT t) { callee := .value f, args := #[.const (.func (.yield l) #[] #[])], argTypes := #[] } 0; invoke d.target d.args : Sem Next).run P w1 = .ok (.enter g args) w2) :
    step P (lone (Fm fn ro t (.code (.rangeFunc f ps a b) :: k) ds) cs w) = .next (lone (Frame.enter P g args .normal) (Fm fn ro t (.inRangeFunc l :: k) (mk ++ ds) :: cs) w2) := by
  refine step_lone_go ?_
  have he := eval_Fm fn ro t (.inRangeFunc l :: k) (mk ++ ds)
  simp only [Fm] at he
  simp [stepG, stepG.exec, Fm, Sem.runT_eq, hl, stepG.apply, he] at hr ⊢
  simp [hr]

theorem finish_inRange {l : Nat} (x : Value) : (Fm fn ro t (.inRangeFunc l :: k) ds).finish x = Fm fn ro t (.endRangeFunc l :: k) ds := rfl

theorem st_endRange {l : Nat} {j : Option Code} {w' : World} (hr : (Instr.endLoop l).run P w = .ok j w') :
    step P (lone (Fm fn ro t (.endRangeFunc l :: k) ds) cs w) = .next (lone (Fm fn ro t ((j.map Item.code).toList ++ k) ds) cs w') := by
  refine step_lone_go ?_
  simp [stepG, stepG.exec, Fm, Sem.runT_eq, hr]

theorem st_beginRound {l : Nat} {w' : World} (hr : (Instr.beginRound l).run P w = .ok () w') :
    step P (lone (Fm fn (some l) t (.beginRound :: k) ds) cs w) = .next (lone (Fm fn (some l) t k ds) cs w') := by
  refine step_lone_go ?_
  simp [stepG, stepG.exec, Fm, stepG.apply, hr, Frame.finish]

/-- A round's end. -/
theorem st_leaveRound {l : Nat} {jump : Option Code} {todo : List Item} {x : Value} {w' : World} {c : Frame} (hj : (jump = none ∧ todo = []) ∨ (jump = some .ret ∧ ∃ k', todo = .code .ret :: k') ∨ (∃ id k', jump = some (.exit id) ∧ todo = .code (.exit id) :: k' ∧ exitTo id k' = none))
    (hr : (Instr.endRound l jump).run P w = .ok x w') : step P (lone (Fm fn (some l) t todo ds) (c :: cs) w) = .next (lone (c.finish x) cs w') := by
  refine step_lone_go ?_
  rcases hj with ⟨rfl, rfl⟩ | ⟨rfl, k', rfl⟩ | ⟨id, k', rfl, rfl, he⟩
  · simp [stepG, stepG.exec, Fm, Sem.runT_eq, hr, doReturn]
  · simp [stepG, stepG.exec, Fm, Sem.runT_eq, hr, doReturn]
  · simp [stepG, stepG.exec, Fm, Sem.runT_eq, hr, doReturn, he]

/-- A function's end. -/
theorem st_ret {todo : List Item} (hj : todo = [] ∨ ∃ k', todo = .code .ret :: k') : step P (lone (Fm fn none t todo ds) cs w) = .next (lone { Fm fn none t todo ds with mode := .returning } cs w) := by
  refine step_lone_go ?_
  rcases hj with rfl | ⟨k', rfl⟩ <;> simp [stepG, stepG.exec, Fm]

theorem st_unmark {todo : List Item} {r : Nat} {w' : World} (hr : (Instr.takeDeferred r).run P w = .ok [] w') :
    step P (lone { Fm fn none t todo (markOf r :: ds) with mode := .returning } cs w) = .next (lone { Fm fn none t todo ds with mode := .returning } cs w') := by
  refine step_lone_go ?_
  simp [stepG, unwind, Fm, markOf, Sem.runT_eq, hr]

end
end Am
