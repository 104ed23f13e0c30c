/- The program's code and the rules by which its functions are stepped through. -/
import Derived.Test.YtloklombgjlofaaGreatDoorRow
import Derived.Test.YtloklombgjlofaaGreatDoorCalls
import Derived.Test.YtloklombgjlofaaGreatDoorSigsCode
import Derived.KernelRfl
namespace Am.Sigs
open Am Go

/-- Rounds of a loop at most. -/
abbrev fuel : Nat := 100000
/-- The calls, under a name that nothing unfolds. -/
def Sem (cl : Nat → Call) : Prop := ∀ d, cl d = callN prog fuel d
theorem at_ {cl : Nat → Call} (hcl : Sem cl) {d f : Nat} {fn : AFn} {args : List V} {h : H} {R : V → H → Prop} (hd : 0 < d) (hp : assoc prog.prims f = none) (hf : assoc prog.fns f = some fn) (hl : (args.length == fn.np) = true)
    (k : Run (cl (d - 1)) fuel fn.body [] (Env.ofArgs args 0) h (Fin fn.res R)) : ∃ v h', cl d (.fn f) args h = some (v, h') ∧ R v h' := by
  rw [hcl d]; rw [hcl (d - 1)] at k; exact callN_at hd hp hf hl k
theorem yl_ {cl : Nat → Call} (hcl : Sem cl) {d l : Nat} {args : List V} {h : H} {R : V → H → Prop} {ps : List Nat} {env e0 : Env} {assign body : AC} {LO : LoopState → Option Ex → Obj} (hd : 0 < d)
    (hLO : LO = (fun st pd => .loop st pd ps env assign body)) (hl : h.get l = some (LO .ready none)) (he : putArgs env ps args = some e0)
    (k : Run (cl (d - 1)) fuel assign [] e0 h fun x e1 h1 => x = .normal ∧ h1.get l = some (LO .ready none) ∧
      Run (cl (d - 1)) fuel body [] e1 (h1.set l (LO .busy none)) fun ex _ h3 => (∃ st3 pd3, h3.get l = some (LO st3 pd3)) ∧ R (.bool ex.goes) (h3.set l (LO ex.st ex.pend))) :
    ∃ v h', cl d (.yld l) args h = some (v, h') ∧ R v h' := by
  rw [hcl d]; rw [hcl (d - 1)] at k; exact yield_lo hd hLO hl he k

/-- A call that the machine answers itself. -/
theorem prim_ {cl : Nat → Call} (hcl : Sem cl) {d f : Nat} {p : Prim} {args : List V} {h : H} (hd : 0 < d) (hp : assoc prog.prims f = some p) : cl d (.fn f) args h = p args h := by
  rw [hcl d]
  cases d with
  | zero => omega
  | succ d => simp only [callN, hp]

/-- A call that was seen in a memory h does the same in one that has more. -/
theorem same_in {cl : Nat → Call} (hcl : Sem cl) {d : Nat} {t : Tgt} {args : List V} {h h' h2 : H} {v : V} {X : Nat → Option Obj} (hr : callN prog fuel d t args h = some (v, h')) (x : Ext X h h2) : ∃ h2', cl d t args h2 = some (v, h2') ∧ Ext X h' h2' := by
  rw [hcl d]; exact (callN_F primsF fuel d).1 _ _ _ _ _ hr _ _ x

/-- What is there beside a memory of which nothing is known but how many numbers are taken. -/
theorem ext_all {h : H} (hwf : ∀ j, h.nx ≤ j → h.get j = none) : Ext h.get ⟨h.nx, .lf⟩ h :=
  ⟨rfl, fun j => by simp [H.get, T.get], fun j hj => ⟨by
    rcases Nat.lt_or_ge j h.nx with h1 | h1
    · exact h1
    · exact absurd (hwf j h1) hj, rfl⟩⟩

def ran (r : Option (V × H)) (p : V → H → Bool) : Bool := match r with
  | some (v, h') => p v h'
  | none => false
theorem ran_ex {r : Option (V × H)} {p : V → H → Bool} (hr : ran r p = true) : ∃ v h', r = some (v, h') ∧ p v h' = true := by
  cases r with
  | none => cases hr
  | some x => exact ⟨x.1, x.2, rfl, hr⟩

def isTrue : V → Bool
  | .bool b => b
  | _ => false
theorem isTrue_eq {v : V} (h : isTrue v = true) : v = .bool true := by
  cases v <;> simp_all [isTrue]

theorem ext_kept {X : Nat → Option Obj} {h h2 : H} (x : Ext X h h2) {j : Nat} {o : Obj} (hj : X j = some o) : h2.get j = some o := by
  rw [x.get, (x.off j (by simp [hj])).2, hj]; rfl

/-- One more than the greatest number that is taken in a tree. -/
def isS : Option Obj → Nat
  | some _ => 1
  | none => 0
def up : Nat → Nat
  | 0 => 0
  | n + 1 => 2 * n + 3
def ttop : T → Nat
  | .lf => 0
  | .nd v l r => Nat.max (isS v) (Nat.max (2 * (ttop l)) (up (ttop r)))
theorem get_top : ∀ (t : T) (k : Nat), (ttop t) ≤ k → t.get k = none
  | .lf, _, _ => rfl
  | .nd v l r, k, h => by
    have h1 : Nat.max (isS v) (Nat.max (2 * (ttop l)) (up (ttop r))) ≤ k := h
    have a1 := Nat.le_trans (Nat.le_max_left _ _) h1
    have a2 := Nat.le_trans (Nat.le_max_left _ _) (Nat.le_trans (Nat.le_max_right _ _) h1)
    have a3 := Nat.le_trans (Nat.le_max_right _ _) (Nat.le_trans (Nat.le_max_right _ _) h1)
    rw [T.get_nd]
    by_cases k0 : k = 0
    · subst k0
      rw [if_pos rfl]
      cases v with
      | none => rfl
      | some _ => simp [isS] at a1
    · rw [if_neg k0]
      by_cases ko : k % 2 = 1
      · rw [if_pos ko]; exact get_top l _ (by omega)
      · rw [if_neg ko]
        refine get_top r _ ?_
        cases e : (ttop r) with
        | zero => omega
        | succ n => rw [e] at a3; simp [up] at a3; omega

end Am.Sigs
