/- The table, and the document's lists. -/
import Derived.Test.YtkppkibkoefkjaaPlay1
namespace Am.Sigs
open Am Go

/-- A table has what the document's lists have. -/
structure Rl (T : Tb) (HL RL : List Int) : Prop where
  has : ∀ k : Int, T.has k = decide (0 < HL.count k)
  cnt : ∀ k : Int, T.cnt k = (RL.count k : Nat)
  ran : ∀ x, x ∈ RL → sig? x
theorem Rl.zero : Rl Tb.zero [] [] := ⟨fun k => by simp [Tb.has, Tb.zero], fun k => by simp [Tb.cnt, Tb.zero], fun x hx => by simp at hx⟩

def HLof (HL : List Int) (s : Int) (on : Bool) : List Int := if on then wo HL s ++ [s] else wo HL s
def RLof (RL : List Int) (s : Int) (on : Bool) : List Int := if on then RL else wo RL s
theorem Rl.handle {T : Tb} {HL RL : List Int} (r : Rl T HL RL) {s : Int} (hs : sig? s) (on : Bool) : Rl (T.handle s on) (HLof HL s on) (RLof RL s on) := by
  constructor
  · intro k
    have h0 := r.has k
    unfold Tb.has at h0 ⊢
    unfold Tb.handle HLof
    rw [if_pos hs]
    simp only
    by_cases hk : k = s
    · subst hk
      cases on
      · simp [count_wo]
      · simp [count_snoc, hs]
    · have hk' : sig? k → ¬ k.toNat = s.toNat := fun h => by omega
      by_cases hsk : sig? k
      · rw [if_neg (hk' hsk), h0]
        cases on
        · simp [count_wo, hk]
        · have : ¬ s = k := fun e => hk e.symm
          simp [count_snoc, count_wo, hk, this]
      · rw [decide_eq_false hsk, Bool.false_and] at h0 ⊢
        have h1 : ¬ 0 < HL.count k := by simpa using h0.symm
        cases on
        · simp [count_wo, hk]; exact fun h => h1 (List.count_pos_iff.2 h)
        · have : ¬ s = k := fun e => hk e.symm
          simp [count_snoc, count_wo, hk, this]; exact fun h => h1 (List.count_pos_iff.2 h)
  · intro k
    have h0 := r.cnt k
    unfold Tb.cnt at h0 ⊢
    unfold Tb.handle RLof
    rw [if_pos hs]
    cases on
    · simp only [Bool.false_eq_true, if_false]
      rw [count_wo]
      by_cases hk : k = s
      · subst hk; simp
      · rw [if_neg hk, ← h0]
        by_cases hsk : sig? k
        · rw [if_pos hsk, if_pos hsk, if_neg (by omega)]
        · rw [if_neg hsk, if_neg hsk]
    · simp only [if_true]; exact h0
  · intro x hx
    unfold RLof at hx
    cases on
    · exact r.ran x ((List.mem_filter.1 hx).1)
    · exact r.ran x hx
theorem Tb.handle_bad {T : Tb} {s : Int} (hs : ¬ sig? s) (on : Bool) : T.handle s on = T := by unfold Tb.handle; rw [if_neg hs]
theorem Tb.raise_bad {T : Tb} {s : Int} (hs : ¬ sig? s) : T.raise s = T := by unfold Tb.raise; rw [if_neg (fun h => hs h.1)]
def RLup (HL RL : List Int) (s : Int) : List Int := if 0 < HL.count s then RL ++ [s] else RL
theorem Rl.raise {T : Tb} {HL RL : List Int} (r : Rl T HL RL) {s : Int} (hs : sig? s) : Rl (T.raise s) HL (RLup HL RL s) := by
  have h1 := r.has s
  unfold Tb.has at h1
  rw [decide_eq_true hs, Bool.true_and] at h1
  unfold Tb.raise RLup
  by_cases hc : 0 < HL.count s
  · rw [decide_eq_true hc] at h1
    rw [if_pos ⟨hs, h1⟩, if_pos hc]
    refine ⟨r.has, fun k => ?_, fun x hx => ?_⟩
    · have h0 := r.cnt k
      unfold Tb.cnt at h0 ⊢
      simp only
      rw [count_snoc]
      by_cases hk : k = s
      · subst hk
        rw [if_pos hs] at h0
        rw [if_pos hs, if_pos rfl, if_pos rfl, h0]; rfl
      · have hk2 : ¬ s = k := fun e => hk e.symm
        rw [if_neg hk2, Nat.add_zero, ← h0]
        by_cases hsk : sig? k
        · rw [if_pos hsk, if_pos hsk, if_neg (by omega)]
        · rw [if_neg hsk, if_neg hsk]
    · rcases List.mem_append.1 hx with h | h
      · exact r.ran x h
      · rw [List.mem_singleton.1 h]; exact hs
  · rw [decide_eq_false hc] at h1
    rw [if_neg (fun h => by rw [h1] at h; cases h.2), if_neg hc]
    exact r
theorem Rl.take {T : Tb} {HL RL : List Int} (r : Rl T HL RL) : Rl T.take HL [] := by
  refine ⟨fun k => ?_, fun k => ?_, fun x hx => by simp at hx⟩
  · rw [← r.has k]; rfl
  · unfold Tb.cnt Tb.take
    simp only [List.count_nil]
    split
    · rw [if_pos (by omega)]; rfl
    · rfl

/-- How many are from 1 up to k. -/
def belowC (L : List Int) (k : Nat) : Nat := L.countP fun x => decide (1 ≤ x ∧ x < (k : Int))
theorem below_succ : ∀ (L : List Int) (k : Nat), belowC L (k + 1) = belowC L k + if k = 0 then 0 else L.count (k : Int)
  | [], k => by simp [belowC]
  | x :: L, k => by
    have ih := below_succ L k
    unfold belowC at ih ⊢
    rw [List.countP_cons, List.countP_cons, ih, List.count_cons]
    by_cases h0 : k = 0
    · subst h0
      have h1 : ¬ (1 ≤ x ∧ x < ((0 + 1 : Nat) : Int)) := by omega
      have h2 : ¬ (1 ≤ x ∧ x < ((0 : Nat) : Int)) := by omega
      simp only [decide_eq_false h1, decide_eq_false h2, if_true]
      omega
    · rw [if_neg h0, if_neg h0]
      by_cases hx : x = (k : Int)
      · have h1 : 1 ≤ x ∧ x < ((k + 1 : Nat) : Int) := by omega
        have h2 : ¬ (1 ≤ x ∧ x < (k : Int)) := by omega
        have h3 : (x == (k : Int)) = true := by simp [hx]
        rw [decide_eq_true h1, decide_eq_false h2, h3]
        simp only [if_true, Bool.false_eq_true, if_false]; omega
      · have h3 : (x == (k : Int)) = false := by simp [hx]
        have h4 : decide (1 ≤ x ∧ x < ((k + 1 : Nat) : Int)) = decide (1 ≤ x ∧ x < (k : Int)) := decide_eq_decide.2 (by omega)
        rw [h3, h4]
        simp only [Bool.false_eq_true, if_false]; omega
theorem Rl.sum_below {T : Tb} {HL RL : List Int} (r : Rl T HL RL) : ∀ k : Nat, k ≤ 32 → T.sum k = (belowC RL k : Nat)
  | 0, _ => by
    have : belowC RL 0 = 0 := by
      unfold belowC
      rw [List.countP_eq_zero]
      intro x _
      simp; omega
    rw [this]; rfl
  | k + 1, hk => by
    have ih := r.sum_below k (by omega)
    have hc := r.cnt (k : Int)
    rw [cnt_nat T (by omega)] at hc
    unfold Tb.sum
    rw [below_succ]
    by_cases h0 : k = 0
    · subst h0; rw [if_pos (.inl rfl), ih]; simp
    · rw [if_neg h0] at hc
      rw [if_neg h0]
      by_cases hz : T.pd k = 0
      · rw [if_pos (.inr hz), ih]; omega
      · rw [if_neg (fun h => h.elim h0 hz), ih]; omega
theorem Rl.sum {T : Tb} {HL RL : List Int} (r : Rl T HL RL) : T.sum 32 = (RL.length : Int) := by
  rw [r.sum_below 32 (by omega)]
  have : belowC RL 32 = RL.length := by
    unfold belowC
    rw [List.countP_eq_length]
    intro x hx
    have := r.ran x hx
    simp; omega
  rw [this]

theorem list_get (T : Tb) {k : Nat} (hk : T.has k = true) : ∀ j, k < j → (T.list j)[(T.list k).length]? = some (k : Int)
  | 0, h => by omega
  | j + 1, h => by
    have hl : T.list (j + 1) = if T.has (j : Int) = true then T.list j ++ [(j : Int)] else T.list j := rfl
    rw [hl]
    by_cases e : j = k
    · subst e; rw [if_pos hk, List.getElem?_append_right (Nat.le_refl _), Nat.sub_self]; rfl
    · have ih := list_get T hk j (by omega)
      by_cases hj : T.has (j : Int) = true
      · rw [if_pos hj, List.getElem?_append_left, ih]
        rcases Nat.lt_or_ge (T.list k).length (T.list j).length with h1 | h1
        · exact h1
        · rw [List.getElem?_eq_none h1] at ih; cases ih
      · rw [if_neg hj]; exact ih
theorem HLof_len {HL : List Int} {s : Int} {on : Bool} : (HLof HL s on).length ≤ HL.length + 1 := by
  unfold HLof
  have := wo_len HL s
  split
  · simp; omega
  · omega
theorem RLof_len {RL : List Int} {s : Int} {on : Bool} : (RLof RL s on).length ≤ RL.length + 1 := by
  unfold RLof
  have := wo_len RL s
  split <;> omega
theorem RLup_len {HL RL : List Int} {s : Int} : (RLup HL RL s).length ≤ RL.length + 1 := by
  unfold RLup
  split
  · simp
  · omega
end Am.Sigs
