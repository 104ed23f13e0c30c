/- How what is handed in lies in the abstract machine's memory. -/
import Derived.Test.YtloklombgjlofaaGreatDoorStep
namespace Am
open Go

def repInt (k : IntKind) (_ : H) (n : Int) (vs : List V) : Prop := vs = [.int k n] ∧ k.min ≤ n ∧ n ≤ k.max
def repBool (_ : H) (b : Bool) (vs : List V) : Prop := vs = [.bool b]
def repStr (_ : H) (s : List UInt8) (vs : List V) : Prop := vs = [.str s] ∧ s.length ≤ 2 ^ 63
def repNil (_ : H) (_ : Unit) (vs : List V) : Prop := vs = []
/-- A field, and those behind it. -/
def repCons {α β : Type} (a : H → α → List V → Prop) (b : H → β → List V → Prop) (h : H) (x : α × β) (vs : List V) : Prop := ∃ u w, vs = u ++ w ∧ a h x.1 u ∧ b h x.2 w

/-- The cells of a row of elements. -/
def rowRep {α : Type} (rep : H → α → List V → Prop) (h : H) : List α → List V → Prop
  | [], vs => vs = []
  | x :: l, vs => ∃ u w, vs = u ++ w ∧ rep h x u ∧ rowRep rep h l w

theorem rowRep.length {α : Type} {rep : H → α → List V → Prop} {h : H} {sz : Nat} (hl : ∀ {x vs}, rep h x vs → vs.length = sz) : ∀ {l : List α} {vs : List V}, rowRep rep h l vs → vs.length = l.length * sz
  | [], _, e => by rw [show _ = [] from e]; simp
  | x :: l, _, ⟨u, w, e, h1, h2⟩ => by rw [e, List.length_append, hl h1, rowRep.length hl h2]; simp [Nat.add_mul]; omega
theorem rowRep.mono {α : Type} {rep rep' : H → α → List V → Prop} {h h' : H} (hk : ∀ {x vs}, rep h x vs → rep' h' x vs) : ∀ {l : List α} {vs : List V}, rowRep rep h l vs → rowRep rep' h' l vs
  | [], _, e => e
  | _ :: _, _, ⟨u, w, e, h1, h2⟩ => ⟨u, w, e, hk h1, rowRep.mono hk h2⟩
theorem rowRep.snoc {α : Type} {rep : H → α → List V → Prop} {h : H} : ∀ {l : List α} {vs ws : List V} {x : α}, rowRep rep h l vs → rep h x ws → rowRep rep h (l ++ [x]) (vs ++ ws)
  | [], _, ws, x, e, h1 => by rw [show _ = [] from e]; exact ⟨ws, [], by simp, h1, rfl⟩
  | _ :: _, _, ws, x, ⟨u, w, e, h2, h3⟩, h1 => ⟨u, w ++ ws, by rw [e, List.append_assoc], h2, rowRep.snoc h3 h1⟩
theorem rowRep.get {α : Type} {rep : H → α → List V → Prop} {h : H} {sz : Nat} (hl : ∀ {x vs}, rep h x vs → vs.length = sz) : ∀ {l : List α} {vs : List V} {i : Nat} {x : α}, rowRep rep h l vs → l[i]? = some x → rep h x ((vs.drop (i * sz)).take sz)
  | [], _, i, x, _, hi => by simp at hi
  | y :: l, _, 0, x, ⟨u, w, e, h1, h2⟩, hi => by
    simp at hi; subst hi; subst e
    rw [Nat.zero_mul, List.drop_zero, List.take_append_of_le_length (by rw [hl h1]; exact Nat.le_refl _), List.take_of_length_le (by rw [hl h1]; exact Nat.le_refl _)]; exact h1
  | y :: l, _, i + 1, x, ⟨u, w, e, h1, h2⟩, hi => by
    subst e
    have : (i + 1) * sz = u.length + i * sz := by rw [hl h1, Nat.add_mul]; omega
    rw [this, ← List.drop_drop, List.drop_left]
    exact rowRep.get hl h2 (by simpa using hi)

/-- A slice: looked into, if it has at most 'B' elements. -/
def repSlice {α : Type} (B : Nat) (a : H → α → List V → Prop) (h : H) (l : List α) (vs : List V) : Prop :=
  ∃ (ad : Option (Nat × Nat)) (c : Nat), vs = [.slice ad l.length (.fix c)] ∧ (l.length ≤ B → l ≠ [] → ∃ b cs, ad = some (b, 0) ∧ b < h.nx ∧ h.get b = some (.cells cs true) ∧ rowRep a h l cs) ∧ l.length ≤ c ∧ (ad = none → c = 0 ∧ l = [])

end Am
