/- Regions: in the text's order, and in an order that is drawn. -/
import Derived.Test.YtloklombgjlofaaGreatDoorOne
import Derived.Orders
namespace Am
open Go

/-! What the tests say of the order. -/

theorem force_eq {α : Type} (n : Nat) (k : Nat → α) : force n k = k n := by cases n <;> rfl

/-- S holds all that come ahead of what it holds. -/
def Closed (full : List Oper) (S : Nat → Prop) : Prop := ∀ i o, full[i]? = some o → S i → ∀ e ∈ edgesOf o, S e

def BefOk (full : List Oper) (L : List Nat) : Prop := ∀ i o, full[i]? = some o → ∀ j, Nat.testBit (L.getD i 0) j = true → ∀ S, Closed full S → (∀ e ∈ edgesOf o, S e) → S j

theorem fold_bits (L : List Nat) : ∀ (es : List Nat) (a j : Nat), Nat.testBit (es.foldl (fun s e => s ||| 2 ^ e ||| L.getD e 0) a) j = true → Nat.testBit a j = true ∨ ∃ e ∈ es, j = e ∨ Nat.testBit (L.getD e 0) j = true
  | [], a, j, h => .inl h
  | e :: es, a, j, h => by
    rcases fold_bits L es _ j h with h1 | ⟨e', h1, h2⟩
    · simp only [Nat.testBit_or, Bool.or_eq_true, Nat.testBit_two_pow, decide_eq_true_eq] at h1
      rcases h1 with (h1 | h1) | h1
      · exact .inl h1
      · exact .inr ⟨e, List.mem_cons_self .., .inl h1.symm⟩
      · exact .inr ⟨e, List.mem_cons_self .., .inr h1⟩
    · exact .inr ⟨e', List.mem_cons_of_mem _ h1, h2⟩

theorem befL_ok (full : List Oper) : ∀ (r : List Oper) (acc : List Nat) (pre : List Oper), full = pre ++ r → pre.length = acc.length → BefOk full acc.reverse → BefOk full (befL r acc)
  | [], acc, pre, _, _, h => by unfold befL; exact h
  | o :: r, acc, pre, he, hl, h => by
    unfold befL
    simp only [force_eq]
    refine befL_ok full r _ (pre ++ [o]) (by simp [he]) (by simp [hl]) ?_
    intro i o' hi j hj S hS hE
    rw [List.reverse_cons] at hj
    by_cases hlt : i < acc.length
    · refine h i o' hi j ?_ S hS hE
      rw [List.getD_eq_getElem?_getD] at hj ⊢
      rw [List.getElem?_append_left (by simpa using hlt)] at hj
      exact hj
    · rw [List.getD_eq_getElem?_getD, List.getElem?_append_right (by simpa using Nat.le_of_not_lt hlt)] at hj
      by_cases heq : i = acc.length
      · subst heq
        have ho : o' = o := by
          rw [he, List.getElem?_append_right (by omega), hl] at hi
          simpa using hi.symm
        subst ho
        simp only [List.length_reverse, Nat.sub_self, List.getElem?_cons_zero, Option.getD_some] at hj
        rcases fold_bits _ _ _ _ hj with h1 | ⟨e, h1, h2 | h2⟩
        · simp at h1
        · subst h2; exact hE _ h1
        · have hSe := hE e h1
          have hlt' : e < acc.length := by
            rcases Nat.lt_or_ge e acc.length with h3 | h3
            · exact h3
            · rw [List.getD_eq_getElem?_getD, List.getElem?_eq_none (by simpa using h3)] at h2
              simp at h2
          have hle : acc.length ≤ full.length := by rw [he]; simp; omega
          obtain ⟨oe, hoe⟩ : ∃ oe, full[e]? = some oe := ⟨_, List.getElem?_eq_getElem (by omega)⟩
          exact h e oe hoe j h2 S hS (hS e oe hoe hSe)
      · have : i - acc.reverse.length = (i - acc.length - 1) + 1 := by simp; omega
        rw [this] at hj
        simp at hj

theorem bef_ok (full : List Oper) : BefOk full (befL full []) := by
  refine befL_ok full full [] [] rfl rfl ?_
  intro i o _ j hj
  simp at hj

/-- The list goes by the edges. -/
def OrdL (ops : Array Oper) : (Nat → Prop) → List Ins → Prop
  | _, [] => True
  | done, s :: r => (∀ o, ops[s.ix]? = some o → ∀ e ∈ edgesOf o, done e) ∧ OrdL ops (fun j => done j ∨ j = s.ix) r

theorem OrdL.mono {ops : Array Oper} : ∀ {l : List Ins} {d d' : Nat → Prop}, (∀ j, d j → d' j) → OrdL ops d l → OrdL ops d' l
  | [], _, _, _, _ => trivial
  | _ :: _, _, _, hm, h => ⟨fun o ho e he => hm _ (h.1 o ho e he), h.2.mono fun j hj => hj.imp (hm j) id⟩

theorem OrdL.drop {ops : Array Oper} {b : Ins} {post : List Ins} : ∀ {pre : List Ins} {d : Nat → Prop}, OrdL ops d (pre ++ b :: post) → OrdL ops (fun j => d j ∨ j = b.ix) (pre ++ post)
  | [], _, h => h.2
  | a :: pre, d, h => by
    refine ⟨fun o ho e he => .inl (h.1 o ho e he), (OrdL.drop h.2).mono ?_⟩
    rintro j ((h1 | h1) | h1)
    · exact .inl (.inl h1)
    · exact .inr h1
    · exact .inl (.inr h1)

theorem bit_or (d k j : Nat) : Nat.testBit (d ||| 2 ^ k) j = true ↔ (Nat.testBit d j = true ∨ j = k) := by
  rw [Nat.testBit_or, Nat.testBit_two_pow, Bool.or_eq_true, decide_eq_true_eq]
  exact or_congr Iff.rfl eq_comm

theorem orderM_spec {ops : Array Oper} : ∀ {l : List Ins} {d : Nat}, orderM ops l d = true → OrdL ops (fun j => Nat.testBit d j = true) l ∧ (∀ s ∈ l, Nat.testBit d s.ix = false) ∧ l.Pairwise (fun a b => a.ix ≠ b.ix) ∧
    ∀ i, i < ops.size → Nat.testBit d i = true ∨ ∃ s ∈ l, s.ix = i
  | [], d, h => by
    simp only [orderM, nbeq, decide_eq_true_eq] at h
    refine ⟨trivial, fun s hs => by simp at hs, List.Pairwise.nil, fun i hi => .inl ?_⟩
    rw [h, Nat.testBit_two_pow_sub_one]; simpa using hi
  | s :: r, d, h => by
    simp only [orderM, force_eq, Bool.and_eq_true, Bool.not_eq_true'] at h
    obtain ⟨⟨h1, h2⟩, h3⟩ := h
    obtain ⟨q1, q2, q3, q4⟩ := orderM_spec h3
    have bit := bit_or d s.ix
    refine ⟨⟨fun o ho e he => ?_, q1.mono fun j hj => (bit j).1 hj⟩, fun a ha => ?_, List.pairwise_cons.2 ⟨fun a ha e0 => ?_, q3⟩, fun i hi => ?_⟩
    · rw [ho] at h2
      exact List.all_eq_true.1 h2 e he
    · rcases List.mem_cons.1 ha with rfl | ha
      · exact h1
      · have := q2 a ha
        cases hb : Nat.testBit d a.ix with
        | false => rfl
        | true => rw [(bit _).2 (.inl hb)] at this; cases this
    · have := q2 a ha
      rw [(bit _).2 (.inr e0.symm)] at this; cases this
    · rcases q4 i hi with h4 | ⟨a, ha, he⟩
      · rcases (bit i).1 h4 with h5 | h5
        · exact .inl h5
        · exact .inr ⟨s, List.mem_cons_self .., h5.symm⟩
      · exact .inr ⟨a, List.mem_cons_of_mem _ ha, he⟩

theorem atsM_spec {res : Nat} : ∀ {l : List Ins} {d : Nat}, atsM res l d = true → (∀ s ∈ l, s.i.cls = .A → ∃ k, s.at_ = some k) ∧ (∀ s ∈ l, ∀ k, s.at_ = some k → k < res ∧ Nat.testBit d k = false) ∧
    l.Pairwise (fun a b => ∀ k, a.at_ = some k → b.at_ ≠ some k)
  | [], d, _ => ⟨fun s hs => by simp at hs, fun s hs => by simp at hs, List.Pairwise.nil⟩
  | s :: r, d, h => by
    unfold atsM at h
    split at h
    · next k hc hk =>
      simp only [force_eq, Bool.and_eq_true, Bool.not_eq_true'] at h
      obtain ⟨⟨h1, h2⟩, h3⟩ := h
      obtain ⟨q1, q2, q3⟩ := atsM_spec h3
      have bit := bit_or d k
      refine ⟨fun a ha => ?_, fun a ha k' hk' => ?_, List.pairwise_cons.2 ⟨fun a ha k' hk' hk2 => ?_, q3⟩⟩
      · rcases List.mem_cons.1 ha with rfl | ha
        · exact fun _ => ⟨k, hk⟩
        · exact q1 a ha
      · rcases List.mem_cons.1 ha with rfl | ha
        · rw [hk] at hk'; cases hk'
          exact ⟨by simp [Nat.blt] at h1; omega, h2⟩
        · obtain ⟨g1, g2⟩ := q2 a ha k' hk'
          refine ⟨g1, ?_⟩
          cases hb : Nat.testBit d k' with
          | false => rfl
          | true => rw [(bit _).2 (.inl hb)] at g2; cases g2
      · rw [hk] at hk'; cases hk'
        have := (q2 a ha k hk2).2
        rw [(bit _).2 (.inr rfl)] at this; cases this
    · cases h
    · next hk hc =>
      obtain ⟨q1, q2, q3⟩ := atsM_spec h
      refine ⟨fun a ha hA => ?_, fun a ha k' hk' => ?_, List.pairwise_cons.2 ⟨fun a ha k' hk' => ?_, q3⟩⟩
      · rcases List.mem_cons.1 ha with rfl | ha
        · exact (hc hA).elim
        · exact q1 a ha hA
      · rcases List.mem_cons.1 ha with rfl | ha
        · rw [hk] at hk'; cases hk'
        · exact q2 a ha k' hk'
      · rw [hk] at hk'; cases hk'
    · cases h

/-- What the test of pairs says. -/
def Rel2 (bef : List Nat) (a b : Ins) : Prop := Keep a b ∧ (Nat.testBit (bef.getD b.ix 0) a.ix = false → Free a b)

theorem contains_false {l : List Nat} {d : Nat} (h : (!l.contains d) = true) : d ∉ l := by
  intro hm
  simp at h
  exact h hm

theorem ssaM_off {a b : Ins} (h : ssaM a b = true) : Off b.dst a := by
  intro s hs
  unfold ssaM at h
  rw [hs] at h
  simp only [Bool.and_eq_true] at h
  exact ⟨contains_false h.1.1, contains_false h.1.2, by simpa using h.2⟩

theorem okM_ok {a : Ins} (h : okM a = true) : Ok1 a := by
  unfold okM at h
  simp only [Bool.and_eq_true, Bool.or_eq_true, beq_iff_eq, bne_iff_ne, ne_eq] at h
  refine ⟨fun hn => ?_, fun hr d hd => ?_⟩
  · rcases h.1 with h1 | h1
    · exact absurd h1 hn
    · simpa using h1
  · rcases h.2 with h1 | h1
    · exact absurd hr h1
    · rw [hd] at h1; exact contains_false h1

theorem pairM_free {a b : Ins} (h : ssaM a b = true) (h2 : pairM a b = true) : Free a b := by
  unfold pairM at h2
  simp only [Bool.and_eq_true] at h2
  refine ⟨ssaM_off h, fun d hd => ?_, fun hne => ?_⟩
  · have := h2.1
    rw [hd] at this
    exact contains_false this
  · have := h2.2
    have key : (a.i.cls = .E → b.i.cls = .A) ∧ (a.i.cls = .A → b.i.cls = .A) := by
      constructor <;> intro ha <;> rw [ha] at this <;> cases hb : b.i.cls <;> rw [hb] at this hne <;> first | rfl | exact absurd rfl hne | cases this
    refine ⟨key.1, key.2, fun ha hb => ?_⟩
    rw [ha, hb] at this
    dsimp only at this
    split at this
    · next d hd =>
      obtain ⟨c, hc, h4⟩ := List.any_eq_true.1 this
      simp only [Bool.and_eq_true, nbeq, decide_eq_true_eq, beq_iff_eq] at h4
      obtain ⟨⟨rfl, h5⟩, h6⟩ := h4
      refine ⟨_, hd, ?_⟩
      rw [← sameR_eq h5, ← h6]
      exact hc
    · cases this

theorem pairsM_spec {bef : List Nat} : ∀ {l : List Ins}, pairsM bef l = true → (∀ a ∈ l, Ok1 a) ∧ l.Pairwise (Rel2 bef)
  | [], _ => ⟨fun s hs => by simp at hs, List.Pairwise.nil⟩
  | a :: r, h => by
    simp only [pairsM, Bool.and_eq_true, List.all_eq_true, Bool.or_eq_true, bne_iff_ne, ne_eq] at h
    obtain ⟨⟨h1, h2⟩, h3⟩ := h
    obtain ⟨q1, q2⟩ := pairsM_spec h3
    refine ⟨fun b hb => ?_, List.pairwise_cons.2 ⟨fun b hb => ⟨fun hR s hs => ?_, fun hbit => ?_⟩, q2⟩⟩
    · rcases List.mem_cons.1 hb with rfl | hb
      · exact okM_ok h1
      · exact q1 b hb
    · rcases h2 b hb with h4 | h4
      · exact absurd hR h4.2
      · have := ssaM_off h4.1 s hs
        exact ⟨this.1, this.2.2⟩
    · rcases h2 b hb with h4 | h4
      · rw [hbit] at h4; cases h4.1
      · rcases h4.2 with h5 | h5
        · rw [hbit] at h5; cases h5
        · exact pairM_free h4.1 h5

end Am
