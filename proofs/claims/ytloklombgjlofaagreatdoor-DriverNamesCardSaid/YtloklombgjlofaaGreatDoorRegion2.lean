/- A region's run in the model. -/
import Derived.Test.YtloklombgjlofaaGreatDoorRegion
namespace Am
open Go

/-- Done. -/
def L (listed : Array Bool) (j : Nat) : Prop := listed.getD j false = true

theorem L_set {listed : Array Bool} {i : Nat} (hi : i < listed.size) (j : Nat) : L (listed.setIfInBounds i true) j ↔ (L listed j ∨ j = i) := by
  unfold L
  rw [Array.getD_eq_getD_getElem?, Array.getD_eq_getD_getElem?]
  by_cases e : i = j
  · subst e; simp [hi]
  · rw [Array.getElem?_setIfInBounds_ne e]
    constructor
    · exact .inl
    · rintro (h | h)
      · exact h
      · exact absurd h.symm e

theorem ready_spec {ops : Array Oper} {listed : Array Bool} (hs : listed.size = ops.size) (i : Nat) : i ∈ Region.ready .any ops listed ↔ i < ops.size ∧ ¬ L listed i ∧ ∃ o, ops[i]? = some o ∧ ∀ e ∈ edgesOf o, L listed e := by
  unfold Region.ready
  rw [List.mem_filter, List.mem_range]
  constructor
  · rintro ⟨h1, h2⟩
    simp only [Bool.and_eq_true, Bool.not_eq_true'] at h2
    refine ⟨h1, ?_, ?_⟩
    · unfold L
      rw [Array.getD_eq_getD_getElem?] at h2 ⊢
      have : listed[i]? = some listed[i] := Array.getElem?_eq_getElem (by omega)
      rw [this] at h2 ⊢
      simp at h2 ⊢
      exact h2.1
    · have ho : ops[i]? = some ops[i] := Array.getElem?_eq_getElem h1
      refine ⟨ops[i], ho, fun e he => ?_⟩
      have h3 := h2.2
      rw [ho] at h3
      simp only [Option.map_some, Option.getD_some] at h3
      rw [Array.all_eq_true_iff_forall_mem] at h3
      unfold edgesOf at he
      obtain ⟨x, hx, hxe⟩ := List.mem_filterMap.1 he
      have := h3 x (by simpa using hx)
      split at hxe
      · next hb =>
        cases hxe
        rw [hb] at this
        simpa [L] using this
      · cases hxe
  · rintro ⟨h1, h2, o, ho, h3⟩
    refine ⟨h1, ?_⟩
    simp only [Bool.and_eq_true, Bool.not_eq_true']
    refine ⟨?_, ?_⟩
    · unfold L at h2
      rw [Array.getD_eq_getD_getElem?] at h2 ⊢
      have : listed[i]? = some listed[i] := Array.getElem?_eq_getElem (by omega)
      rw [this] at h2 ⊢
      simpa using h2
    · rw [ho]
      simp only [Option.map_some, Option.getD_some]
      rw [Array.all_eq_true_iff_forall_mem]
      intro x hx
      cases hb : Region.binds .any x with
      | false => rfl
      | true =>
        have := h3 x.on (by
          unfold edgesOf
          exact List.mem_filterMap.2 ⟨x, by simpa using hx, by rw [if_pos hb]⟩)
        unfold L at this
        rw [this]; rfl

theorem go_succ (ops : Array Oper) (fuel T : Nat) (listed : Array Bool) : Region.linearise.go .any ops (fuel + 1) T listed [] =
    match (Region.ready .any ops listed)[T % (Region.ready .any ops listed).length]? with
    | some i => i :: Region.linearise.go .any ops fuel (T / (Region.ready .any ops listed).length) (listed.setIfInBounds i true) []
    | none => [] := by
  simp only [Region.linearise.go]
  change (match (Region.ready .any ops listed)[T % (Region.ready .any ops listed).length]? with
      | some i => Region.linearise.go .any ops fuel (T / (Region.ready .any ops listed).length) (listed.setIfInBounds i true) [i]
      | none => [].reverse) = _
  split
  · rw [linearise_go_acc]; rfl
  · rfl

/-- What is still to run. -/
structure Good (P : Program) (C : Cx) (nt : Nat) (ops : Array Oper) (res : Nat) (listed : Array Bool) (r : List Ins) : Prop where
  size : listed.size = ops.size
  closed : Closed ops.toList (L listed)
  ord : OrdL ops (L listed) r
  all : ∀ i, i < ops.size → L listed i ∨ ∃ s ∈ r, s.ix = i
  left : ∀ s ∈ r, ¬ L listed s.ix
  ok : ∀ s ∈ r, Ok1 s
  rel : r.Pairwise (Rel2 (befL ops.toList []))
  ixs : r.Pairwise fun a b => a.ix ≠ b.ix
  ats : r.Pairwise fun a b => ∀ k, a.at_ = some k → b.at_ ≠ some k
  ins : ∀ s ∈ r, insM P C nt ops s = true ∧ guardE ops s = true ∧ (s.i.cls = .A → ∃ k, s.at_ = some k) ∧ ∀ k, s.at_ = some k → k < res

section
variable {P : Program} {C : Cx} {nt res : Nat} {ops : Array Oper} {listed : Array Bool}

theorem Good.drop {pre post : List Ins} {b : Ins} (g : Good P C nt ops res listed (pre ++ b :: post)) {o : Oper} (ho : ops[b.ix]? = some o) (he : ∀ e ∈ edgesOf o, L listed e) :
    Good P C nt ops res (listed.setIfInBounds b.ix true) (pre ++ post) := by
  have hlt : b.ix < listed.size := by
    rw [g.size]
    rcases Nat.lt_or_ge b.ix ops.size with h | h
    · exact h
    · rw [Array.getElem?_eq_none h] at ho; cases ho
  have hset := L_set (listed := listed) hlt
  have hsub : (pre ++ post).Sublist (pre ++ b :: post) := List.Sublist.append (List.Sublist.refl _) (List.sublist_cons_self _ _)
  have hmem : ∀ s ∈ pre ++ post, s ∈ pre ++ b :: post := fun s hs => hsub.subset hs
  have hne : ∀ s ∈ pre ++ post, s.ix ≠ b.ix := by
    intro s hs
    have h1 := List.pairwise_append.1 g.ixs
    rcases List.mem_append.1 hs with hs | hs
    · exact h1.2.2 s hs b (List.mem_cons_self ..)
    · exact ((List.pairwise_cons.1 h1.2.1).1 s hs).symm
  refine ⟨by simp [g.size], ?_, g.ord.drop.mono fun j hj => (hset j).2 hj, ?_, fun s hs hl => ?_, fun s hs => g.ok s (hmem s hs), g.rel.sublist hsub, g.ixs.sublist hsub, g.ats.sublist hsub, fun s hs => g.ins s (hmem s hs)⟩
  · intro i o' hi hl e hE
    rcases (hset i).1 hl with h1 | h1
    · exact (hset e).2 (.inl (g.closed i o' hi h1 e hE))
    · subst h1
      have : o' = o := by
        rw [Array.getElem?_toList] at hi
        rw [ho] at hi; exact (Option.some.inj hi).symm
      subst this
      exact (hset e).2 (.inl (he e hE))
  · intro i hi
    rcases g.all i hi with h1 | ⟨s, hs, h1⟩
    · exact .inl ((hset i).2 (.inl h1))
    · rcases List.mem_append.1 hs with hs | hs
      · exact .inr ⟨s, List.mem_append_left _ hs, h1⟩
      · rcases List.mem_cons.1 hs with rfl | hs
        · exact .inl ((hset i).2 (.inr h1.symm))
        · exact .inr ⟨s, List.mem_append_right _ hs, h1⟩
  · rcases (hset s.ix).1 hl with h1 | h1
    · exact g.left s (hmem s hs) h1
    · exact hne s hs h1

theorem ext_get {h h' : H} (x : Ext (fun _ => none) h h') (j : Nat) : h'.get j = h.get j := by rw [x.get]; simp

theorem Step.congr {N : Nat} {m m' : Mp} {h h' h2 : H} {w w' : World} (a : Step P C N m h w m' h2 w') (x : Ext (fun _ => none) h' h2) : Step P C N m h w m' h' w' := by
  have hg := ext_get x
  refine ⟨a.mono, a.old, ⟨fun b o hb => a.rel.obj b o (by rw [hg]; exact hb), fun b b' o o' l l' hb hb' => a.rel.inj b b' o o' l l' (by rw [hg]; exact hb) (by rw [hg]; exact hb'), fun b l hb => ?_⟩, ?_, ?_, a.size, ?_, a.loops, a.os, a.tape, a.output⟩
  · have := a.rel.dom b l hb; rw [x.nx] at this; exact this
  · rw [← x.nx]; exact a.nx
  · intro b hb e; rw [← hg]; exact a.dead b hb e
  · intro β hβ hn
    obtain ⟨h1, h2'⟩ := a.frame β hβ hn
    refine ⟨h1, ?_⟩
    rintro ⟨b, o, l, q1, q2, q3, q4⟩
    exact h2' ⟨b, o, l, by rw [hg]; exact q1, q2, q3, q4⟩

theorem ext_trans {a b c : H} (x : Ext (fun _ => none) a b) (y : Ext (fun _ => none) b c) : Ext (fun _ => none) a c :=
  ⟨y.nx.trans x.nx, fun j => by rw [y.get, x.get]; simp, fun j hj => absurd rfl hj⟩

theorem draw_go {call : Am.Call} (hT : TOk P C) (hC : CallOk P C call) (hF : CallF call) {base : Nat} : ∀ (fuel T : Nat) (listed : Array Bool) (r : List Ins) (e e' ef : Env) (h h' hf : H) (m : Mp) (w : World) (t : Array Value),
    r.length = fuel → Good P C nt ops res listed r → (∀ s ∈ r, ∀ k, s.at_ = some k → m (base + k) = none ∧ h.get (base + k) = none) →
    (∀ i o d, L listed i → ops[i]? = some o → o.dst = some d → e.get d ≠ none) → GOk C m → HRel P C m h w → ERel m e t → nt ≤ t.size → base + res ≤ h.nx →
    runOps call base r e h = some (ef, hf) → (∀ s, ef.get s = e'.get s) → Ext (fun _ => none) h' hf →
    ∀ fn ro k ds cs, ∃ m' w' t', Step P C base m h w m' h' w' ∧ ERel m' e' t' ∧ t'.size = t.size ∧
      Steps P (lone (Fm fn ro t (.inRegion ops (Region.linearise.go .any ops fuel T listed []) :: k) ds) cs w) (lone (Fm fn ro t' (.inRegion ops [] :: k) ds) cs w')
  | 0, T, listed, r, e, e', ef, h, h', hf, m, w, t, hl, g, hat, hk, hG, hR, he, hnt, hb, hr, hee, hx, fn, ro, kk, ds, cs => by
    have hr0 : r = [] := List.length_eq_zero_iff.1 hl
    subst hr0
    cases hr
    refine ⟨m, w, t, (Step.refl base hR).congr hx, fun s v hs => he s v (by rw [hee]; exact hs), rfl, ?_⟩
    have : Region.linearise.go .any ops 0 T listed [] = [] := rfl
    rw [this]
    exact Steps.refl _ _
  | fuel + 1, T, listed, r, e, e', ef, h, h', hf, m, w, t, hl, g, hat, hk, hG, hR, he, hnt, hb, hr, hee, hx, fn, ro, kk, ds, cs => by
    -- something is ready
    obtain ⟨s0, r0, rfl⟩ : ∃ s0 r0, r = s0 :: r0 := by
      cases r with
      | nil => cases hl
      | cons a b => exact ⟨a, b, rfl⟩
    have hne : Region.ready .any ops listed ≠ [] := by
      obtain ⟨o, ho, _⟩ := insM_spec (g.ins s0 (List.mem_cons_self ..)).1
      have hlt : s0.ix < ops.size := by
        rcases Nat.lt_or_ge s0.ix ops.size with h1 | h1
        · exact h1
        · rw [Array.getElem?_eq_none h1] at ho; cases ho
      have := (ready_spec g.size s0.ix).2 ⟨hlt, g.left s0 (List.mem_cons_self ..), o, ho, fun e hE => g.ord.1 o ho e hE⟩
      intro e0; rw [e0] at this; cases this
    have hpos : 0 < (Region.ready .any ops listed).length := List.length_pos_iff.2 hne
    have hlt := Nat.mod_lt T hpos
    have hget := List.getElem?_eq_getElem hlt
    have hmem := List.getElem_mem hlt
    generalize (Region.ready .any ops listed)[T % (Region.ready .any ops listed).length] = i at hget hmem
    obtain ⟨hi, hnl, o, ho, hE⟩ := (ready_spec g.size i).1 hmem
    rw [go_succ, hget]
    dsimp only
    obtain ⟨b, hbm, hbi⟩ := (g.all i hi).resolve_left hnl
    subst hbi
    obtain ⟨pre, post, hsplit⟩ := List.append_of_mem hbm
    rw [hsplit] at g hat hr hl
    have gI := g.ins b (by simp)
    have hpre : ∀ a ∈ pre, a ∈ pre ++ b :: post := fun a ha => List.mem_append_left _ ha
    have hrel := List.pairwise_append.1 g.rel
    have hfree : ∀ a ∈ pre, Free a b := by
      intro a ha
      refine (hrel.2.2 a ha b (List.mem_cons_self ..)).2 ?_
      cases hbit : Nat.testBit ((befL ops.toList []).getD b.ix 0) a.ix with
      | false => rfl
      | true =>
        have := bef_ok ops.toList b.ix o (by rw [Array.getElem?_toList]; exact ho) a.ix hbit (L listed) g.closed hE
        exact absurd this (g.left a (hpre a ha))
    have hats := List.pairwise_append.1 g.ats
    obtain ⟨v, h1, hone, e2, h2, hr2, he2, hx2⟩ := comm hF hr hfree (fun a ha => g.ok a (hpre a ha)) (hrel.1.imp fun h9 => h9.1)
      (fun k hk' => ⟨(hat b (by simp) k hk').2, by have := gI.2.2.2 k hk'; omega, fun a ha e0 => hats.2.2 a ha b (List.mem_cons_self ..) k e0 hk'⟩) gI.2.2.1
    have hguard : ∀ q c, b.guard = some (q, c) → e.get q ≠ none := by
      intro q c hq
      obtain ⟨o', ho', hd', hlt', hgm, _⟩ := insM_spec gI.1
      rw [ho] at ho'; cases ho'
      have hge := gI.2.1
      unfold guardE at hge
      rw [ho] at hge
      dsimp only at hge
      unfold guardM at hgm
      rw [hq] at hgm
      split at hgm
      · next e0 e1 => cases e0
      · next s1 b1 j b2 e0 e1 =>
        cases e0
        rw [e1] at hge
        dsimp only at hge
        simp only [Bool.and_eq_true] at hgm
        have hgm2 := hgm.2
        split at hgm2
        · next oj hoj =>
          exact hk j oj _ (hE j (by simpa using hge)) hoj (by simpa using hgm2)
        · cases hgm2
      · cases hgm
    obtain ⟨m1, w1, x, hs1, he1, hold, hst⟩ := one_sound (N := base) hT hC hG hR he (by omega) hnt gI.1 hguard (base := base)
      (fun k hk' => ⟨Nat.le_add_right _ _, by have := gI.2.2.2 k hk'; omega, hat b (by simp) k hk'⟩) hone fn ro (Region.linearise.go .any ops fuel (T / (Region.ready .any ops listed).length) (listed.setIfInBounds b.ix true) []) kk ds cs
    have hdrop := g.drop ho hE
    obtain ⟨m2, w2, t2, q1, q2, q3, q4⟩ := draw_go hT hC hF fuel (T / (Region.ready .any ops listed).length) (listed.setIfInBounds b.ix true) (pre ++ post) (layv e b.dst v) e' e2 h1 h' h2 m1 w1 (putT t b.dst x)
      (by simp at hl ⊢; omega) hdrop (fun s hs k hk' => by
        have hs' : s ∈ pre ++ b :: post := by
          rcases List.mem_append.1 hs with h9 | h9
          · exact List.mem_append_left _ h9
          · exact List.mem_append_right _ (List.mem_cons_of_mem _ h9)
        obtain ⟨a1, a2⟩ := hat s hs' k hk'
        have hkr := (g.ins s hs').2.2.2 k hk'
        refine hold (base + k) (by omega) a1 a2 ?_
        intro e0
        cases hb2 : b.at_ with
        | none => rw [hb2] at e0; cases e0
        | some k2 =>
          rw [hb2] at e0
          simp only [Option.map_some, Option.some.injEq] at e0
          have hk2 : k2 = k := by omega
          subst hk2
          rcases List.mem_append.1 hs with h9 | h9
          · exact hats.2.2 s h9 b (List.mem_cons_self ..) _ hk' hb2
          · exact (List.pairwise_cons.1 hats.2.1).1 s h9 _ hb2 hk')
      (fun i o' d hL hi' hd => by
        rw [get_layv]
        split
        · simp
        · next hne' =>
          rcases (L_set (by rw [g.size]; exact hi) i).1 hL with h9 | h9
          · exact hk i o' d h9 hi' hd
          · subst h9
            obtain ⟨o2, ho2, hd2, _⟩ := insM_spec gI.1
            rw [ho2] at hi'; cases hi'
            rw [← hd2] at hd
            exact absurd hd hne')
      (hG.mono hs1.mono) hs1.rel he1 (by rw [putT_size]; exact hnt) (Nat.le_trans hb hs1.nx) hr2 (fun s => (he2 s).trans (hee s)) (ext_trans hx hx2) fn ro kk ds cs
    exact ⟨m2, w2, t2, hs1.trans q1, q2, q3.trans (putT_size ..), hst.trans q4⟩

theorem seqM_cons {s : Ins} {r : List Ins} {n : Nat} (h : seqM (s :: r) n = true) : s.ix = n ∧ s.at_ = none ∧ s.chk = [] ∧ seqM r (n + 1) = true := by
  simp only [seqM, Bool.and_eq_true, nbeq, decide_eq_true_eq] at h
  exact ⟨h.1.1.1, by simpa using h.1.1.2, by simpa using h.1.2, h.2⟩

theorem seq_go {call : Am.Call} (hT : TOk P C) (hC : CallOk P C call) {base N : Nat} : ∀ (l : List Ins) (n : Nat) (e e' : Env) (h h' : H) (m : Mp) (w : World) (t : Array Value),
    seqM l n = true → (∀ s ∈ l, insM P C nt ops s = true ∧ guardS ops s = true) → (∀ i o d, i < n → ops[i]? = some o → o.dst = some d → e.get d ≠ none) → GOk C m → HRel P C m h w → ERel m e t → nt ≤ t.size → N ≤ h.nx →
    runOps call base l e h = some (e', h') →
    ∀ fn ro k ds cs, ∃ m' w' t', Step P C N m h w m' h' w' ∧ ERel m' e' t' ∧ t'.size = t.size ∧
      Steps P (lone (Fm fn ro t (.inRegion ops (List.range' n l.length) :: k) ds) cs w) (lone (Fm fn ro t' (.inRegion ops [] :: k) ds) cs w')
  | [], n, e, e', h, h', m, w, t, _, _, _, hG, hR, he, _, _, hr, fn, ro, kk, ds, cs => by
    cases hr
    exact ⟨m, w, t, Step.refl N hR, he, rfl, Steps.refl _ _⟩
  | s :: r, n, e, e', h, h', m, w, t, hq, hi, hk, hG, hR, he, hnt, hN, hr, fn, ro, kk, ds, cs => by
    obtain ⟨rfl, hat, hchk, hq'⟩ := seqM_cons hq
    obtain ⟨gI, gG⟩ := hi s (List.mem_cons_self ..)
    obtain ⟨o, ho, hdst, _, hgm, _⟩ := insM_spec gI
    have hguard : ∀ q c, s.guard = some (q, c) → e.get q ≠ none := by
      intro q c hq
      unfold guardS at gG
      rw [ho] at gG
      dsimp only at gG
      unfold guardM at hgm
      rw [hq] at hgm
      split at hgm
      · next e0 e1 => cases e0
      · next s1 b1 j b2 e0 e1 =>
        cases e0
        rw [e1] at gG
        dsimp only at gG
        simp only [Bool.and_eq_true] at hgm
        have hgm2 := hgm.2
        split at hgm2
        · next oj hoj =>
          exact hk j oj _ (by simp [Nat.blt] at gG; omega) hoj (by simpa using hgm2)
        · cases hgm2
      · cases hgm
    have key : ∃ v h1, One call base s e h v h1 ∧ runOps call base r (layv e s.dst v) h1 = some (e', h') := by
      simp only [runOps] at hr
      revert hr
      cases hw : wanted e s.guard with
      | false => exact fun hr => ⟨.undef, h, .inl ⟨hw, rfl, rfl⟩, hr⟩
      | true =>
        dsimp only [cond_true]
        intro hr
        split at hr
        · next v h1 h1r =>
          rw [hchk] at hr
          exact ⟨v, h1, .inr ⟨hw, h1r⟩, hr⟩
        · cases hr
    obtain ⟨v, h1, hone, hr'⟩ := key
    obtain ⟨m1, w1, x, hs1, he1, _, hst⟩ := one_sound (base := base) hT hC hG hR he hN hnt gI hguard (fun k hk' => by rw [hat] at hk'; cases hk') hone fn ro (List.range' (s.ix + 1) r.length) kk ds cs
    obtain ⟨m2, w2, t2, q1, q2, q3, q4⟩ := seq_go hT hC r (s.ix + 1) _ e' h1 h' m1 w1 (putT t s.dst x) hq' (fun a ha => hi a (List.mem_cons_of_mem _ ha)) (fun i o' d hL hi' hd => by
        rw [get_layv]
        split
        · simp
        · next hne' =>
          by_cases h9 : i < s.ix
          · exact hk i o' d h9 hi' hd
          · have : i = s.ix := by omega
            subst this
            rw [ho] at hi'; cases hi'
            rw [← hdst] at hd
            exact absurd hd hne') (hG.mono hs1.mono) hs1.rel he1 (by rw [putT_size]; exact hnt) (Nat.le_trans hN hs1.nx) hr' fn ro kk ds cs
    refine ⟨m2, w2, t2, hs1.trans q1, q2, q3.trans (putT_size ..), ?_⟩
    rw [List.length_cons, List.range'_succ]
    exact hst.trans q4

theorem HRel.keep {m : Mp} {h : H} {w w' : World} (hR : HRel P C m h w) (hw : w'.heap = w.heap) (n : Nat) : HRel P C m (h.reserve n) w' :=
  ⟨fun b o hb => by rw [hw]; exact hR.obj b o hb, fun b b' o o' l l' hb hb' => hR.inj b b' o o' l l' hb hb', fun b l hb => by have := hR.dom b l hb; simp; omega⟩

/-- The region's drawing, and the blocks kept ready. -/
theorem Step.keep {N : Nat} {m : Mp} {h : H} {w w' : World} (hR : HRel P C m h w) (hw : w'.heap = w.heap) (h1 : w'.os = w.os) (h2 : w'.tape = w.tape) (h3 : w'.output = w.output) (n : Nat) : Step P C N m h w m (h.reserve n) w' :=
  ⟨Mono.refl _, fun _ _ e => e, hR.keep hw n, by simp, fun _ _ e => e, by rw [hw]; exact Nat.le_refl _, fun β _ hn => ⟨by rw [hw], hn⟩, fun β L hL => ⟨L, by rw [hw]; exact hL⟩, h1, h2, h3⟩

/-- A region. -/
theorem region_sound {call : Am.Call} (hT : TOk P C) (hC : CallOk P C call) (hF : CallF call) (hmix : P.follows .mixedOrders = true) {N : Nat} {m : Mp} {h h' : H} {w : World} {e e' : Env} {t : Array Value} {draw : Bool} {l : List Ins}
    (hM : regionM P C nt ops draw res l = true) (hG : GOk C m) (hR : HRel P C m h w) (he : ERel m e t) (hnt : nt ≤ t.size) (hN : N ≤ h.nx) (hr : runOps call h.nx l e (h.reserve res) = some (e', h')) (fn : FuncId) (id : Nat) :
    ∀ ro k ds cs, ∃ m' w' t', Step P C N m h w m' h' w' ∧ ERel m' e' t' ∧ t'.size = t.size ∧
      Steps P (lone (Fm fn ro t (.code (.region id ops draw) :: k) ds) cs w) (lone (Fm fn ro t' k ds) cs w') := by
  intro ro kk ds cs
  unfold regionM at hM
  simp only [Bool.and_eq_true, nbeq, decide_eq_true_eq, List.all_eq_true] at hM
  obtain ⟨⟨hI, hlen⟩, hM⟩ := hM
  cases draw with
  | false =>
    simp only [cond_false, Bool.and_eq_true, nbeq, decide_eq_true_eq, List.all_eq_true] at hM
    obtain ⟨⟨hS, rfl⟩, hGd⟩ := hM
    obtain ⟨m2, w2, t2, q1, q2, q3, q4⟩ := seq_go (N := N) hT hC l 0 e e' (h.reserve 0) h' m w t hS (fun s hs => ⟨hI s hs, hGd s hs⟩) (fun i o d hi => by omega) hG (hR.keep rfl 0) he hnt (by simpa using hN) hr fn ro kk ds cs
    refine ⟨m2, w2, t2, (Step.keep hR rfl rfl rfl rfl 0).trans q1, q2, q3, ?_⟩
    refine .head st_region ?_
    rw [← hlen, List.range_eq_range']
    exact q4.trans (.one st_region_end)
  | true =>
    simp only [cond_true, Bool.and_eq_true, List.all_eq_true] at hM
    obtain ⟨⟨⟨hO, hP⟩, hA⟩, hGd⟩ := hM
    obtain ⟨o1, o2, o3, o4⟩ := orderM_spec hO
    obtain ⟨p1, p2⟩ := pairsM_spec hP
    obtain ⟨a1, a2, a3⟩ := atsM_spec hA
    have hL : ∀ j, ¬ L (Array.replicate ops.size false) j := by
      intro j hj
      unfold L at hj
      rw [Array.getD_eq_getD_getElem?] at hj
      by_cases hlt : j < ops.size <;> simp [hlt] at hj
    have g : Good P C nt ops res (Array.replicate ops.size false) l := by
      refine ⟨by simp, fun i o _ hl => absurd hl (hL i), o1.mono fun j hj => by simp at hj, fun i hi => .inr ((o4 i hi).resolve_left (by simp)), fun s _ => hL _, p1, p2, o3, a3, fun s hs => ⟨hI s hs, hGd s hs, a1 s hs, fun k hk => (a2 s hs k hk).1⟩⟩
    have hw : ({ w with drawn := w.drawn + 1 } : World).heap = w.heap := rfl
    have hnone : ∀ b, h.nx ≤ b → m b = none ∧ h.get b = none := by
      intro b hb
      have hm : m b = none := by
        cases e0 : m b with
        | none => rfl
        | some l => have := hR.dom _ _ e0; omega
      refine ⟨hm, ?_⟩
      cases e0 : h.get b with
      | none => rfl
      | some o1 => obtain ⟨l, _, e1, _⟩ := hR.obj _ _ e0; rw [hm] at e1; cases e1
    obtain ⟨m2, w2, t2, q1, q2, q3, q4⟩ := draw_go (res := res) (base := h.nx) hT hC hF ops.size (w.tape w.drawn (.order fn id)) (Array.replicate ops.size false) l e e' e' (h.reserve res) h' h' m { w with drawn := w.drawn + 1 } t hlen g
      (fun s hs k hk => by rw [H.get_reserve]; exact hnone _ (Nat.le_add_right _ _)) (fun i o d hl => absurd hl (hL i)) hG (hR.keep hw res) he hnt (by simp) hr (fun _ => rfl) (Ext.refl h') fn ro kk ds cs
    refine ⟨m2, w2, t2, (Step.keep hR hw rfl rfl rfl res).trans (q1.weaken hN), q2, q3, ?_⟩
    refine .head st_region_draw ?_
    have hsch : Region.schedule (P.follows .mixedOrders) ops (w.tape w.drawn (.order fn id)) = Region.linearise.go .any ops ops.size (w.tape w.drawn (.order fn id)) (Array.replicate ops.size false) [] := by
      rw [hmix]; simp [Region.schedule, Region.linearise]
    rw [hsch]
    exact q4.trans (.one st_region_end)

end
end Am
