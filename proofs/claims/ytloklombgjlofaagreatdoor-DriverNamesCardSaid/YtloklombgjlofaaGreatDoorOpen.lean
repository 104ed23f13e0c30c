/- What is handed in, as the abstract machine's memory; the row's end where arguments were handed in. -/
import Derived.Test.YtloklombgjlofaaGreatDoorWrap
import Derived.Test.YtloklombgjlofaaGreatDoorStep
namespace Am
open Go Go.ChangeShapes Go.WideShapes Go.ChangeAt Go.RowKit

/-- The cells of a list of pairs of numbers. -/
def prs : List (Int × Int) → List V
  | [] => []
  | p :: r => .i p.1 :: .i p.2 :: prs r
theorem prs_length : ∀ l, (prs l).length = l.length * 2
  | [] => rfl
  | p :: r => by simp [prs, prs_length r]; omega
theorem prs_fst : ∀ {l : List (Int × Int)} {i : Nat} {p : Int × Int} {o : Nat}, l[i]? = some p → o = i * 2 → (prs l)[o]? = some (.i p.1)
  | [], _, _, _, h, _ => by simp at h
  | q :: r, 0, p, o, h, e => by simp at h e; subst h e; rfl
  | q :: r, i + 1, p, o, h, e => by
    subst e
    simp only [List.getElem?_cons_succ] at h
    rw [show (i + 1) * 2 = i * 2 + 1 + 1 by omega]
    simp only [prs, List.getElem?_cons_succ]
    exact prs_fst h rfl
theorem prs_snd : ∀ {l : List (Int × Int)} {i : Nat} {p : Int × Int} {o : Nat}, l[i]? = some p → o = i * 2 + 1 → (prs l)[o]? = some (.i p.2)
  | [], _, _, _, h, _ => by simp at h
  | q :: r, 0, p, o, h, e => by simp at h e; subst h e; rfl
  | q :: r, i + 1, p, o, h, e => by
    subst e
    simp only [List.getElem?_cons_succ] at h
    rw [show (i + 1) * 2 + 1 = i * 2 + 1 + 1 + 1 by omega]
    simp only [prs, List.getElem?_cons_succ]
    exact prs_snd h rfl

theorem list_of {α : Type} {R : Nat → α → Prop} : ∀ n, (∀ i, i < n → ∃ x, R i x) → ∃ l : List α, l.length = n ∧ ∀ i x, l[i]? = some x → R i x
  | 0, _ => ⟨[], rfl, fun i x h => by simp at h⟩
  | n + 1, h => by
    obtain ⟨l, h1, h2⟩ := list_of n fun i hi => h i (by omega)
    obtain ⟨x, hx⟩ := h n (by omega)
    refine ⟨l ++ [x], by simp [h1], fun i y hy => ?_⟩
    rw [List.getElem?_append] at hy
    split at hy
    · exact h2 i y hy
    · next hlt =>
      have : i = n := by
        rcases Nat.lt_or_ge (i - l.length) 1 with h3 | h3
        · omega
        · rw [List.getElem?_eq_none (by simpa using h3)] at hy; cases hy
      subst this
      rw [h1] at hy; simp at hy; subst hy; exact hx

section
variable {D : Type} {enc : TypeId × Value → D} {P : Program} {C : Cx} {W : World} {t e : TypeId} {f0 f1 : Field}

/-- A slice of pairs of numbers, handed in. -/
theorem open_pairs {base : Nat} {v : Value} {d : DataW D} {p : List MemPlace} (ht : P.underlying t = some (.slice e)) (he : P.underlying e = some (.struct #[f0, f1])) (o0 : f0.offset = 0) (o1 : f1.offset = 1)
    (h0 : P.underlying f0.type = some (.int .i64)) (h1 : P.underlying f1.type = some (.int .i64)) (c0 : P.cellsOf f0.type = 1) (c1 : P.cellsOf f1.type = 1) (ce : P.cellsOf e = 2)
    (hval : Value.okWide P W .any base t v) (hd : DataW.Trod enc P W 0 (fun _ => true) true t v d p) :
    ∃ (l : List (Int × Int)) (a : Option (Nat × Nat)) (c : Nat) (m : Mp) (h : Am.H), h.nx = 1 ∧ (∀ j, 1 ≤ j → h.get j = none) ∧ (l ≠ [] → a = some (0, 0) ∧ h.get 0 = some (.cells (prs l) true)) ∧
      HRel P C m h W ∧ (∀ β, ¬ Owned m h β) ∧ VRel m (.slice a l.length (.fix c)) v := by
  obtain ⟨fuel, hf⟩ := hd
  have hcells : v.cells.toList = [v] := by
    obtain ⟨a, len, cap, rfl⟩ := okWide_slice ht hval
    rfl
  rw [hcells] at hf
  rcases DataW.trod_slice ht hf with ⟨hv, _⟩ | ⟨a, len, cap, elems, rest, n, _, hv, _, hb, hl, hm, hlen, hel, hsp, _⟩
  · cases hv
    refine ⟨[], none, 0, fun _ => none, ⟨1, .lf⟩, rfl, fun j _ => rfl, fun hn => absurd rfl hn, ⟨fun b o hb => (by cases hb), fun b b' o o' l l' hb => (by cases hb), fun b l hb => (by cases hb)⟩, ?_, rfl, rfl, rfl⟩
    rintro β ⟨b, o, l, hb, _⟩; cases hb
  · cases hv
    obtain ⟨hrl, hr⟩ := hsp rfl
    have hok : Cell.ok P W .any base t (.slice (some a) len cap) := by
      simpa only [Value.okWide, ht, Cell.okWide] using hval
    simp only [Cell.ok, ht] at hok
    obtain ⟨_, _, _, hspot, row, cells, hshape, _⟩ := hok
    obtain ⟨blk, off, spot⟩ := a
    simp only at hspot hshape
    subst hspot
    -- the block
    obtain ⟨cs, el, fr, hheap⟩ : ∃ cs el fr, W.heap[blk]? = some (.cells cs el fr) := by
      unfold World.shape? at hshape
      split at hshape
      · next c elem fr hh => exact ⟨_, _, _, hh⟩
      · cases hshape
    have hcell : ∀ k, W.cell? ⟨blk, k, none⟩ = cs[k]? := fun k => by simp [World.cell?, hheap]
    have rows : ∀ i, i < cap → ∃ q : Int × Int, cs[off + i * 2]? = some (.int .i64 q.1) ∧ cs[off + i * 2 + 1]? = some (.int .i64 q.2) := by
      intro i hi
      have hx : ∃ y, (W.cells? 0 (Addr.add ⟨blk, off, none⟩ (i * P.cellsOf e)) (P.cellsOf e)).bind (DataW.trod enc P W 0 (fun _ => true) true n e) = some y := by
        by_cases hil : i < len
        · rw [hel i hil]
          exact ⟨_, List.getElem?_eq_getElem (by omega)⟩
        · have := hr (i - len) (by omega)
          rw [show len + (i - len) = i by omega] at this
          rw [this]
          exact ⟨_, List.getElem?_eq_getElem (by omega)⟩
      obtain ⟨y, hy⟩ := hx
      rw [Option.bind_eq_some_iff] at hy
      obtain ⟨xs, hxs, hy⟩ := hy
      obtain ⟨_, hxl, hxc⟩ := World.cells?_some hxs
      obtain ⟨y0, y1, n', _, _, g0, g1⟩ := trod_struct2 he hy
      obtain ⟨a0, e0, _, _⟩ := DataW.trod_int h0 g0
      obtain ⟨a1, e1, _, _⟩ := DataW.trod_int h1 g1
      rw [o0, c0] at e0
      rw [o1, c1] at e1
      rw [ce] at hxl hxc
      match xs, hxl with
      | [x0, x1], _ =>
        simp at e0 e1
        subst e0 e1
        refine ⟨(a0, a1), ?_, ?_⟩
        · have := hxc 0 (by omega)
          rw [add_addr, add_addr, hcell] at this
          simpa using this
        · have := hxc 1 (by omega)
          rw [add_addr, add_addr, hcell] at this
          simpa [Nat.add_assoc] using this
    obtain ⟨l, hll, hlr⟩ := list_of (R := fun i (q : Int × Int) => cs[off + i * 2]? = some (.int .i64 q.1) ∧ cs[off + i * 2 + 1]? = some (.int .i64 q.2)) len fun i hi => rows i (by omega)
    have hlt : blk < W.heap.size := by
      rcases Nat.lt_or_ge blk W.heap.size with h | h
      · exact h
      · rw [Array.getElem?_eq_none h] at hheap; cases hheap
    let d0 : Nat := if cap = 0 then 0 else off
    have hsz : d0 + len * 2 ≤ cs.size := by
      by_cases hc0 : cap = 0
      · simp [d0, hc0]; omega
      · obtain ⟨q, _, hq⟩ := rows (cap - 1) (by omega)
        have : off + (cap - 1) * 2 + 1 < cs.size := by
          rcases Nat.lt_or_ge (off + (cap - 1) * 2 + 1) cs.size with h | h
          · exact h
          · rw [Array.getElem?_eq_none h] at hq; cases hq
        simp only [d0, if_neg hc0]; omega
    let m : Mp := fun b => if b = 0 then some ⟨blk, d0, len * 2⟩ else none
    have hg0 : ((⟨0, .lf⟩ : Am.H).new (.cells (prs l) true)).get 0 = some (.cells (prs l) true) := get_new_self (h := ⟨0, .lf⟩) _
    have hgj : ∀ j, 1 ≤ j → ((⟨0, .lf⟩ : Am.H).new (.cells (prs l) true)).get j = none := fun j hj => by
      rw [H.get_new, if_neg (by simp; omega)]; rfl
    have honly : ∀ b o, ((⟨0, .lf⟩ : Am.H).new (.cells (prs l) true)).get b = some o → b = 0 ∧ o = .cells (prs l) true := fun b o hb => by
      by_cases e : b = 0
      · subst e; rw [hg0] at hb; cases hb; exact ⟨rfl, rfl⟩
      · rw [hgj b (by omega)] at hb; cases hb
    refine ⟨l, some (0, 0), cap, m, (⟨0, .lf⟩ : Am.H).new (.cells (prs l) true), rfl, hgj, fun _ => ⟨rfl, hg0⟩, ⟨?_, ?_, ?_⟩, ?_, ?_⟩
    · intro b o hb
      obtain ⟨rfl, rfl⟩ := honly b o hb
      obtain ⟨lo, hi⟩ := fr
      refine ⟨⟨blk, d0, len * 2⟩, _, rfl, hheap, cs, el, lo, hi, rfl, by rw [prs_length, hll]; exact Nat.le_refl _, hsz, ?_, fun h => by cases h⟩
      intro k x hk
      have hkl : k < len * 2 := by
        rcases Nat.lt_or_ge k (prs l).length with h | h
        · rw [prs_length, hll] at h; exact h
        · rw [List.getElem?_eq_none h] at hk; cases hk
      have hcap : cap ≠ 0 := by omega
      have hd0 : d0 = off := by simp only [d0, if_neg hcap]
      simp only [hd0]
      have hq : ∃ q, l[k / 2]? = some q := ⟨_, List.getElem?_eq_getElem (by omega)⟩
      obtain ⟨q, hq⟩ := hq
      obtain ⟨r0, r1⟩ := hlr _ _ hq
      by_cases hpar : k % 2 = 0
      · rw [prs_fst hq (by omega)] at hk
        cases hk
        exact ⟨_, by rw [show off + k = off + k / 2 * 2 by omega]; exact r0, rfl⟩
      · rw [prs_snd hq (by omega)] at hk
        cases hk
        exact ⟨_, by rw [show off + k = off + k / 2 * 2 + 1 by omega]; exact r1, rfl⟩
    · intro b b' o o' l1 l2 hb hb' hne
      obtain ⟨rfl, _⟩ := honly b o hb
      obtain ⟨rfl, _⟩ := honly b' o' hb'
      exact absurd rfl hne
    · intro b l1 hb
      simp only [m] at hb
      split at hb
      · next e => cases hb; subst e; simp
      · cases hb
    · rintro β ⟨b, o, l1, hb, hro, _⟩
      obtain ⟨_, rfl⟩ := honly b o hb
      cases hro
    · refine ⟨⟨blk, d0, len * 2⟩, ⟨blk, off, none⟩, cap, rfl, by rw [hll], by omega, fun hc => ?_, fun k hk => by cases hk; rfl, fun q hq => by cases hq⟩
      simp only [d0, if_neg hc]; rfl
end

section
variable {P : Program} {C : Cx} {W W' : World} {m m' : Mp} {h h' : H} {N : Nat}
theorem below_of (s : Step P C N m h W m' h' W') (hno : ∀ β, ¬ Owned m h β) : Below W.heap.size W W' :=
  ⟨s.os, s.tape, s.output, s.size, fun k hk => (s.frame k hk (hno k)).1⟩

/-- The row's end: a law over what was handed in, of which nothing is written. -/
theorem post1 {D : Type} {enc : TypeId × Value → D} {f : Func} {s : ChangeSpec} {apart handsOn : Bool} {args : Array Value} {v : Value} {ds gs : List (DataW D)} {before pa pv : List MemPlace} (st : Step P C N m h W m' h' W') (hno : ∀ β, ¬ Owned m h β)
    (hW : DataW.Whole enc P f.params.toList s.vars apart W args.toList ds gs before)
    (hres : ∀ (b : Nat) (sp : Nat → Bool) (hd : Bool), DataW.TrodAll enc P W' b sp hd f.resultTypes.toList (v.resultList f.resultTypes.size) (s.fn D (ds ++ gs)).results [])
    (hargs : DataW.TrodAll enc P W' 0 (fun b => decide (b < W.heap.size)) true f.params.toList args.toList (s.fn D (ds ++ gs)).args pa)
    (hvars : DataW.TrodVars enc P W' (fun b => decide (b < W.heap.size)) s.vars (s.fn D (ds ++ gs)).vars pv) :
    s.post enc P f apart true handsOn false W args v W' :=
  ⟨ds, gs, before, [], pa, pv, hW, hres _ _ _, hargs, hvars, (below_of st hno).frame _, fun x => by cases x⟩
end
end Am
