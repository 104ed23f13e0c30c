/- append, copy. -/
import Derived.Test.YtloklombgjlofaaGreatDoorEff
namespace Am
open Go

section
variable {P : Program} {C : Cx} {N : Nat} {m : Mp} {h h' : H} {w : World} {e : Env} {t : Array Value} {o : Oper} {v : V} {call : Am.Call}

theorem lenOf_run {x : V} {y : Value} {n : Nat} (hx : VRel m x y) (hn : lenOf x = some n) : (Builtin.lenOf y).run P w = .ok n w := by
  cases x with
  | slice a k c =>
    simp [lenOf] at hn; subst hn
    cases a with
    | none => obtain ⟨rfl, _, rfl⟩ := hx; rfl
    | some a => obtain ⟨_, _, _, _, rfl, _⟩ := hx; rfl
  | str s =>
    simp [lenOf] at hn; subst hn
    rw [show y = _ from hx]
    simp [Builtin.lenOf, ByteArray.size]
  | _ => simp [lenOf] at hn

theorem bytes_cells (s : List UInt8) (n : Nat) : VRels m ((s.take n).map byteV) (((ByteArray.mk ⟨s⟩).extract 0 n).data.map fun b => Value.int .u8 b.toNat).toList := by
  have : ((ByteArray.mk ⟨s⟩).extract 0 n).data.toList = s.take n := by simp [ByteArray.data_extract]
  rw [Array.toList_map, this]
  generalize s.take n = l
  induction l with
  | nil => rfl
  | cons b l ih => exact ⟨_, _, rfl, rfl, ih⟩

/-- The cells that are appended, or copied. -/
theorem srcCells_run (hr : HRel P C m h w) {sz n k : Nat} {x : V} {y : Value} {l : List V} (hx : VRel m x y) (hl : srcCells h sz n x = some l) (hk : lenOf x = some k) (hn : n ≤ k) :
    ∃ xs : Array Value, (Builtin.firstCells sz n y).run P w = .ok xs w ∧ VRels m l xs.toList := by
  unfold srcCells at hl
  split at hl
  · cases hl
    obtain ⟨_, _, rfl⟩ := hx
    exact ⟨#[], rfl, rfl⟩
  · next b off len cp =>
    obtain ⟨loc, o', c', h1, rfl, h2, h3, _⟩ := hx
    simp [lenOf] at hk; subst hk
    simp only [cond_eq_ite, beq_iff_eq] at hl
    split at hl
    · next h0 =>
      cases hl
      refine ⟨#[], ?_, rfl⟩
      simp [Builtin.firstCells, h0, loadCells, loadCellsFrom]
    · next h0 =>
      have hc : c' ≠ 0 := by
        intro hc; subst hc
        have : n = 0 := by omega
        subst this; simp at h0
      have ho' := h3 hc
      obtain ⟨xs, h5, h6⟩ := load_run hr hl h1
      exact ⟨xs, by simp only [Builtin.firstCells, ho', h5], h6⟩
  · next s =>
    simp only [cond_eq_ite, beq_iff_eq] at hl
    split at hl
    · next h1 =>
      cases hl
      rw [show y = _ from hx]
      exact ⟨_, rfl, bytes_cells s n⟩
    · cases hl
  · cases hl

theorem elemOfM_und (hT : TOk P C) {ts : Array TypeId} {f : TypeId → Bool} (h : elemOfM C ts f = true) : ∃ ty el, ts[0]? = some ty ∧ f el = true ∧ P.underlying ty = some (.slice el) := by
  unfold elemOfM at h
  split at h
  · next ty hty =>
    obtain ⟨u, dd, h1, h2, h3⟩ := isU_und hT h
    cases u <;> simp at h1
    cases dd <;> simp [udMatch] at h3
    subst h3
    exact ⟨ty, _, hty, h1, h2⟩
  · cases h

theorem notInt_facts (hT : TOk P C) {ts : Array TypeId} (h : notIntT C ts = true) : ts[1]? = none ∨ ∃ ty d, ts[1]? = some ty ∧ P.underlying ty = some d ∧ (match d with | .int _ => true | _ => false) = false := by
  unfold notIntT at h
  split at h
  · next ty hty =>
    obtain ⟨u, dd, h1, h2, h3⟩ := isU_und hT h
    refine .inr ⟨ty, dd, hty, h2, ?_⟩
    cases u <;> cases dd <;> simp_all [udMatch]
  · next hty => exact .inl hty

theorem zsizeM_run (hT : TOk P C) {el : TypeId} {sz : Nat} (h : zsizeM C el sz = true) : ∃ zv, (∀ w, (zeroValue el).run P w = .ok zv w) ∧ zv.cells.size = sz := by
  unfold zsizeM at h
  split at h
  · next i hi =>
    split at h
    · next y hy =>
      obtain ⟨info, d, F⟩ := hT.facts hi
      obtain ⟨zv, g1, g2, g3⟩ := F.zero y hy
      refine ⟨zv, fun w => by simp [zeroValue, typeInfo, F.hinfo, g1], ?_⟩
      have := (vMatch_rel (fun _ => none) g2).cells.length
      simp at this
      have := beq_iff.1 h
      omega
    · cases h
  · cases h

/-- What the model's append does where there is room. -/
theorem run_append_room {c : Go.Call} {ty el : TypeId} {sz : Nat} {base : Option Addr} {sl sc n : Nat} {y : Value} {xs : Array Value} (hT : TOk P C) (h0 : c.argTypes[0]? = some ty) (hu : P.underlying ty = some (.slice el))
    (hsz : sizeM C el sz = true) (hni : notIntT C c.argTypes = true) (a0 : (c.args.map (evT t))[0]? = some (.slice base sl sc)) (a1 : (c.args.map (evT t))[1]? = some y) (hlen : (Builtin.lenOf y).run P w = .ok n w)
    (hfc : (Builtin.firstCells sz n y).run P w = .ok xs w) (hfit : sl + n ≤ sc) {w' : World} (hst : (match base with
      | some a => storeCells (a.add (sl * sz)) xs.toList
      | none => pure () : Sem Unit).run P w = .ok () w') : (Builtin.append_ c.argTypes o.type (c.args.map (evT t))).run P w = .ok (.slice base (sl + n) sc) w' := by
  unfold Builtin.append_
  simp only [h0, a0, a1, Sem.run_bind, run_underlying hu, Result.andThen_ok, sizeM_run hT hsz]
  rcases notInt_facts hT hni with g1 | ⟨ty2, d, g1, g2, g3⟩
  · simp only [g1, Sem.run_bind, Sem.run_pure, Result.andThen_ok, Bool.false_eq_true, if_false, hlen, Bool.not_false, if_true, hfit, hfc]
    cases base with
    | none => simp only [Sem.run_pure] at hst; cases hst; rfl
    | some a => simp only at hst; simp only [Sem.run_bind, hst, Result.andThen_ok, Sem.run_pure]
  · cases d
    case int k => exact Bool.noConfusion g3
    all_goals
      simp only [g1, Sem.run_bind, run_underlying g2, Sem.run_pure, Result.andThen_ok, Bool.false_eq_true, if_false, hlen, Bool.not_false, if_true, hfit, hfc]
      cases base with
      | none => simp only [Sem.run_pure] at hst; cases hst; rfl
      | some a => simp only at hst; simp only [Sem.run_bind, hst, Result.andThen_ok, Sem.run_pure]

/-- .. and where there is none. -/
theorem run_append_grow {c : Go.Call} {ty el : TypeId} {sz bytes : Nat} {base : Option Addr} {sl sc n : Nat} {y : Value} {xs ol : Array Value} (hT : TOk P C) (h0 : c.argTypes[0]? = some ty) (hu : P.underlying ty = some (.slice el))
    (hsz : sizeM C el sz = true) (hby : bytesM C el bytes = true) (hb0 : bytes ≠ 0) (hzs : zsizeM C el sz = true) (hni : notIntT C c.argTypes = true)
    (a0 : (c.args.map (evT t))[0]? = some (.slice base sl sc)) (a1 : (c.args.map (evT t))[1]? = some y) (hlen : ∀ w, (Builtin.lenOf y).run P w = .ok n w)
    (hfc1 : (Builtin.firstCells sz n y).run P { w with drawn := w.drawn + 1 } = .ok xs { w with drawn := w.drawn + 1 })
    (hfo1 : (Builtin.firstCells sz sl (.slice base sl sc)).run P { w with drawn := w.drawn + 1 } = .ok ol { w with drawn := w.drawn + 1 }) (hfit : ¬ sl + n ≤ sc)
    (hbig : (sl + n) * bytes ≤ 2 ^ 46) (hbig2 : sl + n ≤ 2 ^ 46) (hol : ol.size = sl * sz) (hxs : xs.size = n * sz) :
    ∃ cap w' rest, (Builtin.append_ c.argTypes o.type (c.args.map (evT t))).run P w = .ok (.slice (some ⟨w.heap.size, 0, none⟩) (sl + n) cap) w' ∧ sl + n ≤ cap ∧ w'.heap = w.heap.push (.cells (ol ++ xs ++ rest) el (0, 0)) ∧ WSame w w' ∧
      (ol ++ xs ++ rest).size = cap * sz := by
  obtain ⟨info, hi1, hi2⟩ := bytesM_info hT hby
  obtain ⟨zv, hz1, hz2⟩ := zsizeM_run hT hzs
  let q : Question := .appendCap (sl + n) sc el
  let cap := q.cut (w.tape w.drawn q)
  have hcap : sl + n ≤ cap := by show sl + n ≤ sl + n + _; omega
  let rest := Builtin.zeroCells zv.cells (cap - (sl + n))
  let w1 : World := { w with drawn := w.drawn + 1 }
  refine ⟨cap, { w1 with heap := w.heap.push (.cells (ol ++ xs ++ rest) el (0, 0)) }, rest, ?_, hcap, rfl, ⟨rfl, rfl, rfl⟩, ?_⟩
  · have hch : ∀ w : World, (choose (.appendCap (sl + n) sc el)).run P w = .ok ((Question.appendCap (sl + n) sc el).cut (w.tape w.drawn (.appendCap (sl + n) sc el))) { w with drawn := w.drawn + 1 } := by
      intro w; simp [Question.forced]
    have hti : ∀ w, (typeInfo el).run P w = .ok info w := fun w => by simp [typeInfo, hi1]
    have hg := growslice_fits (need := sl + n) (old := sc) (bytes := info.bytes) (by omega) (by rw [hi2]; omega)
    have hm : ¬ (((sl + n : Nat) : Int) > IntKind.i64.max) := by rw [IntKind.max_i64]; omega
    have hb0' : info.bytes ≠ 0 := by rw [hi2]; exact hb0
    have hg' : ¬ (Builtin.nextslicecap (sl + n) sc * info.bytes > 2 ^ 48) := by omega
    unfold Builtin.append_
    simp only [h0, a0, a1, Sem.run_bind, run_underlying hu, Result.andThen_ok, sizeM_run hT hsz]
    rcases notInt_facts hT hni with g1 | ⟨ty2, d, g1, g2, g3⟩
    · simp only [g1, Sem.run_bind, Sem.run_pure, Result.andThen_ok, Bool.false_eq_true, if_false, hlen, Bool.not_false, if_true, hfit, hti, false_or, hb0', and_false, hg', hch, run_askRoom]
      rw [hfo1]
      simp only [Result.andThen_ok]
      rw [hfc1]
      simp only [Result.andThen_ok, hz1, Go.newRow, Sem.run_bind, run_newObj, Sem.run_pure]
      rfl
    · cases d
      case int k => exact Bool.noConfusion g3
      all_goals
        simp only [g1, Sem.run_bind, run_underlying g2, Sem.run_pure, Result.andThen_ok, Bool.false_eq_true, if_false, hlen, Bool.not_false, if_true, hfit, hti, false_or, hb0', and_false, hg', hch, run_askRoom]
        rw [hfo1]
        simp only [Result.andThen_ok]
        rw [hfc1]
        simp only [Result.andThen_ok, hz1, Go.newRow, Sem.run_bind, run_newObj, Sem.run_pure]
        rfl
  · have : rest.size = (cap - (sl + n)) * sz := by show (Builtin.zeroCells _ _).size = _; rw [size_zeroCells, hz2]
    simp only [Array.size_append, hol, hxs, this]
    have : sl * sz + n * sz + (cap - (sl + n)) * sz = cap * sz := by
      rw [← Nat.add_mul, ← Nat.add_mul]; congr 1; omega
    exact this

/-- A block that goes on in an other one's place: the elder is given up, what it owned from place d on is the new one's. -/
theorem step_move {b id d : Nat} {l : List V} {ob : Obj} {loc : Loc} {co co' : Go.Obj} {h' : H} {w' : World} (hr : HRel P C m h w) (hb : h.get b = some (.cells l false)) (hl : m b = some loc) (hN : N ≤ id) (hid : m id = none) (hgid : h.get id = none)
    (hget : ∀ j, h'.get j = if j = id then some ob else if j = b then none else h.get j) (hnx : h.nx ≤ h'.nx) (hlt : id < h'.nx) (hsz : w'.heap.size = w.heap.size) (hco : w.heap[loc.β]? = some co) (hβ : w'.heap[loc.β]? = some co')
    (hoth : ∀ j, j ≠ loc.β → w'.heap[j]? = w.heap[j]?) (hs : WSame w w') (ho : ORel P C (m.add id ⟨loc.β, loc.d + d, loc.ext - d⟩) ⟨loc.β, loc.d + d, loc.ext - d⟩ ob co') (hnl : ∀ L : Loop, co ≠ .loop L) :
    Step P C N m h w (m.add id ⟨loc.β, loc.d + d, loc.ext - d⟩) h' w' := by
  have hm := Mp.add_mono (l := ⟨loc.β, loc.d + d, loc.ext - d⟩) hid
  have hbid : b ≠ id := by intro e; subst e; rw [hl] at hid; cases hid
  have hβlt := hr.lt hb hl
  refine ⟨hm, ?_, ⟨?_, ?_, ?_⟩, hnx, ?_, by rw [hsz]; exact Nat.le_refl _, ?_, ?_, hs.os, hs.tape, hs.output⟩
  · intro j hj e
    unfold Mp.add; rw [if_neg (by omega)]; exact e
  · intro j oj hj
    rw [hget] at hj
    split at hj
    · next e => cases hj; subst e; exact ⟨_, co', Mp.add_self _ _, hβ, ho⟩
    · split at hj
      · cases hj
      · next hne =>
        obtain ⟨lj, coj, h1, h2, h3⟩ := hr.obj j oj hj
        refine ⟨lj, coj, hm _ _ h1, ?_, h3.mono hm⟩
        rw [hoth]
        · exact h2
        · intro e2
          have := hr.inj j b oj _ lj loc hj hb hne h1 hl e2
          cases this.2
  · intro j k oj ok lj lk hj hk hne h1 h2 h3
    rw [hget] at hj hk
    unfold Mp.add at h1 h2
    split at hj
    · next e =>
      rw [if_pos e] at h1; cases h1
      rw [if_neg (by omega)] at hk h2
      split at hk
      · cases hk
      · next hkb =>
        have := hr.inj b k _ ok loc lk hb hk (Ne.symm hkb) hl h2 h3
        cases this.1
    · next e =>
      rw [if_neg e] at h1
      split at hj
      · cases hj
      · next hjb =>
        split at hk
        · next e' =>
          rw [if_pos e'] at h2; cases h2
          have := hr.inj j b oj _ lj loc hj hb hjb h1 hl h3
          cases this.2
        · next e' =>
          rw [if_neg e'] at h2
          split at hk
          · cases hk
          · exact hr.inj j k oj ok lj lk hj hk hne h1 h2 h3
  · intro j lj hj
    unfold Mp.add at hj
    split at hj
    · next e => subst e; exact hlt
    · have := hr.dom j lj hj
      omega
  · intro j hj e
    rw [hget, if_neg (by omega)]; split
    · rfl
    · exact e
  · intro β hβ' hno
    have hne : β ≠ loc.β := fun e => hno ⟨b, _, loc, hb, rfl, hl, e.symm⟩
    refine ⟨hoth β hne, ?_⟩
    rintro ⟨j, oj, lj, h1, h2, h3, h4⟩
    rw [hget] at h1
    unfold Mp.add at h3
    split at h1
    · next e => rw [if_pos e] at h3; cases h3; exact hne h4.symm
    · next e =>
      rw [if_neg e] at h3
      split at h1
      · cases h1
      · exact hno ⟨j, oj, lj, h1, h2, h3, h4⟩
  · intro β L hL
    by_cases e : β = loc.β
    · subst e; rw [hco] at hL; cases hL; exact absurd rfl (hnl L)
    · exact ⟨L, by rw [hoth β e]; exact hL⟩

end
end Am
