/- Ranges over maps of at most one entry that is left, and over strings of small bytes. -/
import Derived.Test.YtloklombgjlofaaGreatDoorAppend2
namespace Am
open Go

section
variable {P : Program} {C : Cx} {N : Nat} {m : Mp} {h h' : H} {w : World} {e : Env} {t : Array Value} {o : Oper} {v : V} {call : Am.Call}

theorem run_getObj_iter {r : Nat} {mp : Option Nat} {a b : Nat} {s : Array Nat} (hb : w.heap[r]? = some (.mapIter mp a s b)) : (getObj r).run P w = .ok (.mapIter mp a s b) w := by
  simp [getObj, Sem.run, hb]
theorem run_getObj_siter {r : Nat} {s : ByteArray} {p : Nat} (hb : w.heap[r]? = some (.stringIter s p)) : (getObj r).run P w = .ok (.stringIter s p) w := by
  simp [getObj, Sem.run, hb]
theorem run_setObj_iter {r : Nat} {mp : Option Nat} {a b : Nat} {s : Array Nat} (hb : w.heap[r]? = some (.mapIter mp a s b)) (ob : Go.Obj) : (setObj r ob).run P w = .ok () { w with heap := w.heap.setIfInBounds r ob } := by
  simp [setObj, Sem.run, hb]
theorem run_setObj_siter {r : Nat} {s : ByteArray} {p : Nat} (hb : w.heap[r]? = some (.stringIter s p)) (ob : Go.Obj) : (setObj r ob).run P w = .ok () { w with heap := w.heap.setIfInBounds r ob } := by
  simp [setObj, Sem.run, hb]

/-- A block without cells that turns. -/
theorem obj_step (hr : HRel P C m h w) {b : Nat} {ob ob' : Obj} {co co' : Go.Obj} {l : Loc} (hg : h.get b = some ob) (hro : ob.ro = false) (hro' : ob'.ro = false) (hl : m b = some l) (hb : w.heap[l.β]? = some co)
    (hrel : ORel P C m l ob' co') (hnl : ∀ L, co ≠ .loop L) : Step P C N m h w m (h.set b ob') { w with heap := w.heap.setIfInBounds l.β co' } := by
  have hlt : l.β < w.heap.size := hr.lt hg hl
  refine step_set hr hg hro hro' hl hb (H.get_set h b · _) rfl (by simp) (by simp [hlt]) (fun j hj => ?_) ⟨rfl, rfl, rfl⟩ hrel (fun L hL => absurd hL (hnl L))
  simp only [Array.getElem?_setIfInBounds]
  rw [if_neg (fun e => hj e.symm)]

theorem eff_range (hT : TOk P C) (hG : GOk C m) (hr : HRel P C m h w) (he : ERel m e t) (hN : N ≤ h.nx) {str : Bool} {a : Opd} {a' : Operand} {ty : TypeId} (ho : o.op = .range ty a') (ha : opdM C a a' = true)
    (hu : isU C ty (fun | .str => str | .map .. => !str | _ => false) = true) (hv : I.eff call e h (.range str a) = some (v, h')) : Eff P C N m h w t o v h' := by
  obtain ⟨u, dd, h1, h2, h3⟩ := isU_und hT hu
  have hfut := hr.nofuture (Nat.le_refl h.nx)
  have fin : ∀ (ob : Obj) (co : Go.Obj), ORel P C (m.add h.nx ⟨w.heap.size, 0, 0⟩) ⟨w.heap.size, 0, 0⟩ ob co → (execOp (evT t) o).run P w = .ok (.value (.pointer (some ⟨w.heap.size, 0, none⟩))) { w with heap := w.heap.push co } →
      Eff P C N m h w t o (.ptr (some (h.nx, 0))) (h.new ob) := fun ob co q1 q2 =>
    ⟨_, { w with heap := w.heap.push co }, step_new hr hN hfut.1 hfut.2 (fun j => H.get_new h j _) (by simp) (by simp) rfl ⟨rfl, rfl, rfl⟩ q1, .inl ⟨_, q2, _, Mp.add_self _ _, rfl⟩⟩
  simp only [I.eff] at hv
  split at hv
  · next s g =>
    have e1 : evT t a' = .string ⟨⟨s⟩⟩ := opd_sound hG he ha g
    cases hv
    cases u <;> simp at h1
    cases dd <;> simp [udMatch] at h3
    exact fin _ _ ⟨rfl, rfl⟩ (by simp only [execOp, ho, Instr.range, Sem.run_bind, run_underlying h2, Result.andThen_ok, e1, Sem.run_pure, run_newObj])
  · next g =>
    have e1 : evT t a' = .map none := opd_sound hG he ha g
    cases hv
    cases u <;> simp at h1
    cases dd <;> simp [udMatch] at h3
    exact fin _ _ ⟨rfl, none, rfl, rfl⟩ (by simp only [execOp, ho, Instr.range, Sem.run_bind, run_underlying h2, Result.andThen_ok, e1, Sem.run_pure, run_newObj])
  · next r g =>
    obtain ⟨l, hl, e1⟩ := opd_sound (t := t) hG he ha g
    split at hv
    · next es c hm =>
      cases hv
      obtain ⟨hg, ces, h7, h8⟩ := map_obj hr hm hl
      cases u <;> simp at h1
      cases dd <;> simp [udMatch] at h3
      exact fin _ _ ⟨rfl, some l.β, rfl, l, Mp.add_mono hfut.1 _ _ hl, rfl⟩ (by simp only [execOp, ho, Instr.range, Sem.run_bind, run_underlying h2, Result.andThen_ok, e1, run_getObj_map h7, Sem.run_pure, run_newObj])
    · cases hv
  · cases hv

theorem entriesRel.filter {p : V × V × Nat → Bool} {q : MapEntry → Bool} (hpq : ∀ a c, c.born = a.2.2 → p a = q c) : ∀ {es : List (V × V × Nat)} {ces : List MapEntry}, entriesRel m es ces → entriesRel m (es.filter p) (ces.filter q)
  | [], _, h => by rw [show _ = [] from h]; exact rfl
  | (k, v, b) :: es, _, ⟨c0, s, e, h1, h2, h3, h4⟩ => by
    subst e
    rw [List.filter_cons, List.filter_cons, ← hpq (k, v, b) c0 h3]
    split
    · exact ⟨c0, _, rfl, h1, h2, h3, entriesRel.filter hpq h4⟩
    · exact entriesRel.filter hpq h4

theorem entriesRel.all {p : V × V × Nat → Bool} {q : MapEntry → Bool} (hpq : ∀ a c, c.born = a.2.2 → p a = q c) : ∀ {es : List (V × V × Nat)} {ces : List MapEntry}, entriesRel m es ces → es.all p = ces.all q
  | [], _, h => by rw [show _ = [] from h]; rfl
  | (k, v, b) :: es, _, ⟨c0, s, e, h1, h2, h3, h4⟩ => by
    subst e
    rw [List.all_cons, List.all_cons, ← hpq (k, v, b) c0 h3, entriesRel.all hpq h4]

theorem entriesRel.find {p : V × V × Nat → Bool} {q : MapEntry → Bool} (hpq : ∀ a c, c.born = a.2.2 → p a = q c) : ∀ {es : List (V × V × Nat)} {ces : List MapEntry}, entriesRel m es ces → ∀ {k v : V} {b : Nat}, es.find? p = some (k, v, b) → ∃ c, ces.find? q = some c ∧ VRel m k c.key ∧ VRel m v c.val
  | [], _, h, _, _, _, e => by cases e
  | (k, v, b) :: es, _, ⟨c0, s, e, h1, h2, h3, h4⟩, k', v', b', e' => by
    subst e
    rw [List.find?_cons] at e' ⊢
    rw [← hpq (k, v, b) c0 h3]
    split at e'
    · cases e'; exact ⟨c0, rfl, h1, h2⟩
    · exact entriesRel.find hpq h4 e'

theorem entriesRel.empty {es : List (V × V × Nat)} {ces : List MapEntry} (h : entriesRel m es ces) : es.isEmpty = ces.isEmpty := by
  cases es with
  | nil => rw [show _ = [] from h]; rfl
  | cons a r => obtain ⟨k, v, b⟩ := a; obtain ⟨c0, s, e, _⟩ := h; subst e; rfl

theorem ble_dec (a b : Nat) : Nat.ble a b = decide (b ≥ a) := by
  by_cases h : a ≤ b
  · rw [Nat.ble_eq_true_of_le h, decide_eq_true h]
  · have : Nat.ble a b = false := by
      cases e : Nat.ble a b
      · rfl
      · exact absurd (Nat.le_of_ble_eq_true e) h
    rw [this, decide_eq_false h]

theorem any_contains (seen : List Nat) (n : Nat) : (seen.any fun b => Nat.beq b n) = seen.toArray.contains n := by
  simp only [List.contains_toArray]
  induction seen with
  | nil => rfl
  | cons a r ih =>
    rw [List.any_cons, List.contains_cons, ih]
    congr 1
    rw [nbeq]
    by_cases h : a = n
    · subst h; simp
    · simp [h, Ne.symm h]

theorem allNew_eq {seen : List Nat} {last : Nat} {es : List (V × V × Nat)} {ces : Array MapEntry} (h : entriesRel m es ces.toList) :
    allNew seen last es = (!seen.toArray.isEmpty && !ces.isEmpty && ces.all fun x => decide (x.born ≥ last)) := by
  unfold allNew
  rw [h.empty, h.all (q := fun x => decide (x.born ≥ last)) fun a c hc => by rw [hc]; exact ble_dec _ _]
  simp

theorem decode_small {s : List UInt8} {pos : Nat} {c : UInt8} (hc : s[pos]? = some c) (hs : c.toNat < 128) : Utf8.decode ⟨⟨s⟩⟩ pos = (c.toNat, 1) := by
  have h0 : (ByteArray.get! ⟨⟨s⟩⟩ (pos + 0)).toNat = c.toNat := by
    show ((⟨s⟩ : Array UInt8)[pos + 0]!).toNat = _
    rw [Nat.add_zero, List.getElem!_toArray, List.getElem!_eq_getElem?_getD, hc]
    rfl
  unfold Utf8.decode
  simp only [h0]
  rw [if_pos hs]

theorem eff_next (hG : GOk C m) (hr : HRel P C m h w) (he : ERel m e t) {str : Bool} {a : Opd} {a' : Operand} (ho : o.op = .next a' str) (ha : opdM C a a' = true)
    (hv : I.eff call e h (.next str a) = some (v, h')) : Eff P C N m h w t o v h' := by
  simp only [I.eff] at hv
  split at hv
  · next b g =>
    obtain ⟨l, hl, e1⟩ := opd_sound (t := t) hG he ha g
    split at hv
    · next s pos hg =>
      obtain ⟨l', co, q1, q2, q3, rfl⟩ := hr.obj b _ hg
      dsimp only at hl
      rw [hl] at q1; cases q1
      rw [q3] at e1
      split at hv
      · next hp =>
        cases hv
        have hlt : ¬ pos < (ByteArray.mk ⟨s⟩).size := by
          have : s.length ≤ pos := by simpa using hp
          show ¬ pos < s.length; omega
        refine ⟨m, w, Step.refl N hr, .inl ⟨.tuple #[.bool false], ?_, _, rfl, _, _, rfl, rfl, rfl⟩⟩
        simp only [execOp, ho, Instr.next, Sem.run_bind, e1, run_getObj_siter q2, Result.andThen_ok, if_neg hlt, Sem.run_pure]
      · next c hp =>
        simp only [cond_eq_ite, Nat.blt_eq] at hv
        split at hv
        · next hs =>
          cases hv
          have hlt : pos < (ByteArray.mk ⟨s⟩).size := by
            show pos < s.length
            rcases Nat.lt_or_ge pos s.length with h | h
            · exact h
            · rw [List.getElem?_eq_none h] at hp; cases hp
          refine ⟨m, _, obj_step hr hg rfl rfl hl q2 ⟨q3, rfl⟩ (fun L hL => by cases hL), .inl ⟨.tuple #[.bool true, goInt pos, .int .i32 c.toNat], ?_, _, rfl, _, _, rfl, rfl, _, _, rfl, rfl, _, _, rfl, rfl, rfl⟩⟩
          simp only [execOp, ho, Instr.next, Sem.run_bind, e1, run_getObj_siter q2, Result.andThen_ok, if_pos hlt, decode_small hp hs, run_setObj_siter q2, Sem.run_pure]
        · cases hv
    · next since seen last hg =>
      obtain ⟨l', co, q1, q2, q3, mp', rfl, rfl⟩ := hr.obj b _ hg
      dsimp only at hl
      rw [hl] at q1; cases q1
      rw [q3] at e1
      cases hv
      refine ⟨m, w, Step.refl N hr, .inl ⟨.tuple #[.bool false], ?_, _, rfl, _, _, rfl, rfl, rfl⟩⟩
      simp only [execOp, ho, Instr.next, Sem.run_bind, e1, run_getObj_iter q2, Result.andThen_ok, Sem.run_pure]
    · next r since seen last hg =>
      obtain ⟨l', co, q1, q2, q3, mp', rfl, lm, hlm, rfl⟩ := hr.obj b _ hg
      dsimp only at hl
      rw [hl] at q1; cases q1
      rw [q3] at e1
      split at hv
      · next es c hm =>
        obtain ⟨hgm, ces, h7, h8⟩ := map_obj hr hm hlm
        simp only [cond_eq_ite] at hv
        split at hv
        · cases hv
        next hnew =>
        have hnew' : (!seen.toArray.isEmpty && !ces.isEmpty && ces.all fun x => decide (x.born ≥ last)) = false := by
          rw [← allNew_eq h8]; simpa using hnew
        have hleft := h8.filter (p := fun e => !(seen.any fun b => Nat.beq b e.2.2)) (q := fun e => !seen.toArray.contains e.born) fun a c hc => by rw [hc, any_contains]
        have hlf : (ces.filter fun e => !seen.toArray.contains e.born).toList = ces.toList.filter fun e => !seen.toArray.contains e.born := by simp
        rw [← hlf] at hleft
        change entriesRel m (unseen seen es) _ at hleft
        generalize hL : (ces.filter fun e => !seen.toArray.contains e.born) = L at hleft
        split at hv
        · next h0 =>
          cases hv
          rw [h0] at hleft
          have hLe : L = #[] := by simpa using (show L.toList = [] from hleft)
          subst hLe
          refine ⟨m, w, Step.refl N hr, .inl ⟨.tuple #[.bool false], ?_, _, rfl, _, _, rfl, rfl, rfl⟩⟩
          simp only [execOp, ho, Instr.next, Sem.run_bind, e1, run_getObj_iter q2, run_getObj_map h7, Result.andThen_ok, Sem.run_pure, hnew', Bool.false_eq_true, if_false, hL]
          simp [Question.forced]
        · next k u born h0 =>
          simp only [cond_eq_ite, Nat.blt_eq] at hv
          split at hv
          · next hs =>
            cases hv
            rw [h0] at hleft
            obtain ⟨ce, rest, hL1, r1, r2, r3, r4⟩ := hleft
            have r4' : rest = [] := r4
            subst r4'
            have hLe : L = #[ce] := by
              apply Array.toList_inj.1; rw [hL1]
            subst hLe
            have hb : ce.born < since := by rw [r3]; exact hs
            have f1 : (#[ce] : Array MapEntry).filter (fun x => decide (x.born < since)) = #[ce] := by
              apply Array.toList_inj.1; simp [hb]
            have f2 : (#[ce] : Array MapEntry).filter (fun x => decide (x.born ≥ since)) = #[] := by
              apply Array.toList_inj.1; simp [hb]
            subst r3
            refine ⟨m, _, obj_step hr hg rfl rfl hl q2 ⟨q3, some lm.β, rfl, lm, hlm, rfl⟩ (fun L hL => by cases hL), .inl ⟨.tuple #[.bool true, ce.key, ce.val], ?_, _, rfl, _, _, rfl, rfl, _, _, rfl, r1, _, _, rfl, r2, rfl⟩⟩
            simp only [execOp, ho, Instr.next, Sem.run_bind, e1, run_getObj_iter q2, run_getObj_map h7, Result.andThen_ok, Sem.run_pure, hnew', Bool.false_eq_true, if_false, hL, f1, f2]
            simp [Question.forced, run_setObj_iter q2]
          · cases hv
        · cases hv
      · cases hv
    · cases hv
  · cases hv

theorem read_entry (hG : GOk C m) (hr : HRel P C m h w) (he : ERel m e t) {a : Opd} {a' : Operand} (ho : o.op = .entry a') (ha : opdM C a a' = true) (hv : I.read e h (.entry a) = some v) : Yields P m t o v w := by
  simp only [I.read] at hv
  split at hv
  · next b g =>
    obtain ⟨l, hl, e1⟩ := opd_sound (t := t) hG he ha g
    split at hv
    · next r since seen last hg =>
      obtain ⟨l', co, q1, q2, q3, mp', rfl, lm, hlm, rfl⟩ := hr.obj b _ hg
      dsimp only at hl
      rw [hl] at q1; cases q1
      rw [q3] at e1
      split at hv
      · next es c st hm hst =>
        obtain ⟨hgm, ces, h7, h8⟩ := map_obj hr hm hlm
        simp only [cond_eq_ite, beq_iff] at hv
        split at hv
        · next hc =>
          subst hc
          split at hv
          · next k u bo hf =>
            cases hv
            obtain ⟨ce, f1, f2, f3⟩ := h8.find (q := fun x => x.born == st) (fun a c hc => by rw [hc, nbeq]; rfl) hf
            have hbk : seen.toArray.back? = some st := by rw [List.back?_toArray]; exact hst
            have hf' : ces.find? (fun x => x.born == st) = some ce := by rw [← f1]; simp
            refine ⟨.tuple #[ce.key, ce.val], ?_, _, rfl, _, _, rfl, f2, _, _, rfl, f3, rfl⟩
            simp only [execOp, ho, Instr.entry, Sem.run_bind, e1, run_getObj_iter q2, run_getObj_map h7, Result.andThen_ok, Sem.run_pure, hbk, hf', bne_self_eq_false, Bool.false_eq_true, if_false]
          · cases hv
        · cases hv
      · cases hv
    · cases hv
  · cases hv

end
end Am
