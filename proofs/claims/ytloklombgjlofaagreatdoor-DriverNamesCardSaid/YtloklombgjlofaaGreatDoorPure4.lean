/- Built values; ==. -/
import Derived.Test.YtloklombgjlofaaGreatDoorPure3
import Derived.Laws.Cover3
namespace Am
open Go

section
variable {P : Program} {C : Cx} {m : Mp} {e : Env} {t : Array Value} {o : Oper} {v : V}

theorem setAll_length : ∀ (cs : List V) (vs : List V) (o : Nat), (setAll vs o cs).length = vs.length
  | [], _, _ => rfl
  | x :: r, vs, o => by simp [setAll, setAll_length r]

theorem VRels.set {l : List V} {xs : List Value} (h : VRels m l xs) {u : V} {z : Value} (hz : VRel m u z) (i : Nat) : VRels m (l.set i u) (xs.set i z) := by
  refine VRels.of_get (by simp [h.length]) fun k w hk => ?_
  rw [List.getElem?_set] at hk
  split at hk
  · next e =>
    subst e
    split at hk
    · next hl =>
      cases hk
      have : i < xs.length := by rw [← h.length]; exact hl
      exact ⟨z, by simp [this], hz⟩
    · cases hk
  · next hne =>
    obtain ⟨x, h1, h2⟩ := h.get hk
    exact ⟨x, by rw [List.getElem?_set_ne hne]; exact h1, h2⟩

/-- The model's way to lay cells, as a list. -/
def layL : List Value → Nat → List Value → List Value
  | xs, _, [] => xs
  | xs, o, z :: r => layL (xs.set o z) (o + 1) r

theorem foldl_lay : ∀ (zs : List Value) (xs : Array Value) (off j : Nat),
    ((zs.zipIdx j).foldl (fun cs (c : Value × Nat) => cs.setIfInBounds (off + c.2) c.1) xs).toList = layL xs.toList (off + j) zs
  | [], xs, off, j => by simp [layL]
  | z :: zs, xs, off, j => by
    simp only [List.zipIdx_cons, List.foldl_cons, layL]
    rw [foldl_lay zs _ off (j + 1)]
    simp [Nat.add_assoc]

theorem VRels.setAll : ∀ {cs : List V} {zs : List Value} {l : List V} {xs : List Value} (o : Nat), VRels m l xs → VRels m cs zs → VRels m (Am.setAll l o cs) (layL xs o zs)
  | [], _, _, _, _, h, hc => by rw [show _ = [] from hc]; exact h
  | c :: cs, _, l, xs, o, h, ⟨z, s, e, h2, h3⟩ => by
    subst e
    exact VRels.setAll (o + 1) (h.set h2 o) h3

/-- The parts, evaluated. -/
def PartsRel (m : Mp) : List (Nat × Nat × V) → List (Nat × Value) → (Nat → Option (Nat × Nat)) → Prop
  | [], [], _ => True
  | (off, n, u) :: r, (i, z) :: s, place => place i = some (off, n) ∧ VRel m u z ∧ PartsRel m r s place
  | _, _, _ => False

theorem fill_sound {place : Nat → Option (Nat × Nat)} : ∀ {ps : List (Nat × Nat × V)} {qs : List (Nat × Value)} {l l' : List V} {xs : Array Value}, PartsRel m ps qs place → VRels m l xs.toList → fillParts l ps = some l' →
    ∃ ys, Instr.fill place xs qs = some ys ∧ VRels m l' ys.toList
  | [], [], l, l', xs, _, h, hr => by
    simp [fillParts] at hr; subst hr
    exact ⟨xs, rfl, h⟩
  | [], _ :: _, _, _, _, hp, _, _ => hp.elim
  | _ :: _, [], _, _, _, hp, _, _ => hp.elim
  | (off, n, u) :: r, (i, z) :: s, l, l', xs, hp, h, hr => by
    obtain ⟨h1, h2, h3⟩ := hp
    simp only [fillParts, cond_eq_ite, Bool.and_eq_true, beq_iff_eq, Nat.ble_eq] at hr
    split at hr
    · next hc =>
      have hcells := h2.cells
      have hlen : z.cells.size = n := by
        have := hcells.length
        simp at this
        omega
      have hxs : xs.size = l.length := by simpa using h.length.symm
      have hcond : ¬ (z.cells.size ≠ n || off + z.cells.size > xs.size) = true := by
        simp; omega
      simp only [Instr.fill, h1]
      rw [if_neg hcond]
      refine fill_sound h3 ?_ hr
      have e1 := foldl_lay z.cells.toList xs off 0
      have e2 : (z.cells.zipIdx.foldl (fun cs (x : Value × Nat) => cs.setIfInBounds (off + x.2) x.1) xs).toList = layL xs.toList off z.cells.toList := by
        rw [← Array.foldl_toList, Array.toList_zipIdx]
        exact e1
      rw [show (z.cells.zipIdx.foldl (fun cs (x, j) => cs.setIfInBounds (off + j) x) xs).toList = layL xs.toList off z.cells.toList from e2]
      exact h.setAll off hcells
    · cases hr

theorem places_run (hT : TOk P C) (w : World) : ∀ (gs : List Field) (fs : List (Nat × TypeId)), fsMatch fs gs = true → fs.all (fun q => (C.T.at_ q.2).isSome) = true →
    ∃ ps : List (Nat × Nat), (gs.mapM (m := Sem) fun f => do pure (f.offset, ← Go.sizeOf f.type)).run P w = .ok ps w ∧
      ∀ (i : Nat) (q : Nat × TypeId), fs[i]? = some q → ∀ n, sizeM C q.2 n = true → ps[i]? = some (q.1, n)
  | [], [], _, _ => ⟨[], by simp, by simp⟩
  | [], _ :: _, h, _ => by simp [fsMatch] at h
  | _ :: _, [], h, _ => by simp [fsMatch] at h
  | f :: gs, (a, ty) :: fs, h, hk => by
    simp only [fsMatch, Bool.and_eq_true, nbeq, decide_eq_true_eq] at h
    simp only [List.all_cons, Bool.and_eq_true] at hk
    obtain ⟨ps, h1, h2⟩ := places_run hT w gs fs h.2 hk.2
    obtain ⟨j, hj⟩ := Option.isSome_iff_exists.1 hk.1
    have hs : sizeM C ty j.size = true := by unfold sizeM; rw [hj]; exact beqT _
    have hft : f.type = ty := h.1.1.2.symm
    have hfo : f.offset = a := h.1.1.1.symm
    refine ⟨(a, j.size) :: ps, ?_, ?_⟩
    · simp only [List.mapM_cons, Sem.run_bind, hft, sizeM_run hT hs, Result.andThen_ok, Sem.run_pure, h1, hfo]
    · intro i q hq n hn
      cases i with
      | zero =>
        simp at hq; subst hq
        unfold sizeM at hn; rw [hj] at hn
        simp [beq_iff.1 hn]
      | succ i => simpa using h2 i q (by simpa using hq) n hn

theorem parts_rel (hG : GOk C m) (he : ERel m e t) {u : UD} {place : Nat → Option (Nat × Nat)}
    (hpl : ∀ i off n, placeOk C u i off n = true → place i = some (off, n)) :
    ∀ {ps : List (Nat × Nat × Opd)} {qs : List (Nat × Operand)} {vs : List (Nat × Nat × V)}, placesM C u ps qs = true → evParts e ps = some vs → PartsRel m vs (qs.map fun p => (p.1, evT t p.2)) place
  | [], [], vs, _, h => by simp [evParts] at h; subst h; trivial
  | [], _ :: _, _, h, _ => by simp [placesM] at h
  | _ :: _, [], _, h, _ => by simp [placesM] at h
  | (off, n, x) :: r, (i, y) :: s, vs, h, hv => by
    simp only [placesM, Bool.and_eq_true] at h
    simp only [evParts] at hv
    split at hv
    · next a l h1 h2 =>
      cases hv
      exact ⟨hpl i off n h.2, opd_sound hG he h.1.1 h1, parts_rel hG he hpl h.1.2 h2⟩
    · cases hv

theorem pure_build (hT : TOk P C) (hG : GOk C m) (he : ERel m e t) {z : List V} {ps : List (Nat × Nat × Opd)} {qs : Array (Nat × Operand)} {ty : TypeId} (ho : o.op = .build ty qs) (hz : zcellsM C ty z = true)
    (hp : (match C.T.at_ ty with | some i => knownFs C i.u && placesM C i.u ps qs.toList | none => false) = true) (hr : I.pure e (.build z ps) = some v) (w : World) : Yields P m t o v w := by
  simp only [I.pure] at hr
  split at hr
  · next pv h1 =>
    split at hr
    · next l h2 =>
      cases hr
      split at hp
      · next ti hti =>
        simp only [Bool.and_eq_true] at hp
        obtain ⟨hk, hp⟩ := hp
        obtain ⟨zv, hz1, hz2⟩ := zcellsM_run hT hz m
        obtain ⟨info, d, F⟩ := hT.facts hti
        have hud := F.ud
        have hqs : (qs.map fun (i, x) => (i, evT t x)).toList = qs.toList.map fun p => (p.1, evT t p.2) := by simp
        cases hu : ti.u with
        | struct fs =>
          rw [hu] at hk hp hud
          cases hd : d <;> rw [hd] at hud <;> simp only [udMatch] at hud <;> try (cases hud; done)
          next gs =>
          have hund := F.und
          rw [hd] at hund
          obtain ⟨pl, h3, h4⟩ := places_run (P := P) hT w gs.toList fs hud hk
          have h5 : (gs.mapM (m := Sem) fun f => do pure (f.offset, ← Go.sizeOf f.type)).run P w = .ok pl.toArray w := by
            rw [Array.mapM_eq_mapM_toList, Sem.run_map, h3]
            rfl
          have hrel := parts_rel (t := t) hG he (u := .struct fs) (place := fun i => pl.toArray[i]?) (fun i off n hh => by
            dsimp only [placeOk] at hh
            split at hh
            · next o2 t2 hf =>
              simp only [Bool.and_eq_true, nbeq, decide_eq_true_eq] at hh
              have := h4 i _ hf n hh.2
              simp only [List.getElem?_toArray, this, hh.1]
            · cases hh) hp h1
          obtain ⟨ys, h6, h7⟩ := fill_sound hrel hz2 h2
          refine ⟨.agg ys, ?_, ys, rfl, h7⟩
          simp only [execOp, ho, Sem.run_bind, Instr.build, hz1, Result.andThen_ok, run_underlying hund, h5, hqs, h6]
          rfl
        | array k e2 =>
          rw [hu] at hk hp hud
          cases hd : d <;> rw [hd] at hud <;> simp only [udMatch] at hud <;> try (cases hud; done)
          next k3 e3 =>
          have hund := F.und
          rw [hd] at hund
          simp only [Bool.and_eq_true, nbeq, decide_eq_true_eq] at hud
          obtain ⟨rfl, rfl⟩ := hud
          cases hps : ps with
          | nil =>
            subst hps
            simp [evParts] at h1; subst h1
            simp [fillParts] at h2; subst h2
            have : qs.toList = [] := by
              cases hq : qs.toList with
              | nil => rfl
              | cons _ _ => rw [hq] at hp; simp [placesM] at hp
            have hq0 : qs = #[] := by rw [← Array.toList_inj]; simpa using this
            subst hq0
            -- the size of an element is wanted all the same
            have hsz : ∃ n, (Go.sizeOf e2).run P w = .ok n w := by
              simp only [knownFs] at hk
              unfold zcellsM at hz
              obtain ⟨j, hj⟩ : ∃ j, C.T.at_ e2 = some j := by
                cases hj : C.T.at_ e2 with
                | some j => exact ⟨j, rfl⟩
                | none => rw [hj] at hk; simp at hk
              exact ⟨j.size, sizeM_run hT (by unfold sizeM; rw [hj]; exact beqT _) w⟩
            obtain ⟨n, hn⟩ := hsz
            refine ⟨.agg zv.cells, ?_, zv.cells, rfl, hz2⟩
            simp [execOp, ho, Instr.build, hz1, run_underlying hund, hn, Instr.fill]
          | cons p0 pr =>
            have hn : ∃ n, sizeM C e2 n = true := by
              rw [hps] at hp
              cases hq : qs.toList with
              | nil => rw [hq] at hp; simp [placesM] at hp
              | cons q0 qr =>
                rw [hq] at hp
                obtain ⟨off, n, x⟩ := p0
                obtain ⟨i, y⟩ := q0
                simp only [placesM, placeOk, Bool.and_eq_true] at hp
                exact ⟨n, hp.2.1⟩
            obtain ⟨n, hn⟩ := hn
            have hrel := parts_rel (t := t) hG he (u := .array k e2) (place := fun i => some (i * n, n)) (fun i off n' hh => by
              simp only [placeOk, Bool.and_eq_true, nbeq, decide_eq_true_eq] at hh
              have hnn : n' = n := by
                have a := hh.1; have b := hn
                unfold sizeM at a b
                split at a
                · next j hj => rw [hj] at b; rw [← beq_iff.1 a, ← beq_iff.1 b]
                · cases a
              subst hnn
              rw [hh.2]) hp h1
            obtain ⟨ys, h6, h7⟩ := fill_sound hrel hz2 h2
            refine ⟨.agg ys, ?_, ys, rfl, h7⟩
            simp only [execOp, ho, Sem.run_bind, Instr.build, hz1, Result.andThen_ok, run_underlying hund, sizeM_run hT hn, hqs, h6]
            rfl
        | _ =>
          rw [hu] at hp
          cases hps : ps with
          | nil =>
            subst hps
            rw [hu] at hk
            simp [knownFs] at hk
          | cons p0 pr =>
            rw [hps] at hp
            cases hq : qs.toList with
            | nil => rw [hq] at hp; simp [placesM] at hp
            | cons q0 qr => rw [hq] at hp; obtain ⟨off, n, x⟩ := p0; obtain ⟨i, y⟩ := q0; simp [placesM, placeOk] at hp
      · cases hp
    · cases hr
  · cases hr

end
end Am
