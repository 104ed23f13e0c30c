/- Instructions that go by their operands alone: slices, built values, ==. -/
import Derived.Test.YtloklombgjlofaaGreatDoorPure2
namespace Am
open Go

section
variable {P : Program} {C : Cx} {m : Mp} {e : Env} {t : Array Value} {o : Oper} {v : V}

theorem asInt_rel {u : V} {z : Value} {i : Int} (h : VRel m u z) (hi : asInt u = some i) : ∃ k, z = .int k i := by
  cases u <;> simp [asInt] at hi
  subst hi
  exact ⟨_, h⟩

theorem sB_run {u : V} {z : Value} {y y' n : Nat} (h : VRel m u z) (hn : sB u y = some n) (hyy : y ≤ y') (code : BoundsCode) (w : World) :
    (Instr.sliceBound z y' code).run P w = .ok n w ∧ n ≤ y := by
  unfold sB at hn
  split at hn
  · next i hi =>
    simp only [cond_eq_ite] at hn
    split at hn
    · next hu =>
      cases hn
      obtain ⟨k, rfl⟩ := asInt_rel h hi
      have := upto_iff.1 hu
      have h2 : 0 ≤ i ∧ i ≤ (y' : Int) := by omega
      exact ⟨by simp [Instr.sliceBound, asIntOf, h2], by omega⟩
    · cases hn
  · cases hn

/-- An operand that may be left out. -/
def ORelV (m : Mp) (v : Option V) (x : Option Value) : Prop := (v = none ∧ x = none) ∨ ∃ u z, v = some u ∧ x = some z ∧ VRel m u z

theorem slcBounds_run {isS : Bool} {ln cap capc : Nat} {lo hi mx : Option V} {lo' hi' mx' : Option Value} (hlo : ORelV m lo lo') (hhi : ORelV m hi hi') (hmx : ORelV m mx mx') (hc : cap ≤ capc) {l r mm : Nat}
    (h : slcBounds ln cap lo hi mx = some (l, r, mm)) (w : World) :
    (Instr.sliceBounds isS ln capc lo' hi' mx').run P w = .ok (l, r, if mx.isSome then mm else capc) w ∧ l ≤ r ∧ (hi.isSome → r ≤ mm) ∧ (hi = none → r = ln ∧ mx = none) ∧ mm ≤ cap ∧ (mx = none → mm = cap) := by
  unfold slcBounds at h
  split at h
  · cases h
  next m0 hm0 =>
  split at h
  · cases h
  next h0 hh0 =>
  split at h
  · cases h
  next l0 hl0 =>
  cases h
  have R1 : (match (generalizing := false) mx' with
      | some v => Instr.sliceBound v capc (if isS then .slice3Acap else .slice3Alen)
      | none => pure capc).run P w = .ok (if mx.isSome then mm else capc) w ∧ mm ≤ cap ∧ (mx = none → mm = cap) := by
    rcases hmx with ⟨rfl, rfl⟩ | ⟨u, z, rfl, rfl, hz⟩
    · cases hm0; exact ⟨rfl, Nat.le_refl _, fun _ => rfl⟩
    · obtain ⟨a, b⟩ := sB_run (P := P) hz hm0 hc (if isS then .slice3Acap else .slice3Alen) w
      exact ⟨a, b, fun h => by cases h⟩
  obtain ⟨R1, B1, B2⟩ := R1
  have hmm : mm ≤ (if mx.isSome then mm else capc) := by split <;> omega
  have R2 : (match (generalizing := false) hi', mx' with
      | some v, some _ => Instr.sliceBound v (if mx.isSome then mm else capc) .slice3B
      | some v, none => Instr.sliceBound v (if mx.isSome then mm else capc) (if isS then .sliceAcap else .sliceAlen)
      | none, none => pure ln
      | none, some _ => stuck "Slice: max without high").run P w = .ok r w ∧ (hi.isSome → r ≤ mm) ∧ (hi = none → r = ln ∧ mx = none) := by
    rcases hhi with ⟨rfl, rfl⟩ | ⟨u, z, rfl, rfl, hz⟩
    · rcases hmx with ⟨rfl, rfl⟩ | ⟨u, z, rfl, rfl, hz⟩
      · cases hh0; exact ⟨rfl, fun h => Bool.noConfusion h, fun _ => ⟨rfl, rfl⟩⟩
      · cases hh0
    · rcases hmx with ⟨rfl, rfl⟩ | ⟨u', z', rfl, rfl, hz'⟩
      · obtain ⟨a, b⟩ := sB_run (P := P) hz hh0 hmm (if isS then .sliceAcap else .sliceAlen) w
        exact ⟨a, fun _ => b, fun h => by cases h⟩
      · obtain ⟨a, b⟩ := sB_run (P := P) hz hh0 hmm .slice3B w
        exact ⟨a, fun _ => b, fun h => by cases h⟩
  obtain ⟨R2, B3, B4⟩ := R2
  have R3 : (match (generalizing := false) lo' with
      | some v => Instr.sliceBound v r (if mx'.isSome then .slice3C else .sliceB)
      | none => pure 0).run P w = .ok l w ∧ l ≤ r := by
    rcases hlo with ⟨rfl, rfl⟩ | ⟨u, z, rfl, rfl, hz⟩
    · cases hl0; exact ⟨rfl, Nat.zero_le _⟩
    · exact sB_run (P := P) hz hl0 (Nat.le_refl _) (if mx'.isSome then .slice3C else .sliceB) w
  obtain ⟨R3, B5⟩ := R3
  refine ⟨?_, B5, B3, B4, B1, B2⟩
  generalize (if mx.isSome = true then mm else capc) = mc at *
  unfold Instr.sliceBounds
  cases mx' <;> cases hi' <;> cases lo' <;> simp only [Sem.run_bind, Sem.run_pure, Result.andThen_ok, Result.ok.injEq, and_true] at R1 R2 R3 ⊢ <;> simp_all

theorem evo_rel (hG : GOk C m) (he : ERel m e t) {x : Option Opd} {y : Option Operand} {v : Option V} (hM : opdO C x y = true) (hx : evo e x = some v) : ORelV m v (y.map (evT t)) := opdO_sound hG he hM hx

theorem bytes_extract (s : List UInt8) (l r : Nat) : (ByteArray.mk ⟨s⟩).extract l r = ByteArray.mk ⟨(s.take r).drop l⟩ := by
  apply ByteArray.ext
  rw [ByteArray.data_extract]
  apply Array.ext'
  simp [List.drop_take]

theorem pure_sliceS (hT : TOk P C) (hG : GOk C m) (he : ERel m e t) {x : Opd} {lo hi : Option Opd} {x' : Operand} {lo' hi' : Option Operand} {ty : TypeId} (ho : o.op = .slice ty x' lo' hi' none) (hx : opdM C x x' = true)
    (hlo : opdO C lo lo' = true) (hhi : opdO C hi hi' = true) (hu : isU C ty (fun | .str => true | _ => false) = true) (hr : I.pure e (.sliceS x lo hi) = some v) (w : World) : Yields P m t o v w := by
  simp only [I.pure] at hr
  split at hr
  · next s a b h1 h2 h3 =>
    split at hr
    · next l r mm hb =>
      cases hr
      have e1 : evT t x' = .string ⟨⟨s⟩⟩ := opd_sound hG he hx h1
      obtain ⟨u, dd, h4, h5, h6⟩ := isU_und hT hu
      cases u <;> simp at h4
      cases dd <;> simp [udMatch] at h6
      have hmx : ORelV m none none := .inl ⟨rfl, rfl⟩
      obtain ⟨h7, _⟩ := slcBounds_run (P := P) (isS := false) (evo_rel hG he hlo h2) (evo_rel hG he hhi h3) hmx (Nat.le_refl _) hb w
      refine ⟨.string ⟨⟨(s.take r).drop l⟩⟩, ?_, rfl⟩
      have hs : (ByteArray.mk ⟨s⟩).size = s.length := by simp [ByteArray.size]
      simp only [execOp, ho, Sem.run_bind, Instr.sliceAt, run_underlying h5, Result.andThen_ok, Instr.slice, e1, Option.map_none, Option.isSome_none, Bool.false_eq_true, if_false, hs]
      rw [h7]
      simp [bytes_extract]
    · cases hr
  · cases hr

theorem add_spot (β o n : Nat) (c : Prop) [Decidable c] : (if c then (⟨β, o, none⟩ : Addr) else (⟨β, o, none⟩ : Addr).add n) = ⟨β, if c then o else o + n, none⟩ := by
  by_cases h : c <;> simp [h, add_addr]

theorem pure_slice (hT : TOk P C) (hG : GOk C m) (he : ERel m e t) {sz : Nat} {x : Opd} {lo hi mx : Option Opd} {x' : Operand} {lo' hi' mx' : Option Operand} {ty : TypeId} (ho : o.op = .slice ty x' lo' hi' mx')
    (hx : opdM C x x' = true) (hlo : opdO C lo lo' = true) (hhi : opdO C hi hi' = true) (hmx : opdO C mx mx' = true) (hu : isU C ty (fun | .slice e => sizeM C e sz | _ => false) = true)
    (hr : I.pure e (.slice sz x lo hi mx) = some v) (w : World) : Yields P m t o v w := by
  simp only [I.pure] at hr
  split at hr
  · next a ln cap lov hiv mxv h1 h2 h3 h4 =>
    split at hr
    · next l r mm hb =>
      have H := opd_sound (t := t) hG he hx h1
      obtain ⟨u, dd, h5, h6, h7⟩ := isU_und hT hu
      cases u <;> simp at h5
      next e2 =>
      cases dd <;> simp [udMatch] at h7
      next e3 =>
      subst h7
      have hmx' := evo_rel (t := t) hG he hmx h4
      have hlo' := evo_rel (t := t) hG he hlo h2
      have hhi' := evo_rel (t := t) hG he hhi h3
      cases a with
      | none =>
        cases hr
        obtain ⟨rfl, rfl, e1⟩ := H
        obtain ⟨h8, h9, h10, h11, h12, h13⟩ := slcBounds_run (P := P) (isS := true) hlo' hhi' hmx' (Nat.le_refl _) hb w
        have hmm : mm = 0 := by simp [Cap.room] at h12; exact h12
        have hr0 : r = 0 := by
          cases hiv with
          | none => exact (h11 rfl).1
          | some _ => have := h10 rfl; omega
        have hl0 : l = 0 := by omega
        subst hmm hr0 hl0
        refine ⟨.slice none 0 0, ?_, rfl, rfl, rfl⟩
        simp only [execOp, ho, Sem.run_bind, Instr.sliceAt, run_underlying h6, Result.andThen_ok, Instr.slice, e1]
        simp only [Cap.room] at h8
        rw [h8]
        simp [sizeM_run hT h5, Cap.room]
      | some a =>
        obtain ⟨b, o1⟩ := a
        obtain ⟨loc, o', c', h8, e1, h9, h10, h11, h12⟩ := H
        have hc : cap.room ln ≤ c' := by
          cases cap with
          | fix k => rw [h11 k rfl]; exact Nat.le_refl _
          | grow q => exact h9
        obtain ⟨h13, h14, h15, h16, h17, h18⟩ := slcBounds_run (P := P) (isS := true) hlo' hhi' hmx' hc hb w
        have hrm : r ≤ (if mxv.isSome then mm else c') := by
          cases hiv with
          | none =>
            obtain ⟨h19, h20⟩ := h16 rfl
            subst h20
            rw [h19]
            exact h9
          | some q =>
            have := h15 rfl
            split <;> omega
        generalize hmc : (if mxv.isSome then mm else c') = mc at *
        have hmcc : mc ≤ c' := by rw [← hmc]; split <;> omega
        have hrun : (execOp (evT t) o).run P w = .ok (.value (.slice (some (if mc = l then o' else o'.add (l * sz))) (r - l) (mc - l))) w := by
          simp only [execOp, ho, Sem.run_bind, Instr.sliceAt, run_underlying h6, Result.andThen_ok, Instr.slice, e1]
          rw [h13]
          simp only [Result.andThen_ok, sizeM_run hT h5, Sem.run_bind, Option.map_some]
          by_cases hml : mc = l <;> simp [hml]
        refine ⟨_, hrun, ?_⟩
        have key : ∀ cp, v = .slice (some (b, o1 + l * sz)) (r - l) cp → (∀ k, cp = .fix k → mc - l = k) → (∀ q, cp = .grow q → o1 + l * sz + (mc - l) * q ≤ loc.ext) →
            VRel m v (.slice (some (if mc = l then o' else o'.add (l * sz))) (r - l) (mc - l)) := by
          rintro cp rfl hk hq
          refine ⟨loc, _, _, h8, rfl, by omega, ?_, hk, hq⟩
          intro hne
          have hml : mc ≠ l := by omega
          rw [if_neg hml]
          rw [h10 (by omega), add_addr, Nat.add_assoc]
        cases cap with
        | grow q =>
          cases mxv with
          | none =>
            simp only [cond_eq_ite, nbeq, decide_eq_true_eq] at hr
            split at hr
            · next hq =>
              subst hq
              cases hr
              refine key _ rfl (fun k hk => by cases hk) (fun q' hq' => ?_)
              cases hq'
              have hmc' : mc = c' := by rw [← hmc]; rfl
              have := h12 _ rfl
              subst hmc'
              simp only at this
              have h19 : l * q + (mc - l) * q = mc * q := by rw [← Nat.add_mul]; congr 1; omega
              omega
            · cases hr
          | some mv =>
            cases hr
            refine key _ rfl (fun k hk => ?_) (fun q' hq' => by cases hq')
            cases hk
            simp at hmc; subst hmc; rfl
        | fix k =>
          have hr' : v = .slice (some (b, o1 + l * sz)) (r - l) (.fix (mm - l)) := by
            cases mxv <;> (cases hr; rfl)
          refine key _ hr' (fun k' hk => ?_) (fun q' hq' => by cases hq')
          cases hk
          cases mxv with
          | some q => simp at hmc; subst hmc; rfl
          | none =>
            have := h18 rfl
            have h20 := h11 k rfl
            simp at hmc
            simp [Cap.room] at this
            omega
    · cases hr
  · cases hr

theorem pure_sliceA (hT : TOk P C) (hG : GOk C m) (he : ERel m e t) {n sz : Nat} {x : Opd} {lo hi mx : Option Opd} {x' : Operand} {lo' hi' mx' : Option Operand} {ty : TypeId} (ho : o.op = .slice ty x' lo' hi' mx')
    (hx : opdM C x x' = true) (hlo : opdO C lo lo' = true) (hhi : opdO C hi hi' = true) (hmx : opdO C mx mx' = true) (hu : isU C ty (fun | .array k e => Nat.beq k n && sizeM C e sz | _ => false) = true)
    (hr : I.pure e (.sliceA n sz x lo hi mx) = some v) (w : World) : Yields P m t o v w := by
  simp only [I.pure] at hr
  split at hr
  · next b o1 lov hiv mxv h1 h2 h3 h4 =>
    split at hr
    · next l r mm hb =>
      cases hr
      obtain ⟨loc, h8, e1⟩ := opd_sound (t := t) hG he hx h1
      obtain ⟨u, dd, h5, h6, h7⟩ := isU_und hT hu
      cases u <;> simp at h5
      next k2 e2 =>
      cases dd <;> simp [udMatch] at h7
      next k3 e3 =>
      obtain ⟨rfl, rfl⟩ := h7
      obtain ⟨rfl, h5⟩ := h5
      obtain ⟨h13, h14, h15, h16, h17, h18⟩ := slcBounds_run (P := P) (isS := false) (evo_rel (t := t) hG he hlo h2) (evo_rel (t := t) hG he hhi h3) (evo_rel (t := t) hG he hmx h4) (Nat.le_refl _) hb w
      have hmc : (if mxv.isSome then mm else k2) = mm := by
        cases mxv with
        | none => exact (h18 rfl).symm
        | some _ => rfl
      rw [hmc] at h13
      have hrm : r ≤ mm := by
        cases hiv with
        | some q => exact h15 rfl
        | none =>
          obtain ⟨h19, h20⟩ := h16 rfl
          rw [h19, h18 h20]; exact Nat.le_refl _
      refine ⟨.slice (some ⟨loc.β, if mm = l then loc.d + o1 else loc.d + o1 + l * sz, none⟩) (r - l) (mm - l), ?_, loc, _, _, h8, rfl, by omega, ?_, ?_, ?_⟩
      · simp only [execOp, ho, Sem.run_bind, Instr.sliceAt, run_underlying h6, Result.andThen_ok, e1, Instr.sureAddr, Sem.run_pure]
        rw [h13]
        simp only [Result.andThen_ok, sizeM_run hT h5, Sem.run_bind]
        by_cases hml : mm = l <;> simp [hml, add_addr]
      · intro hne
        have hml : mm ≠ l := by omega
        rw [if_neg hml, Nat.add_assoc]
      · intro k hk; cases hk; rfl
      · intro q hq; cases hq
    · cases hr
  · cases hr

end
end Am
