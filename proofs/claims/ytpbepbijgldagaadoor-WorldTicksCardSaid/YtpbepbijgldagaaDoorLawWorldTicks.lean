/- 'WorldTicks': for every input the call returns true, and the input reads as it did. The listed variables read as the text lays them. -/
import Derived.Test.YtpbepbijgldagaaDoorRows
import Derived.Test.YtpbepbijgldagaaDoorCards
import Derived.Test.YtpbepbijgldagaaDoorTie
import Derived.Test.YtpbepbijgldagaaDoorDoor
import Derived.Test.YtpbepbijgldagaaDoorTicksLaw
import Derived.ProofKit
import Derived.LaidMore
import Derived.SevenTiedAt
namespace Go.Proofs.YtpbepbijgldagaaDoor
open Go.ChangeShapes Go.WideShapes Go.ChangeAt Go.RowKit

theorem worldTicks_types : Am.tblCheck Tryd.prog Am.Sigs.cx.T = true := by kernel_rfl
theorem worldTicks_fns : (Am.Sigs.prog.fns.all fun p => Am.fnM Tryd.prog Am.Sigs.cx p.1 p.2) = true := by kernel_rfl
set_option maxRecDepth 100000 in
theorem worldTicks_ok : Am.ProgOk Tryd.prog Am.Sigs.cx Am.Sigs.prog where
  types := Am.TOk.of_check worldTicks_types
  mixed := Tryd.checked.mixed
  fns := fun f a h => List.all_eq_true.1 worldTicks_fns _ (Am.assoc_mem h)
  primF := fun f p h => by cases h
  primOk := fun f p h => by cases h
theorem worldTicks_own : ownKnob Tryd.prog.godebug = none := by kernel_rfl
theorem worldTicks_laid : laidOutB Tryd.prog = true := by kernel_rfl
theorem worldTicks_gl : Am.Sigs.cx.gl = [2, 4, 5] := rfl

noncomputable def worldTicks_rd38 : Am.Rd Tryd.prog 38 Int := Am.Rd.int .u64 (t := 38) Tryd.underlying38 (by kernel_rfl)
noncomputable def worldTicks_rd36_0 : Am.Rd Tryd.prog 36 (List Int) := Am.Rd.slice 100 worldTicks_rd38 (t := 36) Tryd.underlying36 (by kernel_rfl) (by decide)

theorem worldTicks_met (os : Os) (args : Array Value) : laidMetH Tryd.prog Rows.worldTicksRow.laid ((World.doorLaid Tryd.prog 400 os).forCall (fun _ _ => 0) ⟨#[], args, []⟩).memory :=
  laidMetH_of_parts3 (fuel := 8) (laidMet_of_run' 8 (by kernel_rfl) (by kernel_rfl)) (by kernel_rfl) (by kernel_rfl)

theorem worldTicks_g0 : Tryd.prog.globalNamed "math/bits.deBruijn32tab" = some 4 := by kernel_rfl
theorem worldTicks_t0 : (Tryd.prog.globals[4]?).map (·.type) = some 178 := by kernel_rfl
theorem worldTicks_f0 : (Am.Fl.arr (t := 178) 32 1 (Am.Fl.int .u8 (t := 5) Tryd.underlying5) Tryd.underlying178 (by kernel_rfl) (by kernel_rfl)).f Rows.laid_math_bits_deBruijn32tab = some Am.Sigs.lit_math_bits_deBruijn32tab := by kernel_rfl
theorem worldTicks_g1 : Tryd.prog.globalNamed "math/bits.deBruijn64tab" = some 5 := by kernel_rfl
theorem worldTicks_t1 : (Tryd.prog.globals[5]?).map (·.type) = some 179 := by kernel_rfl
theorem worldTicks_f1 : (Am.Fl.arr (t := 179) 64 1 (Am.Fl.int .u8 (t := 5) Tryd.underlying5) Tryd.underlying179 (by kernel_rfl) (by kernel_rfl)).f Rows.laid_math_bits_deBruijn64tab = some Am.Sigs.lit_math_bits_deBruijn64tab := by kernel_rfl
theorem worldTicks_g2 : Tryd.prog.globalNamed "internal/strconv.uint64pow10" = some 2 := by kernel_rfl
theorem worldTicks_t2 : (Tryd.prog.globals[2]?).map (·.type) = some 170 := by kernel_rfl
theorem worldTicks_f2 : (Am.Fl.arr (t := 170) 20 1 (Am.Fl.int .u64 (t := 38) Tryd.underlying38) Tryd.underlying170 (by kernel_rfl) (by kernel_rfl)).f Rows.laid_internal_strconv_uint64pow10 = some Am.Sigs.lit_internal_strconv_uint64pow10 := by kernel_rfl

set_option maxRecDepth 100000 in
set_option maxHeartbeats 4000000 in
theorem worldTicks_lifted (os : Os) (started : os.Started) (H : Type) (enc : TypeId × Value → H) :
    ReturnsInHanded {} Tryd.checked os 4 .any (fun w args => (Rows.worldTicksSpec.pre enc Tryd.prog Tryd.f4 Rows.worldTicksRow.domain false w args ∧ laidMetH Tryd.prog Rows.worldTicksRow.laid w) ∧ sizedMet enc Tryd.prog Tryd.f4 (OpenSpec.ofChange Rows.worldTicksSpec) false w args)
      (Rows.worldTicksSpec.post enc Tryd.prog Tryd.f4 false true false false) := by
  refine returnsInHanded_of_change_and (C := Tryd.checked) (X := fun w _ => laidMetH Tryd.prog Rows.worldTicksRow.laid w) (fun _ _ _ hh h => h.of_heap hh) worldTicks_own started (by kernel_rfl) Tryd.func4
    (ChangeSpec.witness_shaped (enc := enc) (C := Tryd.checked) (os := os) (X := fun w _ => laidMetH Tryd.prog Rows.worldTicksRow.laid w) false (World.doorLaid Tryd.prog 400 os) #[.slice none 0 0] 8 rfl (World.shaped_of_RefB (by kernel_rfl) (by kernel_rfl)) (by kernel_rfl) (by kernel_rfl) (by kernel_rfl) (worldTicks_met os _)) ?_
  intro W base args ds gs before hval0 hW _ _ hL _
  have hval : ∀ (j : Nat) t v, Tryd.f4.params[j]? = some t → args[j]? = some v → Value.okWide Tryd.prog W .any base t v := hval0
  have hW' := hW
  obtain ⟨p, q, hA0, hV, rfl, hfz, hnd⟩ := hW
  have hA : DataW.TrodAll enc Tryd.prog W 0 (fun _ => true) true Tryd.f4.params.toList args.toList ds p := hA0
  rw [Tryd.params4] at hA hval
  obtain ⟨v0, vs0, d0, ds0, p0, q0, ha, rfl, rfl, h0, hA1⟩ := Am.args_cons hA
  obtain ⟨rfl, rfl, rfl⟩ := Am.args_nil hA1
  obtain rfl : args = #[v0] := by cases args; simp_all
  obtain ⟨rfl, rfl⟩ := trodVars_none hV
  have hlt := hW'.lt
  have r0 := Am.ro0 (P := Tryd.prog) (C := Am.Sigs.cx) (W := W) 6
  rw [MakeChecks.laidMetH_plain _ _ _ (by kernel_rfl)] at hL
  obtain ⟨ps, ⟨g0, t0, cs0, f0, pp0, qq0, hg0, ht0, hv0, hd0, ⟨g1, t1, cs1, f1, pp1, qq1, hg1, ht1, hv1, hd1, ⟨g2, t2, cs2, f2, pp2, qq2, hg2, ht2, hv2, hd2, _, _⟩, _⟩, _⟩, _, _⟩ := hL
  obtain rfl := Option.some.inj (worldTicks_g0.symm.trans hg0)
  obtain rfl := Option.some.inj (worldTicks_t0.symm.trans ht0)
  have s0 := r0.var (g := 4) (by rfl) (by decide) (Am.Fl.arr (t := 178) 32 1 (Am.Fl.int .u8 (t := 5) Tryd.underlying5) Tryd.underlying178 (by kernel_rfl) (by kernel_rfl)) hg0 hv0 hd0 worldTicks_f0
  obtain rfl := Option.some.inj (worldTicks_g1.symm.trans hg1)
  obtain rfl := Option.some.inj (worldTicks_t1.symm.trans ht1)
  have s1 := s0.var (g := 5) (by rfl) (by decide) (Am.Fl.arr (t := 179) 64 1 (Am.Fl.int .u8 (t := 5) Tryd.underlying5) Tryd.underlying179 (by kernel_rfl) (by kernel_rfl)) hg1 hv1 hd1 worldTicks_f1
  obtain rfl := Option.some.inj (worldTicks_g2.symm.trans hg2)
  obtain rfl := Option.some.inj (worldTicks_t2.symm.trans ht2)
  have s2 := s1.var (g := 2) (by rfl) (by decide) (Am.Fl.arr (t := 170) 20 1 (Am.Fl.int .u64 (t := 38) Tryd.underlying38) Tryd.underlying170 (by kernel_rfl) (by kernel_rfl)) hg2 hv2 hd2 worldTicks_f2
  have r0' := s2
  obtain ⟨x0, u0, m1, e1, r1, w0, n0, k0, y0⟩ := worldTicks_rd36_0.arg rfl r0' (Am.cells_slice Tryd.underlying36 (hval 0 36 v0 rfl rfl)) h0
  have hnx : e1.nx = 7 := by rw [n0]; rfl
  have l0 : e1.get 4 = some (.cells Am.Sigs.lit_math_bits_deBruijn32tab true) := by rw [w0.get 4 (by decide)]; rfl
  have l1 : e1.get 5 = some (.cells Am.Sigs.lit_math_bits_deBruijn64tab true) := by rw [w0.get 5 (by decide)]; rfl
  have l2 : e1.get 2 = some (.cells Am.Sigs.lit_internal_strconv_uint64pow10 true) := by rw [w0.get 2 (by decide)]; rfl
  obtain ⟨h', hr⟩ := Am.Sigs.ticks_am (cl := Am.callN Am.Sigs.prog Am.Sigs.fuel) (fun _ => rfl) hnx (fun b hb => r1.wf b (by rw [hnx]; exact hb)) l0 l1 l2 k0
  have hG : Am.GOk Am.Sigs.cx m1 := by
    intro g hg
    rw [worldTicks_gl] at hg
    have hg2 : g = 2 ∨ g = 4 ∨ g = 5 := by simp [Am.nbeq] at hg; omega
    rcases hg2 with rfl | rfl | rfl
    · exact ⟨_, w0.mono _ _ (by rfl), rfl, rfl⟩
    · exact ⟨_, w0.mono _ _ (by rfl), rfl, rfl⟩
    · exact ⟨_, w0.mono _ _ (by rfl), rfl, rfl⟩
  refine (Am.call_fn (n := 30) (xs := #[v0]) (a := Am.Sigs.c4) worldTicks_ok (by rfl) (by rfl) hr r1.rel hG ⟨_, _, rfl, y0, rfl⟩).calls fun m' w' x hs hx => ?_
  obtain rfl : x = .bool true := hx
  exact ⟨_, rfl, Am.post1 hs r1.noOwned hW' (fun _ _ _ => trodAll_mk1 (shut_bool (t := 4) (by kernel_rfl) true))
    (Am.args_mk (Below.trod worldTicks_laid (by kernel_rfl) (of_decide_eq_true (by kernel_rfl)) h0 (Am.below_of hs r1.noOwned) (fun x hx => hlt x (by simp [hx]))) trodAll_mk0) rfl⟩

theorem worldTicks_row : Rows.WorldTicksSaid :=
  OpenClaim.holds_of_wide 4 Tryd.f4 rfl rfl rfl rfl rfl rfl rfl ⟨rfl, rfl, rfl, rfl, rfl⟩ rfl rfl rfl rfl rfl (by kernel_rfl) Tryd.func4 (by kernel_rfl)
    (of_decide_eq_true (by kernel_rfl)) (by unfold Func.isWrapper; first | (rw [if_pos (by decide +kernel)]; kernel_rfl) | (rw [if_neg (by decide +kernel)]; exact ⟨rfl, rfl⟩))
    (fun os started H enc _ => worldTicks_lifted os started H enc)

theorem worldTicks_holds : Rows.WorldTicksCardSaid :=
  Claim7.holds_tied_plain_at .later [] [.data, .data, .data] true (true, "e4561ce5097f36d7f2a8a0556ea80f703d635f63258db0ee8f41a138dc99e7c0") false
    worldTicks_row (fun _ h => by cases h) (by kernel_rfl) (fun _ h => by cases h) worldTicks_row_tie rfl ⟨rfl, rfl⟩ (by kernel_rfl) rfl
    (fun f fn hf hfn => by
      obtain rfl : f = 4 := Option.some.inj ((show Tryd.prog.funcNamed "roundhouse/roundhouselaw11.WorldTicks" = some 4 by kernel_rfl).symm.trans hf) |>.symm
      obtain rfl : fn = Tryd.f4 := (Option.some.inj (Tryd.func4.symm.trans hfn)).symm
      exact ⟨by kernel_rfl, fun j t ht => by
        rw [Tryd.params4] at ht
        match j, ht with
        | 0, ht => cases ht; exact (show Tryd.prog.wantsStandIn 36 = false by kernel_rfl)
        | k + 1, ht => simp at ht⟩)
    (by kernel_rfl)

end Go.Proofs.YtpbepbijgldagaaDoor
