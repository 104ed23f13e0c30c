/- 'WorldNames': for every input the call returns true, and the input reads as it did. The listed variables read as the text lays them. -/
import Derived.Test.YthfnnapdaifngaaDoorRows
import Derived.Test.YthfnnapdaifngaaDoorCards
import Derived.Test.YthfnnapdaifngaaDoorTie
import Derived.Test.YthfnnapdaifngaaDoorDoor
import Derived.Test.YthfnnapdaifngaaDoorWNames
import Derived.ProofKit
import Derived.LaidMore
import Derived.SevenTiedAt
namespace Go.Proofs.YthfnnapdaifngaaDoor
open Go.ChangeShapes Go.WideShapes Go.ChangeAt Go.RowKit

theorem worldNames_types : Am.tblCheck Tryd.prog Am.Sigs.cx.T = true := by kernel_rfl
theorem worldNames_fns : (Am.Sigs.prog.fns.all fun p => Am.fnM Tryd.prog Am.Sigs.cx p.1 p.2) = true := by kernel_rfl
set_option maxRecDepth 100000 in
theorem worldNames_ok : Am.ProgOk Tryd.prog Am.Sigs.cx Am.Sigs.prog where
  types := Am.TOk.of_check worldNames_types
  mixed := Tryd.checked.mixed
  fns := fun f a h => List.all_eq_true.1 worldNames_fns _ (Am.assoc_mem h)
  primF := fun f p h => by cases h
  primOk := fun f p h => by cases h
theorem worldNames_own : ownKnob Tryd.prog.godebug = none := by kernel_rfl
theorem worldNames_laid : laidOutB Tryd.prog = true := by kernel_rfl
theorem worldNames_gl : Am.Sigs.cx.gl = [0, 2, 3] := rfl


theorem worldNames_met (os : Os) (args : Array Value) : laidMetH Tryd.prog Rows.worldNamesRow.laid ((World.doorLaid Tryd.prog 400 os).forCall (fun _ _ => 0) ⟨#[], args, []⟩).memory :=
  laidMetH_of_parts3 (fuel := 8) (laidMet_of_run' 8 (by kernel_rfl) (by kernel_rfl)) (by kernel_rfl) (by kernel_rfl)

theorem worldNames_g0 : Tryd.prog.globalNamed "math/bits.deBruijn32tab" = some 2 := by kernel_rfl
theorem worldNames_t0 : (Tryd.prog.globals[2]?).map (·.type) = some 135 := by kernel_rfl
theorem worldNames_f0 : (Am.Fl.arr (t := 135) 32 1 (Am.Fl.int .u8 (t := 5) Tryd.underlying5) Tryd.underlying135 (by kernel_rfl) (by kernel_rfl)).f Rows.laid_math_bits_deBruijn32tab = some Am.Sigs.lit_math_bits_deBruijn32tab := by kernel_rfl
theorem worldNames_g1 : Tryd.prog.globalNamed "math/bits.deBruijn64tab" = some 3 := by kernel_rfl
theorem worldNames_t1 : (Tryd.prog.globals[3]?).map (·.type) = some 136 := by kernel_rfl
theorem worldNames_f1 : (Am.Fl.arr (t := 136) 64 1 (Am.Fl.int .u8 (t := 5) Tryd.underlying5) Tryd.underlying136 (by kernel_rfl) (by kernel_rfl)).f Rows.laid_math_bits_deBruijn64tab = some Am.Sigs.lit_math_bits_deBruijn64tab := by kernel_rfl
theorem worldNames_g2 : Tryd.prog.globalNamed "internal/strconv.uint64pow10" = some 0 := by kernel_rfl
theorem worldNames_t2 : (Tryd.prog.globals[0]?).map (·.type) = some 128 := by kernel_rfl
theorem worldNames_f2 : (Am.Fl.arr (t := 128) 20 1 (Am.Fl.int .u64 (t := 35) Tryd.underlying35) Tryd.underlying128 (by kernel_rfl) (by kernel_rfl)).f Rows.laid_internal_strconv_uint64pow10 = some Am.Sigs.lit_internal_strconv_uint64pow10 := by kernel_rfl

set_option maxRecDepth 100000 in
set_option maxHeartbeats 4000000 in
theorem worldNames_lifted (os : Os) (started : os.Started) (H : Type) (enc : TypeId × Value → H) :
    ReturnsInHanded {} Tryd.checked os 3 .any (fun w args => (Rows.worldNamesSpec.pre enc Tryd.prog Tryd.f3 Rows.worldNamesRow.domain false w args ∧ laidMetH Tryd.prog Rows.worldNamesRow.laid w) ∧ sizedMet enc Tryd.prog Tryd.f3 (OpenSpec.ofChange Rows.worldNamesSpec) false w args)
      (Rows.worldNamesSpec.post enc Tryd.prog Tryd.f3 false true false false) := by
  refine returnsInHanded_of_change_and (C := Tryd.checked) (X := fun w _ => laidMetH Tryd.prog Rows.worldNamesRow.laid w) (fun _ _ _ hh h => h.of_heap hh) worldNames_own started (by kernel_rfl) Tryd.func3
    (ChangeSpec.witness_shaped (enc := enc) (C := Tryd.checked) (os := os) (X := fun w _ => laidMetH Tryd.prog Rows.worldNamesRow.laid w) false (World.doorLaid Tryd.prog 400 os) #[] 8 rfl (World.shaped_of_RefB (by kernel_rfl) (by kernel_rfl)) (by kernel_rfl) (by kernel_rfl) (by kernel_rfl) (worldNames_met os _)) ?_
  intro W base args ds gs before hval0 hW _ _ hL _
  have hval : ∀ (j : Nat) t v, Tryd.f3.params[j]? = some t → args[j]? = some v → Value.okWide Tryd.prog W .any base t v := hval0
  have hW' := hW
  obtain ⟨p, q, hA0, hV, rfl, hfz, hnd⟩ := hW
  have hA : DataW.TrodAll enc Tryd.prog W 0 (fun _ => true) true Tryd.f3.params.toList args.toList ds p := hA0
  rw [Tryd.params3] at hA hval
  obtain ⟨ha, rfl, rfl⟩ := Am.args_nil hA
  obtain rfl : args = #[] := by cases args; simp_all
  obtain ⟨rfl, rfl⟩ := trodVars_none hV
  have hlt := hW'.lt
  have r0 := Am.ro0 (P := Tryd.prog) (C := Am.Sigs.cx) (W := W) 4
  rw [MakeChecks.laidMetH_plain _ _ _ (by kernel_rfl)] at hL
  obtain ⟨ps, ⟨g0, t0, cs0, f0, pp0, qq0, hg0, ht0, hv0, hd0, ⟨g1, t1, cs1, f1, pp1, qq1, hg1, ht1, hv1, hd1, ⟨g2, t2, cs2, f2, pp2, qq2, hg2, ht2, hv2, hd2, _, _⟩, _⟩, _⟩, _, _⟩ := hL
  obtain rfl := Option.some.inj (worldNames_g0.symm.trans hg0)
  obtain rfl := Option.some.inj (worldNames_t0.symm.trans ht0)
  have s0 := r0.var (g := 2) (by rfl) (by decide) (Am.Fl.arr (t := 135) 32 1 (Am.Fl.int .u8 (t := 5) Tryd.underlying5) Tryd.underlying135 (by kernel_rfl) (by kernel_rfl)) hg0 hv0 hd0 worldNames_f0
  obtain rfl := Option.some.inj (worldNames_g1.symm.trans hg1)
  obtain rfl := Option.some.inj (worldNames_t1.symm.trans ht1)
  have s1 := s0.var (g := 3) (by rfl) (by decide) (Am.Fl.arr (t := 136) 64 1 (Am.Fl.int .u8 (t := 5) Tryd.underlying5) Tryd.underlying136 (by kernel_rfl) (by kernel_rfl)) hg1 hv1 hd1 worldNames_f1
  obtain rfl := Option.some.inj (worldNames_g2.symm.trans hg2)
  obtain rfl := Option.some.inj (worldNames_t2.symm.trans ht2)
  have s2 := s1.var (g := 0) (by rfl) (by decide) (Am.Fl.arr (t := 128) 20 1 (Am.Fl.int .u64 (t := 35) Tryd.underlying35) Tryd.underlying128 (by kernel_rfl) (by kernel_rfl)) hg2 hv2 hd2 worldNames_f2
  have r0' := s2
  obtain ⟨m0, e0, r0, hnx, l0, l1, l2, hG⟩ : ∃ m0 e0, Am.RoMem Tryd.prog Am.Sigs.cx m0 e0 W ∧ e0.nx = 4 ∧ e0.get 2 = some (.cells Am.Sigs.lit_math_bits_deBruijn32tab true) ∧ e0.get 3 = some (.cells Am.Sigs.lit_math_bits_deBruijn64tab true) ∧ e0.get 0 = some (.cells Am.Sigs.lit_internal_strconv_uint64pow10 true) ∧ Am.GOk Am.Sigs.cx m0 := by
    refine ⟨_, _, r0', rfl, rfl, rfl, rfl, ?_⟩
    intro g hg
    rw [worldNames_gl] at hg
    have hg2 : g = 0 ∨ g = 2 ∨ g = 3 := by simp [Am.nbeq] at hg; omega
    rcases hg2 with rfl | rfl | rfl
    · exact ⟨_, by rfl, rfl, rfl⟩
    · exact ⟨_, by rfl, rfl, rfl⟩
    · exact ⟨_, by rfl, rfl, rfl⟩
  obtain ⟨h', hr⟩ := Am.Sigs.worldNames_am (cl := Am.callN Am.Sigs.prog Am.Sigs.fuel) (fun _ => rfl) hnx (fun b hb => r0.wf b (by rw [hnx]; exact hb)) l0 l1 l2
  refine (Am.call_fn (n := 59) (xs := #[]) (a := Am.Sigs.c3) worldNames_ok (by rfl) (by rfl) hr r0.rel hG rfl).calls fun m' w' x hs hx => ?_
  obtain rfl : x = .bool true := hx
  exact ⟨_, rfl, Am.post1 hs r0.noOwned hW' (fun _ _ _ => trodAll_mk1 (shut_bool (t := 4) (by kernel_rfl) true))
    trodAll_mk0 rfl⟩

theorem worldNames_row : Rows.WorldNamesSaid :=
  OpenClaim.holds_of_wide 3 Tryd.f3 rfl rfl rfl rfl rfl rfl rfl ⟨rfl, rfl, rfl, rfl, rfl⟩ rfl rfl rfl rfl rfl (by kernel_rfl) Tryd.func3 (by kernel_rfl)
    (of_decide_eq_true (by kernel_rfl)) (by unfold Func.isWrapper; first | (rw [if_pos (by decide +kernel)]; kernel_rfl) | (rw [if_neg (by decide +kernel)]; exact ⟨rfl, rfl⟩))
    (fun os started H enc _ => worldNames_lifted os started H enc)

theorem worldNames_holds : Rows.WorldNamesCardSaid :=
  Claim7.holds_tied_plain_at .later [] [.data, .data, .data] true (true, "40fc2eae5fdd009c7485f256cdd2e3a243b431a3ed05c1edba57b33df24597f8") false
    worldNames_row (fun _ h => by cases h) (by kernel_rfl) (fun _ h => by cases h) worldNames_row_tie rfl ⟨rfl, rfl⟩ (by kernel_rfl) rfl
    (fun f fn hf hfn => by
      obtain rfl : f = 3 := Option.some.inj ((show Tryd.prog.funcNamed "roundhouse/roundhouselaw11.WorldNames" = some 3 by kernel_rfl).symm.trans hf) |>.symm
      obtain rfl : fn = Tryd.f3 := (Option.some.inj (Tryd.func3.symm.trans hfn)).symm
      exact ⟨by kernel_rfl, fun j t ht => by
        rw [Tryd.params3] at ht
        match j, ht with

        | k + 0, ht => simp at ht⟩)
    (by kernel_rfl)

end Go.Proofs.YthfnnapdaifngaaDoor
