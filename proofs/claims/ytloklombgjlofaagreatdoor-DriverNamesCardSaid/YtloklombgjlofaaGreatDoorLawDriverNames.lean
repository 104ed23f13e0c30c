/- 'DriverNames': for every input the call returns true, and the input reads as it did. The listed variables read as the text lays them. -/
import Derived.Test.YtloklombgjlofaaGreatDoorRows
import Derived.Test.YtloklombgjlofaaGreatDoorCards
import Derived.Test.YtloklombgjlofaaGreatDoorTie
import Derived.Test.YtloklombgjlofaaGreatDoorDoor
import Derived.Test.YtloklombgjlofaaGreatDoorDNames
import Derived.Test.YtloklombgjlofaaGreatDoorTextLay
import Derived.ProofKit
import Derived.LaidMore
import Derived.SevenTiedAt
namespace Go.Proofs.YtloklombgjlofaaGreatDoor
open Go.ChangeShapes Go.WideShapes Go.ChangeAt Go.RowKit

theorem driverNames_types : Am.tblCheck Tryz.prog Am.Sigs.cx.T = true := by kernel_rfl
theorem driverNames_fns : (Am.Sigs.prog.fns.all fun p => Am.fnM Tryz.prog Am.Sigs.cx p.1 p.2) = true := by kernel_rfl
set_option maxRecDepth 100000 in
theorem driverNames_ok : Am.ProgOk Tryz.prog Am.Sigs.cx Am.Sigs.prog := {
  types := Am.TOk.of_check driverNames_types,
  mixed := Tryz.checked.mixed,
  fns := fun f a h => List.all_eq_true.1 driverNames_fns _ (Am.assoc_mem h),
  primF := Am.Sigs.primsF,
  primOk := Am.Sigs.primsOk }
theorem driverNames_own : ownKnob Tryz.prog.godebug = none := by kernel_rfl
theorem driverNames_laid : laidOutB Tryz.prog = true := by kernel_rfl
theorem driverNames_gl : Am.Sigs.cx.gl = [0, 1] := rfl


theorem driverNames_met (os : Os) (args : Array Value) : laidMetH Tryz.prog Rows.driverNamesRow.laid ((World.doorLaid Tryz.prog 400 os).forCall (fun _ _ => 0) ⟨#[], args, []⟩).memory :=
  laidMetH_of_parts3 (fuel := 8) (laidMet_of_run' 8 (by kernel_rfl) (by kernel_rfl)) (by kernel_rfl) (by kernel_rfl)

theorem driverNames_g0 : Tryz.prog.globalNamed "roundhouse/flag.words" = some 1 := by kernel_rfl
theorem driverNames_t0 : (Tryz.prog.globals[1]?).map (·.type) = some 124 := by kernel_rfl
theorem driverNames_f0 : (Am.Fl.arr (t := 124) 3 6 (Am.Fl.arr (t := 123) 6 1 (Am.Fl.str (t := 9) Tryz.underlying9) Tryz.underlying123 (by kernel_rfl) (by kernel_rfl)) Tryz.underlying124 (by kernel_rfl) (by kernel_rfl)).f Rows.laid_roundhouse_flag_words = some Am.Sigs.lit_roundhouse_flag_words := by kernel_rfl
theorem driverNames_g1 : Tryz.prog.globalNamed "roundhouse/flag.has" = some 0 := by kernel_rfl
theorem driverNames_t1 : (Tryz.prog.globals[0]?).map (·.type) = some 107 := by kernel_rfl
theorem driverNames_f1 : (Am.Fl.arr (t := 107) 4 1 (Am.Fl.int .i64 (t := 3) Tryz.underlying3) Tryz.underlying107 (by kernel_rfl) (by kernel_rfl)).f Rows.laid_roundhouse_flag_has = some Am.Sigs.lit_roundhouse_flag_has := by kernel_rfl

set_option maxRecDepth 100000 in
set_option maxHeartbeats 4000000 in
theorem driverNames_lifted (os : Os) (started : os.Started) (H : Type) (enc : TypeId × Value → H) :
    ReturnsInHanded {} Tryz.checked os 4 .any (fun w args => (Rows.driverNamesSpec.pre enc Tryz.prog Tryz.f4 Rows.driverNamesRow.domain false w args ∧ laidMetH Tryz.prog Rows.driverNamesRow.laid w) ∧ sizedMet enc Tryz.prog Tryz.f4 (OpenSpec.ofChange Rows.driverNamesSpec) false w args)
      (Rows.driverNamesSpec.post enc Tryz.prog Tryz.f4 false true false false) := by
  refine returnsInHanded_of_change_and (C := Tryz.checked) (X := fun w _ => laidMetH Tryz.prog Rows.driverNamesRow.laid w) (fun _ _ _ hh h => h.of_heap hh) driverNames_own started (by kernel_rfl) Tryz.func4
    (ChangeSpec.witness_shaped (enc := enc) (C := Tryz.checked) (os := os) (X := fun w _ => laidMetH Tryz.prog Rows.driverNamesRow.laid w) false (World.doorLaid Tryz.prog 400 os) #[] 8 rfl (World.shaped_of_RefB (by kernel_rfl) (by kernel_rfl)) (by kernel_rfl) (by kernel_rfl) (by kernel_rfl) (driverNames_met os _)) ?_
  intro W base args ds gs before hval0 hW _ _ hL _
  have hval : ∀ (j : Nat) t v, Tryz.f4.params[j]? = some t → args[j]? = some v → Value.okWide Tryz.prog W .any base t v := hval0
  have hW' := hW
  obtain ⟨p, q, hA0, hV, rfl, hfz, hnd⟩ := hW
  have hA : DataW.TrodAll enc Tryz.prog W 0 (fun _ => true) true Tryz.f4.params.toList args.toList ds p := hA0
  rw [Tryz.params4] at hA hval
  obtain ⟨ha, rfl, rfl⟩ := Am.args_nil hA
  obtain rfl : args = #[] := by cases args; simp_all
  obtain ⟨rfl, rfl⟩ := trodVars_none hV
  have hlt := hW'.lt
  have r0 := Am.ro0 (P := Tryz.prog) (C := Am.Sigs.cx) (W := W) 2
  rw [MakeChecks.laidMetH_plain _ _ _ (by kernel_rfl)] at hL
  obtain ⟨ps, ⟨g0, t0, cs0, f0, pp0, qq0, hg0, ht0, hv0, hd0, ⟨g1, t1, cs1, f1, pp1, qq1, hg1, ht1, hv1, hd1, _, _⟩, _⟩, _, _⟩ := hL
  obtain rfl := Option.some.inj (driverNames_g0.symm.trans hg0)
  obtain rfl := Option.some.inj (driverNames_t0.symm.trans ht0)
  have s0 := r0.var (g := 1) (by rfl) (by decide) (Am.Fl.arr (t := 124) 3 6 (Am.Fl.arr (t := 123) 6 1 (Am.Fl.str (t := 9) Tryz.underlying9) Tryz.underlying123 (by kernel_rfl) (by kernel_rfl)) Tryz.underlying124 (by kernel_rfl) (by kernel_rfl)) hg0 hv0 hd0 driverNames_f0
  obtain rfl := Option.some.inj (driverNames_g1.symm.trans hg1)
  obtain rfl := Option.some.inj (driverNames_t1.symm.trans ht1)
  have s1 := s0.var (g := 0) (by rfl) (by decide) (Am.Fl.arr (t := 107) 4 1 (Am.Fl.int .i64 (t := 3) Tryz.underlying3) Tryz.underlying107 (by kernel_rfl) (by kernel_rfl)) hg1 hv1 hd1 driverNames_f1
  have r0' := s1
  obtain ⟨m0, e0, r0, hnx, l0, l1, hG⟩ : ∃ m0 e0, Am.RoMem Tryz.prog Am.Sigs.cx m0 e0 W ∧ e0.nx = 2 ∧ e0.get 1 = some (.cells Am.Sigs.lit_roundhouse_flag_words true) ∧ e0.get 0 = some (.cells Am.Sigs.lit_roundhouse_flag_has true) ∧ Am.GOk Am.Sigs.cx m0 := by
    refine ⟨_, _, r0', rfl, rfl, rfl, ?_⟩
    intro g hg
    rw [driverNames_gl] at hg
    have hg2 : g = 0 ∨ g = 1 := by simp [Am.nbeq] at hg; omega
    rcases hg2 with rfl | rfl
    · exact ⟨_, by rfl, rfl, rfl⟩
    · exact ⟨_, by rfl, rfl, rfl⟩
  obtain ⟨h', hr⟩ := Am.Sigs.driverNames_am (cl := Am.callN Am.Sigs.prog Am.Sigs.fuel) (fun _ => rfl) hnx (fun b hb => r0.wf b (by rw [hnx]; exact hb)) l0 l1
  refine (Am.call_fn (n := 59) (xs := #[]) (a := Am.Sigs.c4) driverNames_ok (by rfl) (by rfl) hr r0.rel hG rfl).calls fun m' w' x hs hx => ?_
  obtain rfl : x = .bool true := hx
  exact ⟨_, rfl, Am.post1 hs r0.noOwned hW' (fun _ _ _ => trodAll_mk1 (shut_bool (t := 4) (by kernel_rfl) true))
    trodAll_mk0 rfl⟩

theorem driverNames_row : Rows.DriverNamesSaid :=
  OpenClaim.holds_of_wide 4 Tryz.f4 rfl rfl rfl rfl rfl rfl rfl ⟨rfl, rfl, rfl, rfl, rfl⟩ rfl rfl rfl rfl rfl (by kernel_rfl) Tryz.func4 (by kernel_rfl)
    (of_decide_eq_true (by kernel_rfl)) (by unfold Func.isWrapper; first | (rw [if_pos (by decide +kernel)]; kernel_rfl) | (rw [if_neg (by decide +kernel)]; exact ⟨rfl, rfl⟩))
    (fun os started H enc _ => driverNames_lifted os started H enc)

theorem driverNames_holds : Rows.DriverNamesCardSaid :=
  Claim7.holds_tied_plain_at .later [] [.data, .data] true (true, "31d6c86a1ab9c1a50355cc49b627131c49c626ffb48da0f2521347d05b14c85a") false
    driverNames_row (fun _ h => by cases h) (by kernel_rfl) (fun _ h => by cases h) driverNames_row_tie rfl ⟨rfl, rfl⟩ (by kernel_rfl) rfl
    (fun f fn hf hfn => by
      obtain rfl : f = 4 := Option.some.inj ((show Tryz.prog.funcNamed "roundhouse/roundhouselaw21.DriverNames" = some 4 by kernel_rfl).symm.trans hf) |>.symm
      obtain rfl : fn = Tryz.f4 := (Option.some.inj (Tryz.func4.symm.trans hfn)).symm
      exact ⟨by kernel_rfl, fun j t ht => by
        rw [Tryz.params4] at ht
        match j, ht with

        | k + 0, ht => simp at ht⟩)
    (by kernel_rfl)

end Go.Proofs.YtloklombgjlofaaGreatDoor
