/- 'DriverMakes': for every input the call returns true, and the input reads as it did. The listed variables read as the text lays them. -/
import Derived.Test.YtnebbcobonadaaaDoorRows
import Derived.Test.YtnebbcobonadaaaDoorCards
import Derived.Test.YtnebbcobonadaaaDoorTie
import Derived.Test.YtnebbcobonadaaaDoorDoor
import Derived.Test.YtnebbcobonadaaaDoorMakes5
import Derived.ProofKit
import Derived.LaidMore
import Derived.SevenTiedAt
namespace Go.Proofs.YtnebbcobonadaaaDoor
open Go.ChangeShapes Go.WideShapes Go.ChangeAt Go.RowKit

theorem driverMakes_types : Am.tblCheck Tryd.prog Am.Sigs.cx.T = true := by kernel_rfl
theorem driverMakes_fns : (Am.Sigs.prog.fns.all fun p => Am.fnM Tryd.prog Am.Sigs.cx p.1 p.2) = true := by kernel_rfl
set_option maxRecDepth 100000 in
theorem driverMakes_ok : Am.ProgOk Tryd.prog Am.Sigs.cx Am.Sigs.prog where
  types := Am.TOk.of_check driverMakes_types
  mixed := Tryd.checked.mixed
  fns := fun f a h => List.all_eq_true.1 driverMakes_fns _ (Am.assoc_mem h)
  primF := fun f p h => by cases h
  primOk := fun f p h => by cases h
theorem driverMakes_own : ownKnob Tryd.prog.godebug = none := by kernel_rfl
theorem driverMakes_laid : laidOutB Tryd.prog = true := by kernel_rfl
theorem driverMakes_gl : Am.Sigs.cx.gl = [0, 1] := rfl

noncomputable def driverMakes_rd3 : Am.Rd Tryd.prog 3 Int := Am.Rd.int .i64 (t := 3) Tryd.underlying3 (by kernel_rfl)
noncomputable def driverMakes_rd22_0 : Am.Rd Tryd.prog 22 (List Int) := Am.Rd.slice 50 driverMakes_rd3 (t := 22) Tryd.underlying22 (by kernel_rfl) (by decide)

theorem driverMakes_met (os : Os) (args : Array Value) : laidMetH Tryd.prog Rows.driverMakesRow.laid ((World.doorLaid Tryd.prog 400 os).forCall (fun _ _ => 0) ⟨#[], args, []⟩).memory :=
  laidMetH_of_parts3 (fuel := 8) (laidMet_of_run' 8 (by kernel_rfl) (by kernel_rfl)) (by kernel_rfl) (by kernel_rfl)

theorem driverMakes_g0 : Tryd.prog.globalNamed "roundhouse/flag.words" = some 1 := by kernel_rfl
theorem driverMakes_t0 : (Tryd.prog.globals[1]?).map (·.type) = some 97 := by kernel_rfl
theorem driverMakes_f0 : (Am.Fl.arr (t := 97) 3 6 (Am.Fl.arr (t := 96) 6 1 (Am.Fl.str (t := 9) Tryd.underlying9) Tryd.underlying96 (by kernel_rfl) (by kernel_rfl)) Tryd.underlying97 (by kernel_rfl) (by kernel_rfl)).f Rows.laid_roundhouse_flag_words = some Am.Sigs.lit_roundhouse_flag_words := by kernel_rfl
theorem driverMakes_g1 : Tryd.prog.globalNamed "roundhouse/flag.has" = some 0 := by kernel_rfl
theorem driverMakes_t1 : (Tryd.prog.globals[0]?).map (·.type) = some 87 := by kernel_rfl
theorem driverMakes_f1 : (Am.Fl.arr (t := 87) 4 1 (Am.Fl.int .i64 (t := 3) Tryd.underlying3) Tryd.underlying87 (by kernel_rfl) (by kernel_rfl)).f Rows.laid_roundhouse_flag_has = some Am.Sigs.lit_roundhouse_flag_has := by kernel_rfl

set_option maxRecDepth 100000 in
set_option maxHeartbeats 4000000 in
theorem driverMakes_lifted (os : Os) (started : os.Started) (H : Type) (enc : TypeId × Value → H) :
    ReturnsInHanded {} Tryd.checked os 3 .any (fun w args => (Rows.driverMakesSpec.pre enc Tryd.prog Tryd.f3 Rows.driverMakesRow.domain false w args ∧ laidMetH Tryd.prog Rows.driverMakesRow.laid w) ∧ sizedMet enc Tryd.prog Tryd.f3 (OpenSpec.ofChange Rows.driverMakesSpec) false w args)
      (Rows.driverMakesSpec.post enc Tryd.prog Tryd.f3 false true false false) := by
  refine returnsInHanded_of_change_and (C := Tryd.checked) (X := fun w _ => laidMetH Tryd.prog Rows.driverMakesRow.laid w) (fun _ _ _ hh h => h.of_heap hh) driverMakes_own started (by kernel_rfl) Tryd.func3
    (ChangeSpec.witness_shaped (enc := enc) (C := Tryd.checked) (os := os) (X := fun w _ => laidMetH Tryd.prog Rows.driverMakesRow.laid w) false (World.doorLaid Tryd.prog 400 os) #[.int .i64 0, .int .i64 0, .int .i64 0, .int .i64 0, .slice none 0 0] 8 rfl (World.shaped_of_RefB (by kernel_rfl) (by kernel_rfl)) (by kernel_rfl) (by kernel_rfl) (by kernel_rfl) (driverMakes_met os _)) ?_
  intro W base args ds gs before hval0 hW _ _ hL _
  have hval : ∀ (j : Nat) t v, Tryd.f3.params[j]? = some t → args[j]? = some v → Value.okWide Tryd.prog W .any base t v := hval0
  have hW' := hW
  obtain ⟨p, q, hA0, hV, rfl, hfz, hnd⟩ := hW
  have hA : DataW.TrodAll enc Tryd.prog W 0 (fun _ => true) true Tryd.f3.params.toList args.toList ds p := hA0
  rw [Tryd.params3] at hA hval
  obtain ⟨v0, vs0, d0, ds0, p0, q0, ha, rfl, rfl, h0, hA1⟩ := Am.args_cons hA
  obtain ⟨v1, vs1, d1, ds1, p1, q1, rfl, rfl, rfl, h1, hA2⟩ := Am.args_cons hA1
  obtain ⟨v2, vs2, d2, ds2, p2, q2, rfl, rfl, rfl, h2, hA3⟩ := Am.args_cons hA2
  obtain ⟨v3, vs3, d3, ds3, p3, q3, rfl, rfl, rfl, h3, hA4⟩ := Am.args_cons hA3
  obtain ⟨v4, vs4, d4, ds4, p4, q4, rfl, rfl, rfl, h4, hA5⟩ := Am.args_cons hA4
  obtain ⟨rfl, rfl, rfl⟩ := Am.args_nil hA5
  obtain rfl : args = #[v0, v1, v2, v3, v4] := by cases args; simp_all
  obtain ⟨rfl, rfl⟩ := trodVars_none hV
  have hlt := hW'.lt
  have r0 := Am.ro0 (P := Tryd.prog) (C := Am.Sigs.cx) (W := W) 2
  rw [MakeChecks.laidMetH_plain _ _ _ (by kernel_rfl)] at hL
  obtain ⟨ps, ⟨g0, t0, cs0, f0, pp0, qq0, hg0, ht0, hv0, hd0, ⟨g1, t1, cs1, f1, pp1, qq1, hg1, ht1, hv1, hd1, _, _⟩, _⟩, _, _⟩ := hL
  obtain rfl := Option.some.inj (driverMakes_g0.symm.trans hg0)
  obtain rfl := Option.some.inj (driverMakes_t0.symm.trans ht0)
  have s0 := r0.var (g := 1) (by rfl) (by decide) (Am.Fl.arr (t := 97) 3 6 (Am.Fl.arr (t := 96) 6 1 (Am.Fl.str (t := 9) Tryd.underlying9) Tryd.underlying96 (by kernel_rfl) (by kernel_rfl)) Tryd.underlying97 (by kernel_rfl) (by kernel_rfl)) hg0 hv0 hd0 driverMakes_f0
  obtain rfl := Option.some.inj (driverMakes_g1.symm.trans hg1)
  obtain rfl := Option.some.inj (driverMakes_t1.symm.trans ht1)
  have s1 := s0.var (g := 0) (by rfl) (by decide) (Am.Fl.arr (t := 87) 4 1 (Am.Fl.int .i64 (t := 3) Tryd.underlying3) Tryd.underlying87 (by kernel_rfl) (by kernel_rfl)) hg1 hv1 hd1 driverMakes_f1
  have r0' := s1
  obtain ⟨x0, u0, m1, e1, r1, w0, n0, k0, y0⟩ := driverMakes_rd3.arg rfl r0' (Am.cells_int Tryd.underlying3 (hval 0 3 v0 rfl rfl)) h0
  obtain ⟨x1, u1, m2, e2, r2, w1, n1, k1, y1⟩ := driverMakes_rd3.arg rfl r1 (Am.cells_int Tryd.underlying3 (hval 1 3 v1 rfl rfl)) h1
  obtain ⟨x2, u2, m3, e3, r3, w2, n2, k2, y2⟩ := driverMakes_rd3.arg rfl r2 (Am.cells_int Tryd.underlying3 (hval 2 3 v2 rfl rfl)) h2
  obtain ⟨x3, u3, m4, e4, r4, w3, n3, k3, y3⟩ := driverMakes_rd3.arg rfl r3 (Am.cells_int Tryd.underlying3 (hval 3 3 v3 rfl rfl)) h3
  obtain ⟨x4, u4, m5, e5, r5, w4, n4, k4, y4⟩ := driverMakes_rd22_0.arg rfl r4 (Am.cells_slice Tryd.underlying22 (hval 4 22 v4 rfl rfl)) h4
  have hnx : e5.nx = 3 := by rw [n4, n3, n2, n1, n0]; rfl
  have l0 : e5.get 1 = some (.cells Am.Sigs.lit_roundhouse_flag_words true) := by rw [((((w0.trans w1).trans w2).trans w3).trans w4).get 1 (by decide)]; rfl
  have l1 : e5.get 0 = some (.cells Am.Sigs.lit_roundhouse_flag_has true) := by rw [((((w0.trans w1).trans w2).trans w3).trans w4).get 0 (by decide)]; rfl
  obtain ⟨h', hr⟩ := Am.Sigs.makes_am (cl := Am.callN Am.Sigs.prog Am.Sigs.fuel) (fun _ => rfl) hnx (fun b hb => r5.wf b (by rw [hnx]; exact hb)) l0 l1 (driverMakes_rd3.keep (((w1.trans w2).trans w3).trans w4).nx (((w1.trans w2).trans w3).trans w4).get k0) (driverMakes_rd3.keep ((w2.trans w3).trans w4).nx ((w2.trans w3).trans w4).get k1) (driverMakes_rd3.keep (w3.trans w4).nx (w3.trans w4).get k2) (driverMakes_rd3.keep w4.nx w4.get k3) k4
  have hG : Am.GOk Am.Sigs.cx m5 := by
    intro g hg
    rw [driverMakes_gl] at hg
    have hg2 : g = 0 ∨ g = 1 := by simp [Am.nbeq] at hg; omega
    rcases hg2 with rfl | rfl
    · exact ⟨_, ((((w0.trans w1).trans w2).trans w3).trans w4).mono _ _ (by rfl), rfl, rfl⟩
    · exact ⟨_, ((((w0.trans w1).trans w2).trans w3).trans w4).mono _ _ (by rfl), rfl, rfl⟩
  refine (Am.call_fn (n := 30) (xs := #[v0, v1, v2, v3, v4]) (a := Am.Sigs.c3) driverMakes_ok (by rfl) (by rfl) hr r5.rel hG ⟨_, _, rfl, (y0.mono (((w1.trans w2).trans w3).trans w4).mono), ⟨_, _, rfl, (y1.mono ((w2.trans w3).trans w4).mono), ⟨_, _, rfl, (y2.mono (w3.trans w4).mono), ⟨_, _, rfl, (y3.mono w4.mono), ⟨_, _, rfl, y4, rfl⟩⟩⟩⟩⟩).calls fun m' w' x hs hx => ?_
  obtain rfl : x = .bool true := hx
  exact ⟨_, rfl, Am.post1 hs r5.noOwned hW' (fun _ _ _ => trodAll_mk1 (shut_bool (t := 4) (by kernel_rfl) true))
    (Am.args_mk (Below.trod driverMakes_laid (by kernel_rfl) (of_decide_eq_true (by kernel_rfl)) h0 (Am.below_of hs r5.noOwned) (fun x hx => hlt x (by simp [hx]))) (Am.args_mk (Below.trod driverMakes_laid (by kernel_rfl) (of_decide_eq_true (by kernel_rfl)) h1 (Am.below_of hs r5.noOwned) (fun x hx => hlt x (by simp [hx]))) (Am.args_mk (Below.trod driverMakes_laid (by kernel_rfl) (of_decide_eq_true (by kernel_rfl)) h2 (Am.below_of hs r5.noOwned) (fun x hx => hlt x (by simp [hx]))) (Am.args_mk (Below.trod driverMakes_laid (by kernel_rfl) (of_decide_eq_true (by kernel_rfl)) h3 (Am.below_of hs r5.noOwned) (fun x hx => hlt x (by simp [hx]))) (Am.args_mk (Below.trod driverMakes_laid (by kernel_rfl) (of_decide_eq_true (by kernel_rfl)) h4 (Am.below_of hs r5.noOwned) (fun x hx => hlt x (by simp [hx]))) trodAll_mk0))))) rfl⟩

theorem driverMakes_row : Rows.DriverMakesSaid :=
  OpenClaim.holds_of_wide 3 Tryd.f3 rfl rfl rfl rfl rfl rfl rfl ⟨rfl, rfl, rfl, rfl, rfl⟩ rfl rfl rfl rfl rfl (by kernel_rfl) Tryd.func3 (by kernel_rfl)
    (of_decide_eq_true (by kernel_rfl)) (by unfold Func.isWrapper; first | (rw [if_pos (by decide +kernel)]; kernel_rfl) | (rw [if_neg (by decide +kernel)]; exact ⟨rfl, rfl⟩))
    (fun os started H enc _ => driverMakes_lifted os started H enc)

theorem driverMakes_holds : Rows.DriverMakesCardSaid :=
  Claim7.holds_tied_plain_at .later [] [.data, .data] true (true, "822b83f619cf7729604894bb0fd36c091d9bc93ea1431be60d130e60a04e1751") false
    driverMakes_row (fun _ h => by cases h) (by kernel_rfl) (fun _ h => by cases h) driverMakes_row_tie rfl ⟨rfl, rfl⟩ (by kernel_rfl) rfl
    (fun f fn hf hfn => by
      obtain rfl : f = 3 := Option.some.inj ((show Tryd.prog.funcNamed "roundhouse/roundhouselaw21.DriverMakes" = some 3 by kernel_rfl).symm.trans hf) |>.symm
      obtain rfl : fn = Tryd.f3 := (Option.some.inj (Tryd.func3.symm.trans hfn)).symm
      exact ⟨by kernel_rfl, fun j t ht => by
        rw [Tryd.params3] at ht
        match j, ht with
        | 0, ht => cases ht; exact (show Tryd.prog.wantsStandIn 3 = false by kernel_rfl)
        | 1, ht => cases ht; exact (show Tryd.prog.wantsStandIn 3 = false by kernel_rfl)
        | 2, ht => cases ht; exact (show Tryd.prog.wantsStandIn 3 = false by kernel_rfl)
        | 3, ht => cases ht; exact (show Tryd.prog.wantsStandIn 3 = false by kernel_rfl)
        | 4, ht => cases ht; exact (show Tryd.prog.wantsStandIn 22 = false by kernel_rfl)
        | k + 5, ht => simp at ht⟩)
    (by kernel_rfl)

end Go.Proofs.YtnebbcobonadaaaDoor
