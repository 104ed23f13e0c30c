/- 'WorldEnds': for every input the call returns true, and the input reads as it did. No condition. -/
import Derived.Test.YtpbepbijgldagaaRows
import Derived.Test.YtpbepbijgldagaaDoor
import Derived.Test.YtpbepbijgldagaaWEnds
import Derived.ProofKit
namespace Go.Proofs.Ytpbepbijgldagaa
open Go.ChangeShapes Go.WideShapes Go.ChangeAt Go.RowKit

theorem worldEnds_types : Am.tblCheck Try.prog Am.Sigs.cx.T = true := by kernel_rfl
theorem worldEnds_fns : (Am.Sigs.prog.fns.all fun p => Am.fnM Try.prog Am.Sigs.cx p.1 p.2) = true := by kernel_rfl
set_option maxRecDepth 100000 in
theorem worldEnds_ok : Am.ProgOk Try.prog Am.Sigs.cx Am.Sigs.prog where
  types := Am.TOk.of_check worldEnds_types
  mixed := Try.checked.mixed
  fns := fun f a h => List.all_eq_true.1 worldEnds_fns _ (Am.assoc_mem h)
  primF := fun f p h => by cases h
  primOk := fun f p h => by cases h
theorem worldEnds_own : ownKnob Try.prog.godebug = none := by kernel_rfl
theorem worldEnds_laid : laidOutB Try.prog = true := by kernel_rfl
theorem worldEnds_gl : Am.Sigs.cx.gl = [] := rfl

noncomputable def worldEnds_rd5 : Am.Rd Try.prog 5 Int := Am.Rd.int .u8 (t := 5) Try.underlying5 (by kernel_rfl)
noncomputable def worldEnds_rd39_0 : Am.Rd Try.prog 39 (List Int) := Am.Rd.slice 300 worldEnds_rd5 (t := 39) Try.underlying39 (by kernel_rfl) (by decide)

set_option maxRecDepth 100000 in
set_option maxHeartbeats 4000000 in
theorem worldEnds_lifted (os : Os) (started : os.Started) (H : Type) (enc : TypeId × Value → H) :
    ReturnsInHanded {} Try.checked os 4 .any (Rows.worldEndsSpec.pre6 enc Try.prog Try.f4 Rows.worldEndsRow.domain false) (Rows.worldEndsSpec.post enc Try.prog Try.f4 false true false false) := by
  refine returnsInHanded_of_change (C := Try.checked) worldEnds_own started (by kernel_rfl) Try.func4
    (ChangeSpec.witness6 (enc := enc) (C := Try.checked) false ⟨#[], #[.int .u8 0, .slice none 0 0, .int .u8 0], []⟩ 8 (by kernel_rfl) (by kernel_rfl) (by kernel_rfl) (by kernel_rfl)) ?_
  intro W base args ds gs before hval0 hW hcnd _
  have hval : ∀ (j : Nat) t v, Try.f4.params[j]? = some t → args[j]? = some v → Value.okWide Try.prog W .any base t v := hval0
  have hW' := hW
  obtain ⟨p, q, hA0, hV, rfl, hfz, hnd⟩ := hW
  have hA : DataW.TrodAll enc Try.prog W 0 (fun _ => true) true Try.f4.params.toList args.toList ds p := hA0
  rw [Try.params4] at hA hval
  obtain ⟨v0, vs0, d0, ds0, p0, q0, ha, rfl, rfl, h0, hA1⟩ := Am.args_cons hA
  obtain ⟨v1, vs1, d1, ds1, p1, q1, rfl, rfl, rfl, h1, hA2⟩ := Am.args_cons hA1
  obtain ⟨v2, vs2, d2, ds2, p2, q2, rfl, rfl, rfl, h2, hA3⟩ := Am.args_cons hA2
  obtain ⟨rfl, rfl, rfl⟩ := Am.args_nil hA3
  obtain rfl : args = #[v0, v1, v2] := by cases args; simp_all
  obtain ⟨rfl, rfl⟩ := trodVars_none hV
  have hlt := hW'.lt
  have r0 := Am.ro0 (P := Try.prog) (C := Am.Sigs.cx) (W := W) 0
  have r0' := r0
  obtain ⟨x0, u0, m1, e1, r1, w0, n0, k0, y0⟩ := worldEnds_rd5.arg rfl r0' (Am.cells_int Try.underlying5 (hval 0 5 v0 rfl rfl)) h0
  obtain ⟨x1, u1, m2, e2, r2, w1, n1, k1, y1⟩ := worldEnds_rd39_0.arg rfl r1 (Am.cells_slice Try.underlying39 (hval 1 39 v1 rfl rfl)) h1
  obtain ⟨x2, u2, m3, e3, r3, w2, n2, k2, y2⟩ := worldEnds_rd5.arg rfl r2 (Am.cells_int Try.underlying5 (hval 2 5 v2 rfl rfl)) h2
  have hnx : e3.nx = 1 := by rw [n2, n1, n0]; rfl
  obtain ⟨h', hr⟩ := Am.Sigs.ends_am (cl := Am.callN Am.Sigs.prog Am.Sigs.fuel) (fun _ => rfl) hnx (fun b hb => r3.wf b (by rw [hnx]; exact hb)) (worldEnds_rd5.keep (w1.trans w2).nx (w1.trans w2).get k0) (worldEnds_rd39_0.keep w2.nx w2.get k1) k2
  refine (Am.call_fn (n := 30) (xs := #[v0, v1, v2]) (a := Am.Sigs.c4) worldEnds_ok (by rfl) (by rfl) hr r3.rel (fun g hg => by rw [worldEnds_gl] at hg; cases hg) ⟨_, _, rfl, (y0.mono (w1.trans w2).mono), ⟨_, _, rfl, (y1.mono w2.mono), ⟨_, _, rfl, y2, rfl⟩⟩⟩).calls fun m' w' x hs hx => ?_
  obtain rfl : x = .bool true := hx
  exact ⟨_, rfl, Am.post1 hs r3.noOwned hW' (fun _ _ _ => trodAll_mk1 (shut_bool (t := 4) (by kernel_rfl) true))
    (Am.args_mk (Below.trod worldEnds_laid (by kernel_rfl) (of_decide_eq_true (by kernel_rfl)) h0 (Am.below_of hs r3.noOwned) (fun x hx => hlt x (by simp [hx]))) (Am.args_mk (Below.trod worldEnds_laid (by kernel_rfl) (of_decide_eq_true (by kernel_rfl)) h1 (Am.below_of hs r3.noOwned) (fun x hx => hlt x (by simp [hx]))) (Am.args_mk (Below.trod worldEnds_laid (by kernel_rfl) (of_decide_eq_true (by kernel_rfl)) h2 (Am.below_of hs r3.noOwned) (fun x hx => hlt x (by simp [hx]))) trodAll_mk0))) rfl⟩

theorem worldEnds_holds : Rows.WorldEndsSaid :=
  OpenClaim.holds_of_wide 4 Try.f4 rfl rfl rfl rfl rfl rfl rfl ⟨rfl, rfl, rfl, rfl, rfl⟩ rfl rfl rfl rfl rfl (by kernel_rfl) Try.func4 (by kernel_rfl)
    (of_decide_eq_true (by kernel_rfl)) (by unfold Func.isWrapper; first | (rw [if_pos (by decide +kernel)]; kernel_rfl) | (rw [if_neg (by decide +kernel)]; exact ⟨rfl, rfl⟩))
    (fun os started H enc _ => worldEnds_lifted os started H enc)

end Go.Proofs.Ytpbepbijgldagaa
