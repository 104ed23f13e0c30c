/- 'PolFlags': for every input the call returns true, and the input reads as it did. No condition. -/
import Derived.Test.YtkppkibkoefkjaaRows
import Derived.Test.YtkppkibkoefkjaaDoor
import Derived.Test.YtkppkibkoefkjaaPolFlags
import Derived.ProofKit
namespace Go.Proofs.Ytkppkibkoefkjaa
open Go.ChangeShapes Go.WideShapes Go.ChangeAt Go.RowKit

theorem polFlags_types : Am.tblCheck Try.prog Am.Sigs.cx.T = true := by kernel_rfl
theorem polFlags_fns : (Am.Sigs.prog.fns.all fun p => Am.fnM Try.prog Am.Sigs.cx p.1 p.2) = true := by kernel_rfl
theorem polFlags_ok : Am.ProgOk Try.prog Am.Sigs.cx Am.Sigs.prog where
  types := Am.TOk.of_check polFlags_types
  mixed := Try.checked.mixed
  fns := fun f a h => List.all_eq_true.1 polFlags_fns _ (Am.assoc_mem h)
  primF := fun f p h => by cases h
  primOk := fun f p h => by cases h
theorem polFlags_own : ownKnob Try.prog.godebug = none := by kernel_rfl
theorem polFlags_laid : laidOutB Try.prog = true := by kernel_rfl

noncomputable def polFlags_rd5 : Am.Rd Try.prog 5 Int := Am.Rd.int .u8 (t := 5) Try.underlying5 (by kernel_rfl)

set_option maxRecDepth 100000 in
theorem polFlags_lifted (os : Os) (started : os.Started) (H : Type) (enc : TypeId × Value → H) :
    ReturnsInHanded {} Try.checked os 3 .any (Rows.polFlagsSpec.pre6 enc Try.prog Try.f3 Rows.polFlagsRow.domain false) (Rows.polFlagsSpec.post enc Try.prog Try.f3 false true false false) := by
  refine returnsInHanded_of_change (C := Try.checked) polFlags_own started (by kernel_rfl) Try.func3
    (ChangeSpec.witness6 (enc := enc) (C := Try.checked) false ⟨#[], #[.int .u8 0, .int .u8 0], []⟩ 8 (by kernel_rfl) (by kernel_rfl) (by kernel_rfl) (by kernel_rfl)) ?_
  intro W base args ds gs before hval0 hW hcnd _
  have hval : ∀ (j : Nat) t v, Try.f3.params[j]? = some t → args[j]? = some v → Value.okWide Try.prog W .any base t v := hval0
  have hW' := hW
  obtain ⟨p, q, hA0, hV, rfl, hfz, hnd⟩ := hW
  have hA : DataW.TrodAll enc Try.prog W 0 (fun _ => true) true Try.f3.params.toList args.toList ds p := hA0
  rw [Try.params3] at hA hval
  obtain ⟨v0, vs0, d0, ds0, p0, q0, ha, rfl, rfl, h0, hA1⟩ := Am.args_cons hA
  obtain ⟨v1, vs1, d1, ds1, p1, q1, rfl, rfl, rfl, h1, hA2⟩ := Am.args_cons hA1
  obtain ⟨rfl, rfl, rfl⟩ := Am.args_nil hA2
  obtain rfl : args = #[v0, v1] := by cases args; simp_all
  obtain ⟨rfl, rfl⟩ := trodVars_none hV
  have hlt := hW'.lt
  have r0 := Am.ro0 (P := Try.prog) (C := Am.Sigs.cx) (W := W) 0
  have r0' := r0
  obtain ⟨x0, u0, m1, e1, r1, w0, n0, k0, y0⟩ := polFlags_rd5.arg rfl r0' (Am.cells_int Try.underlying5 (hval 0 5 v0 rfl rfl)) h0
  obtain ⟨x1, u1, m2, e2, r2, w1, n1, k1, y1⟩ := polFlags_rd5.arg rfl r1 (Am.cells_int Try.underlying5 (hval 1 5 v1 rfl rfl)) h1
  have hnx : e2.nx = 0 := by rw [n1, n0]; rfl
  obtain ⟨h', hr⟩ := Am.Sigs.flags_am2 (cl := Am.callN Am.Sigs.prog Am.Sigs.fuel) (fun _ => rfl) hnx (fun b hb => r2.wf b (by rw [hnx]; exact hb)) (polFlags_rd5.keep w1.nx w1.get k0) k1
  refine (Am.call_fn (n := 9) (xs := #[v0, v1]) (a := Am.Sigs.c3) polFlags_ok (by rfl) (by rfl) hr r2.rel (fun g hg => by simp [Am.Sigs.cx] at hg) ⟨_, _, rfl, (y0.mono w1.mono), ⟨_, _, rfl, y1, rfl⟩⟩).calls fun m' w' x hs hx => ?_
  obtain rfl : x = .bool true := hx
  exact ⟨_, rfl, Am.post1 hs r2.noOwned hW' (fun _ _ _ => trodAll_mk1 (shut_bool (t := 4) (by kernel_rfl) true))
    (Am.args_mk (Below.trod polFlags_laid (by kernel_rfl) (of_decide_eq_true (by kernel_rfl)) h0 (Am.below_of hs r2.noOwned) (fun x hx => hlt x (by simp [hx]))) (Am.args_mk (Below.trod polFlags_laid (by kernel_rfl) (of_decide_eq_true (by kernel_rfl)) h1 (Am.below_of hs r2.noOwned) (fun x hx => hlt x (by simp [hx]))) trodAll_mk0)) rfl⟩

theorem polFlags_holds : Rows.PolFlagsSaid :=
  OpenClaim.holds_of_wide 3 Try.f3 rfl rfl rfl rfl rfl rfl rfl ⟨rfl, rfl, rfl, rfl, rfl⟩ rfl rfl rfl rfl rfl (by kernel_rfl) Try.func3 (by kernel_rfl)
    (of_decide_eq_true (by kernel_rfl)) (by unfold Func.isWrapper; first | (rw [if_pos (by decide +kernel)]; kernel_rfl) | (rw [if_neg (by decide +kernel)]; exact ⟨rfl, rfl⟩))
    (fun os started H enc _ => polFlags_lifted os started H enc)

end Go.Proofs.Ytkppkibkoefkjaa
