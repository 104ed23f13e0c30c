/- 'SigsPlay': for every input the call returns true, and the input reads as it did. No condition. -/
import Derived.Test.YtkppkibkoefkjaaRows
import Derived.Test.YtkppkibkoefkjaaDoor
import Derived.Test.YtkppkibkoefkjaaPlay4
import Derived.ProofKit
namespace Go.Proofs.Ytkppkibkoefkjaa
open Go.ChangeShapes Go.WideShapes Go.ChangeAt Go.RowKit

theorem sigsPlay_types : Am.tblCheck Try.prog Am.Sigs.cx.T = true := by kernel_rfl
theorem sigsPlay_fns : (Am.Sigs.prog.fns.all fun p => Am.fnM Try.prog Am.Sigs.cx p.1 p.2) = true := by kernel_rfl
set_option maxRecDepth 100000 in
theorem sigsPlay_ok : Am.ProgOk Try.prog Am.Sigs.cx Am.Sigs.prog where
  types := Am.TOk.of_check sigsPlay_types
  mixed := Try.checked.mixed
  fns := fun f a h => List.all_eq_true.1 sigsPlay_fns _ (Am.assoc_mem h)
  primF := fun f p h => by cases h
  primOk := fun f p h => by cases h
theorem sigsPlay_own : ownKnob Try.prog.godebug = none := by kernel_rfl
theorem sigsPlay_laid : laidOutB Try.prog = true := by kernel_rfl
theorem sigsPlay_gl : Am.Sigs.cx.gl = [] := rfl

noncomputable def sigsPlay_rd3 : Am.Rd Try.prog 3 Int := Am.Rd.int .i64 (t := 3) Try.underlying3 (by kernel_rfl)
noncomputable def sigsPlay_rd36_s1 : Am.Rd Try.prog 36 (Int × (Int × Unit)) := Am.Rd.st (t := 36) Try.underlying36 (Am.RdF.cons sigsPlay_rd3 rfl (Am.RdF.cons sigsPlay_rd3 rfl Am.RdF.nil)) (by kernel_rfl)
noncomputable def sigsPlay_rd29_0 : Am.Rd Try.prog 29 (List (Int × (Int × Unit))) := Am.Rd.slice 150 sigsPlay_rd36_s1 (t := 29) Try.underlying29 (by kernel_rfl) (by decide)

set_option maxRecDepth 100000 in
set_option maxHeartbeats 4000000 in
theorem sigsPlay_lifted (os : Os) (started : os.Started) (H : Type) (enc : TypeId × Value → H) :
    ReturnsInHanded {} Try.checked os 6 .any (Rows.sigsPlaySpec.pre6 enc Try.prog Try.f6 Rows.sigsPlayRow.domain false) (Rows.sigsPlaySpec.post enc Try.prog Try.f6 false true false false) := by
  refine returnsInHanded_of_change (C := Try.checked) sigsPlay_own started (by kernel_rfl) Try.func6
    (ChangeSpec.witness6 (enc := enc) (C := Try.checked) false ⟨#[], #[.slice none 0 0], []⟩ 8 (by kernel_rfl) (by kernel_rfl) (by kernel_rfl) (by kernel_rfl)) ?_
  intro W base args ds gs before hval0 hW hcnd _
  have hval : ∀ (j : Nat) t v, Try.f6.params[j]? = some t → args[j]? = some v → Value.okWide Try.prog W .any base t v := hval0
  have hW' := hW
  obtain ⟨p, q, hA0, hV, rfl, hfz, hnd⟩ := hW
  have hA : DataW.TrodAll enc Try.prog W 0 (fun _ => true) true Try.f6.params.toList args.toList ds p := hA0
  rw [Try.params6] at hA hval
  obtain ⟨v0, vs0, d0, ds0, p0, q0, ha, rfl, rfl, h0, hA1⟩ := Am.args_cons hA
  obtain ⟨rfl, rfl, rfl⟩ := Am.args_nil hA1
  obtain rfl : args = #[v0] := by cases args; simp_all
  obtain ⟨rfl, rfl⟩ := trodVars_none hV
  have hlt := hW'.lt
  have r0 := Am.ro0 (P := Try.prog) (C := Am.Sigs.cx) (W := W) 0
  have r0' := r0
  obtain ⟨x0, u0, m1, e1, r1, w0, n0, k0, y0⟩ := sigsPlay_rd29_0.arg rfl r0' (Am.cells_slice Try.underlying29 (hval 0 29 v0 rfl rfl)) h0
  have hnx : e1.nx = 1 := by rw [n0]; rfl
  obtain ⟨h', hr⟩ := Am.Sigs.play_am (cl := Am.callN Am.Sigs.prog Am.Sigs.fuel) (fun _ => rfl) hnx (fun b hb => r1.wf b (by rw [hnx]; exact hb)) k0
  refine (Am.call_fn (n := 19) (xs := #[v0]) (a := Am.Sigs.c6) sigsPlay_ok (by rfl) (by rfl) hr r1.rel (fun g hg => by rw [sigsPlay_gl] at hg; cases hg) ⟨_, _, rfl, y0, rfl⟩).calls fun m' w' x hs hx => ?_
  obtain rfl : x = .bool true := hx
  exact ⟨_, rfl, Am.post1 hs r1.noOwned hW' (fun _ _ _ => trodAll_mk1 (shut_bool (t := 4) (by kernel_rfl) true))
    (Am.args_mk (Below.trod sigsPlay_laid (by kernel_rfl) (of_decide_eq_true (by kernel_rfl)) h0 (Am.below_of hs r1.noOwned) (fun x hx => hlt x (by simp [hx]))) trodAll_mk0) rfl⟩

theorem sigsPlay_holds : Rows.SigsPlaySaid :=
  OpenClaim.holds_of_wide 6 Try.f6 rfl rfl rfl rfl rfl rfl rfl ⟨rfl, rfl, rfl, rfl, rfl⟩ rfl rfl rfl rfl rfl (by kernel_rfl) Try.func6 (by kernel_rfl)
    (of_decide_eq_true (by kernel_rfl)) (by unfold Func.isWrapper; first | (rw [if_pos (by decide +kernel)]; kernel_rfl) | (rw [if_neg (by decide +kernel)]; exact ⟨rfl, rfl⟩))
    (fun os started H enc _ => sigsPlay_lifted os started H enc)

end Go.Proofs.Ytkppkibkoefkjaa
