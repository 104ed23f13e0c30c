/- 'WorldBytes': for every input the call returns true, and the input reads as it did. No condition. -/
import Derived.Test.YtpbepbijgldagaaRows
import Derived.Test.YtpbepbijgldagaaDoor
import Derived.Test.YtpbepbijgldagaaWByAll
import Derived.ProofKit
namespace Go.Proofs.Ytpbepbijgldagaa
open Go.ChangeShapes Go.WideShapes Go.ChangeAt Go.RowKit

theorem worldBytes_types : Am.tblCheck Try.prog Am.Sigs.cx.T = true := by kernel_rfl
theorem worldBytes_fns : (Am.Sigs.prog.fns.all fun p => Am.fnM Try.prog Am.Sigs.cx p.1 p.2) = true := by kernel_rfl
set_option maxRecDepth 100000 in
theorem worldBytes_ok : Am.ProgOk Try.prog Am.Sigs.cx Am.Sigs.prog where
  types := Am.TOk.of_check worldBytes_types
  mixed := Try.checked.mixed
  fns := fun f a h => List.all_eq_true.1 worldBytes_fns _ (Am.assoc_mem h)
  primF := fun f p h => by cases h
  primOk := fun f p h => by cases h
theorem worldBytes_own : ownKnob Try.prog.godebug = none := by kernel_rfl
theorem worldBytes_laid : laidOutB Try.prog = true := by kernel_rfl
theorem worldBytes_gl : Am.Sigs.cx.gl = [] := rfl

noncomputable def worldBytes_rd5 : Am.Rd Try.prog 5 Int := Am.Rd.int .u8 (t := 5) Try.underlying5 (by kernel_rfl)
noncomputable def worldBytes_rd3 : Am.Rd Try.prog 3 Int := Am.Rd.int .i64 (t := 3) Try.underlying3 (by kernel_rfl)
noncomputable def worldBytes_rd45 : Am.Rd Try.prog 45 Int := Am.Rd.int .u64 (t := 45) Try.underlying45 (by kernel_rfl)
noncomputable def worldBytes_rd39_1 : Am.Rd Try.prog 39 (List Int) := Am.Rd.slice 300 worldBytes_rd5 (t := 39) Try.underlying39 (by kernel_rfl) (by decide)
noncomputable def worldBytes_rd54_s4 : Am.Rd Try.prog 54 (Int × (Int × (Int × (Int × ((List Int) × Unit))))) := Am.Rd.st (t := 54) Try.underlying54 (Am.RdF.cons worldBytes_rd3 rfl (Am.RdF.cons worldBytes_rd3 rfl (Am.RdF.cons worldBytes_rd3 rfl (Am.RdF.cons worldBytes_rd45 rfl (Am.RdF.cons worldBytes_rd39_1 rfl Am.RdF.nil))))) (by kernel_rfl)
noncomputable def worldBytes_rd50_0 : Am.Rd Try.prog 50 (List (Int × (Int × (Int × (Int × ((List Int) × Unit)))))) := Am.Rd.slice 200 worldBytes_rd54_s4 (t := 50) Try.underlying50 (by kernel_rfl) (by decide)

set_option maxRecDepth 100000 in
set_option maxHeartbeats 4000000 in
theorem worldBytes_lifted (os : Os) (started : os.Started) (H : Type) (enc : TypeId × Value → H) :
    ReturnsInHanded {} Try.checked os 5 .any (Rows.worldBytesSpec.pre6 enc Try.prog Try.f5 Rows.worldBytesRow.domain false) (Rows.worldBytesSpec.post enc Try.prog Try.f5 false true false false) := by
  refine returnsInHanded_of_change (C := Try.checked) worldBytes_own started (by kernel_rfl) Try.func5
    (ChangeSpec.witness6 (enc := enc) (C := Try.checked) false ⟨#[], #[.int .u8 0, .slice none 0 0], []⟩ 8 (by kernel_rfl) (by kernel_rfl) (by kernel_rfl) (by kernel_rfl)) ?_
  intro W base args ds gs before hval0 hW hcnd _
  have hval : ∀ (j : Nat) t v, Try.f5.params[j]? = some t → args[j]? = some v → Value.okWide Try.prog W .any base t v := hval0
  have hW' := hW
  obtain ⟨p, q, hA0, hV, rfl, hfz, hnd⟩ := hW
  have hA : DataW.TrodAll enc Try.prog W 0 (fun _ => true) true Try.f5.params.toList args.toList ds p := hA0
  rw [Try.params5] at hA hval
  obtain ⟨v0, vs0, d0, ds0, p0, q0, ha, rfl, rfl, h0, hA1⟩ := Am.args_cons hA
  obtain ⟨v1, vs1, d1, ds1, p1, q1, rfl, rfl, rfl, h1, hA2⟩ := Am.args_cons hA1
  obtain ⟨rfl, rfl, rfl⟩ := Am.args_nil hA2
  obtain rfl : args = #[v0, v1] := by cases args; simp_all
  obtain ⟨rfl, rfl⟩ := trodVars_none hV
  have hlt := hW'.lt
  have r0 := Am.ro0 (P := Try.prog) (C := Am.Sigs.cx) (W := W) 0
  have r0' := r0
  obtain ⟨x0, u0, m1, e1, r1, w0, n0, k0, y0⟩ := worldBytes_rd5.arg rfl r0' (Am.cells_int Try.underlying5 (hval 0 5 v0 rfl rfl)) h0
  obtain ⟨x1, u1, m2, e2, r2, w1, n1, k1, y1⟩ := worldBytes_rd50_0.arg rfl r1 (Am.cells_slice Try.underlying50 (hval 1 50 v1 rfl rfl)) h1
  have hnx : e2.nx = 201 := by rw [n1, n0]; rfl
  obtain ⟨h', hr⟩ := Am.Sigs.bytes_am (cl := Am.callN Am.Sigs.prog Am.Sigs.fuel) (fun _ => rfl) hnx (fun b hb => r2.wf b (by rw [hnx]; exact hb)) (worldBytes_rd5.keep w1.nx w1.get k0) k1
  refine (Am.call_fn (n := 30) (xs := #[v0, v1]) (a := Am.Sigs.c5) worldBytes_ok (by rfl) (by rfl) hr r2.rel (fun g hg => by rw [worldBytes_gl] at hg; cases hg) ⟨_, _, rfl, (y0.mono w1.mono), ⟨_, _, rfl, y1, rfl⟩⟩).calls fun m' w' x hs hx => ?_
  obtain rfl : x = .bool true := hx
  exact ⟨_, rfl, Am.post1 hs r2.noOwned hW' (fun _ _ _ => trodAll_mk1 (shut_bool (t := 4) (by kernel_rfl) true))
    (Am.args_mk (Below.trod worldBytes_laid (by kernel_rfl) (of_decide_eq_true (by kernel_rfl)) h0 (Am.below_of hs r2.noOwned) (fun x hx => hlt x (by simp [hx]))) (Am.args_mk (Below.trod worldBytes_laid (by kernel_rfl) (of_decide_eq_true (by kernel_rfl)) h1 (Am.below_of hs r2.noOwned) (fun x hx => hlt x (by simp [hx]))) trodAll_mk0)) rfl⟩

theorem worldBytes_holds : Rows.WorldBytesSaid :=
  OpenClaim.holds_of_wide 5 Try.f5 rfl rfl rfl rfl rfl rfl rfl ⟨rfl, rfl, rfl, rfl, rfl⟩ rfl rfl rfl rfl rfl (by kernel_rfl) Try.func5 (by kernel_rfl)
    (of_decide_eq_true (by kernel_rfl)) (by unfold Func.isWrapper; first | (rw [if_pos (by decide +kernel)]; kernel_rfl) | (rw [if_neg (by decide +kernel)]; exact ⟨rfl, rfl⟩))
    (fun os started H enc _ => worldBytes_lifted os started H enc)

end Go.Proofs.Ytpbepbijgldagaa
