/- 'PolEach': for every input the call returns true, and the input reads as it did. No condition. -/
import Derived.Test.YtkcenemffnfoeaaGreatK24
import Derived.Test.YtkcenemffnfoeaaGreatRows
import Derived.ProofKit
namespace Go.Proofs.YtkcenemffnfoeaaGreat
open Go.ChangeShapes Go.WideShapes Go.ChangeAt Go.RowKit

theorem polEach_types : Am.jje Tryz.prog Am.Sigs.cx.T = true := by kernel_rfl
theorem polEach_fns : (Am.Sigs.prog.fns.all fun p => Am.fnM Tryz.prog Am.Sigs.cx p.1 p.2) = true := by kernel_rfl
set_option maxRecDepth 100000 in
theorem polEach_ok : Am.ProgOk Tryz.prog Am.Sigs.cx Am.Sigs.prog where
  types := Am.TOk.of_check polEach_types
  mixed := Tryz.checked.mixed
  fns := fun f a h => List.all_eq_true.1 polEach_fns _ (Am.jgp h)
  primF := fun f p h => by cases h
  primOk := fun f p h => by cases h
theorem polEach_own : ownKnob Tryz.prog.godebug = none := by kernel_rfl
theorem polEach_laid : laidOutB Tryz.prog = true := by kernel_rfl
theorem polEach_gl : Am.Sigs.cx.gl = [] := rfl

noncomputable def polEach_rd3 : Am.Rd Tryz.prog 3 Int := Am.Rd.int .i64 (t := 3) Tryz.underlying3 (by kernel_rfl)
noncomputable def polEach_rd27 : Am.Rd Tryz.prog 27 Int := Am.Rd.int .u64 (t := 27) Tryz.underlying27 (by kernel_rfl)
noncomputable def polEach_rd5 : Am.Rd Tryz.prog 5 Int := Am.Rd.int .u8 (t := 5) Tryz.underlying5 (by kernel_rfl)
noncomputable def polEach_rd39_1 : Am.Rd Tryz.prog 39 (List Int) := Am.Rd.slice 300 polEach_rd5 (t := 39) Tryz.underlying39 (by kernel_rfl) (by decide)
noncomputable def polEach_rd41_s4 : Am.Rd Tryz.prog 41 (Int × (Int × (Int × (Int × ((List Int) × Unit))))) := Am.Rd.st (t := 41) Tryz.underlying41 (Am.RdF.cons polEach_rd3 rfl (Am.RdF.cons polEach_rd3 rfl (Am.RdF.cons polEach_rd3 rfl (Am.RdF.cons polEach_rd27 rfl (Am.RdF.cons polEach_rd39_1 rfl Am.RdF.nil))))) (by kernel_rfl)
noncomputable def polEach_rd22_0 : Am.Rd Tryz.prog 22 (List (Int × (Int × (Int × (Int × ((List Int) × Unit)))))) := Am.Rd.slice 200 polEach_rd41_s4 (t := 22) Tryz.underlying22 (by kernel_rfl) (by decide)
noncomputable def polEach_rd80_s6 : Am.Rd Tryz.prog 80 (Int × (Int × Unit)) := Am.Rd.st (t := 80) Tryz.underlying80 (Am.RdF.cons polEach_rd3 rfl (Am.RdF.cons polEach_rd3 rfl Am.RdF.nil)) (by kernel_rfl)
noncomputable def polEach_rd50_2 : Am.Rd Tryz.prog 50 (List (Int × (Int × Unit))) := Am.Rd.slice 50 polEach_rd80_s6 (t := 50) Tryz.underlying50 (by kernel_rfl) (by decide)

set_option maxRecDepth 100000 in
set_option maxHeartbeats 4000000 in
theorem polEach_lifted (os : Os) (started : os.Started) (H : Type) (enc : TypeId × Value → H) :
    ReturnsInHanded {} Tryz.checked os 4 .any (Rows.polEachSpec.pre6 enc Tryz.prog Tryz.f4 Rows.polEachRow.domain false) (Rows.polEachSpec.post enc Tryz.prog Tryz.f4 false true false false) := by
  refine returnsInHanded_of_change (C := Tryz.checked) polEach_own started (by kernel_rfl) Tryz.func4
    (ChangeSpec.witness6 (enc := enc) (C := Tryz.checked) false ⟨#[], #[.slice none 0 0, .slice none 0 0], []⟩ 8 (by kernel_rfl) (by kernel_rfl) (by kernel_rfl) (by kernel_rfl)) ?_
  intro W base args ds gs before hval0 hW hcnd _
  have hval : ∀ (j : Nat) t v, Tryz.f4.params[j]? = some t → args[j]? = some v → Value.okWide Tryz.prog W .any base t v := hval0
  have hW' := hW
  obtain ⟨p, q, hA0, hV, rfl, hfz, hnd⟩ := hW
  have hA : DataW.TrodAll enc Tryz.prog W 0 (fun _ => true) true Tryz.f4.params.toList args.toList ds p := hA0
  rw [Tryz.params4] at hA hval
  obtain ⟨v0, vs0, d0, ds0, p0, q0, ha, rfl, rfl, h0, hA1⟩ := Am.jip hA
  obtain ⟨v1, vs1, d1, ds1, p1, q1, rfl, rfl, rfl, h1, hA2⟩ := Am.jip hA1
  obtain ⟨rfl, rfl, rfl⟩ := Am.args_nil hA2
  obtain rfl : args = #[v0, v1] := by cases args; simp_all
  obtain ⟨rfl, rfl⟩ := trodVars_none hV
  have hlt := hW'.lt
  have r0 := Am.ro0 (P := Tryz.prog) (C := Am.Sigs.cx) (W := W) 0
  have r0' := r0
  obtain ⟨x0, u0, m1, e1, r1, w0, n0, k0, y0⟩ := polEach_rd22_0.arg rfl r0' (Am.jgh Tryz.underlying22 (hval 0 22 v0 rfl rfl)) h0
  obtain ⟨x1, u1, m2, e2, r2, w1, n1, k1, y1⟩ := polEach_rd50_2.arg rfl r1 (Am.jgh Tryz.underlying50 (hval 1 50 v1 rfl rfl)) h1
  have hnx : e2.nx = 202 := by rw [n1, n0]; rfl
  obtain ⟨h', hr⟩ := Am.Sigs.jka (cl := Am.jbF Am.Sigs.prog Am.Sigs.fuel) (fun _ => rfl) hnx (fun b hb => r2.wf b (by rw [hnx]; exact hb)) (polEach_rd22_0.keep w1.nx w1.get k0) k1
  refine (Am.call_fn (n := 30) (xs := #[v0, v1]) (a := Am.Sigs.c4) polEach_ok (by rfl) (by rfl) hr r2.rel (fun g hg => by rw [polEach_gl] at hg; cases hg) ⟨_, _, rfl, (y0.mono w1.mono), ⟨_, _, rfl, y1, rfl⟩⟩).calls fun m' w' x hs hx => ?_
  obtain rfl : x = .bool true := hx
  exact ⟨_, rfl, Am.post1 hs r2.noOwned hW' (fun _ _ _ => trodAll_mk1 (shut_bool (t := 4) (by kernel_rfl) true))
    (Am.jle (Below.trod polEach_laid (by kernel_rfl) (of_decide_eq_true (by kernel_rfl)) h0 (Am.jhx hs r2.noOwned) (fun x hx => hlt x (by simp [hx]))) (Am.jle (Below.trod polEach_laid (by kernel_rfl) (of_decide_eq_true (by kernel_rfl)) h1 (Am.jhx hs r2.noOwned) (fun x hx => hlt x (by simp [hx]))) trodAll_mk0)) rfl⟩

theorem polEach_holds : Rows.PolEachSaid :=
  OpenClaim.holds_of_wide 4 Tryz.f4 rfl rfl rfl rfl rfl rfl rfl ⟨rfl, rfl, rfl, rfl, rfl⟩ rfl rfl rfl rfl rfl (by kernel_rfl) Tryz.func4 (by kernel_rfl)
    (of_decide_eq_true (by kernel_rfl)) (by unfold Func.isWrapper; first | (rw [if_pos (by decide +kernel)]; kernel_rfl) | (rw [if_neg (by decide +kernel)]; exact ⟨rfl, rfl⟩))
    (fun os started H enc _ => polEach_lifted os started H enc)

end Go.Proofs.YtkcenemffnfoeaaGreat
