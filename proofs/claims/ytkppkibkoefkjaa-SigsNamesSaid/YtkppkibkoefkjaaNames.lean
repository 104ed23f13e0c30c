/- 'SigsNames': a closed law. -/
import Derived.Test.YtkppkibkoefkjaaRows
import Derived.Test.YtkppkibkoefkjaaWrap
import Derived.Test.YtkppkibkoefkjaaNamesCode
import Derived.ProofKit
namespace Go.Proofs.Ytkppkibkoefkjaa
open Go.ChangeShapes Go.WideShapes Go.ChangeAt Go.RowKit

theorem sn_types : Am.tblCheck Try.prog Am.SN.cx.T = true := by kernel_rfl
theorem sn_fns : (Am.SN.prog.fns.all fun p => Am.fnM Try.prog Am.SN.cx p.1 p.2) = true := by kernel_rfl

def sn_true : Option (Am.V × Am.H) → Bool
  | some (.bool b, _) => b
  | _ => false

theorem sn_run : sn_true (Am.callN Am.SN.prog 1000 40 (.fn 7) [] Am.H0) = true := by kernel_rfl

theorem sn_run' : ∃ h', Am.callN Am.SN.prog 1000 40 (.fn 7) [] Am.H0 = some (.bool true, h') := by
  have h := sn_run
  unfold sn_true at h
  split at h
  · next b h' e => subst h; exact ⟨h', e⟩
  · cases h

theorem sn_ok : Am.ProgOk Try.prog Am.SN.cx Am.SN.prog where
  types := Am.TOk.of_check sn_types
  mixed := Try.checked.mixed
  fns := fun f a h => List.all_eq_true.1 sn_fns _ (Am.assoc_mem h)
  primF := fun f p h => by cases h
  primOk := fun f p h => by cases h

theorem sn_calls (W : World) : Calls Try.prog 7 #[] W fun e W' => e = .returned (.bool true) ∧ ∃ m' h', Am.Step Try.prog Am.SN.cx 0 Am.m0 Am.H0 W m' h' W' := by
  obtain ⟨h', hr⟩ := sn_run'
  refine (Am.call_fn (xs := #[]) (a := Am.SN.c7) sn_ok (by rfl) (by rfl) hr (Am.rel0 W) (Am.gok0 (by rfl)) rfl).calls fun m' w' x hs hx => ⟨?_, m', h', hs⟩
  rw [show x = _ from hx]

theorem sn_own : ownKnob Try.prog.godebug = none := by kernel_rfl

set_option maxRecDepth 100000 in
theorem sigsNames_lifted (os : Os) (started : os.Started) (H : Type) (enc : TypeId × Value → H) :
    ReturnsInHanded {} Try.checked os 7 .any (Rows.sigsNamesSpec.pre6 enc Try.prog Try.f7 Rows.sigsNamesRow.domain false) (Rows.sigsNamesSpec.post enc Try.prog Try.f7 false true false false) := by
  refine returnsInHanded_of_change (C := Try.checked) sn_own started (by kernel_rfl) Try.func7
    (ChangeSpec.witness6 (enc := enc) (C := Try.checked) false ⟨#[], #[], []⟩ 8 (by kernel_rfl) (by kernel_rfl) (by kernel_rfl) (by kernel_rfl)) ?_
  intro W base args ds gs before hval0 hW hcnd _
  have hW' := hW
  obtain ⟨p, q, hA0, hV, rfl, hfz, hnd⟩ := hW
  have hA : DataW.TrodAll enc Try.prog W 0 (fun _ => true) true Try.f7.params.toList args.toList ds p := hA0
  rw [Try.params7] at hA
  obtain ⟨rfl, rfl, rfl⟩ := trodAll_none hA
  obtain ⟨rfl, rfl⟩ := trodVars_none hV
  refine (sn_calls W).mono fun e W' ⟨he, m', h', hs⟩ => ?_
  subst he
  exact ⟨_, rfl, Am.post0 hs hW' (fun _ _ _ => trodAll_mk1 (shut_bool (t := 4) (by kernel_rfl) true)) (fun _ => trodAll_mk0) (fun _ => rfl) (ok_one (by kernel_rfl) rfl (okWide_bool_mk (t := 4) (by kernel_rfl) true))⟩

theorem sigsNames_holds : Rows.SigsNamesSaid :=
  OpenClaim.holds_of_wide 7 Try.f7 rfl rfl rfl rfl rfl rfl rfl ⟨rfl, rfl, rfl, rfl, rfl⟩ rfl rfl rfl rfl rfl (by kernel_rfl) Try.func7 (by kernel_rfl)
    (of_decide_eq_true (by kernel_rfl)) (by unfold Func.isWrapper; first | (rw [if_pos (by decide +kernel)]; kernel_rfl) | (rw [if_neg (by decide +kernel)]; exact ⟨rfl, rfl⟩))
    (fun os started H enc _ => sigsNames_lifted os started H enc)

end Go.Proofs.Ytkppkibkoefkjaa
