/- 'SelNames' is closed: the call returns true. No condition. -/
import Derived.Test.YtpbepbijgldagaaRows
import Derived.Test.YtpbepbijgldagaaWrap
import Derived.Test.YtpbepbijgldagaaSelNamesCode
import Derived.ProofKit
namespace Go.Proofs.Ytpbepbijgldagaa
open Go.ChangeShapes Go.WideShapes Go.ChangeAt Go.RowKit

theorem selNames_types : Am.tblCheck Try.prog Am.SelNames.cx.T = true := by kernel_rfl
theorem selNames_fns : (Am.SelNames.prog.fns.all fun p => Am.fnM Try.prog Am.SelNames.cx p.1 p.2) = true := by kernel_rfl

def selNames_true : Option (Am.V × Am.H) → Bool
  | some (.bool b, _) => b
  | _ => false

theorem selNames_run : selNames_true (Am.callN Am.SelNames.prog 2000 60 (.fn 6) [] Am.H0) = true := by kernel_rfl

theorem selNames_run' : ∃ h', Am.callN Am.SelNames.prog 2000 60 (.fn 6) [] Am.H0 = some (.bool true, h') := by
  have h := selNames_run
  unfold selNames_true at h
  split at h
  · next b h' e => subst h; exact ⟨h', e⟩
  · cases h

theorem selNames_ok : Am.ProgOk Try.prog Am.SelNames.cx Am.SelNames.prog where
  types := Am.TOk.of_check selNames_types
  mixed := Try.checked.mixed
  fns := fun f a h => List.all_eq_true.1 selNames_fns _ (Am.assoc_mem h)
  primF := fun f p h => by cases h
  primOk := fun f p h => by cases h

theorem selNames_calls (W : World) : Calls Try.prog 6 #[] W fun e W' => e = .returned (.bool true) ∧ ∃ m' h', Am.Step Try.prog Am.SelNames.cx 0 Am.m0 Am.H0 W m' h' W' := by
  obtain ⟨h', hr⟩ := selNames_run'
  refine (Am.call_fn (xs := #[]) (a := Am.SelNames.c6) selNames_ok (by rfl) (by rfl) hr (Am.rel0 W) (Am.gok0 (by rfl)) rfl).calls fun m' w' x hs hx => ⟨?_, m', h', hs⟩
  rw [show x = _ from hx]

theorem selNames_own : ownKnob Try.prog.godebug = none := by kernel_rfl

set_option maxRecDepth 100000 in
theorem selNames_lifted (os : Os) (started : os.Started) (H : Type) (enc : TypeId × Value → H) :
    ReturnsInHanded {} Try.checked os 6 .any (Rows.selNamesSpec.pre6 enc Try.prog Try.f6 Rows.selNamesRow.domain false) (Rows.selNamesSpec.post enc Try.prog Try.f6 false true false false) := by
  refine returnsInHanded_of_change (C := Try.checked) selNames_own started (by kernel_rfl) Try.func6
    (ChangeSpec.witness6 (enc := enc) (C := Try.checked) false ⟨#[], #[], []⟩ 8 (by kernel_rfl) (by kernel_rfl) (by kernel_rfl) (by kernel_rfl)) ?_
  intro W base args ds gs before hval0 hW hcnd _
  have hW' := hW
  obtain ⟨p, q, hA0, hV, rfl, hfz, hnd⟩ := hW
  have hA : DataW.TrodAll enc Try.prog W 0 (fun _ => true) true Try.f6.params.toList args.toList ds p := hA0
  rw [Try.params6] at hA
  obtain ⟨rfl, rfl, rfl⟩ := trodAll_none hA
  obtain ⟨rfl, rfl⟩ := trodVars_none hV
  refine (selNames_calls W).mono fun e W' ⟨he, m', h', hs⟩ => ?_
  subst he
  exact ⟨_, rfl, Am.post0 hs hW' (fun _ _ _ => trodAll_mk1 (shut_bool (t := 4) (by kernel_rfl) true)) (fun _ => trodAll_mk0) (fun _ => rfl) (ok_one (by kernel_rfl) rfl (okWide_bool_mk (t := 4) (by kernel_rfl) true))⟩

theorem selNames_holds : Rows.SelNamesSaid :=
  OpenClaim.holds_of_wide 6 Try.f6 rfl rfl rfl rfl rfl rfl rfl ⟨rfl, rfl, rfl, rfl, rfl⟩ rfl rfl rfl rfl rfl (by kernel_rfl) Try.func6 (by kernel_rfl)
    (of_decide_eq_true (by kernel_rfl)) (by unfold Func.isWrapper; first | (rw [if_pos (by decide +kernel)]; kernel_rfl) | (rw [if_neg (by decide +kernel)]; exact ⟨rfl, rfl⟩))
    (fun os started H enc _ => selNames_lifted os started H enc)

end Go.Proofs.Ytpbepbijgldagaa
