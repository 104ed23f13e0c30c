/- 'DpollNames' is closed: the call returns true. No condition. -/
import Derived.Test.YtjkijoiogdojnaaGreatRows
import Derived.Test.YtjkijoiogdojnaaGreatWrap
import Derived.Test.YtjkijoiogdojnaaGreatDpollNamesCode
import Derived.Test.YtjkijoiogdojnaaGreatFast
import Derived.ProofKit
namespace Go.Proofs.YtjkijoiogdojnaaGreat
open Go.ChangeShapes Go.WideShapes Go.ChangeAt Go.RowKit

theorem dpollNames_types : Am.tblCheck Tryz.prog Am.DpollNames.cx.T = true := by kernel_rfl
theorem dpollNames_fns : (Am.DpollNames.prog.fns.all fun p => Am.fnM Tryz.prog Am.DpollNames.cx p.1 p.2) = true := by kernel_rfl

def dpollNames_true : Option (Am.V × Am.H) → Bool
  | some (.bool b, _) => b
  | _ => false

theorem dpollNames_runF : dpollNames_true (Am.callF Am.DpollNames.prog 2000 60 (.fn 3) [] Am.H0) = true := by kernel_rfl
theorem dpollNames_via {f g : Am.Call} (e : f = g) {t : Am.Tgt} {a : List Am.V} {h : Am.H} (p : dpollNames_true (f t a h) = true) : dpollNames_true (g t a h) = true := e ▸ p
theorem dpollNames_run : dpollNames_true (Am.callN Am.DpollNames.prog 2000 60 (.fn 3) [] Am.H0) = true := dpollNames_via (Am.callF_eq Am.DpollNames.prog 2000 60) dpollNames_runF

theorem dpollNames_ex : ∀ {r : Option (Am.V × Am.H)}, dpollNames_true r = true → ∃ h', r = some (.bool true, h')
  | some (.bool b, h'), h => by
    obtain rfl : b = true := h
    exact ⟨h', rfl⟩
theorem dpollNames_run' : ∃ h', Am.callN Am.DpollNames.prog 2000 60 (.fn 3) [] Am.H0 = some (.bool true, h') := dpollNames_ex dpollNames_run

theorem dpollNames_x107 : Am.Ext1 Tryz.prog 107 Extern.BytealgIndexByte.indexByte := ⟨_, Tryz.func107, by kernel_rfl, by kernel_rfl, by kernel_rfl, by kernel_rfl⟩
set_option maxRecDepth 100000 in
theorem dpollNames_ok : Am.ProgOk Tryz.prog Am.DpollNames.cx Am.DpollNames.prog where
  types := Am.TOk.of_check dpollNames_types
  mixed := Tryz.checked.mixed
  fns := fun f a h => List.all_eq_true.1 dpollNames_fns _ (Am.assoc_mem h)
  primF := Am.PrimsF.of (List.forall_mem_cons.2 ⟨Am.pIndexByte_F, fun _ h => nomatch h⟩)
  primOk := Am.PrimsOk.of (List.forall_mem_cons.2 ⟨Am.pIndexByte_ok dpollNames_x107, fun _ h => nomatch h⟩)

theorem dpollNames_calls (W : World) : Calls Tryz.prog 3 #[] W fun e W' => e = .returned (.bool true) ∧ ∃ m' h', Am.Step Tryz.prog Am.DpollNames.cx 0 Am.m0 Am.H0 W m' h' W' := by
  obtain ⟨h', hr⟩ := dpollNames_run'
  refine (Am.call_fn (xs := #[]) (a := Am.DpollNames.c3) dpollNames_ok (by rfl) (by rfl) hr (Am.rel0 W) (Am.gok0 (by rfl)) rfl).calls fun m' w' x hs hx => ⟨?_, m', h', hs⟩
  rw [show x = _ from hx]

set_option maxRecDepth 100000 in
theorem dpollNames_own : ownKnob Tryz.prog.godebug = none := by kernel_rfl

set_option maxRecDepth 100000 in
theorem dpollNames_lifted (os : Os) (started : os.Started) (H : Type) (enc : TypeId × Value → H) :
    ReturnsInHanded {} Tryz.checked os 3 .any (Rows.dpollNamesSpec.pre6 enc Tryz.prog Tryz.f3 Rows.dpollNamesRow.domain false) (Rows.dpollNamesSpec.post enc Tryz.prog Tryz.f3 false true false false) := by
  refine returnsInHanded_of_change (C := Tryz.checked) dpollNames_own started (by kernel_rfl) Tryz.func3
    (ChangeSpec.witness6 (enc := enc) (C := Tryz.checked) false ⟨#[], #[], []⟩ 8 (by kernel_rfl) (by kernel_rfl) (by kernel_rfl) (by kernel_rfl)) ?_
  intro W base args ds gs before hval0 hW hcnd _
  have hW' := hW
  obtain ⟨p, q, hA0, hV, rfl, hfz, hnd⟩ := hW
  have hA : DataW.TrodAll enc Tryz.prog W 0 (fun _ => true) true Tryz.f3.params.toList args.toList ds p := hA0
  rw [Tryz.params3] at hA
  obtain ⟨rfl, rfl, rfl⟩ := trodAll_none hA
  obtain ⟨rfl, rfl⟩ := trodVars_none hV
  refine (dpollNames_calls W).mono fun e W' ⟨he, m', h', hs⟩ => ?_
  subst he
  exact ⟨_, rfl, Am.post0 hs hW' (fun _ _ _ => trodAll_mk1 (shut_bool (t := 4) (by kernel_rfl) true)) (fun _ => trodAll_mk0) (fun _ => rfl) (ok_one (by kernel_rfl) rfl (okWide_bool_mk (t := 4) (by kernel_rfl) true))⟩

theorem dpollNames_holds : Rows.DpollNamesSaid :=
  OpenClaim.holds_of_wide 3 Tryz.f3 rfl rfl rfl rfl rfl rfl rfl ⟨rfl, rfl, rfl, rfl, rfl⟩ rfl rfl rfl rfl rfl (by kernel_rfl) Tryz.func3 (by kernel_rfl)
    (of_decide_eq_true (by kernel_rfl)) (by unfold Func.isWrapper; first | (rw [if_pos (by decide +kernel)]; kernel_rfl) | (rw [if_neg (by decide +kernel)]; exact ⟨rfl, rfl⟩))
    (fun os started H enc _ => dpollNames_lifted os started H enc)

end Go.Proofs.YtjkijoiogdojnaaGreat
