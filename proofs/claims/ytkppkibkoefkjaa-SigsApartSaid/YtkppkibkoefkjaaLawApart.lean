/- 'SigsApart': for every list of calls and every signal the call returns true, and the input reads as it did. No condition. -/
import Derived.Test.YtkppkibkoefkjaaRows
import Derived.Test.YtkppkibkoefkjaaOpen
import Derived.Test.YtkppkibkoefkjaaSigsApart
import Derived.ProofKit
namespace Go.Proofs.Ytkppkibkoefkjaa
open Go.ChangeShapes Go.WideShapes Go.ChangeAt Go.RowKit

theorem sigsApart_types : Am.tblCheck Try.prog Am.Sigs.cx.T = true := by kernel_rfl
theorem sigsApart_fns : (Am.Sigs.prog.fns.all fun p => Am.fnM Try.prog Am.Sigs.cx p.1 p.2) = true := by kernel_rfl

theorem sigsApart_ok : Am.ProgOk Try.prog Am.Sigs.cx Am.Sigs.prog where
  types := Am.TOk.of_check sigsApart_types
  mixed := Try.checked.mixed
  fns := fun f a h => List.all_eq_true.1 sigsApart_fns _ (Am.assoc_mem h)
  primF := fun f p h => by cases h
  primOk := fun f p h => by cases h

theorem sigsApart_own : ownKnob Try.prog.godebug = none := by kernel_rfl
theorem sigsApart_laid : laidOutB Try.prog = true := by kernel_rfl

set_option maxRecDepth 100000 in
theorem sigsApart_lifted (os : Os) (started : os.Started) (H : Type) (enc : TypeId × Value → H) :
    ReturnsInHanded {} Try.checked os 5 .any (Rows.sigsApartSpec.pre6 enc Try.prog Try.f5 Rows.sigsApartRow.domain false) (Rows.sigsApartSpec.post enc Try.prog Try.f5 false true false false) := by
  refine returnsInHanded_of_change (C := Try.checked) sigsApart_own started (by kernel_rfl) Try.func5
    (ChangeSpec.witness6 (enc := enc) (C := Try.checked) false ⟨#[], #[.slice none 0 0, .int .i64 0], []⟩ 8 (by kernel_rfl) (by kernel_rfl) (by kernel_rfl) (by kernel_rfl)) ?_
  intro W base args ds gs before hval0 hW hcnd _
  have hval : ∀ (j : Nat) t v, Try.f5.params[j]? = some t → args[j]? = some v → Value.okWide Try.prog W .any base t v := hval0
  have hW' := hW
  obtain ⟨p, q, hA0, hV, rfl, hfz, hnd⟩ := hW
  have hA : DataW.TrodAll enc Try.prog W 0 (fun _ => true) true Try.f5.params.toList args.toList ds p := hA0
  rw [Try.params5] at hA hval
  obtain ⟨v0, v1, d0, d1, p0, p1, rfl, rfl, rfl, h0, h1⟩ := trodAll_two hA
  obtain ⟨rfl, rfl⟩ := trodVars_none hV
  obtain ⟨sig, rfl, rfl, rfl, wsig⟩ := open_int Try.underlying3 (hval 1 3 v1 rfl rfl) h1
  obtain ⟨l, a, c, m, h, hnx, hwf, hin, hR, hno, hv⟩ := Am.open_pairs (C := Am.Sigs.cx) Try.underlying29 Try.underlying36 rfl rfl Try.underlying3 Try.underlying3 (by kernel_rfl) (by kernel_rfl) (by kernel_rfl) (hval 0 29 v0 rfl rfl) h0
  have hlt := hW'.lt
  obtain ⟨h', hr⟩ := Am.Sigs.apart_am (cl := Am.callN Am.Sigs.prog Am.Sigs.fuel) (fun _ => rfl) (l := l) (sig := sig) (a := a) (c := c) hnx hwf hin
  refine (Am.call_fn (xs := #[v0, .int .i64 sig]) (a := Am.Sigs.c5) sigsApart_ok (by rfl) (by rfl) hr hR (fun g hg => by simp [Am.Sigs.cx] at hg) ⟨_, _, rfl, hv, _, _, rfl, rfl, rfl⟩).calls fun m' w' x hs hx => ?_
  obtain rfl : x = .bool true := hx
  exact ⟨_, rfl, Am.post1 hs hno hW' (fun _ _ _ => trodAll_mk1 (shut_bool (t := 4) (by kernel_rfl) true))
    (trodAll_mk2 (Below.trod sigsApart_laid (by kernel_rfl) (of_decide_eq_true (by kernel_rfl)) h0 (Am.below_of hs hno) (fun x hx => hlt x (by simp [hx]))) (shut_int Try.underlying3 wsig)) rfl⟩

theorem sigsApart_holds : Rows.SigsApartSaid :=
  OpenClaim.holds_of_wide 5 Try.f5 rfl rfl rfl rfl rfl rfl rfl ⟨rfl, rfl, rfl, rfl, rfl⟩ rfl rfl rfl rfl rfl (by kernel_rfl) Try.func5 (by kernel_rfl)
    (of_decide_eq_true (by kernel_rfl)) (by unfold Func.isWrapper; first | (rw [if_pos (by decide +kernel)]; kernel_rfl) | (rw [if_neg (by decide +kernel)]; exact ⟨rfl, rfl⟩))
    (fun os started H enc _ => sigsApart_lifted os started H enc)

end Go.Proofs.Ytkppkibkoefkjaa
