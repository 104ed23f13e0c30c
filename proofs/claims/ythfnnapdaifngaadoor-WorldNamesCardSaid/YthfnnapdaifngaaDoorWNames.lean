/- The closed law roundhouselaw11_WorldNames, over the abstract machine: seen by running. -/
import Derived.Test.YthfnnapdaifngaaDoorWBase
namespace Am.Sigs
open Am Go

def wnMem : H := ((((⟨4, .lf⟩ : H).set 2 (.cells lit_math_bits_deBruijn32tab true)).set 3 (.cells lit_math_bits_deBruijn64tab true)).set 0 (.cells lit_internal_strconv_uint64pow10 true))
set_option maxRecDepth 100000 in
theorem wn_run : ran (callN prog fuel 60 (.fn F.roundhouselaw11_WorldNames) [] wnMem) (fun v _ => isTrue v) = true := by kernel_rfl
theorem worldNames_am {cl : Nat → Call} (hcl : Sem cl) {h0 : H} (hnx : h0.nx = 4) (hwf : ∀ b, 4 ≤ b → h0.get b = none) (l2 : h0.get 2 = some (.cells lit_math_bits_deBruijn32tab true)) (l3 : h0.get 3 = some (.cells lit_math_bits_deBruijn64tab true)) (l0 : h0.get 0 = some (.cells lit_internal_strconv_uint64pow10 true)) :
    ∃ h', cl 60 (.fn F.roundhouselaw11_WorldNames) [] h0 = some (.bool true, h') := by
  obtain ⟨v, e, r, p⟩ := ran_ex wn_run
  obtain rfl := isTrue_eq p
  have x : Ext (fun j => if j = 2 ∨ j = 3 ∨ j = 0 then none else h0.get j) wnMem h0 := by
    refine ⟨by rw [hnx]; rfl, fun j => ?_, fun j hj => ?_⟩
    · by_cases hj : j = 2 ∨ j = 3 ∨ j = 0
      · rcases hj with rfl | rfl | rfl
        · rw [l2, show wnMem.get 2 = some (.cells lit_math_bits_deBruijn32tab true) by unfold wnMem; rw [get_set_ne (by omega)]; rw [get_set_ne (by omega)]; exact get_set_self _]; rfl
        · rw [l3, show wnMem.get 3 = some (.cells lit_math_bits_deBruijn64tab true) by unfold wnMem; rw [get_set_ne (by omega)]; exact get_set_self _]; rfl
        · rw [l0, show wnMem.get 0 = some (.cells lit_internal_strconv_uint64pow10 true) by unfold wnMem;  exact get_set_self _]; rfl
      · have e1 : wnMem.get j = none := by
          unfold wnMem
          rw [get_set_ne (by omega), get_set_ne (by omega), get_set_ne (by omega)]; rfl
        rw [e1, if_neg hj]; rfl
    · by_cases hc : j = 2 ∨ j = 3 ∨ j = 0
      · rw [if_pos hc] at hj; exact absurd rfl hj
      · rw [if_neg hc] at hj
        refine ⟨?_, ?_⟩
        · rcases Nat.lt_or_ge j 4 with h1 | h1
          · exact h1
          · exact absurd (hwf j h1) hj
        · unfold wnMem
          rw [get_set_ne (by omega), get_set_ne (by omega), get_set_ne (by omega)]; rfl
  obtain ⟨h', q, _⟩ := same_in hcl r x
  exact ⟨h', q⟩
end Am.Sigs
