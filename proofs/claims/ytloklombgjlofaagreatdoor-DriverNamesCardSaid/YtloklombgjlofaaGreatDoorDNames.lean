/- The closed law roundhouselaw21_DriverNames, over the abstract machine: seen by running. -/
import Derived.Test.YtloklombgjlofaaGreatDoorWBase
import Derived.Test.YtloklombgjlofaaGreatDoorFast
namespace Am.Sigs
open Am Go

def wnMem : H := (((⟨2, .lf⟩ : H).set 1 (.cells lit_roundhouse_flag_words true)).set 0 (.cells lit_roundhouse_flag_has true))
set_option maxRecDepth 100000 in
theorem wn_runF : ran (callF prog fuel 60 (.fn F.roundhouselaw21_DriverNames) [] wnMem) (fun v _ => isTrue v) = true := by kernel_rfl
theorem wn_via {f g : Call} (e : f = g) {t : Tgt} {a : List V} {h : H} {P : V → H → Bool} (p : ran (f t a h) P = true) : ran (g t a h) P = true := e ▸ p
theorem wn_run : ran (callN prog fuel 60 (.fn F.roundhouselaw21_DriverNames) [] wnMem) (fun v _ => isTrue v) = true := wn_via (callF_eq prog fuel 60) wn_runF
theorem driverNames_am {cl : Nat → Call} (hcl : Sem cl) {h0 : H} (hnx : h0.nx = 2) (hwf : ∀ b, 2 ≤ b → h0.get b = none) (l1 : h0.get 1 = some (.cells lit_roundhouse_flag_words true)) (l0 : h0.get 0 = some (.cells lit_roundhouse_flag_has true)) :
    ∃ h', cl 60 (.fn F.roundhouselaw21_DriverNames) [] h0 = some (.bool true, h') := by
  obtain ⟨v, e, r, p⟩ := ran_ex wn_run
  obtain rfl := isTrue_eq p
  have x : Ext (fun j => if j = 1 ∨ j = 0 then none else h0.get j) wnMem h0 := by
    refine ⟨by rw [hnx]; rfl, fun j => ?_, fun j hj => ?_⟩
    · by_cases hj : j = 1 ∨ j = 0
      · rcases hj with rfl | rfl
        · rw [l1, show wnMem.get 1 = some (.cells lit_roundhouse_flag_words true) by unfold wnMem; rw [get_set_ne (by omega)]; exact get_set_self _]; rfl
        · rw [l0, show wnMem.get 0 = some (.cells lit_roundhouse_flag_has true) by unfold wnMem;  exact get_set_self _]; rfl
      · have e1 : wnMem.get j = none := by
          unfold wnMem
          rw [get_set_ne (by omega), get_set_ne (by omega)]; rfl
        rw [e1, if_neg hj]; rfl
    · by_cases hc : j = 1 ∨ j = 0
      · rw [if_pos hc] at hj; exact absurd rfl hj
      · rw [if_neg hc] at hj
        refine ⟨?_, ?_⟩
        · rcases Nat.lt_or_ge j 2 with h1 | h1
          · exact h1
          · exact absurd (hwf j h1) hj
        · unfold wnMem
          rw [get_set_ne (by omega), get_set_ne (by omega)]; rfl
  obtain ⟨h', q, _⟩ := same_in hcl r x
  exact ⟨h', q⟩
end Am.Sigs
