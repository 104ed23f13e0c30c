/- The law PolFlags, over the abstract machine: all masks, one after another. -/
import Derived.Test.YtkppkibkoefkjaaFlagsA
import Derived.Test.YtkppkibkoefkjaaFlagsB
import Derived.Test.YtkppkibkoefkjaaFlagsC
import Derived.Test.YtkppkibkoefkjaaFlagsD
import Derived.Test.YtkppkibkoefkjaaRep
namespace Am.Sigs
open Am Go

theorem flags_all : ∀ k, k < 16 → flagsPart k = true
  | 0, _ => flags_0
  | 1, _ => flags_1
  | 2, _ => flags_2
  | 3, _ => flags_3
  | 4, _ => flags_4
  | 5, _ => flags_5
  | 6, _ => flags_6
  | 7, _ => flags_7
  | 8, _ => flags_8
  | 9, _ => flags_9
  | 10, _ => flags_10
  | 11, _ => flags_11
  | 12, _ => flags_12
  | 13, _ => flags_13
  | 14, _ => flags_14
  | 15, _ => flags_15
  | n + 16, h => absurd h (by omega)

theorem mask_of {a : Int} (h0 : 0 ≤ a) : ∃ w : Nat, w < 64 ∧ IntKind.wrap .i64 (a.tmod 64) = Int.ofNat w := by
  obtain ⟨n, rfl⟩ := Int.eq_ofNat_of_zero_le h0
  refine ⟨n % 64, by omega, ?_⟩
  have : ((n : Int).tmod 64) = ((n % 64 : Nat) : Int) := by
    rw [Int.tmod_eq_emod_of_nonneg (by omega)]; simp
  rw [this]
  exact wrap_fits ⟨by omega, by omega⟩

/-- The law, over the abstract machine. -/
theorem flags_am {cl : Nat → Call} (hcl : Sem cl) {a b : Int} (ha : 0 ≤ a) (hb : 0 ≤ b) :
    ∃ h', cl 10 (.fn F.roundhouselaw14_PolFlags) [.int .u8 a, .int .u8 b] ⟨0, .lf⟩ = some (.bool true, h') := by
  suffices ∃ h', cl 10 (.fn F.roundhouselaw14_PolFlags) [.int .u8 a, .int .u8 b] ⟨0, .lf⟩ = some (.bool true, h') ∧ True by
    obtain ⟨h', q, _⟩ := this; exact ⟨h', q⟩
  obtain ⟨w, hw, ew⟩ := mask_of ha
  obtain ⟨i, hi, ei⟩ := mask_of hb
  refine call_ex (at_ hcl (by omega) rfl rfl rfl ?_)
  refine zab (zac (zaa rfl (zad (by repeat (first|(apply Kept.cons; exact rfl)|apply Kept.nil|(apply Kept.miss; exact rfl))) (zae ?_))))
  refine zab (zac (zaa rfl (zau rfl rfl (zau rfl rfl (zaa rfl (zad (by repeat (first|(apply Kept.cons; exact rfl)|apply Kept.nil|(apply Kept.miss; exact rfl))) (zae ?_)))))))
  refine zab (zac (zaa rfl (zau rfl rfl (zau rfl rfl (zaa rfl (zad (by repeat (first|(apply Kept.cons; exact rfl)|apply Kept.nil|(apply Kept.miss; exact rfl))) (zae ?_)))))))
  have hr := List.all_eq_true.1 (List.all_eq_true.1 (flags_all (w / 4) (by omega)) (w % 4) (List.mem_range.2 (by omega))) i (List.mem_range.2 hi)
  rw [show 4 * (w / 4) + w % 4 = w by omega] at hr
  unfold flagsTrue at hr
  split at hr
  · next e h' hD =>
    split at hr
    · next b' he =>
      subst hr
      rw [← ew, ← ei] at hD
      refine ⟨⟨.ret, e, h', ?_, End.fin1 (v := .bool true) ?_ ⟨rfl, trivial⟩⟩⟩
      · rw [hcl (10 - 1)]; exact hD
      · show (match e.get 4, some [] with
          | some v, some l => some (v :: l)
          | _, _ => none) = _
        rw [he]
    · cases hr
  · cases hr


theorem flags_am2 {cl : Nat → Call} (hcl : Sem cl) {h0 : H} (hnx : h0.nx = 0) (hwf : ∀ b, 0 ≤ b → h0.get b = none) {a b : Int} {u0 u1 : V} (r0 : repInt .u8 h0 a [u0]) (r1 : repInt .u8 h0 b [u1]) :
    ∃ h', cl 10 (.fn F.roundhouselaw14_PolFlags) [u0, u1] h0 = some (.bool true, h') := by
  obtain ⟨e0, a0, _⟩ := r0
  obtain ⟨e1, b0, _⟩ := r1
  cases e0; cases e1
  obtain ⟨h1, q⟩ := flags_am hcl (a := a) (b := b) a0 b0
  rw [hcl 10] at q ⊢
  have hX : Ext (fun _ => none) ⟨0, .lf⟩ h0 := ⟨hnx, fun j => by simp [H.get, T.get]; exact hwf j (by omega), fun j hj => by simp at hj⟩
  obtain ⟨h2, q1, _⟩ := (callN_F (P := prog) (fun f p h => by cases h) fuel 10).1 _ _ _ _ _ q _ _ hX
  exact ⟨h2, q1⟩

end Am.Sigs
