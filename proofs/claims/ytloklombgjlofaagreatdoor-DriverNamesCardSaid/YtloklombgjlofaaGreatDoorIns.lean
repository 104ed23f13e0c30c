/- Each class of instructions: one theorem. -/
import Derived.Test.YtloklombgjlofaaGreatDoorAppend2
import Derived.Test.YtloklombgjlofaaGreatDoorIter
namespace Am
open Go

section
variable {P : Program} {C : Cx} {N : Nat} {m : Mp} {h h' : H} {w : World} {e : Env} {t : Array Value} {o : Oper} {v : V} {call : Am.Call}

theorem pure_sound (hT : TOk P C) (hG : GOk C m) (he : ERel m e t) {i : I} (hc : i.cls = .P) (hM : iM P C i o.op = true) (hr : i.pure e = some v) (w : World) : Yields P m t o v w := by
  generalize hop : o.op = op at hM
  unfold iM at hM
  split at hM
  all_goals try (simp [I.cls] at hc; done)
  all_goals try (simp [I.pure] at hr; done)
  all_goals try (cases hM; done)
  · exact pure_move hG he (.inl hop) hM (by simp only [I.pure] at hr; split at hr <;> simp_all) w
  · exact pure_move hG he (.inr hop) hM (by simp only [I.pure] at hr; split at hr <;> simp_all) w
  · simp only [Bool.and_eq_true, Bool.not_eq_true'] at hM
    simp [I.pure, Opd.ev] at hr
    subst hr
    exact pure_lenC hT hop rfl hM.1 hM.2 w
  · simp only [Bool.and_eq_true] at hM
    exact pure_pick hG he hop hM.1.1 hM.1.2 hM.2 hr w
  · simp only [Bool.and_eq_true] at hM
    exact pure_build hT hG he hop hM.1 hM.2 hr w
  · exact pure_nilck hG he hop hM hr w
  · simp only [Bool.and_eq_true, beq_iff_eq] at hM
    obtain ⟨⟨rfl, h1⟩, h2⟩ := hM
    exact pure_mkBm hG he hop h1 h2 hr w
  · simp only [Bool.and_eq_true] at hM
    exact pure_nilckB hG he hop hM.1 hM.2 hr w
  · simp only [Bool.and_eq_true, beq_iff_eq] at hM
    obtain ⟨⟨rfl, h1⟩, h2⟩ := hM
    exact pure_bin hG he hop h1 h2 hr w
  · simp only [Bool.and_eq_true] at hM
    exact pure_eq hT hG he hop hM.1.1.1 hM.1.1.2 hM.1.2 hM.2 hr w
  · simp only [Bool.and_eq_true, beq_iff_eq] at hM
    obtain ⟨rfl, h1⟩ := hM
    exact pure_un hG he hop h1 hr w
  · simp only [Bool.and_eq_true] at hM
    exact pure_convInt hT hG he hop hM.1.1 hM.1.2 hM.2 hr w
  · simp only [Bool.and_eq_true] at hM
    exact pure_convStr hT hG he hop hM.1.1 hM.1.2 hM.2 hr w
  · simp only [Bool.and_eq_true, nbeq, decide_eq_true_eq] at hM
    obtain ⟨⟨rfl, h1⟩, h2⟩ := hM
    exact pure_mkIface hT hG he hop h1 h2 hr w
  · simp only [Bool.and_eq_true, nbeq, decide_eq_true_eq] at hM
    obtain ⟨⟨rfl, h1⟩, h2⟩ := hM
    exact pure_mkClo hG he hop h1 h2 hr w
  · simp only [Bool.and_eq_true] at hM
    exact pure_sliceS hT hG he hop hM.1.1.1 hM.1.1.2 hM.1.2 hM.2 hr w
  · simp only [Bool.and_eq_true] at hM
    exact pure_slice hT hG he hop hM.1.1.1.1 hM.1.1.1.2 hM.1.1.2 hM.1.2 hM.2 hr w
  · simp only [Bool.and_eq_true] at hM
    exact pure_sliceA hT hG he hop hM.1.1.1.1 hM.1.1.1.2 hM.1.1.2 hM.1.2 hM.2 hr w
  · simp only [Bool.and_eq_true] at hM
    exact pure_faddr hT hG he hop hM.1 hM.2 hr w
  · simp only [Bool.and_eq_true] at hM
    exact pure_field hT hG he hop hM.1 hM.2 hr w
  · simp only [Bool.and_eq_true] at hM
    exact pure_ixaA hT hG he hop hM.1.1 hM.1.2 hM.2 hr w
  · simp only [Bool.and_eq_true] at hM
    exact pure_ixaS hT hG he hop hM.1.1 hM.1.2 hM.2 hr w
  · simp only [Bool.and_eq_true] at hM
    exact pure_ixA hT hG he hop hM.1.1 hM.1.2 hM.2 hr w
  · simp only [Bool.and_eq_true] at hM
    exact pure_ixStr hT hG he hop hM.1.1 hM.1.2 hM.2 hr w
  · simp only [Bool.and_eq_true, nbeq, decide_eq_true_eq, beq_iff_eq] at hM
    obtain ⟨⟨⟨⟨rfl, rfl⟩, h1⟩, h2⟩, h3⟩ := hM
    exact pure_tassert hT hG he hop h1 h2 h3 hr w
  · simp only [Bool.and_eq_true, nbeq, decide_eq_true_eq] at hM
    obtain ⟨h1, rfl⟩ := hM
    exact pure_extract hG he hop h1 hr w
  · simp only [Bool.and_eq_true] at hM
    exact pure_lenS hT hG he hop rfl hM.1 hM.2 hr w
  · simp only [Bool.and_eq_true] at hM
    exact pure_lenL hT hG he hop rfl hM.1 hM.2 hr w
  · exact pure_minI hG he hop rfl hM hr w
  · exact pure_maxI hG he hop rfl hM hr w

theorem read_sound (hT : TOk P C) (hG : GOk C m) (hR : HRel P C m h w) (he : ERel m e t) {i : I} (hc : i.cls = .R) (hM : iM P C i o.op = true) (hr : i.read e h = some v) : Yields P m t o v w := by
  generalize hop : o.op = op at hM
  unfold iM at hM
  split at hM
  all_goals try (simp [I.cls] at hc; done)
  all_goals try (cases hM; done)
  · simp only [Bool.and_eq_true] at hM
    exact read_load1 hT hG hR he hop hM.2 hM.1 hr
  · simp only [Bool.and_eq_true] at hM
    exact read_loadN hT hG hR he hop hM.2 hM.1 hr
  · simp only [Bool.and_eq_true] at hM
    exact read_ofBytes hT hG hR he hop hM.1.1 hM.1.2 hM.2 hr
  · simp only [Bool.and_eq_true, beq_iff_eq] at hM
    obtain ⟨⟨⟨rfl, h1⟩, h2⟩, h3⟩ := hM
    exact read_lookup hT hG hR he hop h1 h2 h3 hr
  · exact read_entry hG hR he hop hM hr
  · simp only [Bool.and_eq_true] at hM
    exact read_lenM hT hG hR he hop rfl hM.1 hM.2 hr

theorem make_sound (hT : TOk P C) (hG : GOk C m) (he : ERel m e t) {i : I} (hc : i.cls = .A) (hM : iM P C i o.op = true) {ob : Obj} {mk : Nat → V} (hr : i.make e = some (ob, mk)) (w : World) : Makes P C m t o ob mk w := by
  generalize hop : o.op = op at hM
  unfold iM at hM
  split at hM
  all_goals try (simp [I.cls] at hc; done)
  all_goals try (cases hM; done)
  · simp only [Bool.and_eq_true] at hM
    simp only [I.make, Option.some.injEq, Prod.mk.injEq] at hr
    obtain ⟨rfl, rfl⟩ := hr
    exact make_alloc (sz := 0) hT hop hM.1.2
  · simp only [Bool.and_eq_true] at hM
    exact make_box hG he hop hM.2 hr
  · simp only [Bool.and_eq_true, nbeq, decide_eq_true_eq, Nat.ble_eq] at hM
    exact make_bslice hT hG he hop hM.1.1.1 hM.1.1.2 hM.1.2 hM.2 hr
  · simp only [Bool.and_eq_true] at hM
    exact make_toBytes hT hG he hop hM.1.1 hM.1.2 hM.2 hr
  · simp only [I.make, Option.some.injEq, Prod.mk.injEq] at hr
    obtain ⟨rfl, rfl⟩ := hr
    exact make_mkMap hop
  · simp only [Bool.and_eq_true] at hM
    exact make_mkSlice hT hG he hop hM.1.1 hM.1.2 hM.2 hr

/-- Does it call? -/
def I.calls : I → Bool
  | .call .. | .callv .. | .callb .. | .invoke .. => true
  | _ => false

theorem eff_sound (hT : TOk P C) (hG : GOk C m) (hR : HRel P C m h w) (he : ERel m e t) (hN : N ≤ h.nx) {i : I} (hc : i.cls = .E) (hn : i.calls = false) (hM : iM P C i o.op = true) (hr : i.eff call e h = some (v, h')) :
    Eff P C N m h w t o v h' := by
  generalize hop : o.op = op at hM
  unfold iM at hM
  split at hM
  all_goals try (simp [I.cls] at hc; done)
  all_goals try (simp [I.calls] at hn; done)
  all_goals try (cases hM; done)
  · simp only [Bool.and_eq_true] at hM
    exact eff_store hT hG hR he hop hM.1.1 hM.1.2 hM.2 hr
  · simp only [Bool.and_eq_true] at hM
    exact eff_mark hT hG hR he hop hM.1.1 hM.1.2 hM.2 hr
  · simp only [Bool.and_eq_true] at hM
    exact eff_mput hT hG hR he (.inl hop) hM.1.1.1 hM.1.1.2 hM.1.2 hM.2 hr
  · simp only [Bool.and_eq_true] at hM
    exact eff_mput hT hG hR he (.inr hop) hM.1.1.1 hM.1.1.2 hM.1.2 hM.2 hr
  · simp only [Bool.and_eq_true] at hM
    exact eff_mentry hT hG hR he hop hM.1.1 hM.1.2 hM.2 hr
  · simp only [Bool.and_eq_true] at hM
    exact eff_mestore hG hR he hop hM.1.1 hM.1.2 hM.2 hr
  · simp only [Bool.and_eq_true] at hM
    exact eff_range hT hG hR he hN hop hM.1 hM.2 hr
  · simp only [Bool.and_eq_true, beq_iff_eq] at hM
    obtain ⟨rfl, h1⟩ := hM
    exact eff_next hG hR he hop h1 hr
  · simp only [Bool.and_eq_true] at hM
    exact eff_append hT hG hR he hN hop rfl hM.1.1 hM.1.2 hM.2 hr
  · simp only [Bool.and_eq_true] at hM
    exact eff_copy hT hG hR he hop rfl hM.1 hM.2 hr
  · simp only [Bool.and_eq_true] at hM
    exact eff_mdel hT hG hR he hop rfl hM.1 hM.2 hr

end
end Am
