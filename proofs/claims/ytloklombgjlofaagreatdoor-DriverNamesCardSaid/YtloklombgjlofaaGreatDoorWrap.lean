/- From a run of the abstract machine to a row of the seat. -/
import Derived.Test.YtloklombgjlofaaGreatDoorCalls
import Derived.ProofKit
namespace Am
open Go Go.ChangeShapes Go.WideShapes Go.ChangeAt Go.RowKit

/-- Nothing is known of the memory. -/
def H0 : H := ⟨0, .lf⟩
def m0 : Mp := fun _ => none

section
variable {P : Program} {C : Cx} {W W' : World} {m' : Mp} {h' : H} {N : Nat}

theorem rel0 (W : World) : HRel P C m0 H0 W := ⟨fun b o hb => (by cases hb), fun b b' o o' l l' hb => (by cases hb), fun b l hb => (by cases hb)⟩
theorem gok0 (hng : C.gl = []) : GOk C m0 := fun g hg => by rw [hng] at hg; cases hg
theorem owned0 (β : Nat) : ¬ Owned m0 H0 β := by rintro ⟨b, o, l, hb, _⟩; cases hb

theorem kept0 (s : Step P C N m0 H0 W m' h' W') (may : MemPlace → Prop) : W.keptBut W' may :=
  ⟨s.os, s.output, fun i hi => by rw [(s.frame i hi (owned0 i)).1]; exact (World.keptBut_refl W may).2.2 i hi⟩

theorem frozen0 (s : Step P C N m0 H0 W m' h' W') (a : Addr) (ha : a.block < W.heap.size) : W'.frozen? a = W.frozen? a := by
  unfold World.frozen?
  rw [(s.frame a.block ha (owned0 _)).1]

/-- The row's end, where nothing was handed in. -/
theorem post0 {H : Type} {enc : TypeId × Value → H} {f : Func} {s : ChangeSpec} {apart fresh handsOn again : Bool} {args : Array Value} {v : Value} {ds gs : List (DataW H)} (st : Step P C N m0 H0 W m' h' W')
    (hW : DataW.Whole enc P f.params.toList s.vars apart W args.toList ds gs [])
    (hres : ∀ (b : Nat) (sp : Nat → Bool) (hd : Bool), DataW.TrodAll enc P W' b sp hd f.resultTypes.toList (v.resultList f.resultTypes.size) (s.fn H (ds ++ gs)).results [])
    (hargs : ∀ sp : Nat → Bool, DataW.TrodAll enc P W' 0 sp true f.params.toList args.toList (s.fn H (ds ++ gs)).args [])
    (hvars : ∀ sp : Nat → Bool, DataW.TrodVars enc P W' sp s.vars (s.fn H (ds ++ gs)).vars [])
    (hok : ∀ (j : Nat) (t : TypeId) (r : Value), f.resultTypes[j]? = some t → (v.resultList f.resultTypes.size)[j]? = some r → Value.okWide P W' .any 0 t r) :
    s.post enc P f apart fresh handsOn again W args v W' := by
  refine ⟨ds, gs, [], [], [], [], hW, hres _ _ _, hargs _, hvars _, kept0 st _, fun _ => ?_⟩
  refine ⟨hok, _, _, ([] ++ []) ++ [], ⟨[] ++ [], [], trodAll_append (hargs _) (hres _ _ _), hvars _, rfl, fun b off hp => (by cases hp), fun _ => (by simp)⟩, fun p hp => (by cases hp)⟩

end
end Am
