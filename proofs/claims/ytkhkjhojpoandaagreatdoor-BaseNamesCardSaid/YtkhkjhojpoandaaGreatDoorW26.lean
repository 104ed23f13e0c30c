/- Our own library, part 26. -/
import Derived.Test.YtkhkjhojpoandaaGreatDoorW25
set_option maxHeartbeats 8000000
set_option maxRecDepth 800
set_option linter.all false
namespace Am.Sigs
open Am Go
theorem jjG {cl:Nat->Call} (hcl : ∀ d,cl d=jaD prog fuel d) {h0:H} (hnx:h0.nx=4) (hwf : ∀ b,4<=b->h0.get b=none) (l2:h0.get 2=some (.cells ja6 true)) (l3:h0.get 3=some (.cells ja5 true)) (l1:h0.get 1=some (.cells jax true)) :
  ∃ h',cl 60 (.fn 3) [] h0=some (.bool true,h'):=by
 have m:Meets uS4 h0:=⟨hnx,fun p hp=>by
  have hp:p∈[(1,uO0),(2,uO1),(3,uO2)]:=hp
  simp only [zD,List.not_mem_nil,or_false] at hp
  rcases hp with rfl | rfl | rfl
  ·exact l1
  ·exact l2
  ·exact l3,hwf⟩
 obtain ⟨h1,r1,m1⟩:=uT5 m
 refine ⟨h1,?_⟩
 rw [hcl]
 exact jmP (s:=jdM) (by rfl) (by rfl) (by rfl) r1 (by rfl)
end Am.Sigs
