/- Our own library, part 23. -/
import Derived.Test.YtccoogikjelcbaaGreatDoorM22
set_option maxHeartbeats 8000000
set_option maxRecDepth 800
set_option linter.all false
namespace Am.Sigs
open Am Go
theorem jgi {cl:Nat->Call} (hcl : ∀ d,cl d=ja9 prog fuel d) {h0:H} (hnx:h0.nx=4) (hwf : ∀ b,4<=b->h0.get b=none) (l2:h0.get 2=some (.cells ja4 true)) (l3:h0.get 3=some (.cells ja3 true)) (l0:h0.get 0=some (.cells jaw true)) :
  ∃ h',cl 60 (.fn 3) [] h0=some (.bool true,h'):=by
 have m:Meets uS4 h0:=⟨hnx,fun p hp=>by
  have hp:p∈[(0,uO0),(2,uO1),(3,uO2)]:=hp
  simp only [zE,List.not_mem_nil,or_false] at hp
  rcases hp with rfl | rfl | rfl
  ·exact l0
  ·exact l2
  ·exact l3,hwf⟩
 obtain ⟨h1,r1,m1⟩:=uT5 m
 refine ⟨h1,?_⟩
 rw [hcl]
 exact jkY (s:=jgO) (by rfl) (by rfl) (by rfl) r1 (by rfl)
end Am.Sigs
