/- PolJoins, SelBelow, SelParts: for every input each call returns true, and the input reads as it did. No condition. -/
import Derived.Test.YtkcenemffnfoeaaGreatK20
import Derived.Test.YtkcenemffnfoeaaGreatK22
import Derived.Test.YtkcenemffnfoeaaGreatK25
namespace Go.Proofs.YtkcenemffnfoeaaGreat
theorem all_holds : Rows.PolJoinsSaid ∧ Rows.SelBelowSaid ∧ Rows.SelPartsSaid := ⟨polJoins_holds, selBelow_holds, selParts_holds⟩
end Go.Proofs.YtkcenemffnfoeaaGreat
