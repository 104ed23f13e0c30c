/- The law PolFlags: what is asked of all masks. -/
import Derived.Test.YtkppkibkoefkjaaSigs
import Derived.Test.YtkppkibkoefkjaaCalls
import Derived.KernelRfl
namespace Am.Sigs
open Am Go

def flagsTrue : Res → Bool
  | some (.ret, e, _) => match e.get 4 with
    | some (.bool b) => b
    | _ => false
  | _ => false

/-- Behind the first two regions: at all masks from 4 k to 4 k + 3. -/
def flagsPart (k : Nat) : Bool := (List.range 4).all fun j => (List.range 64).all fun i => flagsTrue (D (callN prog fuel 9) fuel c3_4 [(5, .int .i64 (Int.ofNat (4 * k + j))), (6, .int .i64 (Int.ofNat i))] ⟨0, .lf⟩)
end Am.Sigs
