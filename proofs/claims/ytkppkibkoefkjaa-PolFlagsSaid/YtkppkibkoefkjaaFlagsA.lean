/- The law PolFlags: masks 0 to 15. -/
import Derived.Test.YtkppkibkoefkjaaFlagsDef
namespace Am.Sigs
open Am Go
theorem flags_0 : flagsPart 0 = true := by kernel_rfl
theorem flags_1 : flagsPart 1 = true := by kernel_rfl
theorem flags_2 : flagsPart 2 = true := by kernel_rfl
theorem flags_3 : flagsPart 3 = true := by kernel_rfl
end Am.Sigs
