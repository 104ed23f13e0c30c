/- The law PolFlags: masks 32 to 47. -/
import Derived.Test.YtkppkibkoefkjaaFlagsDef
namespace Am.Sigs
open Am Go
theorem flags_8 : flagsPart 8 = true := by kernel_rfl
theorem flags_9 : flagsPart 9 = true := by kernel_rfl
theorem flags_10 : flagsPart 10 = true := by kernel_rfl
theorem flags_11 : flagsPart 11 = true := by kernel_rfl
end Am.Sigs
