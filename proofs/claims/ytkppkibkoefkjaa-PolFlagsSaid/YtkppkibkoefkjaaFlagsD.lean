/- The law PolFlags: masks 48 to 63. -/
import Derived.Test.YtkppkibkoefkjaaFlagsDef
namespace Am.Sigs
open Am Go
theorem flags_12 : flagsPart 12 = true := by kernel_rfl
theorem flags_13 : flagsPart 13 = true := by kernel_rfl
theorem flags_14 : flagsPart 14 = true := by kernel_rfl
theorem flags_15 : flagsPart 15 = true := by kernel_rfl
end Am.Sigs
