/- The law PolFlags: masks 16 to 31. -/
import Derived.Test.YtkppkibkoefkjaaFlagsDef
namespace Am.Sigs
open Am Go
theorem flags_4 : flagsPart 4 = true := by kernel_rfl
theorem flags_5 : flagsPart 5 = true := by kernel_rfl
theorem flags_6 : flagsPart 6 = true := by kernel_rfl
theorem flags_7 : flagsPart 7 = true := by kernel_rfl
end Am.Sigs
