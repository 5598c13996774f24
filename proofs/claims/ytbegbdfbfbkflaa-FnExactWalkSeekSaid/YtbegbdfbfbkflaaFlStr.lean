/- Strings by their type. -/
import Derived.Test.YtbegbdfbfbkflaaBfStr
import Derived.Test.YtbegbdfbfbkflaaFgt0
namespace Go.Proofs.Ytbegbdfbfbkflaa
open Go.RowKit
set_option linter.unusedVariables false
theorem flatStr : FlatAt .str (α := ByteArray) (fun x => x) bigStr := fun w x c h => RdT.str.1 h
end Go.Proofs.Ytbegbdfbfbkflaa
