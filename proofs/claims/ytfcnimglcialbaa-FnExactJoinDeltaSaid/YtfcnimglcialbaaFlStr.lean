/- Strings by their type. -/
import Derived.Test.YtfcnimglcialbaaBfStr
import Derived.Test.YtfcnimglcialbaaFgt0
namespace Go.Proofs.Ytfcnimglcialbaa
open Go.RowKit
set_option linter.unusedVariables false
theorem flatStr : FlatAt .str (α := ByteArray) (fun x => x) bigStr := fun w x c h => RdT.str.1 h
end Go.Proofs.Ytfcnimglcialbaa
