/- Strings by their type. -/
import Derived.Test.YtojgphgfhapacaaBfStr
import Derived.Test.YtojgphgfhapacaaFgt0
namespace Go.Proofs.Ytojgphgfhapacaa
open Go.RowKit
set_option linter.unusedVariables false
theorem flatStr : FlatAt .str (α := ByteArray) (fun x => x) bigStr := fun w x c h => RdT.str.1 h
end Go.Proofs.Ytojgphgfhapacaa
