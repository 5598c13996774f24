/- Rows of strings: size, copy, comparison, marks. -/
import Derived.Test.YtojgphgfhapacaaMt
namespace Go.Proofs.Ytojgphgfhapacaa
open Go.RowKit
set_option maxHeartbeats 2000000
set_option maxRecDepth 20000
set_option linter.unusedVariables false
set_option linter.unusedSimpArgs false
instance : Mk ByteArray := ⟨1, fun q => mT q⟩
def wtStr (x : ByteArray) : Prop := x.size ≤ 1048576
def bigStr (x : ByteArray) : Prop := x.size ≤ maxLen
end Go.Proofs.Ytojgphgfhapacaa
