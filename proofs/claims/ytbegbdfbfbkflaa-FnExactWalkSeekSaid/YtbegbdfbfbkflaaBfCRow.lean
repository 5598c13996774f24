/- CRow: rows of it: size, copy, comparison, marks. -/
import Derived.Test.YtbegbdfbfbkflaaMt
namespace Go.Proofs.Ytbegbdfbfbkflaa
open Go.RowKit
set_option maxHeartbeats 2000000
set_option maxRecDepth 20000
set_option linter.unusedVariables false
set_option linter.unusedSimpArgs false
attribute [local irreducible] Calls
structure CRow where
  tenant : Int
  no : Int
  text : ByteArray
  deriving DecidableEq
instance : Dat CRow := ⟨3, fun x => [.int .i64 x.tenant, .int .i64 x.no, .string x.text], fun _ => rfl, ⟨0, 0, ⟨#[]⟩⟩⟩
instance : Mk CRow := ⟨3, fun q => ⟨q, q + 1, mT (q + 1 + 1)⟩⟩
def wtCRow (x : CRow) : Prop := x.text.size ≤ 1048576
def bigCRow (x : CRow) : Prop := x.text.size ≤ maxLen
end Go.Proofs.Ytbegbdfbfbkflaa
