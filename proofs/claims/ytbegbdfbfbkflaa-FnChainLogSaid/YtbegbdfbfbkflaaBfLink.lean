/- Link: rows of it: size, copy, comparison, marks. -/
import Derived.Test.YtbegbdfbfbkflaaMt
namespace Go.Proofs.Ytbegbdfbfbkflaa
open Go.RowKit
set_option maxHeartbeats 2000000
set_option maxRecDepth 20000
set_option linter.unusedVariables false
set_option linter.unusedSimpArgs false
attribute [local irreducible] Calls
structure Link where
  who : Int
  text : ByteArray
  sum : ByteArray
  deriving DecidableEq
instance : Dat Link := ⟨3, fun x => [.int .i64 x.who, .string x.text, .string x.sum], fun _ => rfl, ⟨0, ⟨#[]⟩, ⟨#[]⟩⟩⟩
instance : Mk Link := ⟨3, fun q => ⟨q, mT (q + 1), mT (q + 1 + 1)⟩⟩
def wtLink (x : Link) : Prop := x.text.size ≤ 1048576 ∧ x.sum.size ≤ 1048576
def bigLink (x : Link) : Prop := x.text.size ≤ maxLen ∧ x.sum.size ≤ maxLen
end Go.Proofs.Ytbegbdfbfbkflaa
