/- The record KV by its type. -/
import Derived.Test.YtbegbdfbfbkflaaBfKV
import Derived.Test.YtbegbdfbfbkflaaFgt0
namespace Go.Proofs.Ytbegbdfbfbkflaa
open Go.RowKit
set_option linter.unusedVariables false
set_option linter.unusedSimpArgs false
abbrev gKV : GT := .st [.str, .str]
theorem flatKV : FlatAt gKV (α := KV) (fun x => ⟨x.1, x.2.1⟩) bigKV := fun w x c h => by
  obtain ⟨a0, a1, u⟩ := x
  obtain ⟨c0, d0, rfl, h0, e0⟩ := RdTL.cons.1 (RdT.st.1 h)
  obtain ⟨c1, d1, rfl, h1, e1⟩ := RdTL.cons.1 e0
  rw [RdTL.nil] at e1; subst e1
  obtain ⟨rfl, b0⟩ := RdT.str.1 h0
  obtain ⟨rfl, b1⟩ := RdT.str.1 h1
  exact ⟨rfl, b0, b1⟩
end Go.Proofs.Ytbegbdfbfbkflaa
