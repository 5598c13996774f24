/- The record CRow by its type. -/
import Derived.Test.YtbegbdfbfbkflaaBfCRow
import Derived.Test.YtbegbdfbfbkflaaFgt0
namespace Go.Proofs.Ytbegbdfbfbkflaa
open Go.RowKit
set_option linter.unusedVariables false
set_option linter.unusedSimpArgs false
abbrev gCRow : GT := .st [.int, .int, .str]
theorem flatCRow : FlatAt gCRow (α := CRow) (fun x => ⟨x.1, x.2.1, x.2.2.1⟩) bigCRow := fun w x c h => by
  obtain ⟨a0, a1, a2, u⟩ := x
  obtain ⟨c0, d0, rfl, h0, e0⟩ := RdTL.cons.1 (RdT.st.1 h)
  obtain ⟨c1, d1, rfl, h1, e1⟩ := RdTL.cons.1 e0
  obtain ⟨c2, d2, rfl, h2, e2⟩ := RdTL.cons.1 e1
  rw [RdTL.nil] at e2; subst e2
  obtain ⟨rfl, b0⟩ := RdT.int.1 h0
  obtain ⟨rfl, b1⟩ := RdT.int.1 h1
  obtain ⟨rfl, b2⟩ := RdT.str.1 h2
  exact ⟨rfl, b2⟩
end Go.Proofs.Ytbegbdfbfbkflaa
