/- The record Ent by its type. -/
import Derived.Test.YtbegbdfbfbkflaaBfEnt
import Derived.Test.YtbegbdfbfbkflaaFgt0
namespace Go.Proofs.Ytbegbdfbfbkflaa
open Go.RowKit
set_option linter.unusedVariables false
set_option linter.unusedSimpArgs false
abbrev gEnt : GT := .st [.str, .int, .bool, .str]
theorem flatEnt : FlatAt gEnt (α := Ent) (fun x => ⟨x.1, x.2.1, x.2.2.1, x.2.2.2.1⟩) bigEnt := fun w x c h => by
  obtain ⟨a0, a1, a2, a3, u⟩ := x
  obtain ⟨c0, d0, rfl, h0, e0⟩ := RdTL.cons.1 (RdT.st.1 h)
  obtain ⟨c1, d1, rfl, h1, e1⟩ := RdTL.cons.1 e0
  obtain ⟨c2, d2, rfl, h2, e2⟩ := RdTL.cons.1 e1
  obtain ⟨c3, d3, rfl, h3, e3⟩ := RdTL.cons.1 e2
  rw [RdTL.nil] at e3; subst e3
  obtain ⟨rfl, b0⟩ := RdT.str.1 h0
  obtain ⟨rfl, b1⟩ := RdT.int.1 h1
  obtain rfl := RdT.bool.1 h2
  obtain ⟨rfl, b3⟩ := RdT.str.1 h3
  exact ⟨rfl, b0, b3⟩
end Go.Proofs.Ytbegbdfbfbkflaa
