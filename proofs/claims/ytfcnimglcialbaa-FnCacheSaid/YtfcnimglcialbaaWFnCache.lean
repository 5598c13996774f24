/- The walk of FnCache. -/
import Derived.Test.YtfcnimglcialbaaFcL
namespace Go.Proofs.Ytfcnimglcialbaa
open Go.RowKit
theorem FnCache_walk (w : World) (v : Value) (x : gCode.den) (hx : RdT w gCode x [v]) :
    Calls Try.prog 4 #[v] w fun e w' => e = .returned (.bool true) ∧ Below w.heap.size w w' := by
  obtain ⟨A, c, l, rfl, h⟩ := code_open hx
  exact FnCache_e A c l w h
end Go.Proofs.Ytfcnimglcialbaa
