/- The walk of FnSlots. -/
import Derived.Test.YtfcnimglcialbaaSlt
namespace Go.Proofs.Ytfcnimglcialbaa
open Go.RowKit
theorem FnSlots_walk (w : World) (v : Value) (x : gCode.den) (hx : RdT w gCode x [v]) :
    Calls Try.prog 9 #[v] w fun e w' => e = .returned (.bool true) ∧ Below w.heap.size w w' := by
  obtain ⟨A, c, l, rfl, h⟩ := code_open hx
  exact FnSlots_e A c l w h
end Go.Proofs.Ytfcnimglcialbaa
