/- Slot in the uniform style: size, copy, comparison, marks. -/
import Derived.Test.YtfcnimglcialbaaMt
import Derived.Test.YtfcnimglcialbaaFgt0
namespace Go.Proofs.Ytfcnimglcialbaa
open Go.RowKit
set_option maxHeartbeats 4000000
set_option maxRecDepth 20000
set_option linter.unusedVariables false
set_option linter.unusedSimpArgs false
attribute [local irreducible] Calls
structure DSlot where
  seq : Int
  root : ByteArray
  deriving DecidableEq
def Slot_val (x : DSlot) (y : Ys) : Value := .agg #[.int .i64 x.seq, .string x.root]
def Slot_obj (x : DSlot) (y : Ys) : List HObj := []
def Slot_rd (w : World) (x : DSlot) (y : Ys) : Prop := True
def Slot_big (x : DSlot) : Prop := x.root.size ≤ maxLen
def Slot_sm (x : DSlot) : Prop := x.root.size ≤ 1048576
def Slot_lim (x : DSlot) : Prop := True
def Slot_cnt (x : DSlot) (k : Int) : Int := k
def Slot_mk (k : Int) (x : DSlot) : DSlot := x
abbrev gSlot : GT := .st [.int, .str]
theorem Slot_open {w : World} {cs : Array Value} {x : gSlot.den} (hx : RdT w gSlot x cs.toList) : ∃ (d : DSlot) (y : Ys), Value.agg cs = Slot_val d y ∧ Slot_rd w d y ∧ Slot_big d := by
  obtain ⟨cs⟩ := cs
  simp only at hx
  obtain ⟨a0, a1, u⟩ := x
  obtain ⟨c0, d0, rfl, h0, e0⟩ := RdTL.cons.1 (RdT.st.1 hx)
  obtain ⟨c1, d1, rfl, h1, e1⟩ := RdTL.cons.1 e0
  rw [RdTL.nil] at e1; subst e1
  obtain ⟨rfl, b0⟩ := RdT.int.1 h0
  obtain ⟨rfl, b1⟩ := RdT.str.1 h1
  exact ⟨⟨a0, a1⟩, ya [] w, rfl, trivial, b1⟩
end Go.Proofs.Ytfcnimglcialbaa
