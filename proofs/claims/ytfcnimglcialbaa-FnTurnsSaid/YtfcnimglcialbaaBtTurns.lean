/- Turns in the uniform style: size, copy, comparison, marks. -/
import Derived.Test.YtfcnimglcialbaaMt
import Derived.Test.YtfcnimglcialbaaFgt0
namespace Go.Proofs.Ytfcnimglcialbaa
open Go.RowKit
set_option maxHeartbeats 4000000
set_option maxRecDepth 20000
set_option linter.unusedVariables false
set_option linter.unusedSimpArgs false
attribute [local irreducible] Calls
structure DTurns where
  W : List Int
  L : List Int
  T : List Int
  p : Int
  deriving DecidableEq
def Turns_val (x : DTurns) (y : Ys) : Value := .agg #[.slice (y 0).A x.W.length (y 0).c, .slice (y 1).A x.L.length (y 1).c, .slice (y 2).A x.T.length (y 2).c, .int .i64 x.p]
def Turns_obj (x : DTurns) (y : Ys) : List HObj := [.row 3 1 (y 0).A x.W.length (y 0).c (fl x.W), .row 3 1 (y 1).A x.L.length (y 1).c (fl x.L), .row 3 1 (y 2).A x.T.length (y 2).c (fl x.T)]
def Turns_rd (w : World) (x : DTurns) (y : Ys) : Prop := Rd w (y 0).A (fl x.W) ∧ Rd w (y 1).A (fl x.L) ∧ Rd w (y 2).A (fl x.T)
def Turns_big (x : DTurns) : Prop := x.W.length ≤ maxLen ∧ x.L.length ≤ maxLen ∧ x.T.length ≤ maxLen
def Turns_sm (x : DTurns) : Prop := x.W.length ≤ 1048576 ∧ x.L.length ≤ 1048576 ∧ x.T.length ≤ 1048576
def Turns_lim (x : DTurns) : Prop := x.W.length ≤ 4194304 ∧ x.L.length ≤ 4194304 ∧ x.T.length ≤ 4194304
def Turns_cnt (x : DTurns) (k : Int) : Int := (((k + 1 * (x.W.length : Int)) + 1 * (x.L.length : Int)) + 1 * (x.T.length : Int))
def Turns_mk (k : Int) (x : DTurns) : DTurns := { x with W := mkL k x.W.length, L := mkL (k + 1 * (x.W.length : Int)) x.L.length, T := mkL ((k + 1 * (x.W.length : Int)) + 1 * (x.L.length : Int)) x.T.length }
theorem Turns_cnt_le (x : DTurns) (k : Int) (h : Turns_lim x) : k ≤ Turns_cnt x k ∧ Turns_cnt x k ≤ k + 12582912 := by
  unfold Turns_lim at h; unfold Turns_cnt; omega
theorem Turns_sm_lim {x : DTurns} (h : Turns_sm x) : Turns_lim x := by
  unfold Turns_sm at h; unfold Turns_lim; exact ⟨by have := h.1; omega, by have := h.2.1; omega, by have := h.2.2; omega⟩
theorem Turns_rf {m w w0 : World} {base : Nat} {H : List HObj} {G : List World} {x : DTurns} {y : Ys} (h : Turns_rd m x y) (hm : m ∈ G) (hw : WOk base w0 H G w) : Turns_rd w x y := ⟨hw.keep (h.1) hm, hw.keep (h.2.1) hm, hw.keep (h.2.2) hm⟩
theorem Turns_of {w w0 : World} {base : Nat} {H : List HObj} {G : List World} {x : DTurns} {y : Ys} (hw : WOk base w0 (Turns_obj x y ++ H) G w) : Turns_rd w x y := ⟨hw.row 0 rfl, hw.row 1 rfl, hw.row 2 rfl⟩
abbrev gTurns : GT := .st [.sl 3 .int, .sl 3 .int, .sl 3 .int, .int]
theorem Turns_open {w : World} {cs : Array Value} {x : gTurns.den} (hx : RdT w gTurns x cs.toList) : ∃ (d : DTurns) (y : Ys), Value.agg cs = Turns_val d y ∧ Turns_rd w d y ∧ Turns_big d := by
  obtain ⟨cs⟩ := cs
  simp only at hx
  obtain ⟨a0, a1, a2, a3, u⟩ := x
  obtain ⟨c0, d0, rfl, h0, e0⟩ := RdTL.cons.1 (RdT.st.1 hx)
  obtain ⟨c1, d1, rfl, h1, e1⟩ := RdTL.cons.1 e0
  obtain ⟨c2, d2, rfl, h2, e2⟩ := RdTL.cons.1 e1
  obtain ⟨c3, d3, rfl, h3, e3⟩ := RdTL.cons.1 e2
  rw [RdTL.nil] at e3; subst e3
  obtain ⟨A0, k0, l0, rfl, m0, r0, b0⟩ := flat_sl flatInt h0
  obtain ⟨A1, k1, l1, rfl, m1, r1, b1⟩ := flat_sl flatInt h1
  obtain ⟨A2, k2, l2, rfl, m2, r2, b2⟩ := flat_sl flatInt h2
  obtain ⟨rfl, b3⟩ := RdT.int.1 h3
  exact ⟨⟨l0, l1, l2, a3⟩, ya [(A0, k0), (A1, k1), (A2, k2)] w, rfl, ⟨r0, r1, r2⟩, ⟨m0, m1, m2⟩⟩
end Go.Proofs.Ytfcnimglcialbaa
