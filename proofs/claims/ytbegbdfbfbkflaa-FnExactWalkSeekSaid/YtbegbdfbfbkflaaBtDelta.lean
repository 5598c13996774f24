/- Delta in the uniform style: size, copy, comparison, marks. -/
import Derived.Test.YtbegbdfbfbkflaaBfKV
import Derived.Test.YtbegbdfbfbkflaaBfStr
import Derived.Test.YtbegbdfbfbkflaaFlKV
import Derived.Test.YtbegbdfbfbkflaaFlStr
namespace Go.Proofs.Ytbegbdfbfbkflaa
open Go.RowKit
set_option maxHeartbeats 4000000
set_option maxRecDepth 20000
set_option linter.unusedVariables false
set_option linter.unusedSimpArgs false
attribute [local irreducible] Calls
structure DDelta where
  U : List KV
  D : List ByteArray
  deriving DecidableEq
def Delta_val (x : DDelta) (y : Ys) : Value := .agg #[.slice (y 0).A x.U.length (y 0).c, .slice (y 1).A x.D.length (y 1).c]
def Delta_obj (x : DDelta) (y : Ys) : List HObj := [.row 67 2 (y 0).A x.U.length (y 0).c (fl x.U), .row 9 1 (y 1).A x.D.length (y 1).c (fl x.D)]
def Delta_rd (w : World) (x : DDelta) (y : Ys) : Prop := Rd w (y 0).A (fl x.U) ∧ Rd w (y 1).A (fl x.D)
def Delta_big (x : DDelta) : Prop := (x.U.length ≤ maxLen ∧ ∀ u ∈ x.U, bigKV u) ∧ (x.D.length ≤ maxLen ∧ ∀ u ∈ x.D, bigStr u)
def Delta_sm (x : DDelta) : Prop := (x.U.length ≤ 1048576 ∧ ∀ u ∈ x.U, wtKV u) ∧ (x.D.length ≤ 1048576 ∧ ∀ u ∈ x.D, wtStr u)
def Delta_lim (x : DDelta) : Prop := x.U.length ≤ 4194304 ∧ x.D.length ≤ 4194304
def Delta_cnt (x : DDelta) (k : Int) : Int := ((k + 2 * (x.U.length : Int)) + 1 * (x.D.length : Int))
def Delta_mk (k : Int) (x : DDelta) : DDelta := { x with U := mkL k x.U.length, D := mkL (k + 2 * (x.U.length : Int)) x.D.length }
theorem Delta_cnt_le (x : DDelta) (k : Int) (h : Delta_lim x) : k ≤ Delta_cnt x k ∧ Delta_cnt x k ≤ k + 12582912 := by
  unfold Delta_lim at h; unfold Delta_cnt; omega
theorem Delta_sm_lim {x : DDelta} (h : Delta_sm x) : Delta_lim x := by
  unfold Delta_sm at h; unfold Delta_lim; exact ⟨by have := h.1.1; omega, by have := h.2.1; omega⟩
theorem Delta_rf {m w w0 : World} {base : Nat} {H : List HObj} {G : List World} {x : DDelta} {y : Ys} (h : Delta_rd m x y) (hm : m ∈ G) (hw : WOk base w0 H G w) : Delta_rd w x y := ⟨hw.keep (h.1) hm, hw.keep (h.2) hm⟩
theorem Delta_of {w w0 : World} {base : Nat} {H : List HObj} {G : List World} {x : DDelta} {y : Ys} (hw : WOk base w0 (Delta_obj x y ++ H) G w) : Delta_rd w x y := ⟨hw.row 0 rfl, hw.row 1 rfl⟩
end Go.Proofs.Ytbegbdfbfbkflaa
