/- LinkS in the uniform style. -/
import Derived.Test.YtbegbdfbfbkflaaBfLink
import Derived.Test.YtbegbdfbfbkflaaFlLink
namespace Go.Proofs.Ytbegbdfbfbkflaa
open Go.RowKit
set_option maxHeartbeats 4000000
set_option maxRecDepth 20000
set_option linter.unusedVariables false
set_option linter.unusedSimpArgs false
attribute [local irreducible] Calls
abbrev DLinkS := List Link
def LinkS_val (x : DLinkS) (y : Ys) : Value := .slice (y 0).A x.length (y 0).c
def LinkS_obj (x : DLinkS) (y : Ys) : List HObj := [.row 29 3 (y 0).A x.length (y 0).c (fl x)]
def LinkS_rd (w : World) (x : DLinkS) (y : Ys) : Prop := Rd w (y 0).A (fl x)
def LinkS_big (x : DLinkS) : Prop := x.length ≤ maxLen ∧ ∀ u ∈ x, bigLink u
def LinkS_sm (x : DLinkS) : Prop := x.length ≤ 1048576 ∧ ∀ u ∈ x, wtLink u
def LinkS_lim (x : DLinkS) : Prop := x.length ≤ 4194304
def LinkS_cnt (x : DLinkS) (k : Int) : Int := k + 3 * (x.length : Int)
def LinkS_mk (k : Int) (x : DLinkS) : DLinkS := mkL k x.length
theorem LinkS_cnt_le (x : DLinkS) (k : Int) (h : LinkS_lim x) : k ≤ LinkS_cnt x k ∧ LinkS_cnt x k ≤ k + 12582912 := by
  unfold LinkS_lim at h; unfold LinkS_cnt; omega
theorem LinkS_sm_lim {x : DLinkS} (h : LinkS_sm x) : LinkS_lim x := by
  unfold LinkS_sm at h; unfold LinkS_lim; omega
theorem LinkS_rf {m w w0 : World} {base : Nat} {H : List HObj} {G : List World} {x : DLinkS} {y : Ys} (h : LinkS_rd m x y) (hm : m ∈ G) (hw : WOk base w0 H G w) : LinkS_rd w x y := hw.keep h hm
theorem LinkS_of {w w0 : World} {base : Nat} {H : List HObj} {G : List World} {x : DLinkS} {y : Ys} (hw : WOk base w0 (LinkS_obj x y ++ H) G w) : LinkS_rd w x y := hw.row 0 rfl
end Go.Proofs.Ytbegbdfbfbkflaa
