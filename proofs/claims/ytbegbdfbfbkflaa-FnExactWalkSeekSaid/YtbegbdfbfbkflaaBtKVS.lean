/- KVS in the uniform style. -/
import Derived.Test.YtbegbdfbfbkflaaBfKV
import Derived.Test.YtbegbdfbfbkflaaFlKV
namespace Go.Proofs.Ytbegbdfbfbkflaa
open Go.RowKit
set_option maxHeartbeats 4000000
set_option maxRecDepth 20000
set_option linter.unusedVariables false
set_option linter.unusedSimpArgs false
attribute [local irreducible] Calls
abbrev DKVS := List KV
def KVS_val (x : DKVS) (y : Ys) : Value := .slice (y 0).A x.length (y 0).c
def KVS_obj (x : DKVS) (y : Ys) : List HObj := [.row 67 2 (y 0).A x.length (y 0).c (fl x)]
def KVS_rd (w : World) (x : DKVS) (y : Ys) : Prop := Rd w (y 0).A (fl x)
def KVS_big (x : DKVS) : Prop := x.length ≤ maxLen ∧ ∀ u ∈ x, bigKV u
def KVS_sm (x : DKVS) : Prop := x.length ≤ 1048576 ∧ ∀ u ∈ x, wtKV u
def KVS_lim (x : DKVS) : Prop := x.length ≤ 4194304
def KVS_cnt (x : DKVS) (k : Int) : Int := k + 2 * (x.length : Int)
def KVS_mk (k : Int) (x : DKVS) : DKVS := mkL k x.length
theorem KVS_cnt_le (x : DKVS) (k : Int) (h : KVS_lim x) : k ≤ KVS_cnt x k ∧ KVS_cnt x k ≤ k + 8388608 := by
  unfold KVS_lim at h; unfold KVS_cnt; omega
theorem KVS_sm_lim {x : DKVS} (h : KVS_sm x) : KVS_lim x := by
  unfold KVS_sm at h; unfold KVS_lim; omega
theorem KVS_rf {m w w0 : World} {base : Nat} {H : List HObj} {G : List World} {x : DKVS} {y : Ys} (h : KVS_rd m x y) (hm : m ∈ G) (hw : WOk base w0 H G w) : KVS_rd w x y := hw.keep h hm
theorem KVS_of {w w0 : World} {base : Nat} {H : List HObj} {G : List World} {x : DKVS} {y : Ys} (hw : WOk base w0 (KVS_obj x y ++ H) G w) : KVS_rd w x y := hw.row 0 rfl
end Go.Proofs.Ytbegbdfbfbkflaa
