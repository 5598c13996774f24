/- IntS in the uniform style. -/
import Derived.Test.YtfcnimglcialbaaMt
import Derived.Test.YtfcnimglcialbaaFgt0
namespace Go.Proofs.Ytfcnimglcialbaa
open Go.RowKit
set_option maxHeartbeats 4000000
set_option maxRecDepth 20000
set_option linter.unusedVariables false
set_option linter.unusedSimpArgs false
attribute [local irreducible] Calls
abbrev DIntS := List Int
def IntS_val (x : DIntS) (y : Ys) : Value := .slice (y 0).A x.length (y 0).c
def IntS_obj (x : DIntS) (y : Ys) : List HObj := [.row 3 1 (y 0).A x.length (y 0).c (fl x)]
def IntS_rd (w : World) (x : DIntS) (y : Ys) : Prop := Rd w (y 0).A (fl x)
def IntS_big (x : DIntS) : Prop := x.length ≤ maxLen
def IntS_sm (x : DIntS) : Prop := x.length ≤ 1048576
def IntS_lim (x : DIntS) : Prop := x.length ≤ 4194304
def IntS_cnt (x : DIntS) (k : Int) : Int := k + 1 * (x.length : Int)
def IntS_mk (k : Int) (x : DIntS) : DIntS := mkL k x.length
theorem IntS_cnt_le (x : DIntS) (k : Int) (h : IntS_lim x) : k ≤ IntS_cnt x k ∧ IntS_cnt x k ≤ k + 4194304 := by
  unfold IntS_lim at h; unfold IntS_cnt; omega
theorem IntS_sm_lim {x : DIntS} (h : IntS_sm x) : IntS_lim x := by
  unfold IntS_sm at h; unfold IntS_lim; omega
theorem IntS_rf {m w w0 : World} {base : Nat} {H : List HObj} {G : List World} {x : DIntS} {y : Ys} (h : IntS_rd m x y) (hm : m ∈ G) (hw : WOk base w0 H G w) : IntS_rd w x y := hw.keep h hm
theorem IntS_of {w w0 : World} {base : Nat} {H : List HObj} {G : List World} {x : DIntS} {y : Ys} (hw : WOk base w0 (IntS_obj x y ++ H) G w) : IntS_rd w x y := hw.row 0 rfl
abbrev gIntS : GT := .sl 3 .int
theorem IntS_open {w : World} {v : Value} {x : gIntS.den} (hx : RdT w gIntS x [v]) : ∃ (d : DIntS) (y : Ys), v = IntS_val d y ∧ IntS_rd w d y ∧ IntS_big d := by
  obtain ⟨A, k, l, e, m, r, b⟩ := flat_sl flatInt hx
  have e' : v = _ := List.head_eq_of_cons_eq e
  subst e'
  exact ⟨l, ya [(A, k)] w, rfl, r, m⟩
end Go.Proofs.Ytfcnimglcialbaa
