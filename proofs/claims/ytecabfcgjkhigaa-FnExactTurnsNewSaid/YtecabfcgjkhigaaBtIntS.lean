/- IntS in the uniform style. -/
import Derived.Test.YtecabfcgjkhigaaMt
import Derived.Test.YtecabfcgjkhigaaFgt0
namespace Go.Proofs.Ytecabfcgjkhigaa
open Go.RowKit
set_option maxHeartbeats 4000000
set_option maxRecDepth 20000
set_option linter.unusedVariables false
set_option linter.unusedSimpArgs false
attribute [local irreducible] Calls
abbrev DIntS := List Int
def IntS_val (x : DIntS) (y : Ys) : Value := .slice (y 0).A x.length (y 0).c
def IntS_obj (x : DIntS) (y : Ys) : List HObj := [.row 3 1 (y 0).A x.length (y 0).c (fl x)]
def IntS_rd (w : World) (x : DIntS) (y : Ys) : Prop := Rd w (y 0).A (fl x)
def IntS_big (x : DIntS) : Prop := x.length ≤ maxLen
def IntS_sm (x : DIntS) : Prop := x.length ≤ 1048576
def IntS_lim (x : DIntS) : Prop := x.length ≤ 4194304
def IntS_cnt (x : DIntS) (k : Int) : Int := k + 1 * (x.length : Int)
def IntS_mk (k : Int) (x : DIntS) : DIntS := mkL k x.length
theorem szIntS_d (x : DIntS) (y : Ys) (left : Int) (hl : 0 ≤ left ∧ left ≤ 1048576) (w : World) (h : IntS_rd w x y) (hb : IntS_big x) :
    Calls Try.prog 119 #[IntS_val x y, .int .i64 left] w fun e w' => ∃ y : Ys, e = .returned (.int .i64 (y 0).n) ∧ (-1 ≤ (y 0).n ∧ (y 0).n ≤ left ∧ (0 ≤ (y 0).n → IntS_sm x)) ∧ Below w.heap.size w w' ∧ NewOk w.heap.size [] [] w' :=
  (szIntS_c _ _ _ left hl hb w).mono fun e w' ⟨q, a, ⟨b1, b2, b3⟩, c⟩ => ⟨q, a, ⟨b1, b2, fun h => by have := b3 h; unfold IntS_sm; omega⟩, c⟩
theorem toIntS_d (x : DIntS) (y : Ys) (w : World) (h : IntS_rd w x y) (hs : IntS_sm x) :
    Calls Try.prog 26 #[IntS_val x y] w fun e w' => ∃ y : Ys, e = .returned (IntS_val x y) ∧ True ∧ Below w.heap.size w w' ∧ NewOk w.heap.size (IntS_obj x y) [] w' :=
  toIntS_c _ _ x w h hs
theorem eqIntS_d (x : DIntS) (y z : Ys) (w : World) (h : IntS_rd w x y) (k : IntS_rd w x z) (hl : IntS_lim x) :
    Calls Try.prog 29 #[IntS_val x y, IntS_val x z] w fun e w' => e = .returned (.bool true) ∧ Below w.heap.size w w' :=
  eqIntS_c _ _ _ _ x w h k (by unfold IntS_lim at hl; omega)
theorem markIntS_d (x : DIntS) (y : Ys) (k : Int) (hk : 0 ≤ k ∧ k ≤ 100000000000000) (hl : IntS_lim x) {base : Nat} {w0 w : World} {H : List HObj} {G : List World}
    (hw : WOk base w0 (IntS_obj x y ++ H) G w) :
    Calls Try.prog 30 #[IntS_val x y, .int .i64 k] w fun e w' => ∃ q : Ys, e = .returned (.int .i64 (IntS_cnt x k)) ∧ True ∧ WOk base w0 (IntS_obj (IntS_mk k x) y ++ H) G w' := by
  unfold IntS_lim at hl
  have := markIntS_c _ _ x k ⟨hk.1, by omega⟩ (by omega) hw
  simp only [IntS_obj, IntS_mk, mkL_len]
  exact this
theorem heldIntS_d (x : DIntS) (y : Ys) (k : Int) (hk : 0 ≤ k ∧ k ≤ 100000000000000) (hl : IntS_lim x) (w : World) (h : IntS_rd w (IntS_mk k x) y) :
    Calls Try.prog 106 #[IntS_val x y, .int .i64 k] w fun e w' => e = .returned (.int .i64 (IntS_cnt x k)) ∧ Below w.heap.size w w' := by
  unfold IntS_lim at hl
  exact heldIntS_c _ _ x.length k ⟨hk.1, by omega⟩ (by omega) w h
theorem IntS_cnt_le (x : DIntS) (k : Int) (h : IntS_lim x) : k ≤ IntS_cnt x k ∧ IntS_cnt x k ≤ k + 4194304 := by
  unfold IntS_lim at h; unfold IntS_cnt; omega
theorem IntS_sm_lim {x : DIntS} (h : IntS_sm x) : IntS_lim x := by
  unfold IntS_sm at h; unfold IntS_lim; omega
theorem IntS_rf {m w w0 : World} {base : Nat} {H : List HObj} {G : List World} {x : DIntS} {y : Ys} (h : IntS_rd m x y) (hm : m ∈ G) (hw : WOk base w0 H G w) : IntS_rd w x y := hw.keep h hm
theorem IntS_of {w w0 : World} {base : Nat} {H : List HObj} {G : List World} {x : DIntS} {y : Ys} (hw : WOk base w0 (IntS_obj x y ++ H) G w) : IntS_rd w x y := hw.row 0 rfl
abbrev gIntS : GT := .sl 3 .int
theorem IntS_open {w : World} {v : Value} {x : gIntS.den} (hx : RdT w gIntS x [v]) : ∃ (d : DIntS) (y : Ys), v = IntS_val d y ∧ IntS_rd w d y ∧ IntS_big d := by
  obtain ⟨A, k, l, e, m, r, b⟩ := flat_sl flatInt hx
  have e' : v = _ := List.head_eq_of_cons_eq e
  subst e'
  exact ⟨l, ya [(A, k)] w, rfl, r, m⟩
end Go.Proofs.Ytecabfcgjkhigaa
