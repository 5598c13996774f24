/- LinkS in the uniform style. -/
import Derived.Test.YtfcnimglcialbaaBfLink
import Derived.Test.YtfcnimglcialbaaFlLink
namespace Go.Proofs.Ytfcnimglcialbaa
open Go.RowKit
set_option maxHeartbeats 4000000
set_option maxRecDepth 20000
set_option linter.unusedVariables false
set_option linter.unusedSimpArgs false
attribute [local irreducible] Calls
abbrev DLinkS := List Link
def LinkS_val (x : DLinkS) (y : Ys) : Value := .slice (y 0).A x.length (y 0).c
def LinkS_obj (x : DLinkS) (y : Ys) : List HObj := [.row 210 3 (y 0).A x.length (y 0).c (fl x)]
def LinkS_rd (w : World) (x : DLinkS) (y : Ys) : Prop := Rd w (y 0).A (fl x)
def LinkS_big (x : DLinkS) : Prop := x.length ≤ maxLen ∧ ∀ u ∈ x, bigLink u
def LinkS_sm (x : DLinkS) : Prop := x.length ≤ 1048576 ∧ ∀ u ∈ x, wtLink u
def LinkS_lim (x : DLinkS) : Prop := x.length ≤ 4194304
def LinkS_cnt (x : DLinkS) (k : Int) : Int := k + 3 * (x.length : Int)
def LinkS_mk (k : Int) (x : DLinkS) : DLinkS := mkL k x.length
theorem szLinkS_d (x : DLinkS) (y : Ys) (left : Int) (hl : 0 ≤ left ∧ left ≤ 1048576) (w : World) (h : LinkS_rd w x y) (hb : LinkS_big x) :
    Calls Try.prog 84 #[LinkS_val x y, .int .i64 left] w fun e w' => ∃ y : Ys, e = .returned (.int .i64 (y 0).n) ∧ (-1 ≤ (y 0).n ∧ (y 0).n ≤ left ∧ (0 ≤ (y 0).n → LinkS_sm x)) ∧ Below w.heap.size w w' ∧ NewOk w.heap.size [] [] w' :=
  (szLinkS_c _ _ x left hl hb.1 hb.2 w h).mono fun e w' ⟨q, a, ⟨b1, b2, b3⟩, c⟩ => ⟨q, a, ⟨b1, b2, fun h => ⟨by have := (b3 h).1; omega, (b3 h).2⟩⟩, c⟩
theorem toLinkS_d (x : DLinkS) (y : Ys) (w : World) (h : LinkS_rd w x y) (hs : LinkS_sm x) :
    Calls Try.prog 86 #[LinkS_val x y] w fun e w' => ∃ y : Ys, e = .returned (LinkS_val x y) ∧ True ∧ Below w.heap.size w w' ∧ NewOk w.heap.size (LinkS_obj x y) [] w' :=
  toLinkS_c _ _ x w h hs.1
theorem eqLinkS_d (x : DLinkS) (y z : Ys) (w : World) (h : LinkS_rd w x y) (k : LinkS_rd w x z) (hl : LinkS_lim x) :
    Calls Try.prog 88 #[LinkS_val x y, LinkS_val x z] w fun e w' => e = .returned (.bool true) ∧ Below w.heap.size w w' :=
  eqLinkS_c _ _ _ _ x w h k (by unfold LinkS_lim at hl; omega)
theorem markLinkS_d (x : DLinkS) (y : Ys) (k : Int) (hk : 0 ≤ k ∧ k ≤ 100000000000000) (hl : LinkS_lim x) {base : Nat} {w0 w : World} {H : List HObj} {G : List World}
    (hw : WOk base w0 (LinkS_obj x y ++ H) G w) :
    Calls Try.prog 89 #[LinkS_val x y, .int .i64 k] w fun e w' => ∃ q : Ys, e = .returned (.int .i64 (LinkS_cnt x k)) ∧ True ∧ WOk base w0 (LinkS_obj (LinkS_mk k x) y ++ H) G w' := by
  unfold LinkS_lim at hl
  have := markLinkS_c _ _ x k ⟨hk.1, by omega⟩ (by omega) hw
  simp only [LinkS_obj, LinkS_mk, mkL_len]
  exact this
theorem heldLinkS_d (x : DLinkS) (y : Ys) (k : Int) (hk : 0 ≤ k ∧ k ≤ 100000000000000) (hl : LinkS_lim x) (w : World) (h : LinkS_rd w (LinkS_mk k x) y) :
    Calls Try.prog 90 #[LinkS_val x y, .int .i64 k] w fun e w' => e = .returned (.int .i64 (LinkS_cnt x k)) ∧ Below w.heap.size w w' := by
  unfold LinkS_lim at hl
  exact heldLinkS_c _ _ x.length k ⟨hk.1, by omega⟩ (by omega) w h
theorem LinkS_cnt_le (x : DLinkS) (k : Int) (h : LinkS_lim x) : k ≤ LinkS_cnt x k ∧ LinkS_cnt x k ≤ k + 12582912 := by
  unfold LinkS_lim at h; unfold LinkS_cnt; omega
theorem LinkS_sm_lim {x : DLinkS} (h : LinkS_sm x) : LinkS_lim x := by
  unfold LinkS_sm at h; unfold LinkS_lim; omega
theorem LinkS_rf {m w w0 : World} {base : Nat} {H : List HObj} {G : List World} {x : DLinkS} {y : Ys} (h : LinkS_rd m x y) (hm : m ∈ G) (hw : WOk base w0 H G w) : LinkS_rd w x y := hw.keep h hm
theorem LinkS_of {w w0 : World} {base : Nat} {H : List HObj} {G : List World} {x : DLinkS} {y : Ys} (hw : WOk base w0 (LinkS_obj x y ++ H) G w) : LinkS_rd w x y := hw.row 0 rfl
abbrev gLinkS : GT := .sl 209 gLink
theorem LinkS_open {w : World} {v : Value} {x : gLinkS.den} (hx : RdT w gLinkS x [v]) : ∃ (d : DLinkS) (y : Ys), v = LinkS_val d y ∧ LinkS_rd w d y ∧ LinkS_big d := by
  obtain ⟨A, k, l, e, m, r, b⟩ := flat_sl flatLink hx
  have e' : v = _ := List.head_eq_of_cons_eq e
  subst e'
  exact ⟨l, ya [(A, k)] w, rfl, r, ⟨m, b⟩⟩
end Go.Proofs.Ytfcnimglcialbaa
