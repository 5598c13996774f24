/- KVS in the uniform style. -/
import Derived.Test.YtfcnimglcialbaaBfKV
import Derived.Test.YtfcnimglcialbaaFlKV
namespace Go.Proofs.Ytfcnimglcialbaa
open Go.RowKit
set_option maxHeartbeats 4000000
set_option maxRecDepth 20000
set_option linter.unusedVariables false
set_option linter.unusedSimpArgs false
attribute [local irreducible] Calls
abbrev DKVS := List KV
def KVS_val (x : DKVS) (y : Ys) : Value := .slice (y 0).A x.length (y 0).c
def KVS_obj (x : DKVS) (y : Ys) : List HObj := [.row 162 2 (y 0).A x.length (y 0).c (fl x)]
def KVS_rd (w : World) (x : DKVS) (y : Ys) : Prop := Rd w (y 0).A (fl x)
def KVS_big (x : DKVS) : Prop := x.length ≤ maxLen ∧ ∀ u ∈ x, bigKV u
def KVS_sm (x : DKVS) : Prop := x.length ≤ 1048576 ∧ ∀ u ∈ x, wtKV u
def KVS_lim (x : DKVS) : Prop := x.length ≤ 4194304
def KVS_cnt (x : DKVS) (k : Int) : Int := k + 2 * (x.length : Int)
def KVS_mk (k : Int) (x : DKVS) : DKVS := mkL k x.length
theorem szKVS_d (x : DKVS) (y : Ys) (left : Int) (hl : 0 ≤ left ∧ left ≤ 1048576) (w : World) (h : KVS_rd w x y) (hb : KVS_big x) :
    Calls Try.prog 69 #[KVS_val x y, .int .i64 left] w fun e w' => ∃ y : Ys, e = .returned (.int .i64 (y 0).n) ∧ (-1 ≤ (y 0).n ∧ (y 0).n ≤ left ∧ (0 ≤ (y 0).n → KVS_sm x)) ∧ Below w.heap.size w w' ∧ NewOk w.heap.size [] [] w' :=
  (szKVS_c _ _ x left hl hb.1 hb.2 w h).mono fun e w' ⟨q, a, ⟨b1, b2, b3⟩, c⟩ => ⟨q, a, ⟨b1, b2, fun h => ⟨by have := (b3 h).1; omega, (b3 h).2⟩⟩, c⟩
theorem toKVS_d (x : DKVS) (y : Ys) (w : World) (h : KVS_rd w x y) (hs : KVS_sm x) :
    Calls Try.prog 71 #[KVS_val x y] w fun e w' => ∃ y : Ys, e = .returned (KVS_val x y) ∧ True ∧ Below w.heap.size w w' ∧ NewOk w.heap.size (KVS_obj x y) [] w' :=
  toKVS_c _ _ x w h hs.1
theorem eqKVS_d (x : DKVS) (y z : Ys) (w : World) (h : KVS_rd w x y) (k : KVS_rd w x z) (hl : KVS_lim x) :
    Calls Try.prog 73 #[KVS_val x y, KVS_val x z] w fun e w' => e = .returned (.bool true) ∧ Below w.heap.size w w' :=
  eqKVS_c _ _ _ _ x w h k (by unfold KVS_lim at hl; omega)
theorem markKVS_d (x : DKVS) (y : Ys) (k : Int) (hk : 0 ≤ k ∧ k ≤ 100000000000000) (hl : KVS_lim x) {base : Nat} {w0 w : World} {H : List HObj} {G : List World}
    (hw : WOk base w0 (KVS_obj x y ++ H) G w) :
    Calls Try.prog 74 #[KVS_val x y, .int .i64 k] w fun e w' => ∃ q : Ys, e = .returned (.int .i64 (KVS_cnt x k)) ∧ True ∧ WOk base w0 (KVS_obj (KVS_mk k x) y ++ H) G w' := by
  unfold KVS_lim at hl
  have := markKVS_c _ _ x k ⟨hk.1, by omega⟩ (by omega) hw
  simp only [KVS_obj, KVS_mk, mkL_len]
  exact this
theorem heldKVS_d (x : DKVS) (y : Ys) (k : Int) (hk : 0 ≤ k ∧ k ≤ 100000000000000) (hl : KVS_lim x) (w : World) (h : KVS_rd w (KVS_mk k x) y) :
    Calls Try.prog 75 #[KVS_val x y, .int .i64 k] w fun e w' => e = .returned (.int .i64 (KVS_cnt x k)) ∧ Below w.heap.size w w' := by
  unfold KVS_lim at hl
  exact heldKVS_c _ _ x.length k ⟨hk.1, by omega⟩ (by omega) w h
theorem KVS_cnt_le (x : DKVS) (k : Int) (h : KVS_lim x) : k ≤ KVS_cnt x k ∧ KVS_cnt x k ≤ k + 8388608 := by
  unfold KVS_lim at h; unfold KVS_cnt; omega
theorem KVS_sm_lim {x : DKVS} (h : KVS_sm x) : KVS_lim x := by
  unfold KVS_sm at h; unfold KVS_lim; omega
theorem KVS_rf {m w w0 : World} {base : Nat} {H : List HObj} {G : List World} {x : DKVS} {y : Ys} (h : KVS_rd m x y) (hm : m ∈ G) (hw : WOk base w0 H G w) : KVS_rd w x y := hw.keep h hm
theorem KVS_of {w w0 : World} {base : Nat} {H : List HObj} {G : List World} {x : DKVS} {y : Ys} (hw : WOk base w0 (KVS_obj x y ++ H) G w) : KVS_rd w x y := hw.row 0 rfl
abbrev gKVS : GT := .sl 192 gKV
theorem KVS_open {w : World} {v : Value} {x : gKVS.den} (hx : RdT w gKVS x [v]) : ∃ (d : DKVS) (y : Ys), v = KVS_val d y ∧ KVS_rd w d y ∧ KVS_big d := by
  obtain ⟨A, k, l, e, m, r, b⟩ := flat_sl flatKV hx
  have e' : v = _ := List.head_eq_of_cons_eq e
  subst e'
  exact ⟨l, ya [(A, k)] w, rfl, r, ⟨m, b⟩⟩
end Go.Proofs.Ytfcnimglcialbaa
