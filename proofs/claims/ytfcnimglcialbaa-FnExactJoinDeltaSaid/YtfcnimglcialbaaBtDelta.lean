/- Delta in the uniform style: size, copy, comparison, marks. -/
import Derived.Test.YtfcnimglcialbaaBfKV
import Derived.Test.YtfcnimglcialbaaBfStr
import Derived.Test.YtfcnimglcialbaaFlKV
import Derived.Test.YtfcnimglcialbaaFlStr
namespace Go.Proofs.Ytfcnimglcialbaa
open Go.RowKit
set_option maxHeartbeats 4000000
set_option maxRecDepth 20000
set_option linter.unusedVariables false
set_option linter.unusedSimpArgs false
attribute [local irreducible] Calls
structure DDelta where
  U : List KV
  D : List ByteArray
  deriving DecidableEq
def Delta_val (x : DDelta) (y : Ys) : Value := .agg #[.slice (y 0).A x.U.length (y 0).c, .slice (y 1).A x.D.length (y 1).c]
def Delta_obj (x : DDelta) (y : Ys) : List HObj := [.row 162 2 (y 0).A x.U.length (y 0).c (fl x.U), .row 9 1 (y 1).A x.D.length (y 1).c (fl x.D)]
def Delta_rd (w : World) (x : DDelta) (y : Ys) : Prop := Rd w (y 0).A (fl x.U) ∧ Rd w (y 1).A (fl x.D)
def Delta_big (x : DDelta) : Prop := (x.U.length ≤ maxLen ∧ ∀ u ∈ x.U, bigKV u) ∧ (x.D.length ≤ maxLen ∧ ∀ u ∈ x.D, bigStr u)
def Delta_sm (x : DDelta) : Prop := (x.U.length ≤ 1048576 ∧ ∀ u ∈ x.U, wtKV u) ∧ (x.D.length ≤ 1048576 ∧ ∀ u ∈ x.D, wtStr u)
def Delta_lim (x : DDelta) : Prop := x.U.length ≤ 4194304 ∧ x.D.length ≤ 4194304
def Delta_cnt (x : DDelta) (k : Int) : Int := ((k + 2 * (x.U.length : Int)) + 1 * (x.D.length : Int))
def Delta_mk (k : Int) (x : DDelta) : DDelta := { x with U := mkL k x.U.length, D := mkL (k + 2 * (x.U.length : Int)) x.D.length }
theorem szDelta_c (x : DDelta) (y : Ys) (left : Int) (hl : 0 ≤ left ∧ left ≤ 1048576) (w : World) (h : Delta_rd w x y) (hb : Delta_big x) :
    Calls Try.prog 47 #[Delta_val x y, .int .i64 left] w fun e w' => ∃ y : Ys, e = .returned (.int .i64 (y 0).n) ∧ (-1 ≤ (y 0).n ∧ (y 0).n ≤ left ∧ (0 ≤ (y 0).n → Delta_sm x)) ∧ Below w.heap.size w w' ∧ NewOk w.heap.size [] [] w' := by
  unfold Delta_big at hb
  unfold Delta_rd at h
  obtain ⟨⟨m0, g0⟩, ⟨m1, g1⟩⟩ := hb
  obtain ⟨h0, h1⟩ := h
  refine ok_enter 18 Try.func47 rfl rfl rfl ?_
  repeat' (first
    | refine ok_seq ?_
    | refine ok_then ?_
    | refine ok_then_ret ?_
    | (refine ok_cond rfl (fun hc => ?_) (fun hc => ?_) <;> (have hd := hc; (try simp only [decide_eq_true_eq, decide_eq_false_iff_not, Bool.or_eq_true, Bool.or_eq_false_iff, Bool.and_eq_true, Bool.and_eq_false_iff, Bool.not_eq_true', Bool.not_eq_false', bne_iff_ne, beq_iff_eq, bne_eq_false_iff_eq, beq_eq_false_iff_ne, ne_eq, Bool.not_true, Bool.not_false, Bool.false_eq_true, Bool.true_eq_false, inB_true, inB_false] at hd)))
    | refine ok_ret ?_
    | refine ok_skip ?_
    | (refine ok_region (i := 0) ?_; refine ok_m rfl rfl rfl (by exact ms_box rfl rfl rfl) ?_; rintro y2 hy2; refine ok_p rfl rfl rfl (by exact ps_assign rfl rfl) ?_; refine ok_nil ?_; refine ok_env [(1, _), (2, _)] ⟨rfl, rfl, trivial⟩ ?_)
    | (refine ok_region (i := 1) ?_; refine ok_p rfl rfl rfl (by exact ps_field rfl rfl (by exact isw_ga _)) ?_; refine ok_p rfl rfl rfl (by exact ps_load rfl rfl (by exact Rds.cell (rds_box 0 rfl) rfl)) ?_; refine ok_p rfl rfl rfl (by exact ps_move rfl rfl) ?_; refine ok_m rfl rfl rfl (by exact ms_c2 rfl rfl rfl (fun _ _ w hw => szKVS_c _ _ x.U _ ⟨by omega, by omega⟩ m0 g0 w (rds_rf h0 (by exact List.mem_cons_self) _ _ w hw))) ?_; rintro y8 hy8; refine ok_p rfl rfl rfl (by exact ps_assign rfl rfl) ?_; refine ok_nil ?_; refine ok_env [(1, _), (2, _)] ⟨rfl, rfl, trivial⟩ ?_)
    | (refine ok_region (i := 2) ?_; refine ok_p rfl rfl rfl (by exact ps_move rfl rfl) ?_; refine ok_p rfl rfl rfl (by exact ps_int rfl rfl rfl rfl) ?_; refine ok_nil ?_; refine ok_env [(1, _), (2, _), (10, _)] ⟨rfl, rfl, rfl, trivial⟩ ?_)
    | (refine ok_region (i := 3) ?_; refine ok_p rfl rfl rfl (by exact ps_assign rfl rfl) ?_; refine ok_nil ?_; refine ok_env [(4, _)] ⟨rfl, trivial⟩ ?_)
    | (refine ok_region (i := 4) ?_; refine ok_p rfl rfl rfl (by exact ps_field rfl rfl (by exact isw_ga _)) ?_; refine ok_p rfl rfl rfl (by exact ps_load rfl rfl (by exact Rds.cell (rds_box 0 rfl) rfl)) ?_; refine ok_p rfl rfl rfl (by exact ps_move rfl rfl) ?_; refine ok_m rfl rfl rfl (by exact ms_c2 rfl rfl rfl (fun _ _ w hw => szStringS_c _ _ x.D _ ⟨by omega, by omega⟩ m1 g1 w (rds_rf h1 (by exact List.mem_cons_self) _ _ w hw))) ?_; rintro y14 hy14; refine ok_p rfl rfl rfl (by exact ps_assign rfl rfl) ?_; refine ok_nil ?_; refine ok_env [(1, _)] ⟨rfl, trivial⟩ ?_)
    | (refine ok_region (i := 5) ?_; refine ok_p rfl rfl rfl (by exact ps_move rfl rfl) ?_; refine ok_p rfl rfl rfl (by exact ps_int rfl rfl rfl rfl) ?_; refine ok_nil ?_; refine ok_env [(1, _), (16, _)] ⟨rfl, rfl, trivial⟩ ?_)
    | (refine ok_region (i := 6) ?_; refine ok_p rfl rfl rfl (by exact ps_assign rfl rfl) ?_; refine ok_nil ?_; refine ok_env [(4, _)] ⟨rfl, trivial⟩ ?_)
    | (refine ok_region (i := 7) ?_; refine ok_p rfl rfl rfl (by exact ps_move rfl rfl) ?_; refine ok_p rfl rfl rfl (by exact ps_assign rfl rfl) ?_; refine ok_nil ?_; refine ok_env [(4, _)] ⟨rfl, trivial⟩ ?_))
  all_goals first
    | exact ok_endL (vs := [.int .i64 (-1)]) rfl ⟨rfl, trivial⟩ (fun w' hw => ⟨mkN (-1) w, rfl, ⟨by show (-1 : Int) ≤ -1; decide, by show (-1 : Int) ≤ left; omega, fun h => absurd h (by show ¬ (0 : Int) ≤ -1; decide)⟩, hw.below, NewOk.nil _ _⟩)
    | exact ok_endL (vs := [.int .i64 ((y14 0).n)]) rfl ⟨rfl, trivial⟩ (fun w' hw => ⟨mkN ((y14 0).n) w, rfl, ⟨by show -1 ≤ (y14 0).n; omega, by show (y14 0).n ≤ left; omega, fun _ => ⟨⟨by have := (hy8.2.2 (by omega)).1; omega, (hy8.2.2 (by omega)).2⟩, ⟨by have := (hy14.2.2 (by omega)).1; omega, (hy14.2.2 (by omega)).2⟩⟩⟩, hw.below, NewOk.nil _ _⟩)
theorem toDelta_c (x : DDelta) (y : Ys) (w : World) (h : Delta_rd w x y) (hs : Delta_sm x) :
    Calls Try.prog 49 #[Delta_val x y] w fun e w' => ∃ y : Ys, e = .returned (Delta_val x y) ∧ True ∧ Below w.heap.size w w' ∧ NewOk w.heap.size (Delta_obj x y) [] w' := by
  unfold Delta_sm at hs
  unfold Delta_rd at h
  obtain ⟨h0, h1⟩ := h
  refine ok_enter 13 Try.func49 rfl rfl rfl ?_
  repeat' (first
    | refine ok_seq ?_
    | refine ok_then ?_
    | refine ok_ret ?_
    | (refine ok_region (i := 0) ?_; refine ok_m rfl rfl rfl (by exact ms_box rfl rfl rfl) ?_; rintro y1 hy1; refine ok_m rfl rfl rfl (by exact ms_alloc rfl) ?_; rintro y2 hy2; refine ok_nil ?_; refine ok_env [(1, _), (2, _)] ⟨rfl, rfl, trivial⟩ ?_)
    | (refine ok_region (i := 1) ?_; refine ok_m rfl rfl rfl (by exact ms_alloc rfl) ?_; rintro y3 hy3; refine ok_nil ?_; refine ok_env [(1, _), (2, _), (3, _)] ⟨rfl, rfl, rfl, trivial⟩ ?_)
    | (refine ok_region (i := 2) ?_; refine ok_p rfl rfl rfl (by exact ps_field rfl rfl (by exact isw_ga _)) ?_; refine ok_p rfl rfl rfl (by exact ps_load rfl rfl (by exact Rds.cell (rds_box 2 rfl) rfl)) ?_; refine ok_m rfl rfl rfl (by exact ms_c1 rfl rfl (fun _ _ w hw => toKVS_c _ _ x.U w (rds_rf h0 (by exact List.mem_cons_self) _ _ w hw) hs.1.1)) ?_; rintro y6 hy6; refine ok_p rfl rfl rfl (by exact ps_field rfl rfl (by exact isw_ga _)) ?_; refine ok_m_ rfl rfl (by exact ms_store 1 rfl rfl rfl rfl rfl rfl rfl rfl) ?_; rintro y_ hy_; refine ok_nil ?_; refine ok_env [(1, _), (2, _), (3, _)] ⟨rfl, rfl, rfl, trivial⟩ ?_)
    | (refine ok_region (i := 3) ?_; refine ok_p rfl rfl rfl (by exact ps_field rfl rfl (by exact isw_ga _)) ?_; refine ok_p rfl rfl rfl (by exact ps_load rfl rfl (by exact Rds.cell (rds_box 3 rfl) rfl)) ?_; refine ok_m rfl rfl rfl (by exact ms_c1 rfl rfl (fun _ _ w hw => toStringS_c _ _ x.D w (rds_rf h1 (by exact List.mem_cons_self) _ _ w hw) hs.2.1)) ?_; rintro y10 hy10; refine ok_p rfl rfl rfl (by exact ps_field rfl rfl (by exact isw_ga _)) ?_; refine ok_m_ rfl rfl (by exact ms_store 2 rfl rfl rfl rfl rfl rfl rfl rfl) ?_; rintro y_ hy_; refine ok_nil ?_; refine ok_env [(2, _), (3, _)] ⟨rfl, rfl, trivial⟩ ?_)
    | (refine ok_region (i := 4) ?_; refine ok_p rfl rfl rfl (by exact ps_loads rfl rfl (by exact rds_box 2 rfl) rfl rfl (by decide)) ?_; refine ok_m_ rfl rfl (by exact ms_store 3 rfl rfl rfl rfl rfl rfl rfl rfl) ?_; rintro y_ hy_; refine ok_nil ?_; refine ok_env [(2, _)] ⟨rfl, trivial⟩ ?_))
  refine ok_endL (vs := [_]) rfl ⟨⟨_, 3, _, _, _, rfl, rfl, inferInstance, rfl, rfl⟩, trivial⟩ (fun w' hw => ?_)
  refine ⟨yl [y6 0, y10 0] (y6 0), ?_, trivial, hw.below, ?_⟩
  · rfl
  · have := NewOk.of (hw.sel [1, 0] (by decide) rfl (fun _ h => h))
    exact this
theorem eqDelta_c (x : DDelta) (y z : Ys) (w : World) (h : Delta_rd w x y) (k : Delta_rd w x z) (hl : Delta_lim x) :
    Calls Try.prog 51 #[Delta_val x y, Delta_val x z] w fun e w' => e = .returned (.bool true) ∧ Below w.heap.size w w' := by
  unfold Delta_rd at h k
  unfold Delta_lim at hl
  obtain ⟨h0, h1⟩ := h
  obtain ⟨k0, k1⟩ := k
  refine ok_enter 17 Try.func51 rfl rfl rfl ?_
  repeat' (first
    | refine ok_seq ?_
    | refine ok_then ?_
    | (refine ok_cond rfl (fun hc => ?_) (fun hc => ?_) <;> (have hd := hc; (try simp only [decide_eq_true_eq, decide_eq_false_iff_not, Bool.or_eq_true, Bool.or_eq_false_iff, Bool.and_eq_true, Bool.and_eq_false_iff, Bool.not_eq_true', Bool.not_eq_false', bne_iff_ne, beq_iff_eq, bne_eq_false_iff_eq, beq_eq_false_iff_ne, ne_eq, Bool.not_true, Bool.not_false, Bool.false_eq_true, Bool.true_eq_false, inB_true, inB_false] at hd)))
    | refine ok_ret ?_
    | refine ok_skip ?_
    | (refine ok_region (i := 0) ?_; refine ok_m rfl rfl rfl (by exact ms_box rfl rfl rfl) ?_; rintro y2 hy2; refine ok_m rfl rfl rfl (by exact ms_box rfl rfl rfl) ?_; rintro y3 hy3; refine ok_p rfl rfl rfl (by exact ps_assign rfl rfl) ?_; refine ok_nil ?_; refine ok_env [(2, _), (3, _)] ⟨rfl, rfl, trivial⟩ ?_)
    | (refine ok_region (i := 1) ?_; refine ok_p rfl rfl rfl (by exact ps_field rfl rfl (by exact isw_ga _)) ?_; refine ok_p rfl rfl rfl (by exact ps_load rfl rfl (by exact Rds.cell (rds_box 1 rfl) rfl)) ?_; refine ok_p rfl rfl rfl (by exact ps_field rfl rfl (by exact isw_ga _)) ?_; refine ok_p rfl rfl rfl (by exact ps_load rfl rfl (by exact Rds.cell (rds_box 0 rfl) rfl)) ?_; refine ok_m rfl rfl rfl (by exact ms_s2 rfl rfl rfl (fun _ _ w hw => eqKVS_c _ _ _ _ x.U w (rds_rf h0 (by exact List.mem_cons_self) _ _ w hw) (rds_rf k0 (by exact List.mem_cons_self) _ _ w hw) (by omega))) ?_; rintro y9 hy9; refine ok_p rfl rfl rfl (by exact ps_not rfl rfl) ?_; refine ok_nil ?_; refine ok_env [(2, _), (3, _), (10, _)] ⟨rfl, rfl, rfl, trivial⟩ ?_)
    | (refine ok_region (i := 3) ?_; refine ok_p rfl rfl rfl (by exact ps_field rfl rfl (by exact isw_ga _)) ?_; refine ok_p rfl rfl rfl (by exact ps_load rfl rfl (by exact Rds.cell (rds_box 1 rfl) rfl)) ?_; refine ok_p rfl rfl rfl (by exact ps_field rfl rfl (by exact isw_ga _)) ?_; refine ok_p rfl rfl rfl (by exact ps_load rfl rfl (by exact Rds.cell (rds_box 0 rfl) rfl)) ?_; refine ok_m rfl rfl rfl (by exact ms_s2 rfl rfl rfl (fun _ _ w hw => eqStringS_c _ _ _ _ x.D w (rds_rf h1 (by exact List.mem_cons_self) _ _ w hw) (rds_rf k1 (by exact List.mem_cons_self) _ _ w hw) (by omega))) ?_; rintro y15 hy15; refine ok_p rfl rfl rfl (by exact ps_not rfl rfl) ?_; refine ok_nil ?_; refine ok_env [(16, _)] ⟨rfl, trivial⟩ ?_)
    | (refine ok_region (i := 5) ?_; refine ok_p rfl rfl rfl (by exact ps_assign rfl rfl) ?_; refine ok_nil ?_; refine ok_env [(4, _)] ⟨rfl, trivial⟩ ?_))
  all_goals first
    | (exfalso; simp [sEq] at hc; done)
    | exact ok_endL (vs := [_]) rfl ⟨rfl, trivial⟩ (fun w' hw => ⟨rfl, hw.below⟩)
theorem markDelta_c (x : DDelta) (y : Ys) (k : Int) (hk : 0 ≤ k ∧ k ≤ 100000000000000) (hl : Delta_lim x) {base : Nat} {w0 w : World} {H : List HObj} {G : List World}
    (hw : WOk base w0 (Delta_obj x y ++ H) G w) :
    Calls Try.prog 67 #[Delta_val x y, .int .i64 k] w fun e w' => ∃ q : Ys, e = .returned (.int .i64 (Delta_cnt x k)) ∧ True ∧ WOk base w0 (Delta_obj (Delta_mk k x) y ++ H) G w' := by
  unfold Delta_lim at hl
  refine ok_enterW 14 Try.func67 rfl rfl rfl hw ?_
  repeat' (first
    | refine ok_seq ?_
    | refine ok_then ?_
    | refine ok_ret ?_
    | (refine ok_region (i := 0) ?_; refine ok_m rfl rfl rfl (by exact ms_box rfl rfl rfl) ?_; rintro y2 hy2; refine ok_p rfl rfl rfl (by exact ps_assign rfl rfl) ?_; refine ok_nil ?_; refine ok_env [(1, _), (2, _)] ⟨rfl, rfl, trivial⟩ ?_)
    | (refine ok_region (i := 1) ?_; refine ok_p rfl rfl rfl (by exact ps_field rfl rfl (by exact isw_ga _)) ?_; refine ok_p rfl rfl rfl (by exact ps_load rfl rfl (by exact Rds.cell (rds_box 0 rfl) rfl)) ?_; refine ok_p rfl rfl rfl (by exact ps_move rfl rfl) ?_; refine ok_m rfl rfl rfl (by exact ms_w2 (fun _ _ _ h => h.front 1 rfl) rfl rfl rfl (fun _ _ w hw => markKVS_c _ _ x.U k ⟨by omega, by omega⟩ (by omega) hw)) ?_; rintro y8 hy8; refine ok_p rfl rfl rfl (by exact ps_assign rfl rfl) ?_; refine ok_nil ?_; refine ok_env [(1, _), (2, _)] ⟨rfl, rfl, trivial⟩ ?_)
    | (refine ok_region (i := 2) ?_; refine ok_p rfl rfl rfl (by exact ps_field rfl rfl (by exact isw_ga _)) ?_; refine ok_p rfl rfl rfl (by exact ps_load rfl rfl (by exact Rds.cell (rds_box 1 rfl) rfl)) ?_; refine ok_p rfl rfl rfl (by exact ps_move rfl rfl) ?_; refine ok_m rfl rfl rfl (by exact ms_w2 (fun _ _ _ h => h.front 2 rfl) rfl rfl rfl (fun _ _ w hw => markStringS_c _ _ x.D (k + 2 * (x.U.length : Int)) ⟨by omega, by omega⟩ (by omega) hw)) ?_; rintro y12 hy12; refine ok_p rfl rfl rfl (by exact ps_assign rfl rfl) ?_; refine ok_nil ?_; refine ok_env [(1, _)] ⟨rfl, trivial⟩ ?_)
    | (refine ok_region (i := 3) ?_; refine ok_p rfl rfl rfl (by exact ps_move rfl rfl) ?_; refine ok_p rfl rfl rfl (by exact ps_assign rfl rfl) ?_; refine ok_nil ?_; refine ok_env [(4, _)] ⟨rfl, trivial⟩ ?_))
  refine ok_endL (vs := [_]) rfl ⟨rfl, trivial⟩ (fun w' hw => ?_)
  refine ⟨mkY none 0 w, rfl, trivial, ?_⟩
  have := (((hw.front 0 rfl).front 1 rfl).front 2 rfl).tl
  simp only [Delta_obj, Delta_mk, mkL_len]
  exact this
theorem heldDelta_c (x : DDelta) (y : Ys) (k : Int) (hk : 0 ≤ k ∧ k ≤ 100000000000000) (hl : Delta_lim x) (w : World) (h : Delta_rd w (Delta_mk k x) y) :
    Calls Try.prog 68 #[Delta_val x y, .int .i64 k] w fun e w' => e = .returned (.int .i64 (Delta_cnt x k)) ∧ Below w.heap.size w w' := by
  unfold Delta_rd at h
  simp only [Delta_mk] at h
  unfold Delta_lim at hl
  obtain ⟨h0, h1⟩ := h
  refine ok_enter 18 Try.func68 rfl rfl rfl ?_
  repeat' (first
    | refine ok_seq ?_
    | refine ok_then ?_
    | refine ok_then_ret ?_
    | (refine ok_cond rfl (fun hc => ?_) (fun hc => ?_) <;> (have hd := hc; (try simp only [decide_eq_true_eq, decide_eq_false_iff_not, Bool.or_eq_true, Bool.or_eq_false_iff, Bool.and_eq_true, Bool.and_eq_false_iff, Bool.not_eq_true', Bool.not_eq_false', bne_iff_ne, beq_iff_eq, bne_eq_false_iff_eq, beq_eq_false_iff_ne, ne_eq, Bool.not_true, Bool.not_false, Bool.false_eq_true, Bool.true_eq_false, inB_true, inB_false] at hd)))
    | refine ok_ret ?_
    | refine ok_skip ?_
    | (refine ok_region (i := 0) ?_; refine ok_m rfl rfl rfl (by exact ms_box rfl rfl rfl) ?_; rintro y2 hy2; refine ok_p rfl rfl rfl (by exact ps_assign rfl rfl) ?_; refine ok_nil ?_; refine ok_env [(1, _), (2, _)] ⟨rfl, rfl, trivial⟩ ?_)
    | (refine ok_region (i := 1) ?_; refine ok_p rfl rfl rfl (by exact ps_field rfl rfl (by exact isw_ga _)) ?_; refine ok_p rfl rfl rfl (by exact ps_load rfl rfl (by exact Rds.cell (rds_box 0 rfl) rfl)) ?_; refine ok_p rfl rfl rfl (by exact ps_move rfl rfl) ?_; refine ok_m rfl rfl rfl (by exact ms_s2 rfl rfl rfl (fun _ _ w hw => heldKVS_c _ _ x.U.length k ⟨by omega, by omega⟩ (by omega) w (rds_rf h0 (by exact List.mem_cons_self) _ _ w hw))) ?_; rintro y8 hy8; refine ok_p rfl rfl rfl (by exact ps_assign rfl rfl) ?_; refine ok_nil ?_; refine ok_env [(1, _), (2, _)] ⟨rfl, rfl, trivial⟩ ?_)
    | (refine ok_region (i := 2) ?_; refine ok_p rfl rfl rfl (by exact ps_move rfl rfl) ?_; refine ok_p rfl rfl rfl (by exact ps_int rfl rfl rfl rfl) ?_; refine ok_nil ?_; refine ok_env [(1, _), (2, _), (10, _)] ⟨rfl, rfl, rfl, trivial⟩ ?_)
    | (refine ok_region (i := 3) ?_; refine ok_p rfl rfl rfl (by exact ps_assign rfl rfl) ?_; refine ok_nil ?_; refine ok_env [(4, _)] ⟨rfl, trivial⟩ ?_)
    | (refine ok_region (i := 4) ?_; refine ok_p rfl rfl rfl (by exact ps_field rfl rfl (by exact isw_ga _)) ?_; refine ok_p rfl rfl rfl (by exact ps_load rfl rfl (by exact Rds.cell (rds_box 0 rfl) rfl)) ?_; refine ok_p rfl rfl rfl (by exact ps_move rfl rfl) ?_; refine ok_m rfl rfl rfl (by exact ms_s2 rfl rfl rfl (fun _ _ w hw => heldStringS_c _ _ x.D.length (k + 2 * (x.U.length : Int)) ⟨by omega, by omega⟩ (by omega) w (rds_rf h1 (by exact List.mem_cons_self) _ _ w hw))) ?_; rintro y14 hy14; refine ok_p rfl rfl rfl (by exact ps_assign rfl rfl) ?_; refine ok_nil ?_; refine ok_env [(1, _)] ⟨rfl, trivial⟩ ?_)
    | (refine ok_region (i := 5) ?_; refine ok_p rfl rfl rfl (by exact ps_move rfl rfl) ?_; refine ok_p rfl rfl rfl (by exact ps_int rfl rfl rfl rfl) ?_; refine ok_nil ?_; refine ok_env [(1, _), (16, _)] ⟨rfl, rfl, trivial⟩ ?_)
    | (refine ok_region (i := 6) ?_; refine ok_p rfl rfl rfl (by exact ps_assign rfl rfl) ?_; refine ok_nil ?_; refine ok_env [(4, _)] ⟨rfl, trivial⟩ ?_)
    | (refine ok_region (i := 7) ?_; refine ok_p rfl rfl rfl (by exact ps_move rfl rfl) ?_; refine ok_p rfl rfl rfl (by exact ps_assign rfl rfl) ?_; refine ok_nil ?_; refine ok_env [(4, _)] ⟨rfl, trivial⟩ ?_))
  all_goals first
    | (exfalso; omega)
    | exact ok_endL (vs := [_]) rfl ⟨rfl, trivial⟩ (fun w' hw => ⟨rfl, hw.below⟩)
theorem Delta_cnt_le (x : DDelta) (k : Int) (h : Delta_lim x) : k ≤ Delta_cnt x k ∧ Delta_cnt x k ≤ k + 12582912 := by
  unfold Delta_lim at h; unfold Delta_cnt; omega
theorem Delta_sm_lim {x : DDelta} (h : Delta_sm x) : Delta_lim x := by
  unfold Delta_sm at h; unfold Delta_lim; exact ⟨by have := h.1.1; omega, by have := h.2.1; omega⟩
theorem Delta_rf {m w w0 : World} {base : Nat} {H : List HObj} {G : List World} {x : DDelta} {y : Ys} (h : Delta_rd m x y) (hm : m ∈ G) (hw : WOk base w0 H G w) : Delta_rd w x y := ⟨hw.keep (h.1) hm, hw.keep (h.2) hm⟩
theorem Delta_of {w w0 : World} {base : Nat} {H : List HObj} {G : List World} {x : DDelta} {y : Ys} (hw : WOk base w0 (Delta_obj x y ++ H) G w) : Delta_rd w x y := ⟨hw.row 0 rfl, hw.row 1 rfl⟩
abbrev gDelta : GT := .st [.sl 192 gKV, .sl 9 .str]
theorem Delta_open {w : World} {cs : Array Value} {x : gDelta.den} (hx : RdT w gDelta x cs.toList) : ∃ (d : DDelta) (y : Ys), Value.agg cs = Delta_val d y ∧ Delta_rd w d y ∧ Delta_big d := by
  obtain ⟨cs⟩ := cs
  simp only at hx
  obtain ⟨a0, a1, u⟩ := x
  obtain ⟨c0, d0, rfl, h0, e0⟩ := RdTL.cons.1 (RdT.st.1 hx)
  obtain ⟨c1, d1, rfl, h1, e1⟩ := RdTL.cons.1 e0
  rw [RdTL.nil] at e1; subst e1
  obtain ⟨A0, k0, l0, rfl, m0, r0, b0⟩ := flat_sl flatKV h0
  obtain ⟨A1, k1, l1, rfl, m1, r1, b1⟩ := flat_sl flatStr h1
  exact ⟨⟨l0, l1⟩, ya [(A0, k0), (A1, k1)] w, rfl, ⟨r0, r1⟩, ⟨⟨m0, b0⟩, ⟨m1, b1⟩⟩⟩
end Go.Proofs.Ytfcnimglcialbaa
