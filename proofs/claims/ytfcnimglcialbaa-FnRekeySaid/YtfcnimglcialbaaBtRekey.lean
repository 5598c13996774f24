/- Rekey in the uniform style: size, copy, comparison, marks. -/
import Derived.Test.YtfcnimglcialbaaBfFKey
import Derived.Test.YtfcnimglcialbaaFlFKey
namespace Go.Proofs.Ytfcnimglcialbaa
open Go.RowKit
set_option maxHeartbeats 4000000
set_option maxRecDepth 20000
set_option linter.unusedVariables false
set_option linter.unusedSimpArgs false
attribute [local irreducible] Calls
structure DRekey where
  o1 : ByteArray
  o2 : ByteArray
  K : List FKey
  dn : Int
  deriving DecidableEq
def Rekey_val (x : DRekey) (y : Ys) : Value := .agg #[.string x.o1, .string x.o2, .slice (y 0).A x.K.length (y 0).c, .int .i64 x.dn]
def Rekey_obj (x : DRekey) (y : Ys) : List HObj := [.row 111 2 (y 0).A x.K.length (y 0).c (fl x.K)]
def Rekey_rd (w : World) (x : DRekey) (y : Ys) : Prop := Rd w (y 0).A (fl x.K)
def Rekey_big (x : DRekey) : Prop := (x.K.length ≤ maxLen ∧ ∀ u ∈ x.K, bigFKey u) ∧ x.o1.size ≤ maxLen ∧ x.o2.size ≤ maxLen
def Rekey_sm (x : DRekey) : Prop := (x.K.length ≤ 1048576 ∧ ∀ u ∈ x.K, wtFKey u) ∧ x.o1.size ≤ 1048576 ∧ x.o2.size ≤ 1048576
def Rekey_lim (x : DRekey) : Prop := x.K.length ≤ 4194304
def Rekey_cnt (x : DRekey) (k : Int) : Int := (k + 2 * (x.K.length : Int))
def Rekey_mk (k : Int) (x : DRekey) : DRekey := { x with K := mkL k x.K.length }
theorem szRekey_c (x : DRekey) (y : Ys) (left : Int) (hl : 0 ≤ left ∧ left ≤ 1048576) (w : World) (h : Rekey_rd w x y) (hb : Rekey_big x) :
    Calls Try.prog 58 #[Rekey_val x y, .int .i64 left] w fun e w' => ∃ y : Ys, e = .returned (.int .i64 (y 0).n) ∧ (-1 ≤ (y 0).n ∧ (y 0).n ≤ left ∧ (0 ≤ (y 0).n → Rekey_sm x)) ∧ Below w.heap.size w w' ∧ NewOk w.heap.size [] [] w' := by
  unfold Rekey_big at hb
  unfold Rekey_rd at h
  obtain ⟨⟨m0, g0⟩, no1, no2⟩ := hb
  have h0 := h
  unfold maxLen at no1
  unfold maxLen at no2
  refine ok_enter 26 Try.func58 rfl rfl rfl ?_
  repeat' (first
    | refine ok_seq ?_
    | refine ok_then ?_
    | refine ok_then_ret ?_
    | (refine ok_cond rfl (fun hc => ?_) (fun hc => ?_) <;> (have hd := hc; (try simp only [decide_eq_true_eq, decide_eq_false_iff_not, Bool.or_eq_true, Bool.or_eq_false_iff, Bool.and_eq_true, Bool.and_eq_false_iff, Bool.not_eq_true', Bool.not_eq_false', bne_iff_ne, beq_iff_eq, bne_eq_false_iff_eq, beq_eq_false_iff_ne, ne_eq, Bool.not_true, Bool.not_false, Bool.false_eq_true, Bool.true_eq_false, inB_true, inB_false] at hd)))
    | refine ok_ret ?_
    | refine ok_skip ?_
    | (refine ok_region (i := 0) ?_; refine ok_m rfl rfl rfl (by exact ms_box rfl rfl rfl) ?_; rintro y2 hy2; refine ok_p rfl rfl rfl (by exact ps_assign rfl rfl) ?_; refine ok_nil ?_; refine ok_env [(1, _), (2, _)] ⟨rfl, rfl, trivial⟩ ?_)
    | (refine ok_region (i := 1) ?_; refine ok_p rfl rfl rfl (by exact ps_move rfl rfl) ?_; refine ok_p rfl rfl rfl (by exact ps_field rfl rfl (by exact isw_ga _)) ?_; refine ok_p rfl rfl rfl (by exact ps_load rfl rfl (by exact Rds.cell (rds_box 0 rfl) rfl)) ?_; refine ok_p rfl rfl rfl (by exact ps_slen rfl rfl) ?_; refine ok_p rfl rfl rfl (by exact ps_sub rfl rfl rfl (by omega)) ?_; refine ok_p rfl rfl rfl (by exact ps_assign rfl rfl) ?_; refine ok_nil ?_; refine ok_env [(1, _), (2, _)] ⟨rfl, rfl, trivial⟩ ?_)
    | (refine ok_region (i := 2) ?_; refine ok_p rfl rfl rfl (by exact ps_move rfl rfl) ?_; refine ok_p rfl rfl rfl (by exact ps_int rfl rfl rfl rfl) ?_; refine ok_nil ?_; refine ok_env [(1, _), (2, _), (11, _)] ⟨rfl, rfl, rfl, trivial⟩ ?_)
    | (refine ok_region (i := 3) ?_; refine ok_p rfl rfl rfl (by exact ps_assign rfl rfl) ?_; refine ok_nil ?_; refine ok_env [(4, _)] ⟨rfl, trivial⟩ ?_)
    | (refine ok_region (i := 4) ?_; refine ok_p rfl rfl rfl (by exact ps_move rfl rfl) ?_; refine ok_p rfl rfl rfl (by exact ps_field rfl rfl (by exact isw_ga _)) ?_; refine ok_p rfl rfl rfl (by exact ps_load rfl rfl (by exact Rds.cell (rds_box 0 rfl) rfl)) ?_; refine ok_p rfl rfl rfl (by exact ps_slen rfl rfl) ?_; refine ok_p rfl rfl rfl (by exact ps_sub rfl rfl rfl (by omega)) ?_; refine ok_p rfl rfl rfl (by exact ps_assign rfl rfl) ?_; refine ok_nil ?_; refine ok_env [(1, _), (2, _)] ⟨rfl, rfl, trivial⟩ ?_)
    | (refine ok_region (i := 5) ?_; refine ok_p rfl rfl rfl (by exact ps_move rfl rfl) ?_; refine ok_p rfl rfl rfl (by exact ps_int rfl rfl rfl rfl) ?_; refine ok_nil ?_; refine ok_env [(1, _), (2, _), (18, _)] ⟨rfl, rfl, rfl, trivial⟩ ?_)
    | (refine ok_region (i := 6) ?_; refine ok_p rfl rfl rfl (by exact ps_assign rfl rfl) ?_; refine ok_nil ?_; refine ok_env [(4, _)] ⟨rfl, trivial⟩ ?_)
    | (refine ok_region (i := 7) ?_; refine ok_p rfl rfl rfl (by exact ps_field rfl rfl (by exact isw_ga _)) ?_; refine ok_p rfl rfl rfl (by exact ps_load rfl rfl (by exact Rds.cell (rds_box 0 rfl) rfl)) ?_; refine ok_p rfl rfl rfl (by exact ps_move rfl rfl) ?_; refine ok_m rfl rfl rfl (by exact ms_c2 rfl rfl rfl (fun _ _ w hw => szFKeyS_c _ _ x.K _ ⟨by omega, by omega⟩ m0 g0 w (rds_rf h0 (by exact List.mem_cons_self) _ _ w hw))) ?_; rintro y22 hy22; refine ok_p rfl rfl rfl (by exact ps_assign rfl rfl) ?_; refine ok_nil ?_; refine ok_env [(1, _)] ⟨rfl, trivial⟩ ?_)
    | (refine ok_region (i := 8) ?_; refine ok_p rfl rfl rfl (by exact ps_move rfl rfl) ?_; refine ok_p rfl rfl rfl (by exact ps_int rfl rfl rfl rfl) ?_; refine ok_nil ?_; refine ok_env [(1, _), (24, _)] ⟨rfl, rfl, trivial⟩ ?_)
    | (refine ok_region (i := 9) ?_; refine ok_p rfl rfl rfl (by exact ps_assign rfl rfl) ?_; refine ok_nil ?_; refine ok_env [(4, _)] ⟨rfl, trivial⟩ ?_)
    | (refine ok_region (i := 10) ?_; refine ok_p rfl rfl rfl (by exact ps_move rfl rfl) ?_; refine ok_p rfl rfl rfl (by exact ps_assign rfl rfl) ?_; refine ok_nil ?_; refine ok_env [(4, _)] ⟨rfl, trivial⟩ ?_))
  all_goals first
    | exact ok_endL (vs := [.int .i64 (-1)]) rfl ⟨rfl, trivial⟩ (fun w' hw => ⟨mkN (-1) w, rfl, ⟨by show (-1 : Int) ≤ -1; decide, by show (-1 : Int) ≤ left; omega, fun h => absurd h (by show ¬ (0 : Int) ≤ -1; decide)⟩, hw.below, NewOk.nil _ _⟩)
    | exact ok_endL (vs := [.int .i64 ((y22 0).n)]) rfl ⟨rfl, trivial⟩ (fun w' hw => ⟨mkN ((y22 0).n) w, rfl, ⟨by show -1 ≤ (y22 0).n; omega, by show (y22 0).n ≤ left; omega, fun _ => ⟨⟨by have := (hy22.2.2 (by omega)).1; omega, (hy22.2.2 (by omega)).2⟩, by omega, by omega⟩⟩, hw.below, NewOk.nil _ _⟩)
theorem toRekey_c (x : DRekey) (y : Ys) (w : World) (h : Rekey_rd w x y) (hs : Rekey_sm x) :
    Calls Try.prog 60 #[Rekey_val x y] w fun e w' => ∃ y : Ys, e = .returned (Rekey_val x y) ∧ True ∧ Below w.heap.size w w' ∧ NewOk w.heap.size (Rekey_obj x y) [] w' := by
  unfold Rekey_sm at hs
  unfold Rekey_rd at h
  have h0 := h
  refine ok_enter 18 Try.func60 rfl rfl rfl ?_
  repeat' (first
    | refine ok_seq ?_
    | refine ok_then ?_
    | refine ok_ret ?_
    | (refine ok_region (i := 0) ?_; refine ok_m rfl rfl rfl (by exact ms_box rfl rfl rfl) ?_; rintro y1 hy1; refine ok_m rfl rfl rfl (by exact ms_alloc rfl) ?_; rintro y2 hy2; refine ok_nil ?_; refine ok_env [(1, _), (2, _)] ⟨rfl, rfl, trivial⟩ ?_)
    | (refine ok_region (i := 1) ?_; refine ok_m rfl rfl rfl (by exact ms_alloc rfl) ?_; rintro y3 hy3; refine ok_nil ?_; refine ok_env [(1, _), (2, _), (3, _)] ⟨rfl, rfl, rfl, trivial⟩ ?_)
    | (refine ok_region (i := 2) ?_; refine ok_p rfl rfl rfl (by exact ps_field rfl rfl (by exact isw_ga _)) ?_; refine ok_p rfl rfl rfl (by exact ps_load rfl rfl (by exact Rds.cell (rds_box 2 rfl) rfl)) ?_; refine ok_p rfl rfl rfl (by exact ps_field rfl rfl (by exact isw_ga _)) ?_; refine ok_m_ rfl rfl (by exact ms_store 0 rfl rfl rfl rfl rfl rfl rfl rfl) ?_; rintro y_ hy_; refine ok_nil ?_; refine ok_env [(1, _), (2, _), (3, _)] ⟨rfl, rfl, rfl, trivial⟩ ?_)
    | (refine ok_region (i := 3) ?_; refine ok_p rfl rfl rfl (by exact ps_field rfl rfl (by exact isw_ga _)) ?_; refine ok_p rfl rfl rfl (by exact ps_load rfl rfl (by exact Rds.cell (rds_box 2 rfl) rfl)) ?_; refine ok_p rfl rfl rfl (by exact ps_field rfl rfl (by exact isw_ga _)) ?_; refine ok_m_ rfl rfl (by exact ms_store 0 rfl rfl rfl rfl rfl rfl rfl rfl) ?_; rintro y_ hy_; refine ok_nil ?_; refine ok_env [(1, _), (2, _), (3, _)] ⟨rfl, rfl, rfl, trivial⟩ ?_)
    | (refine ok_region (i := 4) ?_; refine ok_p rfl rfl rfl (by exact ps_field rfl rfl (by exact isw_ga _)) ?_; refine ok_p rfl rfl rfl (by exact ps_load rfl rfl (by exact Rds.cell (rds_box 2 rfl) rfl)) ?_; refine ok_m rfl rfl rfl (by exact ms_c1 rfl rfl (fun _ _ w hw => toFKeyS_c _ _ x.K w (rds_rf h0 (by exact List.mem_cons_self) _ _ w hw) hs.1.1)) ?_; rintro y12 hy12; refine ok_p rfl rfl rfl (by exact ps_field rfl rfl (by exact isw_ga _)) ?_; refine ok_m_ rfl rfl (by exact ms_store 1 rfl rfl rfl rfl rfl rfl rfl rfl) ?_; rintro y_ hy_; refine ok_nil ?_; refine ok_env [(1, _), (2, _), (3, _)] ⟨rfl, rfl, rfl, trivial⟩ ?_)
    | (refine ok_region (i := 5) ?_; refine ok_p rfl rfl rfl (by exact ps_field rfl rfl (by exact isw_ga _)) ?_; refine ok_p rfl rfl rfl (by exact ps_load rfl rfl (by exact Rds.cell (rds_box 3 rfl) rfl)) ?_; refine ok_p rfl rfl rfl (by exact ps_field rfl rfl (by exact isw_ga _)) ?_; refine ok_m_ rfl rfl (by exact ms_store 1 rfl rfl rfl rfl rfl rfl rfl rfl) ?_; rintro y_ hy_; refine ok_nil ?_; refine ok_env [(2, _), (3, _)] ⟨rfl, rfl, trivial⟩ ?_)
    | (refine ok_region (i := 6) ?_; refine ok_p rfl rfl rfl (by exact ps_loads rfl rfl (by exact rds_box 1 rfl) rfl rfl (by decide)) ?_; refine ok_m_ rfl rfl (by exact ms_store 2 rfl rfl rfl rfl rfl rfl rfl rfl) ?_; rintro y_ hy_; refine ok_nil ?_; refine ok_env [(2, _)] ⟨rfl, trivial⟩ ?_))
  refine ok_endL (vs := [_]) rfl ⟨⟨_, 2, _, _, _, rfl, rfl, inferInstance, rfl, rfl⟩, trivial⟩ (fun w' hw => ?_)
  refine ⟨yl [y12 0] (y12 0), ?_, trivial, hw.below, ?_⟩
  · rfl
  · have := NewOk.of (hw.sel [0] (by decide) rfl (fun _ h => h))
    exact this
theorem eqRekey_c (x : DRekey) (y z : Ys) (w : World) (h : Rekey_rd w x y) (k : Rekey_rd w x z) (hl : Rekey_lim x) :
    Calls Try.prog 62 #[Rekey_val x y, Rekey_val x z] w fun e w' => e = .returned (.bool true) ∧ Below w.heap.size w w' := by
  unfold Rekey_rd at h k
  unfold Rekey_lim at hl
  have h0 := h
  have k0 := k
  refine ok_enter 26 Try.func62 rfl rfl rfl ?_
  repeat' (first
    | refine ok_seq ?_
    | refine ok_then ?_
    | refine ok_then_ret ?_
    | (refine ok_cond rfl (fun hc => ?_) (fun hc => ?_) <;> (have hd := hc; (try simp only [decide_eq_true_eq, decide_eq_false_iff_not, Bool.or_eq_true, Bool.or_eq_false_iff, Bool.and_eq_true, Bool.and_eq_false_iff, Bool.not_eq_true', Bool.not_eq_false', bne_iff_ne, beq_iff_eq, bne_eq_false_iff_eq, beq_eq_false_iff_ne, ne_eq, Bool.not_true, Bool.not_false, Bool.false_eq_true, Bool.true_eq_false, inB_true, inB_false] at hd)))
    | refine ok_ret ?_
    | refine ok_skip ?_
    | (refine ok_region (i := 0) ?_; refine ok_m rfl rfl rfl (by exact ms_box rfl rfl rfl) ?_; rintro y2 hy2; refine ok_m rfl rfl rfl (by exact ms_box rfl rfl rfl) ?_; rintro y3 hy3; refine ok_p rfl rfl rfl (by exact ps_assign rfl rfl) ?_; refine ok_nil ?_; refine ok_env [(2, _), (3, _)] ⟨rfl, rfl, trivial⟩ ?_)
    | (refine ok_region (i := 1) ?_; refine ok_p rfl rfl rfl (by exact ps_field rfl rfl (by exact isw_ga _)) ?_; refine ok_p rfl rfl rfl (by exact ps_load rfl rfl (by exact Rds.cell (rds_box 1 rfl) rfl)) ?_; refine ok_p rfl rfl rfl (by exact ps_field rfl rfl (by exact isw_ga _)) ?_; refine ok_p rfl rfl rfl (by exact ps_load rfl rfl (by exact Rds.cell (rds_box 0 rfl) rfl)) ?_; refine ok_p rfl rfl rfl (by exact ps_str rfl rfl rfl rfl) ?_; refine ok_nil ?_; refine ok_env [(2, _), (3, _), (9, _)] ⟨rfl, rfl, rfl, trivial⟩ ?_)
    | (refine ok_region (i := 2) ?_; refine ok_p rfl rfl rfl (by exact ps_assign rfl rfl) ?_; refine ok_nil ?_; refine ok_env [(4, _)] ⟨rfl, trivial⟩ ?_)
    | (refine ok_region (i := 3) ?_; refine ok_p rfl rfl rfl (by exact ps_field rfl rfl (by exact isw_ga _)) ?_; refine ok_p rfl rfl rfl (by exact ps_load rfl rfl (by exact Rds.cell (rds_box 1 rfl) rfl)) ?_; refine ok_p rfl rfl rfl (by exact ps_field rfl rfl (by exact isw_ga _)) ?_; refine ok_p rfl rfl rfl (by exact ps_load rfl rfl (by exact Rds.cell (rds_box 0 rfl) rfl)) ?_; refine ok_p rfl rfl rfl (by exact ps_str rfl rfl rfl rfl) ?_; refine ok_nil ?_; refine ok_env [(2, _), (3, _), (14, _)] ⟨rfl, rfl, rfl, trivial⟩ ?_)
    | (refine ok_region (i := 4) ?_; refine ok_p rfl rfl rfl (by exact ps_assign rfl rfl) ?_; refine ok_nil ?_; refine ok_env [(4, _)] ⟨rfl, trivial⟩ ?_)
    | (refine ok_region (i := 5) ?_; refine ok_p rfl rfl rfl (by exact ps_field rfl rfl (by exact isw_ga _)) ?_; refine ok_p rfl rfl rfl (by exact ps_load rfl rfl (by exact Rds.cell (rds_box 1 rfl) rfl)) ?_; refine ok_p rfl rfl rfl (by exact ps_field rfl rfl (by exact isw_ga _)) ?_; refine ok_p rfl rfl rfl (by exact ps_load rfl rfl (by exact Rds.cell (rds_box 0 rfl) rfl)) ?_; refine ok_m rfl rfl rfl (by exact ms_s2 rfl rfl rfl (fun _ _ w hw => eqFKeyS_c _ _ _ _ x.K w (rds_rf h0 (by exact List.mem_cons_self) _ _ w hw) (rds_rf k0 (by exact List.mem_cons_self) _ _ w hw) (by omega))) ?_; rintro y19 hy19; refine ok_p rfl rfl rfl (by exact ps_not rfl rfl) ?_; refine ok_nil ?_; refine ok_env [(2, _), (3, _), (20, _)] ⟨rfl, rfl, rfl, trivial⟩ ?_)
    | (refine ok_region (i := 7) ?_; refine ok_p rfl rfl rfl (by exact ps_field rfl rfl (by exact isw_ga _)) ?_; refine ok_p rfl rfl rfl (by exact ps_load rfl rfl (by exact Rds.cell (rds_box 1 rfl) rfl)) ?_; refine ok_p rfl rfl rfl (by exact ps_field rfl rfl (by exact isw_ga _)) ?_; refine ok_p rfl rfl rfl (by exact ps_load rfl rfl (by exact Rds.cell (rds_box 0 rfl) rfl)) ?_; refine ok_p rfl rfl rfl (by exact ps_int rfl rfl rfl rfl) ?_; refine ok_nil ?_; refine ok_env [(25, _)] ⟨rfl, trivial⟩ ?_)
    | (refine ok_region (i := 8) ?_; refine ok_p rfl rfl rfl (by exact ps_assign rfl rfl) ?_; refine ok_nil ?_; refine ok_env [(4, _)] ⟨rfl, trivial⟩ ?_)
    | (refine ok_region (i := 9) ?_; refine ok_p rfl rfl rfl (by exact ps_assign rfl rfl) ?_; refine ok_nil ?_; refine ok_env [(4, _)] ⟨rfl, trivial⟩ ?_))
  all_goals first
    | (exfalso; simp [sEq] at hc; done)
    | exact ok_endL (vs := [_]) rfl ⟨rfl, trivial⟩ (fun w' hw => ⟨rfl, hw.below⟩)
theorem markRekey_c (x : DRekey) (y : Ys) (k : Int) (hk : 0 ≤ k ∧ k ≤ 100000000000000) (hl : Rekey_lim x) {base : Nat} {w0 w : World} {H : List HObj} {G : List World}
    (hw : WOk base w0 (Rekey_obj x y ++ H) G w) :
    Calls Try.prog 78 #[Rekey_val x y, .int .i64 k] w fun e w' => ∃ q : Ys, e = .returned (.int .i64 (Rekey_cnt x k)) ∧ True ∧ WOk base w0 (Rekey_obj (Rekey_mk k x) y ++ H) G w' := by
  unfold Rekey_lim at hl
  refine ok_enterW 10 Try.func78 rfl rfl rfl hw ?_
  repeat' (first
    | refine ok_seq ?_
    | refine ok_then ?_
    | refine ok_ret ?_
    | (refine ok_region (i := 0) ?_; refine ok_m rfl rfl rfl (by exact ms_box rfl rfl rfl) ?_; rintro y2 hy2; refine ok_p rfl rfl rfl (by exact ps_assign rfl rfl) ?_; refine ok_nil ?_; refine ok_env [(1, _), (2, _)] ⟨rfl, rfl, trivial⟩ ?_)
    | (refine ok_region (i := 1) ?_; refine ok_p rfl rfl rfl (by exact ps_field rfl rfl (by exact isw_ga _)) ?_; refine ok_p rfl rfl rfl (by exact ps_load rfl rfl (by exact Rds.cell (rds_box 0 rfl) rfl)) ?_; refine ok_p rfl rfl rfl (by exact ps_move rfl rfl) ?_; refine ok_m rfl rfl rfl (by exact ms_w2 (fun _ _ _ h => h.front 1 rfl) rfl rfl rfl (fun _ _ w hw => markFKeyS_c _ _ x.K k ⟨by omega, by omega⟩ (by omega) hw)) ?_; rintro y8 hy8; refine ok_p rfl rfl rfl (by exact ps_assign rfl rfl) ?_; refine ok_nil ?_; refine ok_env [(1, _)] ⟨rfl, trivial⟩ ?_)
    | (refine ok_region (i := 2) ?_; refine ok_p rfl rfl rfl (by exact ps_move rfl rfl) ?_; refine ok_p rfl rfl rfl (by exact ps_assign rfl rfl) ?_; refine ok_nil ?_; refine ok_env [(4, _)] ⟨rfl, trivial⟩ ?_))
  refine ok_endL (vs := [_]) rfl ⟨rfl, trivial⟩ (fun w' hw => ?_)
  refine ⟨mkY none 0 w, rfl, trivial, ?_⟩
  have := ((hw.front 0 rfl).front 1 rfl).tl
  simp only [Rekey_obj, Rekey_mk, mkL_len]
  exact this
theorem heldRekey_c (x : DRekey) (y : Ys) (k : Int) (hk : 0 ≤ k ∧ k ≤ 100000000000000) (hl : Rekey_lim x) (w : World) (h : Rekey_rd w (Rekey_mk k x) y) :
    Calls Try.prog 79 #[Rekey_val x y, .int .i64 k] w fun e w' => e = .returned (.int .i64 (Rekey_cnt x k)) ∧ Below w.heap.size w w' := by
  unfold Rekey_rd at h
  simp only [Rekey_mk] at h
  unfold Rekey_lim at hl
  have h0 := h
  refine ok_enter 12 Try.func79 rfl rfl rfl ?_
  repeat' (first
    | refine ok_seq ?_
    | refine ok_then ?_
    | refine ok_then_ret ?_
    | (refine ok_cond rfl (fun hc => ?_) (fun hc => ?_) <;> (have hd := hc; (try simp only [decide_eq_true_eq, decide_eq_false_iff_not, Bool.or_eq_true, Bool.or_eq_false_iff, Bool.and_eq_true, Bool.and_eq_false_iff, Bool.not_eq_true', Bool.not_eq_false', bne_iff_ne, beq_iff_eq, bne_eq_false_iff_eq, beq_eq_false_iff_ne, ne_eq, Bool.not_true, Bool.not_false, Bool.false_eq_true, Bool.true_eq_false, inB_true, inB_false] at hd)))
    | refine ok_ret ?_
    | refine ok_skip ?_
    | (refine ok_region (i := 0) ?_; refine ok_m rfl rfl rfl (by exact ms_box rfl rfl rfl) ?_; rintro y2 hy2; refine ok_p rfl rfl rfl (by exact ps_assign rfl rfl) ?_; refine ok_nil ?_; refine ok_env [(1, _), (2, _)] ⟨rfl, rfl, trivial⟩ ?_)
    | (refine ok_region (i := 1) ?_; refine ok_p rfl rfl rfl (by exact ps_field rfl rfl (by exact isw_ga _)) ?_; refine ok_p rfl rfl rfl (by exact ps_load rfl rfl (by exact Rds.cell (rds_box 0 rfl) rfl)) ?_; refine ok_p rfl rfl rfl (by exact ps_move rfl rfl) ?_; refine ok_m rfl rfl rfl (by exact ms_s2 rfl rfl rfl (fun _ _ w hw => heldFKeyS_c _ _ x.K.length k ⟨by omega, by omega⟩ (by omega) w (rds_rf h0 (by exact List.mem_cons_self) _ _ w hw))) ?_; rintro y8 hy8; refine ok_p rfl rfl rfl (by exact ps_assign rfl rfl) ?_; refine ok_nil ?_; refine ok_env [(1, _)] ⟨rfl, trivial⟩ ?_)
    | (refine ok_region (i := 2) ?_; refine ok_p rfl rfl rfl (by exact ps_move rfl rfl) ?_; refine ok_p rfl rfl rfl (by exact ps_int rfl rfl rfl rfl) ?_; refine ok_nil ?_; refine ok_env [(1, _), (10, _)] ⟨rfl, rfl, trivial⟩ ?_)
    | (refine ok_region (i := 3) ?_; refine ok_p rfl rfl rfl (by exact ps_assign rfl rfl) ?_; refine ok_nil ?_; refine ok_env [(4, _)] ⟨rfl, trivial⟩ ?_)
    | (refine ok_region (i := 4) ?_; refine ok_p rfl rfl rfl (by exact ps_move rfl rfl) ?_; refine ok_p rfl rfl rfl (by exact ps_assign rfl rfl) ?_; refine ok_nil ?_; refine ok_env [(4, _)] ⟨rfl, trivial⟩ ?_))
  all_goals first
    | (exfalso; omega)
    | exact ok_endL (vs := [_]) rfl ⟨rfl, trivial⟩ (fun w' hw => ⟨rfl, hw.below⟩)
theorem Rekey_cnt_le (x : DRekey) (k : Int) (h : Rekey_lim x) : k ≤ Rekey_cnt x k ∧ Rekey_cnt x k ≤ k + 8388608 := by
  unfold Rekey_lim at h; unfold Rekey_cnt; omega
theorem Rekey_sm_lim {x : DRekey} (h : Rekey_sm x) : Rekey_lim x := by
  unfold Rekey_sm at h; unfold Rekey_lim; have := h.1.1; omega
theorem Rekey_rf {m w w0 : World} {base : Nat} {H : List HObj} {G : List World} {x : DRekey} {y : Ys} (h : Rekey_rd m x y) (hm : m ∈ G) (hw : WOk base w0 H G w) : Rekey_rd w x y := hw.keep h hm
theorem Rekey_of {w w0 : World} {base : Nat} {H : List HObj} {G : List World} {x : DRekey} {y : Ys} (hw : WOk base w0 (Rekey_obj x y ++ H) G w) : Rekey_rd w x y := hw.row 0 rfl
abbrev gRekey : GT := .st [.str, .str, .sl 250 gFKey, .int]
theorem Rekey_open {w : World} {cs : Array Value} {x : gRekey.den} (hx : RdT w gRekey x cs.toList) : ∃ (d : DRekey) (y : Ys), Value.agg cs = Rekey_val d y ∧ Rekey_rd w d y ∧ Rekey_big d := by
  obtain ⟨cs⟩ := cs
  simp only at hx
  obtain ⟨a0, a1, a2, a3, u⟩ := x
  obtain ⟨c0, d0, rfl, h0, e0⟩ := RdTL.cons.1 (RdT.st.1 hx)
  obtain ⟨c1, d1, rfl, h1, e1⟩ := RdTL.cons.1 e0
  obtain ⟨c2, d2, rfl, h2, e2⟩ := RdTL.cons.1 e1
  obtain ⟨c3, d3, rfl, h3, e3⟩ := RdTL.cons.1 e2
  rw [RdTL.nil] at e3; subst e3
  obtain ⟨rfl, b0⟩ := RdT.str.1 h0
  obtain ⟨rfl, b1⟩ := RdT.str.1 h1
  obtain ⟨A2, k2, l2, rfl, m2, r2, b2⟩ := flat_sl flatFKey h2
  obtain ⟨rfl, b3⟩ := RdT.int.1 h3
  exact ⟨⟨a0, a1, l2, a3⟩, ya [(A2, k2)] w, rfl, r2, ⟨⟨m2, b2⟩, b0, b1⟩⟩
end Go.Proofs.Ytfcnimglcialbaa
