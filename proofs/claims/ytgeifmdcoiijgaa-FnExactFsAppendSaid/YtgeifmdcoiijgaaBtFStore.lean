/- FStore in the uniform style: size, copy, comparison, marks. -/
import Derived.Test.YtgeifmdcoiijgaaBnFFile
import Derived.Test.YtgeifmdcoiijgaaBfStr
import Derived.Test.YtgeifmdcoiijgaaFlStr
namespace Go.Proofs.Ytgeifmdcoiijgaa
open Go.RowKit
set_option maxHeartbeats 4000000
set_option maxRecDepth 20000
set_option linter.unusedVariables false
set_option linter.unusedSimpArgs false
attribute [local irreducible] Calls
@[reducible] def FS_loc (x : DFStore) (y : Ys) : List LF := locs 2 x.F y
def FStore_val (x : DFStore) (y : Ys) : Value := .agg #[.slice (y 0).A x.B.length (y 0).c, .slice (y 1).A x.F.length (y 1).c]
def FStore_obj (x : DFStore) (y : Ys) : List HObj := [.row 9 1 (y 0).A x.B.length (y 0).c (fl x.B), .row 67 5 (y 1).A x.F.length (y 1).c (fl (FS_loc x y)), .bag 3 1 (rowsOf (FS_loc x y))]
def FStore_rd (w : World) (x : DFStore) (y : Ys) : Prop := Rd w (y 0).A (fl x.B) ∧ RdN w (y 1).A (FS_loc x y)
def FStore_big (x : DFStore) : Prop := (x.B.length ≤ maxLen ∧ ∀ u ∈ x.B, bigStr u) ∧ x.F.length ≤ maxLen ∧ ∀ f ∈ x.F, f.bl.length ≤ maxLen
def FStore_sm (x : DFStore) : Prop := (x.B.length ≤ 1048576 ∧ ∀ u ∈ x.B, wtStr u) ∧ x.F.length ≤ 1048576 ∧ ∀ f ∈ x.F, f.bl.length ≤ 1048576
def FStore_lim (x : DFStore) : Prop := x.B.length ≤ 4194304 ∧ x.F.length ≤ 4194304 ∧ ∀ f ∈ x.F, f.bl.length ≤ 4194304
def FStore_cnt (x : DFStore) (k : Int) : Int := (k + 1 * (x.B.length : Int)) + (offF x.F x.F.length : Int)
def FStore_mk (k : Int) (x : DFStore) : DFStore := ⟨mkL k x.B.length, mkFS (k + 1 * (x.B.length : Int)) x.F⟩
theorem FStore_sm_lim {x : DFStore} (h : FStore_sm x) : FStore_lim x := ⟨by have := h.1.1; omega, by have := h.2.1; omega, fun l hl => by have := h.2.2 l hl; omega⟩
theorem FStore_cnt_le (x : DFStore) (k : Int) (h : FStore_lim x) : k ≤ FStore_cnt x k ∧ FStore_cnt x k ≤ k + 17592207015936 := by
  have := offF_le x.F h.2.1 h.2.2 x.F.length
  have h1 := h.1
  unfold FStore_cnt; omega
/-- One place more ahead of the others. -/
def shY (a : Ya) (y : Ys) : Ys := fun i => if i = 0 then a else y (i - 1)
theorem locs_sh {α β : Type} [Dat β] [In α β] (k : Nat) (x : List α) (a : Ya) (y : Ys) : locs (k + 1) x (shY a y) = locs k x y := by
  unfold locs
  congr 1
  funext i d
  simp [shY, show k + 1 + i ≠ 0 by omega, show k + 1 + i - 1 = k + i by omega]
/-- The places behind the first. -/
def unY (y : Ys) : Ys := fun i => y (i + 1)
theorem locs_un {α β : Type} [Dat β] [In α β] (k : Nat) (x : List α) (y : Ys) : locs (k + 1) x y = locs k x (unY y) := by
  unfold locs
  congr 1
  funext i d
  simp [unY, show k + i + 1 = k + 1 + i by omega]
theorem szFStore_c (x : DFStore) (y : Ys) (left : Int) (hl : 0 ≤ left ∧ left ≤ 1048576) (w : World) (h : FStore_rd w x y) (hb : FStore_big x) :
    Calls Try.prog 35 #[FStore_val x y, .int .i64 left] w fun e w' => ∃ y : Ys, e = .returned (.int .i64 (y 0).n) ∧ (-1 ≤ (y 0).n ∧ (y 0).n ≤ left ∧ (0 ≤ (y 0).n → FStore_sm x)) ∧ Below w.heap.size w w' ∧ NewOk w.heap.size [] [] w' := by
  obtain ⟨⟨b1, b2⟩, b3, b4⟩ := hb
  obtain ⟨h1, h2⟩ := h
  have B2 := Lib.hid b2; clear b2
  have H2 := Lib.hid h2; clear h2
  have hz : ∀ (left : Int) (hl : 0 ≤ left ∧ left ≤ 1048576) (w : World), RdN w (y 1).A (FS_loc x y) → Calls Try.prog 112 #[.slice (y 1).A x.F.length (y 1).c, .int .i64 left] w fun e w' => ∃ y : Ys, e = .returned (.int .i64 (y 0).n) ∧ (-1 ≤ (y 0).n ∧ (y 0).n ≤ left ∧ (0 ≤ (y 0).n → x.F.length ≤ 1048576 ∧ ∀ f ∈ x.F, f.bl.length ≤ 1048576)) ∧ Below w.heap.size w w' ∧ NewOk w.heap.size [] [] w' := fun left hl w h => by
    have := szFFileS_c (y 1).A (y 1).c (FS_loc x y) left hl (by rw [locs_len]; exact b3) (by rw [dats_locs]; exact b4) w h
    rw [locs_len, dats_locs] at this
    exact this
  have HZ := Lib.hid hz; clear hz
  clear b3 b4
  refine ok_enter 18 Try.func35 rfl rfl rfl ?_
  repeat' (first
    | refine ok_seq ?_
    | refine ok_then ?_
    | refine ok_then_ret ?_
    | (refine ok_cond rfl (fun hc => ?_) (fun hc => ?_) <;> (have hd := hc; (try simp only [decide_eq_true_eq, decide_eq_false_iff_not, Bool.or_eq_true, Bool.or_eq_false_iff, Bool.and_eq_true, Bool.and_eq_false_iff, Bool.not_eq_true', Bool.not_eq_false', bne_iff_ne, beq_iff_eq, bne_eq_false_iff_eq, beq_eq_false_iff_ne, ne_eq, Bool.not_true, Bool.not_false, Bool.false_eq_true, Bool.true_eq_false, inB_true, inB_false] at hd)))
    | refine ok_ret ?_
    | refine ok_skip ?_
    | (refine ok_region (i := 0) ?_; refine ok_m rfl rfl rfl (by exact ms_box rfl rfl rfl) ?_; rintro y2 hy2; refine ok_p rfl rfl rfl (by exact ps_assign rfl rfl) ?_; refine ok_nil ?_; refine ok_env [(1, _), (2, _)] ⟨rfl, rfl, trivial⟩ ?_)
    | (refine ok_region (i := 1) ?_; refine ok_p rfl rfl rfl (by exact ps_field rfl rfl (by exact isw_ga _)) ?_; refine ok_p rfl rfl rfl (by exact ps_load rfl rfl (by exact Rds.cell (rds_box 0 rfl) rfl)) ?_; refine ok_p rfl rfl rfl (by exact ps_move rfl rfl) ?_; refine ok_m rfl rfl rfl (by exact ms_c2 rfl rfl rfl (fun _ _ w hw => szStringS_c _ _ x.B _ ⟨by omega, by omega⟩ b1 B2.out w (rds_rf h1 (by exact List.mem_cons_self) _ _ w hw))) ?_; rintro y8 hy8; refine ok_p rfl rfl rfl (by exact ps_assign rfl rfl) ?_; refine ok_nil ?_; refine ok_env [(1, _), (2, _)] ⟨rfl, rfl, trivial⟩ ?_)
    | (refine ok_region (i := 2) ?_; refine ok_p rfl rfl rfl (by exact ps_move rfl rfl) ?_; refine ok_p rfl rfl rfl (by exact ps_int rfl rfl rfl rfl) ?_; refine ok_nil ?_; refine ok_env [(1, _), (2, _), (10, _)] ⟨rfl, rfl, rfl, trivial⟩ ?_)
    | (refine ok_region (i := 3) ?_; refine ok_p rfl rfl rfl (by exact ps_assign rfl rfl) ?_; refine ok_nil ?_; refine ok_env [(4, _)] ⟨rfl, trivial⟩ ?_)
    | (refine ok_region (i := 4) ?_; refine ok_p rfl rfl rfl (by exact ps_field rfl rfl (by exact isw_ga _)) ?_; refine ok_p rfl rfl rfl (by exact ps_load rfl rfl (by exact Rds.cell (rds_box 0 rfl) rfl)) ?_; refine ok_p rfl rfl rfl (by exact ps_move rfl rfl) ?_; refine ok_m rfl rfl rfl (by exact ms_c2 rfl rfl rfl (fun _ _ w hw => HZ.out _ ⟨by omega, by omega⟩ w (RdN.keep hw H2.out (by exact List.mem_cons_self)))) ?_; rintro y14 hy14; refine ok_p rfl rfl rfl (by exact ps_assign rfl rfl) ?_; refine ok_nil ?_; refine ok_env [(1, _)] ⟨rfl, trivial⟩ ?_)
    | (refine ok_region (i := 5) ?_; refine ok_p rfl rfl rfl (by exact ps_move rfl rfl) ?_; refine ok_p rfl rfl rfl (by exact ps_int rfl rfl rfl rfl) ?_; refine ok_nil ?_; refine ok_env [(1, _), (16, _)] ⟨rfl, rfl, trivial⟩ ?_)
    | (refine ok_region (i := 6) ?_; refine ok_p rfl rfl rfl (by exact ps_assign rfl rfl) ?_; refine ok_nil ?_; refine ok_env [(4, _)] ⟨rfl, trivial⟩ ?_)
    | (refine ok_region (i := 7) ?_; refine ok_p rfl rfl rfl (by exact ps_move rfl rfl) ?_; refine ok_p rfl rfl rfl (by exact ps_assign rfl rfl) ?_; refine ok_nil ?_; refine ok_env [(4, _)] ⟨rfl, trivial⟩ ?_))
  all_goals first
    | exact ok_endL (vs := [.int .i64 (-1)]) rfl ⟨rfl, trivial⟩ (fun w' hw => ⟨mkN (-1) w, rfl, ⟨by show (-1 : Int) ≤ -1; decide, by show (-1 : Int) ≤ left; omega, fun h => absurd h (by show ¬ (0 : Int) ≤ -1; decide)⟩, hw.below, NewOk.nil _ _⟩)
    | exact ok_endL (vs := [_]) rfl ⟨rfl, trivial⟩ (fun w' hw => ⟨mkN (y14 0).n w, rfl, ⟨by show -1 ≤ (y14 0).n; omega, by show (y14 0).n ≤ left; omega, fun _ => by
        have q0 := hy8.2.2 (by omega)
        exact ⟨⟨by have := q0.1; omega, q0.2⟩, hy14.2.2 (by omega)⟩⟩, hw.below, NewOk.nil _ _⟩)
theorem toFStore_c (x : DFStore) (y : Ys) (w : World) (h : FStore_rd w x y) (hs : FStore_sm x) :
    Calls Try.prog 37 #[FStore_val x y] w fun e w' => ∃ y : Ys, e = .returned (FStore_val x y) ∧ True ∧ Below w.heap.size w w' ∧ NewOk w.heap.size (FStore_obj x y) [] w' := by
  obtain ⟨h1, h2⟩ := h
  have H2 := Lib.hid h2; clear h2
  have hz : ∀ (w : World), RdN w (y 1).A (FS_loc x y) → Calls Try.prog 116 #[.slice (y 1).A x.F.length (y 1).c] w fun e w' => ∃ y : Ys, e = .returned (.slice (y 0).A x.F.length (y 0).c) ∧ True ∧ Below w.heap.size w w' ∧ NewOk w.heap.size [.row 67 5 (y 0).A x.F.length (y 0).c (fl (locs 1 x.F y)), .bag 3 1 (rowsOf (locs 1 x.F y))] [] w' := fun w h => by
    have := toFFileS_c (y 1).A (y 1).c (FS_loc x y) w h (by rw [locs_len]; exact hs.2.1) (by rw [dats_locs]; exact hs.2.2)
    rw [locs_len, dats_locs] at this
    exact this
  have HZ := Lib.hid hz; clear hz
  have b1 := hs.1.1
  clear hs
  refine ok_enter 13 Try.func37 rfl rfl rfl ?_
  repeat' (first
    | refine ok_seq ?_
    | refine ok_then ?_
    | refine ok_ret ?_
    | (refine ok_region (i := 0) ?_; refine ok_m rfl rfl rfl (by exact ms_box rfl rfl rfl) ?_; rintro y1 hy1; refine ok_m rfl rfl rfl (by exact ms_alloc rfl) ?_; rintro y2 hy2; refine ok_nil ?_; refine ok_env [(1, _), (2, _)] ⟨rfl, rfl, trivial⟩ ?_)
    | (refine ok_region (i := 1) ?_; refine ok_m rfl rfl rfl (by exact ms_alloc rfl) ?_; rintro y3 hy3; refine ok_nil ?_; refine ok_env [(1, _), (2, _), (3, _)] ⟨rfl, rfl, rfl, trivial⟩ ?_)
    | (refine ok_region (i := 2) ?_; refine ok_p rfl rfl rfl (by exact ps_field rfl rfl (by exact isw_ga _)) ?_; refine ok_p rfl rfl rfl (by exact ps_load rfl rfl (by exact Rds.cell (rds_box 2 rfl) rfl)) ?_; refine ok_m rfl rfl rfl (by exact ms_c1 rfl rfl (fun _ _ w hw => toStringS_c _ _ x.B w (rds_rf h1 (by exact List.mem_cons_self) _ _ w hw) b1)) ?_; rintro y6 hy6; refine ok_p rfl rfl rfl (by exact ps_field rfl rfl (by exact isw_ga _)) ?_; refine ok_m_ rfl rfl (by exact ms_store 1 rfl rfl rfl rfl rfl rfl rfl rfl) ?_; rintro y_ hy_; refine ok_nil ?_; refine ok_env [(1, _), (2, _), (3, _)] ⟨rfl, rfl, rfl, trivial⟩ ?_)
    | (refine ok_region (i := 3) ?_; refine ok_p rfl rfl rfl (by exact ps_field rfl rfl (by exact isw_ga _)) ?_; refine ok_p rfl rfl rfl (by exact ps_load rfl rfl (by exact Rds.cell (rds_box 3 rfl) rfl)) ?_; refine ok_m rfl rfl rfl (by exact ms_c1 rfl rfl (fun _ _ w hw => HZ.out w (RdN.keep hw H2.out (by exact List.mem_cons_self)))) ?_; rintro y10 hy10; refine ok_p rfl rfl rfl (by exact ps_field rfl rfl (by exact isw_ga _)) ?_; refine ok_m_ rfl rfl (by exact ms_store 3 rfl rfl rfl rfl rfl rfl rfl rfl) ?_; rintro y_ hy_; refine ok_nil ?_; refine ok_env [(2, _), (3, _)] ⟨rfl, rfl, trivial⟩ ?_)
    | (refine ok_region (i := 4) ?_; refine ok_p rfl rfl rfl (by exact ps_loads rfl rfl (by exact rds_box 3 rfl) rfl rfl (by decide)) ?_; refine ok_m_ rfl rfl (by exact ms_store 4 rfl rfl rfl rfl rfl rfl rfl rfl) ?_; rintro y_ hy_; refine ok_nil ?_; refine ok_env [(2, _)] ⟨rfl, trivial⟩ ?_))
  refine ok_endL (vs := [_]) rfl ⟨⟨_, 4, _, _, _, rfl, rfl, inferInstance, rfl, rfl⟩, trivial⟩ (fun w' hw => ?_)
  refine ⟨shY (y6 0) y10, rfl, trivial, hw.below, ?_⟩
  have := NewOk.of (hw.sel [2, 0, 1] (by decide) rfl (G' := []) (fun _ h => by cases h))
  unfold FStore_obj FS_loc
  rw [locs_sh]
  exact this
theorem eqFStore_c (x : DFStore) (y z : Ys) (w : World) (h : FStore_rd w x y) (k : FStore_rd w x z) (hl : FStore_lim x) :
    Calls Try.prog 23 #[FStore_val x y, FStore_val x z] w fun e w' => e = .returned (.bool true) ∧ Below w.heap.size w w' := by
  obtain ⟨h1, h2⟩ := h
  obtain ⟨k1, k2⟩ := k
  have b1 := hl.1
  have H2 := Lib.hid h2; clear h2
  have K2 := Lib.hid k2; clear k2
  have hz : ∀ (w : World), RdN w (y 1).A (FS_loc x y) → RdN w (z 1).A (FS_loc x z) → Calls Try.prog 97 #[.slice (y 1).A x.F.length (y 1).c, .slice (z 1).A x.F.length (z 1).c] w fun e w' => e = .returned (.bool true) ∧ Below w.heap.size w w' := fun w h k => by
    have := eqFFileS_c (y 1).A (z 1).A (y 1).c (z 1).c (FS_loc x y) (FS_loc x z) (by rw [dats_locs, dats_locs]) w h k (by rw [locs_len]; have := hl.2.1; omega) (by rw [dats_locs]; exact fun l hl' => by have := hl.2.2 l hl'; omega)
    rw [locs_len, locs_len] at this
    exact this
  have HZ := Lib.hid hz; clear hz
  clear hl
  refine ok_enter 17 Try.func23 rfl rfl rfl ?_
  repeat' (first
    | refine ok_seq ?_
    | refine ok_then ?_
    | (refine ok_cond rfl (fun hc => ?_) (fun hc => ?_) <;> (have hd := hc; (try simp only [decide_eq_true_eq, decide_eq_false_iff_not, Bool.or_eq_true, Bool.or_eq_false_iff, Bool.and_eq_true, Bool.and_eq_false_iff, Bool.not_eq_true', Bool.not_eq_false', bne_iff_ne, beq_iff_eq, bne_eq_false_iff_eq, beq_eq_false_iff_ne, ne_eq, Bool.not_true, Bool.not_false, Bool.false_eq_true, Bool.true_eq_false, inB_true, inB_false] at hd)))
    | refine ok_ret ?_
    | refine ok_skip ?_
    | (refine ok_region (i := 0) ?_; refine ok_m rfl rfl rfl (by exact ms_box rfl rfl rfl) ?_; rintro y2 hy2; refine ok_m rfl rfl rfl (by exact ms_box rfl rfl rfl) ?_; rintro y3 hy3; refine ok_p rfl rfl rfl (by exact ps_assign rfl rfl) ?_; refine ok_nil ?_; refine ok_env [(2, _), (3, _)] ⟨rfl, rfl, trivial⟩ ?_)
    | (refine ok_region (i := 1) ?_; refine ok_p rfl rfl rfl (by exact ps_field rfl rfl (by exact isw_ga _)) ?_; refine ok_p rfl rfl rfl (by exact ps_load rfl rfl (by exact Rds.cell (rds_box 1 rfl) rfl)) ?_; refine ok_p rfl rfl rfl (by exact ps_field rfl rfl (by exact isw_ga _)) ?_; refine ok_p rfl rfl rfl (by exact ps_load rfl rfl (by exact Rds.cell (rds_box 0 rfl) rfl)) ?_; refine ok_m rfl rfl rfl (by exact ms_s2 rfl rfl rfl (fun _ _ w hw => eqStringS_c _ _ _ _ x.B w (rds_rf h1 (by exact List.mem_cons_self) _ _ w hw) (rds_rf k1 (by exact List.mem_cons_self) _ _ w hw) (by omega))) ?_; rintro y9 hy9; refine ok_p rfl rfl rfl (by exact ps_not rfl rfl) ?_; refine ok_nil ?_; refine ok_env [(2, _), (3, _), (10, _)] ⟨rfl, rfl, rfl, trivial⟩ ?_)
    | (refine ok_region (i := 3) ?_; refine ok_p rfl rfl rfl (by exact ps_field rfl rfl (by exact isw_ga _)) ?_; refine ok_p rfl rfl rfl (by exact ps_load rfl rfl (by exact Rds.cell (rds_box 1 rfl) rfl)) ?_; refine ok_p rfl rfl rfl (by exact ps_field rfl rfl (by exact isw_ga _)) ?_; refine ok_p rfl rfl rfl (by exact ps_load rfl rfl (by exact Rds.cell (rds_box 0 rfl) rfl)) ?_; refine ok_m rfl rfl rfl (by exact ms_s2 rfl rfl rfl (fun _ _ w hw => HZ.out w (RdN.keep hw H2.out (by exact List.mem_cons_self)) (RdN.keep hw K2.out (by exact List.mem_cons_self)))) ?_; rintro y15 hy15; refine ok_p rfl rfl rfl (by exact ps_not rfl rfl) ?_; refine ok_nil ?_; refine ok_env [(16, _)] ⟨rfl, trivial⟩ ?_)
    | (refine ok_region (i := 5) ?_; refine ok_p rfl rfl rfl (by exact ps_assign rfl rfl) ?_; refine ok_nil ?_; refine ok_env [(4, _)] ⟨rfl, trivial⟩ ?_))
  all_goals first
    | (exfalso; simp [sEq] at hc; done)
    | exact ok_endL (vs := [_]) rfl ⟨rfl, trivial⟩ (fun w' hw => ⟨rfl, hw.below⟩)
theorem FS_mk_loc (k : Int) (x : DFStore) (y : Ys) : FS_loc (FStore_mk k x) y = mixR (mkFL (k + 1 * (x.B.length : Int)) x.F) x.F.length (FS_loc x y) := by
  unfold FS_loc FStore_mk mkFS
  rw [locsF_mk]
theorem FS_mk_len (k : Int) (x : DFStore) : (FStore_mk k x).F.length = x.F.length := mixR_len _ _ _
theorem markFStore_c (x : DFStore) (y : Ys) (k : Int) (hk : 0 ≤ k ∧ k ≤ 90000000000000) (hl : FStore_lim x) {base : Nat} {w0 w : World} {H : List HObj} {G : List World}
    (hw : WOk base w0 (FStore_obj x y ++ H) G w) :
    Calls Try.prog 24 #[FStore_val x y, .int .i64 k] w fun e w' => ∃ q : Ys, e = .returned (.int .i64 (FStore_cnt x k)) ∧ True ∧ WOk base w0 (FStore_obj (FStore_mk k x) y ++ H) G w' := by
  have b1 := hl.1
  have hz : ∀ {base : Nat} {w0 w : World} {H : List HObj} {G : List World} (k : Int) (hk : 0 ≤ k ∧ k ≤ 100000000000000) (hw : WOk base w0 (.row 67 5 (y 1).A x.F.length (y 1).c (fl (FS_loc x y)) :: .bag 3 1 (rowsOf (FS_loc x y)) :: H) G w), Calls Try.prog 99 #[.slice (y 1).A x.F.length (y 1).c, .int .i64 k] w fun e w' => ∃ q : Ys, e = .returned (.int .i64 (k + (offF x.F x.F.length : Int))) ∧ True ∧ WOk base w0 (.row 67 5 (y 1).A x.F.length (y 1).c (fl (mixR (mkFL k x.F) x.F.length (FS_loc x y))) :: .bag 3 1 (rowsOf (mixR (mkFL k x.F) x.F.length (FS_loc x y))) :: H) G w' := fun k hk hw => by
    have := markFFileS_c (y 1).A (y 1).c (FS_loc x y) k hk (by rw [locs_len]; exact hl.2.1) (by rw [dats_locs]; exact hl.2.2) (by rw [locs_len]; exact hw)
    rw [locs_len, dats_locs] at this
    exact this
  unfold FStore_obj at hw ⊢
  rw [FS_mk_loc, FS_mk_len]
  simp only [FStore_mk, mkL_len]
  generalize FS_loc x y = R at hw hz ⊢
  refine ok_enterW 14 Try.func24 rfl rfl rfl hw ?_
  repeat' (first
    | refine ok_seq ?_
    | refine ok_then ?_
    | refine ok_ret ?_
    | (refine ok_region (i := 0) ?_; refine ok_m rfl rfl rfl (by exact ms_box rfl rfl rfl) ?_; rintro y2 hy2; refine ok_p rfl rfl rfl (by exact ps_assign rfl rfl) ?_; refine ok_nil ?_; refine ok_env [(1, _), (2, _)] ⟨rfl, rfl, trivial⟩ ?_)
    | (refine ok_region (i := 1) ?_; refine ok_p rfl rfl rfl (by exact ps_field rfl rfl (by exact isw_ga _)) ?_; refine ok_p rfl rfl rfl (by exact ps_load rfl rfl (by exact Rds.cell (rds_box 0 rfl) rfl)) ?_; refine ok_p rfl rfl rfl (by exact ps_move rfl rfl) ?_; refine ok_m rfl rfl rfl (by exact ms_wr 1 rfl rfl rfl rfl (fun _ _ w hw => markStringS_c _ _ x.B k ⟨by omega, by omega⟩ (by omega) hw)) ?_; rintro y8 hy8; refine ok_p rfl rfl rfl (by exact ps_assign rfl rfl) ?_; refine ok_nil ?_; refine ok_env [(1, _), (2, _)] ⟨rfl, rfl, trivial⟩ ?_)
    | (refine ok_region (i := 2) ?_; refine ok_p rfl rfl rfl (by exact ps_field rfl rfl (by exact isw_ga _)) ?_; refine ok_p rfl rfl rfl (by exact ps_load rfl rfl (by exact Rds.cell (rds_box 0 rfl) rfl)) ?_; refine ok_p rfl rfl rfl (by exact ps_move rfl rfl) ?_; refine ok_m rfl rfl rfl (by exact ms_w2 (fun _ _ _ h => (h.front 2 rfl).front 3 rfl |>.front 1 rfl) rfl rfl rfl (fun _ _ w hw => hz (k + 1 * (x.B.length : Int)) ⟨by omega, by omega⟩ hw)) ?_; rintro y12 hy12; refine ok_p rfl rfl rfl (by exact ps_assign rfl rfl) ?_; refine ok_nil ?_; refine ok_env [(1, _)] ⟨rfl, trivial⟩ ?_)
    | (refine ok_region (i := 3) ?_; refine ok_p rfl rfl rfl (by exact ps_move rfl rfl) ?_; refine ok_p rfl rfl rfl (by exact ps_assign rfl rfl) ?_; refine ok_nil ?_; refine ok_env [(4, _)] ⟨rfl, trivial⟩ ?_))
  exact ok_endL (vs := [_]) rfl ⟨rfl, trivial⟩ (fun w' hw => ⟨mkY none 0 w, rfl, trivial, ((hw.front 2 rfl).tl).front 2 rfl⟩)
theorem offF_mk (k : Int) (x : List FFile) (i : Nat) : offF (mkFS k x) i = offF x i := by
  unfold offF offR mkFS mixR
  congr 1
  apply List.ext_getElem?
  intro j
  simp only [List.getElem?_map, List.getElem?_take, List.getElem?_mapIdx]
  by_cases hj : j < i
  · simp only [hj, if_true]
    cases hx : x[j]? with
    | none => rfl
    | some l =>
      simp only [Option.map_some, Option.some.injEq]
      split
      · simp [mkF1, mkL_len]
      · rfl
  · simp only [hj, if_false]
theorem mkF1_mk (k0 : Int) (x : List FFile) (i : Nat) (l : FFile) : mkF1 k0 (mkFS k0 x) i (mkF1 k0 x i l) = mkF1 k0 x i l := by
  unfold mkF1
  rw [offF_mk]
  simp only [mkL_len]
theorem heldFStore_c (x : DFStore) (y : Ys) (k : Int) (hk : 0 ≤ k ∧ k ≤ 90000000000000) (hl : FStore_lim x) (w : World) (h : FStore_rd w (FStore_mk k x) y) :
    Calls Try.prog 25 #[FStore_val x y, .int .i64 k] w fun e w' => e = .returned (.int .i64 (FStore_cnt x k)) ∧ Below w.heap.size w w' := by
  obtain ⟨h1, h2⟩ := h
  have b1 := hl.1
  have H2 := Lib.hid h2; clear h2
  have hle := offF_le x.F hl.2.1 hl.2.2 x.F.length
  have hz : ∀ (w : World), RdN w (y 1).A (FS_loc (FStore_mk k x) y) → Calls Try.prog 101 #[.slice (y 1).A x.F.length (y 1).c, .int .i64 (k + 1 * (x.B.length : Int))] w fun e w' => e = .returned (.int .i64 (FStore_cnt x k)) ∧ Below w.heap.size w w' := fun w h => by
    have hm : ∀ f ∈ (FStore_mk k x).F, f.bl.length ≤ 4194304 := fun f hf => by
      obtain ⟨i, hi, rfl⟩ := List.getElem_of_mem hf
      have h1 := hl.2.2
      simp only [FStore_mk, mkFS, mixR, List.getElem_mapIdx]
      split
      · simp only [mkF1, mkL_len]; exact h1 _ (List.getElem_mem _)
      · exact h1 _ (List.getElem_mem _)
    have := heldFFileS_c (y 1).A (y 1).c (FS_loc (FStore_mk k x) y) (k + 1 * (x.B.length : Int)) ⟨by omega, by omega⟩ (by rw [locs_len, FS_mk_len]; exact hl.2.1) (by rw [dats_locs]; exact hm) (fun i hi => by
      rw [locs_len, FS_mk_len] at hi
      rw [dats_locs, FS_mk_loc, mixR_nth _ _ _ _ (by rw [locs_len]; exact hi), if_pos hi]
      exact (mkF1_mk _ _ _ _).symm) w h
    rw [locs_len, FS_mk_len, dats_locs] at this
    simp only [FStore_mk] at this
    rw [offF_mk] at this
    exact this
  have HZ := Lib.hid hz; clear hz
  refine ok_enter 18 Try.func25 rfl rfl rfl ?_
  repeat' (first
    | refine ok_seq ?_
    | refine ok_then ?_
    | refine ok_then_ret ?_
    | (refine ok_cond rfl (fun hc => ?_) (fun hc => ?_) <;> (have hd := hc; (try simp only [decide_eq_true_eq, decide_eq_false_iff_not, Bool.or_eq_true, Bool.or_eq_false_iff, Bool.and_eq_true, Bool.and_eq_false_iff, Bool.not_eq_true', Bool.not_eq_false', bne_iff_ne, beq_iff_eq, bne_eq_false_iff_eq, beq_eq_false_iff_ne, ne_eq, Bool.not_true, Bool.not_false, Bool.false_eq_true, Bool.true_eq_false, inB_true, inB_false] at hd)))
    | refine ok_ret ?_
    | refine ok_skip ?_
    | (refine ok_region (i := 0) ?_; refine ok_m rfl rfl rfl (by exact ms_box rfl rfl rfl) ?_; rintro y2 hy2; refine ok_p rfl rfl rfl (by exact ps_assign rfl rfl) ?_; refine ok_nil ?_; refine ok_env [(1, _), (2, _)] ⟨rfl, rfl, trivial⟩ ?_)
    | (refine ok_region (i := 1) ?_; refine ok_p rfl rfl rfl (by exact ps_field rfl rfl (by exact isw_ga _)) ?_; refine ok_p rfl rfl rfl (by exact ps_load rfl rfl (by exact Rds.cell (rds_box 0 rfl) rfl)) ?_; refine ok_p rfl rfl rfl (by exact ps_move rfl rfl) ?_; refine ok_m rfl rfl rfl (by exact ms_s2 rfl rfl rfl (fun _ _ w hw => heldStringS_c _ _ x.B.length k ⟨by omega, by omega⟩ (by omega) w (rds_rf h1 (by exact List.mem_cons_self) _ _ w hw))) ?_; rintro y8 hy8; refine ok_p rfl rfl rfl (by exact ps_assign rfl rfl) ?_; refine ok_nil ?_; refine ok_env [(1, _), (2, _)] ⟨rfl, rfl, trivial⟩ ?_)
    | (refine ok_region (i := 2) ?_; refine ok_p rfl rfl rfl (by exact ps_move rfl rfl) ?_; refine ok_p rfl rfl rfl (by exact ps_int rfl rfl rfl rfl) ?_; refine ok_nil ?_; refine ok_env [(1, _), (2, _), (10, _)] ⟨rfl, rfl, rfl, trivial⟩ ?_)
    | (refine ok_region (i := 3) ?_; refine ok_p rfl rfl rfl (by exact ps_assign rfl rfl) ?_; refine ok_nil ?_; refine ok_env [(4, _)] ⟨rfl, trivial⟩ ?_)
    | (refine ok_region (i := 4) ?_; refine ok_p rfl rfl rfl (by exact ps_field rfl rfl (by exact isw_ga _)) ?_; refine ok_p rfl rfl rfl (by exact ps_load rfl rfl (by exact Rds.cell (rds_box 0 rfl) rfl)) ?_; refine ok_p rfl rfl rfl (by exact ps_move rfl rfl) ?_; refine ok_m rfl rfl rfl (by exact ms_s2 rfl rfl rfl (fun _ _ w hw => HZ.out w (RdN.keep hw H2.out (by exact List.mem_cons_self)))) ?_; rintro y14 hy14; refine ok_p rfl rfl rfl (by exact ps_assign rfl rfl) ?_; refine ok_nil ?_; refine ok_env [(1, _)] ⟨rfl, trivial⟩ ?_)
    | (refine ok_region (i := 5) ?_; refine ok_p rfl rfl rfl (by exact ps_move rfl rfl) ?_; refine ok_p rfl rfl rfl (by exact ps_int rfl rfl rfl rfl) ?_; refine ok_nil ?_; refine ok_env [(1, _), (16, _)] ⟨rfl, rfl, trivial⟩ ?_)
    | (refine ok_region (i := 6) ?_; refine ok_p rfl rfl rfl (by exact ps_assign rfl rfl) ?_; refine ok_nil ?_; refine ok_env [(4, _)] ⟨rfl, trivial⟩ ?_)
    | (refine ok_region (i := 7) ?_; refine ok_p rfl rfl rfl (by exact ps_move rfl rfl) ?_; refine ok_p rfl rfl rfl (by exact ps_assign rfl rfl) ?_; refine ok_nil ?_; refine ok_env [(4, _)] ⟨rfl, trivial⟩ ?_))
  all_goals first
    | (exfalso; omega)
    | (exfalso; unfold FStore_cnt at hd; omega)
    | exact ok_endL (vs := [_]) rfl ⟨rfl, trivial⟩ (fun w' hw => ⟨rfl, hw.below⟩)
theorem FStore_rf {m w w0 : World} {base : Nat} {H : List HObj} {G : List World} {x : DFStore} {y : Ys} (h : FStore_rd m x y) (hm : m ∈ G) (hw : WOk base w0 H G w) : FStore_rd w x y := ⟨hw.keep h.1 hm, RdN.keep hw h.2 hm⟩
theorem FStore_of {w w0 : World} {base : Nat} {H : List HObj} {G : List World} {x : DFStore} {y : Ys} (hw : WOk base w0 (FStore_obj x y ++ H) G w) : FStore_rd w x y := ⟨hw.row 0 rfl, RdN.own hw 1 2 rfl rfl⟩
abbrev gFFile : GT := .st [.int, .int, .sl 3 .int, .int, .bool]
abbrev gFStore : GT := .st [.sl 9 .str, .sl 213 gFFile]
theorem nestFFile : NestAt (α := FFile) gFFile (fun x => ⟨x.1, x.2.1, List.map (fun x => x) (show List Int from x.2.2.1), x.2.2.2.1, x.2.2.2.2.1⟩) (fun f => f.bl.length ≤ maxLen) := fun w x c h => by
  obtain ⟨a0, a1, a2, a3, a4, u⟩ := x
  obtain ⟨c0, d0, rfl, h0, e0⟩ := RdTL.cons.1 (RdT.st.1 h)
  obtain ⟨c1, d1, rfl, h1, e1⟩ := RdTL.cons.1 e0
  obtain ⟨c2, d2, rfl, h2, e2⟩ := RdTL.cons.1 e1
  obtain ⟨c3, d3, rfl, h3, e3⟩ := RdTL.cons.1 e2
  obtain ⟨c4, d4, rfl, h4, e4⟩ := RdTL.cons.1 e3
  rw [RdTL.nil] at e4; subst e4
  obtain ⟨rfl, b0⟩ := RdT.int.1 h0
  obtain ⟨rfl, b1⟩ := RdT.int.1 h1
  obtain ⟨A, k, us, rfl, q1, q2, q3, q4⟩ := RdT.sl.1 h2
  obtain ⟨rfl, b⟩ := flat_rows flatInt _ _ q4
  obtain ⟨rfl, b3⟩ := RdT.int.1 h3
  obtain rfl := RdT.bool.1 h4
  have hl : (List.map (fun x => x) (show List Int from a2)).length = List.length a2 := List.length_map ..
  exact ⟨A, k, congrArg (fun n => [Value.int .i64 a0, Value.int .i64 a1, Value.slice A n k, Value.int .i64 a3, Value.bool a4]) hl.symm, q3, Nat.le_trans (Nat.le_of_eq hl) (Nat.le_trans q1 q2)⟩
theorem FStore_open {w : World} {cs : Array Value} {x : gFStore.den} (hx : RdT w gFStore x cs.toList) : ∃ (d : DFStore) (y : Ys), Value.agg cs = FStore_val d y ∧ FStore_rd w d y ∧ FStore_big d := by
  obtain ⟨a0, a1, u⟩ := x
  obtain ⟨c0, d0, ec, h0, e0⟩ := RdTL.cons.1 (RdT.st.1 hx)
  obtain ⟨c1, d1, rfl, h1, e1⟩ := RdTL.cons.1 e0
  rw [RdTL.nil] at e1; subst e1
  obtain ⟨A, k, l, rfl, m, r, b⟩ := flat_sl flatStr h0
  obtain ⟨A1, k1, R, rfl, m1, r1, b1⟩ := nest_sl nestFFile h1
  refine ⟨⟨l, dats R⟩, mkR [⟨A, k, w, 0⟩, ⟨A1, k1, w, 0⟩] R w, ?_, ⟨r, ?_⟩, ⟨m, b⟩, ?_, b1⟩
  · unfold FStore_val
    rw [dats_len]
    have : cs = (cs.toList).toArray := (Array.toArray_toList).symm
    rw [this, ec]; rfl
  · unfold FS_loc; rw [locs_mkR [⟨A, k, w, 0⟩, ⟨A1, k1, w, 0⟩] R w 2 rfl]; exact r1
  · rw [dats_len]; exact m1
end Go.Proofs.Ytgeifmdcoiijgaa
