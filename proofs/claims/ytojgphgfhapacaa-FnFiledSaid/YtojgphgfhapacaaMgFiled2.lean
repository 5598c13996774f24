/- Texts of this claim, one behind the other: FsN, FsU, FsX, FsV, FsW, FsY, FsZ, FsAA, FsA, DrE, Enc, Eng16, Eng17, EngF. -/
import Derived.Test.YtojgphgfhapacaaMgFiled1
import Derived.Test.YtojgphgfhapacaaRds
import Derived.Test.YtojgphgfhapacaaEng11
import Derived.Test.YtojgphgfhapacaaTab
import Derived.Test.YtojgphgfhapacaaMt
import Derived.Test.YtojgphgfhapacaaEng5
import Derived.Test.YtojgphgfhapacaaEng9
/- FsCreate of both programs. -/
namespace Go.Proofs.Ytojgphgfhapacaa
open Go.RowKit
set_option maxHeartbeats 4000000
set_option maxRecDepth 20000
set_option linter.unusedVariables false
set_option linter.unusedSimpArgs false
attribute [local irreducible] Calls
theorem i_copy_o (A : Option Addr) (c : Nat) (B : List ByteArray) (A' : Option Addr) (c' : Nat) (R : List LF) (w : World) (h1 : Rd w A (fl B)) (h2 : RdN w A' R) (hl : B.length ≤ 4194304) (hl2 : R.length ≤ 4194304) (hl3 : ∀ x ∈ dats R, x.bl.length ≤ 4194304) :
    Calls Try.prog 17 #[.agg #[.slice A B.length c, .slice A' R.length c']] w fun e w' => ∃ y : Ys, e = .returned (.agg #[.slice (y 0).A B.length (y 0).c, .slice (y 1).A R.length (y 1).c]) ∧ True ∧ Below w.heap.size w w' ∧ NewOk w.heap.size [.row 9 1 (y 0).A B.length (y 0).c (fl B), .row 36 5 (y 1).A R.length (y 1).c (fl (locs 2 (dats R) y)), .bag 3 1 (rowsOf (locs 2 (dats R) y))] [] w' := by
  have := i_copyFs_c A c B A' c' R w h1 h2 hl hl2 hl3
  unfold FStore_val FStore_obj FS_loc at this
  simp only [dats_len] at this
  exact this
theorem s_copy_o (A : Option Addr) (c : Nat) (B : List ByteArray) (A' : Option Addr) (c' : Nat) (R : List LF) (w : World) (h1 : Rd w A (fl B)) (h2 : RdN w A' R) (hl : B.length ≤ 4194304) (hl2 : R.length ≤ 4194304) (hl3 : ∀ x ∈ dats R, x.bl.length ≤ 4194304) :
    Calls Try.prog 22 #[.agg #[.slice A B.length c, .slice A' R.length c']] w fun e w' => ∃ y : Ys, e = .returned (.agg #[.slice (y 0).A B.length (y 0).c, .slice (y 1).A R.length (y 1).c]) ∧ True ∧ Below w.heap.size w w' ∧ NewOk w.heap.size [.row 9 1 (y 0).A B.length (y 0).c (fl B), .row 36 5 (y 1).A R.length (y 1).c (fl (locs 2 (dats R) y)), .bag 3 1 (rowsOf (locs 2 (dats R) y))] [] w' := by
  have := s_l30Copy_c A c B A' c' R w h1 h2 hl hl2 hl3
  unfold FStore_val FStore_obj FS_loc at this
  simp only [dats_len] at this
  exact this
theorem S_facts (R : List LF) (y : Ys) : dats (locs 2 (dats R) y) = dats R ∧ (locs 2 (dats R) y).length = R.length := ⟨dats_locs _ _ _, by rw [locs_len, dats_len]⟩
theorem s_FsCreate0 (A : Option Addr) (c : Nat) (B : List ByteArray) (A' : Option Addr) (c' : Nat) (R : List LF) (ow : Int) (w : World) (h1 : Rd w A (fl B)) (h2 : RdN w A' R) (hl : B.length ≤ 4194304) (hl2 : R.length ≤ 4194304) (hl3 : ∀ x ∈ dats R, x.bl.length ≤ 4194304) :
    Calls Try.prog 31 #[.agg #[.slice A B.length c, .slice A' R.length c'], .int .i64 ow] w fun e w' => ∃ y : Ys, e = .returned (.tuple #[FStore_val (fFsCreate ⟨B, dats R⟩ ow).1 y, .int .i64 (fFsCreate ⟨B, dats R⟩ ow).2.1, .bool (fFsCreate ⟨B, dats R⟩ ow).2.2]) ∧ True ∧ Below w.heap.size w w' ∧ NewOk w.heap.size (FStore_obj (fFsCreate ⟨B, dats R⟩ ow).1 y) [] w' := by
  obtain ⟨q1, q2⟩ := h2
  have Q2 := Lib.hid q2; clear q2
  have HL := Lib.hid hl3; clear hl3
  refine ok_enter 53 Try.func31 rfl rfl rfl ?_
  repeat' (first
    | refine ok_seq ?_
    | refine ok_then ?_
    | refine ok_then_ret ?_
    | (refine ok_cond rfl (fun hc => ?_) (fun hc => ?_) <;> (have hd := hc; (try simp only [decide_eq_true_eq, decide_eq_false_iff_not, Bool.or_eq_true, Bool.or_eq_false_iff, Bool.and_eq_true, Bool.and_eq_false_iff, Bool.not_eq_true', Bool.not_eq_false', bne_iff_ne, beq_iff_eq, bne_eq_false_iff_eq, beq_eq_false_iff_ne, ne_eq, Bool.not_true, Bool.not_false, Bool.false_eq_true, Bool.true_eq_false, inB_true, inB_false] at hd)))
    | refine ok_ret ?_
    | refine ok_skip ?_
    | (refine ok_region (i := 0) ?_; refine ok_m rfl rfl rfl (by exact ms_box rfl rfl rfl) ?_; rintro y2 hy2; refine ok_m rfl rfl rfl (by exact ms_alloc rfl) ?_; rintro y4 hy4; refine ok_p rfl rfl rfl (by exact ps_assign rfl rfl) ?_; refine ok_p rfl rfl rfl (by exact ps_assign rfl rfl) ?_; refine ok_nil ?_; refine ok_env [(1, _), (2, _), (4, _)] ⟨rfl, rfl, rfl, trivial⟩ ?_)
    | (refine ok_region (i := 1) ?_; refine ok_p rfl rfl rfl (by exact ps_loads rfl rfl (by exact rds_box 1 rfl) rfl rfl (by decide)) ?_; refine ok_m rfl rfl rfl (by exact ms_s1 rfl rfl (fun _ _ w hw => s_FsOk0 A c B A' c' R w (rds_rf h1 (by exact List.mem_cons_self) _ _ w hw) (RdN.keep hw ⟨q1, Q2.out⟩ (by exact List.mem_cons_self)) hl hl2 HL.out)) ?_; rintro y10 hy10; refine ok_p rfl rfl rfl (by exact ps_not rfl rfl) ?_; refine ok_nil ?_; refine ok_env [(1, _), (2, _), (4, _), (11, _)] ⟨rfl, rfl, rfl, rfl, trivial⟩ ?_)
    | (refine ok_region (i := 2) ?_; refine ok_p rfl rfl rfl (by exact ps_bld rfl parts_nil rfl) ?_; refine ok_m_ rfl rfl (by exact ms_store 0 rfl rfl rfl rfl rfl rfl rfl rfl) ?_; rintro y_ hy_; refine ok_p rfl rfl rfl (by exact ps_assign rfl rfl) ?_; refine ok_p rfl rfl rfl (by exact ps_assign rfl rfl) ?_; refine ok_nil ?_; refine ok_env [(4, _), (5, _), (6, _)] ⟨rfl, rfl, rfl, trivial⟩ ?_))
  · rw [create_no hd]
    exact ok_endL (vs := [_, _, _]) rfl ⟨⟨_, 0, _, _, _, rfl, rfl, inferInstance, rfl, rfl⟩, rfl, rfl, trivial⟩ (fun w' hw => ⟨mkY none 0 w', rfl, trivial, hw.below, fsN_no hw⟩)
  have hok : fFsOk ⟨B, dats R⟩ = true := hd
  have g := (fs_good _).1 hok
  have hRl : R.length ≤ 6 := by have := g.hF; rw [dats_len] at this; exact this
  have hnx := nextNo_le g
  have hns := (next_gt g).1
  simp only at hnx hns
  clear hc hd
  refine ok_region (i := 3) ?_
  refine ok_p rfl rfl rfl (by exact ps_loads rfl rfl (by exact rds_box 1 rfl) rfl rfl (by decide)) ?_
  refine ok_m rfl rfl rfl (by exact ms_c1 rfl rfl (fun _ _ w hw => s_copy_o A c B A' c' R w (rds_rf h1 (by exact List.mem_cons_self) _ _ w hw) (RdN.keep hw ⟨q1, Q2.out⟩ (by exact List.mem_cons_self)) hl hl2 HL.out)) ?_
  rintro y14 hy14
  refine ok_m rfl rfl rfl (by exact ms_alloc rfl) ?_
  rintro y7 hy7
  refine ok_m_ rfl rfl (by exact ms_store 0 rfl rfl rfl rfl rfl rfl rfl rfl) ?_
  rintro y_ hy_
  refine ok_nil ?_
  refine ok_env [(1, _), (2, _), (4, _), (7, _)] ⟨rfl, rfl, rfl, rfl, trivial⟩ ?_
  obtain ⟨sd, sl⟩ := S_facts R y14
  generalize locs 2 (dats R) y14 = S at sd sl ⊢
  have hno : 0 < R.length → nextNo (dats R) = (nth R (R.length - 1)).d.no + 1 := nextNo_R
  have hno0 : R.length = 0 → nextNo (dats R) = 1 := nextNo_0
  have HN := Lib.hid hno; clear hno
  have H0 := Lib.hid hno0; clear hno0
  repeat' (first
    | refine ok_seq ?_
    | refine ok_then ?_
    | refine ok_then_ret ?_
    | (refine ok_cond rfl (fun hc => ?_) (fun hc => ?_) <;> (have hd := hc; (try simp only [decide_eq_true_eq, decide_eq_false_iff_not, Bool.or_eq_true, Bool.or_eq_false_iff, Bool.and_eq_true, Bool.and_eq_false_iff, Bool.not_eq_true', Bool.not_eq_false', bne_iff_ne, beq_iff_eq, bne_eq_false_iff_eq, beq_eq_false_iff_ne, ne_eq, Bool.not_true, Bool.not_false, Bool.false_eq_true, Bool.true_eq_false, inB_true, inB_false] at hd)))
    | refine ok_ret ?_
    | refine ok_skip ?_
    | (refine ok_region (i := 4) ?_; refine ok_p rfl rfl rfl (by exact ps_assign rfl rfl) ?_; refine ok_nil ?_; refine ok_env [(1, _), (2, _), (4, _), (7, _), (8, _)] ⟨rfl, rfl, rfl, rfl, rfl, trivial⟩ ?_)
    | (refine ok_region (i := 5) ?_; refine ok_p rfl rfl rfl (by exact ps_field rfl rfl (by exact isw_ga _)) ?_; refine ok_p rfl rfl rfl (by exact ps_load rfl rfl (by exact Rds.cell (rds_box 5 rfl) rfl)) ?_; refine ok_p rfl rfl rfl (by exact ps_len rfl rfl) ?_; refine ok_p rfl rfl rfl (by exact ps_int rfl rfl rfl rfl) ?_; refine ok_nil ?_; refine ok_env [(1, _), (2, _), (4, _), (7, _), (8, _), (18, _)] ⟨rfl, rfl, rfl, rfl, rfl, rfl, trivial⟩ ?_)
    | (refine ok_region (i := 6) ?_; refine ok_p rfl rfl rfl (by exact ps_field rfl rfl (by exact isw_ga _)) ?_; refine ok_p rfl rfl rfl (by exact ps_load rfl rfl (by exact Rds.cell (rds_box 5 rfl) rfl)) ?_; refine ok_p rfl rfl rfl (by exact ps_field rfl rfl (by exact isw_ga _)) ?_; refine ok_p rfl rfl rfl (by exact ps_load rfl rfl (by exact Rds.cell (rds_box 5 rfl) rfl)) ?_; refine ok_p rfl rfl rfl (by exact ps_len rfl rfl) ?_; refine ok_p rfl rfl rfl (by exact ps_cast (v' := .int .i64 ((R.length - 1 : Nat) : Int)) (ps_sub rfl rfl rfl (by omega)) (by congr 1; omega)) ?_; refine ok_p rfl rfl rfl (by exact ps_indexN rfl rfl rfl (by omega) (by exact isw_of (isS_fl (by assumption) (by omega)))) ?_; refine ok_p rfl rfl rfl (by exact ps_field rfl rfl (by exact isw_of (isS_fl (by assumption) (by omega)))) ?_; refine ok_p rfl rfl rfl (by exact ps_load rfl rfl (by exact Rds.cell (rds_rf (by assumption) (by exact List.mem_cons_self)) (by exact fl_at0 _ _ (by omega) (by decide)))) ?_; refine ok_p rfl rfl rfl (by exact ps_cast (v' := .int .i64 (nextNo (dats R))) (ps_add rfl rfl rfl (by have := HN.out (by omega); omega)) (by have := HN.out (by omega); rw [this])) ?_; refine ok_p rfl rfl rfl (by exact ps_assign rfl rfl) ?_; refine ok_nil ?_; refine ok_env [(1, _), (2, _), (4, _), (7, _), (8, _)] ⟨rfl, rfl, rfl, rfl, rfl, trivial⟩ ?_)
    | (refine ok_region (i := 7) ?_; refine ok_p rfl rfl rfl (by exact ps_move rfl rfl) ?_; refine ok_m rfl rfl rfl (by exact ms_s3 rfl rfl rfl rfl (fun _ _ w hw => xs_in _ _ _ w)) ?_; rintro y30 hy30; refine ok_p rfl rfl rfl (by exact ps_not rfl rfl) ?_; refine ok_p rfl rfl rfl (by exact ps_move rfl rfl) ?_; refine ok_pg rfl rfl rfl rfl rfl (gF _) (fun hp => by (have hpd := hp; (try simp only [decide_eq_true_eq, decide_eq_false_iff_not, Bool.or_eq_true, Bool.or_eq_false_iff, Bool.and_eq_true, Bool.and_eq_false_iff, Bool.not_eq_true', Bool.not_eq_false', bne_iff_ne, beq_iff_eq, bne_eq_false_iff_eq, beq_eq_false_iff_ne, ne_eq, Bool.not_true, Bool.not_false, Bool.false_eq_true, Bool.true_eq_false, inB_true, inB_false] at hpd); exact ps_field rfl (by exact rfl) (by exact isw_ga _))) ?_; refine ok_pg rfl rfl rfl rfl rfl (gF _) (fun hp => by (have hpd := hp; (try simp only [decide_eq_true_eq, decide_eq_false_iff_not, Bool.or_eq_true, Bool.or_eq_false_iff, Bool.and_eq_true, Bool.and_eq_false_iff, Bool.not_eq_true', Bool.not_eq_false', bne_iff_ne, beq_iff_eq, bne_eq_false_iff_eq, beq_eq_false_iff_ne, ne_eq, Bool.not_true, Bool.not_false, Bool.false_eq_true, Bool.true_eq_false, inB_true, inB_false] at hpd); exact ps_load rfl (by (refine og rfl ?_; assumption)) (by exact Rds.cell (rds_box 5 rfl) rfl))) ?_; refine ok_pg rfl rfl rfl rfl rfl (gF _) (fun hp => by (have hpd := hp; (try simp only [decide_eq_true_eq, decide_eq_false_iff_not, Bool.or_eq_true, Bool.or_eq_false_iff, Bool.and_eq_true, Bool.and_eq_false_iff, Bool.not_eq_true', Bool.not_eq_false', bne_iff_ne, beq_iff_eq, bne_eq_false_iff_eq, beq_eq_false_iff_ne, ne_eq, Bool.not_true, Bool.not_false, Bool.false_eq_true, Bool.true_eq_false, inB_true, inB_false] at hpd); exact ps_len rfl (by (refine og rfl ?_; assumption)))) ?_; refine ok_pg rfl rfl rfl rfl rfl (gF _) (fun hp => by (have hpd := hp; (try simp only [decide_eq_true_eq, decide_eq_false_iff_not, Bool.or_eq_true, Bool.or_eq_false_iff, Bool.and_eq_true, Bool.and_eq_false_iff, Bool.not_eq_true', Bool.not_eq_false', bne_iff_ne, beq_iff_eq, bne_eq_false_iff_eq, beq_eq_false_iff_ne, ne_eq, Bool.not_true, Bool.not_false, Bool.false_eq_true, Bool.true_eq_false, inB_true, inB_false] at hpd); exact ps_int rfl (by (refine og rfl ?_; assumption)) (by exact rfl) rfl)) ?_; refine ok_p rfl rfl rfl (by exact ps_or rfl rfl rfl) ?_; refine ok_p rfl rfl rfl (by exact ps_move rfl rfl) ?_; refine ok_pg rfl rfl rfl rfl rfl (gF _) (fun hp => by (have hpd := hp; (try simp only [decide_eq_true_eq, decide_eq_false_iff_not, Bool.or_eq_true, Bool.or_eq_false_iff, Bool.and_eq_true, Bool.and_eq_false_iff, Bool.not_eq_true', Bool.not_eq_false', bne_iff_ne, beq_iff_eq, bne_eq_false_iff_eq, beq_eq_false_iff_ne, ne_eq, Bool.not_true, Bool.not_false, Bool.false_eq_true, Bool.true_eq_false, inB_true, inB_false] at hpd); exact ps_move rfl (by exact rfl))) ?_; refine ok_pg rfl rfl rfl rfl rfl (gF _) (fun hp => by (have hpd := hp; (try simp only [decide_eq_true_eq, decide_eq_false_iff_not, Bool.or_eq_true, Bool.or_eq_false_iff, Bool.and_eq_true, Bool.and_eq_false_iff, Bool.not_eq_true', Bool.not_eq_false', bne_iff_ne, beq_iff_eq, bne_eq_false_iff_eq, beq_eq_false_iff_ne, ne_eq, Bool.not_true, Bool.not_false, Bool.false_eq_true, Bool.true_eq_false, inB_true, inB_false] at hpd); exact ps_int rfl (by (refine og rfl ?_; assumption)) (by exact rfl) rfl)) ?_; refine ok_p rfl rfl rfl (by exact ps_or rfl rfl rfl) ?_; refine ok_nil ?_; refine ok_env [(1, _), (4, _), (7, _), (8, _), (41, _)] ⟨rfl, rfl, rfl, rfl, rfl, trivial⟩ ?_)
    | (refine ok_region (i := 8) ?_; refine ok_p rfl rfl rfl (by exact ps_loads rfl rfl (by exact rds_box 0 rfl) rfl rfl (by decide)) ?_; refine ok_m_ rfl rfl (by exact ms_store 4 rfl rfl rfl rfl rfl rfl rfl rfl) ?_; rintro y_ hy_; refine ok_p rfl rfl rfl (by exact ps_assign rfl rfl) ?_; refine ok_p rfl rfl rfl (by exact ps_assign rfl rfl) ?_; refine ok_nil ?_; refine ok_env [(4, _), (5, _), (6, _)] ⟨rfl, rfl, rfl, trivial⟩ ?_)
    | (refine ok_region (i := 9) ?_; refine ok_p rfl rfl rfl (by exact ps_field rfl rfl (by exact isw_ga _)) ?_; refine ok_p rfl rfl rfl (by exact ps_load rfl rfl (by exact Rds.cell (rds_box 0 rfl) rfl)) ?_; refine ok_p rfl rfl rfl (by exact ps_move rfl rfl) ?_; refine ok_p rfl rfl rfl (by exact ps_move rfl rfl) ?_; refine ok_p rfl rfl rfl (by exact ps_bld rfl (parts_cons rfl (parts_cons rfl parts_nil)) rfl) ?_; refine ok_m rfl rfl rfl (by exact ms_lit rfl (parts_cons rfl parts_nil) rfl rfl rfl) ?_; rintro y48 hy48; refine ok_m rfl rfl rfl (by first | exact ms_appN (α := LF) S [⟨⟨nextNo (dats R), ow, [], 0, false⟩, none, 0⟩] 3 rfl rfl rfl rfl (rds_row 0 rfl) rfl sl rfl (by omega) (by omega) | exact ms_appN (α := LF) S [⟨⟨1, ow, [], 0, false⟩, none, 0⟩] 3 rfl rfl rfl rfl (rds_row 0 rfl) rfl sl rfl (by omega) (by omega)) ?_; rintro y49 hy49; refine ok_p rfl rfl rfl (by exact ps_field rfl rfl (by exact isw_ga _)) ?_; refine ok_m_ rfl rfl (by exact ms_store 1 rfl rfl rfl rfl rfl rfl rfl rfl) ?_; rintro y_ hy_; refine ok_nil ?_; refine ok_env [(4, _), (7, _), (8, _)] ⟨rfl, rfl, rfl, trivial⟩ ?_)
    | (refine ok_region (i := 10) ?_; refine ok_p rfl rfl rfl (by exact ps_loads rfl rfl (by exact rds_box 1 rfl) rfl rfl (by decide)) ?_; refine ok_p rfl rfl rfl (by exact ps_move rfl rfl) ?_; refine ok_m_ rfl rfl (by exact ms_store 5 rfl rfl rfl rfl rfl rfl rfl rfl) ?_; rintro y_ hy_; refine ok_p rfl rfl rfl (by exact ps_assign rfl rfl) ?_; refine ok_p rfl rfl rfl (by exact ps_assign rfl rfl) ?_; refine ok_nil ?_; refine ok_env [(4, _), (5, _), (6, _)] ⟨rfl, rfl, rfl, trivial⟩ ?_))
  all_goals first
    | (have hcs : ¬ (inB ow 1 99 = true ∧ (dats R).length < 6 ∧ nextNo (dats R) ≤ 1000000) := by
         rw [inB_true, dats_len]
         have := fun h => H0.out h
         omega
       rw [create_stop hok hcs]
       refine ok_endL (vs := [_, _, _]) rfl ⟨⟨_, 4, _, _, _, rfl, rfl, inferInstance, rfl, rfl⟩, rfl, rfl, trivial⟩ (fun w' hw => ⟨fsY (y14 0).A (y14 0).c (y14 1).A (y14 1).c S w', ?_, trivial, hw.below, ?_⟩)
       · rw [← sd, fsY_val, sl]; rfl
       · rw [← sd, fsY_obj, sl]
         exact NewOk.of (hw.sel [1, 2, 3] (by decide) rfl (G' := []) (fun _ h => by cases h)))
    | (have hcs : inB ow 1 99 = true ∧ (dats R).length < 6 ∧ nextNo (dats R) ≤ 1000000 := by
         rw [inB_true, dats_len]
         have := fun h => H0.out h
         omega
       rw [create_yes hok hcs]
       have ed : dats (S ++ [(⟨⟨nextNo (dats R), ow, [], 0, false⟩, none, 0⟩ : LF)]) = dats R ++ [⟨nextNo (dats R), ow, [], 0, false⟩] := by rw [dats_snoc, sd]
       have el : (S ++ [(⟨⟨nextNo (dats R), ow, [], 0, false⟩, none, 0⟩ : LF)]).length = R.length + 1 := by simp [sl]
       refine ok_endL (vs := [_, _, _]) rfl ⟨⟨_, 5, _, _, _, rfl, rfl, inferInstance, rfl, rfl⟩, rfl, rfl, trivial⟩ (fun w' hw => ⟨fsY (y14 0).A (y14 0).c (y49 0).A (y49 0).c (S ++ [(⟨⟨nextNo (dats R), ow, [], 0, false⟩, none, 0⟩ : LF)]) w', ?_, trivial, hw.below, ?_⟩)
       · simp only
         rw [← ed, fsY_val, el]
         first | rfl | (rw [H0.out (by omega)]; rfl)
       · simp only
         rw [← ed, fsY_obj, el]
         have h2 := (hw.sel [4, 2, 3] (by decide) rfl (G' := []) (fun _ h => by cases h)).rowNil 3 1
         have h3 := (WOk.bagAdd (⟨⟨nextNo (dats R), ow, [], 0, false⟩, none, 0⟩ : LF) rfl rfl h2).sel [1, 2, 0] (by decide) rfl (G' := []) (fun _ h => h)
         first
           | exact NewOk.of h3
           | (rw [H0.out (by omega)] at h3 ⊢; exact NewOk.of h3))
theorem s_FsCreate (x : DFStore) (y : Ys) (n : Int) (w : World) (h : FStore_rd w x y) (hs : FStore_sm x) (hn : -9223372036854775808 ≤ n ∧ n ≤ 9223372036854775807) :
    Calls Try.prog 31 #[FStore_val x y, .int .i64 n] w fun e w' => ∃ y : Ys, e = .returned (.tuple #[FStore_val (fFsCreate x n).1 y, .int .i64 (fFsCreate x n).2.1, .bool (fFsCreate x n).2.2]) ∧ True ∧ Below w.heap.size w w' ∧ NewOk w.heap.size (FStore_obj (fFsCreate x n).1 y) [] w' := by
  obtain ⟨n1, n2, n3⟩ := FS_n x hs
  have := s_FsCreate0 (y 0).A (y 0).c x.B (y 1).A (y 1).c (FS_loc x y) n w h.1 h.2 n1 (by rw [locs_len]; exact n2) (by rw [dats_locs]; exact n3)
  rw [locs_len, dats_locs] at this
  exact this
theorem good_lim {x : DFStore} (g : GoodFs x) : FStore_lim x := ⟨by have := g.hB; omega, by have := g.hF; omega, fun f hf => by have := good_24 g hf; omega⟩
theorem noFs_lim : FStore_lim noFs := ⟨by simp [noFs], by simp [noFs], fun f hf => by cases hf⟩
theorem FsCreate_lim (x : DFStore) (n : Int) (hs : FStore_sm x) (hn : -9223372036854775808 ≤ n ∧ n ≤ 9223372036854775807) : FStore_lim (fFsCreate x n).1 := by
  cases hok : fFsOk x with
  | false => rw [create_no hok]; exact noFs_lim
  | true =>
    have g := (fs_good _).1 hok
    by_cases hc : inB n 1 99 = true ∧ x.F.length < 6 ∧ nextNo x.F ≤ 1000000
    · rw [create_yes hok hc]; exact good_lim (create_good g hc.1 hc.2.1 hc.2.2).1
    · rw [create_stop hok hc]; exact good_lim g
end Go.Proofs.Ytojgphgfhapacaa
/- FsSeal of both programs. -/
namespace Go.Proofs.Ytojgphgfhapacaa
open Go.RowKit
set_option maxHeartbeats 4000000
set_option maxRecDepth 20000
set_option linter.unusedVariables false
set_option linter.unusedSimpArgs false
attribute [local irreducible] Calls
theorem atI_rng (R : List LF) (no : Int) : -1 ≤ atI (dats R) no ∧ atI (dats R) no < R.length := by
  rcases atI_iff (dats R) no with ⟨h1, h2⟩ | ⟨i, h1, h2, h3⟩
  · unfold atI; rw [h2]; simp only; omega
  · rw [dats_len] at h3; omega
theorem atI_no {F : List FFile} {no : Int} (h : atI F no < 0) : atF F no = none := by
  rcases atI_iff F no with ⟨h1, h2⟩ | ⟨i, h1, h2, h3⟩
  · exact h2
  · omega
theorem atI_yes {F : List FFile} {no : Int} (h : ¬ atI F no < 0) : atF F no = some (atI F no).toNat := by
  rcases atI_iff F no with ⟨h1, h2⟩ | ⟨i, h1, h2, h3⟩
  · omega
  · rw [h1, h2]; rfl
theorem seal_no {x : DFStore} (h : fFsOk x = false) (no : Int) : fFsSeal x no = (noFs, false) := by unfold fFsSeal; rw [if_neg (by rw [h]; exact Bool.false_ne_true)]
theorem seal_stop {x : DFStore} (h : fFsOk x = true) {no : Int} (hc : atI x.F no < 0 ∨ (fileAt x.F (atI x.F no).toNat).sl = true) : fFsSeal x no = (x, false) := by
  unfold fFsSeal
  rw [if_pos h]
  by_cases h0 : atI x.F no < 0
  · rw [atI_no h0]
  · rw [atI_yes h0]
    rcases hc with hc | hc
    · exact absurd hc h0
    · simp only [hc, if_true]
theorem seal_yes {x : DFStore} (h : fFsOk x = true) {no : Int} (h0 : ¬ atI x.F no < 0) (hc : (fileAt x.F (atI x.F no).toNat).sl = false) : fFsSeal x no = (⟨x.B, x.F.set (atI x.F no).toNat (shutF (fileAt x.F (atI x.F no).toNat))⟩, true) := by
  unfold fFsSeal
  rw [if_pos h, atI_yes h0]
  simp only [hc, Bool.false_eq_true, if_false]
theorem dats_set (S : List LF) (k : Nat) (l : LF) : dats (S.set k l) = (dats S).set k l.d := by unfold dats; rw [List.map_set]
theorem rows_same (S : List LF) (k : Nat) (hk : k < S.length) (l : LF) (h : l.row = (nth S k).row) : rowsOf (S.set k l) = rowsOf S := by
  rw [rows_set_eq S k h]
  congr 1
  apply List.ext_getElem?
  intro i
  rw [List.getElem?_set]
  split
  · rename_i e; subst e; first | rw [if_pos hk, nthL S k hk, List.getElem?_eq_getElem hk] | rw [nthL S k hk, List.getElem?_eq_getElem hk]
  · rfl
theorem s_atS (v0 : Value) (A : Option Addr) (c : Nat) (S R : List LF) (sd : dats S = dats R) (sl : S.length = R.length) (no : Int) (w : World) (h : Rd w A (fl S)) (hl : R.length ≤ 4194304) (h1 : v0.oneCell' = true) :
    Calls Try.prog 23 #[.agg #[v0, .slice A R.length c], .int .i64 no] w fun e w' => e = .returned (.int .i64 (atI (dats R) no)) ∧ Below w.heap.size w w' := by
  rw [← sd, ← sl]
  exact s_l30At_c v0 A c S no w h (by omega) h1
theorem s_FsSeal0 (A : Option Addr) (c : Nat) (B : List ByteArray) (A' : Option Addr) (c' : Nat) (R : List LF) (no : Int) (w : World) (h1 : Rd w A (fl B)) (h2 : RdN w A' R) (hl : B.length ≤ 4194304) (hl2 : R.length ≤ 4194304) (hl3 : ∀ x ∈ dats R, x.bl.length ≤ 4194304) :
    Calls Try.prog 33 #[.agg #[.slice A B.length c, .slice A' R.length c'], .int .i64 no] w fun e w' => ∃ y : Ys, e = .returned (.tuple #[FStore_val (fFsSeal ⟨B, dats R⟩ no).1 y, .bool (fFsSeal ⟨B, dats R⟩ no).2]) ∧ True ∧ Below w.heap.size w w' ∧ NewOk w.heap.size (FStore_obj (fFsSeal ⟨B, dats R⟩ no).1 y) [] w' := by
  obtain ⟨q1, q2⟩ := h2
  have Q2 := Lib.hid q2; clear q2
  have HL := Lib.hid hl3; clear hl3
  refine ok_enter 34 Try.func33 rfl rfl rfl ?_
  repeat' (first
    | refine ok_seq ?_
    | refine ok_then ?_
    | refine ok_then_ret ?_
    | (refine ok_cond rfl (fun hc => ?_) (fun hc => ?_) <;> (have hd := hc; (try simp only [decide_eq_true_eq, decide_eq_false_iff_not, Bool.or_eq_true, Bool.or_eq_false_iff, Bool.and_eq_true, Bool.and_eq_false_iff, Bool.not_eq_true', Bool.not_eq_false', bne_iff_ne, beq_iff_eq, bne_eq_false_iff_eq, beq_eq_false_iff_ne, ne_eq, Bool.not_true, Bool.not_false, Bool.false_eq_true, Bool.true_eq_false, inB_true, inB_false] at hd)))
    | refine ok_ret ?_
    | refine ok_skip ?_
    | (refine ok_region (i := 0) ?_; refine ok_m rfl rfl rfl (by exact ms_box rfl rfl rfl) ?_; rintro y2 hy2; refine ok_m rfl rfl rfl (by exact ms_alloc rfl) ?_; rintro y4 hy4; refine ok_p rfl rfl rfl (by exact ps_assign rfl rfl) ?_; refine ok_nil ?_; refine ok_env [(1, _), (2, _), (4, _)] ⟨rfl, rfl, rfl, trivial⟩ ?_)
    | (refine ok_region (i := 1) ?_; refine ok_p rfl rfl rfl (by exact ps_loads rfl rfl (by exact rds_box 1 rfl) rfl rfl (by decide)) ?_; refine ok_m rfl rfl rfl (by exact ms_s1 rfl rfl (fun _ _ w hw => s_FsOk0 A c B A' c' R w (rds_rf h1 (by exact List.mem_cons_self) _ _ w hw) (RdN.keep hw ⟨q1, Q2.out⟩ (by exact List.mem_cons_self)) hl hl2 HL.out)) ?_; rintro y9 hy9; refine ok_p rfl rfl rfl (by exact ps_not rfl rfl) ?_; refine ok_nil ?_; refine ok_env [(1, _), (2, _), (4, _), (10, _)] ⟨rfl, rfl, rfl, rfl, trivial⟩ ?_)
    | (refine ok_region (i := 2) ?_; refine ok_p rfl rfl rfl (by exact ps_bld rfl parts_nil rfl) ?_; refine ok_m_ rfl rfl (by exact ms_store 0 rfl rfl rfl rfl rfl rfl rfl rfl) ?_; rintro y_ hy_; refine ok_p rfl rfl rfl (by exact ps_assign rfl rfl) ?_; refine ok_nil ?_; refine ok_env [(4, _), (5, _)] ⟨rfl, rfl, trivial⟩ ?_))
  · rw [seal_no hd]
    exact ok_endL (vs := [_, _]) rfl ⟨⟨_, 0, _, _, _, rfl, rfl, inferInstance, rfl, rfl⟩, rfl, trivial⟩ (fun w' hw => ⟨mkY none 0 w', rfl, trivial, hw.below, fsN_no hw⟩)
  have hok : fFsOk ⟨B, dats R⟩ = true := hd
  have hst := fun h => seal_stop (x := ⟨B, dats R⟩) hok (no := no) h
  have hye := fun h0 h => seal_yes (x := ⟨B, dats R⟩) hok (no := no) h0 h
  simp only at hst hye
  obtain ⟨z1, z2⟩ := atI_rng R no
  clear hc hd
  refine ok_region (i := 3) ?_
  refine ok_p rfl rfl rfl (by exact ps_loads rfl rfl (by exact rds_box 1 rfl) rfl rfl (by decide)) ?_
  refine ok_m rfl rfl rfl (by exact ms_c1 rfl rfl (fun _ _ w hw => s_copy_o A c B A' c' R w (rds_rf h1 (by exact List.mem_cons_self) _ _ w hw) (RdN.keep hw ⟨q1, Q2.out⟩ (by exact List.mem_cons_self)) hl hl2 HL.out)) ?_
  rintro y13 hy13
  refine ok_m rfl rfl rfl (by exact ms_alloc rfl) ?_
  rintro y6 hy6
  refine ok_m_ rfl rfl (by exact ms_store 0 rfl rfl rfl rfl rfl rfl rfl rfl) ?_
  rintro y_ hy_
  refine ok_nil ?_
  refine ok_env [(1, _), (4, _), (6, _)] ⟨rfl, rfl, rfl, trivial⟩ ?_
  obtain ⟨sd, sl⟩ := S_facts R y13
  generalize locs 2 (dats R) y13 = S at sd sl ⊢
  refine ok_then ?_
  refine ok_seq ?_
  refine ok_region (i := 4) ?_
  refine ok_p rfl rfl rfl (by exact ps_loads rfl rfl (by exact rds_box 0 rfl) rfl rfl (by decide)) ?_
  refine ok_p rfl rfl rfl (by exact ps_move rfl rfl) ?_
  refine ok_m rfl rfl rfl (by exact ms_s2 rfl rfl rfl (fun _ _ w hw => s_atS _ _ _ S R sd sl no w (rds_row 2 rfl _ _ w hw) hl2 rfl)) ?_
  rintro y16 hy16
  refine ok_p rfl rfl rfl (by exact ps_assign rfl rfl) ?_
  refine ok_nil ?_
  refine ok_env [(4, _), (6, _), (7, _)] ⟨rfl, rfl, rfl, trivial⟩ ?_
  generalize hz : atI (dats R) no = z at z1 z2 hst hye ⊢
  have hfa : ¬ z < 0 → fileAt (dats R) z.toNat = (nth S z.toNat).d := fun h => by
    rw [← sd]; exact fileAt_nth S _ (by omega)
  have HA := Lib.hid hfa; clear hfa
  have HT := Lib.hid hst; clear hst
  have HY := Lib.hid hye; clear hye
  repeat' (first
    | refine ok_seq ?_
    | refine ok_then ?_
    | refine ok_then_ret ?_
    | (refine ok_cond rfl (fun hc => ?_) (fun hc => ?_) <;> (have hd := hc; (try simp only [decide_eq_true_eq, decide_eq_false_iff_not, Bool.or_eq_true, Bool.or_eq_false_iff, Bool.and_eq_true, Bool.and_eq_false_iff, Bool.not_eq_true', Bool.not_eq_false', bne_iff_ne, beq_iff_eq, bne_eq_false_iff_eq, beq_eq_false_iff_ne, ne_eq, Bool.not_true, Bool.not_false, Bool.false_eq_true, Bool.true_eq_false, inB_true, inB_false] at hd)))
    | refine ok_ret ?_
    | refine ok_skip ?_
    | (refine ok_region (i := 5) ?_; refine ok_p rfl rfl rfl (by exact ps_move rfl rfl) ?_; refine ok_p rfl rfl rfl (by exact ps_int rfl rfl rfl rfl) ?_; refine ok_p rfl rfl rfl (by exact ps_move rfl rfl) ?_; refine ok_pg rfl rfl rfl rfl rfl (gF _) (fun hp => by (have hpd := hp; (try simp only [decide_eq_true_eq, decide_eq_false_iff_not, Bool.or_eq_true, Bool.or_eq_false_iff, Bool.and_eq_true, Bool.and_eq_false_iff, Bool.not_eq_true', Bool.not_eq_false', bne_iff_ne, beq_iff_eq, bne_eq_false_iff_eq, beq_eq_false_iff_ne, ne_eq, Bool.not_true, Bool.not_false, Bool.false_eq_true, Bool.true_eq_false, inB_true, inB_false] at hpd); exact ps_field rfl (by exact rfl) (by exact isw_ga _))) ?_; refine ok_pg rfl rfl rfl rfl rfl (gF _) (fun hp => by (have hpd := hp; (try simp only [decide_eq_true_eq, decide_eq_false_iff_not, Bool.or_eq_true, Bool.or_eq_false_iff, Bool.and_eq_true, Bool.and_eq_false_iff, Bool.not_eq_true', Bool.not_eq_false', bne_iff_ne, beq_iff_eq, bne_eq_false_iff_eq, beq_eq_false_iff_ne, ne_eq, Bool.not_true, Bool.not_false, Bool.false_eq_true, Bool.true_eq_false, inB_true, inB_false] at hpd); exact ps_load rfl (by (refine og rfl ?_; assumption)) (by exact Rds.cell (rds_box 0 rfl) rfl))) ?_; refine ok_pg rfl rfl rfl rfl rfl (gF _) (fun hp => by (have hpd := hp; (try simp only [decide_eq_true_eq, decide_eq_false_iff_not, Bool.or_eq_true, Bool.or_eq_false_iff, Bool.and_eq_true, Bool.and_eq_false_iff, Bool.not_eq_true', Bool.not_eq_false', bne_iff_ne, beq_iff_eq, bne_eq_false_iff_eq, beq_eq_false_iff_ne, ne_eq, Bool.not_true, Bool.not_false, Bool.false_eq_true, Bool.true_eq_false, inB_true, inB_false] at hpd); exact ps_move rfl (by exact rfl))) ?_; refine ok_pg rfl rfl rfl rfl rfl (gF _) (fun hp => by (have hpd := hp; (try simp only [decide_eq_true_eq, decide_eq_false_iff_not, Bool.or_eq_true, Bool.or_eq_false_iff, Bool.and_eq_true, Bool.and_eq_false_iff, Bool.not_eq_true', Bool.not_eq_false', bne_iff_ne, beq_iff_eq, bne_eq_false_iff_eq, beq_eq_false_iff_ne, ne_eq, Bool.not_true, Bool.not_false, Bool.false_eq_true, Bool.true_eq_false, inB_true, inB_false] at hpd); exact ps_index rfl (by (refine og rfl ?_; assumption)) (by (refine og rfl ?_; assumption)) ⟨by omega, by omega⟩ (isw_row 2 rfl (by omega)))) ?_; refine ok_pg rfl rfl rfl rfl rfl (gF _) (fun hp => by (have hpd := hp; (try simp only [decide_eq_true_eq, decide_eq_false_iff_not, Bool.or_eq_true, Bool.or_eq_false_iff, Bool.and_eq_true, Bool.and_eq_false_iff, Bool.not_eq_true', Bool.not_eq_false', bne_iff_ne, beq_iff_eq, bne_eq_false_iff_eq, beq_eq_false_iff_ne, ne_eq, Bool.not_true, Bool.not_false, Bool.false_eq_true, Bool.true_eq_false, inB_true, inB_false] at hpd); exact ps_field rfl (by (refine og rfl ?_; assumption)) (by exact isw_row 2 rfl (by omega)))) ?_; refine ok_pg rfl rfl rfl rfl rfl (gF _) (fun hp => by (have hpd := hp; (try simp only [decide_eq_true_eq, decide_eq_false_iff_not, Bool.or_eq_true, Bool.or_eq_false_iff, Bool.and_eq_true, Bool.and_eq_false_iff, Bool.not_eq_true', Bool.not_eq_false', bne_iff_ne, beq_iff_eq, bne_eq_false_iff_eq, beq_eq_false_iff_ne, ne_eq, Bool.not_true, Bool.not_false, Bool.false_eq_true, Bool.true_eq_false, inB_true, inB_false] at hpd); exact ps_load rfl (by (refine og rfl ?_; assumption)) (Rds.cell (rds_row 2 rfl) (fl_at S z.toNat 4 (by omega) (by decide))))) ?_; refine ok_p rfl rfl rfl (by exact ps_or rfl rfl rfl) ?_; refine ok_nil ?_; refine ok_env [(4, _), (6, _), (7, _), (26, _)] ⟨rfl, rfl, rfl, rfl, trivial⟩ ?_)
    | (refine ok_region (i := 6) ?_; refine ok_p rfl rfl rfl (by exact ps_loads rfl rfl (by exact rds_box 0 rfl) rfl rfl (by decide)) ?_; refine ok_m_ rfl rfl (by exact ms_store 4 rfl rfl rfl rfl rfl rfl rfl rfl) ?_; rintro y_ hy_; refine ok_p rfl rfl rfl (by exact ps_assign rfl rfl) ?_; refine ok_nil ?_; refine ok_env [(4, _), (5, _)] ⟨rfl, rfl, trivial⟩ ?_)
    | (refine ok_region (i := 7) ?_; refine ok_p rfl rfl rfl (by exact ps_field rfl rfl (by exact isw_ga _)) ?_; refine ok_p rfl rfl rfl (by exact ps_load rfl rfl (by exact Rds.cell (rds_box 0 rfl) rfl)) ?_; refine ok_p rfl rfl rfl (by exact ps_move rfl rfl) ?_; refine ok_p rfl rfl rfl (by exact ps_index rfl rfl rfl ⟨by omega, by omega⟩ (isw_row 2 rfl (by omega))) ?_; refine ok_p rfl rfl rfl (by exact ps_field rfl rfl (by exact isw_row 2 rfl (by omega))) ?_; refine ok_m_ rfl rfl (by exact ms_setc 2 z.toNat 4 (⟨shutF (nth S z.toNat).d, (nth S z.toNat).A, (nth S z.toNat).c⟩ : LF) rfl rfl rfl rfl rfl rfl rfl rfl rfl (by omega)) ?_; rintro y_ hy_; refine ok_nil ?_; refine ok_env [(4, _), (6, _)] ⟨rfl, rfl, trivial⟩ ?_)
    | (refine ok_region (i := 8) ?_; refine ok_p rfl rfl rfl (by exact ps_loads rfl rfl (by exact rds_box 0 rfl) rfl rfl (by decide)) ?_; refine ok_m_ rfl rfl (by exact ms_store 4 rfl rfl rfl rfl rfl rfl rfl rfl) ?_; rintro y_ hy_; refine ok_p rfl rfl rfl (by exact ps_assign rfl rfl) ?_; refine ok_nil ?_; refine ok_env [(4, _), (5, _)] ⟨rfl, rfl, trivial⟩ ?_))
  · rw [HT.out (by rcases hd with h | h; exact .inl h; by_cases hz0 : z < 0; exact .inl hz0; exact .inr (by rw [HA.out hz0]; exact h))]
    refine ok_endL (vs := [_, _]) rfl ⟨⟨_, 4, _, _, _, rfl, rfl, inferInstance, rfl, rfl⟩, rfl, trivial⟩ (fun w' hw => ⟨fsY (y13 0).A (y13 0).c (y13 1).A (y13 1).c S w', ?_, trivial, hw.below, ?_⟩)
    · rw [← sd, fsY_val, sl]; rfl
    · rw [← sd, fsY_obj, sl]
      exact NewOk.of (hw.sel [1, 2, 3] (by decide) rfl (G' := []) (fun _ h => by cases h))
  · have ef := HA.out hd.1
    have e1 : (nth S z.toNat).d = fileAt (dats R) z.toNat := by rw [← sd]; exact (fileAt_nth S _ (by omega)).symm
    rw [HY.out hd.1 (by rw [ef]; exact hd.2)]
    have ed : dats (S.set z.toNat (⟨shutF (nth S z.toNat).d, (nth S z.toNat).A, (nth S z.toNat).c⟩ : LF)) = (dats R).set z.toNat (shutF (fileAt (dats R) z.toNat)) := by rw [dats_set, sd, e1]
    have el : (S.set z.toNat (⟨shutF (nth S z.toNat).d, (nth S z.toNat).A, (nth S z.toNat).c⟩ : LF)).length = R.length := by rw [List.length_set, sl]
    refine ok_endL (vs := [_, _]) rfl ⟨⟨_, 4, _, _, _, rfl, rfl, inferInstance, rfl, rfl⟩, rfl, trivial⟩ (fun w' hw => ⟨fsY (y13 0).A (y13 0).c (y13 1).A (y13 1).c (S.set z.toNat (⟨shutF (nth S z.toNat).d, (nth S z.toNat).A, (nth S z.toNat).c⟩ : LF)) w', ?_, trivial, hw.below, ?_⟩)
    · simp only
      rw [← ed, fsY_val, el]; rfl
    · simp only
      rw [← ed, fsY_obj, el, rows_same S z.toNat (by omega) (⟨shutF (nth S z.toNat).d, (nth S z.toNat).A, (nth S z.toNat).c⟩ : LF) rfl]
      exact NewOk.of (hw.sel [1, 2, 3] (by decide) rfl (G' := []) (fun _ h => by cases h))
theorem s_FsSeal (x : DFStore) (y : Ys) (n : Int) (w : World) (h : FStore_rd w x y) (hs : FStore_sm x) (hn : -9223372036854775808 ≤ n ∧ n ≤ 9223372036854775807) :
    Calls Try.prog 33 #[FStore_val x y, .int .i64 n] w fun e w' => ∃ y : Ys, e = .returned (.tuple #[FStore_val (fFsSeal x n).1 y, .bool (fFsSeal x n).2]) ∧ True ∧ Below w.heap.size w w' ∧ NewOk w.heap.size (FStore_obj (fFsSeal x n).1 y) [] w' := by
  obtain ⟨n1, n2, n3⟩ := FS_n x hs
  have := s_FsSeal0 (y 0).A (y 0).c x.B (y 1).A (y 1).c (FS_loc x y) n w h.1 h.2 n1 (by rw [locs_len]; exact n2) (by rw [dats_locs]; exact n3)
  rw [locs_len, dats_locs] at this
  exact this
theorem FsSeal_lim (x : DFStore) (n : Int) (hs : FStore_sm x) (hn : -9223372036854775808 ≤ n ∧ n ≤ 9223372036854775807) : FStore_lim (fFsSeal x n).1 := by
  cases hok : fFsOk x with
  | false => rw [seal_no hok]; exact noFs_lim
  | true =>
    have g := (fs_good _).1 hok
    by_cases h0 : atI x.F n < 0
    · rw [seal_stop hok (.inl h0)]; exact good_lim g
    · cases hc : (fileAt x.F (atI x.F n).toNat).sl with
      | true => rw [seal_stop hok (.inr hc)]; exact good_lim g
      | false => rw [seal_yes hok h0 hc]; exact good_lim (seal_good g (atI_yes h0)).1
end Go.Proofs.Ytojgphgfhapacaa
/- FsAppend in plain Lean: how both programs write. -/
namespace Go.Proofs.Ytojgphgfhapacaa
set_option linter.unusedVariables false
set_option linter.unusedSimpArgs false
theorem putB_snoc : ∀ (l : List Int) (B : List ByteArray) (b : Int) (t : List UInt8), putB B (l ++ [b]) t = (putB B l t).set b.toNat ⟨((t.drop (8 * l.length)).take 8).toArray⟩
  | [], B, b, t => by simp [putB]
  | c :: l, B, b, t => by
    show putB (B.set c.toNat ⟨(t.take 8).toArray⟩) (l ++ [b]) (t.drop 8) = _
    rw [putB_snoc l _ b (t.drop 8), List.drop_drop, List.length_cons, show 8 + 8 * l.length = 8 * (l.length + 1) by omega]
    rfl
theorem fapp_stop {x : DFStore} (h : fFsOk x = true) {no : Int} {text : ByteArray} (hc : atI x.F no < 0 ∨ (fileAt x.F (atI x.F no).toNat).sl = true ∨ (((fileAt x.F (atI x.F no).toNat).bl.length + (freeF x.F).length : Nat) : Int) * 8 - (fileAt x.F (atI x.F no).toNat).ln < text.size) : fFsAppend x no text = (x, false) := by
  rw [app_eq x no text h]
  by_cases h0 : atI x.F no < 0
  · rw [atI_no h0]
  · rw [atI_yes h0]
    rcases hc with hc | hc
    · exact absurd hc h0
    · exact if_pos hc
theorem fapp_yes {x : DFStore} (h : fFsOk x = true) {no : Int} {text : ByteArray} (h0 : ¬ atI x.F no < 0) (h1 : (fileAt x.F (atI x.F no).toNat).sl = false) (h2 : ¬ (((fileAt x.F (atI x.F no).toNat).bl.length + (freeF x.F).length : Nat) : Int) * 8 - (fileAt x.F (atI x.F no).toNat).ln < text.size) : fFsAppend x no text = (appX x (atI x.F no).toNat text, true) := by
  rw [app_eq x no text h, atI_yes h0]
  exact if_neg (by rw [h1]; simp only [Bool.false_eq_true, false_or]; exact h2)
/-- What is written: the file's text, the new one, and zeros. -/
def allS (x : DFStore) (i : Nat) (text : ByteArray) : ByteArray := (appS x i text).s ++ zrs ((appS x i text).bl.length * 8 - (appS x i text).s.size)
theorem allS_bl (x : DFStore) (i : Nat) (text : ByteArray) : bl (allS x i text) = (appS x i text).t := by
  unfold allS; rw [bl_app]; rfl
theorem zrs_zero : zrs 0 = ⟨#[]⟩ := rfl
structure AppN (x : DFStore) (i : Nat) (text : ByteArray) : Prop where
  s : ((appS x i text).s.size : Int) = (fileAt x.F i).ln + text.size
  n : (appS x i text).s.size ≤ 192
  l : ((appS x i text).bl.length : Int) = ceil8 (appS x i text).s.size
  b : (appS x i text).bl = (fileAt x.F i).bl ++ (freeF x.F).take ((appS x i text).bl.length - (fileAt x.F i).bl.length)
  le : (fileAt x.F i).bl.length ≤ (appS x i text).bl.length ∧ (appS x i text).bl.length ≤ (fileAt x.F i).bl.length + (freeF x.F).length
  r : ∀ k, k < (appS x i text).bl.length → 0 ≤ nth (appS x i text).bl k ∧ nth (appS x i text).bl k ≤ 23
  z : (allS x i text).size = 8 * (appS x i text).bl.length
theorem app_nums {x : DFStore} (g : GoodFs x) {i : Nat} (hi : i < x.F.length) {text : ByteArray} (hfit : (text.size : Int) ≤ (((fileAt x.F i).bl.length + (freeF x.F).length : Nat) : Int) * 8 - (fileAt x.F i).ln) : AppN x i text := by
  have hfm := fileAt_mem hi
  have h0 := g.hf _ hfm
  unfold fileOk0 ceil8 at h0
  simp only [Bool.and_eq_true, inB_true, decide_eq_true_eq] at h0
  have htl := text_len g hfm
  have h24 := free_24 g hfm
  have hss : ((appS x i text).s.size : Int) = (fileAt x.F i).ln + text.size := by
    show ((fText x.B (fileAt x.F i) ++ text).size : Int) = _
    rw [ByteArray.size_append]; omega
  have hb0 : (appS x i text).bl = (fileAt x.F i).bl ++ (freeF x.F).take ((ceil8 (appS x i text).s.size).toNat - (fileAt x.F i).bl.length) := rfl
  have hlen : (appS x i text).bl.length = (ceil8 (appS x i text).s.size).toNat := by
    rw [hb0, List.length_append, List.length_take]; unfold ceil8; omega
  refine ⟨hss, by omega, by rw [hlen]; unfold ceil8; omega, by rw [hlen]; exact hb0, ⟨by rw [hlen]; unfold ceil8; omega, by rw [hlen]; unfold ceil8; omega⟩, fun k hk => ?_, ?_⟩
  · have hm := nth_mem _ k hk
    generalize nth (appS x i text).bl k = b at hm ⊢
    rw [hb0] at hm
    rcases List.mem_append.1 hm with h | h
    · exact g.hr _ hfm b h
    · exact ((free_mem _ _).1 (List.mem_of_mem_take h)).1
  · unfold allS
    rw [ByteArray.size_append, zrs_size, hlen]; unfold ceil8; omega
theorem app_set (x : DFStore) (i : Nat) (text : ByteArray) {k : Nat} (hk : k < (appS x i text).bl.length) : putB x.B ((appS x i text).bl.take (k + 1)) (appS x i text).t = (putB x.B ((appS x i text).bl.take k) (appS x i text).t).set (nth (appS x i text).bl k).toNat ((allS x i text).extract (k * 8) ((k + 1) * 8)) := by
  rw [takI hk, putB_snoc]
  congr 1
  apply bl_inj
  rw [bl_extract, allS_bl, bl_mk, List.length_take, Nat.min_eq_left (by omega), List.drop_take]
  rw [show (k + 1) * 8 - k * 8 = 8 by omega, Nat.mul_comm 8 k]
theorem app_end (x : DFStore) (i : Nat) (text : ByteArray) : appX x i text = ⟨putB x.B ((appS x i text).bl.take (appS x i text).bl.length) (appS x i text).t, x.F.set i ⟨(fileAt x.F i).no, (fileAt x.F i).ow, (appS x i text).bl, (appS x i text).s.size, (fileAt x.F i).sl⟩⟩ := by
  rw [List.take_length]; rfl
theorem app_lim {x : DFStore} (h : fFsOk x = true) (no : Int) (text : ByteArray) : fFsOk (fFsAppend x no text).1 = true := fil_ok h no text
/-- Marks file by file. -/
theorem markAll_snoc (F : List FFile) (f : FFile) (U : List Bool) : markAll U (F ++ [f]) = markA (markAll U F) f.bl := by unfold markAll; rw [List.foldl_append]; rfl
theorem markA_snoc (l : List Int) (b : Int) (U : List Bool) : markA U (l ++ [b]) = (markA U l).set b.toNat true := by unfold markA; rw [List.foldl_append]; rfl
theorem dats_take (R : List LF) {k : Nat} (h : k < R.length) : (dats R).take (k + 1) = (dats R).take k ++ [(nth R k).d] := by
  have h' : k < (dats R).length := by rw [dats_len]; exact h
  rw [List.take_succ_eq_append_getElem h']
  congr 2
  simp [dats, nthL R k h]
theorem dats_erase (S : List LF) (i : Nat) : dats (S.eraseIdx i) = (dats S).eraseIdx i := by unfold dats; simp [List.eraseIdx_eq_take_drop_succ, List.map_take, List.map_drop]
end Go.Proofs.Ytojgphgfhapacaa
/- FsDrop of both programs. -/
namespace Go.Proofs.Ytojgphgfhapacaa
open Go.RowKit
set_option maxHeartbeats 4000000
set_option maxRecDepth 20000
set_option linter.unusedVariables false
set_option linter.unusedSimpArgs false
attribute [local irreducible] Calls
theorem isw_bag {α β : Type} [Dat β] [In α β] {H : List HObj} {G : List World} {e sz : Nat} {R : List (Lc α)} (i k : Nat) (hi : H[i]? = some (.bag e sz (rowsOf R))) (hk : k < R.length) (hn : 0 < (In.inn (nth R k).d).length) : IsSW H G (nth R k).A := fun base w0 w hw => by
  have h := (hw.own _ (List.mem_of_getElem? hi)).1 (nth R k).row (List.mem_map.2 ⟨_, nth_mem R k hk, rfl⟩)
  rcases h.2 with ⟨h1, h2⟩ | ⟨g, cap, cur, h1, _⟩
  · have : (In.inn (nth R k).d).length = 0 := h2
    omega
  · injection h1 with hA; exact ⟨_, hA⟩
theorem drop_no {x : DFStore} (h : fFsOk x = false) (no : Int) : fFsDrop x no = (noFs, false) := by unfold fFsDrop; rw [if_neg (by rw [h]; exact Bool.false_ne_true)]
theorem drop_stop {x : DFStore} (h : fFsOk x = true) {no : Int} (hc : atI x.F no < 0) : fFsDrop x no = (x, false) := by unfold fFsDrop; rw [if_pos h, atI_no hc]
theorem drop_yes {x : DFStore} (h : fFsOk x = true) {no : Int} (h0 : ¬ atI x.F no < 0) : fFsDrop x no = (⟨zeroB x.B (fileAt x.F (atI x.F no).toNat).bl, x.F.eraseIdx (atI x.F no).toNat⟩, true) := by unfold fFsDrop; rw [if_pos h, atI_yes h0]
theorem zeroB_snoc (B : List ByteArray) (l : List Int) (b : Int) : zeroB B (l ++ [b]) = (zeroB B l).set b.toNat (zrs 8) := by unfold zeroB; rw [List.foldl_append]; rfl
theorem ok_capO {N base n c e sz : Nat} {w0 : World} {A : Option Addr} {us : List Value} {E : Env} {H : List HObj} {G : List World} {K : Act → World → Prop} (i : Nat) (hi : H[i]? = some (.row e sz A n c us)) (h : n ≤ c → Ok N base w0 E H G K) : Ok N base w0 E H G K := fun a w he hw => h (hw.cap i hi) a w he hw
theorem rds_headF {H : List HObj} {G : List World} {α : Type} [Dat α] {A : Option Addr} {L : List α} (h : Rds H G A (fl L)) (i : Nat) : Rds H G A (fl (L.take i)) := fun base w0 w hw => by
  rw [← fl_take]; exact (h base w0 w hw).take _
theorem s_FsDrop0 (A : Option Addr) (c : Nat) (B : List ByteArray) (A' : Option Addr) (c' : Nat) (R : List LF) (no : Int) (w : World) (h1 : Rd w A (fl B)) (h2 : RdN w A' R) (hl : B.length ≤ 4194304) (hl2 : R.length ≤ 4194304) (hl3 : ∀ x ∈ dats R, x.bl.length ≤ 4194304) :
    Calls Try.prog 32 #[.agg #[.slice A B.length c, .slice A' R.length c'], .int .i64 no] w fun e w' => ∃ y : Ys, e = .returned (.tuple #[FStore_val (fFsDrop ⟨B, dats R⟩ no).1 y, .bool (fFsDrop ⟨B, dats R⟩ no).2]) ∧ True ∧ Below w.heap.size w w' ∧ NewOk w.heap.size (FStore_obj (fFsDrop ⟨B, dats R⟩ no).1 y) [] w' := by
  obtain ⟨q1, q2⟩ := h2
  have Q2 := Lib.hid q2; clear q2
  have HL := Lib.hid hl3; clear hl3
  refine ok_enter 61 Try.func32 rfl rfl rfl ?_
  repeat' (first
    | refine ok_seq ?_
    | refine ok_then ?_
    | refine ok_then_ret ?_
    | (refine ok_cond rfl (fun hc => ?_) (fun hc => ?_) <;> (have hd := hc; (try simp only [decide_eq_true_eq, decide_eq_false_iff_not, Bool.or_eq_true, Bool.or_eq_false_iff, Bool.and_eq_true, Bool.and_eq_false_iff, Bool.not_eq_true', Bool.not_eq_false', bne_iff_ne, beq_iff_eq, bne_eq_false_iff_eq, beq_eq_false_iff_ne, ne_eq, Bool.not_true, Bool.not_false, Bool.false_eq_true, Bool.true_eq_false, inB_true, inB_false] at hd)))
    | refine ok_ret ?_
    | refine ok_skip ?_
    | (refine ok_region (i := 0) ?_; refine ok_m rfl rfl rfl (by exact ms_box rfl rfl rfl) ?_; rintro y2 hy2; refine ok_m rfl rfl rfl (by exact ms_alloc rfl) ?_; rintro y4 hy4; refine ok_p rfl rfl rfl (by exact ps_assign rfl rfl) ?_; refine ok_nil ?_; refine ok_env [(1, _), (2, _), (4, _)] ⟨rfl, rfl, rfl, trivial⟩ ?_)
    | (refine ok_region (i := 1) ?_; refine ok_p rfl rfl rfl (by exact ps_loads rfl rfl (by exact rds_box 1 rfl) rfl rfl (by decide)) ?_; refine ok_m rfl rfl rfl (by exact ms_s1 rfl rfl (fun _ _ w hw => s_FsOk0 A c B A' c' R w (rds_rf h1 (by exact List.mem_cons_self) _ _ w hw) (RdN.keep hw ⟨q1, Q2.out⟩ (by exact List.mem_cons_self)) hl hl2 HL.out)) ?_; rintro y11 hy11; refine ok_p rfl rfl rfl (by exact ps_not rfl rfl) ?_; refine ok_nil ?_; refine ok_env [(1, _), (2, _), (4, _), (12, _)] ⟨rfl, rfl, rfl, rfl, trivial⟩ ?_)
    | (refine ok_region (i := 2) ?_; refine ok_p rfl rfl rfl (by exact ps_bld rfl parts_nil rfl) ?_; refine ok_m_ rfl rfl (by exact ms_store 0 rfl rfl rfl rfl rfl rfl rfl rfl) ?_; rintro y_ hy_; refine ok_p rfl rfl rfl (by exact ps_assign rfl rfl) ?_; refine ok_nil ?_; refine ok_env [(4, _), (5, _)] ⟨rfl, rfl, trivial⟩ ?_))
  · rw [drop_no hd]
    exact ok_endL (vs := [_, _]) rfl ⟨⟨_, 0, _, _, _, rfl, rfl, inferInstance, rfl, rfl⟩, rfl, trivial⟩ (fun w' hw => ⟨mkY none 0 w', rfl, trivial, hw.below, fsN_no hw⟩)
  have hok : fFsOk ⟨B, dats R⟩ = true := hd
  have g := (fs_good _).1 hok
  have hst := fun h => drop_stop (x := ⟨B, dats R⟩) hok (no := no) h
  have hye := fun h0 => drop_yes (x := ⟨B, dats R⟩) hok (no := no) h0
  simp only at hst hye
  obtain ⟨z1, z2⟩ := atI_rng R no
  have hB : B.length = 24 := g.hB
  have hR : R.length ≤ 6 := by have := g.hF; rw [dats_len] at this; exact this
  have hr := g.hr
  simp only at hr
  have HR := Lib.hid hr; clear hr
  clear hc hd
  refine ok_region (i := 3) ?_
  refine ok_p rfl rfl rfl (by exact ps_loads rfl rfl (by exact rds_box 1 rfl) rfl rfl (by decide)) ?_
  refine ok_m rfl rfl rfl (by exact ms_c1 rfl rfl (fun _ _ w hw => s_copy_o A c B A' c' R w (rds_rf h1 (by exact List.mem_cons_self) _ _ w hw) (RdN.keep hw ⟨q1, Q2.out⟩ (by exact List.mem_cons_self)) hl hl2 HL.out)) ?_
  rintro y15 hy15
  refine ok_m rfl rfl rfl (by exact ms_alloc rfl) ?_
  rintro y6 hy6
  refine ok_m_ rfl rfl (by exact ms_store 0 rfl rfl rfl rfl rfl rfl rfl rfl) ?_
  rintro y_ hy_
  refine ok_nil ?_
  refine ok_env [(1, _), (4, _), (6, _)] ⟨rfl, rfl, rfl, trivial⟩ ?_
  obtain ⟨sd, sl⟩ := S_facts R y15
  generalize locs 2 (dats R) y15 = S at sd sl ⊢
  refine ok_then ?_
  refine ok_seq ?_
  refine ok_region (i := 4) ?_
  refine ok_p rfl rfl rfl (by exact ps_loads rfl rfl (by exact rds_box 0 rfl) rfl rfl (by decide)) ?_
  refine ok_p rfl rfl rfl (by exact ps_move rfl rfl) ?_
  refine ok_m rfl rfl rfl (by exact ms_s2 rfl rfl rfl (fun _ _ w hw => s_atS _ _ _ S R sd sl no w (rds_row 2 rfl _ _ w hw) hl2 rfl)) ?_
  rintro y18 hy18
  refine ok_p rfl rfl rfl (by exact ps_assign rfl rfl) ?_
  refine ok_nil ?_
  refine ok_env [(4, _), (6, _), (7, _)] ⟨rfl, rfl, rfl, trivial⟩ ?_
  generalize hz : atI (dats R) no = z at z1 z2 hst hye ⊢
  have HT := Lib.hid hst; clear hst
  have HY := Lib.hid hye; clear hye
  repeat' (first
    | refine ok_seq ?_
    | refine ok_then ?_
    | refine ok_then_ret ?_
    | refine ok_block ?_
    | (refine ok_cond rfl (fun hc => ?_) (fun hc => ?_) <;> (have hd := hc; (try simp only [decide_eq_true_eq, decide_eq_false_iff_not, Bool.or_eq_true, Bool.or_eq_false_iff, Bool.and_eq_true, Bool.and_eq_false_iff, Bool.not_eq_true', Bool.not_eq_false', bne_iff_ne, beq_iff_eq, bne_eq_false_iff_eq, beq_eq_false_iff_ne, ne_eq, Bool.not_true, Bool.not_false, Bool.false_eq_true, Bool.true_eq_false, inB_true, inB_false] at hd)))
    | refine ok_ret ?_
    | refine ok_skip ?_
    | (refine ok_region (i := 5) ?_; refine ok_p rfl rfl rfl (by exact ps_move rfl rfl) ?_; refine ok_p rfl rfl rfl (by exact ps_int rfl rfl rfl rfl) ?_; refine ok_nil ?_; refine ok_env [(4, _), (6, _), (7, _), (20, _)] ⟨rfl, rfl, rfl, rfl, trivial⟩ ?_)
    | (refine ok_region (i := 6) ?_; refine ok_p rfl rfl rfl (by exact ps_loads rfl rfl (by exact rds_box 0 rfl) rfl rfl (by decide)) ?_; refine ok_m_ rfl rfl (by exact ms_store 4 rfl rfl rfl rfl rfl rfl rfl rfl) ?_; rintro y_ hy_; refine ok_p rfl rfl rfl (by exact ps_assign rfl rfl) ?_; refine ok_nil ?_; refine ok_env [(4, _), (5, _)] ⟨rfl, rfl, trivial⟩ ?_)
    | (refine ok_region (i := 7) ?_; refine ok_p rfl rfl rfl (by exact ps_assign rfl rfl) ?_; refine ok_nil ?_; refine ok_env [(4, _), (6, _), (7, _), (8, _)] ⟨rfl, rfl, rfl, rfl, trivial⟩ ?_))
  · rw [HT.out hd]
    refine ok_endL (vs := [_, _]) rfl ⟨⟨_, 4, _, _, _, rfl, rfl, inferInstance, rfl, rfl⟩, rfl, trivial⟩ (fun w' hw => ⟨fsY (y15 0).A (y15 0).c (y15 1).A (y15 1).c S w', ?_, trivial, hw.below, ?_⟩)
    · rw [← sd, fsY_val, sl]; rfl
    · rw [← sd, fsY_obj, sl]
      exact NewOk.of (hw.sel [1, 2, 3] (by decide) rfl (G' := []) (fun _ h => by cases h))
  obtain ⟨i, rfl⟩ : ∃ i : Nat, z = (i : Int) := ⟨z.toNat, by omega⟩
  simp only [Int.toNat_natCast] at HY ⊢
  have hi : i < S.length := by omega
  have hiR : i < R.length := by omega
  have e1 : (nth S i).d = fileAt (dats R) i := by rw [← sd]; exact (fileAt_nth S _ hi).symm
  have hin : (In.inn (nth S i).d).length = (nth S i).d.bl.length := rfl
  have hrg : ∀ k, k < (nth S i).d.bl.length → 0 ≤ nth (nth S i).d.bl k ∧ nth (nth S i).d.bl k ≤ 23 := fun k hk => HR.out (nth S i).d (by rw [← sd]; exact List.mem_map.2 ⟨_, nth_mem S i hi, rfl⟩) _ (nth_mem _ _ hk)
  have HG := Lib.hid hrg; clear hrg
  have hln : (nth S i).d.bl.length ≤ 4194304 := by rw [e1, fileAt_nth R i hiR]; exact HL.out _ (List.mem_map.2 ⟨_, nth_mem R i hiR, rfl⟩)
  refine ok_capO 2 rfl (fun hcp => ?_)
  refine ok_loop (ι := { k : Nat // k ≤ (nth S i).d.bl.length }) (fun k => (nth S i).d.bl.length - k.1) (fun k => (([(4, pt (ga (y4 0).c) 0), (6, pt (ga (y6 0).c) 0), (7, .int .i64 i), (8, .int .i64 k.1)]), [.box (y6 0).c 27 [.slice (y15 0).A B.length (y15 0).c, .slice (y15 1).A R.length (y15 1).c], .row 9 1 (y15 0).A B.length (y15 0).c (fl (zeroB B ((nth S i).d.bl.take k.1))), .row 36 5 (y15 1).A R.length (y15 1).c (fl S), .bag 3 1 (rowsOf S), _, _], _)) ⟨0, Nat.zero_le _⟩ (fun a w he hw => ⟨⟨0, Nat.zero_le _⟩, he.sub ⟨rfl, rfl, rfl, rfl, trivial⟩, hw⟩) ?_
  rintro ⟨k, hk⟩
  simp only at hk ⊢
  have hzl : (zeroB B ((nth S i).d.bl.take k)).length = B.length := zero_len _ _
  have hsn : k < (nth S i).d.bl.length → zeroB B ((nth S i).d.bl.take (k + 1)) = (zeroB B ((nth S i).d.bl.take k)).set (nth (nth S i).d.bl k).toNat (zrs 8) := fun h => by rw [takI h, zeroB_snoc]
  have HS := Lib.hid hsn; clear hsn
  generalize hC : zeroB B ((nth S i).d.bl.take k) = C at hzl HS ⊢
  repeat' (first
    | refine ok_seq ?_
    | refine ok_then ?_
    | refine ok_block ?_
    | refine ok_in_normal ?_
    | (refine ok_cond rfl (fun hc => ?_) (fun hc => ?_) <;> (have hd := hc; (try simp only [decide_eq_true_eq, decide_eq_false_iff_not, Bool.or_eq_true, Bool.or_eq_false_iff, Bool.and_eq_true, Bool.and_eq_false_iff, Bool.not_eq_true', Bool.not_eq_false', bne_iff_ne, beq_iff_eq, bne_eq_false_iff_eq, beq_eq_false_iff_ne, ne_eq, Bool.not_true, Bool.not_false, Bool.false_eq_true, Bool.true_eq_false, inB_true, inB_false] at hd)))
    | refine ok_ret ?_
    | refine ok_exit ?_
    | refine ok_skip ?_
    | (refine ok_region (i := 8) ?_; refine ok_p rfl rfl rfl (by exact ps_move rfl rfl) ?_; refine ok_p rfl rfl rfl (by exact ps_field rfl rfl (by exact isw_ga _)) ?_; refine ok_p rfl rfl rfl (by exact ps_load rfl rfl (by exact Rds.cell (rds_box 0 rfl) rfl)) ?_; refine ok_p rfl rfl rfl (by exact ps_move rfl rfl) ?_; refine ok_p rfl rfl rfl (by exact ps_indexN rfl rfl rfl (by omega) (isw_row 2 rfl (by omega))) ?_; refine ok_p rfl rfl rfl (by exact ps_field rfl rfl (by exact isw_row 2 rfl (by omega))) ?_; refine ok_p rfl rfl rfl (by exact ps_load rfl rfl (by exact Rds.cell (rds_row 2 rfl) (by exact fl_at _ _ _ (by omega) (by decide)))) ?_; refine ok_p rfl rfl rfl (by exact ps_len rfl rfl) ?_; refine ok_p rfl rfl rfl (by exact ps_int rfl rfl rfl rfl) ?_; refine ok_nil ?_; refine ok_env [(4, _), (6, _), (7, _), (8, _), (30, _)] ⟨rfl, rfl, rfl, rfl, rfl, trivial⟩ ?_)
    | (refine ok_region (i := 9) ?_; refine ok_p rfl rfl rfl (by exact ps_move rfl rfl) ?_; refine ok_p rfl rfl rfl (by exact ps_add rfl rfl rfl (by omega)) ?_; refine ok_p rfl rfl rfl (by exact ps_assign rfl rfl) ?_; refine ok_nil ?_; refine ok_env [(4, _), (6, _), (7, _), (8, _)] ⟨rfl, rfl, rfl, rfl, trivial⟩ ?_)
    | (refine ok_draw (id := 10) 13 rfl (by kernel_rfl) (by kernel_rfl) rfl (by repeat (first | exact pq_body | refine pq_then ?_ | refine pq_in ?_)) [0, 1, 2, 3, 4, 5, 6, 7, 8, 9, 10, 11, 12, 13, 14, 15, 16, 17, 18, 19, 20, 21, 22, 23] (by decide) rfl ?_; refine okT_take (i := 0) rfl (by kernel_rfl) rfl rfl rfl (by exact ps_field rfl rfl (by exact isw_ga _)) ?_; refine okT_take (i := 1) rfl (by kernel_rfl) rfl rfl rfl (by exact ps_load rfl rfl (by exact Rds.cell (rds_box 0 rfl) rfl)) ?_; refine okT_take (i := 2) rfl (by kernel_rfl) rfl rfl rfl (by exact ps_field rfl rfl (by exact isw_ga _)) ?_; refine okT_take (i := 3) rfl (by kernel_rfl) rfl rfl rfl (by exact ps_load rfl rfl (by exact Rds.cell (rds_box 0 rfl) rfl)) ?_; refine okT_take (i := 4) rfl (by kernel_rfl) rfl rfl rfl (by exact ps_move rfl rfl) ?_; refine okT_take (i := 5) rfl (by kernel_rfl) rfl rfl rfl (by exact ps_indexN rfl rfl rfl (by omega) (isw_row 2 rfl (by omega))) ?_; refine okT_take (i := 6) rfl (by kernel_rfl) rfl rfl rfl (by exact ps_field rfl rfl (by exact isw_row 2 rfl (by omega))) ?_; refine okT_take (i := 7) rfl (by kernel_rfl) rfl rfl rfl (by exact ps_load rfl rfl (by exact Rds.cell (rds_row 2 rfl) (by exact fl_at _ _ _ (by omega) (by decide)))) ?_; refine okT_take (i := 8) rfl (by kernel_rfl) rfl rfl rfl (by exact ps_move rfl rfl) ?_; refine okT_take (i := 9) rfl (by kernel_rfl) rfl rfl rfl (by exact ps_indexN rfl rfl rfl (by omega) (isw_bag 3 i rfl hi (by omega))) ?_; refine okT_take (i := 10) rfl (by kernel_rfl) rfl rfl rfl (by exact ps_load rfl rfl (Rds.cell (rds_bag 3 i rfl hi) (fl_at0 (nth S i).d.bl k (by omega) (by decide)))) ?_; refine okT_one (i := 11) rfl rfl (by kernel_rfl) rfl rfl rfl (by exact ms_s1 rfl rfl (fun _ _ w hw => l30Zero_c 8 ⟨by omega, by omega⟩ w)) (fun y w _ h => by exact h) ?_; rintro y44 hy44; refine okT_take (i := 12) rfl (by kernel_rfl) rfl rfl rfl (by exact ps_index rfl rfl rfl (by have := HG.out k (by omega); omega) (isw_row 1 rfl (by omega))) ?_; refine okT_done (by kernel_rfl) ?_; refine ok_m_ rfl rfl (by exact ms_setw (α := ByteArray) 1 (nth (nth S i).d.bl k).toNat (zrs 8) rfl rfl rfl rfl rfl rfl rfl rfl rfl (by have := HG.out k (by omega); omega)) ?_; rintro y_ hy_; refine ok_nil ?_; refine ok_env [(4, _), (6, _), (7, _), (8, _)] ⟨rfl, rfl, rfl, rfl, trivial⟩ ?_)
    | (refine ok_region (i := 11) ?_; refine ok_m rfl rfl rfl (by exact ms_lit rfl parts_nil rfl rfl rfl) ?_; rintro y46 hy46; refine ok_p rfl rfl rfl (by exact ps_field rfl rfl (by exact isw_ga _)) ?_; refine ok_p rfl rfl rfl (by exact ps_load rfl rfl (by exact Rds.cell (rds_box 1 rfl) rfl)) ?_; refine ok_p rfl rfl rfl (by exact ps_move rfl rfl) ?_; refine ok_p rfl rfl rfl (by exact ps_slice0 (h := i) rfl rfl rfl rfl (by omega)) ?_; refine ok_m rfl rfl rfl (by exact ms_app0n (S.take i) 0 rfl rfl rfl rfl (rds_headF (rds_row 3 rfl) i) rfl (by rw [List.length_take]; omega) (by omega) (by omega)) ?_; rintro y51 hy51; refine ok_p rfl rfl rfl (by exact ps_assign rfl rfl) ?_; refine ok_nil ?_; refine ok_env [(4, _), (6, _), (7, _), (9, _)] ⟨rfl, rfl, rfl, rfl, trivial⟩ ?_)
    | (refine ok_region (i := 12) ?_; refine ok_p rfl rfl rfl (by exact ps_move rfl rfl) ?_; refine ok_p rfl rfl rfl (by exact ps_field rfl rfl (by exact isw_ga _)) ?_; refine ok_p rfl rfl rfl (by exact ps_load rfl rfl (by exact Rds.cell (rds_box 1 rfl) rfl)) ?_; refine ok_p rfl rfl rfl (by exact ps_move rfl rfl) ?_; refine ok_p rfl rfl rfl (by exact ps_add rfl rfl rfl (by omega)) ?_; refine ok_p rfl rfl rfl (by exact ps_sliceE (l := i + 1) rfl rfl rfl rfl (by omega) (by omega)) ?_; refine ok_m rfl rfl rfl (by exact ms_appN (S.take i) (S.drop (i + 1)) 0 rfl rfl rfl rfl (rds_tail (rds_row 3 rfl) rfl (by omega) (by omega)) rfl (by rw [List.length_take]; omega) (by simp only [List.length_drop]; omega) (by omega) (by omega)) ?_; rintro y58 hy58; refine ok_p rfl rfl rfl (by exact ps_field rfl rfl (by exact isw_ga _)) ?_; refine ok_m_ rfl rfl (by exact ms_store 1 rfl rfl rfl rfl rfl rfl rfl rfl) ?_; rintro y_ hy_; refine ok_nil ?_; refine ok_env [(4, _), (6, _)] ⟨rfl, rfl, trivial⟩ ?_)
    | (refine ok_region (i := 13) ?_; refine ok_p rfl rfl rfl (by exact ps_loads rfl rfl (by exact rds_box 1 rfl) rfl rfl (by decide)) ?_; refine ok_m_ rfl rfl (by exact ms_store 5 rfl rfl rfl rfl rfl rfl rfl rfl) ?_; rintro y_ hy_; refine ok_p rfl rfl rfl (by exact ps_assign rfl rfl) ?_; refine ok_nil ?_; refine ok_env [(4, _), (5, _)] ⟨rfl, rfl, trivial⟩ ?_))
  · refine fun a w' he hw => ⟨⟨k + 1, by omega⟩, by simp only; omega, he.sub ⟨rfl, rfl, rfl, rfl, trivial⟩, ?_⟩
    simp only
    rw [HS.out (by omega)]
    exact hw
  · have hk2 : k = (nth S i).d.bl.length := by omega
    rw [hk2, List.take_length] at hC
    have ed : dats (S.eraseIdx i) = (dats R).eraseIdx i := by rw [dats_erase, sd]
    have el : (S.eraseIdx i).length = i + (R.length - (i + 1)) := by rw [List.length_eraseIdx_of_lt hi]; omega
    have ex : S.take i ++ S.drop (i + 1) = S.eraseIdx i := by rw [List.eraseIdx_eq_take_drop_succ]
    rw [HY.out (by omega), ← e1, hC]
    refine ok_endL (vs := [_, _]) rfl ⟨⟨_, 5, _, _, _, rfl, rfl, inferInstance, rfl, rfl⟩, rfl, trivial⟩ (fun w' hw => ⟨fsY (y15 0).A (y15 0).c (y58 0).A (y58 0).c (S.eraseIdx i) w', ?_, trivial, hw.below, ?_⟩)
    · simp only
      rw [← ed, fsY_val, el, hzl]; rfl
    · simp only
      rw [← ed, fsY_obj, el, hzl, ← ex]
      have h3 := hw.sel [4, 2, 0] (by decide) rfl (G' := []) (fun _ h => by cases h)
      have h4 := (WOk.bagDrop i hi h3).sel [1, 2, 0] (by decide) rfl (fun _ h => h)
      rw [← ex] at h4
      exact NewOk.of h4
theorem s_FsDrop (x : DFStore) (y : Ys) (n : Int) (w : World) (h : FStore_rd w x y) (hs : FStore_sm x) (hn : -9223372036854775808 ≤ n ∧ n ≤ 9223372036854775807) :
    Calls Try.prog 32 #[FStore_val x y, .int .i64 n] w fun e w' => ∃ y : Ys, e = .returned (.tuple #[FStore_val (fFsDrop x n).1 y, .bool (fFsDrop x n).2]) ∧ True ∧ Below w.heap.size w w' ∧ NewOk w.heap.size (FStore_obj (fFsDrop x n).1 y) [] w' := by
  obtain ⟨n1, n2, n3⟩ := FS_n x hs
  have := s_FsDrop0 (y 0).A (y 0).c x.B (y 1).A (y 1).c (FS_loc x y) n w h.1 h.2 n1 (by rw [locs_len]; exact n2) (by rw [dats_locs]; exact n3)
  rw [locs_len, dats_locs] at this
  exact this
theorem FsDrop_lim (x : DFStore) (n : Int) (hs : FStore_sm x) (hn : -9223372036854775808 ≤ n ∧ n ≤ 9223372036854775807) : FStore_lim (fFsDrop x n).1 := by
  cases hok : fFsOk x with
  | false => rw [drop_no hok]; exact noFs_lim
  | true =>
    have g := (fs_good _).1 hok
    by_cases h0 : atI x.F n < 0
    · rw [drop_stop hok h0]; exact good_lim g
    · rw [drop_yes hok h0]; exact good_lim (drop_good g (atI_yes h0)).1
end Go.Proofs.Ytojgphgfhapacaa
/- FsAppend of both programs: what is free, whose a block is. -/
namespace Go.Proofs.Ytojgphgfhapacaa
open Go.RowKit
set_option maxHeartbeats 4000000
set_option maxRecDepth 20000
set_option linter.unusedVariables false
set_option linter.unusedSimpArgs false
attribute [local irreducible] Calls
structure FrI where
  k : Nat
  A : Option Addr
  c : Nat
  hk : k ≤ 24
theorem i_free_c (v0 : Value) (A' : Option Addr) (c' : Nat) (B : List ByteArray) (R : List LF) (w : World) (h2 : RdN w A' R) (g : GoodFs ⟨B, dats R⟩) (h1 : v0.oneCell' = true) :
    Calls Try.prog 19 #[.agg #[v0, .slice A' R.length c']] w fun e w' => ∃ y : Ys, e = .returned (.slice (y 0).A (freeF (dats R)).length (y 0).c) ∧ True ∧ Below w.heap.size w w' ∧ NewOk w.heap.size [.row 3 1 (y 0).A (freeF (dats R)).length (y 0).c (fl (freeF (dats R)))] [] w' := by
  obtain ⟨q1, q2⟩ := h2
  have q2 : ∀ k, k < R.length → Rd w (nth R k).A (fl (nth R k).d.bl) := q2
  have Q2 := Lib.hid q2; clear q2
  have hR : R.length ≤ 6 := by have := g.hF; rw [dats_len] at this; exact this
  have h24 : ∀ k, k < R.length → (nth R k).d.bl.length ≤ 24 := fun k hk => good_24 g (List.mem_map.2 ⟨_, nth_mem R k hk, rfl⟩)
  have hrg : ∀ k, k < R.length → ∀ j, j < (nth R k).d.bl.length → 0 ≤ nth (nth R k).d.bl j ∧ nth (nth R k).d.bl j ≤ 23 := fun k hk j hj => g.hr _ (List.mem_map.2 ⟨_, nth_mem R k hk, rfl⟩) _ (nth_mem _ _ hj)
  have hus : ∀ k, k < 24 → nth (markAll noF (dats R)) k = usedF (dats R) k := fun k hk => markAll_used g k hk
  have H24 := Lib.hid h24; clear h24
  have HG := Lib.hid hrg; clear hrg
  have HU := Lib.hid hus; clear hus
  refine ok_enter 42 Try.func19 rfl rfl rfl ?_
  repeat' (first
    | refine ok_seq ?_
    | refine ok_then ?_
    | refine ok_block ?_
    | (refine ok_region (i := 0) ?_; refine ok_m rfl rfl rfl (by exact ms_box rfl rfl rfl) ?_; rintro y1 hy1; refine ok_p rfl rfl rfl (by exact ps_assign rfl rfl) ?_; refine ok_nil ?_; refine ok_env [(1, _)] ⟨rfl, trivial⟩ ?_)
    | (refine ok_region (i := 1) ?_; refine ok_m rfl rfl rfl (by exact ms_alloc rfl) ?_; rintro y3 hy3; refine ok_nil ?_; refine ok_env [(1, _), (3, _)] ⟨rfl, rfl, trivial⟩ ?_)
    | (refine ok_region (i := 2) ?_; refine ok_p rfl rfl rfl (by exact ps_field rfl rfl (by exact isw_ga _)) ?_; refine ok_p rfl rfl rfl (by exact ps_load rfl rfl (by exact Rds.cell (rds_box 1 rfl) rfl)) ?_; refine ok_p rfl rfl rfl (by exact ps_len rfl rfl) ?_; refine ok_p rfl rfl rfl (by exact ps_move rfl rfl) ?_; refine ok_nil ?_; refine ok_env [(3, _), (12, _), (13, _), (14, _)] ⟨rfl, rfl, rfl, rfl, trivial⟩ ?_))
  refine ok_loop (ι := { k : Nat // k ≤ R.length }) (fun k => R.length - k.1) (fun k => ([(3, pt (ga (y3 0).c) 0), (12, .slice A' R.length c'), (13, .int .i64 R.length), (14, .int .i64 k.1)], [.box (y3 0).c 54 (fl (markAll noF ((dats R).take k.1))), _], _)) ⟨0, Nat.zero_le _⟩ (fun a w he hw => ⟨⟨0, Nat.zero_le _⟩, he.sub ⟨rfl, rfl, rfl, rfl, trivial⟩, hw⟩) ?_
  rintro ⟨k, hk⟩
  simp only at hk ⊢
  have hl24 := fun h => H24.out k h
  have hls : k < R.length → markAll noF ((dats R).take (k + 1)) = markA (markAll noF ((dats R).take k)) (nth R k).d.bl := fun h => by rw [dats_take R h, markAll_snoc]
  have HL := Lib.hid hls; clear hls
  have hml : (markAll noF ((dats R).take k)).length = 24 := by rw [markAll_len]; rfl
  have hmr : k = R.length → markAll noF ((dats R).take k) = markAll noF (dats R) := fun h => by rw [h, ← dats_len, List.take_length]
  have HM := Lib.hid hmr; clear hmr
  generalize markAll noF ((dats R).take k) = U at hml HL HM ⊢
  repeat' (first
    | refine ok_seq ?_
    | refine ok_then ?_
    | refine ok_block ?_
    | (refine ok_cond rfl (fun hc => ?_) (fun hc => ?_) <;> (have hd := hc; (try simp only [decide_eq_true_eq, decide_eq_false_iff_not, Bool.or_eq_true, Bool.or_eq_false_iff, Bool.and_eq_true, Bool.and_eq_false_iff, Bool.not_eq_true', Bool.not_eq_false', bne_iff_ne, beq_iff_eq, bne_eq_false_iff_eq, beq_eq_false_iff_ne, ne_eq, Bool.not_true, Bool.not_false, Bool.false_eq_true, Bool.true_eq_false, inB_true, inB_false] at hd)))
    | refine ok_exit ?_
    | refine ok_skip ?_
    | (refine ok_region (i := 3) ?_; refine ok_p rfl rfl rfl (by exact ps_int rfl rfl rfl rfl) ?_; refine ok_nil ?_; refine ok_env [(3, _), (12, _), (13, _), (14, _), (15, _)] ⟨rfl, rfl, rfl, rfl, rfl, trivial⟩ ?_)
    | (refine ok_region (i := 4) ?_; refine ok_p rfl rfl rfl (by exact ps_indexN rfl rfl rfl (by omega) (by exact isw_of (isS_fl (by assumption) (by omega)))) ?_; refine ok_p rfl rfl rfl (by exact ps_loadsF rfl rfl (by exact rds_rf (by assumption) (by exact List.mem_cons_self)) (by rfl) (by rfl) (by omega) rfl) ?_; refine ok_m rfl rfl rfl (by exact ms_alloc rfl) ?_; rintro y5 hy5; refine ok_m_ rfl rfl (by exact ms_store 0 rfl rfl rfl rfl rfl rfl rfl rfl) ?_; rintro y_ hy_; refine ok_nil ?_; refine ok_env [(3, _), (5, _), (12, _), (13, _), (14, _)] ⟨rfl, rfl, rfl, rfl, rfl, trivial⟩ ?_)
    | (refine ok_region (i := 5) ?_; refine ok_p rfl rfl rfl (by exact ps_field rfl rfl (by exact isw_ga _)) ?_; refine ok_p rfl rfl rfl (by exact ps_load rfl rfl (by exact Rds.cell (rds_box 0 rfl) rfl)) ?_; refine ok_p rfl rfl rfl (by exact ps_len rfl rfl) ?_; refine ok_p rfl rfl rfl (by exact ps_move rfl rfl) ?_; refine ok_nil ?_; refine ok_env [(3, _), (12, _), (13, _), (14, _), (19, _), (20, _), (21, _)] ⟨rfl, rfl, rfl, rfl, rfl, rfl, rfl, trivial⟩ ?_)
    | (refine ok_region (i := 11) ?_; refine ok_p rfl rfl rfl (by exact ps_assign rfl rfl) ?_; refine ok_nil ?_; refine ok_env [(3, _), (8, _)] ⟨rfl, rfl, trivial⟩ ?_)
    | (refine ok_region (i := 12) ?_; refine ok_p rfl rfl rfl (by exact ps_loadsB 0 rfl rfl rfl (by rw [fl_len]; show U.length * 1 = 24; omega) rfl) ?_; refine ok_p rfl rfl rfl (by exact ps_move rfl rfl) ?_; refine ok_nil ?_; refine ok_env [(8, _), (29, _), (30, _)] ⟨rfl, rfl, rfl, trivial⟩ ?_))
  · refine ok_loop (ι := { j : Nat // j ≤ (nth R k).d.bl.length }) (fun j => (nth R k).d.bl.length - j.1) (fun j => ([(3, pt (ga (y3 0).c) 0), (12, .slice A' R.length c'), (13, .int .i64 R.length), (14, .int .i64 k), (19, .slice (nth R k).A (nth R k).d.bl.length (nth R k).c), (20, .int .i64 ((nth R k).d.bl.length : Int)), (21, .int .i64 j.1)], [_, .box (y3 0).c 54 (fl (markA U ((nth R k).d.bl.take j.1))), _], _)) ⟨0, Nat.zero_le _⟩ (fun a w he hw => ⟨⟨0, Nat.zero_le _⟩, he.sub ⟨rfl, rfl, rfl, rfl, rfl, rfl, rfl, trivial⟩, hw⟩) ?_
    rintro ⟨j, hj⟩
    simp only at hj ⊢
    have hl24 := hl24 (by omega)
    have hjs : j < (nth R k).d.bl.length → markA U ((nth R k).d.bl.take (j + 1)) = (markA U ((nth R k).d.bl.take j)).set (nth (nth R k).d.bl j).toNat true := fun h => by rw [takI h, markA_snoc]
    have HJ := Lib.hid hjs; clear hjs
    have hvl : (markA U ((nth R k).d.bl.take j)).length = 24 := by rw [markA_len]; exact hml
    have hvr : j = (nth R k).d.bl.length → markA U ((nth R k).d.bl.take j) = markA U (nth R k).d.bl := fun h => by rw [h, List.take_length]
    have HV := Lib.hid hvr; clear hvr
    generalize markA U ((nth R k).d.bl.take j) = V at hvl HJ HV ⊢
    repeat' (first
      | refine ok_seq ?_
      | refine ok_then ?_
      | refine ok_then_exit ?_
      | refine ok_block ?_
      | refine ok_in_normal ?_
      | refine ok_in_exit ?_
      | (refine ok_cond rfl (fun hc => ?_) (fun hc => ?_) <;> (have hd := hc; (try simp only [decide_eq_true_eq, decide_eq_false_iff_not, Bool.or_eq_true, Bool.or_eq_false_iff, Bool.and_eq_true, Bool.and_eq_false_iff, Bool.not_eq_true', Bool.not_eq_false', bne_iff_ne, beq_iff_eq, bne_eq_false_iff_eq, beq_eq_false_iff_ne, ne_eq, Bool.not_true, Bool.not_false, Bool.false_eq_true, Bool.true_eq_false, inB_true, inB_false] at hd)))
      | refine ok_exit ?_
      | refine ok_skip ?_
      | (refine ok_region (i := 6) ?_; refine ok_p rfl rfl rfl (by exact ps_int rfl rfl rfl rfl) ?_; refine ok_nil ?_; refine ok_env [(3, _), (12, _), (13, _), (14, _), (19, _), (20, _), (21, _), (22, _)] ⟨rfl, rfl, rfl, rfl, rfl, rfl, rfl, rfl, trivial⟩ ?_)
      | (refine ok_region (i := 7) ?_; refine ok_p rfl rfl rfl (by exact ps_indexN rfl rfl rfl (by omega) (isw_of (isS_fl (Q2.out k (by omega)) (by omega)))) ?_; refine ok_p rfl rfl rfl (by exact ps_load rfl rfl (Rds.cell (rds_rf (Q2.out k (by omega)) (by exact List.mem_cons_self)) (fl_at0 (nth R k).d.bl j (by omega) (by decide)))) ?_; refine ok_p rfl rfl rfl (by exact ps_assign rfl rfl) ?_; refine ok_nil ?_; refine ok_env [(3, _), (7, _), (12, _), (13, _), (14, _), (19, _), (20, _), (21, _)] ⟨rfl, rfl, rfl, rfl, rfl, rfl, rfl, rfl, trivial⟩ ?_)
      | (refine ok_region (i := 8) ?_; refine ok_p rfl rfl rfl (by exact ps_move rfl rfl) ?_; refine ok_p rfl rfl rfl (by exact ps_indexAE rfl rfl rfl (by have := HG.out k (by omega) j (by omega); omega) (isw_ga _)) ?_; refine ok_m_ rfl rfl (by exact ms_setA (α := Bool) 1 true rfl rfl rfl rfl rfl rfl rfl rfl (by have := HG.out k (by omega) j (by omega); omega)) ?_; rintro y_ hy_; refine ok_nil ?_; refine ok_env [(3, _), (12, _), (13, _), (14, _), (19, _), (20, _), (21, _)] ⟨rfl, rfl, rfl, rfl, rfl, rfl, rfl, trivial⟩ ?_)
      | (refine ok_region (i := 9) ?_; refine ok_p rfl rfl rfl (by exact ps_add rfl rfl rfl (by omega)) ?_; refine ok_p rfl rfl rfl (by exact ps_move rfl rfl) ?_; refine ok_nil ?_; refine ok_env [(3, _), (12, _), (13, _), (14, _), (19, _), (20, _), (21, _)] ⟨rfl, rfl, rfl, rfl, rfl, rfl, rfl, trivial⟩ ?_)
      | (refine ok_region (i := 10) ?_; refine ok_p rfl rfl rfl (by exact ps_add rfl rfl rfl (by omega)) ?_; refine ok_p rfl rfl rfl (by exact ps_move rfl rfl) ?_; refine ok_nil ?_; refine ok_env [(3, _), (12, _), (13, _), (14, _)] ⟨rfl, rfl, rfl, rfl, trivial⟩ ?_))
    · refine fun a w' he hw => ⟨⟨j + 1, by omega⟩, by simp only; omega, he.sub ⟨rfl, rfl, rfl, rfl, rfl, rfl, rfl, trivial⟩, ?_⟩
      simp only
      rw [HJ.out (by omega)]
      exact hw
    · refine fun a w' he hw => ⟨⟨k + 1, by omega⟩, by simp only; omega, he.sub ⟨rfl, rfl, rfl, rfl, trivial⟩, ?_⟩
      simp only
      rw [HL.out (by omega), ← HV.out (by omega)]
      exact hw.tl
  obtain rfl : k = R.length := by omega
  rw [HM.out rfl] at hml ⊢
  generalize markAll noF (dats R) = U2 at HU hml ⊢
  refine ok_loop (ι := FrI) (fun q => 24 - q.k) (fun q => ([(8, .slice q.A (freeK (dats R) q.k).length q.c), (29, .agg (fl U2).toArray), (30, .int .i64 q.k)], [.row 3 1 q.A (freeK (dats R) q.k).length q.c (fl (freeK (dats R) q.k)), _, _], _)) ⟨0, none, 0, by omega⟩ (fun a w he hw => ⟨⟨0, none, 0, by omega⟩, he.sub ⟨rfl, rfl, rfl, trivial⟩, hw.rowNil 3 1⟩) ?_
  rintro ⟨k, A2, c2, hk⟩
  simp only at hk ⊢
  have hks := freeK_succ (dats R) k
  have hkl : (freeK (dats R) k).length ≤ k := by unfold freeK; rw [List.length_map]; exact Nat.le_trans (List.length_filter_le _ _) (by rw [List.length_range]; exact Nat.le_refl _)
  have hku := fun h => HU.out k h
  have HK := Lib.hid hku; clear hku
  have hke : k = 24 → freeK (dats R) k = freeF (dats R) := fun h => by subst h; rfl
  have HE := Lib.hid hke; clear hke
  have HS := Lib.hid hks; clear hks
  generalize freeK (dats R) k = L at HS hkl HE ⊢
  repeat' (first
    | refine ok_seq ?_
    | refine ok_then ?_
    | refine ok_block ?_
    | refine ok_in_normal ?_
    | (refine ok_cond rfl (fun hc => ?_) (fun hc => ?_) <;> (have hd := hc; (try simp only [decide_eq_true_eq, decide_eq_false_iff_not, Bool.or_eq_true, Bool.or_eq_false_iff, Bool.and_eq_true, Bool.and_eq_false_iff, Bool.not_eq_true', Bool.not_eq_false', bne_iff_ne, beq_iff_eq, bne_eq_false_iff_eq, beq_eq_false_iff_ne, ne_eq, Bool.not_true, Bool.not_false, Bool.false_eq_true, Bool.true_eq_false, inB_true, inB_false] at hd)))
    | refine ok_ret ?_
    | refine ok_exit ?_
    | refine ok_skip ?_
    | (refine ok_region (i := 13) ?_; refine ok_p rfl rfl rfl (by exact ps_int rfl rfl rfl rfl) ?_; refine ok_nil ?_; refine ok_env [(8, _), (29, _), (30, _), (31, _)] ⟨rfl, rfl, rfl, rfl, trivial⟩ ?_)
    | (refine ok_region (i := 14) ?_; refine ok_p rfl rfl rfl (by exact ps_move rfl rfl) ?_; refine ok_p rfl rfl rfl (by exact ps_indexV (α := Bool) (L := U2) (u := .bool (nth U2 k)) rfl rfl rfl (by omega) hml rfl rfl) ?_; refine ok_p rfl rfl rfl (by exact ps_assign rfl rfl) ?_; refine ok_p rfl rfl rfl (by exact ps_assign rfl rfl) ?_; refine ok_nil ?_; refine ok_env [(8, _), (9, _), (10, _), (29, _), (30, _)] ⟨rfl, rfl, rfl, rfl, rfl, trivial⟩ ?_)
    | (refine ok_region (i := 15) ?_; refine ok_p rfl rfl rfl (by exact ps_move rfl rfl) ?_; refine ok_p rfl rfl rfl (by exact ps_not rfl rfl) ?_; refine ok_nil ?_; refine ok_env [(8, _), (9, _), (29, _), (30, _), (35, _)] ⟨rfl, rfl, rfl, rfl, rfl, trivial⟩ ?_)
    | (refine ok_region (i := 16) ?_; refine ok_p rfl rfl rfl (by exact ps_move rfl rfl) ?_; refine ok_p rfl rfl rfl (by exact ps_move rfl rfl) ?_; refine ok_m rfl rfl rfl (by exact ms_lit rfl (parts_cons rfl parts_nil) rfl rfl rfl) ?_; rintro y38 hy38; refine ok_m rfl rfl rfl (by exact ms_appF (α := Int) (L := L) (M := [(k : Int)]) 1 rfl rfl rfl rfl (rds_row 0 rfl) rfl (by simp; omega) (by simp; omega)) ?_; rintro y39 hy39; refine ok_p rfl rfl rfl (by exact ps_assign rfl rfl) ?_; refine ok_nil ?_; refine ok_env [(8, _), (29, _), (30, _)] ⟨rfl, rfl, rfl, trivial⟩ ?_)
    | (refine ok_region (i := 17) ?_; refine ok_p rfl rfl rfl (by exact ps_add rfl rfl rfl (by omega)) ?_; refine ok_p rfl rfl rfl (by exact ps_move rfl rfl) ?_; refine ok_nil ?_; refine ok_env [(8, _), (29, _), (30, _)] ⟨rfl, rfl, rfl, trivial⟩ ?_)
    | (refine ok_region (i := 18) ?_; refine ok_p rfl rfl rfl (by exact ps_move rfl rfl) ?_; refine ok_p rfl rfl rfl (by exact ps_assign rfl rfl) ?_; refine ok_nil ?_; refine ok_env [(2, _)] ⟨rfl, trivial⟩ ?_))
  · refine fun a w' he hw => ⟨⟨k + 1, (y39 0).A, (y39 0).c, by omega⟩, by simp only; omega, ?_, ?_⟩
    · have e := HS.out
      rw [← HK.out (by omega), hd, if_neg (by decide)] at e
      simp only
      rw [e, List.length_append]
      exact he.sub ⟨rfl, rfl, rfl, trivial⟩
    · have e := HS.out
      rw [← HK.out (by omega), hd, if_neg (by decide)] at e
      simp only
      rw [e, List.length_append]
      exact hw.tl
  · refine fun a w' he hw => ⟨⟨k + 1, A2, c2, by omega⟩, by simp only; omega, ?_, ?_⟩
    · have e := HS.out
      rw [← HK.out (by omega), hd, if_pos rfl, List.append_nil] at e
      simp only
      rw [e]
      exact he.sub ⟨rfl, rfl, rfl, trivial⟩
    · have e := HS.out
      rw [← HK.out (by omega), hd, if_pos rfl, List.append_nil] at e
      simp only
      rw [e]
      exact hw
  · rw [← HE.out (by omega)]
    exact ok_endL (vs := [_]) rfl ⟨rfl, trivial⟩ (fun w' hw => ⟨mkY A2 c2 w', rfl, trivial, hw.below, NewOk.of (hw.sel [0] (by decide) rfl (G' := []) (fun _ h => by cases h))⟩)
theorem own_used {R : List LF} {k b i : Nat} (hk : k < R.length) (hi : i < (nth R k).d.bl.length) (e : nth (nth R k).d.bl i = (b : Int)) : usedF (dats R) b = true :=
  (used_iff _ _).2 ⟨(nth R k).d, List.mem_map.2 ⟨_, nth_mem R k hk, rfl⟩, by rw [← e]; exact nth_mem _ _ hi⟩
theorem own_free {R : List LF} {b : Nat} (h : ∀ k, k < R.length → ∀ j, j < (nth R k).d.bl.length → nth (nth R k).d.bl j ≠ (b : Int)) : usedF (dats R) b = false := by
  cases hu : usedF (dats R) b with
  | false => rfl
  | true =>
    obtain ⟨f, hf, hb⟩ := (used_iff _ _).1 hu
    obtain ⟨l, hl, rfl⟩ := List.mem_map.1 hf
    obtain ⟨k, hk, hkl⟩ := List.getElem_of_mem hl
    obtain ⟨j, hj, e⟩ := List.getElem_of_mem hb
    have hn : nth R k = l := by rw [nthL R k hk, hkl]
    exact absurd (by rw [hn]; simp only [nth, List.getD_eq_getElem?_getD, List.getElem?_eq_getElem hj, Option.getD_some]; exact e) (h k hk j (by rw [hn]; exact hj))
theorem s_owner_c (v0 : Value) (A' : Option Addr) (n c' : Nat) (R : List LF) (b : Nat) (w : World) (h2 : RdN w A' R) (hn : R.length = n) (hl : n ≤ 6) (h24 : ∀ k, k < n → (nth R k).d.bl.length ≤ 24) (h1 : v0.oneCell' = true) :
    Calls Try.prog 26 #[.agg #[v0, .slice A' n c'], .int .i64 b] w fun e w' => ∃ y : Ys, e = .returned (.int .i64 (y 0).n) ∧ ((y 0).n < 0 ↔ usedF (dats R) b = false) ∧ Below w.heap.size w w' ∧ NewOk w.heap.size [] [] w' := by
  subst hn
  obtain ⟨q1, q2⟩ := h2
  have q2 : ∀ k, k < R.length → Rd w (nth R k).A (fl (nth R k).d.bl) := q2
  have Q2 := Lib.hid q2; clear q2
  have H24 := Lib.hid h24; clear h24
  refine ok_enter 37 Try.func26 rfl rfl rfl ?_
  repeat' (first
    | refine ok_seq ?_
    | refine ok_then ?_
    | refine ok_block ?_
    | (refine ok_region (i := 0) ?_; refine ok_m rfl rfl rfl (by exact ms_box rfl rfl rfl) ?_; rintro y2 hy2; refine ok_p rfl rfl rfl (by exact ps_assign rfl rfl) ?_; refine ok_nil ?_; refine ok_env [(1, _), (2, _)] ⟨rfl, rfl, trivial⟩ ?_)
    | (refine ok_region (i := 1) ?_; refine ok_p rfl rfl rfl (by exact ps_assign rfl rfl) ?_; refine ok_nil ?_; refine ok_env [(1, _), (2, _), (5, _)] ⟨rfl, rfl, rfl, trivial⟩ ?_))
  refine ok_loop (ι := { k : Nat // k ≤ R.length ∧ ∀ i, i < k → ∀ j, j < (nth R i).d.bl.length → nth (nth R i).d.bl j ≠ (b : Int) }) (fun k => R.length - k.1) (fun k => ([(1, .int .i64 b), (2, pt (ga (y2 0).c) 0), (5, .int .i64 k.1)], _, _)) ⟨0, Nat.zero_le _, fun i h => absurd h (Nat.not_lt_zero i)⟩ (fun a w he hw => ⟨⟨0, Nat.zero_le _, fun i h => absurd h (Nat.not_lt_zero i)⟩, he.sub ⟨rfl, rfl, rfl, trivial⟩, hw⟩) ?_
  rintro ⟨k, hk, ho⟩
  simp only at hk ho ⊢
  have HO := Lib.hid ho; clear ho
  repeat' (first
    | refine ok_seq ?_
    | refine ok_then ?_
    | refine ok_block ?_
    | (refine ok_cond rfl (fun hc => ?_) (fun hc => ?_) <;> (have hd := hc; (try simp only [decide_eq_true_eq, decide_eq_false_iff_not, Bool.or_eq_true, Bool.or_eq_false_iff, Bool.and_eq_true, Bool.and_eq_false_iff, Bool.not_eq_true', Bool.not_eq_false', bne_iff_ne, beq_iff_eq, bne_eq_false_iff_eq, beq_eq_false_iff_ne, ne_eq, Bool.not_true, Bool.not_false, Bool.false_eq_true, Bool.true_eq_false, inB_true, inB_false] at hd)))
    | refine ok_ret ?_
    | refine ok_exit ?_
    | refine ok_skip ?_
    | (refine ok_region (i := 2) ?_; refine ok_p rfl rfl rfl (by exact ps_move rfl rfl) ?_; refine ok_p rfl rfl rfl (by exact ps_field rfl rfl (by exact isw_ga _)) ?_; refine ok_p rfl rfl rfl (by exact ps_load rfl rfl (by exact Rds.cell (rds_box 0 rfl) rfl)) ?_; refine ok_p rfl rfl rfl (by exact ps_len rfl rfl) ?_; refine ok_p rfl rfl rfl (by exact ps_int rfl rfl rfl rfl) ?_; refine ok_nil ?_; refine ok_env [(1, _), (2, _), (5, _), (11, _)] ⟨rfl, rfl, rfl, rfl, trivial⟩ ?_)
    | (refine ok_region (i := 4) ?_; refine ok_p rfl rfl rfl (by exact ps_assign rfl rfl) ?_; refine ok_nil ?_; refine ok_env [(1, _), (2, _), (5, _), (6, _)] ⟨rfl, rfl, rfl, rfl, trivial⟩ ?_)
    | (refine ok_region (i := 9) ?_; refine ok_p rfl rfl rfl (by exact ps_assign rfl rfl) ?_; refine ok_nil ?_; refine ok_env [(4, _)] ⟨rfl, trivial⟩ ?_))
  · refine ok_loop (ι := { m : Nat // m ≤ (nth R k).d.bl.length ∧ ∀ j, j < m → nth (nth R k).d.bl j ≠ (b : Int) }) (fun m => (nth R k).d.bl.length - m.1) (fun m => ([(1, .int .i64 b), (2, pt (ga (y2 0).c) 0), (5, .int .i64 k), (6, .int .i64 m.1)], _, _)) ⟨0, Nat.zero_le _, fun i h => absurd h (Nat.not_lt_zero i)⟩ (fun a w he hw => ⟨⟨0, Nat.zero_le _, fun i h => absurd h (Nat.not_lt_zero i)⟩, he.sub ⟨rfl, rfl, rfl, rfl, trivial⟩, hw⟩) ?_
    rintro ⟨m, hm, hi⟩
    simp only at hm hi ⊢
    have HI := Lib.hid hi; clear hi
    have hl24 := H24.out k (by omega)
    have hkR : k < R.length := by omega
    have q3 := Q2.out k hkR
    have hin : (In.inn (nth R k).d).length = (nth R k).d.bl.length := rfl
    repeat' (first
      | refine ok_seq ?_
      | refine ok_then ?_
      | refine ok_then_ret ?_
      | refine ok_then_exit ?_
      | refine ok_block ?_
      | refine ok_in_normal ?_
      | refine ok_in_ret ?_
      | refine ok_in_exit ?_
      | (refine ok_cond rfl (fun hc => ?_) (fun hc => ?_) <;> (have hd := hc; (try simp only [decide_eq_true_eq, decide_eq_false_iff_not, Bool.or_eq_true, Bool.or_eq_false_iff, Bool.and_eq_true, Bool.and_eq_false_iff, Bool.not_eq_true', Bool.not_eq_false', bne_iff_ne, beq_iff_eq, bne_eq_false_iff_eq, beq_eq_false_iff_ne, ne_eq, Bool.not_true, Bool.not_false, Bool.false_eq_true, Bool.true_eq_false, inB_true, inB_false] at hd)))
      | refine ok_ret ?_
      | refine ok_exit ?_
      | refine ok_skip ?_
      | (refine ok_region (i := 3) ?_; refine ok_p rfl rfl rfl (by exact ps_move rfl rfl) ?_; refine ok_p rfl rfl rfl (by exact ps_add rfl rfl rfl (by omega)) ?_; refine ok_p rfl rfl rfl (by exact ps_assign rfl rfl) ?_; refine ok_nil ?_; refine ok_env [(1, _), (2, _), (5, _)] ⟨rfl, rfl, rfl, trivial⟩ ?_)
      | (refine ok_region (i := 5) ?_; refine ok_p rfl rfl rfl (by exact ps_move rfl rfl) ?_; refine ok_p rfl rfl rfl (by exact ps_field rfl rfl (by exact isw_ga _)) ?_; refine ok_p rfl rfl rfl (by exact ps_load rfl rfl (by exact Rds.cell (rds_box 0 rfl) rfl)) ?_; refine ok_p rfl rfl rfl (by exact ps_move rfl rfl) ?_; refine ok_p rfl rfl rfl (by exact ps_indexN rfl rfl rfl (by omega) (by exact isw_of (isS_fl (by assumption) (by omega)))) ?_; refine ok_p rfl rfl rfl (by exact ps_field rfl rfl (by exact isw_of (isS_fl (by assumption) (by omega)))) ?_; refine ok_p rfl rfl rfl (by exact ps_load rfl rfl (by exact Rds.cell (rds_rf (by assumption) (by exact List.mem_cons_self)) (by exact fl_at _ _ _ (by omega) (by decide)))) ?_; refine ok_p rfl rfl rfl (by exact ps_len rfl rfl) ?_; refine ok_p rfl rfl rfl (by exact ps_int rfl rfl rfl rfl) ?_; refine ok_nil ?_; refine ok_env [(1, _), (2, _), (5, _), (6, _), (22, _)] ⟨rfl, rfl, rfl, rfl, rfl, trivial⟩ ?_)
      | (refine ok_region (i := 6) ?_; refine ok_p rfl rfl rfl (by exact ps_move rfl rfl) ?_; refine ok_p rfl rfl rfl (by exact ps_add rfl rfl rfl (by omega)) ?_; refine ok_p rfl rfl rfl (by exact ps_assign rfl rfl) ?_; refine ok_nil ?_; refine ok_env [(1, _), (2, _), (5, _), (6, _)] ⟨rfl, rfl, rfl, rfl, trivial⟩ ?_)
      | (refine ok_region (i := 7) ?_; refine ok_p rfl rfl rfl (by exact ps_field rfl rfl (by exact isw_ga _)) ?_; refine ok_p rfl rfl rfl (by exact ps_load rfl rfl (by exact Rds.cell (rds_box 0 rfl) rfl)) ?_; refine ok_p rfl rfl rfl (by exact ps_move rfl rfl) ?_; refine ok_p rfl rfl rfl (by exact ps_indexN rfl rfl rfl (by omega) (by exact isw_of (isS_fl (by assumption) (by omega)))) ?_; refine ok_p rfl rfl rfl (by exact ps_field rfl rfl (by exact isw_of (isS_fl (by assumption) (by omega)))) ?_; refine ok_p rfl rfl rfl (by exact ps_load rfl rfl (by exact Rds.cell (rds_rf (by assumption) (by exact List.mem_cons_self)) (by exact fl_at _ _ _ (by omega) (by decide)))) ?_; refine ok_p rfl rfl rfl (by exact ps_move rfl rfl) ?_; refine ok_p rfl rfl rfl (by exact ps_indexN rfl rfl rfl (by omega) (by exact isw_of (isS_fl (by assumption) (by omega)))) ?_; refine ok_p rfl rfl rfl (by exact ps_load rfl rfl (Rds.cell (rds_rf q3 (by exact List.mem_cons_self)) (fl_at0 (nth R k).d.bl m (by omega) (by decide)))) ?_; refine ok_p rfl rfl rfl (by exact ps_move rfl rfl) ?_; refine ok_p rfl rfl rfl (by exact ps_int rfl rfl rfl rfl) ?_; refine ok_nil ?_; refine ok_env [(1, _), (2, _), (5, _), (6, _), (35, _)] ⟨rfl, rfl, rfl, rfl, rfl, trivial⟩ ?_)
      | (refine ok_region (i := 8) ?_; refine ok_p rfl rfl rfl (by exact ps_move rfl rfl) ?_; refine ok_p rfl rfl rfl (by exact ps_assign rfl rfl) ?_; refine ok_nil ?_; refine ok_env [(4, _)] ⟨rfl, trivial⟩ ?_))
    · have hu : usedF (dats R) b = true := own_used hkR (i := m) (by omega) hd
      exact ok_endL (vs := [_]) rfl ⟨rfl, trivial⟩ (fun w' hw => ⟨mkN (k : Int) w, rfl, by rw [hu]; simp [mkN], hw.below, NewOk.nil _ _⟩)
    · exact fun a w' he hw => ⟨⟨m + 1, by omega, fun j hj => by
        rcases Nat.lt_succ_iff_lt_or_eq.1 hj with h' | h'
        · exact HI.out j h'
        · subst h'; exact hd⟩, by simp only; omega, he.sub ⟨rfl, rfl, rfl, rfl, trivial⟩, hw⟩
    · exact fun a w' he hw => ⟨⟨k + 1, by omega, fun i hi => by
        rcases Nat.lt_succ_iff_lt_or_eq.1 hi with h' | h'
        · exact HO.out i h'
        · subst h'; exact fun j hj => HI.out j (by omega)⟩, by simp only; omega, he.sub ⟨rfl, rfl, rfl, trivial⟩, hw⟩
  · have hu : usedF (dats R) b = false := own_free (fun i hi j hj => HO.out i (by omega) j hj)
    exact ok_endL (vs := [_]) rfl ⟨rfl, trivial⟩ (fun w' hw => ⟨mkN (-1) w, rfl, by rw [hu]; simp [mkN], hw.below, NewOk.nil _ _⟩)
end Go.Proofs.Ytojgphgfhapacaa
/- FsAppend of both programs. -/
namespace Go.Proofs.Ytojgphgfhapacaa
open Go.RowKit
set_option maxHeartbeats 4000000
set_option maxRecDepth 20000
set_option linter.unusedVariables false
set_option linter.unusedSimpArgs false
attribute [local irreducible] Calls
theorem WOk.bagSwap {α β : Type} [Dat β] [In α β] {base : Nat} {w0 w : World} {H : List HObj} {G : List World} {e sz n : Nat} {us : List Value} {R : List (Lc α)} (k : Nat) (l : Lc α) (hk : k < R.length) (hn : n = (In.inn l.d).length) (hu : us = fl (In.inn l.d)) (hw : WOk base w0 (.row e sz l.A n l.c us :: .bag e sz (rowsOf R) :: H) G w) : WOk base w0 (.bag e sz (rowsOf (R.set k l)) :: H) G w := by
  subst hn; subst hu
  have h1 := (hw.front 1 rfl).bagPull k hk
  have h2 := (h1.tl).front 1 rfl
  exact WOk.bagPush k l hk h2
theorem nth_setL {R : List LF} {k : Nat} (hk : k < R.length) (l : LF) : nth (R.set k l) k = l := nth_set R k l hk
theorem ms_appBagL {P : Program} {E : Env} {H : List HObj} {G : List World} {o : Oper} {α β : Type} [Dat β] [OneC β] [In α β] {t e sz bytes c2 n m : Nat} {A2 : Option Addr} {x y : Operand} {R : List (Lc α)} (M : List β) (i k : Nat) (d' : α) [ht : EL P t e sz bytes] (ho : o.op = .call { callee := .builtin .append, args := #[x, y], argTypes := #[t, t] })
    (hx : opd E x = some (.slice (nth R k).A n (nth R k).c)) (hy : opd E y = some (.slice A2 m c2)) (hi : H[i]? = some (.bag e sz (rowsOf R))) (hr : Rds (H.eraseIdx i) G A2 (fl M)) (hs : Dat.sz β = sz) (hk : k < R.length) (hn : (In.inn (nth R k).d).length = n) (hm : M.length = m)
    (hd : In.inn d' = In.inn (nth R k).d ++ M) (hb : (n + m) * bytes ≤ 140737488355328) (hm2 : n + m ≤ 140737488355328) :
    MStep P E H G o (fun _ => True) (fun y => .slice (y 0).A (In.inn d').length (y 0).c) (fun y => H.set i (.bag e sz (rowsOf (R.set k ⟨d', (y 0).A, (y 0).c⟩)))) (fun _ => G) := by
  have h := ms_appBag (A := none) (c := 0) (P := P) (E := E) (H := H) (G := G) (o := o) M i k d' ho hx hy hi hr hs hk hn hm hd hb hm2
  have e1 : (In.inn d').length = n + m := by rw [hd, List.length_append, hn, hm]
  rw [e1]; exact h
/-- The row of files with one of them written. -/
theorem i_FsAppend0 (A : Option Addr) (c : Nat) (B : List ByteArray) (A' : Option Addr) (c' : Nat) (R : List LF) (no : Int) (text : ByteArray) (w : World) (h1 : Rd w A (fl B)) (h2 : RdN w A' R) (hl : B.length ≤ 4194304) (hl2 : R.length ≤ 4194304) (hl3 : ∀ x ∈ dats R, x.bl.length ≤ 4194304) (ht : text.size ≤ 1048576) :
    Calls Try.prog 6 #[.agg #[.slice A B.length c, .slice A' R.length c'], .int .i64 no, .string text] w fun e w' => ∃ y : Ys, e = .returned (.tuple #[FStore_val (fFsAppend ⟨B, dats R⟩ no text).1 y, .bool (fFsAppend ⟨B, dats R⟩ no text).2]) ∧ True ∧ Below w.heap.size w w' ∧ NewOk w.heap.size (FStore_obj (fFsAppend ⟨B, dats R⟩ no text).1 y) [] w' := by
  obtain ⟨q1, q2⟩ := h2
  have q2 : ∀ k, k < R.length → Rd w (nth R k).A (fl (nth R k).d.bl) := q2
  have Q2 := Lib.hid q2; clear q2
  have HL := Lib.hid hl3; clear hl3
  refine ok_enter 131 Try.func6 rfl rfl rfl ?_
  repeat' (first
    | refine ok_seq ?_
    | refine ok_then ?_
    | refine ok_then_ret ?_
    | (refine ok_cond rfl (fun hc => ?_) (fun hc => ?_) <;> (have hd := hc; (try simp only [decide_eq_true_eq, decide_eq_false_iff_not, Bool.or_eq_true, Bool.or_eq_false_iff, Bool.and_eq_true, Bool.and_eq_false_iff, Bool.not_eq_true', Bool.not_eq_false', bne_iff_ne, beq_iff_eq, bne_eq_false_iff_eq, beq_eq_false_iff_ne, ne_eq, Bool.not_true, Bool.not_false, Bool.false_eq_true, Bool.true_eq_false, inB_true, inB_false] at hd)))
    | refine ok_ret ?_
    | refine ok_skip ?_
    | (refine ok_region (i := 0) ?_; refine ok_m rfl rfl rfl (by exact ms_box rfl rfl rfl) ?_; rintro y3 hy3; refine ok_m rfl rfl rfl (by exact ms_alloc rfl) ?_; rintro y6 hy6; refine ok_p rfl rfl rfl (by exact ps_assign rfl rfl) ?_; refine ok_nil ?_; refine ok_env [(1, _), (2, _), (3, _), (6, _)] ⟨rfl, rfl, rfl, rfl, trivial⟩ ?_)
    | (refine ok_region (i := 1) ?_; refine ok_p rfl rfl rfl (by exact ps_loads rfl rfl (by exact rds_box 1 rfl) rfl rfl (by decide)) ?_; refine ok_m rfl rfl rfl (by exact ms_s1 rfl rfl (fun _ _ w hw => i_FsOk0 A c B A' c' R w (rds_rf h1 (by exact List.mem_cons_self) _ _ w hw) (RdN.keep hw ⟨q1, Q2.out⟩ (by exact List.mem_cons_self)) hl hl2 HL.out)) ?_; rintro y17 hy17; refine ok_p rfl rfl rfl (by exact ps_not rfl rfl) ?_; refine ok_nil ?_; refine ok_env [(1, _), (2, _), (3, _), (6, _), (18, _)] ⟨rfl, rfl, rfl, rfl, rfl, trivial⟩ ?_)
    | (refine ok_region (i := 2) ?_; refine ok_p rfl rfl rfl (by exact ps_bld rfl parts_nil rfl) ?_; refine ok_m_ rfl rfl (by exact ms_store 0 rfl rfl rfl rfl rfl rfl rfl rfl) ?_; rintro y_ hy_; refine ok_p rfl rfl rfl (by exact ps_assign rfl rfl) ?_; refine ok_nil ?_; refine ok_env [(6, _), (7, _)] ⟨rfl, rfl, trivial⟩ ?_))
  · rw [fil_bad hd]
    exact ok_endL (vs := [_, _]) rfl ⟨⟨_, 0, _, _, _, rfl, rfl, inferInstance, rfl, rfl⟩, rfl, trivial⟩ (fun w' hw => ⟨mkY none 0 w', rfl, trivial, hw.below, fsN_no hw⟩)
  have hok : fFsOk ⟨B, dats R⟩ = true := hd
  have g := (fs_good _).1 hok
  have hst := fun h => fapp_stop (x := ⟨B, dats R⟩) hok (no := no) (text := text) h
  have hye := fun h0 h1 h2 => fapp_yes (x := ⟨B, dats R⟩) hok (no := no) (text := text) h0 h1 h2
  simp only at hst hye
  obtain ⟨z1, z2⟩ := atI_rng R no
  have hB : B.length = 24 := g.hB
  have hR : R.length ≤ 6 := by have := g.hF; rw [dats_len] at this; exact this
  clear hc hd
  refine ok_region (i := 3) ?_
  refine ok_p rfl rfl rfl (by exact ps_loads rfl rfl (by exact rds_box 1 rfl) rfl rfl (by decide)) ?_
  refine ok_m rfl rfl rfl (by exact ms_c1 rfl rfl (fun _ _ w hw => i_copy_o A c B A' c' R w (rds_rf h1 (by exact List.mem_cons_self) _ _ w hw) (RdN.keep hw ⟨q1, Q2.out⟩ (by exact List.mem_cons_self)) hl hl2 HL.out)) ?_
  rintro y21 hy21
  refine ok_m rfl rfl rfl (by exact ms_alloc rfl) ?_
  rintro y8 hy8
  refine ok_m_ rfl rfl (by exact ms_store 0 rfl rfl rfl rfl rfl rfl rfl rfl) ?_
  rintro y_ hy_
  refine ok_nil ?_
  refine ok_env [(1, _), (2, _), (3, _), (6, _), (8, _)] ⟨rfl, rfl, rfl, rfl, rfl, trivial⟩ ?_
  obtain ⟨sd, sl⟩ := S_facts R y21
  generalize locs 2 (dats R) y21 = S at sd sl ⊢
  refine ok_then ?_
  refine ok_seq ?_
  refine ok_region (i := 4) ?_
  refine ok_p rfl rfl rfl (by exact ps_loads rfl rfl (by exact rds_box 5 rfl) rfl rfl (by decide)) ?_
  refine ok_p rfl rfl rfl (by exact ps_move rfl rfl) ?_
  refine ok_m rfl rfl rfl (by exact ms_s2 rfl rfl rfl (fun _ _ w hw => i_ffileAt_c _ A' c' R no w (rds_rf q1 (by exact List.mem_cons_self) _ _ w hw) hl2 rfl)) ?_
  rintro y24 hy24
  refine ok_p rfl rfl rfl (by exact ps_assign rfl rfl) ?_
  refine ok_nil ?_
  refine ok_env [(2, _), (3, _), (6, _), (8, _), (9, _)] ⟨rfl, rfl, rfl, rfl, rfl, trivial⟩ ?_
  generalize hz : atI (dats R) no = z at z1 z2 hst hye ⊢
  have hfa : ¬ z < 0 → fileAt (dats R) z.toNat = (nth R z.toNat).d := fun h => by
    exact fileAt_nth R _ (by omega)
  have HA := Lib.hid hfa; clear hfa
  have HT := Lib.hid hst; clear hst
  have HY := Lib.hid hye; clear hye
  have hnb : ∀ k, k < R.length → (nth R k).d.bl.length ≤ 24 ∧ 0 ≤ (nth R k).d.ln ∧ (nth R k).d.ln ≤ 192 := fun k hk => by
    have hm : (nth R k).d ∈ dats R := List.mem_map.2 ⟨_, nth_mem R k hk, rfl⟩
    have h0 := g.hf _ hm
    unfold fileOk0 at h0
    simp only [Bool.and_eq_true, inB_true, decide_eq_true_eq] at h0
    exact ⟨good_24 g hm, by omega, by omega⟩
  have HN := Lib.hid hnb; clear hnb
  have hns : ∀ k, k < S.length → (nth S k).d = (nth R k).d := fun k hk => datsF_nth sd k (by omega)
  have HS := Lib.hid hns; clear hns
  have hfl : (freeF (dats R)).length ≤ 24 := by unfold freeF; rw [List.length_map]; exact Nat.le_trans (List.length_filter_le _ _) (by rw [List.length_range]; exact Nat.le_refl _)
  repeat' (first
    | refine ok_seq ?_
    | refine ok_then ?_
    | refine ok_then_ret ?_
    | (refine ok_cond rfl (fun hc => ?_) (fun hc => ?_) <;> (have hd := hc; (try simp only [decide_eq_true_eq, decide_eq_false_iff_not, Bool.or_eq_true, Bool.or_eq_false_iff, Bool.and_eq_true, Bool.and_eq_false_iff, Bool.not_eq_true', Bool.not_eq_false', bne_iff_ne, beq_iff_eq, bne_eq_false_iff_eq, beq_eq_false_iff_ne, ne_eq, Bool.not_true, Bool.not_false, Bool.false_eq_true, Bool.true_eq_false, inB_true, inB_false] at hd)))
    | refine ok_ret ?_
    | refine ok_skip ?_
    | (refine ok_region (i := 5) ?_; refine ok_p rfl rfl rfl (by exact ps_move rfl rfl) ?_; refine ok_p rfl rfl rfl (by exact ps_int rfl rfl rfl rfl) ?_; refine ok_p rfl rfl rfl (by exact ps_move rfl rfl) ?_; refine ok_pg rfl rfl rfl rfl rfl (gF _) (fun hp => by (have hpd := hp; (try simp only [decide_eq_true_eq, decide_eq_false_iff_not, Bool.or_eq_true, Bool.or_eq_false_iff, Bool.and_eq_true, Bool.and_eq_false_iff, Bool.not_eq_true', Bool.not_eq_false', bne_iff_ne, beq_iff_eq, bne_eq_false_iff_eq, beq_eq_false_iff_ne, ne_eq, Bool.not_true, Bool.not_false, Bool.false_eq_true, Bool.true_eq_false, inB_true, inB_false] at hpd); exact ps_field rfl (by exact rfl) (by exact isw_ga _))) ?_; refine ok_pg rfl rfl rfl rfl rfl (gF _) (fun hp => by (have hpd := hp; (try simp only [decide_eq_true_eq, decide_eq_false_iff_not, Bool.or_eq_true, Bool.or_eq_false_iff, Bool.and_eq_true, Bool.and_eq_false_iff, Bool.not_eq_true', Bool.not_eq_false', bne_iff_ne, beq_iff_eq, bne_eq_false_iff_eq, beq_eq_false_iff_ne, ne_eq, Bool.not_true, Bool.not_false, Bool.false_eq_true, Bool.true_eq_false, inB_true, inB_false] at hpd); exact ps_load rfl (by (refine og rfl ?_; assumption)) (by exact Rds.cell (rds_box 5 rfl) rfl))) ?_; refine ok_pg rfl rfl rfl rfl rfl (gF _) (fun hp => by (have hpd := hp; (try simp only [decide_eq_true_eq, decide_eq_false_iff_not, Bool.or_eq_true, Bool.or_eq_false_iff, Bool.and_eq_true, Bool.and_eq_false_iff, Bool.not_eq_true', Bool.not_eq_false', bne_iff_ne, beq_iff_eq, bne_eq_false_iff_eq, beq_eq_false_iff_ne, ne_eq, Bool.not_true, Bool.not_false, Bool.false_eq_true, Bool.true_eq_false, inB_true, inB_false] at hpd); exact ps_move rfl (by exact rfl))) ?_; refine ok_pg rfl rfl rfl rfl rfl (gF _) (fun hp => by (have hpd := hp; (try simp only [decide_eq_true_eq, decide_eq_false_iff_not, Bool.or_eq_true, Bool.or_eq_false_iff, Bool.and_eq_true, Bool.and_eq_false_iff, Bool.not_eq_true', Bool.not_eq_false', bne_iff_ne, beq_iff_eq, bne_eq_false_iff_eq, beq_eq_false_iff_ne, ne_eq, Bool.not_true, Bool.not_false, Bool.false_eq_true, Bool.true_eq_false, inB_true, inB_false] at hpd); exact ps_index rfl (by (refine og rfl ?_; assumption)) (by (refine og rfl ?_; assumption)) ⟨by omega, by omega⟩ (isw_of (isS_fl q1 (by omega))))) ?_; refine ok_pg rfl rfl rfl rfl rfl (gF _) (fun hp => by (have hpd := hp; (try simp only [decide_eq_true_eq, decide_eq_false_iff_not, Bool.or_eq_true, Bool.or_eq_false_iff, Bool.and_eq_true, Bool.and_eq_false_iff, Bool.not_eq_true', Bool.not_eq_false', bne_iff_ne, beq_iff_eq, bne_eq_false_iff_eq, beq_eq_false_iff_ne, ne_eq, Bool.not_true, Bool.not_false, Bool.false_eq_true, Bool.true_eq_false, inB_true, inB_false] at hpd); exact ps_field rfl (by (refine og rfl ?_; assumption)) (by exact isw_of (isS_fl (by assumption) (by omega))))) ?_; refine ok_pg rfl rfl rfl rfl rfl (gF _) (fun hp => by (have hpd := hp; (try simp only [decide_eq_true_eq, decide_eq_false_iff_not, Bool.or_eq_true, Bool.or_eq_false_iff, Bool.and_eq_true, Bool.and_eq_false_iff, Bool.not_eq_true', Bool.not_eq_false', bne_iff_ne, beq_iff_eq, bne_eq_false_iff_eq, beq_eq_false_iff_ne, ne_eq, Bool.not_true, Bool.not_false, Bool.false_eq_true, Bool.true_eq_false, inB_true, inB_false] at hpd); exact ps_load rfl (by (refine og rfl ?_; assumption)) (Rds.cell (rds_rf q1 (by exact List.mem_cons_self)) (fl_at R z.toNat 4 (by omega) (by decide))))) ?_; refine ok_p rfl rfl rfl (by exact ps_or rfl rfl rfl) ?_; refine ok_nil ?_; refine ok_env [(2, _), (3, _), (6, _), (8, _), (9, _), (34, _)] ⟨rfl, rfl, rfl, rfl, rfl, rfl, trivial⟩ ?_)
    | (refine ok_region (i := 6) ?_; refine ok_p rfl rfl rfl (by exact ps_loads rfl rfl (by exact rds_box 0 rfl) rfl rfl (by decide)) ?_; refine ok_m_ rfl rfl (by exact ms_store 4 rfl rfl rfl rfl rfl rfl rfl rfl) ?_; rintro y_ hy_; refine ok_p rfl rfl rfl (by exact ps_assign rfl rfl) ?_; refine ok_nil ?_; refine ok_env [(6, _), (7, _)] ⟨rfl, rfl, trivial⟩ ?_)
    | (refine ok_region (i := 7) ?_; refine ok_p rfl rfl rfl (by exact ps_field rfl rfl (by exact isw_ga _)) ?_; refine ok_p rfl rfl rfl (by exact ps_load rfl rfl (by exact Rds.cell (rds_box 0 rfl) rfl)) ?_; refine ok_p rfl rfl rfl (by exact ps_move rfl rfl) ?_; refine ok_p rfl rfl rfl (by exact ps_index rfl rfl rfl ⟨by omega, by omega⟩ (isw_row 2 rfl (by omega))) ?_; refine ok_p rfl rfl rfl (by exact ps_assign rfl rfl) ?_; refine ok_nil ?_; refine ok_env [(2, _), (3, _), (6, _), (8, _), (9, _), (10, _)] ⟨rfl, rfl, rfl, rfl, rfl, rfl, trivial⟩ ?_)
    | (refine ok_region (i := 8) ?_; refine ok_p rfl rfl rfl (by exact ps_loads rfl rfl (by exact rds_box 5 rfl) rfl rfl (by decide)) ?_; refine ok_m rfl rfl rfl (by exact ms_c1 rfl rfl (fun _ _ w hw => i_free_c _ A' c' B R w (RdN.keep hw ⟨q1, Q2.out⟩ (by exact List.mem_cons_self)) g rfl)) ?_; rintro y41 hy41; refine ok_p rfl rfl rfl (by exact ps_assign rfl rfl) ?_; refine ok_nil ?_; refine ok_env [(2, _), (3, _), (6, _), (8, _), (9, _), (10, _), (11, _)] ⟨rfl, rfl, rfl, rfl, rfl, rfl, rfl, trivial⟩ ?_))
  · rw [HT.out (by rcases hd with h | h; exact .inl h; by_cases hz0 : z < 0; exact .inl hz0; exact .inr (.inl (by rw [HA.out hz0]; exact h)))]
    refine ok_endL (vs := [_, _]) rfl ⟨⟨_, 4, _, _, _, rfl, rfl, inferInstance, rfl, rfl⟩, rfl, trivial⟩ (fun w' hw => ⟨fsY (y21 0).A (y21 0).c (y21 1).A (y21 1).c S w', ?_, trivial, hw.below, ?_⟩)
    · rw [← sd, fsY_val, sl]; rfl
    · rw [← sd, fsY_obj, sl]
      exact NewOk.of (hw.sel [1, 2, 3] (by decide) rfl (G' := []) (fun _ h => by cases h))
  obtain ⟨i, rfl⟩ : ∃ i : Nat, z = (i : Int) := ⟨z.toNat, by omega⟩
  simp only [Int.toNat_natCast] at hd HA HT HY ⊢
  have hi : i < S.length := by omega
  have hiR : i < R.length := by omega
  have e1 : (nth S i).d = fileAt (dats R) i := by rw [← sd]; exact (fileAt_nth S _ hi).symm
  have hSR : (nth S i).d = (nth R i).d := HS.out i hi
  have hb24 : (nth S i).d.bl.length ≤ 24 ∧ 0 ≤ (nth S i).d.ln ∧ (nth S i).d.ln ≤ 192 := by rw [hSR]; exact HN.out i hiR
  have hin : (In.inn (nth S i).d).length = (nth S i).d.bl.length := rfl
  have hsl : (fileAt (dats R) i).sl = false := by rw [HA.out (by omega)]; exact hd.2
  clear hc hd
  refine ok_capO 0 rfl (fun hcf => ?_)
  repeat' (first
    | refine ok_seq ?_
    | refine ok_then ?_
    | refine ok_then_ret ?_
    | (refine ok_cond rfl (fun hc => ?_) (fun hc => ?_) <;> (have hd := hc; (try simp only [decide_eq_true_eq, decide_eq_false_iff_not, Bool.or_eq_true, Bool.or_eq_false_iff, Bool.and_eq_true, Bool.and_eq_false_iff, Bool.not_eq_true', Bool.not_eq_false', bne_iff_ne, beq_iff_eq, bne_eq_false_iff_eq, beq_eq_false_iff_ne, ne_eq, Bool.not_true, Bool.not_false, Bool.false_eq_true, Bool.true_eq_false, inB_true, inB_false] at hd)))
    | refine ok_ret ?_
    | refine ok_skip ?_
    | (refine ok_draw (id := 9) 17 rfl (by kernel_rfl) (by kernel_rfl) rfl (by repeat (first | exact pq_body | refine pq_then ?_ | refine pq_in ?_)) [0, 1, 2, 3, 4, 5, 6, 7, 8, 9, 10, 11, 12, 13, 14, 15, 16, 17, 18, 19, 20, 21, 22, 23] (by decide) rfl ?_; refine okT_take (i := 0) rfl (by kernel_rfl) rfl rfl rfl (by exact ps_move rfl rfl) ?_; refine okT_take (i := 1) rfl (by kernel_rfl) rfl rfl rfl (by exact ps_slen rfl rfl) ?_; refine okT_take (i := 2) rfl (by kernel_rfl) rfl rfl rfl (by exact ps_move rfl rfl) ?_; refine okT_take (i := 3) rfl (by kernel_rfl) rfl rfl rfl (by exact ps_nil rfl rfl (by exact isw_row 3 rfl (by omega))) ?_; refine okT_take (i := 4) rfl (by kernel_rfl) rfl rfl rfl (by exact ps_field rfl rfl (by exact isw_row 3 rfl (by omega))) ?_; refine okT_take (i := 5) rfl (by kernel_rfl) rfl rfl rfl (by exact ps_load rfl rfl (Rds.cell (rds_row 3 rfl) (fl_at S i 2 (by omega) (by decide)))) ?_; refine okT_take (i := 6) rfl (by kernel_rfl) rfl rfl rfl (by exact ps_len rfl rfl) ?_; refine okT_take (i := 7) rfl (by kernel_rfl) rfl rfl rfl (by exact ps_move rfl rfl) ?_; refine okT_take (i := 8) rfl (by kernel_rfl) rfl rfl rfl (by exact ps_len rfl rfl) ?_; refine okT_take (i := 9) rfl (by kernel_rfl) rfl rfl rfl (by exact ps_add rfl rfl rfl (by omega)) ?_; refine okT_take (i := 10) rfl (by kernel_rfl) rfl rfl rfl (by exact ps_mul rfl rfl rfl (by omega)) ?_; refine okT_take (i := 11) rfl (by kernel_rfl) rfl rfl rfl (by exact ps_move rfl rfl) ?_; refine okT_take (i := 12) rfl (by kernel_rfl) rfl rfl rfl (by exact ps_nil rfl rfl (by exact isw_row 3 rfl (by omega))) ?_; refine okT_take (i := 13) rfl (by kernel_rfl) rfl rfl rfl (by exact ps_field rfl rfl (by exact isw_row 3 rfl (by omega))) ?_; refine okT_take (i := 14) rfl (by kernel_rfl) rfl rfl rfl (by exact ps_load rfl rfl (Rds.cell (rds_row 3 rfl) (fl_at S i 3 (by omega) (by decide)))) ?_; refine okT_take (i := 15) rfl (by kernel_rfl) rfl rfl rfl (by exact ps_sub rfl rfl rfl (by omega)) ?_; refine okT_take (i := 16) rfl (by kernel_rfl) rfl rfl rfl (by exact ps_int rfl rfl rfl rfl) ?_; refine okT_done (by kernel_rfl) ?_; refine ok_nil ?_; refine ok_env [(2, _), (3, _), (6, _), (8, _), (9, _), (10, _), (11, _), (58, _)] ⟨rfl, rfl, rfl, rfl, rfl, rfl, rfl, rfl, trivial⟩ ?_)
    | (refine ok_region (i := 10) ?_; refine ok_p rfl rfl rfl (by exact ps_loads rfl rfl (by exact rds_box 1 rfl) rfl rfl (by decide)) ?_; refine ok_m_ rfl rfl (by exact ms_store 5 rfl rfl rfl rfl rfl rfl rfl rfl) ?_; rintro y_ hy_; refine ok_p rfl rfl rfl (by exact ps_assign rfl rfl) ?_; refine ok_nil ?_; refine ok_env [(6, _), (7, _)] ⟨rfl, rfl, trivial⟩ ?_))
  · rw [HT.out (.inr (.inr (by rw [← e1]; omega)))]
    refine ok_endL (vs := [_, _]) rfl ⟨⟨_, 5, _, _, _, rfl, rfl, inferInstance, rfl, rfl⟩, rfl, trivial⟩ (fun w' hw => ⟨fsY (y21 0).A (y21 0).c (y21 1).A (y21 1).c S w', ?_, trivial, hw.below, ?_⟩)
    · rw [← sd, fsY_val, sl]; rfl
    · rw [← sd, fsY_obj, sl]
      exact NewOk.of (hw.sel [2, 3, 4] (by decide) rfl (G' := []) (fun _ h => by cases h))
  have hfit : ¬ ((((fileAt (dats R) i).bl.length + (freeF (dats R)).length : Nat) : Int) * 8 - (fileAt (dats R) i).ln < text.size) := by rw [← e1]; omega
  rw [HY.out (by omega) hsl hfit]
  clear hc hd
  have hdl : i < (dats R).length := by rw [dats_len]; exact hiR
  have N := app_nums (x := ⟨B, dats R⟩) g hdl (text := text) (by show (text.size : Int) ≤ (((fileAt (dats R) i).bl.length + (freeF (dats R)).length : Nat) : Int) * 8 - (fileAt (dats R) i).ln; omega)
  have htx : TxtR B (nth R i).d := TxtR.of g (List.mem_map.2 ⟨_, nth_mem R i hiR, rfl⟩)
  have efR : fileAt (dats R) i = (nth R i).d := HA.out (by omega)
  have hts : (fText B (nth R i).d).size ≤ 192 := by
    have h9 : ((fText B (nth R i).d).size : Int) = (nth R i).d.ln := text_len g (List.mem_map.2 ⟨_, nth_mem R i hiR, rfl⟩ : (nth R i).d ∈ dats R)
    have := (HN.out i hiR).2
    omega
  refine ok_draw (id := 11) 10 rfl (by kernel_rfl) (by kernel_rfl) rfl (by repeat (first | exact pq_body | refine pq_then ?_ | refine pq_in ?_)) [0, 1, 2, 3, 4, 5, 6, 7, 8, 9, 10, 11, 12, 13, 14, 15, 16, 17, 18, 19, 20, 21, 22, 23] (by decide) rfl ?_
  refine okT_take (i := 0) rfl (by kernel_rfl) rfl rfl rfl (by exact ps_loads rfl rfl (by exact rds_box 6 rfl) rfl rfl (by decide)) ?_
  refine okT_take (i := 1) rfl (by kernel_rfl) rfl rfl rfl (by exact ps_field rfl rfl (by exact isw_ga _)) ?_
  refine okT_take (i := 2) rfl (by kernel_rfl) rfl rfl rfl (by exact ps_load rfl rfl (by exact Rds.cell (rds_box 6 rfl) rfl)) ?_
  refine okT_take (i := 3) rfl (by kernel_rfl) rfl rfl rfl (by exact ps_move rfl rfl) ?_
  refine okT_take (i := 4) rfl (by kernel_rfl) rfl rfl rfl (by exact ps_indexN rfl rfl rfl (by omega) (isw_of (isS_fl q1 (by omega)))) ?_
  refine okT_take (i := 5) rfl (by kernel_rfl) rfl rfl rfl (by exact ps_loadsF rfl rfl (by exact rds_rf (by assumption) (by exact List.mem_cons_self)) (by rfl) (by rfl) (by omega) rfl) ?_
  refine okT_take (i := 7) rfl (by kernel_rfl) rfl rfl rfl (by exact ps_move rfl rfl) ?_
  refine okT_one (i := 6) rfl rfl (by kernel_rfl) rfl rfl rfl (by exact ms_s2 rfl rfl rfl (fun _ _ w hw => i_contents_c _ A c B (nth R i) w (rds_rf h1 (by exact List.mem_cons_self) _ _ w hw) (rds_rf (Q2.out i hiR) (by exact List.mem_cons_self) _ _ w hw) htx)) (fun y w _ h => by exact h) ?_
  rintro y66 hy66
  refine okT_take (i := 8) rfl (by kernel_rfl) rfl rfl rfl (by exact ps_sadd rfl rfl rfl (by omega)) ?_
  refine okT_take (i := 9) rfl (by kernel_rfl) rfl rfl rfl (by exact ps_assign rfl rfl) ?_
  refine okT_done (by kernel_rfl) ?_
  refine ok_nil ?_
  refine ok_env [(6, _), (8, _), (10, _), (11, _), (12, _)] ⟨rfl, rfl, rfl, rfl, rfl, trivial⟩ ?_
  have es : fText B (nth R i).d ++ text = (appS ⟨B, dats R⟩ i text).s := by rw [← efR]; rfl
  rw [es]
  refine ok_then ?_
  refine ok_seq ?_
  refine ok_region (i := 12) ?_
  refine ok_p rfl rfl rfl (by exact ps_move rfl rfl) ?_
  refine ok_p rfl rfl rfl (by exact ps_move rfl rfl) ?_
  refine ok_p rfl rfl rfl (by exact ps_slen rfl rfl) ?_
  refine ok_p rfl rfl rfl (by exact ps_nil rfl rfl (by exact isw_row 3 rfl (by omega))) ?_
  refine ok_p rfl rfl rfl (by exact ps_field rfl rfl (by exact isw_row 3 rfl (by omega))) ?_
  refine ok_m_ rfl rfl (by exact ms_setc 3 i 3 (⟨⟨(nth S i).d.no, (nth S i).d.ow, (nth S i).d.bl, ((appS ⟨B, dats R⟩ i text).s.size : Int), (nth S i).d.sl⟩, (nth S i).A, (nth S i).c⟩ : LF) rfl rfl rfl rfl rfl rfl rfl rfl rfl (by omega)) ?_
  rintro y_ hy_
  refine ok_nil ?_
  refine ok_env [(6, _), (8, _), (10, _), (11, _), (12, _)] ⟨rfl, rfl, rfl, rfl, rfl, trivial⟩ ?_
  have hrw : rowsOf (S.set i (⟨⟨(nth S i).d.no, (nth S i).d.ow, (nth S i).d.bl, ((appS ⟨B, dats R⟩ i text).s.size : Int), (nth S i).d.sl⟩, (nth S i).A, (nth S i).c⟩ : LF)) = rowsOf S := rows_same S i hi _ rfl
  have hS1 : nth (S.set i (⟨⟨(nth S i).d.no, (nth S i).d.ow, (nth S i).d.bl, ((appS ⟨B, dats R⟩ i text).s.size : Int), (nth S i).d.sl⟩, (nth S i).A, (nth S i).c⟩ : LF)) i = ⟨⟨(nth S i).d.no, (nth S i).d.ow, (nth S i).d.bl, ((appS ⟨B, dats R⟩ i text).s.size : Int), (nth S i).d.sl⟩, (nth S i).A, (nth S i).c⟩ := nth_setL hi _
  have hd1 : dats (S.set i (⟨⟨(nth S i).d.no, (nth S i).d.ow, (nth S i).d.bl, ((appS ⟨B, dats R⟩ i text).s.size : Int), (nth S i).d.sl⟩, (nth S i).A, (nth S i).c⟩ : LF)) = (dats R).set i ⟨(nth S i).d.no, (nth S i).d.ow, (nth S i).d.bl, ((appS ⟨B, dats R⟩ i text).s.size : Int), (nth S i).d.sl⟩ := by rw [dats_set, sd]
  have hl1 : (S.set i (⟨⟨(nth S i).d.no, (nth S i).d.ow, (nth S i).d.bl, ((appS ⟨B, dats R⟩ i text).s.size : Int), (nth S i).d.sl⟩, (nth S i).A, (nth S i).c⟩ : LF)).length = R.length := by rw [List.length_set, sl]
  rw [← hrw]
  generalize S.set i (⟨⟨(nth S i).d.no, (nth S i).d.ow, (nth S i).d.bl, ((appS ⟨B, dats R⟩ i text).s.size : Int), (nth S i).d.sl⟩, (nth S i).A, (nth S i).c⟩ : LF) = S1 at hS1 hd1 hl1 ⊢
  have hb1 : (nth S1 i).d.bl = (fileAt (dats R) i).bl := by rw [hS1, ← e1]
  have hin1 : (In.inn (nth S1 i).d).length = (nth S1 i).d.bl.length := rfl
  have hbl1 : (nth S1 i).d.bl.length = (fileAt (dats R) i).bl.length := by rw [hb1]
  have hf24 : (fileAt (dats R) i).bl.length ≤ 24 := by rw [← e1]; exact hb24.1
  have hnl := N.l
  unfold ceil8 at hnl
  have hle : (fileAt (dats R) i).bl.length ≤ (appS ⟨B, dats R⟩ i text).bl.length ∧ (appS ⟨B, dats R⟩ i text).bl.length ≤ (fileAt (dats R) i).bl.length + (freeF (dats R)).length := N.le
  have hn192 := N.n
  have hblN : (appS ⟨B, dats R⟩ i text).bl = (nth S1 i).d.bl ++ (freeF (dats R)).take ((appS ⟨B, dats R⟩ i text).bl.length - (fileAt (dats R) i).bl.length) := by rw [hb1]; exact N.b
  have hd2 : (dats R).set i ⟨(fileAt (dats R) i).no, (fileAt (dats R) i).ow, (appS ⟨B, dats R⟩ i text).bl, ((appS ⟨B, dats R⟩ i text).s.size : Int), (fileAt (dats R) i).sl⟩ = dats (S1.set i (⟨⟨(nth S i).d.no, (nth S i).d.ow, (appS ⟨B, dats R⟩ i text).bl, ((appS ⟨B, dats R⟩ i text).s.size : Int), (nth S i).d.sl⟩, none, 0⟩ : LF)) := by rw [dats_set, hd1, List.set_set, e1]
  have HD2 := Lib.hid hd2; clear hd2
  have hmt : ((freeF (dats R)).take ((appS ⟨B, dats R⟩ i text).bl.length - (fileAt (dats R) i).bl.length)).length = (appS ⟨B, dats R⟩ i text).bl.length - (fileAt (dats R) i).bl.length := by rw [List.length_take]; omega
  have HBN := Lib.hid hblN; clear hblN
  refine ok_then ?_
  refine ok_seq ?_
  refine ok_region (i := 13) ?_
  refine ok_p rfl rfl rfl (by exact ps_move rfl rfl) ?_
  refine ok_p rfl rfl rfl (by exact ps_slen rfl rfl) ?_
  refine ok_p rfl rfl rfl (by exact ps_add rfl rfl rfl (by omega)) ?_
  refine ok_p rfl rfl rfl (by exact ps_sub rfl rfl rfl (by omega)) ?_
  refine ok_p rfl rfl rfl (by exact ps_quo rfl rfl rfl (by omega) (by omega)) ?_
  refine ok_p rfl rfl rfl (by exact ps_move rfl rfl) ?_
  refine ok_p rfl rfl rfl (by exact ps_nil rfl rfl (by exact isw_row 3 rfl (by omega))) ?_
  refine ok_p rfl rfl rfl (by exact ps_field rfl rfl (by exact isw_row 3 rfl (by omega))) ?_
  refine ok_p rfl rfl rfl (by exact ps_load rfl rfl (Rds.cell (rds_row 3 rfl) (fl_at S1 i 2 (by omega) (by decide)))) ?_
  refine ok_p rfl rfl rfl (by exact ps_len rfl rfl) ?_
  refine ok_p rfl rfl rfl (by exact ps_sub rfl rfl rfl (by omega)) ?_
  refine ok_p rfl rfl rfl (by exact ps_assign rfl rfl) ?_
  refine ok_nil ?_
  refine ok_env [(6, _), (8, _), (10, _), (11, _), (12, _), (13, _)] ⟨rfl, rfl, rfl, rfl, rfl, rfl, trivial⟩ ?_
  refine ok_then ?_
  refine ok_seq ?_
  refine ok_draw (id := 14) 11 rfl (by kernel_rfl) (by kernel_rfl) rfl (by repeat (first | exact pq_body | refine pq_then ?_ | refine pq_in ?_)) [0, 1, 2, 3, 5, 6] (by decide) rfl ?_
  refine okT_take (i := 0) rfl (by kernel_rfl) rfl rfl rfl (by exact ps_move rfl rfl) ?_
  refine okT_take (i := 1) rfl (by kernel_rfl) rfl rfl rfl (by exact ps_move rfl rfl) ?_
  refine okT_take (i := 2) rfl (by kernel_rfl) rfl rfl rfl (by exact ps_nil rfl rfl (by exact isw_row 3 rfl (by omega))) ?_
  refine okT_take (i := 3) rfl (by kernel_rfl) rfl rfl rfl (by exact ps_field rfl rfl (by exact isw_row 3 rfl (by omega))) ?_
  refine okT_take (i := 4) rfl (by kernel_rfl) rfl rfl rfl (by exact ps_load rfl rfl (Rds.cell (rds_row 3 rfl) (fl_at S1 i 2 (by omega) (by decide)))) ?_
  refine okT_take (i := 5) rfl (by kernel_rfl) rfl rfl rfl (by exact ps_move rfl rfl) ?_
  refine okT_take (i := 6) rfl (by kernel_rfl) rfl rfl rfl (by exact ps_move rfl rfl) ?_
  refine okT_take (i := 7) rfl (by kernel_rfl) rfl rfl rfl (by exact ps_slice0 (h := (appS ⟨B, dats R⟩ i text).bl.length - (fileAt (dats R) i).bl.length) rfl rfl rfl (by omega) (by omega)) ?_
  refine okT_one (i := 8) rfl rfl (by kernel_rfl) rfl rfl rfl (by exact ms_appBagL ((freeF (dats R)).take ((appS ⟨B, dats R⟩ i text).bl.length - (fileAt (dats R) i).bl.length)) 4 i (⟨(nth S i).d.no, (nth S i).d.ow, (appS ⟨B, dats R⟩ i text).bl, ((appS ⟨B, dats R⟩ i text).s.size : Int), (nth S i).d.sl⟩ : FFile) rfl rfl rfl rfl (rds_headF (rds_row 0 rfl) _) rfl (by omega) rfl hmt HBN.out (by omega) (by omega)) (fun y w _ h => by exact h.sel [0, 1, 2, 3, 5, 6] (by decide) rfl (fun _ h => h)) ?_
  rintro y93 hy93
  refine okT_take (i := 9) rfl (by kernel_rfl) rfl rfl rfl (by exact ps_nil rfl rfl (by exact isw_row 3 rfl (by omega))) ?_
  refine okT_take (i := 10) rfl (by kernel_rfl) rfl rfl rfl (by exact ps_field rfl rfl (by exact isw_row 3 rfl (by omega))) ?_
  refine okT_done (by kernel_rfl) ?_
  refine ok_m_ rfl rfl (by exact ms_setc 3 i 2 (⟨⟨(nth S i).d.no, (nth S i).d.ow, (appS ⟨B, dats R⟩ i text).bl, ((appS ⟨B, dats R⟩ i text).s.size : Int), (nth S i).d.sl⟩, (y93 0).A, (y93 0).c⟩ : LF) rfl rfl rfl rfl rfl rfl rfl rfl (by rw [hS1]; rfl) (by omega)) ?_
  rintro y_ hy_
  refine ok_nil ?_
  refine ok_env [(6, _), (8, _), (10, _), (12, _)] ⟨rfl, rfl, rfl, rfl, trivial⟩ ?_
  have hS2 : nth (S1.set i (⟨⟨(nth S i).d.no, (nth S i).d.ow, (appS ⟨B, dats R⟩ i text).bl, ((appS ⟨B, dats R⟩ i text).s.size : Int), (nth S i).d.sl⟩, (y93 0).A, (y93 0).c⟩ : LF)) i = (⟨⟨(nth S i).d.no, (nth S i).d.ow, (appS ⟨B, dats R⟩ i text).bl, ((appS ⟨B, dats R⟩ i text).s.size : Int), (nth S i).d.sl⟩, (y93 0).A, (y93 0).c⟩ : LF) := nth_setL (by omega) _
  have hd2 : dats (S1.set i (⟨⟨(nth S i).d.no, (nth S i).d.ow, (appS ⟨B, dats R⟩ i text).bl, ((appS ⟨B, dats R⟩ i text).s.size : Int), (nth S i).d.sl⟩, (y93 0).A, (y93 0).c⟩ : LF)) = (dats R).set i ⟨(fileAt (dats R) i).no, (fileAt (dats R) i).ow, (appS ⟨B, dats R⟩ i text).bl, ((appS ⟨B, dats R⟩ i text).s.size : Int), (fileAt (dats R) i).sl⟩ := by rw [dats_set, hd1, List.set_set, e1]
  have hl2 : (S1.set i (⟨⟨(nth S i).d.no, (nth S i).d.ow, (appS ⟨B, dats R⟩ i text).bl, ((appS ⟨B, dats R⟩ i text).s.size : Int), (nth S i).d.sl⟩, (y93 0).A, (y93 0).c⟩ : LF)).length = R.length := by rw [List.length_set, hl1]
  generalize S1.set i (⟨⟨(nth S i).d.no, (nth S i).d.ow, (appS ⟨B, dats R⟩ i text).bl, ((appS ⟨B, dats R⟩ i text).s.size : Int), (nth S i).d.sl⟩, (y93 0).A, (y93 0).c⟩ : LF) = S2 at hS2 hd2 hl2 ⊢
  have hb2 : (nth S2 i).d.bl = (appS ⟨B, dats R⟩ i text).bl := by rw [hS2]
  have hbl2 : (nth S2 i).d.bl.length = (appS ⟨B, dats R⟩ i text).bl.length := by rw [hb2]
  have hin2 : (In.inn (nth S2 i).d).length = (nth S2 i).d.bl.length := rfl
  have hzs : (allS ⟨B, dats R⟩ i text).size = 8 * (nth S2 i).d.bl.length := by rw [hb2]; exact N.z
  have hall : ∀ z : Int, z = ((nth S2 i).d.bl.length : Int) * 8 - (appS ⟨B, dats R⟩ i text).s.size → (appS ⟨B, dats R⟩ i text).s ++ zrs z.toNat = allS ⟨B, dats R⟩ i text := fun z hz => by
    unfold allS
    rw [hz, hbl2, show (((appS ⟨B, dats R⟩ i text).bl.length : Int) * 8 - (appS ⟨B, dats R⟩ i text).s.size).toNat = (appS ⟨B, dats R⟩ i text).bl.length * 8 - (appS ⟨B, dats R⟩ i text).s.size by omega]
  have HALL := Lib.hid hall; clear hall
  have hzb : (((In.inn (nth S2 i).d).length : Int) * 8 - (appS ⟨B, dats R⟩ i text).s.size).toNat ≤ 192 := by omega
  have HZB := Lib.hid hzb; clear hzb
  refine ok_then ?_
  refine ok_seq ?_
  refine ok_region (i := 15) ?_
  refine ok_p rfl rfl rfl (by exact ps_move rfl rfl) ?_
  refine ok_p rfl rfl rfl (by exact ps_move rfl rfl) ?_
  refine ok_p rfl rfl rfl (by exact ps_nil rfl rfl (by exact isw_row 3 rfl (by omega))) ?_
  refine ok_p rfl rfl rfl (by exact ps_field rfl rfl (by exact isw_row 3 rfl (by omega))) ?_
  refine ok_p rfl rfl rfl (by exact ps_load rfl rfl (Rds.cell (rds_row 3 rfl) (fl_at S2 i 2 (by omega) (by decide)))) ?_
  refine ok_p rfl rfl rfl (by exact ps_len rfl rfl) ?_
  refine ok_p rfl rfl rfl (by exact ps_mul rfl rfl rfl (by omega)) ?_
  refine ok_p rfl rfl rfl (by exact ps_move rfl rfl) ?_
  refine ok_p rfl rfl rfl (by exact ps_slen rfl rfl) ?_
  refine ok_p rfl rfl rfl (by exact ps_sub rfl rfl rfl (by omega)) ?_
  refine ok_m rfl rfl rfl (by exact ms_s1 rfl rfl (fun _ _ w hw => zerosI_c _ ⟨by omega, by omega⟩ w)) ?_
  rintro y106 hy106
  refine ok_p rfl rfl rfl (by exact ps_cast (v' := .string (allS ⟨B, dats R⟩ i text)) (ps_sadd rfl rfl rfl (by have h7 := HZB.out; have h8 := zrs_size (((In.inn (nth S2 i).d).length : Int) * 8 - (appS ⟨B, dats R⟩ i text).s.size).toNat; omega)) (congrArg Value.string (HALL.out _ rfl))) ?_
  refine ok_p rfl rfl rfl (by exact ps_assign rfl rfl) ?_
  refine ok_nil ?_
  refine ok_env [(6, _), (8, _), (10, _), (12, _)] ⟨rfl, rfl, rfl, rfl, trivial⟩ ?_
  refine ok_then ?_
  repeat' (first
    | refine ok_seq ?_
    | refine ok_then ?_
    | refine ok_block ?_
    | (refine ok_region (i := 16) ?_; refine ok_p rfl rfl rfl (by exact ps_move rfl rfl) ?_; refine ok_p rfl rfl rfl (by exact ps_nil rfl rfl (by exact isw_row 3 rfl (by omega))) ?_; refine ok_p rfl rfl rfl (by exact ps_field rfl rfl (by exact isw_row 3 rfl (by omega))) ?_; refine ok_p rfl rfl rfl (by exact ps_load rfl rfl (Rds.cell (rds_row 3 rfl) (fl_at S2 i 2 (by omega) (by decide)))) ?_; refine ok_p rfl rfl rfl (by exact ps_len rfl rfl) ?_; refine ok_p rfl rfl rfl (by exact ps_move rfl rfl) ?_; refine ok_nil ?_; refine ok_env [(6, _), (8, _), (12, _), (111, _), (112, _), (113, _)] ⟨rfl, rfl, rfl, rfl, rfl, rfl, trivial⟩ ?_))
  have hrg : ∀ k, k < (nth S2 i).d.bl.length → 0 ≤ nth (nth S2 i).d.bl k ∧ nth (nth S2 i).d.bl k ≤ 23 := fun k hk => by rw [hb2]; exact N.r k (by omega)
  have HG := Lib.hid hrg; clear hrg
  have hst : ∀ k, k < (nth S2 i).d.bl.length → putB B ((nth S2 i).d.bl.take (k + 1)) (appS ⟨B, dats R⟩ i text).t = (putB B ((nth S2 i).d.bl.take k) (appS ⟨B, dats R⟩ i text).t).set (nth (nth S2 i).d.bl k).toNat ((allS ⟨B, dats R⟩ i text).extract (k * 8) ((k + 1) * 8)) := fun k hk => by
    have := app_set ⟨B, dats R⟩ i text (k := k) (by omega)
    rw [hb2]; exact this
  have HSTP := Lib.hid hst; clear hst
  have hap := app_end ⟨B, dats R⟩ i text
  have HAP := Lib.hid hap; clear hap
  have hi2 : i < S2.length := by omega
  have hbb : (nth S2 i).d.bl.length ≤ 24 := by omega
  try clear N
  try clear htx
  try clear efR
  try clear hts
  try clear hcf
  try clear hb24
  try clear hin
  try clear hle
  try clear hnl
  try clear hn192
  try clear hmt
  try clear hf24
  try clear hbl1
  try clear hb1
  try clear hin1
  try clear hl1
  try clear hd1
  try clear hS1
  try clear hS2
  try clear HZB
  try clear HALL
  try clear HD2
  try clear HBN
  try clear hsl
  try clear hfit
  try clear e1
  try clear hSR
  try clear hdl
  try clear HT
  try clear HY
  try clear HA
  try clear HN
  try clear HS
  try clear es
  try clear hrw
  try clear hst
  try clear hye
  try clear hz
  try clear h1
  try clear hl
  try clear hl2x
  try clear hl3
  try clear z1
  try clear z2
  try clear hiR
  try clear hi
  try clear hfl
  try clear q1
  try clear Q2
  try clear HL
  try clear ht
  try clear hc
  try clear hd
  try clear hlx
  refine ok_loop (ι := { k : Nat // k ≤ (nth S2 i).d.bl.length }) (fun k => (nth S2 i).d.bl.length - k.1) (fun k => ([(6, pt (ga (y6 0).c) 0), (8, pt (ga (y8 0).c) 0), (12, .string (allS ⟨B, dats R⟩ i text)), (111, .slice (nth S2 i).A (nth S2 i).d.bl.length (nth S2 i).c), (112, .int .i64 ((nth S2 i).d.bl.length : Int)), (113, .int .i64 k.1)], [_, .box (y8 0).c 27 [.slice (y21 0).A B.length (y21 0).c, .slice (y21 1).A R.length (y21 1).c], .row 9 1 (y21 0).A B.length (y21 0).c (fl (putB B ((nth S2 i).d.bl.take k.1) (appS ⟨B, dats R⟩ i text).t)), .row 36 5 (y21 1).A R.length (y21 1).c (fl S2), .bag 3 1 (rowsOf S2), _, _], _)) ⟨0, Nat.zero_le _⟩ (fun a w he hw => ⟨⟨0, Nat.zero_le _⟩, he.sub ⟨rfl, rfl, rfl, rfl, rfl, rfl, trivial⟩, hw⟩) ?_
  rintro ⟨k, hk⟩
  simp only at hk ⊢
  have hpl : (putB B ((nth S2 i).d.bl.take k) (appS ⟨B, dats R⟩ i text).t).length = B.length := put_len _ _ _
  have hstk := fun h => HSTP.out k h
  have HS3 := Lib.hid hstk; clear hstk
  generalize hC : putB B ((nth S2 i).d.bl.take k) (appS ⟨B, dats R⟩ i text).t = C at hpl HS3 ⊢
  repeat' (first
    | refine ok_seq ?_
    | refine ok_then ?_
    | refine ok_block ?_
    | refine ok_in_normal ?_
    | (refine ok_cond rfl (fun hc => ?_) (fun hc => ?_) <;> (have hd := hc; (try simp only [decide_eq_true_eq, decide_eq_false_iff_not, Bool.or_eq_true, Bool.or_eq_false_iff, Bool.and_eq_true, Bool.and_eq_false_iff, Bool.not_eq_true', Bool.not_eq_false', bne_iff_ne, beq_iff_eq, bne_eq_false_iff_eq, beq_eq_false_iff_ne, ne_eq, Bool.not_true, Bool.not_false, Bool.false_eq_true, Bool.true_eq_false, inB_true, inB_false] at hd)))
    | refine ok_ret ?_
    | refine ok_exit ?_
    | refine ok_skip ?_
    | (refine ok_region (i := 17) ?_; refine ok_p rfl rfl rfl (by exact ps_int rfl rfl rfl rfl) ?_; refine ok_nil ?_; refine ok_env [(6, _), (8, _), (12, _), (111, _), (112, _), (113, _), (114, _)] ⟨rfl, rfl, rfl, rfl, rfl, rfl, rfl, trivial⟩ ?_)
    | (refine ok_region (i := 18) ?_; refine ok_p rfl rfl rfl (by exact ps_move rfl rfl) ?_; refine ok_p rfl rfl rfl (by exact ps_indexN rfl rfl rfl (by omega) (isw_bag 4 i rfl hi2 (by omega))) ?_; refine ok_p rfl rfl rfl (by exact ps_load rfl rfl (Rds.cell (rds_bag 4 i rfl hi2) (fl_at0 (nth S2 i).d.bl k (by omega) (by decide)))) ?_; refine ok_p rfl rfl rfl (by exact ps_assign rfl rfl) ?_; refine ok_p rfl rfl rfl (by exact ps_assign rfl rfl) ?_; refine ok_nil ?_; refine ok_env [(6, _), (8, _), (12, _), (14, _), (15, _), (111, _), (112, _), (113, _)] ⟨rfl, rfl, rfl, rfl, rfl, rfl, rfl, rfl, trivial⟩ ?_)
    | (refine ok_draw (id := 19) 11 rfl (by kernel_rfl) (by kernel_rfl) rfl (by repeat (first | exact pq_body | refine pq_then ?_ | refine pq_in ?_)) [0, 1, 2, 3, 4, 5, 6, 7, 8, 9, 10, 11, 12, 13, 14, 15, 16, 17, 18, 19, 20, 21, 22, 23] (by decide) rfl ?_; refine okT_take (i := 0) rfl (by kernel_rfl) rfl rfl rfl (by exact ps_field rfl rfl (by exact isw_ga _)) ?_; refine okT_take (i := 1) rfl (by kernel_rfl) rfl rfl rfl (by exact ps_load rfl rfl (by exact Rds.cell (rds_box 1 rfl) rfl)) ?_; refine okT_take (i := 2) rfl (by kernel_rfl) rfl rfl rfl (by exact ps_move rfl rfl) ?_; refine okT_take (i := 3) rfl (by kernel_rfl) rfl rfl rfl (by exact ps_move rfl rfl) ?_; refine okT_take (i := 4) rfl (by kernel_rfl) rfl rfl rfl (by exact ps_move rfl rfl) ?_; refine okT_take (i := 5) rfl (by kernel_rfl) rfl rfl rfl (by exact ps_mul rfl rfl rfl (by omega)) ?_; refine okT_take (i := 6) rfl (by kernel_rfl) rfl rfl rfl (by exact ps_move rfl rfl) ?_; refine okT_take (i := 7) rfl (by kernel_rfl) rfl rfl rfl (by exact ps_add rfl rfl rfl (by omega)) ?_; refine okT_take (i := 8) rfl (by kernel_rfl) rfl rfl rfl (by exact ps_mul rfl rfl rfl (by omega)) ?_; refine okT_take (i := 9) rfl (by kernel_rfl) rfl rfl rfl (by exact ps_sslE (k * 8) ((k + 1) * 8) rfl rfl ⟨_, _, rfl, by omega⟩ ⟨_, _, rfl, by omega⟩ (by omega) (by rw [hzs]; omega)) ?_; refine okT_take (i := 10) rfl (by kernel_rfl) rfl rfl rfl (by exact ps_index rfl rfl rfl (by have := HG.out k (by omega); omega) (isw_row 2 rfl (by omega))) ?_; refine okT_done (by kernel_rfl) ?_; refine ok_m_ rfl rfl (by exact ms_setw (α := ByteArray) 2 (nth (nth S2 i).d.bl k).toNat ((allS ⟨B, dats R⟩ i text).extract (k * 8) ((k + 1) * 8)) rfl rfl rfl rfl rfl rfl rfl rfl rfl (by have := HG.out k (by omega); omega)) ?_; rintro y_ hy_; refine ok_nil ?_; refine ok_env [(6, _), (8, _), (12, _), (111, _), (112, _), (113, _)] ⟨rfl, rfl, rfl, rfl, rfl, rfl, trivial⟩ ?_)
    | (refine ok_region (i := 20) ?_; refine ok_p rfl rfl rfl (by exact ps_add rfl rfl rfl (by omega)) ?_; refine ok_p rfl rfl rfl (by exact ps_move rfl rfl) ?_; refine ok_nil ?_; refine ok_env [(6, _), (8, _), (12, _), (111, _), (112, _), (113, _)] ⟨rfl, rfl, rfl, rfl, rfl, rfl, trivial⟩ ?_)
    | (refine ok_region (i := 21) ?_; refine ok_p rfl rfl rfl (by exact ps_loads rfl rfl (by exact rds_box 1 rfl) rfl rfl (by decide)) ?_; refine ok_m_ rfl rfl (by exact ms_store 5 rfl rfl rfl rfl rfl rfl rfl rfl) ?_; rintro y_ hy_; refine ok_p rfl rfl rfl (by exact ps_assign rfl rfl) ?_; refine ok_nil ?_; refine ok_env [(6, _), (7, _)] ⟨rfl, rfl, trivial⟩ ?_))
  · refine fun a w' he hw => ⟨⟨k + 1, by omega⟩, by simp only; omega, he.sub ⟨rfl, rfl, rfl, rfl, rfl, rfl, trivial⟩, ?_⟩
    simp only
    rw [HS3.out (by omega)]
    exact hw
  · have hk2 : k = (nth S2 i).d.bl.length := by omega
    have hCe : appX ⟨B, dats R⟩ i text = ⟨C, dats S2⟩ := by rw [HAP.out, ← hC, hk2, ← hb2]; simp only; rw [hd2, hb2]
    rw [hCe]
    refine ok_endL (vs := [_, _]) rfl ⟨⟨_, 5, _, _, _, rfl, rfl, inferInstance, rfl, rfl⟩, rfl, trivial⟩ (fun w' hw => ⟨fsY (y21 0).A (y21 0).c (y21 1).A (y21 1).c S2 w', ?_, trivial, hw.below, ?_⟩)
    · rw [fsY_val, hl2, hpl]; rfl
    · rw [fsY_obj, hl2, hpl]
      exact NewOk.of (hw.sel [2, 3, 4] (by decide) rfl (G' := []) (fun _ h => by cases h))
end Go.Proofs.Ytojgphgfhapacaa
/- FsAppend of the reference. -/
namespace Go.Proofs.Ytojgphgfhapacaa
open Go.RowKit
set_option maxHeartbeats 4000000
set_option maxRecDepth 20000
set_option linter.unusedVariables false
set_option linter.unusedSimpArgs false
attribute [local irreducible] Calls
theorem WOk.bagSwapZ {α β : Type} [Dat β] [In α β] {base : Nat} {w0 w : World} {H : List HObj} {G : List World} {e sz n : Nat} {us : List Value} {R : List (Lc α)} (k : Nat) (l : Lc α) (hk : k < R.length) (hn : n = (In.inn l.d).length) (hu : us = fl (In.inn l.d)) (hw : WOk base w0 (.row e sz l.A n l.c us :: .bag e sz (rowsOf R) :: H) G w) : WOk base w0 (.bag e sz (rowsOf (R.set k l)) :: H) G w := by
  subst hn; subst hu
  have h1 := (hw.front 1 rfl).bagPull k hk
  have h2 := (h1.tl).front 1 rfl
  exact WOk.bagPush k l hk h2
theorem nth_setZ {R : List LF} {k : Nat} (hk : k < R.length) (l : LF) : nth (R.set k l) k = l := nth_set R k l hk
theorem datsZ_nth {R S : List LF} (e : dats S = dats R) (k : Nat) (h : k < R.length) : (nth S k).d = (nth R k).d := by
  have hl : S.length = R.length := by rw [← dats_len, e, dats_len]
  rw [← fileAt_nth S k (by omega), ← fileAt_nth R k h, e]
theorem s_textS (A : Option Addr) (c : Nat) (B : List ByteArray) (A' : Option Addr) (c' n : Nat) (S : List LF) (i : Nat) (sl : S.length = n) (hi : i < S.length) (w : World) (h1 : Rd w A (fl B)) (h2 : RdN w A' S) (ht : TxtR B (nth S i).d) :
    Calls Try.prog 24 #[.agg #[.slice A B.length c, .slice A' n c'], .int .i64 i] w fun e w' => e = .returned (.string (fText B (nth S i).d)) ∧ Below w.heap.size w w' := by
  subst sl
  exact s_l30Text_c A c B A' c' S i hi w h1 h2 ht
structure AzI where
  k : Nat
  A : Option Addr
  c : Nat
  hk : k ≤ 24
theorem s_FsAppend0 (A : Option Addr) (c : Nat) (B : List ByteArray) (A' : Option Addr) (c' : Nat) (R : List LF) (no : Int) (text : ByteArray) (w : World) (h1 : Rd w A (fl B)) (h2 : RdN w A' R) (hl : B.length ≤ 4194304) (hl2 : R.length ≤ 4194304) (hl3 : ∀ x ∈ dats R, x.bl.length ≤ 4194304) (ht : text.size ≤ 1048576) :
    Calls Try.prog 7 #[.agg #[.slice A B.length c, .slice A' R.length c'], .int .i64 no, .string text] w fun e w' => ∃ y : Ys, e = .returned (.tuple #[FStore_val (fFsAppend ⟨B, dats R⟩ no text).1 y, .bool (fFsAppend ⟨B, dats R⟩ no text).2]) ∧ True ∧ Below w.heap.size w w' ∧ NewOk w.heap.size (FStore_obj (fFsAppend ⟨B, dats R⟩ no text).1 y) [] w' := by
  obtain ⟨q1, q2⟩ := h2
  have q2 : ∀ k, k < R.length → Rd w (nth R k).A (fl (nth R k).d.bl) := q2
  have Q2 := Lib.hid q2; clear q2
  have HL := Lib.hid hl3; clear hl3
  refine ok_enter 124 Try.func7 rfl rfl rfl ?_
  repeat' (first
    | refine ok_seq ?_
    | refine ok_then ?_
    | refine ok_then_ret ?_
    | (refine ok_cond rfl (fun hc => ?_) (fun hc => ?_) <;> (have hd := hc; (try simp only [decide_eq_true_eq, decide_eq_false_iff_not, Bool.or_eq_true, Bool.or_eq_false_iff, Bool.and_eq_true, Bool.and_eq_false_iff, Bool.not_eq_true', Bool.not_eq_false', bne_iff_ne, beq_iff_eq, bne_eq_false_iff_eq, beq_eq_false_iff_ne, ne_eq, Bool.not_true, Bool.not_false, Bool.false_eq_true, Bool.true_eq_false, inB_true, inB_false] at hd)))
    | refine ok_ret ?_
    | refine ok_skip ?_
    | (refine ok_region (i := 0) ?_; refine ok_m rfl rfl rfl (by exact ms_box rfl rfl rfl) ?_; rintro y3 hy3; refine ok_m rfl rfl rfl (by exact ms_alloc rfl) ?_; rintro y6 hy6; refine ok_p rfl rfl rfl (by exact ps_assign rfl rfl) ?_; refine ok_nil ?_; refine ok_env [(1, _), (2, _), (3, _), (6, _)] ⟨rfl, rfl, rfl, rfl, trivial⟩ ?_)
    | (refine ok_region (i := 1) ?_; refine ok_p rfl rfl rfl (by exact ps_loads rfl rfl (by exact rds_box 1 rfl) rfl rfl (by decide)) ?_; refine ok_m rfl rfl rfl (by exact ms_s1 rfl rfl (fun _ _ w hw => s_FsOk0 A c B A' c' R w (rds_rf h1 (by exact List.mem_cons_self) _ _ w hw) (RdN.keep hw ⟨q1, Q2.out⟩ (by exact List.mem_cons_self)) hl hl2 HL.out)) ?_; rintro y16 hy16; refine ok_p rfl rfl rfl (by exact ps_not rfl rfl) ?_; refine ok_nil ?_; refine ok_env [(1, _), (2, _), (3, _), (6, _), (17, _)] ⟨rfl, rfl, rfl, rfl, rfl, trivial⟩ ?_)
    | (refine ok_region (i := 2) ?_; refine ok_p rfl rfl rfl (by exact ps_bld rfl parts_nil rfl) ?_; refine ok_m_ rfl rfl (by exact ms_store 0 rfl rfl rfl rfl rfl rfl rfl rfl) ?_; rintro y_ hy_; refine ok_p rfl rfl rfl (by exact ps_assign rfl rfl) ?_; refine ok_nil ?_; refine ok_env [(6, _), (7, _)] ⟨rfl, rfl, trivial⟩ ?_))
  · rw [fil_bad hd]
    exact ok_endL (vs := [_, _]) rfl ⟨⟨_, 0, _, _, _, rfl, rfl, inferInstance, rfl, rfl⟩, rfl, trivial⟩ (fun w' hw => ⟨mkY none 0 w', rfl, trivial, hw.below, fsN_no hw⟩)
  have hok : fFsOk ⟨B, dats R⟩ = true := hd
  have g := (fs_good _).1 hok
  have hst := fun h => fapp_stop (x := ⟨B, dats R⟩) hok (no := no) (text := text) h
  have hye := fun h0 h1 h2 => fapp_yes (x := ⟨B, dats R⟩) hok (no := no) (text := text) h0 h1 h2
  simp only at hst hye
  obtain ⟨z1, z2⟩ := atI_rng R no
  have hB : B.length = 24 := g.hB
  have hR : R.length ≤ 6 := by have := g.hF; rw [dats_len] at this; exact this
  clear hc hd
  refine ok_region (i := 3) ?_
  refine ok_p rfl rfl rfl (by exact ps_loads rfl rfl (by exact rds_box 1 rfl) rfl rfl (by decide)) ?_
  refine ok_m rfl rfl rfl (by exact ms_c1 rfl rfl (fun _ _ w hw => s_copy_o A c B A' c' R w (rds_rf h1 (by exact List.mem_cons_self) _ _ w hw) (RdN.keep hw ⟨q1, Q2.out⟩ (by exact List.mem_cons_self)) hl hl2 HL.out)) ?_
  rintro y20 hy20
  refine ok_m rfl rfl rfl (by exact ms_alloc rfl) ?_
  rintro y8 hy8
  refine ok_m_ rfl rfl (by exact ms_store 0 rfl rfl rfl rfl rfl rfl rfl rfl) ?_
  rintro y_ hy_
  refine ok_nil ?_
  refine ok_env [(1, _), (2, _), (3, _), (6, _), (8, _)] ⟨rfl, rfl, rfl, rfl, rfl, trivial⟩ ?_
  obtain ⟨sd, sl⟩ := S_facts R y20
  generalize locs 2 (dats R) y20 = S at sd sl ⊢
  refine ok_then ?_
  refine ok_seq ?_
  refine ok_region (i := 4) ?_
  refine ok_p rfl rfl rfl (by exact ps_loads rfl rfl (by exact rds_box 0 rfl) rfl rfl (by decide)) ?_
  refine ok_p rfl rfl rfl (by exact ps_move rfl rfl) ?_
  refine ok_m rfl rfl rfl (by exact ms_s2 rfl rfl rfl (fun _ _ w hw => s_atS _ _ _ S R sd sl no w (rds_row 2 rfl _ _ w hw) hl2 rfl)) ?_
  rintro y23 hy23
  refine ok_p rfl rfl rfl (by exact ps_assign rfl rfl) ?_
  refine ok_nil ?_
  refine ok_env [(2, _), (3, _), (6, _), (8, _), (9, _)] ⟨rfl, rfl, rfl, rfl, rfl, trivial⟩ ?_
  generalize hz : atI (dats R) no = z at z1 z2 hst hye ⊢
  have hfa : ¬ z < 0 → fileAt (dats R) z.toNat = (nth S z.toNat).d := fun h => by
    rw [← sd]; exact fileAt_nth S _ (by omega)
  have HA := Lib.hid hfa; clear hfa
  have HT := Lib.hid hst; clear hst
  have HY := Lib.hid hye; clear hye
  have hrm : ∀ k, k < R.length → ((((nth S k).d.bl.length + (freeF (dats R)).length : Nat) : Int) * 8 - (nth S k).d.ln < text.size ↔ (192 < text.size ∨ (nth S k).d.bl.length + (freeF (dats R)).length < (ceil8 ((nth S k).d.ln + text.size)).toNat)) := fun k hk => by
    have hm : (nth R k).d ∈ dats R := List.mem_map.2 ⟨_, nth_mem R k hk, rfl⟩
    rw [datsZ_nth sd k hk]; exact room_same g hm text.size
  have HRM := Lib.hid hrm; clear hrm
  have hnb : ∀ k, k < S.length → (nth S k).d.bl.length ≤ 24 ∧ 0 ≤ (nth S k).d.ln ∧ (nth S k).d.ln ≤ 192 ∧ ((nth S k).d.bl.length : Int) = ceil8 (nth S k).d.ln := fun k hk => by
    rw [datsZ_nth sd k (by omega)]
    have hm : (nth R k).d ∈ dats R := List.mem_map.2 ⟨_, nth_mem R k (by omega), rfl⟩
    have h0 := g.hf _ hm
    have h00 := h0
    unfold fileOk0 at h0
    simp only [Bool.and_eq_true, inB_true, decide_eq_true_eq] at h0
    exact ⟨good_24 g hm, by omega, by omega, by omega⟩
  have HN := Lib.hid hnb; clear hnb
  repeat' (first
    | refine ok_seq ?_
    | refine ok_then ?_
    | refine ok_then_ret ?_
    | (refine ok_cond rfl (fun hc => ?_) (fun hc => ?_) <;> (have hd := hc; (try simp only [decide_eq_true_eq, decide_eq_false_iff_not, Bool.or_eq_true, Bool.or_eq_false_iff, Bool.and_eq_true, Bool.and_eq_false_iff, Bool.not_eq_true', Bool.not_eq_false', bne_iff_ne, beq_iff_eq, bne_eq_false_iff_eq, beq_eq_false_iff_ne, ne_eq, Bool.not_true, Bool.not_false, Bool.false_eq_true, Bool.true_eq_false, inB_true, inB_false] at hd)))
    | refine ok_ret ?_
    | refine ok_skip ?_
    | (refine ok_region (i := 5) ?_; refine ok_p rfl rfl rfl (by exact ps_move rfl rfl) ?_; refine ok_p rfl rfl rfl (by exact ps_int rfl rfl rfl rfl) ?_; refine ok_p rfl rfl rfl (by exact ps_move rfl rfl) ?_; refine ok_pg rfl rfl rfl rfl rfl (gF _) (fun hp => by (have hpd := hp; (try simp only [decide_eq_true_eq, decide_eq_false_iff_not, Bool.or_eq_true, Bool.or_eq_false_iff, Bool.and_eq_true, Bool.and_eq_false_iff, Bool.not_eq_true', Bool.not_eq_false', bne_iff_ne, beq_iff_eq, bne_eq_false_iff_eq, beq_eq_false_iff_ne, ne_eq, Bool.not_true, Bool.not_false, Bool.false_eq_true, Bool.true_eq_false, inB_true, inB_false] at hpd); exact ps_field rfl (by exact rfl) (by exact isw_ga _))) ?_; refine ok_pg rfl rfl rfl rfl rfl (gF _) (fun hp => by (have hpd := hp; (try simp only [decide_eq_true_eq, decide_eq_false_iff_not, Bool.or_eq_true, Bool.or_eq_false_iff, Bool.and_eq_true, Bool.and_eq_false_iff, Bool.not_eq_true', Bool.not_eq_false', bne_iff_ne, beq_iff_eq, bne_eq_false_iff_eq, beq_eq_false_iff_ne, ne_eq, Bool.not_true, Bool.not_false, Bool.false_eq_true, Bool.true_eq_false, inB_true, inB_false] at hpd); exact ps_load rfl (by (refine og rfl ?_; assumption)) (by exact Rds.cell (rds_box 0 rfl) rfl))) ?_; refine ok_pg rfl rfl rfl rfl rfl (gF _) (fun hp => by (have hpd := hp; (try simp only [decide_eq_true_eq, decide_eq_false_iff_not, Bool.or_eq_true, Bool.or_eq_false_iff, Bool.and_eq_true, Bool.and_eq_false_iff, Bool.not_eq_true', Bool.not_eq_false', bne_iff_ne, beq_iff_eq, bne_eq_false_iff_eq, beq_eq_false_iff_ne, ne_eq, Bool.not_true, Bool.not_false, Bool.false_eq_true, Bool.true_eq_false, inB_true, inB_false] at hpd); exact ps_move rfl (by exact rfl))) ?_; refine ok_pg rfl rfl rfl rfl rfl (gF _) (fun hp => by (have hpd := hp; (try simp only [decide_eq_true_eq, decide_eq_false_iff_not, Bool.or_eq_true, Bool.or_eq_false_iff, Bool.and_eq_true, Bool.and_eq_false_iff, Bool.not_eq_true', Bool.not_eq_false', bne_iff_ne, beq_iff_eq, bne_eq_false_iff_eq, beq_eq_false_iff_ne, ne_eq, Bool.not_true, Bool.not_false, Bool.false_eq_true, Bool.true_eq_false, inB_true, inB_false] at hpd); exact ps_index rfl (by (refine og rfl ?_; assumption)) (by (refine og rfl ?_; assumption)) ⟨by omega, by omega⟩ (isw_row 2 rfl (by omega)))) ?_; refine ok_pg rfl rfl rfl rfl rfl (gF _) (fun hp => by (have hpd := hp; (try simp only [decide_eq_true_eq, decide_eq_false_iff_not, Bool.or_eq_true, Bool.or_eq_false_iff, Bool.and_eq_true, Bool.and_eq_false_iff, Bool.not_eq_true', Bool.not_eq_false', bne_iff_ne, beq_iff_eq, bne_eq_false_iff_eq, beq_eq_false_iff_ne, ne_eq, Bool.not_true, Bool.not_false, Bool.false_eq_true, Bool.true_eq_false, inB_true, inB_false] at hpd); exact ps_field rfl (by (refine og rfl ?_; assumption)) (by exact isw_row 2 rfl (by omega)))) ?_; refine ok_pg rfl rfl rfl rfl rfl (gF _) (fun hp => by (have hpd := hp; (try simp only [decide_eq_true_eq, decide_eq_false_iff_not, Bool.or_eq_true, Bool.or_eq_false_iff, Bool.and_eq_true, Bool.and_eq_false_iff, Bool.not_eq_true', Bool.not_eq_false', bne_iff_ne, beq_iff_eq, bne_eq_false_iff_eq, beq_eq_false_iff_ne, ne_eq, Bool.not_true, Bool.not_false, Bool.false_eq_true, Bool.true_eq_false, inB_true, inB_false] at hpd); exact ps_load rfl (by (refine og rfl ?_; assumption)) (Rds.cell (rds_row 2 rfl) (fl_at S z.toNat 4 (by omega) (by decide))))) ?_; refine ok_p rfl rfl rfl (by exact ps_or rfl rfl rfl) ?_; refine ok_p rfl rfl rfl (by exact ps_move rfl rfl) ?_; refine ok_pg rfl rfl rfl rfl rfl (gF _) (fun hp => by (have hpd := hp; (try simp only [decide_eq_true_eq, decide_eq_false_iff_not, Bool.or_eq_true, Bool.or_eq_false_iff, Bool.and_eq_true, Bool.and_eq_false_iff, Bool.not_eq_true', Bool.not_eq_false', bne_iff_ne, beq_iff_eq, bne_eq_false_iff_eq, beq_eq_false_iff_ne, ne_eq, Bool.not_true, Bool.not_false, Bool.false_eq_true, Bool.true_eq_false, inB_true, inB_false] at hpd); exact ps_move rfl (by exact rfl))) ?_; refine ok_pg rfl rfl rfl rfl rfl (gF _) (fun hp => by (have hpd := hp; (try simp only [decide_eq_true_eq, decide_eq_false_iff_not, Bool.or_eq_true, Bool.or_eq_false_iff, Bool.and_eq_true, Bool.and_eq_false_iff, Bool.not_eq_true', Bool.not_eq_false', bne_iff_ne, beq_iff_eq, bne_eq_false_iff_eq, beq_eq_false_iff_ne, ne_eq, Bool.not_true, Bool.not_false, Bool.false_eq_true, Bool.true_eq_false, inB_true, inB_false] at hpd); exact ps_slen rfl (by (refine og rfl ?_; assumption)))) ?_; refine ok_pg rfl rfl rfl rfl rfl (gF _) (fun hp => by (have hpd := hp; (try simp only [decide_eq_true_eq, decide_eq_false_iff_not, Bool.or_eq_true, Bool.or_eq_false_iff, Bool.and_eq_true, Bool.and_eq_false_iff, Bool.not_eq_true', Bool.not_eq_false', bne_iff_ne, beq_iff_eq, bne_eq_false_iff_eq, beq_eq_false_iff_ne, ne_eq, Bool.not_true, Bool.not_false, Bool.false_eq_true, Bool.true_eq_false, inB_true, inB_false] at hpd); exact ps_int rfl (by (refine og rfl ?_; assumption)) (by exact rfl) rfl)) ?_; refine ok_p rfl rfl rfl (by exact ps_or rfl rfl rfl) ?_; refine ok_nil ?_; refine ok_env [(2, _), (3, _), (6, _), (8, _), (9, _), (38, _)] ⟨rfl, rfl, rfl, rfl, rfl, rfl, trivial⟩ ?_)
    | (refine ok_region (i := 6) ?_; refine ok_p rfl rfl rfl (by exact ps_loads rfl rfl (by exact rds_box 0 rfl) rfl rfl (by decide)) ?_; refine ok_m_ rfl rfl (by exact ms_store 4 rfl rfl rfl rfl rfl rfl rfl rfl) ?_; rintro y_ hy_; refine ok_p rfl rfl rfl (by exact ps_assign rfl rfl) ?_; refine ok_nil ?_; refine ok_env [(6, _), (7, _)] ⟨rfl, rfl, trivial⟩ ?_))
  · have hor : z < 0 ∨ (fileAt (dats R) z.toNat).sl = true ∨ (((fileAt (dats R) z.toNat).bl.length + (freeF (dats R)).length : Nat) : Int) * 8 - (fileAt (dats R) z.toNat).ln < text.size := by
      by_cases hz0 : z < 0
      · exact .inl hz0
      · rw [HA.out hz0]
        rcases hd with (h | h) | h
        · exact absurd h hz0
        · exact .inr (.inl h)
        · exact .inr (.inr ((HRM.out z.toNat (by omega)).2 (.inl (by omega))))
    rw [HT.out hor]
    refine ok_endL (vs := [_, _]) rfl ⟨⟨_, 4, _, _, _, rfl, rfl, inferInstance, rfl, rfl⟩, rfl, trivial⟩ (fun w' hw => ⟨fsY (y20 0).A (y20 0).c (y20 1).A (y20 1).c S w', ?_, trivial, hw.below, ?_⟩)
    · rw [← sd, fsY_val, sl]; rfl
    · rw [← sd, fsY_obj, sl]
      exact NewOk.of (hw.sel [1, 2, 3] (by decide) rfl (G' := []) (fun _ h => by cases h))
  obtain ⟨i, rfl⟩ : ∃ i : Nat, z = (i : Int) := ⟨z.toNat, by omega⟩
  simp only [Int.toNat_natCast] at hd HA HT HY ⊢
  have hi : i < S.length := by omega
  have hiR : i < R.length := by omega
  have e1 : fileAt (dats R) i = (nth S i).d := HA.out (by omega)
  have hb24 := HN.out i hi
  unfold ceil8 at hb24
  have hin : (In.inn (nth S i).d).length = (nth S i).d.bl.length := rfl
  have htz : (text.size : Int) ≤ 192 := by omega
  have hsl : (nth S i).d.sl = false := hd.1.2
  clear hc hd
  have hmS : (nth S i).d ∈ dats R := by rw [← sd]; exact List.mem_map.2 ⟨_, nth_mem S i hi, rfl⟩
  have htx : TxtR B (nth S i).d := TxtR.of g hmS
  have hts : ((fText B (nth S i).d).size : Int) = (nth S i).d.ln := text_len g hmS
  refine ok_region (i := 7) ?_
  refine ok_p rfl rfl rfl (by exact ps_loads rfl rfl (by exact rds_box 0 rfl) rfl rfl (by decide)) ?_
  refine ok_p rfl rfl rfl (by exact ps_move rfl rfl) ?_
  refine ok_m rfl rfl rfl (by exact ms_s2 rfl rfl rfl (fun _ _ w hw => s_textS _ _ B _ _ R.length S i sl hi w (rds_row 1 rfl _ _ w hw) (RdN.own hw 2 3 rfl rfl) htx)) ?_
  rintro y42 hy42
  refine ok_p rfl rfl rfl (by exact ps_move rfl rfl) ?_
  refine ok_p rfl rfl rfl (by exact ps_sadd rfl rfl rfl (by omega)) ?_
  refine ok_p rfl rfl rfl (by exact ps_assign rfl rfl) ?_
  refine ok_nil ?_
  refine ok_env [(3, _), (6, _), (8, _), (9, _), (10, _)] ⟨rfl, rfl, rfl, rfl, rfl, trivial⟩ ?_
  have hss : ((fText B (nth S i).d ++ text).size : Int) = (nth S i).d.ln + text.size := by rw [ByteArray.size_append]; omega
  have hes : fText B (nth S i).d ++ text = (appS ⟨B, dats R⟩ i text).s := by rw [← e1]; rfl
  have HES := Lib.hid hes; clear hes
  generalize fText B (nth S i).d ++ text = s at hss HES ⊢
  refine ok_then ?_
  refine ok_seq ?_
  refine ok_region (i := 8) ?_
  refine ok_m rfl rfl rfl (by exact ms_lit rfl parts_nil rfl rfl rfl) ?_
  rintro y45 hy45
  refine ok_p rfl rfl rfl (by exact ps_field rfl rfl (by exact isw_ga _)) ?_
  refine ok_p rfl rfl rfl (by exact ps_load rfl rfl (by exact Rds.cell (rds_box 1 rfl) rfl)) ?_
  refine ok_p rfl rfl rfl (by exact ps_move rfl rfl) ?_
  refine ok_p rfl rfl rfl (by exact ps_indexN rfl rfl rfl (by omega) (isw_row 3 rfl (by omega))) ?_
  refine ok_p rfl rfl rfl (by exact ps_field rfl rfl (by exact isw_row 3 rfl (by omega))) ?_
  refine ok_p rfl rfl rfl (by exact ps_load rfl rfl (by exact Rds.cell (rds_row 3 rfl) (by exact fl_at _ _ _ (by omega) (by decide)))) ?_
  refine ok_m rfl rfl rfl (by exact ms_app0n (nth S i).d.bl 0 rfl rfl rfl rfl (rds_bag 4 i rfl hi) rfl rfl (by omega) (by omega)) ?_
  rintro y52 hy52
  refine ok_p rfl rfl rfl (by exact ps_assign rfl rfl) ?_
  refine ok_nil ?_
  refine ok_env [(3, _), (6, _), (8, _), (9, _), (10, _), (11, _)] ⟨rfl, rfl, rfl, rfl, rfl, rfl, trivial⟩ ?_
  generalize hm : (ceil8 (s.size : Int)).toNat - (nth S i).d.bl.length = m
  have hml : (m : Int) = ceil8 (s.size : Int) - (nth S i).d.bl.length := by unfold ceil8 at hm ⊢; omega
  have hc8 : ceil8 (s.size : Int) ≤ 1000 := by unfold ceil8; omega
  have hu0 : (nth S i).d.bl ++ takK (dats R) m 0 = (nth S i).d.bl := by unfold takK freeK; simp
  refine ok_then ?_
  repeat' (first
    | refine ok_seq ?_
    | refine ok_then ?_
    | refine ok_block ?_
    | (refine ok_region (i := 9) ?_; refine ok_p rfl rfl rfl (by exact ps_assign rfl rfl) ?_; refine ok_nil ?_; refine ok_env [(3, _), (6, _), (8, _), (9, _), (10, _), (11, _), (12, _)] ⟨rfl, rfl, rfl, rfl, rfl, rfl, rfl, trivial⟩ ?_))
  refine ok_loop (ι := AzI) (fun q => 24 - q.k) (fun q => ([(3, pt (ga (y3 0).c) 0), (6, pt (ga (y6 0).c) 0), (8, pt (ga (y8 0).c) 0), (9, .int .i64 i), (10, .string s), (11, .slice q.A ((nth S i).d.bl ++ takK (dats R) m q.k).length q.c), (12, .int .i64 q.k)], [.row 3 1 q.A ((nth S i).d.bl ++ takK (dats R) m q.k).length q.c (fl ((nth S i).d.bl ++ takK (dats R) m q.k)), .box (y8 0).c 27 [.slice (y20 0).A B.length (y20 0).c, .slice (y20 1).A R.length (y20 1).c], .row 9 1 (y20 0).A B.length (y20 0).c (fl B), .row 36 5 (y20 1).A R.length (y20 1).c (fl S), .bag 3 1 (rowsOf S), _, _], _)) ⟨0, (y52 0).A, (y52 0).c, by omega⟩ (fun a w he hw => ⟨⟨0, (y52 0).A, (y52 0).c, by omega⟩, he.sub ⟨rfl, rfl, rfl, rfl, rfl, by simp only; rw [hu0]; rfl, rfl, trivial⟩, by simp only; rw [hu0]; exact hw⟩) ?_
  rintro ⟨k, A2, c2, hk⟩
  simp only at hk ⊢
  have htk := fun h => takK_succ (dats R) (m := m) (k := k) h
  have HTK := Lib.hid htk; clear htk
  have hte := fun h => takK_end (dats R) (m := m) (k := k) hk h
  have HTE := Lib.hid hte; clear hte
  have hLl : ((nth S i).d.bl ++ takK (dats R) m k).length = (nth S i).d.bl.length + (takK (dats R) m k).length := List.length_append
  have htl : (takK (dats R) m k).length ≤ m := by unfold takK; rw [List.length_take]; omega
  have ht24 : k = 24 → (takK (dats R) m k).length = min m (freeF (dats R)).length := fun h => by subst h; unfold takK; rw [freeK_24, List.length_take]
  have HT24 := Lib.hid ht24; clear ht24
  have hLt : takK (dats R) m (k + 1) = takK (dats R) m k ++ (if usedF (dats R) k = true then [] else [(k : Int)]) → (nth S i).d.bl ++ takK (dats R) m (k + 1) = ((nth S i).d.bl ++ takK (dats R) m k) ++ (if usedF (dats R) k = true then [] else [(k : Int)]) := fun h => by rw [h, List.append_assoc]
  have HLT := Lib.hid hLt; clear hLt
  have h24 : ∀ k, k < R.length → (nth S k).d.bl.length ≤ 24 := fun k hk => (HN.out k (by omega)).1
  have H24 := Lib.hid h24; clear h24
  generalize hLk : (nth S i).d.bl ++ takK (dats R) m k = Lk at hLl HLT ⊢
  repeat' (first
    | refine ok_seq ?_
    | refine ok_then ?_
    | refine ok_then_ret ?_
    | refine ok_block ?_
    | refine ok_in_normal ?_
    | (refine ok_cond rfl (fun hc => ?_) (fun hc => ?_) <;> (have hd := hc; (try simp only [decide_eq_true_eq, decide_eq_false_iff_not, Bool.or_eq_true, Bool.or_eq_false_iff, Bool.and_eq_true, Bool.and_eq_false_iff, Bool.not_eq_true', Bool.not_eq_false', bne_iff_ne, beq_iff_eq, bne_eq_false_iff_eq, beq_eq_false_iff_ne, ne_eq, Bool.not_true, Bool.not_false, Bool.false_eq_true, Bool.true_eq_false, inB_true, inB_false] at hd)))
    | refine ok_ret ?_
    | refine ok_exit ?_
    | refine ok_skip ?_
    | (refine ok_region (i := 10) ?_; refine ok_p rfl rfl rfl (by exact ps_move rfl rfl) ?_; refine ok_p rfl rfl rfl (by exact ps_int rfl rfl rfl rfl) ?_; refine ok_p rfl rfl rfl (by exact ps_move rfl rfl) ?_; refine ok_pg rfl rfl rfl rfl rfl (gT _) (fun hp => by (have hpd := hp; (try simp only [decide_eq_true_eq, decide_eq_false_iff_not, Bool.or_eq_true, Bool.or_eq_false_iff, Bool.and_eq_true, Bool.and_eq_false_iff, Bool.not_eq_true', Bool.not_eq_false', bne_iff_ne, beq_iff_eq, bne_eq_false_iff_eq, beq_eq_false_iff_ne, ne_eq, Bool.not_true, Bool.not_false, Bool.false_eq_true, Bool.true_eq_false, inB_true, inB_false] at hpd); exact ps_move rfl (by exact rfl))) ?_; refine ok_pg rfl rfl rfl rfl rfl (gT _) (fun hp => by (have hpd := hp; (try simp only [decide_eq_true_eq, decide_eq_false_iff_not, Bool.or_eq_true, Bool.or_eq_false_iff, Bool.and_eq_true, Bool.and_eq_false_iff, Bool.not_eq_true', Bool.not_eq_false', bne_iff_ne, beq_iff_eq, bne_eq_false_iff_eq, beq_eq_false_iff_ne, ne_eq, Bool.not_true, Bool.not_false, Bool.false_eq_true, Bool.true_eq_false, inB_true, inB_false] at hpd); exact ps_len rfl (by (refine og rfl ?_; assumption)))) ?_; refine ok_pg rfl rfl rfl rfl rfl (gT _) (fun hp => by (have hpd := hp; (try simp only [decide_eq_true_eq, decide_eq_false_iff_not, Bool.or_eq_true, Bool.or_eq_false_iff, Bool.and_eq_true, Bool.and_eq_false_iff, Bool.not_eq_true', Bool.not_eq_false', bne_iff_ne, beq_iff_eq, bne_eq_false_iff_eq, beq_eq_false_iff_ne, ne_eq, Bool.not_true, Bool.not_false, Bool.false_eq_true, Bool.true_eq_false, inB_true, inB_false] at hpd); exact ps_move rfl (by exact rfl))) ?_; refine ok_pg rfl rfl rfl rfl rfl (gT _) (fun hp => by (have hpd := hp; (try simp only [decide_eq_true_eq, decide_eq_false_iff_not, Bool.or_eq_true, Bool.or_eq_false_iff, Bool.and_eq_true, Bool.and_eq_false_iff, Bool.not_eq_true', Bool.not_eq_false', bne_iff_ne, beq_iff_eq, bne_eq_false_iff_eq, beq_eq_false_iff_ne, ne_eq, Bool.not_true, Bool.not_false, Bool.false_eq_true, Bool.true_eq_false, inB_true, inB_false] at hpd); exact ps_slen rfl (by (refine og rfl ?_; assumption)))) ?_; refine ok_mg rfl rfl rfl rfl rfl (gT _) (fun hp => by (have hpd := hp; (try simp only [decide_eq_true_eq, decide_eq_false_iff_not, Bool.or_eq_true, Bool.or_eq_false_iff, Bool.and_eq_true, Bool.and_eq_false_iff, Bool.not_eq_true', Bool.not_eq_false', bne_iff_ne, beq_iff_eq, bne_eq_false_iff_eq, beq_eq_false_iff_ne, ne_eq, Bool.not_true, Bool.not_false, Bool.false_eq_true, Bool.true_eq_false, inB_true, inB_false] at hpd); exact ms_s1 rfl (by (refine og rfl ?_; assumption)) (fun _ _ w hw => need_c _ ⟨by omega, by omega⟩ w))) ?_; refine ok_pg rfl rfl rfl rfl rfl (gT _) (fun hp => by (have hpd := hp; (try simp only [decide_eq_true_eq, decide_eq_false_iff_not, Bool.or_eq_true, Bool.or_eq_false_iff, Bool.and_eq_true, Bool.and_eq_false_iff, Bool.not_eq_true', Bool.not_eq_false', bne_iff_ne, beq_iff_eq, bne_eq_false_iff_eq, beq_eq_false_iff_ne, ne_eq, Bool.not_true, Bool.not_false, Bool.false_eq_true, Bool.true_eq_false, inB_true, inB_false] at hpd); exact ps_int rfl (by (refine og rfl ?_; assumption)) (by (refine og rfl ?_; assumption)) rfl)) ?_; refine ok_p rfl rfl rfl (by exact ps_and rfl rfl rfl) ?_; refine ok_nil ?_; refine ok_env [(3, _), (6, _), (8, _), (9, _), (10, _), (11, _), (12, _), (62, _)] ⟨rfl, rfl, rfl, rfl, rfl, rfl, rfl, rfl, trivial⟩ ?_)
    | (refine ok_region (i := 11) ?_; refine ok_p rfl rfl rfl (by exact ps_move rfl rfl) ?_; refine ok_p rfl rfl rfl (by exact ps_add rfl rfl rfl (by omega)) ?_; refine ok_p rfl rfl rfl (by exact ps_assign rfl rfl) ?_; refine ok_nil ?_; refine ok_env [(3, _), (6, _), (8, _), (9, _), (10, _), (11, _), (12, _)] ⟨rfl, rfl, rfl, rfl, rfl, rfl, rfl, trivial⟩ ?_)
    | (refine ok_region (i := 12) ?_; refine ok_p rfl rfl rfl (by exact ps_loads rfl rfl (by exact rds_box 1 rfl) rfl rfl (by decide)) ?_; refine ok_p rfl rfl rfl (by exact ps_move rfl rfl) ?_; refine ok_m rfl rfl rfl (by exact ms_c2 rfl rfl rfl (fun _ _ w hw => s_owner_c _ (y20 1).A R.length (y20 1).c S k w (RdN.own hw 3 4 rfl rfl) sl hR H24.out rfl)) ?_; rintro y67 hy67; refine ok_p rfl rfl rfl (by exact ps_int rfl rfl rfl rfl) ?_; refine ok_nil ?_; refine ok_env [(3, _), (6, _), (8, _), (9, _), (10, _), (11, _), (12, _), (68, _)] ⟨rfl, rfl, rfl, rfl, rfl, rfl, rfl, rfl, trivial⟩ ?_)
    | (refine ok_region (i := 13) ?_; refine ok_p rfl rfl rfl (by exact ps_move rfl rfl) ?_; refine ok_p rfl rfl rfl (by exact ps_move rfl rfl) ?_; refine ok_m rfl rfl rfl (by exact ms_lit rfl (parts_cons rfl parts_nil) rfl rfl rfl) ?_; rintro y71 hy71; refine ok_m rfl rfl rfl (by exact ms_appF (α := Int) (L := Lk) (M := [(k : Int)]) 1 rfl rfl rfl rfl (rds_row 0 rfl) rfl (by simp; omega) (by simp; omega)) ?_; rintro y72 hy72; refine ok_p rfl rfl rfl (by exact ps_assign rfl rfl) ?_; refine ok_nil ?_; refine ok_env [(3, _), (6, _), (8, _), (9, _), (10, _), (11, _), (12, _)] ⟨rfl, rfl, rfl, rfl, rfl, rfl, rfl, trivial⟩ ?_)
    | (refine ok_region (i := 14) ?_; refine ok_p rfl rfl rfl (by exact ps_move rfl rfl) ?_; refine ok_p rfl rfl rfl (by exact ps_len rfl rfl) ?_; refine ok_p rfl rfl rfl (by exact ps_move rfl rfl) ?_; refine ok_p rfl rfl rfl (by exact ps_slen rfl rfl) ?_; refine ok_m rfl rfl rfl (by exact ms_s1 rfl rfl (fun _ _ w hw => need_c _ ⟨by omega, by omega⟩ w)) ?_; rintro y77 hy77; refine ok_p rfl rfl rfl (by exact ps_int rfl rfl rfl rfl) ?_; refine ok_nil ?_; refine ok_env [(3, _), (6, _), (8, _), (9, _), (10, _), (11, _), (78, _)] ⟨rfl, rfl, rfl, rfl, rfl, rfl, rfl, trivial⟩ ?_)
    | (refine ok_region (i := 15) ?_; refine ok_p rfl rfl rfl (by exact ps_loads rfl rfl (by exact rds_box 6 rfl) rfl rfl (by decide)) ?_; refine ok_m rfl rfl rfl (by exact ms_c1 rfl rfl (fun _ _ w hw => s_copy_o A c B A' c' R w (rds_rf h1 (by exact List.mem_cons_self) _ _ w hw) (RdN.keep hw ⟨q1, Q2.out⟩ (by exact List.mem_cons_self)) hl hl2 HL.out)) ?_; rintro y80 hy80; refine ok_m_ rfl rfl (by exact ms_store 8 rfl rfl rfl rfl rfl rfl rfl rfl) ?_; rintro y_ hy_; refine ok_p rfl rfl rfl (by exact ps_assign rfl rfl) ?_; refine ok_nil ?_; refine ok_env [(6, _), (7, _)] ⟨rfl, rfl, trivial⟩ ?_))
  · have hk24 : k < 24 := by omega
    have hnu : usedF (dats R) k = false := by rw [← sd]; exact hy67.1 hd
    have ht1 := HTK.out (by omega)
    have e := HLT.out ht1
    rw [hnu, if_neg (by decide)] at e
    refine fun a w' he hw => ⟨⟨k + 1, (y72 0).A, (y72 0).c, by omega⟩, by simp only; omega, ?_, ?_⟩
    · simp only
      rw [e, List.length_append]
      exact he.sub ⟨rfl, rfl, rfl, rfl, rfl, rfl, rfl, trivial⟩
    · simp only
      rw [e, List.length_append]
      exact hw.tl
  · have hk24 : k < 24 := by omega
    have hnu : usedF (dats R) k = true := by
      cases hu : usedF (dats R) k with
      | true => rfl
      | false => exact absurd (hy67.2 (by rw [sd]; exact hu)) hd
    have ht1 := HTK.out (by omega)
    have e := HLT.out ht1
    rw [hnu, if_pos rfl, List.append_nil] at e
    refine fun a w' he hw => ⟨⟨k + 1, A2, c2, by omega⟩, by simp only; omega, ?_, ?_⟩
    · simp only
      rw [e]
      exact he.sub ⟨rfl, rfl, rfl, rfl, rfl, rfl, rfl, trivial⟩
    · simp only
      rw [e]
      exact hw
  · have h24k := HT24.out (by omega)
    rw [HT.out (.inr (.inr (by rw [e1]; exact (HRM.out i hiR).2 (.inr (by rw [← hss]; omega)))))]
    obtain ⟨sd2, sl2⟩ := S_facts R y80
    generalize locs 2 (dats R) y80 = S2 at sd2 sl2 ⊢
    refine ok_endL (vs := [_, _]) rfl ⟨⟨_, 8, _, _, _, rfl, rfl, inferInstance, rfl, rfl⟩, rfl, trivial⟩ (fun w' hw => ⟨fsY (y80 0).A (y80 0).c (y80 1).A (y80 1).c S2 w', ?_, trivial, hw.below, ?_⟩)
    · rw [← sd2, fsY_val, sl2]; rfl
    · rw [← sd2, fsY_obj, sl2]
      exact NewOk.of (hw.sel [0, 1, 2] (by decide) rfl (G' := []) (fun _ h => by cases h))
  obtain ⟨htkE, hmf⟩ := HTE.out (by omega)
  have hfit : ¬ ((((fileAt (dats R) i).bl.length + (freeF (dats R)).length : Nat) : Int) * 8 - (fileAt (dats R) i).ln < text.size) := by
    rw [e1, HRM.out i hiR, ← hss]; omega
  rw [HY.out (by omega) (by rw [e1]; exact hsl) hfit]
  have hdl : i < (dats R).length := by rw [dats_len]; exact hiR
  have N := app_nums (x := ⟨B, dats R⟩) g hdl (text := text) (by show (text.size : Int) ≤ (((fileAt (dats R) i).bl.length + (freeF (dats R)).length : Nat) : Int) * 8 - (fileAt (dats R) i).ln; omega)
  have hs' := HES.out
  subst hs'
  have hnl := N.l
  have hLA : Lk = (appS ⟨B, dats R⟩ i text).bl := by
    have hb : (appS ⟨B, dats R⟩ i text).bl = (fileAt (dats R) i).bl ++ (freeF (dats R)).take ((appS ⟨B, dats R⟩ i text).bl.length - (fileAt (dats R) i).bl.length) := N.b
    rw [hb, ← hLk, htkE, e1]
    congr 2
    omega
  have hle : (appS ⟨B, dats R⟩ i text).bl.length ≤ 24 := by have h8 := N.n; have h9 := N.l; unfold ceil8 at h9; omega
  have hn192 := N.n
  unfold ceil8 at hnl
  subst hLA
  have hall : ∀ z : Int, z = ((appS ⟨B, dats R⟩ i text).bl.length : Int) * 8 - (appS ⟨B, dats R⟩ i text).s.size → (appS ⟨B, dats R⟩ i text).s ++ zrs z.toNat = allS ⟨B, dats R⟩ i text := fun z hz => by
    unfold allS
    rw [hz, show (((appS ⟨B, dats R⟩ i text).bl.length : Int) * 8 - (appS ⟨B, dats R⟩ i text).s.size).toNat = (appS ⟨B, dats R⟩ i text).bl.length * 8 - (appS ⟨B, dats R⟩ i text).s.size by omega]
  have HALL := Lib.hid hall; clear hall
  have hzs : (allS ⟨B, dats R⟩ i text).size = 8 * (appS ⟨B, dats R⟩ i text).bl.length := N.z
  have hrg : ∀ k, k < (appS ⟨B, dats R⟩ i text).bl.length → 0 ≤ nth (appS ⟨B, dats R⟩ i text).bl k ∧ nth (appS ⟨B, dats R⟩ i text).bl k ≤ 23 := fun k hk => N.r k hk
  have HG := Lib.hid hrg; clear hrg
  have hst : ∀ k, k < (appS ⟨B, dats R⟩ i text).bl.length → putB B ((appS ⟨B, dats R⟩ i text).bl.take (k + 1)) (appS ⟨B, dats R⟩ i text).t = (putB B ((appS ⟨B, dats R⟩ i text).bl.take k) (appS ⟨B, dats R⟩ i text).t).set (nth (appS ⟨B, dats R⟩ i text).bl k).toNat ((allS ⟨B, dats R⟩ i text).extract (k * 8) ((k + 1) * 8)) := fun k hk => app_set ⟨B, dats R⟩ i text hk
  have HSTP := Lib.hid hst; clear hst
  have hap := app_end ⟨B, dats R⟩ i text
  have HAP := Lib.hid hap; clear hap
  have hzb : (((appS ⟨B, dats R⟩ i text).bl.length : Int) * 8 - (appS ⟨B, dats R⟩ i text).s.size).toNat ≤ 192 ∧ 0 ≤ ((appS ⟨B, dats R⟩ i text).bl.length : Int) * 8 - (appS ⟨B, dats R⟩ i text).s.size ∧ ((appS ⟨B, dats R⟩ i text).bl.length : Int) * 8 - (appS ⟨B, dats R⟩ i text).s.size ≤ 64 := by omega
  try clear HTK
  try clear HT24
  try clear HTE
  try clear HLT
  try clear HT
  try clear HY
  try clear HN
  try clear HRM
  try clear H24
  try clear hfit
  try clear htkE
  try clear hmf
  try clear hml
  try clear hm
  try clear htl
  try clear hLl
  try clear HL
  try clear hss
  try clear hts
  try clear htx
  try clear hmS
  try clear hok
  try clear g
  try clear hc8
  try clear hu0
  try clear hk
  try clear Q2
  try clear q1
  try clear hdl
  clear hc hd
  repeat' (first
    | refine ok_seq ?_
    | refine ok_then ?_
    | refine ok_block ?_
    | (refine ok_region (i := 16) ?_; refine ok_p rfl rfl rfl (by exact ps_field rfl rfl (by exact isw_ga _)) ?_; refine ok_p rfl rfl rfl (by exact ps_load rfl rfl (by exact Rds.cell (rds_box 1 rfl) rfl)) ?_; refine ok_p rfl rfl rfl (by exact ps_move rfl rfl) ?_; refine ok_p rfl rfl rfl (by exact ps_move rfl rfl) ?_; refine ok_p rfl rfl rfl (by exact ps_indexN rfl rfl rfl (by omega) (isw_row 3 rfl (by omega))) ?_; refine ok_p rfl rfl rfl (by exact ps_field rfl rfl (by exact isw_row 3 rfl (by omega))) ?_; refine ok_m_ rfl rfl (by exact ms_setc 3 i 2 (⟨⟨(nth S i).d.no, (nth S i).d.ow, (appS ⟨B, dats R⟩ i text).bl, (nth S i).d.ln, (nth S i).d.sl⟩, A2, c2⟩ : LF) rfl rfl rfl rfl rfl rfl rfl rfl rfl (by omega)) ?_; rintro y_ hy_; refine ok_nil ?_; refine ok_env [(6, _), (8, _), (9, _), (10, _), (11, _)] ⟨rfl, rfl, rfl, rfl, rfl, trivial⟩ ?_)
    | (refine ok_region (i := 17) ?_; refine ok_p rfl rfl rfl (by exact ps_field rfl rfl (by exact isw_ga _)) ?_; refine ok_p rfl rfl rfl (by exact ps_load rfl rfl (by exact Rds.cell (rds_box 1 rfl) rfl)) ?_; refine ok_p rfl rfl rfl (by exact ps_move rfl rfl) ?_; refine ok_p rfl rfl rfl (by exact ps_move rfl rfl) ?_; refine ok_p rfl rfl rfl (by exact ps_slen rfl rfl) ?_; refine ok_p rfl rfl rfl (by exact ps_indexN rfl rfl rfl (by omega) (by exact isw_row 3 rfl (by omega))) ?_; refine ok_p rfl rfl rfl (by exact ps_field rfl rfl (by exact isw_row 3 rfl (by omega))) ?_; refine ok_m_ rfl rfl (by exact ms_setc 3 i 3 (⟨⟨(nth S i).d.no, (nth S i).d.ow, (appS ⟨B, dats R⟩ i text).bl, ((appS ⟨B, dats R⟩ i text).s.size : Int), (nth S i).d.sl⟩, A2, c2⟩ : LF) rfl rfl rfl rfl rfl rfl rfl rfl (by rw [nth_setZ hi]; rfl) (by rw [List.length_set]; omega)) ?_; rintro y_ hy_; refine ok_nil ?_; refine ok_env [(6, _), (8, _), (10, _), (11, _)] ⟨rfl, rfl, rfl, rfl, trivial⟩ ?_)
    | (refine ok_region (i := 18) ?_; refine ok_p rfl rfl rfl (by exact ps_move rfl rfl) ?_; refine ok_p rfl rfl rfl (by exact ps_move rfl rfl) ?_; refine ok_p rfl rfl rfl (by exact ps_len rfl rfl) ?_; refine ok_p rfl rfl rfl (by exact ps_mul rfl rfl rfl (by omega)) ?_; refine ok_p rfl rfl rfl (by exact ps_move rfl rfl) ?_; refine ok_p rfl rfl rfl (by exact ps_slen rfl rfl) ?_; refine ok_p rfl rfl rfl (by exact ps_sub rfl rfl rfl (by omega)) ?_; refine ok_m rfl rfl rfl (by exact ms_s1 rfl rfl (fun _ _ w hw => l30Zero_c _ hzb.2 w)) ?_; rintro y101 hy101; refine ok_p rfl rfl rfl (by exact ps_cast (v' := .string (allS ⟨B, dats R⟩ i text)) (ps_sadd rfl rfl rfl (by rw [zrs_size]; omega)) (congrArg Value.string (HALL.out _ rfl))) ?_; refine ok_p rfl rfl rfl (by exact ps_assign rfl rfl) ?_; refine ok_nil ?_; refine ok_env [(6, _), (8, _), (11, _), (13, _)] ⟨rfl, rfl, rfl, rfl, trivial⟩ ?_)
    | (refine ok_region (i := 19) ?_; refine ok_p rfl rfl rfl (by exact ps_assign rfl rfl) ?_; refine ok_nil ?_; refine ok_env [(6, _), (8, _), (11, _), (13, _), (14, _)] ⟨rfl, rfl, rfl, rfl, rfl, trivial⟩ ?_))
  clear hc hd
  obtain ⟨S2, hS2⟩ : ∃ S2, S2 = S.set i (⟨⟨(nth S i).d.no, (nth S i).d.ow, (appS ⟨B, dats R⟩ i text).bl, ((appS ⟨B, dats R⟩ i text).s.size : Int), (nth S i).d.sl⟩, A2, c2⟩ : LF) := ⟨_, rfl⟩
  have hS3 : (S.set i (⟨⟨(nth S i).d.no, (nth S i).d.ow, (appS ⟨B, dats R⟩ i text).bl, (nth S i).d.ln, (nth S i).d.sl⟩, A2, c2⟩ : LF)).set i (⟨⟨(nth S i).d.no, (nth S i).d.ow, (appS ⟨B, dats R⟩ i text).bl, ((appS ⟨B, dats R⟩ i text).s.size : Int), (nth S i).d.sl⟩, A2, c2⟩ : LF) = S2 := by rw [hS2, List.set_set]
  rw [hS3]
  have hd2 : dats S2 = (dats R).set i ⟨(fileAt (dats R) i).no, (fileAt (dats R) i).ow, (appS ⟨B, dats R⟩ i text).bl, ((appS ⟨B, dats R⟩ i text).s.size : Int), (fileAt (dats R) i).sl⟩ := by rw [hS2, dats_set, sd, e1]
  have hl22 : S2.length = R.length := by rw [hS2, List.length_set, sl]
  refine ok_loop (ι := { k : Nat // k ≤ (appS ⟨B, dats R⟩ i text).bl.length }) (fun k => (appS ⟨B, dats R⟩ i text).bl.length - k.1) (fun k => ([(6, pt (ga (y6 0).c) 0), (8, pt (ga (y8 0).c) 0), (11, .slice A2 (appS ⟨B, dats R⟩ i text).bl.length c2), (13, .string (allS ⟨B, dats R⟩ i text)), (14, .int .i64 k.1)], [.row 3 1 A2 (appS ⟨B, dats R⟩ i text).bl.length c2 (fl (appS ⟨B, dats R⟩ i text).bl), .box (y8 0).c 27 [.slice (y20 0).A B.length (y20 0).c, .slice (y20 1).A R.length (y20 1).c], .row 9 1 (y20 0).A B.length (y20 0).c (fl (putB B ((appS ⟨B, dats R⟩ i text).bl.take k.1) (appS ⟨B, dats R⟩ i text).t)), .row 36 5 (y20 1).A R.length (y20 1).c (fl S2), .bag 3 1 (rowsOf S), _, _], _)) ⟨0, Nat.zero_le _⟩ (fun a w he hw => ⟨⟨0, Nat.zero_le _⟩, he.sub ⟨rfl, rfl, rfl, rfl, rfl, trivial⟩, hw⟩) ?_
  rintro ⟨k, hk⟩
  simp only at hk ⊢
  have hpl : (putB B ((appS ⟨B, dats R⟩ i text).bl.take k) (appS ⟨B, dats R⟩ i text).t).length = B.length := put_len _ _ _
  have hstk := fun h => HSTP.out k h
  have HS3 := Lib.hid hstk; clear hstk
  generalize hC : putB B ((appS ⟨B, dats R⟩ i text).bl.take k) (appS ⟨B, dats R⟩ i text).t = C at hpl HS3 ⊢
  repeat' (first
    | refine ok_seq ?_
    | refine ok_then ?_
    | refine ok_block ?_
    | refine ok_in_normal ?_
    | (refine ok_cond rfl (fun hc => ?_) (fun hc => ?_) <;> (have hd := hc; (try simp only [decide_eq_true_eq, decide_eq_false_iff_not, Bool.or_eq_true, Bool.or_eq_false_iff, Bool.and_eq_true, Bool.and_eq_false_iff, Bool.not_eq_true', Bool.not_eq_false', bne_iff_ne, beq_iff_eq, bne_eq_false_iff_eq, beq_eq_false_iff_ne, ne_eq, Bool.not_true, Bool.not_false, Bool.false_eq_true, Bool.true_eq_false, inB_true, inB_false] at hd)))
    | refine ok_ret ?_
    | refine ok_exit ?_
    | refine ok_skip ?_
    | (refine ok_region (i := 20) ?_; refine ok_p rfl rfl rfl (by exact ps_move rfl rfl) ?_; refine ok_p rfl rfl rfl (by exact ps_move rfl rfl) ?_; refine ok_p rfl rfl rfl (by exact ps_len rfl rfl) ?_; refine ok_p rfl rfl rfl (by exact ps_int rfl rfl rfl rfl) ?_; refine ok_nil ?_; refine ok_env [(6, _), (8, _), (11, _), (13, _), (14, _), (106, _)] ⟨rfl, rfl, rfl, rfl, rfl, rfl, trivial⟩ ?_)
    | (refine ok_region (i := 21) ?_; refine ok_p rfl rfl rfl (by exact ps_move rfl rfl) ?_; refine ok_p rfl rfl rfl (by exact ps_add rfl rfl rfl (by omega)) ?_; refine ok_p rfl rfl rfl (by exact ps_assign rfl rfl) ?_; refine ok_nil ?_; refine ok_env [(6, _), (8, _), (11, _), (13, _), (14, _)] ⟨rfl, rfl, rfl, rfl, rfl, trivial⟩ ?_)
    | (refine ok_draw (id := 22) 14 rfl (by kernel_rfl) (by kernel_rfl) rfl (by repeat (first | exact pq_body | refine pq_then ?_ | refine pq_in ?_)) [0, 1, 2, 3, 4, 5, 6, 7, 8, 9, 10, 11, 12, 13, 14, 15, 16, 17, 18, 19, 20, 21, 22, 23] (by decide) rfl ?_; refine okT_take (i := 0) rfl (by kernel_rfl) rfl rfl rfl (by exact ps_field rfl rfl (by exact isw_ga _)) ?_; refine okT_take (i := 1) rfl (by kernel_rfl) rfl rfl rfl (by exact ps_load rfl rfl (by exact Rds.cell (rds_box 1 rfl) rfl)) ?_; refine okT_take (i := 2) rfl (by kernel_rfl) rfl rfl rfl (by exact ps_move rfl rfl) ?_; refine okT_take (i := 3) rfl (by kernel_rfl) rfl rfl rfl (by exact ps_move rfl rfl) ?_; refine okT_take (i := 4) rfl (by kernel_rfl) rfl rfl rfl (by exact ps_indexN rfl rfl rfl (by omega) (isw_row 0 rfl (by omega))) ?_; refine okT_take (i := 5) rfl (by kernel_rfl) rfl rfl rfl (by exact ps_load rfl rfl (Rds.cell (rds_row 0 rfl) (fl_at0 (appS ⟨B, dats R⟩ i text).bl k (by omega) (by decide)))) ?_; refine okT_take (i := 6) rfl (by kernel_rfl) rfl rfl rfl (by exact ps_move rfl rfl) ?_; refine okT_take (i := 7) rfl (by kernel_rfl) rfl rfl rfl (by exact ps_move rfl rfl) ?_; refine okT_take (i := 8) rfl (by kernel_rfl) rfl rfl rfl (by exact ps_mul rfl rfl rfl (by omega)) ?_; refine okT_take (i := 9) rfl (by kernel_rfl) rfl rfl rfl (by exact ps_move rfl rfl) ?_; refine okT_take (i := 10) rfl (by kernel_rfl) rfl rfl rfl (by exact ps_add rfl rfl rfl (by omega)) ?_; refine okT_take (i := 11) rfl (by kernel_rfl) rfl rfl rfl (by exact ps_mul rfl rfl rfl (by omega)) ?_; refine okT_take (i := 12) rfl (by kernel_rfl) rfl rfl rfl (by exact ps_sslE (k * 8) ((k + 1) * 8) rfl rfl ⟨_, _, rfl, by omega⟩ ⟨_, _, rfl, by omega⟩ (by omega) (by rw [hzs]; omega)) ?_; refine okT_take (i := 13) rfl (by kernel_rfl) rfl rfl rfl (by exact ps_index rfl rfl rfl (by have := HG.out k (by omega); omega) (isw_row 2 rfl (by omega))) ?_; refine okT_done (by kernel_rfl) ?_; refine ok_m_ rfl rfl (by exact ms_setw (α := ByteArray) 2 (nth (appS ⟨B, dats R⟩ i text).bl k).toNat ((allS ⟨B, dats R⟩ i text).extract (k * 8) ((k + 1) * 8)) rfl rfl rfl rfl rfl rfl rfl rfl rfl (by have := HG.out k (by omega); omega)) ?_; rintro y_ hy_; refine ok_nil ?_; refine ok_env [(6, _), (8, _), (11, _), (13, _), (14, _)] ⟨rfl, rfl, rfl, rfl, rfl, trivial⟩ ?_)
    | (refine ok_region (i := 23) ?_; refine ok_p rfl rfl rfl (by exact ps_loads rfl rfl (by exact rds_box 1 rfl) rfl rfl (by decide)) ?_; refine ok_m_ rfl rfl (by exact ms_store 5 rfl rfl rfl rfl rfl rfl rfl rfl) ?_; rintro y_ hy_; refine ok_p rfl rfl rfl (by exact ps_assign rfl rfl) ?_; refine ok_nil ?_; refine ok_env [(6, _), (7, _)] ⟨rfl, rfl, trivial⟩ ?_))
  · refine fun a w' he hw => ⟨⟨k + 1, by omega⟩, by simp only; omega, he.sub ⟨rfl, rfl, rfl, rfl, rfl, trivial⟩, ?_⟩
    simp only
    rw [HS3.out (by omega)]
    exact hw
  · have hk2 : k = (appS ⟨B, dats R⟩ i text).bl.length := by omega
    have hCe : appX ⟨B, dats R⟩ i text = ⟨C, dats S2⟩ := by rw [HAP.out, ← hC, hk2, hd2]
    rw [hCe]
    refine ok_endL (vs := [_, _]) rfl ⟨⟨_, 5, _, _, _, rfl, rfl, inferInstance, rfl, rfl⟩, rfl, trivial⟩ (fun w' hw => ⟨fsY (y20 0).A (y20 0).c (y20 1).A (y20 1).c S2 w', ?_, trivial, hw.below, ?_⟩)
    · rw [fsY_val, hl22, hpl]; rfl
    · rw [fsY_obj, hl22, hpl]
      have h5 := hw.sel [0, 4, 2, 3] (by decide) rfl (G' := []) (fun _ h => by cases h)
      have h6 := WOk.bagSwapZ i (⟨⟨(nth S i).d.no, (nth S i).d.ow, (appS ⟨B, dats R⟩ i text).bl, ((appS ⟨B, dats R⟩ i text).s.size : Int), (nth S i).d.sl⟩, A2, c2⟩ : LF) hi rfl rfl h5
      rw [← hS2] at h6
      exact NewOk.of (h6.sel [1, 2, 0] (by decide) rfl (fun _ h => h))
end Go.Proofs.Ytojgphgfhapacaa
/- FsAppend in the uniform style. -/
namespace Go.Proofs.Ytojgphgfhapacaa
open Go.RowKit
set_option maxHeartbeats 4000000
set_option linter.unusedVariables false
theorem i_FsAppend (x : DFStore) (y : Ys) (n : Int) (text : ByteArray) (w : World) (h : FStore_rd w x y) (hs : FStore_sm x) (hn : -9223372036854775808 ≤ n ∧ n ≤ 9223372036854775807) (ht : text.size ≤ 1048576) :
    Calls Try.prog 6 #[FStore_val x y, .int .i64 n, .string text] w fun e w' => ∃ y : Ys, e = .returned (.tuple #[FStore_val (fFsAppend x n text).1 y, .bool (fFsAppend x n text).2]) ∧ True ∧ Below w.heap.size w w' ∧ NewOk w.heap.size (FStore_obj (fFsAppend x n text).1 y) [] w' := by
  obtain ⟨n1, n2, n3⟩ := FS_n x hs
  have := i_FsAppend0 (y 0).A (y 0).c x.B (y 1).A (y 1).c (FS_loc x y) n text w h.1 h.2 n1 (by rw [locs_len]; exact n2) (by rw [dats_locs]; exact n3) ht
  rw [locs_len, dats_locs] at this
  exact this
theorem s_FsAppend (x : DFStore) (y : Ys) (n : Int) (text : ByteArray) (w : World) (h : FStore_rd w x y) (hs : FStore_sm x) (hn : -9223372036854775808 ≤ n ∧ n ≤ 9223372036854775807) (ht : text.size ≤ 1048576) :
    Calls Try.prog 7 #[FStore_val x y, .int .i64 n, .string text] w fun e w' => ∃ y : Ys, e = .returned (.tuple #[FStore_val (fFsAppend x n text).1 y, .bool (fFsAppend x n text).2]) ∧ True ∧ Below w.heap.size w w' ∧ NewOk w.heap.size (FStore_obj (fFsAppend x n text).1 y) [] w' := by
  obtain ⟨n1, n2, n3⟩ := FS_n x hs
  have := s_FsAppend0 (y 0).A (y 0).c x.B (y 1).A (y 1).c (FS_loc x y) n text w h.1 h.2 n1 (by rw [locs_len]; exact n2) (by rw [dats_locs]; exact n3) ht
  rw [locs_len, dats_locs] at this
  exact this
theorem FsAppend_lim (x : DFStore) (n : Int) (text : ByteArray) (hs : FStore_sm x) (hn : -9223372036854775808 ≤ n ∧ n ≤ 9223372036854775807) (ht : text.size ≤ 1048576) : FStore_lim (fFsAppend x n text).1 := by
  cases hok : fFsOk x with
  | false => rw [fil_bad hok]; exact noFs_lim
  | true => exact good_lim ((fs_good _).1 (fil_ok hok n text))
end Go.Proofs.Ytojgphgfhapacaa
/- FsNew of both programs. -/
namespace Go.Proofs.Ytojgphgfhapacaa
open Go.RowKit
set_option maxHeartbeats 4000000
set_option maxRecDepth 20000
set_option linter.unusedVariables false
set_option linter.unusedSimpArgs false
attribute [local irreducible] Calls
structure NwI where
  k : Nat
  A : Option Addr
  c : Nat
  hk : k ≤ 24
theorem zr_snoc (k : Nat) : List.replicate k (zrs 8) ++ [zrs 8] = List.replicate (k + 1) (zrs 8) := by rw [List.replicate_succ']

theorem s_FsNew (w : World) :
    Calls Try.prog 30 #[] w fun e w' => ∃ y : Ys, e = .returned (FStore_val fFsNew y) ∧ True ∧ Below w.heap.size w w' ∧ NewOk w.heap.size (FStore_obj fFsNew y) [] w' := by
  refine ok_enter 15 Try.func30 rfl rfl rfl ?_
  repeat' (first
    | refine ok_seq ?_
    | refine ok_then ?_
    | refine ok_then_ret ?_
    | refine ok_then_exit ?_
    | refine ok_block ?_
    | refine ok_in_normal ?_
    | refine ok_in_ret ?_
    | refine ok_in_exit ?_
    | refine ok_in_other rfl ?_
    | (refine ok_cond rfl (fun hc => ?_) (fun hc => ?_) <;> (have hd := hc; (try simp only [decide_eq_true_eq, decide_eq_false_iff_not, Bool.or_eq_true, Bool.or_eq_false_iff, Bool.and_eq_true, Bool.and_eq_false_iff, Bool.not_eq_true', Bool.not_eq_false', bne_iff_ne, beq_iff_eq, bne_eq_false_iff_eq, beq_eq_false_iff_ne, ne_eq, Bool.not_true, Bool.not_false, Bool.false_eq_true, Bool.true_eq_false, inB_true, inB_false] at hd)))
    | refine ok_ret ?_
    | refine ok_exit ?_
    | refine ok_skip ?_
    | (refine ok_region (i := 0) ?_; refine ok_m rfl rfl rfl (by exact ms_alloc rfl) ?_; rintro y0 hy0; refine ok_nil ?_; refine ok_env [(0, _)] ⟨rfl, trivial⟩ ?_)
    | (refine ok_region (i := 1) ?_; refine ok_p rfl rfl rfl (by exact ps_bld rfl parts_nil rfl) ?_; refine ok_m rfl rfl rfl (by exact ms_alloc rfl) ?_; rintro y1 hy1; refine ok_m_ rfl rfl (by first | exact ms_store 0 rfl rfl rfl rfl rfl rfl rfl rfl | exact ms_store 1 rfl rfl rfl rfl rfl rfl rfl rfl | exact ms_store 2 rfl rfl rfl rfl rfl rfl rfl rfl | exact ms_store 3 rfl rfl rfl rfl rfl rfl rfl rfl | exact ms_store 4 rfl rfl rfl rfl rfl rfl rfl rfl | exact ms_store 5 rfl rfl rfl rfl rfl rfl rfl rfl | exact ms_store 6 rfl rfl rfl rfl rfl rfl rfl rfl | exact ms_store 7 rfl rfl rfl rfl rfl rfl rfl rfl) ?_; rintro y_ hy_; refine ok_nil ?_; refine ok_env [(0, _), (1, _)] ⟨rfl, rfl, trivial⟩ ?_)
    | (refine ok_region (i := 2) ?_; refine ok_p rfl rfl rfl (by exact ps_assign rfl rfl) ?_; refine ok_nil ?_; refine ok_env [(0, _), (1, _), (2, _)] ⟨rfl, rfl, rfl, trivial⟩ ?_)
    | (refine ok_region (i := 3) ?_; refine ok_p rfl rfl rfl (by exact ps_move rfl rfl) ?_; refine ok_p rfl rfl rfl (by exact ps_int rfl rfl rfl rfl) ?_; refine ok_nil ?_; refine ok_env [(0, _), (1, _), (2, _), (5, _)] ⟨rfl, rfl, rfl, rfl, trivial⟩ ?_)
    | (refine ok_region (i := 4) ?_; refine ok_p rfl rfl rfl (by exact ps_move rfl rfl) ?_; refine ok_p rfl rfl rfl (by exact ps_add rfl rfl rfl (by omega)) ?_; refine ok_p rfl rfl rfl (by exact ps_assign rfl rfl) ?_; refine ok_nil ?_; refine ok_env [(0, _), (1, _), (2, _)] ⟨rfl, rfl, rfl, trivial⟩ ?_)
    | (refine ok_draw (id := 5) 6 rfl (by kernel_rfl) (by kernel_rfl) rfl (by repeat (first | exact pq_body | refine pq_then ?_ | refine pq_in ?_)) [0, 1, 2, 3, 4, 5, 6, 7, 8, 9, 10, 11, 12, 13, 14, 15, 16, 17, 18, 19, 20, 21, 22, 23] (by decide) rfl ?_; refine okT_take (i := 0) rfl (by kernel_rfl) rfl rfl rfl (by exact ps_field rfl rfl (by first | exact isw_ga _ | exact isw_some _ | exact isw_row 0 rfl (by omega) | exact isw_row 1 rfl (by omega) | exact isw_row 2 rfl (by omega) | exact isw_row 3 rfl (by omega) | exact isw_row 4 rfl (by omega) | exact isw_row 5 rfl (by omega) | exact isw_row 6 rfl (by omega) | exact isw_row 7 rfl (by omega) | exact isw_row 8 rfl (by omega) | exact isw_of (isS_fl (by assumption) (by omega)) | exact isw_of (by assumption))) ?_; refine okT_take (i := 1) rfl (by kernel_rfl) rfl rfl rfl (by exact ps_load rfl rfl (by first | exact Rds.cell (rds_box 0 rfl) rfl | exact Rds.cell (rds_box 1 rfl) rfl | exact Rds.cell (rds_box 2 rfl) rfl | exact Rds.cell (rds_box 3 rfl) rfl | exact Rds.cell (rds_box 4 rfl) rfl | exact Rds.cell (rds_box 5 rfl) rfl | exact Rds.cell (rds_box 6 rfl) rfl | exact Rds.cell (rds_box 7 rfl) rfl | exact Rds.cell (rds_box 8 rfl) rfl | exact Rds.cell (rds_box 9 rfl) rfl | exact Rds.cell (rds_box 10 rfl) rfl | exact Rds.cell (rds_box 11 rfl) rfl | exact Rds.cell (rds_box 12 rfl) rfl | exact Rds.cell (rds_box 13 rfl) rfl | exact Rds.cell (rds_box 14 rfl) rfl | exact Rds.cell (rds_box 15 rfl) rfl | exact Rds.cell (rds_box 16 rfl) rfl | exact Rds.cell (rds_box 17 rfl) rfl | exact Rds.cell (rds_box 18 rfl) rfl | exact Rds.cell (rds_box 19 rfl) rfl | exact Rds.cell (rds_box 20 rfl) rfl | exact Rds.cell (rds_box 21 rfl) rfl | exact Rds.cell (rds_box 22 rfl) rfl | exact Rds.cell (rds_box 23 rfl) rfl | exact Rds.cell (rds_rf (by assumption) (by first | exact List.mem_cons_self | exact List.mem_cons_of_mem _ List.mem_cons_self | simp)) (by first | exact fl_at0 _ _ (by omega) (by decide) | exact fl_at _ _ _ (by omega) (by decide)) | exact Rds.cell (rds_row 0 rfl) (by first | exact fl_at0 _ _ (by omega) (by decide) | exact fl_at _ _ _ (by omega) (by decide)) | exact Rds.cell (rds_row 1 rfl) (by first | exact fl_at0 _ _ (by omega) (by decide) | exact fl_at _ _ _ (by omega) (by decide)) | exact Rds.cell (rds_row 2 rfl) (by first | exact fl_at0 _ _ (by omega) (by decide) | exact fl_at _ _ _ (by omega) (by decide)) | exact Rds.cell (rds_row 3 rfl) (by first | exact fl_at0 _ _ (by omega) (by decide) | exact fl_at _ _ _ (by omega) (by decide)) | exact Rds.cell (rds_row 4 rfl) (by first | exact fl_at0 _ _ (by omega) (by decide) | exact fl_at _ _ _ (by omega) (by decide)) | exact Rds.cell (rds_row 5 rfl) (by first | exact fl_at0 _ _ (by omega) (by decide) | exact fl_at _ _ _ (by omega) (by decide)) | exact Rds.cell (rds_row 6 rfl) (by first | exact fl_at0 _ _ (by omega) (by decide) | exact fl_at _ _ _ (by omega) (by decide)) | exact Rds.cell (rds_row 7 rfl) (by first | exact fl_at0 _ _ (by omega) (by decide) | exact fl_at _ _ _ (by omega) (by decide)) | exact Rds.cell (rds_row 8 rfl) (by first | exact fl_at0 _ _ (by omega) (by decide) | exact fl_at _ _ _ (by omega) (by decide)) | exact Rds.cell (rds_row 9 rfl) (by first | exact fl_at0 _ _ (by omega) (by decide) | exact fl_at _ _ _ (by omega) (by decide)))) ?_; refine okT_one (i := 2) rfl rfl (by kernel_rfl) rfl rfl rfl (by fail "no maker call") (fun y w _ h => by first | exact h | exact h.tl | exact h.tl.tl | exact h.tl.tl.tl | exact h.tl.tl.tl.tl | exact h.gtl | exact h.tl.gtl | exact h.sel [0] (by decide) rfl (fun _ h => h) | exact h.tl.tl.tl.tl.tl | exact h.tl.tl.tl.tl.tl.tl | exact h.tl.tl.tl.tl.tl.tl.tl | exact h.tl.tl.tl.tl.tl.tl.tl.tl | exact h.tl.tl.tl.tl.tl.tl.tl.tl.tl | exact h.tl.tl.tl.tl.tl.tl.tl.tl.tl.tl) ?_; rintro y10 hy10; refine okT_one (i := 3) rfl rfl (by kernel_rfl) rfl rfl rfl (by exact ms_lit rfl (parts_cons rfl parts_nil) rfl rfl rfl) (fun y w _ h => by first | exact h | exact h.tl | exact h.tl.tl | exact h.tl.tl.tl | exact h.tl.tl.tl.tl | exact h.gtl | exact h.tl.gtl | exact h.sel [0] (by decide) rfl (fun _ h => h) | exact h.tl.tl.tl.tl.tl | exact h.tl.tl.tl.tl.tl.tl | exact h.tl.tl.tl.tl.tl.tl.tl | exact h.tl.tl.tl.tl.tl.tl.tl.tl | exact h.tl.tl.tl.tl.tl.tl.tl.tl.tl | exact h.tl.tl.tl.tl.tl.tl.tl.tl.tl.tl) ?_; rintro y11 hy11; refine okT_one (i := 4) rfl rfl (by kernel_rfl) rfl rfl rfl (by fail "no maker call") (fun y w _ h => by first | exact h | exact h.tl | exact h.tl.tl | exact h.tl.tl.tl | exact h.tl.tl.tl.tl | exact h.gtl | exact h.tl.gtl | exact h.sel [0] (by decide) rfl (fun _ h => h) | exact h.tl.tl.tl.tl.tl | exact h.tl.tl.tl.tl.tl.tl | exact h.tl.tl.tl.tl.tl.tl.tl | exact h.tl.tl.tl.tl.tl.tl.tl.tl | exact h.tl.tl.tl.tl.tl.tl.tl.tl.tl | exact h.tl.tl.tl.tl.tl.tl.tl.tl.tl.tl) ?_; rintro y12 hy12; refine okT_take (i := 5) rfl (by kernel_rfl) rfl rfl rfl (by exact ps_field rfl rfl (by first | exact isw_ga _ | exact isw_some _ | exact isw_row 0 rfl (by omega) | exact isw_row 1 rfl (by omega) | exact isw_row 2 rfl (by omega) | exact isw_row 3 rfl (by omega) | exact isw_row 4 rfl (by omega) | exact isw_row 5 rfl (by omega) | exact isw_row 6 rfl (by omega) | exact isw_row 7 rfl (by omega) | exact isw_row 8 rfl (by omega) | exact isw_of (isS_fl (by assumption) (by omega)) | exact isw_of (by assumption))) ?_; refine okT_done (by kernel_rfl) ?_; refine ok_m_ rfl rfl (by first | exact ms_store 0 rfl rfl rfl rfl rfl rfl rfl rfl | exact ms_store 1 rfl rfl rfl rfl rfl rfl rfl rfl | exact ms_store 2 rfl rfl rfl rfl rfl rfl rfl rfl | exact ms_store 3 rfl rfl rfl rfl rfl rfl rfl rfl | exact ms_store 4 rfl rfl rfl rfl rfl rfl rfl rfl | exact ms_store 5 rfl rfl rfl rfl rfl rfl rfl rfl | exact ms_store 6 rfl rfl rfl rfl rfl rfl rfl rfl | exact ms_store 7 rfl rfl rfl rfl rfl rfl rfl rfl) ?_; rintro y_ hy_; refine ok_nil ?_; refine ok_env [(0, _), (1, _), (2, _)] ⟨rfl, rfl, rfl, trivial⟩ ?_)
    | (refine ok_region (i := 6) ?_; refine ok_p rfl rfl rfl (by first | exact ps_loads rfl rfl (by first | exact rds_box 0 rfl | exact rds_box 1 rfl | exact rds_box 2 rfl | exact rds_box 3 rfl | exact rds_box 4 rfl | exact rds_box 5 rfl | exact rds_box 6 rfl | exact rds_box 7 rfl | exact rds_box 8 rfl | exact rds_box 9 rfl | exact rds_box 10 rfl | exact rds_box 11 rfl | exact rds_box 12 rfl | exact rds_box 13 rfl | exact rds_box 14 rfl | exact rds_box 15 rfl | exact rds_box 16 rfl | exact rds_box 17 rfl | exact rds_box 18 rfl | exact rds_box 19 rfl | exact rds_box 20 rfl | exact rds_box 21 rfl | exact rds_box 22 rfl | exact rds_box 23 rfl) rfl rfl (by decide) | exact ps_loadsF rfl rfl (by first | exact rds_row 0 rfl | exact rds_row 1 rfl | exact rds_row 2 rfl | exact rds_row 3 rfl | exact rds_row 4 rfl | exact rds_row 5 rfl | exact rds_row 6 rfl | exact rds_row 7 rfl | exact rds_row 8 rfl | exact rds_row 9 rfl | exact rds_row 10 rfl | exact rds_row 11 rfl | exact rds_row 12 rfl | exact rds_row 13 rfl | exact rds_row 14 rfl | exact rds_row 15 rfl | exact rds_row 16 rfl | exact rds_row 17 rfl | exact rds_row 18 rfl | exact rds_row 19 rfl | exact rds_row 20 rfl | exact rds_row 21 rfl | exact rds_row 22 rfl | exact rds_row 23 rfl | exact rds_rf (by assumption) (by first | exact List.mem_cons_self | exact List.mem_cons_of_mem _ List.mem_cons_self | simp)) (by rfl) (by rfl) (by omega) rfl) ?_; refine ok_m_ rfl rfl (by first | exact ms_store 0 rfl rfl rfl rfl rfl rfl rfl rfl | exact ms_store 1 rfl rfl rfl rfl rfl rfl rfl rfl | exact ms_store 2 rfl rfl rfl rfl rfl rfl rfl rfl | exact ms_store 3 rfl rfl rfl rfl rfl rfl rfl rfl | exact ms_store 4 rfl rfl rfl rfl rfl rfl rfl rfl | exact ms_store 5 rfl rfl rfl rfl rfl rfl rfl rfl | exact ms_store 6 rfl rfl rfl rfl rfl rfl rfl rfl | exact ms_store 7 rfl rfl rfl rfl rfl rfl rfl rfl) ?_; rintro y_ hy_; refine ok_nil ?_; refine ok_env [(0, _)] ⟨rfl, trivial⟩ ?_))
  refine ok_loop (ι := NwI) (fun q => 24 - q.k) (fun q => ([(0, pt (ga (y0 0).c) 0), (1, pt (ga (y1 0).c) 0), (2, .int .i64 q.k)], [.row 9 1 q.A q.k q.c (fl (List.replicate q.k (zrs 8))), .box (y1 0).c 27 [.slice q.A q.k q.c, .slice none 0 0], _], _)) ⟨0, none, 0, by omega⟩ (fun a w he hw => ⟨⟨0, none, 0, by omega⟩, he.sub ⟨rfl, rfl, rfl, trivial⟩, hw.rowNil 9 1⟩) ?_
  rintro ⟨k, A, c, hk⟩
  simp only at hk ⊢
  have hrl : (List.replicate k (zrs 8)).length = k := List.length_replicate
  repeat' (first
    | refine ok_seq ?_
    | refine ok_then ?_
    | refine ok_then_ret ?_
    | refine ok_then_exit ?_
    | refine ok_block ?_
    | refine ok_in_normal ?_
    | refine ok_in_ret ?_
    | refine ok_in_exit ?_
    | refine ok_in_other rfl ?_
    | (refine ok_cond rfl (fun hc => ?_) (fun hc => ?_) <;> (have hd := hc; (try simp only [decide_eq_true_eq, decide_eq_false_iff_not, Bool.or_eq_true, Bool.or_eq_false_iff, Bool.and_eq_true, Bool.and_eq_false_iff, Bool.not_eq_true', Bool.not_eq_false', bne_iff_ne, beq_iff_eq, bne_eq_false_iff_eq, beq_eq_false_iff_ne, ne_eq, Bool.not_true, Bool.not_false, Bool.false_eq_true, Bool.true_eq_false, inB_true, inB_false] at hd)))
    | refine ok_ret ?_
    | refine ok_exit ?_
    | refine ok_skip ?_
    | (refine ok_region (i := 0) ?_; refine ok_m rfl rfl rfl (by exact ms_alloc rfl) ?_; rintro y0 hy0; refine ok_nil ?_; refine ok_env [(0, _)] ⟨rfl, trivial⟩ ?_)
    | (refine ok_region (i := 1) ?_; refine ok_p rfl rfl rfl (by exact ps_bld rfl parts_nil rfl) ?_; refine ok_m rfl rfl rfl (by exact ms_alloc rfl) ?_; rintro y1 hy1; refine ok_m_ rfl rfl (by first | exact ms_store 0 rfl rfl rfl rfl rfl rfl rfl rfl | exact ms_store 1 rfl rfl rfl rfl rfl rfl rfl rfl | exact ms_store 2 rfl rfl rfl rfl rfl rfl rfl rfl | exact ms_store 3 rfl rfl rfl rfl rfl rfl rfl rfl | exact ms_store 4 rfl rfl rfl rfl rfl rfl rfl rfl | exact ms_store 5 rfl rfl rfl rfl rfl rfl rfl rfl | exact ms_store 6 rfl rfl rfl rfl rfl rfl rfl rfl | exact ms_store 7 rfl rfl rfl rfl rfl rfl rfl rfl) ?_; rintro y_ hy_; refine ok_nil ?_; refine ok_env [(0, _), (1, _)] ⟨rfl, rfl, trivial⟩ ?_)
    | (refine ok_region (i := 2) ?_; refine ok_p rfl rfl rfl (by exact ps_assign rfl rfl) ?_; refine ok_nil ?_; refine ok_env [(0, _), (1, _), (2, _)] ⟨rfl, rfl, rfl, trivial⟩ ?_)
    | (refine ok_region (i := 3) ?_; refine ok_p rfl rfl rfl (by exact ps_move rfl rfl) ?_; refine ok_p rfl rfl rfl (by exact ps_int rfl rfl rfl rfl) ?_; refine ok_nil ?_; refine ok_env [(0, _), (1, _), (2, _), (5, _)] ⟨rfl, rfl, rfl, rfl, trivial⟩ ?_)
    | (refine ok_region (i := 4) ?_; refine ok_p rfl rfl rfl (by exact ps_move rfl rfl) ?_; refine ok_p rfl rfl rfl (by exact ps_add rfl rfl rfl (by omega)) ?_; refine ok_p rfl rfl rfl (by exact ps_assign rfl rfl) ?_; refine ok_nil ?_; refine ok_env [(0, _), (1, _), (2, _)] ⟨rfl, rfl, rfl, trivial⟩ ?_)
    | (refine ok_draw (id := 5) 6 rfl (by kernel_rfl) (by kernel_rfl) rfl (by repeat (first | exact pq_body | refine pq_then ?_ | refine pq_in ?_)) [1, 2] (by decide) rfl ?_; refine okT_take (i := 0) rfl (by kernel_rfl) rfl rfl rfl (by exact ps_field rfl rfl (by first | exact isw_ga _ | exact isw_some _ | exact isw_row 0 rfl (by omega) | exact isw_row 1 rfl (by omega) | exact isw_row 2 rfl (by omega) | exact isw_row 3 rfl (by omega) | exact isw_row 4 rfl (by omega) | exact isw_row 5 rfl (by omega) | exact isw_row 6 rfl (by omega) | exact isw_row 7 rfl (by omega) | exact isw_row 8 rfl (by omega) | exact isw_of (isS_fl (by assumption) (by omega)) | exact isw_of (by assumption))) ?_; refine okT_take (i := 1) rfl (by kernel_rfl) rfl rfl rfl (by exact ps_load rfl rfl (by first | exact Rds.cell (rds_box 0 rfl) rfl | exact Rds.cell (rds_box 1 rfl) rfl | exact Rds.cell (rds_box 2 rfl) rfl | exact Rds.cell (rds_box 3 rfl) rfl | exact Rds.cell (rds_box 4 rfl) rfl | exact Rds.cell (rds_box 5 rfl) rfl | exact Rds.cell (rds_box 6 rfl) rfl | exact Rds.cell (rds_box 7 rfl) rfl | exact Rds.cell (rds_box 8 rfl) rfl | exact Rds.cell (rds_box 9 rfl) rfl | exact Rds.cell (rds_box 10 rfl) rfl | exact Rds.cell (rds_box 11 rfl) rfl | exact Rds.cell (rds_box 12 rfl) rfl | exact Rds.cell (rds_box 13 rfl) rfl | exact Rds.cell (rds_box 14 rfl) rfl | exact Rds.cell (rds_box 15 rfl) rfl | exact Rds.cell (rds_box 16 rfl) rfl | exact Rds.cell (rds_box 17 rfl) rfl | exact Rds.cell (rds_box 18 rfl) rfl | exact Rds.cell (rds_box 19 rfl) rfl | exact Rds.cell (rds_box 20 rfl) rfl | exact Rds.cell (rds_box 21 rfl) rfl | exact Rds.cell (rds_box 22 rfl) rfl | exact Rds.cell (rds_box 23 rfl) rfl | exact Rds.cell (rds_rf (by assumption) (by first | exact List.mem_cons_self | exact List.mem_cons_of_mem _ List.mem_cons_self | simp)) (by first | exact fl_at0 _ _ (by omega) (by decide) | exact fl_at _ _ _ (by omega) (by decide)) | exact Rds.cell (rds_row 0 rfl) (by first | exact fl_at0 _ _ (by omega) (by decide) | exact fl_at _ _ _ (by omega) (by decide)) | exact Rds.cell (rds_row 1 rfl) (by first | exact fl_at0 _ _ (by omega) (by decide) | exact fl_at _ _ _ (by omega) (by decide)) | exact Rds.cell (rds_row 2 rfl) (by first | exact fl_at0 _ _ (by omega) (by decide) | exact fl_at _ _ _ (by omega) (by decide)) | exact Rds.cell (rds_row 3 rfl) (by first | exact fl_at0 _ _ (by omega) (by decide) | exact fl_at _ _ _ (by omega) (by decide)) | exact Rds.cell (rds_row 4 rfl) (by first | exact fl_at0 _ _ (by omega) (by decide) | exact fl_at _ _ _ (by omega) (by decide)) | exact Rds.cell (rds_row 5 rfl) (by first | exact fl_at0 _ _ (by omega) (by decide) | exact fl_at _ _ _ (by omega) (by decide)) | exact Rds.cell (rds_row 6 rfl) (by first | exact fl_at0 _ _ (by omega) (by decide) | exact fl_at _ _ _ (by omega) (by decide)) | exact Rds.cell (rds_row 7 rfl) (by first | exact fl_at0 _ _ (by omega) (by decide) | exact fl_at _ _ _ (by omega) (by decide)) | exact Rds.cell (rds_row 8 rfl) (by first | exact fl_at0 _ _ (by omega) (by decide) | exact fl_at _ _ _ (by omega) (by decide)) | exact Rds.cell (rds_row 9 rfl) (by first | exact fl_at0 _ _ (by omega) (by decide) | exact fl_at _ _ _ (by omega) (by decide)))) ?_; refine okT_one (i := 2) rfl rfl (by kernel_rfl) rfl rfl rfl (by exact ms_s1 rfl rfl (fun _ _ w hw => l30Zero_c 8 ⟨by omega, by omega⟩ w)) (fun y w _ h => by first | exact h.sel [1, 2] (by decide) rfl (fun _ h => h) | exact h.tl.sel [1, 2] (by decide) rfl (fun _ h => h) | exact h.tl.tl.sel [1, 2] (by decide) rfl (fun _ h => h)) ?_; rintro y10 hy10; refine okT_one (i := 3) rfl rfl (by kernel_rfl) rfl rfl rfl (by exact ms_lit rfl (parts_cons rfl parts_nil) rfl rfl rfl) (fun y w _ h => by first | exact h.sel [1, 2] (by decide) rfl (fun _ h => h) | exact h.tl.sel [1, 2] (by decide) rfl (fun _ h => h) | exact h.tl.tl.sel [1, 2] (by decide) rfl (fun _ h => h)) ?_; rintro y11 hy11; refine okT_one (i := 4) rfl rfl (by kernel_rfl) rfl rfl rfl (by exact ms_appN (List.replicate k (zrs 8)) [zrs 8] 1 rfl rfl rfl rfl (rds_row 0 rfl) rfl hrl rfl (by omega) (by omega)) (fun y w _ h => by first | exact h.sel [1, 2] (by decide) rfl (fun _ h => h) | exact h.tl.sel [1, 2] (by decide) rfl (fun _ h => h) | exact h.tl.tl.sel [1, 2] (by decide) rfl (fun _ h => h)) ?_; rintro y12 hy12; refine okT_take (i := 5) rfl (by kernel_rfl) rfl rfl rfl (by exact ps_field rfl rfl (by first | exact isw_ga _ | exact isw_some _ | exact isw_row 0 rfl (by omega) | exact isw_row 1 rfl (by omega) | exact isw_row 2 rfl (by omega) | exact isw_row 3 rfl (by omega) | exact isw_row 4 rfl (by omega) | exact isw_row 5 rfl (by omega) | exact isw_row 6 rfl (by omega) | exact isw_row 7 rfl (by omega) | exact isw_row 8 rfl (by omega) | exact isw_of (isS_fl (by assumption) (by omega)) | exact isw_of (by assumption))) ?_; refine okT_done (by kernel_rfl) ?_; refine ok_m_ rfl rfl (by first | exact ms_store 0 rfl rfl rfl rfl rfl rfl rfl rfl | exact ms_store 1 rfl rfl rfl rfl rfl rfl rfl rfl | exact ms_store 2 rfl rfl rfl rfl rfl rfl rfl rfl | exact ms_store 3 rfl rfl rfl rfl rfl rfl rfl rfl | exact ms_store 4 rfl rfl rfl rfl rfl rfl rfl rfl | exact ms_store 5 rfl rfl rfl rfl rfl rfl rfl rfl | exact ms_store 6 rfl rfl rfl rfl rfl rfl rfl rfl | exact ms_store 7 rfl rfl rfl rfl rfl rfl rfl rfl) ?_; rintro y_ hy_; refine ok_nil ?_; refine ok_env [(0, _), (1, _), (2, _)] ⟨rfl, rfl, rfl, trivial⟩ ?_)
    | (refine ok_region (i := 6) ?_; refine ok_p rfl rfl rfl (by first | exact ps_loads rfl rfl (by first | exact rds_box 0 rfl | exact rds_box 1 rfl | exact rds_box 2 rfl | exact rds_box 3 rfl | exact rds_box 4 rfl | exact rds_box 5 rfl | exact rds_box 6 rfl | exact rds_box 7 rfl | exact rds_box 8 rfl | exact rds_box 9 rfl | exact rds_box 10 rfl | exact rds_box 11 rfl | exact rds_box 12 rfl | exact rds_box 13 rfl | exact rds_box 14 rfl | exact rds_box 15 rfl | exact rds_box 16 rfl | exact rds_box 17 rfl | exact rds_box 18 rfl | exact rds_box 19 rfl | exact rds_box 20 rfl | exact rds_box 21 rfl | exact rds_box 22 rfl | exact rds_box 23 rfl) rfl rfl (by decide) | exact ps_loadsF rfl rfl (by first | exact rds_row 0 rfl | exact rds_row 1 rfl | exact rds_row 2 rfl | exact rds_row 3 rfl | exact rds_row 4 rfl | exact rds_row 5 rfl | exact rds_row 6 rfl | exact rds_row 7 rfl | exact rds_row 8 rfl | exact rds_row 9 rfl | exact rds_row 10 rfl | exact rds_row 11 rfl | exact rds_row 12 rfl | exact rds_row 13 rfl | exact rds_row 14 rfl | exact rds_row 15 rfl | exact rds_row 16 rfl | exact rds_row 17 rfl | exact rds_row 18 rfl | exact rds_row 19 rfl | exact rds_row 20 rfl | exact rds_row 21 rfl | exact rds_row 22 rfl | exact rds_row 23 rfl | exact rds_rf (by assumption) (by first | exact List.mem_cons_self | exact List.mem_cons_of_mem _ List.mem_cons_self | simp)) (by rfl) (by rfl) (by omega) rfl) ?_; refine ok_m_ rfl rfl (by first | exact ms_store 0 rfl rfl rfl rfl rfl rfl rfl rfl | exact ms_store 1 rfl rfl rfl rfl rfl rfl rfl rfl | exact ms_store 2 rfl rfl rfl rfl rfl rfl rfl rfl | exact ms_store 3 rfl rfl rfl rfl rfl rfl rfl rfl | exact ms_store 4 rfl rfl rfl rfl rfl rfl rfl rfl | exact ms_store 5 rfl rfl rfl rfl rfl rfl rfl rfl | exact ms_store 6 rfl rfl rfl rfl rfl rfl rfl rfl | exact ms_store 7 rfl rfl rfl rfl rfl rfl rfl rfl) ?_; rintro y_ hy_; refine ok_nil ?_; refine ok_env [(0, _)] ⟨rfl, trivial⟩ ?_))
  · refine fun a w' he hw => ⟨⟨k + 1, (y12 0).A, (y12 0).c, by omega⟩, by simp only; omega, he.sub ⟨rfl, rfl, rfl, trivial⟩, ?_⟩
    simp only
    rw [← zr_snoc]
    exact hw.tl
  · obtain rfl : k = 24 := by omega
    refine ok_endL (vs := [_]) rfl ⟨⟨_, 2, _, _, _, rfl, rfl, inferInstance, rfl, rfl⟩, trivial⟩ (fun w' hw => ⟨fsY A c none 0 [] w', rfl, trivial, hw.below, ?_⟩)
    have e := fsY_obj A c none 0 (List.replicate 24 (zrs 8)) [] w'
    have e2 : FStore_obj fFsNew (fsY A c none 0 [] w') = FStore_obj ⟨List.replicate 24 (zrs 8), dats ([] : List LF)⟩ (fsY A c none 0 [] w') := rfl
    rw [e2, e, List.length_replicate]
    have h0 := hw.sel [0] (by decide) rfl (G' := []) (fun _ h => by cases h)
    exact NewOk.of ((((h0.bag_nil 3 1).rowNil 36 5).front 2 rfl))
theorem FsNew_lim : FStore_lim fFsNew := good_lim new_good
end Go.Proofs.Ytojgphgfhapacaa
/- Drawing, with the engine: the cursor is an own box. -/
namespace Go.Proofs.Ytojgphgfhapacaa
open Go.RowKit
set_option maxHeartbeats 4000000
set_option maxRecDepth 20000
set_option linter.unusedVariables false
set_option linter.unusedSimpArgs false
attribute [local irreducible] Calls
/-- The cursor: the code's bytes, a place in them, a state. -/
abbrev cur (g : Nat) (A : Option Addr) (n c : Nat) (i : Nat) (h : Int) : HObj := .box g 58 [.slice A n c, .int .i64 i, .int .i64 h]
/-- What a draw gives: a number (or a string), the cursor's place and state. -/
def mkC (x : Int) (i : Nat) (h : Int) (w : World) : Ys := fun k => if k = 0 then ⟨none, i, w, x⟩ else ⟨none, 0, w, h⟩
def sW (s : ByteArray) (w : World) : World := { w with heap := #[.cells #[.string s] 0 (0, 0)] }
def yS (y : Ya) : ByteArray := match (y.w.heap[0]? : Option Obj) with
  | some (.cells cs _ _) => (match (cs[0]? : Option Value) with | some (.string s) => s | _ => ⟨#[]⟩)
  | _ => ⟨#[]⟩
def mkS (s : ByteArray) (i : Nat) (h : Int) (w : World) : Ys := fun k => if k = 0 then ⟨none, i, sW s w, 0⟩ else ⟨none, 0, w, h⟩
theorem yS_mk (s : ByteArray) (i : Nat) (h : Int) (w : World) : yS (mkS s i h w 0) = s := rfl
theorem and255' (y : Int) : 0 ≤ (IntKind.i64.wrap ((BitVec.ofInt IntKind.i64.bits y &&& BitVec.ofInt IntKind.i64.bits 255).toNat : Int)) ∧ (IntKind.i64.wrap ((BitVec.ofInt IntKind.i64.bits y &&& BitVec.ofInt IntKind.i64.bits 255).toNat : Int)) ≤ 255 := by
  have h : (BitVec.ofInt IntKind.i64.bits y &&& BitVec.ofInt IntKind.i64.bits 255).toNat ≤ 255 := by
    rw [BitVec.toNat_and]
    exact Nat.le_trans Nat.and_le_right (by decide)
  generalize (BitVec.ofInt IntKind.i64.bits y &&& BitVec.ofInt IntKind.i64.bits 255).toNat = n at *
  rw [IntWalk.i64_in _ (by omega)]
  omega
theorem ps_convI {P : Program} {E : Env} {H : List HObj} {G : List World} {o : Oper} {x : Operand} {s t : TypeId} {k' : IntKind} {z : Int} [hk : IK P t .u8] [hk' : IK P s k'] (ho : o.op = .convert s t x) (hx : opd E x = some (.int k' z)) (h : 0 ≤ z) : PStep P E H G o (.int .u8 ((UInt8.ofNat z.toNat).toNat : Int)) := by
  obtain ⟨n, rfl⟩ := Int.eq_ofNat_of_zero_le h
  rw [Int.toNat_natCast]; exact ps_convB ho hx
theorem bvs1 (L : List UInt8) (x : UInt8) : byteVs (L ++ [x]) = byteVs L ++ [.int .u8 (x.toNat : Int)] := by simp [byteVs]
theorem sz_one (x : UInt8) : (⟨[x].toArray⟩ : ByteArray).size = 1 := rfl
theorem bt_lt' (s : ByteArray) (k : Nat) : bt s k < 256 := by unfold bt; exact UInt8.toNat_lt _
theorem one1 {v : Value} (h : v.oneCell' = true) : ∀ u ∈ [v], u.oneCell' = true := fun u hu => by
  cases hu with
  | head => exact h
  | tail _ h => cases h
theorem emod_in (z : Int) {n : Int} (h : 0 < n) : 0 ≤ z % n ∧ z % n < n := ⟨Int.emod_nonneg _ (by omega), Int.emod_lt_of_pos _ h⟩
/-- Code that is read while drawing. -/
structure CodeR (A : Option Addr) (bs : List UInt8) (G : List World) : Prop where
  rd : ∃ m ∈ G, Rd m A (fl bs)
  le : bs.length ≤ 1048576
theorem new_c (A : Option Addr) (c : Nat) (bs : List UInt8) (w : World) (h : Rd w A (fl bs)) (hl : bs.length ≤ 1048576) :
    Calls Try.prog 12 #[.slice A bs.length c] w fun e w' => ∃ y : Ys, e = .returned (pt (ga (y 0).c) 0) ∧ True ∧ Below w.heap.size w w' ∧ NewOk w.heap.size [cur (y 0).c A bs.length c 0 (y 1).n] [] w' := by
  refine ok_enter 32 Try.func12 rfl rfl rfl ?_
  repeat' (first
    | refine ok_seq ?_
    | refine ok_then ?_
    | refine ok_block ?_
    | (refine ok_region (i := 0) ?_; refine ok_p rfl rfl rfl (by exact ps_assign rfl rfl) ?_; refine ok_nil ?_; refine ok_env [(0, _)] ⟨rfl, trivial⟩ ?_)
    | (refine ok_region (i := 1) ?_; refine ok_p rfl rfl rfl (by exact ps_move rfl rfl) ?_; refine ok_p rfl rfl rfl (by exact ps_len rfl rfl) ?_; refine ok_p rfl rfl rfl (by exact ps_add rfl rfl rfl (by omega)) ?_; refine ok_p rfl rfl rfl (by exact ps_assign rfl rfl) ?_; refine ok_nil ?_; refine ok_env [(0, _), (3, _)] ⟨rfl, rfl, trivial⟩ ?_)
    | (refine ok_region (i := 2) ?_; refine ok_p rfl rfl rfl (by exact ps_assign rfl rfl) ?_; refine ok_nil ?_; refine ok_env [(0, _), (3, _), (4, _)] ⟨rfl, rfl, rfl, trivial⟩ ?_))
  refine ok_loop (ι := { q : Nat × Int // q.1 ≤ bs.length }) (fun q => bs.length - q.1.1) (fun q => ([(0, .slice A bs.length c), (3, .int .i64 q.1.2), (4, .int .i64 q.1.1)], [], _)) ⟨(0, 10101 + bs.length), by simp⟩ (fun a w he hw => ⟨⟨(0, 10101 + bs.length), by simp⟩, he.sub ⟨rfl, rfl, rfl, trivial⟩, hw⟩) ?_
  rintro ⟨⟨k, hh⟩, hk⟩
  simp only at hk ⊢
  repeat' (first
    | refine ok_seq ?_
    | refine ok_then ?_
    | refine ok_block ?_
    | refine ok_in_normal ?_
    | (refine ok_cond rfl (fun hc => ?_) (fun hc => ?_) <;> (have hd := hc; (try simp only [decide_eq_true_eq, decide_eq_false_iff_not, Bool.or_eq_true, Bool.or_eq_false_iff, Bool.and_eq_true, Bool.and_eq_false_iff, Bool.not_eq_true', Bool.not_eq_false', bne_iff_ne, beq_iff_eq, bne_eq_false_iff_eq, beq_eq_false_iff_ne, ne_eq, Bool.not_true, Bool.not_false, Bool.false_eq_true, Bool.true_eq_false, inB_true, inB_false] at hd)))
    | refine ok_ret ?_
    | refine ok_exit ?_
    | refine ok_skip ?_
    | (refine ok_region (i := 3) ?_; refine ok_p rfl rfl rfl (by exact ps_move rfl rfl) ?_; refine ok_p rfl rfl rfl (by exact ps_move rfl rfl) ?_; refine ok_p rfl rfl rfl (by exact ps_len rfl rfl) ?_; refine ok_p rfl rfl rfl (by exact ps_int rfl rfl rfl rfl) ?_; refine ok_p rfl rfl rfl (by exact ps_move rfl rfl) ?_; refine ok_pg rfl rfl rfl rfl rfl (gT _) (fun hp => by (have hpd := hp; (try simp only [decide_eq_true_eq, decide_eq_false_iff_not, Bool.or_eq_true, Bool.or_eq_false_iff, Bool.and_eq_true, Bool.and_eq_false_iff, Bool.not_eq_true', Bool.not_eq_false', bne_iff_ne, beq_iff_eq, bne_eq_false_iff_eq, beq_eq_false_iff_ne, ne_eq, Bool.not_true, Bool.not_false, Bool.false_eq_true, Bool.true_eq_false, inB_true, inB_false] at hpd); exact ps_move rfl (by exact rfl))) ?_; refine ok_pg rfl rfl rfl rfl rfl (gT _) (fun hp => by (have hpd := hp; (try simp only [decide_eq_true_eq, decide_eq_false_iff_not, Bool.or_eq_true, Bool.or_eq_false_iff, Bool.and_eq_true, Bool.and_eq_false_iff, Bool.not_eq_true', Bool.not_eq_false', bne_iff_ne, beq_iff_eq, bne_eq_false_iff_eq, beq_eq_false_iff_ne, ne_eq, Bool.not_true, Bool.not_false, Bool.false_eq_true, Bool.true_eq_false, inB_true, inB_false] at hpd); exact ps_int rfl (by (refine og rfl ?_; assumption)) (by exact rfl) rfl)) ?_; refine ok_p rfl rfl rfl (by exact ps_and rfl rfl rfl) ?_; refine ok_nil ?_; refine ok_env [(0, _), (3, _), (4, _), (15, _)] ⟨rfl, rfl, rfl, rfl, trivial⟩ ?_)
    | (refine ok_region (i := 4) ?_; refine ok_p rfl rfl rfl (by exact ps_move rfl rfl) ?_; refine ok_p rfl rfl rfl (by exact ps_add rfl rfl rfl (by omega)) ?_; refine ok_p rfl rfl rfl (by exact ps_assign rfl rfl) ?_; refine ok_nil ?_; refine ok_env [(0, _), (3, _), (4, _)] ⟨rfl, rfl, rfl, trivial⟩ ?_)
    | (refine ok_region (i := 5) ?_; refine ok_p rfl rfl rfl (by exact ps_move rfl rfl) ?_; refine ok_p rfl rfl rfl (by exact ps_int rfl rfl rfl rfl) ?_; refine ok_p rfl rfl rfl (by exact ps_move rfl rfl) ?_; refine ok_p rfl rfl rfl (by exact ps_move rfl rfl) ?_; refine ok_p rfl rfl rfl (by exact ps_indexN rfl rfl rfl (by omega) (by exact isw_of (isS_fl (by assumption) (by omega)))) ?_; refine ok_p rfl rfl rfl (by exact ps_load rfl rfl (by exact Rds.cell (rds_rf (by assumption) (by exact List.mem_cons_self)) (by exact fl_at0 _ _ (by omega) (by decide)))) ?_; refine ok_p rfl rfl rfl (by exact ps_conv rfl rfl) ?_; refine ok_p rfl rfl rfl (by exact ps_int rfl rfl rfl rfl) ?_; refine ok_p rfl rfl rfl (by exact ps_int rfl rfl rfl rfl) ?_; refine ok_p rfl rfl rfl (by exact ps_int rfl rfl rfl rfl) ?_; refine ok_p rfl rfl rfl (by exact ps_assign rfl rfl) ?_; refine ok_nil ?_; refine ok_env [(0, _), (3, _), (4, _)] ⟨rfl, rfl, rfl, trivial⟩ ?_)
    | (refine ok_region (i := 6) ?_; refine ok_p rfl rfl rfl (by exact ps_move rfl rfl) ?_; refine ok_p rfl rfl rfl (by exact ps_move rfl rfl) ?_; refine ok_p rfl rfl rfl (by exact ps_bld rfl (parts_cons rfl (parts_cons rfl parts_nil)) rfl) ?_; refine ok_m rfl rfl rfl (by exact ms_box rfl rfl rfl) ?_; rintro y31 hy31; refine ok_p rfl rfl rfl (by exact ps_assign rfl rfl) ?_; refine ok_nil ?_; refine ok_env [(2, _)] ⟨rfl, trivial⟩ ?_))
  · exact fun a w' he hw => ⟨⟨(k + 1, _), by simp; omega⟩, by simp only; omega, he.sub ⟨rfl, rfl, rfl, trivial⟩, hw⟩
  all_goals
    refine ok_endL (vs := [_]) rfl ⟨rfl, trivial⟩ (fun w' hw => ?_)
    exact ⟨mkC 0 (y31 0).c hh w', rfl, trivial, hw.below, NewOk.of hw⟩
theorem byte_c (g : Nat) (A : Option Addr) (c : Nat) (bs : List UInt8) (i : Nat) (h : Int) (hi : i ≤ bs.length) {base : Nat} {w0 w : World} {H : List HObj} {G : List World} (hr : CodeR A bs G) (hw : WOk base w0 (cur g A bs.length c i h :: H) G w) :
    Calls Try.prog 34 #[pt (ga g) 0] w fun e w' => ∃ y : Ys, e = .returned (.int .i64 (y 0).n) ∧ ((0 ≤ (y 0).n ∧ (y 0).n ≤ 255) ∧ (y 0).c ≤ bs.length) ∧ WOk base w0 (cur g A bs.length c (y 0).c (y 1).n :: H) G w' := by
  obtain ⟨⟨m, hm, hr⟩, hl⟩ := hr
  refine ok_enterW 58 Try.func34 rfl rfl rfl hw ?_
  repeat' (first
    | refine ok_seq ?_
    | refine ok_then ?_
    | (refine ok_cond rfl (fun hc => ?_) (fun hc => ?_) <;> (have hd := hc; (try simp only [decide_eq_true_eq, decide_eq_false_iff_not, Bool.or_eq_true, Bool.or_eq_false_iff, Bool.and_eq_true, Bool.and_eq_false_iff, Bool.not_eq_true', Bool.not_eq_false', bne_iff_ne, beq_iff_eq, bne_eq_false_iff_eq, beq_eq_false_iff_ne, ne_eq, Bool.not_true, Bool.not_false, Bool.false_eq_true, Bool.true_eq_false, inB_true, inB_false] at hd)))
    | refine ok_ret ?_
    | refine ok_skip ?_
    | (refine ok_region (i := 0) ?_; refine ok_p rfl rfl rfl (by exact ps_assign rfl rfl) ?_; refine ok_nil ?_; refine ok_env [(0, _)] ⟨rfl, trivial⟩ ?_)
    | (refine ok_region (i := 1) ?_; refine ok_p rfl rfl rfl (by exact ps_move rfl rfl) ?_; refine ok_p rfl rfl rfl (by exact ps_move rfl rfl) ?_; refine ok_p rfl rfl rfl (by exact ps_nil rfl rfl (by exact isw_ga _)) ?_; refine ok_p rfl rfl rfl (by exact ps_field rfl rfl (by exact isw_ga _)) ?_; refine ok_p rfl rfl rfl (by exact ps_load rfl rfl (by exact Rds.cell (rds_box 0 rfl) rfl)) ?_; refine ok_p rfl rfl rfl (by exact ps_int rfl rfl rfl rfl) ?_; refine ok_p rfl rfl rfl (by exact ps_int rfl rfl rfl rfl) ?_; refine ok_p rfl rfl rfl (by exact ps_nil rfl rfl (by exact isw_ga _)) ?_; refine ok_p rfl rfl rfl (by exact ps_field rfl rfl (by exact isw_ga _)) ?_; refine ok_m_ rfl rfl (by exact ms_store 0 rfl rfl rfl rfl rfl rfl rfl rfl) ?_; rintro y_ hy_; refine ok_nil ?_; refine ok_env [(0, _)] ⟨rfl, trivial⟩ ?_)
    | (refine ok_draw (id := 2) 13 rfl (by kernel_rfl) (by kernel_rfl) rfl (by repeat (first | exact pq_body | refine pq_then ?_ | refine pq_in ?_)) [0, 1, 2, 3, 4, 5, 6, 7, 8, 9, 10, 11, 12, 13, 14, 15, 16, 17, 18, 19, 20, 21, 22, 23] (by decide) rfl ?_; refine okT_take (i := 0) rfl (by kernel_rfl) rfl rfl rfl (by exact ps_move rfl rfl) ?_; refine okT_take (i := 1) rfl (by kernel_rfl) rfl rfl rfl (by exact ps_nil rfl rfl (by exact isw_ga _)) ?_; refine okT_take (i := 2) rfl (by kernel_rfl) rfl rfl rfl (by exact ps_field rfl rfl (by exact isw_ga _)) ?_; refine okT_take (i := 3) rfl (by kernel_rfl) rfl rfl rfl (by exact ps_load rfl rfl (by exact Rds.cell (rds_box 0 rfl) rfl)) ?_; refine okT_take (i := 4) rfl (by kernel_rfl) rfl rfl rfl (by exact ps_shr rfl (by exact rfl) rfl ⟨by decide, by decide⟩) ?_; refine okT_take (i := 5) rfl (by kernel_rfl) rfl rfl rfl (by exact ps_move rfl rfl) ?_; refine okT_take (i := 6) rfl (by kernel_rfl) rfl rfl rfl (by exact ps_nil rfl rfl (by exact isw_ga _)) ?_; refine okT_take (i := 7) rfl (by kernel_rfl) rfl rfl rfl (by exact ps_field rfl rfl (by exact isw_ga _)) ?_; refine okT_take (i := 8) rfl (by kernel_rfl) rfl rfl rfl (by exact ps_load rfl rfl (by exact Rds.cell (rds_box 0 rfl) rfl)) ?_; refine okT_take (i := 9) rfl (by kernel_rfl) rfl rfl rfl (by exact ps_shr rfl (by exact rfl) rfl ⟨by decide, by decide⟩) ?_; refine okT_take (i := 10) rfl (by kernel_rfl) rfl rfl rfl (by exact ps_int rfl rfl rfl rfl) ?_; refine okT_take (i := 11) rfl (by kernel_rfl) rfl rfl rfl (by exact ps_int rfl rfl rfl rfl) ?_; refine okT_take (i := 12) rfl (by kernel_rfl) rfl rfl rfl (by exact ps_assign rfl rfl) ?_; refine okT_done (by kernel_rfl) ?_; refine ok_nil ?_; refine ok_env [(0, _), (3, _)] ⟨rfl, rfl, trivial⟩ ?_)
    | (refine ok_draw (id := 3) 10 rfl (by kernel_rfl) (by kernel_rfl) rfl (by repeat (first | exact pq_body | refine pq_then ?_ | refine pq_in ?_)) [0, 1, 2, 3, 4, 5, 6, 7, 8, 9, 10, 11, 12, 13, 14, 15, 16, 17, 18, 19, 20, 21, 22, 23] (by decide) rfl ?_; refine okT_take (i := 0) rfl (by kernel_rfl) rfl rfl rfl (by exact ps_move rfl rfl) ?_; refine okT_take (i := 1) rfl (by kernel_rfl) rfl rfl rfl (by exact ps_nil rfl rfl (by exact isw_ga _)) ?_; refine okT_take (i := 2) rfl (by kernel_rfl) rfl rfl rfl (by exact ps_field rfl rfl (by exact isw_ga _)) ?_; refine okT_take (i := 3) rfl (by kernel_rfl) rfl rfl rfl (by exact ps_load rfl rfl (by exact Rds.cell (rds_box 0 rfl) rfl)) ?_; refine okT_take (i := 4) rfl (by kernel_rfl) rfl rfl rfl (by exact ps_move rfl rfl) ?_; refine okT_take (i := 5) rfl (by kernel_rfl) rfl rfl rfl (by exact ps_nil rfl rfl (by exact isw_ga _)) ?_; refine okT_take (i := 6) rfl (by kernel_rfl) rfl rfl rfl (by exact ps_field rfl rfl (by exact isw_ga _)) ?_; refine okT_take (i := 7) rfl (by kernel_rfl) rfl rfl rfl (by exact ps_load rfl rfl (by exact Rds.cell (rds_box 0 rfl) rfl)) ?_; refine okT_take (i := 8) rfl (by kernel_rfl) rfl rfl rfl (by exact ps_len rfl rfl) ?_; refine okT_take (i := 9) rfl (by kernel_rfl) rfl rfl rfl (by exact ps_int rfl rfl rfl rfl) ?_; refine okT_done (by kernel_rfl) ?_; refine ok_nil ?_; refine ok_env [(0, _), (3, _), (34, _)] ⟨rfl, rfl, rfl, trivial⟩ ?_)
    | (refine ok_draw (id := 4) 15 rfl (by kernel_rfl) (by kernel_rfl) rfl (by repeat (first | exact pq_body | refine pq_then ?_ | refine pq_in ?_)) [0, 1, 2, 3, 4, 5, 6, 7, 8, 9, 10, 11, 12, 13, 14, 15, 16, 17, 18, 19, 20, 21, 22, 23] (by decide) rfl ?_; refine okT_take (i := 0) rfl (by kernel_rfl) rfl rfl rfl (by exact ps_move rfl rfl) ?_; refine okT_take (i := 1) rfl (by kernel_rfl) rfl rfl rfl (by exact ps_move rfl rfl) ?_; refine okT_take (i := 2) rfl (by kernel_rfl) rfl rfl rfl (by exact ps_nil rfl rfl (by exact isw_ga _)) ?_; refine okT_take (i := 3) rfl (by kernel_rfl) rfl rfl rfl (by exact ps_field rfl rfl (by exact isw_ga _)) ?_; refine okT_take (i := 4) rfl (by kernel_rfl) rfl rfl rfl (by exact ps_load rfl rfl (by exact Rds.cell (rds_box 0 rfl) rfl)) ?_; refine okT_take (i := 5) rfl (by kernel_rfl) rfl rfl rfl (by exact ps_move rfl rfl) ?_; refine okT_take (i := 6) rfl (by kernel_rfl) rfl rfl rfl (by exact ps_nil rfl rfl (by exact isw_ga _)) ?_; refine okT_take (i := 7) rfl (by kernel_rfl) rfl rfl rfl (by exact ps_field rfl rfl (by exact isw_ga _)) ?_; refine okT_take (i := 8) rfl (by kernel_rfl) rfl rfl rfl (by exact ps_load rfl rfl (by exact Rds.cell (rds_box 0 rfl) rfl)) ?_; refine okT_take (i := 9) rfl (by kernel_rfl) rfl rfl rfl (by exact ps_indexN rfl rfl rfl (by omega) (by exact isw_of (isS_fl (by assumption) (by omega)))) ?_; refine okT_take (i := 10) rfl (by kernel_rfl) rfl rfl rfl (by exact ps_load rfl (by exact rfl) (Rds.cell (rds_rf hr hm) (fl_at0 bs i (by omega) (by decide)))) ?_; refine okT_take (i := 11) rfl (by kernel_rfl) rfl rfl rfl (by exact ps_conv rfl rfl) ?_; refine okT_take (i := 12) rfl (by kernel_rfl) rfl rfl rfl (by exact ps_int rfl rfl rfl rfl) ?_; refine okT_take (i := 13) rfl (by kernel_rfl) rfl rfl rfl (by exact ps_int rfl rfl rfl rfl) ?_; refine okT_take (i := 14) rfl (by kernel_rfl) rfl rfl rfl (by exact ps_assign rfl rfl) ?_; refine okT_done (by kernel_rfl) ?_; refine ok_nil ?_; refine ok_env [(0, _), (3, _)] ⟨rfl, rfl, trivial⟩ ?_)
    | (refine ok_region (i := 5) ?_; refine ok_p rfl rfl rfl (by exact ps_move rfl rfl) ?_; refine ok_p rfl rfl rfl (by exact ps_move rfl rfl) ?_; refine ok_p rfl rfl rfl (by exact ps_nil rfl rfl (by exact isw_ga _)) ?_; refine ok_p rfl rfl rfl (by exact ps_field rfl rfl (by exact isw_ga _)) ?_; refine ok_p rfl rfl rfl (by exact ps_load rfl rfl (by exact Rds.cell (rds_box 0 rfl) rfl)) ?_; refine ok_p rfl rfl rfl (by exact ps_add rfl rfl rfl (by omega)) ?_; refine ok_p rfl rfl rfl (by exact ps_nil rfl rfl (by exact isw_ga _)) ?_; refine ok_p rfl rfl rfl (by exact ps_field rfl rfl (by exact isw_ga _)) ?_; refine ok_m_ rfl rfl (by exact ms_store 0 rfl rfl rfl rfl rfl rfl rfl rfl) ?_; rintro y_ hy_; refine ok_nil ?_; refine ok_env [(3, _)] ⟨rfl, trivial⟩ ?_)
    | (refine ok_region (i := 6) ?_; refine ok_p rfl rfl rfl (by exact ps_move rfl rfl) ?_; refine ok_p rfl rfl rfl (by exact ps_assign rfl rfl) ?_; refine ok_nil ?_; refine ok_env [(2, _)] ⟨rfl, trivial⟩ ?_))
  · refine ok_endL (vs := [_]) rfl ⟨rfl, trivial⟩ (fun w' hw => ?_)
    exact ⟨mkC _ (i + 1) _ w', rfl, ⟨and255' _, by show i + 1 ≤ bs.length; omega⟩, hw⟩
  · refine ok_endL (vs := [_]) rfl ⟨rfl, trivial⟩ (fun w' hw => ?_)
    exact ⟨mkC _ i _ w', rfl, ⟨and255' _, hi⟩, hw⟩
theorem below_c (g : Nat) (A : Option Addr) (c : Nat) (bs : List UInt8) (i : Nat) (h : Int) (n : Int) (hn : 0 < n ∧ n ≤ 9223372036854775807) (hi : i ≤ bs.length) {base : Nat} {w0 w : World} {H : List HObj} {G : List World} (hr : CodeR A bs G) (hw : WOk base w0 (cur g A bs.length c i h :: H) G w) :
    Calls Try.prog 14 #[pt (ga g) 0, .int .i64 n] w fun e w' => ∃ y : Ys, e = .returned (.int .i64 (y 0).n) ∧ ((0 ≤ (y 0).n ∧ (y 0).n < n) ∧ (y 0).c ≤ bs.length) ∧ WOk base w0 (cur g A bs.length c (y 0).c (y 1).n :: H) G w' := by
  refine ok_enterW 37 Try.func14 rfl rfl rfl hw ?_
  repeat' (first
    | refine ok_seq ?_
    | refine ok_then ?_
    | refine ok_then_ret ?_
    | (refine ok_cond rfl (fun hc => ?_) (fun hc => ?_) <;> (have hd := hc; (try simp only [decide_eq_true_eq, decide_eq_false_iff_not, Bool.or_eq_true, Bool.or_eq_false_iff, Bool.and_eq_true, Bool.and_eq_false_iff, Bool.not_eq_true', Bool.not_eq_false', bne_iff_ne, beq_iff_eq, bne_eq_false_iff_eq, beq_eq_false_iff_ne, ne_eq, Bool.not_true, Bool.not_false, Bool.false_eq_true, Bool.true_eq_false, inB_true, inB_false] at hd)))
    | refine ok_ret ?_
    | refine ok_skip ?_
    | (refine ok_region (i := 0) ?_; refine ok_p rfl rfl rfl (by exact ps_assign rfl rfl) ?_; refine ok_nil ?_; refine ok_env [(0, _), (1, _)] ⟨rfl, rfl, trivial⟩ ?_)
    | (refine ok_region (i := 1) ?_; refine ok_p rfl rfl rfl (by exact ps_move rfl rfl) ?_; refine ok_p rfl rfl rfl (by exact ps_int rfl rfl rfl rfl) ?_; refine ok_nil ?_; refine ok_env [(0, _), (1, _), (10, _)] ⟨rfl, rfl, rfl, trivial⟩ ?_)
    | (refine ok_region (i := 2) ?_; refine ok_p rfl rfl rfl (by exact ps_assign rfl rfl) ?_; refine ok_nil ?_; refine ok_env [(4, _)] ⟨rfl, trivial⟩ ?_)
    | (refine ok_region (i := 3) ?_; refine ok_p rfl rfl rfl (by exact ps_move rfl rfl) ?_; refine ok_p rfl rfl rfl (by exact ps_int rfl rfl rfl rfl) ?_; refine ok_nil ?_; refine ok_env [(0, _), (1, _), (12, _)] ⟨rfl, rfl, rfl, trivial⟩ ?_)
    | (refine ok_region (i := 4) ?_; refine ok_p rfl rfl rfl (by exact ps_move rfl rfl) ?_; refine ok_m rfl rfl rfl (by exact ms_w1 (fun _ _ _ h => h) rfl rfl (fun _ _ w hw => byte_c g A c bs _ _ (by omega) hr hw)) ?_; rintro y14 hy14; refine ok_p rfl rfl rfl (by exact ps_move rfl rfl) ?_; refine ok_p rfl rfl rfl (by exact ps_rem rfl rfl rfl (by omega) (by omega)) ?_; refine ok_p rfl rfl rfl (by exact ps_assign rfl rfl) ?_; refine ok_nil ?_; refine ok_env [(4, _)] ⟨rfl, trivial⟩ ?_)
    | (refine ok_region (i := 5) ?_; refine ok_p rfl rfl rfl (by exact ps_move rfl rfl) ?_; refine ok_m rfl rfl rfl (by exact ms_w1 (fun _ _ _ h => h) rfl rfl (fun _ _ w hw => byte_c g A c bs _ _ (by omega) hr hw)) ?_; rintro y18 hy18; refine ok_p rfl rfl rfl (by exact ps_assign rfl rfl) ?_; refine ok_nil ?_; refine ok_env [(0, _), (1, _), (5, _)] ⟨rfl, rfl, rfl, trivial⟩ ?_)
    | (refine ok_region (i := 6) ?_; refine ok_p rfl rfl rfl (by exact ps_move rfl rfl) ?_; refine ok_m rfl rfl rfl (by exact ms_w1 (fun _ _ _ h => h) rfl rfl (fun _ _ w hw => byte_c g A c bs _ _ (by omega) hr hw)) ?_; rintro y20 hy20; refine ok_p rfl rfl rfl (by exact ps_assign rfl rfl) ?_; refine ok_nil ?_; refine ok_env [(0, _), (1, _), (5, _), (6, _)] ⟨rfl, rfl, rfl, rfl, trivial⟩ ?_)
    | (refine ok_region (i := 7) ?_; refine ok_p rfl rfl rfl (by exact ps_move rfl rfl) ?_; refine ok_m rfl rfl rfl (by exact ms_w1 (fun _ _ _ h => h) rfl rfl (fun _ _ w hw => byte_c g A c bs _ _ (by omega) hr hw)) ?_; rintro y22 hy22; refine ok_p rfl rfl rfl (by exact ps_assign rfl rfl) ?_; refine ok_nil ?_; refine ok_env [(0, _), (1, _), (5, _), (6, _), (7, _)] ⟨rfl, rfl, rfl, rfl, rfl, trivial⟩ ?_)
    | (refine ok_region (i := 8) ?_; refine ok_p rfl rfl rfl (by exact ps_move rfl rfl) ?_; refine ok_m rfl rfl rfl (by exact ms_w1 (fun _ _ _ h => h) rfl rfl (fun _ _ w hw => byte_c g A c bs _ _ (by omega) hr hw)) ?_; rintro y24 hy24; refine ok_p rfl rfl rfl (by exact ps_assign rfl rfl) ?_; refine ok_nil ?_; refine ok_env [(1, _), (5, _), (6, _), (7, _), (8, _)] ⟨rfl, rfl, rfl, rfl, rfl, trivial⟩ ?_)
    | (refine ok_region (i := 9) ?_; refine ok_p rfl rfl rfl (by exact ps_move rfl rfl) ?_; refine ok_p rfl rfl rfl (by exact ps_mul rfl rfl rfl (by omega)) ?_; refine ok_p rfl rfl rfl (by exact ps_move rfl rfl) ?_; refine ok_p rfl rfl rfl (by exact ps_mul rfl rfl rfl (by omega)) ?_; refine ok_p rfl rfl rfl (by exact ps_add rfl rfl rfl (by omega)) ?_; refine ok_p rfl rfl rfl (by exact ps_move rfl rfl) ?_; refine ok_p rfl rfl rfl (by exact ps_mul rfl rfl rfl (by omega)) ?_; refine ok_p rfl rfl rfl (by exact ps_add rfl rfl rfl (by omega)) ?_; refine ok_p rfl rfl rfl (by exact ps_move rfl rfl) ?_; refine ok_p rfl rfl rfl (by exact ps_add rfl rfl rfl (by omega)) ?_; refine ok_p rfl rfl rfl (by exact ps_move rfl rfl) ?_; refine ok_p rfl rfl rfl (by exact ps_rem rfl rfl rfl (by omega) (by omega)) ?_; refine ok_p rfl rfl rfl (by exact ps_assign rfl rfl) ?_; refine ok_nil ?_; refine ok_env [(4, _)] ⟨rfl, trivial⟩ ?_))
  · exfalso; omega
  · refine ok_endL (vs := [_]) rfl ⟨rfl, trivial⟩ (fun w' hw => ?_)
    exact ⟨mkC _ (y14 0).c _ w', rfl, ⟨emod_in _ hn.1, hy14.2⟩, hw⟩
  · refine ok_endL (vs := [_]) rfl ⟨rfl, trivial⟩ (fun w' hw => ?_)
    exact ⟨mkC _ (y24 0).c _ w', rfl, ⟨emod_in _ hn.1, hy24.2⟩, hw⟩
theorem once_c (g : Nat) (A : Option Addr) (c : Nat) (bs : List UInt8) (i : Nat) (h : Int) (n : Int) (hn : 0 < n ∧ n ≤ 9223372036854775807) (hi : i ≤ bs.length) {base : Nat} {w0 w : World} {H : List HObj} {G : List World} (hr : CodeR A bs G) (hw : WOk base w0 (cur g A bs.length c i h :: H) G w) :
    Calls Try.prog 15 #[pt (ga g) 0, .int .i64 n] w fun e w' => ∃ y : Ys, e = .returned (.bool (decide ((y 0).n = 0))) ∧ (y 0).c ≤ bs.length ∧ WOk base w0 (cur g A bs.length c (y 0).c (y 1).n :: H) G w' := by
  refine ok_enterW 9 Try.func15 rfl rfl rfl hw ?_
  repeat' (first
    | refine ok_seq ?_
    | refine ok_then ?_
    | refine ok_ret ?_
    | (refine ok_region (i := 0) ?_; refine ok_p rfl rfl rfl (by exact ps_assign rfl rfl) ?_; refine ok_nil ?_; refine ok_env [(0, _), (1, _)] ⟨rfl, rfl, trivial⟩ ?_)
    | (refine ok_region (i := 1) ?_; refine ok_p rfl rfl rfl (by exact ps_move rfl rfl) ?_; refine ok_p rfl rfl rfl (by exact ps_move rfl rfl) ?_; refine ok_m rfl rfl rfl (by exact ms_w2 (fun _ _ _ h => h) rfl rfl rfl (fun _ _ w hw => below_c g A c bs _ _ n hn (by omega) hr hw)) ?_; rintro y7 hy7; refine ok_p rfl rfl rfl (by exact ps_int rfl rfl rfl rfl) ?_; refine ok_p rfl rfl rfl (by exact ps_assign rfl rfl) ?_; refine ok_nil ?_; refine ok_env [(4, _)] ⟨rfl, trivial⟩ ?_))
  refine ok_endL (vs := [_]) rfl ⟨rfl, trivial⟩ (fun w' hw => ?_)
  exact ⟨mkC (y7 0).n (y7 0).c (y7 1).n w', rfl, hy7.2, hw⟩
/-- The state of a text that is drawn. -/
structure TxI (most : Nat) (m : Nat) where
  k : Int
  n : Nat
  L : List UInt8
  B : Option Addr
  d : Nat
  i : Nat
  h : Int
  hn : n = L.length
  hk : (n : Int) + k ≤ most ∧ 0 ≤ k
  hi : i ≤ m
theorem text_c (g : Nat) (A : Option Addr) (c : Nat) (bs : List UInt8) (i : Nat) (h : Int) (most : Nat) (hn : most ≤ 1000) (hi : i ≤ bs.length) {base : Nat} {w0 w : World} {H : List HObj} {G : List World} (hr : CodeR A bs G) (hw : WOk base w0 (cur g A bs.length c i h :: H) G w) :
    Calls Try.prog 16 #[pt (ga g) 0, .int .i64 most] w fun e w' => ∃ y : Ys, e = .returned (.string (yS (y 0))) ∧ ((yS (y 0)).size ≤ most ∧ (y 0).c ≤ bs.length) ∧ WOk base w0 (cur g A bs.length c (y 0).c (y 1).n :: H) G w' := by
  refine ok_enterW 38 Try.func16 rfl rfl rfl hw ?_
  repeat' (first
    | refine ok_seq ?_
    | refine ok_then ?_
    | refine ok_block ?_
    | (refine ok_region (i := 0) ?_; refine ok_p rfl rfl rfl (by exact ps_assign rfl rfl) ?_; refine ok_nil ?_; refine ok_env [(0, _), (1, _)] ⟨rfl, rfl, trivial⟩ ?_)
    | (refine ok_region (i := 1) ?_; refine ok_m rfl rfl rfl (by exact ms_lit rfl parts_nil rfl rfl rfl) ?_; rintro y9 hy9; refine ok_p rfl rfl rfl (by exact ps_assign rfl rfl) ?_; refine ok_nil ?_; refine ok_env [(0, _), (1, _), (5, _)] ⟨rfl, rfl, rfl, trivial⟩ ?_)
    | (refine ok_region (i := 2) ?_; refine ok_p rfl rfl rfl (by exact ps_move rfl rfl) ?_; refine ok_m rfl rfl rfl (by exact ms_wr 1 rfl rfl rfl rfl (fun _ _ w hw => below_c g A c bs _ _ 4 (by omega) (by omega) hr hw)) ?_; rintro y11 hy11; refine ok_p rfl rfl rfl (by exact ps_assign rfl rfl) ?_; refine ok_nil ?_; refine ok_env [(0, _), (1, _), (5, _), (6, _)] ⟨rfl, rfl, rfl, rfl, trivial⟩ ?_)
    | (refine ok_region (i := 3) ?_; refine ok_p rfl rfl rfl (by exact ps_move rfl rfl) ?_; refine ok_p rfl rfl rfl (by exact ps_move rfl rfl) ?_; refine ok_p rfl rfl rfl (by exact ps_add rfl rfl rfl (by omega)) ?_; refine ok_m rfl rfl rfl (by exact ms_wr 1 rfl rfl rfl rfl (fun _ _ w hw => below_c g A c bs _ _ ((most : Int) + 1) (by omega) (by omega) hr hw)) ?_; rintro y15 hy15; refine ok_p rfl rfl rfl (by exact ps_assign rfl rfl) ?_; refine ok_nil ?_; refine ok_env [(0, _), (5, _), (6, _), (7, _)] ⟨rfl, rfl, rfl, rfl, trivial⟩ ?_))
  refine ok_loop (ι := TxI most bs.length) (fun q => q.k.toNat) (fun q => ([(0, pt (ga g) 0), (5, .slice q.B q.n q.d), (6, .int .i64 (y11 0).n), (7, .int .i64 q.k)], .row 5 1 q.B q.n q.d (byteVs q.L) :: cur g A bs.length c q.i q.h :: H, _)) ⟨(y15 0).n, 0, [], none, 0, (y15 0).c, (y15 1).n, rfl, by omega, by omega⟩ (fun a w he hw => ⟨⟨(y15 0).n, 0, [], _, _, (y15 0).c, (y15 1).n, rfl, by omega, by omega⟩, he.sub ⟨rfl, rfl, rfl, rfl, trivial⟩, hw⟩) ?_
  rintro ⟨k, n, L, B, d, i2, h2, hnL, hk, hi2⟩
  simp only at hnL hk hi2 ⊢
  repeat' (first
    | refine ok_seq ?_
    | refine ok_then ?_
    | refine ok_block ?_
    | refine ok_in_normal ?_
    | (refine ok_cond rfl (fun hc => ?_) (fun hc => ?_) <;> (have hd := hc; (try simp only [decide_eq_true_eq, decide_eq_false_iff_not, Bool.or_eq_true, Bool.or_eq_false_iff, Bool.and_eq_true, Bool.and_eq_false_iff, Bool.not_eq_true', Bool.not_eq_false', bne_iff_ne, beq_iff_eq, bne_eq_false_iff_eq, beq_eq_false_iff_ne, ne_eq, Bool.not_true, Bool.not_false, Bool.false_eq_true, Bool.true_eq_false, inB_true, inB_false] at hd)))
    | refine ok_ret ?_
    | refine ok_exit ?_
    | refine ok_skip ?_
    | (refine ok_region (i := 4) ?_; refine ok_p rfl rfl rfl (by exact ps_move rfl rfl) ?_; refine ok_p rfl rfl rfl (by exact ps_int rfl rfl rfl rfl) ?_; refine ok_nil ?_; refine ok_env [(0, _), (5, _), (6, _), (7, _), (17, _)] ⟨rfl, rfl, rfl, rfl, rfl, trivial⟩ ?_)
    | (refine ok_region (i := 5) ?_; refine ok_p rfl rfl rfl (by exact ps_move rfl rfl) ?_; refine ok_p rfl rfl rfl (by exact ps_sub rfl rfl rfl (by omega)) ?_; refine ok_p rfl rfl rfl (by exact ps_assign rfl rfl) ?_; refine ok_nil ?_; refine ok_env [(0, _), (5, _), (6, _), (7, _)] ⟨rfl, rfl, rfl, rfl, trivial⟩ ?_)
    | (refine ok_region (i := 6) ?_; refine ok_p rfl rfl rfl (by exact ps_move rfl rfl) ?_; refine ok_m rfl rfl rfl (by exact ms_wr 1 rfl rfl rfl rfl (fun _ _ w hw => byte_c g A c bs _ _ (by omega) hr hw)) ?_; rintro y21 hy21; refine ok_p rfl rfl rfl (by exact ps_assign rfl rfl) ?_; refine ok_nil ?_; refine ok_env [(0, _), (5, _), (6, _), (7, _), (8, _)] ⟨rfl, rfl, rfl, rfl, rfl, trivial⟩ ?_)
    | (refine ok_region (i := 7) ?_; refine ok_p rfl rfl rfl (by exact ps_move rfl rfl) ?_; refine ok_p rfl rfl rfl (by exact ps_int rfl rfl rfl rfl) ?_; refine ok_nil ?_; refine ok_env [(0, _), (5, _), (6, _), (7, _), (8, _), (23, _)] ⟨rfl, rfl, rfl, rfl, rfl, rfl, trivial⟩ ?_)
    | (refine ok_region (i := 8) ?_; refine ok_p rfl rfl rfl (by exact ps_move rfl rfl) ?_; refine ok_p rfl rfl rfl (by exact ps_rem rfl rfl rfl (by omega) (by omega)) ?_; refine ok_p rfl rfl rfl (by exact ps_assign rfl rfl) ?_; refine ok_nil ?_; refine ok_env [(0, _), (5, _), (6, _), (7, _), (8, _)] ⟨rfl, rfl, rfl, rfl, rfl, trivial⟩ ?_)
    | (refine ok_region (i := 9) ?_; refine ok_p rfl rfl rfl (by exact ps_move rfl rfl) ?_; refine ok_p rfl rfl rfl (by exact ps_int rfl rfl rfl rfl) ?_; refine ok_nil ?_; refine ok_env [(0, _), (5, _), (6, _), (7, _), (8, _), (27, _)] ⟨rfl, rfl, rfl, rfl, rfl, rfl, trivial⟩ ?_)
    | (refine ok_region (i := 10) ?_; refine ok_p rfl rfl rfl (by exact ps_move rfl rfl) ?_; refine ok_p rfl rfl rfl (by exact ps_rem rfl rfl rfl (by omega) (by omega)) ?_; refine ok_p rfl rfl rfl (by exact ps_add rfl rfl rfl (by omega)) ?_; refine ok_p rfl rfl rfl (by exact ps_assign rfl rfl) ?_; refine ok_nil ?_; refine ok_env [(0, _), (5, _), (6, _), (7, _), (8, _)] ⟨rfl, rfl, rfl, rfl, rfl, trivial⟩ ?_)
    | (refine ok_region (i := 11) ?_; refine ok_p rfl rfl rfl (by exact ps_move rfl rfl) ?_; refine ok_p rfl rfl rfl (by exact ps_move rfl rfl) ?_; refine ok_p rfl rfl rfl (by exact ps_convI rfl rfl (by omega)) ?_; refine ok_m rfl rfl rfl (by exact ms_lit rfl (parts_cons rfl parts_nil) rfl rfl rfl) ?_; rintro y34 hy34; refine ok_m rfl rfl rfl (by exact ms_app (m := 1) 1 rfl rfl rfl rfl (rds_row 0 rfl) rfl (one1 rfl) (by omega) (by omega)) ?_; rintro y35 hy35; refine ok_p rfl rfl rfl (by exact ps_assign rfl rfl) ?_; refine ok_nil ?_; refine ok_env [(0, _), (5, _), (6, _), (7, _)] ⟨rfl, rfl, rfl, rfl, trivial⟩ ?_)
    | (refine ok_region (i := 12) ?_; refine ok_p rfl rfl rfl (by exact ps_move rfl rfl) ?_; refine ok_p rfl rfl rfl (by exact ps_str_of rfl rfl (rds_row 0 rfl) hnL) ?_; refine ok_p rfl rfl rfl (by exact ps_assign rfl rfl) ?_; refine ok_nil ?_; refine ok_env [(4, _)] ⟨rfl, trivial⟩ ?_))
  all_goals first
    | (refine ok_endL (vs := [_]) rfl ⟨rfl, trivial⟩ (fun w' hw => ?_)
       exact ⟨mkS ⟨L.toArray⟩ i2 h2 w', rfl, ⟨by show L.toArray.size ≤ most; simp; omega, hi2⟩, hw.tl⟩)
    | (refine fun a w' he hw => ⟨⟨k - 1, n + 1, L ++ [UInt8.ofNat ((y21 0).n).toNat], (y35 0).A, (y35 0).c, (y21 0).c, (y21 1).n, by simp; omega, by omega, by omega⟩, by simp only; omega, he.sub ⟨rfl, rfl, rfl, rfl, trivial⟩, ?_⟩
       simp only [bvs1]
       exact hw.tl)
    | (refine fun a w' he hw => ⟨⟨k - 1, n + 1, L ++ [UInt8.ofNat ((y21 0).n % 2).toNat], (y35 0).A, (y35 0).c, (y21 0).c, (y21 1).n, by simp; omega, by omega, by omega⟩, by simp only; omega, he.sub ⟨rfl, rfl, rfl, rfl, trivial⟩, ?_⟩
       simp only [bvs1]
       exact hw.tl)
    | (refine fun a w' he hw => ⟨⟨k - 1, n + 1, L ++ [UInt8.ofNat (97 + (y21 0).n % 4).toNat], (y35 0).A, (y35 0).c, (y21 0).c, (y21 1).n, by simp; omega, by omega, by omega⟩, by simp only; omega, he.sub ⟨rfl, rfl, rfl, rfl, trivial⟩, ?_⟩
       simp only [bvs1]
       exact hw.tl)
    | (refine fun a w' he hw => ⟨⟨k - 1, n + 1, L ++ [UInt8.ofNat (97 + (y21 0).n % 2 % 4).toNat], (y35 0).A, (y35 0).c, (y21 0).c, (y21 1).n, by simp; omega, by omega, by omega⟩, by simp only; omega, he.sub ⟨rfl, rfl, rfl, rfl, trivial⟩, ?_⟩
       simp only [bvs1]
       exact hw.tl)
end Go.Proofs.Ytojgphgfhapacaa
/- Data as the unknown results of calls: kept in a world of the result. -/
namespace Go.Proofs.Ytojgphgfhapacaa
set_option linter.unusedVariables false
class Enc (α : Type) where
  toV : α → Value
  ofV : Value → α
  rt : ∀ x, ofV (toV x) = x
@[reducible] def asI : Value → Int
  | .int _ n => n
  | _ => 0
@[reducible] def asS : Value → ByteArray
  | .string s => s
  | _ => ⟨#[]⟩
@[reducible] def asB : Value → Bool
  | .bool b => b
  | _ => false
def asL : Value → List Value
  | .agg cs => cs.toList
  | _ => []
instance : Enc Int := ⟨fun n => .int .i64 n, asI, fun _ => rfl⟩
instance : Enc ByteArray := ⟨fun s => .string s, asS, fun _ => rfl⟩
instance : Enc Bool := ⟨fun b => .bool b, asB, fun _ => rfl⟩
instance {α : Type} [Enc α] : Enc (List α) := ⟨fun l => .agg (l.map Enc.toV).toArray, fun v => (asL v).map Enc.ofV, fun l => by
  show ((l.map Enc.toV).toArray.toList).map Enc.ofV = l
  rw [List.toList_toArray, List.map_map]
  exact (List.map_congr_left (fun a _ => Enc.rt a)).trans (List.map_id l)⟩
instance {α β : Type} [Enc α] [Enc β] : Enc (α × β) := ⟨fun x => .agg #[Enc.toV x.1, Enc.toV x.2], fun v => (Enc.ofV ((asL v).getD 0 (.bool false)), Enc.ofV ((asL v).getD 1 (.bool false))), fun x => by
  show (Enc.ofV (Enc.toV x.1), Enc.ofV (Enc.toV x.2)) = x
  rw [Enc.rt, Enc.rt]⟩
def eW {α : Type} [Enc α] (x : α) (w : World) : World := { w with heap := #[.cells #[Enc.toV x] 0 (0, 0)] }
def yE {α : Type} [Enc α] (y : Ya) : α := match (y.w.heap[0]? : Option Obj) with
  | some (.cells cs _ _) => Enc.ofV ((cs[0]? : Option Value).getD (.bool false))
  | _ => Enc.ofV (.bool false)
theorem yE_mk {α : Type} [Enc α] (A : Option Addr) (c : Nat) (x : α) (w : World) (n : Int) : yE ⟨A, c, eW x w, n⟩ = x := Enc.rt x
/-- Results with data: places as they are, the data with a number and a place behind them. -/
def mkE {α : Type} [Enc α] (k : Nat) (y : Ys) (x : α) (i : Nat) (h : Int) (w : World) : Ys := fun j => if j = k then ⟨none, i, eW x w, h⟩ else y j
end Go.Proofs.Ytojgphgfhapacaa
/- The engine: a guarded call that writes, or tells a new value: the guard's two cases apart. -/
namespace Go.Proofs.Ytojgphgfhapacaa
open Go.RowKit
section
variable {P : Program} {N base : Nat} {w0 : World} {E : Env} {H : List HObj} {G : List World} {ops : Array Oper} {o : Oper} {rest : List Oper} {Q : Exit → Act → World → Prop} {F : Ys → Prop} {v : Ys → Value} {H' : Ys → List HObj} {G' : Ys → List World}
theorem ok_mgs {j d : Nat} {want c : Bool} (hg : o.guard = some (j, want)) (hj : (ops[j]?).bind (·.dst) = some d) (hv : look E d = some (.bool c)) {td : Nat} (hdt : o.dst = some td) (hd : Nat.blt td N = true) (hs : (c == want) = true → MStep P E H G o F v H' G')
    (h1 : (c == want) = true → ∀ y, F y → Ok N base w0 ((td, v y) :: E) (H' y) (G' y) (wpList P ops Q rest)) (h0 : (c == want) = false → Ok N base w0 ((td, undef) :: E) H G (wpList P ops Q rest)) : Ok N base w0 E H G (wpList P ops Q (o :: rest)) := by
  cases h : (c == want) with
  | true => exact ok_m_yes (p := true) hg hj hv (by rw [Bool.true_and]; exact h) hdt hd (hs h) (h1 h)
  | false => exact ok_m_no (p := true) hg hj hv (by rw [Bool.true_and]; exact h) hdt hd (h0 h)
theorem ps_never {u : Value} (h : False) : PStep P E H G o u := h.elim
end
end Go.Proofs.Ytojgphgfhapacaa
/- The engine: branches that meet again are told once. -/
namespace Go.Proofs.Ytojgphgfhapacaa
open Go.RowKit
set_option linter.unusedVariables false
section
variable {P : Program} {N base : Nat} {w0 : World} {E : Env} {H : List HObj} {G : List World} {Q : Exit → Act → World → Prop}
/-- The first part of a sequence ends in one of a family of states; the second part is walked once, from each of them. -/
theorem ok_join {ι : Type} (X : ι → Env × List HObj × List World) {x y : Code}
    (h1 : Ok N base w0 E H G (x.wp P (Exit.then (fun a w => ∃ j, Sat N base w0 (X j).1 (X j).2.1 (X j).2.2 a w) Q)))
    (h2 : ∀ j, Ok N base w0 (X j).1 (X j).2.1 (X j).2.2 (y.wp P Q)) : Ok N base w0 E H G ((Code.seq x y).wp P Q) := fun a w he hw =>
  wp_seq (Code.wp_mono (fun e a' w' hq => by
    cases e with
    | normal => obtain ⟨j, hs⟩ := hq; exact h2 j a' w' hs.env hs.mem
    | _ => exact hq) (h1 a w he hw))
/-- Stops a walk ahead of block i. -/
theorem at_block (i : Nat) {x y : Code} (h : Ok N base w0 E H G ((Code.seq (Code.block i x) y).wp P Q)) : Ok N base w0 E H G ((Code.seq (Code.block i x) y).wp P Q) := h
/-- Stops a walk ahead of a condition on temporary t that is followed by more. -/
theorem at_cond (t : Nat) {x x' y : Code} (h : Ok N base w0 E H G ((Code.seq (Code.cond (.tmp t) x x') y).wp P Q)) : Ok N base w0 E H G ((Code.seq (Code.cond (.tmp t) x x') y).wp P Q) := h
/-- Stops a walk ahead of a statement that begins with region i and is followed by more. -/
theorem at_reg (i : Nat) {ops : Array Oper} {b : Bool} {z y : Code} (h : Ok N base w0 E H G ((Code.seq (Code.seq (Code.region i ops b) z) y).wp P Q)) : Ok N base w0 E H G ((Code.seq (Code.seq (Code.region i ops b) z) y).wp P Q) := h
/-- A field of a struct value. -/
theorem ps_fieldV {o : Oper} {x : Operand} {t : TypeId} {f : Nat} {u v : Value} (ho : o.op = .field t x f) (hx : opd E x = some u) (hr : ∀ w, (Instr.field t u f).run P w = .ok v w) : PStep P E H G o v := fun N base w0 a w he hw => by
  simp only [execOp, ho, he.eval hx, Sem.run_bind, hr, Result.andThen_ok, Sem.run_pure]
theorem ok_capE {n c e sz : Nat} {A : Option Addr} {us : List Value} {K : Act → World → Prop} (i : Nat) (hi : H[i]? = some (.row e sz A n c us)) (h : n ≤ c → Ok N base w0 E H G K) : Ok N base w0 E H G K := fun a w he hw => h (hw.cap i hi) a w he hw
theorem isw_rdsE {A : Option Addr} {us : List Value} (h : Rds H G A us) (hl : 0 < us.length) : IsSW H G A := fun base w0 w hw => isS_rd (h base w0 w hw) hl
theorem rds_tlE {A : Option Addr} {us : List Value} (x : HObj) (h : Rds H G A us) : Rds (x :: H) G A us := fun base w0 w hw => h base w0 w hw.tl
theorem rds_headE {α : Type} [Dat α] {A : Option Addr} {L : List α} (h : Rds H G A (fl L)) (i : Nat) : Rds H G A (fl (L.take i)) := fun base w0 w hw => by
  rw [← fl_take]; exact (h base w0 w hw).take _
/-- An own object is let go. -/
theorem ok_drop {K : Act → World → Prop} (i : Nat) {x : HObj} (hi : H[i]? = some x) {H' : List HObj} (hH : H.eraseIdx i = H') (h : Ok N base w0 E H' G K) : Ok N base w0 E H G K := fun a w he hw => h a w he (hH ▸ (hw.front i hi).tl)
end
end Go.Proofs.Ytojgphgfhapacaa
/- Regions that meet again, with the facts on what was made; objects one by one to the front. -/
namespace Go.Proofs.Ytojgphgfhapacaa
open Go.RowKit
set_option linter.unusedVariables false
section
variable {P : Program} {N base : Nat} {w0 : World} {E : Env} {H : List HObj} {G : List World} {K : Act → World → Prop}
theorem mrgf1 {F : Ys → Prop} {XE : Ys → Env} {XH : Ys → List HObj} {G' : List World} {K' : Act → World → Prop} (h1 : (∀ y0, F y0 → Ok N base w0 (XE y0) (XH y0) G' K') → Ok N base w0 E H G K) (h2 : ∀ y0, F y0 → Ok N base w0 (XE y0) (XH y0) G' K') : Ok N base w0 E H G K := h1 h2
theorem mrgf2 {F : Ys → Ys → Prop} {XE : Ys → Ys → Env} {XH : Ys → Ys → List HObj} {G' : List World} {K' : Act → World → Prop} (h1 : (∀ y0 y1, F y0 y1 → Ok N base w0 (XE y0 y1) (XH y0 y1) G' K') → Ok N base w0 E H G K) (h2 : ∀ y0 y1, F y0 y1 → Ok N base w0 (XE y0 y1) (XH y0 y1) G' K') : Ok N base w0 E H G K := h1 h2
theorem mrgf3 {F : Ys → Ys → Ys → Prop} {XE : Ys → Ys → Ys → Env} {XH : Ys → Ys → Ys → List HObj} {G' : List World} {K' : Act → World → Prop} (h1 : (∀ y0 y1 y2, F y0 y1 y2 → Ok N base w0 (XE y0 y1 y2) (XH y0 y1 y2) G' K') → Ok N base w0 E H G K) (h2 : ∀ y0 y1 y2, F y0 y1 y2 → Ok N base w0 (XE y0 y1 y2) (XH y0 y1 y2) G' K') : Ok N base w0 E H G K := h1 h2
theorem mrgf4 {F : Ys → Ys → Ys → Ys → Prop} {XE : Ys → Ys → Ys → Ys → Env} {XH : Ys → Ys → Ys → Ys → List HObj} {G' : List World} {K' : Act → World → Prop} (h1 : (∀ y0 y1 y2 y3, F y0 y1 y2 y3 → Ok N base w0 (XE y0 y1 y2 y3) (XH y0 y1 y2 y3) G' K') → Ok N base w0 E H G K) (h2 : ∀ y0 y1 y2 y3, F y0 y1 y2 y3 → Ok N base w0 (XE y0 y1 y2 y3) (XH y0 y1 y2 y3) G' K') : Ok N base w0 E H G K := h1 h2
theorem mrgf5 {F : Ys → Ys → Ys → Ys → Ys → Prop} {XE : Ys → Ys → Ys → Ys → Ys → Env} {XH : Ys → Ys → Ys → Ys → Ys → List HObj} {G' : List World} {K' : Act → World → Prop} (h1 : (∀ y0 y1 y2 y3 y4, F y0 y1 y2 y3 y4 → Ok N base w0 (XE y0 y1 y2 y3 y4) (XH y0 y1 y2 y3 y4) G' K') → Ok N base w0 E H G K) (h2 : ∀ y0 y1 y2 y3 y4, F y0 y1 y2 y3 y4 → Ok N base w0 (XE y0 y1 y2 y3 y4) (XH y0 y1 y2 y3 y4) G' K') : Ok N base w0 E H G K := h1 h2
theorem mrgf6 {F : Ys → Ys → Ys → Ys → Ys → Ys → Prop} {XE : Ys → Ys → Ys → Ys → Ys → Ys → Env} {XH : Ys → Ys → Ys → Ys → Ys → Ys → List HObj} {G' : List World} {K' : Act → World → Prop} (h1 : (∀ y0 y1 y2 y3 y4 y5, F y0 y1 y2 y3 y4 y5 → Ok N base w0 (XE y0 y1 y2 y3 y4 y5) (XH y0 y1 y2 y3 y4 y5) G' K') → Ok N base w0 E H G K) (h2 : ∀ y0 y1 y2 y3 y4 y5, F y0 y1 y2 y3 y4 y5 → Ok N base w0 (XE y0 y1 y2 y3 y4 y5) (XH y0 y1 y2 y3 y4 y5) G' K') : Ok N base w0 E H G K := h1 h2
theorem mrgf7 {F : Ys → Ys → Ys → Ys → Ys → Ys → Ys → Prop} {XE : Ys → Ys → Ys → Ys → Ys → Ys → Ys → Env} {XH : Ys → Ys → Ys → Ys → Ys → Ys → Ys → List HObj} {G' : List World} {K' : Act → World → Prop} (h1 : (∀ y0 y1 y2 y3 y4 y5 y6, F y0 y1 y2 y3 y4 y5 y6 → Ok N base w0 (XE y0 y1 y2 y3 y4 y5 y6) (XH y0 y1 y2 y3 y4 y5 y6) G' K') → Ok N base w0 E H G K) (h2 : ∀ y0 y1 y2 y3 y4 y5 y6, F y0 y1 y2 y3 y4 y5 y6 → Ok N base w0 (XE y0 y1 y2 y3 y4 y5 y6) (XH y0 y1 y2 y3 y4 y5 y6) G' K') : Ok N base w0 E H G K := h1 h2
theorem mrgf8 {F : Ys → Ys → Ys → Ys → Ys → Ys → Ys → Ys → Prop} {XE : Ys → Ys → Ys → Ys → Ys → Ys → Ys → Ys → Env} {XH : Ys → Ys → Ys → Ys → Ys → Ys → Ys → Ys → List HObj} {G' : List World} {K' : Act → World → Prop} (h1 : (∀ y0 y1 y2 y3 y4 y5 y6 y7, F y0 y1 y2 y3 y4 y5 y6 y7 → Ok N base w0 (XE y0 y1 y2 y3 y4 y5 y6 y7) (XH y0 y1 y2 y3 y4 y5 y6 y7) G' K') → Ok N base w0 E H G K) (h2 : ∀ y0 y1 y2 y3 y4 y5 y6 y7, F y0 y1 y2 y3 y4 y5 y6 y7 → Ok N base w0 (XE y0 y1 y2 y3 y4 y5 y6 y7) (XH y0 y1 y2 y3 y4 y5 y6 y7) G' K') : Ok N base w0 E H G K := h1 h2
theorem ok_front (i : Nat) {x : HObj} (hi : H[i]? = some x) (h : Ok N base w0 E (x :: H.eraseIdx i) G K) : Ok N base w0 E H G K := fun a w he hw => h a w he (hw.front i hi)
end
end Go.Proofs.Ytojgphgfhapacaa
