/- Copies of walks; WalkNew of both programs. -/
import Derived.Test.YtbegbdfbfbkflaaWkP
import Derived.Test.YtbegbdfbfbkflaaElEnt
import Derived.Test.YtbegbdfbfbkflaaEng14
namespace Go.Proofs.Ytbegbdfbfbkflaa
open Go.RowKit
set_option maxHeartbeats 4000000
set_option maxRecDepth 20000
set_option linter.unusedVariables false
set_option linter.unusedSimpArgs false
attribute [local irreducible] Calls
/-- A walk of one's own as a result. -/
def wkY (A : Option Addr) (c : Nat) (S : List LE) (w : World) : Ys := mkR [⟨A, c, w, 0⟩] S w
theorem wkY_val (A : Option Addr) (c : Nat) (S : List LE) (sq : Int) (key : ByteArray) (on : Bool) (w : World) : Walk_val ⟨dats S, sq, key, on⟩ (wkY A c S w) = .agg #[.slice A S.length c, .int .i64 sq, .string key, .bool on] := by
  unfold Walk_val
  simp only [dats_len]
  rfl
theorem wkY_obj (A : Option Addr) (c : Nat) (S : List LE) (sq : Int) (key : ByteArray) (on : Bool) (w : World) : Walk_obj ⟨dats S, sq, key, on⟩ (wkY A c S w) = [.row 64 1 A S.length c (fl S), .bag 71 4 (rowsOf S)] := by
  have e : EntSS_loc (dats S) (wkY A c S w) = S := locs_mkR [⟨A, c, w, 0⟩] S w 1 rfl
  unfold Walk_obj
  simp only
  rw [e]
  simp only [dats_len]
  rfl
theorem wkN_no {n : World} {w0 w' : World} {H : List HObj} {G : List World} (hw : WOk n.heap.size w0 H G w') : NewOk n.heap.size (Walk_obj noW (mkY none 0 w')) [] w' := by
  have h0 := hw.sel [] (by decide) (H' := []) rfl (fun _ h => h)
  exact NewOk.of ((h0.bag_nil 71 4).rowNil 64 1)
structure CpW (R : List LE) where
  S : List LE
  A : Option Addr
  c : Nat
  hs : S.length ≤ R.length
  hd : dats S = (dats R).take S.length
theorem CpW.snoc {R S : List LE} (hs : S.length < R.length) (hd : dats S = (dats R).take S.length) (A : Option Addr) (c : Nat) : dats (S ++ [⟨(nth R S.length).d, A, c⟩]) = (dats R).take (S ++ [(⟨(nth R S.length).d, A, c⟩ : LE)]).length := by
  have h' : S.length < (dats R).length := by rw [dats_len]; exact hs
  rw [dats_snoc, hd, List.length_append, List.length_singleton, List.take_succ_eq_append_getElem h']
  congr 2
  simp [dats, nthL R S.length hs]
theorem i_copyWalk_c (A : Option Addr) (c : Nat) (R : List LE) (sq : Int) (key : ByteArray) (on : Bool) (w : World) (h2 : RdN w A R) (hl2 : R.length ≤ 4194304) (hl3 : ∀ x ∈ dats R, x.length ≤ 4194304) :
    Calls Try.prog 100 #[.agg #[.slice A R.length c, .int .i64 sq, .string key, .bool on]] w fun e w' => ∃ y : Ys, e = .returned (Walk_val ⟨dats R, sq, key, on⟩ y) ∧ True ∧ Below w.heap.size w w' ∧ NewOk w.heap.size (Walk_obj ⟨dats R, sq, key, on⟩ y) [] w' := by
  obtain ⟨q1, q2⟩ := h2
  have q2 : ∀ k, k < R.length → Rd w (nth R k).A (fl (nth R k).d) := q2
  have Q2 := Lib.hid q2; clear q2
  have HL := Lib.hid (lens_at hl3); clear hl3
  refine ok_enter 29 Try.func100 rfl rfl rfl ?_
  repeat' (first
    | refine ok_seq ?_
    | refine ok_then ?_
    | refine ok_block ?_
    | (refine ok_region (i := 0) ?_; refine ok_m rfl rfl rfl (by exact ms_box rfl rfl rfl) ?_; rintro y1 hy1; refine ok_m rfl rfl rfl (by exact ms_alloc rfl) ?_; rintro y2 hy2; refine ok_nil ?_; refine ok_env [(1, _), (2, _)] ⟨rfl, rfl, trivial⟩ ?_)
    | (refine ok_region (i := 1) ?_; refine ok_p rfl rfl rfl (by exact ps_field rfl rfl (by exact isw_ga _)) ?_; refine ok_p rfl rfl rfl (by exact ps_load rfl rfl (by exact Rds.cell (rds_box 1 rfl) rfl)) ?_; refine ok_p rfl rfl rfl (by exact ps_field rfl rfl (by exact isw_ga _)) ?_; refine ok_p rfl rfl rfl (by exact ps_load rfl rfl (by exact Rds.cell (rds_box 1 rfl) rfl)) ?_; refine ok_p rfl rfl rfl (by exact ps_field rfl rfl (by exact isw_ga _)) ?_; refine ok_p rfl rfl rfl (by exact ps_load rfl rfl (by exact Rds.cell (rds_box 1 rfl) rfl)) ?_; refine ok_p rfl rfl rfl (by exact ps_bld rfl (parts_cons rfl (parts_cons rfl (parts_cons rfl parts_nil))) rfl) ?_; refine ok_m rfl rfl rfl (by exact ms_alloc rfl) ?_; rintro y3 hy3; refine ok_m_ rfl rfl (by exact ms_store 0 rfl rfl rfl rfl rfl rfl rfl rfl) ?_; rintro y_ hy_; refine ok_nil ?_; refine ok_env [(1, _), (2, _), (3, _)] ⟨rfl, rfl, rfl, trivial⟩ ?_)
    | (refine ok_region (i := 2) ?_; refine ok_p rfl rfl rfl (by exact ps_field rfl rfl (by exact isw_ga _)) ?_; refine ok_p rfl rfl rfl (by exact ps_load rfl rfl (by exact Rds.cell (rds_box 2 rfl) rfl)) ?_; refine ok_p rfl rfl rfl (by exact ps_len rfl rfl) ?_; refine ok_p rfl rfl rfl (by exact ps_move rfl rfl) ?_; refine ok_nil ?_; refine ok_env [(2, _), (3, _), (14, _), (15, _), (16, _)] ⟨rfl, rfl, rfl, rfl, rfl, trivial⟩ ?_))
  refine ok_loop (ι := CpW R) (fun q => R.length - q.S.length) (fun q => ([(2, pt (ga (y2 0).c) 0), (3, pt (ga (y3 0).c) 0), (14, .slice A R.length c), (15, .int .i64 R.length), (16, .int .i64 q.S.length)], [.bag 71 4 (rowsOf q.S), .row 64 1 q.A q.S.length q.c (fl q.S), .box (y3 0).c 61 [.slice q.A q.S.length q.c, .int .i64 sq, .string key, .bool on], _, _], _)) ⟨[], none, 0, by simp, by simp [dats]⟩ (fun a w he hw => ⟨⟨[], none, 0, by simp, by simp [dats]⟩, he.sub ⟨rfl, rfl, rfl, rfl, rfl, trivial⟩, by
    have := (hw.rowNil 64 1).bag_nil 71 4
    exact this⟩) ?_
  rintro ⟨S, A2, c2, hs, hd0⟩
  simp only at hs hd0 ⊢
  have HD := Lib.hid hd0; clear hd0
  have hsn := fun h => CpW.snoc (S := S) (R := R) h HD.out
  have HN := Lib.hid hsn; clear hsn
  repeat' (first
    | refine ok_seq ?_
    | refine ok_then ?_
    | refine ok_block ?_
    | refine ok_in_normal ?_
    | (refine ok_cond rfl (fun hc => ?_) (fun hc => ?_) <;> (have hd := hc; (try simp only [decide_eq_true_eq, decide_eq_false_iff_not, Bool.or_eq_true, Bool.or_eq_false_iff, Bool.and_eq_true, Bool.and_eq_false_iff, Bool.not_eq_true', Bool.not_eq_false', bne_iff_ne, beq_iff_eq, bne_eq_false_iff_eq, beq_eq_false_iff_ne, ne_eq, Bool.not_true, Bool.not_false, Bool.false_eq_true, Bool.true_eq_false, inB_true, inB_false] at hd)))
    | refine ok_ret ?_
    | refine ok_exit ?_
    | refine ok_skip ?_
    | (refine ok_region (i := 3) ?_; refine ok_p rfl rfl rfl (by exact ps_int rfl rfl rfl rfl) ?_; refine ok_nil ?_; refine ok_env [(2, _), (3, _), (14, _), (15, _), (16, _), (17, _)] ⟨rfl, rfl, rfl, rfl, rfl, rfl, trivial⟩ ?_)
    | (refine ok_region (i := 4) ?_; refine ok_p rfl rfl rfl (by exact ps_indexN rfl rfl rfl (by omega) (by exact isw_of (isS_fl (by assumption) (by omega)))) ?_; refine ok_p rfl rfl rfl (by exact ps_load rfl rfl (by exact Rds.cell (rds_rf (by assumption) (by exact List.mem_cons_self)) (by exact fl_at0 _ _ (by omega) (by decide)))) ?_; refine ok_p rfl rfl rfl (by exact ps_assign rfl rfl) ?_; refine ok_nil ?_; refine ok_env [(2, _), (3, _), (5, _), (14, _), (15, _), (16, _)] ⟨rfl, rfl, rfl, rfl, rfl, rfl, trivial⟩ ?_)
    | (refine ok_draw (id := 5) 7 rfl (by kernel_rfl) (by kernel_rfl) rfl (by repeat (first | exact pq_body | refine pq_then ?_ | refine pq_in ?_)) [0, 2, 3, 4] (by decide) rfl ?_; refine okT_take (i := 0) rfl (by kernel_rfl) rfl rfl rfl (by exact ps_field rfl rfl (by exact isw_ga _)) ?_; refine okT_take (i := 1) rfl (by kernel_rfl) rfl rfl rfl (by exact ps_load rfl rfl (by exact Rds.cell (rds_box 1 rfl) rfl)) ?_; refine okT_take (i := 2) rfl (by kernel_rfl) rfl rfl rfl (by exact ps_move rfl rfl) ?_; refine okT_one (i := 3) rfl rfl (by kernel_rfl) rfl rfl rfl (by exact ms_c1 rfl rfl (fun _ _ w hw => cloneE_c (nth R S.length).A (nth R S.length).c (nth R S.length).d w (rds_rf (Q2.out _ (by omega)) (by exact List.mem_cons_self) _ _ w hw) (HL.out _ (by omega)))) (fun y w _ h => by exact h.tl.sel [0, 2, 3, 4] (by decide) rfl (fun _ h => h)) ?_; rintro y23 hy23; refine okT_one (i := 4) rfl rfl (by kernel_rfl) rfl rfl rfl (by exact ms_lit rfl (parts_cons rfl parts_nil) rfl rfl rfl) (fun y w _ h => by exact h.tl.tl.sel [0, 2, 3, 4] (by decide) rfl (fun _ h => h)) ?_; rintro y24 hy24; refine okT_one (i := 5) rfl rfl (by kernel_rfl) rfl rfl rfl (by exact ms_appF (α := LE) (L := S) (M := [⟨(nth R S.length).d, (y23 0).A, (y23 0).c⟩]) 3 rfl rfl rfl rfl (rds_row 0 rfl) rfl (by simp; omega) (by simp; omega)) (fun y w _ h => by exact h.tl.tl.sel [0, 2, 3, 4] (by decide) rfl (fun _ h => h)) ?_; rintro y25 hy25; refine okT_take (i := 6) rfl (by kernel_rfl) rfl rfl rfl (by exact ps_field rfl rfl (by exact isw_ga _)) ?_; refine okT_done (by kernel_rfl) ?_; refine ok_m_ rfl rfl (by exact ms_store 4 rfl rfl rfl rfl rfl rfl rfl rfl) ?_; rintro y_ hy_; refine ok_nil ?_; refine ok_env [(2, _), (3, _), (14, _), (15, _), (16, _)] ⟨rfl, rfl, rfl, rfl, rfl, trivial⟩ ?_)
    | (refine ok_region (i := 6) ?_; refine ok_p rfl rfl rfl (by exact ps_add rfl rfl rfl (by omega)) ?_; refine ok_p rfl rfl rfl (by exact ps_move rfl rfl) ?_; refine ok_nil ?_; refine ok_env [(2, _), (3, _), (14, _), (15, _), (16, _)] ⟨rfl, rfl, rfl, rfl, rfl, trivial⟩ ?_)
    | (refine ok_region (i := 7) ?_; refine ok_p rfl rfl rfl (by exact ps_loads rfl rfl (by exact rds_box 2 rfl) rfl rfl (by decide)) ?_; refine ok_m_ rfl rfl (by exact ms_store 3 rfl rfl rfl rfl rfl rfl rfl rfl) ?_; rintro y_ hy_; refine ok_nil ?_; refine ok_env [(2, _)] ⟨rfl, trivial⟩ ?_))
  · refine fun a w' he hw => ⟨⟨S ++ [⟨(nth R S.length).d, (y23 0).A, (y23 0).c⟩], (y25 0).A, (y25 0).c, by simp; omega, HN.out (by omega) _ _⟩, by simp; omega, he.sub ⟨rfl, rfl, rfl, rfl, by simp [look], trivial⟩, ?_⟩
    have h1 := WOk.bagAdd (⟨(nth R S.length).d, (y23 0).A, (y23 0).c⟩ : LE) rfl rfl (hw.sel [1, 2, 3, 4, 5, 6] (by decide) rfl (fun _ h => h))
    simp only [List.length_append, List.length_singleton]
    exact h1
  · have hSR : S.length = R.length := by omega
    have hdd : dats S = dats R := by rw [HD.out, hSR, ← dats_len, List.take_length]
    refine ok_endL (vs := [_]) rfl ⟨⟨_, 3, _, _, _, rfl, rfl, inferInstance, rfl, rfl⟩, trivial⟩ (fun w' hw => ⟨wkY A2 c2 S w', ?_, trivial, hw.below, ?_⟩)
    · rw [← hdd, wkY_val]; rfl
    · rw [← hdd, wkY_obj]
      exact NewOk.of (hw.sel [1, 0] (by decide) rfl (G' := []) (fun _ h => by cases h))
theorem s_l32Copy_c (A : Option Addr) (c : Nat) (R : List LE) (sq : Int) (key : ByteArray) (on : Bool) (w : World) (h2 : RdN w A R) (hl2 : R.length ≤ 4194304) (hl3 : ∀ x ∈ dats R, x.length ≤ 4194304) :
    Calls Try.prog 102 #[.agg #[.slice A R.length c, .int .i64 sq, .string key, .bool on]] w fun e w' => ∃ y : Ys, e = .returned (Walk_val ⟨dats R, sq, key, on⟩ y) ∧ True ∧ Below w.heap.size w w' ∧ NewOk w.heap.size (Walk_obj ⟨dats R, sq, key, on⟩ y) [] w' := by
  obtain ⟨q1, q2⟩ := h2
  have q2 : ∀ k, k < R.length → Rd w (nth R k).A (fl (nth R k).d) := q2
  have Q2 := Lib.hid q2; clear q2
  have HL := Lib.hid (lens_at hl3); clear hl3
  refine ok_enter 32 Try.func102 rfl rfl rfl ?_
  repeat' (first
    | refine ok_seq ?_
    | refine ok_then ?_
    | refine ok_block ?_
    | (refine ok_region (i := 0) ?_; refine ok_m rfl rfl rfl (by exact ms_box rfl rfl rfl) ?_; rintro y1 hy1; refine ok_m rfl rfl rfl (by exact ms_alloc rfl) ?_; rintro y2 hy2; refine ok_nil ?_; refine ok_env [(1, _), (2, _)] ⟨rfl, rfl, trivial⟩ ?_)
    | (refine ok_region (i := 1) ?_; refine ok_p rfl rfl rfl (by exact ps_field rfl rfl (by exact isw_ga _)) ?_; refine ok_p rfl rfl rfl (by exact ps_load rfl rfl (by exact Rds.cell (rds_box 1 rfl) rfl)) ?_; refine ok_p rfl rfl rfl (by exact ps_field rfl rfl (by exact isw_ga _)) ?_; refine ok_p rfl rfl rfl (by exact ps_load rfl rfl (by exact Rds.cell (rds_box 1 rfl) rfl)) ?_; refine ok_p rfl rfl rfl (by exact ps_field rfl rfl (by exact isw_ga _)) ?_; refine ok_p rfl rfl rfl (by exact ps_load rfl rfl (by exact Rds.cell (rds_box 1 rfl) rfl)) ?_; refine ok_p rfl rfl rfl (by exact ps_bld rfl (parts_cons rfl (parts_cons rfl (parts_cons rfl parts_nil))) rfl) ?_; refine ok_m rfl rfl rfl (by exact ms_alloc rfl) ?_; rintro y3 hy3; refine ok_m_ rfl rfl (by exact ms_store 0 rfl rfl rfl rfl rfl rfl rfl rfl) ?_; rintro y_ hy_; refine ok_nil ?_; refine ok_env [(1, _), (2, _), (3, _)] ⟨rfl, rfl, rfl, trivial⟩ ?_)
    | (refine ok_region (i := 2) ?_; refine ok_p rfl rfl rfl (by exact ps_assign rfl rfl) ?_; refine ok_nil ?_; refine ok_env [(1, _), (2, _), (3, _), (4, _)] ⟨rfl, rfl, rfl, rfl, trivial⟩ ?_))
  refine ok_loop (ι := CpW R) (fun q => R.length - q.S.length) (fun q => ([(1, pt (ga (y1 0).c) 0), (2, pt (ga (y2 0).c) 0), (3, pt (ga (y3 0).c) 0), (4, .int .i64 q.S.length)], [.bag 71 4 (rowsOf q.S), .row 64 1 q.A q.S.length q.c (fl q.S), .box (y3 0).c 61 [.slice q.A q.S.length q.c, .int .i64 sq, .string key, .bool on], _, _], _)) ⟨[], none, 0, by simp, by simp [dats]⟩ (fun a w he hw => ⟨⟨[], none, 0, by simp, by simp [dats]⟩, he.sub ⟨rfl, rfl, rfl, rfl, trivial⟩, by
    have := (hw.rowNil 64 1).bag_nil 71 4
    exact this⟩) ?_
  rintro ⟨S, A2, c2, hs, hd0⟩
  simp only at hs hd0 ⊢
  have HD := Lib.hid hd0; clear hd0
  have hsn := fun h => CpW.snoc (S := S) (R := R) h HD.out
  have HN := Lib.hid hsn; clear hsn
  repeat' (first
    | refine ok_seq ?_
    | refine ok_then ?_
    | refine ok_block ?_
    | refine ok_in_normal ?_
    | (refine ok_cond rfl (fun hc => ?_) (fun hc => ?_) <;> (have hd := hc; (try simp only [decide_eq_true_eq, decide_eq_false_iff_not, Bool.or_eq_true, Bool.or_eq_false_iff, Bool.and_eq_true, Bool.and_eq_false_iff, Bool.not_eq_true', Bool.not_eq_false', bne_iff_ne, beq_iff_eq, bne_eq_false_iff_eq, beq_eq_false_iff_ne, ne_eq, Bool.not_true, Bool.not_false, Bool.false_eq_true, Bool.true_eq_false, inB_true, inB_false] at hd)))
    | refine ok_ret ?_
    | refine ok_exit ?_
    | refine ok_skip ?_
    | (refine ok_region (i := 3) ?_; refine ok_p rfl rfl rfl (by exact ps_move rfl rfl) ?_; refine ok_p rfl rfl rfl (by exact ps_field rfl rfl (by exact isw_ga _)) ?_; refine ok_p rfl rfl rfl (by exact ps_load rfl rfl (by exact Rds.cell (rds_box 4 rfl) rfl)) ?_; refine ok_p rfl rfl rfl (by exact ps_len rfl rfl) ?_; refine ok_p rfl rfl rfl (by exact ps_int rfl rfl rfl rfl) ?_; refine ok_nil ?_; refine ok_env [(1, _), (2, _), (3, _), (4, _), (16, _)] ⟨rfl, rfl, rfl, rfl, rfl, trivial⟩ ?_)
    | (refine ok_region (i := 4) ?_; refine ok_p rfl rfl rfl (by exact ps_move rfl rfl) ?_; refine ok_p rfl rfl rfl (by exact ps_add rfl rfl rfl (by omega)) ?_; refine ok_p rfl rfl rfl (by exact ps_assign rfl rfl) ?_; refine ok_nil ?_; refine ok_env [(1, _), (2, _), (3, _), (4, _)] ⟨rfl, rfl, rfl, rfl, trivial⟩ ?_)
    | (refine ok_draw (id := 5) 12 rfl (by kernel_rfl) (by kernel_rfl) rfl (by repeat (first | exact pq_body | refine pq_then ?_ | refine pq_in ?_)) [0, 2, 3, 4] (by decide) rfl ?_; refine okT_take (i := 0) rfl (by kernel_rfl) rfl rfl rfl (by exact ps_field rfl rfl (by exact isw_ga _)) ?_; refine okT_take (i := 1) rfl (by kernel_rfl) rfl rfl rfl (by exact ps_load rfl rfl (by exact Rds.cell (rds_box 1 rfl) rfl)) ?_; refine okT_take (i := 3) rfl (by kernel_rfl) rfl rfl rfl (by exact ps_field rfl rfl (by exact isw_ga _)) ?_; refine okT_take (i := 4) rfl (by kernel_rfl) rfl rfl rfl (by exact ps_load rfl rfl (by exact Rds.cell (rds_box 3 rfl) rfl)) ?_; refine okT_take (i := 5) rfl (by kernel_rfl) rfl rfl rfl (by exact ps_move rfl rfl) ?_; refine okT_take (i := 6) rfl (by kernel_rfl) rfl rfl rfl (by exact ps_indexN rfl rfl rfl (by omega) (by exact isw_of (isS_fl (by assumption) (by omega)))) ?_; refine okT_take (i := 7) rfl (by kernel_rfl) rfl rfl rfl (by exact ps_load rfl rfl (by exact Rds.cell (rds_rf (by assumption) (by exact List.mem_cons_self)) (by exact fl_at0 _ _ (by omega) (by decide)))) ?_; refine okT_one (i := 2) rfl rfl (by kernel_rfl) rfl rfl rfl (by exact ms_lit rfl parts_nil rfl rfl rfl) (fun y w _ h => by exact h.tl.sel [0, 2, 3, 4] (by decide) rfl (fun _ h => h)) ?_; rintro y21 hy21; refine okT_one (i := 8) rfl rfl (by kernel_rfl) rfl rfl rfl (by exact ms_app0 (M := (nth R S.length).d) 0 rfl rfl rfl rfl (rds_rf (Q2.out _ (by omega)) (by exact List.mem_cons_self)) rfl (by have : (nth R S.length).d.length ≤ 4194304 := HL.out _ (by omega); omega) (by have : (nth R S.length).d.length ≤ 4194304 := HL.out _ (by omega); omega)) (fun y w _ h => by exact h.tl.sel [0, 2, 3, 4] (by decide) rfl (fun _ h => h)) ?_; rintro y27 hy27; refine okT_one (i := 9) rfl rfl (by kernel_rfl) rfl rfl rfl (by exact ms_lit rfl (parts_cons rfl parts_nil) rfl rfl rfl) (fun y w _ h => by exact h.tl.tl.sel [0, 2, 3, 4] (by decide) rfl (fun _ h => h)) ?_; rintro y28 hy28; refine okT_one (i := 10) rfl rfl (by kernel_rfl) rfl rfl rfl (by exact ms_appF (α := LE) (L := S) (M := [⟨(nth R S.length).d, (y27 0).A, (y27 0).c⟩]) 3 rfl rfl rfl rfl (rds_row 0 rfl) rfl (by simp; omega) (by simp; omega)) (fun y w _ h => by exact h.tl.tl.sel [0, 2, 3, 4] (by decide) rfl (fun _ h => h)) ?_; rintro y29 hy29; refine okT_take (i := 11) rfl (by kernel_rfl) rfl rfl rfl (by exact ps_field rfl rfl (by exact isw_ga _)) ?_; refine okT_done (by kernel_rfl) ?_; refine ok_m_ rfl rfl (by exact ms_store 4 rfl rfl rfl rfl rfl rfl rfl rfl) ?_; rintro y_ hy_; refine ok_nil ?_; refine ok_env [(1, _), (2, _), (3, _), (4, _)] ⟨rfl, rfl, rfl, rfl, trivial⟩ ?_)
    | (refine ok_region (i := 6) ?_; refine ok_p rfl rfl rfl (by exact ps_loads rfl rfl (by exact rds_box 2 rfl) rfl rfl (by decide)) ?_; refine ok_m_ rfl rfl (by exact ms_store 3 rfl rfl rfl rfl rfl rfl rfl rfl) ?_; rintro y_ hy_; refine ok_nil ?_; refine ok_env [(2, _)] ⟨rfl, trivial⟩ ?_))
  · refine fun a w' he hw => ⟨⟨S ++ [⟨(nth R S.length).d, (y27 0).A, (y27 0).c⟩], (y29 0).A, (y29 0).c, by simp; omega, HN.out (by omega) _ _⟩, by simp; omega, he.sub ⟨rfl, rfl, rfl, by simp [look], trivial⟩, ?_⟩
    have h1 := WOk.bagAdd (⟨(nth R S.length).d, (y27 0).A, (y27 0).c⟩ : LE) rfl rfl (hw.sel [1, 2, 3, 4, 5, 6] (by decide) rfl (fun _ h => h))
    simp only [List.length_append, List.length_singleton]
    exact h1
  · have hSR : S.length = R.length := by omega
    have hdd : dats S = dats R := by rw [HD.out, hSR, ← dats_len, List.take_length]
    refine ok_endL (vs := [_]) rfl ⟨⟨_, 3, _, _, _, rfl, rfl, inferInstance, rfl, rfl⟩, trivial⟩ (fun w' hw => ⟨wkY A2 c2 S w', ?_, trivial, hw.below, ?_⟩)
    · rw [← hdd, wkY_val]; rfl
    · rw [← hdd, wkY_obj]
      exact NewOk.of (hw.sel [1, 0] (by decide) rfl (G' := []) (fun _ h => by cases h))
theorem new_no {x : DEntSS} {sq : Int} (h : fWalkOk ⟨x, sq, ⟨#[]⟩, false⟩ = false) : fWalkNew x sq = (noW, false) := by unfold fWalkNew; rw [if_neg (by rw [h]; exact Bool.false_ne_true)]
theorem new_yes {x : DEntSS} {sq : Int} (h : fWalkOk ⟨x, sq, ⟨#[]⟩, false⟩ = true) : fWalkNew x sq = (⟨x, sq, ⟨#[]⟩, false⟩, true) := by unfold fWalkNew; rw [if_pos h]
theorem EntSS_n (x : DEntSS) (hs : EntSS_sm x) : x.length ≤ 4194304 ∧ ∀ l ∈ x, l.length ≤ 4194304 := EntSS_sm_lim hs
theorem Wsm (x : DEntSS) (sq : Int) (hs : EntSS_sm x) : Walk_sm ⟨x, sq, ⟨#[]⟩, false⟩ := ⟨hs, Nat.zero_le _⟩
theorem i_WalkNew (x : DEntSS) (y : Ys) (sq : Int) (w : World) (h : EntSS_rd w x y) (hs : EntSS_sm x) (hn : -9223372036854775808 ≤ sq ∧ sq ≤ 9223372036854775807) :
    Calls Try.prog 35 #[EntSS_val x y, .int .i64 sq] w fun e w' => ∃ y : Ys, e = .returned (.tuple #[Walk_val (fWalkNew x sq).1 y, .bool (fWalkNew x sq).2]) ∧ True ∧ Below w.heap.size w w' ∧ NewOk w.heap.size (Walk_obj (fWalkNew x sq).1 y) [] w' := by
  have hl := EntSS_n x hs
  have hcp : ∀ w, RdN w (y 0).A (EntSS_loc x y) → Calls Try.prog 100 #[.agg #[.slice (y 0).A x.length (y 0).c, .int .i64 sq, .string ⟨#[]⟩, .bool false]] w fun e w' => ∃ y : Ys, e = .returned (Walk_val ⟨x, sq, ⟨#[]⟩, false⟩ y) ∧ True ∧ Below w.heap.size w w' ∧ NewOk w.heap.size (Walk_obj ⟨x, sq, ⟨#[]⟩, false⟩ y) [] w' := fun w h => by
    have := i_copyWalk_c (y 0).A (y 0).c (EntSS_loc x y) sq ⟨#[]⟩ false w h (by rw [locs_len]; exact hl.1) (by rw [dats_locs]; exact hl.2)
    rw [locs_len, dats_locs] at this; exact this
  have HC := Lib.hid hcp; clear hcp
  have H := Lib.hid h; clear h
  have HS := Lib.hid hs; clear hs
  refine ok_enter 16 Try.func35 rfl rfl rfl ?_
  repeat' (first
    | refine ok_seq ?_
    | refine ok_then ?_
    | refine ok_then_ret ?_
    | (refine ok_cond rfl (fun hc => ?_) (fun hc => ?_) <;> (have hd := hc; (try simp only [decide_eq_true_eq, decide_eq_false_iff_not, Bool.or_eq_true, Bool.or_eq_false_iff, Bool.and_eq_true, Bool.and_eq_false_iff, Bool.not_eq_true', Bool.not_eq_false', bne_iff_ne, beq_iff_eq, bne_eq_false_iff_eq, beq_eq_false_iff_ne, ne_eq, Bool.not_true, Bool.not_false, Bool.false_eq_true, Bool.true_eq_false, inB_true, inB_false] at hd)))
    | refine ok_ret ?_
    | refine ok_skip ?_
    | (refine ok_region (i := 0) ?_; refine ok_m rfl rfl rfl (by exact ms_alloc rfl) ?_; rintro y4 hy4; refine ok_p rfl rfl rfl (by exact ps_assign rfl rfl) ?_; refine ok_nil ?_; refine ok_env [(0, _), (1, _), (4, _)] ⟨rfl, rfl, rfl, trivial⟩ ?_)
    | (refine ok_region (i := 1) ?_; refine ok_p rfl rfl rfl (by exact ps_move rfl rfl) ?_; refine ok_p rfl rfl rfl (by exact ps_move rfl rfl) ?_; refine ok_p rfl rfl rfl (by exact ps_bld rfl (parts_cons rfl (parts_cons rfl parts_nil)) rfl) ?_; refine ok_m rfl rfl rfl (by exact ms_alloc rfl) ?_; rintro y6 hy6; refine ok_m_ rfl rfl (by exact ms_store 0 rfl rfl rfl rfl rfl rfl rfl rfl) ?_; rintro y_ hy_; refine ok_nil ?_; refine ok_env [(4, _), (6, _)] ⟨rfl, rfl, trivial⟩ ?_)
    | (refine ok_region (i := 2) ?_; refine ok_p rfl rfl rfl (by exact ps_loads rfl rfl (by exact rds_box 0 rfl) rfl rfl (by decide)) ?_; refine ok_m rfl rfl rfl (by exact ms_s1 rfl rfl (fun _ _ w hw => i_WalkOk ⟨x, sq, ⟨#[]⟩, false⟩ y w (EntSS_rf H.out (by exact List.mem_cons_self) hw) (Wsm x sq HS.out))) ?_; rintro y11 hy11; refine ok_p rfl rfl rfl (by exact ps_not rfl rfl) ?_; refine ok_nil ?_; refine ok_env [(4, _), (6, _), (12, _)] ⟨rfl, rfl, rfl, trivial⟩ ?_)
    | (refine ok_region (i := 3) ?_; refine ok_p rfl rfl rfl (by exact ps_bld rfl parts_nil rfl) ?_; refine ok_m_ rfl rfl (by exact ms_store 1 rfl rfl rfl rfl rfl rfl rfl rfl) ?_; rintro y_ hy_; refine ok_p rfl rfl rfl (by exact ps_assign rfl rfl) ?_; refine ok_nil ?_; refine ok_env [(4, _), (5, _)] ⟨rfl, rfl, trivial⟩ ?_)
    | (refine ok_region (i := 4) ?_; refine ok_p rfl rfl rfl (by exact ps_loads rfl rfl (by exact rds_box 0 rfl) rfl rfl (by decide)) ?_; refine ok_m rfl rfl rfl (by exact ms_c1 rfl rfl (fun _ _ w hw => HC.out w (RdN.keep hw H.out (by exact List.mem_cons_self)))) ?_; rintro y15 hy15; refine ok_m_ rfl rfl (by exact ms_store 3 rfl rfl rfl rfl rfl rfl rfl rfl) ?_; rintro y_ hy_; refine ok_p rfl rfl rfl (by exact ps_assign rfl rfl) ?_; refine ok_nil ?_; refine ok_env [(4, _), (5, _)] ⟨rfl, rfl, trivial⟩ ?_))
  · rw [new_no hd]
    exact ok_endL (vs := [_, _]) rfl ⟨⟨_, 1, _, _, _, rfl, rfl, inferInstance, rfl, rfl⟩, rfl, trivial⟩ (fun w' hw => ⟨mkY none 0 w', rfl, trivial, hw.below, wkN_no hw⟩)
  · rw [new_yes hd]
    refine ok_endL (vs := [_, _]) rfl ⟨⟨_, 3, _, _, _, rfl, rfl, inferInstance, rfl, rfl⟩, rfl, trivial⟩ (fun w' hw => ⟨y15, rfl, trivial, hw.below, ?_⟩)
    exact NewOk.of (hw.sel [0, 1] (by decide) rfl (G' := []) (fun _ h => by cases h))
theorem s_WalkNew (x : DEntSS) (y : Ys) (sq : Int) (w : World) (h : EntSS_rd w x y) (hs : EntSS_sm x) (hn : -9223372036854775808 ≤ sq ∧ sq ≤ 9223372036854775807) :
    Calls Try.prog 36 #[EntSS_val x y, .int .i64 sq] w fun e w' => ∃ y : Ys, e = .returned (.tuple #[Walk_val (fWalkNew x sq).1 y, .bool (fWalkNew x sq).2]) ∧ True ∧ Below w.heap.size w w' ∧ NewOk w.heap.size (Walk_obj (fWalkNew x sq).1 y) [] w' := by
  have hl := EntSS_n x hs
  have hcp : ∀ w, RdN w (y 0).A (EntSS_loc x y) → Calls Try.prog 102 #[.agg #[.slice (y 0).A x.length (y 0).c, .int .i64 sq, .string ⟨#[]⟩, .bool false]] w fun e w' => ∃ y : Ys, e = .returned (Walk_val ⟨x, sq, ⟨#[]⟩, false⟩ y) ∧ True ∧ Below w.heap.size w w' ∧ NewOk w.heap.size (Walk_obj ⟨x, sq, ⟨#[]⟩, false⟩ y) [] w' := fun w h => by
    have := s_l32Copy_c (y 0).A (y 0).c (EntSS_loc x y) sq ⟨#[]⟩ false w h (by rw [locs_len]; exact hl.1) (by rw [dats_locs]; exact hl.2)
    rw [locs_len, dats_locs] at this; exact this
  have HC := Lib.hid hcp; clear hcp
  have H := Lib.hid h; clear h
  have HS := Lib.hid hs; clear hs
  refine ok_enter 16 Try.func36 rfl rfl rfl ?_
  repeat' (first
    | refine ok_seq ?_
    | refine ok_then ?_
    | refine ok_then_ret ?_
    | (refine ok_cond rfl (fun hc => ?_) (fun hc => ?_) <;> (have hd := hc; (try simp only [decide_eq_true_eq, decide_eq_false_iff_not, Bool.or_eq_true, Bool.or_eq_false_iff, Bool.and_eq_true, Bool.and_eq_false_iff, Bool.not_eq_true', Bool.not_eq_false', bne_iff_ne, beq_iff_eq, bne_eq_false_iff_eq, beq_eq_false_iff_ne, ne_eq, Bool.not_true, Bool.not_false, Bool.false_eq_true, Bool.true_eq_false, inB_true, inB_false] at hd)))
    | refine ok_ret ?_
    | refine ok_skip ?_
    | (refine ok_region (i := 0) ?_; refine ok_m rfl rfl rfl (by exact ms_alloc rfl) ?_; rintro y4 hy4; refine ok_p rfl rfl rfl (by exact ps_assign rfl rfl) ?_; refine ok_nil ?_; refine ok_env [(0, _), (1, _), (4, _)] ⟨rfl, rfl, rfl, trivial⟩ ?_)
    | (refine ok_region (i := 1) ?_; refine ok_p rfl rfl rfl (by exact ps_move rfl rfl) ?_; refine ok_p rfl rfl rfl (by exact ps_move rfl rfl) ?_; refine ok_p rfl rfl rfl (by exact ps_bld rfl (parts_cons rfl (parts_cons rfl parts_nil)) rfl) ?_; refine ok_m rfl rfl rfl (by exact ms_alloc rfl) ?_; rintro y6 hy6; refine ok_m_ rfl rfl (by exact ms_store 0 rfl rfl rfl rfl rfl rfl rfl rfl) ?_; rintro y_ hy_; refine ok_nil ?_; refine ok_env [(4, _), (6, _)] ⟨rfl, rfl, trivial⟩ ?_)
    | (refine ok_region (i := 2) ?_; refine ok_p rfl rfl rfl (by exact ps_loads rfl rfl (by exact rds_box 0 rfl) rfl rfl (by decide)) ?_; refine ok_m rfl rfl rfl (by exact ms_s1 rfl rfl (fun _ _ w hw => s_WalkOk ⟨x, sq, ⟨#[]⟩, false⟩ y w (EntSS_rf H.out (by exact List.mem_cons_self) hw) (Wsm x sq HS.out))) ?_; rintro y11 hy11; refine ok_p rfl rfl rfl (by exact ps_not rfl rfl) ?_; refine ok_nil ?_; refine ok_env [(4, _), (6, _), (12, _)] ⟨rfl, rfl, rfl, trivial⟩ ?_)
    | (refine ok_region (i := 3) ?_; refine ok_p rfl rfl rfl (by exact ps_bld rfl parts_nil rfl) ?_; refine ok_m_ rfl rfl (by exact ms_store 1 rfl rfl rfl rfl rfl rfl rfl rfl) ?_; rintro y_ hy_; refine ok_p rfl rfl rfl (by exact ps_assign rfl rfl) ?_; refine ok_nil ?_; refine ok_env [(4, _), (5, _)] ⟨rfl, rfl, trivial⟩ ?_)
    | (refine ok_region (i := 4) ?_; refine ok_p rfl rfl rfl (by exact ps_loads rfl rfl (by exact rds_box 0 rfl) rfl rfl (by decide)) ?_; refine ok_m rfl rfl rfl (by exact ms_c1 rfl rfl (fun _ _ w hw => HC.out w (RdN.keep hw H.out (by exact List.mem_cons_self)))) ?_; rintro y15 hy15; refine ok_m_ rfl rfl (by exact ms_store 3 rfl rfl rfl rfl rfl rfl rfl rfl) ?_; rintro y_ hy_; refine ok_p rfl rfl rfl (by exact ps_assign rfl rfl) ?_; refine ok_nil ?_; refine ok_env [(4, _), (5, _)] ⟨rfl, rfl, trivial⟩ ?_))
  · rw [new_no hd]
    exact ok_endL (vs := [_, _]) rfl ⟨⟨_, 1, _, _, _, rfl, rfl, inferInstance, rfl, rfl⟩, rfl, trivial⟩ (fun w' hw => ⟨mkY none 0 w', rfl, trivial, hw.below, wkN_no hw⟩)
  · rw [new_yes hd]
    refine ok_endL (vs := [_, _]) rfl ⟨⟨_, 3, _, _, _, rfl, rfl, inferInstance, rfl, rfl⟩, rfl, trivial⟩ (fun w' hw => ⟨y15, rfl, trivial, hw.below, ?_⟩)
    exact NewOk.of (hw.sel [0, 1] (by decide) rfl (G' := []) (fun _ h => by cases h))
theorem WalkNew_lim (x : DEntSS) (sq : Int) (hs : EntSS_sm x) (hn : -9223372036854775808 ≤ sq ∧ sq ≤ 9223372036854775807) : Walk_lim (fWalkNew x sq).1 := by
  cases h : fWalkOk ⟨x, sq, ⟨#[]⟩, false⟩ with
  | false => rw [new_no h]; exact ⟨Nat.zero_le _, fun l hl => (by cases hl)⟩
  | true => rw [new_yes h]; exact EntSS_sm_lim hs
end Go.Proofs.Ytbegbdfbfbkflaa
