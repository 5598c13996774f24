/- Texts of this claim, one behind the other: BdC, Jd, EngF, WFnExactJoinDelta, Jn. -/
import Derived.Test.YtfcnimglcialbaaBtDelta
import Derived.Test.YtfcnimglcialbaaMgJoinDelta1
import Derived.Test.YtfcnimglcialbaaEng9
import Derived.Test.YtfcnimglcialbaaRows
import Derived.ProofKit
import Derived.JoinedOf
/- Delta whose row of texts is clipped: the block has more room than the value says. -/
namespace Go.Proofs.Ytfcnimglcialbaa
open Go.RowKit
set_option maxHeartbeats 4000000
set_option maxRecDepth 20000
set_option linter.unusedVariables false
set_option linter.unusedSimpArgs false
attribute [local irreducible] Calls
def DeltaC_obj (x : DDelta) (y : Ys) : List HObj := [.row 162 2 (y 0).A x.U.length (y 0).c (fl x.U), .row 9 1 (y 1).A x.D.length (y 2).c (fl x.D)]
theorem DeltaC_of {w w0 : World} {base : Nat} {H : List HObj} {G : List World} {x : DDelta} {y : Ys} (hw : WOk base w0 (DeltaC_obj x y ++ H) G w) : Delta_rd w x y := ⟨hw.row 0 rfl, hw.row 1 rfl⟩
theorem markStringS_cc (A : Option Addr) (c c2 : Nat) (l : List ByteArray) (k0 : Int) (hk0 : 0 ≤ k0 ∧ k0 ≤ 1000000000000000) (hl : l.length ≤ 140737488355328) {base : Nat} {w0 w : World} {H : List HObj} {G : List World}
    (hw : WOk base w0 (.row 9 1 A l.length c (fl l) :: H) G w) :
    Calls Try.prog 166 #[.slice A l.length c2, .int .i64 k0] w fun e w' => ∃ y : Ys, e = .returned (.int .i64 (k0 + 1 * (l.length : Int))) ∧ True ∧ WOk base w0 (.row 9 1 A l.length c (fl (mkL k0 l.length : List ByteArray)) :: H) G w' := by
  refine ok_enterW 20 Try.func166 rfl rfl rfl hw ?_
  repeat' (first
    | refine ok_seq ?_
    | refine ok_then ?_
    | refine ok_then_ret ?_
    | refine ok_then_exit ?_
    | refine ok_block ?_
    | refine ok_in_normal ?_
    | refine ok_in_ret ?_
    | refine ok_in_exit ?_
    | refine ok_in_other rfl ?_
    | (refine ok_cond rfl (fun hc => ?_) (fun hc => ?_) <;> (have hd := hc; (try simp only [decide_eq_true_eq, decide_eq_false_iff_not, Bool.or_eq_true, Bool.or_eq_false_iff, Bool.and_eq_true, Bool.and_eq_false_iff, Bool.not_eq_true', Bool.not_eq_false', bne_iff_ne, beq_iff_eq, bne_eq_false_iff_eq, beq_eq_false_iff_ne, ne_eq, Bool.not_true, Bool.not_false, Bool.false_eq_true, Bool.true_eq_false, inB_true, inB_false] at hd)))
    | refine ok_ret ?_
    | refine ok_exit ?_
    | refine ok_skip ?_
    | (refine ok_region (i := 0) ?_; refine ok_p rfl rfl rfl (by exact ps_assign rfl rfl) ?_; refine ok_nil ?_; refine ok_env [(0, _), (1, _)] ⟨rfl, rfl, trivial⟩ ?_)
    | (refine ok_region (i := 1) ?_; refine ok_p rfl rfl rfl (by exact ps_assign rfl rfl) ?_; refine ok_nil ?_; refine ok_env [(0, _), (1, _), (5, _)] ⟨rfl, rfl, rfl, trivial⟩ ?_)
    | (refine ok_region (i := 2) ?_; refine ok_p rfl rfl rfl (by exact ps_move rfl rfl) ?_; refine ok_p rfl rfl rfl (by exact ps_move rfl rfl) ?_; refine ok_p rfl rfl rfl (by exact ps_len rfl rfl) ?_; refine ok_p rfl rfl rfl (by exact ps_int rfl rfl rfl rfl) ?_; refine ok_nil ?_; refine ok_env [(0, _), (1, _), (5, _), (9, _)] ⟨rfl, rfl, rfl, rfl, trivial⟩ ?_)
    | (refine ok_region (i := 3) ?_; refine ok_p rfl rfl rfl (by exact ps_move rfl rfl) ?_; refine ok_p rfl rfl rfl (by exact ps_add rfl rfl rfl (by omega)) ?_; refine ok_p rfl rfl rfl (by exact ps_assign rfl rfl) ?_; refine ok_nil ?_; refine ok_env [(0, _), (1, _), (5, _)] ⟨rfl, rfl, rfl, trivial⟩ ?_)
    | (refine ok_region (i := 4) ?_; refine ok_p rfl rfl rfl (by exact ps_move rfl rfl) ?_; refine ok_p rfl rfl rfl (by exact ps_move rfl rfl) ?_; refine ok_p rfl rfl rfl (by exact ps_move rfl rfl) ?_; refine ok_m rfl rfl rfl (by fail "no maker call") ?_; rintro y15 hy15; refine ok_p rfl rfl rfl (by first | exact ps_indexN rfl rfl rfl (by omega) (by first | exact isw_ga _ | exact isw_some _ | exact isw_row 0 rfl (by omega) | exact isw_row 1 rfl (by omega) | exact isw_row 2 rfl (by omega) | exact isw_row 3 rfl (by omega) | exact isw_row 4 rfl (by omega) | exact isw_row 5 rfl (by omega) | exact isw_row 6 rfl (by omega) | exact isw_row 7 rfl (by omega) | exact isw_row 8 rfl (by omega) | exact isw_of (isS_fl (by assumption) (by omega)) | exact isw_of (by assumption)) | exact ps_index rfl rfl rfl (by omega) (by first | exact isw_ga _ | exact isw_some _ | exact isw_row 0 rfl (by omega) | exact isw_row 1 rfl (by omega) | exact isw_row 2 rfl (by omega) | exact isw_row 3 rfl (by omega) | exact isw_row 4 rfl (by omega) | exact isw_row 5 rfl (by omega) | exact isw_row 6 rfl (by omega) | exact isw_row 7 rfl (by omega) | exact isw_row 8 rfl (by omega) | exact isw_of (isS_fl (by assumption) (by omega)) | exact isw_of (by assumption))) ?_; refine ok_m_ rfl rfl (by first | exact ms_store 0 rfl rfl rfl rfl rfl rfl rfl rfl | exact ms_store 1 rfl rfl rfl rfl rfl rfl rfl rfl | exact ms_store 2 rfl rfl rfl rfl rfl rfl rfl rfl | exact ms_store 3 rfl rfl rfl rfl rfl rfl rfl rfl | exact ms_store 4 rfl rfl rfl rfl rfl rfl rfl rfl | exact ms_store 5 rfl rfl rfl rfl rfl rfl rfl rfl | exact ms_store 6 rfl rfl rfl rfl rfl rfl rfl rfl | exact ms_store 7 rfl rfl rfl rfl rfl rfl rfl rfl) ?_; rintro y_ hy_; refine ok_nil ?_; refine ok_env [(0, _), (1, _), (5, _)] ⟨rfl, rfl, rfl, trivial⟩ ?_)
    | (refine ok_region (i := 5) ?_; refine ok_p rfl rfl rfl (by exact ps_move rfl rfl) ?_; refine ok_p rfl rfl rfl (by exact ps_add rfl rfl rfl (by omega)) ?_; refine ok_p rfl rfl rfl (by exact ps_assign rfl rfl) ?_; refine ok_nil ?_; refine ok_env [(0, _), (1, _), (5, _)] ⟨rfl, rfl, rfl, trivial⟩ ?_)
    | (refine ok_region (i := 6) ?_; refine ok_p rfl rfl rfl (by exact ps_move rfl rfl) ?_; refine ok_p rfl rfl rfl (by exact ps_assign rfl rfl) ?_; refine ok_nil ?_; refine ok_env [(4, _)] ⟨rfl, trivial⟩ ?_))
  refine ok_loop (ι := { k : Nat // k ≤ l.length }) (fun k => l.length - k.1) (fun k => ([(0, .slice A l.length c2), (1, .int .i64 (k0 + 1 * (k.1 : Int))), (5, .int .i64 k.1)], .row 9 1 A l.length c (fl (mkL k0 k.1 ++ l.drop k.1)) :: H, _)) ⟨0, by omega⟩ (fun a w he hw => ⟨⟨0, by omega⟩, he.sub ⟨rfl, by simp [look, initE], rfl, trivial⟩, by simpa [mkL] using hw⟩) ?_
  rintro ⟨k, hk⟩
  simp only at hk ⊢
  repeat' (first
    | refine ok_seq ?_
    | refine ok_then ?_
    | refine ok_then_ret ?_
    | refine ok_then_exit ?_
    | refine ok_block ?_
    | refine ok_in_normal ?_
    | refine ok_in_ret ?_
    | refine ok_in_exit ?_
    | refine ok_in_other rfl ?_
    | (refine ok_cond rfl (fun hc => ?_) (fun hc => ?_) <;> (have hd := hc; (try simp only [decide_eq_true_eq, decide_eq_false_iff_not, Bool.or_eq_true, Bool.or_eq_false_iff, Bool.and_eq_true, Bool.and_eq_false_iff, Bool.not_eq_true', Bool.not_eq_false', bne_iff_ne, beq_iff_eq, bne_eq_false_iff_eq, beq_eq_false_iff_ne, ne_eq, Bool.not_true, Bool.not_false, Bool.false_eq_true, Bool.true_eq_false, inB_true, inB_false] at hd)))
    | refine ok_ret ?_
    | refine ok_exit ?_
    | refine ok_skip ?_
    | (refine ok_region (i := 0) ?_; refine ok_p rfl rfl rfl (by exact ps_assign rfl rfl) ?_; refine ok_nil ?_; refine ok_env [(0, _), (1, _)] ⟨rfl, rfl, trivial⟩ ?_)
    | (refine ok_region (i := 1) ?_; refine ok_p rfl rfl rfl (by exact ps_assign rfl rfl) ?_; refine ok_nil ?_; refine ok_env [(0, _), (1, _), (5, _)] ⟨rfl, rfl, rfl, trivial⟩ ?_)
    | (refine ok_region (i := 2) ?_; refine ok_p rfl rfl rfl (by exact ps_move rfl rfl) ?_; refine ok_p rfl rfl rfl (by exact ps_move rfl rfl) ?_; refine ok_p rfl rfl rfl (by exact ps_len rfl rfl) ?_; refine ok_p rfl rfl rfl (by exact ps_int rfl rfl rfl rfl) ?_; refine ok_nil ?_; refine ok_env [(0, _), (1, _), (5, _), (9, _)] ⟨rfl, rfl, rfl, rfl, trivial⟩ ?_)
    | (refine ok_region (i := 3) ?_; refine ok_p rfl rfl rfl (by exact ps_move rfl rfl) ?_; refine ok_p rfl rfl rfl (by exact ps_add rfl rfl rfl (by omega)) ?_; refine ok_p rfl rfl rfl (by exact ps_assign rfl rfl) ?_; refine ok_nil ?_; refine ok_env [(0, _), (1, _), (5, _)] ⟨rfl, rfl, rfl, trivial⟩ ?_)
    | (refine ok_region (i := 4) ?_; refine ok_p rfl rfl rfl (by exact ps_move rfl rfl) ?_; refine ok_p rfl rfl rfl (by exact ps_move rfl rfl) ?_; refine ok_p rfl rfl rfl (by exact ps_move rfl rfl) ?_; refine ok_m rfl rfl rfl (by first | exact ms_s1 rfl rfl (fun _ _ w hw => markText_c _ (by omega) w) | exact ms_setw 0 k (mT (k0 + 1 * (k : Int))) rfl rfl rfl rfl rfl rfl rfl rfl rfl (by simp [mkL_len]; omega)) ?_; rintro y15 hy15; refine ok_p rfl rfl rfl (by first | exact ps_indexN rfl rfl rfl (by omega) (by first | exact isw_ga _ | exact isw_some _ | exact isw_row 0 rfl (by omega) | exact isw_row 1 rfl (by omega) | exact isw_row 2 rfl (by omega) | exact isw_row 3 rfl (by omega) | exact isw_row 4 rfl (by omega) | exact isw_row 5 rfl (by omega) | exact isw_row 6 rfl (by omega) | exact isw_row 7 rfl (by omega) | exact isw_row 8 rfl (by omega) | exact isw_of (isS_fl (by assumption) (by omega)) | exact isw_of (by assumption)) | exact ps_index rfl rfl rfl (by omega) (by first | exact isw_ga _ | exact isw_some _ | exact isw_row 0 rfl (by omega) | exact isw_row 1 rfl (by omega) | exact isw_row 2 rfl (by omega) | exact isw_row 3 rfl (by omega) | exact isw_row 4 rfl (by omega) | exact isw_row 5 rfl (by omega) | exact isw_row 6 rfl (by omega) | exact isw_row 7 rfl (by omega) | exact isw_row 8 rfl (by omega) | exact isw_of (isS_fl (by assumption) (by omega)) | exact isw_of (by assumption))) ?_; refine ok_m_ rfl rfl (by first | exact ms_store 0 rfl rfl rfl rfl rfl rfl rfl rfl | exact ms_store 1 rfl rfl rfl rfl rfl rfl rfl rfl | exact ms_store 2 rfl rfl rfl rfl rfl rfl rfl rfl | exact ms_store 3 rfl rfl rfl rfl rfl rfl rfl rfl | exact ms_store 4 rfl rfl rfl rfl rfl rfl rfl rfl | exact ms_store 5 rfl rfl rfl rfl rfl rfl rfl rfl | exact ms_store 6 rfl rfl rfl rfl rfl rfl rfl rfl | exact ms_store 7 rfl rfl rfl rfl rfl rfl rfl rfl | exact ms_s1 rfl rfl (fun _ _ w hw => markText_c _ (by omega) w) | exact ms_setw 0 k (mT (k0 + 1 * (k : Int))) rfl rfl rfl rfl rfl rfl rfl rfl rfl (by simp [mkL_len]; omega)) ?_; rintro y_ hy_; refine ok_nil ?_; refine ok_env [(0, _), (1, _), (5, _)] ⟨rfl, rfl, rfl, trivial⟩ ?_)
    | (refine ok_region (i := 5) ?_; refine ok_p rfl rfl rfl (by exact ps_move rfl rfl) ?_; refine ok_p rfl rfl rfl (by exact ps_add rfl rfl rfl (by omega)) ?_; refine ok_p rfl rfl rfl (by exact ps_assign rfl rfl) ?_; refine ok_nil ?_; refine ok_env [(0, _), (1, _), (5, _)] ⟨rfl, rfl, rfl, trivial⟩ ?_)
    | (refine ok_region (i := 6) ?_; refine ok_p rfl rfl rfl (by exact ps_move rfl rfl) ?_; refine ok_p rfl rfl rfl (by exact ps_assign rfl rfl) ?_; refine ok_nil ?_; refine ok_env [(4, _)] ⟨rfl, trivial⟩ ?_))
  · refine fun a w' he hw => ⟨⟨k + 1, by omega⟩, by simp only; omega, he.sub ⟨rfl, ?_, rfl, trivial⟩, ?_⟩
    · simp only [look]; congr 2; simp; omega
    · have e := mk_step l k0 k (by omega)
      simp only
      rw [← e]
      refine WOk.same ?_ hw
      simp only [List.set_cons_zero, List.set_set]
      rfl
  · obtain rfl : k = l.length := by omega
    refine ok_endL (vs := [_]) rfl ⟨rfl, trivial⟩ (fun w' hw => ⟨mkY none 0 w, rfl, trivial, ?_⟩)
    simpa using hw
theorem markDeltaC_c (x : DDelta) (y : Ys) (k : Int) (hk : 0 ≤ k ∧ k ≤ 100000000000000) (hl : Delta_lim x) {base : Nat} {w0 w : World} {H : List HObj} {G : List World}
    (hw : WOk base w0 (DeltaC_obj x y ++ H) G w) :
    Calls Try.prog 67 #[Delta_val x y, .int .i64 k] w fun e w' => ∃ q : Ys, e = .returned (.int .i64 (Delta_cnt x k)) ∧ True ∧ WOk base w0 (DeltaC_obj (Delta_mk k x) y ++ H) G w' := by
  unfold Delta_lim at hl
  refine ok_enterW 14 Try.func67 rfl rfl rfl hw ?_
  repeat' (first
    | refine ok_seq ?_
    | refine ok_then ?_
    | refine ok_then_ret ?_
    | refine ok_then_exit ?_
    | refine ok_block ?_
    | refine ok_in_normal ?_
    | refine ok_in_ret ?_
    | refine ok_in_exit ?_
    | refine ok_in_other rfl ?_
    | (refine ok_cond rfl (fun hc => ?_) (fun hc => ?_) <;> (have hd := hc; (try simp only [decide_eq_true_eq, decide_eq_false_iff_not, Bool.or_eq_true, Bool.or_eq_false_iff, Bool.and_eq_true, Bool.and_eq_false_iff, Bool.not_eq_true', Bool.not_eq_false', bne_iff_ne, beq_iff_eq, bne_eq_false_iff_eq, beq_eq_false_iff_ne, ne_eq, Bool.not_true, Bool.not_false, Bool.false_eq_true, Bool.true_eq_false, inB_true, inB_false] at hd)))
    | refine ok_ret ?_
    | refine ok_exit ?_
    | refine ok_skip ?_
    | (refine ok_region (i := 0) ?_; refine ok_m rfl rfl rfl (by exact ms_box rfl rfl rfl) ?_; rintro y2 hy2; refine ok_p rfl rfl rfl (by exact ps_assign rfl rfl) ?_; refine ok_nil ?_; refine ok_env [(1, _), (2, _)] ⟨rfl, rfl, trivial⟩ ?_)
    | (refine ok_region (i := 1) ?_; refine ok_p rfl rfl rfl (by exact ps_field rfl rfl (by first | exact isw_ga _ | exact isw_some _ | exact isw_row 0 rfl (by omega) | exact isw_row 1 rfl (by omega) | exact isw_row 2 rfl (by omega) | exact isw_row 3 rfl (by omega) | exact isw_row 4 rfl (by omega) | exact isw_row 5 rfl (by omega) | exact isw_row 6 rfl (by omega) | exact isw_row 7 rfl (by omega) | exact isw_row 8 rfl (by omega) | exact isw_of (isS_fl (by assumption) (by omega)) | exact isw_of (by assumption))) ?_; refine ok_p rfl rfl rfl (by exact ps_load rfl rfl (by first | exact Rds.cell (rds_box 0 rfl) rfl | exact Rds.cell (rds_box 1 rfl) rfl | exact Rds.cell (rds_box 2 rfl) rfl | exact Rds.cell (rds_box 3 rfl) rfl | exact Rds.cell (rds_box 4 rfl) rfl | exact Rds.cell (rds_box 5 rfl) rfl | exact Rds.cell (rds_box 6 rfl) rfl | exact Rds.cell (rds_box 7 rfl) rfl | exact Rds.cell (rds_box 8 rfl) rfl | exact Rds.cell (rds_box 9 rfl) rfl | exact Rds.cell (rds_box 10 rfl) rfl | exact Rds.cell (rds_box 11 rfl) rfl | exact Rds.cell (rds_box 12 rfl) rfl | exact Rds.cell (rds_box 13 rfl) rfl | exact Rds.cell (rds_box 14 rfl) rfl | exact Rds.cell (rds_box 15 rfl) rfl | exact Rds.cell (rds_box 16 rfl) rfl | exact Rds.cell (rds_box 17 rfl) rfl | exact Rds.cell (rds_box 18 rfl) rfl | exact Rds.cell (rds_box 19 rfl) rfl | exact Rds.cell (rds_box 20 rfl) rfl | exact Rds.cell (rds_box 21 rfl) rfl | exact Rds.cell (rds_box 22 rfl) rfl | exact Rds.cell (rds_box 23 rfl) rfl | exact Rds.cell (rds_rf (by assumption) (by first | exact List.mem_cons_self | exact List.mem_cons_of_mem _ List.mem_cons_self | simp)) (by first | exact fl_at0 _ _ (by omega) (by decide) | exact fl_at _ _ _ (by omega) (by decide)) | exact Rds.cell (rds_row 0 rfl) (by first | exact fl_at0 _ _ (by omega) (by decide) | exact fl_at _ _ _ (by omega) (by decide)) | exact Rds.cell (rds_row 1 rfl) (by first | exact fl_at0 _ _ (by omega) (by decide) | exact fl_at _ _ _ (by omega) (by decide)) | exact Rds.cell (rds_row 2 rfl) (by first | exact fl_at0 _ _ (by omega) (by decide) | exact fl_at _ _ _ (by omega) (by decide)) | exact Rds.cell (rds_row 3 rfl) (by first | exact fl_at0 _ _ (by omega) (by decide) | exact fl_at _ _ _ (by omega) (by decide)) | exact Rds.cell (rds_row 4 rfl) (by first | exact fl_at0 _ _ (by omega) (by decide) | exact fl_at _ _ _ (by omega) (by decide)) | exact Rds.cell (rds_row 5 rfl) (by first | exact fl_at0 _ _ (by omega) (by decide) | exact fl_at _ _ _ (by omega) (by decide)) | exact Rds.cell (rds_row 6 rfl) (by first | exact fl_at0 _ _ (by omega) (by decide) | exact fl_at _ _ _ (by omega) (by decide)) | exact Rds.cell (rds_row 7 rfl) (by first | exact fl_at0 _ _ (by omega) (by decide) | exact fl_at _ _ _ (by omega) (by decide)) | exact Rds.cell (rds_row 8 rfl) (by first | exact fl_at0 _ _ (by omega) (by decide) | exact fl_at _ _ _ (by omega) (by decide)) | exact Rds.cell (rds_row 9 rfl) (by first | exact fl_at0 _ _ (by omega) (by decide) | exact fl_at _ _ _ (by omega) (by decide)))) ?_; refine ok_p rfl rfl rfl (by exact ps_move rfl rfl) ?_; refine ok_m rfl rfl rfl (by exact ms_w2 (fun _ _ _ h => h.front 1 rfl) rfl rfl rfl (fun _ _ w hw => markKVS_c _ _ x.U k ⟨by omega, by omega⟩ (by omega) hw)) ?_; rintro y8 hy8; refine ok_p rfl rfl rfl (by exact ps_assign rfl rfl) ?_; refine ok_nil ?_; refine ok_env [(1, _), (2, _)] ⟨rfl, rfl, trivial⟩ ?_)
    | (refine ok_region (i := 2) ?_; refine ok_p rfl rfl rfl (by exact ps_field rfl rfl (by first | exact isw_ga _ | exact isw_some _ | exact isw_row 0 rfl (by omega) | exact isw_row 1 rfl (by omega) | exact isw_row 2 rfl (by omega) | exact isw_row 3 rfl (by omega) | exact isw_row 4 rfl (by omega) | exact isw_row 5 rfl (by omega) | exact isw_row 6 rfl (by omega) | exact isw_row 7 rfl (by omega) | exact isw_row 8 rfl (by omega) | exact isw_of (isS_fl (by assumption) (by omega)) | exact isw_of (by assumption))) ?_; refine ok_p rfl rfl rfl (by exact ps_load rfl rfl (by first | exact Rds.cell (rds_box 0 rfl) rfl | exact Rds.cell (rds_box 1 rfl) rfl | exact Rds.cell (rds_box 2 rfl) rfl | exact Rds.cell (rds_box 3 rfl) rfl | exact Rds.cell (rds_box 4 rfl) rfl | exact Rds.cell (rds_box 5 rfl) rfl | exact Rds.cell (rds_box 6 rfl) rfl | exact Rds.cell (rds_box 7 rfl) rfl | exact Rds.cell (rds_box 8 rfl) rfl | exact Rds.cell (rds_box 9 rfl) rfl | exact Rds.cell (rds_box 10 rfl) rfl | exact Rds.cell (rds_box 11 rfl) rfl | exact Rds.cell (rds_box 12 rfl) rfl | exact Rds.cell (rds_box 13 rfl) rfl | exact Rds.cell (rds_box 14 rfl) rfl | exact Rds.cell (rds_box 15 rfl) rfl | exact Rds.cell (rds_box 16 rfl) rfl | exact Rds.cell (rds_box 17 rfl) rfl | exact Rds.cell (rds_box 18 rfl) rfl | exact Rds.cell (rds_box 19 rfl) rfl | exact Rds.cell (rds_box 20 rfl) rfl | exact Rds.cell (rds_box 21 rfl) rfl | exact Rds.cell (rds_box 22 rfl) rfl | exact Rds.cell (rds_box 23 rfl) rfl | exact Rds.cell (rds_rf (by assumption) (by first | exact List.mem_cons_self | exact List.mem_cons_of_mem _ List.mem_cons_self | simp)) (by first | exact fl_at0 _ _ (by omega) (by decide) | exact fl_at _ _ _ (by omega) (by decide)) | exact Rds.cell (rds_row 0 rfl) (by first | exact fl_at0 _ _ (by omega) (by decide) | exact fl_at _ _ _ (by omega) (by decide)) | exact Rds.cell (rds_row 1 rfl) (by first | exact fl_at0 _ _ (by omega) (by decide) | exact fl_at _ _ _ (by omega) (by decide)) | exact Rds.cell (rds_row 2 rfl) (by first | exact fl_at0 _ _ (by omega) (by decide) | exact fl_at _ _ _ (by omega) (by decide)) | exact Rds.cell (rds_row 3 rfl) (by first | exact fl_at0 _ _ (by omega) (by decide) | exact fl_at _ _ _ (by omega) (by decide)) | exact Rds.cell (rds_row 4 rfl) (by first | exact fl_at0 _ _ (by omega) (by decide) | exact fl_at _ _ _ (by omega) (by decide)) | exact Rds.cell (rds_row 5 rfl) (by first | exact fl_at0 _ _ (by omega) (by decide) | exact fl_at _ _ _ (by omega) (by decide)) | exact Rds.cell (rds_row 6 rfl) (by first | exact fl_at0 _ _ (by omega) (by decide) | exact fl_at _ _ _ (by omega) (by decide)) | exact Rds.cell (rds_row 7 rfl) (by first | exact fl_at0 _ _ (by omega) (by decide) | exact fl_at _ _ _ (by omega) (by decide)) | exact Rds.cell (rds_row 8 rfl) (by first | exact fl_at0 _ _ (by omega) (by decide) | exact fl_at _ _ _ (by omega) (by decide)) | exact Rds.cell (rds_row 9 rfl) (by first | exact fl_at0 _ _ (by omega) (by decide) | exact fl_at _ _ _ (by omega) (by decide)))) ?_; refine ok_p rfl rfl rfl (by exact ps_move rfl rfl) ?_; refine ok_m rfl rfl rfl (by exact ms_w2 (fun _ _ _ h => h.front 2 rfl) rfl rfl rfl (fun _ _ w hw => markStringS_cc _ _ _ x.D (k + 2 * (x.U.length : Int)) ⟨by omega, by omega⟩ (by omega) hw)) ?_; rintro y12 hy12; refine ok_p rfl rfl rfl (by exact ps_assign rfl rfl) ?_; refine ok_nil ?_; refine ok_env [(1, _)] ⟨rfl, trivial⟩ ?_)
    | (refine ok_region (i := 3) ?_; refine ok_p rfl rfl rfl (by exact ps_move rfl rfl) ?_; refine ok_p rfl rfl rfl (by exact ps_assign rfl rfl) ?_; refine ok_nil ?_; refine ok_env [(4, _)] ⟨rfl, trivial⟩ ?_))
  refine ok_endL (vs := [_]) rfl ⟨rfl, trivial⟩ (fun w' hw => ?_)
  refine ⟨mkY none 0 w, rfl, trivial, ?_⟩
  have := (((hw.front 0 rfl).front 1 rfl).front 2 rfl).tl
  simp only [DeltaC_obj, Delta_mk, mkL_len]
  exact this
end Go.Proofs.Ytfcnimglcialbaa
/- JoinDelta of both programs. -/
namespace Go.Proofs.Ytfcnimglcialbaa
open Go.RowKit
set_option maxHeartbeats 4000000
set_option maxRecDepth 20000
set_option linter.unusedVariables false
set_option linter.unusedSimpArgs false
attribute [local irreducible] Calls
theorem WOk.rowNilJ {base : Nat} {w0 w : World} {H : List HObj} {G : List World} (e sz : Nat) (hw : WOk base w0 H G w) : WOk base w0 (.row e sz none 0 0 [] :: H) G w :=
  hw.grow (Hn := [.row e sz none 0 0 []]) (Gn := []) (Below.refl _ _) (NewOk.one (x := .row e sz none 0 0 []) (Own.nil w _ e sz))
theorem ps_clip {P : Program} {E : Env} {H : List HObj} {G : List World} {o : Oper} {x hi mx : Operand} {t e sz bytes : TypeId} {A : Option Addr} {n c h : Nat} {k' k'' : IntKind} [ht : EL P t e sz bytes] (ho : o.op = .slice t x none (some hi) (some mx)) (hx : opd E x = some (.slice A n c))
    (hhi : opd E hi = some (.int k' (h : Int))) (hm : opd E mx = some (.int k'' (h : Int))) (h3 : h ≤ c) :
    PStep P E H G o (.slice A h h) := fun N base w0 a w he hw => by
  obtain ⟨hu, _, i, z, hi', hz, hs, _, _⟩ := ht.h
  have hb : ∀ (k : IntKind) (q m : Nat) (cd : BoundsCode), q ≤ m → (Instr.sliceBound (.int k (q : Int)) m cd).run P w = .ok q w := fun k q m cd hq => by
    have : (0 : Int) ≤ q ∧ (q : Int) ≤ m := by omega
    simp [Instr.sliceBound, asIntOf, this]
  simp [execOp, ho, he.eval hx, he.eval hhi, he.eval hm, Instr.sliceAt, Instr.slice, Instr.sliceBounds, run_underlying hu, sizeOf, typeInfo, hi', hs, hb k'' h c _ h3, hb k' h h _ (Nat.le_refl _)]
  exact fun _ => by have := add_zero_all A 0; simpa using this
theorem clip_c (A : Option Addr) (n c : Nat) (h : n ≤ c) (w : World) :
    Calls Try.prog 199 #[.slice A n c] w fun e w' => e = .returned (.slice A n n) ∧ Below w.heap.size w w' := by
  refine ok_enter 9 Try.func199 rfl rfl rfl ?_
  repeat' (first
    | refine ok_seq ?_
    | refine ok_then ?_
    | refine ok_ret ?_
    | (refine ok_region (i := 0) ?_; refine ok_p rfl rfl rfl (by exact ps_assign rfl rfl) ?_; refine ok_nil ?_; refine ok_env [(0, _)] ⟨rfl, trivial⟩ ?_)
    | (refine ok_region (i := 1) ?_; refine ok_p rfl rfl rfl (by exact ps_move rfl rfl) ?_; refine ok_p rfl rfl rfl (by exact ps_move rfl rfl) ?_; refine ok_p rfl rfl rfl (by exact ps_len rfl rfl) ?_; refine ok_p rfl rfl rfl (by exact ps_move rfl rfl) ?_; refine ok_p rfl rfl rfl (by exact ps_len rfl rfl) ?_; refine ok_p rfl rfl rfl (by exact ps_clip rfl rfl rfl rfl h) ?_; refine ok_p rfl rfl rfl (by exact ps_assign rfl rfl) ?_; refine ok_nil ?_; refine ok_env [(2, _)] ⟨rfl, trivial⟩ ?_))
  exact ok_endL (vs := [_]) rfl ⟨rfl, trivial⟩ (fun w' hw => ⟨rfl, hw.below⟩)
/-- Two rows one behind the other. -/
theorem cat2_c (A A1 A2 : Option Addr) (c c1 c2 : Nat) (D1 D2 : List ByteArray) (w : World) (h : Rd w A [.slice A1 D1.length c1, .slice A2 D2.length c2]) (h1 : Rd w A1 (fl D1)) (h2 : Rd w A2 (fl D2)) (m1 : D1.length ≤ 1048576) (m2 : D2.length ≤ 1048576) :
    Calls Try.prog 196 #[.slice A 2 c] w fun e w' => ∃ y : Ys, e = .returned (.slice (y 0).A (D1 ++ D2).length (y 0).c) ∧ True ∧ Below w.heap.size w w' ∧ NewOk w.heap.size [.row 9 1 (y 0).A (D1 ++ D2).length (y 0).c (fl (D1 ++ D2))] [] w' := by
  have hc := concatStr_c A c [(⟨D1, A1, c1⟩ : Lc (List ByteArray)), ⟨D2, A2, c2⟩] w ⟨h, fun k hk => by
    have : k = 0 ∨ k = 1 := by simp at hk; omega
    rcases this with rfl | rfl
    · exact h1
    · exact h2⟩ (by simp) (fun k => by
      have := offR_le List.length (dats [(⟨D1, A1, c1⟩ : Lc (List ByteArray)), ⟨D2, A2, c2⟩]) 1048576 (fun u hu => by
        simp only [dats, List.map_cons, List.map_nil, List.mem_cons, List.mem_nil_iff, or_false] at hu
        rcases hu with rfl | rfl
        · exact m1
        · exact m2) k
      simp only [dats_len, List.length_cons, List.length_nil] at this
      omega)
  have e : (dats [(⟨D1, A1, c1⟩ : Lc (List ByteArray)), ⟨D2, A2, c2⟩]).flatten = D1 ++ D2 := by simp [dats]
  rw [e] at hc
  exact hc
/-- A text in a row. -/
theorem hasS_all {L : List ByteArray} {x : ByteArray} (h : ∀ j, j < L.length → sEq (nth L j) x = false) : hasS L x = false := by
  unfold hasS
  rw [List.any_eq_false]
  intro y hy
  obtain ⟨i, hi, rfl⟩ := List.getElem_of_mem hy
  have := h i hi
  simp only [nth, List.getD_eq_getElem?_getD, List.getElem?_eq_getElem hi, Option.getD_some] at this
  simp [this]
theorem hasS_one {L : List ByteArray} {x : ByteArray} {i : Nat} (hi : i < L.length) (h : sEq (nth L i) x = true) : hasS L x = true := by
  unfold hasS
  rw [List.any_eq_true]
  exact ⟨_, nth_mem L i hi, h⟩
theorem s_l35Has_c (A : Option Addr) (c : Nat) (L : List ByteArray) (x : ByteArray) (w : World) (h : Rd w A (fl L)) (hl : L.length ≤ 8388608) :
    Calls Try.prog 236 #[.slice A L.length c, .string x] w fun e w' => e = .returned (.bool (hasS L x)) ∧ Below w.heap.size w w' := by
  refine ok_enter 18 Try.func236 rfl rfl rfl ?_
  repeat' (first
    | refine ok_seq ?_
    | refine ok_then ?_
    | refine ok_block ?_
    | (refine ok_region (i := 0) ?_; refine ok_p rfl rfl rfl (by exact ps_assign rfl rfl) ?_; refine ok_nil ?_; refine ok_env [(0, _), (1, _)] ⟨rfl, rfl, trivial⟩ ?_)
    | (refine ok_region (i := 1) ?_; refine ok_p rfl rfl rfl (by exact ps_assign rfl rfl) ?_; refine ok_nil ?_; refine ok_env [(0, _), (1, _), (5, _)] ⟨rfl, rfl, rfl, trivial⟩ ?_))
  refine ok_loop (ι := { k : Nat // k ≤ L.length ∧ ∀ j, j < k → sEq (nth L j) x = false }) (fun k => L.length - k.1) (fun k => ([(0, .slice A L.length c), (1, .string x), (5, .int .i64 k.1)], _, _)) ⟨0, by omega, fun j h => absurd h (Nat.not_lt_zero j)⟩ (fun a w he hw => ⟨⟨0, by omega, fun j h => absurd h (Nat.not_lt_zero j)⟩, he.sub ⟨rfl, rfl, rfl, trivial⟩, hw⟩) ?_
  rintro ⟨k, hk, hok⟩
  simp only at hk hok ⊢
  have HO := Lib.hid hok; clear hok
  repeat' (first
    | refine ok_seq ?_
    | refine ok_then ?_
    | refine ok_then_ret ?_
    | refine ok_block ?_
    | refine ok_in_normal ?_
    | refine ok_in_ret ?_
    | (refine ok_cond rfl (fun hc => ?_) (fun hc => ?_) <;> (have hd := hc; (try simp only [decide_eq_true_eq, decide_eq_false_iff_not, Bool.or_eq_true, Bool.or_eq_false_iff, Bool.and_eq_true, Bool.and_eq_false_iff, Bool.not_eq_true', Bool.not_eq_false', bne_iff_ne, beq_iff_eq, bne_eq_false_iff_eq, beq_eq_false_iff_ne, ne_eq, Bool.not_true, Bool.not_false, Bool.false_eq_true, Bool.true_eq_false, inB_true, inB_false] at hd)))
    | refine ok_ret ?_
    | refine ok_exit ?_
    | refine ok_skip ?_
    | (refine ok_region (i := 2) ?_; refine ok_p rfl rfl rfl (by exact ps_move rfl rfl) ?_; refine ok_p rfl rfl rfl (by exact ps_move rfl rfl) ?_; refine ok_p rfl rfl rfl (by exact ps_len rfl rfl) ?_; refine ok_p rfl rfl rfl (by exact ps_int rfl rfl rfl rfl) ?_; refine ok_nil ?_; refine ok_env [(0, _), (1, _), (5, _), (9, _)] ⟨rfl, rfl, rfl, rfl, trivial⟩ ?_)
    | (refine ok_region (i := 3) ?_; refine ok_p rfl rfl rfl (by exact ps_move rfl rfl) ?_; refine ok_p rfl rfl rfl (by exact ps_add rfl rfl rfl (by omega)) ?_; refine ok_p rfl rfl rfl (by exact ps_assign rfl rfl) ?_; refine ok_nil ?_; refine ok_env [(0, _), (1, _), (5, _)] ⟨rfl, rfl, rfl, trivial⟩ ?_)
    | (refine ok_region (i := 4) ?_; refine ok_p rfl rfl rfl (by exact ps_move rfl rfl) ?_; refine ok_p rfl rfl rfl (by exact ps_move rfl rfl) ?_; refine ok_p rfl rfl rfl (by exact ps_indexN rfl rfl rfl (by omega) (by exact isw_of (isS_fl (by assumption) (by omega)))) ?_; refine ok_p rfl rfl rfl (by exact ps_load rfl rfl (by exact Rds.cell (rds_rf (by assumption) (by exact List.mem_cons_self)) (by exact fl_at0 _ _ (by omega) (by decide)))) ?_; refine ok_p rfl rfl rfl (by exact ps_move rfl rfl) ?_; refine ok_p rfl rfl rfl (by exact ps_str rfl rfl rfl rfl) ?_; refine ok_nil ?_; refine ok_env [(0, _), (1, _), (5, _), (17, _)] ⟨rfl, rfl, rfl, rfl, trivial⟩ ?_)
    | (refine ok_region (i := 5) ?_; refine ok_p rfl rfl rfl (by exact ps_assign rfl rfl) ?_; refine ok_nil ?_; refine ok_env [(4, _)] ⟨rfl, trivial⟩ ?_)
    | (refine ok_region (i := 6) ?_; refine ok_p rfl rfl rfl (by exact ps_assign rfl rfl) ?_; refine ok_nil ?_; refine ok_env [(4, _)] ⟨rfl, trivial⟩ ?_))
  · rw [hasS_one (show k < L.length by omega) hc]
    exact ok_endL (vs := [_]) rfl ⟨rfl, trivial⟩ (fun w' hw => ⟨rfl, hw.below⟩)
  · have e : sEq (nth L k) x = false := hc
    exact fun a w' he hw => ⟨⟨k + 1, by omega, fun j hj => by
      rcases Nat.lt_succ_iff_lt_or_eq.1 hj with h' | h'
      · exact HO.out j h'
      · subst h'; exact e⟩, by simp only; omega, he.sub ⟨rfl, rfl, rfl, trivial⟩, hw⟩
  · obtain rfl : k = L.length := by omega
    rw [hasS_all (fun j hj => HO.out j hj)]
    exact ok_endL (vs := [_]) rfl ⟨rfl, trivial⟩ (fun w' hw => ⟨rfl, hw.below⟩)
/-- What the reference does with the rest of a row. -/
def finS (x : ByteArray) : List ByteArray → Bool → List ByteArray → List ByteArray
  | [], b, O => if b = true then O else O ++ [x]
  | y :: D, b, O => if b = false ∧ sLt x y = true then finS x D true ((O ++ [x]) ++ [y]) else finS x D b (O ++ [y])
theorem finS_true (x : ByteArray) : ∀ (D O : List ByteArray), finS x D true O = O ++ D
  | [], O => by simp [finS]
  | y :: D, O => by rw [finS, if_neg (by simp), finS_true x D, List.append_assoc]; rfl
theorem finS_false (x : ByteArray) : ∀ (D O : List ByteArray), finS x D false O = O ++ (hdS D x ++ [x]) ++ tlS D x
  | [], O => by simp [finS, hdS, tlS]
  | y :: D, O => by
    rw [finS]
    cases h : sLt x y
    · rw [if_neg (by simp)]
      have e1 : hdS (y :: D) x = y :: hdS D x := by unfold hdS; rw [List.takeWhile_cons, h]; rfl
      have e2 : tlS (y :: D) x = tlS D x := by unfold tlS; rw [List.dropWhile_cons, h]; rfl
      rw [e1, e2, finS_false x D]
      simp only [List.append_assoc, List.cons_append, List.nil_append]
    · rw [if_pos ⟨rfl, rfl⟩]
      have e1 : hdS (y :: D) x = [] := by unfold hdS; rw [List.takeWhile_cons, h]; rfl
      have e2 : tlS (y :: D) x = y :: D := by unfold tlS; rw [List.dropWhile_cons, h]; rfl
      rw [e1, e2, finS_true]
      simp only [List.append_assoc, List.nil_append]; rfl
theorem finS_ins (L : List ByteArray) (x : ByteArray) : finS x L (hasS L x) [] = insS L x := by
  unfold insS
  cases h : hasS L x
  · rw [if_neg (by simp), finS_false]; rfl
  · rw [if_pos rfl, finS_true]; rfl
theorem dropS {L : List ByteArray} {j : Nat} (h : j < L.length) : L.drop j = nth L j :: L.drop (j + 1) := by
  rw [List.drop_eq_getElem_cons h]
  simp [nth, h]
structure PutS (L : List ByteArray) (x : ByteArray) where
  i : Nat
  b : Bool
  O : List ByteArray
  A : Option Addr
  c : Nat
  hi : i ≤ L.length ∧ O.length ≤ i + 1 ∧ (b = false → O.length ≤ i)
  ok : finS x (L.drop i) b O = insS L x
theorem s_l35Put_c (A : Option Addr) (c : Nat) (L : List ByteArray) (x : ByteArray) (w : World) (h : Rd w A (fl L)) (hl : L.length ≤ 4194304) :
    Calls Try.prog 195 #[.slice A L.length c, .string x] w fun e w' => ∃ y : Ys, e = .returned (.slice (y 0).A (insS L x).length (y 0).c) ∧ True ∧ Below w.heap.size w w' ∧ NewOk w.heap.size [.row 9 1 (y 0).A (insS L x).length (y 0).c (fl (insS L x))] [] w' := by
  refine ok_enter 46 Try.func195 rfl rfl rfl ?_
  repeat' (first
    | refine ok_seq ?_
    | refine ok_then ?_
    | refine ok_block ?_
    | (refine ok_region (i := 0) ?_; refine ok_p rfl rfl rfl (by exact ps_assign rfl rfl) ?_; refine ok_nil ?_; refine ok_env [(0, _), (1, _)] ⟨rfl, rfl, trivial⟩ ?_)
    | (refine ok_region (i := 1) ?_; refine ok_m rfl rfl rfl (by exact ms_lit rfl parts_nil rfl rfl rfl) ?_; rintro y8 hy8; refine ok_p rfl rfl rfl (by exact ps_assign rfl rfl) ?_; refine ok_nil ?_; refine ok_env [(0, _), (1, _), (5, _)] ⟨rfl, rfl, rfl, trivial⟩ ?_)
    | (refine ok_region (i := 2) ?_; refine ok_p rfl rfl rfl (by exact ps_move rfl rfl) ?_; refine ok_p rfl rfl rfl (by exact ps_move rfl rfl) ?_; refine ok_m rfl rfl rfl (by exact ms_s2 rfl rfl rfl (fun _ _ w hw => s_l35Has_c A c L x w (rds_rf h (by exact List.mem_cons_self) _ _ w hw) (by omega))) ?_; rintro y11 hy11; refine ok_p rfl rfl rfl (by exact ps_assign rfl rfl) ?_; refine ok_nil ?_; refine ok_env [(0, _), (1, _), (5, _), (6, _)] ⟨rfl, rfl, rfl, rfl, trivial⟩ ?_)
    | (refine ok_region (i := 3) ?_; refine ok_p rfl rfl rfl (by exact ps_assign rfl rfl) ?_; refine ok_nil ?_; refine ok_env [(0, _), (1, _), (5, _), (6, _), (7, _)] ⟨rfl, rfl, rfl, rfl, rfl, trivial⟩ ?_))
  refine ok_loop (ι := PutS L x) (fun q => L.length - q.i) (fun q => ([(0, .slice A L.length c), (1, .string x), (5, .slice q.A q.O.length q.c), (6, .bool q.b), (7, .int .i64 q.i)], [.row 9 1 q.A q.O.length q.c (fl q.O)], _)) ⟨0, hasS L x, [], none, 0, by simp, finS_ins L x⟩ (fun a w he hw => ⟨⟨0, hasS L x, [], ga (y8 0).c, 0, by simp, finS_ins L x⟩, he.sub ⟨rfl, rfl, rfl, rfl, rfl, trivial⟩, hw⟩) ?_
  rintro ⟨i, b, O, B, e, hi, ok⟩
  simp only at hi ok ⊢
  have OK := Lib.hid ok; clear ok
  repeat' (first
    | refine ok_seq ?_
    | refine ok_then ?_
    | refine ok_block ?_
    | refine ok_in_normal ?_
    | (refine ok_cond rfl (fun hc => ?_) (fun hc => ?_) <;> (have hd := hc; (try simp only [decide_eq_true_eq, decide_eq_false_iff_not, Bool.or_eq_true, Bool.or_eq_false_iff, Bool.and_eq_true, Bool.and_eq_false_iff, Bool.not_eq_true', Bool.not_eq_false', bne_iff_ne, beq_iff_eq, bne_eq_false_iff_eq, beq_eq_false_iff_ne, ne_eq, Bool.not_true, Bool.not_false, Bool.false_eq_true, Bool.true_eq_false, inB_true, inB_false] at hd)))
    | refine ok_ret ?_
    | refine ok_exit ?_
    | refine ok_skip ?_
    | (refine ok_region (i := 4) ?_; refine ok_p rfl rfl rfl (by exact ps_move rfl rfl) ?_; refine ok_p rfl rfl rfl (by exact ps_move rfl rfl) ?_; refine ok_p rfl rfl rfl (by exact ps_len rfl rfl) ?_; refine ok_p rfl rfl rfl (by exact ps_int rfl rfl rfl rfl) ?_; refine ok_nil ?_; refine ok_env [(0, _), (1, _), (5, _), (6, _), (7, _), (15, _)] ⟨rfl, rfl, rfl, rfl, rfl, rfl, trivial⟩ ?_)
    | (refine ok_region (i := 5) ?_; refine ok_p rfl rfl rfl (by exact ps_move rfl rfl) ?_; refine ok_p rfl rfl rfl (by exact ps_add rfl rfl rfl (by omega)) ?_; refine ok_p rfl rfl rfl (by exact ps_assign rfl rfl) ?_; refine ok_nil ?_; refine ok_env [(0, _), (1, _), (5, _), (6, _), (7, _)] ⟨rfl, rfl, rfl, rfl, rfl, trivial⟩ ?_)
    | (refine ok_region (i := 6) ?_; refine ok_p rfl rfl rfl (by exact ps_move rfl rfl) ?_; refine ok_p rfl rfl rfl (by exact ps_not rfl rfl) ?_; refine ok_p rfl rfl rfl (by exact ps_move rfl rfl) ?_; refine ok_pg rfl rfl rfl rfl rfl (gT _) (fun hp => by (have hpd := hp; (try simp only [decide_eq_true_eq, decide_eq_false_iff_not, Bool.or_eq_true, Bool.or_eq_false_iff, Bool.and_eq_true, Bool.and_eq_false_iff, Bool.not_eq_true', Bool.not_eq_false', bne_iff_ne, beq_iff_eq, bne_eq_false_iff_eq, beq_eq_false_iff_ne, ne_eq, Bool.not_true, Bool.not_false, Bool.false_eq_true, Bool.true_eq_false, inB_true, inB_false] at hpd); exact ps_move rfl (by exact rfl))) ?_; refine ok_pg rfl rfl rfl rfl rfl (gT _) (fun hp => by (have hpd := hp; (try simp only [decide_eq_true_eq, decide_eq_false_iff_not, Bool.or_eq_true, Bool.or_eq_false_iff, Bool.and_eq_true, Bool.and_eq_false_iff, Bool.not_eq_true', Bool.not_eq_false', bne_iff_ne, beq_iff_eq, bne_eq_false_iff_eq, beq_eq_false_iff_ne, ne_eq, Bool.not_true, Bool.not_false, Bool.false_eq_true, Bool.true_eq_false, inB_true, inB_false] at hpd); exact ps_move rfl (by exact rfl))) ?_; refine ok_pg rfl rfl rfl rfl rfl (gT _) (fun hp => by (have hpd := hp; (try simp only [decide_eq_true_eq, decide_eq_false_iff_not, Bool.or_eq_true, Bool.or_eq_false_iff, Bool.and_eq_true, Bool.and_eq_false_iff, Bool.not_eq_true', Bool.not_eq_false', bne_iff_ne, beq_iff_eq, bne_eq_false_iff_eq, beq_eq_false_iff_ne, ne_eq, Bool.not_true, Bool.not_false, Bool.false_eq_true, Bool.true_eq_false, inB_true, inB_false] at hpd); exact ps_indexN rfl (by (refine og rfl ?_; assumption)) (by (refine og rfl ?_; assumption)) (by omega) (by exact isw_of (isS_fl (by assumption) (by omega))))) ?_; refine ok_pg rfl rfl rfl rfl rfl (gT _) (fun hp => by (have hpd := hp; (try simp only [decide_eq_true_eq, decide_eq_false_iff_not, Bool.or_eq_true, Bool.or_eq_false_iff, Bool.and_eq_true, Bool.and_eq_false_iff, Bool.not_eq_true', Bool.not_eq_false', bne_iff_ne, beq_iff_eq, bne_eq_false_iff_eq, beq_eq_false_iff_ne, ne_eq, Bool.not_true, Bool.not_false, Bool.false_eq_true, Bool.true_eq_false, inB_true, inB_false] at hpd); exact ps_load rfl (by (refine og rfl ?_; assumption)) (by exact Rds.cell (rds_rf (by assumption) (by exact List.mem_cons_self)) (by exact fl_at0 _ _ (by omega) (by decide))))) ?_; refine ok_pg rfl rfl rfl rfl rfl (gT _) (fun hp => by (have hpd := hp; (try simp only [decide_eq_true_eq, decide_eq_false_iff_not, Bool.or_eq_true, Bool.or_eq_false_iff, Bool.and_eq_true, Bool.and_eq_false_iff, Bool.not_eq_true', Bool.not_eq_false', bne_iff_ne, beq_iff_eq, bne_eq_false_iff_eq, beq_eq_false_iff_ne, ne_eq, Bool.not_true, Bool.not_false, Bool.false_eq_true, Bool.true_eq_false, inB_true, inB_false] at hpd); exact ps_move rfl (by exact rfl))) ?_; refine ok_pg rfl rfl rfl rfl rfl (gT _) (fun hp => by (have hpd := hp; (try simp only [decide_eq_true_eq, decide_eq_false_iff_not, Bool.or_eq_true, Bool.or_eq_false_iff, Bool.and_eq_true, Bool.and_eq_false_iff, Bool.not_eq_true', Bool.not_eq_false', bne_iff_ne, beq_iff_eq, bne_eq_false_iff_eq, beq_eq_false_iff_ne, ne_eq, Bool.not_true, Bool.not_false, Bool.false_eq_true, Bool.true_eq_false, inB_true, inB_false] at hpd); exact ps_str rfl (by (refine og rfl ?_; assumption)) (by (refine og rfl ?_; assumption)) rfl)) ?_; refine ok_p rfl rfl rfl (by exact ps_and rfl rfl rfl) ?_; refine ok_nil ?_; refine ok_env [(0, _), (1, _), (5, _), (6, _), (7, _), (27, _)] ⟨rfl, rfl, rfl, rfl, rfl, rfl, trivial⟩ ?_)
    | (refine ok_region (i := 7) ?_; refine ok_p rfl rfl rfl (by exact ps_move rfl rfl) ?_; refine ok_p rfl rfl rfl (by exact ps_move rfl rfl) ?_; refine ok_m rfl rfl rfl (by exact ms_lit rfl (parts_cons rfl parts_nil) rfl rfl rfl) ?_; rintro y30 hy30; refine ok_m rfl rfl rfl (by exact ms_appF (α := ByteArray) (L := O) (M := [x]) 1 rfl rfl rfl rfl (rds_row 0 rfl) rfl (by simp; omega) (by simp; omega)) ?_; rintro y31 hy31; refine ok_p rfl rfl rfl (by exact ps_assign rfl rfl) ?_; refine ok_nil ?_; refine ok_env [(0, _), (1, _), (5, _), (7, _)] ⟨rfl, rfl, rfl, rfl, trivial⟩ ?_)
    | (refine ok_region (i := 8) ?_; refine ok_p rfl rfl rfl (by exact ps_assign rfl rfl) ?_; refine ok_nil ?_; refine ok_env [(0, _), (1, _), (5, _), (6, _), (7, _)] ⟨rfl, rfl, rfl, rfl, rfl, trivial⟩ ?_)
    | (refine ok_region (i := 9) ?_; refine ok_p rfl rfl rfl (by exact ps_move rfl rfl) ?_; refine ok_p rfl rfl rfl (by exact ps_move rfl rfl) ?_; refine ok_p rfl rfl rfl (by exact ps_move rfl rfl) ?_; refine ok_p rfl rfl rfl (by exact ps_indexN rfl rfl rfl (by omega) (by exact isw_of (isS_fl (by assumption) (by omega)))) ?_; refine ok_p rfl rfl rfl (by exact ps_load rfl rfl (by exact Rds.cell (rds_rf (by assumption) (by exact List.mem_cons_self)) (by exact fl_at0 _ _ (by omega) (by decide)))) ?_; refine ok_m rfl rfl rfl (by exact ms_lit rfl (parts_cons rfl parts_nil) rfl rfl rfl) ?_; rintro y37 hy37; refine ok_m rfl rfl rfl (by first | exact ms_appF (α := ByteArray) (L := O) (M := [nth L i]) 1 rfl rfl rfl rfl (rds_row 0 rfl) rfl (by simp; omega) (by simp; omega) | exact ms_appN (α := ByteArray) (O ++ [x]) [nth L i] 2 rfl rfl rfl rfl (rds_row 0 rfl) rfl (by simp) rfl (by simp; omega) (by simp; omega)) ?_; rintro y38 hy38; refine ok_p rfl rfl rfl (by exact ps_assign rfl rfl) ?_; refine ok_nil ?_; refine ok_env [(0, _), (1, _), (5, _), (6, _), (7, _)] ⟨rfl, rfl, rfl, rfl, rfl, trivial⟩ ?_)
    | (refine ok_region (i := 10) ?_; refine ok_p rfl rfl rfl (by exact ps_move rfl rfl) ?_; refine ok_p rfl rfl rfl (by exact ps_not rfl rfl) ?_; refine ok_nil ?_; refine ok_env [(1, _), (5, _), (40, _)] ⟨rfl, rfl, rfl, trivial⟩ ?_)
    | (refine ok_region (i := 11) ?_; refine ok_p rfl rfl rfl (by exact ps_move rfl rfl) ?_; refine ok_p rfl rfl rfl (by exact ps_move rfl rfl) ?_; refine ok_m rfl rfl rfl (by exact ms_lit rfl (parts_cons rfl parts_nil) rfl rfl rfl) ?_; rintro y43 hy43; refine ok_m rfl rfl rfl (by exact ms_appF (α := ByteArray) (L := O) (M := [x]) 1 rfl rfl rfl rfl (rds_row 0 rfl) rfl (by simp; omega) (by simp; omega)) ?_; rintro y44 hy44; refine ok_p rfl rfl rfl (by exact ps_assign rfl rfl) ?_; refine ok_nil ?_; refine ok_env [(5, _)] ⟨rfl, trivial⟩ ?_)
    | (refine ok_region (i := 12) ?_; refine ok_p rfl rfl rfl (by exact ps_move rfl rfl) ?_; refine ok_p rfl rfl rfl (by exact ps_assign rfl rfl) ?_; refine ok_nil ?_; refine ok_env [(4, _)] ⟨rfl, trivial⟩ ?_))
  · have hb := hd
    have e1 : finS x (L.drop (i + 1)) true ((O ++ [x]) ++ [nth L i]) = insS L x := by
      have q := OK.out
      rw [dropS (j := i) (by omega), finS, if_pos hb] at q
      exact q
    refine fun a w' he hw => ⟨⟨i + 1, true, (O ++ [x]) ++ [nth L i], (y38 0).A, (y38 0).c, by have := hi.2.2 hb.1; simp; omega, e1⟩, by simp only; omega, he.sub ⟨rfl, rfl, by simp only [List.length_append]; rfl, rfl, rfl, trivial⟩, ?_⟩
    have := hw.tl.tl
    simp only [List.length_append] at this ⊢
    exact this
  · have hb : ¬ (b = false ∧ sLt x (nth L i) = true) := by
      rcases hd with h1 | h1
      · rw [h1]; simp
      · rw [h1]; simp
    have e1 : finS x (L.drop (i + 1)) b (O ++ [nth L i]) = insS L x := by
      have q := OK.out
      rw [dropS (j := i) (by omega), finS, if_neg hb] at q
      exact q
    refine fun a w' he hw => ⟨⟨i + 1, b, O ++ [nth L i], (y38 0).A, (y38 0).c, ⟨by omega, by simp; omega, fun h => by have := hi.2.2 h; simp; omega⟩, e1⟩, by simp only; omega, he.sub ⟨rfl, rfl, by simp only [List.length_append]; rfl, rfl, rfl, trivial⟩, ?_⟩
    have := hw.tl
    simp only [List.length_append] at this ⊢
    exact this
  all_goals
    have eD : L.drop i = [] := List.drop_of_length_le (by omega)
    have e2 := OK.out
    rw [eD, finS] at e2
  · rw [if_neg (by rw [hd]; decide)] at e2
    rw [← e2]
    refine ok_endL (vs := [_]) rfl ⟨rfl, trivial⟩ (fun w' hw => ⟨y44, by simp only [List.length_append]; rfl, trivial, hw.below, ?_⟩)
    have := NewOk.of (hw.sel [1] (by decide) rfl (G' := []) (fun _ h => by cases h))
    simp only [List.length_append] at this ⊢
    exact this
  · rw [if_pos hd] at e2
    rw [← e2]
    exact ok_endL (vs := [_]) rfl ⟨rfl, trivial⟩ (fun w' hw => ⟨mkY B e w', rfl, trivial, hw.below, NewOk.of (hw.sel [0] (by decide) rfl (G' := []) (fun _ h => by cases h))⟩)
/-- What is dropped, step by step. -/
def delK (bU : List KV) (aD bD : List ByteArray) (k : Nat) : List ByteArray := delF bU (aD.take k) bD
structure JdS (n : Nat) where
  k : Nat
  A : Option Addr
  c : Nat
  B : Option Addr
  d : Nat
  hk : k ≤ n
theorem delta_sorted {U : List KV} {D : List ByteArray} (h : deltaOk U D = true) : sortedK U := srtK_iff.2 (delta_srt h).1
theorem fnd_val {U : List KV} (hs : sortedK U) (k : ByteArray) : fndK U k = !decide (atK U k U.length 0 < 0) := by
  rw [fnd_dec hs]
  by_cases h : 0 ≤ atK U k U.length 0
  · simp [h]
  · simp [h]; omega
theorem joinD_yes {a b : DDelta} (ha : deltaOk a.U a.D = true) (hb : deltaOk b.U b.D = true) : fJoinDelta a b = ⟨joinU a b, delF b.U a.D b.D⟩ := by unfold fJoinDelta; rw [if_pos ⟨ha, hb⟩]
theorem joinD_no {a b : DDelta} (h : ¬ (deltaOk a.U a.D = true ∧ deltaOk b.U b.D = true)) : fJoinDelta a b = ⟨[], []⟩ := by unfold fJoinDelta; rw [if_neg h]
theorem delta_nil (n : Nat) (w : World) : NewOk n (Delta_obj ⟨[], []⟩ (mkY none 0 w)) [] w := by
  refine ⟨fun x hx => ?_, ?_, fun m h => (by cases h)⟩
  · simp only [Delta_obj, List.mem_cons, List.mem_nil_iff, or_false] at hx
    rcases hx with rfl | rfl
    · exact Own.nil w n _ _
    · exact Own.nil w n _ _
  · simp only [Delta_obj, List.pairwise_cons, List.mem_cons, List.mem_nil_iff, or_false, List.Pairwise.nil, and_true]
    refine ⟨fun y hy => ?_, fun y hy => (by cases hy)⟩
    subst hy
    intro k hk
    cases hk
attribute [local irreducible] deltaOk mapOk dropsF putsF delF
theorem s_JoinDelta (a : DDelta) (Y0 : Ys) (b : DDelta) (Y1 : Ys) (w : World) (h0 : Delta_rd w a Y0) (h1 : Delta_rd w b Y1) (s0 : Delta_sm a) (s1 : Delta_sm b) :
    Calls Try.prog 93 #[Delta_val a Y0, Delta_val b Y1] w fun e w' => ∃ y : Ys, e = .returned (Delta_val (fJoinDelta a b) y) ∧ True ∧ Below w.heap.size w w' ∧ NewOk w.heap.size (Delta_obj (fJoinDelta a b) y) [] w' := by
  obtain ⟨aU, aD⟩ := a
  obtain ⟨bU, bD⟩ := b
  have m0 := s0.1.1
  have m1 := s0.2.1
  have m2 := s1.1.1
  have m3 := s1.2.1
  obtain ⟨hU, hD⟩ := h0
  obtain ⟨gU, gD⟩ := h1
  simp only at m0 m1 m2 m3 hU hD gU gD
  clear s0 s1
  refine ok_enter 90 Try.func93 rfl rfl rfl ?_
  repeat' (first
    | refine ok_seq ?_
    | refine ok_then ?_
    | refine ok_then_ret ?_
    | refine ok_block ?_
    | (refine ok_cond rfl (fun hc => ?_) (fun hc => ?_) <;> (have hd := hc; (try simp only [decide_eq_true_eq, decide_eq_false_iff_not, Bool.or_eq_true, Bool.or_eq_false_iff, Bool.and_eq_true, Bool.and_eq_false_iff, Bool.not_eq_true', Bool.not_eq_false', bne_iff_ne, beq_iff_eq, bne_eq_false_iff_eq, beq_eq_false_iff_ne, ne_eq, Bool.not_true, Bool.not_false, Bool.false_eq_true, Bool.true_eq_false, inB_true, inB_false] at hd)))
    | refine ok_ret ?_
    | refine ok_skip ?_
    | (refine ok_region (i := 0) ?_; refine ok_m rfl rfl rfl (by exact ms_box rfl rfl rfl) ?_; rintro y2 hy2; refine ok_m rfl rfl rfl (by exact ms_box rfl rfl rfl) ?_; rintro y3 hy3; refine ok_m rfl rfl rfl (by exact ms_alloc rfl) ?_; rintro y4 hy4; refine ok_nil ?_; refine ok_env [(2, _), (3, _), (4, _)] ⟨rfl, rfl, rfl, trivial⟩ ?_)
    | (refine ok_region (i := 1) ?_; refine ok_p rfl rfl rfl (by exact ps_loads rfl rfl (by exact rds_box 2 rfl) rfl rfl (by decide)) ?_; refine ok_m rfl rfl rfl (by exact ms_s1 rfl rfl (fun _ _ w hw => s_DeltaOk _ _ _ _ aU aD w (rds_rf hU (by exact List.mem_cons_self) _ _ w hw) (rds_rf hD (by exact List.mem_cons_self) _ _ w hw) m0 m1)) ?_; rintro y11 hy11; refine ok_p rfl rfl rfl (by exact ps_not rfl rfl) ?_; refine ok_p rfl rfl rfl (by exact ps_move rfl rfl) ?_; refine ok_pg rfl rfl rfl rfl rfl (gF _) (fun hp => by (have hpd := hp; (try simp only [decide_eq_true_eq, decide_eq_false_iff_not, Bool.or_eq_true, Bool.or_eq_false_iff, Bool.and_eq_true, Bool.and_eq_false_iff, Bool.not_eq_true', Bool.not_eq_false', bne_iff_ne, beq_iff_eq, bne_eq_false_iff_eq, beq_eq_false_iff_ne, ne_eq, Bool.not_true, Bool.not_false, Bool.false_eq_true, Bool.true_eq_false, inB_true, inB_false] at hpd); exact ps_loads rfl (by exact rfl) (by exact rds_box 1 rfl) rfl rfl (by decide))) ?_; refine ok_mg rfl rfl rfl rfl rfl (gF _) (fun hp => by (have hpd := hp; (try simp only [decide_eq_true_eq, decide_eq_false_iff_not, Bool.or_eq_true, Bool.or_eq_false_iff, Bool.and_eq_true, Bool.and_eq_false_iff, Bool.not_eq_true', Bool.not_eq_false', bne_iff_ne, beq_iff_eq, bne_eq_false_iff_eq, beq_eq_false_iff_ne, ne_eq, Bool.not_true, Bool.not_false, Bool.false_eq_true, Bool.true_eq_false, inB_true, inB_false] at hpd); exact ms_s1 rfl (by (refine og rfl ?_; assumption)) (fun _ _ w hw => s_DeltaOk _ _ _ _ bU bD w (rds_rf gU (by exact List.mem_cons_self) _ _ w hw) (rds_rf gD (by exact List.mem_cons_self) _ _ w hw) m2 m3))) ?_; refine ok_pg rfl rfl rfl rfl rfl (gF _) (fun hp => by (have hpd := hp; (try simp only [decide_eq_true_eq, decide_eq_false_iff_not, Bool.or_eq_true, Bool.or_eq_false_iff, Bool.and_eq_true, Bool.and_eq_false_iff, Bool.not_eq_true', Bool.not_eq_false', bne_iff_ne, beq_iff_eq, bne_eq_false_iff_eq, beq_eq_false_iff_ne, ne_eq, Bool.not_true, Bool.not_false, Bool.false_eq_true, Bool.true_eq_false, inB_true, inB_false] at hpd); exact ps_not rfl (by (refine og rfl ?_; assumption)))) ?_; refine ok_p rfl rfl rfl (by exact ps_or rfl rfl rfl) ?_; refine ok_nil ?_; refine ok_env [(2, _), (3, _), (4, _), (17, _)] ⟨rfl, rfl, rfl, rfl, trivial⟩ ?_)
    | (refine ok_region (i := 2) ?_; refine ok_p rfl rfl rfl (by exact ps_bld rfl parts_nil rfl) ?_; refine ok_m_ rfl rfl (by exact ms_store 0 rfl rfl rfl rfl rfl rfl rfl rfl) ?_; rintro y_ hy_; refine ok_nil ?_; refine ok_env [(4, _)] ⟨rfl, trivial⟩ ?_)
    | (refine ok_region (i := 3) ?_; refine ok_m rfl rfl rfl (by exact ms_lit rfl parts_nil rfl rfl rfl) ?_; rintro y19 hy19; refine ok_p rfl rfl rfl (by exact ps_field rfl rfl (by exact isw_ga _)) ?_; refine ok_p rfl rfl rfl (by exact ps_load rfl rfl (by exact Rds.cell (rds_box 3 rfl) rfl)) ?_; refine ok_m rfl rfl rfl (by exact ms_app0 (M := aU) 0 rfl rfl rfl rfl (rds_rf hU (by exact List.mem_cons_self)) rfl (by omega) (by omega)) ?_; rintro y22 hy22; refine ok_p rfl rfl rfl (by exact ps_assign rfl rfl) ?_; refine ok_nil ?_; refine ok_env [(2, _), (3, _), (4, _), (5, _)] ⟨rfl, rfl, rfl, rfl, trivial⟩ ?_)
    | (refine ok_region (i := 4) ?_; refine ok_p rfl rfl rfl (by exact ps_assign rfl rfl) ?_; refine ok_nil ?_; refine ok_env [(2, _), (3, _), (4, _), (5, _), (6, _)] ⟨rfl, rfl, rfl, rfl, rfl, trivial⟩ ?_))
  · rw [joinD_no (by rintro ⟨q1, q2⟩; rcases hd with h | h <;> simp [h] at q1 q2)]
    refine ok_endL (vs := [_]) rfl ⟨⟨_, 0, _, _, _, rfl, rfl, inferInstance, rfl, rfl⟩, trivial⟩ (fun w' hw => ?_)
    exact ⟨mkY none 0 w', rfl, trivial, hw.below, delta_nil _ _⟩
  have hda : deltaOk aU aD = true := hd.1
  have hdb : deltaOk bU bD = true := hd.2
  rw [joinD_yes hda hdb]
  have hsb := delta_sorted hdb
  clear hc hd
  have e0 : dropsF (bD.take 0) aU = aU := by unfold dropsF; rw [List.take_zero]; rfl
  refine ok_loop (ι := ApI bD.length) (fun q => bD.length - q.k) (fun q => ([(2, pt (ga (y2 0).c) 0), (3, pt (ga (y3 0).c) 0), (4, pt (ga (y4 0).c) 0), (5, .slice q.A (dropsF (bD.take q.k) aU).length q.c), (6, .int .i64 q.k)], [.row 162 2 q.A (dropsF (bD.take q.k) aU).length q.c (fl (dropsF (bD.take q.k) aU)), _, _, _], _)) ⟨0, none, 0, by omega⟩ (fun a' w he hw => ⟨⟨0, _, _, by omega⟩, he.sub ⟨rfl, rfl, rfl, by rw [e0]; rfl, rfl, trivial⟩, by rw [e0]; exact hw⟩) ?_
  rintro ⟨k, A, c, hk⟩
  simp only at hk ⊢
  have hlk := drops_len (bD.take k) aU
  repeat' (first
    | refine ok_seq ?_
    | refine ok_then ?_
    | refine ok_block ?_
    | refine ok_in_normal ?_
    | (refine ok_cond rfl (fun hc => ?_) (fun hc => ?_) <;> (have hd := hc; (try simp only [decide_eq_true_eq, decide_eq_false_iff_not, Bool.or_eq_true, Bool.or_eq_false_iff, Bool.and_eq_true, Bool.and_eq_false_iff, Bool.not_eq_true', Bool.not_eq_false', bne_iff_ne, beq_iff_eq, bne_eq_false_iff_eq, beq_eq_false_iff_ne, ne_eq, Bool.not_true, Bool.not_false, Bool.false_eq_true, Bool.true_eq_false, inB_true, inB_false] at hd)))
    | refine ok_exit ?_
    | refine ok_skip ?_
    | (refine ok_region (i := 5) ?_; refine ok_p rfl rfl rfl (by exact ps_move rfl rfl) ?_; refine ok_p rfl rfl rfl (by exact ps_field rfl rfl (by exact isw_ga _)) ?_; refine ok_p rfl rfl rfl (by exact ps_load rfl rfl (by exact Rds.cell (rds_box 2 rfl) rfl)) ?_; refine ok_p rfl rfl rfl (by exact ps_len rfl rfl) ?_; refine ok_p rfl rfl rfl (by exact ps_int rfl rfl rfl rfl) ?_; refine ok_nil ?_; refine ok_env [(2, _), (3, _), (4, _), (5, _), (6, _), (27, _)] ⟨rfl, rfl, rfl, rfl, rfl, rfl, trivial⟩ ?_)
    | (refine ok_region (i := 6) ?_; refine ok_p rfl rfl rfl (by exact ps_move rfl rfl) ?_; refine ok_p rfl rfl rfl (by exact ps_add rfl rfl rfl (by omega)) ?_; refine ok_p rfl rfl rfl (by exact ps_assign rfl rfl) ?_; refine ok_nil ?_; refine ok_env [(2, _), (3, _), (4, _), (5, _), (6, _)] ⟨rfl, rfl, rfl, rfl, rfl, trivial⟩ ?_)
    | (refine ok_region (i := 7) ?_; refine ok_p rfl rfl rfl (by exact ps_move rfl rfl) ?_; refine ok_p rfl rfl rfl (by exact ps_field rfl rfl (by exact isw_ga _)) ?_; refine ok_p rfl rfl rfl (by exact ps_load rfl rfl (by exact Rds.cell (rds_box 2 rfl) rfl)) ?_; refine ok_p rfl rfl rfl (by exact ps_move rfl rfl) ?_; refine ok_p rfl rfl rfl (by exact ps_indexN rfl rfl rfl (by omega) (by exact isw_of (isS_fl (by assumption) (by omega)))) ?_; refine ok_p rfl rfl rfl (by exact ps_load rfl rfl (by exact Rds.cell (rds_rf (by assumption) (by exact List.mem_cons_self)) (by exact fl_at0 _ _ (by omega) (by decide)))) ?_; refine ok_p rfl rfl rfl (by exact ps_bld rfl (parts_cons rfl (parts_cons rfl parts_nil)) rfl) ?_; refine ok_m rfl rfl rfl (by exact ms_c2 rfl rfl rfl (fun _ _ w hw => s_put_del A c (dropsF (bD.take k) aU) (nth bD k) w (rds_row 0 rfl _ _ w hw) (by omega))) ?_; rintro y37 hy37; refine ok_p rfl rfl rfl (by exact ps_assign rfl rfl) ?_; refine ok_nil ?_; refine ok_env [(2, _), (3, _), (4, _), (5, _), (6, _)] ⟨rfl, rfl, rfl, rfl, rfl, trivial⟩ ?_)
    | (refine ok_region (i := 8) ?_; refine ok_p rfl rfl rfl (by exact ps_assign rfl rfl) ?_; refine ok_nil ?_; refine ok_env [(2, _), (3, _), (4, _), (5, _), (7, _)] ⟨rfl, rfl, rfl, rfl, rfl, trivial⟩ ?_))
  · rw [← drops_step (by omega)]
    exact fun a' w' he hw => ⟨⟨k + 1, _, _, by omega⟩, by simp only; omega, he.sub ⟨rfl, rfl, rfl, rfl, rfl, trivial⟩, hw.sel [0, 2, 3, 4] (by decide) rfl (fun _ h => h)⟩
  obtain rfl : k = bD.length := by omega
  rw [drops_all] at hlk ⊢
  generalize hM : dropsF bD aU = M at hlk ⊢
  have e1 : putsF (bU.take 0) M = M := by unfold putsF; rw [List.take_zero]; rfl
  refine ok_loop (ι := ApI bU.length) (fun q => bU.length - q.k) (fun q => ([(2, pt (ga (y2 0).c) 0), (3, pt (ga (y3 0).c) 0), (4, pt (ga (y4 0).c) 0), (5, .slice q.A (putsF (bU.take q.k) M).length q.c), (7, .int .i64 q.k)], [.row 162 2 q.A (putsF (bU.take q.k) M).length q.c (fl (putsF (bU.take q.k) M)), _, _, _], _)) ⟨0, none, 0, by omega⟩ (fun a' w he hw => ⟨⟨0, _, _, by omega⟩, he.sub ⟨rfl, rfl, rfl, by rw [e1]; rfl, rfl, trivial⟩, by rw [e1]; exact hw⟩) ?_
  rintro ⟨k, A, c, hk2⟩
  simp only at hk2 ⊢
  have hlu := puts_len (bU.take k) M
  have hlt : (bU.take k).length ≤ bU.length := by rw [List.length_take]; omega
  repeat' (first
    | refine ok_seq ?_
    | refine ok_then ?_
    | refine ok_block ?_
    | refine ok_in_normal ?_
    | (refine ok_cond rfl (fun hc => ?_) (fun hc => ?_) <;> (have hd := hc; (try simp only [decide_eq_true_eq, decide_eq_false_iff_not, Bool.or_eq_true, Bool.or_eq_false_iff, Bool.and_eq_true, Bool.and_eq_false_iff, Bool.not_eq_true', Bool.not_eq_false', bne_iff_ne, beq_iff_eq, bne_eq_false_iff_eq, beq_eq_false_iff_ne, ne_eq, Bool.not_true, Bool.not_false, Bool.false_eq_true, Bool.true_eq_false, inB_true, inB_false] at hd)))
    | refine ok_exit ?_
    | refine ok_skip ?_
    | (refine ok_region (i := 9) ?_; refine ok_p rfl rfl rfl (by exact ps_move rfl rfl) ?_; refine ok_p rfl rfl rfl (by exact ps_field rfl rfl (by exact isw_ga _)) ?_; refine ok_p rfl rfl rfl (by exact ps_load rfl rfl (by exact Rds.cell (rds_box 2 rfl) rfl)) ?_; refine ok_p rfl rfl rfl (by exact ps_len rfl rfl) ?_; refine ok_p rfl rfl rfl (by exact ps_int rfl rfl rfl rfl) ?_; refine ok_nil ?_; refine ok_env [(2, _), (3, _), (4, _), (5, _), (7, _), (42, _)] ⟨rfl, rfl, rfl, rfl, rfl, rfl, trivial⟩ ?_)
    | (refine ok_region (i := 10) ?_; refine ok_p rfl rfl rfl (by exact ps_move rfl rfl) ?_; refine ok_p rfl rfl rfl (by exact ps_add rfl rfl rfl (by omega)) ?_; refine ok_p rfl rfl rfl (by exact ps_assign rfl rfl) ?_; refine ok_nil ?_; refine ok_env [(2, _), (3, _), (4, _), (5, _), (7, _)] ⟨rfl, rfl, rfl, rfl, rfl, trivial⟩ ?_)
    | (refine ok_draw (id := 11) 16 rfl (by kernel_rfl) (by kernel_rfl) rfl (by repeat (first | exact pq_body | refine pq_then ?_ | refine pq_in ?_)) [0, 1, 2, 3, 4, 5, 6, 7, 8, 9, 10, 11, 12, 13, 14, 15, 16, 17, 18, 19, 20, 21, 22, 23] (by decide) rfl ?_; refine okT_take (i := 0) rfl (by kernel_rfl) rfl rfl rfl (by exact ps_move rfl rfl) ?_; refine okT_take (i := 1) rfl (by kernel_rfl) rfl rfl rfl (by exact ps_field rfl rfl (by exact isw_ga _)) ?_; refine okT_take (i := 2) rfl (by kernel_rfl) rfl rfl rfl (by exact ps_load rfl rfl (by exact Rds.cell (rds_box 2 rfl) rfl)) ?_; refine okT_take (i := 3) rfl (by kernel_rfl) rfl rfl rfl (by exact ps_move rfl rfl) ?_; refine okT_take (i := 4) rfl (by kernel_rfl) rfl rfl rfl (by exact ps_indexN rfl rfl rfl (by omega) (by exact isw_of (isS_fl (by assumption) (by omega)))) ?_; refine okT_take (i := 5) rfl (by kernel_rfl) rfl rfl rfl (by exact ps_field rfl rfl (by exact isw_of (isS_fl (by assumption) (by omega)))) ?_; refine okT_take (i := 6) rfl (by kernel_rfl) rfl rfl rfl (by exact ps_load rfl rfl (by exact Rds.cell (rds_rf (by assumption) (by exact List.mem_cons_self)) (by exact fl_at0 _ _ (by omega) (by decide)))) ?_; refine okT_take (i := 7) rfl (by kernel_rfl) rfl rfl rfl (by exact ps_field rfl rfl (by exact isw_ga _)) ?_; refine okT_take (i := 8) rfl (by kernel_rfl) rfl rfl rfl (by exact ps_load rfl rfl (by exact Rds.cell (rds_box 2 rfl) rfl)) ?_; refine okT_take (i := 9) rfl (by kernel_rfl) rfl rfl rfl (by exact ps_move rfl rfl) ?_; refine okT_take (i := 10) rfl (by kernel_rfl) rfl rfl rfl (by exact ps_indexN rfl rfl rfl (by omega) (by exact isw_of (isS_fl (by assumption) (by omega)))) ?_; refine okT_take (i := 11) rfl (by kernel_rfl) rfl rfl rfl (by exact ps_field rfl rfl (by exact isw_of (isS_fl (by assumption) (by omega)))) ?_; refine okT_take (i := 12) rfl (by kernel_rfl) rfl rfl rfl (by exact ps_load rfl rfl (by exact Rds.cell (rds_rf (by assumption) (by exact List.mem_cons_self)) (by exact fl_at _ _ _ (by omega) (by decide)))) ?_; refine okT_take (i := 13) rfl (by kernel_rfl) rfl rfl rfl (by exact ps_bld rfl (parts_cons rfl (parts_cons rfl parts_nil)) rfl) ?_; refine okT_one (i := 14) rfl rfl (by kernel_rfl) rfl rfl rfl (by exact ms_c2 rfl rfl rfl (fun _ _ w hw => s_put_put A c (putsF (bU.take k) M) (nth bU k).key (nth bU k).val w (rds_row 0 rfl _ _ w hw) (by omega))) (fun y w _ h => by exact h.tl) ?_; rintro y59 hy59; refine okT_take (i := 15) rfl (by kernel_rfl) rfl rfl rfl (by exact ps_assign rfl rfl) ?_; refine okT_done (by kernel_rfl) ?_; refine ok_nil ?_; refine ok_env [(2, _), (3, _), (4, _), (5, _), (7, _)] ⟨rfl, rfl, rfl, rfl, rfl, trivial⟩ ?_)
    | (refine ok_region (i := 12) ?_; refine ok_m rfl rfl rfl (by exact ms_lit rfl parts_nil rfl rfl rfl) ?_; rintro y60 hy60; refine ok_p rfl rfl rfl (by exact ps_field rfl rfl (by exact isw_ga _)) ?_; refine ok_p rfl rfl rfl (by exact ps_load rfl rfl (by exact Rds.cell (rds_box 3 rfl) rfl)) ?_; refine ok_m rfl rfl rfl (by exact ms_app0 (M := bD) 0 rfl rfl rfl rfl (rds_rf gD (by exact List.mem_cons_self)) rfl (by omega) (by omega)) ?_; rintro y63 hy63; refine ok_p rfl rfl rfl (by exact ps_assign rfl rfl) ?_; refine ok_nil ?_; refine ok_env [(2, _), (3, _), (4, _), (5, _), (8, _)] ⟨rfl, rfl, rfl, rfl, rfl, trivial⟩ ?_)
    | (refine ok_region (i := 13) ?_; refine ok_p rfl rfl rfl (by exact ps_assign rfl rfl) ?_; refine ok_nil ?_; refine ok_env [(2, _), (3, _), (4, _), (5, _), (8, _), (9, _)] ⟨rfl, rfl, rfl, rfl, rfl, rfl, trivial⟩ ?_))
  · rw [← puts_step (by omega)]
    exact fun a' w' he hw => ⟨⟨k + 1, _, _, by omega⟩, by simp only; omega, he.sub ⟨rfl, rfl, rfl, rfl, rfl, trivial⟩, hw.sel [0, 2, 3, 4] (by decide) rfl (fun _ h => h)⟩
  obtain rfl : k = bU.length := by omega
  rw [puts_all, ← hM]
  rw [show putsF bU (dropsF bD aU) = joinU ⟨aU, aD⟩ ⟨bU, bD⟩ from rfl]
  generalize hJ : joinU ⟨aU, aD⟩ ⟨bU, bD⟩ = J
  have e2 : delF bU (aD.take 0) bD = bD := by unfold delF; rw [List.take_zero]; rfl
  refine ok_loop (ι := ApI aD.length) (fun q => aD.length - q.k) (fun q => ([(2, pt (ga (y2 0).c) 0), (3, pt (ga (y3 0).c) 0), (4, pt (ga (y4 0).c) 0), (5, .slice A J.length c), (8, .slice q.A (delF bU (aD.take q.k) bD).length q.c), (9, .int .i64 q.k)], [.row 9 1 q.A (delF bU (aD.take q.k) bD).length q.c (fl (delF bU (aD.take q.k) bD)), _, _, _, _], _)) ⟨0, none, 0, by omega⟩ (fun a' w he hw => ⟨⟨0, _, _, by omega⟩, he.sub ⟨rfl, rfl, rfl, rfl, by rw [e2]; rfl, rfl, trivial⟩, by rw [e2]; exact hw⟩) ?_
  rintro ⟨k, B, d, hk3⟩
  simp only at hk3 ⊢
  have hld := delF_len bU (aD.take k) bD
  have hlt2 : (aD.take k).length ≤ aD.length := by rw [List.length_take]; omega
  repeat' (first
    | refine ok_seq ?_
    | refine ok_then ?_
    | refine ok_block ?_
    | refine ok_in_normal ?_
    | (refine ok_cond rfl (fun hc => ?_) (fun hc => ?_) <;> (have hd := hc; (try simp only [decide_eq_true_eq, decide_eq_false_iff_not, Bool.or_eq_true, Bool.or_eq_false_iff, Bool.and_eq_true, Bool.and_eq_false_iff, Bool.not_eq_true', Bool.not_eq_false', bne_iff_ne, beq_iff_eq, bne_eq_false_iff_eq, beq_eq_false_iff_ne, ne_eq, Bool.not_true, Bool.not_false, Bool.false_eq_true, Bool.true_eq_false, inB_true, inB_false] at hd)))
    | refine ok_ret ?_
    | refine ok_exit ?_
    | refine ok_skip ?_
    | (refine ok_region (i := 14) ?_; refine ok_p rfl rfl rfl (by exact ps_move rfl rfl) ?_; refine ok_p rfl rfl rfl (by exact ps_field rfl rfl (by exact isw_ga _)) ?_; refine ok_p rfl rfl rfl (by exact ps_load rfl rfl (by exact Rds.cell (rds_box 4 rfl) rfl)) ?_; refine ok_p rfl rfl rfl (by exact ps_len rfl rfl) ?_; refine ok_p rfl rfl rfl (by exact ps_int rfl rfl rfl rfl) ?_; refine ok_nil ?_; refine ok_env [(2, _), (3, _), (4, _), (5, _), (8, _), (9, _), (68, _)] ⟨rfl, rfl, rfl, rfl, rfl, rfl, rfl, trivial⟩ ?_)
    | (refine ok_region (i := 15) ?_; refine ok_p rfl rfl rfl (by exact ps_move rfl rfl) ?_; refine ok_p rfl rfl rfl (by exact ps_add rfl rfl rfl (by omega)) ?_; refine ok_p rfl rfl rfl (by exact ps_assign rfl rfl) ?_; refine ok_nil ?_; refine ok_env [(2, _), (3, _), (4, _), (5, _), (8, _), (9, _)] ⟨rfl, rfl, rfl, rfl, rfl, rfl, trivial⟩ ?_)
    | (refine ok_draw (id := 16) 9 rfl (by kernel_rfl) (by kernel_rfl) rfl (by repeat (first | exact pq_body | refine pq_then ?_ | refine pq_in ?_)) [0, 1, 2, 3, 4, 5, 6, 7, 8, 9, 10, 11, 12, 13, 14, 15, 16, 17, 18, 19, 20, 21, 22, 23] (by decide) rfl ?_; refine okT_take (i := 0) rfl (by kernel_rfl) rfl rfl rfl (by exact ps_field rfl rfl (by exact isw_ga _)) ?_; refine okT_take (i := 1) rfl (by kernel_rfl) rfl rfl rfl (by exact ps_load rfl rfl (by exact Rds.cell (rds_box 3 rfl) rfl)) ?_; refine okT_take (i := 2) rfl (by kernel_rfl) rfl rfl rfl (by exact ps_field rfl rfl (by exact isw_ga _)) ?_; refine okT_take (i := 3) rfl (by kernel_rfl) rfl rfl rfl (by exact ps_load rfl rfl (by exact Rds.cell (rds_box 4 rfl) rfl)) ?_; refine okT_take (i := 4) rfl (by kernel_rfl) rfl rfl rfl (by exact ps_move rfl rfl) ?_; refine okT_take (i := 5) rfl (by kernel_rfl) rfl rfl rfl (by exact ps_indexN rfl rfl rfl (by omega) (by exact isw_of (isS_fl (by assumption) (by omega)))) ?_; refine okT_take (i := 6) rfl (by kernel_rfl) rfl rfl rfl (by exact ps_load rfl rfl (by exact Rds.cell (rds_rf (by assumption) (by exact List.mem_cons_self)) (by exact fl_at0 _ _ (by omega) (by decide)))) ?_; refine okT_one (i := 7) rfl rfl (by kernel_rfl) rfl rfl rfl (by exact ms_s2 rfl rfl rfl (fun _ _ w hw => s_l35Val _ _ bU (nth aD k) w (rds_rf gU (by exact List.mem_cons_self) _ _ w hw) m2)) (fun y w _ h => by exact h) ?_; rintro y78 hy78; refine okT_take (i := 8) rfl (by kernel_rfl) rfl rfl rfl (by exact ps_int rfl rfl rfl rfl) ?_; refine okT_done (by kernel_rfl) ?_; refine ok_nil ?_; refine ok_env [(2, _), (3, _), (4, _), (5, _), (8, _), (9, _), (79, _)] ⟨rfl, rfl, rfl, rfl, rfl, rfl, rfl, trivial⟩ ?_)
    | (refine ok_region (i := 17) ?_; refine ok_p rfl rfl rfl (by exact ps_move rfl rfl) ?_; refine ok_p rfl rfl rfl (by exact ps_field rfl rfl (by exact isw_ga _)) ?_; refine ok_p rfl rfl rfl (by exact ps_load rfl rfl (by exact Rds.cell (rds_box 4 rfl) rfl)) ?_; refine ok_p rfl rfl rfl (by exact ps_move rfl rfl) ?_; refine ok_p rfl rfl rfl (by exact ps_indexN rfl rfl rfl (by omega) (by exact isw_of (isS_fl (by assumption) (by omega)))) ?_; refine ok_p rfl rfl rfl (by exact ps_load rfl rfl (by exact Rds.cell (rds_rf (by assumption) (by exact List.mem_cons_self)) (by exact fl_at0 _ _ (by omega) (by decide)))) ?_; refine ok_m rfl rfl rfl (by exact ms_c2 rfl rfl rfl (fun _ _ w hw => s_l35Put_c B d (delF bU (aD.take k) bD) (nth aD k) w (rds_row 0 rfl _ _ w hw) (by omega))) ?_; rintro y86 hy86; refine ok_p rfl rfl rfl (by exact ps_assign rfl rfl) ?_; refine ok_nil ?_; refine ok_env [(2, _), (3, _), (4, _), (5, _), (8, _), (9, _)] ⟨rfl, rfl, rfl, rfl, rfl, rfl, trivial⟩ ?_)
    | (refine ok_region (i := 18) ?_; refine ok_p rfl rfl rfl (by exact ps_move rfl rfl) ?_; refine ok_p rfl rfl rfl (by exact ps_move rfl rfl) ?_; refine ok_p rfl rfl rfl (by exact ps_bld rfl (parts_cons rfl (parts_cons rfl parts_nil)) rfl) ?_; refine ok_m_ rfl rfl (by exact ms_store 2 rfl rfl rfl rfl rfl rfl rfl rfl) ?_; rintro y_ hy_; refine ok_nil ?_; refine ok_env [(4, _)] ⟨rfl, trivial⟩ ?_))
  · have e3 := delF_step (bU := bU) (bD := bD) (show k < aD.length by omega)
    rw [if_neg (by rw [fnd_val hsb, hc]; decide)] at e3
    rw [← e3]
    exact fun a' w' he hw => ⟨⟨k + 1, _, _, by omega⟩, by simp only; omega, he.sub ⟨rfl, rfl, rfl, rfl, rfl, rfl, trivial⟩, hw.sel [0, 2, 3, 4, 5] (by decide) rfl (fun _ h => h)⟩
  · have e3 := delF_step (bU := bU) (bD := bD) (show k < aD.length by omega)
    rw [if_pos (by rw [fnd_val hsb, hc]; decide)] at e3
    rw [← e3]
    exact fun a' w' he hw => ⟨⟨k + 1, _, _, by omega⟩, by simp only; omega, he.sub ⟨rfl, rfl, rfl, rfl, rfl, rfl, trivial⟩, hw⟩
  · obtain rfl : k = aD.length := by omega
    rw [List.take_length] at *
    refine ok_endL (vs := [_]) rfl ⟨⟨_, 2, _, _, _, rfl, rfl, inferInstance, rfl, rfl⟩, trivial⟩ (fun w' hw => ?_)
    exact ⟨yl [⟨A, c, w', 0⟩, ⟨B, d, w', 0⟩] ⟨A, c, w', 0⟩, rfl, trivial, hw.below, NewOk.of (hw.sel [1, 0] (by decide) rfl (G' := []) (fun _ h => by cases h))⟩
theorem deltaC_nil (n : Nat) (w : World) : NewOk n (DeltaC_obj ⟨[], []⟩ (mkY none 0 w)) [] w := delta_nil n w
theorem two_rd {w w0 : World} {base : Nat} {H : List HObj} {G : List World} {A A1 A2 : Option Addr} {n1 c1 n2 c2 e n c : Nat} {us : List Value} (hw : WOk base w0 H G w) (i : Nat) (hi : H[i]? = some (.row e 1 A n c us)) (hu : us = [.slice A1 n1 c1, .slice A2 n2 c2]) : Rd w A [.slice A1 n1 c1, .slice A2 n2 c2] := by
  have := hw.row i hi
  rwa [hu] at this
theorem srtB_mem (L : List ByteArray) (x : ByteArray) : x ∈ srtB L ↔ x ∈ L := by
  unfold srtB
  rw [List.mem_map]
  constructor
  · rintro ⟨l, hl, rfl⟩
    rw [List.mem_mergeSort, List.mem_map] at hl
    obtain ⟨y, hy, rfl⟩ := hl
    exact hy
  · intro hx
    exact ⟨ofB x, by rw [List.mem_mergeSort]; exact List.mem_map.2 ⟨x, hx, rfl⟩, rfl⟩
theorem srtB_len (L : List ByteArray) : (srtB L).length = L.length := by simp [srtB]
theorem srtB_le (L : List ByteArray) : leS (srtB L) := by
  unfold leS srtB
  rw [List.pairwise_map]
  have h := List.pairwise_mergeSort (le := fun x y : List UInt8 => decide (x ≤ y)) (fun a b c h1 h2 => by
    simp only [decide_eq_true_eq] at h1 h2 ⊢
    exact List.le_trans h1 h2) (fun a b => by
    simp only [Bool.or_eq_true, decide_eq_true_eq]
    exact List.le_total a b) (L.map ofB)
  refine h.imp fun {a b} hab => ?_
  have hab : a ≤ b := by simpa using hab
  cases hs : sLt (toB b) (toB a) with
  | false => rfl
  | true =>
    rw [sLt_iff] at hs
    have e1 : (toB b).toList = b := by simp [toB, ByteArray.toList_eq]
    have e2 : (toB a).toList = a := by simp [toB, ByteArray.toList_eq]
    rw [e1, e2] at hs
    exact absurd hs (List.not_lt.2 hab)
theorem compact_n (A : Option Addr) (c : Nat) (L : List ByteArray) (n : Nat) (hn : n = L.length) (hl : n ≤ 8388608) {base : Nat} {w0 w : World} {H : List HObj} {G : List World} (hw : WOk base w0 (.row 9 1 A n c (fl L) :: H) G w) :
    Calls Try.prog 200 #[.slice A n c] w fun e w' => ∃ y : Ys, e = .returned (.slice A (onceS L).length c) ∧ True ∧ WOk base w0 (.row 9 1 A (onceS L).length c (fl (onceS L)) :: H) G w' := by
  subst hn; exact compact_c A c L hl hw
def keepJ (J : List KV) (x : ByteArray) : Bool := !fndK J x
theorem filt_step {E : List ByteArray} {J : List KV} {k : Nat} (h : k < E.length) : (E.take (k + 1)).filter (keepJ J) = if keepJ J (nth E k) = true then (E.take k).filter (keepJ J) ++ [nth E k] else (E.take k).filter (keepJ J) := by
  rw [takeG h, List.filter_append, List.filter_cons]
  split
  · rfl
  · simp
theorem i_JoinDelta (a : DDelta) (Y0 : Ys) (b : DDelta) (Y1 : Ys) (w : World) (h0 : Delta_rd w a Y0) (h1 : Delta_rd w b Y1) (s0 : Delta_sm a) (s1 : Delta_sm b) :
    Calls Try.prog 94 #[Delta_val a Y0, Delta_val b Y1] w fun e w' => ∃ y : Ys, e = .returned (Delta_val (fJoinDelta a b) y) ∧ True ∧ Below w.heap.size w w' ∧ NewOk w.heap.size (DeltaC_obj (fJoinDelta a b) y) [] w' := by
  obtain ⟨aU, aD⟩ := a
  obtain ⟨bU, bD⟩ := b
  have m0 := s0.1.1
  have m1 := s0.2.1
  have m2 := s1.1.1
  have m3 := s1.2.1
  obtain ⟨hU, hD⟩ := h0
  obtain ⟨gU, gD⟩ := h1
  simp only at m0 m1 m2 m3 hU hD gU gD
  clear s0 s1
  refine ok_enter 92 Try.func94 rfl rfl rfl ?_
  repeat' (first
    | refine ok_seq ?_
    | refine ok_then ?_
    | refine ok_then_ret ?_
    | refine ok_block ?_
    | (refine ok_cond rfl (fun hc => ?_) (fun hc => ?_) <;> (have hd := hc; (try simp only [decide_eq_true_eq, decide_eq_false_iff_not, Bool.or_eq_true, Bool.or_eq_false_iff, Bool.and_eq_true, Bool.and_eq_false_iff, Bool.not_eq_true', Bool.not_eq_false', bne_iff_ne, beq_iff_eq, bne_eq_false_iff_eq, beq_eq_false_iff_ne, ne_eq, Bool.not_true, Bool.not_false, Bool.false_eq_true, Bool.true_eq_false, inB_true, inB_false] at hd)))
    | refine ok_ret ?_
    | refine ok_skip ?_
    | (refine ok_region (i := 0) ?_; refine ok_m rfl rfl rfl (by exact ms_box rfl rfl rfl) ?_; rintro y2 hy2; refine ok_m rfl rfl rfl (by exact ms_box rfl rfl rfl) ?_; rintro y3 hy3; refine ok_m rfl rfl rfl (by exact ms_alloc rfl) ?_; rintro y4 hy4; refine ok_nil ?_; refine ok_env [(2, _), (3, _), (4, _)] ⟨rfl, rfl, rfl, trivial⟩ ?_)
    | (refine ok_region (i := 1) ?_; refine ok_p rfl rfl rfl (by exact ps_loads rfl rfl (by exact rds_box 2 rfl) rfl rfl (by decide)) ?_; refine ok_m rfl rfl rfl (by exact ms_s1 rfl rfl (fun _ _ w hw => i_DeltaOk _ _ _ _ aU aD w (rds_rf hU (by exact List.mem_cons_self) _ _ w hw) (rds_rf hD (by exact List.mem_cons_self) _ _ w hw) m0 m1)) ?_; rintro y15 hy15; refine ok_p rfl rfl rfl (by exact ps_not rfl rfl) ?_; refine ok_p rfl rfl rfl (by exact ps_move rfl rfl) ?_; refine ok_pg rfl rfl rfl rfl rfl (gF _) (fun hp => by (have hpd := hp; (try simp only [decide_eq_true_eq, decide_eq_false_iff_not, Bool.or_eq_true, Bool.or_eq_false_iff, Bool.and_eq_true, Bool.and_eq_false_iff, Bool.not_eq_true', Bool.not_eq_false', bne_iff_ne, beq_iff_eq, bne_eq_false_iff_eq, beq_eq_false_iff_ne, ne_eq, Bool.not_true, Bool.not_false, Bool.false_eq_true, Bool.true_eq_false, inB_true, inB_false] at hpd); exact ps_loads rfl (by exact rfl) (by exact rds_box 1 rfl) rfl rfl (by decide))) ?_; refine ok_mg rfl rfl rfl rfl rfl (gF _) (fun hp => by (have hpd := hp; (try simp only [decide_eq_true_eq, decide_eq_false_iff_not, Bool.or_eq_true, Bool.or_eq_false_iff, Bool.and_eq_true, Bool.and_eq_false_iff, Bool.not_eq_true', Bool.not_eq_false', bne_iff_ne, beq_iff_eq, bne_eq_false_iff_eq, beq_eq_false_iff_ne, ne_eq, Bool.not_true, Bool.not_false, Bool.false_eq_true, Bool.true_eq_false, inB_true, inB_false] at hpd); exact ms_s1 rfl (by (refine og rfl ?_; assumption)) (fun _ _ w hw => i_DeltaOk _ _ _ _ bU bD w (rds_rf gU (by exact List.mem_cons_self) _ _ w hw) (rds_rf gD (by exact List.mem_cons_self) _ _ w hw) m2 m3))) ?_; refine ok_pg rfl rfl rfl rfl rfl (gF _) (fun hp => by (have hpd := hp; (try simp only [decide_eq_true_eq, decide_eq_false_iff_not, Bool.or_eq_true, Bool.or_eq_false_iff, Bool.and_eq_true, Bool.and_eq_false_iff, Bool.not_eq_true', Bool.not_eq_false', bne_iff_ne, beq_iff_eq, bne_eq_false_iff_eq, beq_eq_false_iff_ne, ne_eq, Bool.not_true, Bool.not_false, Bool.false_eq_true, Bool.true_eq_false, inB_true, inB_false] at hpd); exact ps_not rfl (by (refine og rfl ?_; assumption)))) ?_; refine ok_p rfl rfl rfl (by exact ps_or rfl rfl rfl) ?_; refine ok_nil ?_; refine ok_env [(2, _), (3, _), (4, _), (21, _)] ⟨rfl, rfl, rfl, rfl, trivial⟩ ?_)
    | (refine ok_region (i := 2) ?_; refine ok_p rfl rfl rfl (by exact ps_bld rfl parts_nil rfl) ?_; refine ok_m_ rfl rfl (by exact ms_store 0 rfl rfl rfl rfl rfl rfl rfl rfl) ?_; rintro y_ hy_; refine ok_nil ?_; refine ok_env [(4, _)] ⟨rfl, trivial⟩ ?_)
    | (refine ok_region (i := 3) ?_; refine ok_p rfl rfl rfl (by exact ps_field rfl rfl (by exact isw_ga _)) ?_; refine ok_p rfl rfl rfl (by exact ps_load rfl rfl (by exact Rds.cell (rds_box 2 rfl) rfl)) ?_; refine ok_m rfl rfl rfl (by exact ms_c1 rfl rfl (fun _ _ w hw => cloneV_c _ _ aU w (rds_rf hU (by exact List.mem_cons_self) _ _ w hw) (by omega))) ?_; rintro y25 hy25; refine ok_p rfl rfl rfl (by exact ps_bld rfl (parts_cons rfl parts_nil) rfl) ?_; refine ok_m rfl rfl rfl (by exact ms_alloc rfl) ?_; rintro y5 hy5; refine ok_m_ rfl rfl (by exact ms_store 0 rfl rfl rfl rfl rfl rfl rfl rfl) ?_; rintro y_ hy_; refine ok_nil ?_; refine ok_env [(2, _), (3, _), (4, _), (5, _)] ⟨rfl, rfl, rfl, rfl, trivial⟩ ?_)
    | (refine ok_region (i := 4) ?_; refine ok_p rfl rfl rfl (by exact ps_field rfl rfl (by exact isw_ga _)) ?_; refine ok_p rfl rfl rfl (by exact ps_load rfl rfl (by exact Rds.cell (rds_box 3 rfl) rfl)) ?_; refine ok_p rfl rfl rfl (by exact ps_len rfl rfl) ?_; refine ok_p rfl rfl rfl (by exact ps_move rfl rfl) ?_; refine ok_nil ?_; refine ok_env [(2, _), (3, _), (4, _), (5, _), (28, _), (29, _), (30, _)] ⟨rfl, rfl, rfl, rfl, rfl, rfl, rfl, trivial⟩ ?_))
  · rw [joinD_no (by rintro ⟨q1, q2⟩; rcases hd with h | h <;> simp [h] at q1 q2)]
    refine ok_endL (vs := [_]) rfl ⟨⟨_, 0, _, _, _, rfl, rfl, inferInstance, rfl, rfl⟩, trivial⟩ (fun w' hw => ?_)
    exact ⟨mkY none 0 w', rfl, trivial, hw.below, deltaC_nil _ _⟩
  have hda : deltaOk aU aD = true := hd.1
  have hdb : deltaOk bU bD = true := hd.2
  rw [joinD_yes hda hdb]
  have hsa := (delta_srt hda).1
  clear hc hd
  have e0 : dropsF (bD.take 0) aU = aU := by unfold dropsF; rw [List.take_zero]; rfl
  refine ok_loop (ι := { k : Nat // k ≤ bD.length }) (fun q => bD.length - q.1) (fun q => ([(2, pt (ga (y2 0).c) 0), (3, pt (ga (y3 0).c) 0), (4, pt (ga (y4 0).c) 0), (5, pt (ga (y5 0).c) 0), (28, .slice (Y1 1).A bD.length (Y1 1).c), (29, .int .i64 bD.length), (30, .int .i64 q.1)], [.box (y5 0).c 69 [.slice (y25 0).A (dropsF (bD.take q.1) aU).length (y25 0).c, .slice none 0 0], .row 162 2 (y25 0).A (dropsF (bD.take q.1) aU).length (y25 0).c (fl (dropsF (bD.take q.1) aU)), _, _, _], _)) ⟨0, by omega⟩ (fun a' w he hw => ⟨⟨0, by omega⟩, he.sub ⟨rfl, rfl, rfl, rfl, rfl, rfl, rfl, trivial⟩, by rw [e0]; exact hw⟩) ?_
  rintro ⟨k, hk⟩
  simp only at hk ⊢
  have hsk := drops_srt (bD.take k) hsa
  have hlk := drops_len (bD.take k) aU
  repeat' (first
    | refine ok_seq ?_
    | refine ok_then ?_
    | refine ok_block ?_
    | refine ok_in_normal ?_
    | (refine ok_cond rfl (fun hc => ?_) (fun hc => ?_) <;> (have hd := hc; (try simp only [decide_eq_true_eq, decide_eq_false_iff_not, Bool.or_eq_true, Bool.or_eq_false_iff, Bool.and_eq_true, Bool.and_eq_false_iff, Bool.not_eq_true', Bool.not_eq_false', bne_iff_ne, beq_iff_eq, bne_eq_false_iff_eq, beq_eq_false_iff_ne, ne_eq, Bool.not_true, Bool.not_false, Bool.false_eq_true, Bool.true_eq_false, inB_true, inB_false] at hd)))
    | refine ok_exit ?_
    | refine ok_skip ?_
    | (refine ok_region (i := 5) ?_; refine ok_p rfl rfl rfl (by exact ps_int rfl rfl rfl rfl) ?_; refine ok_nil ?_; refine ok_env [(2, _), (3, _), (4, _), (5, _), (28, _), (29, _), (30, _), (31, _)] ⟨rfl, rfl, rfl, rfl, rfl, rfl, rfl, rfl, trivial⟩ ?_)
    | (refine ok_region (i := 6) ?_; refine ok_p rfl rfl rfl (by exact ps_indexN rfl rfl rfl (by omega) (by exact isw_of (isS_fl (by assumption) (by omega)))) ?_; refine ok_p rfl rfl rfl (by exact ps_load rfl rfl (by exact Rds.cell (rds_rf (by assumption) (by exact List.mem_cons_self)) (by exact fl_at0 _ _ (by omega) (by decide)))) ?_; refine ok_p rfl rfl rfl (by exact ps_assign rfl rfl) ?_; refine ok_nil ?_; refine ok_env [(2, _), (3, _), (4, _), (5, _), (7, _), (28, _), (29, _), (30, _)] ⟨rfl, rfl, rfl, rfl, rfl, rfl, rfl, rfl, trivial⟩ ?_)
    | (refine ok_region (i := 7) ?_; refine ok_p rfl rfl rfl (by exact ps_field rfl rfl (by exact isw_ga _)) ?_; refine ok_p rfl rfl rfl (by exact ps_load rfl rfl (by exact Rds.cell (rds_box 0 rfl) rfl)) ?_; refine ok_p rfl rfl rfl (by exact ps_move rfl rfl) ?_; refine ok_m rfl rfl rfl (by exact ms_wr 1 rfl rfl rfl rfl (fun _ _ w hw => dropKey_c _ _ (dropsF (bD.take k) aU) (nth bD k) hsk (by omega) hw)) ?_; rintro y37 hy37; refine ok_p rfl rfl rfl (by exact ps_field rfl rfl (by exact isw_ga _)) ?_; refine ok_m_ rfl rfl (by exact ms_store 0 rfl rfl rfl rfl rfl rfl rfl rfl) ?_; rintro y_ hy_; refine ok_nil ?_; refine ok_env [(2, _), (3, _), (4, _), (5, _), (28, _), (29, _), (30, _)] ⟨rfl, rfl, rfl, rfl, rfl, rfl, rfl, trivial⟩ ?_)
    | (refine ok_region (i := 8) ?_; refine ok_p rfl rfl rfl (by exact ps_add rfl rfl rfl (by omega)) ?_; refine ok_p rfl rfl rfl (by exact ps_move rfl rfl) ?_; refine ok_nil ?_; refine ok_env [(2, _), (3, _), (4, _), (5, _), (28, _), (29, _), (30, _)] ⟨rfl, rfl, rfl, rfl, rfl, rfl, rfl, trivial⟩ ?_)
    | (refine ok_region (i := 9) ?_; refine ok_p rfl rfl rfl (by exact ps_field rfl rfl (by exact isw_ga _)) ?_; refine ok_p rfl rfl rfl (by exact ps_load rfl rfl (by exact Rds.cell (rds_box 3 rfl) rfl)) ?_; refine ok_p rfl rfl rfl (by exact ps_len rfl rfl) ?_; refine ok_p rfl rfl rfl (by exact ps_move rfl rfl) ?_; refine ok_nil ?_; refine ok_env [(2, _), (3, _), (4, _), (5, _), (41, _), (42, _), (43, _)] ⟨rfl, rfl, rfl, rfl, rfl, rfl, rfl, trivial⟩ ?_))
  · rw [← drops_step (by omega)]
    exact fun a' w' he hw => ⟨⟨k + 1, by omega⟩, by simp only; omega, he.sub ⟨rfl, rfl, rfl, rfl, rfl, rfl, rfl, trivial⟩, hw⟩
  obtain rfl : k = bD.length := by omega
  rw [drops_all] at hsk hlk ⊢
  generalize hM : dropsF bD aU = M at hsk hlk ⊢
  have e1 : putsF (bU.take 0) M = M := by unfold putsF; rw [List.take_zero]; rfl
  refine ok_loop (ι := ApI bU.length) (fun q => bU.length - q.k) (fun q => ([(2, pt (ga (y2 0).c) 0), (3, pt (ga (y3 0).c) 0), (4, pt (ga (y4 0).c) 0), (5, pt (ga (y5 0).c) 0), (41, .slice (Y1 0).A bU.length (Y1 0).c), (42, .int .i64 bU.length), (43, .int .i64 q.k)], [.box (y5 0).c 69 [.slice q.A (putsF (bU.take q.k) M).length q.c, .slice none 0 0], .row 162 2 q.A (putsF (bU.take q.k) M).length q.c (fl (putsF (bU.take q.k) M)), _, _, _], _)) ⟨0, (y25 0).A, (y25 0).c, by omega⟩ (fun a' w he hw => ⟨⟨0, (y25 0).A, (y25 0).c, by omega⟩, he.sub ⟨rfl, rfl, rfl, rfl, rfl, rfl, rfl, trivial⟩, by rw [e1]; exact hw⟩) ?_
  rintro ⟨k, A, c, hk2⟩
  simp only at hk2 ⊢
  have hsu := puts_srt (bU.take k) hsk
  have hlu := puts_len (bU.take k) M
  have hlt : (bU.take k).length ≤ bU.length := by rw [List.length_take]; omega
  repeat' (first
    | refine ok_seq ?_
    | refine ok_then ?_
    | refine ok_block ?_
    | refine ok_in_normal ?_
    | (refine ok_cond rfl (fun hc => ?_) (fun hc => ?_) <;> (have hd := hc; (try simp only [decide_eq_true_eq, decide_eq_false_iff_not, Bool.or_eq_true, Bool.or_eq_false_iff, Bool.and_eq_true, Bool.and_eq_false_iff, Bool.not_eq_true', Bool.not_eq_false', bne_iff_ne, beq_iff_eq, bne_eq_false_iff_eq, beq_eq_false_iff_ne, ne_eq, Bool.not_true, Bool.not_false, Bool.false_eq_true, Bool.true_eq_false, inB_true, inB_false] at hd)))
    | refine ok_exit ?_
    | refine ok_skip ?_
    | (refine ok_region (i := 10) ?_; refine ok_p rfl rfl rfl (by exact ps_int rfl rfl rfl rfl) ?_; refine ok_nil ?_; refine ok_env [(2, _), (3, _), (4, _), (5, _), (41, _), (42, _), (43, _), (44, _)] ⟨rfl, rfl, rfl, rfl, rfl, rfl, rfl, rfl, trivial⟩ ?_)
    | (refine ok_region (i := 11) ?_; refine ok_p rfl rfl rfl (by exact ps_indexN rfl rfl rfl (by omega) (by exact isw_of (isS_fl (by assumption) (by omega)))) ?_; refine ok_p rfl rfl rfl (by exact ps_loadsF rfl rfl (by exact rds_rf (by assumption) (by exact List.mem_cons_self)) (by rfl) (by rfl) (by omega) rfl) ?_; refine ok_m rfl rfl rfl (by exact ms_alloc rfl) ?_; rintro y9 hy9; refine ok_m_ rfl rfl (by exact ms_store 0 rfl rfl rfl rfl rfl rfl rfl rfl) ?_; rintro y_ hy_; refine ok_nil ?_; refine ok_env [(2, _), (3, _), (4, _), (5, _), (9, _), (41, _), (42, _), (43, _)] ⟨rfl, rfl, rfl, rfl, rfl, rfl, rfl, rfl, trivial⟩ ?_)
    | (refine ok_region (i := 12) ?_; refine ok_p rfl rfl rfl (by exact ps_field rfl rfl (by exact isw_ga _)) ?_; refine ok_p rfl rfl rfl (by exact ps_load rfl rfl (by exact Rds.cell (rds_box 1 rfl) rfl)) ?_; refine ok_p rfl rfl rfl (by exact ps_field rfl rfl (by exact isw_ga _)) ?_; refine ok_p rfl rfl rfl (by exact ps_load rfl rfl (by exact Rds.cell (rds_box 0 rfl) rfl)) ?_; refine ok_p rfl rfl rfl (by exact ps_field rfl rfl (by exact isw_ga _)) ?_; refine ok_p rfl rfl rfl (by exact ps_load rfl rfl (by exact Rds.cell (rds_box 0 rfl) rfl)) ?_; refine ok_m rfl rfl rfl (by exact ms_wr 2 rfl rfl rfl rfl (fun _ _ w hw => setKey_c _ _ (putsF (bU.take k) M) _ _ hsu (by omega) hw)) ?_; rintro y53 hy53; refine ok_p rfl rfl rfl (by exact ps_field rfl rfl (by exact isw_ga _)) ?_; refine ok_m_ rfl rfl (by exact ms_store 1 rfl rfl rfl rfl rfl rfl rfl rfl) ?_; rintro y_ hy_; refine ok_nil ?_; refine ok_env [(2, _), (3, _), (4, _), (5, _), (41, _), (42, _), (43, _)] ⟨rfl, rfl, rfl, rfl, rfl, rfl, rfl, trivial⟩ ?_)
    | (refine ok_region (i := 13) ?_; refine ok_p rfl rfl rfl (by exact ps_add rfl rfl rfl (by omega)) ?_; refine ok_p rfl rfl rfl (by exact ps_move rfl rfl) ?_; refine ok_nil ?_; refine ok_env [(2, _), (3, _), (4, _), (5, _), (41, _), (42, _), (43, _)] ⟨rfl, rfl, rfl, rfl, rfl, rfl, rfl, trivial⟩ ?_)
    | (refine ok_region (i := 14) ?_; refine ok_p rfl rfl rfl (by exact ps_field rfl rfl (by exact isw_ga _)) ?_; refine ok_p rfl rfl rfl (by exact ps_load rfl rfl (by exact Rds.cell (rds_box 4 rfl) rfl)) ?_; refine ok_p rfl rfl rfl (by exact ps_field rfl rfl (by exact isw_ga _)) ?_; refine ok_p rfl rfl rfl (by exact ps_load rfl rfl (by exact Rds.cell (rds_box 3 rfl) rfl)) ?_; refine ok_m rfl rfl rfl (by exact ms_lit rfl (parts_cons rfl (parts_cons rfl parts_nil)) rfl rfl rfl) ?_; rintro y60 hy60; refine ok_m rfl rfl rfl (by exact ms_c1 rfl rfl (fun _ _ w hw => cat2_c _ _ _ _ _ _ aD bD w (two_rd hw 0 rfl rfl) (rds_rf hD (by exact List.mem_cons_self) _ _ w hw) (rds_rf gD (by exact List.mem_cons_self) _ _ w hw) m1 m3)) ?_; rintro y61 hy61; refine ok_p rfl rfl rfl (by exact ps_len rfl rfl) ?_; refine ok_p rfl rfl rfl (by exact ps_move rfl rfl) ?_; refine ok_nil ?_; refine ok_env [(4, _), (5, _), (61, _), (62, _), (63, _)] ⟨rfl, rfl, rfl, rfl, rfl, trivial⟩ ?_))
  · rw [← puts_step (by omega)]
    exact fun a' w' he hw => ⟨⟨k + 1, _, _, by omega⟩, by simp only; omega, he.sub ⟨rfl, rfl, rfl, rfl, rfl, rfl, rfl, trivial⟩, hw.tl⟩
  obtain rfl : k = bU.length := by omega
  rw [puts_all] at hsu ⊢
  have hJl : (putsF bU M).length ≤ 4194304 := by rw [puts_all] at hlu; omega
  rw [← hM] at hsu hJl ⊢
  rw [show putsF bU (dropsF bD aU) = joinU ⟨aU, aD⟩ ⟨bU, bD⟩ from rfl] at hsu hJl ⊢
  generalize hJ : joinU ⟨aU, aD⟩ ⟨bU, bD⟩ = J at hsu hJl ⊢
  generalize hE : aD ++ bD = E
  have hEl : E.length ≤ 2097152 := by rw [← hE, List.length_append]; omega
  refine ok_loop (ι := ApI E.length) (fun q => E.length - q.k) (fun q => ([(4, pt (ga (y4 0).c) 0), (5, pt (ga (y5 0).c) 0), (61, .slice (y61 0).A E.length (y61 0).c), (62, .int .i64 E.length), (63, .int .i64 q.k)], [.row 9 1 q.A ((E.take q.k).filter (keepJ J)).length q.c (fl ((E.take q.k).filter (keepJ J))), .row 9 1 (y61 0).A E.length (y61 0).c (fl E), _, .box (y5 0).c 69 [.slice A J.length c, .slice q.A ((E.take q.k).filter (keepJ J)).length q.c], .row 162 2 A J.length c (fl J), _, _, _], _)) ⟨0, none, 0, by omega⟩ (fun a' w he hw => ⟨⟨0, none, 0, by omega⟩, he.sub ⟨rfl, rfl, rfl, rfl, rfl, trivial⟩, hw.rowNilJ 9 1⟩) ?_
  rintro ⟨k, B, d, hk3⟩
  simp only at hk3 ⊢
  have hfl := List.length_filter_le (keepJ J) (E.take k)
  have htk : (E.take k).length ≤ E.length := by rw [List.length_take]; omega
  repeat' (first
    | refine ok_seq ?_
    | refine ok_then ?_
    | refine ok_block ?_
    | refine ok_in_normal ?_
    | (refine ok_cond rfl (fun hc => ?_) (fun hc => ?_) <;> (have hd := hc; (try simp only [decide_eq_true_eq, decide_eq_false_iff_not, Bool.or_eq_true, Bool.or_eq_false_iff, Bool.and_eq_true, Bool.and_eq_false_iff, Bool.not_eq_true', Bool.not_eq_false', bne_iff_ne, beq_iff_eq, bne_eq_false_iff_eq, beq_eq_false_iff_ne, ne_eq, Bool.not_true, Bool.not_false, Bool.false_eq_true, Bool.true_eq_false, inB_true, inB_false] at hd)))
    | refine ok_ret ?_
    | refine ok_exit ?_
    | refine ok_skip ?_
    | (refine ok_region (i := 15) ?_; refine ok_p rfl rfl rfl (by exact ps_int rfl rfl rfl rfl) ?_; refine ok_nil ?_; refine ok_env [(4, _), (5, _), (61, _), (62, _), (63, _), (64, _)] ⟨rfl, rfl, rfl, rfl, rfl, rfl, trivial⟩ ?_)
    | (refine ok_region (i := 16) ?_; refine ok_p rfl rfl rfl (by exact ps_indexN rfl rfl rfl (by omega) (isw_row 1 rfl (by omega))) ?_; refine ok_p rfl rfl rfl (by exact ps_load rfl rfl (Rds.cell (rds_row 1 rfl) (fl_at0 E k (by omega) (by decide)))) ?_; refine ok_p rfl rfl rfl (by exact ps_assign rfl rfl) ?_; refine ok_nil ?_; refine ok_env [(4, _), (5, _), (11, _), (61, _), (62, _), (63, _)] ⟨rfl, rfl, rfl, rfl, rfl, rfl, trivial⟩ ?_)
    | (refine ok_region (i := 17) ?_; refine ok_p rfl rfl rfl (by exact ps_field rfl rfl (by exact isw_ga _)) ?_; refine ok_p rfl rfl rfl (by exact ps_load rfl rfl (by exact Rds.cell (rds_box 3 rfl) rfl)) ?_; refine ok_p rfl rfl rfl (by exact ps_move rfl rfl) ?_; refine ok_m rfl rfl rfl (by exact ms_s2 rfl rfl rfl (fun _ _ w hw => findKey_c A c J (nth E k) w (rds_row 4 rfl _ _ w hw) hJl (srtK_iff.2 hsu))) ?_; rintro y71 hy71; refine ok_p rfl rfl rfl (by exact ps_move rfl rfl) ?_; refine ok_p rfl rfl rfl (by exact ps_extract rfl rfl rfl) ?_; refine ok_p rfl rfl rfl (by exact ps_extract rfl rfl rfl) ?_; refine ok_p rfl rfl rfl (by exact ps_assign rfl rfl) ?_; refine ok_p rfl rfl rfl (by exact ps_assign rfl rfl) ?_; refine ok_nil ?_; refine ok_env [(4, _), (5, _), (11, _), (13, _), (61, _), (62, _), (63, _)] ⟨rfl, rfl, rfl, rfl, rfl, rfl, rfl, trivial⟩ ?_)
    | (refine ok_region (i := 18) ?_; refine ok_p rfl rfl rfl (by exact ps_move rfl rfl) ?_; refine ok_p rfl rfl rfl (by exact ps_not rfl rfl) ?_; refine ok_nil ?_; refine ok_env [(4, _), (5, _), (11, _), (61, _), (62, _), (63, _), (75, _)] ⟨rfl, rfl, rfl, rfl, rfl, rfl, rfl, trivial⟩ ?_)
    | (refine ok_region (i := 19) ?_; refine ok_p rfl rfl rfl (by exact ps_field rfl rfl (by exact isw_ga _)) ?_; refine ok_p rfl rfl rfl (by exact ps_load rfl rfl (by exact Rds.cell (rds_box 3 rfl) rfl)) ?_; refine ok_p rfl rfl rfl (by exact ps_move rfl rfl) ?_; refine ok_m rfl rfl rfl (by exact ms_lit rfl (parts_cons rfl parts_nil) rfl rfl rfl) ?_; rintro y79 hy79; refine ok_m rfl rfl rfl (by exact ms_appF (α := ByteArray) (L := (E.take k).filter (keepJ J)) (M := [nth E k]) 1 rfl rfl rfl rfl (rds_row 0 rfl) rfl (by simp; omega) (by simp; omega)) ?_; rintro y80 hy80; refine ok_p rfl rfl rfl (by exact ps_field rfl rfl (by exact isw_ga _)) ?_; refine ok_m_ rfl rfl (by exact ms_store 4 rfl rfl rfl rfl rfl rfl rfl rfl) ?_; rintro y_ hy_; refine ok_nil ?_; refine ok_env [(4, _), (5, _), (61, _), (62, _), (63, _)] ⟨rfl, rfl, rfl, rfl, rfl, trivial⟩ ?_)
    | (refine ok_region (i := 20) ?_; refine ok_p rfl rfl rfl (by exact ps_add rfl rfl rfl (by omega)) ?_; refine ok_p rfl rfl rfl (by exact ps_move rfl rfl) ?_; refine ok_nil ?_; refine ok_env [(4, _), (5, _), (61, _), (62, _), (63, _)] ⟨rfl, rfl, rfl, rfl, rfl, trivial⟩ ?_)
    | (refine ok_region (i := 21) ?_; refine ok_p rfl rfl rfl (by exact ps_field rfl rfl (by exact isw_ga _)) ?_; refine ok_p rfl rfl rfl (by exact ps_load rfl rfl (by exact Rds.cell (rds_box 3 rfl) rfl)) ?_; refine ok_m rfl rfl rfl (by exact ms_wr 0 rfl rfl rfl rfl (fun _ _ w hw => sort_c B d ((E.take k).filter (keepJ J)) (by omega) hw)) ?_; rintro y85 hy85; refine ok_nil ?_; refine ok_env [(4, _), (5, _)] ⟨rfl, rfl, trivial⟩ ?_)
    | (refine ok_region (i := 22) ?_; refine ok_p rfl rfl rfl (by exact ps_field rfl rfl (by exact isw_ga _)) ?_; refine ok_p rfl rfl rfl (by exact ps_load rfl rfl (by exact Rds.cell (rds_box 3 rfl) rfl)) ?_; refine ok_m rfl rfl rfl (by exact ms_wr 0 rfl rfl rfl rfl (fun _ _ w hw => compact_n B d (srtB ((E.take k).filter (keepJ J))) _ (srtB_len _).symm (by omega) hw)) ?_; rintro y88 hy88; refine ok_m rfl rfl rfl (by exact ms_s1 rfl rfl (fun _ _ w hw => clip_c _ _ _ (hw.cap 0 rfl) w)) ?_; rintro y89 hy89; refine ok_p rfl rfl rfl (by exact ps_field rfl rfl (by exact isw_ga _)) ?_; refine ok_m_ rfl rfl (by exact ms_store 3 rfl rfl rfl rfl rfl rfl rfl rfl) ?_; rintro y_ hy_; refine ok_nil ?_; refine ok_env [(4, _), (5, _)] ⟨rfl, rfl, trivial⟩ ?_)
    | (refine ok_region (i := 23) ?_; refine ok_p rfl rfl rfl (by exact ps_loads rfl rfl (by exact rds_box 3 rfl) rfl rfl (by decide)) ?_; refine ok_m_ rfl rfl (by exact ms_store 5 rfl rfl rfl rfl rfl rfl rfl rfl) ?_; rintro y_ hy_; refine ok_nil ?_; refine ok_env [(4, _)] ⟨rfl, trivial⟩ ?_))
  · have e := filt_step (J := J) (show k < E.length by omega)
    rw [if_pos (by unfold keepJ; rw [hd]; rfl)] at e
    refine fun a' w' he hw => ⟨⟨k + 1, (y80 0).A, (y80 0).c, by omega⟩, by simp only; omega, he.sub ⟨rfl, rfl, rfl, rfl, rfl, trivial⟩, ?_⟩
    simp only
    rw [e, List.length_append]
    exact hw.tl
  · have e := filt_step (J := J) (show k < E.length by omega)
    rw [if_neg (by unfold keepJ; rw [hd]; decide)] at e
    refine fun a' w' he hw => ⟨⟨k + 1, B, d, by omega⟩, by simp only; omega, he.sub ⟨rfl, rfl, rfl, rfl, rfl, trivial⟩, ?_⟩
    simp only
    rw [e]
    exact hw
  · obtain rfl : k = E.length := by omega
    have ej : onceS (srtB ((E.take E.length).filter (keepJ J))) = delF bU aD bD := by
      rw [List.take_length, ← hE, ← hJ]
      exact join_once (a := ⟨aU, aD⟩) (b := ⟨bU, bD⟩) hda hdb (srtB_le _) (fun x => by rw [srtB_mem]; rfl)
    rw [ej]
    refine ok_endL (vs := [_]) rfl ⟨⟨_, 5, _, _, _, rfl, rfl, inferInstance, rfl, rfl⟩, trivial⟩ (fun w' hw => ?_)
    exact ⟨yl [⟨A, c, w', 0⟩, ⟨B, (delF bU aD bD).length, w', 0⟩, ⟨B, d, w', 0⟩] ⟨A, c, w', 0⟩, rfl, trivial, hw.below, NewOk.of (hw.sel [4, 0] (by decide) rfl (G' := []) (fun _ h => by cases h))⟩
end Go.Proofs.Ytfcnimglcialbaa
/- Regions that meet again, with the facts on what was made; objects one by one to the front. -/
namespace Go.Proofs.Ytfcnimglcialbaa
open Go.RowKit
set_option linter.unusedVariables false
section
variable {P : Program} {N base : Nat} {w0 : World} {E : Env} {H : List HObj} {G : List World} {K : Act → World → Prop}
theorem mrgf1 {F : Ys → Prop} {XE : Ys → Env} {XH : Ys → List HObj} {G' : List World} {K' : Act → World → Prop} (h1 : (∀ y0, F y0 → Ok N base w0 (XE y0) (XH y0) G' K') → Ok N base w0 E H G K) (h2 : ∀ y0, F y0 → Ok N base w0 (XE y0) (XH y0) G' K') : Ok N base w0 E H G K := h1 h2
theorem mrgf2 {F : Ys → Ys → Prop} {XE : Ys → Ys → Env} {XH : Ys → Ys → List HObj} {G' : List World} {K' : Act → World → Prop} (h1 : (∀ y0 y1, F y0 y1 → Ok N base w0 (XE y0 y1) (XH y0 y1) G' K') → Ok N base w0 E H G K) (h2 : ∀ y0 y1, F y0 y1 → Ok N base w0 (XE y0 y1) (XH y0 y1) G' K') : Ok N base w0 E H G K := h1 h2
theorem mrgf3 {F : Ys → Ys → Ys → Prop} {XE : Ys → Ys → Ys → Env} {XH : Ys → Ys → Ys → List HObj} {G' : List World} {K' : Act → World → Prop} (h1 : (∀ y0 y1 y2, F y0 y1 y2 → Ok N base w0 (XE y0 y1 y2) (XH y0 y1 y2) G' K') → Ok N base w0 E H G K) (h2 : ∀ y0 y1 y2, F y0 y1 y2 → Ok N base w0 (XE y0 y1 y2) (XH y0 y1 y2) G' K') : Ok N base w0 E H G K := h1 h2
theorem mrgf4 {F : Ys → Ys → Ys → Ys → Prop} {XE : Ys → Ys → Ys → Ys → Env} {XH : Ys → Ys → Ys → Ys → List HObj} {G' : List World} {K' : Act → World → Prop} (h1 : (∀ y0 y1 y2 y3, F y0 y1 y2 y3 → Ok N base w0 (XE y0 y1 y2 y3) (XH y0 y1 y2 y3) G' K') → Ok N base w0 E H G K) (h2 : ∀ y0 y1 y2 y3, F y0 y1 y2 y3 → Ok N base w0 (XE y0 y1 y2 y3) (XH y0 y1 y2 y3) G' K') : Ok N base w0 E H G K := h1 h2
theorem mrgf5 {F : Ys → Ys → Ys → Ys → Ys → Prop} {XE : Ys → Ys → Ys → Ys → Ys → Env} {XH : Ys → Ys → Ys → Ys → Ys → List HObj} {G' : List World} {K' : Act → World → Prop} (h1 : (∀ y0 y1 y2 y3 y4, F y0 y1 y2 y3 y4 → Ok N base w0 (XE y0 y1 y2 y3 y4) (XH y0 y1 y2 y3 y4) G' K') → Ok N base w0 E H G K) (h2 : ∀ y0 y1 y2 y3 y4, F y0 y1 y2 y3 y4 → Ok N base w0 (XE y0 y1 y2 y3 y4) (XH y0 y1 y2 y3 y4) G' K') : Ok N base w0 E H G K := h1 h2
theorem mrgf6 {F : Ys → Ys → Ys → Ys → Ys → Ys → Prop} {XE : Ys → Ys → Ys → Ys → Ys → Ys → Env} {XH : Ys → Ys → Ys → Ys → Ys → Ys → List HObj} {G' : List World} {K' : Act → World → Prop} (h1 : (∀ y0 y1 y2 y3 y4 y5, F y0 y1 y2 y3 y4 y5 → Ok N base w0 (XE y0 y1 y2 y3 y4 y5) (XH y0 y1 y2 y3 y4 y5) G' K') → Ok N base w0 E H G K) (h2 : ∀ y0 y1 y2 y3 y4 y5, F y0 y1 y2 y3 y4 y5 → Ok N base w0 (XE y0 y1 y2 y3 y4 y5) (XH y0 y1 y2 y3 y4 y5) G' K') : Ok N base w0 E H G K := h1 h2
theorem mrgf7 {F : Ys → Ys → Ys → Ys → Ys → Ys → Ys → Prop} {XE : Ys → Ys → Ys → Ys → Ys → Ys → Ys → Env} {XH : Ys → Ys → Ys → Ys → Ys → Ys → Ys → List HObj} {G' : List World} {K' : Act → World → Prop} (h1 : (∀ y0 y1 y2 y3 y4 y5 y6, F y0 y1 y2 y3 y4 y5 y6 → Ok N base w0 (XE y0 y1 y2 y3 y4 y5 y6) (XH y0 y1 y2 y3 y4 y5 y6) G' K') → Ok N base w0 E H G K) (h2 : ∀ y0 y1 y2 y3 y4 y5 y6, F y0 y1 y2 y3 y4 y5 y6 → Ok N base w0 (XE y0 y1 y2 y3 y4 y5 y6) (XH y0 y1 y2 y3 y4 y5 y6) G' K') : Ok N base w0 E H G K := h1 h2
theorem mrgf8 {F : Ys → Ys → Ys → Ys → Ys → Ys → Ys → Ys → Prop} {XE : Ys → Ys → Ys → Ys → Ys → Ys → Ys → Ys → Env} {XH : Ys → Ys → Ys → Ys → Ys → Ys → Ys → Ys → List HObj} {G' : List World} {K' : Act → World → Prop} (h1 : (∀ y0 y1 y2 y3 y4 y5 y6 y7, F y0 y1 y2 y3 y4 y5 y6 y7 → Ok N base w0 (XE y0 y1 y2 y3 y4 y5 y6 y7) (XH y0 y1 y2 y3 y4 y5 y6 y7) G' K') → Ok N base w0 E H G K) (h2 : ∀ y0 y1 y2 y3 y4 y5 y6 y7, F y0 y1 y2 y3 y4 y5 y6 y7 → Ok N base w0 (XE y0 y1 y2 y3 y4 y5 y6 y7) (XH y0 y1 y2 y3 y4 y5 y6 y7) G' K') : Ok N base w0 E H G K := h1 h2
theorem ok_front (i : Nat) {x : HObj} (hi : H[i]? = some x) (h : Ok N base w0 E (x :: H.eraseIdx i) G K) : Ok N base w0 E H G K := fun a w he hw => h a w he (hw.front i hi)
end
end Go.Proofs.Ytfcnimglcialbaa
/- The walk of FnExactJoinDelta. -/
namespace Go.Proofs.Ytfcnimglcialbaa
open Go.RowKit
set_option maxHeartbeats 4000000
set_option maxRecDepth 20000
set_option linter.unusedVariables false
set_option linter.unusedSimpArgs false
attribute [local irreducible] Calls
theorem FnExactJoinDelta_e (x0 : DDelta) (Y0 : Ys) (x1 : DDelta) (Y1 : Ys) (w : World) (h0 : Delta_rd w x0 Y0) (b0 : Delta_big x0) (h1 : Delta_rd w x1 Y1) (b1 : Delta_big x1) :
    Calls Try.prog 20 #[Delta_val x0 Y0, Delta_val x1 Y1] w fun e w' => e = .returned (.bool true) ∧ Below w.heap.size w w' := by
  refine ok_enter 92 Try.func20 rfl rfl rfl ?_
  repeat' (first
    | refine ok_seq ?_
    | refine ok_then ?_
    | refine ok_then_ret ?_
    | (refine ok_cond rfl (fun hc => ?_) (fun hc => ?_) <;> (have hd := hc; (try simp only [decide_eq_true_eq, decide_eq_false_iff_not, Bool.or_eq_true, Bool.or_eq_false_iff, Bool.and_eq_true, Bool.and_eq_false_iff, Bool.not_eq_true', Bool.not_eq_false', bne_iff_ne, beq_iff_eq, bne_eq_false_iff_eq, beq_eq_false_iff_ne, ne_eq, Bool.not_true, Bool.not_false, Bool.false_eq_true, Bool.true_eq_false, inB_true, inB_false] at hd)))
    | refine ok_ret ?_
    | refine ok_skip ?_
    | (refine ok_region (i := 0) ?_; refine ok_m rfl rfl rfl (by exact ms_box rfl rfl rfl) ?_; rintro y2 hy2; refine ok_m rfl rfl rfl (by exact ms_box rfl rfl rfl) ?_; rintro y3 hy3; refine ok_p rfl rfl rfl (by exact ps_assign rfl rfl) ?_; refine ok_nil ?_; refine ok_env [(2, _), (3, _)] ⟨rfl, rfl, trivial⟩ ?_)
    | (refine ok_region (i := 1) ?_; refine ok_p rfl rfl rfl (by exact ps_assign rfl rfl) ?_; refine ok_nil ?_; refine ok_env [(2, _), (3, _), (5, _)] ⟨rfl, rfl, rfl, trivial⟩ ?_)
    | (refine ok_region (i := 2) ?_; refine ok_p rfl rfl rfl (by exact ps_loads rfl rfl (by exact rds_box 1 rfl) rfl rfl (by decide)) ?_; refine ok_p rfl rfl rfl (by exact ps_move rfl rfl) ?_; refine ok_m rfl rfl rfl (by exact ms_c2 rfl rfl rfl (fun _ _ w hw => szDelta_c x0 Y0 _ ⟨by omega, by omega⟩ w (Delta_rf h0 (by exact List.mem_cons_self) hw) b0)) ?_; rintro y16 hy16; refine ok_p rfl rfl rfl (by exact ps_assign rfl rfl) ?_; refine ok_nil ?_; refine ok_env [(2, _), (3, _), (5, _)] ⟨rfl, rfl, rfl, trivial⟩ ?_)
    | (refine ok_region (i := 3) ?_; refine ok_p rfl rfl rfl (by exact ps_move rfl rfl) ?_; refine ok_p rfl rfl rfl (by exact ps_int rfl rfl rfl rfl) ?_; refine ok_nil ?_; refine ok_env [(2, _), (3, _), (5, _), (18, _)] ⟨rfl, rfl, rfl, rfl, trivial⟩ ?_)
    | (refine ok_region (i := 4) ?_; refine ok_p rfl rfl rfl (by exact ps_assign rfl rfl) ?_; refine ok_nil ?_; refine ok_env [(4, _)] ⟨rfl, trivial⟩ ?_)
    | (refine ok_region (i := 5) ?_; refine ok_p rfl rfl rfl (by exact ps_loads rfl rfl (by exact rds_box 0 rfl) rfl rfl (by decide)) ?_; refine ok_p rfl rfl rfl (by exact ps_move rfl rfl) ?_; refine ok_m rfl rfl rfl (by exact ms_c2 rfl rfl rfl (fun _ _ w hw => szDelta_c x1 Y1 _ ⟨by omega, by omega⟩ w (Delta_rf h1 (by exact List.mem_cons_self) hw) b1)) ?_; rintro y21 hy21; refine ok_p rfl rfl rfl (by exact ps_assign rfl rfl) ?_; refine ok_nil ?_; refine ok_env [(2, _), (3, _), (5, _)] ⟨rfl, rfl, rfl, trivial⟩ ?_)
    | (refine ok_region (i := 6) ?_; refine ok_p rfl rfl rfl (by exact ps_move rfl rfl) ?_; refine ok_p rfl rfl rfl (by exact ps_int rfl rfl rfl rfl) ?_; refine ok_nil ?_; refine ok_env [(2, _), (3, _), (23, _)] ⟨rfl, rfl, rfl, trivial⟩ ?_)
    | (refine ok_region (i := 7) ?_; refine ok_p rfl rfl rfl (by exact ps_assign rfl rfl) ?_; refine ok_nil ?_; refine ok_env [(4, _)] ⟨rfl, trivial⟩ ?_)
    | (apply mrg4; (focus (intro hk; refine ok_draw (id := 8) 6 rfl (by kernel_rfl) (by kernel_rfl) rfl (by repeat (first | exact pq_body | refine pq_then ?_ | refine pq_in ?_)) [0, 1, 2, 3, 4, 5, 6, 7, 8, 9, 10, 11, 12, 13, 14, 15, 16, 17, 18, 19, 20, 21, 22, 23] (by decide) rfl ?_; refine okT_take (i := 0) rfl (by kernel_rfl) rfl rfl rfl (by exact ps_loads rfl rfl (by exact rds_box 1 rfl) rfl rfl (by decide)) ?_; refine okT_take (i := 2) rfl (by kernel_rfl) rfl rfl rfl (by exact ps_loads rfl rfl (by exact rds_box 0 rfl) rfl rfl (by decide)) ?_; refine okT_many (by kernel_rfl) (all_cons (at_m (i := 1) rfl rfl rfl rfl rfl (by /-2-/ exact ms_c1 rfl rfl (fun _ _ w hw => toDelta_c x0 Y0 w (Delta_rf h0 (by exact List.mem_cons_self) hw) (hy16.2.2 (by omega)))) (fun y w _ h => by exact h.tl.tl) ?_) (all_cons (at_m (i := 5) rfl rfl rfl rfl rfl (by exact ms_alloc rfl) (fun y w _ h => by exact h.tl) ?_) all_nil)); (focus (rintro y25 hy25; refine okT_many (by kernel_rfl) (all_cons (at_m (i := 3) rfl rfl rfl rfl rfl (by /-2-/ exact ms_c1 rfl rfl (fun _ _ w hw => toDelta_c x1 Y1 w (Delta_rf h1 (by exact List.mem_cons_self) hw) (hy21.2.2 (by omega)))) (fun y w _ h => by exact h.tl.tl.tl.tl) ?_) (all_cons (at_m (i := 5) rfl rfl rfl rfl rfl (by exact ms_alloc rfl) (fun y w _ h => by exact h.tl.tl.tl) ?_) all_nil)); (focus (rintro y27 hy27; refine okT_many (by kernel_rfl) (all_cons (at_m (i := 4) rfl rfl rfl rfl rfl (by /-2-/ exact ms_c2 rfl rfl rfl (fun _ _ w hw => s_JoinDelta x0 y25 x1 y27 w (Delta_of (hw.drop 2 rfl)) (Delta_of (hw.drop 0 rfl)) (hy16.2.2 (by omega)) (hy21.2.2 (by omega)))) (fun y w _ h => by exact h.tl.tl.tl.tl.tl.tl) ?_) (all_cons (at_m (i := 5) rfl rfl rfl rfl rfl (by exact ms_alloc rfl) (fun y w _ h => by exact h.tl.tl.tl.tl.tl) ?_) all_nil)); (focus (rintro y28 hy28; refine okT_one (i := 5) rfl rfl (by kernel_rfl) rfl rfl rfl (by exact ms_alloc rfl) (fun y w _ h => by exact h.tl.tl.tl.tl.tl.tl.tl) ?_; rintro y6 hy6; refine okT_done (by kernel_rfl) ?_; refine ok_m_ rfl rfl (by exact ms_store 0 rfl rfl rfl rfl rfl rfl rfl rfl) ?_; rintro y_ hy_; refine ok_nil ?_; refine ok_env [(2, _), (3, _), (6, _)] ⟨rfl, rfl, rfl, trivial⟩ ?_; exact hk y25 y27 y28 y6)); (focus (rintro y6 hy6; refine okT_one (i := 4) rfl rfl (by kernel_rfl) rfl rfl rfl (by /-2-/ exact ms_c2 rfl rfl rfl (fun _ _ w hw => s_JoinDelta x0 y25 x1 y27 w (Delta_of (hw.drop 3 rfl)) (Delta_of (hw.drop 1 rfl)) (hy16.2.2 (by omega)) (hy21.2.2 (by omega)))) (fun y w _ h => by exact h.tl.tl.tl.tl.tl.tl.tl) ?_; rintro y28 hy28; refine okT_done (by kernel_rfl) ?_; refine ok_m_ rfl rfl (by exact ms_store 2 rfl rfl rfl rfl rfl rfl rfl rfl) ?_; rintro y_ hy_; refine ok_nil ?_; refine ok_env [(2, _), (3, _), (6, _)] ⟨rfl, rfl, rfl, trivial⟩ ?_; refine ok_front 6 rfl ?_; refine ok_front 6 rfl ?_; refine ok_front 6 rfl ?_; refine ok_front 6 rfl ?_; refine ok_front 5 rfl ?_; refine ok_front 5 rfl ?_; refine ok_front 6 rfl ?_; exact hk y25 y27 y28 y6)))); (focus (rintro y6 hy6; refine okT_one (i := 3) rfl rfl (by kernel_rfl) rfl rfl rfl (by /-2-/ exact ms_c1 rfl rfl (fun _ _ w hw => toDelta_c x1 Y1 w (Delta_rf h1 (by exact List.mem_cons_self) hw) (hy21.2.2 (by omega)))) (fun y w _ h => by exact h.tl.tl.tl.tl.tl) ?_; rintro y27 hy27; refine okT_one (i := 4) rfl rfl (by kernel_rfl) rfl rfl rfl (by /-2-/ exact ms_c2 rfl rfl rfl (fun _ _ w hw => s_JoinDelta x0 y25 x1 y27 w (Delta_of (hw.drop 3 rfl)) (Delta_of (hw.drop 0 rfl)) (hy16.2.2 (by omega)) (hy21.2.2 (by omega)))) (fun y w _ h => by exact h.tl.tl.tl.tl.tl.tl.tl) ?_; rintro y28 hy28; refine okT_done (by kernel_rfl) ?_; refine ok_m_ rfl rfl (by exact ms_store 4 rfl rfl rfl rfl rfl rfl rfl rfl) ?_; rintro y_ hy_; refine ok_nil ?_; refine ok_env [(2, _), (3, _), (6, _)] ⟨rfl, rfl, rfl, trivial⟩ ?_; refine ok_front 6 rfl ?_; refine ok_front 6 rfl ?_; refine ok_front 5 rfl ?_; refine ok_front 5 rfl ?_; refine ok_front 5 rfl ?_; refine ok_front 5 rfl ?_; refine ok_front 6 rfl ?_; exact hk y25 y27 y28 y6)))); (focus (rintro y6 hy6; refine okT_one (i := 1) rfl rfl (by kernel_rfl) rfl rfl rfl (by /-2-/ exact ms_c1 rfl rfl (fun _ _ w hw => toDelta_c x0 Y0 w (Delta_rf h0 (by exact List.mem_cons_self) hw) (hy16.2.2 (by omega)))) (fun y w _ h => by exact h.tl.tl.tl) ?_; rintro y25 hy25; refine okT_one (i := 3) rfl rfl (by kernel_rfl) rfl rfl rfl (by /-2-/ exact ms_c1 rfl rfl (fun _ _ w hw => toDelta_c x1 Y1 w (Delta_rf h1 (by exact List.mem_cons_self) hw) (hy21.2.2 (by omega)))) (fun y w _ h => by exact h.tl.tl.tl.tl.tl) ?_; rintro y27 hy27; refine okT_one (i := 4) rfl rfl (by kernel_rfl) rfl rfl rfl (by /-2-/ exact ms_c2 rfl rfl rfl (fun _ _ w hw => s_JoinDelta x0 y25 x1 y27 w (Delta_of (hw.drop 2 rfl)) (Delta_of (hw.drop 0 rfl)) (hy16.2.2 (by omega)) (hy21.2.2 (by omega)))) (fun y w _ h => by exact h.tl.tl.tl.tl.tl.tl.tl) ?_; rintro y28 hy28; refine okT_done (by kernel_rfl) ?_; refine ok_m_ rfl rfl (by exact ms_store 6 rfl rfl rfl rfl rfl rfl rfl rfl) ?_; rintro y_ hy_; refine ok_nil ?_; refine ok_env [(2, _), (3, _), (6, _)] ⟨rfl, rfl, rfl, trivial⟩ ?_; refine ok_front 5 rfl ?_; refine ok_front 5 rfl ?_; refine ok_front 5 rfl ?_; refine ok_front 5 rfl ?_; refine ok_front 5 rfl ?_; refine ok_front 5 rfl ?_; refine ok_front 6 rfl ?_; exact hk y25 y27 y28 y6)))); rintro y25 y27 y28 y6)
    | (refine ok_region (i := 9) ?_; refine ok_p rfl rfl rfl (by exact ps_loads rfl rfl (by exact rds_box 8 rfl) rfl rfl (by decide)) ?_; refine ok_m rfl rfl rfl (by exact ms_c1 rfl rfl (fun _ _ w hw => toDelta_c x0 Y0 w (Delta_rf h0 (by exact List.mem_cons_self) hw) (hy16.2.2 (by omega)))) ?_; rintro y30 hy30; refine ok_m rfl rfl rfl (by exact ms_alloc rfl) ?_; rintro y7 hy7; refine ok_m_ rfl rfl (by exact ms_store 0 rfl rfl rfl rfl rfl rfl rfl rfl) ?_; rintro y_ hy_; refine ok_nil ?_; refine ok_env [(2, _), (3, _), (6, _), (7, _)] ⟨rfl, rfl, rfl, rfl, trivial⟩ ?_)
    | (refine ok_region (i := 10) ?_; refine ok_p rfl rfl rfl (by exact ps_loads rfl rfl (by exact rds_box 10 rfl) rfl rfl (by decide)) ?_; refine ok_m rfl rfl rfl (by exact ms_c1 rfl rfl (fun _ _ w hw => toDelta_c x1 Y1 w (Delta_rf h1 (by exact List.mem_cons_self) hw) (hy21.2.2 (by omega)))) ?_; rintro y32 hy32; refine ok_m rfl rfl rfl (by exact ms_alloc rfl) ?_; rintro y8 hy8; refine ok_m_ rfl rfl (by exact ms_store 0 rfl rfl rfl rfl rfl rfl rfl rfl) ?_; rintro y_ hy_; refine ok_nil ?_; refine ok_env [(2, _), (3, _), (6, _), (7, _), (8, _)] ⟨rfl, rfl, rfl, rfl, rfl, trivial⟩ ?_)
    | (refine ok_region (i := 11) ?_; refine ok_p rfl rfl rfl (by exact ps_loads rfl rfl (by exact rds_box 3 rfl) rfl rfl (by decide)) ?_; refine ok_p rfl rfl rfl (by exact ps_loads rfl rfl (by exact rds_box 0 rfl) rfl rfl (by decide)) ?_; refine ok_m rfl rfl rfl (by exact ms_c2 rfl rfl rfl (fun _ _ w hw => i_JoinDelta x0 y30 x1 y32 w (Delta_of (hw.drop 4 rfl)) (Delta_of (hw.drop 1 rfl)) (hy16.2.2 (by omega)) (hy21.2.2 (by omega)))) ?_; rintro y35 hy35; refine ok_m rfl rfl rfl (by exact ms_alloc rfl) ?_; rintro y9 hy9; refine ok_m_ rfl rfl (by exact ms_store 0 rfl rfl rfl rfl rfl rfl rfl rfl) ?_; rintro y_ hy_; refine ok_nil ?_; refine ok_env [(2, _), (3, _), (6, _), (7, _), (8, _), (9, _)] ⟨rfl, rfl, rfl, rfl, rfl, rfl, trivial⟩ ?_)
    | (refine ok_region (i := 12) ?_; refine ok_p rfl rfl rfl (by exact ps_loads rfl rfl (by exact rds_box 0 rfl) rfl rfl (by decide)) ?_; refine ok_p rfl rfl rfl (by exact ps_loads rfl rfl (by exact rds_box 9 rfl) rfl rfl (by decide)) ?_; refine ok_m rfl rfl rfl (by exact ms_s2 rfl rfl rfl (fun _ _ w hw => eqDelta_c (fJoinDelta x0 x1) y35 y28 w (DeltaC_of (hw.drop 1 rfl)) (Delta_of (hw.drop 10 rfl)) (JoinDelta_lim x0 x1 (hy16.2.2 (by omega)) (hy21.2.2 (by omega))))) ?_; rintro y38 hy38; refine ok_p rfl rfl rfl (by exact ps_not rfl rfl) ?_; refine ok_nil ?_; refine ok_env [(2, _), (3, _), (6, _), (7, _), (8, _), (9, _), (39, _)] ⟨rfl, rfl, rfl, rfl, rfl, rfl, rfl, trivial⟩ ?_)
    | (refine ok_draw (id := 14) 5 rfl (by kernel_rfl) (by kernel_rfl) rfl (by repeat (first | exact pq_body | refine pq_then ?_ | refine pq_in ?_)) [0, 1, 2, 3, 4, 5, 6, 7, 8, 9, 10, 11, 12, 13, 14, 15, 16, 17, 18, 19, 20, 21, 22, 23] (by decide) rfl ?_; refine okT_take (i := 0) rfl (by kernel_rfl) rfl rfl rfl (by exact ps_loads rfl rfl (by exact rds_box 6 rfl) rfl rfl (by decide)) ?_; refine okT_take (i := 1) rfl (by kernel_rfl) rfl rfl rfl (by exact ps_loads rfl rfl (by exact rds_box 17 rfl) rfl rfl (by decide)) ?_; refine okT_one (i := 2) rfl rfl (by kernel_rfl) rfl rfl rfl (by exact ms_c1 rfl rfl (fun _ _ w hw => toDelta_c x0 Y0 w (Delta_rf h0 (by exact List.mem_cons_self) hw) (hy16.2.2 (by omega)))) (fun y w _ h => by exact h.tl.tl) ?_; rintro y42 hy42; refine okT_one (i := 3) rfl rfl (by kernel_rfl) rfl rfl rfl (by exact ms_s2 rfl rfl rfl (fun _ _ w hw => eqDelta_c x0 y30 y42 w (Delta_of (hw.drop 9 rfl)) (Delta_of (hw.drop 0 rfl)) (Delta_sm_lim (hy16.2.2 (by omega))))) (fun y w _ h => by exact h.tl.tl) ?_; rintro y43 hy43; refine okT_take (i := 4) rfl (by kernel_rfl) rfl rfl rfl (by exact ps_not rfl rfl) ?_; refine okT_done (by kernel_rfl) ?_; refine ok_nil ?_; refine ok_env [(2, _), (3, _), (6, _), (7, _), (8, _), (9, _), (44, _)] ⟨rfl, rfl, rfl, rfl, rfl, rfl, rfl, trivial⟩ ?_)
    | (refine ok_draw (id := 16) 5 rfl (by kernel_rfl) (by kernel_rfl) rfl (by repeat (first | exact pq_body | refine pq_then ?_ | refine pq_in ?_)) [0, 1, 2, 3, 4, 5, 6, 7, 8, 9, 10, 11, 12, 13, 14, 15, 16, 17, 18, 19, 20, 21, 22, 23] (by decide) rfl ?_; refine okT_take (i := 0) rfl (by kernel_rfl) rfl rfl rfl (by exact ps_loads rfl rfl (by exact rds_box 5 rfl) rfl rfl (by decide)) ?_; refine okT_take (i := 1) rfl (by kernel_rfl) rfl rfl rfl (by exact ps_loads rfl rfl (by exact rds_box 18 rfl) rfl rfl (by decide)) ?_; refine okT_one (i := 2) rfl rfl (by kernel_rfl) rfl rfl rfl (by exact ms_c1 rfl rfl (fun _ _ w hw => toDelta_c x1 Y1 w (Delta_rf h1 (by exact List.mem_cons_self) hw) (hy21.2.2 (by omega)))) (fun y w _ h => by exact h.tl.tl) ?_; rintro y47 hy47; refine okT_one (i := 3) rfl rfl (by kernel_rfl) rfl rfl rfl (by exact ms_s2 rfl rfl rfl (fun _ _ w hw => eqDelta_c x1 y32 y47 w (Delta_of (hw.drop 8 rfl)) (Delta_of (hw.drop 0 rfl)) (Delta_sm_lim (hy21.2.2 (by omega))))) (fun y w _ h => by exact h.tl.tl) ?_; rintro y48 hy48; refine okT_take (i := 4) rfl (by kernel_rfl) rfl rfl rfl (by exact ps_not rfl rfl) ?_; refine okT_done (by kernel_rfl) ?_; refine ok_nil ?_; refine ok_env [(2, _), (3, _), (6, _), (7, _), (8, _), (9, _), (49, _)] ⟨rfl, rfl, rfl, rfl, rfl, rfl, rfl, trivial⟩ ?_)
    | (refine ok_region (i := 18) ?_; refine ok_p rfl rfl rfl (by exact ps_assign rfl rfl) ?_; refine ok_nil ?_; refine ok_env [(2, _), (3, _), (6, _), (7, _), (8, _), (9, _), (10, _)] ⟨rfl, rfl, rfl, rfl, rfl, rfl, rfl, trivial⟩ ?_)
    | (refine ok_region (i := 19) ?_; refine ok_p rfl rfl rfl (by exact ps_loads rfl rfl (by exact rds_box 10 rfl) rfl rfl (by decide)) ?_; refine ok_p rfl rfl rfl (by exact ps_move rfl rfl) ?_; refine ok_m rfl rfl rfl (by exact ms_w2 (H1 := (Delta_obj x0 y30 ++ (Delta_obj x1 y47 ++ (Delta_obj x0 y42 ++ ([_] ++ (DeltaC_obj (fJoinDelta x0 x1) y35 ++ ([_] ++ (Delta_obj x1 y32 ++ ([_] ++ ([_] ++ (Delta_obj (fJoinDelta x0 x1) y28 ++ (Delta_obj x1 y27 ++ (Delta_obj x0 y25 ++ ([_] ++ ([_] ++ []))))))))))))))) (fun _ _ _ h => h.rot 11 2 rfl) rfl rfl rfl (fun _ _ w hw => markDelta_c x0 y30 1 ⟨by omega, by omega⟩ (Delta_sm_lim (hy16.2.2 (by omega))) hw)) ?_; rintro y52 hy52; refine ok_p rfl rfl rfl (by exact ps_assign rfl rfl) ?_; refine ok_nil ?_; refine ok_env [(2, _), (3, _), (6, _), (8, _), (9, _), (10, _)] ⟨rfl, rfl, rfl, rfl, rfl, rfl, trivial⟩ ?_)
    | (refine ok_region (i := 20) ?_; refine ok_p rfl rfl rfl (by exact ps_loads rfl rfl (by exact rds_box 9 rfl) rfl rfl (by decide)) ?_; refine ok_p rfl rfl rfl (by exact ps_move rfl rfl) ?_; refine ok_m rfl rfl rfl (by exact ms_w2 (H1 := (Delta_obj x1 y32 ++ (Delta_obj (Delta_mk 1 x0) y30 ++ (Delta_obj x1 y47 ++ (Delta_obj x0 y42 ++ ([_] ++ (DeltaC_obj (fJoinDelta x0 x1) y35 ++ ([_] ++ ([_] ++ ([_] ++ (Delta_obj (fJoinDelta x0 x1) y28 ++ (Delta_obj x1 y27 ++ (Delta_obj x0 y25 ++ ([_] ++ ([_] ++ []))))))))))))))) (fun _ _ _ h => h.rot 10 2 rfl) rfl rfl rfl (fun _ _ w hw => markDelta_c x1 y32 (Delta_cnt x0 1) (by have := Delta_cnt_le x0 1 (Delta_sm_lim (hy16.2.2 (by omega))); omega) (Delta_sm_lim (hy21.2.2 (by omega))) hw)) ?_; rintro y55 hy55; refine ok_p rfl rfl rfl (by exact ps_assign rfl rfl) ?_; refine ok_nil ?_; refine ok_env [(2, _), (3, _), (6, _), (9, _), (10, _)] ⟨rfl, rfl, rfl, rfl, rfl, trivial⟩ ?_)
    | (refine ok_region (i := 21) ?_; refine ok_p rfl rfl rfl (by exact ps_move rfl rfl) ?_; refine ok_p rfl rfl rfl (by exact ps_int rfl rfl rfl rfl) ?_; refine ok_p rfl rfl rfl (by exact ps_move rfl rfl) ?_; refine ok_pg rfl rfl rfl rfl rfl (gF _) (fun hp => by (have hpd := hp; (try simp only [decide_eq_true_eq, decide_eq_false_iff_not, Bool.or_eq_true, Bool.or_eq_false_iff, Bool.and_eq_true, Bool.and_eq_false_iff, Bool.not_eq_true', Bool.not_eq_false', bne_iff_ne, beq_iff_eq, bne_eq_false_iff_eq, beq_eq_false_iff_ne, ne_eq, Bool.not_true, Bool.not_false, Bool.false_eq_true, Bool.true_eq_false, inB_true, inB_false] at hpd); exact ps_loads rfl (by exact rfl) (by exact rds_box 8 rfl) rfl rfl (by decide))) ?_; refine ok_pg rfl rfl rfl rfl rfl (gF _) (fun hp => by (have hpd := hp; (try simp only [decide_eq_true_eq, decide_eq_false_iff_not, Bool.or_eq_true, Bool.or_eq_false_iff, Bool.and_eq_true, Bool.and_eq_false_iff, Bool.not_eq_true', Bool.not_eq_false', bne_iff_ne, beq_iff_eq, bne_eq_false_iff_eq, beq_eq_false_iff_ne, ne_eq, Bool.not_true, Bool.not_false, Bool.false_eq_true, Bool.true_eq_false, inB_true, inB_false] at hpd); exact ps_loads rfl (by exact rfl) (by exact rds_box 13 rfl) rfl rfl (by decide))) ?_; refine ok_mg rfl rfl rfl rfl rfl (gF _) (fun hp => by (have hpd := hp; (try simp only [decide_eq_true_eq, decide_eq_false_iff_not, Bool.or_eq_true, Bool.or_eq_false_iff, Bool.and_eq_true, Bool.and_eq_false_iff, Bool.not_eq_true', Bool.not_eq_false', bne_iff_ne, beq_iff_eq, bne_eq_false_iff_eq, beq_eq_false_iff_ne, ne_eq, Bool.not_true, Bool.not_false, Bool.false_eq_true, Bool.true_eq_false, inB_true, inB_false] at hpd); exact ms_s2 rfl rfl rfl (fun _ _ w hw => eqDelta_c (fJoinDelta x0 x1) y35 y28 w (DeltaC_of (hw.drop 9 rfl)) (Delta_of (hw.drop 14 rfl)) (JoinDelta_lim x0 x1 (hy16.2.2 (by omega)) (hy21.2.2 (by omega)))))) ?_; refine ok_pg rfl rfl rfl rfl rfl (gF _) (fun hp => by (have hpd := hp; (try simp only [decide_eq_true_eq, decide_eq_false_iff_not, Bool.or_eq_true, Bool.or_eq_false_iff, Bool.and_eq_true, Bool.and_eq_false_iff, Bool.not_eq_true', Bool.not_eq_false', bne_iff_ne, beq_iff_eq, bne_eq_false_iff_eq, beq_eq_false_iff_ne, ne_eq, Bool.not_true, Bool.not_false, Bool.false_eq_true, Bool.true_eq_false, inB_true, inB_false] at hpd); exact ps_not rfl (by (refine og rfl ?_; assumption)))) ?_; refine ok_p rfl rfl rfl (by exact ps_or rfl rfl rfl) ?_; refine ok_nil ?_; refine ok_env [(2, _), (3, _), (6, _), (9, _), (63, _)] ⟨rfl, rfl, rfl, rfl, rfl, trivial⟩ ?_)
    | (refine ok_region (i := 22) ?_; refine ok_p rfl rfl rfl (by exact ps_assign rfl rfl) ?_; refine ok_nil ?_; refine ok_env [(4, _)] ⟨rfl, trivial⟩ ?_)
    | (refine ok_region (i := 23) ?_; refine ok_p rfl rfl rfl (by exact ps_assign rfl rfl) ?_; refine ok_nil ?_; refine ok_env [(2, _), (3, _), (6, _), (9, _), (11, _)] ⟨rfl, rfl, rfl, rfl, rfl, trivial⟩ ?_)
    | (refine ok_region (i := 24) ?_; refine ok_p rfl rfl rfl (by exact ps_loads rfl rfl (by exact rds_box 8 rfl) rfl rfl (by decide)) ?_; refine ok_p rfl rfl rfl (by exact ps_move rfl rfl) ?_; refine ok_m rfl rfl rfl (by exact ms_w2 (H1 := (DeltaC_obj (fJoinDelta x0 x1) y35 ++ (Delta_obj (Delta_mk (Delta_cnt x0 1) x1) y32 ++ (Delta_obj (Delta_mk 1 x0) y30 ++ (Delta_obj x1 y47 ++ (Delta_obj x0 y42 ++ ([_] ++ ([_] ++ ([_] ++ ([_] ++ (Delta_obj (fJoinDelta x0 x1) y28 ++ (Delta_obj x1 y27 ++ (Delta_obj x0 y25 ++ ([_] ++ ([_] ++ []))))))))))))))) (fun _ _ _ h => h.rot 9 2 rfl) rfl rfl rfl (fun _ _ w hw => markDeltaC_c (fJoinDelta x0 x1) y35 1 ⟨by omega, by omega⟩ (JoinDelta_lim x0 x1 (hy16.2.2 (by omega)) (hy21.2.2 (by omega))) hw)) ?_; rintro y66 hy66; refine ok_p rfl rfl rfl (by exact ps_assign rfl rfl) ?_; refine ok_nil ?_; refine ok_env [(2, _), (3, _), (6, _), (9, _), (11, _)] ⟨rfl, rfl, rfl, rfl, rfl, trivial⟩ ?_)
    | (refine ok_region (i := 25) ?_; refine ok_p rfl rfl rfl (by exact ps_assign rfl rfl) ?_; refine ok_nil ?_; refine ok_env [(2, _), (3, _), (6, _), (9, _), (11, _), (12, _)] ⟨rfl, rfl, rfl, rfl, rfl, rfl, trivial⟩ ?_)
    | (refine ok_region (i := 26) ?_; refine ok_p rfl rfl rfl (by exact ps_loads rfl rfl (by exact rds_box 10 rfl) rfl rfl (by decide)) ?_; refine ok_p rfl rfl rfl (by exact ps_move rfl rfl) ?_; refine ok_m rfl rfl rfl (by exact ms_s2 rfl rfl rfl (fun _ _ w hw => heldDelta_c (fJoinDelta x0 x1) y35 1 ⟨by omega, by omega⟩ (JoinDelta_lim x0 x1 (hy16.2.2 (by omega)) (hy21.2.2 (by omega))) w (DeltaC_of (hw.drop 0 rfl)))) ?_; rintro y69 hy69; refine ok_p rfl rfl rfl (by exact ps_assign rfl rfl) ?_; refine ok_nil ?_; refine ok_env [(2, _), (3, _), (6, _), (9, _), (11, _), (12, _)] ⟨rfl, rfl, rfl, rfl, rfl, rfl, trivial⟩ ?_)
    | (refine ok_region (i := 27) ?_; refine ok_p rfl rfl rfl (by exact ps_move rfl rfl) ?_; refine ok_p rfl rfl rfl (by exact ps_int rfl rfl rfl rfl) ?_; refine ok_nil ?_; refine ok_env [(2, _), (3, _), (6, _), (9, _), (11, _), (12, _), (71, _)] ⟨rfl, rfl, rfl, rfl, rfl, rfl, rfl, trivial⟩ ?_)
    | (refine ok_region (i := 28) ?_; refine ok_p rfl rfl rfl (by exact ps_assign rfl rfl) ?_; refine ok_nil ?_; refine ok_env [(4, _)] ⟨rfl, trivial⟩ ?_)
    | (refine ok_region (i := 29) ?_; refine ok_p rfl rfl rfl (by exact ps_move rfl rfl) ?_; refine ok_p rfl rfl rfl (by exact ps_move rfl rfl) ?_; refine ok_p rfl rfl rfl (by exact ps_int rfl rfl rfl rfl) ?_; refine ok_nil ?_; refine ok_env [(2, _), (3, _), (6, _), (9, _), (11, _), (74, _)] ⟨rfl, rfl, rfl, rfl, rfl, rfl, trivial⟩ ?_)
    | (refine ok_region (i := 30) ?_; refine ok_p rfl rfl rfl (by exact ps_assign rfl rfl) ?_; refine ok_nil ?_; refine ok_env [(4, _)] ⟨rfl, trivial⟩ ?_)
    | (apply mrg4; (focus (intro hk; refine ok_draw (id := 31) 6 rfl (by kernel_rfl) (by kernel_rfl) rfl (by repeat (first | exact pq_body | refine pq_then ?_ | refine pq_in ?_)) [0, 1, 2, 3, 4, 5, 6, 7, 8, 9, 10, 11, 12, 13, 14, 15, 16, 17, 18, 19, 20, 21, 22, 23] (by decide) rfl ?_; refine okT_take (i := 0) rfl (by kernel_rfl) rfl rfl rfl (by exact ps_loads rfl rfl (by exact rds_box 21 rfl) rfl rfl (by decide)) ?_; refine okT_take (i := 2) rfl (by kernel_rfl) rfl rfl rfl (by exact ps_loads rfl rfl (by exact rds_box 20 rfl) rfl rfl (by decide)) ?_; refine okT_many (by kernel_rfl) (all_cons (at_m (i := 1) rfl rfl rfl rfl rfl (by /-2-/ exact ms_c1 rfl rfl (fun _ _ w hw => toDelta_c x0 Y0 w (Delta_rf h0 (by exact List.mem_cons_self) hw) (hy16.2.2 (by omega)))) (fun y w _ h => by exact h.tl.tl) ?_) (all_cons (at_m (i := 5) rfl rfl rfl rfl rfl (by exact ms_alloc rfl) (fun y w _ h => by exact h.tl) ?_) all_nil)); (focus (rintro y76 hy76; refine okT_many (by kernel_rfl) (all_cons (at_m (i := 3) rfl rfl rfl rfl rfl (by /-2-/ exact ms_c1 rfl rfl (fun _ _ w hw => toDelta_c x1 Y1 w (Delta_rf h1 (by exact List.mem_cons_self) hw) (hy21.2.2 (by omega)))) (fun y w _ h => by exact h.tl.tl.tl.tl) ?_) (all_cons (at_m (i := 5) rfl rfl rfl rfl rfl (by exact ms_alloc rfl) (fun y w _ h => by exact h.tl.tl.tl) ?_) all_nil)); (focus (rintro y78 hy78; refine okT_many (by kernel_rfl) (all_cons (at_m (i := 4) rfl rfl rfl rfl rfl (by /-2-/ exact ms_c2 rfl rfl rfl (fun _ _ w hw => i_JoinDelta x0 y76 x1 y78 w (Delta_of (hw.drop 2 rfl)) (Delta_of (hw.drop 0 rfl)) (hy16.2.2 (by omega)) (hy21.2.2 (by omega)))) (fun y w _ h => by exact h.tl.tl.tl.tl.tl.tl) ?_) (all_cons (at_m (i := 5) rfl rfl rfl rfl rfl (by exact ms_alloc rfl) (fun y w _ h => by exact h.tl.tl.tl.tl.tl) ?_) all_nil)); (focus (rintro y79 hy79; refine okT_one (i := 5) rfl rfl (by kernel_rfl) rfl rfl rfl (by exact ms_alloc rfl) (fun y w _ h => by exact h.tl.tl.tl.tl.tl.tl.tl) ?_; rintro y13 hy13; refine okT_done (by kernel_rfl) ?_; refine ok_m_ rfl rfl (by exact ms_store 0 rfl rfl rfl rfl rfl rfl rfl rfl) ?_; rintro y_ hy_; refine ok_nil ?_; refine ok_env [(6, _), (9, _), (11, _), (13, _)] ⟨rfl, rfl, rfl, rfl, trivial⟩ ?_; exact hk y76 y78 y79 y13)); (focus (rintro y13 hy13; refine okT_one (i := 4) rfl rfl (by kernel_rfl) rfl rfl rfl (by /-2-/ exact ms_c2 rfl rfl rfl (fun _ _ w hw => i_JoinDelta x0 y76 x1 y78 w (Delta_of (hw.drop 3 rfl)) (Delta_of (hw.drop 1 rfl)) (hy16.2.2 (by omega)) (hy21.2.2 (by omega)))) (fun y w _ h => by exact h.tl.tl.tl.tl.tl.tl.tl) ?_; rintro y79 hy79; refine okT_done (by kernel_rfl) ?_; refine ok_m_ rfl rfl (by exact ms_store 2 rfl rfl rfl rfl rfl rfl rfl rfl) ?_; rintro y_ hy_; refine ok_nil ?_; refine ok_env [(6, _), (9, _), (11, _), (13, _)] ⟨rfl, rfl, rfl, rfl, trivial⟩ ?_; refine ok_front 6 rfl ?_; refine ok_front 6 rfl ?_; refine ok_front 6 rfl ?_; refine ok_front 6 rfl ?_; refine ok_front 5 rfl ?_; refine ok_front 5 rfl ?_; refine ok_front 6 rfl ?_; exact hk y76 y78 y79 y13)))); (focus (rintro y13 hy13; refine okT_one (i := 3) rfl rfl (by kernel_rfl) rfl rfl rfl (by /-2-/ exact ms_c1 rfl rfl (fun _ _ w hw => toDelta_c x1 Y1 w (Delta_rf h1 (by exact List.mem_cons_self) hw) (hy21.2.2 (by omega)))) (fun y w _ h => by exact h.tl.tl.tl.tl.tl) ?_; rintro y78 hy78; refine okT_one (i := 4) rfl rfl (by kernel_rfl) rfl rfl rfl (by /-2-/ exact ms_c2 rfl rfl rfl (fun _ _ w hw => i_JoinDelta x0 y76 x1 y78 w (Delta_of (hw.drop 3 rfl)) (Delta_of (hw.drop 0 rfl)) (hy16.2.2 (by omega)) (hy21.2.2 (by omega)))) (fun y w _ h => by exact h.tl.tl.tl.tl.tl.tl.tl) ?_; rintro y79 hy79; refine okT_done (by kernel_rfl) ?_; refine ok_m_ rfl rfl (by exact ms_store 4 rfl rfl rfl rfl rfl rfl rfl rfl) ?_; rintro y_ hy_; refine ok_nil ?_; refine ok_env [(6, _), (9, _), (11, _), (13, _)] ⟨rfl, rfl, rfl, rfl, trivial⟩ ?_; refine ok_front 6 rfl ?_; refine ok_front 6 rfl ?_; refine ok_front 5 rfl ?_; refine ok_front 5 rfl ?_; refine ok_front 5 rfl ?_; refine ok_front 5 rfl ?_; refine ok_front 6 rfl ?_; exact hk y76 y78 y79 y13)))); (focus (rintro y13 hy13; refine okT_one (i := 1) rfl rfl (by kernel_rfl) rfl rfl rfl (by /-2-/ exact ms_c1 rfl rfl (fun _ _ w hw => toDelta_c x0 Y0 w (Delta_rf h0 (by exact List.mem_cons_self) hw) (hy16.2.2 (by omega)))) (fun y w _ h => by exact h.tl.tl.tl) ?_; rintro y76 hy76; refine okT_one (i := 3) rfl rfl (by kernel_rfl) rfl rfl rfl (by /-2-/ exact ms_c1 rfl rfl (fun _ _ w hw => toDelta_c x1 Y1 w (Delta_rf h1 (by exact List.mem_cons_self) hw) (hy21.2.2 (by omega)))) (fun y w _ h => by exact h.tl.tl.tl.tl.tl) ?_; rintro y78 hy78; refine okT_one (i := 4) rfl rfl (by kernel_rfl) rfl rfl rfl (by /-2-/ exact ms_c2 rfl rfl rfl (fun _ _ w hw => i_JoinDelta x0 y76 x1 y78 w (Delta_of (hw.drop 2 rfl)) (Delta_of (hw.drop 0 rfl)) (hy16.2.2 (by omega)) (hy21.2.2 (by omega)))) (fun y w _ h => by exact h.tl.tl.tl.tl.tl.tl.tl) ?_; rintro y79 hy79; refine okT_done (by kernel_rfl) ?_; refine ok_m_ rfl rfl (by exact ms_store 6 rfl rfl rfl rfl rfl rfl rfl rfl) ?_; rintro y_ hy_; refine ok_nil ?_; refine ok_env [(6, _), (9, _), (11, _), (13, _)] ⟨rfl, rfl, rfl, rfl, trivial⟩ ?_; refine ok_front 5 rfl ?_; refine ok_front 5 rfl ?_; refine ok_front 5 rfl ?_; refine ok_front 5 rfl ?_; refine ok_front 5 rfl ?_; refine ok_front 5 rfl ?_; refine ok_front 6 rfl ?_; exact hk y76 y78 y79 y13)))); rintro y76 y78 y79 y13)
    | (refine ok_region (i := 32) ?_; refine ok_p rfl rfl rfl (by exact ps_loads rfl rfl (by exact rds_box 0 rfl) rfl rfl (by decide)) ?_; refine ok_p rfl rfl rfl (by exact ps_loads rfl rfl (by exact rds_box 20 rfl) rfl rfl (by decide)) ?_; refine ok_m rfl rfl rfl (by exact ms_s2 rfl rfl rfl (fun _ _ w hw => eqDelta_c (fJoinDelta x0 x1) y79 y28 w (DeltaC_of (hw.drop 1 rfl)) (Delta_of (hw.drop 21 rfl)) (JoinDelta_lim x0 x1 (hy16.2.2 (by omega)) (hy21.2.2 (by omega))))) ?_; rintro y82 hy82; refine ok_p rfl rfl rfl (by exact ps_not rfl rfl) ?_; refine ok_nil ?_; refine ok_env [(9, _), (11, _), (83, _)] ⟨rfl, rfl, rfl, trivial⟩ ?_)
    | (refine ok_region (i := 34) ?_; refine ok_p rfl rfl rfl (by exact ps_assign rfl rfl) ?_; refine ok_nil ?_; refine ok_env [(9, _), (11, _), (12, _)] ⟨rfl, rfl, rfl, trivial⟩ ?_)
    | (refine ok_region (i := 35) ?_; refine ok_p rfl rfl rfl (by exact ps_loads rfl rfl (by exact rds_box 17 rfl) rfl rfl (by decide)) ?_; refine ok_p rfl rfl rfl (by exact ps_move rfl rfl) ?_; refine ok_m rfl rfl rfl (by exact ms_s2 rfl rfl rfl (fun _ _ w hw => heldDelta_c (fJoinDelta x0 x1) y35 1 ⟨by omega, by omega⟩ (JoinDelta_lim x0 x1 (hy16.2.2 (by omega)) (hy21.2.2 (by omega))) w (DeltaC_of (hw.drop 7 rfl)))) ?_; rintro y86 hy86; refine ok_p rfl rfl rfl (by exact ps_assign rfl rfl) ?_; refine ok_nil ?_; refine ok_env [(11, _), (12, _)] ⟨rfl, rfl, trivial⟩ ?_)
    | (refine ok_region (i := 36) ?_; refine ok_p rfl rfl rfl (by exact ps_move rfl rfl) ?_; refine ok_p rfl rfl rfl (by exact ps_int rfl rfl rfl rfl) ?_; refine ok_nil ?_; refine ok_env [(11, _), (12, _), (88, _)] ⟨rfl, rfl, rfl, trivial⟩ ?_)
    | (refine ok_region (i := 37) ?_; refine ok_p rfl rfl rfl (by exact ps_assign rfl rfl) ?_; refine ok_nil ?_; refine ok_env [(4, _)] ⟨rfl, trivial⟩ ?_)
    | (refine ok_region (i := 38) ?_; refine ok_p rfl rfl rfl (by exact ps_move rfl rfl) ?_; refine ok_p rfl rfl rfl (by exact ps_move rfl rfl) ?_; refine ok_p rfl rfl rfl (by exact ps_int rfl rfl rfl rfl) ?_; refine ok_nil ?_; refine ok_env [(91, _)] ⟨rfl, trivial⟩ ?_)
    | (refine ok_region (i := 39) ?_; refine ok_p rfl rfl rfl (by exact ps_assign rfl rfl) ?_; refine ok_nil ?_; refine ok_env [(4, _)] ⟨rfl, trivial⟩ ?_)
    | (refine ok_region (i := 40) ?_; refine ok_p rfl rfl rfl (by exact ps_assign rfl rfl) ?_; refine ok_nil ?_; refine ok_env [(4, _)] ⟨rfl, trivial⟩ ?_))
  all_goals first
    | (exfalso; simp [sEq] at hd; done)
    | exact ok_endL (vs := [_]) rfl ⟨rfl, trivial⟩ (fun w hw => ⟨rfl, hw.below⟩)
    | (exfalso; omega)
    | (exfalso; have := Delta_cnt_le x0 1 (Delta_sm_lim (hy16.2.2 (by omega))); have := Delta_cnt_le x1 (Delta_cnt x0 1) (Delta_sm_lim (hy21.2.2 (by omega))); have := Delta_cnt_le (fJoinDelta x0 x1) 1 (JoinDelta_lim x0 x1 (hy16.2.2 (by omega)) (hy21.2.2 (by omega))); omega)
    | (exfalso; have := Delta_cnt_le x0 1 (Delta_sm_lim (hy16.2.2 (by omega))); have := Delta_cnt_le x1 (Delta_cnt x0 1) (Delta_sm_lim (hy21.2.2 (by omega))); have := Delta_cnt_le (fJoinDelta x0 x1) 1 (JoinDelta_lim x0 x1 (hy16.2.2 (by omega)) (hy21.2.2 (by omega))); simp at hd; omega)
    | (exfalso; have := Delta_cnt_le x0 1 (Delta_sm_lim (hy16.2.2 (by omega))); have := Delta_cnt_le x1 (Delta_cnt x0 1) (Delta_sm_lim (hy21.2.2 (by omega))); have := Delta_cnt_le (fJoinDelta x0 x1) 1 (JoinDelta_lim x0 x1 (hy16.2.2 (by omega)) (hy21.2.2 (by omega))); simp [sEq] at hd; omega)
theorem FnExactJoinDelta_walk (w : World) (cs0 : Array Value) (g0 : gDelta.den) (cs1 : Array Value) (g1 : gDelta.den) (hx0 : RdT w gDelta g0 cs0.toList) (hx1 : RdT w gDelta g1 cs1.toList) :
    Calls Try.prog 20 #[.agg cs0, .agg cs1] w fun e w' => e = .returned (.bool true) ∧ Below w.heap.size w w' := by
  obtain ⟨x0, Y0, hv0, h0, b0⟩ := Delta_open hx0
  rw [hv0]
  obtain ⟨x1, Y1, hv1, h1, b1⟩ := Delta_open hx1
  rw [hv1]
  exact FnExactJoinDelta_e x0 Y0 x1 Y1 w h0 b0 h1 b1
end Go.Proofs.Ytfcnimglcialbaa
/- The head of a cut program, and the facts of a row that hang on it: each by itself, so that the kernel's memory stays small. -/
namespace Go.Proofs.Ytfcnimglcialbaa
open Go.RowKit
set_option maxRecDepth 100000
section
variable (P : Program) (rest : List (List Char)) (h : behindMainWord (wordsSigns P.initOrder.toList) = ['c', 'u', 't'] :: rest)
include h
theorem make_cut : P.make = some .cut := by
  unfold Program.make
  rw [h]
  simp
theorem lifts_cut : P.headLifts = [] := by
  unfold Program.headLifts
  rw [h]
  have : stripLifts liftWords (['c', 'u', 't'] :: rest) = ([], ['c', 'u', 't'] :: rest) := by
    simp [liftWords, stripLifts]
  rw [this]
  simp
theorem final_cut : P.liftsFinal = false := by
  unfold Program.liftsFinal
  rw [lifts_cut P rest h]
  simp [h]
theorem enter_cut (h1 : P.laysLater = false) (h2 : P.bearsReflect = false) (h3 : P.doorFits [] = true) : P.mayEnter = true := by
  unfold Program.mayEnter
  have : stripLifts liftWords (['c', 'u', 't'] :: rest) = ([], ['c', 'u', 't'] :: rest) := by
    simp [liftWords, stripLifts]
  rw [h]
  simp [this, h1, h2, h3]
end
def ioL : List Char := ['h', 'a', 'r', 'n', 'e', 's', 's', ' ', 'a', '4', 'd', '2', 'd', '2', '0', 'a', '6', 'f', 'a', '0', '7', 'd', '6', 'c', '5', '1', '7', '7', 'a', '5', 'e', 'f', '1', '6', '0', 'f', 'd', '7', 'a', '0', '1', 'e', '5', '8', 'b', '9', '4', 'b', '4', 'c', 'f', 'd', '2', '8', '0', '7', '2', 'e', '2', '5', '7', 'a', 'e', 'f', '4', 'a', '0', 'c', 'c', 'd', 'f', 'a', ' ', 'c', 'u', 't', ' ', 'a', 't', ' ', 'l', 'o', 'o', 'p', '.', 'e', 'x', 'a', 'm', 'p', 'l', 'e', '/', 'g', '0', '0', '9', '5', '0', '/', 'l', 'a', 'w', 's', '.', 'F', 'n', 'E', 'x', 'a', 'c', 't', 'U', 'n', 'p', 'a', 'c', 'k', ' ', 'l', 'o', 'o', 'p', '.', 'e', 'x', 'a', 'm', 'p', 'l', 'e', '/', 'g', '0', '0', '9', '5', '0', '/', 'l', 'a', 'w', 's', '.', 'F', 'n', 'C', 'a', 'c', 'h', 'e', ' ', 'l', 'o', 'o', 'p', '.', 'e', 'x', 'a', 'm', 'p', 'l', 'e', '/', 'g', '0', '0', '9', '5', '0', '/', 'l', 'a', 'w', 's', '.', 'F', 'n', 'P', 'a', 'c', 'k', ' ', 'l', 'o', 'o', 'p', '.', 'e', 'x', 'a', 'm', 'p', 'l', 'e', '/', 'g', '0', '0', '9', '5', '0', '/', 'l', 'a', 'w', 's', '.', 'F', 'n', 'E', 'x', 'a', 'c', 't', 'W', 'a', 'l', 'k', 'O', 'k', ' ', 'l', 'o', 'o', 'p', '.', 'e', 'x', 'a', 'm', 'p', 'l', 'e', '/', 'g', '0', '0', '9', '5', '0', '/', 'l', 'a', 'w', 's', '.', 'F', 'n', 'T', 'u', 'r', 'n', 's', ' ', 'l', 'o', 'o', 'p', '.', 'e', 'x', 'a', 'm', 'p', 'l', 'e', '/', 'g', '0', '0', '9', '5', '0', '/', 'l', 'a', 'w', 's', '.', 'F', 'n', 'E', 'x', 'a', 'c', 't', 'S', 'h', 'o', 'w', 'D', 'e', 'l', 't', 'a', ' ', 'l', 'o', 'o', 'p', '.', 'e', 'x', 'a', 'm', 'p', 'l', 'e', '/', 'g', '0', '0', '9', '5', '0', '/', 'l', 'a', 'w', 's', '.', 'F', 'n', 'S', 'l', 'o', 't', 's', ' ', 'l', 'o', 'o', 'p', '.', 'e', 'x', 'a', 'm', 'p', 'l', 'e', '/', 'g', '0', '0', '9', '5', '0', '/', 'l', 'a', 'w', 's', '.', 'F', 'n', 'E', 'x', 'a', 'c', 't', 'L', 'i', 'n', 'k', 'S', 'u', 'm', ' ', 'l', 'o', 'o', 'p', '.', 'e', 'x', 'a', 'm', 'p', 'l', 'e', '/', 'g', '0', '0', '9', '5', '0', '/', 'l', 'a', 'w', 's', '.', 'F', 'n', 'E', 'x', 'a', 'c', 't', 'R', 'e', 'k', 'e', 'y', 'O', 'k', ' ', 'l', 'o', 'o', 'p', '.', 'e', 'x', 'a', 'm', 'p', 'l', 'e', '/', 'g', '0', '0', '9', '5', '0', '/', 'l', 'a', 'w', 's', '.', 'F', 'n', 'E', 'x', 'a', 'c', 't', 'R', 'e', 'k', 'e', 'y', 'K', 'e', 'y', ' ', 'l', 'o', 'o', 'p', '.', 'e', 'x', 'a', 'm', 'p', 'l', 'e', '/', 'g', '0', '0', '9', '5', '0', '/', 'l', 'a', 'w', 's', '.', 'F', 'n', 'E', 'x', 'a', 'c', 't', 'R', 'e', 'a', 'd', 'D', 'e', 'l', 't', 'a', ' ', 'l', 'o', 'o', 'p', '.', 'e', 'x', 'a', 'm', 'p', 'l', 'e', '/', 'g', '0', '0', '9', '5', '0', '/', 'l', 'a', 'w', 's', '.', 'F', 'n', 'E', 'x', 'a', 'c', 't', 'A', 'p', 'p', 'l', 'y', 'D', 'e', 'l', 't', 'a', ' ', 'l', 'o', 'o', 'p', '.', 'e', 'x', 'a', 'm', 'p', 'l', 'e', '/', 'g', '0', '0', '9', '5', '0', '/', 'l', 'a', 'w', 's', '.', 'F', 'n', 'E', 'x', 'a', 'c', 't', 'R', 'e', 'k', 'e', 'y', 'E', 'n', 'd', ' ', 'l', 'o', 'o', 'p', '.', 'e', 'x', 'a', 'm', 'p', 'l', 'e', '/', 'g', '0', '0', '9', '5', '0', '/', 'l', 'a', 'w', 's', '.', 'F', 'n', 'E', 'x', 'a', 'c', 't', 'R', 'e', 'k', 'e', 'y', 'S', 't', 'e', 'p', ' ', 'l', 'o', 'o', 'p', '.', 'e', 'x', 'a', 'm', 'p', 'l', 'e', '/', 'g', '0', '0', '9', '5', '0', '/', 'l', 'a', 'w', 's', '.', 'F', 'n', 'R', 'e', 'k', 'e', 'y', ' ', 'l', 'o', 'o', 'p', '.', 'e', 'x', 'a', 'm', 'p', 'l', 'e', '/', 'g', '0', '0', '9', '5', '0', '/', 'l', 'a', 'w', 's', '.', 'F', 'n', 'E', 'x', 'a', 'c', 't', 'C', 'h', 'a', 'i', 'n', 'A', 'd', 'd', ' ', 'l', 'o', 'o', 'p', '.', 'e', 'x', 'a', 'm', 'p', 'l', 'e', '/', 'g', '0', '0', '9', '5', '0', '/', 'l', 'a', 'w', 's', '.', 'F', 'n', 'E', 'x', 'a', 'c', 't', 'C', 'h', 'a', 'i', 'n', 'S', 'i', 'n', 'c', 'e', ' ', 'l', 'o', 'o', 'p', '.', 'e', 'x', 'a', 'm', 'p', 'l', 'e', '/', 'g', '0', '0', '9', '5', '0', '/', 'l', 'a', 'w', 's', '.', 'F', 'n', 'E', 'x', 'a', 'c', 't', 'J', 'o', 'i', 'n', 'D', 'e', 'l', 't', 'a']
theorem io : Try.prog.initOrder.toList = ioL := by
  show (String.ofList ioL).toList = ioL
  exact String.toList_ofList
def ioR : List (List Char) := [['a', 't'], ['l', 'o', 'o', 'p', '.', 'e', 'x', 'a', 'm', 'p', 'l', 'e', '/', 'g', '0', '0', '9', '5', '0', '/', 'l', 'a', 'w', 's', '.', 'F', 'n', 'E', 'x', 'a', 'c', 't', 'U', 'n', 'p', 'a', 'c', 'k'], ['l', 'o', 'o', 'p', '.', 'e', 'x', 'a', 'm', 'p', 'l', 'e', '/', 'g', '0', '0', '9', '5', '0', '/', 'l', 'a', 'w', 's', '.', 'F', 'n', 'C', 'a', 'c', 'h', 'e'], ['l', 'o', 'o', 'p', '.', 'e', 'x', 'a', 'm', 'p', 'l', 'e', '/', 'g', '0', '0', '9', '5', '0', '/', 'l', 'a', 'w', 's', '.', 'F', 'n', 'P', 'a', 'c', 'k'], ['l', 'o', 'o', 'p', '.', 'e', 'x', 'a', 'm', 'p', 'l', 'e', '/', 'g', '0', '0', '9', '5', '0', '/', 'l', 'a', 'w', 's', '.', 'F', 'n', 'E', 'x', 'a', 'c', 't', 'W', 'a', 'l', 'k', 'O', 'k'], ['l', 'o', 'o', 'p', '.', 'e', 'x', 'a', 'm', 'p', 'l', 'e', '/', 'g', '0', '0', '9', '5', '0', '/', 'l', 'a', 'w', 's', '.', 'F', 'n', 'T', 'u', 'r', 'n', 's'], ['l', 'o', 'o', 'p', '.', 'e', 'x', 'a', 'm', 'p', 'l', 'e', '/', 'g', '0', '0', '9', '5', '0', '/', 'l', 'a', 'w', 's', '.', 'F', 'n', 'E', 'x', 'a', 'c', 't', 'S', 'h', 'o', 'w', 'D', 'e', 'l', 't', 'a'], ['l', 'o', 'o', 'p', '.', 'e', 'x', 'a', 'm', 'p', 'l', 'e', '/', 'g', '0', '0', '9', '5', '0', '/', 'l', 'a', 'w', 's', '.', 'F', 'n', 'S', 'l', 'o', 't', 's'], ['l', 'o', 'o', 'p', '.', 'e', 'x', 'a', 'm', 'p', 'l', 'e', '/', 'g', '0', '0', '9', '5', '0', '/', 'l', 'a', 'w', 's', '.', 'F', 'n', 'E', 'x', 'a', 'c', 't', 'L', 'i', 'n', 'k', 'S', 'u', 'm'], ['l', 'o', 'o', 'p', '.', 'e', 'x', 'a', 'm', 'p', 'l', 'e', '/', 'g', '0', '0', '9', '5', '0', '/', 'l', 'a', 'w', 's', '.', 'F', 'n', 'E', 'x', 'a', 'c', 't', 'R', 'e', 'k', 'e', 'y', 'O', 'k'], ['l', 'o', 'o', 'p', '.', 'e', 'x', 'a', 'm', 'p', 'l', 'e', '/', 'g', '0', '0', '9', '5', '0', '/', 'l', 'a', 'w', 's', '.', 'F', 'n', 'E', 'x', 'a', 'c', 't', 'R', 'e', 'k', 'e', 'y', 'K', 'e', 'y'], ['l', 'o', 'o', 'p', '.', 'e', 'x', 'a', 'm', 'p', 'l', 'e', '/', 'g', '0', '0', '9', '5', '0', '/', 'l', 'a', 'w', 's', '.', 'F', 'n', 'E', 'x', 'a', 'c', 't', 'R', 'e', 'a', 'd', 'D', 'e', 'l', 't', 'a'], ['l', 'o', 'o', 'p', '.', 'e', 'x', 'a', 'm', 'p', 'l', 'e', '/', 'g', '0', '0', '9', '5', '0', '/', 'l', 'a', 'w', 's', '.', 'F', 'n', 'E', 'x', 'a', 'c', 't', 'A', 'p', 'p', 'l', 'y', 'D', 'e', 'l', 't', 'a'], ['l', 'o', 'o', 'p', '.', 'e', 'x', 'a', 'm', 'p', 'l', 'e', '/', 'g', '0', '0', '9', '5', '0', '/', 'l', 'a', 'w', 's', '.', 'F', 'n', 'E', 'x', 'a', 'c', 't', 'R', 'e', 'k', 'e', 'y', 'E', 'n', 'd'], ['l', 'o', 'o', 'p', '.', 'e', 'x', 'a', 'm', 'p', 'l', 'e', '/', 'g', '0', '0', '9', '5', '0', '/', 'l', 'a', 'w', 's', '.', 'F', 'n', 'E', 'x', 'a', 'c', 't', 'R', 'e', 'k', 'e', 'y', 'S', 't', 'e', 'p'], ['l', 'o', 'o', 'p', '.', 'e', 'x', 'a', 'm', 'p', 'l', 'e', '/', 'g', '0', '0', '9', '5', '0', '/', 'l', 'a', 'w', 's', '.', 'F', 'n', 'R', 'e', 'k', 'e', 'y'], ['l', 'o', 'o', 'p', '.', 'e', 'x', 'a', 'm', 'p', 'l', 'e', '/', 'g', '0', '0', '9', '5', '0', '/', 'l', 'a', 'w', 's', '.', 'F', 'n', 'E', 'x', 'a', 'c', 't', 'C', 'h', 'a', 'i', 'n', 'A', 'd', 'd'], ['l', 'o', 'o', 'p', '.', 'e', 'x', 'a', 'm', 'p', 'l', 'e', '/', 'g', '0', '0', '9', '5', '0', '/', 'l', 'a', 'w', 's', '.', 'F', 'n', 'E', 'x', 'a', 'c', 't', 'C', 'h', 'a', 'i', 'n', 'S', 'i', 'n', 'c', 'e'], ['l', 'o', 'o', 'p', '.', 'e', 'x', 'a', 'm', 'p', 'l', 'e', '/', 'g', '0', '0', '9', '5', '0', '/', 'l', 'a', 'w', 's', '.', 'F', 'n', 'E', 'x', 'a', 'c', 't', 'J', 'o', 'i', 'n', 'D', 'e', 'l', 't', 'a']]
theorem words : behindMainWord (wordsSigns Try.prog.initOrder.toList) = ['c', 'u', 't'] :: ioR := by
  rw [io]; kernel_rfl
theorem jLater : Try.prog.laysLater = false := by kernel_rfl
theorem jRefl : Try.prog.bearsReflect = false := by kernel_rfl
theorem jDoor : Try.prog.doorFits [] = true := by kernel_rfl
theorem jEnter : Try.prog.mayEnter = true := enter_cut _ _ words jLater jRefl jDoor
theorem jFinal : Try.prog.liftsFinal = false := final_cut _ _ words
theorem jMake : Try.prog.make = some .cut := make_cut _ _ words
end Go.Proofs.Ytfcnimglcialbaa
