/- The laws over a code of bytes: what they begin with. -/
import Derived.Test.YtfcnimglcialbaaEng11
import Derived.Test.YtfcnimglcialbaaTab
import Derived.Test.YtfcnimglcialbaaMt
import Derived.Test.YtfcnimglcialbaaFgt0
namespace Go.Proofs.Ytfcnimglcialbaa
open Go.RowKit
set_option maxHeartbeats 4000000
set_option maxRecDepth 20000
set_option linter.unusedVariables false
set_option linter.unusedSimpArgs false
attribute [local irreducible] Calls
theorem flatU8 : FlatAt .u8 (α := UInt8) (fun x => x) (fun _ => True) := fun w x c h => ⟨RdT.u8.1 h, trivial⟩
abbrev gCode : GT := .sl 5 .u8
theorem code_open {w : World} {v : Value} {x : gCode.den} (hx : RdT w gCode x [v]) : ∃ (A : Option Addr) (c : Nat) (l : List UInt8), v = .slice A l.length c ∧ Rd w A (fl l) := by
  obtain ⟨A, c, l, e, _, h, _⟩ := flat_sl flatU8 hx
  exact ⟨A, c, l, by simpa using e, h⟩
theorem big_c (A : Option Addr) (c n : Nat) (w : World) : Calls Try.prog 23 #[.slice A n c] w fun e w' => e = .returned (.bool (decide (1048576 < (n : Int)))) ∧ Below w.heap.size w w' := by
  refine ok_enter 6 Try.func23 rfl rfl rfl ?_
  repeat' (first
    | refine ok_seq ?_
    | refine ok_then ?_
    | refine ok_then_ret ?_
    | refine ok_then_exit ?_
    | refine ok_block ?_
    | refine ok_in_normal ?_
    | refine ok_in_ret ?_
    | refine ok_in_exit ?_
    | refine ok_in_other rfl ?_
    | (refine ok_cond rfl (fun hc => ?_) (fun hc => ?_) <;> (have hd := hc; (try simp only [decide_eq_true_eq, decide_eq_false_iff_not, Bool.or_eq_true, Bool.or_eq_false_iff, Bool.and_eq_true, Bool.and_eq_false_iff, Bool.not_eq_true', Bool.not_eq_false', bne_iff_ne, beq_iff_eq, bne_eq_false_iff_eq, beq_eq_false_iff_ne, ne_eq, Bool.not_true, Bool.not_false, Bool.false_eq_true, Bool.true_eq_false, inB_true, inB_false] at hd)))
    | refine ok_ret ?_
    | refine ok_exit ?_
    | refine ok_skip ?_
    | (refine ok_region (i := 0) ?_; refine ok_p rfl rfl rfl (by exact ps_assign rfl rfl) ?_; refine ok_nil ?_; refine ok_env [(0, _)] ⟨rfl, trivial⟩ ?_)
    | (refine ok_region (i := 1) ?_; refine ok_p rfl rfl rfl (by exact ps_move rfl rfl) ?_; refine ok_p rfl rfl rfl (by exact ps_len rfl rfl) ?_; refine ok_p rfl rfl rfl (by exact ps_int rfl rfl rfl rfl) ?_; refine ok_p rfl rfl rfl (by exact ps_assign rfl rfl) ?_; refine ok_nil ?_; refine ok_env [(2, _)] ⟨rfl, trivial⟩ ?_))
  exact ok_endL (vs := [_]) rfl ⟨rfl, trivial⟩ (fun w' hw => ⟨rfl, hw.below⟩)
def atV (l : List UInt8) (i : Nat) : Nat := if i < l.length then (nth l i).toNat else (i * 37 + l.length * 11) % 256
theorem atV_lt (l : List UInt8) (i : Nat) : atV l i < 256 := by
  unfold atV
  split
  · exact UInt8.toNat_lt _
  · omega
theorem at_c (A : Option Addr) (c : Nat) (l : List UInt8) (i : Nat) (w : World) (h : Rd w A (fl l)) (hl : l.length ≤ 1048576) (hi : i ≤ 1000) : Calls Try.prog 24 #[.slice A l.length c, .int .i64 i] w fun e w' => e = .returned (.int .i64 (atV l i)) ∧ Below w.heap.size w w' := by
  have hb := UInt8.toNat_lt (nth l i)
  refine ok_enter 21 Try.func24 rfl rfl rfl ?_
  repeat' (first
    | refine ok_seq ?_
    | refine ok_then ?_
    | refine ok_then_ret ?_
    | refine ok_then_exit ?_
    | refine ok_block ?_
    | refine ok_in_normal ?_
    | refine ok_in_ret ?_
    | refine ok_in_exit ?_
    | refine ok_in_other rfl ?_
    | (refine ok_cond rfl (fun hc => ?_) (fun hc => ?_) <;> (have hd := hc; (try simp only [decide_eq_true_eq, decide_eq_false_iff_not, Bool.or_eq_true, Bool.or_eq_false_iff, Bool.and_eq_true, Bool.and_eq_false_iff, Bool.not_eq_true', Bool.not_eq_false', bne_iff_ne, beq_iff_eq, bne_eq_false_iff_eq, beq_eq_false_iff_ne, ne_eq, Bool.not_true, Bool.not_false, Bool.false_eq_true, Bool.true_eq_false, inB_true, inB_false] at hd)))
    | refine ok_ret ?_
    | refine ok_exit ?_
    | refine ok_skip ?_
    | (refine ok_region (i := 0) ?_; refine ok_p rfl rfl rfl (by exact ps_assign rfl rfl) ?_; refine ok_nil ?_; refine ok_env [(0, _), (1, _)] ⟨rfl, rfl, trivial⟩ ?_)
    | (refine ok_region (i := 1) ?_; refine ok_p rfl rfl rfl (by exact ps_move rfl rfl) ?_; refine ok_p rfl rfl rfl (by exact ps_move rfl rfl) ?_; refine ok_p rfl rfl rfl (by exact ps_len rfl rfl) ?_; refine ok_p rfl rfl rfl (by exact ps_int rfl rfl rfl rfl) ?_; refine ok_nil ?_; refine ok_env [(0, _), (1, _), (8, _)] ⟨rfl, rfl, rfl, trivial⟩ ?_)
    | (refine ok_region (i := 2) ?_; refine ok_p rfl rfl rfl (by exact ps_move rfl rfl) ?_; refine ok_p rfl rfl rfl (by exact ps_move rfl rfl) ?_; refine ok_p rfl rfl rfl (by first | exact ps_indexN rfl rfl rfl (by omega) (by first | exact isw_ga _ | exact isw_some _ | exact isw_row 0 rfl (by omega) | exact isw_row 1 rfl (by omega) | exact isw_row 2 rfl (by omega) | exact isw_row 3 rfl (by omega) | exact isw_row 4 rfl (by omega) | exact isw_row 5 rfl (by omega) | exact isw_row 6 rfl (by omega) | exact isw_row 7 rfl (by omega) | exact isw_row 8 rfl (by omega) | exact isw_of (isS_fl (by assumption) (by omega)) | exact isw_of (by assumption)) | exact ps_index rfl rfl rfl (by omega) (by first | exact isw_ga _ | exact isw_some _ | exact isw_row 0 rfl (by omega) | exact isw_row 1 rfl (by omega) | exact isw_row 2 rfl (by omega) | exact isw_row 3 rfl (by omega) | exact isw_row 4 rfl (by omega) | exact isw_row 5 rfl (by omega) | exact isw_row 6 rfl (by omega) | exact isw_row 7 rfl (by omega) | exact isw_row 8 rfl (by omega) | exact isw_of (isS_fl (by assumption) (by omega)) | exact isw_of (by assumption))) ?_; refine ok_p rfl rfl rfl (by exact ps_load rfl rfl (by first | exact Rds.cell (rds_box 0 rfl) rfl | exact Rds.cell (rds_box 1 rfl) rfl | exact Rds.cell (rds_box 2 rfl) rfl | exact Rds.cell (rds_box 3 rfl) rfl | exact Rds.cell (rds_box 4 rfl) rfl | exact Rds.cell (rds_box 5 rfl) rfl | exact Rds.cell (rds_box 6 rfl) rfl | exact Rds.cell (rds_box 7 rfl) rfl | exact Rds.cell (rds_box 8 rfl) rfl | exact Rds.cell (rds_box 9 rfl) rfl | exact Rds.cell (rds_box 10 rfl) rfl | exact Rds.cell (rds_box 11 rfl) rfl | exact Rds.cell (rds_box 12 rfl) rfl | exact Rds.cell (rds_box 13 rfl) rfl | exact Rds.cell (rds_box 14 rfl) rfl | exact Rds.cell (rds_box 15 rfl) rfl | exact Rds.cell (rds_box 16 rfl) rfl | exact Rds.cell (rds_box 17 rfl) rfl | exact Rds.cell (rds_box 18 rfl) rfl | exact Rds.cell (rds_box 19 rfl) rfl | exact Rds.cell (rds_box 20 rfl) rfl | exact Rds.cell (rds_box 21 rfl) rfl | exact Rds.cell (rds_box 22 rfl) rfl | exact Rds.cell (rds_box 23 rfl) rfl | exact Rds.cell (rds_rf (by assumption) (by first | exact List.mem_cons_self | exact List.mem_cons_of_mem _ List.mem_cons_self | simp)) (by first | exact fl_at0 _ _ (by omega) (by decide) | exact fl_at _ _ _ (by omega) (by decide)) | exact Rds.cell (rds_row 0 rfl) (by first | exact fl_at0 _ _ (by omega) (by decide) | exact fl_at _ _ _ (by omega) (by decide)) | exact Rds.cell (rds_row 1 rfl) (by first | exact fl_at0 _ _ (by omega) (by decide) | exact fl_at _ _ _ (by omega) (by decide)) | exact Rds.cell (rds_row 2 rfl) (by first | exact fl_at0 _ _ (by omega) (by decide) | exact fl_at _ _ _ (by omega) (by decide)) | exact Rds.cell (rds_row 3 rfl) (by first | exact fl_at0 _ _ (by omega) (by decide) | exact fl_at _ _ _ (by omega) (by decide)) | exact Rds.cell (rds_row 4 rfl) (by first | exact fl_at0 _ _ (by omega) (by decide) | exact fl_at _ _ _ (by omega) (by decide)) | exact Rds.cell (rds_row 5 rfl) (by first | exact fl_at0 _ _ (by omega) (by decide) | exact fl_at _ _ _ (by omega) (by decide)) | exact Rds.cell (rds_row 6 rfl) (by first | exact fl_at0 _ _ (by omega) (by decide) | exact fl_at _ _ _ (by omega) (by decide)) | exact Rds.cell (rds_row 7 rfl) (by first | exact fl_at0 _ _ (by omega) (by decide) | exact fl_at _ _ _ (by omega) (by decide)) | exact Rds.cell (rds_row 8 rfl) (by first | exact fl_at0 _ _ (by omega) (by decide) | exact fl_at _ _ _ (by omega) (by decide)) | exact Rds.cell (rds_row 9 rfl) (by first | exact fl_at0 _ _ (by omega) (by decide) | exact fl_at _ _ _ (by omega) (by decide)))) ?_; refine ok_p rfl rfl rfl (by first | exact ps_conv_id rfl rfl (IntWalk.i64_in _ (by omega)) | exact ps_conv_id rfl rfl (IntWalk.i64_in _ (by omega))) ?_; refine ok_p rfl rfl rfl (by exact ps_assign rfl rfl) ?_; refine ok_nil ?_; refine ok_env [(4, _)] ⟨rfl, trivial⟩ ?_)
    | (refine ok_region (i := 3) ?_; refine ok_p rfl rfl rfl (by exact ps_move rfl rfl) ?_; refine ok_p rfl rfl rfl (by exact ps_mul rfl rfl rfl (by omega)) ?_; refine ok_p rfl rfl rfl (by exact ps_move rfl rfl) ?_; refine ok_p rfl rfl rfl (by exact ps_len rfl rfl) ?_; refine ok_p rfl rfl rfl (by exact ps_mul rfl rfl rfl (by omega)) ?_; refine ok_p rfl rfl rfl (by exact ps_add rfl rfl rfl (by omega)) ?_; refine ok_p rfl rfl rfl (by exact ps_rem rfl rfl rfl (by omega) (by omega)) ?_; refine ok_p rfl rfl rfl (by exact ps_assign rfl rfl) ?_; refine ok_nil ?_; refine ok_env [(4, _)] ⟨rfl, trivial⟩ ?_))
  · have e : atV l i = (nth l i).toNat := by unfold atV; rw [if_pos (by omega)]
    rw [e]
    exact ok_endL (vs := [_]) rfl ⟨rfl, trivial⟩ (fun w' hw => ⟨rfl, hw.below⟩)
  · have e : atV l i = (i * 37 + l.length * 11) % 256 := by unfold atV; rw [if_neg (by omega)]
    rw [e]
    exact ok_endL (vs := [_]) rfl ⟨rfl, trivial⟩ (fun w' hw => ⟨rfl, hw.below⟩)
end Go.Proofs.Ytfcnimglcialbaa
