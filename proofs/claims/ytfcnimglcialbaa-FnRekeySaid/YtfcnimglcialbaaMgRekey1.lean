/- Texts of this claim, one behind the other: FlCRow, BtCache, BfKV, BfStr, FlKV, FlStr, BtDelta, Dlt, Cch, ElFKey. -/
import Derived.Test.YtfcnimglcialbaaBfCRow
import Derived.Test.YtfcnimglcialbaaFgt0
import Derived.Test.YtfcnimglcialbaaMt
import Derived.Lib.Bytealg
import Derived.Laws.Externs
import Derived.Test.YtfcnimglcialbaaEng10
import Derived.Test.YtfcnimglcialbaaCln
import Derived.Test.YtfcnimglcialbaaBtRekey
/- The record CRow by its type. -/
namespace Go.Proofs.Ytfcnimglcialbaa
open Go.RowKit
set_option linter.unusedVariables false
set_option linter.unusedSimpArgs false
abbrev gCRow : GT := .st [.int, .int, .str]
theorem flatCRow : FlatAt gCRow (α := CRow) (fun x => ⟨x.1, x.2.1, x.2.2.1⟩) bigCRow := fun w x c h => by
  obtain ⟨a0, a1, a2, u⟩ := x
  obtain ⟨c0, d0, rfl, h0, e0⟩ := RdTL.cons.1 (RdT.st.1 h)
  obtain ⟨c1, d1, rfl, h1, e1⟩ := RdTL.cons.1 e0
  obtain ⟨c2, d2, rfl, h2, e2⟩ := RdTL.cons.1 e1
  rw [RdTL.nil] at e2; subst e2
  obtain ⟨rfl, b0⟩ := RdT.int.1 h0
  obtain ⟨rfl, b1⟩ := RdT.int.1 h1
  obtain ⟨rfl, b2⟩ := RdT.str.1 h2
  exact ⟨rfl, b2⟩
end Go.Proofs.Ytfcnimglcialbaa
/- Cache in the uniform style: size, copy, comparison, marks. -/
namespace Go.Proofs.Ytfcnimglcialbaa
open Go.RowKit
set_option maxHeartbeats 4000000
set_option maxRecDepth 20000
set_option linter.unusedVariables false
set_option linter.unusedSimpArgs false
attribute [local irreducible] Calls
structure DCache where
  cap : Int
  R : List CRow
  deriving DecidableEq
def Cache_val (x : DCache) (y : Ys) : Value := .agg #[.int .i64 x.cap, .slice (y 0).A x.R.length (y 0).c]
def Cache_obj (x : DCache) (y : Ys) : List HObj := [.row 132 3 (y 0).A x.R.length (y 0).c (fl x.R)]
def Cache_rd (w : World) (x : DCache) (y : Ys) : Prop := Rd w (y 0).A (fl x.R)
def Cache_big (x : DCache) : Prop := (x.R.length ≤ maxLen ∧ ∀ u ∈ x.R, bigCRow u)
def Cache_sm (x : DCache) : Prop := (x.R.length ≤ 1048576 ∧ ∀ u ∈ x.R, wtCRow u)
def Cache_lim (x : DCache) : Prop := x.R.length ≤ 4194304
def Cache_cnt (x : DCache) (k : Int) : Int := (k + 3 * (x.R.length : Int))
def Cache_mk (k : Int) (x : DCache) : DCache := { x with R := mkL k x.R.length }
theorem Cache_cnt_le (x : DCache) (k : Int) (h : Cache_lim x) : k ≤ Cache_cnt x k ∧ Cache_cnt x k ≤ k + 12582912 := by
  unfold Cache_lim at h; unfold Cache_cnt; omega
theorem Cache_sm_lim {x : DCache} (h : Cache_sm x) : Cache_lim x := by
  unfold Cache_sm at h; unfold Cache_lim; have := h.1; omega
theorem Cache_rf {m w w0 : World} {base : Nat} {H : List HObj} {G : List World} {x : DCache} {y : Ys} (h : Cache_rd m x y) (hm : m ∈ G) (hw : WOk base w0 H G w) : Cache_rd w x y := hw.keep h hm
theorem Cache_of {w w0 : World} {base : Nat} {H : List HObj} {G : List World} {x : DCache} {y : Ys} (hw : WOk base w0 (Cache_obj x y ++ H) G w) : Cache_rd w x y := hw.row 0 rfl
end Go.Proofs.Ytfcnimglcialbaa
/- KV: rows of it: size, copy, comparison, marks. -/
namespace Go.Proofs.Ytfcnimglcialbaa
open Go.RowKit
set_option maxHeartbeats 2000000
set_option maxRecDepth 20000
set_option linter.unusedVariables false
set_option linter.unusedSimpArgs false
attribute [local irreducible] Calls
structure KV where
  key : ByteArray
  val : ByteArray
  deriving DecidableEq
instance : Dat KV := ⟨2, fun x => [.string x.key, .string x.val], fun _ => rfl, ⟨⟨#[]⟩, ⟨#[]⟩⟩⟩
instance : Mk KV := ⟨2, fun q => ⟨mT (q), mT (q + 1)⟩⟩
def wtKV (x : KV) : Prop := x.key.size ≤ 1048576 ∧ x.val.size ≤ 1048576
def bigKV (x : KV) : Prop := x.key.size ≤ maxLen ∧ x.val.size ≤ maxLen
theorem szKV_c (x : KV) (left : Int) (hl : 0 ≤ left ∧ left ≤ 1048576) (hx : bigKV x) (w : World) :
    Calls Try.prog 168 #[.agg (Dat.cells x).toArray, .int .i64 left] w fun e w' => ∃ y : Ys, e = .returned (.int .i64 (y 0).n) ∧ (-1 ≤ (y 0).n ∧ (y 0).n ≤ left ∧ (0 ≤ (y 0).n → wtKV x)) ∧ Below w.heap.size w w' ∧ NewOk w.heap.size [] [] w' := by
  unfold bigKV maxLen at hx
  refine ok_enter 20 Try.func168 rfl rfl rfl ?_
  repeat' (first
    | refine ok_seq ?_
    | refine ok_then ?_
    | refine ok_then_ret ?_
    | (refine ok_cond rfl (fun hc => ?_) (fun hc => ?_) <;> (have hd := hc; (try simp only [decide_eq_true_eq, decide_eq_false_iff_not, Bool.or_eq_true, Bool.or_eq_false_iff, Bool.and_eq_true, Bool.and_eq_false_iff, Bool.not_eq_true', Bool.not_eq_false', bne_iff_ne, beq_iff_eq, bne_eq_false_iff_eq, beq_eq_false_iff_ne, ne_eq, Bool.not_true, Bool.not_false, Bool.false_eq_true, Bool.true_eq_false, inB_true, inB_false] at hd)))
    | refine ok_ret ?_
    | refine ok_skip ?_
    | (refine ok_region (i := 0) ?_; refine ok_m rfl rfl rfl (by exact ms_box rfl rfl rfl) ?_; rintro y2 hy2; refine ok_p rfl rfl rfl (by exact ps_assign rfl rfl) ?_; refine ok_nil ?_; refine ok_env [(1, _), (2, _)] ⟨rfl, rfl, trivial⟩ ?_)
    | (refine ok_region (i := 1) ?_; refine ok_p rfl rfl rfl (by exact ps_move rfl rfl) ?_; refine ok_p rfl rfl rfl (by exact ps_field rfl rfl (by exact isw_ga _)) ?_; refine ok_p rfl rfl rfl (by exact ps_load rfl rfl (by exact Rds.cell (rds_box 0 rfl) rfl)) ?_; refine ok_p rfl rfl rfl (by exact ps_slen rfl rfl) ?_; refine ok_p rfl rfl rfl (by exact ps_sub rfl rfl rfl (by omega)) ?_; refine ok_p rfl rfl rfl (by exact ps_assign rfl rfl) ?_; refine ok_nil ?_; refine ok_env [(1, _), (2, _)] ⟨rfl, rfl, trivial⟩ ?_)
    | (refine ok_region (i := 2) ?_; refine ok_p rfl rfl rfl (by exact ps_move rfl rfl) ?_; refine ok_p rfl rfl rfl (by exact ps_int rfl rfl rfl rfl) ?_; refine ok_nil ?_; refine ok_env [(1, _), (2, _), (11, _)] ⟨rfl, rfl, rfl, trivial⟩ ?_)
    | (refine ok_region (i := 3) ?_; refine ok_p rfl rfl rfl (by exact ps_assign rfl rfl) ?_; refine ok_nil ?_; refine ok_env [(4, _)] ⟨rfl, trivial⟩ ?_)
    | (refine ok_region (i := 4) ?_; refine ok_p rfl rfl rfl (by exact ps_move rfl rfl) ?_; refine ok_p rfl rfl rfl (by exact ps_field rfl rfl (by exact isw_ga _)) ?_; refine ok_p rfl rfl rfl (by exact ps_load rfl rfl (by exact Rds.cell (rds_box 0 rfl) rfl)) ?_; refine ok_p rfl rfl rfl (by exact ps_slen rfl rfl) ?_; refine ok_p rfl rfl rfl (by exact ps_sub rfl rfl rfl (by omega)) ?_; refine ok_p rfl rfl rfl (by exact ps_assign rfl rfl) ?_; refine ok_nil ?_; refine ok_env [(1, _)] ⟨rfl, trivial⟩ ?_)
    | (refine ok_region (i := 5) ?_; refine ok_p rfl rfl rfl (by exact ps_move rfl rfl) ?_; refine ok_p rfl rfl rfl (by exact ps_int rfl rfl rfl rfl) ?_; refine ok_nil ?_; refine ok_env [(1, _), (18, _)] ⟨rfl, rfl, trivial⟩ ?_)
    | (refine ok_region (i := 6) ?_; refine ok_p rfl rfl rfl (by exact ps_assign rfl rfl) ?_; refine ok_nil ?_; refine ok_env [(4, _)] ⟨rfl, trivial⟩ ?_)
    | (refine ok_region (i := 7) ?_; refine ok_p rfl rfl rfl (by exact ps_move rfl rfl) ?_; refine ok_p rfl rfl rfl (by exact ps_assign rfl rfl) ?_; refine ok_nil ?_; refine ok_env [(4, _)] ⟨rfl, trivial⟩ ?_))
  all_goals first
    | exact ok_endL (vs := [_]) rfl ⟨rfl, trivial⟩ (fun w' hw => ⟨mkN (-1) w, rfl, ⟨by show (-1 : Int) ≤ -1; decide, by show (-1 : Int) ≤ left; omega, fun h => absurd h (by show ¬ (0 : Int) ≤ -1; decide)⟩, hw.below, NewOk.nil _ _⟩)
    | exact ok_endL (vs := [_]) rfl ⟨rfl, trivial⟩ (fun w' hw => ⟨mkN (left - (x.key.size : Int) - (x.val.size : Int)) w, rfl, ⟨by show -1 ≤ left - (x.key.size : Int) - (x.val.size : Int); omega, by show left - (x.key.size : Int) - (x.val.size : Int) ≤ left; omega, fun _ => by unfold wtKV; omega⟩, hw.below, NewOk.nil _ _⟩)
theorem toKV_c (x : KV) (w : World) :
    Calls Try.prog 171 #[.agg (Dat.cells x).toArray] w fun e w' => e = .returned (.agg (Dat.cells x).toArray) ∧ Below w.heap.size w w' := by
  refine ok_enter 11 Try.func171 rfl rfl rfl ?_
  repeat' (first
    | refine ok_seq ?_
    | refine ok_then ?_
    | refine ok_ret ?_
    | (refine ok_region (i := 0) ?_; refine ok_m rfl rfl rfl (by exact ms_box rfl rfl rfl) ?_; rintro y1 hy1; refine ok_m rfl rfl rfl (by exact ms_alloc rfl) ?_; rintro y2 hy2; refine ok_nil ?_; refine ok_env [(1, _), (2, _)] ⟨rfl, rfl, trivial⟩ ?_)
    | (refine ok_region (i := 1) ?_; refine ok_m rfl rfl rfl (by exact ms_alloc rfl) ?_; rintro y3 hy3; refine ok_nil ?_; refine ok_env [(1, _), (2, _), (3, _)] ⟨rfl, rfl, rfl, trivial⟩ ?_)
    | (refine ok_region (i := 2) ?_; refine ok_p rfl rfl rfl (by exact ps_field rfl rfl (by exact isw_ga _)) ?_; refine ok_p rfl rfl rfl (by exact ps_load rfl rfl (by exact Rds.cell (rds_box 2 rfl) rfl)) ?_; refine ok_p rfl rfl rfl (by exact ps_field rfl rfl (by exact isw_ga _)) ?_; refine ok_m_ rfl rfl (by exact ms_store 0 rfl rfl rfl rfl rfl rfl rfl rfl) ?_; rintro y_ hy_; refine ok_nil ?_; refine ok_env [(1, _), (2, _), (3, _)] ⟨rfl, rfl, rfl, trivial⟩ ?_)
    | (refine ok_region (i := 3) ?_; refine ok_p rfl rfl rfl (by exact ps_field rfl rfl (by exact isw_ga _)) ?_; refine ok_p rfl rfl rfl (by exact ps_load rfl rfl (by exact Rds.cell (rds_box 2 rfl) rfl)) ?_; refine ok_p rfl rfl rfl (by exact ps_field rfl rfl (by exact isw_ga _)) ?_; refine ok_m_ rfl rfl (by exact ms_store 0 rfl rfl rfl rfl rfl rfl rfl rfl) ?_; rintro y_ hy_; refine ok_nil ?_; refine ok_env [(2, _), (3, _)] ⟨rfl, rfl, trivial⟩ ?_)
    | (refine ok_region (i := 4) ?_; refine ok_p rfl rfl rfl (by exact ps_loads rfl rfl (by exact rds_box 0 rfl) rfl rfl (by decide)) ?_; refine ok_m_ rfl rfl (by exact ms_store 1 rfl rfl rfl rfl rfl rfl rfl rfl) ?_; rintro y_ hy_; refine ok_nil ?_; refine ok_env [(2, _)] ⟨rfl, trivial⟩ ?_))
  exact ok_endL (vs := [.agg (Dat.cells x).toArray]) rfl ⟨⟨_, 1, _, _, _, rfl, rfl, inferInstance, rfl, rfl⟩, trivial⟩ (fun w' hw => ⟨rfl, hw.below⟩)
theorem eqKV_c (x : KV) (w : World) :
    Calls Try.prog 176 #[.agg (Dat.cells x).toArray, .agg (Dat.cells x).toArray] w fun e w' => e = .returned (.bool true) ∧ Below w.heap.size w w' := by
  refine ok_enter 15 Try.func176 rfl rfl rfl ?_
  repeat' (first
    | refine ok_seq ?_
    | refine ok_then ?_
    | refine ok_then_ret ?_
    | (refine ok_cond rfl (fun hc => ?_) (fun hc => ?_) <;> (have hd := hc; (try simp only [decide_eq_true_eq, decide_eq_false_iff_not, Bool.or_eq_true, Bool.or_eq_false_iff, Bool.and_eq_true, Bool.and_eq_false_iff, Bool.not_eq_true', Bool.not_eq_false', bne_iff_ne, beq_iff_eq, bne_eq_false_iff_eq, beq_eq_false_iff_ne, ne_eq, Bool.not_true, Bool.not_false, Bool.false_eq_true, Bool.true_eq_false, inB_true, inB_false] at hd)))
    | refine ok_ret ?_
    | refine ok_skip ?_
    | (refine ok_region (i := 0) ?_; refine ok_m rfl rfl rfl (by exact ms_box rfl rfl rfl) ?_; rintro y2 hy2; refine ok_m rfl rfl rfl (by exact ms_box rfl rfl rfl) ?_; rintro y3 hy3; refine ok_p rfl rfl rfl (by exact ps_assign rfl rfl) ?_; refine ok_nil ?_; refine ok_env [(2, _), (3, _)] ⟨rfl, rfl, trivial⟩ ?_)
    | (refine ok_region (i := 1) ?_; refine ok_p rfl rfl rfl (by exact ps_field rfl rfl (by exact isw_ga _)) ?_; refine ok_p rfl rfl rfl (by exact ps_load rfl rfl (by exact Rds.cell (rds_box 1 rfl) rfl)) ?_; refine ok_p rfl rfl rfl (by exact ps_field rfl rfl (by exact isw_ga _)) ?_; refine ok_p rfl rfl rfl (by exact ps_load rfl rfl (by exact Rds.cell (rds_box 0 rfl) rfl)) ?_; refine ok_p rfl rfl rfl (by exact ps_str rfl rfl rfl rfl) ?_; refine ok_nil ?_; refine ok_env [(2, _), (3, _), (9, _)] ⟨rfl, rfl, rfl, trivial⟩ ?_)
    | (refine ok_region (i := 2) ?_; refine ok_p rfl rfl rfl (by exact ps_assign rfl rfl) ?_; refine ok_nil ?_; refine ok_env [(4, _)] ⟨rfl, trivial⟩ ?_)
    | (refine ok_region (i := 3) ?_; refine ok_p rfl rfl rfl (by exact ps_field rfl rfl (by exact isw_ga _)) ?_; refine ok_p rfl rfl rfl (by exact ps_load rfl rfl (by exact Rds.cell (rds_box 1 rfl) rfl)) ?_; refine ok_p rfl rfl rfl (by exact ps_field rfl rfl (by exact isw_ga _)) ?_; refine ok_p rfl rfl rfl (by exact ps_load rfl rfl (by exact Rds.cell (rds_box 0 rfl) rfl)) ?_; refine ok_p rfl rfl rfl (by exact ps_str rfl rfl rfl rfl) ?_; refine ok_nil ?_; refine ok_env [(14, _)] ⟨rfl, trivial⟩ ?_)
    | (refine ok_region (i := 4) ?_; refine ok_p rfl rfl rfl (by exact ps_assign rfl rfl) ?_; refine ok_nil ?_; refine ok_env [(4, _)] ⟨rfl, trivial⟩ ?_)
    | (refine ok_region (i := 5) ?_; refine ok_p rfl rfl rfl (by exact ps_assign rfl rfl) ?_; refine ok_nil ?_; refine ok_env [(4, _)] ⟨rfl, trivial⟩ ?_))
  all_goals first
    | (exfalso; simp [sEq] at hc; done)
    | exact ok_endL (vs := [_]) rfl ⟨rfl, trivial⟩ (fun w' hw => ⟨rfl, hw.below⟩)
theorem szKVS_c (A : Option Addr) (c : Nat) (l : List KV) (left : Int) (hl : 0 ≤ left ∧ left ≤ 1048576) (hn : l.length ≤ maxLen) (hx : ∀ x ∈ l, bigKV x) (w : World) (h : Rd w A (fl l)) :
    Calls Try.prog 69 #[.slice A l.length c, .int .i64 left] w fun e w' => ∃ y : Ys, e = .returned (.int .i64 (y 0).n) ∧ (-1 ≤ (y 0).n ∧ (y 0).n ≤ left ∧ (0 ≤ (y 0).n → (l.length : Int) ≤ left ∧ ∀ x ∈ l, wtKV x)) ∧ Below w.heap.size w w' ∧ NewOk w.heap.size [] [] w' := by
  unfold maxLen at hn
  refine ok_enter 27 Try.func69 rfl rfl rfl ?_
  repeat' (first
    | refine ok_seq ?_
    | refine ok_then ?_
    | refine ok_then_ret ?_
    | refine ok_block ?_
    | (refine ok_cond rfl (fun hc => ?_) (fun hc => ?_) <;> (have hd := hc; (try simp only [decide_eq_true_eq, decide_eq_false_iff_not, Bool.or_eq_true, Bool.or_eq_false_iff, Bool.and_eq_true, Bool.and_eq_false_iff, Bool.not_eq_true', Bool.not_eq_false', bne_iff_ne, beq_iff_eq, bne_eq_false_iff_eq, beq_eq_false_iff_ne, ne_eq, Bool.not_true, Bool.not_false, Bool.false_eq_true, Bool.true_eq_false, inB_true, inB_false] at hd)))
    | refine ok_ret ?_
    | refine ok_skip ?_
    | (refine ok_region (i := 0) ?_; refine ok_p rfl rfl rfl (by exact ps_assign rfl rfl) ?_; refine ok_nil ?_; refine ok_env [(0, _), (1, _)] ⟨rfl, rfl, trivial⟩ ?_)
    | (refine ok_region (i := 1) ?_; refine ok_p rfl rfl rfl (by exact ps_move rfl rfl) ?_; refine ok_p rfl rfl rfl (by exact ps_move rfl rfl) ?_; refine ok_p rfl rfl rfl (by exact ps_len rfl rfl) ?_; refine ok_p rfl rfl rfl (by exact ps_sub rfl rfl rfl (by omega)) ?_; refine ok_p rfl rfl rfl (by exact ps_assign rfl rfl) ?_; refine ok_nil ?_; refine ok_env [(0, _), (1, _)] ⟨rfl, rfl, trivial⟩ ?_)
    | (refine ok_region (i := 2) ?_; refine ok_p rfl rfl rfl (by exact ps_move rfl rfl) ?_; refine ok_p rfl rfl rfl (by exact ps_int rfl rfl rfl rfl) ?_; refine ok_nil ?_; refine ok_env [(0, _), (1, _), (11, _)] ⟨rfl, rfl, rfl, trivial⟩ ?_)
    | (refine ok_region (i := 3) ?_; refine ok_p rfl rfl rfl (by exact ps_assign rfl rfl) ?_; refine ok_nil ?_; refine ok_env [(4, _)] ⟨rfl, trivial⟩ ?_)
    | (refine ok_region (i := 4) ?_; refine ok_p rfl rfl rfl (by exact ps_assign rfl rfl) ?_; refine ok_nil ?_; refine ok_env [(0, _), (1, _), (5, _)] ⟨rfl, rfl, rfl, trivial⟩ ?_))
  · exact ok_endL (vs := [_]) rfl ⟨rfl, trivial⟩ (fun w' hw => ⟨mkN (-1) w, rfl, ⟨by show (-1 : Int) ≤ -1; decide, by show (-1 : Int) ≤ left; omega, fun h => absurd h (by show ¬ (0 : Int) ≤ -1; decide)⟩, hw.below, NewOk.nil _ _⟩)
  · refine ok_loop (ι := { p : Nat × Int // p.1 ≤ l.length ∧ 0 ≤ p.2 ∧ p.2 ≤ left - l.length ∧ ∀ j, j < p.1 → wtKV (nth l j) }) (fun p => l.length - p.1.1) (fun p => ([(0, .slice A l.length c), (1, .int .i64 p.1.2), (5, .int .i64 p.1.1)], _, _)) ⟨(0, left - l.length), by simp only; omega, by simp only; omega, by simp only; omega, fun j h => absurd h (Nat.not_lt_zero j)⟩ (fun a w he hw => ⟨⟨(0, left - l.length), by simp only; omega, by simp only; omega, by simp only; omega, fun j h => absurd h (Nat.not_lt_zero j)⟩, he.sub ⟨rfl, rfl, rfl, trivial⟩, hw⟩) ?_
    rintro ⟨⟨k, r⟩, hk, hr0, hr1, hwt⟩
    simp only at hk hr0 hr1 hwt ⊢
    have HW := Lib.hid hwt; clear hwt
    repeat' (first
      | refine ok_seq ?_
      | refine ok_then ?_
      | refine ok_then_ret ?_
      | refine ok_block ?_
      | refine ok_in_normal ?_
      | refine ok_in_ret ?_
      | (refine ok_cond rfl (fun hc => ?_) (fun hc => ?_) <;> (have hd := hc; (try simp only [decide_eq_true_eq, decide_eq_false_iff_not, Bool.or_eq_true, Bool.or_eq_false_iff, Bool.and_eq_true, Bool.and_eq_false_iff, Bool.not_eq_true', Bool.not_eq_false', bne_iff_ne, beq_iff_eq, bne_eq_false_iff_eq, beq_eq_false_iff_ne, ne_eq, Bool.not_true, Bool.not_false, Bool.false_eq_true, Bool.true_eq_false, inB_true, inB_false] at hd)))
      | refine ok_ret ?_
      | refine ok_exit ?_
      | refine ok_skip ?_
      | (refine ok_region (i := 5) ?_; refine ok_p rfl rfl rfl (by exact ps_move rfl rfl) ?_; refine ok_p rfl rfl rfl (by exact ps_move rfl rfl) ?_; refine ok_p rfl rfl rfl (by exact ps_len rfl rfl) ?_; refine ok_p rfl rfl rfl (by exact ps_int rfl rfl rfl rfl) ?_; refine ok_nil ?_; refine ok_env [(0, _), (1, _), (5, _), (15, _)] ⟨rfl, rfl, rfl, rfl, trivial⟩ ?_)
      | (refine ok_region (i := 6) ?_; refine ok_p rfl rfl rfl (by exact ps_move rfl rfl) ?_; refine ok_p rfl rfl rfl (by exact ps_add rfl rfl rfl (by omega)) ?_; refine ok_p rfl rfl rfl (by exact ps_assign rfl rfl) ?_; refine ok_nil ?_; refine ok_env [(0, _), (1, _), (5, _)] ⟨rfl, rfl, rfl, trivial⟩ ?_)
      | (refine ok_region (i := 7) ?_; refine ok_p rfl rfl rfl (by exact ps_move rfl rfl) ?_; refine ok_p rfl rfl rfl (by exact ps_move rfl rfl) ?_; refine ok_p rfl rfl rfl (by exact ps_indexN rfl rfl rfl (by omega) (by exact isw_of (isS_fl (by assumption) (by omega)))) ?_; refine ok_p rfl rfl rfl (by exact ps_loadsF rfl rfl (by exact rds_rf (by assumption) (by exact List.mem_cons_self)) (by rfl) (by rfl) (by omega) rfl) ?_; refine ok_p rfl rfl rfl (by exact ps_move rfl rfl) ?_; refine ok_m rfl rfl rfl (by exact ms_c2 rfl rfl rfl (fun _ _ w hw => szKV_c _ _ ⟨by omega, by omega⟩ (hx _ (nth_mem l k (by omega))) w)) ?_; rintro y23 hy23; refine ok_p rfl rfl rfl (by exact ps_assign rfl rfl) ?_; refine ok_nil ?_; refine ok_env [(0, _), (1, _), (5, _)] ⟨rfl, rfl, rfl, trivial⟩ ?_)
      | (refine ok_region (i := 8) ?_; refine ok_p rfl rfl rfl (by exact ps_move rfl rfl) ?_; refine ok_p rfl rfl rfl (by exact ps_int rfl rfl rfl rfl) ?_; refine ok_nil ?_; refine ok_env [(0, _), (1, _), (5, _), (25, _)] ⟨rfl, rfl, rfl, rfl, trivial⟩ ?_)
      | (refine ok_region (i := 9) ?_; refine ok_p rfl rfl rfl (by exact ps_assign rfl rfl) ?_; refine ok_nil ?_; refine ok_env [(4, _)] ⟨rfl, trivial⟩ ?_)
      | (refine ok_region (i := 10) ?_; refine ok_p rfl rfl rfl (by exact ps_move rfl rfl) ?_; refine ok_p rfl rfl rfl (by exact ps_assign rfl rfl) ?_; refine ok_nil ?_; refine ok_env [(4, _)] ⟨rfl, trivial⟩ ?_))
    · exact ok_endL (vs := [_]) rfl ⟨rfl, trivial⟩ (fun w' hw => ⟨mkN (-1) w, rfl, ⟨by show (-1 : Int) ≤ -1; decide, by show (-1 : Int) ≤ left; omega, fun h => absurd h (by show ¬ (0 : Int) ≤ -1; decide)⟩, hw.below, NewOk.nil _ _⟩)
    · obtain ⟨g1, g2, g3⟩ := hy23
      refine fun a w' he hw => ⟨⟨(k + 1, (y23 0).n), by simp only; omega, by simp only; omega, by simp only; omega, fun j hj => ?_⟩, by simp only; omega, he.sub ⟨rfl, rfl, rfl, trivial⟩, hw⟩
      rcases Nat.lt_succ_iff_lt_or_eq.1 hj with h' | h'
      · exact HW.out j h'
      · subst h'; exact g3 (by omega)
    · obtain rfl : k = l.length := by omega
      exact ok_endL (vs := [_]) rfl ⟨rfl, trivial⟩ (fun w' hw => ⟨mkN r w, rfl, ⟨by show -1 ≤ r; omega, by show r ≤ left; omega, fun _ => ⟨by omega, mem_nth (fun j hj => HW.out j hj)⟩⟩, hw.below, NewOk.nil _ _⟩)
theorem toKVS_c (A : Option Addr) (c : Nat) (l : List KV) (w : World) (h : Rd w A (fl l)) (hl : l.length ≤ 1048576) :
    Calls Try.prog 71 #[.slice A l.length c] w fun e w' => ∃ y : Ys, e = .returned (.slice (y 0).A l.length (y 0).c) ∧ True ∧ Below w.heap.size w w' ∧ NewOk w.heap.size [.row 162 2 (y 0).A l.length (y 0).c (fl l)] [] w' := by
  refine ok_enter 23 Try.func71 rfl rfl rfl ?_
  repeat' (first
    | refine ok_seq ?_
    | refine ok_then ?_
    | refine ok_block ?_
    | (refine ok_region (i := 0) ?_; refine ok_p rfl rfl rfl (by exact ps_assign rfl rfl) ?_; refine ok_nil ?_; refine ok_env [(0, _)] ⟨rfl, trivial⟩ ?_)
    | (refine ok_region (i := 1) ?_; refine ok_p rfl rfl rfl (by exact ps_move rfl rfl) ?_; refine ok_p rfl rfl rfl (by exact ps_len rfl rfl) ?_; refine ok_m rfl rfl rfl (by exact ms_make (z := Dat.cells (Dat.dflt : KV)) rfl rfl rfl (by omega) (by omega)) ?_; rintro y7 hy7; refine ok_p rfl rfl rfl (by exact ps_assign rfl rfl) ?_; refine ok_nil ?_; refine ok_env [(0, _), (3, _)] ⟨rfl, rfl, trivial⟩ ?_)
    | (refine ok_region (i := 2) ?_; refine ok_p rfl rfl rfl (by exact ps_assign rfl rfl) ?_; refine ok_nil ?_; refine ok_env [(0, _), (3, _), (4, _)] ⟨rfl, rfl, rfl, trivial⟩ ?_))
  rw [show (madeCells (Dat.cells (Dat.dflt : KV)).toArray (l.length * 2)).toList = fl (List.replicate l.length (Dat.dflt : KV)) from made_fl (Dat.dflt : KV) l.length]
  refine ok_loop (ι := { k : Nat // k ≤ l.length }) (fun k => l.length - k.1) (fun k => ([(0, .slice A l.length c), (3, .slice (ga (y7 0).c) l.length l.length), (4, .int .i64 k.1)], [.row 162 2 (ga (y7 0).c) l.length l.length (fl (l.take k.1 ++ List.replicate (l.length - k.1) (Dat.dflt : KV)))], _)) ⟨0, by omega⟩ (fun a w he hw => ⟨⟨0, by omega⟩, he.sub ⟨rfl, rfl, rfl, trivial⟩, by simpa using hw⟩) ?_
  rintro ⟨k, hk⟩
  simp only at hk ⊢
  repeat' (first
    | refine ok_seq ?_
    | refine ok_then ?_
    | refine ok_block ?_
    | refine ok_in_normal ?_
    | (refine ok_cond rfl (fun hc => ?_) (fun hc => ?_) <;> (have hd := hc; (try simp only [decide_eq_true_eq, decide_eq_false_iff_not, Bool.or_eq_true, Bool.or_eq_false_iff, Bool.and_eq_true, Bool.and_eq_false_iff, Bool.not_eq_true', Bool.not_eq_false', bne_iff_ne, beq_iff_eq, bne_eq_false_iff_eq, beq_eq_false_iff_ne, ne_eq, Bool.not_true, Bool.not_false, Bool.false_eq_true, Bool.true_eq_false, inB_true, inB_false] at hd)))
    | refine ok_ret ?_
    | refine ok_exit ?_
    | refine ok_skip ?_
    | (refine ok_region (i := 3) ?_; refine ok_p rfl rfl rfl (by exact ps_move rfl rfl) ?_; refine ok_p rfl rfl rfl (by exact ps_move rfl rfl) ?_; refine ok_p rfl rfl rfl (by exact ps_len rfl rfl) ?_; refine ok_p rfl rfl rfl (by exact ps_int rfl rfl rfl rfl) ?_; refine ok_nil ?_; refine ok_env [(0, _), (3, _), (4, _), (11, _)] ⟨rfl, rfl, rfl, rfl, trivial⟩ ?_)
    | (refine ok_region (i := 4) ?_; refine ok_p rfl rfl rfl (by exact ps_move rfl rfl) ?_; refine ok_p rfl rfl rfl (by exact ps_add rfl rfl rfl (by omega)) ?_; refine ok_p rfl rfl rfl (by exact ps_assign rfl rfl) ?_; refine ok_nil ?_; refine ok_env [(0, _), (3, _), (4, _)] ⟨rfl, rfl, rfl, trivial⟩ ?_)
    | (refine ok_region (i := 5) ?_; refine ok_p rfl rfl rfl (by exact ps_move rfl rfl) ?_; refine ok_p rfl rfl rfl (by exact ps_move rfl rfl) ?_; refine ok_p rfl rfl rfl (by exact ps_move rfl rfl) ?_; refine ok_p rfl rfl rfl (by exact ps_move rfl rfl) ?_; refine ok_p rfl rfl rfl (by exact ps_indexN rfl rfl rfl (by omega) (by exact isw_of (isS_fl (by assumption) (by omega)))) ?_; refine ok_p rfl rfl rfl (by exact ps_loadsF rfl rfl (by exact rds_rf (by assumption) (by exact List.mem_cons_self)) (by rfl) (by rfl) (by omega) rfl) ?_; refine ok_m rfl rfl rfl (by exact ms_s1 rfl rfl (fun _ _ w hw => toKV_c _ w)) ?_; rintro y20 hy20; refine ok_p rfl rfl rfl (by exact ps_indexN rfl rfl rfl (by omega) (by exact isw_ga _)) ?_; refine ok_m_ rfl rfl (by exact ms_setw 0 k (nth l k) rfl rfl rfl rfl rfl rfl rfl rfl rfl (by simp; omega)) ?_; rintro y_ hy_; refine ok_nil ?_; refine ok_env [(0, _), (3, _), (4, _)] ⟨rfl, rfl, rfl, trivial⟩ ?_)
    | (refine ok_region (i := 6) ?_; refine ok_p rfl rfl rfl (by exact ps_move rfl rfl) ?_; refine ok_p rfl rfl rfl (by exact ps_assign rfl rfl) ?_; refine ok_nil ?_; refine ok_env [(2, _)] ⟨rfl, trivial⟩ ?_))
  · refine fun a w' he hw => ⟨⟨k + 1, by omega⟩, by simp only; omega, he.sub ⟨rfl, rfl, rfl, trivial⟩, ?_⟩
    simp only
    rw [← fill_step l Dat.dflt k (by omega)]
    exact hw
  · obtain rfl : k = l.length := by omega
    refine ok_endL (vs := [_]) rfl ⟨rfl, trivial⟩ (fun w' hw => ⟨mkY (ga (y7 0).c) l.length w, rfl, trivial, hw.below, ?_⟩)
    have := NewOk.of hw
    simpa [mkY] using this
theorem eqKVS_c (A B : Option Addr) (c d : Nat) (l : List KV) (w : World) (h : Rd w A (fl l)) (h2 : Rd w B (fl l)) (hl : l.length ≤ 140737488355328) :
    Calls Try.prog 73 #[.slice A l.length c, .slice B l.length d] w fun e w' => e = .returned (.bool true) ∧ Below w.heap.size w w' := by
  refine ok_enter 27 Try.func73 rfl rfl rfl ?_
  repeat' (first
    | refine ok_seq ?_
    | refine ok_then ?_
    | refine ok_then_ret ?_
    | refine ok_block ?_
    | (refine ok_cond rfl (fun hc => ?_) (fun hc => ?_) <;> (have hd := hc; (try simp only [decide_eq_true_eq, decide_eq_false_iff_not, Bool.or_eq_true, Bool.or_eq_false_iff, Bool.and_eq_true, Bool.and_eq_false_iff, Bool.not_eq_true', Bool.not_eq_false', bne_iff_ne, beq_iff_eq, bne_eq_false_iff_eq, beq_eq_false_iff_ne, ne_eq, Bool.not_true, Bool.not_false, Bool.false_eq_true, Bool.true_eq_false, inB_true, inB_false] at hd)))
    | refine ok_ret ?_
    | refine ok_skip ?_
    | (refine ok_region (i := 0) ?_; refine ok_p rfl rfl rfl (by exact ps_assign rfl rfl) ?_; refine ok_nil ?_; refine ok_env [(0, _), (1, _)] ⟨rfl, rfl, trivial⟩ ?_)
    | (refine ok_region (i := 1) ?_; refine ok_p rfl rfl rfl (by exact ps_move rfl rfl) ?_; refine ok_p rfl rfl rfl (by exact ps_len rfl rfl) ?_; refine ok_p rfl rfl rfl (by exact ps_move rfl rfl) ?_; refine ok_p rfl rfl rfl (by exact ps_len rfl rfl) ?_; refine ok_p rfl rfl rfl (by exact ps_int rfl rfl rfl rfl) ?_; refine ok_nil ?_; refine ok_env [(0, _), (1, _), (10, _)] ⟨rfl, rfl, rfl, trivial⟩ ?_)
    | (refine ok_region (i := 2) ?_; refine ok_p rfl rfl rfl (by exact ps_assign rfl rfl) ?_; refine ok_nil ?_; refine ok_env [(4, _)] ⟨rfl, trivial⟩ ?_)
    | (refine ok_region (i := 3) ?_; refine ok_p rfl rfl rfl (by exact ps_assign rfl rfl) ?_; refine ok_nil ?_; refine ok_env [(0, _), (1, _), (5, _)] ⟨rfl, rfl, rfl, trivial⟩ ?_))
  · exact absurd hc (by simp)
  · refine ok_loop (ι := { k : Nat // k ≤ l.length }) (fun k => l.length - k.1) (fun k => ([(0, .slice A l.length c), (1, .slice B l.length d), (5, .int .i64 k.1)], _, _)) ⟨0, by omega⟩ (fun a w he hw => ⟨⟨0, by omega⟩, he.sub ⟨rfl, rfl, rfl, trivial⟩, hw⟩) ?_
    rintro ⟨k, hk⟩
    simp only at hk ⊢
    repeat' (first
      | refine ok_seq ?_
      | refine ok_then ?_
      | refine ok_block ?_
      | refine ok_in_normal ?_
      | (refine ok_cond rfl (fun hc => ?_) (fun hc => ?_) <;> (have hd := hc; (try simp only [decide_eq_true_eq, decide_eq_false_iff_not, Bool.or_eq_true, Bool.or_eq_false_iff, Bool.and_eq_true, Bool.and_eq_false_iff, Bool.not_eq_true', Bool.not_eq_false', bne_iff_ne, beq_iff_eq, bne_eq_false_iff_eq, beq_eq_false_iff_ne, ne_eq, Bool.not_true, Bool.not_false, Bool.false_eq_true, Bool.true_eq_false, inB_true, inB_false] at hd)))
      | refine ok_ret ?_
      | refine ok_exit ?_
      | refine ok_skip ?_
      | (refine ok_region (i := 4) ?_; refine ok_p rfl rfl rfl (by exact ps_move rfl rfl) ?_; refine ok_p rfl rfl rfl (by exact ps_move rfl rfl) ?_; refine ok_p rfl rfl rfl (by exact ps_len rfl rfl) ?_; refine ok_p rfl rfl rfl (by exact ps_int rfl rfl rfl rfl) ?_; refine ok_nil ?_; refine ok_env [(0, _), (1, _), (5, _), (14, _)] ⟨rfl, rfl, rfl, rfl, trivial⟩ ?_)
      | (refine ok_region (i := 5) ?_; refine ok_p rfl rfl rfl (by exact ps_move rfl rfl) ?_; refine ok_p rfl rfl rfl (by exact ps_add rfl rfl rfl (by omega)) ?_; refine ok_p rfl rfl rfl (by exact ps_assign rfl rfl) ?_; refine ok_nil ?_; refine ok_env [(0, _), (1, _), (5, _)] ⟨rfl, rfl, rfl, trivial⟩ ?_)
      | (refine ok_draw (id := 6) 10 rfl (by kernel_rfl) (by kernel_rfl) rfl (by repeat (first | exact pq_body | refine pq_then ?_ | refine pq_in ?_)) [0, 1, 2, 3, 4, 5, 6, 7, 8, 9, 10, 11, 12, 13, 14, 15, 16, 17, 18, 19, 20, 21, 22, 23] (by decide) rfl ?_; refine okT_take (i := 0) rfl (by kernel_rfl) rfl rfl rfl (by exact ps_move rfl rfl) ?_; refine okT_take (i := 1) rfl (by kernel_rfl) rfl rfl rfl (by exact ps_move rfl rfl) ?_; refine okT_take (i := 2) rfl (by kernel_rfl) rfl rfl rfl (by exact ps_indexN rfl rfl rfl (by omega) (by exact isw_of (isS_fl (by assumption) (by omega)))) ?_; refine okT_take (i := 3) rfl (by kernel_rfl) rfl rfl rfl (by exact ps_loadsF rfl rfl (by exact rds_rf (by assumption) (by exact List.mem_cons_self)) (by rfl) (by rfl) (by omega) rfl) ?_; refine okT_take (i := 4) rfl (by kernel_rfl) rfl rfl rfl (by exact ps_move rfl rfl) ?_; refine okT_take (i := 5) rfl (by kernel_rfl) rfl rfl rfl (by exact ps_move rfl rfl) ?_; refine okT_take (i := 6) rfl (by kernel_rfl) rfl rfl rfl (by exact ps_indexN rfl rfl rfl (by omega) (by exact isw_of (isS_fl (by assumption) (by omega)))) ?_; refine okT_take (i := 7) rfl (by kernel_rfl) rfl rfl rfl (by exact ps_loadsF rfl rfl (by exact rds_rf (by assumption) (by exact List.mem_cons_self)) (by rfl) (by rfl) (by omega) rfl) ?_; refine okT_one (i := 8) rfl rfl (by kernel_rfl) rfl rfl rfl (by exact ms_s2 rfl rfl rfl (fun _ _ w hw => eqKV_c _ w)) (fun y w _ h => by exact h) ?_; rintro y25 hy25; refine okT_take (i := 9) rfl (by kernel_rfl) rfl rfl rfl (by exact ps_not rfl rfl) ?_; refine okT_done (by kernel_rfl) ?_; refine ok_nil ?_; refine ok_env [(0, _), (1, _), (5, _), (26, _)] ⟨rfl, rfl, rfl, rfl, trivial⟩ ?_)
      | (refine ok_region (i := 8) ?_; refine ok_p rfl rfl rfl (by exact ps_assign rfl rfl) ?_; refine ok_nil ?_; refine ok_env [(4, _)] ⟨rfl, trivial⟩ ?_))
    all_goals first
      | (exfalso; simp [sEq] at hc; done)
      | exact fun a w' he hw => ⟨⟨k + 1, by omega⟩, by simp only; omega, he.sub ⟨rfl, rfl, rfl, trivial⟩, hw⟩
      | exact ok_endL (vs := [_]) rfl ⟨rfl, trivial⟩ (fun w' hw => ⟨rfl, hw.below⟩)
theorem markKVS_c (A : Option Addr) (c : Nat) (l : List KV) (k0 : Int) (hk0 : 0 ≤ k0 ∧ k0 ≤ 1000000000000000) (hl : l.length ≤ 140737488355328) {base : Nat} {w0 w : World} {H : List HObj} {G : List World}
    (hw : WOk base w0 (.row 162 2 A l.length c (fl l) :: H) G w) :
    Calls Try.prog 74 #[.slice A l.length c, .int .i64 k0] w fun e w' => ∃ y : Ys, e = .returned (.int .i64 (k0 + 2 * (l.length : Int))) ∧ True ∧ WOk base w0 (.row 162 2 A l.length c (fl (mkL k0 l.length : List KV)) :: H) G w' := by
  refine ok_enterW 29 Try.func74 rfl rfl rfl hw ?_
  repeat' (first
    | refine ok_seq ?_
    | refine ok_then ?_
    | refine ok_block ?_
    | (refine ok_region (i := 0) ?_; refine ok_p rfl rfl rfl (by exact ps_assign rfl rfl) ?_; refine ok_nil ?_; refine ok_env [(0, _), (1, _)] ⟨rfl, rfl, trivial⟩ ?_)
    | (refine ok_region (i := 1) ?_; refine ok_p rfl rfl rfl (by exact ps_assign rfl rfl) ?_; refine ok_nil ?_; refine ok_env [(0, _), (1, _), (5, _)] ⟨rfl, rfl, rfl, trivial⟩ ?_))
  refine ok_loop (ι := { k : Nat // k ≤ l.length }) (fun k => l.length - k.1) (fun k => ([(0, .slice A l.length c), (1, .int .i64 (k0 + 2 * (k.1 : Int))), (5, .int .i64 k.1)], .row 162 2 A l.length c (fl (mkL k0 k.1 ++ l.drop k.1)) :: H, _)) ⟨0, by omega⟩ (fun a w he hw => ⟨⟨0, by omega⟩, he.sub ⟨rfl, by simp [look, initE], rfl, trivial⟩, by simpa [mkL] using hw⟩) ?_
  rintro ⟨k, hk⟩
  simp only at hk ⊢
  repeat' (first
    | refine ok_seq ?_
    | refine ok_then ?_
    | refine ok_block ?_
    | refine ok_in_normal ?_
    | (refine ok_cond rfl (fun hc => ?_) (fun hc => ?_) <;> (have hd := hc; (try simp only [decide_eq_true_eq, decide_eq_false_iff_not, Bool.or_eq_true, Bool.or_eq_false_iff, Bool.and_eq_true, Bool.and_eq_false_iff, Bool.not_eq_true', Bool.not_eq_false', bne_iff_ne, beq_iff_eq, bne_eq_false_iff_eq, beq_eq_false_iff_ne, ne_eq, Bool.not_true, Bool.not_false, Bool.false_eq_true, Bool.true_eq_false, inB_true, inB_false] at hd)))
    | refine ok_ret ?_
    | refine ok_exit ?_
    | refine ok_skip ?_
    | (refine ok_region (i := 2) ?_; refine ok_p rfl rfl rfl (by exact ps_move rfl rfl) ?_; refine ok_p rfl rfl rfl (by exact ps_move rfl rfl) ?_; refine ok_p rfl rfl rfl (by exact ps_len rfl rfl) ?_; refine ok_p rfl rfl rfl (by exact ps_int rfl rfl rfl rfl) ?_; refine ok_nil ?_; refine ok_env [(0, _), (1, _), (5, _), (9, _)] ⟨rfl, rfl, rfl, rfl, trivial⟩ ?_)
    | (refine ok_region (i := 3) ?_; refine ok_p rfl rfl rfl (by exact ps_move rfl rfl) ?_; refine ok_p rfl rfl rfl (by exact ps_add rfl rfl rfl (by omega)) ?_; refine ok_p rfl rfl rfl (by exact ps_assign rfl rfl) ?_; refine ok_nil ?_; refine ok_env [(0, _), (1, _), (5, _)] ⟨rfl, rfl, rfl, trivial⟩ ?_)
    | (refine ok_region (i := 4) ?_; refine ok_p rfl rfl rfl (by exact ps_move rfl rfl) ?_; refine ok_p rfl rfl rfl (by exact ps_move rfl rfl) ?_; refine ok_p rfl rfl rfl (by exact ps_move rfl rfl) ?_; refine ok_m rfl rfl rfl (by exact ms_s1 rfl rfl (fun _ _ w hw => markText_c _ (by omega) w)) ?_; rintro y15 hy15; refine ok_p rfl rfl rfl (by exact ps_indexN rfl rfl rfl (by omega) (by exact isw_row 0 rfl (by omega))) ?_; refine ok_p rfl rfl rfl (by exact ps_field rfl rfl (by exact isw_row 0 rfl (by omega))) ?_; refine ok_m_ rfl rfl (by exact ms_setc 0 k 0 (⟨mT ((k0 + 2 * (k : Int))), (nth l k).val⟩ : KV) rfl rfl rfl rfl rfl rfl rfl rfl (by rw [mk_nth _ _ _ (by omega)]; rfl) (by simp [mkL_len]; omega)) ?_; rintro y_ hy_; refine ok_nil ?_; refine ok_env [(0, _), (1, _), (5, _)] ⟨rfl, rfl, rfl, trivial⟩ ?_)
    | (refine ok_region (i := 5) ?_; refine ok_p rfl rfl rfl (by exact ps_move rfl rfl) ?_; refine ok_p rfl rfl rfl (by exact ps_add rfl rfl rfl (by omega)) ?_; refine ok_p rfl rfl rfl (by exact ps_assign rfl rfl) ?_; refine ok_nil ?_; refine ok_env [(0, _), (1, _), (5, _)] ⟨rfl, rfl, rfl, trivial⟩ ?_)
    | (refine ok_region (i := 6) ?_; refine ok_p rfl rfl rfl (by exact ps_move rfl rfl) ?_; refine ok_p rfl rfl rfl (by exact ps_move rfl rfl) ?_; refine ok_p rfl rfl rfl (by exact ps_move rfl rfl) ?_; refine ok_m rfl rfl rfl (by exact ms_s1 rfl rfl (fun _ _ w hw => markText_c _ (by omega) w)) ?_; rintro y23 hy23; refine ok_p rfl rfl rfl (by exact ps_indexN rfl rfl rfl (by omega) (by exact isw_row 0 rfl (by omega))) ?_; refine ok_p rfl rfl rfl (by exact ps_field rfl rfl (by exact isw_row 0 rfl (by omega))) ?_; refine ok_m_ rfl rfl (by exact ms_setc 0 k 1 (⟨mT ((k0 + 2 * (k : Int))), mT ((k0 + 2 * (k : Int)) + 1)⟩ : KV) rfl rfl rfl rfl rfl rfl rfl rfl (by rw [nth_set _ _ _ (by simp [mkL_len]; omega)]; rfl) (by simp [mkL_len]; omega)) ?_; rintro y_ hy_; refine ok_nil ?_; refine ok_env [(0, _), (1, _), (5, _)] ⟨rfl, rfl, rfl, trivial⟩ ?_)
    | (refine ok_region (i := 7) ?_; refine ok_p rfl rfl rfl (by exact ps_move rfl rfl) ?_; refine ok_p rfl rfl rfl (by exact ps_add rfl rfl rfl (by omega)) ?_; refine ok_p rfl rfl rfl (by exact ps_assign rfl rfl) ?_; refine ok_nil ?_; refine ok_env [(0, _), (1, _), (5, _)] ⟨rfl, rfl, rfl, trivial⟩ ?_)
    | (refine ok_region (i := 8) ?_; refine ok_p rfl rfl rfl (by exact ps_move rfl rfl) ?_; refine ok_p rfl rfl rfl (by exact ps_assign rfl rfl) ?_; refine ok_nil ?_; refine ok_env [(4, _)] ⟨rfl, trivial⟩ ?_))
  · refine fun a w' he hw => ⟨⟨k + 1, by omega⟩, by simp only; omega, he.sub ⟨rfl, ?_, rfl, trivial⟩, ?_⟩
    · simp only [look]; congr 2; simp; omega
    · have e := mk_step l k0 k (by omega)
      simp only
      rw [← e]
      refine WOk.same ?_ hw
      simp only [List.set_cons_zero, List.set_set]
      rfl
  · obtain rfl : k = l.length := by omega
    refine ok_endL (vs := [_]) rfl ⟨rfl, trivial⟩ (fun w' hw => ⟨mkY none 0 w, rfl, trivial, ?_⟩)
    simpa using hw
theorem heldKVS_c (A : Option Addr) (c : Nat) (n : Nat) (k0 : Int) (hk0 : 0 ≤ k0 ∧ k0 ≤ 1000000000000000) (hl : n ≤ 140737488355328) (w : World) (h : Rd w A (fl (mkL k0 n : List KV))) :
    Calls Try.prog 75 #[.slice A n c, .int .i64 k0] w fun e w' => e = .returned (.int .i64 (k0 + 2 * (n : Int))) ∧ Below w.heap.size w w' := by
  have hln : (mkL k0 n : List KV).length = n := mkL_len k0 n
  refine ok_enter 33 Try.func75 rfl rfl rfl ?_
  repeat' (first
    | refine ok_seq ?_
    | refine ok_then ?_
    | refine ok_block ?_
    | (refine ok_region (i := 0) ?_; refine ok_p rfl rfl rfl (by exact ps_assign rfl rfl) ?_; refine ok_nil ?_; refine ok_env [(0, _), (1, _)] ⟨rfl, rfl, trivial⟩ ?_)
    | (refine ok_region (i := 1) ?_; refine ok_p rfl rfl rfl (by exact ps_assign rfl rfl) ?_; refine ok_nil ?_; refine ok_env [(0, _), (1, _), (5, _)] ⟨rfl, rfl, rfl, trivial⟩ ?_))
  refine ok_loop (ι := { k : Nat // k ≤ n }) (fun k => n - k.1) (fun k => ([(0, .slice A n c), (1, .int .i64 (k0 + 2 * (k.1 : Int))), (5, .int .i64 k.1)], _, _)) ⟨0, by omega⟩ (fun a w he hw => ⟨⟨0, by omega⟩, he.sub ⟨rfl, by simp [look, initE], rfl, trivial⟩, hw⟩) ?_
  rintro ⟨k, hk⟩
  simp only at hk ⊢
  repeat' (first
    | refine ok_seq ?_
    | refine ok_then ?_
    | refine ok_then_ret ?_
    | refine ok_block ?_
    | refine ok_in_normal ?_
    | refine ok_in_ret ?_
    | (refine ok_cond rfl (fun hc => ?_) (fun hc => ?_) <;> (have hd := hc; (try simp only [decide_eq_true_eq, decide_eq_false_iff_not, Bool.or_eq_true, Bool.or_eq_false_iff, Bool.and_eq_true, Bool.and_eq_false_iff, Bool.not_eq_true', Bool.not_eq_false', bne_iff_ne, beq_iff_eq, bne_eq_false_iff_eq, beq_eq_false_iff_ne, ne_eq, Bool.not_true, Bool.not_false, Bool.false_eq_true, Bool.true_eq_false, inB_true, inB_false] at hd)))
    | refine ok_ret ?_
    | refine ok_exit ?_
    | refine ok_skip ?_
    | (refine ok_region (i := 2) ?_; refine ok_p rfl rfl rfl (by exact ps_move rfl rfl) ?_; refine ok_p rfl rfl rfl (by exact ps_move rfl rfl) ?_; refine ok_p rfl rfl rfl (by exact ps_len rfl rfl) ?_; refine ok_p rfl rfl rfl (by exact ps_int rfl rfl rfl rfl) ?_; refine ok_nil ?_; refine ok_env [(0, _), (1, _), (5, _), (9, _)] ⟨rfl, rfl, rfl, rfl, trivial⟩ ?_)
    | (refine ok_region (i := 3) ?_; refine ok_p rfl rfl rfl (by exact ps_move rfl rfl) ?_; refine ok_p rfl rfl rfl (by exact ps_add rfl rfl rfl (by omega)) ?_; refine ok_p rfl rfl rfl (by exact ps_assign rfl rfl) ?_; refine ok_nil ?_; refine ok_env [(0, _), (1, _), (5, _)] ⟨rfl, rfl, rfl, trivial⟩ ?_)
    | (refine ok_draw (id := 4) 8 rfl (by kernel_rfl) (by kernel_rfl) rfl (by repeat (first | exact pq_body | refine pq_then ?_ | refine pq_in ?_)) [0, 1, 2, 3, 4, 5, 6, 7, 8, 9, 10, 11, 12, 13, 14, 15, 16, 17, 18, 19, 20, 21, 22, 23] (by decide) rfl ?_; refine okT_take (i := 0) rfl (by kernel_rfl) rfl rfl rfl (by exact ps_move rfl rfl) ?_; refine okT_take (i := 1) rfl (by kernel_rfl) rfl rfl rfl (by exact ps_move rfl rfl) ?_; refine okT_take (i := 2) rfl (by kernel_rfl) rfl rfl rfl (by exact ps_indexN rfl rfl rfl (by omega) (by exact isw_of (isS_fl (by assumption) (by omega)))) ?_; refine okT_take (i := 3) rfl (by kernel_rfl) rfl rfl rfl (by exact ps_field rfl rfl (by exact isw_of (isS_fl (by assumption) (by omega)))) ?_; refine okT_take (i := 4) rfl (by kernel_rfl) rfl rfl rfl (by exact ps_load rfl rfl (by exact Rds.cell (rds_rf (by assumption) (by exact List.mem_cons_self)) (by exact fl_at0 _ _ (by omega) (by decide)))) ?_; refine okT_take (i := 5) rfl (by kernel_rfl) rfl rfl rfl (by exact ps_move rfl rfl) ?_; refine okT_one (i := 6) rfl rfl (by kernel_rfl) rfl rfl rfl (by exact ms_s1 rfl rfl (fun _ _ w hw => markText_c _ (by omega) w)) (fun y w _ h => by exact h) ?_; rintro y18 hy18; refine okT_take (i := 7) rfl (by kernel_rfl) rfl rfl rfl (by exact ps_str rfl rfl rfl rfl) ?_; refine okT_done (by kernel_rfl) ?_; refine ok_nil ?_; refine ok_env [(0, _), (1, _), (5, _), (19, _)] ⟨rfl, rfl, rfl, rfl, trivial⟩ ?_)
    | (refine ok_region (i := 5) ?_; refine ok_p rfl rfl rfl (by exact ps_assign rfl rfl) ?_; refine ok_nil ?_; refine ok_env [(4, _)] ⟨rfl, trivial⟩ ?_)
    | (refine ok_region (i := 6) ?_; refine ok_p rfl rfl rfl (by exact ps_move rfl rfl) ?_; refine ok_p rfl rfl rfl (by exact ps_add rfl rfl rfl (by omega)) ?_; refine ok_p rfl rfl rfl (by exact ps_assign rfl rfl) ?_; refine ok_nil ?_; refine ok_env [(0, _), (1, _), (5, _)] ⟨rfl, rfl, rfl, trivial⟩ ?_)
    | (refine ok_draw (id := 7) 8 rfl (by kernel_rfl) (by kernel_rfl) rfl (by repeat (first | exact pq_body | refine pq_then ?_ | refine pq_in ?_)) [0, 1, 2, 3, 4, 5, 6, 7, 8, 9, 10, 11, 12, 13, 14, 15, 16, 17, 18, 19, 20, 21, 22, 23] (by decide) rfl ?_; refine okT_take (i := 0) rfl (by kernel_rfl) rfl rfl rfl (by exact ps_move rfl rfl) ?_; refine okT_take (i := 1) rfl (by kernel_rfl) rfl rfl rfl (by exact ps_move rfl rfl) ?_; refine okT_take (i := 2) rfl (by kernel_rfl) rfl rfl rfl (by exact ps_indexN rfl rfl rfl (by omega) (by exact isw_of (isS_fl (by assumption) (by omega)))) ?_; refine okT_take (i := 3) rfl (by kernel_rfl) rfl rfl rfl (by exact ps_field rfl rfl (by exact isw_of (isS_fl (by assumption) (by omega)))) ?_; refine okT_take (i := 4) rfl (by kernel_rfl) rfl rfl rfl (by exact ps_load rfl rfl (by exact Rds.cell (rds_rf (by assumption) (by exact List.mem_cons_self)) (by exact fl_at _ _ _ (by omega) (by decide)))) ?_; refine okT_take (i := 5) rfl (by kernel_rfl) rfl rfl rfl (by exact ps_move rfl rfl) ?_; refine okT_one (i := 6) rfl rfl (by kernel_rfl) rfl rfl rfl (by exact ms_s1 rfl rfl (fun _ _ w hw => markText_c _ (by omega) w)) (fun y w _ h => by exact h) ?_; rintro y28 hy28; refine okT_take (i := 7) rfl (by kernel_rfl) rfl rfl rfl (by exact ps_str rfl rfl rfl rfl) ?_; refine okT_done (by kernel_rfl) ?_; refine ok_nil ?_; refine ok_env [(0, _), (1, _), (5, _), (29, _)] ⟨rfl, rfl, rfl, rfl, trivial⟩ ?_)
    | (refine ok_region (i := 8) ?_; refine ok_p rfl rfl rfl (by exact ps_assign rfl rfl) ?_; refine ok_nil ?_; refine ok_env [(4, _)] ⟨rfl, trivial⟩ ?_)
    | (refine ok_region (i := 9) ?_; refine ok_p rfl rfl rfl (by exact ps_move rfl rfl) ?_; refine ok_p rfl rfl rfl (by exact ps_add rfl rfl rfl (by omega)) ?_; refine ok_p rfl rfl rfl (by exact ps_assign rfl rfl) ?_; refine ok_nil ?_; refine ok_env [(0, _), (1, _), (5, _)] ⟨rfl, rfl, rfl, trivial⟩ ?_)
    | (refine ok_region (i := 10) ?_; refine ok_p rfl rfl rfl (by exact ps_move rfl rfl) ?_; refine ok_p rfl rfl rfl (by exact ps_assign rfl rfl) ?_; refine ok_nil ?_; refine ok_env [(4, _)] ⟨rfl, trivial⟩ ?_))
  all_goals try (have hnth := mkL_nth (α := KV) k0 n k (by omega))
  all_goals first
    | (exfalso; rw [hnth] at hc; simp [Mk.mkv, Mk.cnt, sEq] at hc; done)
    | (refine fun a w' he hw => ⟨⟨k + 1, by omega⟩, by simp only; omega, he.sub ⟨rfl, ?_, rfl, trivial⟩, hw⟩
       simp only [look]; congr 2; simp; omega)
    | (obtain rfl : k = n := by omega
       exact ok_endL (vs := [_]) rfl ⟨rfl, trivial⟩ (fun w' hw => ⟨rfl, hw.below⟩))
end Go.Proofs.Ytfcnimglcialbaa
/- Rows of strings: size, copy, comparison, marks. -/
namespace Go.Proofs.Ytfcnimglcialbaa
open Go.RowKit
set_option maxHeartbeats 2000000
set_option maxRecDepth 20000
set_option linter.unusedVariables false
set_option linter.unusedSimpArgs false
instance : Mk ByteArray := ⟨1, fun q => mT q⟩
def wtStr (x : ByteArray) : Prop := x.size ≤ 1048576
def bigStr (x : ByteArray) : Prop := x.size ≤ maxLen
theorem szStringS_c (A : Option Addr) (c : Nat) (l : List ByteArray) (left : Int) (hl : 0 ≤ left ∧ left ≤ 1048576) (hn : l.length ≤ maxLen) (hx : ∀ x ∈ l, bigStr x) (w : World) (h : Rd w A (fl l)) :
    Calls Try.prog 129 #[.slice A l.length c, .int .i64 left] w fun e w' => ∃ y : Ys, e = .returned (.int .i64 (y 0).n) ∧ (-1 ≤ (y 0).n ∧ (y 0).n ≤ left ∧ (0 ≤ (y 0).n → (l.length : Int) ≤ left ∧ ∀ x ∈ l, wtStr x)) ∧ Below w.heap.size w w' ∧ NewOk w.heap.size [] [] w' := by
  unfold maxLen at hn
  refine ok_enter 28 Try.func129 rfl rfl rfl ?_
  repeat' (first
    | refine ok_seq ?_
    | refine ok_then ?_
    | refine ok_then_ret ?_
    | refine ok_block ?_
    | (refine ok_cond rfl (fun hc => ?_) (fun hc => ?_) <;> (have hd := hc; (try simp only [decide_eq_true_eq, decide_eq_false_iff_not, Bool.or_eq_true, Bool.or_eq_false_iff, Bool.and_eq_true, Bool.and_eq_false_iff, Bool.not_eq_true', Bool.not_eq_false', bne_iff_ne, beq_iff_eq, bne_eq_false_iff_eq, beq_eq_false_iff_ne, ne_eq, Bool.not_true, Bool.not_false, Bool.false_eq_true, Bool.true_eq_false, inB_true, inB_false] at hd)))
    | refine ok_ret ?_
    | refine ok_skip ?_
    | (refine ok_region (i := 0) ?_; refine ok_p rfl rfl rfl (by exact ps_assign rfl rfl) ?_; refine ok_nil ?_; refine ok_env [(0, _), (1, _)] ⟨rfl, rfl, trivial⟩ ?_)
    | (refine ok_region (i := 1) ?_; refine ok_p rfl rfl rfl (by exact ps_move rfl rfl) ?_; refine ok_p rfl rfl rfl (by exact ps_move rfl rfl) ?_; refine ok_p rfl rfl rfl (by exact ps_len rfl rfl) ?_; refine ok_p rfl rfl rfl (by exact ps_sub rfl rfl rfl (by omega)) ?_; refine ok_p rfl rfl rfl (by exact ps_assign rfl rfl) ?_; refine ok_nil ?_; refine ok_env [(0, _), (1, _)] ⟨rfl, rfl, trivial⟩ ?_)
    | (refine ok_region (i := 2) ?_; refine ok_p rfl rfl rfl (by exact ps_move rfl rfl) ?_; refine ok_p rfl rfl rfl (by exact ps_int rfl rfl rfl rfl) ?_; refine ok_nil ?_; refine ok_env [(0, _), (1, _), (11, _)] ⟨rfl, rfl, rfl, trivial⟩ ?_)
    | (refine ok_region (i := 3) ?_; refine ok_p rfl rfl rfl (by exact ps_assign rfl rfl) ?_; refine ok_nil ?_; refine ok_env [(4, _)] ⟨rfl, trivial⟩ ?_)
    | (refine ok_region (i := 4) ?_; refine ok_p rfl rfl rfl (by exact ps_assign rfl rfl) ?_; refine ok_nil ?_; refine ok_env [(0, _), (1, _), (5, _)] ⟨rfl, rfl, rfl, trivial⟩ ?_))
  · exact ok_endL (vs := [_]) rfl ⟨rfl, trivial⟩ (fun w' hw => ⟨mkN (-1) w, rfl, ⟨by show (-1 : Int) ≤ -1; decide, by show (-1 : Int) ≤ left; omega, fun h => absurd h (by show ¬ (0 : Int) ≤ -1; decide)⟩, hw.below, NewOk.nil _ _⟩)
  · refine ok_loop (ι := { p : Nat × Int // p.1 ≤ l.length ∧ 0 ≤ p.2 ∧ p.2 ≤ left - l.length ∧ ∀ j, j < p.1 → wtStr (nth l j) }) (fun p => l.length - p.1.1) (fun p => ([(0, .slice A l.length c), (1, .int .i64 p.1.2), (5, .int .i64 p.1.1)], _, _)) ⟨(0, left - l.length), by simp only; omega, by simp only; omega, by simp only; omega, fun j h => absurd h (Nat.not_lt_zero j)⟩ (fun a w he hw => ⟨⟨(0, left - l.length), by simp only; omega, by simp only; omega, by simp only; omega, fun j h => absurd h (Nat.not_lt_zero j)⟩, he.sub ⟨rfl, rfl, rfl, trivial⟩, hw⟩) ?_
    rintro ⟨⟨k, r⟩, hk, hr0, hr1, hwt⟩
    simp only at hk hr0 hr1 hwt ⊢
    have HW := Lib.hid hwt; clear hwt
    have hbg : k < l.length → (nth l k).size ≤ maxLen := fun h => hx _ (nth_mem l k h)
    unfold maxLen at hbg
    repeat' (first
      | refine ok_seq ?_
      | refine ok_then ?_
      | refine ok_then_ret ?_
      | refine ok_block ?_
      | refine ok_in_normal ?_
      | refine ok_in_ret ?_
      | (refine ok_cond rfl (fun hc => ?_) (fun hc => ?_) <;> (have hd := hc; (try simp only [decide_eq_true_eq, decide_eq_false_iff_not, Bool.or_eq_true, Bool.or_eq_false_iff, Bool.and_eq_true, Bool.and_eq_false_iff, Bool.not_eq_true', Bool.not_eq_false', bne_iff_ne, beq_iff_eq, bne_eq_false_iff_eq, beq_eq_false_iff_ne, ne_eq, Bool.not_true, Bool.not_false, Bool.false_eq_true, Bool.true_eq_false, inB_true, inB_false] at hd)))
      | refine ok_ret ?_
      | refine ok_exit ?_
      | refine ok_skip ?_
      | (refine ok_region (i := 5) ?_; refine ok_p rfl rfl rfl (by exact ps_move rfl rfl) ?_; refine ok_p rfl rfl rfl (by exact ps_move rfl rfl) ?_; refine ok_p rfl rfl rfl (by exact ps_len rfl rfl) ?_; refine ok_p rfl rfl rfl (by exact ps_int rfl rfl rfl rfl) ?_; refine ok_nil ?_; refine ok_env [(0, _), (1, _), (5, _), (15, _)] ⟨rfl, rfl, rfl, rfl, trivial⟩ ?_)
      | (refine ok_region (i := 6) ?_; refine ok_p rfl rfl rfl (by exact ps_move rfl rfl) ?_; refine ok_p rfl rfl rfl (by exact ps_add rfl rfl rfl (by omega)) ?_; refine ok_p rfl rfl rfl (by exact ps_assign rfl rfl) ?_; refine ok_nil ?_; refine ok_env [(0, _), (1, _), (5, _)] ⟨rfl, rfl, rfl, trivial⟩ ?_)
      | (refine ok_region (i := 7) ?_; refine ok_p rfl rfl rfl (by exact ps_move rfl rfl) ?_; refine ok_p rfl rfl rfl (by exact ps_move rfl rfl) ?_; refine ok_p rfl rfl rfl (by exact ps_move rfl rfl) ?_; refine ok_p rfl rfl rfl (by exact ps_indexN rfl rfl rfl (by omega) (by exact isw_of (isS_fl (by assumption) (by omega)))) ?_; refine ok_p rfl rfl rfl (by exact ps_load rfl rfl (by exact Rds.cell (rds_rf (by assumption) (by exact List.mem_cons_self)) (by exact fl_at0 _ _ (by omega) (by decide)))) ?_; refine ok_p rfl rfl rfl (by exact ps_slen rfl rfl) ?_; refine ok_p rfl rfl rfl (by exact ps_sub rfl rfl rfl (by omega)) ?_; refine ok_p rfl rfl rfl (by exact ps_assign rfl rfl) ?_; refine ok_nil ?_; refine ok_env [(0, _), (1, _), (5, _)] ⟨rfl, rfl, rfl, trivial⟩ ?_)
      | (refine ok_region (i := 8) ?_; refine ok_p rfl rfl rfl (by exact ps_move rfl rfl) ?_; refine ok_p rfl rfl rfl (by exact ps_int rfl rfl rfl rfl) ?_; refine ok_nil ?_; refine ok_env [(0, _), (1, _), (5, _), (26, _)] ⟨rfl, rfl, rfl, rfl, trivial⟩ ?_)
      | (refine ok_region (i := 9) ?_; refine ok_p rfl rfl rfl (by exact ps_assign rfl rfl) ?_; refine ok_nil ?_; refine ok_env [(4, _)] ⟨rfl, trivial⟩ ?_)
      | (refine ok_region (i := 10) ?_; refine ok_p rfl rfl rfl (by exact ps_move rfl rfl) ?_; refine ok_p rfl rfl rfl (by exact ps_assign rfl rfl) ?_; refine ok_nil ?_; refine ok_env [(4, _)] ⟨rfl, trivial⟩ ?_))
    · exact ok_endL (vs := [_]) rfl ⟨rfl, trivial⟩ (fun w' hw => ⟨mkN (-1) w, rfl, ⟨by show (-1 : Int) ≤ -1; decide, by show (-1 : Int) ≤ left; omega, fun h => absurd h (by show ¬ (0 : Int) ≤ -1; decide)⟩, hw.below, NewOk.nil _ _⟩)
    · refine fun a w' he hw => ⟨⟨(k + 1, r - ((nth l k).size : Int)), by simp only; omega, by simp only; omega, by simp only; omega, fun j hj => ?_⟩, by simp only; omega, he.sub ⟨rfl, rfl, rfl, trivial⟩, hw⟩
      rcases Nat.lt_succ_iff_lt_or_eq.1 hj with h' | h'
      · exact HW.out j h'
      · subst h'; show (nth l j).size ≤ 1048576; omega
    · obtain rfl : k = l.length := by omega
      exact ok_endL (vs := [_]) rfl ⟨rfl, trivial⟩ (fun w' hw => ⟨mkN r w, rfl, ⟨by show -1 ≤ r; omega, by show r ≤ left; omega, fun _ => ⟨by omega, mem_nth (fun j hj => HW.out j hj)⟩⟩, hw.below, NewOk.nil _ _⟩)
theorem toStringS_c (A : Option Addr) (c : Nat) (l : List ByteArray) (w : World) (h : Rd w A (fl l)) (hl : l.length ≤ 1048576) :
    Calls Try.prog 133 #[.slice A l.length c] w fun e w' => ∃ y : Ys, e = .returned (.slice (y 0).A l.length (y 0).c) ∧ True ∧ Below w.heap.size w w' ∧ NewOk w.heap.size [.row 9 1 (y 0).A l.length (y 0).c (fl l)] [] w' := by
  refine ok_enter 22 Try.func133 rfl rfl rfl ?_
  repeat' (first
    | refine ok_seq ?_
    | refine ok_then ?_
    | refine ok_block ?_
    | (refine ok_region (i := 0) ?_; refine ok_p rfl rfl rfl (by exact ps_assign rfl rfl) ?_; refine ok_nil ?_; refine ok_env [(0, _)] ⟨rfl, trivial⟩ ?_)
    | (refine ok_region (i := 1) ?_; refine ok_p rfl rfl rfl (by exact ps_move rfl rfl) ?_; refine ok_p rfl rfl rfl (by exact ps_len rfl rfl) ?_; refine ok_m rfl rfl rfl (by exact ms_make (z := Dat.cells (Dat.dflt : ByteArray)) rfl rfl rfl (by omega) (by omega)) ?_; rintro y7 hy7; refine ok_p rfl rfl rfl (by exact ps_assign rfl rfl) ?_; refine ok_nil ?_; refine ok_env [(0, _), (3, _)] ⟨rfl, rfl, trivial⟩ ?_)
    | (refine ok_region (i := 2) ?_; refine ok_p rfl rfl rfl (by exact ps_assign rfl rfl) ?_; refine ok_nil ?_; refine ok_env [(0, _), (3, _), (4, _)] ⟨rfl, rfl, rfl, trivial⟩ ?_))
  rw [show (madeCells (Dat.cells (Dat.dflt : ByteArray)).toArray (l.length * 1)).toList = fl (List.replicate l.length (Dat.dflt : ByteArray)) from made_fl (Dat.dflt : ByteArray) l.length]
  refine ok_loop (ι := { k : Nat // k ≤ l.length }) (fun k => l.length - k.1) (fun k => ([(0, .slice A l.length c), (3, .slice (ga (y7 0).c) l.length l.length), (4, .int .i64 k.1)], [.row 9 1 (ga (y7 0).c) l.length l.length (fl (l.take k.1 ++ List.replicate (l.length - k.1) (Dat.dflt : ByteArray)))], _)) ⟨0, by omega⟩ (fun a w he hw => ⟨⟨0, by omega⟩, he.sub ⟨rfl, rfl, rfl, trivial⟩, by simpa using hw⟩) ?_
  rintro ⟨k, hk⟩
  simp only at hk ⊢
  repeat' (first
    | refine ok_seq ?_
    | refine ok_then ?_
    | refine ok_block ?_
    | refine ok_in_normal ?_
    | (refine ok_cond rfl (fun hc => ?_) (fun hc => ?_) <;> (have hd := hc; (try simp only [decide_eq_true_eq, decide_eq_false_iff_not, Bool.or_eq_true, Bool.or_eq_false_iff, Bool.and_eq_true, Bool.and_eq_false_iff, Bool.not_eq_true', Bool.not_eq_false', bne_iff_ne, beq_iff_eq, bne_eq_false_iff_eq, beq_eq_false_iff_ne, ne_eq, Bool.not_true, Bool.not_false, Bool.false_eq_true, Bool.true_eq_false, inB_true, inB_false] at hd)))
    | refine ok_ret ?_
    | refine ok_exit ?_
    | refine ok_skip ?_
    | (refine ok_region (i := 3) ?_; refine ok_p rfl rfl rfl (by exact ps_move rfl rfl) ?_; refine ok_p rfl rfl rfl (by exact ps_move rfl rfl) ?_; refine ok_p rfl rfl rfl (by exact ps_len rfl rfl) ?_; refine ok_p rfl rfl rfl (by exact ps_int rfl rfl rfl rfl) ?_; refine ok_nil ?_; refine ok_env [(0, _), (3, _), (4, _), (11, _)] ⟨rfl, rfl, rfl, rfl, trivial⟩ ?_)
    | (refine ok_region (i := 4) ?_; refine ok_p rfl rfl rfl (by exact ps_move rfl rfl) ?_; refine ok_p rfl rfl rfl (by exact ps_add rfl rfl rfl (by omega)) ?_; refine ok_p rfl rfl rfl (by exact ps_assign rfl rfl) ?_; refine ok_nil ?_; refine ok_env [(0, _), (3, _), (4, _)] ⟨rfl, rfl, rfl, trivial⟩ ?_)
    | (refine ok_region (i := 5) ?_; refine ok_p rfl rfl rfl (by exact ps_move rfl rfl) ?_; refine ok_p rfl rfl rfl (by exact ps_move rfl rfl) ?_; refine ok_p rfl rfl rfl (by exact ps_move rfl rfl) ?_; refine ok_p rfl rfl rfl (by exact ps_move rfl rfl) ?_; refine ok_p rfl rfl rfl (by exact ps_indexN rfl rfl rfl (by omega) (by exact isw_of (isS_fl (by assumption) (by omega)))) ?_; refine ok_p rfl rfl rfl (by exact ps_load rfl rfl (by exact Rds.cell (rds_rf (by assumption) (by exact List.mem_cons_self)) (by exact fl_at0 _ _ (by omega) (by decide)))) ?_; refine ok_p rfl rfl rfl (by exact ps_indexN rfl rfl rfl (by omega) (by exact isw_ga _)) ?_; refine ok_m_ rfl rfl (by exact ms_setw 0 k (nth l k) rfl rfl rfl rfl rfl rfl rfl rfl rfl (by simp; omega)) ?_; rintro y_ hy_; refine ok_nil ?_; refine ok_env [(0, _), (3, _), (4, _)] ⟨rfl, rfl, rfl, trivial⟩ ?_)
    | (refine ok_region (i := 6) ?_; refine ok_p rfl rfl rfl (by exact ps_move rfl rfl) ?_; refine ok_p rfl rfl rfl (by exact ps_assign rfl rfl) ?_; refine ok_nil ?_; refine ok_env [(2, _)] ⟨rfl, trivial⟩ ?_))
  · refine fun a w' he hw => ⟨⟨k + 1, by omega⟩, by simp only; omega, he.sub ⟨rfl, rfl, rfl, trivial⟩, ?_⟩
    simp only
    rw [← fill_step l Dat.dflt k (by omega)]
    exact hw
  · obtain rfl : k = l.length := by omega
    refine ok_endL (vs := [_]) rfl ⟨rfl, trivial⟩ (fun w' hw => ⟨mkY (ga (y7 0).c) l.length w, rfl, trivial, hw.below, ?_⟩)
    have := NewOk.of hw
    simpa [mkY] using this
theorem eqStringS_c (A B : Option Addr) (c d : Nat) (l : List ByteArray) (w : World) (h : Rd w A (fl l)) (h2 : Rd w B (fl l)) (hl : l.length ≤ 140737488355328) :
    Calls Try.prog 139 #[.slice A l.length c, .slice B l.length d] w fun e w' => e = .returned (.bool true) ∧ Below w.heap.size w w' := by
  refine ok_enter 26 Try.func139 rfl rfl rfl ?_
  repeat' (first
    | refine ok_seq ?_
    | refine ok_then ?_
    | refine ok_then_ret ?_
    | refine ok_block ?_
    | (refine ok_cond rfl (fun hc => ?_) (fun hc => ?_) <;> (have hd := hc; (try simp only [decide_eq_true_eq, decide_eq_false_iff_not, Bool.or_eq_true, Bool.or_eq_false_iff, Bool.and_eq_true, Bool.and_eq_false_iff, Bool.not_eq_true', Bool.not_eq_false', bne_iff_ne, beq_iff_eq, bne_eq_false_iff_eq, beq_eq_false_iff_ne, ne_eq, Bool.not_true, Bool.not_false, Bool.false_eq_true, Bool.true_eq_false, inB_true, inB_false] at hd)))
    | refine ok_ret ?_
    | refine ok_skip ?_
    | (refine ok_region (i := 0) ?_; refine ok_p rfl rfl rfl (by exact ps_assign rfl rfl) ?_; refine ok_nil ?_; refine ok_env [(0, _), (1, _)] ⟨rfl, rfl, trivial⟩ ?_)
    | (refine ok_region (i := 1) ?_; refine ok_p rfl rfl rfl (by exact ps_move rfl rfl) ?_; refine ok_p rfl rfl rfl (by exact ps_len rfl rfl) ?_; refine ok_p rfl rfl rfl (by exact ps_move rfl rfl) ?_; refine ok_p rfl rfl rfl (by exact ps_len rfl rfl) ?_; refine ok_p rfl rfl rfl (by exact ps_int rfl rfl rfl rfl) ?_; refine ok_nil ?_; refine ok_env [(0, _), (1, _), (10, _)] ⟨rfl, rfl, rfl, trivial⟩ ?_)
    | (refine ok_region (i := 2) ?_; refine ok_p rfl rfl rfl (by exact ps_assign rfl rfl) ?_; refine ok_nil ?_; refine ok_env [(4, _)] ⟨rfl, trivial⟩ ?_)
    | (refine ok_region (i := 3) ?_; refine ok_p rfl rfl rfl (by exact ps_assign rfl rfl) ?_; refine ok_nil ?_; refine ok_env [(0, _), (1, _), (5, _)] ⟨rfl, rfl, rfl, trivial⟩ ?_))
  · exact absurd hc (by simp)
  · refine ok_loop (ι := { k : Nat // k ≤ l.length }) (fun k => l.length - k.1) (fun k => ([(0, .slice A l.length c), (1, .slice B l.length d), (5, .int .i64 k.1)], _, _)) ⟨0, by omega⟩ (fun a w he hw => ⟨⟨0, by omega⟩, he.sub ⟨rfl, rfl, rfl, trivial⟩, hw⟩) ?_
    rintro ⟨k, hk⟩
    simp only at hk ⊢
    repeat' (first
      | refine ok_seq ?_
      | refine ok_then ?_
      | refine ok_then_ret ?_
      | refine ok_block ?_
      | refine ok_in_normal ?_
      | refine ok_in_ret ?_
      | (refine ok_cond rfl (fun hc => ?_) (fun hc => ?_) <;> (have hd := hc; (try simp only [decide_eq_true_eq, decide_eq_false_iff_not, Bool.or_eq_true, Bool.or_eq_false_iff, Bool.and_eq_true, Bool.and_eq_false_iff, Bool.not_eq_true', Bool.not_eq_false', bne_iff_ne, beq_iff_eq, bne_eq_false_iff_eq, beq_eq_false_iff_ne, ne_eq, Bool.not_true, Bool.not_false, Bool.false_eq_true, Bool.true_eq_false, inB_true, inB_false] at hd)))
      | refine ok_ret ?_
      | refine ok_exit ?_
      | refine ok_skip ?_
      | (refine ok_region (i := 4) ?_; refine ok_p rfl rfl rfl (by exact ps_move rfl rfl) ?_; refine ok_p rfl rfl rfl (by exact ps_move rfl rfl) ?_; refine ok_p rfl rfl rfl (by exact ps_len rfl rfl) ?_; refine ok_p rfl rfl rfl (by exact ps_int rfl rfl rfl rfl) ?_; refine ok_nil ?_; refine ok_env [(0, _), (1, _), (5, _), (14, _)] ⟨rfl, rfl, rfl, rfl, trivial⟩ ?_)
      | (refine ok_region (i := 5) ?_; refine ok_p rfl rfl rfl (by exact ps_move rfl rfl) ?_; refine ok_p rfl rfl rfl (by exact ps_add rfl rfl rfl (by omega)) ?_; refine ok_p rfl rfl rfl (by exact ps_assign rfl rfl) ?_; refine ok_nil ?_; refine ok_env [(0, _), (1, _), (5, _)] ⟨rfl, rfl, rfl, trivial⟩ ?_)
      | (refine ok_draw (id := 6) 9 rfl (by kernel_rfl) (by kernel_rfl) rfl (by repeat (first | exact pq_body | refine pq_then ?_ | refine pq_in ?_)) [0, 1, 2, 3, 4, 5, 6, 7, 8, 9, 10, 11, 12, 13, 14, 15, 16, 17, 18, 19, 20, 21, 22, 23] (by decide) rfl ?_; refine okT_take (i := 0) rfl (by kernel_rfl) rfl rfl rfl (by exact ps_move rfl rfl) ?_; refine okT_take (i := 1) rfl (by kernel_rfl) rfl rfl rfl (by exact ps_move rfl rfl) ?_; refine okT_take (i := 2) rfl (by kernel_rfl) rfl rfl rfl (by exact ps_indexN rfl rfl rfl (by omega) (by exact isw_of (isS_fl (by assumption) (by omega)))) ?_; refine okT_take (i := 3) rfl (by kernel_rfl) rfl rfl rfl (by exact ps_load rfl rfl (by exact Rds.cell (rds_rf (by assumption) (by exact List.mem_cons_self)) (by exact fl_at0 _ _ (by omega) (by decide)))) ?_; refine okT_take (i := 4) rfl (by kernel_rfl) rfl rfl rfl (by exact ps_move rfl rfl) ?_; refine okT_take (i := 5) rfl (by kernel_rfl) rfl rfl rfl (by exact ps_move rfl rfl) ?_; refine okT_take (i := 6) rfl (by kernel_rfl) rfl rfl rfl (by exact ps_indexN rfl rfl rfl (by omega) (by exact isw_of (isS_fl (by assumption) (by omega)))) ?_; refine okT_take (i := 7) rfl (by kernel_rfl) rfl rfl rfl (by exact ps_load rfl rfl (by exact Rds.cell (rds_rf (by assumption) (by exact List.mem_cons_self)) (by exact fl_at0 _ _ (by omega) (by decide)))) ?_; refine okT_take (i := 8) rfl (by kernel_rfl) rfl rfl rfl (by exact ps_str rfl rfl rfl rfl) ?_; refine okT_done (by kernel_rfl) ?_; refine ok_nil ?_; refine ok_env [(0, _), (1, _), (5, _), (25, _)] ⟨rfl, rfl, rfl, rfl, trivial⟩ ?_)
      | (refine ok_region (i := 7) ?_; refine ok_p rfl rfl rfl (by exact ps_assign rfl rfl) ?_; refine ok_nil ?_; refine ok_env [(4, _)] ⟨rfl, trivial⟩ ?_)
      | (refine ok_region (i := 8) ?_; refine ok_p rfl rfl rfl (by exact ps_assign rfl rfl) ?_; refine ok_nil ?_; refine ok_env [(4, _)] ⟨rfl, trivial⟩ ?_))
    all_goals first
      | (exfalso; simp [sEq] at hc; done)
      | exact fun a w' he hw => ⟨⟨k + 1, by omega⟩, by simp only; omega, he.sub ⟨rfl, rfl, rfl, trivial⟩, hw⟩
      | exact ok_endL (vs := [_]) rfl ⟨rfl, trivial⟩ (fun w' hw => ⟨rfl, hw.below⟩)
theorem markStringS_c (A : Option Addr) (c : Nat) (l : List ByteArray) (k0 : Int) (hk0 : 0 ≤ k0 ∧ k0 ≤ 1000000000000000) (hl : l.length ≤ 140737488355328) {base : Nat} {w0 w : World} {H : List HObj} {G : List World}
    (hw : WOk base w0 (.row 9 1 A l.length c (fl l) :: H) G w) :
    Calls Try.prog 166 #[.slice A l.length c, .int .i64 k0] w fun e w' => ∃ y : Ys, e = .returned (.int .i64 (k0 + 1 * (l.length : Int))) ∧ True ∧ WOk base w0 (.row 9 1 A l.length c (fl (mkL k0 l.length : List ByteArray)) :: H) G w' := by
  refine ok_enterW 20 Try.func166 rfl rfl rfl hw ?_
  repeat' (first
    | refine ok_seq ?_
    | refine ok_then ?_
    | refine ok_block ?_
    | (refine ok_region (i := 0) ?_; refine ok_p rfl rfl rfl (by exact ps_assign rfl rfl) ?_; refine ok_nil ?_; refine ok_env [(0, _), (1, _)] ⟨rfl, rfl, trivial⟩ ?_)
    | (refine ok_region (i := 1) ?_; refine ok_p rfl rfl rfl (by exact ps_assign rfl rfl) ?_; refine ok_nil ?_; refine ok_env [(0, _), (1, _), (5, _)] ⟨rfl, rfl, rfl, trivial⟩ ?_))
  refine ok_loop (ι := { k : Nat // k ≤ l.length }) (fun k => l.length - k.1) (fun k => ([(0, .slice A l.length c), (1, .int .i64 (k0 + 1 * (k.1 : Int))), (5, .int .i64 k.1)], .row 9 1 A l.length c (fl (mkL k0 k.1 ++ l.drop k.1)) :: H, _)) ⟨0, by omega⟩ (fun a w he hw => ⟨⟨0, by omega⟩, he.sub ⟨rfl, by simp [look, initE], rfl, trivial⟩, by simpa [mkL] using hw⟩) ?_
  rintro ⟨k, hk⟩
  simp only at hk ⊢
  repeat' (first
    | refine ok_seq ?_
    | refine ok_then ?_
    | refine ok_block ?_
    | refine ok_in_normal ?_
    | (refine ok_cond rfl (fun hc => ?_) (fun hc => ?_) <;> (have hd := hc; (try simp only [decide_eq_true_eq, decide_eq_false_iff_not, Bool.or_eq_true, Bool.or_eq_false_iff, Bool.and_eq_true, Bool.and_eq_false_iff, Bool.not_eq_true', Bool.not_eq_false', bne_iff_ne, beq_iff_eq, bne_eq_false_iff_eq, beq_eq_false_iff_ne, ne_eq, Bool.not_true, Bool.not_false, Bool.false_eq_true, Bool.true_eq_false, inB_true, inB_false] at hd)))
    | refine ok_ret ?_
    | refine ok_exit ?_
    | refine ok_skip ?_
    | (refine ok_region (i := 2) ?_; refine ok_p rfl rfl rfl (by exact ps_move rfl rfl) ?_; refine ok_p rfl rfl rfl (by exact ps_move rfl rfl) ?_; refine ok_p rfl rfl rfl (by exact ps_len rfl rfl) ?_; refine ok_p rfl rfl rfl (by exact ps_int rfl rfl rfl rfl) ?_; refine ok_nil ?_; refine ok_env [(0, _), (1, _), (5, _), (9, _)] ⟨rfl, rfl, rfl, rfl, trivial⟩ ?_)
    | (refine ok_region (i := 3) ?_; refine ok_p rfl rfl rfl (by exact ps_move rfl rfl) ?_; refine ok_p rfl rfl rfl (by exact ps_add rfl rfl rfl (by omega)) ?_; refine ok_p rfl rfl rfl (by exact ps_assign rfl rfl) ?_; refine ok_nil ?_; refine ok_env [(0, _), (1, _), (5, _)] ⟨rfl, rfl, rfl, trivial⟩ ?_)
    | (refine ok_region (i := 4) ?_; refine ok_p rfl rfl rfl (by exact ps_move rfl rfl) ?_; refine ok_p rfl rfl rfl (by exact ps_move rfl rfl) ?_; refine ok_p rfl rfl rfl (by exact ps_move rfl rfl) ?_; refine ok_m rfl rfl rfl (by exact ms_s1 rfl rfl (fun _ _ w hw => markText_c _ (by omega) w)) ?_; rintro y15 hy15; refine ok_p rfl rfl rfl (by exact ps_indexN rfl rfl rfl (by omega) (by exact isw_row 0 rfl (by omega))) ?_; refine ok_m_ rfl rfl (by exact ms_setw 0 k (mT (k0 + 1 * (k : Int))) rfl rfl rfl rfl rfl rfl rfl rfl rfl (by simp [mkL_len]; omega)) ?_; rintro y_ hy_; refine ok_nil ?_; refine ok_env [(0, _), (1, _), (5, _)] ⟨rfl, rfl, rfl, trivial⟩ ?_)
    | (refine ok_region (i := 5) ?_; refine ok_p rfl rfl rfl (by exact ps_move rfl rfl) ?_; refine ok_p rfl rfl rfl (by exact ps_add rfl rfl rfl (by omega)) ?_; refine ok_p rfl rfl rfl (by exact ps_assign rfl rfl) ?_; refine ok_nil ?_; refine ok_env [(0, _), (1, _), (5, _)] ⟨rfl, rfl, rfl, trivial⟩ ?_)
    | (refine ok_region (i := 6) ?_; refine ok_p rfl rfl rfl (by exact ps_move rfl rfl) ?_; refine ok_p rfl rfl rfl (by exact ps_assign rfl rfl) ?_; refine ok_nil ?_; refine ok_env [(4, _)] ⟨rfl, trivial⟩ ?_))
  · refine fun a w' he hw => ⟨⟨k + 1, by omega⟩, by simp only; omega, he.sub ⟨rfl, ?_, rfl, trivial⟩, ?_⟩
    · simp only [look]; congr 2; simp; omega
    · have e := mk_step l k0 k (by omega)
      simp only
      rw [← e]
      refine WOk.same ?_ hw
      simp only [List.set_cons_zero, List.set_set]
      rfl
  · obtain rfl : k = l.length := by omega
    refine ok_endL (vs := [_]) rfl ⟨rfl, trivial⟩ (fun w' hw => ⟨mkY none 0 w, rfl, trivial, ?_⟩)
    simpa using hw
theorem heldStringS_c (A : Option Addr) (c : Nat) (n : Nat) (k0 : Int) (hk0 : 0 ≤ k0 ∧ k0 ≤ 1000000000000000) (hl : n ≤ 140737488355328) (w : World) (h : Rd w A (fl (mkL k0 n : List ByteArray))) :
    Calls Try.prog 167 #[.slice A n c, .int .i64 k0] w fun e w' => e = .returned (.int .i64 (k0 + 1 * (n : Int))) ∧ Below w.heap.size w w' := by
  have hln : (mkL k0 n : List ByteArray).length = n := mkL_len k0 n
  refine ok_enter 22 Try.func167 rfl rfl rfl ?_
  repeat' (first
    | refine ok_seq ?_
    | refine ok_then ?_
    | refine ok_block ?_
    | (refine ok_region (i := 0) ?_; refine ok_p rfl rfl rfl (by exact ps_assign rfl rfl) ?_; refine ok_nil ?_; refine ok_env [(0, _), (1, _)] ⟨rfl, rfl, trivial⟩ ?_)
    | (refine ok_region (i := 1) ?_; refine ok_p rfl rfl rfl (by exact ps_assign rfl rfl) ?_; refine ok_nil ?_; refine ok_env [(0, _), (1, _), (5, _)] ⟨rfl, rfl, rfl, trivial⟩ ?_))
  refine ok_loop (ι := { k : Nat // k ≤ n }) (fun k => n - k.1) (fun k => ([(0, .slice A n c), (1, .int .i64 (k0 + 1 * (k.1 : Int))), (5, .int .i64 k.1)], _, _)) ⟨0, by omega⟩ (fun a w he hw => ⟨⟨0, by omega⟩, he.sub ⟨rfl, by simp [look, initE], rfl, trivial⟩, hw⟩) ?_
  rintro ⟨k, hk⟩
  simp only at hk ⊢
  repeat' (first
    | refine ok_seq ?_
    | refine ok_then ?_
    | refine ok_then_ret ?_
    | refine ok_block ?_
    | refine ok_in_normal ?_
    | refine ok_in_ret ?_
    | (refine ok_cond rfl (fun hc => ?_) (fun hc => ?_) <;> (have hd := hc; (try simp only [decide_eq_true_eq, decide_eq_false_iff_not, Bool.or_eq_true, Bool.or_eq_false_iff, Bool.and_eq_true, Bool.and_eq_false_iff, Bool.not_eq_true', Bool.not_eq_false', bne_iff_ne, beq_iff_eq, bne_eq_false_iff_eq, beq_eq_false_iff_ne, ne_eq, Bool.not_true, Bool.not_false, Bool.false_eq_true, Bool.true_eq_false, inB_true, inB_false] at hd)))
    | refine ok_ret ?_
    | refine ok_exit ?_
    | refine ok_skip ?_
    | (refine ok_region (i := 2) ?_; refine ok_p rfl rfl rfl (by exact ps_move rfl rfl) ?_; refine ok_p rfl rfl rfl (by exact ps_move rfl rfl) ?_; refine ok_p rfl rfl rfl (by exact ps_len rfl rfl) ?_; refine ok_p rfl rfl rfl (by exact ps_int rfl rfl rfl rfl) ?_; refine ok_nil ?_; refine ok_env [(0, _), (1, _), (5, _), (9, _)] ⟨rfl, rfl, rfl, rfl, trivial⟩ ?_)
    | (refine ok_region (i := 3) ?_; refine ok_p rfl rfl rfl (by exact ps_move rfl rfl) ?_; refine ok_p rfl rfl rfl (by exact ps_add rfl rfl rfl (by omega)) ?_; refine ok_p rfl rfl rfl (by exact ps_assign rfl rfl) ?_; refine ok_nil ?_; refine ok_env [(0, _), (1, _), (5, _)] ⟨rfl, rfl, rfl, trivial⟩ ?_)
    | (refine ok_draw (id := 4) 7 rfl (by kernel_rfl) (by kernel_rfl) rfl (by repeat (first | exact pq_body | refine pq_then ?_ | refine pq_in ?_)) [0, 1, 2, 3, 4, 5, 6, 7, 8, 9, 10, 11, 12, 13, 14, 15, 16, 17, 18, 19, 20, 21, 22, 23] (by decide) rfl ?_; refine okT_take (i := 0) rfl (by kernel_rfl) rfl rfl rfl (by exact ps_move rfl rfl) ?_; refine okT_take (i := 1) rfl (by kernel_rfl) rfl rfl rfl (by exact ps_move rfl rfl) ?_; refine okT_take (i := 2) rfl (by kernel_rfl) rfl rfl rfl (by exact ps_indexN rfl rfl rfl (by omega) (by exact isw_of (isS_fl (by assumption) (by omega)))) ?_; refine okT_take (i := 3) rfl (by kernel_rfl) rfl rfl rfl (by exact ps_load rfl rfl (by exact Rds.cell (rds_rf (by assumption) (by exact List.mem_cons_self)) (by exact fl_at0 _ _ (by omega) (by decide)))) ?_; refine okT_take (i := 4) rfl (by kernel_rfl) rfl rfl rfl (by exact ps_move rfl rfl) ?_; refine okT_one (i := 5) rfl rfl (by kernel_rfl) rfl rfl rfl (by exact ms_s1 rfl rfl (fun _ _ w hw => markText_c _ (by omega) w)) (fun y w _ h => by exact h) ?_; rintro y17 hy17; refine okT_take (i := 6) rfl (by kernel_rfl) rfl rfl rfl (by exact ps_str rfl rfl rfl rfl) ?_; refine okT_done (by kernel_rfl) ?_; refine ok_nil ?_; refine ok_env [(0, _), (1, _), (5, _), (18, _)] ⟨rfl, rfl, rfl, rfl, trivial⟩ ?_)
    | (refine ok_region (i := 5) ?_; refine ok_p rfl rfl rfl (by exact ps_assign rfl rfl) ?_; refine ok_nil ?_; refine ok_env [(4, _)] ⟨rfl, trivial⟩ ?_)
    | (refine ok_region (i := 6) ?_; refine ok_p rfl rfl rfl (by exact ps_move rfl rfl) ?_; refine ok_p rfl rfl rfl (by exact ps_add rfl rfl rfl (by omega)) ?_; refine ok_p rfl rfl rfl (by exact ps_assign rfl rfl) ?_; refine ok_nil ?_; refine ok_env [(0, _), (1, _), (5, _)] ⟨rfl, rfl, rfl, trivial⟩ ?_)
    | (refine ok_region (i := 7) ?_; refine ok_p rfl rfl rfl (by exact ps_move rfl rfl) ?_; refine ok_p rfl rfl rfl (by exact ps_assign rfl rfl) ?_; refine ok_nil ?_; refine ok_env [(4, _)] ⟨rfl, trivial⟩ ?_))
  all_goals try (have hnth := mkL_nth (α := ByteArray) k0 n k (by omega))
  all_goals first
    | (exfalso; rw [hnth] at hc; simp [Mk.mkv, Mk.cnt, sEq] at hc; done)
    | (refine fun a w' he hw => ⟨⟨k + 1, by omega⟩, by simp only; omega, he.sub ⟨rfl, ?_, rfl, trivial⟩, hw⟩
       simp only [look]; congr 2; simp; omega)
    | (obtain rfl : k = n := by omega
       exact ok_endL (vs := [_]) rfl ⟨rfl, trivial⟩ (fun w' hw => ⟨rfl, hw.below⟩))
end Go.Proofs.Ytfcnimglcialbaa
/- The record KV by its type. -/
namespace Go.Proofs.Ytfcnimglcialbaa
open Go.RowKit
set_option linter.unusedVariables false
set_option linter.unusedSimpArgs false
abbrev gKV : GT := .st [.str, .str]
theorem flatKV : FlatAt gKV (α := KV) (fun x => ⟨x.1, x.2.1⟩) bigKV := fun w x c h => by
  obtain ⟨a0, a1, u⟩ := x
  obtain ⟨c0, d0, rfl, h0, e0⟩ := RdTL.cons.1 (RdT.st.1 h)
  obtain ⟨c1, d1, rfl, h1, e1⟩ := RdTL.cons.1 e0
  rw [RdTL.nil] at e1; subst e1
  obtain ⟨rfl, b0⟩ := RdT.str.1 h0
  obtain ⟨rfl, b1⟩ := RdT.str.1 h1
  exact ⟨rfl, b0, b1⟩
end Go.Proofs.Ytfcnimglcialbaa
/- Strings by their type. -/
namespace Go.Proofs.Ytfcnimglcialbaa
open Go.RowKit
set_option linter.unusedVariables false
theorem flatStr : FlatAt .str (α := ByteArray) (fun x => x) bigStr := fun w x c h => RdT.str.1 h
end Go.Proofs.Ytfcnimglcialbaa
/- Delta in the uniform style: size, copy, comparison, marks. -/
namespace Go.Proofs.Ytfcnimglcialbaa
open Go.RowKit
set_option maxHeartbeats 4000000
set_option maxRecDepth 20000
set_option linter.unusedVariables false
set_option linter.unusedSimpArgs false
attribute [local irreducible] Calls
structure DDelta where
  U : List KV
  D : List ByteArray
  deriving DecidableEq
def Delta_val (x : DDelta) (y : Ys) : Value := .agg #[.slice (y 0).A x.U.length (y 0).c, .slice (y 1).A x.D.length (y 1).c]
def Delta_obj (x : DDelta) (y : Ys) : List HObj := [.row 162 2 (y 0).A x.U.length (y 0).c (fl x.U), .row 9 1 (y 1).A x.D.length (y 1).c (fl x.D)]
def Delta_rd (w : World) (x : DDelta) (y : Ys) : Prop := Rd w (y 0).A (fl x.U) ∧ Rd w (y 1).A (fl x.D)
def Delta_big (x : DDelta) : Prop := (x.U.length ≤ maxLen ∧ ∀ u ∈ x.U, bigKV u) ∧ (x.D.length ≤ maxLen ∧ ∀ u ∈ x.D, bigStr u)
def Delta_sm (x : DDelta) : Prop := (x.U.length ≤ 1048576 ∧ ∀ u ∈ x.U, wtKV u) ∧ (x.D.length ≤ 1048576 ∧ ∀ u ∈ x.D, wtStr u)
def Delta_lim (x : DDelta) : Prop := x.U.length ≤ 4194304 ∧ x.D.length ≤ 4194304
def Delta_cnt (x : DDelta) (k : Int) : Int := ((k + 2 * (x.U.length : Int)) + 1 * (x.D.length : Int))
def Delta_mk (k : Int) (x : DDelta) : DDelta := { x with U := mkL k x.U.length, D := mkL (k + 2 * (x.U.length : Int)) x.D.length }
theorem szDelta_c (x : DDelta) (y : Ys) (left : Int) (hl : 0 ≤ left ∧ left ≤ 1048576) (w : World) (h : Delta_rd w x y) (hb : Delta_big x) :
    Calls Try.prog 47 #[Delta_val x y, .int .i64 left] w fun e w' => ∃ y : Ys, e = .returned (.int .i64 (y 0).n) ∧ (-1 ≤ (y 0).n ∧ (y 0).n ≤ left ∧ (0 ≤ (y 0).n → Delta_sm x)) ∧ Below w.heap.size w w' ∧ NewOk w.heap.size [] [] w' := by
  unfold Delta_big at hb
  unfold Delta_rd at h
  obtain ⟨⟨m0, g0⟩, ⟨m1, g1⟩⟩ := hb
  obtain ⟨h0, h1⟩ := h
  refine ok_enter 18 Try.func47 rfl rfl rfl ?_
  repeat' (first
    | refine ok_seq ?_
    | refine ok_then ?_
    | refine ok_then_ret ?_
    | (refine ok_cond rfl (fun hc => ?_) (fun hc => ?_) <;> (have hd := hc; (try simp only [decide_eq_true_eq, decide_eq_false_iff_not, Bool.or_eq_true, Bool.or_eq_false_iff, Bool.and_eq_true, Bool.and_eq_false_iff, Bool.not_eq_true', Bool.not_eq_false', bne_iff_ne, beq_iff_eq, bne_eq_false_iff_eq, beq_eq_false_iff_ne, ne_eq, Bool.not_true, Bool.not_false, Bool.false_eq_true, Bool.true_eq_false, inB_true, inB_false] at hd)))
    | refine ok_ret ?_
    | refine ok_skip ?_
    | (refine ok_region (i := 0) ?_; refine ok_m rfl rfl rfl (by exact ms_box rfl rfl rfl) ?_; rintro y2 hy2; refine ok_p rfl rfl rfl (by exact ps_assign rfl rfl) ?_; refine ok_nil ?_; refine ok_env [(1, _), (2, _)] ⟨rfl, rfl, trivial⟩ ?_)
    | (refine ok_region (i := 1) ?_; refine ok_p rfl rfl rfl (by exact ps_field rfl rfl (by exact isw_ga _)) ?_; refine ok_p rfl rfl rfl (by exact ps_load rfl rfl (by exact Rds.cell (rds_box 0 rfl) rfl)) ?_; refine ok_p rfl rfl rfl (by exact ps_move rfl rfl) ?_; refine ok_m rfl rfl rfl (by exact ms_c2 rfl rfl rfl (fun _ _ w hw => szKVS_c _ _ x.U _ ⟨by omega, by omega⟩ m0 g0 w (rds_rf h0 (by exact List.mem_cons_self) _ _ w hw))) ?_; rintro y8 hy8; refine ok_p rfl rfl rfl (by exact ps_assign rfl rfl) ?_; refine ok_nil ?_; refine ok_env [(1, _), (2, _)] ⟨rfl, rfl, trivial⟩ ?_)
    | (refine ok_region (i := 2) ?_; refine ok_p rfl rfl rfl (by exact ps_move rfl rfl) ?_; refine ok_p rfl rfl rfl (by exact ps_int rfl rfl rfl rfl) ?_; refine ok_nil ?_; refine ok_env [(1, _), (2, _), (10, _)] ⟨rfl, rfl, rfl, trivial⟩ ?_)
    | (refine ok_region (i := 3) ?_; refine ok_p rfl rfl rfl (by exact ps_assign rfl rfl) ?_; refine ok_nil ?_; refine ok_env [(4, _)] ⟨rfl, trivial⟩ ?_)
    | (refine ok_region (i := 4) ?_; refine ok_p rfl rfl rfl (by exact ps_field rfl rfl (by exact isw_ga _)) ?_; refine ok_p rfl rfl rfl (by exact ps_load rfl rfl (by exact Rds.cell (rds_box 0 rfl) rfl)) ?_; refine ok_p rfl rfl rfl (by exact ps_move rfl rfl) ?_; refine ok_m rfl rfl rfl (by exact ms_c2 rfl rfl rfl (fun _ _ w hw => szStringS_c _ _ x.D _ ⟨by omega, by omega⟩ m1 g1 w (rds_rf h1 (by exact List.mem_cons_self) _ _ w hw))) ?_; rintro y14 hy14; refine ok_p rfl rfl rfl (by exact ps_assign rfl rfl) ?_; refine ok_nil ?_; refine ok_env [(1, _)] ⟨rfl, trivial⟩ ?_)
    | (refine ok_region (i := 5) ?_; refine ok_p rfl rfl rfl (by exact ps_move rfl rfl) ?_; refine ok_p rfl rfl rfl (by exact ps_int rfl rfl rfl rfl) ?_; refine ok_nil ?_; refine ok_env [(1, _), (16, _)] ⟨rfl, rfl, trivial⟩ ?_)
    | (refine ok_region (i := 6) ?_; refine ok_p rfl rfl rfl (by exact ps_assign rfl rfl) ?_; refine ok_nil ?_; refine ok_env [(4, _)] ⟨rfl, trivial⟩ ?_)
    | (refine ok_region (i := 7) ?_; refine ok_p rfl rfl rfl (by exact ps_move rfl rfl) ?_; refine ok_p rfl rfl rfl (by exact ps_assign rfl rfl) ?_; refine ok_nil ?_; refine ok_env [(4, _)] ⟨rfl, trivial⟩ ?_))
  all_goals first
    | exact ok_endL (vs := [.int .i64 (-1)]) rfl ⟨rfl, trivial⟩ (fun w' hw => ⟨mkN (-1) w, rfl, ⟨by show (-1 : Int) ≤ -1; decide, by show (-1 : Int) ≤ left; omega, fun h => absurd h (by show ¬ (0 : Int) ≤ -1; decide)⟩, hw.below, NewOk.nil _ _⟩)
    | exact ok_endL (vs := [.int .i64 ((y14 0).n)]) rfl ⟨rfl, trivial⟩ (fun w' hw => ⟨mkN ((y14 0).n) w, rfl, ⟨by show -1 ≤ (y14 0).n; omega, by show (y14 0).n ≤ left; omega, fun _ => ⟨⟨by have := (hy8.2.2 (by omega)).1; omega, (hy8.2.2 (by omega)).2⟩, ⟨by have := (hy14.2.2 (by omega)).1; omega, (hy14.2.2 (by omega)).2⟩⟩⟩, hw.below, NewOk.nil _ _⟩)
theorem toDelta_c (x : DDelta) (y : Ys) (w : World) (h : Delta_rd w x y) (hs : Delta_sm x) :
    Calls Try.prog 49 #[Delta_val x y] w fun e w' => ∃ y : Ys, e = .returned (Delta_val x y) ∧ True ∧ Below w.heap.size w w' ∧ NewOk w.heap.size (Delta_obj x y) [] w' := by
  unfold Delta_sm at hs
  unfold Delta_rd at h
  obtain ⟨h0, h1⟩ := h
  refine ok_enter 13 Try.func49 rfl rfl rfl ?_
  repeat' (first
    | refine ok_seq ?_
    | refine ok_then ?_
    | refine ok_ret ?_
    | (refine ok_region (i := 0) ?_; refine ok_m rfl rfl rfl (by exact ms_box rfl rfl rfl) ?_; rintro y1 hy1; refine ok_m rfl rfl rfl (by exact ms_alloc rfl) ?_; rintro y2 hy2; refine ok_nil ?_; refine ok_env [(1, _), (2, _)] ⟨rfl, rfl, trivial⟩ ?_)
    | (refine ok_region (i := 1) ?_; refine ok_m rfl rfl rfl (by exact ms_alloc rfl) ?_; rintro y3 hy3; refine ok_nil ?_; refine ok_env [(1, _), (2, _), (3, _)] ⟨rfl, rfl, rfl, trivial⟩ ?_)
    | (refine ok_region (i := 2) ?_; refine ok_p rfl rfl rfl (by exact ps_field rfl rfl (by exact isw_ga _)) ?_; refine ok_p rfl rfl rfl (by exact ps_load rfl rfl (by exact Rds.cell (rds_box 2 rfl) rfl)) ?_; refine ok_m rfl rfl rfl (by exact ms_c1 rfl rfl (fun _ _ w hw => toKVS_c _ _ x.U w (rds_rf h0 (by exact List.mem_cons_self) _ _ w hw) hs.1.1)) ?_; rintro y6 hy6; refine ok_p rfl rfl rfl (by exact ps_field rfl rfl (by exact isw_ga _)) ?_; refine ok_m_ rfl rfl (by exact ms_store 1 rfl rfl rfl rfl rfl rfl rfl rfl) ?_; rintro y_ hy_; refine ok_nil ?_; refine ok_env [(1, _), (2, _), (3, _)] ⟨rfl, rfl, rfl, trivial⟩ ?_)
    | (refine ok_region (i := 3) ?_; refine ok_p rfl rfl rfl (by exact ps_field rfl rfl (by exact isw_ga _)) ?_; refine ok_p rfl rfl rfl (by exact ps_load rfl rfl (by exact Rds.cell (rds_box 3 rfl) rfl)) ?_; refine ok_m rfl rfl rfl (by exact ms_c1 rfl rfl (fun _ _ w hw => toStringS_c _ _ x.D w (rds_rf h1 (by exact List.mem_cons_self) _ _ w hw) hs.2.1)) ?_; rintro y10 hy10; refine ok_p rfl rfl rfl (by exact ps_field rfl rfl (by exact isw_ga _)) ?_; refine ok_m_ rfl rfl (by exact ms_store 2 rfl rfl rfl rfl rfl rfl rfl rfl) ?_; rintro y_ hy_; refine ok_nil ?_; refine ok_env [(2, _), (3, _)] ⟨rfl, rfl, trivial⟩ ?_)
    | (refine ok_region (i := 4) ?_; refine ok_p rfl rfl rfl (by exact ps_loads rfl rfl (by exact rds_box 2 rfl) rfl rfl (by decide)) ?_; refine ok_m_ rfl rfl (by exact ms_store 3 rfl rfl rfl rfl rfl rfl rfl rfl) ?_; rintro y_ hy_; refine ok_nil ?_; refine ok_env [(2, _)] ⟨rfl, trivial⟩ ?_))
  refine ok_endL (vs := [_]) rfl ⟨⟨_, 3, _, _, _, rfl, rfl, inferInstance, rfl, rfl⟩, trivial⟩ (fun w' hw => ?_)
  refine ⟨yl [y6 0, y10 0] (y6 0), ?_, trivial, hw.below, ?_⟩
  · rfl
  · have := NewOk.of (hw.sel [1, 0] (by decide) rfl (fun _ h => h))
    exact this
theorem eqDelta_c (x : DDelta) (y z : Ys) (w : World) (h : Delta_rd w x y) (k : Delta_rd w x z) (hl : Delta_lim x) :
    Calls Try.prog 51 #[Delta_val x y, Delta_val x z] w fun e w' => e = .returned (.bool true) ∧ Below w.heap.size w w' := by
  unfold Delta_rd at h k
  unfold Delta_lim at hl
  obtain ⟨h0, h1⟩ := h
  obtain ⟨k0, k1⟩ := k
  refine ok_enter 17 Try.func51 rfl rfl rfl ?_
  repeat' (first
    | refine ok_seq ?_
    | refine ok_then ?_
    | (refine ok_cond rfl (fun hc => ?_) (fun hc => ?_) <;> (have hd := hc; (try simp only [decide_eq_true_eq, decide_eq_false_iff_not, Bool.or_eq_true, Bool.or_eq_false_iff, Bool.and_eq_true, Bool.and_eq_false_iff, Bool.not_eq_true', Bool.not_eq_false', bne_iff_ne, beq_iff_eq, bne_eq_false_iff_eq, beq_eq_false_iff_ne, ne_eq, Bool.not_true, Bool.not_false, Bool.false_eq_true, Bool.true_eq_false, inB_true, inB_false] at hd)))
    | refine ok_ret ?_
    | refine ok_skip ?_
    | (refine ok_region (i := 0) ?_; refine ok_m rfl rfl rfl (by exact ms_box rfl rfl rfl) ?_; rintro y2 hy2; refine ok_m rfl rfl rfl (by exact ms_box rfl rfl rfl) ?_; rintro y3 hy3; refine ok_p rfl rfl rfl (by exact ps_assign rfl rfl) ?_; refine ok_nil ?_; refine ok_env [(2, _), (3, _)] ⟨rfl, rfl, trivial⟩ ?_)
    | (refine ok_region (i := 1) ?_; refine ok_p rfl rfl rfl (by exact ps_field rfl rfl (by exact isw_ga _)) ?_; refine ok_p rfl rfl rfl (by exact ps_load rfl rfl (by exact Rds.cell (rds_box 1 rfl) rfl)) ?_; refine ok_p rfl rfl rfl (by exact ps_field rfl rfl (by exact isw_ga _)) ?_; refine ok_p rfl rfl rfl (by exact ps_load rfl rfl (by exact Rds.cell (rds_box 0 rfl) rfl)) ?_; refine ok_m rfl rfl rfl (by exact ms_s2 rfl rfl rfl (fun _ _ w hw => eqKVS_c _ _ _ _ x.U w (rds_rf h0 (by exact List.mem_cons_self) _ _ w hw) (rds_rf k0 (by exact List.mem_cons_self) _ _ w hw) (by omega))) ?_; rintro y9 hy9; refine ok_p rfl rfl rfl (by exact ps_not rfl rfl) ?_; refine ok_nil ?_; refine ok_env [(2, _), (3, _), (10, _)] ⟨rfl, rfl, rfl, trivial⟩ ?_)
    | (refine ok_region (i := 3) ?_; refine ok_p rfl rfl rfl (by exact ps_field rfl rfl (by exact isw_ga _)) ?_; refine ok_p rfl rfl rfl (by exact ps_load rfl rfl (by exact Rds.cell (rds_box 1 rfl) rfl)) ?_; refine ok_p rfl rfl rfl (by exact ps_field rfl rfl (by exact isw_ga _)) ?_; refine ok_p rfl rfl rfl (by exact ps_load rfl rfl (by exact Rds.cell (rds_box 0 rfl) rfl)) ?_; refine ok_m rfl rfl rfl (by exact ms_s2 rfl rfl rfl (fun _ _ w hw => eqStringS_c _ _ _ _ x.D w (rds_rf h1 (by exact List.mem_cons_self) _ _ w hw) (rds_rf k1 (by exact List.mem_cons_self) _ _ w hw) (by omega))) ?_; rintro y15 hy15; refine ok_p rfl rfl rfl (by exact ps_not rfl rfl) ?_; refine ok_nil ?_; refine ok_env [(16, _)] ⟨rfl, trivial⟩ ?_)
    | (refine ok_region (i := 5) ?_; refine ok_p rfl rfl rfl (by exact ps_assign rfl rfl) ?_; refine ok_nil ?_; refine ok_env [(4, _)] ⟨rfl, trivial⟩ ?_))
  all_goals first
    | (exfalso; simp [sEq] at hc; done)
    | exact ok_endL (vs := [_]) rfl ⟨rfl, trivial⟩ (fun w' hw => ⟨rfl, hw.below⟩)
theorem markDelta_c (x : DDelta) (y : Ys) (k : Int) (hk : 0 ≤ k ∧ k ≤ 100000000000000) (hl : Delta_lim x) {base : Nat} {w0 w : World} {H : List HObj} {G : List World}
    (hw : WOk base w0 (Delta_obj x y ++ H) G w) :
    Calls Try.prog 67 #[Delta_val x y, .int .i64 k] w fun e w' => ∃ q : Ys, e = .returned (.int .i64 (Delta_cnt x k)) ∧ True ∧ WOk base w0 (Delta_obj (Delta_mk k x) y ++ H) G w' := by
  unfold Delta_lim at hl
  refine ok_enterW 14 Try.func67 rfl rfl rfl hw ?_
  repeat' (first
    | refine ok_seq ?_
    | refine ok_then ?_
    | refine ok_ret ?_
    | (refine ok_region (i := 0) ?_; refine ok_m rfl rfl rfl (by exact ms_box rfl rfl rfl) ?_; rintro y2 hy2; refine ok_p rfl rfl rfl (by exact ps_assign rfl rfl) ?_; refine ok_nil ?_; refine ok_env [(1, _), (2, _)] ⟨rfl, rfl, trivial⟩ ?_)
    | (refine ok_region (i := 1) ?_; refine ok_p rfl rfl rfl (by exact ps_field rfl rfl (by exact isw_ga _)) ?_; refine ok_p rfl rfl rfl (by exact ps_load rfl rfl (by exact Rds.cell (rds_box 0 rfl) rfl)) ?_; refine ok_p rfl rfl rfl (by exact ps_move rfl rfl) ?_; refine ok_m rfl rfl rfl (by exact ms_w2 (fun _ _ _ h => h.front 1 rfl) rfl rfl rfl (fun _ _ w hw => markKVS_c _ _ x.U k ⟨by omega, by omega⟩ (by omega) hw)) ?_; rintro y8 hy8; refine ok_p rfl rfl rfl (by exact ps_assign rfl rfl) ?_; refine ok_nil ?_; refine ok_env [(1, _), (2, _)] ⟨rfl, rfl, trivial⟩ ?_)
    | (refine ok_region (i := 2) ?_; refine ok_p rfl rfl rfl (by exact ps_field rfl rfl (by exact isw_ga _)) ?_; refine ok_p rfl rfl rfl (by exact ps_load rfl rfl (by exact Rds.cell (rds_box 1 rfl) rfl)) ?_; refine ok_p rfl rfl rfl (by exact ps_move rfl rfl) ?_; refine ok_m rfl rfl rfl (by exact ms_w2 (fun _ _ _ h => h.front 2 rfl) rfl rfl rfl (fun _ _ w hw => markStringS_c _ _ x.D (k + 2 * (x.U.length : Int)) ⟨by omega, by omega⟩ (by omega) hw)) ?_; rintro y12 hy12; refine ok_p rfl rfl rfl (by exact ps_assign rfl rfl) ?_; refine ok_nil ?_; refine ok_env [(1, _)] ⟨rfl, trivial⟩ ?_)
    | (refine ok_region (i := 3) ?_; refine ok_p rfl rfl rfl (by exact ps_move rfl rfl) ?_; refine ok_p rfl rfl rfl (by exact ps_assign rfl rfl) ?_; refine ok_nil ?_; refine ok_env [(4, _)] ⟨rfl, trivial⟩ ?_))
  refine ok_endL (vs := [_]) rfl ⟨rfl, trivial⟩ (fun w' hw => ?_)
  refine ⟨mkY none 0 w, rfl, trivial, ?_⟩
  have := (((hw.front 0 rfl).front 1 rfl).front 2 rfl).tl
  simp only [Delta_obj, Delta_mk, mkL_len]
  exact this
theorem heldDelta_c (x : DDelta) (y : Ys) (k : Int) (hk : 0 ≤ k ∧ k ≤ 100000000000000) (hl : Delta_lim x) (w : World) (h : Delta_rd w (Delta_mk k x) y) :
    Calls Try.prog 68 #[Delta_val x y, .int .i64 k] w fun e w' => e = .returned (.int .i64 (Delta_cnt x k)) ∧ Below w.heap.size w w' := by
  unfold Delta_rd at h
  simp only [Delta_mk] at h
  unfold Delta_lim at hl
  obtain ⟨h0, h1⟩ := h
  refine ok_enter 18 Try.func68 rfl rfl rfl ?_
  repeat' (first
    | refine ok_seq ?_
    | refine ok_then ?_
    | refine ok_then_ret ?_
    | (refine ok_cond rfl (fun hc => ?_) (fun hc => ?_) <;> (have hd := hc; (try simp only [decide_eq_true_eq, decide_eq_false_iff_not, Bool.or_eq_true, Bool.or_eq_false_iff, Bool.and_eq_true, Bool.and_eq_false_iff, Bool.not_eq_true', Bool.not_eq_false', bne_iff_ne, beq_iff_eq, bne_eq_false_iff_eq, beq_eq_false_iff_ne, ne_eq, Bool.not_true, Bool.not_false, Bool.false_eq_true, Bool.true_eq_false, inB_true, inB_false] at hd)))
    | refine ok_ret ?_
    | refine ok_skip ?_
    | (refine ok_region (i := 0) ?_; refine ok_m rfl rfl rfl (by exact ms_box rfl rfl rfl) ?_; rintro y2 hy2; refine ok_p rfl rfl rfl (by exact ps_assign rfl rfl) ?_; refine ok_nil ?_; refine ok_env [(1, _), (2, _)] ⟨rfl, rfl, trivial⟩ ?_)
    | (refine ok_region (i := 1) ?_; refine ok_p rfl rfl rfl (by exact ps_field rfl rfl (by exact isw_ga _)) ?_; refine ok_p rfl rfl rfl (by exact ps_load rfl rfl (by exact Rds.cell (rds_box 0 rfl) rfl)) ?_; refine ok_p rfl rfl rfl (by exact ps_move rfl rfl) ?_; refine ok_m rfl rfl rfl (by exact ms_s2 rfl rfl rfl (fun _ _ w hw => heldKVS_c _ _ x.U.length k ⟨by omega, by omega⟩ (by omega) w (rds_rf h0 (by exact List.mem_cons_self) _ _ w hw))) ?_; rintro y8 hy8; refine ok_p rfl rfl rfl (by exact ps_assign rfl rfl) ?_; refine ok_nil ?_; refine ok_env [(1, _), (2, _)] ⟨rfl, rfl, trivial⟩ ?_)
    | (refine ok_region (i := 2) ?_; refine ok_p rfl rfl rfl (by exact ps_move rfl rfl) ?_; refine ok_p rfl rfl rfl (by exact ps_int rfl rfl rfl rfl) ?_; refine ok_nil ?_; refine ok_env [(1, _), (2, _), (10, _)] ⟨rfl, rfl, rfl, trivial⟩ ?_)
    | (refine ok_region (i := 3) ?_; refine ok_p rfl rfl rfl (by exact ps_assign rfl rfl) ?_; refine ok_nil ?_; refine ok_env [(4, _)] ⟨rfl, trivial⟩ ?_)
    | (refine ok_region (i := 4) ?_; refine ok_p rfl rfl rfl (by exact ps_field rfl rfl (by exact isw_ga _)) ?_; refine ok_p rfl rfl rfl (by exact ps_load rfl rfl (by exact Rds.cell (rds_box 0 rfl) rfl)) ?_; refine ok_p rfl rfl rfl (by exact ps_move rfl rfl) ?_; refine ok_m rfl rfl rfl (by exact ms_s2 rfl rfl rfl (fun _ _ w hw => heldStringS_c _ _ x.D.length (k + 2 * (x.U.length : Int)) ⟨by omega, by omega⟩ (by omega) w (rds_rf h1 (by exact List.mem_cons_self) _ _ w hw))) ?_; rintro y14 hy14; refine ok_p rfl rfl rfl (by exact ps_assign rfl rfl) ?_; refine ok_nil ?_; refine ok_env [(1, _)] ⟨rfl, trivial⟩ ?_)
    | (refine ok_region (i := 5) ?_; refine ok_p rfl rfl rfl (by exact ps_move rfl rfl) ?_; refine ok_p rfl rfl rfl (by exact ps_int rfl rfl rfl rfl) ?_; refine ok_nil ?_; refine ok_env [(1, _), (16, _)] ⟨rfl, rfl, trivial⟩ ?_)
    | (refine ok_region (i := 6) ?_; refine ok_p rfl rfl rfl (by exact ps_assign rfl rfl) ?_; refine ok_nil ?_; refine ok_env [(4, _)] ⟨rfl, trivial⟩ ?_)
    | (refine ok_region (i := 7) ?_; refine ok_p rfl rfl rfl (by exact ps_move rfl rfl) ?_; refine ok_p rfl rfl rfl (by exact ps_assign rfl rfl) ?_; refine ok_nil ?_; refine ok_env [(4, _)] ⟨rfl, trivial⟩ ?_))
  all_goals first
    | (exfalso; omega)
    | exact ok_endL (vs := [_]) rfl ⟨rfl, trivial⟩ (fun w' hw => ⟨rfl, hw.below⟩)
theorem Delta_cnt_le (x : DDelta) (k : Int) (h : Delta_lim x) : k ≤ Delta_cnt x k ∧ Delta_cnt x k ≤ k + 12582912 := by
  unfold Delta_lim at h; unfold Delta_cnt; omega
theorem Delta_sm_lim {x : DDelta} (h : Delta_sm x) : Delta_lim x := by
  unfold Delta_sm at h; unfold Delta_lim; exact ⟨by have := h.1.1; omega, by have := h.2.1; omega⟩
theorem Delta_rf {m w w0 : World} {base : Nat} {H : List HObj} {G : List World} {x : DDelta} {y : Ys} (h : Delta_rd m x y) (hm : m ∈ G) (hw : WOk base w0 H G w) : Delta_rd w x y := ⟨hw.keep (h.1) hm, hw.keep (h.2) hm⟩
theorem Delta_of {w w0 : World} {base : Nat} {H : List HObj} {G : List World} {x : DDelta} {y : Ys} (hw : WOk base w0 (Delta_obj x y ++ H) G w) : Delta_rd w x y := ⟨hw.row 0 rfl, hw.row 1 rfl⟩
abbrev gDelta : GT := .st [.sl 192 gKV, .sl 9 .str]
theorem Delta_open {w : World} {cs : Array Value} {x : gDelta.den} (hx : RdT w gDelta x cs.toList) : ∃ (d : DDelta) (y : Ys), Value.agg cs = Delta_val d y ∧ Delta_rd w d y ∧ Delta_big d := by
  obtain ⟨cs⟩ := cs
  simp only at hx
  obtain ⟨a0, a1, u⟩ := x
  obtain ⟨c0, d0, rfl, h0, e0⟩ := RdTL.cons.1 (RdT.st.1 hx)
  obtain ⟨c1, d1, rfl, h1, e1⟩ := RdTL.cons.1 e0
  rw [RdTL.nil] at e1; subst e1
  obtain ⟨A0, k0, l0, rfl, m0, r0, b0⟩ := flat_sl flatKV h0
  obtain ⟨A1, k1, l1, rfl, m1, r1, b1⟩ := flat_sl flatStr h1
  exact ⟨⟨l0, l1⟩, ya [(A0, k0), (A1, k1)] w, rfl, ⟨r0, r1⟩, ⟨⟨m0, b0⟩, ⟨m1, b1⟩⟩⟩
end Go.Proofs.Ytfcnimglcialbaa
/- Keys, maps, differences: MapOk, findKey, DeltaOk of both programs. -/
namespace Go.Proofs.Ytfcnimglcialbaa
open Go.RowKit
set_option maxHeartbeats 4000000
set_option maxRecDepth 20000
set_option linter.unusedVariables false
set_option linter.unusedSimpArgs false
theorem xs_in (x a b : Int) (w : World) : Calls Try.prog 104 #[.int .i64 x, .int .i64 a, .int .i64 b] w fun e w' => e = .returned (.bool (inB x a b)) ∧ Below w.heap.size w w' := by
  refine ok_enter 15 Try.func104 rfl rfl rfl ?_
  repeat' (first
    | refine ok_seq ?_
    | refine ok_then ?_
    | refine ok_ret ?_
    | (refine ok_region (i := 0) ?_; refine ok_p rfl rfl rfl (by exact ps_assign rfl rfl) ?_; refine ok_nil ?_; refine ok_env [(0, _), (1, _), (2, _)] ⟨rfl, rfl, rfl, trivial⟩ ?_)
    | (refine ok_region (i := 1) ?_; refine ok_p rfl rfl rfl (by exact ps_move rfl rfl) ?_; refine ok_p rfl rfl rfl (by exact ps_move rfl rfl) ?_; refine ok_p rfl rfl rfl (by exact ps_int rfl rfl rfl rfl) ?_; refine ok_p rfl rfl rfl (by exact ps_move rfl rfl) ?_; refine ok_pg rfl rfl rfl rfl rfl (gT _) (fun hp => by (have hpd := hp; (try simp only [decide_eq_true_eq, decide_eq_false_iff_not, Bool.or_eq_true, Bool.or_eq_false_iff, Bool.and_eq_true, Bool.and_eq_false_iff, Bool.not_eq_true', Bool.not_eq_false', bne_iff_ne, beq_iff_eq, bne_eq_false_iff_eq, beq_eq_false_iff_ne, ne_eq, Bool.not_true, Bool.not_false, Bool.false_eq_true, Bool.true_eq_false, inB_true, inB_false] at hpd); exact ps_move rfl (by exact rfl))) ?_; refine ok_pg rfl rfl rfl rfl rfl (gT _) (fun hp => by (have hpd := hp; (try simp only [decide_eq_true_eq, decide_eq_false_iff_not, Bool.or_eq_true, Bool.or_eq_false_iff, Bool.and_eq_true, Bool.and_eq_false_iff, Bool.not_eq_true', Bool.not_eq_false', bne_iff_ne, beq_iff_eq, bne_eq_false_iff_eq, beq_eq_false_iff_ne, ne_eq, Bool.not_true, Bool.not_false, Bool.false_eq_true, Bool.true_eq_false, inB_true, inB_false] at hpd); exact ps_move rfl (by exact rfl))) ?_; refine ok_pg rfl rfl rfl rfl rfl (gT _) (fun hp => by (have hpd := hp; (try simp only [decide_eq_true_eq, decide_eq_false_iff_not, Bool.or_eq_true, Bool.or_eq_false_iff, Bool.and_eq_true, Bool.and_eq_false_iff, Bool.not_eq_true', Bool.not_eq_false', bne_iff_ne, beq_iff_eq, bne_eq_false_iff_eq, beq_eq_false_iff_ne, ne_eq, Bool.not_true, Bool.not_false, Bool.false_eq_true, Bool.true_eq_false, inB_true, inB_false] at hpd); exact ps_int rfl (by (refine og rfl ?_; assumption)) (by (refine og rfl ?_; assumption)) rfl)) ?_; refine ok_p rfl rfl rfl (by exact ps_and rfl rfl rfl) ?_; refine ok_p rfl rfl rfl (by exact ps_assign rfl rfl) ?_; refine ok_nil ?_; refine ok_env [(6, _)] ⟨rfl, trivial⟩ ?_))
  exact ok_endL (vs := [_]) rfl ⟨rfl, trivial⟩ (fun w hw => ⟨rfl, hw.below⟩)
theorem xi_in (x a b : Int) (w : World) : Calls Try.prog 122 #[.int .i64 x, .int .i64 a, .int .i64 b] w fun e w' => e = .returned (.bool (inB x a b)) ∧ Below w.heap.size w w' := by
  refine ok_enter 15 Try.func122 rfl rfl rfl ?_
  repeat' (first
    | refine ok_seq ?_
    | refine ok_then ?_
    | refine ok_ret ?_
    | (refine ok_region (i := 0) ?_; refine ok_p rfl rfl rfl (by exact ps_assign rfl rfl) ?_; refine ok_nil ?_; refine ok_env [(0, _), (1, _), (2, _)] ⟨rfl, rfl, rfl, trivial⟩ ?_)
    | (refine ok_region (i := 1) ?_; refine ok_p rfl rfl rfl (by exact ps_move rfl rfl) ?_; refine ok_p rfl rfl rfl (by exact ps_move rfl rfl) ?_; refine ok_p rfl rfl rfl (by exact ps_int rfl rfl rfl rfl) ?_; refine ok_p rfl rfl rfl (by exact ps_move rfl rfl) ?_; refine ok_pg rfl rfl rfl rfl rfl (gT _) (fun hp => by (have hpd := hp; (try simp only [decide_eq_true_eq, decide_eq_false_iff_not, Bool.or_eq_true, Bool.or_eq_false_iff, Bool.and_eq_true, Bool.and_eq_false_iff, Bool.not_eq_true', Bool.not_eq_false', bne_iff_ne, beq_iff_eq, bne_eq_false_iff_eq, beq_eq_false_iff_ne, ne_eq, Bool.not_true, Bool.not_false, Bool.false_eq_true, Bool.true_eq_false, inB_true, inB_false] at hpd); exact ps_move rfl (by exact rfl))) ?_; refine ok_pg rfl rfl rfl rfl rfl (gT _) (fun hp => by (have hpd := hp; (try simp only [decide_eq_true_eq, decide_eq_false_iff_not, Bool.or_eq_true, Bool.or_eq_false_iff, Bool.and_eq_true, Bool.and_eq_false_iff, Bool.not_eq_true', Bool.not_eq_false', bne_iff_ne, beq_iff_eq, bne_eq_false_iff_eq, beq_eq_false_iff_ne, ne_eq, Bool.not_true, Bool.not_false, Bool.false_eq_true, Bool.true_eq_false, inB_true, inB_false] at hpd); exact ps_move rfl (by exact rfl))) ?_; refine ok_pg rfl rfl rfl rfl rfl (gT _) (fun hp => by (have hpd := hp; (try simp only [decide_eq_true_eq, decide_eq_false_iff_not, Bool.or_eq_true, Bool.or_eq_false_iff, Bool.and_eq_true, Bool.and_eq_false_iff, Bool.not_eq_true', Bool.not_eq_false', bne_iff_ne, beq_iff_eq, bne_eq_false_iff_eq, beq_eq_false_iff_ne, ne_eq, Bool.not_true, Bool.not_false, Bool.false_eq_true, Bool.true_eq_false, inB_true, inB_false] at hpd); exact ps_int rfl (by (refine og rfl ?_; assumption)) (by (refine og rfl ?_; assumption)) rfl)) ?_; refine ok_p rfl rfl rfl (by exact ps_and rfl rfl rfl) ?_; refine ok_p rfl rfl rfl (by exact ps_assign rfl rfl) ?_; refine ok_nil ?_; refine ok_env [(6, _)] ⟨rfl, trivial⟩ ?_))
  exact ok_endL (vs := [_]) rfl ⟨rfl, trivial⟩ (fun w hw => ⟨rfl, hw.below⟩)
/-- The order of strings as a number. -/
def cmpS (a b : ByteArray) : Int := Lib.compareBytes a.data.toList b.data.toList
theorem cmpB_facts : ∀ a b : List UInt8, decide (Lib.compareBytes a b < 0) = Op.bytesLess a b ∧ ((Lib.compareBytes a b == 0) = (a == b))
  | [], [] => by simp [Lib.compareBytes, Op.bytesLess]
  | [], _ :: _ => by simp [Lib.compareBytes, Op.bytesLess]
  | _ :: _, [] => by simp [Lib.compareBytes, Op.bytesLess]
  | a :: x, b :: y => by
    obtain ⟨h1, h2⟩ := cmpB_facts x y
    simp only [Lib.compareBytes, Op.bytesLess]
    by_cases h : a < b
    · have hne : ¬ a = b := fun e => by subst e; exact absurd h (UInt8.lt_irrefl a)
      simp [h, hne]
    · by_cases h' : b < a
      · have hne : ¬ a = b := fun e => by subst e; exact absurd h' (UInt8.lt_irrefl a)
        simp [h, h', hne]
      · have he : a = b := UInt8.le_antisymm (UInt8.not_lt.1 h') (UInt8.not_lt.1 h)
        subst he
        simp [h, h1, h2]
theorem cmpS_lt (a b : ByteArray) : decide (cmpS a b < 0) = sLt a b := by
  unfold cmpS sLt
  rw [(cmpB_facts _ _).1]; simp [ByteArray.toList_eq]
theorem cmpS_eq (a b : ByteArray) : (cmpS a b == 0) = sEq a b := by
  unfold cmpS sEq
  rw [(cmpB_facts _ _).2]; simp [ByteArray.toList_eq]
theorem ps_cmp {E : Env} {H : List HObj} {G : List World} {o : Oper} {x y : Operand} {tys : Array TypeId} {s r : ByteArray} (ho : o.op = .call { callee := .value (.func 283), args := #[x, y], argTypes := tys }) (hx : opd E x = some (.string s)) (hy : opd E y = some (.string r)) : PStep Try.prog E H G o (.int .i64 (cmpS s r)) := fun N base w0 a w he hw => by
  have hfe : a.eval (.func 283) = .func (.func 283) #[] #[] := rfl
  unfold execOp
  simp only [ho, resolve, Deferred.ofValue, hfe, he.eval hx, he.eval hy, List.map_toArray, List.map_cons, List.map_nil, Sem.run_bind, Sem.run_pure, Result.andThen_ok, invoke, Array.append_empty]
  show ((callFunc _ _).run Try.prog w) = _
  rw [run_callFunc_extern Try.func283 (by kernel_rfl) (by kernel_rfl) (by kernel_rfl) (e := Extern.BytealgCompare.compare) (by kernel_rfl)]
  have := Lib.run_compareString (P := Try.prog) s r w
  simp [this, Result.andThen, cmpS]
theorem cmpstr_c (a b : ByteArray) (w : World) : Calls Try.prog 261 #[.string a, .string b] w fun e w' => e = .returned (.int .i64 (cmpS a b)) ∧ Below w.heap.size w w' := by
  refine ok_enter 8 Try.func261 rfl rfl rfl ?_
  repeat' (first
    | refine ok_seq ?_
    | refine ok_then ?_
    | refine ok_ret ?_
    | (refine ok_region (i := 0) ?_; refine ok_p rfl rfl rfl (by exact ps_assign rfl rfl) ?_; refine ok_nil ?_; refine ok_env [(0, _), (1, _)] ⟨rfl, rfl, trivial⟩ ?_)
    | (refine ok_region (i := 1) ?_; refine ok_p rfl rfl rfl (by exact ps_move rfl rfl) ?_; refine ok_p rfl rfl rfl (by exact ps_move rfl rfl) ?_; refine ok_m rfl rfl rfl (by exact ms_ps (ps_cmp rfl rfl rfl)) ?_; rintro y7 hy7; refine ok_p rfl rfl rfl (by exact ps_assign rfl rfl) ?_; refine ok_nil ?_; refine ok_env [(4, _)] ⟨rfl, trivial⟩ ?_))
  exact ok_endL (vs := [_]) rfl ⟨rfl, trivial⟩ (fun w hw => ⟨rfl, hw.below⟩)
theorem strcmp_c (a b : ByteArray) (w : World) : Calls Try.prog 240 #[.string a, .string b] w fun e w' => e = .returned (.int .i64 (cmpS a b)) ∧ Below w.heap.size w w' := by
  refine ok_enter 8 Try.func240 rfl rfl rfl ?_
  repeat' (first
    | refine ok_seq ?_
    | refine ok_then ?_
    | refine ok_ret ?_
    | (refine ok_region (i := 0) ?_; refine ok_p rfl rfl rfl (by exact ps_assign rfl rfl) ?_; refine ok_nil ?_; refine ok_env [(0, _), (1, _)] ⟨rfl, rfl, trivial⟩ ?_)
    | (refine ok_region (i := 1) ?_; refine ok_p rfl rfl rfl (by exact ps_move rfl rfl) ?_; refine ok_p rfl rfl rfl (by exact ps_move rfl rfl) ?_; refine ok_m rfl rfl rfl (by exact ms_s2 rfl rfl rfl (fun _ _ w hw => cmpstr_c _ _ w)) ?_; rintro y7 hy7; refine ok_p rfl rfl rfl (by exact ps_assign rfl rfl) ?_; refine ok_nil ?_; refine ok_env [(4, _)] ⟨rfl, trivial⟩ ?_))
  exact ok_endL (vs := [_]) rfl ⟨rfl, trivial⟩ (fun w hw => ⟨rfl, hw.below⟩)
theorem kcmp_c (x : KV) (k : ByteArray) (w : World) : Calls Try.prog 239 #[.agg (Dat.cells x).toArray, .string k] w fun e w' => e = .returned (.int .i64 (cmpS x.key k)) ∧ Below w.heap.size w w' := by
  refine ok_enter 9 Try.func239 rfl rfl rfl ?_
  repeat' (first
    | refine ok_seq ?_
    | refine ok_then ?_
    | refine ok_ret ?_
    | (refine ok_region (i := 0) ?_; refine ok_m rfl rfl rfl (by exact ms_box rfl rfl rfl) ?_; rintro y2 hy2; refine ok_p rfl rfl rfl (by exact ps_assign rfl rfl) ?_; refine ok_nil ?_; refine ok_env [(1, _), (2, _)] ⟨rfl, rfl, trivial⟩ ?_)
    | (refine ok_region (i := 1) ?_; refine ok_p rfl rfl rfl (by exact ps_field rfl rfl (by exact isw_ga _)) ?_; refine ok_p rfl rfl rfl (by exact ps_load rfl rfl (by exact Rds.cell (rds_box 0 rfl) rfl)) ?_; refine ok_p rfl rfl rfl (by exact ps_move rfl rfl) ?_; refine ok_m rfl rfl rfl (by exact ms_s2 rfl rfl rfl (fun _ _ w hw => strcmp_c _ _ w)) ?_; rintro y8 hy8; refine ok_p rfl rfl rfl (by exact ps_assign rfl rfl) ?_; refine ok_nil ?_; refine ok_env [(4, _)] ⟨rfl, trivial⟩ ?_))
  exact ok_endL (vs := [_]) rfl ⟨rfl, trivial⟩ (fun w hw => ⟨rfl, hw.below⟩)
def kk (s : ByteArray) : Bool := inB s.size 1 10
theorem isKey_c (s : ByteArray) (w : World) : Calls Try.prog 214 #[.string s] w fun e w' => e = .returned (.bool (kk s)) ∧ Below w.heap.size w w' := by
  refine ok_enter 6 Try.func214 rfl rfl rfl ?_
  repeat' (first
    | refine ok_seq ?_
    | refine ok_then ?_
    | refine ok_ret ?_
    | (refine ok_region (i := 0) ?_; refine ok_p rfl rfl rfl (by exact ps_assign rfl rfl) ?_; refine ok_nil ?_; refine ok_env [(0, _)] ⟨rfl, trivial⟩ ?_)
    | (refine ok_region (i := 1) ?_; refine ok_p rfl rfl rfl (by exact ps_move rfl rfl) ?_; refine ok_p rfl rfl rfl (by exact ps_slen rfl rfl) ?_; refine ok_m rfl rfl rfl (by exact ms_s3 rfl rfl rfl rfl (fun _ _ w hw => xi_in _ _ _ w)) ?_; rintro y5 hy5; refine ok_p rfl rfl rfl (by exact ps_assign rfl rfl) ?_; refine ok_nil ?_; refine ok_env [(2, _)] ⟨rfl, trivial⟩ ?_))
  exact ok_endL (vs := [_]) rfl ⟨rfl, trivial⟩ (fun w hw => ⟨rfl, hw.below⟩)
theorem l16Text_c (s : ByteArray) (w : World) : Calls Try.prog 213 #[.string s] w fun e w' => e = .returned (.bool (kk s)) ∧ Below w.heap.size w w' := by
  refine ok_enter 6 Try.func213 rfl rfl rfl ?_
  repeat' (first
    | refine ok_seq ?_
    | refine ok_then ?_
    | refine ok_ret ?_
    | (refine ok_region (i := 0) ?_; refine ok_p rfl rfl rfl (by exact ps_assign rfl rfl) ?_; refine ok_nil ?_; refine ok_env [(0, _)] ⟨rfl, trivial⟩ ?_)
    | (refine ok_region (i := 1) ?_; refine ok_p rfl rfl rfl (by exact ps_move rfl rfl) ?_; refine ok_p rfl rfl rfl (by exact ps_slen rfl rfl) ?_; refine ok_m rfl rfl rfl (by exact ms_s3 rfl rfl rfl rfl (fun _ _ w hw => xs_in _ _ _ w)) ?_; rintro y5 hy5; refine ok_p rfl rfl rfl (by exact ps_assign rfl rfl) ?_; refine ok_nil ?_; refine ok_env [(2, _)] ⟨rfl, trivial⟩ ?_))
  exact ok_endL (vs := [_]) rfl ⟨rfl, trivial⟩ (fun w hw => ⟨rfl, hw.below⟩)
theorem l7Op_c (k v : ByteArray) (d : Bool) (w : World) : Calls Try.prog 230 #[.agg #[.string k, .bool d, .string v]] w fun e w' => e = .returned (.bool (kk k && decide ((v.size : Int) ≤ 16) && (!d || sEq v ⟨#[]⟩))) ∧ Below w.heap.size w w' := by
  refine ok_enter 23 Try.func230 rfl rfl rfl ?_
  repeat' (first
    | refine ok_seq ?_
    | refine ok_then ?_
    | refine ok_ret ?_
    | (refine ok_region (i := 0) ?_; refine ok_m rfl rfl rfl (by exact ms_box rfl rfl rfl) ?_; rintro y1 hy1; refine ok_p rfl rfl rfl (by exact ps_assign rfl rfl) ?_; refine ok_nil ?_; refine ok_env [(1, _)] ⟨rfl, trivial⟩ ?_)
    | (refine ok_region (i := 1) ?_; refine ok_p rfl rfl rfl (by exact ps_field rfl rfl (by exact isw_ga _)) ?_; refine ok_p rfl rfl rfl (by exact ps_load rfl rfl (by exact Rds.cell (rds_box 0 rfl) rfl)) ?_; refine ok_p rfl rfl rfl (by exact ps_slen rfl rfl) ?_; refine ok_m rfl rfl rfl (by exact ms_s3 rfl rfl rfl rfl (fun _ _ w hw => xs_in _ _ _ w)) ?_; rintro y6 hy6; refine ok_p rfl rfl rfl (by exact ps_move rfl rfl) ?_; refine ok_pg rfl rfl rfl rfl rfl (gT _) (fun hp => by (have hpd := hp; (try simp only [decide_eq_true_eq, decide_eq_false_iff_not, Bool.or_eq_true, Bool.or_eq_false_iff, Bool.and_eq_true, Bool.and_eq_false_iff, Bool.not_eq_true', Bool.not_eq_false', bne_iff_ne, beq_iff_eq, bne_eq_false_iff_eq, beq_eq_false_iff_ne, ne_eq, Bool.not_true, Bool.not_false, Bool.false_eq_true, Bool.true_eq_false, inB_true, inB_false] at hpd); exact ps_field rfl (by exact rfl) (by exact isw_ga _))) ?_; refine ok_pg rfl rfl rfl rfl rfl (gT _) (fun hp => by (have hpd := hp; (try simp only [decide_eq_true_eq, decide_eq_false_iff_not, Bool.or_eq_true, Bool.or_eq_false_iff, Bool.and_eq_true, Bool.and_eq_false_iff, Bool.not_eq_true', Bool.not_eq_false', bne_iff_ne, beq_iff_eq, bne_eq_false_iff_eq, beq_eq_false_iff_ne, ne_eq, Bool.not_true, Bool.not_false, Bool.false_eq_true, Bool.true_eq_false, inB_true, inB_false] at hpd); exact ps_load rfl (by (refine og rfl ?_; assumption)) (by exact Rds.cell (rds_box 0 rfl) rfl))) ?_; refine ok_pg rfl rfl rfl rfl rfl (gT _) (fun hp => by (have hpd := hp; (try simp only [decide_eq_true_eq, decide_eq_false_iff_not, Bool.or_eq_true, Bool.or_eq_false_iff, Bool.and_eq_true, Bool.and_eq_false_iff, Bool.not_eq_true', Bool.not_eq_false', bne_iff_ne, beq_iff_eq, bne_eq_false_iff_eq, beq_eq_false_iff_ne, ne_eq, Bool.not_true, Bool.not_false, Bool.false_eq_true, Bool.true_eq_false, inB_true, inB_false] at hpd); exact ps_slen rfl (by (refine og rfl ?_; assumption)))) ?_; refine ok_pg rfl rfl rfl rfl rfl (gT _) (fun hp => by (have hpd := hp; (try simp only [decide_eq_true_eq, decide_eq_false_iff_not, Bool.or_eq_true, Bool.or_eq_false_iff, Bool.and_eq_true, Bool.and_eq_false_iff, Bool.not_eq_true', Bool.not_eq_false', bne_iff_ne, beq_iff_eq, bne_eq_false_iff_eq, beq_eq_false_iff_ne, ne_eq, Bool.not_true, Bool.not_false, Bool.false_eq_true, Bool.true_eq_false, inB_true, inB_false] at hpd); exact ps_int rfl (by (refine og rfl ?_; assumption)) (by exact rfl) rfl)) ?_; refine ok_p rfl rfl rfl (by exact ps_and rfl rfl rfl) ?_; refine ok_p rfl rfl rfl (by exact ps_move rfl rfl) ?_; refine ok_pg rfl rfl rfl rfl rfl (gT _) (fun hp => by (have hpd := hp; (try simp only [decide_eq_true_eq, decide_eq_false_iff_not, Bool.or_eq_true, Bool.or_eq_false_iff, Bool.and_eq_true, Bool.and_eq_false_iff, Bool.not_eq_true', Bool.not_eq_false', bne_iff_ne, beq_iff_eq, bne_eq_false_iff_eq, beq_eq_false_iff_ne, ne_eq, Bool.not_true, Bool.not_false, Bool.false_eq_true, Bool.true_eq_false, inB_true, inB_false] at hpd); exact ps_field rfl (by exact rfl) (by exact isw_ga _))) ?_; refine ok_pg rfl rfl rfl rfl rfl (gT _) (fun hp => by (have hpd := hp; (try simp only [decide_eq_true_eq, decide_eq_false_iff_not, Bool.or_eq_true, Bool.or_eq_false_iff, Bool.and_eq_true, Bool.and_eq_false_iff, Bool.not_eq_true', Bool.not_eq_false', bne_iff_ne, beq_iff_eq, bne_eq_false_iff_eq, beq_eq_false_iff_ne, ne_eq, Bool.not_true, Bool.not_false, Bool.false_eq_true, Bool.true_eq_false, inB_true, inB_false] at hpd); exact ps_load rfl (by (refine og rfl ?_; assumption)) (by exact Rds.cell (rds_box 0 rfl) rfl))) ?_; refine ok_pg rfl rfl rfl rfl rfl (gT _) (fun hp => by (have hpd := hp; (try simp only [decide_eq_true_eq, decide_eq_false_iff_not, Bool.or_eq_true, Bool.or_eq_false_iff, Bool.and_eq_true, Bool.and_eq_false_iff, Bool.not_eq_true', Bool.not_eq_false', bne_iff_ne, beq_iff_eq, bne_eq_false_iff_eq, beq_eq_false_iff_ne, ne_eq, Bool.not_true, Bool.not_false, Bool.false_eq_true, Bool.true_eq_false, inB_true, inB_false] at hpd); exact ps_not rfl (by (refine og rfl ?_; assumption)))) ?_; refine ok_pg rfl rfl rfl rfl rfl (gT _) (fun hp => by (have hpd := hp; (try simp only [decide_eq_true_eq, decide_eq_false_iff_not, Bool.or_eq_true, Bool.or_eq_false_iff, Bool.and_eq_true, Bool.and_eq_false_iff, Bool.not_eq_true', Bool.not_eq_false', bne_iff_ne, beq_iff_eq, bne_eq_false_iff_eq, beq_eq_false_iff_ne, ne_eq, Bool.not_true, Bool.not_false, Bool.false_eq_true, Bool.true_eq_false, inB_true, inB_false] at hpd); exact ps_move rfl (by (refine og rfl ?_; assumption)))) ?_; refine ok_pgg rfl rfl rfl rfl rfl (gF _) (fun hq hp hqp => by (have hqd := hq; (try simp only [decide_eq_true_eq, decide_eq_false_iff_not, Bool.or_eq_true, Bool.or_eq_false_iff, Bool.and_eq_true, Bool.and_eq_false_iff, Bool.not_eq_true', Bool.not_eq_false', bne_iff_ne, beq_iff_eq, bne_eq_false_iff_eq, beq_eq_false_iff_ne, ne_eq, Bool.not_true, Bool.not_false, Bool.false_eq_true, Bool.true_eq_false, inB_true, inB_false] at hqd); have hpd := hp; (try simp only [decide_eq_true_eq, decide_eq_false_iff_not, Bool.or_eq_true, Bool.or_eq_false_iff, Bool.and_eq_true, Bool.and_eq_false_iff, Bool.not_eq_true', Bool.not_eq_false', bne_iff_ne, beq_iff_eq, bne_eq_false_iff_eq, beq_eq_false_iff_ne, ne_eq, Bool.not_true, Bool.not_false, Bool.false_eq_true, Bool.true_eq_false, inB_true, inB_false] at hpd); exact ps_field rfl (by exact rfl) (by exact isw_ga _))) ?_; refine ok_pgg rfl rfl rfl rfl rfl (gF _) (fun hq hp hqp => by (have hqd := hq; (try simp only [decide_eq_true_eq, decide_eq_false_iff_not, Bool.or_eq_true, Bool.or_eq_false_iff, Bool.and_eq_true, Bool.and_eq_false_iff, Bool.not_eq_true', Bool.not_eq_false', bne_iff_ne, beq_iff_eq, bne_eq_false_iff_eq, beq_eq_false_iff_ne, ne_eq, Bool.not_true, Bool.not_false, Bool.false_eq_true, Bool.true_eq_false, inB_true, inB_false] at hqd); have hpd := hp; (try simp only [decide_eq_true_eq, decide_eq_false_iff_not, Bool.or_eq_true, Bool.or_eq_false_iff, Bool.and_eq_true, Bool.and_eq_false_iff, Bool.not_eq_true', Bool.not_eq_false', bne_iff_ne, beq_iff_eq, bne_eq_false_iff_eq, beq_eq_false_iff_ne, ne_eq, Bool.not_true, Bool.not_false, Bool.false_eq_true, Bool.true_eq_false, inB_true, inB_false] at hpd); exact ps_load rfl (by (refine og rfl ?_; assumption)) (by exact Rds.cell (rds_box 0 rfl) rfl))) ?_; refine ok_pgg rfl rfl rfl rfl rfl (gF _) (fun hq hp hqp => by (have hqd := hq; (try simp only [decide_eq_true_eq, decide_eq_false_iff_not, Bool.or_eq_true, Bool.or_eq_false_iff, Bool.and_eq_true, Bool.and_eq_false_iff, Bool.not_eq_true', Bool.not_eq_false', bne_iff_ne, beq_iff_eq, bne_eq_false_iff_eq, beq_eq_false_iff_ne, ne_eq, Bool.not_true, Bool.not_false, Bool.false_eq_true, Bool.true_eq_false, inB_true, inB_false] at hqd); have hpd := hp; (try simp only [decide_eq_true_eq, decide_eq_false_iff_not, Bool.or_eq_true, Bool.or_eq_false_iff, Bool.and_eq_true, Bool.and_eq_false_iff, Bool.not_eq_true', Bool.not_eq_false', bne_iff_ne, beq_iff_eq, bne_eq_false_iff_eq, beq_eq_false_iff_ne, ne_eq, Bool.not_true, Bool.not_false, Bool.false_eq_true, Bool.true_eq_false, inB_true, inB_false] at hpd); exact ps_str rfl (by (refine og rfl ?_; assumption)) (by exact rfl) rfl)) ?_; refine ok_pg rfl rfl rfl rfl rfl (gT _) (fun hp => by (have hpd := hp; (try simp only [decide_eq_true_eq, decide_eq_false_iff_not, Bool.or_eq_true, Bool.or_eq_false_iff, Bool.and_eq_true, Bool.and_eq_false_iff, Bool.not_eq_true', Bool.not_eq_false', bne_iff_ne, beq_iff_eq, bne_eq_false_iff_eq, beq_eq_false_iff_ne, ne_eq, Bool.not_true, Bool.not_false, Bool.false_eq_true, Bool.true_eq_false, inB_true, inB_false] at hpd); exact ps_or_in (by assumption) rfl rfl rfl)) ?_; refine ok_p rfl rfl rfl (by exact ps_and rfl rfl rfl) ?_; refine ok_p rfl rfl rfl (by exact ps_assign rfl rfl) ?_; refine ok_nil ?_; refine ok_env [(2, _)] ⟨rfl, trivial⟩ ?_))
  exact ok_endL (vs := [_]) rfl ⟨rfl, trivial⟩ (fun w hw => ⟨rfl, hw.below⟩)
def okM (l : List KV) (i : Nat) : Bool := !(!kk (nth l i).key || decide (16 < ((nth l i).val.size : Int)) || (decide (0 < (i : Int)) && !sLt (nth l (i - 1)).key (nth l i).key))
theorem tn1 (k : Nat) : ((k : Int) - 1).toNat = k - 1 := by omega
def mapOk (l : List KV) : Bool := (List.range l.length).all (okM l)
theorem all_false {p : Nat → Bool} {n i : Nat} (h : i < n) (hp : p i = false) : (List.range n).all p = false := by
  rw [List.all_eq_false]; exact ⟨i, by simpa using h, by simp [hp]⟩
theorem all_true {p : Nat → Bool} {n : Nat} (h : ∀ i, i < n → p i = true) : (List.range n).all p = true := by
  rw [List.all_eq_true]; intro i hi; exact h i (by simpa using hi)
theorem i_MapOk (A : Option Addr) (c : Nat) (l : List KV) (w : World) (h : Rd w A (fl l)) (hl : l.length ≤ 1048576) : Calls Try.prog 172 #[.slice A l.length c] w fun e w' => e = .returned (.bool (mapOk l)) ∧ Below w.heap.size w w' := by
  refine ok_enter 38 Try.func172 rfl rfl rfl ?_
  repeat' (first
    | refine ok_seq ?_
    | refine ok_then ?_
    | refine ok_block ?_
    | (refine ok_region (i := 0) ?_; refine ok_p rfl rfl rfl (by exact ps_assign rfl rfl) ?_; refine ok_nil ?_; refine ok_env [(0, _)] ⟨rfl, trivial⟩ ?_)
    | (refine ok_region (i := 1) ?_; refine ok_p rfl rfl rfl (by exact ps_move rfl rfl) ?_; refine ok_p rfl rfl rfl (by exact ps_len rfl rfl) ?_; refine ok_p rfl rfl rfl (by exact ps_move rfl rfl) ?_; refine ok_nil ?_; refine ok_env [(0, _), (5, _), (6, _), (7, _)] ⟨rfl, rfl, rfl, rfl, trivial⟩ ?_))
  refine ok_loop (ι := { k : Nat // k ≤ l.length ∧ ∀ j, j < k → okM l j = true }) (fun k => l.length - k.1) (fun k => ([(0, .slice A l.length c), (5, .slice A l.length c), (6, .int .i64 l.length), (7, .int .i64 k.1)], [], _)) ⟨0, by omega, fun j h => absurd h (Nat.not_lt_zero j)⟩ (fun a w he hw => ⟨⟨0, by omega, fun j h => absurd h (Nat.not_lt_zero j)⟩, he.sub ⟨rfl, rfl, rfl, rfl, trivial⟩, hw⟩) ?_
  rintro ⟨k, hk, hok⟩
  simp only at hk hok ⊢
  have HO := Lib.hid hok; clear hok
  repeat' (first
    | refine ok_seq ?_
    | refine ok_then ?_
    | refine ok_then_ret ?_
    | refine ok_block ?_
    | refine ok_in_normal ?_
    | refine ok_in_ret ?_
    | (refine ok_cond rfl (fun hc => ?_) (fun hc => ?_) <;> (have hd := hc; (try simp only [decide_eq_true_eq, decide_eq_false_iff_not, Bool.or_eq_true, Bool.or_eq_false_iff, Bool.and_eq_true, Bool.and_eq_false_iff, Bool.not_eq_true', Bool.not_eq_false', bne_iff_ne, beq_iff_eq, bne_eq_false_iff_eq, beq_eq_false_iff_ne, ne_eq, Bool.not_true, Bool.not_false, Bool.false_eq_true, Bool.true_eq_false, inB_true, inB_false] at hd)))
    | refine ok_ret ?_
    | refine ok_exit ?_
    | refine ok_skip ?_
    | (refine ok_region (i := 2) ?_; refine ok_p rfl rfl rfl (by exact ps_int rfl rfl rfl rfl) ?_; refine ok_nil ?_; refine ok_env [(0, _), (5, _), (6, _), (7, _), (8, _)] ⟨rfl, rfl, rfl, rfl, rfl, trivial⟩ ?_)
    | (refine ok_region (i := 3) ?_; refine ok_p rfl rfl rfl (by exact ps_move rfl rfl) ?_; refine ok_p rfl rfl rfl (by exact ps_indexN rfl rfl rfl (by omega) (by exact isw_of (isS_fl (by assumption) (by omega)))) ?_; refine ok_p rfl rfl rfl (by exact ps_loadsF rfl rfl (by exact rds_rf (by assumption) (by exact List.mem_cons_self)) (by rfl) (by rfl) (by omega) rfl) ?_; refine ok_m rfl rfl rfl (by exact ms_alloc rfl) ?_; rintro y4 hy4; refine ok_p rfl rfl rfl (by exact ps_assign rfl rfl) ?_; refine ok_m_ rfl rfl (by exact ms_store 0 rfl rfl rfl rfl rfl rfl rfl rfl) ?_; rintro y_ hy_; refine ok_nil ?_; refine ok_env [(0, _), (3, _), (4, _), (5, _), (6, _), (7, _)] ⟨rfl, rfl, rfl, rfl, rfl, rfl, trivial⟩ ?_)
    | (refine ok_draw (id := 4) 25 rfl (by kernel_rfl) (by kernel_rfl) rfl (by repeat (first | exact pq_body | refine pq_then ?_ | refine pq_in ?_)) [0, 1, 2, 3, 4, 5, 6, 7, 8, 9, 10, 11, 12, 13, 14, 15, 16, 17, 18, 19, 20, 21, 22, 23] (by decide) rfl ?_; refine okT_take (i := 0) rfl (by kernel_rfl) rfl rfl rfl (by exact ps_field rfl rfl (by exact isw_ga _)) ?_; refine okT_take (i := 1) rfl (by kernel_rfl) rfl rfl rfl (by exact ps_load rfl rfl (by exact Rds.cell (rds_box 0 rfl) rfl)) ?_; refine okT_one (i := 2) rfl rfl (by kernel_rfl) rfl rfl rfl (by exact ms_s1 rfl rfl (fun _ _ w hw => isKey_c _ w)) (fun y w _ h => by exact h) ?_; rintro y14 hy14; refine okT_take (i := 3) rfl (by kernel_rfl) rfl rfl rfl (by exact ps_not rfl rfl) ?_; refine okT_take (i := 4) rfl (by kernel_rfl) rfl rfl rfl (by exact ps_move rfl rfl) ?_; refine okT_take_g1 (i := 5) rfl (by kernel_rfl) rfl rfl rfl rfl rfl (gF _) (fun hp => by (have hpd := hp; (try simp only [decide_eq_true_eq, decide_eq_false_iff_not, Bool.or_eq_true, Bool.or_eq_false_iff, Bool.and_eq_true, Bool.and_eq_false_iff, Bool.not_eq_true', Bool.not_eq_false', bne_iff_ne, beq_iff_eq, bne_eq_false_iff_eq, beq_eq_false_iff_ne, ne_eq, Bool.not_true, Bool.not_false, Bool.false_eq_true, Bool.true_eq_false, inB_true, inB_false] at hpd); exact ps_field rfl (by exact rfl) (by exact isw_ga _))) ?_; refine okT_take_g1 (i := 6) rfl (by kernel_rfl) rfl rfl rfl rfl rfl (gF _) (fun hp => by (have hpd := hp; (try simp only [decide_eq_true_eq, decide_eq_false_iff_not, Bool.or_eq_true, Bool.or_eq_false_iff, Bool.and_eq_true, Bool.and_eq_false_iff, Bool.not_eq_true', Bool.not_eq_false', bne_iff_ne, beq_iff_eq, bne_eq_false_iff_eq, beq_eq_false_iff_ne, ne_eq, Bool.not_true, Bool.not_false, Bool.false_eq_true, Bool.true_eq_false, inB_true, inB_false] at hpd); exact ps_load rfl (by (refine og rfl ?_; assumption)) (by exact Rds.cell (rds_box 0 rfl) rfl))) ?_; refine okT_take_g1 (i := 7) rfl (by kernel_rfl) rfl rfl rfl rfl rfl (gF _) (fun hp => by (have hpd := hp; (try simp only [decide_eq_true_eq, decide_eq_false_iff_not, Bool.or_eq_true, Bool.or_eq_false_iff, Bool.and_eq_true, Bool.and_eq_false_iff, Bool.not_eq_true', Bool.not_eq_false', bne_iff_ne, beq_iff_eq, bne_eq_false_iff_eq, beq_eq_false_iff_ne, ne_eq, Bool.not_true, Bool.not_false, Bool.false_eq_true, Bool.true_eq_false, inB_true, inB_false] at hpd); exact ps_slen rfl (by (refine og rfl ?_; assumption)))) ?_; refine okT_take_g1 (i := 8) rfl (by kernel_rfl) rfl rfl rfl rfl rfl (gF _) (fun hp => by (have hpd := hp; (try simp only [decide_eq_true_eq, decide_eq_false_iff_not, Bool.or_eq_true, Bool.or_eq_false_iff, Bool.and_eq_true, Bool.and_eq_false_iff, Bool.not_eq_true', Bool.not_eq_false', bne_iff_ne, beq_iff_eq, bne_eq_false_iff_eq, beq_eq_false_iff_ne, ne_eq, Bool.not_true, Bool.not_false, Bool.false_eq_true, Bool.true_eq_false, inB_true, inB_false] at hpd); exact ps_int rfl (by (refine og rfl ?_; assumption)) (by exact rfl) rfl)) ?_; refine okT_take (i := 9) rfl (by kernel_rfl) rfl rfl rfl (by exact ps_or rfl rfl rfl) ?_; refine okT_take (i := 10) rfl (by kernel_rfl) rfl rfl rfl (by exact ps_move rfl rfl) ?_; refine okT_take_g1 (i := 11) rfl (by kernel_rfl) rfl rfl rfl rfl rfl (gF _) (fun hp => by (have hpd := hp; (try simp only [decide_eq_true_eq, decide_eq_false_iff_not, Bool.or_eq_true, Bool.or_eq_false_iff, Bool.and_eq_true, Bool.and_eq_false_iff, Bool.not_eq_true', Bool.not_eq_false', bne_iff_ne, beq_iff_eq, bne_eq_false_iff_eq, beq_eq_false_iff_ne, ne_eq, Bool.not_true, Bool.not_false, Bool.false_eq_true, Bool.true_eq_false, inB_true, inB_false] at hpd); exact ps_move rfl (by exact rfl))) ?_; refine okT_take_g1 (i := 12) rfl (by kernel_rfl) rfl rfl rfl rfl rfl (gF _) (fun hp => by (have hpd := hp; (try simp only [decide_eq_true_eq, decide_eq_false_iff_not, Bool.or_eq_true, Bool.or_eq_false_iff, Bool.and_eq_true, Bool.and_eq_false_iff, Bool.not_eq_true', Bool.not_eq_false', bne_iff_ne, beq_iff_eq, bne_eq_false_iff_eq, beq_eq_false_iff_ne, ne_eq, Bool.not_true, Bool.not_false, Bool.false_eq_true, Bool.true_eq_false, inB_true, inB_false] at hpd); exact ps_int rfl (by (refine og rfl ?_; assumption)) (by exact rfl) rfl)) ?_; refine okT_take_g1 (i := 13) rfl (by kernel_rfl) rfl rfl rfl rfl rfl (gF _) (fun hp => by (have hpd := hp; (try simp only [decide_eq_true_eq, decide_eq_false_iff_not, Bool.or_eq_true, Bool.or_eq_false_iff, Bool.and_eq_true, Bool.and_eq_false_iff, Bool.not_eq_true', Bool.not_eq_false', bne_iff_ne, beq_iff_eq, bne_eq_false_iff_eq, beq_eq_false_iff_ne, ne_eq, Bool.not_true, Bool.not_false, Bool.false_eq_true, Bool.true_eq_false, inB_true, inB_false] at hpd); exact ps_move rfl (by (refine og rfl ?_; assumption)))) ?_; refine okT_take_g (i := 14) rfl (by kernel_rfl) rfl rfl rfl rfl rfl (gT _) (fun hq hp hqp => by (have hqd := hq; (try simp only [decide_eq_true_eq, decide_eq_false_iff_not, Bool.or_eq_true, Bool.or_eq_false_iff, Bool.and_eq_true, Bool.and_eq_false_iff, Bool.not_eq_true', Bool.not_eq_false', bne_iff_ne, beq_iff_eq, bne_eq_false_iff_eq, beq_eq_false_iff_ne, ne_eq, Bool.not_true, Bool.not_false, Bool.false_eq_true, Bool.true_eq_false, inB_true, inB_false] at hqd); have hpd := hp; (try simp only [decide_eq_true_eq, decide_eq_false_iff_not, Bool.or_eq_true, Bool.or_eq_false_iff, Bool.and_eq_true, Bool.and_eq_false_iff, Bool.not_eq_true', Bool.not_eq_false', bne_iff_ne, beq_iff_eq, bne_eq_false_iff_eq, beq_eq_false_iff_ne, ne_eq, Bool.not_true, Bool.not_false, Bool.false_eq_true, Bool.true_eq_false, inB_true, inB_false] at hpd); exact ps_field rfl (by exact rfl) (by exact isw_ga _))) ?_; refine okT_take_g (i := 15) rfl (by kernel_rfl) rfl rfl rfl rfl rfl (gT _) (fun hq hp hqp => by (have hqd := hq; (try simp only [decide_eq_true_eq, decide_eq_false_iff_not, Bool.or_eq_true, Bool.or_eq_false_iff, Bool.and_eq_true, Bool.and_eq_false_iff, Bool.not_eq_true', Bool.not_eq_false', bne_iff_ne, beq_iff_eq, bne_eq_false_iff_eq, beq_eq_false_iff_ne, ne_eq, Bool.not_true, Bool.not_false, Bool.false_eq_true, Bool.true_eq_false, inB_true, inB_false] at hqd); have hpd := hp; (try simp only [decide_eq_true_eq, decide_eq_false_iff_not, Bool.or_eq_true, Bool.or_eq_false_iff, Bool.and_eq_true, Bool.and_eq_false_iff, Bool.not_eq_true', Bool.not_eq_false', bne_iff_ne, beq_iff_eq, bne_eq_false_iff_eq, beq_eq_false_iff_ne, ne_eq, Bool.not_true, Bool.not_false, Bool.false_eq_true, Bool.true_eq_false, inB_true, inB_false] at hpd); exact ps_load rfl (by (refine og rfl ?_; assumption)) (by exact Rds.cell (rds_box 0 rfl) rfl))) ?_; refine okT_take_g (i := 16) rfl (by kernel_rfl) rfl rfl rfl rfl rfl (gT _) (fun hq hp hqp => by (have hqd := hq; (try simp only [decide_eq_true_eq, decide_eq_false_iff_not, Bool.or_eq_true, Bool.or_eq_false_iff, Bool.and_eq_true, Bool.and_eq_false_iff, Bool.not_eq_true', Bool.not_eq_false', bne_iff_ne, beq_iff_eq, bne_eq_false_iff_eq, beq_eq_false_iff_ne, ne_eq, Bool.not_true, Bool.not_false, Bool.false_eq_true, Bool.true_eq_false, inB_true, inB_false] at hqd); have hpd := hp; (try simp only [decide_eq_true_eq, decide_eq_false_iff_not, Bool.or_eq_true, Bool.or_eq_false_iff, Bool.and_eq_true, Bool.and_eq_false_iff, Bool.not_eq_true', Bool.not_eq_false', bne_iff_ne, beq_iff_eq, bne_eq_false_iff_eq, beq_eq_false_iff_ne, ne_eq, Bool.not_true, Bool.not_false, Bool.false_eq_true, Bool.true_eq_false, inB_true, inB_false] at hpd); exact ps_move rfl (by exact rfl))) ?_; refine okT_take_g (i := 17) rfl (by kernel_rfl) rfl rfl rfl rfl rfl (gT _) (fun hq hp hqp => by (have hqd := hq; (try simp only [decide_eq_true_eq, decide_eq_false_iff_not, Bool.or_eq_true, Bool.or_eq_false_iff, Bool.and_eq_true, Bool.and_eq_false_iff, Bool.not_eq_true', Bool.not_eq_false', bne_iff_ne, beq_iff_eq, bne_eq_false_iff_eq, beq_eq_false_iff_ne, ne_eq, Bool.not_true, Bool.not_false, Bool.false_eq_true, Bool.true_eq_false, inB_true, inB_false] at hqd); have hpd := hp; (try simp only [decide_eq_true_eq, decide_eq_false_iff_not, Bool.or_eq_true, Bool.or_eq_false_iff, Bool.and_eq_true, Bool.and_eq_false_iff, Bool.not_eq_true', Bool.not_eq_false', bne_iff_ne, beq_iff_eq, bne_eq_false_iff_eq, beq_eq_false_iff_ne, ne_eq, Bool.not_true, Bool.not_false, Bool.false_eq_true, Bool.true_eq_false, inB_true, inB_false] at hpd); exact ps_move rfl (by exact rfl))) ?_; refine okT_take_g (i := 18) rfl (by kernel_rfl) rfl rfl rfl rfl rfl (gT _) (fun hq hp hqp => by (have hqd := hq; (try simp only [decide_eq_true_eq, decide_eq_false_iff_not, Bool.or_eq_true, Bool.or_eq_false_iff, Bool.and_eq_true, Bool.and_eq_false_iff, Bool.not_eq_true', Bool.not_eq_false', bne_iff_ne, beq_iff_eq, bne_eq_false_iff_eq, beq_eq_false_iff_ne, ne_eq, Bool.not_true, Bool.not_false, Bool.false_eq_true, Bool.true_eq_false, inB_true, inB_false] at hqd); have hpd := hp; (try simp only [decide_eq_true_eq, decide_eq_false_iff_not, Bool.or_eq_true, Bool.or_eq_false_iff, Bool.and_eq_true, Bool.and_eq_false_iff, Bool.not_eq_true', Bool.not_eq_false', bne_iff_ne, beq_iff_eq, bne_eq_false_iff_eq, beq_eq_false_iff_ne, ne_eq, Bool.not_true, Bool.not_false, Bool.false_eq_true, Bool.true_eq_false, inB_true, inB_false] at hpd); exact ps_sub rfl (by (refine og rfl ?_; assumption)) (by exact rfl) (by omega))) ?_; refine okT_take_g (i := 19) rfl (by kernel_rfl) rfl rfl rfl rfl rfl (gT _) (fun hq hp hqp => by (have hqd := hq; (try simp only [decide_eq_true_eq, decide_eq_false_iff_not, Bool.or_eq_true, Bool.or_eq_false_iff, Bool.and_eq_true, Bool.and_eq_false_iff, Bool.not_eq_true', Bool.not_eq_false', bne_iff_ne, beq_iff_eq, bne_eq_false_iff_eq, beq_eq_false_iff_ne, ne_eq, Bool.not_true, Bool.not_false, Bool.false_eq_true, Bool.true_eq_false, inB_true, inB_false] at hqd); have hpd := hp; (try simp only [decide_eq_true_eq, decide_eq_false_iff_not, Bool.or_eq_true, Bool.or_eq_false_iff, Bool.and_eq_true, Bool.and_eq_false_iff, Bool.not_eq_true', Bool.not_eq_false', bne_iff_ne, beq_iff_eq, bne_eq_false_iff_eq, beq_eq_false_iff_ne, ne_eq, Bool.not_true, Bool.not_false, Bool.false_eq_true, Bool.true_eq_false, inB_true, inB_false] at hpd); exact ps_index rfl (by (refine og rfl ?_; assumption)) (by (refine og rfl ?_; assumption)) (by omega) (by exact isw_of (isS_fl (by assumption) (by omega))))) ?_; refine okT_take_g (i := 20) rfl (by kernel_rfl) rfl rfl rfl rfl rfl (gT _) (fun hq hp hqp => by (have hqd := hq; (try simp only [decide_eq_true_eq, decide_eq_false_iff_not, Bool.or_eq_true, Bool.or_eq_false_iff, Bool.and_eq_true, Bool.and_eq_false_iff, Bool.not_eq_true', Bool.not_eq_false', bne_iff_ne, beq_iff_eq, bne_eq_false_iff_eq, beq_eq_false_iff_ne, ne_eq, Bool.not_true, Bool.not_false, Bool.false_eq_true, Bool.true_eq_false, inB_true, inB_false] at hqd); have hpd := hp; (try simp only [decide_eq_true_eq, decide_eq_false_iff_not, Bool.or_eq_true, Bool.or_eq_false_iff, Bool.and_eq_true, Bool.and_eq_false_iff, Bool.not_eq_true', Bool.not_eq_false', bne_iff_ne, beq_iff_eq, bne_eq_false_iff_eq, beq_eq_false_iff_ne, ne_eq, Bool.not_true, Bool.not_false, Bool.false_eq_true, Bool.true_eq_false, inB_true, inB_false] at hpd); exact ps_field rfl (by (refine og rfl ?_; assumption)) (by exact isw_of (isS_fl (by assumption) (by omega))))) ?_; refine okT_take_g (i := 21) rfl (by kernel_rfl) rfl rfl rfl rfl rfl (gT _) (fun hq hp hqp => by (have hqd := hq; (try simp only [decide_eq_true_eq, decide_eq_false_iff_not, Bool.or_eq_true, Bool.or_eq_false_iff, Bool.and_eq_true, Bool.and_eq_false_iff, Bool.not_eq_true', Bool.not_eq_false', bne_iff_ne, beq_iff_eq, bne_eq_false_iff_eq, beq_eq_false_iff_ne, ne_eq, Bool.not_true, Bool.not_false, Bool.false_eq_true, Bool.true_eq_false, inB_true, inB_false] at hqd); have hpd := hp; (try simp only [decide_eq_true_eq, decide_eq_false_iff_not, Bool.or_eq_true, Bool.or_eq_false_iff, Bool.and_eq_true, Bool.and_eq_false_iff, Bool.not_eq_true', Bool.not_eq_false', bne_iff_ne, beq_iff_eq, bne_eq_false_iff_eq, beq_eq_false_iff_ne, ne_eq, Bool.not_true, Bool.not_false, Bool.false_eq_true, Bool.true_eq_false, inB_true, inB_false] at hpd); exact ps_load rfl (by (refine og rfl ?_; assumption)) (by exact Rds.cell (rds_rf (by assumption) (by exact List.mem_cons_self)) (by exact fl_at0 _ _ (by omega) (by decide))))) ?_; refine okT_take_g (i := 22) rfl (by kernel_rfl) rfl rfl rfl rfl rfl (gT _) (fun hq hp hqp => by (have hqd := hq; (try simp only [decide_eq_true_eq, decide_eq_false_iff_not, Bool.or_eq_true, Bool.or_eq_false_iff, Bool.and_eq_true, Bool.and_eq_false_iff, Bool.not_eq_true', Bool.not_eq_false', bne_iff_ne, beq_iff_eq, bne_eq_false_iff_eq, beq_eq_false_iff_ne, ne_eq, Bool.not_true, Bool.not_false, Bool.false_eq_true, Bool.true_eq_false, inB_true, inB_false] at hqd); have hpd := hp; (try simp only [decide_eq_true_eq, decide_eq_false_iff_not, Bool.or_eq_true, Bool.or_eq_false_iff, Bool.and_eq_true, Bool.and_eq_false_iff, Bool.not_eq_true', Bool.not_eq_false', bne_iff_ne, beq_iff_eq, bne_eq_false_iff_eq, beq_eq_false_iff_ne, ne_eq, Bool.not_true, Bool.not_false, Bool.false_eq_true, Bool.true_eq_false, inB_true, inB_false] at hpd); exact ps_str rfl (by (refine og rfl ?_; assumption)) (by (refine og rfl ?_; assumption)) rfl)) ?_; refine okT_take_g1 (i := 23) rfl (by kernel_rfl) rfl rfl rfl rfl rfl (gF _) (fun hp => by (have hpd := hp; (try simp only [decide_eq_true_eq, decide_eq_false_iff_not, Bool.or_eq_true, Bool.or_eq_false_iff, Bool.and_eq_true, Bool.and_eq_false_iff, Bool.not_eq_true', Bool.not_eq_false', bne_iff_ne, beq_iff_eq, bne_eq_false_iff_eq, beq_eq_false_iff_ne, ne_eq, Bool.not_true, Bool.not_false, Bool.false_eq_true, Bool.true_eq_false, inB_true, inB_false] at hpd); exact ps_and_in (by assumption) rfl rfl rfl)) ?_; refine okT_take (i := 24) rfl (by kernel_rfl) rfl rfl rfl (by exact ps_or rfl rfl rfl) ?_; refine okT_done (by kernel_rfl) ?_; refine ok_nil ?_; refine ok_env [(0, _), (5, _), (6, _), (7, _), (36, _)] ⟨rfl, rfl, rfl, rfl, rfl, trivial⟩ ?_)
    | (refine ok_region (i := 5) ?_; refine ok_p rfl rfl rfl (by exact ps_assign rfl rfl) ?_; refine ok_nil ?_; refine ok_env [(2, _)] ⟨rfl, trivial⟩ ?_)
    | (refine ok_region (i := 6) ?_; refine ok_p rfl rfl rfl (by exact ps_add rfl rfl rfl (by omega)) ?_; refine ok_p rfl rfl rfl (by exact ps_move rfl rfl) ?_; refine ok_nil ?_; refine ok_env [(0, _), (5, _), (6, _), (7, _)] ⟨rfl, rfl, rfl, rfl, trivial⟩ ?_)
    | (refine ok_region (i := 7) ?_; refine ok_p rfl rfl rfl (by exact ps_assign rfl rfl) ?_; refine ok_nil ?_; refine ok_env [(2, _)] ⟨rfl, trivial⟩ ?_))
  · rw [tn1] at hc
    have e := all_false (p := okM l) (show k < l.length by omega) (by unfold okM; rw [hc]; rfl)
    exact ok_endL (vs := [_]) rfl ⟨rfl, trivial⟩ (fun w' hw => ⟨by rw [mapOk, e]; rfl, hw.below⟩)
  · rw [tn1] at hc
    have e : okM l k = true := by unfold okM; rw [hc]; rfl
    exact fun a w' he hw => ⟨⟨k + 1, by omega, fun j hj => by
      rcases Nat.lt_succ_iff_lt_or_eq.1 hj with h' | h'
      · exact HO.out j h'
      · subst h'; exact e⟩, by simp only; omega, he.sub ⟨rfl, rfl, rfl, rfl, trivial⟩, hw.tl⟩
  · obtain rfl : k = l.length := by omega
    have e := all_true (p := okM l) (n := l.length) (fun i hi => HO.out i hi)
    exact ok_endL (vs := [_]) rfl ⟨rfl, trivial⟩ (fun w' hw => ⟨by rw [mapOk, e]; rfl, hw.below⟩)
theorem okM_spec (l : List KV) (k : Nat) : okM l k = !(!(kk (nth l k).key && decide (((nth l k).val.size : Int) ≤ 16) && (!false || sEq (nth l k).val ⟨#[]⟩)) || decide (0 < (k : Int)) && !sLt (nth l (k - 1)).key (nth l k).key) := by
  unfold okM
  have e : decide (16 < ((nth l k).val.size : Int)) = !decide (((nth l k).val.size : Int) ≤ 16) := by
    rw [← decide_not]; congr 1; simp
  rw [e]
  cases kk (nth l k).key <;> cases decide (((nth l k).val.size : Int) ≤ 16) <;> simp
theorem s_MapOk (A : Option Addr) (c : Nat) (l : List KV) (w : World) (h : Rd w A (fl l)) (hl : l.length ≤ 1048576) : Calls Try.prog 169 #[.slice A l.length c] w fun e w' => e = .returned (.bool (mapOk l)) ∧ Below w.heap.size w w' := by
  refine ok_enter 41 Try.func169 rfl rfl rfl ?_
  repeat' (first
    | refine ok_seq ?_
    | refine ok_then ?_
    | refine ok_block ?_
    | (refine ok_region (i := 0) ?_; refine ok_p rfl rfl rfl (by exact ps_assign rfl rfl) ?_; refine ok_nil ?_; refine ok_env [(0, _)] ⟨rfl, trivial⟩ ?_)
    | (refine ok_region (i := 1) ?_; refine ok_p rfl rfl rfl (by exact ps_assign rfl rfl) ?_; refine ok_nil ?_; refine ok_env [(0, _), (3, _)] ⟨rfl, rfl, trivial⟩ ?_))
  refine ok_loop (ι := { k : Nat // k ≤ l.length ∧ ∀ j, j < k → okM l j = true }) (fun k => l.length - k.1) (fun k => ([(0, .slice A l.length c), (3, .int .i64 k.1)], [], _)) ⟨0, by omega, fun j h => absurd h (Nat.not_lt_zero j)⟩ (fun a w he hw => ⟨⟨0, by omega, fun j h => absurd h (Nat.not_lt_zero j)⟩, he.sub ⟨rfl, rfl, trivial⟩, hw⟩) ?_
  rintro ⟨k, hk, hok⟩
  simp only at hk hok ⊢
  have HO := Lib.hid hok; clear hok
  repeat' (first
    | refine ok_seq ?_
    | refine ok_then ?_
    | refine ok_then_ret ?_
    | refine ok_block ?_
    | refine ok_in_normal ?_
    | refine ok_in_ret ?_
    | (refine ok_cond rfl (fun hc => ?_) (fun hc => ?_) <;> (have hd := hc; (try simp only [decide_eq_true_eq, decide_eq_false_iff_not, Bool.or_eq_true, Bool.or_eq_false_iff, Bool.and_eq_true, Bool.and_eq_false_iff, Bool.not_eq_true', Bool.not_eq_false', bne_iff_ne, beq_iff_eq, bne_eq_false_iff_eq, beq_eq_false_iff_ne, ne_eq, Bool.not_true, Bool.not_false, Bool.false_eq_true, Bool.true_eq_false, inB_true, inB_false] at hd)))
    | refine ok_ret ?_
    | refine ok_exit ?_
    | refine ok_skip ?_
    | (refine ok_region (i := 2) ?_; refine ok_p rfl rfl rfl (by exact ps_move rfl rfl) ?_; refine ok_p rfl rfl rfl (by exact ps_move rfl rfl) ?_; refine ok_p rfl rfl rfl (by exact ps_len rfl rfl) ?_; refine ok_p rfl rfl rfl (by exact ps_int rfl rfl rfl rfl) ?_; refine ok_nil ?_; refine ok_env [(0, _), (3, _), (7, _)] ⟨rfl, rfl, rfl, trivial⟩ ?_)
    | (refine ok_region (i := 3) ?_; refine ok_p rfl rfl rfl (by exact ps_move rfl rfl) ?_; refine ok_p rfl rfl rfl (by exact ps_add rfl rfl rfl (by omega)) ?_; refine ok_p rfl rfl rfl (by exact ps_assign rfl rfl) ?_; refine ok_nil ?_; refine ok_env [(0, _), (3, _)] ⟨rfl, rfl, trivial⟩ ?_)
    | (refine ok_draw (id := 4) 31 rfl (by kernel_rfl) (by kernel_rfl) rfl (by repeat (first | exact pq_body | refine pq_then ?_ | refine pq_in ?_)) [0, 1, 2, 3, 4, 5, 6, 7, 8, 9, 10, 11, 12, 13, 14, 15, 16, 17, 18, 19, 20, 21, 22, 23] (by decide) rfl ?_; refine okT_take (i := 0) rfl (by kernel_rfl) rfl rfl rfl (by exact ps_move rfl rfl) ?_; refine okT_take (i := 1) rfl (by kernel_rfl) rfl rfl rfl (by exact ps_move rfl rfl) ?_; refine okT_take (i := 2) rfl (by kernel_rfl) rfl rfl rfl (by exact ps_indexN rfl rfl rfl (by omega) (by exact isw_of (isS_fl (by assumption) (by omega)))) ?_; refine okT_take (i := 3) rfl (by kernel_rfl) rfl rfl rfl (by exact ps_field rfl rfl (by exact isw_of (isS_fl (by assumption) (by omega)))) ?_; refine okT_take (i := 4) rfl (by kernel_rfl) rfl rfl rfl (by exact ps_load rfl rfl (by exact Rds.cell (rds_rf (by assumption) (by exact List.mem_cons_self)) (by exact fl_at0 _ _ (by omega) (by decide)))) ?_; refine okT_take (i := 5) rfl (by kernel_rfl) rfl rfl rfl (by exact ps_move rfl rfl) ?_; refine okT_take (i := 6) rfl (by kernel_rfl) rfl rfl rfl (by exact ps_move rfl rfl) ?_; refine okT_take (i := 7) rfl (by kernel_rfl) rfl rfl rfl (by exact ps_indexN rfl rfl rfl (by omega) (by exact isw_of (isS_fl (by assumption) (by omega)))) ?_; refine okT_take (i := 8) rfl (by kernel_rfl) rfl rfl rfl (by exact ps_field rfl rfl (by exact isw_of (isS_fl (by assumption) (by omega)))) ?_; refine okT_take (i := 9) rfl (by kernel_rfl) rfl rfl rfl (by exact ps_load rfl rfl (by exact Rds.cell (rds_rf (by assumption) (by exact List.mem_cons_self)) (by exact fl_at _ _ _ (by omega) (by decide)))) ?_; refine okT_take (i := 10) rfl (by kernel_rfl) rfl rfl rfl (by exact ps_bld rfl (parts_cons rfl (parts_cons rfl parts_nil)) rfl) ?_; refine okT_one (i := 11) rfl rfl (by kernel_rfl) rfl rfl rfl (by exact ms_s1 rfl rfl (fun _ _ w hw => l7Op_c (nth l k).key (nth l k).val false w)) (fun y w _ h => by exact h) ?_; rintro y21 hy21; refine okT_take (i := 12) rfl (by kernel_rfl) rfl rfl rfl (by exact ps_not rfl rfl) ?_; refine okT_take (i := 13) rfl (by kernel_rfl) rfl rfl rfl (by exact ps_move rfl rfl) ?_; refine okT_take_g1 (i := 14) rfl (by kernel_rfl) rfl rfl rfl rfl rfl (gF _) (fun hp => by (have hpd := hp; (try simp only [decide_eq_true_eq, decide_eq_false_iff_not, Bool.or_eq_true, Bool.or_eq_false_iff, Bool.and_eq_true, Bool.and_eq_false_iff, Bool.not_eq_true', Bool.not_eq_false', bne_iff_ne, beq_iff_eq, bne_eq_false_iff_eq, beq_eq_false_iff_ne, ne_eq, Bool.not_true, Bool.not_false, Bool.false_eq_true, Bool.true_eq_false, inB_true, inB_false] at hpd); exact ps_move rfl (by exact rfl))) ?_; refine okT_take_g1 (i := 15) rfl (by kernel_rfl) rfl rfl rfl rfl rfl (gF _) (fun hp => by (have hpd := hp; (try simp only [decide_eq_true_eq, decide_eq_false_iff_not, Bool.or_eq_true, Bool.or_eq_false_iff, Bool.and_eq_true, Bool.and_eq_false_iff, Bool.not_eq_true', Bool.not_eq_false', bne_iff_ne, beq_iff_eq, bne_eq_false_iff_eq, beq_eq_false_iff_ne, ne_eq, Bool.not_true, Bool.not_false, Bool.false_eq_true, Bool.true_eq_false, inB_true, inB_false] at hpd); exact ps_int rfl (by (refine og rfl ?_; assumption)) (by exact rfl) rfl)) ?_; refine okT_take_g1 (i := 16) rfl (by kernel_rfl) rfl rfl rfl rfl rfl (gF _) (fun hp => by (have hpd := hp; (try simp only [decide_eq_true_eq, decide_eq_false_iff_not, Bool.or_eq_true, Bool.or_eq_false_iff, Bool.and_eq_true, Bool.and_eq_false_iff, Bool.not_eq_true', Bool.not_eq_false', bne_iff_ne, beq_iff_eq, bne_eq_false_iff_eq, beq_eq_false_iff_ne, ne_eq, Bool.not_true, Bool.not_false, Bool.false_eq_true, Bool.true_eq_false, inB_true, inB_false] at hpd); exact ps_move rfl (by (refine og rfl ?_; assumption)))) ?_; refine okT_take_g (i := 17) rfl (by kernel_rfl) rfl rfl rfl rfl rfl (gT _) (fun hq hp hqp => by (have hqd := hq; (try simp only [decide_eq_true_eq, decide_eq_false_iff_not, Bool.or_eq_true, Bool.or_eq_false_iff, Bool.and_eq_true, Bool.and_eq_false_iff, Bool.not_eq_true', Bool.not_eq_false', bne_iff_ne, beq_iff_eq, bne_eq_false_iff_eq, beq_eq_false_iff_ne, ne_eq, Bool.not_true, Bool.not_false, Bool.false_eq_true, Bool.true_eq_false, inB_true, inB_false] at hqd); have hpd := hp; (try simp only [decide_eq_true_eq, decide_eq_false_iff_not, Bool.or_eq_true, Bool.or_eq_false_iff, Bool.and_eq_true, Bool.and_eq_false_iff, Bool.not_eq_true', Bool.not_eq_false', bne_iff_ne, beq_iff_eq, bne_eq_false_iff_eq, beq_eq_false_iff_ne, ne_eq, Bool.not_true, Bool.not_false, Bool.false_eq_true, Bool.true_eq_false, inB_true, inB_false] at hpd); exact ps_move rfl (by exact rfl))) ?_; refine okT_take_g (i := 18) rfl (by kernel_rfl) rfl rfl rfl rfl rfl (gT _) (fun hq hp hqp => by (have hqd := hq; (try simp only [decide_eq_true_eq, decide_eq_false_iff_not, Bool.or_eq_true, Bool.or_eq_false_iff, Bool.and_eq_true, Bool.and_eq_false_iff, Bool.not_eq_true', Bool.not_eq_false', bne_iff_ne, beq_iff_eq, bne_eq_false_iff_eq, beq_eq_false_iff_ne, ne_eq, Bool.not_true, Bool.not_false, Bool.false_eq_true, Bool.true_eq_false, inB_true, inB_false] at hqd); have hpd := hp; (try simp only [decide_eq_true_eq, decide_eq_false_iff_not, Bool.or_eq_true, Bool.or_eq_false_iff, Bool.and_eq_true, Bool.and_eq_false_iff, Bool.not_eq_true', Bool.not_eq_false', bne_iff_ne, beq_iff_eq, bne_eq_false_iff_eq, beq_eq_false_iff_ne, ne_eq, Bool.not_true, Bool.not_false, Bool.false_eq_true, Bool.true_eq_false, inB_true, inB_false] at hpd); exact ps_move rfl (by exact rfl))) ?_; refine okT_take_g (i := 19) rfl (by kernel_rfl) rfl rfl rfl rfl rfl (gT _) (fun hq hp hqp => by (have hqd := hq; (try simp only [decide_eq_true_eq, decide_eq_false_iff_not, Bool.or_eq_true, Bool.or_eq_false_iff, Bool.and_eq_true, Bool.and_eq_false_iff, Bool.not_eq_true', Bool.not_eq_false', bne_iff_ne, beq_iff_eq, bne_eq_false_iff_eq, beq_eq_false_iff_ne, ne_eq, Bool.not_true, Bool.not_false, Bool.false_eq_true, Bool.true_eq_false, inB_true, inB_false] at hqd); have hpd := hp; (try simp only [decide_eq_true_eq, decide_eq_false_iff_not, Bool.or_eq_true, Bool.or_eq_false_iff, Bool.and_eq_true, Bool.and_eq_false_iff, Bool.not_eq_true', Bool.not_eq_false', bne_iff_ne, beq_iff_eq, bne_eq_false_iff_eq, beq_eq_false_iff_ne, ne_eq, Bool.not_true, Bool.not_false, Bool.false_eq_true, Bool.true_eq_false, inB_true, inB_false] at hpd); exact ps_sub rfl (by (refine og rfl ?_; assumption)) (by exact rfl) (by omega))) ?_; refine okT_take_g (i := 20) rfl (by kernel_rfl) rfl rfl rfl rfl rfl (gT _) (fun hq hp hqp => by (have hqd := hq; (try simp only [decide_eq_true_eq, decide_eq_false_iff_not, Bool.or_eq_true, Bool.or_eq_false_iff, Bool.and_eq_true, Bool.and_eq_false_iff, Bool.not_eq_true', Bool.not_eq_false', bne_iff_ne, beq_iff_eq, bne_eq_false_iff_eq, beq_eq_false_iff_ne, ne_eq, Bool.not_true, Bool.not_false, Bool.false_eq_true, Bool.true_eq_false, inB_true, inB_false] at hqd); have hpd := hp; (try simp only [decide_eq_true_eq, decide_eq_false_iff_not, Bool.or_eq_true, Bool.or_eq_false_iff, Bool.and_eq_true, Bool.and_eq_false_iff, Bool.not_eq_true', Bool.not_eq_false', bne_iff_ne, beq_iff_eq, bne_eq_false_iff_eq, beq_eq_false_iff_ne, ne_eq, Bool.not_true, Bool.not_false, Bool.false_eq_true, Bool.true_eq_false, inB_true, inB_false] at hpd); exact ps_index rfl (by (refine og rfl ?_; assumption)) (by (refine og rfl ?_; assumption)) (by omega) (by exact isw_of (isS_fl (by assumption) (by omega))))) ?_; refine okT_take_g (i := 21) rfl (by kernel_rfl) rfl rfl rfl rfl rfl (gT _) (fun hq hp hqp => by (have hqd := hq; (try simp only [decide_eq_true_eq, decide_eq_false_iff_not, Bool.or_eq_true, Bool.or_eq_false_iff, Bool.and_eq_true, Bool.and_eq_false_iff, Bool.not_eq_true', Bool.not_eq_false', bne_iff_ne, beq_iff_eq, bne_eq_false_iff_eq, beq_eq_false_iff_ne, ne_eq, Bool.not_true, Bool.not_false, Bool.false_eq_true, Bool.true_eq_false, inB_true, inB_false] at hqd); have hpd := hp; (try simp only [decide_eq_true_eq, decide_eq_false_iff_not, Bool.or_eq_true, Bool.or_eq_false_iff, Bool.and_eq_true, Bool.and_eq_false_iff, Bool.not_eq_true', Bool.not_eq_false', bne_iff_ne, beq_iff_eq, bne_eq_false_iff_eq, beq_eq_false_iff_ne, ne_eq, Bool.not_true, Bool.not_false, Bool.false_eq_true, Bool.true_eq_false, inB_true, inB_false] at hpd); exact ps_field rfl (by (refine og rfl ?_; assumption)) (by exact isw_of (isS_fl (by assumption) (by omega))))) ?_; refine okT_take_g (i := 22) rfl (by kernel_rfl) rfl rfl rfl rfl rfl (gT _) (fun hq hp hqp => by (have hqd := hq; (try simp only [decide_eq_true_eq, decide_eq_false_iff_not, Bool.or_eq_true, Bool.or_eq_false_iff, Bool.and_eq_true, Bool.and_eq_false_iff, Bool.not_eq_true', Bool.not_eq_false', bne_iff_ne, beq_iff_eq, bne_eq_false_iff_eq, beq_eq_false_iff_ne, ne_eq, Bool.not_true, Bool.not_false, Bool.false_eq_true, Bool.true_eq_false, inB_true, inB_false] at hqd); have hpd := hp; (try simp only [decide_eq_true_eq, decide_eq_false_iff_not, Bool.or_eq_true, Bool.or_eq_false_iff, Bool.and_eq_true, Bool.and_eq_false_iff, Bool.not_eq_true', Bool.not_eq_false', bne_iff_ne, beq_iff_eq, bne_eq_false_iff_eq, beq_eq_false_iff_ne, ne_eq, Bool.not_true, Bool.not_false, Bool.false_eq_true, Bool.true_eq_false, inB_true, inB_false] at hpd); exact ps_load rfl (by (refine og rfl ?_; assumption)) (by exact Rds.cell (rds_rf (by assumption) (by exact List.mem_cons_self)) (by exact fl_at0 _ _ (by omega) (by decide))))) ?_; refine okT_take_g (i := 23) rfl (by kernel_rfl) rfl rfl rfl rfl rfl (gT _) (fun hq hp hqp => by (have hqd := hq; (try simp only [decide_eq_true_eq, decide_eq_false_iff_not, Bool.or_eq_true, Bool.or_eq_false_iff, Bool.and_eq_true, Bool.and_eq_false_iff, Bool.not_eq_true', Bool.not_eq_false', bne_iff_ne, beq_iff_eq, bne_eq_false_iff_eq, beq_eq_false_iff_ne, ne_eq, Bool.not_true, Bool.not_false, Bool.false_eq_true, Bool.true_eq_false, inB_true, inB_false] at hqd); have hpd := hp; (try simp only [decide_eq_true_eq, decide_eq_false_iff_not, Bool.or_eq_true, Bool.or_eq_false_iff, Bool.and_eq_true, Bool.and_eq_false_iff, Bool.not_eq_true', Bool.not_eq_false', bne_iff_ne, beq_iff_eq, bne_eq_false_iff_eq, beq_eq_false_iff_ne, ne_eq, Bool.not_true, Bool.not_false, Bool.false_eq_true, Bool.true_eq_false, inB_true, inB_false] at hpd); exact ps_move rfl (by exact rfl))) ?_; refine okT_take_g (i := 24) rfl (by kernel_rfl) rfl rfl rfl rfl rfl (gT _) (fun hq hp hqp => by (have hqd := hq; (try simp only [decide_eq_true_eq, decide_eq_false_iff_not, Bool.or_eq_true, Bool.or_eq_false_iff, Bool.and_eq_true, Bool.and_eq_false_iff, Bool.not_eq_true', Bool.not_eq_false', bne_iff_ne, beq_iff_eq, bne_eq_false_iff_eq, beq_eq_false_iff_ne, ne_eq, Bool.not_true, Bool.not_false, Bool.false_eq_true, Bool.true_eq_false, inB_true, inB_false] at hqd); have hpd := hp; (try simp only [decide_eq_true_eq, decide_eq_false_iff_not, Bool.or_eq_true, Bool.or_eq_false_iff, Bool.and_eq_true, Bool.and_eq_false_iff, Bool.not_eq_true', Bool.not_eq_false', bne_iff_ne, beq_iff_eq, bne_eq_false_iff_eq, beq_eq_false_iff_ne, ne_eq, Bool.not_true, Bool.not_false, Bool.false_eq_true, Bool.true_eq_false, inB_true, inB_false] at hpd); exact ps_move rfl (by exact rfl))) ?_; refine okT_take_g (i := 25) rfl (by kernel_rfl) rfl rfl rfl rfl rfl (gT _) (fun hq hp hqp => by (have hqd := hq; (try simp only [decide_eq_true_eq, decide_eq_false_iff_not, Bool.or_eq_true, Bool.or_eq_false_iff, Bool.and_eq_true, Bool.and_eq_false_iff, Bool.not_eq_true', Bool.not_eq_false', bne_iff_ne, beq_iff_eq, bne_eq_false_iff_eq, beq_eq_false_iff_ne, ne_eq, Bool.not_true, Bool.not_false, Bool.false_eq_true, Bool.true_eq_false, inB_true, inB_false] at hqd); have hpd := hp; (try simp only [decide_eq_true_eq, decide_eq_false_iff_not, Bool.or_eq_true, Bool.or_eq_false_iff, Bool.and_eq_true, Bool.and_eq_false_iff, Bool.not_eq_true', Bool.not_eq_false', bne_iff_ne, beq_iff_eq, bne_eq_false_iff_eq, beq_eq_false_iff_ne, ne_eq, Bool.not_true, Bool.not_false, Bool.false_eq_true, Bool.true_eq_false, inB_true, inB_false] at hpd); exact ps_indexN rfl (by (refine og rfl ?_; assumption)) (by (refine og rfl ?_; assumption)) (by omega) (by exact isw_of (isS_fl (by assumption) (by omega))))) ?_; refine okT_take_g (i := 26) rfl (by kernel_rfl) rfl rfl rfl rfl rfl (gT _) (fun hq hp hqp => by (have hqd := hq; (try simp only [decide_eq_true_eq, decide_eq_false_iff_not, Bool.or_eq_true, Bool.or_eq_false_iff, Bool.and_eq_true, Bool.and_eq_false_iff, Bool.not_eq_true', Bool.not_eq_false', bne_iff_ne, beq_iff_eq, bne_eq_false_iff_eq, beq_eq_false_iff_ne, ne_eq, Bool.not_true, Bool.not_false, Bool.false_eq_true, Bool.true_eq_false, inB_true, inB_false] at hqd); have hpd := hp; (try simp only [decide_eq_true_eq, decide_eq_false_iff_not, Bool.or_eq_true, Bool.or_eq_false_iff, Bool.and_eq_true, Bool.and_eq_false_iff, Bool.not_eq_true', Bool.not_eq_false', bne_iff_ne, beq_iff_eq, bne_eq_false_iff_eq, beq_eq_false_iff_ne, ne_eq, Bool.not_true, Bool.not_false, Bool.false_eq_true, Bool.true_eq_false, inB_true, inB_false] at hpd); exact ps_field rfl (by (refine og rfl ?_; assumption)) (by exact isw_of (isS_fl (by assumption) (by omega))))) ?_; refine okT_take_g (i := 27) rfl (by kernel_rfl) rfl rfl rfl rfl rfl (gT _) (fun hq hp hqp => by (have hqd := hq; (try simp only [decide_eq_true_eq, decide_eq_false_iff_not, Bool.or_eq_true, Bool.or_eq_false_iff, Bool.and_eq_true, Bool.and_eq_false_iff, Bool.not_eq_true', Bool.not_eq_false', bne_iff_ne, beq_iff_eq, bne_eq_false_iff_eq, beq_eq_false_iff_ne, ne_eq, Bool.not_true, Bool.not_false, Bool.false_eq_true, Bool.true_eq_false, inB_true, inB_false] at hqd); have hpd := hp; (try simp only [decide_eq_true_eq, decide_eq_false_iff_not, Bool.or_eq_true, Bool.or_eq_false_iff, Bool.and_eq_true, Bool.and_eq_false_iff, Bool.not_eq_true', Bool.not_eq_false', bne_iff_ne, beq_iff_eq, bne_eq_false_iff_eq, beq_eq_false_iff_ne, ne_eq, Bool.not_true, Bool.not_false, Bool.false_eq_true, Bool.true_eq_false, inB_true, inB_false] at hpd); exact ps_load rfl (by (refine og rfl ?_; assumption)) (by exact Rds.cell (rds_rf (by assumption) (by exact List.mem_cons_self)) (by exact fl_at0 _ _ (by omega) (by decide))))) ?_; refine okT_take_g (i := 28) rfl (by kernel_rfl) rfl rfl rfl rfl rfl (gT _) (fun hq hp hqp => by (have hqd := hq; (try simp only [decide_eq_true_eq, decide_eq_false_iff_not, Bool.or_eq_true, Bool.or_eq_false_iff, Bool.and_eq_true, Bool.and_eq_false_iff, Bool.not_eq_true', Bool.not_eq_false', bne_iff_ne, beq_iff_eq, bne_eq_false_iff_eq, beq_eq_false_iff_ne, ne_eq, Bool.not_true, Bool.not_false, Bool.false_eq_true, Bool.true_eq_false, inB_true, inB_false] at hqd); have hpd := hp; (try simp only [decide_eq_true_eq, decide_eq_false_iff_not, Bool.or_eq_true, Bool.or_eq_false_iff, Bool.and_eq_true, Bool.and_eq_false_iff, Bool.not_eq_true', Bool.not_eq_false', bne_iff_ne, beq_iff_eq, bne_eq_false_iff_eq, beq_eq_false_iff_ne, ne_eq, Bool.not_true, Bool.not_false, Bool.false_eq_true, Bool.true_eq_false, inB_true, inB_false] at hpd); exact ps_str rfl (by (refine og rfl ?_; assumption)) (by (refine og rfl ?_; assumption)) rfl)) ?_; refine okT_take_g1 (i := 29) rfl (by kernel_rfl) rfl rfl rfl rfl rfl (gF _) (fun hp => by (have hpd := hp; (try simp only [decide_eq_true_eq, decide_eq_false_iff_not, Bool.or_eq_true, Bool.or_eq_false_iff, Bool.and_eq_true, Bool.and_eq_false_iff, Bool.not_eq_true', Bool.not_eq_false', bne_iff_ne, beq_iff_eq, bne_eq_false_iff_eq, beq_eq_false_iff_ne, ne_eq, Bool.not_true, Bool.not_false, Bool.false_eq_true, Bool.true_eq_false, inB_true, inB_false] at hpd); exact ps_and_in (by assumption) rfl rfl rfl)) ?_; refine okT_take (i := 30) rfl (by kernel_rfl) rfl rfl rfl (by exact ps_or rfl rfl rfl) ?_; refine okT_done (by kernel_rfl) ?_; refine ok_nil ?_; refine ok_env [(0, _), (3, _), (40, _)] ⟨rfl, rfl, rfl, trivial⟩ ?_)
    | (refine ok_region (i := 5) ?_; refine ok_p rfl rfl rfl (by exact ps_assign rfl rfl) ?_; refine ok_nil ?_; refine ok_env [(2, _)] ⟨rfl, trivial⟩ ?_)
    | (refine ok_region (i := 6) ?_; refine ok_p rfl rfl rfl (by exact ps_assign rfl rfl) ?_; refine ok_nil ?_; refine ok_env [(2, _)] ⟨rfl, trivial⟩ ?_))
  all_goals try rw [tn1] at hc
  all_goals try have hok := okM_spec l k
  · rw [hc] at hok
    have e := all_false (p := okM l) (show k < l.length by omega) hok
    exact ok_endL (vs := [_]) rfl ⟨rfl, trivial⟩ (fun w' hw => ⟨by rw [mapOk, e]; rfl, hw.below⟩)
  · rw [hc] at hok
    exact fun a w' he hw => ⟨⟨k + 1, by omega, fun j hj => by
      rcases Nat.lt_succ_iff_lt_or_eq.1 hj with h' | h'
      · exact HO.out j h'
      · subst h'; exact hok⟩, by simp only; omega, he.sub ⟨rfl, rfl, trivial⟩, hw⟩
  · obtain rfl : k = l.length := by omega
    have e := all_true (p := okM l) (n := l.length) (fun i hi => HO.out i hi)
    exact ok_endL (vs := [_]) rfl ⟨rfl, trivial⟩ (fun w' hw => ⟨by rw [mapOk, e]; rfl, hw.below⟩)
/-- The place of a key; -1 where it is not there. -/
def atK (l : List KV) (k : ByteArray) : Nat → Nat → Int
  | 0, _ => -1
  | f + 1, i => if sEq (nth l i).key k = true then (i : Int) else atK l k f (i + 1)
theorem s_l35Val (A : Option Addr) (c : Nat) (l : List KV) (q : ByteArray) (w : World) (h : Rd w A (fl l)) (hl : l.length ≤ 1048576) : Calls Try.prog 194 #[.slice A l.length c, .string q] w fun e w' => e = .returned (.int .i64 (atK l q l.length 0)) ∧ Below w.heap.size w w' := by
  refine ok_enter 20 Try.func194 rfl rfl rfl ?_
  repeat' (first
    | refine ok_seq ?_
    | refine ok_then ?_
    | refine ok_block ?_
    | (refine ok_region (i := 0) ?_; refine ok_p rfl rfl rfl (by exact ps_assign rfl rfl) ?_; refine ok_nil ?_; refine ok_env [(0, _), (1, _)] ⟨rfl, rfl, trivial⟩ ?_)
    | (refine ok_region (i := 1) ?_; refine ok_p rfl rfl rfl (by exact ps_assign rfl rfl) ?_; refine ok_nil ?_; refine ok_env [(0, _), (1, _), (5, _)] ⟨rfl, rfl, rfl, trivial⟩ ?_))
  refine ok_loop (ι := { p : Nat × Nat // p.1 + p.2 = l.length ∧ atK l q p.2 p.1 = atK l q l.length 0 }) (fun p => p.1.2) (fun p => ([(0, .slice A l.length c), (1, .string q), (5, .int .i64 p.1.1)], [], _)) ⟨(0, l.length), by simp, rfl⟩ (fun a w he hw => ⟨⟨(0, l.length), by simp, rfl⟩, he.sub ⟨rfl, rfl, rfl, trivial⟩, hw⟩) ?_
  rintro ⟨⟨k, f⟩, hk, hat⟩
  simp only at hk hat ⊢
  have HA := Lib.hid hat; clear hat
  repeat' (first
    | refine ok_seq ?_
    | refine ok_then ?_
    | refine ok_then_ret ?_
    | refine ok_block ?_
    | refine ok_in_normal ?_
    | refine ok_in_ret ?_
    | (refine ok_cond rfl (fun hc => ?_) (fun hc => ?_) <;> (have hd := hc; (try simp only [decide_eq_true_eq, decide_eq_false_iff_not, Bool.or_eq_true, Bool.or_eq_false_iff, Bool.and_eq_true, Bool.and_eq_false_iff, Bool.not_eq_true', Bool.not_eq_false', bne_iff_ne, beq_iff_eq, bne_eq_false_iff_eq, beq_eq_false_iff_ne, ne_eq, Bool.not_true, Bool.not_false, Bool.false_eq_true, Bool.true_eq_false, inB_true, inB_false] at hd)))
    | refine ok_ret ?_
    | refine ok_exit ?_
    | refine ok_skip ?_
    | (refine ok_region (i := 2) ?_; refine ok_p rfl rfl rfl (by exact ps_move rfl rfl) ?_; refine ok_p rfl rfl rfl (by exact ps_move rfl rfl) ?_; refine ok_p rfl rfl rfl (by exact ps_len rfl rfl) ?_; refine ok_p rfl rfl rfl (by exact ps_int rfl rfl rfl rfl) ?_; refine ok_nil ?_; refine ok_env [(0, _), (1, _), (5, _), (9, _)] ⟨rfl, rfl, rfl, rfl, trivial⟩ ?_)
    | (refine ok_region (i := 3) ?_; refine ok_p rfl rfl rfl (by exact ps_move rfl rfl) ?_; refine ok_p rfl rfl rfl (by exact ps_add rfl rfl rfl (by omega)) ?_; refine ok_p rfl rfl rfl (by exact ps_assign rfl rfl) ?_; refine ok_nil ?_; refine ok_env [(0, _), (1, _), (5, _)] ⟨rfl, rfl, rfl, trivial⟩ ?_)
    | (refine ok_region (i := 4) ?_; refine ok_p rfl rfl rfl (by exact ps_move rfl rfl) ?_; refine ok_p rfl rfl rfl (by exact ps_move rfl rfl) ?_; refine ok_p rfl rfl rfl (by exact ps_indexN rfl rfl rfl (by omega) (by exact isw_of (isS_fl (by assumption) (by omega)))) ?_; refine ok_p rfl rfl rfl (by exact ps_field rfl rfl (by exact isw_of (isS_fl (by assumption) (by omega)))) ?_; refine ok_p rfl rfl rfl (by exact ps_load rfl rfl (by exact Rds.cell (rds_rf (by assumption) (by exact List.mem_cons_self)) (by exact fl_at0 _ _ (by omega) (by decide)))) ?_; refine ok_p rfl rfl rfl (by exact ps_move rfl rfl) ?_; refine ok_p rfl rfl rfl (by exact ps_str rfl rfl rfl rfl) ?_; refine ok_nil ?_; refine ok_env [(0, _), (1, _), (5, _), (18, _)] ⟨rfl, rfl, rfl, rfl, trivial⟩ ?_)
    | (refine ok_region (i := 5) ?_; refine ok_p rfl rfl rfl (by exact ps_move rfl rfl) ?_; refine ok_p rfl rfl rfl (by exact ps_assign rfl rfl) ?_; refine ok_nil ?_; refine ok_env [(4, _)] ⟨rfl, trivial⟩ ?_)
    | (refine ok_region (i := 6) ?_; refine ok_p rfl rfl rfl (by exact ps_assign rfl rfl) ?_; refine ok_nil ?_; refine ok_env [(4, _)] ⟨rfl, trivial⟩ ?_))
  · have e := HA.out
    obtain ⟨f', rfl⟩ : ∃ f', f = f' + 1 := ⟨f - 1, by omega⟩
    rw [atK, if_pos hc] at e
    exact ok_endL (vs := [_]) rfl ⟨rfl, trivial⟩ (fun w' hw => ⟨by rw [← e]; rfl, hw.below⟩)
  · have e := HA.out
    obtain ⟨f', rfl⟩ : ∃ f', f = f' + 1 := ⟨f - 1, by omega⟩
    rw [atK, if_neg (by rw [hc]; simp)] at e
    exact fun a w' he hw => ⟨⟨(k + 1, f'), by simp only; omega, e⟩, by simp only; omega, he.sub ⟨rfl, rfl, rfl, trivial⟩, hw⟩
  · have e := HA.out
    obtain rfl : f = 0 := by omega
    exact ok_endL (vs := [_]) rfl ⟨rfl, trivial⟩ (fun w' hw => ⟨by rw [← e]; rfl, hw.below⟩)
end Go.Proofs.Ytfcnimglcialbaa
/- Finding and deleting in a row by a function; cache rows. -/
namespace Go.Proofs.Ytfcnimglcialbaa
open Go.RowKit
set_option maxHeartbeats 4000000
set_option maxRecDepth 20000
set_option linter.unusedVariables false
set_option linter.unusedSimpArgs false
/-- The first index at which a test holds; -1 where none does. -/
def ixF {α : Type} [Dat α] (p : α → Bool) (l : List α) : Nat → Nat → Int
  | 0, _ => -1
  | f + 1, k => bif p (nth l k) then (k : Int) else ixF p l f (k + 1)
def ixP {α : Type} [Dat α] (p : α → Bool) (l : List α) : Int := ixF p l l.length 0
theorem ixF_or {α : Type} [Dat α] (p : α → Bool) (l : List α) : ∀ f k, (ixF p l f k = -1 ∧ ∀ j, k ≤ j → j < k + f → p (nth l j) = false) ∨ (∃ i : Nat, ixF p l f k = i ∧ k ≤ i ∧ i < k + f ∧ p (nth l i) = true ∧ ∀ j, k ≤ j → j < i → p (nth l j) = false)
  | 0, k => .inl ⟨rfl, fun j a b => by omega⟩
  | f + 1, k => by
    unfold ixF
    cases h : p (nth l k) with
    | true => exact .inr ⟨k, rfl, by omega, by omega, h, fun j a b => by omega⟩
    | false =>
      rcases ixF_or p l f (k + 1) with ⟨a, b⟩ | ⟨i, a, b, c, d, e⟩
      · refine .inl ⟨a, fun j h1 h2 => ?_⟩
        rcases Nat.eq_or_lt_of_le h1 with rfl | h3
        · exact h
        · exact b j h3 (by omega)
      · refine .inr ⟨i, a, by omega, by omega, d, fun j h1 h2 => ?_⟩
        rcases Nat.eq_or_lt_of_le h1 with rfl | h3
        · exact h
        · exact e j h3 h2
theorem ixP_or {α : Type} [Dat α] (p : α → Bool) (l : List α) : (ixP p l = -1 ∧ ∀ j, j < l.length → p (nth l j) = false) ∨ (∃ i : Nat, ixP p l = i ∧ i < l.length ∧ p (nth l i) = true ∧ ∀ j, j < i → p (nth l j) = false) := by
  rcases ixF_or p l l.length 0 with ⟨a, b⟩ | ⟨i, a, b, c, d, e⟩
  · exact .inl ⟨a, fun j h => b j (by omega) (by omega)⟩
  · exact .inr ⟨i, a, by omega, d, fun j h => e j (by omega) h⟩
theorem ixF_step {α : Type} [Dat α] {p : α → Bool} {l : List α} {k : Nat} (h : k < l.length) : ixF p l (l.length - k) k = bif p (nth l k) then (k : Int) else ixF p l (l.length - (k + 1)) (k + 1) := by
  rw [show l.length - k = (l.length - (k + 1)) + 1 by omega, ixF]
section
variable {P : Program} {E : Env} {H : List HObj} {G : List World} {o : Oper}
theorem add_zero_all (A : Option Addr) (k : Nat) : A.map (·.add (0 * k)) = A := by
  cases A <;> simp [Addr.add]
theorem ps_slice0 {x : Operand} {hi : Operand} {t e sz bytes : TypeId} {A : Option Addr} {n c : Nat} {h : Nat} {z : Int} {k : IntKind} [ht : EL P t e sz bytes] (ho : o.op = .slice t x none (some hi) none) (hx : opd E x = some (.slice A n c))
    (hhi : opd E hi = some (.int k z)) (hz : z = (h : Int)) (h2 : h ≤ c) : PStep P E H G o (.slice A h c) := by
  subst hz
  have := ps_slice (P := P) (E := E) (H := H) (G := G) (l := 0) (h := h) ho hx rfl ⟨k, hhi⟩ (by omega) h2
  rw [add_zero_all] at this
  simpa using this
theorem ps_sliceE {x : Operand} {lo : Operand} {t e sz bytes : TypeId} {A : Option Addr} {n c : Nat} {l : Nat} {z : Int} {k : IntKind} [ht : EL P t e sz bytes] (ho : o.op = .slice t x (some lo) none none) (hx : opd E x = some (.slice A n c))
    (hlo : opd E lo = some (.int k z)) (hz : z = (l : Int)) (h1 : l ≤ n) (h2 : n ≤ c) : PStep P E H G o (.slice (if c = l then A else A.map (·.add (l * sz))) (n - l) (c - l)) := by
  subst hz
  exact ps_slice (l := l) (h := n) ho hx ⟨k, hlo⟩ rfl h1 h2
theorem ps_sliceEE {x : Operand} {lo hi : Operand} {t e sz bytes : TypeId} {A : Option Addr} {n c : Nat} {l h : Nat} {z z' : Int} {k k' : IntKind} [ht : EL P t e sz bytes] (ho : o.op = .slice t x (some lo) (some hi) none) (hx : opd E x = some (.slice A n c))
    (hlo : opd E lo = some (.int k z)) (hhi : opd E hi = some (.int k' z')) (hz : z = (l : Int)) (hz' : z' = (h : Int)) (h1 : l ≤ h) (h2 : h ≤ c) : PStep P E H G o (.slice (if c = l then A else A.map (·.add (l * sz))) (h - l) (c - l)) := by
  subst hz hz'
  exact ps_slice (l := l) (h := h) ho hx ⟨k, hlo⟩ ⟨k', hhi⟩ h1 h2
theorem fl_drop {α : Type} [Dat α] : ∀ (l : List α) (i : Nat), (fl l).drop (i * Dat.sz α) = fl (l.drop i)
  | [], i => by simp [fl]
  | x :: l, 0 => by simp [fl]
  | x :: l, i + 1 => by
    have ih := fl_drop l i
    rw [List.drop_succ_cons, fl_cons, ← ih]
    have : (i + 1) * Dat.sz α = (Dat.cells x).length + i * Dat.sz α := by rw [Dat.len, Nat.add_mul]; omega
    rw [this, List.drop_length_add_append]
theorem rds_tail {α : Type} [Dat α] {A : Option Addr} {c j sz : Nat} {L : List α} (h : Rds H G A (fl L)) (hs : Dat.sz α = sz) (hc : L.length ≤ c) (hj : j ≤ L.length) : Rds H G (if c = j then A else A.map (·.add (j * sz))) (fl (L.drop j)) := by
  by_cases h0 : c = j
  · rw [if_pos h0, List.drop_of_length_le (by omega)]
    exact fun _ _ w _ => Rd.nil w A
  · rw [if_neg h0]
    have := h.sub (i := j * sz) (n := (fl L).length)
    rw [← hs, fl_drop, List.take_of_length_le (by rw [fl_len, fl_len, List.length_drop]; exact Nat.mul_le_mul_right _ (by omega)), hs] at this
    exact this
end
theorem own_cap {w : World} {base e sz n c : Nat} {A : Option Addr} {us : List Value} (h : Own w base e sz A n c us) : n ≤ c := by
  obtain ⟨_, ⟨hA, hn⟩ | ⟨g, cap, cur, hA, _, _, hnc, _⟩⟩ := h
  · omega
  · injection hA with _ _ h3; omega
def Keeps (m w : World) : Prop := ∀ p u, m.cell? p = some u → w.cell? p = some u
theorem Rd.keeps {m w : World} {A : Option Addr} {us : List Value} (h : Rd m A us) (hk : Keeps m w) : Rd w A us := fun j u hu => by
  obtain ⟨ad, e, hc⟩ := h j u hu
  exact ⟨ad, e, hk _ _ hc⟩
theorem WOk.keeps {m w w0 : World} {base : Nat} {H : List HObj} {G : List World} (hw : WOk base w0 H G w) (hm : m ∈ G) : Keeps m w := fun p u hp => (hw.ref m hm p u hp).1
attribute [local irreducible] Calls
theorem index_c (f : FuncId) [hF : FN Try.prog f] (cs : List Value) (p : CRow → Bool) (A : Option Addr) (c : Nat) (R : List CRow) (w : World) (h : Rd w A (fl R)) (hl : R.length ≤ 4194304)
    (hf : ∀ (x : CRow) (w' : World), Keeps w w' → Calls Try.prog f (Value.agg (Dat.cells x).toArray :: cs).toArray w' (fun e w'' => e = .returned (.bool (p x)) ∧ Below w'.heap.size w' w'')) :
    Calls Try.prog 202 #[.slice A R.length c, .func (.func f) #[] cs.toArray] w fun e w' => e = .returned (.int .i64 (ixP p R)) ∧ Below w.heap.size w w' := by
  refine ok_enter 19 Try.func202 rfl rfl rfl ?_
  repeat' (first
    | refine ok_seq ?_
    | refine ok_then ?_
    | refine ok_block ?_
    | (refine ok_region (i := 0) ?_; refine ok_p rfl rfl rfl (by exact ps_assign rfl rfl) ?_; refine ok_nil ?_; refine ok_env [(0, _), (1, _)] ⟨rfl, rfl, trivial⟩ ?_)
    | (refine ok_region (i := 1) ?_; refine ok_p rfl rfl rfl (by exact ps_move rfl rfl) ?_; refine ok_p rfl rfl rfl (by exact ps_len rfl rfl) ?_; refine ok_p rfl rfl rfl (by exact ps_move rfl rfl) ?_; refine ok_nil ?_; refine ok_env [(0, _), (1, _), (7, _), (8, _)] ⟨rfl, rfl, rfl, rfl, trivial⟩ ?_))
  refine ok_loop (ι := { k : Nat // k ≤ R.length ∧ ixP p R = ixF p R (R.length - k) k }) (fun k => R.length - k.1) (fun k => ([(0, .slice A R.length c), (1, .func (.func f) #[] cs.toArray), (7, .int .i64 R.length), (8, .int .i64 k.1)], _, _)) ⟨0, by omega, rfl⟩ (fun a w he hw => ⟨⟨0, by omega, rfl⟩, he.sub ⟨rfl, rfl, rfl, rfl, trivial⟩, hw⟩) ?_
  rintro ⟨k, hk, hr⟩
  simp only at hk hr ⊢
  have HR := Lib.hid hr; clear hr
  repeat' (first
    | refine ok_seq ?_
    | refine ok_then ?_
    | refine ok_then_ret ?_
    | refine ok_block ?_
    | refine ok_in_normal ?_
    | refine ok_in_ret ?_
    | (refine ok_cond rfl (fun hc => ?_) (fun hc => ?_) <;> (have hd := hc; (try simp only [decide_eq_true_eq, decide_eq_false_iff_not, Bool.or_eq_true, Bool.or_eq_false_iff, Bool.and_eq_true, Bool.and_eq_false_iff, Bool.not_eq_true', Bool.not_eq_false', bne_iff_ne, beq_iff_eq, bne_eq_false_iff_eq, beq_eq_false_iff_ne, ne_eq, Bool.not_true, Bool.not_false, Bool.false_eq_true, Bool.true_eq_false, inB_true, inB_false] at hd)))
    | refine ok_ret ?_
    | refine ok_exit ?_
    | refine ok_skip ?_
    | (refine ok_region (i := 2) ?_; refine ok_p rfl rfl rfl (by exact ps_int rfl rfl rfl rfl) ?_; refine ok_nil ?_; refine ok_env [(0, _), (1, _), (7, _), (8, _), (9, _)] ⟨rfl, rfl, rfl, rfl, rfl, trivial⟩ ?_)
    | (refine ok_region (i := 3) ?_; refine ok_p rfl rfl rfl (by exact ps_move rfl rfl) ?_; refine ok_p rfl rfl rfl (by exact ps_assign rfl rfl) ?_; refine ok_nil ?_; refine ok_env [(0, _), (1, _), (5, _), (7, _), (8, _)] ⟨rfl, rfl, rfl, rfl, rfl, trivial⟩ ?_)
    | (refine ok_region (i := 4) ?_; refine ok_p rfl rfl rfl (by exact ps_move rfl rfl) ?_; refine ok_p rfl rfl rfl (by exact ps_move rfl rfl) ?_; refine ok_p rfl rfl rfl (by exact ps_move rfl rfl) ?_; refine ok_p rfl rfl rfl (by exact ps_indexN rfl rfl rfl (by omega) (by exact isw_of (isS_fl (by assumption) (by omega)))) ?_; refine ok_p rfl rfl rfl (by exact ps_loadsF rfl rfl (by exact rds_rf (by assumption) (by exact List.mem_cons_self)) (by rfl) (by rfl) (by omega) rfl) ?_; refine ok_m rfl rfl rfl (by exact ms_k1 rfl rfl rfl (fun _ _ w' hw => hf (nth R k) w' (hw.keeps (by exact List.mem_cons_self)))) ?_; rintro y16 hy16; refine ok_nil ?_; refine ok_env [(0, _), (1, _), (5, _), (7, _), (8, _), (16, _)] ⟨rfl, rfl, rfl, rfl, rfl, rfl, trivial⟩ ?_)
    | (refine ok_region (i := 5) ?_; refine ok_p rfl rfl rfl (by exact ps_move rfl rfl) ?_; refine ok_p rfl rfl rfl (by exact ps_assign rfl rfl) ?_; refine ok_nil ?_; refine ok_env [(4, _)] ⟨rfl, trivial⟩ ?_)
    | (refine ok_region (i := 6) ?_; refine ok_p rfl rfl rfl (by exact ps_add rfl rfl rfl (by omega)) ?_; refine ok_p rfl rfl rfl (by exact ps_move rfl rfl) ?_; refine ok_nil ?_; refine ok_env [(0, _), (1, _), (7, _), (8, _)] ⟨rfl, rfl, rfl, rfl, trivial⟩ ?_)
    | (refine ok_region (i := 7) ?_; refine ok_p rfl rfl rfl (by exact ps_assign rfl rfl) ?_; refine ok_nil ?_; refine ok_env [(4, _)] ⟨rfl, trivial⟩ ?_))
  · have e : ixP p R = (k : Int) := by rw [HR.out, ixF_step (by omega), hc]; rfl
    rw [e]
    exact ok_endL (vs := [_]) rfl ⟨rfl, trivial⟩ (fun w' hw => ⟨rfl, hw.below⟩)
  · have e : ixF p R (R.length - k) k = ixF p R (R.length - (k + 1)) (k + 1) := by rw [ixF_step (by omega), hc]; rfl
    exact fun a w' he hw => ⟨⟨k + 1, by omega, HR.out.trans e⟩, by simp only; omega, he.sub ⟨rfl, rfl, rfl, rfl, trivial⟩, hw⟩
  · obtain rfl : k = R.length := by omega
    have e : ixP p R = -1 := by rw [HR.out, Nat.sub_self]; rfl
    rw [e]
    exact ok_endL (vs := [_]) rfl ⟨rfl, trivial⟩ (fun w' hw => ⟨rfl, hw.below⟩)
instance : OneC CRow := ⟨fun x u hu => by
  have : u = .int .i64 x.tenant ∨ u = .int .i64 x.no ∨ u = .string x.text := by simpa [Dat.cells] using hu
  rcases this with rfl | rfl | rfl <;> rfl⟩
theorem cloneC_c (A : Option Addr) (c : Nat) (L : List CRow) (w : World) (h : Rd w A (fl L)) (m : L.length ≤ 4194304) :
    Calls Try.prog 201 #[.slice A L.length c] w fun e w' => ∃ y : Ys, e = .returned (.slice (y 0).A L.length (y 0).c) ∧ True ∧ Below w.heap.size w w' ∧ NewOk w.heap.size [.row 132 3 (y 0).A L.length (y 0).c (fl L)] [] w' := by
  refine ok_enter 8 Try.func201 rfl rfl rfl ?_
  repeat' (first
    | refine ok_seq ?_
    | refine ok_then ?_
    | refine ok_then_ret ?_
    | (refine ok_cond rfl (fun hc => ?_) (fun hc => ?_) <;> (have hd := hc; (try simp only [decide_eq_true_eq, decide_eq_false_iff_not, Bool.or_eq_true, Bool.or_eq_false_iff, Bool.and_eq_true, Bool.and_eq_false_iff, Bool.not_eq_true', Bool.not_eq_false', bne_iff_ne, beq_iff_eq, bne_eq_false_iff_eq, beq_eq_false_iff_ne, ne_eq, Bool.not_true, Bool.not_false, Bool.false_eq_true, Bool.true_eq_false, inB_true, inB_false] at hd)))
    | refine ok_ret ?_
    | refine ok_skip ?_
    | (refine ok_region (i := 0) ?_; refine ok_p rfl rfl rfl (by exact ps_assign rfl rfl) ?_; refine ok_nil ?_; refine ok_env [(0, _)] ⟨rfl, trivial⟩ ?_)
    | (refine ok_region (i := 1) ?_; refine ok_p rfl rfl rfl (by exact ps_move rfl rfl) ?_; refine ok_p rfl rfl rfl (by exact ps_eql_nil rfl rfl) ?_; refine ok_nil ?_; refine ok_env [(0, _), (4, _)] ⟨rfl, rfl, trivial⟩ ?_)
    | (refine ok_region (i := 2) ?_; refine ok_p rfl rfl rfl (by exact ps_assign rfl rfl) ?_; refine ok_nil ?_; refine ok_env [(2, _)] ⟨rfl, trivial⟩ ?_)
    | (refine ok_region (i := 3) ?_; refine ok_m rfl rfl rfl (by exact ms_lit rfl parts_nil rfl rfl rfl) ?_; rintro y5 hy5; refine ok_p rfl rfl rfl (by exact ps_move rfl rfl) ?_; refine ok_m rfl rfl rfl (by exact ms_app0 (M := L) 0 rfl rfl rfl rfl (rds_rf h (by exact List.mem_cons_self)) rfl (by omega) (by omega)) ?_; rintro y7 hy7; refine ok_p rfl rfl rfl (by exact ps_assign rfl rfl) ?_; refine ok_nil ?_; refine ok_env [(2, _)] ⟨rfl, trivial⟩ ?_))
  · have h0 : L = [] := by
      cases A with
      | some a => cases hc
      | none =>
        rcases L with _ | ⟨x, l⟩
        · rfl
        · have := isS_fl h (by simp); obtain ⟨ad, e⟩ := this; cases e
    subst h0
    refine ok_endL (vs := [_]) rfl ⟨rfl, trivial⟩ (fun w' hw => ?_)
    refine ⟨mkY none 0 w, ?_, trivial, hw.below, ?_⟩
    · rfl
    · exact NewOk.one (x := .row 132 3 none 0 0 (fl ([] : List CRow))) (Own.nil w' w.heap.size 132 3)
  · refine ok_endL (vs := [_]) rfl ⟨rfl, trivial⟩ (fun w' hw => ?_)
    refine ⟨yl [y7 0] (y7 0), ?_, trivial, hw.below, ?_⟩
    · rfl
    · have := NewOk.of (hw.sel [0] (by decide) rfl (fun _ h => h))
      exact this
/-- slices.Delete of a piece that is not empty, in an own row. -/
theorem delete_c (A : Option Addr) (c i j : Nat) (R : List CRow) (hij : i < j) (hj : j ≤ R.length) (hl : R.length ≤ 4194304) {base : Nat} {w0 w : World} {H : List HObj} {G : List World} (hw : WOk base w0 (.row 132 3 A R.length c (fl R) :: H) G w) :
    Calls Try.prog 101 #[.slice A R.length c, .int .i64 i, .int .i64 j] w fun e w' => ∃ y : Ys, e = .returned (.slice A (R.take i ++ R.drop j).length c) ∧ True ∧ WOk base w0 (.row 132 3 A (R.take i ++ R.drop j).length c (fl (R.take i ++ R.drop j)) :: H) G w' := by
  have hc := own_cap (hw.own _ List.mem_cons_self)
  have hlen : (R.take i ++ R.drop j).length = i + (R.length - j) := by simp; omega
  have hdl : (R.drop j).length = R.length - j := by simp
  refine ok_enterW 33 Try.func101 rfl rfl rfl hw ?_
  repeat' (first
    | refine ok_seq ?_
    | refine ok_then ?_
    | refine ok_then_ret ?_
    | (refine ok_cond rfl (fun hc => ?_) (fun hc => ?_) <;> (have hd := hc; (try simp only [decide_eq_true_eq, decide_eq_false_iff_not, Bool.or_eq_true, Bool.or_eq_false_iff, Bool.and_eq_true, Bool.and_eq_false_iff, Bool.not_eq_true', Bool.not_eq_false', bne_iff_ne, beq_iff_eq, bne_eq_false_iff_eq, beq_eq_false_iff_ne, ne_eq, Bool.not_true, Bool.not_false, Bool.false_eq_true, Bool.true_eq_false, inB_true, inB_false] at hd)))
    | refine ok_ret ?_
    | refine ok_skip ?_
    | (refine ok_region (i := 0) ?_; refine ok_p rfl rfl rfl (by exact ps_assign rfl rfl) ?_; refine ok_nil ?_; refine ok_env [(0, _), (1, _), (2, _)] ⟨rfl, rfl, rfl, trivial⟩ ?_)
    | (refine ok_region (i := 1) ?_; refine ok_p rfl rfl rfl (by exact ps_move rfl rfl) ?_; refine ok_p rfl rfl rfl (by exact ps_move rfl rfl) ?_; refine ok_p rfl rfl rfl (by exact ps_move rfl rfl) ?_; refine ok_p rfl rfl rfl (by exact ps_move rfl rfl) ?_; refine ok_p rfl rfl rfl (by exact ps_len rfl rfl) ?_; refine ok_p rfl rfl rfl (by exact ps_slice3 rfl rfl rfl rfl rfl (by omega) (by omega) (by omega)) ?_; refine ok_nil ?_; refine ok_env [(0, _), (1, _), (2, _)] ⟨rfl, rfl, rfl, trivial⟩ ?_)
    | (refine ok_region (i := 2) ?_; refine ok_p rfl rfl rfl (by exact ps_move rfl rfl) ?_; refine ok_p rfl rfl rfl (by exact ps_move rfl rfl) ?_; refine ok_p rfl rfl rfl (by exact ps_int rfl rfl rfl rfl) ?_; refine ok_nil ?_; refine ok_env [(0, _), (1, _), (2, _), (16, _)] ⟨rfl, rfl, rfl, rfl, trivial⟩ ?_)
    | (refine ok_region (i := 3) ?_; refine ok_p rfl rfl rfl (by exact ps_move rfl rfl) ?_; refine ok_p rfl rfl rfl (by exact ps_assign rfl rfl) ?_; refine ok_nil ?_; refine ok_env [(6, _)] ⟨rfl, trivial⟩ ?_)
    | (refine ok_region (i := 4) ?_; refine ok_p rfl rfl rfl (by exact ps_move rfl rfl) ?_; refine ok_p rfl rfl rfl (by exact ps_len rfl rfl) ?_; refine ok_p rfl rfl rfl (by exact ps_assign rfl rfl) ?_; refine ok_nil ?_; refine ok_env [(0, _), (1, _), (2, _), (7, _)] ⟨rfl, rfl, rfl, rfl, trivial⟩ ?_)
    | (refine ok_draw (id := 5) 8 rfl (by kernel_rfl) (by kernel_rfl) rfl (by repeat (first | exact pq_body | refine pq_then ?_ | refine pq_in ?_)) [] (by decide) rfl ?_; refine okT_take (i := 0) rfl (by kernel_rfl) rfl rfl rfl (by exact ps_move rfl rfl) ?_; refine okT_take (i := 1) rfl (by kernel_rfl) rfl rfl rfl (by exact ps_move rfl rfl) ?_; refine okT_take (i := 2) rfl (by kernel_rfl) rfl rfl rfl (by exact ps_slice0 (h := i) rfl rfl rfl rfl (by omega)) ?_; refine okT_take (i := 3) rfl (by kernel_rfl) rfl rfl rfl (by exact ps_move rfl rfl) ?_; refine okT_take (i := 4) rfl (by kernel_rfl) rfl rfl rfl (by exact ps_move rfl rfl) ?_; refine okT_take (i := 5) rfl (by kernel_rfl) rfl rfl rfl (by exact ps_sliceE (l := j) rfl rfl rfl rfl (by omega) (by omega)) ?_; refine okT_one (i := 6) rfl rfl (by kernel_rfl) rfl rfl rfl (by exact ms_appin (α := CRow) (L := R) (M := R.drop j) 0 rfl rfl rfl rfl (rds_tail (rds_row 0 rfl) rfl (by omega) (by omega)) rfl (by omega) (by omega) (by omega) (by omega)) (fun y w _ h => by exact h.sel [] (by decide) rfl (fun _ h => h)) ?_; rintro y26 hy26; refine okT_take (i := 7) rfl (by kernel_rfl) rfl rfl rfl (by exact ps_assign rfl rfl) ?_; refine okT_done (by kernel_rfl) ?_; refine ok_nil ?_; refine ok_env [(0, _), (7, _)] ⟨rfl, rfl, trivial⟩ ?_))
  · omega
  have e2 : i + (R.drop j).length = (R.take i ++ R.drop j).length := by omega
  have e3 : (R.take i ++ R.drop j).take (i + (R.length - j)) = R.take i ++ R.drop j := List.take_of_length_le (by omega)
  repeat' (first
    | refine ok_seq ?_
    | refine ok_then ?_
    | refine ok_ret ?_
    | (refine ok_region (i := 6) ?_; refine ok_p rfl rfl rfl (by exact ps_move rfl rfl) ?_; refine ok_p rfl rfl rfl (by exact ps_move rfl rfl) ?_; refine ok_p rfl rfl rfl (by exact ps_len rfl rfl) ?_; refine ok_p rfl rfl rfl (by exact ps_move rfl rfl) ?_; refine ok_p rfl rfl rfl (by exact ps_sliceEE (l := i + (R.length - j)) (h := R.length) rfl rfl rfl rfl rfl rfl (by omega) (by omega)) ?_; refine ok_m_ rfl rfl (by exact ms_clear (α := CRow) (L := R.take i ++ R.drop j) (q := i + (R.length - j)) (z := [.int .i64 0, .int .i64 0, .string ⟨#[]⟩]) 0 rfl rfl (fun h => if_neg (by omega)) rfl rfl (by omega) (by omega) (by decide)) ?_; rintro y_ hy_; refine ok_nil ?_; refine ok_env [(0, _)] ⟨rfl, trivial⟩ ?_)
    | (refine ok_region (i := 7) ?_; refine ok_p rfl rfl rfl (by exact ps_move rfl rfl) ?_; refine ok_p rfl rfl rfl (by exact ps_assign rfl rfl) ?_; refine ok_nil ?_; refine ok_env [(6, _)] ⟨rfl, trivial⟩ ?_))
  rw [hlen]
  refine ok_endL (vs := [_]) rfl ⟨rfl, trivial⟩ (fun w' hw => ⟨mkY none 0 w, rfl, trivial, ?_⟩)
  rw [e3] at hw
  exact hw
/-- slices.DeleteFunc in an own row. -/
structure DelI (R : List CRow) (p : CRow → Bool) where
  i : Nat
  j : Nat
  L : List CRow
  hl : L.length = R.length
  hi : L.take i = (R.take j).filter (fun x => !p x)
  hil : i = ((R.take j).filter (fun x => !p x)).length
  hd : L.drop j = R.drop j
  hj : j ≤ R.length
theorem DelI.le {R : List CRow} {p : CRow → Bool} (q : DelI R p) : q.i ≤ q.j := by
  have h1 := q.hil
  have h2 := List.length_filter_le (fun x => !p x) (R.take q.j)
  rw [List.length_take] at h2
  omega
theorem takeN {R : List CRow} {j : Nat} (h : j < R.length) : R.take (j + 1) = R.take j ++ [nth R j] := by
  rw [List.take_add_one, List.getElem?_eq_getElem h]
  simp [nth, h]
theorem dropN {R : List CRow} {j : Nat} (h : j < R.length) : R.drop j = nth R j :: R.drop (j + 1) := by
  rw [List.drop_eq_getElem_cons h]
  simp [nth, h]
def DelI.keep {R : List CRow} {p : CRow → Bool} (q : DelI R p) (h : q.j < R.length) (hp : p (nth R q.j) = false) : DelI R p :=
  ⟨q.i + 1, q.j + 1, q.L.set q.i (nth R q.j), by rw [List.length_set]; exact q.hl, by
    have hle := q.le
    have hlt : q.i < q.L.length := by rw [q.hl]; omega
    rw [takeN h, List.filter_append, ← q.hi]
    simp only [List.filter_cons, hp, Bool.not_false, if_true, List.filter_nil]
    rw [List.take_add_one, List.take_set_of_le (Nat.le_refl _), List.getElem?_set_self hlt]; rfl, by
    rw [takeN h, List.filter_append, List.length_append, ← q.hil]
    simp [hp], by
    have hle := q.le
    rw [List.drop_set_of_lt (by omega)]
    have := congrArg (List.drop 1) q.hd
    simpa [List.drop_drop] using this, by omega⟩
def DelI.skip {R : List CRow} {p : CRow → Bool} (q : DelI R p) (h : q.j < R.length) (hp : p (nth R q.j) = true) : DelI R p :=
  ⟨q.i, q.j + 1, q.L, q.hl, by
    rw [takeN h, List.filter_append, ← q.hi]
    simp [hp], by
    rw [takeN h, List.filter_append, List.length_append, ← q.hil]
    simp [hp], by
    have := congrArg (List.drop 1) q.hd
    simpa [List.drop_drop] using this, by omega⟩
theorem DelI.at_ {R : List CRow} {p : CRow → Bool} (q : DelI R p) (h : q.j < R.length) : nth q.L q.j = nth R q.j := by
  have e := q.hd
  have hl := q.hl
  rw [dropN h, dropN (show q.j < q.L.length by omega)] at e
  exact (List.cons.inj e).1
theorem take_keep {R : List CRow} {p : CRow → Bool} {i : Nat} (h : i ≤ R.length) (hn : ∀ j, j < i → p (nth R j) = false) : (R.take i).filter (fun x => !p x) = R.take i := by
  rw [List.filter_eq_self]
  intro x hx
  obtain ⟨j, hj, rfl⟩ := List.getElem_of_mem hx
  rw [List.length_take] at hj
  have := hn j (by omega)
  rw [show nth R j = R[j]'(by omega) by simp [nth, show j < R.length by omega]] at this
  rw [List.getElem_take, this]; rfl
def DelI.start {R : List CRow} {p : CRow → Bool} {i : Nat} (h : i < R.length) (hp : p (nth R i) = true) (hn : ∀ j, j < i → p (nth R j) = false) : DelI R p :=
  ⟨i, i + 1, R, rfl, by
    rw [takeN h, List.filter_append, take_keep (by omega) hn]
    simp [hp], by
    rw [takeN h, List.filter_append, take_keep (by omega) hn]
    simp [hp]; omega, rfl, by omega⟩
theorem deleteF_c (f : FuncId) [hF : FN Try.prog f] (cs : List Value) (p : CRow → Bool) (A : Option Addr) (c : Nat) (R : List CRow) (hl : R.length ≤ 4194304) {base : Nat} {w0 w : World} {H : List HObj} {G : List World}
    (RD : World → Prop) (hk : ∀ w w', RD w → Keeps w w' → RD w') (hr : ∀ base w0 w' G, WOk base w0 H G w' → RD w')
    (hf : ∀ (x : CRow) (w' : World), RD w' → Calls Try.prog f (Value.agg (Dat.cells x).toArray :: cs).toArray w' (fun e w'' => e = .returned (.bool (p x)) ∧ Below w'.heap.size w' w''))
    (hw : WOk base w0 (.row 132 3 A R.length c (fl R) :: H) G w) :
    Calls Try.prog 105 #[.slice A R.length c, .func (.func f) #[] cs.toArray] w fun e w' => ∃ y : Ys, e = .returned (.slice A (R.filter (fun x => !p x)).length c) ∧ True ∧ WOk base w0 (.row 132 3 A (R.filter (fun x => !p x)).length c (fl (R.filter (fun x => !p x))) :: H) G w' := by
  have hc := own_cap (hw.own _ List.mem_cons_self)
  refine ok_enterW 42 Try.func105 rfl rfl rfl hw ?_
  rcases ixP_or p R with ⟨e0, hn⟩ | ⟨i, e0, hi, hp, hn⟩
  · have e1 : R.filter (fun x => !p x) = R := by have := take_keep (p := p) (Nat.le_refl R.length) hn; rwa [List.take_length] at this
    rw [e1]
    repeat' (first
      | refine ok_seq ?_
      | refine ok_then ?_
      | refine ok_then_ret ?_
      | refine ok_block ?_
      | (refine ok_cond rfl (fun hc => ?_) (fun hc => ?_) <;> (have hd := hc; (try simp only [decide_eq_true_eq, decide_eq_false_iff_not, Bool.or_eq_true, Bool.or_eq_false_iff, Bool.and_eq_true, Bool.and_eq_false_iff, Bool.not_eq_true', Bool.not_eq_false', bne_iff_ne, beq_iff_eq, bne_eq_false_iff_eq, beq_eq_false_iff_ne, ne_eq, Bool.not_true, Bool.not_false, Bool.false_eq_true, Bool.true_eq_false, inB_true, inB_false] at hd)))
      | refine ok_ret ?_
      | refine ok_skip ?_
      | (refine ok_region (i := 0) ?_; refine ok_p rfl rfl rfl (by exact ps_assign rfl rfl) ?_; refine ok_nil ?_; refine ok_env [(0, _), (1, _)] ⟨rfl, rfl, trivial⟩ ?_)
      | (refine ok_region (i := 1) ?_; refine ok_p rfl rfl rfl (by exact ps_move rfl rfl) ?_; refine ok_p rfl rfl rfl (by exact ps_move rfl rfl) ?_; refine ok_m rfl rfl rfl (by exact ms_s2 rfl rfl rfl (fun _ _ w' hw => index_c f cs p A c R w' (Rd.of_own (hw.own _ List.mem_cons_self)) hl (fun x w'' hb => hf x w'' (hk _ _ (hr _ _ _ _ hw.tl) hb)))) ?_; rintro y10 hy10; refine ok_p rfl rfl rfl (by exact ps_assign rfl rfl) ?_; refine ok_nil ?_; refine ok_env [(0, _), (1, _), (5, _)] ⟨rfl, rfl, rfl, trivial⟩ ?_)
      | (refine ok_region (i := 2) ?_; refine ok_p rfl rfl rfl (by exact ps_move rfl rfl) ?_; refine ok_p rfl rfl rfl (by exact ps_int rfl rfl rfl rfl) ?_; refine ok_nil ?_; refine ok_env [(0, _), (1, _), (5, _), (12, _)] ⟨rfl, rfl, rfl, rfl, trivial⟩ ?_)
      | (refine ok_region (i := 3) ?_; refine ok_p rfl rfl rfl (by exact ps_move rfl rfl) ?_; refine ok_p rfl rfl rfl (by exact ps_assign rfl rfl) ?_; refine ok_nil ?_; refine ok_env [(4, _)] ⟨rfl, trivial⟩ ?_)
      | (refine ok_region (i := 4) ?_; refine ok_p rfl rfl rfl (by exact ps_move rfl rfl) ?_; refine ok_p rfl rfl rfl (by exact ps_add rfl rfl rfl (by omega)) ?_; refine ok_p rfl rfl rfl (by exact ps_assign rfl rfl) ?_; refine ok_nil ?_; refine ok_env [(0, _), (1, _), (5, _), (6, _)] ⟨rfl, rfl, rfl, rfl, trivial⟩ ?_))
    · exact ok_endL (vs := [_]) rfl ⟨rfl, trivial⟩ (fun w' hw => ⟨mkY none 0 w, rfl, trivial, hw⟩)
    · exfalso; omega
  · skip
    repeat' (first
      | refine ok_seq ?_
      | refine ok_then ?_
      | refine ok_then_ret ?_
      | refine ok_block ?_
      | (refine ok_cond rfl (fun hc => ?_) (fun hc => ?_) <;> (have hd := hc; (try simp only [decide_eq_true_eq, decide_eq_false_iff_not, Bool.or_eq_true, Bool.or_eq_false_iff, Bool.and_eq_true, Bool.and_eq_false_iff, Bool.not_eq_true', Bool.not_eq_false', bne_iff_ne, beq_iff_eq, bne_eq_false_iff_eq, beq_eq_false_iff_ne, ne_eq, Bool.not_true, Bool.not_false, Bool.false_eq_true, Bool.true_eq_false, inB_true, inB_false] at hd)))
      | refine ok_ret ?_
      | refine ok_skip ?_
      | (refine ok_region (i := 0) ?_; refine ok_p rfl rfl rfl (by exact ps_assign rfl rfl) ?_; refine ok_nil ?_; refine ok_env [(0, _), (1, _)] ⟨rfl, rfl, trivial⟩ ?_)
      | (refine ok_region (i := 1) ?_; refine ok_p rfl rfl rfl (by exact ps_move rfl rfl) ?_; refine ok_p rfl rfl rfl (by exact ps_move rfl rfl) ?_; refine ok_m rfl rfl rfl (by exact ms_s2 rfl rfl rfl (fun _ _ w' hw => index_c f cs p A c R w' (Rd.of_own (hw.own _ List.mem_cons_self)) hl (fun x w'' hb => hf x w'' (hk _ _ (hr _ _ _ _ hw.tl) hb)))) ?_; rintro y10 hy10; refine ok_p rfl rfl rfl (by exact ps_assign rfl rfl) ?_; refine ok_nil ?_; refine ok_env [(0, _), (1, _), (5, _)] ⟨rfl, rfl, rfl, trivial⟩ ?_)
      | (refine ok_region (i := 2) ?_; refine ok_p rfl rfl rfl (by exact ps_move rfl rfl) ?_; refine ok_p rfl rfl rfl (by exact ps_int rfl rfl rfl rfl) ?_; refine ok_nil ?_; refine ok_env [(0, _), (1, _), (5, _), (12, _)] ⟨rfl, rfl, rfl, rfl, trivial⟩ ?_)
      | (refine ok_region (i := 3) ?_; refine ok_p rfl rfl rfl (by exact ps_move rfl rfl) ?_; refine ok_p rfl rfl rfl (by exact ps_assign rfl rfl) ?_; refine ok_nil ?_; refine ok_env [(4, _)] ⟨rfl, trivial⟩ ?_)
      | (refine ok_region (i := 4) ?_; refine ok_p rfl rfl rfl (by exact ps_move rfl rfl) ?_; refine ok_p rfl rfl rfl (by exact ps_add rfl rfl rfl (by omega)) ?_; refine ok_p rfl rfl rfl (by exact ps_assign rfl rfl) ?_; refine ok_nil ?_; refine ok_env [(0, _), (1, _), (5, _), (6, _)] ⟨rfl, rfl, rfl, rfl, trivial⟩ ?_))
    · exfalso; omega
    rw [e0]
    refine ok_loop (ι := DelI R p) (fun q => R.length - q.j) (fun q => ([(0, .slice A R.length c), (1, .func (.func f) #[] cs.toArray), (5, .int .i64 q.i), (6, .int .i64 q.j)], .row 132 3 A R.length c (fl q.L) :: H, _)) (DelI.start hi hp hn) (fun a w he hw => ⟨DelI.start hi hp hn, he.sub ⟨rfl, rfl, rfl, rfl, trivial⟩, hw⟩) ?_
    intro q
    simp only
    have q1 := q.le
    have q2 := q.hj
    have q3 := q.hl
    repeat' (first
      | refine ok_seq ?_
      | refine ok_then ?_
      | refine ok_block ?_
      | refine ok_in_normal ?_
      | (refine ok_cond rfl (fun hc => ?_) (fun hc => ?_) <;> (have hd := hc; (try simp only [decide_eq_true_eq, decide_eq_false_iff_not, Bool.or_eq_true, Bool.or_eq_false_iff, Bool.and_eq_true, Bool.and_eq_false_iff, Bool.not_eq_true', Bool.not_eq_false', bne_iff_ne, beq_iff_eq, bne_eq_false_iff_eq, beq_eq_false_iff_ne, ne_eq, Bool.not_true, Bool.not_false, Bool.false_eq_true, Bool.true_eq_false, inB_true, inB_false] at hd)))
      | refine ok_exit ?_
      | refine ok_skip ?_
      | (refine ok_region (i := 5) ?_; refine ok_p rfl rfl rfl (by exact ps_move rfl rfl) ?_; refine ok_p rfl rfl rfl (by exact ps_move rfl rfl) ?_; refine ok_p rfl rfl rfl (by exact ps_len rfl rfl) ?_; refine ok_p rfl rfl rfl (by exact ps_int rfl rfl rfl rfl) ?_; refine ok_nil ?_; refine ok_env [(0, _), (1, _), (5, _), (6, _), (19, _)] ⟨rfl, rfl, rfl, rfl, rfl, trivial⟩ ?_)
      | (refine ok_region (i := 6) ?_; refine ok_p rfl rfl rfl (by exact ps_move rfl rfl) ?_; refine ok_p rfl rfl rfl (by exact ps_add rfl rfl rfl (by omega)) ?_; refine ok_p rfl rfl rfl (by exact ps_assign rfl rfl) ?_; refine ok_nil ?_; refine ok_env [(0, _), (1, _), (5, _), (6, _)] ⟨rfl, rfl, rfl, rfl, trivial⟩ ?_)
      | (refine ok_region (i := 7) ?_; refine ok_p rfl rfl rfl (by exact ps_move rfl rfl) ?_; refine ok_p rfl rfl rfl (by exact ps_move rfl rfl) ?_; refine ok_p rfl rfl rfl (by exact ps_indexN rfl rfl rfl (by omega) (by exact isw_row 0 rfl (by omega))) ?_; refine ok_p rfl rfl rfl (by exact ps_loadsF rfl rfl (by exact rds_row 0 rfl) (by rfl) (by rfl) (by omega) rfl) ?_; refine ok_m rfl rfl rfl (by exact ms_alloc rfl) ?_; rintro y7 hy7; refine ok_m_ rfl rfl (by exact ms_store 0 rfl rfl rfl rfl rfl rfl rfl rfl) ?_; rintro y_ hy_; refine ok_nil ?_; refine ok_env [(0, _), (1, _), (5, _), (6, _), (7, _)] ⟨rfl, rfl, rfl, rfl, rfl, trivial⟩ ?_)
      | (refine ok_region (i := 8) ?_; refine ok_p rfl rfl rfl (by exact ps_move rfl rfl) ?_; refine ok_p rfl rfl rfl (by exact ps_loads rfl rfl (by exact rds_box 0 rfl) rfl rfl (by decide)) ?_; refine ok_m rfl rfl rfl (by exact ms_k1 rfl rfl rfl (fun _ _ w' hw => hf (nth q.L q.j) w' (hr _ _ _ _ hw.tl.tl))) ?_; rintro y28 hy28; refine ok_p rfl rfl rfl (by exact ps_not rfl rfl) ?_; refine ok_nil ?_; refine ok_env [(0, _), (1, _), (5, _), (6, _), (7, _), (29, _)] ⟨rfl, rfl, rfl, rfl, rfl, rfl, trivial⟩ ?_)
      | (refine ok_region (i := 9) ?_; refine ok_p rfl rfl rfl (by exact ps_move rfl rfl) ?_; refine ok_p rfl rfl rfl (by exact ps_move rfl rfl) ?_; refine ok_p rfl rfl rfl (by exact ps_loads rfl rfl (by exact rds_box 0 rfl) rfl rfl (by decide)) ?_; refine ok_p rfl rfl rfl (by exact ps_indexN rfl rfl rfl (by omega) (by exact isw_row 1 rfl (by omega))) ?_; refine ok_m_ rfl rfl (by exact ms_setw (α := CRow) 1 q.i (nth q.L q.j) rfl rfl rfl rfl rfl rfl rfl rfl rfl (by omega)) ?_; rintro y_ hy_; refine ok_nil ?_; refine ok_env [(0, _), (1, _), (5, _), (6, _)] ⟨rfl, rfl, rfl, rfl, trivial⟩ ?_)
      | (refine ok_region (i := 10) ?_; refine ok_p rfl rfl rfl (by exact ps_move rfl rfl) ?_; refine ok_p rfl rfl rfl (by exact ps_add rfl rfl rfl (by omega)) ?_; refine ok_p rfl rfl rfl (by exact ps_assign rfl rfl) ?_; refine ok_nil ?_; refine ok_env [(0, _), (1, _), (5, _), (6, _)] ⟨rfl, rfl, rfl, rfl, trivial⟩ ?_))
    · have e := q.at_ (by omega)
      have hp' : p (nth R q.j) = false := by rw [← e]; exact hd
      refine fun a w' he hw => ⟨q.keep (by omega) hp', by simp only [DelI.keep]; omega, he.sub ⟨rfl, rfl, rfl, rfl, trivial⟩, ?_⟩
      rw [e] at hw
      exact hw.tl
    · have e := q.at_ (by omega)
      have hp' : p (nth R q.j) = true := by rw [← e]; exact hd
      exact fun a w' he hw => ⟨q.skip (by omega) hp', by simp only [DelI.skip]; omega, he.sub ⟨rfl, rfl, rfl, rfl, trivial⟩, hw.tl⟩
    have e2 : q.L.take q.i = R.filter (fun x => !p x) := by
      rw [q.hi, List.take_of_length_le (by omega)]
    have e3 : (R.filter (fun x => !p x)).length = q.i := by
      have := q.hil
      rw [List.take_of_length_le (by omega)] at this
      exact this.symm
    repeat' (first
      | refine ok_seq ?_
      | refine ok_then ?_
      | refine ok_ret ?_
      | (refine ok_region (i := 11) ?_; refine ok_p rfl rfl rfl (by exact ps_move rfl rfl) ?_; refine ok_p rfl rfl rfl (by exact ps_move rfl rfl) ?_; refine ok_p rfl rfl rfl (by exact ps_sliceE (l := q.i) rfl rfl rfl rfl (by omega) (by omega)) ?_; refine ok_m_ rfl rfl (by exact ms_clear (α := CRow) (L := q.L) (q := q.i) (z := [.int .i64 0, .int .i64 0, .string ⟨#[]⟩]) 0 rfl rfl (fun h => if_neg (by omega)) rfl rfl (by omega) (by omega) (by decide)) ?_; rintro y_ hy_; refine ok_nil ?_; refine ok_env [(0, _), (5, _)] ⟨rfl, rfl, trivial⟩ ?_)
      | (refine ok_region (i := 12) ?_; refine ok_p rfl rfl rfl (by exact ps_move rfl rfl) ?_; refine ok_p rfl rfl rfl (by exact ps_move rfl rfl) ?_; refine ok_p rfl rfl rfl (by exact ps_slice0 (h := q.i) rfl rfl rfl rfl (by omega)) ?_; refine ok_p rfl rfl rfl (by exact ps_assign rfl rfl) ?_; refine ok_nil ?_; refine ok_env [(4, _)] ⟨rfl, trivial⟩ ?_))
    rw [e3]
    refine ok_endL (vs := [_]) rfl ⟨rfl, trivial⟩ (fun w' hw => ⟨mkY none 0 w, rfl, trivial, ?_⟩)
    rw [e2] at hw
    exact hw
end Go.Proofs.Ytfcnimglcialbaa
/- Rows of FKey: cloned. -/
namespace Go.Proofs.Ytfcnimglcialbaa
open Go.RowKit
set_option maxHeartbeats 4000000
set_option maxRecDepth 20000
set_option linter.unusedVariables false
set_option linter.unusedSimpArgs false
attribute [local irreducible] Calls
instance : OneC FKey := ⟨fun x u hu => by
  have : u = .int .i64 x.no ∨ u = .string x.text := by simpa [Dat.cells] using hu
  rcases this with rfl | rfl <;> rfl⟩
theorem cloneK_c (A : Option Addr) (c : Nat) (L : List FKey) (w : World) (h : Rd w A (fl L)) (m : L.length ≤ 4194304) :
    Calls Try.prog 233 #[.slice A L.length c] w fun e w' => ∃ y : Ys, e = .returned (.slice (y 0).A L.length (y 0).c) ∧ True ∧ Below w.heap.size w w' ∧ NewOk w.heap.size [.row 111 2 (y 0).A L.length (y 0).c (fl L)] [] w' := by
  refine ok_enter 8 Try.func233 rfl rfl rfl ?_
  repeat' (first
    | refine ok_seq ?_
    | refine ok_then ?_
    | refine ok_then_ret ?_
    | refine ok_then_exit ?_
    | refine ok_block ?_
    | refine ok_in_normal ?_
    | refine ok_in_ret ?_
    | refine ok_in_exit ?_
    | refine ok_in_other rfl ?_
    | (refine ok_cond rfl (fun hc => ?_) (fun hc => ?_) <;> (have hd := hc; (try simp only [decide_eq_true_eq, decide_eq_false_iff_not, Bool.or_eq_true, Bool.or_eq_false_iff, Bool.and_eq_true, Bool.and_eq_false_iff, Bool.not_eq_true', Bool.not_eq_false', bne_iff_ne, beq_iff_eq, bne_eq_false_iff_eq, beq_eq_false_iff_ne, ne_eq, Bool.not_true, Bool.not_false, Bool.false_eq_true, Bool.true_eq_false, inB_true, inB_false] at hd)))
    | refine ok_ret ?_
    | refine ok_exit ?_
    | refine ok_skip ?_
    | (refine ok_region (i := 0) ?_; refine ok_p rfl rfl rfl (by exact ps_assign rfl rfl) ?_; refine ok_nil ?_; refine ok_env [(0, _)] ⟨rfl, trivial⟩ ?_)
    | (refine ok_region (i := 1) ?_; refine ok_p rfl rfl rfl (by exact ps_move rfl rfl) ?_; refine ok_p rfl rfl rfl (by first | exact ps_eql_nil rfl rfl | exact ps_int rfl rfl rfl rfl) ?_; refine ok_nil ?_; refine ok_env [(0, _), (4, _)] ⟨rfl, rfl, trivial⟩ ?_)
    | (refine ok_region (i := 2) ?_; refine ok_p rfl rfl rfl (by exact ps_assign rfl rfl) ?_; refine ok_nil ?_; refine ok_env [(2, _)] ⟨rfl, trivial⟩ ?_)
    | (refine ok_region (i := 3) ?_; refine ok_m rfl rfl rfl (by exact ms_lit rfl parts_nil rfl rfl rfl) ?_; rintro y5 hy5; refine ok_p rfl rfl rfl (by exact ps_move rfl rfl) ?_; refine ok_m rfl rfl rfl (by exact ms_app0 (M := L) 0 rfl rfl rfl rfl (rds_rf h (by first | exact List.mem_cons_self | exact List.mem_cons_of_mem _ List.mem_cons_self | simp)) rfl (by omega) (by omega)) ?_; rintro y7 hy7; refine ok_p rfl rfl rfl (by exact ps_assign rfl rfl) ?_; refine ok_nil ?_; refine ok_env [(2, _)] ⟨rfl, trivial⟩ ?_))
  · have h0 : L = [] := by
      cases A with
      | some a => cases hc
      | none =>
        rcases L with _ | ⟨x, l⟩
        · rfl
        · have := isS_fl h (by simp); obtain ⟨ad, e⟩ := this; cases e
    subst h0
    refine ok_endL (vs := [_]) rfl ⟨rfl, trivial⟩ (fun w' hw => ?_)
    refine ⟨mkY none 0 w, ?_, trivial, hw.below, ?_⟩
    · rfl
    · exact NewOk.one (x := .row 111 2 none 0 0 (fl ([] : List FKey))) (Own.nil w' w.heap.size 111 2)
  · refine ok_endL (vs := [_]) rfl ⟨rfl, trivial⟩ (fun w' hw => ?_)
    refine ⟨yl [y7 0] (y7 0), ?_, trivial, hw.below, ?_⟩
    · rfl
    · have := NewOk.of (hw.sel [0] (by decide) rfl (fun _ h => h))
      exact this
end Go.Proofs.Ytfcnimglcialbaa
