/- Cache in the uniform style: size, copy, comparison, marks. -/
import Derived.Test.YtecabfcgjkhigaaBfCRow
import Derived.Test.YtecabfcgjkhigaaFlCRow
namespace Go.Proofs.Ytecabfcgjkhigaa
open Go.RowKit
set_option maxHeartbeats 4000000
set_option maxRecDepth 20000
set_option linter.unusedVariables false
set_option linter.unusedSimpArgs false
attribute [local irreducible] Calls
structure DCache where
  cap : Int
  R : List CRow
  deriving DecidableEq
def Cache_val (x : DCache) (y : Ys) : Value := .agg #[.int .i64 x.cap, .slice (y 0).A x.R.length (y 0).c]
def Cache_obj (x : DCache) (y : Ys) : List HObj := [.row 135 3 (y 0).A x.R.length (y 0).c (fl x.R)]
def Cache_rd (w : World) (x : DCache) (y : Ys) : Prop := Rd w (y 0).A (fl x.R)
def Cache_big (x : DCache) : Prop := (x.R.length ≤ maxLen ∧ ∀ u ∈ x.R, bigCRow u)
def Cache_sm (x : DCache) : Prop := (x.R.length ≤ 1048576 ∧ ∀ u ∈ x.R, wtCRow u)
def Cache_lim (x : DCache) : Prop := x.R.length ≤ 4194304
def Cache_cnt (x : DCache) (k : Int) : Int := (k + 3 * (x.R.length : Int))
def Cache_mk (k : Int) (x : DCache) : DCache := { x with R := mkL k x.R.length }
theorem szCache_c (x : DCache) (y : Ys) (left : Int) (hl : 0 ≤ left ∧ left ≤ 1048576) (w : World) (h : Cache_rd w x y) (hb : Cache_big x) :
    Calls Try.prog 33 #[Cache_val x y, .int .i64 left] w fun e w' => ∃ y : Ys, e = .returned (.int .i64 (y 0).n) ∧ (-1 ≤ (y 0).n ∧ (y 0).n ≤ left ∧ (0 ≤ (y 0).n → Cache_sm x)) ∧ Below w.heap.size w w' ∧ NewOk w.heap.size [] [] w' := by
  unfold Cache_big at hb
  unfold Cache_rd at h
  obtain ⟨m0, g0⟩ := hb
  have h0 := h
  refine ok_enter 12 Try.func33 rfl rfl rfl ?_
  repeat' (first
    | refine ok_seq ?_
    | refine ok_then ?_
    | refine ok_then_ret ?_
    | (refine ok_cond rfl (fun hc => ?_) (fun hc => ?_) <;> (have hd := hc; (try simp only [decide_eq_true_eq, decide_eq_false_iff_not, Bool.or_eq_true, Bool.or_eq_false_iff, Bool.and_eq_true, Bool.and_eq_false_iff, Bool.not_eq_true', Bool.not_eq_false', bne_iff_ne, beq_iff_eq, bne_eq_false_iff_eq, beq_eq_false_iff_ne, ne_eq, Bool.not_true, Bool.not_false, Bool.false_eq_true, Bool.true_eq_false, inB_true, inB_false] at hd)))
    | refine ok_ret ?_
    | refine ok_skip ?_
    | (refine ok_region (i := 0) ?_; refine ok_m rfl rfl rfl (by exact ms_box rfl rfl rfl) ?_; rintro y2 hy2; refine ok_p rfl rfl rfl (by exact ps_assign rfl rfl) ?_; refine ok_nil ?_; refine ok_env [(1, _), (2, _)] ⟨rfl, rfl, trivial⟩ ?_)
    | (refine ok_region (i := 1) ?_; refine ok_p rfl rfl rfl (by exact ps_field rfl rfl (by exact isw_ga _)) ?_; refine ok_p rfl rfl rfl (by exact ps_load rfl rfl (by exact Rds.cell (rds_box 0 rfl) rfl)) ?_; refine ok_p rfl rfl rfl (by exact ps_move rfl rfl) ?_; refine ok_m rfl rfl rfl (by exact ms_c2 rfl rfl rfl (fun _ _ w hw => szCRowS_c _ _ x.R _ ⟨by omega, by omega⟩ m0 g0 w (rds_rf h0 (by exact List.mem_cons_self) _ _ w hw))) ?_; rintro y8 hy8; refine ok_p rfl rfl rfl (by exact ps_assign rfl rfl) ?_; refine ok_nil ?_; refine ok_env [(1, _)] ⟨rfl, trivial⟩ ?_)
    | (refine ok_region (i := 2) ?_; refine ok_p rfl rfl rfl (by exact ps_move rfl rfl) ?_; refine ok_p rfl rfl rfl (by exact ps_int rfl rfl rfl rfl) ?_; refine ok_nil ?_; refine ok_env [(1, _), (10, _)] ⟨rfl, rfl, trivial⟩ ?_)
    | (refine ok_region (i := 3) ?_; refine ok_p rfl rfl rfl (by exact ps_assign rfl rfl) ?_; refine ok_nil ?_; refine ok_env [(4, _)] ⟨rfl, trivial⟩ ?_)
    | (refine ok_region (i := 4) ?_; refine ok_p rfl rfl rfl (by exact ps_move rfl rfl) ?_; refine ok_p rfl rfl rfl (by exact ps_assign rfl rfl) ?_; refine ok_nil ?_; refine ok_env [(4, _)] ⟨rfl, trivial⟩ ?_))
  all_goals first
    | exact ok_endL (vs := [.int .i64 (-1)]) rfl ⟨rfl, trivial⟩ (fun w' hw => ⟨mkN (-1) w, rfl, ⟨by show (-1 : Int) ≤ -1; decide, by show (-1 : Int) ≤ left; omega, fun h => absurd h (by show ¬ (0 : Int) ≤ -1; decide)⟩, hw.below, NewOk.nil _ _⟩)
    | exact ok_endL (vs := [.int .i64 ((y8 0).n)]) rfl ⟨rfl, trivial⟩ (fun w' hw => ⟨mkN ((y8 0).n) w, rfl, ⟨by show -1 ≤ (y8 0).n; omega, by show (y8 0).n ≤ left; omega, fun _ => ⟨by have := (hy8.2.2 (by omega)).1; omega, (hy8.2.2 (by omega)).2⟩⟩, hw.below, NewOk.nil _ _⟩)
theorem toCache_c (x : DCache) (y : Ys) (w : World) (h : Cache_rd w x y) (hs : Cache_sm x) :
    Calls Try.prog 35 #[Cache_val x y] w fun e w' => ∃ y : Ys, e = .returned (Cache_val x y) ∧ True ∧ Below w.heap.size w w' ∧ NewOk w.heap.size (Cache_obj x y) [] w' := by
  unfold Cache_sm at hs
  unfold Cache_rd at h
  have h0 := h
  refine ok_enter 12 Try.func35 rfl rfl rfl ?_
  repeat' (first
    | refine ok_seq ?_
    | refine ok_then ?_
    | refine ok_ret ?_
    | (refine ok_region (i := 0) ?_; refine ok_m rfl rfl rfl (by exact ms_box rfl rfl rfl) ?_; rintro y1 hy1; refine ok_m rfl rfl rfl (by exact ms_alloc rfl) ?_; rintro y2 hy2; refine ok_nil ?_; refine ok_env [(1, _), (2, _)] ⟨rfl, rfl, trivial⟩ ?_)
    | (refine ok_region (i := 1) ?_; refine ok_m rfl rfl rfl (by exact ms_alloc rfl) ?_; rintro y3 hy3; refine ok_nil ?_; refine ok_env [(1, _), (2, _), (3, _)] ⟨rfl, rfl, rfl, trivial⟩ ?_)
    | (refine ok_region (i := 2) ?_; refine ok_p rfl rfl rfl (by exact ps_field rfl rfl (by exact isw_ga _)) ?_; refine ok_p rfl rfl rfl (by exact ps_load rfl rfl (by exact Rds.cell (rds_box 2 rfl) rfl)) ?_; refine ok_p rfl rfl rfl (by exact ps_field rfl rfl (by exact isw_ga _)) ?_; refine ok_m_ rfl rfl (by exact ms_store 0 rfl rfl rfl rfl rfl rfl rfl rfl) ?_; rintro y_ hy_; refine ok_nil ?_; refine ok_env [(1, _), (2, _), (3, _)] ⟨rfl, rfl, rfl, trivial⟩ ?_)
    | (refine ok_region (i := 3) ?_; refine ok_p rfl rfl rfl (by exact ps_field rfl rfl (by exact isw_ga _)) ?_; refine ok_p rfl rfl rfl (by exact ps_load rfl rfl (by exact Rds.cell (rds_box 2 rfl) rfl)) ?_; refine ok_m rfl rfl rfl (by exact ms_c1 rfl rfl (fun _ _ w hw => toCRowS_c _ _ x.R w (rds_rf h0 (by exact List.mem_cons_self) _ _ w hw) hs.1)) ?_; rintro y9 hy9; refine ok_p rfl rfl rfl (by exact ps_field rfl rfl (by exact isw_ga _)) ?_; refine ok_m_ rfl rfl (by exact ms_store 1 rfl rfl rfl rfl rfl rfl rfl rfl) ?_; rintro y_ hy_; refine ok_nil ?_; refine ok_env [(2, _), (3, _)] ⟨rfl, rfl, trivial⟩ ?_)
    | (refine ok_region (i := 4) ?_; refine ok_p rfl rfl rfl (by exact ps_loads rfl rfl (by exact rds_box 1 rfl) rfl rfl (by decide)) ?_; refine ok_m_ rfl rfl (by exact ms_store 2 rfl rfl rfl rfl rfl rfl rfl rfl) ?_; rintro y_ hy_; refine ok_nil ?_; refine ok_env [(2, _)] ⟨rfl, trivial⟩ ?_))
  refine ok_endL (vs := [_]) rfl ⟨⟨_, 2, _, _, _, rfl, rfl, inferInstance, rfl, rfl⟩, trivial⟩ (fun w' hw => ?_)
  refine ⟨yl [y9 0] (y9 0), ?_, trivial, hw.below, ?_⟩
  · rfl
  · have := NewOk.of (hw.sel [0] (by decide) rfl (fun _ h => h))
    exact this
theorem eqCache_c (x : DCache) (y z : Ys) (w : World) (h : Cache_rd w x y) (k : Cache_rd w x z) (hl : Cache_lim x) :
    Calls Try.prog 37 #[Cache_val x y, Cache_val x z] w fun e w' => e = .returned (.bool true) ∧ Below w.heap.size w w' := by
  unfold Cache_rd at h k
  unfold Cache_lim at hl
  have h0 := h
  have k0 := k
  refine ok_enter 16 Try.func37 rfl rfl rfl ?_
  repeat' (first
    | refine ok_seq ?_
    | refine ok_then ?_
    | refine ok_then_ret ?_
    | (refine ok_cond rfl (fun hc => ?_) (fun hc => ?_) <;> (have hd := hc; (try simp only [decide_eq_true_eq, decide_eq_false_iff_not, Bool.or_eq_true, Bool.or_eq_false_iff, Bool.and_eq_true, Bool.and_eq_false_iff, Bool.not_eq_true', Bool.not_eq_false', bne_iff_ne, beq_iff_eq, bne_eq_false_iff_eq, beq_eq_false_iff_ne, ne_eq, Bool.not_true, Bool.not_false, Bool.false_eq_true, Bool.true_eq_false, inB_true, inB_false] at hd)))
    | refine ok_ret ?_
    | refine ok_skip ?_
    | (refine ok_region (i := 0) ?_; refine ok_m rfl rfl rfl (by exact ms_box rfl rfl rfl) ?_; rintro y2 hy2; refine ok_m rfl rfl rfl (by exact ms_box rfl rfl rfl) ?_; rintro y3 hy3; refine ok_p rfl rfl rfl (by exact ps_assign rfl rfl) ?_; refine ok_nil ?_; refine ok_env [(2, _), (3, _)] ⟨rfl, rfl, trivial⟩ ?_)
    | (refine ok_region (i := 1) ?_; refine ok_p rfl rfl rfl (by exact ps_field rfl rfl (by exact isw_ga _)) ?_; refine ok_p rfl rfl rfl (by exact ps_load rfl rfl (by exact Rds.cell (rds_box 1 rfl) rfl)) ?_; refine ok_p rfl rfl rfl (by exact ps_field rfl rfl (by exact isw_ga _)) ?_; refine ok_p rfl rfl rfl (by exact ps_load rfl rfl (by exact Rds.cell (rds_box 0 rfl) rfl)) ?_; refine ok_p rfl rfl rfl (by exact ps_int rfl rfl rfl rfl) ?_; refine ok_nil ?_; refine ok_env [(2, _), (3, _), (9, _)] ⟨rfl, rfl, rfl, trivial⟩ ?_)
    | (refine ok_region (i := 2) ?_; refine ok_p rfl rfl rfl (by exact ps_assign rfl rfl) ?_; refine ok_nil ?_; refine ok_env [(4, _)] ⟨rfl, trivial⟩ ?_)
    | (refine ok_region (i := 3) ?_; refine ok_p rfl rfl rfl (by exact ps_field rfl rfl (by exact isw_ga _)) ?_; refine ok_p rfl rfl rfl (by exact ps_load rfl rfl (by exact Rds.cell (rds_box 1 rfl) rfl)) ?_; refine ok_p rfl rfl rfl (by exact ps_field rfl rfl (by exact isw_ga _)) ?_; refine ok_p rfl rfl rfl (by exact ps_load rfl rfl (by exact Rds.cell (rds_box 0 rfl) rfl)) ?_; refine ok_m rfl rfl rfl (by exact ms_s2 rfl rfl rfl (fun _ _ w hw => eqCRowS_c _ _ _ _ x.R w (rds_rf h0 (by exact List.mem_cons_self) _ _ w hw) (rds_rf k0 (by exact List.mem_cons_self) _ _ w hw) (by omega))) ?_; rintro y14 hy14; refine ok_p rfl rfl rfl (by exact ps_not rfl rfl) ?_; refine ok_nil ?_; refine ok_env [(15, _)] ⟨rfl, trivial⟩ ?_)
    | (refine ok_region (i := 5) ?_; refine ok_p rfl rfl rfl (by exact ps_assign rfl rfl) ?_; refine ok_nil ?_; refine ok_env [(4, _)] ⟨rfl, trivial⟩ ?_))
  all_goals first
    | (exfalso; simp [sEq] at hc; done)
    | exact ok_endL (vs := [_]) rfl ⟨rfl, trivial⟩ (fun w' hw => ⟨rfl, hw.below⟩)
theorem markCache_c (x : DCache) (y : Ys) (k : Int) (hk : 0 ≤ k ∧ k ≤ 100000000000000) (hl : Cache_lim x) {base : Nat} {w0 w : World} {H : List HObj} {G : List World}
    (hw : WOk base w0 (Cache_obj x y ++ H) G w) :
    Calls Try.prog 59 #[Cache_val x y, .int .i64 k] w fun e w' => ∃ q : Ys, e = .returned (.int .i64 (Cache_cnt x k)) ∧ True ∧ WOk base w0 (Cache_obj (Cache_mk k x) y ++ H) G w' := by
  unfold Cache_lim at hl
  refine ok_enterW 10 Try.func59 rfl rfl rfl hw ?_
  repeat' (first
    | refine ok_seq ?_
    | refine ok_then ?_
    | refine ok_ret ?_
    | (refine ok_region (i := 0) ?_; refine ok_m rfl rfl rfl (by exact ms_box rfl rfl rfl) ?_; rintro y2 hy2; refine ok_p rfl rfl rfl (by exact ps_assign rfl rfl) ?_; refine ok_nil ?_; refine ok_env [(1, _), (2, _)] ⟨rfl, rfl, trivial⟩ ?_)
    | (refine ok_region (i := 1) ?_; refine ok_p rfl rfl rfl (by exact ps_field rfl rfl (by exact isw_ga _)) ?_; refine ok_p rfl rfl rfl (by exact ps_load rfl rfl (by exact Rds.cell (rds_box 0 rfl) rfl)) ?_; refine ok_p rfl rfl rfl (by exact ps_move rfl rfl) ?_; refine ok_m rfl rfl rfl (by exact ms_w2 (fun _ _ _ h => h.front 1 rfl) rfl rfl rfl (fun _ _ w hw => markCRowS_c _ _ x.R k ⟨by omega, by omega⟩ (by omega) hw)) ?_; rintro y8 hy8; refine ok_p rfl rfl rfl (by exact ps_assign rfl rfl) ?_; refine ok_nil ?_; refine ok_env [(1, _)] ⟨rfl, trivial⟩ ?_)
    | (refine ok_region (i := 2) ?_; refine ok_p rfl rfl rfl (by exact ps_move rfl rfl) ?_; refine ok_p rfl rfl rfl (by exact ps_assign rfl rfl) ?_; refine ok_nil ?_; refine ok_env [(4, _)] ⟨rfl, trivial⟩ ?_))
  refine ok_endL (vs := [_]) rfl ⟨rfl, trivial⟩ (fun w' hw => ?_)
  refine ⟨mkY none 0 w, rfl, trivial, ?_⟩
  have := ((hw.front 0 rfl).front 1 rfl).tl
  simp only [Cache_obj, Cache_mk, mkL_len]
  exact this
theorem heldCache_c (x : DCache) (y : Ys) (k : Int) (hk : 0 ≤ k ∧ k ≤ 100000000000000) (hl : Cache_lim x) (w : World) (h : Cache_rd w (Cache_mk k x) y) :
    Calls Try.prog 60 #[Cache_val x y, .int .i64 k] w fun e w' => e = .returned (.int .i64 (Cache_cnt x k)) ∧ Below w.heap.size w w' := by
  unfold Cache_rd at h
  simp only [Cache_mk] at h
  unfold Cache_lim at hl
  have h0 := h
  refine ok_enter 12 Try.func60 rfl rfl rfl ?_
  repeat' (first
    | refine ok_seq ?_
    | refine ok_then ?_
    | refine ok_then_ret ?_
    | (refine ok_cond rfl (fun hc => ?_) (fun hc => ?_) <;> (have hd := hc; (try simp only [decide_eq_true_eq, decide_eq_false_iff_not, Bool.or_eq_true, Bool.or_eq_false_iff, Bool.and_eq_true, Bool.and_eq_false_iff, Bool.not_eq_true', Bool.not_eq_false', bne_iff_ne, beq_iff_eq, bne_eq_false_iff_eq, beq_eq_false_iff_ne, ne_eq, Bool.not_true, Bool.not_false, Bool.false_eq_true, Bool.true_eq_false, inB_true, inB_false] at hd)))
    | refine ok_ret ?_
    | refine ok_skip ?_
    | (refine ok_region (i := 0) ?_; refine ok_m rfl rfl rfl (by exact ms_box rfl rfl rfl) ?_; rintro y2 hy2; refine ok_p rfl rfl rfl (by exact ps_assign rfl rfl) ?_; refine ok_nil ?_; refine ok_env [(1, _), (2, _)] ⟨rfl, rfl, trivial⟩ ?_)
    | (refine ok_region (i := 1) ?_; refine ok_p rfl rfl rfl (by exact ps_field rfl rfl (by exact isw_ga _)) ?_; refine ok_p rfl rfl rfl (by exact ps_load rfl rfl (by exact Rds.cell (rds_box 0 rfl) rfl)) ?_; refine ok_p rfl rfl rfl (by exact ps_move rfl rfl) ?_; refine ok_m rfl rfl rfl (by exact ms_s2 rfl rfl rfl (fun _ _ w hw => heldCRowS_c _ _ x.R.length k ⟨by omega, by omega⟩ (by omega) w (rds_rf h0 (by exact List.mem_cons_self) _ _ w hw))) ?_; rintro y8 hy8; refine ok_p rfl rfl rfl (by exact ps_assign rfl rfl) ?_; refine ok_nil ?_; refine ok_env [(1, _)] ⟨rfl, trivial⟩ ?_)
    | (refine ok_region (i := 2) ?_; refine ok_p rfl rfl rfl (by exact ps_move rfl rfl) ?_; refine ok_p rfl rfl rfl (by exact ps_int rfl rfl rfl rfl) ?_; refine ok_nil ?_; refine ok_env [(1, _), (10, _)] ⟨rfl, rfl, trivial⟩ ?_)
    | (refine ok_region (i := 3) ?_; refine ok_p rfl rfl rfl (by exact ps_assign rfl rfl) ?_; refine ok_nil ?_; refine ok_env [(4, _)] ⟨rfl, trivial⟩ ?_)
    | (refine ok_region (i := 4) ?_; refine ok_p rfl rfl rfl (by exact ps_move rfl rfl) ?_; refine ok_p rfl rfl rfl (by exact ps_assign rfl rfl) ?_; refine ok_nil ?_; refine ok_env [(4, _)] ⟨rfl, trivial⟩ ?_))
  all_goals first
    | (exfalso; omega)
    | exact ok_endL (vs := [_]) rfl ⟨rfl, trivial⟩ (fun w' hw => ⟨rfl, hw.below⟩)
theorem Cache_cnt_le (x : DCache) (k : Int) (h : Cache_lim x) : k ≤ Cache_cnt x k ∧ Cache_cnt x k ≤ k + 12582912 := by
  unfold Cache_lim at h; unfold Cache_cnt; omega
theorem Cache_sm_lim {x : DCache} (h : Cache_sm x) : Cache_lim x := by
  unfold Cache_sm at h; unfold Cache_lim; have := h.1; omega
theorem Cache_rf {m w w0 : World} {base : Nat} {H : List HObj} {G : List World} {x : DCache} {y : Ys} (h : Cache_rd m x y) (hm : m ∈ G) (hw : WOk base w0 H G w) : Cache_rd w x y := hw.keep h hm
theorem Cache_of {w w0 : World} {base : Nat} {H : List HObj} {G : List World} {x : DCache} {y : Ys} (hw : WOk base w0 (Cache_obj x y ++ H) G w) : Cache_rd w x y := hw.row 0 rfl
abbrev gCache : GT := .st [.int, .sl 200 gCRow]
theorem Cache_open {w : World} {cs : Array Value} {x : gCache.den} (hx : RdT w gCache x cs.toList) : ∃ (d : DCache) (y : Ys), Value.agg cs = Cache_val d y ∧ Cache_rd w d y ∧ Cache_big d := by
  obtain ⟨cs⟩ := cs
  simp only at hx
  obtain ⟨a0, a1, u⟩ := x
  obtain ⟨c0, d0, rfl, h0, e0⟩ := RdTL.cons.1 (RdT.st.1 hx)
  obtain ⟨c1, d1, rfl, h1, e1⟩ := RdTL.cons.1 e0
  rw [RdTL.nil] at e1; subst e1
  obtain ⟨rfl, b0⟩ := RdT.int.1 h0
  obtain ⟨A1, k1, l1, rfl, m1, r1, b1⟩ := flat_sl flatCRow h1
  exact ⟨⟨a0, l1⟩, ya [(A1, k1)] w, rfl, r1, ⟨m1, b1⟩⟩
end Go.Proofs.Ytecabfcgjkhigaa
