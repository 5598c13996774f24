/- CacheGet and CacheWipe of both programs. -/
import Derived.Test.YtfcnimglcialbaaCag
namespace Go.Proofs.Ytfcnimglcialbaa
open Go.RowKit
set_option maxHeartbeats 4000000
set_option maxRecDepth 20000
set_option linter.unusedVariables false
set_option linter.unusedSimpArgs false
attribute [local irreducible] Calls
theorem i_copyC (A : Option Addr) (c : Nat) (R : List CRow) (cap : Int) (w : World) (h : Rd w A (fl R)) (hl : R.length ≤ 4194304) :
    Calls Try.prog 99 #[.agg #[.int .i64 cap, .slice A R.length c]] w fun e w' => ∃ y : Ys, e = .returned (.agg #[.int .i64 cap, .slice (y 0).A R.length (y 0).c]) ∧ True ∧ Below w.heap.size w w' ∧ NewOk w.heap.size [.row 132 3 (y 0).A R.length (y 0).c (fl R)] [] w' := by
  refine ok_enter 9 Try.func99 rfl rfl rfl ?_
  repeat' (first
    | refine ok_seq ?_
    | refine ok_then ?_
    | refine ok_ret ?_
    | (refine ok_region (i := 0) ?_; refine ok_m rfl rfl rfl (by exact ms_box rfl rfl rfl) ?_; rintro y1 hy1; refine ok_m rfl rfl rfl (by exact ms_alloc rfl) ?_; rintro y2 hy2; refine ok_nil ?_; refine ok_env [(1, _), (2, _)] ⟨rfl, rfl, trivial⟩ ?_)
    | (refine ok_draw (id := 1) 6 rfl (by kernel_rfl) (by kernel_rfl) rfl (by repeat (first | exact pq_body | refine pq_then ?_ | refine pq_in ?_)) [0, 1, 2, 3, 4, 5, 6, 7, 8, 9, 10, 11, 12, 13, 14, 15, 16, 17, 18, 19, 20, 21, 22, 23] (by decide) rfl ?_; refine okT_take (i := 0) rfl (by kernel_rfl) rfl rfl rfl (by exact ps_field rfl rfl (by exact isw_ga _)) ?_; refine okT_take (i := 1) rfl (by kernel_rfl) rfl rfl rfl (by exact ps_load rfl rfl (by exact Rds.cell (rds_box 1 rfl) rfl)) ?_; refine okT_take (i := 2) rfl (by kernel_rfl) rfl rfl rfl (by exact ps_field rfl rfl (by exact isw_ga _)) ?_; refine okT_take (i := 3) rfl (by kernel_rfl) rfl rfl rfl (by exact ps_load rfl rfl (by exact Rds.cell (rds_box 1 rfl) rfl)) ?_; refine okT_one (i := 4) rfl rfl (by kernel_rfl) rfl rfl rfl (by exact ms_c1 rfl rfl (fun _ _ w hw => cloneC_c A c R w (rds_rf h (by exact List.mem_cons_self) _ _ w hw) hl)) (fun y w _ h => by exact h.tl) ?_; rintro y7 hy7; refine okT_take (i := 5) rfl (by kernel_rfl) rfl rfl rfl (by exact ps_bld rfl (parts_cons rfl (parts_cons rfl parts_nil)) rfl) ?_; refine okT_done (by kernel_rfl) ?_; refine ok_m_ rfl rfl (by exact ms_store 1 rfl rfl rfl rfl rfl rfl rfl rfl) ?_; rintro y_ hy_; refine ok_nil ?_; refine ok_env [(2, _)] ⟨rfl, trivial⟩ ?_))
  refine ok_endL (vs := [_]) rfl ⟨⟨_, 1, _, _, _, rfl, rfl, inferInstance, rfl, rfl⟩, trivial⟩ (fun w' hw => ⟨y7, rfl, trivial, hw.below, ?_⟩)
  exact NewOk.of (hw.sel [0] (by decide) rfl (G' := []) (fun _ h => by cases h))
theorem s_copyC (A : Option Addr) (c : Nat) (R : List CRow) (cap : Int) (w : World) (h : Rd w A (fl R)) (hl : R.length ≤ 4194304) :
    Calls Try.prog 102 #[.agg #[.int .i64 cap, .slice A R.length c]] w fun e w' => ∃ y : Ys, e = .returned (.agg #[.int .i64 cap, .slice (y 0).A R.length (y 0).c]) ∧ True ∧ Below w.heap.size w w' ∧ NewOk w.heap.size [.row 132 3 (y 0).A R.length (y 0).c (fl R)] [] w' := by
  refine ok_enter 10 Try.func102 rfl rfl rfl ?_
  repeat' (first
    | refine ok_seq ?_
    | refine ok_then ?_
    | refine ok_ret ?_
    | (refine ok_region (i := 0) ?_; refine ok_m rfl rfl rfl (by exact ms_box rfl rfl rfl) ?_; rintro y1 hy1; refine ok_m rfl rfl rfl (by exact ms_alloc rfl) ?_; rintro y2 hy2; refine ok_nil ?_; refine ok_env [(1, _), (2, _)] ⟨rfl, rfl, trivial⟩ ?_)
    | (refine ok_draw (id := 1) 7 rfl (by kernel_rfl) (by kernel_rfl) rfl (by repeat (first | exact pq_body | refine pq_then ?_ | refine pq_in ?_)) [0, 1, 2, 3, 4, 5, 6, 7, 8, 9, 10, 11, 12, 13, 14, 15, 16, 17, 18, 19, 20, 21, 22, 23] (by decide) rfl ?_; refine okT_take (i := 0) rfl (by kernel_rfl) rfl rfl rfl (by exact ps_field rfl rfl (by exact isw_ga _)) ?_; refine okT_take (i := 1) rfl (by kernel_rfl) rfl rfl rfl (by exact ps_load rfl rfl (by exact Rds.cell (rds_box 1 rfl) rfl)) ?_; refine okT_take (i := 3) rfl (by kernel_rfl) rfl rfl rfl (by exact ps_field rfl rfl (by exact isw_ga _)) ?_; refine okT_take (i := 4) rfl (by kernel_rfl) rfl rfl rfl (by exact ps_load rfl rfl (by exact Rds.cell (rds_box 1 rfl) rfl)) ?_; refine okT_one (i := 2) rfl rfl (by kernel_rfl) rfl rfl rfl (by exact ms_lit rfl parts_nil rfl rfl rfl) (fun y w _ h => by exact h.tl) ?_; rintro y5 hy5; refine okT_one (i := 5) rfl rfl (by kernel_rfl) rfl rfl rfl (by exact ms_app0 (M := R) 0 rfl rfl rfl rfl (rds_rf h (by exact List.mem_cons_self)) rfl (by omega) (by omega)) (fun y w _ h => by exact h.tl) ?_; rintro y8 hy8; refine okT_take (i := 6) rfl (by kernel_rfl) rfl rfl rfl (by exact ps_bld rfl (parts_cons rfl (parts_cons rfl parts_nil)) rfl) ?_; refine okT_done (by kernel_rfl) ?_; refine ok_m_ rfl rfl (by exact ms_store 1 rfl rfl rfl rfl rfl rfl rfl rfl) ?_; rintro y_ hy_; refine ok_nil ?_; refine ok_env [(2, _)] ⟨rfl, trivial⟩ ?_))
  refine ok_endL (vs := [_]) rfl ⟨⟨_, 1, _, _, _, rfl, rfl, inferInstance, rfl, rfl⟩, trivial⟩ (fun w' hw => ⟨y8, rfl, trivial, hw.below, ?_⟩)
  exact NewOk.of (hw.sel [0] (by decide) rfl (G' := []) (fun _ h => by cases h))
theorem own_nilC (n : Nat) (w : World) : NewOk n (Cache_obj ⟨0, []⟩ (mkY none 0 w)) [] w :=
  NewOk.one (x := .row 132 3 none 0 0 (fl ([] : List CRow))) (Own.nil w n 132 3)
/-- What stays when a tenant is wiped out. -/
def keepR (R : List CRow) (t : Int) : List CRow := R.filter (fun x => !ofT t x)
def fCacheWipe (x : DCache) (t : Int) : DCache × Int := bif fCacheOk x then (⟨x.cap, keepR x.R t⟩, (x.R.length : Int) - ((keepR x.R t).length : Int)) else (⟨0, []⟩, 0)
theorem keep_le (R : List CRow) (t : Int) : (keepR R t).length ≤ R.length := List.length_filter_le _ _
theorem i_CacheWipe0 (A : Option Addr) (c : Nat) (R : List CRow) (cap t : Int) (w : World) (h : Rd w A (fl R)) (hl : R.length ≤ 1048576) :
    Calls Try.prog 28 #[.agg #[.int .i64 cap, .slice A R.length c], .int .i64 t] w fun e w' => ∃ y : Ys, e = .returned (.tuple #[Cache_val (fCacheWipe ⟨cap, R⟩ t).1 y, .int .i64 (fCacheWipe ⟨cap, R⟩ t).2]) ∧ True ∧ Below w.heap.size w w' ∧ NewOk w.heap.size (Cache_obj (fCacheWipe ⟨cap, R⟩ t).1 y) [] w' := by
  have hk : (R.filter (fun x => !ofT t x)).length ≤ R.length := keep_le R t
  refine ok_enter 26 Try.func28 rfl rfl rfl ?_
  repeat' (first
    | refine ok_seq ?_
    | refine ok_then ?_
    | refine ok_then_ret ?_
    | (refine ok_cond rfl (fun hc => ?_) (fun hc => ?_) <;> (have hd := hc; (try simp only [decide_eq_true_eq, decide_eq_false_iff_not, Bool.or_eq_true, Bool.or_eq_false_iff, Bool.and_eq_true, Bool.and_eq_false_iff, Bool.not_eq_true', Bool.not_eq_false', bne_iff_ne, beq_iff_eq, bne_eq_false_iff_eq, beq_eq_false_iff_ne, ne_eq, Bool.not_true, Bool.not_false, Bool.false_eq_true, Bool.true_eq_false, inB_true, inB_false] at hd)))
    | refine ok_ret ?_
    | refine ok_skip ?_
    | (refine ok_region (i := 0) ?_; refine ok_m rfl rfl rfl (by exact ms_box rfl rfl rfl) ?_; rintro y2 hy2; refine ok_m rfl rfl rfl (by exact ms_box rfl rfl rfl) ?_; rintro y3 hy3; refine ok_m rfl rfl rfl (by exact ms_alloc rfl) ?_; rintro y4 hy4; refine ok_p rfl rfl rfl (by exact ps_assign rfl rfl) ?_; refine ok_nil ?_; refine ok_env [(2, _), (3, _), (4, _)] ⟨rfl, rfl, rfl, trivial⟩ ?_)
    | (refine ok_region (i := 1) ?_; refine ok_p rfl rfl rfl (by exact ps_loads rfl rfl (by exact rds_box 2 rfl) rfl rfl (by decide)) ?_; refine ok_m rfl rfl rfl (by exact ms_s1 rfl rfl (fun _ _ w hw => i_CacheOk0 A c R cap w (rds_rf h (by exact List.mem_cons_self) _ _ w hw) hl)) ?_; rintro y8 hy8; refine ok_p rfl rfl rfl (by exact ps_not rfl rfl) ?_; refine ok_nil ?_; refine ok_env [(2, _), (3, _), (4, _), (9, _)] ⟨rfl, rfl, rfl, rfl, trivial⟩ ?_)
    | (refine ok_region (i := 2) ?_; refine ok_p rfl rfl rfl (by exact ps_bld rfl parts_nil rfl) ?_; refine ok_m_ rfl rfl (by exact ms_store 0 rfl rfl rfl rfl rfl rfl rfl rfl) ?_; rintro y_ hy_; refine ok_p rfl rfl rfl (by exact ps_assign rfl rfl) ?_; refine ok_nil ?_; refine ok_env [(4, _), (5, _)] ⟨rfl, rfl, trivial⟩ ?_)
    | (refine ok_region (i := 3) ?_; refine ok_p rfl rfl rfl (by exact ps_loads rfl rfl (by exact rds_box 2 rfl) rfl rfl (by decide)) ?_; refine ok_m rfl rfl rfl (by exact ms_c1 rfl rfl (fun _ _ w hw => i_copyC A c R cap w (rds_rf h (by exact List.mem_cons_self) _ _ w hw) (by omega))) ?_; rintro y12 hy12; refine ok_m rfl rfl rfl (by exact ms_alloc rfl) ?_; rintro y6 hy6; refine ok_m_ rfl rfl (by exact ms_store 0 rfl rfl rfl rfl rfl rfl rfl rfl) ?_; rintro y_ hy_; refine ok_nil ?_; refine ok_env [(2, _), (3, _), (4, _), (6, _)] ⟨rfl, rfl, rfl, rfl, trivial⟩ ?_)
    | (refine ok_region (i := 4) ?_; refine ok_p rfl rfl rfl (by exact ps_field rfl rfl (by exact isw_ga _)) ?_; refine ok_p rfl rfl rfl (by exact ps_load rfl rfl (by exact Rds.cell (rds_box 0 rfl) rfl)) ?_; refine ok_p rfl rfl rfl (by exact ps_mkf rfl rfl) ?_; refine ok_m rfl rfl rfl (by exact ms_w2 (fun _ _ _ h => h.front 1 rfl) rfl rfl rfl (fun _ _ w' hw => deleteF_c 106 [pt (ga (y3 0).c) 0] (ofT t) _ _ R (by omega) (fun w => Rd w (ga (y3 0).c) (fl [t])) (fun _ _ a b => a.keeps b) (fun _ _ w' _ h => rds_box 2 rfl _ _ w' h) (fun x w' h => closW_c x _ t w' h) hw)) ?_; rintro y16 hy16; refine ok_p rfl rfl rfl (by exact ps_field rfl rfl (by exact isw_ga _)) ?_; refine ok_m_ rfl rfl (by exact ms_store 1 rfl rfl rfl rfl rfl rfl rfl rfl) ?_; rintro y_ hy_; refine ok_nil ?_; refine ok_env [(2, _), (4, _), (6, _)] ⟨rfl, rfl, rfl, trivial⟩ ?_)
    | (refine ok_draw (id := 5) 9 rfl (by kernel_rfl) (by kernel_rfl) rfl (by repeat (first | exact pq_body | refine pq_then ?_ | refine pq_in ?_)) [0, 1, 3, 4] (by decide) rfl ?_; refine okT_take (i := 0) rfl (by kernel_rfl) rfl rfl rfl (by exact ps_loads rfl rfl (by exact rds_box 1 rfl) rfl rfl (by decide)) ?_; refine okT_take (i := 1) rfl (by kernel_rfl) rfl rfl rfl (by exact ps_field rfl rfl (by exact isw_ga _)) ?_; refine okT_take (i := 2) rfl (by kernel_rfl) rfl rfl rfl (by exact ps_load rfl rfl (by exact Rds.cell (rds_box 3 rfl) rfl)) ?_; refine okT_take (i := 3) rfl (by kernel_rfl) rfl rfl rfl (by exact ps_len rfl rfl) ?_; refine okT_take (i := 4) rfl (by kernel_rfl) rfl rfl rfl (by exact ps_field rfl rfl (by exact isw_ga _)) ?_; refine okT_take (i := 5) rfl (by kernel_rfl) rfl rfl rfl (by exact ps_load rfl rfl (by exact Rds.cell (rds_box 1 rfl) rfl)) ?_; refine okT_take (i := 6) rfl (by kernel_rfl) rfl rfl rfl (by exact ps_len rfl rfl) ?_; refine okT_take (i := 7) rfl (by kernel_rfl) rfl rfl rfl (by exact ps_sub rfl rfl rfl (by omega)) ?_; refine okT_one0 (i := 8) rfl rfl (by kernel_rfl) rfl rfl (by exact ms_store 2 rfl rfl rfl rfl rfl rfl rfl rfl) (fun y w _ h => by exact h.sel [0, 1, 3, 4] (by decide) rfl (fun _ h => h)) ?_; rintro y_ hy_; refine okT_done (by kernel_rfl) ?_; refine ok_p rfl rfl rfl (by exact ps_assign rfl rfl) ?_; refine ok_nil ?_; refine ok_env [(4, _), (5, _)] ⟨rfl, rfl, trivial⟩ ?_))
  · have e : fCacheWipe ⟨cap, R⟩ t = (⟨0, []⟩, 0) := by unfold fCacheWipe; rw [show fCacheOk ⟨cap, R⟩ = false from hd]; rfl
    rw [e]
    refine ok_endL (vs := [_, _]) rfl ⟨⟨_, 0, _, _, _, rfl, rfl, inferInstance, rfl, rfl⟩, rfl, trivial⟩ (fun w' hw => ?_)
    exact ⟨mkY none 0 w', rfl, trivial, hw.below, own_nilC _ _⟩
  · have e : fCacheWipe ⟨cap, R⟩ t = (⟨cap, keepR R t⟩, (R.length : Int) - ((keepR R t).length : Int)) := by unfold fCacheWipe; rw [show fCacheOk ⟨cap, R⟩ = true from hd]; rfl
    rw [e]
    refine ok_endL (vs := [_, _]) rfl ⟨⟨_, 2, _, _, _, rfl, rfl, inferInstance, rfl, rfl⟩, rfl, trivial⟩ (fun w' hw => ?_)
    refine ⟨y12, rfl, trivial, hw.below, ?_⟩
    exact NewOk.of (hw.sel [0] (by decide) rfl (G' := []) (fun _ h => by cases h))
theorem WOk.rowNil {base : Nat} {w0 w : World} {H : List HObj} {G : List World} (e sz : Nat) (hw : WOk base w0 H G w) : WOk base w0 (.row e sz none 0 0 [] :: H) G w :=
  hw.grow (Hn := [.row e sz none 0 0 []]) (Gn := []) (Below.refl _ _) (NewOk.one (x := .row e sz none 0 0 []) (Own.nil w _ e sz))
theorem keep_step {R : List CRow} {t : Int} {k : Nat} (h : k < R.length) : keepR (R.take (k + 1)) t = if ofT t (nth R k) = true then keepR (R.take k) t else keepR (R.take k) t ++ [nth R k] := by
  unfold keepR
  rw [takeN h, List.filter_append]
  cases hh : ofT t (nth R k) <;> simp [hh]
structure WipI (R : List CRow) where
  k : Nat
  A : Option Addr
  c : Nat
  hk : k ≤ R.length
theorem CacheWipe_lim (x : DCache) (t : Int) (hs : Cache_sm x) (ht : -9223372036854775808 ≤ t ∧ t ≤ 9223372036854775807) : Cache_lim (fCacheWipe x t).1 := by
  have := keep_le x.R t
  have h1 := hs.1
  unfold fCacheWipe
  cases fCacheOk x
  · show (0 : Nat) ≤ _; omega
  · show (keepR x.R t).length ≤ _; omega
theorem i_CacheWipe (x : DCache) (y : Ys) (t : Int) (w : World) (h : Cache_rd w x y) (hs : Cache_sm x) (ht : -9223372036854775808 ≤ t ∧ t ≤ 9223372036854775807) :
    Calls Try.prog 28 #[Cache_val x y, .int .i64 t] w fun e w' => ∃ y : Ys, e = .returned (.tuple #[Cache_val (fCacheWipe x t).1 y, .int .i64 (fCacheWipe x t).2]) ∧ True ∧ Below w.heap.size w w' ∧ NewOk w.heap.size (Cache_obj (fCacheWipe x t).1 y) [] w' := i_CacheWipe0 _ _ x.R x.cap t w h hs.1
end Go.Proofs.Ytfcnimglcialbaa
