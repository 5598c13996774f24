/- CacheGet of the reference. -/
import Derived.Test.YtfcnimglcialbaaCge
namespace Go.Proofs.Ytfcnimglcialbaa
open Go.RowKit
set_option maxHeartbeats 4000000
set_option maxRecDepth 20000
set_option linter.unusedVariables false
set_option linter.unusedSimpArgs false
theorem rds_head {H : List HObj} {G : List World} {α : Type} [Dat α] {A : Option Addr} {L : List α} (h : Rds H G A (fl L)) (i : Nat) : Rds H G A (fl (L.take i)) := fun base w0 w hw => by
  rw [← fl_take]; exact (h base w0 w hw).take _
attribute [local irreducible] Calls
theorem s_copyK (A : Option Addr) (c : Nat) (R : List CRow) (cap : Int) (w : World) (h : Rd w A (fl R)) (hl : R.length ≤ 4194304) :
    Calls Try.prog 102 #[.agg #[.int .i64 cap, .slice A R.length c]] w fun e w' => ∃ y : Ys, e = .returned (.agg #[.int .i64 cap, .slice (y 0).A R.length (y 0).c]) ∧ R.length ≤ (y 0).c ∧ Below w.heap.size w w' ∧ NewOk w.heap.size [.row 132 3 (y 0).A R.length (y 0).c (fl R)] [] w' :=
  (s_copyC A c R cap w h hl).mono fun e w' ⟨y, a, _, b, d⟩ => ⟨y, a, own_cap (d.own _ List.mem_cons_self), b, d⟩
theorem s_CacheGet0 (A : Option Addr) (c : Nat) (R : List CRow) (cap t no : Int) (load : ByteArray) (w : World) (h : Rd w A (fl R)) (hl : R.length ≤ 1048576) (hcc : R.length ≤ c) :
    Calls Try.prog 26 #[.agg #[.int .i64 cap, .slice A R.length c], .int .i64 t, .int .i64 no, .string load] w fun e w' => ∃ y : Ys, e = .returned (.tuple #[Cache_val (fCacheGet ⟨cap, R⟩ t no load).1 y, .string (fCacheGet ⟨cap, R⟩ t no load).2.1, .bool (fCacheGet ⟨cap, R⟩ t no load).2.2]) ∧ True ∧ Below w.heap.size w w' ∧ NewOk w.heap.size (Cache_obj (fCacheGet ⟨cap, R⟩ t no load).1 y) [] w' := by
  refine ok_enter 82 Try.func26 rfl rfl rfl ?_
  repeat' (first
    | refine ok_seq ?_
    | refine ok_then ?_
    | refine ok_then_ret ?_
    | (refine ok_cond rfl (fun hc => ?_) (fun hc => ?_) <;> (have hd := hc; (try simp only [decide_eq_true_eq, decide_eq_false_iff_not, Bool.or_eq_true, Bool.or_eq_false_iff, Bool.and_eq_true, Bool.and_eq_false_iff, Bool.not_eq_true', Bool.not_eq_false', bne_iff_ne, beq_iff_eq, bne_eq_false_iff_eq, beq_eq_false_iff_ne, ne_eq, Bool.not_true, Bool.not_false, Bool.false_eq_true, Bool.true_eq_false, inB_true, inB_false] at hd)))
    | refine ok_ret ?_
    | refine ok_skip ?_
    | (refine ok_region (i := 0) ?_; refine ok_m rfl rfl rfl (by exact ms_box rfl rfl rfl) ?_; rintro y4 hy4; refine ok_m rfl rfl rfl (by exact ms_alloc rfl) ?_; rintro y8 hy8; refine ok_p rfl rfl rfl (by exact ps_assign rfl rfl) ?_; refine ok_p rfl rfl rfl (by exact ps_assign rfl rfl) ?_; refine ok_nil ?_; refine ok_env [(1, _), (2, _), (3, _), (4, _), (8, _)] ⟨rfl, rfl, rfl, rfl, rfl, trivial⟩ ?_)
    | (refine ok_region (i := 1) ?_; refine ok_p rfl rfl rfl (by exact ps_loads rfl rfl (by exact rds_box 1 rfl) rfl rfl (by decide)) ?_; refine ok_m rfl rfl rfl (by exact ms_s1 rfl rfl (fun _ _ w hw => s_CacheOk0 A c R cap w (rds_rf h (by exact List.mem_cons_self) _ _ w hw) hl)) ?_; rintro y16 hy16; refine ok_p rfl rfl rfl (by exact ps_not rfl rfl) ?_; refine ok_nil ?_; refine ok_env [(1, _), (2, _), (3, _), (4, _), (8, _), (17, _)] ⟨rfl, rfl, rfl, rfl, rfl, rfl, trivial⟩ ?_)
    | (refine ok_region (i := 2) ?_; refine ok_p rfl rfl rfl (by exact ps_bld rfl parts_nil rfl) ?_; refine ok_p rfl rfl rfl (by exact ps_move rfl rfl) ?_; refine ok_m_ rfl rfl (by exact ms_store 0 rfl rfl rfl rfl rfl rfl rfl rfl) ?_; rintro y_ hy_; refine ok_p rfl rfl rfl (by exact ps_assign rfl rfl) ?_; refine ok_p rfl rfl rfl (by exact ps_assign rfl rfl) ?_; refine ok_nil ?_; refine ok_env [(8, _), (9, _), (10, _)] ⟨rfl, rfl, rfl, trivial⟩ ?_))
  · have e : fCacheGet ⟨cap, R⟩ t no load = (⟨0, []⟩, load, false) := by unfold fCacheGet; rw [show fCacheOk ⟨cap, R⟩ = false from hd]; rfl
    rw [e]
    refine ok_endL (vs := [_, _, _]) rfl ⟨⟨_, 0, _, _, _, rfl, rfl, inferInstance, rfl, rfl⟩, rfl, rfl, trivial⟩ (fun w' hw => ?_)
    exact ⟨mkY none 0 w', rfl, trivial, hw.below, own_nilC _ _⟩
  have hok : fCacheOk ⟨cap, R⟩ = true := hd
  have hok0 : okC0 ⟨cap, R⟩ = true := by unfold fCacheOk at hok; rw [Bool.and_eq_true] at hok; exact hok.1
  have hcap : 1 ≤ cap ∧ cap ≤ 8 ∧ (R.length : Int) ≤ cap := by
    unfold okC0 at hok0
    simp only [Bool.not_eq_true', Bool.or_eq_false_iff, Bool.not_eq_false', inB_true, decide_eq_false_iff_not] at hok0
    omega
  rcases ixP_or (isRow t no) R with ⟨e0, hn⟩ | ⟨i, e0, hi, hp, hn⟩
  · have es : fCacheGet ⟨cap, R⟩ t no load = if 100 < load.size then (⟨cap, R⟩, load, false) else (⟨cap, putR R cap ⟨t, no, load⟩⟩, load, false) := by
      unfold fCacheGet; rw [hok]; simp only [cond_true]; rw [e0, if_neg (by omega)]
    rw [es]
    have hdl : (R.drop 1).length = R.length - 1 := by simp
    repeat' (first
      | refine ok_seq ?_
      | refine ok_then ?_
      | refine ok_then_ret ?_
      | (refine ok_cond rfl (fun hc => ?_) (fun hc => ?_) <;> (have hd := hc; (try simp only [decide_eq_true_eq, decide_eq_false_iff_not, Bool.or_eq_true, Bool.or_eq_false_iff, Bool.and_eq_true, Bool.and_eq_false_iff, Bool.not_eq_true', Bool.not_eq_false', bne_iff_ne, beq_iff_eq, bne_eq_false_iff_eq, beq_eq_false_iff_ne, ne_eq, Bool.not_true, Bool.not_false, Bool.false_eq_true, Bool.true_eq_false, inB_true, inB_false] at hd)))
      | refine ok_ret ?_
      | refine ok_skip ?_
      | (refine ok_region (i := 3) ?_; refine ok_p rfl rfl rfl (by exact ps_loads rfl rfl (by exact rds_box 1 rfl) rfl rfl (by decide)) ?_; refine ok_m rfl rfl rfl (by exact ms_c1 rfl rfl (fun _ _ w hw => s_copyK A c R cap w (rds_rf h (by exact List.mem_cons_self) _ _ w hw) (by omega))) ?_; rintro y21 hy21; refine ok_m rfl rfl rfl (by exact ms_alloc rfl) ?_; rintro y11 hy11; refine ok_m_ rfl rfl (by exact ms_store 0 rfl rfl rfl rfl rfl rfl rfl rfl) ?_; rintro y_ hy_; refine ok_nil ?_; refine ok_env [(1, _), (2, _), (3, _), (4, _), (8, _), (11, _)] ⟨rfl, rfl, rfl, rfl, rfl, rfl, trivial⟩ ?_)
      | (refine ok_region (i := 4) ?_; refine ok_p rfl rfl rfl (by exact ps_loads rfl rfl (by exact rds_box 3 rfl) rfl rfl (by decide)) ?_; refine ok_p rfl rfl rfl (by exact ps_move rfl rfl) ?_; refine ok_p rfl rfl rfl (by exact ps_move rfl rfl) ?_; refine ok_m rfl rfl rfl (by exact ms_s3 rfl rfl rfl rfl (fun _ _ w hw => by have := s_at A c R cap t no w (rds_rf h (by exact List.mem_cons_self) _ _ w hw) (by omega); rw [e0] at this; exact this)) ?_; rintro y25 hy25; refine ok_p rfl rfl rfl (by exact ps_assign rfl rfl) ?_; refine ok_nil ?_; refine ok_env [(1, _), (2, _), (3, _), (4, _), (8, _), (11, _), (12, _)] ⟨rfl, rfl, rfl, rfl, rfl, rfl, rfl, trivial⟩ ?_)
      | (refine ok_region (i := 5) ?_; refine ok_p rfl rfl rfl (by exact ps_move rfl rfl) ?_; refine ok_p rfl rfl rfl (by exact ps_int rfl rfl rfl rfl) ?_; refine ok_nil ?_; refine ok_env [(1, _), (2, _), (3, _), (4, _), (8, _), (11, _), (12, _), (27, _)] ⟨rfl, rfl, rfl, rfl, rfl, rfl, rfl, rfl, trivial⟩ ?_)
      | (refine ok_region (i := 6) ?_; refine ok_p rfl rfl rfl (by exact ps_field rfl rfl (by exact isw_ga _)) ?_; refine ok_p rfl rfl rfl (by exact ps_load rfl rfl (by exact Rds.cell (rds_box 3 rfl) rfl)) ?_; refine ok_p rfl rfl rfl (by exact ps_move rfl rfl) ?_; refine ok_p rfl rfl rfl (by exact ps_index rfl rfl rfl (by omega) (by exact isw_of (isS_fl (by assumption) (by omega)))) ?_; refine ok_p rfl rfl rfl (by exact ps_loadsF rfl rfl (by exact rds_rf (by assumption) (by exact List.mem_cons_self)) (by rfl) (by rfl) (by omega) rfl) ?_; refine ok_m rfl rfl rfl (by exact ms_alloc rfl) ?_; rintro y13 hy13; refine ok_m_ rfl rfl (by exact ms_store 0 rfl rfl rfl rfl rfl rfl rfl rfl) ?_; rintro y_ hy_; refine ok_nil ?_; refine ok_env [(4, _), (8, _), (11, _), (12, _), (13, _)] ⟨rfl, rfl, rfl, rfl, rfl, trivial⟩ ?_)
      | (refine ok_region (i := 11) ?_; refine ok_p rfl rfl rfl (by exact ps_move rfl rfl) ?_; refine ok_p rfl rfl rfl (by exact ps_slen rfl rfl) ?_; refine ok_p rfl rfl rfl (by exact ps_int rfl rfl rfl rfl) ?_; refine ok_nil ?_; refine ok_env [(1, _), (2, _), (3, _), (8, _), (11, _), (56, _)] ⟨rfl, rfl, rfl, rfl, rfl, rfl, trivial⟩ ?_)
      | (refine ok_region (i := 12) ?_; refine ok_p rfl rfl rfl (by exact ps_loads rfl rfl (by exact rds_box 0 rfl) rfl rfl (by decide)) ?_; refine ok_p rfl rfl rfl (by exact ps_move rfl rfl) ?_; refine ok_m_ rfl rfl (by exact ms_store 2 rfl rfl rfl rfl rfl rfl rfl rfl) ?_; rintro y_ hy_; refine ok_p rfl rfl rfl (by exact ps_assign rfl rfl) ?_; refine ok_p rfl rfl rfl (by exact ps_assign rfl rfl) ?_; refine ok_nil ?_; refine ok_env [(8, _), (9, _), (10, _)] ⟨rfl, rfl, rfl, trivial⟩ ?_)
      | (refine ok_region (i := 13) ?_; refine ok_p rfl rfl rfl (by exact ps_field rfl rfl (by exact isw_ga _)) ?_; refine ok_p rfl rfl rfl (by exact ps_load rfl rfl (by exact Rds.cell (rds_box 0 rfl) rfl)) ?_; refine ok_p rfl rfl rfl (by exact ps_len rfl rfl) ?_; refine ok_p rfl rfl rfl (by exact ps_field rfl rfl (by exact isw_ga _)) ?_; refine ok_p rfl rfl rfl (by exact ps_load rfl rfl (by exact Rds.cell (rds_box 0 rfl) rfl)) ?_; refine ok_p rfl rfl rfl (by exact ps_int rfl rfl rfl rfl) ?_; refine ok_nil ?_; refine ok_env [(1, _), (2, _), (3, _), (8, _), (11, _), (64, _)] ⟨rfl, rfl, rfl, rfl, rfl, rfl, trivial⟩ ?_))
    all_goals first
      | (exfalso; omega)
      | skip
    · rw [if_pos (by omega)]
      refine ok_endL (vs := [_, _, _]) rfl ⟨⟨_, 2, _, _, _, rfl, rfl, inferInstance, rfl, rfl⟩, rfl, rfl, trivial⟩ (fun w' hw => ⟨y21, rfl, trivial, hw.below, ?_⟩)
      exact NewOk.of (hw.sel [1] (by decide) rfl (G' := []) (fun _ h => by cases h))
    · rw [if_neg (by omega)]
      have e2 : putR R cap ⟨t, no, load⟩ = R.drop 1 ++ [⟨t, no, load⟩] := by unfold putR; rw [if_pos (by omega)]
      have e3 : (R.drop 1 ++ [(⟨t, no, load⟩ : CRow)]).length = R.length - 1 + 1 := by simp
      rw [e2]
      repeat' (first
        | refine ok_seq ?_
        | refine ok_then ?_
        | refine ok_ret ?_
        | (refine ok_region (i := 14) ?_; refine ok_m rfl rfl rfl (by exact ms_lit rfl parts_nil rfl rfl rfl) ?_; rintro y65 hy65; refine ok_p rfl rfl rfl (by exact ps_field rfl rfl (by exact isw_ga _)) ?_; refine ok_p rfl rfl rfl (by exact ps_load rfl rfl (by exact Rds.cell (rds_box 1 rfl) rfl)) ?_; refine ok_p rfl rfl rfl (by exact ps_sliceE (l := 1) rfl rfl rfl rfl (by omega) (by omega)) ?_; refine ok_m rfl rfl rfl (by exact ms_app0n (R.drop 1) 0 rfl rfl rfl rfl (rds_tail (rds_row 2 rfl) rfl (by omega) (by omega)) rfl hdl (by omega) (by omega)) ?_; rintro y69 hy69; refine ok_p rfl rfl rfl (by exact ps_field rfl rfl (by exact isw_ga _)) ?_; refine ok_m_ rfl rfl (by exact ms_store 1 rfl rfl rfl rfl rfl rfl rfl rfl) ?_; rintro y_ hy_; refine ok_nil ?_; refine ok_env [(1, _), (2, _), (3, _), (8, _), (11, _)] ⟨rfl, rfl, rfl, rfl, rfl, trivial⟩ ?_)
        | (refine ok_region (i := 15) ?_; refine ok_p rfl rfl rfl (by exact ps_field rfl rfl (by exact isw_ga _)) ?_; refine ok_p rfl rfl rfl (by exact ps_load rfl rfl (by exact Rds.cell (rds_box 1 rfl) rfl)) ?_; refine ok_p rfl rfl rfl (by exact ps_move rfl rfl) ?_; refine ok_p rfl rfl rfl (by exact ps_move rfl rfl) ?_; refine ok_p rfl rfl rfl (by exact ps_move rfl rfl) ?_; refine ok_p rfl rfl rfl (by exact ps_bld rfl (parts_cons rfl (parts_cons rfl (parts_cons rfl parts_nil))) rfl) ?_; refine ok_m rfl rfl rfl (by exact ms_lit rfl (parts_cons rfl parts_nil) rfl rfl rfl) ?_; rintro y77 hy77; refine ok_m rfl rfl rfl (by exact ms_appN (R.drop 1) [(⟨t, no, load⟩ : CRow)] 1 rfl rfl rfl rfl (rds_row 0 rfl) rfl hdl rfl (by omega) (by omega)) ?_; rintro y78 hy78; refine ok_p rfl rfl rfl (by exact ps_field rfl rfl (by exact isw_ga _)) ?_; refine ok_m_ rfl rfl (by exact ms_store 2 rfl rfl rfl rfl rfl rfl rfl rfl) ?_; rintro y_ hy_; refine ok_nil ?_; refine ok_env [(3, _), (8, _), (11, _)] ⟨rfl, rfl, rfl, trivial⟩ ?_)
        | (refine ok_region (i := 16) ?_; refine ok_p rfl rfl rfl (by exact ps_loads rfl rfl (by exact rds_box 2 rfl) rfl rfl (by decide)) ?_; refine ok_p rfl rfl rfl (by exact ps_move rfl rfl) ?_; refine ok_m_ rfl rfl (by exact ms_store 4 rfl rfl rfl rfl rfl rfl rfl rfl) ?_; rintro y_ hy_; refine ok_p rfl rfl rfl (by exact ps_assign rfl rfl) ?_; refine ok_p rfl rfl rfl (by exact ps_assign rfl rfl) ?_; refine ok_nil ?_; refine ok_env [(8, _), (9, _), (10, _)] ⟨rfl, rfl, rfl, trivial⟩ ?_))
      refine ok_endL (vs := [_, _, _]) rfl ⟨⟨_, 4, _, _, _, rfl, rfl, inferInstance, rfl, rfl⟩, rfl, rfl, trivial⟩ (fun w' hw => ⟨y78, ?_, trivial, hw.below, ?_⟩)
      · simp only [Cache_val, e3]; rfl
      · have := NewOk.of (hw.sel [1] (by decide) rfl (G' := []) (fun _ h => by cases h))
        simp only [Cache_obj, e3] at this ⊢
        exact this
    · rw [if_neg (by omega)]
      have e2 : putR R cap ⟨t, no, load⟩ = R ++ [⟨t, no, load⟩] := by unfold putR; rw [if_neg (by omega)]
      rw [e2]
      repeat' (first
        | refine ok_seq ?_
        | refine ok_then ?_
        | refine ok_ret ?_
        | (refine ok_region (i := 15) ?_; refine ok_p rfl rfl rfl (by exact ps_field rfl rfl (by exact isw_ga _)) ?_; refine ok_p rfl rfl rfl (by exact ps_load rfl rfl (by exact Rds.cell (rds_box 0 rfl) rfl)) ?_; refine ok_p rfl rfl rfl (by exact ps_move rfl rfl) ?_; refine ok_p rfl rfl rfl (by exact ps_move rfl rfl) ?_; refine ok_p rfl rfl rfl (by exact ps_move rfl rfl) ?_; refine ok_p rfl rfl rfl (by exact ps_bld rfl (parts_cons rfl (parts_cons rfl (parts_cons rfl parts_nil))) rfl) ?_; refine ok_m rfl rfl rfl (by exact ms_lit rfl (parts_cons rfl parts_nil) rfl rfl rfl) ?_; rintro y77 hy77; refine ok_m rfl rfl rfl (by exact ms_appF (α := CRow) (L := R) (M := [(⟨t, no, load⟩ : CRow)]) 2 rfl rfl rfl rfl (rds_row 0 rfl) rfl (by simp; omega) (by simp; omega)) ?_; rintro y78 hy78; refine ok_p rfl rfl rfl (by exact ps_field rfl rfl (by exact isw_ga _)) ?_; refine ok_m_ rfl rfl (by exact ms_store 1 rfl rfl rfl rfl rfl rfl rfl rfl) ?_; rintro y_ hy_; refine ok_nil ?_; refine ok_env [(3, _), (8, _), (11, _)] ⟨rfl, rfl, rfl, trivial⟩ ?_)
        | (refine ok_region (i := 16) ?_; refine ok_p rfl rfl rfl (by exact ps_loads rfl rfl (by exact rds_box 1 rfl) rfl rfl (by decide)) ?_; refine ok_p rfl rfl rfl (by exact ps_move rfl rfl) ?_; refine ok_m_ rfl rfl (by exact ms_store 3 rfl rfl rfl rfl rfl rfl rfl rfl) ?_; rintro y_ hy_; refine ok_p rfl rfl rfl (by exact ps_assign rfl rfl) ?_; refine ok_p rfl rfl rfl (by exact ps_assign rfl rfl) ?_; refine ok_nil ?_; refine ok_env [(8, _), (9, _), (10, _)] ⟨rfl, rfl, rfl, trivial⟩ ?_))
      refine ok_endL (vs := [_, _, _]) rfl ⟨⟨_, 3, _, _, _, rfl, rfl, inferInstance, rfl, rfl⟩, rfl, rfl, trivial⟩ (fun w' hw => ⟨y78, ?_, trivial, hw.below, ?_⟩)
      · simp only [Cache_val, List.length_append]; rfl
      · have := NewOk.of (hw.sel [2] (by decide) rfl (G' := []) (fun _ h => by cases h))
        simp only [Cache_obj, List.length_append] at this ⊢
        exact this
  · have es : fCacheGet ⟨cap, R⟩ t no load = (⟨cap, (R.take i ++ R.drop (i + 1)) ++ [nth R i]⟩, (nth R i).text, true) := by
      unfold fCacheGet; rw [hok]; simp only [cond_true]; rw [e0, if_pos (by omega)]; rfl
    rw [es]
    have hti : (R.take i).length = i := by rw [List.length_take]; omega
    have hdi : (R.drop (i + 1)).length = R.length - (i + 1) := by simp
    have htd : (R.take i ++ R.drop (i + 1)).length = i + (R.length - (i + 1)) := by rw [List.length_append, hti, hdi]
    have e3 : ((R.take i ++ R.drop (i + 1)) ++ [nth R i]).length = i + (R.length - (i + 1)) + 1 := by rw [List.length_append, htd]; rfl
    repeat' (first
      | refine ok_seq ?_
      | refine ok_then ?_
      | refine ok_then_ret ?_
      | (refine ok_cond rfl (fun hc => ?_) (fun hc => ?_) <;> (have hd := hc; (try simp only [decide_eq_true_eq, decide_eq_false_iff_not, Bool.or_eq_true, Bool.or_eq_false_iff, Bool.and_eq_true, Bool.and_eq_false_iff, Bool.not_eq_true', Bool.not_eq_false', bne_iff_ne, beq_iff_eq, bne_eq_false_iff_eq, beq_eq_false_iff_ne, ne_eq, Bool.not_true, Bool.not_false, Bool.false_eq_true, Bool.true_eq_false, inB_true, inB_false] at hd)))
      | refine ok_ret ?_
      | refine ok_skip ?_
      | (refine ok_region (i := 3) ?_; refine ok_p rfl rfl rfl (by exact ps_loads rfl rfl (by exact rds_box 1 rfl) rfl rfl (by decide)) ?_; refine ok_m rfl rfl rfl (by exact ms_c1 rfl rfl (fun _ _ w hw => s_copyK A c R cap w (rds_rf h (by exact List.mem_cons_self) _ _ w hw) (by omega))) ?_; rintro y21 hy21; refine ok_m rfl rfl rfl (by exact ms_alloc rfl) ?_; rintro y11 hy11; refine ok_m_ rfl rfl (by exact ms_store 0 rfl rfl rfl rfl rfl rfl rfl rfl) ?_; rintro y_ hy_; refine ok_nil ?_; refine ok_env [(1, _), (2, _), (3, _), (4, _), (8, _), (11, _)] ⟨rfl, rfl, rfl, rfl, rfl, rfl, trivial⟩ ?_)
      | (refine ok_region (i := 4) ?_; refine ok_p rfl rfl rfl (by exact ps_loads rfl rfl (by exact rds_box 3 rfl) rfl rfl (by decide)) ?_; refine ok_p rfl rfl rfl (by exact ps_move rfl rfl) ?_; refine ok_p rfl rfl rfl (by exact ps_move rfl rfl) ?_; refine ok_m rfl rfl rfl (by exact ms_s3 rfl rfl rfl rfl (fun _ _ w hw => by have := s_at A c R cap t no w (rds_rf h (by exact List.mem_cons_self) _ _ w hw) (by omega); rw [e0] at this; exact this)) ?_; rintro y25 hy25; refine ok_p rfl rfl rfl (by exact ps_assign rfl rfl) ?_; refine ok_nil ?_; refine ok_env [(1, _), (2, _), (3, _), (4, _), (8, _), (11, _), (12, _)] ⟨rfl, rfl, rfl, rfl, rfl, rfl, rfl, trivial⟩ ?_)
      | (refine ok_region (i := 5) ?_; refine ok_p rfl rfl rfl (by exact ps_move rfl rfl) ?_; refine ok_p rfl rfl rfl (by exact ps_int rfl rfl rfl rfl) ?_; refine ok_nil ?_; refine ok_env [(1, _), (2, _), (3, _), (4, _), (8, _), (11, _), (12, _), (27, _)] ⟨rfl, rfl, rfl, rfl, rfl, rfl, rfl, rfl, trivial⟩ ?_)
      | (refine ok_region (i := 6) ?_; refine ok_p rfl rfl rfl (by exact ps_field rfl rfl (by exact isw_ga _)) ?_; refine ok_p rfl rfl rfl (by exact ps_load rfl rfl (by exact Rds.cell (rds_box 3 rfl) rfl)) ?_; refine ok_p rfl rfl rfl (by exact ps_move rfl rfl) ?_; refine ok_p rfl rfl rfl (by exact ps_indexN rfl rfl rfl (by omega) (by exact isw_of (isS_fl (by assumption) (by omega)))) ?_; refine ok_p rfl rfl rfl (by exact ps_loadsF rfl rfl (by exact rds_rf (by assumption) (by exact List.mem_cons_self)) (by rfl) (by rfl) (by omega) rfl) ?_; refine ok_m rfl rfl rfl (by exact ms_alloc rfl) ?_; rintro y13 hy13; refine ok_m_ rfl rfl (by exact ms_store 0 rfl rfl rfl rfl rfl rfl rfl rfl) ?_; rintro y_ hy_; refine ok_nil ?_; refine ok_env [(4, _), (8, _), (11, _), (12, _), (13, _)] ⟨rfl, rfl, rfl, rfl, rfl, trivial⟩ ?_)
      | (refine ok_region (i := 7) ?_; refine ok_m rfl rfl rfl (by exact ms_lit rfl parts_nil rfl rfl rfl) ?_; rintro y33 hy33; refine ok_p rfl rfl rfl (by exact ps_field rfl rfl (by exact isw_ga _)) ?_; refine ok_p rfl rfl rfl (by exact ps_load rfl rfl (by exact Rds.cell (rds_box 5 rfl) rfl)) ?_; refine ok_p rfl rfl rfl (by exact ps_move rfl rfl) ?_; refine ok_p rfl rfl rfl (by exact ps_slice0 (h := i) rfl rfl rfl rfl (by omega)) ?_; refine ok_m rfl rfl rfl (by exact ms_app0n (R.take i) 0 rfl rfl rfl rfl (rds_head (rds_rf h (by exact List.mem_cons_self)) i) rfl hti (by omega) (by omega)) ?_; rintro y38 hy38; refine ok_p rfl rfl rfl (by exact ps_assign rfl rfl) ?_; refine ok_nil ?_; refine ok_env [(4, _), (8, _), (11, _), (12, _), (13, _), (14, _)] ⟨rfl, rfl, rfl, rfl, rfl, rfl, trivial⟩ ?_)
      | (refine ok_region (i := 8) ?_; refine ok_p rfl rfl rfl (by exact ps_move rfl rfl) ?_; refine ok_p rfl rfl rfl (by exact ps_field rfl rfl (by exact isw_ga _)) ?_; refine ok_p rfl rfl rfl (by exact ps_load rfl rfl (by exact Rds.cell (rds_box 5 rfl) rfl)) ?_; refine ok_p rfl rfl rfl (by exact ps_move rfl rfl) ?_; refine ok_p rfl rfl rfl (by exact ps_add rfl rfl rfl (by omega)) ?_; refine ok_p rfl rfl rfl (by exact ps_sliceE (l := i + 1) rfl rfl rfl rfl (by omega) (by omega)) ?_; refine ok_m rfl rfl rfl (by exact ms_appN (R.take i) (R.drop (i + 1)) 0 rfl rfl rfl rfl (rds_tail (rds_rf h (by exact List.mem_cons_self)) rfl (by omega) (by omega)) rfl hti hdi (by omega) (by omega)) ?_; rintro y45 hy45; refine ok_p rfl rfl rfl (by exact ps_assign rfl rfl) ?_; refine ok_nil ?_; refine ok_env [(8, _), (11, _), (13, _), (14, _)] ⟨rfl, rfl, rfl, rfl, trivial⟩ ?_)
      | (refine ok_region (i := 9) ?_; refine ok_p rfl rfl rfl (by exact ps_move rfl rfl) ?_; refine ok_p rfl rfl rfl (by exact ps_loads rfl rfl (by exact rds_box 1 rfl) rfl rfl (by decide)) ?_; refine ok_m rfl rfl rfl (by exact ms_lit rfl (parts_cons rfl parts_nil) rfl rfl rfl) ?_; rintro y48 hy48; refine ok_m rfl rfl rfl (by exact ms_appN (R.take i ++ R.drop (i + 1)) [nth R i] 1 rfl rfl rfl rfl (rds_row 0 rfl) rfl htd rfl (by omega) (by omega)) ?_; rintro y49 hy49; refine ok_p rfl rfl rfl (by exact ps_field rfl rfl (by exact isw_ga _)) ?_; refine ok_m_ rfl rfl (by exact ms_store 3 rfl rfl rfl rfl rfl rfl rfl rfl) ?_; rintro y_ hy_; refine ok_nil ?_; refine ok_env [(8, _), (11, _), (13, _)] ⟨rfl, rfl, rfl, trivial⟩ ?_)
      | (refine ok_draw (id := 10) 4 rfl (by kernel_rfl) (by kernel_rfl) rfl (by repeat (first | exact pq_body | refine pq_then ?_ | refine pq_in ?_)) [0, 1, 2, 3, 4, 6] (by decide) rfl ?_; refine okT_take (i := 0) rfl (by kernel_rfl) rfl rfl rfl (by exact ps_loads rfl rfl (by exact rds_box 3 rfl) rfl rfl (by decide)) ?_; refine okT_take (i := 1) rfl (by kernel_rfl) rfl rfl rfl (by exact ps_field rfl rfl (by exact isw_ga _)) ?_; refine okT_take (i := 2) rfl (by kernel_rfl) rfl rfl rfl (by exact ps_load rfl rfl (by exact Rds.cell (rds_box 2 rfl) rfl)) ?_; refine okT_one0 (i := 3) rfl rfl (by kernel_rfl) rfl rfl (by exact ms_store 5 rfl rfl rfl rfl rfl rfl rfl rfl) (fun y w _ h => by exact h.sel [0, 1, 2, 3, 4, 6] (by decide) rfl (fun _ h => h)) ?_; rintro y_ hy_; refine okT_done (by kernel_rfl) ?_; refine ok_p rfl rfl rfl (by exact ps_assign rfl rfl) ?_; refine ok_p rfl rfl rfl (by exact ps_assign rfl rfl) ?_; refine ok_nil ?_; refine ok_env [(8, _), (9, _), (10, _)] ⟨rfl, rfl, rfl, trivial⟩ ?_)
      | (refine ok_region (i := 11) ?_; refine ok_p rfl rfl rfl (by exact ps_move rfl rfl) ?_; refine ok_p rfl rfl rfl (by exact ps_slen rfl rfl) ?_; refine ok_p rfl rfl rfl (by exact ps_int rfl rfl rfl rfl) ?_; refine ok_nil ?_; refine ok_env [(1, _), (2, _), (3, _), (8, _), (11, _), (56, _)] ⟨rfl, rfl, rfl, rfl, rfl, rfl, trivial⟩ ?_)
      | (refine ok_region (i := 12) ?_; refine ok_p rfl rfl rfl (by exact ps_loads rfl rfl (by exact rds_box 0 rfl) rfl rfl (by decide)) ?_; refine ok_p rfl rfl rfl (by exact ps_move rfl rfl) ?_; refine ok_m_ rfl rfl (by exact ms_store 2 rfl rfl rfl rfl rfl rfl rfl rfl) ?_; rintro y_ hy_; refine ok_p rfl rfl rfl (by exact ps_assign rfl rfl) ?_; refine ok_p rfl rfl rfl (by exact ps_assign rfl rfl) ?_; refine ok_nil ?_; refine ok_env [(8, _), (9, _), (10, _)] ⟨rfl, rfl, rfl, trivial⟩ ?_)
      | (refine ok_region (i := 13) ?_; refine ok_p rfl rfl rfl (by exact ps_field rfl rfl (by exact isw_ga _)) ?_; refine ok_p rfl rfl rfl (by exact ps_load rfl rfl (by exact Rds.cell (rds_box 0 rfl) rfl)) ?_; refine ok_p rfl rfl rfl (by exact ps_len rfl rfl) ?_; refine ok_p rfl rfl rfl (by exact ps_field rfl rfl (by exact isw_ga _)) ?_; refine ok_p rfl rfl rfl (by exact ps_load rfl rfl (by exact Rds.cell (rds_box 0 rfl) rfl)) ?_; refine ok_p rfl rfl rfl (by exact ps_int rfl rfl rfl rfl) ?_; refine ok_nil ?_; refine ok_env [(1, _), (2, _), (3, _), (8, _), (11, _), (64, _)] ⟨rfl, rfl, rfl, rfl, rfl, rfl, trivial⟩ ?_))
    all_goals first
      | (exfalso; omega)
      | skip
    refine ok_endL (vs := [_, _, _]) rfl ⟨⟨_, 5, _, _, _, rfl, rfl, inferInstance, rfl, rfl⟩, rfl, rfl, trivial⟩ (fun w' hw => ⟨y49, ?_, trivial, hw.below, ?_⟩)
    · simp only [Cache_val, e3]; rfl
    · have := NewOk.of (hw.sel [1] (by decide) rfl (G' := []) (fun _ h => by cases h))
      simp only [Cache_obj, e3] at this ⊢
      exact this
def Cache_rdc (w : World) (x : DCache) (y : Ys) : Prop := Cache_rd w x y ∧ x.R.length ≤ (y 0).c
theorem Cache_ofc {w w0 : World} {base : Nat} {H : List HObj} {G : List World} {x : DCache} {y : Ys} (hw : WOk base w0 (Cache_obj x y ++ H) G w) : Cache_rdc w x y := ⟨Cache_of hw, own_cap (hw.own (.row 132 3 (y 0).A x.R.length (y 0).c (fl x.R)) (by simp [Cache_obj]))⟩
theorem get_le (x : DCache) (t no : Int) (load : ByteArray) : (fCacheGet x t no load).1.R.length ≤ x.R.length + 1 := by
  unfold fCacheGet
  cases fCacheOk x
  · simp
  · simp only [cond_true]
    split
    · simp only [List.length_append, List.length_take, List.length_drop, List.length_cons, List.length_nil]; omega
    · split
      · simp
      · unfold putR
        split <;> simp
theorem CacheGet_lim (x : DCache) (t no : Int) (load : ByteArray) (hs : Cache_sm x) (ht : -9223372036854775808 ≤ t ∧ t ≤ 9223372036854775807) (hn : -9223372036854775808 ≤ no ∧ no ≤ 9223372036854775807) (hl : load.size ≤ 1048576) : Cache_lim (fCacheGet x t no load).1 := by
  have := get_le x t no load
  have h1 := hs.1
  unfold Cache_lim
  omega
theorem i_CacheGet (x : DCache) (y : Ys) (t no : Int) (load : ByteArray) (w : World) (h : Cache_rdc w x y) (hs : Cache_sm x) (ht : -9223372036854775808 ≤ t ∧ t ≤ 9223372036854775807) (hn : -9223372036854775808 ≤ no ∧ no ≤ 9223372036854775807) (hl : load.size ≤ 1048576) :
    Calls Try.prog 25 #[Cache_val x y, .int .i64 t, .int .i64 no, .string load] w fun e w' => ∃ y : Ys, e = .returned (.tuple #[Cache_val (fCacheGet x t no load).1 y, .string (fCacheGet x t no load).2.1, .bool (fCacheGet x t no load).2.2]) ∧ True ∧ Below w.heap.size w w' ∧ NewOk w.heap.size (Cache_obj (fCacheGet x t no load).1 y) [] w' := i_CacheGet0 _ _ x.R x.cap t no load w h.1 hs.1
theorem s_CacheGet (x : DCache) (y : Ys) (t no : Int) (load : ByteArray) (w : World) (h : Cache_rdc w x y) (hs : Cache_sm x) (ht : -9223372036854775808 ≤ t ∧ t ≤ 9223372036854775807) (hn : -9223372036854775808 ≤ no ∧ no ≤ 9223372036854775807) (hl : load.size ≤ 1048576) :
    Calls Try.prog 26 #[Cache_val x y, .int .i64 t, .int .i64 no, .string load] w fun e w' => ∃ y : Ys, e = .returned (.tuple #[Cache_val (fCacheGet x t no load).1 y, .string (fCacheGet x t no load).2.1, .bool (fCacheGet x t no load).2.2]) ∧ True ∧ Below w.heap.size w w' ∧ NewOk w.heap.size (Cache_obj (fCacheGet x t no load).1 y) [] w' := s_CacheGet0 _ _ x.R x.cap t no load w h.1 hs.1 h.2
end Go.Proofs.Ytfcnimglcialbaa
