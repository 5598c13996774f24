/- Texts of this claim, one behind the other: BkL, WFnBackup, Jn. -/
import Derived.Test.YtgeifmdcoiijgaaMgBackup2
import Derived.Test.YtgeifmdcoiijgaaRows
import Derived.ProofKit
import Derived.JoinedOf
/- FnBackup: its walk. -/
namespace Go.Proofs.Ytgeifmdcoiijgaa
open Go.RowKit
set_option maxHeartbeats 4000000
set_option maxRecDepth 20000
set_option linter.unusedVariables false
set_option linter.unusedSimpArgs false
attribute [local irreducible] Calls
theorem i_app_e (A A0 A1 : Option Addr) (c c0 c1 : Nat) (a : List KV) (U : List KV) (D : List ByteArray) (r : List KV) (he : fApplyDelta a ⟨U, D⟩ = (r, true)) (sa : KVS_sm a) (sd : Delta_sm ⟨U, D⟩) (w : World) (h : Rd w A (fl a)) (h0 : Rd w A0 (fl U)) (h1 : Rd w A1 (fl D)) :
    Calls Try.prog 83 #[.slice A a.length c, .agg #[.slice A0 U.length c0, .slice A1 D.length c1]] w fun e w' => ∃ y : Ys, e = .returned (.tuple #[.slice (y 0).A r.length (y 0).c, .bool true]) ∧ True ∧ Below w.heap.size w w' ∧ NewOk w.heap.size [.row 85 2 (y 0).A r.length (y 0).c (fl r)] [] w' := by
  have := i_ApplyDelta a (yl [⟨A, c, w, 0⟩] ⟨A, c, w, 0⟩) ⟨U, D⟩ (yl [⟨A0, c0, w, 0⟩, ⟨A1, c1, w, 0⟩] ⟨A0, c0, w, 0⟩) w h ⟨h0, h1⟩ sa sd
  rw [he] at this
  exact this
theorem s_dok_e (A0 A1 : Option Addr) (c0 c1 : Nat) (U : List KV) (D : List ByteArray) (he : deltaOk U D = true) (w : World) (h0 : Rd w A0 (fl U)) (h1 : Rd w A1 (fl D)) (m0 : U.length ≤ 1048576) (m1 : D.length ≤ 1048576) :
    Calls Try.prog 86 #[.agg #[.slice A0 U.length c0, .slice A1 D.length c1]] w fun e w' => e = .returned (.bool true) ∧ Below w.heap.size w w' := by
  have := s_DeltaOk A0 c0 A1 c1 U D w h0 h1 m0 m1
  rw [he] at this; exact this
theorem i_join_o (A0 A1 B0 B1 : Option Addr) (c0 c1 d0 d1 : Nat) (a b : DDelta) (sa : Delta_sm a) (sb : Delta_sm b) (w : World) (h0 : Rd w A0 (fl a.U)) (h1 : Rd w A1 (fl a.D)) (k0 : Rd w B0 (fl b.U)) (k1 : Rd w B1 (fl b.D)) :
    Calls Try.prog 84 #[.agg #[.slice A0 a.U.length c0, .slice A1 a.D.length c1], .agg #[.slice B0 b.U.length d0, .slice B1 b.D.length d1]] w fun e w' => ∃ y : Ys, e = .returned (.agg #[.slice (y 0).A (fJoinDelta a b).U.length (y 0).c, .slice (y 1).A (fJoinDelta a b).D.length (y 1).c]) ∧ True ∧ Below w.heap.size w w' ∧ NewOk w.heap.size [.row 85 2 (y 0).A (fJoinDelta a b).U.length (y 0).c (fl (fJoinDelta a b).U), .row 9 1 (y 1).A (fJoinDelta a b).D.length (y 2).c (fl (fJoinDelta a b).D)] [] w' :=
  i_JoinDelta a (yl [⟨A0, c0, w, 0⟩, ⟨A1, c1, w, 0⟩] ⟨A0, c0, w, 0⟩) b (yl [⟨B0, d0, w, 0⟩, ⟨B1, d1, w, 0⟩] ⟨B0, d0, w, 0⟩) w ⟨h0, h1⟩ ⟨k0, k1⟩ sa sb
theorem i_diff_o (A0 A1 : Option Addr) (c0 c1 : Nat) (a b : List KV) (w : World) (h0 : Rd w A0 (fl a)) (h1 : Rd w A1 (fl b)) (m0 : a.length ≤ 1048576) (m1 : b.length ≤ 1048576) :
    Calls Try.prog 78 #[.slice A0 a.length c0, .slice A1 b.length c1] w fun e w' => ∃ y : Ys, e = .returned (.agg #[.slice (y 0).A (fDiffMap a b).U.length (y 0).c, .slice (y 1).A (fDiffMap a b).D.length (y 1).c]) ∧ True ∧ Below w.heap.size w w' ∧ NewOk w.heap.size [.row 85 2 (y 0).A (fDiffMap a b).U.length (y 0).c (fl (fDiffMap a b).U), .row 9 1 (y 1).A (fDiffMap a b).D.length (y 1).c (fl (fDiffMap a b).D)] [] w' := i_DiffMap0 A0 A1 c0 c1 a b w h0 h1 m0 m1
theorem s_diff_o (A0 A1 : Option Addr) (c0 c1 : Nat) (a b : List KV) (w : World) (h0 : Rd w A0 (fl a)) (h1 : Rd w A1 (fl b)) (m0 : a.length ≤ 1048576) (m1 : b.length ≤ 1048576) :
    Calls Try.prog 81 #[.slice A0 a.length c0, .slice A1 b.length c1] w fun e w' => ∃ y : Ys, e = .returned (.agg #[.slice (y 0).A (fDiffMap a b).U.length (y 0).c, .slice (y 1).A (fDiffMap a b).D.length (y 1).c]) ∧ True ∧ Below w.heap.size w w' ∧ NewOk w.heap.size [.row 85 2 (y 0).A (fDiffMap a b).U.length (y 0).c (fl (fDiffMap a b).U), .row 9 1 (y 1).A (fDiffMap a b).D.length (y 1).c (fl (fDiffMap a b).D)] [] w' := s_DiffMap0 A0 A1 c0 c1 a b w h0 h1 m0 m1
theorem diff_sm {a b : List KV} (ha : kvFew a 32 20) (hb : kvFew b 32 20) : Delta_sm (fDiffMap a b) := by
  by_cases hm : mapOk a = true ∧ mapOk b = true
  · rw [diff_eq hm.1 hm.2]
    refine ⟨⟨?_, fun u hu => ?_⟩, ?_, fun u hu => ?_⟩
    · exact Nat.le_trans (List.length_filter_le _ _) (by have := hb.1; omega)
    · have := hb.2 u (List.mem_filter.1 hu).1
      exact ⟨by omega, by omega⟩
    · simp only [List.length_map]
      exact Nat.le_trans (List.length_filter_le _ _) (by have := ha.1; omega)
    · obtain ⟨x, hx, rfl⟩ := List.mem_map.1 hu
      have := ha.2 x (List.mem_filter.1 hx).1
      show x.key.size ≤ 1048576
      omega
  · have e : fDiffMap a b = ⟨[], []⟩ := by
      unfold fDiffMap
      cases h1 : mapOk a <;> cases h2 : mapOk b <;> simp_all
    rw [e]
    exact ⟨⟨Nat.zero_le _, fun u hu => (by cases hu)⟩, Nat.zero_le _, fun u hu => (by cases hu)⟩
theorem diff_n {a b : List KV} (ha : kvFew a 32 20) (hb : kvFew b 32 20) : (fDiffMap a b).U.length ≤ 32 ∧ (fDiffMap a b).D.length ≤ 32 := by
  by_cases hm : mapOk a = true ∧ mapOk b = true
  · rw [diff_eq hm.1 hm.2]
    exact ⟨Nat.le_trans (List.length_filter_le _ _) hb.1, by simp only [List.length_map]; exact Nat.le_trans (List.length_filter_le _ _) ha.1⟩
  · have e : fDiffMap a b = ⟨[], []⟩ := by
      unfold fDiffMap
      cases h1 : mapOk a <;> cases h2 : mapOk b <;> simp_all
    rw [e]
    exact ⟨Nat.zero_le _, Nat.zero_le _⟩
theorem join_sm {a b c : List KV} (ha : kvFew a 32 20) (hb : kvFew b 32 20) (hc : kvFew c 32 20) (ma : mapOk a = true) (mb : mapOk b = true) (mc : mapOk c = true) : Delta_sm (fJoinDelta (fDiffMap a b) (fDiffMap b c)) := by
  have k1 := diff_ok ma mb
  have k2 := diff_ok mb mc
  have s1 := diff_sm ha hb
  have s2 := diff_sm hb hc
  have n1 := diff_n ha hb
  have n2 := diff_n hb hc
  have hj := join_eq k1 k2
  have hln : (joinU (fDiffMap a b) (fDiffMap b c)).length ≤ 1048576 := by
    have q1 := puts_len (fDiffMap b c).U (dropsF (fDiffMap b c).D (fDiffMap a b).U)
    have q2 := drops_len (fDiffMap b c).D (fDiffMap a b).U
    unfold joinU
    omega
  rw [hj]
  refine ⟨⟨hln, fun u hu => ?_⟩, ?_, fun u hu => ?_⟩
  · rcases (joinU_mem k1 k2 u).1 hu with h | h
    · exact s2.1.2 u h
    · exact s1.1.2 u h.1.1
  · have := delF_len (fDiffMap b c).U (fDiffMap a b).D (fDiffMap b c).D
    simp only
    omega
  · rcases (delF_mem (delta_srt k2).1 _ _ u).1 hu with h | h
    · exact s2.2.2 u h
    · exact s1.2.2 u h.1
theorem app_de {a b : List KV} (ma : mapOk a = true) (mb : mapOk b = true) : fApplyDelta a (fDiffMap a b) = (b, true) := by
  rw [app_yes ma (diff_ok ma mb)]
  exact congrArg (fun x => (x, true)) (app_diff ma mb)
theorem app_je {a b c : List KV} (ma : mapOk a = true) (mb : mapOk b = true) (mc : mapOk c = true) : fApplyDelta a (fJoinDelta (fDiffMap a b) (fDiffMap b c)) = (c, true) := by
  have k1 := diff_ok ma mb
  have k2 := diff_ok mb mc
  rw [app_yes ma (join_ok k1 k2)]
  have e : appF a (fJoinDelta (fDiffMap a b) (fDiffMap b c)) = c := by
    rw [app_join (srtK_iff.1 (sortedK_of ma)) k1 k2, app_diff ma mb, app_diff mb mc]
  exact congrArg (fun x => (x, true)) e
attribute [local irreducible] fShowDelta fDiffMap fJoinDelta mapOk deltaOk
theorem FnBackup_e (A : Option Addr) (cp : Nat) (bs : List UInt8) (w : World) (h : Rd w A (fl bs)) :
    Calls Try.prog 19 #[.slice A bs.length cp] w fun e w' => e = .returned (.bool true) ∧ Below w.heap.size w w' := by
  refine ok_enter 102 Try.func19 rfl rfl rfl ?_
  repeat' (first
    | refine ok_seq ?_
    | refine ok_then ?_
    | refine ok_then_ret ?_
    | (refine ok_cond rfl (fun hc => ?_) (fun hc => ?_) <;> (have hd := hc; (try simp only [decide_eq_true_eq, decide_eq_false_iff_not, Bool.or_eq_true, Bool.or_eq_false_iff, Bool.and_eq_true, Bool.and_eq_false_iff, Bool.not_eq_true', Bool.not_eq_false', bne_iff_ne, beq_iff_eq, bne_eq_false_iff_eq, beq_eq_false_iff_ne, ne_eq, Bool.not_true, Bool.not_false, Bool.false_eq_true, Bool.true_eq_false, inB_true, inB_false] at hd)))
    | refine ok_ret ?_
    | refine ok_skip ?_
    | (refine ok_region (i := 0) ?_; refine ok_p rfl rfl rfl (by exact ps_assign rfl rfl) ?_; refine ok_nil ?_; refine ok_env [(0, _)] ⟨rfl, trivial⟩ ?_)
    | (refine ok_region (i := 1) ?_; refine ok_p rfl rfl rfl (by exact ps_move rfl rfl) ?_; refine ok_m rfl rfl rfl (by exact ms_s1 rfl rfl (fun _ _ w _ => big_c A cp _ w)) ?_; rintro y16 hy16; refine ok_nil ?_; refine ok_env [(0, _), (16, _)] ⟨rfl, rfl, trivial⟩ ?_)
    | (refine ok_region (i := 2) ?_; refine ok_p rfl rfl rfl (by exact ps_assign rfl rfl) ?_; refine ok_nil ?_; refine ok_env [(2, _)] ⟨rfl, trivial⟩ ?_))
  · exact ok_endL (vs := [_]) rfl ⟨rfl, trivial⟩ (fun w' hw => ⟨rfl, hw.below⟩)
  have hl : bs.length ≤ 1048576 := by omega
  clear hc hd
  refine ok_region (i := 3) ?_
  refine ok_p rfl rfl rfl (by exact ps_move rfl rfl) ?_
  refine ok_m rfl rfl rfl (by exact ms_c1 rfl rfl (fun _ _ w hw => drawDiff_c A cp bs w (rds_rf h (by exact List.mem_cons_self) _ _ w hw) hl)) ?_
  rintro y19 hy19
  refine ok_p rfl rfl rfl (by exact ps_move rfl rfl) ?_
  refine ok_p rfl rfl rfl (by exact ps_extract rfl rfl rfl) ?_
  refine ok_p rfl rfl rfl (by exact ps_extract rfl rfl rfl) ?_
  refine ok_p rfl rfl rfl (by exact ps_assign rfl rfl) ?_
  refine ok_p rfl rfl rfl (by exact ps_assign rfl rfl) ?_
  refine ok_nil ?_
  refine ok_env [(0, _), (3, _), (4, _)] ⟨rfl, rfl, rfl, trivial⟩ ?_
  obtain ⟨fa, fb⟩ := hy19
  generalize (yE (y19 2) : List KV) = a at fa ⊢
  generalize (yE (y19 3) : List KV) = b at fb ⊢
  refine ok_then ?_
  refine ok_seq ?_
  refine ok_region (i := 4) ?_
  refine ok_p rfl rfl rfl (by exact ps_move rfl rfl) ?_
  refine ok_m rfl rfl rfl (by exact ms_c2 rfl rfl rfl (fun _ _ w hw => fresh_c A cp bs 1 ⟨by omega, by omega⟩ w (rds_rf h (by exact List.mem_cons_self) _ _ w hw) hl)) ?_
  rintro y24 hy24
  refine ok_m rfl rfl rfl (by exact ms_c1 rfl rfl (fun _ _ w hw => drawDiff_c (y24 0).A (y24 0).c (bl (yS (y24 1))) w (rds_row 0 rfl _ _ w hw) (by omega))) ?_
  rintro y25 hy25
  refine ok_p rfl rfl rfl (by exact ps_move rfl rfl) ?_
  refine ok_p rfl rfl rfl (by exact ps_extract rfl rfl rfl) ?_
  refine ok_p rfl rfl rfl (by exact ps_extract rfl rfl rfl) ?_
  refine ok_p rfl rfl rfl (by exact ps_assign rfl rfl) ?_
  refine ok_p rfl rfl rfl (by exact ps_assign rfl rfl) ?_
  refine ok_nil ?_
  refine ok_env [(3, _), (4, _), (6, _)] ⟨rfl, rfl, rfl, trivial⟩ ?_
  obtain ⟨_, fc⟩ := hy25
  generalize (yE (y25 3) : List KV) = c at fc ⊢
  have la := fa.1
  have lb := fb.1
  have lc := fc.1
  have sa := kv_sm fa ⟨by omega, by omega⟩
  have sb := kv_sm fb ⟨by omega, by omega⟩
  have sc := kv_sm fc ⟨by omega, by omega⟩
  have n1 := diff_n fa fb
  have n2 := diff_n fb fc
  have n3 := diff_n fb fb
  have s1 := diff_sm fa fb
  have s2 := diff_sm fb fc
  have s3 := diff_sm fb fb
  have SA := Lib.hid sa; clear sa
  have SB := Lib.hid sb; clear sb
  have S1 := Lib.hid s1; clear s1
  have S2 := Lib.hid s2; clear s2
  have S3 := Lib.hid s3; clear s3 sc
  have h4 := fun ma mb mc => join_sm fa fb fc ma mb mc
  have HJ := Lib.hid h4; clear h4
  have FA := Lib.hid fa; clear fa
  have FB := Lib.hid fb; clear fb
  have FC := Lib.hid fc; clear fc
  refine ok_then ?_
  repeat' (first
    | refine ok_seq ?_
    | refine ok_then ?_
    | refine ok_then_ret ?_
    | (refine ok_cond rfl (fun hc => ?_) (fun hc => ?_) <;> (have hd := hc; (try simp only [decide_eq_true_eq, decide_eq_false_iff_not, Bool.or_eq_true, Bool.or_eq_false_iff, Bool.and_eq_true, Bool.and_eq_false_iff, Bool.not_eq_true', Bool.not_eq_false', bne_iff_ne, beq_iff_eq, bne_eq_false_iff_eq, beq_eq_false_iff_ne, ne_eq, Bool.not_true, Bool.not_false, Bool.false_eq_true, Bool.true_eq_false, inB_true, inB_false] at hd)))
    | refine ok_ret ?_
    | refine ok_skip ?_
    | (refine ok_region (i := 5) ?_; refine ok_p rfl rfl rfl (by exact ps_move rfl rfl) ?_; refine ok_p rfl rfl rfl (by exact ps_move rfl rfl) ?_; refine ok_m rfl rfl rfl (by exact ms_c2 rfl rfl rfl (fun _ _ w hw => i_diff_o (y19 0).A (y19 1).A (y19 0).c (y19 1).c a b w (rds_row 3 rfl _ _ w hw) (rds_row 4 rfl _ _ w hw) (by omega) (by omega))) ?_; rintro y30 hy30; refine ok_m rfl rfl rfl (by exact ms_alloc rfl) ?_; rintro y7 hy7; refine ok_m_ rfl rfl (by exact ms_store 0 rfl rfl rfl rfl rfl rfl rfl rfl) ?_; rintro y_ hy_; refine ok_nil ?_; refine ok_env [(3, _), (4, _), (6, _), (7, _)] ⟨rfl, rfl, rfl, rfl, trivial⟩ ?_)
    | (refine ok_region (i := 6) ?_; refine ok_p rfl rfl rfl (by exact ps_move rfl rfl) ?_; refine ok_p rfl rfl rfl (by exact ps_move rfl rfl) ?_; refine ok_m rfl rfl rfl (by exact ms_c2 rfl rfl rfl (fun _ _ w hw => i_diff_o (y19 1).A (y25 1).A (y19 1).c (y25 1).c b c w (rds_row 7 rfl _ _ w hw) (rds_row 4 rfl _ _ w hw) (by omega) (by omega))) ?_; rintro y33 hy33; refine ok_m rfl rfl rfl (by exact ms_alloc rfl) ?_; rintro y8 hy8; refine ok_m_ rfl rfl (by exact ms_store 0 rfl rfl rfl rfl rfl rfl rfl rfl) ?_; rintro y_ hy_; refine ok_nil ?_; refine ok_env [(3, _), (4, _), (6, _), (7, _), (8, _)] ⟨rfl, rfl, rfl, rfl, rfl, trivial⟩ ?_)
    | (refine ok_region (i := 7) ?_; refine ok_p rfl rfl rfl (by exact ps_loads rfl rfl (by exact rds_box 3 rfl) rfl rfl (by decide)) ?_; refine ok_m rfl rfl rfl (by exact ms_s1 rfl rfl (fun _ _ w hw => i_ShowDelta0 (y30 0).A (y30 1).A (y30 0).c (y30 1).c (fDiffMap a b).U (fDiffMap a b).D w (rds_row 4 rfl _ _ w hw) (rds_row 5 rfl _ _ w hw) (by omega) (by omega))) ?_; rintro y35 hy35; refine ok_p rfl rfl rfl (by exact ps_move rfl rfl) ?_; refine ok_p rfl rfl rfl (by exact ps_move rfl rfl) ?_; refine ok_m rfl rfl rfl (by exact ms_c2 rfl rfl rfl (fun _ _ w hw => s_diff_o (y19 0).A (y19 1).A (y19 0).c (y19 1).c a b w (rds_row 9 rfl _ _ w hw) (rds_row 10 rfl _ _ w hw) (by omega) (by omega))) ?_; rintro y38 hy38; refine ok_m rfl rfl rfl (by exact ms_s1 rfl rfl (fun _ _ w hw => s_ShowDelta0 (y38 0).A (y38 1).A (y38 0).c (y38 1).c (fDiffMap a b).U (fDiffMap a b).D w (rds_row 0 rfl _ _ w hw) (rds_row 1 rfl _ _ w hw) (by omega) (by omega))) ?_; rintro y39 hy39; refine ok_p rfl rfl rfl (by exact ps_str rfl rfl rfl rfl) ?_; refine ok_nil ?_; refine ok_env [(3, _), (4, _), (6, _), (7, _), (8, _), (40, _)] ⟨rfl, rfl, rfl, rfl, rfl, rfl, trivial⟩ ?_)
    | (refine ok_region (i := 8) ?_; refine ok_p rfl rfl rfl (by exact ps_assign rfl rfl) ?_; refine ok_nil ?_; refine ok_env [(2, _)] ⟨rfl, trivial⟩ ?_)
    | (refine ok_region (i := 9) ?_; refine ok_p rfl rfl rfl (by exact ps_move rfl rfl) ?_; refine ok_m rfl rfl rfl (by exact ms_s1 rfl rfl (fun _ _ w hw => s_MapOk (y19 0).A (y19 0).c a w (rds_row 11 rfl _ _ w hw) (by omega))) ?_; rintro y42 hy42; refine ok_p rfl rfl rfl (by exact ps_not rfl rfl) ?_; refine ok_p rfl rfl rfl (by exact ps_move rfl rfl) ?_; refine ok_pg rfl rfl rfl rfl rfl (gF _) (fun hp => by (have hpd := hp; (try simp only [decide_eq_true_eq, decide_eq_false_iff_not, Bool.or_eq_true, Bool.or_eq_false_iff, Bool.and_eq_true, Bool.and_eq_false_iff, Bool.not_eq_true', Bool.not_eq_false', bne_iff_ne, beq_iff_eq, bne_eq_false_iff_eq, beq_eq_false_iff_ne, ne_eq, Bool.not_true, Bool.not_false, Bool.false_eq_true, Bool.true_eq_false, inB_true, inB_false] at hpd); exact ps_move rfl (by exact rfl))) ?_; refine ok_mg rfl rfl rfl rfl rfl (gF _) (fun hp => by (have hpd := hp; (try simp only [decide_eq_true_eq, decide_eq_false_iff_not, Bool.or_eq_true, Bool.or_eq_false_iff, Bool.and_eq_true, Bool.and_eq_false_iff, Bool.not_eq_true', Bool.not_eq_false', bne_iff_ne, beq_iff_eq, bne_eq_false_iff_eq, beq_eq_false_iff_ne, ne_eq, Bool.not_true, Bool.not_false, Bool.false_eq_true, Bool.true_eq_false, inB_true, inB_false] at hpd); exact ms_s1 rfl (by (refine og rfl ?_; assumption)) (fun _ _ w hw => s_MapOk (y19 1).A (y19 1).c b w (rds_row 12 rfl _ _ w hw) (by omega)))) ?_; refine ok_pg rfl rfl rfl rfl rfl (gF _) (fun hp => by (have hpd := hp; (try simp only [decide_eq_true_eq, decide_eq_false_iff_not, Bool.or_eq_true, Bool.or_eq_false_iff, Bool.and_eq_true, Bool.and_eq_false_iff, Bool.not_eq_true', Bool.not_eq_false', bne_iff_ne, beq_iff_eq, bne_eq_false_iff_eq, beq_eq_false_iff_ne, ne_eq, Bool.not_true, Bool.not_false, Bool.false_eq_true, Bool.true_eq_false, inB_true, inB_false] at hpd); exact ps_not rfl (by (refine og rfl ?_; assumption)))) ?_; refine ok_p rfl rfl rfl (by exact ps_or rfl rfl rfl) ?_; refine ok_p rfl rfl rfl (by exact ps_move rfl rfl) ?_; refine ok_pg rfl rfl rfl rfl rfl (gF _) (fun hp => by (have hpd := hp; (try simp only [decide_eq_true_eq, decide_eq_false_iff_not, Bool.or_eq_true, Bool.or_eq_false_iff, Bool.and_eq_true, Bool.and_eq_false_iff, Bool.not_eq_true', Bool.not_eq_false', bne_iff_ne, beq_iff_eq, bne_eq_false_iff_eq, beq_eq_false_iff_ne, ne_eq, Bool.not_true, Bool.not_false, Bool.false_eq_true, Bool.true_eq_false, inB_true, inB_false] at hpd); exact ps_move rfl (by exact rfl))) ?_; refine ok_mg rfl rfl rfl rfl rfl (gF _) (fun hp => by (have hpd := hp; (try simp only [decide_eq_true_eq, decide_eq_false_iff_not, Bool.or_eq_true, Bool.or_eq_false_iff, Bool.and_eq_true, Bool.and_eq_false_iff, Bool.not_eq_true', Bool.not_eq_false', bne_iff_ne, beq_iff_eq, bne_eq_false_iff_eq, beq_eq_false_iff_ne, ne_eq, Bool.not_true, Bool.not_false, Bool.false_eq_true, Bool.true_eq_false, inB_true, inB_false] at hpd); exact ms_s1 rfl (by (refine og rfl ?_; assumption)) (fun _ _ w hw => s_MapOk (y25 1).A (y25 1).c c w (rds_row 9 rfl _ _ w hw) (by omega)))) ?_; refine ok_pg rfl rfl rfl rfl rfl (gF _) (fun hp => by (have hpd := hp; (try simp only [decide_eq_true_eq, decide_eq_false_iff_not, Bool.or_eq_true, Bool.or_eq_false_iff, Bool.and_eq_true, Bool.and_eq_false_iff, Bool.not_eq_true', Bool.not_eq_false', bne_iff_ne, beq_iff_eq, bne_eq_false_iff_eq, beq_eq_false_iff_ne, ne_eq, Bool.not_true, Bool.not_false, Bool.false_eq_true, Bool.true_eq_false, inB_true, inB_false] at hpd); exact ps_not rfl (by (refine og rfl ?_; assumption)))) ?_; refine ok_p rfl rfl rfl (by exact ps_or rfl rfl rfl) ?_; refine ok_nil ?_; refine ok_env [(3, _), (4, _), (6, _), (7, _), (8, _), (53, _)] ⟨rfl, rfl, rfl, rfl, rfl, rfl, trivial⟩ ?_)
    | (refine ok_region (i := 10) ?_; refine ok_p rfl rfl rfl (by exact ps_assign rfl rfl) ?_; refine ok_nil ?_; refine ok_env [(2, _)] ⟨rfl, trivial⟩ ?_))
  · exfalso
    have e : ∀ s : ByteArray, sEq s s = true := fun s => by unfold sEq; simp
    rw [e] at hd; cases hd
  · exact ok_endL (vs := [_]) rfl ⟨rfl, trivial⟩ (fun w' hw => ⟨rfl, hw.below⟩)
  obtain ⟨⟨ma, mb⟩, mc⟩ := hd
  have hj := HJ.out ma mb mc
  have HJ2 := Lib.hid hj; clear hj
  have e1 := app_de ma mb
  have e2 := app_je ma mb mc
  have e3 := app_de mb mb
  have E1 := Lib.hid e1; clear e1
  have E2 := Lib.hid e2; clear e2
  have E3 := Lib.hid e3; clear e3
  have dk := diff_ok ma mb
  have DK := Lib.hid dk; clear dk
  clear hc
  repeat' (first
    | refine ok_seq ?_
    | refine ok_then ?_
    | refine ok_ret ?_
    | (refine ok_region (i := 11) ?_; refine ok_p rfl rfl rfl (by exact ps_move rfl rfl) ?_; refine ok_p rfl rfl rfl (by exact ps_loads rfl rfl (by exact rds_box 5 rfl) rfl rfl (by decide)) ?_; refine ok_m rfl rfl rfl (by exact ms_c2 rfl rfl rfl (fun _ _ w hw => i_app_e (y19 0).A (y30 0).A (y30 1).A (y19 0).c (y30 0).c (y30 1).c a (fDiffMap a b).U (fDiffMap a b).D b E1.out SA.out S1.out w (rds_row 11 rfl _ _ w hw) (rds_row 6 rfl _ _ w hw) (rds_row 7 rfl _ _ w hw))) ?_; rintro y57 hy57; refine ok_p rfl rfl rfl (by exact ps_move rfl rfl) ?_; refine ok_p rfl rfl rfl (by exact ps_extract rfl rfl rfl) ?_; refine ok_p rfl rfl rfl (by exact ps_extract rfl rfl rfl) ?_; refine ok_p rfl rfl rfl (by exact ps_assign rfl rfl) ?_; refine ok_p rfl rfl rfl (by exact ps_assign rfl rfl) ?_; refine ok_nil ?_; refine ok_env [(3, _), (4, _), (6, _), (7, _), (8, _), (9, _), (10, _)] ⟨rfl, rfl, rfl, rfl, rfl, rfl, rfl, trivial⟩ ?_)
    | (refine ok_region (i := 12) ?_; refine ok_p rfl rfl rfl (by exact ps_move rfl rfl) ?_; refine ok_p rfl rfl rfl (by exact ps_loads rfl rfl (by exact rds_box 6 rfl) rfl rfl (by decide)) ?_; refine ok_p rfl rfl rfl (by exact ps_loads rfl rfl (by exact rds_box 3 rfl) rfl rfl (by decide)) ?_; refine ok_m rfl rfl rfl (by exact ms_c2 rfl rfl rfl (fun _ _ w hw => i_join_o (y30 0).A (y30 1).A (y33 0).A (y33 1).A (y30 0).c (y30 1).c (y33 0).c (y33 1).c (fDiffMap a b) (fDiffMap b c) S1.out S2.out w (rds_row 7 rfl _ _ w hw) (rds_row 8 rfl _ _ w hw) (rds_row 4 rfl _ _ w hw) (rds_row 5 rfl _ _ w hw))) ?_; rintro y64 hy64; refine ok_m rfl rfl rfl (by exact ms_c2 rfl rfl rfl (fun _ _ w hw => i_app_e (y19 0).A (y64 0).A (y64 1).A (y19 0).c (y64 0).c (y64 1).c a (fJoinDelta (fDiffMap a b) (fDiffMap b c)).U (fJoinDelta (fDiffMap a b) (fDiffMap b c)).D c E2.out SA.out HJ2.out w (rds_row 14 rfl _ _ w hw) (rds_row 0 rfl _ _ w hw) (rds_row 1 rfl _ _ w hw))) ?_; rintro y65 hy65; refine ok_p rfl rfl rfl (by exact ps_move rfl rfl) ?_; refine ok_p rfl rfl rfl (by exact ps_extract rfl rfl rfl) ?_; refine ok_p rfl rfl rfl (by exact ps_extract rfl rfl rfl) ?_; refine ok_p rfl rfl rfl (by exact ps_assign rfl rfl) ?_; refine ok_p rfl rfl rfl (by exact ps_assign rfl rfl) ?_; refine ok_nil ?_; refine ok_env [(4, _), (6, _), (7, _), (9, _), (10, _), (11, _), (12, _)] ⟨rfl, rfl, rfl, rfl, rfl, rfl, rfl, trivial⟩ ?_)
    | (refine ok_region (i := 13) ?_; refine ok_p rfl rfl rfl (by exact ps_move rfl rfl) ?_; refine ok_p rfl rfl rfl (by exact ps_move rfl rfl) ?_; refine ok_p rfl rfl rfl (by exact ps_move rfl rfl) ?_; refine ok_m rfl rfl rfl (by exact ms_c2 rfl rfl rfl (fun _ _ w hw => i_diff_o (y19 1).A (y19 1).A (y19 1).c (y19 1).c b b w (rds_row 16 rfl _ _ w hw) (rds_row 16 rfl _ _ w hw) (by omega) (by omega))) ?_; rintro y72 hy72; refine ok_m rfl rfl rfl (by exact ms_c2 rfl rfl rfl (fun _ _ w hw => i_app_e (y19 1).A (y72 0).A (y72 1).A (y19 1).c (y72 0).c (y72 1).c b (fDiffMap b b).U (fDiffMap b b).D b E3.out SB.out S3.out w (rds_row 18 rfl _ _ w hw) (rds_row 0 rfl _ _ w hw) (rds_row 1 rfl _ _ w hw))) ?_; rintro y73 hy73; refine ok_p rfl rfl rfl (by exact ps_move rfl rfl) ?_; refine ok_p rfl rfl rfl (by exact ps_extract rfl rfl rfl) ?_; refine ok_p rfl rfl rfl (by exact ps_extract rfl rfl rfl) ?_; refine ok_p rfl rfl rfl (by exact ps_assign rfl rfl) ?_; refine ok_p rfl rfl rfl (by exact ps_assign rfl rfl) ?_; refine ok_nil ?_; refine ok_env [(4, _), (6, _), (7, _), (9, _), (10, _), (11, _), (12, _), (13, _), (14, _)] ⟨rfl, rfl, rfl, rfl, rfl, rfl, rfl, rfl, rfl, trivial⟩ ?_)
    | (refine ok_region (i := 14) ?_; refine ok_p rfl rfl rfl (by exact ps_move rfl rfl) ?_; refine ok_p rfl rfl rfl (by exact ps_move rfl rfl) ?_; refine ok_pg rfl rfl rfl rfl rfl (gT _) (fun hp => by (have hpd := hp; (try simp only [decide_eq_true_eq, decide_eq_false_iff_not, Bool.or_eq_true, Bool.or_eq_false_iff, Bool.and_eq_true, Bool.and_eq_false_iff, Bool.not_eq_true', Bool.not_eq_false', bne_iff_ne, beq_iff_eq, bne_eq_false_iff_eq, beq_eq_false_iff_ne, ne_eq, Bool.not_true, Bool.not_false, Bool.false_eq_true, Bool.true_eq_false, inB_true, inB_false] at hpd); exact ps_move rfl (by exact rfl))) ?_; refine ok_pg rfl rfl rfl rfl rfl (gT _) (fun hp => by (have hpd := hp; (try simp only [decide_eq_true_eq, decide_eq_false_iff_not, Bool.or_eq_true, Bool.or_eq_false_iff, Bool.and_eq_true, Bool.and_eq_false_iff, Bool.not_eq_true', Bool.not_eq_false', bne_iff_ne, beq_iff_eq, bne_eq_false_iff_eq, beq_eq_false_iff_ne, ne_eq, Bool.not_true, Bool.not_false, Bool.false_eq_true, Bool.true_eq_false, inB_true, inB_false] at hpd); exact ps_move rfl (by exact rfl))) ?_; refine ok_mg rfl rfl rfl rfl rfl (gT _) (fun hp => by (have hpd := hp; (try simp only [decide_eq_true_eq, decide_eq_false_iff_not, Bool.or_eq_true, Bool.or_eq_false_iff, Bool.and_eq_true, Bool.and_eq_false_iff, Bool.not_eq_true', Bool.not_eq_false', bne_iff_ne, beq_iff_eq, bne_eq_false_iff_eq, beq_eq_false_iff_ne, ne_eq, Bool.not_true, Bool.not_false, Bool.false_eq_true, Bool.true_eq_false, inB_true, inB_false] at hpd); exact ms_s2 rfl (by (refine og rfl ?_; assumption)) (by (refine og rfl ?_; assumption)) (fun _ _ w hw => sameMap_c (y57 0).A (y19 1).A (y57 0).c (y19 1).c b b rfl w (rds_row 6 rfl _ _ w hw) (rds_row 19 rfl _ _ w hw) (by omega)))) ?_; refine ok_p rfl rfl rfl (by exact ps_and rfl rfl rfl) ?_; refine ok_p rfl rfl rfl (by exact ps_move rfl rfl) ?_; refine ok_pg rfl rfl rfl rfl rfl (gT _) (fun hp => by (have hpd := hp; (try simp only [decide_eq_true_eq, decide_eq_false_iff_not, Bool.or_eq_true, Bool.or_eq_false_iff, Bool.and_eq_true, Bool.and_eq_false_iff, Bool.not_eq_true', Bool.not_eq_false', bne_iff_ne, beq_iff_eq, bne_eq_false_iff_eq, beq_eq_false_iff_ne, ne_eq, Bool.not_true, Bool.not_false, Bool.false_eq_true, Bool.true_eq_false, inB_true, inB_false] at hpd); exact ps_move rfl (by exact rfl))) ?_; refine ok_p rfl rfl rfl (by exact ps_and rfl rfl rfl) ?_; refine ok_p rfl rfl rfl (by exact ps_move rfl rfl) ?_; refine ok_pg rfl rfl rfl rfl rfl (gT _) (fun hp => by (have hpd := hp; (try simp only [decide_eq_true_eq, decide_eq_false_iff_not, Bool.or_eq_true, Bool.or_eq_false_iff, Bool.and_eq_true, Bool.and_eq_false_iff, Bool.not_eq_true', Bool.not_eq_false', bne_iff_ne, beq_iff_eq, bne_eq_false_iff_eq, beq_eq_false_iff_ne, ne_eq, Bool.not_true, Bool.not_false, Bool.false_eq_true, Bool.true_eq_false, inB_true, inB_false] at hpd); exact ps_move rfl (by exact rfl))) ?_; refine ok_pg rfl rfl rfl rfl rfl (gT _) (fun hp => by (have hpd := hp; (try simp only [decide_eq_true_eq, decide_eq_false_iff_not, Bool.or_eq_true, Bool.or_eq_false_iff, Bool.and_eq_true, Bool.and_eq_false_iff, Bool.not_eq_true', Bool.not_eq_false', bne_iff_ne, beq_iff_eq, bne_eq_false_iff_eq, beq_eq_false_iff_ne, ne_eq, Bool.not_true, Bool.not_false, Bool.false_eq_true, Bool.true_eq_false, inB_true, inB_false] at hpd); exact ps_move rfl (by exact rfl))) ?_; refine ok_mg rfl rfl rfl rfl rfl (gT _) (fun hp => by (have hpd := hp; (try simp only [decide_eq_true_eq, decide_eq_false_iff_not, Bool.or_eq_true, Bool.or_eq_false_iff, Bool.and_eq_true, Bool.and_eq_false_iff, Bool.not_eq_true', Bool.not_eq_false', bne_iff_ne, beq_iff_eq, bne_eq_false_iff_eq, beq_eq_false_iff_ne, ne_eq, Bool.not_true, Bool.not_false, Bool.false_eq_true, Bool.true_eq_false, inB_true, inB_false] at hpd); exact ms_s2 rfl (by (refine og rfl ?_; assumption)) (by (refine og rfl ?_; assumption)) (fun _ _ w hw => sameMap_c (y65 0).A (y25 1).A (y65 0).c (y25 1).c c c rfl w (rds_row 3 rfl _ _ w hw) (rds_row 16 rfl _ _ w hw) (by omega)))) ?_; refine ok_p rfl rfl rfl (by exact ps_and rfl rfl rfl) ?_; refine ok_p rfl rfl rfl (by exact ps_move rfl rfl) ?_; refine ok_pg rfl rfl rfl rfl rfl (gT _) (fun hp => by (have hpd := hp; (try simp only [decide_eq_true_eq, decide_eq_false_iff_not, Bool.or_eq_true, Bool.or_eq_false_iff, Bool.and_eq_true, Bool.and_eq_false_iff, Bool.not_eq_true', Bool.not_eq_false', bne_iff_ne, beq_iff_eq, bne_eq_false_iff_eq, beq_eq_false_iff_ne, ne_eq, Bool.not_true, Bool.not_false, Bool.false_eq_true, Bool.true_eq_false, inB_true, inB_false] at hpd); exact ps_move rfl (by exact rfl))) ?_; refine ok_p rfl rfl rfl (by exact ps_and rfl rfl rfl) ?_; refine ok_p rfl rfl rfl (by exact ps_move rfl rfl) ?_; refine ok_pg rfl rfl rfl rfl rfl (gT _) (fun hp => by (have hpd := hp; (try simp only [decide_eq_true_eq, decide_eq_false_iff_not, Bool.or_eq_true, Bool.or_eq_false_iff, Bool.and_eq_true, Bool.and_eq_false_iff, Bool.not_eq_true', Bool.not_eq_false', bne_iff_ne, beq_iff_eq, bne_eq_false_iff_eq, beq_eq_false_iff_ne, ne_eq, Bool.not_true, Bool.not_false, Bool.false_eq_true, Bool.true_eq_false, inB_true, inB_false] at hpd); exact ps_move rfl (by exact rfl))) ?_; refine ok_pg rfl rfl rfl rfl rfl (gT _) (fun hp => by (have hpd := hp; (try simp only [decide_eq_true_eq, decide_eq_false_iff_not, Bool.or_eq_true, Bool.or_eq_false_iff, Bool.and_eq_true, Bool.and_eq_false_iff, Bool.not_eq_true', Bool.not_eq_false', bne_iff_ne, beq_iff_eq, bne_eq_false_iff_eq, beq_eq_false_iff_ne, ne_eq, Bool.not_true, Bool.not_false, Bool.false_eq_true, Bool.true_eq_false, inB_true, inB_false] at hpd); exact ps_move rfl (by exact rfl))) ?_; refine ok_mg rfl rfl rfl rfl rfl (gT _) (fun hp => by (have hpd := hp; (try simp only [decide_eq_true_eq, decide_eq_false_iff_not, Bool.or_eq_true, Bool.or_eq_false_iff, Bool.and_eq_true, Bool.and_eq_false_iff, Bool.not_eq_true', Bool.not_eq_false', bne_iff_ne, beq_iff_eq, bne_eq_false_iff_eq, beq_eq_false_iff_ne, ne_eq, Bool.not_true, Bool.not_false, Bool.false_eq_true, Bool.true_eq_false, inB_true, inB_false] at hpd); exact ms_s2 rfl (by (refine og rfl ?_; assumption)) (by (refine og rfl ?_; assumption)) (fun _ _ w hw => sameMap_c (y73 0).A (y19 1).A (y73 0).c (y19 1).c b b rfl w (rds_row 0 rfl _ _ w hw) (rds_row 19 rfl _ _ w hw) (by omega)))) ?_; refine ok_p rfl rfl rfl (by exact ps_and rfl rfl rfl) ?_; refine ok_p rfl rfl rfl (by exact ps_move rfl rfl) ?_; refine ok_pg rfl rfl rfl rfl rfl (gT _) (fun hp => by (have hpd := hp; (try simp only [decide_eq_true_eq, decide_eq_false_iff_not, Bool.or_eq_true, Bool.or_eq_false_iff, Bool.and_eq_true, Bool.and_eq_false_iff, Bool.not_eq_true', Bool.not_eq_false', bne_iff_ne, beq_iff_eq, bne_eq_false_iff_eq, beq_eq_false_iff_ne, ne_eq, Bool.not_true, Bool.not_false, Bool.false_eq_true, Bool.true_eq_false, inB_true, inB_false] at hpd); exact ps_loads rfl (by exact rfl) (by exact rds_box 12 rfl) rfl rfl (by decide))) ?_; refine ok_mg rfl rfl rfl rfl rfl (gT _) (fun hp => by (have hpd := hp; (try simp only [decide_eq_true_eq, decide_eq_false_iff_not, Bool.or_eq_true, Bool.or_eq_false_iff, Bool.and_eq_true, Bool.and_eq_false_iff, Bool.not_eq_true', Bool.not_eq_false', bne_iff_ne, beq_iff_eq, bne_eq_false_iff_eq, beq_eq_false_iff_ne, ne_eq, Bool.not_true, Bool.not_false, Bool.false_eq_true, Bool.true_eq_false, inB_true, inB_false] at hpd); exact ms_s1 rfl (by (refine og rfl ?_; assumption)) (fun _ _ w hw => s_dok_e (y30 0).A (y30 1).A (y30 0).c (y30 1).c (fDiffMap a b).U (fDiffMap a b).D DK.out w (rds_row 13 rfl _ _ w hw) (rds_row 14 rfl _ _ w hw) (by omega) (by omega)))) ?_; refine ok_p rfl rfl rfl (by exact ps_and rfl rfl rfl) ?_; refine ok_p rfl rfl rfl (by exact ps_assign rfl rfl) ?_; refine ok_nil ?_; refine ok_env [(2, _)] ⟨rfl, trivial⟩ ?_))
  exact ok_endL (vs := [_]) rfl ⟨rfl, trivial⟩ (fun w' hw => ⟨rfl, hw.below⟩)
end Go.Proofs.Ytgeifmdcoiijgaa
/- The walk of FnBackup. -/
namespace Go.Proofs.Ytgeifmdcoiijgaa
open Go.RowKit
theorem FnBackup_walk (w : World) (v : Value) (x : gCode.den) (hx : RdT w gCode x [v]) :
    Calls Try.prog 19 #[v] w fun e w' => e = .returned (.bool true) ∧ Below w.heap.size w w' := by
  obtain ⟨A, c, l, rfl, h⟩ := code_open hx
  exact FnBackup_e A c l w h
end Go.Proofs.Ytgeifmdcoiijgaa
/- The head of a cut program, and the facts of a row that hang on it: each by itself, so that the kernel's memory stays small. -/
namespace Go.Proofs.Ytgeifmdcoiijgaa
open Go.RowKit
set_option maxRecDepth 100000
section
variable (P : Program) (rest : List (List Char)) (h : behindMainWord (wordsSigns P.initOrder.toList) = ['c', 'u', 't'] :: rest)
include h
theorem make_cut : P.make = some .cut := by
  unfold Program.make
  rw [h]
  simp
theorem lifts_cut : P.headLifts = [] := by
  unfold Program.headLifts
  rw [h]
  have : stripLifts liftWords (['c', 'u', 't'] :: rest) = ([], ['c', 'u', 't'] :: rest) := by
    simp [liftWords, stripLifts]
  rw [this]
  simp
theorem final_cut : P.liftsFinal = false := by
  unfold Program.liftsFinal
  rw [lifts_cut P rest h]
  simp [h]
theorem enter_cut (h1 : P.laysLater = false) (h2 : P.bearsReflect = false) (h3 : P.doorFits [] = true) : P.mayEnter = true := by
  unfold Program.mayEnter
  have : stripLifts liftWords (['c', 'u', 't'] :: rest) = ([], ['c', 'u', 't'] :: rest) := by
    simp [liftWords, stripLifts]
  rw [h]
  simp [this, h1, h2, h3]
end
def ioL : List Char := ['h', 'a', 'r', 'n', 'e', 's', 's', ' ', '6', '5', '7', 'b', '7', '1', 'a', '4', '1', '1', '4', '6', 'd', '6', 'f', 'a', '5', '5', '4', '4', 'c', 'b', 'e', 'a', '7', '6', 'c', 'e', 'b', 'e', 'f', 'a', 'd', 'c', '6', '5', '8', '5', 'a', '5', 'c', '8', '2', '6', '8', '6', 'a', '0', '1', '1', 'd', 'd', '0', '2', 'f', '0', 'b', 'f', '8', '5', 'a', 'b', '1', '6', ' ', 'c', 'u', 't', ' ', 'a', 't', ' ', 'l', 'o', 'o', 'p', '.', 'e', 'x', 'a', 'm', 'p', 'l', 'e', '/', 'g', '0', '0', '9', '5', '0', '/', 'l', 'a', 'w', 's', '.', 'F', 'n', 'E', 'x', 'a', 'c', 't', 'F', 's', 'N', 'e', 'w', ' ', 'l', 'o', 'o', 'p', '.', 'e', 'x', 'a', 'm', 'p', 'l', 'e', '/', 'g', '0', '0', '9', '5', '0', '/', 'l', 'a', 'w', 's', '.', 'F', 'n', 'E', 'x', 'a', 'c', 't', 'W', 'a', 'l', 'k', 'N', 'e', 'w', ' ', 'l', 'o', 'o', 'p', '.', 'e', 'x', 'a', 'm', 'p', 'l', 'e', '/', 'g', '0', '0', '9', '5', '0', '/', 'l', 'a', 'w', 's', '.', 'F', 'n', 'E', 'x', 'a', 'c', 't', 'F', 's', 'O', 'k', ' ', 'l', 'o', 'o', 'p', '.', 'e', 'x', 'a', 'm', 'p', 'l', 'e', '/', 'g', '0', '0', '9', '5', '0', '/', 'l', 'a', 'w', 's', '.', 'F', 'n', 'E', 'x', 'a', 'c', 't', 'F', 's', 'U', 's', 'e', 'd', ' ', 'l', 'o', 'o', 'p', '.', 'e', 'x', 'a', 'm', 'p', 'l', 'e', '/', 'g', '0', '0', '9', '5', '0', '/', 'l', 'a', 'w', 's', '.', 'F', 'n', 'F', 'S', 't', 'o', 'r', 'e', ' ', 'l', 'o', 'o', 'p', '.', 'e', 'x', 'a', 'm', 'p', 'l', 'e', '/', 'g', '0', '0', '9', '5', '0', '/', 'l', 'a', 'w', 's', '.', 'F', 'n', 'E', 'x', 'a', 'c', 't', 'F', 's', 'R', 'e', 'a', 'd', ' ', 'l', 'o', 'o', 'p', '.', 'e', 'x', 'a', 'm', 'p', 'l', 'e', '/', 'g', '0', '0', '9', '5', '0', '/', 'l', 'a', 'w', 's', '.', 'F', 'n', 'E', 'x', 'a', 'c', 't', 'F', 's', 'C', 'r', 'e', 'a', 't', 'e', ' ', 'l', 'o', 'o', 'p', '.', 'e', 'x', 'a', 'm', 'p', 'l', 'e', '/', 'g', '0', '0', '9', '5', '0', '/', 'l', 'a', 'w', 's', '.', 'F', 'n', 'F', 'i', 'l', 'e', 'd', ' ', 'l', 'o', 'o', 'p', '.', 'e', 'x', 'a', 'm', 'p', 'l', 'e', '/', 'g', '0', '0', '9', '5', '0', '/', 'l', 'a', 'w', 's', '.', 'F', 'n', 'C', 'h', 'a', 'i', 'n', 'L', 'o', 'g', ' ', 'l', 'o', 'o', 'p', '.', 'e', 'x', 'a', 'm', 'p', 'l', 'e', '/', 'g', '0', '0', '9', '5', '0', '/', 'l', 'a', 'w', 's', '.', 'F', 'n', 'E', 'x', 'a', 'c', 't', 'F', 's', 'S', 'e', 'a', 'l', ' ', 'l', 'o', 'o', 'p', '.', 'e', 'x', 'a', 'm', 'p', 'l', 'e', '/', 'g', '0', '0', '9', '5', '0', '/', 'l', 'a', 'w', 's', '.', 'F', 'n', 'E', 'x', 'a', 'c', 't', 'F', 's', 'D', 'r', 'o', 'p', ' ', 'l', 'o', 'o', 'p', '.', 'e', 'x', 'a', 'm', 'p', 'l', 'e', '/', 'g', '0', '0', '9', '5', '0', '/', 'l', 'a', 'w', 's', '.', 'F', 'n', 'E', 'x', 'a', 'c', 't', 'F', 's', 'A', 'p', 'p', 'e', 'n', 'd', ' ', 'l', 'o', 'o', 'p', '.', 'e', 'x', 'a', 'm', 'p', 'l', 'e', '/', 'g', '0', '0', '9', '5', '0', '/', 'l', 'a', 'w', 's', '.', 'F', 'n', 'W', 'a', 'l', 'k', ' ', 'l', 'o', 'o', 'p', '.', 'e', 'x', 'a', 'm', 'p', 'l', 'e', '/', 'g', '0', '0', '9', '5', '0', '/', 'l', 'a', 'w', 's', '.', 'F', 'n', 'E', 'x', 'a', 'c', 't', 'W', 'a', 'l', 'k', 'S', 'e', 'e', 'k', ' ', 'l', 'o', 'o', 'p', '.', 'e', 'x', 'a', 'm', 'p', 'l', 'e', '/', 'g', '0', '0', '9', '5', '0', '/', 'l', 'a', 'w', 's', '.', 'F', 'n', 'E', 'x', 'a', 'c', 't', 'W', 'a', 'l', 'k', 'P', 'r', 'e', 'v', ' ', 'l', 'o', 'o', 'p', '.', 'e', 'x', 'a', 'm', 'p', 'l', 'e', '/', 'g', '0', '0', '9', '5', '0', '/', 'l', 'a', 'w', 's', '.', 'F', 'n', 'E', 'x', 'a', 'c', 't', 'W', 'a', 'l', 'k', 'N', 'e', 'x', 't', ' ', 'l', 'o', 'o', 'p', '.', 'e', 'x', 'a', 'm', 'p', 'l', 'e', '/', 'g', '0', '0', '9', '5', '0', '/', 'l', 'a', 'w', 's', '.', 'F', 'n', 'B', 'a', 'c', 'k', 'u', 'p', ' ', 'l', 'o', 'o', 'p', '.', 'e', 'x', 'a', 'm', 'p', 'l', 'e', '/', 'g', '0', '0', '9', '5', '0', '/', 'l', 'a', 'w', 's', '.', 'F', 'n', 'D', 'e', 'l', 't', 'a']
theorem io : Try.prog.initOrder.toList = ioL := by
  show (String.ofList ioL).toList = ioL
  exact String.toList_ofList
def ioR : List (List Char) := [['a', 't'], ['l', 'o', 'o', 'p', '.', 'e', 'x', 'a', 'm', 'p', 'l', 'e', '/', 'g', '0', '0', '9', '5', '0', '/', 'l', 'a', 'w', 's', '.', 'F', 'n', 'E', 'x', 'a', 'c', 't', 'F', 's', 'N', 'e', 'w'], ['l', 'o', 'o', 'p', '.', 'e', 'x', 'a', 'm', 'p', 'l', 'e', '/', 'g', '0', '0', '9', '5', '0', '/', 'l', 'a', 'w', 's', '.', 'F', 'n', 'E', 'x', 'a', 'c', 't', 'W', 'a', 'l', 'k', 'N', 'e', 'w'], ['l', 'o', 'o', 'p', '.', 'e', 'x', 'a', 'm', 'p', 'l', 'e', '/', 'g', '0', '0', '9', '5', '0', '/', 'l', 'a', 'w', 's', '.', 'F', 'n', 'E', 'x', 'a', 'c', 't', 'F', 's', 'O', 'k'], ['l', 'o', 'o', 'p', '.', 'e', 'x', 'a', 'm', 'p', 'l', 'e', '/', 'g', '0', '0', '9', '5', '0', '/', 'l', 'a', 'w', 's', '.', 'F', 'n', 'E', 'x', 'a', 'c', 't', 'F', 's', 'U', 's', 'e', 'd'], ['l', 'o', 'o', 'p', '.', 'e', 'x', 'a', 'm', 'p', 'l', 'e', '/', 'g', '0', '0', '9', '5', '0', '/', 'l', 'a', 'w', 's', '.', 'F', 'n', 'F', 'S', 't', 'o', 'r', 'e'], ['l', 'o', 'o', 'p', '.', 'e', 'x', 'a', 'm', 'p', 'l', 'e', '/', 'g', '0', '0', '9', '5', '0', '/', 'l', 'a', 'w', 's', '.', 'F', 'n', 'E', 'x', 'a', 'c', 't', 'F', 's', 'R', 'e', 'a', 'd'], ['l', 'o', 'o', 'p', '.', 'e', 'x', 'a', 'm', 'p', 'l', 'e', '/', 'g', '0', '0', '9', '5', '0', '/', 'l', 'a', 'w', 's', '.', 'F', 'n', 'E', 'x', 'a', 'c', 't', 'F', 's', 'C', 'r', 'e', 'a', 't', 'e'], ['l', 'o', 'o', 'p', '.', 'e', 'x', 'a', 'm', 'p', 'l', 'e', '/', 'g', '0', '0', '9', '5', '0', '/', 'l', 'a', 'w', 's', '.', 'F', 'n', 'F', 'i', 'l', 'e', 'd'], ['l', 'o', 'o', 'p', '.', 'e', 'x', 'a', 'm', 'p', 'l', 'e', '/', 'g', '0', '0', '9', '5', '0', '/', 'l', 'a', 'w', 's', '.', 'F', 'n', 'C', 'h', 'a', 'i', 'n', 'L', 'o', 'g'], ['l', 'o', 'o', 'p', '.', 'e', 'x', 'a', 'm', 'p', 'l', 'e', '/', 'g', '0', '0', '9', '5', '0', '/', 'l', 'a', 'w', 's', '.', 'F', 'n', 'E', 'x', 'a', 'c', 't', 'F', 's', 'S', 'e', 'a', 'l'], ['l', 'o', 'o', 'p', '.', 'e', 'x', 'a', 'm', 'p', 'l', 'e', '/', 'g', '0', '0', '9', '5', '0', '/', 'l', 'a', 'w', 's', '.', 'F', 'n', 'E', 'x', 'a', 'c', 't', 'F', 's', 'D', 'r', 'o', 'p'], ['l', 'o', 'o', 'p', '.', 'e', 'x', 'a', 'm', 'p', 'l', 'e', '/', 'g', '0', '0', '9', '5', '0', '/', 'l', 'a', 'w', 's', '.', 'F', 'n', 'E', 'x', 'a', 'c', 't', 'F', 's', 'A', 'p', 'p', 'e', 'n', 'd'], ['l', 'o', 'o', 'p', '.', 'e', 'x', 'a', 'm', 'p', 'l', 'e', '/', 'g', '0', '0', '9', '5', '0', '/', 'l', 'a', 'w', 's', '.', 'F', 'n', 'W', 'a', 'l', 'k'], ['l', 'o', 'o', 'p', '.', 'e', 'x', 'a', 'm', 'p', 'l', 'e', '/', 'g', '0', '0', '9', '5', '0', '/', 'l', 'a', 'w', 's', '.', 'F', 'n', 'E', 'x', 'a', 'c', 't', 'W', 'a', 'l', 'k', 'S', 'e', 'e', 'k'], ['l', 'o', 'o', 'p', '.', 'e', 'x', 'a', 'm', 'p', 'l', 'e', '/', 'g', '0', '0', '9', '5', '0', '/', 'l', 'a', 'w', 's', '.', 'F', 'n', 'E', 'x', 'a', 'c', 't', 'W', 'a', 'l', 'k', 'P', 'r', 'e', 'v'], ['l', 'o', 'o', 'p', '.', 'e', 'x', 'a', 'm', 'p', 'l', 'e', '/', 'g', '0', '0', '9', '5', '0', '/', 'l', 'a', 'w', 's', '.', 'F', 'n', 'E', 'x', 'a', 'c', 't', 'W', 'a', 'l', 'k', 'N', 'e', 'x', 't'], ['l', 'o', 'o', 'p', '.', 'e', 'x', 'a', 'm', 'p', 'l', 'e', '/', 'g', '0', '0', '9', '5', '0', '/', 'l', 'a', 'w', 's', '.', 'F', 'n', 'B', 'a', 'c', 'k', 'u', 'p'], ['l', 'o', 'o', 'p', '.', 'e', 'x', 'a', 'm', 'p', 'l', 'e', '/', 'g', '0', '0', '9', '5', '0', '/', 'l', 'a', 'w', 's', '.', 'F', 'n', 'D', 'e', 'l', 't', 'a']]
theorem words : behindMainWord (wordsSigns Try.prog.initOrder.toList) = ['c', 'u', 't'] :: ioR := by
  rw [io]; kernel_rfl
theorem jLater : Try.prog.laysLater = false := by kernel_rfl
theorem jRefl : Try.prog.bearsReflect = false := by kernel_rfl
theorem jDoor : Try.prog.doorFits [] = true := by kernel_rfl
theorem jEnter : Try.prog.mayEnter = true := enter_cut _ _ words jLater jRefl jDoor
theorem jFinal : Try.prog.liftsFinal = false := final_cut _ _ words
theorem jMake : Try.prog.make = some .cut := make_cut _ _ words
end Go.Proofs.Ytgeifmdcoiijgaa
