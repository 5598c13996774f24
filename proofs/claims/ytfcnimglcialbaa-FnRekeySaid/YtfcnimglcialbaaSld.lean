/- Slots of both programs: reading and putting. -/
import Derived.Test.YtfcnimglcialbaaSldP
import Derived.Test.YtfcnimglcialbaaBtSlot
namespace Go.Proofs.Ytfcnimglcialbaa
open Go.RowKit
set_option maxHeartbeats 4000000
set_option maxRecDepth 20000
set_option linter.unusedVariables false
set_option linter.unusedSimpArgs false
theorem rdB_size (s : ByteArray) (n k : Nat) (b : Bool) : (rdB s n k b).1.size ≤ s.size := by
  unfold rdB
  split
  · exact Nat.zero_le _
  · simp only [ByteArray.size_extract]; omega
theorem rdS_size (s : ByteArray) (k : Nat) (b : Bool) : (rdS s k b).1.size ≤ s.size := rdB_size _ _ _ _
theorem tkS_size {s r : ByteArray} {k e : Nat} (h : tkS s k = some (r, e)) : r.size ≤ s.size := by
  unfold tkS at h
  cases hn : tkN s k with
  | none => rw [hn] at h; cases h
  | some p =>
    rw [hn] at h
    simp only [Option.bind_some] at h
    split at h
    · cases h; rw [ByteArray.size_extract]; omega
    · cases h
theorem tkW_size {s : ByteArray} {z : Int} : (tkT (tkW s z)).size ≤ s.size := by
  unfold tkW
  split
  · cases h : tkS s z.toNat with
    | none => exact Nat.zero_le _
    | some p => obtain ⟨r, e⟩ := p; exact tkS_size h
  · exact Nat.zero_le _
def fSl (s : ByteArray) : DSlot := match one s with
  | none => ⟨0, ⟨#[]⟩⟩
  | some p => ⟨p.1, p.2⟩
def slV (x : DSlot) : Value := .agg #[.int .i64 x.seq, .string x.root]
theorem one_pos {s : ByteArray} {n : Nat} {r : ByteArray} (h : one s = some (n, r)) : 1 ≤ n ∧ n ≤ 1000000 ∧ r.size ≤ 40 := by
  obtain ⟨⟨h4, _⟩, _, hs, rfl, rfl⟩ := (one_iff s n r).1 h
  unfold showS at hs
  split at hs
  · rename_i hc
    have := hc.1
    unfold inR at this
    simp at this
    exact ⟨by omega, by omega, hc.2⟩
  · subst hs; exact absurd h4 (by decide)
theorem fSl_seq (s : ByteArray) : 0 ≤ (fSl s).seq ∧ (fSl s).seq ≤ 1000000 ∧ (fSl s).root.size ≤ 40 ∧ ((one s).isSome = true ↔ 0 < (fSl s).seq) := by
  unfold fSl
  cases h : one s with
  | none => exact ⟨by simp, by simp, Nat.zero_le _, by simp⟩
  | some p =>
    obtain ⟨n, r⟩ := p
    have := one_pos h
    simp; omega
attribute [local irreducible] Calls
theorem iCrc_b (s : ByteArray) (hs : s.size ≤ maxLen) (w : World) :
    Calls Try.prog 152 #[.string s] w fun e w' => e = .returned (.int .i64 (crcF s)) ∧ Below w.heap.size w w' :=
  (iCrc_any s hs w).mono fun e w' ⟨a, b⟩ => ⟨a, by subst b; exact Below.refl _ _⟩
theorem unF_c (s : ByteArray) (hs : s.size ≤ 1048576) (w : World) :
    Calls Try.prog 249 #[.string s] w fun e w' => e = .returned (.tuple #[.string (unF s).1, .bool (unF s).2]) ∧ Below w.heap.size w w' := by
  have hz := tl4_size s
  refine ok_enter 18 Try.func249 rfl rfl rfl ?_
  repeat' (first
    | refine ok_seq ?_
    | refine ok_then ?_
    | refine ok_then_ret ?_
    | (refine ok_cond rfl (fun hc => ?_) (fun hc => ?_) <;> (have hd := hc; (try simp only [decide_eq_true_eq, decide_eq_false_iff_not, Bool.or_eq_true, Bool.or_eq_false_iff, Bool.and_eq_true, Bool.and_eq_false_iff, Bool.not_eq_true', Bool.not_eq_false', bne_iff_ne, beq_iff_eq, bne_eq_false_iff_eq, beq_eq_false_iff_ne, ne_eq, Bool.not_true, Bool.not_false, Bool.false_eq_true, Bool.true_eq_false, inB_true, inB_false] at hd)))
    | refine ok_ret ?_
    | refine ok_skip ?_
    | (refine ok_region (i := 0) ?_; refine ok_p rfl rfl rfl (by exact ps_assign rfl rfl) ?_; refine ok_p rfl rfl rfl (by exact ps_assign rfl rfl) ?_; refine ok_nil ?_; refine ok_env [(0, _)] ⟨rfl, trivial⟩ ?_)
    | (refine ok_draw (id := 1) 12 rfl (by kernel_rfl) (by kernel_rfl) rfl (by repeat (first | exact pq_body | refine pq_then ?_ | refine pq_in ?_)) [0, 1, 2, 3, 4, 5, 6, 7, 8, 9, 10, 11, 12, 13, 14, 15, 16, 17, 18, 19, 20, 21, 22, 23] (by decide) rfl ?_; refine okT_take (i := 0) rfl (by kernel_rfl) rfl rfl rfl (by exact ps_move rfl rfl) ?_; refine okT_take (i := 1) rfl (by kernel_rfl) rfl rfl rfl (by exact ps_slen rfl rfl) ?_; refine okT_take (i := 2) rfl (by kernel_rfl) rfl rfl rfl (by exact ps_int rfl rfl rfl rfl) ?_; refine okT_take (i := 3) rfl (by kernel_rfl) rfl rfl rfl (by exact ps_move rfl rfl) ?_; refine okT_take_g1 (i := 4) rfl (by kernel_rfl) rfl rfl rfl rfl rfl (gF _) (fun hp => by (have hpd := hp; (try simp only [decide_eq_true_eq, decide_eq_false_iff_not, Bool.or_eq_true, Bool.or_eq_false_iff, Bool.and_eq_true, Bool.and_eq_false_iff, Bool.not_eq_true', Bool.not_eq_false', bne_iff_ne, beq_iff_eq, bne_eq_false_iff_eq, beq_eq_false_iff_ne, ne_eq, Bool.not_true, Bool.not_false, Bool.false_eq_true, Bool.true_eq_false, inB_true, inB_false] at hpd); exact ps_move rfl (by exact rfl))) ?_; refine okT_take_g1 (i := 5) rfl (by kernel_rfl) rfl rfl rfl rfl rfl (gF _) (fun hp => by (have hpd := hp; (try simp only [decide_eq_true_eq, decide_eq_false_iff_not, Bool.or_eq_true, Bool.or_eq_false_iff, Bool.and_eq_true, Bool.and_eq_false_iff, Bool.not_eq_true', Bool.not_eq_false', bne_iff_ne, beq_iff_eq, bne_eq_false_iff_eq, beq_eq_false_iff_ne, ne_eq, Bool.not_true, Bool.not_false, Bool.false_eq_true, Bool.true_eq_false, inB_true, inB_false] at hpd); exact ps_sslE 4 s.size rfl (by (refine og rfl ?_; assumption)) ⟨_, _, rfl, rfl⟩ rfl (by omega) (by omega))) ?_; refine okT_take_g1 (i := 8) rfl (by kernel_rfl) rfl rfl rfl rfl rfl (gF _) (fun hp => by (have hpd := hp; (try simp only [decide_eq_true_eq, decide_eq_false_iff_not, Bool.or_eq_true, Bool.or_eq_false_iff, Bool.and_eq_true, Bool.and_eq_false_iff, Bool.not_eq_true', Bool.not_eq_false', bne_iff_ne, beq_iff_eq, bne_eq_false_iff_eq, beq_eq_false_iff_ne, ne_eq, Bool.not_true, Bool.not_false, Bool.false_eq_true, Bool.true_eq_false, inB_true, inB_false] at hpd); exact ps_move rfl (by exact rfl))) ?_; refine okT_take_g1 (i := 9) rfl (by kernel_rfl) rfl rfl rfl rfl rfl (gF _) (fun hp => by (have hpd := hp; (try simp only [decide_eq_true_eq, decide_eq_false_iff_not, Bool.or_eq_true, Bool.or_eq_false_iff, Bool.and_eq_true, Bool.and_eq_false_iff, Bool.not_eq_true', Bool.not_eq_false', bne_iff_ne, beq_iff_eq, bne_eq_false_iff_eq, beq_eq_false_iff_ne, ne_eq, Bool.not_true, Bool.not_false, Bool.false_eq_true, Bool.true_eq_false, inB_true, inB_false] at hpd); exact ps_sslE 0 4 rfl (by (refine og rfl ?_; assumption)) rfl ⟨_, _, rfl, rfl⟩ (by omega) (by omega))) ?_; refine okT_one_g1 (i := 6) rfl rfl (by kernel_rfl) rfl rfl rfl rfl rfl (gF _) (fun hp => by (have hpd := hp; (try simp only [decide_eq_true_eq, decide_eq_false_iff_not, Bool.or_eq_true, Bool.or_eq_false_iff, Bool.and_eq_true, Bool.and_eq_false_iff, Bool.not_eq_true', Bool.not_eq_false', bne_iff_ne, beq_iff_eq, bne_eq_false_iff_eq, beq_eq_false_iff_ne, ne_eq, Bool.not_true, Bool.not_false, Bool.false_eq_true, Bool.true_eq_false, inB_true, inB_false] at hpd); exact ms_s1 rfl (by (refine og rfl ?_; assumption)) (fun _ _ w hw => iCrc_b (tl4 s) (by unfold maxLen; omega) w))) (fun w h => by exact h) ?_; refine okT_one_g1 (i := 7) rfl rfl (by kernel_rfl) rfl rfl rfl rfl rfl (gF _) (fun hp => by (have hpd := hp; (try simp only [decide_eq_true_eq, decide_eq_false_iff_not, Bool.or_eq_true, Bool.or_eq_false_iff, Bool.and_eq_true, Bool.and_eq_false_iff, Bool.not_eq_true', Bool.not_eq_false', bne_iff_ne, beq_iff_eq, bne_eq_false_iff_eq, beq_eq_false_iff_ne, ne_eq, Bool.not_true, Bool.not_false, Bool.false_eq_true, Bool.true_eq_false, inB_true, inB_false] at hpd); exact ms_s2 rfl (by (refine og rfl ?_; assumption)) rfl (fun _ _ w hw => iFix_v _ (crcF_lt _) w))) (fun w h => by exact h) ?_; refine okT_take_g1 (i := 10) rfl (by kernel_rfl) rfl rfl rfl rfl rfl (gF _) (fun hp => by (have hpd := hp; (try simp only [decide_eq_true_eq, decide_eq_false_iff_not, Bool.or_eq_true, Bool.or_eq_false_iff, Bool.and_eq_true, Bool.and_eq_false_iff, Bool.not_eq_true', Bool.not_eq_false', bne_iff_ne, beq_iff_eq, bne_eq_false_iff_eq, beq_eq_false_iff_ne, ne_eq, Bool.not_true, Bool.not_false, Bool.false_eq_true, Bool.true_eq_false, inB_true, inB_false] at hpd); exact ps_str rfl (by (refine og rfl ?_; assumption)) (by (refine og rfl ?_; assumption)) rfl)) ?_; refine okT_take (i := 11) rfl (by kernel_rfl) rfl rfl rfl (by exact ps_or rfl rfl rfl) ?_; refine okT_done (by kernel_rfl) ?_; refine ok_nil ?_; refine ok_env [(0, _), (15, _)] ⟨rfl, rfl, trivial⟩ ?_)
    | (refine ok_region (i := 2) ?_; refine ok_p rfl rfl rfl (by exact ps_assign rfl rfl) ?_; refine ok_p rfl rfl rfl (by exact ps_assign rfl rfl) ?_; refine ok_nil ?_; refine ok_env [(2, _), (3, _)] ⟨rfl, rfl, trivial⟩ ?_)
    | (refine ok_region (i := 3) ?_; refine ok_p rfl rfl rfl (by exact ps_move rfl rfl) ?_; refine ok_p rfl rfl rfl (by exact ps_sslE 4 s.size rfl rfl ⟨_, _, rfl, rfl⟩ rfl (by omega) (by omega)) ?_; refine ok_p rfl rfl rfl (by exact ps_assign rfl rfl) ?_; refine ok_p rfl rfl rfl (by exact ps_assign rfl rfl) ?_; refine ok_nil ?_; refine ok_env [(2, _), (3, _)] ⟨rfl, rfl, trivial⟩ ?_))
  · have e : unF s = (⟨#[]⟩, false) := by
      unfold unF
      rw [if_neg]
      rintro ⟨h1, h2⟩
      rcases hd with h | h
      · omega
      · exact sEq_f h h2
    rw [e]
    exact ok_endL (vs := [_, _]) rfl ⟨rfl, rfl, trivial⟩ (fun w' hw => ⟨rfl, hw.below⟩)
  · have e : unF s = (tl4 s, true) := by
      unfold unF
      rw [if_pos ⟨by omega, sEq_t hd.2⟩]
    rw [e]
    exact ok_endL (vs := [_, _]) rfl ⟨rfl, rfl, trivial⟩ (fun w' hw => ⟨rfl, hw.below⟩)
theorem readSlot_c (s : ByteArray) (hs : s.size ≤ 1048576) (w : World) :
    Calls Try.prog 216 #[.string s] w fun e w' => e = .returned (.tuple #[slV (fSl s), .bool (one s).isSome]) ∧ Below w.heap.size w w' := by
  have hz := tl4_size s
  have l1 := rdN_le (tl4 s) 0 false (by omega)
  have l2 := rdS_size (tl4 s) (rN s).2.1 (rN s).2.2
  have l3 : (rS s).1.size ≤ 1048576 := by
    have : (rS s).1.size ≤ (tl4 s).size := l2
    omega
  by_cases hu : 4 ≤ s.size ∧ fS (crcF (tl4 s)) = s.extract 0 4
  · have eu : unF s = (tl4 s, true) := by unfold unF; rw [if_pos hu]
    refine ok_enter 32 Try.func216 rfl rfl rfl ?_
    repeat' (first
      | refine ok_seq ?_
      | refine ok_then ?_
      | refine ok_then_ret ?_
      | (refine ok_cond rfl (fun hc => ?_) (fun hc => ?_) <;> (have hd := hc; (try simp only [decide_eq_true_eq, decide_eq_false_iff_not, Bool.or_eq_true, Bool.or_eq_false_iff, Bool.and_eq_true, Bool.and_eq_false_iff, Bool.not_eq_true', Bool.not_eq_false', bne_iff_ne, beq_iff_eq, bne_eq_false_iff_eq, beq_eq_false_iff_ne, ne_eq, Bool.not_true, Bool.not_false, Bool.false_eq_true, Bool.true_eq_false, inB_true, inB_false] at hd)))
      | refine ok_ret ?_
      | refine ok_skip ?_
      | (refine ok_region (i := 0) ?_; refine ok_m rfl rfl rfl (by exact ms_alloc rfl) ?_; rintro y2 hy2; refine ok_p rfl rfl rfl (by exact ps_assign rfl rfl) ?_; refine ok_nil ?_; refine ok_env [(0, _), (2, _)] ⟨rfl, rfl, trivial⟩ ?_)
      | (refine ok_region (i := 1) ?_; refine ok_p rfl rfl rfl (by exact ps_move rfl rfl) ?_; refine ok_m rfl rfl rfl (by exact ms_s1 rfl rfl (fun _ _ w hw => by have := unF_c s hs w; rw [eu] at this; exact this)) ?_; rintro y10 hy10; refine ok_p rfl rfl rfl (by exact ps_move rfl rfl) ?_; refine ok_p rfl rfl rfl (by exact ps_extract rfl rfl rfl) ?_; refine ok_p rfl rfl rfl (by exact ps_extract rfl rfl rfl) ?_; refine ok_p rfl rfl rfl (by exact ps_assign rfl rfl) ?_; refine ok_p rfl rfl rfl (by exact ps_assign rfl rfl) ?_; refine ok_nil ?_; refine ok_env [(0, _), (2, _), (4, _), (5, _)] ⟨rfl, rfl, rfl, rfl, trivial⟩ ?_)
      | (refine ok_region (i := 2) ?_; refine ok_p rfl rfl rfl (by exact ps_move rfl rfl) ?_; refine ok_p rfl rfl rfl (by exact ps_not rfl rfl) ?_; refine ok_nil ?_; refine ok_env [(0, _), (2, _), (4, _), (14, _)] ⟨rfl, rfl, rfl, rfl, trivial⟩ ?_)
      | (refine ok_region (i := 4) ?_; refine ok_p rfl rfl rfl (by exact ps_move rfl rfl) ?_; refine ok_p rfl rfl rfl (by exact ps_bld rfl (parts_cons rfl parts_nil) rfl) ?_; refine ok_m rfl rfl rfl (by exact ms_alloc rfl) ?_; rintro y6 hy6; refine ok_m_ rfl rfl (by exact ms_store 0 rfl rfl rfl rfl rfl rfl rfl rfl) ?_; rintro y_ hy_; refine ok_nil ?_; refine ok_env [(0, _), (2, _), (6, _)] ⟨rfl, rfl, rfl, trivial⟩ ?_)
      | (refine ok_region (i := 5) ?_; refine ok_m rfl rfl rfl (by exact ms_w1 (fun _ _ _ h => h) rfl rfl (fun _ _ w hw => rdN_c _ (tl4 s) 0 false (by omega) (by omega) hw)) ?_; rintro y18 hy18; refine ok_p rfl rfl rfl (by exact ps_bld rfl (parts_cons rfl parts_nil) rfl) ?_; refine ok_m rfl rfl rfl (by exact ms_alloc rfl) ?_; rintro y7 hy7; refine ok_m_ rfl rfl (by exact ms_store 0 rfl rfl rfl rfl rfl rfl rfl rfl) ?_; rintro y_ hy_; refine ok_nil ?_; refine ok_env [(0, _), (2, _), (6, _), (7, _)] ⟨rfl, rfl, rfl, rfl, trivial⟩ ?_)
      | (refine ok_region (i := 6) ?_; refine ok_m rfl rfl rfl (by exact ms_w1 (fun _ _ _ h => h.front 1 rfl) rfl rfl (fun _ _ w hw => rdS_c _ (tl4 s) _ _ (by omega) l1.1 hw)) ?_; rintro y20 hy20; refine ok_p rfl rfl rfl (by exact ps_field rfl rfl (by exact isw_ga _)) ?_; refine ok_m_ rfl rfl (by exact ms_store 1 rfl rfl rfl rfl rfl rfl rfl rfl) ?_; rintro y_ hy_; refine ok_nil ?_; refine ok_env [(0, _), (2, _), (6, _), (7, _)] ⟨rfl, rfl, rfl, rfl, trivial⟩ ?_)
      | (refine ok_region (i := 7) ?_; refine ok_m rfl rfl rfl (by exact ms_w1 (fun _ _ _ h => h) rfl rfl (fun _ _ w hw => rdD_c _ (tl4 s) _ _ hw)) ?_; rintro y22 hy22; refine ok_p rfl rfl rfl (by exact ps_not rfl rfl) ?_; refine ok_p rfl rfl rfl (by exact ps_move rfl rfl) ?_; refine ok_pg rfl rfl rfl rfl rfl (gF _) (fun hp => by (have hpd := hp; (try simp only [decide_eq_true_eq, decide_eq_false_iff_not, Bool.or_eq_true, Bool.or_eq_false_iff, Bool.and_eq_true, Bool.and_eq_false_iff, Bool.not_eq_true', Bool.not_eq_false', bne_iff_ne, beq_iff_eq, bne_eq_false_iff_eq, beq_eq_false_iff_ne, ne_eq, Bool.not_true, Bool.not_false, Bool.false_eq_true, Bool.true_eq_false, inB_true, inB_false] at hpd); exact ps_loads rfl (by exact rfl) (by exact rds_box 1 rfl) rfl rfl (by decide))) ?_; refine ok_mg rfl rfl rfl rfl rfl (gF _) (fun hp => by (have hpd := hp; (try simp only [decide_eq_true_eq, decide_eq_false_iff_not, Bool.or_eq_true, Bool.or_eq_false_iff, Bool.and_eq_true, Bool.and_eq_false_iff, Bool.not_eq_true', Bool.not_eq_false', bne_iff_ne, beq_iff_eq, bne_eq_false_iff_eq, beq_eq_false_iff_ne, ne_eq, Bool.not_true, Bool.not_false, Bool.false_eq_true, Bool.true_eq_false, inB_true, inB_false] at hpd); exact ms_s1 rfl (by (refine og rfl ?_; assumption)) (fun _ _ w hw => iShowSlot_any (rN s).1 (rS s).1 w l3))) ?_; refine ok_pg rfl rfl rfl rfl rfl (gF _) (fun hp => by (have hpd := hp; (try simp only [decide_eq_true_eq, decide_eq_false_iff_not, Bool.or_eq_true, Bool.or_eq_false_iff, Bool.and_eq_true, Bool.and_eq_false_iff, Bool.not_eq_true', Bool.not_eq_false', bne_iff_ne, beq_iff_eq, bne_eq_false_iff_eq, beq_eq_false_iff_ne, ne_eq, Bool.not_true, Bool.not_false, Bool.false_eq_true, Bool.true_eq_false, inB_true, inB_false] at hpd); exact ps_move rfl (by exact rfl))) ?_; refine ok_pg rfl rfl rfl rfl rfl (gF _) (fun hp => by (have hpd := hp; (try simp only [decide_eq_true_eq, decide_eq_false_iff_not, Bool.or_eq_true, Bool.or_eq_false_iff, Bool.and_eq_true, Bool.and_eq_false_iff, Bool.not_eq_true', Bool.not_eq_false', bne_iff_ne, beq_iff_eq, bne_eq_false_iff_eq, beq_eq_false_iff_ne, ne_eq, Bool.not_true, Bool.not_false, Bool.false_eq_true, Bool.true_eq_false, inB_true, inB_false] at hpd); exact ps_str rfl (by (refine og rfl ?_; assumption)) (by (refine og rfl ?_; assumption)) rfl)) ?_; refine ok_p rfl rfl rfl (by exact ps_or rfl rfl rfl) ?_; refine ok_nil ?_; refine ok_env [(2, _), (7, _), (29, _)] ⟨rfl, rfl, rfl, trivial⟩ ?_)
      | (refine ok_region (i := 8) ?_; refine ok_p rfl rfl rfl (by exact ps_bld rfl parts_nil rfl) ?_; refine ok_m_ rfl rfl (by exact ms_store 2 rfl rfl rfl rfl rfl rfl rfl rfl) ?_; rintro y_ hy_; refine ok_p rfl rfl rfl (by exact ps_assign rfl rfl) ?_; refine ok_nil ?_; refine ok_env [(2, _), (3, _)] ⟨rfl, rfl, trivial⟩ ?_)
      | (refine ok_region (i := 9) ?_; refine ok_p rfl rfl rfl (by exact ps_loads rfl rfl (by exact rds_box 1 rfl) rfl rfl (by decide)) ?_; refine ok_m_ rfl rfl (by exact ms_store 2 rfl rfl rfl rfl rfl rfl rfl rfl) ?_; rintro y_ hy_; refine ok_p rfl rfl rfl (by exact ps_assign rfl rfl) ?_; refine ok_nil ?_; refine ok_env [(2, _), (3, _)] ⟨rfl, rfl, trivial⟩ ?_))
    · have e : one s = none := by
        cases h : one s with
        | none => rfl
        | some p =>
          obtain ⟨n, r⟩ := p
          obtain ⟨_, h1, h2, _, _⟩ := (one_iff s n r).1 h
          rcases hd with h3 | h3
          · exact absurd (h1.symm.trans h3) (by simp)
          · exact absurd h2 (sEq_f h3)
      have e2 : fSl s = ⟨0, ⟨#[]⟩⟩ := by unfold fSl; rw [e]
      rw [e2, e]
      exact ok_endL (vs := [_, _]) rfl ⟨⟨_, 2, _, _, _, rfl, rfl, inferInstance, rfl, rfl⟩, rfl, trivial⟩ (fun w' hw => ⟨rfl, hw.below⟩)
    · have e : one s = some ((rN s).1, (rS s).1) := (one_iff s _ _).2 ⟨hu, hd.1, sEq_t hd.2, rfl, rfl⟩
      have e2 : fSl s = ⟨(rN s).1, (rS s).1⟩ := by unfold fSl; rw [e]
      rw [e2, e]
      exact ok_endL (vs := [_, _]) rfl ⟨⟨_, 2, _, _, _, rfl, rfl, inferInstance, rfl, rfl⟩, rfl, trivial⟩ (fun w' hw => ⟨rfl, hw.below⟩)
  · have eu : unF s = (⟨#[]⟩, false) := by unfold unF; rw [if_neg hu]
    have e : one s = none := by
      cases h : one s with
      | none => rfl
      | some p => obtain ⟨n, r⟩ := p; exact absurd ((one_iff s n r).1 h).1 hu
    have e2 : fSl s = ⟨0, ⟨#[]⟩⟩ := by unfold fSl; rw [e]
    rw [e2, e]
    refine ok_enter 32 Try.func216 rfl rfl rfl ?_
    repeat' (first
      | refine ok_seq ?_
      | refine ok_then ?_
      | refine ok_then_ret ?_
      | (refine ok_cond rfl (fun hc => ?_) (fun hc => ?_) <;> (have hd := hc; (try simp only [decide_eq_true_eq, decide_eq_false_iff_not, Bool.or_eq_true, Bool.or_eq_false_iff, Bool.and_eq_true, Bool.and_eq_false_iff, Bool.not_eq_true', Bool.not_eq_false', bne_iff_ne, beq_iff_eq, bne_eq_false_iff_eq, beq_eq_false_iff_ne, ne_eq, Bool.not_true, Bool.not_false, Bool.false_eq_true, Bool.true_eq_false, inB_true, inB_false] at hd)))
      | refine ok_ret ?_
      | (refine ok_region (i := 0) ?_; refine ok_m rfl rfl rfl (by exact ms_alloc rfl) ?_; rintro y2 hy2; refine ok_p rfl rfl rfl (by exact ps_assign rfl rfl) ?_; refine ok_nil ?_; refine ok_env [(0, _), (2, _)] ⟨rfl, rfl, trivial⟩ ?_)
      | (refine ok_region (i := 1) ?_; refine ok_p rfl rfl rfl (by exact ps_move rfl rfl) ?_; refine ok_m rfl rfl rfl (by exact ms_s1 rfl rfl (fun _ _ w hw => by have := unF_c s hs w; rw [eu] at this; exact this)) ?_; rintro y10 hy10; refine ok_p rfl rfl rfl (by exact ps_move rfl rfl) ?_; refine ok_p rfl rfl rfl (by exact ps_extract rfl rfl rfl) ?_; refine ok_p rfl rfl rfl (by exact ps_extract rfl rfl rfl) ?_; refine ok_p rfl rfl rfl (by exact ps_assign rfl rfl) ?_; refine ok_p rfl rfl rfl (by exact ps_assign rfl rfl) ?_; refine ok_nil ?_; refine ok_env [(0, _), (2, _), (4, _), (5, _)] ⟨rfl, rfl, rfl, rfl, trivial⟩ ?_)
      | (refine ok_region (i := 2) ?_; refine ok_p rfl rfl rfl (by exact ps_move rfl rfl) ?_; refine ok_p rfl rfl rfl (by exact ps_not rfl rfl) ?_; refine ok_nil ?_; refine ok_env [(0, _), (2, _), (4, _), (14, _)] ⟨rfl, rfl, rfl, rfl, trivial⟩ ?_)
      | (refine ok_region (i := 3) ?_; refine ok_p rfl rfl rfl (by exact ps_bld rfl parts_nil rfl) ?_; refine ok_m_ rfl rfl (by exact ms_store 0 rfl rfl rfl rfl rfl rfl rfl rfl) ?_; rintro y_ hy_; refine ok_p rfl rfl rfl (by exact ps_assign rfl rfl) ?_; refine ok_nil ?_; refine ok_env [(2, _), (3, _)] ⟨rfl, rfl, trivial⟩ ?_))
    exact ok_endL (vs := [_, _]) rfl ⟨⟨_, 0, _, _, _, rfl, rfl, inferInstance, rfl, rfl⟩, rfl, trivial⟩ (fun w' hw => ⟨rfl, hw.below⟩)
theorem one_c (s : ByteArray) (hs : s.size ≤ 1048576) (w : World) :
    Calls Try.prog 144 #[.string s] w fun e w' => e = .returned (slV (fSl s)) ∧ Below w.heap.size w w' := by
  have lw : (tkT (tkW s (tkE (tkV s 4)))).size ≤ 1048576 := by have := tkW_size (s := s) (z := tkE (tkV s 4)); omega
  cases hv : tkV s 4 with
  | none =>
    have e2 : fSl s = ⟨0, ⟨#[]⟩⟩ := by unfold fSl one one0; rw [hv]; rfl
    rw [e2]
    refine ok_enter 32 Try.func144 rfl rfl rfl ?_
    repeat' (first
      | refine ok_seq ?_
      | refine ok_then ?_
      | refine ok_then_ret ?_
      | (refine ok_cond rfl (fun hc => ?_) (fun hc => ?_) <;> (have hd := hc; (try simp only [decide_eq_true_eq, decide_eq_false_iff_not, Bool.or_eq_true, Bool.or_eq_false_iff, Bool.and_eq_true, Bool.and_eq_false_iff, Bool.not_eq_true', Bool.not_eq_false', bne_iff_ne, beq_iff_eq, bne_eq_false_iff_eq, beq_eq_false_iff_ne, ne_eq, Bool.not_true, Bool.not_false, Bool.false_eq_true, Bool.true_eq_false, inB_true, inB_false] at hd)))
      | refine ok_ret ?_
      | refine ok_skip ?_
      | (refine ok_region (i := 0) ?_; refine ok_m rfl rfl rfl (by exact ms_alloc rfl) ?_; rintro y2 hy2; refine ok_nil ?_; refine ok_env [(0, _), (2, _)] ⟨rfl, rfl, trivial⟩ ?_)
      | (refine ok_region (i := 1) ?_; refine ok_p rfl rfl rfl (by exact ps_move rfl rfl) ?_; refine ok_m rfl rfl rfl (by exact ms_c3 rfl rfl rfl rfl (fun _ _ w hw => s_l6Vars_no s 4 (by omega) (by omega) hv w)) ?_; rintro y9 hy9; refine ok_p rfl rfl rfl (by exact ps_move rfl rfl) ?_; refine ok_p rfl rfl rfl (by exact ps_extract rfl rfl rfl) ?_; refine ok_p rfl rfl rfl (by exact ps_extract rfl rfl rfl) ?_; refine ok_p rfl rfl rfl (by exact ps_assign rfl rfl) ?_; refine ok_p rfl rfl rfl (by exact ps_assign rfl rfl) ?_; refine ok_nil ?_; refine ok_env [(0, _), (2, _), (3, _), (4, _)] ⟨rfl, rfl, rfl, rfl, trivial⟩ ?_)
      | (refine ok_region (i := 2) ?_; refine ok_p rfl rfl rfl (by exact ps_move rfl rfl) ?_; refine ok_p rfl rfl rfl (by exact ps_move rfl rfl) ?_; refine ok_m rfl rfl rfl (by exact ms_s2 rfl rfl rfl (fun _ _ w hw => s_l6Take_c s (-1) (by omega) (by omega) w)) ?_; rintro y15 hy15; refine ok_p rfl rfl rfl (by exact ps_move rfl rfl) ?_; refine ok_p rfl rfl rfl (by exact ps_extract rfl rfl rfl) ?_; refine ok_p rfl rfl rfl (by exact ps_extract rfl rfl rfl) ?_; refine ok_p rfl rfl rfl (by exact ps_assign rfl rfl) ?_; refine ok_p rfl rfl rfl (by exact ps_assign rfl rfl) ?_; refine ok_nil ?_; refine ok_env [(0, _), (2, _), (3, _), (4, _), (5, _)] ⟨rfl, rfl, rfl, rfl, rfl, trivial⟩ ?_)
      | (refine ok_region (i := 3) ?_; refine ok_p rfl rfl rfl (by exact ps_move rfl rfl) ?_; refine ok_p rfl rfl rfl (by exact ps_int rfl rfl rfl rfl) ?_; refine ok_nil ?_; refine ok_env [(0, _), (2, _), (3, _), (5, _), (19, _)] ⟨rfl, rfl, rfl, rfl, rfl, trivial⟩ ?_)
      | (refine ok_region (i := 4) ?_; refine ok_p rfl rfl rfl (by exact ps_bld rfl parts_nil rfl) ?_; refine ok_m_ rfl rfl (by exact ms_store 1 rfl rfl rfl rfl rfl rfl rfl rfl) ?_; rintro y_ hy_; refine ok_nil ?_; refine ok_env [(2, _)] ⟨rfl, trivial⟩ ?_))
    · exact ok_endL (vs := [_]) rfl ⟨⟨_, 1, _, _, _, rfl, rfl, inferInstance, rfl, rfl⟩, trivial⟩ (fun w' hw => ⟨rfl, hw.below⟩)
    · have en : tkW s (-1) = none := by unfold tkW; rw [if_neg (by omega)]
      rw [en] at hd
      exact absurd (show (-1 : Int) < 0 by decide) hd
  | some p =>
    obtain ⟨n, q⟩ := p
    have hl := tkV_le hv
    obtain ⟨L, hL⟩ : ∃ L, L = [(n : Int)] := ⟨_, rfl⟩
    have h1 : L.length = 1 := by rw [hL]; rfl
    have h2 : nth L (Int.toNat 0) = n := by rw [hL]; rfl
    cases hw : tkW s q with
    | none =>
      have e2 : fSl s = ⟨0, ⟨#[]⟩⟩ := by unfold fSl one one0; rw [hv]; simp only [Option.bind_some, hw]; rfl
      rw [e2]
      refine ok_enter 32 Try.func144 rfl rfl rfl ?_
      repeat' (first
        | refine ok_seq ?_
        | refine ok_then ?_
        | refine ok_then_ret ?_
        | (refine ok_cond rfl (fun hc => ?_) (fun hc => ?_) <;> (have hd := hc; (try simp only [decide_eq_true_eq, decide_eq_false_iff_not, Bool.or_eq_true, Bool.or_eq_false_iff, Bool.and_eq_true, Bool.and_eq_false_iff, Bool.not_eq_true', Bool.not_eq_false', bne_iff_ne, beq_iff_eq, bne_eq_false_iff_eq, beq_eq_false_iff_ne, ne_eq, Bool.not_true, Bool.not_false, Bool.false_eq_true, Bool.true_eq_false, inB_true, inB_false] at hd)))
        | refine ok_ret ?_
        | refine ok_skip ?_
        | (refine ok_region (i := 0) ?_; refine ok_m rfl rfl rfl (by exact ms_alloc rfl) ?_; rintro y2 hy2; refine ok_nil ?_; refine ok_env [(0, _), (2, _)] ⟨rfl, rfl, trivial⟩ ?_)
        | (refine ok_region (i := 1) ?_; refine ok_p rfl rfl rfl (by exact ps_move rfl rfl) ?_; refine ok_m rfl rfl rfl (by exact ms_c3 rfl rfl rfl rfl (fun _ _ w hw => s_l6Vars_yes s 4 n q L hL (by omega) (by omega) hv w)) ?_; rintro y9 hy9; refine ok_p rfl rfl rfl (by exact ps_move rfl rfl) ?_; refine ok_p rfl rfl rfl (by exact ps_extract rfl rfl rfl) ?_; refine ok_p rfl rfl rfl (by exact ps_extract rfl rfl rfl) ?_; refine ok_p rfl rfl rfl (by exact ps_assign rfl rfl) ?_; refine ok_p rfl rfl rfl (by exact ps_assign rfl rfl) ?_; refine ok_nil ?_; refine ok_env [(0, _), (2, _), (3, _), (4, _)] ⟨rfl, rfl, rfl, rfl, trivial⟩ ?_)
        | (refine ok_region (i := 2) ?_; refine ok_p rfl rfl rfl (by exact ps_move rfl rfl) ?_; refine ok_p rfl rfl rfl (by exact ps_move rfl rfl) ?_; refine ok_m rfl rfl rfl (by exact ms_s2 rfl rfl rfl (fun _ _ w _ => by have := s_l6Take_c s q (by omega) (by omega) w; rw [hw] at this; exact this)) ?_; rintro y15 hy15; refine ok_p rfl rfl rfl (by exact ps_move rfl rfl) ?_; refine ok_p rfl rfl rfl (by exact ps_extract rfl rfl rfl) ?_; refine ok_p rfl rfl rfl (by exact ps_extract rfl rfl rfl) ?_; refine ok_p rfl rfl rfl (by exact ps_assign rfl rfl) ?_; refine ok_p rfl rfl rfl (by exact ps_assign rfl rfl) ?_; refine ok_nil ?_; refine ok_env [(0, _), (2, _), (3, _), (4, _), (5, _)] ⟨rfl, rfl, rfl, rfl, rfl, trivial⟩ ?_)
        | (refine ok_region (i := 3) ?_; refine ok_p rfl rfl rfl (by exact ps_move rfl rfl) ?_; refine ok_p rfl rfl rfl (by exact ps_int rfl rfl rfl rfl) ?_; refine ok_nil ?_; refine ok_env [(0, _), (2, _), (3, _), (5, _), (19, _)] ⟨rfl, rfl, rfl, rfl, rfl, trivial⟩ ?_)
        | (refine ok_region (i := 4) ?_; refine ok_p rfl rfl rfl (by exact ps_bld rfl parts_nil rfl) ?_; refine ok_m_ rfl rfl (by exact ms_store 1 rfl rfl rfl rfl rfl rfl rfl rfl) ?_; rintro y_ hy_; refine ok_nil ?_; refine ok_env [(2, _)] ⟨rfl, trivial⟩ ?_)
        | (refine ok_region (i := 5) ?_; refine ok_p rfl rfl rfl (by exact ps_move rfl rfl) ?_; refine ok_p rfl rfl rfl (by exact ps_index rfl rfl rfl (by omega) (by exact isw_row 0 rfl (by omega))) ?_; refine ok_p rfl rfl rfl (by exact ps_load rfl rfl (by exact Rds.cell (rds_row 0 rfl) (by exact fl_at0 _ _ (by omega) (by decide)))) ?_; refine ok_p rfl rfl rfl (by exact ps_move rfl rfl) ?_; refine ok_p rfl rfl rfl (by exact ps_bld rfl (parts_cons rfl (parts_cons rfl parts_nil)) rfl) ?_; refine ok_m rfl rfl rfl (by exact ms_alloc rfl) ?_; rintro y6 hy6; refine ok_m_ rfl rfl (by exact ms_store 0 rfl rfl rfl rfl rfl rfl rfl rfl) ?_; rintro y_ hy_; refine ok_nil ?_; refine ok_env [(0, _), (2, _), (6, _)] ⟨rfl, rfl, rfl, trivial⟩ ?_))
      · exact ok_endL (vs := [_]) rfl ⟨⟨_, 1, _, _, _, rfl, rfl, inferInstance, rfl, rfl⟩, trivial⟩ (fun w' hw => ⟨rfl, hw.below⟩)
      · exact absurd (show (-1 : Int) < 0 by decide) hd
    | some p2 =>
      obtain ⟨r, e⟩ := p2
      have hr : r.size ≤ 1048576 := by have := tkW_size (s := s) (z := q); rw [hw] at this; simp only [tkT] at this; omega
      have e2 : fSl s = if showS n r = s then ⟨n, r⟩ else ⟨0, ⟨#[]⟩⟩ := by unfold fSl one one0; rw [hv]; simp only [Option.bind_some, hw, Option.map_some]; by_cases hh : showS (n : Int) r = s <;> simp only [hh, if_true, if_false]
      rw [e2]
      refine ok_enter 32 Try.func144 rfl rfl rfl ?_
      repeat' (first
        | refine ok_seq ?_
        | refine ok_then ?_
        | refine ok_then_ret ?_
        | (refine ok_cond rfl (fun hc => ?_) (fun hc => ?_) <;> (have hd := hc; (try simp only [decide_eq_true_eq, decide_eq_false_iff_not, Bool.or_eq_true, Bool.or_eq_false_iff, Bool.and_eq_true, Bool.and_eq_false_iff, Bool.not_eq_true', Bool.not_eq_false', bne_iff_ne, beq_iff_eq, bne_eq_false_iff_eq, beq_eq_false_iff_ne, ne_eq, Bool.not_true, Bool.not_false, Bool.false_eq_true, Bool.true_eq_false, inB_true, inB_false] at hd)))
        | refine ok_ret ?_
        | refine ok_skip ?_
        | (refine ok_region (i := 0) ?_; refine ok_m rfl rfl rfl (by exact ms_alloc rfl) ?_; rintro y2 hy2; refine ok_nil ?_; refine ok_env [(0, _), (2, _)] ⟨rfl, rfl, trivial⟩ ?_)
        | (refine ok_region (i := 1) ?_; refine ok_p rfl rfl rfl (by exact ps_move rfl rfl) ?_; refine ok_m rfl rfl rfl (by exact ms_c3 rfl rfl rfl rfl (fun _ _ w hw => s_l6Vars_yes s 4 n q L hL (by omega) (by omega) hv w)) ?_; rintro y9 hy9; refine ok_p rfl rfl rfl (by exact ps_move rfl rfl) ?_; refine ok_p rfl rfl rfl (by exact ps_extract rfl rfl rfl) ?_; refine ok_p rfl rfl rfl (by exact ps_extract rfl rfl rfl) ?_; refine ok_p rfl rfl rfl (by exact ps_assign rfl rfl) ?_; refine ok_p rfl rfl rfl (by exact ps_assign rfl rfl) ?_; refine ok_nil ?_; refine ok_env [(0, _), (2, _), (3, _), (4, _)] ⟨rfl, rfl, rfl, rfl, trivial⟩ ?_)
        | (refine ok_region (i := 2) ?_; refine ok_p rfl rfl rfl (by exact ps_move rfl rfl) ?_; refine ok_p rfl rfl rfl (by exact ps_move rfl rfl) ?_; refine ok_m rfl rfl rfl (by exact ms_s2 rfl rfl rfl (fun _ _ w _ => by have := s_l6Take_c s q (by omega) (by omega) w; rw [hw] at this; exact this)) ?_; rintro y15 hy15; refine ok_p rfl rfl rfl (by exact ps_move rfl rfl) ?_; refine ok_p rfl rfl rfl (by exact ps_extract rfl rfl rfl) ?_; refine ok_p rfl rfl rfl (by exact ps_extract rfl rfl rfl) ?_; refine ok_p rfl rfl rfl (by exact ps_assign rfl rfl) ?_; refine ok_p rfl rfl rfl (by exact ps_assign rfl rfl) ?_; refine ok_nil ?_; refine ok_env [(0, _), (2, _), (3, _), (4, _), (5, _)] ⟨rfl, rfl, rfl, rfl, rfl, trivial⟩ ?_)
        | (refine ok_region (i := 3) ?_; refine ok_p rfl rfl rfl (by exact ps_move rfl rfl) ?_; refine ok_p rfl rfl rfl (by exact ps_int rfl rfl rfl rfl) ?_; refine ok_nil ?_; refine ok_env [(0, _), (2, _), (3, _), (5, _), (19, _)] ⟨rfl, rfl, rfl, rfl, rfl, trivial⟩ ?_)
        | (refine ok_region (i := 4) ?_; refine ok_p rfl rfl rfl (by exact ps_bld rfl parts_nil rfl) ?_; refine ok_m_ rfl rfl (by exact ms_store 1 rfl rfl rfl rfl rfl rfl rfl rfl) ?_; rintro y_ hy_; refine ok_nil ?_; refine ok_env [(2, _)] ⟨rfl, trivial⟩ ?_)
        | (refine ok_region (i := 5) ?_; refine ok_p rfl rfl rfl (by exact ps_move rfl rfl) ?_; refine ok_p rfl rfl rfl (by exact ps_index rfl rfl rfl (by omega) (by exact isw_row 0 rfl (by omega))) ?_; refine ok_p rfl rfl rfl (by exact ps_load rfl rfl (by exact Rds.cell (rds_row 0 rfl) (by exact fl_at0 _ _ (by omega) (by decide)))) ?_; refine ok_p rfl rfl rfl (by exact ps_move rfl rfl) ?_; refine ok_p rfl rfl rfl (by exact ps_bld rfl (parts_cons rfl (parts_cons rfl parts_nil)) rfl) ?_; refine ok_m rfl rfl rfl (by exact ms_alloc rfl) ?_; rintro y6 hy6; refine ok_m_ rfl rfl (by exact ms_store 0 rfl rfl rfl rfl rfl rfl rfl rfl) ?_; rintro y_ hy_; refine ok_nil ?_; refine ok_env [(0, _), (2, _), (6, _)] ⟨rfl, rfl, rfl, trivial⟩ ?_)
        | (refine ok_region (i := 6) ?_; refine ok_p rfl rfl rfl (by exact ps_loads rfl rfl (by exact rds_box 0 rfl) rfl rfl (by decide)) ?_; refine ok_m rfl rfl rfl (by exact ms_s1 rfl rfl (fun _ _ w _ => sShowSlot_any _ r w hr)) ?_; rintro y27 hy27; refine ok_p rfl rfl rfl (by exact ps_move rfl rfl) ?_; refine ok_p rfl rfl rfl (by exact ps_str rfl rfl rfl rfl) ?_; refine ok_nil ?_; refine ok_env [(2, _), (6, _), (29, _)] ⟨rfl, rfl, rfl, trivial⟩ ?_)
        | (refine ok_region (i := 7) ?_; refine ok_p rfl rfl rfl (by exact ps_bld rfl parts_nil rfl) ?_; refine ok_m_ rfl rfl (by exact ms_store 2 rfl rfl rfl rfl rfl rfl rfl rfl) ?_; rintro y_ hy_; refine ok_nil ?_; refine ok_env [(2, _)] ⟨rfl, trivial⟩ ?_)
        | (refine ok_region (i := 8) ?_; refine ok_p rfl rfl rfl (by exact ps_loads rfl rfl (by exact rds_box 0 rfl) rfl rfl (by decide)) ?_; refine ok_m_ rfl rfl (by exact ms_store 2 rfl rfl rfl rfl rfl rfl rfl rfl) ?_; rintro y_ hy_; refine ok_nil ?_; refine ok_env [(2, _)] ⟨rfl, trivial⟩ ?_))
      · exact absurd hd (show ¬ ((e : Nat) : Int) < 0 by omega)
      · have h3 := sEq_f hd
        rw [h2] at h3
        rw [if_neg h3]
        exact ok_endL (vs := [_]) rfl ⟨⟨_, 2, _, _, _, rfl, rfl, inferInstance, rfl, rfl⟩, trivial⟩ (fun w' hw => ⟨rfl, hw.below⟩)
      · have h3 := sEq_t hd
        rw [h2] at h3
        rw [if_pos h3, ← h2]
        exact ok_endL (vs := [_]) rfl ⟨⟨_, 2, _, _, _, rfl, rfl, inferInstance, rfl, rfl⟩, trivial⟩ (fun w' hw => ⟨rfl, hw.below⟩)
def selF (a b : ByteArray) : DSlot × Bool × Bool := if ((one b).isSome && (!(one a).isSome || decide ((fSl a).seq < (fSl b).seq))) = true then (fSl b, true, true) else (fSl a, false, (one a).isSome)
theorem sel_c (a b : ByteArray) (ha : a.size ≤ 1048576) (hb : b.size ≤ 1048576) (w : World) :
    Calls Try.prog 142 #[.string a, .string b] w fun e w' => e = .returned (.tuple #[slV (selF a b).1, .bool (selF a b).2.1, .bool (selF a b).2.2]) ∧ Below w.heap.size w w' := by
  refine ok_enter 36 Try.func142 rfl rfl rfl ?_
  repeat' (first
    | refine ok_seq ?_
    | refine ok_then ?_
    | refine ok_then_ret ?_
    | (refine ok_cond rfl (fun hc => ?_) (fun hc => ?_) <;> (have hd := hc; (try simp only [decide_eq_true_eq, decide_eq_false_iff_not, Bool.or_eq_true, Bool.or_eq_false_iff, Bool.and_eq_true, Bool.and_eq_false_iff, Bool.not_eq_true', Bool.not_eq_false', bne_iff_ne, beq_iff_eq, bne_eq_false_iff_eq, beq_eq_false_iff_ne, ne_eq, Bool.not_true, Bool.not_false, Bool.false_eq_true, Bool.true_eq_false, inB_true, inB_false] at hd)))
    | refine ok_ret ?_
    | refine ok_skip ?_
    | (refine ok_region (i := 0) ?_; refine ok_m rfl rfl rfl (by exact ms_alloc rfl) ?_; rintro y4 hy4; refine ok_p rfl rfl rfl (by exact ps_assign rfl rfl) ?_; refine ok_p rfl rfl rfl (by exact ps_assign rfl rfl) ?_; refine ok_nil ?_; refine ok_env [(0, _), (1, _), (4, _)] ⟨rfl, rfl, rfl, trivial⟩ ?_)
    | (refine ok_region (i := 1) ?_; refine ok_p rfl rfl rfl (by exact ps_move rfl rfl) ?_; refine ok_m rfl rfl rfl (by exact ms_s1 rfl rfl (fun _ _ w _ => readSlot_c a ha w)) ?_; rintro y13 hy13; refine ok_p rfl rfl rfl (by exact ps_move rfl rfl) ?_; refine ok_p rfl rfl rfl (by exact ps_extract rfl rfl rfl) ?_; refine ok_p rfl rfl rfl (by exact ps_extract rfl rfl rfl) ?_; refine ok_m rfl rfl rfl (by exact ms_alloc rfl) ?_; rintro y7 hy7; refine ok_m_ rfl rfl (by exact ms_store 0 rfl rfl rfl rfl rfl rfl rfl rfl) ?_; rintro y_ hy_; refine ok_p rfl rfl rfl (by exact ps_assign rfl rfl) ?_; refine ok_nil ?_; refine ok_env [(1, _), (4, _), (7, _), (8, _)] ⟨rfl, rfl, rfl, rfl, trivial⟩ ?_)
    | (refine ok_region (i := 2) ?_; refine ok_p rfl rfl rfl (by exact ps_move rfl rfl) ?_; refine ok_m rfl rfl rfl (by exact ms_s1 rfl rfl (fun _ _ w _ => readSlot_c b hb w)) ?_; rintro y18 hy18; refine ok_p rfl rfl rfl (by exact ps_move rfl rfl) ?_; refine ok_p rfl rfl rfl (by exact ps_extract rfl rfl rfl) ?_; refine ok_p rfl rfl rfl (by exact ps_extract rfl rfl rfl) ?_; refine ok_m rfl rfl rfl (by exact ms_alloc rfl) ?_; rintro y9 hy9; refine ok_m_ rfl rfl (by exact ms_store 0 rfl rfl rfl rfl rfl rfl rfl rfl) ?_; rintro y_ hy_; refine ok_p rfl rfl rfl (by exact ps_assign rfl rfl) ?_; refine ok_nil ?_; refine ok_env [(4, _), (7, _), (8, _), (9, _), (10, _)] ⟨rfl, rfl, rfl, rfl, rfl, trivial⟩ ?_)
    | (refine ok_region (i := 3) ?_; refine ok_p rfl rfl rfl (by exact ps_move rfl rfl) ?_; refine ok_p rfl rfl rfl (by exact ps_move rfl rfl) ?_; refine ok_pg rfl rfl rfl rfl rfl (gT _) (fun hp => by (have hpd := hp; (try simp only [decide_eq_true_eq, decide_eq_false_iff_not, Bool.or_eq_true, Bool.or_eq_false_iff, Bool.and_eq_true, Bool.and_eq_false_iff, Bool.not_eq_true', Bool.not_eq_false', bne_iff_ne, beq_iff_eq, bne_eq_false_iff_eq, beq_eq_false_iff_ne, ne_eq, Bool.not_true, Bool.not_false, Bool.false_eq_true, Bool.true_eq_false, inB_true, inB_false] at hpd); exact ps_move rfl (by exact rfl))) ?_; refine ok_pg rfl rfl rfl rfl rfl (gT _) (fun hp => by (have hpd := hp; (try simp only [decide_eq_true_eq, decide_eq_false_iff_not, Bool.or_eq_true, Bool.or_eq_false_iff, Bool.and_eq_true, Bool.and_eq_false_iff, Bool.not_eq_true', Bool.not_eq_false', bne_iff_ne, beq_iff_eq, bne_eq_false_iff_eq, beq_eq_false_iff_ne, ne_eq, Bool.not_true, Bool.not_false, Bool.false_eq_true, Bool.true_eq_false, inB_true, inB_false] at hpd); exact ps_not rfl (by (refine og rfl ?_; assumption)))) ?_; refine ok_pg rfl rfl rfl rfl rfl (gT _) (fun hp => by (have hpd := hp; (try simp only [decide_eq_true_eq, decide_eq_false_iff_not, Bool.or_eq_true, Bool.or_eq_false_iff, Bool.and_eq_true, Bool.and_eq_false_iff, Bool.not_eq_true', Bool.not_eq_false', bne_iff_ne, beq_iff_eq, bne_eq_false_iff_eq, beq_eq_false_iff_ne, ne_eq, Bool.not_true, Bool.not_false, Bool.false_eq_true, Bool.true_eq_false, inB_true, inB_false] at hpd); exact ps_move rfl (by (refine og rfl ?_; assumption)))) ?_; refine ok_pgg rfl rfl rfl rfl rfl (gF _) (fun hq hp hqp => by (have hqd := hq; (try simp only [decide_eq_true_eq, decide_eq_false_iff_not, Bool.or_eq_true, Bool.or_eq_false_iff, Bool.and_eq_true, Bool.and_eq_false_iff, Bool.not_eq_true', Bool.not_eq_false', bne_iff_ne, beq_iff_eq, bne_eq_false_iff_eq, beq_eq_false_iff_ne, ne_eq, Bool.not_true, Bool.not_false, Bool.false_eq_true, Bool.true_eq_false, inB_true, inB_false] at hqd); have hpd := hp; (try simp only [decide_eq_true_eq, decide_eq_false_iff_not, Bool.or_eq_true, Bool.or_eq_false_iff, Bool.and_eq_true, Bool.and_eq_false_iff, Bool.not_eq_true', Bool.not_eq_false', bne_iff_ne, beq_iff_eq, bne_eq_false_iff_eq, beq_eq_false_iff_ne, ne_eq, Bool.not_true, Bool.not_false, Bool.false_eq_true, Bool.true_eq_false, inB_true, inB_false] at hpd); exact ps_field rfl (by exact rfl) (by exact isw_ga _))) ?_; refine ok_pgg rfl rfl rfl rfl rfl (gF _) (fun hq hp hqp => by (have hqd := hq; (try simp only [decide_eq_true_eq, decide_eq_false_iff_not, Bool.or_eq_true, Bool.or_eq_false_iff, Bool.and_eq_true, Bool.and_eq_false_iff, Bool.not_eq_true', Bool.not_eq_false', bne_iff_ne, beq_iff_eq, bne_eq_false_iff_eq, beq_eq_false_iff_ne, ne_eq, Bool.not_true, Bool.not_false, Bool.false_eq_true, Bool.true_eq_false, inB_true, inB_false] at hqd); have hpd := hp; (try simp only [decide_eq_true_eq, decide_eq_false_iff_not, Bool.or_eq_true, Bool.or_eq_false_iff, Bool.and_eq_true, Bool.and_eq_false_iff, Bool.not_eq_true', Bool.not_eq_false', bne_iff_ne, beq_iff_eq, bne_eq_false_iff_eq, beq_eq_false_iff_ne, ne_eq, Bool.not_true, Bool.not_false, Bool.false_eq_true, Bool.true_eq_false, inB_true, inB_false] at hpd); exact ps_load rfl (by (refine og rfl ?_; assumption)) (by exact Rds.cell (rds_box 0 rfl) rfl))) ?_; refine ok_pgg rfl rfl rfl rfl rfl (gF _) (fun hq hp hqp => by (have hqd := hq; (try simp only [decide_eq_true_eq, decide_eq_false_iff_not, Bool.or_eq_true, Bool.or_eq_false_iff, Bool.and_eq_true, Bool.and_eq_false_iff, Bool.not_eq_true', Bool.not_eq_false', bne_iff_ne, beq_iff_eq, bne_eq_false_iff_eq, beq_eq_false_iff_ne, ne_eq, Bool.not_true, Bool.not_false, Bool.false_eq_true, Bool.true_eq_false, inB_true, inB_false] at hqd); have hpd := hp; (try simp only [decide_eq_true_eq, decide_eq_false_iff_not, Bool.or_eq_true, Bool.or_eq_false_iff, Bool.and_eq_true, Bool.and_eq_false_iff, Bool.not_eq_true', Bool.not_eq_false', bne_iff_ne, beq_iff_eq, bne_eq_false_iff_eq, beq_eq_false_iff_ne, ne_eq, Bool.not_true, Bool.not_false, Bool.false_eq_true, Bool.true_eq_false, inB_true, inB_false] at hpd); exact ps_field rfl (by exact rfl) (by exact isw_ga _))) ?_; refine ok_pgg rfl rfl rfl rfl rfl (gF _) (fun hq hp hqp => by (have hqd := hq; (try simp only [decide_eq_true_eq, decide_eq_false_iff_not, Bool.or_eq_true, Bool.or_eq_false_iff, Bool.and_eq_true, Bool.and_eq_false_iff, Bool.not_eq_true', Bool.not_eq_false', bne_iff_ne, beq_iff_eq, bne_eq_false_iff_eq, beq_eq_false_iff_ne, ne_eq, Bool.not_true, Bool.not_false, Bool.false_eq_true, Bool.true_eq_false, inB_true, inB_false] at hqd); have hpd := hp; (try simp only [decide_eq_true_eq, decide_eq_false_iff_not, Bool.or_eq_true, Bool.or_eq_false_iff, Bool.and_eq_true, Bool.and_eq_false_iff, Bool.not_eq_true', Bool.not_eq_false', bne_iff_ne, beq_iff_eq, bne_eq_false_iff_eq, beq_eq_false_iff_ne, ne_eq, Bool.not_true, Bool.not_false, Bool.false_eq_true, Bool.true_eq_false, inB_true, inB_false] at hpd); exact ps_load rfl (by (refine og rfl ?_; assumption)) (by exact Rds.cell (rds_box 1 rfl) rfl))) ?_; refine ok_pgg rfl rfl rfl rfl rfl (gF _) (fun hq hp hqp => by (have hqd := hq; (try simp only [decide_eq_true_eq, decide_eq_false_iff_not, Bool.or_eq_true, Bool.or_eq_false_iff, Bool.and_eq_true, Bool.and_eq_false_iff, Bool.not_eq_true', Bool.not_eq_false', bne_iff_ne, beq_iff_eq, bne_eq_false_iff_eq, beq_eq_false_iff_ne, ne_eq, Bool.not_true, Bool.not_false, Bool.false_eq_true, Bool.true_eq_false, inB_true, inB_false] at hqd); have hpd := hp; (try simp only [decide_eq_true_eq, decide_eq_false_iff_not, Bool.or_eq_true, Bool.or_eq_false_iff, Bool.and_eq_true, Bool.and_eq_false_iff, Bool.not_eq_true', Bool.not_eq_false', bne_iff_ne, beq_iff_eq, bne_eq_false_iff_eq, beq_eq_false_iff_ne, ne_eq, Bool.not_true, Bool.not_false, Bool.false_eq_true, Bool.true_eq_false, inB_true, inB_false] at hpd); exact ps_int rfl (by (refine og rfl ?_; assumption)) (by (refine og rfl ?_; assumption)) rfl)) ?_; refine ok_pg rfl rfl rfl rfl rfl (gT _) (fun hp => by (have hpd := hp; (try simp only [decide_eq_true_eq, decide_eq_false_iff_not, Bool.or_eq_true, Bool.or_eq_false_iff, Bool.and_eq_true, Bool.and_eq_false_iff, Bool.not_eq_true', Bool.not_eq_false', bne_iff_ne, beq_iff_eq, bne_eq_false_iff_eq, beq_eq_false_iff_ne, ne_eq, Bool.not_true, Bool.not_false, Bool.false_eq_true, Bool.true_eq_false, inB_true, inB_false] at hpd); exact ps_or_in (by assumption) rfl rfl rfl)) ?_; refine ok_p rfl rfl rfl (by exact ps_and rfl rfl rfl) ?_; refine ok_nil ?_; refine ok_env [(4, _), (7, _), (8, _), (9, _), (32, _)] ⟨rfl, rfl, rfl, rfl, rfl, trivial⟩ ?_)
    | (refine ok_region (i := 4) ?_; refine ok_p rfl rfl rfl (by exact ps_loads rfl rfl (by exact rds_box 0 rfl) rfl rfl (by decide)) ?_; refine ok_m_ rfl rfl (by exact ms_store 2 rfl rfl rfl rfl rfl rfl rfl rfl) ?_; rintro y_ hy_; refine ok_p rfl rfl rfl (by exact ps_assign rfl rfl) ?_; refine ok_p rfl rfl rfl (by exact ps_assign rfl rfl) ?_; refine ok_nil ?_; refine ok_env [(4, _), (5, _), (6, _)] ⟨rfl, rfl, rfl, trivial⟩ ?_)
    | (refine ok_region (i := 5) ?_; refine ok_p rfl rfl rfl (by exact ps_loads rfl rfl (by exact rds_box 1 rfl) rfl rfl (by decide)) ?_; refine ok_p rfl rfl rfl (by exact ps_move rfl rfl) ?_; refine ok_m_ rfl rfl (by exact ms_store 2 rfl rfl rfl rfl rfl rfl rfl rfl) ?_; rintro y_ hy_; refine ok_p rfl rfl rfl (by exact ps_assign rfl rfl) ?_; refine ok_p rfl rfl rfl (by exact ps_assign rfl rfl) ?_; refine ok_nil ?_; refine ok_env [(4, _), (5, _), (6, _)] ⟨rfl, rfl, rfl, trivial⟩ ?_))
  · have e : selF a b = (fSl b, true, true) := by unfold selF; rw [if_pos hc]
    rw [e]
    exact ok_endL (vs := [_, _, _]) rfl ⟨⟨_, 2, _, _, _, rfl, rfl, inferInstance, rfl, rfl⟩, rfl, rfl, trivial⟩ (fun w' hw => ⟨rfl, hw.below⟩)
  · have e : selF a b = (fSl a, false, (one a).isSome) := by unfold selF; rw [if_neg (by rw [hc]; simp)]
    rw [e]
    exact ok_endL (vs := [_, _, _]) rfl ⟨⟨_, 2, _, _, _, rfl, rfl, inferInstance, rfl, rfl⟩, rfl, rfl, trivial⟩ (fun w' hw => ⟨rfl, hw.below⟩)
def fSlotRead (a b : ByteArray) : DSlot × Bool := ((selF a b).1, (selF a b).2.2)
theorem sel_s (a b : ByteArray) : fSlotRead a b = if (fSl a).seq < (fSl b).seq then (fSl b, true) else (fSl a, decide (0 < (fSl a).seq)) := by
  have pa := fSl_seq a
  have pb := fSl_seq b
  have ea : (one a).isSome = decide (0 < (fSl a).seq) := by rw [Bool.eq_iff_iff, decide_eq_true_eq]; exact pa.2.2.2
  have eb : (one b).isSome = decide (0 < (fSl b).seq) := by rw [Bool.eq_iff_iff, decide_eq_true_eq]; exact pb.2.2.2
  unfold fSlotRead selF
  rw [ea, eb]
  by_cases h : (fSl a).seq < (fSl b).seq
  · rw [if_pos h, if_pos (by simp; omega)]
  · rw [if_neg h]
    split
    · rename_i h2
      simp at h2
      omega
    · rfl
theorem i_SlotRead (a b : ByteArray) (w : World) (ha : a.size ≤ 1048576) (hb : b.size ≤ 1048576) :
    Calls Try.prog 55 #[.string a, .string b] w fun e w' => e = .returned (.tuple #[slV (fSlotRead a b).1, .bool (fSlotRead a b).2]) ∧ Below w.heap.size w w' := by
  refine ok_enter 18 Try.func55 rfl rfl rfl ?_
  repeat' (first
    | refine ok_seq ?_
    | refine ok_then ?_
    | refine ok_ret ?_
    | (refine ok_region (i := 0) ?_; refine ok_m rfl rfl rfl (by exact ms_alloc rfl) ?_; rintro y4 hy4; refine ok_p rfl rfl rfl (by exact ps_assign rfl rfl) ?_; refine ok_nil ?_; refine ok_env [(0, _), (1, _), (4, _)] ⟨rfl, rfl, rfl, trivial⟩ ?_)
    | (refine ok_region (i := 1) ?_; refine ok_p rfl rfl rfl (by exact ps_move rfl rfl) ?_; refine ok_p rfl rfl rfl (by exact ps_move rfl rfl) ?_; refine ok_m rfl rfl rfl (by exact ms_s2 rfl rfl rfl (fun _ _ w _ => sel_c a b ha hb w)) ?_; rintro y12 hy12; refine ok_p rfl rfl rfl (by exact ps_move rfl rfl) ?_; refine ok_p rfl rfl rfl (by exact ps_extract rfl rfl rfl) ?_; refine ok_p rfl rfl rfl (by exact ps_extract rfl rfl rfl) ?_; refine ok_p rfl rfl rfl (by exact ps_extract rfl rfl rfl) ?_; refine ok_m rfl rfl rfl (by exact ms_alloc rfl) ?_; rintro y6 hy6; refine ok_m_ rfl rfl (by exact ms_store 0 rfl rfl rfl rfl rfl rfl rfl rfl) ?_; rintro y_ hy_; refine ok_p rfl rfl rfl (by exact ps_assign rfl rfl) ?_; refine ok_p rfl rfl rfl (by exact ps_assign rfl rfl) ?_; refine ok_nil ?_; refine ok_env [(4, _), (6, _), (8, _)] ⟨rfl, rfl, rfl, trivial⟩ ?_)
    | (refine ok_region (i := 2) ?_; refine ok_p rfl rfl rfl (by exact ps_loads rfl rfl (by exact rds_box 0 rfl) rfl rfl (by decide)) ?_; refine ok_p rfl rfl rfl (by exact ps_move rfl rfl) ?_; refine ok_m_ rfl rfl (by exact ms_store 1 rfl rfl rfl rfl rfl rfl rfl rfl) ?_; rintro y_ hy_; refine ok_p rfl rfl rfl (by exact ps_assign rfl rfl) ?_; refine ok_nil ?_; refine ok_env [(4, _), (5, _)] ⟨rfl, rfl, trivial⟩ ?_))
  exact ok_endL (vs := [_, _]) rfl ⟨⟨_, 1, _, _, _, rfl, rfl, inferInstance, rfl, rfl⟩, rfl, trivial⟩ (fun w' hw => ⟨rfl, hw.below⟩)
/-- Putting a slot. -/
def fSlotPut (a b r : ByteArray) : ByteArray × ByteArray × Bool :=
  if showS ((selF a b).1.seq + 1) r = ⟨#[]⟩ then (a, b, false) else if ((selF a b).2.1 || !(selF a b).2.2) = true then (showS ((selF a b).1.seq + 1) r, b, true) else (a, showS ((selF a b).1.seq + 1) r, true)
theorem selF_seq (a b : ByteArray) : 0 ≤ (selF a b).1.seq ∧ (selF a b).1.seq ≤ 1000000 := by
  have pa := fSl_seq a
  have pb := fSl_seq b
  unfold selF
  split
  · exact ⟨pb.1, pb.2.1⟩
  · exact ⟨pa.1, pa.2.1⟩
theorem i_SlotPut (a b r : ByteArray) (w : World) (ha : a.size ≤ 1048576) (hb : b.size ≤ 1048576) (hr : r.size ≤ 1048576) :
    Calls Try.prog 53 #[.string a, .string b, .string r] w fun e w' => e = .returned (.tuple #[.string (fSlotPut a b r).1, .string (fSlotPut a b r).2.1, .bool (fSlotPut a b r).2.2]) ∧ Below w.heap.size w w' := by
  have hq := selF_seq a b
  refine ok_enter 41 Try.func53 rfl rfl rfl ?_
  repeat' (first
    | refine ok_seq ?_
    | refine ok_then ?_
    | refine ok_then_ret ?_
    | refine ok_block ?_
    | refine ok_in_ret ?_
    | (refine ok_cond rfl (fun hc => ?_) (fun hc => ?_) <;> (have hd := hc; (try simp only [decide_eq_true_eq, decide_eq_false_iff_not, Bool.or_eq_true, Bool.or_eq_false_iff, Bool.and_eq_true, Bool.and_eq_false_iff, Bool.not_eq_true', Bool.not_eq_false', bne_iff_ne, beq_iff_eq, bne_eq_false_iff_eq, beq_eq_false_iff_ne, ne_eq, Bool.not_true, Bool.not_false, Bool.false_eq_true, Bool.true_eq_false, inB_true, inB_false] at hd)))
    | refine ok_ret ?_
    | refine ok_skip ?_
    | (refine ok_region (i := 0) ?_; refine ok_p rfl rfl rfl (by exact ps_assign rfl rfl) ?_; refine ok_p rfl rfl rfl (by exact ps_assign rfl rfl) ?_; refine ok_p rfl rfl rfl (by exact ps_assign rfl rfl) ?_; refine ok_nil ?_; refine ok_env [(0, _), (1, _), (2, _)] ⟨rfl, rfl, rfl, trivial⟩ ?_)
    | (refine ok_region (i := 1) ?_; refine ok_p rfl rfl rfl (by exact ps_move rfl rfl) ?_; refine ok_p rfl rfl rfl (by exact ps_move rfl rfl) ?_; refine ok_m rfl rfl rfl (by exact ms_s2 rfl rfl rfl (fun _ _ w _ => sel_c a b ha hb w)) ?_; rintro y16 hy16; refine ok_p rfl rfl rfl (by exact ps_move rfl rfl) ?_; refine ok_p rfl rfl rfl (by exact ps_extract rfl rfl rfl) ?_; refine ok_p rfl rfl rfl (by exact ps_extract rfl rfl rfl) ?_; refine ok_p rfl rfl rfl (by exact ps_extract rfl rfl rfl) ?_; refine ok_m rfl rfl rfl (by exact ms_alloc rfl) ?_; rintro y9 hy9; refine ok_m_ rfl rfl (by exact ms_store 0 rfl rfl rfl rfl rfl rfl rfl rfl) ?_; rintro y_ hy_; refine ok_p rfl rfl rfl (by exact ps_assign rfl rfl) ?_; refine ok_p rfl rfl rfl (by exact ps_assign rfl rfl) ?_; refine ok_nil ?_; refine ok_env [(0, _), (1, _), (2, _), (9, _), (10, _), (11, _)] ⟨rfl, rfl, rfl, rfl, rfl, rfl, trivial⟩ ?_)
    | (refine ok_region (i := 2) ?_; refine ok_p rfl rfl rfl (by exact ps_field rfl rfl (by exact isw_ga _)) ?_; refine ok_p rfl rfl rfl (by exact ps_load rfl rfl (by exact Rds.cell (rds_box 0 rfl) rfl)) ?_; refine ok_p rfl rfl rfl (by exact ps_add rfl rfl rfl (by omega)) ?_; refine ok_p rfl rfl rfl (by exact ps_move rfl rfl) ?_; refine ok_p rfl rfl rfl (by exact ps_bld rfl (parts_cons rfl (parts_cons rfl parts_nil)) rfl) ?_; refine ok_m rfl rfl rfl (by exact ms_s1 rfl rfl (fun _ _ w _ => iShowSlot_any _ r w hr)) ?_; rintro y25 hy25; refine ok_p rfl rfl rfl (by exact ps_assign rfl rfl) ?_; refine ok_nil ?_; refine ok_env [(0, _), (1, _), (10, _), (11, _), (12, _)] ⟨rfl, rfl, rfl, rfl, rfl, trivial⟩ ?_)
    | (refine ok_region (i := 3) ?_; refine ok_p rfl rfl rfl (by exact ps_move rfl rfl) ?_; refine ok_p rfl rfl rfl (by exact ps_str rfl rfl rfl rfl) ?_; refine ok_p rfl rfl rfl (by exact ps_assign rfl rfl) ?_; refine ok_nil ?_; refine ok_env [(0, _), (1, _), (10, _), (11, _), (12, _), (26, _)] ⟨rfl, rfl, rfl, rfl, rfl, rfl, trivial⟩ ?_)
    | (refine ok_region (i := 4) ?_; refine ok_p rfl rfl rfl (by exact ps_move rfl rfl) ?_; refine ok_p rfl rfl rfl (by exact ps_move rfl rfl) ?_; refine ok_p rfl rfl rfl (by exact ps_assign rfl rfl) ?_; refine ok_p rfl rfl rfl (by exact ps_assign rfl rfl) ?_; refine ok_p rfl rfl rfl (by exact ps_assign rfl rfl) ?_; refine ok_nil ?_; refine ok_env [(6, _), (7, _), (8, _)] ⟨rfl, rfl, rfl, trivial⟩ ?_)
    | (refine ok_region (i := 5) ?_; refine ok_p rfl rfl rfl (by exact ps_move rfl rfl) ?_; refine ok_p rfl rfl rfl (by exact ps_move rfl rfl) ?_; refine ok_pg rfl rfl rfl rfl rfl (gF _) (fun hp => by (have hpd := hp; (try simp only [decide_eq_true_eq, decide_eq_false_iff_not, Bool.or_eq_true, Bool.or_eq_false_iff, Bool.and_eq_true, Bool.and_eq_false_iff, Bool.not_eq_true', Bool.not_eq_false', bne_iff_ne, beq_iff_eq, bne_eq_false_iff_eq, beq_eq_false_iff_ne, ne_eq, Bool.not_true, Bool.not_false, Bool.false_eq_true, Bool.true_eq_false, inB_true, inB_false] at hpd); exact ps_move rfl (by exact rfl))) ?_; refine ok_pg rfl rfl rfl rfl rfl (gF _) (fun hp => by (have hpd := hp; (try simp only [decide_eq_true_eq, decide_eq_false_iff_not, Bool.or_eq_true, Bool.or_eq_false_iff, Bool.and_eq_true, Bool.and_eq_false_iff, Bool.not_eq_true', Bool.not_eq_false', bne_iff_ne, beq_iff_eq, bne_eq_false_iff_eq, beq_eq_false_iff_ne, ne_eq, Bool.not_true, Bool.not_false, Bool.false_eq_true, Bool.true_eq_false, inB_true, inB_false] at hpd); exact ps_not rfl (by (refine og rfl ?_; assumption)))) ?_; refine ok_p rfl rfl rfl (by exact ps_or rfl rfl rfl) ?_; refine ok_p rfl rfl rfl (by exact ps_assign rfl rfl) ?_; refine ok_nil ?_; refine ok_env [(0, _), (1, _), (12, _), (31, _)] ⟨rfl, rfl, rfl, rfl, trivial⟩ ?_)
    | (refine ok_region (i := 6) ?_; refine ok_p rfl rfl rfl (by exact ps_move rfl rfl) ?_; refine ok_p rfl rfl rfl (by exact ps_move rfl rfl) ?_; refine ok_p rfl rfl rfl (by exact ps_assign rfl rfl) ?_; refine ok_p rfl rfl rfl (by exact ps_assign rfl rfl) ?_; refine ok_p rfl rfl rfl (by exact ps_assign rfl rfl) ?_; refine ok_nil ?_; refine ok_env [(6, _), (7, _), (8, _)] ⟨rfl, rfl, rfl, trivial⟩ ?_)
    | (refine ok_region (i := 7) ?_; refine ok_p rfl rfl rfl (by exact ps_move rfl rfl) ?_; refine ok_p rfl rfl rfl (by exact ps_move rfl rfl) ?_; refine ok_p rfl rfl rfl (by exact ps_assign rfl rfl) ?_; refine ok_p rfl rfl rfl (by exact ps_assign rfl rfl) ?_; refine ok_p rfl rfl rfl (by exact ps_assign rfl rfl) ?_; refine ok_nil ?_; refine ok_env [(6, _), (7, _), (8, _)] ⟨rfl, rfl, rfl, trivial⟩ ?_))
  · have e : fSlotPut a b r = (a, b, false) := by unfold fSlotPut; rw [if_pos (sEq_t hd)]
    rw [e]
    exact ok_endL (vs := [_, _, _]) rfl ⟨rfl, rfl, rfl, trivial⟩ (fun w' hw => ⟨rfl, hw.below⟩)
  · have e : fSlotPut a b r = (showS ((selF a b).1.seq + 1) r, b, true) := by unfold fSlotPut; rw [if_neg (sEq_f (by assumption)), if_pos hc]
    rw [e]
    exact ok_endL (vs := [_, _, _]) rfl ⟨rfl, rfl, rfl, trivial⟩ (fun w' hw => ⟨rfl, hw.below⟩)
  · have e : fSlotPut a b r = (a, showS ((selF a b).1.seq + 1) r, true) := by unfold fSlotPut; rw [if_neg (sEq_f (by assumption)), if_neg (by rw [hc]; simp)]
    rw [e]
    exact ok_endL (vs := [_, _, _]) rfl ⟨rfl, rfl, rfl, trivial⟩ (fun w' hw => ⟨rfl, hw.below⟩)
theorem sel_eq (a b : ByteArray) : selF a b = if (fSl a).seq < (fSl b).seq then (fSl b, true, true) else (fSl a, false, decide (0 < (fSl a).seq)) := by
  have pa := fSl_seq a
  have pb := fSl_seq b
  have ea : (one a).isSome = decide (0 < (fSl a).seq) := by rw [Bool.eq_iff_iff, decide_eq_true_eq]; exact pa.2.2.2
  have eb : (one b).isSome = decide (0 < (fSl b).seq) := by rw [Bool.eq_iff_iff, decide_eq_true_eq]; exact pb.2.2.2
  unfold selF
  rw [ea, eb]
  by_cases h : (fSl a).seq < (fSl b).seq
  · rw [if_pos h, if_pos (by simp; omega)]
  · rw [if_neg h]
    split
    · rename_i h2
      simp at h2
      omega
    · rfl
theorem put_s (a b r : ByteArray) (q : Int) (hq : q = if (fSl a).seq < (fSl b).seq then (fSl b).seq else (fSl a).seq) : fSlotPut a b r = if showS (q + 1) r = ⟨#[]⟩ then (a, b, false) else if 0 < (fSl a).seq ∧ (fSl b).seq ≤ (fSl a).seq then (a, showS (q + 1) r, true) else (showS (q + 1) r, b, true) := by
  have pa := fSl_seq a
  have pb := fSl_seq b
  unfold fSlotPut
  rw [sel_eq]
  by_cases h : (fSl a).seq < (fSl b).seq
  · rw [if_pos h] at hq
    subst hq
    rw [if_pos h, if_neg (show ¬ (0 < (fSl a).seq ∧ (fSl b).seq ≤ (fSl a).seq) by omega)]
    simp only [Bool.true_or, if_true]
  · rw [if_neg h] at hq
    subst hq
    rw [if_neg h]
    by_cases h2 : 0 < (fSl a).seq
    · rw [if_pos (show 0 < (fSl a).seq ∧ (fSl b).seq ≤ (fSl a).seq by omega)]
      simp [h2]
    · rw [if_neg (show ¬ (0 < (fSl a).seq ∧ (fSl b).seq ≤ (fSl a).seq) by omega)]
      simp [h2]
theorem s_SlotPut (a b r : ByteArray) (w : World) (ha : a.size ≤ 1048576) (hb : b.size ≤ 1048576) (hr : r.size ≤ 1048576) :
    Calls Try.prog 54 #[.string a, .string b, .string r] w fun e w' => e = .returned (.tuple #[.string (fSlotPut a b r).1, .string (fSlotPut a b r).2.1, .bool (fSlotPut a b r).2.2]) ∧ Below w.heap.size w w' := by
  have pa := fSl_seq a
  have pb := fSl_seq b
  have qa : 0 ≤ (fSl a).seq ∧ (fSl a).seq ≤ 1000000 := ⟨pa.1, pa.2.1⟩
  have qb : 0 ≤ (fSl b).seq ∧ (fSl b).seq ≤ 1000000 := ⟨pb.1, pb.2.1⟩
  clear pa pb
  by_cases h : (fSl a).seq < (fSl b).seq
  · rw [put_s a b r (fSl b).seq (by rw [if_pos h])]
    refine ok_enter 48 Try.func54 rfl rfl rfl ?_
    repeat' (first
      | refine ok_seq ?_
      | refine ok_then ?_
      | refine ok_then_ret ?_
      | (refine ok_cond rfl (fun hc => ?_) (fun hc => ?_) <;> (have hd := hc; (try simp only [decide_eq_true_eq, decide_eq_false_iff_not, Bool.or_eq_true, Bool.or_eq_false_iff, Bool.and_eq_true, Bool.and_eq_false_iff, Bool.not_eq_true', Bool.not_eq_false', bne_iff_ne, beq_iff_eq, bne_eq_false_iff_eq, beq_eq_false_iff_ne, ne_eq, Bool.not_true, Bool.not_false, Bool.false_eq_true, Bool.true_eq_false, inB_true, inB_false] at hd)))
      | refine ok_ret ?_
      | refine ok_skip ?_
      | (refine ok_region (i := 0) ?_; refine ok_p rfl rfl rfl (by exact ps_assign rfl rfl) ?_; refine ok_p rfl rfl rfl (by exact ps_assign rfl rfl) ?_; refine ok_p rfl rfl rfl (by exact ps_assign rfl rfl) ?_; refine ok_nil ?_; refine ok_env [(0, _), (1, _), (2, _)] ⟨rfl, rfl, rfl, trivial⟩ ?_)
      | (refine ok_region (i := 1) ?_; refine ok_p rfl rfl rfl (by exact ps_move rfl rfl) ?_; refine ok_m rfl rfl rfl (by exact ms_s1 rfl rfl (fun _ _ w _ => one_c a ha w)) ?_; rintro y14 hy14; refine ok_m rfl rfl rfl (by exact ms_alloc rfl) ?_; rintro y9 hy9; refine ok_m_ rfl rfl (by exact ms_store 0 rfl rfl rfl rfl rfl rfl rfl rfl) ?_; rintro y_ hy_; refine ok_nil ?_; refine ok_env [(0, _), (1, _), (2, _), (9, _)] ⟨rfl, rfl, rfl, rfl, trivial⟩ ?_)
      | (refine ok_region (i := 2) ?_; refine ok_p rfl rfl rfl (by exact ps_move rfl rfl) ?_; refine ok_m rfl rfl rfl (by exact ms_s1 rfl rfl (fun _ _ w _ => one_c b hb w)) ?_; rintro y16 hy16; refine ok_m rfl rfl rfl (by exact ms_alloc rfl) ?_; rintro y10 hy10; refine ok_m_ rfl rfl (by exact ms_store 0 rfl rfl rfl rfl rfl rfl rfl rfl) ?_; rintro y_ hy_; refine ok_nil ?_; refine ok_env [(0, _), (1, _), (2, _), (9, _), (10, _)] ⟨rfl, rfl, rfl, rfl, rfl, trivial⟩ ?_)
      | (refine ok_region (i := 3) ?_; refine ok_p rfl rfl rfl (by exact ps_field rfl rfl (by exact isw_ga _)) ?_; refine ok_p rfl rfl rfl (by exact ps_load rfl rfl (by exact Rds.cell (rds_box 1 rfl) rfl)) ?_; refine ok_p rfl rfl rfl (by exact ps_assign rfl rfl) ?_; refine ok_nil ?_; refine ok_env [(0, _), (1, _), (2, _), (9, _), (10, _), (11, _)] ⟨rfl, rfl, rfl, rfl, rfl, rfl, trivial⟩ ?_)
      | (refine ok_region (i := 4) ?_; refine ok_p rfl rfl rfl (by exact ps_field rfl rfl (by exact isw_ga _)) ?_; refine ok_p rfl rfl rfl (by exact ps_load rfl rfl (by exact Rds.cell (rds_box 0 rfl) rfl)) ?_; refine ok_p rfl rfl rfl (by exact ps_move rfl rfl) ?_; refine ok_p rfl rfl rfl (by exact ps_int rfl rfl rfl rfl) ?_; refine ok_nil ?_; refine ok_env [(0, _), (1, _), (2, _), (9, _), (10, _), (11, _), (22, _)] ⟨rfl, rfl, rfl, rfl, rfl, rfl, rfl, trivial⟩ ?_)
      | (refine ok_region (i := 5) ?_; refine ok_p rfl rfl rfl (by exact ps_field rfl rfl (by exact isw_ga _)) ?_; refine ok_p rfl rfl rfl (by exact ps_load rfl rfl (by exact Rds.cell (rds_box 0 rfl) rfl)) ?_; refine ok_p rfl rfl rfl (by exact ps_assign rfl rfl) ?_; refine ok_nil ?_; refine ok_env [(0, _), (1, _), (2, _), (9, _), (10, _), (11, _)] ⟨rfl, rfl, rfl, rfl, rfl, rfl, trivial⟩ ?_)
      | (refine ok_region (i := 6) ?_; refine ok_p rfl rfl rfl (by exact ps_move rfl rfl) ?_; refine ok_p rfl rfl rfl (by exact ps_add rfl rfl rfl (by omega)) ?_; refine ok_p rfl rfl rfl (by exact ps_move rfl rfl) ?_; refine ok_p rfl rfl rfl (by exact ps_bld rfl (parts_cons rfl (parts_cons rfl parts_nil)) rfl) ?_; refine ok_m rfl rfl rfl (by exact ms_s1 rfl rfl (fun _ _ w _ => sShowSlot_any _ r w hr)) ?_; rintro y29 hy29; refine ok_p rfl rfl rfl (by exact ps_assign rfl rfl) ?_; refine ok_nil ?_; refine ok_env [(0, _), (1, _), (9, _), (10, _), (12, _)] ⟨rfl, rfl, rfl, rfl, rfl, trivial⟩ ?_)
      | (refine ok_region (i := 7) ?_; refine ok_p rfl rfl rfl (by exact ps_move rfl rfl) ?_; refine ok_p rfl rfl rfl (by exact ps_str rfl rfl rfl rfl) ?_; refine ok_nil ?_; refine ok_env [(0, _), (1, _), (9, _), (10, _), (12, _), (31, _)] ⟨rfl, rfl, rfl, rfl, rfl, rfl, trivial⟩ ?_)
      | (refine ok_region (i := 8) ?_; refine ok_p rfl rfl rfl (by exact ps_move rfl rfl) ?_; refine ok_p rfl rfl rfl (by exact ps_move rfl rfl) ?_; refine ok_p rfl rfl rfl (by exact ps_assign rfl rfl) ?_; refine ok_p rfl rfl rfl (by exact ps_assign rfl rfl) ?_; refine ok_p rfl rfl rfl (by exact ps_assign rfl rfl) ?_; refine ok_nil ?_; refine ok_env [(6, _), (7, _), (8, _)] ⟨rfl, rfl, rfl, trivial⟩ ?_)
      | (refine ok_region (i := 9) ?_; refine ok_p rfl rfl rfl (by exact ps_field rfl rfl (by exact isw_ga _)) ?_; refine ok_p rfl rfl rfl (by exact ps_load rfl rfl (by exact Rds.cell (rds_box 1 rfl) rfl)) ?_; refine ok_p rfl rfl rfl (by exact ps_int rfl rfl rfl rfl) ?_; refine ok_p rfl rfl rfl (by exact ps_move rfl rfl) ?_; refine ok_pg rfl rfl rfl rfl rfl (gT _) (fun hp => by (have hpd := hp; (try simp only [decide_eq_true_eq, decide_eq_false_iff_not, Bool.or_eq_true, Bool.or_eq_false_iff, Bool.and_eq_true, Bool.and_eq_false_iff, Bool.not_eq_true', Bool.not_eq_false', bne_iff_ne, beq_iff_eq, bne_eq_false_iff_eq, beq_eq_false_iff_ne, ne_eq, Bool.not_true, Bool.not_false, Bool.false_eq_true, Bool.true_eq_false, inB_true, inB_false] at hpd); exact ps_field rfl (by exact rfl) (by exact isw_ga _))) ?_; refine ok_pg rfl rfl rfl rfl rfl (gT _) (fun hp => by (have hpd := hp; (try simp only [decide_eq_true_eq, decide_eq_false_iff_not, Bool.or_eq_true, Bool.or_eq_false_iff, Bool.and_eq_true, Bool.and_eq_false_iff, Bool.not_eq_true', Bool.not_eq_false', bne_iff_ne, beq_iff_eq, bne_eq_false_iff_eq, beq_eq_false_iff_ne, ne_eq, Bool.not_true, Bool.not_false, Bool.false_eq_true, Bool.true_eq_false, inB_true, inB_false] at hpd); exact ps_load rfl (by (refine og rfl ?_; assumption)) (by exact Rds.cell (rds_box 1 rfl) rfl))) ?_; refine ok_pg rfl rfl rfl rfl rfl (gT _) (fun hp => by (have hpd := hp; (try simp only [decide_eq_true_eq, decide_eq_false_iff_not, Bool.or_eq_true, Bool.or_eq_false_iff, Bool.and_eq_true, Bool.and_eq_false_iff, Bool.not_eq_true', Bool.not_eq_false', bne_iff_ne, beq_iff_eq, bne_eq_false_iff_eq, beq_eq_false_iff_ne, ne_eq, Bool.not_true, Bool.not_false, Bool.false_eq_true, Bool.true_eq_false, inB_true, inB_false] at hpd); exact ps_field rfl (by exact rfl) (by exact isw_ga _))) ?_; refine ok_pg rfl rfl rfl rfl rfl (gT _) (fun hp => by (have hpd := hp; (try simp only [decide_eq_true_eq, decide_eq_false_iff_not, Bool.or_eq_true, Bool.or_eq_false_iff, Bool.and_eq_true, Bool.and_eq_false_iff, Bool.not_eq_true', Bool.not_eq_false', bne_iff_ne, beq_iff_eq, bne_eq_false_iff_eq, beq_eq_false_iff_ne, ne_eq, Bool.not_true, Bool.not_false, Bool.false_eq_true, Bool.true_eq_false, inB_true, inB_false] at hpd); exact ps_load rfl (by (refine og rfl ?_; assumption)) (by exact Rds.cell (rds_box 0 rfl) rfl))) ?_; refine ok_pg rfl rfl rfl rfl rfl (gT _) (fun hp => by (have hpd := hp; (try simp only [decide_eq_true_eq, decide_eq_false_iff_not, Bool.or_eq_true, Bool.or_eq_false_iff, Bool.and_eq_true, Bool.and_eq_false_iff, Bool.not_eq_true', Bool.not_eq_false', bne_iff_ne, beq_iff_eq, bne_eq_false_iff_eq, beq_eq_false_iff_ne, ne_eq, Bool.not_true, Bool.not_false, Bool.false_eq_true, Bool.true_eq_false, inB_true, inB_false] at hpd); exact ps_int rfl (by (refine og rfl ?_; assumption)) (by (refine og rfl ?_; assumption)) rfl)) ?_; refine ok_p rfl rfl rfl (by exact ps_and rfl rfl rfl) ?_; refine ok_nil ?_; refine ok_env [(0, _), (1, _), (12, _), (43, _)] ⟨rfl, rfl, rfl, rfl, trivial⟩ ?_)
      | (refine ok_region (i := 10) ?_; refine ok_p rfl rfl rfl (by exact ps_move rfl rfl) ?_; refine ok_p rfl rfl rfl (by exact ps_move rfl rfl) ?_; refine ok_p rfl rfl rfl (by exact ps_assign rfl rfl) ?_; refine ok_p rfl rfl rfl (by exact ps_assign rfl rfl) ?_; refine ok_p rfl rfl rfl (by exact ps_assign rfl rfl) ?_; refine ok_nil ?_; refine ok_env [(6, _), (7, _), (8, _)] ⟨rfl, rfl, rfl, trivial⟩ ?_)
      | (refine ok_region (i := 11) ?_; refine ok_p rfl rfl rfl (by exact ps_move rfl rfl) ?_; refine ok_p rfl rfl rfl (by exact ps_move rfl rfl) ?_; refine ok_p rfl rfl rfl (by exact ps_assign rfl rfl) ?_; refine ok_p rfl rfl rfl (by exact ps_assign rfl rfl) ?_; refine ok_p rfl rfl rfl (by exact ps_assign rfl rfl) ?_; refine ok_nil ?_; refine ok_env [(6, _), (7, _), (8, _)] ⟨rfl, rfl, rfl, trivial⟩ ?_))
    all_goals first
      | (exfalso; omega)
      | (rw [if_pos (sEq_t (by assumption))]; exact ok_endL (vs := [_, _, _]) rfl ⟨rfl, rfl, rfl, trivial⟩ (fun w' hw => ⟨rfl, hw.below⟩))
      | (rw [if_neg (sEq_f (by assumption)), if_neg (by omega)]; exact ok_endL (vs := [_, _, _]) rfl ⟨rfl, rfl, rfl, trivial⟩ (fun w' hw => ⟨rfl, hw.below⟩))
  · rw [put_s a b r (fSl a).seq (by rw [if_neg h])]
    refine ok_enter 48 Try.func54 rfl rfl rfl ?_
    repeat' (first
      | refine ok_seq ?_
      | refine ok_then ?_
      | refine ok_then_ret ?_
      | (refine ok_cond rfl (fun hc => ?_) (fun hc => ?_) <;> (have hd := hc; (try simp only [decide_eq_true_eq, decide_eq_false_iff_not, Bool.or_eq_true, Bool.or_eq_false_iff, Bool.and_eq_true, Bool.and_eq_false_iff, Bool.not_eq_true', Bool.not_eq_false', bne_iff_ne, beq_iff_eq, bne_eq_false_iff_eq, beq_eq_false_iff_ne, ne_eq, Bool.not_true, Bool.not_false, Bool.false_eq_true, Bool.true_eq_false, inB_true, inB_false] at hd)))
      | refine ok_ret ?_
      | refine ok_skip ?_
      | (refine ok_region (i := 0) ?_; refine ok_p rfl rfl rfl (by exact ps_assign rfl rfl) ?_; refine ok_p rfl rfl rfl (by exact ps_assign rfl rfl) ?_; refine ok_p rfl rfl rfl (by exact ps_assign rfl rfl) ?_; refine ok_nil ?_; refine ok_env [(0, _), (1, _), (2, _)] ⟨rfl, rfl, rfl, trivial⟩ ?_)
      | (refine ok_region (i := 1) ?_; refine ok_p rfl rfl rfl (by exact ps_move rfl rfl) ?_; refine ok_m rfl rfl rfl (by exact ms_s1 rfl rfl (fun _ _ w _ => one_c a ha w)) ?_; rintro y14 hy14; refine ok_m rfl rfl rfl (by exact ms_alloc rfl) ?_; rintro y9 hy9; refine ok_m_ rfl rfl (by exact ms_store 0 rfl rfl rfl rfl rfl rfl rfl rfl) ?_; rintro y_ hy_; refine ok_nil ?_; refine ok_env [(0, _), (1, _), (2, _), (9, _)] ⟨rfl, rfl, rfl, rfl, trivial⟩ ?_)
      | (refine ok_region (i := 2) ?_; refine ok_p rfl rfl rfl (by exact ps_move rfl rfl) ?_; refine ok_m rfl rfl rfl (by exact ms_s1 rfl rfl (fun _ _ w _ => one_c b hb w)) ?_; rintro y16 hy16; refine ok_m rfl rfl rfl (by exact ms_alloc rfl) ?_; rintro y10 hy10; refine ok_m_ rfl rfl (by exact ms_store 0 rfl rfl rfl rfl rfl rfl rfl rfl) ?_; rintro y_ hy_; refine ok_nil ?_; refine ok_env [(0, _), (1, _), (2, _), (9, _), (10, _)] ⟨rfl, rfl, rfl, rfl, rfl, trivial⟩ ?_)
      | (refine ok_region (i := 3) ?_; refine ok_p rfl rfl rfl (by exact ps_field rfl rfl (by exact isw_ga _)) ?_; refine ok_p rfl rfl rfl (by exact ps_load rfl rfl (by exact Rds.cell (rds_box 1 rfl) rfl)) ?_; refine ok_p rfl rfl rfl (by exact ps_assign rfl rfl) ?_; refine ok_nil ?_; refine ok_env [(0, _), (1, _), (2, _), (9, _), (10, _), (11, _)] ⟨rfl, rfl, rfl, rfl, rfl, rfl, trivial⟩ ?_)
      | (refine ok_region (i := 4) ?_; refine ok_p rfl rfl rfl (by exact ps_field rfl rfl (by exact isw_ga _)) ?_; refine ok_p rfl rfl rfl (by exact ps_load rfl rfl (by exact Rds.cell (rds_box 0 rfl) rfl)) ?_; refine ok_p rfl rfl rfl (by exact ps_move rfl rfl) ?_; refine ok_p rfl rfl rfl (by exact ps_int rfl rfl rfl rfl) ?_; refine ok_nil ?_; refine ok_env [(0, _), (1, _), (2, _), (9, _), (10, _), (11, _), (22, _)] ⟨rfl, rfl, rfl, rfl, rfl, rfl, rfl, trivial⟩ ?_)
      | (refine ok_region (i := 5) ?_; refine ok_p rfl rfl rfl (by exact ps_field rfl rfl (by exact isw_ga _)) ?_; refine ok_p rfl rfl rfl (by exact ps_load rfl rfl (by exact Rds.cell (rds_box 0 rfl) rfl)) ?_; refine ok_p rfl rfl rfl (by exact ps_assign rfl rfl) ?_; refine ok_nil ?_; refine ok_env [(0, _), (1, _), (2, _), (9, _), (10, _), (11, _)] ⟨rfl, rfl, rfl, rfl, rfl, rfl, trivial⟩ ?_)
      | (refine ok_region (i := 6) ?_; refine ok_p rfl rfl rfl (by exact ps_move rfl rfl) ?_; refine ok_p rfl rfl rfl (by exact ps_add rfl rfl rfl (by omega)) ?_; refine ok_p rfl rfl rfl (by exact ps_move rfl rfl) ?_; refine ok_p rfl rfl rfl (by exact ps_bld rfl (parts_cons rfl (parts_cons rfl parts_nil)) rfl) ?_; refine ok_m rfl rfl rfl (by exact ms_s1 rfl rfl (fun _ _ w _ => sShowSlot_any _ r w hr)) ?_; rintro y29 hy29; refine ok_p rfl rfl rfl (by exact ps_assign rfl rfl) ?_; refine ok_nil ?_; refine ok_env [(0, _), (1, _), (9, _), (10, _), (12, _)] ⟨rfl, rfl, rfl, rfl, rfl, trivial⟩ ?_)
      | (refine ok_region (i := 7) ?_; refine ok_p rfl rfl rfl (by exact ps_move rfl rfl) ?_; refine ok_p rfl rfl rfl (by exact ps_str rfl rfl rfl rfl) ?_; refine ok_nil ?_; refine ok_env [(0, _), (1, _), (9, _), (10, _), (12, _), (31, _)] ⟨rfl, rfl, rfl, rfl, rfl, rfl, trivial⟩ ?_)
      | (refine ok_region (i := 8) ?_; refine ok_p rfl rfl rfl (by exact ps_move rfl rfl) ?_; refine ok_p rfl rfl rfl (by exact ps_move rfl rfl) ?_; refine ok_p rfl rfl rfl (by exact ps_assign rfl rfl) ?_; refine ok_p rfl rfl rfl (by exact ps_assign rfl rfl) ?_; refine ok_p rfl rfl rfl (by exact ps_assign rfl rfl) ?_; refine ok_nil ?_; refine ok_env [(6, _), (7, _), (8, _)] ⟨rfl, rfl, rfl, trivial⟩ ?_)
      | (refine ok_region (i := 9) ?_; refine ok_p rfl rfl rfl (by exact ps_field rfl rfl (by exact isw_ga _)) ?_; refine ok_p rfl rfl rfl (by exact ps_load rfl rfl (by exact Rds.cell (rds_box 1 rfl) rfl)) ?_; refine ok_p rfl rfl rfl (by exact ps_int rfl rfl rfl rfl) ?_; refine ok_p rfl rfl rfl (by exact ps_move rfl rfl) ?_; refine ok_pg rfl rfl rfl rfl rfl (gT _) (fun hp => by (have hpd := hp; (try simp only [decide_eq_true_eq, decide_eq_false_iff_not, Bool.or_eq_true, Bool.or_eq_false_iff, Bool.and_eq_true, Bool.and_eq_false_iff, Bool.not_eq_true', Bool.not_eq_false', bne_iff_ne, beq_iff_eq, bne_eq_false_iff_eq, beq_eq_false_iff_ne, ne_eq, Bool.not_true, Bool.not_false, Bool.false_eq_true, Bool.true_eq_false, inB_true, inB_false] at hpd); exact ps_field rfl (by exact rfl) (by exact isw_ga _))) ?_; refine ok_pg rfl rfl rfl rfl rfl (gT _) (fun hp => by (have hpd := hp; (try simp only [decide_eq_true_eq, decide_eq_false_iff_not, Bool.or_eq_true, Bool.or_eq_false_iff, Bool.and_eq_true, Bool.and_eq_false_iff, Bool.not_eq_true', Bool.not_eq_false', bne_iff_ne, beq_iff_eq, bne_eq_false_iff_eq, beq_eq_false_iff_ne, ne_eq, Bool.not_true, Bool.not_false, Bool.false_eq_true, Bool.true_eq_false, inB_true, inB_false] at hpd); exact ps_load rfl (by (refine og rfl ?_; assumption)) (by exact Rds.cell (rds_box 1 rfl) rfl))) ?_; refine ok_pg rfl rfl rfl rfl rfl (gT _) (fun hp => by (have hpd := hp; (try simp only [decide_eq_true_eq, decide_eq_false_iff_not, Bool.or_eq_true, Bool.or_eq_false_iff, Bool.and_eq_true, Bool.and_eq_false_iff, Bool.not_eq_true', Bool.not_eq_false', bne_iff_ne, beq_iff_eq, bne_eq_false_iff_eq, beq_eq_false_iff_ne, ne_eq, Bool.not_true, Bool.not_false, Bool.false_eq_true, Bool.true_eq_false, inB_true, inB_false] at hpd); exact ps_field rfl (by exact rfl) (by exact isw_ga _))) ?_; refine ok_pg rfl rfl rfl rfl rfl (gT _) (fun hp => by (have hpd := hp; (try simp only [decide_eq_true_eq, decide_eq_false_iff_not, Bool.or_eq_true, Bool.or_eq_false_iff, Bool.and_eq_true, Bool.and_eq_false_iff, Bool.not_eq_true', Bool.not_eq_false', bne_iff_ne, beq_iff_eq, bne_eq_false_iff_eq, beq_eq_false_iff_ne, ne_eq, Bool.not_true, Bool.not_false, Bool.false_eq_true, Bool.true_eq_false, inB_true, inB_false] at hpd); exact ps_load rfl (by (refine og rfl ?_; assumption)) (by exact Rds.cell (rds_box 0 rfl) rfl))) ?_; refine ok_pg rfl rfl rfl rfl rfl (gT _) (fun hp => by (have hpd := hp; (try simp only [decide_eq_true_eq, decide_eq_false_iff_not, Bool.or_eq_true, Bool.or_eq_false_iff, Bool.and_eq_true, Bool.and_eq_false_iff, Bool.not_eq_true', Bool.not_eq_false', bne_iff_ne, beq_iff_eq, bne_eq_false_iff_eq, beq_eq_false_iff_ne, ne_eq, Bool.not_true, Bool.not_false, Bool.false_eq_true, Bool.true_eq_false, inB_true, inB_false] at hpd); exact ps_int rfl (by (refine og rfl ?_; assumption)) (by (refine og rfl ?_; assumption)) rfl)) ?_; refine ok_p rfl rfl rfl (by exact ps_and rfl rfl rfl) ?_; refine ok_nil ?_; refine ok_env [(0, _), (1, _), (12, _), (43, _)] ⟨rfl, rfl, rfl, rfl, trivial⟩ ?_)
      | (refine ok_region (i := 10) ?_; refine ok_p rfl rfl rfl (by exact ps_move rfl rfl) ?_; refine ok_p rfl rfl rfl (by exact ps_move rfl rfl) ?_; refine ok_p rfl rfl rfl (by exact ps_assign rfl rfl) ?_; refine ok_p rfl rfl rfl (by exact ps_assign rfl rfl) ?_; refine ok_p rfl rfl rfl (by exact ps_assign rfl rfl) ?_; refine ok_nil ?_; refine ok_env [(6, _), (7, _), (8, _)] ⟨rfl, rfl, rfl, trivial⟩ ?_)
      | (refine ok_region (i := 11) ?_; refine ok_p rfl rfl rfl (by exact ps_move rfl rfl) ?_; refine ok_p rfl rfl rfl (by exact ps_move rfl rfl) ?_; refine ok_p rfl rfl rfl (by exact ps_assign rfl rfl) ?_; refine ok_p rfl rfl rfl (by exact ps_assign rfl rfl) ?_; refine ok_p rfl rfl rfl (by exact ps_assign rfl rfl) ?_; refine ok_nil ?_; refine ok_env [(6, _), (7, _), (8, _)] ⟨rfl, rfl, rfl, trivial⟩ ?_))
    all_goals first
      | (exfalso; omega)
      | (rw [if_pos (sEq_t (by assumption))]; exact ok_endL (vs := [_, _, _]) rfl ⟨rfl, rfl, rfl, trivial⟩ (fun w' hw => ⟨rfl, hw.below⟩))
      | (rw [if_neg (sEq_f (by assumption)), if_pos (by omega)]; exact ok_endL (vs := [_, _, _]) rfl ⟨rfl, rfl, rfl, trivial⟩ (fun w' hw => ⟨rfl, hw.below⟩))
      | (rw [if_neg (sEq_f (by assumption)), if_neg (by omega)]; exact ok_endL (vs := [_, _, _]) rfl ⟨rfl, rfl, rfl, trivial⟩ (fun w' hw => ⟨rfl, hw.below⟩))
end Go.Proofs.Ytfcnimglcialbaa
