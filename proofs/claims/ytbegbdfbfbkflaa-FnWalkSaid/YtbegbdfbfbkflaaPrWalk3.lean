/- Texts of this claim, one behind the other: Sym, StbR, Stb, CptP, Eng12, Eng13, CatEnt, Eng16, Eng17, Cpt, WkQ, WkV, WkS. -/
import Derived.Test.YtbegbdfbfbkflaaPrWalk2
import Derived.Test.YtbegbdfbfbkflaaPrWalk1
import Derived.Laws.IdiomStrings
import Derived.Lib.AppendStr
import Derived.Lib.AppendZerosOnto
import Derived.Lib.Overlaps
/- The stable merge of two parts in order and the stable sort, walked. -/
namespace Go.Proofs.Ytbegbdfbfbkflaa
open Go.RowKit
set_option maxHeartbeats 8000000
set_option maxRecDepth 20000
set_option linter.unusedVariables false
set_option linter.unusedSimpArgs false
attribute [local irreducible] Calls
theorem rot_triv {L : List Ent} {a m b : Nat} (h : a = m ∨ m = b) (h2 : a ≤ m ∧ m ≤ b) (hb : b ≤ L.length) : rotL L a m b = L := nth_ext (rotL_len _ _ _ _) fun k hk => by
  rw [rotL_len] at hk
  rw [rotL_nth hk]
  repeat' split
  all_goals first
    | rfl
    | omega
    | (congr 1; omega)
theorem rot_up {L : List Ent} {a k : Nat} (h : k + 1 < L.length) (ha : a ≤ k) : swapL (rotL L a (a + 1) (k + 1)) k (k + 1) = rotL L a (a + 1) (k + 2) := nth_ext (by rw [swap_len, rotL_len, rotL_len]) fun q hq => by
  rw [swap_len, rotL_len] at hq
  rw [swap_nth (by rw [rotL_len]; omega) (by rw [rotL_len]; omega), rotL_nth (by omega), rotL_nth (by omega), rotL_nth hq, rotL_nth hq]
  repeat' split
  all_goals first
    | rfl
    | omega
    | (congr 1; omega)
theorem rot_dn {L : List Ent} {k m : Nat} (h : m < L.length) (h0 : 0 < k) (hk : k ≤ m) : swapL (rotL L k m (m + 1)) k (k - 1) = rotL L (k - 1) m (m + 1) := nth_ext (by rw [swap_len, rotL_len, rotL_len]) fun q hq => by
  rw [swap_len, rotL_len] at hq
  rw [swap_nth (by rw [rotL_len]; omega) (by rw [rotL_len]; omega), rotL_nth (by omega), rotL_nth (by omega), rotL_nth hq, rotL_nth hq]
  repeat' split
  all_goals first
    | rfl
    | omega
    | (congr 1; omega)
/-- The searches. -/
structure BsL (L : List Ent) (a m b : Nat) where
  i : Nat
  j : Nat
  h : m ≤ i ∧ i ≤ j ∧ j ≤ b
  lo : ∀ k, m ≤ k → k < i → aheadE (nth L k) (nth L a) = true
  hi : ∀ k, j ≤ k → k < b → leE (nth L a) (nth L k) = true
structure BsR (L : List Ent) (a m : Nat) where
  i : Nat
  j : Nat
  h : a ≤ i ∧ i ≤ j ∧ j ≤ m
  lo : ∀ k, a ≤ k → k < i → leE (nth L k) (nth L m) = true
  hi : ∀ k, j ≤ k → k < m → aheadE (nth L m) (nth L k) = true
structure BsM (L : List Ent) (s0 r0 p : Nat) where
  s : Nat
  r : Nat
  h : s0 ≤ s ∧ s ≤ r ∧ r ≤ r0
  lo : s0 < s → leE (nth L (s - 1)) (nth L (p - (s - 1))) = true
  hi : r < r0 → aheadE (nth L (p - r)) (nth L r) = true
theorem nle_of {a b : Ent} (h : aheadE a b = false) : leE b a = true := by unfold leE; rw [h]; rfl
/-- The search in the middle ends where the turn is to be. -/
theorem sym_found {L : List Ent} {a m b s0 r0 s : Nat} (ham : a < m) (hmb : m < b) (h0 : (m > (a + b) / 2 ∧ s0 = (a + b) / 2 + m - b ∧ r0 = (a + b) / 2) ∨ (¬ m > (a + b) / 2 ∧ s0 = a ∧ r0 = m)) (hs : s0 ≤ s ∧ s ≤ r0)
    (lo : s0 < s → leE (nth L (s - 1)) (nth L ((a + b) / 2 + m - 1 - (s - 1))) = true) (hi : s < r0 → aheadE (nth L ((a + b) / 2 + m - 1 - s)) (nth L s) = true) : SymS L a m b s ((a + b) / 2 + m - s) := by
  refine ⟨by omega, by omega, fun h1 h2 => ?_, fun h1 h2 => ?_⟩
  · have := lo (by omega)
    rw [show (a + b) / 2 + m - 1 - (s - 1) = (a + b) / 2 + m - s by omega] at this
    exact this
  · have := hi (by omega)
    rw [show (a + b) / 2 + m - 1 - s = (a + b) / 2 + m - s - 1 by omega] at this
    exact this
theorem sym_fin {L L1 M N : List Ent} {a s d e b : Nat} (F : SegE L L1 a b ∧ srtIn L1 a s ∧ srtIn L1 s d ∧ srtIn L1 d e ∧ srtIn L1 e b ∧ ∀ i j, a ≤ i → i < d → d ≤ j → j < b → leE (nth L1 i) (nth L1 j) = true) (h1 : (SegE L1 M a d ∧ srtIn M a d) ∨ (M = L1 ∧ (a = s ∨ s = d) ∧ a ≤ d)) (h2 : (SegE M N d b ∧ srtIn N d b) ∨ (N = M ∧ (d = e ∨ e = b) ∧ d ≤ b)) (had : a ≤ d ∧ d ≤ b := by omega) : SegE L N a b ∧ srtIn N a b := by
  obtain ⟨f0, f1, f2, f3, f4, f5⟩ := F
  have g1 : SegE L1 M a d ∧ srtIn M a d := by
    rcases h1 with h | ⟨rfl, h | h, _⟩
    · exact h
    · subst h; exact ⟨SegE.refl _ _ _, f2⟩
    · subst h; exact ⟨SegE.refl _ _ _, f1⟩
  have g2 : SegE M N d b ∧ srtIn N d b := by
    rcases h2 with h | ⟨rfl, h | h, _⟩
    · exact h
    · subst h; exact ⟨SegE.refl _ _ _, srt_out g1.1 f4 (.inr (Nat.le_refl _))⟩
    · subst h; exact ⟨SegE.refl _ _ _, srt_out g1.1 f3 (.inr (Nat.le_refl _))⟩
  obtain ⟨q1, q2⟩ := sym_end g1.1 g2.1 g1.2 g2.2 f5 had
  exact ⟨f0.trans q1, q2⟩
theorem symM_c (A : Option Addr) (n c : Nat) (hl : n ≤ 4194304) : ∀ (d a m b : Nat) (L : List Ent) (hd : b - a ≤ d) (hn : L.length = n) (ham : a < m) (hmb : m < b) (hbn : b ≤ n) (s1 : srtIn L a m) (s2 : srtIn L m b) {base : Nat} {w0 w : World} {H : List HObj} {G : List World} (hw : WOk base w0 (rwE A n c L :: H) G w),
    Calls Try.prog 257 #[.slice A n c, .int .i64 a, .int .i64 m, .int .i64 b, cmpV] w fun e w' => ∃ y : Ys, e = .returned (.tuple #[]) ∧ (SegE L (rM y) a b ∧ srtIn (rM y) a b) ∧ WOk base w0 (rwE A n c (rM y) :: H) G w'
  | 0, a, m, b, L, hd, hn, ham, hmb, hbn, s1, s2, base, w0, w, H, G, hw => by omega
  | d + 1, a, m, b, L, hd, hn, ham, hmb, hbn, s1, s2, base, w0, w, H, G, hw => by
    have ih := Lib.hid (symM_c A n c hl d)
    have hA : 0 < n → IsS A := fun h => isS_own (hw.own _ List.mem_cons_self) h
    have S1 := Lib.hid s1; clear s1
    have S2 := Lib.hid s2; clear s2
    refine ok_enterW 220 Try.func257 rfl rfl rfl hw ?_
    repeat' (first
      | refine ok_seq ?_
      | refine ok_then ?_
      | refine ok_block ?_
      | (refine ok_cond rfl (fun hc => ?_) (fun hc => ?_) <;> (have hd := hc; (try simp only [decide_eq_true_eq, decide_eq_false_iff_not, Bool.or_eq_true, Bool.or_eq_false_iff, Bool.and_eq_true, Bool.and_eq_false_iff, Bool.not_eq_true', Bool.not_eq_false', bne_iff_ne, beq_iff_eq, bne_eq_false_iff_eq, beq_eq_false_iff_ne, ne_eq, Bool.not_true, Bool.not_false, Bool.false_eq_true, Bool.true_eq_false, inB_true, inB_false] at hd)))
      | refine ok_skip ?_
      | (refine ok_region (i := 0) ?_; refine ok_p rfl rfl rfl (by exact ps_move rfl rfl) ?_; refine ok_p rfl rfl rfl (by exact ps_move rfl rfl) ?_; refine ok_p rfl rfl rfl (by exact ps_sub rfl rfl rfl (by omega)) ?_; refine ok_p rfl rfl rfl (by exact ps_int rfl rfl rfl rfl) ?_; refine ok_nil ?_; refine ok_env [(0, _), (1, _), (2, _), (3, _), (4, _), (28, _)] ⟨rfl, rfl, rfl, rfl, rfl, rfl, trivial⟩ ?_)
      | (refine ok_region (i := 1) ?_; refine ok_p rfl rfl rfl (by exact ps_move rfl rfl) ?_; refine ok_p rfl rfl rfl (by exact ps_assign rfl rfl) ?_; refine ok_nil ?_; refine ok_env [(0, _), (1, _), (3, _), (4, _), (10, _)] ⟨rfl, rfl, rfl, rfl, rfl, trivial⟩ ?_)
      | (refine ok_region (i := 2) ?_; refine ok_p rfl rfl rfl (by exact ps_move rfl rfl) ?_; refine ok_p rfl rfl rfl (by exact ps_assign rfl rfl) ?_; refine ok_nil ?_; refine ok_env [(0, _), (1, _), (4, _), (10, _), (11, _)] ⟨rfl, rfl, rfl, rfl, rfl, trivial⟩ ?_)
      | (refine ok_region (i := 12) ?_; refine ok_p rfl rfl rfl (by exact ps_move rfl rfl) ?_; refine ok_p rfl rfl rfl (by exact ps_move rfl rfl) ?_; refine ok_p rfl rfl rfl (by exact ps_sub rfl rfl rfl (by omega)) ?_; refine ok_p rfl rfl rfl (by exact ps_int rfl rfl rfl rfl) ?_; refine ok_nil ?_; refine ok_env [(0, _), (1, _), (2, _), (3, _), (4, _), (80, _)] ⟨rfl, rfl, rfl, rfl, rfl, rfl, trivial⟩ ?_)
      | (refine ok_region (i := 13) ?_; refine ok_p rfl rfl rfl (by exact ps_move rfl rfl) ?_; refine ok_p rfl rfl rfl (by exact ps_assign rfl rfl) ?_; refine ok_nil ?_; refine ok_env [(0, _), (2, _), (4, _), (14, _)] ⟨rfl, rfl, rfl, rfl, trivial⟩ ?_)
      | (refine ok_region (i := 14) ?_; refine ok_p rfl rfl rfl (by exact ps_move rfl rfl) ?_; refine ok_p rfl rfl rfl (by exact ps_assign rfl rfl) ?_; refine ok_nil ?_; refine ok_env [(0, _), (2, _), (4, _), (14, _), (15, _)] ⟨rfl, rfl, rfl, rfl, rfl, trivial⟩ ?_)
      | (refine ok_region (i := 24) ?_; refine ok_p rfl rfl rfl (by exact ps_move rfl rfl) ?_; refine ok_p rfl rfl rfl (by exact ps_move rfl rfl) ?_; refine ok_p rfl rfl rfl (by exact ps_add rfl rfl rfl (by omega)) ?_; refine ok_p rfl rfl rfl (by exact ps_conv_id rfl rfl (IntWalk.u64_in _ (by omega))) ?_; refine ok_p rfl rfl rfl (by exact ps_half rfl rfl) ?_; refine ok_p rfl rfl rfl (by exact ps_conv_id rfl rfl (IntWalk.i64_in _ (by omega))) ?_; refine ok_p rfl rfl rfl (by exact ps_assign rfl rfl) ?_; refine ok_nil ?_; refine ok_env [(0, _), (1, _), (2, _), (3, _), (4, _), (18, _)] ⟨rfl, rfl, rfl, rfl, rfl, rfl, trivial⟩ ?_)
      | (refine ok_region (i := 25) ?_; refine ok_p rfl rfl rfl (by exact ps_move rfl rfl) ?_; refine ok_p rfl rfl rfl (by exact ps_move rfl rfl) ?_; refine ok_p rfl rfl rfl (by exact ps_cast (v' := .int .i64 (((a + b) / 2 + m : Nat) : Int)) (ps_add rfl rfl rfl (by omega)) (by push_cast; rfl)) ?_; refine ok_p rfl rfl rfl (by exact ps_assign rfl rfl) ?_; refine ok_nil ?_; refine ok_env [(0, _), (1, _), (2, _), (3, _), (4, _), (18, _), (19, _)] ⟨rfl, rfl, rfl, rfl, rfl, rfl, rfl, trivial⟩ ?_)
      | (refine ok_region (i := 26) ?_; refine ok_p rfl rfl rfl (by exact ps_assign rfl rfl) ?_; refine ok_p rfl rfl rfl (by exact ps_assign rfl rfl) ?_; refine ok_nil ?_; refine ok_env [(0, _), (1, _), (2, _), (3, _), (4, _), (18, _), (19, _)] ⟨rfl, rfl, rfl, rfl, rfl, rfl, rfl, trivial⟩ ?_)
      | (refine ok_region (i := 27) ?_; refine ok_p rfl rfl rfl (by exact ps_move rfl rfl) ?_; refine ok_p rfl rfl rfl (by exact ps_move rfl rfl) ?_; refine ok_p rfl rfl rfl (by exact ps_int rfl rfl rfl rfl) ?_; refine ok_nil ?_; refine ok_env [(0, _), (1, _), (2, _), (3, _), (4, _), (18, _), (19, _), (140, _)] ⟨rfl, rfl, rfl, rfl, rfl, rfl, rfl, rfl, trivial⟩ ?_)
      | (refine ok_region (i := 28) ?_; refine ok_p rfl rfl rfl (by exact ps_move rfl rfl) ?_; refine ok_p rfl rfl rfl (by exact ps_move rfl rfl) ?_; refine ok_p rfl rfl rfl (by exact ps_cast (v' := .int .i64 (((a + b) / 2 + m - b : Nat) : Int)) (ps_sub rfl rfl rfl (by omega)) (by congr 1; omega)) ?_; refine ok_p rfl rfl rfl (by exact ps_assign rfl rfl) ?_; refine ok_nil ?_; refine ok_env [(0, _), (1, _), (2, _), (3, _), (4, _), (18, _), (19, _), (20, _)] ⟨rfl, rfl, rfl, rfl, rfl, rfl, rfl, rfl, trivial⟩ ?_)
      | (refine ok_region (i := 29) ?_; refine ok_p rfl rfl rfl (by exact ps_move rfl rfl) ?_; refine ok_p rfl rfl rfl (by exact ps_assign rfl rfl) ?_; refine ok_nil ?_; refine ok_env [(0, _), (1, _), (2, _), (3, _), (4, _), (18, _), (19, _), (20, _), (21, _)] ⟨rfl, rfl, rfl, rfl, rfl, rfl, rfl, rfl, rfl, trivial⟩ ?_)
      | (refine ok_region (i := 30) ?_; refine ok_p rfl rfl rfl (by exact ps_move rfl rfl) ?_; refine ok_p rfl rfl rfl (by exact ps_assign rfl rfl) ?_; refine ok_nil ?_; refine ok_env [(0, _), (1, _), (2, _), (3, _), (4, _), (18, _), (19, _), (20, _)] ⟨rfl, rfl, rfl, rfl, rfl, rfl, rfl, rfl, trivial⟩ ?_)
      | (refine ok_region (i := 31) ?_; refine ok_p rfl rfl rfl (by exact ps_move rfl rfl) ?_; refine ok_p rfl rfl rfl (by exact ps_assign rfl rfl) ?_; refine ok_nil ?_; refine ok_env [(0, _), (1, _), (2, _), (3, _), (4, _), (18, _), (19, _), (20, _), (21, _)] ⟨rfl, rfl, rfl, rfl, rfl, rfl, rfl, rfl, rfl, trivial⟩ ?_)
      | (refine ok_region (i := 32) ?_; refine ok_p rfl rfl rfl (by exact ps_move rfl rfl) ?_; refine ok_p rfl rfl rfl (by exact ps_cast (v' := .int .i64 (((a + b) / 2 + m - 1 : Nat) : Int)) (ps_sub rfl rfl rfl (by omega)) (by congr 1; omega)) ?_; refine ok_p rfl rfl rfl (by exact ps_assign rfl rfl) ?_; refine ok_nil ?_; refine ok_env [(0, _), (1, _), (2, _), (3, _), (4, _), (18, _), (19, _), (20, _), (21, _), (22, _)] ⟨rfl, rfl, rfl, rfl, rfl, rfl, rfl, rfl, rfl, rfl, trivial⟩ ?_))
    · obtain rfl : m = a + 1 := by omega
      clear hc hd
      refine ok_loop (ι := BsL L a (a + 1) b) (fun q => q.j - q.i) (fun q => ([(0, .slice A n c), (1, .int .i64 a), (4, cmpV), (10, .int .i64 q.i), (11, .int .i64 q.j)], rwE A n c L :: H, _)) ⟨a + 1, b, by omega, fun k k1 k2 => by omega, fun k k1 k2 => by omega⟩ (fun ac w he hw => ⟨⟨a + 1, b, by omega, fun k k1 k2 => by omega, fun k k1 k2 => by omega⟩, he.sub ⟨rfl, rfl, rfl, rfl, rfl, trivial⟩, hw⟩) ?_
      rintro ⟨i, j, hij, lo, hi⟩
      simp only at hij ⊢
      have LO := Lib.hid lo; clear lo
      have HI := Lib.hid hi; clear hi
      repeat' (first
        | refine ok_seq ?_
        | refine ok_then ?_
        | refine ok_block ?_
        | refine ok_in_normal ?_
        | (refine ok_cond rfl (fun hc => ?_) (fun hc => ?_) <;> (have hd := hc; (try simp only [decide_eq_true_eq, decide_eq_false_iff_not, Bool.or_eq_true, Bool.or_eq_false_iff, Bool.and_eq_true, Bool.and_eq_false_iff, Bool.not_eq_true', Bool.not_eq_false', bne_iff_ne, beq_iff_eq, bne_eq_false_iff_eq, beq_eq_false_iff_ne, ne_eq, Bool.not_true, Bool.not_false, Bool.false_eq_true, Bool.true_eq_false, inB_true, inB_false] at hd)))
        | refine ok_exit ?_
        | refine ok_skip ?_
        | (refine ok_region (i := 3) ?_; refine ok_p rfl rfl rfl (by exact ps_move rfl rfl) ?_; refine ok_p rfl rfl rfl (by exact ps_move rfl rfl) ?_; refine ok_p rfl rfl rfl (by exact ps_int rfl rfl rfl rfl) ?_; refine ok_nil ?_; refine ok_env [(0, _), (1, _), (4, _), (10, _), (11, _), (33, _)] ⟨rfl, rfl, rfl, rfl, rfl, rfl, trivial⟩ ?_)
        | (refine ok_region (i := 4) ?_; refine ok_p rfl rfl rfl (by exact ps_move rfl rfl) ?_; refine ok_p rfl rfl rfl (by exact ps_move rfl rfl) ?_; refine ok_p rfl rfl rfl (by exact ps_add rfl rfl rfl (by omega)) ?_; refine ok_p rfl rfl rfl (by exact ps_conv_id rfl rfl (IntWalk.u64_in _ (by omega))) ?_; refine ok_p rfl rfl rfl (by exact ps_half rfl rfl) ?_; refine ok_p rfl rfl rfl (by exact ps_conv_id rfl rfl (IntWalk.i64_in _ (by omega))) ?_; refine ok_p rfl rfl rfl (by exact ps_assign rfl rfl) ?_; refine ok_nil ?_; refine ok_env [(0, _), (1, _), (4, _), (10, _), (11, _), (12, _)] ⟨rfl, rfl, rfl, rfl, rfl, rfl, trivial⟩ ?_)
        | (refine ok_draw (id := 5) 11 rfl (by kernel_rfl) (by kernel_rfl) rfl (by repeat (first | exact pq_body | refine pq_then ?_ | refine pq_in ?_)) [0] (by decide) rfl ?_; refine okT_take (i := 0) rfl (by kernel_rfl) rfl rfl rfl (by exact ps_move rfl rfl) ?_; refine okT_take (i := 1) rfl (by kernel_rfl) rfl rfl rfl (by exact ps_move rfl rfl) ?_; refine okT_take (i := 2) rfl (by kernel_rfl) rfl rfl rfl (by exact ps_move rfl rfl) ?_; refine okT_take (i := 3) rfl (by kernel_rfl) rfl rfl rfl (by exact ps_indexN rfl rfl rfl (by omega) (by exact isw_row 0 rfl (by omega))) ?_; refine okT_take (i := 4) rfl (by kernel_rfl) rfl rfl rfl (by exact ps_loadsF rfl rfl (by exact rds_row 0 rfl) (by rfl) (by rfl) (by omega) rfl) ?_; refine okT_take (i := 5) rfl (by kernel_rfl) rfl rfl rfl (by exact ps_move rfl rfl) ?_; refine okT_take (i := 6) rfl (by kernel_rfl) rfl rfl rfl (by exact ps_move rfl rfl) ?_; refine okT_take (i := 7) rfl (by kernel_rfl) rfl rfl rfl (by exact ps_indexN rfl rfl rfl (by omega) (by exact isw_row 0 rfl (by omega))) ?_; refine okT_take (i := 8) rfl (by kernel_rfl) rfl rfl rfl (by exact ps_loadsF rfl rfl (by exact rds_row 0 rfl) (by rfl) (by rfl) (by omega) rfl) ?_; refine okT_one (i := 9) rfl rfl (by kernel_rfl) rfl rfl rfl (by exact ms_v2 rfl rfl rfl rfl (fun _ _ w hw => compareEnts_c (nth L ((i + j) / 2)) (nth L a) w)) (fun y w _ h => by exact h.sel [0] (by decide) rfl (fun _ h => h)) ?_; rintro y49 hy49; refine okT_take (i := 10) rfl (by kernel_rfl) rfl rfl rfl (by exact ps_int rfl rfl rfl rfl) ?_; refine okT_done (by kernel_rfl) ?_; refine ok_nil ?_; refine ok_env [(0, _), (1, _), (4, _), (10, _), (11, _), (12, _), (50, _)] ⟨rfl, rfl, rfl, rfl, rfl, rfl, rfl, trivial⟩ ?_)
        | (refine ok_region (i := 6) ?_; refine ok_p rfl rfl rfl (by exact ps_move rfl rfl) ?_; refine ok_p rfl rfl rfl (by exact ps_add rfl rfl rfl (by omega)) ?_; refine ok_p rfl rfl rfl (by exact ps_assign rfl rfl) ?_; refine ok_nil ?_; refine ok_env [(0, _), (1, _), (4, _), (10, _), (11, _)] ⟨rfl, rfl, rfl, rfl, rfl, trivial⟩ ?_)
        | (refine ok_region (i := 7) ?_; refine ok_p rfl rfl rfl (by exact ps_move rfl rfl) ?_; refine ok_p rfl rfl rfl (by exact ps_assign rfl rfl) ?_; refine ok_nil ?_; refine ok_env [(0, _), (1, _), (4, _), (10, _), (11, _)] ⟨rfl, rfl, rfl, rfl, rfl, trivial⟩ ?_)
        | (refine ok_region (i := 8) ?_; refine ok_p rfl rfl rfl (by exact ps_move rfl rfl) ?_; refine ok_p rfl rfl rfl (by exact ps_assign rfl rfl) ?_; refine ok_nil ?_; refine ok_env [(0, _), (10, _), (13, _)] ⟨rfl, rfl, rfl, trivial⟩ ?_))
      · rw [cmpE_lt] at hc
        refine fun ac w' he hw => ⟨⟨(i + j) / 2 + 1, j, by omega, fun k k1 k2 => ?_, fun k k1 k2 => HI.out k k1 k2⟩, by simp only; omega, he.sub ⟨rfl, rfl, rfl, rfl, rfl, trivial⟩, hw⟩
        exact le_lt (srt_at S2.out k1 (by omega) (by omega)) hc
      · rw [cmpE_lt] at hc
        refine fun ac w' he hw => ⟨⟨i, (i + j) / 2, by omega, fun k k1 k2 => LO.out k k1 k2, fun k k1 k2 => ?_⟩, by simp only; omega, he.sub ⟨rfl, rfl, rfl, rfl, rfl, trivial⟩, hw⟩
        exact leE_trans (nle_of hc) (srt_at S2.out (by omega) k1 k2)
      have hij2 : i = j := by omega
      subst hij2
      clear hc hd
      refine ok_loop (ι := { k : Nat // a ≤ k ∧ k + 1 ≤ i }) (fun k => i - k.1) (fun k => ([(0, .slice A n c), (10, .int .i64 i), (13, .int .i64 k.1)], rwE A n c (rotL L a (a + 1) (k.1 + 1)) :: H, _)) ⟨a, by omega⟩ (fun ac w he hw => ⟨⟨a, by omega⟩, he.sub ⟨rfl, rfl, rfl, trivial⟩, by simp only; rw [rot_triv (.inr rfl) (by omega) (by omega)]; exact hw⟩) ?_
      rintro ⟨k, hk1, hk2⟩
      simp only at hk1 hk2 ⊢
      have hup := rot_up (L := L) (a := a) (k := k)
      have HU := Lib.hid hup; clear hup
      have hcl : (rotL L a (a + 1) (k + 1)).length = n := by rw [rotL_len]; exact hn
      generalize hC : rotL L a (a + 1) (k + 1) = C at hcl HU ⊢
      repeat' (first
        | refine ok_seq ?_
        | refine ok_then ?_
        | refine ok_then_ret ?_
        | refine ok_then_exit ?_
        | refine ok_block ?_
        | refine ok_in_normal ?_
        | refine ok_in_exit ?_
        | (refine ok_cond rfl (fun hc => ?_) (fun hc => ?_) <;> (have hd := hc; (try simp only [decide_eq_true_eq, decide_eq_false_iff_not, Bool.or_eq_true, Bool.or_eq_false_iff, Bool.and_eq_true, Bool.and_eq_false_iff, Bool.not_eq_true', Bool.not_eq_false', bne_iff_ne, beq_iff_eq, bne_eq_false_iff_eq, beq_eq_false_iff_ne, ne_eq, Bool.not_true, Bool.not_false, Bool.false_eq_true, Bool.true_eq_false, inB_true, inB_false] at hd)))
        | refine ok_ret ?_
        | refine ok_exit ?_
        | refine ok_skip ?_
        | (refine ok_region (i := 9) ?_; refine ok_p rfl rfl rfl (by exact ps_move rfl rfl) ?_; refine ok_p rfl rfl rfl (by exact ps_move rfl rfl) ?_; refine ok_p rfl rfl rfl (by exact ps_sub rfl rfl rfl (by omega)) ?_; refine ok_p rfl rfl rfl (by exact ps_int rfl rfl rfl rfl) ?_; refine ok_nil ?_; refine ok_env [(0, _), (10, _), (13, _), (58, _)] ⟨rfl, rfl, rfl, rfl, trivial⟩ ?_)
        | (refine ok_region (i := 10) ?_; refine ok_p rfl rfl rfl (by exact ps_move rfl rfl) ?_; refine ok_p rfl rfl rfl (by exact ps_add rfl rfl rfl (by omega)) ?_; refine ok_p rfl rfl rfl (by exact ps_assign rfl rfl) ?_; refine ok_nil ?_; refine ok_env [(0, _), (10, _), (13, _)] ⟨rfl, rfl, rfl, trivial⟩ ?_)
        | (apply mrg0; (focus (intro hk; refine ok_draw (id := 11) 16 rfl (by kernel_rfl) (by kernel_rfl) rfl (by repeat (first | exact pq_body | refine pq_then ?_ | refine pq_in ?_)) [] (by decide) rfl ?_; refine okT_take (i := 0) rfl (by kernel_rfl) rfl rfl rfl (by exact ps_move rfl rfl) ?_; refine okT_take (i := 1) rfl (by kernel_rfl) rfl rfl rfl (by exact ps_move rfl rfl) ?_; refine okT_take (i := 2) rfl (by kernel_rfl) rfl rfl rfl (by exact ps_move rfl rfl) ?_; refine okT_take (i := 3) rfl (by kernel_rfl) rfl rfl rfl (by exact ps_move rfl rfl) ?_; refine okT_take (i := 4) rfl (by kernel_rfl) rfl rfl rfl (by exact ps_cast (v' := .int .i64 ((k + 1 : Nat) : Int)) (ps_add rfl rfl rfl (by omega)) (by push_cast; rfl)) ?_; refine okT_take (i := 5) rfl (by kernel_rfl) rfl rfl rfl (by exact ps_move rfl rfl) ?_; refine okT_take (i := 6) rfl (by kernel_rfl) rfl rfl rfl (by exact ps_move rfl rfl) ?_; refine okT_take (i := 7) rfl (by kernel_rfl) rfl rfl rfl (by exact ps_cast (v' := .int .i64 ((k + 1 : Nat) : Int)) (ps_add rfl rfl rfl (by omega)) (by push_cast; rfl)) ?_; refine okT_take (i := 8) rfl (by kernel_rfl) rfl rfl rfl (by exact ps_indexN rfl rfl rfl (by omega) (isw_of (hA (by omega)))) ?_; refine okT_take (i := 10) rfl (by kernel_rfl) rfl rfl rfl (by exact ps_move rfl rfl) ?_; refine okT_take (i := 11) rfl (by kernel_rfl) rfl rfl rfl (by exact ps_move rfl rfl) ?_; refine okT_take (i := 12) rfl (by kernel_rfl) rfl rfl rfl (by exact ps_indexN rfl rfl rfl (by omega) (isw_of (hA (by omega)))) ?_; refine okT_many (by kernel_rfl) (all_cons (at_m (i := 9) rfl rfl rfl rfl rfl (by exact ms_ps (by exact ps_loadsF (α := Ent) (l := C) (i := k + 1) rfl rfl (rds_row 0 rfl) rfl rfl (by omega) rfl)) (fun y w _ h => by exact h.sel [] (by decide) rfl (fun _ h => h)) ?_) (all_cons (at_m (i := 13) rfl rfl rfl rfl rfl (by exact ms_ps (by exact ps_loadsF (α := Ent) (l := C) (i := k) rfl rfl (rds_row 0 rfl) rfl rfl (by omega) rfl)) (fun y w _ h => by exact h.sel [] (by decide) rfl (fun _ h => h)) ?_) all_nil)); (focus (rintro y70 hy70; refine okT_one (i := 13) rfl rfl (by kernel_rfl) rfl rfl rfl (by exact ms_ps (by exact ps_loadsF (α := Ent) (l := C) (i := k) rfl rfl (rds_row 0 rfl) rfl rfl (by omega) rfl)) (fun y w _ h => by exact h.sel [] (by decide) rfl (fun _ h => h)) ?_; rintro y74 hy74; refine okT_take (i := 14) rfl (by kernel_rfl) rfl rfl rfl (by exact ps_indexN rfl rfl rfl (by omega) (isw_of (hA (by omega)))) ?_; refine okT_one0 (i := 15) rfl rfl (by kernel_rfl) rfl rfl (by exact ms_setw (α := Ent) 0 k (nth C (k + 1)) rfl rfl rfl rfl rfl rfl rfl rfl rfl (by omega)) (fun y w _ h => by exact h.sel [] (by decide) rfl (fun _ h => h)) ?_; rintro y_ hy_; refine okT_done (by kernel_rfl) ?_; refine ok_p rfl rfl rfl (by exact ps_indexN rfl rfl rfl (by omega) (isw_of (hA (by omega)))) ?_; refine ok_m_ rfl rfl (by exact ms_setw (α := Ent) 0 (k + 1) (nth C k) rfl rfl rfl rfl rfl rfl rfl rfl rfl (by rw [List.length_set]; omega)) ?_; rintro y_ hy_; refine ok_nil ?_; refine ok_env [(0, _), (10, _), (13, _)] ⟨rfl, rfl, rfl, trivial⟩ ?_; exact hk)); (focus (rintro y74 hy74; refine okT_one (i := 9) rfl rfl (by kernel_rfl) rfl rfl rfl (by exact ms_ps (by exact ps_loadsF (α := Ent) (l := C) (i := k + 1) rfl rfl (rds_row 0 rfl) rfl rfl (by omega) rfl)) (fun y w _ h => by exact h.sel [] (by decide) rfl (fun _ h => h)) ?_; rintro y70 hy70; refine okT_take (i := 14) rfl (by kernel_rfl) rfl rfl rfl (by exact ps_indexN rfl rfl rfl (by omega) (isw_of (hA (by omega)))) ?_; refine okT_one0 (i := 15) rfl rfl (by kernel_rfl) rfl rfl (by exact ms_setw (α := Ent) 0 k (nth C (k + 1)) rfl rfl rfl rfl rfl rfl rfl rfl rfl (by omega)) (fun y w _ h => by exact h.sel [] (by decide) rfl (fun _ h => h)) ?_; rintro y_ hy_; refine okT_done (by kernel_rfl) ?_; refine ok_p rfl rfl rfl (by exact ps_indexN rfl rfl rfl (by omega) (isw_of (hA (by omega)))) ?_; refine ok_m_ rfl rfl (by exact ms_setw (α := Ent) 0 (k + 1) (nth C k) rfl rfl rfl rfl rfl rfl rfl rfl rfl (by rw [List.length_set]; omega)) ?_; rintro y_ hy_; refine ok_nil ?_; refine ok_env [(0, _), (10, _), (13, _)] ⟨rfl, rfl, rfl, trivial⟩ ?_; exact hk))))))
      · refine fun ac w' he hw => ⟨⟨k + 1, by omega⟩, by simp only; omega, he.sub ⟨rfl, rfl, rfl, trivial⟩, ?_⟩
        simp only
        rw [← HU.out (by omega) (by omega)]
        exact hw
      · obtain rfl : k + 1 = i := by omega
        obtain ⟨g1, g2⟩ := ins_left (L := L) (a := a) (i := k + 1) (b := b) (by omega) (by omega) S2.out (fun q q1 q2 => LO.out q q1 q2) (fun q q1 q2 => HI.out q q1 q2)
        rw [hC] at g1 g2
        refine ok_endL (vs := []) rfl trivial (fun w' hw => ⟨yM C w, rfl, ?_, ?_⟩)
        · rw [rM_yM]; exact ⟨g1, g2⟩
        · rw [rM_yM]; exact hw
    · obtain rfl : b = m + 1 := by omega
      clear hc hd
      refine ok_loop (ι := BsR L a m) (fun q => q.j - q.i) (fun q => ([(0, .slice A n c), (2, .int .i64 m), (4, cmpV), (14, .int .i64 q.i), (15, .int .i64 q.j)], rwE A n c L :: H, _)) ⟨a, m, by omega, fun k k1 k2 => by omega, fun k k1 k2 => by omega⟩ (fun ac w he hw => ⟨⟨a, m, by omega, fun k k1 k2 => by omega, fun k k1 k2 => by omega⟩, he.sub ⟨rfl, rfl, rfl, rfl, rfl, trivial⟩, hw⟩) ?_
      rintro ⟨i, j, hij, lo, hi⟩
      simp only at hij ⊢
      have LO := Lib.hid lo; clear lo
      have HI := Lib.hid hi; clear hi
      repeat' (first
        | refine ok_seq ?_
        | refine ok_then ?_
        | refine ok_block ?_
        | refine ok_in_normal ?_
        | (refine ok_cond rfl (fun hc => ?_) (fun hc => ?_) <;> (have hd := hc; (try simp only [decide_eq_true_eq, decide_eq_false_iff_not, Bool.or_eq_true, Bool.or_eq_false_iff, Bool.and_eq_true, Bool.and_eq_false_iff, Bool.not_eq_true', Bool.not_eq_false', bne_iff_ne, beq_iff_eq, bne_eq_false_iff_eq, beq_eq_false_iff_ne, ne_eq, Bool.not_true, Bool.not_false, Bool.false_eq_true, Bool.true_eq_false, inB_true, inB_false] at hd)))
        | refine ok_exit ?_
        | refine ok_skip ?_
        | (refine ok_region (i := 15) ?_; refine ok_p rfl rfl rfl (by exact ps_move rfl rfl) ?_; refine ok_p rfl rfl rfl (by exact ps_move rfl rfl) ?_; refine ok_p rfl rfl rfl (by exact ps_int rfl rfl rfl rfl) ?_; refine ok_nil ?_; refine ok_env [(0, _), (2, _), (4, _), (14, _), (15, _), (85, _)] ⟨rfl, rfl, rfl, rfl, rfl, rfl, trivial⟩ ?_)
        | (refine ok_region (i := 16) ?_; refine ok_p rfl rfl rfl (by exact ps_move rfl rfl) ?_; refine ok_p rfl rfl rfl (by exact ps_move rfl rfl) ?_; refine ok_p rfl rfl rfl (by exact ps_add rfl rfl rfl (by omega)) ?_; refine ok_p rfl rfl rfl (by exact ps_conv_id rfl rfl (IntWalk.u64_in _ (by omega))) ?_; refine ok_p rfl rfl rfl (by exact ps_half rfl rfl) ?_; refine ok_p rfl rfl rfl (by exact ps_conv_id rfl rfl (IntWalk.i64_in _ (by omega))) ?_; refine ok_p rfl rfl rfl (by exact ps_assign rfl rfl) ?_; refine ok_nil ?_; refine ok_env [(0, _), (2, _), (4, _), (14, _), (15, _), (16, _)] ⟨rfl, rfl, rfl, rfl, rfl, rfl, trivial⟩ ?_)
        | (refine ok_draw (id := 17) 12 rfl (by kernel_rfl) (by kernel_rfl) rfl (by repeat (first | exact pq_body | refine pq_then ?_ | refine pq_in ?_)) [0] (by decide) rfl ?_; refine okT_take (i := 0) rfl (by kernel_rfl) rfl rfl rfl (by exact ps_move rfl rfl) ?_; refine okT_take (i := 1) rfl (by kernel_rfl) rfl rfl rfl (by exact ps_move rfl rfl) ?_; refine okT_take (i := 2) rfl (by kernel_rfl) rfl rfl rfl (by exact ps_move rfl rfl) ?_; refine okT_take (i := 3) rfl (by kernel_rfl) rfl rfl rfl (by exact ps_indexN rfl rfl rfl (by omega) (by exact isw_row 0 rfl (by omega))) ?_; refine okT_take (i := 4) rfl (by kernel_rfl) rfl rfl rfl (by exact ps_loadsF rfl rfl (by exact rds_row 0 rfl) (by rfl) (by rfl) (by omega) rfl) ?_; refine okT_take (i := 5) rfl (by kernel_rfl) rfl rfl rfl (by exact ps_move rfl rfl) ?_; refine okT_take (i := 6) rfl (by kernel_rfl) rfl rfl rfl (by exact ps_move rfl rfl) ?_; refine okT_take (i := 7) rfl (by kernel_rfl) rfl rfl rfl (by exact ps_indexN rfl rfl rfl (by omega) (by exact isw_row 0 rfl (by omega))) ?_; refine okT_take (i := 8) rfl (by kernel_rfl) rfl rfl rfl (by exact ps_loadsF rfl rfl (by exact rds_row 0 rfl) (by rfl) (by rfl) (by omega) rfl) ?_; refine okT_one (i := 9) rfl rfl (by kernel_rfl) rfl rfl rfl (by exact ms_v2 rfl rfl rfl rfl (fun _ _ w hw => compareEnts_c (nth L m) (nth L ((i + j) / 2)) w)) (fun y w _ h => by exact h.sel [0] (by decide) rfl (fun _ h => h)) ?_; rintro y101 hy101; refine okT_take (i := 10) rfl (by kernel_rfl) rfl rfl rfl (by exact ps_int rfl rfl rfl rfl) ?_; refine okT_take (i := 11) rfl (by kernel_rfl) rfl rfl rfl (by exact ps_not rfl rfl) ?_; refine okT_done (by kernel_rfl) ?_; refine ok_nil ?_; refine ok_env [(0, _), (2, _), (4, _), (14, _), (15, _), (16, _), (103, _)] ⟨rfl, rfl, rfl, rfl, rfl, rfl, rfl, trivial⟩ ?_)
        | (refine ok_region (i := 18) ?_; refine ok_p rfl rfl rfl (by exact ps_move rfl rfl) ?_; refine ok_p rfl rfl rfl (by exact ps_add rfl rfl rfl (by omega)) ?_; refine ok_p rfl rfl rfl (by exact ps_assign rfl rfl) ?_; refine ok_nil ?_; refine ok_env [(0, _), (2, _), (4, _), (14, _), (15, _)] ⟨rfl, rfl, rfl, rfl, rfl, trivial⟩ ?_)
        | (refine ok_region (i := 19) ?_; refine ok_p rfl rfl rfl (by exact ps_move rfl rfl) ?_; refine ok_p rfl rfl rfl (by exact ps_assign rfl rfl) ?_; refine ok_nil ?_; refine ok_env [(0, _), (2, _), (4, _), (14, _), (15, _)] ⟨rfl, rfl, rfl, rfl, rfl, trivial⟩ ?_)
        | (refine ok_region (i := 20) ?_; refine ok_p rfl rfl rfl (by exact ps_move rfl rfl) ?_; refine ok_p rfl rfl rfl (by exact ps_assign rfl rfl) ?_; refine ok_nil ?_; refine ok_env [(0, _), (14, _), (17, _)] ⟨rfl, rfl, rfl, trivial⟩ ?_))
      · rw [cmpE_lt] at hc
        have hc' : aheadE (nth L m) (nth L ((i + j) / 2)) = false := by simpa using hc
        refine fun ac w' he hw => ⟨⟨(i + j) / 2 + 1, j, by omega, fun k k1 k2 => ?_, fun k k1 k2 => HI.out k k1 k2⟩, by simp only; omega, he.sub ⟨rfl, rfl, rfl, rfl, rfl, trivial⟩, hw⟩
        exact leE_trans (srt_at S1.out k1 (by omega) (by omega)) (nle_of hc')
      · rw [cmpE_lt] at hc
        have hc' : aheadE (nth L m) (nth L ((i + j) / 2)) = true := by simpa using hc
        refine fun ac w' he hw => ⟨⟨i, (i + j) / 2, by omega, fun k k1 k2 => LO.out k k1 k2, fun k k1 k2 => ?_⟩, by simp only; omega, he.sub ⟨rfl, rfl, rfl, rfl, rfl, trivial⟩, hw⟩
        exact lt_le_lt hc' (srt_at S1.out (by omega) k1 k2)
      have hij2 : i = j := by omega
      subst hij2
      clear hc hd
      refine ok_loop (ι := { k : Nat // i ≤ k ∧ k ≤ m }) (fun k => k.1) (fun k => ([(0, .slice A n c), (14, .int .i64 i), (17, .int .i64 k.1)], rwE A n c (rotL L k.1 m (m + 1)) :: H, _)) ⟨m, by omega⟩ (fun ac w he hw => ⟨⟨m, by omega⟩, he.sub ⟨rfl, rfl, rfl, trivial⟩, by simp only; rw [rot_triv (.inl rfl) (by omega) (by omega)]; exact hw⟩) ?_
      rintro ⟨k, hk1, hk2⟩
      simp only at hk1 hk2 ⊢
      have hup := rot_dn (L := L) (k := k) (m := m)
      have HU := Lib.hid hup; clear hup
      have hcl : (rotL L k m (m + 1)).length = n := by rw [rotL_len]; exact hn
      generalize hC : rotL L k m (m + 1) = C at hcl HU ⊢
      repeat' (first
        | refine ok_seq ?_
        | refine ok_then ?_
        | refine ok_then_ret ?_
        | refine ok_then_exit ?_
        | refine ok_block ?_
        | refine ok_in_normal ?_
        | refine ok_in_exit ?_
        | (refine ok_cond rfl (fun hc => ?_) (fun hc => ?_) <;> (have hd := hc; (try simp only [decide_eq_true_eq, decide_eq_false_iff_not, Bool.or_eq_true, Bool.or_eq_false_iff, Bool.and_eq_true, Bool.and_eq_false_iff, Bool.not_eq_true', Bool.not_eq_false', bne_iff_ne, beq_iff_eq, bne_eq_false_iff_eq, beq_eq_false_iff_ne, ne_eq, Bool.not_true, Bool.not_false, Bool.false_eq_true, Bool.true_eq_false, inB_true, inB_false] at hd)))
        | refine ok_ret ?_
        | refine ok_exit ?_
        | refine ok_skip ?_
        | (refine ok_region (i := 21) ?_; refine ok_p rfl rfl rfl (by exact ps_move rfl rfl) ?_; refine ok_p rfl rfl rfl (by exact ps_move rfl rfl) ?_; refine ok_p rfl rfl rfl (by exact ps_int rfl rfl rfl rfl) ?_; refine ok_nil ?_; refine ok_env [(0, _), (14, _), (17, _), (110, _)] ⟨rfl, rfl, rfl, rfl, trivial⟩ ?_)
        | (refine ok_region (i := 22) ?_; refine ok_p rfl rfl rfl (by exact ps_move rfl rfl) ?_; refine ok_p rfl rfl rfl (by exact ps_cast (v' := .int .i64 ((k - 1 : Nat) : Int)) (ps_sub rfl rfl rfl (by omega)) (by congr 1; omega)) ?_; refine ok_p rfl rfl rfl (by exact ps_assign rfl rfl) ?_; refine ok_nil ?_; refine ok_env [(0, _), (14, _), (17, _)] ⟨rfl, rfl, rfl, trivial⟩ ?_)
        | (apply mrg0; (focus (intro hk; refine ok_draw (id := 23) 16 rfl (by kernel_rfl) (by kernel_rfl) rfl (by repeat (first | exact pq_body | refine pq_then ?_ | refine pq_in ?_)) [] (by decide) rfl ?_; refine okT_take (i := 0) rfl (by kernel_rfl) rfl rfl rfl (by exact ps_move rfl rfl) ?_; refine okT_take (i := 1) rfl (by kernel_rfl) rfl rfl rfl (by exact ps_move rfl rfl) ?_; refine okT_take (i := 2) rfl (by kernel_rfl) rfl rfl rfl (by exact ps_move rfl rfl) ?_; refine okT_take (i := 3) rfl (by kernel_rfl) rfl rfl rfl (by exact ps_move rfl rfl) ?_; refine okT_take (i := 4) rfl (by kernel_rfl) rfl rfl rfl (by exact ps_cast (v' := .int .i64 ((k - 1 : Nat) : Int)) (ps_sub rfl rfl rfl (by omega)) (by congr 1; omega)) ?_; refine okT_take (i := 5) rfl (by kernel_rfl) rfl rfl rfl (by exact ps_move rfl rfl) ?_; refine okT_take (i := 6) rfl (by kernel_rfl) rfl rfl rfl (by exact ps_move rfl rfl) ?_; refine okT_take (i := 7) rfl (by kernel_rfl) rfl rfl rfl (by exact ps_cast (v' := .int .i64 ((k - 1 : Nat) : Int)) (ps_sub rfl rfl rfl (by omega)) (by congr 1; omega)) ?_; refine okT_take (i := 8) rfl (by kernel_rfl) rfl rfl rfl (by exact ps_indexN rfl rfl rfl (by omega) (isw_of (hA (by omega)))) ?_; refine okT_take (i := 10) rfl (by kernel_rfl) rfl rfl rfl (by exact ps_move rfl rfl) ?_; refine okT_take (i := 11) rfl (by kernel_rfl) rfl rfl rfl (by exact ps_move rfl rfl) ?_; refine okT_take (i := 12) rfl (by kernel_rfl) rfl rfl rfl (by exact ps_indexN rfl rfl rfl (by omega) (isw_of (hA (by omega)))) ?_; refine okT_many (by kernel_rfl) (all_cons (at_m (i := 9) rfl rfl rfl rfl rfl (by exact ms_ps (by exact ps_loadsF (α := Ent) (l := C) (i := k - 1) rfl rfl (rds_row 0 rfl) rfl rfl (by omega) rfl)) (fun y w _ h => by exact h.sel [] (by decide) rfl (fun _ h => h)) ?_) (all_cons (at_m (i := 13) rfl rfl rfl rfl rfl (by exact ms_ps (by exact ps_loadsF (α := Ent) (l := C) (i := k) rfl rfl (rds_row 0 rfl) rfl rfl (by omega) rfl)) (fun y w _ h => by exact h.sel [] (by decide) rfl (fun _ h => h)) ?_) all_nil)); (focus (rintro y122 hy122; refine okT_one (i := 13) rfl rfl (by kernel_rfl) rfl rfl rfl (by exact ms_ps (by exact ps_loadsF (α := Ent) (l := C) (i := k) rfl rfl (rds_row 0 rfl) rfl rfl (by omega) rfl)) (fun y w _ h => by exact h.sel [] (by decide) rfl (fun _ h => h)) ?_; rintro y126 hy126; refine okT_take (i := 14) rfl (by kernel_rfl) rfl rfl rfl (by exact ps_indexN rfl rfl rfl (by omega) (isw_of (hA (by omega)))) ?_; refine okT_one0 (i := 15) rfl rfl (by kernel_rfl) rfl rfl (by exact ms_setw (α := Ent) 0 k (nth C (k - 1)) rfl rfl rfl rfl rfl rfl rfl rfl rfl (by omega)) (fun y w _ h => by exact h.sel [] (by decide) rfl (fun _ h => h)) ?_; rintro y_ hy_; refine okT_done (by kernel_rfl) ?_; refine ok_p rfl rfl rfl (by exact ps_indexN rfl rfl rfl (by omega) (isw_of (hA (by omega)))) ?_; refine ok_m_ rfl rfl (by exact ms_setw (α := Ent) 0 (k - 1) (nth C k) rfl rfl rfl rfl rfl rfl rfl rfl rfl (by rw [List.length_set]; omega)) ?_; rintro y_ hy_; refine ok_nil ?_; refine ok_env [(0, _), (14, _), (17, _)] ⟨rfl, rfl, rfl, trivial⟩ ?_; exact hk)); (focus (rintro y126 hy126; refine okT_one (i := 9) rfl rfl (by kernel_rfl) rfl rfl rfl (by exact ms_ps (by exact ps_loadsF (α := Ent) (l := C) (i := k - 1) rfl rfl (rds_row 0 rfl) rfl rfl (by omega) rfl)) (fun y w _ h => by exact h.sel [] (by decide) rfl (fun _ h => h)) ?_; rintro y122 hy122; refine okT_take (i := 14) rfl (by kernel_rfl) rfl rfl rfl (by exact ps_indexN rfl rfl rfl (by omega) (isw_of (hA (by omega)))) ?_; refine okT_one0 (i := 15) rfl rfl (by kernel_rfl) rfl rfl (by exact ms_setw (α := Ent) 0 k (nth C (k - 1)) rfl rfl rfl rfl rfl rfl rfl rfl rfl (by omega)) (fun y w _ h => by exact h.sel [] (by decide) rfl (fun _ h => h)) ?_; rintro y_ hy_; refine okT_done (by kernel_rfl) ?_; refine ok_p rfl rfl rfl (by exact ps_indexN rfl rfl rfl (by omega) (isw_of (hA (by omega)))) ?_; refine ok_m_ rfl rfl (by exact ms_setw (α := Ent) 0 (k - 1) (nth C k) rfl rfl rfl rfl rfl rfl rfl rfl rfl (by rw [List.length_set]; omega)) ?_; rintro y_ hy_; refine ok_nil ?_; refine ok_env [(0, _), (14, _), (17, _)] ⟨rfl, rfl, rfl, trivial⟩ ?_; exact hk))))))
      · refine fun ac w' he hw => ⟨⟨k - 1, by omega⟩, by simp only; omega, he.sub ⟨rfl, rfl, rfl, trivial⟩, ?_⟩
        simp only
        rw [← HU.out (by omega) (by omega) (by omega)]
        exact hw
      · obtain rfl : k = i := by omega
        obtain ⟨g1, g2⟩ := ins_right (L := L) (a := a) (i := k) (m := m) (by omega) (by omega) S1.out (fun q q1 q2 => LO.out q q1 q2) (fun q q1 q2 => HI.out q q1 q2)
        rw [hC] at g1 g2
        refine ok_endL (vs := []) rfl trivial (fun w' hw => ⟨yM C w, rfl, ?_, ?_⟩)
        · rw [rM_yM]; exact ⟨g1, g2⟩
        · rw [rM_yM]; exact hw
    · have hmd : 2 * ((a + b) / 2) ≤ a + b ∧ a + b < 2 * ((a + b) / 2) + 2 := by omega
      have h0 : (m > (a + b) / 2 ∧ ((a + b) / 2 + m - b) = (a + b) / 2 + m - b ∧ ((a + b) / 2) = (a + b) / 2) ∨ (¬ m > (a + b) / 2 ∧ ((a + b) / 2 + m - b) = a ∧ ((a + b) / 2) = m) := by omega
      have hsf := fun s => sym_found (L := L) (a := a) (m := m) (b := b) (s0 := (a + b) / 2 + m - b) (r0 := (a + b) / 2) (s := s) ham hmb h0
      have HF := Lib.hid hsf; clear hsf
      have hst := fun s e q => sym_turn (L := L) (a := a) (m := m) (b := b) (s := s) (e := e) (by omega) ⟨by omega, by omega⟩ S1.out S2.out q
      have HT := Lib.hid hst; clear hst
      generalize hmid : (a + b) / 2 = d2 at hmd h0 HF HT ⊢
      generalize hs0 : d2 + m - b = s0 at h0 HF ⊢
      have hb0 : s0 ≤ d2 ∧ d2 ≤ m ∧ a ≤ s0 ∧ d2 + m - 1 < b + s0 ∧ d2 ≤ d2 + m - 1 := by omega
      clear hc hd
      refine ok_loop (ι := BsM L s0 d2 (d2 + m - 1)) (fun q => q.r - q.s) (fun q => ([(0, .slice A n c), (1, .int .i64 a), (2, .int .i64 m), (3, .int .i64 b), (4, cmpV), (18, .int .i64 d2), (19, .int .i64 ((d2 + m : Nat) : Int)), (20, .int .i64 q.s), (21, .int .i64 q.r), (22, .int .i64 ((d2 + m - 1 : Nat) : Int))], rwE A n c L :: H, _)) ⟨s0, d2, by omega, fun h => by omega, fun h => by omega⟩ (fun ac w he hw => ⟨⟨s0, d2, by omega, fun h => by omega, fun h => by omega⟩, he.sub ⟨rfl, rfl, rfl, rfl, rfl, rfl, rfl, rfl, rfl, rfl, trivial⟩, hw⟩) ?_
      rintro ⟨s, r, hsr, lo, hi⟩
      simp only at hsr ⊢
      have LO := Lib.hid lo; clear lo
      have HI := Lib.hid hi; clear hi
      have hend : s = r → SymS L a m b s (d2 + m - s) := fun e => by
        have h1 := LO.out
        have h2 := HI.out
        subst e
        exact HF.out s (by omega) h1 h2
      have hF : s = r → SegE L (rotL L s m (d2 + m - s)) a b ∧ srtIn (rotL L s m (d2 + m - s)) a s ∧ srtIn (rotL L s m (d2 + m - s)) s d2 ∧ srtIn (rotL L s m (d2 + m - s)) d2 (d2 + m - s) ∧ srtIn (rotL L s m (d2 + m - s)) (d2 + m - s) b ∧ ∀ i j, a ≤ i → i < d2 → d2 ≤ j → j < b → leE (nth (rotL L s m (d2 + m - s)) i) (nth (rotL L s m (d2 + m - s)) j) = true := fun e => HT.out s (d2 + m - s) (hend e)
      have F := Lib.hid hF; clear hF
      have F' : s = r → (s = m ∨ m = d2 + m - s) → SegE L L a b ∧ srtIn L a s ∧ srtIn L s d2 ∧ srtIn L d2 (d2 + m - s) ∧ srtIn L (d2 + m - s) b ∧ ∀ i j, a ≤ i → i < d2 → d2 ≤ j → j < b → leE (nth L i) (nth L j) = true := fun e h => by
        have := F.out e
        rwa [rot_triv h (by omega) (by omega)] at this
      have F' := Lib.hid F'
      clear hend
      repeat' (first
        | refine ok_seq ?_
        | refine ok_then ?_
        | refine ok_block ?_
        | refine ok_in_normal ?_
        | (refine ok_cond rfl (fun hc => ?_) (fun hc => ?_) <;> (have hd := hc; (try simp only [decide_eq_true_eq, decide_eq_false_iff_not, Bool.or_eq_true, Bool.or_eq_false_iff, Bool.and_eq_true, Bool.and_eq_false_iff, Bool.not_eq_true', Bool.not_eq_false', bne_iff_ne, beq_iff_eq, bne_eq_false_iff_eq, beq_eq_false_iff_ne, ne_eq, Bool.not_true, Bool.not_false, Bool.false_eq_true, Bool.true_eq_false, inB_true, inB_false] at hd)))
        | refine ok_exit ?_
        | refine ok_skip ?_
        | (refine ok_region (i := 33) ?_; refine ok_p rfl rfl rfl (by exact ps_move rfl rfl) ?_; refine ok_p rfl rfl rfl (by exact ps_move rfl rfl) ?_; refine ok_p rfl rfl rfl (by exact ps_int rfl rfl rfl rfl) ?_; refine ok_nil ?_; refine ok_env [(0, _), (1, _), (2, _), (3, _), (4, _), (18, _), (19, _), (20, _), (21, _), (22, _), (151, _)] ⟨rfl, rfl, rfl, rfl, rfl, rfl, rfl, rfl, rfl, rfl, rfl, trivial⟩ ?_)
        | (refine ok_region (i := 34) ?_; refine ok_p rfl rfl rfl (by exact ps_move rfl rfl) ?_; refine ok_p rfl rfl rfl (by exact ps_move rfl rfl) ?_; refine ok_p rfl rfl rfl (by exact ps_add rfl rfl rfl (by omega)) ?_; refine ok_p rfl rfl rfl (by exact ps_conv_id rfl rfl (IntWalk.u64_in _ (by omega))) ?_; refine ok_p rfl rfl rfl (by exact ps_half rfl rfl) ?_; refine ok_p rfl rfl rfl (by exact ps_conv_id rfl rfl (IntWalk.i64_in _ (by omega))) ?_; refine ok_p rfl rfl rfl (by exact ps_assign rfl rfl) ?_; refine ok_nil ?_; refine ok_env [(0, _), (1, _), (2, _), (3, _), (4, _), (18, _), (19, _), (20, _), (21, _), (22, _), (23, _)] ⟨rfl, rfl, rfl, rfl, rfl, rfl, rfl, rfl, rfl, rfl, rfl, trivial⟩ ?_)
        | (refine ok_draw (id := 35) 14 rfl (by kernel_rfl) (by kernel_rfl) rfl (by repeat (first | exact pq_body | refine pq_then ?_ | refine pq_in ?_)) [0] (by decide) rfl ?_; refine okT_take (i := 0) rfl (by kernel_rfl) rfl rfl rfl (by exact ps_move rfl rfl) ?_; refine okT_take (i := 1) rfl (by kernel_rfl) rfl rfl rfl (by exact ps_move rfl rfl) ?_; refine okT_take (i := 2) rfl (by kernel_rfl) rfl rfl rfl (by exact ps_move rfl rfl) ?_; refine okT_take (i := 3) rfl (by kernel_rfl) rfl rfl rfl (by exact ps_move rfl rfl) ?_; refine okT_take (i := 4) rfl (by kernel_rfl) rfl rfl rfl (by exact ps_cast (v' := .int .i64 ((d2 + m - 1 - (s + r) / 2 : Nat) : Int)) (ps_sub rfl rfl rfl (by omega)) (by congr 1; omega)) ?_; refine okT_take (i := 5) rfl (by kernel_rfl) rfl rfl rfl (by exact ps_indexN rfl rfl rfl (by omega) (by exact isw_row 0 rfl (by omega))) ?_; refine okT_take (i := 6) rfl (by kernel_rfl) rfl rfl rfl (by exact ps_loadsF rfl rfl (by exact rds_row 0 rfl) (by rfl) (by rfl) (by omega) rfl) ?_; refine okT_take (i := 7) rfl (by kernel_rfl) rfl rfl rfl (by exact ps_move rfl rfl) ?_; refine okT_take (i := 8) rfl (by kernel_rfl) rfl rfl rfl (by exact ps_move rfl rfl) ?_; refine okT_take (i := 9) rfl (by kernel_rfl) rfl rfl rfl (by exact ps_indexN rfl rfl rfl (by omega) (by exact isw_row 0 rfl (by omega))) ?_; refine okT_take (i := 10) rfl (by kernel_rfl) rfl rfl rfl (by exact ps_loadsF rfl rfl (by exact rds_row 0 rfl) (by rfl) (by rfl) (by omega) rfl) ?_; refine okT_one (i := 11) rfl rfl (by kernel_rfl) rfl rfl rfl (by exact ms_v2 rfl rfl rfl rfl (fun _ _ w hw => compareEnts_c (nth L (d2 + m - 1 - (s + r) / 2)) (nth L ((s + r) / 2)) w)) (fun y w _ h => by exact h.sel [0] (by decide) rfl (fun _ h => h)) ?_; rintro y169 hy169; refine okT_take (i := 12) rfl (by kernel_rfl) rfl rfl rfl (by exact ps_int rfl rfl rfl rfl) ?_; refine okT_take (i := 13) rfl (by kernel_rfl) rfl rfl rfl (by exact ps_not rfl rfl) ?_; refine okT_done (by kernel_rfl) ?_; refine ok_nil ?_; refine ok_env [(0, _), (1, _), (2, _), (3, _), (4, _), (18, _), (19, _), (20, _), (21, _), (22, _), (23, _), (171, _)] ⟨rfl, rfl, rfl, rfl, rfl, rfl, rfl, rfl, rfl, rfl, rfl, rfl, trivial⟩ ?_)
        | (refine ok_region (i := 36) ?_; refine ok_p rfl rfl rfl (by exact ps_move rfl rfl) ?_; refine ok_p rfl rfl rfl (by exact ps_add rfl rfl rfl (by omega)) ?_; refine ok_p rfl rfl rfl (by exact ps_assign rfl rfl) ?_; refine ok_nil ?_; refine ok_env [(0, _), (1, _), (2, _), (3, _), (4, _), (18, _), (19, _), (20, _), (21, _), (22, _)] ⟨rfl, rfl, rfl, rfl, rfl, rfl, rfl, rfl, rfl, rfl, trivial⟩ ?_)
        | (refine ok_region (i := 37) ?_; refine ok_p rfl rfl rfl (by exact ps_move rfl rfl) ?_; refine ok_p rfl rfl rfl (by exact ps_assign rfl rfl) ?_; refine ok_nil ?_; refine ok_env [(0, _), (1, _), (2, _), (3, _), (4, _), (18, _), (19, _), (20, _), (21, _), (22, _)] ⟨rfl, rfl, rfl, rfl, rfl, rfl, rfl, rfl, rfl, rfl, trivial⟩ ?_)
        | (refine ok_region (i := 38) ?_; refine ok_p rfl rfl rfl (by exact ps_move rfl rfl) ?_; refine ok_p rfl rfl rfl (by exact ps_move rfl rfl) ?_; refine ok_p rfl rfl rfl (by exact ps_cast (v' := .int .i64 ((d2 + m - s : Nat) : Int)) (ps_sub rfl rfl rfl (by omega)) (by congr 1; omega)) ?_; refine ok_p rfl rfl rfl (by exact ps_assign rfl rfl) ?_; refine ok_nil ?_; refine ok_env [(0, _), (1, _), (2, _), (3, _), (4, _), (18, _), (20, _), (24, _)] ⟨rfl, rfl, rfl, rfl, rfl, rfl, rfl, rfl, trivial⟩ ?_)
        | (refine ok_region (i := 39) ?_; refine ok_p rfl rfl rfl (by exact ps_move rfl rfl) ?_; refine ok_p rfl rfl rfl (by exact ps_move rfl rfl) ?_; refine ok_p rfl rfl rfl (by exact ps_int rfl rfl rfl rfl) ?_; refine ok_p rfl rfl rfl (by exact ps_move rfl rfl) ?_; refine ok_pg rfl rfl rfl rfl rfl (gT _) (fun hp => by (have hpd := hp; (try simp only [decide_eq_true_eq, decide_eq_false_iff_not, Bool.or_eq_true, Bool.or_eq_false_iff, Bool.and_eq_true, Bool.and_eq_false_iff, Bool.not_eq_true', Bool.not_eq_false', bne_iff_ne, beq_iff_eq, bne_eq_false_iff_eq, beq_eq_false_iff_ne, ne_eq, Bool.not_true, Bool.not_false, Bool.false_eq_true, Bool.true_eq_false, inB_true, inB_false] at hpd); exact ps_move rfl (by exact rfl))) ?_; refine ok_pg rfl rfl rfl rfl rfl (gT _) (fun hp => by (have hpd := hp; (try simp only [decide_eq_true_eq, decide_eq_false_iff_not, Bool.or_eq_true, Bool.or_eq_false_iff, Bool.and_eq_true, Bool.and_eq_false_iff, Bool.not_eq_true', Bool.not_eq_false', bne_iff_ne, beq_iff_eq, bne_eq_false_iff_eq, beq_eq_false_iff_ne, ne_eq, Bool.not_true, Bool.not_false, Bool.false_eq_true, Bool.true_eq_false, inB_true, inB_false] at hpd); exact ps_move rfl (by exact rfl))) ?_; refine ok_pg rfl rfl rfl rfl rfl (gT _) (fun hp => by (have hpd := hp; (try simp only [decide_eq_true_eq, decide_eq_false_iff_not, Bool.or_eq_true, Bool.or_eq_false_iff, Bool.and_eq_true, Bool.and_eq_false_iff, Bool.not_eq_true', Bool.not_eq_false', bne_iff_ne, beq_iff_eq, bne_eq_false_iff_eq, beq_eq_false_iff_ne, ne_eq, Bool.not_true, Bool.not_false, Bool.false_eq_true, Bool.true_eq_false, inB_true, inB_false] at hpd); exact ps_int rfl (by (refine og rfl ?_; assumption)) (by (refine og rfl ?_; assumption)) rfl)) ?_; refine ok_p rfl rfl rfl (by exact ps_and rfl rfl rfl) ?_; refine ok_nil ?_; refine ok_env [(0, _), (1, _), (2, _), (3, _), (4, _), (18, _), (20, _), (24, _), (185, _)] ⟨rfl, rfl, rfl, rfl, rfl, rfl, rfl, rfl, rfl, trivial⟩ ?_)
        | (refine ok_region (i := 40) ?_; refine ok_p rfl rfl rfl (by exact ps_move rfl rfl) ?_; refine ok_p rfl rfl rfl (by exact ps_move rfl rfl) ?_; refine ok_p rfl rfl rfl (by exact ps_move rfl rfl) ?_; refine ok_p rfl rfl rfl (by exact ps_move rfl rfl) ?_; refine ok_p rfl rfl rfl (by exact ps_move rfl rfl) ?_; refine ok_m rfl rfl rfl (by exact ms_wr 0 rfl rfl rfl rfl (fun _ _ w hw => rotate_c A n c s m (d2 + m - s) L hn hl (by omega) (by omega) (by omega) hw)) ?_; rintro y191 hy191; refine ok_nil ?_; refine ok_env [(0, _), (1, _), (3, _), (4, _), (18, _), (20, _), (24, _)] ⟨rfl, rfl, rfl, rfl, rfl, rfl, rfl, trivial⟩ ?_)
        | (refine ok_region (i := 41) ?_; refine ok_p rfl rfl rfl (by exact ps_move rfl rfl) ?_; refine ok_p rfl rfl rfl (by exact ps_move rfl rfl) ?_; refine ok_p rfl rfl rfl (by exact ps_int rfl rfl rfl rfl) ?_; refine ok_p rfl rfl rfl (by exact ps_move rfl rfl) ?_; refine ok_pg rfl rfl rfl rfl rfl (gT _) (fun hp => by (have hpd := hp; (try simp only [decide_eq_true_eq, decide_eq_false_iff_not, Bool.or_eq_true, Bool.or_eq_false_iff, Bool.and_eq_true, Bool.and_eq_false_iff, Bool.not_eq_true', Bool.not_eq_false', bne_iff_ne, beq_iff_eq, bne_eq_false_iff_eq, beq_eq_false_iff_ne, ne_eq, Bool.not_true, Bool.not_false, Bool.false_eq_true, Bool.true_eq_false, inB_true, inB_false] at hpd); exact ps_move rfl (by exact rfl))) ?_; refine ok_pg rfl rfl rfl rfl rfl (gT _) (fun hp => by (have hpd := hp; (try simp only [decide_eq_true_eq, decide_eq_false_iff_not, Bool.or_eq_true, Bool.or_eq_false_iff, Bool.and_eq_true, Bool.and_eq_false_iff, Bool.not_eq_true', Bool.not_eq_false', bne_iff_ne, beq_iff_eq, bne_eq_false_iff_eq, beq_eq_false_iff_ne, ne_eq, Bool.not_true, Bool.not_false, Bool.false_eq_true, Bool.true_eq_false, inB_true, inB_false] at hpd); exact ps_move rfl (by exact rfl))) ?_; refine ok_pg rfl rfl rfl rfl rfl (gT _) (fun hp => by (have hpd := hp; (try simp only [decide_eq_true_eq, decide_eq_false_iff_not, Bool.or_eq_true, Bool.or_eq_false_iff, Bool.and_eq_true, Bool.and_eq_false_iff, Bool.not_eq_true', Bool.not_eq_false', bne_iff_ne, beq_iff_eq, bne_eq_false_iff_eq, beq_eq_false_iff_ne, ne_eq, Bool.not_true, Bool.not_false, Bool.false_eq_true, Bool.true_eq_false, inB_true, inB_false] at hpd); exact ps_int rfl (by (refine og rfl ?_; assumption)) (by (refine og rfl ?_; assumption)) rfl)) ?_; refine ok_p rfl rfl rfl (by exact ps_and rfl rfl rfl) ?_; refine ok_nil ?_; refine ok_env [(0, _), (1, _), (3, _), (4, _), (18, _), (20, _), (24, _), (199, _)] ⟨rfl, rfl, rfl, rfl, rfl, rfl, rfl, rfl, trivial⟩ ?_)
        | (refine ok_region (i := 42) ?_; refine ok_p rfl rfl rfl (by exact ps_move rfl rfl) ?_; refine ok_p rfl rfl rfl (by exact ps_move rfl rfl) ?_; refine ok_p rfl rfl rfl (by exact ps_move rfl rfl) ?_; refine ok_p rfl rfl rfl (by exact ps_move rfl rfl) ?_; refine ok_p rfl rfl rfl (by exact ps_move rfl rfl) ?_; refine ok_m rfl rfl rfl (by exact ms_wr 0 rfl rfl rfl rfl (fun _ _ w hw => ih.out a s d2 _ (by omega) (by first | exact hn | (rw [rotL_len]; exact hn)) (by omega) (by omega) (by omega) (by first | exact (F.out (by omega)).2.1 | exact (F'.out (by omega) (by omega)).2.1) (by first | exact (F.out (by omega)).2.2.1 | exact (F'.out (by omega) (by omega)).2.2.1) hw)) ?_; rintro y205 hy205; refine ok_nil ?_; refine ok_env [(0, _), (3, _), (4, _), (18, _), (24, _)] ⟨rfl, rfl, rfl, rfl, rfl, trivial⟩ ?_)
        | (refine ok_region (i := 43) ?_; refine ok_p rfl rfl rfl (by exact ps_move rfl rfl) ?_; refine ok_p rfl rfl rfl (by exact ps_move rfl rfl) ?_; refine ok_p rfl rfl rfl (by exact ps_int rfl rfl rfl rfl) ?_; refine ok_p rfl rfl rfl (by exact ps_move rfl rfl) ?_; refine ok_pg rfl rfl rfl rfl rfl (gT _) (fun hp => by (have hpd := hp; (try simp only [decide_eq_true_eq, decide_eq_false_iff_not, Bool.or_eq_true, Bool.or_eq_false_iff, Bool.and_eq_true, Bool.and_eq_false_iff, Bool.not_eq_true', Bool.not_eq_false', bne_iff_ne, beq_iff_eq, bne_eq_false_iff_eq, beq_eq_false_iff_ne, ne_eq, Bool.not_true, Bool.not_false, Bool.false_eq_true, Bool.true_eq_false, inB_true, inB_false] at hpd); exact ps_move rfl (by exact rfl))) ?_; refine ok_pg rfl rfl rfl rfl rfl (gT _) (fun hp => by (have hpd := hp; (try simp only [decide_eq_true_eq, decide_eq_false_iff_not, Bool.or_eq_true, Bool.or_eq_false_iff, Bool.and_eq_true, Bool.and_eq_false_iff, Bool.not_eq_true', Bool.not_eq_false', bne_iff_ne, beq_iff_eq, bne_eq_false_iff_eq, beq_eq_false_iff_ne, ne_eq, Bool.not_true, Bool.not_false, Bool.false_eq_true, Bool.true_eq_false, inB_true, inB_false] at hpd); exact ps_move rfl (by exact rfl))) ?_; refine ok_pg rfl rfl rfl rfl rfl (gT _) (fun hp => by (have hpd := hp; (try simp only [decide_eq_true_eq, decide_eq_false_iff_not, Bool.or_eq_true, Bool.or_eq_false_iff, Bool.and_eq_true, Bool.and_eq_false_iff, Bool.not_eq_true', Bool.not_eq_false', bne_iff_ne, beq_iff_eq, bne_eq_false_iff_eq, beq_eq_false_iff_ne, ne_eq, Bool.not_true, Bool.not_false, Bool.false_eq_true, Bool.true_eq_false, inB_true, inB_false] at hpd); exact ps_int rfl (by (refine og rfl ?_; assumption)) (by (refine og rfl ?_; assumption)) rfl)) ?_; refine ok_p rfl rfl rfl (by exact ps_and rfl rfl rfl) ?_; refine ok_nil ?_; refine ok_env [(0, _), (3, _), (4, _), (18, _), (24, _), (213, _)] ⟨rfl, rfl, rfl, rfl, rfl, rfl, trivial⟩ ?_)
        | (refine ok_region (i := 44) ?_; refine ok_p rfl rfl rfl (by exact ps_move rfl rfl) ?_; refine ok_p rfl rfl rfl (by exact ps_move rfl rfl) ?_; refine ok_p rfl rfl rfl (by exact ps_move rfl rfl) ?_; refine ok_p rfl rfl rfl (by exact ps_move rfl rfl) ?_; refine ok_p rfl rfl rfl (by exact ps_move rfl rfl) ?_; refine ok_m rfl rfl rfl (by exact ms_wr 0 rfl rfl rfl rfl (fun _ _ w hw => ih.out d2 (d2 + m - s) b _ (by omega) (by first | exact hn | (rw [rotL_len]; exact hn) | (rw [hy205.1.len]; exact hn) | (rw [hy205.1.len, rotL_len]; exact hn)) (by omega) (by omega) (by omega) (by first | exact srt_out hy205.1 (F.out (by omega)).2.2.2.1 (.inr (Nat.le_refl _)) | exact srt_out hy205.1 (F'.out (by omega) (by omega)).2.2.2.1 (.inr (Nat.le_refl _)) | exact (F.out (by omega)).2.2.2.1 | exact (F'.out (by omega) (by omega)).2.2.2.1) (by first | exact srt_out hy205.1 (F.out (by omega)).2.2.2.2.1 (.inr (by omega)) | exact srt_out hy205.1 (F'.out (by omega) (by omega)).2.2.2.2.1 (.inr (by omega)) | exact (F.out (by omega)).2.2.2.2.1 | exact (F'.out (by omega) (by omega)).2.2.2.2.1) hw)) ?_; rintro y219 hy219; refine ok_nil ?_; refine ok_env [] trivial ?_))
      all_goals first
        | (rw [cmpE_lt] at hc
           have hc' : aheadE (nth L (d2 + m - 1 - (s + r) / 2)) (nth L ((s + r) / 2)) = false := by simpa using hc
           exact fun ac w' he hw => ⟨⟨(s + r) / 2 + 1, r, by omega, fun _ => nle_of hc', HI.out⟩, by simp only; omega, he.sub ⟨rfl, rfl, rfl, rfl, rfl, rfl, rfl, rfl, rfl, rfl, trivial⟩, hw⟩)
        | (rw [cmpE_lt] at hc
           have hc' : aheadE (nth L (d2 + m - 1 - (s + r) / 2)) (nth L ((s + r) / 2)) = true := by simpa using hc
           exact fun ac w' he hw => ⟨⟨s, (s + r) / 2, by omega, LO.out, fun _ => hc'⟩, by simp only; omega, he.sub ⟨rfl, rfl, rfl, rfl, rfl, rfl, rfl, rfl, rfl, rfl, trivial⟩, hw⟩)
        | (refine ok_endN (K := .normal) (ok_endL (vs := []) rfl trivial (fun w' hw => ⟨yM (rM y219) w, rfl, ?_, ?_⟩))
           · rw [rM_yM]
             first
               | exact sym_fin (F.out (by omega)) (.inl hy205) (.inl hy219)
               | exact sym_fin (F'.out (by omega) (by omega)) (.inl hy205) (.inl hy219)
               | exact sym_fin (F.out (by omega)) (.inr ⟨rfl, by omega, by omega⟩) (.inl hy219)
               | exact sym_fin (F'.out (by omega) (by omega)) (.inr ⟨rfl, by omega, by omega⟩) (.inl hy219)
           · rw [rM_yM]; exact hw)
        | (refine ok_endN (K := .normal) (ok_endL (vs := []) rfl trivial (fun w' hw => ⟨yM (rM y205) w, rfl, ?_, ?_⟩))
           · rw [rM_yM]
             first
               | exact sym_fin (F.out (by omega)) (.inl hy205) (.inr ⟨rfl, by omega, by omega⟩)
               | exact sym_fin (F'.out (by omega) (by omega)) (.inl hy205) (.inr ⟨rfl, by omega, by omega⟩)
           · rw [rM_yM]; exact hw)
        | (refine ok_endN (K := .normal) (ok_endL (vs := []) rfl trivial (fun w' hw => ⟨yM (rotL L s m (d2 + m - s)) w, rfl, ?_, ?_⟩))
           · rw [rM_yM]; exact sym_fin (F.out (by omega)) (.inr ⟨rfl, by omega, by omega⟩) (.inr ⟨rfl, by omega, by omega⟩)
           · rw [rM_yM]; exact hw)
        | (refine ok_endN (K := .normal) (ok_endL (vs := []) rfl trivial (fun w' hw => ⟨yM L w, rfl, ?_, ?_⟩))
           · rw [rM_yM]; exact sym_fin (F'.out (by omega) (by omega)) (.inr ⟨rfl, by omega, by omega⟩) (.inr ⟨rfl, by omega, by omega⟩)
           · rw [rM_yM]; exact hw)
    · have hmd : 2 * ((a + b) / 2) ≤ a + b ∧ a + b < 2 * ((a + b) / 2) + 2 := by omega
      have h0 : (m > (a + b) / 2 ∧ (a) = (a + b) / 2 + m - b ∧ (m) = (a + b) / 2) ∨ (¬ m > (a + b) / 2 ∧ (a) = a ∧ (m) = m) := by omega
      have hsf := fun s => sym_found (L := L) (a := a) (m := m) (b := b) (s0 := a) (r0 := m) (s := s) ham hmb h0
      have HF := Lib.hid hsf; clear hsf
      have hst := fun s e q => sym_turn (L := L) (a := a) (m := m) (b := b) (s := s) (e := e) (by omega) ⟨by omega, by omega⟩ S1.out S2.out q
      have HT := Lib.hid hst; clear hst
      generalize hmid : (a + b) / 2 = d2 at hmd h0 HF HT ⊢
      have hb0 : a ≤ m ∧ m ≤ m ∧ a ≤ a ∧ d2 + m - 1 < b + a ∧ m ≤ d2 + m - 1 := by omega
      clear hc hd
      refine ok_loop (ι := BsM L a m (d2 + m - 1)) (fun q => q.r - q.s) (fun q => ([(0, .slice A n c), (1, .int .i64 a), (2, .int .i64 m), (3, .int .i64 b), (4, cmpV), (18, .int .i64 d2), (19, .int .i64 ((d2 + m : Nat) : Int)), (20, .int .i64 q.s), (21, .int .i64 q.r), (22, .int .i64 ((d2 + m - 1 : Nat) : Int))], rwE A n c L :: H, _)) ⟨a, m, by omega, fun h => by omega, fun h => by omega⟩ (fun ac w he hw => ⟨⟨a, m, by omega, fun h => by omega, fun h => by omega⟩, he.sub ⟨rfl, rfl, rfl, rfl, rfl, rfl, rfl, rfl, rfl, rfl, trivial⟩, hw⟩) ?_
      rintro ⟨s, r, hsr, lo, hi⟩
      simp only at hsr ⊢
      have LO := Lib.hid lo; clear lo
      have HI := Lib.hid hi; clear hi
      have hend : s = r → SymS L a m b s (d2 + m - s) := fun e => by
        have h1 := LO.out
        have h2 := HI.out
        subst e
        exact HF.out s (by omega) h1 h2
      have hF : s = r → SegE L (rotL L s m (d2 + m - s)) a b ∧ srtIn (rotL L s m (d2 + m - s)) a s ∧ srtIn (rotL L s m (d2 + m - s)) s d2 ∧ srtIn (rotL L s m (d2 + m - s)) d2 (d2 + m - s) ∧ srtIn (rotL L s m (d2 + m - s)) (d2 + m - s) b ∧ ∀ i j, a ≤ i → i < d2 → d2 ≤ j → j < b → leE (nth (rotL L s m (d2 + m - s)) i) (nth (rotL L s m (d2 + m - s)) j) = true := fun e => HT.out s (d2 + m - s) (hend e)
      have F := Lib.hid hF; clear hF
      have F' : s = r → (s = m ∨ m = d2 + m - s) → SegE L L a b ∧ srtIn L a s ∧ srtIn L s d2 ∧ srtIn L d2 (d2 + m - s) ∧ srtIn L (d2 + m - s) b ∧ ∀ i j, a ≤ i → i < d2 → d2 ≤ j → j < b → leE (nth L i) (nth L j) = true := fun e h => by
        have := F.out e
        rwa [rot_triv h (by omega) (by omega)] at this
      have F' := Lib.hid F'
      clear hend
      repeat' (first
        | refine ok_seq ?_
        | refine ok_then ?_
        | refine ok_block ?_
        | refine ok_in_normal ?_
        | (refine ok_cond rfl (fun hc => ?_) (fun hc => ?_) <;> (have hd := hc; (try simp only [decide_eq_true_eq, decide_eq_false_iff_not, Bool.or_eq_true, Bool.or_eq_false_iff, Bool.and_eq_true, Bool.and_eq_false_iff, Bool.not_eq_true', Bool.not_eq_false', bne_iff_ne, beq_iff_eq, bne_eq_false_iff_eq, beq_eq_false_iff_ne, ne_eq, Bool.not_true, Bool.not_false, Bool.false_eq_true, Bool.true_eq_false, inB_true, inB_false] at hd)))
        | refine ok_exit ?_
        | refine ok_skip ?_
        | (refine ok_region (i := 33) ?_; refine ok_p rfl rfl rfl (by exact ps_move rfl rfl) ?_; refine ok_p rfl rfl rfl (by exact ps_move rfl rfl) ?_; refine ok_p rfl rfl rfl (by exact ps_int rfl rfl rfl rfl) ?_; refine ok_nil ?_; refine ok_env [(0, _), (1, _), (2, _), (3, _), (4, _), (18, _), (19, _), (20, _), (21, _), (22, _), (151, _)] ⟨rfl, rfl, rfl, rfl, rfl, rfl, rfl, rfl, rfl, rfl, rfl, trivial⟩ ?_)
        | (refine ok_region (i := 34) ?_; refine ok_p rfl rfl rfl (by exact ps_move rfl rfl) ?_; refine ok_p rfl rfl rfl (by exact ps_move rfl rfl) ?_; refine ok_p rfl rfl rfl (by exact ps_add rfl rfl rfl (by omega)) ?_; refine ok_p rfl rfl rfl (by exact ps_conv_id rfl rfl (IntWalk.u64_in _ (by omega))) ?_; refine ok_p rfl rfl rfl (by exact ps_half rfl rfl) ?_; refine ok_p rfl rfl rfl (by exact ps_conv_id rfl rfl (IntWalk.i64_in _ (by omega))) ?_; refine ok_p rfl rfl rfl (by exact ps_assign rfl rfl) ?_; refine ok_nil ?_; refine ok_env [(0, _), (1, _), (2, _), (3, _), (4, _), (18, _), (19, _), (20, _), (21, _), (22, _), (23, _)] ⟨rfl, rfl, rfl, rfl, rfl, rfl, rfl, rfl, rfl, rfl, rfl, trivial⟩ ?_)
        | (refine ok_draw (id := 35) 14 rfl (by kernel_rfl) (by kernel_rfl) rfl (by repeat (first | exact pq_body | refine pq_then ?_ | refine pq_in ?_)) [0] (by decide) rfl ?_; refine okT_take (i := 0) rfl (by kernel_rfl) rfl rfl rfl (by exact ps_move rfl rfl) ?_; refine okT_take (i := 1) rfl (by kernel_rfl) rfl rfl rfl (by exact ps_move rfl rfl) ?_; refine okT_take (i := 2) rfl (by kernel_rfl) rfl rfl rfl (by exact ps_move rfl rfl) ?_; refine okT_take (i := 3) rfl (by kernel_rfl) rfl rfl rfl (by exact ps_move rfl rfl) ?_; refine okT_take (i := 4) rfl (by kernel_rfl) rfl rfl rfl (by exact ps_cast (v' := .int .i64 ((d2 + m - 1 - (s + r) / 2 : Nat) : Int)) (ps_sub rfl rfl rfl (by omega)) (by congr 1; omega)) ?_; refine okT_take (i := 5) rfl (by kernel_rfl) rfl rfl rfl (by exact ps_indexN rfl rfl rfl (by omega) (by exact isw_row 0 rfl (by omega))) ?_; refine okT_take (i := 6) rfl (by kernel_rfl) rfl rfl rfl (by exact ps_loadsF rfl rfl (by exact rds_row 0 rfl) (by rfl) (by rfl) (by omega) rfl) ?_; refine okT_take (i := 7) rfl (by kernel_rfl) rfl rfl rfl (by exact ps_move rfl rfl) ?_; refine okT_take (i := 8) rfl (by kernel_rfl) rfl rfl rfl (by exact ps_move rfl rfl) ?_; refine okT_take (i := 9) rfl (by kernel_rfl) rfl rfl rfl (by exact ps_indexN rfl rfl rfl (by omega) (by exact isw_row 0 rfl (by omega))) ?_; refine okT_take (i := 10) rfl (by kernel_rfl) rfl rfl rfl (by exact ps_loadsF rfl rfl (by exact rds_row 0 rfl) (by rfl) (by rfl) (by omega) rfl) ?_; refine okT_one (i := 11) rfl rfl (by kernel_rfl) rfl rfl rfl (by exact ms_v2 rfl rfl rfl rfl (fun _ _ w hw => compareEnts_c (nth L (d2 + m - 1 - (s + r) / 2)) (nth L ((s + r) / 2)) w)) (fun y w _ h => by exact h.sel [0] (by decide) rfl (fun _ h => h)) ?_; rintro y169 hy169; refine okT_take (i := 12) rfl (by kernel_rfl) rfl rfl rfl (by exact ps_int rfl rfl rfl rfl) ?_; refine okT_take (i := 13) rfl (by kernel_rfl) rfl rfl rfl (by exact ps_not rfl rfl) ?_; refine okT_done (by kernel_rfl) ?_; refine ok_nil ?_; refine ok_env [(0, _), (1, _), (2, _), (3, _), (4, _), (18, _), (19, _), (20, _), (21, _), (22, _), (23, _), (171, _)] ⟨rfl, rfl, rfl, rfl, rfl, rfl, rfl, rfl, rfl, rfl, rfl, rfl, trivial⟩ ?_)
        | (refine ok_region (i := 36) ?_; refine ok_p rfl rfl rfl (by exact ps_move rfl rfl) ?_; refine ok_p rfl rfl rfl (by exact ps_add rfl rfl rfl (by omega)) ?_; refine ok_p rfl rfl rfl (by exact ps_assign rfl rfl) ?_; refine ok_nil ?_; refine ok_env [(0, _), (1, _), (2, _), (3, _), (4, _), (18, _), (19, _), (20, _), (21, _), (22, _)] ⟨rfl, rfl, rfl, rfl, rfl, rfl, rfl, rfl, rfl, rfl, trivial⟩ ?_)
        | (refine ok_region (i := 37) ?_; refine ok_p rfl rfl rfl (by exact ps_move rfl rfl) ?_; refine ok_p rfl rfl rfl (by exact ps_assign rfl rfl) ?_; refine ok_nil ?_; refine ok_env [(0, _), (1, _), (2, _), (3, _), (4, _), (18, _), (19, _), (20, _), (21, _), (22, _)] ⟨rfl, rfl, rfl, rfl, rfl, rfl, rfl, rfl, rfl, rfl, trivial⟩ ?_)
        | (refine ok_region (i := 38) ?_; refine ok_p rfl rfl rfl (by exact ps_move rfl rfl) ?_; refine ok_p rfl rfl rfl (by exact ps_move rfl rfl) ?_; refine ok_p rfl rfl rfl (by exact ps_cast (v' := .int .i64 ((d2 + m - s : Nat) : Int)) (ps_sub rfl rfl rfl (by omega)) (by congr 1; omega)) ?_; refine ok_p rfl rfl rfl (by exact ps_assign rfl rfl) ?_; refine ok_nil ?_; refine ok_env [(0, _), (1, _), (2, _), (3, _), (4, _), (18, _), (20, _), (24, _)] ⟨rfl, rfl, rfl, rfl, rfl, rfl, rfl, rfl, trivial⟩ ?_)
        | (refine ok_region (i := 39) ?_; refine ok_p rfl rfl rfl (by exact ps_move rfl rfl) ?_; refine ok_p rfl rfl rfl (by exact ps_move rfl rfl) ?_; refine ok_p rfl rfl rfl (by exact ps_int rfl rfl rfl rfl) ?_; refine ok_p rfl rfl rfl (by exact ps_move rfl rfl) ?_; refine ok_pg rfl rfl rfl rfl rfl (gT _) (fun hp => by (have hpd := hp; (try simp only [decide_eq_true_eq, decide_eq_false_iff_not, Bool.or_eq_true, Bool.or_eq_false_iff, Bool.and_eq_true, Bool.and_eq_false_iff, Bool.not_eq_true', Bool.not_eq_false', bne_iff_ne, beq_iff_eq, bne_eq_false_iff_eq, beq_eq_false_iff_ne, ne_eq, Bool.not_true, Bool.not_false, Bool.false_eq_true, Bool.true_eq_false, inB_true, inB_false] at hpd); exact ps_move rfl (by exact rfl))) ?_; refine ok_pg rfl rfl rfl rfl rfl (gT _) (fun hp => by (have hpd := hp; (try simp only [decide_eq_true_eq, decide_eq_false_iff_not, Bool.or_eq_true, Bool.or_eq_false_iff, Bool.and_eq_true, Bool.and_eq_false_iff, Bool.not_eq_true', Bool.not_eq_false', bne_iff_ne, beq_iff_eq, bne_eq_false_iff_eq, beq_eq_false_iff_ne, ne_eq, Bool.not_true, Bool.not_false, Bool.false_eq_true, Bool.true_eq_false, inB_true, inB_false] at hpd); exact ps_move rfl (by exact rfl))) ?_; refine ok_pg rfl rfl rfl rfl rfl (gT _) (fun hp => by (have hpd := hp; (try simp only [decide_eq_true_eq, decide_eq_false_iff_not, Bool.or_eq_true, Bool.or_eq_false_iff, Bool.and_eq_true, Bool.and_eq_false_iff, Bool.not_eq_true', Bool.not_eq_false', bne_iff_ne, beq_iff_eq, bne_eq_false_iff_eq, beq_eq_false_iff_ne, ne_eq, Bool.not_true, Bool.not_false, Bool.false_eq_true, Bool.true_eq_false, inB_true, inB_false] at hpd); exact ps_int rfl (by (refine og rfl ?_; assumption)) (by (refine og rfl ?_; assumption)) rfl)) ?_; refine ok_p rfl rfl rfl (by exact ps_and rfl rfl rfl) ?_; refine ok_nil ?_; refine ok_env [(0, _), (1, _), (2, _), (3, _), (4, _), (18, _), (20, _), (24, _), (185, _)] ⟨rfl, rfl, rfl, rfl, rfl, rfl, rfl, rfl, rfl, trivial⟩ ?_)
        | (refine ok_region (i := 40) ?_; refine ok_p rfl rfl rfl (by exact ps_move rfl rfl) ?_; refine ok_p rfl rfl rfl (by exact ps_move rfl rfl) ?_; refine ok_p rfl rfl rfl (by exact ps_move rfl rfl) ?_; refine ok_p rfl rfl rfl (by exact ps_move rfl rfl) ?_; refine ok_p rfl rfl rfl (by exact ps_move rfl rfl) ?_; refine ok_m rfl rfl rfl (by exact ms_wr 0 rfl rfl rfl rfl (fun _ _ w hw => rotate_c A n c s m (d2 + m - s) L hn hl (by omega) (by omega) (by omega) hw)) ?_; rintro y191 hy191; refine ok_nil ?_; refine ok_env [(0, _), (1, _), (3, _), (4, _), (18, _), (20, _), (24, _)] ⟨rfl, rfl, rfl, rfl, rfl, rfl, rfl, trivial⟩ ?_)
        | (refine ok_region (i := 41) ?_; refine ok_p rfl rfl rfl (by exact ps_move rfl rfl) ?_; refine ok_p rfl rfl rfl (by exact ps_move rfl rfl) ?_; refine ok_p rfl rfl rfl (by exact ps_int rfl rfl rfl rfl) ?_; refine ok_p rfl rfl rfl (by exact ps_move rfl rfl) ?_; refine ok_pg rfl rfl rfl rfl rfl (gT _) (fun hp => by (have hpd := hp; (try simp only [decide_eq_true_eq, decide_eq_false_iff_not, Bool.or_eq_true, Bool.or_eq_false_iff, Bool.and_eq_true, Bool.and_eq_false_iff, Bool.not_eq_true', Bool.not_eq_false', bne_iff_ne, beq_iff_eq, bne_eq_false_iff_eq, beq_eq_false_iff_ne, ne_eq, Bool.not_true, Bool.not_false, Bool.false_eq_true, Bool.true_eq_false, inB_true, inB_false] at hpd); exact ps_move rfl (by exact rfl))) ?_; refine ok_pg rfl rfl rfl rfl rfl (gT _) (fun hp => by (have hpd := hp; (try simp only [decide_eq_true_eq, decide_eq_false_iff_not, Bool.or_eq_true, Bool.or_eq_false_iff, Bool.and_eq_true, Bool.and_eq_false_iff, Bool.not_eq_true', Bool.not_eq_false', bne_iff_ne, beq_iff_eq, bne_eq_false_iff_eq, beq_eq_false_iff_ne, ne_eq, Bool.not_true, Bool.not_false, Bool.false_eq_true, Bool.true_eq_false, inB_true, inB_false] at hpd); exact ps_move rfl (by exact rfl))) ?_; refine ok_pg rfl rfl rfl rfl rfl (gT _) (fun hp => by (have hpd := hp; (try simp only [decide_eq_true_eq, decide_eq_false_iff_not, Bool.or_eq_true, Bool.or_eq_false_iff, Bool.and_eq_true, Bool.and_eq_false_iff, Bool.not_eq_true', Bool.not_eq_false', bne_iff_ne, beq_iff_eq, bne_eq_false_iff_eq, beq_eq_false_iff_ne, ne_eq, Bool.not_true, Bool.not_false, Bool.false_eq_true, Bool.true_eq_false, inB_true, inB_false] at hpd); exact ps_int rfl (by (refine og rfl ?_; assumption)) (by (refine og rfl ?_; assumption)) rfl)) ?_; refine ok_p rfl rfl rfl (by exact ps_and rfl rfl rfl) ?_; refine ok_nil ?_; refine ok_env [(0, _), (1, _), (3, _), (4, _), (18, _), (20, _), (24, _), (199, _)] ⟨rfl, rfl, rfl, rfl, rfl, rfl, rfl, rfl, trivial⟩ ?_)
        | (refine ok_region (i := 42) ?_; refine ok_p rfl rfl rfl (by exact ps_move rfl rfl) ?_; refine ok_p rfl rfl rfl (by exact ps_move rfl rfl) ?_; refine ok_p rfl rfl rfl (by exact ps_move rfl rfl) ?_; refine ok_p rfl rfl rfl (by exact ps_move rfl rfl) ?_; refine ok_p rfl rfl rfl (by exact ps_move rfl rfl) ?_; refine ok_m rfl rfl rfl (by exact ms_wr 0 rfl rfl rfl rfl (fun _ _ w hw => ih.out a s d2 _ (by omega) (by first | exact hn | (rw [rotL_len]; exact hn)) (by omega) (by omega) (by omega) (by first | exact (F.out (by omega)).2.1 | exact (F'.out (by omega) (by omega)).2.1) (by first | exact (F.out (by omega)).2.2.1 | exact (F'.out (by omega) (by omega)).2.2.1) hw)) ?_; rintro y205 hy205; refine ok_nil ?_; refine ok_env [(0, _), (3, _), (4, _), (18, _), (24, _)] ⟨rfl, rfl, rfl, rfl, rfl, trivial⟩ ?_)
        | (refine ok_region (i := 43) ?_; refine ok_p rfl rfl rfl (by exact ps_move rfl rfl) ?_; refine ok_p rfl rfl rfl (by exact ps_move rfl rfl) ?_; refine ok_p rfl rfl rfl (by exact ps_int rfl rfl rfl rfl) ?_; refine ok_p rfl rfl rfl (by exact ps_move rfl rfl) ?_; refine ok_pg rfl rfl rfl rfl rfl (gT _) (fun hp => by (have hpd := hp; (try simp only [decide_eq_true_eq, decide_eq_false_iff_not, Bool.or_eq_true, Bool.or_eq_false_iff, Bool.and_eq_true, Bool.and_eq_false_iff, Bool.not_eq_true', Bool.not_eq_false', bne_iff_ne, beq_iff_eq, bne_eq_false_iff_eq, beq_eq_false_iff_ne, ne_eq, Bool.not_true, Bool.not_false, Bool.false_eq_true, Bool.true_eq_false, inB_true, inB_false] at hpd); exact ps_move rfl (by exact rfl))) ?_; refine ok_pg rfl rfl rfl rfl rfl (gT _) (fun hp => by (have hpd := hp; (try simp only [decide_eq_true_eq, decide_eq_false_iff_not, Bool.or_eq_true, Bool.or_eq_false_iff, Bool.and_eq_true, Bool.and_eq_false_iff, Bool.not_eq_true', Bool.not_eq_false', bne_iff_ne, beq_iff_eq, bne_eq_false_iff_eq, beq_eq_false_iff_ne, ne_eq, Bool.not_true, Bool.not_false, Bool.false_eq_true, Bool.true_eq_false, inB_true, inB_false] at hpd); exact ps_move rfl (by exact rfl))) ?_; refine ok_pg rfl rfl rfl rfl rfl (gT _) (fun hp => by (have hpd := hp; (try simp only [decide_eq_true_eq, decide_eq_false_iff_not, Bool.or_eq_true, Bool.or_eq_false_iff, Bool.and_eq_true, Bool.and_eq_false_iff, Bool.not_eq_true', Bool.not_eq_false', bne_iff_ne, beq_iff_eq, bne_eq_false_iff_eq, beq_eq_false_iff_ne, ne_eq, Bool.not_true, Bool.not_false, Bool.false_eq_true, Bool.true_eq_false, inB_true, inB_false] at hpd); exact ps_int rfl (by (refine og rfl ?_; assumption)) (by (refine og rfl ?_; assumption)) rfl)) ?_; refine ok_p rfl rfl rfl (by exact ps_and rfl rfl rfl) ?_; refine ok_nil ?_; refine ok_env [(0, _), (3, _), (4, _), (18, _), (24, _), (213, _)] ⟨rfl, rfl, rfl, rfl, rfl, rfl, trivial⟩ ?_)
        | (refine ok_region (i := 44) ?_; refine ok_p rfl rfl rfl (by exact ps_move rfl rfl) ?_; refine ok_p rfl rfl rfl (by exact ps_move rfl rfl) ?_; refine ok_p rfl rfl rfl (by exact ps_move rfl rfl) ?_; refine ok_p rfl rfl rfl (by exact ps_move rfl rfl) ?_; refine ok_p rfl rfl rfl (by exact ps_move rfl rfl) ?_; refine ok_m rfl rfl rfl (by exact ms_wr 0 rfl rfl rfl rfl (fun _ _ w hw => ih.out d2 (d2 + m - s) b _ (by omega) (by first | exact hn | (rw [rotL_len]; exact hn) | (rw [hy205.1.len]; exact hn) | (rw [hy205.1.len, rotL_len]; exact hn)) (by omega) (by omega) (by omega) (by first | exact srt_out hy205.1 (F.out (by omega)).2.2.2.1 (.inr (Nat.le_refl _)) | exact srt_out hy205.1 (F'.out (by omega) (by omega)).2.2.2.1 (.inr (Nat.le_refl _)) | exact (F.out (by omega)).2.2.2.1 | exact (F'.out (by omega) (by omega)).2.2.2.1) (by first | exact srt_out hy205.1 (F.out (by omega)).2.2.2.2.1 (.inr (by omega)) | exact srt_out hy205.1 (F'.out (by omega) (by omega)).2.2.2.2.1 (.inr (by omega)) | exact (F.out (by omega)).2.2.2.2.1 | exact (F'.out (by omega) (by omega)).2.2.2.2.1) hw)) ?_; rintro y219 hy219; refine ok_nil ?_; refine ok_env [] trivial ?_))
      all_goals first
        | (rw [cmpE_lt] at hc
           have hc' : aheadE (nth L (d2 + m - 1 - (s + r) / 2)) (nth L ((s + r) / 2)) = false := by simpa using hc
           exact fun ac w' he hw => ⟨⟨(s + r) / 2 + 1, r, by omega, fun _ => nle_of hc', HI.out⟩, by simp only; omega, he.sub ⟨rfl, rfl, rfl, rfl, rfl, rfl, rfl, rfl, rfl, rfl, trivial⟩, hw⟩)
        | (rw [cmpE_lt] at hc
           have hc' : aheadE (nth L (d2 + m - 1 - (s + r) / 2)) (nth L ((s + r) / 2)) = true := by simpa using hc
           exact fun ac w' he hw => ⟨⟨s, (s + r) / 2, by omega, LO.out, fun _ => hc'⟩, by simp only; omega, he.sub ⟨rfl, rfl, rfl, rfl, rfl, rfl, rfl, rfl, rfl, rfl, trivial⟩, hw⟩)
        | (refine ok_endN (K := .normal) (ok_endL (vs := []) rfl trivial (fun w' hw => ⟨yM (rM y219) w, rfl, ?_, ?_⟩))
           · rw [rM_yM]
             first
               | exact sym_fin (F.out (by omega)) (.inl hy205) (.inl hy219)
               | exact sym_fin (F'.out (by omega) (by omega)) (.inl hy205) (.inl hy219)
               | exact sym_fin (F.out (by omega)) (.inr ⟨rfl, by omega, by omega⟩) (.inl hy219)
               | exact sym_fin (F'.out (by omega) (by omega)) (.inr ⟨rfl, by omega, by omega⟩) (.inl hy219)
           · rw [rM_yM]; exact hw)
        | (refine ok_endN (K := .normal) (ok_endL (vs := []) rfl trivial (fun w' hw => ⟨yM (rM y205) w, rfl, ?_, ?_⟩))
           · rw [rM_yM]
             first
               | exact sym_fin (F.out (by omega)) (.inl hy205) (.inr ⟨rfl, by omega, by omega⟩)
               | exact sym_fin (F'.out (by omega) (by omega)) (.inl hy205) (.inr ⟨rfl, by omega, by omega⟩)
           · rw [rM_yM]; exact hw)
        | (refine ok_endN (K := .normal) (ok_endL (vs := []) rfl trivial (fun w' hw => ⟨yM (rotL L s m (d2 + m - s)) w, rfl, ?_, ?_⟩))
           · rw [rM_yM]; exact sym_fin (F.out (by omega)) (.inr ⟨rfl, by omega, by omega⟩) (.inr ⟨rfl, by omega, by omega⟩)
           · rw [rM_yM]; exact hw)
        | (refine ok_endN (K := .normal) (ok_endL (vs := []) rfl trivial (fun w' hw => ⟨yM L w, rfl, ?_, ?_⟩))
           · rw [rM_yM]; exact sym_fin (F'.out (by omega) (by omega)) (.inr ⟨rfl, by omega, by omega⟩) (.inr ⟨rfl, by omega, by omega⟩)
           · rw [rM_yM]; exact hw)
end Go.Proofs.Ytbegbdfbfbkflaa
/- Runs of a block size: what the phases of the stable sort leave. In plain Lean. -/
namespace Go.Proofs.Ytbegbdfbfbkflaa
set_option linter.unusedVariables false
/-- Places in one block of s are in order. -/
def Runs (C : List Ent) (s n : Nat) : Prop := ∀ p q, p < q → q < n → p / s = q / s → leE (nth C p) (nth C q) = true
/-- Below a: blocks of u; from a on: blocks of s. -/
def Mix (C : List Ent) (s u a n : Nat) : Prop := ∀ p q, p < q → q < n → (q < a → p / u = q / u → leE (nth C p) (nth C q) = true) ∧ (a ≤ p → p / s = q / s → leE (nth C p) (nth C q) = true)
theorem div_in {s t p : Nat} (h1 : t * s ≤ p) (h2 : p < t * s + s) : p / s = t := Nat.div_eq_of_lt_le h1 (by rw [Nat.succ_mul]; exact h2)
theorem div_apart {u t p q : Nat} (hu : 0 < u) (h1 : p < t * u) (h2 : t * u ≤ q) : p / u ≠ q / u := by
  have h3 : p / u < t := (Nat.div_lt_iff_lt_mul hu).2 h1
  have h4 : t ≤ q / u := (Nat.le_div_iff_mul_le hu).2 h2
  omega
theorem mix_start {C : List Ent} {s u n : Nat} (h : Runs C s n) : Mix C s u 0 n := fun p q h1 h2 => ⟨fun h3 => by omega, fun _ h4 => h p q h1 h2 h4⟩
theorem mix_at {C : List Ent} {s u a n t x y : Nat} (h : Mix C s u a n) (hx : x = t * s) (ha : a ≤ x) (hy : y ≤ x + s ∧ y ≤ n) : srtIn C x y := fun i j hi hij hj => by
  subst hx
  exact (h i j hij (by omega)).2 (by omega) ((div_in hi (by omega)).trans (div_in (by omega) (by omega)).symm)
/-- One more block of u (or the last, shorter one) is put in order. -/
theorem mix_step {C D : List Ent} {s u a n t e : Nat} (hu : 0 < u) (h : Mix C s u a n) (ha : a = t * u) (he : e = a + u ∨ (e = n ∧ n ≤ a + u)) (hs : SegE C D a e) (hd : srtIn D a e) : Mix D s u e n := fun p q h1 h2 => by
  constructor
  · intro h3 h4
    rcases Nat.lt_or_ge q a with h5 | h5
    · rw [hs.out p (by omega), hs.out q (by omega)]
      exact (h p q h1 h2).1 h5 h4
    · rcases Nat.lt_or_ge p a with h6 | h6
      · subst ha; exact absurd h4 (div_apart hu h6 h5)
      · exact hd p q h6 h1 h3
  · intro h3 h4
    rw [hs.out p (by omega), hs.out q (by omega)]
    exact (h p q h1 h2).2 (by have := hs.len; rcases he with h5 | h5 <;> omega) h4
theorem mix_end {C : List Ent} {s u n : Nat} (h : Mix C s u n n) : Runs C u n := fun p q h1 h2 h3 => (h p q h1 h2).1 h2 h3
/-- What is left behind the whole blocks is one block of s already. -/
theorem mix_rest {C : List Ent} {s u a n t k : Nat} (hu : u = 2 * s) (hs : 0 < s) (h : Mix C s u a n) (ha : a = t * u) (h2 : n ≤ a + s) : Mix C s u n n := fun p q h1 h3 => by
  refine ⟨fun _ h4 => ?_, fun h4 => by omega⟩
  rcases Nat.lt_or_ge q a with h5 | h5
  · exact (h p q h1 h3).1 h5 h4
  · rcases Nat.lt_or_ge p a with h6 | h6
    · subst ha; exact absurd h4 (div_apart (by omega) h6 h5)
    · have e : a = (2 * t) * s := by rw [ha, hu, Nat.mul_left_comm, Nat.mul_assoc]
      exact (h p q h1 h3).2 h6 ((div_in (t := 2 * t) (by omega) (by omega)).trans (div_in (t := 2 * t) (by omega) (by omega)).symm)
theorem runs_srt {C : List Ent} {s n : Nat} (h : Runs C s n) (hs : n ≤ s) : srtIn C 0 n := fun i j hi hij hj => h i j hij hj (by rw [Nat.div_eq_of_lt (by omega), Nat.div_eq_of_lt (by omega)])
theorem mul_snoc {t u a : Nat} (h : a = t * u) : a + u = (t + 1) * u := by rw [Nat.succ_mul, h]
theorem two_mul_run {t s a : Nat} (h : a = t * (2 * s)) : a = (2 * t) * s ∧ a + s = (2 * t + 1) * s := by
  have e : a = (2 * t) * s := by rw [h, Nat.mul_left_comm, Nat.mul_assoc]
  exact ⟨e, by rw [Nat.succ_mul, e]⟩
/-- The blocks below a are in order, nothing is known of the rest. -/
theorem mix_none {C : List Ent} {u n : Nat} : Mix C 1 u 0 n := fun p q h1 h2 => ⟨fun h3 => by omega, fun _ h4 => by rw [Nat.div_one, Nat.div_one] at h4; omega⟩
end Go.Proofs.Ytbegbdfbfbkflaa
/- slices.SortStableFunc of entries: blocks of 20 by insertion, then merges. -/
namespace Go.Proofs.Ytbegbdfbfbkflaa
open Go.RowKit
set_option maxHeartbeats 4000000
set_option maxRecDepth 20000
set_option linter.unusedVariables false
set_option linter.unusedSimpArgs false
attribute [local irreducible] Calls
structure StA (L : List Ent) (n : Nat) where
  C : List Ent
  a : Nat
  t : Nat
  ha : a ≤ n ∧ a = t * 20
  seg : SegE L C 0 n
  mix : Mix C 1 20 a n
structure StM (L : List Ent) (n : Nat) where
  C : List Ent
  s : Nat
  hs : 0 < s ∧ s ≤ 2 * n + 20
  seg : SegE L C 0 n
  run : Runs C s n
structure StN (L : List Ent) (n s : Nat) where
  C : List Ent
  a : Nat
  t : Nat
  ha : a ≤ n ∧ a = t * (2 * s)
  seg : SegE L C 0 n
  mix : Mix C s (2 * s) a n
theorem stable_c (A : Option Addr) (n c : Nat) (L : List Ent) (hn : L.length = n) (hl : n ≤ 4194304) {base : Nat} {w0 w : World} {H : List HObj} {G : List World} (hw : WOk base w0 (rwE A n c L :: H) G w) :
    Calls Try.prog 238 #[.slice A n c, .int .i64 n, cmpV] w fun e w' => ∃ y : Ys, e = .returned (.tuple #[]) ∧ (stb L (rM y) ∧ leS' (rM y) ∧ (rM y).length = n) ∧ WOk base w0 (rwE A n c (rM y) :: H) G w' := by
  refine ok_enterW 63 Try.func238 rfl rfl rfl hw ?_
  repeat' (first
    | refine ok_seq ?_
    | refine ok_block ?_
    | (refine ok_region (i := 0) ?_; refine ok_p rfl rfl rfl (by exact ps_assign rfl rfl) ?_; refine ok_nil ?_; refine ok_env [(0, _), (1, _), (2, _), (6, _)] ⟨rfl, rfl, rfl, rfl, trivial⟩ ?_)
    | (refine ok_region (i := 1) ?_; refine ok_p rfl rfl rfl (by exact ps_move rfl rfl) ?_; refine ok_p rfl rfl rfl (by exact ps_assign rfl rfl) ?_; refine ok_p rfl rfl rfl (by exact ps_assign rfl rfl) ?_; refine ok_nil ?_; refine ok_env [(0, _), (1, _), (2, _), (6, _), (7, _), (8, _)] ⟨rfl, rfl, rfl, rfl, rfl, rfl, trivial⟩ ?_))
  refine ok_loop (ι := StA L n) (fun q => n - q.a) (fun q => ([(0, .slice A n c), (1, .int .i64 n), (2, cmpV), (6, .int .i64 20), (7, .int .i64 q.a), (8, .int .i64 ((q.a + 20 : Nat) : Int))], rwE A n c q.C :: H, _)) ⟨L, 0, 0, by omega, SegE.refl _ _ _, mix_none⟩ (fun ac w he hw => ⟨⟨L, 0, 0, by omega, SegE.refl _ _ _, mix_none⟩, he.sub ⟨rfl, rfl, rfl, rfl, rfl, rfl, trivial⟩, hw⟩) ?_
  rintro ⟨C, a, t, ha, seg, mix⟩
  simp only at ha ⊢
  have hcn : C.length = n := by rw [seg.len]; exact hn
  have SEG := Lib.hid seg; clear seg
  have MIX := Lib.hid mix; clear mix
  have HA := Lib.hid ha.2
  replace ha := ha.1
  repeat' (first
    | refine ok_seq ?_
    | refine ok_then ?_
    | refine ok_block ?_
    | refine ok_in_normal ?_
    | (refine ok_cond rfl (fun hc => ?_) (fun hc => ?_) <;> (have hd := hc; (try simp only [decide_eq_true_eq, decide_eq_false_iff_not, Bool.or_eq_true, Bool.or_eq_false_iff, Bool.and_eq_true, Bool.and_eq_false_iff, Bool.not_eq_true', Bool.not_eq_false', bne_iff_ne, beq_iff_eq, bne_eq_false_iff_eq, beq_eq_false_iff_ne, ne_eq, Bool.not_true, Bool.not_false, Bool.false_eq_true, Bool.true_eq_false, inB_true, inB_false] at hd)))
    | refine ok_exit ?_
    | refine ok_skip ?_
    | (refine ok_region (i := 2) ?_; refine ok_p rfl rfl rfl (by exact ps_move rfl rfl) ?_; refine ok_p rfl rfl rfl (by exact ps_move rfl rfl) ?_; refine ok_p rfl rfl rfl (by exact ps_int rfl rfl rfl rfl) ?_; refine ok_nil ?_; refine ok_env [(0, _), (1, _), (2, _), (6, _), (7, _), (8, _), (13, _)] ⟨rfl, rfl, rfl, rfl, rfl, rfl, rfl, trivial⟩ ?_)
    | (refine ok_region (i := 3) ?_; refine ok_p rfl rfl rfl (by exact ps_move rfl rfl) ?_; refine ok_p rfl rfl rfl (by exact ps_move rfl rfl) ?_; refine ok_p rfl rfl rfl (by exact ps_move rfl rfl) ?_; refine ok_p rfl rfl rfl (by exact ps_move rfl rfl) ?_; refine ok_m rfl rfl rfl (by exact ms_w4 (fun _ _ _ h => h) rfl rfl rfl rfl rfl (fun _ _ w hw => insert_c' A n c a (a + 20) C hcn hl (by omega) (by omega) hw)) ?_; rintro y18 hy18; refine ok_nil ?_; refine ok_env [(0, _), (1, _), (2, _), (6, _), (8, _)] ⟨rfl, rfl, rfl, rfl, rfl, trivial⟩ ?_)
    | (refine ok_region (i := 4) ?_; refine ok_p rfl rfl rfl (by exact ps_move rfl rfl) ?_; refine ok_p rfl rfl rfl (by exact ps_assign rfl rfl) ?_; refine ok_nil ?_; refine ok_env [(0, _), (1, _), (2, _), (6, _), (7, _), (8, _)] ⟨rfl, rfl, rfl, rfl, rfl, rfl, trivial⟩ ?_)
    | (refine ok_region (i := 5) ?_; refine ok_p rfl rfl rfl (by exact ps_move rfl rfl) ?_; refine ok_p rfl rfl rfl (by exact ps_move rfl rfl) ?_; refine ok_p rfl rfl rfl (by exact ps_cast (v' := .int .i64 ((a + 20 + 20 : Nat) : Int)) (ps_add rfl rfl rfl (by omega)) (by push_cast; rfl)) ?_; refine ok_p rfl rfl rfl (by exact ps_assign rfl rfl) ?_; refine ok_nil ?_; refine ok_env [(0, _), (1, _), (2, _), (6, _), (7, _), (8, _)] ⟨rfl, rfl, rfl, rfl, rfl, rfl, trivial⟩ ?_)
    | (refine ok_region (i := 6) ?_; refine ok_p rfl rfl rfl (by exact ps_move rfl rfl) ?_; refine ok_p rfl rfl rfl (by exact ps_move rfl rfl) ?_; refine ok_p rfl rfl rfl (by exact ps_move rfl rfl) ?_; refine ok_p rfl rfl rfl (by exact ps_move rfl rfl) ?_; refine ok_m rfl rfl rfl (by exact ms_w4 (fun _ _ _ h => h) rfl rfl rfl rfl rfl (fun _ _ w hw => insert_c' A n c a n C hcn hl (by omega) (by omega) hw)) ?_; rintro y27 hy27; refine ok_nil ?_; refine ok_env [(0, _), (1, _), (2, _), (6, _)] ⟨rfl, rfl, rfl, rfl, trivial⟩ ?_))
  · exact fun ac w' he hw => ⟨⟨rM y18, a + 20, t + 1, ⟨by omega, mul_snoc HA.out⟩, SEG.out.trans (hy18.1.wide (by omega) (by omega)), mix_step (by omega) MIX.out HA.out (.inl rfl) hy18.1 hy18.2⟩, by simp only; omega, he.sub ⟨rfl, rfl, rfl, rfl, rfl, rfl, trivial⟩, hw⟩
  have hrun : Runs (rM y27) 20 n := mix_end (mix_step (by omega) MIX.out HA.out (.inr ⟨rfl, by omega⟩) hy27.1 hy27.2)
  have hseg : SegE L (rM y27) 0 n := SEG.out.trans (hy27.1.wide (by omega) (by omega))
  clear SEG MIX HA hc hd hcn hy27
  refine ok_loop (ι := StM L n) (fun q => 2 * n + 20 - q.s) (fun q => ([(0, .slice A n c), (1, .int .i64 n), (2, cmpV), (6, .int .i64 q.s)], rwE A n c q.C :: H, _)) ⟨rM y27, 20, by omega, hseg, hrun⟩ (fun ac w he hw => ⟨⟨rM y27, 20, by omega, hseg, hrun⟩, he.sub ⟨rfl, rfl, rfl, rfl, trivial⟩, hw⟩) ?_
  rintro ⟨D, s, hs, seg, run⟩
  simp only at hs ⊢
  clear hseg hrun
  have hdn : D.length = n := by rw [seg.len]; exact hn
  have SEG := Lib.hid seg; clear seg
  have RUN := Lib.hid run; clear run
  repeat' (first
    | refine ok_seq ?_
    | refine ok_then ?_
    | refine ok_then_exit ?_
    | refine ok_block ?_
    | refine ok_in_exit ?_
    | (refine ok_cond rfl (fun hc => ?_) (fun hc => ?_) <;> (have hd := hc; (try simp only [decide_eq_true_eq, decide_eq_false_iff_not, Bool.or_eq_true, Bool.or_eq_false_iff, Bool.and_eq_true, Bool.and_eq_false_iff, Bool.not_eq_true', Bool.not_eq_false', bne_iff_ne, beq_iff_eq, bne_eq_false_iff_eq, beq_eq_false_iff_ne, ne_eq, Bool.not_true, Bool.not_false, Bool.false_eq_true, Bool.true_eq_false, inB_true, inB_false] at hd)))
    | refine ok_exit ?_
    | refine ok_skip ?_
    | (refine ok_region (i := 7) ?_; refine ok_p rfl rfl rfl (by exact ps_move rfl rfl) ?_; refine ok_p rfl rfl rfl (by exact ps_move rfl rfl) ?_; refine ok_p rfl rfl rfl (by exact ps_int rfl rfl rfl rfl) ?_; refine ok_nil ?_; refine ok_env [(0, _), (1, _), (2, _), (6, _), (30, _)] ⟨rfl, rfl, rfl, rfl, rfl, trivial⟩ ?_)
    | (refine ok_region (i := 8) ?_; refine ok_p rfl rfl rfl (by exact ps_move rfl rfl) ?_; refine ok_p rfl rfl rfl (by exact ps_cast (v' := .int .i64 ((0 + 2 * s : Nat) : Int)) (ps_mul rfl rfl rfl (by omega)) (by push_cast; congr 1; omega)) ?_; refine ok_p rfl rfl rfl (by exact ps_assign rfl rfl) ?_; refine ok_p rfl rfl rfl (by exact ps_assign rfl rfl) ?_; refine ok_nil ?_; refine ok_env [(0, _), (1, _), (2, _), (6, _), (7, _), (8, _)] ⟨rfl, rfl, rfl, rfl, rfl, rfl, trivial⟩ ?_))
  · refine ok_loop (ι := StN L n s) (fun q => n - q.a) (fun q => ([(0, .slice A n c), (1, .int .i64 n), (2, cmpV), (6, .int .i64 s), (7, .int .i64 q.a), (8, .int .i64 ((q.a + 2 * s : Nat) : Int))], rwE A n c q.C :: H, _)) ⟨D, 0, 0, by omega, SEG.out, mix_start RUN.out⟩ (fun ac w he hw => ⟨⟨D, 0, 0, by omega, SEG.out, mix_start RUN.out⟩, he.sub ⟨rfl, rfl, rfl, rfl, rfl, rfl, trivial⟩, hw⟩) ?_
    rintro ⟨C, a, t, ha, seg, mix⟩
    simp only at ha ⊢
    clear SEG RUN hdn
    have hcn : C.length = n := by rw [seg.len]; exact hn
    have s1 := fun h => mix_at (x := a) (y := a + s) mix (two_mul_run ha.2).1 (Nat.le_refl _) h
    have s2 := fun y h => mix_at (x := a + s) (y := y) mix (two_mul_run ha.2).2 (by omega) h
    have S1 := Lib.hid s1; clear s1
    have S2 := Lib.hid s2; clear s2
    have SEG := Lib.hid seg; clear seg
    have MIX := Lib.hid mix; clear mix
    have HA := Lib.hid ha.2
    replace ha := ha.1
    repeat' (first
      | refine ok_seq ?_
      | refine ok_then ?_
      | refine ok_block ?_
      | refine ok_in_normal ?_
      | (refine ok_cond rfl (fun hc => ?_) (fun hc => ?_) <;> (have hd := hc; (try simp only [decide_eq_true_eq, decide_eq_false_iff_not, Bool.or_eq_true, Bool.or_eq_false_iff, Bool.and_eq_true, Bool.and_eq_false_iff, Bool.not_eq_true', Bool.not_eq_false', bne_iff_ne, beq_iff_eq, bne_eq_false_iff_eq, beq_eq_false_iff_ne, ne_eq, Bool.not_true, Bool.not_false, Bool.false_eq_true, Bool.true_eq_false, inB_true, inB_false] at hd)))
      | refine ok_exit ?_
      | refine ok_skip ?_
      | (refine ok_region (i := 9) ?_; refine ok_p rfl rfl rfl (by exact ps_move rfl rfl) ?_; refine ok_p rfl rfl rfl (by exact ps_move rfl rfl) ?_; refine ok_p rfl rfl rfl (by exact ps_int rfl rfl rfl rfl) ?_; refine ok_nil ?_; refine ok_env [(0, _), (1, _), (2, _), (6, _), (7, _), (8, _), (35, _)] ⟨rfl, rfl, rfl, rfl, rfl, rfl, rfl, trivial⟩ ?_)
      | (refine ok_region (i := 10) ?_; refine ok_p rfl rfl rfl (by exact ps_move rfl rfl) ?_; refine ok_p rfl rfl rfl (by exact ps_move rfl rfl) ?_; refine ok_p rfl rfl rfl (by exact ps_move rfl rfl) ?_; refine ok_p rfl rfl rfl (by exact ps_move rfl rfl) ?_; refine ok_p rfl rfl rfl (by exact ps_cast (v' := .int .i64 ((a + s : Nat) : Int)) (ps_add rfl rfl rfl (by omega)) (by push_cast; rfl)) ?_; refine ok_p rfl rfl rfl (by exact ps_move rfl rfl) ?_; refine ok_p rfl rfl rfl (by exact ps_move rfl rfl) ?_; refine ok_m rfl rfl rfl (by exact ms_w5 (fun _ _ _ h => h) rfl rfl rfl rfl rfl rfl (fun _ _ w hw => symM_c A n c hl (2 * s) a (a + s) (a + 2 * s) C (by omega) hcn (by omega) (by omega) (by omega) (S1.out (by omega)) (S2.out _ (by omega)) hw)) ?_; rintro y43 hy43; refine ok_nil ?_; refine ok_env [(0, _), (1, _), (2, _), (6, _), (8, _)] ⟨rfl, rfl, rfl, rfl, rfl, trivial⟩ ?_)
      | (refine ok_region (i := 11) ?_; refine ok_p rfl rfl rfl (by exact ps_move rfl rfl) ?_; refine ok_p rfl rfl rfl (by exact ps_assign rfl rfl) ?_; refine ok_nil ?_; refine ok_env [(0, _), (1, _), (2, _), (6, _), (7, _), (8, _)] ⟨rfl, rfl, rfl, rfl, rfl, rfl, trivial⟩ ?_)
      | (refine ok_region (i := 12) ?_; refine ok_p rfl rfl rfl (by exact ps_move rfl rfl) ?_; refine ok_p rfl rfl rfl (by exact ps_move rfl rfl) ?_; refine ok_p rfl rfl rfl (by exact ps_cast (v' := .int .i64 ((2 * s : Nat) : Int)) (ps_mul rfl rfl rfl (by omega)) (by push_cast; rfl)) ?_; refine ok_p rfl rfl rfl (by exact ps_cast (v' := .int .i64 ((a + 2 * s + 2 * s : Nat) : Int)) (ps_add rfl rfl rfl (by omega)) (by push_cast; rfl)) ?_; refine ok_p rfl rfl rfl (by exact ps_assign rfl rfl) ?_; refine ok_nil ?_; refine ok_env [(0, _), (1, _), (2, _), (6, _), (7, _), (8, _)] ⟨rfl, rfl, rfl, rfl, rfl, rfl, trivial⟩ ?_)
      | (refine ok_region (i := 13) ?_; refine ok_p rfl rfl rfl (by exact ps_move rfl rfl) ?_; refine ok_p rfl rfl rfl (by exact ps_move rfl rfl) ?_; refine ok_p rfl rfl rfl (by exact ps_cast (v' := .int .i64 ((a + s : Nat) : Int)) (ps_add rfl rfl rfl (by omega)) (by push_cast; rfl)) ?_; refine ok_p rfl rfl rfl (by exact ps_assign rfl rfl) ?_; refine ok_nil ?_; refine ok_env [(0, _), (1, _), (2, _), (6, _), (7, _), (9, _)] ⟨rfl, rfl, rfl, rfl, rfl, rfl, trivial⟩ ?_)
      | (refine ok_region (i := 14) ?_; refine ok_p rfl rfl rfl (by exact ps_move rfl rfl) ?_; refine ok_p rfl rfl rfl (by exact ps_move rfl rfl) ?_; refine ok_p rfl rfl rfl (by exact ps_int rfl rfl rfl rfl) ?_; refine ok_nil ?_; refine ok_env [(0, _), (1, _), (2, _), (6, _), (7, _), (9, _), (54, _)] ⟨rfl, rfl, rfl, rfl, rfl, rfl, rfl, trivial⟩ ?_)
      | (refine ok_region (i := 15) ?_; refine ok_p rfl rfl rfl (by exact ps_move rfl rfl) ?_; refine ok_p rfl rfl rfl (by exact ps_move rfl rfl) ?_; refine ok_p rfl rfl rfl (by exact ps_move rfl rfl) ?_; refine ok_p rfl rfl rfl (by exact ps_move rfl rfl) ?_; refine ok_p rfl rfl rfl (by exact ps_move rfl rfl) ?_; refine ok_m rfl rfl rfl (by exact ms_w5 (fun _ _ _ h => h) rfl rfl rfl rfl rfl rfl (fun _ _ w hw => symM_c A n c hl (2 * s) a (a + s) n C (by omega) hcn (by omega) (by omega) (by omega) (S1.out (by omega)) (S2.out _ (by omega)) hw)) ?_; rintro y60 hy60; refine ok_nil ?_; refine ok_env [(0, _), (1, _), (2, _), (6, _)] ⟨rfl, rfl, rfl, rfl, trivial⟩ ?_)
      | (refine ok_region (i := 16) ?_; refine ok_p rfl rfl rfl (by exact ps_move rfl rfl) ?_; refine ok_p rfl rfl rfl (by exact ps_cast (v' := .int .i64 ((2 * s : Nat) : Int)) (ps_mul rfl rfl rfl (by omega)) (by push_cast; congr 1; omega)) ?_; refine ok_p rfl rfl rfl (by exact ps_assign rfl rfl) ?_; refine ok_nil ?_; refine ok_env [(0, _), (1, _), (2, _), (6, _)] ⟨rfl, rfl, rfl, rfl, trivial⟩ ?_))
    · exact fun ac w' he hw => ⟨⟨rM y43, a + 2 * s, t + 1, ⟨by omega, mul_snoc HA.out⟩, SEG.out.trans (hy43.1.wide (by omega) (by omega)), mix_step (by omega) MIX.out HA.out (.inl rfl) hy43.1 hy43.2⟩, by simp only; omega, he.sub ⟨rfl, rfl, rfl, rfl, rfl, rfl, trivial⟩, hw⟩
    · exact fun ac w' he hw => ⟨⟨rM y60, 2 * s, by omega, SEG.out.trans (hy60.1.wide (by omega) (by omega)), mix_end (mix_step (by omega) MIX.out HA.out (.inr ⟨rfl, by omega⟩) hy60.1 hy60.2)⟩, by simp only; omega, he.sub ⟨rfl, rfl, rfl, rfl, trivial⟩, hw⟩
    · exact fun ac w' he hw => ⟨⟨C, 2 * s, by omega, SEG.out, mix_end (mix_rest (k := 0) rfl hs.1 MIX.out HA.out (by omega))⟩, by simp only; omega, he.sub ⟨rfl, rfl, rfl, rfl, trivial⟩, hw⟩
  · refine ok_endN (K := .normal) (ok_endL (vs := []) rfl trivial (fun w' hw => ⟨yM D w, rfl, ?_, ?_⟩))
    · rw [rM_yM]
      exact ⟨SEG.out.st, srt_le (by rw [hdn]; exact runs_srt RUN.out (by omega)), hdn⟩
    · rw [rM_yM]; exact hw
theorem sortStable_c (A : Option Addr) (n c : Nat) (L : List Ent) (hn : L.length = n) (hl : n ≤ 4194304) {base : Nat} {w0 w : World} {H : List HObj} {G : List World} (hw : WOk base w0 (rwE A n c L :: H) G w) :
    Calls Try.prog 204 #[.slice A n c, cmpV] w fun e w' => ∃ y : Ys, e = .returned (.tuple #[]) ∧ (stb L (rM y) ∧ leS' (rM y) ∧ (rM y).length = n) ∧ WOk base w0 (rwE A n c (rM y) :: H) G w' := by
  refine ok_enterW 9 Try.func204 rfl rfl rfl hw ?_
  repeat' ((refine ok_region (i := 0) ?_; refine ok_p rfl rfl rfl (by exact ps_move rfl rfl) ?_; refine ok_p rfl rfl rfl (by exact ps_move rfl rfl) ?_; refine ok_p rfl rfl rfl (by exact ps_len rfl rfl) ?_; refine ok_p rfl rfl rfl (by exact ps_move rfl rfl) ?_; refine ok_m rfl rfl rfl (by exact ms_w3 (fun _ _ _ h => h) rfl rfl rfl rfl (fun _ _ w hw => stable_c A n c L hn hl hw)) ?_; rintro y8 hy8; refine ok_nil ?_; refine ok_env [] trivial ?_))
  exact ok_endN (K := .normal) (ok_endL (vs := []) rfl trivial (fun w' hw => ⟨y8, rfl, hy8, hw⟩))
end Go.Proofs.Ytbegbdfbfbkflaa
/- What a compaction keeps, step by step. In plain Lean. -/
namespace Go.Proofs.Ytbegbdfbfbkflaa
set_option linter.unusedVariables false
/-- The first of each bunch among the first m. -/
def adjK (L : List Ent) : Nat → List Ent
  | 0 => []
  | m + 1 => adjK L m ++ if m = 0 ∨ sameE (nth L m) (nth L (m - 1)) = false then [nth L m] else []
def cmpA : Ent → List Ent → List Ent
  | _, [] => []
  | p, x :: L => if sameE x p = true then cmpA x L else x :: cmpA x L
theorem same_flip {a b c : Ent} (h : sameE a b = true) : sameE c b = sameE a c := by
  cases h1 : sameE a c with
  | true => rw [same_sym]; exact same_trans h h1
  | false =>
    cases h2 : sameE c b with
    | false => rfl
    | true =>
      have := same_trans (by rw [same_sym]; exact h : sameE b a = true) (by rw [same_sym]; exact h2 : sameE b c = true)
      rw [h1] at this; cases this
theorem cmpct_A : ∀ (L : List Ent) (a b : Ent), sameE a b = true → cmpct (a :: L) = a :: cmpA b L
  | [], a, b, h => by rw [cmpct, cmpA]
  | x :: L, a, b, h => by
    rw [cmpct, cmpA, same_flip h]
    by_cases hx : sameE a x = true
    · rw [if_pos hx, if_pos hx]; exact cmpct_A L a x hx
    · rw [if_neg hx, if_neg hx, cmpct_A L x x (same_refl x)]
theorem adj_tot (L : List Ent) (h0 : 0 < L.length) : ∀ k, k < L.length → adjK L (k + 1) ++ cmpA (nth L k) (L.drop (k + 1)) = cmpct L
  | 0, hk => by
    cases L with
    | nil => cases h0
    | cons a T =>
      rw [cmpct_A T a a (same_refl a)]
      simp [adjK, nth]
  | k + 1, hk => by
    have ih := adj_tot L h0 k (by omega)
    rw [← ih, List.drop_eq_getElem_cons (show k + 1 < L.length from hk), cmpA]
    have e : L[k + 1] = nth L (k + 1) := by simp [nth, hk]
    rw [e, adjK]
    have h1 : ¬ (k + 1 = 0) := by omega
    rw [show k + 1 - 1 = k by omega]
    by_cases hs : sameE (nth L (k + 1)) (nth L k) = true
    · rw [if_pos hs, if_neg (by rw [hs]; simp)]; simp
    · rw [if_neg hs, if_pos (.inr (by simpa using hs))]; simp
theorem adj_end (L : List Ent) : adjK L L.length = cmpct L := by
  cases hL : L.length with
  | zero => rw [List.length_eq_zero_iff.1 hL]; rw [adjK, cmpct]
  | succ k =>
    have := adj_tot L (by omega) k (by omega)
    rw [List.drop_eq_nil_of_le (by omega), cmpA, List.append_nil] at this
    exact this
theorem adj_same {L : List Ent} {m : Nat} (h0 : 0 < m) (h : sameE (nth L m) (nth L (m - 1)) = true) : adjK L (m + 1) = adjK L m := by
  rw [adjK, if_neg (by rw [h]; simp; omega)]; simp
theorem adj_diff {L : List Ent} {m : Nat} (h : sameE (nth L m) (nth L (m - 1)) = false) : adjK L (m + 1) = adjK L m ++ [nth L m] := by
  rw [adjK, if_pos (.inr h)]
theorem adj_zero (L : List Ent) : adjK L 1 = [nth L 0] := by rw [adjK, adjK, if_pos (.inl rfl)]; rfl
theorem takeE_snoc {L : List Ent} {k : Nat} (h : k < L.length) : L.take (k + 1) = L.take k ++ [nth L k] := by
  rw [List.take_add_one, List.getElem?_eq_getElem h]; simp [nth, h]
/-- A place behind the front that is kept still holds what it held. -/
theorem nth_back {O L : List Ent} {k j : Nat} (ho : O.length = k) (hj : k ≤ j) : nth (O ++ L.drop k) j = nth L j := by
  rw [nth_app, if_neg (by omega), nth_drop]; congr 1; omega
theorem set_front {O L : List Ent} {k : Nat} (ho : O.length = k) (hk : k < L.length) (x : Ent) : (O ++ L.drop k).set k x = (O ++ [x]) ++ L.drop (k + 1) := by
  rw [List.drop_eq_getElem_cons hk, List.set_append, if_neg (by omega), show k - O.length = 0 by omega, List.set_cons_zero, List.append_assoc]
  rfl
end Go.Proofs.Ytbegbdfbfbkflaa
/- The engine: the bytes of a string, in a row of its own. -/
namespace Go.Proofs.Ytbegbdfbfbkflaa
open Go.RowKit
set_option linter.unusedVariables false
set_option linter.unusedSimpArgs false
def mkY2 (g c : Nat) (w : World) : Ys := fun i => if i = 0 then ⟨none, g, w, 0⟩ else ⟨none, c, w, 0⟩
section
variable {P : Program} {N base : Nat} {w0 : World} {E : Env} {H : List HObj} {G : List World} {Q : Exit → Act → World → Prop} {o : Oper}
end
end Go.Proofs.Ytbegbdfbfbkflaa
/- The engine: rows whose cells are all known, copies into them, rows grown by zeros; slices.overlaps. -/
namespace Go.Proofs.Ytbegbdfbfbkflaa
open Go.RowKit
set_option linter.unusedVariables false
set_option linter.unusedSimpArgs false
section
variable {base : Nat} {w0 w : World} {H : List HObj} {G : List World}
theorem WOk.boxRow {e sz n c g : Nat} {cs us : List Value} (hw : WOk base w0 (.box g e cs :: H) G w) (hcs : cs.length = c * sz) (hcm : c ≤ maxLen) (hn : n ≤ c) (hu : cs.take (n * sz) = us) : WOk base w0 (.row e sz (ga g) n c us :: H) G w := by
  obtain ⟨hb, hh⟩ := hw.own _ List.mem_cons_self
  have hl : n * sz ≤ c * sz := Nat.mul_le_mul_right _ hn
  refine hw.turn (i := 0) (x' := .row e sz (ga g) n c us) rfl (r := none) (World.grownBy.refl w _) (fun k hk => by cases hk) ⟨by rw [← hu, List.length_take, hcs]; omega, .inr ⟨g, c, cs.toArray, rfl, hb, hh, hn, hcm, by simpa using hcs, by simpa using hu⟩⟩ (fun k hk => .inl (by cases hk; rfl))
end
section
variable {P : Program} {N base : Nat} {w0 : World} {E : Env} {H : List HObj} {G : List World} {Q : Exit → Act → World → Prop} {o : Oper}
theorem first_of {A : Option Addr} {us : List Value} {w : World} {sz i c : Nat} (hr : Rd w A us) (hl : us.length = i * sz) (hs : 0 < sz) : (Builtin.firstCells sz i (.slice A i c)).run P w = .ok us.toArray w := by
  rcases A with _ | ad
  · have hn : us = [] := by
      rcases us with _ | ⟨u, l⟩
      · rfl
      · obtain ⟨ad, e, _⟩ := hr 0 u rfl; cases e
    subst hn; exact run_firstCells_none w sz i i c
  · exact run_firstCells_some w sz i ad i c us hl (fun j v hv => by obtain ⟨ad', e, h⟩ := hr j v hv; cases e; exact h)
def zz (z : List Value) (n : Nat) : List Value := (Builtin.zeroCells z.toArray n).toList
theorem zz_len (z : List Value) (n : Nat) : (zz z n).length = n * z.length := by simp [zz, Builtin.zeroCells]
/-- append of zeros where no room is: a new row, all of it known. -/
theorem ms_appZ {t tn e sz bytes i c n : Nat} {A : Option Addr} {x y' : Operand} {us z : List Value} {k kn : IntKind} [ht : EL P t e sz bytes] [hk : IK P tn kn] [hz : ZV P e z] (ho : o.op = .call { callee := .builtin .append, args := #[x, y'], argTypes := #[t, tn] })
    (hx : opd E x = some (.slice A i c)) (hy : opd E y' = some (.int k (n : Int))) (hr : Rds H G A us) (hl : us.length = i * sz) (h0 : 0 < n) (hg : c < i + n) (hb : (i + n) * bytes ≤ 140737488355328) (hm : i + n ≤ 140737488355328) :
    MStep P E H G o (fun y => i + n ≤ (y 1).c ∧ (y 1).c ≤ maxLen) (fun y => .slice (ga (y 0).c) (i + n) (y 1).c) (fun y => .box (y 0).c e ((us ++ zz z n) ++ zz z ((y 1).c - (i + n))) :: H) (fun _ => G) := fun N base w0 a w Q K he hw hK => by
  obtain ⟨hu, hz0, inf, zv, hi, hzv, hs, hby, hzs⟩ := ht.h
  have hz1 : zv.cells = z.toArray := by
    have := hz.h
    unfold zvB at this
    simpa [hi, hzv] using this
  have hold : (Builtin.firstCells inf.size i (.slice A i c)).run P w.drew = .ok us.toArray w.drew := by
    rw [hs]; exact first_of (hr base w0 w.drew hw.drew) hl hz0
  have hnb : n * inf.bytes ≤ 281474976710656 := by
    rw [hby]
    have : n * bytes ≤ (i + n) * bytes := Nat.mul_le_mul_right _ (by omega)
    omega
  have hrun := Lib.run_append_grow_zeros (P := P) w t tn o.type e inf zv k kn hu hk.h hi hzv A i c us hold n h0 (by omega) hg (by omega) hnb (by rw [hby]; exact growslice_fits hg hb)
  rw [hz1] at hrun
  have hr' : (execOp a.eval o).run P w = .ok (.value (.slice (some ⟨w.heap.size, 0, none⟩) (i + n) (grownCap w (i + n) c e))) (w.drew.alloc (.cells (((us ++ zz z n) ++ zz z (grownCap w (i + n) c e - (i + n))).toArray) e)) := by
    unfold execOp
    simp only [ho, resolve, invoke, builtin, Sem.run_bind, Sem.run_pure, Result.andThen_ok, List.map_toArray, List.map_cons, List.map_nil, he.eval hx, he.eval hy, hrun]
    congr 3
    congr 1
    apply Array.ext'
    simp [zz]
  unfold Oper.wp; rw [hr']
  exact hK (mkY2 w.heap.size (grownCap w (i + n) c e) w) _ ⟨grownCap_ge w _ _ _, grownCap_le_maxLen w _ _ _ (by unfold maxLen; omega)⟩ (wok_new (sz := sz) (n := n) hw.drew e _)
theorem ps_capS {x : Operand} {t e sz bytes : TypeId} {A : Option Addr} {n c : Nat} [ht : EL P t e sz bytes] (ho : o.op = .call { callee := .builtin .cap, args := #[x], argTypes := #[t] }) (hx : opd E x = some (.slice A n c)) : PStep P E H G o (.int .i64 (c : Int)) := fun N base w0 a w he hw => by
  simp [execOp, ho, resolve, invoke, builtin, Builtin.cap_, he.eval hx, run_underlying ht.h.1, goInt]
end
end Go.Proofs.Ytbegbdfbfbkflaa
/- slices.Grow of nil, slices.Concat of rows of Ent. -/
namespace Go.Proofs.Ytbegbdfbfbkflaa
open Go.RowKit
set_option maxHeartbeats 4000000
set_option maxRecDepth 20000
set_option linter.unusedVariables false
set_option linter.unusedSimpArgs false
attribute [local irreducible] Calls
theorem growEnt_c (n : Nat) (hn : n ≤ 4194304) (w : World) :
    Calls Try.prog 237 #[.slice none 0 0, .int .i64 (n : Int)] w fun e w' => ∃ y : Ys, e = .returned (.slice (y 0).A 0 (y 0).c) ∧ True ∧ Below w.heap.size w w' ∧ NewOk w.heap.size [.row 71 4 (y 0).A 0 (y 0).c []] [] w' := by
  refine ok_enter 27 Try.func237 rfl rfl rfl ?_
  repeat' (first
    | refine ok_seq ?_
    | refine ok_then ?_
    | refine ok_then_ret ?_
    | refine ok_then_exit ?_
    | refine ok_block ?_
    | refine ok_in_normal ?_
    | refine ok_in_ret ?_
    | refine ok_in_exit ?_
    | refine ok_in_other rfl ?_
    | (refine ok_cond rfl (fun hc => ?_) (fun hc => ?_) <;> (have hd := hc; (try simp only [decide_eq_true_eq, decide_eq_false_iff_not, Bool.or_eq_true, Bool.or_eq_false_iff, Bool.and_eq_true, Bool.and_eq_false_iff, Bool.not_eq_true', Bool.not_eq_false', bne_iff_ne, beq_iff_eq, bne_eq_false_iff_eq, beq_eq_false_iff_ne, ne_eq, Bool.not_true, Bool.not_false, Bool.false_eq_true, Bool.true_eq_false, inB_true, inB_false] at hd)))
    | refine ok_ret ?_
    | refine ok_exit ?_
    | refine ok_skip ?_
    | (refine ok_region (i := 0) ?_; refine ok_p rfl rfl rfl (by exact ps_assign rfl rfl) ?_; refine ok_nil ?_; refine ok_env [(0, _), (1, _)] ⟨rfl, rfl, trivial⟩ ?_)
    | (refine ok_region (i := 1) ?_; refine ok_p rfl rfl rfl (by exact ps_move rfl rfl) ?_; refine ok_p rfl rfl rfl (by exact ps_int rfl rfl rfl rfl) ?_; refine ok_nil ?_; refine ok_env [(0, _), (1, _), (6, _)] ⟨rfl, rfl, rfl, trivial⟩ ?_)
    | (refine ok_region (i := 2) ?_; refine ok_p rfl rfl rfl (by fail "no rule makeInterface") ?_; refine ok_p rfl rfl rfl (by fail "no rule panic") ?_; refine ok_nil ?_; refine ok_env [(0, _), (1, _)] ⟨rfl, rfl, trivial⟩ ?_)
    | (refine ok_region (i := 3) ?_; refine ok_p rfl rfl rfl (by exact ps_move rfl rfl) ?_; refine ok_p rfl rfl rfl (by exact ps_move rfl rfl) ?_; refine ok_p rfl rfl rfl (by first | exact ps_capS rfl rfl | exact ps_cap rfl rfl rfl) ?_; refine ok_p rfl rfl rfl (by exact ps_move rfl rfl) ?_; refine ok_p rfl rfl rfl (by exact ps_len rfl rfl) ?_; refine ok_p rfl rfl rfl (by first | exact ps_cast (v' := .int .i64 0) (ps_sub rfl rfl rfl (by omega)) (congrArg (Value.int .i64) (by omega)) | exact ps_sub rfl rfl rfl (by omega)) ?_; refine ok_p rfl rfl rfl (by first | exact ps_cast (v' := .int .i64 (n : Int)) (ps_sub rfl rfl rfl (by omega)) (congrArg (Value.int .i64) (by omega)) | exact ps_sub rfl rfl rfl (by omega)) ?_; refine ok_p rfl rfl rfl (by exact ps_assign rfl rfl) ?_; refine ok_nil ?_; refine ok_env [(0, _), (1, _)] ⟨rfl, rfl, trivial⟩ ?_)
    | (refine ok_region (i := 4) ?_; refine ok_p rfl rfl rfl (by exact ps_move rfl rfl) ?_; refine ok_p rfl rfl rfl (by exact ps_int rfl rfl rfl rfl) ?_; refine ok_nil ?_; refine ok_env [(0, _), (1, _), (16, _)] ⟨rfl, rfl, rfl, trivial⟩ ?_)
    | (refine ok_region (i := 5) ?_; refine ok_p rfl rfl rfl (by exact ps_move rfl rfl) ?_; refine ok_p rfl rfl rfl (by exact ps_move rfl rfl) ?_; refine ok_p rfl rfl rfl (by first | exact ps_capS rfl rfl | exact ps_cap rfl rfl rfl) ?_; refine ok_p rfl rfl rfl (by exact ps_slice0 (h := 0) rfl rfl rfl (by omega) (by omega)) ?_; refine ok_p rfl rfl rfl (by exact ps_move rfl rfl) ?_; refine ok_m rfl rfl rfl (by exact ms_appZ (us := []) (i := 0) (n := n) rfl rfl rfl (fun _ _ w _ => Rd.nil w _) rfl (by omega) (by omega) (by omega) (by omega)) ?_; rintro y22 hy22; refine ok_p rfl rfl rfl (by exact ps_move rfl rfl) ?_; refine ok_p rfl rfl rfl (by exact ps_len rfl rfl) ?_; refine ok_p rfl rfl rfl (by exact ps_slice0 (h := 0) rfl rfl rfl (by omega) (by omega)) ?_; refine ok_p rfl rfl rfl (by exact ps_assign rfl rfl) ?_; refine ok_nil ?_; refine ok_env [(0, _)] ⟨rfl, trivial⟩ ?_)
    | (refine ok_region (i := 6) ?_; refine ok_p rfl rfl rfl (by exact ps_move rfl rfl) ?_; refine ok_p rfl rfl rfl (by exact ps_assign rfl rfl) ?_; refine ok_nil ?_; refine ok_env [(4, _)] ⟨rfl, trivial⟩ ?_))
  · exfalso; omega
  · refine ok_endL (vs := [_]) rfl ⟨rfl, trivial⟩ (fun w' hw => ⟨mkY (ga (y22 0).c) (y22 1).c w', rfl, trivial, hw.below, ?_⟩)
    obtain ⟨q1, q2⟩ := hy22
    refine NewOk.of (G := []) ((hw.boxRow (n := 0) (c := (y22 1).c) (us := []) (sz := 4) ?_ q2 (Nat.zero_le _) (by simp)).sel [0] (by decide) rfl (fun _ h => by cases h))
    simp only [List.length_append, zz_len, List.length_cons, List.length_nil]
    omega
  · exact ok_endL (vs := [_]) rfl ⟨rfl, trivial⟩ (fun w' hw => ⟨mkY none 0 w', rfl, trivial, hw.below, NewOk.one (Own.nil w' _ _ _)⟩)
theorem offEnt_succ (R : List (Lc (List Ent))) (i : Nat) (h : i < R.length) : offR List.length (dats R) (i + 1) = offR List.length (dats R) i + (nth R i).d.length := by
  rw [nthL R i h]
  have hd : i < (dats R).length := by rw [dats_len]; exact h
  unfold offR
  rw [List.take_succ_eq_append_getElem hd, List.map_append, List.sum_append]
  simp [dats]
theorem catEnt_step (R : List (Lc (List Ent))) (i : Nat) (h : i < R.length) : ((dats R).take (i + 1)).flatten = ((dats R).take i).flatten ++ (nth R i).d := by
  rw [nthL R i h]
  have hd : i < (dats R).length := by rw [dats_len]; exact h
  rw [List.take_succ_eq_append_getElem hd, List.flatten_append]
  simp [dats]
theorem catEnt_len (x : List (List Ent)) (i : Nat) : ((x.take i).flatten).length = offR List.length x i := by
  unfold offR; rw [List.length_flatten]
theorem concatEnt_c (A : Option Addr) (c : Nat) (R : List (Lc (List Ent))) (w : World) (h : RdN w A R) (hl : R.length ≤ 4194304) (ht : ∀ k, offR List.length (dats R) k ≤ 4194304) :
    Calls Try.prog 203 #[.slice A R.length c] w fun e w' => ∃ y : Ys, e = .returned (.slice (y 0).A ((dats R).flatten).length (y 0).c) ∧ True ∧ Below w.heap.size w w' ∧ NewOk w.heap.size [.row 71 4 (y 0).A ((dats R).flatten).length (y 0).c (fl (dats R).flatten)] [] w' := by
  obtain ⟨h1, h2⟩ := h
  have H2 := Lib.hid h2; clear h2
  have HT := Lib.hid ht; clear ht
  refine ok_enter 36 Try.func203 rfl rfl rfl ?_
  repeat' (first
    | refine ok_seq ?_
    | refine ok_then ?_
    | refine ok_then_ret ?_
    | refine ok_then_exit ?_
    | refine ok_block ?_
    | refine ok_in_normal ?_
    | refine ok_in_ret ?_
    | refine ok_in_exit ?_
    | refine ok_in_other rfl ?_
    | (refine ok_cond rfl (fun hc => ?_) (fun hc => ?_) <;> (have hd := hc; (try simp only [decide_eq_true_eq, decide_eq_false_iff_not, Bool.or_eq_true, Bool.or_eq_false_iff, Bool.and_eq_true, Bool.and_eq_false_iff, Bool.not_eq_true', Bool.not_eq_false', bne_iff_ne, beq_iff_eq, bne_eq_false_iff_eq, beq_eq_false_iff_ne, ne_eq, Bool.not_true, Bool.not_false, Bool.false_eq_true, Bool.true_eq_false, inB_true, inB_false] at hd)))
    | refine ok_ret ?_
    | refine ok_exit ?_
    | refine ok_skip ?_
    | (refine ok_region (i := 0) ?_; refine ok_p rfl rfl rfl (by exact ps_assign rfl rfl) ?_; refine ok_nil ?_; refine ok_env [(0, _)] ⟨rfl, trivial⟩ ?_)
    | (refine ok_region (i := 1) ?_; refine ok_p rfl rfl rfl (by exact ps_assign rfl rfl) ?_; refine ok_nil ?_; refine ok_env [(0, _), (3, _)] ⟨rfl, rfl, trivial⟩ ?_)
    | (refine ok_region (i := 2) ?_; refine ok_p rfl rfl rfl (by exact ps_move rfl rfl) ?_; refine ok_p rfl rfl rfl (by exact ps_len rfl rfl) ?_; refine ok_p rfl rfl rfl (by exact ps_move rfl rfl) ?_; refine ok_nil ?_; refine ok_env [(0, _), (3, _), (9, _), (10, _), (11, _)] ⟨rfl, rfl, rfl, rfl, rfl, trivial⟩ ?_)
    | (refine ok_region (i := 3) ?_; refine ok_p rfl rfl rfl (by exact ps_int rfl rfl rfl rfl) ?_; refine ok_nil ?_; refine ok_env [(0, _), (3, _), (9, _), (10, _), (11, _), (12, _)] ⟨rfl, rfl, rfl, rfl, rfl, rfl, trivial⟩ ?_)
    | (refine ok_region (i := 4) ?_; refine ok_p rfl rfl rfl (by first | exact ps_indexN rfl rfl rfl (by omega) (by first | exact isw_ga _ | exact isw_some _ | exact isw_row 0 rfl (by omega) | exact isw_row 1 rfl (by omega) | exact isw_row 2 rfl (by omega) | exact isw_row 3 rfl (by omega) | exact isw_row 4 rfl (by omega) | exact isw_row 5 rfl (by omega) | exact isw_row 6 rfl (by omega) | exact isw_row 7 rfl (by omega) | exact isw_row 8 rfl (by omega) | exact isw_of (isS_fl (by assumption) (by omega)) | exact isw_of (by assumption)) | exact ps_index rfl rfl rfl (by omega) (by first | exact isw_ga _ | exact isw_some _ | exact isw_row 0 rfl (by omega) | exact isw_row 1 rfl (by omega) | exact isw_row 2 rfl (by omega) | exact isw_row 3 rfl (by omega) | exact isw_row 4 rfl (by omega) | exact isw_row 5 rfl (by omega) | exact isw_row 6 rfl (by omega) | exact isw_row 7 rfl (by omega) | exact isw_row 8 rfl (by omega) | exact isw_of (isS_fl (by assumption) (by omega)) | exact isw_of (by assumption))) ?_; refine ok_p rfl rfl rfl (by exact ps_load rfl rfl (by first | exact Rds.cell (rds_box 0 rfl) rfl | exact Rds.cell (rds_box 1 rfl) rfl | exact Rds.cell (rds_box 2 rfl) rfl | exact Rds.cell (rds_box 3 rfl) rfl | exact Rds.cell (rds_box 4 rfl) rfl | exact Rds.cell (rds_box 5 rfl) rfl | exact Rds.cell (rds_box 6 rfl) rfl | exact Rds.cell (rds_box 7 rfl) rfl | exact Rds.cell (rds_box 8 rfl) rfl | exact Rds.cell (rds_box 9 rfl) rfl | exact Rds.cell (rds_box 10 rfl) rfl | exact Rds.cell (rds_box 11 rfl) rfl | exact Rds.cell (rds_box 12 rfl) rfl | exact Rds.cell (rds_box 13 rfl) rfl | exact Rds.cell (rds_box 14 rfl) rfl | exact Rds.cell (rds_box 15 rfl) rfl | exact Rds.cell (rds_box 16 rfl) rfl | exact Rds.cell (rds_box 17 rfl) rfl | exact Rds.cell (rds_box 18 rfl) rfl | exact Rds.cell (rds_box 19 rfl) rfl | exact Rds.cell (rds_box 20 rfl) rfl | exact Rds.cell (rds_box 21 rfl) rfl | exact Rds.cell (rds_box 22 rfl) rfl | exact Rds.cell (rds_box 23 rfl) rfl | exact Rds.cell (rds_rf (by assumption) (by first | exact List.mem_cons_self | exact List.mem_cons_of_mem _ List.mem_cons_self | simp)) (by first | exact fl_at0 _ _ (by omega) (by decide) | exact fl_at _ _ _ (by omega) (by decide)) | exact Rds.cell (rds_row 0 rfl) (by first | exact fl_at0 _ _ (by omega) (by decide) | exact fl_at _ _ _ (by omega) (by decide)) | exact Rds.cell (rds_row 1 rfl) (by first | exact fl_at0 _ _ (by omega) (by decide) | exact fl_at _ _ _ (by omega) (by decide)) | exact Rds.cell (rds_row 2 rfl) (by first | exact fl_at0 _ _ (by omega) (by decide) | exact fl_at _ _ _ (by omega) (by decide)) | exact Rds.cell (rds_row 3 rfl) (by first | exact fl_at0 _ _ (by omega) (by decide) | exact fl_at _ _ _ (by omega) (by decide)) | exact Rds.cell (rds_row 4 rfl) (by first | exact fl_at0 _ _ (by omega) (by decide) | exact fl_at _ _ _ (by omega) (by decide)) | exact Rds.cell (rds_row 5 rfl) (by first | exact fl_at0 _ _ (by omega) (by decide) | exact fl_at _ _ _ (by omega) (by decide)) | exact Rds.cell (rds_row 6 rfl) (by first | exact fl_at0 _ _ (by omega) (by decide) | exact fl_at _ _ _ (by omega) (by decide)) | exact Rds.cell (rds_row 7 rfl) (by first | exact fl_at0 _ _ (by omega) (by decide) | exact fl_at _ _ _ (by omega) (by decide)) | exact Rds.cell (rds_row 8 rfl) (by first | exact fl_at0 _ _ (by omega) (by decide) | exact fl_at _ _ _ (by omega) (by decide)) | exact Rds.cell (rds_row 9 rfl) (by first | exact fl_at0 _ _ (by omega) (by decide) | exact fl_at _ _ _ (by omega) (by decide)))) ?_; refine ok_p rfl rfl rfl (by exact ps_assign rfl rfl) ?_; refine ok_nil ?_; refine ok_env [(0, _), (3, _), (5, _), (9, _), (10, _), (11, _)] ⟨rfl, rfl, rfl, rfl, rfl, rfl, trivial⟩ ?_)
    | (refine ok_region (i := 5) ?_; refine ok_p rfl rfl rfl (by exact ps_move rfl rfl) ?_; refine ok_p rfl rfl rfl (by exact ps_move rfl rfl) ?_; refine ok_p rfl rfl rfl (by exact ps_len rfl rfl) ?_; refine ok_p rfl rfl rfl (by exact ps_add rfl rfl rfl (by omega)) ?_; refine ok_p rfl rfl rfl (by exact ps_assign rfl rfl) ?_; refine ok_nil ?_; refine ok_env [(0, _), (3, _), (9, _), (10, _), (11, _)] ⟨rfl, rfl, rfl, rfl, rfl, trivial⟩ ?_)
    | (refine ok_region (i := 6) ?_; refine ok_p rfl rfl rfl (by exact ps_move rfl rfl) ?_; refine ok_p rfl rfl rfl (by exact ps_int rfl rfl rfl rfl) ?_; refine ok_nil ?_; refine ok_env [(0, _), (3, _), (9, _), (10, _), (11, _), (20, _)] ⟨rfl, rfl, rfl, rfl, rfl, rfl, trivial⟩ ?_)
    | (refine ok_region (i := 7) ?_; refine ok_p rfl rfl rfl (by fail "no rule makeInterface") ?_; refine ok_p rfl rfl rfl (by fail "no rule panic") ?_; refine ok_nil ?_; refine ok_env [(0, _), (3, _), (9, _), (10, _), (11, _)] ⟨rfl, rfl, rfl, rfl, rfl, trivial⟩ ?_)
    | (refine ok_region (i := 8) ?_; refine ok_p rfl rfl rfl (by exact ps_add rfl rfl rfl (by omega)) ?_; refine ok_p rfl rfl rfl (by exact ps_move rfl rfl) ?_; refine ok_nil ?_; refine ok_env [(0, _), (3, _), (9, _), (10, _), (11, _)] ⟨rfl, rfl, rfl, rfl, rfl, trivial⟩ ?_)
    | (refine ok_region (i := 9) ?_; refine ok_p rfl rfl rfl (by exact ps_move rfl rfl) ?_; refine ok_m rfl rfl rfl (by fail "no maker call") ?_; rintro y24 hy24; refine ok_p rfl rfl rfl (by exact ps_assign rfl rfl) ?_; refine ok_nil ?_; refine ok_env [(0, _), (6, _)] ⟨rfl, rfl, trivial⟩ ?_)
    | (refine ok_region (i := 10) ?_; refine ok_p rfl rfl rfl (by exact ps_move rfl rfl) ?_; refine ok_p rfl rfl rfl (by exact ps_len rfl rfl) ?_; refine ok_p rfl rfl rfl (by exact ps_move rfl rfl) ?_; refine ok_nil ?_; refine ok_env [(6, _), (25, _), (26, _), (27, _)] ⟨rfl, rfl, rfl, rfl, trivial⟩ ?_)
    | (refine ok_region (i := 11) ?_; refine ok_p rfl rfl rfl (by exact ps_int rfl rfl rfl rfl) ?_; refine ok_nil ?_; refine ok_env [(6, _), (25, _), (26, _), (27, _), (28, _)] ⟨rfl, rfl, rfl, rfl, rfl, trivial⟩ ?_)
    | (refine ok_region (i := 12) ?_; refine ok_p rfl rfl rfl (by first | exact ps_indexN rfl rfl rfl (by omega) (by first | exact isw_ga _ | exact isw_some _ | exact isw_row 0 rfl (by omega) | exact isw_row 1 rfl (by omega) | exact isw_row 2 rfl (by omega) | exact isw_row 3 rfl (by omega) | exact isw_row 4 rfl (by omega) | exact isw_row 5 rfl (by omega) | exact isw_row 6 rfl (by omega) | exact isw_row 7 rfl (by omega) | exact isw_row 8 rfl (by omega) | exact isw_of (isS_fl (by assumption) (by omega)) | exact isw_of (by assumption)) | exact ps_index rfl rfl rfl (by omega) (by first | exact isw_ga _ | exact isw_some _ | exact isw_row 0 rfl (by omega) | exact isw_row 1 rfl (by omega) | exact isw_row 2 rfl (by omega) | exact isw_row 3 rfl (by omega) | exact isw_row 4 rfl (by omega) | exact isw_row 5 rfl (by omega) | exact isw_row 6 rfl (by omega) | exact isw_row 7 rfl (by omega) | exact isw_row 8 rfl (by omega) | exact isw_of (isS_fl (by assumption) (by omega)) | exact isw_of (by assumption))) ?_; refine ok_p rfl rfl rfl (by exact ps_load rfl rfl (by first | exact Rds.cell (rds_box 0 rfl) rfl | exact Rds.cell (rds_box 1 rfl) rfl | exact Rds.cell (rds_box 2 rfl) rfl | exact Rds.cell (rds_box 3 rfl) rfl | exact Rds.cell (rds_box 4 rfl) rfl | exact Rds.cell (rds_box 5 rfl) rfl | exact Rds.cell (rds_box 6 rfl) rfl | exact Rds.cell (rds_box 7 rfl) rfl | exact Rds.cell (rds_box 8 rfl) rfl | exact Rds.cell (rds_box 9 rfl) rfl | exact Rds.cell (rds_box 10 rfl) rfl | exact Rds.cell (rds_box 11 rfl) rfl | exact Rds.cell (rds_box 12 rfl) rfl | exact Rds.cell (rds_box 13 rfl) rfl | exact Rds.cell (rds_box 14 rfl) rfl | exact Rds.cell (rds_box 15 rfl) rfl | exact Rds.cell (rds_box 16 rfl) rfl | exact Rds.cell (rds_box 17 rfl) rfl | exact Rds.cell (rds_box 18 rfl) rfl | exact Rds.cell (rds_box 19 rfl) rfl | exact Rds.cell (rds_box 20 rfl) rfl | exact Rds.cell (rds_box 21 rfl) rfl | exact Rds.cell (rds_box 22 rfl) rfl | exact Rds.cell (rds_box 23 rfl) rfl | exact Rds.cell (rds_rf (by assumption) (by first | exact List.mem_cons_self | exact List.mem_cons_of_mem _ List.mem_cons_self | simp)) (by first | exact fl_at0 _ _ (by omega) (by decide) | exact fl_at _ _ _ (by omega) (by decide)) | exact Rds.cell (rds_row 0 rfl) (by first | exact fl_at0 _ _ (by omega) (by decide) | exact fl_at _ _ _ (by omega) (by decide)) | exact Rds.cell (rds_row 1 rfl) (by first | exact fl_at0 _ _ (by omega) (by decide) | exact fl_at _ _ _ (by omega) (by decide)) | exact Rds.cell (rds_row 2 rfl) (by first | exact fl_at0 _ _ (by omega) (by decide) | exact fl_at _ _ _ (by omega) (by decide)) | exact Rds.cell (rds_row 3 rfl) (by first | exact fl_at0 _ _ (by omega) (by decide) | exact fl_at _ _ _ (by omega) (by decide)) | exact Rds.cell (rds_row 4 rfl) (by first | exact fl_at0 _ _ (by omega) (by decide) | exact fl_at _ _ _ (by omega) (by decide)) | exact Rds.cell (rds_row 5 rfl) (by first | exact fl_at0 _ _ (by omega) (by decide) | exact fl_at _ _ _ (by omega) (by decide)) | exact Rds.cell (rds_row 6 rfl) (by first | exact fl_at0 _ _ (by omega) (by decide) | exact fl_at _ _ _ (by omega) (by decide)) | exact Rds.cell (rds_row 7 rfl) (by first | exact fl_at0 _ _ (by omega) (by decide) | exact fl_at _ _ _ (by omega) (by decide)) | exact Rds.cell (rds_row 8 rfl) (by first | exact fl_at0 _ _ (by omega) (by decide) | exact fl_at _ _ _ (by omega) (by decide)) | exact Rds.cell (rds_row 9 rfl) (by first | exact fl_at0 _ _ (by omega) (by decide) | exact fl_at _ _ _ (by omega) (by decide)))) ?_; refine ok_p rfl rfl rfl (by exact ps_assign rfl rfl) ?_; refine ok_nil ?_; refine ok_env [(6, _), (8, _), (25, _), (26, _), (27, _)] ⟨rfl, rfl, rfl, rfl, rfl, trivial⟩ ?_)
    | (refine ok_region (i := 13) ?_; refine ok_p rfl rfl rfl (by exact ps_move rfl rfl) ?_; refine ok_p rfl rfl rfl (by exact ps_move rfl rfl) ?_; refine ok_m rfl rfl rfl (by fail "no maker call") ?_; rintro y33 hy33; refine ok_p rfl rfl rfl (by exact ps_assign rfl rfl) ?_; refine ok_nil ?_; refine ok_env [(6, _), (25, _), (26, _), (27, _)] ⟨rfl, rfl, rfl, rfl, trivial⟩ ?_)
    | (refine ok_region (i := 14) ?_; refine ok_p rfl rfl rfl (by exact ps_add rfl rfl rfl (by omega)) ?_; refine ok_p rfl rfl rfl (by exact ps_move rfl rfl) ?_; refine ok_nil ?_; refine ok_env [(6, _), (25, _), (26, _), (27, _)] ⟨rfl, rfl, rfl, rfl, trivial⟩ ?_)
    | (refine ok_region (i := 15) ?_; refine ok_p rfl rfl rfl (by exact ps_move rfl rfl) ?_; refine ok_p rfl rfl rfl (by exact ps_assign rfl rfl) ?_; refine ok_nil ?_; refine ok_env [(2, _)] ⟨rfl, trivial⟩ ?_))
  refine ok_loop (ι := { k : Nat // k ≤ R.length }) (fun k => R.length - k.1) (fun k => ([(0, .slice A R.length c), (3, .int .i64 (offR List.length (dats R) k.1 : Int)), (9, .slice A R.length c), (10, .int .i64 R.length), (11, .int .i64 k.1)], [], _)) ⟨0, by omega⟩ (fun a w he hw => ⟨⟨0, by omega⟩, he.sub ⟨rfl, rfl, rfl, rfl, rfl, trivial⟩, hw⟩) ?_
  rintro ⟨k, hk⟩
  simp only at hk ⊢
  have ho := HT.out k
  have ho1 : k < R.length → offR List.length (dats R) k + (nth R k).d.length ≤ 4194304 := fun h => by rw [← offEnt_succ R k h]; exact HT.out (k + 1)
  repeat' (first
    | refine ok_seq ?_
    | refine ok_then ?_
    | refine ok_then_ret ?_
    | refine ok_then_exit ?_
    | refine ok_block ?_
    | refine ok_in_normal ?_
    | refine ok_in_ret ?_
    | refine ok_in_exit ?_
    | refine ok_in_other rfl ?_
    | (refine ok_cond rfl (fun hc => ?_) (fun hc => ?_) <;> (have hd := hc; (try simp only [decide_eq_true_eq, decide_eq_false_iff_not, Bool.or_eq_true, Bool.or_eq_false_iff, Bool.and_eq_true, Bool.and_eq_false_iff, Bool.not_eq_true', Bool.not_eq_false', bne_iff_ne, beq_iff_eq, bne_eq_false_iff_eq, beq_eq_false_iff_ne, ne_eq, Bool.not_true, Bool.not_false, Bool.false_eq_true, Bool.true_eq_false, inB_true, inB_false] at hd)))
    | refine ok_ret ?_
    | refine ok_exit ?_
    | refine ok_skip ?_
    | (refine ok_region (i := 0) ?_; refine ok_p rfl rfl rfl (by exact ps_assign rfl rfl) ?_; refine ok_nil ?_; refine ok_env [(0, _)] ⟨rfl, trivial⟩ ?_)
    | (refine ok_region (i := 1) ?_; refine ok_p rfl rfl rfl (by exact ps_assign rfl rfl) ?_; refine ok_nil ?_; refine ok_env [(0, _), (3, _)] ⟨rfl, rfl, trivial⟩ ?_)
    | (refine ok_region (i := 2) ?_; refine ok_p rfl rfl rfl (by exact ps_move rfl rfl) ?_; refine ok_p rfl rfl rfl (by exact ps_len rfl rfl) ?_; refine ok_p rfl rfl rfl (by exact ps_move rfl rfl) ?_; refine ok_nil ?_; refine ok_env [(0, _), (3, _), (9, _), (10, _), (11, _)] ⟨rfl, rfl, rfl, rfl, rfl, trivial⟩ ?_)
    | (refine ok_region (i := 3) ?_; refine ok_p rfl rfl rfl (by exact ps_int rfl rfl rfl rfl) ?_; refine ok_nil ?_; refine ok_env [(0, _), (3, _), (9, _), (10, _), (11, _), (12, _)] ⟨rfl, rfl, rfl, rfl, rfl, rfl, trivial⟩ ?_)
    | (refine ok_region (i := 4) ?_; refine ok_p rfl rfl rfl (by first | exact ps_indexN rfl rfl rfl (by omega) (by first | exact isw_ga _ | exact isw_some _ | exact isw_row 0 rfl (by omega) | exact isw_row 1 rfl (by omega) | exact isw_row 2 rfl (by omega) | exact isw_row 3 rfl (by omega) | exact isw_row 4 rfl (by omega) | exact isw_row 5 rfl (by omega) | exact isw_row 6 rfl (by omega) | exact isw_row 7 rfl (by omega) | exact isw_row 8 rfl (by omega) | exact isw_of (isS_fl (by assumption) (by omega)) | exact isw_of (by assumption)) | exact ps_index rfl rfl rfl (by omega) (by first | exact isw_ga _ | exact isw_some _ | exact isw_row 0 rfl (by omega) | exact isw_row 1 rfl (by omega) | exact isw_row 2 rfl (by omega) | exact isw_row 3 rfl (by omega) | exact isw_row 4 rfl (by omega) | exact isw_row 5 rfl (by omega) | exact isw_row 6 rfl (by omega) | exact isw_row 7 rfl (by omega) | exact isw_row 8 rfl (by omega) | exact isw_of (isS_fl (by assumption) (by omega)) | exact isw_of (by assumption))) ?_; refine ok_p rfl rfl rfl (by exact ps_load rfl rfl (by first | exact Rds.cell (rds_box 0 rfl) rfl | exact Rds.cell (rds_box 1 rfl) rfl | exact Rds.cell (rds_box 2 rfl) rfl | exact Rds.cell (rds_box 3 rfl) rfl | exact Rds.cell (rds_box 4 rfl) rfl | exact Rds.cell (rds_box 5 rfl) rfl | exact Rds.cell (rds_box 6 rfl) rfl | exact Rds.cell (rds_box 7 rfl) rfl | exact Rds.cell (rds_box 8 rfl) rfl | exact Rds.cell (rds_box 9 rfl) rfl | exact Rds.cell (rds_box 10 rfl) rfl | exact Rds.cell (rds_box 11 rfl) rfl | exact Rds.cell (rds_box 12 rfl) rfl | exact Rds.cell (rds_box 13 rfl) rfl | exact Rds.cell (rds_box 14 rfl) rfl | exact Rds.cell (rds_box 15 rfl) rfl | exact Rds.cell (rds_box 16 rfl) rfl | exact Rds.cell (rds_box 17 rfl) rfl | exact Rds.cell (rds_box 18 rfl) rfl | exact Rds.cell (rds_box 19 rfl) rfl | exact Rds.cell (rds_box 20 rfl) rfl | exact Rds.cell (rds_box 21 rfl) rfl | exact Rds.cell (rds_box 22 rfl) rfl | exact Rds.cell (rds_box 23 rfl) rfl | exact Rds.cell (rds_rf (by assumption) (by first | exact List.mem_cons_self | exact List.mem_cons_of_mem _ List.mem_cons_self | simp)) (by first | exact fl_at0 _ _ (by omega) (by decide) | exact fl_at _ _ _ (by omega) (by decide)) | exact Rds.cell (rds_row 0 rfl) (by first | exact fl_at0 _ _ (by omega) (by decide) | exact fl_at _ _ _ (by omega) (by decide)) | exact Rds.cell (rds_row 1 rfl) (by first | exact fl_at0 _ _ (by omega) (by decide) | exact fl_at _ _ _ (by omega) (by decide)) | exact Rds.cell (rds_row 2 rfl) (by first | exact fl_at0 _ _ (by omega) (by decide) | exact fl_at _ _ _ (by omega) (by decide)) | exact Rds.cell (rds_row 3 rfl) (by first | exact fl_at0 _ _ (by omega) (by decide) | exact fl_at _ _ _ (by omega) (by decide)) | exact Rds.cell (rds_row 4 rfl) (by first | exact fl_at0 _ _ (by omega) (by decide) | exact fl_at _ _ _ (by omega) (by decide)) | exact Rds.cell (rds_row 5 rfl) (by first | exact fl_at0 _ _ (by omega) (by decide) | exact fl_at _ _ _ (by omega) (by decide)) | exact Rds.cell (rds_row 6 rfl) (by first | exact fl_at0 _ _ (by omega) (by decide) | exact fl_at _ _ _ (by omega) (by decide)) | exact Rds.cell (rds_row 7 rfl) (by first | exact fl_at0 _ _ (by omega) (by decide) | exact fl_at _ _ _ (by omega) (by decide)) | exact Rds.cell (rds_row 8 rfl) (by first | exact fl_at0 _ _ (by omega) (by decide) | exact fl_at _ _ _ (by omega) (by decide)) | exact Rds.cell (rds_row 9 rfl) (by first | exact fl_at0 _ _ (by omega) (by decide) | exact fl_at _ _ _ (by omega) (by decide)))) ?_; refine ok_p rfl rfl rfl (by exact ps_assign rfl rfl) ?_; refine ok_nil ?_; refine ok_env [(0, _), (3, _), (5, _), (9, _), (10, _), (11, _)] ⟨rfl, rfl, rfl, rfl, rfl, rfl, trivial⟩ ?_)
    | (refine ok_region (i := 5) ?_; refine ok_p rfl rfl rfl (by exact ps_move rfl rfl) ?_; refine ok_p rfl rfl rfl (by exact ps_move rfl rfl) ?_; refine ok_p rfl rfl rfl (by exact ps_len rfl rfl) ?_; refine ok_p rfl rfl rfl (by first | exact ps_add (n := ((nth R k).d.length : Int)) rfl rfl rfl (by have := ho1 (by omega); omega) | exact ps_add rfl rfl rfl (by omega)) ?_; refine ok_p rfl rfl rfl (by exact ps_assign rfl rfl) ?_; refine ok_nil ?_; refine ok_env [(0, _), (3, _), (9, _), (10, _), (11, _)] ⟨rfl, rfl, rfl, rfl, rfl, trivial⟩ ?_)
    | (refine ok_region (i := 6) ?_; refine ok_p rfl rfl rfl (by exact ps_move rfl rfl) ?_; refine ok_p rfl rfl rfl (by exact ps_int rfl rfl rfl rfl) ?_; refine ok_nil ?_; refine ok_env [(0, _), (3, _), (9, _), (10, _), (11, _), (20, _)] ⟨rfl, rfl, rfl, rfl, rfl, rfl, trivial⟩ ?_)
    | (refine ok_region (i := 7) ?_; refine ok_p rfl rfl rfl (by fail "no rule makeInterface") ?_; refine ok_p rfl rfl rfl (by fail "no rule panic") ?_; refine ok_nil ?_; refine ok_env [(0, _), (3, _), (9, _), (10, _), (11, _)] ⟨rfl, rfl, rfl, rfl, rfl, trivial⟩ ?_)
    | (refine ok_region (i := 8) ?_; refine ok_p rfl rfl rfl (by exact ps_add rfl rfl rfl (by omega)) ?_; refine ok_p rfl rfl rfl (by exact ps_move rfl rfl) ?_; refine ok_nil ?_; refine ok_env [(0, _), (3, _), (9, _), (10, _), (11, _)] ⟨rfl, rfl, rfl, rfl, rfl, trivial⟩ ?_)
    | (refine ok_region (i := 9) ?_; refine ok_p rfl rfl rfl (by exact ps_move rfl rfl) ?_; refine ok_m rfl rfl rfl (by exact ms_c2 rfl rfl rfl (fun _ _ w hw => growEnt_c _ (HT.out k) w)) ?_; rintro y24 hy24; refine ok_p rfl rfl rfl (by exact ps_assign rfl rfl) ?_; refine ok_nil ?_; refine ok_env [(0, _), (6, _)] ⟨rfl, rfl, trivial⟩ ?_)
    | (refine ok_region (i := 10) ?_; refine ok_p rfl rfl rfl (by exact ps_move rfl rfl) ?_; refine ok_p rfl rfl rfl (by exact ps_len rfl rfl) ?_; refine ok_p rfl rfl rfl (by exact ps_move rfl rfl) ?_; refine ok_nil ?_; refine ok_env [(6, _), (25, _), (26, _), (27, _)] ⟨rfl, rfl, rfl, rfl, trivial⟩ ?_)
    | (refine ok_region (i := 11) ?_; refine ok_p rfl rfl rfl (by exact ps_int rfl rfl rfl rfl) ?_; refine ok_nil ?_; refine ok_env [(6, _), (25, _), (26, _), (27, _), (28, _)] ⟨rfl, rfl, rfl, rfl, rfl, trivial⟩ ?_)
    | (refine ok_region (i := 12) ?_; refine ok_p rfl rfl rfl (by first | exact ps_indexN rfl rfl rfl (by omega) (by first | exact isw_ga _ | exact isw_some _ | exact isw_row 0 rfl (by omega) | exact isw_row 1 rfl (by omega) | exact isw_row 2 rfl (by omega) | exact isw_row 3 rfl (by omega) | exact isw_row 4 rfl (by omega) | exact isw_row 5 rfl (by omega) | exact isw_row 6 rfl (by omega) | exact isw_row 7 rfl (by omega) | exact isw_row 8 rfl (by omega) | exact isw_of (isS_fl (by assumption) (by omega)) | exact isw_of (by assumption)) | exact ps_index rfl rfl rfl (by omega) (by first | exact isw_ga _ | exact isw_some _ | exact isw_row 0 rfl (by omega) | exact isw_row 1 rfl (by omega) | exact isw_row 2 rfl (by omega) | exact isw_row 3 rfl (by omega) | exact isw_row 4 rfl (by omega) | exact isw_row 5 rfl (by omega) | exact isw_row 6 rfl (by omega) | exact isw_row 7 rfl (by omega) | exact isw_row 8 rfl (by omega) | exact isw_of (isS_fl (by assumption) (by omega)) | exact isw_of (by assumption))) ?_; refine ok_p rfl rfl rfl (by exact ps_load rfl rfl (by first | exact Rds.cell (rds_box 0 rfl) rfl | exact Rds.cell (rds_box 1 rfl) rfl | exact Rds.cell (rds_box 2 rfl) rfl | exact Rds.cell (rds_box 3 rfl) rfl | exact Rds.cell (rds_box 4 rfl) rfl | exact Rds.cell (rds_box 5 rfl) rfl | exact Rds.cell (rds_box 6 rfl) rfl | exact Rds.cell (rds_box 7 rfl) rfl | exact Rds.cell (rds_box 8 rfl) rfl | exact Rds.cell (rds_box 9 rfl) rfl | exact Rds.cell (rds_box 10 rfl) rfl | exact Rds.cell (rds_box 11 rfl) rfl | exact Rds.cell (rds_box 12 rfl) rfl | exact Rds.cell (rds_box 13 rfl) rfl | exact Rds.cell (rds_box 14 rfl) rfl | exact Rds.cell (rds_box 15 rfl) rfl | exact Rds.cell (rds_box 16 rfl) rfl | exact Rds.cell (rds_box 17 rfl) rfl | exact Rds.cell (rds_box 18 rfl) rfl | exact Rds.cell (rds_box 19 rfl) rfl | exact Rds.cell (rds_box 20 rfl) rfl | exact Rds.cell (rds_box 21 rfl) rfl | exact Rds.cell (rds_box 22 rfl) rfl | exact Rds.cell (rds_box 23 rfl) rfl | exact Rds.cell (rds_rf (by assumption) (by first | exact List.mem_cons_self | exact List.mem_cons_of_mem _ List.mem_cons_self | simp)) (by first | exact fl_at0 _ _ (by omega) (by decide) | exact fl_at _ _ _ (by omega) (by decide)) | exact Rds.cell (rds_row 0 rfl) (by first | exact fl_at0 _ _ (by omega) (by decide) | exact fl_at _ _ _ (by omega) (by decide)) | exact Rds.cell (rds_row 1 rfl) (by first | exact fl_at0 _ _ (by omega) (by decide) | exact fl_at _ _ _ (by omega) (by decide)) | exact Rds.cell (rds_row 2 rfl) (by first | exact fl_at0 _ _ (by omega) (by decide) | exact fl_at _ _ _ (by omega) (by decide)) | exact Rds.cell (rds_row 3 rfl) (by first | exact fl_at0 _ _ (by omega) (by decide) | exact fl_at _ _ _ (by omega) (by decide)) | exact Rds.cell (rds_row 4 rfl) (by first | exact fl_at0 _ _ (by omega) (by decide) | exact fl_at _ _ _ (by omega) (by decide)) | exact Rds.cell (rds_row 5 rfl) (by first | exact fl_at0 _ _ (by omega) (by decide) | exact fl_at _ _ _ (by omega) (by decide)) | exact Rds.cell (rds_row 6 rfl) (by first | exact fl_at0 _ _ (by omega) (by decide) | exact fl_at _ _ _ (by omega) (by decide)) | exact Rds.cell (rds_row 7 rfl) (by first | exact fl_at0 _ _ (by omega) (by decide) | exact fl_at _ _ _ (by omega) (by decide)) | exact Rds.cell (rds_row 8 rfl) (by first | exact fl_at0 _ _ (by omega) (by decide) | exact fl_at _ _ _ (by omega) (by decide)) | exact Rds.cell (rds_row 9 rfl) (by first | exact fl_at0 _ _ (by omega) (by decide) | exact fl_at _ _ _ (by omega) (by decide)))) ?_; refine ok_p rfl rfl rfl (by exact ps_assign rfl rfl) ?_; refine ok_nil ?_; refine ok_env [(6, _), (8, _), (25, _), (26, _), (27, _)] ⟨rfl, rfl, rfl, rfl, rfl, trivial⟩ ?_)
    | (refine ok_region (i := 13) ?_; refine ok_p rfl rfl rfl (by exact ps_move rfl rfl) ?_; refine ok_p rfl rfl rfl (by exact ps_move rfl rfl) ?_; refine ok_m rfl rfl rfl (by fail "no maker call") ?_; rintro y33 hy33; refine ok_p rfl rfl rfl (by exact ps_assign rfl rfl) ?_; refine ok_nil ?_; refine ok_env [(6, _), (25, _), (26, _), (27, _)] ⟨rfl, rfl, rfl, rfl, trivial⟩ ?_)
    | (refine ok_region (i := 14) ?_; refine ok_p rfl rfl rfl (by exact ps_add rfl rfl rfl (by omega)) ?_; refine ok_p rfl rfl rfl (by exact ps_move rfl rfl) ?_; refine ok_nil ?_; refine ok_env [(6, _), (25, _), (26, _), (27, _)] ⟨rfl, rfl, rfl, rfl, trivial⟩ ?_)
    | (refine ok_region (i := 15) ?_; refine ok_p rfl rfl rfl (by exact ps_move rfl rfl) ?_; refine ok_p rfl rfl rfl (by exact ps_assign rfl rfl) ?_; refine ok_nil ?_; refine ok_env [(2, _)] ⟨rfl, trivial⟩ ?_))
  · exfalso; omega
  · refine fun a w' he hw => ⟨⟨k + 1, by omega⟩, by simp only; omega, he.sub ⟨rfl, ?_, rfl, rfl, rfl, trivial⟩, hw⟩
    simp only [look]; congr 2; rw [offEnt_succ R k (by omega)]; simp
  · clear hk ho ho1
    refine ok_loop (ι := { p : Nat × Option Addr × Nat // p.1 ≤ R.length }) (fun p => R.length - p.1.1) (fun p => ([(6, .slice p.1.2.1 (((dats R).take p.1.1).flatten).length p.1.2.2), (25, .slice A R.length c), (26, .int .i64 R.length), (27, .int .i64 p.1.1)], [.row 71 4 p.1.2.1 (((dats R).take p.1.1).flatten).length p.1.2.2 (fl ((dats R).take p.1.1).flatten)], _)) ⟨(0, (y24 0).A, (y24 0).c), by simp⟩ (fun a w he hw => ⟨⟨(0, (y24 0).A, (y24 0).c), by simp⟩, he.sub ⟨rfl, rfl, rfl, rfl, trivial⟩, hw⟩) ?_
    rintro ⟨⟨k, B, d⟩, hk⟩
    simp only at hk ⊢
    have ho1 : k < R.length → (((dats R).take k).flatten).length + (nth R k).d.length ≤ 4194304 := fun h => by rw [catEnt_len, ← offEnt_succ R k h]; exact HT.out (k + 1)
    repeat' (first
      | refine ok_seq ?_
      | refine ok_then ?_
      | refine ok_then_ret ?_
      | refine ok_then_exit ?_
      | refine ok_block ?_
      | refine ok_in_normal ?_
      | refine ok_in_ret ?_
      | refine ok_in_exit ?_
      | refine ok_in_other rfl ?_
      | (refine ok_cond rfl (fun hc => ?_) (fun hc => ?_) <;> (have hd := hc; (try simp only [decide_eq_true_eq, decide_eq_false_iff_not, Bool.or_eq_true, Bool.or_eq_false_iff, Bool.and_eq_true, Bool.and_eq_false_iff, Bool.not_eq_true', Bool.not_eq_false', bne_iff_ne, beq_iff_eq, bne_eq_false_iff_eq, beq_eq_false_iff_ne, ne_eq, Bool.not_true, Bool.not_false, Bool.false_eq_true, Bool.true_eq_false, inB_true, inB_false] at hd)))
      | refine ok_ret ?_
      | refine ok_exit ?_
      | refine ok_skip ?_
      | (refine ok_region (i := 0) ?_; refine ok_p rfl rfl rfl (by exact ps_assign rfl rfl) ?_; refine ok_nil ?_; refine ok_env [(0, _)] ⟨rfl, trivial⟩ ?_)
      | (refine ok_region (i := 1) ?_; refine ok_p rfl rfl rfl (by exact ps_assign rfl rfl) ?_; refine ok_nil ?_; refine ok_env [(0, _), (3, _)] ⟨rfl, rfl, trivial⟩ ?_)
      | (refine ok_region (i := 2) ?_; refine ok_p rfl rfl rfl (by exact ps_move rfl rfl) ?_; refine ok_p rfl rfl rfl (by exact ps_len rfl rfl) ?_; refine ok_p rfl rfl rfl (by exact ps_move rfl rfl) ?_; refine ok_nil ?_; refine ok_env [(0, _), (3, _), (9, _), (10, _), (11, _)] ⟨rfl, rfl, rfl, rfl, rfl, trivial⟩ ?_)
      | (refine ok_region (i := 3) ?_; refine ok_p rfl rfl rfl (by exact ps_int rfl rfl rfl rfl) ?_; refine ok_nil ?_; refine ok_env [(0, _), (3, _), (9, _), (10, _), (11, _), (12, _)] ⟨rfl, rfl, rfl, rfl, rfl, rfl, trivial⟩ ?_)
      | (refine ok_region (i := 4) ?_; refine ok_p rfl rfl rfl (by first | exact ps_indexN rfl rfl rfl (by omega) (by first | exact isw_ga _ | exact isw_some _ | exact isw_row 0 rfl (by omega) | exact isw_row 1 rfl (by omega) | exact isw_row 2 rfl (by omega) | exact isw_row 3 rfl (by omega) | exact isw_row 4 rfl (by omega) | exact isw_row 5 rfl (by omega) | exact isw_row 6 rfl (by omega) | exact isw_row 7 rfl (by omega) | exact isw_row 8 rfl (by omega) | exact isw_of (isS_fl (by assumption) (by omega)) | exact isw_of (by assumption)) | exact ps_index rfl rfl rfl (by omega) (by first | exact isw_ga _ | exact isw_some _ | exact isw_row 0 rfl (by omega) | exact isw_row 1 rfl (by omega) | exact isw_row 2 rfl (by omega) | exact isw_row 3 rfl (by omega) | exact isw_row 4 rfl (by omega) | exact isw_row 5 rfl (by omega) | exact isw_row 6 rfl (by omega) | exact isw_row 7 rfl (by omega) | exact isw_row 8 rfl (by omega) | exact isw_of (isS_fl (by assumption) (by omega)) | exact isw_of (by assumption))) ?_; refine ok_p rfl rfl rfl (by exact ps_load rfl rfl (by first | exact Rds.cell (rds_box 0 rfl) rfl | exact Rds.cell (rds_box 1 rfl) rfl | exact Rds.cell (rds_box 2 rfl) rfl | exact Rds.cell (rds_box 3 rfl) rfl | exact Rds.cell (rds_box 4 rfl) rfl | exact Rds.cell (rds_box 5 rfl) rfl | exact Rds.cell (rds_box 6 rfl) rfl | exact Rds.cell (rds_box 7 rfl) rfl | exact Rds.cell (rds_box 8 rfl) rfl | exact Rds.cell (rds_box 9 rfl) rfl | exact Rds.cell (rds_box 10 rfl) rfl | exact Rds.cell (rds_box 11 rfl) rfl | exact Rds.cell (rds_box 12 rfl) rfl | exact Rds.cell (rds_box 13 rfl) rfl | exact Rds.cell (rds_box 14 rfl) rfl | exact Rds.cell (rds_box 15 rfl) rfl | exact Rds.cell (rds_box 16 rfl) rfl | exact Rds.cell (rds_box 17 rfl) rfl | exact Rds.cell (rds_box 18 rfl) rfl | exact Rds.cell (rds_box 19 rfl) rfl | exact Rds.cell (rds_box 20 rfl) rfl | exact Rds.cell (rds_box 21 rfl) rfl | exact Rds.cell (rds_box 22 rfl) rfl | exact Rds.cell (rds_box 23 rfl) rfl | exact Rds.cell (rds_rf (by assumption) (by first | exact List.mem_cons_self | exact List.mem_cons_of_mem _ List.mem_cons_self | simp)) (by first | exact fl_at0 _ _ (by omega) (by decide) | exact fl_at _ _ _ (by omega) (by decide)) | exact Rds.cell (rds_row 0 rfl) (by first | exact fl_at0 _ _ (by omega) (by decide) | exact fl_at _ _ _ (by omega) (by decide)) | exact Rds.cell (rds_row 1 rfl) (by first | exact fl_at0 _ _ (by omega) (by decide) | exact fl_at _ _ _ (by omega) (by decide)) | exact Rds.cell (rds_row 2 rfl) (by first | exact fl_at0 _ _ (by omega) (by decide) | exact fl_at _ _ _ (by omega) (by decide)) | exact Rds.cell (rds_row 3 rfl) (by first | exact fl_at0 _ _ (by omega) (by decide) | exact fl_at _ _ _ (by omega) (by decide)) | exact Rds.cell (rds_row 4 rfl) (by first | exact fl_at0 _ _ (by omega) (by decide) | exact fl_at _ _ _ (by omega) (by decide)) | exact Rds.cell (rds_row 5 rfl) (by first | exact fl_at0 _ _ (by omega) (by decide) | exact fl_at _ _ _ (by omega) (by decide)) | exact Rds.cell (rds_row 6 rfl) (by first | exact fl_at0 _ _ (by omega) (by decide) | exact fl_at _ _ _ (by omega) (by decide)) | exact Rds.cell (rds_row 7 rfl) (by first | exact fl_at0 _ _ (by omega) (by decide) | exact fl_at _ _ _ (by omega) (by decide)) | exact Rds.cell (rds_row 8 rfl) (by first | exact fl_at0 _ _ (by omega) (by decide) | exact fl_at _ _ _ (by omega) (by decide)) | exact Rds.cell (rds_row 9 rfl) (by first | exact fl_at0 _ _ (by omega) (by decide) | exact fl_at _ _ _ (by omega) (by decide)))) ?_; refine ok_p rfl rfl rfl (by exact ps_assign rfl rfl) ?_; refine ok_nil ?_; refine ok_env [(0, _), (3, _), (5, _), (9, _), (10, _), (11, _)] ⟨rfl, rfl, rfl, rfl, rfl, rfl, trivial⟩ ?_)
      | (refine ok_region (i := 5) ?_; refine ok_p rfl rfl rfl (by exact ps_move rfl rfl) ?_; refine ok_p rfl rfl rfl (by exact ps_move rfl rfl) ?_; refine ok_p rfl rfl rfl (by exact ps_len rfl rfl) ?_; refine ok_p rfl rfl rfl (by exact ps_add rfl rfl rfl (by omega)) ?_; refine ok_p rfl rfl rfl (by exact ps_assign rfl rfl) ?_; refine ok_nil ?_; refine ok_env [(0, _), (3, _), (9, _), (10, _), (11, _)] ⟨rfl, rfl, rfl, rfl, rfl, trivial⟩ ?_)
      | (refine ok_region (i := 6) ?_; refine ok_p rfl rfl rfl (by exact ps_move rfl rfl) ?_; refine ok_p rfl rfl rfl (by exact ps_int rfl rfl rfl rfl) ?_; refine ok_nil ?_; refine ok_env [(0, _), (3, _), (9, _), (10, _), (11, _), (20, _)] ⟨rfl, rfl, rfl, rfl, rfl, rfl, trivial⟩ ?_)
      | (refine ok_region (i := 7) ?_; refine ok_p rfl rfl rfl (by fail "no rule makeInterface") ?_; refine ok_p rfl rfl rfl (by fail "no rule panic") ?_; refine ok_nil ?_; refine ok_env [(0, _), (3, _), (9, _), (10, _), (11, _)] ⟨rfl, rfl, rfl, rfl, rfl, trivial⟩ ?_)
      | (refine ok_region (i := 8) ?_; refine ok_p rfl rfl rfl (by exact ps_add rfl rfl rfl (by omega)) ?_; refine ok_p rfl rfl rfl (by exact ps_move rfl rfl) ?_; refine ok_nil ?_; refine ok_env [(0, _), (3, _), (9, _), (10, _), (11, _)] ⟨rfl, rfl, rfl, rfl, rfl, trivial⟩ ?_)
      | (refine ok_region (i := 9) ?_; refine ok_p rfl rfl rfl (by exact ps_move rfl rfl) ?_; refine ok_m rfl rfl rfl (by fail "no maker call") ?_; rintro y24 hy24; refine ok_p rfl rfl rfl (by exact ps_assign rfl rfl) ?_; refine ok_nil ?_; refine ok_env [(0, _), (6, _)] ⟨rfl, rfl, trivial⟩ ?_)
      | (refine ok_region (i := 10) ?_; refine ok_p rfl rfl rfl (by exact ps_move rfl rfl) ?_; refine ok_p rfl rfl rfl (by exact ps_len rfl rfl) ?_; refine ok_p rfl rfl rfl (by exact ps_move rfl rfl) ?_; refine ok_nil ?_; refine ok_env [(6, _), (25, _), (26, _), (27, _)] ⟨rfl, rfl, rfl, rfl, trivial⟩ ?_)
      | (refine ok_region (i := 11) ?_; refine ok_p rfl rfl rfl (by exact ps_int rfl rfl rfl rfl) ?_; refine ok_nil ?_; refine ok_env [(6, _), (25, _), (26, _), (27, _), (28, _)] ⟨rfl, rfl, rfl, rfl, rfl, trivial⟩ ?_)
      | (refine ok_region (i := 12) ?_; refine ok_p rfl rfl rfl (by first | exact ps_indexN rfl rfl rfl (by omega) (by first | exact isw_ga _ | exact isw_some _ | exact isw_row 0 rfl (by omega) | exact isw_row 1 rfl (by omega) | exact isw_row 2 rfl (by omega) | exact isw_row 3 rfl (by omega) | exact isw_row 4 rfl (by omega) | exact isw_row 5 rfl (by omega) | exact isw_row 6 rfl (by omega) | exact isw_row 7 rfl (by omega) | exact isw_row 8 rfl (by omega) | exact isw_of (isS_fl (by assumption) (by omega)) | exact isw_of (by assumption)) | exact ps_index rfl rfl rfl (by omega) (by first | exact isw_ga _ | exact isw_some _ | exact isw_row 0 rfl (by omega) | exact isw_row 1 rfl (by omega) | exact isw_row 2 rfl (by omega) | exact isw_row 3 rfl (by omega) | exact isw_row 4 rfl (by omega) | exact isw_row 5 rfl (by omega) | exact isw_row 6 rfl (by omega) | exact isw_row 7 rfl (by omega) | exact isw_row 8 rfl (by omega) | exact isw_of (isS_fl (by assumption) (by omega)) | exact isw_of (by assumption))) ?_; refine ok_p rfl rfl rfl (by exact ps_load rfl rfl (by first | exact Rds.cell (rds_box 0 rfl) rfl | exact Rds.cell (rds_box 1 rfl) rfl | exact Rds.cell (rds_box 2 rfl) rfl | exact Rds.cell (rds_box 3 rfl) rfl | exact Rds.cell (rds_box 4 rfl) rfl | exact Rds.cell (rds_box 5 rfl) rfl | exact Rds.cell (rds_box 6 rfl) rfl | exact Rds.cell (rds_box 7 rfl) rfl | exact Rds.cell (rds_box 8 rfl) rfl | exact Rds.cell (rds_box 9 rfl) rfl | exact Rds.cell (rds_box 10 rfl) rfl | exact Rds.cell (rds_box 11 rfl) rfl | exact Rds.cell (rds_box 12 rfl) rfl | exact Rds.cell (rds_box 13 rfl) rfl | exact Rds.cell (rds_box 14 rfl) rfl | exact Rds.cell (rds_box 15 rfl) rfl | exact Rds.cell (rds_box 16 rfl) rfl | exact Rds.cell (rds_box 17 rfl) rfl | exact Rds.cell (rds_box 18 rfl) rfl | exact Rds.cell (rds_box 19 rfl) rfl | exact Rds.cell (rds_box 20 rfl) rfl | exact Rds.cell (rds_box 21 rfl) rfl | exact Rds.cell (rds_box 22 rfl) rfl | exact Rds.cell (rds_box 23 rfl) rfl | exact Rds.cell (rds_rf (by assumption) (by first | exact List.mem_cons_self | exact List.mem_cons_of_mem _ List.mem_cons_self | simp)) (by first | exact fl_at0 _ _ (by omega) (by decide) | exact fl_at _ _ _ (by omega) (by decide)) | exact Rds.cell (rds_row 0 rfl) (by first | exact fl_at0 _ _ (by omega) (by decide) | exact fl_at _ _ _ (by omega) (by decide)) | exact Rds.cell (rds_row 1 rfl) (by first | exact fl_at0 _ _ (by omega) (by decide) | exact fl_at _ _ _ (by omega) (by decide)) | exact Rds.cell (rds_row 2 rfl) (by first | exact fl_at0 _ _ (by omega) (by decide) | exact fl_at _ _ _ (by omega) (by decide)) | exact Rds.cell (rds_row 3 rfl) (by first | exact fl_at0 _ _ (by omega) (by decide) | exact fl_at _ _ _ (by omega) (by decide)) | exact Rds.cell (rds_row 4 rfl) (by first | exact fl_at0 _ _ (by omega) (by decide) | exact fl_at _ _ _ (by omega) (by decide)) | exact Rds.cell (rds_row 5 rfl) (by first | exact fl_at0 _ _ (by omega) (by decide) | exact fl_at _ _ _ (by omega) (by decide)) | exact Rds.cell (rds_row 6 rfl) (by first | exact fl_at0 _ _ (by omega) (by decide) | exact fl_at _ _ _ (by omega) (by decide)) | exact Rds.cell (rds_row 7 rfl) (by first | exact fl_at0 _ _ (by omega) (by decide) | exact fl_at _ _ _ (by omega) (by decide)) | exact Rds.cell (rds_row 8 rfl) (by first | exact fl_at0 _ _ (by omega) (by decide) | exact fl_at _ _ _ (by omega) (by decide)) | exact Rds.cell (rds_row 9 rfl) (by first | exact fl_at0 _ _ (by omega) (by decide) | exact fl_at _ _ _ (by omega) (by decide)))) ?_; refine ok_p rfl rfl rfl (by exact ps_assign rfl rfl) ?_; refine ok_nil ?_; refine ok_env [(6, _), (8, _), (25, _), (26, _), (27, _)] ⟨rfl, rfl, rfl, rfl, rfl, trivial⟩ ?_)
      | (refine ok_region (i := 13) ?_; refine ok_p rfl rfl rfl (by exact ps_move rfl rfl) ?_; refine ok_p rfl rfl rfl (by exact ps_move rfl rfl) ?_; refine ok_m rfl rfl rfl (by exact ms_appF (α := Ent) (L := ((dats R).take k).flatten) (M := (nth R k).d) 0 rfl rfl rfl rfl (rds_rf (H2.out k (by omega)) (by first | exact List.mem_cons_self | exact List.mem_cons_of_mem _ List.mem_cons_self | simp)) rfl (by have := ho1 (by omega); omega) (by have := ho1 (by omega); omega)) ?_; rintro y33 hy33; refine ok_p rfl rfl rfl (by exact ps_assign rfl rfl) ?_; refine ok_nil ?_; refine ok_env [(6, _), (25, _), (26, _), (27, _)] ⟨rfl, rfl, rfl, rfl, trivial⟩ ?_)
      | (refine ok_region (i := 14) ?_; refine ok_p rfl rfl rfl (by exact ps_add rfl rfl rfl (by omega)) ?_; refine ok_p rfl rfl rfl (by exact ps_move rfl rfl) ?_; refine ok_nil ?_; refine ok_env [(6, _), (25, _), (26, _), (27, _)] ⟨rfl, rfl, rfl, rfl, trivial⟩ ?_)
      | (refine ok_region (i := 15) ?_; refine ok_p rfl rfl rfl (by exact ps_move rfl rfl) ?_; refine ok_p rfl rfl rfl (by exact ps_assign rfl rfl) ?_; refine ok_nil ?_; refine ok_env [(2, _)] ⟨rfl, trivial⟩ ?_))
    · refine fun a w' he hw => ⟨⟨(k + 1, (y33 0).A, (y33 0).c), by simp only; omega⟩, by simp only; omega, he.sub ⟨?_, rfl, rfl, rfl, trivial⟩, ?_⟩
      · simp only [look]; rw [catEnt_step R k (by omega), List.length_append]
      · simp only
        rw [catEnt_step R k (by omega), List.length_append]
        exact hw
    · obtain rfl : k = R.length := by omega
      refine ok_endL (vs := [_]) rfl ⟨rfl, trivial⟩ (fun w' hw => ⟨mkY B d w', ?_, trivial, hw.below, ?_⟩)
      · rw [← dats_len, List.take_length]; rfl
      · rw [← dats_len, List.take_length] at hw
        exact NewOk.of (G := []) (hw.sel [0] (by decide) rfl (fun _ h => by cases h))
end Go.Proofs.Ytbegbdfbfbkflaa
/- The engine: a guarded call that writes, or tells a new value: the guard's two cases apart. -/
namespace Go.Proofs.Ytbegbdfbfbkflaa
open Go.RowKit
section
variable {P : Program} {N base : Nat} {w0 : World} {E : Env} {H : List HObj} {G : List World} {ops : Array Oper} {o : Oper} {rest : List Oper} {Q : Exit → Act → World → Prop} {F : Ys → Prop} {v : Ys → Value} {H' : Ys → List HObj} {G' : Ys → List World}
theorem ok_mgs {j d : Nat} {want c : Bool} (hg : o.guard = some (j, want)) (hj : (ops[j]?).bind (·.dst) = some d) (hv : look E d = some (.bool c)) {td : Nat} (hdt : o.dst = some td) (hd : Nat.blt td N = true) (hs : (c == want) = true → MStep P E H G o F v H' G')
    (h1 : (c == want) = true → ∀ y, F y → Ok N base w0 ((td, v y) :: E) (H' y) (G' y) (wpList P ops Q rest)) (h0 : (c == want) = false → Ok N base w0 ((td, undef) :: E) H G (wpList P ops Q rest)) : Ok N base w0 E H G (wpList P ops Q (o :: rest)) := by
  cases h : (c == want) with
  | true => exact ok_m_yes (p := true) hg hj hv (by rw [Bool.true_and]; exact h) hdt hd (hs h) (h1 h)
  | false => exact ok_m_no (p := true) hg hj hv (by rw [Bool.true_and]; exact h) hdt hd (h0 h)
end
end Go.Proofs.Ytbegbdfbfbkflaa
/- The engine: branches that meet again are told once. -/
namespace Go.Proofs.Ytbegbdfbfbkflaa
open Go.RowKit
set_option linter.unusedVariables false
section
variable {P : Program} {N base : Nat} {w0 : World} {E : Env} {H : List HObj} {G : List World} {Q : Exit → Act → World → Prop}
/-- The first part of a sequence ends in one of a family of states; the second part is walked once, from each of them. -/
theorem ok_join {ι : Type} (X : ι → Env × List HObj × List World) {x y : Code}
    (h1 : Ok N base w0 E H G (x.wp P (Exit.then (fun a w => ∃ j, Sat N base w0 (X j).1 (X j).2.1 (X j).2.2 a w) Q)))
    (h2 : ∀ j, Ok N base w0 (X j).1 (X j).2.1 (X j).2.2 (y.wp P Q)) : Ok N base w0 E H G ((Code.seq x y).wp P Q) := fun a w he hw =>
  wp_seq (Code.wp_mono (fun e a' w' hq => by
    cases e with
    | normal => obtain ⟨j, hs⟩ := hq; exact h2 j a' w' hs.env hs.mem
    | _ => exact hq) (h1 a w he hw))
/-- Stops a walk ahead of a statement that begins with region i and is followed by more. -/
theorem at_reg (i : Nat) {ops : Array Oper} {b : Bool} {z y : Code} (h : Ok N base w0 E H G ((Code.seq (Code.seq (Code.region i ops b) z) y).wp P Q)) : Ok N base w0 E H G ((Code.seq (Code.seq (Code.region i ops b) z) y).wp P Q) := h
theorem ok_capE {n c e sz : Nat} {A : Option Addr} {us : List Value} {K : Act → World → Prop} (i : Nat) (hi : H[i]? = some (.row e sz A n c us)) (h : n ≤ c → Ok N base w0 E H G K) : Ok N base w0 E H G K := fun a w he hw => h (hw.cap i hi) a w he hw
theorem isw_rdsE {A : Option Addr} {us : List Value} (h : Rds H G A us) (hl : 0 < us.length) : IsSW H G A := fun base w0 w hw => isS_rd (h base w0 w hw) hl
theorem rds_tlE {A : Option Addr} {us : List Value} (x : HObj) (h : Rds H G A us) : Rds (x :: H) G A us := fun base w0 w hw => h base w0 w hw.tl
end
end Go.Proofs.Ytbegbdfbfbkflaa
/- slices.CompactFunc and slices.Clip of entries; merged. -/
namespace Go.Proofs.Ytbegbdfbfbkflaa
open Go.RowKit
set_option maxHeartbeats 4000000
set_option maxRecDepth 20000
set_option linter.unusedVariables false
set_option linter.unusedSimpArgs false
attribute [local irreducible] Calls
def eqV : Value := .func (.func 208) #[] #[]
theorem same_c (a b : Ent) (w : World) : Calls Try.prog 208 #[.agg (Dat.cells a).toArray, .agg (Dat.cells b).toArray] w fun e w' => e = .returned (.bool (sameE a b)) ∧ Below w.heap.size w w' := by
  refine ok_enter 17 Try.func208 rfl rfl rfl ?_
  repeat' (first
    | refine ok_seq ?_
    | refine ok_then ?_
    | refine ok_ret ?_
    | (refine ok_region (i := 0) ?_; refine ok_m rfl rfl rfl (by exact ms_box rfl rfl rfl) ?_; rintro y2 hy2; refine ok_m rfl rfl rfl (by exact ms_box rfl rfl rfl) ?_; rintro y3 hy3; refine ok_p rfl rfl rfl (by exact ps_assign rfl rfl) ?_; refine ok_nil ?_; refine ok_env [(2, _), (3, _)] ⟨rfl, rfl, trivial⟩ ?_)
    | (refine ok_region (i := 1) ?_; refine ok_p rfl rfl rfl (by exact ps_field rfl rfl (by exact isw_ga _)) ?_; refine ok_p rfl rfl rfl (by exact ps_load rfl rfl (by exact Rds.cell (rds_box 1 rfl) rfl)) ?_; refine ok_p rfl rfl rfl (by exact ps_field rfl rfl (by exact isw_ga _)) ?_; refine ok_p rfl rfl rfl (by exact ps_load rfl rfl (by exact Rds.cell (rds_box 0 rfl) rfl)) ?_; refine ok_p rfl rfl rfl (by exact ps_str rfl rfl rfl rfl) ?_; refine ok_p rfl rfl rfl (by exact ps_move rfl rfl) ?_; refine ok_pg rfl rfl rfl rfl rfl (gT _) (fun hp => by (have hpd := hp; (try simp only [decide_eq_true_eq, decide_eq_false_iff_not, Bool.or_eq_true, Bool.or_eq_false_iff, Bool.and_eq_true, Bool.and_eq_false_iff, Bool.not_eq_true', Bool.not_eq_false', bne_iff_ne, beq_iff_eq, bne_eq_false_iff_eq, beq_eq_false_iff_ne, ne_eq, Bool.not_true, Bool.not_false, Bool.false_eq_true, Bool.true_eq_false, inB_true, inB_false] at hpd); exact ps_field rfl (by exact rfl) (by exact isw_ga _))) ?_; refine ok_pg rfl rfl rfl rfl rfl (gT _) (fun hp => by (have hpd := hp; (try simp only [decide_eq_true_eq, decide_eq_false_iff_not, Bool.or_eq_true, Bool.or_eq_false_iff, Bool.and_eq_true, Bool.and_eq_false_iff, Bool.not_eq_true', Bool.not_eq_false', bne_iff_ne, beq_iff_eq, bne_eq_false_iff_eq, beq_eq_false_iff_ne, ne_eq, Bool.not_true, Bool.not_false, Bool.false_eq_true, Bool.true_eq_false, inB_true, inB_false] at hpd); exact ps_load rfl (by (refine og rfl ?_; assumption)) (by exact Rds.cell (rds_box 1 rfl) rfl))) ?_; refine ok_pg rfl rfl rfl rfl rfl (gT _) (fun hp => by (have hpd := hp; (try simp only [decide_eq_true_eq, decide_eq_false_iff_not, Bool.or_eq_true, Bool.or_eq_false_iff, Bool.and_eq_true, Bool.and_eq_false_iff, Bool.not_eq_true', Bool.not_eq_false', bne_iff_ne, beq_iff_eq, bne_eq_false_iff_eq, beq_eq_false_iff_ne, ne_eq, Bool.not_true, Bool.not_false, Bool.false_eq_true, Bool.true_eq_false, inB_true, inB_false] at hpd); exact ps_field rfl (by exact rfl) (by exact isw_ga _))) ?_; refine ok_pg rfl rfl rfl rfl rfl (gT _) (fun hp => by (have hpd := hp; (try simp only [decide_eq_true_eq, decide_eq_false_iff_not, Bool.or_eq_true, Bool.or_eq_false_iff, Bool.and_eq_true, Bool.and_eq_false_iff, Bool.not_eq_true', Bool.not_eq_false', bne_iff_ne, beq_iff_eq, bne_eq_false_iff_eq, beq_eq_false_iff_ne, ne_eq, Bool.not_true, Bool.not_false, Bool.false_eq_true, Bool.true_eq_false, inB_true, inB_false] at hpd); exact ps_load rfl (by (refine og rfl ?_; assumption)) (by exact Rds.cell (rds_box 0 rfl) rfl))) ?_; refine ok_pg rfl rfl rfl rfl rfl (gT _) (fun hp => by (have hpd := hp; (try simp only [decide_eq_true_eq, decide_eq_false_iff_not, Bool.or_eq_true, Bool.or_eq_false_iff, Bool.and_eq_true, Bool.and_eq_false_iff, Bool.not_eq_true', Bool.not_eq_false', bne_iff_ne, beq_iff_eq, bne_eq_false_iff_eq, beq_eq_false_iff_ne, ne_eq, Bool.not_true, Bool.not_false, Bool.false_eq_true, Bool.true_eq_false, inB_true, inB_false] at hpd); exact ps_int rfl (by (refine og rfl ?_; assumption)) (by (refine og rfl ?_; assumption)) rfl)) ?_; refine ok_p rfl rfl rfl (by exact ps_and rfl rfl rfl) ?_; refine ok_p rfl rfl rfl (by exact ps_assign rfl rfl) ?_; refine ok_nil ?_; refine ok_env [(4, _)] ⟨rfl, trivial⟩ ?_))
  exact ok_endL (vs := [_]) rfl ⟨rfl, trivial⟩ (fun w' hw => ⟨rfl, hw.below⟩)
/-- Nothing is the same as its neighbour so far. -/
structure CpA (L : List Ent) where
  k : Nat
  hk : 1 ≤ k ∧ k ≤ L.length
  ad : adjK L k = L.take k
structure CpB (L : List Ent) (k0 : Nat) where
  j : Nat
  k : Nat
  O : List Ent
  hj : 1 ≤ j ∧ k0 + j ≤ L.length ∧ 1 ≤ k ∧ k ≤ k0 + j - 1
  hO : O.length = k
  ad : adjK L (k0 + j) = O
theorem compactE_c (A : Option Addr) (n c : Nat) (L : List Ent) (hn : L.length = n) (hl : n ≤ 4194304) {base : Nat} {w0 w : World} {H : List HObj} {G : List World} (hw : WOk base w0 (rwE A n c L :: H) G w) :
    Calls Try.prog 207 #[.slice A n c, eqV] w fun e w' => ∃ y : Ys, e = .returned (.slice A (cmpct L).length c) ∧ True ∧ WOk base w0 (rwE A (cmpct L).length c (cmpct L) :: H) G w' := by
  have hA : 0 < n → IsS A := fun h => isS_own (hw.own _ List.mem_cons_self) h
  have hcap := hw.cap 0 rfl
  refine ok_enterW 66 Try.func207 rfl rfl rfl hw ?_
  repeat' (first
    | refine ok_seq ?_
    | refine ok_then ?_
    | refine ok_then_ret ?_
    | refine ok_block ?_
    | (refine ok_cond rfl (fun hc => ?_) (fun hc => ?_) <;> (have hd := hc; (try simp only [decide_eq_true_eq, decide_eq_false_iff_not, Bool.or_eq_true, Bool.or_eq_false_iff, Bool.and_eq_true, Bool.and_eq_false_iff, Bool.not_eq_true', Bool.not_eq_false', bne_iff_ne, beq_iff_eq, bne_eq_false_iff_eq, beq_eq_false_iff_ne, ne_eq, Bool.not_true, Bool.not_false, Bool.false_eq_true, Bool.true_eq_false, inB_true, inB_false] at hd)))
    | refine ok_ret ?_
    | refine ok_skip ?_
    | (refine ok_region (i := 0) ?_; refine ok_p rfl rfl rfl (by exact ps_assign rfl rfl) ?_; refine ok_nil ?_; refine ok_env [(0, _), (1, _)] ⟨rfl, rfl, trivial⟩ ?_)
    | (refine ok_region (i := 1) ?_; refine ok_p rfl rfl rfl (by exact ps_move rfl rfl) ?_; refine ok_p rfl rfl rfl (by exact ps_len rfl rfl) ?_; refine ok_p rfl rfl rfl (by exact ps_int rfl rfl rfl rfl) ?_; refine ok_nil ?_; refine ok_env [(0, _), (1, _), (10, _)] ⟨rfl, rfl, rfl, trivial⟩ ?_)
    | (refine ok_region (i := 2) ?_; refine ok_p rfl rfl rfl (by exact ps_move rfl rfl) ?_; refine ok_p rfl rfl rfl (by exact ps_assign rfl rfl) ?_; refine ok_nil ?_; refine ok_env [(4, _)] ⟨rfl, trivial⟩ ?_)
    | (refine ok_region (i := 3) ?_; refine ok_p rfl rfl rfl (by exact ps_assign rfl rfl) ?_; refine ok_nil ?_; refine ok_env [(0, _), (1, _), (5, _)] ⟨rfl, rfl, rfl, trivial⟩ ?_))
  · have e : cmpct L = L := by
      cases L with
      | nil => rw [cmpct]
      | cons a T => cases T with
        | nil => rw [cmpct]
        | cons b T => simp only [List.length_cons] at hn; omega
    refine ok_endL (vs := [_]) rfl ⟨rfl, trivial⟩ (fun w' hw => ⟨yM L w', ?_, trivial, ?_⟩)
    · rw [e, hn]; rfl
    · rw [e, hn]; exact hw
  refine ok_loop (ι := CpA L) (fun q => L.length - q.k) (fun q => ([(0, .slice A n c), (1, eqV), (5, .int .i64 q.k)], rwE A n c L :: H, _)) ⟨1, by omega, by rw [adj_zero, takeE_snoc (by omega)]; rfl⟩ (fun ac w he hw => ⟨⟨1, by omega, by rw [adj_zero, takeE_snoc (by omega)]; rfl⟩, he.sub ⟨rfl, rfl, rfl, trivial⟩, hw⟩) ?_
  rintro ⟨k, hk, ad⟩
  simp only at hk ⊢
  have AD := Lib.hid ad; clear ad
  repeat' (first
    | refine ok_seq ?_
    | refine ok_then ?_
    | refine ok_block ?_
    | refine ok_in_normal ?_
    | (refine ok_cond rfl (fun hc => ?_) (fun hc => ?_) <;> (have hd := hc; (try simp only [decide_eq_true_eq, decide_eq_false_iff_not, Bool.or_eq_true, Bool.or_eq_false_iff, Bool.and_eq_true, Bool.and_eq_false_iff, Bool.not_eq_true', Bool.not_eq_false', bne_iff_ne, beq_iff_eq, bne_eq_false_iff_eq, beq_eq_false_iff_ne, ne_eq, Bool.not_true, Bool.not_false, Bool.false_eq_true, Bool.true_eq_false, inB_true, inB_false] at hd)))
    | refine ok_ret ?_
    | refine ok_exit ?_
    | refine ok_skip ?_
    | (refine ok_region (i := 4) ?_; refine ok_p rfl rfl rfl (by exact ps_move rfl rfl) ?_; refine ok_p rfl rfl rfl (by exact ps_move rfl rfl) ?_; refine ok_p rfl rfl rfl (by exact ps_len rfl rfl) ?_; refine ok_p rfl rfl rfl (by exact ps_int rfl rfl rfl rfl) ?_; refine ok_nil ?_; refine ok_env [(0, _), (1, _), (5, _), (15, _)] ⟨rfl, rfl, rfl, rfl, trivial⟩ ?_)
    | (refine ok_region (i := 5) ?_; refine ok_p rfl rfl rfl (by exact ps_move rfl rfl) ?_; refine ok_p rfl rfl rfl (by exact ps_add rfl rfl rfl (by omega)) ?_; refine ok_p rfl rfl rfl (by exact ps_assign rfl rfl) ?_; refine ok_nil ?_; refine ok_env [(0, _), (1, _), (5, _)] ⟨rfl, rfl, rfl, trivial⟩ ?_)
    | (refine ok_draw (id := 6) 11 rfl (by kernel_rfl) (by kernel_rfl) rfl (by repeat (first | exact pq_body | refine pq_then ?_ | refine pq_in ?_)) [0] (by decide) rfl ?_; refine okT_take (i := 0) rfl (by kernel_rfl) rfl rfl rfl (by exact ps_move rfl rfl) ?_; refine okT_take (i := 1) rfl (by kernel_rfl) rfl rfl rfl (by exact ps_move rfl rfl) ?_; refine okT_take (i := 2) rfl (by kernel_rfl) rfl rfl rfl (by exact ps_move rfl rfl) ?_; refine okT_take (i := 3) rfl (by kernel_rfl) rfl rfl rfl (by exact ps_indexN rfl rfl rfl (by omega) (by exact isw_row 0 rfl (by omega))) ?_; refine okT_take (i := 4) rfl (by kernel_rfl) rfl rfl rfl (by exact ps_loadsF (α := Ent) (l := L) (i := k) rfl rfl (rds_row 0 rfl) rfl rfl (by omega) rfl) ?_; refine okT_take (i := 5) rfl (by kernel_rfl) rfl rfl rfl (by exact ps_move rfl rfl) ?_; refine okT_take (i := 6) rfl (by kernel_rfl) rfl rfl rfl (by exact ps_move rfl rfl) ?_; refine okT_take (i := 7) rfl (by kernel_rfl) rfl rfl rfl (by exact ps_cast (v' := .int .i64 ((k - 1 : Nat) : Int)) (ps_sub rfl rfl rfl (by omega)) (by congr 1; omega)) ?_; refine okT_take (i := 8) rfl (by kernel_rfl) rfl rfl rfl (by exact ps_indexN rfl rfl rfl (by omega) (by exact isw_row 0 rfl (by omega))) ?_; refine okT_take (i := 9) rfl (by kernel_rfl) rfl rfl rfl (by exact ps_loadsF (α := Ent) (l := L) (i := k - 1) rfl rfl (rds_row 0 rfl) rfl rfl (by omega) rfl) ?_; refine okT_one (i := 10) rfl rfl (by kernel_rfl) rfl rfl rfl (by exact ms_v2 rfl rfl rfl rfl (fun _ _ w hw => same_c (nth L k) (nth L (k - 1)) w)) (fun y w _ h => by exact h.sel [0] (by decide) rfl (fun _ h => h)) ?_; rintro y28 hy28; refine okT_done (by kernel_rfl) ?_; refine ok_nil ?_; refine ok_env [(0, _), (1, _), (5, _), (28, _)] ⟨rfl, rfl, rfl, rfl, trivial⟩ ?_)
    | (refine ok_region (i := 7) ?_; refine ok_p rfl rfl rfl (by exact ps_move rfl rfl) ?_; refine ok_p rfl rfl rfl (by exact ps_move rfl rfl) ?_; refine ok_p rfl rfl rfl (by exact ps_sliceE (l := k) rfl rfl rfl rfl (by omega) (by omega)) ?_; refine ok_p rfl rfl rfl (by exact ps_assign rfl rfl) ?_; refine ok_nil ?_; refine ok_env [(0, _), (1, _), (5, _), (6, _)] ⟨rfl, rfl, rfl, rfl, trivial⟩ ?_)
    | (refine ok_region (i := 8) ?_; refine ok_p rfl rfl rfl (by exact ps_assign rfl rfl) ?_; refine ok_nil ?_; refine ok_env [(0, _), (1, _), (5, _), (6, _), (7, _)] ⟨rfl, rfl, rfl, rfl, rfl, trivial⟩ ?_)
    | (refine ok_region (i := 16) ?_; refine ok_p rfl rfl rfl (by exact ps_move rfl rfl) ?_; refine ok_p rfl rfl rfl (by exact ps_assign rfl rfl) ?_; refine ok_nil ?_; refine ok_env [(4, _)] ⟨rfl, trivial⟩ ?_))
  · refine ok_loop (ι := CpB L k) (fun q => L.length - q.j) (fun q => ([(0, .slice A n c), (1, eqV), (5, .int .i64 q.k), (6, .slice (if c = k then A else A.map (·.add (k * 4))) (n - k) (c - k)), (7, .int .i64 q.j)], rwE A n c (q.O ++ L.drop q.k) :: H, _)) ⟨1, k, L.take k, by omega, by rw [List.length_take]; omega, by rw [adj_same (by omega) hd, AD.out]⟩ (fun ac w he hw => ⟨⟨1, k, L.take k, by omega, by rw [List.length_take]; omega, by rw [adj_same (by omega) hd, AD.out]⟩, he.sub ⟨rfl, rfl, rfl, rfl, rfl, trivial⟩, by simp only [List.take_append_drop]; exact hw⟩) ?_
    clear AD hc hd
    rename_i hd0
    rintro ⟨j, m, O, hj, hO, ad⟩
    simp only at hj hO ⊢
    obtain ⟨D, eD⟩ : ∃ D, D = O ++ L.drop m := ⟨_, rfl⟩
    have hD : D.length = n := by rw [eD, List.length_append, List.length_drop]; omega
    have hDk : (D.drop k).length = n - k := by rw [List.length_drop, hD]
    have e1 : nth (D.drop k) j = nth L (k + j) := by rw [nth_drop, eD, nth_back hO (by omega)]
    have e2 : nth (D.drop k) (j - 1) = nth L (k + j - 1) := by rw [nth_drop, eD, nth_back hO (by omega)]; congr 1; omega
    have es : m < n → D.set m (nth L (k + j)) = (O ++ [nth L (k + j)]) ++ L.drop (m + 1) := fun h => by rw [eD, set_front hO (by omega)]
    have et : D.take m = O := by rw [eD, List.take_left' hO]
    rw [← eD]
    have ED := Lib.hid eD; clear eD
    have E1 := Lib.hid e1; clear e1
    have E2 := Lib.hid e2; clear e2
    have ES := Lib.hid es; clear es
    have ET := Lib.hid et; clear et
    have AD := Lib.hid ad; clear ad
    have hsm : 0 < (fl (D.drop k)).length → True := fun _ => trivial
    repeat' (first
      | refine ok_seq ?_
      | refine ok_then ?_
      | refine ok_then_ret ?_
      | refine ok_block ?_
      | refine ok_in_normal ?_
      | refine ok_in_ret ?_
      | (refine ok_cond rfl (fun hc => ?_) (fun hc => ?_) <;> (have hd := hc; (try simp only [decide_eq_true_eq, decide_eq_false_iff_not, Bool.or_eq_true, Bool.or_eq_false_iff, Bool.and_eq_true, Bool.and_eq_false_iff, Bool.not_eq_true', Bool.not_eq_false', bne_iff_ne, beq_iff_eq, bne_eq_false_iff_eq, beq_eq_false_iff_ne, ne_eq, Bool.not_true, Bool.not_false, Bool.false_eq_true, Bool.true_eq_false, inB_true, inB_false] at hd)))
      | refine ok_ret ?_
      | refine ok_exit ?_
      | refine ok_skip ?_
      | (refine ok_region (i := 9) ?_; refine ok_p rfl rfl rfl (by exact ps_move rfl rfl) ?_; refine ok_p rfl rfl rfl (by exact ps_move rfl rfl) ?_; refine ok_p rfl rfl rfl (by exact ps_len rfl rfl) ?_; refine ok_p rfl rfl rfl (by exact ps_int rfl rfl rfl rfl) ?_; refine ok_nil ?_; refine ok_env [(0, _), (1, _), (5, _), (6, _), (7, _), (35, _)] ⟨rfl, rfl, rfl, rfl, rfl, rfl, trivial⟩ ?_)
      | (refine ok_region (i := 10) ?_; refine ok_p rfl rfl rfl (by exact ps_move rfl rfl) ?_; refine ok_p rfl rfl rfl (by exact ps_add rfl rfl rfl (by omega)) ?_; refine ok_p rfl rfl rfl (by exact ps_assign rfl rfl) ?_; refine ok_nil ?_; refine ok_env [(0, _), (1, _), (5, _), (6, _), (7, _)] ⟨rfl, rfl, rfl, rfl, rfl, trivial⟩ ?_)
      | (refine ok_draw (id := 11) 12 rfl (by kernel_rfl) (by kernel_rfl) rfl (by repeat (first | exact pq_body | refine pq_then ?_ | refine pq_in ?_)) [0] (by decide) rfl ?_; refine okT_take (i := 0) rfl (by kernel_rfl) rfl rfl rfl (by exact ps_move rfl rfl) ?_; refine okT_take (i := 1) rfl (by kernel_rfl) rfl rfl rfl (by exact ps_move rfl rfl) ?_; refine okT_take (i := 2) rfl (by kernel_rfl) rfl rfl rfl (by exact ps_move rfl rfl) ?_; refine okT_take (i := 3) rfl (by kernel_rfl) rfl rfl rfl (by exact ps_indexN rfl rfl rfl (by omega) (isw_rdsE (rds_tail (rds_row 0 rfl) rfl (by omega) (by omega)) (by rw [fl_len]; show 0 < _ * 4; omega))) ?_; refine okT_take (i := 4) rfl (by kernel_rfl) rfl rfl rfl (by exact ps_cast (v' := .agg (Dat.cells (nth L (k + j))).toArray) (ps_loadsF (α := Ent) (l := D.drop k) (i := j) rfl rfl (rds_tail (rds_row 0 rfl) rfl (by omega) (by omega)) rfl rfl (by omega) rfl) (congrArg (fun x : Ent => Value.agg (Dat.cells x).toArray) E1.out)) ?_; refine okT_take (i := 5) rfl (by kernel_rfl) rfl rfl rfl (by exact ps_move rfl rfl) ?_; refine okT_take (i := 6) rfl (by kernel_rfl) rfl rfl rfl (by exact ps_move rfl rfl) ?_; refine okT_take (i := 7) rfl (by kernel_rfl) rfl rfl rfl (by exact ps_cast (v' := .int .i64 ((j - 1 : Nat) : Int)) (ps_sub rfl rfl rfl (by omega)) (by congr 1; omega)) ?_; refine okT_take (i := 8) rfl (by kernel_rfl) rfl rfl rfl (by exact ps_indexN rfl rfl rfl (by omega) (isw_rdsE (rds_tail (rds_row 0 rfl) rfl (by omega) (by omega)) (by rw [fl_len]; show 0 < _ * 4; omega))) ?_; refine okT_take (i := 9) rfl (by kernel_rfl) rfl rfl rfl (by exact ps_cast (v' := .agg (Dat.cells (nth L (k + j - 1))).toArray) (ps_loadsF (α := Ent) (l := D.drop k) (i := j - 1) rfl rfl (rds_tail (rds_row 0 rfl) rfl (by omega) (by omega)) rfl rfl (by omega) rfl) (congrArg (fun x : Ent => Value.agg (Dat.cells x).toArray) E2.out)) ?_; refine okT_one (i := 10) rfl rfl (by kernel_rfl) rfl rfl rfl (by exact ms_v2 rfl rfl rfl rfl (fun _ _ w hw => same_c (nth L (k + j)) (nth L (k + j - 1)) w)) (fun y w _ h => by exact h.sel [0] (by decide) rfl (fun _ h => h)) ?_; rintro y48 hy48; refine okT_take (i := 11) rfl (by kernel_rfl) rfl rfl rfl (by exact ps_not rfl rfl) ?_; refine okT_done (by kernel_rfl) ?_; refine ok_nil ?_; refine ok_env [(0, _), (1, _), (5, _), (6, _), (7, _), (49, _)] ⟨rfl, rfl, rfl, rfl, rfl, rfl, trivial⟩ ?_)
      | (refine ok_region (i := 12) ?_; refine ok_p rfl rfl rfl (by exact ps_move rfl rfl) ?_; refine ok_p rfl rfl rfl (by exact ps_move rfl rfl) ?_; refine ok_p rfl rfl rfl (by exact ps_move rfl rfl) ?_; refine ok_p rfl rfl rfl (by exact ps_move rfl rfl) ?_; refine ok_p rfl rfl rfl (by exact ps_indexN rfl rfl rfl (by omega) (isw_rdsE (rds_tail (rds_row 0 rfl) rfl (by omega) (by omega)) (by rw [fl_len]; show 0 < _ * 4; omega))) ?_; refine ok_p rfl rfl rfl (by exact ps_cast (v' := .agg (Dat.cells (nth L (k + j))).toArray) (ps_loadsF (α := Ent) (l := D.drop k) (i := j) rfl rfl (rds_tail (rds_row 0 rfl) rfl (by omega) (by omega)) rfl rfl (by omega) rfl) (congrArg (fun x : Ent => Value.agg (Dat.cells x).toArray) E1.out)) ?_; refine ok_p rfl rfl rfl (by exact ps_indexN rfl rfl rfl (by omega) (by exact isw_row 0 rfl (by omega))) ?_; refine ok_m_ rfl rfl (by exact ms_setw (α := Ent) 0 m (nth L (k + j)) rfl rfl rfl rfl rfl rfl rfl rfl rfl (by omega)) ?_; rintro y_ hy_; refine ok_nil ?_; refine ok_env [(0, _), (1, _), (5, _), (6, _), (7, _)] ⟨rfl, rfl, rfl, rfl, rfl, trivial⟩ ?_)
      | (refine ok_region (i := 13) ?_; refine ok_p rfl rfl rfl (by exact ps_move rfl rfl) ?_; refine ok_p rfl rfl rfl (by exact ps_add rfl rfl rfl (by omega)) ?_; refine ok_p rfl rfl rfl (by exact ps_assign rfl rfl) ?_; refine ok_nil ?_; refine ok_env [(0, _), (1, _), (5, _), (6, _), (7, _)] ⟨rfl, rfl, rfl, rfl, rfl, trivial⟩ ?_)
      | (refine ok_region (i := 14) ?_; refine ok_p rfl rfl rfl (by exact ps_move rfl rfl) ?_; refine ok_p rfl rfl rfl (by exact ps_move rfl rfl) ?_; refine ok_p rfl rfl rfl (by exact ps_sliceE (l := m) rfl rfl rfl rfl (by omega) (by omega)) ?_; refine ok_m_ rfl rfl (by exact ms_clear (α := Ent) (L := D) (q := m) (z := [.string ⟨#[]⟩, .int .i64 0, .bool false, .string ⟨#[]⟩]) 0 rfl rfl (fun h => if_neg (by omega)) rfl rfl (by omega) (by omega) (by decide)) ?_; rintro y_ hy_; refine ok_nil ?_; refine ok_env [(0, _), (5, _)] ⟨rfl, rfl, trivial⟩ ?_)
      | (refine ok_region (i := 15) ?_; refine ok_p rfl rfl rfl (by exact ps_move rfl rfl) ?_; refine ok_p rfl rfl rfl (by exact ps_move rfl rfl) ?_; refine ok_p rfl rfl rfl (by exact ps_slice0 (h := m) rfl rfl rfl rfl (by omega)) ?_; refine ok_p rfl rfl rfl (by exact ps_assign rfl rfl) ?_; refine ok_nil ?_; refine ok_env [(4, _)] ⟨rfl, trivial⟩ ?_))
    · refine fun ac w' he hw => ⟨⟨j + 1, m + 1, O ++ [nth L (k + j)], by omega, by rw [List.length_append, hO]; rfl, by rw [show k + (j + 1) = (k + j) + 1 by omega, adj_diff hd, AD.out]⟩, by simp only; omega, he.sub ⟨rfl, rfl, rfl, rfl, rfl, trivial⟩, ?_⟩
      simp only
      rw [← ES.out (by omega)]
      exact hw
    · refine fun ac w' he hw => ⟨⟨j + 1, m, O, by omega, hO, by rw [show k + (j + 1) = (k + j) + 1 by omega, adj_same (by omega) hd, AD.out]⟩, by simp only; omega, he.sub ⟨rfl, rfl, rfl, rfl, rfl, trivial⟩, ?_⟩
      simp only
      rw [← ED.out]
      exact hw
    · have e : cmpct L = O := by rw [← adj_end, ← AD.out]; congr 1; omega
      refine ok_endL (vs := [_]) rfl ⟨rfl, trivial⟩ (fun w' hw => ⟨yM L w', ?_, trivial, ?_⟩)
      · rw [e, hO]; rfl
      · rw [e, hO]
        have := ET.out
        rw [← this]; exact hw
  · exact fun ac w' he hw => ⟨⟨k + 1, by omega, by rw [adj_diff (by simpa using hd), AD.out, takeE_snoc (by omega)]⟩, by simp only; omega, he.sub ⟨rfl, rfl, rfl, trivial⟩, hw⟩
  · have e : cmpct L = L := by rw [← adj_end, show L.length = k by omega, AD.out, List.take_of_length_le (by omega)]
    refine ok_endL (vs := [_]) rfl ⟨rfl, trivial⟩ (fun w' hw => ⟨yM L w', ?_, trivial, ?_⟩)
    · rw [e, hn]; rfl
    · rw [e, hn]; exact hw
theorem ps_clipE {P : Program} {E : Env} {H : List HObj} {G : List World} {o : Oper} {x hi mx : Operand} {t e sz bytes : TypeId} {A : Option Addr} {n c h : Nat} {k' k'' : IntKind} [ht : EL P t e sz bytes] (ho : o.op = .slice t x none (some hi) (some mx)) (hx : opd E x = some (.slice A n c))
    (hhi : opd E hi = some (.int k' (h : Int))) (hm : opd E mx = some (.int k'' (h : Int))) (h3 : h ≤ c) :
    PStep P E H G o (.slice A h h) := fun N base w0 a w he hw => by
  obtain ⟨hu, _, i, z, hi', hz, hs, _, _⟩ := ht.h
  have hb : ∀ (k : IntKind) (q m : Nat) (cd : BoundsCode), q ≤ m → (Instr.sliceBound (.int k (q : Int)) m cd).run P w = .ok q w := fun k q m cd hq => by
    have : (0 : Int) ≤ q ∧ (q : Int) ≤ m := by omega
    simp [Instr.sliceBound, asIntOf, this]
  simp [execOp, ho, he.eval hx, he.eval hhi, he.eval hm, Instr.sliceAt, Instr.slice, Instr.sliceBounds, run_underlying hu, sizeOf, typeInfo, hi', hs, hb k'' h c _ h3, hb k' h h _ (Nat.le_refl _)]
  exact fun _ => by have := add_zero_all A 0; simpa using this
theorem clipE_c (A : Option Addr) (n c : Nat) (h : n ≤ c) (w : World) :
    Calls Try.prog 206 #[.slice A n c] w fun e w' => e = .returned (.slice A n n) ∧ Below w.heap.size w w' := by
  refine ok_enter 9 Try.func206 rfl rfl rfl ?_
  repeat' (first
    | refine ok_seq ?_
    | refine ok_then ?_
    | refine ok_ret ?_
    | (refine ok_region (i := 0) ?_; refine ok_p rfl rfl rfl (by exact ps_assign rfl rfl) ?_; refine ok_nil ?_; refine ok_env [(0, _)] ⟨rfl, trivial⟩ ?_)
    | (refine ok_region (i := 1) ?_; refine ok_p rfl rfl rfl (by exact ps_move rfl rfl) ?_; refine ok_p rfl rfl rfl (by exact ps_move rfl rfl) ?_; refine ok_p rfl rfl rfl (by exact ps_len rfl rfl) ?_; refine ok_p rfl rfl rfl (by exact ps_move rfl rfl) ?_; refine ok_p rfl rfl rfl (by exact ps_len rfl rfl) ?_; refine ok_p rfl rfl rfl (by exact ps_clipE rfl rfl rfl rfl h) ?_; refine ok_p rfl rfl rfl (by exact ps_assign rfl rfl) ?_; refine ok_nil ?_; refine ok_env [(2, _)] ⟨rfl, trivial⟩ ?_))
  exact ok_endL (vs := [_]) rfl ⟨rfl, trivial⟩ (fun w' hw => ⟨rfl, hw.below⟩)
theorem merge_len : ∀ (rows : List (List Ent)) (acc : List Ent), (rows.foldl mrg acc).length ≤ acc.length + rows.flatten.length
  | [], acc => by simp
  | r :: rows, acc => by
    have h1 := merge_len rows (mrg acc r)
    have h2 := mrg_len acc r
    rw [List.foldl_cons, List.flatten_cons, List.length_append]
    omega
theorem merged_c (A : Option Addr) (c : Nat) (R : List (Lc (List Ent))) (w : World) (h : RdN w A R) (hl : R.length ≤ 4194304) (ht : ∀ k, offR List.length (dats R) k ≤ 4194304) (hs : ∀ l ∈ dats R, strE l) :
    Calls Try.prog 166 #[.slice A R.length c] w fun e w' => ∃ y : Ys, e = .returned (.slice (y 0).A (mergeS (dats R)).length (mergeS (dats R)).length) ∧ True ∧ Below w.heap.size w w' ∧ NewOk w.heap.size [.row 71 4 (y 0).A (mergeS (dats R)).length (y 0).c (fl (mergeS (dats R)))] [] w' := by
  have hf : (dats R).flatten.length ≤ 4194304 := by
    have h1 := catEnt_len (dats R) (dats R).length
    rw [List.take_length] at h1
    rw [h1]; exact ht _
  refine ok_enter 11 Try.func166 rfl rfl rfl ?_
  repeat' (first
    | refine ok_seq ?_
    | refine ok_then ?_
    | refine ok_ret ?_
    | (refine ok_region (i := 0) ?_; refine ok_p rfl rfl rfl (by exact ps_assign rfl rfl) ?_; refine ok_nil ?_; refine ok_env [(0, _)] ⟨rfl, trivial⟩ ?_)
    | (refine ok_region (i := 1) ?_; refine ok_p rfl rfl rfl (by exact ps_move rfl rfl) ?_; refine ok_m rfl rfl rfl (by exact ms_c1 rfl rfl (fun _ _ w hw => concatEnt_c A c R w (h.keep hw (by exact List.mem_cons_self)) hl ht)) ?_; rintro y5 hy5; refine ok_p rfl rfl rfl (by exact ps_assign rfl rfl) ?_; refine ok_nil ?_; refine ok_env [(3, _)] ⟨rfl, trivial⟩ ?_)
    | (refine ok_region (i := 2) ?_; refine ok_p rfl rfl rfl (by exact ps_move rfl rfl) ?_; refine ok_m rfl rfl rfl (by exact ms_w2 (fun _ _ _ h => h) rfl rfl rfl (fun _ _ w hw => sortStable_c (y5 0).A _ (y5 0).c (dats R).flatten rfl hf hw)) ?_; rintro y7 hy7; refine ok_nil ?_; refine ok_env [(3, _)] ⟨rfl, trivial⟩ ?_)
    | (refine ok_region (i := 3) ?_; refine ok_p rfl rfl rfl (by exact ps_move rfl rfl) ?_; refine ok_m rfl rfl rfl (by exact ms_w2 (fun _ _ _ h => h) rfl rfl rfl (fun _ _ w hw => compactE_c (y5 0).A _ (y5 0).c (rM y7) hy7.2.2 hf hw)) ?_; rintro y9 hy9; refine ok_m rfl rfl rfl (by exact ms_s1 rfl rfl (fun _ _ w hw => clipE_c (y5 0).A _ (y5 0).c (hw.cap 0 rfl) w)) ?_; rintro y10 hy10; refine ok_p rfl rfl rfl (by exact ps_assign rfl rfl) ?_; refine ok_nil ?_; refine ok_env [(2, _)] ⟨rfl, trivial⟩ ?_))
  have e : cmpct (rM y7) = mergeS (dats R) := merge_same hs hy7.2.1 hy7.1
  exact ok_endL (vs := [_]) rfl ⟨rfl, trivial⟩ (fun w' hw => ⟨y5, by rw [e]; rfl, trivial, hw.below, by rw [e] at hw; exact NewOk.of hw⟩)
end Go.Proofs.Ytbegbdfbfbkflaa
/- FnWalk in plain Lean: forth, back, and what is found. -/
namespace Go.Proofs.Ytbegbdfbfbkflaa
set_option linter.unusedVariables false
set_option linter.unusedSimpArgs false
def onAt (x : DWalk) (k : ByteArray) : DWalk := { x with key := k, on := true }
theorem on_ok {x : DWalk} (h : fWalkOk x = true) (k : ByteArray) : fWalkOk (onAt x k) = true := by
  unfold fWalkOk at h ⊢
  rw [Bool.and_eq_true, Bool.and_eq_true] at h
  show (decide ((offE x.R x.R.length : Int) ≤ 400) && x.R.all inOrd && (true || sEq k ⟨#[]⟩)) = true
  rw [Bool.true_or, Bool.and_true, Bool.and_eq_true]
  exact h.1
/-- The walk behind i steps. -/
def stF (w : DWalk) (i : Nat) : DWalk := if i = 0 then w else onAt w (nth (mapW w) (i - 1)).key
def stW (w : DWalk) (i : Nat) : DWalk := if i = 0 then w else onAt w (nth (mapW w) ((mapW w).length - i)).key
theorem fw_ok {w : DWalk} (h : fWalkOk w = true) (i : Nat) : fWalkOk (stF w i) = true ∧ mapW (stF w i) = mapW w := by
  unfold stF; split
  · exact ⟨h, rfl⟩
  · exact ⟨on_ok h _, rfl⟩
theorem bw_ok {w : DWalk} (h : fWalkOk w = true) (i : Nat) : fWalkOk (stW w i) = true ∧ mapW (stW w i) = mapW w := by
  unfold stW; split
  · exact ⟨h, rfl⟩
  · exact ⟨on_ok h _, rfl⟩
theorem nth_lb {m : List KV} (h : srtK m) {i : Nat} (hi : i < m.length) : lbK m (nth m i).key = i ∧ fndK m (nth m i).key = true := by
  have hl : lbK m (nth m i).key = i := lb_ix m _ i (by omega) (fun j hj => srt_ix h hj hi) (fun _ => sLt_irrefl _)
  refine ⟨hl, ?_⟩
  unfold fndK
  rw [hl, sEq_ref, Bool.and_true, decide_eq_true_eq]; omega
theorem fw_step {w : DWalk} (h : fWalkOk w = true) (h0 : w.on = false) {i : Nat} (hi : i ≤ (mapW w).length) : (i < (mapW w).length → fWalkNext (stF w i) = (stF w (i + 1), nth (mapW w) i, true)) ∧ (i = (mapW w).length → (fWalkNext (stF w i)).2.2 = false) := by
  obtain ⟨h1, h2⟩ := fw_ok h i
  have hs := map_srt h
  have hix : nextI (stF w i) (mapW w) = i := by
    by_cases e : i = 0
    · subst e
      unfold nextI stF
      rw [if_pos rfl, if_neg (by rw [h0]; decide)]; rfl
    · unfold nextI stF
      rw [if_neg e]
      obtain ⟨q1, q2⟩ := nth_lb hs (show i - 1 < (mapW w).length by omega)
      show (if true = true then ((lbK (mapW w) (nth (mapW w) (i - 1)).key : Nat) : Int) + (if fndK (mapW w) (nth (mapW w) (i - 1)).key = true then 1 else 0) else 0) = i
      rw [if_pos rfl, q1, q2, if_pos rfl]; omega
  unfold fWalkNext
  rw [if_pos h1, h2, hix]
  unfold standAt
  constructor
  · intro hlt
    rw [if_pos (by omega), Int.toNat_natCast]
    refine Prod.ext ?_ rfl
    show ({ stF w i with key := (nth (mapW w) i).key, on := true } : DWalk) = stF w (i + 1)
    unfold stF
    rw [if_neg (Nat.succ_ne_zero i), Nat.add_sub_cancel]
    split <;> rfl
  · intro e
    rw [if_neg (by omega)]
theorem bw_step {w : DWalk} (h : fWalkOk w = true) (h0 : w.on = false) {i : Nat} (hi : i ≤ (mapW w).length) : (i < (mapW w).length → fWalkPrev (stW w i) = (stW w (i + 1), nth (mapW w) ((mapW w).length - (i + 1)), true)) ∧ (i = (mapW w).length → (fWalkPrev (stW w i)).2.2 = false) := by
  obtain ⟨h1, h2⟩ := bw_ok h i
  have hs := map_srt h
  have hix : prevI (stW w i) (mapW w) = ((mapW w).length : Int) - (i + 1) := by
    by_cases e : i = 0
    · subst e
      unfold prevI stW
      rw [if_pos rfl, if_neg (by rw [h0]; decide)]; omega
    · unfold prevI stW
      rw [if_neg e]
      obtain ⟨q1, q2⟩ := nth_lb hs (show (mapW w).length - i < (mapW w).length by omega)
      show (if true = true then ((lbK (mapW w) (nth (mapW w) ((mapW w).length - i)).key : Nat) : Int) - 1 else ((mapW w).length : Int) - 1) = _
      rw [if_pos rfl, q1]; omega
  unfold fWalkPrev
  rw [if_pos h1, h2, hix]
  unfold standAt
  constructor
  · intro hlt
    rw [if_pos (by omega), show (((mapW w).length : Int) - (i + 1)).toNat = (mapW w).length - (i + 1) by omega]
    refine Prod.ext ?_ rfl
    show ({ stW w i with key := (nth (mapW w) ((mapW w).length - (i + 1))).key, on := true } : DWalk) = stW w (i + 1)
    unfold stW
    rw [if_neg (Nat.succ_ne_zero i)]
    split <;> rfl
  · intro e
    rw [if_neg (by omega)]
/-- What is met is what is told of its key. -/
theorem met {x : DWalk} (h : fWalkOk x = true) {i : Nat} (hi : i < (mapW x).length) : ∃ e, getE (mergeS x.R) (nth (mapW x) i).key x.seq = some e ∧ e.del = false ∧ e.val = (nth (mapW x) i).val := by
  have hs := (mergeS_str (ok_rows h)).1
  have hm := nth_mem (mapW x) i hi
  unfold mapW at hm
  rw [vis_same hs] at hm
  obtain ⟨y, hy, e⟩ := List.mem_map.1 hm
  have hy2 := (List.mem_filter.1 hy).2
  have hm2 : nth (mapW x) i = kvE y := by unfold mapW; rw [vis_same hs, ← e]
  rw [hm2]
  show ∃ e, getE (mergeS x.R) y.key x.seq = some e ∧ e.del = false ∧ e.val = y.val
  unfold mapPick at hy2
  cases hg : getE (mergeS x.R) y.key x.seq with
  | none => rw [hg] at hy2; cases hy2
  | some z =>
    rw [hg] at hy2
    simp only [Bool.and_eq_true, Bool.not_eq_true', decide_eq_true_eq] at hy2
    refine ⟨z, rfl, hy2.1, ?_⟩
    have hz := List.mem_of_find?_eq_some hg
    have hk := ((isK_iff _ _ _).1 (List.find?_some hg)).1
    have hse : sameE z y = true := by unfold sameE; rw [hk, sEq_ref, hy2.2]; simp
    have e1 := (find_str hs z).2 hz
    have e2 := (find_str hs y).2 (List.mem_filter.1 hy).1
    have : (mergeS x.R).find? (sameE z) = (mergeS x.R).find? (sameE y) := by
      congr 1
      funext q
      cases h6 : sameE y q with
      | true => exact same_trans (by rw [same_sym]; exact hse) h6
      | false =>
        cases h7 : sameE z q with
        | false => rfl
        | true => have := same_trans hse h7; rw [h6] at this; cases this
    rw [e1, e2] at this
    cases this; rfl
theorem map_len (x : DWalk) (h : fWalkOk x = true) : (mapW x).length ≤ (mergeS x.R).length := by
  unfold mapW
  rw [vis_same (mergeS_str (ok_rows h)).1]
  unfold sMap
  rw [List.length_map]
  exact List.length_filter_le _ _
/-- The element behind a front. -/
theorem nth_mid : ∀ (L A D : List KV) (y : KV), A ++ y :: D = L → nth L A.length = y := by
  rintro _ A D y rfl
  unfold nth
  simp [List.getD_eq_getElem?_getD]
/-- What a seek finds is not below. -/
theorem seek_ge {x : DWalk} (h : fWalkOk x = true) (key : ByteArray) : (fWalkSeek x key).2.2 = true → sLt (fWalkSeek x key).2.1.key key = false := by
  have hs := map_srt h
  unfold fWalkSeek standAt
  rw [if_pos h]
  split
  · rename_i c
    intro _
    show sLt (nth (mapW x) ((lbK (mapW x) key : Nat) : Int).toNat).key key = false
    rw [Int.toNat_natCast]
    have hlt : lbK (mapW x) key < (mapW x).length := by omega
    cases ht : tlK (mapW x) key with
    | nil =>
      have := congrArg List.length (hd_tl (mapW x) key)
      rw [ht, List.length_append, lb_len] at this
      simp at this; omega
    | cons y D =>
      have e : nth (mapW x) (lbK (mapW x) key) = y := by
        have h1 := hd_tl (mapW x) key
        rw [ht] at h1
        rw [← lb_len]; exact nth_mid _ _ _ _ h1
      rw [e]
      have h3 : (tlK (mapW x) key).head? = some y := by rw [ht]; rfl
      unfold tlK at h3
      have h4 := List.head?_dropWhile_not (fun x : KV => sLt x.key key) (mapW x)
      rw [h3] at h4
      simpa using h4
  · intro hf; cases hf
end Go.Proofs.Ytbegbdfbfbkflaa
/- What a walk sees: visible, the search of a key, walkTo with its three functions. -/
namespace Go.Proofs.Ytbegbdfbfbkflaa
open Go.RowKit
set_option maxHeartbeats 4000000
set_option maxRecDepth 20000
set_option linter.unusedVariables false
set_option linter.unusedSimpArgs false
attribute [local irreducible] Calls
def lastK (last : Option ByteArray) : ByteArray := match last with
  | some k => k
  | none => ⟨#[]⟩
theorem seen_b (last : Option ByteArray) (q : ByteArray) : seenK last q = (last.isSome && sEq q (lastK last)) := by cases last <;> rfl
theorem vis_step (seq : Int) (last : Option ByteArray) {l : List Ent} {k : Nat} (hk : k < l.length) : vis seq last (l.drop k) = if (decide (seq < (nth l k).seq) || seenK last (nth l k).key) = true then vis seq last (l.drop (k + 1)) else if (nth l k).del = true then vis seq (some (nth l k).key) (l.drop (k + 1)) else kvE (nth l k) :: vis seq (some (nth l k).key) (l.drop (k + 1)) := by
  have e : nth l k = l[k] := by simp [nth, hk]
  rw [List.drop_eq_getElem_cons hk, vis, e]
structure ViS (l : List Ent) (seq : Int) where
  k : Nat
  M : List KV
  last : Option ByteArray
  B : Option Addr
  d : Nat
  hk : k ≤ l.length ∧ M.length ≤ k
  hm : M ++ vis seq last (l.drop k) = fVis l seq
theorem visible_c (A : Option Addr) (c : Nat) (l : List Ent) (seq : Int) (w : World) (h : Rd w A (fl l)) (hl : l.length ≤ 4194304) :
    Calls Try.prog 165 #[.slice A l.length c, .int .i64 seq] w fun e w' => ∃ y : Ys, e = .returned (.slice (y 0).A (fVis l seq).length (y 0).c) ∧ True ∧ Below w.heap.size w w' ∧ NewOk w.heap.size [.row 67 2 (y 0).A (fVis l seq).length (y 0).c (fl (fVis l seq))] [] w' := by
  refine ok_enter 44 Try.func165 rfl rfl rfl ?_
  repeat' (first
    | refine ok_seq ?_
    | refine ok_then ?_
    | refine ok_block ?_
    | (refine ok_region (i := 0) ?_; refine ok_p rfl rfl rfl (by exact ps_assign rfl rfl) ?_; refine ok_nil ?_; refine ok_env [(0, _), (1, _)] ⟨rfl, rfl, trivial⟩ ?_)
    | (refine ok_region (i := 1) ?_; refine ok_p rfl rfl rfl (by exact ps_assign rfl rfl) ?_; refine ok_nil ?_; refine ok_env [(0, _), (1, _), (5, _)] ⟨rfl, rfl, rfl, trivial⟩ ?_)
    | (refine ok_region (i := 2) ?_; refine ok_p rfl rfl rfl (by exact ps_assign rfl rfl) ?_; refine ok_p rfl rfl rfl (by exact ps_assign rfl rfl) ?_; refine ok_nil ?_; refine ok_env [(0, _), (1, _), (5, _), (6, _), (7, _)] ⟨rfl, rfl, rfl, rfl, rfl, trivial⟩ ?_)
    | (refine ok_region (i := 3) ?_; refine ok_p rfl rfl rfl (by exact ps_move rfl rfl) ?_; refine ok_p rfl rfl rfl (by exact ps_len rfl rfl) ?_; refine ok_p rfl rfl rfl (by exact ps_move rfl rfl) ?_; refine ok_nil ?_; refine ok_env [(1, _), (5, _), (6, _), (7, _), (10, _), (11, _), (12, _)] ⟨rfl, rfl, rfl, rfl, rfl, rfl, rfl, trivial⟩ ?_))
  refine ok_loop (ι := ViS l seq) (fun q => l.length - q.k) (fun q => ([(1, .int .i64 seq), (5, .slice q.B q.M.length q.d), (6, .string (lastK q.last)), (7, .bool q.last.isSome), (10, .slice A l.length c), (11, .int .i64 l.length), (12, .int .i64 q.k)], [.row 67 2 q.B q.M.length q.d (fl q.M)], _)) ⟨0, [], none, none, 0, by simp, rfl⟩ (fun a w he hw => ⟨⟨0, [], none, none, 0, by simp, rfl⟩, he.sub ⟨rfl, rfl, rfl, rfl, rfl, rfl, rfl, trivial⟩, hw.rowNil 67 2⟩) ?_
  rintro ⟨k, M, last, B, d, hk, hm⟩
  simp only at hk ⊢
  have HM := Lib.hid hm; clear hm
  repeat' (first
    | refine ok_seq ?_
    | refine ok_then ?_
    | refine ok_then_exit ?_
    | refine ok_block ?_
    | refine ok_in_normal ?_
    | refine ok_in_exit ?_
    | (refine ok_cond rfl (fun hc => ?_) (fun hc => ?_) <;> (have hd := hc; (try simp only [decide_eq_true_eq, decide_eq_false_iff_not, Bool.or_eq_true, Bool.or_eq_false_iff, Bool.and_eq_true, Bool.and_eq_false_iff, Bool.not_eq_true', Bool.not_eq_false', bne_iff_ne, beq_iff_eq, bne_eq_false_iff_eq, beq_eq_false_iff_ne, ne_eq, Bool.not_true, Bool.not_false, Bool.false_eq_true, Bool.true_eq_false, inB_true, inB_false] at hd)))
    | refine ok_ret ?_
    | refine ok_exit ?_
    | refine ok_skip ?_
    | (refine ok_region (i := 4) ?_; refine ok_p rfl rfl rfl (by exact ps_int rfl rfl rfl rfl) ?_; refine ok_nil ?_; refine ok_env [(1, _), (5, _), (6, _), (7, _), (10, _), (11, _), (12, _), (13, _)] ⟨rfl, rfl, rfl, rfl, rfl, rfl, rfl, rfl, trivial⟩ ?_)
    | (refine ok_region (i := 5) ?_; refine ok_p rfl rfl rfl (by exact ps_indexN rfl rfl rfl (by omega) (by exact isw_of (isS_fl (by assumption) (by omega)))) ?_; refine ok_p rfl rfl rfl (by exact ps_loadsF (α := Ent) (l := l) (i := k) rfl rfl (rds_rf h (by exact List.mem_cons_self)) rfl rfl (by omega) rfl) ?_; refine ok_m rfl rfl rfl (by exact ms_alloc rfl) ?_; rintro y9 hy9; refine ok_m_ rfl rfl (by exact ms_store 0 rfl rfl rfl rfl rfl rfl rfl rfl) ?_; rintro y_ hy_; refine ok_nil ?_; refine ok_env [(1, _), (5, _), (6, _), (7, _), (9, _), (10, _), (11, _), (12, _)] ⟨rfl, rfl, rfl, rfl, rfl, rfl, rfl, rfl, trivial⟩ ?_)
    | (refine ok_region (i := 6) ?_; refine ok_p rfl rfl rfl (by exact ps_field rfl rfl (by exact isw_ga _)) ?_; refine ok_p rfl rfl rfl (by exact ps_load rfl rfl (by exact Rds.cell (rds_box 0 rfl) rfl)) ?_; refine ok_p rfl rfl rfl (by exact ps_move rfl rfl) ?_; refine ok_p rfl rfl rfl (by exact ps_int rfl rfl rfl rfl) ?_; refine ok_p rfl rfl rfl (by exact ps_move rfl rfl) ?_; refine ok_pg rfl rfl rfl rfl rfl (gF _) (fun hp => by (have hpd := hp; (try simp only [decide_eq_true_eq, decide_eq_false_iff_not, Bool.or_eq_true, Bool.or_eq_false_iff, Bool.and_eq_true, Bool.and_eq_false_iff, Bool.not_eq_true', Bool.not_eq_false', bne_iff_ne, beq_iff_eq, bne_eq_false_iff_eq, beq_eq_false_iff_ne, ne_eq, Bool.not_true, Bool.not_false, Bool.false_eq_true, Bool.true_eq_false, inB_true, inB_false] at hpd); exact ps_move rfl (by exact rfl))) ?_; refine ok_pg rfl rfl rfl rfl rfl (gF _) (fun hp => by (have hpd := hp; (try simp only [decide_eq_true_eq, decide_eq_false_iff_not, Bool.or_eq_true, Bool.or_eq_false_iff, Bool.and_eq_true, Bool.and_eq_false_iff, Bool.not_eq_true', Bool.not_eq_false', bne_iff_ne, beq_iff_eq, bne_eq_false_iff_eq, beq_eq_false_iff_ne, ne_eq, Bool.not_true, Bool.not_false, Bool.false_eq_true, Bool.true_eq_false, inB_true, inB_false] at hpd); exact ps_move rfl (by (refine og rfl ?_; assumption)))) ?_; refine ok_pgg rfl rfl rfl rfl rfl (gT _) (fun hq hp hqp => by (have hqd := hq; (try simp only [decide_eq_true_eq, decide_eq_false_iff_not, Bool.or_eq_true, Bool.or_eq_false_iff, Bool.and_eq_true, Bool.and_eq_false_iff, Bool.not_eq_true', Bool.not_eq_false', bne_iff_ne, beq_iff_eq, bne_eq_false_iff_eq, beq_eq_false_iff_ne, ne_eq, Bool.not_true, Bool.not_false, Bool.false_eq_true, Bool.true_eq_false, inB_true, inB_false] at hqd); have hpd := hp; (try simp only [decide_eq_true_eq, decide_eq_false_iff_not, Bool.or_eq_true, Bool.or_eq_false_iff, Bool.and_eq_true, Bool.and_eq_false_iff, Bool.not_eq_true', Bool.not_eq_false', bne_iff_ne, beq_iff_eq, bne_eq_false_iff_eq, beq_eq_false_iff_ne, ne_eq, Bool.not_true, Bool.not_false, Bool.false_eq_true, Bool.true_eq_false, inB_true, inB_false] at hpd); exact ps_field rfl (by exact rfl) (by exact isw_ga _))) ?_; refine ok_pgg rfl rfl rfl rfl rfl (gT _) (fun hq hp hqp => by (have hqd := hq; (try simp only [decide_eq_true_eq, decide_eq_false_iff_not, Bool.or_eq_true, Bool.or_eq_false_iff, Bool.and_eq_true, Bool.and_eq_false_iff, Bool.not_eq_true', Bool.not_eq_false', bne_iff_ne, beq_iff_eq, bne_eq_false_iff_eq, beq_eq_false_iff_ne, ne_eq, Bool.not_true, Bool.not_false, Bool.false_eq_true, Bool.true_eq_false, inB_true, inB_false] at hqd); have hpd := hp; (try simp only [decide_eq_true_eq, decide_eq_false_iff_not, Bool.or_eq_true, Bool.or_eq_false_iff, Bool.and_eq_true, Bool.and_eq_false_iff, Bool.not_eq_true', Bool.not_eq_false', bne_iff_ne, beq_iff_eq, bne_eq_false_iff_eq, beq_eq_false_iff_ne, ne_eq, Bool.not_true, Bool.not_false, Bool.false_eq_true, Bool.true_eq_false, inB_true, inB_false] at hpd); exact ps_load rfl (by (refine og rfl ?_; assumption)) (by exact Rds.cell (rds_box 0 rfl) rfl))) ?_; refine ok_pgg rfl rfl rfl rfl rfl (gT _) (fun hq hp hqp => by (have hqd := hq; (try simp only [decide_eq_true_eq, decide_eq_false_iff_not, Bool.or_eq_true, Bool.or_eq_false_iff, Bool.and_eq_true, Bool.and_eq_false_iff, Bool.not_eq_true', Bool.not_eq_false', bne_iff_ne, beq_iff_eq, bne_eq_false_iff_eq, beq_eq_false_iff_ne, ne_eq, Bool.not_true, Bool.not_false, Bool.false_eq_true, Bool.true_eq_false, inB_true, inB_false] at hqd); have hpd := hp; (try simp only [decide_eq_true_eq, decide_eq_false_iff_not, Bool.or_eq_true, Bool.or_eq_false_iff, Bool.and_eq_true, Bool.and_eq_false_iff, Bool.not_eq_true', Bool.not_eq_false', bne_iff_ne, beq_iff_eq, bne_eq_false_iff_eq, beq_eq_false_iff_ne, ne_eq, Bool.not_true, Bool.not_false, Bool.false_eq_true, Bool.true_eq_false, inB_true, inB_false] at hpd); exact ps_move rfl (by exact rfl))) ?_; refine ok_pgg rfl rfl rfl rfl rfl (gT _) (fun hq hp hqp => by (have hqd := hq; (try simp only [decide_eq_true_eq, decide_eq_false_iff_not, Bool.or_eq_true, Bool.or_eq_false_iff, Bool.and_eq_true, Bool.and_eq_false_iff, Bool.not_eq_true', Bool.not_eq_false', bne_iff_ne, beq_iff_eq, bne_eq_false_iff_eq, beq_eq_false_iff_ne, ne_eq, Bool.not_true, Bool.not_false, Bool.false_eq_true, Bool.true_eq_false, inB_true, inB_false] at hqd); have hpd := hp; (try simp only [decide_eq_true_eq, decide_eq_false_iff_not, Bool.or_eq_true, Bool.or_eq_false_iff, Bool.and_eq_true, Bool.and_eq_false_iff, Bool.not_eq_true', Bool.not_eq_false', bne_iff_ne, beq_iff_eq, bne_eq_false_iff_eq, beq_eq_false_iff_ne, ne_eq, Bool.not_true, Bool.not_false, Bool.false_eq_true, Bool.true_eq_false, inB_true, inB_false] at hpd); exact ps_str rfl (by (refine og rfl ?_; assumption)) (by (refine og rfl ?_; assumption)) rfl)) ?_; refine ok_pg rfl rfl rfl rfl rfl (gF _) (fun hp => by (have hpd := hp; (try simp only [decide_eq_true_eq, decide_eq_false_iff_not, Bool.or_eq_true, Bool.or_eq_false_iff, Bool.and_eq_true, Bool.and_eq_false_iff, Bool.not_eq_true', Bool.not_eq_false', bne_iff_ne, beq_iff_eq, bne_eq_false_iff_eq, beq_eq_false_iff_ne, ne_eq, Bool.not_true, Bool.not_false, Bool.false_eq_true, Bool.true_eq_false, inB_true, inB_false] at hpd); exact ps_and_in (by assumption) rfl rfl rfl)) ?_; refine ok_p rfl rfl rfl (by exact ps_or rfl rfl rfl) ?_; refine ok_nil ?_; refine ok_env [(1, _), (5, _), (6, _), (7, _), (9, _), (10, _), (11, _), (12, _), (28, _)] ⟨rfl, rfl, rfl, rfl, rfl, rfl, rfl, rfl, rfl, trivial⟩ ?_)
    | (refine ok_region (i := 7) ?_; refine ok_p rfl rfl rfl (by exact ps_field rfl rfl (by exact isw_ga _)) ?_; refine ok_p rfl rfl rfl (by exact ps_load rfl rfl (by exact Rds.cell (rds_box 0 rfl) rfl)) ?_; refine ok_p rfl rfl rfl (by exact ps_assign rfl rfl) ?_; refine ok_p rfl rfl rfl (by exact ps_assign rfl rfl) ?_; refine ok_nil ?_; refine ok_env [(1, _), (5, _), (6, _), (7, _), (9, _), (10, _), (11, _), (12, _)] ⟨rfl, rfl, rfl, rfl, rfl, rfl, rfl, rfl, trivial⟩ ?_)
    | (refine ok_region (i := 8) ?_; refine ok_p rfl rfl rfl (by exact ps_field rfl rfl (by exact isw_ga _)) ?_; refine ok_p rfl rfl rfl (by exact ps_load rfl rfl (by exact Rds.cell (rds_box 0 rfl) rfl)) ?_; refine ok_p rfl rfl rfl (by exact ps_not rfl rfl) ?_; refine ok_nil ?_; refine ok_env [(1, _), (5, _), (6, _), (7, _), (9, _), (10, _), (11, _), (12, _), (33, _)] ⟨rfl, rfl, rfl, rfl, rfl, rfl, rfl, rfl, rfl, trivial⟩ ?_)
    | (refine ok_region (i := 9) ?_; refine ok_p rfl rfl rfl (by exact ps_move rfl rfl) ?_; refine ok_p rfl rfl rfl (by exact ps_field rfl rfl (by exact isw_ga _)) ?_; refine ok_p rfl rfl rfl (by exact ps_load rfl rfl (by exact Rds.cell (rds_box 0 rfl) rfl)) ?_; refine ok_p rfl rfl rfl (by exact ps_field rfl rfl (by exact isw_ga _)) ?_; refine ok_p rfl rfl rfl (by exact ps_load rfl rfl (by exact Rds.cell (rds_box 0 rfl) rfl)) ?_; refine ok_p rfl rfl rfl (by exact ps_bld rfl (parts_cons rfl (parts_cons rfl parts_nil)) rfl) ?_; refine ok_m rfl rfl rfl (by exact ms_lit rfl (parts_cons rfl parts_nil) rfl rfl rfl) ?_; rintro y40 hy40; refine ok_m rfl rfl rfl (by exact ms_appF (α := KV) (L := M) (M := [kvE (nth l k)]) 2 rfl rfl rfl rfl (rds_row 0 rfl) rfl (by simp; omega) (by simp; omega)) ?_; rintro y41 hy41; refine ok_p rfl rfl rfl (by exact ps_assign rfl rfl) ?_; refine ok_nil ?_; refine ok_env [(1, _), (5, _), (6, _), (7, _), (10, _), (11, _), (12, _)] ⟨rfl, rfl, rfl, rfl, rfl, rfl, rfl, trivial⟩ ?_)
    | (refine ok_region (i := 10) ?_; refine ok_p rfl rfl rfl (by exact ps_add rfl rfl rfl (by omega)) ?_; refine ok_p rfl rfl rfl (by exact ps_move rfl rfl) ?_; refine ok_nil ?_; refine ok_env [(1, _), (5, _), (6, _), (7, _), (10, _), (11, _), (12, _)] ⟨rfl, rfl, rfl, rfl, rfl, rfl, rfl, trivial⟩ ?_)
    | (refine ok_region (i := 11) ?_; refine ok_p rfl rfl rfl (by exact ps_move rfl rfl) ?_; refine ok_p rfl rfl rfl (by exact ps_assign rfl rfl) ?_; refine ok_nil ?_; refine ok_env [(4, _)] ⟨rfl, trivial⟩ ?_))
  · refine fun a w' he hw => ⟨⟨k + 1, M, last, B, d, by omega, ?_⟩, by simp only; omega, he.sub ⟨rfl, rfl, rfl, rfl, rfl, rfl, rfl, trivial⟩, hw.tl⟩
    rw [← HM.out, vis_step seq last (k := k) (by omega), seen_b, if_pos hc]
  · refine fun a w' he hw => ⟨⟨k + 1, M ++ [kvE (nth l k)], some (nth l k).key, (y41 0).A, (y41 0).c, by simp; omega, ?_⟩, by simp only; omega, he.sub ⟨rfl, by simp only [List.length_append]; rfl, rfl, rfl, rfl, rfl, rfl, trivial⟩, ?_⟩
    · rename_i hq _
      rw [← HM.out, vis_step seq last (k := k) (by omega), seen_b, if_neg (by rw [hq]; exact Bool.false_ne_true), if_neg (by rw [hd]; exact Bool.false_ne_true), List.append_assoc]; rfl
    · simp only [List.length_append]
      exact hw.tl.tl
  · refine fun a w' he hw => ⟨⟨k + 1, M, some (nth l k).key, B, d, by omega, ?_⟩, by simp only; omega, he.sub ⟨rfl, rfl, rfl, rfl, rfl, rfl, rfl, trivial⟩, hw.tl⟩
    rename_i hq _
    rw [← HM.out, vis_step seq last (k := k) (by omega), seen_b, if_neg (by rw [hq]; exact Bool.false_ne_true), if_pos hd]
  · have e : M = fVis l seq := by rw [← HM.out, List.drop_of_length_le (by omega)]; simp [vis]
    rw [← e]
    exact ok_endL (vs := [_]) rfl ⟨rfl, trivial⟩ (fun w' hw => ⟨yl [⟨B, d, w', 0⟩] ⟨B, d, w', 0⟩, rfl, trivial, hw.below, NewOk.of (hw.sel [0] (by decide) rfl (G' := []) (fun _ h => by cases h))⟩)
theorem offR_top {α : Type} (cnt : α → Nat) : ∀ (x : List α) (k : Nat), offR cnt x k ≤ offR cnt x x.length
  | [], k => by simp [offR]
  | a :: x, 0 => by simp [offR]
  | a :: x, k + 1 => by
    have := offR_top cnt x k
    unfold offR at this ⊢
    rw [List.take_succ_cons, List.length_cons, List.take_succ_cons, List.map_cons, List.map_cons, List.sum_cons, List.sum_cons]
    omega
theorem wok_off {x : DWalk} (h : fWalkOk x = true) (k : Nat) : offR List.length x.R k ≤ 400 := by
  have h1 := offR_top List.length x.R k
  unfold fWalkOk at h
  simp only [Bool.and_eq_true, decide_eq_true_eq] at h
  have h2 : offE x.R x.R.length = offR List.length x.R x.R.length := rfl
  omega
theorem i_merged_u (x : DWalk) (y : Ys) (w : World) (h : Walk_rd w x y) (hs : Walk_sm x) (hk : fWalkOk x = true) :
    Calls Try.prog 166 #[.slice (y 0).A x.R.length (y 0).c] w fun e w' => ∃ y : Ys, e = .returned (.slice (y 0).A (mergeS x.R).length (mergeS x.R).length) ∧ True ∧ Below w.heap.size w w' ∧ NewOk w.heap.size [.row 71 4 (y 0).A (mergeS x.R).length (y 0).c (fl (mergeS x.R))] [] w' := by
  have := merged_c (y 0).A (y 0).c (EntSS_loc x.R y) w h (by rw [locs_len]; have := hs.1.1; omega) (fun k => by rw [dats_locs]; have := wok_off hk k; omega) (by rw [dats_locs]; exact ok_rows hk)
  rw [locs_len, dats_locs] at this
  exact this
theorem i_copy_u (x : DWalk) (y : Ys) (w : World) (h : Walk_rd w x y) (hs : Walk_sm x) :
    Calls Try.prog 100 #[Walk_val x y] w fun e w' => ∃ y : Ys, e = .returned (Walk_val x y) ∧ True ∧ Below w.heap.size w w' ∧ NewOk w.heap.size (Walk_obj x y) [] w' := by
  have hl := EntSS_sm_lim hs.1
  have := i_copyWalk_c (y 0).A (y 0).c (EntSS_loc x.R y) x.seq x.key x.on w h (by rw [locs_len]; exact hl.1) (by rw [dats_locs]; exact hl.2)
  rw [locs_len, dats_locs] at this; exact this
theorem map_le {x : DWalk} (hk : fWalkOk x = true) : (mergeS x.R).length ≤ 400 ∧ (mapW x).length ≤ 400 := by
  have h1 := merge_len x.R []
  have h2 := catEnt_len x.R x.R.length
  have h3 := wok_off hk x.R.length
  rw [List.take_length] at h2
  have h4 := map_len x hk
  simp only [List.length_nil] at h1
  have h5 : (mergeS x.R).length = (x.R.foldl mrg []).length := rfl
  omega
@[reducible] def KV_val (x : KV) : Value := .agg (Dat.cells x).toArray
theorem stand_yes {x : DWalk} {m : List KV} {i : Int} (h : 0 ≤ i ∧ i < m.length) : standAt x m i = ({ x with key := (nth m i.toNat).key, on := true }, nth m i.toNat, true) := by unfold standAt; rw [if_pos h]
theorem stand_no {x : DWalk} {m : List KV} {i : Int} (h : ¬ (0 ≤ i ∧ i < m.length)) : standAt x m i = ({ x with key := ⟨#[]⟩, on := false }, noKV, false) := by unfold standAt; rw [if_neg h]
theorem walkTo_c (x : DWalk) (y : Ys) (f : FuncId) [hF : FN Try.prog f] (cs : List Value) (at_ : Int) (w : World) (h : Walk_rd w x y) (hs : Walk_sm x) (hk : fWalkOk x = true) (ha : -9223372036854775808 ≤ at_ ∧ at_ ≤ 9223372036854775807)
    (hf : ∀ (A : Option Addr) (c : Nat) (w' : World), Keeps w w' → Rd w' A (fl (mapW x)) → Calls Try.prog f (Value.slice A (mapW x).length c :: cs).toArray w' (fun e w'' => e = .returned (.int .i64 at_) ∧ Below w'.heap.size w' w'')) :
    Calls Try.prog 105 #[Walk_val x y, .func (.func f) #[] cs.toArray] w fun e w' => ∃ y : Ys, e = .returned (.tuple #[Walk_val (standAt x (mapW x) at_).1 y, KV_val (standAt x (mapW x) at_).2.1, .bool (standAt x (mapW x) at_).2.2]) ∧ True ∧ Below w.heap.size w w' ∧ NewOk w.heap.size (Walk_obj (standAt x (mapW x) at_).1 y) [] w' := by
  obtain ⟨m1, m2⟩ := map_le hk
  have m3 : (fVis (mergeS x.R) x.seq).length ≤ 400 := m2
  clear m2
  have H := Lib.hid h; clear h
  have HS := Lib.hid hs; clear hs
  have HK := Lib.hid hk; clear hk
  have HF := Lib.hid hf; clear hf
  refine ok_enter 43 Try.func105 rfl rfl rfl ?_
  repeat' (first
    | refine ok_seq ?_
    | refine ok_then ?_
    | refine ok_then_ret ?_
    | (refine ok_cond rfl (fun hc => ?_) (fun hc => ?_) <;> (have hd := hc; (try simp only [decide_eq_true_eq, decide_eq_false_iff_not, Bool.or_eq_true, Bool.or_eq_false_iff, Bool.and_eq_true, Bool.and_eq_false_iff, Bool.not_eq_true', Bool.not_eq_false', bne_iff_ne, beq_iff_eq, bne_eq_false_iff_eq, beq_eq_false_iff_ne, ne_eq, Bool.not_true, Bool.not_false, Bool.false_eq_true, Bool.true_eq_false, inB_true, inB_false] at hd)))
    | refine ok_ret ?_
    | refine ok_skip ?_
    | (refine ok_region (i := 0) ?_; refine ok_m rfl rfl rfl (by exact ms_box rfl rfl rfl) ?_; rintro y2 hy2; refine ok_m rfl rfl rfl (by exact ms_alloc rfl) ?_; rintro y4 hy4; refine ok_m rfl rfl rfl (by exact ms_alloc rfl) ?_; rintro y5 hy5; refine ok_p rfl rfl rfl (by exact ps_assign rfl rfl) ?_; refine ok_nil ?_; refine ok_env [(1, _), (2, _), (4, _), (5, _)] ⟨rfl, rfl, rfl, rfl, trivial⟩ ?_)
    | (refine ok_draw (id := 1) 7 rfl (by kernel_rfl) (by kernel_rfl) rfl (by repeat (first | exact pq_body | refine pq_then ?_ | refine pq_in ?_)) [0, 1, 2, 3, 4, 5, 6, 7, 8, 9, 10, 11, 12, 13, 14, 15, 16, 17, 18, 19, 20, 21, 22, 23] (by decide) rfl ?_; refine okT_take (i := 0) rfl (by kernel_rfl) rfl rfl rfl (by exact ps_field rfl rfl (by exact isw_ga _)) ?_; refine okT_take (i := 1) rfl (by kernel_rfl) rfl rfl rfl (by exact ps_load rfl rfl (by exact Rds.cell (rds_box 2 rfl) rfl)) ?_; refine okT_take (i := 3) rfl (by kernel_rfl) rfl rfl rfl (by exact ps_field rfl rfl (by exact isw_ga _)) ?_; refine okT_take (i := 4) rfl (by kernel_rfl) rfl rfl rfl (by exact ps_load rfl rfl (by exact Rds.cell (rds_box 2 rfl) rfl)) ?_; refine okT_one (i := 2) rfl rfl (by kernel_rfl) rfl rfl rfl (by exact ms_c1 rfl rfl (fun _ _ w hw => i_merged_u x y w (Walk_rf H.out (by exact List.mem_cons_self) hw) HS.out HK.out)) (fun y w _ h => by exact h.tl) ?_; rintro y12 hy12; refine okT_one (i := 5) rfl rfl (by kernel_rfl) rfl rfl rfl (by exact ms_c2 rfl rfl rfl (fun _ _ w hw => visible_c (y12 0).A _ (mergeS x.R) x.seq w (rds_row 0 rfl _ _ w hw) (by omega))) (fun y w _ h => by exact h.tl.tl) ?_; rintro y15 hy15; refine okT_take (i := 6) rfl (by kernel_rfl) rfl rfl rfl (by exact ps_assign rfl rfl) ?_; refine okT_done (by kernel_rfl) ?_; refine ok_nil ?_; refine ok_env [(1, _), (2, _), (4, _), (5, _), (7, _)] ⟨rfl, rfl, rfl, rfl, rfl, trivial⟩ ?_)
    | (refine ok_region (i := 2) ?_; refine ok_p rfl rfl rfl (by exact ps_move rfl rfl) ?_; refine ok_p rfl rfl rfl (by exact ps_move rfl rfl) ?_; refine ok_m rfl rfl rfl (by exact ms_k1 rfl rfl rfl (fun _ _ w' hw => HF.out (y15 0).A (y15 0).c w' (hw.keeps (by exact List.mem_cons_self)) (rds_row 0 rfl _ _ w' hw))) ?_; rintro y18 hy18; refine ok_p rfl rfl rfl (by exact ps_assign rfl rfl) ?_; refine ok_nil ?_; refine ok_env [(2, _), (4, _), (5, _), (7, _), (8, _)] ⟨rfl, rfl, rfl, rfl, rfl, trivial⟩ ?_)
    | (refine ok_region (i := 3) ?_; refine ok_p rfl rfl rfl (by exact ps_loads rfl rfl (by exact rds_box 4 rfl) rfl rfl (by decide)) ?_; refine ok_m rfl rfl rfl (by exact ms_c1 rfl rfl (fun _ _ w hw => i_copy_u x y w (Walk_rf H.out (by exact List.mem_cons_self) hw) HS.out)) ?_; rintro y20 hy20; refine ok_m rfl rfl rfl (by exact ms_alloc rfl) ?_; rintro y9 hy9; refine ok_m_ rfl rfl (by exact ms_store 0 rfl rfl rfl rfl rfl rfl rfl rfl) ?_; rintro y_ hy_; refine ok_nil ?_; refine ok_env [(4, _), (5, _), (7, _), (8, _), (9, _)] ⟨rfl, rfl, rfl, rfl, rfl, trivial⟩ ?_)
    | (refine ok_region (i := 4) ?_; refine ok_p rfl rfl rfl (by exact ps_move rfl rfl) ?_; refine ok_p rfl rfl rfl (by exact ps_move rfl rfl) ?_; refine ok_p rfl rfl rfl (by exact ps_len rfl rfl) ?_; refine ok_p rfl rfl rfl (by exact ps_sub rfl rfl rfl (by omega)) ?_; refine ok_m rfl rfl rfl (by exact ms_s3 rfl rfl rfl rfl (fun _ _ w hw => xi_in at_ 0 _ w)) ?_; rintro y25 hy25; refine ok_p rfl rfl rfl (by exact ps_not rfl rfl) ?_; refine ok_nil ?_; refine ok_env [(4, _), (5, _), (7, _), (8, _), (9, _), (26, _)] ⟨rfl, rfl, rfl, rfl, rfl, rfl, trivial⟩ ?_)
    | (refine ok_region (i := 5) ?_; refine ok_p rfl rfl rfl (by exact ps_field rfl rfl (by exact isw_ga _)) ?_; refine ok_m_ rfl rfl (by exact ms_store 0 rfl rfl rfl rfl rfl rfl rfl rfl) ?_; rintro y_ hy_; refine ok_p rfl rfl rfl (by exact ps_field rfl rfl (by exact isw_ga _)) ?_; refine ok_m_ rfl rfl (by exact ms_store 0 rfl rfl rfl rfl rfl rfl rfl rfl) ?_; rintro y_ hy_; refine ok_nil ?_; refine ok_env [(4, _), (5, _), (9, _)] ⟨rfl, rfl, rfl, trivial⟩ ?_)
    | (refine ok_region (i := 6) ?_; refine ok_p rfl rfl rfl (by exact ps_loads rfl rfl (by exact rds_box 0 rfl) rfl rfl (by decide)) ?_; refine ok_p rfl rfl rfl (by exact ps_bld rfl parts_nil rfl) ?_; refine ok_m_ rfl rfl (by exact ms_store 6 rfl rfl rfl rfl rfl rfl rfl rfl) ?_; rintro y_ hy_; refine ok_m_ rfl rfl (by exact ms_store 5 rfl rfl rfl rfl rfl rfl rfl rfl) ?_; rintro y_ hy_; refine ok_p rfl rfl rfl (by exact ps_assign rfl rfl) ?_; refine ok_nil ?_; refine ok_env [(4, _), (5, _), (6, _)] ⟨rfl, rfl, rfl, trivial⟩ ?_)
    | (refine ok_region (i := 7) ?_; refine ok_p rfl rfl rfl (by exact ps_move rfl rfl) ?_; refine ok_p rfl rfl rfl (by exact ps_move rfl rfl) ?_; refine ok_p rfl rfl rfl (by exact ps_index rfl rfl rfl (by omega) (isw_row 3 rfl (by omega))) ?_; refine ok_p rfl rfl rfl (by exact ps_field rfl rfl (by exact isw_row 3 rfl (by omega))) ?_; refine ok_p rfl rfl rfl (by exact ps_load rfl rfl (Rds.cell (rds_row 3 rfl) (fl_at0 (fVis (mergeS x.R) x.seq) at_.toNat (by omega) (by decide)))) ?_; refine ok_p rfl rfl rfl (by exact ps_field rfl rfl (by exact isw_ga _)) ?_; refine ok_m_ rfl rfl (by exact ms_store 0 rfl rfl rfl rfl rfl rfl rfl rfl) ?_; rintro y_ hy_; refine ok_p rfl rfl rfl (by exact ps_field rfl rfl (by exact isw_ga _)) ?_; refine ok_m_ rfl rfl (by exact ms_store 0 rfl rfl rfl rfl rfl rfl rfl rfl) ?_; rintro y_ hy_; refine ok_nil ?_; refine ok_env [(4, _), (5, _), (7, _), (8, _), (9, _)] ⟨rfl, rfl, rfl, rfl, rfl, trivial⟩ ?_)
    | (refine ok_draw (id := 8) 6 rfl (by kernel_rfl) (by kernel_rfl) rfl (by repeat (first | exact pq_body | refine pq_then ?_ | refine pq_in ?_)) [0, 1, 2, 3, 4, 7] (by decide) rfl ?_; refine okT_take (i := 0) rfl (by kernel_rfl) rfl rfl rfl (by exact ps_loads rfl rfl (by exact rds_box 0 rfl) rfl rfl (by decide)) ?_; refine okT_take (i := 1) rfl (by kernel_rfl) rfl rfl rfl (by exact ps_move rfl rfl) ?_; refine okT_take (i := 2) rfl (by kernel_rfl) rfl rfl rfl (by exact ps_move rfl rfl) ?_; refine okT_take (i := 3) rfl (by kernel_rfl) rfl rfl rfl (by exact ps_index rfl rfl rfl (by omega) (isw_row 3 rfl (by omega))) ?_; refine okT_take (i := 4) rfl (by kernel_rfl) rfl rfl rfl (by exact ps_loadsF (α := KV) (l := fVis (mergeS x.R) x.seq) (i := at_.toNat) rfl rfl (rds_row 3 rfl) rfl rfl (by omega) rfl) ?_; refine okT_one0 (i := 5) rfl rfl (by kernel_rfl) rfl rfl (by exact ms_store 6 rfl rfl rfl rfl rfl rfl rfl rfl) (fun y w _ h => by exact h.sel [0, 1, 2, 3, 4, 7] (by decide) rfl (fun _ h => h)) ?_; rintro y_ hy_; refine okT_done (by kernel_rfl) ?_; refine ok_m_ rfl rfl (by exact ms_store 5 rfl rfl rfl rfl rfl rfl rfl rfl) ?_; rintro y_ hy_; refine ok_p rfl rfl rfl (by exact ps_assign rfl rfl) ?_; refine ok_nil ?_; refine ok_env [(4, _), (5, _), (6, _)] ⟨rfl, rfl, rfl, trivial⟩ ?_))
  · rw [show standAt x (mapW x) at_ = _ from stand_no (by show ¬ (0 ≤ at_ ∧ at_ < ((fVis (mergeS x.R) x.seq).length : Int)); omega)]
    exact ok_endL (vs := [_, _, _]) rfl ⟨⟨_, 6, _, _, _, rfl, rfl, inferInstance, rfl, rfl⟩, ⟨_, 5, _, _, _, rfl, rfl, inferInstance, rfl, rfl⟩, rfl, trivial⟩ (fun w' hw => ⟨y20, rfl, trivial, hw.below, NewOk.of (hw.sel [1, 2] (by decide) rfl (G' := []) (fun _ h => by cases h))⟩)
  · rw [show standAt x (mapW x) at_ = _ from stand_yes (by show (0 ≤ at_ ∧ at_ < ((fVis (mergeS x.R) x.seq).length : Int)); omega)]
    exact ok_endL (vs := [_, _, _]) rfl ⟨⟨_, 6, _, _, _, rfl, rfl, inferInstance, rfl, rfl⟩, ⟨_, 5, _, _, _, rfl, rfl, inferInstance, rfl, rfl⟩, rfl, trivial⟩ (fun w' hw => ⟨y20, rfl, trivial, hw.below, NewOk.of (hw.sel [1, 2] (by decide) rfl (G' := []) (fun _ h => by cases h))⟩)
theorem lbK_len (m : List KV) (k : ByteArray) : lbK m k ≤ m.length := (List.takeWhile_sublist _).length_le
theorem nextF_c (g : Nat) (s0 : Value) (sq : Int) (key : ByteArray) (on : Bool) (R : List (List Ent)) (A : Option Addr) (c : Nat) (m : List KV) (w : World) (h1 : Rd w A (fl m)) (h2 : Rd w (ga g) [s0, .int .i64 sq, .string key, .bool on]) (hm : sortedK m) (hl : m.length ≤ 4194304) :
    Calls Try.prog 106 #[.slice A m.length c, pt (ga g) 0] w fun e w' => e = .returned (.int .i64 (nextI ⟨R, sq, key, on⟩ m)) ∧ Below w.heap.size w w' := by
  have hb := lbK_len m key
  refine ok_enter 20 Try.func106 rfl rfl rfl ?_
  repeat' (first
    | refine ok_seq ?_
    | refine ok_then ?_
    | refine ok_then_ret ?_
    | (refine ok_cond rfl (fun hc => ?_) (fun hc => ?_) <;> (have hd := hc; (try simp only [decide_eq_true_eq, decide_eq_false_iff_not, Bool.or_eq_true, Bool.or_eq_false_iff, Bool.and_eq_true, Bool.and_eq_false_iff, Bool.not_eq_true', Bool.not_eq_false', bne_iff_ne, beq_iff_eq, bne_eq_false_iff_eq, beq_eq_false_iff_ne, ne_eq, Bool.not_true, Bool.not_false, Bool.false_eq_true, Bool.true_eq_false, inB_true, inB_false] at hd)))
    | refine ok_ret ?_
    | refine ok_skip ?_
    | (refine ok_region (i := 0) ?_; refine ok_p rfl rfl rfl (by exact ps_assign rfl rfl) ?_; refine ok_nil ?_; refine ok_env [(0, _), (1, _)] ⟨rfl, rfl, trivial⟩ ?_)
    | (refine ok_region (i := 1) ?_; refine ok_p rfl rfl rfl (by exact ps_field rfl rfl (by exact isw_ga _)) ?_; refine ok_p rfl rfl rfl (by exact ps_load rfl rfl (Rds.cell (rds_rf h2 (by exact List.mem_cons_self)) rfl)) ?_; refine ok_p rfl rfl rfl (by exact ps_not rfl rfl) ?_; refine ok_nil ?_; refine ok_env [(0, _), (1, _), (8, _)] ⟨rfl, rfl, rfl, trivial⟩ ?_)
    | (refine ok_region (i := 2) ?_; refine ok_p rfl rfl rfl (by exact ps_assign rfl rfl) ?_; refine ok_nil ?_; refine ok_env [(3, _)] ⟨rfl, trivial⟩ ?_)
    | (refine ok_region (i := 3) ?_; refine ok_p rfl rfl rfl (by exact ps_move rfl rfl) ?_; refine ok_p rfl rfl rfl (by exact ps_field rfl rfl (by exact isw_ga _)) ?_; refine ok_p rfl rfl rfl (by exact ps_load rfl rfl (Rds.cell (rds_rf h2 (by exact List.mem_cons_self)) rfl)) ?_; refine ok_m rfl rfl rfl (by exact ms_s2 rfl rfl rfl (fun _ _ w hw => findKey_c A c m key w (rds_rf h1 (by exact List.mem_cons_self) _ _ w hw) hl hm)) ?_; rintro y13 hy13; refine ok_p rfl rfl rfl (by exact ps_move rfl rfl) ?_; refine ok_p rfl rfl rfl (by exact ps_extract rfl rfl rfl) ?_; refine ok_p rfl rfl rfl (by exact ps_extract rfl rfl rfl) ?_; refine ok_p rfl rfl rfl (by exact ps_assign rfl rfl) ?_; refine ok_p rfl rfl rfl (by exact ps_assign rfl rfl) ?_; refine ok_nil ?_; refine ok_env [(4, _), (5, _)] ⟨rfl, rfl, trivial⟩ ?_)
    | (refine ok_region (i := 4) ?_; refine ok_p rfl rfl rfl (by exact ps_move rfl rfl) ?_; refine ok_nil ?_; refine ok_env [(4, _), (16, _)] ⟨rfl, rfl, trivial⟩ ?_)
    | (refine ok_region (i := 5) ?_; refine ok_p rfl rfl rfl (by exact ps_move rfl rfl) ?_; refine ok_p rfl rfl rfl (by exact ps_add rfl rfl rfl (by omega)) ?_; refine ok_p rfl rfl rfl (by exact ps_assign rfl rfl) ?_; refine ok_nil ?_; refine ok_env [(4, _)] ⟨rfl, trivial⟩ ?_)
    | (refine ok_region (i := 6) ?_; refine ok_p rfl rfl rfl (by exact ps_move rfl rfl) ?_; refine ok_p rfl rfl rfl (by exact ps_assign rfl rfl) ?_; refine ok_nil ?_; refine ok_env [(3, _)] ⟨rfl, trivial⟩ ?_))
  · have e : nextI ⟨R, sq, key, on⟩ m = 0 := by unfold nextI; simp only [hd, Bool.false_eq_true, if_false]
    rw [e]; exact ok_endL (vs := [_]) rfl ⟨rfl, trivial⟩ (fun w' hw => ⟨rfl, hw.below⟩)
  all_goals
    rename_i hon _
    try simp only [Bool.not_eq_false'] at hon
  · have e : nextI ⟨R, sq, key, on⟩ m = (lbK m key : Int) + 1 := by unfold nextI; simp [hon, hc]
    rw [e]; exact ok_endL (vs := [_]) rfl ⟨rfl, trivial⟩ (fun w' hw => ⟨rfl, hw.below⟩)
  · have e : nextI ⟨R, sq, key, on⟩ m = (lbK m key : Int) := by unfold nextI; simp [hon, hc]
    rw [e]; exact ok_endL (vs := [_]) rfl ⟨rfl, trivial⟩ (fun w' hw => ⟨rfl, hw.below⟩)
theorem prevF_c (g : Nat) (s0 : Value) (sq : Int) (key : ByteArray) (on : Bool) (R : List (List Ent)) (A : Option Addr) (c : Nat) (m : List KV) (w : World) (h1 : Rd w A (fl m)) (h2 : Rd w (ga g) [s0, .int .i64 sq, .string key, .bool on]) (hm : sortedK m) (hl : m.length ≤ 4194304) :
    Calls Try.prog 108 #[.slice A m.length c, pt (ga g) 0] w fun e w' => e = .returned (.int .i64 (prevI ⟨R, sq, key, on⟩ m)) ∧ Below w.heap.size w w' := by
  have hb := lbK_len m key
  refine ok_enter 21 Try.func108 rfl rfl rfl ?_
  repeat' (first
    | refine ok_seq ?_
    | refine ok_then ?_
    | refine ok_then_ret ?_
    | (refine ok_cond rfl (fun hc => ?_) (fun hc => ?_) <;> (have hd := hc; (try simp only [decide_eq_true_eq, decide_eq_false_iff_not, Bool.or_eq_true, Bool.or_eq_false_iff, Bool.and_eq_true, Bool.and_eq_false_iff, Bool.not_eq_true', Bool.not_eq_false', bne_iff_ne, beq_iff_eq, bne_eq_false_iff_eq, beq_eq_false_iff_ne, ne_eq, Bool.not_true, Bool.not_false, Bool.false_eq_true, Bool.true_eq_false, inB_true, inB_false] at hd)))
    | refine ok_ret ?_
    | refine ok_skip ?_
    | (refine ok_region (i := 0) ?_; refine ok_p rfl rfl rfl (by exact ps_assign rfl rfl) ?_; refine ok_nil ?_; refine ok_env [(0, _), (1, _)] ⟨rfl, rfl, trivial⟩ ?_)
    | (refine ok_region (i := 1) ?_; refine ok_p rfl rfl rfl (by exact ps_field rfl rfl (by exact isw_ga _)) ?_; refine ok_p rfl rfl rfl (by exact ps_load rfl rfl (Rds.cell (rds_rf h2 (by exact List.mem_cons_self)) rfl)) ?_; refine ok_p rfl rfl rfl (by exact ps_not rfl rfl) ?_; refine ok_nil ?_; refine ok_env [(0, _), (1, _), (8, _)] ⟨rfl, rfl, rfl, trivial⟩ ?_)
    | (refine ok_region (i := 2) ?_; refine ok_p rfl rfl rfl (by exact ps_move rfl rfl) ?_; refine ok_p rfl rfl rfl (by exact ps_len rfl rfl) ?_; refine ok_p rfl rfl rfl (by exact ps_sub rfl rfl rfl (by omega)) ?_; refine ok_p rfl rfl rfl (by exact ps_assign rfl rfl) ?_; refine ok_nil ?_; refine ok_env [(3, _)] ⟨rfl, trivial⟩ ?_)
    | (refine ok_region (i := 3) ?_; refine ok_p rfl rfl rfl (by exact ps_move rfl rfl) ?_; refine ok_p rfl rfl rfl (by exact ps_field rfl rfl (by exact isw_ga _)) ?_; refine ok_p rfl rfl rfl (by exact ps_load rfl rfl (Rds.cell (rds_rf h2 (by exact List.mem_cons_self)) rfl)) ?_; refine ok_m rfl rfl rfl (by exact ms_s2 rfl rfl rfl (fun _ _ w hw => findKey_c A c m key w (rds_rf h1 (by exact List.mem_cons_self) _ _ w hw) hl hm)) ?_; rintro y16 hy16; refine ok_p rfl rfl rfl (by exact ps_move rfl rfl) ?_; refine ok_p rfl rfl rfl (by exact ps_extract rfl rfl rfl) ?_; refine ok_p rfl rfl rfl (by exact ps_extract rfl rfl rfl) ?_; refine ok_p rfl rfl rfl (by exact ps_assign rfl rfl) ?_; refine ok_p rfl rfl rfl (by exact ps_assign rfl rfl) ?_; refine ok_nil ?_; refine ok_env [(4, _)] ⟨rfl, trivial⟩ ?_)
    | (refine ok_region (i := 4) ?_; refine ok_p rfl rfl rfl (by exact ps_move rfl rfl) ?_; refine ok_p rfl rfl rfl (by exact ps_sub rfl rfl rfl (by omega)) ?_; refine ok_p rfl rfl rfl (by exact ps_assign rfl rfl) ?_; refine ok_nil ?_; refine ok_env [(3, _)] ⟨rfl, trivial⟩ ?_))
  · have e : prevI ⟨R, sq, key, on⟩ m = (m.length : Int) - 1 := by unfold prevI; simp only [hd, Bool.false_eq_true, if_false]
    rw [e]; exact ok_endL (vs := [_]) rfl ⟨rfl, trivial⟩ (fun w' hw => ⟨rfl, hw.below⟩)
  · have e : prevI ⟨R, sq, key, on⟩ m = (lbK m key : Int) - 1 := by unfold prevI; simp only [hd, if_true]
    rw [e]; exact ok_endL (vs := [_]) rfl ⟨rfl, trivial⟩ (fun w' hw => ⟨rfl, hw.below⟩)
theorem seekF_c (g : Nat) (key : ByteArray) (A : Option Addr) (c : Nat) (m : List KV) (w : World) (h1 : Rd w A (fl m)) (h2 : Rd w (ga g) [.string key]) (hm : sortedK m) (hl : m.length ≤ 4194304) :
    Calls Try.prog 110 #[.slice A m.length c, pt (ga g) 0] w fun e w' => e = .returned (.int .i64 (lbK m key : Int)) ∧ Below w.heap.size w w' := by
  have hb := lbK_len m key
  refine ok_enter 13 Try.func110 rfl rfl rfl ?_
  repeat' (first
    | refine ok_seq ?_
    | refine ok_then ?_
    | refine ok_ret ?_
    | (refine ok_region (i := 0) ?_; refine ok_p rfl rfl rfl (by exact ps_assign rfl rfl) ?_; refine ok_nil ?_; refine ok_env [(0, _), (1, _)] ⟨rfl, rfl, trivial⟩ ?_)
    | (refine ok_region (i := 1) ?_; refine ok_p rfl rfl rfl (by exact ps_move rfl rfl) ?_; refine ok_p rfl rfl rfl (by exact ps_load rfl rfl (Rds.cell (rds_rf h2 (by exact List.mem_cons_self)) rfl)) ?_; refine ok_m rfl rfl rfl (by exact ms_s2 rfl rfl rfl (fun _ _ w hw => findKey_c A c m key w (rds_rf h1 (by exact List.mem_cons_self) _ _ w hw) hl hm)) ?_; rintro y9 hy9; refine ok_p rfl rfl rfl (by exact ps_move rfl rfl) ?_; refine ok_p rfl rfl rfl (by exact ps_extract rfl rfl rfl) ?_; refine ok_p rfl rfl rfl (by exact ps_extract rfl rfl rfl) ?_; refine ok_p rfl rfl rfl (by exact ps_assign rfl rfl) ?_; refine ok_p rfl rfl rfl (by exact ps_assign rfl rfl) ?_; refine ok_nil ?_; refine ok_env [(4, _)] ⟨rfl, trivial⟩ ?_)
    | (refine ok_region (i := 2) ?_; refine ok_p rfl rfl rfl (by exact ps_move rfl rfl) ?_; refine ok_p rfl rfl rfl (by exact ps_assign rfl rfl) ?_; refine ok_nil ?_; refine ok_env [(3, _)] ⟨rfl, trivial⟩ ?_))
  exact ok_endL (vs := [_]) rfl ⟨rfl, trivial⟩ (fun w' hw => ⟨rfl, hw.below⟩)
theorem i_WalkNext (x : DWalk) (y : Ys) (w : World) (h : Walk_rd w x y) (hs : Walk_sm x) :
    Calls Try.prog 38 #[Walk_val x y] w fun e w' => ∃ y : Ys, e = .returned (.tuple #[Walk_val (fWalkNext x).1 y, KV_val (fWalkNext x).2.1, .bool (fWalkNext x).2.2]) ∧ True ∧ Below w.heap.size w w' ∧ NewOk w.heap.size (Walk_obj (fWalkNext x).1 y) [] w' := by
  have hm0 : fWalkOk x = true → (sortedK (mapW x) ∧ (mapW x).length ≤ 4194304) ∧ -9223372036854775808 ≤ nextI x (mapW x) ∧ nextI x (mapW x) ≤ 9223372036854775807 := fun hk => by
    have h1 := (map_le hk).2
    have h2 := lbK_len (mapW x) x.key
    refine ⟨⟨srtK_iff.2 (map_srt hk), by omega⟩, ?_⟩
    unfold nextI; split <;> (try split) <;> omega
  have HM := Lib.hid hm0; clear hm0
  have H := Lib.hid h; clear h
  have HS := Lib.hid hs; clear hs
  refine ok_enter 16 Try.func38 rfl rfl rfl ?_
  repeat' (first
    | refine ok_seq ?_
    | refine ok_then ?_
    | refine ok_then_ret ?_
    | (refine ok_cond rfl (fun hc => ?_) (fun hc => ?_) <;> (have hd := hc; (try simp only [decide_eq_true_eq, decide_eq_false_iff_not, Bool.or_eq_true, Bool.or_eq_false_iff, Bool.and_eq_true, Bool.and_eq_false_iff, Bool.not_eq_true', Bool.not_eq_false', bne_iff_ne, beq_iff_eq, bne_eq_false_iff_eq, beq_eq_false_iff_ne, ne_eq, Bool.not_true, Bool.not_false, Bool.false_eq_true, Bool.true_eq_false, inB_true, inB_false] at hd)))
    | refine ok_ret ?_
    | refine ok_skip ?_
    | (refine ok_region (i := 0) ?_; refine ok_m rfl rfl rfl (by exact ms_box rfl rfl rfl) ?_; rintro y1 hy1; refine ok_m rfl rfl rfl (by exact ms_alloc rfl) ?_; rintro y2 hy2; refine ok_m rfl rfl rfl (by exact ms_alloc rfl) ?_; rintro y3 hy3; refine ok_p rfl rfl rfl (by exact ps_assign rfl rfl) ?_; refine ok_nil ?_; refine ok_env [(1, _), (2, _), (3, _)] ⟨rfl, rfl, rfl, trivial⟩ ?_)
    | (refine ok_region (i := 1) ?_; refine ok_p rfl rfl rfl (by exact ps_loads rfl rfl (by exact rds_box 2 rfl) rfl rfl (by decide)) ?_; refine ok_m rfl rfl rfl (by exact ms_s1 rfl rfl (fun _ _ w hw => i_WalkOk x y w (Walk_rf H.out (by exact List.mem_cons_self) hw) HS.out)) ?_; rintro y6 hy6; refine ok_p rfl rfl rfl (by exact ps_not rfl rfl) ?_; refine ok_nil ?_; refine ok_env [(1, _), (2, _), (3, _), (7, _)] ⟨rfl, rfl, rfl, rfl, trivial⟩ ?_)
    | (refine ok_region (i := 2) ?_; refine ok_p rfl rfl rfl (by exact ps_bld rfl parts_nil rfl) ?_; refine ok_p rfl rfl rfl (by exact ps_bld rfl parts_nil rfl) ?_; refine ok_m_ rfl rfl (by exact ms_store 1 rfl rfl rfl rfl rfl rfl rfl rfl) ?_; rintro y_ hy_; refine ok_m_ rfl rfl (by exact ms_store 0 rfl rfl rfl rfl rfl rfl rfl rfl) ?_; rintro y_ hy_; refine ok_p rfl rfl rfl (by exact ps_assign rfl rfl) ?_; refine ok_nil ?_; refine ok_env [(2, _), (3, _), (4, _)] ⟨rfl, rfl, rfl, trivial⟩ ?_))
  · have e : fWalkNext x = (noW, noKV, false) := by unfold fWalkNext; rw [if_neg (by rw [hd]; exact Bool.false_ne_true)]
    rw [e]
    exact ok_endL (vs := [_, _, _]) rfl ⟨⟨_, 1, _, _, _, rfl, rfl, inferInstance, rfl, rfl⟩, ⟨_, 0, _, _, _, rfl, rfl, inferInstance, rfl, rfl⟩, rfl, trivial⟩ (fun w' hw => ⟨mkY none 0 w', rfl, trivial, hw.below, wkN_no hw⟩)
  have hk : fWalkOk x = true := hd
  obtain ⟨⟨q1, q2⟩, q3⟩ := HM.out hk
  have e : fWalkNext x = standAt x (mapW x) (nextI x (mapW x)) := by unfold fWalkNext; rw [if_pos hk]
  rw [e]
  repeat' (first
    | refine ok_then ?_
    | refine ok_ret ?_
    | (refine ok_region (i := 3) ?_; refine ok_p rfl rfl rfl (by exact ps_loads rfl rfl (by exact rds_box 2 rfl) rfl rfl (by decide)) ?_; refine ok_p rfl rfl rfl (by exact ps_mkf rfl rfl) ?_; refine ok_m rfl rfl rfl (by exact ms_c2 rfl rfl rfl (fun _ _ w hw => walkTo_c x y 106 [pt (ga (y1 0).c) 0] (nextI x (mapW x)) w (Walk_rf H.out (by exact List.mem_cons_self) hw) HS.out hk q3 (fun A c w' k1 k2 => nextF_c (y1 0).c _ x.seq x.key x.on x.R A c (mapW x) w' k2 ((rds_box 2 rfl _ _ w hw).keeps k1) q1 q2))) ?_; rintro y12 hy12; refine ok_p rfl rfl rfl (by exact ps_extract rfl rfl rfl) ?_; refine ok_p rfl rfl rfl (by exact ps_extract rfl rfl rfl) ?_; refine ok_p rfl rfl rfl (by exact ps_extract rfl rfl rfl) ?_; refine ok_m_ rfl rfl (by exact ms_store 3 rfl rfl rfl rfl rfl rfl rfl rfl) ?_; rintro y_ hy_; refine ok_m_ rfl rfl (by exact ms_store 2 rfl rfl rfl rfl rfl rfl rfl rfl) ?_; rintro y_ hy_; refine ok_p rfl rfl rfl (by exact ps_assign rfl rfl) ?_; refine ok_nil ?_; refine ok_env [(2, _), (3, _), (4, _)] ⟨rfl, rfl, rfl, trivial⟩ ?_))
  exact ok_endL (vs := [_, _, _]) rfl ⟨⟨_, 3, _, _, _, rfl, rfl, inferInstance, rfl, rfl⟩, ⟨_, 2, _, _, _, rfl, rfl, inferInstance, rfl, rfl⟩, rfl, trivial⟩ (fun w' hw => ⟨y12, rfl, trivial, hw.below, NewOk.of (hw.sel [0, 1] (by decide) rfl (G' := []) (fun _ h => by cases h))⟩)
theorem i_WalkPrev (x : DWalk) (y : Ys) (w : World) (h : Walk_rd w x y) (hs : Walk_sm x) :
    Calls Try.prog 40 #[Walk_val x y] w fun e w' => ∃ y : Ys, e = .returned (.tuple #[Walk_val (fWalkPrev x).1 y, KV_val (fWalkPrev x).2.1, .bool (fWalkPrev x).2.2]) ∧ True ∧ Below w.heap.size w w' ∧ NewOk w.heap.size (Walk_obj (fWalkPrev x).1 y) [] w' := by
  have hm0 : fWalkOk x = true → (sortedK (mapW x) ∧ (mapW x).length ≤ 4194304) ∧ -9223372036854775808 ≤ prevI x (mapW x) ∧ prevI x (mapW x) ≤ 9223372036854775807 := fun hk => by
    have h1 := (map_le hk).2
    have h2 := lbK_len (mapW x) x.key
    refine ⟨⟨srtK_iff.2 (map_srt hk), by omega⟩, ?_⟩
    unfold prevI; split <;> omega
  have HM := Lib.hid hm0; clear hm0
  have H := Lib.hid h; clear h
  have HS := Lib.hid hs; clear hs
  refine ok_enter 16 Try.func40 rfl rfl rfl ?_
  repeat' (first
    | refine ok_seq ?_
    | refine ok_then ?_
    | refine ok_then_ret ?_
    | (refine ok_cond rfl (fun hc => ?_) (fun hc => ?_) <;> (have hd := hc; (try simp only [decide_eq_true_eq, decide_eq_false_iff_not, Bool.or_eq_true, Bool.or_eq_false_iff, Bool.and_eq_true, Bool.and_eq_false_iff, Bool.not_eq_true', Bool.not_eq_false', bne_iff_ne, beq_iff_eq, bne_eq_false_iff_eq, beq_eq_false_iff_ne, ne_eq, Bool.not_true, Bool.not_false, Bool.false_eq_true, Bool.true_eq_false, inB_true, inB_false] at hd)))
    | refine ok_ret ?_
    | refine ok_skip ?_
    | (refine ok_region (i := 0) ?_; refine ok_m rfl rfl rfl (by exact ms_box rfl rfl rfl) ?_; rintro y1 hy1; refine ok_m rfl rfl rfl (by exact ms_alloc rfl) ?_; rintro y2 hy2; refine ok_m rfl rfl rfl (by exact ms_alloc rfl) ?_; rintro y3 hy3; refine ok_p rfl rfl rfl (by exact ps_assign rfl rfl) ?_; refine ok_nil ?_; refine ok_env [(1, _), (2, _), (3, _)] ⟨rfl, rfl, rfl, trivial⟩ ?_)
    | (refine ok_region (i := 1) ?_; refine ok_p rfl rfl rfl (by exact ps_loads rfl rfl (by exact rds_box 2 rfl) rfl rfl (by decide)) ?_; refine ok_m rfl rfl rfl (by exact ms_s1 rfl rfl (fun _ _ w hw => i_WalkOk x y w (Walk_rf H.out (by exact List.mem_cons_self) hw) HS.out)) ?_; rintro y6 hy6; refine ok_p rfl rfl rfl (by exact ps_not rfl rfl) ?_; refine ok_nil ?_; refine ok_env [(1, _), (2, _), (3, _), (7, _)] ⟨rfl, rfl, rfl, rfl, trivial⟩ ?_)
    | (refine ok_region (i := 2) ?_; refine ok_p rfl rfl rfl (by exact ps_bld rfl parts_nil rfl) ?_; refine ok_p rfl rfl rfl (by exact ps_bld rfl parts_nil rfl) ?_; refine ok_m_ rfl rfl (by exact ms_store 1 rfl rfl rfl rfl rfl rfl rfl rfl) ?_; rintro y_ hy_; refine ok_m_ rfl rfl (by exact ms_store 0 rfl rfl rfl rfl rfl rfl rfl rfl) ?_; rintro y_ hy_; refine ok_p rfl rfl rfl (by exact ps_assign rfl rfl) ?_; refine ok_nil ?_; refine ok_env [(2, _), (3, _), (4, _)] ⟨rfl, rfl, rfl, trivial⟩ ?_))
  · have e : fWalkPrev x = (noW, noKV, false) := by unfold fWalkPrev; rw [if_neg (by rw [hd]; exact Bool.false_ne_true)]
    rw [e]
    exact ok_endL (vs := [_, _, _]) rfl ⟨⟨_, 1, _, _, _, rfl, rfl, inferInstance, rfl, rfl⟩, ⟨_, 0, _, _, _, rfl, rfl, inferInstance, rfl, rfl⟩, rfl, trivial⟩ (fun w' hw => ⟨mkY none 0 w', rfl, trivial, hw.below, wkN_no hw⟩)
  have hk : fWalkOk x = true := hd
  obtain ⟨⟨q1, q2⟩, q3⟩ := HM.out hk
  have e : fWalkPrev x = standAt x (mapW x) (prevI x (mapW x)) := by unfold fWalkPrev; rw [if_pos hk]
  rw [e]
  repeat' (first
    | refine ok_then ?_
    | refine ok_ret ?_
    | (refine ok_region (i := 3) ?_; refine ok_p rfl rfl rfl (by exact ps_loads rfl rfl (by exact rds_box 2 rfl) rfl rfl (by decide)) ?_; refine ok_p rfl rfl rfl (by exact ps_mkf rfl rfl) ?_; refine ok_m rfl rfl rfl (by exact ms_c2 rfl rfl rfl (fun _ _ w hw => walkTo_c x y 108 [pt (ga (y1 0).c) 0] (prevI x (mapW x)) w (Walk_rf H.out (by exact List.mem_cons_self) hw) HS.out hk q3 (fun A c w' k1 k2 => prevF_c (y1 0).c _ x.seq x.key x.on x.R A c (mapW x) w' k2 ((rds_box 2 rfl _ _ w hw).keeps k1) q1 q2))) ?_; rintro y12 hy12; refine ok_p rfl rfl rfl (by exact ps_extract rfl rfl rfl) ?_; refine ok_p rfl rfl rfl (by exact ps_extract rfl rfl rfl) ?_; refine ok_p rfl rfl rfl (by exact ps_extract rfl rfl rfl) ?_; refine ok_m_ rfl rfl (by exact ms_store 3 rfl rfl rfl rfl rfl rfl rfl rfl) ?_; rintro y_ hy_; refine ok_m_ rfl rfl (by exact ms_store 2 rfl rfl rfl rfl rfl rfl rfl rfl) ?_; rintro y_ hy_; refine ok_p rfl rfl rfl (by exact ps_assign rfl rfl) ?_; refine ok_nil ?_; refine ok_env [(2, _), (3, _), (4, _)] ⟨rfl, rfl, rfl, trivial⟩ ?_))
  exact ok_endL (vs := [_, _, _]) rfl ⟨⟨_, 3, _, _, _, rfl, rfl, inferInstance, rfl, rfl⟩, ⟨_, 2, _, _, _, rfl, rfl, inferInstance, rfl, rfl⟩, rfl, trivial⟩ (fun w' hw => ⟨y12, rfl, trivial, hw.below, NewOk.of (hw.sel [0, 1] (by decide) rfl (G' := []) (fun _ h => by cases h))⟩)
theorem i_WalkSeek (x : DWalk) (y : Ys) (key : ByteArray) (w : World) (h : Walk_rd w x y) (hs : Walk_sm x) (hz : key.size ≤ 1048576) :
    Calls Try.prog 42 #[Walk_val x y, .string key] w fun e w' => ∃ y : Ys, e = .returned (.tuple #[Walk_val (fWalkSeek x key).1 y, KV_val (fWalkSeek x key).2.1, .bool (fWalkSeek x key).2.2]) ∧ True ∧ Below w.heap.size w w' ∧ NewOk w.heap.size (Walk_obj (fWalkSeek x key).1 y) [] w' := by
  have hm0 : fWalkOk x = true → (sortedK (mapW x) ∧ (mapW x).length ≤ 4194304) ∧ -9223372036854775808 ≤ (lbK (mapW x) key : Int) ∧ (lbK (mapW x) key : Int) ≤ 9223372036854775807 := fun hk => by
    have h1 := (map_le hk).2
    have h2 := lbK_len (mapW x) key
    refine ⟨⟨srtK_iff.2 (map_srt hk), by omega⟩, ?_⟩
    omega
  have HM := Lib.hid hm0; clear hm0
  have H := Lib.hid h; clear h
  have HS := Lib.hid hs; clear hs
  refine ok_enter 18 Try.func42 rfl rfl rfl ?_
  repeat' (first
    | refine ok_seq ?_
    | refine ok_then ?_
    | refine ok_then_ret ?_
    | (refine ok_cond rfl (fun hc => ?_) (fun hc => ?_) <;> (have hd := hc; (try simp only [decide_eq_true_eq, decide_eq_false_iff_not, Bool.or_eq_true, Bool.or_eq_false_iff, Bool.and_eq_true, Bool.and_eq_false_iff, Bool.not_eq_true', Bool.not_eq_false', bne_iff_ne, beq_iff_eq, bne_eq_false_iff_eq, beq_eq_false_iff_ne, ne_eq, Bool.not_true, Bool.not_false, Bool.false_eq_true, Bool.true_eq_false, inB_true, inB_false] at hd)))
    | refine ok_ret ?_
    | refine ok_skip ?_
    | (refine ok_region (i := 0) ?_; refine ok_m rfl rfl rfl (by exact ms_box rfl rfl rfl) ?_; rintro y2 hy2; refine ok_m rfl rfl rfl (by exact ms_box rfl rfl rfl) ?_; rintro y3 hy3; refine ok_m rfl rfl rfl (by exact ms_alloc rfl) ?_; rintro y4 hy4; refine ok_m rfl rfl rfl (by exact ms_alloc rfl) ?_; rintro y5 hy5; refine ok_p rfl rfl rfl (by exact ps_assign rfl rfl) ?_; refine ok_nil ?_; refine ok_env [(2, _), (3, _), (4, _), (5, _)] ⟨rfl, rfl, rfl, rfl, trivial⟩ ?_)
    | (refine ok_region (i := 1) ?_; refine ok_p rfl rfl rfl (by exact ps_loads rfl rfl (by exact rds_box 3 rfl) rfl rfl (by decide)) ?_; refine ok_m rfl rfl rfl (by exact ms_s1 rfl rfl (fun _ _ w hw => i_WalkOk x y w (Walk_rf H.out (by exact List.mem_cons_self) hw) HS.out)) ?_; rintro y8 hy8; refine ok_p rfl rfl rfl (by exact ps_not rfl rfl) ?_; refine ok_nil ?_; refine ok_env [(2, _), (3, _), (4, _), (5, _), (9, _)] ⟨rfl, rfl, rfl, rfl, rfl, trivial⟩ ?_)
    | (refine ok_region (i := 2) ?_; refine ok_p rfl rfl rfl (by exact ps_bld rfl parts_nil rfl) ?_; refine ok_p rfl rfl rfl (by exact ps_bld rfl parts_nil rfl) ?_; refine ok_m_ rfl rfl (by exact ms_store 1 rfl rfl rfl rfl rfl rfl rfl rfl) ?_; rintro y_ hy_; refine ok_m_ rfl rfl (by exact ms_store 0 rfl rfl rfl rfl rfl rfl rfl rfl) ?_; rintro y_ hy_; refine ok_p rfl rfl rfl (by exact ps_assign rfl rfl) ?_; refine ok_nil ?_; refine ok_env [(4, _), (5, _), (6, _)] ⟨rfl, rfl, rfl, trivial⟩ ?_))
  · have e : fWalkSeek x key = (noW, noKV, false) := by unfold fWalkSeek; rw [if_neg (by rw [hd]; exact Bool.false_ne_true)]
    rw [e]
    exact ok_endL (vs := [_, _, _]) rfl ⟨⟨_, 1, _, _, _, rfl, rfl, inferInstance, rfl, rfl⟩, ⟨_, 0, _, _, _, rfl, rfl, inferInstance, rfl, rfl⟩, rfl, trivial⟩ (fun w' hw => ⟨mkY none 0 w', rfl, trivial, hw.below, wkN_no hw⟩)
  have hk : fWalkOk x = true := hd
  obtain ⟨⟨q1, q2⟩, q3⟩ := HM.out hk
  have e : fWalkSeek x key = standAt x (mapW x) ((lbK (mapW x) key : Int)) := by unfold fWalkSeek; rw [if_pos hk]
  rw [e]
  repeat' (first
    | refine ok_then ?_
    | refine ok_ret ?_
    | (refine ok_region (i := 3) ?_; refine ok_p rfl rfl rfl (by exact ps_loads rfl rfl (by exact rds_box 3 rfl) rfl rfl (by decide)) ?_; refine ok_p rfl rfl rfl (by exact ps_mkf rfl rfl) ?_; refine ok_m rfl rfl rfl (by exact ms_c2 rfl rfl rfl (fun _ _ w hw => walkTo_c x y 110 [pt (ga (y3 0).c) 0] ((lbK (mapW x) key : Int)) w (Walk_rf H.out (by exact List.mem_cons_self) hw) HS.out hk q3 (fun A c w' k1 k2 => seekF_c (y3 0).c key A c (mapW x) w' k2 ((rds_box 2 rfl _ _ w hw).keeps k1) q1 q2))) ?_; rintro y14 hy14; refine ok_p rfl rfl rfl (by exact ps_extract rfl rfl rfl) ?_; refine ok_p rfl rfl rfl (by exact ps_extract rfl rfl rfl) ?_; refine ok_p rfl rfl rfl (by exact ps_extract rfl rfl rfl) ?_; refine ok_m_ rfl rfl (by exact ms_store 3 rfl rfl rfl rfl rfl rfl rfl rfl) ?_; rintro y_ hy_; refine ok_m_ rfl rfl (by exact ms_store 2 rfl rfl rfl rfl rfl rfl rfl rfl) ?_; rintro y_ hy_; refine ok_p rfl rfl rfl (by exact ps_assign rfl rfl) ?_; refine ok_nil ?_; refine ok_env [(4, _), (5, _), (6, _)] ⟨rfl, rfl, rfl, trivial⟩ ?_))
  exact ok_endL (vs := [_, _, _]) rfl ⟨⟨_, 3, _, _, _, rfl, rfl, inferInstance, rfl, rfl⟩, ⟨_, 2, _, _, _, rfl, rfl, inferInstance, rfl, rfl⟩, rfl, trivial⟩ (fun w' hw => ⟨y14, rfl, trivial, hw.below, NewOk.of (hw.sel [0, 1] (by decide) rfl (G' := []) (fun _ h => by cases h))⟩)
end Go.Proofs.Ytbegbdfbfbkflaa
/- The reference's walks: entries merged, seen, stood at. -/
namespace Go.Proofs.Ytbegbdfbfbkflaa
open Go.RowKit
set_option maxHeartbeats 4000000
set_option maxRecDepth 20000
set_option linter.unusedVariables false
set_option linter.unusedSimpArgs false
attribute [local irreducible] Calls
theorem mrg_nil (O : List Ent) : mrg O [] = O := by cases O <;> rw [mrg]
theorem dropE {L : List Ent} {k : Nat} (h : k < L.length) : L.drop k = nth L k :: L.drop (k + 1) := by
  rw [List.drop_eq_getElem_cons h]; simp [nth, h]
theorem mrg_in {O R : List Ent} {j k : Nat} (hj : j < O.length) (hk : k < R.length) (h : aheadE (nth R k) (nth O j) = true) : mrg (O.drop j) (R.drop k) = nth R k :: mrg (O.drop j) (R.drop (k + 1)) := by
  rw [dropE hj, dropE hk, mrg, if_pos h]
theorem mrg_out {O R : List Ent} {j k : Nat} (hj : j < O.length) (hk : k < R.length) (h : aheadE (nth R k) (nth O j) = false) (h2 : aheadE (nth O j) (nth R k) = true) : mrg (O.drop j) (R.drop k) = nth O j :: mrg (O.drop (j + 1)) (R.drop k) := by
  rw [dropE hj, dropE hk, mrg, if_neg (by rw [h]; exact Bool.false_ne_true), if_pos h2]
theorem mrg_both {O R : List Ent} {j k : Nat} (hj : j < O.length) (hk : k < R.length) (h : aheadE (nth R k) (nth O j) = false) (h2 : aheadE (nth O j) (nth R k) = false) : mrg (O.drop j) (R.drop k) = nth O j :: mrg (O.drop (j + 1)) (R.drop (k + 1)) := by
  rw [dropE hj, dropE hk, mrg, if_neg (by rw [h]; exact Bool.false_ne_true), if_neg (by rw [h2]; exact Bool.false_ne_true)]
theorem mrg_end {O R : List Ent} {j k : Nat} (hj : j < O.length) (hk : ¬ k < R.length) : mrg (O.drop j) (R.drop k) = nth O j :: mrg (O.drop (j + 1)) (R.drop k) := by
  rw [List.drop_of_length_le (show R.length ≤ k by omega), mrg_nil, mrg_nil, dropE hj]
theorem merge_step {R : List LE} {i : Nat} (h : i < R.length) : mergeS ((dats R).take (i + 1)) = mrg (mergeS ((dats R).take i)) (nth R i).d := by
  have e : (dats R).take (i + 1) = (dats R).take i ++ [(nth R i).d] := by
    have hd : i < (dats R).length := by rw [dats_len]; exact h
    rw [List.take_add_one, List.getElem?_eq_getElem hd]
    simp [dats, nth, h]
  unfold mergeS
  rw [e, List.foldl_append]; rfl
theorem sum_mem : ∀ (L : List Nat) (x : Nat), x ∈ L → x ≤ L.sum
  | [], x, h => by cases h
  | a :: L, x, h => by
    rw [List.sum_cons]
    rcases List.mem_cons.1 h with rfl | h
    · omega
    · have := sum_mem L x h; omega
theorem l9Ents_t (A : Option Addr) (c : Nat) (l : List Ent) (w : World) (h : Rd w A (fl l)) (hl : l.length ≤ 4194304) (he : inOrd l = true) : Calls Try.prog 103 #[.slice A l.length c] w fun e w' => e = .returned (.bool true) ∧ Below w.heap.size w w' := by
  have := l9Ents_c A c l w h hl
  rw [he] at this; exact this
theorem offR_one {x : List (List Ent)} {m : Nat} (ht : ∀ k, offR List.length x k ≤ m) (l : List Ent) (hl : l ∈ x) : l.length ≤ m := by
  have h1 := ht x.length
  unfold offR at h1
  rw [List.take_length] at h1
  exact Nat.le_trans (sum_mem _ _ (List.mem_map.2 ⟨l, hl, rfl⟩)) h1
structure MgS (R : List LE) where
  i : Nat
  O : List Ent
  B : Option Addr
  d : Nat
  hi : i ≤ R.length
  hO : O = mergeS ((dats R).take i)
structure MgJ (O Q : List Ent) where
  j : Nat
  k : Nat
  M : List Ent
  B : Option Addr
  d : Nat
  hj : j ≤ O.length ∧ k ≤ Q.length ∧ M.length ≤ j + k
  hm : M ++ mrg (O.drop j) (Q.drop k) = mrg O Q
structure MgK (O Q : List Ent) (j : Nat) where
  k : Nat
  M : List Ent
  B : Option Addr
  d : Nat
  hj : k ≤ Q.length ∧ M.length ≤ j + k
  hm : M ++ mrg (O.drop j) (Q.drop k) = mrg O Q
theorem s_Merge_c (A : Option Addr) (c : Nat) (R : List LE) (w : World) (h : RdN w A R) (hl : R.length ≤ 4194304) (hs : ∀ l ∈ dats R, inOrd l = true) (ht : ∀ k, offR List.length (dats R) k ≤ 400) :
    Calls Try.prog 37 #[.slice A R.length c] w fun e w' => ∃ y : Ys, e = .returned (.slice (y 0).A (mergeS (dats R)).length (y 0).c) ∧ True ∧ Below w.heap.size w w' ∧ NewOk w.heap.size [.row 71 4 (y 0).A (mergeS (dats R)).length (y 0).c (fl (mergeS (dats R)))] [] w' := by
  obtain ⟨h1, h2⟩ := h
  have h2 : ∀ k, k < R.length → Rd w (nth R k).A (fl (nth R k).d) := h2
  have hz : ∀ k, k < R.length → inOrd (nth R k).d = true ∧ (nth R k).d.length ≤ 400 := fun k hk => ⟨hs _ (List.mem_map.2 ⟨_, nth_mem R k hk, rfl⟩), offR_one ht _ (List.mem_map.2 ⟨_, nth_mem R k hk, rfl⟩)⟩
  have ho : ∀ i, (mergeS ((dats R).take i)).length ≤ 400 := fun i => by
    have q1 := merge_len ((dats R).take i) []
    have q2 := catEnt_len (dats R) i
    have q3 := ht i
    have q4 : (mergeS ((dats R).take i)).length = (((dats R).take i).foldl mrg []).length := rfl
    simp only [List.length_nil] at q1
    omega
  have hn : ∀ i, i < R.length → offR List.length (dats R) (i + 1) = offR List.length (dats R) i + (nth R i).d.length := fun i hi => offEnt_succ R i hi
  have H2 := Lib.hid h2; clear h2
  have HZ := Lib.hid hz; clear hz
  have HO := Lib.hid ho; clear ho
  have HN := Lib.hid hn; clear hn
  have HT := Lib.hid ht; clear ht
  clear hs
  refine ok_enter 122 Try.func37 rfl rfl rfl ?_
  repeat' (first
    | refine ok_seq ?_
    | refine ok_then ?_
    | refine ok_block ?_
    | (refine ok_region (i := 0) ?_; refine ok_p rfl rfl rfl (by exact ps_assign rfl rfl) ?_; refine ok_nil ?_; refine ok_env [(0, _)] ⟨rfl, trivial⟩ ?_)
    | (refine ok_region (i := 1) ?_; refine ok_m rfl rfl rfl (by exact ms_lit rfl parts_nil rfl rfl rfl) ?_; rintro y11 hy11; refine ok_p rfl rfl rfl (by exact ps_assign rfl rfl) ?_; refine ok_nil ?_; refine ok_env [(0, _), (3, _)] ⟨rfl, rfl, trivial⟩ ?_)
    | (refine ok_region (i := 2) ?_; refine ok_p rfl rfl rfl (by exact ps_assign rfl rfl) ?_; refine ok_nil ?_; refine ok_env [(0, _), (3, _), (4, _)] ⟨rfl, rfl, rfl, trivial⟩ ?_))
  refine ok_loop (ι := MgS R) (fun q => R.length - q.i) (fun q => ([(0, .slice A R.length c), (3, .slice q.B q.O.length q.d), (4, .int .i64 q.i)], [.row 71 4 q.B q.O.length q.d (fl q.O)], _)) ⟨0, [], ga (y11 0).c, 0, by omega, rfl⟩ (fun a w he hw => ⟨⟨0, [], ga (y11 0).c, 0, by omega, rfl⟩, he.sub ⟨rfl, rfl, rfl, trivial⟩, hw⟩) ?_
  rintro ⟨i, O, B, d, hi, hO⟩
  simp only at hi ⊢
  have hol := HO.out i
  rw [← hO] at hol
  have HOE := Lib.hid hO; clear hO
  have hri := fun h => HZ.out i h
  have HRI := Lib.hid hri; clear hri
  refine ok_capE 0 rfl (fun hc0 => ?_)
  repeat' (first
    | refine ok_seq ?_
    | refine ok_then ?_
    | refine ok_then_ret ?_
    | refine ok_block ?_
    | refine ok_in_ret ?_
    | (refine ok_cond rfl (fun hc => ?_) (fun hc => ?_) <;> (have hd := hc; (try simp only [decide_eq_true_eq, decide_eq_false_iff_not, Bool.or_eq_true, Bool.or_eq_false_iff, Bool.and_eq_true, Bool.and_eq_false_iff, Bool.not_eq_true', Bool.not_eq_false', bne_iff_ne, beq_iff_eq, bne_eq_false_iff_eq, beq_eq_false_iff_ne, ne_eq, Bool.not_true, Bool.not_false, Bool.false_eq_true, Bool.true_eq_false, inB_true, inB_false] at hd)))
    | refine ok_ret ?_
    | refine ok_exit ?_
    | refine ok_skip ?_
    | (refine ok_region (i := 3) ?_; refine ok_p rfl rfl rfl (by exact ps_move rfl rfl) ?_; refine ok_p rfl rfl rfl (by exact ps_move rfl rfl) ?_; refine ok_p rfl rfl rfl (by exact ps_len rfl rfl) ?_; refine ok_p rfl rfl rfl (by exact ps_int rfl rfl rfl rfl) ?_; refine ok_nil ?_; refine ok_env [(0, _), (3, _), (4, _), (15, _)] ⟨rfl, rfl, rfl, rfl, trivial⟩ ?_)
    | (refine ok_region (i := 5) ?_; refine ok_p rfl rfl rfl (by exact ps_move rfl rfl) ?_; refine ok_p rfl rfl rfl (by exact ps_move rfl rfl) ?_; refine ok_p rfl rfl rfl (by exact ps_indexN rfl rfl rfl (by omega) (by exact isw_of (isS_fl (by assumption) (by omega)))) ?_; refine ok_p rfl rfl rfl (by exact ps_load rfl rfl (by exact Rds.cell (rds_rf (by assumption) (by exact List.mem_cons_self)) (by exact fl_at0 _ _ (by omega) (by decide)))) ?_; refine ok_m rfl rfl rfl (by exact ms_s1 rfl rfl (fun _ _ w hw => l9Ents_t _ _ (nth R i).d w (rds_rf (H2.out i (by omega)) (by exact List.mem_cons_self) _ _ w hw) (by have := (HRI.out (by omega)).2; omega) (HRI.out (by omega)).1)) ?_; rintro y22 hy22; refine ok_p rfl rfl rfl (by exact ps_not rfl rfl) ?_; refine ok_p rfl rfl rfl (by exact ps_move rfl rfl) ?_; refine ok_pg rfl rfl rfl rfl rfl (gF _) (fun hp => by (have hpd := hp; (try simp only [decide_eq_true_eq, decide_eq_false_iff_not, Bool.or_eq_true, Bool.or_eq_false_iff, Bool.and_eq_true, Bool.and_eq_false_iff, Bool.not_eq_true', Bool.not_eq_false', bne_iff_ne, beq_iff_eq, bne_eq_false_iff_eq, beq_eq_false_iff_ne, ne_eq, Bool.not_true, Bool.not_false, Bool.false_eq_true, Bool.true_eq_false, inB_true, inB_false] at hpd); exact ps_move rfl (by exact rfl))) ?_; refine ok_pg rfl rfl rfl rfl rfl (gF _) (fun hp => by (have hpd := hp; (try simp only [decide_eq_true_eq, decide_eq_false_iff_not, Bool.or_eq_true, Bool.or_eq_false_iff, Bool.and_eq_true, Bool.and_eq_false_iff, Bool.not_eq_true', Bool.not_eq_false', bne_iff_ne, beq_iff_eq, bne_eq_false_iff_eq, beq_eq_false_iff_ne, ne_eq, Bool.not_true, Bool.not_false, Bool.false_eq_true, Bool.true_eq_false, inB_true, inB_false] at hpd); exact ps_move rfl (by exact rfl))) ?_; refine ok_pg rfl rfl rfl rfl rfl (gF _) (fun hp => by (have hpd := hp; (try simp only [decide_eq_true_eq, decide_eq_false_iff_not, Bool.or_eq_true, Bool.or_eq_false_iff, Bool.and_eq_true, Bool.and_eq_false_iff, Bool.not_eq_true', Bool.not_eq_false', bne_iff_ne, beq_iff_eq, bne_eq_false_iff_eq, beq_eq_false_iff_ne, ne_eq, Bool.not_true, Bool.not_false, Bool.false_eq_true, Bool.true_eq_false, inB_true, inB_false] at hpd); exact ps_indexN rfl (by (refine og rfl ?_; assumption)) (by (refine og rfl ?_; assumption)) (by omega) (by exact isw_of (isS_fl (by assumption) (by omega))))) ?_; refine ok_pg rfl rfl rfl rfl rfl (gF _) (fun hp => by (have hpd := hp; (try simp only [decide_eq_true_eq, decide_eq_false_iff_not, Bool.or_eq_true, Bool.or_eq_false_iff, Bool.and_eq_true, Bool.and_eq_false_iff, Bool.not_eq_true', Bool.not_eq_false', bne_iff_ne, beq_iff_eq, bne_eq_false_iff_eq, beq_eq_false_iff_ne, ne_eq, Bool.not_true, Bool.not_false, Bool.false_eq_true, Bool.true_eq_false, inB_true, inB_false] at hpd); exact ps_load rfl (by (refine og rfl ?_; assumption)) (by exact Rds.cell (rds_rf (by assumption) (by exact List.mem_cons_self)) (by exact fl_at0 _ _ (by omega) (by decide))))) ?_; refine ok_pg rfl rfl rfl rfl rfl (gF _) (fun hp => by (have hpd := hp; (try simp only [decide_eq_true_eq, decide_eq_false_iff_not, Bool.or_eq_true, Bool.or_eq_false_iff, Bool.and_eq_true, Bool.and_eq_false_iff, Bool.not_eq_true', Bool.not_eq_false', bne_iff_ne, beq_iff_eq, bne_eq_false_iff_eq, beq_eq_false_iff_ne, ne_eq, Bool.not_true, Bool.not_false, Bool.false_eq_true, Bool.true_eq_false, inB_true, inB_false] at hpd); exact ps_len rfl (by (refine og rfl ?_; assumption)))) ?_; refine ok_pg rfl rfl rfl rfl rfl (gF _) (fun hp => by (have hpd := hp; (try simp only [decide_eq_true_eq, decide_eq_false_iff_not, Bool.or_eq_true, Bool.or_eq_false_iff, Bool.and_eq_true, Bool.and_eq_false_iff, Bool.not_eq_true', Bool.not_eq_false', bne_iff_ne, beq_iff_eq, bne_eq_false_iff_eq, beq_eq_false_iff_ne, ne_eq, Bool.not_true, Bool.not_false, Bool.false_eq_true, Bool.true_eq_false, inB_true, inB_false] at hpd); exact ps_int rfl (by (refine og rfl ?_; assumption)) (by exact rfl) rfl)) ?_; refine ok_p rfl rfl rfl (by exact ps_or rfl rfl rfl) ?_; refine ok_p rfl rfl rfl (by exact ps_move rfl rfl) ?_; refine ok_pg rfl rfl rfl rfl rfl (gF _) (fun hp => by (have hpd := hp; (try simp only [decide_eq_true_eq, decide_eq_false_iff_not, Bool.or_eq_true, Bool.or_eq_false_iff, Bool.and_eq_true, Bool.and_eq_false_iff, Bool.not_eq_true', Bool.not_eq_false', bne_iff_ne, beq_iff_eq, bne_eq_false_iff_eq, beq_eq_false_iff_ne, ne_eq, Bool.not_true, Bool.not_false, Bool.false_eq_true, Bool.true_eq_false, inB_true, inB_false] at hpd); exact ps_move rfl (by exact rfl))) ?_; refine ok_pg rfl rfl rfl rfl rfl (gF _) (fun hp => by (have hpd := hp; (try simp only [decide_eq_true_eq, decide_eq_false_iff_not, Bool.or_eq_true, Bool.or_eq_false_iff, Bool.and_eq_true, Bool.and_eq_false_iff, Bool.not_eq_true', Bool.not_eq_false', bne_iff_ne, beq_iff_eq, bne_eq_false_iff_eq, beq_eq_false_iff_ne, ne_eq, Bool.not_true, Bool.not_false, Bool.false_eq_true, Bool.true_eq_false, inB_true, inB_false] at hpd); exact ps_len rfl (by (refine og rfl ?_; assumption)))) ?_; refine ok_pg rfl rfl rfl rfl rfl (gF _) (fun hp => by (have hpd := hp; (try simp only [decide_eq_true_eq, decide_eq_false_iff_not, Bool.or_eq_true, Bool.or_eq_false_iff, Bool.and_eq_true, Bool.and_eq_false_iff, Bool.not_eq_true', Bool.not_eq_false', bne_iff_ne, beq_iff_eq, bne_eq_false_iff_eq, beq_eq_false_iff_ne, ne_eq, Bool.not_true, Bool.not_false, Bool.false_eq_true, Bool.true_eq_false, inB_true, inB_false] at hpd); exact ps_int rfl (by (refine og rfl ?_; assumption)) (by exact rfl) rfl)) ?_; refine ok_p rfl rfl rfl (by exact ps_or rfl rfl rfl) ?_; refine ok_nil ?_; refine ok_env [(0, _), (3, _), (4, _), (36, _)] ⟨rfl, rfl, rfl, rfl, trivial⟩ ?_)
    | (refine ok_region (i := 6) ?_; refine ok_m rfl rfl rfl (by exact ms_lit rfl parts_nil rfl rfl rfl) ?_; rintro y37 hy37; refine ok_p rfl rfl rfl (by exact ps_assign rfl rfl) ?_; refine ok_nil ?_; refine ok_env [(2, _)] ⟨rfl, trivial⟩ ?_)
    | (refine ok_region (i := 7) ?_; refine ok_m rfl rfl rfl (by exact ms_lit rfl parts_nil rfl rfl rfl) ?_; rintro y38 hy38; refine ok_p rfl rfl rfl (by exact ps_move rfl rfl) ?_; refine ok_p rfl rfl rfl (by exact ps_move rfl rfl) ?_; refine ok_p rfl rfl rfl (by exact ps_indexN rfl rfl rfl (by omega) (by exact isw_of (isS_fl (by assumption) (by omega)))) ?_; refine ok_p rfl rfl rfl (by exact ps_load rfl rfl (by exact Rds.cell (rds_rf (by assumption) (by exact List.mem_cons_self)) (by exact fl_at0 _ _ (by omega) (by decide)))) ?_; refine ok_m rfl rfl rfl (by exact ms_app0 (M := (nth R i).d) 0 rfl rfl rfl rfl (rds_rf (H2.out i (by omega)) (by exact List.mem_cons_self)) rfl (by have := (HRI.out (by omega)).2; omega) (by have := (HRI.out (by omega)).2; omega)) ?_; rintro y43 hy43; refine ok_p rfl rfl rfl (by exact ps_assign rfl rfl) ?_; refine ok_nil ?_; refine ok_env [(0, _), (3, _), (4, _), (5, _)] ⟨rfl, rfl, rfl, rfl, trivial⟩ ?_)
    | (refine ok_region (i := 8) ?_; refine ok_m rfl rfl rfl (by exact ms_lit rfl parts_nil rfl rfl rfl) ?_; rintro y44 hy44; refine ok_p rfl rfl rfl (by exact ps_assign rfl rfl) ?_; refine ok_nil ?_; refine ok_env [(0, _), (3, _), (4, _), (5, _), (6, _)] ⟨rfl, rfl, rfl, rfl, rfl, trivial⟩ ?_)
    | (refine ok_region (i := 9) ?_; refine ok_p rfl rfl rfl (by exact ps_assign rfl rfl) ?_; refine ok_nil ?_; refine ok_env [(0, _), (3, _), (4, _), (5, _), (6, _), (7, _)] ⟨rfl, rfl, rfl, rfl, rfl, rfl, trivial⟩ ?_)
    | (refine ok_region (i := 10) ?_; refine ok_p rfl rfl rfl (by exact ps_assign rfl rfl) ?_; refine ok_nil ?_; refine ok_env [(0, _), (3, _), (4, _), (5, _), (6, _), (7, _), (8, _)] ⟨rfl, rfl, rfl, rfl, rfl, rfl, rfl, trivial⟩ ?_)
    | (refine ok_region (i := 20) ?_; refine ok_p rfl rfl rfl (by exact ps_assign rfl rfl) ?_; refine ok_nil ?_; refine ok_env [(0, _), (3, _), (9, _)] ⟨rfl, rfl, rfl, trivial⟩ ?_)
    | (refine ok_region (i := 21) ?_; refine ok_p rfl rfl rfl (by exact ps_assign rfl rfl) ?_; refine ok_nil ?_; refine ok_env [(0, _), (3, _), (9, _), (10, _)] ⟨rfl, rfl, rfl, rfl, trivial⟩ ?_))
  · exfalso
    have hx := (HRI.out (by omega)).2
    rcases hd with (h' | h') | h'
    · exact h'
    · exact absurd h' (by show ¬ ((400 : Int) < ((nth R i).d.length : Int)); omega)
    · omega
  · have hql := (HRI.out (by omega)).2
    have hst : O = mergeS ((dats R).take i) → mergeS ((dats R).take (i + 1)) = mrg O (nth R i).d := fun e => by rw [merge_step (by omega), ← e]
    have HST := Lib.hid hst; clear hst
    obtain ⟨Q, eQ⟩ : ∃ Q, Q = (nth R i).d := ⟨_, rfl⟩
    simp only [← eQ]
    rw [← eQ] at hql
    have EQ := Lib.hid eQ; clear eQ
    clear hc hd HRI
    have hql0 : Q.length ≤ 400 := hql
    refine ok_loop (ι := MgJ O Q) (fun q => O.length - q.j) (fun q => ([(0, .slice A R.length c), (3, .slice B O.length d), (4, .int .i64 i), (5, .slice (y43 0).A Q.length (y43 0).c), (6, .slice q.B q.M.length q.d), (7, .int .i64 q.k), (8, .int .i64 q.j)], [.row 71 4 q.B q.M.length q.d (fl q.M), .row 71 4 (y43 0).A Q.length (y43 0).c (fl Q), .row 71 4 B O.length d (fl O)], [w])) ⟨0, 0, [], ga (y44 0).c, 0, by simp, rfl⟩ (fun a w he hw => ⟨⟨0, 0, [], ga (y44 0).c, 0, by simp, rfl⟩, he.sub ⟨rfl, rfl, rfl, rfl, rfl, rfl, rfl, trivial⟩, hw⟩) ?_
    rintro ⟨j, k, M, C, e, hj, hm⟩
    simp only at hj ⊢
    have HM := Lib.hid hm; clear hm
    refine ok_capE 1 rfl (fun hc1 => ?_)
    repeat' (first
      | refine ok_seq ?_
      | refine ok_then ?_
      | refine ok_then_exit ?_
      | refine ok_block ?_
      | refine ok_in_normal ?_
      | refine ok_in_exit ?_
      | (refine ok_cond rfl (fun hc => ?_) (fun hc => ?_) <;> (have hd := hc; (try simp only [decide_eq_true_eq, decide_eq_false_iff_not, Bool.or_eq_true, Bool.or_eq_false_iff, Bool.and_eq_true, Bool.and_eq_false_iff, Bool.not_eq_true', Bool.not_eq_false', bne_iff_ne, beq_iff_eq, bne_eq_false_iff_eq, beq_eq_false_iff_ne, ne_eq, Bool.not_true, Bool.not_false, Bool.false_eq_true, Bool.true_eq_false, inB_true, inB_false] at hd)))
      | refine ok_exit ?_
      | refine ok_skip ?_
      | (refine ok_region (i := 4) ?_; refine ok_p rfl rfl rfl (by exact ps_move rfl rfl) ?_; refine ok_p rfl rfl rfl (by exact ps_add rfl rfl rfl (by omega)) ?_; refine ok_p rfl rfl rfl (by exact ps_assign rfl rfl) ?_; refine ok_nil ?_; refine ok_env [(0, _), (3, _), (4, _)] ⟨rfl, rfl, rfl, trivial⟩ ?_)
      | (refine ok_region (i := 11) ?_; refine ok_p rfl rfl rfl (by exact ps_move rfl rfl) ?_; refine ok_p rfl rfl rfl (by exact ps_move rfl rfl) ?_; refine ok_p rfl rfl rfl (by exact ps_len rfl rfl) ?_; refine ok_p rfl rfl rfl (by exact ps_int rfl rfl rfl rfl) ?_; refine ok_nil ?_; refine ok_env [(0, _), (3, _), (4, _), (5, _), (6, _), (7, _), (8, _), (48, _)] ⟨rfl, rfl, rfl, rfl, rfl, rfl, rfl, rfl, trivial⟩ ?_)
      | (refine ok_region (i := 19) ?_; refine ok_p rfl rfl rfl (by exact ps_move rfl rfl) ?_; refine ok_p rfl rfl rfl (by exact ps_move rfl rfl) ?_; refine ok_p rfl rfl rfl (by exact ps_move rfl rfl) ?_; refine ok_p rfl rfl rfl (by exact ps_sliceE (l := k) rfl rfl rfl rfl (by omega) (by omega)) ?_; refine ok_m rfl rfl rfl (by exact ms_appN M (Q.drop k) 0 rfl rfl rfl rfl (rds_tail (rds_row 1 rfl) rfl (by omega) (by omega)) rfl rfl (by rw [List.length_drop]) (by omega) (by omega)) ?_; rintro y104 hy104; refine ok_p rfl rfl rfl (by exact ps_assign rfl rfl) ?_; refine ok_nil ?_; refine ok_env [(0, _), (3, _), (4, _)] ⟨rfl, rfl, rfl, trivial⟩ ?_))
    · refine ok_loop (ι := MgK O Q j) (fun q => Q.length - q.k) (fun q => ([(0, .slice A R.length c), (3, .slice B O.length d), (4, .int .i64 i), (5, .slice (y43 0).A Q.length (y43 0).c), (6, .slice q.B q.M.length q.d), (7, .int .i64 q.k), (8, .int .i64 j)], [.row 71 4 q.B q.M.length q.d (fl q.M), .row 71 4 (y43 0).A Q.length (y43 0).c (fl Q), .row 71 4 B O.length d (fl O)], [w])) ⟨k, M, C, e, by omega, HM.out⟩ (fun a w he hw => ⟨⟨k, M, C, e, by omega, HM.out⟩, he.sub ⟨rfl, rfl, rfl, rfl, rfl, rfl, rfl, trivial⟩, hw⟩) ?_
      have hjo : j < O.length := by omega
      clear HM hj hd hc
      rintro ⟨k, M, C, e, hj, hm⟩
      simp only at hj ⊢
      have HM := Lib.hid hm; clear hm
      repeat' (first
        | refine ok_seq ?_
        | refine ok_then ?_
        | refine ok_block ?_
        | refine ok_in_normal ?_
        | (refine ok_cond rfl (fun hc => ?_) (fun hc => ?_) <;> (have hd := hc; (try simp only [decide_eq_true_eq, decide_eq_false_iff_not, Bool.or_eq_true, Bool.or_eq_false_iff, Bool.and_eq_true, Bool.and_eq_false_iff, Bool.not_eq_true', Bool.not_eq_false', bne_iff_ne, beq_iff_eq, bne_eq_false_iff_eq, beq_eq_false_iff_ne, ne_eq, Bool.not_true, Bool.not_false, Bool.false_eq_true, Bool.true_eq_false, inB_true, inB_false] at hd)))
        | refine ok_exit ?_
        | refine ok_skip ?_
        | (refine ok_region (i := 12) ?_; refine ok_p rfl rfl rfl (by exact ps_move rfl rfl) ?_; refine ok_p rfl rfl rfl (by exact ps_add rfl rfl rfl (by omega)) ?_; refine ok_p rfl rfl rfl (by exact ps_assign rfl rfl) ?_; refine ok_nil ?_; refine ok_env [(0, _), (3, _), (4, _), (5, _), (6, _), (7, _), (8, _)] ⟨rfl, rfl, rfl, rfl, rfl, rfl, rfl, trivial⟩ ?_)
        | (refine ok_draw (id := 13) 15 rfl (by kernel_rfl) (by kernel_rfl) rfl (by repeat (first | exact pq_body | refine pq_then ?_ | refine pq_in ?_)) [0, 1, 2, 3, 4, 5, 6, 7, 8, 9, 10, 11, 12, 13, 14, 15, 16, 17, 18, 19, 20, 21, 22, 23] (by decide) rfl ?_; refine okT_take (i := 0) rfl (by kernel_rfl) rfl rfl rfl (by exact ps_move rfl rfl) ?_; refine okT_take (i := 1) rfl (by kernel_rfl) rfl rfl rfl (by exact ps_move rfl rfl) ?_; refine okT_take (i := 2) rfl (by kernel_rfl) rfl rfl rfl (by exact ps_len rfl rfl) ?_; refine okT_take (i := 3) rfl (by kernel_rfl) rfl rfl rfl (by exact ps_int rfl rfl rfl rfl) ?_; refine okT_take (i := 4) rfl (by kernel_rfl) rfl rfl rfl (by exact ps_move rfl rfl) ?_; refine okT_take_g1 (i := 5) rfl (by kernel_rfl) rfl rfl rfl rfl rfl (gT _) (fun hp => by (have hpd := hp; (try simp only [decide_eq_true_eq, decide_eq_false_iff_not, Bool.or_eq_true, Bool.or_eq_false_iff, Bool.and_eq_true, Bool.and_eq_false_iff, Bool.not_eq_true', Bool.not_eq_false', bne_iff_ne, beq_iff_eq, bne_eq_false_iff_eq, beq_eq_false_iff_ne, ne_eq, Bool.not_true, Bool.not_false, Bool.false_eq_true, Bool.true_eq_false, inB_true, inB_false] at hpd); exact ps_move rfl (by exact rfl))) ?_; refine okT_take_g1 (i := 6) rfl (by kernel_rfl) rfl rfl rfl rfl rfl (gT _) (fun hp => by (have hpd := hp; (try simp only [decide_eq_true_eq, decide_eq_false_iff_not, Bool.or_eq_true, Bool.or_eq_false_iff, Bool.and_eq_true, Bool.and_eq_false_iff, Bool.not_eq_true', Bool.not_eq_false', bne_iff_ne, beq_iff_eq, bne_eq_false_iff_eq, beq_eq_false_iff_ne, ne_eq, Bool.not_true, Bool.not_false, Bool.false_eq_true, Bool.true_eq_false, inB_true, inB_false] at hpd); exact ps_move rfl (by exact rfl))) ?_; refine okT_take_g1 (i := 7) rfl (by kernel_rfl) rfl rfl rfl rfl rfl (gT _) (fun hp => by (have hpd := hp; (try simp only [decide_eq_true_eq, decide_eq_false_iff_not, Bool.or_eq_true, Bool.or_eq_false_iff, Bool.and_eq_true, Bool.and_eq_false_iff, Bool.not_eq_true', Bool.not_eq_false', bne_iff_ne, beq_iff_eq, bne_eq_false_iff_eq, beq_eq_false_iff_ne, ne_eq, Bool.not_true, Bool.not_false, Bool.false_eq_true, Bool.true_eq_false, inB_true, inB_false] at hpd); exact ps_indexN rfl (by (refine og rfl ?_; assumption)) (by (refine og rfl ?_; assumption)) (by omega) (by exact isw_row 1 rfl (by omega)))) ?_; refine okT_take_g1 (i := 8) rfl (by kernel_rfl) rfl rfl rfl rfl rfl (gT _) (fun hp => by (have hpd := hp; (try simp only [decide_eq_true_eq, decide_eq_false_iff_not, Bool.or_eq_true, Bool.or_eq_false_iff, Bool.and_eq_true, Bool.and_eq_false_iff, Bool.not_eq_true', Bool.not_eq_false', bne_iff_ne, beq_iff_eq, bne_eq_false_iff_eq, beq_eq_false_iff_ne, ne_eq, Bool.not_true, Bool.not_false, Bool.false_eq_true, Bool.true_eq_false, inB_true, inB_false] at hpd); exact ps_loadsF (α := Ent) (l := Q) (i := k) rfl (by (refine og rfl ?_; assumption)) (rds_row 1 rfl) rfl rfl (by omega) rfl)) ?_; refine okT_take_g1 (i := 9) rfl (by kernel_rfl) rfl rfl rfl rfl rfl (gT _) (fun hp => by (have hpd := hp; (try simp only [decide_eq_true_eq, decide_eq_false_iff_not, Bool.or_eq_true, Bool.or_eq_false_iff, Bool.and_eq_true, Bool.and_eq_false_iff, Bool.not_eq_true', Bool.not_eq_false', bne_iff_ne, beq_iff_eq, bne_eq_false_iff_eq, beq_eq_false_iff_ne, ne_eq, Bool.not_true, Bool.not_false, Bool.false_eq_true, Bool.true_eq_false, inB_true, inB_false] at hpd); exact ps_move rfl (by exact rfl))) ?_; refine okT_take_g1 (i := 10) rfl (by kernel_rfl) rfl rfl rfl rfl rfl (gT _) (fun hp => by (have hpd := hp; (try simp only [decide_eq_true_eq, decide_eq_false_iff_not, Bool.or_eq_true, Bool.or_eq_false_iff, Bool.and_eq_true, Bool.and_eq_false_iff, Bool.not_eq_true', Bool.not_eq_false', bne_iff_ne, beq_iff_eq, bne_eq_false_iff_eq, beq_eq_false_iff_ne, ne_eq, Bool.not_true, Bool.not_false, Bool.false_eq_true, Bool.true_eq_false, inB_true, inB_false] at hpd); exact ps_move rfl (by exact rfl))) ?_; refine okT_take_g1 (i := 11) rfl (by kernel_rfl) rfl rfl rfl rfl rfl (gT _) (fun hp => by (have hpd := hp; (try simp only [decide_eq_true_eq, decide_eq_false_iff_not, Bool.or_eq_true, Bool.or_eq_false_iff, Bool.and_eq_true, Bool.and_eq_false_iff, Bool.not_eq_true', Bool.not_eq_false', bne_iff_ne, beq_iff_eq, bne_eq_false_iff_eq, beq_eq_false_iff_ne, ne_eq, Bool.not_true, Bool.not_false, Bool.false_eq_true, Bool.true_eq_false, inB_true, inB_false] at hpd); exact ps_indexN rfl (by (refine og rfl ?_; assumption)) (by (refine og rfl ?_; assumption)) (by omega) (by exact isw_row 2 rfl (by omega)))) ?_; refine okT_take_g1 (i := 12) rfl (by kernel_rfl) rfl rfl rfl rfl rfl (gT _) (fun hp => by (have hpd := hp; (try simp only [decide_eq_true_eq, decide_eq_false_iff_not, Bool.or_eq_true, Bool.or_eq_false_iff, Bool.and_eq_true, Bool.and_eq_false_iff, Bool.not_eq_true', Bool.not_eq_false', bne_iff_ne, beq_iff_eq, bne_eq_false_iff_eq, beq_eq_false_iff_ne, ne_eq, Bool.not_true, Bool.not_false, Bool.false_eq_true, Bool.true_eq_false, inB_true, inB_false] at hpd); exact ps_loadsF (α := Ent) (l := O) (i := j) rfl (by (refine og rfl ?_; assumption)) (rds_row 2 rfl) rfl rfl (by omega) rfl)) ?_; refine okT_one_g1 (i := 13) rfl rfl (by kernel_rfl) rfl rfl rfl rfl rfl (gT _) (fun hp => by (have hpd := hp; (try simp only [decide_eq_true_eq, decide_eq_false_iff_not, Bool.or_eq_true, Bool.or_eq_false_iff, Bool.and_eq_true, Bool.and_eq_false_iff, Bool.not_eq_true', Bool.not_eq_false', bne_iff_ne, beq_iff_eq, bne_eq_false_iff_eq, beq_eq_false_iff_ne, ne_eq, Bool.not_true, Bool.not_false, Bool.false_eq_true, Bool.true_eq_false, inB_true, inB_false] at hpd); exact ms_s2 rfl (by (refine og rfl ?_; assumption)) (by (refine og rfl ?_; assumption)) (fun _ _ w hw => ahead_c (nth Q k) (nth O j) w))) (fun w h => by exact h) ?_; refine okT_take (i := 14) rfl (by kernel_rfl) rfl rfl rfl (by exact ps_and rfl rfl rfl) ?_; refine okT_done (by kernel_rfl) ?_; refine ok_nil ?_; refine ok_env [(0, _), (3, _), (4, _), (5, _), (6, _), (7, _), (8, _), (65, _)] ⟨rfl, rfl, rfl, rfl, rfl, rfl, rfl, rfl, trivial⟩ ?_)
        | (refine ok_region (i := 14) ?_; refine ok_p rfl rfl rfl (by exact ps_move rfl rfl) ?_; refine ok_p rfl rfl rfl (by exact ps_move rfl rfl) ?_; refine ok_p rfl rfl rfl (by exact ps_move rfl rfl) ?_; refine ok_p rfl rfl rfl (by exact ps_indexN rfl rfl rfl (by omega) (by exact isw_row 1 rfl (by omega))) ?_; refine ok_p rfl rfl rfl (by exact ps_loadsF (α := Ent) (l := Q) (i := k) rfl rfl (rds_row 1 rfl) rfl rfl (by omega) rfl) ?_; refine ok_m rfl rfl rfl (by exact ms_lit rfl (parts_cons rfl parts_nil) rfl rfl rfl) ?_; rintro y71 hy71; refine ok_m rfl rfl rfl (by exact ms_appF (α := Ent) (L := M) (M := [nth Q k]) 1 rfl rfl rfl rfl (rds_row 0 rfl) rfl (by simp; omega) (by simp; omega)) ?_; rintro y72 hy72; refine ok_p rfl rfl rfl (by exact ps_assign rfl rfl) ?_; refine ok_nil ?_; refine ok_env [(0, _), (3, _), (4, _), (5, _), (6, _), (7, _), (8, _)] ⟨rfl, rfl, rfl, rfl, rfl, rfl, rfl, trivial⟩ ?_)
        | (refine ok_region (i := 15) ?_; refine ok_p rfl rfl rfl (by exact ps_move rfl rfl) ?_; refine ok_p rfl rfl rfl (by exact ps_add rfl rfl rfl (by omega)) ?_; refine ok_p rfl rfl rfl (by exact ps_assign rfl rfl) ?_; refine ok_nil ?_; refine ok_env [(0, _), (3, _), (4, _), (5, _), (6, _), (7, _), (8, _)] ⟨rfl, rfl, rfl, rfl, rfl, rfl, rfl, trivial⟩ ?_)
        | (refine ok_draw (id := 16) 16 rfl (by kernel_rfl) (by kernel_rfl) rfl (by repeat (first | exact pq_body | refine pq_then ?_ | refine pq_in ?_)) [0, 1, 2, 3, 4, 5, 6, 7, 8, 9, 10, 11, 12, 13, 14, 15, 16, 17, 18, 19, 20, 21, 22, 23] (by decide) rfl ?_; refine okT_take (i := 0) rfl (by kernel_rfl) rfl rfl rfl (by exact ps_move rfl rfl) ?_; refine okT_take (i := 1) rfl (by kernel_rfl) rfl rfl rfl (by exact ps_move rfl rfl) ?_; refine okT_take (i := 2) rfl (by kernel_rfl) rfl rfl rfl (by exact ps_len rfl rfl) ?_; refine okT_take (i := 3) rfl (by kernel_rfl) rfl rfl rfl (by exact ps_int rfl rfl rfl rfl) ?_; refine okT_take (i := 4) rfl (by kernel_rfl) rfl rfl rfl (by exact ps_move rfl rfl) ?_; refine okT_take_g1 (i := 5) rfl (by kernel_rfl) rfl rfl rfl rfl rfl (gT _) (fun hp => by (have hpd := hp; (try simp only [decide_eq_true_eq, decide_eq_false_iff_not, Bool.or_eq_true, Bool.or_eq_false_iff, Bool.and_eq_true, Bool.and_eq_false_iff, Bool.not_eq_true', Bool.not_eq_false', bne_iff_ne, beq_iff_eq, bne_eq_false_iff_eq, beq_eq_false_iff_ne, ne_eq, Bool.not_true, Bool.not_false, Bool.false_eq_true, Bool.true_eq_false, inB_true, inB_false] at hpd); exact ps_move rfl (by exact rfl))) ?_; refine okT_take_g1 (i := 6) rfl (by kernel_rfl) rfl rfl rfl rfl rfl (gT _) (fun hp => by (have hpd := hp; (try simp only [decide_eq_true_eq, decide_eq_false_iff_not, Bool.or_eq_true, Bool.or_eq_false_iff, Bool.and_eq_true, Bool.and_eq_false_iff, Bool.not_eq_true', Bool.not_eq_false', bne_iff_ne, beq_iff_eq, bne_eq_false_iff_eq, beq_eq_false_iff_ne, ne_eq, Bool.not_true, Bool.not_false, Bool.false_eq_true, Bool.true_eq_false, inB_true, inB_false] at hpd); exact ps_move rfl (by exact rfl))) ?_; refine okT_take_g1 (i := 7) rfl (by kernel_rfl) rfl rfl rfl rfl rfl (gT _) (fun hp => by (have hpd := hp; (try simp only [decide_eq_true_eq, decide_eq_false_iff_not, Bool.or_eq_true, Bool.or_eq_false_iff, Bool.and_eq_true, Bool.and_eq_false_iff, Bool.not_eq_true', Bool.not_eq_false', bne_iff_ne, beq_iff_eq, bne_eq_false_iff_eq, beq_eq_false_iff_ne, ne_eq, Bool.not_true, Bool.not_false, Bool.false_eq_true, Bool.true_eq_false, inB_true, inB_false] at hpd); exact ps_indexN rfl (by (refine og rfl ?_; assumption)) (by (refine og rfl ?_; assumption)) (by omega) (by exact isw_row 2 rfl (by omega)))) ?_; refine okT_take_g1 (i := 8) rfl (by kernel_rfl) rfl rfl rfl rfl rfl (gT _) (fun hp => by (have hpd := hp; (try simp only [decide_eq_true_eq, decide_eq_false_iff_not, Bool.or_eq_true, Bool.or_eq_false_iff, Bool.and_eq_true, Bool.and_eq_false_iff, Bool.not_eq_true', Bool.not_eq_false', bne_iff_ne, beq_iff_eq, bne_eq_false_iff_eq, beq_eq_false_iff_ne, ne_eq, Bool.not_true, Bool.not_false, Bool.false_eq_true, Bool.true_eq_false, inB_true, inB_false] at hpd); exact ps_loadsF rfl (by (refine og rfl ?_; assumption)) (by exact rds_row 2 rfl) (by rfl) (by rfl) (by omega) rfl)) ?_; refine okT_take_g1 (i := 9) rfl (by kernel_rfl) rfl rfl rfl rfl rfl (gT _) (fun hp => by (have hpd := hp; (try simp only [decide_eq_true_eq, decide_eq_false_iff_not, Bool.or_eq_true, Bool.or_eq_false_iff, Bool.and_eq_true, Bool.and_eq_false_iff, Bool.not_eq_true', Bool.not_eq_false', bne_iff_ne, beq_iff_eq, bne_eq_false_iff_eq, beq_eq_false_iff_ne, ne_eq, Bool.not_true, Bool.not_false, Bool.false_eq_true, Bool.true_eq_false, inB_true, inB_false] at hpd); exact ps_move rfl (by exact rfl))) ?_; refine okT_take_g1 (i := 10) rfl (by kernel_rfl) rfl rfl rfl rfl rfl (gT _) (fun hp => by (have hpd := hp; (try simp only [decide_eq_true_eq, decide_eq_false_iff_not, Bool.or_eq_true, Bool.or_eq_false_iff, Bool.and_eq_true, Bool.and_eq_false_iff, Bool.not_eq_true', Bool.not_eq_false', bne_iff_ne, beq_iff_eq, bne_eq_false_iff_eq, beq_eq_false_iff_ne, ne_eq, Bool.not_true, Bool.not_false, Bool.false_eq_true, Bool.true_eq_false, inB_true, inB_false] at hpd); exact ps_move rfl (by exact rfl))) ?_; refine okT_take_g1 (i := 11) rfl (by kernel_rfl) rfl rfl rfl rfl rfl (gT _) (fun hp => by (have hpd := hp; (try simp only [decide_eq_true_eq, decide_eq_false_iff_not, Bool.or_eq_true, Bool.or_eq_false_iff, Bool.and_eq_true, Bool.and_eq_false_iff, Bool.not_eq_true', Bool.not_eq_false', bne_iff_ne, beq_iff_eq, bne_eq_false_iff_eq, beq_eq_false_iff_ne, ne_eq, Bool.not_true, Bool.not_false, Bool.false_eq_true, Bool.true_eq_false, inB_true, inB_false] at hpd); exact ps_indexN rfl (by (refine og rfl ?_; assumption)) (by (refine og rfl ?_; assumption)) (by omega) (by exact isw_row 1 rfl (by omega)))) ?_; refine okT_take_g1 (i := 12) rfl (by kernel_rfl) rfl rfl rfl rfl rfl (gT _) (fun hp => by (have hpd := hp; (try simp only [decide_eq_true_eq, decide_eq_false_iff_not, Bool.or_eq_true, Bool.or_eq_false_iff, Bool.and_eq_true, Bool.and_eq_false_iff, Bool.not_eq_true', Bool.not_eq_false', bne_iff_ne, beq_iff_eq, bne_eq_false_iff_eq, beq_eq_false_iff_ne, ne_eq, Bool.not_true, Bool.not_false, Bool.false_eq_true, Bool.true_eq_false, inB_true, inB_false] at hpd); exact ps_loadsF (α := Ent) (l := Q) (i := k) rfl (by (refine og rfl ?_; assumption)) (rds_row 1 rfl) rfl rfl (by omega) rfl)) ?_; refine okT_one_g1 (i := 13) rfl rfl (by kernel_rfl) rfl rfl rfl rfl rfl (gT _) (fun hp => by (have hpd := hp; (try simp only [decide_eq_true_eq, decide_eq_false_iff_not, Bool.or_eq_true, Bool.or_eq_false_iff, Bool.and_eq_true, Bool.and_eq_false_iff, Bool.not_eq_true', Bool.not_eq_false', bne_iff_ne, beq_iff_eq, bne_eq_false_iff_eq, beq_eq_false_iff_ne, ne_eq, Bool.not_true, Bool.not_false, Bool.false_eq_true, Bool.true_eq_false, inB_true, inB_false] at hpd); exact ms_s2 rfl (by (refine og rfl ?_; assumption)) (by (refine og rfl ?_; assumption)) (fun _ _ w hw => ahead_c (nth O j) (nth Q k) w))) (fun w h => by exact h) ?_; refine okT_take_g1 (i := 14) rfl (by kernel_rfl) rfl rfl rfl rfl rfl (gT _) (fun hp => by (have hpd := hp; (try simp only [decide_eq_true_eq, decide_eq_false_iff_not, Bool.or_eq_true, Bool.or_eq_false_iff, Bool.and_eq_true, Bool.and_eq_false_iff, Bool.not_eq_true', Bool.not_eq_false', bne_iff_ne, beq_iff_eq, bne_eq_false_iff_eq, beq_eq_false_iff_ne, ne_eq, Bool.not_true, Bool.not_false, Bool.false_eq_true, Bool.true_eq_false, inB_true, inB_false] at hpd); exact ps_not rfl (by (refine og rfl ?_; assumption)))) ?_; refine okT_take (i := 15) rfl (by kernel_rfl) rfl rfl rfl (by exact ps_and rfl rfl rfl) ?_; refine okT_done (by kernel_rfl) ?_; refine ok_nil ?_; refine ok_env [(0, _), (3, _), (4, _), (5, _), (6, _), (7, _), (8, _), (90, _)] ⟨rfl, rfl, rfl, rfl, rfl, rfl, rfl, rfl, trivial⟩ ?_)
        | (refine ok_region (i := 17) ?_; refine ok_p rfl rfl rfl (by exact ps_move rfl rfl) ?_; refine ok_p rfl rfl rfl (by exact ps_add rfl rfl rfl (by omega)) ?_; refine ok_p rfl rfl rfl (by exact ps_assign rfl rfl) ?_; refine ok_nil ?_; refine ok_env [(0, _), (3, _), (4, _), (5, _), (6, _), (7, _), (8, _)] ⟨rfl, rfl, rfl, rfl, rfl, rfl, rfl, trivial⟩ ?_)
        | (refine ok_region (i := 18) ?_; refine ok_p rfl rfl rfl (by exact ps_move rfl rfl) ?_; refine ok_p rfl rfl rfl (by exact ps_move rfl rfl) ?_; refine ok_p rfl rfl rfl (by exact ps_move rfl rfl) ?_; refine ok_p rfl rfl rfl (by exact ps_indexN rfl rfl rfl (by omega) (by exact isw_row 2 rfl (by omega))) ?_; refine ok_p rfl rfl rfl (by exact ps_loadsF (α := Ent) (l := O) (i := j) rfl rfl (rds_row 2 rfl) rfl rfl (by omega) rfl) ?_; refine ok_m rfl rfl rfl (by exact ms_lit rfl (parts_cons rfl parts_nil) rfl rfl rfl) ?_; rintro y98 hy98; refine ok_m rfl rfl rfl (by exact ms_appF (α := Ent) (L := M) (M := [nth O j]) 1 rfl rfl rfl rfl (rds_row 0 rfl) rfl (by simp; omega) (by simp; omega)) ?_; rintro y99 hy99; refine ok_p rfl rfl rfl (by exact ps_assign rfl rfl) ?_; refine ok_nil ?_; refine ok_env [(0, _), (3, _), (4, _), (5, _), (6, _), (7, _), (8, _)] ⟨rfl, rfl, rfl, rfl, rfl, rfl, rfl, trivial⟩ ?_))
      · refine fun a w' he hw => ⟨⟨k + 1, M ++ [nth Q k], (y72 0).A, (y72 0).c, by simp; omega, ?_⟩, by simp only; omega, he.sub ⟨rfl, rfl, rfl, rfl, by simp only [List.length_append]; rfl, rfl, rfl, trivial⟩, ?_⟩
        · rw [← HM.out, mrg_in hjo (by omega) hd.2, List.append_assoc]; rfl
        · simp only [List.length_append]; exact hw.tl
      · rename_i _ hq
        refine fun a w' he hw => ⟨⟨j + 1, k + 1, M ++ [nth O j], (y99 0).A, (y99 0).c, by simp; omega, ?_⟩, by simp only; omega, he.sub ⟨rfl, rfl, rfl, rfl, by simp only [List.length_append]; rfl, rfl, rfl, trivial⟩, ?_⟩
        · have hq2 : aheadE (nth Q k) (nth O j) = false := by
            rcases hq with hq | hq
            · omega
            · exact hq
          rw [← HM.out, mrg_both hjo (by omega) hq2 hd.2, List.append_assoc]; rfl
        · simp only [List.length_append]; exact hw.tl
      · rename_i _ hq
        refine fun a w' he hw => ⟨⟨j + 1, k, M ++ [nth O j], (y99 0).A, (y99 0).c, by simp; omega, ?_⟩, by simp only; omega, he.sub ⟨rfl, rfl, rfl, rfl, by simp only [List.length_append]; rfl, rfl, rfl, trivial⟩, ?_⟩
        · by_cases hk : k < Q.length
          · have hq2 : aheadE (nth Q k) (nth O j) = false := by
              rcases hq with hq | hq
              · omega
              · exact hq
            have hd2 : aheadE (nth O j) (nth Q k) = true := by
              rcases hd with hd | hd
              · omega
              · exact hd
            rw [← HM.out, mrg_out hjo hk hq2 hd2, List.append_assoc]; rfl
          · rw [← HM.out, mrg_end hjo hk, List.append_assoc]; rfl
        · simp only [List.length_append]; exact hw.tl
    · have hln : (M ++ Q.drop k).length = M.length + (Q.length - k) := by rw [List.length_append, List.length_drop]
      refine fun a w' he hw => ⟨⟨i + 1, M ++ Q.drop k, (y104 0).A, (y104 0).c, by omega, ?_⟩, by simp only; omega, he.sub ⟨rfl, by simp only [hln]; rfl, rfl, trivial⟩, ?_⟩
      · rw [HST.out HOE.out, ← EQ.out, ← HM.out, List.drop_of_length_le (show O.length ≤ j by omega), mrg]
      · simp only [hln]; exact hw.sel [0] (by decide) rfl (fun _ h => h)
  · have hO : O = mergeS (dats R) := by
      have := HOE.out
      rw [show i = R.length by omega, ← dats_len R, List.take_length] at this
      exact this
    refine ok_loop (ι := { k : Nat // k ≤ R.length }) (fun k => R.length - k.1) (fun k => ([(0, .slice A R.length c), (3, .slice B O.length d), (9, .int .i64 (offR List.length (dats R) k.1 : Int)), (10, .int .i64 k.1)], [.row 71 4 B O.length d (fl O)], [w])) ⟨0, by omega⟩ (fun a w he hw => ⟨⟨0, by omega⟩, he.sub ⟨rfl, rfl, rfl, rfl, trivial⟩, hw⟩) ?_
    rintro ⟨k, hk⟩
    simp only at hk ⊢
    have ht1 := HT.out (k + 1)
    have ht2 := HT.out k
    have hnk := fun h => HN.out k h
    have HNK := Lib.hid hnk; clear hnk
    repeat' (first
      | refine ok_seq ?_
      | refine ok_then ?_
      | refine ok_then_ret ?_
      | refine ok_block ?_
      | refine ok_in_normal ?_
      | (refine ok_cond rfl (fun hc => ?_) (fun hc => ?_) <;> (have hd := hc; (try simp only [decide_eq_true_eq, decide_eq_false_iff_not, Bool.or_eq_true, Bool.or_eq_false_iff, Bool.and_eq_true, Bool.and_eq_false_iff, Bool.not_eq_true', Bool.not_eq_false', bne_iff_ne, beq_iff_eq, bne_eq_false_iff_eq, beq_eq_false_iff_ne, ne_eq, Bool.not_true, Bool.not_false, Bool.false_eq_true, Bool.true_eq_false, inB_true, inB_false] at hd)))
      | refine ok_ret ?_
      | refine ok_exit ?_
      | refine ok_skip ?_
      | (refine ok_region (i := 22) ?_; refine ok_p rfl rfl rfl (by exact ps_move rfl rfl) ?_; refine ok_p rfl rfl rfl (by exact ps_move rfl rfl) ?_; refine ok_p rfl rfl rfl (by exact ps_len rfl rfl) ?_; refine ok_p rfl rfl rfl (by exact ps_int rfl rfl rfl rfl) ?_; refine ok_nil ?_; refine ok_env [(0, _), (3, _), (9, _), (10, _), (108, _)] ⟨rfl, rfl, rfl, rfl, rfl, trivial⟩ ?_)
      | (refine ok_region (i := 23) ?_; refine ok_p rfl rfl rfl (by exact ps_move rfl rfl) ?_; refine ok_p rfl rfl rfl (by exact ps_add rfl rfl rfl (by omega)) ?_; refine ok_p rfl rfl rfl (by exact ps_assign rfl rfl) ?_; refine ok_nil ?_; refine ok_env [(0, _), (3, _), (9, _), (10, _)] ⟨rfl, rfl, rfl, rfl, trivial⟩ ?_)
      | (refine ok_region (i := 24) ?_; refine ok_p rfl rfl rfl (by exact ps_move rfl rfl) ?_; refine ok_p rfl rfl rfl (by exact ps_move rfl rfl) ?_; refine ok_p rfl rfl rfl (by exact ps_move rfl rfl) ?_; refine ok_p rfl rfl rfl (by exact ps_indexN rfl rfl rfl (by omega) (by exact isw_of (isS_fl (by assumption) (by omega)))) ?_; refine ok_p rfl rfl rfl (by exact ps_load rfl rfl (by exact Rds.cell (rds_rf (by assumption) (by exact List.mem_cons_self)) (by exact fl_at0 _ _ (by omega) (by decide)))) ?_; refine ok_p rfl rfl rfl (by exact ps_len rfl rfl) ?_; refine ok_p rfl rfl rfl (by exact ps_cast (v' := .int .i64 (offR List.length (dats R) (k + 1) : Int)) (ps_add (n := ((nth R k).d.length : Int)) rfl rfl rfl (by have := HNK.out (by omega); omega)) (by have := HNK.out (by omega); congr 1; omega)) ?_; refine ok_p rfl rfl rfl (by exact ps_assign rfl rfl) ?_; refine ok_nil ?_; refine ok_env [(0, _), (3, _), (9, _), (10, _)] ⟨rfl, rfl, rfl, rfl, trivial⟩ ?_)
      | (refine ok_region (i := 25) ?_; refine ok_p rfl rfl rfl (by exact ps_move rfl rfl) ?_; refine ok_p rfl rfl rfl (by exact ps_int rfl rfl rfl rfl) ?_; refine ok_nil ?_; refine ok_env [(3, _), (119, _)] ⟨rfl, rfl, trivial⟩ ?_)
      | (refine ok_region (i := 26) ?_; refine ok_m rfl rfl rfl (by exact ms_lit rfl parts_nil rfl rfl rfl) ?_; rintro y120 hy120; refine ok_p rfl rfl rfl (by exact ps_assign rfl rfl) ?_; refine ok_nil ?_; refine ok_env [(2, _)] ⟨rfl, trivial⟩ ?_)
      | (refine ok_region (i := 27) ?_; refine ok_p rfl rfl rfl (by exact ps_move rfl rfl) ?_; refine ok_p rfl rfl rfl (by exact ps_assign rfl rfl) ?_; refine ok_nil ?_; refine ok_env [(2, _)] ⟨rfl, trivial⟩ ?_))
    · exact fun a w' he hw => ⟨⟨k + 1, by omega⟩, by simp only; omega, he.sub ⟨rfl, rfl, rfl, rfl, trivial⟩, hw⟩
    · exfalso; omega
    · rw [← hO]
      exact ok_endL (vs := [_]) rfl ⟨rfl, trivial⟩ (fun w' hw => ⟨yl [⟨B, d, w', 0⟩] ⟨B, d, w', 0⟩, rfl, trivial, hw.below, NewOk.of (hw.sel [0] (by decide) rfl (G' := []) (fun _ h => by cases h))⟩)
end Go.Proofs.Ytbegbdfbfbkflaa
