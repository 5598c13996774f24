/- The reader of the program, the pieces that the reference takes. -/
import Derived.Test.YtbegbdfbfbkflaaRv
namespace Go.Proofs.Ytbegbdfbfbkflaa
open Go.RowKit
set_option maxHeartbeats 4000000
set_option maxRecDepth 20000
set_option linter.unusedVariables false
set_option linter.unusedSimpArgs false
section
variable {P : Program} {E : Env} {H : List HObj} {G : List World} {o : Oper}
theorem ps_sslE {x : Operand} {lo hi : Option Operand} {t : TypeId} {s : ByteArray} (l h : Nat) [ht : SS P t] (ho : o.op = .slice t x lo hi none) (hx : opd E x = some (.string s))
    (hlo : (match lo with | none => l = 0 | some y => ∃ k z, opd E y = some (.int k z) ∧ z = (l : Int))) (hhi : (match hi with | none => h = s.size | some y => ∃ k z, opd E y = some (.int k z) ∧ z = (h : Int))) (h1 : l ≤ h) (h2 : h ≤ s.size) :
    PStep P E H G o (.string (s.extract l h)) := by
  refine ps_sslice ho hx ?_ ?_ h1 h2
  · cases lo with
    | none => subst hlo; rfl
    | some y => obtain ⟨k, z, a, b⟩ := hlo; subst b; exact ⟨k, a⟩
  · cases hi with
    | none => exact hhi
    | some y => obtain ⟨k, z, a, b⟩ := hhi; subst b; exact ⟨k, a⟩
end
/-- A number that stands at a place, and where it ends; a string with its length ahead. -/
def tkN (s : ByteArray) (k : Nat) : Option (Nat × Nat) := (rv ((bl s).drop k)).map fun p => (p.1, k + p.2)
def tkS (s : ByteArray) (k : Nat) : Option (ByteArray × Nat) := (tkN s k).bind fun p => if p.2 + p.1 ≤ s.size then some (s.extract p.2 (p.2 + p.1), p.2 + p.1) else none
theorem tkN_some {s : ByteArray} {k n e : Nat} (h : tkN s k = some (n, e)) : k < e ∧ e ≤ s.size ∧ e ≤ k + 7 ∧ n < 562949953421312 ∧ (bl s).drop k = varL n ++ (bl s).drop e := by
  unfold tkN at h
  cases hr : rv ((bl s).drop k) with
  | none => rw [hr] at h; cases h
  | some p =>
    obtain ⟨m, z⟩ := p
    rw [hr] at h
    cases h
    obtain ⟨a, b, c, d, f⟩ := rv_some hr
    rw [List.length_drop, bl_len] at c
    refine ⟨by omega, by omega, by omega, d, ?_⟩
    rw [f, ← List.drop_drop]
    exact (List.take_append_drop z _).symm
theorem tkS_some {s r : ByteArray} {k e : Nat} (h : tkS s k = some (r, e)) : k < e ∧ e ≤ s.size ∧ (bl s).drop k = bl (pieceS r) ++ (bl s).drop e := by
  unfold tkS at h
  cases hr : tkN s k with
  | none => rw [hr] at h; cases h
  | some p =>
    obtain ⟨n, q⟩ := p
    rw [hr] at h
    simp only [Option.bind_some] at h
    split at h
    · rename_i hle
      cases h
      obtain ⟨a, b, c, d, f⟩ := tkN_some hr
      have hz : (s.extract q (q + n)).size = n := by rw [ByteArray.size_extract]; omega
      refine ⟨by omega, by omega, ?_⟩
      rw [f]
      unfold pieceS
      rw [bl_app, hz, bl_extract, List.append_assoc]
      have e1 : bl (vS n) = varL n := rfl
      rw [e1]
      congr 1
      rw [← List.drop_drop, List.drop_take, show q + n - q = n by omega]
      exact (List.take_append_drop n _).symm
    · cases h
theorem rvN_tk (s : ByteArray) (k : Nat) (hk : k ≤ s.size) : rvN (bl (s.extract k s.size)) = rvN ((bl s).drop k) := by
  rw [bl_extract, List.take_of_length_le (by rw [bl_len]; omega)]
theorem tkN_z (s : ByteArray) (k : Nat) : tkN s k = if (rvN ((bl s).drop k)).2 = 0 then none else some ((rvN ((bl s).drop k)).1, k + (rvN ((bl s).drop k)).2) := by
  unfold tkN rvN
  cases hr : rv ((bl s).drop k) with
  | none => rfl
  | some p =>
    obtain ⟨m, z⟩ := p
    have := (rv_some hr).1
    simp only [Option.map_some, Option.getD_some]
    rw [if_neg (by omega)]
/-- What the reader does: the place and the flag behind it. -/
def rdN (s : ByteArray) (k : Nat) (bad : Bool) : Nat × Nat × Bool := if bad = true then (0, k, true) else match tkN s k with
  | none => (0, k, true)
  | some (n, e) => (n, e, false)
def rdB (s : ByteArray) (n k : Nat) (bad : Bool) : ByteArray × Nat × Bool := if bad = true ∨ s.size < k + n then (⟨#[]⟩, k, true) else (s.extract k (k + n), k + n, false)
def rdS (s : ByteArray) (k : Nat) (bad : Bool) : ByteArray × Nat × Bool := rdB s (rdN s k bad).1 (rdN s k bad).2.1 (rdN s k bad).2.2
theorem rdN_le (s : ByteArray) (k : Nat) (bad : Bool) (h : k ≤ s.size) : (rdN s k bad).2.1 ≤ s.size ∧ (rdN s k bad).1 < 562949953421312 := by
  unfold rdN
  split
  · exact ⟨h, by omega⟩
  · split
    · exact ⟨h, by omega⟩
    · rename_i n e hn
      have := tkN_some hn
      exact ⟨this.2.1, this.2.2.2.1⟩
theorem rdB_le (s : ByteArray) (n k : Nat) (bad : Bool) (h : k ≤ s.size) : (rdB s n k bad).2.1 ≤ s.size := by
  unfold rdB
  split
  · exact h
  · simp only; omega
theorem rdS_le (s : ByteArray) (k : Nat) (bad : Bool) (h : k ≤ s.size) : (rdS s k bad).2.1 ≤ s.size := rdB_le _ _ _ _ (rdN_le s k bad h).1
theorem rdS_tk (s : ByteArray) (k : Nat) : (rdS s k false).2.2 = (tkS s k).isNone ∧ ∀ r e, tkS s k = some (r, e) → rdS s k false = (r, e, false) := by
  unfold rdS rdN tkS
  cases h : tkN s k with
  | none => simp [rdB]
  | some p =>
    obtain ⟨n, e⟩ := p
    simp only [Option.bind_some, if_neg (show ¬ (false = true) by simp)]
    unfold rdB
    by_cases hle : e + n ≤ s.size
    · rw [if_pos hle, if_neg (by simp; omega)]
      simp
    · rw [if_neg hle, if_pos (by right; omega)]
      simp
theorem rdS_bad (s : ByteArray) (k : Nat) : (rdS s k true).2.2 = true := by simp [rdS, rdN, rdB]
attribute [local irreducible] Calls
abbrev rdr (g : Nat) (s : ByteArray) (k : Nat) (bad : Bool) : HObj := .box g 153 [.string s, .int .i64 k, .bool bad]
theorem rdB_c (g : Nat) (s : ByteArray) (n k : Nat) (bad : Bool) (hs : s.size ≤ 4194304) (hk : k ≤ s.size) (hn : n < 562949953421312) {base : Nat} {w0 w : World} {H : List HObj} {G : List World} (hw : WOk base w0 (rdr g s k bad :: H) G w) :
    Calls Try.prog 182 #[pt (ga g) 0, .int .i64 n] w fun e w' => ∃ y : Ys, e = .returned (.string (rdB s n k bad).1) ∧ True ∧ WOk base w0 (rdr g s (rdB s n k bad).2.1 (rdB s n k bad).2.2 :: H) G w' := by
  refine ok_enterW 49 Try.func182 rfl rfl rfl hw ?_
  repeat' (first
    | refine ok_seq ?_
    | refine ok_then ?_
    | refine ok_then_ret ?_
    | (refine ok_cond rfl (fun hc => ?_) (fun hc => ?_) <;> (have hd := hc; (try simp only [decide_eq_true_eq, decide_eq_false_iff_not, Bool.or_eq_true, Bool.or_eq_false_iff, Bool.and_eq_true, Bool.and_eq_false_iff, Bool.not_eq_true', Bool.not_eq_false', bne_iff_ne, beq_iff_eq, bne_eq_false_iff_eq, beq_eq_false_iff_ne, ne_eq, Bool.not_true, Bool.not_false, Bool.false_eq_true, Bool.true_eq_false, inB_true, inB_false] at hd)))
    | refine ok_ret ?_
    | refine ok_skip ?_
    | (refine ok_region (i := 0) ?_; refine ok_p rfl rfl rfl (by exact ps_assign rfl rfl) ?_; refine ok_nil ?_; refine ok_env [(0, _), (1, _)] ⟨rfl, rfl, trivial⟩ ?_)
    | (refine ok_draw (id := 1) 18 rfl (by kernel_rfl) (by kernel_rfl) rfl (by repeat (first | exact pq_body | refine pq_then ?_ | refine pq_in ?_)) [0, 1, 2, 3, 4, 5, 6, 7, 8, 9, 10, 11, 12, 13, 14, 15, 16, 17, 18, 19, 20, 21, 22, 23] (by decide) rfl ?_; refine okT_take (i := 0) rfl (by kernel_rfl) rfl rfl rfl (by exact ps_move rfl rfl) ?_; refine okT_take (i := 1) rfl (by kernel_rfl) rfl rfl rfl (by exact ps_nil rfl rfl (by exact isw_ga _)) ?_; refine okT_take (i := 2) rfl (by kernel_rfl) rfl rfl rfl (by exact ps_field rfl rfl (by exact isw_ga _)) ?_; refine okT_take (i := 3) rfl (by kernel_rfl) rfl rfl rfl (by exact ps_load rfl rfl (by exact Rds.cell (rds_box 0 rfl) rfl)) ?_; refine okT_take (i := 4) rfl (by kernel_rfl) rfl rfl rfl (by exact ps_move rfl rfl) ?_; refine okT_take_g1 (i := 5) rfl (by kernel_rfl) rfl rfl rfl rfl rfl (gF _) (fun hp => by (have hpd := hp; (try simp only [decide_eq_true_eq, decide_eq_false_iff_not, Bool.or_eq_true, Bool.or_eq_false_iff, Bool.and_eq_true, Bool.and_eq_false_iff, Bool.not_eq_true', Bool.not_eq_false', bne_iff_ne, beq_iff_eq, bne_eq_false_iff_eq, beq_eq_false_iff_ne, ne_eq, Bool.not_true, Bool.not_false, Bool.false_eq_true, Bool.true_eq_false, inB_true, inB_false] at hpd); exact ps_move rfl (by exact rfl))) ?_; refine okT_take_g1 (i := 6) rfl (by kernel_rfl) rfl rfl rfl rfl rfl (gF _) (fun hp => by (have hpd := hp; (try simp only [decide_eq_true_eq, decide_eq_false_iff_not, Bool.or_eq_true, Bool.or_eq_false_iff, Bool.and_eq_true, Bool.and_eq_false_iff, Bool.not_eq_true', Bool.not_eq_false', bne_iff_ne, beq_iff_eq, bne_eq_false_iff_eq, beq_eq_false_iff_ne, ne_eq, Bool.not_true, Bool.not_false, Bool.false_eq_true, Bool.true_eq_false, inB_true, inB_false] at hpd); exact ps_move rfl (by exact rfl))) ?_; refine okT_take_g1 (i := 7) rfl (by kernel_rfl) rfl rfl rfl rfl rfl (gF _) (fun hp => by (have hpd := hp; (try simp only [decide_eq_true_eq, decide_eq_false_iff_not, Bool.or_eq_true, Bool.or_eq_false_iff, Bool.and_eq_true, Bool.and_eq_false_iff, Bool.not_eq_true', Bool.not_eq_false', bne_iff_ne, beq_iff_eq, bne_eq_false_iff_eq, beq_eq_false_iff_ne, ne_eq, Bool.not_true, Bool.not_false, Bool.false_eq_true, Bool.true_eq_false, inB_true, inB_false] at hpd); exact ps_nil rfl (by (refine og rfl ?_; assumption)) (by exact isw_ga _))) ?_; refine okT_take_g1 (i := 8) rfl (by kernel_rfl) rfl rfl rfl rfl rfl (gF _) (fun hp => by (have hpd := hp; (try simp only [decide_eq_true_eq, decide_eq_false_iff_not, Bool.or_eq_true, Bool.or_eq_false_iff, Bool.and_eq_true, Bool.and_eq_false_iff, Bool.not_eq_true', Bool.not_eq_false', bne_iff_ne, beq_iff_eq, bne_eq_false_iff_eq, beq_eq_false_iff_ne, ne_eq, Bool.not_true, Bool.not_false, Bool.false_eq_true, Bool.true_eq_false, inB_true, inB_false] at hpd); exact ps_field rfl (by (refine og rfl ?_; assumption)) (by exact isw_ga _))) ?_; refine okT_take_g1 (i := 9) rfl (by kernel_rfl) rfl rfl rfl rfl rfl (gF _) (fun hp => by (have hpd := hp; (try simp only [decide_eq_true_eq, decide_eq_false_iff_not, Bool.or_eq_true, Bool.or_eq_false_iff, Bool.and_eq_true, Bool.and_eq_false_iff, Bool.not_eq_true', Bool.not_eq_false', bne_iff_ne, beq_iff_eq, bne_eq_false_iff_eq, beq_eq_false_iff_ne, ne_eq, Bool.not_true, Bool.not_false, Bool.false_eq_true, Bool.true_eq_false, inB_true, inB_false] at hpd); exact ps_load rfl (by (refine og rfl ?_; assumption)) (by exact Rds.cell (rds_box 0 rfl) rfl))) ?_; refine okT_take_g1 (i := 10) rfl (by kernel_rfl) rfl rfl rfl rfl rfl (gF _) (fun hp => by (have hpd := hp; (try simp only [decide_eq_true_eq, decide_eq_false_iff_not, Bool.or_eq_true, Bool.or_eq_false_iff, Bool.and_eq_true, Bool.and_eq_false_iff, Bool.not_eq_true', Bool.not_eq_false', bne_iff_ne, beq_iff_eq, bne_eq_false_iff_eq, beq_eq_false_iff_ne, ne_eq, Bool.not_true, Bool.not_false, Bool.false_eq_true, Bool.true_eq_false, inB_true, inB_false] at hpd); exact ps_slen rfl (by (refine og rfl ?_; assumption)))) ?_; refine okT_take_g1 (i := 11) rfl (by kernel_rfl) rfl rfl rfl rfl rfl (gF _) (fun hp => by (have hpd := hp; (try simp only [decide_eq_true_eq, decide_eq_false_iff_not, Bool.or_eq_true, Bool.or_eq_false_iff, Bool.and_eq_true, Bool.and_eq_false_iff, Bool.not_eq_true', Bool.not_eq_false', bne_iff_ne, beq_iff_eq, bne_eq_false_iff_eq, beq_eq_false_iff_ne, ne_eq, Bool.not_true, Bool.not_false, Bool.false_eq_true, Bool.true_eq_false, inB_true, inB_false] at hpd); exact ps_move rfl (by exact rfl))) ?_; refine okT_take_g1 (i := 12) rfl (by kernel_rfl) rfl rfl rfl rfl rfl (gF _) (fun hp => by (have hpd := hp; (try simp only [decide_eq_true_eq, decide_eq_false_iff_not, Bool.or_eq_true, Bool.or_eq_false_iff, Bool.and_eq_true, Bool.and_eq_false_iff, Bool.not_eq_true', Bool.not_eq_false', bne_iff_ne, beq_iff_eq, bne_eq_false_iff_eq, beq_eq_false_iff_ne, ne_eq, Bool.not_true, Bool.not_false, Bool.false_eq_true, Bool.true_eq_false, inB_true, inB_false] at hpd); exact ps_nil rfl (by (refine og rfl ?_; assumption)) (by exact isw_ga _))) ?_; refine okT_take_g1 (i := 13) rfl (by kernel_rfl) rfl rfl rfl rfl rfl (gF _) (fun hp => by (have hpd := hp; (try simp only [decide_eq_true_eq, decide_eq_false_iff_not, Bool.or_eq_true, Bool.or_eq_false_iff, Bool.and_eq_true, Bool.and_eq_false_iff, Bool.not_eq_true', Bool.not_eq_false', bne_iff_ne, beq_iff_eq, bne_eq_false_iff_eq, beq_eq_false_iff_ne, ne_eq, Bool.not_true, Bool.not_false, Bool.false_eq_true, Bool.true_eq_false, inB_true, inB_false] at hpd); exact ps_field rfl (by (refine og rfl ?_; assumption)) (by exact isw_ga _))) ?_; refine okT_take_g1 (i := 14) rfl (by kernel_rfl) rfl rfl rfl rfl rfl (gF _) (fun hp => by (have hpd := hp; (try simp only [decide_eq_true_eq, decide_eq_false_iff_not, Bool.or_eq_true, Bool.or_eq_false_iff, Bool.and_eq_true, Bool.and_eq_false_iff, Bool.not_eq_true', Bool.not_eq_false', bne_iff_ne, beq_iff_eq, bne_eq_false_iff_eq, beq_eq_false_iff_ne, ne_eq, Bool.not_true, Bool.not_false, Bool.false_eq_true, Bool.true_eq_false, inB_true, inB_false] at hpd); exact ps_load rfl (by (refine og rfl ?_; assumption)) (by exact Rds.cell (rds_box 0 rfl) rfl))) ?_; refine okT_take_g1 (i := 15) rfl (by kernel_rfl) rfl rfl rfl rfl rfl (gF _) (fun hp => by (have hpd := hp; (try simp only [decide_eq_true_eq, decide_eq_false_iff_not, Bool.or_eq_true, Bool.or_eq_false_iff, Bool.and_eq_true, Bool.and_eq_false_iff, Bool.not_eq_true', Bool.not_eq_false', bne_iff_ne, beq_iff_eq, bne_eq_false_iff_eq, beq_eq_false_iff_ne, ne_eq, Bool.not_true, Bool.not_false, Bool.false_eq_true, Bool.true_eq_false, inB_true, inB_false] at hpd); exact ps_sub rfl (by (refine og rfl ?_; assumption)) (by (refine og rfl ?_; assumption)) (by omega))) ?_; refine okT_take_g1 (i := 16) rfl (by kernel_rfl) rfl rfl rfl rfl rfl (gF _) (fun hp => by (have hpd := hp; (try simp only [decide_eq_true_eq, decide_eq_false_iff_not, Bool.or_eq_true, Bool.or_eq_false_iff, Bool.and_eq_true, Bool.and_eq_false_iff, Bool.not_eq_true', Bool.not_eq_false', bne_iff_ne, beq_iff_eq, bne_eq_false_iff_eq, beq_eq_false_iff_ne, ne_eq, Bool.not_true, Bool.not_false, Bool.false_eq_true, Bool.true_eq_false, inB_true, inB_false] at hpd); exact ps_int rfl (by (refine og rfl ?_; assumption)) (by (refine og rfl ?_; assumption)) rfl)) ?_; refine okT_take (i := 17) rfl (by kernel_rfl) rfl rfl rfl (by exact ps_or rfl rfl rfl) ?_; refine okT_done (by kernel_rfl) ?_; refine ok_nil ?_; refine ok_env [(0, _), (1, _), (22, _)] ⟨rfl, rfl, rfl, trivial⟩ ?_)
    | (refine ok_region (i := 2) ?_; refine ok_p rfl rfl rfl (by exact ps_move rfl rfl) ?_; refine ok_p rfl rfl rfl (by exact ps_nil rfl rfl (by exact isw_ga _)) ?_; refine ok_p rfl rfl rfl (by exact ps_field rfl rfl (by exact isw_ga _)) ?_; refine ok_m_ rfl rfl (by exact ms_store 0 rfl rfl rfl rfl rfl rfl rfl rfl) ?_; rintro y_ hy_; refine ok_nil ?_; refine ok_env [] trivial ?_)
    | (refine ok_region (i := 3) ?_; refine ok_p rfl rfl rfl (by exact ps_assign rfl rfl) ?_; refine ok_nil ?_; refine ok_env [(4, _)] ⟨rfl, trivial⟩ ?_)
    | (refine ok_region (i := 4) ?_; refine ok_p rfl rfl rfl (by exact ps_move rfl rfl) ?_; refine ok_p rfl rfl rfl (by exact ps_nil rfl rfl (by exact isw_ga _)) ?_; refine ok_p rfl rfl rfl (by exact ps_field rfl rfl (by exact isw_ga _)) ?_; refine ok_p rfl rfl rfl (by exact ps_load rfl rfl (by exact Rds.cell (rds_box 0 rfl) rfl)) ?_; refine ok_p rfl rfl rfl (by exact ps_move rfl rfl) ?_; refine ok_p rfl rfl rfl (by exact ps_add rfl rfl rfl (by omega)) ?_; refine ok_p rfl rfl rfl (by exact ps_nil rfl rfl (by exact isw_ga _)) ?_; refine ok_p rfl rfl rfl (by exact ps_field rfl rfl (by exact isw_ga _)) ?_; refine ok_m_ rfl rfl (by exact ms_store 0 rfl rfl rfl rfl rfl rfl rfl rfl) ?_; rintro y_ hy_; refine ok_nil ?_; refine ok_env [(0, _), (1, _)] ⟨rfl, rfl, trivial⟩ ?_)
    | (refine ok_draw (id := 5) 16 rfl (by kernel_rfl) (by kernel_rfl) rfl (by repeat (first | exact pq_body | refine pq_then ?_ | refine pq_in ?_)) [0, 1, 2, 3, 4, 5, 6, 7, 8, 9, 10, 11, 12, 13, 14, 15, 16, 17, 18, 19, 20, 21, 22, 23] (by decide) rfl ?_; refine okT_take (i := 0) rfl (by kernel_rfl) rfl rfl rfl (by exact ps_move rfl rfl) ?_; refine okT_take (i := 1) rfl (by kernel_rfl) rfl rfl rfl (by exact ps_nil rfl rfl (by exact isw_ga _)) ?_; refine okT_take (i := 2) rfl (by kernel_rfl) rfl rfl rfl (by exact ps_field rfl rfl (by exact isw_ga _)) ?_; refine okT_take (i := 3) rfl (by kernel_rfl) rfl rfl rfl (by exact ps_load rfl rfl (by exact Rds.cell (rds_box 0 rfl) rfl)) ?_; refine okT_take (i := 4) rfl (by kernel_rfl) rfl rfl rfl (by exact ps_move rfl rfl) ?_; refine okT_take (i := 5) rfl (by kernel_rfl) rfl rfl rfl (by exact ps_nil rfl rfl (by exact isw_ga _)) ?_; refine okT_take (i := 6) rfl (by kernel_rfl) rfl rfl rfl (by exact ps_field rfl rfl (by exact isw_ga _)) ?_; refine okT_take (i := 7) rfl (by kernel_rfl) rfl rfl rfl (by exact ps_load rfl rfl (by exact Rds.cell (rds_box 0 rfl) rfl)) ?_; refine okT_take (i := 8) rfl (by kernel_rfl) rfl rfl rfl (by exact ps_move rfl rfl) ?_; refine okT_take (i := 9) rfl (by kernel_rfl) rfl rfl rfl (by exact ps_sub rfl rfl rfl (by omega)) ?_; refine okT_take (i := 10) rfl (by kernel_rfl) rfl rfl rfl (by exact ps_move rfl rfl) ?_; refine okT_take (i := 11) rfl (by kernel_rfl) rfl rfl rfl (by exact ps_nil rfl rfl (by exact isw_ga _)) ?_; refine okT_take (i := 12) rfl (by kernel_rfl) rfl rfl rfl (by exact ps_field rfl rfl (by exact isw_ga _)) ?_; refine okT_take (i := 13) rfl (by kernel_rfl) rfl rfl rfl (by exact ps_load rfl rfl (by exact Rds.cell (rds_box 0 rfl) rfl)) ?_; refine okT_take (i := 14) rfl (by kernel_rfl) rfl rfl rfl (by exact ps_sslE k (k + n) rfl rfl ⟨_, _, rfl, by omega⟩ ⟨_, _, rfl, by omega⟩ (by omega) (by omega)) ?_; refine okT_take (i := 15) rfl (by kernel_rfl) rfl rfl rfl (by exact ps_assign rfl rfl) ?_; refine okT_done (by kernel_rfl) ?_; refine ok_nil ?_; refine ok_env [(4, _)] ⟨rfl, trivial⟩ ?_))
  · have e : rdB s n k bad = (⟨#[]⟩, k, true) := by
      unfold rdB; rw [if_pos (by rcases hd with h | h; exact .inl h; exact .inr (by omega))]
    rw [e]
    exact ok_endL (vs := [_]) rfl ⟨rfl, trivial⟩ (fun w' hw => ⟨mkY none 0 w, rfl, trivial, hw⟩)
  · have e : rdB s n k bad = (s.extract k (k + n), k + n, false) := by
      unfold rdB; rw [if_neg (by rintro (h | h); rw [hd.1] at h; cases h; omega)]
    obtain rfl : bad = false := hd.1
    rw [e]
    exact ok_endL (vs := [_]) rfl ⟨rfl, trivial⟩ (fun w' hw => ⟨mkY none 0 w, rfl, trivial, hw⟩)
theorem rdN_c (g : Nat) (s : ByteArray) (k : Nat) (bad : Bool) (hs : s.size ≤ 4194304) (hk : k ≤ s.size) {base : Nat} {w0 w : World} {H : List HObj} {G : List World} (hw : WOk base w0 (rdr g s k bad :: H) G w) :
    Calls Try.prog 124 #[pt (ga g) 0] w fun e w' => ∃ y : Ys, e = .returned (.int .i64 (rdN s k bad).1) ∧ True ∧ WOk base w0 (rdr g s (rdN s k bad).2.1 (rdN s k bad).2.2 :: H) G w' := by
  have q := rvN_tk s k hk
  have z := tkN_z s k
  have qb : k + (rvN ((bl s).drop k)).2 ≤ s.size ∧ (rvN ((bl s).drop k)).2 ≤ 7 := by
    by_cases h0 : (rvN ((bl s).drop k)).2 = 0
    · omega
    · rw [if_neg h0] at z
      have := tkN_some z
      omega
  refine ok_enterW 36 Try.func124 rfl rfl rfl hw ?_
  repeat' (first
    | refine ok_seq ?_
    | refine ok_then ?_
    | refine ok_then_ret ?_
    | (refine ok_cond rfl (fun hc => ?_) (fun hc => ?_) <;> (have hd := hc; (try simp only [decide_eq_true_eq, decide_eq_false_iff_not, Bool.or_eq_true, Bool.or_eq_false_iff, Bool.and_eq_true, Bool.and_eq_false_iff, Bool.not_eq_true', Bool.not_eq_false', bne_iff_ne, beq_iff_eq, bne_eq_false_iff_eq, beq_eq_false_iff_ne, ne_eq, Bool.not_true, Bool.not_false, Bool.false_eq_true, Bool.true_eq_false, inB_true, inB_false] at hd)))
    | refine ok_ret ?_
    | refine ok_skip ?_
    | (refine ok_region (i := 0) ?_; refine ok_p rfl rfl rfl (by exact ps_assign rfl rfl) ?_; refine ok_nil ?_; refine ok_env [(0, _)] ⟨rfl, trivial⟩ ?_)
    | (refine ok_region (i := 1) ?_; refine ok_p rfl rfl rfl (by exact ps_move rfl rfl) ?_; refine ok_p rfl rfl rfl (by exact ps_nil rfl rfl (by exact isw_ga _)) ?_; refine ok_p rfl rfl rfl (by exact ps_field rfl rfl (by exact isw_ga _)) ?_; refine ok_p rfl rfl rfl (by exact ps_load rfl rfl (by exact Rds.cell (rds_box 0 rfl) rfl)) ?_; refine ok_nil ?_; refine ok_env [(0, _), (8, _)] ⟨rfl, rfl, trivial⟩ ?_)
    | (refine ok_region (i := 2) ?_; refine ok_p rfl rfl rfl (by exact ps_assign rfl rfl) ?_; refine ok_nil ?_; refine ok_env [(2, _)] ⟨rfl, trivial⟩ ?_))
  · have e : rdN s k bad = (0, k, true) := by unfold rdN; rw [if_pos hd]
    rw [e]
    subst hd
    exact ok_endL (vs := [_]) rfl ⟨rfl, trivial⟩ (fun w' hw => ⟨mkY none 0 w, rfl, trivial, hw⟩)
  subst hd
  repeat' (first
    | refine ok_seq ?_
    | refine ok_then ?_
    | refine ok_then_ret ?_
    | (refine ok_cond rfl (fun hc => ?_) (fun hc => ?_) <;> (have hd := hc; (try simp only [decide_eq_true_eq, decide_eq_false_iff_not, Bool.or_eq_true, Bool.or_eq_false_iff, Bool.and_eq_true, Bool.and_eq_false_iff, Bool.not_eq_true', Bool.not_eq_false', bne_iff_ne, beq_iff_eq, bne_eq_false_iff_eq, beq_eq_false_iff_ne, ne_eq, Bool.not_true, Bool.not_false, Bool.false_eq_true, Bool.true_eq_false, inB_true, inB_false] at hd)))
    | refine ok_ret ?_
    | refine ok_skip ?_
    | (refine ok_draw (id := 3) 15 rfl (by kernel_rfl) (by kernel_rfl) rfl (by repeat (first | exact pq_body | refine pq_then ?_ | refine pq_in ?_)) [0] (by decide) rfl ?_; refine okT_take (i := 0) rfl (by kernel_rfl) rfl rfl rfl (by exact ps_move rfl rfl) ?_; refine okT_take (i := 1) rfl (by kernel_rfl) rfl rfl rfl (by exact ps_nil rfl rfl (by exact isw_ga _)) ?_; refine okT_take (i := 2) rfl (by kernel_rfl) rfl rfl rfl (by exact ps_field rfl rfl (by exact isw_ga _)) ?_; refine okT_take (i := 3) rfl (by kernel_rfl) rfl rfl rfl (by exact ps_load rfl rfl (by exact Rds.cell (rds_box 0 rfl) rfl)) ?_; refine okT_take (i := 4) rfl (by kernel_rfl) rfl rfl rfl (by exact ps_move rfl rfl) ?_; refine okT_take (i := 5) rfl (by kernel_rfl) rfl rfl rfl (by exact ps_nil rfl rfl (by exact isw_ga _)) ?_; refine okT_take (i := 6) rfl (by kernel_rfl) rfl rfl rfl (by exact ps_field rfl rfl (by exact isw_ga _)) ?_; refine okT_take (i := 7) rfl (by kernel_rfl) rfl rfl rfl (by exact ps_load rfl rfl (by exact Rds.cell (rds_box 0 rfl) rfl)) ?_; refine okT_take (i := 8) rfl (by kernel_rfl) rfl rfl rfl (by exact ps_sslE k s.size rfl rfl ⟨_, _, rfl, rfl⟩ rfl hk (by omega)) ?_; refine okT_one (i := 9) rfl rfl (by kernel_rfl) rfl rfl rfl (by exact ms_s1 rfl rfl (fun _ _ w hw => by have := i_ReadVar_c (s.extract k s.size) (by rw [ByteArray.size_extract]; omega) w; rw [q] at this; exact this)) (fun y w _ h => by exact h.sel [0] (by decide) rfl (fun _ h => h)) ?_; rintro y19 hy19; refine okT_take (i := 10) rfl (by kernel_rfl) rfl rfl rfl (by exact ps_move rfl rfl) ?_; refine okT_take (i := 11) rfl (by kernel_rfl) rfl rfl rfl (by exact ps_extract rfl rfl rfl) ?_; refine okT_take (i := 12) rfl (by kernel_rfl) rfl rfl rfl (by exact ps_extract rfl rfl rfl) ?_; refine okT_take (i := 13) rfl (by kernel_rfl) rfl rfl rfl (by exact ps_assign rfl rfl) ?_; refine okT_take (i := 14) rfl (by kernel_rfl) rfl rfl rfl (by exact ps_assign rfl rfl) ?_; refine okT_done (by kernel_rfl) ?_; refine ok_nil ?_; refine ok_env [(0, _), (3, _), (4, _)] ⟨rfl, rfl, rfl, trivial⟩ ?_)
    | (refine ok_region (i := 4) ?_; refine ok_p rfl rfl rfl (by exact ps_move rfl rfl) ?_; refine ok_p rfl rfl rfl (by exact ps_int rfl rfl rfl rfl) ?_; refine ok_nil ?_; refine ok_env [(0, _), (3, _), (4, _), (23, _)] ⟨rfl, rfl, rfl, rfl, trivial⟩ ?_)
    | (refine ok_region (i := 5) ?_; refine ok_p rfl rfl rfl (by exact ps_move rfl rfl) ?_; refine ok_p rfl rfl rfl (by exact ps_nil rfl rfl (by exact isw_ga _)) ?_; refine ok_p rfl rfl rfl (by exact ps_field rfl rfl (by exact isw_ga _)) ?_; refine ok_m_ rfl rfl (by exact ms_store 0 rfl rfl rfl rfl rfl rfl rfl rfl) ?_; rintro y_ hy_; refine ok_nil ?_; refine ok_env [] trivial ?_)
    | (refine ok_region (i := 6) ?_; refine ok_p rfl rfl rfl (by exact ps_assign rfl rfl) ?_; refine ok_nil ?_; refine ok_env [(2, _)] ⟨rfl, trivial⟩ ?_)
    | (refine ok_region (i := 7) ?_; refine ok_p rfl rfl rfl (by exact ps_move rfl rfl) ?_; refine ok_p rfl rfl rfl (by exact ps_nil rfl rfl (by exact isw_ga _)) ?_; refine ok_p rfl rfl rfl (by exact ps_field rfl rfl (by exact isw_ga _)) ?_; refine ok_p rfl rfl rfl (by exact ps_load rfl rfl (by exact Rds.cell (rds_box 0 rfl) rfl)) ?_; refine ok_p rfl rfl rfl (by exact ps_move rfl rfl) ?_; refine ok_p rfl rfl rfl (by exact ps_add rfl rfl rfl (by omega)) ?_; refine ok_p rfl rfl rfl (by exact ps_nil rfl rfl (by exact isw_ga _)) ?_; refine ok_p rfl rfl rfl (by exact ps_field rfl rfl (by exact isw_ga _)) ?_; refine ok_m_ rfl rfl (by exact ms_store 0 rfl rfl rfl rfl rfl rfl rfl rfl) ?_; rintro y_ hy_; refine ok_nil ?_; refine ok_env [(3, _)] ⟨rfl, trivial⟩ ?_)
    | (refine ok_region (i := 8) ?_; refine ok_p rfl rfl rfl (by exact ps_move rfl rfl) ?_; refine ok_p rfl rfl rfl (by exact ps_assign rfl rfl) ?_; refine ok_nil ?_; refine ok_env [(2, _)] ⟨rfl, trivial⟩ ?_))
  · have h0 : (rvN ((bl s).drop k)).2 = 0 := by omega
    have e : rdN s k false = (0, k, true) := by unfold rdN; rw [if_neg (by simp), z, if_pos h0]
    rw [e]
    exact ok_endL (vs := [_]) rfl ⟨rfl, trivial⟩ (fun w' hw => ⟨mkY none 0 w, rfl, trivial, hw⟩)
  · have h0 : ¬ (rvN ((bl s).drop k)).2 = 0 := by omega
    have e : rdN s k false = ((rvN ((bl s).drop k)).1, k + (rvN ((bl s).drop k)).2, false) := by unfold rdN; rw [if_neg (by simp), z, if_neg h0]
    rw [e]
    exact ok_endL (vs := [_]) rfl ⟨rfl, trivial⟩ (fun w' hw => ⟨mkY none 0 w, rfl, trivial, hw⟩)
theorem rdS_c (g : Nat) (s : ByteArray) (k : Nat) (bad : Bool) (hs : s.size ≤ 4194304) (hk : k ≤ s.size) {base : Nat} {w0 w : World} {H : List HObj} {G : List World} (hw : WOk base w0 (rdr g s k bad :: H) G w) :
    Calls Try.prog 125 #[pt (ga g) 0] w fun e w' => ∃ y : Ys, e = .returned (.string (rdS s k bad).1) ∧ True ∧ WOk base w0 (rdr g s (rdS s k bad).2.1 (rdS s k bad).2.2 :: H) G w' := by
  have hb := rdN_le s k bad hk
  refine ok_enterW 9 Try.func125 rfl rfl rfl hw ?_
  repeat' (first
    | refine ok_seq ?_
    | refine ok_then ?_
    | refine ok_ret ?_
    | (refine ok_region (i := 0) ?_; refine ok_p rfl rfl rfl (by exact ps_assign rfl rfl) ?_; refine ok_nil ?_; refine ok_env [(0, _)] ⟨rfl, trivial⟩ ?_)
    | (refine ok_region (i := 1) ?_; refine ok_p rfl rfl rfl (by exact ps_move rfl rfl) ?_; refine ok_m rfl rfl rfl (by exact ms_w1 (fun _ _ _ h => h) rfl rfl (fun _ _ w hw => rdN_c g s k bad hs hk hw)) ?_; rintro y5 hy5; refine ok_p rfl rfl rfl (by exact ps_assign rfl rfl) ?_; refine ok_nil ?_; refine ok_env [(0, _), (3, _)] ⟨rfl, rfl, trivial⟩ ?_)
    | (refine ok_region (i := 2) ?_; refine ok_p rfl rfl rfl (by exact ps_move rfl rfl) ?_; refine ok_p rfl rfl rfl (by exact ps_move rfl rfl) ?_; refine ok_m rfl rfl rfl (by exact ms_w2 (fun _ _ _ h => h) rfl rfl rfl (fun _ _ w hw => rdB_c g s (rdN s k bad).1 (rdN s k bad).2.1 (rdN s k bad).2.2 hs hb.1 hb.2 hw)) ?_; rintro y8 hy8; refine ok_p rfl rfl rfl (by exact ps_assign rfl rfl) ?_; refine ok_nil ?_; refine ok_env [(2, _)] ⟨rfl, trivial⟩ ?_))
  exact ok_endL (vs := [_]) rfl ⟨rfl, trivial⟩ (fun w' hw => ⟨mkY none 0 w, rfl, trivial, hw⟩)
def rdD (s : ByteArray) (k : Nat) (bad : Bool) : Bool := !bad && ((k : Int) == (s.size : Int))
theorem rdD_c (g : Nat) (s : ByteArray) (k : Nat) (bad : Bool) {base : Nat} {w0 w : World} {H : List HObj} {G : List World} (hw : WOk base w0 (rdr g s k bad :: H) G w) :
    Calls Try.prog 126 #[pt (ga g) 0] w fun e w' => ∃ y : Ys, e = .returned (.bool (rdD s k bad)) ∧ True ∧ WOk base w0 (rdr g s k bad :: H) G w' := by
  refine ok_enterW 20 Try.func126 rfl rfl rfl hw ?_
  repeat' (first
    | refine ok_seq ?_
    | refine ok_then ?_
    | refine ok_ret ?_
    | (refine ok_region (i := 0) ?_; refine ok_p rfl rfl rfl (by exact ps_assign rfl rfl) ?_; refine ok_nil ?_; refine ok_env [(0, _)] ⟨rfl, trivial⟩ ?_)
    | (refine ok_draw (id := 1) 18 rfl (by kernel_rfl) (by kernel_rfl) rfl (by repeat (first | exact pq_body | refine pq_then ?_ | refine pq_in ?_)) [0, 1, 2, 3, 4, 5, 6, 7, 8, 9, 10, 11, 12, 13, 14, 15, 16, 17, 18, 19, 20, 21, 22, 23] (by decide) rfl ?_; refine okT_take (i := 0) rfl (by kernel_rfl) rfl rfl rfl (by exact ps_move rfl rfl) ?_; refine okT_take (i := 1) rfl (by kernel_rfl) rfl rfl rfl (by exact ps_nil rfl rfl (by exact isw_ga _)) ?_; refine okT_take (i := 2) rfl (by kernel_rfl) rfl rfl rfl (by exact ps_field rfl rfl (by exact isw_ga _)) ?_; refine okT_take (i := 3) rfl (by kernel_rfl) rfl rfl rfl (by exact ps_load rfl rfl (by exact Rds.cell (rds_box 0 rfl) rfl)) ?_; refine okT_take (i := 4) rfl (by kernel_rfl) rfl rfl rfl (by exact ps_not rfl rfl) ?_; refine okT_take (i := 5) rfl (by kernel_rfl) rfl rfl rfl (by exact ps_move rfl rfl) ?_; refine okT_take_g1 (i := 6) rfl (by kernel_rfl) rfl rfl rfl rfl rfl (gT _) (fun hp => by (have hpd := hp; (try simp only [decide_eq_true_eq, decide_eq_false_iff_not, Bool.or_eq_true, Bool.or_eq_false_iff, Bool.and_eq_true, Bool.and_eq_false_iff, Bool.not_eq_true', Bool.not_eq_false', bne_iff_ne, beq_iff_eq, bne_eq_false_iff_eq, beq_eq_false_iff_ne, ne_eq, Bool.not_true, Bool.not_false, Bool.false_eq_true, Bool.true_eq_false, inB_true, inB_false] at hpd); exact ps_move rfl (by exact rfl))) ?_; refine okT_take_g1 (i := 7) rfl (by kernel_rfl) rfl rfl rfl rfl rfl (gT _) (fun hp => by (have hpd := hp; (try simp only [decide_eq_true_eq, decide_eq_false_iff_not, Bool.or_eq_true, Bool.or_eq_false_iff, Bool.and_eq_true, Bool.and_eq_false_iff, Bool.not_eq_true', Bool.not_eq_false', bne_iff_ne, beq_iff_eq, bne_eq_false_iff_eq, beq_eq_false_iff_ne, ne_eq, Bool.not_true, Bool.not_false, Bool.false_eq_true, Bool.true_eq_false, inB_true, inB_false] at hpd); exact ps_nil rfl (by (refine og rfl ?_; assumption)) (by exact isw_ga _))) ?_; refine okT_take_g1 (i := 8) rfl (by kernel_rfl) rfl rfl rfl rfl rfl (gT _) (fun hp => by (have hpd := hp; (try simp only [decide_eq_true_eq, decide_eq_false_iff_not, Bool.or_eq_true, Bool.or_eq_false_iff, Bool.and_eq_true, Bool.and_eq_false_iff, Bool.not_eq_true', Bool.not_eq_false', bne_iff_ne, beq_iff_eq, bne_eq_false_iff_eq, beq_eq_false_iff_ne, ne_eq, Bool.not_true, Bool.not_false, Bool.false_eq_true, Bool.true_eq_false, inB_true, inB_false] at hpd); exact ps_field rfl (by (refine og rfl ?_; assumption)) (by exact isw_ga _))) ?_; refine okT_take_g1 (i := 9) rfl (by kernel_rfl) rfl rfl rfl rfl rfl (gT _) (fun hp => by (have hpd := hp; (try simp only [decide_eq_true_eq, decide_eq_false_iff_not, Bool.or_eq_true, Bool.or_eq_false_iff, Bool.and_eq_true, Bool.and_eq_false_iff, Bool.not_eq_true', Bool.not_eq_false', bne_iff_ne, beq_iff_eq, bne_eq_false_iff_eq, beq_eq_false_iff_ne, ne_eq, Bool.not_true, Bool.not_false, Bool.false_eq_true, Bool.true_eq_false, inB_true, inB_false] at hpd); exact ps_load rfl (by (refine og rfl ?_; assumption)) (by exact Rds.cell (rds_box 0 rfl) rfl))) ?_; refine okT_take_g1 (i := 10) rfl (by kernel_rfl) rfl rfl rfl rfl rfl (gT _) (fun hp => by (have hpd := hp; (try simp only [decide_eq_true_eq, decide_eq_false_iff_not, Bool.or_eq_true, Bool.or_eq_false_iff, Bool.and_eq_true, Bool.and_eq_false_iff, Bool.not_eq_true', Bool.not_eq_false', bne_iff_ne, beq_iff_eq, bne_eq_false_iff_eq, beq_eq_false_iff_ne, ne_eq, Bool.not_true, Bool.not_false, Bool.false_eq_true, Bool.true_eq_false, inB_true, inB_false] at hpd); exact ps_move rfl (by exact rfl))) ?_; refine okT_take_g1 (i := 11) rfl (by kernel_rfl) rfl rfl rfl rfl rfl (gT _) (fun hp => by (have hpd := hp; (try simp only [decide_eq_true_eq, decide_eq_false_iff_not, Bool.or_eq_true, Bool.or_eq_false_iff, Bool.and_eq_true, Bool.and_eq_false_iff, Bool.not_eq_true', Bool.not_eq_false', bne_iff_ne, beq_iff_eq, bne_eq_false_iff_eq, beq_eq_false_iff_ne, ne_eq, Bool.not_true, Bool.not_false, Bool.false_eq_true, Bool.true_eq_false, inB_true, inB_false] at hpd); exact ps_nil rfl (by (refine og rfl ?_; assumption)) (by exact isw_ga _))) ?_; refine okT_take_g1 (i := 12) rfl (by kernel_rfl) rfl rfl rfl rfl rfl (gT _) (fun hp => by (have hpd := hp; (try simp only [decide_eq_true_eq, decide_eq_false_iff_not, Bool.or_eq_true, Bool.or_eq_false_iff, Bool.and_eq_true, Bool.and_eq_false_iff, Bool.not_eq_true', Bool.not_eq_false', bne_iff_ne, beq_iff_eq, bne_eq_false_iff_eq, beq_eq_false_iff_ne, ne_eq, Bool.not_true, Bool.not_false, Bool.false_eq_true, Bool.true_eq_false, inB_true, inB_false] at hpd); exact ps_field rfl (by (refine og rfl ?_; assumption)) (by exact isw_ga _))) ?_; refine okT_take_g1 (i := 13) rfl (by kernel_rfl) rfl rfl rfl rfl rfl (gT _) (fun hp => by (have hpd := hp; (try simp only [decide_eq_true_eq, decide_eq_false_iff_not, Bool.or_eq_true, Bool.or_eq_false_iff, Bool.and_eq_true, Bool.and_eq_false_iff, Bool.not_eq_true', Bool.not_eq_false', bne_iff_ne, beq_iff_eq, bne_eq_false_iff_eq, beq_eq_false_iff_ne, ne_eq, Bool.not_true, Bool.not_false, Bool.false_eq_true, Bool.true_eq_false, inB_true, inB_false] at hpd); exact ps_load rfl (by (refine og rfl ?_; assumption)) (by exact Rds.cell (rds_box 0 rfl) rfl))) ?_; refine okT_take_g1 (i := 14) rfl (by kernel_rfl) rfl rfl rfl rfl rfl (gT _) (fun hp => by (have hpd := hp; (try simp only [decide_eq_true_eq, decide_eq_false_iff_not, Bool.or_eq_true, Bool.or_eq_false_iff, Bool.and_eq_true, Bool.and_eq_false_iff, Bool.not_eq_true', Bool.not_eq_false', bne_iff_ne, beq_iff_eq, bne_eq_false_iff_eq, beq_eq_false_iff_ne, ne_eq, Bool.not_true, Bool.not_false, Bool.false_eq_true, Bool.true_eq_false, inB_true, inB_false] at hpd); exact ps_slen rfl (by (refine og rfl ?_; assumption)))) ?_; refine okT_take_g1 (i := 15) rfl (by kernel_rfl) rfl rfl rfl rfl rfl (gT _) (fun hp => by (have hpd := hp; (try simp only [decide_eq_true_eq, decide_eq_false_iff_not, Bool.or_eq_true, Bool.or_eq_false_iff, Bool.and_eq_true, Bool.and_eq_false_iff, Bool.not_eq_true', Bool.not_eq_false', bne_iff_ne, beq_iff_eq, bne_eq_false_iff_eq, beq_eq_false_iff_ne, ne_eq, Bool.not_true, Bool.not_false, Bool.false_eq_true, Bool.true_eq_false, inB_true, inB_false] at hpd); exact ps_int rfl (by (refine og rfl ?_; assumption)) (by (refine og rfl ?_; assumption)) rfl)) ?_; refine okT_take (i := 16) rfl (by kernel_rfl) rfl rfl rfl (by exact ps_and rfl rfl rfl) ?_; refine okT_take (i := 17) rfl (by kernel_rfl) rfl rfl rfl (by exact ps_assign rfl rfl) ?_; refine okT_done (by kernel_rfl) ?_; refine ok_nil ?_; refine ok_env [(2, _)] ⟨rfl, trivial⟩ ?_))
  exact ok_endL (vs := [_]) rfl ⟨rfl, trivial⟩ (fun w' hw => ⟨mkY none 0 w, rfl, trivial, hw⟩)
/-- The reference takes pieces. -/
def tkV (s : ByteArray) (z : Int) : Option (Nat × Nat) := if 0 ≤ z ∧ z ≤ s.size then tkN s z.toNat else none
def tkW (s : ByteArray) (z : Int) : Option (ByteArray × Nat) := if 0 ≤ z ∧ z ≤ s.size then tkS s z.toNat else none
def tkE {α : Type} (r : Option (α × Nat)) : Int := match r with
  | none => -1
  | some p => p.2
def tkL (r : Option (Nat × Nat)) : List Int := match r with
  | none => []
  | some p => [(p.1 : Int)]
def tkT (r : Option (ByteArray × Nat)) : ByteArray := match r with
  | none => ⟨#[]⟩
  | some p => p.1
structure VarI (s : ByteArray) (z : Int) where
  i : Nat
  at_ : Int
  l : List Int
  A : Option Addr
  c : Nat
  ok : (i = 0 ∧ at_ = z ∧ l = []) ∨ (i = 1 ∧ tkE (tkV s z) = at_ ∧ l = tkL (tkV s z) ∧ l.length = 1 ∧ 0 ≤ at_ ∧ at_ ≤ s.size)
theorem s_l6Vars1 (s : ByteArray) (z : Int) (hs : s.size ≤ 4194304) (hz : -9223372036854775808 ≤ z ∧ z ≤ 9223372036854775807) (w : World) :
    Calls Try.prog 128 #[.string s, .int .i64 z, .int .i64 1] w fun e w' => ∃ y : Ys, e = .returned (.tuple #[.slice (y 0).A (tkL (tkV s z)).length (y 0).c, .int .i64 (tkE (tkV s z))]) ∧ True ∧ Below w.heap.size w w' ∧ NewOk w.heap.size [.row 3 1 (y 0).A (tkL (tkV s z)).length (y 0).c (fl (tkL (tkV s z)))] [] w' := by
  refine ok_enter 46 Try.func128 rfl rfl rfl ?_
  repeat' (first
    | refine ok_seq ?_
    | refine ok_then ?_
    | refine ok_block ?_
    | (refine ok_region (i := 0) ?_; refine ok_p rfl rfl rfl (by exact ps_assign rfl rfl) ?_; refine ok_p rfl rfl rfl (by exact ps_assign rfl rfl) ?_; refine ok_nil ?_; refine ok_env [(0, _), (1, _), (2, _)] ⟨rfl, rfl, rfl, trivial⟩ ?_)
    | (refine ok_region (i := 1) ?_; refine ok_m rfl rfl rfl (by exact ms_lit rfl parts_nil rfl rfl rfl) ?_; rintro y12 hy12; refine ok_p rfl rfl rfl (by exact ps_assign rfl rfl) ?_; refine ok_nil ?_; refine ok_env [(0, _), (1, _), (2, _), (8, _)] ⟨rfl, rfl, rfl, rfl, trivial⟩ ?_)
    | (refine ok_region (i := 2) ?_; refine ok_p rfl rfl rfl (by exact ps_assign rfl rfl) ?_; refine ok_nil ?_; refine ok_env [(0, _), (1, _), (2, _), (8, _), (9, _)] ⟨rfl, rfl, rfl, rfl, rfl, trivial⟩ ?_))
  refine ok_loop (ι := VarI s z) (fun q => 1 - q.i) (fun q => ([(0, .string s), (1, .int .i64 q.at_), (2, .int .i64 1), (8, .slice q.A q.l.length q.c), (9, .int .i64 q.i)], [.row 3 1 q.A q.l.length q.c (fl q.l)], _)) ⟨0, z, [], none, 0, .inl ⟨rfl, rfl, rfl⟩⟩ (fun a w he hw => ⟨⟨0, z, [], ga (y12 0).c, 0, .inl ⟨rfl, rfl, rfl⟩⟩, he.sub ⟨rfl, rfl, rfl, rfl, rfl, trivial⟩, hw⟩) ?_
  rintro ⟨i, at_, l, A, c, ok⟩
  simp only
  rcases ok with ⟨rfl, rfl, rfl⟩ | ⟨rfl, e1, e2, e3, e4, e5⟩
  · have q := fun (h : 0 ≤ at_ ∧ at_ ≤ s.size) => rvN_tk s at_.toNat (by omega)
    have zz := tkN_z s at_.toNat
    have hlt := fun (h : 0 ≤ at_ ∧ at_ ≤ s.size) (h0 : ¬ (rvN ((bl s).drop at_.toNat)).2 = 0) => tkN_some (s := s) (k := at_.toNat) (by rw [zz, if_neg h0])
    have Q := Lib.hid q
    have ZZ := Lib.hid zz
    have HLT := Lib.hid hlt
    clear q zz hlt
    have b7 : (rvN ((bl s).drop at_.toNat)).2 ≤ 7 := by
      unfold rvN
      cases hr : rv ((bl s).drop at_.toNat) with
      | none => simp
      | some p => obtain ⟨m, z⟩ := p; exact (rv_some hr).2.1
    repeat' (first
      | refine ok_seq ?_
      | refine ok_then ?_
      | refine ok_then_ret ?_
      | refine ok_block ?_
      | refine ok_in_normal ?_
      | refine ok_in_ret ?_
      | (refine ok_cond rfl (fun hc => ?_) (fun hc => ?_) <;> (have hd := hc; (try simp only [decide_eq_true_eq, decide_eq_false_iff_not, Bool.or_eq_true, Bool.or_eq_false_iff, Bool.and_eq_true, Bool.and_eq_false_iff, Bool.not_eq_true', Bool.not_eq_false', bne_iff_ne, beq_iff_eq, bne_eq_false_iff_eq, beq_eq_false_iff_ne, ne_eq, Bool.not_true, Bool.not_false, Bool.false_eq_true, Bool.true_eq_false, inB_true, inB_false] at hd)))
      | refine ok_ret ?_
      | refine ok_exit ?_
      | refine ok_skip ?_
      | (refine ok_region (i := 3) ?_; refine ok_p rfl rfl rfl (by exact ps_move rfl rfl) ?_; refine ok_p rfl rfl rfl (by exact ps_move rfl rfl) ?_; refine ok_p rfl rfl rfl (by exact ps_int rfl rfl rfl rfl) ?_; refine ok_nil ?_; refine ok_env [(0, _), (1, _), (2, _), (8, _), (9, _), (15, _)] ⟨rfl, rfl, rfl, rfl, rfl, rfl, trivial⟩ ?_)
      | (refine ok_region (i := 4) ?_; refine ok_p rfl rfl rfl (by exact ps_move rfl rfl) ?_; refine ok_p rfl rfl rfl (by exact ps_add rfl rfl rfl (by omega)) ?_; refine ok_p rfl rfl rfl (by exact ps_assign rfl rfl) ?_; refine ok_nil ?_; refine ok_env [(0, _), (1, _), (2, _), (8, _), (9, _)] ⟨rfl, rfl, rfl, rfl, rfl, trivial⟩ ?_)
      | (refine ok_region (i := 5) ?_; refine ok_p rfl rfl rfl (by exact ps_move rfl rfl) ?_; refine ok_p rfl rfl rfl (by exact ps_int rfl rfl rfl rfl) ?_; refine ok_p rfl rfl rfl (by exact ps_move rfl rfl) ?_; refine ok_pg rfl rfl rfl rfl rfl (gF _) (fun hp => by (have hpd := hp; (try simp only [decide_eq_true_eq, decide_eq_false_iff_not, Bool.or_eq_true, Bool.or_eq_false_iff, Bool.and_eq_true, Bool.and_eq_false_iff, Bool.not_eq_true', Bool.not_eq_false', bne_iff_ne, beq_iff_eq, bne_eq_false_iff_eq, beq_eq_false_iff_ne, ne_eq, Bool.not_true, Bool.not_false, Bool.false_eq_true, Bool.true_eq_false, inB_true, inB_false] at hpd); exact ps_move rfl (by exact rfl))) ?_; refine ok_pg rfl rfl rfl rfl rfl (gF _) (fun hp => by (have hpd := hp; (try simp only [decide_eq_true_eq, decide_eq_false_iff_not, Bool.or_eq_true, Bool.or_eq_false_iff, Bool.and_eq_true, Bool.and_eq_false_iff, Bool.not_eq_true', Bool.not_eq_false', bne_iff_ne, beq_iff_eq, bne_eq_false_iff_eq, beq_eq_false_iff_ne, ne_eq, Bool.not_true, Bool.not_false, Bool.false_eq_true, Bool.true_eq_false, inB_true, inB_false] at hpd); exact ps_move rfl (by exact rfl))) ?_; refine ok_pg rfl rfl rfl rfl rfl (gF _) (fun hp => by (have hpd := hp; (try simp only [decide_eq_true_eq, decide_eq_false_iff_not, Bool.or_eq_true, Bool.or_eq_false_iff, Bool.and_eq_true, Bool.and_eq_false_iff, Bool.not_eq_true', Bool.not_eq_false', bne_iff_ne, beq_iff_eq, bne_eq_false_iff_eq, beq_eq_false_iff_ne, ne_eq, Bool.not_true, Bool.not_false, Bool.false_eq_true, Bool.true_eq_false, inB_true, inB_false] at hpd); exact ps_slen rfl (by (refine og rfl ?_; assumption)))) ?_; refine ok_pg rfl rfl rfl rfl rfl (gF _) (fun hp => by (have hpd := hp; (try simp only [decide_eq_true_eq, decide_eq_false_iff_not, Bool.or_eq_true, Bool.or_eq_false_iff, Bool.and_eq_true, Bool.and_eq_false_iff, Bool.not_eq_true', Bool.not_eq_false', bne_iff_ne, beq_iff_eq, bne_eq_false_iff_eq, beq_eq_false_iff_ne, ne_eq, Bool.not_true, Bool.not_false, Bool.false_eq_true, Bool.true_eq_false, inB_true, inB_false] at hpd); exact ps_int rfl (by (refine og rfl ?_; assumption)) (by (refine og rfl ?_; assumption)) rfl)) ?_; refine ok_p rfl rfl rfl (by exact ps_or rfl rfl rfl) ?_; refine ok_nil ?_; refine ok_env [(0, _), (1, _), (2, _), (8, _), (9, _), (25, _)] ⟨rfl, rfl, rfl, rfl, rfl, rfl, trivial⟩ ?_)
      | (refine ok_region (i := 6) ?_; refine ok_p rfl rfl rfl (by exact ps_move rfl rfl) ?_; refine ok_p rfl rfl rfl (by exact ps_assign rfl rfl) ?_; refine ok_p rfl rfl rfl (by exact ps_assign rfl rfl) ?_; refine ok_nil ?_; refine ok_env [(6, _), (7, _)] ⟨rfl, rfl, trivial⟩ ?_)
      | (refine ok_region (i := 7) ?_; refine ok_p rfl rfl rfl (by exact ps_move rfl rfl) ?_; refine ok_p rfl rfl rfl (by exact ps_move rfl rfl) ?_; refine ok_p rfl rfl rfl (by exact ps_sslE at_.toNat s.size rfl rfl ⟨_, _, rfl, by omega⟩ rfl (by omega) (by omega)) ?_; refine ok_m rfl rfl rfl (by exact ms_s1 rfl rfl (fun _ _ w hw => by have := s_ReadVar_c (s.extract at_.toNat s.size) (by rw [ByteArray.size_extract]; omega) w; rw [Q.out (by omega)] at this; exact this)) ?_; rintro y31 hy31; refine ok_p rfl rfl rfl (by exact ps_move rfl rfl) ?_; refine ok_p rfl rfl rfl (by exact ps_extract rfl rfl rfl) ?_; refine ok_p rfl rfl rfl (by exact ps_extract rfl rfl rfl) ?_; refine ok_p rfl rfl rfl (by exact ps_assign rfl rfl) ?_; refine ok_p rfl rfl rfl (by exact ps_assign rfl rfl) ?_; refine ok_nil ?_; refine ok_env [(0, _), (1, _), (2, _), (8, _), (9, _), (10, _), (11, _)] ⟨rfl, rfl, rfl, rfl, rfl, rfl, rfl, trivial⟩ ?_)
      | (refine ok_region (i := 8) ?_; refine ok_p rfl rfl rfl (by exact ps_move rfl rfl) ?_; refine ok_p rfl rfl rfl (by exact ps_int rfl rfl rfl rfl) ?_; refine ok_nil ?_; refine ok_env [(0, _), (1, _), (2, _), (8, _), (9, _), (10, _), (11, _), (35, _)] ⟨rfl, rfl, rfl, rfl, rfl, rfl, rfl, rfl, trivial⟩ ?_)
      | (refine ok_region (i := 9) ?_; refine ok_p rfl rfl rfl (by exact ps_move rfl rfl) ?_; refine ok_p rfl rfl rfl (by exact ps_assign rfl rfl) ?_; refine ok_p rfl rfl rfl (by exact ps_assign rfl rfl) ?_; refine ok_nil ?_; refine ok_env [(6, _), (7, _)] ⟨rfl, rfl, trivial⟩ ?_)
      | (refine ok_region (i := 10) ?_; refine ok_p rfl rfl rfl (by exact ps_move rfl rfl) ?_; refine ok_p rfl rfl rfl (by exact ps_move rfl rfl) ?_; refine ok_m rfl rfl rfl (by exact ms_lit rfl (parts_cons rfl parts_nil) rfl rfl rfl) ?_; rintro y39 hy39; refine ok_m rfl rfl rfl (by exact ms_appF (α := Int) (L := []) (M := [((rvN ((bl s).drop at_.toNat)).1 : Int)]) 1 rfl rfl rfl rfl (rds_row 0 rfl) rfl (by simp) (by simp)) ?_; rintro y40 hy40; refine ok_p rfl rfl rfl (by exact ps_assign rfl rfl) ?_; refine ok_nil ?_; refine ok_env [(0, _), (1, _), (2, _), (8, _), (9, _), (11, _)] ⟨rfl, rfl, rfl, rfl, rfl, rfl, trivial⟩ ?_)
      | (refine ok_region (i := 11) ?_; refine ok_p rfl rfl rfl (by exact ps_move rfl rfl) ?_; refine ok_p rfl rfl rfl (by exact ps_move rfl rfl) ?_; refine ok_p rfl rfl rfl (by exact ps_add rfl rfl rfl (by omega)) ?_; refine ok_p rfl rfl rfl (by exact ps_assign rfl rfl) ?_; refine ok_nil ?_; refine ok_env [(0, _), (1, _), (2, _), (8, _), (9, _)] ⟨rfl, rfl, rfl, rfl, rfl, trivial⟩ ?_)
      | (refine ok_region (i := 12) ?_; refine ok_p rfl rfl rfl (by exact ps_move rfl rfl) ?_; refine ok_p rfl rfl rfl (by exact ps_move rfl rfl) ?_; refine ok_p rfl rfl rfl (by exact ps_assign rfl rfl) ?_; refine ok_p rfl rfl rfl (by exact ps_assign rfl rfl) ?_; refine ok_nil ?_; refine ok_env [(6, _), (7, _)] ⟨rfl, rfl, trivial⟩ ?_))
    · have e : tkV s at_ = none := by unfold tkV; rw [if_neg (by omega)]
      rw [e]
      refine ok_endL (vs := [_, _]) rfl ⟨rfl, rfl, trivial⟩ (fun w' hw => ⟨mkY A c w, rfl, trivial, hw.below, ?_⟩)
      exact NewOk.of (hw.sel [0] (by decide) rfl (G' := []) (fun _ h => by cases h))
    · have e : tkV s at_ = none := by unfold tkV; rw [if_pos (by omega), ZZ.out, if_pos (by omega)]
      rw [e]
      refine ok_endL (vs := [_, _]) rfl ⟨rfl, rfl, trivial⟩ (fun w' hw => ⟨mkY A c w, rfl, trivial, hw.below, ?_⟩)
      exact NewOk.of (hw.sel [0] (by decide) rfl (G' := []) (fun _ h => by cases h))
    · have e : tkV s at_ = some ((rvN ((bl s).drop at_.toNat)).1, at_.toNat + (rvN ((bl s).drop at_.toNat)).2) := by unfold tkV; rw [if_pos (by omega), ZZ.out, if_neg (by omega)]
      have hh := HLT.out (by omega) (by omega)
      refine fun a w' he hw => ⟨⟨1, at_ + (rvN ((bl s).drop at_.toNat)).2, [((rvN ((bl s).drop at_.toNat)).1 : Int)], (y40 0).A, (y40 0).c, .inr ⟨rfl, ?_, ?_, rfl, by omega, by omega⟩⟩, by simp only; omega, he.sub ⟨rfl, rfl, rfl, rfl, rfl, trivial⟩, hw.tl⟩
      · rw [e]; simp only [tkE]; omega
      · rw [e]; rfl
    · omega
  · skip
    repeat' (first
      | refine ok_seq ?_
      | refine ok_then ?_
      | refine ok_then_ret ?_
      | refine ok_block ?_
      | refine ok_in_ret ?_
      | (refine ok_cond rfl (fun hc => ?_) (fun hc => ?_) <;> (have hd := hc; (try simp only [decide_eq_true_eq, decide_eq_false_iff_not, Bool.or_eq_true, Bool.or_eq_false_iff, Bool.and_eq_true, Bool.and_eq_false_iff, Bool.not_eq_true', Bool.not_eq_false', bne_iff_ne, beq_iff_eq, bne_eq_false_iff_eq, beq_eq_false_iff_ne, ne_eq, Bool.not_true, Bool.not_false, Bool.false_eq_true, Bool.true_eq_false, inB_true, inB_false] at hd)))
      | refine ok_ret ?_
      | refine ok_exit ?_
      | refine ok_skip ?_
      | (refine ok_region (i := 3) ?_; refine ok_p rfl rfl rfl (by exact ps_move rfl rfl) ?_; refine ok_p rfl rfl rfl (by exact ps_move rfl rfl) ?_; refine ok_p rfl rfl rfl (by exact ps_int rfl rfl rfl rfl) ?_; refine ok_nil ?_; refine ok_env [(0, _), (1, _), (2, _), (8, _), (9, _), (15, _)] ⟨rfl, rfl, rfl, rfl, rfl, rfl, trivial⟩ ?_)
      | (refine ok_region (i := 5) ?_; refine ok_p rfl rfl rfl (by exact ps_move rfl rfl) ?_; refine ok_p rfl rfl rfl (by exact ps_int rfl rfl rfl rfl) ?_; refine ok_p rfl rfl rfl (by exact ps_move rfl rfl) ?_; refine ok_pg rfl rfl rfl rfl rfl (gF _) (fun hp => by (have hpd := hp; (try simp only [decide_eq_true_eq, decide_eq_false_iff_not, Bool.or_eq_true, Bool.or_eq_false_iff, Bool.and_eq_true, Bool.and_eq_false_iff, Bool.not_eq_true', Bool.not_eq_false', bne_iff_ne, beq_iff_eq, bne_eq_false_iff_eq, beq_eq_false_iff_ne, ne_eq, Bool.not_true, Bool.not_false, Bool.false_eq_true, Bool.true_eq_false, inB_true, inB_false] at hpd); exact ps_move rfl (by exact rfl))) ?_; refine ok_pg rfl rfl rfl rfl rfl (gF _) (fun hp => by (have hpd := hp; (try simp only [decide_eq_true_eq, decide_eq_false_iff_not, Bool.or_eq_true, Bool.or_eq_false_iff, Bool.and_eq_true, Bool.and_eq_false_iff, Bool.not_eq_true', Bool.not_eq_false', bne_iff_ne, beq_iff_eq, bne_eq_false_iff_eq, beq_eq_false_iff_ne, ne_eq, Bool.not_true, Bool.not_false, Bool.false_eq_true, Bool.true_eq_false, inB_true, inB_false] at hpd); exact ps_move rfl (by exact rfl))) ?_; refine ok_pg rfl rfl rfl rfl rfl (gF _) (fun hp => by (have hpd := hp; (try simp only [decide_eq_true_eq, decide_eq_false_iff_not, Bool.or_eq_true, Bool.or_eq_false_iff, Bool.and_eq_true, Bool.and_eq_false_iff, Bool.not_eq_true', Bool.not_eq_false', bne_iff_ne, beq_iff_eq, bne_eq_false_iff_eq, beq_eq_false_iff_ne, ne_eq, Bool.not_true, Bool.not_false, Bool.false_eq_true, Bool.true_eq_false, inB_true, inB_false] at hpd); exact ps_slen rfl (by (refine og rfl ?_; assumption)))) ?_; refine ok_pg rfl rfl rfl rfl rfl (gF _) (fun hp => by (have hpd := hp; (try simp only [decide_eq_true_eq, decide_eq_false_iff_not, Bool.or_eq_true, Bool.or_eq_false_iff, Bool.and_eq_true, Bool.and_eq_false_iff, Bool.not_eq_true', Bool.not_eq_false', bne_iff_ne, beq_iff_eq, bne_eq_false_iff_eq, beq_eq_false_iff_ne, ne_eq, Bool.not_true, Bool.not_false, Bool.false_eq_true, Bool.true_eq_false, inB_true, inB_false] at hpd); exact ps_int rfl (by (refine og rfl ?_; assumption)) (by (refine og rfl ?_; assumption)) rfl)) ?_; refine ok_p rfl rfl rfl (by exact ps_or rfl rfl rfl) ?_; refine ok_nil ?_; refine ok_env [(0, _), (1, _), (2, _), (8, _), (9, _), (25, _)] ⟨rfl, rfl, rfl, rfl, rfl, rfl, trivial⟩ ?_)
      | (refine ok_region (i := 6) ?_; refine ok_p rfl rfl rfl (by exact ps_move rfl rfl) ?_; refine ok_p rfl rfl rfl (by exact ps_assign rfl rfl) ?_; refine ok_p rfl rfl rfl (by exact ps_assign rfl rfl) ?_; refine ok_nil ?_; refine ok_env [(6, _), (7, _)] ⟨rfl, rfl, trivial⟩ ?_)
      | (refine ok_region (i := 12) ?_; refine ok_p rfl rfl rfl (by exact ps_move rfl rfl) ?_; refine ok_p rfl rfl rfl (by exact ps_move rfl rfl) ?_; refine ok_p rfl rfl rfl (by exact ps_assign rfl rfl) ?_; refine ok_p rfl rfl rfl (by exact ps_assign rfl rfl) ?_; refine ok_nil ?_; refine ok_env [(6, _), (7, _)] ⟨rfl, rfl, trivial⟩ ?_))
    · omega
    · omega
    · rw [e1, ← e2]
      refine ok_endL (vs := [_, _]) rfl ⟨rfl, rfl, trivial⟩ (fun w' hw => ⟨mkY A c w, rfl, trivial, hw.below, ?_⟩)
      exact NewOk.of (hw.sel [0] (by decide) rfl (G' := []) (fun _ h => by cases h))
theorem tkV_le {s : ByteArray} {z : Int} {n e : Nat} (h : tkV s z = some (n, e)) : e ≤ s.size ∧ n < 562949953421312 := by
  unfold tkV at h
  split at h
  · have := tkN_some h; omega
  · cases h
theorem s_l6Vars_no (s : ByteArray) (z : Int) (hs : s.size ≤ 4194304) (hz : -9223372036854775808 ≤ z ∧ z ≤ 9223372036854775807) (hv : tkV s z = none) (w : World) :
    Calls Try.prog 128 #[.string s, .int .i64 z, .int .i64 1] w fun e w' => ∃ y : Ys, e = .returned (.tuple #[.slice (y 0).A 0 (y 0).c, .int .i64 (-1)]) ∧ True ∧ Below w.heap.size w w' ∧ NewOk w.heap.size [.row 3 1 (y 0).A 0 (y 0).c (fl ([] : List Int))] [] w' := by
  have := s_l6Vars1 s z hs hz w
  rw [hv] at this
  exact this
theorem s_l6Vars_yes (s : ByteArray) (z : Int) (n q : Nat) (L : List Int) (hL : L = [(n : Int)]) (hs : s.size ≤ 4194304) (hz : -9223372036854775808 ≤ z ∧ z ≤ 9223372036854775807) (hv : tkV s z = some (n, q)) (w : World) :
    Calls Try.prog 128 #[.string s, .int .i64 z, .int .i64 1] w fun e w' => ∃ y : Ys, e = .returned (.tuple #[.slice (y 0).A 1 (y 0).c, .int .i64 q]) ∧ True ∧ Below w.heap.size w w' ∧ NewOk w.heap.size [.row 3 1 (y 0).A 1 (y 0).c (fl L)] [] w' := by
  subst hL
  have := s_l6Vars1 s z hs hz w
  rw [hv] at this
  exact this
theorem s_l6Take_c (s : ByteArray) (z : Int) (hs : s.size ≤ 4194304) (hz : -9223372036854775808 ≤ z ∧ z ≤ 9223372036854775807) (w : World) :
    Calls Try.prog 129 #[.string s, .int .i64 z] w fun e w' => e = .returned (.tuple #[.string (tkT (tkW s z)), .int .i64 (tkE (tkW s z))]) ∧ Below w.heap.size w w' := by
  cases hv : tkV s z with
  | none =>
    have e : tkW s z = none := by
      unfold tkV at hv
      unfold tkW
      split
      · rename_i h; rw [if_pos h] at hv; unfold tkS; rw [hv]; rfl
      · rfl
    rw [e]
    refine ok_enter 39 Try.func129 rfl rfl rfl ?_
    repeat' (first
      | refine ok_seq ?_
      | refine ok_then ?_
      | refine ok_then_ret ?_
      | (refine ok_cond rfl (fun hc => ?_) (fun hc => ?_) <;> (have hd := hc; (try simp only [decide_eq_true_eq, decide_eq_false_iff_not, Bool.or_eq_true, Bool.or_eq_false_iff, Bool.and_eq_true, Bool.and_eq_false_iff, Bool.not_eq_true', Bool.not_eq_false', bne_iff_ne, beq_iff_eq, bne_eq_false_iff_eq, beq_eq_false_iff_ne, ne_eq, Bool.not_true, Bool.not_false, Bool.false_eq_true, Bool.true_eq_false, inB_true, inB_false] at hd)))
      | refine ok_ret ?_
      | refine ok_skip ?_
      | (refine ok_region (i := 0) ?_; refine ok_p rfl rfl rfl (by exact ps_assign rfl rfl) ?_; refine ok_p rfl rfl rfl (by exact ps_assign rfl rfl) ?_; refine ok_nil ?_; refine ok_env [(0, _), (1, _)] ⟨rfl, rfl, trivial⟩ ?_)
      | (refine ok_region (i := 1) ?_; refine ok_p rfl rfl rfl (by exact ps_move rfl rfl) ?_; refine ok_p rfl rfl rfl (by exact ps_move rfl rfl) ?_; refine ok_m rfl rfl rfl (by exact ms_c3 rfl rfl rfl rfl (fun _ _ w hw => s_l6Vars_no s z hs hz hv w)) ?_; rintro y11 hy11; refine ok_p rfl rfl rfl (by exact ps_move rfl rfl) ?_; refine ok_p rfl rfl rfl (by exact ps_extract rfl rfl rfl) ?_; refine ok_p rfl rfl rfl (by exact ps_extract rfl rfl rfl) ?_; refine ok_p rfl rfl rfl (by exact ps_assign rfl rfl) ?_; refine ok_p rfl rfl rfl (by exact ps_assign rfl rfl) ?_; refine ok_nil ?_; refine ok_env [(0, _), (6, _), (7, _)] ⟨rfl, rfl, rfl, trivial⟩ ?_)
      | (refine ok_region (i := 2) ?_; refine ok_p rfl rfl rfl (by exact ps_move rfl rfl) ?_; refine ok_p rfl rfl rfl (by exact ps_int rfl rfl rfl rfl) ?_; refine ok_p rfl rfl rfl (by exact ps_move rfl rfl) ?_; refine ok_pg rfl rfl rfl rfl rfl (gF _) (fun hp => by (have hpd := hp; (try simp only [decide_eq_true_eq, decide_eq_false_iff_not, Bool.or_eq_true, Bool.or_eq_false_iff, Bool.and_eq_true, Bool.and_eq_false_iff, Bool.not_eq_true', Bool.not_eq_false', bne_iff_ne, beq_iff_eq, bne_eq_false_iff_eq, beq_eq_false_iff_ne, ne_eq, Bool.not_true, Bool.not_false, Bool.false_eq_true, Bool.true_eq_false, inB_true, inB_false] at hpd); exact ps_move rfl (by exact rfl))) ?_; refine ok_pg rfl rfl rfl rfl rfl (gF _) (fun hp => by (have hpd := hp; (try simp only [decide_eq_true_eq, decide_eq_false_iff_not, Bool.or_eq_true, Bool.or_eq_false_iff, Bool.and_eq_true, Bool.and_eq_false_iff, Bool.not_eq_true', Bool.not_eq_false', bne_iff_ne, beq_iff_eq, bne_eq_false_iff_eq, beq_eq_false_iff_ne, ne_eq, Bool.not_true, Bool.not_false, Bool.false_eq_true, Bool.true_eq_false, inB_true, inB_false] at hpd); exact ps_indexN rfl (by (refine og rfl ?_; assumption)) (by exact rfl) (by omega) (by exact isw_row 0 rfl (by omega)))) ?_; refine ok_pg rfl rfl rfl rfl rfl (gF _) (fun hp => by (have hpd := hp; (try simp only [decide_eq_true_eq, decide_eq_false_iff_not, Bool.or_eq_true, Bool.or_eq_false_iff, Bool.and_eq_true, Bool.and_eq_false_iff, Bool.not_eq_true', Bool.not_eq_false', bne_iff_ne, beq_iff_eq, bne_eq_false_iff_eq, beq_eq_false_iff_ne, ne_eq, Bool.not_true, Bool.not_false, Bool.false_eq_true, Bool.true_eq_false, inB_true, inB_false] at hpd); exact ps_load rfl (by (refine og rfl ?_; assumption)) (by exact Rds.cell (rds_row 0 rfl) (by exact fl_at0 _ _ (by omega) (by decide))))) ?_; refine ok_pg rfl rfl rfl rfl rfl (gF _) (fun hp => by (have hpd := hp; (try simp only [decide_eq_true_eq, decide_eq_false_iff_not, Bool.or_eq_true, Bool.or_eq_false_iff, Bool.and_eq_true, Bool.and_eq_false_iff, Bool.not_eq_true', Bool.not_eq_false', bne_iff_ne, beq_iff_eq, bne_eq_false_iff_eq, beq_eq_false_iff_ne, ne_eq, Bool.not_true, Bool.not_false, Bool.false_eq_true, Bool.true_eq_false, inB_true, inB_false] at hpd); exact ps_move rfl (by exact rfl))) ?_; refine ok_pg rfl rfl rfl rfl rfl (gF _) (fun hp => by (have hpd := hp; (try simp only [decide_eq_true_eq, decide_eq_false_iff_not, Bool.or_eq_true, Bool.or_eq_false_iff, Bool.and_eq_true, Bool.and_eq_false_iff, Bool.not_eq_true', Bool.not_eq_false', bne_iff_ne, beq_iff_eq, bne_eq_false_iff_eq, beq_eq_false_iff_ne, ne_eq, Bool.not_true, Bool.not_false, Bool.false_eq_true, Bool.true_eq_false, inB_true, inB_false] at hpd); exact ps_slen rfl (by (refine og rfl ?_; assumption)))) ?_; refine ok_pg rfl rfl rfl rfl rfl (gF _) (fun hp => by (have hpd := hp; (try simp only [decide_eq_true_eq, decide_eq_false_iff_not, Bool.or_eq_true, Bool.or_eq_false_iff, Bool.and_eq_true, Bool.and_eq_false_iff, Bool.not_eq_true', Bool.not_eq_false', bne_iff_ne, beq_iff_eq, bne_eq_false_iff_eq, beq_eq_false_iff_ne, ne_eq, Bool.not_true, Bool.not_false, Bool.false_eq_true, Bool.true_eq_false, inB_true, inB_false] at hpd); exact ps_move rfl (by exact rfl))) ?_; refine ok_pg rfl rfl rfl rfl rfl (gF _) (fun hp => by (have hpd := hp; (try simp only [decide_eq_true_eq, decide_eq_false_iff_not, Bool.or_eq_true, Bool.or_eq_false_iff, Bool.and_eq_true, Bool.and_eq_false_iff, Bool.not_eq_true', Bool.not_eq_false', bne_iff_ne, beq_iff_eq, bne_eq_false_iff_eq, beq_eq_false_iff_ne, ne_eq, Bool.not_true, Bool.not_false, Bool.false_eq_true, Bool.true_eq_false, inB_true, inB_false] at hpd); exact ps_sub rfl (by (refine og rfl ?_; assumption)) (by (refine og rfl ?_; assumption)) (by omega))) ?_; refine ok_pg rfl rfl rfl rfl rfl (gF _) (fun hp => by (have hpd := hp; (try simp only [decide_eq_true_eq, decide_eq_false_iff_not, Bool.or_eq_true, Bool.or_eq_false_iff, Bool.and_eq_true, Bool.and_eq_false_iff, Bool.not_eq_true', Bool.not_eq_false', bne_iff_ne, beq_iff_eq, bne_eq_false_iff_eq, beq_eq_false_iff_ne, ne_eq, Bool.not_true, Bool.not_false, Bool.false_eq_true, Bool.true_eq_false, inB_true, inB_false] at hpd); exact ps_int rfl (by (refine og rfl ?_; assumption)) (by (refine og rfl ?_; assumption)) rfl)) ?_; refine ok_p rfl rfl rfl (by exact ps_or rfl rfl rfl) ?_; refine ok_nil ?_; refine ok_env [(0, _), (6, _), (7, _), (25, _)] ⟨rfl, rfl, rfl, rfl, trivial⟩ ?_)
      | (refine ok_region (i := 3) ?_; refine ok_p rfl rfl rfl (by exact ps_assign rfl rfl) ?_; refine ok_p rfl rfl rfl (by exact ps_assign rfl rfl) ?_; refine ok_nil ?_; refine ok_env [(4, _), (5, _)] ⟨rfl, rfl, trivial⟩ ?_))
    · exact ok_endL (vs := [_, _]) rfl ⟨rfl, rfl, trivial⟩ (fun w' hw => ⟨rfl, hw.below⟩)
    · omega
  | some p =>
    obtain ⟨n, q⟩ := p
    have hl := tkV_le hv
    have e : tkW s z = if q + n ≤ s.size then some (s.extract q (q + n), q + n) else none := by
      unfold tkV at hv
      unfold tkW
      split at hv
      · rename_i h; rw [if_pos h]; unfold tkS; rw [hv]; rfl
      · cases hv
    rw [e]
    obtain ⟨L, hL⟩ : ∃ L, L = [(n : Int)] := ⟨_, rfl⟩
    have h1 : L.length = 1 := by rw [hL]; rfl
    have h2 : nth L (Int.toNat 0) = n := by rw [hL]; rfl
    refine ok_enter 39 Try.func129 rfl rfl rfl ?_
    repeat' (first
      | refine ok_seq ?_
      | refine ok_then ?_
      | refine ok_then_ret ?_
      | (refine ok_cond rfl (fun hc => ?_) (fun hc => ?_) <;> (have hd := hc; (try simp only [decide_eq_true_eq, decide_eq_false_iff_not, Bool.or_eq_true, Bool.or_eq_false_iff, Bool.and_eq_true, Bool.and_eq_false_iff, Bool.not_eq_true', Bool.not_eq_false', bne_iff_ne, beq_iff_eq, bne_eq_false_iff_eq, beq_eq_false_iff_ne, ne_eq, Bool.not_true, Bool.not_false, Bool.false_eq_true, Bool.true_eq_false, inB_true, inB_false] at hd)))
      | refine ok_ret ?_
      | refine ok_skip ?_
      | (refine ok_region (i := 0) ?_; refine ok_p rfl rfl rfl (by exact ps_assign rfl rfl) ?_; refine ok_p rfl rfl rfl (by exact ps_assign rfl rfl) ?_; refine ok_nil ?_; refine ok_env [(0, _), (1, _)] ⟨rfl, rfl, trivial⟩ ?_)
      | (refine ok_region (i := 1) ?_; refine ok_p rfl rfl rfl (by exact ps_move rfl rfl) ?_; refine ok_p rfl rfl rfl (by exact ps_move rfl rfl) ?_; refine ok_m rfl rfl rfl (by exact ms_c3 rfl rfl rfl rfl (fun _ _ w hw => s_l6Vars_yes s z n q L hL hs hz hv w)) ?_; rintro y11 hy11; refine ok_p rfl rfl rfl (by exact ps_move rfl rfl) ?_; refine ok_p rfl rfl rfl (by exact ps_extract rfl rfl rfl) ?_; refine ok_p rfl rfl rfl (by exact ps_extract rfl rfl rfl) ?_; refine ok_p rfl rfl rfl (by exact ps_assign rfl rfl) ?_; refine ok_p rfl rfl rfl (by exact ps_assign rfl rfl) ?_; refine ok_nil ?_; refine ok_env [(0, _), (6, _), (7, _)] ⟨rfl, rfl, rfl, trivial⟩ ?_)
      | (refine ok_region (i := 2) ?_; refine ok_p rfl rfl rfl (by exact ps_move rfl rfl) ?_; refine ok_p rfl rfl rfl (by exact ps_int rfl rfl rfl rfl) ?_; refine ok_p rfl rfl rfl (by exact ps_move rfl rfl) ?_; refine ok_pg rfl rfl rfl rfl rfl (gF _) (fun hp => by (have hpd := hp; (try simp only [decide_eq_true_eq, decide_eq_false_iff_not, Bool.or_eq_true, Bool.or_eq_false_iff, Bool.and_eq_true, Bool.and_eq_false_iff, Bool.not_eq_true', Bool.not_eq_false', bne_iff_ne, beq_iff_eq, bne_eq_false_iff_eq, beq_eq_false_iff_ne, ne_eq, Bool.not_true, Bool.not_false, Bool.false_eq_true, Bool.true_eq_false, inB_true, inB_false] at hpd); exact ps_move rfl (by exact rfl))) ?_; refine ok_pg rfl rfl rfl rfl rfl (gF _) (fun hp => by (have hpd := hp; (try simp only [decide_eq_true_eq, decide_eq_false_iff_not, Bool.or_eq_true, Bool.or_eq_false_iff, Bool.and_eq_true, Bool.and_eq_false_iff, Bool.not_eq_true', Bool.not_eq_false', bne_iff_ne, beq_iff_eq, bne_eq_false_iff_eq, beq_eq_false_iff_ne, ne_eq, Bool.not_true, Bool.not_false, Bool.false_eq_true, Bool.true_eq_false, inB_true, inB_false] at hpd); exact ps_index rfl (by (refine og rfl ?_; assumption)) (by exact rfl) (by omega) (by exact isw_row 0 rfl (by omega)))) ?_; refine ok_pg rfl rfl rfl rfl rfl (gF _) (fun hp => by (have hpd := hp; (try simp only [decide_eq_true_eq, decide_eq_false_iff_not, Bool.or_eq_true, Bool.or_eq_false_iff, Bool.and_eq_true, Bool.and_eq_false_iff, Bool.not_eq_true', Bool.not_eq_false', bne_iff_ne, beq_iff_eq, bne_eq_false_iff_eq, beq_eq_false_iff_ne, ne_eq, Bool.not_true, Bool.not_false, Bool.false_eq_true, Bool.true_eq_false, inB_true, inB_false] at hpd); exact ps_load rfl (by (refine og rfl ?_; assumption)) (by exact Rds.cell (rds_row 0 rfl) (by exact fl_at0 _ _ (by omega) (by decide))))) ?_; refine ok_pg rfl rfl rfl rfl rfl (gF _) (fun hp => by (have hpd := hp; (try simp only [decide_eq_true_eq, decide_eq_false_iff_not, Bool.or_eq_true, Bool.or_eq_false_iff, Bool.and_eq_true, Bool.and_eq_false_iff, Bool.not_eq_true', Bool.not_eq_false', bne_iff_ne, beq_iff_eq, bne_eq_false_iff_eq, beq_eq_false_iff_ne, ne_eq, Bool.not_true, Bool.not_false, Bool.false_eq_true, Bool.true_eq_false, inB_true, inB_false] at hpd); exact ps_move rfl (by exact rfl))) ?_; refine ok_pg rfl rfl rfl rfl rfl (gF _) (fun hp => by (have hpd := hp; (try simp only [decide_eq_true_eq, decide_eq_false_iff_not, Bool.or_eq_true, Bool.or_eq_false_iff, Bool.and_eq_true, Bool.and_eq_false_iff, Bool.not_eq_true', Bool.not_eq_false', bne_iff_ne, beq_iff_eq, bne_eq_false_iff_eq, beq_eq_false_iff_ne, ne_eq, Bool.not_true, Bool.not_false, Bool.false_eq_true, Bool.true_eq_false, inB_true, inB_false] at hpd); exact ps_slen rfl (by (refine og rfl ?_; assumption)))) ?_; refine ok_pg rfl rfl rfl rfl rfl (gF _) (fun hp => by (have hpd := hp; (try simp only [decide_eq_true_eq, decide_eq_false_iff_not, Bool.or_eq_true, Bool.or_eq_false_iff, Bool.and_eq_true, Bool.and_eq_false_iff, Bool.not_eq_true', Bool.not_eq_false', bne_iff_ne, beq_iff_eq, bne_eq_false_iff_eq, beq_eq_false_iff_ne, ne_eq, Bool.not_true, Bool.not_false, Bool.false_eq_true, Bool.true_eq_false, inB_true, inB_false] at hpd); exact ps_move rfl (by exact rfl))) ?_; refine ok_pg rfl rfl rfl rfl rfl (gF _) (fun hp => by (have hpd := hp; (try simp only [decide_eq_true_eq, decide_eq_false_iff_not, Bool.or_eq_true, Bool.or_eq_false_iff, Bool.and_eq_true, Bool.and_eq_false_iff, Bool.not_eq_true', Bool.not_eq_false', bne_iff_ne, beq_iff_eq, bne_eq_false_iff_eq, beq_eq_false_iff_ne, ne_eq, Bool.not_true, Bool.not_false, Bool.false_eq_true, Bool.true_eq_false, inB_true, inB_false] at hpd); exact ps_sub rfl (by (refine og rfl ?_; assumption)) (by (refine og rfl ?_; assumption)) (by omega))) ?_; refine ok_pg rfl rfl rfl rfl rfl (gF _) (fun hp => by (have hpd := hp; (try simp only [decide_eq_true_eq, decide_eq_false_iff_not, Bool.or_eq_true, Bool.or_eq_false_iff, Bool.and_eq_true, Bool.and_eq_false_iff, Bool.not_eq_true', Bool.not_eq_false', bne_iff_ne, beq_iff_eq, bne_eq_false_iff_eq, beq_eq_false_iff_ne, ne_eq, Bool.not_true, Bool.not_false, Bool.false_eq_true, Bool.true_eq_false, inB_true, inB_false] at hpd); exact ps_int rfl (by (refine og rfl ?_; assumption)) (by (refine og rfl ?_; assumption)) rfl)) ?_; refine ok_p rfl rfl rfl (by exact ps_or rfl rfl rfl) ?_; refine ok_nil ?_; refine ok_env [(0, _), (6, _), (7, _), (25, _)] ⟨rfl, rfl, rfl, rfl, trivial⟩ ?_)
      | (refine ok_region (i := 3) ?_; refine ok_p rfl rfl rfl (by exact ps_assign rfl rfl) ?_; refine ok_p rfl rfl rfl (by exact ps_assign rfl rfl) ?_; refine ok_nil ?_; refine ok_env [(4, _), (5, _)] ⟨rfl, rfl, trivial⟩ ?_)
      | (refine ok_draw (id := 4) 15 rfl (by kernel_rfl) (by kernel_rfl) rfl (by repeat (first | exact pq_body | refine pq_then ?_ | refine pq_in ?_)) [0, 1, 2, 3, 4, 5, 6, 7, 8, 9, 10, 11, 12, 13, 14, 15, 16, 17, 18, 19, 20, 21, 22, 23] (by decide) rfl ?_; refine okT_take (i := 0) rfl (by kernel_rfl) rfl rfl rfl (by exact ps_move rfl rfl) ?_; refine okT_take (i := 1) rfl (by kernel_rfl) rfl rfl rfl (by exact ps_move rfl rfl) ?_; refine okT_take (i := 2) rfl (by kernel_rfl) rfl rfl rfl (by exact ps_move rfl rfl) ?_; refine okT_take (i := 3) rfl (by kernel_rfl) rfl rfl rfl (by exact ps_move rfl rfl) ?_; refine okT_take (i := 4) rfl (by kernel_rfl) rfl rfl rfl (by exact ps_index rfl rfl rfl (by omega) (by exact isw_row 0 rfl (by omega))) ?_; refine okT_take (i := 5) rfl (by kernel_rfl) rfl rfl rfl (by exact ps_load rfl rfl (by exact Rds.cell (rds_row 0 rfl) (by exact fl_at0 _ _ (by omega) (by decide)))) ?_; refine okT_take (i := 6) rfl (by kernel_rfl) rfl rfl rfl (by exact ps_add rfl rfl rfl (by omega)) ?_; refine okT_take (i := 7) rfl (by kernel_rfl) rfl rfl rfl (by exact ps_sslE q (q + n) rfl rfl ⟨_, _, rfl, rfl⟩ ⟨_, _, rfl, by omega⟩ (by omega) (by omega)) ?_; refine okT_take (i := 8) rfl (by kernel_rfl) rfl rfl rfl (by exact ps_move rfl rfl) ?_; refine okT_take (i := 9) rfl (by kernel_rfl) rfl rfl rfl (by exact ps_move rfl rfl) ?_; refine okT_take (i := 10) rfl (by kernel_rfl) rfl rfl rfl (by exact ps_index rfl rfl rfl (by omega) (by exact isw_row 0 rfl (by omega))) ?_; refine okT_take (i := 11) rfl (by kernel_rfl) rfl rfl rfl (by exact ps_load rfl rfl (by exact Rds.cell (rds_row 0 rfl) (by exact fl_at0 _ _ (by omega) (by decide)))) ?_; refine okT_take (i := 12) rfl (by kernel_rfl) rfl rfl rfl (by exact ps_add rfl rfl rfl (by omega)) ?_; refine okT_take (i := 13) rfl (by kernel_rfl) rfl rfl rfl (by exact ps_assign rfl rfl) ?_; refine okT_take (i := 14) rfl (by kernel_rfl) rfl rfl rfl (by exact ps_assign rfl rfl) ?_; refine okT_done (by kernel_rfl) ?_; refine ok_nil ?_; refine ok_env [(4, _), (5, _)] ⟨rfl, rfl, trivial⟩ ?_))
    · rw [if_neg (by omega)]
      exact ok_endL (vs := [_, _]) rfl ⟨rfl, rfl, trivial⟩ (fun w' hw => ⟨rfl, hw.below⟩)
    · rw [if_pos (by omega)]
      refine ok_endL (vs := [_, _]) rfl ⟨rfl, rfl, trivial⟩ (fun w' hw => ⟨?_, hw.below⟩)
      rw [h2]
      simp only [tkT, tkE, retV, Int.natCast_add]
end Go.Proofs.Ytbegbdfbfbkflaa
