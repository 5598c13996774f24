/- TurnsNext of both programs. -/
import Derived.Test.YtfcnimglcialbaaTrxP
import Derived.Test.YtfcnimglcialbaaEng10
namespace Go.Proofs.Ytfcnimglcialbaa
open Go.RowKit
set_option maxHeartbeats 4000000
set_option maxRecDepth 20000
set_option linter.unusedVariables false
set_option linter.unusedSimpArgs false
attribute [local irreducible] Calls
theorem max_c (A : Option Addr) (c : Nat) (T : List Int) (w : World) (h : Rd w A (fl T)) (h0 : 0 < T.length) (hl : T.length ≤ 1048576) :
    Calls Try.prog 123 #[.slice A T.length c] w fun e w' => ∃ y : Ys, e = .returned (.int .i64 (y 0).n) ∧ ((∀ j, j < T.length → nth T j ≤ (y 0).n) ∧ ∃ j, j < T.length ∧ nth T j = (y 0).n) ∧ Below w.heap.size w w' ∧ NewOk w.heap.size [] [] w' := by
  refine ok_enter 25 Try.func123 rfl rfl rfl ?_
  repeat' (first
    | refine ok_seq ?_
    | refine ok_then ?_
    | refine ok_block ?_
    | (refine ok_cond rfl (fun hc => ?_) (fun hc => ?_) <;> (have hd := hc; (try simp only [decide_eq_true_eq, decide_eq_false_iff_not, Bool.or_eq_true, Bool.or_eq_false_iff, Bool.and_eq_true, Bool.and_eq_false_iff, Bool.not_eq_true', Bool.not_eq_false', bne_iff_ne, beq_iff_eq, bne_eq_false_iff_eq, beq_eq_false_iff_ne, ne_eq, Bool.not_true, Bool.not_false, Bool.false_eq_true, Bool.true_eq_false, inB_true, inB_false] at hd)))
    | refine ok_skip ?_
    | (refine ok_region (i := 0) ?_; refine ok_p rfl rfl rfl (by exact ps_assign rfl rfl) ?_; refine ok_nil ?_; refine ok_env [(0, _)] ⟨rfl, trivial⟩ ?_)
    | (refine ok_region (i := 1) ?_; refine ok_p rfl rfl rfl (by exact ps_move rfl rfl) ?_; refine ok_p rfl rfl rfl (by exact ps_len rfl rfl) ?_; refine ok_p rfl rfl rfl (by exact ps_int rfl rfl rfl rfl) ?_; refine ok_nil ?_; refine ok_env [(0, _), (7, _)] ⟨rfl, rfl, trivial⟩ ?_)
    | (refine ok_region (i := 3) ?_; refine ok_p rfl rfl rfl (by exact ps_move rfl rfl) ?_; refine ok_p rfl rfl rfl (by exact ps_indexN rfl rfl rfl (by omega) (by exact isw_of (isS_fl (by assumption) (by omega)))) ?_; refine ok_p rfl rfl rfl (by exact ps_load rfl rfl (by exact Rds.cell (rds_rf (by assumption) (by exact List.mem_cons_self)) (by exact fl_at0 _ _ (by omega) (by decide)))) ?_; refine ok_p rfl rfl rfl (by exact ps_assign rfl rfl) ?_; refine ok_nil ?_; refine ok_env [(0, _), (3, _)] ⟨rfl, rfl, trivial⟩ ?_)
    | (refine ok_region (i := 4) ?_; refine ok_p rfl rfl rfl (by exact ps_assign rfl rfl) ?_; refine ok_nil ?_; refine ok_env [(0, _), (3, _), (4, _)] ⟨rfl, rfl, rfl, trivial⟩ ?_))
  · exfalso; omega
  have i0 : { q : Nat × Int // 1 ≤ q.1 ∧ q.1 ≤ T.length ∧ (∀ j, j < q.1 → nth T j ≤ q.2) ∧ ∃ j, j < T.length ∧ nth T j = q.2 } := ⟨(1, nth T 0), by simp, h0, fun j hj => by simp at hj; subst hj; simp, 0, h0, rfl⟩
  refine ok_loop (ι := { q : Nat × Int // 1 ≤ q.1 ∧ q.1 ≤ T.length ∧ (∀ j, j < q.1 → nth T j ≤ q.2) ∧ ∃ j, j < T.length ∧ nth T j = q.2 }) (fun q => T.length - q.1.1) (fun q => ([(0, .slice A T.length c), (3, .int .i64 q.1.2), (4, .int .i64 q.1.1)], _, _)) i0 (fun a w he hw => ⟨⟨(1, nth T 0), by simp, h0, fun j hj => by simp at hj; subst hj; simp, 0, h0, rfl⟩, he.sub ⟨rfl, rfl, rfl, trivial⟩, hw⟩) ?_
  rintro ⟨⟨k, m⟩, hk1, hk, hle, hat⟩
  simp only at hk1 hk hle hat ⊢
  have HL := Lib.hid hle; clear hle
  have HA := Lib.hid hat; clear hat
  repeat' (first
    | refine ok_seq ?_
    | refine ok_then ?_
    | refine ok_block ?_
    | refine ok_in_normal ?_
    | (refine ok_cond rfl (fun hc => ?_) (fun hc => ?_) <;> (have hd := hc; (try simp only [decide_eq_true_eq, decide_eq_false_iff_not, Bool.or_eq_true, Bool.or_eq_false_iff, Bool.and_eq_true, Bool.and_eq_false_iff, Bool.not_eq_true', Bool.not_eq_false', bne_iff_ne, beq_iff_eq, bne_eq_false_iff_eq, beq_eq_false_iff_ne, ne_eq, Bool.not_true, Bool.not_false, Bool.false_eq_true, Bool.true_eq_false, inB_true, inB_false] at hd)))
    | refine ok_ret ?_
    | refine ok_exit ?_
    | refine ok_skip ?_
    | (refine ok_region (i := 5) ?_; refine ok_p rfl rfl rfl (by exact ps_move rfl rfl) ?_; refine ok_p rfl rfl rfl (by exact ps_move rfl rfl) ?_; refine ok_p rfl rfl rfl (by exact ps_len rfl rfl) ?_; refine ok_p rfl rfl rfl (by exact ps_int rfl rfl rfl rfl) ?_; refine ok_nil ?_; refine ok_env [(0, _), (3, _), (4, _), (15, _)] ⟨rfl, rfl, rfl, rfl, trivial⟩ ?_)
    | (refine ok_region (i := 6) ?_; refine ok_p rfl rfl rfl (by exact ps_move rfl rfl) ?_; refine ok_p rfl rfl rfl (by exact ps_add rfl rfl rfl (by omega)) ?_; refine ok_p rfl rfl rfl (by exact ps_assign rfl rfl) ?_; refine ok_nil ?_; refine ok_env [(0, _), (3, _), (4, _)] ⟨rfl, rfl, rfl, trivial⟩ ?_)
    | (refine ok_region (i := 7) ?_; refine ok_p rfl rfl rfl (by exact ps_move rfl rfl) ?_; refine ok_p rfl rfl rfl (by exact ps_move rfl rfl) ?_; refine ok_p rfl rfl rfl (by exact ps_move rfl rfl) ?_; refine ok_p rfl rfl rfl (by exact ps_indexN rfl rfl rfl (by omega) (by exact isw_of (isS_fl (by assumption) (by omega)))) ?_; refine ok_p rfl rfl rfl (by exact ps_load rfl rfl (by exact Rds.cell (rds_rf (by assumption) (by exact List.mem_cons_self)) (by exact fl_at0 _ _ (by omega) (by decide)))) ?_; refine ok_p rfl rfl rfl (by exact ps_max rfl rfl rfl) ?_; refine ok_p rfl rfl rfl (by exact ps_assign rfl rfl) ?_; refine ok_nil ?_; refine ok_env [(0, _), (3, _), (4, _)] ⟨rfl, rfl, rfl, trivial⟩ ?_)
    | (refine ok_region (i := 8) ?_; refine ok_p rfl rfl rfl (by exact ps_move rfl rfl) ?_; refine ok_p rfl rfl rfl (by exact ps_assign rfl rfl) ?_; refine ok_nil ?_; refine ok_env [(2, _)] ⟨rfl, trivial⟩ ?_))
  · refine fun a w' he hw => ⟨⟨(k + 1, if m < nth T k then nth T k else m), by simp, by simp; omega, ?_, ?_⟩, by simp only; omega, he.sub ⟨rfl, rfl, rfl, trivial⟩, hw⟩
    · intro j hj
      simp only at hj ⊢
      rcases Nat.lt_succ_iff_lt_or_eq.1 hj with h' | rfl
      · have := HL.out j h'; split <;> omega
      · split <;> omega
    · simp only
      split
      · exact ⟨k, by omega, rfl⟩
      · exact HA.out
  · obtain rfl : k = T.length := by omega
    exact ok_endL (vs := [_]) rfl ⟨rfl, trivial⟩ (fun w' hw => ⟨mkN m w, rfl, ⟨HL.out, HA.out⟩, hw.below, NewOk.nil _ _⟩)
/-- What choosing leaves. -/
def servL (L : List Int) (i : Int) : List Int := if 0 ≤ i then L.set i.toNat (nth L i.toNat - 1) else L
def servP (p i : Int) : Int := if 0 ≤ i then i else p
theorem servL_len (L : List Int) (i : Int) : (servL L i).length = L.length := by unfold servL; split <;> simp
theorem choose_c (g : Nat) (A0 A1 A2 : Option Addr) (c0 c1 c2 nL nT : Nat) (W L T : List Int) (p : Int) (hL : nL = L.length) (hT : nT = T.length) (hLW : L.length = W.length) (hTW : T.length = W.length) (hn : 1 ≤ W.length ∧ W.length ≤ 5) (hp : 0 ≤ p ∧ p < W.length)
    (hb : ∀ k, k < W.length → nth L k ≤ 9 ∧ nth T k ≤ 99) {base : Nat} {w0 w : World} {H : List HObj} {G : List World}
    (hw : WOk base w0 (.box g 51 [.slice A0 W.length c0, .slice A1 nL c1, .slice A2 nT c2, .int .i64 p] :: .row 3 1 A1 nL c1 (fl L) :: .row 3 1 A2 nT c2 (fl T) :: H) G w) :
    Calls Try.prog 124 #[pt (ga g) 0] w fun e w' => ∃ y : Ys, e = .returned (.int .i64 (takeT L T p W.length W.length 0)) ∧ True ∧ WOk base w0 (.box g 51 [.slice A0 W.length c0, .slice A1 nL c1, .slice A2 nT c2, .int .i64 (servP p (takeT L T p W.length W.length 0))] :: .row 3 1 A1 nL c1 (fl (servL L (takeT L T p W.length W.length 0))) :: .row 3 1 A2 nT c2 (fl (servL T (takeT L T p W.length W.length 0))) :: H) G w' := by
  subst hL hT
  refine ok_enterW 65 Try.func124 rfl rfl rfl hw ?_
  repeat' (first
    | refine ok_seq ?_
    | refine ok_then ?_
    | refine ok_block ?_
    | (refine ok_region (i := 0) ?_; refine ok_p rfl rfl rfl (by exact ps_assign rfl rfl) ?_; refine ok_nil ?_; refine ok_env [(0, _)] ⟨rfl, trivial⟩ ?_)
    | (refine ok_region (i := 1) ?_; refine ok_p rfl rfl rfl (by exact ps_move rfl rfl) ?_; refine ok_p rfl rfl rfl (by exact ps_nil rfl rfl (by exact isw_ga _)) ?_; refine ok_p rfl rfl rfl (by exact ps_field rfl rfl (by exact isw_ga _)) ?_; refine ok_p rfl rfl rfl (by exact ps_load rfl rfl (by exact Rds.cell (rds_box 0 rfl) rfl)) ?_; refine ok_p rfl rfl rfl (by exact ps_len rfl rfl) ?_; refine ok_p rfl rfl rfl (by exact ps_assign rfl rfl) ?_; refine ok_nil ?_; refine ok_env [(0, _), (3, _)] ⟨rfl, rfl, trivial⟩ ?_)
    | (refine ok_region (i := 2) ?_; refine ok_p rfl rfl rfl (by exact ps_move rfl rfl) ?_; refine ok_p rfl rfl rfl (by exact ps_move rfl rfl) ?_; refine ok_nil ?_; refine ok_env [(0, _), (3, _), (11, _), (12, _)] ⟨rfl, rfl, rfl, rfl, trivial⟩ ?_))
  refine ok_loop (ι := { k : Nat // k ≤ W.length ∧ takeT L T p W.length W.length 0 = takeT L T p W.length (W.length - k) k }) (fun k => W.length - k.1) (fun k => ([(0, pt (ga g) 0), (3, .int .i64 W.length), (11, .int .i64 W.length), (12, .int .i64 k.1)], _, _)) ⟨0, by omega, rfl⟩ (fun a w he hw => ⟨⟨0, by omega, rfl⟩, he.sub ⟨rfl, rfl, rfl, rfl, trivial⟩, hw⟩) ?_
  rintro ⟨k, hk, hr⟩
  simp only at hk hr ⊢
  have HB := Lib.hid hb; clear hb
  have HR := Lib.hid hr; clear hr
  have q1 : 0 ≤ (p + (k : Int)) % (W.length : Int) := Int.emod_nonneg _ (by omega)
  have q2 : (p + (k : Int)) % (W.length : Int) < (W.length : Int) := Int.emod_lt_of_pos _ (by omega)
  have b1 := HB.out ((p + (k : Int)) % (W.length : Int)).toNat (by omega)
  repeat' (first
    | refine ok_seq ?_
    | refine ok_then ?_
    | refine ok_then_ret ?_
    | refine ok_block ?_
    | refine ok_in_normal ?_
    | refine ok_in_ret ?_
    | (refine ok_cond rfl (fun hc => ?_) (fun hc => ?_) <;> (have hd := hc; (try simp only [decide_eq_true_eq, decide_eq_false_iff_not, Bool.or_eq_true, Bool.or_eq_false_iff, Bool.and_eq_true, Bool.and_eq_false_iff, Bool.not_eq_true', Bool.not_eq_false', bne_iff_ne, beq_iff_eq, bne_eq_false_iff_eq, beq_eq_false_iff_ne, ne_eq, Bool.not_true, Bool.not_false, Bool.false_eq_true, Bool.true_eq_false, inB_true, inB_false] at hd)))
    | refine ok_ret ?_
    | refine ok_exit ?_
    | refine ok_skip ?_
    | (refine ok_region (i := 3) ?_; refine ok_p rfl rfl rfl (by exact ps_int rfl rfl rfl rfl) ?_; refine ok_nil ?_; refine ok_env [(0, _), (3, _), (11, _), (12, _), (13, _)] ⟨rfl, rfl, rfl, rfl, rfl, trivial⟩ ?_)
    | (refine ok_region (i := 4) ?_; refine ok_p rfl rfl rfl (by exact ps_move rfl rfl) ?_; refine ok_p rfl rfl rfl (by exact ps_assign rfl rfl) ?_; refine ok_nil ?_; refine ok_env [(0, _), (3, _), (4, _), (11, _), (12, _)] ⟨rfl, rfl, rfl, rfl, rfl, trivial⟩ ?_)
    | (refine ok_region (i := 5) ?_; refine ok_p rfl rfl rfl (by exact ps_move rfl rfl) ?_; refine ok_p rfl rfl rfl (by exact ps_nil rfl rfl (by exact isw_ga _)) ?_; refine ok_p rfl rfl rfl (by exact ps_field rfl rfl (by exact isw_ga _)) ?_; refine ok_p rfl rfl rfl (by exact ps_load rfl rfl (by exact Rds.cell (rds_box 0 rfl) rfl)) ?_; refine ok_p rfl rfl rfl (by exact ps_move rfl rfl) ?_; refine ok_p rfl rfl rfl (by exact ps_add rfl rfl rfl (by omega)) ?_; refine ok_p rfl rfl rfl (by exact ps_move rfl rfl) ?_; refine ok_p rfl rfl rfl (by exact ps_rem rfl rfl rfl (by omega) (by omega)) ?_; refine ok_p rfl rfl rfl (by exact ps_assign rfl rfl) ?_; refine ok_nil ?_; refine ok_env [(0, _), (3, _), (5, _), (11, _), (12, _)] ⟨rfl, rfl, rfl, rfl, rfl, trivial⟩ ?_)
    | (refine ok_region (i := 6) ?_; refine ok_p rfl rfl rfl (by exact ps_move rfl rfl) ?_; refine ok_p rfl rfl rfl (by exact ps_nil rfl rfl (by exact isw_ga _)) ?_; refine ok_p rfl rfl rfl (by exact ps_field rfl rfl (by exact isw_ga _)) ?_; refine ok_p rfl rfl rfl (by exact ps_load rfl rfl (by exact Rds.cell (rds_box 0 rfl) rfl)) ?_; refine ok_p rfl rfl rfl (by exact ps_move rfl rfl) ?_; refine ok_p rfl rfl rfl (by exact ps_index rfl rfl rfl (by omega) (by exact isw_row 2 rfl (by omega))) ?_; refine ok_p rfl rfl rfl (by exact ps_load rfl rfl (by exact Rds.cell (rds_row 2 rfl) (by exact fl_at0 _ _ (by omega) (by decide)))) ?_; refine ok_p rfl rfl rfl (by exact ps_int rfl rfl rfl rfl) ?_; refine ok_p rfl rfl rfl (by exact ps_move rfl rfl) ?_; refine ok_pg rfl rfl rfl rfl rfl (gT _) (fun hp => by (have hpd := hp; (try simp only [decide_eq_true_eq, decide_eq_false_iff_not, Bool.or_eq_true, Bool.or_eq_false_iff, Bool.and_eq_true, Bool.and_eq_false_iff, Bool.not_eq_true', Bool.not_eq_false', bne_iff_ne, beq_iff_eq, bne_eq_false_iff_eq, beq_eq_false_iff_ne, ne_eq, Bool.not_true, Bool.not_false, Bool.false_eq_true, Bool.true_eq_false, inB_true, inB_false] at hpd); exact ps_move rfl (by exact rfl))) ?_; refine ok_pg rfl rfl rfl rfl rfl (gT _) (fun hp => by (have hpd := hp; (try simp only [decide_eq_true_eq, decide_eq_false_iff_not, Bool.or_eq_true, Bool.or_eq_false_iff, Bool.and_eq_true, Bool.and_eq_false_iff, Bool.not_eq_true', Bool.not_eq_false', bne_iff_ne, beq_iff_eq, bne_eq_false_iff_eq, beq_eq_false_iff_ne, ne_eq, Bool.not_true, Bool.not_false, Bool.false_eq_true, Bool.true_eq_false, inB_true, inB_false] at hpd); exact ps_nil rfl (by (refine og rfl ?_; assumption)) (by exact isw_ga _))) ?_; refine ok_pg rfl rfl rfl rfl rfl (gT _) (fun hp => by (have hpd := hp; (try simp only [decide_eq_true_eq, decide_eq_false_iff_not, Bool.or_eq_true, Bool.or_eq_false_iff, Bool.and_eq_true, Bool.and_eq_false_iff, Bool.not_eq_true', Bool.not_eq_false', bne_iff_ne, beq_iff_eq, bne_eq_false_iff_eq, beq_eq_false_iff_ne, ne_eq, Bool.not_true, Bool.not_false, Bool.false_eq_true, Bool.true_eq_false, inB_true, inB_false] at hpd); exact ps_field rfl (by (refine og rfl ?_; assumption)) (by exact isw_ga _))) ?_; refine ok_pg rfl rfl rfl rfl rfl (gT _) (fun hp => by (have hpd := hp; (try simp only [decide_eq_true_eq, decide_eq_false_iff_not, Bool.or_eq_true, Bool.or_eq_false_iff, Bool.and_eq_true, Bool.and_eq_false_iff, Bool.not_eq_true', Bool.not_eq_false', bne_iff_ne, beq_iff_eq, bne_eq_false_iff_eq, beq_eq_false_iff_ne, ne_eq, Bool.not_true, Bool.not_false, Bool.false_eq_true, Bool.true_eq_false, inB_true, inB_false] at hpd); exact ps_load rfl (by (refine og rfl ?_; assumption)) (by exact Rds.cell (rds_box 0 rfl) rfl))) ?_; refine ok_pg rfl rfl rfl rfl rfl (gT _) (fun hp => by (have hpd := hp; (try simp only [decide_eq_true_eq, decide_eq_false_iff_not, Bool.or_eq_true, Bool.or_eq_false_iff, Bool.and_eq_true, Bool.and_eq_false_iff, Bool.not_eq_true', Bool.not_eq_false', bne_iff_ne, beq_iff_eq, bne_eq_false_iff_eq, beq_eq_false_iff_ne, ne_eq, Bool.not_true, Bool.not_false, Bool.false_eq_true, Bool.true_eq_false, inB_true, inB_false] at hpd); exact ps_move rfl (by exact rfl))) ?_; refine ok_pg rfl rfl rfl rfl rfl (gT _) (fun hp => by (have hpd := hp; (try simp only [decide_eq_true_eq, decide_eq_false_iff_not, Bool.or_eq_true, Bool.or_eq_false_iff, Bool.and_eq_true, Bool.and_eq_false_iff, Bool.not_eq_true', Bool.not_eq_false', bne_iff_ne, beq_iff_eq, bne_eq_false_iff_eq, beq_eq_false_iff_ne, ne_eq, Bool.not_true, Bool.not_false, Bool.false_eq_true, Bool.true_eq_false, inB_true, inB_false] at hpd); exact ps_index rfl (by (refine og rfl ?_; assumption)) (by (refine og rfl ?_; assumption)) (by omega) (by exact isw_row 1 rfl (by omega)))) ?_; refine ok_pg rfl rfl rfl rfl rfl (gT _) (fun hp => by (have hpd := hp; (try simp only [decide_eq_true_eq, decide_eq_false_iff_not, Bool.or_eq_true, Bool.or_eq_false_iff, Bool.and_eq_true, Bool.and_eq_false_iff, Bool.not_eq_true', Bool.not_eq_false', bne_iff_ne, beq_iff_eq, bne_eq_false_iff_eq, beq_eq_false_iff_ne, ne_eq, Bool.not_true, Bool.not_false, Bool.false_eq_true, Bool.true_eq_false, inB_true, inB_false] at hpd); exact ps_load rfl (by (refine og rfl ?_; assumption)) (by exact Rds.cell (rds_row 1 rfl) (by exact fl_at0 _ _ (by omega) (by decide))))) ?_; refine ok_pg rfl rfl rfl rfl rfl (gT _) (fun hp => by (have hpd := hp; (try simp only [decide_eq_true_eq, decide_eq_false_iff_not, Bool.or_eq_true, Bool.or_eq_false_iff, Bool.and_eq_true, Bool.and_eq_false_iff, Bool.not_eq_true', Bool.not_eq_false', bne_iff_ne, beq_iff_eq, bne_eq_false_iff_eq, beq_eq_false_iff_ne, ne_eq, Bool.not_true, Bool.not_false, Bool.false_eq_true, Bool.true_eq_false, inB_true, inB_false] at hpd); exact ps_int rfl (by (refine og rfl ?_; assumption)) (by exact rfl) rfl)) ?_; refine ok_p rfl rfl rfl (by exact ps_and rfl rfl rfl) ?_; refine ok_nil ?_; refine ok_env [(0, _), (3, _), (5, _), (11, _), (12, _), (40, _)] ⟨rfl, rfl, rfl, rfl, rfl, rfl, trivial⟩ ?_)
    | (refine ok_region (i := 7) ?_; refine ok_p rfl rfl rfl (by exact ps_move rfl rfl) ?_; refine ok_p rfl rfl rfl (by exact ps_nil rfl rfl (by exact isw_ga _)) ?_; refine ok_p rfl rfl rfl (by exact ps_field rfl rfl (by exact isw_ga _)) ?_; refine ok_p rfl rfl rfl (by exact ps_load rfl rfl (by exact Rds.cell (rds_box 0 rfl) rfl)) ?_; refine ok_p rfl rfl rfl (by exact ps_move rfl rfl) ?_; refine ok_p rfl rfl rfl (by exact ps_index rfl rfl rfl (by omega) (by exact isw_row 2 rfl (by omega))) ?_; refine ok_p rfl rfl rfl (by exact ps_load rfl rfl (by exact Rds.cell (rds_row 2 rfl) (by exact fl_at0 _ _ (by omega) (by decide)))) ?_; refine ok_p rfl rfl rfl (by exact ps_sub rfl rfl rfl (by omega)) ?_; refine ok_p rfl rfl rfl (by exact ps_index rfl rfl rfl (by omega) (by exact isw_row 2 rfl (by omega))) ?_; refine ok_m_ rfl rfl (by exact ms_setw (α := Int) 2 ((p + (k : Int)) % (W.length : Int)).toNat (nth T ((p + (k : Int)) % (W.length : Int)).toNat - 1) rfl rfl rfl rfl rfl rfl rfl rfl rfl (by omega)) ?_; rintro y_ hy_; refine ok_nil ?_; refine ok_env [(0, _), (5, _)] ⟨rfl, rfl, trivial⟩ ?_)
    | (refine ok_region (i := 8) ?_; refine ok_p rfl rfl rfl (by exact ps_move rfl rfl) ?_; refine ok_p rfl rfl rfl (by exact ps_nil rfl rfl (by exact isw_ga _)) ?_; refine ok_p rfl rfl rfl (by exact ps_field rfl rfl (by exact isw_ga _)) ?_; refine ok_p rfl rfl rfl (by exact ps_load rfl rfl (by exact Rds.cell (rds_box 0 rfl) rfl)) ?_; refine ok_p rfl rfl rfl (by exact ps_move rfl rfl) ?_; refine ok_p rfl rfl rfl (by exact ps_index rfl rfl rfl (by omega) (by exact isw_row 1 rfl (by omega))) ?_; refine ok_p rfl rfl rfl (by exact ps_load rfl rfl (by exact Rds.cell (rds_row 1 rfl) (by exact fl_at0 _ _ (by omega) (by decide)))) ?_; refine ok_p rfl rfl rfl (by exact ps_sub rfl rfl rfl (by omega)) ?_; refine ok_p rfl rfl rfl (by exact ps_index rfl rfl rfl (by omega) (by exact isw_row 1 rfl (by omega))) ?_; refine ok_m_ rfl rfl (by exact ms_setw (α := Int) 1 ((p + (k : Int)) % (W.length : Int)).toNat (nth L ((p + (k : Int)) % (W.length : Int)).toNat - 1) rfl rfl rfl rfl rfl rfl rfl rfl rfl (by omega)) ?_; rintro y_ hy_; refine ok_nil ?_; refine ok_env [(0, _), (5, _)] ⟨rfl, rfl, trivial⟩ ?_)
    | (refine ok_region (i := 9) ?_; refine ok_p rfl rfl rfl (by exact ps_move rfl rfl) ?_; refine ok_p rfl rfl rfl (by exact ps_move rfl rfl) ?_; refine ok_p rfl rfl rfl (by exact ps_nil rfl rfl (by exact isw_ga _)) ?_; refine ok_p rfl rfl rfl (by exact ps_field rfl rfl (by exact isw_ga _)) ?_; refine ok_m_ rfl rfl (by exact ms_store 0 rfl rfl rfl rfl rfl rfl rfl rfl) ?_; rintro y_ hy_; refine ok_nil ?_; refine ok_env [(5, _)] ⟨rfl, trivial⟩ ?_)
    | (refine ok_region (i := 10) ?_; refine ok_p rfl rfl rfl (by exact ps_move rfl rfl) ?_; refine ok_p rfl rfl rfl (by exact ps_assign rfl rfl) ?_; refine ok_nil ?_; refine ok_env [(2, _)] ⟨rfl, trivial⟩ ?_)
    | (refine ok_region (i := 11) ?_; refine ok_p rfl rfl rfl (by exact ps_add rfl rfl rfl (by omega)) ?_; refine ok_p rfl rfl rfl (by exact ps_move rfl rfl) ?_; refine ok_nil ?_; refine ok_env [(0, _), (3, _), (11, _), (12, _)] ⟨rfl, rfl, rfl, rfl, trivial⟩ ?_)
    | (refine ok_region (i := 12) ?_; refine ok_p rfl rfl rfl (by exact ps_assign rfl rfl) ?_; refine ok_nil ?_; refine ok_env [(2, _)] ⟨rfl, trivial⟩ ?_))
  · have e : takeT L T p W.length W.length 0 = (p + (k : Int)) % (W.length : Int) := by
      rw [HR.out, show W.length - k = (W.length - (k + 1)) + 1 by omega, takeT]
      rw [show canT L T ((p + (k : Int)) % (W.length : Int)).toNat = true from hc]; rfl
    rw [e]
    refine ok_endL (vs := [_]) rfl ⟨rfl, trivial⟩ (fun w' hw => ⟨mkY none 0 w, rfl, trivial, ?_⟩)
    simp only [servP, servL, if_pos q1]
    exact hw
  · have e : takeT L T p W.length (W.length - k) k = takeT L T p W.length (W.length - (k + 1)) (k + 1) := by
      rw [show W.length - k = (W.length - (k + 1)) + 1 by omega, takeT]
      rw [show canT L T ((p + (k : Int)) % (W.length : Int)).toNat = false from hc]; rfl
    exact fun a w' he hw => ⟨⟨k + 1, by omega, HR.out.trans e⟩, by simp only; omega, he.sub ⟨rfl, rfl, rfl, rfl, trivial⟩, hw⟩
  · obtain rfl : k = W.length := by omega
    have e : takeT L T p W.length W.length 0 = -1 := by rw [HR.out, Nat.sub_self]; rfl
    rw [e]
    refine ok_endL (vs := [_]) rfl ⟨rfl, trivial⟩ (fun w' hw => ⟨mkY none 0 w, rfl, trivial, ?_⟩)
    exact hw
theorem own_nil3' (n : Nat) (w : World) : NewOk n (Turns_obj ⟨[], [], [], 0⟩ (mkY none 0 w)) [] w := own_nil3 n w
theorem i_TurnsNext0 (A0 A1 A2 : Option Addr) (c0 c1 c2 : Nat) (W L T : List Int) (p : Int) (w : World) (h0 : Rd w A0 (fl W)) (h1 : Rd w A1 (fl L)) (h2 : Rd w A2 (fl T)) (m0 : W.length ≤ 1048576) (m1 : L.length ≤ 1048576) (m2 : T.length ≤ 1048576) :
    Calls Try.prog 40 #[.agg #[.slice A0 W.length c0, .slice A1 L.length c1, .slice A2 T.length c2, .int .i64 p]] w fun e w' => ∃ y : Ys, e = .returned (.tuple #[Turns_val (fTurnsNext ⟨W, L, T, p⟩).1 y, .int .i64 (fTurnsNext ⟨W, L, T, p⟩).2]) ∧ True ∧ Below w.heap.size w w' ∧ NewOk w.heap.size (Turns_obj (fTurnsNext ⟨W, L, T, p⟩).1 y) [] w' := by
  refine ok_enter 36 Try.func40 rfl rfl rfl ?_
  repeat' (first
    | refine ok_seq ?_
    | refine ok_then ?_
    | refine ok_then_ret ?_
    | (refine ok_cond rfl (fun hc => ?_) (fun hc => ?_) <;> (have hd := hc; (try simp only [decide_eq_true_eq, decide_eq_false_iff_not, Bool.or_eq_true, Bool.or_eq_false_iff, Bool.and_eq_true, Bool.and_eq_false_iff, Bool.not_eq_true', Bool.not_eq_false', bne_iff_ne, beq_iff_eq, bne_eq_false_iff_eq, beq_eq_false_iff_ne, ne_eq, Bool.not_true, Bool.not_false, Bool.false_eq_true, Bool.true_eq_false, inB_true, inB_false] at hd)))
    | refine ok_ret ?_
    | refine ok_skip ?_
    | (refine ok_region (i := 0) ?_; refine ok_m rfl rfl rfl (by exact ms_box rfl rfl rfl) ?_; rintro y1 hy1; refine ok_m rfl rfl rfl (by exact ms_alloc rfl) ?_; rintro y2 hy2; refine ok_p rfl rfl rfl (by exact ps_assign rfl rfl) ?_; refine ok_nil ?_; refine ok_env [(1, _), (2, _)] ⟨rfl, rfl, trivial⟩ ?_)
    | (refine ok_region (i := 1) ?_; refine ok_p rfl rfl rfl (by exact ps_loads rfl rfl (by exact rds_box 1 rfl) rfl rfl (by decide)) ?_; refine ok_m rfl rfl rfl (by exact ms_s1 rfl rfl (fun _ _ w hw => i_TurnsOk A0 A1 A2 _ _ _ W L T p w (rds_rf h0 (by exact List.mem_cons_self) _ _ w hw) (rds_rf h1 (by exact List.mem_cons_self) _ _ w hw) (rds_rf h2 (by exact List.mem_cons_self) _ _ w hw) m0 m1 m2)) ?_; rintro y7 hy7; refine ok_p rfl rfl rfl (by exact ps_not rfl rfl) ?_; refine ok_nil ?_; refine ok_env [(1, _), (2, _), (8, _)] ⟨rfl, rfl, rfl, trivial⟩ ?_)
    | (refine ok_region (i := 2) ?_; refine ok_p rfl rfl rfl (by exact ps_bld rfl parts_nil rfl) ?_; refine ok_m_ rfl rfl (by exact ms_store 0 rfl rfl rfl rfl rfl rfl rfl rfl) ?_; rintro y_ hy_; refine ok_p rfl rfl rfl (by exact ps_assign rfl rfl) ?_; refine ok_nil ?_; refine ok_env [(2, _), (3, _)] ⟨rfl, rfl, trivial⟩ ?_))
  · have e : fTurnsNext ⟨W, L, T, p⟩ = (⟨[], [], [], 0⟩, -1) := by unfold fTurnsNext; rw [show fTurnsOk ⟨W, L, T, p⟩ = false from hd]; rfl
    rw [e]
    refine ok_endL (vs := [_, _]) rfl ⟨⟨_, 0, _, _, _, rfl, rfl, inferInstance, rfl, rfl⟩, rfl, trivial⟩ (fun w' hw => ?_)
    exact ⟨mkY none 0 w', rfl, trivial, hw.below, own_nil3' _ _⟩
  have K := tok_of hd
  have k1 := K.lL
  have k2 := K.lT
  have k3 := K.n
  have k4 := K.p
  repeat' (first
    | refine ok_seq ?_
    | refine ok_then ?_
    | refine ok_then_ret ?_
    | (refine ok_cond rfl (fun hc => ?_) (fun hc => ?_) <;> (have hd := hc; (try simp only [decide_eq_true_eq, decide_eq_false_iff_not, Bool.or_eq_true, Bool.or_eq_false_iff, Bool.and_eq_true, Bool.and_eq_false_iff, Bool.not_eq_true', Bool.not_eq_false', bne_iff_ne, beq_iff_eq, bne_eq_false_iff_eq, beq_eq_false_iff_ne, ne_eq, Bool.not_true, Bool.not_false, Bool.false_eq_true, Bool.true_eq_false, inB_true, inB_false] at hd)))
    | refine ok_ret ?_
    | refine ok_skip ?_
    | (refine ok_region (i := 3) ?_; refine ok_p rfl rfl rfl (by exact ps_loads rfl rfl (by exact rds_box 1 rfl) rfl rfl (by decide)) ?_; refine ok_m rfl rfl rfl (by exact ms_c1 rfl rfl (fun _ _ w hw => i_copyTurns A0 A1 A2 _ _ _ W L T p w (rds_rf h0 (by exact List.mem_cons_self) _ _ w hw) (rds_rf h1 (by exact List.mem_cons_self) _ _ w hw) (rds_rf h2 (by exact List.mem_cons_self) _ _ w hw) (by omega) (by omega) (by omega))) ?_; rintro y11 hy11; refine ok_m rfl rfl rfl (by exact ms_alloc rfl) ?_; rintro y4 hy4; refine ok_m_ rfl rfl (by exact ms_store 0 rfl rfl rfl rfl rfl rfl rfl rfl) ?_; rintro y_ hy_; refine ok_nil ?_; refine ok_env [(1, _), (2, _), (4, _)] ⟨rfl, rfl, rfl, trivial⟩ ?_)
    | (refine ok_region (i := 4) ?_; refine ok_p rfl rfl rfl (by exact ps_field rfl rfl (by exact isw_ga _)) ?_; refine ok_p rfl rfl rfl (by exact ps_load rfl rfl (by exact Rds.cell (rds_box 5 rfl) rfl)) ?_; refine ok_m rfl rfl rfl (by exact ms_c1 rfl rfl (fun _ _ w hw => max_c A2 _ T w (rds_rf h2 (by exact List.mem_cons_self) _ _ w hw) (by omega) m2)) ?_; rintro y14 hy14; refine ok_p rfl rfl rfl (by exact ps_int rfl rfl rfl rfl) ?_; refine ok_nil ?_; refine ok_env [(2, _), (4, _), (15, _)] ⟨rfl, rfl, rfl, trivial⟩ ?_)
    | (refine ok_region (i := 5) ?_; refine ok_p rfl rfl rfl (by exact ps_loads rfl rfl (by exact rds_box 0 rfl) rfl rfl (by decide)) ?_; refine ok_m_ rfl rfl (by exact ms_store 4 rfl rfl rfl rfl rfl rfl rfl rfl) ?_; rintro y_ hy_; refine ok_p rfl rfl rfl (by exact ps_assign rfl rfl) ?_; refine ok_nil ?_; refine ok_env [(2, _), (3, _)] ⟨rfl, rfl, trivial⟩ ?_))
  · have ha : anyT T = false := by
      cases hh : anyT T with
      | false => rfl
      | true => obtain ⟨i, hi, h3⟩ := anyT_true hh; have := hy14.1 i hi; omega
    have e : fTurnsNext ⟨W, L, T, p⟩ = (⟨W, L, T, p⟩, -1) := by unfold fTurnsNext; rw [show fTurnsOk ⟨W, L, T, p⟩ = true from ‹_›, show anyT (DTurns.mk W L T p).T = false from ha]; rfl
    rw [e]
    refine ok_endL (vs := [_, _]) rfl ⟨⟨_, 4, _, _, _, rfl, rfl, inferInstance, rfl, rfl⟩, rfl, trivial⟩ (fun w' hw => ?_)
    refine ⟨y11, rfl, trivial, hw.below, ?_⟩
    have := NewOk.of (hw.sel [1, 2, 3] (by decide) rfl (G' := []) (fun _ h => by cases h))
    exact this
  have ha : anyT T = true := by
    cases hh : anyT T with
    | true => rfl
    | false =>
      obtain ⟨j, hj, h3⟩ := hy14.2
      have h4 := anyT_false hh (nth T j) (by rw [nth_eq hj]; exact List.getElem_mem hj)
      have h5 := K.t j (by omega)
      omega
  have hbL : ∀ k, k < W.length → nth L k ≤ 9 ∧ nth T k ≤ 99 := fun k hk => ⟨by have := K.l k hk; have := K.w k hk; omega, (K.t k hk).2⟩
  have hbW : ∀ k, k < W.length → nth W k ≤ 9 ∧ nth T k ≤ 99 := fun k hk => ⟨(K.w k hk).2, (K.t k hk).2⟩
  have HL := Lib.hid hbL
  have HW := Lib.hid hbW
  clear hbL hbW
  have KK := Lib.hid K
  clear K
  repeat' (first
    | refine ok_seq ?_
    | refine ok_then ?_
    | (refine ok_cond rfl (fun hc => ?_) (fun hc => ?_) <;> (have hd := hc; (try simp only [decide_eq_true_eq, decide_eq_false_iff_not, Bool.or_eq_true, Bool.or_eq_false_iff, Bool.and_eq_true, Bool.and_eq_false_iff, Bool.not_eq_true', Bool.not_eq_false', bne_iff_ne, beq_iff_eq, bne_eq_false_iff_eq, beq_eq_false_iff_ne, ne_eq, Bool.not_true, Bool.not_false, Bool.false_eq_true, Bool.true_eq_false, inB_true, inB_false] at hd)))
    | refine ok_ret ?_
    | refine ok_skip ?_
    | (refine ok_region (i := 6) ?_; refine ok_m rfl rfl rfl (by exact ms_w1 (fun _ _ _ h => (((h.front 3 rfl).front 3 rfl).front 2 rfl)) rfl rfl (fun _ _ w hw => choose_c _ _ _ _ _ _ _ _ _ W L T p rfl rfl k1 k2 k3 k4 HL.out hw)) ?_; rintro y17 hy17; refine ok_p rfl rfl rfl (by exact ps_assign rfl rfl) ?_; refine ok_nil ?_; refine ok_env [(2, _), (4, _), (5, _)] ⟨rfl, rfl, rfl, trivial⟩ ?_)
    | (refine ok_region (i := 7) ?_; refine ok_p rfl rfl rfl (by exact ps_move rfl rfl) ?_; refine ok_p rfl rfl rfl (by exact ps_int rfl rfl rfl rfl) ?_; refine ok_nil ?_; refine ok_env [(2, _), (4, _), (5, _), (19, _)] ⟨rfl, rfl, rfl, rfl, trivial⟩ ?_)
    | (refine ok_region (i := 11) ?_; refine ok_p rfl rfl rfl (by exact ps_loads rfl rfl (by exact rds_box 0 rfl) rfl rfl (by decide)) ?_; refine ok_p rfl rfl rfl (by exact ps_move rfl rfl) ?_; refine ok_m_ rfl rfl (by exact ms_store 4 rfl rfl rfl rfl rfl rfl rfl rfl) ?_; rintro y_ hy_; refine ok_p rfl rfl rfl (by exact ps_assign rfl rfl) ?_; refine ok_nil ?_; refine ok_env [(2, _), (3, _)] ⟨rfl, rfl, trivial⟩ ?_))
  · have hq : ¬ 0 ≤ takeT L T p W.length W.length 0 := by omega
    have r1 : 0 ≤ (p + 1) % (W.length : Int) ∧ (p + 1) % (W.length : Int) < W.length := ⟨Int.emod_nonneg _ (by omega), Int.emod_lt_of_pos _ (by omega)⟩
    simp only [servP, servL, if_neg hq]
    repeat' (first
      | refine ok_seq ?_
      | refine ok_then ?_
      | refine ok_ret ?_
      | (refine ok_region (i := 8) ?_; refine ok_p rfl rfl rfl (by exact ps_field rfl rfl (by exact isw_ga _)) ?_; refine ok_p rfl rfl rfl (by exact ps_load rfl rfl (by exact Rds.cell (rds_box 0 rfl) rfl)) ?_; refine ok_p rfl rfl rfl (by exact ps_field rfl rfl (by exact isw_ga _)) ?_; refine ok_p rfl rfl rfl (by exact ps_load rfl rfl (by exact Rds.cell (rds_box 0 rfl) rfl)) ?_; refine ok_m rfl rfl rfl (by exact ms_copy (α := Int) (M := W) 1 rfl rfl rfl rfl (rds_row 3 rfl) rfl k1.symm (by omega) k1.symm) ?_; rintro y24 hy24; refine ok_nil ?_; refine ok_env [(2, _), (4, _)] ⟨rfl, rfl, trivial⟩ ?_)
      | (refine ok_region (i := 9) ?_; refine ok_p rfl rfl rfl (by exact ps_field rfl rfl (by exact isw_ga _)) ?_; refine ok_p rfl rfl rfl (by exact ps_load rfl rfl (by exact Rds.cell (rds_box 0 rfl) rfl)) ?_; refine ok_p rfl rfl rfl (by exact ps_add rfl rfl rfl (by omega)) ?_; refine ok_p rfl rfl rfl (by exact ps_field rfl rfl (by exact isw_ga _)) ?_; refine ok_p rfl rfl rfl (by exact ps_load rfl rfl (by exact Rds.cell (rds_box 0 rfl) rfl)) ?_; refine ok_p rfl rfl rfl (by exact ps_len rfl rfl) ?_; refine ok_p rfl rfl rfl (by exact ps_rem rfl rfl rfl (by omega) (by omega)) ?_; refine ok_p rfl rfl rfl (by exact ps_field rfl rfl (by exact isw_ga _)) ?_; refine ok_m_ rfl rfl (by exact ms_store 0 rfl rfl rfl rfl rfl rfl rfl rfl) ?_; rintro y_ hy_; refine ok_nil ?_; refine ok_env [(2, _), (4, _)] ⟨rfl, rfl, trivial⟩ ?_)
      | (refine ok_region (i := 10) ?_; refine ok_m rfl rfl rfl (by exact ms_w1 (fun _ _ _ h => h) rfl rfl (fun _ _ w hw => choose_c _ _ _ _ _ _ _ _ _ W W T ((p + 1) % (W.length : Int)) k1 rfl rfl k2 k3 r1 HW.out hw)) ?_; rintro y33 hy33; refine ok_p rfl rfl rfl (by exact ps_assign rfl rfl) ?_; refine ok_nil ?_; refine ok_env [(2, _), (4, _), (5, _)] ⟨rfl, rfl, rfl, trivial⟩ ?_)
      | (refine ok_region (i := 11) ?_; refine ok_p rfl rfl rfl (by exact ps_loads rfl rfl (by exact rds_box 0 rfl) rfl rfl (by decide)) ?_; refine ok_p rfl rfl rfl (by exact ps_move rfl rfl) ?_; refine ok_m_ rfl rfl (by exact ms_store 4 rfl rfl rfl rfl rfl rfl rfl rfl) ?_; rintro y_ hy_; refine ok_p rfl rfl rfl (by exact ps_assign rfl rfl) ?_; refine ok_nil ?_; refine ok_env [(2, _), (3, _)] ⟨rfl, rfl, trivial⟩ ?_))
    have h2 := (second KK.out ha).1
    have e : fTurnsNext ⟨W, L, T, p⟩ = (serveT W W T (takeT W T ((p + 1) % (W.length : Int)) W.length W.length 0), takeT W T ((p + 1) % (W.length : Int)) W.length W.length 0) := by
      unfold fTurnsNext
      rw [show fTurnsOk ⟨W, L, T, p⟩ = true from ‹_›, show anyT (DTurns.mk W L T p).T = true from ha]
      simp only [cond_true, k2]
      rw [if_neg hq]
    rw [k2] at h2
    rw [e]
    refine ok_endL (vs := [_, _]) rfl ⟨⟨_, 4, _, _, _, rfl, rfl, inferInstance, rfl, rfl⟩, rfl, trivial⟩ (fun w' hw => ?_)
    refine ⟨y11, ?_, trivial, hw.below, ?_⟩
    · simp only [serveT, servP, if_pos h2, Turns_val, List.length_set, k1]; rfl
    · have := NewOk.of (hw.sel [3, 1, 2] (by decide) rfl (G' := []) (fun _ h => by cases h))
      simp only [serveT, servL, if_pos h2, Turns_obj, List.length_set, k1] at this ⊢
      exact this
  · have hq : 0 ≤ takeT L T p W.length W.length 0 := by omega
    have e : fTurnsNext ⟨W, L, T, p⟩ = (serveT W L T (takeT L T p W.length W.length 0), takeT L T p W.length W.length 0) := by
      unfold fTurnsNext
      rw [show fTurnsOk ⟨W, L, T, p⟩ = true from ‹_›, show anyT (DTurns.mk W L T p).T = true from ha]
      simp only [cond_true, k2]
      rw [if_pos hq]
    rw [e]
    refine ok_endL (vs := [_, _]) rfl ⟨⟨_, 4, _, _, _, rfl, rfl, inferInstance, rfl, rfl⟩, rfl, trivial⟩ (fun w' hw => ?_)
    refine ⟨y11, ?_, trivial, hw.below, ?_⟩
    · simp only [serveT, servP, if_pos hq, Turns_val, List.length_set]; rfl
    · have := NewOk.of (hw.sel [3, 1, 2] (by decide) rfl (G' := []) (fun _ h => by cases h))
      simp only [serveT, servL, if_pos hq, Turns_obj, List.length_set] at this ⊢
      exact this
theorem s_take_c (A0 A1 A2 : Option Addr) (c0 c1 c2 : Nat) (W L T : List Int) (p : Int) (w : World) (h1 : Rd w A1 (fl L)) (h2 : Rd w A2 (fl T)) (hT : T.length ≤ 5) (h0 : 0 < T.length) (hLT : L.length = T.length) (hp : 0 ≤ p ∧ p < T.length) :
    Calls Try.prog 127 #[.agg #[.slice A0 W.length c0, .slice A1 L.length c1, .slice A2 T.length c2, .int .i64 p]] w fun e w' => e = .returned (.int .i64 (takeT L T p T.length T.length 0)) ∧ Below w.heap.size w w' := by
  refine ok_enter 35 Try.func127 rfl rfl rfl ?_
  repeat' (first
    | refine ok_seq ?_
    | refine ok_then ?_
    | refine ok_block ?_
    | (refine ok_region (i := 0) ?_; refine ok_m rfl rfl rfl (by exact ms_box rfl rfl rfl) ?_; rintro y1 hy1; refine ok_p rfl rfl rfl (by exact ps_assign rfl rfl) ?_; refine ok_nil ?_; refine ok_env [(1, _)] ⟨rfl, trivial⟩ ?_)
    | (refine ok_region (i := 1) ?_; refine ok_p rfl rfl rfl (by exact ps_field rfl rfl (by exact isw_ga _)) ?_; refine ok_p rfl rfl rfl (by exact ps_load rfl rfl (by exact Rds.cell (rds_box 0 rfl) rfl)) ?_; refine ok_p rfl rfl rfl (by exact ps_len rfl rfl) ?_; refine ok_p rfl rfl rfl (by exact ps_assign rfl rfl) ?_; refine ok_nil ?_; refine ok_env [(1, _), (3, _)] ⟨rfl, rfl, trivial⟩ ?_)
    | (refine ok_region (i := 2) ?_; refine ok_p rfl rfl rfl (by exact ps_assign rfl rfl) ?_; refine ok_nil ?_; refine ok_env [(1, _), (3, _), (4, _)] ⟨rfl, rfl, rfl, trivial⟩ ?_))
  refine ok_loop (ι := { k : Nat // k ≤ T.length ∧ takeT L T p T.length T.length 0 = takeT L T p T.length (T.length - k) k }) (fun k => T.length - k.1) (fun k => ([(1, pt (ga (y1 0).c) 0), (3, .int .i64 T.length), (4, .int .i64 k.1)], _, _)) ⟨0, by omega, rfl⟩ (fun a w he hw => ⟨⟨0, by omega, rfl⟩, he.sub ⟨rfl, rfl, rfl, trivial⟩, hw⟩) ?_
  rintro ⟨k, hk, hr⟩
  simp only at hk hr ⊢
  have HR := Lib.hid hr; clear hr
  have q1 : 0 ≤ (p + (k : Int)) % (T.length : Int) := Int.emod_nonneg _ (by omega)
  have q2 : (p + (k : Int)) % (T.length : Int) < (T.length : Int) := Int.emod_lt_of_pos _ (by omega)
  repeat' (first
    | refine ok_seq ?_
    | refine ok_then ?_
    | refine ok_then_ret ?_
    | refine ok_block ?_
    | refine ok_in_normal ?_
    | refine ok_in_ret ?_
    | (refine ok_cond rfl (fun hc => ?_) (fun hc => ?_) <;> (have hd := hc; (try simp only [decide_eq_true_eq, decide_eq_false_iff_not, Bool.or_eq_true, Bool.or_eq_false_iff, Bool.and_eq_true, Bool.and_eq_false_iff, Bool.not_eq_true', Bool.not_eq_false', bne_iff_ne, beq_iff_eq, bne_eq_false_iff_eq, beq_eq_false_iff_ne, ne_eq, Bool.not_true, Bool.not_false, Bool.false_eq_true, Bool.true_eq_false, inB_true, inB_false] at hd)))
    | refine ok_ret ?_
    | refine ok_exit ?_
    | refine ok_skip ?_
    | (refine ok_region (i := 3) ?_; refine ok_p rfl rfl rfl (by exact ps_move rfl rfl) ?_; refine ok_p rfl rfl rfl (by exact ps_move rfl rfl) ?_; refine ok_p rfl rfl rfl (by exact ps_int rfl rfl rfl rfl) ?_; refine ok_nil ?_; refine ok_env [(1, _), (3, _), (4, _), (11, _)] ⟨rfl, rfl, rfl, rfl, trivial⟩ ?_)
    | (refine ok_region (i := 4) ?_; refine ok_p rfl rfl rfl (by exact ps_move rfl rfl) ?_; refine ok_p rfl rfl rfl (by exact ps_add rfl rfl rfl (by omega)) ?_; refine ok_p rfl rfl rfl (by exact ps_assign rfl rfl) ?_; refine ok_nil ?_; refine ok_env [(1, _), (3, _), (4, _)] ⟨rfl, rfl, rfl, trivial⟩ ?_)
    | (refine ok_region (i := 5) ?_; refine ok_p rfl rfl rfl (by exact ps_field rfl rfl (by exact isw_ga _)) ?_; refine ok_p rfl rfl rfl (by exact ps_load rfl rfl (by exact Rds.cell (rds_box 0 rfl) rfl)) ?_; refine ok_p rfl rfl rfl (by exact ps_move rfl rfl) ?_; refine ok_p rfl rfl rfl (by exact ps_add rfl rfl rfl (by omega)) ?_; refine ok_p rfl rfl rfl (by exact ps_move rfl rfl) ?_; refine ok_p rfl rfl rfl (by exact ps_rem rfl rfl rfl (by omega) (by omega)) ?_; refine ok_p rfl rfl rfl (by exact ps_assign rfl rfl) ?_; refine ok_nil ?_; refine ok_env [(1, _), (3, _), (4, _), (5, _)] ⟨rfl, rfl, rfl, rfl, trivial⟩ ?_)
    | (refine ok_region (i := 6) ?_; refine ok_p rfl rfl rfl (by exact ps_field rfl rfl (by exact isw_ga _)) ?_; refine ok_p rfl rfl rfl (by exact ps_load rfl rfl (by exact Rds.cell (rds_box 0 rfl) rfl)) ?_; refine ok_p rfl rfl rfl (by exact ps_move rfl rfl) ?_; refine ok_p rfl rfl rfl (by exact ps_index rfl rfl rfl (by omega) (by exact isw_of (isS_fl (by assumption) (by omega)))) ?_; refine ok_p rfl rfl rfl (by exact ps_load rfl rfl (by exact Rds.cell (rds_rf (by assumption) (by exact List.mem_cons_self)) (by exact fl_at0 _ _ (by omega) (by decide)))) ?_; refine ok_p rfl rfl rfl (by exact ps_int rfl rfl rfl rfl) ?_; refine ok_p rfl rfl rfl (by exact ps_move rfl rfl) ?_; refine ok_pg rfl rfl rfl rfl rfl (gT _) (fun hp => by (have hpd := hp; (try simp only [decide_eq_true_eq, decide_eq_false_iff_not, Bool.or_eq_true, Bool.or_eq_false_iff, Bool.and_eq_true, Bool.and_eq_false_iff, Bool.not_eq_true', Bool.not_eq_false', bne_iff_ne, beq_iff_eq, bne_eq_false_iff_eq, beq_eq_false_iff_ne, ne_eq, Bool.not_true, Bool.not_false, Bool.false_eq_true, Bool.true_eq_false, inB_true, inB_false] at hpd); exact ps_field rfl (by exact rfl) (by exact isw_ga _))) ?_; refine ok_pg rfl rfl rfl rfl rfl (gT _) (fun hp => by (have hpd := hp; (try simp only [decide_eq_true_eq, decide_eq_false_iff_not, Bool.or_eq_true, Bool.or_eq_false_iff, Bool.and_eq_true, Bool.and_eq_false_iff, Bool.not_eq_true', Bool.not_eq_false', bne_iff_ne, beq_iff_eq, bne_eq_false_iff_eq, beq_eq_false_iff_ne, ne_eq, Bool.not_true, Bool.not_false, Bool.false_eq_true, Bool.true_eq_false, inB_true, inB_false] at hpd); exact ps_load rfl (by (refine og rfl ?_; assumption)) (by exact Rds.cell (rds_box 0 rfl) rfl))) ?_; refine ok_pg rfl rfl rfl rfl rfl (gT _) (fun hp => by (have hpd := hp; (try simp only [decide_eq_true_eq, decide_eq_false_iff_not, Bool.or_eq_true, Bool.or_eq_false_iff, Bool.and_eq_true, Bool.and_eq_false_iff, Bool.not_eq_true', Bool.not_eq_false', bne_iff_ne, beq_iff_eq, bne_eq_false_iff_eq, beq_eq_false_iff_ne, ne_eq, Bool.not_true, Bool.not_false, Bool.false_eq_true, Bool.true_eq_false, inB_true, inB_false] at hpd); exact ps_move rfl (by exact rfl))) ?_; refine ok_pg rfl rfl rfl rfl rfl (gT _) (fun hp => by (have hpd := hp; (try simp only [decide_eq_true_eq, decide_eq_false_iff_not, Bool.or_eq_true, Bool.or_eq_false_iff, Bool.and_eq_true, Bool.and_eq_false_iff, Bool.not_eq_true', Bool.not_eq_false', bne_iff_ne, beq_iff_eq, bne_eq_false_iff_eq, beq_eq_false_iff_ne, ne_eq, Bool.not_true, Bool.not_false, Bool.false_eq_true, Bool.true_eq_false, inB_true, inB_false] at hpd); exact ps_index rfl (by (refine og rfl ?_; assumption)) (by (refine og rfl ?_; assumption)) (by omega) (by exact isw_of (isS_fl (by assumption) (by omega))))) ?_; refine ok_pg rfl rfl rfl rfl rfl (gT _) (fun hp => by (have hpd := hp; (try simp only [decide_eq_true_eq, decide_eq_false_iff_not, Bool.or_eq_true, Bool.or_eq_false_iff, Bool.and_eq_true, Bool.and_eq_false_iff, Bool.not_eq_true', Bool.not_eq_false', bne_iff_ne, beq_iff_eq, bne_eq_false_iff_eq, beq_eq_false_iff_ne, ne_eq, Bool.not_true, Bool.not_false, Bool.false_eq_true, Bool.true_eq_false, inB_true, inB_false] at hpd); exact ps_load rfl (by (refine og rfl ?_; assumption)) (by exact Rds.cell (rds_rf (by assumption) (by exact List.mem_cons_self)) (by exact fl_at0 _ _ (by omega) (by decide))))) ?_; refine ok_pg rfl rfl rfl rfl rfl (gT _) (fun hp => by (have hpd := hp; (try simp only [decide_eq_true_eq, decide_eq_false_iff_not, Bool.or_eq_true, Bool.or_eq_false_iff, Bool.and_eq_true, Bool.and_eq_false_iff, Bool.not_eq_true', Bool.not_eq_false', bne_iff_ne, beq_iff_eq, bne_eq_false_iff_eq, beq_eq_false_iff_ne, ne_eq, Bool.not_true, Bool.not_false, Bool.false_eq_true, Bool.true_eq_false, inB_true, inB_false] at hpd); exact ps_int rfl (by (refine og rfl ?_; assumption)) (by exact rfl) rfl)) ?_; refine ok_p rfl rfl rfl (by exact ps_and rfl rfl rfl) ?_; refine ok_nil ?_; refine ok_env [(1, _), (3, _), (4, _), (5, _), (33, _)] ⟨rfl, rfl, rfl, rfl, rfl, trivial⟩ ?_)
    | (refine ok_region (i := 7) ?_; refine ok_p rfl rfl rfl (by exact ps_move rfl rfl) ?_; refine ok_p rfl rfl rfl (by exact ps_assign rfl rfl) ?_; refine ok_nil ?_; refine ok_env [(2, _)] ⟨rfl, trivial⟩ ?_)
    | (refine ok_region (i := 8) ?_; refine ok_p rfl rfl rfl (by exact ps_assign rfl rfl) ?_; refine ok_nil ?_; refine ok_env [(2, _)] ⟨rfl, trivial⟩ ?_))
  · have e : takeT L T p T.length T.length 0 = (p + (k : Int)) % (T.length : Int) := by
      rw [HR.out, show T.length - k = (T.length - (k + 1)) + 1 by omega, takeT]
      rw [show canT L T ((p + (k : Int)) % (T.length : Int)).toNat = true from hc]; rfl
    rw [e]
    exact ok_endL (vs := [_]) rfl ⟨rfl, trivial⟩ (fun w' hw => ⟨rfl, hw.below⟩)
  · have e : takeT L T p T.length (T.length - k) k = takeT L T p T.length (T.length - (k + 1)) (k + 1) := by
      rw [show T.length - k = (T.length - (k + 1)) + 1 by omega, takeT]
      rw [show canT L T ((p + (k : Int)) % (T.length : Int)).toNat = false from hc]; rfl
    exact fun a w' he hw => ⟨⟨k + 1, by omega, HR.out.trans e⟩, by simp only; omega, he.sub ⟨rfl, rfl, rfl, trivial⟩, hw⟩
  · obtain rfl : k = T.length := by omega
    have e : takeT L T p T.length T.length 0 = -1 := by rw [HR.out, Nat.sub_self]; rfl
    rw [e]
    exact ok_endL (vs := [_]) rfl ⟨rfl, trivial⟩ (fun w' hw => ⟨rfl, hw.below⟩)
theorem any_take (T : List Int) (k : Nat) (h : k < T.length) : (T.take (k + 1)).any (fun x => decide (0 < x)) = ((T.take k).any (fun x => decide (0 < x)) || decide (0 < nth T k)) := by
  rw [List.take_add_one, List.getElem?_eq_getElem h, nth_eq h]
  simp only [List.any_append, Option.toList_some, List.any_cons, List.any_nil, Bool.or_false]
theorem s_TurnsNext0 (A0 A1 A2 : Option Addr) (c0 c1 c2 : Nat) (W L T : List Int) (p : Int) (w : World) (h0 : Rd w A0 (fl W)) (h1 : Rd w A1 (fl L)) (h2 : Rd w A2 (fl T)) (m0 : W.length ≤ 1048576) (m1 : L.length ≤ 1048576) (m2 : T.length ≤ 1048576) :
    Calls Try.prog 44 #[.agg #[.slice A0 W.length c0, .slice A1 L.length c1, .slice A2 T.length c2, .int .i64 p]] w fun e w' => ∃ y : Ys, e = .returned (.tuple #[Turns_val (fTurnsNext ⟨W, L, T, p⟩).1 y, .int .i64 (fTurnsNext ⟨W, L, T, p⟩).2]) ∧ True ∧ Below w.heap.size w w' ∧ NewOk w.heap.size (Turns_obj (fTurnsNext ⟨W, L, T, p⟩).1 y) [] w' := by
  refine ok_enter 76 Try.func44 rfl rfl rfl ?_
  repeat' (first
    | refine ok_seq ?_
    | refine ok_then ?_
    | refine ok_then_ret ?_
    | (refine ok_cond rfl (fun hc => ?_) (fun hc => ?_) <;> (have hd := hc; (try simp only [decide_eq_true_eq, decide_eq_false_iff_not, Bool.or_eq_true, Bool.or_eq_false_iff, Bool.and_eq_true, Bool.and_eq_false_iff, Bool.not_eq_true', Bool.not_eq_false', bne_iff_ne, beq_iff_eq, bne_eq_false_iff_eq, beq_eq_false_iff_ne, ne_eq, Bool.not_true, Bool.not_false, Bool.false_eq_true, Bool.true_eq_false, inB_true, inB_false] at hd)))
    | refine ok_ret ?_
    | refine ok_skip ?_
    | (refine ok_region (i := 0) ?_; refine ok_m rfl rfl rfl (by exact ms_box rfl rfl rfl) ?_; rintro y1 hy1; refine ok_m rfl rfl rfl (by exact ms_alloc rfl) ?_; rintro y2 hy2; refine ok_p rfl rfl rfl (by exact ps_assign rfl rfl) ?_; refine ok_nil ?_; refine ok_env [(1, _), (2, _)] ⟨rfl, rfl, trivial⟩ ?_)
    | (refine ok_region (i := 1) ?_; refine ok_p rfl rfl rfl (by exact ps_loads rfl rfl (by exact rds_box 1 rfl) rfl rfl (by decide)) ?_; refine ok_m rfl rfl rfl (by exact ms_s1 rfl rfl (fun _ _ w hw => s_TurnsOk A0 A1 A2 _ _ _ W L T p w (rds_rf h0 (by exact List.mem_cons_self) _ _ w hw) (rds_rf h1 (by exact List.mem_cons_self) _ _ w hw) (rds_rf h2 (by exact List.mem_cons_self) _ _ w hw) m0 m1 m2)) ?_; rintro y9 hy9; refine ok_p rfl rfl rfl (by exact ps_not rfl rfl) ?_; refine ok_nil ?_; refine ok_env [(1, _), (2, _), (10, _)] ⟨rfl, rfl, rfl, trivial⟩ ?_)
    | (refine ok_region (i := 2) ?_; refine ok_p rfl rfl rfl (by exact ps_bld rfl parts_nil rfl) ?_; refine ok_m_ rfl rfl (by exact ms_store 0 rfl rfl rfl rfl rfl rfl rfl rfl) ?_; rintro y_ hy_; refine ok_p rfl rfl rfl (by exact ps_assign rfl rfl) ?_; refine ok_nil ?_; refine ok_env [(2, _), (3, _)] ⟨rfl, rfl, trivial⟩ ?_))
  · have e : fTurnsNext ⟨W, L, T, p⟩ = (⟨[], [], [], 0⟩, -1) := by unfold fTurnsNext; rw [show fTurnsOk ⟨W, L, T, p⟩ = false from hd]; rfl
    rw [e]
    refine ok_endL (vs := [_, _]) rfl ⟨⟨_, 0, _, _, _, rfl, rfl, inferInstance, rfl, rfl⟩, rfl, trivial⟩ (fun w' hw => ?_)
    exact ⟨mkY none 0 w', rfl, trivial, hw.below, own_nil3' _ _⟩
  have K := tok_of hd
  have k1 := K.lL
  have k2 := K.lT
  have k3 := K.n
  have k4 := K.p
  have KK := Lib.hid K
  clear K
  repeat' (first
    | refine ok_seq ?_
    | refine ok_then ?_
    | refine ok_block ?_
    | (refine ok_region (i := 3) ?_; refine ok_p rfl rfl rfl (by exact ps_loads rfl rfl (by exact rds_box 1 rfl) rfl rfl (by decide)) ?_; refine ok_m rfl rfl rfl (by exact ms_c1 rfl rfl (fun _ _ w hw => s_l33Copy A0 A1 A2 _ _ _ W L T p w (rds_rf h0 (by exact List.mem_cons_self) _ _ w hw) (rds_rf h1 (by exact List.mem_cons_self) _ _ w hw) (rds_rf h2 (by exact List.mem_cons_self) _ _ w hw) (by omega) (by omega) (by omega))) ?_; rintro y13 hy13; refine ok_m rfl rfl rfl (by exact ms_alloc rfl) ?_; rintro y4 hy4; refine ok_m_ rfl rfl (by exact ms_store 0 rfl rfl rfl rfl rfl rfl rfl rfl) ?_; rintro y_ hy_; refine ok_nil ?_; refine ok_env [(2, _), (4, _)] ⟨rfl, rfl, trivial⟩ ?_)
    | (refine ok_region (i := 4) ?_; refine ok_p rfl rfl rfl (by exact ps_assign rfl rfl) ?_; refine ok_nil ?_; refine ok_env [(2, _), (4, _), (5, _)] ⟨rfl, rfl, rfl, trivial⟩ ?_)
    | (refine ok_region (i := 5) ?_; refine ok_p rfl rfl rfl (by exact ps_assign rfl rfl) ?_; refine ok_nil ?_; refine ok_env [(2, _), (4, _), (5, _), (6, _)] ⟨rfl, rfl, rfl, rfl, trivial⟩ ?_))
  refine ok_loop (ι := { k : Nat // k ≤ T.length }) (fun k => T.length - k.1) (fun k => ([(2, pt (ga (y2 0).c) 0), (4, pt (ga (y4 0).c) 0), (5, .bool ((T.take k.1).any (fun x => decide (0 < x)))), (6, .int .i64 k.1)], _, _)) ⟨0, by omega⟩ (fun a w he hw => ⟨⟨0, by omega⟩, he.sub ⟨rfl, rfl, rfl, rfl, trivial⟩, hw⟩) ?_
  rintro ⟨k, hk⟩
  simp only at hk ⊢
  repeat' (first
    | refine ok_seq ?_
    | refine ok_then ?_
    | refine ok_then_ret ?_
    | refine ok_block ?_
    | refine ok_in_normal ?_
    | (refine ok_cond rfl (fun hc => ?_) (fun hc => ?_) <;> (have hd := hc; (try simp only [decide_eq_true_eq, decide_eq_false_iff_not, Bool.or_eq_true, Bool.or_eq_false_iff, Bool.and_eq_true, Bool.and_eq_false_iff, Bool.not_eq_true', Bool.not_eq_false', bne_iff_ne, beq_iff_eq, bne_eq_false_iff_eq, beq_eq_false_iff_ne, ne_eq, Bool.not_true, Bool.not_false, Bool.false_eq_true, Bool.true_eq_false, inB_true, inB_false] at hd)))
    | refine ok_ret ?_
    | refine ok_exit ?_
    | refine ok_skip ?_
    | (refine ok_region (i := 6) ?_; refine ok_p rfl rfl rfl (by exact ps_move rfl rfl) ?_; refine ok_p rfl rfl rfl (by exact ps_field rfl rfl (by exact isw_ga _)) ?_; refine ok_p rfl rfl rfl (by exact ps_load rfl rfl (by exact Rds.cell (rds_box 0 rfl) rfl)) ?_; refine ok_p rfl rfl rfl (by exact ps_len rfl rfl) ?_; refine ok_p rfl rfl rfl (by exact ps_int rfl rfl rfl rfl) ?_; refine ok_nil ?_; refine ok_env [(2, _), (4, _), (5, _), (6, _), (18, _)] ⟨rfl, rfl, rfl, rfl, rfl, trivial⟩ ?_)
    | (refine ok_region (i := 7) ?_; refine ok_p rfl rfl rfl (by exact ps_move rfl rfl) ?_; refine ok_p rfl rfl rfl (by exact ps_add rfl rfl rfl (by omega)) ?_; refine ok_p rfl rfl rfl (by exact ps_assign rfl rfl) ?_; refine ok_nil ?_; refine ok_env [(2, _), (4, _), (5, _), (6, _)] ⟨rfl, rfl, rfl, rfl, trivial⟩ ?_)
    | (refine ok_region (i := 8) ?_; refine ok_p rfl rfl rfl (by exact ps_move rfl rfl) ?_; refine ok_p rfl rfl rfl (by exact ps_move rfl rfl) ?_; refine ok_pg rfl rfl rfl rfl rfl (gF _) (fun hp => by (have hpd := hp; (try simp only [decide_eq_true_eq, decide_eq_false_iff_not, Bool.or_eq_true, Bool.or_eq_false_iff, Bool.and_eq_true, Bool.and_eq_false_iff, Bool.not_eq_true', Bool.not_eq_false', bne_iff_ne, beq_iff_eq, bne_eq_false_iff_eq, beq_eq_false_iff_ne, ne_eq, Bool.not_true, Bool.not_false, Bool.false_eq_true, Bool.true_eq_false, inB_true, inB_false] at hpd); exact ps_field rfl (by exact rfl) (by exact isw_ga _))) ?_; refine ok_pg rfl rfl rfl rfl rfl (gF _) (fun hp => by (have hpd := hp; (try simp only [decide_eq_true_eq, decide_eq_false_iff_not, Bool.or_eq_true, Bool.or_eq_false_iff, Bool.and_eq_true, Bool.and_eq_false_iff, Bool.not_eq_true', Bool.not_eq_false', bne_iff_ne, beq_iff_eq, bne_eq_false_iff_eq, beq_eq_false_iff_ne, ne_eq, Bool.not_true, Bool.not_false, Bool.false_eq_true, Bool.true_eq_false, inB_true, inB_false] at hpd); exact ps_load rfl (by (refine og rfl ?_; assumption)) (by exact Rds.cell (rds_box 0 rfl) rfl))) ?_; refine ok_pg rfl rfl rfl rfl rfl (gF _) (fun hp => by (have hpd := hp; (try simp only [decide_eq_true_eq, decide_eq_false_iff_not, Bool.or_eq_true, Bool.or_eq_false_iff, Bool.and_eq_true, Bool.and_eq_false_iff, Bool.not_eq_true', Bool.not_eq_false', bne_iff_ne, beq_iff_eq, bne_eq_false_iff_eq, beq_eq_false_iff_ne, ne_eq, Bool.not_true, Bool.not_false, Bool.false_eq_true, Bool.true_eq_false, inB_true, inB_false] at hpd); exact ps_move rfl (by exact rfl))) ?_; refine ok_pg rfl rfl rfl rfl rfl (gF _) (fun hp => by (have hpd := hp; (try simp only [decide_eq_true_eq, decide_eq_false_iff_not, Bool.or_eq_true, Bool.or_eq_false_iff, Bool.and_eq_true, Bool.and_eq_false_iff, Bool.not_eq_true', Bool.not_eq_false', bne_iff_ne, beq_iff_eq, bne_eq_false_iff_eq, beq_eq_false_iff_ne, ne_eq, Bool.not_true, Bool.not_false, Bool.false_eq_true, Bool.true_eq_false, inB_true, inB_false] at hpd); exact ps_indexN rfl (by (refine og rfl ?_; assumption)) (by (refine og rfl ?_; assumption)) (by omega) (by exact isw_row 3 rfl (by omega)))) ?_; refine ok_pg rfl rfl rfl rfl rfl (gF _) (fun hp => by (have hpd := hp; (try simp only [decide_eq_true_eq, decide_eq_false_iff_not, Bool.or_eq_true, Bool.or_eq_false_iff, Bool.and_eq_true, Bool.and_eq_false_iff, Bool.not_eq_true', Bool.not_eq_false', bne_iff_ne, beq_iff_eq, bne_eq_false_iff_eq, beq_eq_false_iff_ne, ne_eq, Bool.not_true, Bool.not_false, Bool.false_eq_true, Bool.true_eq_false, inB_true, inB_false] at hpd); exact ps_load rfl (by (refine og rfl ?_; assumption)) (by exact Rds.cell (rds_row 3 rfl) (by exact fl_at0 _ _ (by omega) (by decide))))) ?_; refine ok_pg rfl rfl rfl rfl rfl (gF _) (fun hp => by (have hpd := hp; (try simp only [decide_eq_true_eq, decide_eq_false_iff_not, Bool.or_eq_true, Bool.or_eq_false_iff, Bool.and_eq_true, Bool.and_eq_false_iff, Bool.not_eq_true', Bool.not_eq_false', bne_iff_ne, beq_iff_eq, bne_eq_false_iff_eq, beq_eq_false_iff_ne, ne_eq, Bool.not_true, Bool.not_false, Bool.false_eq_true, Bool.true_eq_false, inB_true, inB_false] at hpd); exact ps_int rfl (by (refine og rfl ?_; assumption)) (by exact rfl) rfl)) ?_; refine ok_p rfl rfl rfl (by exact ps_or rfl rfl rfl) ?_; refine ok_p rfl rfl rfl (by exact ps_assign rfl rfl) ?_; refine ok_nil ?_; refine ok_env [(2, _), (4, _), (5, _), (6, _)] ⟨rfl, rfl, rfl, rfl, trivial⟩ ?_)
    | (refine ok_region (i := 9) ?_; refine ok_p rfl rfl rfl (by exact ps_move rfl rfl) ?_; refine ok_p rfl rfl rfl (by exact ps_not rfl rfl) ?_; refine ok_nil ?_; refine ok_env [(2, _), (4, _), (31, _)] ⟨rfl, rfl, rfl, trivial⟩ ?_)
    | (refine ok_region (i := 10) ?_; refine ok_p rfl rfl rfl (by exact ps_loads rfl rfl (by exact rds_box 0 rfl) rfl rfl (by decide)) ?_; refine ok_m_ rfl rfl (by exact ms_store 4 rfl rfl rfl rfl rfl rfl rfl rfl) ?_; rintro y_ hy_; refine ok_p rfl rfl rfl (by exact ps_assign rfl rfl) ?_; refine ok_nil ?_; refine ok_env [(2, _), (3, _)] ⟨rfl, rfl, trivial⟩ ?_))
  · refine fun a w' he hw => ⟨⟨k + 1, by omega⟩, by simp only; omega, he.sub ⟨rfl, rfl, ?_, rfl, trivial⟩, hw⟩
    simp only [any_take T k (by omega)]; rfl
  · obtain rfl : k = T.length := by omega
    have ha : anyT T = false := by
      rw [List.take_length] at hd
      exact hd
    have e : fTurnsNext ⟨W, L, T, p⟩ = (⟨W, L, T, p⟩, -1) := by unfold fTurnsNext; rw [show fTurnsOk ⟨W, L, T, p⟩ = true from ‹_›, show anyT (DTurns.mk W L T p).T = false from ha]; rfl
    rw [e]
    refine ok_endL (vs := [_, _]) rfl ⟨⟨_, 4, _, _, _, rfl, rfl, inferInstance, rfl, rfl⟩, rfl, trivial⟩ (fun w' hw => ?_)
    refine ⟨y13, rfl, trivial, hw.below, ?_⟩
    have := NewOk.of (hw.sel [1, 2, 3] (by decide) rfl (G' := []) (fun _ h => by cases h))
    exact this
  obtain rfl : k = T.length := by omega
  have ha : anyT T = true := by
    rw [List.take_length] at hd
    exact hd
  have r1 : 0 ≤ (p + 1) % (T.length : Int) ∧ (p + 1) % (T.length : Int) < T.length := ⟨Int.emod_nonneg _ (by omega), Int.emod_lt_of_pos _ (by omega)⟩
  repeat' (first
    | refine ok_seq ?_
    | refine ok_then ?_
    | (refine ok_cond rfl (fun hc => ?_) (fun hc => ?_) <;> (have hd := hc; (try simp only [decide_eq_true_eq, decide_eq_false_iff_not, Bool.or_eq_true, Bool.or_eq_false_iff, Bool.and_eq_true, Bool.and_eq_false_iff, Bool.not_eq_true', Bool.not_eq_false', bne_iff_ne, beq_iff_eq, bne_eq_false_iff_eq, beq_eq_false_iff_ne, ne_eq, Bool.not_true, Bool.not_false, Bool.false_eq_true, Bool.true_eq_false, inB_true, inB_false] at hd)))
    | refine ok_skip ?_
    | (refine ok_region (i := 11) ?_; refine ok_p rfl rfl rfl (by exact ps_loads rfl rfl (by exact rds_box 0 rfl) rfl rfl (by decide)) ?_; refine ok_m rfl rfl rfl (by exact ms_s1 rfl rfl (fun _ _ w hw => s_take_c _ _ _ _ _ _ W L T p w (Rd.of_own (hw.own _ (List.mem_of_getElem? (i := 2) rfl))) (Rd.of_own (hw.own _ (List.mem_of_getElem? (i := 3) rfl))) (by omega) (by omega) (by omega) (by omega))) ?_; rintro y34 hy34; refine ok_p rfl rfl rfl (by exact ps_assign rfl rfl) ?_; refine ok_nil ?_; refine ok_env [(2, _), (4, _), (7, _)] ⟨rfl, rfl, rfl, trivial⟩ ?_)
    | (refine ok_region (i := 12) ?_; refine ok_p rfl rfl rfl (by exact ps_move rfl rfl) ?_; refine ok_p rfl rfl rfl (by exact ps_int rfl rfl rfl rfl) ?_; refine ok_nil ?_; refine ok_env [(2, _), (4, _), (7, _), (36, _)] ⟨rfl, rfl, rfl, rfl, trivial⟩ ?_))
  · have hq : ¬ 0 ≤ takeT L T p T.length T.length 0 := by omega
    obtain ⟨g1, g2, g3⟩ := second KK.out ha
    have t1 := KK.out.t (takeT W T ((p + 1) % (T.length : Int)) T.length T.length 0).toNat (by omega)
    have t2 := KK.out.w (takeT W T ((p + 1) % (T.length : Int)) T.length T.length 0).toNat (by omega)
    have e : fTurnsNext ⟨W, L, T, p⟩ = (serveT W W T (takeT W T ((p + 1) % (T.length : Int)) T.length T.length 0), (takeT W T ((p + 1) % (T.length : Int)) T.length T.length 0)) := by
      unfold fTurnsNext
      rw [show fTurnsOk ⟨W, L, T, p⟩ = true from ‹_›, show anyT (DTurns.mk W L T p).T = true from ha]
      simp only [cond_true]
      rw [if_neg hq]
    rw [e]
    repeat' (first
      | refine ok_seq ?_
      | refine ok_then ?_
      | refine ok_ret ?_
      | (refine ok_region (i := 13) ?_; refine ok_m rfl rfl rfl (by exact ms_lit rfl parts_nil rfl rfl rfl) ?_; rintro y37 hy37; refine ok_p rfl rfl rfl (by exact ps_field rfl rfl (by exact isw_ga _)) ?_; refine ok_p rfl rfl rfl (by exact ps_load rfl rfl (by exact Rds.cell (rds_box 1 rfl) rfl)) ?_; refine ok_m rfl rfl rfl (by exact ms_app0 (M := W) 0 rfl rfl rfl rfl (rds_row 2 rfl) rfl (by omega) (by omega)) ?_; rintro y40 hy40; refine ok_p rfl rfl rfl (by exact ps_field rfl rfl (by exact isw_ga _)) ?_; refine ok_m_ rfl rfl (by exact ms_store 1 rfl rfl rfl rfl rfl rfl rfl rfl) ?_; rintro y_ hy_; refine ok_nil ?_; refine ok_env [(2, _), (4, _)] ⟨rfl, rfl, trivial⟩ ?_)
      | (refine ok_region (i := 14) ?_; refine ok_p rfl rfl rfl (by exact ps_field rfl rfl (by exact isw_ga _)) ?_; refine ok_p rfl rfl rfl (by exact ps_load rfl rfl (by exact Rds.cell (rds_box 1 rfl) rfl)) ?_; refine ok_p rfl rfl rfl (by exact ps_add rfl rfl rfl (by omega)) ?_; refine ok_p rfl rfl rfl (by exact ps_field rfl rfl (by exact isw_ga _)) ?_; refine ok_p rfl rfl rfl (by exact ps_load rfl rfl (by exact Rds.cell (rds_box 1 rfl) rfl)) ?_; refine ok_p rfl rfl rfl (by exact ps_len rfl rfl) ?_; refine ok_p rfl rfl rfl (by exact ps_rem rfl rfl rfl (by omega) (by omega)) ?_; refine ok_p rfl rfl rfl (by exact ps_field rfl rfl (by exact isw_ga _)) ?_; refine ok_m_ rfl rfl (by exact ms_store 1 rfl rfl rfl rfl rfl rfl rfl rfl) ?_; rintro y_ hy_; refine ok_nil ?_; refine ok_env [(2, _), (4, _)] ⟨rfl, rfl, trivial⟩ ?_)
      | (refine ok_region (i := 15) ?_; refine ok_p rfl rfl rfl (by exact ps_loads rfl rfl (by exact rds_box 1 rfl) rfl rfl (by decide)) ?_; refine ok_m rfl rfl rfl (by exact ms_s1 rfl rfl (fun _ _ w hw => s_take_c _ _ _ _ _ _ W W T ((p + 1) % (T.length : Int)) w (Rd.of_own (hw.own _ (List.mem_of_getElem? (i := 0) rfl))) (Rd.of_own (hw.own _ (List.mem_of_getElem? (i := 4) rfl))) (by omega) (by omega) (by omega) r1)) ?_; rintro y51 hy51; refine ok_p rfl rfl rfl (by exact ps_assign rfl rfl) ?_; refine ok_nil ?_; refine ok_env [(2, _), (4, _), (7, _)] ⟨rfl, rfl, rfl, trivial⟩ ?_)
      | (refine ok_draw (id := 16) 10 rfl (by kernel_rfl) (by kernel_rfl) rfl (by repeat (first | exact pq_body | refine pq_then ?_ | refine pq_in ?_)) [0, 1, 2, 3, 4, 5, 6, 7, 8, 9, 10, 11, 12, 13, 14, 15, 16, 17, 18, 19, 20, 21, 22, 23] (by decide) rfl ?_; refine okT_take (i := 0) rfl (by kernel_rfl) rfl rfl rfl (by exact ps_field rfl rfl (by exact isw_ga _)) ?_; refine okT_take (i := 1) rfl (by kernel_rfl) rfl rfl rfl (by exact ps_load rfl rfl (by exact Rds.cell (rds_box 1 rfl) rfl)) ?_; refine okT_take (i := 2) rfl (by kernel_rfl) rfl rfl rfl (by exact ps_move rfl rfl) ?_; refine okT_take (i := 3) rfl (by kernel_rfl) rfl rfl rfl (by exact ps_field rfl rfl (by exact isw_ga _)) ?_; refine okT_take (i := 4) rfl (by kernel_rfl) rfl rfl rfl (by exact ps_load rfl rfl (by exact Rds.cell (rds_box 1 rfl) rfl)) ?_; refine okT_take (i := 5) rfl (by kernel_rfl) rfl rfl rfl (by exact ps_move rfl rfl) ?_; refine okT_take (i := 6) rfl (by kernel_rfl) rfl rfl rfl (by exact ps_index rfl rfl rfl (by omega) (by exact isw_row 4 rfl (by omega))) ?_; refine okT_take (i := 7) rfl (by kernel_rfl) rfl rfl rfl (by exact ps_load rfl rfl (by exact Rds.cell (rds_row 4 rfl) (by exact fl_at0 _ _ (by omega) (by decide)))) ?_; refine okT_take (i := 8) rfl (by kernel_rfl) rfl rfl rfl (by exact ps_sub rfl rfl rfl (by omega)) ?_; refine okT_take (i := 9) rfl (by kernel_rfl) rfl rfl rfl (by exact ps_index rfl rfl rfl (by omega) (by exact isw_row 4 rfl (by omega))) ?_; refine okT_done (by kernel_rfl) ?_; refine ok_m_ rfl rfl (by exact ms_setw (α := Int) 4 (takeT W T ((p + 1) % (T.length : Int)) T.length T.length 0).toNat (nth T (takeT W T ((p + 1) % (T.length : Int)) T.length T.length 0).toNat - 1) rfl rfl rfl rfl rfl rfl rfl rfl rfl (by omega)) ?_; rintro y_ hy_; refine ok_nil ?_; refine ok_env [(2, _), (4, _), (7, _)] ⟨rfl, rfl, rfl, trivial⟩ ?_)
      | (refine ok_draw (id := 17) 10 rfl (by kernel_rfl) (by kernel_rfl) rfl (by repeat (first | exact pq_body | refine pq_then ?_ | refine pq_in ?_)) [0, 1, 2, 3, 4, 5, 6, 7, 8, 9, 10, 11, 12, 13, 14, 15, 16, 17, 18, 19, 20, 21, 22, 23] (by decide) rfl ?_; refine okT_take (i := 0) rfl (by kernel_rfl) rfl rfl rfl (by exact ps_field rfl rfl (by exact isw_ga _)) ?_; refine okT_take (i := 1) rfl (by kernel_rfl) rfl rfl rfl (by exact ps_load rfl rfl (by exact Rds.cell (rds_box 1 rfl) rfl)) ?_; refine okT_take (i := 2) rfl (by kernel_rfl) rfl rfl rfl (by exact ps_move rfl rfl) ?_; refine okT_take (i := 3) rfl (by kernel_rfl) rfl rfl rfl (by exact ps_field rfl rfl (by exact isw_ga _)) ?_; refine okT_take (i := 4) rfl (by kernel_rfl) rfl rfl rfl (by exact ps_load rfl rfl (by exact Rds.cell (rds_box 1 rfl) rfl)) ?_; refine okT_take (i := 5) rfl (by kernel_rfl) rfl rfl rfl (by exact ps_move rfl rfl) ?_; refine okT_take (i := 6) rfl (by kernel_rfl) rfl rfl rfl (by exact ps_index rfl rfl rfl (by omega) (by exact isw_row 0 rfl (by omega))) ?_; refine okT_take (i := 7) rfl (by kernel_rfl) rfl rfl rfl (by exact ps_load rfl rfl (by exact Rds.cell (rds_row 0 rfl) (by exact fl_at0 _ _ (by omega) (by decide)))) ?_; refine okT_take (i := 8) rfl (by kernel_rfl) rfl rfl rfl (by exact ps_sub rfl rfl rfl (by omega)) ?_; refine okT_take (i := 9) rfl (by kernel_rfl) rfl rfl rfl (by exact ps_index rfl rfl rfl (by omega) (by exact isw_row 0 rfl (by omega))) ?_; refine okT_done (by kernel_rfl) ?_; refine ok_m_ rfl rfl (by exact ms_setw (α := Int) 0 (takeT W T ((p + 1) % (T.length : Int)) T.length T.length 0).toNat (nth W (takeT W T ((p + 1) % (T.length : Int)) T.length T.length 0).toNat - 1) rfl rfl rfl rfl rfl rfl rfl rfl rfl (by omega)) ?_; rintro y_ hy_; refine ok_nil ?_; refine ok_env [(2, _), (4, _), (7, _)] ⟨rfl, rfl, rfl, trivial⟩ ?_)
      | (refine ok_region (i := 18) ?_; refine ok_p rfl rfl rfl (by exact ps_move rfl rfl) ?_; refine ok_p rfl rfl rfl (by exact ps_field rfl rfl (by exact isw_ga _)) ?_; refine ok_m_ rfl rfl (by exact ms_store 1 rfl rfl rfl rfl rfl rfl rfl rfl) ?_; rintro y_ hy_; refine ok_nil ?_; refine ok_env [(2, _), (4, _), (7, _)] ⟨rfl, rfl, rfl, trivial⟩ ?_)
      | (refine ok_region (i := 19) ?_; refine ok_p rfl rfl rfl (by exact ps_loads rfl rfl (by exact rds_box 1 rfl) rfl rfl (by decide)) ?_; refine ok_p rfl rfl rfl (by exact ps_move rfl rfl) ?_; refine ok_m_ rfl rfl (by exact ms_store 5 rfl rfl rfl rfl rfl rfl rfl rfl) ?_; rintro y_ hy_; refine ok_p rfl rfl rfl (by exact ps_assign rfl rfl) ?_; refine ok_nil ?_; refine ok_env [(2, _), (3, _)] ⟨rfl, rfl, trivial⟩ ?_))
    refine ok_endL (vs := [_, _]) rfl ⟨⟨_, 5, _, _, _, rfl, rfl, inferInstance, rfl, rfl⟩, rfl, trivial⟩ (fun w' hw => ?_)
    refine ⟨yl [y13 0, y40 0, y13 2] (y13 0), ?_, trivial, hw.below, ?_⟩
    · simp only [serveT, Turns_val, List.length_set]; rfl
    · have := NewOk.of (hw.sel [2, 0, 4] (by decide) rfl (G' := []) (fun _ h => by cases h))
      simp only [serveT, Turns_obj, List.length_set] at this ⊢
      exact this
  · have hq : 0 ≤ takeT L T p T.length T.length 0 := by omega
    rcases takeT_or L T p T.length (by omega) T.length 0 with g | ⟨g1, g2, g3⟩
    · omega
    have t1 := KK.out.t (takeT L T p T.length T.length 0).toNat (by omega)
    have t2 := KK.out.w (takeT L T p T.length T.length 0).toNat (by omega)
    have t3 := KK.out.l (takeT L T p T.length T.length 0).toNat (by omega)
    have e : fTurnsNext ⟨W, L, T, p⟩ = (serveT W L T (takeT L T p T.length T.length 0), (takeT L T p T.length T.length 0)) := by
      unfold fTurnsNext
      rw [show fTurnsOk ⟨W, L, T, p⟩ = true from ‹_›, show anyT (DTurns.mk W L T p).T = true from ha]
      simp only [cond_true]
      rw [if_pos hq]
    rw [e]
    repeat' (first
      | refine ok_seq ?_
      | refine ok_then ?_
      | refine ok_ret ?_
      | (refine ok_draw (id := 16) 10 rfl (by kernel_rfl) (by kernel_rfl) rfl (by repeat (first | exact pq_body | refine pq_then ?_ | refine pq_in ?_)) [0, 1, 2, 3, 4, 5, 6, 7, 8, 9, 10, 11, 12, 13, 14, 15, 16, 17, 18, 19, 20, 21, 22, 23] (by decide) rfl ?_; refine okT_take (i := 0) rfl (by kernel_rfl) rfl rfl rfl (by exact ps_field rfl rfl (by exact isw_ga _)) ?_; refine okT_take (i := 1) rfl (by kernel_rfl) rfl rfl rfl (by exact ps_load rfl rfl (by exact Rds.cell (rds_box 0 rfl) rfl)) ?_; refine okT_take (i := 2) rfl (by kernel_rfl) rfl rfl rfl (by exact ps_move rfl rfl) ?_; refine okT_take (i := 3) rfl (by kernel_rfl) rfl rfl rfl (by exact ps_field rfl rfl (by exact isw_ga _)) ?_; refine okT_take (i := 4) rfl (by kernel_rfl) rfl rfl rfl (by exact ps_load rfl rfl (by exact Rds.cell (rds_box 0 rfl) rfl)) ?_; refine okT_take (i := 5) rfl (by kernel_rfl) rfl rfl rfl (by exact ps_move rfl rfl) ?_; refine okT_take (i := 6) rfl (by kernel_rfl) rfl rfl rfl (by exact ps_index rfl rfl rfl (by omega) (by exact isw_row 3 rfl (by omega))) ?_; refine okT_take (i := 7) rfl (by kernel_rfl) rfl rfl rfl (by exact ps_load rfl rfl (by exact Rds.cell (rds_row 3 rfl) (by exact fl_at0 _ _ (by omega) (by decide)))) ?_; refine okT_take (i := 8) rfl (by kernel_rfl) rfl rfl rfl (by exact ps_sub rfl rfl rfl (by omega)) ?_; refine okT_take (i := 9) rfl (by kernel_rfl) rfl rfl rfl (by exact ps_index rfl rfl rfl (by omega) (by exact isw_row 3 rfl (by omega))) ?_; refine okT_done (by kernel_rfl) ?_; refine ok_m_ rfl rfl (by exact ms_setw (α := Int) 3 (takeT L T p T.length T.length 0).toNat (nth T (takeT L T p T.length T.length 0).toNat - 1) rfl rfl rfl rfl rfl rfl rfl rfl rfl (by omega)) ?_; rintro y_ hy_; refine ok_nil ?_; refine ok_env [(2, _), (4, _), (7, _)] ⟨rfl, rfl, rfl, trivial⟩ ?_)
      | (refine ok_draw (id := 17) 10 rfl (by kernel_rfl) (by kernel_rfl) rfl (by repeat (first | exact pq_body | refine pq_then ?_ | refine pq_in ?_)) [0, 1, 2, 3, 4, 5, 6, 7, 8, 9, 10, 11, 12, 13, 14, 15, 16, 17, 18, 19, 20, 21, 22, 23] (by decide) rfl ?_; refine okT_take (i := 0) rfl (by kernel_rfl) rfl rfl rfl (by exact ps_field rfl rfl (by exact isw_ga _)) ?_; refine okT_take (i := 1) rfl (by kernel_rfl) rfl rfl rfl (by exact ps_load rfl rfl (by exact Rds.cell (rds_box 0 rfl) rfl)) ?_; refine okT_take (i := 2) rfl (by kernel_rfl) rfl rfl rfl (by exact ps_move rfl rfl) ?_; refine okT_take (i := 3) rfl (by kernel_rfl) rfl rfl rfl (by exact ps_field rfl rfl (by exact isw_ga _)) ?_; refine okT_take (i := 4) rfl (by kernel_rfl) rfl rfl rfl (by exact ps_load rfl rfl (by exact Rds.cell (rds_box 0 rfl) rfl)) ?_; refine okT_take (i := 5) rfl (by kernel_rfl) rfl rfl rfl (by exact ps_move rfl rfl) ?_; refine okT_take (i := 6) rfl (by kernel_rfl) rfl rfl rfl (by exact ps_index rfl rfl rfl (by omega) (by exact isw_row 2 rfl (by omega))) ?_; refine okT_take (i := 7) rfl (by kernel_rfl) rfl rfl rfl (by exact ps_load rfl rfl (by exact Rds.cell (rds_row 2 rfl) (by exact fl_at0 _ _ (by omega) (by decide)))) ?_; refine okT_take (i := 8) rfl (by kernel_rfl) rfl rfl rfl (by exact ps_sub rfl rfl rfl (by omega)) ?_; refine okT_take (i := 9) rfl (by kernel_rfl) rfl rfl rfl (by exact ps_index rfl rfl rfl (by omega) (by exact isw_row 2 rfl (by omega))) ?_; refine okT_done (by kernel_rfl) ?_; refine ok_m_ rfl rfl (by exact ms_setw (α := Int) 2 (takeT L T p T.length T.length 0).toNat (nth L (takeT L T p T.length T.length 0).toNat - 1) rfl rfl rfl rfl rfl rfl rfl rfl rfl (by omega)) ?_; rintro y_ hy_; refine ok_nil ?_; refine ok_env [(2, _), (4, _), (7, _)] ⟨rfl, rfl, rfl, trivial⟩ ?_)
      | (refine ok_region (i := 18) ?_; refine ok_p rfl rfl rfl (by exact ps_move rfl rfl) ?_; refine ok_p rfl rfl rfl (by exact ps_field rfl rfl (by exact isw_ga _)) ?_; refine ok_m_ rfl rfl (by exact ms_store 0 rfl rfl rfl rfl rfl rfl rfl rfl) ?_; rintro y_ hy_; refine ok_nil ?_; refine ok_env [(2, _), (4, _), (7, _)] ⟨rfl, rfl, rfl, trivial⟩ ?_)
      | (refine ok_region (i := 19) ?_; refine ok_p rfl rfl rfl (by exact ps_loads rfl rfl (by exact rds_box 0 rfl) rfl rfl (by decide)) ?_; refine ok_p rfl rfl rfl (by exact ps_move rfl rfl) ?_; refine ok_m_ rfl rfl (by exact ms_store 4 rfl rfl rfl rfl rfl rfl rfl rfl) ?_; rintro y_ hy_; refine ok_p rfl rfl rfl (by exact ps_assign rfl rfl) ?_; refine ok_nil ?_; refine ok_env [(2, _), (3, _)] ⟨rfl, rfl, trivial⟩ ?_))
    refine ok_endL (vs := [_, _]) rfl ⟨⟨_, 4, _, _, _, rfl, rfl, inferInstance, rfl, rfl⟩, rfl, trivial⟩ (fun w' hw => ?_)
    refine ⟨y13, ?_, trivial, hw.below, ?_⟩
    · simp only [serveT, Turns_val, List.length_set]; rfl
    · have := NewOk.of (hw.sel [1, 2, 3] (by decide) rfl (G' := []) (fun _ h => by cases h))
      simp only [serveT, Turns_obj, List.length_set] at this ⊢
      exact this
theorem next_le (x : DTurns) (h : Turns_sm x) : Turns_sm (fTurnsNext x).1 := by
  obtain ⟨W, L, T, p⟩ := x
  obtain ⟨a, b, c⟩ := h
  simp only at a b c
  unfold fTurnsNext
  cases fTurnsOk ⟨W, L, T, p⟩ <;> cases anyT T <;> simp only [cond_true, cond_false]
  · exact ⟨by simp, by simp, by simp⟩
  · exact ⟨by simp, by simp, by simp⟩
  · exact ⟨a, b, c⟩
  · split
    · exact ⟨a, by simp only [serveT, List.length_set]; exact b, by simp only [serveT, List.length_set]; exact c⟩
    · exact ⟨a, by simp only [serveT, List.length_set]; exact a, by simp only [serveT, List.length_set]; exact c⟩
theorem TurnsNext_lim (x : DTurns) (hs : Turns_sm x) : Turns_lim (fTurnsNext x).1 := Turns_sm_lim (next_le x hs)
theorem i_TurnsNext (x : DTurns) (y : Ys) (w : World) (h : Turns_rd w x y) (hs : Turns_sm x) :
    Calls Try.prog 40 #[Turns_val x y] w fun e w' => ∃ y : Ys, e = .returned (.tuple #[Turns_val (fTurnsNext x).1 y, .int .i64 (fTurnsNext x).2]) ∧ True ∧ Below w.heap.size w w' ∧ NewOk w.heap.size (Turns_obj (fTurnsNext x).1 y) [] w' :=
  i_TurnsNext0 _ _ _ _ _ _ x.W x.L x.T x.p w h.1 h.2.1 h.2.2 hs.1 hs.2.1 hs.2.2
theorem s_TurnsNext (x : DTurns) (y : Ys) (w : World) (h : Turns_rd w x y) (hs : Turns_sm x) :
    Calls Try.prog 44 #[Turns_val x y] w fun e w' => ∃ y : Ys, e = .returned (.tuple #[Turns_val (fTurnsNext x).1 y, .int .i64 (fTurnsNext x).2]) ∧ True ∧ Below w.heap.size w w' ∧ NewOk w.heap.size (Turns_obj (fTurnsNext x).1 y) [] w' :=
  s_TurnsNext0 _ _ _ _ _ _ x.W x.L x.T x.p w h.1 h.2.1 h.2.2 hs.1 hs.2.1 hs.2.2
end Go.Proofs.Ytfcnimglcialbaa
