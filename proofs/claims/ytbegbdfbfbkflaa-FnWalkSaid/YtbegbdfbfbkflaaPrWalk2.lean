/- Texts of this claim, one behind the other: Ord, StbP, MrgP, VisP, BtWalk, Wok, Dlt2, BtKVS, Cln, BfCRow, FlCRow, BtCache, Cch, Cag, Cgt, Cge, Cgs, Dfm, ApP, WkP, ElEnt, Eng14, WkC, SymP, SymQ, Enc, Swp. -/
import Derived.Test.YtbegbdfbfbkflaaPrWalk1
import Derived.Lib.SliceRun
/- Entries in order: entOk, compareEnts, inOrder of the program; l9Ent, l9Ahead, l9Ents of the reference; rows of them. -/
namespace Go.Proofs.Ytbegbdfbfbkflaa
open Go.RowKit
set_option maxHeartbeats 4000000
set_option maxRecDepth 20000
set_option linter.unusedVariables false
set_option linter.unusedSimpArgs false
attribute [local irreducible] Calls
def cmpT (a b : ByteArray) : Int := if sLt a b = true then -1 else if sLt b a = true then 1 else 0
def cmpI (a b : Int) : Int := if a < b then -1 else if b < a then 1 else 0
def or2 (a b : Int) : Int := if a ≠ 0 then a else b
def cmpE (a b : Ent) : Int := or2 (cmpT a.key b.key) (cmpI b.seq a.seq)
def aheadE (a b : Ent) : Bool := sLt a.key b.key || (sEq a.key b.key && decide (b.seq < a.seq))
def entOk (x : Ent) : Bool := kk x.key && inB x.seq 0 1000000 && (decide ((x.val.size : Int) ≤ 16) && (!x.del || sEq x.val ⟨#[]⟩))
theorem sTri (a b : ByteArray) : (sLt a b = true ∧ sLt b a = false ∧ sEq a b = false) ∨ (sLt a b = false ∧ sLt b a = true ∧ sEq a b = false) ∨ (sLt a b = false ∧ sLt b a = false ∧ sEq a b = true) := by
  have irr : ∀ x y : ByteArray, sLt x y = true → sEq x y = false := fun x y h => by
    cases h2 : sEq x y with
    | false => rfl
    | true =>
      unfold sEq at h2
      have e : x.toList = y.toList := by simpa using h2
      have h3 := h
      unfold sLt at h3
      rw [e] at h3
      have h4 := sLt_irrefl y
      unfold sLt at h4
      rw [h4] at h3; cases h3
  have sym : ∀ x y : ByteArray, sEq x y = sEq y x := fun x y => by unfold sEq; exact Bool.beq_comm
  have h0 := sLt_or_eq a b
  cases h1 : sLt a b with
  | true => exact .inl ⟨rfl, sLt_asymm h1, irr a b h1⟩
  | false =>
    right
    cases h2 : sLt b a with
    | true => exact .inl ⟨rfl, rfl, by rw [sym]; exact irr b a h2⟩
    | false =>
      rw [h1, h2] at h0
      exact .inr ⟨rfl, rfl, by simpa using h0⟩
theorem cmpE_ahead (a b : Ent) : decide (0 ≤ cmpE a b) = !aheadE a b := by
  unfold cmpE or2 cmpT cmpI aheadE
  rcases sTri a.key b.key with ⟨h1, h2, h3⟩ | ⟨h1, h2, h3⟩ | ⟨h1, h2, h3⟩
  · simp [h1]
  · simp [h1, h2, h3]
  · simp only [h1, h2, h3, Bool.false_eq_true, if_false, ne_eq, not_true_eq_false, Bool.false_or, Bool.true_and]
    by_cases h : b.seq < a.seq
    · simp [h]
    · simp only [h, if_false, decide_false, Bool.not_false, decide_eq_true_eq]
      split <;> omega
def ordE (l : List Ent) (i : Nat) : Bool := !(!entOk (nth l i) || (decide (0 < (i : Int)) && !aheadE (nth l (i - 1)) (nth l i)))
def inOrd (l : List Ent) : Bool := (List.range l.length).all (ordE l)
theorem isNum_c (z : Int) (w : World) : Calls Try.prog 254 #[.int .i64 z] w fun e w' => e = .returned (.bool (inB z 0 1000000)) ∧ Below w.heap.size w w' := by
  refine ok_enter 5 Try.func254 rfl rfl rfl ?_
  repeat' (first
    | refine ok_seq ?_
    | refine ok_then ?_
    | refine ok_ret ?_
    | (refine ok_region (i := 0) ?_; refine ok_p rfl rfl rfl (by exact ps_assign rfl rfl) ?_; refine ok_nil ?_; refine ok_env [(0, _)] ⟨rfl, trivial⟩ ?_)
    | (refine ok_region (i := 1) ?_; refine ok_p rfl rfl rfl (by exact ps_move rfl rfl) ?_; refine ok_m rfl rfl rfl (by exact ms_s3 rfl rfl rfl rfl (fun _ _ w hw => xi_in _ _ _ w)) ?_; rintro y4 hy4; refine ok_p rfl rfl rfl (by exact ps_assign rfl rfl) ?_; refine ok_nil ?_; refine ok_env [(2, _)] ⟨rfl, trivial⟩ ?_))
  exact ok_endL (vs := [_]) rfl ⟨rfl, trivial⟩ (fun w hw => ⟨rfl, hw.below⟩)
theorem isVal_c (d : Bool) (v : ByteArray) (w : World) : Calls Try.prog 255 #[.bool d, .string v] w fun e w' => e = .returned (.bool (decide ((v.size : Int) ≤ 16) && (!d || sEq v ⟨#[]⟩))) ∧ Below w.heap.size w w' := by
  refine ok_enter 16 Try.func255 rfl rfl rfl ?_
  repeat' (first
    | refine ok_seq ?_
    | refine ok_then ?_
    | refine ok_ret ?_
    | (refine ok_region (i := 0) ?_; refine ok_p rfl rfl rfl (by exact ps_assign rfl rfl) ?_; refine ok_nil ?_; refine ok_env [(0, _), (1, _)] ⟨rfl, rfl, trivial⟩ ?_)
    | (refine ok_region (i := 1) ?_; refine ok_p rfl rfl rfl (by exact ps_move rfl rfl) ?_; refine ok_p rfl rfl rfl (by exact ps_slen rfl rfl) ?_; refine ok_p rfl rfl rfl (by exact ps_int rfl rfl rfl rfl) ?_; refine ok_p rfl rfl rfl (by exact ps_move rfl rfl) ?_; refine ok_pg rfl rfl rfl rfl rfl (gT _) (fun hp => by (have hpd := hp; (try simp only [decide_eq_true_eq, decide_eq_false_iff_not, Bool.or_eq_true, Bool.or_eq_false_iff, Bool.and_eq_true, Bool.and_eq_false_iff, Bool.not_eq_true', Bool.not_eq_false', bne_iff_ne, beq_iff_eq, bne_eq_false_iff_eq, beq_eq_false_iff_ne, ne_eq, Bool.not_true, Bool.not_false, Bool.false_eq_true, Bool.true_eq_false, inB_true, inB_false] at hpd); exact ps_move rfl (by exact rfl))) ?_; refine ok_pg rfl rfl rfl rfl rfl (gT _) (fun hp => by (have hpd := hp; (try simp only [decide_eq_true_eq, decide_eq_false_iff_not, Bool.or_eq_true, Bool.or_eq_false_iff, Bool.and_eq_true, Bool.and_eq_false_iff, Bool.not_eq_true', Bool.not_eq_false', bne_iff_ne, beq_iff_eq, bne_eq_false_iff_eq, beq_eq_false_iff_ne, ne_eq, Bool.not_true, Bool.not_false, Bool.false_eq_true, Bool.true_eq_false, inB_true, inB_false] at hpd); exact ps_move rfl (by (refine og rfl ?_; assumption)))) ?_; refine ok_pgg rfl rfl rfl rfl rfl (gT _) (fun hq hp hqp => by (have hqd := hq; (try simp only [decide_eq_true_eq, decide_eq_false_iff_not, Bool.or_eq_true, Bool.or_eq_false_iff, Bool.and_eq_true, Bool.and_eq_false_iff, Bool.not_eq_true', Bool.not_eq_false', bne_iff_ne, beq_iff_eq, bne_eq_false_iff_eq, beq_eq_false_iff_ne, ne_eq, Bool.not_true, Bool.not_false, Bool.false_eq_true, Bool.true_eq_false, inB_true, inB_false] at hqd); have hpd := hp; (try simp only [decide_eq_true_eq, decide_eq_false_iff_not, Bool.or_eq_true, Bool.or_eq_false_iff, Bool.and_eq_true, Bool.and_eq_false_iff, Bool.not_eq_true', Bool.not_eq_false', bne_iff_ne, beq_iff_eq, bne_eq_false_iff_eq, beq_eq_false_iff_ne, ne_eq, Bool.not_true, Bool.not_false, Bool.false_eq_true, Bool.true_eq_false, inB_true, inB_false] at hpd); exact ps_move rfl (by exact rfl))) ?_; refine ok_pgg rfl rfl rfl rfl rfl (gT _) (fun hq hp hqp => by (have hqd := hq; (try simp only [decide_eq_true_eq, decide_eq_false_iff_not, Bool.or_eq_true, Bool.or_eq_false_iff, Bool.and_eq_true, Bool.and_eq_false_iff, Bool.not_eq_true', Bool.not_eq_false', bne_iff_ne, beq_iff_eq, bne_eq_false_iff_eq, beq_eq_false_iff_ne, ne_eq, Bool.not_true, Bool.not_false, Bool.false_eq_true, Bool.true_eq_false, inB_true, inB_false] at hqd); have hpd := hp; (try simp only [decide_eq_true_eq, decide_eq_false_iff_not, Bool.or_eq_true, Bool.or_eq_false_iff, Bool.and_eq_true, Bool.and_eq_false_iff, Bool.not_eq_true', Bool.not_eq_false', bne_iff_ne, beq_iff_eq, bne_eq_false_iff_eq, beq_eq_false_iff_ne, ne_eq, Bool.not_true, Bool.not_false, Bool.false_eq_true, Bool.true_eq_false, inB_true, inB_false] at hpd); exact ps_str rfl (by (refine og rfl ?_; assumption)) (by exact rfl) rfl)) ?_; refine ok_pg rfl rfl rfl rfl rfl (gT _) (fun hp => by (have hpd := hp; (try simp only [decide_eq_true_eq, decide_eq_false_iff_not, Bool.or_eq_true, Bool.or_eq_false_iff, Bool.and_eq_true, Bool.and_eq_false_iff, Bool.not_eq_true', Bool.not_eq_false', bne_iff_ne, beq_iff_eq, bne_eq_false_iff_eq, beq_eq_false_iff_ne, ne_eq, Bool.not_true, Bool.not_false, Bool.false_eq_true, Bool.true_eq_false, inB_true, inB_false] at hpd); exact ps_and_in (by assumption) rfl rfl rfl)) ?_; refine ok_pg rfl rfl rfl rfl rfl (gT _) (fun hp => by (have hpd := hp; (try simp only [decide_eq_true_eq, decide_eq_false_iff_not, Bool.or_eq_true, Bool.or_eq_false_iff, Bool.and_eq_true, Bool.and_eq_false_iff, Bool.not_eq_true', Bool.not_eq_false', bne_iff_ne, beq_iff_eq, bne_eq_false_iff_eq, beq_eq_false_iff_ne, ne_eq, Bool.not_true, Bool.not_false, Bool.false_eq_true, Bool.true_eq_false, inB_true, inB_false] at hpd); exact ps_not rfl (by (refine og rfl ?_; assumption)))) ?_; refine ok_p rfl rfl rfl (by exact ps_and rfl rfl rfl) ?_; refine ok_p rfl rfl rfl (by exact ps_assign rfl rfl) ?_; refine ok_nil ?_; refine ok_env [(4, _)] ⟨rfl, trivial⟩ ?_))
  refine ok_endL (vs := [_]) rfl ⟨rfl, trivial⟩ (fun w hw => ⟨?_, hw.below⟩)
  cases d <;> simp [retV]
theorem entOk_c (x : Ent) (w : World) : Calls Try.prog 236 #[.agg (Dat.cells x).toArray] w fun e w' => e = .returned (.bool (entOk x)) ∧ Below w.heap.size w w' := by
  refine ok_enter 18 Try.func236 rfl rfl rfl ?_
  repeat' (first
    | refine ok_seq ?_
    | refine ok_then ?_
    | refine ok_ret ?_
    | (refine ok_region (i := 0) ?_; refine ok_m rfl rfl rfl (by exact ms_box rfl rfl rfl) ?_; rintro y1 hy1; refine ok_p rfl rfl rfl (by exact ps_assign rfl rfl) ?_; refine ok_nil ?_; refine ok_env [(1, _)] ⟨rfl, trivial⟩ ?_)
    | (refine ok_region (i := 1) ?_; refine ok_p rfl rfl rfl (by exact ps_field rfl rfl (by exact isw_ga _)) ?_; refine ok_p rfl rfl rfl (by exact ps_load rfl rfl (by exact Rds.cell (rds_box 0 rfl) rfl)) ?_; refine ok_m rfl rfl rfl (by exact ms_s1 rfl rfl (fun _ _ w hw => isKey_c _ w)) ?_; rintro y5 hy5; refine ok_p rfl rfl rfl (by exact ps_move rfl rfl) ?_; refine ok_pg rfl rfl rfl rfl rfl (gT _) (fun hp => by (have hpd := hp; (try simp only [decide_eq_true_eq, decide_eq_false_iff_not, Bool.or_eq_true, Bool.or_eq_false_iff, Bool.and_eq_true, Bool.and_eq_false_iff, Bool.not_eq_true', Bool.not_eq_false', bne_iff_ne, beq_iff_eq, bne_eq_false_iff_eq, beq_eq_false_iff_ne, ne_eq, Bool.not_true, Bool.not_false, Bool.false_eq_true, Bool.true_eq_false, inB_true, inB_false] at hpd); exact ps_field rfl (by exact rfl) (by exact isw_ga _))) ?_; refine ok_pg rfl rfl rfl rfl rfl (gT _) (fun hp => by (have hpd := hp; (try simp only [decide_eq_true_eq, decide_eq_false_iff_not, Bool.or_eq_true, Bool.or_eq_false_iff, Bool.and_eq_true, Bool.and_eq_false_iff, Bool.not_eq_true', Bool.not_eq_false', bne_iff_ne, beq_iff_eq, bne_eq_false_iff_eq, beq_eq_false_iff_ne, ne_eq, Bool.not_true, Bool.not_false, Bool.false_eq_true, Bool.true_eq_false, inB_true, inB_false] at hpd); exact ps_load rfl (by (refine og rfl ?_; assumption)) (by exact Rds.cell (rds_box 0 rfl) rfl))) ?_; refine ok_mg rfl rfl rfl rfl rfl (gT _) (fun hp => by (have hpd := hp; (try simp only [decide_eq_true_eq, decide_eq_false_iff_not, Bool.or_eq_true, Bool.or_eq_false_iff, Bool.and_eq_true, Bool.and_eq_false_iff, Bool.not_eq_true', Bool.not_eq_false', bne_iff_ne, beq_iff_eq, bne_eq_false_iff_eq, beq_eq_false_iff_ne, ne_eq, Bool.not_true, Bool.not_false, Bool.false_eq_true, Bool.true_eq_false, inB_true, inB_false] at hpd); exact ms_s1 rfl (by (refine og rfl ?_; assumption)) (fun _ _ w hw => isNum_c _ w))) ?_; refine ok_p rfl rfl rfl (by exact ps_and rfl rfl rfl) ?_; refine ok_p rfl rfl rfl (by exact ps_move rfl rfl) ?_; refine ok_pg rfl rfl rfl rfl rfl (gT _) (fun hp => by (have hpd := hp; (try simp only [decide_eq_true_eq, decide_eq_false_iff_not, Bool.or_eq_true, Bool.or_eq_false_iff, Bool.and_eq_true, Bool.and_eq_false_iff, Bool.not_eq_true', Bool.not_eq_false', bne_iff_ne, beq_iff_eq, bne_eq_false_iff_eq, beq_eq_false_iff_ne, ne_eq, Bool.not_true, Bool.not_false, Bool.false_eq_true, Bool.true_eq_false, inB_true, inB_false] at hpd); exact ps_field rfl (by exact rfl) (by exact isw_ga _))) ?_; refine ok_pg rfl rfl rfl rfl rfl (gT _) (fun hp => by (have hpd := hp; (try simp only [decide_eq_true_eq, decide_eq_false_iff_not, Bool.or_eq_true, Bool.or_eq_false_iff, Bool.and_eq_true, Bool.and_eq_false_iff, Bool.not_eq_true', Bool.not_eq_false', bne_iff_ne, beq_iff_eq, bne_eq_false_iff_eq, beq_eq_false_iff_ne, ne_eq, Bool.not_true, Bool.not_false, Bool.false_eq_true, Bool.true_eq_false, inB_true, inB_false] at hpd); exact ps_load rfl (by (refine og rfl ?_; assumption)) (by exact Rds.cell (rds_box 0 rfl) rfl))) ?_; refine ok_pg rfl rfl rfl rfl rfl (gT _) (fun hp => by (have hpd := hp; (try simp only [decide_eq_true_eq, decide_eq_false_iff_not, Bool.or_eq_true, Bool.or_eq_false_iff, Bool.and_eq_true, Bool.and_eq_false_iff, Bool.not_eq_true', Bool.not_eq_false', bne_iff_ne, beq_iff_eq, bne_eq_false_iff_eq, beq_eq_false_iff_ne, ne_eq, Bool.not_true, Bool.not_false, Bool.false_eq_true, Bool.true_eq_false, inB_true, inB_false] at hpd); exact ps_field rfl (by exact rfl) (by exact isw_ga _))) ?_; refine ok_pg rfl rfl rfl rfl rfl (gT _) (fun hp => by (have hpd := hp; (try simp only [decide_eq_true_eq, decide_eq_false_iff_not, Bool.or_eq_true, Bool.or_eq_false_iff, Bool.and_eq_true, Bool.and_eq_false_iff, Bool.not_eq_true', Bool.not_eq_false', bne_iff_ne, beq_iff_eq, bne_eq_false_iff_eq, beq_eq_false_iff_ne, ne_eq, Bool.not_true, Bool.not_false, Bool.false_eq_true, Bool.true_eq_false, inB_true, inB_false] at hpd); exact ps_load rfl (by (refine og rfl ?_; assumption)) (by exact Rds.cell (rds_box 0 rfl) rfl))) ?_; refine ok_mg rfl rfl rfl rfl rfl (gT _) (fun hp => by (have hpd := hp; (try simp only [decide_eq_true_eq, decide_eq_false_iff_not, Bool.or_eq_true, Bool.or_eq_false_iff, Bool.and_eq_true, Bool.and_eq_false_iff, Bool.not_eq_true', Bool.not_eq_false', bne_iff_ne, beq_iff_eq, bne_eq_false_iff_eq, beq_eq_false_iff_ne, ne_eq, Bool.not_true, Bool.not_false, Bool.false_eq_true, Bool.true_eq_false, inB_true, inB_false] at hpd); exact ms_s2 rfl (by (refine og rfl ?_; assumption)) (by (refine og rfl ?_; assumption)) (fun _ _ w hw => isVal_c _ _ w))) ?_; refine ok_p rfl rfl rfl (by exact ps_and rfl rfl rfl) ?_; refine ok_p rfl rfl rfl (by exact ps_assign rfl rfl) ?_; refine ok_nil ?_; refine ok_env [(2, _)] ⟨rfl, trivial⟩ ?_))
  exact ok_endL (vs := [_]) rfl ⟨rfl, trivial⟩ (fun w hw => ⟨rfl, hw.below⟩)
theorem l9Ent_c (x : Ent) (w : World) : Calls Try.prog 164 #[.agg (Dat.cells x).toArray] w fun e w' => e = .returned (.bool (entOk x)) ∧ Below w.heap.size w w' := by
  refine ok_enter 16 Try.func164 rfl rfl rfl ?_
  repeat' (first
    | refine ok_seq ?_
    | refine ok_then ?_
    | refine ok_ret ?_
    | (refine ok_region (i := 0) ?_; refine ok_m rfl rfl rfl (by exact ms_box rfl rfl rfl) ?_; rintro y1 hy1; refine ok_p rfl rfl rfl (by exact ps_assign rfl rfl) ?_; refine ok_nil ?_; refine ok_env [(1, _)] ⟨rfl, trivial⟩ ?_)
    | (refine ok_region (i := 1) ?_; refine ok_p rfl rfl rfl (by exact ps_field rfl rfl (by exact isw_ga _)) ?_; refine ok_p rfl rfl rfl (by exact ps_load rfl rfl (by exact Rds.cell (rds_box 0 rfl) rfl)) ?_; refine ok_p rfl rfl rfl (by exact ps_field rfl rfl (by exact isw_ga _)) ?_; refine ok_p rfl rfl rfl (by exact ps_load rfl rfl (by exact Rds.cell (rds_box 0 rfl) rfl)) ?_; refine ok_p rfl rfl rfl (by exact ps_field rfl rfl (by exact isw_ga _)) ?_; refine ok_p rfl rfl rfl (by exact ps_load rfl rfl (by exact Rds.cell (rds_box 0 rfl) rfl)) ?_; refine ok_p rfl rfl rfl (by exact ps_bld rfl (parts_cons rfl (parts_cons rfl (parts_cons rfl parts_nil))) rfl) ?_; refine ok_m rfl rfl rfl (by exact ms_s1 rfl rfl (fun _ _ w hw => l7Op_c _ _ _ w)) ?_; rintro y10 hy10; refine ok_p rfl rfl rfl (by exact ps_move rfl rfl) ?_; refine ok_pg rfl rfl rfl rfl rfl (gT _) (fun hp => by (have hpd := hp; (try simp only [decide_eq_true_eq, decide_eq_false_iff_not, Bool.or_eq_true, Bool.or_eq_false_iff, Bool.and_eq_true, Bool.and_eq_false_iff, Bool.not_eq_true', Bool.not_eq_false', bne_iff_ne, beq_iff_eq, bne_eq_false_iff_eq, beq_eq_false_iff_ne, ne_eq, Bool.not_true, Bool.not_false, Bool.false_eq_true, Bool.true_eq_false, inB_true, inB_false] at hpd); exact ps_field rfl (by exact rfl) (by exact isw_ga _))) ?_; refine ok_pg rfl rfl rfl rfl rfl (gT _) (fun hp => by (have hpd := hp; (try simp only [decide_eq_true_eq, decide_eq_false_iff_not, Bool.or_eq_true, Bool.or_eq_false_iff, Bool.and_eq_true, Bool.and_eq_false_iff, Bool.not_eq_true', Bool.not_eq_false', bne_iff_ne, beq_iff_eq, bne_eq_false_iff_eq, beq_eq_false_iff_ne, ne_eq, Bool.not_true, Bool.not_false, Bool.false_eq_true, Bool.true_eq_false, inB_true, inB_false] at hpd); exact ps_load rfl (by (refine og rfl ?_; assumption)) (by exact Rds.cell (rds_box 0 rfl) rfl))) ?_; refine ok_mg rfl rfl rfl rfl rfl (gT _) (fun hp => by (have hpd := hp; (try simp only [decide_eq_true_eq, decide_eq_false_iff_not, Bool.or_eq_true, Bool.or_eq_false_iff, Bool.and_eq_true, Bool.and_eq_false_iff, Bool.not_eq_true', Bool.not_eq_false', bne_iff_ne, beq_iff_eq, bne_eq_false_iff_eq, beq_eq_false_iff_ne, ne_eq, Bool.not_true, Bool.not_false, Bool.false_eq_true, Bool.true_eq_false, inB_true, inB_false] at hpd); exact ms_s3 rfl (by (refine og rfl ?_; assumption)) rfl rfl (fun _ _ w hw => xs_in _ _ _ w))) ?_; refine ok_p rfl rfl rfl (by exact ps_and rfl rfl rfl) ?_; refine ok_p rfl rfl rfl (by exact ps_assign rfl rfl) ?_; refine ok_nil ?_; refine ok_env [(2, _)] ⟨rfl, trivial⟩ ?_))
  refine ok_endL (vs := [_]) rfl ⟨rfl, trivial⟩ (fun w hw => ⟨?_, hw.below⟩)
  unfold entOk
  simp only [retV]
  congr 2
  cases kk x.key <;> cases inB x.seq 0 1000000 <;> simp
theorem ahead_c (a b : Ent) (w : World) : Calls Try.prog 104 #[.agg (Dat.cells a).toArray, .agg (Dat.cells b).toArray] w fun e w' => e = .returned (.bool (aheadE a b)) ∧ Below w.heap.size w w' := by
  refine ok_enter 24 Try.func104 rfl rfl rfl ?_
  repeat' (first
    | refine ok_seq ?_
    | refine ok_then ?_
    | refine ok_ret ?_
    | (refine ok_region (i := 0) ?_; refine ok_m rfl rfl rfl (by exact ms_box rfl rfl rfl) ?_; rintro y2 hy2; refine ok_m rfl rfl rfl (by exact ms_box rfl rfl rfl) ?_; rintro y3 hy3; refine ok_p rfl rfl rfl (by exact ps_assign rfl rfl) ?_; refine ok_nil ?_; refine ok_env [(2, _), (3, _)] ⟨rfl, rfl, trivial⟩ ?_)
    | (refine ok_region (i := 1) ?_; refine ok_p rfl rfl rfl (by exact ps_field rfl rfl (by exact isw_ga _)) ?_; refine ok_p rfl rfl rfl (by exact ps_load rfl rfl (by exact Rds.cell (rds_box 1 rfl) rfl)) ?_; refine ok_p rfl rfl rfl (by exact ps_field rfl rfl (by exact isw_ga _)) ?_; refine ok_p rfl rfl rfl (by exact ps_load rfl rfl (by exact Rds.cell (rds_box 0 rfl) rfl)) ?_; refine ok_p rfl rfl rfl (by exact ps_str rfl rfl rfl rfl) ?_; refine ok_p rfl rfl rfl (by exact ps_move rfl rfl) ?_; refine ok_pg rfl rfl rfl rfl rfl (gF _) (fun hp => by (have hpd := hp; (try simp only [decide_eq_true_eq, decide_eq_false_iff_not, Bool.or_eq_true, Bool.or_eq_false_iff, Bool.and_eq_true, Bool.and_eq_false_iff, Bool.not_eq_true', Bool.not_eq_false', bne_iff_ne, beq_iff_eq, bne_eq_false_iff_eq, beq_eq_false_iff_ne, ne_eq, Bool.not_true, Bool.not_false, Bool.false_eq_true, Bool.true_eq_false, inB_true, inB_false] at hpd); exact ps_field rfl (by exact rfl) (by exact isw_ga _))) ?_; refine ok_pg rfl rfl rfl rfl rfl (gF _) (fun hp => by (have hpd := hp; (try simp only [decide_eq_true_eq, decide_eq_false_iff_not, Bool.or_eq_true, Bool.or_eq_false_iff, Bool.and_eq_true, Bool.and_eq_false_iff, Bool.not_eq_true', Bool.not_eq_false', bne_iff_ne, beq_iff_eq, bne_eq_false_iff_eq, beq_eq_false_iff_ne, ne_eq, Bool.not_true, Bool.not_false, Bool.false_eq_true, Bool.true_eq_false, inB_true, inB_false] at hpd); exact ps_load rfl (by (refine og rfl ?_; assumption)) (by exact Rds.cell (rds_box 1 rfl) rfl))) ?_; refine ok_pg rfl rfl rfl rfl rfl (gF _) (fun hp => by (have hpd := hp; (try simp only [decide_eq_true_eq, decide_eq_false_iff_not, Bool.or_eq_true, Bool.or_eq_false_iff, Bool.and_eq_true, Bool.and_eq_false_iff, Bool.not_eq_true', Bool.not_eq_false', bne_iff_ne, beq_iff_eq, bne_eq_false_iff_eq, beq_eq_false_iff_ne, ne_eq, Bool.not_true, Bool.not_false, Bool.false_eq_true, Bool.true_eq_false, inB_true, inB_false] at hpd); exact ps_field rfl (by exact rfl) (by exact isw_ga _))) ?_; refine ok_pg rfl rfl rfl rfl rfl (gF _) (fun hp => by (have hpd := hp; (try simp only [decide_eq_true_eq, decide_eq_false_iff_not, Bool.or_eq_true, Bool.or_eq_false_iff, Bool.and_eq_true, Bool.and_eq_false_iff, Bool.not_eq_true', Bool.not_eq_false', bne_iff_ne, beq_iff_eq, bne_eq_false_iff_eq, beq_eq_false_iff_ne, ne_eq, Bool.not_true, Bool.not_false, Bool.false_eq_true, Bool.true_eq_false, inB_true, inB_false] at hpd); exact ps_load rfl (by (refine og rfl ?_; assumption)) (by exact Rds.cell (rds_box 0 rfl) rfl))) ?_; refine ok_pg rfl rfl rfl rfl rfl (gF _) (fun hp => by (have hpd := hp; (try simp only [decide_eq_true_eq, decide_eq_false_iff_not, Bool.or_eq_true, Bool.or_eq_false_iff, Bool.and_eq_true, Bool.and_eq_false_iff, Bool.not_eq_true', Bool.not_eq_false', bne_iff_ne, beq_iff_eq, bne_eq_false_iff_eq, beq_eq_false_iff_ne, ne_eq, Bool.not_true, Bool.not_false, Bool.false_eq_true, Bool.true_eq_false, inB_true, inB_false] at hpd); exact ps_str rfl (by (refine og rfl ?_; assumption)) (by (refine og rfl ?_; assumption)) rfl)) ?_; refine ok_pg rfl rfl rfl rfl rfl (gF _) (fun hp => by (have hpd := hp; (try simp only [decide_eq_true_eq, decide_eq_false_iff_not, Bool.or_eq_true, Bool.or_eq_false_iff, Bool.and_eq_true, Bool.and_eq_false_iff, Bool.not_eq_true', Bool.not_eq_false', bne_iff_ne, beq_iff_eq, bne_eq_false_iff_eq, beq_eq_false_iff_ne, ne_eq, Bool.not_true, Bool.not_false, Bool.false_eq_true, Bool.true_eq_false, inB_true, inB_false] at hpd); exact ps_move rfl (by (refine og rfl ?_; assumption)))) ?_; refine ok_pgg rfl rfl rfl rfl rfl (gT _) (fun hq hp hqp => by (have hqd := hq; (try simp only [decide_eq_true_eq, decide_eq_false_iff_not, Bool.or_eq_true, Bool.or_eq_false_iff, Bool.and_eq_true, Bool.and_eq_false_iff, Bool.not_eq_true', Bool.not_eq_false', bne_iff_ne, beq_iff_eq, bne_eq_false_iff_eq, beq_eq_false_iff_ne, ne_eq, Bool.not_true, Bool.not_false, Bool.false_eq_true, Bool.true_eq_false, inB_true, inB_false] at hqd); have hpd := hp; (try simp only [decide_eq_true_eq, decide_eq_false_iff_not, Bool.or_eq_true, Bool.or_eq_false_iff, Bool.and_eq_true, Bool.and_eq_false_iff, Bool.not_eq_true', Bool.not_eq_false', bne_iff_ne, beq_iff_eq, bne_eq_false_iff_eq, beq_eq_false_iff_ne, ne_eq, Bool.not_true, Bool.not_false, Bool.false_eq_true, Bool.true_eq_false, inB_true, inB_false] at hpd); exact ps_field rfl (by exact rfl) (by exact isw_ga _))) ?_; refine ok_pgg rfl rfl rfl rfl rfl (gT _) (fun hq hp hqp => by (have hqd := hq; (try simp only [decide_eq_true_eq, decide_eq_false_iff_not, Bool.or_eq_true, Bool.or_eq_false_iff, Bool.and_eq_true, Bool.and_eq_false_iff, Bool.not_eq_true', Bool.not_eq_false', bne_iff_ne, beq_iff_eq, bne_eq_false_iff_eq, beq_eq_false_iff_ne, ne_eq, Bool.not_true, Bool.not_false, Bool.false_eq_true, Bool.true_eq_false, inB_true, inB_false] at hqd); have hpd := hp; (try simp only [decide_eq_true_eq, decide_eq_false_iff_not, Bool.or_eq_true, Bool.or_eq_false_iff, Bool.and_eq_true, Bool.and_eq_false_iff, Bool.not_eq_true', Bool.not_eq_false', bne_iff_ne, beq_iff_eq, bne_eq_false_iff_eq, beq_eq_false_iff_ne, ne_eq, Bool.not_true, Bool.not_false, Bool.false_eq_true, Bool.true_eq_false, inB_true, inB_false] at hpd); exact ps_load rfl (by (refine og rfl ?_; assumption)) (by exact Rds.cell (rds_box 1 rfl) rfl))) ?_; refine ok_pgg rfl rfl rfl rfl rfl (gT _) (fun hq hp hqp => by (have hqd := hq; (try simp only [decide_eq_true_eq, decide_eq_false_iff_not, Bool.or_eq_true, Bool.or_eq_false_iff, Bool.and_eq_true, Bool.and_eq_false_iff, Bool.not_eq_true', Bool.not_eq_false', bne_iff_ne, beq_iff_eq, bne_eq_false_iff_eq, beq_eq_false_iff_ne, ne_eq, Bool.not_true, Bool.not_false, Bool.false_eq_true, Bool.true_eq_false, inB_true, inB_false] at hqd); have hpd := hp; (try simp only [decide_eq_true_eq, decide_eq_false_iff_not, Bool.or_eq_true, Bool.or_eq_false_iff, Bool.and_eq_true, Bool.and_eq_false_iff, Bool.not_eq_true', Bool.not_eq_false', bne_iff_ne, beq_iff_eq, bne_eq_false_iff_eq, beq_eq_false_iff_ne, ne_eq, Bool.not_true, Bool.not_false, Bool.false_eq_true, Bool.true_eq_false, inB_true, inB_false] at hpd); exact ps_field rfl (by exact rfl) (by exact isw_ga _))) ?_; refine ok_pgg rfl rfl rfl rfl rfl (gT _) (fun hq hp hqp => by (have hqd := hq; (try simp only [decide_eq_true_eq, decide_eq_false_iff_not, Bool.or_eq_true, Bool.or_eq_false_iff, Bool.and_eq_true, Bool.and_eq_false_iff, Bool.not_eq_true', Bool.not_eq_false', bne_iff_ne, beq_iff_eq, bne_eq_false_iff_eq, beq_eq_false_iff_ne, ne_eq, Bool.not_true, Bool.not_false, Bool.false_eq_true, Bool.true_eq_false, inB_true, inB_false] at hqd); have hpd := hp; (try simp only [decide_eq_true_eq, decide_eq_false_iff_not, Bool.or_eq_true, Bool.or_eq_false_iff, Bool.and_eq_true, Bool.and_eq_false_iff, Bool.not_eq_true', Bool.not_eq_false', bne_iff_ne, beq_iff_eq, bne_eq_false_iff_eq, beq_eq_false_iff_ne, ne_eq, Bool.not_true, Bool.not_false, Bool.false_eq_true, Bool.true_eq_false, inB_true, inB_false] at hpd); exact ps_load rfl (by (refine og rfl ?_; assumption)) (by exact Rds.cell (rds_box 0 rfl) rfl))) ?_; refine ok_pgg rfl rfl rfl rfl rfl (gT _) (fun hq hp hqp => by (have hqd := hq; (try simp only [decide_eq_true_eq, decide_eq_false_iff_not, Bool.or_eq_true, Bool.or_eq_false_iff, Bool.and_eq_true, Bool.and_eq_false_iff, Bool.not_eq_true', Bool.not_eq_false', bne_iff_ne, beq_iff_eq, bne_eq_false_iff_eq, beq_eq_false_iff_ne, ne_eq, Bool.not_true, Bool.not_false, Bool.false_eq_true, Bool.true_eq_false, inB_true, inB_false] at hqd); have hpd := hp; (try simp only [decide_eq_true_eq, decide_eq_false_iff_not, Bool.or_eq_true, Bool.or_eq_false_iff, Bool.and_eq_true, Bool.and_eq_false_iff, Bool.not_eq_true', Bool.not_eq_false', bne_iff_ne, beq_iff_eq, bne_eq_false_iff_eq, beq_eq_false_iff_ne, ne_eq, Bool.not_true, Bool.not_false, Bool.false_eq_true, Bool.true_eq_false, inB_true, inB_false] at hpd); exact ps_int rfl (by (refine og rfl ?_; assumption)) (by (refine og rfl ?_; assumption)) rfl)) ?_; refine ok_pg rfl rfl rfl rfl rfl (gF _) (fun hp => by (have hpd := hp; (try simp only [decide_eq_true_eq, decide_eq_false_iff_not, Bool.or_eq_true, Bool.or_eq_false_iff, Bool.and_eq_true, Bool.and_eq_false_iff, Bool.not_eq_true', Bool.not_eq_false', bne_iff_ne, beq_iff_eq, bne_eq_false_iff_eq, beq_eq_false_iff_ne, ne_eq, Bool.not_true, Bool.not_false, Bool.false_eq_true, Bool.true_eq_false, inB_true, inB_false] at hpd); exact ps_and_in (by assumption) rfl rfl rfl)) ?_; refine ok_p rfl rfl rfl (by exact ps_or rfl rfl rfl) ?_; refine ok_p rfl rfl rfl (by exact ps_assign rfl rfl) ?_; refine ok_nil ?_; refine ok_env [(4, _)] ⟨rfl, trivial⟩ ?_))
  exact ok_endL (vs := [_]) rfl ⟨rfl, trivial⟩ (fun w hw => ⟨rfl, hw.below⟩)
theorem nanS_c (a : ByteArray) (w : World) : Calls Try.prog 250 #[.string a] w fun e w' => e = .returned (.bool false) ∧ Below w.heap.size w w' := by
  refine ok_enter 6 Try.func250 rfl rfl rfl ?_
  repeat' (first
    | refine ok_seq ?_
    | refine ok_then ?_
    | refine ok_ret ?_
    | (refine ok_region (i := 0) ?_; refine ok_p rfl rfl rfl (by exact ps_assign rfl rfl) ?_; refine ok_nil ?_; refine ok_env [(0, _)] ⟨rfl, trivial⟩ ?_)
    | (refine ok_region (i := 1) ?_; refine ok_p rfl rfl rfl (by exact ps_move rfl rfl) ?_; refine ok_p rfl rfl rfl (by exact ps_move rfl rfl) ?_; refine ok_p rfl rfl rfl (by exact ps_str rfl rfl rfl rfl) ?_; refine ok_p rfl rfl rfl (by exact ps_assign rfl rfl) ?_; refine ok_nil ?_; refine ok_env [(2, _)] ⟨rfl, trivial⟩ ?_))
  have e : sEq a a = true := by unfold sEq; simp
  exact ok_endL (vs := [_]) rfl ⟨rfl, trivial⟩ (fun w hw => ⟨by rw [e]; rfl, hw.below⟩)
theorem nanI_c (a : Int) (w : World) : Calls Try.prog 258 #[.int .i64 a] w fun e w' => e = .returned (.bool false) ∧ Below w.heap.size w w' := by
  refine ok_enter 6 Try.func258 rfl rfl rfl ?_
  repeat' (first
    | refine ok_seq ?_
    | refine ok_then ?_
    | refine ok_ret ?_
    | (refine ok_region (i := 0) ?_; refine ok_p rfl rfl rfl (by exact ps_assign rfl rfl) ?_; refine ok_nil ?_; refine ok_env [(0, _)] ⟨rfl, trivial⟩ ?_)
    | (refine ok_region (i := 1) ?_; refine ok_p rfl rfl rfl (by exact ps_move rfl rfl) ?_; refine ok_p rfl rfl rfl (by exact ps_move rfl rfl) ?_; refine ok_p rfl rfl rfl (by exact ps_int rfl rfl rfl rfl) ?_; refine ok_p rfl rfl rfl (by exact ps_assign rfl rfl) ?_; refine ok_nil ?_; refine ok_env [(2, _)] ⟨rfl, trivial⟩ ?_))
  exact ok_endL (vs := [_]) rfl ⟨rfl, trivial⟩ (fun w hw => ⟨by simp [retV], hw.below⟩)
theorem cmpT_c (a b : ByteArray) (w : World) : Calls Try.prog 240 #[.string a, .string b] w fun e w' => e = .returned (.int .i64 (cmpT a b)) ∧ Below w.heap.size w w' := by
  refine ok_enter 20 Try.func240 rfl rfl rfl ?_
  repeat' (first
    | refine ok_seq ?_
    | refine ok_then ?_
    | refine ok_then_ret ?_
    | (refine ok_cond rfl (fun hc => ?_) (fun hc => ?_) <;> (have hd := hc; (try simp only [decide_eq_true_eq, decide_eq_false_iff_not, Bool.or_eq_true, Bool.or_eq_false_iff, Bool.and_eq_true, Bool.and_eq_false_iff, Bool.not_eq_true', Bool.not_eq_false', bne_iff_ne, beq_iff_eq, bne_eq_false_iff_eq, beq_eq_false_iff_ne, ne_eq, Bool.not_true, Bool.not_false, Bool.false_eq_true, Bool.true_eq_false, inB_true, inB_false] at hd)))
    | refine ok_ret ?_
    | refine ok_skip ?_
    | (refine ok_region (i := 0) ?_; refine ok_p rfl rfl rfl (by exact ps_assign rfl rfl) ?_; refine ok_nil ?_; refine ok_env [(0, _), (1, _)] ⟨rfl, rfl, trivial⟩ ?_)
    | (refine ok_region (i := 1) ?_; refine ok_p rfl rfl rfl (by exact ps_move rfl rfl) ?_; refine ok_m rfl rfl rfl (by exact ms_s1 rfl rfl (fun _ _ w hw => nanS_c _ w)) ?_; rintro y8 hy8; refine ok_p rfl rfl rfl (by exact ps_assign rfl rfl) ?_; refine ok_nil ?_; refine ok_env [(0, _), (1, _), (5, _)] ⟨rfl, rfl, rfl, trivial⟩ ?_)
    | (refine ok_region (i := 2) ?_; refine ok_p rfl rfl rfl (by exact ps_move rfl rfl) ?_; refine ok_m rfl rfl rfl (by exact ms_s1 rfl rfl (fun _ _ w hw => nanS_c _ w)) ?_; rintro y10 hy10; refine ok_p rfl rfl rfl (by exact ps_assign rfl rfl) ?_; refine ok_nil ?_; refine ok_env [(0, _), (1, _), (5, _), (6, _)] ⟨rfl, rfl, rfl, rfl, trivial⟩ ?_)
    | (refine ok_region (i := 3) ?_; refine ok_p rfl rfl rfl (by exact ps_move rfl rfl) ?_; refine ok_nil ?_; refine ok_env [(0, _), (1, _), (6, _), (11, _)] ⟨rfl, rfl, rfl, rfl, trivial⟩ ?_)
    | (refine ok_region (i := 7) ?_; refine ok_p rfl rfl rfl (by exact ps_move rfl rfl) ?_; refine ok_nil ?_; refine ok_env [(0, _), (1, _), (13, _)] ⟨rfl, rfl, rfl, trivial⟩ ?_)
    | (refine ok_region (i := 9) ?_; refine ok_p rfl rfl rfl (by exact ps_move rfl rfl) ?_; refine ok_p rfl rfl rfl (by exact ps_move rfl rfl) ?_; refine ok_p rfl rfl rfl (by exact ps_str rfl rfl rfl rfl) ?_; refine ok_nil ?_; refine ok_env [(0, _), (1, _), (16, _)] ⟨rfl, rfl, rfl, trivial⟩ ?_)
    | (refine ok_region (i := 10) ?_; refine ok_p rfl rfl rfl (by exact ps_assign rfl rfl) ?_; refine ok_nil ?_; refine ok_env [(4, _)] ⟨rfl, trivial⟩ ?_)
    | (refine ok_region (i := 11) ?_; refine ok_p rfl rfl rfl (by exact ps_move rfl rfl) ?_; refine ok_p rfl rfl rfl (by exact ps_move rfl rfl) ?_; refine ok_p rfl rfl rfl (by exact ps_str rfl rfl rfl rfl) ?_; refine ok_nil ?_; refine ok_env [(19, _)] ⟨rfl, trivial⟩ ?_)
    | (refine ok_region (i := 12) ?_; refine ok_p rfl rfl rfl (by exact ps_assign rfl rfl) ?_; refine ok_nil ?_; refine ok_env [(4, _)] ⟨rfl, trivial⟩ ?_)
    | (refine ok_region (i := 13) ?_; refine ok_p rfl rfl rfl (by exact ps_assign rfl rfl) ?_; refine ok_nil ?_; refine ok_env [(4, _)] ⟨rfl, trivial⟩ ?_))
  all_goals first
    | (exfalso; simp at hc; done)
    | exact ok_endL (vs := [_]) rfl ⟨rfl, trivial⟩ (fun w hw => ⟨by simp_all [retV, cmpT], hw.below⟩)
theorem cmpI_c (a b : Int) (w : World) : Calls Try.prog 241 #[.int .i64 a, .int .i64 b] w fun e w' => e = .returned (.int .i64 (cmpI a b)) ∧ Below w.heap.size w w' := by
  refine ok_enter 20 Try.func241 rfl rfl rfl ?_
  repeat' (first
    | refine ok_seq ?_
    | refine ok_then ?_
    | refine ok_then_ret ?_
    | (refine ok_cond rfl (fun hc => ?_) (fun hc => ?_) <;> (have hd := hc; (try simp only [decide_eq_true_eq, decide_eq_false_iff_not, Bool.or_eq_true, Bool.or_eq_false_iff, Bool.and_eq_true, Bool.and_eq_false_iff, Bool.not_eq_true', Bool.not_eq_false', bne_iff_ne, beq_iff_eq, bne_eq_false_iff_eq, beq_eq_false_iff_ne, ne_eq, Bool.not_true, Bool.not_false, Bool.false_eq_true, Bool.true_eq_false, inB_true, inB_false] at hd)))
    | refine ok_ret ?_
    | refine ok_skip ?_
    | (refine ok_region (i := 0) ?_; refine ok_p rfl rfl rfl (by exact ps_assign rfl rfl) ?_; refine ok_nil ?_; refine ok_env [(0, _), (1, _)] ⟨rfl, rfl, trivial⟩ ?_)
    | (refine ok_region (i := 1) ?_; refine ok_p rfl rfl rfl (by exact ps_move rfl rfl) ?_; refine ok_m rfl rfl rfl (by exact ms_s1 rfl rfl (fun _ _ w hw => nanI_c _ w)) ?_; rintro y8 hy8; refine ok_p rfl rfl rfl (by exact ps_assign rfl rfl) ?_; refine ok_nil ?_; refine ok_env [(0, _), (1, _), (5, _)] ⟨rfl, rfl, rfl, trivial⟩ ?_)
    | (refine ok_region (i := 2) ?_; refine ok_p rfl rfl rfl (by exact ps_move rfl rfl) ?_; refine ok_m rfl rfl rfl (by exact ms_s1 rfl rfl (fun _ _ w hw => nanI_c _ w)) ?_; rintro y10 hy10; refine ok_p rfl rfl rfl (by exact ps_assign rfl rfl) ?_; refine ok_nil ?_; refine ok_env [(0, _), (1, _), (5, _), (6, _)] ⟨rfl, rfl, rfl, rfl, trivial⟩ ?_)
    | (refine ok_region (i := 3) ?_; refine ok_p rfl rfl rfl (by exact ps_move rfl rfl) ?_; refine ok_nil ?_; refine ok_env [(0, _), (1, _), (6, _), (11, _)] ⟨rfl, rfl, rfl, rfl, trivial⟩ ?_)
    | (refine ok_region (i := 7) ?_; refine ok_p rfl rfl rfl (by exact ps_move rfl rfl) ?_; refine ok_nil ?_; refine ok_env [(0, _), (1, _), (13, _)] ⟨rfl, rfl, rfl, trivial⟩ ?_)
    | (refine ok_region (i := 9) ?_; refine ok_p rfl rfl rfl (by exact ps_move rfl rfl) ?_; refine ok_p rfl rfl rfl (by exact ps_move rfl rfl) ?_; refine ok_p rfl rfl rfl (by exact ps_int rfl rfl rfl rfl) ?_; refine ok_nil ?_; refine ok_env [(0, _), (1, _), (16, _)] ⟨rfl, rfl, rfl, trivial⟩ ?_)
    | (refine ok_region (i := 10) ?_; refine ok_p rfl rfl rfl (by exact ps_assign rfl rfl) ?_; refine ok_nil ?_; refine ok_env [(4, _)] ⟨rfl, trivial⟩ ?_)
    | (refine ok_region (i := 11) ?_; refine ok_p rfl rfl rfl (by exact ps_move rfl rfl) ?_; refine ok_p rfl rfl rfl (by exact ps_move rfl rfl) ?_; refine ok_p rfl rfl rfl (by exact ps_int rfl rfl rfl rfl) ?_; refine ok_nil ?_; refine ok_env [(19, _)] ⟨rfl, trivial⟩ ?_)
    | (refine ok_region (i := 12) ?_; refine ok_p rfl rfl rfl (by exact ps_assign rfl rfl) ?_; refine ok_nil ?_; refine ok_env [(4, _)] ⟨rfl, trivial⟩ ?_)
    | (refine ok_region (i := 13) ?_; refine ok_p rfl rfl rfl (by exact ps_assign rfl rfl) ?_; refine ok_nil ?_; refine ok_env [(4, _)] ⟨rfl, trivial⟩ ?_))
  all_goals first
    | (exfalso; simp at hc; done)
    | exact ok_endL (vs := [_]) rfl ⟨rfl, trivial⟩ (fun w hw => ⟨by (unfold cmpI; first | rw [if_pos (by assumption)]; rfl | (rw [if_neg (by assumption), if_pos (by assumption)]; rfl) | (rw [if_neg (by assumption), if_neg (by assumption)]; rfl)), hw.below⟩)
theorem or_c (A : Option Addr) (c : Nat) (a b : Int) (w : World) (h : Rd w A (fl [a, b])) : Calls Try.prog 239 #[.slice A 2 c] w fun e w' => e = .returned (.int .i64 (or2 a b)) ∧ Below w.heap.size w w' := by
  refine ok_enter 18 Try.func239 rfl rfl rfl ?_
  repeat' (first
    | refine ok_seq ?_
    | refine ok_then ?_
    | refine ok_block ?_
    | (refine ok_region (i := 0) ?_; refine ok_p rfl rfl rfl (by exact ps_assign rfl rfl) ?_; refine ok_nil ?_; refine ok_env [(0, _)] ⟨rfl, trivial⟩ ?_)
    | (refine ok_region (i := 1) ?_; refine ok_p rfl rfl rfl (by exact ps_assign rfl rfl) ?_; refine ok_nil ?_; refine ok_env [(0, _), (3, _)] ⟨rfl, rfl, trivial⟩ ?_)
    | (refine ok_region (i := 2) ?_; refine ok_p rfl rfl rfl (by exact ps_move rfl rfl) ?_; refine ok_p rfl rfl rfl (by exact ps_len rfl rfl) ?_; refine ok_p rfl rfl rfl (by exact ps_move rfl rfl) ?_; refine ok_nil ?_; refine ok_env [(3, _), (6, _), (7, _), (8, _)] ⟨rfl, rfl, rfl, rfl, trivial⟩ ?_))
  refine ok_loop (ι := { k : Nat // k ≤ 2 ∧ (0 < k → a = 0) ∧ (1 < k → b = 0) }) (fun k => 2 - k.1) (fun k => ([(3, .int .i64 0), (6, .slice A 2 c), (7, .int .i64 ((2 : Nat) : Int)), (8, .int .i64 k.1)], [], _)) ⟨0, by omega⟩ (fun a w he hw => ⟨⟨0, by omega⟩, he.sub ⟨rfl, rfl, rfl, rfl, trivial⟩, hw⟩) ?_
  rintro ⟨k, hk, k1, k2⟩
  simp only at hk k1 k2 ⊢
  have n0 : nth [a, b] 0 = a := rfl
  have n1 : nth [a, b] 1 = b := rfl
  have hl : ([a, b] : List Int).length = 2 := rfl
  repeat' (first
    | refine ok_seq ?_
    | refine ok_then ?_
    | refine ok_then_ret ?_
    | refine ok_block ?_
    | refine ok_in_normal ?_
    | refine ok_in_ret ?_
    | (refine ok_cond rfl (fun hc => ?_) (fun hc => ?_) <;> (have hd := hc; (try simp only [decide_eq_true_eq, decide_eq_false_iff_not, Bool.or_eq_true, Bool.or_eq_false_iff, Bool.and_eq_true, Bool.and_eq_false_iff, Bool.not_eq_true', Bool.not_eq_false', bne_iff_ne, beq_iff_eq, bne_eq_false_iff_eq, beq_eq_false_iff_ne, ne_eq, Bool.not_true, Bool.not_false, Bool.false_eq_true, Bool.true_eq_false, inB_true, inB_false] at hd)))
    | refine ok_ret ?_
    | refine ok_exit ?_
    | refine ok_skip ?_
    | (refine ok_region (i := 3) ?_; refine ok_p rfl rfl rfl (by exact ps_int rfl rfl rfl rfl) ?_; refine ok_nil ?_; refine ok_env [(3, _), (6, _), (7, _), (8, _), (9, _)] ⟨rfl, rfl, rfl, rfl, rfl, trivial⟩ ?_)
    | (refine ok_region (i := 4) ?_; refine ok_p rfl rfl rfl (by exact ps_indexN rfl rfl rfl (by omega) (by exact isw_of (isS_fl (by assumption) (by omega)))) ?_; refine ok_p rfl rfl rfl (by exact ps_load rfl rfl (by exact Rds.cell (rds_rf (by assumption) (by exact List.mem_cons_self)) (by exact fl_at0 _ _ (by omega) (by decide)))) ?_; refine ok_p rfl rfl rfl (by exact ps_assign rfl rfl) ?_; refine ok_nil ?_; refine ok_env [(3, _), (5, _), (6, _), (7, _), (8, _)] ⟨rfl, rfl, rfl, rfl, rfl, trivial⟩ ?_)
    | (refine ok_region (i := 5) ?_; refine ok_p rfl rfl rfl (by exact ps_move rfl rfl) ?_; refine ok_p rfl rfl rfl (by exact ps_move rfl rfl) ?_; refine ok_p rfl rfl rfl (by exact ps_int rfl rfl rfl rfl) ?_; refine ok_nil ?_; refine ok_env [(3, _), (5, _), (6, _), (7, _), (8, _), (14, _)] ⟨rfl, rfl, rfl, rfl, rfl, rfl, trivial⟩ ?_)
    | (refine ok_region (i := 6) ?_; refine ok_p rfl rfl rfl (by exact ps_move rfl rfl) ?_; refine ok_p rfl rfl rfl (by exact ps_assign rfl rfl) ?_; refine ok_nil ?_; refine ok_env [(2, _)] ⟨rfl, trivial⟩ ?_)
    | (refine ok_region (i := 7) ?_; refine ok_p rfl rfl rfl (by exact ps_add rfl rfl rfl (by omega)) ?_; refine ok_p rfl rfl rfl (by exact ps_move rfl rfl) ?_; refine ok_nil ?_; refine ok_env [(3, _), (6, _), (7, _), (8, _)] ⟨rfl, rfl, rfl, rfl, trivial⟩ ?_)
    | (refine ok_region (i := 8) ?_; refine ok_p rfl rfl rfl (by exact ps_move rfl rfl) ?_; refine ok_p rfl rfl rfl (by exact ps_assign rfl rfl) ?_; refine ok_nil ?_; refine ok_env [(2, _)] ⟨rfl, trivial⟩ ?_))
  · have e : or2 a b = nth [a, b] k := by
      unfold or2
      have : k = 0 ∨ k = 1 := by omega
      rcases this with rfl | rfl
      · rw [n0] at hd ⊢; rw [if_pos hd]
      · rw [n1] at hd ⊢; rw [if_neg (by have := k1 (by omega); simp [this])]
    rw [e]
    exact ok_endL (vs := [_]) rfl ⟨rfl, trivial⟩ (fun w hw => ⟨rfl, hw.below⟩)
  · have hd : nth [a, b] k = 0 := by simpa using hc
    exact fun ac w he hw => ⟨⟨k + 1, by omega, fun _ => by
      have : k = 0 ∨ k = 1 := by omega
      rcases this with rfl | rfl
      · rw [n0] at hd; exact hd
      · exact k1 (by omega), fun h => by
      obtain rfl : k = 1 := by omega
      rw [n1] at hd; exact hd⟩, by simp only; omega, he.sub ⟨rfl, rfl, rfl, rfl, trivial⟩, hw⟩
  · have e : or2 a b = 0 := by
      unfold or2
      rw [k1 (by omega), k2 (by omega)]; rfl
    rw [e]
    exact ok_endL (vs := [_]) rfl ⟨rfl, trivial⟩ (fun w hw => ⟨rfl, hw.below⟩)
theorem compareEnts_c (a b : Ent) (w : World) : Calls Try.prog 205 #[.agg (Dat.cells a).toArray, .agg (Dat.cells b).toArray] w fun e w' => e = .returned (.int .i64 (cmpE a b)) ∧ Below w.heap.size w w' := by
  refine ok_enter 17 Try.func205 rfl rfl rfl ?_
  repeat' (first
    | refine ok_seq ?_
    | refine ok_then ?_
    | refine ok_ret ?_
    | (refine ok_region (i := 0) ?_; refine ok_m rfl rfl rfl (by exact ms_box rfl rfl rfl) ?_; rintro y2 hy2; refine ok_m rfl rfl rfl (by exact ms_box rfl rfl rfl) ?_; rintro y3 hy3; refine ok_p rfl rfl rfl (by exact ps_assign rfl rfl) ?_; refine ok_nil ?_; refine ok_env [(2, _), (3, _)] ⟨rfl, rfl, trivial⟩ ?_)
    | (refine ok_draw (id := 1) 13 rfl (by kernel_rfl) (by kernel_rfl) rfl (by repeat (first | exact pq_body | refine pq_then ?_ | refine pq_in ?_)) [0, 1, 2, 3, 4, 5, 6, 7, 8, 9, 10, 11, 12, 13, 14, 15, 16, 17, 18, 19, 20, 21, 22, 23] (by decide) rfl ?_; refine okT_take (i := 0) rfl (by kernel_rfl) rfl rfl rfl (by exact ps_field rfl rfl (by exact isw_ga _)) ?_; refine okT_take (i := 1) rfl (by kernel_rfl) rfl rfl rfl (by exact ps_load rfl rfl (by exact Rds.cell (rds_box 1 rfl) rfl)) ?_; refine okT_take (i := 2) rfl (by kernel_rfl) rfl rfl rfl (by exact ps_field rfl rfl (by exact isw_ga _)) ?_; refine okT_take (i := 3) rfl (by kernel_rfl) rfl rfl rfl (by exact ps_load rfl rfl (by exact Rds.cell (rds_box 0 rfl) rfl)) ?_; refine okT_take (i := 5) rfl (by kernel_rfl) rfl rfl rfl (by exact ps_field rfl rfl (by exact isw_ga _)) ?_; refine okT_take (i := 6) rfl (by kernel_rfl) rfl rfl rfl (by exact ps_load rfl rfl (by exact Rds.cell (rds_box 0 rfl) rfl)) ?_; refine okT_take (i := 7) rfl (by kernel_rfl) rfl rfl rfl (by exact ps_field rfl rfl (by exact isw_ga _)) ?_; refine okT_take (i := 8) rfl (by kernel_rfl) rfl rfl rfl (by exact ps_load rfl rfl (by exact Rds.cell (rds_box 1 rfl) rfl)) ?_; refine okT_one (i := 4) rfl rfl (by kernel_rfl) rfl rfl rfl (by exact ms_s2 rfl rfl rfl (fun _ _ w hw => cmpT_c _ _ w)) (fun y w _ h => by exact h) ?_; rintro y9 hy9; refine okT_one (i := 9) rfl rfl (by kernel_rfl) rfl rfl rfl (by exact ms_s2 rfl rfl rfl (fun _ _ w hw => cmpI_c _ _ w)) (fun y w _ h => by exact h) ?_; rintro y14 hy14; refine okT_one (i := 10) rfl rfl (by kernel_rfl) rfl rfl rfl (by exact ms_lit rfl (parts_cons rfl (parts_cons rfl parts_nil)) rfl rfl rfl) (fun y w _ h => by exact h.tl) ?_; rintro y15 hy15; refine okT_one (i := 11) rfl rfl (by kernel_rfl) rfl rfl rfl (by exact ms_s1 rfl rfl (fun _ _ w hw => or_c _ _ (cmpT a.key b.key) (cmpI b.seq a.seq) w (rds_row 0 rfl _ _ w hw))) (fun y w _ h => by exact h.tl) ?_; rintro y16 hy16; refine okT_take (i := 12) rfl (by kernel_rfl) rfl rfl rfl (by exact ps_assign rfl rfl) ?_; refine okT_done (by kernel_rfl) ?_; refine ok_nil ?_; refine ok_env [(4, _)] ⟨rfl, trivial⟩ ?_))
  exact ok_endL (vs := [_]) rfl ⟨rfl, trivial⟩ (fun w hw => ⟨rfl, hw.below⟩)
theorem inOrder_c (A : Option Addr) (c : Nat) (l : List Ent) (w : World) (h : Rd w A (fl l)) (hl : l.length ≤ 4194304) : Calls Try.prog 202 #[.slice A l.length c] w fun e w' => e = .returned (.bool (inOrd l)) ∧ Below w.heap.size w w' := by
  refine ok_enter 30 Try.func202 rfl rfl rfl ?_
  repeat' (first
    | refine ok_seq ?_
    | refine ok_then ?_
    | refine ok_block ?_
    | (refine ok_region (i := 0) ?_; refine ok_p rfl rfl rfl (by exact ps_assign rfl rfl) ?_; refine ok_nil ?_; refine ok_env [(0, _)] ⟨rfl, trivial⟩ ?_)
    | (refine ok_region (i := 1) ?_; refine ok_p rfl rfl rfl (by exact ps_move rfl rfl) ?_; refine ok_p rfl rfl rfl (by exact ps_len rfl rfl) ?_; refine ok_p rfl rfl rfl (by exact ps_move rfl rfl) ?_; refine ok_nil ?_; refine ok_env [(0, _), (5, _), (6, _), (7, _)] ⟨rfl, rfl, rfl, rfl, trivial⟩ ?_))
  refine ok_loop (ι := { k : Nat // k ≤ l.length ∧ ∀ j, j < k → ordE l j = true }) (fun k => l.length - k.1) (fun k => ([(0, .slice A l.length c), (5, .slice A l.length c), (6, .int .i64 l.length), (7, .int .i64 k.1)], [], _)) ⟨0, by omega, fun j h => absurd h (Nat.not_lt_zero j)⟩ (fun a w he hw => ⟨⟨0, by omega, fun j h => absurd h (Nat.not_lt_zero j)⟩, he.sub ⟨rfl, rfl, rfl, rfl, trivial⟩, hw⟩) ?_
  rintro ⟨k, hk, hok⟩
  simp only at hk hok ⊢
  have HO := Lib.hid hok; clear hok
  repeat' (first
    | refine ok_seq ?_
    | refine ok_then ?_
    | refine ok_then_ret ?_
    | refine ok_block ?_
    | refine ok_in_normal ?_
    | refine ok_in_ret ?_
    | (refine ok_cond rfl (fun hc => ?_) (fun hc => ?_) <;> (have hd := hc; (try simp only [decide_eq_true_eq, decide_eq_false_iff_not, Bool.or_eq_true, Bool.or_eq_false_iff, Bool.and_eq_true, Bool.and_eq_false_iff, Bool.not_eq_true', Bool.not_eq_false', bne_iff_ne, beq_iff_eq, bne_eq_false_iff_eq, beq_eq_false_iff_ne, ne_eq, Bool.not_true, Bool.not_false, Bool.false_eq_true, Bool.true_eq_false, inB_true, inB_false] at hd)))
    | refine ok_ret ?_
    | refine ok_exit ?_
    | refine ok_skip ?_
    | (refine ok_region (i := 2) ?_; refine ok_p rfl rfl rfl (by exact ps_int rfl rfl rfl rfl) ?_; refine ok_nil ?_; refine ok_env [(0, _), (5, _), (6, _), (7, _), (8, _)] ⟨rfl, rfl, rfl, rfl, rfl, trivial⟩ ?_)
    | (refine ok_region (i := 3) ?_; refine ok_p rfl rfl rfl (by exact ps_move rfl rfl) ?_; refine ok_p rfl rfl rfl (by exact ps_indexN rfl rfl rfl (by omega) (by exact isw_of (isS_fl (by assumption) (by omega)))) ?_; refine ok_p rfl rfl rfl (by exact ps_loadsF rfl rfl (by exact rds_rf (by assumption) (by exact List.mem_cons_self)) (by rfl) (by rfl) (by omega) rfl) ?_; refine ok_m rfl rfl rfl (by exact ms_alloc rfl) ?_; rintro y4 hy4; refine ok_p rfl rfl rfl (by exact ps_assign rfl rfl) ?_; refine ok_m_ rfl rfl (by exact ms_store 0 rfl rfl rfl rfl rfl rfl rfl rfl) ?_; rintro y_ hy_; refine ok_nil ?_; refine ok_env [(0, _), (3, _), (4, _), (5, _), (6, _), (7, _)] ⟨rfl, rfl, rfl, rfl, rfl, rfl, trivial⟩ ?_)
    | (refine ok_draw (id := 4) 17 rfl (by kernel_rfl) (by kernel_rfl) rfl (by repeat (first | exact pq_body | refine pq_then ?_ | refine pq_in ?_)) [0, 1, 2, 3, 4, 5, 6, 7, 8, 9, 10, 11, 12, 13, 14, 15, 16, 17, 18, 19, 20, 21, 22, 23] (by decide) rfl ?_; refine okT_take (i := 0) rfl (by kernel_rfl) rfl rfl rfl (by exact ps_loads rfl rfl (by exact rds_box 0 rfl) rfl rfl (by decide)) ?_; refine okT_one (i := 1) rfl rfl (by kernel_rfl) rfl rfl rfl (by exact ms_s1 rfl rfl (fun _ _ w hw => entOk_c (nth l k) w)) (fun y w _ h => by exact h) ?_; rintro y13 hy13; refine okT_take (i := 2) rfl (by kernel_rfl) rfl rfl rfl (by exact ps_not rfl rfl) ?_; refine okT_take (i := 3) rfl (by kernel_rfl) rfl rfl rfl (by exact ps_move rfl rfl) ?_; refine okT_take_g1 (i := 4) rfl (by kernel_rfl) rfl rfl rfl rfl rfl (gF _) (fun hp => by (have hpd := hp; (try simp only [decide_eq_true_eq, decide_eq_false_iff_not, Bool.or_eq_true, Bool.or_eq_false_iff, Bool.and_eq_true, Bool.and_eq_false_iff, Bool.not_eq_true', Bool.not_eq_false', bne_iff_ne, beq_iff_eq, bne_eq_false_iff_eq, beq_eq_false_iff_ne, ne_eq, Bool.not_true, Bool.not_false, Bool.false_eq_true, Bool.true_eq_false, inB_true, inB_false] at hpd); exact ps_move rfl (by exact rfl))) ?_; refine okT_take_g1 (i := 5) rfl (by kernel_rfl) rfl rfl rfl rfl rfl (gF _) (fun hp => by (have hpd := hp; (try simp only [decide_eq_true_eq, decide_eq_false_iff_not, Bool.or_eq_true, Bool.or_eq_false_iff, Bool.and_eq_true, Bool.and_eq_false_iff, Bool.not_eq_true', Bool.not_eq_false', bne_iff_ne, beq_iff_eq, bne_eq_false_iff_eq, beq_eq_false_iff_ne, ne_eq, Bool.not_true, Bool.not_false, Bool.false_eq_true, Bool.true_eq_false, inB_true, inB_false] at hpd); exact ps_int rfl (by (refine og rfl ?_; assumption)) (by exact rfl) rfl)) ?_; refine okT_take_g1 (i := 6) rfl (by kernel_rfl) rfl rfl rfl rfl rfl (gF _) (fun hp => by (have hpd := hp; (try simp only [decide_eq_true_eq, decide_eq_false_iff_not, Bool.or_eq_true, Bool.or_eq_false_iff, Bool.and_eq_true, Bool.and_eq_false_iff, Bool.not_eq_true', Bool.not_eq_false', bne_iff_ne, beq_iff_eq, bne_eq_false_iff_eq, beq_eq_false_iff_ne, ne_eq, Bool.not_true, Bool.not_false, Bool.false_eq_true, Bool.true_eq_false, inB_true, inB_false] at hpd); exact ps_move rfl (by (refine og rfl ?_; assumption)))) ?_; refine okT_take_g (i := 7) rfl (by kernel_rfl) rfl rfl rfl rfl rfl (gT _) (fun hq hp hqp => by (have hqd := hq; (try simp only [decide_eq_true_eq, decide_eq_false_iff_not, Bool.or_eq_true, Bool.or_eq_false_iff, Bool.and_eq_true, Bool.and_eq_false_iff, Bool.not_eq_true', Bool.not_eq_false', bne_iff_ne, beq_iff_eq, bne_eq_false_iff_eq, beq_eq_false_iff_ne, ne_eq, Bool.not_true, Bool.not_false, Bool.false_eq_true, Bool.true_eq_false, inB_true, inB_false] at hqd); have hpd := hp; (try simp only [decide_eq_true_eq, decide_eq_false_iff_not, Bool.or_eq_true, Bool.or_eq_false_iff, Bool.and_eq_true, Bool.and_eq_false_iff, Bool.not_eq_true', Bool.not_eq_false', bne_iff_ne, beq_iff_eq, bne_eq_false_iff_eq, beq_eq_false_iff_ne, ne_eq, Bool.not_true, Bool.not_false, Bool.false_eq_true, Bool.true_eq_false, inB_true, inB_false] at hpd); exact ps_move rfl (by exact rfl))) ?_; refine okT_take_g (i := 8) rfl (by kernel_rfl) rfl rfl rfl rfl rfl (gT _) (fun hq hp hqp => by (have hqd := hq; (try simp only [decide_eq_true_eq, decide_eq_false_iff_not, Bool.or_eq_true, Bool.or_eq_false_iff, Bool.and_eq_true, Bool.and_eq_false_iff, Bool.not_eq_true', Bool.not_eq_false', bne_iff_ne, beq_iff_eq, bne_eq_false_iff_eq, beq_eq_false_iff_ne, ne_eq, Bool.not_true, Bool.not_false, Bool.false_eq_true, Bool.true_eq_false, inB_true, inB_false] at hqd); have hpd := hp; (try simp only [decide_eq_true_eq, decide_eq_false_iff_not, Bool.or_eq_true, Bool.or_eq_false_iff, Bool.and_eq_true, Bool.and_eq_false_iff, Bool.not_eq_true', Bool.not_eq_false', bne_iff_ne, beq_iff_eq, bne_eq_false_iff_eq, beq_eq_false_iff_ne, ne_eq, Bool.not_true, Bool.not_false, Bool.false_eq_true, Bool.true_eq_false, inB_true, inB_false] at hpd); exact ps_move rfl (by exact rfl))) ?_; refine okT_take_g (i := 9) rfl (by kernel_rfl) rfl rfl rfl rfl rfl (gT _) (fun hq hp hqp => by (have hqd := hq; (try simp only [decide_eq_true_eq, decide_eq_false_iff_not, Bool.or_eq_true, Bool.or_eq_false_iff, Bool.and_eq_true, Bool.and_eq_false_iff, Bool.not_eq_true', Bool.not_eq_false', bne_iff_ne, beq_iff_eq, bne_eq_false_iff_eq, beq_eq_false_iff_ne, ne_eq, Bool.not_true, Bool.not_false, Bool.false_eq_true, Bool.true_eq_false, inB_true, inB_false] at hqd); have hpd := hp; (try simp only [decide_eq_true_eq, decide_eq_false_iff_not, Bool.or_eq_true, Bool.or_eq_false_iff, Bool.and_eq_true, Bool.and_eq_false_iff, Bool.not_eq_true', Bool.not_eq_false', bne_iff_ne, beq_iff_eq, bne_eq_false_iff_eq, beq_eq_false_iff_ne, ne_eq, Bool.not_true, Bool.not_false, Bool.false_eq_true, Bool.true_eq_false, inB_true, inB_false] at hpd); exact ps_sub rfl (by (refine og rfl ?_; assumption)) (by exact rfl) (by omega))) ?_; refine okT_take_g (i := 10) rfl (by kernel_rfl) rfl rfl rfl rfl rfl (gT _) (fun hq hp hqp => by (have hqd := hq; (try simp only [decide_eq_true_eq, decide_eq_false_iff_not, Bool.or_eq_true, Bool.or_eq_false_iff, Bool.and_eq_true, Bool.and_eq_false_iff, Bool.not_eq_true', Bool.not_eq_false', bne_iff_ne, beq_iff_eq, bne_eq_false_iff_eq, beq_eq_false_iff_ne, ne_eq, Bool.not_true, Bool.not_false, Bool.false_eq_true, Bool.true_eq_false, inB_true, inB_false] at hqd); have hpd := hp; (try simp only [decide_eq_true_eq, decide_eq_false_iff_not, Bool.or_eq_true, Bool.or_eq_false_iff, Bool.and_eq_true, Bool.and_eq_false_iff, Bool.not_eq_true', Bool.not_eq_false', bne_iff_ne, beq_iff_eq, bne_eq_false_iff_eq, beq_eq_false_iff_ne, ne_eq, Bool.not_true, Bool.not_false, Bool.false_eq_true, Bool.true_eq_false, inB_true, inB_false] at hpd); exact ps_index rfl (by (refine og rfl ?_; assumption)) (by (refine og rfl ?_; assumption)) (by omega) (by exact isw_of (isS_fl (by assumption) (by omega))))) ?_; refine okT_take_g (i := 11) rfl (by kernel_rfl) rfl rfl rfl rfl rfl (gT _) (fun hq hp hqp => by (have hqd := hq; (try simp only [decide_eq_true_eq, decide_eq_false_iff_not, Bool.or_eq_true, Bool.or_eq_false_iff, Bool.and_eq_true, Bool.and_eq_false_iff, Bool.not_eq_true', Bool.not_eq_false', bne_iff_ne, beq_iff_eq, bne_eq_false_iff_eq, beq_eq_false_iff_ne, ne_eq, Bool.not_true, Bool.not_false, Bool.false_eq_true, Bool.true_eq_false, inB_true, inB_false] at hqd); have hpd := hp; (try simp only [decide_eq_true_eq, decide_eq_false_iff_not, Bool.or_eq_true, Bool.or_eq_false_iff, Bool.and_eq_true, Bool.and_eq_false_iff, Bool.not_eq_true', Bool.not_eq_false', bne_iff_ne, beq_iff_eq, bne_eq_false_iff_eq, beq_eq_false_iff_ne, ne_eq, Bool.not_true, Bool.not_false, Bool.false_eq_true, Bool.true_eq_false, inB_true, inB_false] at hpd); exact ps_loadsF rfl (by (refine og rfl ?_; assumption)) (by exact rds_rf (by assumption) (by exact List.mem_cons_self)) (by rfl) (by rfl) (by omega) rfl)) ?_; refine okT_take_g (i := 12) rfl (by kernel_rfl) rfl rfl rfl rfl rfl (gT _) (fun hq hp hqp => by (have hqd := hq; (try simp only [decide_eq_true_eq, decide_eq_false_iff_not, Bool.or_eq_true, Bool.or_eq_false_iff, Bool.and_eq_true, Bool.and_eq_false_iff, Bool.not_eq_true', Bool.not_eq_false', bne_iff_ne, beq_iff_eq, bne_eq_false_iff_eq, beq_eq_false_iff_ne, ne_eq, Bool.not_true, Bool.not_false, Bool.false_eq_true, Bool.true_eq_false, inB_true, inB_false] at hqd); have hpd := hp; (try simp only [decide_eq_true_eq, decide_eq_false_iff_not, Bool.or_eq_true, Bool.or_eq_false_iff, Bool.and_eq_true, Bool.and_eq_false_iff, Bool.not_eq_true', Bool.not_eq_false', bne_iff_ne, beq_iff_eq, bne_eq_false_iff_eq, beq_eq_false_iff_ne, ne_eq, Bool.not_true, Bool.not_false, Bool.false_eq_true, Bool.true_eq_false, inB_true, inB_false] at hpd); exact ps_loads rfl (by exact rfl) (by exact rds_box 0 rfl) rfl rfl (by decide))) ?_; refine okT_one_g (i := 13) rfl rfl (by kernel_rfl) rfl rfl rfl rfl rfl (gT _) (fun hq hp hqp => by (have hqd := hq; (try simp only [decide_eq_true_eq, decide_eq_false_iff_not, Bool.or_eq_true, Bool.or_eq_false_iff, Bool.and_eq_true, Bool.and_eq_false_iff, Bool.not_eq_true', Bool.not_eq_false', bne_iff_ne, beq_iff_eq, bne_eq_false_iff_eq, beq_eq_false_iff_ne, ne_eq, Bool.not_true, Bool.not_false, Bool.false_eq_true, Bool.true_eq_false, inB_true, inB_false] at hqd); have hpd := hp; (try simp only [decide_eq_true_eq, decide_eq_false_iff_not, Bool.or_eq_true, Bool.or_eq_false_iff, Bool.and_eq_true, Bool.and_eq_false_iff, Bool.not_eq_true', Bool.not_eq_false', bne_iff_ne, beq_iff_eq, bne_eq_false_iff_eq, beq_eq_false_iff_ne, ne_eq, Bool.not_true, Bool.not_false, Bool.false_eq_true, Bool.true_eq_false, inB_true, inB_false] at hpd); exact ms_s2 rfl (by (refine og rfl ?_; assumption)) (by (refine og rfl ?_; assumption)) (fun _ _ w hw => compareEnts_c (nth l ((k : Int) - 1).toNat) (nth l k) w))) (fun w h => by exact h) ?_; refine okT_take_g (i := 14) rfl (by kernel_rfl) rfl rfl rfl rfl rfl (gT _) (fun hq hp hqp => by (have hqd := hq; (try simp only [decide_eq_true_eq, decide_eq_false_iff_not, Bool.or_eq_true, Bool.or_eq_false_iff, Bool.and_eq_true, Bool.and_eq_false_iff, Bool.not_eq_true', Bool.not_eq_false', bne_iff_ne, beq_iff_eq, bne_eq_false_iff_eq, beq_eq_false_iff_ne, ne_eq, Bool.not_true, Bool.not_false, Bool.false_eq_true, Bool.true_eq_false, inB_true, inB_false] at hqd); have hpd := hp; (try simp only [decide_eq_true_eq, decide_eq_false_iff_not, Bool.or_eq_true, Bool.or_eq_false_iff, Bool.and_eq_true, Bool.and_eq_false_iff, Bool.not_eq_true', Bool.not_eq_false', bne_iff_ne, beq_iff_eq, bne_eq_false_iff_eq, beq_eq_false_iff_ne, ne_eq, Bool.not_true, Bool.not_false, Bool.false_eq_true, Bool.true_eq_false, inB_true, inB_false] at hpd); exact ps_int rfl (by (refine og rfl ?_; assumption)) (by exact rfl) rfl)) ?_; refine okT_take_g1 (i := 15) rfl (by kernel_rfl) rfl rfl rfl rfl rfl (gF _) (fun hp => by (have hpd := hp; (try simp only [decide_eq_true_eq, decide_eq_false_iff_not, Bool.or_eq_true, Bool.or_eq_false_iff, Bool.and_eq_true, Bool.and_eq_false_iff, Bool.not_eq_true', Bool.not_eq_false', bne_iff_ne, beq_iff_eq, bne_eq_false_iff_eq, beq_eq_false_iff_ne, ne_eq, Bool.not_true, Bool.not_false, Bool.false_eq_true, Bool.true_eq_false, inB_true, inB_false] at hpd); exact ps_and_in (by assumption) rfl rfl rfl)) ?_; refine okT_take (i := 16) rfl (by kernel_rfl) rfl rfl rfl (by exact ps_or rfl rfl rfl) ?_; refine okT_done (by kernel_rfl) ?_; refine ok_nil ?_; refine ok_env [(0, _), (5, _), (6, _), (7, _), (28, _)] ⟨rfl, rfl, rfl, rfl, rfl, trivial⟩ ?_)
    | (refine ok_region (i := 5) ?_; refine ok_p rfl rfl rfl (by exact ps_assign rfl rfl) ?_; refine ok_nil ?_; refine ok_env [(2, _)] ⟨rfl, trivial⟩ ?_)
    | (refine ok_region (i := 6) ?_; refine ok_p rfl rfl rfl (by exact ps_add rfl rfl rfl (by omega)) ?_; refine ok_p rfl rfl rfl (by exact ps_move rfl rfl) ?_; refine ok_nil ?_; refine ok_env [(0, _), (5, _), (6, _), (7, _)] ⟨rfl, rfl, rfl, rfl, trivial⟩ ?_)
    | (refine ok_region (i := 7) ?_; refine ok_p rfl rfl rfl (by exact ps_assign rfl rfl) ?_; refine ok_nil ?_; refine ok_env [(2, _)] ⟨rfl, trivial⟩ ?_))
  all_goals try rw [tn1, cmpE_ahead] at hc
  · have e := all_false (p := ordE l) (show k < l.length by omega) (by unfold ordE; rw [hc]; rfl)
    exact ok_endL (vs := [_]) rfl ⟨rfl, trivial⟩ (fun w' hw => ⟨by rw [inOrd, e]; rfl, hw.below⟩)
  · have e : ordE l k = true := by unfold ordE; rw [hc]; rfl
    exact fun a w' he hw => ⟨⟨k + 1, by omega, fun j hj => by
      rcases Nat.lt_succ_iff_lt_or_eq.1 hj with h' | h'
      · exact HO.out j h'
      · subst h'; exact e⟩, by simp only; omega, he.sub ⟨rfl, rfl, rfl, rfl, trivial⟩, hw.tl⟩
  · obtain rfl : k = l.length := by omega
    have e := all_true (p := ordE l) (n := l.length) (fun i hi => HO.out i hi)
    exact ok_endL (vs := [_]) rfl ⟨rfl, trivial⟩ (fun w' hw => ⟨by rw [inOrd, e]; rfl, hw.below⟩)
theorem l9Ents_c (A : Option Addr) (c : Nat) (l : List Ent) (w : World) (h : Rd w A (fl l)) (hl : l.length ≤ 4194304) : Calls Try.prog 103 #[.slice A l.length c] w fun e w' => e = .returned (.bool (inOrd l)) ∧ Below w.heap.size w w' := by
  refine ok_enter 33 Try.func103 rfl rfl rfl ?_
  repeat' (first
    | refine ok_seq ?_
    | refine ok_then ?_
    | refine ok_block ?_
    | (refine ok_region (i := 0) ?_; refine ok_p rfl rfl rfl (by exact ps_assign rfl rfl) ?_; refine ok_nil ?_; refine ok_env [(0, _)] ⟨rfl, trivial⟩ ?_)
    | (refine ok_region (i := 1) ?_; refine ok_p rfl rfl rfl (by exact ps_assign rfl rfl) ?_; refine ok_nil ?_; refine ok_env [(0, _), (3, _)] ⟨rfl, rfl, trivial⟩ ?_))
  refine ok_loop (ι := { k : Nat // k ≤ l.length ∧ ∀ j, j < k → ordE l j = true }) (fun k => l.length - k.1) (fun k => ([(0, .slice A l.length c), (3, .int .i64 k.1)], [], _)) ⟨0, by omega, fun j h => absurd h (Nat.not_lt_zero j)⟩ (fun a w he hw => ⟨⟨0, by omega, fun j h => absurd h (Nat.not_lt_zero j)⟩, he.sub ⟨rfl, rfl, trivial⟩, hw⟩) ?_
  rintro ⟨k, hk, hok⟩
  simp only at hk hok ⊢
  have HO := Lib.hid hok; clear hok
  repeat' (first
    | refine ok_seq ?_
    | refine ok_then ?_
    | refine ok_then_ret ?_
    | refine ok_block ?_
    | refine ok_in_normal ?_
    | refine ok_in_ret ?_
    | (refine ok_cond rfl (fun hc => ?_) (fun hc => ?_) <;> (have hd := hc; (try simp only [decide_eq_true_eq, decide_eq_false_iff_not, Bool.or_eq_true, Bool.or_eq_false_iff, Bool.and_eq_true, Bool.and_eq_false_iff, Bool.not_eq_true', Bool.not_eq_false', bne_iff_ne, beq_iff_eq, bne_eq_false_iff_eq, beq_eq_false_iff_ne, ne_eq, Bool.not_true, Bool.not_false, Bool.false_eq_true, Bool.true_eq_false, inB_true, inB_false] at hd)))
    | refine ok_ret ?_
    | refine ok_exit ?_
    | refine ok_skip ?_
    | (refine ok_region (i := 2) ?_; refine ok_p rfl rfl rfl (by exact ps_move rfl rfl) ?_; refine ok_p rfl rfl rfl (by exact ps_move rfl rfl) ?_; refine ok_p rfl rfl rfl (by exact ps_len rfl rfl) ?_; refine ok_p rfl rfl rfl (by exact ps_int rfl rfl rfl rfl) ?_; refine ok_nil ?_; refine ok_env [(0, _), (3, _), (7, _)] ⟨rfl, rfl, rfl, trivial⟩ ?_)
    | (refine ok_region (i := 3) ?_; refine ok_p rfl rfl rfl (by exact ps_move rfl rfl) ?_; refine ok_p rfl rfl rfl (by exact ps_add rfl rfl rfl (by omega)) ?_; refine ok_p rfl rfl rfl (by exact ps_assign rfl rfl) ?_; refine ok_nil ?_; refine ok_env [(0, _), (3, _)] ⟨rfl, rfl, trivial⟩ ?_)
    | (refine ok_draw (id := 4) 23 rfl (by kernel_rfl) (by kernel_rfl) rfl (by repeat (first | exact pq_body | refine pq_then ?_ | refine pq_in ?_)) [0, 1, 2, 3, 4, 5, 6, 7, 8, 9, 10, 11, 12, 13, 14, 15, 16, 17, 18, 19, 20, 21, 22, 23] (by decide) rfl ?_; refine okT_take (i := 0) rfl (by kernel_rfl) rfl rfl rfl (by exact ps_move rfl rfl) ?_; refine okT_take (i := 1) rfl (by kernel_rfl) rfl rfl rfl (by exact ps_move rfl rfl) ?_; refine okT_take (i := 2) rfl (by kernel_rfl) rfl rfl rfl (by exact ps_indexN rfl rfl rfl (by omega) (by exact isw_of (isS_fl (by assumption) (by omega)))) ?_; refine okT_take (i := 3) rfl (by kernel_rfl) rfl rfl rfl (by exact ps_loadsF rfl rfl (by exact rds_rf (by assumption) (by exact List.mem_cons_self)) (by rfl) (by rfl) (by omega) rfl) ?_; refine okT_one (i := 4) rfl rfl (by kernel_rfl) rfl rfl rfl (by exact ms_s1 rfl rfl (fun _ _ w hw => l9Ent_c (nth l k) w)) (fun y w _ h => by exact h) ?_; rintro y14 hy14; refine okT_take (i := 5) rfl (by kernel_rfl) rfl rfl rfl (by exact ps_not rfl rfl) ?_; refine okT_take (i := 6) rfl (by kernel_rfl) rfl rfl rfl (by exact ps_move rfl rfl) ?_; refine okT_take_g1 (i := 7) rfl (by kernel_rfl) rfl rfl rfl rfl rfl (gF _) (fun hp => by (have hpd := hp; (try simp only [decide_eq_true_eq, decide_eq_false_iff_not, Bool.or_eq_true, Bool.or_eq_false_iff, Bool.and_eq_true, Bool.and_eq_false_iff, Bool.not_eq_true', Bool.not_eq_false', bne_iff_ne, beq_iff_eq, bne_eq_false_iff_eq, beq_eq_false_iff_ne, ne_eq, Bool.not_true, Bool.not_false, Bool.false_eq_true, Bool.true_eq_false, inB_true, inB_false] at hpd); exact ps_move rfl (by exact rfl))) ?_; refine okT_take_g1 (i := 8) rfl (by kernel_rfl) rfl rfl rfl rfl rfl (gF _) (fun hp => by (have hpd := hp; (try simp only [decide_eq_true_eq, decide_eq_false_iff_not, Bool.or_eq_true, Bool.or_eq_false_iff, Bool.and_eq_true, Bool.and_eq_false_iff, Bool.not_eq_true', Bool.not_eq_false', bne_iff_ne, beq_iff_eq, bne_eq_false_iff_eq, beq_eq_false_iff_ne, ne_eq, Bool.not_true, Bool.not_false, Bool.false_eq_true, Bool.true_eq_false, inB_true, inB_false] at hpd); exact ps_int rfl (by (refine og rfl ?_; assumption)) (by exact rfl) rfl)) ?_; refine okT_take_g1 (i := 9) rfl (by kernel_rfl) rfl rfl rfl rfl rfl (gF _) (fun hp => by (have hpd := hp; (try simp only [decide_eq_true_eq, decide_eq_false_iff_not, Bool.or_eq_true, Bool.or_eq_false_iff, Bool.and_eq_true, Bool.and_eq_false_iff, Bool.not_eq_true', Bool.not_eq_false', bne_iff_ne, beq_iff_eq, bne_eq_false_iff_eq, beq_eq_false_iff_ne, ne_eq, Bool.not_true, Bool.not_false, Bool.false_eq_true, Bool.true_eq_false, inB_true, inB_false] at hpd); exact ps_move rfl (by (refine og rfl ?_; assumption)))) ?_; refine okT_take_g (i := 10) rfl (by kernel_rfl) rfl rfl rfl rfl rfl (gT _) (fun hq hp hqp => by (have hqd := hq; (try simp only [decide_eq_true_eq, decide_eq_false_iff_not, Bool.or_eq_true, Bool.or_eq_false_iff, Bool.and_eq_true, Bool.and_eq_false_iff, Bool.not_eq_true', Bool.not_eq_false', bne_iff_ne, beq_iff_eq, bne_eq_false_iff_eq, beq_eq_false_iff_ne, ne_eq, Bool.not_true, Bool.not_false, Bool.false_eq_true, Bool.true_eq_false, inB_true, inB_false] at hqd); have hpd := hp; (try simp only [decide_eq_true_eq, decide_eq_false_iff_not, Bool.or_eq_true, Bool.or_eq_false_iff, Bool.and_eq_true, Bool.and_eq_false_iff, Bool.not_eq_true', Bool.not_eq_false', bne_iff_ne, beq_iff_eq, bne_eq_false_iff_eq, beq_eq_false_iff_ne, ne_eq, Bool.not_true, Bool.not_false, Bool.false_eq_true, Bool.true_eq_false, inB_true, inB_false] at hpd); exact ps_move rfl (by exact rfl))) ?_; refine okT_take_g (i := 11) rfl (by kernel_rfl) rfl rfl rfl rfl rfl (gT _) (fun hq hp hqp => by (have hqd := hq; (try simp only [decide_eq_true_eq, decide_eq_false_iff_not, Bool.or_eq_true, Bool.or_eq_false_iff, Bool.and_eq_true, Bool.and_eq_false_iff, Bool.not_eq_true', Bool.not_eq_false', bne_iff_ne, beq_iff_eq, bne_eq_false_iff_eq, beq_eq_false_iff_ne, ne_eq, Bool.not_true, Bool.not_false, Bool.false_eq_true, Bool.true_eq_false, inB_true, inB_false] at hqd); have hpd := hp; (try simp only [decide_eq_true_eq, decide_eq_false_iff_not, Bool.or_eq_true, Bool.or_eq_false_iff, Bool.and_eq_true, Bool.and_eq_false_iff, Bool.not_eq_true', Bool.not_eq_false', bne_iff_ne, beq_iff_eq, bne_eq_false_iff_eq, beq_eq_false_iff_ne, ne_eq, Bool.not_true, Bool.not_false, Bool.false_eq_true, Bool.true_eq_false, inB_true, inB_false] at hpd); exact ps_move rfl (by exact rfl))) ?_; refine okT_take_g (i := 12) rfl (by kernel_rfl) rfl rfl rfl rfl rfl (gT _) (fun hq hp hqp => by (have hqd := hq; (try simp only [decide_eq_true_eq, decide_eq_false_iff_not, Bool.or_eq_true, Bool.or_eq_false_iff, Bool.and_eq_true, Bool.and_eq_false_iff, Bool.not_eq_true', Bool.not_eq_false', bne_iff_ne, beq_iff_eq, bne_eq_false_iff_eq, beq_eq_false_iff_ne, ne_eq, Bool.not_true, Bool.not_false, Bool.false_eq_true, Bool.true_eq_false, inB_true, inB_false] at hqd); have hpd := hp; (try simp only [decide_eq_true_eq, decide_eq_false_iff_not, Bool.or_eq_true, Bool.or_eq_false_iff, Bool.and_eq_true, Bool.and_eq_false_iff, Bool.not_eq_true', Bool.not_eq_false', bne_iff_ne, beq_iff_eq, bne_eq_false_iff_eq, beq_eq_false_iff_ne, ne_eq, Bool.not_true, Bool.not_false, Bool.false_eq_true, Bool.true_eq_false, inB_true, inB_false] at hpd); exact ps_sub rfl (by (refine og rfl ?_; assumption)) (by exact rfl) (by omega))) ?_; refine okT_take_g (i := 13) rfl (by kernel_rfl) rfl rfl rfl rfl rfl (gT _) (fun hq hp hqp => by (have hqd := hq; (try simp only [decide_eq_true_eq, decide_eq_false_iff_not, Bool.or_eq_true, Bool.or_eq_false_iff, Bool.and_eq_true, Bool.and_eq_false_iff, Bool.not_eq_true', Bool.not_eq_false', bne_iff_ne, beq_iff_eq, bne_eq_false_iff_eq, beq_eq_false_iff_ne, ne_eq, Bool.not_true, Bool.not_false, Bool.false_eq_true, Bool.true_eq_false, inB_true, inB_false] at hqd); have hpd := hp; (try simp only [decide_eq_true_eq, decide_eq_false_iff_not, Bool.or_eq_true, Bool.or_eq_false_iff, Bool.and_eq_true, Bool.and_eq_false_iff, Bool.not_eq_true', Bool.not_eq_false', bne_iff_ne, beq_iff_eq, bne_eq_false_iff_eq, beq_eq_false_iff_ne, ne_eq, Bool.not_true, Bool.not_false, Bool.false_eq_true, Bool.true_eq_false, inB_true, inB_false] at hpd); exact ps_index rfl (by (refine og rfl ?_; assumption)) (by (refine og rfl ?_; assumption)) (by omega) (by exact isw_of (isS_fl (by assumption) (by omega))))) ?_; refine okT_take_g (i := 14) rfl (by kernel_rfl) rfl rfl rfl rfl rfl (gT _) (fun hq hp hqp => by (have hqd := hq; (try simp only [decide_eq_true_eq, decide_eq_false_iff_not, Bool.or_eq_true, Bool.or_eq_false_iff, Bool.and_eq_true, Bool.and_eq_false_iff, Bool.not_eq_true', Bool.not_eq_false', bne_iff_ne, beq_iff_eq, bne_eq_false_iff_eq, beq_eq_false_iff_ne, ne_eq, Bool.not_true, Bool.not_false, Bool.false_eq_true, Bool.true_eq_false, inB_true, inB_false] at hqd); have hpd := hp; (try simp only [decide_eq_true_eq, decide_eq_false_iff_not, Bool.or_eq_true, Bool.or_eq_false_iff, Bool.and_eq_true, Bool.and_eq_false_iff, Bool.not_eq_true', Bool.not_eq_false', bne_iff_ne, beq_iff_eq, bne_eq_false_iff_eq, beq_eq_false_iff_ne, ne_eq, Bool.not_true, Bool.not_false, Bool.false_eq_true, Bool.true_eq_false, inB_true, inB_false] at hpd); exact ps_loadsF rfl (by (refine og rfl ?_; assumption)) (by exact rds_rf (by assumption) (by exact List.mem_cons_self)) (by rfl) (by rfl) (by omega) rfl)) ?_; refine okT_take_g (i := 15) rfl (by kernel_rfl) rfl rfl rfl rfl rfl (gT _) (fun hq hp hqp => by (have hqd := hq; (try simp only [decide_eq_true_eq, decide_eq_false_iff_not, Bool.or_eq_true, Bool.or_eq_false_iff, Bool.and_eq_true, Bool.and_eq_false_iff, Bool.not_eq_true', Bool.not_eq_false', bne_iff_ne, beq_iff_eq, bne_eq_false_iff_eq, beq_eq_false_iff_ne, ne_eq, Bool.not_true, Bool.not_false, Bool.false_eq_true, Bool.true_eq_false, inB_true, inB_false] at hqd); have hpd := hp; (try simp only [decide_eq_true_eq, decide_eq_false_iff_not, Bool.or_eq_true, Bool.or_eq_false_iff, Bool.and_eq_true, Bool.and_eq_false_iff, Bool.not_eq_true', Bool.not_eq_false', bne_iff_ne, beq_iff_eq, bne_eq_false_iff_eq, beq_eq_false_iff_ne, ne_eq, Bool.not_true, Bool.not_false, Bool.false_eq_true, Bool.true_eq_false, inB_true, inB_false] at hpd); exact ps_move rfl (by exact rfl))) ?_; refine okT_take_g (i := 16) rfl (by kernel_rfl) rfl rfl rfl rfl rfl (gT _) (fun hq hp hqp => by (have hqd := hq; (try simp only [decide_eq_true_eq, decide_eq_false_iff_not, Bool.or_eq_true, Bool.or_eq_false_iff, Bool.and_eq_true, Bool.and_eq_false_iff, Bool.not_eq_true', Bool.not_eq_false', bne_iff_ne, beq_iff_eq, bne_eq_false_iff_eq, beq_eq_false_iff_ne, ne_eq, Bool.not_true, Bool.not_false, Bool.false_eq_true, Bool.true_eq_false, inB_true, inB_false] at hqd); have hpd := hp; (try simp only [decide_eq_true_eq, decide_eq_false_iff_not, Bool.or_eq_true, Bool.or_eq_false_iff, Bool.and_eq_true, Bool.and_eq_false_iff, Bool.not_eq_true', Bool.not_eq_false', bne_iff_ne, beq_iff_eq, bne_eq_false_iff_eq, beq_eq_false_iff_ne, ne_eq, Bool.not_true, Bool.not_false, Bool.false_eq_true, Bool.true_eq_false, inB_true, inB_false] at hpd); exact ps_move rfl (by exact rfl))) ?_; refine okT_take_g (i := 17) rfl (by kernel_rfl) rfl rfl rfl rfl rfl (gT _) (fun hq hp hqp => by (have hqd := hq; (try simp only [decide_eq_true_eq, decide_eq_false_iff_not, Bool.or_eq_true, Bool.or_eq_false_iff, Bool.and_eq_true, Bool.and_eq_false_iff, Bool.not_eq_true', Bool.not_eq_false', bne_iff_ne, beq_iff_eq, bne_eq_false_iff_eq, beq_eq_false_iff_ne, ne_eq, Bool.not_true, Bool.not_false, Bool.false_eq_true, Bool.true_eq_false, inB_true, inB_false] at hqd); have hpd := hp; (try simp only [decide_eq_true_eq, decide_eq_false_iff_not, Bool.or_eq_true, Bool.or_eq_false_iff, Bool.and_eq_true, Bool.and_eq_false_iff, Bool.not_eq_true', Bool.not_eq_false', bne_iff_ne, beq_iff_eq, bne_eq_false_iff_eq, beq_eq_false_iff_ne, ne_eq, Bool.not_true, Bool.not_false, Bool.false_eq_true, Bool.true_eq_false, inB_true, inB_false] at hpd); exact ps_indexN rfl (by (refine og rfl ?_; assumption)) (by (refine og rfl ?_; assumption)) (by omega) (by exact isw_of (isS_fl (by assumption) (by omega))))) ?_; refine okT_take_g (i := 18) rfl (by kernel_rfl) rfl rfl rfl rfl rfl (gT _) (fun hq hp hqp => by (have hqd := hq; (try simp only [decide_eq_true_eq, decide_eq_false_iff_not, Bool.or_eq_true, Bool.or_eq_false_iff, Bool.and_eq_true, Bool.and_eq_false_iff, Bool.not_eq_true', Bool.not_eq_false', bne_iff_ne, beq_iff_eq, bne_eq_false_iff_eq, beq_eq_false_iff_ne, ne_eq, Bool.not_true, Bool.not_false, Bool.false_eq_true, Bool.true_eq_false, inB_true, inB_false] at hqd); have hpd := hp; (try simp only [decide_eq_true_eq, decide_eq_false_iff_not, Bool.or_eq_true, Bool.or_eq_false_iff, Bool.and_eq_true, Bool.and_eq_false_iff, Bool.not_eq_true', Bool.not_eq_false', bne_iff_ne, beq_iff_eq, bne_eq_false_iff_eq, beq_eq_false_iff_ne, ne_eq, Bool.not_true, Bool.not_false, Bool.false_eq_true, Bool.true_eq_false, inB_true, inB_false] at hpd); exact ps_loadsF rfl (by (refine og rfl ?_; assumption)) (by exact rds_rf (by assumption) (by exact List.mem_cons_self)) (by rfl) (by rfl) (by omega) rfl)) ?_; refine okT_one_g (i := 19) rfl rfl (by kernel_rfl) rfl rfl rfl rfl rfl (gT _) (fun hq hp hqp => by (have hqd := hq; (try simp only [decide_eq_true_eq, decide_eq_false_iff_not, Bool.or_eq_true, Bool.or_eq_false_iff, Bool.and_eq_true, Bool.and_eq_false_iff, Bool.not_eq_true', Bool.not_eq_false', bne_iff_ne, beq_iff_eq, bne_eq_false_iff_eq, beq_eq_false_iff_ne, ne_eq, Bool.not_true, Bool.not_false, Bool.false_eq_true, Bool.true_eq_false, inB_true, inB_false] at hqd); have hpd := hp; (try simp only [decide_eq_true_eq, decide_eq_false_iff_not, Bool.or_eq_true, Bool.or_eq_false_iff, Bool.and_eq_true, Bool.and_eq_false_iff, Bool.not_eq_true', Bool.not_eq_false', bne_iff_ne, beq_iff_eq, bne_eq_false_iff_eq, beq_eq_false_iff_ne, ne_eq, Bool.not_true, Bool.not_false, Bool.false_eq_true, Bool.true_eq_false, inB_true, inB_false] at hpd); exact ms_s2 rfl (by (refine og rfl ?_; assumption)) (by (refine og rfl ?_; assumption)) (fun _ _ w hw => ahead_c (nth l ((k : Int) - 1).toNat) (nth l k) w))) (fun w h => by exact h) ?_; refine okT_take_g (i := 20) rfl (by kernel_rfl) rfl rfl rfl rfl rfl (gT _) (fun hq hp hqp => by (have hqd := hq; (try simp only [decide_eq_true_eq, decide_eq_false_iff_not, Bool.or_eq_true, Bool.or_eq_false_iff, Bool.and_eq_true, Bool.and_eq_false_iff, Bool.not_eq_true', Bool.not_eq_false', bne_iff_ne, beq_iff_eq, bne_eq_false_iff_eq, beq_eq_false_iff_ne, ne_eq, Bool.not_true, Bool.not_false, Bool.false_eq_true, Bool.true_eq_false, inB_true, inB_false] at hqd); have hpd := hp; (try simp only [decide_eq_true_eq, decide_eq_false_iff_not, Bool.or_eq_true, Bool.or_eq_false_iff, Bool.and_eq_true, Bool.and_eq_false_iff, Bool.not_eq_true', Bool.not_eq_false', bne_iff_ne, beq_iff_eq, bne_eq_false_iff_eq, beq_eq_false_iff_ne, ne_eq, Bool.not_true, Bool.not_false, Bool.false_eq_true, Bool.true_eq_false, inB_true, inB_false] at hpd); exact ps_not rfl (by (refine og rfl ?_; assumption)))) ?_; refine okT_take_g1 (i := 21) rfl (by kernel_rfl) rfl rfl rfl rfl rfl (gF _) (fun hp => by (have hpd := hp; (try simp only [decide_eq_true_eq, decide_eq_false_iff_not, Bool.or_eq_true, Bool.or_eq_false_iff, Bool.and_eq_true, Bool.and_eq_false_iff, Bool.not_eq_true', Bool.not_eq_false', bne_iff_ne, beq_iff_eq, bne_eq_false_iff_eq, beq_eq_false_iff_ne, ne_eq, Bool.not_true, Bool.not_false, Bool.false_eq_true, Bool.true_eq_false, inB_true, inB_false] at hpd); exact ps_and_in (by assumption) rfl rfl rfl)) ?_; refine okT_take (i := 22) rfl (by kernel_rfl) rfl rfl rfl (by exact ps_or rfl rfl rfl) ?_; refine okT_done (by kernel_rfl) ?_; refine ok_nil ?_; refine ok_env [(0, _), (3, _), (32, _)] ⟨rfl, rfl, rfl, trivial⟩ ?_)
    | (refine ok_region (i := 5) ?_; refine ok_p rfl rfl rfl (by exact ps_assign rfl rfl) ?_; refine ok_nil ?_; refine ok_env [(2, _)] ⟨rfl, trivial⟩ ?_)
    | (refine ok_region (i := 6) ?_; refine ok_p rfl rfl rfl (by exact ps_assign rfl rfl) ?_; refine ok_nil ?_; refine ok_env [(2, _)] ⟨rfl, trivial⟩ ?_))
  all_goals try rw [tn1] at hc
  · have e := all_false (p := ordE l) (show k < l.length by omega) (by unfold ordE; rw [hc]; rfl)
    exact ok_endL (vs := [_]) rfl ⟨rfl, trivial⟩ (fun w' hw => ⟨by rw [inOrd, e]; rfl, hw.below⟩)
  · have e : ordE l k = true := by unfold ordE; rw [hc]; rfl
    exact fun a w' he hw => ⟨⟨k + 1, by omega, fun j hj => by
      rcases Nat.lt_succ_iff_lt_or_eq.1 hj with h' | h'
      · exact HO.out j h'
      · subst h'; exact e⟩, by simp only; omega, he.sub ⟨rfl, rfl, trivial⟩, hw⟩
  · obtain rfl : k = l.length := by omega
    have e := all_true (p := ordE l) (n := l.length) (fun i hi => HO.out i hi)
    exact ok_endL (vs := [_]) rfl ⟨rfl, trivial⟩ (fun w' hw => ⟨by rw [inOrd, e]; rfl, hw.below⟩)
/-- Rows of rows. -/
theorem dat_all_false {R : List LE} {p : List Ent → Bool} {k : Nat} (h : k < R.length) (hp : p (nth R k).d = false) : (dats R).all p = false := by
  rw [List.all_eq_false]
  exact ⟨_, List.mem_map.2 ⟨_, nth_mem R k h, rfl⟩, by simp [hp]⟩
theorem dat_all_true {R : List LE} {p : List Ent → Bool} (h : ∀ k, k < R.length → p (nth R k).d = true) : (dats R).all p = true := by
  rw [List.all_eq_true]
  intro x hx
  obtain ⟨l, hl, rfl⟩ := List.mem_map.1 hx
  obtain ⟨i, hi, rfl⟩ := List.getElem_of_mem hl
  have := h i hi
  rwa [nthL R i hi] at this
theorem lens_at {R : List LE} {m : Nat} (hs : ∀ x ∈ dats R, x.length ≤ m) : ∀ k, k < R.length → (nth R k).d.length ≤ m := fun k hk => hs _ (List.mem_map.2 ⟨_, nth_mem R k hk, rfl⟩)
theorem totalOf_c (A : Option Addr) (c : Nat) (R : List LE) (hl : R.length ≤ 4194304) (hs : ∀ x ∈ dats R, x.length ≤ 4194304) (w : World) (h : RdN w A R) : Calls Try.prog 161 #[.slice A R.length c] w fun e w' => e = .returned (.int .i64 (offE (dats R) R.length : Int)) ∧ Below w.heap.size w w' := by
  obtain ⟨h1, h2⟩ := h
  have ho : ∀ k, offE (dats R) k ≤ 17592186044416 := offE_le _ (by rw [dats_len]; exact hl) hs
  have HS := Lib.hid (lens_at hs); clear hs
  have HO := Lib.hid ho; clear ho
  clear h2
  refine ok_enter 18 Try.func161 rfl rfl rfl ?_
  repeat' (first
    | refine ok_seq ?_
    | refine ok_then ?_
    | refine ok_block ?_
    | (refine ok_region (i := 0) ?_; refine ok_p rfl rfl rfl (by exact ps_assign rfl rfl) ?_; refine ok_nil ?_; refine ok_env [(0, _)] ⟨rfl, trivial⟩ ?_)
    | (refine ok_region (i := 1) ?_; refine ok_p rfl rfl rfl (by exact ps_assign rfl rfl) ?_; refine ok_nil ?_; refine ok_env [(0, _), (3, _)] ⟨rfl, rfl, trivial⟩ ?_)
    | (refine ok_region (i := 2) ?_; refine ok_p rfl rfl rfl (by exact ps_move rfl rfl) ?_; refine ok_p rfl rfl rfl (by exact ps_len rfl rfl) ?_; refine ok_p rfl rfl rfl (by exact ps_move rfl rfl) ?_; refine ok_nil ?_; refine ok_env [(3, _), (6, _), (7, _), (8, _)] ⟨rfl, rfl, rfl, rfl, trivial⟩ ?_))
  refine ok_loop (ι := { k : Nat // k ≤ R.length }) (fun k => R.length - k.1) (fun k => ([(3, .int .i64 (offE (dats R) k.1 : Int)), (6, .slice A R.length c), (7, .int .i64 R.length), (8, .int .i64 k.1)], [], _)) ⟨0, by omega⟩ (fun a w he hw => ⟨⟨0, by omega⟩, he.sub ⟨rfl, rfl, rfl, rfl, trivial⟩, hw⟩) ?_
  rintro ⟨k, hk⟩
  simp only at hk ⊢
  have hok := HO.out k
  have hsk : k < R.length → (nth R k).d.length ≤ 4194304 := fun h => HS.out k h
  repeat' (first
    | refine ok_seq ?_
    | refine ok_then ?_
    | refine ok_block ?_
    | refine ok_in_normal ?_
    | (refine ok_cond rfl (fun hc => ?_) (fun hc => ?_) <;> (have hd := hc; (try simp only [decide_eq_true_eq, decide_eq_false_iff_not, Bool.or_eq_true, Bool.or_eq_false_iff, Bool.and_eq_true, Bool.and_eq_false_iff, Bool.not_eq_true', Bool.not_eq_false', bne_iff_ne, beq_iff_eq, bne_eq_false_iff_eq, beq_eq_false_iff_ne, ne_eq, Bool.not_true, Bool.not_false, Bool.false_eq_true, Bool.true_eq_false, inB_true, inB_false] at hd)))
    | refine ok_ret ?_
    | refine ok_exit ?_
    | refine ok_skip ?_
    | (refine ok_region (i := 3) ?_; refine ok_p rfl rfl rfl (by exact ps_int rfl rfl rfl rfl) ?_; refine ok_nil ?_; refine ok_env [(3, _), (6, _), (7, _), (8, _), (9, _)] ⟨rfl, rfl, rfl, rfl, rfl, trivial⟩ ?_)
    | (refine ok_region (i := 4) ?_; refine ok_p rfl rfl rfl (by exact ps_indexN rfl rfl rfl (by omega) (by exact isw_of (isS_fl (by assumption) (by omega)))) ?_; refine ok_p rfl rfl rfl (by exact ps_load rfl rfl (by exact Rds.cell (rds_rf (by assumption) (by exact List.mem_cons_self)) (by exact fl_at0 _ _ (by omega) (by decide)))) ?_; refine ok_p rfl rfl rfl (by exact ps_assign rfl rfl) ?_; refine ok_nil ?_; refine ok_env [(3, _), (5, _), (6, _), (7, _), (8, _)] ⟨rfl, rfl, rfl, rfl, rfl, trivial⟩ ?_)
    | (refine ok_region (i := 5) ?_; refine ok_p rfl rfl rfl (by exact ps_move rfl rfl) ?_; refine ok_p rfl rfl rfl (by exact ps_move rfl rfl) ?_; refine ok_p rfl rfl rfl (by exact ps_len rfl rfl) ?_; refine ok_p rfl rfl rfl (by exact ps_add (n := ((nth R k).d.length : Int)) rfl rfl rfl (by have := hsk (by omega); omega)) ?_; refine ok_p rfl rfl rfl (by exact ps_assign rfl rfl) ?_; refine ok_nil ?_; refine ok_env [(3, _), (6, _), (7, _), (8, _)] ⟨rfl, rfl, rfl, rfl, trivial⟩ ?_)
    | (refine ok_region (i := 6) ?_; refine ok_p rfl rfl rfl (by exact ps_add rfl rfl rfl (by omega)) ?_; refine ok_p rfl rfl rfl (by exact ps_move rfl rfl) ?_; refine ok_nil ?_; refine ok_env [(3, _), (6, _), (7, _), (8, _)] ⟨rfl, rfl, rfl, rfl, trivial⟩ ?_)
    | (refine ok_region (i := 7) ?_; refine ok_p rfl rfl rfl (by exact ps_move rfl rfl) ?_; refine ok_p rfl rfl rfl (by exact ps_assign rfl rfl) ?_; refine ok_nil ?_; refine ok_env [(2, _)] ⟨rfl, trivial⟩ ?_))
  · refine fun a w' he hw => ⟨⟨k + 1, by omega⟩, by simp only; omega, he.sub ⟨?_, rfl, rfl, rfl, trivial⟩, hw⟩
    simp only [look]; congr 2; rw [offE_succ R k (by omega)]; simp
  · obtain rfl : k = R.length := by omega
    exact ok_endL (vs := [_]) rfl ⟨rfl, trivial⟩ (fun w' hw => ⟨rfl, hw.below⟩)
theorem allInOrder_c (A : Option Addr) (c : Nat) (R : List LE) (hl : R.length ≤ 4194304) (hs : ∀ x ∈ dats R, x.length ≤ 4194304) (w : World) (h : RdN w A R) : Calls Try.prog 162 #[.slice A R.length c] w fun e w' => e = .returned (.bool ((dats R).all inOrd)) ∧ Below w.heap.size w w' := by
  obtain ⟨h1, h2⟩ := h
  have HS := Lib.hid (lens_at hs); clear hs
  have H2 := Lib.hid h2; clear h2
  refine ok_enter 15 Try.func162 rfl rfl rfl ?_
  repeat' (first
    | refine ok_seq ?_
    | refine ok_then ?_
    | refine ok_block ?_
    | (refine ok_region (i := 0) ?_; refine ok_p rfl rfl rfl (by exact ps_assign rfl rfl) ?_; refine ok_nil ?_; refine ok_env [(0, _)] ⟨rfl, trivial⟩ ?_)
    | (refine ok_region (i := 1) ?_; refine ok_p rfl rfl rfl (by exact ps_move rfl rfl) ?_; refine ok_p rfl rfl rfl (by exact ps_len rfl rfl) ?_; refine ok_p rfl rfl rfl (by exact ps_move rfl rfl) ?_; refine ok_nil ?_; refine ok_env [(5, _), (6, _), (7, _)] ⟨rfl, rfl, rfl, trivial⟩ ?_))
  refine ok_loop (ι := { k : Nat // k ≤ R.length ∧ ∀ j, j < k → inOrd (nth R j).d = true }) (fun k => R.length - k.1) (fun k => ([(5, .slice A R.length c), (6, .int .i64 R.length), (7, .int .i64 k.1)], [], _)) ⟨0, by omega, fun j h => absurd h (Nat.not_lt_zero j)⟩ (fun a w he hw => ⟨⟨0, by omega, fun j h => absurd h (Nat.not_lt_zero j)⟩, he.sub ⟨rfl, rfl, rfl, trivial⟩, hw⟩) ?_
  rintro ⟨k, hk, hok⟩
  simp only at hk hok ⊢
  have HO := Lib.hid hok; clear hok
  repeat' (first
    | refine ok_seq ?_
    | refine ok_then ?_
    | refine ok_then_ret ?_
    | refine ok_block ?_
    | refine ok_in_normal ?_
    | refine ok_in_ret ?_
    | (refine ok_cond rfl (fun hc => ?_) (fun hc => ?_) <;> (have hd := hc; (try simp only [decide_eq_true_eq, decide_eq_false_iff_not, Bool.or_eq_true, Bool.or_eq_false_iff, Bool.and_eq_true, Bool.and_eq_false_iff, Bool.not_eq_true', Bool.not_eq_false', bne_iff_ne, beq_iff_eq, bne_eq_false_iff_eq, beq_eq_false_iff_ne, ne_eq, Bool.not_true, Bool.not_false, Bool.false_eq_true, Bool.true_eq_false, inB_true, inB_false] at hd)))
    | refine ok_ret ?_
    | refine ok_exit ?_
    | refine ok_skip ?_
    | (refine ok_region (i := 2) ?_; refine ok_p rfl rfl rfl (by exact ps_int rfl rfl rfl rfl) ?_; refine ok_nil ?_; refine ok_env [(5, _), (6, _), (7, _), (8, _)] ⟨rfl, rfl, rfl, rfl, trivial⟩ ?_)
    | (refine ok_region (i := 3) ?_; refine ok_p rfl rfl rfl (by exact ps_indexN rfl rfl rfl (by omega) (by exact isw_of (isS_fl (by assumption) (by omega)))) ?_; refine ok_p rfl rfl rfl (by exact ps_load rfl rfl (by exact Rds.cell (rds_rf (by assumption) (by exact List.mem_cons_self)) (by exact fl_at0 _ _ (by omega) (by decide)))) ?_; refine ok_p rfl rfl rfl (by exact ps_assign rfl rfl) ?_; refine ok_nil ?_; refine ok_env [(4, _), (5, _), (6, _), (7, _)] ⟨rfl, rfl, rfl, rfl, trivial⟩ ?_)
    | (refine ok_region (i := 4) ?_; refine ok_p rfl rfl rfl (by exact ps_move rfl rfl) ?_; refine ok_m rfl rfl rfl (by exact ms_s1 rfl rfl (fun _ _ w hw => inOrder_c _ _ (nth R k).d w (rds_rf (H2.out k (by omega)) (by exact List.mem_cons_self) _ _ w hw) (HS.out k (by omega)))) ?_; rintro y12 hy12; refine ok_p rfl rfl rfl (by exact ps_not rfl rfl) ?_; refine ok_nil ?_; refine ok_env [(5, _), (6, _), (7, _), (13, _)] ⟨rfl, rfl, rfl, rfl, trivial⟩ ?_)
    | (refine ok_region (i := 5) ?_; refine ok_p rfl rfl rfl (by exact ps_assign rfl rfl) ?_; refine ok_nil ?_; refine ok_env [(2, _)] ⟨rfl, trivial⟩ ?_)
    | (refine ok_region (i := 6) ?_; refine ok_p rfl rfl rfl (by exact ps_add rfl rfl rfl (by omega)) ?_; refine ok_p rfl rfl rfl (by exact ps_move rfl rfl) ?_; refine ok_nil ?_; refine ok_env [(5, _), (6, _), (7, _)] ⟨rfl, rfl, rfl, trivial⟩ ?_)
    | (refine ok_region (i := 7) ?_; refine ok_p rfl rfl rfl (by exact ps_assign rfl rfl) ?_; refine ok_nil ?_; refine ok_env [(2, _)] ⟨rfl, trivial⟩ ?_))
  · have e := dat_all_false (R := R) (p := inOrd) (show k < R.length by omega) (by simpa using hc)
    exact ok_endL (vs := [_]) rfl ⟨rfl, trivial⟩ (fun w' hw => ⟨by rw [e]; rfl, hw.below⟩)
  · have e : inOrd (nth R k).d = true := by simpa using hc
    exact fun a w' he hw => ⟨⟨k + 1, by omega, fun j hj => by
      rcases Nat.lt_succ_iff_lt_or_eq.1 hj with h' | h'
      · exact HO.out j h'
      · subst h'; exact e⟩, by simp only; omega, he.sub ⟨rfl, rfl, rfl, trivial⟩, hw⟩
  · obtain rfl : k = R.length := by omega
    have e := dat_all_true (R := R) (p := inOrd) (fun i hi => HO.out i hi)
    exact ok_endL (vs := [_]) rfl ⟨rfl, trivial⟩ (fun w' hw => ⟨by rw [e]; rfl, hw.below⟩)
end Go.Proofs.Ytbegbdfbfbkflaa
/- Stable order of entries in plain Lean: parts of a row in order; what keeps the order of equal ones. -/
namespace Go.Proofs.Ytbegbdfbfbkflaa
set_option linter.unusedVariables false
set_option linter.unusedSimpArgs false
/-- Same key and same number. -/
def sameE (a b : Ent) : Bool := sEq a.key b.key && decide (a.seq = b.seq)
/-- a may stand ahead of b. -/
def leE (a b : Ent) : Bool := !aheadE b a
theorem sEq_ref (a : ByteArray) : sEq a a = true := by unfold sEq; simp
theorem sEq_to {a b : ByteArray} (h : sEq a b = true) : a = b := by
  unfold sEq at h
  have h3 : a.toList = b.toList := by simpa using h
  have h4 : a.data.toList = b.data.toList := by rw [ByteArray.toList_eq, ByteArray.toList_eq] at h3; exact h3
  exact ByteArray.ext (Array.toList_inj.1 h4)
theorem ahead_irr (a : Ent) : aheadE a a = false := by unfold aheadE; rw [sLt_irrefl]; simp
theorem ahead_trans {a b c : Ent} (h : aheadE a b = true) (h2 : aheadE b c = true) : aheadE a c = true := by
  unfold aheadE at *
  rw [Bool.or_eq_true] at h h2 ⊢
  rcases h with h | h
  · rcases h2 with h2 | h2
    · exact .inl (sLt_trans h h2)
    · rw [Bool.and_eq_true] at h2
      have e := sEq_to h2.1
      rw [← e]; exact .inl h
  · rw [Bool.and_eq_true, decide_eq_true_eq] at h
    have e := sEq_to h.1
    rcases h2 with h2 | h2
    · rw [e]; exact .inl h2
    · rw [Bool.and_eq_true, decide_eq_true_eq] at h2
      rw [e]
      exact .inr (by rw [h2.1, Bool.true_and, decide_eq_true_eq]; omega)
theorem ahead_tri (a b : Ent) : aheadE a b = true ∨ aheadE b a = true ∨ sameE a b = true := by
  unfold aheadE sameE
  rcases sTri a.key b.key with ⟨h1, h2, h3⟩ | ⟨h1, h2, h3⟩ | ⟨h1, h2, h3⟩
  · left; rw [h1]; rfl
  · right; left; rw [h2]; rfl
  · have e := sEq_to h3
    rw [e, sEq_ref, sLt_irrefl]
    simp only [Bool.false_or, Bool.true_and, decide_eq_true_eq]
    omega
theorem ahead_not {a b : Ent} (h : aheadE a b = true) : aheadE b a = false := by
  cases h2 : aheadE b a with
  | false => rfl
  | true => have := ahead_trans h h2; rw [ahead_irr] at this; cases this
theorem ahead_diff {a b : Ent} (h : aheadE a b = true) : sameE a b = false := by
  cases h2 : sameE a b with
  | false => rfl
  | true =>
    unfold sameE at h2
    rw [Bool.and_eq_true, decide_eq_true_eq] at h2
    have e := sEq_to h2.1
    unfold aheadE at h
    rw [e, sLt_irrefl, h2.2] at h
    simp at h
theorem leE_trans {a b c : Ent} (h : leE a b = true) (h2 : leE b c = true) : leE a c = true := by
  unfold leE at *
  rw [Bool.not_eq_true'] at *
  cases h3 : aheadE c a with
  | false => rfl
  | true =>
    rcases ahead_tri b a with h4 | h4 | h4
    · rw [h4] at h; cases h
    · have := ahead_trans h3 h4; rw [this] at h2; cases h2
    · have e : sameE b a = true := h4
      unfold sameE at e
      rw [Bool.and_eq_true, decide_eq_true_eq] at e
      have e1 := sEq_to e.1
      have : aheadE c b = true := by
        unfold aheadE at h3 ⊢
        rw [e1, e.2]; exact h3
      rw [this] at h2; cases h2
theorem lt_le {a b : Ent} (h : aheadE a b = true) : leE a b = true := by unfold leE; rw [ahead_not h]; rfl
theorem le_lt {a b c : Ent} (h : leE a b = true) (h2 : aheadE b c = true) : aheadE a c = true := by
  cases h3 : aheadE a c with
  | true => rfl
  | false =>
    have h4 : leE c a = true := by unfold leE; rw [h3]; rfl
    have := leE_trans h4 h
    unfold leE at this
    rw [h2] at this; cases this
theorem lt_le_lt {a b c : Ent} (h : aheadE a b = true) (h2 : leE b c = true) : aheadE a c = true := by
  cases h3 : aheadE a c with
  | true => rfl
  | false =>
    have h4 : leE c a = true := by unfold leE; rw [h3]; rfl
    have := leE_trans h2 h4
    unfold leE at this
    rw [h] at this; cases this
/-- A part of a row is in order. -/
def srtIn (L : List Ent) (a b : Nat) : Prop := ∀ i j, a ≤ i → i < j → j < b → leE (nth L i) (nth L j) = true
/-- The same entries of each key and number, in the same order. -/
def stb (L M : List Ent) : Prop := ∀ e, L.filter (sameE e) = M.filter (sameE e)
theorem stb_refl (L : List Ent) : stb L L := fun _ => rfl
theorem stb_trans {L M N : List Ent} (h : stb L M) (h2 : stb M N) : stb L N := fun e => (h e).trans (h2 e)
theorem same_sym (a b : Ent) : sameE a b = sameE b a := by
  unfold sameE
  have : sEq a.key b.key = sEq b.key a.key := by unfold sEq; exact Bool.beq_comm
  rw [this]
  congr 1
  exact decide_eq_decide.2 ⟨Eq.symm, Eq.symm⟩
theorem same_trans {a b c : Ent} (h : sameE a b = true) (h2 : sameE a c = true) : sameE b c = true := by
  unfold sameE at *
  simp only [Bool.and_eq_true, decide_eq_true_eq] at *
  rw [← sEq_to h.1, ← sEq_to h2.1, sEq_ref, ← h.2, ← h2.2]
  exact ⟨rfl, rfl⟩
/-- Two parts change places where all of the one stand strictly ahead of all of the other. -/
theorem stb_rot {P u v S : List Ent} (h : ∀ x ∈ u, ∀ y ∈ v, aheadE y x = true) : stb (P ++ u ++ v ++ S) (P ++ v ++ u ++ S) := fun e => by
  have key : u.filter (sameE e) ++ v.filter (sameE e) = v.filter (sameE e) ++ u.filter (sameE e) := by
    cases hu : u.filter (sameE e) with
    | nil => simp
    | cons x U =>
      cases hv : v.filter (sameE e) with
      | nil => simp
      | cons y V =>
        exfalso
        have hx : x ∈ u.filter (sameE e) := by rw [hu]; exact List.mem_cons_self
        have hy : y ∈ v.filter (sameE e) := by rw [hv]; exact List.mem_cons_self
        rw [List.mem_filter] at hx hy
        have h1 := ahead_diff (h x hx.1 y hy.1)
        have h2 := same_trans hy.2 hx.2
        rw [h1] at h2; cases h2
  simp only [List.filter_append, List.append_assoc]
  rw [← List.append_assoc (u.filter (sameE e)), key, List.append_assoc]
end Go.Proofs.Ytbegbdfbfbkflaa
/- Rows of entries merged, in plain Lean: the reference's way and the program's are one. -/
namespace Go.Proofs.Ytbegbdfbfbkflaa
set_option linter.unusedVariables false
set_option linter.unusedSimpArgs false
/-- Strictly in order. -/
def strE (L : List Ent) : Prop := L.Pairwise (fun a b => aheadE a b = true)
theorem strE_ext : ∀ (L M : List Ent), strE L → strE M → (∀ x, x ∈ L ↔ x ∈ M) → L = M
  | [], [], _, _, _ => rfl
  | [], b :: M, _, _, h => by have := (h b).2 List.mem_cons_self; simp at this
  | a :: L, [], _, _, h => by have := (h a).1 List.mem_cons_self; simp at this
  | a :: L, b :: M, h1, h2, h => by
    have p1 := List.pairwise_cons.1 h1
    have p2 := List.pairwise_cons.1 h2
    have e : a = b := by
      rcases List.mem_cons.1 ((h a).1 List.mem_cons_self) with e | e
      · exact e
      · rcases List.mem_cons.1 ((h b).2 List.mem_cons_self) with e2 | e2
        · exact e2.symm
        · have q := ahead_not (p2.1 a e); rw [p1.1 b e2] at q; cases q
    subst e
    congr 1
    refine strE_ext L M p1.2 p2.2 fun x => ⟨fun hx => ?_, fun hx => ?_⟩
    · rcases List.mem_cons.1 ((h x).1 (List.mem_cons_of_mem _ hx)) with e | e
      · subst e; have := p1.1 x hx; rw [ahead_irr] at this; cases this
      · exact e
    · rcases List.mem_cons.1 ((h x).2 (List.mem_cons_of_mem _ hx)) with e | e
      · subst e; have := p2.1 x hx; rw [ahead_irr] at this; cases this
      · exact e
theorem same_refl (a : Ent) : sameE a a = true := by unfold sameE; rw [sEq_ref]; simp
theorem find_str {L : List Ent} (h : strE L) (e : Ent) : L.find? (sameE e) = some e ↔ e ∈ L := by
  constructor
  · exact List.mem_of_find?_eq_some
  · intro he
    induction L with
    | nil => cases he
    | cons a L ih =>
      have p := List.pairwise_cons.1 h
      rw [List.find?_cons]
      rcases List.mem_cons.1 he with rfl | he
      · rw [same_refl]
      · have := ahead_diff (p.1 e he)
        rw [same_sym] at this
        rw [this]
        exact ih p.2 he
/-- One row into another; what is there stays. -/
def mrg : List Ent → List Ent → List Ent
  | [], R => R
  | o :: O, [] => o :: O
  | o :: O, r :: R => if aheadE r o = true then r :: mrg (o :: O) R else if aheadE o r = true then o :: mrg O (r :: R) else o :: mrg O R
termination_by O R => O.length + R.length
theorem mrg_mem : ∀ (O R : List Ent), strE O → strE R → ∀ e, e ∈ mrg O R ↔ e ∈ O ∨ (e ∈ R ∧ ∀ o ∈ O, sameE o e = false)
  | [], R, _, _, e => by simp [mrg]
  | o :: O, [], _, _, e => by simp [mrg]
  | o :: O, r :: R, h1, h2, e => by
    have p1 := List.pairwise_cons.1 h1
    have p2 := List.pairwise_cons.1 h2
    rw [mrg]
    split
    · rename_i h
      rw [List.mem_cons, mrg_mem (o :: O) R h1 p2.2]
      constructor
      · rintro (rfl | hm | ⟨hm, hn⟩)
        · refine .inr ⟨List.mem_cons_self, fun q hq => ?_⟩
          rw [same_sym]
          rcases List.mem_cons.1 hq with rfl | hq
          · exact ahead_diff h
          · exact ahead_diff (ahead_trans h (p1.1 q hq))
        · exact .inl hm
        · exact .inr ⟨List.mem_cons_of_mem _ hm, hn⟩
      · rintro (hm | ⟨hm, hn⟩)
        · exact .inr (.inl hm)
        · rcases List.mem_cons.1 hm with rfl | hm
          · exact .inl rfl
          · exact .inr (.inr ⟨hm, hn⟩)
    · rename_i h
      have h' : aheadE r o = false := by simpa using h
      split
      · rename_i h3
        rw [List.mem_cons, mrg_mem O (r :: R) p1.2 h2]
        constructor
        · rintro (rfl | hm | ⟨hm, hn⟩)
          · exact .inl List.mem_cons_self
          · exact .inl (List.mem_cons_of_mem _ hm)
          · refine .inr ⟨hm, fun q hq => ?_⟩
            rcases List.mem_cons.1 hq with rfl | hq
            · rcases List.mem_cons.1 hm with rfl | hm
              · exact ahead_diff h3
              · exact ahead_diff (ahead_trans h3 (p2.1 e hm))
            · exact hn q hq
        · rintro (hm | ⟨hm, hn⟩)
          · rcases List.mem_cons.1 hm with rfl | hm
            · exact .inl rfl
            · exact .inr (.inl hm)
          · exact .inr (.inr ⟨hm, fun q hq => hn q (List.mem_cons_of_mem _ hq)⟩)
      · rename_i h3
        have h3' : aheadE o r = false := by simpa using h3
        have hs : sameE o r = true := by
          rcases ahead_tri o r with h4 | h4 | h4
          · rw [h3'] at h4; cases h4
          · rw [h'] at h4; cases h4
          · exact h4
        rw [List.mem_cons, mrg_mem O R p1.2 p2.2]
        constructor
        · rintro (rfl | hm | ⟨hm, hn⟩)
          · exact .inl List.mem_cons_self
          · exact .inl (List.mem_cons_of_mem _ hm)
          · refine .inr ⟨List.mem_cons_of_mem _ hm, fun q hq => ?_⟩
            rcases List.mem_cons.1 hq with rfl | hq
            · cases h5 : sameE q e with
              | false => rfl
              | true =>
                have h6 := same_trans hs h5
                rw [ahead_diff (p2.1 e hm)] at h6; cases h6
            · exact hn q hq
        · rintro (hm | ⟨hm, hn⟩)
          · rcases List.mem_cons.1 hm with rfl | hm
            · exact .inl rfl
            · exact .inr (.inl hm)
          · rcases List.mem_cons.1 hm with rfl | hm
            · have := hn o List.mem_cons_self; rw [hs] at this; cases this
            · exact .inr (.inr ⟨hm, fun q hq => hn q (List.mem_cons_of_mem _ hq)⟩)
termination_by O R => O.length + R.length
theorem mrg_str : ∀ (O R : List Ent), strE O → strE R → strE (mrg O R)
  | [], R, _, h2 => by rw [mrg]; exact h2
  | o :: O, [], h1, _ => by rw [mrg]; exact h1
  | o :: O, r :: R, h1, h2 => by
    have p1 := List.pairwise_cons.1 h1
    have p2 := List.pairwise_cons.1 h2
    rw [mrg]
    split
    · rename_i h
      refine List.pairwise_cons.2 ⟨fun e he => ?_, mrg_str (o :: O) R h1 p2.2⟩
      rcases (mrg_mem (o :: O) R h1 p2.2 e).1 he with hm | ⟨hm, _⟩
      · rcases List.mem_cons.1 hm with rfl | hm
        · exact h
        · exact ahead_trans h (p1.1 e hm)
      · exact p2.1 e hm
    · rename_i h
      split
      · rename_i h3
        refine List.pairwise_cons.2 ⟨fun e he => ?_, mrg_str O (r :: R) p1.2 h2⟩
        rcases (mrg_mem O (r :: R) p1.2 h2 e).1 he with hm | ⟨hm, _⟩
        · exact p1.1 e hm
        · rcases List.mem_cons.1 hm with rfl | hm
          · exact h3
          · exact ahead_trans h3 (p2.1 e hm)
      · rename_i h3
        have h' : aheadE r o = false := by simpa using h
        have hle : leE o r = true := by unfold leE; rw [h']; rfl
        refine List.pairwise_cons.2 ⟨fun e he => ?_, mrg_str O R p1.2 p2.2⟩
        rcases (mrg_mem O R p1.2 p2.2 e).1 he with hm | ⟨hm, _⟩
        · exact p1.1 e hm
        · exact le_lt hle (p2.1 e hm)
termination_by O R => O.length + R.length
theorem mrg_len : ∀ (O R : List Ent), (mrg O R).length ≤ O.length + R.length
  | [], R => by simp [mrg]
  | o :: O, [] => by simp [mrg]
  | o :: O, r :: R => by
    rw [mrg]
    split
    · have := mrg_len (o :: O) R; simp only [List.length_cons] at *; omega
    · split
      · have := mrg_len O (r :: R); simp only [List.length_cons] at *; omega
      · have := mrg_len O R; simp only [List.length_cons] at *; omega
termination_by O R => O.length + R.length
def mergeS (rows : List (List Ent)) : List Ent := rows.foldl mrg []
theorem mergeS_gen : ∀ (rows : List (List Ent)) (L0 acc : List Ent), strE acc → (∀ e, e ∈ acc ↔ L0.find? (sameE e) = some e) → (∀ l ∈ rows, strE l) → strE (rows.foldl mrg acc) ∧ ∀ e, e ∈ rows.foldl mrg acc ↔ (L0 ++ rows.flatten).find? (sameE e) = some e
  | [], L0, acc, h1, h2, _ => ⟨h1, fun e => by rw [List.flatten_nil, List.append_nil]; exact h2 e⟩
  | r :: rows, L0, acc, h1, h2, h3 => by
    have hr := h3 r List.mem_cons_self
    have hm := mrg_mem acc r h1 hr
    have hs := mrg_str acc r h1 hr
    rw [List.foldl_cons, List.flatten_cons, ← List.append_assoc]
    refine mergeS_gen rows (L0 ++ r) (mrg acc r) hs (fun e => ?_) (fun l hl => h3 l (List.mem_cons_of_mem _ hl))
    rw [hm e, h2 e, List.find?_append]
    cases hf : L0.find? (sameE e) with
    | none =>
      simp only [Option.none_or, reduceCtorEq, false_or]
      rw [find_str hr]
      constructor
      · exact fun h => h.1
      · intro he
        refine ⟨he, fun o ho => ?_⟩
        cases h5 : sameE o e with
        | false => rfl
        | true =>
          exfalso
          have h6 := (h2 o).1 ho
          have h7 := List.mem_of_find?_eq_some h6
          have h8 := List.find?_eq_none.1 hf o h7
          rw [same_sym, h5] at h8; simp at h8
    | some x =>
      simp only [Option.some_or]
      constructor
      · rintro (h | ⟨_, hn⟩)
        · exact h
        · exfalso
          have h4 := List.find?_some hf
          have hx : x ∈ acc := by
            rw [h2 x]
            have : L0.find? (sameE x) = L0.find? (sameE e) := by
              congr 1
              funext z
              cases h6 : sameE e z with
              | true => exact same_trans h4 h6
              | false =>
                cases h7 : sameE x z with
                | false => rfl
                | true =>
                  have h8 : sameE x e = true := by rw [same_sym]; exact h4
                  have := same_trans h8 h7
                  rw [h6] at this; cases this
            rw [this, hf]
          have h5 := hn x hx
          rw [same_sym, h4] at h5; cases h5
      · exact .inl
theorem mergeS_str {rows : List (List Ent)} (h : ∀ l ∈ rows, strE l) : strE (mergeS rows) ∧ ∀ e, e ∈ mergeS rows ↔ rows.flatten.find? (sameE e) = some e := by
  have := mergeS_gen rows [] [] List.Pairwise.nil (fun e => by simp) h
  simpa [mergeS] using this
/-- The program's way: in order, stably, then of each run the first. -/
def cmpct : List Ent → List Ent
  | [] => []
  | [a] => [a]
  | a :: b :: L => if sameE a b = true then cmpct (a :: L) else a :: cmpct (b :: L)
termination_by L => L.length
def leS' (L : List Ent) : Prop := L.Pairwise (fun a b => leE a b = true)
theorem cmpct_spec : ∀ (L : List Ent), leS' L → strE (cmpct L) ∧ ∀ e, e ∈ cmpct L ↔ L.find? (sameE e) = some e
  | [], _ => by rw [cmpct]; exact ⟨List.Pairwise.nil, fun e => by simp⟩
  | [a], _ => by
    rw [cmpct]
    refine ⟨List.pairwise_singleton _ _, fun e => ?_⟩
    rw [List.mem_singleton, List.find?_cons]
    constructor
    · rintro rfl; rw [same_refl]
    · intro h; split at h
      · cases h; rfl
      · simp at h
  | a :: b :: L, h => by
    have p := List.pairwise_cons.1 h
    have p2 := List.pairwise_cons.1 p.2
    rw [cmpct]
    split
    · rename_i hs
      have hl : leS' (a :: L) := List.pairwise_cons.2 ⟨fun c hc => p.1 c (List.mem_cons_of_mem _ hc), p2.2⟩
      obtain ⟨q1, q2⟩ := cmpct_spec (a :: L) hl
      refine ⟨q1, fun e => ?_⟩
      rw [q2 e, List.find?_cons, List.find?_cons, List.find?_cons]
      cases h1 : sameE e a with
      | true => rfl
      | false =>
        have h2 : sameE e b = false := by
          cases h3 : sameE e b with
          | false => rfl
          | true =>
            have h4 : sameE b e = true := by rw [same_sym]; exact h3
            have h5 : sameE b a = true := by rw [same_sym]; exact hs
            have := same_trans h4 h5
            rw [h1] at this; cases this
        simp only [h2]
    · rename_i hs
      have hs' : sameE a b = false := by simpa using hs
      have hab : aheadE a b = true := by
        rcases ahead_tri a b with h4 | h4 | h4
        · exact h4
        · have := p.1 b List.mem_cons_self; unfold leE at this; rw [h4] at this; cases this
        · rw [hs'] at h4; cases h4
      obtain ⟨q1, q2⟩ := cmpct_spec (b :: L) p.2
      have hall : ∀ e ∈ b :: L, aheadE a e = true := fun e he => by
        rcases List.mem_cons.1 he with rfl | he
        · exact hab
        · exact lt_le_lt hab (p2.1 e he)
      have hsub : ∀ e, e ∈ cmpct (b :: L) → e ∈ b :: L := fun e he => List.mem_of_find?_eq_some ((q2 e).1 he)
      refine ⟨List.pairwise_cons.2 ⟨fun e he => hall e (hsub e he), q1⟩, fun e => ?_⟩
      rw [List.mem_cons, q2 e, List.find?_cons (a := a)]
      cases h1 : sameE e a with
      | true =>
        constructor
        · rintro (rfl | he)
          · rfl
          · exfalso
            have := ahead_diff (hall e (List.mem_of_find?_eq_some he))
            rw [same_sym, h1] at this; cases this
        · intro he; exact .inl (by simpa using he.symm)
      | false =>
        constructor
        · rintro (rfl | he)
          · rw [same_refl] at h1; cases h1
          · exact he
        · exact .inr
termination_by L => L.length
theorem find_filter (p : Ent → Bool) (L : List Ent) : L.find? p = (L.filter p).head? := by
  induction L with
  | nil => rfl
  | cons a L ih =>
    rw [List.find?_cons, List.filter_cons]
    cases p a with
    | true => rfl
    | false => exact ih
/-- Both ways lead to the same row. -/
theorem merge_same {rows : List (List Ent)} (h : ∀ l ∈ rows, strE l) {S : List Ent} (hs : leS' S) (hb : stb rows.flatten S) : cmpct S = mergeS rows := by
  obtain ⟨a1, a2⟩ := mergeS_str h
  obtain ⟨b1, b2⟩ := cmpct_spec S hs
  refine strE_ext _ _ b1 a1 fun e => ?_
  rw [a2 e, b2 e, find_filter, find_filter, hb e]
theorem srt_le {L : List Ent} (h : srtIn L 0 L.length) : leS' L := by
  unfold leS'
  rw [List.pairwise_iff_getElem]
  intro i j hi hj hij
  have := h i j (Nat.zero_le _) hij hj
  simpa [nth, hi, hj] using this
theorem inOrd_str {L : List Ent} (h : inOrd L = true) : strE L := by
  unfold inOrd at h
  rw [List.all_eq_true] at h
  have hadj : ∀ i, 0 < i → i < L.length → aheadE (nth L (i - 1)) (nth L i) = true := fun i h0 hi => by
    have := h i (List.mem_range.2 hi)
    unfold ordE at this
    simp only [Bool.not_eq_true', Bool.or_eq_false_iff, Bool.and_eq_false_iff, decide_eq_false_iff_not, Bool.not_eq_false'] at this
    rcases this.2 with h1 | h1
    · omega
    · exact h1
  have hlt : ∀ (j i : Nat), i < j → j < L.length → aheadE (nth L i) (nth L j) = true := by
    intro j
    induction j with
    | zero => intro i h1; omega
    | succ j ih =>
      intro i h1 h2
      have h3 := hadj (j + 1) (by omega) h2
      rw [Nat.add_sub_cancel] at h3
      rcases Nat.lt_succ_iff_lt_or_eq.1 h1 with h4 | rfl
      · exact ahead_trans (ih i h4 (by omega)) h3
      · exact h3
  unfold strE
  rw [List.pairwise_iff_getElem]
  intro i j hi hj hij
  have := hlt j i hij hj
  simpa [nth, hi, hj] using this
end Go.Proofs.Ytbegbdfbfbkflaa
/- What is seen of entries in order, in plain Lean: the program's way and the reference's are one. -/
namespace Go.Proofs.Ytbegbdfbfbkflaa
set_option linter.unusedVariables false
set_option linter.unusedSimpArgs false
def kvE (x : Ent) : KV := ⟨x.key, x.val⟩
def isK (k : ByteArray) (seq : Int) (e : Ent) : Bool := sEq e.key k && decide (e.seq ≤ seq)
def getE (l : List Ent) (k : ByteArray) (seq : Int) : Option Ent := l.find? (isK k seq)
def seenK (last : Option ByteArray) (q : ByteArray) : Bool := match last with
  | some k => sEq q k
  | none => false
/-- The program: the last key that was seen is kept. -/
def vis (seq : Int) : Option ByteArray → List Ent → List KV
  | _, [] => []
  | last, e :: L => if (decide (seq < e.seq) || seenK last e.key) = true then vis seq last L else if e.del = true then vis seq (some e.key) L else kvE e :: vis seq (some e.key) L
def fVis (l : List Ent) (seq : Int) : List KV := vis seq none l
/-- The reference: each entry that is what is told of its key. -/
def mapPick (l : List Ent) (seq : Int) (x : Ent) : Bool := match getE l x.key seq with
  | some e => !e.del && decide (e.seq = x.seq)
  | none => false
def sMap (l : List Ent) (seq : Int) : List KV := (l.filter (mapPick l seq)).map kvE
theorem isK_iff (k : ByteArray) (seq : Int) (e : Ent) : isK k seq e = true ↔ e.key = k ∧ e.seq ≤ seq := by
  unfold isK
  rw [Bool.and_eq_true, decide_eq_true_eq]
  constructor
  · rintro ⟨h1, h2⟩; exact ⟨sEq_to h1, h2⟩
  · rintro ⟨h1, h2⟩; rw [h1]; exact ⟨sEq_ref k, h2⟩
theorem ahead_key {a b c : Ent} (h1 : aheadE a b = true) (h2 : aheadE b c = true) (h3 : a.key = c.key) : b.key = a.key := by
  unfold aheadE at h1 h2
  rw [Bool.or_eq_true, Bool.and_eq_true] at h1 h2
  rcases h1 with h1 | h1
  · rcases h2 with h2 | h2
    · have := sLt_trans h1 h2
      rw [← h3, sLt_irrefl] at this; cases this
    · rw [sEq_to h2.1, h3]
  · exact (sEq_to h1.1).symm
/-- The last key seen in a part. -/
def lastSeen (seq : Int) (P : List Ent) : Option ByteArray := ((P.filter fun e => decide (e.seq ≤ seq)).getLast?).map (·.key)
theorem last_snoc (seq : Int) (P : List Ent) (e : Ent) : lastSeen seq (P ++ [e]) = if e.seq ≤ seq then some e.key else lastSeen seq P := by
  unfold lastSeen
  rw [List.filter_append, List.filter_cons, List.filter_nil]
  by_cases h : e.seq ≤ seq
  · rw [if_pos h, if_pos (by simpa using h)]; simp
  · rw [if_neg h, if_neg (by simpa using h)]; simp
theorem last_iff {seq : Int} {P T : List Ent} {x : Ent} (h : strE (P ++ x :: T)) : seenK (lastSeen seq P) x.key = true ↔ ∃ y ∈ P, isK x.key seq y = true := by
  have hp := List.pairwise_append.1 h
  unfold lastSeen
  constructor
  · intro hm
    cases hl : (P.filter fun e => decide (e.seq ≤ seq)).getLast? with
    | none => rw [hl] at hm; cases hm
    | some y =>
      rw [hl] at hm
      have hy := List.mem_of_getLast? hl
      rw [List.mem_filter, decide_eq_true_eq] at hy
      exact ⟨y, hy.1, (isK_iff _ _ _).2 ⟨(sEq_to hm).symm, hy.2⟩⟩
  · rintro ⟨y, hy, hk⟩
    obtain ⟨k1, k2⟩ := (isK_iff _ _ _).1 hk
    have hyf : y ∈ P.filter fun e => decide (e.seq ≤ seq) := List.mem_filter.2 ⟨hy, by simpa using k2⟩
    cases hl : (P.filter fun e => decide (e.seq ≤ seq)).getLast? with
    | none =>
      have := List.getLast?_eq_none_iff.1 hl
      rw [this] at hyf; cases hyf
    | some z =>
      have hz := List.mem_of_getLast? hl
      have hzP : z ∈ P := (List.mem_filter.1 hz).1
      have hzx : aheadE z x = true := hp.2.2 z hzP x List.mem_cons_self
      have e : z.key = x.key := by
        by_cases hyz : y = z
        · rw [← hyz, k1]
        · have hsub : (P.filter fun e => decide (e.seq ≤ seq)).Pairwise (fun a b => aheadE a b = true) := hp.1.sublist List.filter_sublist
          obtain ⟨D, hD⟩ := List.getLast?_eq_some_iff.1 hl
          rw [hD] at hyf hsub
          have hyD : y ∈ D := by
            rcases List.mem_append.1 hyf with h1 | h1
            · exact h1
            · rw [List.mem_singleton] at h1; exact absurd h1 hyz
          have hyz2 : aheadE y z = true := (List.pairwise_append.1 hsub).2.2 y hyD z List.mem_cons_self
          rw [ahead_key hyz2 hzx k1, k1]
      show sEq x.key z.key = true
      rw [e]; exact sEq_ref _
theorem pick_iff {seq : Int} {P T : List Ent} {x : Ent} (h : strE (P ++ x :: T)) : mapPick (P ++ x :: T) seq x = (decide (x.seq ≤ seq) && !seenK (lastSeen seq P) x.key && !x.del) := by
  have hp := List.pairwise_append.1 h
  have hl := last_iff (seq := seq) h
  unfold mapPick getE
  rw [List.find?_append]
  cases hf : P.find? (isK x.key seq) with
  | some y =>
    have hy := List.mem_of_find?_eq_some hf
    have hk := List.find?_some hf
    rw [hl.2 ⟨y, hy, hk⟩]
    simp only [Option.some_or, Bool.not_true, Bool.and_false, Bool.false_and]
    have hyx := hp.2.2 y hy x List.mem_cons_self
    have k1 := ((isK_iff _ _ _).1 hk).1
    have : ¬ y.seq = x.seq := fun e => by
      have h5 := ahead_diff hyx
      unfold sameE at h5
      rw [k1, sEq_ref, e] at h5
      simp at h5
    simp [this]
  | none =>
    have hn : seenK (lastSeen seq P) x.key = false := by
      cases hm : seenK (lastSeen seq P) x.key with
      | false => rfl
      | true =>
        obtain ⟨y, hy, hk⟩ := hl.1 hm
        have := List.find?_eq_none.1 hf y hy
        rw [hk] at this; simp at this
    rw [hn, Option.none_or, List.find?_cons]
    by_cases hq : x.seq ≤ seq
    · rw [(isK_iff _ _ _).2 ⟨rfl, hq⟩]
      simp [hq]
    · have hk : isK x.key seq x = false := by
        cases h6 : isK x.key seq x with
        | false => rfl
        | true => exact absurd ((isK_iff _ _ _).1 h6).2 hq
      rw [hk]
      simp only [hq, decide_false, Bool.false_and]
      cases hT : T.find? (isK x.key seq) with
      | none => rfl
      | some e =>
        have he := List.mem_of_find?_eq_some hT
        have k1 := (isK_iff _ _ _).1 (List.find?_some hT)
        have : ¬ e.seq = x.seq := by omega
        simp [this]
theorem vis_map {seq : Int} {l : List Ent} (h : strE l) : ∀ (T P : List Ent), l = P ++ T → vis seq (lastSeen seq P) T = (T.filter (mapPick l seq)).map kvE
  | [], P, _ => rfl
  | x :: T, P, e => by
    have hpk := pick_iff (seq := seq) (e ▸ h : strE (P ++ x :: T))
    rw [← e] at hpk
    have ih := vis_map (seq := seq) h T (P ++ [x]) (by rw [e]; simp)
    rw [last_snoc] at ih
    rw [vis, List.filter_cons, hpk]
    by_cases hq : x.seq ≤ seq
    · rw [if_pos hq] at ih
      have h1 : decide (seq < x.seq) = false := by simp; omega
      rw [h1]
      cases hm : seenK (lastSeen seq P) x.key with
      | true =>
        have hs : lastSeen seq P = some x.key := by
          cases hl : lastSeen seq P with
          | none => rw [hl] at hm; cases hm
          | some k => rw [hl] at hm; rw [sEq_to hm]
        simp only [Bool.false_or, if_true, Bool.not_true, Bool.and_false, Bool.false_and, if_false, Bool.false_eq_true]
        rw [hs]; exact ih
      | false =>
        simp only [Bool.false_or, Bool.false_eq_true, if_false, Bool.not_false, hq, decide_true, Bool.true_and]
        cases hd : x.del with
        | true => simp only [if_true, Bool.not_true, Bool.false_eq_true, if_false]; exact ih
        | false => simp only [Bool.false_eq_true, if_false, Bool.not_false, if_true, List.map_cons]; rw [ih]
    · rw [if_neg hq] at ih
      have h1 : decide (seq < x.seq) = true := by simp; omega
      rw [h1]
      simp only [Bool.true_or, if_true, hq, decide_false, Bool.false_and, Bool.false_eq_true, if_false]
      exact ih
theorem vis_same {l : List Ent} (h : strE l) (seq : Int) : fVis l seq = sMap l seq := vis_map h l [] rfl
end Go.Proofs.Ytbegbdfbfbkflaa
/- Walk in the uniform style: size, copy, comparison, marks. -/
namespace Go.Proofs.Ytbegbdfbfbkflaa
open Go.RowKit
set_option maxHeartbeats 4000000
set_option maxRecDepth 20000
set_option linter.unusedVariables false
set_option linter.unusedSimpArgs false
attribute [local irreducible] Calls
structure DWalk where
  R : List (List Ent)
  seq : Int
  key : ByteArray
  on : Bool
  deriving DecidableEq
def Walk_val (x : DWalk) (y : Ys) : Value := .agg #[.slice (y 0).A x.R.length (y 0).c, .int .i64 x.seq, .string x.key, .bool x.on]
def Walk_obj (x : DWalk) (y : Ys) : List HObj := [.row 64 1 (y 0).A x.R.length (y 0).c (fl (EntSS_loc x.R y)), .bag 71 4 (rowsOf (EntSS_loc x.R y))]
def Walk_rd (w : World) (x : DWalk) (y : Ys) : Prop := EntSS_rd w x.R y
def Walk_sm (x : DWalk) : Prop := EntSS_sm x.R ∧ x.key.size ≤ 1048576
def Walk_lim (x : DWalk) : Prop := EntSS_lim x.R
theorem Walk_sm_lim {x : DWalk} (h : Walk_sm x) : Walk_lim x := EntSS_sm_lim h.1
theorem Walk_rf {m w w0 : World} {base : Nat} {H : List HObj} {G : List World} {x : DWalk} {y : Ys} (h : Walk_rd m x y) (hm : m ∈ G) (hw : WOk base w0 H G w) : Walk_rd w x y := EntSS_rf h hm hw
theorem Walk_of {w w0 : World} {base : Nat} {H : List HObj} {G : List World} {x : DWalk} {y : Ys} (hw : WOk base w0 (Walk_obj x y ++ H) G w) : Walk_rd w x y := EntSS_of hw
end Go.Proofs.Ytbegbdfbfbkflaa
/- WalkOk of both programs. -/
namespace Go.Proofs.Ytbegbdfbfbkflaa
open Go.RowKit
set_option maxHeartbeats 4000000
set_option maxRecDepth 20000
set_option linter.unusedVariables false
set_option linter.unusedSimpArgs false
attribute [local irreducible] Calls
def fWalkOk (x : DWalk) : Bool := decide ((offE x.R x.R.length : Int) ≤ 400) && x.R.all inOrd && (x.on || sEq x.key ⟨#[]⟩)
theorem i_WalkOk (x : DWalk) (y : Ys) (w : World) (h : Walk_rd w x y) (hs : Walk_sm x) :
    Calls Try.prog 99 #[Walk_val x y] w fun e w' => e = .returned (.bool (fWalkOk x)) ∧ Below w.heap.size w w' := by
  have hl := Walk_sm_lim hs
  have H := Lib.hid h; clear h
  have ht : ∀ w, RdN w (y 0).A (EntSS_loc x.R y) → Calls Try.prog 161 #[.slice (y 0).A x.R.length (y 0).c] w fun e w' => e = .returned (.int .i64 (offE x.R x.R.length : Int)) ∧ Below w.heap.size w w' := fun w h => by
    have := totalOf_c (y 0).A (y 0).c (EntSS_loc x.R y) (by rw [locs_len]; exact hl.1) (by rw [dats_locs]; exact hl.2) w h
    rw [locs_len, dats_locs] at this; exact this
  have ha : ∀ w, RdN w (y 0).A (EntSS_loc x.R y) → Calls Try.prog 162 #[.slice (y 0).A x.R.length (y 0).c] w fun e w' => e = .returned (.bool (x.R.all inOrd)) ∧ Below w.heap.size w w' := fun w h => by
    have := allInOrder_c (y 0).A (y 0).c (EntSS_loc x.R y) (by rw [locs_len]; exact hl.1) (by rw [dats_locs]; exact hl.2) w h
    rw [locs_len, dats_locs] at this; exact this
  have HT := Lib.hid ht; clear ht
  have HA := Lib.hid ha; clear ha
  refine ok_enter 21 Try.func99 rfl rfl rfl ?_
  repeat' (first
    | refine ok_seq ?_
    | refine ok_then ?_
    | refine ok_ret ?_
    | (refine ok_region (i := 0) ?_; refine ok_m rfl rfl rfl (by exact ms_box rfl rfl rfl) ?_; rintro y1 hy1; refine ok_p rfl rfl rfl (by exact ps_assign rfl rfl) ?_; refine ok_nil ?_; refine ok_env [(1, _)] ⟨rfl, trivial⟩ ?_)
    | (refine ok_region (i := 1) ?_; refine ok_p rfl rfl rfl (by exact ps_field rfl rfl (by exact isw_ga _)) ?_; refine ok_p rfl rfl rfl (by exact ps_load rfl rfl (by exact Rds.cell (rds_box 0 rfl) rfl)) ?_; refine ok_m rfl rfl rfl (by exact ms_s1 rfl rfl (fun _ _ w hw => HT.out w (RdN.keep hw H.out (by exact List.mem_cons_self)))) ?_; rintro y5 hy5; refine ok_p rfl rfl rfl (by exact ps_int rfl rfl rfl rfl) ?_; refine ok_p rfl rfl rfl (by exact ps_move rfl rfl) ?_; refine ok_pg rfl rfl rfl rfl rfl (gT _) (fun hp => by (have hpd := hp; (try simp only [decide_eq_true_eq, decide_eq_false_iff_not, Bool.or_eq_true, Bool.or_eq_false_iff, Bool.and_eq_true, Bool.and_eq_false_iff, Bool.not_eq_true', Bool.not_eq_false', bne_iff_ne, beq_iff_eq, bne_eq_false_iff_eq, beq_eq_false_iff_ne, ne_eq, Bool.not_true, Bool.not_false, Bool.false_eq_true, Bool.true_eq_false, inB_true, inB_false] at hpd); exact ps_field rfl (by exact rfl) (by exact isw_ga _))) ?_; refine ok_pg rfl rfl rfl rfl rfl (gT _) (fun hp => by (have hpd := hp; (try simp only [decide_eq_true_eq, decide_eq_false_iff_not, Bool.or_eq_true, Bool.or_eq_false_iff, Bool.and_eq_true, Bool.and_eq_false_iff, Bool.not_eq_true', Bool.not_eq_false', bne_iff_ne, beq_iff_eq, bne_eq_false_iff_eq, beq_eq_false_iff_ne, ne_eq, Bool.not_true, Bool.not_false, Bool.false_eq_true, Bool.true_eq_false, inB_true, inB_false] at hpd); exact ps_load rfl (by (refine og rfl ?_; assumption)) (by exact Rds.cell (rds_box 0 rfl) rfl))) ?_; refine ok_mg rfl rfl rfl rfl rfl (gT _) (fun hp => by (have hpd := hp; (try simp only [decide_eq_true_eq, decide_eq_false_iff_not, Bool.or_eq_true, Bool.or_eq_false_iff, Bool.and_eq_true, Bool.and_eq_false_iff, Bool.not_eq_true', Bool.not_eq_false', bne_iff_ne, beq_iff_eq, bne_eq_false_iff_eq, beq_eq_false_iff_ne, ne_eq, Bool.not_true, Bool.not_false, Bool.false_eq_true, Bool.true_eq_false, inB_true, inB_false] at hpd); exact ms_s1 rfl (by (refine og rfl ?_; assumption)) (fun _ _ w hw => HA.out w (RdN.keep hw H.out (by exact List.mem_cons_self))))) ?_; refine ok_p rfl rfl rfl (by exact ps_and rfl rfl rfl) ?_; refine ok_p rfl rfl rfl (by exact ps_move rfl rfl) ?_; refine ok_pg rfl rfl rfl rfl rfl (gT _) (fun hp => by (have hpd := hp; (try simp only [decide_eq_true_eq, decide_eq_false_iff_not, Bool.or_eq_true, Bool.or_eq_false_iff, Bool.and_eq_true, Bool.and_eq_false_iff, Bool.not_eq_true', Bool.not_eq_false', bne_iff_ne, beq_iff_eq, bne_eq_false_iff_eq, beq_eq_false_iff_ne, ne_eq, Bool.not_true, Bool.not_false, Bool.false_eq_true, Bool.true_eq_false, inB_true, inB_false] at hpd); exact ps_field rfl (by exact rfl) (by exact isw_ga _))) ?_; refine ok_pg rfl rfl rfl rfl rfl (gT _) (fun hp => by (have hpd := hp; (try simp only [decide_eq_true_eq, decide_eq_false_iff_not, Bool.or_eq_true, Bool.or_eq_false_iff, Bool.and_eq_true, Bool.and_eq_false_iff, Bool.not_eq_true', Bool.not_eq_false', bne_iff_ne, beq_iff_eq, bne_eq_false_iff_eq, beq_eq_false_iff_ne, ne_eq, Bool.not_true, Bool.not_false, Bool.false_eq_true, Bool.true_eq_false, inB_true, inB_false] at hpd); exact ps_load rfl (by (refine og rfl ?_; assumption)) (by exact Rds.cell (rds_box 0 rfl) rfl))) ?_; refine ok_pg rfl rfl rfl rfl rfl (gT _) (fun hp => by (have hpd := hp; (try simp only [decide_eq_true_eq, decide_eq_false_iff_not, Bool.or_eq_true, Bool.or_eq_false_iff, Bool.and_eq_true, Bool.and_eq_false_iff, Bool.not_eq_true', Bool.not_eq_false', bne_iff_ne, beq_iff_eq, bne_eq_false_iff_eq, beq_eq_false_iff_ne, ne_eq, Bool.not_true, Bool.not_false, Bool.false_eq_true, Bool.true_eq_false, inB_true, inB_false] at hpd); exact ps_move rfl (by (refine og rfl ?_; assumption)))) ?_; refine ok_pgg rfl rfl rfl rfl rfl (gF _) (fun hq hp hqp => by (have hqd := hq; (try simp only [decide_eq_true_eq, decide_eq_false_iff_not, Bool.or_eq_true, Bool.or_eq_false_iff, Bool.and_eq_true, Bool.and_eq_false_iff, Bool.not_eq_true', Bool.not_eq_false', bne_iff_ne, beq_iff_eq, bne_eq_false_iff_eq, beq_eq_false_iff_ne, ne_eq, Bool.not_true, Bool.not_false, Bool.false_eq_true, Bool.true_eq_false, inB_true, inB_false] at hqd); have hpd := hp; (try simp only [decide_eq_true_eq, decide_eq_false_iff_not, Bool.or_eq_true, Bool.or_eq_false_iff, Bool.and_eq_true, Bool.and_eq_false_iff, Bool.not_eq_true', Bool.not_eq_false', bne_iff_ne, beq_iff_eq, bne_eq_false_iff_eq, beq_eq_false_iff_ne, ne_eq, Bool.not_true, Bool.not_false, Bool.false_eq_true, Bool.true_eq_false, inB_true, inB_false] at hpd); exact ps_field rfl (by exact rfl) (by exact isw_ga _))) ?_; refine ok_pgg rfl rfl rfl rfl rfl (gF _) (fun hq hp hqp => by (have hqd := hq; (try simp only [decide_eq_true_eq, decide_eq_false_iff_not, Bool.or_eq_true, Bool.or_eq_false_iff, Bool.and_eq_true, Bool.and_eq_false_iff, Bool.not_eq_true', Bool.not_eq_false', bne_iff_ne, beq_iff_eq, bne_eq_false_iff_eq, beq_eq_false_iff_ne, ne_eq, Bool.not_true, Bool.not_false, Bool.false_eq_true, Bool.true_eq_false, inB_true, inB_false] at hqd); have hpd := hp; (try simp only [decide_eq_true_eq, decide_eq_false_iff_not, Bool.or_eq_true, Bool.or_eq_false_iff, Bool.and_eq_true, Bool.and_eq_false_iff, Bool.not_eq_true', Bool.not_eq_false', bne_iff_ne, beq_iff_eq, bne_eq_false_iff_eq, beq_eq_false_iff_ne, ne_eq, Bool.not_true, Bool.not_false, Bool.false_eq_true, Bool.true_eq_false, inB_true, inB_false] at hpd); exact ps_load rfl (by (refine og rfl ?_; assumption)) (by exact Rds.cell (rds_box 0 rfl) rfl))) ?_; refine ok_pgg rfl rfl rfl rfl rfl (gF _) (fun hq hp hqp => by (have hqd := hq; (try simp only [decide_eq_true_eq, decide_eq_false_iff_not, Bool.or_eq_true, Bool.or_eq_false_iff, Bool.and_eq_true, Bool.and_eq_false_iff, Bool.not_eq_true', Bool.not_eq_false', bne_iff_ne, beq_iff_eq, bne_eq_false_iff_eq, beq_eq_false_iff_ne, ne_eq, Bool.not_true, Bool.not_false, Bool.false_eq_true, Bool.true_eq_false, inB_true, inB_false] at hqd); have hpd := hp; (try simp only [decide_eq_true_eq, decide_eq_false_iff_not, Bool.or_eq_true, Bool.or_eq_false_iff, Bool.and_eq_true, Bool.and_eq_false_iff, Bool.not_eq_true', Bool.not_eq_false', bne_iff_ne, beq_iff_eq, bne_eq_false_iff_eq, beq_eq_false_iff_ne, ne_eq, Bool.not_true, Bool.not_false, Bool.false_eq_true, Bool.true_eq_false, inB_true, inB_false] at hpd); exact ps_str rfl (by (refine og rfl ?_; assumption)) (by exact rfl) rfl)) ?_; refine ok_pg rfl rfl rfl rfl rfl (gT _) (fun hp => by (have hpd := hp; (try simp only [decide_eq_true_eq, decide_eq_false_iff_not, Bool.or_eq_true, Bool.or_eq_false_iff, Bool.and_eq_true, Bool.and_eq_false_iff, Bool.not_eq_true', Bool.not_eq_false', bne_iff_ne, beq_iff_eq, bne_eq_false_iff_eq, beq_eq_false_iff_ne, ne_eq, Bool.not_true, Bool.not_false, Bool.false_eq_true, Bool.true_eq_false, inB_true, inB_false] at hpd); exact ps_or_in (by assumption) rfl rfl rfl)) ?_; refine ok_p rfl rfl rfl (by exact ps_and rfl rfl rfl) ?_; refine ok_p rfl rfl rfl (by exact ps_assign rfl rfl) ?_; refine ok_nil ?_; refine ok_env [(2, _)] ⟨rfl, trivial⟩ ?_))
  exact ok_endL (vs := [_]) rfl ⟨rfl, trivial⟩ (fun w' hw => ⟨rfl, hw.below⟩)
theorem s_WalkOk0 (R : List LE) (A : Option Addr) (c : Nat) (sq : Int) (key : ByteArray) (on : Bool) (w : World) (h : RdN w A R) (hl : R.length ≤ 4194304) (hs : ∀ x ∈ dats R, x.length ≤ 4194304) :
    Calls Try.prog 101 #[.agg #[.slice A R.length c, .int .i64 sq, .string key, .bool on]] w fun e w' => e = .returned (.bool (decide ((offE (dats R) R.length : Int) ≤ 400) && (dats R).all inOrd && (on || sEq key ⟨#[]⟩))) ∧ Below w.heap.size w w' := by
  obtain ⟨h1, h2⟩ := h
  have ho : ∀ k, offE (dats R) k ≤ 17592186044416 := offE_le _ (by rw [dats_len]; exact hl) hs
  have HS := Lib.hid (lens_at hs); clear hs
  have HF := Lib.hid ho; clear ho
  have H2 := Lib.hid h2; clear h2
  refine ok_enter 38 Try.func101 rfl rfl rfl ?_
  repeat' (first
    | refine ok_seq ?_
    | refine ok_then ?_
    | refine ok_block ?_
    | (refine ok_region (i := 0) ?_; refine ok_m rfl rfl rfl (by exact ms_box rfl rfl rfl) ?_; rintro y1 hy1; refine ok_p rfl rfl rfl (by exact ps_assign rfl rfl) ?_; refine ok_nil ?_; refine ok_env [(1, _)] ⟨rfl, trivial⟩ ?_)
    | (refine ok_region (i := 1) ?_; refine ok_p rfl rfl rfl (by exact ps_assign rfl rfl) ?_; refine ok_nil ?_; refine ok_env [(1, _), (3, _)] ⟨rfl, rfl, trivial⟩ ?_)
    | (refine ok_region (i := 2) ?_; refine ok_p rfl rfl rfl (by exact ps_assign rfl rfl) ?_; refine ok_nil ?_; refine ok_env [(1, _), (3, _), (4, _)] ⟨rfl, rfl, rfl, trivial⟩ ?_))
  refine ok_loop (ι := { k : Nat // k ≤ R.length ∧ ∀ j, j < k → inOrd (nth R j).d = true }) (fun k => R.length - k.1) (fun k => ([(1, pt (ga (y1 0).c) 0), (3, .int .i64 (offE (dats R) k.1 : Int)), (4, .int .i64 k.1)], _, _)) ⟨0, by omega, fun j h => absurd h (Nat.not_lt_zero j)⟩ (fun a w he hw => ⟨⟨0, by omega, fun j h => absurd h (Nat.not_lt_zero j)⟩, he.sub ⟨rfl, rfl, rfl, trivial⟩, hw⟩) ?_
  rintro ⟨k, hk, hok⟩
  simp only at hk hok ⊢
  have HO := Lib.hid hok; clear hok
  have hfk := HF.out k
  have hsk : k < R.length → (nth R k).d.length ≤ 4194304 := fun h => HS.out k h
  repeat' (first
    | refine ok_seq ?_
    | refine ok_then ?_
    | refine ok_then_ret ?_
    | refine ok_block ?_
    | refine ok_in_normal ?_
    | refine ok_in_ret ?_
    | (refine ok_cond rfl (fun hc => ?_) (fun hc => ?_) <;> (have hd := hc; (try simp only [decide_eq_true_eq, decide_eq_false_iff_not, Bool.or_eq_true, Bool.or_eq_false_iff, Bool.and_eq_true, Bool.and_eq_false_iff, Bool.not_eq_true', Bool.not_eq_false', bne_iff_ne, beq_iff_eq, bne_eq_false_iff_eq, beq_eq_false_iff_ne, ne_eq, Bool.not_true, Bool.not_false, Bool.false_eq_true, Bool.true_eq_false, inB_true, inB_false] at hd)))
    | refine ok_ret ?_
    | refine ok_exit ?_
    | refine ok_skip ?_
    | (refine ok_region (i := 3) ?_; refine ok_p rfl rfl rfl (by exact ps_move rfl rfl) ?_; refine ok_p rfl rfl rfl (by exact ps_field rfl rfl (by exact isw_ga _)) ?_; refine ok_p rfl rfl rfl (by exact ps_load rfl rfl (by exact Rds.cell (rds_box 0 rfl) rfl)) ?_; refine ok_p rfl rfl rfl (by exact ps_len rfl rfl) ?_; refine ok_p rfl rfl rfl (by exact ps_int rfl rfl rfl rfl) ?_; refine ok_nil ?_; refine ok_env [(1, _), (3, _), (4, _), (9, _)] ⟨rfl, rfl, rfl, rfl, trivial⟩ ?_)
    | (refine ok_region (i := 4) ?_; refine ok_p rfl rfl rfl (by exact ps_move rfl rfl) ?_; refine ok_p rfl rfl rfl (by exact ps_add rfl rfl rfl (by omega)) ?_; refine ok_p rfl rfl rfl (by exact ps_assign rfl rfl) ?_; refine ok_nil ?_; refine ok_env [(1, _), (3, _), (4, _)] ⟨rfl, rfl, rfl, trivial⟩ ?_)
    | (refine ok_region (i := 5) ?_; refine ok_p rfl rfl rfl (by exact ps_field rfl rfl (by exact isw_ga _)) ?_; refine ok_p rfl rfl rfl (by exact ps_load rfl rfl (by exact Rds.cell (rds_box 0 rfl) rfl)) ?_; refine ok_p rfl rfl rfl (by exact ps_move rfl rfl) ?_; refine ok_p rfl rfl rfl (by exact ps_indexN rfl rfl rfl (by omega) (by exact isw_of (isS_fl (by assumption) (by omega)))) ?_; refine ok_p rfl rfl rfl (by exact ps_load rfl rfl (by exact Rds.cell (rds_rf (by assumption) (by exact List.mem_cons_self)) (by exact fl_at0 _ _ (by omega) (by decide)))) ?_; refine ok_m rfl rfl rfl (by exact ms_s1 rfl rfl (fun _ _ w hw => l9Ents_c _ _ (nth R k).d w (rds_rf (H2.out k (by omega)) (by exact List.mem_cons_self) _ _ w hw) (HS.out k (by omega)))) ?_; rintro y17 hy17; refine ok_p rfl rfl rfl (by exact ps_not rfl rfl) ?_; refine ok_nil ?_; refine ok_env [(1, _), (3, _), (4, _), (18, _)] ⟨rfl, rfl, rfl, rfl, trivial⟩ ?_)
    | (refine ok_region (i := 6) ?_; refine ok_p rfl rfl rfl (by exact ps_assign rfl rfl) ?_; refine ok_nil ?_; refine ok_env [(2, _)] ⟨rfl, trivial⟩ ?_)
    | (refine ok_region (i := 7) ?_; refine ok_p rfl rfl rfl (by exact ps_move rfl rfl) ?_; refine ok_p rfl rfl rfl (by exact ps_field rfl rfl (by exact isw_ga _)) ?_; refine ok_p rfl rfl rfl (by exact ps_load rfl rfl (by exact Rds.cell (rds_box 0 rfl) rfl)) ?_; refine ok_p rfl rfl rfl (by exact ps_move rfl rfl) ?_; refine ok_p rfl rfl rfl (by exact ps_indexN rfl rfl rfl (by omega) (by exact isw_of (isS_fl (by assumption) (by omega)))) ?_; refine ok_p rfl rfl rfl (by exact ps_load rfl rfl (by exact Rds.cell (rds_rf (by assumption) (by exact List.mem_cons_self)) (by exact fl_at0 _ _ (by omega) (by decide)))) ?_; refine ok_p rfl rfl rfl (by exact ps_len rfl rfl) ?_; refine ok_p rfl rfl rfl (by exact ps_add (n := ((nth R k).d.length : Int)) rfl rfl rfl (by have := hsk (by omega); omega)) ?_; refine ok_p rfl rfl rfl (by exact ps_assign rfl rfl) ?_; refine ok_nil ?_; refine ok_env [(1, _), (3, _), (4, _)] ⟨rfl, rfl, rfl, trivial⟩ ?_)
    | (refine ok_region (i := 8) ?_; refine ok_p rfl rfl rfl (by exact ps_move rfl rfl) ?_; refine ok_p rfl rfl rfl (by exact ps_int rfl rfl rfl rfl) ?_; refine ok_p rfl rfl rfl (by exact ps_move rfl rfl) ?_; refine ok_pg rfl rfl rfl rfl rfl (gT _) (fun hp => by (have hpd := hp; (try simp only [decide_eq_true_eq, decide_eq_false_iff_not, Bool.or_eq_true, Bool.or_eq_false_iff, Bool.and_eq_true, Bool.and_eq_false_iff, Bool.not_eq_true', Bool.not_eq_false', bne_iff_ne, beq_iff_eq, bne_eq_false_iff_eq, beq_eq_false_iff_ne, ne_eq, Bool.not_true, Bool.not_false, Bool.false_eq_true, Bool.true_eq_false, inB_true, inB_false] at hpd); exact ps_field rfl (by exact rfl) (by exact isw_ga _))) ?_; refine ok_pg rfl rfl rfl rfl rfl (gT _) (fun hp => by (have hpd := hp; (try simp only [decide_eq_true_eq, decide_eq_false_iff_not, Bool.or_eq_true, Bool.or_eq_false_iff, Bool.and_eq_true, Bool.and_eq_false_iff, Bool.not_eq_true', Bool.not_eq_false', bne_iff_ne, beq_iff_eq, bne_eq_false_iff_eq, beq_eq_false_iff_ne, ne_eq, Bool.not_true, Bool.not_false, Bool.false_eq_true, Bool.true_eq_false, inB_true, inB_false] at hpd); exact ps_load rfl (by (refine og rfl ?_; assumption)) (by exact Rds.cell (rds_box 0 rfl) rfl))) ?_; refine ok_pg rfl rfl rfl rfl rfl (gT _) (fun hp => by (have hpd := hp; (try simp only [decide_eq_true_eq, decide_eq_false_iff_not, Bool.or_eq_true, Bool.or_eq_false_iff, Bool.and_eq_true, Bool.and_eq_false_iff, Bool.not_eq_true', Bool.not_eq_false', bne_iff_ne, beq_iff_eq, bne_eq_false_iff_eq, beq_eq_false_iff_ne, ne_eq, Bool.not_true, Bool.not_false, Bool.false_eq_true, Bool.true_eq_false, inB_true, inB_false] at hpd); exact ps_move rfl (by (refine og rfl ?_; assumption)))) ?_; refine ok_pgg rfl rfl rfl rfl rfl (gF _) (fun hq hp hqp => by (have hqd := hq; (try simp only [decide_eq_true_eq, decide_eq_false_iff_not, Bool.or_eq_true, Bool.or_eq_false_iff, Bool.and_eq_true, Bool.and_eq_false_iff, Bool.not_eq_true', Bool.not_eq_false', bne_iff_ne, beq_iff_eq, bne_eq_false_iff_eq, beq_eq_false_iff_ne, ne_eq, Bool.not_true, Bool.not_false, Bool.false_eq_true, Bool.true_eq_false, inB_true, inB_false] at hqd); have hpd := hp; (try simp only [decide_eq_true_eq, decide_eq_false_iff_not, Bool.or_eq_true, Bool.or_eq_false_iff, Bool.and_eq_true, Bool.and_eq_false_iff, Bool.not_eq_true', Bool.not_eq_false', bne_iff_ne, beq_iff_eq, bne_eq_false_iff_eq, beq_eq_false_iff_ne, ne_eq, Bool.not_true, Bool.not_false, Bool.false_eq_true, Bool.true_eq_false, inB_true, inB_false] at hpd); exact ps_field rfl (by exact rfl) (by exact isw_ga _))) ?_; refine ok_pgg rfl rfl rfl rfl rfl (gF _) (fun hq hp hqp => by (have hqd := hq; (try simp only [decide_eq_true_eq, decide_eq_false_iff_not, Bool.or_eq_true, Bool.or_eq_false_iff, Bool.and_eq_true, Bool.and_eq_false_iff, Bool.not_eq_true', Bool.not_eq_false', bne_iff_ne, beq_iff_eq, bne_eq_false_iff_eq, beq_eq_false_iff_ne, ne_eq, Bool.not_true, Bool.not_false, Bool.false_eq_true, Bool.true_eq_false, inB_true, inB_false] at hqd); have hpd := hp; (try simp only [decide_eq_true_eq, decide_eq_false_iff_not, Bool.or_eq_true, Bool.or_eq_false_iff, Bool.and_eq_true, Bool.and_eq_false_iff, Bool.not_eq_true', Bool.not_eq_false', bne_iff_ne, beq_iff_eq, bne_eq_false_iff_eq, beq_eq_false_iff_ne, ne_eq, Bool.not_true, Bool.not_false, Bool.false_eq_true, Bool.true_eq_false, inB_true, inB_false] at hpd); exact ps_load rfl (by (refine og rfl ?_; assumption)) (by exact Rds.cell (rds_box 0 rfl) rfl))) ?_; refine ok_pgg rfl rfl rfl rfl rfl (gF _) (fun hq hp hqp => by (have hqd := hq; (try simp only [decide_eq_true_eq, decide_eq_false_iff_not, Bool.or_eq_true, Bool.or_eq_false_iff, Bool.and_eq_true, Bool.and_eq_false_iff, Bool.not_eq_true', Bool.not_eq_false', bne_iff_ne, beq_iff_eq, bne_eq_false_iff_eq, beq_eq_false_iff_ne, ne_eq, Bool.not_true, Bool.not_false, Bool.false_eq_true, Bool.true_eq_false, inB_true, inB_false] at hqd); have hpd := hp; (try simp only [decide_eq_true_eq, decide_eq_false_iff_not, Bool.or_eq_true, Bool.or_eq_false_iff, Bool.and_eq_true, Bool.and_eq_false_iff, Bool.not_eq_true', Bool.not_eq_false', bne_iff_ne, beq_iff_eq, bne_eq_false_iff_eq, beq_eq_false_iff_ne, ne_eq, Bool.not_true, Bool.not_false, Bool.false_eq_true, Bool.true_eq_false, inB_true, inB_false] at hpd); exact ps_str rfl (by (refine og rfl ?_; assumption)) (by exact rfl) rfl)) ?_; refine ok_pg rfl rfl rfl rfl rfl (gT _) (fun hp => by (have hpd := hp; (try simp only [decide_eq_true_eq, decide_eq_false_iff_not, Bool.or_eq_true, Bool.or_eq_false_iff, Bool.and_eq_true, Bool.and_eq_false_iff, Bool.not_eq_true', Bool.not_eq_false', bne_iff_ne, beq_iff_eq, bne_eq_false_iff_eq, beq_eq_false_iff_ne, ne_eq, Bool.not_true, Bool.not_false, Bool.false_eq_true, Bool.true_eq_false, inB_true, inB_false] at hpd); exact ps_or_in (by assumption) rfl rfl rfl)) ?_; refine ok_p rfl rfl rfl (by exact ps_and rfl rfl rfl) ?_; refine ok_p rfl rfl rfl (by exact ps_assign rfl rfl) ?_; refine ok_nil ?_; refine ok_env [(2, _)] ⟨rfl, trivial⟩ ?_))
  · have e := dat_all_false (R := R) (p := inOrd) (show k < R.length by omega) (by simpa using hc)
    exact ok_endL (vs := [_]) rfl ⟨rfl, trivial⟩ (fun w' hw => ⟨by rw [e]; simp [retV], hw.below⟩)
  · have e : inOrd (nth R k).d = true := by simpa using hc
    refine fun a w' he hw => ⟨⟨k + 1, by omega, fun j hj => by
      rcases Nat.lt_succ_iff_lt_or_eq.1 hj with h' | h'
      · exact HO.out j h'
      · subst h'; exact e⟩, by simp only; omega, he.sub ⟨rfl, ?_, rfl, trivial⟩, hw⟩
    simp only [look]; congr 2; rw [offE_succ R k (by omega)]; simp
  · obtain rfl : k = R.length := by omega
    have e := dat_all_true (R := R) (p := inOrd) (fun i hi => HO.out i hi)
    exact ok_endL (vs := [_]) rfl ⟨rfl, trivial⟩ (fun w' hw => ⟨by rw [e]; simp [retV], hw.below⟩)
theorem s_WalkOk (x : DWalk) (y : Ys) (w : World) (h : Walk_rd w x y) (hs : Walk_sm x) :
    Calls Try.prog 101 #[Walk_val x y] w fun e w' => e = .returned (.bool (fWalkOk x)) ∧ Below w.heap.size w w' := by
  have hl := Walk_sm_lim hs
  have := s_WalkOk0 (EntSS_loc x.R y) (y 0).A (y 0).c x.seq x.key x.on w h (by rw [locs_len]; exact hl.1) (by rw [dats_locs]; exact hl.2)
  rw [locs_len, dats_locs] at this
  exact this
end Go.Proofs.Ytbegbdfbfbkflaa
/- Keys found by halving; DeltaOk of both programs. -/
namespace Go.Proofs.Ytbegbdfbfbkflaa
open Go.RowKit
set_option maxHeartbeats 4000000
set_option maxRecDepth 20000
set_option linter.unusedVariables false
set_option linter.unusedSimpArgs false
attribute [local irreducible] Calls
def keyAt (l : List KV) (i : Nat) : ByteArray := (nth l i).key
def sortedK (l : List KV) : Prop := ∀ i j, i < j → j < l.length → sLt (keyAt l i) (keyAt l j) = true
def lbK (l : List KV) (k : ByteArray) : Nat := (l.takeWhile (fun x => sLt x.key k)).length
def fndK (l : List KV) (k : ByteArray) : Bool := decide ((lbK l k : Int) < (l.length : Int)) && sEq (nth l (lbK l k)).key k
theorem lbK_eq : ∀ {l : List KV} {k : ByteArray} {i : Nat}, i ≤ l.length → (∀ j, j < i → sLt (keyAt l j) k = true) → (i < l.length → sLt (keyAt l i) k = false) → lbK l k = i
  | [], k, i, h, _, _ => by have : i = 0 := by simpa using h
                            subst this; rfl
  | x :: l, k, 0, _, _, h => by
    have := h (by simp)
    have h' : sLt x.key k = false := by simpa [keyAt, nth] using this
    simp [lbK, List.takeWhile_cons, h']
  | x :: l, k, i + 1, hi, h1, h2 => by
    have h0 : sLt x.key k = true := by simpa [keyAt, nth] using h1 0 (by omega)
    have ih := lbK_eq (l := l) (k := k) (i := i) (by simpa using hi) (fun j hj => by simpa [keyAt, nth] using h1 (j + 1) (by omega)) (fun hj => by simpa [keyAt, nth] using h2 (by simpa using hj))
    unfold lbK at ih ⊢
    simp [List.takeWhile_cons, h0, ih]
theorem ps_half {P : Program} {E : Env} {H : List HObj} {G : List World} {o : Oper} {x : Operand} {t t' : TypeId} {k' : IntKind} {a b : Nat} (ho : o.op = .binOp .shr t x (.const (.int k' 1)) t') (hx : opd E x = some (.int .u64 ((a : Int) + (b : Int)))) : PStep P E H G o (.int .u64 (((a + b) / 2 : Nat) : Int)) := by
  have := ps_shr (P := P) (H := H) (G := G) (n := 1) ho hx rfl (by decide)
  have e : ((a : Int) + (b : Int)).fdiv (2 ^ (1 : Int).toNat) = (((a + b) / 2 : Nat) : Int) := by
    rw [Int.fdiv_eq_ediv_of_nonneg _ (by decide)]; simp
  rwa [e] at this
theorem bsearch_c (A : Option Addr) (c : Nat) (l : List KV) (k : ByteArray) (w : World) (h : Rd w A (fl l)) (hl : l.length ≤ 4194304) (hs : sortedK l) : Calls Try.prog 167 #[.slice A l.length c, .string k, .func (.func 168) #[] #[]] w fun e w' => e = .returned (.tuple #[.int .i64 (lbK l k : Int), .bool (fndK l k)]) ∧ Below w.heap.size w w' := by
  have HS := Lib.hid hs; clear hs
  refine ok_enter 49 Try.func167 rfl rfl rfl ?_
  repeat' (first
    | refine ok_seq ?_
    | refine ok_block ?_
    | (refine ok_region (i := 0) ?_; refine ok_p rfl rfl rfl (by exact ps_assign rfl rfl) ?_; refine ok_p rfl rfl rfl (by exact ps_assign rfl rfl) ?_; refine ok_nil ?_; refine ok_env [(0, _), (1, _), (2, _)] ⟨rfl, rfl, rfl, trivial⟩ ?_)
    | (refine ok_region (i := 1) ?_; refine ok_p rfl rfl rfl (by exact ps_move rfl rfl) ?_; refine ok_p rfl rfl rfl (by exact ps_len rfl rfl) ?_; refine ok_p rfl rfl rfl (by exact ps_assign rfl rfl) ?_; refine ok_nil ?_; refine ok_env [(0, _), (1, _), (2, _), (8, _)] ⟨rfl, rfl, rfl, rfl, trivial⟩ ?_)
    | (refine ok_region (i := 2) ?_; refine ok_p rfl rfl rfl (by exact ps_move rfl rfl) ?_; refine ok_p rfl rfl rfl (by exact ps_assign rfl rfl) ?_; refine ok_p rfl rfl rfl (by exact ps_assign rfl rfl) ?_; refine ok_nil ?_; refine ok_env [(0, _), (1, _), (2, _), (8, _), (9, _), (10, _)] ⟨rfl, rfl, rfl, rfl, rfl, rfl, trivial⟩ ?_))
  refine ok_loop (ι := { p : Nat × Nat // p.1 ≤ p.2 ∧ p.2 ≤ l.length ∧ (∀ j, j < p.1 → sLt (keyAt l j) k = true) ∧ (∀ j, p.2 ≤ j → j < l.length → sLt (keyAt l j) k = false) }) (fun p => p.1.2 - p.1.1) (fun p => ([(0, .slice A l.length c), (1, .string k), (2, .func (.func 168) #[] #[]), (8, .int .i64 l.length), (9, .int .i64 p.1.1), (10, .int .i64 p.1.2)], [], _)) ⟨(0, l.length), by simp, by simp, fun j h => absurd h (Nat.not_lt_zero j), fun j h1 h2 => absurd h1 (Nat.not_le.2 h2)⟩ (fun a w he hw => ⟨⟨(0, l.length), by simp, by simp, fun j h => absurd h (Nat.not_lt_zero j), fun j h1 h2 => absurd h1 (Nat.not_le.2 h2)⟩, he.sub ⟨rfl, rfl, rfl, rfl, rfl, rfl, trivial⟩, hw⟩) ?_
  rintro ⟨⟨i, j⟩, hij, hj, ha, hb⟩
  simp only at hij hj ha hb ⊢
  have HA := Lib.hid ha; clear ha
  have HB := Lib.hid hb; clear hb
  repeat' (first
    | refine ok_seq ?_
    | refine ok_then ?_
    | refine ok_block ?_
    | refine ok_in_normal ?_
    | (refine ok_cond rfl (fun hc => ?_) (fun hc => ?_) <;> (have hd := hc; (try simp only [decide_eq_true_eq, decide_eq_false_iff_not, Bool.or_eq_true, Bool.or_eq_false_iff, Bool.and_eq_true, Bool.and_eq_false_iff, Bool.not_eq_true', Bool.not_eq_false', bne_iff_ne, beq_iff_eq, bne_eq_false_iff_eq, beq_eq_false_iff_ne, ne_eq, Bool.not_true, Bool.not_false, Bool.false_eq_true, Bool.true_eq_false, inB_true, inB_false] at hd)))
    | refine ok_ret ?_
    | refine ok_exit ?_
    | refine ok_skip ?_
    | (refine ok_region (i := 3) ?_; refine ok_p rfl rfl rfl (by exact ps_move rfl rfl) ?_; refine ok_p rfl rfl rfl (by exact ps_move rfl rfl) ?_; refine ok_p rfl rfl rfl (by exact ps_int rfl rfl rfl rfl) ?_; refine ok_nil ?_; refine ok_env [(0, _), (1, _), (2, _), (8, _), (9, _), (10, _), (17, _)] ⟨rfl, rfl, rfl, rfl, rfl, rfl, rfl, trivial⟩ ?_)
    | (refine ok_region (i := 4) ?_; refine ok_p rfl rfl rfl (by exact ps_move rfl rfl) ?_; refine ok_p rfl rfl rfl (by exact ps_move rfl rfl) ?_; refine ok_p rfl rfl rfl (by exact ps_add rfl rfl rfl (by omega)) ?_; refine ok_p rfl rfl rfl (by exact ps_conv_id rfl rfl (IntWalk.u64_in _ (by omega))) ?_; refine ok_p rfl rfl rfl (by exact ps_half rfl rfl) ?_; refine ok_p rfl rfl rfl (by exact ps_conv_id rfl rfl (IntWalk.i64_in _ (by omega))) ?_; refine ok_p rfl rfl rfl (by exact ps_assign rfl rfl) ?_; refine ok_nil ?_; refine ok_env [(0, _), (1, _), (2, _), (8, _), (9, _), (10, _), (11, _)] ⟨rfl, rfl, rfl, rfl, rfl, rfl, rfl, trivial⟩ ?_)
    | (refine ok_region (i := 5) ?_; refine ok_p rfl rfl rfl (by exact ps_move rfl rfl) ?_; refine ok_p rfl rfl rfl (by exact ps_move rfl rfl) ?_; refine ok_p rfl rfl rfl (by exact ps_move rfl rfl) ?_; refine ok_p rfl rfl rfl (by exact ps_indexN rfl rfl rfl (by omega) (by exact isw_of (isS_fl (by assumption) (by omega)))) ?_; refine ok_p rfl rfl rfl (by exact ps_loadsF rfl rfl (by exact rds_rf (by assumption) (by exact List.mem_cons_self)) (by rfl) (by rfl) (by omega) rfl) ?_; refine ok_p rfl rfl rfl (by exact ps_move rfl rfl) ?_; refine ok_m rfl rfl rfl (by exact ms_v2 rfl rfl rfl rfl (fun _ _ w hw => kcmp_c (nth l ((i + j) / 2)) _ w)) ?_; rintro y30 hy30; refine ok_p rfl rfl rfl (by exact ps_int rfl rfl rfl rfl) ?_; refine ok_nil ?_; refine ok_env [(0, _), (1, _), (2, _), (8, _), (9, _), (10, _), (11, _), (31, _)] ⟨rfl, rfl, rfl, rfl, rfl, rfl, rfl, rfl, trivial⟩ ?_)
    | (refine ok_region (i := 6) ?_; refine ok_p rfl rfl rfl (by exact ps_move rfl rfl) ?_; refine ok_p rfl rfl rfl (by exact ps_add rfl rfl rfl (by omega)) ?_; refine ok_p rfl rfl rfl (by exact ps_assign rfl rfl) ?_; refine ok_nil ?_; refine ok_env [(0, _), (1, _), (2, _), (8, _), (9, _), (10, _)] ⟨rfl, rfl, rfl, rfl, rfl, rfl, trivial⟩ ?_)
    | (refine ok_region (i := 7) ?_; refine ok_p rfl rfl rfl (by exact ps_move rfl rfl) ?_; refine ok_p rfl rfl rfl (by exact ps_assign rfl rfl) ?_; refine ok_nil ?_; refine ok_env [(0, _), (1, _), (2, _), (8, _), (9, _), (10, _)] ⟨rfl, rfl, rfl, rfl, rfl, rfl, trivial⟩ ?_)
    | (refine ok_region (i := 8) ?_; refine ok_p rfl rfl rfl (by exact ps_move rfl rfl) ?_; refine ok_p rfl rfl rfl (by exact ps_move rfl rfl) ?_; refine ok_p rfl rfl rfl (by exact ps_move rfl rfl) ?_; refine ok_p rfl rfl rfl (by exact ps_int rfl rfl rfl rfl) ?_; refine ok_p rfl rfl rfl (by exact ps_move rfl rfl) ?_; refine ok_pg rfl rfl rfl rfl rfl (gT _) (fun hp => by (have hpd := hp; (try simp only [decide_eq_true_eq, decide_eq_false_iff_not, Bool.or_eq_true, Bool.or_eq_false_iff, Bool.and_eq_true, Bool.and_eq_false_iff, Bool.not_eq_true', Bool.not_eq_false', bne_iff_ne, beq_iff_eq, bne_eq_false_iff_eq, beq_eq_false_iff_ne, ne_eq, Bool.not_true, Bool.not_false, Bool.false_eq_true, Bool.true_eq_false, inB_true, inB_false] at hpd); exact ps_move rfl (by exact rfl))) ?_; refine ok_pg rfl rfl rfl rfl rfl (gT _) (fun hp => by (have hpd := hp; (try simp only [decide_eq_true_eq, decide_eq_false_iff_not, Bool.or_eq_true, Bool.or_eq_false_iff, Bool.and_eq_true, Bool.and_eq_false_iff, Bool.not_eq_true', Bool.not_eq_false', bne_iff_ne, beq_iff_eq, bne_eq_false_iff_eq, beq_eq_false_iff_ne, ne_eq, Bool.not_true, Bool.not_false, Bool.false_eq_true, Bool.true_eq_false, inB_true, inB_false] at hpd); exact ps_move rfl (by exact rfl))) ?_; refine ok_pg rfl rfl rfl rfl rfl (gT _) (fun hp => by (have hpd := hp; (try simp only [decide_eq_true_eq, decide_eq_false_iff_not, Bool.or_eq_true, Bool.or_eq_false_iff, Bool.and_eq_true, Bool.and_eq_false_iff, Bool.not_eq_true', Bool.not_eq_false', bne_iff_ne, beq_iff_eq, bne_eq_false_iff_eq, beq_eq_false_iff_ne, ne_eq, Bool.not_true, Bool.not_false, Bool.false_eq_true, Bool.true_eq_false, inB_true, inB_false] at hpd); exact ps_move rfl (by exact rfl))) ?_; refine ok_pg rfl rfl rfl rfl rfl (gT _) (fun hp => by (have hpd := hp; (try simp only [decide_eq_true_eq, decide_eq_false_iff_not, Bool.or_eq_true, Bool.or_eq_false_iff, Bool.and_eq_true, Bool.and_eq_false_iff, Bool.not_eq_true', Bool.not_eq_false', bne_iff_ne, beq_iff_eq, bne_eq_false_iff_eq, beq_eq_false_iff_ne, ne_eq, Bool.not_true, Bool.not_false, Bool.false_eq_true, Bool.true_eq_false, inB_true, inB_false] at hpd); exact ps_indexN rfl (by (refine og rfl ?_; assumption)) (by (refine og rfl ?_; assumption)) (by omega) (by exact isw_of (isS_fl (by assumption) (by omega))))) ?_; refine ok_pg rfl rfl rfl rfl rfl (gT _) (fun hp => by (have hpd := hp; (try simp only [decide_eq_true_eq, decide_eq_false_iff_not, Bool.or_eq_true, Bool.or_eq_false_iff, Bool.and_eq_true, Bool.and_eq_false_iff, Bool.not_eq_true', Bool.not_eq_false', bne_iff_ne, beq_iff_eq, bne_eq_false_iff_eq, beq_eq_false_iff_ne, ne_eq, Bool.not_true, Bool.not_false, Bool.false_eq_true, Bool.true_eq_false, inB_true, inB_false] at hpd); exact ps_loadsF rfl (by (refine og rfl ?_; assumption)) (by exact rds_rf (by assumption) (by exact List.mem_cons_self)) (by rfl) (by rfl) (by omega) rfl)) ?_; refine ok_pg rfl rfl rfl rfl rfl (gT _) (fun hp => by (have hpd := hp; (try simp only [decide_eq_true_eq, decide_eq_false_iff_not, Bool.or_eq_true, Bool.or_eq_false_iff, Bool.and_eq_true, Bool.and_eq_false_iff, Bool.not_eq_true', Bool.not_eq_false', bne_iff_ne, beq_iff_eq, bne_eq_false_iff_eq, beq_eq_false_iff_ne, ne_eq, Bool.not_true, Bool.not_false, Bool.false_eq_true, Bool.true_eq_false, inB_true, inB_false] at hpd); exact ps_move rfl (by exact rfl))) ?_; refine ok_mg rfl rfl rfl rfl rfl (gT _) (fun hp => by (have hpd := hp; (try simp only [decide_eq_true_eq, decide_eq_false_iff_not, Bool.or_eq_true, Bool.or_eq_false_iff, Bool.and_eq_true, Bool.and_eq_false_iff, Bool.not_eq_true', Bool.not_eq_false', bne_iff_ne, beq_iff_eq, bne_eq_false_iff_eq, beq_eq_false_iff_ne, ne_eq, Bool.not_true, Bool.not_false, Bool.false_eq_true, Bool.true_eq_false, inB_true, inB_false] at hpd); exact ms_v2 rfl (by first | (refine og rfl ?_; assumption) | exact rfl) (by first | (refine og rfl ?_; assumption) | exact rfl) (by first | (refine og rfl ?_; assumption) | exact rfl) (fun _ _ w hw => kcmp_c (nth l i) _ w))) ?_; refine ok_pg rfl rfl rfl rfl rfl (gT _) (fun hp => by (have hpd := hp; (try simp only [decide_eq_true_eq, decide_eq_false_iff_not, Bool.or_eq_true, Bool.or_eq_false_iff, Bool.and_eq_true, Bool.and_eq_false_iff, Bool.not_eq_true', Bool.not_eq_false', bne_iff_ne, beq_iff_eq, bne_eq_false_iff_eq, beq_eq_false_iff_ne, ne_eq, Bool.not_true, Bool.not_false, Bool.false_eq_true, Bool.true_eq_false, inB_true, inB_false] at hpd); exact ps_int rfl (by (refine og rfl ?_; assumption)) (by exact rfl) rfl)) ?_; refine ok_p rfl rfl rfl (by exact ps_and rfl rfl rfl) ?_; refine ok_p rfl rfl rfl (by exact ps_assign rfl rfl) ?_; refine ok_p rfl rfl rfl (by exact ps_assign rfl rfl) ?_; refine ok_nil ?_; refine ok_env [(6, _), (7, _)] ⟨rfl, rfl, trivial⟩ ?_))
  · rw [cmpS_lt] at hc
    exact fun a w' he hw => ⟨⟨((i + j) / 2 + 1, j), by simp only; omega, by simp only; omega, fun q hq => by
      simp only at hq
      rcases Nat.lt_succ_iff_lt_or_eq.1 hq with h' | h'
      · exact sLt_trans (HS.out q _ h' (by omega)) hc
      · subst h'; exact hc, HB.out⟩, by simp only; omega, he.sub ⟨rfl, rfl, rfl, rfl, rfl, rfl, trivial⟩, hw⟩
  · rw [cmpS_lt] at hc
    exact fun a w' he hw => ⟨⟨(i, (i + j) / 2), by simp only; omega, by simp only; omega, HA.out, fun q h1 h2 => by
      simp only at h1
      rcases Nat.eq_or_lt_of_le h1 with h' | h'
      · subst h'; exact hc
      · cases hq : sLt (keyAt l q) k with
        | false => rfl
        | true =>
          have := sLt_trans (HS.out _ q h' h2) hq
          unfold keyAt at this
          rw [hc] at this; cases this⟩, by simp only; omega, he.sub ⟨rfl, rfl, rfl, rfl, rfl, rfl, trivial⟩, hw⟩
  · obtain rfl : i = j := by omega
    have e := lbK_eq (l := l) (k := k) (i := i) hj HA.out (fun h => HB.out i (Nat.le_refl _) h)
    refine ok_endL (vs := [_, _]) rfl ⟨rfl, rfl, trivial⟩ (fun w' hw => ⟨?_, hw.below⟩)
    unfold fndK
    rw [e, ← cmpS_eq]; rfl
theorem findKey_c (A : Option Addr) (c : Nat) (l : List KV) (k : ByteArray) (w : World) (h : Rd w A (fl l)) (hl : l.length ≤ 4194304) (hs : sortedK l) : Calls Try.prog 107 #[.slice A l.length c, .string k] w fun e w' => e = .returned (.tuple #[.int .i64 (lbK l k : Int), .bool (fndK l k)]) ∧ Below w.heap.size w w' := by
  have HS := Lib.hid hs; clear hs
  refine ok_enter 11 Try.func107 rfl rfl rfl ?_
  repeat' (first
    | refine ok_seq ?_
    | refine ok_then ?_
    | refine ok_ret ?_
    | (refine ok_region (i := 0) ?_; refine ok_p rfl rfl rfl (by exact ps_assign rfl rfl) ?_; refine ok_p rfl rfl rfl (by exact ps_assign rfl rfl) ?_; refine ok_nil ?_; refine ok_env [(0, _), (1, _)] ⟨rfl, rfl, trivial⟩ ?_)
    | (refine ok_region (i := 1) ?_; refine ok_p rfl rfl rfl (by exact ps_move rfl rfl) ?_; refine ok_p rfl rfl rfl (by exact ps_move rfl rfl) ?_; refine ok_m rfl rfl rfl (by exact ms_s3 rfl rfl rfl rfl (fun _ _ w hw => bsearch_c A _ l k w (rds_rf h (by exact List.mem_cons_self) _ _ w hw) hl HS.out)) ?_; rintro y8 hy8; refine ok_p rfl rfl rfl (by exact ps_extract rfl rfl rfl) ?_; refine ok_p rfl rfl rfl (by exact ps_extract rfl rfl rfl) ?_; refine ok_p rfl rfl rfl (by exact ps_assign rfl rfl) ?_; refine ok_p rfl rfl rfl (by exact ps_assign rfl rfl) ?_; refine ok_nil ?_; refine ok_env [(4, _), (5, _)] ⟨rfl, rfl, trivial⟩ ?_))
  exact ok_endL (vs := [_, _]) rfl ⟨rfl, rfl, trivial⟩ (fun w hw => ⟨rfl, hw.below⟩)
end Go.Proofs.Ytbegbdfbfbkflaa
/- KVS in the uniform style. -/
namespace Go.Proofs.Ytbegbdfbfbkflaa
open Go.RowKit
set_option maxHeartbeats 4000000
set_option maxRecDepth 20000
set_option linter.unusedVariables false
set_option linter.unusedSimpArgs false
attribute [local irreducible] Calls
end Go.Proofs.Ytbegbdfbfbkflaa
/- slices.Clone of ints; a slice against nil. -/
namespace Go.Proofs.Ytbegbdfbfbkflaa
open Go.RowKit
set_option maxHeartbeats 4000000
set_option maxRecDepth 20000
set_option linter.unusedVariables false
set_option linter.unusedSimpArgs false
theorem run_eqGuard_slice {P : Program} (w : World) (p : BinOp) (t : TypeId) (x y : Operand) (A B : Option Addr) (n c n' c' : Nat) : (eqGuard p t x y (.slice A n c) (.slice B n' c')).run P w = .ok () w := by
  unfold eqGuard
  cases p <;> rfl
theorem ps_eql_nil {P : Program} {E : Env} {H : List HObj} {G : List World} {o : Oper} {x : Operand} {t t' e sz bytes : TypeId} {A : Option Addr} {n c : Nat} [ht : EL P t e sz bytes] (ho : o.op = .binOp .eql t x (.const (.slice none 0 0)) t') (hx : opd E x = some (.slice A n c)) : PStep P E H G o (.bool A.isNone) := fun N base w0 a w he hw => by
  have h := Lib.run_eql_slice_nil (P := P) w t e A n c 0 0 ht.h.1
  have hy : a.eval (.const (.slice none 0 0)) = .slice none 0 0 := rfl
  simp [execOp, ho, he.eval hx, hy, run_eqGuard_slice, h]
attribute [local irreducible] Calls
end Go.Proofs.Ytbegbdfbfbkflaa
/- CRow: rows of it: size, copy, comparison, marks. -/
namespace Go.Proofs.Ytbegbdfbfbkflaa
open Go.RowKit
set_option maxHeartbeats 2000000
set_option maxRecDepth 20000
set_option linter.unusedVariables false
set_option linter.unusedSimpArgs false
attribute [local irreducible] Calls
structure CRow where
  tenant : Int
  no : Int
  text : ByteArray
  deriving DecidableEq
instance : Dat CRow := ⟨3, fun x => [.int .i64 x.tenant, .int .i64 x.no, .string x.text], fun _ => rfl, ⟨0, 0, ⟨#[]⟩⟩⟩
instance : Mk CRow := ⟨3, fun q => ⟨q, q + 1, mT (q + 1 + 1)⟩⟩
end Go.Proofs.Ytbegbdfbfbkflaa
/- The record CRow by its type. -/
namespace Go.Proofs.Ytbegbdfbfbkflaa
open Go.RowKit
set_option linter.unusedVariables false
set_option linter.unusedSimpArgs false
end Go.Proofs.Ytbegbdfbfbkflaa
/- Cache in the uniform style: size, copy, comparison, marks. -/
namespace Go.Proofs.Ytbegbdfbfbkflaa
open Go.RowKit
set_option maxHeartbeats 4000000
set_option maxRecDepth 20000
set_option linter.unusedVariables false
set_option linter.unusedSimpArgs false
attribute [local irreducible] Calls
structure DCache where
  cap : Int
  R : List CRow
  deriving DecidableEq
end Go.Proofs.Ytbegbdfbfbkflaa
/- Finding and deleting in a row by a function; cache rows. -/
namespace Go.Proofs.Ytbegbdfbfbkflaa
open Go.RowKit
set_option maxHeartbeats 4000000
set_option maxRecDepth 20000
set_option linter.unusedVariables false
set_option linter.unusedSimpArgs false
section
variable {P : Program} {E : Env} {H : List HObj} {G : List World} {o : Oper}
theorem add_zero_all (A : Option Addr) (k : Nat) : A.map (·.add (0 * k)) = A := by
  cases A <;> simp [Addr.add]
theorem ps_slice0 {x : Operand} {hi : Operand} {t e sz bytes : TypeId} {A : Option Addr} {n c : Nat} {h : Nat} {z : Int} {k : IntKind} [ht : EL P t e sz bytes] (ho : o.op = .slice t x none (some hi) none) (hx : opd E x = some (.slice A n c))
    (hhi : opd E hi = some (.int k z)) (hz : z = (h : Int)) (h2 : h ≤ c) : PStep P E H G o (.slice A h c) := by
  subst hz
  have := ps_slice (P := P) (E := E) (H := H) (G := G) (l := 0) (h := h) ho hx rfl ⟨k, hhi⟩ (by omega) h2
  rw [add_zero_all] at this
  simpa using this
theorem ps_sliceE {x : Operand} {lo : Operand} {t e sz bytes : TypeId} {A : Option Addr} {n c : Nat} {l : Nat} {z : Int} {k : IntKind} [ht : EL P t e sz bytes] (ho : o.op = .slice t x (some lo) none none) (hx : opd E x = some (.slice A n c))
    (hlo : opd E lo = some (.int k z)) (hz : z = (l : Int)) (h1 : l ≤ n) (h2 : n ≤ c) : PStep P E H G o (.slice (if c = l then A else A.map (·.add (l * sz))) (n - l) (c - l)) := by
  subst hz
  exact ps_slice (l := l) (h := n) ho hx ⟨k, hlo⟩ rfl h1 h2
theorem fl_drop {α : Type} [Dat α] : ∀ (l : List α) (i : Nat), (fl l).drop (i * Dat.sz α) = fl (l.drop i)
  | [], i => by simp [fl]
  | x :: l, 0 => by simp [fl]
  | x :: l, i + 1 => by
    have ih := fl_drop l i
    rw [List.drop_succ_cons, fl_cons, ← ih]
    have : (i + 1) * Dat.sz α = (Dat.cells x).length + i * Dat.sz α := by rw [Dat.len, Nat.add_mul]; omega
    rw [this, List.drop_length_add_append]
theorem rds_tail {α : Type} [Dat α] {A : Option Addr} {c j sz : Nat} {L : List α} (h : Rds H G A (fl L)) (hs : Dat.sz α = sz) (hc : L.length ≤ c) (hj : j ≤ L.length) : Rds H G (if c = j then A else A.map (·.add (j * sz))) (fl (L.drop j)) := by
  by_cases h0 : c = j
  · rw [if_pos h0, List.drop_of_length_le (by omega)]
    exact fun _ _ w _ => Rd.nil w A
  · rw [if_neg h0]
    have := h.sub (i := j * sz) (n := (fl L).length)
    rw [← hs, fl_drop, List.take_of_length_le (by rw [fl_len, fl_len, List.length_drop]; exact Nat.mul_le_mul_right _ (by omega)), hs] at this
    exact this
end
def Keeps (m w : World) : Prop := ∀ p u, m.cell? p = some u → w.cell? p = some u
theorem Rd.keeps {m w : World} {A : Option Addr} {us : List Value} (h : Rd m A us) (hk : Keeps m w) : Rd w A us := fun j u hu => by
  obtain ⟨ad, e, hc⟩ := h j u hu
  exact ⟨ad, e, hk _ _ hc⟩
theorem WOk.keeps {m w w0 : World} {base : Nat} {H : List HObj} {G : List World} (hw : WOk base w0 H G w) (hm : m ∈ G) : Keeps m w := fun p u hp => (hw.ref m hm p u hp).1
attribute [local irreducible] Calls
instance : OneC CRow := ⟨fun x u hu => by
  have : u = .int .i64 x.tenant ∨ u = .int .i64 x.no ∨ u = .string x.text := by simpa [Dat.cells] using hu
  rcases this with rfl | rfl | rfl <;> rfl⟩
/-- slices.DeleteFunc in an own row. -/
structure DelI (R : List CRow) (p : CRow → Bool) where
  i : Nat
  j : Nat
  L : List CRow
  hl : L.length = R.length
  hi : L.take i = (R.take j).filter (fun x => !p x)
  hil : i = ((R.take j).filter (fun x => !p x)).length
  hd : L.drop j = R.drop j
  hj : j ≤ R.length
theorem DelI.le {R : List CRow} {p : CRow → Bool} (q : DelI R p) : q.i ≤ q.j := by
  have h1 := q.hil
  have h2 := List.length_filter_le (fun x => !p x) (R.take q.j)
  rw [List.length_take] at h2
  omega
theorem takeN {R : List CRow} {j : Nat} (h : j < R.length) : R.take (j + 1) = R.take j ++ [nth R j] := by
  rw [List.take_add_one, List.getElem?_eq_getElem h]
  simp [nth, h]
theorem dropN {R : List CRow} {j : Nat} (h : j < R.length) : R.drop j = nth R j :: R.drop (j + 1) := by
  rw [List.drop_eq_getElem_cons h]
  simp [nth, h]
def DelI.keep {R : List CRow} {p : CRow → Bool} (q : DelI R p) (h : q.j < R.length) (hp : p (nth R q.j) = false) : DelI R p :=
  ⟨q.i + 1, q.j + 1, q.L.set q.i (nth R q.j), by rw [List.length_set]; exact q.hl, by
    have hle := q.le
    have hlt : q.i < q.L.length := by rw [q.hl]; omega
    rw [takeN h, List.filter_append, ← q.hi]
    simp only [List.filter_cons, hp, Bool.not_false, if_true, List.filter_nil]
    rw [List.take_add_one, List.take_set_of_le (Nat.le_refl _), List.getElem?_set_self hlt]; rfl, by
    rw [takeN h, List.filter_append, List.length_append, ← q.hil]
    simp [hp], by
    have hle := q.le
    rw [List.drop_set_of_lt (by omega)]
    have := congrArg (List.drop 1) q.hd
    simpa [List.drop_drop] using this, by omega⟩
def DelI.skip {R : List CRow} {p : CRow → Bool} (q : DelI R p) (h : q.j < R.length) (hp : p (nth R q.j) = true) : DelI R p :=
  ⟨q.i, q.j + 1, q.L, q.hl, by
    rw [takeN h, List.filter_append, ← q.hi]
    simp [hp], by
    rw [takeN h, List.filter_append, List.length_append, ← q.hil]
    simp [hp], by
    have := congrArg (List.drop 1) q.hd
    simpa [List.drop_drop] using this, by omega⟩
theorem DelI.at_ {R : List CRow} {p : CRow → Bool} (q : DelI R p) (h : q.j < R.length) : nth q.L q.j = nth R q.j := by
  have e := q.hd
  have hl := q.hl
  rw [dropN h, dropN (show q.j < q.L.length by omega)] at e
  exact (List.cons.inj e).1
end Go.Proofs.Ytbegbdfbfbkflaa
/- Cache: both programs. -/
namespace Go.Proofs.Ytbegbdfbfbkflaa
open Go.RowKit
set_option maxHeartbeats 4000000
set_option maxRecDepth 20000
set_option linter.unusedVariables false
set_option linter.unusedSimpArgs false
attribute [local irreducible] Calls
end Go.Proofs.Ytbegbdfbfbkflaa
/- CacheGet and CacheWipe of both programs. -/
namespace Go.Proofs.Ytbegbdfbfbkflaa
open Go.RowKit
set_option maxHeartbeats 4000000
set_option maxRecDepth 20000
set_option linter.unusedVariables false
set_option linter.unusedSimpArgs false
attribute [local irreducible] Calls
theorem WOk.rowNil {base : Nat} {w0 w : World} {H : List HObj} {G : List World} (e sz : Nat) (hw : WOk base w0 H G w) : WOk base w0 (.row e sz none 0 0 [] :: H) G w :=
  hw.grow (Hn := [.row e sz none 0 0 []]) (Gn := []) (Below.refl _ _) (NewOk.one (x := .row e sz none 0 0 []) (Own.nil w _ e sz))
structure WipI (R : List CRow) where
  k : Nat
  A : Option Addr
  c : Nat
  hk : k ≤ R.length
end Go.Proofs.Ytbegbdfbfbkflaa
/- CacheGet of both programs. -/
namespace Go.Proofs.Ytbegbdfbfbkflaa
open Go.RowKit
set_option maxHeartbeats 4000000
set_option maxRecDepth 20000
set_option linter.unusedVariables false
set_option linter.unusedSimpArgs false
attribute [local irreducible] Calls
end Go.Proofs.Ytbegbdfbfbkflaa
/- CacheGet of the reference. -/
namespace Go.Proofs.Ytbegbdfbfbkflaa
open Go.RowKit
set_option maxHeartbeats 4000000
set_option maxRecDepth 20000
set_option linter.unusedVariables false
set_option linter.unusedSimpArgs false
attribute [local irreducible] Calls
end Go.Proofs.Ytbegbdfbfbkflaa
/- DiffMap of both programs. -/
namespace Go.Proofs.Ytbegbdfbfbkflaa
open Go.RowKit
set_option maxHeartbeats 4000000
set_option maxRecDepth 20000
set_option linter.unusedVariables false
set_option linter.unusedSimpArgs false
instance : OneC KV := ⟨fun x u hu => by
  have : u = .string x.key ∨ u = .string x.val := by simpa [Dat.cells] using hu
  rcases this with rfl | rfl <;> rfl⟩
instance : OneC ByteArray := ⟨fun x u hu => by
  have : u = .string x := by simpa [Dat.cells] using hu
  subst this; rfl⟩
structure DfI (n : Nat) where
  k : Nat
  A : Option Addr
  c : Nat
  hk : k ≤ n
attribute [local irreducible] Calls
end Go.Proofs.Ytbegbdfbfbkflaa
/- Maps with a key put or dropped, in plain Lean. -/
namespace Go.Proofs.Ytbegbdfbfbkflaa
set_option linter.unusedVariables false
def ltK (x y : KV) : Prop := sLt x.key y.key = true
def srtK (R : List KV) : Prop := R.Pairwise ltK
theorem keyAt_eq (l : List KV) (i : Nat) (h : i < l.length) : keyAt l i = l[i].key := by
  unfold keyAt nth; rw [List.getD_eq_getElem?_getD, List.getElem?_eq_getElem h]; rfl
theorem srtK_iff {R : List KV} : sortedK R ↔ srtK R := by
  unfold sortedK srtK
  rw [List.pairwise_iff_getElem]
  constructor
  · intro h i j hi hj hij
    have := h i j hij hj
    rw [keyAt_eq _ _ hi, keyAt_eq _ _ hj] at this
    exact this
  · intro h i j hij hj
    have := h i j (by omega) hj hij
    rw [keyAt_eq _ _ (by omega), keyAt_eq _ _ hj]
    exact this
def neK (k : ByteArray) (x : KV) : Bool := !sEq x.key k
/-- What is ahead of a key, what is not. -/
def hdK (R : List KV) (k : ByteArray) : List KV := R.takeWhile (fun x => sLt x.key k)
def tlK (R : List KV) (k : ByteArray) : List KV := R.dropWhile (fun x => sLt x.key k)
theorem hd_tl (R : List KV) (k : ByteArray) : hdK R k ++ tlK R k = R := List.takeWhile_append_dropWhile
theorem lb_len (R : List KV) (k : ByteArray) : (hdK R k).length = lbK R k := rfl
end Go.Proofs.Ytbegbdfbfbkflaa
/- Walks in plain Lean: where the program's steps and the reference's lead. -/
namespace Go.Proofs.Ytbegbdfbfbkflaa
set_option linter.unusedVariables false
set_option linter.unusedSimpArgs false
theorem vis_keys (seq : Int) {l : List Ent} (h : strE l) : srtK (fVis l seq) := by
  rw [vis_same h]
  unfold sMap srtK
  rw [List.pairwise_map]
  have hp : (l.filter (mapPick l seq)).Pairwise (fun a b => aheadE a b = true) := h.sublist List.filter_sublist
  have hm : ∀ x ∈ l.filter (mapPick l seq), getE l x.key seq = some x := fun x hx => by
    obtain ⟨h1, h2⟩ := List.mem_filter.1 hx
    unfold mapPick at h2
    cases hg : getE l x.key seq with
    | none => rw [hg] at h2; cases h2
    | some e =>
      rw [hg] at h2
      simp only [Bool.and_eq_true, decide_eq_true_eq] at h2
      have he := List.mem_of_find?_eq_some hg
      have hk := ((isK_iff _ _ _).1 (List.find?_some hg)).1
      have hs : sameE e x = true := by unfold sameE; rw [hk, sEq_ref, h2.2]; simp
      have e1 := (find_str h e).2 he
      have e2 := (find_str h x).2 h1
      have : l.find? (sameE e) = l.find? (sameE x) := by
        congr 1
        funext z
        cases h6 : sameE x z with
        | true => exact same_trans (by rw [same_sym]; exact hs) h6
        | false =>
          cases h7 : sameE e z with
          | false => rfl
          | true => have := same_trans hs h7; rw [h6] at this; cases this
      rw [e1, e2] at this
      cases this; rfl
  refine List.Pairwise.imp_of_mem (fun {a b} ha hb hab => ?_) hp
  show sLt a.key b.key = true
  have h1 := hm a ha
  have h2 := hm b hb
  unfold aheadE at hab
  rw [Bool.or_eq_true] at hab
  rcases hab with hab | hab
  · exact hab
  · rw [Bool.and_eq_true, decide_eq_true_eq] at hab
    have e := sEq_to hab.1
    rw [e, h2] at h1
    cases h1
    omega
theorem lb_ix : ∀ (m : List KV) (k : ByteArray) (i : Nat), i ≤ m.length → (∀ j, j < i → sLt (nth m j).key k = true) → (i < m.length → sLt (nth m i).key k = false) → lbK m k = i
  | [], k, i, h, _, _ => by simp at h; subst h; rfl
  | x :: m, k, i, h, h1, h2 => by
    unfold lbK
    rw [List.takeWhile_cons]
    cases i with
    | zero =>
      have := h2 (by simp)
      simp only [nth, List.getD_cons_zero] at this
      rw [this]; rfl
    | succ i =>
      have := h1 0 (by omega)
      simp only [nth, List.getD_cons_zero] at this
      rw [this]
      have ih := lb_ix m k i (by simpa using h) (fun j hj => by have := h1 (j + 1) (by omega); simpa [nth] using this) (fun hi => by have := h2 (by simpa using hi); simpa [nth] using this)
      unfold lbK at ih
      simp [ih]
theorem srt_ix {m : List KV} (h : srtK m) {i j : Nat} (hij : i < j) (hj : j < m.length) : sLt (nth m i).key (nth m j).key = true := by
  have := List.pairwise_iff_getElem.1 h i j (by omega) hj hij
  have e1 : nth m i = m[i] := by simp [nth, show i < m.length by omega]
  have e2 : nth m j = m[j] := by simp [nth, hj]
  rw [e1, e2]; exact this
def mapW (x : DWalk) : List KV := fVis (mergeS x.R) x.seq
def noW : DWalk := ⟨[], 0, ⟨#[]⟩, false⟩
def noKV : KV := ⟨⟨#[]⟩, ⟨#[]⟩⟩
def standAt (x : DWalk) (m : List KV) (i : Int) : DWalk × KV × Bool := if 0 ≤ i ∧ i < m.length then ({ x with key := (nth m i.toNat).key, on := true }, nth m i.toNat, true) else ({ x with key := ⟨#[]⟩, on := false }, noKV, false)
def nextI (x : DWalk) (m : List KV) : Int := if x.on = true then (lbK m x.key : Int) + (if fndK m x.key = true then 1 else 0) else 0
def prevI (x : DWalk) (m : List KV) : Int := if x.on = true then (lbK m x.key : Int) - 1 else (m.length : Int) - 1
def fWalkNext (x : DWalk) : DWalk × KV × Bool := if fWalkOk x = true then standAt x (mapW x) (nextI x (mapW x)) else (noW, noKV, false)
def fWalkPrev (x : DWalk) : DWalk × KV × Bool := if fWalkOk x = true then standAt x (mapW x) (prevI x (mapW x)) else (noW, noKV, false)
def fWalkSeek (x : DWalk) (key : ByteArray) : DWalk × KV × Bool := if fWalkOk x = true then standAt x (mapW x) (lbK (mapW x) key : Int) else (noW, noKV, false)
def fWalkNew (rows : List (List Ent)) (seq : Int) : DWalk × Bool := if fWalkOk ⟨rows, seq, ⟨#[]⟩, false⟩ = true then (⟨rows, seq, ⟨#[]⟩, false⟩, true) else (noW, false)
theorem ok_rows {x : DWalk} (h : fWalkOk x = true) : ∀ l ∈ x.R, strE l := by
  unfold fWalkOk at h
  rw [Bool.and_eq_true, Bool.and_eq_true, List.all_eq_true] at h
  exact fun l hl => inOrd_str (h.1.2 l hl)
theorem map_srt {x : DWalk} (h : fWalkOk x = true) : srtK (mapW x) := vis_keys x.seq (mergeS_str (ok_rows h)).1
end Go.Proofs.Ytbegbdfbfbkflaa
/- Rows of impl.Ent: clone. -/
namespace Go.Proofs.Ytbegbdfbfbkflaa
open Go.RowKit
set_option maxHeartbeats 4000000
set_option maxRecDepth 20000
set_option linter.unusedVariables false
set_option linter.unusedSimpArgs false
attribute [local irreducible] Calls
theorem cloneE_c (A : Option Addr) (c : Nat) (L : List Ent) (w : World) (h : Rd w A (fl L)) (m : L.length ≤ 4194304) :
    Calls Try.prog 163 #[.slice A L.length c] w fun e w' => ∃ y : Ys, e = .returned (.slice (y 0).A L.length (y 0).c) ∧ True ∧ Below w.heap.size w w' ∧ NewOk w.heap.size [.row 71 4 (y 0).A L.length (y 0).c (fl L)] [] w' := by
  refine ok_enter 8 Try.func163 rfl rfl rfl ?_
  repeat' (first
    | refine ok_seq ?_
    | refine ok_then ?_
    | refine ok_then_ret ?_
    | refine ok_then_exit ?_
    | refine ok_block ?_
    | refine ok_in_normal ?_
    | refine ok_in_ret ?_
    | refine ok_in_exit ?_
    | refine ok_in_other rfl ?_
    | (refine ok_cond rfl (fun hc => ?_) (fun hc => ?_) <;> (have hd := hc; (try simp only [decide_eq_true_eq, decide_eq_false_iff_not, Bool.or_eq_true, Bool.or_eq_false_iff, Bool.and_eq_true, Bool.and_eq_false_iff, Bool.not_eq_true', Bool.not_eq_false', bne_iff_ne, beq_iff_eq, bne_eq_false_iff_eq, beq_eq_false_iff_ne, ne_eq, Bool.not_true, Bool.not_false, Bool.false_eq_true, Bool.true_eq_false, inB_true, inB_false] at hd)))
    | refine ok_ret ?_
    | refine ok_exit ?_
    | refine ok_skip ?_
    | (refine ok_region (i := 0) ?_; refine ok_p rfl rfl rfl (by exact ps_assign rfl rfl) ?_; refine ok_nil ?_; refine ok_env [(0, _)] ⟨rfl, trivial⟩ ?_)
    | (refine ok_region (i := 1) ?_; refine ok_p rfl rfl rfl (by exact ps_move rfl rfl) ?_; refine ok_p rfl rfl rfl (by first | exact ps_eql_nil rfl rfl | exact ps_int rfl rfl rfl rfl) ?_; refine ok_nil ?_; refine ok_env [(0, _), (4, _)] ⟨rfl, rfl, trivial⟩ ?_)
    | (refine ok_region (i := 2) ?_; refine ok_p rfl rfl rfl (by exact ps_assign rfl rfl) ?_; refine ok_nil ?_; refine ok_env [(2, _)] ⟨rfl, trivial⟩ ?_)
    | (refine ok_region (i := 3) ?_; refine ok_m rfl rfl rfl (by exact ms_lit rfl parts_nil rfl rfl rfl) ?_; rintro y5 hy5; refine ok_p rfl rfl rfl (by exact ps_move rfl rfl) ?_; refine ok_m rfl rfl rfl (by exact ms_app0 (M := L) 0 rfl rfl rfl rfl (rds_rf h (by first | exact List.mem_cons_self | exact List.mem_cons_of_mem _ List.mem_cons_self | simp)) rfl (by omega) (by omega)) ?_; rintro y7 hy7; refine ok_p rfl rfl rfl (by exact ps_assign rfl rfl) ?_; refine ok_nil ?_; refine ok_env [(2, _)] ⟨rfl, trivial⟩ ?_))
  · have h0 : L = [] := by
      cases A with
      | some a => cases hc
      | none =>
        rcases L with _ | ⟨x, l⟩
        · rfl
        · have := isS_fl h (by simp); obtain ⟨ad, e⟩ := this; cases e
    subst h0
    refine ok_endL (vs := [_]) rfl ⟨rfl, trivial⟩ (fun w' hw => ?_)
    refine ⟨mkY none 0 w, ?_, trivial, hw.below, ?_⟩
    · rfl
    · exact NewOk.one (x := .row 71 4 none 0 0 (fl ([] : List Ent))) (Own.nil w' w.heap.size 71 4)
  · refine ok_endL (vs := [_]) rfl ⟨rfl, trivial⟩ (fun w' hw => ?_)
    refine ⟨yl [y7 0] (y7 0), ?_, trivial, hw.below, ?_⟩
    · rfl
    · have := NewOk.of (hw.sel [0] (by decide) rfl (fun _ h => h))
      exact this
end Go.Proofs.Ytbegbdfbfbkflaa
/- The engine: arrays by a number that may be negative, makers on rows of a bag, objects let go. -/
namespace Go.Proofs.Ytbegbdfbfbkflaa
open Go.RowKit
set_option linter.unusedVariables false
set_option linter.unusedSimpArgs false
section
variable {P : Program} {N base : Nat} {w0 : World} {E : Env} {H : List HObj} {G : List World} {Q : Exit → Act → World → Prop} {o : Oper}
end
theorem mrg0 {N base : Nat} {w0 : World} {E E' : Env} {H H' : List HObj} {G G' : List World} {K K' : Act → World → Prop} (h1 : Ok N base w0 E' H' G' K' → Ok N base w0 E H G K) (h2 : Ok N base w0 E' H' G' K') : Ok N base w0 E H G K := h1 h2
end Go.Proofs.Ytbegbdfbfbkflaa
/- Copies of walks; WalkNew of both programs. -/
namespace Go.Proofs.Ytbegbdfbfbkflaa
open Go.RowKit
set_option maxHeartbeats 4000000
set_option maxRecDepth 20000
set_option linter.unusedVariables false
set_option linter.unusedSimpArgs false
attribute [local irreducible] Calls
/-- A walk of one's own as a result. -/
def wkY (A : Option Addr) (c : Nat) (S : List LE) (w : World) : Ys := mkR [⟨A, c, w, 0⟩] S w
theorem wkY_val (A : Option Addr) (c : Nat) (S : List LE) (sq : Int) (key : ByteArray) (on : Bool) (w : World) : Walk_val ⟨dats S, sq, key, on⟩ (wkY A c S w) = .agg #[.slice A S.length c, .int .i64 sq, .string key, .bool on] := by
  unfold Walk_val
  simp only [dats_len]
  rfl
theorem wkY_obj (A : Option Addr) (c : Nat) (S : List LE) (sq : Int) (key : ByteArray) (on : Bool) (w : World) : Walk_obj ⟨dats S, sq, key, on⟩ (wkY A c S w) = [.row 64 1 A S.length c (fl S), .bag 71 4 (rowsOf S)] := by
  have e : EntSS_loc (dats S) (wkY A c S w) = S := locs_mkR [⟨A, c, w, 0⟩] S w 1 rfl
  unfold Walk_obj
  simp only
  rw [e]
  simp only [dats_len]
  rfl
theorem wkN_no {n : World} {w0 w' : World} {H : List HObj} {G : List World} (hw : WOk n.heap.size w0 H G w') : NewOk n.heap.size (Walk_obj noW (mkY none 0 w')) [] w' := by
  have h0 := hw.sel [] (by decide) (H' := []) rfl (fun _ h => h)
  exact NewOk.of ((h0.bag_nil 71 4).rowNil 64 1)
structure CpW (R : List LE) where
  S : List LE
  A : Option Addr
  c : Nat
  hs : S.length ≤ R.length
  hd : dats S = (dats R).take S.length
theorem CpW.snoc {R S : List LE} (hs : S.length < R.length) (hd : dats S = (dats R).take S.length) (A : Option Addr) (c : Nat) : dats (S ++ [⟨(nth R S.length).d, A, c⟩]) = (dats R).take (S ++ [(⟨(nth R S.length).d, A, c⟩ : LE)]).length := by
  have h' : S.length < (dats R).length := by rw [dats_len]; exact hs
  rw [dats_snoc, hd, List.length_append, List.length_singleton, List.take_succ_eq_append_getElem h']
  congr 2
  simp [dats, nthL R S.length hs]
theorem i_copyWalk_c (A : Option Addr) (c : Nat) (R : List LE) (sq : Int) (key : ByteArray) (on : Bool) (w : World) (h2 : RdN w A R) (hl2 : R.length ≤ 4194304) (hl3 : ∀ x ∈ dats R, x.length ≤ 4194304) :
    Calls Try.prog 100 #[.agg #[.slice A R.length c, .int .i64 sq, .string key, .bool on]] w fun e w' => ∃ y : Ys, e = .returned (Walk_val ⟨dats R, sq, key, on⟩ y) ∧ True ∧ Below w.heap.size w w' ∧ NewOk w.heap.size (Walk_obj ⟨dats R, sq, key, on⟩ y) [] w' := by
  obtain ⟨q1, q2⟩ := h2
  have q2 : ∀ k, k < R.length → Rd w (nth R k).A (fl (nth R k).d) := q2
  have Q2 := Lib.hid q2; clear q2
  have HL := Lib.hid (lens_at hl3); clear hl3
  refine ok_enter 29 Try.func100 rfl rfl rfl ?_
  repeat' (first
    | refine ok_seq ?_
    | refine ok_then ?_
    | refine ok_block ?_
    | (refine ok_region (i := 0) ?_; refine ok_m rfl rfl rfl (by exact ms_box rfl rfl rfl) ?_; rintro y1 hy1; refine ok_m rfl rfl rfl (by exact ms_alloc rfl) ?_; rintro y2 hy2; refine ok_nil ?_; refine ok_env [(1, _), (2, _)] ⟨rfl, rfl, trivial⟩ ?_)
    | (refine ok_region (i := 1) ?_; refine ok_p rfl rfl rfl (by exact ps_field rfl rfl (by exact isw_ga _)) ?_; refine ok_p rfl rfl rfl (by exact ps_load rfl rfl (by exact Rds.cell (rds_box 1 rfl) rfl)) ?_; refine ok_p rfl rfl rfl (by exact ps_field rfl rfl (by exact isw_ga _)) ?_; refine ok_p rfl rfl rfl (by exact ps_load rfl rfl (by exact Rds.cell (rds_box 1 rfl) rfl)) ?_; refine ok_p rfl rfl rfl (by exact ps_field rfl rfl (by exact isw_ga _)) ?_; refine ok_p rfl rfl rfl (by exact ps_load rfl rfl (by exact Rds.cell (rds_box 1 rfl) rfl)) ?_; refine ok_p rfl rfl rfl (by exact ps_bld rfl (parts_cons rfl (parts_cons rfl (parts_cons rfl parts_nil))) rfl) ?_; refine ok_m rfl rfl rfl (by exact ms_alloc rfl) ?_; rintro y3 hy3; refine ok_m_ rfl rfl (by exact ms_store 0 rfl rfl rfl rfl rfl rfl rfl rfl) ?_; rintro y_ hy_; refine ok_nil ?_; refine ok_env [(1, _), (2, _), (3, _)] ⟨rfl, rfl, rfl, trivial⟩ ?_)
    | (refine ok_region (i := 2) ?_; refine ok_p rfl rfl rfl (by exact ps_field rfl rfl (by exact isw_ga _)) ?_; refine ok_p rfl rfl rfl (by exact ps_load rfl rfl (by exact Rds.cell (rds_box 2 rfl) rfl)) ?_; refine ok_p rfl rfl rfl (by exact ps_len rfl rfl) ?_; refine ok_p rfl rfl rfl (by exact ps_move rfl rfl) ?_; refine ok_nil ?_; refine ok_env [(2, _), (3, _), (14, _), (15, _), (16, _)] ⟨rfl, rfl, rfl, rfl, rfl, trivial⟩ ?_))
  refine ok_loop (ι := CpW R) (fun q => R.length - q.S.length) (fun q => ([(2, pt (ga (y2 0).c) 0), (3, pt (ga (y3 0).c) 0), (14, .slice A R.length c), (15, .int .i64 R.length), (16, .int .i64 q.S.length)], [.bag 71 4 (rowsOf q.S), .row 64 1 q.A q.S.length q.c (fl q.S), .box (y3 0).c 61 [.slice q.A q.S.length q.c, .int .i64 sq, .string key, .bool on], _, _], _)) ⟨[], none, 0, by simp, by simp [dats]⟩ (fun a w he hw => ⟨⟨[], none, 0, by simp, by simp [dats]⟩, he.sub ⟨rfl, rfl, rfl, rfl, rfl, trivial⟩, by
    have := (hw.rowNil 64 1).bag_nil 71 4
    exact this⟩) ?_
  rintro ⟨S, A2, c2, hs, hd0⟩
  simp only at hs hd0 ⊢
  have HD := Lib.hid hd0; clear hd0
  have hsn := fun h => CpW.snoc (S := S) (R := R) h HD.out
  have HN := Lib.hid hsn; clear hsn
  repeat' (first
    | refine ok_seq ?_
    | refine ok_then ?_
    | refine ok_block ?_
    | refine ok_in_normal ?_
    | (refine ok_cond rfl (fun hc => ?_) (fun hc => ?_) <;> (have hd := hc; (try simp only [decide_eq_true_eq, decide_eq_false_iff_not, Bool.or_eq_true, Bool.or_eq_false_iff, Bool.and_eq_true, Bool.and_eq_false_iff, Bool.not_eq_true', Bool.not_eq_false', bne_iff_ne, beq_iff_eq, bne_eq_false_iff_eq, beq_eq_false_iff_ne, ne_eq, Bool.not_true, Bool.not_false, Bool.false_eq_true, Bool.true_eq_false, inB_true, inB_false] at hd)))
    | refine ok_ret ?_
    | refine ok_exit ?_
    | refine ok_skip ?_
    | (refine ok_region (i := 3) ?_; refine ok_p rfl rfl rfl (by exact ps_int rfl rfl rfl rfl) ?_; refine ok_nil ?_; refine ok_env [(2, _), (3, _), (14, _), (15, _), (16, _), (17, _)] ⟨rfl, rfl, rfl, rfl, rfl, rfl, trivial⟩ ?_)
    | (refine ok_region (i := 4) ?_; refine ok_p rfl rfl rfl (by exact ps_indexN rfl rfl rfl (by omega) (by exact isw_of (isS_fl (by assumption) (by omega)))) ?_; refine ok_p rfl rfl rfl (by exact ps_load rfl rfl (by exact Rds.cell (rds_rf (by assumption) (by exact List.mem_cons_self)) (by exact fl_at0 _ _ (by omega) (by decide)))) ?_; refine ok_p rfl rfl rfl (by exact ps_assign rfl rfl) ?_; refine ok_nil ?_; refine ok_env [(2, _), (3, _), (5, _), (14, _), (15, _), (16, _)] ⟨rfl, rfl, rfl, rfl, rfl, rfl, trivial⟩ ?_)
    | (refine ok_draw (id := 5) 7 rfl (by kernel_rfl) (by kernel_rfl) rfl (by repeat (first | exact pq_body | refine pq_then ?_ | refine pq_in ?_)) [0, 2, 3, 4] (by decide) rfl ?_; refine okT_take (i := 0) rfl (by kernel_rfl) rfl rfl rfl (by exact ps_field rfl rfl (by exact isw_ga _)) ?_; refine okT_take (i := 1) rfl (by kernel_rfl) rfl rfl rfl (by exact ps_load rfl rfl (by exact Rds.cell (rds_box 1 rfl) rfl)) ?_; refine okT_take (i := 2) rfl (by kernel_rfl) rfl rfl rfl (by exact ps_move rfl rfl) ?_; refine okT_one (i := 3) rfl rfl (by kernel_rfl) rfl rfl rfl (by exact ms_c1 rfl rfl (fun _ _ w hw => cloneE_c (nth R S.length).A (nth R S.length).c (nth R S.length).d w (rds_rf (Q2.out _ (by omega)) (by exact List.mem_cons_self) _ _ w hw) (HL.out _ (by omega)))) (fun y w _ h => by exact h.tl.sel [0, 2, 3, 4] (by decide) rfl (fun _ h => h)) ?_; rintro y23 hy23; refine okT_one (i := 4) rfl rfl (by kernel_rfl) rfl rfl rfl (by exact ms_lit rfl (parts_cons rfl parts_nil) rfl rfl rfl) (fun y w _ h => by exact h.tl.tl.sel [0, 2, 3, 4] (by decide) rfl (fun _ h => h)) ?_; rintro y24 hy24; refine okT_one (i := 5) rfl rfl (by kernel_rfl) rfl rfl rfl (by exact ms_appF (α := LE) (L := S) (M := [⟨(nth R S.length).d, (y23 0).A, (y23 0).c⟩]) 3 rfl rfl rfl rfl (rds_row 0 rfl) rfl (by simp; omega) (by simp; omega)) (fun y w _ h => by exact h.tl.tl.sel [0, 2, 3, 4] (by decide) rfl (fun _ h => h)) ?_; rintro y25 hy25; refine okT_take (i := 6) rfl (by kernel_rfl) rfl rfl rfl (by exact ps_field rfl rfl (by exact isw_ga _)) ?_; refine okT_done (by kernel_rfl) ?_; refine ok_m_ rfl rfl (by exact ms_store 4 rfl rfl rfl rfl rfl rfl rfl rfl) ?_; rintro y_ hy_; refine ok_nil ?_; refine ok_env [(2, _), (3, _), (14, _), (15, _), (16, _)] ⟨rfl, rfl, rfl, rfl, rfl, trivial⟩ ?_)
    | (refine ok_region (i := 6) ?_; refine ok_p rfl rfl rfl (by exact ps_add rfl rfl rfl (by omega)) ?_; refine ok_p rfl rfl rfl (by exact ps_move rfl rfl) ?_; refine ok_nil ?_; refine ok_env [(2, _), (3, _), (14, _), (15, _), (16, _)] ⟨rfl, rfl, rfl, rfl, rfl, trivial⟩ ?_)
    | (refine ok_region (i := 7) ?_; refine ok_p rfl rfl rfl (by exact ps_loads rfl rfl (by exact rds_box 2 rfl) rfl rfl (by decide)) ?_; refine ok_m_ rfl rfl (by exact ms_store 3 rfl rfl rfl rfl rfl rfl rfl rfl) ?_; rintro y_ hy_; refine ok_nil ?_; refine ok_env [(2, _)] ⟨rfl, trivial⟩ ?_))
  · refine fun a w' he hw => ⟨⟨S ++ [⟨(nth R S.length).d, (y23 0).A, (y23 0).c⟩], (y25 0).A, (y25 0).c, by simp; omega, HN.out (by omega) _ _⟩, by simp; omega, he.sub ⟨rfl, rfl, rfl, rfl, by simp [look], trivial⟩, ?_⟩
    have h1 := WOk.bagAdd (⟨(nth R S.length).d, (y23 0).A, (y23 0).c⟩ : LE) rfl rfl (hw.sel [1, 2, 3, 4, 5, 6] (by decide) rfl (fun _ h => h))
    simp only [List.length_append, List.length_singleton]
    exact h1
  · have hSR : S.length = R.length := by omega
    have hdd : dats S = dats R := by rw [HD.out, hSR, ← dats_len, List.take_length]
    refine ok_endL (vs := [_]) rfl ⟨⟨_, 3, _, _, _, rfl, rfl, inferInstance, rfl, rfl⟩, trivial⟩ (fun w' hw => ⟨wkY A2 c2 S w', ?_, trivial, hw.below, ?_⟩)
    · rw [← hdd, wkY_val]; rfl
    · rw [← hdd, wkY_obj]
      exact NewOk.of (hw.sel [1, 0] (by decide) rfl (G' := []) (fun _ h => by cases h))
theorem s_l32Copy_c (A : Option Addr) (c : Nat) (R : List LE) (sq : Int) (key : ByteArray) (on : Bool) (w : World) (h2 : RdN w A R) (hl2 : R.length ≤ 4194304) (hl3 : ∀ x ∈ dats R, x.length ≤ 4194304) :
    Calls Try.prog 102 #[.agg #[.slice A R.length c, .int .i64 sq, .string key, .bool on]] w fun e w' => ∃ y : Ys, e = .returned (Walk_val ⟨dats R, sq, key, on⟩ y) ∧ True ∧ Below w.heap.size w w' ∧ NewOk w.heap.size (Walk_obj ⟨dats R, sq, key, on⟩ y) [] w' := by
  obtain ⟨q1, q2⟩ := h2
  have q2 : ∀ k, k < R.length → Rd w (nth R k).A (fl (nth R k).d) := q2
  have Q2 := Lib.hid q2; clear q2
  have HL := Lib.hid (lens_at hl3); clear hl3
  refine ok_enter 32 Try.func102 rfl rfl rfl ?_
  repeat' (first
    | refine ok_seq ?_
    | refine ok_then ?_
    | refine ok_block ?_
    | (refine ok_region (i := 0) ?_; refine ok_m rfl rfl rfl (by exact ms_box rfl rfl rfl) ?_; rintro y1 hy1; refine ok_m rfl rfl rfl (by exact ms_alloc rfl) ?_; rintro y2 hy2; refine ok_nil ?_; refine ok_env [(1, _), (2, _)] ⟨rfl, rfl, trivial⟩ ?_)
    | (refine ok_region (i := 1) ?_; refine ok_p rfl rfl rfl (by exact ps_field rfl rfl (by exact isw_ga _)) ?_; refine ok_p rfl rfl rfl (by exact ps_load rfl rfl (by exact Rds.cell (rds_box 1 rfl) rfl)) ?_; refine ok_p rfl rfl rfl (by exact ps_field rfl rfl (by exact isw_ga _)) ?_; refine ok_p rfl rfl rfl (by exact ps_load rfl rfl (by exact Rds.cell (rds_box 1 rfl) rfl)) ?_; refine ok_p rfl rfl rfl (by exact ps_field rfl rfl (by exact isw_ga _)) ?_; refine ok_p rfl rfl rfl (by exact ps_load rfl rfl (by exact Rds.cell (rds_box 1 rfl) rfl)) ?_; refine ok_p rfl rfl rfl (by exact ps_bld rfl (parts_cons rfl (parts_cons rfl (parts_cons rfl parts_nil))) rfl) ?_; refine ok_m rfl rfl rfl (by exact ms_alloc rfl) ?_; rintro y3 hy3; refine ok_m_ rfl rfl (by exact ms_store 0 rfl rfl rfl rfl rfl rfl rfl rfl) ?_; rintro y_ hy_; refine ok_nil ?_; refine ok_env [(1, _), (2, _), (3, _)] ⟨rfl, rfl, rfl, trivial⟩ ?_)
    | (refine ok_region (i := 2) ?_; refine ok_p rfl rfl rfl (by exact ps_assign rfl rfl) ?_; refine ok_nil ?_; refine ok_env [(1, _), (2, _), (3, _), (4, _)] ⟨rfl, rfl, rfl, rfl, trivial⟩ ?_))
  refine ok_loop (ι := CpW R) (fun q => R.length - q.S.length) (fun q => ([(1, pt (ga (y1 0).c) 0), (2, pt (ga (y2 0).c) 0), (3, pt (ga (y3 0).c) 0), (4, .int .i64 q.S.length)], [.bag 71 4 (rowsOf q.S), .row 64 1 q.A q.S.length q.c (fl q.S), .box (y3 0).c 61 [.slice q.A q.S.length q.c, .int .i64 sq, .string key, .bool on], _, _], _)) ⟨[], none, 0, by simp, by simp [dats]⟩ (fun a w he hw => ⟨⟨[], none, 0, by simp, by simp [dats]⟩, he.sub ⟨rfl, rfl, rfl, rfl, trivial⟩, by
    have := (hw.rowNil 64 1).bag_nil 71 4
    exact this⟩) ?_
  rintro ⟨S, A2, c2, hs, hd0⟩
  simp only at hs hd0 ⊢
  have HD := Lib.hid hd0; clear hd0
  have hsn := fun h => CpW.snoc (S := S) (R := R) h HD.out
  have HN := Lib.hid hsn; clear hsn
  repeat' (first
    | refine ok_seq ?_
    | refine ok_then ?_
    | refine ok_block ?_
    | refine ok_in_normal ?_
    | (refine ok_cond rfl (fun hc => ?_) (fun hc => ?_) <;> (have hd := hc; (try simp only [decide_eq_true_eq, decide_eq_false_iff_not, Bool.or_eq_true, Bool.or_eq_false_iff, Bool.and_eq_true, Bool.and_eq_false_iff, Bool.not_eq_true', Bool.not_eq_false', bne_iff_ne, beq_iff_eq, bne_eq_false_iff_eq, beq_eq_false_iff_ne, ne_eq, Bool.not_true, Bool.not_false, Bool.false_eq_true, Bool.true_eq_false, inB_true, inB_false] at hd)))
    | refine ok_ret ?_
    | refine ok_exit ?_
    | refine ok_skip ?_
    | (refine ok_region (i := 3) ?_; refine ok_p rfl rfl rfl (by exact ps_move rfl rfl) ?_; refine ok_p rfl rfl rfl (by exact ps_field rfl rfl (by exact isw_ga _)) ?_; refine ok_p rfl rfl rfl (by exact ps_load rfl rfl (by exact Rds.cell (rds_box 4 rfl) rfl)) ?_; refine ok_p rfl rfl rfl (by exact ps_len rfl rfl) ?_; refine ok_p rfl rfl rfl (by exact ps_int rfl rfl rfl rfl) ?_; refine ok_nil ?_; refine ok_env [(1, _), (2, _), (3, _), (4, _), (16, _)] ⟨rfl, rfl, rfl, rfl, rfl, trivial⟩ ?_)
    | (refine ok_region (i := 4) ?_; refine ok_p rfl rfl rfl (by exact ps_move rfl rfl) ?_; refine ok_p rfl rfl rfl (by exact ps_add rfl rfl rfl (by omega)) ?_; refine ok_p rfl rfl rfl (by exact ps_assign rfl rfl) ?_; refine ok_nil ?_; refine ok_env [(1, _), (2, _), (3, _), (4, _)] ⟨rfl, rfl, rfl, rfl, trivial⟩ ?_)
    | (refine ok_draw (id := 5) 12 rfl (by kernel_rfl) (by kernel_rfl) rfl (by repeat (first | exact pq_body | refine pq_then ?_ | refine pq_in ?_)) [0, 2, 3, 4] (by decide) rfl ?_; refine okT_take (i := 0) rfl (by kernel_rfl) rfl rfl rfl (by exact ps_field rfl rfl (by exact isw_ga _)) ?_; refine okT_take (i := 1) rfl (by kernel_rfl) rfl rfl rfl (by exact ps_load rfl rfl (by exact Rds.cell (rds_box 1 rfl) rfl)) ?_; refine okT_take (i := 3) rfl (by kernel_rfl) rfl rfl rfl (by exact ps_field rfl rfl (by exact isw_ga _)) ?_; refine okT_take (i := 4) rfl (by kernel_rfl) rfl rfl rfl (by exact ps_load rfl rfl (by exact Rds.cell (rds_box 3 rfl) rfl)) ?_; refine okT_take (i := 5) rfl (by kernel_rfl) rfl rfl rfl (by exact ps_move rfl rfl) ?_; refine okT_take (i := 6) rfl (by kernel_rfl) rfl rfl rfl (by exact ps_indexN rfl rfl rfl (by omega) (by exact isw_of (isS_fl (by assumption) (by omega)))) ?_; refine okT_take (i := 7) rfl (by kernel_rfl) rfl rfl rfl (by exact ps_load rfl rfl (by exact Rds.cell (rds_rf (by assumption) (by exact List.mem_cons_self)) (by exact fl_at0 _ _ (by omega) (by decide)))) ?_; refine okT_one (i := 2) rfl rfl (by kernel_rfl) rfl rfl rfl (by exact ms_lit rfl parts_nil rfl rfl rfl) (fun y w _ h => by exact h.tl.sel [0, 2, 3, 4] (by decide) rfl (fun _ h => h)) ?_; rintro y21 hy21; refine okT_one (i := 8) rfl rfl (by kernel_rfl) rfl rfl rfl (by exact ms_app0 (M := (nth R S.length).d) 0 rfl rfl rfl rfl (rds_rf (Q2.out _ (by omega)) (by exact List.mem_cons_self)) rfl (by have : (nth R S.length).d.length ≤ 4194304 := HL.out _ (by omega); omega) (by have : (nth R S.length).d.length ≤ 4194304 := HL.out _ (by omega); omega)) (fun y w _ h => by exact h.tl.sel [0, 2, 3, 4] (by decide) rfl (fun _ h => h)) ?_; rintro y27 hy27; refine okT_one (i := 9) rfl rfl (by kernel_rfl) rfl rfl rfl (by exact ms_lit rfl (parts_cons rfl parts_nil) rfl rfl rfl) (fun y w _ h => by exact h.tl.tl.sel [0, 2, 3, 4] (by decide) rfl (fun _ h => h)) ?_; rintro y28 hy28; refine okT_one (i := 10) rfl rfl (by kernel_rfl) rfl rfl rfl (by exact ms_appF (α := LE) (L := S) (M := [⟨(nth R S.length).d, (y27 0).A, (y27 0).c⟩]) 3 rfl rfl rfl rfl (rds_row 0 rfl) rfl (by simp; omega) (by simp; omega)) (fun y w _ h => by exact h.tl.tl.sel [0, 2, 3, 4] (by decide) rfl (fun _ h => h)) ?_; rintro y29 hy29; refine okT_take (i := 11) rfl (by kernel_rfl) rfl rfl rfl (by exact ps_field rfl rfl (by exact isw_ga _)) ?_; refine okT_done (by kernel_rfl) ?_; refine ok_m_ rfl rfl (by exact ms_store 4 rfl rfl rfl rfl rfl rfl rfl rfl) ?_; rintro y_ hy_; refine ok_nil ?_; refine ok_env [(1, _), (2, _), (3, _), (4, _)] ⟨rfl, rfl, rfl, rfl, trivial⟩ ?_)
    | (refine ok_region (i := 6) ?_; refine ok_p rfl rfl rfl (by exact ps_loads rfl rfl (by exact rds_box 2 rfl) rfl rfl (by decide)) ?_; refine ok_m_ rfl rfl (by exact ms_store 3 rfl rfl rfl rfl rfl rfl rfl rfl) ?_; rintro y_ hy_; refine ok_nil ?_; refine ok_env [(2, _)] ⟨rfl, trivial⟩ ?_))
  · refine fun a w' he hw => ⟨⟨S ++ [⟨(nth R S.length).d, (y27 0).A, (y27 0).c⟩], (y29 0).A, (y29 0).c, by simp; omega, HN.out (by omega) _ _⟩, by simp; omega, he.sub ⟨rfl, rfl, rfl, by simp [look], trivial⟩, ?_⟩
    have h1 := WOk.bagAdd (⟨(nth R S.length).d, (y27 0).A, (y27 0).c⟩ : LE) rfl rfl (hw.sel [1, 2, 3, 4, 5, 6] (by decide) rfl (fun _ h => h))
    simp only [List.length_append, List.length_singleton]
    exact h1
  · have hSR : S.length = R.length := by omega
    have hdd : dats S = dats R := by rw [HD.out, hSR, ← dats_len, List.take_length]
    refine ok_endL (vs := [_]) rfl ⟨⟨_, 3, _, _, _, rfl, rfl, inferInstance, rfl, rfl⟩, trivial⟩ (fun w' hw => ⟨wkY A2 c2 S w', ?_, trivial, hw.below, ?_⟩)
    · rw [← hdd, wkY_val]; rfl
    · rw [← hdd, wkY_obj]
      exact NewOk.of (hw.sel [1, 0] (by decide) rfl (G' := []) (fun _ h => by cases h))
theorem new_no {x : DEntSS} {sq : Int} (h : fWalkOk ⟨x, sq, ⟨#[]⟩, false⟩ = false) : fWalkNew x sq = (noW, false) := by unfold fWalkNew; rw [if_neg (by rw [h]; exact Bool.false_ne_true)]
theorem new_yes {x : DEntSS} {sq : Int} (h : fWalkOk ⟨x, sq, ⟨#[]⟩, false⟩ = true) : fWalkNew x sq = (⟨x, sq, ⟨#[]⟩, false⟩, true) := by unfold fWalkNew; rw [if_pos h]
theorem EntSS_n (x : DEntSS) (hs : EntSS_sm x) : x.length ≤ 4194304 ∧ ∀ l ∈ x, l.length ≤ 4194304 := EntSS_sm_lim hs
theorem Wsm (x : DEntSS) (sq : Int) (hs : EntSS_sm x) : Walk_sm ⟨x, sq, ⟨#[]⟩, false⟩ := ⟨hs, Nat.zero_le _⟩
theorem i_WalkNew (x : DEntSS) (y : Ys) (sq : Int) (w : World) (h : EntSS_rd w x y) (hs : EntSS_sm x) (hn : -9223372036854775808 ≤ sq ∧ sq ≤ 9223372036854775807) :
    Calls Try.prog 35 #[EntSS_val x y, .int .i64 sq] w fun e w' => ∃ y : Ys, e = .returned (.tuple #[Walk_val (fWalkNew x sq).1 y, .bool (fWalkNew x sq).2]) ∧ True ∧ Below w.heap.size w w' ∧ NewOk w.heap.size (Walk_obj (fWalkNew x sq).1 y) [] w' := by
  have hl := EntSS_n x hs
  have hcp : ∀ w, RdN w (y 0).A (EntSS_loc x y) → Calls Try.prog 100 #[.agg #[.slice (y 0).A x.length (y 0).c, .int .i64 sq, .string ⟨#[]⟩, .bool false]] w fun e w' => ∃ y : Ys, e = .returned (Walk_val ⟨x, sq, ⟨#[]⟩, false⟩ y) ∧ True ∧ Below w.heap.size w w' ∧ NewOk w.heap.size (Walk_obj ⟨x, sq, ⟨#[]⟩, false⟩ y) [] w' := fun w h => by
    have := i_copyWalk_c (y 0).A (y 0).c (EntSS_loc x y) sq ⟨#[]⟩ false w h (by rw [locs_len]; exact hl.1) (by rw [dats_locs]; exact hl.2)
    rw [locs_len, dats_locs] at this; exact this
  have HC := Lib.hid hcp; clear hcp
  have H := Lib.hid h; clear h
  have HS := Lib.hid hs; clear hs
  refine ok_enter 16 Try.func35 rfl rfl rfl ?_
  repeat' (first
    | refine ok_seq ?_
    | refine ok_then ?_
    | refine ok_then_ret ?_
    | (refine ok_cond rfl (fun hc => ?_) (fun hc => ?_) <;> (have hd := hc; (try simp only [decide_eq_true_eq, decide_eq_false_iff_not, Bool.or_eq_true, Bool.or_eq_false_iff, Bool.and_eq_true, Bool.and_eq_false_iff, Bool.not_eq_true', Bool.not_eq_false', bne_iff_ne, beq_iff_eq, bne_eq_false_iff_eq, beq_eq_false_iff_ne, ne_eq, Bool.not_true, Bool.not_false, Bool.false_eq_true, Bool.true_eq_false, inB_true, inB_false] at hd)))
    | refine ok_ret ?_
    | refine ok_skip ?_
    | (refine ok_region (i := 0) ?_; refine ok_m rfl rfl rfl (by exact ms_alloc rfl) ?_; rintro y4 hy4; refine ok_p rfl rfl rfl (by exact ps_assign rfl rfl) ?_; refine ok_nil ?_; refine ok_env [(0, _), (1, _), (4, _)] ⟨rfl, rfl, rfl, trivial⟩ ?_)
    | (refine ok_region (i := 1) ?_; refine ok_p rfl rfl rfl (by exact ps_move rfl rfl) ?_; refine ok_p rfl rfl rfl (by exact ps_move rfl rfl) ?_; refine ok_p rfl rfl rfl (by exact ps_bld rfl (parts_cons rfl (parts_cons rfl parts_nil)) rfl) ?_; refine ok_m rfl rfl rfl (by exact ms_alloc rfl) ?_; rintro y6 hy6; refine ok_m_ rfl rfl (by exact ms_store 0 rfl rfl rfl rfl rfl rfl rfl rfl) ?_; rintro y_ hy_; refine ok_nil ?_; refine ok_env [(4, _), (6, _)] ⟨rfl, rfl, trivial⟩ ?_)
    | (refine ok_region (i := 2) ?_; refine ok_p rfl rfl rfl (by exact ps_loads rfl rfl (by exact rds_box 0 rfl) rfl rfl (by decide)) ?_; refine ok_m rfl rfl rfl (by exact ms_s1 rfl rfl (fun _ _ w hw => i_WalkOk ⟨x, sq, ⟨#[]⟩, false⟩ y w (EntSS_rf H.out (by exact List.mem_cons_self) hw) (Wsm x sq HS.out))) ?_; rintro y11 hy11; refine ok_p rfl rfl rfl (by exact ps_not rfl rfl) ?_; refine ok_nil ?_; refine ok_env [(4, _), (6, _), (12, _)] ⟨rfl, rfl, rfl, trivial⟩ ?_)
    | (refine ok_region (i := 3) ?_; refine ok_p rfl rfl rfl (by exact ps_bld rfl parts_nil rfl) ?_; refine ok_m_ rfl rfl (by exact ms_store 1 rfl rfl rfl rfl rfl rfl rfl rfl) ?_; rintro y_ hy_; refine ok_p rfl rfl rfl (by exact ps_assign rfl rfl) ?_; refine ok_nil ?_; refine ok_env [(4, _), (5, _)] ⟨rfl, rfl, trivial⟩ ?_)
    | (refine ok_region (i := 4) ?_; refine ok_p rfl rfl rfl (by exact ps_loads rfl rfl (by exact rds_box 0 rfl) rfl rfl (by decide)) ?_; refine ok_m rfl rfl rfl (by exact ms_c1 rfl rfl (fun _ _ w hw => HC.out w (RdN.keep hw H.out (by exact List.mem_cons_self)))) ?_; rintro y15 hy15; refine ok_m_ rfl rfl (by exact ms_store 3 rfl rfl rfl rfl rfl rfl rfl rfl) ?_; rintro y_ hy_; refine ok_p rfl rfl rfl (by exact ps_assign rfl rfl) ?_; refine ok_nil ?_; refine ok_env [(4, _), (5, _)] ⟨rfl, rfl, trivial⟩ ?_))
  · rw [new_no hd]
    exact ok_endL (vs := [_, _]) rfl ⟨⟨_, 1, _, _, _, rfl, rfl, inferInstance, rfl, rfl⟩, rfl, trivial⟩ (fun w' hw => ⟨mkY none 0 w', rfl, trivial, hw.below, wkN_no hw⟩)
  · rw [new_yes hd]
    refine ok_endL (vs := [_, _]) rfl ⟨⟨_, 3, _, _, _, rfl, rfl, inferInstance, rfl, rfl⟩, rfl, trivial⟩ (fun w' hw => ⟨y15, rfl, trivial, hw.below, ?_⟩)
    exact NewOk.of (hw.sel [0, 1] (by decide) rfl (G' := []) (fun _ h => by cases h))
theorem s_WalkNew (x : DEntSS) (y : Ys) (sq : Int) (w : World) (h : EntSS_rd w x y) (hs : EntSS_sm x) (hn : -9223372036854775808 ≤ sq ∧ sq ≤ 9223372036854775807) :
    Calls Try.prog 36 #[EntSS_val x y, .int .i64 sq] w fun e w' => ∃ y : Ys, e = .returned (.tuple #[Walk_val (fWalkNew x sq).1 y, .bool (fWalkNew x sq).2]) ∧ True ∧ Below w.heap.size w w' ∧ NewOk w.heap.size (Walk_obj (fWalkNew x sq).1 y) [] w' := by
  have hl := EntSS_n x hs
  have hcp : ∀ w, RdN w (y 0).A (EntSS_loc x y) → Calls Try.prog 102 #[.agg #[.slice (y 0).A x.length (y 0).c, .int .i64 sq, .string ⟨#[]⟩, .bool false]] w fun e w' => ∃ y : Ys, e = .returned (Walk_val ⟨x, sq, ⟨#[]⟩, false⟩ y) ∧ True ∧ Below w.heap.size w w' ∧ NewOk w.heap.size (Walk_obj ⟨x, sq, ⟨#[]⟩, false⟩ y) [] w' := fun w h => by
    have := s_l32Copy_c (y 0).A (y 0).c (EntSS_loc x y) sq ⟨#[]⟩ false w h (by rw [locs_len]; exact hl.1) (by rw [dats_locs]; exact hl.2)
    rw [locs_len, dats_locs] at this; exact this
  have HC := Lib.hid hcp; clear hcp
  have H := Lib.hid h; clear h
  have HS := Lib.hid hs; clear hs
  refine ok_enter 16 Try.func36 rfl rfl rfl ?_
  repeat' (first
    | refine ok_seq ?_
    | refine ok_then ?_
    | refine ok_then_ret ?_
    | (refine ok_cond rfl (fun hc => ?_) (fun hc => ?_) <;> (have hd := hc; (try simp only [decide_eq_true_eq, decide_eq_false_iff_not, Bool.or_eq_true, Bool.or_eq_false_iff, Bool.and_eq_true, Bool.and_eq_false_iff, Bool.not_eq_true', Bool.not_eq_false', bne_iff_ne, beq_iff_eq, bne_eq_false_iff_eq, beq_eq_false_iff_ne, ne_eq, Bool.not_true, Bool.not_false, Bool.false_eq_true, Bool.true_eq_false, inB_true, inB_false] at hd)))
    | refine ok_ret ?_
    | refine ok_skip ?_
    | (refine ok_region (i := 0) ?_; refine ok_m rfl rfl rfl (by exact ms_alloc rfl) ?_; rintro y4 hy4; refine ok_p rfl rfl rfl (by exact ps_assign rfl rfl) ?_; refine ok_nil ?_; refine ok_env [(0, _), (1, _), (4, _)] ⟨rfl, rfl, rfl, trivial⟩ ?_)
    | (refine ok_region (i := 1) ?_; refine ok_p rfl rfl rfl (by exact ps_move rfl rfl) ?_; refine ok_p rfl rfl rfl (by exact ps_move rfl rfl) ?_; refine ok_p rfl rfl rfl (by exact ps_bld rfl (parts_cons rfl (parts_cons rfl parts_nil)) rfl) ?_; refine ok_m rfl rfl rfl (by exact ms_alloc rfl) ?_; rintro y6 hy6; refine ok_m_ rfl rfl (by exact ms_store 0 rfl rfl rfl rfl rfl rfl rfl rfl) ?_; rintro y_ hy_; refine ok_nil ?_; refine ok_env [(4, _), (6, _)] ⟨rfl, rfl, trivial⟩ ?_)
    | (refine ok_region (i := 2) ?_; refine ok_p rfl rfl rfl (by exact ps_loads rfl rfl (by exact rds_box 0 rfl) rfl rfl (by decide)) ?_; refine ok_m rfl rfl rfl (by exact ms_s1 rfl rfl (fun _ _ w hw => s_WalkOk ⟨x, sq, ⟨#[]⟩, false⟩ y w (EntSS_rf H.out (by exact List.mem_cons_self) hw) (Wsm x sq HS.out))) ?_; rintro y11 hy11; refine ok_p rfl rfl rfl (by exact ps_not rfl rfl) ?_; refine ok_nil ?_; refine ok_env [(4, _), (6, _), (12, _)] ⟨rfl, rfl, rfl, trivial⟩ ?_)
    | (refine ok_region (i := 3) ?_; refine ok_p rfl rfl rfl (by exact ps_bld rfl parts_nil rfl) ?_; refine ok_m_ rfl rfl (by exact ms_store 1 rfl rfl rfl rfl rfl rfl rfl rfl) ?_; rintro y_ hy_; refine ok_p rfl rfl rfl (by exact ps_assign rfl rfl) ?_; refine ok_nil ?_; refine ok_env [(4, _), (5, _)] ⟨rfl, rfl, trivial⟩ ?_)
    | (refine ok_region (i := 4) ?_; refine ok_p rfl rfl rfl (by exact ps_loads rfl rfl (by exact rds_box 0 rfl) rfl rfl (by decide)) ?_; refine ok_m rfl rfl rfl (by exact ms_c1 rfl rfl (fun _ _ w hw => HC.out w (RdN.keep hw H.out (by exact List.mem_cons_self)))) ?_; rintro y15 hy15; refine ok_m_ rfl rfl (by exact ms_store 3 rfl rfl rfl rfl rfl rfl rfl rfl) ?_; rintro y_ hy_; refine ok_p rfl rfl rfl (by exact ps_assign rfl rfl) ?_; refine ok_nil ?_; refine ok_env [(4, _), (5, _)] ⟨rfl, rfl, trivial⟩ ?_))
  · rw [new_no hd]
    exact ok_endL (vs := [_, _]) rfl ⟨⟨_, 1, _, _, _, rfl, rfl, inferInstance, rfl, rfl⟩, rfl, trivial⟩ (fun w' hw => ⟨mkY none 0 w', rfl, trivial, hw.below, wkN_no hw⟩)
  · rw [new_yes hd]
    refine ok_endL (vs := [_, _]) rfl ⟨⟨_, 3, _, _, _, rfl, rfl, inferInstance, rfl, rfl⟩, rfl, trivial⟩ (fun w' hw => ⟨y15, rfl, trivial, hw.below, ?_⟩)
    exact NewOk.of (hw.sel [0, 1] (by decide) rfl (G' := []) (fun _ h => by cases h))
end Go.Proofs.Ytbegbdfbfbkflaa
/- Rows with two places changed, two ranges changed, a part turned round: index by index; for the stable sort. -/
namespace Go.Proofs.Ytbegbdfbfbkflaa
set_option linter.unusedVariables false
set_option linter.unusedSimpArgs false
theorem nth_ext {L M : List Ent} (hl : L.length = M.length) (h : ∀ k, k < L.length → nth L k = nth M k) : L = M := by
  apply List.ext_getElem hl
  intro k h1 h2
  have := h k h1
  simpa [nth, h1, h2] using this
def swapL (L : List Ent) (i j : Nat) : List Ent := (L.set i (nth L j)).set j (nth L i)
theorem swap_len (L : List Ent) (i j : Nat) : (swapL L i j).length = L.length := by simp [swapL]
theorem nthE_set (L : List Ent) (i k : Nat) (v : Ent) (h : i < L.length) : nth (L.set i v) k = if k = i then v else nth L k := by
  by_cases e : k = i
  · subst e; rw [if_pos rfl]; exact nth_set L k v h
  · rw [if_neg e]; simp [nth, List.getD_eq_getElem?_getD, Ne.symm e]
theorem swap_nth {L : List Ent} {i j : Nat} (hi : i < L.length) (hj : j < L.length) (k : Nat) : nth (swapL L i j) k = if k = j then nth L i else if k = i then nth L j else nth L k := by
  unfold swapL
  rw [nthE_set _ _ _ _ (by rw [List.length_set]; exact hj), nthE_set _ _ _ _ hi]
/-- A row told index by index. -/
def byIx (n : Nat) (f : Nat → Ent) : List Ent := (List.range n).map f
theorem byIx_len (n : Nat) (f : Nat → Ent) : (byIx n f).length = n := by simp [byIx]
theorem byIx_nth {n k : Nat} (f : Nat → Ent) (h : k < n) : nth (byIx n f) k = f k := by simp [nth, byIx, h]
/-- Two ranges of n places change places. -/
def swR (L : List Ent) (a b n : Nat) : List Ent := byIx L.length fun k => if a ≤ k ∧ k < a + n then nth L (k - a + b) else if b ≤ k ∧ k < b + n then nth L (k - b + a) else nth L k
theorem swR_len (L : List Ent) (a b n : Nat) : (swR L a b n).length = L.length := byIx_len _ _
theorem swR_nth {L : List Ent} {a b n k : Nat} (h : k < L.length) : nth (swR L a b n) k = if a ≤ k ∧ k < a + n then nth L (k - a + b) else if b ≤ k ∧ k < b + n then nth L (k - b + a) else nth L k := byIx_nth _ h
theorem swR_zero (L : List Ent) (a b : Nat) : swR L a b 0 = L := nth_ext (swR_len _ _ _ _) fun k hk => by
  rw [swR_len] at hk
  rw [swR_nth hk, if_neg (by omega), if_neg (by omega)]
theorem swR_step {L : List Ent} {a b i : Nat} (h : a + i < b) (hb : b + i < L.length) : swapL (swR L a b i) (a + i) (b + i) = swR L a b (i + 1) := nth_ext (by rw [swap_len, swR_len, swR_len]) fun k hk => by
  rw [swap_len, swR_len] at hk
  rw [swap_nth (by rw [swR_len]; omega) (by rw [swR_len]; omega), swR_nth hk, swR_nth (by omega), swR_nth (by omega), swR_nth hk]
  repeat' split
  all_goals first
    | rfl
    | omega
    | (congr 1; omega)
/-- The part from a to b turned round at m: what is from m on comes first. -/
def rotL (L : List Ent) (a m b : Nat) : List Ent := byIx L.length fun k => if a ≤ k ∧ k < b then (if k < a + (b - m) then nth L (k - a + m) else nth L (k - (b - m))) else nth L k
theorem rotL_len (L : List Ent) (a m b : Nat) : (rotL L a m b).length = L.length := byIx_len _ _
theorem rotL_nth {L : List Ent} {a m b k : Nat} (h : k < L.length) : nth (rotL L a m b) k = if a ≤ k ∧ k < b then (if k < a + (b - m) then nth L (k - a + m) else nth L (k - (b - m))) else nth L k := byIx_nth _ h
theorem rot_more {C : List Ent} {m i j : Nat} (hi : i ≤ m) (hj : m + j ≤ C.length) (h : j < i) : rotL C (m - i) m (m + j) = rotL (swR C (m - i) m j) (m - (i - j)) m (m + j) := nth_ext (by rw [rotL_len, rotL_len, swR_len]) fun k hk => by
  rw [rotL_len] at hk
  rw [rotL_nth hk, rotL_nth (by rw [swR_len]; exact hk)]
  by_cases h1 : m - i ≤ k ∧ k < m + j
  · rw [if_pos h1]
    by_cases h2 : k < m - i + (m + j - m)
    · rw [if_pos h2, if_neg (by omega), swR_nth hk, if_pos (by omega)]
    · rw [if_neg h2, if_pos (by omega)]
      by_cases h3 : k < m - (i - j) + (m + j - m)
      · rw [if_pos h3, swR_nth (by omega), if_neg (by omega), if_pos (by omega)]
        congr 1; omega
      · rw [if_neg h3, swR_nth (by omega), if_neg (by omega), if_neg (by omega)]
  · rw [if_neg h1, if_neg (by omega), swR_nth hk, if_neg (by omega), if_neg (by omega)]
theorem rot_less {C : List Ent} {m i j : Nat} (hi : i ≤ m) (hj : m + j ≤ C.length) (h : i < j) : rotL C (m - i) m (m + j) = rotL (swR C (m - i) (m + j - i) i) (m - i) m (m + (j - i)) := nth_ext (by rw [rotL_len, rotL_len, swR_len]) fun k hk => by
  rw [rotL_len] at hk
  rw [rotL_nth hk, rotL_nth (by rw [swR_len]; exact hk)]
  by_cases h1 : m - i ≤ k ∧ k < m + j
  · rw [if_pos h1]
    by_cases h2 : k < m - i + (m + j - m)
    · rw [if_pos h2]
      by_cases h3 : k < m + (j - i)
      · rw [if_pos ⟨h1.1, h3⟩]
        by_cases h4 : k < m - i + (m + (j - i) - m)
        · rw [if_pos h4, swR_nth (by omega), if_neg (by omega), if_neg (by omega)]
        · rw [if_neg h4, swR_nth (by omega), if_pos (by omega)]
          congr 1; omega
      · omega
    · rw [if_neg h2, if_neg (by omega), swR_nth hk, if_neg (by omega), if_pos (by omega)]
      congr 1; omega
  · rw [if_neg h1, if_neg (by omega), swR_nth hk, if_neg (by omega), if_neg (by omega)]
theorem rot_even {C : List Ent} {m i : Nat} (hi : i ≤ m) (hj : m + i ≤ C.length) : rotL C (m - i) m (m + i) = swR C (m - i) m i := nth_ext (by rw [rotL_len, swR_len]) fun k hk => by
  rw [rotL_len] at hk
  rw [rotL_nth hk, swR_nth hk]
  by_cases h1 : m - i ≤ k ∧ k < m + i
  · rw [if_pos h1]
    by_cases h2 : k < m - i + (m + i - m)
    · rw [if_pos h2, if_pos (by omega)]
    · rw [if_neg h2, if_neg (by omega), if_pos (by omega)]
      congr 1; omega
  · rw [if_neg h1, if_neg (by omega), if_neg (by omega)]
/-- A part of a row. -/
def seg (L : List Ent) (a b : Nat) : List Ent := (L.drop a).take (b - a)
theorem seg_mem {L : List Ent} {a b : Nat} (hb : b ≤ L.length) {x : Ent} (h : x ∈ seg L a b) : ∃ k, a ≤ k ∧ k < b ∧ nth L k = x := by
  obtain ⟨k, hk, rfl⟩ := List.getElem_of_mem h
  unfold seg at hk ⊢
  rw [List.length_take, List.length_drop] at hk
  refine ⟨a + k, by omega, by omega, ?_⟩
  rw [List.getElem_take, List.getElem_drop]
  simp [nth, show a + k < L.length by omega]
theorem nth_app (X Y : List Ent) (k : Nat) : nth (X ++ Y) k = if k < X.length then nth X k else nth Y (k - X.length) := by
  unfold nth
  rw [List.getD_eq_getElem?_getD, List.getElem?_append]
  split <;> rw [List.getD_eq_getElem?_getD]
theorem nth_take (L : List Ent) (a k : Nat) (h : k < a) : nth (L.take a) k = nth L k := by
  unfold nth
  rw [List.getD_eq_getElem?_getD, List.getElem?_take_of_lt h, List.getD_eq_getElem?_getD]
theorem nth_drop (L : List Ent) (a k : Nat) : nth (L.drop a) k = nth L (a + k) := by
  unfold nth
  rw [List.getD_eq_getElem?_getD, List.getElem?_drop, List.getD_eq_getElem?_getD]
theorem seg_nth {L : List Ent} {a b k : Nat} (h : k < b - a) : nth (seg L a b) k = nth L (a + k) := by
  unfold seg; rw [nth_take _ _ _ h, nth_drop]
theorem seg_len {L : List Ent} {a b : Nat} (hb : b ≤ L.length) : (seg L a b).length = b - a := by unfold seg; rw [List.length_take, List.length_drop]; omega
theorem rot_parts {L : List Ent} {a m b : Nat} (h1 : a ≤ m) (h2 : m ≤ b) (hb : b ≤ L.length) : L = L.take a ++ seg L a m ++ seg L m b ++ L.drop b ∧ rotL L a m b = L.take a ++ seg L m b ++ seg L a m ++ L.drop b := by
  have l1 : (L.take a).length = a := by rw [List.length_take]; omega
  have l2 := seg_len (L := L) (a := a) (b := m) (by omega)
  have l3 := seg_len (L := L) (a := m) (b := b) hb
  constructor
  · refine nth_ext (by simp only [List.length_append, l1, l2, l3, List.length_drop]; omega) fun k hk => ?_
    simp only [nth_app, List.length_append, l1, l2, l3]
    by_cases c1 : k < a
    · rw [if_pos (by omega), if_pos (by omega), if_pos c1, nth_take _ _ _ c1]
    · by_cases c2 : k < m
      · rw [if_pos (by omega), if_pos (by omega), if_neg c1, seg_nth (by omega)]; congr 1; omega
      · by_cases c3 : k < b
        · rw [if_pos (by omega), if_neg (by omega), seg_nth (by omega)]; congr 1; omega
        · rw [if_neg (by omega), nth_drop]; congr 1; omega
  · refine nth_ext (by rw [rotL_len]; simp only [List.length_append, l1, l2, l3, List.length_drop]; omega) fun k hk => ?_
    rw [rotL_len] at hk
    rw [rotL_nth hk]
    simp only [nth_app, List.length_append, l1, l2, l3]
    by_cases c1 : k < a
    · rw [if_neg (by omega), if_pos (by omega), if_pos (by omega), if_pos c1, nth_take _ _ _ c1]
    · by_cases c2 : k < a + (b - m)
      · rw [if_pos (by omega), if_pos c2, if_pos (by omega), if_pos (by omega), if_neg c1, seg_nth (by omega)]; congr 1; omega
      · by_cases c3 : k < b
        · rw [if_pos (by omega), if_neg c2, if_pos (by omega), if_neg (by omega), seg_nth (by omega)]; congr 1; omega
        · rw [if_neg (by omega), if_neg (by omega), nth_drop]; congr 1; omega
theorem rot_stb {L : List Ent} {a m b : Nat} (h1 : a ≤ m) (h2 : m ≤ b) (hb : b ≤ L.length) (h : ∀ p q, a ≤ p → p < m → m ≤ q → q < b → aheadE (nth L q) (nth L p) = true) : stb L (rotL L a m b) := by
  obtain ⟨e1, e2⟩ := rot_parts h1 h2 hb
  rw [e2]
  conv => lhs; rw [e1]
  refine stb_rot fun x hx y hy => ?_
  obtain ⟨p, p1, p2, rfl⟩ := seg_mem (by omega) hx
  obtain ⟨q, q1, q2, rfl⟩ := seg_mem hb hy
  exact h p q p1 p2 q1 q2
theorem swap_rot {L : List Ent} {j : Nat} (h0 : 0 < j) (h : j < L.length) : swapL L j (j - 1) = rotL L (j - 1) j (j + 1) := nth_ext (by rw [swap_len, rotL_len]) fun k hk => by
  rw [swap_len] at hk
  rw [swap_nth h (by omega), rotL_nth hk]
  repeat' split
  all_goals first
    | rfl
    | omega
    | (congr 1; omega)
/-- Only a part is changed, and only among itself; equal ones keep their order. -/
structure SegE (L M : List Ent) (a b : Nat) : Prop where
  len : M.length = L.length
  out : ∀ k, k < a ∨ b ≤ k → nth M k = nth L k
  src : ∀ k, a ≤ k → k < b → ∃ q, a ≤ q ∧ q < b ∧ nth M k = nth L q
  st : stb L M
theorem SegE.refl (L : List Ent) (a b : Nat) : SegE L L a b := ⟨rfl, fun _ _ => rfl, fun k h1 h2 => ⟨k, h1, h2, rfl⟩, stb_refl L⟩
theorem SegE.trans {L M N : List Ent} {a b : Nat} (h : SegE L M a b) (h2 : SegE M N a b) : SegE L N a b :=
  ⟨h2.len.trans h.len, fun k hk => (h2.out k hk).trans (h.out k hk), fun k k1 k2 => by
    obtain ⟨q, q1, q2, e⟩ := h2.src k k1 k2
    obtain ⟨r, r1, r2, e2⟩ := h.src q q1 q2
    exact ⟨r, r1, r2, e.trans e2⟩, stb_trans h.st h2.st⟩
theorem SegE.wide {L M : List Ent} {a b a' b' : Nat} (h : SegE L M a b) (h1 : a' ≤ a) (h2 : b ≤ b') : SegE L M a' b' :=
  ⟨h.len, fun k hk => h.out k (by omega), fun k k1 k2 => by
    by_cases hk : a ≤ k ∧ k < b
    · obtain ⟨q, q1, q2, e⟩ := h.src k hk.1 hk.2
      exact ⟨q, by omega, by omega, e⟩
    · exact ⟨k, k1, k2, h.out k (by omega)⟩, h.st⟩
theorem rot_seg {L : List Ent} {a m b : Nat} (h1 : a ≤ m) (h2 : m ≤ b) (hb : b ≤ L.length) (h : ∀ p q, a ≤ p → p < m → m ≤ q → q < b → aheadE (nth L q) (nth L p) = true) : SegE L (rotL L a m b) a b :=
  ⟨rotL_len _ _ _ _, fun k hk => by
    by_cases hl : k < L.length
    · rw [rotL_nth hl, if_neg (by omega)]
    · have e1 : (rotL L a m b).length ≤ k := by rw [rotL_len]; omega
      simp [nth, List.getD_eq_getElem?_getD, List.getElem?_eq_none e1, List.getElem?_eq_none (show L.length ≤ k by omega)], fun k k1 k2 => by
    rw [rotL_nth (by omega), if_pos ⟨k1, k2⟩]
    split
    · exact ⟨k - a + m, by omega, by omega, rfl⟩
    · exact ⟨k - (b - m), by omega, by omega, rfl⟩, rot_stb h1 h2 hb h⟩
end Go.Proofs.Ytbegbdfbfbkflaa
/- The stable merge of two parts in order, in plain Lean: what its search finds, what the turn leaves. -/
namespace Go.Proofs.Ytbegbdfbfbkflaa
set_option linter.unusedVariables false
set_option linter.unusedSimpArgs false
theorem leE_refl (a : Ent) : leE a a = true := by unfold leE; rw [ahead_irr]; rfl
theorem srt_at {L : List Ent} {a b i j : Nat} (h : srtIn L a b) (h1 : a ≤ i) (h2 : i ≤ j) (h3 : j < b) : leE (nth L i) (nth L j) = true := by
  by_cases e : i = j
  · subst e; exact leE_refl _
  · exact h i j h1 (by omega) h3
theorem srt_join {L : List Ent} {a m b : Nat} (h1 : srtIn L a m) (h2 : srtIn L m b) (h : ∀ i j, a ≤ i → i < m → m ≤ j → j < b → leE (nth L i) (nth L j) = true) : srtIn L a b := fun i j hi hij hj => by
  by_cases c1 : j < m
  · exact h1 i j hi hij c1
  · by_cases c2 : i < m
    · exact h i j hi c2 (by omega) hj
    · exact h2 i j (by omega) hij hj
theorem srt_sub {L : List Ent} {a b a' b' : Nat} (h : srtIn L a b) (h1 : a ≤ a') (h2 : b' ≤ b) : srtIn L a' b' := fun i j hi hij hj => h i j (by omega) hij (by omega)
theorem srt_out {L M : List Ent} {a b c d : Nat} (h : SegE L M a b) (hs : srtIn L c d) (ho : d ≤ a ∨ b ≤ c) : srtIn M c d := fun i j hi hij hj => by
  rw [h.out i (by omega), h.out j (by omega)]; exact hs i j hi hij hj
theorem srt_one (L : List Ent) {a b : Nat} (h : b ≤ a + 1) : srtIn L a b := fun i j hi hij hj => by omega
/-- Where the search ends. -/
structure SymS (L : List Ent) (a m b s e : Nat) : Prop where
  h1 : a ≤ s ∧ s ≤ m ∧ m ≤ e ∧ e ≤ b
  mid : s + e = (a + b) / 2 + m
  lo : a < s → e < b → leE (nth L (s - 1)) (nth L e) = true
  hi : s < m → m < e → aheadE (nth L (e - 1)) (nth L s) = true
theorem sym_turn {L : List Ent} {a m b s e : Nat} (hb : b ≤ L.length) (hm : a ≤ m ∧ m ≤ b) (h1 : srtIn L a m) (h2 : srtIn L m b) (q : SymS L a m b s e) :
    SegE L (rotL L s m e) a b ∧ srtIn (rotL L s m e) a s ∧ srtIn (rotL L s m e) s ((a + b) / 2) ∧ srtIn (rotL L s m e) ((a + b) / 2) e ∧ srtIn (rotL L s m e) e b ∧ ∀ i j, a ≤ i → i < (a + b) / 2 → (a + b) / 2 ≤ j → j < b → leE (nth (rotL L s m e) i) (nth (rotL L s m e) j) = true := by
  obtain ⟨⟨q1, q2, q3, q4⟩, qm, ql, qh⟩ := q
  have hlt : ∀ p r, s ≤ p → p < m → m ≤ r → r < e → aheadE (nth L r) (nth L p) = true := fun p r p1 p2 r1 r2 => by
    have a1 := qh (by omega) (by omega)
    have a2 := srt_at h2 r1 (show r ≤ e - 1 by omega) (by omega)
    have a3 := srt_at h1 q1 p1 p2
    exact lt_le_lt (le_lt a2 a1) a3
  have hseg := (rot_seg (L := L) q2 q3 (by omega) hlt).wide q1 q4
  have hn : ∀ k, k < L.length → nth (rotL L s m e) k = if s ≤ k ∧ k < e then (if k < s + (e - m) then nth L (k - s + m) else nth L (k - (e - m))) else nth L k := fun k hk => rotL_nth hk
  generalize hd : (a + b) / 2 = d at *
  have hsd : s + (e - m) = d := by omega
  have n1 : ∀ k, a ≤ k → k < s → nth (rotL L s m e) k = nth L k := fun k k1 k2 => by rw [hn k (by omega), if_neg (by omega)]
  have n2 : ∀ k, s ≤ k → k < d → nth (rotL L s m e) k = nth L (k - s + m) := fun k k1 k2 => by rw [hn k (by omega), if_pos (by omega), if_pos (by omega)]
  have n3 : ∀ k, d ≤ k → k < e → nth (rotL L s m e) k = nth L (k - (e - m)) := fun k k1 k2 => by rw [hn k (by omega), if_pos (by omega), if_neg (by omega)]
  have n4 : ∀ k, e ≤ k → k < b → nth (rotL L s m e) k = nth L k := fun k k1 k2 => by rw [hn k (by omega), if_neg (by omega)]
  refine ⟨hseg, fun i j i1 i2 i3 => ?_, fun i j i1 i2 i3 => ?_, fun i j i1 i2 i3 => ?_, fun i j i1 i2 i3 => ?_, fun i j i1 i2 j1 j2 => ?_⟩
  · rw [n1 i i1 (by omega), n1 j (by omega) i3]; exact h1 i j i1 i2 (by omega)
  · rw [n2 i i1 (by omega), n2 j (by omega) i3]; exact h2 _ _ (by omega) (by omega) (by omega)
  · rw [n3 i i1 (by omega), n3 j (by omega) i3]; exact h1 _ _ (by omega) (by omega) (by omega)
  · rw [n4 i i1 (by omega), n4 j (by omega) i3]; exact h2 i j (by omega) i2 i3
  · by_cases c1 : i < s
    · rw [n1 i i1 c1]
      by_cases c2 : j < e
      · rw [n3 j j1 c2]; exact h1 _ _ i1 (by omega) (by omega)
      · rw [n4 j (by omega) j2]
        have b1 := srt_at h1 i1 (show i ≤ s - 1 by omega) (by omega)
        have b2 := ql (by omega) (by omega)
        have b3 := srt_at h2 (show m ≤ e by omega) (show e ≤ j by omega) j2
        exact leE_trans (leE_trans b1 b2) b3
    · rw [n2 i (by omega) i2]
      by_cases c2 : j < e
      · rw [n3 j j1 c2]
        exact lt_le (hlt _ _ (by omega) (by omega) (by omega) (by omega))
      · rw [n4 j (by omega) j2]; exact srt_at h2 (by omega) (by omega) j2
/-- Both halves in order, and the whole. -/
theorem sym_end {L M N : List Ent} {a d b : Nat} (hs : SegE L M a d) (hn : SegE M N d b) (h1 : srtIn M a d) (h2 : srtIn N d b) (hc : ∀ i j, a ≤ i → i < d → d ≤ j → j < b → leE (nth L i) (nth L j) = true) (had : a ≤ d ∧ d ≤ b) : SegE L N a b ∧ srtIn N a b := by
  refine ⟨(hs.wide (Nat.le_refl _) had.2).trans (hn.wide had.1 (Nat.le_refl _)), srt_join (srt_out hn h1 (.inl (Nat.le_refl _))) h2 fun i j i1 i2 j1 j2 => ?_⟩
  rw [hn.out i (.inl i2)]
  obtain ⟨q, q1, q2, e⟩ := hn.src j j1 j2
  obtain ⟨p, p1, p2, e2⟩ := hs.src i i1 i2
  rw [e, e2, hs.out q (.inr q1)]
  exact hc p q p1 p2 q1 q2
/-- One entry put into its place: from the left. -/
theorem ins_left {L : List Ent} {a i b : Nat} (hb : b ≤ L.length) (ha : a + 1 ≤ i ∧ i ≤ b) (h2 : srtIn L (a + 1) b) (hlo : ∀ k, a + 1 ≤ k → k < i → aheadE (nth L k) (nth L a) = true) (hhi : ∀ k, i ≤ k → k < b → leE (nth L a) (nth L k) = true) : SegE L (rotL L a (a + 1) i) a b ∧ srtIn (rotL L a (a + 1) i) a b := by
  have hlt : ∀ p r, a ≤ p → p < a + 1 → a + 1 ≤ r → r < i → aheadE (nth L r) (nth L p) = true := fun p r p1 p2 r1 r2 => by
    rw [show p = a by omega]; exact hlo r r1 r2
  have hseg := (rot_seg (L := L) (by omega) ha.1 (by omega) hlt).wide (Nat.le_refl _) ha.2
  have hn : ∀ k, k < L.length → nth (rotL L a (a + 1) i) k = if a ≤ k ∧ k < i then (if k < a + (i - (a + 1)) then nth L (k - a + (a + 1)) else nth L (k - (i - (a + 1)))) else nth L k := fun k hk => rotL_nth hk
  refine ⟨hseg, fun p r p1 p2 r1 => ?_⟩
  rw [hn p (by omega), hn r (by omega)]
  by_cases c1 : p < i - 1
  · rw [if_pos (by omega), if_pos (by omega)]
    by_cases c2 : r < i - 1
    · rw [if_pos (by omega), if_pos (by omega)]; exact h2 _ _ (by omega) (by omega) (by omega)
    · by_cases c3 : r < i
      · rw [if_pos (by omega), if_neg (by omega), show r - (i - (a + 1)) = a by omega]
        exact lt_le (hlo _ (by omega) (by omega))
      · rw [if_neg (by omega)]; exact h2 _ _ (by omega) (by omega) r1
  · by_cases c4 : p < i
    · rw [if_pos (by omega), if_neg (by omega), show p - (i - (a + 1)) = a by omega, if_neg (by omega)]
      exact hhi r (by omega) r1
    · rw [if_neg (by omega), if_neg (by omega)]; exact h2 _ _ (by omega) p2 r1
/-- From the right. -/
theorem ins_right {L : List Ent} {a i m : Nat} (hb : m < L.length) (ha : a ≤ i ∧ i ≤ m) (h1 : srtIn L a m) (hlo : ∀ k, a ≤ k → k < i → leE (nth L k) (nth L m) = true) (hhi : ∀ k, i ≤ k → k < m → aheadE (nth L m) (nth L k) = true) : SegE L (rotL L i m (m + 1)) a (m + 1) ∧ srtIn (rotL L i m (m + 1)) a (m + 1) := by
  have hlt : ∀ p r, i ≤ p → p < m → m ≤ r → r < m + 1 → aheadE (nth L r) (nth L p) = true := fun p r p1 p2 r1 r2 => by
    rw [show r = m by omega]; exact hhi p p1 p2
  have hseg := (rot_seg (L := L) ha.2 (by omega) (by omega) hlt).wide ha.1 (Nat.le_refl _)
  have hn : ∀ k, k < L.length → nth (rotL L i m (m + 1)) k = if i ≤ k ∧ k < m + 1 then (if k < i + (m + 1 - m) then nth L (k - i + m) else nth L (k - (m + 1 - m))) else nth L k := fun k hk => rotL_nth hk
  refine ⟨hseg, fun p r p1 p2 r1 => ?_⟩
  rw [hn p (by omega), hn r (by omega)]
  by_cases c1 : p < i
  · rw [if_neg (by omega)]
    by_cases c2 : r < i
    · rw [if_neg (by omega)]; exact h1 _ _ p1 p2 (by omega)
    · by_cases c3 : r = i
      · rw [if_pos (by omega), if_pos (by omega), show r - i + m = m by omega]; exact hlo p p1 c1
      · rw [if_pos (by omega), if_neg (by omega)]; exact h1 _ _ p1 (by omega) (by omega)
  · by_cases c3 : p = i
    · rw [if_pos (by omega), if_pos (by omega), show p - i + m = m by omega, if_pos (by omega), if_neg (by omega)]
      exact lt_le (hhi _ (by omega) (by omega))
    · rw [if_pos (by omega), if_neg (by omega), if_pos (by omega), if_neg (by omega)]; exact h1 _ _ (by omega) (by omega) (by omega)
/-- One step of moving an entry down to its place. -/
structure DwnI (L C : List Ent) (a i j : Nat) : Prop where
  seg : SegE L C a (i + 1)
  hj : a ≤ j ∧ j ≤ i
  oth : ∀ p q, a ≤ p → p < q → q ≤ i → p ≠ j → q ≠ j → leE (nth C p) (nth C q) = true
  abv : ∀ q, j < q → q ≤ i → aheadE (nth C j) (nth C q) = true
theorem dwn_start {L : List Ent} {a i : Nat} (h : srtIn L a i) (ha : a ≤ i) : DwnI L L a i i := ⟨SegE.refl _ _ _, ⟨ha, Nat.le_refl _⟩, fun p q p1 p2 p3 p4 p5 => h p q p1 p2 (by omega), fun q q1 q2 => by omega⟩
theorem dwn_step {L C : List Ent} {a i j : Nat} (hi : i < L.length) (h : DwnI L C a i j) (hj : a < j) (hlt : aheadE (nth C j) (nth C (j - 1)) = true) : DwnI L (swapL C j (j - 1)) a i (j - 1) := by
  have hl := h.seg.len
  have hh := h.hj
  have hn := fun k => swap_nth (L := C) (i := j) (j := j - 1) (by omega) (by omega) k
  have hsg : SegE C (swapL C j (j - 1)) (j - 1) (j + 1) := by
    rw [swap_rot (by omega) (by omega)]
    refine rot_seg (by omega) (by omega) (by omega) fun p q p1 p2 q1 q2 => ?_
    rw [show q = j by omega, show p = j - 1 by omega]; exact hlt
  refine ⟨h.seg.trans (hsg.wide (by omega) (by omega)), by omega, fun p q p1 p2 p3 p4 p5 => ?_, fun q q1 q2 => ?_⟩
  · rw [hn p, hn q, if_neg p4, if_neg p5]
    by_cases c1 : p = j
    · rw [if_pos c1]
      rw [if_neg (by omega)]
      exact h.oth (j - 1) q (by omega) (by omega) p3 (by omega) (by omega)
    · rw [if_neg c1]
      by_cases c2 : q = j
      · rw [if_pos c2]; exact h.oth p (j - 1) p1 (by omega) (by omega) c1 (by omega)
      · rw [if_neg c2]; exact h.oth p q p1 p2 p3 c1 c2
  · rw [hn (j - 1), hn q, if_pos rfl, if_neg (by omega)]
    by_cases c2 : q = j
    · rw [if_pos c2]; exact hlt
    · rw [if_neg c2]; exact h.abv q (by omega) q2
theorem dwn_end {L C : List Ent} {a i j : Nat} (h : DwnI L C a i j) (he : j = a ∨ aheadE (nth C j) (nth C (j - 1)) = false) : srtIn C a (i + 1) := fun p q p1 p2 p3 => by
  have hh := h.hj
  by_cases c1 : p = j
  · subst c1; exact lt_le (h.abv q p2 (by omega))
  · by_cases c2 : q = j
    · subst c2
      rcases he with he | he
      · omega
      · have h1 : leE (nth C (q - 1)) (nth C q) = true := by unfold leE; rw [he]; rfl
        by_cases c3 : p = q - 1
        · rw [c3]; exact h1
        · exact leE_trans (h.oth p (q - 1) p1 (by omega) (by omega) c1 (by omega)) h1
    · exact h.oth p q p1 p2 (by omega) c1 c2
end Go.Proofs.Ytbegbdfbfbkflaa
/- Data as the unknown results of calls: kept in a world of the result. -/
namespace Go.Proofs.Ytbegbdfbfbkflaa
set_option linter.unusedVariables false
class Enc (α : Type) where
  toV : α → Value
  ofV : Value → α
  rt : ∀ x, ofV (toV x) = x
@[reducible] def asI : Value → Int
  | .int _ n => n
  | _ => 0
@[reducible] def asS : Value → ByteArray
  | .string s => s
  | _ => ⟨#[]⟩
@[reducible] def asB : Value → Bool
  | .bool b => b
  | _ => false
def asL : Value → List Value
  | .agg cs => cs.toList
  | _ => []
instance : Enc Int := ⟨fun n => .int .i64 n, asI, fun _ => rfl⟩
instance : Enc ByteArray := ⟨fun s => .string s, asS, fun _ => rfl⟩
instance : Enc Bool := ⟨fun b => .bool b, asB, fun _ => rfl⟩
instance {α : Type} [Enc α] : Enc (List α) := ⟨fun l => .agg (l.map Enc.toV).toArray, fun v => (asL v).map Enc.ofV, fun l => by
  show ((l.map Enc.toV).toArray.toList).map Enc.ofV = l
  rw [List.toList_toArray, List.map_map]
  exact (List.map_congr_left (fun a _ => Enc.rt a)).trans (List.map_id l)⟩
instance {α β : Type} [Enc α] [Enc β] : Enc (α × β) := ⟨fun x => .agg #[Enc.toV x.1, Enc.toV x.2], fun v => (Enc.ofV ((asL v).getD 0 (.bool false)), Enc.ofV ((asL v).getD 1 (.bool false))), fun x => by
  show (Enc.ofV (Enc.toV x.1), Enc.ofV (Enc.toV x.2)) = x
  rw [Enc.rt, Enc.rt]⟩
def eW {α : Type} [Enc α] (x : α) (w : World) : World := { w with heap := #[.cells #[Enc.toV x] 0 (0, 0)] }
def yE {α : Type} [Enc α] (y : Ya) : α := match (y.w.heap[0]? : Option Obj) with
  | some (.cells cs _ _) => Enc.ofV ((cs[0]? : Option Value).getD (.bool false))
  | _ => Enc.ofV (.bool false)
theorem yE_mk {α : Type} [Enc α] (A : Option Addr) (c : Nat) (x : α) (w : World) (n : Int) : yE ⟨A, c, eW x w, n⟩ = x := Enc.rt x
end Go.Proofs.Ytbegbdfbfbkflaa
/- The stable sort of entries, walked: ranges changed, parts turned, insertion. -/
namespace Go.Proofs.Ytbegbdfbfbkflaa
open Go.RowKit
set_option maxHeartbeats 4000000
set_option maxRecDepth 20000
set_option linter.unusedVariables false
set_option linter.unusedSimpArgs false
attribute [local irreducible] Calls
abbrev rwE (A : Option Addr) (n c : Nat) (L : List Ent) : HObj := .row 71 4 A n c (fl L)
def cmpV : Value := .func (.func 205) #[] #[]
theorem isS_own {w : World} {base e sz n c : Nat} {A : Option Addr} {us : List Value} (h : Own w base e sz A n c us) (hn : 0 < n) : IsS A := by
  obtain ⟨_, ⟨hA, h0⟩ | ⟨g, cap, cur, hA, _⟩⟩ := h
  · omega
  · injection hA with hA; exact ⟨_, hA⟩
theorem swapR_c (A : Option Addr) (n c a b m : Nat) (L : List Ent) (hn : L.length = n) (hl : n ≤ 4194304) (h1 : a + m ≤ b) (h2 : b + m ≤ n) {base : Nat} {w0 w : World} {H : List HObj} {G : List World} (hw : WOk base w0 (rwE A n c L :: H) G w) :
    Calls Try.prog 262 #[.slice A n c, .int .i64 a, .int .i64 b, .int .i64 m, cmpV] w fun e w' => ∃ y : Ys, e = .returned (.tuple #[]) ∧ True ∧ WOk base w0 (rwE A n c (swR L a b m) :: H) G w' := by
  have hA : 0 < n → IsS A := fun h => isS_own (hw.own _ List.mem_cons_self) h
  refine ok_enterW 38 Try.func262 rfl rfl rfl hw ?_
  repeat' (first
    | refine ok_seq ?_
    | refine ok_then ?_
    | refine ok_block ?_
    | (refine ok_region (i := 0) ?_; refine ok_p rfl rfl rfl (by exact ps_assign rfl rfl) ?_; refine ok_nil ?_; refine ok_env [(0, _), (1, _), (2, _), (3, _), (10, _)] ⟨rfl, rfl, rfl, rfl, rfl, trivial⟩ ?_))
  refine ok_loop (ι := { k : Nat // k ≤ m }) (fun k => m - k.1) (fun k => ([(0, .slice A n c), (1, .int .i64 a), (2, .int .i64 b), (3, .int .i64 m), (10, .int .i64 k.1)], rwE A n c (swR L a b k.1) :: H, _)) ⟨0, by omega⟩ (fun ac w he hw => ⟨⟨0, by omega⟩, he.sub ⟨rfl, rfl, rfl, rfl, rfl, trivial⟩, by simp only; rw [swR_zero]; exact hw⟩) ?_
  rintro ⟨k, hk⟩
  simp only at hk ⊢
  have hll : (swR L a b k).length = n := by rw [swR_len]; exact hn
  have hst := swR_step (L := L) (a := a) (b := b) (i := k)
  have HS := Lib.hid hst; clear hst
  generalize hC : swR L a b k = C at hll HS ⊢
  repeat' (first
    | refine ok_seq ?_
    | refine ok_then ?_
    | refine ok_then_exit ?_
    | refine ok_block ?_
    | refine ok_in_normal ?_
    | refine ok_in_exit ?_
    | (refine ok_cond rfl (fun hc => ?_) (fun hc => ?_) <;> (have hd := hc; (try simp only [decide_eq_true_eq, decide_eq_false_iff_not, Bool.or_eq_true, Bool.or_eq_false_iff, Bool.and_eq_true, Bool.and_eq_false_iff, Bool.not_eq_true', Bool.not_eq_false', bne_iff_ne, beq_iff_eq, bne_eq_false_iff_eq, beq_eq_false_iff_ne, ne_eq, Bool.not_true, Bool.not_false, Bool.false_eq_true, Bool.true_eq_false, inB_true, inB_false] at hd)))
    | refine ok_exit ?_
    | refine ok_skip ?_
    | (refine ok_region (i := 1) ?_; refine ok_p rfl rfl rfl (by exact ps_move rfl rfl) ?_; refine ok_p rfl rfl rfl (by exact ps_move rfl rfl) ?_; refine ok_p rfl rfl rfl (by exact ps_int rfl rfl rfl rfl) ?_; refine ok_nil ?_; refine ok_env [(0, _), (1, _), (2, _), (3, _), (10, _), (13, _)] ⟨rfl, rfl, rfl, rfl, rfl, rfl, trivial⟩ ?_)
    | (refine ok_region (i := 2) ?_; refine ok_p rfl rfl rfl (by exact ps_move rfl rfl) ?_; refine ok_p rfl rfl rfl (by exact ps_add rfl rfl rfl (by omega)) ?_; refine ok_p rfl rfl rfl (by exact ps_assign rfl rfl) ?_; refine ok_nil ?_; refine ok_env [(0, _), (1, _), (2, _), (3, _), (10, _)] ⟨rfl, rfl, rfl, rfl, rfl, trivial⟩ ?_)
    | (apply mrg0; (focus (intro hk; refine ok_draw (id := 3) 22 rfl (by kernel_rfl) (by kernel_rfl) rfl (by repeat (first | exact pq_body | refine pq_then ?_ | refine pq_in ?_)) [] (by decide) rfl ?_; refine okT_take (i := 0) rfl (by kernel_rfl) rfl rfl rfl (by exact ps_move rfl rfl) ?_; refine okT_take (i := 1) rfl (by kernel_rfl) rfl rfl rfl (by exact ps_move rfl rfl) ?_; refine okT_take (i := 2) rfl (by kernel_rfl) rfl rfl rfl (by exact ps_move rfl rfl) ?_; refine okT_take (i := 3) rfl (by kernel_rfl) rfl rfl rfl (by exact ps_cast (v' := .int .i64 ((a + k : Nat) : Int)) (ps_add rfl rfl rfl (by omega)) (by push_cast; rfl)) ?_; refine okT_take (i := 4) rfl (by kernel_rfl) rfl rfl rfl (by exact ps_move rfl rfl) ?_; refine okT_take (i := 5) rfl (by kernel_rfl) rfl rfl rfl (by exact ps_move rfl rfl) ?_; refine okT_take (i := 6) rfl (by kernel_rfl) rfl rfl rfl (by exact ps_move rfl rfl) ?_; refine okT_take (i := 7) rfl (by kernel_rfl) rfl rfl rfl (by exact ps_cast (v' := .int .i64 ((b + k : Nat) : Int)) (ps_add rfl rfl rfl (by omega)) (by push_cast; rfl)) ?_; refine okT_take (i := 8) rfl (by kernel_rfl) rfl rfl rfl (by exact ps_move rfl rfl) ?_; refine okT_take (i := 9) rfl (by kernel_rfl) rfl rfl rfl (by exact ps_move rfl rfl) ?_; refine okT_take (i := 10) rfl (by kernel_rfl) rfl rfl rfl (by exact ps_move rfl rfl) ?_; refine okT_take (i := 11) rfl (by kernel_rfl) rfl rfl rfl (by exact ps_cast (v' := .int .i64 ((b + k : Nat) : Int)) (ps_add rfl rfl rfl (by omega)) (by push_cast; rfl)) ?_; refine okT_take (i := 12) rfl (by kernel_rfl) rfl rfl rfl (by exact ps_indexN rfl rfl rfl (by omega) (isw_of (hA (by omega)))) ?_; refine okT_take (i := 14) rfl (by kernel_rfl) rfl rfl rfl (by exact ps_move rfl rfl) ?_; refine okT_take (i := 15) rfl (by kernel_rfl) rfl rfl rfl (by exact ps_move rfl rfl) ?_; refine okT_take (i := 16) rfl (by kernel_rfl) rfl rfl rfl (by exact ps_move rfl rfl) ?_; refine okT_take (i := 17) rfl (by kernel_rfl) rfl rfl rfl (by exact ps_cast (v' := .int .i64 ((a + k : Nat) : Int)) (ps_add rfl rfl rfl (by omega)) (by push_cast; rfl)) ?_; refine okT_take (i := 18) rfl (by kernel_rfl) rfl rfl rfl (by exact ps_indexN rfl rfl rfl (by omega) (isw_of (hA (by omega)))) ?_; refine okT_many (by kernel_rfl) (all_cons (at_m (i := 13) rfl rfl rfl rfl rfl (by exact ms_ps (by exact ps_loadsF (α := Ent) (l := C) (i := b + k) rfl rfl (rds_row 0 rfl) rfl rfl (by omega) rfl)) (fun y w _ h => by exact h.sel [] (by decide) rfl (fun _ h => h)) ?_) (all_cons (at_m (i := 19) rfl rfl rfl rfl rfl (by exact ms_ps (by exact ps_loadsF (α := Ent) (l := C) (i := a + k) rfl rfl (rds_row 0 rfl) rfl rfl (by omega) rfl)) (fun y w _ h => by exact h.sel [] (by decide) rfl (fun _ h => h)) ?_) all_nil)); (focus (rintro y29 hy29; refine okT_one (i := 19) rfl rfl (by kernel_rfl) rfl rfl rfl (by exact ms_ps (by exact ps_loadsF (α := Ent) (l := C) (i := a + k) rfl rfl (rds_row 0 rfl) rfl rfl (by omega) rfl)) (fun y w _ h => by exact h.sel [] (by decide) rfl (fun _ h => h)) ?_; rintro y35 hy35; refine okT_take (i := 20) rfl (by kernel_rfl) rfl rfl rfl (by exact ps_indexN rfl rfl rfl (by omega) (isw_of (hA (by omega)))) ?_; refine okT_one0 (i := 21) rfl rfl (by kernel_rfl) rfl rfl (by exact ms_setw (α := Ent) 0 (a + k) (nth C (b + k)) rfl rfl rfl rfl rfl rfl rfl rfl rfl (by omega)) (fun y w _ h => by exact h.sel [] (by decide) rfl (fun _ h => h)) ?_; rintro y_ hy_; refine okT_done (by kernel_rfl) ?_; refine ok_p rfl rfl rfl (by exact ps_indexN rfl rfl rfl (by omega) (isw_of (hA (by omega)))) ?_; refine ok_m_ rfl rfl (by exact ms_setw (α := Ent) 0 (b + k) (nth C (a + k)) rfl rfl rfl rfl rfl rfl rfl rfl rfl (by rw [List.length_set]; omega)) ?_; rintro y_ hy_; refine ok_nil ?_; refine ok_env [(0, _), (1, _), (2, _), (3, _), (10, _)] ⟨rfl, rfl, rfl, rfl, rfl, trivial⟩ ?_; exact hk)); (focus (rintro y35 hy35; refine okT_one (i := 13) rfl rfl (by kernel_rfl) rfl rfl rfl (by exact ms_ps (by exact ps_loadsF (α := Ent) (l := C) (i := b + k) rfl rfl (rds_row 0 rfl) rfl rfl (by omega) rfl)) (fun y w _ h => by exact h.sel [] (by decide) rfl (fun _ h => h)) ?_; rintro y29 hy29; refine okT_take (i := 20) rfl (by kernel_rfl) rfl rfl rfl (by exact ps_indexN rfl rfl rfl (by omega) (isw_of (hA (by omega)))) ?_; refine okT_one0 (i := 21) rfl rfl (by kernel_rfl) rfl rfl (by exact ms_setw (α := Ent) 0 (a + k) (nth C (b + k)) rfl rfl rfl rfl rfl rfl rfl rfl rfl (by omega)) (fun y w _ h => by exact h.sel [] (by decide) rfl (fun _ h => h)) ?_; rintro y_ hy_; refine okT_done (by kernel_rfl) ?_; refine ok_p rfl rfl rfl (by exact ps_indexN rfl rfl rfl (by omega) (isw_of (hA (by omega)))) ?_; refine ok_m_ rfl rfl (by exact ms_setw (α := Ent) 0 (b + k) (nth C (a + k)) rfl rfl rfl rfl rfl rfl rfl rfl rfl (by rw [List.length_set]; omega)) ?_; rintro y_ hy_; refine ok_nil ?_; refine ok_env [(0, _), (1, _), (2, _), (3, _), (10, _)] ⟨rfl, rfl, rfl, rfl, rfl, trivial⟩ ?_; exact hk))))))
  · refine fun ac w' he hw => ⟨⟨k + 1, by omega⟩, by simp only; omega, he.sub ⟨rfl, rfl, rfl, rfl, rfl, trivial⟩, ?_⟩
    simp only
    rw [← HS.out (by omega) (by omega)]
    exact hw
  · obtain rfl : k = m := by omega
    refine ok_endN (K := .normal) (ok_endL (vs := []) rfl trivial (fun w' hw => ⟨mkY none 0 w, rfl, trivial, ?_⟩))
    rw [hC]
    exact hw
/-- A part turned round. -/
structure RotI (L : List Ent) (m : Nat) (a b : Nat) where
  C : List Ent
  i : Nat
  j : Nat
  hi : 0 < i ∧ i ≤ m - a
  hj : 0 < j ∧ j ≤ b - m
  hl : C.length = L.length
  ok : rotL L a m b = rotL C (m - i) m (m + j)
theorem rotate_c (A : Option Addr) (n c a m b : Nat) (L : List Ent) (hn : L.length = n) (hl : n ≤ 4194304) (h1 : a < m) (h2 : m < b) (h3 : b ≤ n) {base : Nat} {w0 w : World} {H : List HObj} {G : List World} (hw : WOk base w0 (rwE A n c L :: H) G w) :
    Calls Try.prog 261 #[.slice A n c, .int .i64 a, .int .i64 m, .int .i64 b, cmpV] w fun e w' => ∃ y : Ys, e = .returned (.tuple #[]) ∧ True ∧ WOk base w0 (rwE A n c (rotL L a m b) :: H) G w' := by
  refine ok_enterW 58 Try.func261 rfl rfl rfl hw ?_
  repeat' (first
    | refine ok_seq ?_
    | refine ok_block ?_
    | (refine ok_region (i := 0) ?_; refine ok_p rfl rfl rfl (by exact ps_move rfl rfl) ?_; refine ok_p rfl rfl rfl (by exact ps_move rfl rfl) ?_; refine ok_p rfl rfl rfl (by exact ps_sub rfl rfl rfl (by omega)) ?_; refine ok_p rfl rfl rfl (by exact ps_assign rfl rfl) ?_; refine ok_nil ?_; refine ok_env [(0, _), (2, _), (3, _), (4, _), (10, _)] ⟨rfl, rfl, rfl, rfl, rfl, trivial⟩ ?_)
    | (refine ok_region (i := 1) ?_; refine ok_p rfl rfl rfl (by exact ps_move rfl rfl) ?_; refine ok_p rfl rfl rfl (by exact ps_move rfl rfl) ?_; refine ok_p rfl rfl rfl (by exact ps_sub rfl rfl rfl (by omega)) ?_; refine ok_p rfl rfl rfl (by exact ps_assign rfl rfl) ?_; refine ok_nil ?_; refine ok_env [(0, _), (2, _), (4, _), (10, _), (11, _)] ⟨rfl, rfl, rfl, rfl, rfl, trivial⟩ ?_))
  refine ok_loop (ι := RotI L m a b) (fun q => q.i + q.j) (fun q => ([(0, .slice A n c), (2, .int .i64 m), (4, cmpV), (10, .int .i64 q.i), (11, .int .i64 q.j)], rwE A n c q.C :: H, _)) ⟨L, m - a, b - m, by omega, by omega, rfl, by rw [show m - (m - a) = a by omega, show m + (b - m) = b by omega]⟩ (fun ac w he hw => ⟨⟨L, m - a, b - m, by omega, by omega, rfl, by rw [show m - (m - a) = a by omega, show m + (b - m) = b by omega]⟩, he.sub ⟨rfl, rfl, rfl, by simp only [look]; congr 2; omega, by simp only [look]; congr 2; omega, trivial⟩, hw⟩) ?_
  rintro ⟨C, i, j, hi, hj, hcl, ok⟩
  simp only at hi hj hcl ok ⊢
  have OK := Lib.hid ok; clear ok
  have hcn : C.length = n := by omega
  repeat' (first
    | refine ok_seq ?_
    | refine ok_then ?_
    | refine ok_then_exit ?_
    | refine ok_block ?_
    | refine ok_in_normal ?_
    | refine ok_in_exit ?_
    | (refine ok_cond rfl (fun hc => ?_) (fun hc => ?_) <;> (have hd := hc; (try simp only [decide_eq_true_eq, decide_eq_false_iff_not, Bool.or_eq_true, Bool.or_eq_false_iff, Bool.and_eq_true, Bool.and_eq_false_iff, Bool.not_eq_true', Bool.not_eq_false', bne_iff_ne, beq_iff_eq, bne_eq_false_iff_eq, beq_eq_false_iff_ne, ne_eq, Bool.not_true, Bool.not_false, Bool.false_eq_true, Bool.true_eq_false, inB_true, inB_false] at hd)))
    | refine ok_exit ?_
    | refine ok_skip ?_
    | (refine ok_region (i := 2) ?_; refine ok_p rfl rfl rfl (by exact ps_move rfl rfl) ?_; refine ok_p rfl rfl rfl (by exact ps_move rfl rfl) ?_; refine ok_p rfl rfl rfl (by exact ps_int rfl rfl rfl rfl) ?_; refine ok_nil ?_; refine ok_env [(0, _), (2, _), (4, _), (10, _), (11, _), (20, _)] ⟨rfl, rfl, rfl, rfl, rfl, rfl, trivial⟩ ?_)
    | (refine ok_region (i := 3) ?_; refine ok_p rfl rfl rfl (by exact ps_move rfl rfl) ?_; refine ok_p rfl rfl rfl (by exact ps_move rfl rfl) ?_; refine ok_p rfl rfl rfl (by exact ps_int rfl rfl rfl rfl) ?_; refine ok_nil ?_; refine ok_env [(0, _), (2, _), (4, _), (10, _), (11, _), (23, _)] ⟨rfl, rfl, rfl, rfl, rfl, rfl, trivial⟩ ?_)
    | (refine ok_region (i := 4) ?_; refine ok_p rfl rfl rfl (by exact ps_move rfl rfl) ?_; refine ok_p rfl rfl rfl (by exact ps_move rfl rfl) ?_; refine ok_p rfl rfl rfl (by exact ps_move rfl rfl) ?_; refine ok_p rfl rfl rfl (by exact ps_cast (v' := .int .i64 ((m - i : Nat) : Int)) (ps_sub rfl rfl rfl (by omega)) (by congr 1; omega)) ?_; refine ok_p rfl rfl rfl (by exact ps_move rfl rfl) ?_; refine ok_p rfl rfl rfl (by exact ps_move rfl rfl) ?_; refine ok_p rfl rfl rfl (by exact ps_move rfl rfl) ?_; refine ok_m rfl rfl rfl (by exact ms_wr 0 rfl rfl rfl rfl (fun _ _ w hw => swapR_c A n c (m - i) m j C hcn hl (by omega) (by omega) hw)) ?_; rintro y31 hy31; refine ok_nil ?_; refine ok_env [(0, _), (2, _), (4, _), (10, _), (11, _)] ⟨rfl, rfl, rfl, rfl, rfl, trivial⟩ ?_)
    | (refine ok_region (i := 5) ?_; refine ok_p rfl rfl rfl (by exact ps_move rfl rfl) ?_; refine ok_p rfl rfl rfl (by exact ps_move rfl rfl) ?_; refine ok_p rfl rfl rfl (by exact ps_sub rfl rfl rfl (by omega)) ?_; refine ok_p rfl rfl rfl (by exact ps_assign rfl rfl) ?_; refine ok_nil ?_; refine ok_env [(0, _), (2, _), (4, _), (10, _), (11, _)] ⟨rfl, rfl, rfl, rfl, rfl, trivial⟩ ?_)
    | (refine ok_region (i := 6) ?_; refine ok_p rfl rfl rfl (by exact ps_move rfl rfl) ?_; refine ok_p rfl rfl rfl (by exact ps_move rfl rfl) ?_; refine ok_p rfl rfl rfl (by exact ps_move rfl rfl) ?_; refine ok_p rfl rfl rfl (by exact ps_cast (v' := .int .i64 ((m - i : Nat) : Int)) (ps_sub rfl rfl rfl (by omega)) (by congr 1; omega)) ?_; refine ok_p rfl rfl rfl (by exact ps_move rfl rfl) ?_; refine ok_p rfl rfl rfl (by exact ps_move rfl rfl) ?_; refine ok_p rfl rfl rfl (by exact ps_add rfl rfl rfl (by omega)) ?_; refine ok_p rfl rfl rfl (by exact ps_move rfl rfl) ?_; refine ok_p rfl rfl rfl (by exact ps_cast (v' := .int .i64 ((m + j - i : Nat) : Int)) (ps_sub rfl rfl rfl (by omega)) (by congr 1; omega)) ?_; refine ok_p rfl rfl rfl (by exact ps_move rfl rfl) ?_; refine ok_p rfl rfl rfl (by exact ps_move rfl rfl) ?_; refine ok_m rfl rfl rfl (by exact ms_wr 0 rfl rfl rfl rfl (fun _ _ w hw => swapR_c A n c (m - i) (m + j - i) i C hcn hl (by omega) (by omega) hw)) ?_; rintro y46 hy46; refine ok_nil ?_; refine ok_env [(0, _), (2, _), (4, _), (10, _), (11, _)] ⟨rfl, rfl, rfl, rfl, rfl, trivial⟩ ?_)
    | (refine ok_region (i := 7) ?_; refine ok_p rfl rfl rfl (by exact ps_move rfl rfl) ?_; refine ok_p rfl rfl rfl (by exact ps_move rfl rfl) ?_; refine ok_p rfl rfl rfl (by exact ps_sub rfl rfl rfl (by omega)) ?_; refine ok_p rfl rfl rfl (by exact ps_assign rfl rfl) ?_; refine ok_nil ?_; refine ok_env [(0, _), (2, _), (4, _), (10, _), (11, _)] ⟨rfl, rfl, rfl, rfl, rfl, trivial⟩ ?_)
    | (refine ok_region (i := 8) ?_; refine ok_p rfl rfl rfl (by exact ps_move rfl rfl) ?_; refine ok_p rfl rfl rfl (by exact ps_move rfl rfl) ?_; refine ok_p rfl rfl rfl (by exact ps_move rfl rfl) ?_; refine ok_p rfl rfl rfl (by exact ps_cast (v' := .int .i64 ((m - i : Nat) : Int)) (ps_sub rfl rfl rfl (by omega)) (by congr 1; omega)) ?_; refine ok_p rfl rfl rfl (by exact ps_move rfl rfl) ?_; refine ok_p rfl rfl rfl (by exact ps_move rfl rfl) ?_; refine ok_p rfl rfl rfl (by exact ps_move rfl rfl) ?_; refine ok_m rfl rfl rfl (by exact ms_wr 0 rfl rfl rfl rfl (fun _ _ w hw => swapR_c A n c (m - i) m i C hcn hl (by omega) (by omega) hw)) ?_; rintro y57 hy57; refine ok_nil ?_; refine ok_env [] trivial ?_))
  · refine fun ac w' he hw => ⟨⟨swR C (m - i) m j, i - j, j, by omega, by omega, by rw [swR_len]; exact hcl, by rw [OK.out]; exact rot_more (by omega) (by omega) (by omega)⟩, by simp only; omega, he.sub ⟨rfl, rfl, rfl, by simp only [look]; congr 2; omega, rfl, trivial⟩, hw⟩
  · refine fun ac w' he hw => ⟨⟨swR C (m - i) (m + j - i) i, i, j - i, by omega, by omega, by rw [swR_len]; exact hcl, by rw [OK.out]; exact rot_less (by omega) (by omega) (by omega)⟩, by simp only; omega, he.sub ⟨rfl, rfl, rfl, rfl, by simp only [look]; congr 2; omega, trivial⟩, hw⟩
  · obtain rfl : i = j := by omega
    refine ok_endN (K := .normal) (ok_endL (vs := []) rfl trivial (fun w' hw => ⟨mkY none 0 w, rfl, trivial, ?_⟩))
    rw [OK.out, rot_even (by omega) (by omega)]
    exact hw
/-- Results told by facts: the row is kept in the result. -/
instance : Enc Ent := ⟨fun e => .agg #[.string e.key, .int .i64 e.seq, .bool e.del, .string e.val], fun v => ⟨asS ((asL v).getD 0 (.bool false)), asI ((asL v).getD 1 (.bool false)), asB ((asL v).getD 2 (.bool false)), asS ((asL v).getD 3 (.bool false))⟩, fun _ => rfl⟩
def yM (M : List Ent) (w : World) : Ys := fun _ => ⟨none, 0, eW M w, 0⟩
def rM (y : Ys) : List Ent := yE (y 0)
theorem rM_yM (M : List Ent) (w : World) : rM (yM M w) = M := yE_mk _ _ _ _ _
theorem cmpE_lt (a b : Ent) : decide (cmpE a b < 0) = aheadE a b := by
  have h := cmpE_ahead a b
  cases h2 : aheadE a b with
  | true =>
    rw [h2] at h
    have : ¬ 0 ≤ cmpE a b := by simpa using h
    simp; omega
  | false =>
    rw [h2] at h
    have : 0 ≤ cmpE a b := by simpa using h
    simp; omega
structure InsI (L : List Ent) (a b : Nat) where
  C : List Ent
  i : Nat
  hi : a + 1 ≤ i ∧ (i ≤ b ∨ i = a + 1)
  seg : SegE L C a b
  srt : srtIn C a i
structure DwI (C : List Ent) (a i : Nat) where
  D : List Ent
  j : Nat
  ok : DwnI C D a i j
theorem insert_c' (A : Option Addr) (n c a b : Nat) (L : List Ent) (hn : L.length = n) (hl : n ≤ 4194304) (h1 : a ≤ b) (h2 : b ≤ n) {base : Nat} {w0 w : World} {H : List HObj} {G : List World} (hw : WOk base w0 (rwE A n c L :: H) G w) :
    Calls Try.prog 256 #[.slice A n c, .int .i64 a, .int .i64 b, cmpV] w fun e w' => ∃ y : Ys, e = .returned (.tuple #[]) ∧ (SegE L (rM y) a b ∧ srtIn (rM y) a b) ∧ WOk base w0 (rwE A n c (rM y) :: H) G w' := by
  have hA : 0 < n → IsS A := fun h => isS_own (hw.own _ List.mem_cons_self) h
  refine ok_enterW 53 Try.func256 rfl rfl rfl hw ?_
  repeat' (first
    | refine ok_seq ?_
    | refine ok_then ?_
    | refine ok_block ?_
    | (refine ok_region (i := 0) ?_; refine ok_p rfl rfl rfl (by exact ps_move rfl rfl) ?_; refine ok_p rfl rfl rfl (by exact ps_add rfl rfl rfl (by omega)) ?_; refine ok_p rfl rfl rfl (by exact ps_assign rfl rfl) ?_; refine ok_nil ?_; refine ok_env [(0, _), (1, _), (2, _), (3, _), (8, _)] ⟨rfl, rfl, rfl, rfl, rfl, trivial⟩ ?_))
  refine ok_loop (ι := InsI L a b) (fun q => b - q.i) (fun q => ([(0, .slice A n c), (1, .int .i64 a), (2, .int .i64 b), (3, cmpV), (8, .int .i64 q.i)], rwE A n c q.C :: H, _)) ⟨L, a + 1, by omega, SegE.refl _ _ _, srt_one _ (by omega)⟩ (fun ac w he hw => ⟨⟨L, a + 1, by omega, SegE.refl _ _ _, srt_one _ (by omega)⟩, he.sub ⟨rfl, rfl, rfl, rfl, by simp only [look]; congr 2, trivial⟩, hw⟩) ?_
  rintro ⟨C, i, hi, seg, srt⟩
  simp only at hi ⊢
  have hcn : C.length = n := by rw [seg.len]; exact hn
  repeat' (first
    | refine ok_seq ?_
    | refine ok_then ?_
    | refine ok_then_exit ?_
    | refine ok_block ?_
    | refine ok_in_exit ?_
    | (refine ok_cond rfl (fun hc => ?_) (fun hc => ?_) <;> (have hd := hc; (try simp only [decide_eq_true_eq, decide_eq_false_iff_not, Bool.or_eq_true, Bool.or_eq_false_iff, Bool.and_eq_true, Bool.and_eq_false_iff, Bool.not_eq_true', Bool.not_eq_false', bne_iff_ne, beq_iff_eq, bne_eq_false_iff_eq, beq_eq_false_iff_ne, ne_eq, Bool.not_true, Bool.not_false, Bool.false_eq_true, Bool.true_eq_false, inB_true, inB_false] at hd)))
    | refine ok_exit ?_
    | refine ok_skip ?_
    | (refine ok_region (i := 1) ?_; refine ok_p rfl rfl rfl (by exact ps_move rfl rfl) ?_; refine ok_p rfl rfl rfl (by exact ps_move rfl rfl) ?_; refine ok_p rfl rfl rfl (by exact ps_int rfl rfl rfl rfl) ?_; refine ok_nil ?_; refine ok_env [(0, _), (1, _), (2, _), (3, _), (8, _), (14, _)] ⟨rfl, rfl, rfl, rfl, rfl, rfl, trivial⟩ ?_)
    | (refine ok_region (i := 3) ?_; refine ok_p rfl rfl rfl (by exact ps_move rfl rfl) ?_; refine ok_p rfl rfl rfl (by exact ps_assign rfl rfl) ?_; refine ok_nil ?_; refine ok_env [(0, _), (1, _), (2, _), (3, _), (8, _), (9, _)] ⟨rfl, rfl, rfl, rfl, rfl, rfl, trivial⟩ ?_))
  · refine ok_loop (ι := DwI C a i) (fun q => q.j) (fun q => ([(0, .slice A n c), (1, .int .i64 a), (2, .int .i64 b), (3, cmpV), (8, .int .i64 i), (9, .int .i64 q.j)], rwE A n c q.D :: H, _)) ⟨C, i, dwn_start srt (by omega)⟩ (fun ac w he hw => ⟨⟨C, i, dwn_start srt (by omega)⟩, he.sub ⟨rfl, rfl, rfl, rfl, rfl, rfl, trivial⟩, hw⟩) ?_
    rintro ⟨D, j, ok⟩
    simp only
    have hj := ok.hj
    have hdn : D.length = n := by rw [ok.seg.len]; exact hcn
    have OK := Lib.hid ok; clear ok
    have SEG := Lib.hid seg; clear seg
    have SRT := Lib.hid srt; clear srt
    repeat' (first
      | refine ok_seq ?_
      | refine ok_then ?_
      | refine ok_then_exit ?_
      | refine ok_block ?_
      | refine ok_in_normal ?_
      | refine ok_in_exit ?_
      | (refine ok_cond rfl (fun hc => ?_) (fun hc => ?_) <;> (have hd := hc; (try simp only [decide_eq_true_eq, decide_eq_false_iff_not, Bool.or_eq_true, Bool.or_eq_false_iff, Bool.and_eq_true, Bool.and_eq_false_iff, Bool.not_eq_true', Bool.not_eq_false', bne_iff_ne, beq_iff_eq, bne_eq_false_iff_eq, beq_eq_false_iff_ne, ne_eq, Bool.not_true, Bool.not_false, Bool.false_eq_true, Bool.true_eq_false, inB_true, inB_false] at hd)))
      | refine ok_exit ?_
      | refine ok_skip ?_
      | (refine ok_region (i := 2) ?_; refine ok_p rfl rfl rfl (by exact ps_move rfl rfl) ?_; refine ok_p rfl rfl rfl (by exact ps_add rfl rfl rfl (by omega)) ?_; refine ok_p rfl rfl rfl (by exact ps_assign rfl rfl) ?_; refine ok_nil ?_; refine ok_env [(0, _), (1, _), (2, _), (3, _), (8, _)] ⟨rfl, rfl, rfl, rfl, rfl, trivial⟩ ?_)
      | (refine ok_draw (id := 4) 17 rfl (by kernel_rfl) (by kernel_rfl) rfl (by repeat (first | exact pq_body | refine pq_then ?_ | refine pq_in ?_)) [0] (by decide) rfl ?_; refine okT_take (i := 0) rfl (by kernel_rfl) rfl rfl rfl (by exact ps_move rfl rfl) ?_; refine okT_take (i := 1) rfl (by kernel_rfl) rfl rfl rfl (by exact ps_move rfl rfl) ?_; refine okT_take (i := 2) rfl (by kernel_rfl) rfl rfl rfl (by exact ps_int rfl rfl rfl rfl) ?_; refine okT_take (i := 3) rfl (by kernel_rfl) rfl rfl rfl (by exact ps_move rfl rfl) ?_; refine okT_take_g1 (i := 4) rfl (by kernel_rfl) rfl rfl rfl rfl rfl (gT _) (fun hp => by (have hpd := hp; (try simp only [decide_eq_true_eq, decide_eq_false_iff_not, Bool.or_eq_true, Bool.or_eq_false_iff, Bool.and_eq_true, Bool.and_eq_false_iff, Bool.not_eq_true', Bool.not_eq_false', bne_iff_ne, beq_iff_eq, bne_eq_false_iff_eq, beq_eq_false_iff_ne, ne_eq, Bool.not_true, Bool.not_false, Bool.false_eq_true, Bool.true_eq_false, inB_true, inB_false] at hpd); exact ps_move rfl (by exact rfl))) ?_; refine okT_take_g1 (i := 5) rfl (by kernel_rfl) rfl rfl rfl rfl rfl (gT _) (fun hp => by (have hpd := hp; (try simp only [decide_eq_true_eq, decide_eq_false_iff_not, Bool.or_eq_true, Bool.or_eq_false_iff, Bool.and_eq_true, Bool.and_eq_false_iff, Bool.not_eq_true', Bool.not_eq_false', bne_iff_ne, beq_iff_eq, bne_eq_false_iff_eq, beq_eq_false_iff_ne, ne_eq, Bool.not_true, Bool.not_false, Bool.false_eq_true, Bool.true_eq_false, inB_true, inB_false] at hpd); exact ps_move rfl (by exact rfl))) ?_; refine okT_take_g1 (i := 6) rfl (by kernel_rfl) rfl rfl rfl rfl rfl (gT _) (fun hp => by (have hpd := hp; (try simp only [decide_eq_true_eq, decide_eq_false_iff_not, Bool.or_eq_true, Bool.or_eq_false_iff, Bool.and_eq_true, Bool.and_eq_false_iff, Bool.not_eq_true', Bool.not_eq_false', bne_iff_ne, beq_iff_eq, bne_eq_false_iff_eq, beq_eq_false_iff_ne, ne_eq, Bool.not_true, Bool.not_false, Bool.false_eq_true, Bool.true_eq_false, inB_true, inB_false] at hpd); exact ps_move rfl (by exact rfl))) ?_; refine okT_take_g1 (i := 7) rfl (by kernel_rfl) rfl rfl rfl rfl rfl (gT _) (fun hp => by (have hpd := hp; (try simp only [decide_eq_true_eq, decide_eq_false_iff_not, Bool.or_eq_true, Bool.or_eq_false_iff, Bool.and_eq_true, Bool.and_eq_false_iff, Bool.not_eq_true', Bool.not_eq_false', bne_iff_ne, beq_iff_eq, bne_eq_false_iff_eq, beq_eq_false_iff_ne, ne_eq, Bool.not_true, Bool.not_false, Bool.false_eq_true, Bool.true_eq_false, inB_true, inB_false] at hpd); exact ps_indexN rfl (by (refine og rfl ?_; assumption)) (by (refine og rfl ?_; assumption)) (by omega) (by exact isw_row 0 rfl (by omega)))) ?_; refine okT_take_g1 (i := 8) rfl (by kernel_rfl) rfl rfl rfl rfl rfl (gT _) (fun hp => by (have hpd := hp; (try simp only [decide_eq_true_eq, decide_eq_false_iff_not, Bool.or_eq_true, Bool.or_eq_false_iff, Bool.and_eq_true, Bool.and_eq_false_iff, Bool.not_eq_true', Bool.not_eq_false', bne_iff_ne, beq_iff_eq, bne_eq_false_iff_eq, beq_eq_false_iff_ne, ne_eq, Bool.not_true, Bool.not_false, Bool.false_eq_true, Bool.true_eq_false, inB_true, inB_false] at hpd); exact ps_loadsF rfl (by (refine og rfl ?_; assumption)) (by exact rds_row 0 rfl) (by rfl) (by rfl) (by omega) rfl)) ?_; refine okT_take_g1 (i := 9) rfl (by kernel_rfl) rfl rfl rfl rfl rfl (gT _) (fun hp => by (have hpd := hp; (try simp only [decide_eq_true_eq, decide_eq_false_iff_not, Bool.or_eq_true, Bool.or_eq_false_iff, Bool.and_eq_true, Bool.and_eq_false_iff, Bool.not_eq_true', Bool.not_eq_false', bne_iff_ne, beq_iff_eq, bne_eq_false_iff_eq, beq_eq_false_iff_ne, ne_eq, Bool.not_true, Bool.not_false, Bool.false_eq_true, Bool.true_eq_false, inB_true, inB_false] at hpd); exact ps_move rfl (by exact rfl))) ?_; refine okT_take_g1 (i := 10) rfl (by kernel_rfl) rfl rfl rfl rfl rfl (gT _) (fun hp => by (have hpd := hp; (try simp only [decide_eq_true_eq, decide_eq_false_iff_not, Bool.or_eq_true, Bool.or_eq_false_iff, Bool.and_eq_true, Bool.and_eq_false_iff, Bool.not_eq_true', Bool.not_eq_false', bne_iff_ne, beq_iff_eq, bne_eq_false_iff_eq, beq_eq_false_iff_ne, ne_eq, Bool.not_true, Bool.not_false, Bool.false_eq_true, Bool.true_eq_false, inB_true, inB_false] at hpd); exact ps_move rfl (by exact rfl))) ?_; refine okT_take_g1 (i := 11) rfl (by kernel_rfl) rfl rfl rfl rfl rfl (gT _) (fun hp => by (have hpd := hp; (try simp only [decide_eq_true_eq, decide_eq_false_iff_not, Bool.or_eq_true, Bool.or_eq_false_iff, Bool.and_eq_true, Bool.and_eq_false_iff, Bool.not_eq_true', Bool.not_eq_false', bne_iff_ne, beq_iff_eq, bne_eq_false_iff_eq, beq_eq_false_iff_ne, ne_eq, Bool.not_true, Bool.not_false, Bool.false_eq_true, Bool.true_eq_false, inB_true, inB_false] at hpd); exact ps_cast (v' := .int .i64 ((j - 1 : Nat) : Int)) (ps_sub rfl (by (refine og rfl ?_; assumption)) rfl (by omega)) (by congr 1; omega))) ?_; refine okT_take_g1 (i := 12) rfl (by kernel_rfl) rfl rfl rfl rfl rfl (gT _) (fun hp => by (have hpd := hp; (try simp only [decide_eq_true_eq, decide_eq_false_iff_not, Bool.or_eq_true, Bool.or_eq_false_iff, Bool.and_eq_true, Bool.and_eq_false_iff, Bool.not_eq_true', Bool.not_eq_false', bne_iff_ne, beq_iff_eq, bne_eq_false_iff_eq, beq_eq_false_iff_ne, ne_eq, Bool.not_true, Bool.not_false, Bool.false_eq_true, Bool.true_eq_false, inB_true, inB_false] at hpd); exact ps_indexN rfl (by (refine og rfl ?_; assumption)) (by (refine og rfl ?_; assumption)) (by omega) (by exact isw_row 0 rfl (by omega)))) ?_; refine okT_take_g1 (i := 13) rfl (by kernel_rfl) rfl rfl rfl rfl rfl (gT _) (fun hp => by (have hpd := hp; (try simp only [decide_eq_true_eq, decide_eq_false_iff_not, Bool.or_eq_true, Bool.or_eq_false_iff, Bool.and_eq_true, Bool.and_eq_false_iff, Bool.not_eq_true', Bool.not_eq_false', bne_iff_ne, beq_iff_eq, bne_eq_false_iff_eq, beq_eq_false_iff_ne, ne_eq, Bool.not_true, Bool.not_false, Bool.false_eq_true, Bool.true_eq_false, inB_true, inB_false] at hpd); exact ps_loadsF rfl (by (refine og rfl ?_; assumption)) (by exact rds_row 0 rfl) (by rfl) (by rfl) (by omega) rfl)) ?_; refine okT_one_g1 (i := 14) rfl rfl (by kernel_rfl) rfl rfl rfl rfl rfl (gT _) (fun hp => by (have hpd := hp; (try simp only [decide_eq_true_eq, decide_eq_false_iff_not, Bool.or_eq_true, Bool.or_eq_false_iff, Bool.and_eq_true, Bool.and_eq_false_iff, Bool.not_eq_true', Bool.not_eq_false', bne_iff_ne, beq_iff_eq, bne_eq_false_iff_eq, beq_eq_false_iff_ne, ne_eq, Bool.not_true, Bool.not_false, Bool.false_eq_true, Bool.true_eq_false, inB_true, inB_false] at hpd); exact ms_v2 rfl (by (refine og rfl ?_; assumption)) (by (refine og rfl ?_; assumption)) (by (refine og rfl ?_; assumption)) (fun _ _ w hw => compareEnts_c (nth D j) (nth D (j - 1)) w))) (fun w h => by exact h.sel [0] (by decide) rfl (fun _ h => h)) ?_; refine okT_take_g1 (i := 15) rfl (by kernel_rfl) rfl rfl rfl rfl rfl (gT _) (fun hp => by (have hpd := hp; (try simp only [decide_eq_true_eq, decide_eq_false_iff_not, Bool.or_eq_true, Bool.or_eq_false_iff, Bool.and_eq_true, Bool.and_eq_false_iff, Bool.not_eq_true', Bool.not_eq_false', bne_iff_ne, beq_iff_eq, bne_eq_false_iff_eq, beq_eq_false_iff_ne, ne_eq, Bool.not_true, Bool.not_false, Bool.false_eq_true, Bool.true_eq_false, inB_true, inB_false] at hpd); exact ps_int rfl (by (refine og rfl ?_; assumption)) (by exact rfl) rfl)) ?_; refine okT_take (i := 16) rfl (by kernel_rfl) rfl rfl rfl (by exact ps_and rfl rfl rfl) ?_; refine okT_done (by kernel_rfl) ?_; refine ok_nil ?_; refine ok_env [(0, _), (1, _), (2, _), (3, _), (8, _), (9, _), (34, _)] ⟨rfl, rfl, rfl, rfl, rfl, rfl, rfl, trivial⟩ ?_)
      | (refine ok_region (i := 5) ?_; refine ok_p rfl rfl rfl (by exact ps_move rfl rfl) ?_; refine ok_p rfl rfl rfl (by exact ps_cast (v' := .int .i64 ((j - 1 : Nat) : Int)) (ps_sub rfl rfl rfl (by omega)) (by congr 1; omega)) ?_; refine ok_p rfl rfl rfl (by exact ps_assign rfl rfl) ?_; refine ok_nil ?_; refine ok_env [(0, _), (1, _), (2, _), (3, _), (8, _), (9, _)] ⟨rfl, rfl, rfl, rfl, rfl, rfl, trivial⟩ ?_)
      | (apply mrg0; (focus (intro hk; refine ok_draw (id := 6) 16 rfl (by kernel_rfl) (by kernel_rfl) rfl (by repeat (first | exact pq_body | refine pq_then ?_ | refine pq_in ?_)) [] (by decide) rfl ?_; refine okT_take (i := 0) rfl (by kernel_rfl) rfl rfl rfl (by exact ps_move rfl rfl) ?_; refine okT_take (i := 1) rfl (by kernel_rfl) rfl rfl rfl (by exact ps_move rfl rfl) ?_; refine okT_take (i := 2) rfl (by kernel_rfl) rfl rfl rfl (by exact ps_move rfl rfl) ?_; refine okT_take (i := 3) rfl (by kernel_rfl) rfl rfl rfl (by exact ps_move rfl rfl) ?_; refine okT_take (i := 4) rfl (by kernel_rfl) rfl rfl rfl (by exact ps_cast (v' := .int .i64 ((j - 1 : Nat) : Int)) (ps_sub rfl rfl rfl (by omega)) (by congr 1; omega)) ?_; refine okT_take (i := 5) rfl (by kernel_rfl) rfl rfl rfl (by exact ps_move rfl rfl) ?_; refine okT_take (i := 6) rfl (by kernel_rfl) rfl rfl rfl (by exact ps_move rfl rfl) ?_; refine okT_take (i := 7) rfl (by kernel_rfl) rfl rfl rfl (by exact ps_cast (v' := .int .i64 ((j - 1 : Nat) : Int)) (ps_sub rfl rfl rfl (by omega)) (by congr 1; omega)) ?_; refine okT_take (i := 8) rfl (by kernel_rfl) rfl rfl rfl (by exact ps_indexN rfl rfl rfl (by omega) (isw_of (hA (by omega)))) ?_; refine okT_take (i := 10) rfl (by kernel_rfl) rfl rfl rfl (by exact ps_move rfl rfl) ?_; refine okT_take (i := 11) rfl (by kernel_rfl) rfl rfl rfl (by exact ps_move rfl rfl) ?_; refine okT_take (i := 12) rfl (by kernel_rfl) rfl rfl rfl (by exact ps_indexN rfl rfl rfl (by omega) (isw_of (hA (by omega)))) ?_; refine okT_many (by kernel_rfl) (all_cons (at_m (i := 9) rfl rfl rfl rfl rfl (by exact ms_ps (by exact ps_loadsF (α := Ent) (l := D) (i := j - 1) rfl rfl (rds_row 0 rfl) rfl rfl (by omega) rfl)) (fun y w _ h => by exact h.sel [] (by decide) rfl (fun _ h => h)) ?_) (all_cons (at_m (i := 13) rfl rfl rfl rfl rfl (by exact ms_ps (by exact ps_loadsF (α := Ent) (l := D) (i := j) rfl rfl (rds_row 0 rfl) rfl rfl (by omega) rfl)) (fun y w _ h => by exact h.sel [] (by decide) rfl (fun _ h => h)) ?_) all_nil)); (focus (rintro y46 hy46; refine okT_one (i := 13) rfl rfl (by kernel_rfl) rfl rfl rfl (by exact ms_ps (by exact ps_loadsF (α := Ent) (l := D) (i := j) rfl rfl (rds_row 0 rfl) rfl rfl (by omega) rfl)) (fun y w _ h => by exact h.sel [] (by decide) rfl (fun _ h => h)) ?_; rintro y50 hy50; refine okT_take (i := 14) rfl (by kernel_rfl) rfl rfl rfl (by exact ps_indexN rfl rfl rfl (by omega) (isw_of (hA (by omega)))) ?_; refine okT_one0 (i := 15) rfl rfl (by kernel_rfl) rfl rfl (by exact ms_setw (α := Ent) 0 j (nth D (j - 1)) rfl rfl rfl rfl rfl rfl rfl rfl rfl (by omega)) (fun y w _ h => by exact h.sel [] (by decide) rfl (fun _ h => h)) ?_; rintro y_ hy_; refine okT_done (by kernel_rfl) ?_; refine ok_p rfl rfl rfl (by exact ps_indexN rfl rfl rfl (by omega) (isw_of (hA (by omega)))) ?_; refine ok_m_ rfl rfl (by exact ms_setw (α := Ent) 0 (j - 1) (nth D j) rfl rfl rfl rfl rfl rfl rfl rfl rfl (by rw [List.length_set]; omega)) ?_; rintro y_ hy_; refine ok_nil ?_; refine ok_env [(0, _), (1, _), (2, _), (3, _), (8, _), (9, _)] ⟨rfl, rfl, rfl, rfl, rfl, rfl, trivial⟩ ?_; exact hk)); (focus (rintro y50 hy50; refine okT_one (i := 9) rfl rfl (by kernel_rfl) rfl rfl rfl (by exact ms_ps (by exact ps_loadsF (α := Ent) (l := D) (i := j - 1) rfl rfl (rds_row 0 rfl) rfl rfl (by omega) rfl)) (fun y w _ h => by exact h.sel [] (by decide) rfl (fun _ h => h)) ?_; rintro y46 hy46; refine okT_take (i := 14) rfl (by kernel_rfl) rfl rfl rfl (by exact ps_indexN rfl rfl rfl (by omega) (isw_of (hA (by omega)))) ?_; refine okT_one0 (i := 15) rfl rfl (by kernel_rfl) rfl rfl (by exact ms_setw (α := Ent) 0 j (nth D (j - 1)) rfl rfl rfl rfl rfl rfl rfl rfl rfl (by omega)) (fun y w _ h => by exact h.sel [] (by decide) rfl (fun _ h => h)) ?_; rintro y_ hy_; refine okT_done (by kernel_rfl) ?_; refine ok_p rfl rfl rfl (by exact ps_indexN rfl rfl rfl (by omega) (isw_of (hA (by omega)))) ?_; refine ok_m_ rfl rfl (by exact ms_setw (α := Ent) 0 (j - 1) (nth D j) rfl rfl rfl rfl rfl rfl rfl rfl rfl (by rw [List.length_set]; omega)) ?_; rintro y_ hy_; refine ok_nil ?_; refine ok_env [(0, _), (1, _), (2, _), (3, _), (8, _), (9, _)] ⟨rfl, rfl, rfl, rfl, rfl, rfl, trivial⟩ ?_; exact hk))))))
    all_goals rw [cmpE_lt] at hc
    · simp only [Bool.and_eq_true, decide_eq_true_eq] at hc
      exact fun ac w' he hw => ⟨⟨swapL D j (j - 1), j - 1, dwn_step (by omega) OK.out (by omega) hc.2⟩, by simp only; omega, he.sub ⟨rfl, rfl, rfl, rfl, rfl, rfl, trivial⟩, hw⟩
    · have he1 : j = a ∨ aheadE (nth D j) (nth D (j - 1)) = false := by
        rw [Bool.and_eq_false_iff, decide_eq_false_iff_not] at hc
        rcases hc with h | h
        · left; omega
        · exact .inr h
      exact fun ac w' he hw => ⟨⟨D, i + 1, by omega, SEG.out.trans (OK.out.seg.wide (Nat.le_refl _) (by omega)), dwn_end OK.out he1⟩, by simp only; omega, he.sub ⟨rfl, rfl, rfl, rfl, rfl, trivial⟩, hw⟩
  · refine ok_endN (K := .normal) (ok_endL (vs := []) rfl trivial (fun w' hw => ⟨yM C w, rfl, ?_, ?_⟩))
    · rw [rM_yM]; exact ⟨seg, srt_sub srt (Nat.le_refl _) (by omega)⟩
    · rw [rM_yM]; exact hw
end Go.Proofs.Ytbegbdfbfbkflaa
