/- Texts of this claim, one behind the other: WkT, EngF, WkU, WkX, ElKV, Ins, Seq, GT2, Ty, Sl, In, Tu, Var, RvP, Fix, Crc, Shs, Rv, Rds, DtP, ApE, DrE, Byt, BkE. -/
import Derived.Test.YtbegbdfbfbkflaaPrWalk3
import Derived.Test.YtbegbdfbfbkflaaPrWalk1
import Derived.Test.YtbegbdfbfbkflaaPrWalk2
import Derived.Laws.BitsAllLaws
import Derived.Laws.Bits128
/- The reference's walks: what is seen, and where a walk stands. -/
namespace Go.Proofs.Ytbegbdfbfbkflaa
open Go.RowKit
set_option maxHeartbeats 4000000
set_option maxRecDepth 20000
set_option linter.unusedVariables false
set_option linter.unusedSimpArgs false
attribute [local irreducible] Calls
def noE : Ent := ⟨⟨#[]⟩, 0, false, ⟨#[]⟩⟩
theorem l9Get_c (A : Option Addr) (c : Nat) (l : List Ent) (k : ByteArray) (seq : Int) (w : World) (h : Rd w A (fl l)) (hl : l.length ≤ 4194304) :
    Calls Try.prog 170 #[.slice A l.length c, .string k, .int .i64 seq] w fun e w' => e = .returned (.tuple #[.agg (Dat.cells ((getE l k seq).getD noE)).toArray, .bool (getE l k seq).isSome]) ∧ Below w.heap.size w w' := by
  refine ok_enter 36 Try.func170 rfl rfl rfl ?_
  repeat' (first
    | refine ok_seq ?_
    | refine ok_then ?_
    | refine ok_block ?_
    | (refine ok_region (i := 0) ?_; refine ok_m rfl rfl rfl (by exact ms_alloc rfl) ?_; rintro y6 hy6; refine ok_p rfl rfl rfl (by exact ps_assign rfl rfl) ?_; refine ok_nil ?_; refine ok_env [(0, _), (1, _), (2, _), (6, _)] ⟨rfl, rfl, rfl, rfl, trivial⟩ ?_)
    | (refine ok_region (i := 1) ?_; refine ok_p rfl rfl rfl (by exact ps_assign rfl rfl) ?_; refine ok_nil ?_; refine ok_env [(0, _), (1, _), (2, _), (6, _), (8, _)] ⟨rfl, rfl, rfl, rfl, rfl, trivial⟩ ?_))
  refine ok_loop (ι := { i : Nat // i ≤ l.length ∧ (l.drop i).find? (isK k seq) = getE l k seq }) (fun i => l.length - i.1) (fun i => ([(0, .slice A l.length c), (1, .string k), (2, .int .i64 seq), (6, pt (ga (y6 0).c) 0), (8, .int .i64 i.1)], _, _)) ⟨0, by omega, rfl⟩ (fun a w he hw => ⟨⟨0, by omega, rfl⟩, he.sub ⟨rfl, rfl, rfl, rfl, rfl, trivial⟩, hw⟩) ?_
  rintro ⟨i, hi, hf⟩
  simp only at hi ⊢
  have HF := Lib.hid hf; clear hf
  repeat' (first
    | refine ok_seq ?_
    | refine ok_then ?_
    | refine ok_then_ret ?_
    | refine ok_block ?_
    | refine ok_in_normal ?_
    | refine ok_in_ret ?_
    | (refine ok_cond rfl (fun hc => ?_) (fun hc => ?_) <;> (have hd := hc; (try simp only [decide_eq_true_eq, decide_eq_false_iff_not, Bool.or_eq_true, Bool.or_eq_false_iff, Bool.and_eq_true, Bool.and_eq_false_iff, Bool.not_eq_true', Bool.not_eq_false', bne_iff_ne, beq_iff_eq, bne_eq_false_iff_eq, beq_eq_false_iff_ne, ne_eq, Bool.not_true, Bool.not_false, Bool.false_eq_true, Bool.true_eq_false, inB_true, inB_false] at hd)))
    | refine ok_ret ?_
    | refine ok_exit ?_
    | refine ok_skip ?_
    | (refine ok_region (i := 2) ?_; refine ok_p rfl rfl rfl (by exact ps_move rfl rfl) ?_; refine ok_p rfl rfl rfl (by exact ps_move rfl rfl) ?_; refine ok_p rfl rfl rfl (by exact ps_len rfl rfl) ?_; refine ok_p rfl rfl rfl (by exact ps_int rfl rfl rfl rfl) ?_; refine ok_nil ?_; refine ok_env [(0, _), (1, _), (2, _), (6, _), (8, _), (12, _)] ⟨rfl, rfl, rfl, rfl, rfl, rfl, trivial⟩ ?_)
    | (refine ok_region (i := 3) ?_; refine ok_p rfl rfl rfl (by exact ps_move rfl rfl) ?_; refine ok_p rfl rfl rfl (by exact ps_add rfl rfl rfl (by omega)) ?_; refine ok_p rfl rfl rfl (by exact ps_assign rfl rfl) ?_; refine ok_nil ?_; refine ok_env [(0, _), (1, _), (2, _), (6, _), (8, _)] ⟨rfl, rfl, rfl, rfl, rfl, trivial⟩ ?_)
    | (refine ok_region (i := 4) ?_; refine ok_p rfl rfl rfl (by exact ps_move rfl rfl) ?_; refine ok_p rfl rfl rfl (by exact ps_move rfl rfl) ?_; refine ok_p rfl rfl rfl (by exact ps_indexN rfl rfl rfl (by omega) (by exact isw_of (isS_fl (by assumption) (by omega)))) ?_; refine ok_p rfl rfl rfl (by exact ps_field rfl rfl (by exact isw_of (isS_fl (by assumption) (by omega)))) ?_; refine ok_p rfl rfl rfl (by exact ps_load rfl rfl (by exact Rds.cell (rds_rf (by assumption) (by exact List.mem_cons_self)) (by exact fl_at0 _ _ (by omega) (by decide)))) ?_; refine ok_p rfl rfl rfl (by exact ps_move rfl rfl) ?_; refine ok_p rfl rfl rfl (by exact ps_str rfl rfl rfl rfl) ?_; refine ok_p rfl rfl rfl (by exact ps_move rfl rfl) ?_; refine ok_pg rfl rfl rfl rfl rfl (gT _) (fun hp => by (have hpd := hp; (try simp only [decide_eq_true_eq, decide_eq_false_iff_not, Bool.or_eq_true, Bool.or_eq_false_iff, Bool.and_eq_true, Bool.and_eq_false_iff, Bool.not_eq_true', Bool.not_eq_false', bne_iff_ne, beq_iff_eq, bne_eq_false_iff_eq, beq_eq_false_iff_ne, ne_eq, Bool.not_true, Bool.not_false, Bool.false_eq_true, Bool.true_eq_false, inB_true, inB_false] at hpd); exact ps_move rfl (by exact rfl))) ?_; refine ok_pg rfl rfl rfl rfl rfl (gT _) (fun hp => by (have hpd := hp; (try simp only [decide_eq_true_eq, decide_eq_false_iff_not, Bool.or_eq_true, Bool.or_eq_false_iff, Bool.and_eq_true, Bool.and_eq_false_iff, Bool.not_eq_true', Bool.not_eq_false', bne_iff_ne, beq_iff_eq, bne_eq_false_iff_eq, beq_eq_false_iff_ne, ne_eq, Bool.not_true, Bool.not_false, Bool.false_eq_true, Bool.true_eq_false, inB_true, inB_false] at hpd); exact ps_move rfl (by exact rfl))) ?_; refine ok_pg rfl rfl rfl rfl rfl (gT _) (fun hp => by (have hpd := hp; (try simp only [decide_eq_true_eq, decide_eq_false_iff_not, Bool.or_eq_true, Bool.or_eq_false_iff, Bool.and_eq_true, Bool.and_eq_false_iff, Bool.not_eq_true', Bool.not_eq_false', bne_iff_ne, beq_iff_eq, bne_eq_false_iff_eq, beq_eq_false_iff_ne, ne_eq, Bool.not_true, Bool.not_false, Bool.false_eq_true, Bool.true_eq_false, inB_true, inB_false] at hpd); exact ps_indexN rfl (by (refine og rfl ?_; assumption)) (by (refine og rfl ?_; assumption)) (by omega) (by exact isw_of (isS_fl (by assumption) (by omega))))) ?_; refine ok_pg rfl rfl rfl rfl rfl (gT _) (fun hp => by (have hpd := hp; (try simp only [decide_eq_true_eq, decide_eq_false_iff_not, Bool.or_eq_true, Bool.or_eq_false_iff, Bool.and_eq_true, Bool.and_eq_false_iff, Bool.not_eq_true', Bool.not_eq_false', bne_iff_ne, beq_iff_eq, bne_eq_false_iff_eq, beq_eq_false_iff_ne, ne_eq, Bool.not_true, Bool.not_false, Bool.false_eq_true, Bool.true_eq_false, inB_true, inB_false] at hpd); exact ps_field rfl (by (refine og rfl ?_; assumption)) (by exact isw_of (isS_fl (by assumption) (by omega))))) ?_; refine ok_pg rfl rfl rfl rfl rfl (gT _) (fun hp => by (have hpd := hp; (try simp only [decide_eq_true_eq, decide_eq_false_iff_not, Bool.or_eq_true, Bool.or_eq_false_iff, Bool.and_eq_true, Bool.and_eq_false_iff, Bool.not_eq_true', Bool.not_eq_false', bne_iff_ne, beq_iff_eq, bne_eq_false_iff_eq, beq_eq_false_iff_ne, ne_eq, Bool.not_true, Bool.not_false, Bool.false_eq_true, Bool.true_eq_false, inB_true, inB_false] at hpd); exact ps_load rfl (by (refine og rfl ?_; assumption)) (by exact Rds.cell (rds_rf (by assumption) (by exact List.mem_cons_self)) (by exact fl_at _ _ _ (by omega) (by decide))))) ?_; refine ok_pg rfl rfl rfl rfl rfl (gT _) (fun hp => by (have hpd := hp; (try simp only [decide_eq_true_eq, decide_eq_false_iff_not, Bool.or_eq_true, Bool.or_eq_false_iff, Bool.and_eq_true, Bool.and_eq_false_iff, Bool.not_eq_true', Bool.not_eq_false', bne_iff_ne, beq_iff_eq, bne_eq_false_iff_eq, beq_eq_false_iff_ne, ne_eq, Bool.not_true, Bool.not_false, Bool.false_eq_true, Bool.true_eq_false, inB_true, inB_false] at hpd); exact ps_move rfl (by exact rfl))) ?_; refine ok_pg rfl rfl rfl rfl rfl (gT _) (fun hp => by (have hpd := hp; (try simp only [decide_eq_true_eq, decide_eq_false_iff_not, Bool.or_eq_true, Bool.or_eq_false_iff, Bool.and_eq_true, Bool.and_eq_false_iff, Bool.not_eq_true', Bool.not_eq_false', bne_iff_ne, beq_iff_eq, bne_eq_false_iff_eq, beq_eq_false_iff_ne, ne_eq, Bool.not_true, Bool.not_false, Bool.false_eq_true, Bool.true_eq_false, inB_true, inB_false] at hpd); exact ps_int rfl (by (refine og rfl ?_; assumption)) (by (refine og rfl ?_; assumption)) rfl)) ?_; refine ok_p rfl rfl rfl (by exact ps_and rfl rfl rfl) ?_; refine ok_nil ?_; refine ok_env [(0, _), (1, _), (2, _), (6, _), (8, _), (30, _)] ⟨rfl, rfl, rfl, rfl, rfl, rfl, trivial⟩ ?_)
    | (refine ok_region (i := 5) ?_; refine ok_p rfl rfl rfl (by exact ps_move rfl rfl) ?_; refine ok_p rfl rfl rfl (by exact ps_move rfl rfl) ?_; refine ok_p rfl rfl rfl (by exact ps_indexN rfl rfl rfl (by omega) (by exact isw_of (isS_fl (by assumption) (by omega)))) ?_; refine ok_p rfl rfl rfl (by exact ps_loadsF (α := Ent) (l := l) (i := i) rfl rfl (rds_rf h (by exact List.mem_cons_self)) rfl rfl (by omega) rfl) ?_; refine ok_m_ rfl rfl (by exact ms_store 0 rfl rfl rfl rfl rfl rfl rfl rfl) ?_; rintro y_ hy_; refine ok_p rfl rfl rfl (by exact ps_assign rfl rfl) ?_; refine ok_nil ?_; refine ok_env [(6, _), (7, _)] ⟨rfl, rfl, trivial⟩ ?_)
    | (refine ok_region (i := 6) ?_; refine ok_p rfl rfl rfl (by exact ps_bld rfl parts_nil rfl) ?_; refine ok_m_ rfl rfl (by exact ms_store 0 rfl rfl rfl rfl rfl rfl rfl rfl) ?_; rintro y_ hy_; refine ok_p rfl rfl rfl (by exact ps_assign rfl rfl) ?_; refine ok_nil ?_; refine ok_env [(6, _), (7, _)] ⟨rfl, rfl, trivial⟩ ?_))
  · have e : getE l k seq = some (nth l i) := by
      rw [← HF.out, dropE (by omega), List.find?_cons_of_pos]
      exact hc
    rw [e]
    exact ok_endL (vs := [_, _]) rfl ⟨⟨_, 0, _, _, _, rfl, rfl, inferInstance, rfl, rfl⟩, rfl, trivial⟩ (fun w' hw => ⟨rfl, hw.below⟩)
  · have e : (l.drop (i + 1)).find? (isK k seq) = getE l k seq := by
      rw [← HF.out, dropE (show i < l.length by omega), List.find?_cons_of_neg]
      rw [show isK k seq (nth l i) = false from hc]; exact Bool.false_ne_true
    exact fun a w' he hw => ⟨⟨i + 1, by omega, e⟩, by simp only; omega, he.sub ⟨rfl, rfl, rfl, rfl, rfl, trivial⟩, hw⟩
  · have e : getE l k seq = none := by rw [← HF.out, List.drop_of_length_le (by omega)]; rfl
    rw [e]
    exact ok_endL (vs := [_, _]) rfl ⟨⟨_, 0, _, _, _, rfl, rfl, inferInstance, rfl, rfl⟩, rfl, trivial⟩ (fun w' hw => ⟨rfl, hw.below⟩)
theorem str_one {l : List Ent} (hs : strE l) {a b : Ent} (ha : a ∈ l) (hb : b ∈ l) (hk : a.key = b.key) (hq : a.seq = b.seq) : a = b := by
  have hsm : sameE a b = true := by unfold sameE; rw [hk, hq, sEq_ref]; simp
  have h1 := (find_str hs a).2 ha
  have h2 := (find_str hs b).2 hb
  have e : ∀ x, sameE a x = sameE b x := fun x => by
    cases h3 : sameE a x with
    | true => rw [same_trans hsm h3]
    | false =>
      cases h4 : sameE b x with
      | false => rfl
      | true =>
        have := same_trans (by rw [same_sym]; exact hsm : sameE b a = true) h4
        rw [h3] at this; cases this
  rw [show sameE a = sameE b from funext e, h2] at h1
  cases h1; rfl
theorem pick_b (l : List Ent) (seq : Int) (x : Ent) : mapPick l seq x = ((getE l x.key seq).isSome && !((getE l x.key seq).getD noE).del && decide (((getE l x.key seq).getD noE).seq = x.seq)) := by
  unfold mapPick
  cases getE l x.key seq <;> simp
theorem pick_x {l : List Ent} (hs : strE l) {seq : Int} {x : Ent} (hx : x ∈ l) (h : mapPick l seq x = true) : (getE l x.key seq).getD noE = x := by
  unfold mapPick at h
  cases he : getE l x.key seq with
  | none => rw [he] at h; cases h
  | some e =>
    rw [he] at h
    simp only [Bool.and_eq_true, decide_eq_true_eq] at h
    have h1 := List.mem_of_find?_eq_some he
    have h2 := (isK_iff _ _ _).1 (List.find?_some he)
    exact str_one hs h1 hx h2.1 h.2
structure MpS (l : List Ent) (seq : Int) where
  i : Nat
  M : List KV
  B : Option Addr
  d : Nat
  hi : i ≤ l.length ∧ M.length ≤ i
  hm : M ++ ((l.drop i).filter (mapPick l seq)).map kvE = sMap l seq
theorem l9Map_c (A : Option Addr) (c : Nat) (l : List Ent) (seq : Int) (w : World) (h : Rd w A (fl l)) (hl : l.length ≤ 4194304) (hs : strE l) :
    Calls Try.prog 111 #[.slice A l.length c, .int .i64 seq] w fun e w' => ∃ y : Ys, e = .returned (.slice (y 0).A (sMap l seq).length (y 0).c) ∧ True ∧ Below w.heap.size w w' ∧ NewOk w.heap.size [.row 67 2 (y 0).A (sMap l seq).length (y 0).c (fl (sMap l seq))] [] w' := by
  have HS := Lib.hid hs; clear hs
  refine ok_enter 52 Try.func111 rfl rfl rfl ?_
  repeat' (first
    | refine ok_seq ?_
    | refine ok_then ?_
    | refine ok_block ?_
    | (refine ok_region (i := 0) ?_; refine ok_p rfl rfl rfl (by exact ps_assign rfl rfl) ?_; refine ok_nil ?_; refine ok_env [(0, _), (1, _)] ⟨rfl, rfl, trivial⟩ ?_)
    | (refine ok_region (i := 1) ?_; refine ok_m rfl rfl rfl (by exact ms_lit rfl parts_nil rfl rfl rfl) ?_; rintro y9 hy9; refine ok_p rfl rfl rfl (by exact ps_assign rfl rfl) ?_; refine ok_nil ?_; refine ok_env [(0, _), (1, _), (5, _)] ⟨rfl, rfl, rfl, trivial⟩ ?_)
    | (refine ok_region (i := 2) ?_; refine ok_p rfl rfl rfl (by exact ps_assign rfl rfl) ?_; refine ok_nil ?_; refine ok_env [(0, _), (1, _), (5, _), (6, _)] ⟨rfl, rfl, rfl, rfl, trivial⟩ ?_))
  refine ok_loop (ι := MpS l seq) (fun q => l.length - q.i) (fun q => ([(0, .slice A l.length c), (1, .int .i64 seq), (5, .slice q.B q.M.length q.d), (6, .int .i64 q.i)], [.row 67 2 q.B q.M.length q.d (fl q.M)], _)) ⟨0, [], ga (y9 0).c, 0, by simp, rfl⟩ (fun a w he hw => ⟨⟨0, [], ga (y9 0).c, 0, by simp, rfl⟩, he.sub ⟨rfl, rfl, rfl, rfl, trivial⟩, hw⟩) ?_
  rintro ⟨i, M, B, d, hi, hm⟩
  simp only at hi ⊢
  have HM := Lib.hid hm; clear hm
  repeat' (first
    | refine ok_seq ?_
    | refine ok_then ?_
    | refine ok_block ?_
    | refine ok_in_normal ?_
    | (refine ok_cond rfl (fun hc => ?_) (fun hc => ?_) <;> (have hd := hc; (try simp only [decide_eq_true_eq, decide_eq_false_iff_not, Bool.or_eq_true, Bool.or_eq_false_iff, Bool.and_eq_true, Bool.and_eq_false_iff, Bool.not_eq_true', Bool.not_eq_false', bne_iff_ne, beq_iff_eq, bne_eq_false_iff_eq, beq_eq_false_iff_ne, ne_eq, Bool.not_true, Bool.not_false, Bool.false_eq_true, Bool.true_eq_false, inB_true, inB_false] at hd)))
    | refine ok_ret ?_
    | refine ok_exit ?_
    | refine ok_skip ?_
    | (refine ok_region (i := 3) ?_; refine ok_p rfl rfl rfl (by exact ps_move rfl rfl) ?_; refine ok_p rfl rfl rfl (by exact ps_move rfl rfl) ?_; refine ok_p rfl rfl rfl (by exact ps_len rfl rfl) ?_; refine ok_p rfl rfl rfl (by exact ps_int rfl rfl rfl rfl) ?_; refine ok_nil ?_; refine ok_env [(0, _), (1, _), (5, _), (6, _), (13, _)] ⟨rfl, rfl, rfl, rfl, rfl, trivial⟩ ?_)
    | (refine ok_region (i := 4) ?_; refine ok_p rfl rfl rfl (by exact ps_move rfl rfl) ?_; refine ok_p rfl rfl rfl (by exact ps_add rfl rfl rfl (by omega)) ?_; refine ok_p rfl rfl rfl (by exact ps_assign rfl rfl) ?_; refine ok_nil ?_; refine ok_env [(0, _), (1, _), (5, _), (6, _)] ⟨rfl, rfl, rfl, rfl, trivial⟩ ?_)
    | (refine ok_region (i := 5) ?_; refine ok_p rfl rfl rfl (by exact ps_move rfl rfl) ?_; refine ok_p rfl rfl rfl (by exact ps_move rfl rfl) ?_; refine ok_p rfl rfl rfl (by exact ps_move rfl rfl) ?_; refine ok_p rfl rfl rfl (by exact ps_indexN rfl rfl rfl (by omega) (by exact isw_of (isS_fl (by assumption) (by omega)))) ?_; refine ok_p rfl rfl rfl (by exact ps_field rfl rfl (by exact isw_of (isS_fl (by assumption) (by omega)))) ?_; refine ok_p rfl rfl rfl (by exact ps_load rfl rfl (by exact Rds.cell (rds_rf (by assumption) (by exact List.mem_cons_self)) (by exact fl_at0 _ _ (by omega) (by decide)))) ?_; refine ok_p rfl rfl rfl (by exact ps_move rfl rfl) ?_; refine ok_m rfl rfl rfl (by exact ms_s3 rfl rfl rfl rfl (fun _ _ w hw => l9Get_c A c l (nth l i).key seq w (rds_rf h (by exact List.mem_cons_self) _ _ w hw) hl)) ?_; rintro y24 hy24; refine ok_p rfl rfl rfl (by exact ps_move rfl rfl) ?_; refine ok_p rfl rfl rfl (by exact ps_extract rfl rfl rfl) ?_; refine ok_p rfl rfl rfl (by exact ps_extract rfl rfl rfl) ?_; refine ok_m rfl rfl rfl (by exact ms_alloc rfl) ?_; rintro y7 hy7; refine ok_m_ rfl rfl (by exact ms_store 0 rfl rfl rfl rfl rfl rfl rfl rfl) ?_; rintro y_ hy_; refine ok_p rfl rfl rfl (by exact ps_assign rfl rfl) ?_; refine ok_nil ?_; refine ok_env [(0, _), (1, _), (5, _), (6, _), (7, _), (8, _)] ⟨rfl, rfl, rfl, rfl, rfl, rfl, trivial⟩ ?_)
    | (refine ok_draw (id := 6) 16 rfl (by kernel_rfl) (by kernel_rfl) rfl (by repeat (first | exact pq_body | refine pq_then ?_ | refine pq_in ?_)) [0, 1, 2, 3, 4, 5, 6, 7, 8, 9, 10, 11, 12, 13, 14, 15, 16, 17, 18, 19, 20, 21, 22, 23] (by decide) rfl ?_; refine okT_take (i := 0) rfl (by kernel_rfl) rfl rfl rfl (by exact ps_move rfl rfl) ?_; refine okT_take (i := 1) rfl (by kernel_rfl) rfl rfl rfl (by exact ps_move rfl rfl) ?_; refine okT_take_g1 (i := 2) rfl (by kernel_rfl) rfl rfl rfl rfl rfl (gT _) (fun hp => by (have hpd := hp; (try simp only [decide_eq_true_eq, decide_eq_false_iff_not, Bool.or_eq_true, Bool.or_eq_false_iff, Bool.and_eq_true, Bool.and_eq_false_iff, Bool.not_eq_true', Bool.not_eq_false', bne_iff_ne, beq_iff_eq, bne_eq_false_iff_eq, beq_eq_false_iff_ne, ne_eq, Bool.not_true, Bool.not_false, Bool.false_eq_true, Bool.true_eq_false, inB_true, inB_false] at hpd); exact ps_field rfl (by exact rfl) (by exact isw_ga _))) ?_; refine okT_take_g1 (i := 3) rfl (by kernel_rfl) rfl rfl rfl rfl rfl (gT _) (fun hp => by (have hpd := hp; (try simp only [decide_eq_true_eq, decide_eq_false_iff_not, Bool.or_eq_true, Bool.or_eq_false_iff, Bool.and_eq_true, Bool.and_eq_false_iff, Bool.not_eq_true', Bool.not_eq_false', bne_iff_ne, beq_iff_eq, bne_eq_false_iff_eq, beq_eq_false_iff_ne, ne_eq, Bool.not_true, Bool.not_false, Bool.false_eq_true, Bool.true_eq_false, inB_true, inB_false] at hpd); exact ps_load rfl (by (refine og rfl ?_; assumption)) (by exact Rds.cell (rds_box 0 rfl) rfl))) ?_; refine okT_take_g1 (i := 4) rfl (by kernel_rfl) rfl rfl rfl rfl rfl (gT _) (fun hp => by (have hpd := hp; (try simp only [decide_eq_true_eq, decide_eq_false_iff_not, Bool.or_eq_true, Bool.or_eq_false_iff, Bool.and_eq_true, Bool.and_eq_false_iff, Bool.not_eq_true', Bool.not_eq_false', bne_iff_ne, beq_iff_eq, bne_eq_false_iff_eq, beq_eq_false_iff_ne, ne_eq, Bool.not_true, Bool.not_false, Bool.false_eq_true, Bool.true_eq_false, inB_true, inB_false] at hpd); exact ps_not rfl (by (refine og rfl ?_; assumption)))) ?_; refine okT_take (i := 5) rfl (by kernel_rfl) rfl rfl rfl (by exact ps_and rfl rfl rfl) ?_; refine okT_take (i := 6) rfl (by kernel_rfl) rfl rfl rfl (by exact ps_move rfl rfl) ?_; refine okT_take_g1 (i := 7) rfl (by kernel_rfl) rfl rfl rfl rfl rfl (gT _) (fun hp => by (have hpd := hp; (try simp only [decide_eq_true_eq, decide_eq_false_iff_not, Bool.or_eq_true, Bool.or_eq_false_iff, Bool.and_eq_true, Bool.and_eq_false_iff, Bool.not_eq_true', Bool.not_eq_false', bne_iff_ne, beq_iff_eq, bne_eq_false_iff_eq, beq_eq_false_iff_ne, ne_eq, Bool.not_true, Bool.not_false, Bool.false_eq_true, Bool.true_eq_false, inB_true, inB_false] at hpd); exact ps_field rfl (by exact rfl) (by exact isw_ga _))) ?_; refine okT_take_g1 (i := 8) rfl (by kernel_rfl) rfl rfl rfl rfl rfl (gT _) (fun hp => by (have hpd := hp; (try simp only [decide_eq_true_eq, decide_eq_false_iff_not, Bool.or_eq_true, Bool.or_eq_false_iff, Bool.and_eq_true, Bool.and_eq_false_iff, Bool.not_eq_true', Bool.not_eq_false', bne_iff_ne, beq_iff_eq, bne_eq_false_iff_eq, beq_eq_false_iff_ne, ne_eq, Bool.not_true, Bool.not_false, Bool.false_eq_true, Bool.true_eq_false, inB_true, inB_false] at hpd); exact ps_load rfl (by (refine og rfl ?_; assumption)) (by exact Rds.cell (rds_box 0 rfl) rfl))) ?_; refine okT_take_g1 (i := 9) rfl (by kernel_rfl) rfl rfl rfl rfl rfl (gT _) (fun hp => by (have hpd := hp; (try simp only [decide_eq_true_eq, decide_eq_false_iff_not, Bool.or_eq_true, Bool.or_eq_false_iff, Bool.and_eq_true, Bool.and_eq_false_iff, Bool.not_eq_true', Bool.not_eq_false', bne_iff_ne, beq_iff_eq, bne_eq_false_iff_eq, beq_eq_false_iff_ne, ne_eq, Bool.not_true, Bool.not_false, Bool.false_eq_true, Bool.true_eq_false, inB_true, inB_false] at hpd); exact ps_move rfl (by exact rfl))) ?_; refine okT_take_g1 (i := 10) rfl (by kernel_rfl) rfl rfl rfl rfl rfl (gT _) (fun hp => by (have hpd := hp; (try simp only [decide_eq_true_eq, decide_eq_false_iff_not, Bool.or_eq_true, Bool.or_eq_false_iff, Bool.and_eq_true, Bool.and_eq_false_iff, Bool.not_eq_true', Bool.not_eq_false', bne_iff_ne, beq_iff_eq, bne_eq_false_iff_eq, beq_eq_false_iff_ne, ne_eq, Bool.not_true, Bool.not_false, Bool.false_eq_true, Bool.true_eq_false, inB_true, inB_false] at hpd); exact ps_move rfl (by exact rfl))) ?_; refine okT_take_g1 (i := 11) rfl (by kernel_rfl) rfl rfl rfl rfl rfl (gT _) (fun hp => by (have hpd := hp; (try simp only [decide_eq_true_eq, decide_eq_false_iff_not, Bool.or_eq_true, Bool.or_eq_false_iff, Bool.and_eq_true, Bool.and_eq_false_iff, Bool.not_eq_true', Bool.not_eq_false', bne_iff_ne, beq_iff_eq, bne_eq_false_iff_eq, beq_eq_false_iff_ne, ne_eq, Bool.not_true, Bool.not_false, Bool.false_eq_true, Bool.true_eq_false, inB_true, inB_false] at hpd); exact ps_indexN rfl (by (refine og rfl ?_; assumption)) (by (refine og rfl ?_; assumption)) (by omega) (by exact isw_of (isS_fl (by assumption) (by omega))))) ?_; refine okT_take_g1 (i := 12) rfl (by kernel_rfl) rfl rfl rfl rfl rfl (gT _) (fun hp => by (have hpd := hp; (try simp only [decide_eq_true_eq, decide_eq_false_iff_not, Bool.or_eq_true, Bool.or_eq_false_iff, Bool.and_eq_true, Bool.and_eq_false_iff, Bool.not_eq_true', Bool.not_eq_false', bne_iff_ne, beq_iff_eq, bne_eq_false_iff_eq, beq_eq_false_iff_ne, ne_eq, Bool.not_true, Bool.not_false, Bool.false_eq_true, Bool.true_eq_false, inB_true, inB_false] at hpd); exact ps_field rfl (by (refine og rfl ?_; assumption)) (by exact isw_of (isS_fl (by assumption) (by omega))))) ?_; refine okT_take_g1 (i := 13) rfl (by kernel_rfl) rfl rfl rfl rfl rfl (gT _) (fun hp => by (have hpd := hp; (try simp only [decide_eq_true_eq, decide_eq_false_iff_not, Bool.or_eq_true, Bool.or_eq_false_iff, Bool.and_eq_true, Bool.and_eq_false_iff, Bool.not_eq_true', Bool.not_eq_false', bne_iff_ne, beq_iff_eq, bne_eq_false_iff_eq, beq_eq_false_iff_ne, ne_eq, Bool.not_true, Bool.not_false, Bool.false_eq_true, Bool.true_eq_false, inB_true, inB_false] at hpd); exact ps_load rfl (by (refine og rfl ?_; assumption)) (by exact Rds.cell (rds_rf (by assumption) (by exact List.mem_cons_self)) (by exact fl_at _ _ _ (by omega) (by decide))))) ?_; refine okT_take_g1 (i := 14) rfl (by kernel_rfl) rfl rfl rfl rfl rfl (gT _) (fun hp => by (have hpd := hp; (try simp only [decide_eq_true_eq, decide_eq_false_iff_not, Bool.or_eq_true, Bool.or_eq_false_iff, Bool.and_eq_true, Bool.and_eq_false_iff, Bool.not_eq_true', Bool.not_eq_false', bne_iff_ne, beq_iff_eq, bne_eq_false_iff_eq, beq_eq_false_iff_ne, ne_eq, Bool.not_true, Bool.not_false, Bool.false_eq_true, Bool.true_eq_false, inB_true, inB_false] at hpd); exact ps_int rfl (by (refine og rfl ?_; assumption)) (by (refine og rfl ?_; assumption)) rfl)) ?_; refine okT_take (i := 15) rfl (by kernel_rfl) rfl rfl rfl (by exact ps_and rfl rfl rfl) ?_; refine okT_done (by kernel_rfl) ?_; refine ok_nil ?_; refine ok_env [(0, _), (1, _), (5, _), (6, _), (7, _), (42, _)] ⟨rfl, rfl, rfl, rfl, rfl, rfl, trivial⟩ ?_)
    | (refine ok_region (i := 7) ?_; refine ok_p rfl rfl rfl (by exact ps_move rfl rfl) ?_; refine ok_p rfl rfl rfl (by exact ps_field rfl rfl (by exact isw_ga _)) ?_; refine ok_p rfl rfl rfl (by exact ps_load rfl rfl (by exact Rds.cell (rds_box 0 rfl) rfl)) ?_; refine ok_p rfl rfl rfl (by exact ps_field rfl rfl (by exact isw_ga _)) ?_; refine ok_p rfl rfl rfl (by exact ps_load rfl rfl (by exact Rds.cell (rds_box 0 rfl) rfl)) ?_; refine ok_p rfl rfl rfl (by exact ps_bld rfl (parts_cons rfl (parts_cons rfl parts_nil)) rfl) ?_; refine ok_m rfl rfl rfl (by exact ms_lit rfl (parts_cons rfl parts_nil) rfl rfl rfl) ?_; rintro y49 hy49; refine ok_m rfl rfl rfl (by exact ms_appF (α := KV) (L := M) (M := [kvE ((getE l (nth l i).key seq).getD noE)]) 2 rfl rfl rfl rfl (rds_row 0 rfl) rfl (by simp; omega) (by simp; omega)) ?_; rintro y50 hy50; refine ok_p rfl rfl rfl (by exact ps_assign rfl rfl) ?_; refine ok_nil ?_; refine ok_env [(0, _), (1, _), (5, _), (6, _)] ⟨rfl, rfl, rfl, rfl, trivial⟩ ?_)
    | (refine ok_region (i := 8) ?_; refine ok_p rfl rfl rfl (by exact ps_move rfl rfl) ?_; refine ok_p rfl rfl rfl (by exact ps_assign rfl rfl) ?_; refine ok_nil ?_; refine ok_env [(4, _)] ⟨rfl, trivial⟩ ?_))
  · have hp : mapPick l seq (nth l i) = true := by rw [pick_b, ← hc]; rfl
    have ex : (getE l (nth l i).key seq).getD noE = nth l i := pick_x HS.out (nth_mem l i (by omega)) hp
    refine fun a w' he hw => ⟨⟨i + 1, M ++ [kvE ((getE l (nth l i).key seq).getD noE)], (y50 0).A, (y50 0).c, by simp; omega, ?_⟩, by simp only; omega, he.sub ⟨rfl, rfl, by simp only [List.length_append]; rfl, rfl, trivial⟩, ?_⟩
    · rw [ex, ← HM.out, dropE (show i < l.length by omega), List.filter_cons_of_pos hp, List.map_cons, List.append_assoc]; rfl
    · simp only [List.length_append]; exact hw.tl.tl
  · have hp : mapPick l seq (nth l i) = false := by rw [pick_b, ← hc]; rfl
    refine fun a w' he hw => ⟨⟨i + 1, M, B, d, by omega, ?_⟩, by simp only; omega, he.sub ⟨rfl, rfl, rfl, rfl, trivial⟩, hw.tl⟩
    rw [← HM.out, dropE (show i < l.length by omega), List.filter_cons_of_neg (by rw [hp]; exact Bool.false_ne_true)]
  · have e : sMap l seq = M := by rw [← HM.out, List.drop_of_length_le (by omega)]; simp
    rw [e]
    exact ok_endL (vs := [_]) rfl ⟨rfl, trivial⟩ (fun w' hw => ⟨yl [⟨B, d, w', 0⟩] ⟨B, d, w', 0⟩, rfl, trivial, hw.below, NewOk.of (hw.sel [0] (by decide) rfl (G' := []) (fun _ h => by cases h))⟩)
theorem s_merge_u (x : DWalk) (y : Ys) (w : World) (h : Walk_rd w x y) (hs : Walk_sm x) (hk : fWalkOk x = true) :
    Calls Try.prog 37 #[.slice (y 0).A x.R.length (y 0).c] w fun e w' => ∃ y : Ys, e = .returned (.slice (y 0).A (mergeS x.R).length (y 0).c) ∧ True ∧ Below w.heap.size w w' ∧ NewOk w.heap.size [.row 71 4 (y 0).A (mergeS x.R).length (y 0).c (fl (mergeS x.R))] [] w' := by
  have hin : ∀ l ∈ x.R, inOrd l = true := by
    unfold fWalkOk at hk
    simp only [Bool.and_eq_true, List.all_eq_true] at hk
    exact hk.1.2
  have := s_Merge_c (y 0).A (y 0).c (EntSS_loc x.R y) w h (by rw [locs_len]; have := hs.1.1; omega) (by rw [dats_locs]; exact hin) (fun k => by rw [dats_locs]; exact wok_off hk k)
  rw [locs_len, dats_locs] at this
  exact this
theorem s_map_u (x : DWalk) (A : Option Addr) (c : Nat) (w : World) (h : Rd w A (fl (mergeS x.R))) (hk : fWalkOk x = true) :
    Calls Try.prog 111 #[.slice A (mergeS x.R).length c, .int .i64 x.seq] w fun e w' => ∃ y : Ys, e = .returned (.slice (y 0).A (mapW x).length (y 0).c) ∧ True ∧ Below w.heap.size w w' ∧ NewOk w.heap.size [.row 67 2 (y 0).A (mapW x).length (y 0).c (fl (mapW x))] [] w' := by
  have hst := (mergeS_str (ok_rows hk)).1
  have := l9Map_c A c (mergeS x.R) x.seq w h (by have := (map_le hk).1; omega) hst
  rw [← vis_same hst] at this
  exact this
theorem s_copy_u (x : DWalk) (y : Ys) (w : World) (h : Walk_rd w x y) (hs : Walk_sm x) :
    Calls Try.prog 102 #[Walk_val x y] w fun e w' => ∃ y : Ys, e = .returned (Walk_val x y) ∧ True ∧ Below w.heap.size w w' ∧ NewOk w.heap.size (Walk_obj x y) [] w' := by
  have hl := EntSS_sm_lim hs.1
  have := s_l32Copy_c (y 0).A (y 0).c (EntSS_loc x.R y) x.seq x.key x.on w h (by rw [locs_len]; exact hl.1) (by rw [dats_locs]; exact hl.2)
  rw [locs_len, dats_locs] at this; exact this
theorem stand_c (x : DWalk) (y : Ys) (kv : KV) (is : Bool) (w : World) (h : Walk_rd w x y) (hs : Walk_sm x) :
    Calls Try.prog 112 #[Walk_val x y, KV_val kv, .bool is] w fun e w' => ∃ y : Ys, e = .returned (.tuple #[Walk_val { x with key := kv.key, on := is } y, KV_val kv, .bool is]) ∧ True ∧ Below w.heap.size w w' ∧ NewOk w.heap.size (Walk_obj x y) [] w' := by
  have H := Lib.hid h; clear h
  have HS := Lib.hid hs; clear hs
  refine ok_enter 20 Try.func112 rfl rfl rfl ?_
  repeat' (first
    | refine ok_seq ?_
    | refine ok_then ?_
    | refine ok_ret ?_
    | (refine ok_region (i := 0) ?_; refine ok_m rfl rfl rfl (by exact ms_box rfl rfl rfl) ?_; rintro y3 hy3; refine ok_m rfl rfl rfl (by exact ms_box rfl rfl rfl) ?_; rintro y4 hy4; refine ok_m rfl rfl rfl (by exact ms_alloc rfl) ?_; rintro y6 hy6; refine ok_m rfl rfl rfl (by exact ms_alloc rfl) ?_; rintro y7 hy7; refine ok_p rfl rfl rfl (by exact ps_assign rfl rfl) ?_; refine ok_nil ?_; refine ok_env [(2, _), (3, _), (4, _), (6, _), (7, _)] ⟨rfl, rfl, rfl, rfl, rfl, trivial⟩ ?_)
    | (refine ok_region (i := 1) ?_; refine ok_p rfl rfl rfl (by exact ps_loads rfl rfl (by exact rds_box 3 rfl) rfl rfl (by decide)) ?_; refine ok_m rfl rfl rfl (by exact ms_c1 rfl rfl (fun _ _ w hw => s_copy_u x y w (Walk_rf H.out (by exact List.mem_cons_self) hw) HS.out)) ?_; rintro y11 hy11; refine ok_m rfl rfl rfl (by exact ms_alloc rfl) ?_; rintro y9 hy9; refine ok_m_ rfl rfl (by exact ms_store 0 rfl rfl rfl rfl rfl rfl rfl rfl) ?_; rintro y_ hy_; refine ok_nil ?_; refine ok_env [(2, _), (4, _), (6, _), (7, _), (9, _)] ⟨rfl, rfl, rfl, rfl, rfl, trivial⟩ ?_)
    | (refine ok_region (i := 2) ?_; refine ok_p rfl rfl rfl (by exact ps_move rfl rfl) ?_; refine ok_p rfl rfl rfl (by exact ps_field rfl rfl (by exact isw_ga _)) ?_; refine ok_m_ rfl rfl (by exact ms_store 0 rfl rfl rfl rfl rfl rfl rfl rfl) ?_; rintro y_ hy_; refine ok_nil ?_; refine ok_env [(2, _), (4, _), (6, _), (7, _), (9, _)] ⟨rfl, rfl, rfl, rfl, rfl, trivial⟩ ?_)
    | (refine ok_region (i := 3) ?_; refine ok_p rfl rfl rfl (by exact ps_field rfl rfl (by exact isw_ga _)) ?_; refine ok_p rfl rfl rfl (by exact ps_load rfl rfl (by exact Rds.cell (rds_box 5 rfl) rfl)) ?_; refine ok_p rfl rfl rfl (by exact ps_field rfl rfl (by exact isw_ga _)) ?_; refine ok_m_ rfl rfl (by exact ms_store 0 rfl rfl rfl rfl rfl rfl rfl rfl) ?_; rintro y_ hy_; refine ok_nil ?_; refine ok_env [(2, _), (4, _), (6, _), (7, _), (9, _)] ⟨rfl, rfl, rfl, rfl, rfl, trivial⟩ ?_)
    | (refine ok_draw (id := 4) 5 rfl (by kernel_rfl) (by kernel_rfl) rfl (by repeat (first | exact pq_body | refine pq_then ?_ | refine pq_in ?_)) [0, 1, 2, 5, 6] (by decide) rfl ?_; refine okT_take (i := 0) rfl (by kernel_rfl) rfl rfl rfl (by exact ps_loads rfl rfl (by exact rds_box 0 rfl) rfl rfl (by decide)) ?_; refine okT_take (i := 1) rfl (by kernel_rfl) rfl rfl rfl (by exact ps_loads rfl rfl (by exact rds_box 3 rfl) rfl rfl (by decide)) ?_; refine okT_take (i := 2) rfl (by kernel_rfl) rfl rfl rfl (by exact ps_move rfl rfl) ?_; refine okT_one0 (i := 3) rfl rfl (by kernel_rfl) rfl rfl (by exact ms_store 4 rfl rfl rfl rfl rfl rfl rfl rfl) (fun y w _ h => by exact h.sel [0, 1, 2, 5, 6] (by decide) rfl (fun _ h => h)) ?_; rintro y_ hy_; refine okT_one0 (i := 4) rfl rfl (by kernel_rfl) rfl rfl (by exact ms_store 3 rfl rfl rfl rfl rfl rfl rfl rfl) (fun y w _ h => by exact h.sel [0, 1, 2, 5, 6] (by decide) rfl (fun _ h => h)) ?_; rintro y_ hy_; refine okT_done (by kernel_rfl) ?_; refine ok_p rfl rfl rfl (by exact ps_assign rfl rfl) ?_; refine ok_nil ?_; refine ok_env [(6, _), (7, _), (8, _)] ⟨rfl, rfl, rfl, trivial⟩ ?_))
  exact ok_endL (vs := [_, _, _]) rfl ⟨⟨_, 4, _, _, _, rfl, rfl, inferInstance, rfl, rfl⟩, ⟨_, 3, _, _, _, rfl, rfl, inferInstance, rfl, rfl⟩, rfl, trivial⟩ (fun w' hw => ⟨y11, rfl, trivial, hw.below, NewOk.of (hw.sel [1, 2] (by decide) rfl (G' := []) (fun _ h => by cases h))⟩)
end Go.Proofs.Ytbegbdfbfbkflaa
/- Regions that meet again, with the facts on what was made; objects one by one to the front. -/
namespace Go.Proofs.Ytbegbdfbfbkflaa
open Go.RowKit
set_option linter.unusedVariables false
section
variable {P : Program} {N base : Nat} {w0 : World} {E : Env} {H : List HObj} {G : List World} {K : Act → World → Prop}
theorem ok_front (i : Nat) {x : HObj} (hi : H[i]? = some x) (h : Ok N base w0 E (x :: H.eraseIdx i) G K) : Ok N base w0 E H G K := fun a w he hw => h a w he (hw.front i hi)
end
end Go.Proofs.Ytbegbdfbfbkflaa
/- The reference's WalkNext, WalkPrev, WalkSeek. -/
namespace Go.Proofs.Ytbegbdfbfbkflaa
open Go.RowKit
set_option maxHeartbeats 4000000
set_option maxRecDepth 20000
set_option linter.unusedVariables false
set_option linter.unusedSimpArgs false
attribute [local irreducible] Calls
theorem st_yes {x : DWalk} {m : List KV} {i : Int} {k : Nat} (h : i = (k : Int)) (hk : k < m.length) : standAt x m i = ({ x with key := (nth m k).key, on := true }, nth m k, true) := by
  subst h; rw [stand_yes (by omega)]; rfl
theorem st_no {x : DWalk} {m : List KV} {i : Int} (h : i < 0 ∨ (m.length : Int) ≤ i) : standAt x m i = ({ x with key := ⟨#[]⟩, on := false }, noKV, false) := stand_no (by omega)
theorem s_WalkSeek (x : DWalk) (y : Ys) (key : ByteArray) (w : World) (h : Walk_rd w x y) (hs : Walk_sm x) (hz : key.size ≤ 1048576) :
    Calls Try.prog 43 #[Walk_val x y, .string key] w fun e w' => ∃ y : Ys, e = .returned (.tuple #[Walk_val (fWalkSeek x key).1 y, KV_val (fWalkSeek x key).2.1, .bool (fWalkSeek x key).2.2]) ∧ True ∧ Below w.heap.size w w' ∧ NewOk w.heap.size (Walk_obj (fWalkSeek x key).1 y) [] w' := by
  have H := Lib.hid h; clear h
  have HS := Lib.hid hs; clear hs
  refine ok_enter 62 Try.func43 rfl rfl rfl ?_
  repeat' (first
    | refine ok_seq ?_
    | refine ok_then ?_
    | refine ok_then_ret ?_
    | (refine ok_cond rfl (fun hc => ?_) (fun hc => ?_) <;> (have hd := hc; (try simp only [decide_eq_true_eq, decide_eq_false_iff_not, Bool.or_eq_true, Bool.or_eq_false_iff, Bool.and_eq_true, Bool.and_eq_false_iff, Bool.not_eq_true', Bool.not_eq_false', bne_iff_ne, beq_iff_eq, bne_eq_false_iff_eq, beq_eq_false_iff_ne, ne_eq, Bool.not_true, Bool.not_false, Bool.false_eq_true, Bool.true_eq_false, inB_true, inB_false] at hd)))
    | refine ok_ret ?_
    | refine ok_skip ?_
    | (refine ok_region (i := 0) ?_; refine ok_m rfl rfl rfl (by exact ms_box rfl rfl rfl) ?_; rintro y2 hy2; refine ok_m rfl rfl rfl (by exact ms_alloc rfl) ?_; rintro y4 hy4; refine ok_m rfl rfl rfl (by exact ms_alloc rfl) ?_; rintro y5 hy5; refine ok_p rfl rfl rfl (by exact ps_assign rfl rfl) ?_; refine ok_nil ?_; refine ok_env [(1, _), (2, _), (4, _), (5, _)] ⟨rfl, rfl, rfl, rfl, trivial⟩ ?_)
    | (refine ok_region (i := 1) ?_; refine ok_p rfl rfl rfl (by exact ps_loads rfl rfl (by exact rds_box 2 rfl) rfl rfl (by decide)) ?_; refine ok_m rfl rfl rfl (by exact ms_s1 rfl rfl (fun _ _ w hw => s_WalkOk x y w (Walk_rf H.out (by exact List.mem_cons_self) hw) HS.out)) ?_; rintro y16 hy16; refine ok_p rfl rfl rfl (by exact ps_not rfl rfl) ?_; refine ok_nil ?_; refine ok_env [(1, _), (2, _), (4, _), (5, _), (17, _)] ⟨rfl, rfl, rfl, rfl, rfl, trivial⟩ ?_)
    | (refine ok_region (i := 2) ?_; refine ok_p rfl rfl rfl (by exact ps_bld rfl parts_nil rfl) ?_; refine ok_p rfl rfl rfl (by exact ps_bld rfl parts_nil rfl) ?_; refine ok_m_ rfl rfl (by exact ms_store 1 rfl rfl rfl rfl rfl rfl rfl rfl) ?_; rintro y_ hy_; refine ok_m_ rfl rfl (by exact ms_store 0 rfl rfl rfl rfl rfl rfl rfl rfl) ?_; rintro y_ hy_; refine ok_p rfl rfl rfl (by exact ps_assign rfl rfl) ?_; refine ok_nil ?_; refine ok_env [(4, _), (5, _), (6, _)] ⟨rfl, rfl, rfl, trivial⟩ ?_))
  · have e : fWalkSeek x key = (noW, noKV, false) := by unfold fWalkSeek; rw [if_neg (by rw [hd]; exact Bool.false_ne_true)]
    rw [e]
    exact ok_endL (vs := [_, _, _]) rfl ⟨⟨_, 1, _, _, _, rfl, rfl, inferInstance, rfl, rfl⟩, ⟨_, 0, _, _, _, rfl, rfl, inferInstance, rfl, rfl⟩, rfl, trivial⟩ (fun w' hw => ⟨mkY none 0 w', rfl, trivial, hw.below, wkN_no hw⟩)
  have hk : fWalkOk x = true := hd
  have hml := (map_le hk).2
  have hsr := map_srt hk
  have e : fWalkSeek x key = standAt x (mapW x) ((lbK (mapW x) key : Int)) := by unfold fWalkSeek; rw [if_pos hk]
  rw [e]
  have hx := fun i (hi : i ≤ (mapW x).length) => lb_ix (mapW x) key i hi
  clear e hc hd hsr
  have HX := Lib.hid hx; clear hx
  repeat' (first
    | refine ok_seq ?_
    | refine ok_then ?_
    | refine ok_block ?_
    | (refine ok_draw (id := 3) 7 rfl (by kernel_rfl) (by kernel_rfl) rfl (by repeat (first | exact pq_body | refine pq_then ?_ | refine pq_in ?_)) [0, 1, 2, 3, 4, 5, 6, 7, 8, 9, 10, 11, 12, 13, 14, 15, 16, 17, 18, 19, 20, 21, 22, 23] (by decide) rfl ?_; refine okT_take (i := 0) rfl (by kernel_rfl) rfl rfl rfl (by exact ps_field rfl rfl (by exact isw_ga _)) ?_; refine okT_take (i := 1) rfl (by kernel_rfl) rfl rfl rfl (by exact ps_load rfl rfl (by exact Rds.cell (rds_box 2 rfl) rfl)) ?_; refine okT_take (i := 3) rfl (by kernel_rfl) rfl rfl rfl (by exact ps_field rfl rfl (by exact isw_ga _)) ?_; refine okT_take (i := 4) rfl (by kernel_rfl) rfl rfl rfl (by exact ps_load rfl rfl (by exact Rds.cell (rds_box 2 rfl) rfl)) ?_; refine okT_one (i := 2) rfl rfl (by kernel_rfl) rfl rfl rfl (by exact ms_c1 rfl rfl (fun _ _ w hw => s_merge_u x y w (Walk_rf H.out (by exact List.mem_cons_self) hw) HS.out hk)) (fun y w _ h => by exact h.tl) ?_; rintro y22 hy22; refine okT_one (i := 5) rfl rfl (by kernel_rfl) rfl rfl rfl (by exact ms_c2 rfl rfl rfl (fun _ _ w hw => s_map_u x (y22 0).A (y22 0).c w (rds_row 0 rfl _ _ w hw) hk)) (fun y w _ h => by exact h.tl.tl) ?_; rintro y25 hy25; refine okT_take (i := 6) rfl (by kernel_rfl) rfl rfl rfl (by exact ps_assign rfl rfl) ?_; refine okT_done (by kernel_rfl) ?_; refine ok_nil ?_; refine ok_env [(1, _), (2, _), (4, _), (5, _), (7, _)] ⟨rfl, rfl, rfl, rfl, rfl, trivial⟩ ?_)
    | (refine ok_region (i := 4) ?_; refine ok_p rfl rfl rfl (by exact ps_assign rfl rfl) ?_; refine ok_nil ?_; refine ok_env [(1, _), (2, _), (4, _), (5, _), (7, _), (8, _)] ⟨rfl, rfl, rfl, rfl, rfl, rfl, trivial⟩ ?_))
  generalize mapW x = m at hml HX ⊢
  refine ok_loop (ι := { i : Nat // i ≤ m.length ∧ ∀ j, j < i → sLt (nth m j).key key = true }) (fun i => m.length - i.1) (fun i => ([(1, .string key), (2, pt (ga (y2 0).c) 0), (4, pt (ga (y4 0).c) 0), (5, pt (ga (y5 0).c) 0), (7, .slice (y25 0).A m.length (y25 0).c), (8, .int .i64 i.1)], _, _)) ⟨0, by omega, fun j hj => by omega⟩ (fun a w he hw => ⟨⟨0, by omega, fun j hj => by omega⟩, he.sub ⟨rfl, rfl, rfl, rfl, rfl, rfl, trivial⟩, hw⟩) ?_
  rintro ⟨i, hi, hj⟩
  simp only at hi ⊢
  have HJ := Lib.hid hj; clear hj
  repeat' (first
    | refine ok_seq ?_
    | refine ok_then ?_
    | refine ok_then_ret ?_
    | refine ok_block ?_
    | refine ok_in_normal ?_
    | refine ok_in_ret ?_
    | (refine ok_cond rfl (fun hc => ?_) (fun hc => ?_) <;> (have hd := hc; (try simp only [decide_eq_true_eq, decide_eq_false_iff_not, Bool.or_eq_true, Bool.or_eq_false_iff, Bool.and_eq_true, Bool.and_eq_false_iff, Bool.not_eq_true', Bool.not_eq_false', bne_iff_ne, beq_iff_eq, bne_eq_false_iff_eq, beq_eq_false_iff_ne, ne_eq, Bool.not_true, Bool.not_false, Bool.false_eq_true, Bool.true_eq_false, inB_true, inB_false] at hd)))
    | refine ok_ret ?_
    | refine ok_exit ?_
    | refine ok_skip ?_
    | (refine ok_region (i := 5) ?_; refine ok_p rfl rfl rfl (by exact ps_move rfl rfl) ?_; refine ok_p rfl rfl rfl (by exact ps_move rfl rfl) ?_; refine ok_p rfl rfl rfl (by exact ps_len rfl rfl) ?_; refine ok_p rfl rfl rfl (by exact ps_int rfl rfl rfl rfl) ?_; refine ok_nil ?_; refine ok_env [(1, _), (2, _), (4, _), (5, _), (7, _), (8, _), (29, _)] ⟨rfl, rfl, rfl, rfl, rfl, rfl, rfl, trivial⟩ ?_)
    | (refine ok_region (i := 6) ?_; refine ok_p rfl rfl rfl (by exact ps_move rfl rfl) ?_; refine ok_p rfl rfl rfl (by exact ps_add rfl rfl rfl (by omega)) ?_; refine ok_p rfl rfl rfl (by exact ps_assign rfl rfl) ?_; refine ok_nil ?_; refine ok_env [(1, _), (2, _), (4, _), (5, _), (7, _), (8, _)] ⟨rfl, rfl, rfl, rfl, rfl, rfl, trivial⟩ ?_)
    | (refine ok_region (i := 7) ?_; refine ok_p rfl rfl rfl (by exact ps_move rfl rfl) ?_; refine ok_p rfl rfl rfl (by exact ps_move rfl rfl) ?_; refine ok_p rfl rfl rfl (by exact ps_indexN rfl rfl rfl (by omega) (by exact isw_row 0 rfl (by omega))) ?_; refine ok_p rfl rfl rfl (by exact ps_field rfl rfl (by exact isw_row 0 rfl (by omega))) ?_; refine ok_p rfl rfl rfl (by exact ps_load rfl rfl (by exact Rds.cell (rds_row 0 rfl) (by exact fl_at0 _ _ (by omega) (by decide)))) ?_; refine ok_p rfl rfl rfl (by exact ps_move rfl rfl) ?_; refine ok_p rfl rfl rfl (by exact ps_str rfl rfl rfl rfl) ?_; refine ok_nil ?_; refine ok_env [(1, _), (2, _), (4, _), (5, _), (7, _), (8, _), (38, _)] ⟨rfl, rfl, rfl, rfl, rfl, rfl, rfl, trivial⟩ ?_)
    | (apply mrg3; (focus (intro hk; refine ok_draw (id := 8) 14 rfl (by kernel_rfl) (by kernel_rfl) rfl (by repeat (first | exact pq_body | refine pq_then ?_ | refine pq_in ?_)) [0, 1, 2, 3, 4, 5, 6, 7, 8, 9, 10, 11, 12, 13, 14, 15, 16, 17, 18, 19, 20, 21, 22, 23] (by decide) rfl ?_; refine okT_take (i := 0) rfl (by kernel_rfl) rfl rfl rfl (by exact ps_loads rfl rfl (by exact rds_box 4 rfl) rfl rfl (by decide)) ?_; refine okT_take (i := 1) rfl (by kernel_rfl) rfl rfl rfl (by exact ps_move rfl rfl) ?_; refine okT_take (i := 2) rfl (by kernel_rfl) rfl rfl rfl (by exact ps_move rfl rfl) ?_; refine okT_take (i := 3) rfl (by kernel_rfl) rfl rfl rfl (by exact ps_indexN rfl rfl rfl (by omega) (by exact isw_row 0 rfl (by omega))) ?_; refine okT_take (i := 4) rfl (by kernel_rfl) rfl rfl rfl (by exact ps_loadsF (α := KV) (l := m) (i := i) rfl rfl (rds_row 0 rfl) rfl rfl (by omega) rfl) ?_; refine okT_many (by kernel_rfl) (all_cons (at_m (i := 5) rfl rfl rfl rfl rfl (by /-2-/ exact ms_c3 rfl rfl rfl rfl (fun _ _ w hw => stand_c x y (nth m i) true w (Walk_rf H.out (by exact List.mem_cons_self) hw) HS.out)) (fun y w _ h => by exact h.tl.tl) ?_) (all_cons (at_m (i := 10) rfl rfl rfl rfl rfl (by exact ms_alloc rfl) (fun y w _ h => by exact h.tl) ?_) (all_cons (at_m (i := 11) rfl rfl rfl rfl rfl (by exact ms_alloc rfl) (fun y w _ h => by exact h.tl) ?_) all_nil))); (focus (rintro y45 hy45; refine okT_take (i := 6) rfl (by kernel_rfl) rfl rfl rfl (by exact ps_move rfl rfl) ?_; refine okT_take (i := 7) rfl (by kernel_rfl) rfl rfl rfl (by exact ps_extract rfl rfl rfl) ?_; refine okT_take (i := 8) rfl (by kernel_rfl) rfl rfl rfl (by exact ps_extract rfl rfl rfl) ?_; refine okT_take (i := 9) rfl (by kernel_rfl) rfl rfl rfl (by exact ps_extract rfl rfl rfl) ?_; refine okT_many (by kernel_rfl) (all_cons (at_m (i := 10) rfl rfl rfl rfl rfl (by exact ms_alloc rfl) (fun y w _ h => by exact h.tl.tl.tl) ?_) (all_cons (at_m (i := 11) rfl rfl rfl rfl rfl (by exact ms_alloc rfl) (fun y w _ h => by exact h.tl.tl.tl) ?_) all_nil)); (focus (rintro y9 hy9; refine okT_one (i := 11) rfl rfl (by kernel_rfl) rfl rfl rfl (by exact ms_alloc rfl) (fun y w _ h => by exact h.tl.tl.tl.tl) ?_; rintro y10 hy10; refine okT_one0 (i := 12) rfl rfl (by kernel_rfl) rfl rfl (by exact ms_store 1 rfl rfl rfl rfl rfl rfl rfl rfl) (fun y w _ h => by exact h.tl.tl.tl.tl) ?_; rintro y_ hy_; refine okT_one0 (i := 13) rfl rfl (by kernel_rfl) rfl rfl (by exact ms_store 0 rfl rfl rfl rfl rfl rfl rfl rfl) (fun y w _ h => by exact h.tl.tl.tl.tl) ?_; rintro y_ hy_; refine okT_done (by kernel_rfl) ?_; refine ok_p rfl rfl rfl (by exact ps_assign rfl rfl) ?_; refine ok_nil ?_; refine ok_env [(4, _), (5, _), (9, _), (10, _), (11, _)] ⟨rfl, rfl, rfl, rfl, rfl, trivial⟩ ?_; exact hk y45 y9 y10)); (focus (rintro y10 hy10; refine okT_one (i := 10) rfl rfl (by kernel_rfl) rfl rfl rfl (by exact ms_alloc rfl) (fun y w _ h => by exact h.tl.tl.tl.tl) ?_; rintro y9 hy9; refine okT_one0 (i := 12) rfl rfl (by kernel_rfl) rfl rfl (by exact ms_store 0 rfl rfl rfl rfl rfl rfl rfl rfl) (fun y w _ h => by exact h.tl.tl.tl.tl) ?_; rintro y_ hy_; refine okT_one0 (i := 13) rfl rfl (by kernel_rfl) rfl rfl (by exact ms_store 1 rfl rfl rfl rfl rfl rfl rfl rfl) (fun y w _ h => by exact h.tl.tl.tl.tl) ?_; rintro y_ hy_; refine okT_done (by kernel_rfl) ?_; refine ok_p rfl rfl rfl (by exact ps_assign rfl rfl) ?_; refine ok_nil ?_; refine ok_env [(4, _), (5, _), (9, _), (10, _), (11, _)] ⟨rfl, rfl, rfl, rfl, rfl, trivial⟩ ?_; refine ok_front 3 rfl ?_; refine ok_front 3 rfl ?_; refine ok_front 2 rfl ?_; refine ok_front 3 rfl ?_; exact hk y45 y9 y10)))); (focus (rintro y9 hy9; refine okT_many (by kernel_rfl) (all_cons (at_m (i := 5) rfl rfl rfl rfl rfl (by /-2-/ exact ms_c3 rfl rfl rfl rfl (fun _ _ w hw => stand_c x y (nth m i) true w (Walk_rf H.out (by exact List.mem_cons_self) hw) HS.out)) (fun y w _ h => by exact h.tl.tl.tl) ?_) (all_cons (at_m (i := 11) rfl rfl rfl rfl rfl (by exact ms_alloc rfl) (fun y w _ h => by exact h.tl.tl) ?_) all_nil)); (focus (rintro y45 hy45; refine okT_take (i := 6) rfl (by kernel_rfl) rfl rfl rfl (by exact ps_move rfl rfl) ?_; refine okT_take (i := 7) rfl (by kernel_rfl) rfl rfl rfl (by exact ps_extract rfl rfl rfl) ?_; refine okT_take (i := 8) rfl (by kernel_rfl) rfl rfl rfl (by exact ps_extract rfl rfl rfl) ?_; refine okT_take (i := 9) rfl (by kernel_rfl) rfl rfl rfl (by exact ps_extract rfl rfl rfl) ?_; refine okT_one (i := 11) rfl rfl (by kernel_rfl) rfl rfl rfl (by exact ms_alloc rfl) (fun y w _ h => by exact h.tl.tl.tl.tl) ?_; rintro y10 hy10; refine okT_one0 (i := 12) rfl rfl (by kernel_rfl) rfl rfl (by exact ms_store 3 rfl rfl rfl rfl rfl rfl rfl rfl) (fun y w _ h => by exact h.tl.tl.tl.tl) ?_; rintro y_ hy_; refine okT_one0 (i := 13) rfl rfl (by kernel_rfl) rfl rfl (by exact ms_store 0 rfl rfl rfl rfl rfl rfl rfl rfl) (fun y w _ h => by exact h.tl.tl.tl.tl) ?_; rintro y_ hy_; refine okT_done (by kernel_rfl) ?_; refine ok_p rfl rfl rfl (by exact ps_assign rfl rfl) ?_; refine ok_nil ?_; refine ok_env [(4, _), (5, _), (9, _), (10, _), (11, _)] ⟨rfl, rfl, rfl, rfl, rfl, trivial⟩ ?_; refine ok_front 2 rfl ?_; refine ok_front 2 rfl ?_; refine ok_front 3 rfl ?_; refine ok_front 3 rfl ?_; exact hk y45 y9 y10)); (focus (rintro y10 hy10; refine okT_one (i := 5) rfl rfl (by kernel_rfl) rfl rfl rfl (by /-2-/ exact ms_c3 rfl rfl rfl rfl (fun _ _ w hw => stand_c x y (nth m i) true w (Walk_rf H.out (by exact List.mem_cons_self) hw) HS.out)) (fun y w _ h => by exact h.tl.tl.tl.tl) ?_; rintro y45 hy45; refine okT_take (i := 6) rfl (by kernel_rfl) rfl rfl rfl (by exact ps_move rfl rfl) ?_; refine okT_take (i := 7) rfl (by kernel_rfl) rfl rfl rfl (by exact ps_extract rfl rfl rfl) ?_; refine okT_take (i := 8) rfl (by kernel_rfl) rfl rfl rfl (by exact ps_extract rfl rfl rfl) ?_; refine okT_take (i := 9) rfl (by kernel_rfl) rfl rfl rfl (by exact ps_extract rfl rfl rfl) ?_; refine okT_one0 (i := 12) rfl rfl (by kernel_rfl) rfl rfl (by exact ms_store 3 rfl rfl rfl rfl rfl rfl rfl rfl) (fun y w _ h => by exact h.tl.tl.tl.tl) ?_; rintro y_ hy_; refine okT_one0 (i := 13) rfl rfl (by kernel_rfl) rfl rfl (by exact ms_store 2 rfl rfl rfl rfl rfl rfl rfl rfl) (fun y w _ h => by exact h.tl.tl.tl.tl) ?_; rintro y_ hy_; refine okT_done (by kernel_rfl) ?_; refine ok_p rfl rfl rfl (by exact ps_assign rfl rfl) ?_; refine ok_nil ?_; refine ok_env [(4, _), (5, _), (9, _), (10, _), (11, _)] ⟨rfl, rfl, rfl, rfl, rfl, trivial⟩ ?_; refine ok_front 1 rfl ?_; refine ok_front 1 rfl ?_; refine ok_front 3 rfl ?_; refine ok_front 3 rfl ?_; exact hk y45 y9 y10)))); (focus (rintro y10 hy10; refine okT_many (by kernel_rfl) (all_cons (at_m (i := 5) rfl rfl rfl rfl rfl (by /-2-/ exact ms_c3 rfl rfl rfl rfl (fun _ _ w hw => stand_c x y (nth m i) true w (Walk_rf H.out (by exact List.mem_cons_self) hw) HS.out)) (fun y w _ h => by exact h.tl.tl.tl) ?_) (all_cons (at_m (i := 10) rfl rfl rfl rfl rfl (by exact ms_alloc rfl) (fun y w _ h => by exact h.tl.tl) ?_) all_nil)); (focus (rintro y45 hy45; refine okT_take (i := 6) rfl (by kernel_rfl) rfl rfl rfl (by exact ps_move rfl rfl) ?_; refine okT_take (i := 7) rfl (by kernel_rfl) rfl rfl rfl (by exact ps_extract rfl rfl rfl) ?_; refine okT_take (i := 8) rfl (by kernel_rfl) rfl rfl rfl (by exact ps_extract rfl rfl rfl) ?_; refine okT_take (i := 9) rfl (by kernel_rfl) rfl rfl rfl (by exact ps_extract rfl rfl rfl) ?_; refine okT_one (i := 10) rfl rfl (by kernel_rfl) rfl rfl rfl (by exact ms_alloc rfl) (fun y w _ h => by exact h.tl.tl.tl.tl) ?_; rintro y9 hy9; refine okT_one0 (i := 12) rfl rfl (by kernel_rfl) rfl rfl (by exact ms_store 0 rfl rfl rfl rfl rfl rfl rfl rfl) (fun y w _ h => by exact h.tl.tl.tl.tl) ?_; rintro y_ hy_; refine okT_one0 (i := 13) rfl rfl (by kernel_rfl) rfl rfl (by exact ms_store 3 rfl rfl rfl rfl rfl rfl rfl rfl) (fun y w _ h => by exact h.tl.tl.tl.tl) ?_; rintro y_ hy_; refine okT_done (by kernel_rfl) ?_; refine ok_p rfl rfl rfl (by exact ps_assign rfl rfl) ?_; refine ok_nil ?_; refine ok_env [(4, _), (5, _), (9, _), (10, _), (11, _)] ⟨rfl, rfl, rfl, rfl, rfl, trivial⟩ ?_; refine ok_front 2 rfl ?_; refine ok_front 2 rfl ?_; refine ok_front 2 rfl ?_; refine ok_front 3 rfl ?_; exact hk y45 y9 y10)); (focus (rintro y9 hy9; refine okT_one (i := 5) rfl rfl (by kernel_rfl) rfl rfl rfl (by /-2-/ exact ms_c3 rfl rfl rfl rfl (fun _ _ w hw => stand_c x y (nth m i) true w (Walk_rf H.out (by exact List.mem_cons_self) hw) HS.out)) (fun y w _ h => by exact h.tl.tl.tl.tl) ?_; rintro y45 hy45; refine okT_take (i := 6) rfl (by kernel_rfl) rfl rfl rfl (by exact ps_move rfl rfl) ?_; refine okT_take (i := 7) rfl (by kernel_rfl) rfl rfl rfl (by exact ps_extract rfl rfl rfl) ?_; refine okT_take (i := 8) rfl (by kernel_rfl) rfl rfl rfl (by exact ps_extract rfl rfl rfl) ?_; refine okT_take (i := 9) rfl (by kernel_rfl) rfl rfl rfl (by exact ps_extract rfl rfl rfl) ?_; refine okT_one0 (i := 12) rfl rfl (by kernel_rfl) rfl rfl (by exact ms_store 2 rfl rfl rfl rfl rfl rfl rfl rfl) (fun y w _ h => by exact h.tl.tl.tl.tl) ?_; rintro y_ hy_; refine okT_one0 (i := 13) rfl rfl (by kernel_rfl) rfl rfl (by exact ms_store 3 rfl rfl rfl rfl rfl rfl rfl rfl) (fun y w _ h => by exact h.tl.tl.tl.tl) ?_; rintro y_ hy_; refine okT_done (by kernel_rfl) ?_; refine ok_p rfl rfl rfl (by exact ps_assign rfl rfl) ?_; refine ok_nil ?_; refine ok_env [(4, _), (5, _), (9, _), (10, _), (11, _)] ⟨rfl, rfl, rfl, rfl, rfl, trivial⟩ ?_; refine ok_front 1 rfl ?_; refine ok_front 1 rfl ?_; refine ok_front 2 rfl ?_; refine ok_front 3 rfl ?_; exact hk y45 y9 y10)))))); rintro y45 y9 y10)
    | (refine ok_draw (id := 9) 5 rfl (by kernel_rfl) (by kernel_rfl) rfl (by repeat (first | exact pq_body | refine pq_then ?_ | refine pq_in ?_)) [0, 1, 2, 3, 4, 5, 8] (by decide) rfl ?_; refine okT_take (i := 0) rfl (by kernel_rfl) rfl rfl rfl (by exact ps_loads rfl rfl (by exact rds_box 1 rfl) rfl rfl (by decide)) ?_; refine okT_take (i := 1) rfl (by kernel_rfl) rfl rfl rfl (by exact ps_loads rfl rfl (by exact rds_box 0 rfl) rfl rfl (by decide)) ?_; refine okT_take (i := 2) rfl (by kernel_rfl) rfl rfl rfl (by exact ps_move rfl rfl) ?_; refine okT_one0 (i := 3) rfl rfl (by kernel_rfl) rfl rfl (by exact ms_store 7 rfl rfl rfl rfl rfl rfl rfl rfl) (fun y w _ h => by exact h.sel [0, 1, 2, 3, 4, 5, 8] (by decide) rfl (fun _ h => h)) ?_; rintro y_ hy_; refine okT_one0 (i := 4) rfl rfl (by kernel_rfl) rfl rfl (by exact ms_store 6 rfl rfl rfl rfl rfl rfl rfl rfl) (fun y w _ h => by exact h.sel [0, 1, 2, 3, 4, 5, 8] (by decide) rfl (fun _ h => h)) ?_; rintro y_ hy_; refine okT_done (by kernel_rfl) ?_; refine ok_p rfl rfl rfl (by exact ps_assign rfl rfl) ?_; refine ok_nil ?_; refine ok_env [(4, _), (5, _), (6, _)] ⟨rfl, rfl, rfl, trivial⟩ ?_)
    | (refine ok_region (i := 10) ?_; refine ok_p rfl rfl rfl (by exact ps_loads rfl rfl (by exact rds_box 4 rfl) rfl rfl (by decide)) ?_; refine ok_p rfl rfl rfl (by exact ps_bld rfl parts_nil rfl) ?_; refine ok_m rfl rfl rfl (by exact ms_c3 rfl rfl rfl rfl (fun _ _ w hw => stand_c x y noKV false w (Walk_rf H.out (by exact List.mem_cons_self) hw) HS.out)) ?_; rintro y55 hy55; refine ok_p rfl rfl rfl (by exact ps_move rfl rfl) ?_; refine ok_p rfl rfl rfl (by exact ps_extract rfl rfl rfl) ?_; refine ok_p rfl rfl rfl (by exact ps_extract rfl rfl rfl) ?_; refine ok_p rfl rfl rfl (by exact ps_extract rfl rfl rfl) ?_; refine ok_m rfl rfl rfl (by exact ms_alloc rfl) ?_; rintro y12 hy12; refine ok_m rfl rfl rfl (by exact ms_alloc rfl) ?_; rintro y13 hy13; refine ok_m_ rfl rfl (by exact ms_store 1 rfl rfl rfl rfl rfl rfl rfl rfl) ?_; rintro y_ hy_; refine ok_m_ rfl rfl (by exact ms_store 0 rfl rfl rfl rfl rfl rfl rfl rfl) ?_; rintro y_ hy_; refine ok_p rfl rfl rfl (by exact ps_assign rfl rfl) ?_; refine ok_nil ?_; refine ok_env [(4, _), (5, _), (12, _), (13, _), (14, _)] ⟨rfl, rfl, rfl, rfl, rfl, trivial⟩ ?_)
    | (refine ok_draw (id := 11) 5 rfl (by kernel_rfl) (by kernel_rfl) rfl (by repeat (first | exact pq_body | refine pq_then ?_ | refine pq_in ?_)) [0, 1, 2, 3, 4, 5, 8] (by decide) rfl ?_; refine okT_take (i := 0) rfl (by kernel_rfl) rfl rfl rfl (by exact ps_loads rfl rfl (by exact rds_box 1 rfl) rfl rfl (by decide)) ?_; refine okT_take (i := 1) rfl (by kernel_rfl) rfl rfl rfl (by exact ps_loads rfl rfl (by exact rds_box 0 rfl) rfl rfl (by decide)) ?_; refine okT_take (i := 2) rfl (by kernel_rfl) rfl rfl rfl (by exact ps_move rfl rfl) ?_; refine okT_one0 (i := 3) rfl rfl (by kernel_rfl) rfl rfl (by exact ms_store 7 rfl rfl rfl rfl rfl rfl rfl rfl) (fun y w _ h => by exact h.sel [0, 1, 2, 3, 4, 5, 8] (by decide) rfl (fun _ h => h)) ?_; rintro y_ hy_; refine okT_one0 (i := 4) rfl rfl (by kernel_rfl) rfl rfl (by exact ms_store 6 rfl rfl rfl rfl rfl rfl rfl rfl) (fun y w _ h => by exact h.sel [0, 1, 2, 3, 4, 5, 8] (by decide) rfl (fun _ h => h)) ?_; rintro y_ hy_; refine okT_done (by kernel_rfl) ?_; refine ok_p rfl rfl rfl (by exact ps_assign rfl rfl) ?_; refine ok_nil ?_; refine ok_env [(4, _), (5, _), (6, _)] ⟨rfl, rfl, rfl, trivial⟩ ?_))
  · rw [st_yes (congrArg (fun n : Nat => (n : Int)) (HX.out i (by omega) HJ.out (fun _ => hd))) (by omega)]
    exact ok_endL (vs := [_, _, _]) rfl ⟨⟨_, 7, _, _, _, rfl, rfl, inferInstance, rfl, rfl⟩, ⟨_, 6, _, _, _, rfl, rfl, inferInstance, rfl, rfl⟩, rfl, trivial⟩ (fun w' hw => ⟨y45, rfl, trivial, hw.below, NewOk.of (hw.sel [2, 3] (by decide) rfl (G' := []) (fun _ h => by cases h))⟩)
  · refine fun a w' he hw => ⟨⟨i + 1, by omega, fun j hj => ?_⟩, by simp only; omega, he.sub ⟨rfl, rfl, rfl, rfl, rfl, rfl, trivial⟩, hw⟩
    rcases Nat.lt_or_ge j i with h1 | h1
    · exact HJ.out j h1
    · rw [show j = i by omega]; exact hd
  · rw [st_no (.inr (by rw [HX.out i (by omega) HJ.out (fun h => by omega)]; omega))]
    exact ok_endL (vs := [_, _, _]) rfl ⟨⟨_, 7, _, _, _, rfl, rfl, inferInstance, rfl, rfl⟩, ⟨_, 6, _, _, _, rfl, rfl, inferInstance, rfl, rfl⟩, rfl, trivial⟩ (fun w' hw => ⟨y55, rfl, trivial, hw.below, NewOk.of (hw.sel [2, 3] (by decide) rfl (G' := []) (fun _ h => by cases h))⟩)
end Go.Proofs.Ytbegbdfbfbkflaa
/- Walks: what the laws lean on. -/
namespace Go.Proofs.Ytbegbdfbfbkflaa
open Go.RowKit
set_option maxHeartbeats 4000000
set_option linter.unusedVariables false
attribute [local irreducible] Calls
end Go.Proofs.Ytbegbdfbfbkflaa
/- Rows of KV: cloned. -/
namespace Go.Proofs.Ytbegbdfbfbkflaa
open Go.RowKit
set_option maxHeartbeats 4000000
set_option maxRecDepth 20000
set_option linter.unusedVariables false
set_option linter.unusedSimpArgs false
attribute [local irreducible] Calls
end Go.Proofs.Ytbegbdfbfbkflaa
/- slices.Insert of one pair into an own row of pairs; a key put, a key dropped by the program. -/
namespace Go.Proofs.Ytbegbdfbfbkflaa
open Go.RowKit
set_option maxHeartbeats 4000000
set_option maxRecDepth 20000
set_option linter.unusedVariables false
set_option linter.unusedSimpArgs false
attribute [local irreducible] Calls
end Go.Proofs.Ytbegbdfbfbkflaa
/- A region that draws its order and whose operations leave the world alone: walked in the order of the text, one operation at a time, by the plain walk. -/
namespace Go.Proofs.Ytbegbdfbfbkflaa
open Go.RowKit
set_option linter.unusedVariables false
set_option linter.unusedSimpArgs false

section
variable {P : Program} {ops : Array Oper} {w : World} {Q : Act → Prop}
end
end Go.Proofs.Ytbegbdfbfbkflaa
/- Elements of a slice that is read; named types. -/
namespace Go.Proofs.Ytbegbdfbfbkflaa
open Go.RowKit
set_option linter.unusedVariables false
theorem flat_get {α : Type} (f : α → List Value) (k : Nat) (hk : ∀ x, (f x).length = k) : ∀ (l : List α) (i : Nat) (hi : i < l.length) (j : Nat) (u : Value), (f l[i])[j]? = some u → (l.flatMap f)[i * k + j]? = some u
  | [], i, hi, _, _, _ => by simp at hi
  | x :: l, 0, hi, j, u, h => by
    have : j < (f x).length := (List.getElem?_eq_some_iff.1 h).1
    rw [List.flatMap_cons, Nat.zero_mul, Nat.zero_add, List.getElem?_append_left this]; exact h
  | x :: l, i + 1, hi, j, u, h => by
    have e1 : (i + 1) * k + j = (f x).length + (i * k + j) := by rw [hk, Nat.add_mul, Nat.one_mul]; omega
    rw [List.flatMap_cons, e1, List.getElem?_append_right (by omega), Nat.add_sub_cancel_left]
    exact flat_get f k hk l i (by simpa using hi) j u h
theorem flat_at {α : Type} {f : α → List Value} {k : Nat} (hk : ∀ x, (f x).length = k) (h0 : 0 < k) {w : World} {A : Option Addr} {l : List α} (hr : Rd w A (l.flatMap f)) {i : Nat} (hi : i < l.length) :
    ∃ ad, A = some ad ∧ ∀ j u, (f l[i])[j]? = some u → w.cell? (ad.add (i * k + j)) = some u := by
  have hl : 0 < (f l[i]).length := by rw [hk]; exact h0
  obtain ⟨ad, e1, _⟩ := hr _ _ (flat_get f k hk l i hi 0 _ (List.getElem?_eq_getElem hl))
  refine ⟨ad, e1, fun j u hu => ?_⟩
  obtain ⟨ad', e2, h⟩ := hr _ _ (flat_get f k hk l i hi j u hu)
  rw [e1] at e2; cases e2; exact h
end Go.Proofs.Ytbegbdfbfbkflaa
/- The named types of the program, and what their cells are. Written by gentypes.py. -/
namespace Go.Proofs.Ytbegbdfbfbkflaa
open Go.RowKit
set_option linter.unusedVariables false
abbrev gAcc : GT := .st [.int, .int, .int, .int, .int]
structure Acc where
  tenant : Int
  quota : Int
  bytes : Int
  keys : Int
  rows : Int
def Acc.of (x : gAcc.den) : Acc := match x with
  | (a0, a1, a2, a3, a4, _) => ⟨a0, a1, a2, a3, a4⟩
def Acc.cells (x : Acc) : List Value := [.int .i64 x.tenant, .int .i64 x.quota, .int .i64 x.bytes, .int .i64 x.keys, .int .i64 x.rows]
abbrev gSlt : GT := .st [.int, .str]
structure Slt where
  seq : Int
  root : ByteArray
def Slt.of (x : gSlt.den) : Slt := match x with
  | (a0, a1, _) => ⟨a0, a1⟩
def Slt.cells (x : Slt) : List Value := [.int .i64 x.seq, .string x.root]
abbrev gCRw : GT := .st [.int, .int, .str]
structure CRw where
  tenant : Int
  no : Int
  text : ByteArray
def CRw.of (x : gCRw.den) : CRw := match x with
  | (a0, a1, a2, _) => ⟨a0, a1, a2⟩
def CRw.cells (x : CRw) : List Value := [.int .i64 x.tenant, .int .i64 x.no, .string x.text]
abbrev gKVt : GT := .st [.str, .str]
structure KVt where
  key : ByteArray
  val : ByteArray
def KVt.of (x : gKVt.den) : KVt := match x with
  | (a0, a1, _) => ⟨a0, a1⟩
def KVt.cells (x : KVt) : List Value := [.string x.key, .string x.val]
abbrev gEntt : GT := .st [.str, .int, .bool, .str]
structure Entt where
  key : ByteArray
  seq : Int
  del : Bool
  val : ByteArray
def Entt.of (x : gEntt.den) : Entt := match x with
  | (a0, a1, a2, a3, _) => ⟨a0, a1, a2, a3⟩
def Entt.cells (x : Entt) : List Value := [.string x.key, .int .i64 x.seq, .bool x.del, .string x.val]
abbrev gLnk : GT := .st [.int, .str, .str]
structure Lnk where
  who : Int
  text : ByteArray
  sum : ByteArray
def Lnk.of (x : gLnk.den) : Lnk := match x with
  | (a0, a1, a2, _) => ⟨a0, a1, a2⟩
def Lnk.cells (x : Lnk) : List Value := [.int .i64 x.who, .string x.text, .string x.sum]
abbrev gFKy : GT := .st [.int, .str]
structure FKy where
  no : Int
  text : ByteArray
def FKy.of (x : gFKy.den) : FKy := match x with
  | (a0, a1, _) => ⟨a0, a1⟩
def FKy.cells (x : FKy) : List Value := [.int .i64 x.no, .string x.text]
theorem Acc.cells_len (x : Acc) : x.cells.length = 5 := rfl
theorem Acc.at_ {w : World} {A : Option Addr} {l : List Acc} (hr : Rd w A (l.flatMap Acc.cells)) {i : Nat} (hi : i < l.length) : ∃ ad, A = some ad ∧ w.cell? (ad.add (i * 5)) = some (.int .i64 l[i].tenant) ∧ w.cell? ⟨(ad.add (i * 5)).block, (ad.add (i * 5)).off + 1, none⟩ = some (.int .i64 l[i].quota) ∧ w.cell? ⟨(ad.add (i * 5)).block, (ad.add (i * 5)).off + 2, none⟩ = some (.int .i64 l[i].bytes) ∧ w.cell? ⟨(ad.add (i * 5)).block, (ad.add (i * 5)).off + 3, none⟩ = some (.int .i64 l[i].keys) ∧ w.cell? ⟨(ad.add (i * 5)).block, (ad.add (i * 5)).off + 4, none⟩ = some (.int .i64 l[i].rows) := by
  obtain ⟨ad, e, h⟩ := flat_at Acc.cells_len (by omega) hr hi
  exact ⟨ad, e, h 0 _ rfl, (congrArg w.cell? (add_add' ad (i * 5) 1)).trans (h 1 _ rfl), (congrArg w.cell? (add_add' ad (i * 5) 2)).trans (h 2 _ rfl), (congrArg w.cell? (add_add' ad (i * 5) 3)).trans (h 3 _ rfl), (congrArg w.cell? (add_add' ad (i * 5) 4)).trans (h 4 _ rfl)⟩
theorem Slt.cells_len (x : Slt) : x.cells.length = 2 := rfl
theorem Slt.at_ {w : World} {A : Option Addr} {l : List Slt} (hr : Rd w A (l.flatMap Slt.cells)) {i : Nat} (hi : i < l.length) : ∃ ad, A = some ad ∧ w.cell? (ad.add (i * 2)) = some (.int .i64 l[i].seq) ∧ w.cell? ⟨(ad.add (i * 2)).block, (ad.add (i * 2)).off + 1, none⟩ = some (.string l[i].root) := by
  obtain ⟨ad, e, h⟩ := flat_at Slt.cells_len (by omega) hr hi
  exact ⟨ad, e, h 0 _ rfl, (congrArg w.cell? (add_add' ad (i * 2) 1)).trans (h 1 _ rfl)⟩
theorem CRw.cells_len (x : CRw) : x.cells.length = 3 := rfl
theorem CRw.at_ {w : World} {A : Option Addr} {l : List CRw} (hr : Rd w A (l.flatMap CRw.cells)) {i : Nat} (hi : i < l.length) : ∃ ad, A = some ad ∧ w.cell? (ad.add (i * 3)) = some (.int .i64 l[i].tenant) ∧ w.cell? ⟨(ad.add (i * 3)).block, (ad.add (i * 3)).off + 1, none⟩ = some (.int .i64 l[i].no) ∧ w.cell? ⟨(ad.add (i * 3)).block, (ad.add (i * 3)).off + 2, none⟩ = some (.string l[i].text) := by
  obtain ⟨ad, e, h⟩ := flat_at CRw.cells_len (by omega) hr hi
  exact ⟨ad, e, h 0 _ rfl, (congrArg w.cell? (add_add' ad (i * 3) 1)).trans (h 1 _ rfl), (congrArg w.cell? (add_add' ad (i * 3) 2)).trans (h 2 _ rfl)⟩
theorem KVt.cells_len (x : KVt) : x.cells.length = 2 := rfl
theorem KVt.at_ {w : World} {A : Option Addr} {l : List KVt} (hr : Rd w A (l.flatMap KVt.cells)) {i : Nat} (hi : i < l.length) : ∃ ad, A = some ad ∧ w.cell? (ad.add (i * 2)) = some (.string l[i].key) ∧ w.cell? ⟨(ad.add (i * 2)).block, (ad.add (i * 2)).off + 1, none⟩ = some (.string l[i].val) := by
  obtain ⟨ad, e, h⟩ := flat_at KVt.cells_len (by omega) hr hi
  exact ⟨ad, e, h 0 _ rfl, (congrArg w.cell? (add_add' ad (i * 2) 1)).trans (h 1 _ rfl)⟩
theorem Entt.cells_len (x : Entt) : x.cells.length = 4 := rfl
theorem Entt.at_ {w : World} {A : Option Addr} {l : List Entt} (hr : Rd w A (l.flatMap Entt.cells)) {i : Nat} (hi : i < l.length) : ∃ ad, A = some ad ∧ w.cell? (ad.add (i * 4)) = some (.string l[i].key) ∧ w.cell? ⟨(ad.add (i * 4)).block, (ad.add (i * 4)).off + 1, none⟩ = some (.int .i64 l[i].seq) ∧ w.cell? ⟨(ad.add (i * 4)).block, (ad.add (i * 4)).off + 2, none⟩ = some (.bool l[i].del) ∧ w.cell? ⟨(ad.add (i * 4)).block, (ad.add (i * 4)).off + 3, none⟩ = some (.string l[i].val) := by
  obtain ⟨ad, e, h⟩ := flat_at Entt.cells_len (by omega) hr hi
  exact ⟨ad, e, h 0 _ rfl, (congrArg w.cell? (add_add' ad (i * 4) 1)).trans (h 1 _ rfl), (congrArg w.cell? (add_add' ad (i * 4) 2)).trans (h 2 _ rfl), (congrArg w.cell? (add_add' ad (i * 4) 3)).trans (h 3 _ rfl)⟩
theorem Lnk.cells_len (x : Lnk) : x.cells.length = 3 := rfl
theorem Lnk.at_ {w : World} {A : Option Addr} {l : List Lnk} (hr : Rd w A (l.flatMap Lnk.cells)) {i : Nat} (hi : i < l.length) : ∃ ad, A = some ad ∧ w.cell? (ad.add (i * 3)) = some (.int .i64 l[i].who) ∧ w.cell? ⟨(ad.add (i * 3)).block, (ad.add (i * 3)).off + 1, none⟩ = some (.string l[i].text) ∧ w.cell? ⟨(ad.add (i * 3)).block, (ad.add (i * 3)).off + 2, none⟩ = some (.string l[i].sum) := by
  obtain ⟨ad, e, h⟩ := flat_at Lnk.cells_len (by omega) hr hi
  exact ⟨ad, e, h 0 _ rfl, (congrArg w.cell? (add_add' ad (i * 3) 1)).trans (h 1 _ rfl), (congrArg w.cell? (add_add' ad (i * 3) 2)).trans (h 2 _ rfl)⟩
theorem FKy.cells_len (x : FKy) : x.cells.length = 2 := rfl
theorem FKy.at_ {w : World} {A : Option Addr} {l : List FKy} (hr : Rd w A (l.flatMap FKy.cells)) {i : Nat} (hi : i < l.length) : ∃ ad, A = some ad ∧ w.cell? (ad.add (i * 2)) = some (.int .i64 l[i].no) ∧ w.cell? ⟨(ad.add (i * 2)).block, (ad.add (i * 2)).off + 1, none⟩ = some (.string l[i].text) := by
  obtain ⟨ad, e, h⟩ := flat_at FKy.cells_len (by omega) hr hi
  exact ⟨ad, e, h 0 _ rfl, (congrArg w.cell? (add_add' ad (i * 2) 1)).trans (h 1 _ rfl)⟩
end Go.Proofs.Ytbegbdfbfbkflaa
/- make and store as steps of the walk, over a row of the call's own. -/
namespace Go.Proofs.Ytbegbdfbfbkflaa
open Go.RowKit
set_option linter.unusedVariables false
set_option linter.unusedSimpArgs false
/-- A row of the call's own whose first k elements are done. -/
def Done (w : World) (base e size g n : Nat) (k : Nat) (dn : List Value) : Prop := ∃ us, Own w base e size (some ⟨g, 0, none⟩) n n us ∧ us.take (k * size) = dn
theorem Done.ext {w w' : World} {base e size g n k : Nat} {dn : List Value} (h : Done w base e size g n k dn) (hb : Below w.heap.size w w') : Done w' base e size g n k dn := by
  obtain ⟨us, h1, h2⟩ := h
  exact ⟨us, Own.ext h1 hb, h2⟩
theorem Done.lt {w : World} {base e size g n k : Nat} {dn : List Value} (h : Done w base e size g n k dn) : base ≤ g ∧ g < w.heap.size := by
  obtain ⟨us, h1, _⟩ := h
  exact Own.lt h1 g rfl
/-- A block that holds just these cells. -/
def Box (w : World) (g T : Nat) (cs : List Value) : Prop := w.heap[g]? = some (.cells cs.toArray T (0, 0))
theorem Box.cell {w : World} {g T : Nat} {cs : List Value} (h : Box w g T cs) (j : Nat) : w.cell? ⟨g, j, none⟩ = cs[j]? := by
  rw [cell_of_row w g j _ T (0, 0) h]; simp
theorem Box.lt {w : World} {g T : Nat} {cs : List Value} (h : Box w g T cs) : g < w.heap.size := by
  rcases Nat.lt_or_ge g w.heap.size with hlt | hge
  · exact hlt
  · unfold Box at h; rw [Array.getElem?_eq_none hge] at h; cases h
theorem Box.ext {w w' : World} {g T : Nat} {cs : List Value} (h : Box w g T cs) (hb : Below w.heap.size w w') : Box w' g T cs := (hb.block g h.lt).trans h
theorem Box.drew {w : World} {g T : Nat} {cs : List Value} (h : Box w g T cs) : Box w.drew g T cs := h
theorem Box.alloc {w : World} {g T : Nat} {cs : List Value} (h : Box w g T cs) (o : Obj) : Box (w.alloc o) g T cs := (Below.heap_alloc w o g h.lt).trans h
end Go.Proofs.Ytbegbdfbfbkflaa
/- Slices of ints: their size, copy, comparison, marks. -/
namespace Go.Proofs.Ytbegbdfbfbkflaa
open Go.RowKit
set_option maxHeartbeats 400000
set_option linter.unusedVariables false
set_option linter.unusedSimpArgs false
def ints (xs : List Int) : List Value := xs.map (.int .i64)
end Go.Proofs.Ytbegbdfbfbkflaa
/- Turns: what is right; both TurnsOk. -/
namespace Go.Proofs.Ytbegbdfbfbkflaa
open Go.RowKit
set_option maxHeartbeats 400000
set_option linter.unusedVariables false
set_option linter.unusedSimpArgs false
structure Tn where
  W : List Int
  L : List Int
  T : List Int
  pos : Int
def TnV (w : World) (cs : List Value) (t : Tn) : Prop := ∃ (A1 A2 A3 : Option Addr) (c1 c2 c3 : Nat), cs = [.slice A1 t.W.length c1, .slice A2 t.L.length c2, .slice A3 t.T.length c3, .int .i64 t.pos] ∧ Rd w A1 (ints t.W) ∧ Rd w A2 (ints t.L) ∧ Rd w A3 (ints t.T)
theorem TnV.ext {w w' : World} {cs : List Value} {t : Tn} (h : TnV w cs t) (hb : Below w.heap.size w w') : TnV w' cs t := by
  obtain ⟨A1, A2, A3, c1, c2, c3, e, h1, h2, h3⟩ := h
  exact ⟨A1, A2, A3, c1, c2, c3, e, h1.ext hb, h2.ext hb, h3.ext hb⟩
end Go.Proofs.Ytbegbdfbfbkflaa
/- Varints: both programs write one plain list of bytes. -/
namespace Go.Proofs.Ytbegbdfbfbkflaa
open Go.RowKit
set_option maxHeartbeats 1000000
set_option linter.unusedVariables false
set_option linter.unusedSimpArgs false
end Go.Proofs.Ytbegbdfbfbkflaa
/- Reading a varint, in plain Lean: the first terminator, and the shortest beginning that is its own writing, are one. -/
namespace Go.Proofs.Ytbegbdfbfbkflaa
set_option linter.unusedVariables false
/-- What the bytes say, the last one the greatest. -/
def sumL : List UInt8 → Nat
  | [] => 0
  | b :: l => sumL l * 128 + b.toNat % 128
/-- Reading by the first byte below 128; t: a byte stood ahead. -/
def rvT : Bool → Nat → List UInt8 → Option (Nat × Nat)
  | _, 0, _ => none
  | _, _ + 1, [] => none
  | t, f + 1, b :: l => if 128 ≤ b.toNat then (rvT true f l).map (fun p => (p.1 * 128 + b.toNat % 128, p.2 + 1)) else if t = true ∧ b.toNat = 0 then none else some (b.toNat, 1)
/-- What both programs read. -/
def rv (l : List UInt8) : Option (Nat × Nat) := rvT false 7 l
end Go.Proofs.Ytbegbdfbfbkflaa
/- Fixed: both programs write the same bytes, for the widths in use. -/
namespace Go.Proofs.Ytbegbdfbfbkflaa
open Go.RowKit
set_option maxHeartbeats 1000000
set_option linter.unusedVariables false
set_option linter.unusedSimpArgs false
end Go.Proofs.Ytbegbdfbfbkflaa
/- The checksum: both programs compute one plain function. -/
namespace Go.Proofs.Ytbegbdfbfbkflaa
open Go.RowKit
set_option maxHeartbeats 1000000
set_option linter.unusedVariables false
set_option linter.unusedSimpArgs false
end Go.Proofs.Ytbegbdfbfbkflaa
/- ShowSlot of both programs: one plain string. -/
namespace Go.Proofs.Ytbegbdfbfbkflaa
open Go.RowKit
set_option maxHeartbeats 1000000
set_option linter.unusedVariables false
set_option linter.unusedSimpArgs false
end Go.Proofs.Ytbegbdfbfbkflaa
/- ReadVar of both programs. -/
namespace Go.Proofs.Ytbegbdfbfbkflaa
open Go.RowKit
set_option maxHeartbeats 4000000
set_option maxRecDepth 20000
set_option linter.unusedVariables false
set_option linter.unusedSimpArgs false
/-- A string's bytes. -/
abbrev bl (s : ByteArray) : List UInt8 := s.data.toList
theorem bl_len (s : ByteArray) : (bl s).length = s.size := Array.length_toList
section
variable {P : Program} {E : Env} {H : List HObj} {G : List World} {o : Oper}
end
/-- What is read: the number and how many bytes; both 0 where none is. -/
def rvN (l : List UInt8) : Nat × Nat := (rv l).getD (0, 0)
/-- The state of the reading behind i bytes that are all 128 or more. -/
structure RvI (s : ByteArray) (i : Nat) : Prop where
  le : i ≤ 7
  ls : i ≤ s.size
  eq : rv (bl s) = (rvT (decide (0 < i)) (7 - i) ((bl s).drop i)).map (fun p => (p.1 * 128 ^ i + sumL ((bl s).take i), p.2 + i))
theorem RvI.zero (s : ByteArray) : RvI s 0 := ⟨by omega, by omega, by
  simp only [rv, Nat.lt_irrefl, decide_false, Nat.sub_zero, List.drop_zero, List.take_zero, sumL]
  cases rvT false 7 (bl s) <;> simp⟩
theorem RvI.none {s : ByteArray} {i : Nat} (h : RvI s i) (hx : i = 7 ∨ i = s.size) : rvN (bl s) = (0, 0) := by
  unfold rvN
  rw [h.eq]
  have : rvT (decide (0 < i)) (7 - i) ((bl s).drop i) = Option.none := by
    rcases hx with rfl | rfl
    · rfl
    · rw [List.drop_of_length_le (by rw [bl_len]; omega)]
      cases 7 - s.size <;> rfl
  rw [this]; rfl
attribute [local irreducible] Calls
end Go.Proofs.Ytbegbdfbfbkflaa
/- The reader of the program, the pieces that the reference takes. -/
namespace Go.Proofs.Ytbegbdfbfbkflaa
open Go.RowKit
set_option maxHeartbeats 4000000
set_option maxRecDepth 20000
set_option linter.unusedVariables false
set_option linter.unusedSimpArgs false
section
variable {P : Program} {E : Env} {H : List HObj} {G : List World} {o : Oper}
end
/-- A number that stands at a place, and where it ends; a string with its length ahead. -/
def tkN (s : ByteArray) (k : Nat) : Option (Nat × Nat) := (rv ((bl s).drop k)).map fun p => (p.1, k + p.2)
attribute [local irreducible] Calls
/-- The reference takes pieces. -/
def tkV (s : ByteArray) (z : Int) : Option (Nat × Nat) := if 0 ≤ z ∧ z ≤ s.size then tkN s z.toNat else none
def tkE {α : Type} (r : Option (α × Nat)) : Int := match r with
  | none => -1
  | some p => p.2
def tkL (r : Option (Nat × Nat)) : List Int := match r with
  | none => []
  | some p => [(p.1 : Int)]
structure VarI (s : ByteArray) (z : Int) where
  i : Nat
  at_ : Int
  l : List Int
  A : Option Addr
  c : Nat
  ok : (i = 0 ∧ at_ = z ∧ l = []) ∨ (i = 1 ∧ tkE (tkV s z) = at_ ∧ l = tkL (tkV s z) ∧ l.length = 1 ∧ 0 ≤ at_ ∧ at_ ≤ s.size)
end Go.Proofs.Ytbegbdfbfbkflaa
/- Changes as text, in plain Lean. -/
namespace Go.Proofs.Ytbegbdfbfbkflaa
set_option linter.unusedVariables false
end Go.Proofs.Ytbegbdfbfbkflaa
/- ApplyDelta of both programs. -/
namespace Go.Proofs.Ytbegbdfbfbkflaa
open Go.RowKit
set_option maxHeartbeats 4000000
set_option maxRecDepth 20000
set_option linter.unusedVariables false
set_option linter.unusedSimpArgs false
attribute [local irreducible] Calls
/-- What the reference does with the rest of a map. -/
def finP (k v : ByteArray) : List KV → Bool → List KV → List KV
  | [], b, O => if b = true then O else O ++ [⟨k, v⟩]
  | x :: D, b, O => if b = false ∧ sLt x.key k = false then (if neK k x = true then finP k v D true ((O ++ [⟨k, v⟩]) ++ [x]) else finP k v D true (O ++ [⟨k, v⟩])) else (if neK k x = true then finP k v D b (O ++ [x]) else finP k v D b O)
def opF (R : List KV) (k v : ByteArray) (d : Bool) : List KV := finP k v R d []
structure PutI (R : List KV) (k v : ByteArray) (d : Bool) where
  i : Nat
  b : Bool
  O : List KV
  A : Option Addr
  c : Nat
  hi : i ≤ R.length ∧ O.length ≤ i + 1 ∧ (b = false → O.length ≤ i)
  ok : finP k v (R.drop i) b O = opF R k v d
structure ApI (n : Nat) where
  k : Nat
  A : Option Addr
  c : Nat
  hk : k ≤ n
end Go.Proofs.Ytbegbdfbfbkflaa
/- Drawing, with the engine: the cursor is an own box. -/
namespace Go.Proofs.Ytbegbdfbfbkflaa
open Go.RowKit
set_option maxHeartbeats 4000000
set_option maxRecDepth 20000
set_option linter.unusedVariables false
set_option linter.unusedSimpArgs false
attribute [local irreducible] Calls
/-- The cursor: the code's bytes, a place in them, a state. -/
abbrev cur (g : Nat) (A : Option Addr) (n c : Nat) (i : Nat) (h : Int) : HObj := .box g 175 [.slice A n c, .int .i64 i, .int .i64 h]
/-- What a draw gives: a number (or a string), the cursor's place and state. -/
def mkC (x : Int) (i : Nat) (h : Int) (w : World) : Ys := fun k => if k = 0 then ⟨none, i, w, x⟩ else ⟨none, 0, w, h⟩
def sW (s : ByteArray) (w : World) : World := { w with heap := #[.cells #[.string s] 0 (0, 0)] }
def yS (y : Ya) : ByteArray := match (y.w.heap[0]? : Option Obj) with
  | some (.cells cs _ _) => (match (cs[0]? : Option Value) with | some (.string s) => s | _ => ⟨#[]⟩)
  | _ => ⟨#[]⟩
def mkS (s : ByteArray) (i : Nat) (h : Int) (w : World) : Ys := fun k => if k = 0 then ⟨none, i, sW s w, 0⟩ else ⟨none, 0, w, h⟩
theorem yS_mk (s : ByteArray) (i : Nat) (h : Int) (w : World) : yS (mkS s i h w 0) = s := rfl
theorem and255' (y : Int) : 0 ≤ (IntKind.i64.wrap ((BitVec.ofInt IntKind.i64.bits y &&& BitVec.ofInt IntKind.i64.bits 255).toNat : Int)) ∧ (IntKind.i64.wrap ((BitVec.ofInt IntKind.i64.bits y &&& BitVec.ofInt IntKind.i64.bits 255).toNat : Int)) ≤ 255 := by
  have h : (BitVec.ofInt IntKind.i64.bits y &&& BitVec.ofInt IntKind.i64.bits 255).toNat ≤ 255 := by
    rw [BitVec.toNat_and]
    exact Nat.le_trans Nat.and_le_right (by decide)
  generalize (BitVec.ofInt IntKind.i64.bits y &&& BitVec.ofInt IntKind.i64.bits 255).toNat = n at *
  rw [IntWalk.i64_in _ (by omega)]
  omega
theorem ps_convI {P : Program} {E : Env} {H : List HObj} {G : List World} {o : Oper} {x : Operand} {s t : TypeId} {k' : IntKind} {z : Int} [hk : IK P t .u8] [hk' : IK P s k'] (ho : o.op = .convert s t x) (hx : opd E x = some (.int k' z)) (h : 0 ≤ z) : PStep P E H G o (.int .u8 ((UInt8.ofNat z.toNat).toNat : Int)) := by
  obtain ⟨n, rfl⟩ := Int.eq_ofNat_of_zero_le h
  rw [Int.toNat_natCast]; exact ps_convB ho hx
theorem bvs1 (L : List UInt8) (x : UInt8) : byteVs (L ++ [x]) = byteVs L ++ [.int .u8 (x.toNat : Int)] := by simp [byteVs]
theorem one1 {v : Value} (h : v.oneCell' = true) : ∀ u ∈ [v], u.oneCell' = true := fun u hu => by
  cases hu with
  | head => exact h
  | tail _ h => cases h
theorem emod_in (z : Int) {n : Int} (h : 0 < n) : 0 ≤ z % n ∧ z % n < n := ⟨Int.emod_nonneg _ (by omega), Int.emod_lt_of_pos _ h⟩
/-- Code that is read while drawing. -/
structure CodeR (A : Option Addr) (bs : List UInt8) (G : List World) : Prop where
  rd : ∃ m ∈ G, Rd m A (fl bs)
  le : bs.length ≤ 1048576
theorem new_c (A : Option Addr) (c : Nat) (bs : List UInt8) (w : World) (h : Rd w A (fl bs)) (hl : bs.length ≤ 1048576) :
    Calls Try.prog 72 #[.slice A bs.length c] w fun e w' => ∃ y : Ys, e = .returned (pt (ga (y 0).c) 0) ∧ True ∧ Below w.heap.size w w' ∧ NewOk w.heap.size [cur (y 0).c A bs.length c 0 (y 1).n] [] w' := by
  refine ok_enter 32 Try.func72 rfl rfl rfl ?_
  repeat' (first
    | refine ok_seq ?_
    | refine ok_then ?_
    | refine ok_block ?_
    | (refine ok_region (i := 0) ?_; refine ok_p rfl rfl rfl (by exact ps_assign rfl rfl) ?_; refine ok_nil ?_; refine ok_env [(0, _)] ⟨rfl, trivial⟩ ?_)
    | (refine ok_region (i := 1) ?_; refine ok_p rfl rfl rfl (by exact ps_move rfl rfl) ?_; refine ok_p rfl rfl rfl (by exact ps_len rfl rfl) ?_; refine ok_p rfl rfl rfl (by exact ps_add rfl rfl rfl (by omega)) ?_; refine ok_p rfl rfl rfl (by exact ps_assign rfl rfl) ?_; refine ok_nil ?_; refine ok_env [(0, _), (3, _)] ⟨rfl, rfl, trivial⟩ ?_)
    | (refine ok_region (i := 2) ?_; refine ok_p rfl rfl rfl (by exact ps_assign rfl rfl) ?_; refine ok_nil ?_; refine ok_env [(0, _), (3, _), (4, _)] ⟨rfl, rfl, rfl, trivial⟩ ?_))
  refine ok_loop (ι := { q : Nat × Int // q.1 ≤ bs.length }) (fun q => bs.length - q.1.1) (fun q => ([(0, .slice A bs.length c), (3, .int .i64 q.1.2), (4, .int .i64 q.1.1)], [], _)) ⟨(0, 10101 + bs.length), by simp⟩ (fun a w he hw => ⟨⟨(0, 10101 + bs.length), by simp⟩, he.sub ⟨rfl, rfl, rfl, trivial⟩, hw⟩) ?_
  rintro ⟨⟨k, hh⟩, hk⟩
  simp only at hk ⊢
  repeat' (first
    | refine ok_seq ?_
    | refine ok_then ?_
    | refine ok_block ?_
    | refine ok_in_normal ?_
    | (refine ok_cond rfl (fun hc => ?_) (fun hc => ?_) <;> (have hd := hc; (try simp only [decide_eq_true_eq, decide_eq_false_iff_not, Bool.or_eq_true, Bool.or_eq_false_iff, Bool.and_eq_true, Bool.and_eq_false_iff, Bool.not_eq_true', Bool.not_eq_false', bne_iff_ne, beq_iff_eq, bne_eq_false_iff_eq, beq_eq_false_iff_ne, ne_eq, Bool.not_true, Bool.not_false, Bool.false_eq_true, Bool.true_eq_false, inB_true, inB_false] at hd)))
    | refine ok_ret ?_
    | refine ok_exit ?_
    | refine ok_skip ?_
    | (refine ok_region (i := 3) ?_; refine ok_p rfl rfl rfl (by exact ps_move rfl rfl) ?_; refine ok_p rfl rfl rfl (by exact ps_move rfl rfl) ?_; refine ok_p rfl rfl rfl (by exact ps_len rfl rfl) ?_; refine ok_p rfl rfl rfl (by exact ps_int rfl rfl rfl rfl) ?_; refine ok_p rfl rfl rfl (by exact ps_move rfl rfl) ?_; refine ok_pg rfl rfl rfl rfl rfl (gT _) (fun hp => by (have hpd := hp; (try simp only [decide_eq_true_eq, decide_eq_false_iff_not, Bool.or_eq_true, Bool.or_eq_false_iff, Bool.and_eq_true, Bool.and_eq_false_iff, Bool.not_eq_true', Bool.not_eq_false', bne_iff_ne, beq_iff_eq, bne_eq_false_iff_eq, beq_eq_false_iff_ne, ne_eq, Bool.not_true, Bool.not_false, Bool.false_eq_true, Bool.true_eq_false, inB_true, inB_false] at hpd); exact ps_move rfl (by exact rfl))) ?_; refine ok_pg rfl rfl rfl rfl rfl (gT _) (fun hp => by (have hpd := hp; (try simp only [decide_eq_true_eq, decide_eq_false_iff_not, Bool.or_eq_true, Bool.or_eq_false_iff, Bool.and_eq_true, Bool.and_eq_false_iff, Bool.not_eq_true', Bool.not_eq_false', bne_iff_ne, beq_iff_eq, bne_eq_false_iff_eq, beq_eq_false_iff_ne, ne_eq, Bool.not_true, Bool.not_false, Bool.false_eq_true, Bool.true_eq_false, inB_true, inB_false] at hpd); exact ps_int rfl (by (refine og rfl ?_; assumption)) (by exact rfl) rfl)) ?_; refine ok_p rfl rfl rfl (by exact ps_and rfl rfl rfl) ?_; refine ok_nil ?_; refine ok_env [(0, _), (3, _), (4, _), (15, _)] ⟨rfl, rfl, rfl, rfl, trivial⟩ ?_)
    | (refine ok_region (i := 4) ?_; refine ok_p rfl rfl rfl (by exact ps_move rfl rfl) ?_; refine ok_p rfl rfl rfl (by exact ps_add rfl rfl rfl (by omega)) ?_; refine ok_p rfl rfl rfl (by exact ps_assign rfl rfl) ?_; refine ok_nil ?_; refine ok_env [(0, _), (3, _), (4, _)] ⟨rfl, rfl, rfl, trivial⟩ ?_)
    | (refine ok_region (i := 5) ?_; refine ok_p rfl rfl rfl (by exact ps_move rfl rfl) ?_; refine ok_p rfl rfl rfl (by exact ps_int rfl rfl rfl rfl) ?_; refine ok_p rfl rfl rfl (by exact ps_move rfl rfl) ?_; refine ok_p rfl rfl rfl (by exact ps_move rfl rfl) ?_; refine ok_p rfl rfl rfl (by exact ps_indexN rfl rfl rfl (by omega) (by exact isw_of (isS_fl (by assumption) (by omega)))) ?_; refine ok_p rfl rfl rfl (by exact ps_load rfl rfl (by exact Rds.cell (rds_rf (by assumption) (by exact List.mem_cons_self)) (by exact fl_at0 _ _ (by omega) (by decide)))) ?_; refine ok_p rfl rfl rfl (by exact ps_conv rfl rfl) ?_; refine ok_p rfl rfl rfl (by exact ps_int rfl rfl rfl rfl) ?_; refine ok_p rfl rfl rfl (by exact ps_int rfl rfl rfl rfl) ?_; refine ok_p rfl rfl rfl (by exact ps_int rfl rfl rfl rfl) ?_; refine ok_p rfl rfl rfl (by exact ps_assign rfl rfl) ?_; refine ok_nil ?_; refine ok_env [(0, _), (3, _), (4, _)] ⟨rfl, rfl, rfl, trivial⟩ ?_)
    | (refine ok_region (i := 6) ?_; refine ok_p rfl rfl rfl (by exact ps_move rfl rfl) ?_; refine ok_p rfl rfl rfl (by exact ps_move rfl rfl) ?_; refine ok_p rfl rfl rfl (by exact ps_bld rfl (parts_cons rfl (parts_cons rfl parts_nil)) rfl) ?_; refine ok_m rfl rfl rfl (by exact ms_box rfl rfl rfl) ?_; rintro y31 hy31; refine ok_p rfl rfl rfl (by exact ps_assign rfl rfl) ?_; refine ok_nil ?_; refine ok_env [(2, _)] ⟨rfl, trivial⟩ ?_))
  · exact fun a w' he hw => ⟨⟨(k + 1, _), by simp; omega⟩, by simp only; omega, he.sub ⟨rfl, rfl, rfl, trivial⟩, hw⟩
  all_goals
    refine ok_endL (vs := [_]) rfl ⟨rfl, trivial⟩ (fun w' hw => ?_)
    exact ⟨mkC 0 (y31 0).c hh w', rfl, trivial, hw.below, NewOk.of hw⟩
theorem byte_c (g : Nat) (A : Option Addr) (c : Nat) (bs : List UInt8) (i : Nat) (h : Int) (hi : i ≤ bs.length) {base : Nat} {w0 w : World} {H : List HObj} {G : List World} (hr : CodeR A bs G) (hw : WOk base w0 (cur g A bs.length c i h :: H) G w) :
    Calls Try.prog 146 #[pt (ga g) 0] w fun e w' => ∃ y : Ys, e = .returned (.int .i64 (y 0).n) ∧ ((0 ≤ (y 0).n ∧ (y 0).n ≤ 255) ∧ (y 0).c ≤ bs.length) ∧ WOk base w0 (cur g A bs.length c (y 0).c (y 1).n :: H) G w' := by
  obtain ⟨⟨m, hm, hr⟩, hl⟩ := hr
  refine ok_enterW 58 Try.func146 rfl rfl rfl hw ?_
  repeat' (first
    | refine ok_seq ?_
    | refine ok_then ?_
    | (refine ok_cond rfl (fun hc => ?_) (fun hc => ?_) <;> (have hd := hc; (try simp only [decide_eq_true_eq, decide_eq_false_iff_not, Bool.or_eq_true, Bool.or_eq_false_iff, Bool.and_eq_true, Bool.and_eq_false_iff, Bool.not_eq_true', Bool.not_eq_false', bne_iff_ne, beq_iff_eq, bne_eq_false_iff_eq, beq_eq_false_iff_ne, ne_eq, Bool.not_true, Bool.not_false, Bool.false_eq_true, Bool.true_eq_false, inB_true, inB_false] at hd)))
    | refine ok_ret ?_
    | refine ok_skip ?_
    | (refine ok_region (i := 0) ?_; refine ok_p rfl rfl rfl (by exact ps_assign rfl rfl) ?_; refine ok_nil ?_; refine ok_env [(0, _)] ⟨rfl, trivial⟩ ?_)
    | (refine ok_region (i := 1) ?_; refine ok_p rfl rfl rfl (by exact ps_move rfl rfl) ?_; refine ok_p rfl rfl rfl (by exact ps_move rfl rfl) ?_; refine ok_p rfl rfl rfl (by exact ps_nil rfl rfl (by exact isw_ga _)) ?_; refine ok_p rfl rfl rfl (by exact ps_field rfl rfl (by exact isw_ga _)) ?_; refine ok_p rfl rfl rfl (by exact ps_load rfl rfl (by exact Rds.cell (rds_box 0 rfl) rfl)) ?_; refine ok_p rfl rfl rfl (by exact ps_int rfl rfl rfl rfl) ?_; refine ok_p rfl rfl rfl (by exact ps_int rfl rfl rfl rfl) ?_; refine ok_p rfl rfl rfl (by exact ps_nil rfl rfl (by exact isw_ga _)) ?_; refine ok_p rfl rfl rfl (by exact ps_field rfl rfl (by exact isw_ga _)) ?_; refine ok_m_ rfl rfl (by exact ms_store 0 rfl rfl rfl rfl rfl rfl rfl rfl) ?_; rintro y_ hy_; refine ok_nil ?_; refine ok_env [(0, _)] ⟨rfl, trivial⟩ ?_)
    | (refine ok_draw (id := 2) 13 rfl (by kernel_rfl) (by kernel_rfl) rfl (by repeat (first | exact pq_body | refine pq_then ?_ | refine pq_in ?_)) [0, 1, 2, 3, 4, 5, 6, 7, 8, 9, 10, 11, 12, 13, 14, 15, 16, 17, 18, 19, 20, 21, 22, 23] (by decide) rfl ?_; refine okT_take (i := 0) rfl (by kernel_rfl) rfl rfl rfl (by exact ps_move rfl rfl) ?_; refine okT_take (i := 1) rfl (by kernel_rfl) rfl rfl rfl (by exact ps_nil rfl rfl (by exact isw_ga _)) ?_; refine okT_take (i := 2) rfl (by kernel_rfl) rfl rfl rfl (by exact ps_field rfl rfl (by exact isw_ga _)) ?_; refine okT_take (i := 3) rfl (by kernel_rfl) rfl rfl rfl (by exact ps_load rfl rfl (by exact Rds.cell (rds_box 0 rfl) rfl)) ?_; refine okT_take (i := 4) rfl (by kernel_rfl) rfl rfl rfl (by exact ps_shr rfl (by exact rfl) rfl ⟨by decide, by decide⟩) ?_; refine okT_take (i := 5) rfl (by kernel_rfl) rfl rfl rfl (by exact ps_move rfl rfl) ?_; refine okT_take (i := 6) rfl (by kernel_rfl) rfl rfl rfl (by exact ps_nil rfl rfl (by exact isw_ga _)) ?_; refine okT_take (i := 7) rfl (by kernel_rfl) rfl rfl rfl (by exact ps_field rfl rfl (by exact isw_ga _)) ?_; refine okT_take (i := 8) rfl (by kernel_rfl) rfl rfl rfl (by exact ps_load rfl rfl (by exact Rds.cell (rds_box 0 rfl) rfl)) ?_; refine okT_take (i := 9) rfl (by kernel_rfl) rfl rfl rfl (by exact ps_shr rfl (by exact rfl) rfl ⟨by decide, by decide⟩) ?_; refine okT_take (i := 10) rfl (by kernel_rfl) rfl rfl rfl (by exact ps_int rfl rfl rfl rfl) ?_; refine okT_take (i := 11) rfl (by kernel_rfl) rfl rfl rfl (by exact ps_int rfl rfl rfl rfl) ?_; refine okT_take (i := 12) rfl (by kernel_rfl) rfl rfl rfl (by exact ps_assign rfl rfl) ?_; refine okT_done (by kernel_rfl) ?_; refine ok_nil ?_; refine ok_env [(0, _), (3, _)] ⟨rfl, rfl, trivial⟩ ?_)
    | (refine ok_draw (id := 3) 10 rfl (by kernel_rfl) (by kernel_rfl) rfl (by repeat (first | exact pq_body | refine pq_then ?_ | refine pq_in ?_)) [0, 1, 2, 3, 4, 5, 6, 7, 8, 9, 10, 11, 12, 13, 14, 15, 16, 17, 18, 19, 20, 21, 22, 23] (by decide) rfl ?_; refine okT_take (i := 0) rfl (by kernel_rfl) rfl rfl rfl (by exact ps_move rfl rfl) ?_; refine okT_take (i := 1) rfl (by kernel_rfl) rfl rfl rfl (by exact ps_nil rfl rfl (by exact isw_ga _)) ?_; refine okT_take (i := 2) rfl (by kernel_rfl) rfl rfl rfl (by exact ps_field rfl rfl (by exact isw_ga _)) ?_; refine okT_take (i := 3) rfl (by kernel_rfl) rfl rfl rfl (by exact ps_load rfl rfl (by exact Rds.cell (rds_box 0 rfl) rfl)) ?_; refine okT_take (i := 4) rfl (by kernel_rfl) rfl rfl rfl (by exact ps_move rfl rfl) ?_; refine okT_take (i := 5) rfl (by kernel_rfl) rfl rfl rfl (by exact ps_nil rfl rfl (by exact isw_ga _)) ?_; refine okT_take (i := 6) rfl (by kernel_rfl) rfl rfl rfl (by exact ps_field rfl rfl (by exact isw_ga _)) ?_; refine okT_take (i := 7) rfl (by kernel_rfl) rfl rfl rfl (by exact ps_load rfl rfl (by exact Rds.cell (rds_box 0 rfl) rfl)) ?_; refine okT_take (i := 8) rfl (by kernel_rfl) rfl rfl rfl (by exact ps_len rfl rfl) ?_; refine okT_take (i := 9) rfl (by kernel_rfl) rfl rfl rfl (by exact ps_int rfl rfl rfl rfl) ?_; refine okT_done (by kernel_rfl) ?_; refine ok_nil ?_; refine ok_env [(0, _), (3, _), (34, _)] ⟨rfl, rfl, rfl, trivial⟩ ?_)
    | (refine ok_draw (id := 4) 15 rfl (by kernel_rfl) (by kernel_rfl) rfl (by repeat (first | exact pq_body | refine pq_then ?_ | refine pq_in ?_)) [0, 1, 2, 3, 4, 5, 6, 7, 8, 9, 10, 11, 12, 13, 14, 15, 16, 17, 18, 19, 20, 21, 22, 23] (by decide) rfl ?_; refine okT_take (i := 0) rfl (by kernel_rfl) rfl rfl rfl (by exact ps_move rfl rfl) ?_; refine okT_take (i := 1) rfl (by kernel_rfl) rfl rfl rfl (by exact ps_move rfl rfl) ?_; refine okT_take (i := 2) rfl (by kernel_rfl) rfl rfl rfl (by exact ps_nil rfl rfl (by exact isw_ga _)) ?_; refine okT_take (i := 3) rfl (by kernel_rfl) rfl rfl rfl (by exact ps_field rfl rfl (by exact isw_ga _)) ?_; refine okT_take (i := 4) rfl (by kernel_rfl) rfl rfl rfl (by exact ps_load rfl rfl (by exact Rds.cell (rds_box 0 rfl) rfl)) ?_; refine okT_take (i := 5) rfl (by kernel_rfl) rfl rfl rfl (by exact ps_move rfl rfl) ?_; refine okT_take (i := 6) rfl (by kernel_rfl) rfl rfl rfl (by exact ps_nil rfl rfl (by exact isw_ga _)) ?_; refine okT_take (i := 7) rfl (by kernel_rfl) rfl rfl rfl (by exact ps_field rfl rfl (by exact isw_ga _)) ?_; refine okT_take (i := 8) rfl (by kernel_rfl) rfl rfl rfl (by exact ps_load rfl rfl (by exact Rds.cell (rds_box 0 rfl) rfl)) ?_; refine okT_take (i := 9) rfl (by kernel_rfl) rfl rfl rfl (by exact ps_indexN rfl rfl rfl (by omega) (by exact isw_of (isS_fl (by assumption) (by omega)))) ?_; refine okT_take (i := 10) rfl (by kernel_rfl) rfl rfl rfl (by exact ps_load rfl (by exact rfl) (Rds.cell (rds_rf hr hm) (fl_at0 bs i (by omega) (by decide)))) ?_; refine okT_take (i := 11) rfl (by kernel_rfl) rfl rfl rfl (by exact ps_conv rfl rfl) ?_; refine okT_take (i := 12) rfl (by kernel_rfl) rfl rfl rfl (by exact ps_int rfl rfl rfl rfl) ?_; refine okT_take (i := 13) rfl (by kernel_rfl) rfl rfl rfl (by exact ps_int rfl rfl rfl rfl) ?_; refine okT_take (i := 14) rfl (by kernel_rfl) rfl rfl rfl (by exact ps_assign rfl rfl) ?_; refine okT_done (by kernel_rfl) ?_; refine ok_nil ?_; refine ok_env [(0, _), (3, _)] ⟨rfl, rfl, trivial⟩ ?_)
    | (refine ok_region (i := 5) ?_; refine ok_p rfl rfl rfl (by exact ps_move rfl rfl) ?_; refine ok_p rfl rfl rfl (by exact ps_move rfl rfl) ?_; refine ok_p rfl rfl rfl (by exact ps_nil rfl rfl (by exact isw_ga _)) ?_; refine ok_p rfl rfl rfl (by exact ps_field rfl rfl (by exact isw_ga _)) ?_; refine ok_p rfl rfl rfl (by exact ps_load rfl rfl (by exact Rds.cell (rds_box 0 rfl) rfl)) ?_; refine ok_p rfl rfl rfl (by exact ps_add rfl rfl rfl (by omega)) ?_; refine ok_p rfl rfl rfl (by exact ps_nil rfl rfl (by exact isw_ga _)) ?_; refine ok_p rfl rfl rfl (by exact ps_field rfl rfl (by exact isw_ga _)) ?_; refine ok_m_ rfl rfl (by exact ms_store 0 rfl rfl rfl rfl rfl rfl rfl rfl) ?_; rintro y_ hy_; refine ok_nil ?_; refine ok_env [(3, _)] ⟨rfl, trivial⟩ ?_)
    | (refine ok_region (i := 6) ?_; refine ok_p rfl rfl rfl (by exact ps_move rfl rfl) ?_; refine ok_p rfl rfl rfl (by exact ps_assign rfl rfl) ?_; refine ok_nil ?_; refine ok_env [(2, _)] ⟨rfl, trivial⟩ ?_))
  · refine ok_endL (vs := [_]) rfl ⟨rfl, trivial⟩ (fun w' hw => ?_)
    exact ⟨mkC _ (i + 1) _ w', rfl, ⟨and255' _, by show i + 1 ≤ bs.length; omega⟩, hw⟩
  · refine ok_endL (vs := [_]) rfl ⟨rfl, trivial⟩ (fun w' hw => ?_)
    exact ⟨mkC _ i _ w', rfl, ⟨and255' _, hi⟩, hw⟩
theorem below_c (g : Nat) (A : Option Addr) (c : Nat) (bs : List UInt8) (i : Nat) (h : Int) (n : Int) (hn : 0 < n ∧ n ≤ 9223372036854775807) (hi : i ≤ bs.length) {base : Nat} {w0 w : World} {H : List HObj} {G : List World} (hr : CodeR A bs G) (hw : WOk base w0 (cur g A bs.length c i h :: H) G w) :
    Calls Try.prog 75 #[pt (ga g) 0, .int .i64 n] w fun e w' => ∃ y : Ys, e = .returned (.int .i64 (y 0).n) ∧ ((0 ≤ (y 0).n ∧ (y 0).n < n) ∧ (y 0).c ≤ bs.length) ∧ WOk base w0 (cur g A bs.length c (y 0).c (y 1).n :: H) G w' := by
  refine ok_enterW 37 Try.func75 rfl rfl rfl hw ?_
  repeat' (first
    | refine ok_seq ?_
    | refine ok_then ?_
    | refine ok_then_ret ?_
    | (refine ok_cond rfl (fun hc => ?_) (fun hc => ?_) <;> (have hd := hc; (try simp only [decide_eq_true_eq, decide_eq_false_iff_not, Bool.or_eq_true, Bool.or_eq_false_iff, Bool.and_eq_true, Bool.and_eq_false_iff, Bool.not_eq_true', Bool.not_eq_false', bne_iff_ne, beq_iff_eq, bne_eq_false_iff_eq, beq_eq_false_iff_ne, ne_eq, Bool.not_true, Bool.not_false, Bool.false_eq_true, Bool.true_eq_false, inB_true, inB_false] at hd)))
    | refine ok_ret ?_
    | refine ok_skip ?_
    | (refine ok_region (i := 0) ?_; refine ok_p rfl rfl rfl (by exact ps_assign rfl rfl) ?_; refine ok_nil ?_; refine ok_env [(0, _), (1, _)] ⟨rfl, rfl, trivial⟩ ?_)
    | (refine ok_region (i := 1) ?_; refine ok_p rfl rfl rfl (by exact ps_move rfl rfl) ?_; refine ok_p rfl rfl rfl (by exact ps_int rfl rfl rfl rfl) ?_; refine ok_nil ?_; refine ok_env [(0, _), (1, _), (10, _)] ⟨rfl, rfl, rfl, trivial⟩ ?_)
    | (refine ok_region (i := 2) ?_; refine ok_p rfl rfl rfl (by exact ps_assign rfl rfl) ?_; refine ok_nil ?_; refine ok_env [(4, _)] ⟨rfl, trivial⟩ ?_)
    | (refine ok_region (i := 3) ?_; refine ok_p rfl rfl rfl (by exact ps_move rfl rfl) ?_; refine ok_p rfl rfl rfl (by exact ps_int rfl rfl rfl rfl) ?_; refine ok_nil ?_; refine ok_env [(0, _), (1, _), (12, _)] ⟨rfl, rfl, rfl, trivial⟩ ?_)
    | (refine ok_region (i := 4) ?_; refine ok_p rfl rfl rfl (by exact ps_move rfl rfl) ?_; refine ok_m rfl rfl rfl (by exact ms_w1 (fun _ _ _ h => h) rfl rfl (fun _ _ w hw => byte_c g A c bs _ _ (by omega) hr hw)) ?_; rintro y14 hy14; refine ok_p rfl rfl rfl (by exact ps_move rfl rfl) ?_; refine ok_p rfl rfl rfl (by exact ps_rem rfl rfl rfl (by omega) (by omega)) ?_; refine ok_p rfl rfl rfl (by exact ps_assign rfl rfl) ?_; refine ok_nil ?_; refine ok_env [(4, _)] ⟨rfl, trivial⟩ ?_)
    | (refine ok_region (i := 5) ?_; refine ok_p rfl rfl rfl (by exact ps_move rfl rfl) ?_; refine ok_m rfl rfl rfl (by exact ms_w1 (fun _ _ _ h => h) rfl rfl (fun _ _ w hw => byte_c g A c bs _ _ (by omega) hr hw)) ?_; rintro y18 hy18; refine ok_p rfl rfl rfl (by exact ps_assign rfl rfl) ?_; refine ok_nil ?_; refine ok_env [(0, _), (1, _), (5, _)] ⟨rfl, rfl, rfl, trivial⟩ ?_)
    | (refine ok_region (i := 6) ?_; refine ok_p rfl rfl rfl (by exact ps_move rfl rfl) ?_; refine ok_m rfl rfl rfl (by exact ms_w1 (fun _ _ _ h => h) rfl rfl (fun _ _ w hw => byte_c g A c bs _ _ (by omega) hr hw)) ?_; rintro y20 hy20; refine ok_p rfl rfl rfl (by exact ps_assign rfl rfl) ?_; refine ok_nil ?_; refine ok_env [(0, _), (1, _), (5, _), (6, _)] ⟨rfl, rfl, rfl, rfl, trivial⟩ ?_)
    | (refine ok_region (i := 7) ?_; refine ok_p rfl rfl rfl (by exact ps_move rfl rfl) ?_; refine ok_m rfl rfl rfl (by exact ms_w1 (fun _ _ _ h => h) rfl rfl (fun _ _ w hw => byte_c g A c bs _ _ (by omega) hr hw)) ?_; rintro y22 hy22; refine ok_p rfl rfl rfl (by exact ps_assign rfl rfl) ?_; refine ok_nil ?_; refine ok_env [(0, _), (1, _), (5, _), (6, _), (7, _)] ⟨rfl, rfl, rfl, rfl, rfl, trivial⟩ ?_)
    | (refine ok_region (i := 8) ?_; refine ok_p rfl rfl rfl (by exact ps_move rfl rfl) ?_; refine ok_m rfl rfl rfl (by exact ms_w1 (fun _ _ _ h => h) rfl rfl (fun _ _ w hw => byte_c g A c bs _ _ (by omega) hr hw)) ?_; rintro y24 hy24; refine ok_p rfl rfl rfl (by exact ps_assign rfl rfl) ?_; refine ok_nil ?_; refine ok_env [(1, _), (5, _), (6, _), (7, _), (8, _)] ⟨rfl, rfl, rfl, rfl, rfl, trivial⟩ ?_)
    | (refine ok_region (i := 9) ?_; refine ok_p rfl rfl rfl (by exact ps_move rfl rfl) ?_; refine ok_p rfl rfl rfl (by exact ps_mul rfl rfl rfl (by omega)) ?_; refine ok_p rfl rfl rfl (by exact ps_move rfl rfl) ?_; refine ok_p rfl rfl rfl (by exact ps_mul rfl rfl rfl (by omega)) ?_; refine ok_p rfl rfl rfl (by exact ps_add rfl rfl rfl (by omega)) ?_; refine ok_p rfl rfl rfl (by exact ps_move rfl rfl) ?_; refine ok_p rfl rfl rfl (by exact ps_mul rfl rfl rfl (by omega)) ?_; refine ok_p rfl rfl rfl (by exact ps_add rfl rfl rfl (by omega)) ?_; refine ok_p rfl rfl rfl (by exact ps_move rfl rfl) ?_; refine ok_p rfl rfl rfl (by exact ps_add rfl rfl rfl (by omega)) ?_; refine ok_p rfl rfl rfl (by exact ps_move rfl rfl) ?_; refine ok_p rfl rfl rfl (by exact ps_rem rfl rfl rfl (by omega) (by omega)) ?_; refine ok_p rfl rfl rfl (by exact ps_assign rfl rfl) ?_; refine ok_nil ?_; refine ok_env [(4, _)] ⟨rfl, trivial⟩ ?_))
  · exfalso; omega
  · refine ok_endL (vs := [_]) rfl ⟨rfl, trivial⟩ (fun w' hw => ?_)
    exact ⟨mkC _ (y14 0).c _ w', rfl, ⟨emod_in _ hn.1, hy14.2⟩, hw⟩
  · refine ok_endL (vs := [_]) rfl ⟨rfl, trivial⟩ (fun w' hw => ?_)
    exact ⟨mkC _ (y24 0).c _ w', rfl, ⟨emod_in _ hn.1, hy24.2⟩, hw⟩
theorem once_c (g : Nat) (A : Option Addr) (c : Nat) (bs : List UInt8) (i : Nat) (h : Int) (n : Int) (hn : 0 < n ∧ n ≤ 9223372036854775807) (hi : i ≤ bs.length) {base : Nat} {w0 w : World} {H : List HObj} {G : List World} (hr : CodeR A bs G) (hw : WOk base w0 (cur g A bs.length c i h :: H) G w) :
    Calls Try.prog 74 #[pt (ga g) 0, .int .i64 n] w fun e w' => ∃ y : Ys, e = .returned (.bool (decide ((y 0).n = 0))) ∧ (y 0).c ≤ bs.length ∧ WOk base w0 (cur g A bs.length c (y 0).c (y 1).n :: H) G w' := by
  refine ok_enterW 9 Try.func74 rfl rfl rfl hw ?_
  repeat' (first
    | refine ok_seq ?_
    | refine ok_then ?_
    | refine ok_ret ?_
    | (refine ok_region (i := 0) ?_; refine ok_p rfl rfl rfl (by exact ps_assign rfl rfl) ?_; refine ok_nil ?_; refine ok_env [(0, _), (1, _)] ⟨rfl, rfl, trivial⟩ ?_)
    | (refine ok_region (i := 1) ?_; refine ok_p rfl rfl rfl (by exact ps_move rfl rfl) ?_; refine ok_p rfl rfl rfl (by exact ps_move rfl rfl) ?_; refine ok_m rfl rfl rfl (by exact ms_w2 (fun _ _ _ h => h) rfl rfl rfl (fun _ _ w hw => below_c g A c bs _ _ n hn (by omega) hr hw)) ?_; rintro y7 hy7; refine ok_p rfl rfl rfl (by exact ps_int rfl rfl rfl rfl) ?_; refine ok_p rfl rfl rfl (by exact ps_assign rfl rfl) ?_; refine ok_nil ?_; refine ok_env [(4, _)] ⟨rfl, trivial⟩ ?_))
  refine ok_endL (vs := [_]) rfl ⟨rfl, trivial⟩ (fun w' hw => ?_)
  exact ⟨mkC (y7 0).n (y7 0).c (y7 1).n w', rfl, hy7.2, hw⟩
/-- The state of a text that is drawn. -/
structure TxI (most : Nat) (m : Nat) where
  k : Int
  n : Nat
  L : List UInt8
  B : Option Addr
  d : Nat
  i : Nat
  h : Int
  hn : n = L.length
  hk : (n : Int) + k ≤ most ∧ 0 ≤ k
  hi : i ≤ m
theorem text_c (g : Nat) (A : Option Addr) (c : Nat) (bs : List UInt8) (i : Nat) (h : Int) (most : Nat) (hn : most ≤ 1000) (hi : i ≤ bs.length) {base : Nat} {w0 w : World} {H : List HObj} {G : List World} (hr : CodeR A bs G) (hw : WOk base w0 (cur g A bs.length c i h :: H) G w) :
    Calls Try.prog 92 #[pt (ga g) 0, .int .i64 most] w fun e w' => ∃ y : Ys, e = .returned (.string (yS (y 0))) ∧ ((yS (y 0)).size ≤ most ∧ (y 0).c ≤ bs.length) ∧ WOk base w0 (cur g A bs.length c (y 0).c (y 1).n :: H) G w' := by
  refine ok_enterW 38 Try.func92 rfl rfl rfl hw ?_
  repeat' (first
    | refine ok_seq ?_
    | refine ok_then ?_
    | refine ok_block ?_
    | (refine ok_region (i := 0) ?_; refine ok_p rfl rfl rfl (by exact ps_assign rfl rfl) ?_; refine ok_nil ?_; refine ok_env [(0, _), (1, _)] ⟨rfl, rfl, trivial⟩ ?_)
    | (refine ok_region (i := 1) ?_; refine ok_m rfl rfl rfl (by exact ms_lit rfl parts_nil rfl rfl rfl) ?_; rintro y9 hy9; refine ok_p rfl rfl rfl (by exact ps_assign rfl rfl) ?_; refine ok_nil ?_; refine ok_env [(0, _), (1, _), (5, _)] ⟨rfl, rfl, rfl, trivial⟩ ?_)
    | (refine ok_region (i := 2) ?_; refine ok_p rfl rfl rfl (by exact ps_move rfl rfl) ?_; refine ok_m rfl rfl rfl (by exact ms_wr 1 rfl rfl rfl rfl (fun _ _ w hw => below_c g A c bs _ _ 4 (by omega) (by omega) hr hw)) ?_; rintro y11 hy11; refine ok_p rfl rfl rfl (by exact ps_assign rfl rfl) ?_; refine ok_nil ?_; refine ok_env [(0, _), (1, _), (5, _), (6, _)] ⟨rfl, rfl, rfl, rfl, trivial⟩ ?_)
    | (refine ok_region (i := 3) ?_; refine ok_p rfl rfl rfl (by exact ps_move rfl rfl) ?_; refine ok_p rfl rfl rfl (by exact ps_move rfl rfl) ?_; refine ok_p rfl rfl rfl (by exact ps_add rfl rfl rfl (by omega)) ?_; refine ok_m rfl rfl rfl (by exact ms_wr 1 rfl rfl rfl rfl (fun _ _ w hw => below_c g A c bs _ _ ((most : Int) + 1) (by omega) (by omega) hr hw)) ?_; rintro y15 hy15; refine ok_p rfl rfl rfl (by exact ps_assign rfl rfl) ?_; refine ok_nil ?_; refine ok_env [(0, _), (5, _), (6, _), (7, _)] ⟨rfl, rfl, rfl, rfl, trivial⟩ ?_))
  refine ok_loop (ι := TxI most bs.length) (fun q => q.k.toNat) (fun q => ([(0, pt (ga g) 0), (5, .slice q.B q.n q.d), (6, .int .i64 (y11 0).n), (7, .int .i64 q.k)], .row 5 1 q.B q.n q.d (byteVs q.L) :: cur g A bs.length c q.i q.h :: H, _)) ⟨(y15 0).n, 0, [], none, 0, (y15 0).c, (y15 1).n, rfl, by omega, by omega⟩ (fun a w he hw => ⟨⟨(y15 0).n, 0, [], _, _, (y15 0).c, (y15 1).n, rfl, by omega, by omega⟩, he.sub ⟨rfl, rfl, rfl, rfl, trivial⟩, hw⟩) ?_
  rintro ⟨k, n, L, B, d, i2, h2, hnL, hk, hi2⟩
  simp only at hnL hk hi2 ⊢
  repeat' (first
    | refine ok_seq ?_
    | refine ok_then ?_
    | refine ok_block ?_
    | refine ok_in_normal ?_
    | (refine ok_cond rfl (fun hc => ?_) (fun hc => ?_) <;> (have hd := hc; (try simp only [decide_eq_true_eq, decide_eq_false_iff_not, Bool.or_eq_true, Bool.or_eq_false_iff, Bool.and_eq_true, Bool.and_eq_false_iff, Bool.not_eq_true', Bool.not_eq_false', bne_iff_ne, beq_iff_eq, bne_eq_false_iff_eq, beq_eq_false_iff_ne, ne_eq, Bool.not_true, Bool.not_false, Bool.false_eq_true, Bool.true_eq_false, inB_true, inB_false] at hd)))
    | refine ok_ret ?_
    | refine ok_exit ?_
    | refine ok_skip ?_
    | (refine ok_region (i := 4) ?_; refine ok_p rfl rfl rfl (by exact ps_move rfl rfl) ?_; refine ok_p rfl rfl rfl (by exact ps_int rfl rfl rfl rfl) ?_; refine ok_nil ?_; refine ok_env [(0, _), (5, _), (6, _), (7, _), (17, _)] ⟨rfl, rfl, rfl, rfl, rfl, trivial⟩ ?_)
    | (refine ok_region (i := 5) ?_; refine ok_p rfl rfl rfl (by exact ps_move rfl rfl) ?_; refine ok_p rfl rfl rfl (by exact ps_sub rfl rfl rfl (by omega)) ?_; refine ok_p rfl rfl rfl (by exact ps_assign rfl rfl) ?_; refine ok_nil ?_; refine ok_env [(0, _), (5, _), (6, _), (7, _)] ⟨rfl, rfl, rfl, rfl, trivial⟩ ?_)
    | (refine ok_region (i := 6) ?_; refine ok_p rfl rfl rfl (by exact ps_move rfl rfl) ?_; refine ok_m rfl rfl rfl (by exact ms_wr 1 rfl rfl rfl rfl (fun _ _ w hw => byte_c g A c bs _ _ (by omega) hr hw)) ?_; rintro y21 hy21; refine ok_p rfl rfl rfl (by exact ps_assign rfl rfl) ?_; refine ok_nil ?_; refine ok_env [(0, _), (5, _), (6, _), (7, _), (8, _)] ⟨rfl, rfl, rfl, rfl, rfl, trivial⟩ ?_)
    | (refine ok_region (i := 7) ?_; refine ok_p rfl rfl rfl (by exact ps_move rfl rfl) ?_; refine ok_p rfl rfl rfl (by exact ps_int rfl rfl rfl rfl) ?_; refine ok_nil ?_; refine ok_env [(0, _), (5, _), (6, _), (7, _), (8, _), (23, _)] ⟨rfl, rfl, rfl, rfl, rfl, rfl, trivial⟩ ?_)
    | (refine ok_region (i := 8) ?_; refine ok_p rfl rfl rfl (by exact ps_move rfl rfl) ?_; refine ok_p rfl rfl rfl (by exact ps_rem rfl rfl rfl (by omega) (by omega)) ?_; refine ok_p rfl rfl rfl (by exact ps_assign rfl rfl) ?_; refine ok_nil ?_; refine ok_env [(0, _), (5, _), (6, _), (7, _), (8, _)] ⟨rfl, rfl, rfl, rfl, rfl, trivial⟩ ?_)
    | (refine ok_region (i := 9) ?_; refine ok_p rfl rfl rfl (by exact ps_move rfl rfl) ?_; refine ok_p rfl rfl rfl (by exact ps_int rfl rfl rfl rfl) ?_; refine ok_nil ?_; refine ok_env [(0, _), (5, _), (6, _), (7, _), (8, _), (27, _)] ⟨rfl, rfl, rfl, rfl, rfl, rfl, trivial⟩ ?_)
    | (refine ok_region (i := 10) ?_; refine ok_p rfl rfl rfl (by exact ps_move rfl rfl) ?_; refine ok_p rfl rfl rfl (by exact ps_rem rfl rfl rfl (by omega) (by omega)) ?_; refine ok_p rfl rfl rfl (by exact ps_add rfl rfl rfl (by omega)) ?_; refine ok_p rfl rfl rfl (by exact ps_assign rfl rfl) ?_; refine ok_nil ?_; refine ok_env [(0, _), (5, _), (6, _), (7, _), (8, _)] ⟨rfl, rfl, rfl, rfl, rfl, trivial⟩ ?_)
    | (refine ok_region (i := 11) ?_; refine ok_p rfl rfl rfl (by exact ps_move rfl rfl) ?_; refine ok_p rfl rfl rfl (by exact ps_move rfl rfl) ?_; refine ok_p rfl rfl rfl (by exact ps_convI rfl rfl (by omega)) ?_; refine ok_m rfl rfl rfl (by exact ms_lit rfl (parts_cons rfl parts_nil) rfl rfl rfl) ?_; rintro y34 hy34; refine ok_m rfl rfl rfl (by exact ms_app (m := 1) 1 rfl rfl rfl rfl (rds_row 0 rfl) rfl (one1 rfl) (by omega) (by omega)) ?_; rintro y35 hy35; refine ok_p rfl rfl rfl (by exact ps_assign rfl rfl) ?_; refine ok_nil ?_; refine ok_env [(0, _), (5, _), (6, _), (7, _)] ⟨rfl, rfl, rfl, rfl, trivial⟩ ?_)
    | (refine ok_region (i := 12) ?_; refine ok_p rfl rfl rfl (by exact ps_move rfl rfl) ?_; refine ok_p rfl rfl rfl (by exact ps_str_of rfl rfl (rds_row 0 rfl) hnL) ?_; refine ok_p rfl rfl rfl (by exact ps_assign rfl rfl) ?_; refine ok_nil ?_; refine ok_env [(4, _)] ⟨rfl, trivial⟩ ?_))
  all_goals first
    | (refine ok_endL (vs := [_]) rfl ⟨rfl, trivial⟩ (fun w' hw => ?_)
       exact ⟨mkS ⟨L.toArray⟩ i2 h2 w', rfl, ⟨by show L.toArray.size ≤ most; simp; omega, hi2⟩, hw.tl⟩)
    | (refine fun a w' he hw => ⟨⟨k - 1, n + 1, L ++ [UInt8.ofNat ((y21 0).n).toNat], (y35 0).A, (y35 0).c, (y21 0).c, (y21 1).n, by simp; omega, by omega, by omega⟩, by simp only; omega, he.sub ⟨rfl, rfl, rfl, rfl, trivial⟩, ?_⟩
       simp only [bvs1]
       exact hw.tl)
    | (refine fun a w' he hw => ⟨⟨k - 1, n + 1, L ++ [UInt8.ofNat ((y21 0).n % 2).toNat], (y35 0).A, (y35 0).c, (y21 0).c, (y21 1).n, by simp; omega, by omega, by omega⟩, by simp only; omega, he.sub ⟨rfl, rfl, rfl, rfl, trivial⟩, ?_⟩
       simp only [bvs1]
       exact hw.tl)
    | (refine fun a w' he hw => ⟨⟨k - 1, n + 1, L ++ [UInt8.ofNat (97 + (y21 0).n % 4).toNat], (y35 0).A, (y35 0).c, (y21 0).c, (y21 1).n, by simp; omega, by omega, by omega⟩, by simp only; omega, he.sub ⟨rfl, rfl, rfl, rfl, trivial⟩, ?_⟩
       simp only [bvs1]
       exact hw.tl)
    | (refine fun a w' he hw => ⟨⟨k - 1, n + 1, L ++ [UInt8.ofNat (97 + (y21 0).n % 2 % 4).toNat], (y35 0).A, (y35 0).c, (y21 0).c, (y21 1).n, by simp; omega, by omega, by omega⟩, by simp only; omega, he.sub ⟨rfl, rfl, rfl, rfl, trivial⟩, ?_⟩
       simp only [bvs1]
       exact hw.tl)
end Go.Proofs.Ytbegbdfbfbkflaa
/- The laws over a code of bytes: what they begin with. -/
namespace Go.Proofs.Ytbegbdfbfbkflaa
open Go.RowKit
set_option maxHeartbeats 4000000
set_option maxRecDepth 20000
set_option linter.unusedVariables false
set_option linter.unusedSimpArgs false
attribute [local irreducible] Calls
theorem flatU8 : FlatAt .u8 (α := UInt8) (fun x => x) (fun _ => True) := fun w x c h => ⟨RdT.u8.1 h, trivial⟩
abbrev gCode : GT := .sl 5 .u8
theorem code_open {w : World} {v : Value} {x : gCode.den} (hx : RdT w gCode x [v]) : ∃ (A : Option Addr) (c : Nat) (l : List UInt8), v = .slice A l.length c ∧ Rd w A (fl l) := by
  obtain ⟨A, c, l, e, _, h, _⟩ := flat_sl flatU8 hx
  exact ⟨A, c, l, by simpa using e, h⟩
theorem big_c (A : Option Addr) (c n : Nat) (w : World) : Calls Try.prog 11 #[.slice A n c] w fun e w' => e = .returned (.bool (decide (1048576 < (n : Int)))) ∧ Below w.heap.size w w' := by
  refine ok_enter 6 Try.func11 rfl rfl rfl ?_
  repeat' (first
    | refine ok_seq ?_
    | refine ok_then ?_
    | refine ok_then_ret ?_
    | refine ok_then_exit ?_
    | refine ok_block ?_
    | refine ok_in_normal ?_
    | refine ok_in_ret ?_
    | refine ok_in_exit ?_
    | refine ok_in_other rfl ?_
    | (refine ok_cond rfl (fun hc => ?_) (fun hc => ?_) <;> (have hd := hc; (try simp only [decide_eq_true_eq, decide_eq_false_iff_not, Bool.or_eq_true, Bool.or_eq_false_iff, Bool.and_eq_true, Bool.and_eq_false_iff, Bool.not_eq_true', Bool.not_eq_false', bne_iff_ne, beq_iff_eq, bne_eq_false_iff_eq, beq_eq_false_iff_ne, ne_eq, Bool.not_true, Bool.not_false, Bool.false_eq_true, Bool.true_eq_false, inB_true, inB_false] at hd)))
    | refine ok_ret ?_
    | refine ok_exit ?_
    | refine ok_skip ?_
    | (refine ok_region (i := 0) ?_; refine ok_p rfl rfl rfl (by exact ps_assign rfl rfl) ?_; refine ok_nil ?_; refine ok_env [(0, _)] ⟨rfl, trivial⟩ ?_)
    | (refine ok_region (i := 1) ?_; refine ok_p rfl rfl rfl (by exact ps_move rfl rfl) ?_; refine ok_p rfl rfl rfl (by exact ps_len rfl rfl) ?_; refine ok_p rfl rfl rfl (by exact ps_int rfl rfl rfl rfl) ?_; refine ok_p rfl rfl rfl (by exact ps_assign rfl rfl) ?_; refine ok_nil ?_; refine ok_env [(2, _)] ⟨rfl, trivial⟩ ?_))
  exact ok_endL (vs := [_]) rfl ⟨rfl, trivial⟩ (fun w' hw => ⟨rfl, hw.below⟩)
end Go.Proofs.Ytbegbdfbfbkflaa
/- Maps and their changes drawn. -/
namespace Go.Proofs.Ytbegbdfbfbkflaa
open Go.RowKit
set_option maxHeartbeats 4000000
set_option maxRecDepth 20000
set_option linter.unusedVariables false
set_option linter.unusedSimpArgs false
attribute [local irreducible] Calls
structure Opp where
  key : ByteArray
  del : Bool
  val : ByteArray
  deriving DecidableEq
instance : Dat Opp := ⟨3, fun x => [.string x.key, .bool x.del, .string x.val], fun _ => rfl, ⟨⟨#[]⟩, false, ⟨#[]⟩⟩⟩
instance : OneC Opp := ⟨fun x u hu => by
  have : u = .string x.key ∨ u = .bool x.del ∨ u = .string x.val := by simpa [Dat.cells] using hu
  rcases this with rfl | rfl | rfl <;> rfl⟩
instance : Enc Opp := ⟨fun x => .agg #[.string x.key, .bool x.del, .string x.val], fun v => ⟨asS ((asL v).getD 0 (.bool false)), asB ((asL v).getD 1 (.bool false)), asS ((asL v).getD 2 (.bool false))⟩, fun _ => rfl⟩
instance : Enc KV := ⟨fun x => .agg #[.string x.key, .string x.val], fun v => ⟨asS ((asL v).getD 0 (.bool false)), asS ((asL v).getD 1 (.bool false))⟩, fun _ => rfl⟩
theorem isw_rdsK {H : List HObj} {G : List World} {A : Option Addr} {us : List Value} (h : Rds H G A us) (hl : 0 < us.length) : IsSW H G A := fun base w0 w hw => isS_rd (h base w0 w hw) hl
theorem rds_tlK {H : List HObj} {G : List World} {A : Option Addr} {us : List Value} (x : HObj) (h : Rds H G A us) : Rds (x :: H) G A us := fun base w0 w hw => h base w0 w hw.tl
/-- Small texts. -/
def tFew (L : List ByteArray) (m : Nat) : Prop := ∀ u ∈ L, u.size ≤ m
def opFew (L : List Opp) (n m : Nat) : Prop := L.length ≤ n ∧ ∀ u ∈ L, u.key.size ≤ m ∧ u.val.size ≤ m
def kvFew (L : List KV) (n m : Nat) : Prop := L.length ≤ n ∧ ∀ u ∈ L, u.key.size ≤ m ∧ u.val.size ≤ m
theorem pickS_c (g : Nat) (A : Option Addr) (c : Nat) (bs : List UInt8) (i : Nat) (h : Int) (L : List ByteArray) (B : Option Addr) (d : Nat) (h0 : 0 < L.length ∧ L.length ≤ 1048576) (hi : i ≤ bs.length) {base : Nat} {w0 w : World} {H : List HObj} {G : List World} (hr : CodeR A bs G) (hL : Rds H G B (fl L)) (hw : WOk base w0 (cur g A bs.length c i h :: H) G w) :
    Calls Try.prog 76 #[pt (ga g) 0, .slice B L.length d] w fun e w' => ∃ y : Ys, e = .returned (.string (nth L (y 0).n.toNat)) ∧ ((0 ≤ (y 0).n ∧ (y 0).n < L.length) ∧ (y 0).c ≤ bs.length) ∧ WOk base w0 (cur g A bs.length c (y 0).c (y 1).n :: H) G w' := by
  have hz : 0 < (fl L).length := by rw [fl_len]; show 0 < L.length * 1; omega
  refine ok_enterW 12 Try.func76 rfl rfl rfl hw ?_
  repeat' (first
    | refine ok_seq ?_
    | refine ok_then ?_
    | refine ok_ret ?_
    | (refine ok_region (i := 0) ?_; refine ok_p rfl rfl rfl (by exact ps_assign rfl rfl) ?_; refine ok_nil ?_; refine ok_env [(0, _), (1, _)] ⟨rfl, rfl, trivial⟩ ?_)
    | (refine ok_region (i := 1) ?_; refine ok_p rfl rfl rfl (by exact ps_move rfl rfl) ?_; refine ok_p rfl rfl rfl (by exact ps_move rfl rfl) ?_; refine ok_p rfl rfl rfl (by exact ps_move rfl rfl) ?_; refine ok_p rfl rfl rfl (by exact ps_len rfl rfl) ?_; refine ok_m rfl rfl rfl (by exact ms_wr 0 rfl rfl rfl rfl (fun _ _ w hw => below_c g A c bs _ _ (L.length : Int) (by omega) (by omega) hr hw)) ?_; rintro y9 hy9; refine ok_p rfl rfl rfl (by exact ps_index rfl rfl rfl (by omega) (isw_rdsK (rds_tlK _ hL) hz)) ?_; refine ok_p rfl rfl rfl (by exact ps_load rfl rfl (Rds.cell (rds_tlK _ hL) (fl_at0 L (y9 0).n.toNat (by omega) (by decide)))) ?_; refine ok_p rfl rfl rfl (by exact ps_assign rfl rfl) ?_; refine ok_nil ?_; refine ok_env [(4, _)] ⟨rfl, trivial⟩ ?_))
  refine ok_endL (vs := [_]) rfl ⟨rfl, trivial⟩ (fun w' hw => ?_)
  exact ⟨y9, rfl, hy9, hw⟩
theorem pick_le {L : List ByteArray} {m : Nat} (h : tFew L m) {i : Nat} (hi : i < L.length) : (nth L i).size ≤ m := h _ (nth_mem L i hi)
theorem l7Key_c (g : Nat) (A : Option Addr) (c : Nat) (bs : List UInt8) (i : Nat) (h : Int) (hi : i ≤ bs.length) {base : Nat} {w0 w : World} {H : List HObj} {G : List World} (hr : CodeR A bs G) (hw : WOk base w0 (cur g A bs.length c i h :: H) G w) :
    Calls Try.prog 109 #[pt (ga g) 0] w fun e w' => ∃ y : Ys, e = .returned (.string (yS (y 0))) ∧ ((yS (y 0)).size ≤ 3 ∧ (y 0).c ≤ bs.length) ∧ WOk base w0 (cur g A bs.length c (y 0).c (y 1).n :: H) G w' := by
  have ht : tFew [⟨#[97]⟩, ⟨#[98]⟩, ⟨#[97, 98]⟩, ⟨#[97, 98, 99]⟩, ⟨#[98, 48]⟩, ⟨#[99]⟩, ⟨#[0]⟩, ⟨#[122, 122]⟩] 3 := by intro u hu; revert u; decide
  have HT := Lib.hid ht; clear ht
  refine ok_enterW 6 Try.func109 rfl rfl rfl hw ?_
  repeat' (first
    | refine ok_seq ?_
    | refine ok_then ?_
    | refine ok_ret ?_
    | (refine ok_region (i := 0) ?_; refine ok_p rfl rfl rfl (by exact ps_assign rfl rfl) ?_; refine ok_nil ?_; refine ok_env [(0, _)] ⟨rfl, trivial⟩ ?_)
    | (refine ok_region (i := 1) ?_; refine ok_p rfl rfl rfl (by exact ps_move rfl rfl) ?_; refine ok_m rfl rfl rfl (by exact ms_lit rfl (parts_cons rfl (parts_cons rfl (parts_cons rfl (parts_cons rfl (parts_cons rfl (parts_cons rfl (parts_cons rfl (parts_cons rfl parts_nil)))))))) rfl rfl rfl) ?_; rintro y4 hy4; refine ok_m rfl rfl rfl (by exact ms_wr 1 rfl rfl rfl rfl (fun _ _ w hw => pickS_c g A c bs _ _ [⟨#[97]⟩, ⟨#[98]⟩, ⟨#[97, 98]⟩, ⟨#[97, 98, 99]⟩, ⟨#[98, 48]⟩, ⟨#[99]⟩, ⟨#[0]⟩, ⟨#[122, 122]⟩] _ _ (by simp) (by omega) hr (rds_row 0 rfl) hw)) ?_; rintro y5 hy5; refine ok_p rfl rfl rfl (by exact ps_assign rfl rfl) ?_; refine ok_nil ?_; refine ok_env [(2, _)] ⟨rfl, trivial⟩ ?_))
  refine ok_endL (vs := [_]) rfl ⟨rfl, trivial⟩ (fun w' hw => ?_)
  refine ⟨mkS (nth [⟨#[97]⟩, ⟨#[98]⟩, ⟨#[97, 98]⟩, ⟨#[97, 98, 99]⟩, ⟨#[98, 48]⟩, ⟨#[99]⟩, ⟨#[0]⟩, ⟨#[122, 122]⟩] (y5 0).n.toNat) (y5 0).c (y5 1).n w', rfl, ⟨?_, hy5.2⟩, hw.tl⟩
  rw [yS_mk]
  exact pick_le HT.out (by have := hy5.1; simp only [List.length_cons, List.length_nil] at this ⊢; omega)
/-- One batch. -/
structure BtA (m : Nat) where
  n : Nat
  L : List Opp
  B : Option Addr
  d : Nat
  i : Nat
  h : Int
  hi : i ≤ m ∧ n + L.length ≤ 4 ∧ 1 ≤ n + L.length
  hf : opFew L 4 20
structure ApA (n m : Nat) where
  k : Nat
  L : List KV
  B : Option Addr
  d : Nat
  hk : k ≤ m
  hf : kvFew L (n + k) 20
structure MpA (m : Nat) where
  n : Nat
  L : List KV
  B : Option Addr
  d : Nat
  i : Nat
  h : Int
  hi : i ≤ m ∧ n ≤ 4
  hf : kvFew L (8 * (4 - n)) 20
end Go.Proofs.Ytbegbdfbfbkflaa
