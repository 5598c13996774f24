/- DiffMap of both programs. -/
import Derived.Test.YtbegbdfbfbkflaaDlt2
import Derived.Test.YtbegbdfbfbkflaaBtKVS
import Derived.Test.YtbegbdfbfbkflaaCgs
namespace Go.Proofs.Ytbegbdfbfbkflaa
open Go.RowKit
set_option maxHeartbeats 4000000
set_option maxRecDepth 20000
set_option linter.unusedVariables false
set_option linter.unusedSimpArgs false
theorem fnd_lt {l : List KV} {k : ByteArray} (h : fndK l k = true) : lbK l k < l.length := by
  unfold fndK at h
  simp at h
  omega
theorem atK_lt (l : List KV) (k : ByteArray) : ∀ f i, i + f = l.length → atK l k f i < l.length ∧ -1 ≤ atK l k f i
  | 0, i, h => by simp only [atK]; omega
  | f + 1, i, h => by
    unfold atK
    split
    · omega
    · exact atK_lt l k f (i + 1) (by omega)
theorem atK_at (l : List KV) (k : ByteArray) (q : Nat) (hq : q < l.length) (he : sEq (keyAt l q) k = true) : ∀ f i, i + f = l.length → i ≤ q → (∀ j, i ≤ j → j < q → sEq (keyAt l j) k = false) → atK l k f i = q
  | 0, i, h, hi, hn => by omega
  | f + 1, i, h, hi, hn => by
    unfold atK
    rcases Nat.eq_or_lt_of_le hi with rfl | h2
    · rw [if_pos (show sEq (nth l i).key k = true from he)]
    · have := hn i (Nat.le_refl _) h2
      rw [if_neg (by rw [show (nth l i).key = keyAt l i from rfl, this]; simp)]
      exact atK_at l k q hq he f (i + 1) (by omega) (by omega) (fun j a b => hn j (by omega) b)
theorem lb_at {l : List KV} {k : ByteArray} (hf : fndK l k = true) : atK l k l.length 0 = lbK l k := by
  have hlt := fnd_lt hf
  have he : sEq (keyAt l (lbK l k)) k = true := by
    unfold fndK at hf
    rw [Bool.and_eq_true] at hf
    exact hf.2
  refine atK_at l k (lbK l k) hlt he l.length 0 (by omega) (Nat.zero_le _) (fun j _ hj => ?_)
  have h1 := tw_nth (fun x => sLt x.key k) l j hj
  cases h2 : sEq (keyAt l j) k with
  | false => rfl
  | true =>
    have := sEq_eq h2
    have h3 : sLt (keyAt l j) k = true := h1
    rw [this, sLt_irrefl] at h3
    cases h3
def putQ (a : List KV) (x : KV) : Bool := !fndK a x.key || !sEq (nth a (lbK a x.key)).val x.val
def delQ (b : List KV) (x : KV) : Bool := !fndK b x.key
def fDiffMap (a b : List KV) : DDelta := bif mapOk a && mapOk b then ⟨b.filter (putQ a), (a.filter (delQ b)).map (·.key)⟩ else ⟨[], []⟩
theorem takeK {R : List KV} {j : Nat} (h : j < R.length) : R.take (j + 1) = R.take j ++ [nth R j] := by
  rw [List.take_add_one, List.getElem?_eq_getElem h]
  simp [nth, h]
theorem put_step {a b : List KV} {k : Nat} (h : k < b.length) : (b.take (k + 1)).filter (putQ a) = if putQ a (nth b k) = true then (b.take k).filter (putQ a) ++ [nth b k] else (b.take k).filter (putQ a) := by
  rw [takeK h, List.filter_append]
  cases hh : putQ a (nth b k) <;> simp [hh]
theorem fnd_dec {l : List KV} (hs : sortedK l) (k : ByteArray) : fndK l k = decide (0 ≤ atK l k l.length 0) := fndK_at hs k
theorem put_eq {a : List KV} (hs : sortedK a) (x : KV) : putQ a x = (decide (atK a x.key a.length 0 < 0) || !sEq (nth a (atK a x.key a.length 0).toNat).val x.val) := by
  unfold putQ
  cases hf : fndK a x.key with
  | true =>
    have h1 := lb_at hf
    rw [h1, Int.toNat_natCast, show decide (((lbK a x.key : Nat) : Int) < 0) = false by simp]; rfl
  | false =>
    have := fnd_dec hs x.key
    rw [hf] at this
    have h2 : atK a x.key a.length 0 < 0 := by
      have := of_decide_eq_false this.symm
      omega
    rw [show decide (atK a x.key a.length 0 < 0) = true by simp; exact h2]; rfl
theorem put_iff {a : List KV} (hs : sortedK a) {x : KV} (h : (decide (atK a x.key a.length 0 < 0) || !sEq (nth a (atK a x.key a.length 0).toNat).val x.val) = true ∨ False) : putQ a x = true := by
  rw [put_eq hs]; exact h.resolve_right id
theorem put_no {a : List KV} (hs : sortedK a) {x : KV} (h : (decide (atK a x.key a.length 0 < 0) || !sEq (nth a (atK a x.key a.length 0).toNat).val x.val) = false) : putQ a x = false := by
  rw [put_eq hs]; exact h
theorem del_eq {b : List KV} (hs : sortedK b) (x : KV) : delQ b x = decide (atK b x.key b.length 0 < 0) := by
  unfold delQ
  rw [fnd_dec hs]
  rw [Bool.eq_iff_iff]
  simp
def delL (b a : List KV) : List ByteArray := (a.filter (delQ b)).map (·.key)
theorem del_step {a b : List KV} {k : Nat} (h : k < a.length) : delL b (a.take (k + 1)) = if delQ b (nth a k) = true then delL b (a.take k) ++ [(nth a k).key] else delL b (a.take k) := by
  unfold delL
  rw [takeK h, List.filter_append]
  cases hh : delQ b (nth a k) <;> simp [hh]
instance : OneC KV := ⟨fun x u hu => by
  have : u = .string x.key ∨ u = .string x.val := by simpa [Dat.cells] using hu
  rcases this with rfl | rfl <;> rfl⟩
instance : OneC ByteArray := ⟨fun x u hu => by
  have : u = .string x := by simpa [Dat.cells] using hu
  subst this; rfl⟩
theorem put_len (a b : List KV) (k : Nat) : ((b.take k).filter (putQ a)).length ≤ b.length := by
  have := List.length_filter_le (putQ a) (b.take k)
  rw [List.length_take] at this; omega
theorem del_len (a b : List KV) (k : Nat) : (delL b (a.take k)).length ≤ a.length := by
  unfold delL
  have := List.length_filter_le (delQ b) (a.take k)
  rw [List.length_take] at this; rw [List.length_map]; omega
structure DfI (n : Nat) where
  k : Nat
  A : Option Addr
  c : Nat
  hk : k ≤ n
attribute [local irreducible] Calls
theorem own_nilD (n : Nat) (w : World) : NewOk n (Delta_obj ⟨[], []⟩ (mkY none 0 w)) [] w :=
  ⟨fun x hx => by
    simp only [Delta_obj, mkY, List.mem_cons, List.not_mem_nil, or_false] at hx
    rcases hx with rfl | rfl
    · exact Own.nil w n 67 2
    · exact Own.nil w n 9 1, by simp [Delta_obj, HObj.apart, HObj.has, blk, mkY], fun m h => by cases h⟩
theorem s_DiffMap0 (A0 A1 : Option Addr) (c0 c1 : Nat) (a b : List KV) (w : World) (h0 : Rd w A0 (fl a)) (h1 : Rd w A1 (fl b)) (m0 : a.length ≤ 1048576) (m1 : b.length ≤ 1048576) :
    Calls Try.prog 177 #[.slice A0 a.length c0, .slice A1 b.length c1] w fun e w' => ∃ y : Ys, e = .returned (Delta_val (fDiffMap a b) y) ∧ True ∧ Below w.heap.size w w' ∧ NewOk w.heap.size (Delta_obj (fDiffMap a b) y) [] w' := by
  refine ok_enter 81 Try.func177 rfl rfl rfl ?_
  repeat' (first
    | refine ok_seq ?_
    | refine ok_then ?_
    | refine ok_then_ret ?_
    | refine ok_block ?_
    | (refine ok_cond rfl (fun hc => ?_) (fun hc => ?_) <;> (have hd := hc; (try simp only [decide_eq_true_eq, decide_eq_false_iff_not, Bool.or_eq_true, Bool.or_eq_false_iff, Bool.and_eq_true, Bool.and_eq_false_iff, Bool.not_eq_true', Bool.not_eq_false', bne_iff_ne, beq_iff_eq, bne_eq_false_iff_eq, beq_eq_false_iff_ne, ne_eq, Bool.not_true, Bool.not_false, Bool.false_eq_true, Bool.true_eq_false, inB_true, inB_false] at hd)))
    | refine ok_ret ?_
    | refine ok_skip ?_
    | (refine ok_region (i := 0) ?_; refine ok_m rfl rfl rfl (by exact ms_alloc rfl) ?_; rintro y4 hy4; refine ok_nil ?_; refine ok_env [(0, _), (1, _), (4, _)] ⟨rfl, rfl, rfl, trivial⟩ ?_)
    | (refine ok_region (i := 1) ?_; refine ok_p rfl rfl rfl (by exact ps_bld rfl parts_nil rfl) ?_; refine ok_m rfl rfl rfl (by exact ms_alloc rfl) ?_; rintro y5 hy5; refine ok_m_ rfl rfl (by exact ms_store 0 rfl rfl rfl rfl rfl rfl rfl rfl) ?_; rintro y_ hy_; refine ok_nil ?_; refine ok_env [(0, _), (1, _), (4, _), (5, _)] ⟨rfl, rfl, rfl, rfl, trivial⟩ ?_)
    | (refine ok_region (i := 2) ?_; refine ok_p rfl rfl rfl (by exact ps_move rfl rfl) ?_; refine ok_m rfl rfl rfl (by exact ms_s1 rfl rfl (fun _ _ w hw => s_MapOk A0 _ a w (rds_rf h0 (by exact List.mem_cons_self) _ _ w hw) m0)) ?_; rintro y11 hy11; refine ok_p rfl rfl rfl (by exact ps_not rfl rfl) ?_; refine ok_p rfl rfl rfl (by exact ps_move rfl rfl) ?_; refine ok_pg rfl rfl rfl rfl rfl (gF _) (fun hp => by (have hpd := hp; (try simp only [decide_eq_true_eq, decide_eq_false_iff_not, Bool.or_eq_true, Bool.or_eq_false_iff, Bool.and_eq_true, Bool.and_eq_false_iff, Bool.not_eq_true', Bool.not_eq_false', bne_iff_ne, beq_iff_eq, bne_eq_false_iff_eq, beq_eq_false_iff_ne, ne_eq, Bool.not_true, Bool.not_false, Bool.false_eq_true, Bool.true_eq_false, inB_true, inB_false] at hpd); exact ps_move rfl (by exact rfl))) ?_; refine ok_mg rfl rfl rfl rfl rfl (gF _) (fun hp => by (have hpd := hp; (try simp only [decide_eq_true_eq, decide_eq_false_iff_not, Bool.or_eq_true, Bool.or_eq_false_iff, Bool.and_eq_true, Bool.and_eq_false_iff, Bool.not_eq_true', Bool.not_eq_false', bne_iff_ne, beq_iff_eq, bne_eq_false_iff_eq, beq_eq_false_iff_ne, ne_eq, Bool.not_true, Bool.not_false, Bool.false_eq_true, Bool.true_eq_false, inB_true, inB_false] at hpd); exact ms_s1 rfl (by (refine og rfl ?_; assumption)) (fun _ _ w hw => s_MapOk A1 _ b w (rds_rf h1 (by exact List.mem_cons_self) _ _ w hw) m1))) ?_; refine ok_pg rfl rfl rfl rfl rfl (gF _) (fun hp => by (have hpd := hp; (try simp only [decide_eq_true_eq, decide_eq_false_iff_not, Bool.or_eq_true, Bool.or_eq_false_iff, Bool.and_eq_true, Bool.and_eq_false_iff, Bool.not_eq_true', Bool.not_eq_false', bne_iff_ne, beq_iff_eq, bne_eq_false_iff_eq, beq_eq_false_iff_ne, ne_eq, Bool.not_true, Bool.not_false, Bool.false_eq_true, Bool.true_eq_false, inB_true, inB_false] at hpd); exact ps_not rfl (by (refine og rfl ?_; assumption)))) ?_; refine ok_p rfl rfl rfl (by exact ps_or rfl rfl rfl) ?_; refine ok_nil ?_; refine ok_env [(0, _), (1, _), (4, _), (5, _), (17, _)] ⟨rfl, rfl, rfl, rfl, rfl, trivial⟩ ?_)
    | (refine ok_region (i := 3) ?_; refine ok_p rfl rfl rfl (by exact ps_loads rfl rfl (by exact rds_box 0 rfl) rfl rfl (by decide)) ?_; refine ok_m_ rfl rfl (by exact ms_store 1 rfl rfl rfl rfl rfl rfl rfl rfl) ?_; rintro y_ hy_; refine ok_nil ?_; refine ok_env [(4, _)] ⟨rfl, trivial⟩ ?_)
    | (refine ok_region (i := 4) ?_; refine ok_p rfl rfl rfl (by exact ps_assign rfl rfl) ?_; refine ok_nil ?_; refine ok_env [(0, _), (1, _), (4, _), (5, _), (6, _)] ⟨rfl, rfl, rfl, rfl, rfl, trivial⟩ ?_))
  · have e : fDiffMap a b = ⟨[], []⟩ := by
      unfold fDiffMap
      rw [show (mapOk a && mapOk b) = false by rcases hd with h | h <;> rw [h] <;> simp]; rfl
    rw [e]
    refine ok_endL (vs := [_]) rfl ⟨⟨_, 1, _, _, _, rfl, rfl, inferInstance, rfl, rfl⟩, trivial⟩ (fun w' hw => ?_)
    exact ⟨mkY none 0 w', rfl, trivial, hw.below, own_nilD _ _⟩
  have e : fDiffMap a b = ⟨b.filter (putQ a), delL b a⟩ := by unfold fDiffMap; rw [hd.1, hd.2]; rfl
  have hsa := sortedK_of hd.1
  have hsb := sortedK_of hd.2
  rw [e]
  clear e hc hd
  refine ok_loop (ι := DfI b.length) (fun q => b.length - q.k) (fun q => ([(0, .slice A0 a.length c0), (1, .slice A1 b.length c1), (4, pt (ga (y4 0).c) 0), (5, pt (ga (y5 0).c) 0), (6, .int .i64 q.k)], [.row 67 2 q.A ((b.take q.k).filter (putQ a)).length q.c (fl ((b.take q.k).filter (putQ a))), .box (y5 0).c 89 [.slice q.A ((b.take q.k).filter (putQ a)).length q.c, .slice none 0 0], _], _)) ⟨0, none, 0, by omega⟩ (fun a w he hw => ⟨⟨0, none, 0, by omega⟩, he.sub ⟨rfl, rfl, rfl, rfl, rfl, trivial⟩, hw.rowNil 67 2⟩) ?_
  rintro ⟨k, A', c', hk⟩
  simp only at hk ⊢
  have hkl := put_len a b k
  have hat := atK_lt a (nth b k).key a.length 0 (by omega)
  repeat' (first
    | refine ok_seq ?_
    | refine ok_then ?_
    | refine ok_block ?_
    | refine ok_in_normal ?_
    | (refine ok_cond rfl (fun hc => ?_) (fun hc => ?_) <;> (have hd := hc; (try simp only [decide_eq_true_eq, decide_eq_false_iff_not, Bool.or_eq_true, Bool.or_eq_false_iff, Bool.and_eq_true, Bool.and_eq_false_iff, Bool.not_eq_true', Bool.not_eq_false', bne_iff_ne, beq_iff_eq, bne_eq_false_iff_eq, beq_eq_false_iff_ne, ne_eq, Bool.not_true, Bool.not_false, Bool.false_eq_true, Bool.true_eq_false, inB_true, inB_false] at hd)))
    | refine ok_exit ?_
    | refine ok_skip ?_
    | (refine ok_region (i := 5) ?_; refine ok_p rfl rfl rfl (by exact ps_move rfl rfl) ?_; refine ok_p rfl rfl rfl (by exact ps_move rfl rfl) ?_; refine ok_p rfl rfl rfl (by exact ps_len rfl rfl) ?_; refine ok_p rfl rfl rfl (by exact ps_int rfl rfl rfl rfl) ?_; refine ok_nil ?_; refine ok_env [(0, _), (1, _), (4, _), (5, _), (6, _), (22, _)] ⟨rfl, rfl, rfl, rfl, rfl, rfl, trivial⟩ ?_)
    | (refine ok_region (i := 6) ?_; refine ok_p rfl rfl rfl (by exact ps_move rfl rfl) ?_; refine ok_p rfl rfl rfl (by exact ps_add rfl rfl rfl (by omega)) ?_; refine ok_p rfl rfl rfl (by exact ps_assign rfl rfl) ?_; refine ok_nil ?_; refine ok_env [(0, _), (1, _), (4, _), (5, _), (6, _)] ⟨rfl, rfl, rfl, rfl, rfl, trivial⟩ ?_)
    | (refine ok_region (i := 7) ?_; refine ok_p rfl rfl rfl (by exact ps_move rfl rfl) ?_; refine ok_p rfl rfl rfl (by exact ps_move rfl rfl) ?_; refine ok_p rfl rfl rfl (by exact ps_move rfl rfl) ?_; refine ok_p rfl rfl rfl (by exact ps_indexN rfl rfl rfl (by omega) (by exact isw_of (isS_fl (by assumption) (by omega)))) ?_; refine ok_p rfl rfl rfl (by exact ps_field rfl rfl (by exact isw_of (isS_fl (by assumption) (by omega)))) ?_; refine ok_p rfl rfl rfl (by exact ps_load rfl rfl (by exact Rds.cell (rds_rf (by assumption) (by exact List.mem_cons_self)) (by exact fl_at0 _ _ (by omega) (by decide)))) ?_; refine ok_m rfl rfl rfl (by exact ms_s2 rfl rfl rfl (fun _ _ w hw => s_l35Val A0 _ a _ w (rds_rf h0 (by exact List.mem_cons_self) _ _ w hw) m0)) ?_; rintro y31 hy31; refine ok_p rfl rfl rfl (by exact ps_assign rfl rfl) ?_; refine ok_nil ?_; refine ok_env [(0, _), (1, _), (4, _), (5, _), (6, _), (7, _)] ⟨rfl, rfl, rfl, rfl, rfl, rfl, trivial⟩ ?_)
    | (refine ok_draw (id := 8) 15 rfl (by kernel_rfl) (by kernel_rfl) rfl (by repeat (first | exact pq_body | refine pq_then ?_ | refine pq_in ?_)) [0, 1, 2, 3, 4, 5, 6, 7, 8, 9, 10, 11, 12, 13, 14, 15, 16, 17, 18, 19, 20, 21, 22, 23] (by decide) rfl ?_; refine okT_take (i := 0) rfl (by kernel_rfl) rfl rfl rfl (by exact ps_move rfl rfl) ?_; refine okT_take (i := 1) rfl (by kernel_rfl) rfl rfl rfl (by exact ps_int rfl rfl rfl rfl) ?_; refine okT_take (i := 2) rfl (by kernel_rfl) rfl rfl rfl (by exact ps_move rfl rfl) ?_; refine okT_take_g1 (i := 3) rfl (by kernel_rfl) rfl rfl rfl rfl rfl (gF _) (fun hp => by (have hpd := hp; (try simp only [decide_eq_true_eq, decide_eq_false_iff_not, Bool.or_eq_true, Bool.or_eq_false_iff, Bool.and_eq_true, Bool.and_eq_false_iff, Bool.not_eq_true', Bool.not_eq_false', bne_iff_ne, beq_iff_eq, bne_eq_false_iff_eq, beq_eq_false_iff_ne, ne_eq, Bool.not_true, Bool.not_false, Bool.false_eq_true, Bool.true_eq_false, inB_true, inB_false] at hpd); exact ps_move rfl (by exact rfl))) ?_; refine okT_take_g1 (i := 4) rfl (by kernel_rfl) rfl rfl rfl rfl rfl (gF _) (fun hp => by (have hpd := hp; (try simp only [decide_eq_true_eq, decide_eq_false_iff_not, Bool.or_eq_true, Bool.or_eq_false_iff, Bool.and_eq_true, Bool.and_eq_false_iff, Bool.not_eq_true', Bool.not_eq_false', bne_iff_ne, beq_iff_eq, bne_eq_false_iff_eq, beq_eq_false_iff_ne, ne_eq, Bool.not_true, Bool.not_false, Bool.false_eq_true, Bool.true_eq_false, inB_true, inB_false] at hpd); exact ps_move rfl (by exact rfl))) ?_; refine okT_take_g1 (i := 5) rfl (by kernel_rfl) rfl rfl rfl rfl rfl (gF _) (fun hp => by (have hpd := hp; (try simp only [decide_eq_true_eq, decide_eq_false_iff_not, Bool.or_eq_true, Bool.or_eq_false_iff, Bool.and_eq_true, Bool.and_eq_false_iff, Bool.not_eq_true', Bool.not_eq_false', bne_iff_ne, beq_iff_eq, bne_eq_false_iff_eq, beq_eq_false_iff_ne, ne_eq, Bool.not_true, Bool.not_false, Bool.false_eq_true, Bool.true_eq_false, inB_true, inB_false] at hpd); exact ps_index rfl (by (refine og rfl ?_; assumption)) (by (refine og rfl ?_; assumption)) (by omega) (by exact isw_of (isS_fl (by assumption) (by omega))))) ?_; refine okT_take_g1 (i := 6) rfl (by kernel_rfl) rfl rfl rfl rfl rfl (gF _) (fun hp => by (have hpd := hp; (try simp only [decide_eq_true_eq, decide_eq_false_iff_not, Bool.or_eq_true, Bool.or_eq_false_iff, Bool.and_eq_true, Bool.and_eq_false_iff, Bool.not_eq_true', Bool.not_eq_false', bne_iff_ne, beq_iff_eq, bne_eq_false_iff_eq, beq_eq_false_iff_ne, ne_eq, Bool.not_true, Bool.not_false, Bool.false_eq_true, Bool.true_eq_false, inB_true, inB_false] at hpd); exact ps_field rfl (by (refine og rfl ?_; assumption)) (by exact isw_of (isS_fl (by assumption) (by omega))))) ?_; refine okT_take_g1 (i := 7) rfl (by kernel_rfl) rfl rfl rfl rfl rfl (gF _) (fun hp => by (have hpd := hp; (try simp only [decide_eq_true_eq, decide_eq_false_iff_not, Bool.or_eq_true, Bool.or_eq_false_iff, Bool.and_eq_true, Bool.and_eq_false_iff, Bool.not_eq_true', Bool.not_eq_false', bne_iff_ne, beq_iff_eq, bne_eq_false_iff_eq, beq_eq_false_iff_ne, ne_eq, Bool.not_true, Bool.not_false, Bool.false_eq_true, Bool.true_eq_false, inB_true, inB_false] at hpd); exact ps_load rfl (by (refine og rfl ?_; assumption)) (by exact Rds.cell (rds_rf (by assumption) (by exact List.mem_cons_self)) (by exact fl_at _ _ _ (by omega) (by decide))))) ?_; refine okT_take_g1 (i := 8) rfl (by kernel_rfl) rfl rfl rfl rfl rfl (gF _) (fun hp => by (have hpd := hp; (try simp only [decide_eq_true_eq, decide_eq_false_iff_not, Bool.or_eq_true, Bool.or_eq_false_iff, Bool.and_eq_true, Bool.and_eq_false_iff, Bool.not_eq_true', Bool.not_eq_false', bne_iff_ne, beq_iff_eq, bne_eq_false_iff_eq, beq_eq_false_iff_ne, ne_eq, Bool.not_true, Bool.not_false, Bool.false_eq_true, Bool.true_eq_false, inB_true, inB_false] at hpd); exact ps_move rfl (by exact rfl))) ?_; refine okT_take_g1 (i := 9) rfl (by kernel_rfl) rfl rfl rfl rfl rfl (gF _) (fun hp => by (have hpd := hp; (try simp only [decide_eq_true_eq, decide_eq_false_iff_not, Bool.or_eq_true, Bool.or_eq_false_iff, Bool.and_eq_true, Bool.and_eq_false_iff, Bool.not_eq_true', Bool.not_eq_false', bne_iff_ne, beq_iff_eq, bne_eq_false_iff_eq, beq_eq_false_iff_ne, ne_eq, Bool.not_true, Bool.not_false, Bool.false_eq_true, Bool.true_eq_false, inB_true, inB_false] at hpd); exact ps_move rfl (by exact rfl))) ?_; refine okT_take_g1 (i := 10) rfl (by kernel_rfl) rfl rfl rfl rfl rfl (gF _) (fun hp => by (have hpd := hp; (try simp only [decide_eq_true_eq, decide_eq_false_iff_not, Bool.or_eq_true, Bool.or_eq_false_iff, Bool.and_eq_true, Bool.and_eq_false_iff, Bool.not_eq_true', Bool.not_eq_false', bne_iff_ne, beq_iff_eq, bne_eq_false_iff_eq, beq_eq_false_iff_ne, ne_eq, Bool.not_true, Bool.not_false, Bool.false_eq_true, Bool.true_eq_false, inB_true, inB_false] at hpd); exact ps_indexN rfl (by (refine og rfl ?_; assumption)) (by (refine og rfl ?_; assumption)) (by omega) (by exact isw_of (isS_fl (by assumption) (by omega))))) ?_; refine okT_take_g1 (i := 11) rfl (by kernel_rfl) rfl rfl rfl rfl rfl (gF _) (fun hp => by (have hpd := hp; (try simp only [decide_eq_true_eq, decide_eq_false_iff_not, Bool.or_eq_true, Bool.or_eq_false_iff, Bool.and_eq_true, Bool.and_eq_false_iff, Bool.not_eq_true', Bool.not_eq_false', bne_iff_ne, beq_iff_eq, bne_eq_false_iff_eq, beq_eq_false_iff_ne, ne_eq, Bool.not_true, Bool.not_false, Bool.false_eq_true, Bool.true_eq_false, inB_true, inB_false] at hpd); exact ps_field rfl (by (refine og rfl ?_; assumption)) (by exact isw_of (isS_fl (by assumption) (by omega))))) ?_; refine okT_take_g1 (i := 12) rfl (by kernel_rfl) rfl rfl rfl rfl rfl (gF _) (fun hp => by (have hpd := hp; (try simp only [decide_eq_true_eq, decide_eq_false_iff_not, Bool.or_eq_true, Bool.or_eq_false_iff, Bool.and_eq_true, Bool.and_eq_false_iff, Bool.not_eq_true', Bool.not_eq_false', bne_iff_ne, beq_iff_eq, bne_eq_false_iff_eq, beq_eq_false_iff_ne, ne_eq, Bool.not_true, Bool.not_false, Bool.false_eq_true, Bool.true_eq_false, inB_true, inB_false] at hpd); exact ps_load rfl (by (refine og rfl ?_; assumption)) (by exact Rds.cell (rds_rf (by assumption) (by exact List.mem_cons_self)) (by exact fl_at _ _ _ (by omega) (by decide))))) ?_; refine okT_take_g1 (i := 13) rfl (by kernel_rfl) rfl rfl rfl rfl rfl (gF _) (fun hp => by (have hpd := hp; (try simp only [decide_eq_true_eq, decide_eq_false_iff_not, Bool.or_eq_true, Bool.or_eq_false_iff, Bool.and_eq_true, Bool.and_eq_false_iff, Bool.not_eq_true', Bool.not_eq_false', bne_iff_ne, beq_iff_eq, bne_eq_false_iff_eq, beq_eq_false_iff_ne, ne_eq, Bool.not_true, Bool.not_false, Bool.false_eq_true, Bool.true_eq_false, inB_true, inB_false] at hpd); exact ps_str rfl (by (refine og rfl ?_; assumption)) (by (refine og rfl ?_; assumption)) rfl)) ?_; refine okT_take (i := 14) rfl (by kernel_rfl) rfl rfl rfl (by exact ps_or rfl rfl rfl) ?_; refine okT_done (by kernel_rfl) ?_; refine ok_nil ?_; refine ok_env [(0, _), (1, _), (4, _), (5, _), (6, _), (46, _)] ⟨rfl, rfl, rfl, rfl, rfl, rfl, trivial⟩ ?_)
    | (refine ok_draw (id := 9) 9 rfl (by kernel_rfl) (by kernel_rfl) rfl (by repeat (first | exact pq_body | refine pq_then ?_ | refine pq_in ?_)) [1, 2] (by decide) rfl ?_; refine okT_take (i := 0) rfl (by kernel_rfl) rfl rfl rfl (by exact ps_field rfl rfl (by exact isw_ga _)) ?_; refine okT_take (i := 1) rfl (by kernel_rfl) rfl rfl rfl (by exact ps_load rfl rfl (by exact Rds.cell (rds_box 0 rfl) rfl)) ?_; refine okT_take (i := 2) rfl (by kernel_rfl) rfl rfl rfl (by exact ps_move rfl rfl) ?_; refine okT_take (i := 3) rfl (by kernel_rfl) rfl rfl rfl (by exact ps_move rfl rfl) ?_; refine okT_take (i := 4) rfl (by kernel_rfl) rfl rfl rfl (by exact ps_indexN rfl rfl rfl (by omega) (by exact isw_of (isS_fl (by assumption) (by omega)))) ?_; refine okT_take (i := 5) rfl (by kernel_rfl) rfl rfl rfl (by exact ps_loadsF rfl rfl (by exact rds_rf (by assumption) (by exact List.mem_cons_self)) (by rfl) (by rfl) (by omega) rfl) ?_; refine okT_one (i := 6) rfl rfl (by kernel_rfl) rfl rfl rfl (by exact ms_lit rfl (parts_cons rfl parts_nil) rfl rfl rfl) (fun y w _ h => by exact h.tl.sel [1, 2] (by decide) rfl (fun _ h => h)) ?_; rintro y53 hy53; refine okT_one (i := 7) rfl rfl (by kernel_rfl) rfl rfl rfl (by exact ms_appF (α := KV) (L := (b.take k).filter (putQ a)) (M := [nth b k]) 1 rfl rfl rfl rfl (rds_row 0 rfl) rfl (by simp; omega) (by simp; omega)) (fun y w _ h => by exact h.tl.sel [1, 2] (by decide) rfl (fun _ h => h)) ?_; rintro y54 hy54; refine okT_take (i := 8) rfl (by kernel_rfl) rfl rfl rfl (by exact ps_field rfl rfl (by exact isw_ga _)) ?_; refine okT_done (by kernel_rfl) ?_; refine ok_m_ rfl rfl (by exact ms_store 2 rfl rfl rfl rfl rfl rfl rfl rfl) ?_; rintro y_ hy_; refine ok_nil ?_; refine ok_env [(0, _), (1, _), (4, _), (5, _), (6, _)] ⟨rfl, rfl, rfl, rfl, rfl, trivial⟩ ?_)
    | (refine ok_region (i := 10) ?_; refine ok_p rfl rfl rfl (by exact ps_assign rfl rfl) ?_; refine ok_nil ?_; refine ok_env [(0, _), (1, _), (4, _), (5, _), (8, _)] ⟨rfl, rfl, rfl, rfl, rfl, trivial⟩ ?_))
  · have e : (b.take (k + 1)).filter (putQ a) = (b.take k).filter (putQ a) ++ [nth b k] := by
      rw [put_step (by omega), if_pos (put_iff hsa (.inl hc))]
    refine fun a' w' he hw => ⟨⟨k + 1, (y54 0).A, (y54 0).c, by omega⟩, by simp only; omega, he.sub ⟨rfl, rfl, rfl, rfl, rfl, trivial⟩, ?_⟩
    simp only [e, List.length_append]
    exact hw.tl
  · have e : (b.take (k + 1)).filter (putQ a) = (b.take k).filter (putQ a) := by
      rw [put_step (by omega), if_neg (by rw [put_no hsa hc]; simp)]
    refine fun a' w' he hw => ⟨⟨k + 1, A', c', by omega⟩, by simp only; omega, he.sub ⟨rfl, rfl, rfl, rfl, rfl, trivial⟩, ?_⟩
    simp only [e]
    exact hw
  obtain rfl : k = b.length := by omega
  rw [List.take_length]
  have hpl : (b.filter (putQ a)).length ≤ b.length := List.length_filter_le _ _
  refine ok_loop (ι := DfI a.length) (fun q => a.length - q.k) (fun q => ([(0, .slice A0 a.length c0), (1, .slice A1 b.length c1), (4, pt (ga (y4 0).c) 0), (5, pt (ga (y5 0).c) 0), (8, .int .i64 q.k)], [.row 9 1 q.A (delL b (a.take q.k)).length q.c (fl (delL b (a.take q.k))), .row 67 2 A' (b.filter (putQ a)).length c' (fl (b.filter (putQ a))), .box (y5 0).c 89 [.slice A' (b.filter (putQ a)).length c', .slice q.A (delL b (a.take q.k)).length q.c], _], _)) ⟨0, none, 0, by omega⟩ (fun a w he hw => ⟨⟨0, none, 0, by omega⟩, he.sub ⟨rfl, rfl, rfl, rfl, rfl, trivial⟩, hw.rowNil 9 1⟩) ?_
  rintro ⟨k, A2, c2, hk⟩
  simp only at hk ⊢
  have hkl2 := del_len a b k
  have hat2 := atK_lt b (nth a k).key b.length 0 (by omega)
  repeat' (first
    | refine ok_seq ?_
    | refine ok_then ?_
    | refine ok_block ?_
    | refine ok_in_normal ?_
    | (refine ok_cond rfl (fun hc => ?_) (fun hc => ?_) <;> (have hd := hc; (try simp only [decide_eq_true_eq, decide_eq_false_iff_not, Bool.or_eq_true, Bool.or_eq_false_iff, Bool.and_eq_true, Bool.and_eq_false_iff, Bool.not_eq_true', Bool.not_eq_false', bne_iff_ne, beq_iff_eq, bne_eq_false_iff_eq, beq_eq_false_iff_ne, ne_eq, Bool.not_true, Bool.not_false, Bool.false_eq_true, Bool.true_eq_false, inB_true, inB_false] at hd)))
    | refine ok_ret ?_
    | refine ok_exit ?_
    | refine ok_skip ?_
    | (refine ok_region (i := 11) ?_; refine ok_p rfl rfl rfl (by exact ps_move rfl rfl) ?_; refine ok_p rfl rfl rfl (by exact ps_move rfl rfl) ?_; refine ok_p rfl rfl rfl (by exact ps_len rfl rfl) ?_; refine ok_p rfl rfl rfl (by exact ps_int rfl rfl rfl rfl) ?_; refine ok_nil ?_; refine ok_env [(0, _), (1, _), (4, _), (5, _), (8, _), (59, _)] ⟨rfl, rfl, rfl, rfl, rfl, rfl, trivial⟩ ?_)
    | (refine ok_region (i := 12) ?_; refine ok_p rfl rfl rfl (by exact ps_move rfl rfl) ?_; refine ok_p rfl rfl rfl (by exact ps_add rfl rfl rfl (by omega)) ?_; refine ok_p rfl rfl rfl (by exact ps_assign rfl rfl) ?_; refine ok_nil ?_; refine ok_env [(0, _), (1, _), (4, _), (5, _), (8, _)] ⟨rfl, rfl, rfl, rfl, rfl, trivial⟩ ?_)
    | (refine ok_region (i := 13) ?_; refine ok_p rfl rfl rfl (by exact ps_move rfl rfl) ?_; refine ok_p rfl rfl rfl (by exact ps_move rfl rfl) ?_; refine ok_p rfl rfl rfl (by exact ps_move rfl rfl) ?_; refine ok_p rfl rfl rfl (by exact ps_indexN rfl rfl rfl (by omega) (by exact isw_of (isS_fl (by assumption) (by omega)))) ?_; refine ok_p rfl rfl rfl (by exact ps_field rfl rfl (by exact isw_of (isS_fl (by assumption) (by omega)))) ?_; refine ok_p rfl rfl rfl (by exact ps_load rfl rfl (by exact Rds.cell (rds_rf (by assumption) (by exact List.mem_cons_self)) (by exact fl_at0 _ _ (by omega) (by decide)))) ?_; refine ok_m rfl rfl rfl (by exact ms_s2 rfl rfl rfl (fun _ _ w hw => s_l35Val A1 _ b _ w (rds_rf h1 (by exact List.mem_cons_self) _ _ w hw) m1)) ?_; rintro y68 hy68; refine ok_p rfl rfl rfl (by exact ps_int rfl rfl rfl rfl) ?_; refine ok_nil ?_; refine ok_env [(0, _), (1, _), (4, _), (5, _), (8, _), (69, _)] ⟨rfl, rfl, rfl, rfl, rfl, rfl, trivial⟩ ?_)
    | (refine ok_draw (id := 14) 10 rfl (by kernel_rfl) (by kernel_rfl) rfl (by repeat (first | exact pq_body | refine pq_then ?_ | refine pq_in ?_)) [1, 2, 3] (by decide) rfl ?_; refine okT_take (i := 0) rfl (by kernel_rfl) rfl rfl rfl (by exact ps_field rfl rfl (by exact isw_ga _)) ?_; refine okT_take (i := 1) rfl (by kernel_rfl) rfl rfl rfl (by exact ps_load rfl rfl (by exact Rds.cell (rds_box 1 rfl) rfl)) ?_; refine okT_take (i := 2) rfl (by kernel_rfl) rfl rfl rfl (by exact ps_move rfl rfl) ?_; refine okT_take (i := 3) rfl (by kernel_rfl) rfl rfl rfl (by exact ps_move rfl rfl) ?_; refine okT_take (i := 4) rfl (by kernel_rfl) rfl rfl rfl (by exact ps_indexN rfl rfl rfl (by omega) (by exact isw_of (isS_fl (by assumption) (by omega)))) ?_; refine okT_take (i := 5) rfl (by kernel_rfl) rfl rfl rfl (by exact ps_field rfl rfl (by exact isw_of (isS_fl (by assumption) (by omega)))) ?_; refine okT_take (i := 6) rfl (by kernel_rfl) rfl rfl rfl (by exact ps_load rfl rfl (by exact Rds.cell (rds_rf (by assumption) (by exact List.mem_cons_self)) (by exact fl_at0 _ _ (by omega) (by decide)))) ?_; refine okT_one (i := 7) rfl rfl (by kernel_rfl) rfl rfl rfl (by exact ms_lit rfl (parts_cons rfl parts_nil) rfl rfl rfl) (fun y w _ h => by exact h.tl.sel [1, 2, 3] (by decide) rfl (fun _ h => h)) ?_; rintro y77 hy77; refine okT_one (i := 8) rfl rfl (by kernel_rfl) rfl rfl rfl (by exact ms_appF (α := ByteArray) (L := delL b (a.take k)) (M := [(nth a k).key]) 1 rfl rfl rfl rfl (rds_row 0 rfl) rfl (by simp; omega) (by simp; omega)) (fun y w _ h => by exact h.tl.sel [1, 2, 3] (by decide) rfl (fun _ h => h)) ?_; rintro y78 hy78; refine okT_take (i := 9) rfl (by kernel_rfl) rfl rfl rfl (by exact ps_field rfl rfl (by exact isw_ga _)) ?_; refine okT_done (by kernel_rfl) ?_; refine ok_m_ rfl rfl (by exact ms_store 3 rfl rfl rfl rfl rfl rfl rfl rfl) ?_; rintro y_ hy_; refine ok_nil ?_; refine ok_env [(0, _), (1, _), (4, _), (5, _), (8, _)] ⟨rfl, rfl, rfl, rfl, rfl, trivial⟩ ?_)
    | (refine ok_region (i := 15) ?_; refine ok_p rfl rfl rfl (by exact ps_loads rfl rfl (by exact rds_box 2 rfl) rfl rfl (by decide)) ?_; refine ok_m_ rfl rfl (by exact ms_store 3 rfl rfl rfl rfl rfl rfl rfl rfl) ?_; rintro y_ hy_; refine ok_nil ?_; refine ok_env [(4, _)] ⟨rfl, trivial⟩ ?_))
  · have e : delL b (a.take (k + 1)) = delL b (a.take k) ++ [(nth a k).key] := by
      rw [del_step (by omega), if_pos (by rw [del_eq hsb]; exact hc)]
    refine fun a' w' he hw => ⟨⟨k + 1, (y78 0).A, (y78 0).c, by omega⟩, by simp only; omega, he.sub ⟨rfl, rfl, rfl, rfl, rfl, trivial⟩, ?_⟩
    simp only [e, List.length_append]
    exact hw.tl
  · have e : delL b (a.take (k + 1)) = delL b (a.take k) := by
      rw [del_step (by omega), if_neg (by rw [del_eq hsb, hc]; simp)]
    refine fun a' w' he hw => ⟨⟨k + 1, A2, c2, by omega⟩, by simp only; omega, he.sub ⟨rfl, rfl, rfl, rfl, rfl, trivial⟩, ?_⟩
    simp only [e]
    exact hw
  · obtain rfl : k = a.length := by omega
    rw [List.take_length]
    refine ok_endL (vs := [_]) rfl ⟨⟨_, 3, _, _, _, rfl, rfl, inferInstance, rfl, rfl⟩, trivial⟩ (fun w' hw => ?_)
    refine ⟨yl [mkY A' c' w 0, mkY A2 c2 w 0] (mkY none 0 w 0), rfl, trivial, hw.below, ?_⟩
    exact NewOk.of (hw.sel [1, 0] (by decide) rfl (G' := []) (fun _ h => by cases h))
theorem DiffMap_lim (a b : DKVS) (ha : KVS_sm a) (hb : KVS_sm b) : Delta_lim (fDiffMap a b) := by
  have h1 := ha.1
  have h2 := hb.1
  unfold fDiffMap
  cases mapOk a && mapOk b
  · exact ⟨by simp, by simp⟩
  · have h3 := List.length_filter_le (putQ a) b
    have h4 := List.length_filter_le (delQ b) a
    exact ⟨by show (b.filter (putQ a)).length ≤ _; omega, by show ((a.filter (delQ b)).map (·.key)).length ≤ _; rw [List.length_map]; omega⟩
theorem s_DiffMap (a : DKVS) (ya : Ys) (b : DKVS) (yb : Ys) (w : World) (ha : KVS_rd w a ya) (hb : KVS_rd w b yb) (sa : KVS_sm a) (sb : KVS_sm b) :
    Calls Try.prog 177 #[KVS_val a ya, KVS_val b yb] w fun e w' => ∃ y : Ys, e = .returned (Delta_val (fDiffMap a b) y) ∧ True ∧ Below w.heap.size w w' ∧ NewOk w.heap.size (Delta_obj (fDiffMap a b) y) [] w' := s_DiffMap0 _ _ _ _ a b w ha hb sa.1 sb.1
end Go.Proofs.Ytbegbdfbfbkflaa
