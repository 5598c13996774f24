/- Texts of this claim, one behind the other: StE, ElEnt, StT, Eng12, Eng13, ElKV, Ins, InsEnt, StU, ElOp, PackP, UpP, Pack, Pack2, Pack3, Upk, StB, VisP, BtWalk, Wok, WkP, BfAccount, AccP, StV, StW, ElSTen. -/
import Derived.Test.YtmfojbidojjciaaGreatPrTraces1
import Derived.Test.YtmfojbidojjciaaGreatPrTraces3
import Derived.Test.YtmfojbidojjciaaGreatPrTraces2
import Derived.Laws.IdiomStrings
import Derived.Lib.AppendStr
import Derived.Lib.AppendZerosOnto
import Derived.Lib.Overlaps
set_option linter.unusedVariables false
set_option linter.unusedSimpArgs false
set_option maxRecDepth 20000
set_option maxHeartbeats 4000000
/- Engines of both programs: what is right. -/
namespace Go.Proofs.YtmfojbidojjciaaGreat
open Go.RowKit
attribute [local irreducible] Calls
theorem lo_snoc (l : List Ent) (x : Ent) : loS (l ++ [x]) = min (loS l) x.seq := by unfold loS;rw [List.foldl_append];rfl
theorem hi_snoc (l : List Ent) (x : Ent) : hiS (l ++ [x]) = max (hiS l) x.seq := by unfold hiS;rw [List.foldl_append];rfl
theorem lo_step {l : List Ent} {k : Nat} (h : k < l.length) : loS (l.take (k + 1)) = min (loS (l.take k)) (nth l k).seq := by rw [takeG h,lo_snoc]
theorem hi_step {l : List Ent} {k : Nat} (h : k < l.length) : hiS (l.take (k + 1)) = max (hiS (l.take k)) (nth l k).seq := by rw [takeG h,hi_snoc]
theorem seqRange_c (A : Option Addr) (c : Nat) (l : List Ent) (w : World) (h : Rd w A (fl l)) (hl : l.length ≤ 4194304) :
    Calls Tryz.prog 269 #[.slice A l.length c] w fun e w' => e = .returned (.tuple #[.int .i64 (loS l),.int .i64 (hiS l)]) ∧ Below w.heap.size w w' := by
  refine ok_enter 25 Tryz.func269 rfl rfl rfl ?_
  repeat' (first
    | refine ok_seq ?_
    | refine ok_then ?_
    | refine ok_block ?_
    | (refine ok_region (i := 0) ?_;refine ok_p rfl rfl rfl (ps_assign rfl rfl) ?_;refine ok_p rfl rfl rfl (ps_assign rfl rfl) ?_;refine ok_ne [(0,_)] ⟨rfl,trivial⟩ ?_)
    | (refine ok_region (i := 1) ?_;refine ok_p rfl rfl rfl (ps_assign rfl rfl) ?_;refine ok_p rfl rfl rfl (ps_assign rfl rfl) ?_;refine ok_ne [(0,_),(4,_),(5,_)] ⟨rfl,rfl,rfl,trivial⟩ ?_)
    | (refine ok_region (i := 2) ?_;refine ok_p rfl rfl rfl (ps_move rfl rfl) ?_;refine ok_p rfl rfl rfl (by exact ps_len rfl rfl) ?_;refine ok_p rfl rfl rfl (ps_move rfl rfl) ?_;refine ok_ne [(4,_),(5,_),(8,_),(9,_),(10,_)] ⟨rfl,rfl,rfl,rfl,rfl,trivial⟩ ?_))
  refine ok_loop (ι := { k : Nat // k ≤ l.length }) (fun k => l.length - k.1) (fun k => ([(4,.int .i64 (loS (l.take k.1))),(5,.int .i64 (hiS (l.take k.1))),(8,.slice A l.length c),(9,.int .i64 l.length),(10,.int .i64 k.1)],_,_)) ⟨0,by omega⟩ (fun a w he hw => ⟨⟨0,by omega⟩,he.sub ⟨rfl,rfl,rfl,rfl,rfl,trivial⟩,hw⟩) ?_
  rintro ⟨k,hk⟩
  simp only at hk ⊢
  repeat' (first
    | refine ok_seq ?_
    | refine ok_then ?_
    | refine ok_block ?_
    | refine ok_in_normal ?_
    | (refine ok_cond rfl (fun hc => ?_) (fun hc => ?_) <;> (have hd := hc;(try simp only [jA,jB,jC,jD,jE,jF,jG,jH,jI,jJ,jK,jL,jM,jN,jO,jP,jQ,jR,jS] at hd)))
    | refine ok_ret ?_
    | refine ok_exit ?_
    | refine ok_skip ?_
    | (refine ok_region (i := 3) ?_;refine ok_p rfl rfl rfl (by exact ps_int rfl rfl rfl rfl) ?_;refine ok_ne [(4,_),(5,_),(8,_),(9,_),(10,_),(11,_)] ⟨rfl,rfl,rfl,rfl,rfl,rfl,trivial⟩ ?_)
    | (refine ok_region (i := 4) ?_;refine ok_p rfl rfl rfl (by exact ps_indexN rfl rfl rfl (by omega) (by exact isw_of (isS_fl (by assumption) (by omega)))) ?_;refine ok_p rfl rfl rfl (by exact ps_loadsF rfl rfl (by exact rds_rf (by assumption) List.mem_cons_self) (by rfl) (by rfl) (by omega) rfl) ?_;refine ok_m rfl rfl rfl (by exact ms_alloc rfl) ?_;rintro y7 hy7;refine ok_m_ rfl rfl (by exact ms_store 0 rfl rfl rfl rfl rfl rfl rfl rfl) ?_;rintro y_ hy_;refine ok_ne [(4,_),(5,_),(7,_),(8,_),(9,_),(10,_)] ⟨rfl,rfl,rfl,rfl,rfl,rfl,trivial⟩ ?_)
    | (refine ok_draw (id := 5) 10 rfl (by kernel_rfl) (by kernel_rfl) rfl (by repeat (first | exact pq_body | refine pq_then ?_ | refine pq_in ?_)) [0,1,2,3,4,5,6,7,8,9,10,11,12,13,14,15,16,17,18,19,20,21,22,23] (by decide) rfl ?_;refine okT_take (i := 0) rfl (by kernel_rfl) rfl rfl rfl (ps_move rfl rfl) ?_;refine okT_take (i := 1) rfl (by kernel_rfl) rfl rfl rfl (by exact ps_field rfl rfl (isw_ga _)) ?_;refine okT_take (i := 2) rfl (by kernel_rfl) rfl rfl rfl (by exact ps_load rfl rfl (by exact Rds.cell (rds_box 0 rfl) rfl)) ?_;refine okT_take (i := 3) rfl (by kernel_rfl) rfl rfl rfl (by exact ps_min rfl rfl rfl) ?_;refine okT_take (i := 4) rfl (by kernel_rfl) rfl rfl rfl (ps_move rfl rfl) ?_;refine okT_take (i := 5) rfl (by kernel_rfl) rfl rfl rfl (by exact ps_field rfl rfl (isw_ga _)) ?_;refine okT_take (i := 6) rfl (by kernel_rfl) rfl rfl rfl (by exact ps_load rfl rfl (by exact Rds.cell (rds_box 0 rfl) rfl)) ?_;refine okT_take (i := 7) rfl (by kernel_rfl) rfl rfl rfl (by exact ps_max rfl rfl rfl) ?_;refine okT_take (i := 8) rfl (by kernel_rfl) rfl rfl rfl (ps_assign rfl rfl) ?_;refine okT_take (i := 9) rfl (by kernel_rfl) rfl rfl rfl (ps_assign rfl rfl) ?_;refine okT_done (by kernel_rfl) ?_;refine ok_ne [(4,_),(5,_),(8,_),(9,_),(10,_)] ⟨rfl,rfl,rfl,rfl,rfl,trivial⟩ ?_)
    | (refine ok_region (i := 6) ?_;refine ok_p rfl rfl rfl (by exact ps_add rfl rfl rfl (by omega)) ?_;refine ok_p rfl rfl rfl (ps_move rfl rfl) ?_;refine ok_ne [(4,_),(5,_),(8,_),(9,_),(10,_)] ⟨rfl,rfl,rfl,rfl,rfl,trivial⟩ ?_)
    | (refine ok_region (i := 7) ?_;refine ok_p rfl rfl rfl (ps_move rfl rfl) ?_;refine ok_p rfl rfl rfl (ps_move rfl rfl) ?_;refine ok_p rfl rfl rfl (ps_assign rfl rfl) ?_;refine ok_p rfl rfl rfl (ps_assign rfl rfl) ?_;refine ok_ne [(2,_),(3,_)] ⟨rfl,rfl,trivial⟩ ?_))
  · refine fun a w' he hw => ⟨⟨k + 1,by omega⟩,by simp only;omega,he.sub ⟨?_,?_,rfl,rfl,rfl,trivial⟩,hw.drop 1 rfl⟩
    · simp only [look];congr 2;rw [lo_step (by omega)];split <;> omega
    · simp only [look];congr 2;rw [hi_step (by omega)];split <;> omega
  · obtain rfl : k = l.length := by omega
    rw [List.take_length]
    exact ok_endL (vs := [_,_]) rfl ⟨rfl,rfl,trivial⟩ (fun w' hw => ⟨rfl,hw.below⟩)
theorem l20Bounds_c (A : Option Addr) (c : Nat) (l : List Ent) (w : World) (h : Rd w A (fl l)) (hl : l.length ≤ 4194304) :
    Calls Tryz.prog 136 #[.slice A l.length c] w fun e w' => e = .returned (.tuple #[.int .i64 (loS l),.int .i64 (hiS l)]) ∧ Below w.heap.size w w' := by
  refine ok_enter 39 Tryz.func136 rfl rfl rfl ?_
  repeat' (first
    | refine ok_seq ?_
    | refine ok_then ?_
    | refine ok_block ?_
    | (refine ok_region (i := 0) ?_;refine ok_p rfl rfl rfl (ps_assign rfl rfl) ?_;refine ok_p rfl rfl rfl (ps_assign rfl rfl) ?_;refine ok_ne [(0,_)] ⟨rfl,trivial⟩ ?_)
    | (refine ok_region (i := 1) ?_;refine ok_p rfl rfl rfl (ps_assign rfl rfl) ?_;refine ok_ne [(0,_),(4,_)] ⟨rfl,rfl,trivial⟩ ?_)
    | (refine ok_region (i := 2) ?_;refine ok_p rfl rfl rfl (ps_assign rfl rfl) ?_;refine ok_ne [(0,_),(4,_),(5,_)] ⟨rfl,rfl,rfl,trivial⟩ ?_)
    | (refine ok_region (i := 3) ?_;refine ok_p rfl rfl rfl (ps_assign rfl rfl) ?_;refine ok_ne [(0,_),(4,_),(5,_),(6,_)] ⟨rfl,rfl,rfl,rfl,trivial⟩ ?_))
  refine ok_loop (ι := { k : Nat // k ≤ l.length }) (fun k => l.length - k.1) (fun k => ([(0,.slice A l.length c),(4,.int .i64 (loS (l.take k.1))),(5,.int .i64 (hiS (l.take k.1))),(6,.int .i64 k.1)],_,_)) ⟨0,by omega⟩ (fun a w he hw => ⟨⟨0,by omega⟩,he.sub ⟨rfl,rfl,rfl,rfl,trivial⟩,hw⟩) ?_
  rintro ⟨k,hk⟩
  simp only at hk ⊢
  have e1 : k < l.length → loS (l.take (k + 1)) = min (loS (l.take k)) (nth l k).seq := fun h => lo_step h
  have e2 : k < l.length → hiS (l.take (k + 1)) = max (hiS (l.take k)) (nth l k).seq := fun h => hi_step h
  repeat' (first
    | refine ok_seq ?_
    | refine ok_then ?_
    | refine ok_block ?_
    | refine ok_in_normal ?_
    | (refine ok_cond rfl (fun hc => ?_) (fun hc => ?_) <;> (have hd := hc;(try simp only [jA,jB,jC,jD,jE,jF,jG,jH,jI,jJ,jK,jL,jM,jN,jO,jP,jQ,jR,jS] at hd)))
    | refine ok_ret ?_
    | refine ok_exit ?_
    | refine ok_skip ?_
    | (refine ok_region (i := 4) ?_;refine ok_p rfl rfl rfl (ps_move rfl rfl) ?_;refine ok_p rfl rfl rfl (ps_move rfl rfl) ?_;refine ok_p rfl rfl rfl (by exact ps_len rfl rfl) ?_;refine ok_p rfl rfl rfl (by exact ps_int rfl rfl rfl rfl) ?_;refine ok_ne [(0,_),(4,_),(5,_),(6,_),(10,_)] ⟨rfl,rfl,rfl,rfl,rfl,trivial⟩ ?_)
    | (refine ok_region (i := 5) ?_;refine ok_p rfl rfl rfl (ps_move rfl rfl) ?_;refine ok_p rfl rfl rfl (by exact ps_add rfl rfl rfl (by omega)) ?_;refine ok_p rfl rfl rfl (ps_assign rfl rfl) ?_;refine ok_ne [(0,_),(4,_),(5,_),(6,_)] ⟨rfl,rfl,rfl,rfl,trivial⟩ ?_)
    | (refine ok_region (i := 6) ?_;refine ok_p rfl rfl rfl (ps_move rfl rfl) ?_;refine ok_p rfl rfl rfl (ps_move rfl rfl) ?_;refine ok_p rfl rfl rfl (by exact ps_indexN rfl rfl rfl (by omega) (by exact isw_of (isS_fl (by assumption) (by omega)))) ?_;refine ok_p rfl rfl rfl (by exact ps_field rfl rfl (by exact isw_of (isS_fl (by assumption) (by omega)))) ?_;refine ok_p rfl rfl rfl (by exact ps_load rfl rfl (by exact Rds.cell (rds_rf (by assumption) List.mem_cons_self) (by exact fl_at _ _ _ (by omega) (by decide)))) ?_;refine ok_p rfl rfl rfl (ps_move rfl rfl) ?_;refine ok_p rfl rfl rfl (by exact ps_int rfl rfl rfl rfl) ?_;refine ok_ne [(0,_),(4,_),(5,_),(6,_),(19,_)] ⟨rfl,rfl,rfl,rfl,rfl,trivial⟩ ?_)
    | (refine ok_region (i := 7) ?_;refine ok_p rfl rfl rfl (ps_move rfl rfl) ?_;refine ok_p rfl rfl rfl (ps_move rfl rfl) ?_;refine ok_p rfl rfl rfl (by exact ps_indexN rfl rfl rfl (by omega) (by exact isw_of (isS_fl (by assumption) (by omega)))) ?_;refine ok_p rfl rfl rfl (by exact ps_field rfl rfl (by exact isw_of (isS_fl (by assumption) (by omega)))) ?_;refine ok_p rfl rfl rfl (by exact ps_load rfl rfl (by exact Rds.cell (rds_rf (by assumption) List.mem_cons_self) (by exact fl_at _ _ _ (by omega) (by decide)))) ?_;refine ok_p rfl rfl rfl (ps_assign rfl rfl) ?_;refine ok_ne [(0,_),(4,_),(5,_),(6,_)] ⟨rfl,rfl,rfl,rfl,trivial⟩ ?_)
    | (refine ok_region (i := 8) ?_;refine ok_p rfl rfl rfl (ps_move rfl rfl) ?_;refine ok_p rfl rfl rfl (ps_move rfl rfl) ?_;refine ok_p rfl rfl rfl (by exact ps_indexN rfl rfl rfl (by omega) (by exact isw_of (isS_fl (by assumption) (by omega)))) ?_;refine ok_p rfl rfl rfl (by exact ps_field rfl rfl (by exact isw_of (isS_fl (by assumption) (by omega)))) ?_;refine ok_p rfl rfl rfl (by exact ps_load rfl rfl (by exact Rds.cell (rds_rf (by assumption) List.mem_cons_self) (by exact fl_at _ _ _ (by omega) (by decide)))) ?_;refine ok_p rfl rfl rfl (ps_move rfl rfl) ?_;refine ok_p rfl rfl rfl (by exact ps_int rfl rfl rfl rfl) ?_;refine ok_ne [(0,_),(4,_),(5,_),(6,_),(31,_)] ⟨rfl,rfl,rfl,rfl,rfl,trivial⟩ ?_)
    | (refine ok_region (i := 9) ?_;refine ok_p rfl rfl rfl (ps_move rfl rfl) ?_;refine ok_p rfl rfl rfl (ps_move rfl rfl) ?_;refine ok_p rfl rfl rfl (by exact ps_indexN rfl rfl rfl (by omega) (by exact isw_of (isS_fl (by assumption) (by omega)))) ?_;refine ok_p rfl rfl rfl (by exact ps_field rfl rfl (by exact isw_of (isS_fl (by assumption) (by omega)))) ?_;refine ok_p rfl rfl rfl (by exact ps_load rfl rfl (by exact Rds.cell (rds_rf (by assumption) List.mem_cons_self) (by exact fl_at _ _ _ (by omega) (by decide)))) ?_;refine ok_p rfl rfl rfl (ps_assign rfl rfl) ?_;refine ok_ne [(0,_),(4,_),(5,_),(6,_)] ⟨rfl,rfl,rfl,rfl,trivial⟩ ?_)
    | (refine ok_region (i := 10) ?_;refine ok_p rfl rfl rfl (ps_move rfl rfl) ?_;refine ok_p rfl rfl rfl (ps_move rfl rfl) ?_;refine ok_p rfl rfl rfl (ps_assign rfl rfl) ?_;refine ok_p rfl rfl rfl (ps_assign rfl rfl) ?_;refine ok_ne [(2,_),(3,_)] ⟨rfl,rfl,trivial⟩ ?_))
  all_goals first
    | (refine fun a w' he hw => ⟨⟨k + 1,by omega⟩,by simp only;omega,he.sub ⟨rfl,?_,?_,rfl,trivial⟩,hw⟩
       · simp only [look];congr 2;have := e1 (by omega);omega
       · simp only [look];congr 2;have := e2 (by omega);omega)
    | (obtain rfl : k = l.length := by omega
       rw [List.take_length]
       exact ok_endL (vs := [_,_]) rfl ⟨rfl,rfl,trivial⟩ (fun w' hw => ⟨rfl,hw.below⟩))
def memOk (l : List Ent) : Bool := decide (l.length ≤ 60) && inOrd l
theorem i_MemOk (A : Option Addr) (c : Nat) (l : List Ent) (w : World) (h : Rd w A (fl l)) (hl : l.length ≤ 4194304) :
    Calls Tryz.prog 268 #[.slice A l.length c] w fun e w' => e = .returned (.bool (memOk l)) ∧ Below w.heap.size w w' := by
  refine ok_enter 10 Tryz.func268 rfl rfl rfl ?_
  repeat' (first
    | refine ok_seq ?_
    | refine ok_then ?_
    | refine ok_ret ?_
    | (refine ok_region (i := 0) ?_;refine ok_p rfl rfl rfl (ps_assign rfl rfl) ?_;refine ok_ne [(0,_)] ⟨rfl,trivial⟩ ?_)
    | (refine ok_region (i := 1) ?_;refine ok_p rfl rfl rfl (ps_move rfl rfl) ?_;refine ok_p rfl rfl rfl (by exact ps_len rfl rfl) ?_;refine ok_p rfl rfl rfl (by exact ps_int rfl rfl rfl rfl) ?_;refine ok_p rfl rfl rfl (ps_move rfl rfl) ?_;refine ok_pg rfl rfl rfl rfl rfl (gT _) (fun hp => by exact ps_move rfl rfl) ?_;refine ok_mg rfl rfl rfl rfl rfl (gT _) (fun hp => by (exact ms_s1 rfl (og rfl (by assumption)) (fun _ _ w hw => inOrder_c A c l w (rds_rf h List.mem_cons_self _ _ w hw) hl))) ?_;refine ok_p rfl rfl rfl (by exact ps_and rfl rfl rfl) ?_;refine ok_p rfl rfl rfl (ps_assign rfl rfl) ?_;refine ok_ne [(2,_)] ⟨rfl,trivial⟩ ?_))
  refine ok_endL (vs := [_]) rfl ⟨rfl,trivial⟩ (fun w' hw => ⟨?_,hw.below⟩)
  unfold memOk
  rw [show decide (l.length ≤ 60) = decide ((l.length : Int) ≤ 60) by rw [decide_eq_decide];omega];rfl
theorem s_MemOk (A : Option Addr) (c : Nat) (l : List Ent) (w : World) (h : Rd w A (fl l)) (hl : l.length ≤ 4194304) :
    Calls Tryz.prog 135 #[.slice A l.length c] w fun e w' => e = .returned (.bool (memOk l)) ∧ Below w.heap.size w w' := by
  refine ok_enter 10 Tryz.func135 rfl rfl rfl ?_
  repeat' (first
    | refine ok_seq ?_
    | refine ok_then ?_
    | refine ok_ret ?_
    | (refine ok_region (i := 0) ?_;refine ok_p rfl rfl rfl (ps_assign rfl rfl) ?_;refine ok_ne [(0,_)] ⟨rfl,trivial⟩ ?_)
    | (refine ok_region (i := 1) ?_;refine ok_p rfl rfl rfl (ps_move rfl rfl) ?_;refine ok_p rfl rfl rfl (by exact ps_len rfl rfl) ?_;refine ok_p rfl rfl rfl (by exact ps_int rfl rfl rfl rfl) ?_;refine ok_p rfl rfl rfl (ps_move rfl rfl) ?_;refine ok_pg rfl rfl rfl rfl rfl (gT _) (fun hp => by exact ps_move rfl rfl) ?_;refine ok_mg rfl rfl rfl rfl rfl (gT _) (fun hp => by (exact ms_s1 rfl (og rfl (by assumption)) (fun _ _ w hw => l9Ents_c A c l w (rds_rf h List.mem_cons_self _ _ w hw) hl))) ?_;refine ok_p rfl rfl rfl (by exact ps_and rfl rfl rfl) ?_;refine ok_p rfl rfl rfl (ps_assign rfl rfl) ?_;refine ok_ne [(2,_)] ⟨rfl,trivial⟩ ?_))
  refine ok_endL (vs := [_]) rfl ⟨rfl,trivial⟩ (fun w' hw => ⟨?_,hw.below⟩)
  unfold memOk
  rw [show decide (l.length ≤ 60) = decide ((l.length : Int) ≤ 60) by rw [decide_eq_decide];omega];rfl
theorem offE_tot (T : List (List Ent)) : offE T T.length = totE T := by
  unfold offE totE;unfold offR;rw [List.take_length]
def tabF (e : DEng) : Bool := decide (e.tabs.length ≤ 6) && decide (totE e.tabs + e.mem.length ≤ 400) && memOk e.mem && decide (hiS e.mem ≤ e.seq) && tabsOk e.seq (loS e.mem) e.tabs
theorem eng_tab (e : DEng) : fEngOk e = (inB e.seq 0 1000000 && decide (e.snaps.length ≤ 4) && tabF e && (List.range e.snaps.length).all (snapAt e.seq e.snaps)) := by
  unfold fEngOk tabF memOk
  rw [Bool.eq_iff_iff]
  simp only [Bool.and_eq_true]
  constructor
  · rintro ⟨⟨⟨⟨⟨⟨⟨g1,g2⟩,g3⟩,g4⟩,g5,g6⟩,g7⟩,g8⟩,g9⟩
    exact ⟨⟨⟨g1,g2⟩,⟨⟨⟨g3,g4⟩,g5,g6⟩,g7⟩,g8⟩,g9⟩
  · rintro ⟨⟨⟨g1,g2⟩,⟨⟨⟨g3,g4⟩,g5,g6⟩,g7⟩,g8⟩,g9⟩
    exact ⟨⟨⟨⟨⟨⟨⟨g1,g2⟩,g3⟩,g4⟩,g5,g6⟩,g7⟩,g8⟩,g9⟩
/-- The tables one by one: what the least so far is. -/
def lowT (T : List (List Ent)) (lo : Int) (k : Nat) : Int := if k = 0 then lo else loS (T.getD (k - 1) [])
def tabAt (seq : Int) (T : List (List Ent)) (lo : Int) (k : Nat) : Bool := decide (0 < (T.getD k []).length) && inOrd (T.getD k []) && decide (hiS (T.getD k []) < lowT T lo k) && decide (hiS (T.getD k []) ≤ seq)
theorem tabs_all (seq : Int) : ∀ (T : List (List Ent)) (lo : Int),tabsOk seq lo T = (List.range T.length).all (tabAt seq T lo)
  | [],lo => rfl
  | t :: T,lo => by
    unfold tabsOk
    rw [tabs_all seq T (loS t),List.length_cons,List.range_succ_eq_map,List.all_cons,List.all_map]
    have h0 : tabAt seq (t :: T) lo 0 = (decide (0 < t.length) && inOrd t && decide (hiS t < lo) && decide (hiS t ≤ seq)) := rfl
    rw [h0]
    congr 1
    congr 1
    funext k
    show tabAt seq T (loS t) k = tabAt seq (t :: T) lo (k + 1)
    unfold tabAt
    have e1 : (t :: T).getD (k + 1) [] = T.getD k [] := rfl
    have e2 : lowT (t :: T) lo (k + 1) = lowT T (loS t) k := by
      unfold lowT
      rw [if_neg (by omega)]
      cases k with
      | zero => rfl
      | succ k => rw [if_neg (by omega)];rfl
    rw [e1,e2]
theorem dat_getD (R : List LE) (k : Nat) (h : k < R.length) : (dats R).getD k [] = (nth R k).d := by
  unfold dats;rw [List.getD_eq_getElem?_getD,List.getElem?_map,List.getElem?_eq_getElem h,nthL R k h];rfl
theorem lowT_step (R : List LE) (lo : Int) (k : Nat) (h : k < R.length) : lowT (dats R) lo (k + 1) = loS (nth R k).d := by
  unfold lowT;rw [if_neg (by omega),Nat.add_sub_cancel,dat_getD R k h]
theorem tab_no {e : DEng} (h : ¬ (e.tabs.length ≤ 6 ∧ totE e.tabs + e.mem.length ≤ 400 ∧ memOk e.mem = true ∧ hiS e.mem ≤ e.seq)) : tabF e = false := by
  rw [Bool.eq_false_iff];intro he;unfold tabF at he
  simp only [Bool.and_eq_true,decide_eq_true_eq] at he
  exact h ⟨he.1.1.1.1,he.1.1.1.2,he.1.1.2,he.1.2⟩
theorem tab_at {e : DEng} {k : Nat} (hk : k < e.tabs.length) (h : tabAt e.seq e.tabs (loS e.mem) k = false) : tabF e = false := by
  unfold tabF;rw [tabs_all,allR_no hk h,Bool.and_false]
theorem tab_yes {e : DEng} (h : e.tabs.length ≤ 6 ∧ totE e.tabs + e.mem.length ≤ 400 ∧ memOk e.mem = true ∧ hiS e.mem ≤ e.seq) (ha : ∀ k,k < e.tabs.length → tabAt e.seq e.tabs (loS e.mem) k = true) : tabF e = true := by
  unfold tabF;rw [tabs_all,allR_yes ha,decide_eq_true h.1,decide_eq_true h.2.1,h.2.2.1,decide_eq_true h.2.2.2];rfl
theorem tablesOk_c (mA : Option Addr) (mc : Nat) (mem : List Ent) (tA : Option Addr) (tc : Nat) (R : List LE) (seq : Int) (sA : Option Addr) (sc : Nat) (sn : List Int) (w : World) (h1 : Rd w mA (fl mem)) (h2 : RdN w tA R) (hl1 : mem.length ≤ 4194304) (hl2 : R.length ≤ 4194304) (hs : ∀ x ∈ dats R,x.length ≤ 4194304) :
    Calls Tryz.prog 207 #[.agg #[.slice mA mem.length mc,.slice tA R.length tc,.int .i64 seq,.slice sA sn.length sc]] w fun e w' => e = .returned (.bool (tabF ⟨mem,dats R,seq,sn⟩)) ∧ Below w.heap.size w w' := by
  have ho : offE (dats R) R.length ≤ 17592186044416 := offE_le _ (by rw [dats_len];exact hl2) hs _
  have hlk := lens_at hs
  have ht := offE_tot (dats R)
  rw [dats_len] at ht
  have HLK := Lib.hid hlk;clear hlk
  have HS := Lib.hid hs;clear hs
  obtain ⟨h3,h4⟩ := h2
  have h4 : ∀ k,k < R.length → Rd w (nth R k).A (fl (nth R k).d) := h4
  have H4 := Lib.hid h4;clear h4
  refine ok_enter 72 Tryz.func207 rfl rfl rfl ?_
  repeat' (first
    | refine ok_seq ?_
    | refine ok_then ?_
    | refine ok_then_ret ?_
    | refine ok_block ?_
    | (refine ok_cond rfl (fun hc => ?_) (fun hc => ?_) <;> (have hd := hc;(try simp only [jA,jB,jC,jD,jE,jF,jG,jH,jI,jJ,jK,jL,jM,jN,jO,jP,jQ,jR,jS] at hd)))
    | refine ok_ret ?_
    | refine ok_skip ?_
    | (refine ok_region (i := 0) ?_;refine ok_m rfl rfl rfl (by exact ms_box rfl rfl rfl) ?_;rintro y1 hy1;refine ok_p rfl rfl rfl (ps_assign rfl rfl) ?_;refine ok_ne [(1,_)] ⟨rfl,trivial⟩ ?_)
    | (refine ok_draw (id := 1) 20 rfl (by kernel_rfl) (by kernel_rfl) rfl (by repeat (first | exact pq_body | refine pq_then ?_ | refine pq_in ?_)) [0,1,2,3,4,5,6,7,8,9,10,11,12,13,14,15,16,17,18,19,20,21,22,23] (by decide) rfl ?_;refine okT_take (i := 0) rfl (by kernel_rfl) rfl rfl rfl (by exact ps_field rfl rfl (isw_ga _)) ?_;refine okT_take (i := 1) rfl (by kernel_rfl) rfl rfl rfl (by exact ps_load rfl rfl (by exact Rds.cell (rds_box 0 rfl) rfl)) ?_;refine okT_take (i := 2) rfl (by kernel_rfl) rfl rfl rfl (by exact ps_len rfl rfl) ?_;refine okT_take (i := 3) rfl (by kernel_rfl) rfl rfl rfl (by exact ps_int rfl rfl rfl rfl) ?_;refine okT_take (i := 4) rfl (by kernel_rfl) rfl rfl rfl (ps_move rfl rfl) ?_;refine okT_take_g1 (i := 5) rfl (by kernel_rfl) rfl rfl rfl rfl rfl (gF _) (fun hp => by exact ps_field rfl rfl (isw_ga _)) ?_;refine okT_take_g1 (i := 6) rfl (by kernel_rfl) rfl rfl rfl rfl rfl (gF _) (fun hp => by (exact ps_load rfl (og rfl (by assumption)) (by exact Rds.cell (rds_box 0 rfl) rfl))) ?_;refine okT_take_g1 (i := 8) rfl (by kernel_rfl) rfl rfl rfl rfl rfl (gF _) (fun hp => by exact ps_field rfl rfl (isw_ga _)) ?_;refine okT_take_g1 (i := 9) rfl (by kernel_rfl) rfl rfl rfl rfl rfl (gF _) (fun hp => by (exact ps_load rfl (og rfl (by assumption)) (by exact Rds.cell (rds_box 0 rfl) rfl))) ?_;refine okT_take_g1 (i := 10) rfl (by kernel_rfl) rfl rfl rfl rfl rfl (gF _) (fun hp => by (exact ps_len rfl (og rfl (by assumption)))) ?_;refine okT_one_g1 (i := 7) rfl rfl (by kernel_rfl) rfl rfl rfl rfl rfl (gF _) (fun hp => by (exact ms_s1 rfl (og rfl (by assumption)) (fun _ _ w hw => totalOf_c tA tc R hl2 HS.out w ⟨rds_rf h3 List.mem_cons_self _ _ w hw,fun k hk => hw.keep (H4.out k hk) List.mem_cons_self⟩))) (fun w h => by exact h) ?_;refine okT_take_g1 (i := 11) rfl (by kernel_rfl) rfl rfl rfl rfl rfl (gF _) (fun hp => by (have hpd := hp;(try simp only [jA,jB,jC,jD,jE,jF,jG,jH,jI,jJ,jK,jL,jM,jN,jO,jP,jQ,jR,jS] at hpd);exact ps_add rfl (og rfl (by assumption)) (og rfl (by assumption)) (by omega))) ?_;refine okT_take_g1 (i := 12) rfl (by kernel_rfl) rfl rfl rfl rfl rfl (gF _) (fun hp => by (exact ps_int rfl (og rfl (by assumption)) rfl rfl)) ?_;refine okT_take (i := 13) rfl (by kernel_rfl) rfl rfl rfl (by exact ps_or rfl rfl rfl) ?_;refine okT_take (i := 14) rfl (by kernel_rfl) rfl rfl rfl (ps_move rfl rfl) ?_;refine okT_take_g1 (i := 15) rfl (by kernel_rfl) rfl rfl rfl rfl rfl (gF _) (fun hp => by exact ps_field rfl rfl (isw_ga _)) ?_;refine okT_take_g1 (i := 16) rfl (by kernel_rfl) rfl rfl rfl rfl rfl (gF _) (fun hp => by (exact ps_load rfl (og rfl (by assumption)) (by exact Rds.cell (rds_box 0 rfl) rfl))) ?_;refine okT_one_g1 (i := 17) rfl rfl (by kernel_rfl) rfl rfl rfl rfl rfl (gF _) (fun hp => by (exact ms_s1 rfl (og rfl (by assumption)) (fun _ _ w hw => i_MemOk mA mc mem w (rds_rf h1 List.mem_cons_self _ _ w hw) hl1))) (fun w h => by exact h) ?_;refine okT_take_g1 (i := 18) rfl (by kernel_rfl) rfl rfl rfl rfl rfl (gF _) (fun hp => by (exact ps_not rfl (og rfl (by assumption)))) ?_;refine okT_take (i := 19) rfl (by kernel_rfl) rfl rfl rfl (by exact ps_or rfl rfl rfl) ?_;refine okT_done (by kernel_rfl) ?_;refine ok_ne [(1,_),(28,_)] ⟨rfl,rfl,trivial⟩ ?_)
    | (refine ok_region (i := 2) ?_;refine ok_p rfl rfl rfl (ps_assign rfl rfl) ?_;refine ok_ne [(2,_)] ⟨rfl,trivial⟩ ?_)
    | (refine ok_region (i := 3) ?_;refine ok_p rfl rfl rfl (by exact ps_field rfl rfl (isw_ga _)) ?_;refine ok_p rfl rfl rfl (by exact ps_load rfl rfl (by exact Rds.cell (rds_box 0 rfl) rfl)) ?_;refine ok_m rfl rfl rfl (by exact ms_s1 rfl rfl (fun _ _ w hw => seqRange_c mA mc mem w (rds_rf h1 List.mem_cons_self _ _ w hw) hl1)) ?_;rintro y32 hy32;refine ok_p rfl rfl rfl (ps_move rfl rfl) ?_;refine ok_p rfl rfl rfl (by exact ps_extract rfl rfl rfl) ?_;refine ok_p rfl rfl rfl (by exact ps_extract rfl rfl rfl) ?_;refine ok_p rfl rfl rfl (ps_assign rfl rfl) ?_;refine ok_p rfl rfl rfl (ps_assign rfl rfl) ?_;refine ok_ne [(1,_),(3,_),(4,_)] ⟨rfl,rfl,rfl,trivial⟩ ?_)
    | (refine ok_region (i := 4) ?_;refine ok_p rfl rfl rfl (ps_move rfl rfl) ?_;refine ok_p rfl rfl rfl (by exact ps_field rfl rfl (isw_ga _)) ?_;refine ok_p rfl rfl rfl (by exact ps_load rfl rfl (by exact Rds.cell (rds_box 0 rfl) rfl)) ?_;refine ok_p rfl rfl rfl (by exact ps_int rfl rfl rfl rfl) ?_;refine ok_ne [(1,_),(3,_),(38,_)] ⟨rfl,rfl,rfl,trivial⟩ ?_)
    | (refine ok_region (i := 5) ?_;refine ok_p rfl rfl rfl (ps_assign rfl rfl) ?_;refine ok_ne [(2,_)] ⟨rfl,trivial⟩ ?_)
    | (refine ok_region (i := 6) ?_;refine ok_p rfl rfl rfl (by exact ps_field rfl rfl (isw_ga _)) ?_;refine ok_p rfl rfl rfl (by exact ps_load rfl rfl (by exact Rds.cell (rds_box 0 rfl) rfl)) ?_;refine ok_p rfl rfl rfl (by exact ps_len rfl rfl) ?_;refine ok_p rfl rfl rfl (ps_move rfl rfl) ?_;refine ok_ne [(1,_),(3,_),(40,_),(41,_),(42,_)] ⟨rfl,rfl,rfl,rfl,rfl,trivial⟩ ?_))
  · have e : tabF ⟨mem,dats R,seq,sn⟩ = false := tab_no (by
      rintro ⟨a1,a2,a3,a4⟩
      rw [dats_len] at a1
      simp only at a2 a3
      rw [a3] at hd
      simp at hd
      omega)
    exact ok_endL (vs := [_]) rfl ⟨rfl,trivial⟩ (fun w' hw => ⟨by rw [e];rfl,hw.below⟩)
  · have e : tabF ⟨mem,dats R,seq,sn⟩ = false := tab_no (by
      rintro ⟨a1,a2,a3,a4⟩
      simp only at a4
      omega)
    exact ok_endL (vs := [_]) rfl ⟨rfl,trivial⟩ (fun w' hw => ⟨by rw [e];rfl,hw.below⟩)
  have hok : R.length ≤ 6 ∧ totE (dats R) + mem.length ≤ 400 ∧ memOk mem = true ∧ hiS mem ≤ seq := by
    have hd2 : (¬ 6 < (R.length : Int) ∧ ¬ 400 < (offE (dats R) R.length : Int) + (mem.length : Int)) ∧ memOk mem = true := by assumption
    exact ⟨by omega,by omega,hd2.2,by omega⟩
  clear hc hd
  refine ok_loop (ι := { k : Nat // k ≤ R.length ∧ ∀ j,j < k → tabAt seq (dats R) (loS mem) j = true }) (fun k => R.length - k.1) (fun k => ([(1,pt (ga (y1 0).c) 0),(3,.int .i64 (lowT (dats R) (loS mem) k.1)),(40,.slice tA R.length tc),(41,.int .i64 R.length),(42,.int .i64 k.1)],_,_)) ⟨0,by omega,fun j h => absurd h (Nat.not_lt_zero j)⟩ (fun a w he hw => ⟨⟨0,by omega,fun j h => absurd h (Nat.not_lt_zero j)⟩,he.sub ⟨rfl,rfl,rfl,rfl,rfl,trivial⟩,hw⟩) ?_
  rintro ⟨k,hk,ha⟩
  simp only at hk ha ⊢
  have HA := Lib.hid ha;clear ha
  have hlk : k < R.length → (nth R k).d.length ≤ 4194304 := HLK.out k
  have hI : (In.inn (nth R k).d).length = (nth R k).d.length := rfl
  repeat' (first
    | refine ok_seq ?_
    | refine ok_then ?_
    | refine ok_then_ret ?_
    | refine ok_block ?_
    | refine ok_in_normal ?_
    | refine ok_in_ret ?_
    | (refine ok_cond rfl (fun hc => ?_) (fun hc => ?_) <;> (have hd := hc;(try simp only [jA,jB,jC,jD,jE,jF,jG,jH,jI,jJ,jK,jL,jM,jN,jO,jP,jQ,jR,jS] at hd)))
    | refine ok_ret ?_
    | refine ok_exit ?_
    | refine ok_skip ?_
    | (refine ok_region (i := 7) ?_;refine ok_p rfl rfl rfl (by exact ps_int rfl rfl rfl rfl) ?_;refine ok_ne [(1,_),(3,_),(40,_),(41,_),(42,_),(43,_)] ⟨rfl,rfl,rfl,rfl,rfl,rfl,trivial⟩ ?_)
    | (refine ok_region (i := 8) ?_;refine ok_p rfl rfl rfl (by exact ps_indexN rfl rfl rfl (by omega) (by exact isw_of (isS_fl (by assumption) (by omega)))) ?_;refine ok_p rfl rfl rfl (by exact ps_load rfl rfl (by exact Rds.cell (rds_rf (by assumption) List.mem_cons_self) (by exact fl_at0 _ _ (by omega) (by decide)))) ?_;refine ok_p rfl rfl rfl (ps_assign rfl rfl) ?_;refine ok_ne [(1,_),(3,_),(6,_),(40,_),(41,_),(42,_)] ⟨rfl,rfl,rfl,rfl,rfl,rfl,trivial⟩ ?_)
    | (refine ok_region (i := 9) ?_;refine ok_p rfl rfl rfl (ps_move rfl rfl) ?_;refine ok_m rfl rfl rfl (by exact ms_s1 rfl rfl (fun _ _ w hw => seqRange_c (nth R k).A (nth R k).c (nth R k).d w (hw.keep (H4.out k (by omega)) List.mem_cons_self) (hlk (by omega)))) ?_;rintro y48 hy48;refine ok_p rfl rfl rfl (ps_move rfl rfl) ?_;refine ok_p rfl rfl rfl (by exact ps_extract rfl rfl rfl) ?_;refine ok_p rfl rfl rfl (by exact ps_extract rfl rfl rfl) ?_;refine ok_p rfl rfl rfl (ps_assign rfl rfl) ?_;refine ok_p rfl rfl rfl (ps_assign rfl rfl) ?_;refine ok_ne [(1,_),(3,_),(6,_),(7,_),(8,_),(40,_),(41,_),(42,_)] ⟨rfl,rfl,rfl,rfl,rfl,rfl,rfl,rfl,trivial⟩ ?_)
    | (refine ok_region (i := 10) ?_;refine ok_p rfl rfl rfl (ps_move rfl rfl) ?_;refine ok_p rfl rfl rfl (by exact ps_len rfl rfl) ?_;refine ok_p rfl rfl rfl (by exact ps_int rfl rfl rfl rfl) ?_;refine ok_p rfl rfl rfl (ps_move rfl rfl) ?_;refine ok_pg rfl rfl rfl rfl rfl (gF _) (fun hp => by exact ps_move rfl rfl) ?_;refine ok_mg rfl rfl rfl rfl rfl (gF _) (fun hp => by (have hpd := hp;(try simp only [jA,jB,jC,jD,jE,jF,jG,jH,jI,jJ,jK,jL,jM,jN,jO,jP,jQ,jR,jS] at hpd);exact ms_s1 rfl (og rfl (by assumption)) (fun _ _ w hw => inOrder_c (nth R k).A (nth R k).c (nth R k).d w (hw.keep (H4.out k (by omega)) List.mem_cons_self) (hlk (by omega))))) ?_;refine ok_pg rfl rfl rfl rfl rfl (gF _) (fun hp => by (exact ps_not rfl (og rfl (by assumption)))) ?_;refine ok_p rfl rfl rfl (by exact ps_or rfl rfl rfl) ?_;refine ok_p rfl rfl rfl (ps_move rfl rfl) ?_;refine ok_pg rfl rfl rfl rfl rfl (gF _) (fun hp => by exact ps_move rfl rfl) ?_;refine ok_pg rfl rfl rfl rfl rfl (gF _) (fun hp => by exact ps_move rfl rfl) ?_;refine ok_pg rfl rfl rfl rfl rfl (gF _) (fun hp => by (exact ps_int rfl (og rfl (by assumption)) (og rfl (by assumption)) rfl)) ?_;refine ok_p rfl rfl rfl (by exact ps_or rfl rfl rfl) ?_;refine ok_p rfl rfl rfl (ps_move rfl rfl) ?_;refine ok_pg rfl rfl rfl rfl rfl (gF _) (fun hp => by exact ps_move rfl rfl) ?_;refine ok_pg rfl rfl rfl rfl rfl (gF _) (fun hp => by exact ps_field rfl rfl (isw_ga _)) ?_;refine ok_pg rfl rfl rfl rfl rfl (gF _) (fun hp => by (exact ps_load rfl (og rfl (by assumption)) (by exact Rds.cell (rds_box 0 rfl) rfl))) ?_;refine ok_pg rfl rfl rfl rfl rfl (gF _) (fun hp => by (exact ps_int rfl (og rfl (by assumption)) (og rfl (by assumption)) rfl)) ?_;refine ok_p rfl rfl rfl (by exact ps_or rfl rfl rfl) ?_;refine ok_ne [(1,_),(7,_),(40,_),(41,_),(42,_),(69,_)] ⟨rfl,rfl,rfl,rfl,rfl,rfl,trivial⟩ ?_)
    | (refine ok_region (i := 11) ?_;refine ok_p rfl rfl rfl (ps_assign rfl rfl) ?_;refine ok_ne [(2,_)] ⟨rfl,trivial⟩ ?_)
    | (refine ok_region (i := 12) ?_;refine ok_p rfl rfl rfl (ps_move rfl rfl) ?_;refine ok_p rfl rfl rfl (ps_assign rfl rfl) ?_;refine ok_ne [(1,_),(3,_),(40,_),(41,_),(42,_)] ⟨rfl,rfl,rfl,rfl,rfl,trivial⟩ ?_)
    | (refine ok_region (i := 13) ?_;refine ok_p rfl rfl rfl (by exact ps_add rfl rfl rfl (by omega)) ?_;refine ok_p rfl rfl rfl (ps_move rfl rfl) ?_;refine ok_ne [(1,_),(3,_),(40,_),(41,_),(42,_)] ⟨rfl,rfl,rfl,rfl,rfl,trivial⟩ ?_)
    | (refine ok_region (i := 14) ?_;refine ok_p rfl rfl rfl (ps_assign rfl rfl) ?_;refine ok_ne [(2,_)] ⟨rfl,trivial⟩ ?_))
  · have e0 : tabAt seq (dats R) (loS mem) k = false := by
      rw [Bool.eq_false_iff];intro he;unfold tabAt at he;rw [dat_getD R k (by omega)] at he
      simp only [Bool.and_eq_true,decide_eq_true_eq] at he
      obtain ⟨⟨⟨a1,a2⟩,a3⟩,a4⟩ := he
      rw [a2] at hd
      simp only [Bool.true_eq_false,or_false] at hd
      omega
    have e : tabF ⟨mem,dats R,seq,sn⟩ = false := tab_at (k := k) (by simp only [dats_len];omega) e0
    exact ok_endL (vs := [_]) rfl ⟨rfl,trivial⟩ (fun w' hw => ⟨by rw [e];rfl,hw.below⟩)
  · have e0 : tabAt seq (dats R) (loS mem) k = true := by
      have hq : inOrd (nth R k).d = true := by
        cases hq : inOrd (nth R k).d with
        | true => rfl
        | false => rw [hq] at hd;simp at hd
      unfold tabAt;rw [dat_getD R k (by omega),hq]
      rw [hq] at hd
      simp only [and_true] at hd
      simp only [Bool.and_eq_true,decide_eq_true_eq]
      exact ⟨⟨⟨by omega,trivial⟩,by omega⟩,by omega⟩
    refine fun a w' he hw => ⟨⟨k + 1,by omega,fun j hj => by
      rcases Nat.lt_succ_iff_lt_or_eq.1 hj with h' | h'
      · exact HA.out j h'
      · subst h';exact e0⟩,by simp only;omega,he.sub ⟨rfl,?_,rfl,rfl,rfl,trivial⟩,hw⟩
    simp only [look];congr 2;rw [lowT_step R _ k (by omega)]
  · obtain rfl : k = R.length := by omega
    have e : tabF ⟨mem,dats R,seq,sn⟩ = true := tab_yes (by simp only [dats_len];exact hok) (fun j hj => HA.out j (by simpa [dats_len] using hj))
    exact ok_endL (vs := [_]) rfl ⟨rfl,trivial⟩ (fun w' hw => ⟨by rw [e];rfl,hw.below⟩)
theorem eng_yes {e : DEng} (h : 0 ≤ e.seq ∧ e.seq ≤ 1000000 ∧ e.snaps.length ≤ 4 ∧ tabF e = true) (ha : ∀ k,k < e.snaps.length → snapAt e.seq e.snaps k = true) : fEngOk e = true := by
  rw [eng_tab,allR_yes ha,decide_eq_true h.2.2.1,h.2.2.2,show inB e.seq 0 1000000 = true by rw [inB_true];omega];rfl
theorem eng_no {e : DEng} (h : ¬ (0 ≤ e.seq ∧ e.seq ≤ 1000000 ∧ e.snaps.length ≤ 4 ∧ tabF e = true)) : fEngOk e = false := by
  rw [Bool.eq_false_iff];intro he;rw [eng_tab] at he
  simp only [Bool.and_eq_true,decide_eq_true_eq,inB_true] at he
  exact h ⟨he.1.1.1.1,he.1.1.1.2,he.1.1.2,he.1.2⟩
theorem eng_at {e : DEng} {k : Nat} (hk : k < e.snaps.length) (h : snapAt e.seq e.snaps k = false) : fEngOk e = false := by
  rw [eng_tab,allR_no hk h,Bool.and_false]
theorem i_EngOk0 (mA : Option Addr) (mc : Nat) (mem : List Ent) (tA : Option Addr) (tc : Nat) (R : List LE) (seq : Int) (sA : Option Addr) (sc : Nat) (sn : List Int) (w : World) (h1 : Rd w mA (fl mem)) (h2 : RdN w tA R) (h3 : Rd w sA (fl sn)) (hl1 : mem.length ≤ 4194304) (hl2 : R.length ≤ 4194304) (hs : ∀ x ∈ dats R,x.length ≤ 4194304) (hl3 : sn.length ≤ 4194304) :
    Calls Tryz.prog 147 #[.agg #[.slice mA mem.length mc,.slice tA R.length tc,.int .i64 seq,.slice sA sn.length sc]] w fun e w' => e = .returned (.bool (fEngOk ⟨mem,dats R,seq,sn⟩)) ∧ Below w.heap.size w w' := by
  have HS := Lib.hid hs;clear hs
  have H2 := Lib.hid h2;clear h2
  refine ok_enter 48 Tryz.func147 rfl rfl rfl ?_
  repeat' (first
    | refine ok_seq ?_
    | refine ok_then ?_
    | refine ok_then_ret ?_
    | refine ok_block ?_
    | (refine ok_cond rfl (fun hc => ?_) (fun hc => ?_) <;> (have hd := hc;(try simp only [jA,jB,jC,jD,jE,jF,jG,jH,jI,jJ,jK,jL,jM,jN,jO,jP,jQ,jR,jS] at hd)))
    | refine ok_ret ?_
    | refine ok_skip ?_
    | (refine ok_region (i := 0) ?_;refine ok_m rfl rfl rfl (by exact ms_box rfl rfl rfl) ?_;rintro y1 hy1;refine ok_p rfl rfl rfl (ps_assign rfl rfl) ?_;refine ok_ne [(1,_)] ⟨rfl,trivial⟩ ?_)
    | (refine ok_region (i := 1) ?_;refine ok_p rfl rfl rfl (by exact ps_field rfl rfl (isw_ga _)) ?_;refine ok_p rfl rfl rfl (by exact ps_load rfl rfl (by exact Rds.cell (rds_box 0 rfl) rfl)) ?_;refine ok_m rfl rfl rfl (by exact ms_s1 rfl rfl (fun _ _ w hw => isNum_c _ w)) ?_;rintro y7 hy7;refine ok_p rfl rfl rfl (by exact ps_not rfl rfl) ?_;refine ok_p rfl rfl rfl (ps_move rfl rfl) ?_;refine ok_pg rfl rfl rfl rfl rfl (gF _) (fun hp => by exact ps_field rfl rfl (isw_ga _)) ?_;refine ok_pg rfl rfl rfl rfl rfl (gF _) (fun hp => by (exact ps_load rfl (og rfl (by assumption)) (by exact Rds.cell (rds_box 0 rfl) rfl))) ?_;refine ok_pg rfl rfl rfl rfl rfl (gF _) (fun hp => by (exact ps_len rfl (og rfl (by assumption)))) ?_;refine ok_pg rfl rfl rfl rfl rfl (gF _) (fun hp => by (exact ps_int rfl (og rfl (by assumption)) rfl rfl)) ?_;refine ok_p rfl rfl rfl (by exact ps_or rfl rfl rfl) ?_;refine ok_p rfl rfl rfl (ps_move rfl rfl) ?_;refine ok_pg rfl rfl rfl rfl rfl (gF _) (fun hp => by exact ps_loads rfl rfl (by exact rds_box 0 rfl) rfl rfl (by decide)) ?_;refine ok_mg rfl rfl rfl rfl rfl (gF _) (fun hp => by (exact ms_s1 rfl (og rfl (by assumption)) (fun _ _ w hw => tablesOk_c mA mc mem tA tc R seq sA sc sn w (rds_rf h1 List.mem_cons_self _ _ w hw) (RdN.keep hw H2.out List.mem_cons_self) hl1 hl2 HS.out))) ?_;refine ok_pg rfl rfl rfl rfl rfl (gF _) (fun hp => by (exact ps_not rfl (og rfl (by assumption)))) ?_;refine ok_p rfl rfl rfl (by exact ps_or rfl rfl rfl) ?_;refine ok_ne [(1,_),(19,_)] ⟨rfl,rfl,trivial⟩ ?_)
    | (refine ok_region (i := 2) ?_;refine ok_p rfl rfl rfl (ps_assign rfl rfl) ?_;refine ok_ne [(2,_)] ⟨rfl,trivial⟩ ?_)
    | (refine ok_region (i := 3) ?_;refine ok_p rfl rfl rfl (by exact ps_field rfl rfl (isw_ga _)) ?_;refine ok_p rfl rfl rfl (by exact ps_load rfl rfl (by exact Rds.cell (rds_box 0 rfl) rfl)) ?_;refine ok_p rfl rfl rfl (by exact ps_len rfl rfl) ?_;refine ok_p rfl rfl rfl (ps_move rfl rfl) ?_;refine ok_ne [(1,_),(21,_),(22,_),(23,_)] ⟨rfl,rfl,rfl,rfl,trivial⟩ ?_))
  · have e : fEngOk ⟨mem,dats R,seq,sn⟩ = false := eng_no (by
      rintro ⟨a1,a2,a3,a4⟩
      simp only at a1 a2 a3
      rw [a4] at hd
      simp at hd
      omega)
    exact ok_endL (vs := [_]) rfl ⟨rfl,trivial⟩ (fun w' hw => ⟨by rw [e];rfl,hw.below⟩)
  have hok : 0 ≤ seq ∧ seq ≤ 1000000 ∧ sn.length ≤ 4 ∧ tabF ⟨mem,dats R,seq,sn⟩ = true := by
    have hq : tabF ⟨mem,dats R,seq,sn⟩ = true := by
      cases hq : tabF ⟨mem,dats R,seq,sn⟩ with
      | true => rfl
      | false => rw [hq] at hd;simp at hd
    rw [hq] at hd
    simp at hd
    exact ⟨by omega,by omega,by omega,hq⟩
  clear hc hd
  refine ok_loop (ι := { k : Nat // k ≤ sn.length ∧ ∀ j,j < k → snapAt seq sn j = true }) (fun k => sn.length - k.1) (fun k => ([(1,pt (ga (y1 0).c) 0),(21,.slice sA sn.length sc),(22,.int .i64 sn.length),(23,.int .i64 k.1)],_,_)) ⟨0,by omega,fun j h => absurd h (Nat.not_lt_zero j)⟩ (fun a w he hw => ⟨⟨0,by omega,fun j h => absurd h (Nat.not_lt_zero j)⟩,he.sub ⟨rfl,rfl,rfl,rfl,trivial⟩,hw⟩) ?_
  rintro ⟨k,hk,ha⟩
  simp only at hk ha ⊢
  have HA := Lib.hid ha;clear ha
  repeat' (first
    | refine ok_seq ?_
    | refine ok_then ?_
    | refine ok_then_ret ?_
    | refine ok_block ?_
    | refine ok_in_normal ?_
    | refine ok_in_ret ?_
    | (refine ok_cond rfl (fun hc => ?_) (fun hc => ?_) <;> (have hd := hc;(try simp only [jA,jB,jC,jD,jE,jF,jG,jH,jI,jJ,jK,jL,jM,jN,jO,jP,jQ,jR,jS] at hd)))
    | refine ok_ret ?_
    | refine ok_exit ?_
    | refine ok_skip ?_
    | (refine ok_region (i := 4) ?_;refine ok_p rfl rfl rfl (by exact ps_int rfl rfl rfl rfl) ?_;refine ok_ne [(1,_),(21,_),(22,_),(23,_),(24,_)] ⟨rfl,rfl,rfl,rfl,rfl,trivial⟩ ?_)
    | (refine ok_region (i := 5) ?_;refine ok_p rfl rfl rfl (ps_move rfl rfl) ?_;refine ok_p rfl rfl rfl (by exact ps_indexN rfl rfl rfl (by omega) (by exact isw_of (isS_fl (by assumption) (by omega)))) ?_;refine ok_p rfl rfl rfl (by exact ps_load rfl rfl (by exact Rds.cell (rds_rf (by assumption) List.mem_cons_self) (by exact fl_at0 _ _ (by omega) (by decide)))) ?_;refine ok_p rfl rfl rfl (ps_assign rfl rfl) ?_;refine ok_p rfl rfl rfl (ps_assign rfl rfl) ?_;refine ok_ne [(1,_),(3,_),(4,_),(21,_),(22,_),(23,_)] ⟨rfl,rfl,rfl,rfl,rfl,rfl,trivial⟩ ?_)
    | (refine ok_region (i := 6) ?_;refine ok_p rfl rfl rfl (ps_move rfl rfl) ?_;refine ok_p rfl rfl rfl (by exact ps_field rfl rfl (isw_ga _)) ?_;refine ok_p rfl rfl rfl (by exact ps_load rfl rfl (by exact Rds.cell (rds_box 0 rfl) rfl)) ?_;refine ok_m rfl rfl rfl (by exact ms_s3 rfl rfl rfl rfl (fun _ _ w hw => in_i _ _ _ w)) ?_;rintro y31 hy31;refine ok_p rfl rfl rfl (by exact ps_not rfl rfl) ?_;refine ok_p rfl rfl rfl (ps_move rfl rfl) ?_;refine ok_pg rfl rfl rfl rfl rfl (gF _) (fun hp => by exact ps_move rfl rfl) ?_;refine ok_pg rfl rfl rfl rfl rfl (gF _) (fun hp => by (exact ps_int rfl (og rfl (by assumption)) rfl rfl)) ?_;refine ok_pg rfl rfl rfl rfl rfl (gF _) (fun hp => by (exact ps_move rfl (og rfl (by assumption)))) ?_;refine ok_pgg rfl rfl rfl rfl rfl (gT _) (fun hq hp hqp => by exact ps_move rfl rfl) ?_;refine ok_pgg rfl rfl rfl rfl rfl (gT _) (fun hq hp hqp => by exact ps_field rfl rfl (isw_ga _)) ?_;refine ok_pgg rfl rfl rfl rfl rfl (gT _) (fun hq hp hqp => by (exact ps_load rfl (og rfl (by assumption)) (by exact Rds.cell (rds_box 0 rfl) rfl))) ?_;refine ok_pgg rfl rfl rfl rfl rfl (gT _) (fun hq hp hqp => by exact ps_move rfl rfl) ?_;refine ok_pgg rfl rfl rfl rfl rfl (gT _) (fun hq hp hqp => by (have hqd := hq;(try simp only [jA,jB,jC,jD,jE,jF,jG,jH,jI,jJ,jK,jL,jM,jN,jO,jP,jQ,jR,jS] at hqd);have hpd := hp;(try simp only [jA,jB,jC,jD,jE,jF,jG,jH,jI,jJ,jK,jL,jM,jN,jO,jP,jQ,jR,jS] at hpd);exact ps_sub rfl (og rfl (by assumption)) rfl (by omega))) ?_;refine ok_pgg rfl rfl rfl rfl rfl (gT _) (fun hq hp hqp => by (have hqd := hq;(try simp only [jA,jB,jC,jD,jE,jF,jG,jH,jI,jJ,jK,jL,jM,jN,jO,jP,jQ,jR,jS] at hqd);have hpd := hp;(try simp only [jA,jB,jC,jD,jE,jF,jG,jH,jI,jJ,jK,jL,jM,jN,jO,jP,jQ,jR,jS] at hpd);exact ps_index rfl (og rfl (by assumption)) (og rfl (by assumption)) (by omega) (by exact isw_of (isS_fl (by assumption) (by omega))))) ?_;refine ok_pgg rfl rfl rfl rfl rfl (gT _) (fun hq hp hqp => by (have hqd := hq;(try simp only [jA,jB,jC,jD,jE,jF,jG,jH,jI,jJ,jK,jL,jM,jN,jO,jP,jQ,jR,jS] at hqd);have hpd := hp;(try simp only [jA,jB,jC,jD,jE,jF,jG,jH,jI,jJ,jK,jL,jM,jN,jO,jP,jQ,jR,jS] at hpd);exact ps_load rfl (og rfl (by assumption)) (by exact Rds.cell (rds_rf (by assumption) List.mem_cons_self) (by exact fl_at0 _ _ (by omega) (by decide))))) ?_;refine ok_pgg rfl rfl rfl rfl rfl (gT _) (fun hq hp hqp => by (exact ps_int rfl (og rfl (by assumption)) (og rfl (by assumption)) rfl)) ?_;refine ok_pg rfl rfl rfl rfl rfl (gF _) (fun hp => by exact ps_and_in (by assumption) rfl rfl rfl) ?_;refine ok_p rfl rfl rfl (by exact ps_or rfl rfl rfl) ?_;refine ok_ne [(1,_),(21,_),(22,_),(23,_),(46,_)] ⟨rfl,rfl,rfl,rfl,rfl,trivial⟩ ?_)
    | (refine ok_region (i := 7) ?_;refine ok_p rfl rfl rfl (ps_assign rfl rfl) ?_;refine ok_ne [(2,_)] ⟨rfl,trivial⟩ ?_)
    | (refine ok_region (i := 8) ?_;refine ok_p rfl rfl rfl (by exact ps_add rfl rfl rfl (by omega)) ?_;refine ok_p rfl rfl rfl (ps_move rfl rfl) ?_;refine ok_ne [(1,_),(21,_),(22,_),(23,_)] ⟨rfl,rfl,rfl,rfl,trivial⟩ ?_)
    | (refine ok_region (i := 9) ?_;refine ok_p rfl rfl rfl (ps_assign rfl rfl) ?_;refine ok_ne [(2,_)] ⟨rfl,trivial⟩ ?_))
  · have e : fEngOk ⟨mem,dats R,seq,sn⟩ = false := eng_at (k := k) (by simp only;omega) (by unfold snapAt;rw [decide_eq_false_iff_not];simp only [tn1] at hd ⊢;omega)
    exact ok_endL (vs := [_]) rfl ⟨rfl,trivial⟩ (fun w' hw => ⟨by rw [e];rfl,hw.below⟩)
  · have e : snapAt seq sn k = true := by unfold snapAt;rw [decide_eq_true_eq];simp only [tn1] at hd ⊢;omega
    refine fun a w' he hw => ⟨⟨k + 1,by omega,fun j hj => by
      rcases Nat.lt_succ_iff_lt_or_eq.1 hj with h' | h'
      · exact HA.out j h'
      · subst h';exact e⟩,by simp only;omega,he.sub ⟨rfl,rfl,rfl,rfl,trivial⟩,hw⟩
  · obtain rfl : k = sn.length := by omega
    have e : fEngOk ⟨mem,dats R,seq,sn⟩ = true := eng_yes hok (fun j hj => HA.out j hj)
    exact ok_endL (vs := [_]) rfl ⟨rfl,trivial⟩ (fun w' hw => ⟨by rw [e];rfl,hw.below⟩)
theorem eng_end {e : DEng} (h : memOk e.mem = true ∧ e.tabs.length ≤ 6 ∧ 0 ≤ e.seq ∧ e.seq ≤ 1000000 ∧ e.snaps.length ≤ 4 ∧ hiS e.mem ≤ e.seq) (ht : ∀ k,k < e.tabs.length → tabAt e.seq e.tabs (loS e.mem) k = true) (ha : ∀ k,k < e.snaps.length → snapAt e.seq e.snaps k = true) : fEngOk e = decide (totE e.tabs + e.mem.length ≤ 400) := by
  rw [eng_tab,allR_yes ha,decide_eq_true h.2.2.2.2.1,show inB e.seq 0 1000000 = true by rw [inB_true];omega]
  unfold tabF
  rw [tabs_all,allR_yes ht,decide_eq_true h.2.1,h.1,decide_eq_true h.2.2.2.2.2]
  simp
theorem eng_tno {e : DEng} {k : Nat} (hk : k < e.tabs.length) (h : tabAt e.seq e.tabs (loS e.mem) k = false) : fEngOk e = false := eng_no (fun hh => by rw [tab_at hk h] at hh;exact absurd hh.2.2.2 (by decide))
theorem s_EngOk0 (mA : Option Addr) (mc : Nat) (mem : List Ent) (tA : Option Addr) (tc : Nat) (R : List LE) (seq : Int) (sA : Option Addr) (sc : Nat) (sn : List Int) (w : World) (h1 : Rd w mA (fl mem)) (h2 : RdN w tA R) (h3 : Rd w sA (fl sn)) (hl1 : mem.length ≤ 4194304) (hl2 : R.length ≤ 4194304) (hs : ∀ x ∈ dats R,x.length ≤ 4194304) (hl3 : sn.length ≤ 4194304) :
    Calls Tryz.prog 87 #[.agg #[.slice mA mem.length mc,.slice tA R.length tc,.int .i64 seq,.slice sA sn.length sc]] w fun e w' => e = .returned (.bool (fEngOk ⟨mem,dats R,seq,sn⟩)) ∧ Below w.heap.size w w' := by
  have ho : ∀ k,offE (dats R) k ≤ 17592186044416 := offE_le _ (by rw [dats_len];exact hl2) hs
  have hlk := lens_at hs
  have ht := offE_tot (dats R)
  rw [dats_len] at ht
  have HLK := Lib.hid hlk;clear hlk
  have HO := Lib.hid ho;clear ho
  clear hs
  obtain ⟨h5,h4⟩ := h2
  have h4 : ∀ k,k < R.length → Rd w (nth R k).A (fl (nth R k).d) := h4
  have H4 := Lib.hid h4;clear h4
  refine ok_enter 123 Tryz.func87 rfl rfl rfl ?_
  repeat' (first
    | refine ok_seq ?_
    | refine ok_then ?_
    | refine ok_then_ret ?_
    | refine ok_block ?_
    | (refine ok_cond rfl (fun hc => ?_) (fun hc => ?_) <;> (have hd := hc;(try simp only [jA,jB,jC,jD,jE,jF,jG,jH,jI,jJ,jK,jL,jM,jN,jO,jP,jQ,jR,jS] at hd)))
    | refine ok_ret ?_
    | refine ok_skip ?_
    | (refine ok_region (i := 0) ?_;refine ok_m rfl rfl rfl (by exact ms_box rfl rfl rfl) ?_;rintro y1 hy1;refine ok_p rfl rfl rfl (ps_assign rfl rfl) ?_;refine ok_ne [(1,_)] ⟨rfl,trivial⟩ ?_)
    | (refine ok_region (i := 1) ?_;refine ok_p rfl rfl rfl (by exact ps_field rfl rfl (isw_ga _)) ?_;refine ok_p rfl rfl rfl (by exact ps_load rfl rfl (by exact Rds.cell (rds_box 0 rfl) rfl)) ?_;refine ok_m rfl rfl rfl (by exact ms_s1 rfl rfl (fun _ _ w hw => s_MemOk mA mc mem w (rds_rf h1 List.mem_cons_self _ _ w hw) hl1)) ?_;rintro y13 hy13;refine ok_p rfl rfl rfl (by exact ps_not rfl rfl) ?_;refine ok_p rfl rfl rfl (ps_move rfl rfl) ?_;refine ok_pg rfl rfl rfl rfl rfl (gF _) (fun hp => by exact ps_field rfl rfl (isw_ga _)) ?_;refine ok_pg rfl rfl rfl rfl rfl (gF _) (fun hp => by (exact ps_load rfl (og rfl (by assumption)) (by exact Rds.cell (rds_box 0 rfl) rfl))) ?_;refine ok_pg rfl rfl rfl rfl rfl (gF _) (fun hp => by (exact ps_len rfl (og rfl (by assumption)))) ?_;refine ok_pg rfl rfl rfl rfl rfl (gF _) (fun hp => by (exact ps_int rfl (og rfl (by assumption)) rfl rfl)) ?_;refine ok_p rfl rfl rfl (by exact ps_or rfl rfl rfl) ?_;refine ok_p rfl rfl rfl (ps_move rfl rfl) ?_;refine ok_pg rfl rfl rfl rfl rfl (gF _) (fun hp => by exact ps_field rfl rfl (isw_ga _)) ?_;refine ok_pg rfl rfl rfl rfl rfl (gF _) (fun hp => by (exact ps_load rfl (og rfl (by assumption)) (by exact Rds.cell (rds_box 0 rfl) rfl))) ?_;refine ok_mg rfl rfl rfl rfl rfl (gF _) (fun hp => by (exact ms_s3 rfl (og rfl (by assumption)) rfl rfl (fun _ _ w hw => in_s _ _ _ w))) ?_;refine ok_pg rfl rfl rfl rfl rfl (gF _) (fun hp => by (exact ps_not rfl (og rfl (by assumption)))) ?_;refine ok_p rfl rfl rfl (by exact ps_or rfl rfl rfl) ?_;refine ok_p rfl rfl rfl (ps_move rfl rfl) ?_;refine ok_pg rfl rfl rfl rfl rfl (gF _) (fun hp => by exact ps_field rfl rfl (isw_ga _)) ?_;refine ok_pg rfl rfl rfl rfl rfl (gF _) (fun hp => by (exact ps_load rfl (og rfl (by assumption)) (by exact Rds.cell (rds_box 0 rfl) rfl))) ?_;refine ok_pg rfl rfl rfl rfl rfl (gF _) (fun hp => by (exact ps_len rfl (og rfl (by assumption)))) ?_;refine ok_pg rfl rfl rfl rfl rfl (gF _) (fun hp => by (exact ps_int rfl (og rfl (by assumption)) rfl rfl)) ?_;refine ok_p rfl rfl rfl (by exact ps_or rfl rfl rfl) ?_;refine ok_ne [(1,_),(32,_)] ⟨rfl,rfl,trivial⟩ ?_)
    | (refine ok_region (i := 2) ?_;refine ok_p rfl rfl rfl (ps_assign rfl rfl) ?_;refine ok_ne [(2,_)] ⟨rfl,trivial⟩ ?_)
    | (refine ok_region (i := 3) ?_;refine ok_p rfl rfl rfl (by exact ps_field rfl rfl (isw_ga _)) ?_;refine ok_p rfl rfl rfl (by exact ps_load rfl rfl (by exact Rds.cell (rds_box 0 rfl) rfl)) ?_;refine ok_m rfl rfl rfl (by exact ms_s1 rfl rfl (fun _ _ w hw => l20Bounds_c mA mc mem w (rds_rf h1 List.mem_cons_self _ _ w hw) hl1)) ?_;rintro y36 hy36;refine ok_p rfl rfl rfl (ps_move rfl rfl) ?_;refine ok_p rfl rfl rfl (by exact ps_extract rfl rfl rfl) ?_;refine ok_p rfl rfl rfl (by exact ps_extract rfl rfl rfl) ?_;refine ok_p rfl rfl rfl (ps_assign rfl rfl) ?_;refine ok_p rfl rfl rfl (ps_assign rfl rfl) ?_;refine ok_ne [(1,_),(3,_),(4,_)] ⟨rfl,rfl,rfl,trivial⟩ ?_)
    | (refine ok_region (i := 4) ?_;refine ok_p rfl rfl rfl (ps_move rfl rfl) ?_;refine ok_p rfl rfl rfl (by exact ps_field rfl rfl (isw_ga _)) ?_;refine ok_p rfl rfl rfl (by exact ps_load rfl rfl (by exact Rds.cell (rds_box 0 rfl) rfl)) ?_;refine ok_p rfl rfl rfl (by exact ps_int rfl rfl rfl rfl) ?_;refine ok_ne [(1,_),(3,_),(42,_)] ⟨rfl,rfl,rfl,trivial⟩ ?_)
    | (refine ok_region (i := 5) ?_;refine ok_p rfl rfl rfl (ps_assign rfl rfl) ?_;refine ok_ne [(2,_)] ⟨rfl,trivial⟩ ?_)
    | (refine ok_region (i := 6) ?_;refine ok_p rfl rfl rfl (by exact ps_field rfl rfl (isw_ga _)) ?_;refine ok_p rfl rfl rfl (by exact ps_load rfl rfl (by exact Rds.cell (rds_box 0 rfl) rfl)) ?_;refine ok_p rfl rfl rfl (by exact ps_len rfl rfl) ?_;refine ok_p rfl rfl rfl (ps_assign rfl rfl) ?_;refine ok_ne [(1,_),(3,_),(5,_)] ⟨rfl,rfl,rfl,trivial⟩ ?_)
    | (refine ok_region (i := 7) ?_;refine ok_p rfl rfl rfl (ps_assign rfl rfl) ?_;refine ok_ne [(1,_),(3,_),(5,_),(6,_)] ⟨rfl,rfl,rfl,rfl,trivial⟩ ?_))
  · have e : fEngOk ⟨mem,dats R,seq,sn⟩ = false := eng_no (by
      rintro ⟨a1,a2,a3,a4⟩
      unfold tabF at a4
      simp only [Bool.and_eq_true,decide_eq_true_eq,dats_len] at a1 a2 a3 a4
      rw [a4.1.1.2] at hd
      simp at hd
      omega)
    exact ok_endL (vs := [_]) rfl ⟨rfl,trivial⟩ (fun w' hw => ⟨by rw [e];rfl,hw.below⟩)
  · have e : fEngOk ⟨mem,dats R,seq,sn⟩ = false := eng_no (by
      rintro ⟨a1,a2,a3,a4⟩
      unfold tabF at a4
      simp only [Bool.and_eq_true,decide_eq_true_eq,dats_len] at a4
      omega)
    exact ok_endL (vs := [_]) rfl ⟨rfl,trivial⟩ (fun w' hw => ⟨by rw [e];rfl,hw.below⟩)
  have hok : memOk mem = true ∧ R.length ≤ 6 ∧ 0 ≤ seq ∧ seq ≤ 1000000 ∧ sn.length ≤ 4 ∧ hiS mem ≤ seq := by
    have hd2 : ((memOk mem = true ∧ ¬ 6 < (R.length : Int)) ∧ 0 ≤ seq ∧ seq ≤ 1000000) ∧ ¬ 4 < (sn.length : Int) := by assumption
    exact ⟨hd2.1.1.1,by omega,by omega,by omega,by omega,by omega⟩
  clear hc hd
  refine ok_loop (ι := { k : Nat // k ≤ R.length ∧ ∀ j,j < k → tabAt seq (dats R) (loS mem) j = true }) (fun k => R.length - k.1) (fun k => ([(1,pt (ga (y1 0).c) 0),(3,.int .i64 (lowT (dats R) (loS mem) k.1)),(5,.int .i64 ((mem.length : Int) + (offE (dats R) k.1 : Int))),(6,.int .i64 k.1)],_,_)) ⟨0,by omega,fun j h => absurd h (Nat.not_lt_zero j)⟩ (fun a w he hw => ⟨⟨0,by omega,fun j h => absurd h (Nat.not_lt_zero j)⟩,he.sub ⟨rfl,rfl,by simp [look,offE,offR],rfl,trivial⟩,hw⟩) ?_
  rintro ⟨k,hk,ha⟩
  simp only at hk ha ⊢
  have HA := Lib.hid ha;clear ha
  have hlk : k < R.length → (nth R k).d.length ≤ 4194304 := HLK.out k
  have hI : (In.inn (nth R k).d).length = (nth R k).d.length := rfl
  have hofk := HO.out k
  repeat' (first
    | refine ok_seq ?_
    | refine ok_then ?_
    | refine ok_then_ret ?_
    | refine ok_block ?_
    | refine ok_in_normal ?_
    | refine ok_in_ret ?_
    | (refine ok_cond rfl (fun hc => ?_) (fun hc => ?_) <;> (have hd := hc;(try simp only [jA,jB,jC,jD,jE,jF,jG,jH,jI,jJ,jK,jL,jM,jN,jO,jP,jQ,jR,jS] at hd)))
    | refine ok_ret ?_
    | refine ok_exit ?_
    | refine ok_skip ?_
    | (refine ok_region (i := 8) ?_;refine ok_p rfl rfl rfl (ps_move rfl rfl) ?_;refine ok_p rfl rfl rfl (by exact ps_field rfl rfl (isw_ga _)) ?_;refine ok_p rfl rfl rfl (by exact ps_load rfl rfl (by exact Rds.cell (rds_box 0 rfl) rfl)) ?_;refine ok_p rfl rfl rfl (by exact ps_len rfl rfl) ?_;refine ok_p rfl rfl rfl (by exact ps_int rfl rfl rfl rfl) ?_;refine ok_ne [(1,_),(3,_),(5,_),(6,_),(50,_)] ⟨rfl,rfl,rfl,rfl,rfl,trivial⟩ ?_)
    | (refine ok_region (i := 9) ?_;refine ok_p rfl rfl rfl (ps_move rfl rfl) ?_;refine ok_p rfl rfl rfl (by exact ps_add rfl rfl rfl (by omega)) ?_;refine ok_p rfl rfl rfl (ps_assign rfl rfl) ?_;refine ok_ne [(1,_),(3,_),(5,_),(6,_)] ⟨rfl,rfl,rfl,rfl,trivial⟩ ?_)
    | (refine ok_region (i := 10) ?_;refine ok_p rfl rfl rfl (by exact ps_field rfl rfl (isw_ga _)) ?_;refine ok_p rfl rfl rfl (by exact ps_load rfl rfl (by exact Rds.cell (rds_box 0 rfl) rfl)) ?_;refine ok_p rfl rfl rfl (ps_move rfl rfl) ?_;refine ok_p rfl rfl rfl (by exact ps_indexN rfl rfl rfl (by omega) (by exact isw_of (isS_fl (by assumption) (by omega)))) ?_;refine ok_p rfl rfl rfl (by exact ps_load rfl rfl (by exact Rds.cell (rds_rf (by assumption) List.mem_cons_self) (by exact fl_at0 _ _ (by omega) (by decide)))) ?_;refine ok_p rfl rfl rfl (ps_assign rfl rfl) ?_;refine ok_ne [(1,_),(3,_),(5,_),(6,_),(7,_)] ⟨rfl,rfl,rfl,rfl,rfl,trivial⟩ ?_)
    | (refine ok_region (i := 11) ?_;refine ok_p rfl rfl rfl (ps_move rfl rfl) ?_;refine ok_m rfl rfl rfl (by exact ms_s1 rfl rfl (fun _ _ w hw => l20Bounds_c (nth R k).A (nth R k).c (nth R k).d w (hw.keep (H4.out k (by omega)) List.mem_cons_self) (hlk (by omega)))) ?_;rintro y60 hy60;refine ok_p rfl rfl rfl (ps_move rfl rfl) ?_;refine ok_p rfl rfl rfl (by exact ps_extract rfl rfl rfl) ?_;refine ok_p rfl rfl rfl (by exact ps_extract rfl rfl rfl) ?_;refine ok_p rfl rfl rfl (ps_assign rfl rfl) ?_;refine ok_p rfl rfl rfl (ps_assign rfl rfl) ?_;refine ok_ne [(1,_),(3,_),(5,_),(6,_),(7,_),(8,_),(9,_)] ⟨rfl,rfl,rfl,rfl,rfl,rfl,rfl,trivial⟩ ?_)
    | (refine ok_region (i := 12) ?_;refine ok_p rfl rfl rfl (ps_move rfl rfl) ?_;refine ok_p rfl rfl rfl (by exact ps_len rfl rfl) ?_;refine ok_p rfl rfl rfl (by exact ps_int rfl rfl rfl rfl) ?_;refine ok_p rfl rfl rfl (ps_move rfl rfl) ?_;refine ok_pg rfl rfl rfl rfl rfl (gF _) (fun hp => by exact ps_move rfl rfl) ?_;refine ok_mg rfl rfl rfl rfl rfl (gF _) (fun hp => by (have hpd := hp;(try simp only [jA,jB,jC,jD,jE,jF,jG,jH,jI,jJ,jK,jL,jM,jN,jO,jP,jQ,jR,jS] at hpd);exact ms_s1 rfl (og rfl (by assumption)) (fun _ _ w hw => l9Ents_c (nth R k).A (nth R k).c (nth R k).d w (hw.keep (H4.out k (by omega)) List.mem_cons_self) (hlk (by omega))))) ?_;refine ok_pg rfl rfl rfl rfl rfl (gF _) (fun hp => by (exact ps_not rfl (og rfl (by assumption)))) ?_;refine ok_p rfl rfl rfl (by exact ps_or rfl rfl rfl) ?_;refine ok_p rfl rfl rfl (ps_move rfl rfl) ?_;refine ok_pg rfl rfl rfl rfl rfl (gF _) (fun hp => by exact ps_move rfl rfl) ?_;refine ok_pg rfl rfl rfl rfl rfl (gF _) (fun hp => by exact ps_move rfl rfl) ?_;refine ok_pg rfl rfl rfl rfl rfl (gF _) (fun hp => by (exact ps_int rfl (og rfl (by assumption)) (og rfl (by assumption)) rfl)) ?_;refine ok_p rfl rfl rfl (by exact ps_or rfl rfl rfl) ?_;refine ok_p rfl rfl rfl (ps_move rfl rfl) ?_;refine ok_pg rfl rfl rfl rfl rfl (gF _) (fun hp => by exact ps_move rfl rfl) ?_;refine ok_pg rfl rfl rfl rfl rfl (gF _) (fun hp => by exact ps_field rfl rfl (isw_ga _)) ?_;refine ok_pg rfl rfl rfl rfl rfl (gF _) (fun hp => by (exact ps_load rfl (og rfl (by assumption)) (by exact Rds.cell (rds_box 0 rfl) rfl))) ?_;refine ok_pg rfl rfl rfl rfl rfl (gF _) (fun hp => by (exact ps_int rfl (og rfl (by assumption)) (og rfl (by assumption)) rfl)) ?_;refine ok_p rfl rfl rfl (by exact ps_or rfl rfl rfl) ?_;refine ok_ne [(1,_),(5,_),(6,_),(7,_),(8,_),(81,_)] ⟨rfl,rfl,rfl,rfl,rfl,rfl,trivial⟩ ?_)
    | (refine ok_region (i := 13) ?_;refine ok_p rfl rfl rfl (ps_assign rfl rfl) ?_;refine ok_ne [(2,_)] ⟨rfl,trivial⟩ ?_)
    | (refine ok_region (i := 14) ?_;refine ok_p rfl rfl rfl (ps_move rfl rfl) ?_;refine ok_p rfl rfl rfl (ps_assign rfl rfl) ?_;refine ok_ne [(1,_),(3,_),(5,_),(6,_),(7,_)] ⟨rfl,rfl,rfl,rfl,rfl,trivial⟩ ?_)
    | (refine ok_region (i := 15) ?_;refine ok_p rfl rfl rfl (ps_move rfl rfl) ?_;refine ok_p rfl rfl rfl (ps_move rfl rfl) ?_;refine ok_p rfl rfl rfl (by exact ps_len rfl rfl) ?_;refine ok_p rfl rfl rfl (by exact ps_add rfl rfl rfl (by have := hlk (by omega);omega)) ?_;refine ok_p rfl rfl rfl (ps_assign rfl rfl) ?_;refine ok_ne [(1,_),(3,_),(5,_),(6,_)] ⟨rfl,rfl,rfl,rfl,trivial⟩ ?_)
    | (refine ok_region (i := 16) ?_;refine ok_p rfl rfl rfl (ps_assign rfl rfl) ?_;refine ok_ne [(1,_),(5,_),(10,_)] ⟨rfl,rfl,rfl,trivial⟩ ?_))
  · have e0 : tabAt seq (dats R) (loS mem) k = false := by
      rw [Bool.eq_false_iff];intro he;unfold tabAt at he;rw [dat_getD R k (by omega)] at he
      simp only [Bool.and_eq_true,decide_eq_true_eq] at he
      obtain ⟨⟨⟨a1,a2⟩,a3⟩,a4⟩ := he
      rw [a2] at hd
      simp only [Bool.true_eq_false,or_false] at hd
      omega
    have e : fEngOk ⟨mem,dats R,seq,sn⟩ = false := eng_tno (k := k) (by simp only [dats_len];omega) e0
    exact ok_endL (vs := [_]) rfl ⟨rfl,trivial⟩ (fun w' hw => ⟨by rw [e];rfl,hw.below⟩)
  · have e0 : tabAt seq (dats R) (loS mem) k = true := by
      have hq : inOrd (nth R k).d = true := by
        cases hq : inOrd (nth R k).d with
        | true => rfl
        | false => rw [hq] at hd;simp at hd
      unfold tabAt;rw [dat_getD R k (by omega),hq]
      rw [hq] at hd
      simp only [and_true] at hd
      simp only [Bool.and_eq_true,decide_eq_true_eq]
      exact ⟨⟨⟨by omega,trivial⟩,by omega⟩,by omega⟩
    refine fun a w' he hw => ⟨⟨k + 1,by omega,fun j hj => by
      rcases Nat.lt_succ_iff_lt_or_eq.1 hj with h' | h'
      · exact HA.out j h'
      · subst h';exact e0⟩,by simp only;omega,he.sub ⟨rfl,?_,?_,rfl,trivial⟩,hw⟩
    · simp only [look];congr 2;rw [lowT_step R _ k (by omega)]
    · simp only [look];congr 2;rw [offE_succ R k (by omega)];omega
  · obtain rfl : k = R.length := by omega
    clear hc hd hlk hI
    refine ok_loop (ι := { k : Nat // k ≤ sn.length ∧ ∀ j,j < k → snapAt seq sn j = true }) (fun k => sn.length - k.1) (fun k => ([(1,pt (ga (y1 0).c) 0),(5,.int .i64 ((mem.length : Int) + (offE (dats R) R.length : Int))),(10,.int .i64 k.1)],_,_)) ⟨0,by omega,fun j h => absurd h (Nat.not_lt_zero j)⟩ (fun a w he hw => ⟨⟨0,by omega,fun j h => absurd h (Nat.not_lt_zero j)⟩,he.sub ⟨rfl,rfl,rfl,trivial⟩,hw⟩) ?_
    rintro ⟨k,hk,ha⟩
    simp only at hk ha ⊢
    have HB := Lib.hid ha;clear ha
    repeat' (first
      | refine ok_seq ?_
      | refine ok_then ?_
      | refine ok_then_ret ?_
      | refine ok_block ?_
      | refine ok_in_normal ?_
      | refine ok_in_ret ?_
      | (refine ok_cond rfl (fun hc => ?_) (fun hc => ?_) <;> (have hd := hc;(try simp only [jA,jB,jC,jD,jE,jF,jG,jH,jI,jJ,jK,jL,jM,jN,jO,jP,jQ,jR,jS] at hd)))
      | refine ok_ret ?_
      | refine ok_exit ?_
      | refine ok_skip ?_
      | (refine ok_region (i := 17) ?_;refine ok_p rfl rfl rfl (ps_move rfl rfl) ?_;refine ok_p rfl rfl rfl (by exact ps_field rfl rfl (isw_ga _)) ?_;refine ok_p rfl rfl rfl (by exact ps_load rfl rfl (by exact Rds.cell (rds_box 0 rfl) rfl)) ?_;refine ok_p rfl rfl rfl (by exact ps_len rfl rfl) ?_;refine ok_p rfl rfl rfl (by exact ps_int rfl rfl rfl rfl) ?_;refine ok_ne [(1,_),(5,_),(10,_),(91,_)] ⟨rfl,rfl,rfl,rfl,trivial⟩ ?_)
      | (refine ok_region (i := 18) ?_;refine ok_p rfl rfl rfl (ps_move rfl rfl) ?_;refine ok_p rfl rfl rfl (by exact ps_add rfl rfl rfl (by omega)) ?_;refine ok_p rfl rfl rfl (ps_assign rfl rfl) ?_;refine ok_ne [(1,_),(5,_),(10,_)] ⟨rfl,rfl,rfl,trivial⟩ ?_)
      | (refine ok_draw (id := 19) 27 rfl (by kernel_rfl) (by kernel_rfl) rfl (by repeat (first | exact pq_body | refine pq_then ?_ | refine pq_in ?_)) [0,1,2,3,4,5,6,7,8,9,10,11,12,13,14,15,16,17,18,19,20,21,22,23] (by decide) rfl ?_;refine okT_take (i := 0) rfl (by kernel_rfl) rfl rfl rfl (by exact ps_field rfl rfl (isw_ga _)) ?_;refine okT_take (i := 1) rfl (by kernel_rfl) rfl rfl rfl (by exact ps_load rfl rfl (by exact Rds.cell (rds_box 0 rfl) rfl)) ?_;refine okT_take (i := 2) rfl (by kernel_rfl) rfl rfl rfl (ps_move rfl rfl) ?_;refine okT_take (i := 3) rfl (by kernel_rfl) rfl rfl rfl (by exact ps_indexN rfl rfl rfl (by omega) (by exact isw_of (isS_fl (by assumption) (by omega)))) ?_;refine okT_take (i := 4) rfl (by kernel_rfl) rfl rfl rfl (by exact ps_load rfl rfl (by exact Rds.cell (rds_rf (by assumption) List.mem_cons_self) (by exact fl_at0 _ _ (by omega) (by decide)))) ?_;refine okT_take (i := 5) rfl (by kernel_rfl) rfl rfl rfl (by exact ps_field rfl rfl (isw_ga _)) ?_;refine okT_take (i := 6) rfl (by kernel_rfl) rfl rfl rfl (by exact ps_load rfl rfl (by exact Rds.cell (rds_box 0 rfl) rfl)) ?_;refine okT_one (i := 7) rfl rfl (by kernel_rfl) rfl rfl rfl (by exact ms_s3 rfl rfl rfl rfl (fun _ _ w hw => in_s _ _ _ w)) (fun y w _ h => by exact h) ?_;rintro y101 hy101;refine okT_take (i := 8) rfl (by kernel_rfl) rfl rfl rfl (by exact ps_not rfl rfl) ?_;refine okT_take (i := 9) rfl (by kernel_rfl) rfl rfl rfl (ps_move rfl rfl) ?_;refine okT_take_g1 (i := 10) rfl (by kernel_rfl) rfl rfl rfl rfl rfl (gF _) (fun hp => by exact ps_move rfl rfl) ?_;refine okT_take_g1 (i := 11) rfl (by kernel_rfl) rfl rfl rfl rfl rfl (gF _) (fun hp => by (exact ps_int rfl (og rfl (by assumption)) rfl rfl)) ?_;refine okT_take_g1 (i := 12) rfl (by kernel_rfl) rfl rfl rfl rfl rfl (gF _) (fun hp => by (exact ps_move rfl (og rfl (by assumption)))) ?_;refine okT_take_g (i := 13) rfl (by kernel_rfl) rfl rfl rfl rfl rfl (gT _) (fun hq hp hqp => by exact ps_field rfl rfl (isw_ga _)) ?_;refine okT_take_g (i := 14) rfl (by kernel_rfl) rfl rfl rfl rfl rfl (gT _) (fun hq hp hqp => by (exact ps_load rfl (og rfl (by assumption)) (by exact Rds.cell (rds_box 0 rfl) rfl))) ?_;refine okT_take_g (i := 15) rfl (by kernel_rfl) rfl rfl rfl rfl rfl (gT _) (fun hq hp hqp => by exact ps_move rfl rfl) ?_;refine okT_take_g (i := 16) rfl (by kernel_rfl) rfl rfl rfl rfl rfl (gT _) (fun hq hp hqp => by (have hqd := hq;(try simp only [jA,jB,jC,jD,jE,jF,jG,jH,jI,jJ,jK,jL,jM,jN,jO,jP,jQ,jR,jS] at hqd);have hpd := hp;(try simp only [jA,jB,jC,jD,jE,jF,jG,jH,jI,jJ,jK,jL,jM,jN,jO,jP,jQ,jR,jS] at hpd);exact ps_sub rfl (og rfl (by assumption)) rfl (by omega))) ?_;refine okT_take_g (i := 17) rfl (by kernel_rfl) rfl rfl rfl rfl rfl (gT _) (fun hq hp hqp => by (have hqd := hq;(try simp only [jA,jB,jC,jD,jE,jF,jG,jH,jI,jJ,jK,jL,jM,jN,jO,jP,jQ,jR,jS] at hqd);have hpd := hp;(try simp only [jA,jB,jC,jD,jE,jF,jG,jH,jI,jJ,jK,jL,jM,jN,jO,jP,jQ,jR,jS] at hpd);exact ps_index rfl (og rfl (by assumption)) (og rfl (by assumption)) (by omega) (by exact isw_of (isS_fl (by assumption) (by omega))))) ?_;refine okT_take_g (i := 18) rfl (by kernel_rfl) rfl rfl rfl rfl rfl (gT _) (fun hq hp hqp => by (have hqd := hq;(try simp only [jA,jB,jC,jD,jE,jF,jG,jH,jI,jJ,jK,jL,jM,jN,jO,jP,jQ,jR,jS] at hqd);have hpd := hp;(try simp only [jA,jB,jC,jD,jE,jF,jG,jH,jI,jJ,jK,jL,jM,jN,jO,jP,jQ,jR,jS] at hpd);exact ps_load rfl (og rfl (by assumption)) (by exact Rds.cell (rds_rf (by assumption) List.mem_cons_self) (by exact fl_at0 _ _ (by omega) (by decide))))) ?_;refine okT_take_g (i := 19) rfl (by kernel_rfl) rfl rfl rfl rfl rfl (gT _) (fun hq hp hqp => by exact ps_field rfl rfl (isw_ga _)) ?_;refine okT_take_g (i := 20) rfl (by kernel_rfl) rfl rfl rfl rfl rfl (gT _) (fun hq hp hqp => by (exact ps_load rfl (og rfl (by assumption)) (by exact Rds.cell (rds_box 0 rfl) rfl))) ?_;refine okT_take_g (i := 21) rfl (by kernel_rfl) rfl rfl rfl rfl rfl (gT _) (fun hq hp hqp => by exact ps_move rfl rfl) ?_;refine okT_take_g (i := 22) rfl (by kernel_rfl) rfl rfl rfl rfl rfl (gT _) (fun hq hp hqp => by (have hqd := hq;(try simp only [jA,jB,jC,jD,jE,jF,jG,jH,jI,jJ,jK,jL,jM,jN,jO,jP,jQ,jR,jS] at hqd);have hpd := hp;(try simp only [jA,jB,jC,jD,jE,jF,jG,jH,jI,jJ,jK,jL,jM,jN,jO,jP,jQ,jR,jS] at hpd);exact ps_indexN rfl (og rfl (by assumption)) (og rfl (by assumption)) (by omega) (by exact isw_of (isS_fl (by assumption) (by omega))))) ?_;refine okT_take_g (i := 23) rfl (by kernel_rfl) rfl rfl rfl rfl rfl (gT _) (fun hq hp hqp => by (have hqd := hq;(try simp only [jA,jB,jC,jD,jE,jF,jG,jH,jI,jJ,jK,jL,jM,jN,jO,jP,jQ,jR,jS] at hqd);have hpd := hp;(try simp only [jA,jB,jC,jD,jE,jF,jG,jH,jI,jJ,jK,jL,jM,jN,jO,jP,jQ,jR,jS] at hpd);exact ps_load rfl (og rfl (by assumption)) (by exact Rds.cell (rds_rf (by assumption) List.mem_cons_self) (by exact fl_at0 _ _ (by omega) (by decide))))) ?_;refine okT_take_g (i := 24) rfl (by kernel_rfl) rfl rfl rfl rfl rfl (gT _) (fun hq hp hqp => by (exact ps_int rfl (og rfl (by assumption)) (og rfl (by assumption)) rfl)) ?_;refine okT_take_g1 (i := 25) rfl (by kernel_rfl) rfl rfl rfl rfl rfl (gF _) (fun hp => by exact ps_and_in (by assumption) rfl rfl rfl) ?_;refine okT_take (i := 26) rfl (by kernel_rfl) rfl rfl rfl (by exact ps_or rfl rfl rfl) ?_;refine okT_done (by kernel_rfl) ?_;refine ok_ne [(1,_),(5,_),(10,_),(120,_)] ⟨rfl,rfl,rfl,rfl,trivial⟩ ?_)
      | (refine ok_region (i := 20) ?_;refine ok_p rfl rfl rfl (ps_assign rfl rfl) ?_;refine ok_ne [(2,_)] ⟨rfl,trivial⟩ ?_)
      | (refine ok_region (i := 21) ?_;refine ok_p rfl rfl rfl (ps_move rfl rfl) ?_;refine ok_p rfl rfl rfl (by exact ps_int rfl rfl rfl rfl) ?_;refine ok_p rfl rfl rfl (ps_assign rfl rfl) ?_;refine ok_ne [(2,_)] ⟨rfl,trivial⟩ ?_))
    · have e : fEngOk ⟨mem,dats R,seq,sn⟩ = false := eng_at (k := k) (by simp only;omega) (by unfold snapAt;rw [decide_eq_false_iff_not];simp only [tn1] at hd ⊢;omega)
      exact ok_endL (vs := [_]) rfl ⟨rfl,trivial⟩ (fun w' hw => ⟨by rw [e];rfl,hw.below⟩)
    · have e : snapAt seq sn k = true := by unfold snapAt;rw [decide_eq_true_eq];simp only [tn1] at hd ⊢;omega
      refine fun a w' he hw => ⟨⟨k + 1,by omega,fun j hj => by
        rcases Nat.lt_succ_iff_lt_or_eq.1 hj with h' | h'
        · exact HB.out j h'
        · subst h';exact e⟩,by simp only;omega,he.sub ⟨rfl,rfl,rfl,trivial⟩,hw⟩
    · obtain rfl : k = sn.length := by omega
      have e := eng_end (e := ⟨mem,dats R,seq,sn⟩) ⟨hok.1,by rw [dats_len];exact hok.2.1,hok.2.2⟩ (fun j hj => HA.out j (by simpa [dats_len] using hj)) (fun j hj => HB.out j hj)
      refine ok_endL (vs := [_]) rfl ⟨rfl,trivial⟩ (fun w' hw => ⟨?_,hw.below⟩)
      rw [e]
      simp only [retV]
      congr 2
      rw [Bool.eq_iff_iff];simp only [decide_eq_true_eq];omega
end Go.Proofs.YtmfojbidojjciaaGreat
/- Rows of impl.Ent: clone. -/
namespace Go.Proofs.YtmfojbidojjciaaGreat
open Go.RowKit
attribute [local irreducible] Calls
theorem cloneE_c (A : Option Addr) (c : Nat) (L : List Ent) (w : World) (h : Rd w A (fl L)) (m : L.length ≤ 4194304) :
    Calls Tryz.prog 271 #[.slice A L.length c] w fun e w' => ∃ y : Ys,e = .returned (.slice (y 0).A L.length (y 0).c) ∧ True ∧ Below w.heap.size w w' ∧ NewOk w.heap.size [.row 204 4 (y 0).A L.length (y 0).c (fl L)] [] w' := by
  refine ok_enter 8 Tryz.func271 rfl rfl rfl ?_
  repeat' (first
    | refine ok_seq ?_
    | refine ok_then ?_
    | refine ok_then_ret ?_
    | refine ok_then_exit ?_
    | refine ok_block ?_
    | refine ok_in_normal ?_
    | refine ok_in_ret ?_
    | refine ok_in_exit ?_
    | refine ok_in_other rfl ?_
    | (refine ok_cond rfl (fun hc => ?_) (fun hc => ?_) <;> (have hd := hc;(try simp only [jA,jB,jC,jD,jE,jF,jG,jH,jI,jJ,jK,jL,jM,jN,jO,jP,jQ,jR,jS] at hd)))
    | refine ok_ret ?_
    | refine ok_exit ?_
    | refine ok_skip ?_
    | (refine ok_region (i := 0) ?_;refine ok_p rfl rfl rfl (ps_assign rfl rfl) ?_;refine ok_ne [(0,_)] ⟨rfl,trivial⟩ ?_)
    | (refine ok_region (i := 1) ?_;refine ok_p rfl rfl rfl (ps_move rfl rfl) ?_;refine ok_p rfl rfl rfl (by first | exact ps_eql_nil rfl rfl | exact ps_int rfl rfl rfl rfl) ?_;refine ok_ne [(0,_),(4,_)] ⟨rfl,rfl,trivial⟩ ?_)
    | (refine ok_region (i := 2) ?_;refine ok_p rfl rfl rfl (ps_assign rfl rfl) ?_;refine ok_ne [(2,_)] ⟨rfl,trivial⟩ ?_)
    | (refine ok_region (i := 3) ?_;refine ok_m rfl rfl rfl (by exact ms_lit rfl parts_nil rfl rfl rfl) ?_;rintro y5 hy5;refine ok_p rfl rfl rfl (ps_move rfl rfl) ?_;refine ok_m rfl rfl rfl (by exact ms_app0 (M := L) 0 rfl rfl rfl rfl (rds_rf h (by first | exact List.mem_cons_self | exact List.mem_cons_of_mem _ List.mem_cons_self | simp)) rfl (by omega) (by omega)) ?_;rintro y7 hy7;refine ok_p rfl rfl rfl (ps_assign rfl rfl) ?_;refine ok_ne [(2,_)] ⟨rfl,trivial⟩ ?_))
  · have h0 : L = [] := by
      cases A with
      | some a => cases hc
      | none =>
        rcases L with _ | ⟨x,l⟩
        · rfl
        · have := isS_fl h (by simp);obtain ⟨ad,e⟩ := this;cases e
    subst h0
    refine ok_endL (vs := [_]) rfl ⟨rfl,trivial⟩ (fun w' hw => ?_)
    refine ⟨mkY none 0 w,?_,trivial,hw.below,?_⟩
    · rfl
    · exact NewOk.one (x := .row 204 4 none 0 0 (fl ([] : List Ent))) (Own.nil w' w.heap.size 204 4)
  · refine ok_endL (vs := [_]) rfl ⟨rfl,trivial⟩ (fun w' hw => ?_)
    refine ⟨yl [y7 0] (y7 0),?_,trivial,hw.below,?_⟩
    · rfl
    · have := NewOk.of (hw.sel [0] (by decide) rfl (fun _ h => h))
      exact this
end Go.Proofs.YtmfojbidojjciaaGreat
/- Entries put by the reference; engines copied. -/
namespace Go.Proofs.YtmfojbidojjciaaGreat
open Go.RowKit
attribute [local irreducible] Calls
structure PutI (l : List Ent) (x : Ent) where
  k : Nat
  put : Bool
  L : List Ent
  A : Option Addr
  c : Nat
  hk : k ≤ l.length ∧ L.length ≤ k + put.toNat
  hp : insE l x = L ++ (if put = true then l.drop k else insE (l.drop k) x)
theorem put_a {l : List Ent} {x : Ent} {k : Nat} {L : List Ent} (hk : k < l.length) (hp : insE l x = L ++ insE (l.drop k) x) (ha : aheadE x (nth l k) = true) : insE l x = (L ++ [x] ++ [nth l k]) ++ l.drop (k + 1) := by
  have e : l.drop k = nth l k :: l.drop (k + 1) := by rw [List.drop_eq_getElem_cons hk];congr 1;simp [nth,hk]
  rw [hp,e,insE,if_pos ha];simp
theorem put_b {l : List Ent} {x : Ent} {k : Nat} {L : List Ent} (hk : k < l.length) (hp : insE l x = L ++ insE (l.drop k) x) (ha : aheadE x (nth l k) = false) : insE l x = (L ++ [nth l k]) ++ insE (l.drop (k + 1)) x := by
  have e : l.drop k = nth l k :: l.drop (k + 1) := by rw [List.drop_eq_getElem_cons hk];congr 1;simp [nth,hk]
  rw [hp,e,insE,if_neg (by rw [ha];decide)];simp
theorem put_c {l : List Ent} {x : Ent} {k : Nat} {L : List Ent} (hk : k < l.length) (hp : insE l x = L ++ l.drop k) : insE l x = (L ++ [nth l k]) ++ l.drop (k + 1) := by
  have e : l.drop k = nth l k :: l.drop (k + 1) := by rw [List.drop_eq_getElem_cons hk];congr 1;simp [nth,hk]
  rw [hp,e];simp
theorem s_l9Put (A : Option Addr) (c : Nat) (l : List Ent) (x : Ent) (w : World) (h : Rd w A (fl l)) (hl : l.length ≤ 4194304) :
    Calls Tryz.prog 202 #[.slice A l.length c,.agg (Dat.cells x).toArray] w fun e w' => ∃ y : Ys,e = .returned (.slice (y 0).A (insE l x).length (y 0).c) ∧ True ∧ Below w.heap.size w w' ∧ NewOk w.heap.size [.row 204 4 (y 0).A (insE l x).length (y 0).c (fl (insE l x))] [] w' := by
  refine ok_enter 43 Tryz.func202 rfl rfl rfl ?_
  repeat' (first
    | refine ok_seq ?_
    | refine ok_then ?_
    | refine ok_block ?_
    | (refine ok_region (i := 0) ?_;refine ok_m rfl rfl rfl (by exact ms_box rfl rfl rfl) ?_;rintro y3 hy3;refine ok_p rfl rfl rfl (ps_assign rfl rfl) ?_;refine ok_ne [(0,_),(3,_)] ⟨rfl,rfl,trivial⟩ ?_)
    | (refine ok_region (i := 1) ?_;refine ok_m rfl rfl rfl (by exact ms_lit rfl parts_nil rfl rfl rfl) ?_;rintro y8 hy8;refine ok_p rfl rfl rfl (ps_assign rfl rfl) ?_;refine ok_ne [(0,_),(3,_),(5,_)] ⟨rfl,rfl,rfl,trivial⟩ ?_)
    | (refine ok_region (i := 2) ?_;refine ok_p rfl rfl rfl (ps_assign rfl rfl) ?_;refine ok_ne [(0,_),(3,_),(5,_),(6,_)] ⟨rfl,rfl,rfl,rfl,trivial⟩ ?_)
    | (refine ok_region (i := 3) ?_;refine ok_p rfl rfl rfl (ps_assign rfl rfl) ?_;refine ok_ne [(0,_),(3,_),(5,_),(6,_),(7,_)] ⟨rfl,rfl,rfl,rfl,rfl,trivial⟩ ?_))
  refine ok_loop (ι := PutI l x) (fun q => l.length - q.k) (fun q => ([(0,.slice A l.length c),(3,pt (ga (y3 0).c) 0),(5,.slice q.A q.L.length q.c),(6,.bool q.put),(7,.int .i64 q.k)],[.row 204 4 q.A q.L.length q.c (fl q.L),.box (y3 0).c 204 (Dat.cells x)],_)) ⟨0,false,[],ga (y8 0).c,0,by simp,rfl⟩ (fun a' w he hw => ⟨⟨0,false,[],ga (y8 0).c,0,by simp,rfl⟩,he.sub ⟨rfl,rfl,rfl,rfl,rfl,trivial⟩,hw⟩) ?_
  rintro ⟨k,put,L,B,d,hk,hp⟩
  simp only at hk hp ⊢
  have HP := Lib.hid hp;clear hp
  have hpt : put.toNat ≤ 1 := by cases put <;> decide
  repeat' (first
    | refine ok_seq ?_
    | refine ok_then ?_
    | refine ok_block ?_
    | refine ok_in_normal ?_
    | (refine ok_cond rfl (fun hc => ?_) (fun hc => ?_) <;> (have hd := hc;(try simp only [jA,jB,jC,jD,jE,jF,jG,jH,jI,jJ,jK,jL,jM,jN,jO,jP,jQ,jR,jS] at hd)))
    | refine ok_ret ?_
    | refine ok_exit ?_
    | refine ok_skip ?_
    | (refine ok_region (i := 4) ?_;refine ok_p rfl rfl rfl (ps_move rfl rfl) ?_;refine ok_p rfl rfl rfl (ps_move rfl rfl) ?_;refine ok_p rfl rfl rfl (by exact ps_len rfl rfl) ?_;refine ok_p rfl rfl rfl (by exact ps_int rfl rfl rfl rfl) ?_;refine ok_ne [(0,_),(3,_),(5,_),(6,_),(7,_),(12,_)] ⟨rfl,rfl,rfl,rfl,rfl,rfl,trivial⟩ ?_)
    | (refine ok_region (i := 5) ?_;refine ok_p rfl rfl rfl (ps_move rfl rfl) ?_;refine ok_p rfl rfl rfl (by exact ps_add rfl rfl rfl (by omega)) ?_;refine ok_p rfl rfl rfl (ps_assign rfl rfl) ?_;refine ok_ne [(0,_),(3,_),(5,_),(6,_),(7,_)] ⟨rfl,rfl,rfl,rfl,rfl,trivial⟩ ?_)
    | (refine ok_draw (id := 6) 10 rfl (by kernel_rfl) (by kernel_rfl) rfl (by repeat (first | exact pq_body | refine pq_then ?_ | refine pq_in ?_)) [0,1,2,3,4,5,6,7,8,9,10,11,12,13,14,15,16,17,18,19,20,21,22,23] (by decide) rfl ?_;refine okT_take (i := 0) rfl (by kernel_rfl) rfl rfl rfl (ps_move rfl rfl) ?_;refine okT_take (i := 1) rfl (by kernel_rfl) rfl rfl rfl (by exact ps_not rfl rfl) ?_;refine okT_take (i := 2) rfl (by kernel_rfl) rfl rfl rfl (ps_move rfl rfl) ?_;refine okT_take_g1 (i := 3) rfl (by kernel_rfl) rfl rfl rfl rfl rfl (gT _) (fun hp => by exact ps_loads rfl rfl (by exact rds_box 1 rfl) rfl rfl (by decide)) ?_;refine okT_take_g1 (i := 4) rfl (by kernel_rfl) rfl rfl rfl rfl rfl (gT _) (fun hp => by exact ps_move rfl rfl) ?_;refine okT_take_g1 (i := 5) rfl (by kernel_rfl) rfl rfl rfl rfl rfl (gT _) (fun hp => by exact ps_move rfl rfl) ?_;refine okT_take_g1 (i := 6) rfl (by kernel_rfl) rfl rfl rfl rfl rfl (gT _) (fun hp => by (have hpd := hp;(try simp only [jA,jB,jC,jD,jE,jF,jG,jH,jI,jJ,jK,jL,jM,jN,jO,jP,jQ,jR,jS] at hpd);exact ps_indexN rfl (og rfl (by assumption)) (og rfl (by assumption)) (by omega) (by exact isw_of (isS_fl (by assumption) (by omega))))) ?_;refine okT_take_g1 (i := 7) rfl (by kernel_rfl) rfl rfl rfl rfl rfl (gT _) (fun hp => by (have hpd := hp;(try simp only [jA,jB,jC,jD,jE,jF,jG,jH,jI,jJ,jK,jL,jM,jN,jO,jP,jQ,jR,jS] at hpd);exact ps_loadsF rfl (og rfl (by assumption)) (by exact rds_rf (by assumption) List.mem_cons_self) (by rfl) (by rfl) (by omega) rfl)) ?_;refine okT_one_g1 (i := 8) rfl rfl (by kernel_rfl) rfl rfl rfl rfl rfl (gT _) (fun hp => by (exact ms_s2 rfl (og rfl (by assumption)) (og rfl (by assumption)) (fun _ _ w hw => ahead_c _ _ w))) (fun w h => by exact h) ?_;refine okT_take (i := 9) rfl (by kernel_rfl) rfl rfl rfl (by exact ps_and rfl rfl rfl) ?_;refine okT_done (by kernel_rfl) ?_;refine ok_ne [(0,_),(3,_),(5,_),(6,_),(7,_),(24,_)] ⟨rfl,rfl,rfl,rfl,rfl,rfl,trivial⟩ ?_)
    | (refine ok_region (i := 7) ?_;refine ok_p rfl rfl rfl (ps_move rfl rfl) ?_;refine ok_p rfl rfl rfl (by exact ps_loads rfl rfl (by exact rds_box 1 rfl) rfl rfl (by decide)) ?_;refine ok_m rfl rfl rfl (by exact ms_lit rfl (parts_cons rfl parts_nil) rfl rfl rfl) ?_;rintro y27 hy27;refine ok_m rfl rfl rfl (by exact ms_appF (α := Ent) (L := L) (M := [x]) 1 rfl rfl rfl rfl (rds_row 0 rfl) rfl (by simp;omega) (by simp;omega)) ?_;rintro y28 hy28;refine ok_p rfl rfl rfl (ps_assign rfl rfl) ?_;refine ok_ne [(0,_),(3,_),(5,_),(7,_)] ⟨rfl,rfl,rfl,rfl,trivial⟩ ?_)
    | (refine ok_region (i := 8) ?_;refine ok_p rfl rfl rfl (ps_assign rfl rfl) ?_;refine ok_ne [(0,_),(3,_),(5,_),(6,_),(7,_)] ⟨rfl,rfl,rfl,rfl,rfl,trivial⟩ ?_)
    | (refine ok_region (i := 9) ?_;refine ok_p rfl rfl rfl (ps_move rfl rfl) ?_;refine ok_p rfl rfl rfl (ps_move rfl rfl) ?_;refine ok_p rfl rfl rfl (ps_move rfl rfl) ?_;refine ok_p rfl rfl rfl (by exact ps_indexN rfl rfl rfl (by omega) (by exact isw_of (isS_fl (by assumption) (by omega)))) ?_;refine ok_p rfl rfl rfl (by exact ps_loadsF rfl rfl (by exact rds_rf (by assumption) List.mem_cons_self) (by rfl) (by rfl) (by omega) rfl) ?_;refine ok_m rfl rfl rfl (by exact ms_lit rfl (parts_cons rfl parts_nil) rfl rfl rfl) ?_;rintro y34 hy34;refine ok_m rfl rfl rfl (by first | exact ms_appN (L ++ [x]) [nth l k] 2 rfl rfl rfl rfl (rds_row 0 rfl) rfl (by simp) rfl (by simp;omega) (by simp;omega) | exact ms_appF (α := Ent) (L := L) (M := [nth l k]) 1 rfl rfl rfl rfl (rds_row 0 rfl) rfl (by simp;omega) (by simp;omega)) ?_;rintro y35 hy35;refine ok_p rfl rfl rfl (ps_assign rfl rfl) ?_;refine ok_ne [(0,_),(3,_),(5,_),(6,_),(7,_)] ⟨rfl,rfl,rfl,rfl,rfl,trivial⟩ ?_)
    | (refine ok_region (i := 10) ?_;refine ok_p rfl rfl rfl (ps_move rfl rfl) ?_;refine ok_p rfl rfl rfl (by exact ps_not rfl rfl) ?_;refine ok_ne [(3,_),(5,_),(37,_)] ⟨rfl,rfl,rfl,trivial⟩ ?_)
    | (refine ok_region (i := 11) ?_;refine ok_p rfl rfl rfl (ps_move rfl rfl) ?_;refine ok_p rfl rfl rfl (by exact ps_loads rfl rfl (by exact rds_box 1 rfl) rfl rfl (by decide)) ?_;refine ok_m rfl rfl rfl (by exact ms_lit rfl (parts_cons rfl parts_nil) rfl rfl rfl) ?_;rintro y40 hy40;refine ok_m rfl rfl rfl (by exact ms_appF (α := Ent) (L := L) (M := [x]) 1 rfl rfl rfl rfl (rds_row 0 rfl) rfl (by simp;omega) (by simp;omega)) ?_;rintro y41 hy41;refine ok_p rfl rfl rfl (ps_assign rfl rfl) ?_;refine ok_ne [(5,_)] ⟨rfl,trivial⟩ ?_)
    | (refine ok_region (i := 12) ?_;refine ok_p rfl rfl rfl (ps_move rfl rfl) ?_;refine ok_p rfl rfl rfl (ps_assign rfl rfl) ?_;refine ok_ne [(4,_)] ⟨rfl,trivial⟩ ?_))
  · have hp := HP.out
    have hpz : put.toNat = 0 := by rw [hd.1];rfl
    rw [hd.1] at hp
    refine fun a' w' he hw => ⟨⟨k + 1,true,L ++ [x] ++ [nth l k],(y35 0).A,(y35 0).c,by simp only [List.length_append,List.length_singleton,Bool.toNat_true];omega,put_a (by omega) hp hd.2⟩,by simp only;omega,he.sub ⟨rfl,rfl,by simp only [List.length_append];rfl,rfl,rfl,trivial⟩,?_⟩
    simp only [List.length_append]
    exact hw.tl.tl
  · refine fun a' w' he hw => ⟨⟨k + 1,put,L ++ [nth l k],(y35 0).A,(y35 0).c,by simp only [List.length_append,List.length_singleton];omega,?_⟩,by simp only;omega,he.sub ⟨rfl,rfl,by simp only [List.length_append];rfl,rfl,rfl,trivial⟩,by simp only [List.length_append];exact hw.tl⟩
    have hp := HP.out
    cases put with
    | true => exact put_c (by omega) hp
    | false =>
      rcases hd with hd | hd
      · cases hd
      · exact put_b (by omega) hp hd
  · have hq := hd
    clear hd
    obtain rfl : k = l.length := by omega
    have hp := HP.out
    rw [hq,if_neg (by decide),List.drop_length] at hp
    have e : insE l x = L ++ [x] := hp
    rw [e]
    refine ok_endL (vs := [_]) rfl ⟨rfl,trivial⟩ (fun w' hw => ⟨mkY (y41 0).A (y41 0).c w',by rw [List.length_append];rfl,trivial,hw.below,?_⟩)
    rw [List.length_append]
    exact NewOk.of (hw.sel [1] (by decide) rfl (G' := []) (fun _ h => by cases h))
  · have hq := hd
    clear hd
    obtain rfl : k = l.length := by omega
    have hp := HP.out
    rw [hq,if_pos rfl,List.drop_length,List.append_nil] at hp
    rw [hp]
    exact ok_endL (vs := [_]) rfl ⟨rfl,trivial⟩ (fun w' hw => ⟨mkY B d w',rfl,trivial,hw.below,NewOk.of (hw.sel [0] (by decide) rfl (G' := []) (fun _ h => by cases h))⟩)
structure CpE (R : List LE) where
  S : List LE
  A : Option Addr
  c : Nat
  hs : S.length ≤ R.length
  hd : dats S = (dats R).take S.length
theorem CpE.snoc {R S : List LE} (hs : S.length < R.length) (hd : dats S = (dats R).take S.length) (A : Option Addr) (c : Nat) : dats (S ++ [⟨(nth R S.length).d,A,c⟩]) = (dats R).take (S ++ [(⟨(nth R S.length).d,A,c⟩ : LE)]).length := by
  have h' : S.length < (dats R).length := by rw [dats_len];exact hs
  rw [dats_snoc,hd,List.length_append,List.length_singleton,List.take_succ_eq_append_getElem h']
  congr 2
  simp [dats,nthL R S.length hs]
/-- The places of a copy. -/
def cpY (mA : Option Addr) (mc : Nat) (tA : Option Addr) (tc : Nat) (sA : Option Addr) (sc : Nat) (S : List LE) (w : World) : Ys := mkR [⟨mA,mc,w,0⟩,⟨tA,tc,w,0⟩,⟨sA,sc,w,0⟩] S w
theorem cpY_loc (mA : Option Addr) (mc : Nat) (tA : Option Addr) (tc : Nat) (sA : Option Addr) (sc : Nat) (S : List LE) (w : World) : locs 3 (dats S) (cpY mA mc tA tc sA sc S w) = S := locs_mkR [⟨mA,mc,w,0⟩,⟨tA,tc,w,0⟩,⟨sA,sc,w,0⟩] S w 3 rfl
theorem s_l20Copy0 (mA : Option Addr) (mc : Nat) (mem : List Ent) (tA : Option Addr) (tc : Nat) (R : List LE) (seq : Int) (sA : Option Addr) (sc : Nat) (sn : List Int) (w : World) (h1 : Rd w mA (fl mem)) (h2 : RdN w tA R) (h3 : Rd w sA (fl sn)) (hl1 : mem.length ≤ 4194304) (hl2 : R.length ≤ 4194304) (hs : ∀ x ∈ dats R,x.length ≤ 4194304) (hl3 : sn.length ≤ 4194304) :
    Calls Tryz.prog 128 #[.agg #[.slice mA mem.length mc,.slice tA R.length tc,.int .i64 seq,.slice sA sn.length sc]] w fun e w' => ∃ y : Ys,e = .returned (.agg #[.slice (y 0).A mem.length (y 0).c,.slice (y 1).A R.length (y 1).c,.int .i64 seq,.slice (y 2).A sn.length (y 2).c]) ∧ True ∧ Below w.heap.size w w' ∧ NewOk w.heap.size [.row 204 4 (y 0).A mem.length (y 0).c (fl mem),.row 85 1 (y 1).A R.length (y 1).c (fl (locs 3 (dats R) y)),.bag 204 4 (rowsOf (locs 3 (dats R) y)),.row 3 1 (y 2).A sn.length (y 2).c (fl sn)] [] w' := by
  obtain ⟨q1,q2⟩ := h2
  have q2 : ∀ k,k < R.length → Rd w (nth R k).A (fl (nth R k).d) := q2
  have Q2 := Lib.hid q2;clear q2
  have HL := Lib.hid (lens_at hs);clear hs
  refine ok_enter 36 Tryz.func128 rfl rfl rfl ?_
  repeat' (first
    | refine ok_seq ?_
    | refine ok_then ?_
    | refine ok_block ?_
    | (refine ok_region (i := 0) ?_;refine ok_m rfl rfl rfl (by exact ms_box rfl rfl rfl) ?_;rintro y1 hy1;refine ok_m rfl rfl rfl (by exact ms_alloc rfl) ?_;rintro y2 hy2;refine ok_ne [(1,_),(2,_)] ⟨rfl,rfl,trivial⟩ ?_)
    | (apply mrg5;(focus (intro hk;refine ok_draw (id := 1) 12 rfl (by kernel_rfl) (by kernel_rfl) rfl (by repeat (first | exact pq_body | refine pq_then ?_ | refine pq_in ?_)) [0,1,2,3,4,5,6,7,8,9,10,11,12,13,14,15,16,17,18,19,20,21,22,23] (by decide) rfl ?_;refine okT_take (i := 1) rfl (by kernel_rfl) rfl rfl rfl (by exact ps_field rfl rfl (isw_ga _)) ?_;refine okT_take (i := 2) rfl (by kernel_rfl) rfl rfl rfl (by exact ps_load rfl rfl (by exact Rds.cell (rds_box 1 rfl) rfl)) ?_;refine okT_take (i := 4) rfl (by kernel_rfl) rfl rfl rfl (by exact ps_field rfl rfl (isw_ga _)) ?_;refine okT_take (i := 5) rfl (by kernel_rfl) rfl rfl rfl (by exact ps_load rfl rfl (by exact Rds.cell (rds_box 1 rfl) rfl)) ?_;refine okT_take (i := 7) rfl (by kernel_rfl) rfl rfl rfl (by exact ps_field rfl rfl (isw_ga _)) ?_;refine okT_take (i := 8) rfl (by kernel_rfl) rfl rfl rfl (by exact ps_load rfl rfl (by exact Rds.cell (rds_box 1 rfl) rfl)) ?_;refine okT_many (by kernel_rfl) (all_cons (at_m (i := 0) rfl rfl rfl rfl rfl (by exact ms_lit rfl parts_nil rfl rfl rfl) (fun y w _ h => by exact h.tl) ?_) (all_cons (at_m (i := 6) rfl rfl rfl rfl rfl (by exact ms_lit rfl parts_nil rfl rfl rfl) (fun y w _ h => by exact h.tl) ?_) (all_cons (at_m (i := 11) rfl rfl rfl rfl rfl (by exact ms_alloc rfl) (fun y w _ h => by exact h.tl) ?_) all_nil)));(focus (rintro y5 hy5;refine okT_many (by kernel_rfl) (all_cons (at_m (i := 3) rfl rfl rfl rfl rfl (by exact ms_app0 (M := mem) 0 rfl rfl rfl rfl (rds_rf h1 List.mem_cons_self) rfl (by omega) (by omega)) (fun y w _ h => by exact h.tl) ?_) (all_cons (at_m (i := 6) rfl rfl rfl rfl rfl (by exact ms_lit rfl parts_nil rfl rfl rfl) (fun y w _ h => by exact h.tl.tl) ?_) (all_cons (at_m (i := 11) rfl rfl rfl rfl rfl (by exact ms_alloc rfl) (fun y w _ h => by exact h.tl.tl) ?_) all_nil)));(focus (rintro y8 hy8;refine okT_many (by kernel_rfl) (all_cons (at_m (i := 6) rfl rfl rfl rfl rfl (by exact ms_lit rfl parts_nil rfl rfl rfl) (fun y w _ h => by exact h.tl.tl) ?_) (all_cons (at_m (i := 11) rfl rfl rfl rfl rfl (by exact ms_alloc rfl) (fun y w _ h => by exact h.tl.tl) ?_) all_nil));(focus (rintro y11 hy11;refine okT_many (by kernel_rfl) (all_cons (at_m (i := 9) rfl rfl rfl rfl rfl (by exact ms_app0 (M := sn) 0 rfl rfl rfl rfl (rds_rf h3 List.mem_cons_self) rfl (by omega) (by omega)) (fun y w _ h => by exact h.tl.tl) ?_) (all_cons (at_m (i := 11) rfl rfl rfl rfl rfl (by exact ms_alloc rfl) (fun y w _ h => by exact h.tl.tl.tl) ?_) all_nil));(focus (rintro y14 hy14;refine okT_take (i := 10) rfl (by kernel_rfl) rfl rfl rfl (by exact ps_bld rfl (parts_cons rfl (parts_cons rfl (parts_cons rfl parts_nil))) rfl) ?_;refine okT_one (i := 11) rfl rfl (by kernel_rfl) rfl rfl rfl (by exact ms_alloc rfl) (fun y w _ h => by exact h.tl.tl.tl) ?_;rintro y3 hy3;refine okT_done (by kernel_rfl) ?_;refine ok_m_ rfl rfl (by exact ms_store 0 rfl rfl rfl rfl rfl rfl rfl rfl) ?_;rintro y_ hy_;refine ok_ne [(1,_),(2,_),(3,_)] ⟨rfl,rfl,rfl,trivial⟩ ?_;exact hk y5 y8 y11 y14 y3));(focus (rintro y3 hy3;refine okT_one (i := 9) rfl rfl (by kernel_rfl) rfl rfl rfl (by exact ms_app0 (M := sn) 1 rfl rfl rfl rfl (rds_rf h3 List.mem_cons_self) rfl (by omega) (by omega)) (fun y w _ h => by exact h.tl.tl.tl) ?_;rintro y14 hy14;refine okT_take (i := 10) rfl (by kernel_rfl) rfl rfl rfl (by exact ps_bld rfl (parts_cons rfl (parts_cons rfl (parts_cons rfl parts_nil))) rfl) ?_;refine okT_done (by kernel_rfl) ?_;refine ok_m_ rfl rfl (by exact ms_store 0 rfl rfl rfl rfl rfl rfl rfl rfl) ?_;rintro y_ hy_;refine ok_ne [(1,_),(2,_),(3,_)] ⟨rfl,rfl,rfl,trivial⟩ ?_;exact hk y5 y8 y11 y14 y3))));(focus (rintro y3 hy3;refine okT_one (i := 6) rfl rfl (by kernel_rfl) rfl rfl rfl (by exact ms_lit rfl parts_nil rfl rfl rfl) (fun y w _ h => by exact h.tl.tl.tl) ?_;rintro y11 hy11;refine okT_one (i := 9) rfl rfl (by kernel_rfl) rfl rfl rfl (by exact ms_app0 (M := sn) 0 rfl rfl rfl rfl (rds_rf h3 List.mem_cons_self) rfl (by omega) (by omega)) (fun y w _ h => by exact h.tl.tl.tl) ?_;rintro y14 hy14;refine okT_take (i := 10) rfl (by kernel_rfl) rfl rfl rfl (by exact ps_bld rfl (parts_cons rfl (parts_cons rfl (parts_cons rfl parts_nil))) rfl) ?_;refine okT_done (by kernel_rfl) ?_;refine ok_m_ rfl rfl (by exact ms_store 1 rfl rfl rfl rfl rfl rfl rfl rfl) ?_;rintro y_ hy_;refine ok_ne [(1,_),(2,_),(3,_)] ⟨rfl,rfl,rfl,trivial⟩ ?_;exact ok_sel [1,0,2,3,4,5,6,7,8,9,10,11,12] (by decide) rfl (hk y5 y8 y11 y14 y3)))));(focus (rintro y11 hy11;refine okT_many (by kernel_rfl) (all_cons (at_m (i := 3) rfl rfl rfl rfl rfl (by exact ms_app0 (M := mem) 1 rfl rfl rfl rfl (rds_rf h1 List.mem_cons_self) rfl (by omega) (by omega)) (fun y w _ h => by exact h.tl.tl) ?_) (all_cons (at_m (i := 11) rfl rfl rfl rfl rfl (by exact ms_alloc rfl) (fun y w _ h => by exact h.tl.tl.tl) ?_) all_nil));(focus (rintro y8 hy8;refine okT_many (by kernel_rfl) (all_cons (at_m (i := 9) rfl rfl rfl rfl rfl (by exact ms_app0 (M := sn) 0 rfl rfl rfl rfl (rds_rf h3 List.mem_cons_self) rfl (by omega) (by omega)) (fun y w _ h => by exact h.tl.tl) ?_) (all_cons (at_m (i := 11) rfl rfl rfl rfl rfl (by exact ms_alloc rfl) (fun y w _ h => by exact h.tl.tl.tl) ?_) all_nil));(focus (rintro y14 hy14;refine okT_take (i := 10) rfl (by kernel_rfl) rfl rfl rfl (by exact ps_bld rfl (parts_cons rfl (parts_cons rfl (parts_cons rfl parts_nil))) rfl) ?_;refine okT_one (i := 11) rfl rfl (by kernel_rfl) rfl rfl rfl (by exact ms_alloc rfl) (fun y w _ h => by exact h.tl.tl.tl) ?_;rintro y3 hy3;refine okT_done (by kernel_rfl) ?_;refine ok_m_ rfl rfl (by exact ms_store 0 rfl rfl rfl rfl rfl rfl rfl rfl) ?_;rintro y_ hy_;refine ok_ne [(1,_),(2,_),(3,_)] ⟨rfl,rfl,rfl,trivial⟩ ?_;exact hk y5 y8 y11 y14 y3));(focus (rintro y3 hy3;refine okT_one (i := 9) rfl rfl (by kernel_rfl) rfl rfl rfl (by exact ms_app0 (M := sn) 1 rfl rfl rfl rfl (rds_rf h3 List.mem_cons_self) rfl (by omega) (by omega)) (fun y w _ h => by exact h.tl.tl.tl) ?_;rintro y14 hy14;refine okT_take (i := 10) rfl (by kernel_rfl) rfl rfl rfl (by exact ps_bld rfl (parts_cons rfl (parts_cons rfl (parts_cons rfl parts_nil))) rfl) ?_;refine okT_done (by kernel_rfl) ?_;refine ok_m_ rfl rfl (by exact ms_store 0 rfl rfl rfl rfl rfl rfl rfl rfl) ?_;rintro y_ hy_;refine ok_ne [(1,_),(2,_),(3,_)] ⟨rfl,rfl,rfl,trivial⟩ ?_;exact hk y5 y8 y11 y14 y3))));(focus (rintro y3 hy3;refine okT_one (i := 3) rfl rfl (by kernel_rfl) rfl rfl rfl (by exact ms_app0 (M := mem) 2 rfl rfl rfl rfl (rds_rf h1 List.mem_cons_self) rfl (by omega) (by omega)) (fun y w _ h => by exact h.tl.tl.tl) ?_;rintro y8 hy8;refine okT_one (i := 9) rfl rfl (by kernel_rfl) rfl rfl rfl (by exact ms_app0 (M := sn) 1 rfl rfl rfl rfl (rds_rf h3 List.mem_cons_self) rfl (by omega) (by omega)) (fun y w _ h => by exact h.tl.tl.tl) ?_;rintro y14 hy14;refine okT_take (i := 10) rfl (by kernel_rfl) rfl rfl rfl (by exact ps_bld rfl (parts_cons rfl (parts_cons rfl (parts_cons rfl parts_nil))) rfl) ?_;refine okT_done (by kernel_rfl) ?_;refine ok_m_ rfl rfl (by exact ms_store 0 rfl rfl rfl rfl rfl rfl rfl rfl) ?_;rintro y_ hy_;refine ok_ne [(1,_),(2,_),(3,_)] ⟨rfl,rfl,rfl,trivial⟩ ?_;exact hk y5 y8 y11 y14 y3))));(focus (rintro y3 hy3;refine okT_many (by kernel_rfl) (all_cons (at_m (i := 3) rfl rfl rfl rfl rfl (by exact ms_app0 (M := mem) 1 rfl rfl rfl rfl (rds_rf h1 List.mem_cons_self) rfl (by omega) (by omega)) (fun y w _ h => by exact h.tl.tl) ?_) (all_cons (at_m (i := 6) rfl rfl rfl rfl rfl (by exact ms_lit rfl parts_nil rfl rfl rfl) (fun y w _ h => by exact h.tl.tl.tl) ?_) all_nil));(focus (rintro y8 hy8;refine okT_one (i := 6) rfl rfl (by kernel_rfl) rfl rfl rfl (by exact ms_lit rfl parts_nil rfl rfl rfl) (fun y w _ h => by exact h.tl.tl.tl) ?_;rintro y11 hy11;refine okT_one (i := 9) rfl rfl (by kernel_rfl) rfl rfl rfl (by exact ms_app0 (M := sn) 0 rfl rfl rfl rfl (rds_rf h3 List.mem_cons_self) rfl (by omega) (by omega)) (fun y w _ h => by exact h.tl.tl.tl) ?_;rintro y14 hy14;refine okT_take (i := 10) rfl (by kernel_rfl) rfl rfl rfl (by exact ps_bld rfl (parts_cons rfl (parts_cons rfl (parts_cons rfl parts_nil))) rfl) ?_;refine okT_done (by kernel_rfl) ?_;refine ok_m_ rfl rfl (by exact ms_store 1 rfl rfl rfl rfl rfl rfl rfl rfl) ?_;rintro y_ hy_;refine ok_ne [(1,_),(2,_),(3,_)] ⟨rfl,rfl,rfl,trivial⟩ ?_;exact ok_sel [1,0,2,3,4,5,6,7,8,9,10,11,12] (by decide) rfl (hk y5 y8 y11 y14 y3)));(focus (rintro y11 hy11;refine okT_one (i := 3) rfl rfl (by kernel_rfl) rfl rfl rfl (by exact ms_app0 (M := mem) 2 rfl rfl rfl rfl (rds_rf h1 List.mem_cons_self) rfl (by omega) (by omega)) (fun y w _ h => by exact h.tl.tl.tl) ?_;rintro y8 hy8;refine okT_one (i := 9) rfl rfl (by kernel_rfl) rfl rfl rfl (by exact ms_app0 (M := sn) 0 rfl rfl rfl rfl (rds_rf h3 List.mem_cons_self) rfl (by omega) (by omega)) (fun y w _ h => by exact h.tl.tl.tl) ?_;rintro y14 hy14;refine okT_take (i := 10) rfl (by kernel_rfl) rfl rfl rfl (by exact ps_bld rfl (parts_cons rfl (parts_cons rfl (parts_cons rfl parts_nil))) rfl) ?_;refine okT_done (by kernel_rfl) ?_;refine ok_m_ rfl rfl (by exact ms_store 1 rfl rfl rfl rfl rfl rfl rfl rfl) ?_;rintro y_ hy_;refine ok_ne [(1,_),(2,_),(3,_)] ⟨rfl,rfl,rfl,trivial⟩ ?_;exact ok_sel [1,0,2,3,4,5,6,7,8,9,10,11,12] (by decide) rfl (hk y5 y8 y11 y14 y3)))))));(focus (rintro y11 hy11;refine okT_many (by kernel_rfl) (all_cons (at_m (i := 0) rfl rfl rfl rfl rfl (by exact ms_lit rfl parts_nil rfl rfl rfl) (fun y w _ h => by exact h.tl.tl) ?_) (all_cons (at_m (i := 11) rfl rfl rfl rfl rfl (by exact ms_alloc rfl) (fun y w _ h => by exact h.tl.tl) ?_) all_nil));(focus (rintro y5 hy5;refine okT_many (by kernel_rfl) (all_cons (at_m (i := 3) rfl rfl rfl rfl rfl (by exact ms_app0 (M := mem) 0 rfl rfl rfl rfl (rds_rf h1 List.mem_cons_self) rfl (by omega) (by omega)) (fun y w _ h => by exact h.tl.tl) ?_) (all_cons (at_m (i := 11) rfl rfl rfl rfl rfl (by exact ms_alloc rfl) (fun y w _ h => by exact h.tl.tl.tl) ?_) all_nil));(focus (rintro y8 hy8;refine okT_many (by kernel_rfl) (all_cons (at_m (i := 9) rfl rfl rfl rfl rfl (by exact ms_app0 (M := sn) 1 rfl rfl rfl rfl (rds_rf h3 List.mem_cons_self) rfl (by omega) (by omega)) (fun y w _ h => by exact h.tl.tl) ?_) (all_cons (at_m (i := 11) rfl rfl rfl rfl rfl (by exact ms_alloc rfl) (fun y w _ h => by exact h.tl.tl.tl) ?_) all_nil));(focus (rintro y14 hy14;refine okT_take (i := 10) rfl (by kernel_rfl) rfl rfl rfl (by exact ps_bld rfl (parts_cons rfl (parts_cons rfl (parts_cons rfl parts_nil))) rfl) ?_;refine okT_one (i := 11) rfl rfl (by kernel_rfl) rfl rfl rfl (by exact ms_alloc rfl) (fun y w _ h => by exact h.tl.tl.tl) ?_;rintro y3 hy3;refine okT_done (by kernel_rfl) ?_;refine ok_m_ rfl rfl (by exact ms_store 0 rfl rfl rfl rfl rfl rfl rfl rfl) ?_;rintro y_ hy_;refine ok_ne [(1,_),(2,_),(3,_)] ⟨rfl,rfl,rfl,trivial⟩ ?_;exact ok_sel [0,2,1,3,4,5,6,7,8,9,10,11,12] (by decide) rfl (hk y5 y8 y11 y14 y3)));(focus (rintro y3 hy3;refine okT_one (i := 9) rfl rfl (by kernel_rfl) rfl rfl rfl (by exact ms_app0 (M := sn) 2 rfl rfl rfl rfl (rds_rf h3 List.mem_cons_self) rfl (by omega) (by omega)) (fun y w _ h => by exact h.tl.tl.tl) ?_;rintro y14 hy14;refine okT_take (i := 10) rfl (by kernel_rfl) rfl rfl rfl (by exact ps_bld rfl (parts_cons rfl (parts_cons rfl (parts_cons rfl parts_nil))) rfl) ?_;refine okT_done (by kernel_rfl) ?_;refine ok_m_ rfl rfl (by exact ms_store 0 rfl rfl rfl rfl rfl rfl rfl rfl) ?_;rintro y_ hy_;refine ok_ne [(1,_),(2,_),(3,_)] ⟨rfl,rfl,rfl,trivial⟩ ?_;exact ok_sel [0,2,1,3,4,5,6,7,8,9,10,11,12] (by decide) rfl (hk y5 y8 y11 y14 y3)))));(focus (rintro y3 hy3;refine okT_one (i := 3) rfl rfl (by kernel_rfl) rfl rfl rfl (by exact ms_app0 (M := mem) 1 rfl rfl rfl rfl (rds_rf h1 List.mem_cons_self) rfl (by omega) (by omega)) (fun y w _ h => by exact h.tl.tl.tl) ?_;rintro y8 hy8;refine okT_one (i := 9) rfl rfl (by kernel_rfl) rfl rfl rfl (by exact ms_app0 (M := sn) 2 rfl rfl rfl rfl (rds_rf h3 List.mem_cons_self) rfl (by omega) (by omega)) (fun y w _ h => by exact h.tl.tl.tl) ?_;rintro y14 hy14;refine okT_take (i := 10) rfl (by kernel_rfl) rfl rfl rfl (by exact ps_bld rfl (parts_cons rfl (parts_cons rfl (parts_cons rfl parts_nil))) rfl) ?_;refine okT_done (by kernel_rfl) ?_;refine ok_m_ rfl rfl (by exact ms_store 0 rfl rfl rfl rfl rfl rfl rfl rfl) ?_;rintro y_ hy_;refine ok_ne [(1,_),(2,_),(3,_)] ⟨rfl,rfl,rfl,trivial⟩ ?_;exact ok_sel [0,2,1,3,4,5,6,7,8,9,10,11,12] (by decide) rfl (hk y5 y8 y11 y14 y3)))));(focus (rintro y3 hy3;refine okT_one (i := 0) rfl rfl (by kernel_rfl) rfl rfl rfl (by exact ms_lit rfl parts_nil rfl rfl rfl) (fun y w _ h => by exact h.tl.tl.tl) ?_;rintro y5 hy5;refine okT_one (i := 3) rfl rfl (by kernel_rfl) rfl rfl rfl (by exact ms_app0 (M := mem) 0 rfl rfl rfl rfl (rds_rf h1 List.mem_cons_self) rfl (by omega) (by omega)) (fun y w _ h => by exact h.tl.tl.tl) ?_;rintro y8 hy8;refine okT_one (i := 9) rfl rfl (by kernel_rfl) rfl rfl rfl (by exact ms_app0 (M := sn) 2 rfl rfl rfl rfl (rds_rf h3 List.mem_cons_self) rfl (by omega) (by omega)) (fun y w _ h => by exact h.tl.tl.tl) ?_;rintro y14 hy14;refine okT_take (i := 10) rfl (by kernel_rfl) rfl rfl rfl (by exact ps_bld rfl (parts_cons rfl (parts_cons rfl (parts_cons rfl parts_nil))) rfl) ?_;refine okT_done (by kernel_rfl) ?_;refine ok_m_ rfl rfl (by exact ms_store 1 rfl rfl rfl rfl rfl rfl rfl rfl) ?_;rintro y_ hy_;refine ok_ne [(1,_),(2,_),(3,_)] ⟨rfl,rfl,rfl,trivial⟩ ?_;exact ok_sel [1,2,0,3,4,5,6,7,8,9,10,11,12] (by decide) rfl (hk y5 y8 y11 y14 y3)))));(focus (rintro y3 hy3;refine okT_many (by kernel_rfl) (all_cons (at_m (i := 0) rfl rfl rfl rfl rfl (by exact ms_lit rfl parts_nil rfl rfl rfl) (fun y w _ h => by exact h.tl.tl) ?_) (all_cons (at_m (i := 6) rfl rfl rfl rfl rfl (by exact ms_lit rfl parts_nil rfl rfl rfl) (fun y w _ h => by exact h.tl.tl) ?_) all_nil));(focus (rintro y5 hy5;refine okT_many (by kernel_rfl) (all_cons (at_m (i := 3) rfl rfl rfl rfl rfl (by exact ms_app0 (M := mem) 0 rfl rfl rfl rfl (rds_rf h1 List.mem_cons_self) rfl (by omega) (by omega)) (fun y w _ h => by exact h.tl.tl) ?_) (all_cons (at_m (i := 6) rfl rfl rfl rfl rfl (by exact ms_lit rfl parts_nil rfl rfl rfl) (fun y w _ h => by exact h.tl.tl.tl) ?_) all_nil));(focus (rintro y8 hy8;refine okT_one (i := 6) rfl rfl (by kernel_rfl) rfl rfl rfl (by exact ms_lit rfl parts_nil rfl rfl rfl) (fun y w _ h => by exact h.tl.tl.tl) ?_;rintro y11 hy11;refine okT_one (i := 9) rfl rfl (by kernel_rfl) rfl rfl rfl (by exact ms_app0 (M := sn) 0 rfl rfl rfl rfl (rds_rf h3 List.mem_cons_self) rfl (by omega) (by omega)) (fun y w _ h => by exact h.tl.tl.tl) ?_;rintro y14 hy14;refine okT_take (i := 10) rfl (by kernel_rfl) rfl rfl rfl (by exact ps_bld rfl (parts_cons rfl (parts_cons rfl (parts_cons rfl parts_nil))) rfl) ?_;refine okT_done (by kernel_rfl) ?_;refine ok_m_ rfl rfl (by exact ms_store 2 rfl rfl rfl rfl rfl rfl rfl rfl) ?_;rintro y_ hy_;refine ok_ne [(1,_),(2,_),(3,_)] ⟨rfl,rfl,rfl,trivial⟩ ?_;exact ok_sel [2,0,1,3,4,5,6,7,8,9,10,11,12] (by decide) rfl (hk y5 y8 y11 y14 y3)));(focus (rintro y11 hy11;refine okT_one (i := 3) rfl rfl (by kernel_rfl) rfl rfl rfl (by exact ms_app0 (M := mem) 1 rfl rfl rfl rfl (rds_rf h1 List.mem_cons_self) rfl (by omega) (by omega)) (fun y w _ h => by exact h.tl.tl.tl) ?_;rintro y8 hy8;refine okT_one (i := 9) rfl rfl (by kernel_rfl) rfl rfl rfl (by exact ms_app0 (M := sn) 0 rfl rfl rfl rfl (rds_rf h3 List.mem_cons_self) rfl (by omega) (by omega)) (fun y w _ h => by exact h.tl.tl.tl) ?_;rintro y14 hy14;refine okT_take (i := 10) rfl (by kernel_rfl) rfl rfl rfl (by exact ps_bld rfl (parts_cons rfl (parts_cons rfl (parts_cons rfl parts_nil))) rfl) ?_;refine okT_done (by kernel_rfl) ?_;refine ok_m_ rfl rfl (by exact ms_store 2 rfl rfl rfl rfl rfl rfl rfl rfl) ?_;rintro y_ hy_;refine ok_ne [(1,_),(2,_),(3,_)] ⟨rfl,rfl,rfl,trivial⟩ ?_;exact ok_sel [2,0,1,3,4,5,6,7,8,9,10,11,12] (by decide) rfl (hk y5 y8 y11 y14 y3)))));(focus (rintro y11 hy11;refine okT_one (i := 0) rfl rfl (by kernel_rfl) rfl rfl rfl (by exact ms_lit rfl parts_nil rfl rfl rfl) (fun y w _ h => by exact h.tl.tl.tl) ?_;rintro y5 hy5;refine okT_one (i := 3) rfl rfl (by kernel_rfl) rfl rfl rfl (by exact ms_app0 (M := mem) 0 rfl rfl rfl rfl (rds_rf h1 List.mem_cons_self) rfl (by omega) (by omega)) (fun y w _ h => by exact h.tl.tl.tl) ?_;rintro y8 hy8;refine okT_one (i := 9) rfl rfl (by kernel_rfl) rfl rfl rfl (by exact ms_app0 (M := sn) 1 rfl rfl rfl rfl (rds_rf h3 List.mem_cons_self) rfl (by omega) (by omega)) (fun y w _ h => by exact h.tl.tl.tl) ?_;rintro y14 hy14;refine okT_take (i := 10) rfl (by kernel_rfl) rfl rfl rfl (by exact ps_bld rfl (parts_cons rfl (parts_cons rfl (parts_cons rfl parts_nil))) rfl) ?_;refine okT_done (by kernel_rfl) ?_;refine ok_m_ rfl rfl (by exact ms_store 2 rfl rfl rfl rfl rfl rfl rfl rfl) ?_;rintro y_ hy_;refine ok_ne [(1,_),(2,_),(3,_)] ⟨rfl,rfl,rfl,trivial⟩ ?_;exact ok_sel [2,1,0,3,4,5,6,7,8,9,10,11,12] (by decide) rfl (hk y5 y8 y11 y14 y3)))))));rintro y5 y8 y11 y14 y3)
    | (refine ok_region (i := 2) ?_;refine ok_p rfl rfl rfl (ps_assign rfl rfl) ?_;refine ok_ne [(1,_),(2,_),(3,_),(4,_)] ⟨rfl,rfl,rfl,rfl,trivial⟩ ?_))
  refine ok_loop (ι := CpE R) (fun q => R.length - q.S.length) (fun q => ([(1,pt (ga (y1 0).c) 0),(2,pt (ga (y2 0).c) 0),(3,pt (ga (y3 0).c) 0),(4,.int .i64 q.S.length)],[.bag 204 4 (rowsOf q.S),.row 85 1 q.A q.S.length q.c (fl q.S),.box (y3 0).c 88 [.slice (y8 0).A mem.length (y8 0).c,.slice q.A q.S.length q.c,.int .i64 seq,.slice (y14 0).A sn.length (y14 0).c],.row 3 1 (y14 0).A sn.length (y14 0).c (fl sn),.row 204 4 (y8 0).A mem.length (y8 0).c (fl mem),_,_],_)) ⟨[],none,0,by simp,by simp [dats]⟩ (fun a w he hw => ⟨⟨[],none,0,by simp,by simp [dats]⟩,he.sub ⟨rfl,rfl,rfl,rfl,trivial⟩,by
    have := (hw.rowNil 85 1).bag_nil 204 4
    exact this⟩) ?_
  rintro ⟨S,A2,c2,hs,hd0⟩
  simp only at hs hd0 ⊢
  have HD := Lib.hid hd0;clear hd0
  have hsn := fun h => CpE.snoc (S := S) (R := R) h HD.out
  have HN := Lib.hid hsn;clear hsn
  repeat' (first
    | refine ok_seq ?_
    | refine ok_then ?_
    | refine ok_block ?_
    | refine ok_in_normal ?_
    | (refine ok_cond rfl (fun hc => ?_) (fun hc => ?_) <;> (have hd := hc;(try simp only [jA,jB,jC,jD,jE,jF,jG,jH,jI,jJ,jK,jL,jM,jN,jO,jP,jQ,jR,jS] at hd)))
    | refine ok_ret ?_
    | refine ok_exit ?_
    | refine ok_skip ?_
    | (refine ok_region (i := 3) ?_;refine ok_p rfl rfl rfl (ps_move rfl rfl) ?_;refine ok_p rfl rfl rfl (by exact ps_field rfl rfl (isw_ga _)) ?_;refine ok_p rfl rfl rfl (by exact ps_load rfl rfl (by exact Rds.cell (rds_box 6 rfl) rfl)) ?_;refine ok_p rfl rfl rfl (by exact ps_len rfl rfl) ?_;refine ok_p rfl rfl rfl (by exact ps_int rfl rfl rfl rfl) ?_;refine ok_ne [(1,_),(2,_),(3,_),(4,_),(20,_)] ⟨rfl,rfl,rfl,rfl,rfl,trivial⟩ ?_)
    | (refine ok_region (i := 4) ?_;refine ok_p rfl rfl rfl (ps_move rfl rfl) ?_;refine ok_p rfl rfl rfl (by exact ps_add rfl rfl rfl (by omega)) ?_;refine ok_p rfl rfl rfl (ps_assign rfl rfl) ?_;refine ok_ne [(1,_),(2,_),(3,_),(4,_)] ⟨rfl,rfl,rfl,rfl,trivial⟩ ?_)
    | (refine ok_draw (id := 5) 12 rfl (by kernel_rfl) (by kernel_rfl) rfl (by repeat (first | exact pq_body | refine pq_then ?_ | refine pq_in ?_)) [0,2,3,4,5,6] (by decide) rfl ?_;refine okT_take (i := 0) rfl (by kernel_rfl) rfl rfl rfl (by exact ps_field rfl rfl (isw_ga _)) ?_;refine okT_take (i := 1) rfl (by kernel_rfl) rfl rfl rfl (by exact ps_load rfl rfl (by exact Rds.cell (rds_box 1 rfl) rfl)) ?_;refine okT_take (i := 3) rfl (by kernel_rfl) rfl rfl rfl (by exact ps_field rfl rfl (isw_ga _)) ?_;refine okT_take (i := 4) rfl (by kernel_rfl) rfl rfl rfl (by exact ps_load rfl rfl (by exact Rds.cell (rds_box 5 rfl) rfl)) ?_;refine okT_take (i := 5) rfl (by kernel_rfl) rfl rfl rfl (ps_move rfl rfl) ?_;refine okT_take (i := 6) rfl (by kernel_rfl) rfl rfl rfl (by exact ps_indexN rfl rfl rfl (by omega) (by exact isw_of (isS_fl (by assumption) (by omega)))) ?_;refine okT_take (i := 7) rfl (by kernel_rfl) rfl rfl rfl (by exact ps_load rfl rfl (by exact Rds.cell (rds_rf (by assumption) List.mem_cons_self) (by exact fl_at0 _ _ (by omega) (by decide)))) ?_;refine okT_one (i := 2) rfl rfl (by kernel_rfl) rfl rfl rfl (by exact ms_lit rfl parts_nil rfl rfl rfl) (fun y w _ h => by exact h.tl.sel [0,2,3,4,5,6] (by decide) rfl (fun _ h => h)) ?_;rintro y25 hy25;refine okT_one (i := 8) rfl rfl (by kernel_rfl) rfl rfl rfl (by exact ms_app0 (M := (nth R S.length).d) 0 rfl rfl rfl rfl (rds_rf (Q2.out _ (by omega)) List.mem_cons_self) rfl (by have : (nth R S.length).d.length ≤ 4194304 := HL.out _ (by omega);omega) (by have : (nth R S.length).d.length ≤ 4194304 := HL.out _ (by omega);omega)) (fun y w _ h => by exact h.tl.sel [0,2,3,4,5,6] (by decide) rfl (fun _ h => h)) ?_;rintro y31 hy31;refine okT_one (i := 9) rfl rfl (by kernel_rfl) rfl rfl rfl (by exact ms_lit rfl (parts_cons rfl parts_nil) rfl rfl rfl) (fun y w _ h => by exact h.tl.tl.sel [0,2,3,4,5,6] (by decide) rfl (fun _ h => h)) ?_;rintro y32 hy32;refine okT_one (i := 10) rfl rfl (by kernel_rfl) rfl rfl rfl (by exact ms_appF (α := LE) (L := S) (M := [⟨(nth R S.length).d,(y31 0).A,(y31 0).c⟩]) 3 rfl rfl rfl rfl (rds_row 0 rfl) rfl (by simp;omega) (by simp;omega)) (fun y w _ h => by exact h.tl.tl.sel [0,2,3,4,5,6] (by decide) rfl (fun _ h => h)) ?_;rintro y33 hy33;refine okT_take (i := 11) rfl (by kernel_rfl) rfl rfl rfl (by exact ps_field rfl rfl (isw_ga _)) ?_;refine okT_done (by kernel_rfl) ?_;refine ok_m_ rfl rfl (by exact ms_store 4 rfl rfl rfl rfl rfl rfl rfl rfl) ?_;rintro y_ hy_;refine ok_ne [(1,_),(2,_),(3,_),(4,_)] ⟨rfl,rfl,rfl,rfl,trivial⟩ ?_)
    | (refine ok_region (i := 6) ?_;refine ok_p rfl rfl rfl (by exact ps_loads rfl rfl (by exact rds_box 2 rfl) rfl rfl (by decide)) ?_;refine ok_m_ rfl rfl (by exact ms_store 5 rfl rfl rfl rfl rfl rfl rfl rfl) ?_;rintro y_ hy_;refine ok_ne [(2,_)] ⟨rfl,trivial⟩ ?_))
  · refine fun a w' he hw => ⟨⟨S ++ [⟨(nth R S.length).d,(y31 0).A,(y31 0).c⟩],(y33 0).A,(y33 0).c,by simp;omega,HN.out (by omega) _ _⟩,by simp;omega,he.sub ⟨rfl,rfl,rfl,by simp [look],trivial⟩,?_⟩
    have h1 := WOk.bagAdd (⟨(nth R S.length).d,(y31 0).A,(y31 0).c⟩ : LE) rfl rfl (hw.sel [1,2,3,4,5,6,7,8] (by decide) rfl (fun _ h => h))
    simp only [List.length_append,List.length_singleton]
    exact h1
  · have hSR : S.length = R.length := by omega
    have hdd : dats S = dats R := by rw [HD.out,hSR,← dats_len,List.take_length]
    refine ok_endL (vs := [_]) rfl ⟨⟨_,5,_,_,_,rfl,rfl,inferInstance,rfl,rfl⟩,trivial⟩ (fun w' hw => ⟨cpY (y8 0).A (y8 0).c A2 c2 (y14 0).A (y14 0).c S w',?_,trivial,hw.below,?_⟩)
    · rw [← hSR];rfl
    · rw [← hdd,cpY_loc,← hSR]
      exact NewOk.of (hw.sel [4,1,0,3] (by decide) rfl (G' := []) (fun _ h => by cases h))
theorem i_copyEng0 (mA : Option Addr) (mc : Nat) (mem : List Ent) (tA : Option Addr) (tc : Nat) (R : List LE) (seq : Int) (sA : Option Addr) (sc : Nat) (sn : List Int) (w : World) (h1 : Rd w mA (fl mem)) (h2 : RdN w tA R) (h3 : Rd w sA (fl sn)) (hl1 : mem.length ≤ 4194304) (hl2 : R.length ≤ 4194304) (hs : ∀ x ∈ dats R,x.length ≤ 4194304) (hl3 : sn.length ≤ 4194304) :
    Calls Tryz.prog 208 #[.agg #[.slice mA mem.length mc,.slice tA R.length tc,.int .i64 seq,.slice sA sn.length sc]] w fun e w' => ∃ y : Ys,e = .returned (.agg #[.slice (y 0).A mem.length (y 0).c,.slice (y 1).A R.length (y 1).c,.int .i64 seq,.slice (y 2).A sn.length (y 2).c]) ∧ True ∧ Below w.heap.size w w' ∧ NewOk w.heap.size [.row 204 4 (y 0).A mem.length (y 0).c (fl mem),.row 85 1 (y 1).A R.length (y 1).c (fl (locs 3 (dats R) y)),.bag 204 4 (rowsOf (locs 3 (dats R) y)),.row 3 1 (y 2).A sn.length (y 2).c (fl sn)] [] w' := by
  obtain ⟨q1,q2⟩ := h2
  have q2 : ∀ k,k < R.length → Rd w (nth R k).A (fl (nth R k).d) := q2
  have Q2 := Lib.hid q2;clear q2
  have HL := Lib.hid (lens_at hs);clear hs
  refine ok_enter 31 Tryz.func208 rfl rfl rfl ?_
  repeat' (first
    | refine ok_seq ?_
    | refine ok_then ?_
    | refine ok_block ?_
    | (refine ok_region (i := 0) ?_;refine ok_m rfl rfl rfl (by exact ms_box rfl rfl rfl) ?_;rintro y1 hy1;refine ok_m rfl rfl rfl (by exact ms_alloc rfl) ?_;rintro y2 hy2;refine ok_ne [(1,_),(2,_)] ⟨rfl,rfl,trivial⟩ ?_)
    | (apply mrg3;(focus (intro hk;refine ok_draw (id := 1) 10 rfl (by kernel_rfl) (by kernel_rfl) rfl (by repeat (first | exact pq_body | refine pq_then ?_ | refine pq_in ?_)) [0,1,2,3,4,5,6,7,8,9,10,11,12,13,14,15,16,17,18,19,20,21,22,23] (by decide) rfl ?_;refine okT_take (i := 0) rfl (by kernel_rfl) rfl rfl rfl (by exact ps_field rfl rfl (isw_ga _)) ?_;refine okT_take (i := 1) rfl (by kernel_rfl) rfl rfl rfl (by exact ps_load rfl rfl (by exact Rds.cell (rds_box 1 rfl) rfl)) ?_;refine okT_take (i := 3) rfl (by kernel_rfl) rfl rfl rfl (by exact ps_field rfl rfl (isw_ga _)) ?_;refine okT_take (i := 4) rfl (by kernel_rfl) rfl rfl rfl (by exact ps_load rfl rfl (by exact Rds.cell (rds_box 1 rfl) rfl)) ?_;refine okT_take (i := 5) rfl (by kernel_rfl) rfl rfl rfl (by exact ps_field rfl rfl (isw_ga _)) ?_;refine okT_take (i := 6) rfl (by kernel_rfl) rfl rfl rfl (by exact ps_load rfl rfl (by exact Rds.cell (rds_box 1 rfl) rfl)) ?_;refine okT_many (by kernel_rfl) (all_cons (at_m (i := 2) rfl rfl rfl rfl rfl (by exact ms_c1 rfl rfl (fun _ _ w hw => cloneE_c mA mc mem w (rds_rf h1 List.mem_cons_self _ _ w hw) hl1)) (fun y w _ h => by exact h.tl) ?_) (all_cons (at_m (i := 9) rfl rfl rfl rfl rfl (by exact ms_alloc rfl) (fun y w _ h => by exact h.tl) ?_) all_nil));(focus (rintro y8 hy8;refine okT_many (by kernel_rfl) (all_cons (at_m (i := 7) rfl rfl rfl rfl rfl (by exact ms_c1 rfl rfl (fun _ _ w hw => clone_c sA sc sn w (rds_rf h3 List.mem_cons_self _ _ w hw) hl3)) (fun y w _ h => by exact h.tl.tl) ?_) (all_cons (at_m (i := 9) rfl rfl rfl rfl rfl (by exact ms_alloc rfl) (fun y w _ h => by exact h.tl.tl) ?_) all_nil));(focus (rintro y13 hy13;refine okT_take (i := 8) rfl (by kernel_rfl) rfl rfl rfl (by exact ps_bld rfl (parts_cons rfl (parts_cons rfl (parts_cons rfl parts_nil))) rfl) ?_;refine okT_one (i := 9) rfl rfl (by kernel_rfl) rfl rfl rfl (by exact ms_alloc rfl) (fun y w _ h => by exact h.tl.tl.tl) ?_;rintro y3 hy3;refine okT_done (by kernel_rfl) ?_;refine ok_m_ rfl rfl (by exact ms_store 0 rfl rfl rfl rfl rfl rfl rfl rfl) ?_;rintro y_ hy_;refine ok_ne [(1,_),(2,_),(3,_)] ⟨rfl,rfl,rfl,trivial⟩ ?_;exact hk y8 y13 y3));(focus (rintro y3 hy3;refine okT_one (i := 7) rfl rfl (by kernel_rfl) rfl rfl rfl (by exact ms_c1 rfl rfl (fun _ _ w hw => clone_c sA sc sn w (rds_rf h3 List.mem_cons_self _ _ w hw) hl3)) (fun y w _ h => by exact h.tl.tl.tl) ?_;rintro y13 hy13;refine okT_take (i := 8) rfl (by kernel_rfl) rfl rfl rfl (by exact ps_bld rfl (parts_cons rfl (parts_cons rfl (parts_cons rfl parts_nil))) rfl) ?_;refine okT_done (by kernel_rfl) ?_;refine ok_m_ rfl rfl (by exact ms_store 1 rfl rfl rfl rfl rfl rfl rfl rfl) ?_;rintro y_ hy_;refine ok_ne [(1,_),(2,_),(3,_)] ⟨rfl,rfl,rfl,trivial⟩ ?_;exact ok_sel [1,0,2,3,4,5,6,7,8,9,10,11,12] (by decide) rfl (hk y8 y13 y3)))));(focus (rintro y3 hy3;refine okT_one (i := 2) rfl rfl (by kernel_rfl) rfl rfl rfl (by exact ms_c1 rfl rfl (fun _ _ w hw => cloneE_c mA mc mem w (rds_rf h1 List.mem_cons_self _ _ w hw) hl1)) (fun y w _ h => by exact h.tl.tl) ?_;rintro y8 hy8;refine okT_one (i := 7) rfl rfl (by kernel_rfl) rfl rfl rfl (by exact ms_c1 rfl rfl (fun _ _ w hw => clone_c sA sc sn w (rds_rf h3 List.mem_cons_self _ _ w hw) hl3)) (fun y w _ h => by exact h.tl.tl.tl) ?_;rintro y13 hy13;refine okT_take (i := 8) rfl (by kernel_rfl) rfl rfl rfl (by exact ps_bld rfl (parts_cons rfl (parts_cons rfl (parts_cons rfl parts_nil))) rfl) ?_;refine okT_done (by kernel_rfl) ?_;refine ok_m_ rfl rfl (by exact ms_store 2 rfl rfl rfl rfl rfl rfl rfl rfl) ?_;rintro y_ hy_;refine ok_ne [(1,_),(2,_),(3,_)] ⟨rfl,rfl,rfl,trivial⟩ ?_;exact ok_sel [2,0,1,3,4,5,6,7,8,9,10,11,12] (by decide) rfl (hk y8 y13 y3)))));rintro y8 y13 y3)
    | (refine ok_region (i := 2) ?_;refine ok_p rfl rfl rfl (by exact ps_field rfl rfl (isw_ga _)) ?_;refine ok_p rfl rfl rfl (by exact ps_load rfl rfl (by exact Rds.cell (rds_box 4 rfl) rfl)) ?_;refine ok_p rfl rfl rfl (by exact ps_len rfl rfl) ?_;refine ok_p rfl rfl rfl (ps_move rfl rfl) ?_;refine ok_ne [(2,_),(3,_),(16,_),(17,_),(18,_)] ⟨rfl,rfl,rfl,rfl,rfl,trivial⟩ ?_))
  refine ok_loop (ι := CpE R) (fun q => R.length - q.S.length) (fun q => ([(2,pt (ga (y2 0).c) 0),(3,pt (ga (y3 0).c) 0),(16,.slice tA R.length tc),(17,.int .i64 R.length),(18,.int .i64 q.S.length)],[.bag 204 4 (rowsOf q.S),.row 85 1 q.A q.S.length q.c (fl q.S),.box (y3 0).c 88 [.slice (y8 0).A mem.length (y8 0).c,.slice q.A q.S.length q.c,.int .i64 seq,.slice (y13 0).A sn.length (y13 0).c],.row 3 1 (y13 0).A sn.length (y13 0).c (fl sn),.row 204 4 (y8 0).A mem.length (y8 0).c (fl mem),_,_],_)) ⟨[],none,0,by simp,by simp [dats]⟩ (fun a w he hw => ⟨⟨[],none,0,by simp,by simp [dats]⟩,he.sub ⟨rfl,rfl,rfl,rfl,rfl,trivial⟩,by
    have := (hw.rowNil 85 1).bag_nil 204 4
    exact this⟩) ?_
  rintro ⟨S,A2,c2,hs,hd0⟩
  simp only at hs hd0 ⊢
  have HD := Lib.hid hd0;clear hd0
  have hsn := fun h => CpE.snoc (S := S) (R := R) h HD.out
  have HN := Lib.hid hsn;clear hsn
  repeat' (first
    | refine ok_seq ?_
    | refine ok_then ?_
    | refine ok_block ?_
    | refine ok_in_normal ?_
    | (refine ok_cond rfl (fun hc => ?_) (fun hc => ?_) <;> (have hd := hc;(try simp only [jA,jB,jC,jD,jE,jF,jG,jH,jI,jJ,jK,jL,jM,jN,jO,jP,jQ,jR,jS] at hd)))
    | refine ok_ret ?_
    | refine ok_exit ?_
    | refine ok_skip ?_
    | (refine ok_region (i := 3) ?_;refine ok_p rfl rfl rfl (by exact ps_int rfl rfl rfl rfl) ?_;refine ok_ne [(2,_),(3,_),(16,_),(17,_),(18,_),(19,_)] ⟨rfl,rfl,rfl,rfl,rfl,rfl,trivial⟩ ?_)
    | (refine ok_region (i := 4) ?_;refine ok_p rfl rfl rfl (by exact ps_indexN rfl rfl rfl (by omega) (by exact isw_of (isS_fl (by assumption) (by omega)))) ?_;refine ok_p rfl rfl rfl (by exact ps_load rfl rfl (by exact Rds.cell (rds_rf (by assumption) List.mem_cons_self) (by exact fl_at0 _ _ (by omega) (by decide)))) ?_;refine ok_p rfl rfl rfl (ps_assign rfl rfl) ?_;refine ok_ne [(2,_),(3,_),(5,_),(16,_),(17,_),(18,_)] ⟨rfl,rfl,rfl,rfl,rfl,rfl,trivial⟩ ?_)
    | (refine ok_draw (id := 5) 7 rfl (by kernel_rfl) (by kernel_rfl) rfl (by repeat (first | exact pq_body | refine pq_then ?_ | refine pq_in ?_)) [0,2,3,4,5,6] (by decide) rfl ?_;refine okT_take (i := 0) rfl (by kernel_rfl) rfl rfl rfl (by exact ps_field rfl rfl (isw_ga _)) ?_;refine okT_take (i := 1) rfl (by kernel_rfl) rfl rfl rfl (by exact ps_load rfl rfl (by exact Rds.cell (rds_box 1 rfl) rfl)) ?_;refine okT_take (i := 2) rfl (by kernel_rfl) rfl rfl rfl (ps_move rfl rfl) ?_;refine okT_one (i := 3) rfl rfl (by kernel_rfl) rfl rfl rfl (by exact ms_c1 rfl rfl (fun _ _ w hw => cloneE_c (nth R S.length).A (nth R S.length).c (nth R S.length).d w (rds_rf (Q2.out _ (by omega)) List.mem_cons_self _ _ w hw) (HL.out _ (by omega)))) (fun y w _ h => by exact h.tl.sel [0,2,3,4,5,6] (by decide) rfl (fun _ h => h)) ?_;rintro y25 hy25;refine okT_one (i := 4) rfl rfl (by kernel_rfl) rfl rfl rfl (by exact ms_lit rfl (parts_cons rfl parts_nil) rfl rfl rfl) (fun y w _ h => by exact h.tl.tl.sel [0,2,3,4,5,6] (by decide) rfl (fun _ h => h)) ?_;rintro y26 hy26;refine okT_one (i := 5) rfl rfl (by kernel_rfl) rfl rfl rfl (by exact ms_appF (α := LE) (L := S) (M := [⟨(nth R S.length).d,(y25 0).A,(y25 0).c⟩]) 3 rfl rfl rfl rfl (rds_row 0 rfl) rfl (by simp;omega) (by simp;omega)) (fun y w _ h => by exact h.tl.tl.sel [0,2,3,4,5,6] (by decide) rfl (fun _ h => h)) ?_;rintro y27 hy27;refine okT_take (i := 6) rfl (by kernel_rfl) rfl rfl rfl (by exact ps_field rfl rfl (isw_ga _)) ?_;refine okT_done (by kernel_rfl) ?_;refine ok_m_ rfl rfl (by exact ms_store 4 rfl rfl rfl rfl rfl rfl rfl rfl) ?_;rintro y_ hy_;refine ok_ne [(2,_),(3,_),(16,_),(17,_),(18,_)] ⟨rfl,rfl,rfl,rfl,rfl,trivial⟩ ?_)
    | (refine ok_region (i := 6) ?_;refine ok_p rfl rfl rfl (by exact ps_add rfl rfl rfl (by omega)) ?_;refine ok_p rfl rfl rfl (ps_move rfl rfl) ?_;refine ok_ne [(2,_),(3,_),(16,_),(17,_),(18,_)] ⟨rfl,rfl,rfl,rfl,rfl,trivial⟩ ?_)
    | (refine ok_region (i := 7) ?_;refine ok_p rfl rfl rfl (by exact ps_loads rfl rfl (by exact rds_box 2 rfl) rfl rfl (by decide)) ?_;refine ok_m_ rfl rfl (by exact ms_store 5 rfl rfl rfl rfl rfl rfl rfl rfl) ?_;rintro y_ hy_;refine ok_ne [(2,_)] ⟨rfl,trivial⟩ ?_))
  · refine fun a w' he hw => ⟨⟨S ++ [⟨(nth R S.length).d,(y25 0).A,(y25 0).c⟩],(y27 0).A,(y27 0).c,by simp;omega,HN.out (by omega) _ _⟩,by simp;omega,he.sub ⟨rfl,rfl,rfl,rfl,by simp [look],trivial⟩,?_⟩
    have h1 := WOk.bagAdd (⟨(nth R S.length).d,(y25 0).A,(y25 0).c⟩ : LE) rfl rfl (hw.sel [1,2,3,4,5,6,7,8] (by decide) rfl (fun _ h => h))
    simp only [List.length_append,List.length_singleton]
    exact h1
  · have hSR : S.length = R.length := by omega
    have hdd : dats S = dats R := by rw [HD.out,hSR,← dats_len,List.take_length]
    refine ok_endL (vs := [_]) rfl ⟨⟨_,5,_,_,_,rfl,rfl,inferInstance,rfl,rfl⟩,trivial⟩ (fun w' hw => ⟨cpY (y8 0).A (y8 0).c A2 c2 (y13 0).A (y13 0).c S w',?_,trivial,hw.below,?_⟩)
    · rw [← hSR];rfl
    · rw [← hdd,cpY_loc,← hSR]
      exact NewOk.of (hw.sel [4,1,0,3] (by decide) rfl (G' := []) (fun _ h => by cases h))
/-- An engine as a result: the value, the own rows. -/
def engVal (d : DEng) (y : Ys) : Value := .agg #[.slice (y 0).A d.mem.length (y 0).c,.slice (y 1).A d.tabs.length (y 1).c,.int .i64 d.seq,.slice (y 2).A d.snaps.length (y 2).c]
def engObj (d : DEng) (y : Ys) : List HObj := [.row 204 4 (y 0).A d.mem.length (y 0).c (fl d.mem),.row 85 1 (y 1).A d.tabs.length (y 1).c (fl (locs 3 d.tabs y)),.bag 204 4 (rowsOf (locs 3 d.tabs y)),.row 3 1 (y 2).A d.snaps.length (y 2).c (fl d.snaps)]
theorem eng_obj (mA : Option Addr) (mc : Nat) (mem : List Ent) (tA : Option Addr) (tc : Nat) (S : List LE) (seq : Int) (sA : Option Addr) (sc : Nat) (sn : List Int) (w : World) : engVal ⟨mem,dats S,seq,sn⟩ (cpY mA mc tA tc sA sc S w) = .agg #[.slice mA mem.length mc,.slice tA S.length tc,.int .i64 seq,.slice sA sn.length sc] ∧ engObj ⟨mem,dats S,seq,sn⟩ (cpY mA mc tA tc sA sc S w) = [.row 204 4 mA mem.length mc (fl mem),.row 85 1 tA S.length tc (fl S),.bag 204 4 (rowsOf S),.row 3 1 sA sn.length sc (fl sn)] := by
  unfold engVal engObj
  simp only
  rw [cpY_loc,dats_len]
  exact ⟨rfl,rfl⟩
end Go.Proofs.YtmfojbidojjciaaGreat
/- The engine: the bytes of a string, in a row of its own. -/
namespace Go.Proofs.YtmfojbidojjciaaGreat
open Go.RowKit
def mkY2 (g c : Nat) (w : World) : Ys := fun i => if i = 0 then ⟨none,g,w,0⟩ else ⟨none,c,w,0⟩
def zcs (L : List UInt8) (c : Nat) : List Value := byteVs L ++ List.replicate (c - L.length) (.int .u8 0)
theorem zcs_len (L : List UInt8) (c : Nat) (h : L.length ≤ c) : (zcs L c).length = c := by simp [zcs,byteVs];omega
theorem zcs_set (L : List UInt8) (c j : Nat) (v : UInt8) (hj : j < L.length) : (zcs L c).set j (.int .u8 (v.toNat : Int)) = zcs (L.set j v) c := by
  unfold zcs
  rw [List.set_append_left _ _ (by simpa [byteVs] using hj),List.length_set]
  congr 1
  unfold byteVs
  rw [List.map_set]
section
variable {P : Program} {N base : Nat} {w0 : World} {E : Env} {H : List HObj} {G : List World} {Q : Exit → Act → World → Prop} {o : Oper}
theorem rds_zrow {g e : Nat} {cs : List Value} {fz : Nat × Nat} (i : Nat) (hi : H[i]? = some (.zrow g e cs fz)) : Rds H G (ga g) cs := fun base w0 w hw j u hu => by
  have := (hw.own _ (List.mem_of_getElem? hi)).2
  refine ⟨_,rfl,?_⟩
  rw [ga_add,cell_of_row _ _ j _ _ _ this]
  simpa using hu
theorem rds_zcs {g e c : Nat} {L : List UInt8} {fz : Nat × Nat} (i : Nat) (hi : H[i]? = some (.zrow g e (zcs L c) fz)) : Rds H G (ga g) (byteVs L) := fun base w0 w hw => by
  have h := (rds_zrow i hi base w0 w hw).take L.length
  have e : (zcs L c).take L.length = byteVs L := by
    unfold zcs
    rw [List.take_append_of_le_length (by simp [byteVs]),List.take_of_length_le (by simp [byteVs])]
  rwa [e] at h
theorem ms_bytes {x : Operand} {s t e : TypeId} {b : ByteArray} {sz bytes : Nat} [ht : EL P t e sz bytes] [hk : IK P e .u8] [hs : SS P s] (ho : o.op = .convert s t x) (hx : opd E x = some (.string b)) :
    MStep P E H G o (fun y => b.size ≤ (y 1).c) (fun y => .slice (ga (y 0).c) b.size (y 1).c) (fun y => .zrow (y 0).c e (zcs b.data.toList (y 1).c) ((y 1).c,(y 1).c + 1) :: H) (fun _ => G) := ms_of (v0 := undef) fun N base w0 a w he hw => by
  have hr := run_bytes_of_string (P := P) w s t e b hs.h ht.h.1 hk.h
  have hle : b.size ≤ grownCap w b.size 0 e := grownCap_ge w b.size 0 e
  have hbs : (bytesRow b (grownCap w b.size 0 e)) = (zcs b.data.toList (grownCap w b.size 0 e)).toArray := by
    apply Array.ext'
    simp [bytesRow,zcs,byteVs]
  have hsz : (bytesRow b (grownCap w b.size 0 e)).size = grownCap w b.size 0 e := by
    rw [hbs];simp only [List.size_toArray];exact zcs_len _ _ hle
  rw [hsz,hbs] at hr
  refine ⟨mkY2 w.heap.size (grownCap w b.size 0 e) w,w.drew.alloc (.cells (zcs b.data.toList (grownCap w b.size 0 e)).toArray e (grownCap w b.size 0 e,grownCap w b.size 0 e + 1)),hle,?_,?_⟩
  · simp only [execOp,ho,he.eval hx,Sem.run_bind,hr,Result.andThen_ok,Sem.run_pure];rfl
  · exact hw.grow (Hn := [.zrow w.heap.size e _ _]) (Gn := []) (((Below.refl _ _).drew).alloc (Nat.le_refl _) _) (NewOk.one ⟨Nat.le_refl _,heap_alloc_new _ _⟩)
theorem ps_loadZ {x : Operand} {t g e c i : Nat} {L : List UInt8} {fz : Nat × Nat} (q : Nat) [hl : LD P t 1 false] (ho : o.op = .load t x) (hx : opd E x = some (pt (ga g) (i * 1))) (hi : H[q]? = some (.zrow g e (zcs L c) fz)) (hj : i < L.length) : PStep P E H G o (.int .u8 ((L.getD i 0).toNat : Int)) :=
  ps_load ho hx (Rds.cell (rds_zcs q hi) (by simp [byteVs,hj]))
theorem ms_setZ {x y : Operand} {t g e c i n : Nat} {L : List UInt8} {v : UInt8} (q : Nat) [hl : LD P t 1 false] (ho : o.op = .store t x y) (hx : opd E x = some (pt (ga g) (i * 1))) (hy : opd E y = some (.int .u8 (v.toNat : Int))) (hi : H[q]? = some (.zrow g e (zcs L c) (n,n + 1))) (hj : i < L.length) (hn : i < n) :
    MStep P E H G o (fun _ => True) (fun _ => undef) (fun _ => H.set q (.zrow g e (zcs (L.set i v) c) (n,n + 1))) (fun _ => G) := fun N base w0 a w Q K he hw hK => by
  obtain ⟨hb,hh⟩ := hw.own _ (List.mem_of_getElem? hi)
  have hlen : i < (zcs L c).length := by simp [zcs,byteVs];omega
  have hadd : (⟨g,i * 1,none⟩ : Addr).add 0 = ⟨g,i,none⟩ := by unfold Addr.add;simp
  have hcell : w.cell? ⟨g,i,none⟩ = some (zcs L c)[i] := by simp [World.cell?,hh,hlen]
  have hfro : w.frozen? ⟨g,i,none⟩ = false := by simp [World.frozen?,hh];omega
  have hst : (storeCells ⟨g,i * 1,none⟩ [.int .u8 (v.toNat : Int)] 0).run P w = .ok () (w.setRow g ((zcs L c).set i (.int .u8 (v.toNat : Int))).toArray) := by
    simp only [storeCells,Sem.run_bind]
    rw [hadd,run_store P w _ _ _ rfl,hcell]
    simp [hfro,setCell_eq_setRow w g i _ e _ _ hh]
  have hsz : (sizeOf t).run P w = .ok 1 w := by
    have h := hl.h
    unfold ldB at h
    split at h <;> first | (injection h with h;injection h with h1 h2;rename_i hi;simp [sizeOf,typeInfo,hi,h1]) | cases h
  have hrun : (execOp a.eval o).run P w = .ok .skip (w.setRow g ((zcs L c).set i (.int .u8 (v.toNat : Int))).toArray) := by
    simp only [Nat.mul_one] at hst
    simp [execOp,ho,he.eval hx,he.eval hy,pt,ga,Instr.storeAt,Instr.sureAddr,storeVar,hsz,Value.cells,ga_add,hst]
  rw [zcs_set L c i v hj] at hrun
  unfold Oper.wp;rw [hrun]
  refine hK (mkY none 0 w) _ trivial (hw.turn (x := .zrow g e _ _) hi (r := some g) ?_ (fun k hk => by cases hk;rfl) ⟨hb,setRow_heap w g _ _ e _ hh⟩ (fun j hj => .inl hj))
  exact ⟨rfl,rfl,rfl,by simp,fun j _ hj => setRow_other w g j _ (fun e => hj (by simp [e]))⟩
end
end Go.Proofs.YtmfojbidojjciaaGreat
/- The engine: rows whose cells are all known, copies into them, rows grown by zeros; slices.overlaps. -/
namespace Go.Proofs.YtmfojbidojjciaaGreat
open Go.RowKit
section
variable {base : Nat} {w0 w : World} {H : List HObj} {G : List World}
theorem WOk.rowBox {e sz n c : Nat} {A : Option Addr} {us : List Value} (hw : WOk base w0 (.row e sz A n c us :: H) G w) (h0 : 0 < n) : ∃ g cur,A = ga g ∧ cur.length = c * sz ∧ c ≤ maxLen ∧ n ≤ c ∧ cur.take (n * sz) = us ∧ WOk base w0 (.box g e cur :: H) G w := by
  obtain ⟨hlen,⟨hA,hn0⟩ | ⟨g,cap,cur,hA,hb,hh,hnc,hcm,hcs,htk⟩⟩ := hw.own _ List.mem_cons_self
  · omega
  · injection hA with hA hA2 hA3
    subst hA;subst hA3
    refine ⟨g,cur.toList,rfl,by simpa using hcs,hcm,hnc,htk,?_⟩
    exact hw.turn (i := 0) (x' := .box g e cur.toList) rfl (r := none) (World.grownBy.refl w _) (fun k hk => by cases hk) ⟨hb,by simpa using hh⟩ (fun k hk => .inl (by cases hk;rfl))
theorem WOk.boxRow {e sz n c g : Nat} {cs us : List Value} (hw : WOk base w0 (.box g e cs :: H) G w) (hcs : cs.length = c * sz) (hcm : c ≤ maxLen) (hn : n ≤ c) (hu : cs.take (n * sz) = us) : WOk base w0 (.row e sz (ga g) n c us :: H) G w := by
  obtain ⟨hb,hh⟩ := hw.own _ List.mem_cons_self
  have hl : n * sz ≤ c * sz := Nat.mul_le_mul_right _ hn
  refine hw.turn (i := 0) (x' := .row e sz (ga g) n c us) rfl (r := none) (World.grownBy.refl w _) (fun k hk => by cases hk) ⟨by rw [← hu,List.length_take,hcs];omega,.inr ⟨g,c,cs.toArray,rfl,hb,hh,hn,hcm,by simpa using hcs,by simpa using hu⟩⟩ (fun k hk => .inl (by cases hk;rfl))
end
section
variable {P : Program} {N base : Nat} {w0 : World} {E : Env} {H : List HObj} {G : List World} {Q : Exit → Act → World → Prop} {o : Oper}
theorem rds_take {A : Option Addr} {us : List Value} (h : Rds H G A us) (k : Nat) : Rds H G A (us.take k) := fun base w0 w hw j u hu => by
  rw [List.getElem?_take] at hu
  split at hu
  · exact h base w0 w hw j u hu
  · cases hu
theorem first_of {A : Option Addr} {us : List Value} {w : World} {sz i c : Nat} (hr : Rd w A us) (hl : us.length = i * sz) (hs : 0 < sz) : (Builtin.firstCells sz i (.slice A i c)).run P w = .ok us.toArray w := by
  rcases A with _ | ad
  · have hn : us = [] := by
      rcases us with _ | ⟨u,l⟩
      · rfl
      · obtain ⟨ad,e,_⟩ := hr 0 u rfl;cases e
    subst hn;exact run_firstCells_none w sz i i c
  · exact run_firstCells_some w sz i ad i c us hl (fun j v hv => by obtain ⟨ad',e,h⟩ := hr j v hv;cases e;exact h)
theorem first_of' {A : Option Addr} {us : List Value} {w : World} {sz i n c : Nat} (hr : Rd w A us) (hl : us.length = i * sz) (hs : 0 < sz) (h0 : 0 < i) : (Builtin.firstCells sz i (.slice A n c)).run P w = .ok us.toArray w := by
  rcases A with _ | ad
  · have hp := Nat.mul_pos h0 hs
    rcases us with _ | ⟨u,l⟩
    · simp at hl;omega
    · obtain ⟨ad,e,_⟩ := hr 0 u rfl;cases e
  · exact run_firstCells_some w sz i ad n c us hl (fun j v hv => by obtain ⟨ad',e,h⟩ := hr j v hv;cases e;exact h)
def zz (z : List Value) (n : Nat) : List Value := (Builtin.zeroCells z.toArray n).toList
theorem zz_len (z : List Value) (n : Nat) : (zz z n).length = n * z.length := by simp [zz,Builtin.zeroCells]
/-- append of zeros where no room is: a new row, all of it known. -/
theorem ms_appZ {t tn e sz bytes i c n : Nat} {A : Option Addr} {x y' : Operand} {us z : List Value} {k kn : IntKind} [ht : EL P t e sz bytes] [hk : IK P tn kn] [hz : ZV P e z] (ho : o.op = .call { callee := .builtin .append,args := #[x,y'],argTypes := #[t,tn] })
    (hx : opd E x = some (.slice A i c)) (hy : opd E y' = some (.int k (n : Int))) (hr : Rds H G A us) (hl : us.length = i * sz) (h0 : 0 < n) (hg : c < i + n) (hb : (i + n) * bytes ≤ 140737488355328) (hm : i + n ≤ 140737488355328) :
    MStep P E H G o (fun y => i + n ≤ (y 1).c ∧ (y 1).c ≤ maxLen) (fun y => .slice (ga (y 0).c) (i + n) (y 1).c) (fun y => .box (y 0).c e ((us ++ zz z n) ++ zz z ((y 1).c - (i + n))) :: H) (fun _ => G) := fun N base w0 a w Q K he hw hK => by
  obtain ⟨hu,hz0,inf,zv,hi,hzv,hs,hby,hzs⟩ := ht.h
  have hz1 : zv.cells = z.toArray := by
    have := hz.h
    unfold zvB at this
    simpa [hi,hzv] using this
  have hold : (Builtin.firstCells inf.size i (.slice A i c)).run P w.drew = .ok us.toArray w.drew := by
    rw [hs];exact first_of (hr base w0 w.drew hw.drew) hl hz0
  have hnb : n * inf.bytes ≤ 281474976710656 := by
    rw [hby]
    have : n * bytes ≤ (i + n) * bytes := Nat.mul_le_mul_right _ (by omega)
    omega
  have hrun := Lib.run_append_grow_zeros (P := P) w t tn o.type e inf zv k kn hu hk.h hi hzv A i c us hold n h0 (by omega) hg (by omega) hnb (by rw [hby];exact growslice_fits hg hb)
  rw [hz1] at hrun
  have hr' : (execOp a.eval o).run P w = .ok (.value (.slice (some ⟨w.heap.size,0,none⟩) (i + n) (grownCap w (i + n) c e))) (w.drew.alloc (.cells (((us ++ zz z n) ++ zz z (grownCap w (i + n) c e - (i + n))).toArray) e)) := by
    unfold execOp
    simp only [ho,resolve,invoke,builtin,Sem.run_bind,Sem.run_pure,Result.andThen_ok,List.map_toArray,List.map_cons,List.map_nil,he.eval hx,he.eval hy,hrun]
    congr 3
    congr 1
    apply Array.ext'
    simp [zz]
  unfold Oper.wp;rw [hr']
  exact hK (mkY2 w.heap.size (grownCap w (i + n) c e) w) _ ⟨grownCap_ge w _ _ _,grownCap_le_maxLen w _ _ _ (by unfold maxLen;omega)⟩ (wok_new (sz := sz) (n := n) hw.drew e _)
/-- copy into a block whose cells are all known. -/
theorem ms_copyB {t e sz bytes g q m c1 n2 c2 k : Nat} {A2 B : Option Addr} {x y : Operand} {cs us : List Value} (r : Nat) [ht : EL P t e sz bytes] (ho : o.op = .call { callee := .builtin .copy,args := #[x,y],argTypes := #[t,t] })
    (hx : opd E x = some (.slice B m c1)) (hB : B = (ga g).map (·.add (q * sz))) (hy : opd E y = some (.slice A2 n2 c2)) (hi : H[r]? = some (.box g e cs)) (hr : Rds H G A2 us) (hk : Nat.min n2 m = k) (hl : us.length = k * sz) (h1 : ∀ u ∈ us,u.oneCell' = true) (hfit : q * sz + us.length ≤ cs.length) (h0 : 0 < k) :
    MStep P E H G o (fun _ => True) (fun _ => .int .i64 (k : Int)) (fun _ => H.set r (.box g e (putC cs (q * sz) us))) (fun _ => G) := fun N base w0 a w Q K he hw hK => by
  obtain ⟨hb,hh⟩ := hw.own _ (List.mem_of_getElem? hi)
  obtain ⟨hu,hz0,inf,z,hii,hz,hss,hby,hzs⟩ := ht.h
  have hst := run_storeCells_at P g (q * sz) e us 0 cs.toArray w hh (by simpa using hfit) h1
  have hfc := first_of' (P := P) (n := n2) (c := c2) (hr base w0 w hw) hl hz0 h0
  simp only [Nat.add_zero] at hst
  have hBe : B = some ⟨g,q * sz,none⟩ := by
    rw [hB];show some ((⟨g,0,none⟩ : Addr).add (q * sz)) = _;rw [ga_add]
  subst hBe
  have hrun : (Builtin.copy_ #[t,t] o.type #[.slice (some ⟨g,q * sz,none⟩) m c1,.slice A2 n2 c2]).run P w = .ok (.int .i64 k) (w.setRow g (putC cs (q * sz) us).toArray) := by
    simp [Builtin.copy_,run_underlying hu,Builtin.lenOf,sizeOf,typeInfo,hii,hss,hk,hfc,hst,putC,goInt]
  have hr' : (execOp a.eval o).run P w = .ok (.value (.int .i64 k)) (w.setRow g (putC cs (q * sz) us).toArray) := by
    unfold execOp
    simp only [ho,resolve,invoke,builtin,Sem.run_bind,Sem.run_pure,Result.andThen_ok,List.map_toArray,List.map_cons,List.map_nil,he.eval hx,he.eval hy,hrun]
  unfold Oper.wp;rw [hr']
  refine hK (mkY none 0 w) _ trivial (hw.turn (x := .box g e cs) hi (r := some g) ?_ (fun k hk => by cases hk;rfl) ⟨hb,setRow_heap w g _ _ e _ hh⟩ (fun j hj => .inl hj))
  exact ⟨rfl,rfl,rfl,by simp,fun j _ hj => setRow_other w g j _ (fun e => hj (by simp [e]))⟩
theorem ps_capS {x : Operand} {t e sz bytes : TypeId} {A : Option Addr} {n c : Nat} [ht : EL P t e sz bytes] (ho : o.op = .call { callee := .builtin .cap,args := #[x],argTypes := #[t] }) (hx : opd E x = some (.slice A n c)) : PStep P E H G o (.int .i64 (c : Int)) := fun N base w0 a w he hw => by
  simp [execOp,ho,resolve,invoke,builtin,Builtin.cap_,he.eval hx,run_underlying ht.h.1,goInt]
end
/-- What an insertion leaves, in cells. -/
theorem putC_app (P Z X : List Value) : putC (P ++ Z) P.length X = P ++ X ++ Z.drop X.length := by
  unfold putC
  rw [List.take_left,List.drop_append,List.drop_of_length_le (by omega),List.nil_append,Nat.add_sub_cancel_left]
theorem ins_grow {P Z X D : List Value} {p x n : Nat} (hp : P.length = p) (hx : X.length = x) (hn : p + x + D.length = n) : (putC (putC (P ++ Z) p X) (p + x) D).take n = P ++ X ++ D := by
  subst hp hx hn
  rw [putC_app,show P.length + X.length = (P ++ X).length by rw [List.length_append],putC_app]
  exact List.take_left' (by rw [List.length_append])
theorem ins_place {C P X D : List Value} {p x n : Nat} (hP : C.take p = P) (hp : p + x + D.length ≤ C.length) (hx : X.length = x) (hn : p + x + D.length = n) : (putC (putC C (p + x) D) p X).take n = P ++ X ++ D := by
  subst hx hn
  have hpl : P.length = p := by rw [← hP,List.length_take];omega
  have e0 : C = P ++ C.drop p := by rw [← hP,List.take_append_drop]
  have e1 : putC C (p + X.length) D = P ++ ((C.drop p).take X.length ++ D ++ C.drop (p + X.length + D.length)) := by
    unfold putC
    rw [List.take_add,hP]
    simp only [List.append_assoc]
  subst hpl
  rw [e1,putC_app]
  have e2 : ((C.drop P.length).take X.length ++ D ++ C.drop (P.length + X.length + D.length)).drop X.length = D ++ C.drop (P.length + X.length + D.length) := by
    rw [List.append_assoc]
    exact List.drop_left' (by rw [List.length_take,List.length_drop];omega)
  rw [e2,← List.append_assoc]
  exact List.take_left' (by simp only [List.length_append])
end Go.Proofs.YtmfojbidojjciaaGreat
/- Rows of KV: cloned. -/
namespace Go.Proofs.YtmfojbidojjciaaGreat
open Go.RowKit
attribute [local irreducible] Calls
end Go.Proofs.YtmfojbidojjciaaGreat
/- slices.Insert of one pair into an own row of pairs; a key put, a key dropped by the program. -/
namespace Go.Proofs.YtmfojbidojjciaaGreat
open Go.RowKit
attribute [local irreducible] Calls
end Go.Proofs.YtmfojbidojjciaaGreat
/- slices.Insert of one element into an own row of Ent. -/
namespace Go.Proofs.YtmfojbidojjciaaGreat
open Go.RowKit
attribute [local irreducible] Calls
theorem ps_ovlE {E : Env} {H : List HObj} {G : List World} {o : Oper} {x y : Operand} {tys : Array TypeId} {g1 g2 n1 c1 n2 c2 : Nat} {B : Option Addr} {e1 e2 k : Nat} {cs1 cs2 : List Value} (i j : Nat)
    (ho : o.op = .call { callee := .value (.func 350),args := #[x,y],argTypes := tys }) (hx : opd E x = some (.slice (ga g1) n1 c1)) (hy : opd E y = some (.slice B n2 c2)) (hB : B = (ga g2).map (·.add k)) (hi : H[i]? = some (.box g1 e1 cs1)) (hj : H[j]? = some (.box g2 e2 cs2)) (hij : i ≠ j) (h2 : cs2.length ≠ 0) :
    PStep Tryz.prog E H G o (.bool false) := fun N base w0 a w he hw => by
  obtain ⟨_,hh1⟩ := hw.own _ (List.mem_of_getElem? hi)
  obtain ⟨_,hh2⟩ := hw.own _ (List.mem_of_getElem? hj)
  have hne : g1 ≠ g2 := by
    have hp := List.pairwise_iff_getElem.1 hw.apart
    obtain ⟨hi1,hi2⟩ := List.getElem?_eq_some_iff.1 hi
    obtain ⟨hj1,hj2⟩ := List.getElem?_eq_some_iff.1 hj
    intro e
    subst e
    rcases Nat.lt_or_gt_of_ne hij with h | h
    · have := hp i j hi1 hj1 h
      rw [hi2,hj2] at this
      exact this g1 rfl rfl
    · have := hp j i hj1 hi1 h
      rw [hi2,hj2] at this
      exact this g1 rfl rfl
  have hBe : B = some ⟨g2,k,none⟩ := by
    rw [hB];show some ((⟨g2,0,none⟩ : Addr).add k) = _;rw [ga_add]
  subst hBe
  have hfe : a.eval (.func 350) = .func (.func 350) #[] #[] := rfl
  unfold execOp
  simp only [ho,resolve,Deferred.ofValue,hfe,he.eval hx,he.eval hy,List.map_toArray,List.map_cons,List.map_nil,Sem.run_bind,Sem.run_pure,Result.andThen_ok,invoke,Array.append_empty]
  show ((callFunc _ _).run Tryz.prog w) = _
  rw [run_callFunc_extern Tryz.func350 (by kernel_rfl) (by kernel_rfl) (by kernel_rfl) (e := Extern.SlicesOverlaps.overlaps #[85,85] #[4]) (by kernel_rfl)]
  have hEL : EL Tryz.prog 85 204 4 48 := inferInstance
  have := Lib.run_overlaps_apart (P := Tryz.prog) w 85 4 204 hEL.h.1 4 (fun w => by obtain ⟨_,_,inf,z,hii,hz,hs,_⟩ := hEL.h;simp [sizeOf,typeInfo,hii,hs]) ⟨g1,0,none⟩ ⟨g2,k,none⟩ n1 c1 n2 c2 hne e1 e2 cs1.length cs2.length (by simp [World.shape?,hh1]) (by simp [World.shape?,hh2]) h2 (by exact frozen_of_row w g1 0 _ _ hh1) (by exact frozen_of_row w g1 _ _ _ hh1)
  show Result.andThen ((Extern.SlicesOverlaps.overlaps #[85,85] #[4] #[.slice (some ⟨g1,0,none⟩) n1 c1,.slice (some ⟨g2,k,none⟩) n2 c2]).run Tryz.prog w) _ = _
  rw [this]
  rfl
theorem fl_partsE (R : List Ent) (i : Nat) (x : Ent) : fl (R.take i) ++ fl [x] ++ fl (R.drop i) = fl (R.take i ++ [x] ++ R.drop i) := by rw [fl_app,fl_app]
theorem insertE_c (A : Option Addr) (c gv i : Nat) (R : List Ent) (x : Ent) (hi : i ≤ R.length) (hl : R.length ≤ 4194304) {base : Nat} {w0 w : World} {H : List HObj} {G : List World} (hw : WOk base w0 (.row 204 4 A R.length c (fl R) :: .row 204 4 (ga gv) 1 1 (fl [x]) :: H) G w) :
    Calls Tryz.prog 325 #[.slice A R.length c,.int .i64 i,.slice (ga gv) 1 1] w fun e w' => ∃ y : Ys,e = .returned (.slice (y 0).A (R.take i ++ [x] ++ R.drop i).length (y 0).c) ∧ True ∧ WOk base w0 (.row 204 4 (y 0).A (R.take i ++ [x] ++ R.drop i).length (y 0).c (fl (R.take i ++ [x] ++ R.drop i)) :: H) G w' := by
  have hc := own_cap (hw.own _ List.mem_cons_self)
  have hnl : (R.take i ++ [x] ++ R.drop i).length = R.length + 1 := by simp;omega
  by_cases hin : i = R.length
  · subst hin
    have e : R.take R.length ++ [x] ++ R.drop R.length = R ++ [x] := by simp
    rw [e]
    refine ok_enterW 95 Tryz.func325 rfl rfl rfl hw ?_
    repeat' (first
      | refine ok_seq ?_
      | refine ok_then ?_
      | refine ok_then_ret ?_
      | (refine ok_cond rfl (fun hc => ?_) (fun hc => ?_) <;> (have hd := hc;(try simp only [jA,jB,jC,jD,jE,jF,jG,jH,jI,jJ,jK,jL,jM,jN,jO,jP,jQ,jR,jS] at hd)))
      | refine ok_ret ?_
      | refine ok_skip ?_
      | (refine ok_region (i := 0) ?_;refine ok_p rfl rfl rfl (ps_assign rfl rfl) ?_;refine ok_ne [(0,_),(1,_),(2,_)] ⟨rfl,rfl,rfl,trivial⟩ ?_)
      | (refine ok_region (i := 1) ?_;refine ok_p rfl rfl rfl (ps_move rfl rfl) ?_;refine ok_p rfl rfl rfl (ps_move rfl rfl) ?_;refine ok_p rfl rfl rfl (by exact ps_sliceE (l := R.length) rfl rfl rfl rfl (by omega) (by omega)) ?_;refine ok_ne [(0,_),(1,_),(2,_)] ⟨rfl,rfl,rfl,trivial⟩ ?_)
      | (refine ok_region (i := 2) ?_;refine ok_p rfl rfl rfl (ps_move rfl rfl) ?_;refine ok_p rfl rfl rfl (by exact ps_len rfl rfl) ?_;refine ok_p rfl rfl rfl (ps_assign rfl rfl) ?_;refine ok_ne [(0,_),(1,_),(2,_),(7,_)] ⟨rfl,rfl,rfl,rfl,trivial⟩ ?_)
      | (refine ok_region (i := 3) ?_;refine ok_p rfl rfl rfl (ps_move rfl rfl) ?_;refine ok_p rfl rfl rfl (by exact ps_int rfl rfl rfl rfl) ?_;refine ok_ne [(0,_),(1,_),(2,_),(7,_),(16,_)] ⟨rfl,rfl,rfl,rfl,rfl,trivial⟩ ?_)
      | (refine ok_region (i := 4) ?_;refine ok_p rfl rfl rfl (ps_move rfl rfl) ?_;refine ok_p rfl rfl rfl (ps_assign rfl rfl) ?_;refine ok_ne [(6,_)] ⟨rfl,trivial⟩ ?_)
      | (refine ok_region (i := 5) ?_;refine ok_p rfl rfl rfl (ps_move rfl rfl) ?_;refine ok_p rfl rfl rfl (by exact ps_len rfl rfl) ?_;refine ok_p rfl rfl rfl (ps_assign rfl rfl) ?_;refine ok_ne [(0,_),(1,_),(2,_),(7,_),(8,_)] ⟨rfl,rfl,rfl,rfl,rfl,trivial⟩ ?_)
      | (refine ok_region (i := 6) ?_;refine ok_p rfl rfl rfl (ps_move rfl rfl) ?_;refine ok_p rfl rfl rfl (ps_move rfl rfl) ?_;refine ok_p rfl rfl rfl (by exact ps_int rfl rfl rfl rfl) ?_;refine ok_ne [(0,_),(1,_),(2,_),(7,_),(8,_),(22,_)] ⟨rfl,rfl,rfl,rfl,rfl,rfl,trivial⟩ ?_)
      | (refine ok_region (i := 7) ?_;refine ok_p rfl rfl rfl (ps_move rfl rfl) ?_;refine ok_p rfl rfl rfl (ps_move rfl rfl) ?_;refine ok_m rfl rfl rfl (by exact ms_appF (α := Ent) (L := R) (M := [x]) 0 rfl rfl rfl rfl (rds_row 1 rfl) rfl (by simp;omega) (by simp;omega)) ?_;rintro y25 hy25;refine ok_p rfl rfl rfl (ps_assign rfl rfl) ?_;refine ok_ne [(6,_)] ⟨rfl,trivial⟩ ?_))
    · exfalso;omega
    · exact ok_endL (vs := [_]) rfl ⟨rfl,trivial⟩ (fun w' hw => ⟨y25,by simp only [List.length_append];rfl,trivial,by simp only [List.length_append];exact (hw.front 1 rfl).tl⟩)
    · exact absurd trivial hd
  · have h0 : 0 < R.length := by omega
    obtain ⟨g,cur,rfl,hcl,hcm,hnc,hct,hw⟩ := hw.rowBox h0
    obtain ⟨gv',cv,hgv,hvl,_,_,hvt,hw⟩ := (hw.front 1 rfl).rowBox (by omega)
    have hgv2 : gv = gv' := by cases hgv;rfl
    subst hgv2
    rw [hnl]
    have hcv : cv = fl [x] := by rw [← hvt];exact (List.take_of_length_le (by omega)).symm
    subst hcv
    replace hw : WOk base w0 (.box gv 204 (fl [x]) :: .box g 204 cur :: H) G w := hw
    have hxl : (fl [x]).length = 1 * 4 := rfl
    have hDl : (fl (R.drop i)).length = (R.length - i) * 4 := by rw [fl_len,List.length_drop];rfl
    have hTl : (fl (R.take i)).length = i * 4 := by rw [fl_len,List.length_take,Nat.min_eq_left hi];rfl
    have hT : cur.take (i * 4) = fl (R.take i) := by
      have : (fl R).take (i * 4) = fl (R.take i) := fl_take R i
      rw [← this,← hct,List.take_take,Nat.min_eq_left (by omega)]
    have hD : (cur.drop (i * 4)).take ((R.length - i) * 4) = fl (R.drop i) := by
      have e1 : (fl R).drop (i * 4) = fl (R.drop i) := fl_drop R i
      rw [← e1,← hct,List.drop_take]
      congr 1
      omega
    by_cases hroom : R.length + 1 ≤ c
    · have hp1 : (putC cur ((i + 1) * 4) (fl (R.drop i))).length = cur.length := putC_len _ _ _ (by rw [hDl,hcl];omega)
      refine ok_enterW 95 Tryz.func325 rfl rfl rfl hw ?_
      repeat' (first
        | refine ok_seq ?_
        | refine ok_then ?_
        | refine ok_then_ret ?_
        | (refine ok_cond rfl (fun hc => ?_) (fun hc => ?_) <;> (have hd := hc;(try simp only [jA,jB,jC,jD,jE,jF,jG,jH,jI,jJ,jK,jL,jM,jN,jO,jP,jQ,jR,jS] at hd)))
        | refine ok_ret ?_
        | refine ok_skip ?_
        | (refine ok_region (i := 0) ?_;refine ok_p rfl rfl rfl (ps_assign rfl rfl) ?_;refine ok_ne [(0,_),(1,_),(2,_)] ⟨rfl,rfl,rfl,trivial⟩ ?_)
        | (refine ok_region (i := 1) ?_;refine ok_p rfl rfl rfl (ps_move rfl rfl) ?_;refine ok_p rfl rfl rfl (ps_move rfl rfl) ?_;refine ok_p rfl rfl rfl (by exact ps_sliceE (l := i) rfl rfl rfl rfl (by omega) (by omega)) ?_;refine ok_ne [(0,_),(1,_),(2,_)] ⟨rfl,rfl,rfl,trivial⟩ ?_)
        | (refine ok_region (i := 2) ?_;refine ok_p rfl rfl rfl (ps_move rfl rfl) ?_;refine ok_p rfl rfl rfl (by exact ps_len rfl rfl) ?_;refine ok_p rfl rfl rfl (ps_assign rfl rfl) ?_;refine ok_ne [(0,_),(1,_),(2,_),(7,_)] ⟨rfl,rfl,rfl,rfl,trivial⟩ ?_)
        | (refine ok_region (i := 3) ?_;refine ok_p rfl rfl rfl (ps_move rfl rfl) ?_;refine ok_p rfl rfl rfl (by exact ps_int rfl rfl rfl rfl) ?_;refine ok_ne [(0,_),(1,_),(2,_),(7,_),(16,_)] ⟨rfl,rfl,rfl,rfl,rfl,trivial⟩ ?_)
        | (refine ok_region (i := 4) ?_;refine ok_p rfl rfl rfl (ps_move rfl rfl) ?_;refine ok_p rfl rfl rfl (ps_assign rfl rfl) ?_;refine ok_ne [(6,_)] ⟨rfl,trivial⟩ ?_)
        | (refine ok_region (i := 5) ?_;refine ok_p rfl rfl rfl (ps_move rfl rfl) ?_;refine ok_p rfl rfl rfl (by exact ps_len rfl rfl) ?_;refine ok_p rfl rfl rfl (ps_assign rfl rfl) ?_;refine ok_ne [(0,_),(1,_),(2,_),(7,_),(8,_)] ⟨rfl,rfl,rfl,rfl,rfl,trivial⟩ ?_)
        | (refine ok_region (i := 6) ?_;refine ok_p rfl rfl rfl (ps_move rfl rfl) ?_;refine ok_p rfl rfl rfl (ps_move rfl rfl) ?_;refine ok_p rfl rfl rfl (by exact ps_int rfl rfl rfl rfl) ?_;refine ok_ne [(0,_),(1,_),(2,_),(7,_),(8,_),(22,_)] ⟨rfl,rfl,rfl,rfl,rfl,rfl,trivial⟩ ?_)
        | (refine ok_region (i := 8) ?_;refine ok_p rfl rfl rfl (ps_move rfl rfl) ?_;refine ok_p rfl rfl rfl (ps_move rfl rfl) ?_;refine ok_p rfl rfl rfl (by exact ps_add rfl rfl rfl (by omega)) ?_;refine ok_p rfl rfl rfl (ps_move rfl rfl) ?_;refine ok_p rfl rfl rfl (by exact ps_capS rfl rfl) ?_;refine ok_p rfl rfl rfl (by exact ps_int rfl rfl rfl rfl) ?_;refine ok_ne [(0,_),(1,_),(2,_),(7,_),(8,_),(31,_)] ⟨rfl,rfl,rfl,rfl,rfl,rfl,trivial⟩ ?_)
        | (refine ok_region (i := 13) ?_;refine ok_p rfl rfl rfl (ps_move rfl rfl) ?_;refine ok_p rfl rfl rfl (ps_move rfl rfl) ?_;refine ok_p rfl rfl rfl (ps_move rfl rfl) ?_;refine ok_p rfl rfl rfl (by exact ps_add rfl rfl rfl (by omega)) ?_;refine ok_p rfl rfl rfl (by exact ps_slice0 (h := R.length + 1) rfl rfl rfl rfl (by omega)) ?_;refine ok_p rfl rfl rfl (ps_assign rfl rfl) ?_;refine ok_ne [(0,_),(1,_),(2,_),(7,_),(8,_)] ⟨rfl,rfl,rfl,rfl,rfl,trivial⟩ ?_)
        | (refine ok_region (i := 14) ?_;refine ok_p rfl rfl rfl (ps_move rfl rfl) ?_;refine ok_p rfl rfl rfl (ps_move rfl rfl) ?_;refine ok_p rfl rfl rfl (ps_move rfl rfl) ?_;refine ok_p rfl rfl rfl (ps_move rfl rfl) ?_;refine ok_p rfl rfl rfl (by exact ps_add rfl rfl rfl (by omega)) ?_;refine ok_p rfl rfl rfl (by exact ps_sliceE (l := i + 1) rfl rfl rfl (by omega) (by omega) (by omega)) ?_;refine ok_m rfl rfl rfl (by exact ms_ps (ps_ovlE 0 1 rfl rfl rfl (if_neg (by omega)) rfl rfl (by decide) (by omega))) ?_;rintro y67 hy67;refine ok_p rfl rfl rfl (by exact ps_not rfl rfl) ?_;refine ok_ne [(0,_),(1,_),(2,_),(7,_),(8,_),(68,_)] ⟨rfl,rfl,rfl,rfl,rfl,rfl,trivial⟩ ?_)
        | (refine ok_draw (id := 15) 9 rfl (by kernel_rfl) (by kernel_rfl) rfl (by repeat (first | exact pq_body | refine pq_then ?_ | refine pq_in ?_)) [0] (by decide) rfl ?_;refine okT_take (i := 0) rfl (by kernel_rfl) rfl rfl rfl (ps_move rfl rfl) ?_;refine okT_take (i := 1) rfl (by kernel_rfl) rfl rfl rfl (ps_move rfl rfl) ?_;refine okT_take (i := 2) rfl (by kernel_rfl) rfl rfl rfl (ps_move rfl rfl) ?_;refine okT_take (i := 3) rfl (by kernel_rfl) rfl rfl rfl (by exact ps_add rfl rfl rfl (by omega)) ?_;refine okT_take (i := 4) rfl (by kernel_rfl) rfl rfl rfl (by exact ps_sliceE (l := i + 1) rfl rfl rfl (by omega) (by omega) (by omega)) ?_;refine okT_take (i := 5) rfl (by kernel_rfl) rfl rfl rfl (ps_move rfl rfl) ?_;refine okT_take (i := 6) rfl (by kernel_rfl) rfl rfl rfl (ps_move rfl rfl) ?_;refine okT_take (i := 7) rfl (by kernel_rfl) rfl rfl rfl (by exact ps_sliceE (l := i) rfl rfl rfl (by omega) (by omega) (by omega)) ?_;refine okT_one (i := 8) rfl rfl (by kernel_rfl) rfl rfl rfl (by exact ms_copyB (q := i + 1) (k := R.length - i) 1 rfl rfl (if_neg (by omega)) rfl rfl (by rw [if_neg (show ¬ c = i by omega),← hD];exact (rds_box 1 rfl).sub) (by simp only [Nat.min_def];split <;> omega) hDl (fl_oneC _) (by rw [hDl,hcl];omega) (by omega)) (fun y w _ h => by exact h.sel [0] (by decide) rfl (fun _ h => h)) ?_;rintro y77 hy77;refine okT_done (by kernel_rfl) ?_;refine ok_ne [(0,_),(1,_),(2,_)] ⟨rfl,rfl,rfl,trivial⟩ ?_)
        | (refine ok_region (i := 16) ?_;refine ok_p rfl rfl rfl (ps_move rfl rfl) ?_;refine ok_p rfl rfl rfl (ps_move rfl rfl) ?_;refine ok_p rfl rfl rfl (by exact ps_sliceE (l := i) rfl rfl rfl (by omega) (by omega) (by omega)) ?_;refine ok_p rfl rfl rfl (ps_move rfl rfl) ?_;refine ok_m rfl rfl rfl (by exact ms_copyB (q := i) (k := 1) 1 rfl rfl (if_neg (by omega)) rfl rfl (rds_box 0 rfl) (by simp only [Nat.min_def];split <;> omega) hxl (fl_oneC _) (by rw [hp1,hxl,hcl];omega) (by omega)) ?_;rintro y82 hy82;refine ok_ne [(0,_)] ⟨rfl,trivial⟩ ?_)
        | (refine ok_region (i := 17) ?_;refine ok_p rfl rfl rfl (ps_move rfl rfl) ?_;refine ok_p rfl rfl rfl (ps_assign rfl rfl) ?_;refine ok_ne [(6,_)] ⟨rfl,trivial⟩ ?_))
      all_goals first
        | (exfalso;omega)
        | exact absurd trivial hd
        | (exfalso;cases hc;done)
        | (refine ok_endL (vs := [_]) rfl ⟨rfl,trivial⟩ (fun w' hw => ⟨mkY (ga g) c w',rfl,trivial,?_⟩)
           exact WOk.boxRow (c := c) hw.tl (by rw [putC_len _ _ _ (by rw [hp1,hxl,hcl];omega),hp1,hcl]) hcm hroom (by
             rw [show (i + 1) * 4 = i * 4 + 4 by omega,← fl_partsE]
             exact ins_place hT (by rw [hDl,hcl];omega) hxl (by rw [hDl];omega)))
    · refine ok_enterW 95 Tryz.func325 rfl rfl rfl hw ?_
      repeat' (first
        | refine ok_seq ?_
        | refine ok_then ?_
        | refine ok_then_ret ?_
        | (refine ok_cond rfl (fun hc => ?_) (fun hc => ?_) <;> (have hd := hc;(try simp only [jA,jB,jC,jD,jE,jF,jG,jH,jI,jJ,jK,jL,jM,jN,jO,jP,jQ,jR,jS] at hd)))
        | refine ok_ret ?_
        | refine ok_skip ?_
        | (refine ok_region (i := 0) ?_;refine ok_p rfl rfl rfl (ps_assign rfl rfl) ?_;refine ok_ne [(0,_),(1,_),(2,_)] ⟨rfl,rfl,rfl,trivial⟩ ?_)
        | (refine ok_region (i := 1) ?_;refine ok_p rfl rfl rfl (ps_move rfl rfl) ?_;refine ok_p rfl rfl rfl (ps_move rfl rfl) ?_;refine ok_p rfl rfl rfl (by exact ps_sliceE (l := i) rfl rfl rfl rfl (by omega) (by omega)) ?_;refine ok_ne [(0,_),(1,_),(2,_)] ⟨rfl,rfl,rfl,trivial⟩ ?_)
        | (refine ok_region (i := 2) ?_;refine ok_p rfl rfl rfl (ps_move rfl rfl) ?_;refine ok_p rfl rfl rfl (by exact ps_len rfl rfl) ?_;refine ok_p rfl rfl rfl (ps_assign rfl rfl) ?_;refine ok_ne [(0,_),(1,_),(2,_),(7,_)] ⟨rfl,rfl,rfl,rfl,trivial⟩ ?_)
        | (refine ok_region (i := 3) ?_;refine ok_p rfl rfl rfl (ps_move rfl rfl) ?_;refine ok_p rfl rfl rfl (by exact ps_int rfl rfl rfl rfl) ?_;refine ok_ne [(0,_),(1,_),(2,_),(7,_),(16,_)] ⟨rfl,rfl,rfl,rfl,rfl,trivial⟩ ?_)
        | (refine ok_region (i := 4) ?_;refine ok_p rfl rfl rfl (ps_move rfl rfl) ?_;refine ok_p rfl rfl rfl (ps_assign rfl rfl) ?_;refine ok_ne [(6,_)] ⟨rfl,trivial⟩ ?_)
        | (refine ok_region (i := 5) ?_;refine ok_p rfl rfl rfl (ps_move rfl rfl) ?_;refine ok_p rfl rfl rfl (by exact ps_len rfl rfl) ?_;refine ok_p rfl rfl rfl (ps_assign rfl rfl) ?_;refine ok_ne [(0,_),(1,_),(2,_),(7,_),(8,_)] ⟨rfl,rfl,rfl,rfl,rfl,trivial⟩ ?_)
        | (refine ok_region (i := 6) ?_;refine ok_p rfl rfl rfl (ps_move rfl rfl) ?_;refine ok_p rfl rfl rfl (ps_move rfl rfl) ?_;refine ok_p rfl rfl rfl (by exact ps_int rfl rfl rfl rfl) ?_;refine ok_ne [(0,_),(1,_),(2,_),(7,_),(8,_),(22,_)] ⟨rfl,rfl,rfl,rfl,rfl,rfl,trivial⟩ ?_)
        | (refine ok_region (i := 8) ?_;refine ok_p rfl rfl rfl (ps_move rfl rfl) ?_;refine ok_p rfl rfl rfl (ps_move rfl rfl) ?_;refine ok_p rfl rfl rfl (by exact ps_add rfl rfl rfl (by omega)) ?_;refine ok_p rfl rfl rfl (ps_move rfl rfl) ?_;refine ok_p rfl rfl rfl (by exact ps_capS rfl rfl) ?_;refine ok_p rfl rfl rfl (by exact ps_int rfl rfl rfl rfl) ?_;refine ok_ne [(0,_),(1,_),(2,_),(7,_),(8,_),(31,_)] ⟨rfl,rfl,rfl,rfl,rfl,rfl,trivial⟩ ?_)
        | (refine ok_region (i := 9) ?_;refine ok_p rfl rfl rfl (ps_move rfl rfl) ?_;refine ok_p rfl rfl rfl (ps_move rfl rfl) ?_;refine ok_p rfl rfl rfl (by exact ps_slice0 (h := i) rfl rfl rfl rfl (by omega)) ?_;refine ok_p rfl rfl rfl (ps_move rfl rfl) ?_;refine ok_p rfl rfl rfl (ps_move rfl rfl) ?_;refine ok_p rfl rfl rfl (by exact ps_add rfl rfl rfl (by omega)) ?_;refine ok_p rfl rfl rfl (ps_move rfl rfl) ?_;refine ok_p rfl rfl rfl (by exact ps_cast (v' := .int .i64 ((R.length + 1 - i : Nat) : Int)) (ps_sub rfl rfl rfl (by omega)) (by rw [show (R.length : Int) + ((1 : Nat) : Int) - (i : Int) = ((R.length + 1 - i : Nat) : Int) by omega])) ?_;refine ok_m rfl rfl rfl (by exact ms_appZ (us := fl (R.take i)) (z := [.string ⟨#[]⟩,.int .i64 0,.bool false,.string ⟨#[]⟩]) rfl rfl rfl (by rw [← hT];exact rds_take (rds_box 1 rfl) _) hTl (by omega) (by omega) (by omega) (by omega)) ?_;rintro y40 hy40;refine ok_p rfl rfl rfl (ps_assign rfl rfl) ?_;refine ok_ne [(0,_),(1,_),(2,_),(7,_),(9,_)] ⟨rfl,rfl,rfl,rfl,rfl,trivial⟩ ?_)
        | (refine ok_region (i := 10) ?_;refine ok_p rfl rfl rfl (ps_move rfl rfl) ?_;refine ok_p rfl rfl rfl (ps_move rfl rfl) ?_;refine ok_p rfl rfl rfl (by exact ps_sliceE (l := i) rfl rfl rfl rfl (by omega) (by omega)) ?_;refine ok_p rfl rfl rfl (ps_move rfl rfl) ?_;refine ok_m rfl rfl rfl (by exact ms_copyB (q := i) (k := 1) 0 rfl rfl (if_neg (by omega)) rfl rfl (rds_box 1 rfl) (by simp only [Nat.min_def];split <;> omega) hxl (fl_oneC _) (by simp only [List.length_append,zz_len,hTl,hxl,List.length_cons,List.length_nil];omega) (by omega)) ?_;rintro y45 hy45;refine ok_ne [(0,_),(1,_),(7,_),(9,_)] ⟨rfl,rfl,rfl,rfl,trivial⟩ ?_)
        | (refine ok_draw (id := 11) 9 rfl (by kernel_rfl) (by kernel_rfl) rfl (by repeat (first | exact pq_body | refine pq_then ?_ | refine pq_in ?_)) [1,2] (by decide) rfl ?_;refine okT_take (i := 0) rfl (by kernel_rfl) rfl rfl rfl (ps_move rfl rfl) ?_;refine okT_take (i := 1) rfl (by kernel_rfl) rfl rfl rfl (ps_move rfl rfl) ?_;refine okT_take (i := 2) rfl (by kernel_rfl) rfl rfl rfl (ps_move rfl rfl) ?_;refine okT_take (i := 3) rfl (by kernel_rfl) rfl rfl rfl (by exact ps_add rfl rfl rfl (by omega)) ?_;refine okT_take (i := 4) rfl (by kernel_rfl) rfl rfl rfl (by exact ps_sliceE (l := i + 1) rfl rfl rfl (by omega) (by omega) (by omega)) ?_;refine okT_take (i := 5) rfl (by kernel_rfl) rfl rfl rfl (ps_move rfl rfl) ?_;refine okT_take (i := 6) rfl (by kernel_rfl) rfl rfl rfl (ps_move rfl rfl) ?_;refine okT_take (i := 7) rfl (by kernel_rfl) rfl rfl rfl (by exact ps_sliceE (l := i) rfl rfl rfl rfl (by omega) (by omega)) ?_;refine okT_one (i := 8) rfl rfl (by kernel_rfl) rfl rfl rfl (by exact ms_copyB (q := i + 1) (k := R.length - i) 0 rfl rfl (if_neg (by omega)) rfl rfl (by rw [if_neg (show ¬ c = i by omega),← hD];exact (rds_box 2 rfl).sub) (by simp only [Nat.min_def];split <;> omega) hDl (fl_oneC _) (by rw [putC_len _ _ _ (by simp only [List.length_append,zz_len,hTl,hxl,List.length_cons,List.length_nil];omega)];simp only [List.length_append,zz_len,hTl,hDl,List.length_cons,List.length_nil];omega) (by omega)) (fun y w _ h => by exact h.sel [1,2] (by decide) rfl (fun _ h => h)) ?_;rintro y54 hy54;refine okT_done (by kernel_rfl) ?_;refine ok_ne [(9,_)] ⟨rfl,trivial⟩ ?_)
        | (refine ok_region (i := 12) ?_;refine ok_p rfl rfl rfl (ps_move rfl rfl) ?_;refine ok_p rfl rfl rfl (ps_assign rfl rfl) ?_;refine ok_ne [(6,_)] ⟨rfl,trivial⟩ ?_))
      all_goals first
        | (exfalso;omega)
        | exact absurd trivial hd
        | (have ea : i + (R.length + 1 - i) = R.length + 1 := by omega
           refine ok_endL (vs := [_]) rfl ⟨rfl,trivial⟩ (fun w' hw => ⟨mkY (ga (y40 0).c) (y40 1).c w',by rw [ea];rfl,trivial,?_⟩)
           have q1 : (((fl (R.take i) ++ zz [.string ⟨#[]⟩,.int .i64 0,.bool false,.string ⟨#[]⟩] (R.length + 1 - i)) ++ zz [.string ⟨#[]⟩,.int .i64 0,.bool false,.string ⟨#[]⟩] ((y40 1).c - (i + (R.length + 1 - i)))).length) = (y40 1).c * 4 := by
             simp only [List.length_append,zz_len,hTl,List.length_cons,List.length_nil];omega
           have q2 := putC_len (((fl (R.take i) ++ zz [.string ⟨#[]⟩,.int .i64 0,.bool false,.string ⟨#[]⟩] (R.length + 1 - i)) ++ zz [.string ⟨#[]⟩,.int .i64 0,.bool false,.string ⟨#[]⟩] ((y40 1).c - (i + (R.length + 1 - i))))) (i * 4) (fl [x]) (by rw [q1,hxl];omega)
           have q3 := putC_len (putC (((fl (R.take i) ++ zz [.string ⟨#[]⟩,.int .i64 0,.bool false,.string ⟨#[]⟩] (R.length + 1 - i)) ++ zz [.string ⟨#[]⟩,.int .i64 0,.bool false,.string ⟨#[]⟩] ((y40 1).c - (i + (R.length + 1 - i))))) (i * 4) (fl [x])) ((i + 1) * 4) (fl (R.drop i)) (by rw [q2,q1,hDl];omega)
           refine WOk.boxRow (c := (y40 1).c) ((hw.front 1 rfl).tl.front 1 rfl).tl (by rw [q3,q2,q1]) hy40.2 (by omega) ?_
           rw [show (i + 1) * 4 = i * 4 + 4 by omega,← fl_partsE,List.append_assoc (fl (R.take i))]
           exact ins_grow hTl hxl (by rw [hDl];omega))
end Go.Proofs.YtmfojbidojjciaaGreat
/- An entry put by the program: searched by halving, inserted. -/
namespace Go.Proofs.YtmfojbidojjciaaGreat
open Go.RowKit
attribute [local irreducible] Calls
theorem cmpE_lt2 (a b : Ent) : decide (cmpE a b < 0) = aheadE a b := by
  have := cmpE_ahead a b
  rw [Bool.eq_iff_iff]
  constructor
  · intro h;cases hq : aheadE a b with
    | true => rfl
    | false => rw [hq] at this;simp at this h;omega
  · intro h;rw [h] at this;simp at this ⊢;omega
structure BsI (l : List Ent) (x : Ent) where
  i : Nat
  j : Nat
  hij : i ≤ j ∧ j ≤ l.length
  ha : ∀ q,q < i → aheadE (nth l q) x = true
  hb : ∀ q,j ≤ q → q < l.length → aheadE (nth l q) x = false
def fndE (l : List Ent) (x : Ent) (p : Nat) : Bool := decide ((p : Int) < (l.length : Int)) && ((cmpE (nth l p) x : Int) == 0)
theorem str_at {l : List Ent} (hs : strE l) {i j : Nat} (hij : i < j) (hj : j < l.length) : aheadE (nth l i) (nth l j) = true := by
  have := List.pairwise_iff_getElem.1 hs i j (by omega) hj hij
  have e1 : nth l i = l[i] := by simp [nth,show i < l.length from by omega]
  have e2 : nth l j = l[j] := by simp [nth,hj]
  rw [e1,e2];exact this
theorem bsE_c (A : Option Addr) (c : Nat) (l : List Ent) (x : Ent) (w : World) (h : Rd w A (fl l)) (hl : l.length ≤ 4194304) (hs : strE l) :
    Calls Tryz.prog 324 #[.slice A l.length c,.agg (Dat.cells x).toArray,.func (.func 217) #[] #[]] w fun e w' => ∃ y : Ys,e = .returned (.tuple #[.int .i64 ((y 0).c : Int),.bool (fndE l x (y 0).c)]) ∧ ((y 0).c ≤ l.length ∧ (∀ q,q < (y 0).c → aheadE (nth l q) x = true) ∧ ((y 0).c < l.length → aheadE (nth l (y 0).c) x = false)) ∧ Below w.heap.size w w' ∧ NewOk w.heap.size [] [] w' := by
  have HS := Lib.hid hs;clear hs
  refine ok_enter 49 Tryz.func324 rfl rfl rfl ?_
  repeat' (first
    | refine ok_seq ?_
    | refine ok_block ?_
    | (refine ok_region (i := 0) ?_;refine ok_m rfl rfl rfl (by exact ms_box rfl rfl rfl) ?_;rintro y4 hy4;refine ok_p rfl rfl rfl (ps_assign rfl rfl) ?_;refine ok_p rfl rfl rfl (ps_assign rfl rfl) ?_;refine ok_ne [(0,_),(2,_),(4,_)] ⟨rfl,rfl,rfl,trivial⟩ ?_)
    | (refine ok_region (i := 1) ?_;refine ok_p rfl rfl rfl (ps_move rfl rfl) ?_;refine ok_p rfl rfl rfl (by exact ps_len rfl rfl) ?_;refine ok_p rfl rfl rfl (ps_assign rfl rfl) ?_;refine ok_ne [(0,_),(2,_),(4,_),(8,_)] ⟨rfl,rfl,rfl,rfl,trivial⟩ ?_)
    | (refine ok_region (i := 2) ?_;refine ok_p rfl rfl rfl (ps_move rfl rfl) ?_;refine ok_p rfl rfl rfl (ps_assign rfl rfl) ?_;refine ok_p rfl rfl rfl (ps_assign rfl rfl) ?_;refine ok_ne [(0,_),(2,_),(4,_),(8,_),(9,_),(10,_)] ⟨rfl,rfl,rfl,rfl,rfl,rfl,trivial⟩ ?_))
  refine ok_loop (ι := BsI l x) (fun q => q.j - q.i) (fun q => ([(0,.slice A l.length c),(2,.func (.func 217) #[] #[]),(4,pt (ga (y4 0).c) 0),(8,.int .i64 l.length),(9,.int .i64 q.i),(10,.int .i64 q.j)],_,_)) ⟨0,l.length,by omega,fun q h => absurd h (Nat.not_lt_zero q),fun q h1 h2 => by omega⟩ (fun a w he hw => ⟨⟨0,l.length,by omega,fun q h => absurd h (Nat.not_lt_zero q),fun q h1 h2 => by omega⟩,he.sub ⟨rfl,rfl,rfl,rfl,rfl,rfl,trivial⟩,hw⟩) ?_
  rintro ⟨i,j,hij,ha,hb⟩
  simp only at hij ha hb ⊢
  have HA := Lib.hid ha;clear ha
  have HB := Lib.hid hb;clear hb
  repeat' (first
    | refine ok_seq ?_
    | refine ok_then ?_
    | refine ok_block ?_
    | refine ok_in_normal ?_
    | (refine ok_cond rfl (fun hc => ?_) (fun hc => ?_) <;> (have hd := hc;(try simp only [jA,jB,jC,jD,jE,jF,jG,jH,jI,jJ,jK,jL,jM,jN,jO,jP,jQ,jR,jS] at hd)))
    | refine ok_ret ?_
    | refine ok_exit ?_
    | refine ok_skip ?_
    | (refine ok_region (i := 3) ?_;refine ok_p rfl rfl rfl (ps_move rfl rfl) ?_;refine ok_p rfl rfl rfl (ps_move rfl rfl) ?_;refine ok_p rfl rfl rfl (by exact ps_int rfl rfl rfl rfl) ?_;refine ok_ne [(0,_),(2,_),(4,_),(8,_),(9,_),(10,_),(17,_)] ⟨rfl,rfl,rfl,rfl,rfl,rfl,rfl,trivial⟩ ?_)
    | (refine ok_region (i := 4) ?_;refine ok_p rfl rfl rfl (ps_move rfl rfl) ?_;refine ok_p rfl rfl rfl (ps_move rfl rfl) ?_;refine ok_p rfl rfl rfl (by exact ps_add rfl rfl rfl (by omega)) ?_;refine ok_p rfl rfl rfl (by exact ps_conv_id rfl rfl (IntWalk.u64_in _ (by omega))) ?_;refine ok_p rfl rfl rfl (by exact ps_half rfl rfl) ?_;refine ok_p rfl rfl rfl (by exact ps_conv_id rfl rfl (IntWalk.i64_in _ (by omega))) ?_;refine ok_p rfl rfl rfl (ps_assign rfl rfl) ?_;refine ok_ne [(0,_),(2,_),(4,_),(8,_),(9,_),(10,_),(11,_)] ⟨rfl,rfl,rfl,rfl,rfl,rfl,rfl,trivial⟩ ?_)
    | (refine ok_draw (id := 5) 8 rfl (by kernel_rfl) (by kernel_rfl) rfl (by repeat (first | exact pq_body | refine pq_then ?_ | refine pq_in ?_)) [0,1,2,3,4,5,6,7,8,9,10,11,12,13,14,15,16,17,18,19,20,21,22,23] (by decide) rfl ?_;refine okT_take (i := 0) rfl (by kernel_rfl) rfl rfl rfl (ps_move rfl rfl) ?_;refine okT_take (i := 1) rfl (by kernel_rfl) rfl rfl rfl (ps_move rfl rfl) ?_;refine okT_take (i := 2) rfl (by kernel_rfl) rfl rfl rfl (ps_move rfl rfl) ?_;refine okT_take (i := 3) rfl (by kernel_rfl) rfl rfl rfl (by exact ps_indexN rfl rfl rfl (by omega) (by exact isw_of (isS_fl (by assumption) (by omega)))) ?_;refine okT_take (i := 4) rfl (by kernel_rfl) rfl rfl rfl (by exact ps_loadsF rfl rfl (by exact rds_rf (by assumption) List.mem_cons_self) (by rfl) (by rfl) (by omega) rfl) ?_;refine okT_take (i := 5) rfl (by kernel_rfl) rfl rfl rfl (by exact ps_loads rfl rfl (by exact rds_box 0 rfl) rfl rfl (by decide)) ?_;refine okT_one (i := 6) rfl rfl (by kernel_rfl) rfl rfl rfl (by exact ms_v2 rfl rfl rfl rfl (fun _ _ w hw => compareEnts_c (nth l ((i + j) / 2)) x w)) (fun y w _ h => by exact h) ?_;rintro y30 hy30;refine okT_take (i := 7) rfl (by kernel_rfl) rfl rfl rfl (by exact ps_int rfl rfl rfl rfl) ?_;refine okT_done (by kernel_rfl) ?_;refine ok_ne [(0,_),(2,_),(4,_),(8,_),(9,_),(10,_),(11,_),(31,_)] ⟨rfl,rfl,rfl,rfl,rfl,rfl,rfl,rfl,trivial⟩ ?_)
    | (refine ok_region (i := 6) ?_;refine ok_p rfl rfl rfl (ps_move rfl rfl) ?_;refine ok_p rfl rfl rfl (by exact ps_add rfl rfl rfl (by omega)) ?_;refine ok_p rfl rfl rfl (ps_assign rfl rfl) ?_;refine ok_ne [(0,_),(2,_),(4,_),(8,_),(9,_),(10,_)] ⟨rfl,rfl,rfl,rfl,rfl,rfl,trivial⟩ ?_)
    | (refine ok_region (i := 7) ?_;refine ok_p rfl rfl rfl (ps_move rfl rfl) ?_;refine ok_p rfl rfl rfl (ps_assign rfl rfl) ?_;refine ok_ne [(0,_),(2,_),(4,_),(8,_),(9,_),(10,_)] ⟨rfl,rfl,rfl,rfl,rfl,rfl,trivial⟩ ?_)
    | (refine ok_draw (id := 8) 16 rfl (by kernel_rfl) (by kernel_rfl) rfl (by repeat (first | exact pq_body | refine pq_then ?_ | refine pq_in ?_)) [0,1,2,3,4,5,6,7,8,9,10,11,12,13,14,15,16,17,18,19,20,21,22,23] (by decide) rfl ?_;refine okT_take (i := 0) rfl (by kernel_rfl) rfl rfl rfl (ps_move rfl rfl) ?_;refine okT_take (i := 1) rfl (by kernel_rfl) rfl rfl rfl (ps_move rfl rfl) ?_;refine okT_take (i := 2) rfl (by kernel_rfl) rfl rfl rfl (ps_move rfl rfl) ?_;refine okT_take (i := 3) rfl (by kernel_rfl) rfl rfl rfl (by exact ps_int rfl rfl rfl rfl) ?_;refine okT_take (i := 4) rfl (by kernel_rfl) rfl rfl rfl (ps_move rfl rfl) ?_;refine okT_take_g1 (i := 5) rfl (by kernel_rfl) rfl rfl rfl rfl rfl (gT _) (fun hp => by exact ps_move rfl rfl) ?_;refine okT_take_g1 (i := 6) rfl (by kernel_rfl) rfl rfl rfl rfl rfl (gT _) (fun hp => by exact ps_move rfl rfl) ?_;refine okT_take_g1 (i := 7) rfl (by kernel_rfl) rfl rfl rfl rfl rfl (gT _) (fun hp => by exact ps_move rfl rfl) ?_;refine okT_take_g1 (i := 8) rfl (by kernel_rfl) rfl rfl rfl rfl rfl (gT _) (fun hp => by (have hpd := hp;(try simp only [jA,jB,jC,jD,jE,jF,jG,jH,jI,jJ,jK,jL,jM,jN,jO,jP,jQ,jR,jS] at hpd);exact ps_indexN rfl (og rfl (by assumption)) (og rfl (by assumption)) (by omega) (by exact isw_of (isS_fl (by assumption) (by omega))))) ?_;refine okT_take_g1 (i := 9) rfl (by kernel_rfl) rfl rfl rfl rfl rfl (gT _) (fun hp => by (have hpd := hp;(try simp only [jA,jB,jC,jD,jE,jF,jG,jH,jI,jJ,jK,jL,jM,jN,jO,jP,jQ,jR,jS] at hpd);exact ps_loadsF rfl (og rfl (by assumption)) (by exact rds_rf (by assumption) List.mem_cons_self) (by rfl) (by rfl) (by omega) rfl)) ?_;refine okT_take_g1 (i := 10) rfl (by kernel_rfl) rfl rfl rfl rfl rfl (gT _) (fun hp => by exact ps_loads rfl rfl (by exact rds_box 0 rfl) rfl rfl (by decide)) ?_;refine okT_one_g1 (i := 11) rfl rfl (by kernel_rfl) rfl rfl rfl rfl rfl (gT _) (fun hp => by (exact ms_v2 rfl (og rfl (by assumption)) (og rfl (by assumption)) (og rfl (by assumption)) (fun _ _ w hw => compareEnts_c (nth l i) x w))) (fun w h => by exact h) ?_;refine okT_take_g1 (i := 12) rfl (by kernel_rfl) rfl rfl rfl rfl rfl (gT _) (fun hp => by (exact ps_int rfl (og rfl (by assumption)) rfl rfl)) ?_;refine okT_take (i := 13) rfl (by kernel_rfl) rfl rfl rfl (by exact ps_and rfl rfl rfl) ?_;refine okT_take (i := 14) rfl (by kernel_rfl) rfl rfl rfl (ps_assign rfl rfl) ?_;refine okT_take (i := 15) rfl (by kernel_rfl) rfl rfl rfl (ps_assign rfl rfl) ?_;refine okT_done (by kernel_rfl) ?_;refine ok_ne [(6,_),(7,_)] ⟨rfl,rfl,trivial⟩ ?_))
  · have h1 : aheadE (nth l ((i + j) / 2)) x = true := by rw [← cmpE_lt2];exact hc
    exact fun a w' he hw => ⟨⟨(i + j) / 2 + 1,j,by omega,fun q hq => by
      rcases Nat.lt_succ_iff_lt_or_eq.1 hq with h' | h'
      · exact ahead_trans (str_at HS.out h' (by omega)) h1
      · subst h';exact h1,HB.out⟩,by simp only;omega,he.sub ⟨rfl,rfl,rfl,rfl,rfl,rfl,trivial⟩,hw⟩
  · have h1 : aheadE (nth l ((i + j) / 2)) x = false := by rw [← cmpE_lt2];exact hc
    exact fun a w' he hw => ⟨⟨i,(i + j) / 2,by omega,HA.out,fun q h2 h3 => by
      rcases Nat.eq_or_lt_of_le h2 with h' | h'
      · subst h';exact h1
      · cases hq : aheadE (nth l q) x with
        | false => rfl
        | true =>
          have := ahead_trans (str_at HS.out h' h3) hq
          rw [h1] at this;cases this⟩,by simp only;omega,he.sub ⟨rfl,rfl,rfl,rfl,rfl,rfl,trivial⟩,hw⟩
  · obtain rfl : i = j := by omega
    exact ok_endL (vs := [_,_]) rfl ⟨rfl,rfl,trivial⟩ (fun w' hw => ⟨mkY none i w',rfl,⟨hij.2,HA.out,fun h => HB.out i (Nat.le_refl _) h⟩,hw.below,NewOk.nil _ _⟩)
theorem cmpE_zero {a b : Ent} (h : cmpE a b = 0) : sameE a b = true := by
  unfold cmpE or2 at h
  split at h
  · rename_i h1;exact absurd h h1
  · rename_i h1
    have h1 : cmpT a.key b.key = 0 := by simpa using h1
    unfold cmpI at h
    have hq : a.seq = b.seq := by
      split at h
      · cases h
      · split at h
        · cases h
        · omega
    unfold cmpT at h1
    have hk : sEq a.key b.key = true := by
      rcases sTri a.key b.key with ⟨g1,g2,g3⟩ | ⟨g1,g2,g3⟩ | ⟨g1,g2,g3⟩
      · rw [g1] at h1;simp at h1
      · rw [g1,g2] at h1;simp at h1
      · exact g3
    unfold sameE;rw [hk,hq];simp
theorem fnd_no {R : List Ent} {x : Ent} (hn : ∀ y ∈ R,sameE y x = false) (p : Nat) : fndE R x p = false := by
  unfold fndE
  rw [Bool.and_eq_false_iff]
  by_cases hp : p < R.length
  · right
    cases hq : ((cmpE (nth R p) x : Int) == 0) with
    | false => rfl
    | true =>
      have := cmpE_zero (by simpa using hq)
      rw [hn _ (nth_mem R p hp)] at this;cases this
  · left;simp;omega
theorem i_put (A : Option Addr) (c : Nat) (R : List Ent) (x : Ent) (hs : strE R) (hn : ∀ y ∈ R,sameE y x = false) (hl : R.length ≤ 4194304) {base : Nat} {w0 w : World} {H : List HObj} {G : List World} (hw : WOk base w0 (.row 204 4 A R.length c (fl R) :: H) G w) :
    Calls Tryz.prog 279 #[.slice A R.length c,.agg (Dat.cells x).toArray] w fun e w' => ∃ y : Ys,e = .returned (.tuple #[.slice (y 0).A (insE R x).length (y 0).c,.bool true]) ∧ True ∧ WOk base w0 (.row 204 4 (y 0).A (insE R x).length (y 0).c (fl (insE R x)) :: H) G w' := by
  have hf := fun p => fnd_no hn p
  have HF := Lib.hid hf;clear hf
  have HN := Lib.hid hn;clear hn
  have HS := Lib.hid hs;clear hs
  refine ok_enterW 21 Tryz.func279 rfl rfl rfl hw ?_
  repeat' ((fail_if_success (refine at_reg 4 ?_));first
    | refine ok_seq ?_
    | refine ok_then ?_
    | refine ok_then_ret ?_
    | (refine ok_cond rfl (fun hc => ?_) (fun hc => ?_) <;> (have hd := hc;(try simp only [jA,jB,jC,jD,jE,jF,jG,jH,jI,jJ,jK,jL,jM,jN,jO,jP,jQ,jR,jS] at hd)))
    | refine ok_ret ?_
    | refine ok_skip ?_
    | (refine ok_region (i := 0) ?_;refine ok_m rfl rfl rfl (by exact ms_box rfl rfl rfl) ?_;rintro y3 hy3;refine ok_p rfl rfl rfl (ps_assign rfl rfl) ?_;refine ok_p rfl rfl rfl (ps_assign rfl rfl) ?_;refine ok_ne [(0,_),(3,_)] ⟨rfl,rfl,trivial⟩ ?_)
    | (refine ok_region (i := 1) ?_;refine ok_p rfl rfl rfl (ps_move rfl rfl) ?_;refine ok_p rfl rfl rfl (by exact ps_loads rfl rfl (by exact rds_box 0 rfl) rfl rfl (by decide)) ?_;refine ok_m rfl rfl rfl (by exact ms_c3 rfl rfl rfl rfl (fun _ _ w hw => bsE_c A c R x w (hw.row 1 rfl) hl HS.out)) ?_;rintro y11 hy11;refine ok_p rfl rfl rfl (ps_move rfl rfl) ?_;refine ok_p rfl rfl rfl (by exact ps_extract rfl rfl rfl) ?_;refine ok_p rfl rfl rfl (by exact ps_extract rfl rfl rfl) ?_;refine ok_p rfl rfl rfl (ps_assign rfl rfl) ?_;refine ok_p rfl rfl rfl (ps_assign rfl rfl) ?_;refine ok_ne [(0,_),(3,_),(6,_),(7,_)] ⟨rfl,rfl,rfl,rfl,trivial⟩ ?_)
    | (refine ok_region (i := 2) ?_;refine ok_p rfl rfl rfl (ps_move rfl rfl) ?_;refine ok_ne [(0,_),(3,_),(6,_),(14,_)] ⟨rfl,rfl,rfl,rfl,trivial⟩ ?_)
    | (refine ok_region (i := 3) ?_;refine ok_p rfl rfl rfl (ps_move rfl rfl) ?_;refine ok_p rfl rfl rfl (ps_assign rfl rfl) ?_;refine ok_p rfl rfl rfl (ps_assign rfl rfl) ?_;refine ok_ne [(4,_),(5,_)] ⟨rfl,rfl,trivial⟩ ?_))
  · exfalso;rw [HF.out] at hd;cases hd
  obtain ⟨h1,h2,h3⟩ := hy11
  generalize (y11 0).c = p at h1 h2 h3 ⊢
  have e := insE_at R x p h1 HN.out h2 h3
  have e2 : insE R x = R.take p ++ [x] ++ R.drop p := by rw [e];simp
  rw [e2]
  clear hc hd e e2 h2 h3
  repeat' (first
    | refine ok_then ?_
    | refine ok_ret ?_
    | (refine ok_region (i := 4) ?_;refine ok_p rfl rfl rfl (ps_move rfl rfl) ?_;refine ok_p rfl rfl rfl (ps_move rfl rfl) ?_;refine ok_p rfl rfl rfl (by exact ps_loads rfl rfl (by exact rds_box 0 rfl) rfl rfl (by decide)) ?_;refine ok_m rfl rfl rfl (by exact ms_lit rfl (parts_cons rfl parts_nil) rfl rfl rfl) ?_;rintro y19 hy19;refine ok_m rfl rfl rfl (by exact ms_w3 (fun _ _ _ h => h.front 2 rfl) rfl rfl rfl rfl (fun _ _ w hw => insertE_c A c _ p R x h1 hl hw)) ?_;rintro y20 hy20;refine ok_p rfl rfl rfl (ps_assign rfl rfl) ?_;refine ok_p rfl rfl rfl (ps_assign rfl rfl) ?_;refine ok_ne [(4,_),(5,_)] ⟨rfl,rfl,trivial⟩ ?_))
  exact ok_endL (vs := [_,_]) rfl ⟨rfl,rfl,trivial⟩ (fun w' hw => ⟨y20,rfl,trivial,(hw.front 1 rfl).tl⟩)
end Go.Proofs.YtmfojbidojjciaaGreat
/- Rows of impl.Op: index. -/
namespace Go.Proofs.YtmfojbidojjciaaGreat
open Go.RowKit
attribute [local irreducible] Calls
theorem indexO_c (f : FuncId) [hF : FN Tryz.prog f] (cs : List Value) (p : Opp → Bool) (A : Option Addr) (c : Nat) (R : List Opp) (w : World) (h : Rd w A (fl R)) (hl : R.length ≤ 4194304)
    (hf : ∀ (x : Opp) (w' : World),Keeps w w' → Calls Tryz.prog f (Value.agg (Dat.cells x).toArray :: cs).toArray w' (fun e w'' => e = .returned (.bool (p x)) ∧ Below w'.heap.size w' w'')) :
    Calls Tryz.prog 323 #[.slice A R.length c,.func (.func f) #[] cs.toArray] w fun e w' => e = .returned (.int .i64 (ixP p R)) ∧ Below w.heap.size w w' := by
  refine ok_enter 19 Tryz.func323 rfl rfl rfl ?_
  repeat' (first
    | refine ok_seq ?_
    | refine ok_then ?_
    | refine ok_then_ret ?_
    | refine ok_then_exit ?_
    | refine ok_block ?_
    | refine ok_in_normal ?_
    | refine ok_in_ret ?_
    | refine ok_in_exit ?_
    | refine ok_in_other rfl ?_
    | (refine ok_cond rfl (fun hc => ?_) (fun hc => ?_) <;> (have hd := hc;(try simp only [jA,jB,jC,jD,jE,jF,jG,jH,jI,jJ,jK,jL,jM,jN,jO,jP,jQ,jR,jS] at hd)))
    | refine ok_ret ?_
    | refine ok_exit ?_
    | refine ok_skip ?_
    | (refine ok_region (i := 0) ?_;refine ok_p rfl rfl rfl (ps_assign rfl rfl) ?_;refine ok_ne [(0,_),(1,_)] ⟨rfl,rfl,trivial⟩ ?_)
    | (refine ok_region (i := 1) ?_;refine ok_p rfl rfl rfl (ps_move rfl rfl) ?_;refine ok_p rfl rfl rfl (by exact ps_len rfl rfl) ?_;refine ok_p rfl rfl rfl (ps_move rfl rfl) ?_;refine ok_ne [(0,_),(1,_),(7,_),(8,_)] ⟨rfl,rfl,rfl,rfl,trivial⟩ ?_)
    | (refine ok_region (i := 2) ?_;refine ok_p rfl rfl rfl (by exact ps_int rfl rfl rfl rfl) ?_;refine ok_ne [(0,_),(1,_),(7,_),(8,_),(9,_)] ⟨rfl,rfl,rfl,rfl,rfl,trivial⟩ ?_)
    | (refine ok_region (i := 3) ?_;refine ok_p rfl rfl rfl (ps_move rfl rfl) ?_;refine ok_p rfl rfl rfl (ps_assign rfl rfl) ?_;refine ok_ne [(0,_),(1,_),(5,_),(7,_),(8,_)] ⟨rfl,rfl,rfl,rfl,rfl,trivial⟩ ?_)
    | (refine ok_region (i := 4) ?_;refine ok_p rfl rfl rfl (ps_move rfl rfl) ?_;refine ok_p rfl rfl rfl (ps_move rfl rfl) ?_;refine ok_p rfl rfl rfl (ps_move rfl rfl) ?_;refine ok_p rfl rfl rfl (by first | exact ps_indexN rfl rfl rfl (by omega) (by first | exact isw_ga _ | exact isw_some _ | exact isw_row 0 rfl (by omega) | exact isw_row 1 rfl (by omega) | exact isw_row 2 rfl (by omega) | exact isw_row 3 rfl (by omega) | exact isw_row 4 rfl (by omega) | exact isw_row 5 rfl (by omega) | exact isw_row 6 rfl (by omega) | exact isw_row 7 rfl (by omega) | exact isw_row 8 rfl (by omega) | exact isw_of (isS_fl (by assumption) (by omega)) | exact isw_of (by assumption)) | exact ps_index rfl rfl rfl (by omega) (by first | exact isw_ga _ | exact isw_some _ | exact isw_row 0 rfl (by omega) | exact isw_row 1 rfl (by omega) | exact isw_row 2 rfl (by omega) | exact isw_row 3 rfl (by omega) | exact isw_row 4 rfl (by omega) | exact isw_row 5 rfl (by omega) | exact isw_row 6 rfl (by omega) | exact isw_row 7 rfl (by omega) | exact isw_row 8 rfl (by omega) | exact isw_of (isS_fl (by assumption) (by omega)) | exact isw_of (by assumption))) ?_;refine ok_p rfl rfl rfl (by first | exact ps_loads rfl rfl (by first | exact rds_box 0 rfl | exact rds_box 1 rfl | exact rds_box 2 rfl | exact rds_box 3 rfl | exact rds_box 4 rfl | exact rds_box 5 rfl | exact rds_box 6 rfl | exact rds_box 7 rfl | exact rds_box 8 rfl | exact rds_box 9 rfl | exact rds_box 10 rfl | exact rds_box 11 rfl | exact rds_box 12 rfl | exact rds_box 13 rfl | exact rds_box 14 rfl | exact rds_box 15 rfl | exact rds_box 16 rfl | exact rds_box 17 rfl | exact rds_box 18 rfl | exact rds_box 19 rfl | exact rds_box 20 rfl | exact rds_box 21 rfl | exact rds_box 22 rfl | exact rds_box 23 rfl) rfl rfl (by decide) | exact ps_loadsF rfl rfl (by first | exact rds_row 0 rfl | exact rds_row 1 rfl | exact rds_row 2 rfl | exact rds_row 3 rfl | exact rds_row 4 rfl | exact rds_row 5 rfl | exact rds_row 6 rfl | exact rds_row 7 rfl | exact rds_row 8 rfl | exact rds_row 9 rfl | exact rds_row 10 rfl | exact rds_row 11 rfl | exact rds_row 12 rfl | exact rds_row 13 rfl | exact rds_row 14 rfl | exact rds_row 15 rfl | exact rds_row 16 rfl | exact rds_row 17 rfl | exact rds_row 18 rfl | exact rds_row 19 rfl | exact rds_row 20 rfl | exact rds_row 21 rfl | exact rds_row 22 rfl | exact rds_row 23 rfl | exact rds_rf (by assumption) (by first | exact List.mem_cons_self | exact List.mem_cons_of_mem _ List.mem_cons_self | simp)) (by rfl) (by rfl) (by omega) rfl) ?_;refine ok_m rfl rfl rfl (by fail "no maker call") ?_;rintro y16 hy16;refine ok_ne [(0,_),(1,_),(5,_),(7,_),(8,_),(16,_)] ⟨rfl,rfl,rfl,rfl,rfl,rfl,trivial⟩ ?_)
    | (refine ok_region (i := 5) ?_;refine ok_p rfl rfl rfl (ps_move rfl rfl) ?_;refine ok_p rfl rfl rfl (ps_assign rfl rfl) ?_;refine ok_ne [(4,_)] ⟨rfl,trivial⟩ ?_)
    | (refine ok_region (i := 6) ?_;refine ok_p rfl rfl rfl (by exact ps_add rfl rfl rfl (by omega)) ?_;refine ok_p rfl rfl rfl (ps_move rfl rfl) ?_;refine ok_ne [(0,_),(1,_),(7,_),(8,_)] ⟨rfl,rfl,rfl,rfl,trivial⟩ ?_)
    | (refine ok_region (i := 7) ?_;refine ok_p rfl rfl rfl (ps_assign rfl rfl) ?_;refine ok_ne [(4,_)] ⟨rfl,trivial⟩ ?_))
  refine ok_loop (ι := { k : Nat // k ≤ R.length ∧ ixP p R = ixF p R (R.length - k) k }) (fun k => R.length - k.1) (fun k => ([(0,.slice A R.length c),(1,.func (.func f) #[] cs.toArray),(7,.int .i64 R.length),(8,.int .i64 k.1)],_,_)) ⟨0,by omega,rfl⟩ (fun a w he hw => ⟨⟨0,by omega,rfl⟩,he.sub ⟨rfl,rfl,rfl,rfl,trivial⟩,hw⟩) ?_
  rintro ⟨k,hk,hr⟩
  simp only at hk hr ⊢
  have HR := Lib.hid hr;clear hr
  repeat' (first
    | refine ok_seq ?_
    | refine ok_then ?_
    | refine ok_then_ret ?_
    | refine ok_then_exit ?_
    | refine ok_block ?_
    | refine ok_in_normal ?_
    | refine ok_in_ret ?_
    | refine ok_in_exit ?_
    | refine ok_in_other rfl ?_
    | (refine ok_cond rfl (fun hc => ?_) (fun hc => ?_) <;> (have hd := hc;(try simp only [jA,jB,jC,jD,jE,jF,jG,jH,jI,jJ,jK,jL,jM,jN,jO,jP,jQ,jR,jS] at hd)))
    | refine ok_ret ?_
    | refine ok_exit ?_
    | refine ok_skip ?_
    | (refine ok_region (i := 0) ?_;refine ok_p rfl rfl rfl (ps_assign rfl rfl) ?_;refine ok_ne [(0,_),(1,_)] ⟨rfl,rfl,trivial⟩ ?_)
    | (refine ok_region (i := 1) ?_;refine ok_p rfl rfl rfl (ps_move rfl rfl) ?_;refine ok_p rfl rfl rfl (by exact ps_len rfl rfl) ?_;refine ok_p rfl rfl rfl (ps_move rfl rfl) ?_;refine ok_ne [(0,_),(1,_),(7,_),(8,_)] ⟨rfl,rfl,rfl,rfl,trivial⟩ ?_)
    | (refine ok_region (i := 2) ?_;refine ok_p rfl rfl rfl (by exact ps_int rfl rfl rfl rfl) ?_;refine ok_ne [(0,_),(1,_),(7,_),(8,_),(9,_)] ⟨rfl,rfl,rfl,rfl,rfl,trivial⟩ ?_)
    | (refine ok_region (i := 3) ?_;refine ok_p rfl rfl rfl (ps_move rfl rfl) ?_;refine ok_p rfl rfl rfl (ps_assign rfl rfl) ?_;refine ok_ne [(0,_),(1,_),(5,_),(7,_),(8,_)] ⟨rfl,rfl,rfl,rfl,rfl,trivial⟩ ?_)
    | (refine ok_region (i := 4) ?_;refine ok_p rfl rfl rfl (ps_move rfl rfl) ?_;refine ok_p rfl rfl rfl (ps_move rfl rfl) ?_;refine ok_p rfl rfl rfl (ps_move rfl rfl) ?_;refine ok_p rfl rfl rfl (by first | exact ps_indexN rfl rfl rfl (by omega) (by first | exact isw_ga _ | exact isw_some _ | exact isw_row 0 rfl (by omega) | exact isw_row 1 rfl (by omega) | exact isw_row 2 rfl (by omega) | exact isw_row 3 rfl (by omega) | exact isw_row 4 rfl (by omega) | exact isw_row 5 rfl (by omega) | exact isw_row 6 rfl (by omega) | exact isw_row 7 rfl (by omega) | exact isw_row 8 rfl (by omega) | exact isw_of (isS_fl (by assumption) (by omega)) | exact isw_of (by assumption)) | exact ps_index rfl rfl rfl (by omega) (by first | exact isw_ga _ | exact isw_some _ | exact isw_row 0 rfl (by omega) | exact isw_row 1 rfl (by omega) | exact isw_row 2 rfl (by omega) | exact isw_row 3 rfl (by omega) | exact isw_row 4 rfl (by omega) | exact isw_row 5 rfl (by omega) | exact isw_row 6 rfl (by omega) | exact isw_row 7 rfl (by omega) | exact isw_row 8 rfl (by omega) | exact isw_of (isS_fl (by assumption) (by omega)) | exact isw_of (by assumption))) ?_;refine ok_p rfl rfl rfl (by first | exact ps_loads rfl rfl (by first | exact rds_box 0 rfl | exact rds_box 1 rfl | exact rds_box 2 rfl | exact rds_box 3 rfl | exact rds_box 4 rfl | exact rds_box 5 rfl | exact rds_box 6 rfl | exact rds_box 7 rfl | exact rds_box 8 rfl | exact rds_box 9 rfl | exact rds_box 10 rfl | exact rds_box 11 rfl | exact rds_box 12 rfl | exact rds_box 13 rfl | exact rds_box 14 rfl | exact rds_box 15 rfl | exact rds_box 16 rfl | exact rds_box 17 rfl | exact rds_box 18 rfl | exact rds_box 19 rfl | exact rds_box 20 rfl | exact rds_box 21 rfl | exact rds_box 22 rfl | exact rds_box 23 rfl) rfl rfl (by decide) | exact ps_loadsF rfl rfl (by first | exact rds_row 0 rfl | exact rds_row 1 rfl | exact rds_row 2 rfl | exact rds_row 3 rfl | exact rds_row 4 rfl | exact rds_row 5 rfl | exact rds_row 6 rfl | exact rds_row 7 rfl | exact rds_row 8 rfl | exact rds_row 9 rfl | exact rds_row 10 rfl | exact rds_row 11 rfl | exact rds_row 12 rfl | exact rds_row 13 rfl | exact rds_row 14 rfl | exact rds_row 15 rfl | exact rds_row 16 rfl | exact rds_row 17 rfl | exact rds_row 18 rfl | exact rds_row 19 rfl | exact rds_row 20 rfl | exact rds_row 21 rfl | exact rds_row 22 rfl | exact rds_row 23 rfl | exact rds_rf (by assumption) (by first | exact List.mem_cons_self | exact List.mem_cons_of_mem _ List.mem_cons_self | simp)) (by rfl) (by rfl) (by omega) rfl) ?_;refine ok_m rfl rfl rfl (by exact ms_k1 rfl rfl rfl (fun _ _ w' hw => hf (nth R k) w' (hw.keeps (by first | exact List.mem_cons_self | exact List.mem_cons_of_mem _ List.mem_cons_self | simp)))) ?_;rintro y16 hy16;refine ok_ne [(0,_),(1,_),(5,_),(7,_),(8,_),(16,_)] ⟨rfl,rfl,rfl,rfl,rfl,rfl,trivial⟩ ?_)
    | (refine ok_region (i := 5) ?_;refine ok_p rfl rfl rfl (ps_move rfl rfl) ?_;refine ok_p rfl rfl rfl (ps_assign rfl rfl) ?_;refine ok_ne [(4,_)] ⟨rfl,trivial⟩ ?_)
    | (refine ok_region (i := 6) ?_;refine ok_p rfl rfl rfl (by exact ps_add rfl rfl rfl (by omega)) ?_;refine ok_p rfl rfl rfl (ps_move rfl rfl) ?_;refine ok_ne [(0,_),(1,_),(7,_),(8,_)] ⟨rfl,rfl,rfl,rfl,trivial⟩ ?_)
    | (refine ok_region (i := 7) ?_;refine ok_p rfl rfl rfl (ps_assign rfl rfl) ?_;refine ok_ne [(4,_)] ⟨rfl,trivial⟩ ?_))
  · have e : ixP p R = (k : Int) := by rw [HR.out,ixF_step (by omega),hc];rfl
    rw [e]
    exact ok_endL (vs := [_]) rfl ⟨rfl,trivial⟩ (fun w' hw => ⟨rfl,hw.below⟩)
  · have e : ixF p R (R.length - k) k = ixF p R (R.length - (k + 1)) (k + 1) := by rw [ixF_step (by omega),hc];rfl
    exact fun a w' he hw => ⟨⟨k + 1,by omega,HR.out.trans e⟩,by simp only;omega,he.sub ⟨rfl,rfl,rfl,rfl,trivial⟩,hw⟩
  · obtain rfl : k = R.length := by omega
    have e : ixP p R = -1 := by rw [HR.out,Nat.sub_self];rfl
    rw [e]
    exact ok_endL (vs := [_]) rfl ⟨rfl,trivial⟩ (fun w' hw => ⟨rfl,hw.below⟩)
end Go.Proofs.YtmfojbidojjciaaGreat
/- Plain: the longest match among the last bytes, told twice, is one; the packed text. -/
namespace Go.Proofs.YtmfojbidojjciaaGreat
/-- Byte k of a string. -/
def gb (s : ByteArray) (k : Nat) : UInt8 := s[k]!
theorem gb_eq (s : ByteArray) (k : Nat) (h : k < s.size) : gb s k = s[k] := getElem!_pos s k h
end Go.Proofs.YtmfojbidojjciaaGreat
/- Unpack in plain Lean: the decoder. -/
namespace Go.Proofs.YtmfojbidojjciaaGreat
def upCopy (o : List UInt8) (d n : Nat) : List UInt8 := (o.drop (o.length - d)).take n
def upStep (s : ByteArray) (k : Nat) (o : List UInt8) : Option (Nat × List UInt8) :=
  if gb s k = 0 ∧ k + 1 < s.size then some (k + 2,o ++ [gb s (k + 1)])
  else if gb s k = 1 ∧ k + 2 < s.size ∧ (gb s (k + 1)).toNat ≤ o.length ∧ (gb s (k + 2)).toNat ≤ (gb s (k + 1)).toNat then some (k + 3,o ++ upCopy o (gb s (k + 1)).toNat (gb s (k + 2)).toNat)
  else none
def upF (s : ByteArray) : Nat → Nat → List UInt8 → Option (List UInt8)
  | 0,_,o => some o
  | f + 1,k,o => if k < s.size then (match upStep s k o with | none => none | some (k',o') => if 200 < o'.length then none else upF s f k' o') else some o
def upL (s : ByteArray) : Option (List UInt8) := upF s s.size 0 []
end Go.Proofs.YtmfojbidojjciaaGreat
/- Walks of l29Best, matchAt and both Pack. -/
namespace Go.Proofs.YtmfojbidojjciaaGreat
open Go.RowKit
set_option maxHeartbeats 400000
end Go.Proofs.YtmfojbidojjciaaGreat
/- Walks of l29Best, matchAt and both Pack. -/
namespace Go.Proofs.YtmfojbidojjciaaGreat
open Go.RowKit
set_option maxHeartbeats 400000
end Go.Proofs.YtmfojbidojjciaaGreat
/- Walks of l29Best, matchAt and both Pack. -/
namespace Go.Proofs.YtmfojbidojjciaaGreat
open Go.RowKit
set_option maxHeartbeats 400000
end Go.Proofs.YtmfojbidojjciaaGreat
/- Unpack of both programs: one plain function. -/
namespace Go.Proofs.YtmfojbidojjciaaGreat
open Go.RowKit
attribute [local irreducible] Calls
theorem gb_bt (s : ByteArray) (k : Nat) (h : k < s.size) : bt s k = (gb s k).toNat := by
  rw [gb_eq s k h]
  unfold bt bl
  rw [List.getD_eq_getElem?_getD,List.getElem?_eq_getElem (by simpa using h)]
  rfl
theorem ext1 (s : ByteArray) (k : Nat) (h : k < s.size) : s.extract k (k + 1) = ⟨[gb s k].toArray⟩ := by
  apply ByteArray.ext
  apply Array.ext'
  rw [ByteArray.data_extract,Array.toList_extract]
  have hl : k < s.data.toList.length := by simpa using h
  rw [List.extract_eq_take_drop,show k + 1 - k = 1 by omega,List.drop_eq_getElem_cons hl,List.take_succ_cons,List.take_zero,gb_eq s k h]
  rfl
theorem sEq1 (a b : UInt8) : sEq ⟨[a].toArray⟩ ⟨[b].toArray⟩ = (a == b) := by unfold sEq;simp
/-- The flag that the reader reads. -/
def rdFb (s : ByteArray) (k : Nat) (bad : Bool) : Bool := !bad && decide (k < s.size) && (gb s k == 1)
def rdFk (s : ByteArray) (k : Nat) (bad : Bool) : Nat := if bad = true ∨ s.size < k + 1 then k else k + 1
def rdFx (s : ByteArray) (k : Nat) (bad : Bool) : Bool := if bad = true ∨ s.size < k + 1 then true else !(gb s k == 0) && !(gb s k == 1)
theorem rdF_c (g : Nat) (s : ByteArray) (k : Nat) (bad : Bool) (hs : s.size ≤ 4194304) (hk : k ≤ s.size) {base : Nat} {w0 w : World} {H : List HObj} {G : List World} (hw : WOk base w0 (rdr g s k bad :: H) G w) :
    Calls Tryz.prog 321 #[pt (ga g) 0] w fun e w' => ∃ y : Ys,e = .returned (.bool (rdFb s k bad)) ∧ True ∧ WOk base w0 (rdr g s (rdFk s k bad) (rdFx s k bad) :: H) G w' := by
  have n1 : sEq (⟨#[]⟩ : ByteArray) ⟨#[1]⟩ = false := by unfold sEq;simp
  refine ok_enterW 17 Tryz.func321 rfl rfl rfl hw ?_
  by_cases h : bad = true ∨ s.size < k + 1
  · have e1 : rdB s 1 k bad = (⟨#[]⟩,k,true) := by unfold rdB;rw [if_pos h]
    have e2 : rdFb s k bad = false := by unfold rdFb;rcases h with h | h <;> simp [h];omega
    have e3 : rdFk s k bad = k := by unfold rdFk;rw [if_pos h]
    have e4 : rdFx s k bad = true := by unfold rdFx;rw [if_pos h]
    rw [e2,e3,e4]
    repeat' (first
      | refine ok_seq ?_
      | refine ok_then ?_
      | (refine ok_cond rfl (fun hc => ?_) (fun hc => ?_) <;> (have hd := hc;(try simp only [jA,jB,jC,jD,jE,jF,jG,jH,jI,jJ,jK,jL,jM,jN,jO,jP,jQ,jR,jS] at hd)))
      | refine ok_ret ?_
      | refine ok_skip ?_
      | (refine ok_region (i := 0) ?_;refine ok_p rfl rfl rfl (ps_assign rfl rfl) ?_;refine ok_ne [(0,_)] ⟨rfl,trivial⟩ ?_)
      | (refine ok_region (i := 1) ?_;refine ok_p rfl rfl rfl (ps_move rfl rfl) ?_;refine ok_m rfl rfl rfl (by exact ms_w2 (fun _ _ _ h => h) rfl rfl rfl (fun _ _ w hw => by have := rdB_c g s 1 k bad hs hk (by omega) hw;rw [e1] at this;exact this)) ?_;rintro y5 hy5;refine ok_p rfl rfl rfl (ps_assign rfl rfl) ?_;refine ok_ne [(0,_),(3,_)] ⟨rfl,rfl,trivial⟩ ?_)
      | (refine ok_region (i := 2) ?_;refine ok_p rfl rfl rfl (ps_move rfl rfl) ?_;refine ok_p rfl rfl rfl (by exact ps_str rfl rfl rfl rfl) ?_;refine ok_p rfl rfl rfl (ps_move rfl rfl) ?_;refine ok_pg rfl rfl rfl rfl rfl (gT _) (fun hp => by exact ps_move rfl rfl) ?_;refine ok_pg rfl rfl rfl rfl rfl (gT _) (fun hp => by (exact ps_str rfl (og rfl (by assumption)) rfl rfl)) ?_;refine ok_p rfl rfl rfl (by exact ps_and rfl rfl rfl) ?_;refine ok_ne [(0,_),(3,_),(11,_)] ⟨rfl,rfl,rfl,trivial⟩ ?_)
      | (refine ok_region (i := 3) ?_;refine ok_p rfl rfl rfl (ps_move rfl rfl) ?_;refine ok_p rfl rfl rfl (by exact ps_nil rfl rfl (isw_ga _)) ?_;refine ok_p rfl rfl rfl (by exact ps_field rfl rfl (isw_ga _)) ?_;refine ok_m_ rfl rfl (by exact ms_store 0 rfl rfl rfl rfl rfl rfl rfl rfl) ?_;rintro y_ hy_;refine ok_ne [(3,_)] ⟨rfl,trivial⟩ ?_)
      | (refine ok_region (i := 4) ?_;refine ok_p rfl rfl rfl (ps_move rfl rfl) ?_;refine ok_p rfl rfl rfl (by exact ps_str rfl rfl rfl rfl) ?_;refine ok_p rfl rfl rfl (ps_assign rfl rfl) ?_;refine ok_ne [(2,_)] ⟨rfl,trivial⟩ ?_))
    all_goals
      refine ok_endL (vs := [_]) rfl ⟨rfl,trivial⟩ (fun w' hw => ⟨mkY none 0 w',?_,trivial,hw⟩)
      show Ending.returned (.bool (sEq (⟨#[]⟩ : ByteArray) ⟨#[1]⟩)) = _
      rw [n1]
  · obtain rfl : bad = false := by simpa using fun h2 => h (.inl h2)
    have hk1 : k < s.size := by omega
    have e1 : rdB s 1 k false = (⟨[gb s k].toArray⟩,k + 1,false) := by unfold rdB;rw [if_neg h,ext1 s k hk1]
    have e2 : rdFb s k false = (gb s k == 1) := by unfold rdFb;simp [hk1]
    have e3 : rdFk s k false = k + 1 := by unfold rdFk;rw [if_neg h]
    have e4 : rdFx s k false = (!(gb s k == 0) && !(gb s k == 1)) := by unfold rdFx;rw [if_neg h]
    rw [e2,e3,e4]
    have s0 := sEq1 (gb s k) 0
    have s1 := sEq1 (gb s k) 1
    repeat' (first
      | refine ok_seq ?_
      | refine ok_then ?_
      | (refine ok_cond rfl (fun hc => ?_) (fun hc => ?_) <;> (have hd := hc;(try simp only [jA,jB,jC,jD,jE,jF,jG,jH,jI,jJ,jK,jL,jM,jN,jO,jP,jQ,jR,jS] at hd)))
      | refine ok_ret ?_
      | refine ok_skip ?_
      | (refine ok_region (i := 0) ?_;refine ok_p rfl rfl rfl (ps_assign rfl rfl) ?_;refine ok_ne [(0,_)] ⟨rfl,trivial⟩ ?_)
      | (refine ok_region (i := 1) ?_;refine ok_p rfl rfl rfl (ps_move rfl rfl) ?_;refine ok_m rfl rfl rfl (by exact ms_w2 (fun _ _ _ h => h) rfl rfl rfl (fun _ _ w hw => by have := rdB_c g s 1 k false hs hk (by omega) hw;rw [e1] at this;exact this)) ?_;rintro y5 hy5;refine ok_p rfl rfl rfl (ps_assign rfl rfl) ?_;refine ok_ne [(0,_),(3,_)] ⟨rfl,rfl,trivial⟩ ?_)
      | (refine ok_region (i := 2) ?_;refine ok_p rfl rfl rfl (ps_move rfl rfl) ?_;refine ok_p rfl rfl rfl (by exact ps_str rfl rfl rfl rfl) ?_;refine ok_p rfl rfl rfl (ps_move rfl rfl) ?_;refine ok_pg rfl rfl rfl rfl rfl (gT _) (fun hp => by exact ps_move rfl rfl) ?_;refine ok_pg rfl rfl rfl rfl rfl (gT _) (fun hp => by (exact ps_str rfl (og rfl (by assumption)) rfl rfl)) ?_;refine ok_p rfl rfl rfl (by exact ps_and rfl rfl rfl) ?_;refine ok_ne [(0,_),(3,_),(11,_)] ⟨rfl,rfl,rfl,trivial⟩ ?_)
      | (refine ok_region (i := 3) ?_;refine ok_p rfl rfl rfl (ps_move rfl rfl) ?_;refine ok_p rfl rfl rfl (by exact ps_nil rfl rfl (isw_ga _)) ?_;refine ok_p rfl rfl rfl (by exact ps_field rfl rfl (isw_ga _)) ?_;refine ok_m_ rfl rfl (by exact ms_store 0 rfl rfl rfl rfl rfl rfl rfl rfl) ?_;rintro y_ hy_;refine ok_ne [(3,_)] ⟨rfl,trivial⟩ ?_)
      | (refine ok_region (i := 4) ?_;refine ok_p rfl rfl rfl (ps_move rfl rfl) ?_;refine ok_p rfl rfl rfl (by exact ps_str rfl rfl rfl rfl) ?_;refine ok_p rfl rfl rfl (ps_assign rfl rfl) ?_;refine ok_ne [(2,_)] ⟨rfl,trivial⟩ ?_))
    · rw [s0,s1] at hd
      refine ok_endL (vs := [_]) rfl ⟨rfl,trivial⟩ (fun w' hw => ⟨mkY none 0 w',?_,trivial,?_⟩)
      · show Ending.returned (.bool (sEq ⟨[gb s k].toArray⟩ ⟨[1].toArray⟩)) = _
        rw [s1]
      · rw [hd.1,hd.2];exact hw
    · rw [s0,s1] at hd
      refine ok_endL (vs := [_]) rfl ⟨rfl,trivial⟩ (fun w' hw => ⟨mkY none 0 w',?_,trivial,?_⟩)
      · show Ending.returned (.bool (sEq ⟨[gb s k].toArray⟩ ⟨[1].toArray⟩)) = _
        rw [s1]
      · have e : (!(gb s k == 0) && !(gb s k == 1)) = false := by
          rcases hd with hd | hd <;> rw [hd] <;> simp
        rw [e];exact hw
structure UpI (s : ByteArray) where
  k : Nat
  f : Nat
  o : List UInt8
  A : Option Addr
  c : Nat
  hk : k ≤ s.size
  hf : s.size ≤ k + f
  ho : o.length ≤ 200
  inv : upF s f k o = upL s
structure UpJ (s : ByteArray) (n : Nat) where
  j : Nat
  A : Option Addr
  c : Nat
  hj : j ≤ n
attribute [local irreducible] upCopy
structure UpK (s : ByteArray) where
  k : Nat
  bad : Bool
  f : Nat
  o : List UInt8
  A : Option Addr
  c : Nat
  hk : k ≤ s.size ∧ o.length ≤ 1000 ∧ o.length ≤ c
  ok : bad = false → (o.length ≤ 200 → upF s f k o = upL s ∧ s.size ≤ k + f) ∧ (200 < o.length → upL s = none)
  no : bad = true → upL s = none
end Go.Proofs.YtmfojbidojjciaaGreat
/- Batches of both programs: what is right, how they show, how they are read. -/
namespace Go.Proofs.YtmfojbidojjciaaGreat
open Go.RowKit
attribute [local irreducible] Calls
theorem nn_t {a b : Bool} (h : (!a || !b) = false) : (a && b) = true := by cases a <;> cases b <;> simp_all
theorem nn_f {a b : Bool} (h : (!a || !b) = true) : (a && b) = false := by cases a <;> cases b <;> simp_all
theorem n_t {a : Bool} (h : (!a) = false) : a = true := by cases a <;> simp_all
theorem n_f {a : Bool} (h : (!a) = true) : a = false := by cases a <;> simp_all
theorem allL_yes {α : Type} [Dat α] {l : List α} {p : α → Bool} (h : ∀ k,k < l.length → p (nth l k) = true) : l.all p = true := by
  rw [List.all_eq_true];exact mem_nth h
theorem allL_no {α : Type} [Dat α] {l : List α} {p : α → Bool} {k : Nat} (hk : k < l.length) (h : p (nth l k) = false) : l.all p = false := by
  rw [Bool.eq_false_iff];intro e;rw [List.all_eq_true] at e
  have := e _ (nth_mem l k hk);rw [h] at this;cases this
theorem i_BatchOk (A : Option Addr) (c : Nat) (l : List Opp) (w : World) (h : Rd w A (fl l)) (hl : l.length ≤ 4194304) :
    Calls Tryz.prog 244 #[.slice A l.length c] w fun e w' => e = .returned (.bool (batchOk l)) ∧ Below w.heap.size w w' := by
  refine ok_enter 27 Tryz.func244 rfl rfl rfl ?_
  repeat' (first
    | refine ok_seq ?_
    | refine ok_then ?_
    | refine ok_block ?_
    | (refine ok_region (i := 0) ?_;refine ok_p rfl rfl rfl (ps_assign rfl rfl) ?_;refine ok_ne [(0,_)] ⟨rfl,trivial⟩ ?_)
    | (refine ok_region (i := 1) ?_;refine ok_p rfl rfl rfl (ps_move rfl rfl) ?_;refine ok_p rfl rfl rfl (by exact ps_len rfl rfl) ?_;refine ok_p rfl rfl rfl (ps_move rfl rfl) ?_;refine ok_ne [(0,_),(5,_),(6,_),(7,_)] ⟨rfl,rfl,rfl,rfl,trivial⟩ ?_))
  refine ok_loop (ι := { k : Nat // k ≤ l.length ∧ ∀ j,j < k → opOk (nth l j) = true }) (fun k => l.length - k.1) (fun k => ([(0,.slice A l.length c),(5,.slice A l.length c),(6,.int .i64 l.length),(7,.int .i64 k.1)],_,_)) ⟨0,by omega,fun j h => absurd h (Nat.not_lt_zero j)⟩ (fun a w he hw => ⟨⟨0,by omega,fun j h => absurd h (Nat.not_lt_zero j)⟩,he.sub ⟨rfl,rfl,rfl,rfl,trivial⟩,hw⟩) ?_
  rintro ⟨k,hk,ha⟩
  simp only at hk ha ⊢
  have HA := Lib.hid ha;clear ha
  repeat' (first
    | refine ok_seq ?_
    | refine ok_then ?_
    | refine ok_then_ret ?_
    | refine ok_block ?_
    | refine ok_in_normal ?_
    | refine ok_in_ret ?_
    | (refine ok_cond rfl (fun hc => ?_) (fun hc => ?_) <;> (have hd := hc;(try simp only [jA,jB,jC,jD,jE,jF,jG,jH,jI,jJ,jK,jL,jM,jN,jO,jP,jQ,jR,jS] at hd)))
    | refine ok_ret ?_
    | refine ok_exit ?_
    | refine ok_skip ?_
    | (refine ok_region (i := 2) ?_;refine ok_p rfl rfl rfl (by exact ps_int rfl rfl rfl rfl) ?_;refine ok_ne [(0,_),(5,_),(6,_),(7,_),(8,_)] ⟨rfl,rfl,rfl,rfl,rfl,trivial⟩ ?_)
    | (refine ok_region (i := 3) ?_;refine ok_p rfl rfl rfl (by exact ps_indexN rfl rfl rfl (by omega) (by exact isw_of (isS_fl (by assumption) (by omega)))) ?_;refine ok_p rfl rfl rfl (by exact ps_loadsF rfl rfl (by exact rds_rf (by assumption) List.mem_cons_self) (by rfl) (by rfl) (by omega) rfl) ?_;refine ok_m rfl rfl rfl (by exact ms_alloc rfl) ?_;rintro y4 hy4;refine ok_m_ rfl rfl (by exact ms_store 0 rfl rfl rfl rfl rfl rfl rfl rfl) ?_;rintro y_ hy_;refine ok_ne [(0,_),(4,_),(5,_),(6,_),(7,_)] ⟨rfl,rfl,rfl,rfl,rfl,trivial⟩ ?_)
    | (refine ok_region (i := 4) ?_;refine ok_p rfl rfl rfl (by exact ps_field rfl rfl (isw_ga _)) ?_;refine ok_p rfl rfl rfl (by exact ps_load rfl rfl (by exact Rds.cell (rds_box 0 rfl) rfl)) ?_;refine ok_m rfl rfl rfl (by exact ms_s1 rfl rfl (fun _ _ w hw => isKey_c _ w)) ?_;rintro y13 hy13;refine ok_p rfl rfl rfl (by exact ps_not rfl rfl) ?_;refine ok_p rfl rfl rfl (ps_move rfl rfl) ?_;refine ok_pg rfl rfl rfl rfl rfl (gF _) (fun hp => by exact ps_field rfl rfl (isw_ga _)) ?_;refine ok_pg rfl rfl rfl rfl rfl (gF _) (fun hp => by (exact ps_load rfl (og rfl (by assumption)) (by exact Rds.cell (rds_box 0 rfl) rfl))) ?_;refine ok_pg rfl rfl rfl rfl rfl (gF _) (fun hp => by exact ps_field rfl rfl (isw_ga _)) ?_;refine ok_pg rfl rfl rfl rfl rfl (gF _) (fun hp => by (exact ps_load rfl (og rfl (by assumption)) (by exact Rds.cell (rds_box 0 rfl) rfl))) ?_;refine ok_mg rfl rfl rfl rfl rfl (gF _) (fun hp => by (exact ms_s2 rfl (og rfl (by assumption)) (og rfl (by assumption)) (fun _ _ w hw => isVal_c _ _ w))) ?_;refine ok_pg rfl rfl rfl rfl rfl (gF _) (fun hp => by (exact ps_not rfl (og rfl (by assumption)))) ?_;refine ok_p rfl rfl rfl (by exact ps_or rfl rfl rfl) ?_;refine ok_ne [(0,_),(5,_),(6,_),(7,_),(22,_)] ⟨rfl,rfl,rfl,rfl,rfl,trivial⟩ ?_)
    | (refine ok_region (i := 5) ?_;refine ok_p rfl rfl rfl (ps_assign rfl rfl) ?_;refine ok_ne [(2,_)] ⟨rfl,trivial⟩ ?_)
    | (refine ok_region (i := 6) ?_;refine ok_p rfl rfl rfl (by exact ps_add rfl rfl rfl (by omega)) ?_;refine ok_p rfl rfl rfl (ps_move rfl rfl) ?_;refine ok_ne [(0,_),(5,_),(6,_),(7,_)] ⟨rfl,rfl,rfl,rfl,trivial⟩ ?_)
    | (refine ok_region (i := 7) ?_;refine ok_p rfl rfl rfl (ps_move rfl rfl) ?_;refine ok_p rfl rfl rfl (by exact ps_len rfl rfl) ?_;refine ok_m rfl rfl rfl (by exact ms_s3 rfl rfl rfl rfl (fun _ _ w hw => in_i _ _ _ w)) ?_;rintro y26 hy26;refine ok_p rfl rfl rfl (ps_assign rfl rfl) ?_;refine ok_ne [(2,_)] ⟨rfl,trivial⟩ ?_))
  · have e : batchOk l = false := by
      have : opOk (nth l k) = false := by unfold opOk;exact nn_f hc
      unfold batchOk;rw [allL_no (show k < l.length by omega) this,Bool.and_false]
    exact ok_endL (vs := [_]) rfl ⟨rfl,trivial⟩ (fun w' hw => ⟨by rw [e];rfl,hw.below⟩)
  · have e : opOk (nth l k) = true := by unfold opOk;exact nn_t hc
    exact fun a w' he hw => ⟨⟨k + 1,by omega,fun j hj => by
      rcases Nat.lt_succ_iff_lt_or_eq.1 hj with h' | h'
      · exact HA.out j h'
      · subst h';exact e⟩,by simp only;omega,he.sub ⟨rfl,rfl,rfl,rfl,trivial⟩,hw.drop 1 rfl⟩
  · obtain rfl : k = l.length := by omega
    have e : batchOk l = inB l.length 1 6 := by unfold batchOk;rw [allL_yes (fun j hj => HA.out j hj),Bool.and_true]
    exact ok_endL (vs := [_]) rfl ⟨rfl,trivial⟩ (fun w' hw => ⟨by rw [e];rfl,hw.below⟩)
theorem s_BatchOk (A : Option Addr) (c : Nat) (l : List Opp) (w : World) (h : Rd w A (fl l)) (hl : l.length ≤ 4194304) :
    Calls Tryz.prog 201 #[.slice A l.length c] w fun e w' => e = .returned (.bool (batchOk l)) ∧ Below w.heap.size w w' := by
  refine ok_enter 20 Tryz.func201 rfl rfl rfl ?_
  repeat' (first
    | refine ok_seq ?_
    | refine ok_then ?_
    | refine ok_then_ret ?_
    | refine ok_block ?_
    | (refine ok_cond rfl (fun hc => ?_) (fun hc => ?_) <;> (have hd := hc;(try simp only [jA,jB,jC,jD,jE,jF,jG,jH,jI,jJ,jK,jL,jM,jN,jO,jP,jQ,jR,jS] at hd)))
    | refine ok_ret ?_
    | refine ok_skip ?_
    | (refine ok_region (i := 0) ?_;refine ok_p rfl rfl rfl (ps_assign rfl rfl) ?_;refine ok_ne [(0,_)] ⟨rfl,trivial⟩ ?_)
    | (refine ok_region (i := 1) ?_;refine ok_p rfl rfl rfl (ps_move rfl rfl) ?_;refine ok_p rfl rfl rfl (by exact ps_len rfl rfl) ?_;refine ok_m rfl rfl rfl (by exact ms_s3 rfl rfl rfl rfl (fun _ _ w hw => in_s _ _ _ w)) ?_;rintro y6 hy6;refine ok_p rfl rfl rfl (by exact ps_not rfl rfl) ?_;refine ok_ne [(0,_),(7,_)] ⟨rfl,rfl,trivial⟩ ?_)
    | (refine ok_region (i := 2) ?_;refine ok_p rfl rfl rfl (ps_assign rfl rfl) ?_;refine ok_ne [(2,_)] ⟨rfl,trivial⟩ ?_)
    | (refine ok_region (i := 3) ?_;refine ok_p rfl rfl rfl (ps_assign rfl rfl) ?_;refine ok_ne [(0,_),(3,_)] ⟨rfl,rfl,trivial⟩ ?_))
  · have e : batchOk l = false := by unfold batchOk;rw [show inB (l.length : Int) 1 6 = false by simpa using hc];rfl
    exact ok_endL (vs := [_]) rfl ⟨rfl,trivial⟩ (fun w' hw => ⟨by rw [e];rfl,hw.below⟩)
  have hn : inB (l.length : Int) 1 6 = true := by simpa using hc
  clear hc hd
  refine ok_loop (ι := { k : Nat // k ≤ l.length ∧ ∀ j,j < k → opOk (nth l j) = true }) (fun k => l.length - k.1) (fun k => ([(0,.slice A l.length c),(3,.int .i64 k.1)],_,_)) ⟨0,by omega,fun j h => absurd h (Nat.not_lt_zero j)⟩ (fun a w he hw => ⟨⟨0,by omega,fun j h => absurd h (Nat.not_lt_zero j)⟩,he.sub ⟨rfl,rfl,trivial⟩,hw⟩) ?_
  rintro ⟨k,hk,ha⟩
  simp only at hk ha ⊢
  have HA := Lib.hid ha;clear ha
  repeat' (first
    | refine ok_seq ?_
    | refine ok_then ?_
    | refine ok_then_ret ?_
    | refine ok_block ?_
    | refine ok_in_normal ?_
    | refine ok_in_ret ?_
    | (refine ok_cond rfl (fun hc => ?_) (fun hc => ?_) <;> (have hd := hc;(try simp only [jA,jB,jC,jD,jE,jF,jG,jH,jI,jJ,jK,jL,jM,jN,jO,jP,jQ,jR,jS] at hd)))
    | refine ok_ret ?_
    | refine ok_exit ?_
    | refine ok_skip ?_
    | (refine ok_region (i := 4) ?_;refine ok_p rfl rfl rfl (ps_move rfl rfl) ?_;refine ok_p rfl rfl rfl (ps_move rfl rfl) ?_;refine ok_p rfl rfl rfl (by exact ps_len rfl rfl) ?_;refine ok_p rfl rfl rfl (by exact ps_int rfl rfl rfl rfl) ?_;refine ok_ne [(0,_),(3,_),(11,_)] ⟨rfl,rfl,rfl,trivial⟩ ?_)
    | (refine ok_region (i := 5) ?_;refine ok_p rfl rfl rfl (ps_move rfl rfl) ?_;refine ok_p rfl rfl rfl (by exact ps_add rfl rfl rfl (by omega)) ?_;refine ok_p rfl rfl rfl (ps_assign rfl rfl) ?_;refine ok_ne [(0,_),(3,_)] ⟨rfl,rfl,trivial⟩ ?_)
    | (refine ok_region (i := 6) ?_;refine ok_p rfl rfl rfl (ps_move rfl rfl) ?_;refine ok_p rfl rfl rfl (ps_move rfl rfl) ?_;refine ok_p rfl rfl rfl (by exact ps_indexN rfl rfl rfl (by omega) (by exact isw_of (isS_fl (by assumption) (by omega)))) ?_;refine ok_p rfl rfl rfl (by exact ps_loadsF rfl rfl (by exact rds_rf (by assumption) List.mem_cons_self) (by rfl) (by rfl) (by omega) rfl) ?_;refine ok_m rfl rfl rfl (by exact ms_s1 rfl rfl (fun _ _ w hw => l7Op_c (nth l k).key (nth l k).val (nth l k).del w)) ?_;rintro y18 hy18;refine ok_p rfl rfl rfl (by exact ps_not rfl rfl) ?_;refine ok_ne [(0,_),(3,_),(19,_)] ⟨rfl,rfl,rfl,trivial⟩ ?_)
    | (refine ok_region (i := 7) ?_;refine ok_p rfl rfl rfl (ps_assign rfl rfl) ?_;refine ok_ne [(2,_)] ⟨rfl,trivial⟩ ?_)
    | (refine ok_region (i := 8) ?_;refine ok_p rfl rfl rfl (ps_assign rfl rfl) ?_;refine ok_ne [(2,_)] ⟨rfl,trivial⟩ ?_))
  · have e : batchOk l = false := by
      have : opOk (nth l k) = false := by unfold opOk;rw [← Bool.and_assoc];exact n_f hc
      unfold batchOk;rw [allL_no (show k < l.length by omega) this,Bool.and_false]
    exact ok_endL (vs := [_]) rfl ⟨rfl,trivial⟩ (fun w' hw => ⟨by rw [e];rfl,hw.below⟩)
  · have e : opOk (nth l k) = true := by unfold opOk;rw [← Bool.and_assoc];exact n_t hc
    exact fun a w' he hw => ⟨⟨k + 1,by omega,fun j hj => by
      rcases Nat.lt_succ_iff_lt_or_eq.1 hj with h' | h'
      · exact HA.out j h'
      · subst h';exact e⟩,by simp only;omega,he.sub ⟨rfl,rfl,trivial⟩,hw⟩
  · obtain rfl : k = l.length := by omega
    have e : batchOk l = true := by unfold batchOk;rw [allL_yes (fun j hj => HA.out j hj),hn];rfl
    exact ok_endL (vs := [_]) rfl ⟨rfl,trivial⟩ (fun w' hw => ⟨by rw [e];rfl,hw.below⟩)
theorem batch_few {l : List Opp} (h : batchOk l = true) : l.length ≤ 6 ∧ ∀ k,k < l.length → (nth l k).key.size ≤ 10 ∧ (nth l k).val.size ≤ 16 := by
  unfold batchOk at h
  rw [Bool.and_eq_true,inB_true] at h
  exact ⟨by omega,fun k hk => by have := opOk_sz (List.all_eq_true.1 h.2 _ (nth_mem l k hk));omega⟩
theorem rawB_le {l : List Opp} (h : batchOk l = true) (k : Nat) (hk : k ≤ l.length) : (rawB l k).size ≤ 10 + k * 60 := by
  unfold batchOk at h
  rw [Bool.and_eq_true] at h
  have a := vS_size l.length
  have b := catS_size opS 60 k (l.take k) (by rw [List.length_take];omega) (fun x hx => opS_size (List.all_eq_true.1 h.2 x (List.mem_of_mem_take hx)))
  unfold rawB
  rw [ByteArray.size_append];omega
theorem rawB_zero (l : List Opp) : rawB l 0 = vS l.length := by
  unfold rawB
  rw [List.take_zero,catS_nil]
  exact ByteArray.append_empty
theorem rawB_step {l : List Opp} {k : Nat} (h : k < l.length) : rawB l (k + 1) = rawB l k ++ opS (nth l k) := by
  unfold rawB
  rw [catS_step opS h,ByteArray.append_assoc]
theorem s_ShowBatch (A : Option Addr) (c : Nat) (l : List Opp) (w : World) (h : Rd w A (fl l)) (hl : l.length ≤ 4194304) :
    Calls Tryz.prog 265 #[.slice A l.length c] w fun e w' => e = .returned (.string (fShowBatch l)) ∧ Below w.heap.size w w' := by
  refine ok_enter 48 Tryz.func265 rfl rfl rfl ?_
  repeat' (first
    | refine ok_seq ?_
    | refine ok_then ?_
    | refine ok_then_ret ?_
    | (refine ok_cond rfl (fun hc => ?_) (fun hc => ?_) <;> (have hd := hc;(try simp only [jA,jB,jC,jD,jE,jF,jG,jH,jI,jJ,jK,jL,jM,jN,jO,jP,jQ,jR,jS] at hd)))
    | refine ok_ret ?_
    | refine ok_skip ?_
    | (refine ok_region (i := 0) ?_;refine ok_p rfl rfl rfl (ps_assign rfl rfl) ?_;refine ok_ne [(0,_)] ⟨rfl,trivial⟩ ?_)
    | (refine ok_region (i := 1) ?_;refine ok_p rfl rfl rfl (ps_move rfl rfl) ?_;refine ok_m rfl rfl rfl (by exact ms_s1 rfl rfl (fun _ _ w hw => s_BatchOk A c l w (rds_rf h List.mem_cons_self _ _ w hw) hl)) ?_;rintro y6 hy6;refine ok_p rfl rfl rfl (by exact ps_not rfl rfl) ?_;refine ok_ne [(0,_),(7,_)] ⟨rfl,rfl,trivial⟩ ?_)
    | (refine ok_region (i := 2) ?_;refine ok_p rfl rfl rfl (ps_assign rfl rfl) ?_;refine ok_ne [(2,_)] ⟨rfl,trivial⟩ ?_))
  · have e : fShowBatch l = ⟨#[]⟩ := by unfold fShowBatch;rw [if_neg (by rw [hd];decide)]
    exact ok_endL (vs := [_]) rfl ⟨rfl,trivial⟩ (fun w' hw => ⟨by rw [e];rfl,hw.below⟩)
  have hb := hd
  clear hc hd
  obtain ⟨h6,hf⟩ := batch_few hb
  have e : fShowBatch l = rawB l l.length := by unfold fShowBatch;rw [if_pos hb]
  rw [e]
  have HF := Lib.hid hf;clear hf
  have hz : (⟨(varL l.length).toArray⟩ : ByteArray) = rawB l 0 := by rw [rawB_zero];rfl
  repeat' (first
    | refine ok_seq ?_
    | refine ok_then ?_
    | refine ok_block ?_
    | (refine ok_region (i := 3) ?_;refine ok_p rfl rfl rfl (ps_move rfl rfl) ?_;refine ok_p rfl rfl rfl (by exact ps_len rfl rfl) ?_;refine ok_m rfl rfl rfl (by exact ms_s1 rfl rfl (fun _ _ w hw => xs_Var_v l.length (by omega) w)) ?_;rintro y10 hy10;refine ok_p rfl rfl rfl (ps_assign rfl rfl) ?_;refine ok_ne [(0,_),(3,_)] ⟨rfl,rfl,trivial⟩ ?_)
    | (refine ok_region (i := 4) ?_;refine ok_p rfl rfl rfl (ps_assign rfl rfl) ?_;refine ok_ne [(0,_),(3,_),(4,_)] ⟨rfl,rfl,rfl,trivial⟩ ?_))
  refine ok_loop (ι := { k : Nat // k ≤ l.length }) (fun k => l.length - k.1) (fun k => ([(0,.slice A l.length c),(3,.string (rawB l k.1)),(4,.int .i64 k.1)],_,_)) ⟨0,by omega⟩ (fun a w he hw => ⟨⟨0,by omega⟩,he.sub ⟨rfl,by rw [← hz];rfl,rfl,trivial⟩,hw⟩) ?_
  clear hz
  rintro ⟨k,hk⟩
  simp only at hk ⊢
  have hr := rawB_le hb k hk
  have hfk := HF.out k
  have hp1 := pieceS_size (nth l k).key
  have hp2 := pieceS_size (nth l k).val
  have s1 : (⟨#[1]⟩ : ByteArray).size = 1 := rfl
  have s0 : (⟨#[0]⟩ : ByteArray).size = 1 := rfl
  have e1 : k < l.length → rawB l (k + 1) = rawB l k ++ opS (nth l k) := fun h => rawB_step h
  repeat' (first
    | refine ok_seq ?_
    | refine ok_then ?_
    | refine ok_block ?_
    | refine ok_in_normal ?_
    | (refine ok_cond rfl (fun hc => ?_) (fun hc => ?_) <;> (have hd := hc;(try simp only [jA,jB,jC,jD,jE,jF,jG,jH,jI,jJ,jK,jL,jM,jN,jO,jP,jQ,jR,jS] at hd)))
    | refine ok_ret ?_
    | refine ok_exit ?_
    | refine ok_skip ?_
    | (refine ok_region (i := 5) ?_;refine ok_p rfl rfl rfl (ps_move rfl rfl) ?_;refine ok_p rfl rfl rfl (ps_move rfl rfl) ?_;refine ok_p rfl rfl rfl (by exact ps_len rfl rfl) ?_;refine ok_p rfl rfl rfl (by exact ps_int rfl rfl rfl rfl) ?_;refine ok_ne [(0,_),(3,_),(4,_),(14,_)] ⟨rfl,rfl,rfl,rfl,trivial⟩ ?_)
    | (refine ok_region (i := 6) ?_;refine ok_p rfl rfl rfl (ps_move rfl rfl) ?_;refine ok_p rfl rfl rfl (by exact ps_add rfl rfl rfl (by omega)) ?_;refine ok_p rfl rfl rfl (ps_assign rfl rfl) ?_;refine ok_ne [(0,_),(3,_),(4,_)] ⟨rfl,rfl,rfl,trivial⟩ ?_)
    | (refine ok_region (i := 7) ?_;refine ok_p rfl rfl rfl (ps_move rfl rfl) ?_;refine ok_p rfl rfl rfl (ps_move rfl rfl) ?_;refine ok_p rfl rfl rfl (by exact ps_indexN rfl rfl rfl (by omega) (by exact isw_of (isS_fl (by assumption) (by omega)))) ?_;refine ok_p rfl rfl rfl (by exact ps_field rfl rfl (by exact isw_of (isS_fl (by assumption) (by omega)))) ?_;refine ok_p rfl rfl rfl (by exact ps_load rfl rfl (by exact Rds.cell (rds_rf (by assumption) List.mem_cons_self) (by exact fl_at _ _ _ (by omega) (by decide)))) ?_;refine ok_ne [(0,_),(3,_),(4,_),(21,_)] ⟨rfl,rfl,rfl,rfl,trivial⟩ ?_)
    | (refine ok_region (i := 8) ?_;refine ok_p rfl rfl rfl (ps_move rfl rfl) ?_;refine ok_p rfl rfl rfl (by exact ps_sadd rfl rfl rfl (by omega)) ?_;refine ok_p rfl rfl rfl (ps_move rfl rfl) ?_;refine ok_p rfl rfl rfl (ps_move rfl rfl) ?_;refine ok_p rfl rfl rfl (by exact ps_indexN rfl rfl rfl (by omega) (by exact isw_of (isS_fl (by assumption) (by omega)))) ?_;refine ok_p rfl rfl rfl (by exact ps_field rfl rfl (by exact isw_of (isS_fl (by assumption) (by omega)))) ?_;refine ok_p rfl rfl rfl (by exact ps_load rfl rfl (by exact Rds.cell (rds_rf (by assumption) List.mem_cons_self) (by exact fl_at0 _ _ (by omega) (by decide)))) ?_;refine ok_m rfl rfl rfl (by exact ms_s1 rfl rfl (fun _ _ w hw => sPiece_any _ (by have := hfk (by omega);omega) w)) ?_;rintro y29 hy29;refine ok_p rfl rfl rfl (by exact ps_sadd rfl rfl rfl (by have := hfk (by omega);simp only [ByteArray.size_append];omega)) ?_;refine ok_p rfl rfl rfl (ps_assign rfl rfl) ?_;refine ok_ne [(0,_),(3,_),(4,_)] ⟨rfl,rfl,rfl,trivial⟩ ?_)
    | (refine ok_draw (id := 9) 17 rfl (by kernel_rfl) (by kernel_rfl) rfl (by repeat (first | exact pq_body | refine pq_then ?_ | refine pq_in ?_)) [0,1,2,3,4,5,6,7,8,9,10,11,12,13,14,15,16,17,18,19,20,21,22,23] (by decide) rfl ?_;refine okT_take (i := 0) rfl (by kernel_rfl) rfl rfl rfl (ps_move rfl rfl) ?_;refine okT_take (i := 1) rfl (by kernel_rfl) rfl rfl rfl (by exact ps_sadd rfl rfl rfl (by omega)) ?_;refine okT_take (i := 2) rfl (by kernel_rfl) rfl rfl rfl (ps_move rfl rfl) ?_;refine okT_take (i := 3) rfl (by kernel_rfl) rfl rfl rfl (ps_move rfl rfl) ?_;refine okT_take (i := 4) rfl (by kernel_rfl) rfl rfl rfl (by exact ps_indexN rfl rfl rfl (by omega) (by exact isw_of (isS_fl (by assumption) (by omega)))) ?_;refine okT_take (i := 5) rfl (by kernel_rfl) rfl rfl rfl (by exact ps_field rfl rfl (by exact isw_of (isS_fl (by assumption) (by omega)))) ?_;refine okT_take (i := 6) rfl (by kernel_rfl) rfl rfl rfl (by exact ps_load rfl rfl (by exact Rds.cell (rds_rf (by assumption) List.mem_cons_self) (by exact fl_at0 _ _ (by omega) (by decide)))) ?_;refine okT_take (i := 9) rfl (by kernel_rfl) rfl rfl rfl (ps_move rfl rfl) ?_;refine okT_take (i := 10) rfl (by kernel_rfl) rfl rfl rfl (ps_move rfl rfl) ?_;refine okT_take (i := 11) rfl (by kernel_rfl) rfl rfl rfl (by exact ps_indexN rfl rfl rfl (by omega) (by exact isw_of (isS_fl (by assumption) (by omega)))) ?_;refine okT_take (i := 12) rfl (by kernel_rfl) rfl rfl rfl (by exact ps_field rfl rfl (by exact isw_of (isS_fl (by assumption) (by omega)))) ?_;refine okT_take (i := 13) rfl (by kernel_rfl) rfl rfl rfl (by exact ps_load rfl rfl (by exact Rds.cell (rds_rf (by assumption) List.mem_cons_self) (by exact fl_at _ _ _ (by omega) (by decide)))) ?_;refine okT_one (i := 7) rfl rfl (by kernel_rfl) rfl rfl rfl (by exact ms_s1 rfl rfl (fun _ _ w hw => sPiece_any _ (by have := hfk (by omega);omega) w)) (fun y w _ h => by exact h) ?_;rintro y38 hy38;refine okT_take (i := 8) rfl (by kernel_rfl) rfl rfl rfl (by exact ps_sadd rfl rfl rfl (by have := hfk (by omega);simp only [ByteArray.size_append];omega)) ?_;refine okT_one (i := 14) rfl rfl (by kernel_rfl) rfl rfl rfl (by exact ms_s1 rfl rfl (fun _ _ w hw => sPiece_any _ (by have := hfk (by omega);omega) w)) (fun y w _ h => by exact h) ?_;rintro y45 hy45;refine okT_take (i := 15) rfl (by kernel_rfl) rfl rfl rfl (by exact ps_sadd rfl rfl rfl (by have := hfk (by omega);simp only [ByteArray.size_append];omega)) ?_;refine okT_take (i := 16) rfl (by kernel_rfl) rfl rfl rfl (ps_assign rfl rfl) ?_;refine okT_done (by kernel_rfl) ?_;refine ok_ne [(0,_),(3,_),(4,_)] ⟨rfl,rfl,rfl,trivial⟩ ?_)
    | (refine ok_region (i := 10) ?_;refine ok_p rfl rfl rfl (ps_move rfl rfl) ?_;refine ok_p rfl rfl rfl (ps_assign rfl rfl) ?_;refine ok_ne [(2,_)] ⟨rfl,trivial⟩ ?_))
  · refine fun a w' he hw => ⟨⟨k + 1,by omega⟩,by simp only;omega,he.sub ⟨rfl,?_,rfl,trivial⟩,hw⟩
    have h1 : (nth l k).del = true := by assumption
    simp only [look];congr 2;rw [e1 (by omega)];unfold opS;rw [if_pos h1,ByteArray.append_assoc]
  · refine fun a w' he hw => ⟨⟨k + 1,by omega⟩,by simp only;omega,he.sub ⟨rfl,?_,rfl,trivial⟩,hw⟩
    have h1 : (nth l k).del = false := by assumption
    simp only [look];congr 2;rw [e1 (by omega)];unfold opS;rw [if_neg (by rw [h1];decide)];simp only [ByteArray.append_assoc]
  · obtain rfl : k = l.length := by omega
    exact ok_endL (vs := [_]) rfl ⟨rfl,trivial⟩ (fun w' hw => ⟨rfl,hw.below⟩)
end Go.Proofs.YtmfojbidojjciaaGreat
/- What is seen of entries in order, in plain Lean: the program's way and the reference's are one. -/
namespace Go.Proofs.YtmfojbidojjciaaGreat
end Go.Proofs.YtmfojbidojjciaaGreat
/- Walk in the uniform style: size, copy, comparison, marks. -/
namespace Go.Proofs.YtmfojbidojjciaaGreat
open Go.RowKit
attribute [local irreducible] Calls
structure DWalk where
  R : List (List Ent)
  seq : Int
  key : ByteArray
  on : Bool
  deriving DecidableEq
end Go.Proofs.YtmfojbidojjciaaGreat
/- WalkOk of both programs. -/
namespace Go.Proofs.YtmfojbidojjciaaGreat
open Go.RowKit
attribute [local irreducible] Calls
end Go.Proofs.YtmfojbidojjciaaGreat
/- Walks in plain Lean: where the program's steps and the reference's lead. -/
namespace Go.Proofs.YtmfojbidojjciaaGreat
end Go.Proofs.YtmfojbidojjciaaGreat
/- Account: rows of it: size, copy, comparison, marks. -/
namespace Go.Proofs.YtmfojbidojjciaaGreat
open Go.RowKit
set_option maxHeartbeats 2000000
attribute [local irreducible] Calls
structure Account where
  ten : Int
  quo : Int
  byt : Int
  keys : Int
  rows : Int
  deriving DecidableEq
instance : Dat Account := ⟨5,fun x => [.int .i64 x.ten,.int .i64 x.quo,.int .i64 x.byt,.int .i64 x.keys,.int .i64 x.rows],fun _ => rfl,⟨0,0,0,0,0⟩⟩
instance : Mk Account := ⟨5,fun q => ⟨q,q + 1,q + 1 + 1,q + 1 + 1 + 1,q + 1 + 1 + 1 + 1⟩⟩
end Go.Proofs.YtmfojbidojjciaaGreat
/- What a right engine holds, and accounts, in plain Lean. -/
namespace Go.Proofs.YtmfojbidojjciaaGreat
theorem tot_at : ∀ {T : List (List Ent)} {m : Nat},totE T ≤ m → ∀ l ∈ T,l.length ≤ m
  | [],m,h,l,hl => by cases hl
  | t :: T,m,h,l,hl => by
    unfold totE at h
    rw [List.map_cons,List.sum_cons] at h
    rcases List.mem_cons.1 hl with rfl | hl
    · omega
    · exact tot_at (T := T) (by unfold totE;omega) l hl
theorem eng_few {e : DEng} (h : fEngOk e = true) : e.mem.length ≤ 60 ∧ e.tabs.length ≤ 6 ∧ totE (e.mem :: e.tabs) ≤ 400 ∧ e.snaps.length ≤ 4 ∧ 0 ≤ e.seq ∧ e.seq ≤ 1000000 := by
  unfold fEngOk at h
  simp only [Bool.and_eq_true,decide_eq_true_eq,inB_true] at h
  obtain ⟨⟨⟨⟨⟨⟨⟨g1,g2⟩,g3⟩,g4⟩,g5,g6⟩,g7⟩,g8⟩,g9⟩ := h
  refine ⟨g5,g3,?_,g2,g1.1,g1.2⟩
  unfold totE at g4 ⊢
  rw [List.map_cons,List.sum_cons];omega
/-- A right store's tenants: each has its slot, its share, its engine. -/
theorem store_ten {s : DStore} (h : fStoreOk s = true) {i : Nat} (hi : i < s.tens.length) : (nth s.keys.slots i).ten = (tenD s.tens i).id ∧ (nth s.shares.list i).ten = (tenD s.tens i).id ∧ fTenOk s (tenD s.tens i) = true := by
  unfold fStoreOk at h
  simp only [Bool.and_eq_true] at h
  have := allR_at h.1.2 hi
  unfold tenAt at this
  simp only [Bool.and_eq_true,decide_eq_true_eq] at this
  exact ⟨this.1.1,this.1.2,this.2⟩
theorem store_len {s : DStore} (h : fStoreOk s = true) : s.tens.length = s.keys.slots.length ∧ s.tens.length = s.shares.list.length ∧ s.tens.length ≤ 4 ∧ fSharesOk s.shares = true ∧ fKeyOk s.keys = true := by
  unfold fStoreOk at h
  simp only [Bool.and_eq_true,decide_eq_true_eq] at h
  obtain ⟨⟨⟨⟨⟨⟨⟨⟨h1,h2⟩,h3⟩,h4⟩,h5⟩,h6⟩,h7⟩,h8⟩,h9⟩ := h
  have h3' := h3
  unfold fSharesOk at h3
  simp only [Bool.and_eq_true,decide_eq_true_eq] at h3
  exact ⟨h6,h7,by have := h3.1.1;omega,h3',h2⟩
end Go.Proofs.YtmfojbidojjciaaGreat
/- A batch put by the program. -/
namespace Go.Proofs.YtmfojbidojjciaaGreat
open Go.RowKit
attribute [local irreducible] Calls
theorem closO_c (x o : Opp) (g : Nat) (w : World) (h : Rd w (ga g) (Dat.cells o)) : Calls Tryz.prog 278 (Value.agg (Dat.cells x).toArray :: [pt (ga g) 0]).toArray w fun e w' => e = .returned (.bool (sEq x.key o.key)) ∧ Below w.heap.size w w' := by
  refine ok_enter 9 Tryz.func278 rfl rfl rfl ?_
  repeat' (first
    | refine ok_seq ?_
    | refine ok_then ?_
    | refine ok_ret ?_
    | (refine ok_region (i := 0) ?_;refine ok_m rfl rfl rfl (by exact ms_box rfl rfl rfl) ?_;rintro y2 hy2;refine ok_p rfl rfl rfl (ps_assign rfl rfl) ?_;refine ok_ne [(1,_),(2,_)] ⟨rfl,rfl,trivial⟩ ?_)
    | (refine ok_region (i := 1) ?_;refine ok_p rfl rfl rfl (by exact ps_field rfl rfl (isw_ga _)) ?_;refine ok_p rfl rfl rfl (by exact ps_load rfl rfl (by exact Rds.cell (rds_box 0 rfl) rfl)) ?_;refine ok_p rfl rfl rfl (by exact ps_field rfl rfl (isw_ga _)) ?_;refine ok_p rfl rfl rfl (by exact ps_load rfl rfl (Rds.cell (rds_rf h List.mem_cons_self) rfl)) ?_;refine ok_p rfl rfl rfl (by exact ps_str rfl rfl rfl rfl) ?_;refine ok_p rfl rfl rfl (ps_assign rfl rfl) ?_;refine ok_ne [(3,_)] ⟨rfl,trivial⟩ ?_))
  exact ok_endL (vs := [_]) rfl ⟨rfl,trivial⟩ (fun w' hw => ⟨rfl,hw.below⟩)
theorem containsO_c (f : FuncId) [hF : FN Tryz.prog f] (cs : List Value) (p : Opp → Bool) (A : Option Addr) (c : Nat) (R : List Opp) (w : World) (h : Rd w A (fl R)) (hl : R.length ≤ 4194304)
    (hf : ∀ (x : Opp) (w' : World),Keeps w w' → Calls Tryz.prog f (Value.agg (Dat.cells x).toArray :: cs).toArray w' (fun e w'' => e = .returned (.bool (p x)) ∧ Below w'.heap.size w' w'')) :
    Calls Tryz.prog 277 #[.slice A R.length c,.func (.func f) #[] cs.toArray] w fun e w' => e = .returned (.bool (R.any p)) ∧ Below w.heap.size w w' := by
  have e : decide (0 ≤ ixP p R) = R.any p := by
    rcases ixP_or p R with ⟨e,hn⟩ | ⟨i,e,hi,h1,h2⟩
    · rw [e]
      symm
      rw [List.any_eq_false.2]
      · decide
      · intro x hx
        have := mem_nth (l := R) (p := fun x => p x = false) hn x hx
        simp [this]
    · rw [e]
      have : R.any p = true := List.any_eq_true.2 ⟨_,nth_mem R i hi,h1⟩
      rw [this];simp
  refine ok_enter 9 Tryz.func277 rfl rfl rfl ?_
  repeat' (first
    | refine ok_seq ?_
    | refine ok_then ?_
    | refine ok_ret ?_
    | (refine ok_region (i := 0) ?_;refine ok_p rfl rfl rfl (ps_assign rfl rfl) ?_;refine ok_ne [(0,_),(1,_)] ⟨rfl,rfl,trivial⟩ ?_)
    | (refine ok_region (i := 1) ?_;refine ok_p rfl rfl rfl (ps_move rfl rfl) ?_;refine ok_p rfl rfl rfl (ps_move rfl rfl) ?_;refine ok_m rfl rfl rfl (by exact ms_s2 rfl rfl rfl (fun _ _ w' hw => indexO_c f cs p A c R w' (rds_rf h List.mem_cons_self _ _ w' hw) hl (fun x w2 hk => hf x w2 (fun p u hh => hk p u (hw.keeps List.mem_cons_self p u hh))))) ?_;rintro y7 hy7;refine ok_p rfl rfl rfl (by exact ps_int rfl rfl rfl rfl) ?_;refine ok_p rfl rfl rfl (ps_assign rfl rfl) ?_;refine ok_ne [(4,_)] ⟨rfl,trivial⟩ ?_))
  exact ok_endL (vs := [_]) rfl ⟨rfl,trivial⟩ (fun w' hw => ⟨by rw [← e];rfl,hw.below⟩)
theorem containsO_n (f : FuncId) [hF : FN Tryz.prog f] (cs : List Value) (p : Opp → Bool) (A : Option Addr) (c n : Nat) (R : List Opp) (hn : R.length = n) (w : World) (h : Rd w A (fl R)) (hl : n ≤ 4194304)
    (hf : ∀ (x : Opp) (w' : World),Keeps w w' → Calls Tryz.prog f (Value.agg (Dat.cells x).toArray :: cs).toArray w' (fun e w'' => e = .returned (.bool (p x)) ∧ Below w'.heap.size w' w'')) :
    Calls Tryz.prog 277 #[.slice A n c,.func (.func f) #[] cs.toArray] w fun e w' => e = .returned (.bool (R.any p)) ∧ Below w.heap.size w w' := by
  subst hn;exact containsO_c f cs p A c R w h hl hf
theorem last_any (l : List Opp) (i : Nat) : ((l.drop (i + 1)).any fun x => sEq x.key (nth l i).key) = !lastOp l i := by
  unfold lastOp
  rw [List.any_eq_not_all_not]
structure EpI (n : Nat) where
  i : Nat
  B : Option Addr
  d : Nat
  hi : i ≤ n
theorem eng_mem {e : DEng} (he : fEngOk e = true) : strE e.mem ∧ ∀ x ∈ e.mem,x.seq < e.seq + 1 := by
  unfold fEngOk at he
  simp only [Bool.and_eq_true,decide_eq_true_eq,inB_true] at he
  obtain ⟨⟨⟨⟨⟨⟨⟨h1,h2⟩,h3⟩,h4⟩,h5,h6⟩,h7⟩,h8⟩,h9⟩ := he
  exact ⟨inOrd_str h6,fun x hx => by have := ((hi_le _ _).1 h7).2 x hx;omega⟩
/-- Rows of rows that read in depth, in a listed state. -/
def RdsN {α β : Type} [Dat β] [In α β] (H : List HObj) (G : List World) (A : Option Addr) (R : List (Lc α)) : Prop := ∀ base w0 w,WOk base w0 H G w → RdN w A R
theorem engPut_c (g : Nat) (mA : Option Addr) (mc : Nat) (mem : List Ent) (tA : Option Addr) (tc : Nat) (R : List LE) (seq : Int) (sA : Option Addr) (sc : Nat) (sn : List Int) (A : Option Addr) (c : Nat) (l : List Opp) (m : World) (ho : Rd m A (fl l)) (hlc : l.length ≤ c) (he : fEngOk ⟨mem,dats R,seq,sn⟩ = true) (hb : batchOk l = true) {base : Nat} {w0 w : World} {H : List HObj} {G : List World} (hm : m ∈ G) (ht : RdsN H G tA R)
    (hw : WOk base w0 (.box g 88 [.slice mA mem.length mc,.slice tA R.length tc,.int .i64 seq,.slice sA sn.length sc] :: .row 204 4 mA mem.length mc (fl mem) :: H) G w) :
    Calls Tryz.prog 211 #[pt (ga g) 0,.slice A l.length c] w fun e w' => ∃ y : Ys,e = .returned (.bool (fEngPut ⟨mem,dats R,seq,sn⟩ l).2) ∧ True ∧ WOk base w0 (.box g 88 [.slice (y 0).A (putE ⟨mem,dats R,seq,sn⟩ l).mem.length (y 0).c,.slice tA R.length tc,.int .i64 (seq + 1),.slice sA sn.length sc] :: .row 204 4 (y 0).A (putE ⟨mem,dats R,seq,sn⟩ l).mem.length (y 0).c (fl (putE ⟨mem,dats R,seq,sn⟩ l).mem) :: H) G w' := by
  have hfew := eng_few he
  simp only at hfew
  obtain ⟨f1,f2,f3,f4,f5,f6⟩ := hfew
  have hb6 := (batch_few hb).1
  refine ok_enterW 87 Tryz.func211 rfl rfl rfl hw ?_
  repeat' (first
    | refine ok_seq ?_
    | refine ok_then ?_
    | refine ok_block ?_
    | (refine ok_region (i := 0) ?_;refine ok_p rfl rfl rfl (ps_assign rfl rfl) ?_;refine ok_ne [(0,_),(1,_)] ⟨rfl,rfl,trivial⟩ ?_)
    | (refine ok_region (i := 1) ?_;refine ok_p rfl rfl rfl (ps_move rfl rfl) ?_;refine ok_p rfl rfl rfl (by exact ps_nil rfl rfl (isw_ga _)) ?_;refine ok_p rfl rfl rfl (by exact ps_field rfl rfl (isw_ga _)) ?_;refine ok_p rfl rfl rfl (by exact ps_load rfl rfl (by exact Rds.cell (rds_box 0 rfl) rfl)) ?_;refine ok_p rfl rfl rfl (by exact ps_add rfl rfl rfl (by omega)) ?_;refine ok_p rfl rfl rfl (by exact ps_nil rfl rfl (isw_ga _)) ?_;refine ok_p rfl rfl rfl (by exact ps_field rfl rfl (isw_ga _)) ?_;refine ok_m_ rfl rfl (by exact ms_store 0 rfl rfl rfl rfl rfl rfl rfl rfl) ?_;rintro y_ hy_;refine ok_ne [(0,_),(1,_)] ⟨rfl,rfl,trivial⟩ ?_)
    | (refine ok_region (i := 2) ?_;refine ok_p rfl rfl rfl (ps_assign rfl rfl) ?_;refine ok_ne [(0,_),(1,_),(5,_)] ⟨rfl,rfl,rfl,trivial⟩ ?_)
    | (refine ok_region (i := 3) ?_;refine ok_p rfl rfl rfl (ps_move rfl rfl) ?_;refine ok_p rfl rfl rfl (by exact ps_len rfl rfl) ?_;refine ok_p rfl rfl rfl (ps_move rfl rfl) ?_;refine ok_ne [(0,_),(1,_),(5,_),(16,_),(17,_),(18,_)] ⟨rfl,rfl,rfl,rfl,rfl,rfl,trivial⟩ ?_))
  obtain ⟨g1,g2⟩ := eng_mem he
  have hst : ∀ i,i ≤ l.length → strE (putTo mem (seq + 1) l i) := fun i hi => putTo_str g1 g2 i hi
  have hnw : ∀ i,i < l.length → ∀ x ∈ putTo mem (seq + 1) l i,sameE x (entOp (nth l i) (seq + 1)) = false := fun i hi => put_new g2 hi
  have hle := putTo_le mem (seq + 1) l
  have HST := Lib.hid hst;clear hst
  have HNW := Lib.hid hnw;clear hnw
  have HLE := Lib.hid hle;clear hle
  clear g1 g2
  refine ok_loop (ι := EpI l.length) (fun q => l.length - q.i) (fun q => ([(0,pt (ga g) 0),(1,.slice A l.length c),(5,.bool true),(16,.slice A l.length c),(17,.int .i64 l.length),(18,.int .i64 q.i)],.box g 88 [.slice q.B (putTo mem (seq + 1) l q.i).length q.d,.slice tA R.length tc,.int .i64 (seq + 1),.slice sA sn.length sc] :: .row 204 4 q.B (putTo mem (seq + 1) l q.i).length q.d (fl (putTo mem (seq + 1) l q.i)) :: H,G)) ⟨0,mA,mc,Nat.zero_le _⟩ (fun a w he hw => ⟨⟨0,mA,mc,Nat.zero_le _⟩,he.sub ⟨rfl,rfl,rfl,rfl,rfl,rfl,trivial⟩,hw⟩) ?_
  rintro ⟨i,B,d,hi⟩
  simp only at hi ⊢
  have hli := HLE.out i
  have hdl : (l.drop (i + 1)).length = l.length - (i + 1) := List.length_drop ..
  have hany := last_any l i
  have hl400 : ∀ x ∈ dats R,x.length ≤ 4194304 := fun x hx => by
    have := tot_at f3 x (List.mem_cons_of_mem _ hx);omega
  have HL4 := Lib.hid hl400;clear hl400
  have hto := offE_tot (dats R)
  rw [dats_len] at hto f2
  have hte : totE (mem :: dats R) = mem.length + totE (dats R) := by unfold totE;rw [List.map_cons,List.sum_cons]
  repeat' (first
    | refine ok_seq ?_
    | refine ok_then ?_
    | refine ok_block ?_
    | refine ok_in_normal ?_
    | (refine ok_cond rfl (fun hc => ?_) (fun hc => ?_) <;> (have hd := hc;(try simp only [jA,jB,jC,jD,jE,jF,jG,jH,jI,jJ,jK,jL,jM,jN,jO,jP,jQ,jR,jS] at hd)))
    | refine ok_ret ?_
    | refine ok_exit ?_
    | refine ok_skip ?_
    | (refine ok_region (i := 4) ?_;refine ok_p rfl rfl rfl (by exact ps_int rfl rfl rfl rfl) ?_;refine ok_ne [(0,_),(1,_),(5,_),(16,_),(17,_),(18,_),(19,_)] ⟨rfl,rfl,rfl,rfl,rfl,rfl,rfl,trivial⟩ ?_)
    | (refine ok_region (i := 5) ?_;refine ok_p rfl rfl rfl (ps_move rfl rfl) ?_;refine ok_p rfl rfl rfl (by exact ps_indexN rfl rfl rfl (by omega) (isw_of (isS_fl ho (by omega)))) ?_;refine ok_p rfl rfl rfl (by exact ps_loads (vs := Dat.cells (nth l i)) rfl rfl (rds_rf ho hm) (fl_sub l i (by omega)) (Dat.len (nth l i)) (by decide)) ?_;refine ok_m rfl rfl rfl (by exact ms_alloc rfl) ?_;rintro y7 hy7;refine ok_p rfl rfl rfl (ps_assign rfl rfl) ?_;refine ok_m_ rfl rfl (by exact ms_store 0 rfl rfl rfl rfl rfl rfl rfl rfl) ?_;rintro y_ hy_;refine ok_ne [(0,_),(1,_),(5,_),(6,_),(7,_),(16,_),(17,_),(18,_)] ⟨rfl,rfl,rfl,rfl,rfl,rfl,rfl,rfl,trivial⟩ ?_)
    | (refine ok_region (i := 6) ?_;refine ok_p rfl rfl rfl (ps_move rfl rfl) ?_;refine ok_p rfl rfl rfl (ps_move rfl rfl) ?_;refine ok_p rfl rfl rfl (by exact ps_add rfl rfl rfl (by omega)) ?_;refine ok_p rfl rfl rfl (by exact ps_sliceE (l := i + 1) rfl rfl rfl rfl (by omega) (by omega)) ?_;refine ok_p rfl rfl rfl (by exact ps_mkf rfl rfl) ?_;refine ok_m rfl rfl rfl (by exact ms_s2 rfl rfl rfl (fun _ _ w hw => containsO_n 278 [pt (ga (y7 0).c) 0] (fun x => sEq x.key (nth l i).key) _ _ _ (l.drop (i + 1)) hdl w (rds_tail (rds_rf ho hm) rfl (by omega) (by omega) _ _ w hw) (by omega) (fun x w' hk => closO_c x (nth l i) _ w' ((rds_box 0 rfl _ _ w hw).keeps hk)))) ?_;rintro y28 hy28;refine ok_p rfl rfl rfl (ps_assign rfl rfl) ?_;refine ok_ne [(0,_),(1,_),(5,_),(7,_),(8,_),(16,_),(17,_),(18,_)] ⟨rfl,rfl,rfl,rfl,rfl,rfl,rfl,rfl,trivial⟩ ?_)
    | (refine ok_region (i := 7) ?_;refine ok_p rfl rfl rfl (ps_move rfl rfl) ?_;refine ok_p rfl rfl rfl (by exact ps_not rfl rfl) ?_;refine ok_p rfl rfl rfl (ps_move rfl rfl) ?_;refine ok_pg rfl rfl rfl rfl rfl (gT _) (fun hp => by exact ps_move rfl rfl) ?_;refine ok_p rfl rfl rfl (by exact ps_and rfl rfl rfl) ?_;refine ok_ne [(0,_),(1,_),(5,_),(7,_),(16,_),(17,_),(18,_),(33,_)] ⟨rfl,rfl,rfl,rfl,rfl,rfl,rfl,rfl,trivial⟩ ?_)
    | (apply mrg1;(focus (intro hk;refine ok_draw (id := 8) 23 rfl (by kernel_rfl) (by kernel_rfl) rfl (by repeat (first | exact pq_body | refine pq_then ?_ | refine pq_in ?_)) [0] (by decide) rfl ?_;refine okT_take (i := 0) rfl (by kernel_rfl) rfl rfl rfl (ps_move rfl rfl) ?_;refine okT_take (i := 1) rfl (by kernel_rfl) rfl rfl rfl (ps_move rfl rfl) ?_;refine okT_take (i := 2) rfl (by kernel_rfl) rfl rfl rfl (by exact ps_nil rfl rfl (isw_ga _)) ?_;refine okT_take (i := 3) rfl (by kernel_rfl) rfl rfl rfl (by exact ps_field rfl rfl (isw_ga _)) ?_;refine okT_take (i := 5) rfl (by kernel_rfl) rfl rfl rfl (by exact ps_field rfl rfl (isw_ga _)) ?_;refine okT_take (i := 6) rfl (by kernel_rfl) rfl rfl rfl (by exact ps_load rfl rfl (by exact Rds.cell (rds_box 0 rfl) rfl)) ?_;refine okT_take (i := 7) rfl (by kernel_rfl) rfl rfl rfl (ps_move rfl rfl) ?_;refine okT_take (i := 8) rfl (by kernel_rfl) rfl rfl rfl (by exact ps_nil rfl rfl (isw_ga _)) ?_;refine okT_take (i := 9) rfl (by kernel_rfl) rfl rfl rfl (by exact ps_field rfl rfl (isw_ga _)) ?_;refine okT_take (i := 11) rfl (by kernel_rfl) rfl rfl rfl (by exact ps_field rfl rfl (isw_ga _)) ?_;refine okT_take (i := 12) rfl (by kernel_rfl) rfl rfl rfl (by exact ps_load rfl rfl (by exact Rds.cell (rds_box 0 rfl) rfl)) ?_;refine okT_take (i := 13) rfl (by kernel_rfl) rfl rfl rfl (by exact ps_field rfl rfl (isw_ga _)) ?_;refine okT_take (i := 14) rfl (by kernel_rfl) rfl rfl rfl (by exact ps_load rfl rfl (by exact Rds.cell (rds_box 0 rfl) rfl)) ?_;refine okT_many (by kernel_rfl) (all_cons (at_m (i := 4) rfl rfl rfl rfl rfl (by exact ms_ps (by exact ps_load rfl rfl (by exact Rds.cell (rds_box 1 rfl) rfl))) (fun y w _ h => by exact h.sel [0] (by decide) rfl (fun _ h => h)) ?_) (all_cons (at_m (i := 10) rfl rfl rfl rfl rfl (by exact ms_ps (by exact ps_load rfl rfl (by exact Rds.cell (rds_box 1 rfl) rfl))) (fun y w _ h => by exact h.sel [0] (by decide) rfl (fun _ h => h)) ?_) all_nil));(focus (rintro y39 hy39;refine okT_one (i := 10) rfl rfl (by kernel_rfl) rfl rfl rfl (by exact ms_ps (by exact ps_load rfl rfl (by exact Rds.cell (rds_box 1 rfl) rfl))) (fun y w _ h => by exact h.sel [0] (by decide) rfl (fun _ h => h)) ?_;rintro y45 hy45;refine okT_take (i := 15) rfl (by kernel_rfl) rfl rfl rfl (by exact ps_bld rfl (parts_cons rfl (parts_cons rfl (parts_cons rfl (parts_cons rfl parts_nil)))) rfl) ?_;refine okT_one (i := 16) rfl rfl (by kernel_rfl) rfl rfl rfl (by exact ms_w2 (fun _ _ _ h => h.front 2 rfl) rfl rfl rfl (fun _ _ w hw => i_put B d (putTo mem (seq + 1) l i) (entOp (nth l i) (seq + 1)) (HST.out i (by omega)) (HNW.out i (by omega)) (by omega) hw)) (fun y w _ h => by exact h.tl.sel [0] (by decide) rfl (fun _ h => h)) ?_;rintro y51 hy51;refine okT_take (i := 17) rfl (by kernel_rfl) rfl rfl rfl (ps_move rfl rfl) ?_;refine okT_take (i := 18) rfl (by kernel_rfl) rfl rfl rfl (by exact ps_extract rfl rfl rfl) ?_;refine okT_take (i := 19) rfl (by kernel_rfl) rfl rfl rfl (by exact ps_extract rfl rfl rfl) ?_;refine okT_take (i := 20) rfl (by kernel_rfl) rfl rfl rfl (by exact ps_nil rfl rfl (isw_ga _)) ?_;refine okT_take (i := 21) rfl (by kernel_rfl) rfl rfl rfl (by exact ps_field rfl rfl (isw_ga _)) ?_;refine okT_one0 (i := 22) rfl rfl (by kernel_rfl) rfl rfl (by exact ms_store 2 rfl rfl rfl rfl rfl rfl rfl rfl) (fun y w _ h => by exact h.tl.sel [0] (by decide) rfl (fun _ h => h)) ?_;rintro y_ hy_;refine okT_done (by kernel_rfl) ?_;refine ok_p rfl rfl rfl (ps_assign rfl rfl) ?_;refine ok_ne [(0,_),(1,_),(5,_),(16,_),(17,_),(18,_)] ⟨rfl,rfl,rfl,rfl,rfl,rfl,trivial⟩ ?_;exact hk y51));(focus (rintro y45 hy45;refine okT_take (i := 15) rfl (by kernel_rfl) rfl rfl rfl (by exact ps_bld rfl (parts_cons rfl (parts_cons rfl (parts_cons rfl (parts_cons rfl parts_nil)))) rfl) ?_;refine okT_one (i := 4) rfl rfl (by kernel_rfl) rfl rfl rfl (by exact ms_ps (by exact ps_load rfl rfl (by exact Rds.cell (rds_box 1 rfl) rfl))) (fun y w _ h => by exact h.sel [0] (by decide) rfl (fun _ h => h)) ?_;rintro y39 hy39;refine okT_one (i := 16) rfl rfl (by kernel_rfl) rfl rfl rfl (by exact ms_w2 (fun _ _ _ h => h.front 2 rfl) rfl rfl rfl (fun _ _ w hw => i_put B d (putTo mem (seq + 1) l i) (entOp (nth l i) (seq + 1)) (HST.out i (by omega)) (HNW.out i (by omega)) (by omega) hw)) (fun y w _ h => by exact h.tl.sel [0] (by decide) rfl (fun _ h => h)) ?_;rintro y51 hy51;refine okT_take (i := 17) rfl (by kernel_rfl) rfl rfl rfl (ps_move rfl rfl) ?_;refine okT_take (i := 18) rfl (by kernel_rfl) rfl rfl rfl (by exact ps_extract rfl rfl rfl) ?_;refine okT_take (i := 19) rfl (by kernel_rfl) rfl rfl rfl (by exact ps_extract rfl rfl rfl) ?_;refine okT_take (i := 20) rfl (by kernel_rfl) rfl rfl rfl (by exact ps_nil rfl rfl (isw_ga _)) ?_;refine okT_take (i := 21) rfl (by kernel_rfl) rfl rfl rfl (by exact ps_field rfl rfl (isw_ga _)) ?_;refine okT_one0 (i := 22) rfl rfl (by kernel_rfl) rfl rfl (by exact ms_store 2 rfl rfl rfl rfl rfl rfl rfl rfl) (fun y w _ h => by exact h.tl.sel [0] (by decide) rfl (fun _ h => h)) ?_;rintro y_ hy_;refine okT_done (by kernel_rfl) ?_;refine ok_p rfl rfl rfl (ps_assign rfl rfl) ?_;refine ok_ne [(0,_),(1,_),(5,_),(16,_),(17,_),(18,_)] ⟨rfl,rfl,rfl,rfl,rfl,rfl,trivial⟩ ?_;exact hk y51))));rintro y51)
    | (refine ok_region (i := 9) ?_;refine ok_p rfl rfl rfl (by exact ps_add rfl rfl rfl (by omega)) ?_;refine ok_p rfl rfl rfl (ps_move rfl rfl) ?_;refine ok_ne [(0,_),(1,_),(5,_),(16,_),(17,_),(18,_)] ⟨rfl,rfl,rfl,rfl,rfl,rfl,trivial⟩ ?_)
    | (refine ok_draw (id := 10) 31 rfl (by kernel_rfl) (by kernel_rfl) rfl (by repeat (first | exact pq_body | refine pq_then ?_ | refine pq_in ?_)) [0,1] (by decide) rfl ?_;refine okT_take (i := 0) rfl (by kernel_rfl) rfl rfl rfl (ps_move rfl rfl) ?_;refine okT_take (i := 1) rfl (by kernel_rfl) rfl rfl rfl (ps_move rfl rfl) ?_;refine okT_take_g1 (i := 2) rfl (by kernel_rfl) rfl rfl rfl rfl rfl (gT _) (fun hp => by exact ps_move rfl rfl) ?_;refine okT_take_g1 (i := 3) rfl (by kernel_rfl) rfl rfl rfl rfl rfl (gT _) (fun hp => by (exact ps_nil rfl (og rfl (by assumption)) (isw_ga _))) ?_;refine okT_take_g1 (i := 4) rfl (by kernel_rfl) rfl rfl rfl rfl rfl (gT _) (fun hp => by (exact ps_field rfl (og rfl (by assumption)) (isw_ga _))) ?_;refine okT_take_g1 (i := 5) rfl (by kernel_rfl) rfl rfl rfl rfl rfl (gT _) (fun hp => by (exact ps_load rfl (og rfl (by assumption)) (by exact Rds.cell (rds_box 0 rfl) rfl))) ?_;refine okT_take_g1 (i := 6) rfl (by kernel_rfl) rfl rfl rfl rfl rfl (gT _) (fun hp => by (exact ps_int rfl (og rfl (by assumption)) rfl rfl)) ?_;refine okT_take (i := 7) rfl (by kernel_rfl) rfl rfl rfl (by exact ps_and rfl rfl rfl) ?_;refine okT_take (i := 8) rfl (by kernel_rfl) rfl rfl rfl (ps_move rfl rfl) ?_;refine okT_take_g1 (i := 9) rfl (by kernel_rfl) rfl rfl rfl rfl rfl (gT _) (fun hp => by exact ps_move rfl rfl) ?_;refine okT_take_g1 (i := 10) rfl (by kernel_rfl) rfl rfl rfl rfl rfl (gT _) (fun hp => by (exact ps_nil rfl (og rfl (by assumption)) (isw_ga _))) ?_;refine okT_take_g1 (i := 11) rfl (by kernel_rfl) rfl rfl rfl rfl rfl (gT _) (fun hp => by (exact ps_field rfl (og rfl (by assumption)) (isw_ga _))) ?_;refine okT_take_g1 (i := 12) rfl (by kernel_rfl) rfl rfl rfl rfl rfl (gT _) (fun hp => by (exact ps_load rfl (og rfl (by assumption)) (by exact Rds.cell (rds_box 0 rfl) rfl))) ?_;refine okT_take_g1 (i := 13) rfl (by kernel_rfl) rfl rfl rfl rfl rfl (gT _) (fun hp => by (exact ps_len rfl (og rfl (by assumption)))) ?_;refine okT_take_g1 (i := 14) rfl (by kernel_rfl) rfl rfl rfl rfl rfl (gT _) (fun hp => by (exact ps_int rfl (og rfl (by assumption)) rfl rfl)) ?_;refine okT_take (i := 15) rfl (by kernel_rfl) rfl rfl rfl (by exact ps_and rfl rfl rfl) ?_;refine okT_take (i := 16) rfl (by kernel_rfl) rfl rfl rfl (ps_move rfl rfl) ?_;refine okT_take_g1 (i := 17) rfl (by kernel_rfl) rfl rfl rfl rfl rfl (gT _) (fun hp => by exact ps_move rfl rfl) ?_;refine okT_take_g1 (i := 18) rfl (by kernel_rfl) rfl rfl rfl rfl rfl (gT _) (fun hp => by (exact ps_nil rfl (og rfl (by assumption)) (isw_ga _))) ?_;refine okT_take_g1 (i := 19) rfl (by kernel_rfl) rfl rfl rfl rfl rfl (gT _) (fun hp => by (exact ps_field rfl (og rfl (by assumption)) (isw_ga _))) ?_;refine okT_take_g1 (i := 20) rfl (by kernel_rfl) rfl rfl rfl rfl rfl (gT _) (fun hp => by (exact ps_load rfl (og rfl (by assumption)) (by exact Rds.cell (rds_box 0 rfl) rfl))) ?_;refine okT_take_g1 (i := 22) rfl (by kernel_rfl) rfl rfl rfl rfl rfl (gT _) (fun hp => by exact ps_move rfl rfl) ?_;refine okT_take_g1 (i := 23) rfl (by kernel_rfl) rfl rfl rfl rfl rfl (gT _) (fun hp => by (exact ps_nil rfl (og rfl (by assumption)) (isw_ga _))) ?_;refine okT_take_g1 (i := 24) rfl (by kernel_rfl) rfl rfl rfl rfl rfl (gT _) (fun hp => by (exact ps_field rfl (og rfl (by assumption)) (isw_ga _))) ?_;refine okT_take_g1 (i := 25) rfl (by kernel_rfl) rfl rfl rfl rfl rfl (gT _) (fun hp => by (exact ps_load rfl (og rfl (by assumption)) (by exact Rds.cell (rds_box 0 rfl) rfl))) ?_;refine okT_take_g1 (i := 26) rfl (by kernel_rfl) rfl rfl rfl rfl rfl (gT _) (fun hp => by (exact ps_len rfl (og rfl (by assumption)))) ?_;refine okT_one_g1 (i := 21) rfl rfl (by kernel_rfl) rfl rfl rfl rfl rfl (gT _) (fun hp => by (have hpd := hp;(try simp only [jA,jB,jC,jD,jE,jF,jG,jH,jI,jJ,jK,jL,jM,jN,jO,jP,jQ,jR,jS] at hpd);exact ms_s1 rfl (og rfl (by assumption)) (fun _ _ w hw => totalOf_c tA tc R (by omega) HL4.out w (ht _ _ w hw.tl.tl)))) (fun w h => by exact h.sel [0,1] (by decide) rfl (fun _ h => h)) ?_;refine okT_take_g1 (i := 27) rfl (by kernel_rfl) rfl rfl rfl rfl rfl (gT _) (fun hp => by (have hpd := hp;(try simp only [jA,jB,jC,jD,jE,jF,jG,jH,jI,jJ,jK,jL,jM,jN,jO,jP,jQ,jR,jS] at hpd);exact ps_add rfl (og rfl (by assumption)) (og rfl (by assumption)) (by omega))) ?_;refine okT_take_g1 (i := 28) rfl (by kernel_rfl) rfl rfl rfl rfl rfl (gT _) (fun hp => by (exact ps_int rfl (og rfl (by assumption)) rfl rfl)) ?_;refine okT_take (i := 29) rfl (by kernel_rfl) rfl rfl rfl (by exact ps_and rfl rfl rfl) ?_;refine okT_take (i := 30) rfl (by kernel_rfl) rfl rfl rfl (ps_assign rfl rfl) ?_;refine okT_done (by kernel_rfl) ?_;refine ok_ne [(4,_)] ⟨rfl,trivial⟩ ?_))
  · have hlo : lastOp l i = true := by
      have := hany;rw [hd.1] at this;simpa using this.symm
    have e : putTo mem (seq + 1) l (i + 1) = insE (putTo mem (seq + 1) l i) (entOp (nth l i) (seq + 1)) := by rw [putTo,if_pos hlo]
    refine fun a' w' he hw => ⟨⟨i + 1,(y51 0).A,(y51 0).c,by omega⟩,by simp only;omega,he.sub ⟨rfl,rfl,rfl,rfl,rfl,rfl,trivial⟩,?_⟩
    simp only [e]
    exact (hw.front 1 rfl).tl.front 1 rfl
  · have hlo : lastOp l i = false := by
      rcases hd with hd | hd
      · have := hany;rw [hd] at this;simpa using this.symm
      · cases hd
    have e : putTo mem (seq + 1) l (i + 1) = putTo mem (seq + 1) l i := by rw [putTo,if_neg (by rw [hlo];decide)]
    refine fun a' w' he hw => ⟨⟨i + 1,B,d,by omega⟩,by simp only;omega,he.sub ⟨rfl,rfl,rfl,rfl,rfl,rfl,trivial⟩,?_⟩
    simp only [e]
    exact hw.tl
  · obtain rfl : i = l.length := by omega
    have e : (fEngPut ⟨mem,dats R,seq,sn⟩ l).2 = (true && decide (seq + 1 ≤ 1000000) && decide (((putTo mem (seq + 1) l l.length).length : Int) ≤ 60) && decide ((offE (dats R) R.length : Int) + ((putTo mem (seq + 1) l l.length).length : Int) ≤ 400)) := by
      have h1 := put_valid he hb
      unfold fEngPut
      rw [if_pos he,if_pos hb]
      have h2 : (if fEngOk (putE ⟨mem,dats R,seq,sn⟩ l) = true then (putE ⟨mem,dats R,seq,sn⟩ l,true) else (⟨mem,dats R,seq,sn⟩,false)).2 = fEngOk (putE ⟨mem,dats R,seq,sn⟩ l) := by
        cases fEngOk (putE ⟨mem,dats R,seq,sn⟩ l) <;> rfl
      rw [h2,h1,Bool.true_and,hto]
      show (decide (seq + 1 ≤ 1000000) && decide ((putTo mem (seq + 1) l l.length).length ≤ 60) && decide (totE (dats R) + (putTo mem (seq + 1) l l.length).length ≤ 400)) = _
      congr 1
      · congr 1
        exact decide_eq_decide.2 (by omega)
      · exact decide_eq_decide.2 (by omega)
    exact ok_endL (vs := [_]) rfl ⟨rfl,trivial⟩ (fun w' hw => ⟨mkY B d w',by rw [e];rfl,trivial,hw⟩)
end Go.Proofs.YtmfojbidojjciaaGreat
/- A batch put by the reference. -/
namespace Go.Proofs.YtmfojbidojjciaaGreat
open Go.RowKit
attribute [local irreducible] Calls
def lastTo (l : List Opp) (i k : Nat) : Bool := ((l.take k).drop (i + 1)).all fun x => !sEq x.key (nth l i).key
theorem lastTo_zero (l : List Opp) (i : Nat) : lastTo l i (i + 1) = true := by
  unfold lastTo
  rw [List.drop_eq_nil_of_le (by rw [List.length_take];omega)];rfl
theorem lastTo_step (l : List Opp) (i k : Nat) (h : i + 1 ≤ k) (hk : k < l.length) : lastTo l i (k + 1) = (lastTo l i k && !sEq (nth l k).key (nth l i).key) := by
  have e : nth l k = l[k] := by simp [nth,hk]
  unfold lastTo
  rw [List.take_succ_eq_append_getElem hk,List.drop_append_of_le_length (by rw [List.length_take];omega),List.all_append,e]
  simp
theorem lastTo_all (l : List Opp) (i : Nat) : lastTo l i l.length = lastOp l i := by
  unfold lastTo lastOp;rw [List.take_length]
theorem engput_bad {e : DEng} {l : List Opp} (h : fEngOk e = false) : fEngPut e l = (⟨[],[],0,[]⟩,false) := by
  unfold fEngPut;rw [if_neg (by rw [h];decide)]
theorem engput_nob {e : DEng} {l : List Opp} (h : fEngOk e = true) (hb : batchOk l = false) : fEngPut e l = (e,false) := by
  unfold fEngPut;rw [if_pos h,if_neg (by rw [hb];decide)]
theorem engput_nor {e : DEng} {l : List Opp} (h : fEngOk e = true) (hb : batchOk l = true) (hr : fEngOk (putE e l) = false) : fEngPut e l = (e,false) := by
  unfold fEngPut;rw [if_pos h,if_pos hb,if_neg (by rw [hr];decide)]
theorem engput_yes {e : DEng} {l : List Opp} (h : fEngOk e = true) (hb : batchOk l = true) (hr : fEngOk (putE e l) = true) : fEngPut e l = (putE e l,true) := by
  unfold fEngPut;rw [if_pos h,if_pos hb,if_pos hr]
structure SpI (l : List Opp) (i : Nat) where
  k : Nat
  hk : i + 1 ≤ k ∧ k ≤ l.length
theorem engNil (w : World) : engVal ⟨[],[],0,[]⟩ (cpY none 0 none 0 none 0 [] w) = .agg #[.slice none 0 0,.slice none 0 0,.int .i64 0,.slice none 0 0] ∧ engObj ⟨[],[],0,[]⟩ (cpY none 0 none 0 none 0 [] w) = [.row 204 4 none 0 0 (fl ([] : List Ent)),.row 85 1 none 0 0 (fl ([] : List LE)),.bag 204 4 (rowsOf ([] : List LE)),.row 3 1 none 0 0 (fl ([] : List Int))] := eng_obj none 0 [] none 0 [] 0 none 0 [] w
theorem s_EngPut0 (mA : Option Addr) (mc : Nat) (mem : List Ent) (tA : Option Addr) (tc : Nat) (R : List LE) (seq : Int) (sA : Option Addr) (sc : Nat) (sn : List Int) (A : Option Addr) (c : Nat) (l : List Opp) (w : World) (h1 : Rd w mA (fl mem)) (h2 : RdN w tA R) (h3 : Rd w sA (fl sn)) (ho : Rd w A (fl l)) (hl1 : mem.length ≤ 4194304) (hl2 : R.length ≤ 4194304) (hs : ∀ x ∈ dats R,x.length ≤ 4194304) (hl3 : sn.length ≤ 4194304) (hl4 : l.length ≤ 4194304) :
    Calls Tryz.prog 140 #[.agg #[.slice mA mem.length mc,.slice tA R.length tc,.int .i64 seq,.slice sA sn.length sc],.slice A l.length c] w fun e w' => ∃ y : Ys,e = .returned (.tuple #[engVal (fEngPut ⟨mem,dats R,seq,sn⟩ l).1 y,.bool (fEngPut ⟨mem,dats R,seq,sn⟩ l).2]) ∧ True ∧ Below w.heap.size w w' ∧ NewOk w.heap.size (engObj (fEngPut ⟨mem,dats R,seq,sn⟩ l).1 y) [] w' := by
  have HS := Lib.hid hs;clear hs
  have H2 := Lib.hid h2;clear h2
  refine ok_enter 81 Tryz.func140 rfl rfl rfl ?_
  repeat' (first
    | refine ok_seq ?_
    | refine ok_then ?_
    | refine ok_then_ret ?_
    | (refine ok_cond rfl (fun hc => ?_) (fun hc => ?_) <;> (have hd := hc;(try simp only [jA,jB,jC,jD,jE,jF,jG,jH,jI,jJ,jK,jL,jM,jN,jO,jP,jQ,jR,jS] at hd)))
    | refine ok_ret ?_
    | refine ok_skip ?_
    | (refine ok_region (i := 0) ?_;refine ok_m rfl rfl rfl (by exact ms_box rfl rfl rfl) ?_;rintro y2 hy2;refine ok_m rfl rfl rfl (by exact ms_alloc rfl) ?_;rintro y4 hy4;refine ok_p rfl rfl rfl (ps_assign rfl rfl) ?_;refine ok_ne [(1,_),(2,_),(4,_)] ⟨rfl,rfl,rfl,trivial⟩ ?_)
    | (refine ok_region (i := 1) ?_;refine ok_p rfl rfl rfl (by exact ps_loads rfl rfl (by exact rds_box 1 rfl) rfl rfl (by decide)) ?_;refine ok_m rfl rfl rfl (by exact ms_s1 rfl rfl (fun _ _ w hw => s_EngOk0 mA mc mem tA tc R seq sA sc sn w (rds_rf h1 List.mem_cons_self _ _ w hw) (RdN.keep hw H2.out List.mem_cons_self) (rds_rf h3 List.mem_cons_self _ _ w hw) hl1 hl2 HS.out hl3)) ?_;rintro y11 hy11;refine ok_p rfl rfl rfl (by exact ps_not rfl rfl) ?_;refine ok_ne [(1,_),(2,_),(4,_),(12,_)] ⟨rfl,rfl,rfl,rfl,trivial⟩ ?_)
    | (refine ok_region (i := 2) ?_;refine ok_p rfl rfl rfl (by exact ps_bld rfl parts_nil rfl) ?_;refine ok_m_ rfl rfl (by exact ms_store 0 rfl rfl rfl rfl rfl rfl rfl rfl) ?_;rintro y_ hy_;refine ok_p rfl rfl rfl (ps_assign rfl rfl) ?_;refine ok_ne [(4,_),(5,_)] ⟨rfl,rfl,trivial⟩ ?_)
    | (refine ok_region (i := 3) ?_;refine ok_p rfl rfl rfl (by exact ps_loads rfl rfl (by exact rds_box 1 rfl) rfl rfl (by decide)) ?_;refine ok_m rfl rfl rfl (by exact ms_c1 rfl rfl (fun _ _ w hw => s_l20Copy0 mA mc mem tA tc R seq sA sc sn w (rds_rf h1 List.mem_cons_self _ _ w hw) (RdN.keep hw H2.out List.mem_cons_self) (rds_rf h3 List.mem_cons_self _ _ w hw) hl1 hl2 HS.out hl3)) ?_;rintro y15 hy15;refine ok_m rfl rfl rfl (by exact ms_alloc rfl) ?_;rintro y6 hy6;refine ok_m_ rfl rfl (by exact ms_store 0 rfl rfl rfl rfl rfl rfl rfl rfl) ?_;rintro y_ hy_;refine ok_ne [(1,_),(2,_),(4,_),(6,_)] ⟨rfl,rfl,rfl,rfl,trivial⟩ ?_)
    | (refine ok_region (i := 4) ?_;refine ok_p rfl rfl rfl (ps_move rfl rfl) ?_;refine ok_m rfl rfl rfl (by exact ms_s1 rfl rfl (fun _ _ w hw => s_BatchOk A c l w (rds_rf ho List.mem_cons_self _ _ w hw) hl4)) ?_;rintro y17 hy17;refine ok_p rfl rfl rfl (by exact ps_not rfl rfl) ?_;refine ok_ne [(1,_),(2,_),(4,_),(6,_),(18,_)] ⟨rfl,rfl,rfl,rfl,rfl,trivial⟩ ?_)
    | (refine ok_region (i := 5) ?_;refine ok_p rfl rfl rfl (by exact ps_loads rfl rfl (by exact rds_box 0 rfl) rfl rfl (by decide)) ?_;refine ok_m_ rfl rfl (by exact ms_store 5 rfl rfl rfl rfl rfl rfl rfl rfl) ?_;rintro y_ hy_;refine ok_p rfl rfl rfl (ps_assign rfl rfl) ?_;refine ok_ne [(4,_),(5,_)] ⟨rfl,rfl,trivial⟩ ?_))
  · rw [engput_bad hd]
    refine ok_endL (vs := [_,_]) rfl ⟨⟨_,0,_,_,_,rfl,rfl,inferInstance,rfl,rfl⟩,rfl,trivial⟩ (fun w' hw => ⟨cpY none 0 none 0 none 0 [] w',?_,trivial,hw.below,?_⟩)
    · rw [(engNil w').1];rfl
    · rw [(engNil w').2]
      have := hw.sel [] (by decide) rfl (G' := []) (fun _ h => by cases h)
      exact NewOk.of ((((this.rowNil 3 1).bag_nil 204 4).rowNil 85 1).rowNil 204 4)
  · have he : fEngOk ⟨mem,dats R,seq,sn⟩ = true := by assumption
    rw [engput_nob he hd]
    unfold engVal engObj
    simp only [dats_len]
    exact ok_endL (vs := [_,_]) rfl ⟨⟨_,5,_,_,_,rfl,rfl,inferInstance,rfl,rfl⟩,rfl,trivial⟩ (fun w' hw => ⟨y15,rfl,trivial,hw.below,NewOk.of (hw.sel [1,2,3,4] (by decide) rfl (G' := []) (fun _ h => by cases h))⟩)
  have he : fEngOk ⟨mem,dats R,seq,sn⟩ = true := by assumption
  have hb : batchOk l = true := hd
  clear hc hd
  have hfew := eng_few he
  simp only at hfew
  obtain ⟨f1,f2,f3,f4,f5,f6⟩ := hfew
  have hb6 := (batch_few hb).1
  rw [dats_len] at f2
  have hle := putTo_le mem (seq + 1) l
  have HLE := Lib.hid hle;clear hle
  have HE := Lib.hid he;clear he
  have HB := Lib.hid hb;clear hb
  repeat' (first
    | refine ok_seq ?_
    | refine ok_then ?_
    | refine ok_block ?_
    | (refine ok_region (i := 6) ?_;refine ok_p rfl rfl rfl (by exact ps_field rfl rfl (isw_ga _)) ?_;refine ok_p rfl rfl rfl (by exact ps_load rfl rfl (by exact Rds.cell (rds_box 0 rfl) rfl)) ?_;refine ok_p rfl rfl rfl (by exact ps_add rfl rfl rfl (by omega)) ?_;refine ok_p rfl rfl rfl (by exact ps_field rfl rfl (isw_ga _)) ?_;refine ok_m_ rfl rfl (by exact ms_store 0 rfl rfl rfl rfl rfl rfl rfl rfl) ?_;rintro y_ hy_;refine ok_ne [(1,_),(2,_),(4,_),(6,_)] ⟨rfl,rfl,rfl,rfl,trivial⟩ ?_)
    | (refine ok_region (i := 7) ?_;refine ok_p rfl rfl rfl (ps_assign rfl rfl) ?_;refine ok_ne [(1,_),(2,_),(4,_),(6,_),(7,_)] ⟨rfl,rfl,rfl,rfl,rfl,trivial⟩ ?_))
  refine ok_loop (ι := EpI l.length) (fun q => l.length - q.i) (fun q => ([(1,.slice A l.length c),(2,pt (ga (y2 0).c) 0),(4,pt (ga (y4 0).c) 0),(6,pt (ga (y6 0).c) 0),(7,.int .i64 q.i)],[.row 204 4 q.B (putTo mem (seq + 1) l q.i).length q.d (fl (putTo mem (seq + 1) l q.i)),.row 85 1 (y15 1).A R.length (y15 1).c (fl (locs 3 (dats R) y15)),.bag 204 4 (rowsOf (locs 3 (dats R) y15)),.row 3 1 (y15 2).A sn.length (y15 2).c (fl sn),.box (y6 0).c 88 [.slice q.B (putTo mem (seq + 1) l q.i).length q.d,.slice (y15 1).A R.length (y15 1).c,.int .i64 (seq + 1),.slice (y15 2).A sn.length (y15 2).c],.box (y4 0).c 88 [.slice none 0 0,.slice none 0 0,.int .i64 0,.slice none 0 0],.box (y2 0).c 88 [.slice mA mem.length mc,.slice tA R.length tc,.int .i64 seq,.slice sA sn.length sc]],_)) ⟨0,(y15 0).A,(y15 0).c,Nat.zero_le _⟩ (fun a w he hw => ⟨⟨0,(y15 0).A,(y15 0).c,Nat.zero_le _⟩,he.sub ⟨rfl,rfl,rfl,rfl,rfl,trivial⟩,hw.sel [1,2,3,4,0,5,6] (by decide) rfl (fun _ h => h)⟩) ?_
  rintro ⟨i,B,d,hi⟩
  simp only at hi ⊢
  have hli := HLE.out i
  repeat' (first
    | refine ok_seq ?_
    | refine ok_then ?_
    | refine ok_block ?_
    | (refine ok_cond rfl (fun hc => ?_) (fun hc => ?_) <;> (have hd := hc;(try simp only [jA,jB,jC,jD,jE,jF,jG,jH,jI,jJ,jK,jL,jM,jN,jO,jP,jQ,jR,jS] at hd)))
    | refine ok_exit ?_
    | refine ok_skip ?_
    | (refine ok_region (i := 8) ?_;refine ok_p rfl rfl rfl (ps_move rfl rfl) ?_;refine ok_p rfl rfl rfl (ps_move rfl rfl) ?_;refine ok_p rfl rfl rfl (by exact ps_len rfl rfl) ?_;refine ok_p rfl rfl rfl (by exact ps_int rfl rfl rfl rfl) ?_;refine ok_ne [(1,_),(2,_),(4,_),(6,_),(7,_),(27,_)] ⟨rfl,rfl,rfl,rfl,rfl,rfl,trivial⟩ ?_)
    | (refine ok_region (i := 10) ?_;refine ok_p rfl rfl rfl (ps_assign rfl rfl) ?_;refine ok_ne [(1,_),(2,_),(4,_),(6,_),(7,_),(8,_)] ⟨rfl,rfl,rfl,rfl,rfl,rfl,trivial⟩ ?_)
    | (refine ok_region (i := 11) ?_;refine ok_p rfl rfl rfl (ps_move rfl rfl) ?_;refine ok_p rfl rfl rfl (by exact ps_add rfl rfl rfl (by omega)) ?_;refine ok_p rfl rfl rfl (ps_assign rfl rfl) ?_;refine ok_ne [(1,_),(2,_),(4,_),(6,_),(7,_),(8,_),(9,_)] ⟨rfl,rfl,rfl,rfl,rfl,rfl,rfl,trivial⟩ ?_))
  · refine ok_loop (ι := SpI l i) (fun q => l.length - q.k) (fun q => ([(1,.slice A l.length c),(2,pt (ga (y2 0).c) 0),(4,pt (ga (y4 0).c) 0),(6,pt (ga (y6 0).c) 0),(7,.int .i64 i),(8,.bool (lastTo l i q.k)),(9,.int .i64 q.k)],_,_)) ⟨i + 1,by omega⟩ (fun a w he hw => ⟨⟨i + 1,by omega⟩,he.sub ⟨rfl,rfl,rfl,rfl,rfl,by rw [lastTo_zero];rfl,rfl,trivial⟩,hw⟩) ?_
    rintro ⟨k,hk1,hk2⟩
    simp only at hk1 hk2 ⊢
    have hlt := lastTo_step l i k hk1
    have HLT := Lib.hid hlt;clear hlt
    repeat' (first
      | refine ok_seq ?_
      | refine ok_then ?_
      | refine ok_block ?_
      | refine ok_in_normal ?_
      | (refine ok_cond rfl (fun hc => ?_) (fun hc => ?_) <;> (have hd := hc;(try simp only [jA,jB,jC,jD,jE,jF,jG,jH,jI,jJ,jK,jL,jM,jN,jO,jP,jQ,jR,jS] at hd)))
      | refine ok_exit ?_
      | refine ok_skip ?_
      | (refine ok_region (i := 9) ?_;refine ok_p rfl rfl rfl (ps_move rfl rfl) ?_;refine ok_p rfl rfl rfl (by exact ps_add rfl rfl rfl (by omega)) ?_;refine ok_p rfl rfl rfl (ps_assign rfl rfl) ?_;refine ok_ne [(1,_),(2,_),(4,_),(6,_),(7,_)] ⟨rfl,rfl,rfl,rfl,rfl,trivial⟩ ?_)
      | (refine ok_region (i := 12) ?_;refine ok_p rfl rfl rfl (ps_move rfl rfl) ?_;refine ok_p rfl rfl rfl (ps_move rfl rfl) ?_;refine ok_p rfl rfl rfl (by exact ps_len rfl rfl) ?_;refine ok_p rfl rfl rfl (by exact ps_int rfl rfl rfl rfl) ?_;refine ok_ne [(1,_),(2,_),(4,_),(6,_),(7,_),(8,_),(9,_),(35,_)] ⟨rfl,rfl,rfl,rfl,rfl,rfl,rfl,rfl,trivial⟩ ?_)
      | (refine ok_region (i := 13) ?_;refine ok_p rfl rfl rfl (ps_move rfl rfl) ?_;refine ok_p rfl rfl rfl (by exact ps_add rfl rfl rfl (by omega)) ?_;refine ok_p rfl rfl rfl (ps_assign rfl rfl) ?_;refine ok_ne [(1,_),(2,_),(4,_),(6,_),(7,_),(8,_),(9,_)] ⟨rfl,rfl,rfl,rfl,rfl,rfl,rfl,trivial⟩ ?_)
      | (refine ok_draw (id := 14) 15 rfl (by kernel_rfl) (by kernel_rfl) rfl (by repeat (first | exact pq_body | refine pq_then ?_ | refine pq_in ?_)) [0,1,2,3,4,5,6,7,8,9,10,11,12,13,14,15,16,17,18,19,20,21,22,23] (by decide) rfl ?_;refine okT_take (i := 0) rfl (by kernel_rfl) rfl rfl rfl (ps_move rfl rfl) ?_;refine okT_take (i := 1) rfl (by kernel_rfl) rfl rfl rfl (ps_move rfl rfl) ?_;refine okT_take_g1 (i := 2) rfl (by kernel_rfl) rfl rfl rfl rfl rfl (gT _) (fun hp => by exact ps_move rfl rfl) ?_;refine okT_take_g1 (i := 3) rfl (by kernel_rfl) rfl rfl rfl rfl rfl (gT _) (fun hp => by exact ps_move rfl rfl) ?_;refine okT_take_g1 (i := 4) rfl (by kernel_rfl) rfl rfl rfl rfl rfl (gT _) (fun hp => by (have hpd := hp;(try simp only [jA,jB,jC,jD,jE,jF,jG,jH,jI,jJ,jK,jL,jM,jN,jO,jP,jQ,jR,jS] at hpd);exact ps_indexN rfl (og rfl (by assumption)) (og rfl (by assumption)) (by omega) (by exact isw_of (isS_fl (by assumption) (by omega))))) ?_;refine okT_take_g1 (i := 5) rfl (by kernel_rfl) rfl rfl rfl rfl rfl (gT _) (fun hp => by (have hpd := hp;(try simp only [jA,jB,jC,jD,jE,jF,jG,jH,jI,jJ,jK,jL,jM,jN,jO,jP,jQ,jR,jS] at hpd);exact ps_field rfl (og rfl (by assumption)) (by exact isw_of (isS_fl (by assumption) (by omega))))) ?_;refine okT_take_g1 (i := 6) rfl (by kernel_rfl) rfl rfl rfl rfl rfl (gT _) (fun hp => by (have hpd := hp;(try simp only [jA,jB,jC,jD,jE,jF,jG,jH,jI,jJ,jK,jL,jM,jN,jO,jP,jQ,jR,jS] at hpd);exact ps_load rfl (og rfl (by assumption)) (by exact Rds.cell (rds_rf (by assumption) List.mem_cons_self) (by exact fl_at0 _ _ (by omega) (by decide))))) ?_;refine okT_take_g1 (i := 7) rfl (by kernel_rfl) rfl rfl rfl rfl rfl (gT _) (fun hp => by exact ps_move rfl rfl) ?_;refine okT_take_g1 (i := 8) rfl (by kernel_rfl) rfl rfl rfl rfl rfl (gT _) (fun hp => by exact ps_move rfl rfl) ?_;refine okT_take_g1 (i := 9) rfl (by kernel_rfl) rfl rfl rfl rfl rfl (gT _) (fun hp => by (have hpd := hp;(try simp only [jA,jB,jC,jD,jE,jF,jG,jH,jI,jJ,jK,jL,jM,jN,jO,jP,jQ,jR,jS] at hpd);exact ps_indexN rfl (og rfl (by assumption)) (og rfl (by assumption)) (by omega) (by exact isw_of (isS_fl (by assumption) (by omega))))) ?_;refine okT_take_g1 (i := 10) rfl (by kernel_rfl) rfl rfl rfl rfl rfl (gT _) (fun hp => by (have hpd := hp;(try simp only [jA,jB,jC,jD,jE,jF,jG,jH,jI,jJ,jK,jL,jM,jN,jO,jP,jQ,jR,jS] at hpd);exact ps_field rfl (og rfl (by assumption)) (by exact isw_of (isS_fl (by assumption) (by omega))))) ?_;refine okT_take_g1 (i := 11) rfl (by kernel_rfl) rfl rfl rfl rfl rfl (gT _) (fun hp => by (have hpd := hp;(try simp only [jA,jB,jC,jD,jE,jF,jG,jH,jI,jJ,jK,jL,jM,jN,jO,jP,jQ,jR,jS] at hpd);exact ps_load rfl (og rfl (by assumption)) (by exact Rds.cell (rds_rf (by assumption) List.mem_cons_self) (by exact fl_at0 _ _ (by omega) (by decide))))) ?_;refine okT_take_g1 (i := 12) rfl (by kernel_rfl) rfl rfl rfl rfl rfl (gT _) (fun hp => by (exact ps_str rfl (og rfl (by assumption)) (og rfl (by assumption)) rfl)) ?_;refine okT_take (i := 13) rfl (by kernel_rfl) rfl rfl rfl (by exact ps_and rfl rfl rfl) ?_;refine okT_take (i := 14) rfl (by kernel_rfl) rfl rfl rfl (ps_assign rfl rfl) ?_;refine okT_done (by kernel_rfl) ?_;refine ok_ne [(1,_),(2,_),(4,_),(6,_),(7,_),(8,_),(9,_)] ⟨rfl,rfl,rfl,rfl,rfl,rfl,rfl,trivial⟩ ?_)
      | (refine ok_region (i := 15) ?_;refine ok_p rfl rfl rfl (ps_move rfl rfl) ?_;refine ok_ne [(1,_),(2,_),(4,_),(6,_),(7,_),(52,_)] ⟨rfl,rfl,rfl,rfl,rfl,rfl,trivial⟩ ?_)
      | (apply mrg1;(focus (intro hk;refine ok_draw (id := 16) 22 rfl (by kernel_rfl) (by kernel_rfl) rfl (by repeat (first | exact pq_body | refine pq_then ?_ | refine pq_in ?_)) [1,2,3,5,6] (by decide) rfl ?_;refine okT_take (i := 0) rfl (by kernel_rfl) rfl rfl rfl (by exact ps_field rfl rfl (isw_ga _)) ?_;refine okT_take (i := 2) rfl (by kernel_rfl) rfl rfl rfl (ps_move rfl rfl) ?_;refine okT_take (i := 3) rfl (by kernel_rfl) rfl rfl rfl (ps_move rfl rfl) ?_;refine okT_take (i := 4) rfl (by kernel_rfl) rfl rfl rfl (by exact ps_indexN rfl rfl rfl (by omega) (by exact isw_of (isS_fl (by assumption) (by omega)))) ?_;refine okT_take (i := 5) rfl (by kernel_rfl) rfl rfl rfl (by exact ps_field rfl rfl (by exact isw_of (isS_fl (by assumption) (by omega)))) ?_;refine okT_take (i := 6) rfl (by kernel_rfl) rfl rfl rfl (by exact ps_load rfl rfl (by exact Rds.cell (rds_rf (by assumption) List.mem_cons_self) (by exact fl_at0 _ _ (by omega) (by decide)))) ?_;refine okT_take (i := 7) rfl (by kernel_rfl) rfl rfl rfl (by exact ps_field rfl rfl (isw_ga _)) ?_;refine okT_take (i := 9) rfl (by kernel_rfl) rfl rfl rfl (ps_move rfl rfl) ?_;refine okT_take (i := 10) rfl (by kernel_rfl) rfl rfl rfl (ps_move rfl rfl) ?_;refine okT_take (i := 11) rfl (by kernel_rfl) rfl rfl rfl (by exact ps_indexN rfl rfl rfl (by omega) (by exact isw_of (isS_fl (by assumption) (by omega)))) ?_;refine okT_take (i := 12) rfl (by kernel_rfl) rfl rfl rfl (by exact ps_field rfl rfl (by exact isw_of (isS_fl (by assumption) (by omega)))) ?_;refine okT_take (i := 13) rfl (by kernel_rfl) rfl rfl rfl (by exact ps_load rfl rfl (by exact Rds.cell (rds_rf (by assumption) List.mem_cons_self) (by exact fl_at _ _ _ (by omega) (by decide)))) ?_;refine okT_take (i := 14) rfl (by kernel_rfl) rfl rfl rfl (ps_move rfl rfl) ?_;refine okT_take (i := 15) rfl (by kernel_rfl) rfl rfl rfl (ps_move rfl rfl) ?_;refine okT_take (i := 16) rfl (by kernel_rfl) rfl rfl rfl (by exact ps_indexN rfl rfl rfl (by omega) (by exact isw_of (isS_fl (by assumption) (by omega)))) ?_;refine okT_take (i := 17) rfl (by kernel_rfl) rfl rfl rfl (by exact ps_field rfl rfl (by exact isw_of (isS_fl (by assumption) (by omega)))) ?_;refine okT_take (i := 18) rfl (by kernel_rfl) rfl rfl rfl (by exact ps_load rfl rfl (by exact Rds.cell (rds_rf (by assumption) List.mem_cons_self) (by exact fl_at _ _ _ (by omega) (by decide)))) ?_;refine okT_many (by kernel_rfl) (all_cons (at_m (i := 1) rfl rfl rfl rfl rfl (by exact ms_ps (by exact ps_load rfl rfl (by exact Rds.cell (rds_box 4 rfl) rfl))) (fun y w _ h => by exact h.sel [1,2,3,5,6] (by decide) rfl (fun _ h => h)) ?_) (all_cons (at_m (i := 8) rfl rfl rfl rfl rfl (by exact ms_ps (by exact ps_load rfl rfl (by exact Rds.cell (rds_box 4 rfl) rfl))) (fun y w _ h => by exact h.sel [1,2,3,5,6] (by decide) rfl (fun _ h => h)) ?_) all_nil));(focus (rintro y54 hy54;refine okT_one (i := 8) rfl rfl (by kernel_rfl) rfl rfl rfl (by exact ms_ps (by exact ps_load rfl rfl (by exact Rds.cell (rds_box 4 rfl) rfl))) (fun y w _ h => by exact h.sel [1,2,3,5,6] (by decide) rfl (fun _ h => h)) ?_;rintro y61 hy61;refine okT_take (i := 19) rfl (by kernel_rfl) rfl rfl rfl (by exact ps_bld rfl (parts_cons rfl (parts_cons rfl (parts_cons rfl (parts_cons rfl parts_nil)))) rfl) ?_;refine okT_one (i := 20) rfl rfl (by kernel_rfl) rfl rfl rfl (by exact ms_c2 rfl rfl rfl (fun _ _ w hw => s_l9Put B d (putTo mem (seq + 1) l i) (entOp (nth l i) (seq + 1)) w (hw.row 0 rfl) (by omega))) (fun y w _ h => by exact h.tl.sel [1,2,3,5,6] (by decide) rfl (fun _ h => h)) ?_;rintro y73 hy73;refine okT_take (i := 21) rfl (by kernel_rfl) rfl rfl rfl (by exact ps_field rfl rfl (isw_ga _)) ?_;refine okT_done (by kernel_rfl) ?_;refine ok_m_ rfl rfl (by exact ms_store 5 rfl rfl rfl rfl rfl rfl rfl rfl) ?_;rintro y_ hy_;refine ok_ne [(1,_),(2,_),(4,_),(6,_),(7,_)] ⟨rfl,rfl,rfl,rfl,rfl,trivial⟩ ?_;exact hk y73));(focus (rintro y61 hy61;refine okT_take (i := 19) rfl (by kernel_rfl) rfl rfl rfl (by exact ps_bld rfl (parts_cons rfl (parts_cons rfl (parts_cons rfl (parts_cons rfl parts_nil)))) rfl) ?_;refine okT_one (i := 1) rfl rfl (by kernel_rfl) rfl rfl rfl (by exact ms_ps (by exact ps_load rfl rfl (by exact Rds.cell (rds_box 4 rfl) rfl))) (fun y w _ h => by exact h.sel [1,2,3,5,6] (by decide) rfl (fun _ h => h)) ?_;rintro y54 hy54;refine okT_one (i := 20) rfl rfl (by kernel_rfl) rfl rfl rfl (by exact ms_c2 rfl rfl rfl (fun _ _ w hw => s_l9Put B d (putTo mem (seq + 1) l i) (entOp (nth l i) (seq + 1)) w (hw.row 0 rfl) (by omega))) (fun y w _ h => by exact h.tl.sel [1,2,3,5,6] (by decide) rfl (fun _ h => h)) ?_;rintro y73 hy73;refine okT_take (i := 21) rfl (by kernel_rfl) rfl rfl rfl (by exact ps_field rfl rfl (isw_ga _)) ?_;refine okT_done (by kernel_rfl) ?_;refine ok_m_ rfl rfl (by exact ms_store 5 rfl rfl rfl rfl rfl rfl rfl rfl) ?_;rintro y_ hy_;refine ok_ne [(1,_),(2,_),(4,_),(6,_),(7,_)] ⟨rfl,rfl,rfl,rfl,rfl,trivial⟩ ?_;exact hk y73))));rintro y73))
    · exact fun a w' he hw => ⟨⟨k + 1,by omega⟩,by simp only;omega,he.sub ⟨rfl,rfl,rfl,rfl,rfl,by show some _ = some _;rw [HLT.out (by omega)],rfl,trivial⟩,hw⟩
    · have hk : k = l.length := by omega
      subst hk
      rw [lastTo_all] at hc
      have e : putTo mem (seq + 1) l (i + 1) = insE (putTo mem (seq + 1) l i) (entOp (nth l i) (seq + 1)) := by rw [putTo,if_pos hc]
      refine fun a' w' he hw => ⟨⟨i + 1,(y73 0).A,(y73 0).c,by omega⟩,by simp only;omega,he.sub ⟨rfl,rfl,rfl,rfl,rfl,trivial⟩,?_⟩
      simp only [e]
      exact (hw.front 1 rfl).tl
    · have hk : k = l.length := by omega
      subst hk
      rw [lastTo_all] at hc
      have e : putTo mem (seq + 1) l (i + 1) = putTo mem (seq + 1) l i := by rw [putTo,if_neg (by rw [hc];decide)]
      refine fun a' w' he hw => ⟨⟨i + 1,B,d,by omega⟩,by simp only;omega,he.sub ⟨rfl,rfl,rfl,rfl,rfl,trivial⟩,?_⟩
      simp only [e]
      exact hw
  · obtain rfl : i = l.length := by omega
    have hS : dats (locs 3 (dats R) y15) = dats R := dats_locs 3 (dats R) y15
    have hSl : (locs 3 (dats R) y15).length = R.length := by rw [locs_len,dats_len]
    generalize locs 3 (dats R) y15 = S at hS hSl ⊢
    have hok := fun w a b c => s_EngOk0 B d (putTo mem (seq + 1) l l.length) (y15 1).A (y15 1).c S (seq + 1) (y15 2).A (y15 2).c sn w a b c (by omega) (by omega) (by rw [hS];exact HS.out) hl3
    rw [hS,hSl] at hok
    have HOK := Lib.hid hok;clear hok
    clear hc hd
    repeat' (first
      | refine ok_seq ?_
      | refine ok_then ?_
      | refine ok_then_ret ?_
      | (refine ok_cond rfl (fun hc => ?_) (fun hc => ?_) <;> (have hd := hc;(try simp only [jA,jB,jC,jD,jE,jF,jG,jH,jI,jJ,jK,jL,jM,jN,jO,jP,jQ,jR,jS] at hd)))
      | refine ok_ret ?_
      | refine ok_skip ?_
      | (refine ok_region (i := 17) ?_;refine ok_p rfl rfl rfl (by exact ps_loads rfl rfl (by exact rds_box 4 rfl) rfl rfl (by decide)) ?_;refine ok_m rfl rfl rfl (by exact ms_s1 rfl rfl (fun _ _ w hw => HOK.out w (hw.row 0 rfl) (RdN.own hw 1 2 rfl rfl) (hw.row 3 rfl))) ?_;rintro y76 hy76;refine ok_p rfl rfl rfl (by exact ps_not rfl rfl) ?_;refine ok_ne [(2,_),(4,_),(6,_),(77,_)] ⟨rfl,rfl,rfl,rfl,trivial⟩ ?_)
      | (refine ok_region (i := 18) ?_;refine ok_p rfl rfl rfl (by exact ps_loads rfl rfl (by exact rds_box 6 rfl) rfl rfl (by decide)) ?_;refine ok_m rfl rfl rfl (by exact ms_c1 rfl rfl (fun _ _ w hw => s_l20Copy0 mA mc mem tA tc R seq sA sc sn w (rds_rf h1 List.mem_cons_self _ _ w hw) (RdN.keep hw H2.out List.mem_cons_self) (rds_rf h3 List.mem_cons_self _ _ w hw) hl1 hl2 HS.out hl3)) ?_;rintro y79 hy79;refine ok_m_ rfl rfl (by exact ms_store 9 rfl rfl rfl rfl rfl rfl rfl rfl) ?_;rintro y_ hy_;refine ok_p rfl rfl rfl (ps_assign rfl rfl) ?_;refine ok_ne [(4,_),(5,_)] ⟨rfl,rfl,trivial⟩ ?_)
      | (refine ok_region (i := 19) ?_;refine ok_p rfl rfl rfl (by exact ps_loads rfl rfl (by exact rds_box 4 rfl) rfl rfl (by decide)) ?_;refine ok_m_ rfl rfl (by exact ms_store 5 rfl rfl rfl rfl rfl rfl rfl rfl) ?_;rintro y_ hy_;refine ok_p rfl rfl rfl (ps_assign rfl rfl) ?_;refine ok_ne [(4,_),(5,_)] ⟨rfl,rfl,trivial⟩ ?_))
    · rw [engput_nor HE.out HB.out hd]
      unfold engVal engObj
      simp only [dats_len]
      exact ok_endL (vs := [_,_]) rfl ⟨⟨_,9,_,_,_,rfl,rfl,inferInstance,rfl,rfl⟩,rfl,trivial⟩ (fun w' hw => ⟨y79,rfl,trivial,hw.below,NewOk.of (hw.sel [0,1,2,3] (by decide) rfl (G' := []) (fun _ h => by cases h))⟩)
    · rw [engput_yes HE.out HB.out hd]
      have e0 : putE ⟨mem,dats R,seq,sn⟩ l = ⟨putTo mem (seq + 1) l l.length,dats S,seq + 1,sn⟩ := by rw [hS];rfl
      rw [e0,← hSl]
      refine ok_endL (vs := [_,_]) rfl ⟨⟨_,5,_,_,_,rfl,rfl,inferInstance,rfl,rfl⟩,rfl,trivial⟩ (fun w' hw => ⟨cpY B d (y15 1).A (y15 1).c (y15 2).A (y15 2).c S w',?_,trivial,hw.below,?_⟩)
      · rw [(eng_obj B d _ _ _ S _ _ _ sn w').1];rfl
      · rw [(eng_obj B d _ _ _ S _ _ _ sn w').2]
        exact NewOk.of (hw.sel [0,1,2,3] (by decide) rfl (G' := []) (fun _ h => by cases h))
end Go.Proofs.YtmfojbidojjciaaGreat
/- Rows of impl.STen: index. -/
namespace Go.Proofs.YtmfojbidojjciaaGreat
open Go.RowKit
attribute [local irreducible] Calls
theorem indexTn_c (f : FuncId) [hF : FN Tryz.prog f] (cs : List Value) (p : LTen → Bool) (A : Option Addr) (c : Nat) (R : List LTen) (w : World) (h : Rd w A (fl R)) (hl : R.length ≤ 4194304)
    (hf : ∀ (x : LTen) (w' : World),Keeps w w' → Calls Tryz.prog f (Value.agg (Dat.cells x).toArray :: cs).toArray w' (fun e w'' => e = .returned (.bool (p x)) ∧ Below w'.heap.size w' w'')) :
    Calls Tryz.prog 150 #[.slice A R.length c,.func (.func f) #[] cs.toArray] w fun e w' => e = .returned (.int .i64 (ixP p R)) ∧ Below w.heap.size w w' := by
  refine ok_enter 19 Tryz.func150 rfl rfl rfl ?_
  repeat' (first
    | refine ok_seq ?_
    | refine ok_then ?_
    | refine ok_then_ret ?_
    | refine ok_then_exit ?_
    | refine ok_block ?_
    | refine ok_in_normal ?_
    | refine ok_in_ret ?_
    | refine ok_in_exit ?_
    | refine ok_in_other rfl ?_
    | (refine ok_cond rfl (fun hc => ?_) (fun hc => ?_) <;> (have hd := hc;(try simp only [jA,jB,jC,jD,jE,jF,jG,jH,jI,jJ,jK,jL,jM,jN,jO,jP,jQ,jR,jS] at hd)))
    | refine ok_ret ?_
    | refine ok_exit ?_
    | refine ok_skip ?_
    | (refine ok_region (i := 0) ?_;refine ok_p rfl rfl rfl (ps_assign rfl rfl) ?_;refine ok_ne [(0,_),(1,_)] ⟨rfl,rfl,trivial⟩ ?_)
    | (refine ok_region (i := 1) ?_;refine ok_p rfl rfl rfl (ps_move rfl rfl) ?_;refine ok_p rfl rfl rfl (by exact ps_len rfl rfl) ?_;refine ok_p rfl rfl rfl (ps_move rfl rfl) ?_;refine ok_ne [(0,_),(1,_),(7,_),(8,_)] ⟨rfl,rfl,rfl,rfl,trivial⟩ ?_)
    | (refine ok_region (i := 2) ?_;refine ok_p rfl rfl rfl (by exact ps_int rfl rfl rfl rfl) ?_;refine ok_ne [(0,_),(1,_),(7,_),(8,_),(9,_)] ⟨rfl,rfl,rfl,rfl,rfl,trivial⟩ ?_)
    | (refine ok_region (i := 3) ?_;refine ok_p rfl rfl rfl (ps_move rfl rfl) ?_;refine ok_p rfl rfl rfl (ps_assign rfl rfl) ?_;refine ok_ne [(0,_),(1,_),(5,_),(7,_),(8,_)] ⟨rfl,rfl,rfl,rfl,rfl,trivial⟩ ?_)
    | (refine ok_region (i := 4) ?_;refine ok_p rfl rfl rfl (ps_move rfl rfl) ?_;refine ok_p rfl rfl rfl (ps_move rfl rfl) ?_;refine ok_p rfl rfl rfl (ps_move rfl rfl) ?_;refine ok_p rfl rfl rfl (by first | exact ps_indexN rfl rfl rfl (by omega) (by first | exact isw_ga _ | exact isw_some _ | exact isw_row 0 rfl (by omega) | exact isw_row 1 rfl (by omega) | exact isw_row 2 rfl (by omega) | exact isw_row 3 rfl (by omega) | exact isw_row 4 rfl (by omega) | exact isw_row 5 rfl (by omega) | exact isw_row 6 rfl (by omega) | exact isw_row 7 rfl (by omega) | exact isw_row 8 rfl (by omega) | exact isw_of (isS_fl (by assumption) (by omega)) | exact isw_of (by assumption)) | exact ps_index rfl rfl rfl (by omega) (by first | exact isw_ga _ | exact isw_some _ | exact isw_row 0 rfl (by omega) | exact isw_row 1 rfl (by omega) | exact isw_row 2 rfl (by omega) | exact isw_row 3 rfl (by omega) | exact isw_row 4 rfl (by omega) | exact isw_row 5 rfl (by omega) | exact isw_row 6 rfl (by omega) | exact isw_row 7 rfl (by omega) | exact isw_row 8 rfl (by omega) | exact isw_of (isS_fl (by assumption) (by omega)) | exact isw_of (by assumption))) ?_;refine ok_p rfl rfl rfl (by first | exact ps_loads rfl rfl (by first | exact rds_box 0 rfl | exact rds_box 1 rfl | exact rds_box 2 rfl | exact rds_box 3 rfl | exact rds_box 4 rfl | exact rds_box 5 rfl | exact rds_box 6 rfl | exact rds_box 7 rfl | exact rds_box 8 rfl | exact rds_box 9 rfl | exact rds_box 10 rfl | exact rds_box 11 rfl | exact rds_box 12 rfl | exact rds_box 13 rfl | exact rds_box 14 rfl | exact rds_box 15 rfl | exact rds_box 16 rfl | exact rds_box 17 rfl | exact rds_box 18 rfl | exact rds_box 19 rfl | exact rds_box 20 rfl | exact rds_box 21 rfl | exact rds_box 22 rfl | exact rds_box 23 rfl) rfl rfl (by decide) | exact ps_loadsF rfl rfl (by first | exact rds_row 0 rfl | exact rds_row 1 rfl | exact rds_row 2 rfl | exact rds_row 3 rfl | exact rds_row 4 rfl | exact rds_row 5 rfl | exact rds_row 6 rfl | exact rds_row 7 rfl | exact rds_row 8 rfl | exact rds_row 9 rfl | exact rds_row 10 rfl | exact rds_row 11 rfl | exact rds_row 12 rfl | exact rds_row 13 rfl | exact rds_row 14 rfl | exact rds_row 15 rfl | exact rds_row 16 rfl | exact rds_row 17 rfl | exact rds_row 18 rfl | exact rds_row 19 rfl | exact rds_row 20 rfl | exact rds_row 21 rfl | exact rds_row 22 rfl | exact rds_row 23 rfl | exact rds_rf (by assumption) (by first | exact List.mem_cons_self | exact List.mem_cons_of_mem _ List.mem_cons_self | simp)) (by rfl) (by rfl) (by omega) rfl) ?_;refine ok_m rfl rfl rfl (by fail "no maker call") ?_;rintro y16 hy16;refine ok_ne [(0,_),(1,_),(5,_),(7,_),(8,_),(16,_)] ⟨rfl,rfl,rfl,rfl,rfl,rfl,trivial⟩ ?_)
    | (refine ok_region (i := 5) ?_;refine ok_p rfl rfl rfl (ps_move rfl rfl) ?_;refine ok_p rfl rfl rfl (ps_assign rfl rfl) ?_;refine ok_ne [(4,_)] ⟨rfl,trivial⟩ ?_)
    | (refine ok_region (i := 6) ?_;refine ok_p rfl rfl rfl (by exact ps_add rfl rfl rfl (by omega)) ?_;refine ok_p rfl rfl rfl (ps_move rfl rfl) ?_;refine ok_ne [(0,_),(1,_),(7,_),(8,_)] ⟨rfl,rfl,rfl,rfl,trivial⟩ ?_)
    | (refine ok_region (i := 7) ?_;refine ok_p rfl rfl rfl (ps_assign rfl rfl) ?_;refine ok_ne [(4,_)] ⟨rfl,trivial⟩ ?_))
  refine ok_loop (ι := { k : Nat // k ≤ R.length ∧ ixP p R = ixF p R (R.length - k) k }) (fun k => R.length - k.1) (fun k => ([(0,.slice A R.length c),(1,.func (.func f) #[] cs.toArray),(7,.int .i64 R.length),(8,.int .i64 k.1)],_,_)) ⟨0,by omega,rfl⟩ (fun a w he hw => ⟨⟨0,by omega,rfl⟩,he.sub ⟨rfl,rfl,rfl,rfl,trivial⟩,hw⟩) ?_
  rintro ⟨k,hk,hr⟩
  simp only at hk hr ⊢
  have HR := Lib.hid hr;clear hr
  repeat' (first
    | refine ok_seq ?_
    | refine ok_then ?_
    | refine ok_then_ret ?_
    | refine ok_then_exit ?_
    | refine ok_block ?_
    | refine ok_in_normal ?_
    | refine ok_in_ret ?_
    | refine ok_in_exit ?_
    | refine ok_in_other rfl ?_
    | (refine ok_cond rfl (fun hc => ?_) (fun hc => ?_) <;> (have hd := hc;(try simp only [jA,jB,jC,jD,jE,jF,jG,jH,jI,jJ,jK,jL,jM,jN,jO,jP,jQ,jR,jS] at hd)))
    | refine ok_ret ?_
    | refine ok_exit ?_
    | refine ok_skip ?_
    | (refine ok_region (i := 0) ?_;refine ok_p rfl rfl rfl (ps_assign rfl rfl) ?_;refine ok_ne [(0,_),(1,_)] ⟨rfl,rfl,trivial⟩ ?_)
    | (refine ok_region (i := 1) ?_;refine ok_p rfl rfl rfl (ps_move rfl rfl) ?_;refine ok_p rfl rfl rfl (by exact ps_len rfl rfl) ?_;refine ok_p rfl rfl rfl (ps_move rfl rfl) ?_;refine ok_ne [(0,_),(1,_),(7,_),(8,_)] ⟨rfl,rfl,rfl,rfl,trivial⟩ ?_)
    | (refine ok_region (i := 2) ?_;refine ok_p rfl rfl rfl (by exact ps_int rfl rfl rfl rfl) ?_;refine ok_ne [(0,_),(1,_),(7,_),(8,_),(9,_)] ⟨rfl,rfl,rfl,rfl,rfl,trivial⟩ ?_)
    | (refine ok_region (i := 3) ?_;refine ok_p rfl rfl rfl (ps_move rfl rfl) ?_;refine ok_p rfl rfl rfl (ps_assign rfl rfl) ?_;refine ok_ne [(0,_),(1,_),(5,_),(7,_),(8,_)] ⟨rfl,rfl,rfl,rfl,rfl,trivial⟩ ?_)
    | (refine ok_region (i := 4) ?_;refine ok_p rfl rfl rfl (ps_move rfl rfl) ?_;refine ok_p rfl rfl rfl (ps_move rfl rfl) ?_;refine ok_p rfl rfl rfl (ps_move rfl rfl) ?_;refine ok_p rfl rfl rfl (by first | exact ps_indexN rfl rfl rfl (by omega) (by first | exact isw_ga _ | exact isw_some _ | exact isw_row 0 rfl (by omega) | exact isw_row 1 rfl (by omega) | exact isw_row 2 rfl (by omega) | exact isw_row 3 rfl (by omega) | exact isw_row 4 rfl (by omega) | exact isw_row 5 rfl (by omega) | exact isw_row 6 rfl (by omega) | exact isw_row 7 rfl (by omega) | exact isw_row 8 rfl (by omega) | exact isw_of (isS_fl (by assumption) (by omega)) | exact isw_of (by assumption)) | exact ps_index rfl rfl rfl (by omega) (by first | exact isw_ga _ | exact isw_some _ | exact isw_row 0 rfl (by omega) | exact isw_row 1 rfl (by omega) | exact isw_row 2 rfl (by omega) | exact isw_row 3 rfl (by omega) | exact isw_row 4 rfl (by omega) | exact isw_row 5 rfl (by omega) | exact isw_row 6 rfl (by omega) | exact isw_row 7 rfl (by omega) | exact isw_row 8 rfl (by omega) | exact isw_of (isS_fl (by assumption) (by omega)) | exact isw_of (by assumption))) ?_;refine ok_p rfl rfl rfl (by first | exact ps_loads rfl rfl (by first | exact rds_box 0 rfl | exact rds_box 1 rfl | exact rds_box 2 rfl | exact rds_box 3 rfl | exact rds_box 4 rfl | exact rds_box 5 rfl | exact rds_box 6 rfl | exact rds_box 7 rfl | exact rds_box 8 rfl | exact rds_box 9 rfl | exact rds_box 10 rfl | exact rds_box 11 rfl | exact rds_box 12 rfl | exact rds_box 13 rfl | exact rds_box 14 rfl | exact rds_box 15 rfl | exact rds_box 16 rfl | exact rds_box 17 rfl | exact rds_box 18 rfl | exact rds_box 19 rfl | exact rds_box 20 rfl | exact rds_box 21 rfl | exact rds_box 22 rfl | exact rds_box 23 rfl) rfl rfl (by decide) | exact ps_loadsF rfl rfl (by first | exact rds_row 0 rfl | exact rds_row 1 rfl | exact rds_row 2 rfl | exact rds_row 3 rfl | exact rds_row 4 rfl | exact rds_row 5 rfl | exact rds_row 6 rfl | exact rds_row 7 rfl | exact rds_row 8 rfl | exact rds_row 9 rfl | exact rds_row 10 rfl | exact rds_row 11 rfl | exact rds_row 12 rfl | exact rds_row 13 rfl | exact rds_row 14 rfl | exact rds_row 15 rfl | exact rds_row 16 rfl | exact rds_row 17 rfl | exact rds_row 18 rfl | exact rds_row 19 rfl | exact rds_row 20 rfl | exact rds_row 21 rfl | exact rds_row 22 rfl | exact rds_row 23 rfl | exact rds_rf (by assumption) (by first | exact List.mem_cons_self | exact List.mem_cons_of_mem _ List.mem_cons_self | simp)) (by rfl) (by rfl) (by omega) rfl) ?_;refine ok_m rfl rfl rfl (by exact ms_k1 rfl rfl rfl (fun _ _ w' hw => hf (nth R k) w' (hw.keeps (by first | exact List.mem_cons_self | exact List.mem_cons_of_mem _ List.mem_cons_self | simp)))) ?_;rintro y16 hy16;refine ok_ne [(0,_),(1,_),(5,_),(7,_),(8,_),(16,_)] ⟨rfl,rfl,rfl,rfl,rfl,rfl,trivial⟩ ?_)
    | (refine ok_region (i := 5) ?_;refine ok_p rfl rfl rfl (ps_move rfl rfl) ?_;refine ok_p rfl rfl rfl (ps_assign rfl rfl) ?_;refine ok_ne [(4,_)] ⟨rfl,trivial⟩ ?_)
    | (refine ok_region (i := 6) ?_;refine ok_p rfl rfl rfl (by exact ps_add rfl rfl rfl (by omega)) ?_;refine ok_p rfl rfl rfl (ps_move rfl rfl) ?_;refine ok_ne [(0,_),(1,_),(7,_),(8,_)] ⟨rfl,rfl,rfl,rfl,trivial⟩ ?_)
    | (refine ok_region (i := 7) ?_;refine ok_p rfl rfl rfl (ps_assign rfl rfl) ?_;refine ok_ne [(4,_)] ⟨rfl,trivial⟩ ?_))
  · have e : ixP p R = (k : Int) := by rw [HR.out,ixF_step (by omega),hc];rfl
    rw [e]
    exact ok_endL (vs := [_]) rfl ⟨rfl,trivial⟩ (fun w' hw => ⟨rfl,hw.below⟩)
  · have e : ixF p R (R.length - k) k = ixF p R (R.length - (k + 1)) (k + 1) := by rw [ixF_step (by omega),hc];rfl
    exact fun a w' he hw => ⟨⟨k + 1,by omega,HR.out.trans e⟩,by simp only;omega,he.sub ⟨rfl,rfl,rfl,rfl,trivial⟩,hw⟩
  · obtain rfl : k = R.length := by omega
    have e : ixP p R = -1 := by rw [HR.out,Nat.sub_self];rfl
    rw [e]
    exact ok_endL (vs := [_]) rfl ⟨rfl,trivial⟩ (fun w' hw => ⟨rfl,hw.below⟩)
end Go.Proofs.YtmfojbidojjciaaGreat
