/- Texts of this claim, one behind the other: StX, DrE, Non, StS, TkP, StR, EqE, StY, StZ, Eng16, Eng17, EngF, StAA, StAB, StAC, StAD. -/
import Derived.Test.YtmfojbidojjciaaGreatPrTraces1
import Derived.Test.YtmfojbidojjciaaGreatPrTraces4
import Derived.Test.YtmfojbidojjciaaGreatPrTraces3
import Derived.Test.YtmfojbidojjciaaGreatPrTraces2
set_option linter.unusedVariables false
set_option linter.unusedSimpArgs false
set_option maxRecDepth 20000
set_option maxHeartbeats 4000000
/- Rows of a tenant; where a tenant stands. -/
namespace Go.Proofs.YtmfojbidojjciaaGreat
open Go.RowKit
attribute [local irreducible] Calls
def tensF (l : List LTen) (id : Int) : Int := ixP (fun x => decide (x.id = id)) l
theorem closT_c (x : LTen) (g : Nat) (t : Int) (w : World) (h : Rd w (ga g) (fl [t])) : Calls Tryz.prog 151 (Value.agg (Dat.cells x).toArray :: [pt (ga g) 0]).toArray w fun e w' => e = .returned (.bool (decide (x.id = t))) ∧ Below w.heap.size w w' := by
  refine ok_enter 8 Tryz.func151 rfl rfl rfl ?_
  repeat' (first
    | refine ok_seq ?_
    | refine ok_then ?_
    | refine ok_ret ?_
    | (refine ok_region (i := 0) ?_;refine ok_m rfl rfl rfl (by exact ms_box rfl rfl rfl) ?_;rintro y2 hy2;refine ok_p rfl rfl rfl (ps_assign rfl rfl) ?_;refine ok_ne [(1,_),(2,_)] ⟨rfl,rfl,trivial⟩ ?_)
    | (refine ok_region (i := 1) ?_;refine ok_p rfl rfl rfl (by exact ps_field rfl rfl (isw_ga _)) ?_;refine ok_p rfl rfl rfl (by exact ps_load rfl rfl (by exact Rds.cell (rds_box 0 rfl) rfl)) ?_;refine ok_p rfl rfl rfl (by exact ps_load rfl rfl (Rds.cell (rds_rf h List.mem_cons_self) rfl)) ?_;refine ok_p rfl rfl rfl (by exact ps_int rfl rfl rfl rfl) ?_;refine ok_p rfl rfl rfl (ps_assign rfl rfl) ?_;refine ok_ne [(3,_)] ⟨rfl,trivial⟩ ?_))
  refine ok_endL (vs := [_]) rfl ⟨rfl,trivial⟩ (fun w' hw => ⟨?_,hw.below⟩)
  simp only [retV]
  congr 2
theorem at_c (g : Nat) (cs : List Value) (A : Option Addr) (c : Nat) (l : List LTen) (id : Int) (w : World) (hb : Rd w (ga g) cs) (hc6 : cs[6]? = some (.slice A l.length c)) (h : Rd w A (fl l)) (hl : l.length ≤ 4194304) :
    Calls Tryz.prog 98 #[pt (ga g) 0,.int .i64 id] w fun e w' => e = .returned (.int .i64 (tensF l id)) ∧ Below w.heap.size w w' := by
  refine ok_enter 11 Tryz.func98 rfl rfl rfl ?_
  repeat' (first
    | refine ok_seq ?_
    | refine ok_then ?_
    | refine ok_ret ?_
    | (refine ok_region (i := 0) ?_;refine ok_m rfl rfl rfl (by exact ms_box rfl rfl rfl) ?_;rintro y3 hy3;refine ok_p rfl rfl rfl (ps_assign rfl rfl) ?_;refine ok_ne [(0,_),(3,_)] ⟨rfl,rfl,trivial⟩ ?_)
    | (refine ok_region (i := 1) ?_;refine ok_p rfl rfl rfl (ps_move rfl rfl) ?_;refine ok_p rfl rfl rfl (by exact ps_nil rfl rfl (isw_ga _)) ?_;refine ok_p rfl rfl rfl (by exact ps_field rfl rfl (isw_ga _)) ?_;refine ok_p rfl rfl rfl (by exact ps_load rfl rfl (Rds.cell (rds_rf hb List.mem_cons_self) hc6)) ?_;refine ok_p rfl rfl rfl (by exact ps_mkf rfl rfl) ?_;refine ok_m rfl rfl rfl (by exact ms_s2 rfl rfl rfl (fun _ _ w hw => indexTn_c 151 [pt (ga (y3 0).c) 0] (fun x => decide (x.id = id)) A c l w (rds_rf h List.mem_cons_self _ _ w hw) hl (fun x w' hk => closT_c x _ id w' ((rds_box 0 rfl _ _ w hw).keeps hk)))) ?_;rintro y10 hy10;refine ok_p rfl rfl rfl (ps_assign rfl rfl) ?_;refine ok_ne [(4,_)] ⟨rfl,trivial⟩ ?_))
  exact ok_endL (vs := [_]) rfl ⟨rfl,trivial⟩ (fun w' hw => ⟨rfl,hw.below⟩)
theorem tens_at {l : List LTen} {t : Int} {k : Nat} (hk : k < l.length) (h : (nth l k).id = t) (ha : ∀ j,j < k → (nth l j).id ≠ t) : tensF l t = (k : Int) := by
  rcases ixP_or (fun x : LTen => decide (x.id = t)) l with ⟨e,hn⟩ | ⟨i,e,hi,h1,h2⟩
  · have := hn k hk;simp [h] at this
  · have h1 : (nth l i).id = t := by simpa using h1
    have : i = k := by
      rcases Nat.lt_trichotomy i k with hh | hh | hh
      · exact absurd h1 (ha i hh)
      · exact hh
      · have := h2 k hh;simp [h] at this
    unfold tensF;rw [e,this]
theorem tens_none {l : List LTen} {t : Int} (ha : ∀ j,j < l.length → (nth l j).id ≠ t) : tensF l t = -1 := by
  rcases ixP_or (fun x : LTen => decide (x.id = t)) l with ⟨e,hn⟩ | ⟨i,e,hi,h1,h2⟩
  · exact e
  · have h1 : (nth l i).id = t := by simpa using h1
    exact absurd h1 (ha i hi)
theorem tens_any (l : List LTen) (t : Int) : decide (tensF l t < 0) = !(l.map LTen.d).any fun x => decide (x.id = t) := by
  rcases ixP_or (fun x : LTen => decide (x.id = t)) l with ⟨e,hn⟩ | ⟨i,e,hi,h1,h2⟩
  · have h3 : tensF l t = -1 := e
    have h4 : ((l.map LTen.d).any fun x => decide (x.id = t)) = false := by
      rw [List.any_eq_false]
      intro x hx
      obtain ⟨u,hu,rfl⟩ := List.mem_map.1 hx
      have := mem_nth (l := l) (p := fun x => decide (x.id = t) = false) hn u hu
      simpa using this
    rw [h3,h4];rfl
  · have h3 : tensF l t = (i : Int) := e
    have h4 : ((l.map LTen.d).any fun x => decide (x.id = t)) = true := List.any_eq_true.2 ⟨_,List.mem_map.2 ⟨_,nth_mem l i hi,rfl⟩,h1⟩
    rw [h3,h4]
    exact decide_eq_false (by omega)
theorem l22At_c (A : Option Addr) (c : Nat) (l : List LTen) (id : Int) (w : World) (h : Rd w A (fl l)) (hl : l.length ≤ 4194304) :
    Calls Tryz.prog 89 #[.slice A l.length c,.int .i64 id] w fun e w' => e = .returned (.int .i64 (tensF l id)) ∧ Below w.heap.size w w' := by
  refine ok_enter 20 Tryz.func89 rfl rfl rfl ?_
  repeat' (first
    | refine ok_seq ?_
    | refine ok_then ?_
    | refine ok_block ?_
    | (refine ok_region (i := 0) ?_;refine ok_p rfl rfl rfl (ps_assign rfl rfl) ?_;refine ok_ne [(0,_),(1,_)] ⟨rfl,rfl,trivial⟩ ?_)
    | (refine ok_region (i := 1) ?_;refine ok_p rfl rfl rfl (ps_assign rfl rfl) ?_;refine ok_ne [(0,_),(1,_),(5,_)] ⟨rfl,rfl,rfl,trivial⟩ ?_))
  refine ok_loop (ι := { k : Nat // k ≤ l.length ∧ ∀ j,j < k → (nth l j).id ≠ id }) (fun k => l.length - k.1) (fun k => ([(0,.slice A l.length c),(1,.int .i64 id),(5,.int .i64 k.1)],_,_)) ⟨0,by omega,fun j h => absurd h (Nat.not_lt_zero j)⟩ (fun a w he hw => ⟨⟨0,by omega,fun j h => absurd h (Nat.not_lt_zero j)⟩,he.sub ⟨rfl,rfl,rfl,trivial⟩,hw⟩) ?_
  rintro ⟨k,hk,ha⟩
  simp only at hk ⊢
  have HA := Lib.hid ha;clear ha
  repeat' (first
    | refine ok_seq ?_
    | refine ok_then ?_
    | refine ok_then_ret ?_
    | refine ok_block ?_
    | refine ok_in_normal ?_
    | refine ok_in_ret ?_
    | (refine ok_cond rfl (fun hc => ?_) (fun hc => ?_) <;> (have hd := hc;(try simp only [jA,jB,jC,jD,jE,jF,jG,jH,jI,jJ,jK,jL,jM,jN,jO,jP,jQ,jR,jS] at hd)))
    | refine ok_ret ?_
    | refine ok_exit ?_
    | refine ok_skip ?_
    | (refine ok_region (i := 2) ?_;refine ok_p rfl rfl rfl (ps_move rfl rfl) ?_;refine ok_p rfl rfl rfl (ps_move rfl rfl) ?_;refine ok_p rfl rfl rfl (by exact ps_len rfl rfl) ?_;refine ok_p rfl rfl rfl (by exact ps_int rfl rfl rfl rfl) ?_;refine ok_ne [(0,_),(1,_),(5,_),(9,_)] ⟨rfl,rfl,rfl,rfl,trivial⟩ ?_)
    | (refine ok_region (i := 3) ?_;refine ok_p rfl rfl rfl (ps_move rfl rfl) ?_;refine ok_p rfl rfl rfl (by exact ps_add rfl rfl rfl (by omega)) ?_;refine ok_p rfl rfl rfl (ps_assign rfl rfl) ?_;refine ok_ne [(0,_),(1,_),(5,_)] ⟨rfl,rfl,rfl,trivial⟩ ?_)
    | (refine ok_region (i := 4) ?_;refine ok_p rfl rfl rfl (ps_move rfl rfl) ?_;refine ok_p rfl rfl rfl (ps_move rfl rfl) ?_;refine ok_p rfl rfl rfl (by exact ps_indexN rfl rfl rfl (by omega) (by exact isw_of (isS_fl (by assumption) (by omega)))) ?_;refine ok_p rfl rfl rfl (by exact ps_field rfl rfl (by exact isw_of (isS_fl (by assumption) (by omega)))) ?_;refine ok_p rfl rfl rfl (by exact ps_load rfl rfl (by exact Rds.cell (rds_rf (by assumption) List.mem_cons_self) (by exact fl_at0 _ _ (by omega) (by decide)))) ?_;refine ok_p rfl rfl rfl (ps_move rfl rfl) ?_;refine ok_p rfl rfl rfl (by exact ps_int rfl rfl rfl rfl) ?_;refine ok_ne [(0,_),(1,_),(5,_),(18,_)] ⟨rfl,rfl,rfl,rfl,trivial⟩ ?_)
    | (refine ok_region (i := 5) ?_;refine ok_p rfl rfl rfl (ps_move rfl rfl) ?_;refine ok_p rfl rfl rfl (ps_assign rfl rfl) ?_;refine ok_ne [(4,_)] ⟨rfl,trivial⟩ ?_)
    | (refine ok_region (i := 6) ?_;refine ok_p rfl rfl rfl (ps_assign rfl rfl) ?_;refine ok_ne [(4,_)] ⟨rfl,trivial⟩ ?_))
  · exact ok_endL (vs := [_]) rfl ⟨rfl,trivial⟩ (fun w' hw => ⟨by rw [tens_at (by omega) hd HA.out];rfl,hw.below⟩)
  · exact fun a w' he hw => ⟨⟨k + 1,by omega,fun j hj => by
      rcases Nat.lt_succ_iff_lt_or_eq.1 hj with h' | rfl
      · exact HA.out j h'
      · exact hd⟩,by simp only;omega,he.sub ⟨rfl,rfl,rfl,trivial⟩,hw⟩
  · obtain rfl : k = l.length := by omega
    exact ok_endL (vs := [_]) rfl ⟨rfl,trivial⟩ (fun w' hw => ⟨by rw [tens_none HA.out];rfl,hw.below⟩)
theorem rowsF_step {l : List LogRow} {k : Nat} (id : Int) (h : k < l.length) : rowsF (l.take (k + 1)) id = rowsF (l.take k) id ++ (if (nth l k).ten = id then [nth l k] else []) := by
  rw [takeG h];unfold rowsF
  rw [List.filter_append]
  congr 1
  by_cases hh : (nth l k).ten = id
  · rw [if_pos hh,List.filter_cons,if_pos (by simpa using hh)];rfl
  · rw [if_neg hh,List.filter_cons,if_neg (by simpa using hh)];rfl
theorem rowsF_le (l : List LogRow) (id : Int) : (rowsF l id).length ≤ l.length := List.length_filter_le ..
structure RwI (n : Nat) where
  k : Nat
  A : Option Addr
  c : Nat
  hk : k ≤ n
theorem rowsOf_c (g : Nat) (cs : List Value) (A : Option Addr) (c : Nat) (l : List LogRow) (id : Int) (w : World) (hb : Rd w (ga g) cs) (hc7 : cs[7]? = some (.slice A l.length c)) (h : Rd w A (fl l)) (hl : l.length ≤ 4194304) :
    Calls Tryz.prog 46 #[pt (ga g) 0,.int .i64 id] w fun e w' => ∃ y : Ys,e = .returned (.slice (y 0).A (rowsF l id).length (y 0).c) ∧ True ∧ Below w.heap.size w w' ∧ NewOk w.heap.size [.row 92 5 (y 0).A (rowsF l id).length (y 0).c (fl (rowsF l id))] [] w' := by
  refine ok_enter 27 Tryz.func46 rfl rfl rfl ?_
  repeat' (first
    | refine ok_seq ?_
    | refine ok_then ?_
    | refine ok_block ?_
    | (refine ok_region (i := 0) ?_;refine ok_p rfl rfl rfl (ps_assign rfl rfl) ?_;refine ok_ne [(0,_),(1,_)] ⟨rfl,rfl,trivial⟩ ?_)
    | (refine ok_region (i := 1) ?_;refine ok_p rfl rfl rfl (ps_assign rfl rfl) ?_;refine ok_ne [(0,_),(1,_),(5,_)] ⟨rfl,rfl,rfl,trivial⟩ ?_)
    | (refine ok_region (i := 2) ?_;refine ok_p rfl rfl rfl (ps_move rfl rfl) ?_;refine ok_p rfl rfl rfl (by exact ps_nil rfl rfl (isw_ga _)) ?_;refine ok_p rfl rfl rfl (by exact ps_field rfl rfl (isw_ga _)) ?_;refine ok_p rfl rfl rfl (by exact ps_load rfl rfl (Rds.cell (rds_rf hb List.mem_cons_self) hc7)) ?_;refine ok_p rfl rfl rfl (by exact ps_len rfl rfl) ?_;refine ok_p rfl rfl rfl (ps_move rfl rfl) ?_;refine ok_ne [(1,_),(5,_),(11,_),(12,_),(13,_)] ⟨rfl,rfl,rfl,rfl,rfl,trivial⟩ ?_))
  have hst := fun k (hk : k < l.length) => rowsF_step (l := l) (k := k) id hk
  have hle := fun k => Nat.le_trans (rowsF_le (l.take k) id) (by rw [List.length_take];exact Nat.min_le_left _ _ : (l.take k).length ≤ k)
  have HST := Lib.hid hst;clear hst
  have HLE := Lib.hid hle;clear hle
  refine ok_loop (ι := RwI l.length) (fun q => l.length - q.k) (fun q => ([(1,.int .i64 id),(5,.slice q.A (rowsF (l.take q.k) id).length q.c),(11,.slice A l.length c),(12,.int .i64 l.length),(13,.int .i64 q.k)],[.row 92 5 q.A (rowsF (l.take q.k) id).length q.c (fl (rowsF (l.take q.k) id))],_)) ⟨0,none,0,Nat.zero_le _⟩ (fun a w he hw => ⟨⟨0,none,0,Nat.zero_le _⟩,he.sub ⟨rfl,rfl,rfl,rfl,rfl,trivial⟩,hw.rowNil 92 5⟩) ?_
  rintro ⟨k,B,d,hk⟩
  simp only at hk ⊢
  have hlk := HLE.out k
  repeat' (first
    | refine ok_seq ?_
    | refine ok_then ?_
    | refine ok_block ?_
    | refine ok_in_normal ?_
    | (refine ok_cond rfl (fun hc => ?_) (fun hc => ?_) <;> (have hd := hc;(try simp only [jA,jB,jC,jD,jE,jF,jG,jH,jI,jJ,jK,jL,jM,jN,jO,jP,jQ,jR,jS] at hd)))
    | refine ok_ret ?_
    | refine ok_exit ?_
    | refine ok_skip ?_
    | (refine ok_region (i := 3) ?_;refine ok_p rfl rfl rfl (by exact ps_int rfl rfl rfl rfl) ?_;refine ok_ne [(1,_),(5,_),(11,_),(12,_),(13,_),(14,_)] ⟨rfl,rfl,rfl,rfl,rfl,rfl,trivial⟩ ?_)
    | (refine ok_region (i := 4) ?_;refine ok_p rfl rfl rfl (by exact ps_indexN rfl rfl rfl (by omega) (by exact isw_of (isS_fl (by assumption) (by omega)))) ?_;refine ok_p rfl rfl rfl (by exact ps_loadsF rfl rfl (by exact rds_rf (by assumption) List.mem_cons_self) (by rfl) (by rfl) (by omega) rfl) ?_;refine ok_m rfl rfl rfl (by exact ms_alloc rfl) ?_;rintro y7 hy7;refine ok_m_ rfl rfl (by exact ms_store 0 rfl rfl rfl rfl rfl rfl rfl rfl) ?_;rintro y_ hy_;refine ok_ne [(1,_),(5,_),(7,_),(11,_),(12,_),(13,_)] ⟨rfl,rfl,rfl,rfl,rfl,rfl,trivial⟩ ?_)
    | (refine ok_region (i := 5) ?_;refine ok_p rfl rfl rfl (by exact ps_field rfl rfl (isw_ga _)) ?_;refine ok_p rfl rfl rfl (by exact ps_load rfl rfl (by exact Rds.cell (rds_box 0 rfl) rfl)) ?_;refine ok_p rfl rfl rfl (ps_move rfl rfl) ?_;refine ok_p rfl rfl rfl (by exact ps_int rfl rfl rfl rfl) ?_;refine ok_ne [(1,_),(5,_),(7,_),(11,_),(12,_),(13,_),(20,_)] ⟨rfl,rfl,rfl,rfl,rfl,rfl,rfl,trivial⟩ ?_)
    | (refine ok_region (i := 6) ?_;refine ok_p rfl rfl rfl (ps_move rfl rfl) ?_;refine ok_p rfl rfl rfl (by exact ps_loads rfl rfl (by exact rds_box 0 rfl) rfl rfl (by decide)) ?_;refine ok_m rfl rfl rfl (by exact ms_lit rfl (parts_cons rfl parts_nil) rfl rfl rfl) ?_;rintro y23 hy23;refine ok_m rfl rfl rfl (by exact ms_appF (α := LogRow) (L := rowsF (l.take k) id) (M := [nth l k]) 2 rfl rfl rfl rfl (rds_row 0 rfl) rfl (by simp;omega) (by simp;omega)) ?_;rintro y24 hy24;refine ok_p rfl rfl rfl (ps_assign rfl rfl) ?_;refine ok_ne [(1,_),(5,_),(11,_),(12,_),(13,_)] ⟨rfl,rfl,rfl,rfl,rfl,trivial⟩ ?_)
    | (refine ok_region (i := 7) ?_;refine ok_p rfl rfl rfl (by exact ps_add rfl rfl rfl (by omega)) ?_;refine ok_p rfl rfl rfl (ps_move rfl rfl) ?_;refine ok_ne [(1,_),(5,_),(11,_),(12,_),(13,_)] ⟨rfl,rfl,rfl,rfl,rfl,trivial⟩ ?_)
    | (refine ok_region (i := 8) ?_;refine ok_p rfl rfl rfl (ps_move rfl rfl) ?_;refine ok_p rfl rfl rfl (ps_assign rfl rfl) ?_;refine ok_ne [(4,_)] ⟨rfl,trivial⟩ ?_))
  · have e := HST.out k (by omega)
    rw [if_pos hd] at e
    refine fun a w' he hw => ⟨⟨k + 1,(y24 0).A,(y24 0).c,by omega⟩,by simp only;omega,he.sub ⟨rfl,by simp only [e,List.length_append];rfl,rfl,rfl,rfl,trivial⟩,?_⟩
    simp only [e,List.length_append]
    exact hw.sel [2] (by decide) rfl (fun _ h => h)
  · have e := HST.out k (by omega)
    rw [if_neg hd,List.append_nil] at e
    refine fun a w' he hw => ⟨⟨k + 1,B,d,by omega⟩,by simp only;omega,he.sub ⟨rfl,by simp only [e];rfl,rfl,rfl,rfl,trivial⟩,?_⟩
    simp only [e]
    exact hw.sel [1] (by decide) rfl (fun _ h => h)
  · obtain rfl : k = l.length := by omega
    rw [List.take_length]
    exact ok_endL (vs := [_]) rfl ⟨rfl,trivial⟩ (fun w' hw => ⟨mkY B d w',rfl,trivial,hw.below,NewOk.of (hw.sel [0] (by decide) rfl (G' := []) (fun _ h => by cases h))⟩)
end Go.Proofs.YtmfojbidojjciaaGreat
/- Drawing, with the engine: the cursor is an own box. -/
namespace Go.Proofs.YtmfojbidojjciaaGreat
open Go.RowKit
attribute [local irreducible] Calls
/-- The cursor: the code's bytes, a place in them, a state. -/
abbrev cur (g : Nat) (A : Option Addr) (n c : Nat) (i : Nat) (h : Int) : HObj := .box g 177 [.slice A n c,.int .i64 i,.int .i64 h]
theorem bvs1 (L : List UInt8) (x : UInt8) : byteVs (L ++ [x]) = byteVs L ++ [.int .u8 (x.toNat : Int)] := by simp [byteVs]
theorem bt_lt' (s : ByteArray) (k : Nat) : bt s k < 256 := by unfold bt;exact UInt8.toNat_lt _
theorem one1 {v : Value} (h : v.oneCell' = true) : ∀ u ∈ [v],u.oneCell' = true := fun u hu => by
  cases hu with
  | head => exact h
  | tail _ h => cases h
/-- Code that is read while drawing. -/
structure CodeR (A : Option Addr) (bs : List UInt8) (G : List World) : Prop where
  rd : ∃ m ∈ G,Rd m A (fl bs)
  le : bs.length ≤ 1048576
/-- The state of a text that is drawn. -/
structure TxI (most : Nat) (m : Nat) where
  k : Int
  n : Nat
  L : List UInt8
  B : Option Addr
  d : Nat
  i : Nat
  h : Int
  hn : n = L.length
  hk : (n : Int) + k ≤ most ∧ 0 ≤ k
  hi : i ≤ m
end Go.Proofs.YtmfojbidojjciaaGreat
/- Nonces of both programs; bytes under a stream. -/
namespace Go.Proofs.YtmfojbidojjciaaGreat
open Go.RowKit
attribute [local irreducible] Calls
theorem s_Fix7 (n : Nat) (hn : n < 72057594037927936) (w : World) : Calls Tryz.prog 262 #[.int .i64 (n : Int),.int .i64 7] w fun e w' => e = .returned (.string (f7 n)) ∧ Below w.heap.size w w' := sFixed7_any n hn w
theorem i_Fix7 (n : Nat) (hn : n < 72057594037927936) (w : World) : Calls Tryz.prog 299 #[.int .i64 (n : Int),.int .i64 7] w fun e w' => e = .returned (.string (f7 n)) ∧ Below w.heap.size w w' := iFixed7_any n hn w
theorem i_NonceOf (k n : Nat) (hk : k < 256) (hn : n ≤ 562949953421311) (w : World) : Calls Tryz.prog 233 #[.int .i64 (k : Int),.int .i64 (n : Int)] w fun e w' => e = .returned (.string (nonF k n)) ∧ Below w.heap.size w w' := by
  have hz := f7_size n
  have h1 : (⟨[UInt8.ofNat k,0,0,0,0].toArray⟩ : ByteArray).size = 5 := rfl
  refine ok_enter 20 Tryz.func233 rfl rfl rfl ?_
  repeat' (first
    | refine ok_seq ?_
    | refine ok_then ?_
    | refine ok_then_ret ?_
    | refine ok_then_exit ?_
    | refine ok_block ?_
    | refine ok_in_normal ?_
    | refine ok_in_ret ?_
    | refine ok_in_exit ?_
    | refine ok_in_other rfl ?_
    | (refine ok_cond rfl (fun hc => ?_) (fun hc => ?_) <;> (have hd := hc;(try simp only [jA,jB,jC,jD,jE,jF,jG,jH,jI,jJ,jK,jL,jM,jN,jO,jP,jQ,jR,jS] at hd)))
    | refine ok_ret ?_
    | refine ok_exit ?_
    | refine ok_skip ?_
    | (refine ok_region (i := 0) ?_;refine ok_p rfl rfl rfl (ps_assign rfl rfl) ?_;refine ok_ne [(0,_),(1,_)] ⟨rfl,rfl,trivial⟩ ?_)
    | (refine ok_region (i := 1) ?_;refine ok_p rfl rfl rfl (ps_move rfl rfl) ?_;refine ok_m rfl rfl rfl (by exact ms_s3 rfl rfl rfl rfl (fun _ _ w hw => in_i _ _ _ w)) ?_;rintro y6 hy6;refine ok_p rfl rfl rfl (by exact ps_not rfl rfl) ?_;refine ok_p rfl rfl rfl (ps_move rfl rfl) ?_;refine ok_pg rfl rfl rfl rfl rfl (gF _) (fun hp => by (exact ps_move rfl (by first | (refine og rfl ?_;assumption) | exact rfl))) ?_;refine ok_mg rfl rfl rfl rfl rfl (gF _) (fun hp => by (exact ms_s3 rfl (by first | (refine og rfl ?_;assumption) | exact rfl) rfl rfl (fun _ _ w hw => in_i _ _ _ w))) ?_;refine ok_pg rfl rfl rfl rfl rfl (gF _) (fun hp => by (exact ps_not rfl (by first | (refine og rfl ?_;assumption) | exact rfl))) ?_;refine ok_p rfl rfl rfl (by first | exact ps_or rfl rfl rfl | exact ps_or_in (by assumption) rfl rfl rfl | exact ps_pick_t rfl rfl (by simp_all;done) rfl | exact ps_pick_f rfl rfl (by simp_all;done) rfl) ?_;refine ok_ne [(0,_),(1,_),(12,_)] ⟨rfl,rfl,rfl,trivial⟩ ?_)
    | (refine ok_region (i := 2) ?_;refine ok_p rfl rfl rfl (ps_assign rfl rfl) ?_;refine ok_ne [(4,_)] ⟨rfl,trivial⟩ ?_)
    | (apply mrg2;(focus (intro hk;refine ok_draw (id := 3) 8 rfl (by kernel_rfl) (by kernel_rfl) rfl (by repeat (first | exact pq_body | refine pq_then ?_ | refine pq_in ?_)) [0,1,2,3,4,5,6,7,8,9,10,11,12,13,14,15,16,17,18,19,20,21,22,23] (by decide) rfl ?_;refine okT_take (i := 0) rfl (by kernel_rfl) rfl rfl rfl (ps_move rfl rfl) ?_;refine okT_take (i := 1) rfl (by kernel_rfl) rfl rfl rfl (by first | exact ps_convB rfl rfl | exact ps_conv rfl rfl) ?_;refine okT_take (i := 4) rfl (by kernel_rfl) rfl rfl rfl (ps_move rfl rfl) ?_;refine okT_many (by kernel_rfl) (all_cons (at_m (i := 2) rfl rfl rfl rfl rfl (by exact ms_lit rfl (parts_cons rfl (parts_cons rfl (parts_cons rfl (parts_cons rfl (parts_cons rfl parts_nil))))) rfl rfl rfl) (fun y w _ h => by first | exact h | exact h.tl | exact h.tl.tl | exact h.tl.tl.tl | exact h.tl.tl.tl.tl | exact h.gtl | exact h.tl.gtl | exact h.sel [0] (by decide) rfl (fun _ h => h) | exact h.tl.tl.tl.tl.tl | exact h.tl.tl.tl.tl.tl.tl | exact h.tl.tl.tl.tl.tl.tl.tl | exact h.tl.tl.tl.tl.tl.tl.tl.tl | exact h.tl.tl.tl.tl.tl.tl.tl.tl.tl | exact h.tl.tl.tl.tl.tl.tl.tl.tl.tl.tl) ?_) (all_cons (at_m (i := 5) rfl rfl rfl rfl rfl (by exact ms_s2 rfl rfl rfl (fun _ _ w hw => i_Fix7 n (by omega) w)) (fun y w _ h => by first | exact h | exact h.tl | exact h.tl.tl | exact h.tl.tl.tl | exact h.tl.tl.tl.tl | exact h.gtl | exact h.tl.gtl | exact h.sel [0] (by decide) rfl (fun _ h => h) | exact h.tl.tl.tl.tl.tl | exact h.tl.tl.tl.tl.tl.tl | exact h.tl.tl.tl.tl.tl.tl.tl | exact h.tl.tl.tl.tl.tl.tl.tl.tl | exact h.tl.tl.tl.tl.tl.tl.tl.tl.tl | exact h.tl.tl.tl.tl.tl.tl.tl.tl.tl.tl) ?_) all_nil));(focus (rintro y15 hy15;refine okT_many (by kernel_rfl) (all_cons (at_m (i := 3) rfl rfl rfl rfl rfl (by exact ms_ps (by first | exact ps_str_of (l := [UInt8.ofNat k,0,0,0,0]) rfl rfl (rds_row 0 rfl) rfl | exact ps_str_of rfl rfl (by first | exact rds_row 0 rfl | exact rds_row 1 rfl | exact rds_row 2 rfl | exact rds_row 3 rfl | exact rds_row 4 rfl | exact rds_row 5 rfl | exact rds_row 6 rfl | exact rds_row 7 rfl | exact rds_row 8 rfl | exact rds_row 9 rfl | exact rds_row 10 rfl | exact rds_row 11 rfl | exact rds_row 12 rfl | exact rds_row 13 rfl | exact rds_row 14 rfl | exact rds_row 15 rfl | exact rds_row 16 rfl | exact rds_row 17 rfl | exact rds_row 18 rfl | exact rds_row 19 rfl | exact rds_row 20 rfl | exact rds_row 21 rfl | exact rds_row 22 rfl | exact rds_row 23 rfl | exact rds_rf (by assumption) (by first | exact List.mem_cons_self | exact List.mem_cons_of_mem _ List.mem_cons_self | simp)) (by simp))) (fun y w _ h => by first | exact h | exact h.tl | exact h.tl.tl | exact h.tl.tl.tl | exact h.tl.tl.tl.tl | exact h.gtl | exact h.tl.gtl | exact h.sel [0] (by decide) rfl (fun _ h => h) | exact h.tl.tl.tl.tl.tl | exact h.tl.tl.tl.tl.tl.tl | exact h.tl.tl.tl.tl.tl.tl.tl | exact h.tl.tl.tl.tl.tl.tl.tl.tl | exact h.tl.tl.tl.tl.tl.tl.tl.tl.tl | exact h.tl.tl.tl.tl.tl.tl.tl.tl.tl.tl) ?_) (all_cons (at_m (i := 5) rfl rfl rfl rfl rfl (by exact ms_s2 rfl rfl rfl (fun _ _ w hw => i_Fix7 n (by omega) w)) (fun y w _ h => by first | exact h | exact h.tl | exact h.tl.tl | exact h.tl.tl.tl | exact h.tl.tl.tl.tl | exact h.gtl | exact h.tl.gtl | exact h.sel [0] (by decide) rfl (fun _ h => h) | exact h.tl.tl.tl.tl.tl | exact h.tl.tl.tl.tl.tl.tl | exact h.tl.tl.tl.tl.tl.tl.tl | exact h.tl.tl.tl.tl.tl.tl.tl.tl | exact h.tl.tl.tl.tl.tl.tl.tl.tl.tl | exact h.tl.tl.tl.tl.tl.tl.tl.tl.tl.tl) ?_) all_nil));(focus (rintro y16 hy16;refine okT_one (i := 5) rfl rfl (by kernel_rfl) rfl rfl rfl (by exact ms_s2 rfl rfl rfl (fun _ _ w hw => i_Fix7 n (by omega) w)) (fun y w _ h => by first | exact h | exact h.tl | exact h.tl.tl | exact h.tl.tl.tl | exact h.tl.tl.tl.tl | exact h.gtl | exact h.tl.gtl | exact h.sel [0] (by decide) rfl (fun _ h => h) | exact h.tl.tl.tl.tl.tl | exact h.tl.tl.tl.tl.tl.tl | exact h.tl.tl.tl.tl.tl.tl.tl | exact h.tl.tl.tl.tl.tl.tl.tl.tl | exact h.tl.tl.tl.tl.tl.tl.tl.tl.tl | exact h.tl.tl.tl.tl.tl.tl.tl.tl.tl.tl) ?_;rintro y18 hy18;refine okT_take (i := 6) rfl (by kernel_rfl) rfl rfl rfl (by exact ps_sadd rfl rfl rfl (by omega)) ?_;refine okT_take (i := 7) rfl (by kernel_rfl) rfl rfl rfl (ps_assign rfl rfl) ?_;refine okT_done (by kernel_rfl) ?_;refine ok_ne [(4,_)] ⟨rfl,trivial⟩ ?_;exact hk y15 y18));(focus (rintro y18 hy18;refine okT_one (i := 3) rfl rfl (by kernel_rfl) rfl rfl rfl (by exact ms_ps (by first | exact ps_str_of (l := [UInt8.ofNat k,0,0,0,0]) rfl rfl (rds_row 0 rfl) rfl | exact ps_str_of rfl rfl (by first | exact rds_row 0 rfl | exact rds_row 1 rfl | exact rds_row 2 rfl | exact rds_row 3 rfl | exact rds_row 4 rfl | exact rds_row 5 rfl | exact rds_row 6 rfl | exact rds_row 7 rfl | exact rds_row 8 rfl | exact rds_row 9 rfl | exact rds_row 10 rfl | exact rds_row 11 rfl | exact rds_row 12 rfl | exact rds_row 13 rfl | exact rds_row 14 rfl | exact rds_row 15 rfl | exact rds_row 16 rfl | exact rds_row 17 rfl | exact rds_row 18 rfl | exact rds_row 19 rfl | exact rds_row 20 rfl | exact rds_row 21 rfl | exact rds_row 22 rfl | exact rds_row 23 rfl | exact rds_rf (by assumption) (by first | exact List.mem_cons_self | exact List.mem_cons_of_mem _ List.mem_cons_self | simp)) (by simp))) (fun y w _ h => by first | exact h | exact h.tl | exact h.tl.tl | exact h.tl.tl.tl | exact h.tl.tl.tl.tl | exact h.gtl | exact h.tl.gtl | exact h.sel [0] (by decide) rfl (fun _ h => h) | exact h.tl.tl.tl.tl.tl | exact h.tl.tl.tl.tl.tl.tl | exact h.tl.tl.tl.tl.tl.tl.tl | exact h.tl.tl.tl.tl.tl.tl.tl.tl | exact h.tl.tl.tl.tl.tl.tl.tl.tl.tl | exact h.tl.tl.tl.tl.tl.tl.tl.tl.tl.tl) ?_;rintro y16 hy16;refine okT_take (i := 6) rfl (by kernel_rfl) rfl rfl rfl (by exact ps_sadd rfl rfl rfl (by omega)) ?_;refine okT_take (i := 7) rfl (by kernel_rfl) rfl rfl rfl (ps_assign rfl rfl) ?_;refine okT_done (by kernel_rfl) ?_;refine ok_ne [(4,_)] ⟨rfl,trivial⟩ ?_;exact hk y15 y18))));(focus (rintro y18 hy18;refine okT_one (i := 2) rfl rfl (by kernel_rfl) rfl rfl rfl (by exact ms_lit rfl (parts_cons rfl (parts_cons rfl (parts_cons rfl (parts_cons rfl (parts_cons rfl parts_nil))))) rfl rfl rfl) (fun y w _ h => by first | exact h | exact h.tl | exact h.tl.tl | exact h.tl.tl.tl | exact h.tl.tl.tl.tl | exact h.gtl | exact h.tl.gtl | exact h.sel [0] (by decide) rfl (fun _ h => h) | exact h.tl.tl.tl.tl.tl | exact h.tl.tl.tl.tl.tl.tl | exact h.tl.tl.tl.tl.tl.tl.tl | exact h.tl.tl.tl.tl.tl.tl.tl.tl | exact h.tl.tl.tl.tl.tl.tl.tl.tl.tl | exact h.tl.tl.tl.tl.tl.tl.tl.tl.tl.tl) ?_;rintro y15 hy15;refine okT_one (i := 3) rfl rfl (by kernel_rfl) rfl rfl rfl (by exact ms_ps (by first | exact ps_str_of (l := [UInt8.ofNat k,0,0,0,0]) rfl rfl (rds_row 0 rfl) rfl | exact ps_str_of rfl rfl (by first | exact rds_row 0 rfl | exact rds_row 1 rfl | exact rds_row 2 rfl | exact rds_row 3 rfl | exact rds_row 4 rfl | exact rds_row 5 rfl | exact rds_row 6 rfl | exact rds_row 7 rfl | exact rds_row 8 rfl | exact rds_row 9 rfl | exact rds_row 10 rfl | exact rds_row 11 rfl | exact rds_row 12 rfl | exact rds_row 13 rfl | exact rds_row 14 rfl | exact rds_row 15 rfl | exact rds_row 16 rfl | exact rds_row 17 rfl | exact rds_row 18 rfl | exact rds_row 19 rfl | exact rds_row 20 rfl | exact rds_row 21 rfl | exact rds_row 22 rfl | exact rds_row 23 rfl | exact rds_rf (by assumption) (by first | exact List.mem_cons_self | exact List.mem_cons_of_mem _ List.mem_cons_self | simp)) (by simp))) (fun y w _ h => by first | exact h | exact h.tl | exact h.tl.tl | exact h.tl.tl.tl | exact h.tl.tl.tl.tl | exact h.gtl | exact h.tl.gtl | exact h.sel [0] (by decide) rfl (fun _ h => h) | exact h.tl.tl.tl.tl.tl | exact h.tl.tl.tl.tl.tl.tl | exact h.tl.tl.tl.tl.tl.tl.tl | exact h.tl.tl.tl.tl.tl.tl.tl.tl | exact h.tl.tl.tl.tl.tl.tl.tl.tl.tl | exact h.tl.tl.tl.tl.tl.tl.tl.tl.tl.tl) ?_;rintro y16 hy16;refine okT_take (i := 6) rfl (by kernel_rfl) rfl rfl rfl (by exact ps_sadd rfl rfl rfl (by omega)) ?_;refine okT_take (i := 7) rfl (by kernel_rfl) rfl rfl rfl (ps_assign rfl rfl) ?_;refine okT_done (by kernel_rfl) ?_;refine ok_ne [(4,_)] ⟨rfl,trivial⟩ ?_;exact hk y15 y18))));rintro y15 y18))
  · exfalso;omega
  all_goals exact ok_endL (vs := [_]) rfl ⟨rfl,trivial⟩ (fun w' hw => ⟨rfl,hw.below⟩)
theorem s_NonceOf (k n : Nat) (hk : k < 256) (hn : n ≤ 562949953421311) (w : World) : Calls Tryz.prog 191 #[.int .i64 (k : Int),.int .i64 (n : Int)] w fun e w' => e = .returned (.string (nonF k n)) ∧ Below w.heap.size w w' := by
  have hz := f7_size n
  have h1 : (⟨[UInt8.ofNat k,0,0,0,0].toArray⟩ : ByteArray).size = 5 := rfl
  refine ok_enter 20 Tryz.func191 rfl rfl rfl ?_
  repeat' (first
    | refine ok_seq ?_
    | refine ok_then ?_
    | refine ok_then_ret ?_
    | refine ok_then_exit ?_
    | refine ok_block ?_
    | refine ok_in_normal ?_
    | refine ok_in_ret ?_
    | refine ok_in_exit ?_
    | refine ok_in_other rfl ?_
    | (refine ok_cond rfl (fun hc => ?_) (fun hc => ?_) <;> (have hd := hc;(try simp only [jA,jB,jC,jD,jE,jF,jG,jH,jI,jJ,jK,jL,jM,jN,jO,jP,jQ,jR,jS] at hd)))
    | refine ok_ret ?_
    | refine ok_exit ?_
    | refine ok_skip ?_
    | (refine ok_region (i := 0) ?_;refine ok_p rfl rfl rfl (ps_assign rfl rfl) ?_;refine ok_ne [(0,_),(1,_)] ⟨rfl,rfl,trivial⟩ ?_)
    | (refine ok_region (i := 1) ?_;refine ok_p rfl rfl rfl (ps_move rfl rfl) ?_;refine ok_m rfl rfl rfl (by exact ms_s3 rfl rfl rfl rfl (fun _ _ w hw => in_s _ _ _ w)) ?_;rintro y6 hy6;refine ok_p rfl rfl rfl (by exact ps_not rfl rfl) ?_;refine ok_p rfl rfl rfl (ps_move rfl rfl) ?_;refine ok_pg rfl rfl rfl rfl rfl (gF _) (fun hp => by (exact ps_move rfl (by first | (refine og rfl ?_;assumption) | exact rfl))) ?_;refine ok_mg rfl rfl rfl rfl rfl (gF _) (fun hp => by (exact ms_s3 rfl (by first | (refine og rfl ?_;assumption) | exact rfl) rfl rfl (fun _ _ w hw => in_s _ _ _ w))) ?_;refine ok_pg rfl rfl rfl rfl rfl (gF _) (fun hp => by (exact ps_not rfl (by first | (refine og rfl ?_;assumption) | exact rfl))) ?_;refine ok_p rfl rfl rfl (by first | exact ps_or rfl rfl rfl | exact ps_or_in (by assumption) rfl rfl rfl | exact ps_pick_t rfl rfl (by simp_all;done) rfl | exact ps_pick_f rfl rfl (by simp_all;done) rfl) ?_;refine ok_ne [(0,_),(1,_),(12,_)] ⟨rfl,rfl,rfl,trivial⟩ ?_)
    | (refine ok_region (i := 2) ?_;refine ok_p rfl rfl rfl (ps_assign rfl rfl) ?_;refine ok_ne [(4,_)] ⟨rfl,trivial⟩ ?_)
    | (apply mrg2;(focus (intro hk;refine ok_draw (id := 3) 8 rfl (by kernel_rfl) (by kernel_rfl) rfl (by repeat (first | exact pq_body | refine pq_then ?_ | refine pq_in ?_)) [0,1,2,3,4,5,6,7,8,9,10,11,12,13,14,15,16,17,18,19,20,21,22,23] (by decide) rfl ?_;refine okT_take (i := 0) rfl (by kernel_rfl) rfl rfl rfl (ps_move rfl rfl) ?_;refine okT_take (i := 1) rfl (by kernel_rfl) rfl rfl rfl (by first | exact ps_convB rfl rfl | exact ps_conv rfl rfl) ?_;refine okT_take (i := 4) rfl (by kernel_rfl) rfl rfl rfl (ps_move rfl rfl) ?_;refine okT_many (by kernel_rfl) (all_cons (at_m (i := 2) rfl rfl rfl rfl rfl (by exact ms_lit rfl (parts_cons rfl (parts_cons rfl (parts_cons rfl (parts_cons rfl (parts_cons rfl parts_nil))))) rfl rfl rfl) (fun y w _ h => by first | exact h | exact h.tl | exact h.tl.tl | exact h.tl.tl.tl | exact h.tl.tl.tl.tl | exact h.gtl | exact h.tl.gtl | exact h.sel [0] (by decide) rfl (fun _ h => h) | exact h.tl.tl.tl.tl.tl | exact h.tl.tl.tl.tl.tl.tl | exact h.tl.tl.tl.tl.tl.tl.tl | exact h.tl.tl.tl.tl.tl.tl.tl.tl | exact h.tl.tl.tl.tl.tl.tl.tl.tl.tl | exact h.tl.tl.tl.tl.tl.tl.tl.tl.tl.tl) ?_) (all_cons (at_m (i := 5) rfl rfl rfl rfl rfl (by exact ms_s2 rfl rfl rfl (fun _ _ w hw => s_Fix7 n (by omega) w)) (fun y w _ h => by first | exact h | exact h.tl | exact h.tl.tl | exact h.tl.tl.tl | exact h.tl.tl.tl.tl | exact h.gtl | exact h.tl.gtl | exact h.sel [0] (by decide) rfl (fun _ h => h) | exact h.tl.tl.tl.tl.tl | exact h.tl.tl.tl.tl.tl.tl | exact h.tl.tl.tl.tl.tl.tl.tl | exact h.tl.tl.tl.tl.tl.tl.tl.tl | exact h.tl.tl.tl.tl.tl.tl.tl.tl.tl | exact h.tl.tl.tl.tl.tl.tl.tl.tl.tl.tl) ?_) all_nil));(focus (rintro y15 hy15;refine okT_many (by kernel_rfl) (all_cons (at_m (i := 3) rfl rfl rfl rfl rfl (by exact ms_ps (by first | exact ps_str_of (l := [UInt8.ofNat k,0,0,0,0]) rfl rfl (rds_row 0 rfl) rfl | exact ps_str_of rfl rfl (by first | exact rds_row 0 rfl | exact rds_row 1 rfl | exact rds_row 2 rfl | exact rds_row 3 rfl | exact rds_row 4 rfl | exact rds_row 5 rfl | exact rds_row 6 rfl | exact rds_row 7 rfl | exact rds_row 8 rfl | exact rds_row 9 rfl | exact rds_row 10 rfl | exact rds_row 11 rfl | exact rds_row 12 rfl | exact rds_row 13 rfl | exact rds_row 14 rfl | exact rds_row 15 rfl | exact rds_row 16 rfl | exact rds_row 17 rfl | exact rds_row 18 rfl | exact rds_row 19 rfl | exact rds_row 20 rfl | exact rds_row 21 rfl | exact rds_row 22 rfl | exact rds_row 23 rfl | exact rds_rf (by assumption) (by first | exact List.mem_cons_self | exact List.mem_cons_of_mem _ List.mem_cons_self | simp)) (by simp))) (fun y w _ h => by first | exact h | exact h.tl | exact h.tl.tl | exact h.tl.tl.tl | exact h.tl.tl.tl.tl | exact h.gtl | exact h.tl.gtl | exact h.sel [0] (by decide) rfl (fun _ h => h) | exact h.tl.tl.tl.tl.tl | exact h.tl.tl.tl.tl.tl.tl | exact h.tl.tl.tl.tl.tl.tl.tl | exact h.tl.tl.tl.tl.tl.tl.tl.tl | exact h.tl.tl.tl.tl.tl.tl.tl.tl.tl | exact h.tl.tl.tl.tl.tl.tl.tl.tl.tl.tl) ?_) (all_cons (at_m (i := 5) rfl rfl rfl rfl rfl (by exact ms_s2 rfl rfl rfl (fun _ _ w hw => s_Fix7 n (by omega) w)) (fun y w _ h => by first | exact h | exact h.tl | exact h.tl.tl | exact h.tl.tl.tl | exact h.tl.tl.tl.tl | exact h.gtl | exact h.tl.gtl | exact h.sel [0] (by decide) rfl (fun _ h => h) | exact h.tl.tl.tl.tl.tl | exact h.tl.tl.tl.tl.tl.tl | exact h.tl.tl.tl.tl.tl.tl.tl | exact h.tl.tl.tl.tl.tl.tl.tl.tl | exact h.tl.tl.tl.tl.tl.tl.tl.tl.tl | exact h.tl.tl.tl.tl.tl.tl.tl.tl.tl.tl) ?_) all_nil));(focus (rintro y16 hy16;refine okT_one (i := 5) rfl rfl (by kernel_rfl) rfl rfl rfl (by exact ms_s2 rfl rfl rfl (fun _ _ w hw => s_Fix7 n (by omega) w)) (fun y w _ h => by first | exact h | exact h.tl | exact h.tl.tl | exact h.tl.tl.tl | exact h.tl.tl.tl.tl | exact h.gtl | exact h.tl.gtl | exact h.sel [0] (by decide) rfl (fun _ h => h) | exact h.tl.tl.tl.tl.tl | exact h.tl.tl.tl.tl.tl.tl | exact h.tl.tl.tl.tl.tl.tl.tl | exact h.tl.tl.tl.tl.tl.tl.tl.tl | exact h.tl.tl.tl.tl.tl.tl.tl.tl.tl | exact h.tl.tl.tl.tl.tl.tl.tl.tl.tl.tl) ?_;rintro y18 hy18;refine okT_take (i := 6) rfl (by kernel_rfl) rfl rfl rfl (by exact ps_sadd rfl rfl rfl (by omega)) ?_;refine okT_take (i := 7) rfl (by kernel_rfl) rfl rfl rfl (ps_assign rfl rfl) ?_;refine okT_done (by kernel_rfl) ?_;refine ok_ne [(4,_)] ⟨rfl,trivial⟩ ?_;exact hk y15 y18));(focus (rintro y18 hy18;refine okT_one (i := 3) rfl rfl (by kernel_rfl) rfl rfl rfl (by exact ms_ps (by first | exact ps_str_of (l := [UInt8.ofNat k,0,0,0,0]) rfl rfl (rds_row 0 rfl) rfl | exact ps_str_of rfl rfl (by first | exact rds_row 0 rfl | exact rds_row 1 rfl | exact rds_row 2 rfl | exact rds_row 3 rfl | exact rds_row 4 rfl | exact rds_row 5 rfl | exact rds_row 6 rfl | exact rds_row 7 rfl | exact rds_row 8 rfl | exact rds_row 9 rfl | exact rds_row 10 rfl | exact rds_row 11 rfl | exact rds_row 12 rfl | exact rds_row 13 rfl | exact rds_row 14 rfl | exact rds_row 15 rfl | exact rds_row 16 rfl | exact rds_row 17 rfl | exact rds_row 18 rfl | exact rds_row 19 rfl | exact rds_row 20 rfl | exact rds_row 21 rfl | exact rds_row 22 rfl | exact rds_row 23 rfl | exact rds_rf (by assumption) (by first | exact List.mem_cons_self | exact List.mem_cons_of_mem _ List.mem_cons_self | simp)) (by simp))) (fun y w _ h => by first | exact h | exact h.tl | exact h.tl.tl | exact h.tl.tl.tl | exact h.tl.tl.tl.tl | exact h.gtl | exact h.tl.gtl | exact h.sel [0] (by decide) rfl (fun _ h => h) | exact h.tl.tl.tl.tl.tl | exact h.tl.tl.tl.tl.tl.tl | exact h.tl.tl.tl.tl.tl.tl.tl | exact h.tl.tl.tl.tl.tl.tl.tl.tl | exact h.tl.tl.tl.tl.tl.tl.tl.tl.tl | exact h.tl.tl.tl.tl.tl.tl.tl.tl.tl.tl) ?_;rintro y16 hy16;refine okT_take (i := 6) rfl (by kernel_rfl) rfl rfl rfl (by exact ps_sadd rfl rfl rfl (by omega)) ?_;refine okT_take (i := 7) rfl (by kernel_rfl) rfl rfl rfl (ps_assign rfl rfl) ?_;refine okT_done (by kernel_rfl) ?_;refine ok_ne [(4,_)] ⟨rfl,trivial⟩ ?_;exact hk y15 y18))));(focus (rintro y18 hy18;refine okT_one (i := 2) rfl rfl (by kernel_rfl) rfl rfl rfl (by exact ms_lit rfl (parts_cons rfl (parts_cons rfl (parts_cons rfl (parts_cons rfl (parts_cons rfl parts_nil))))) rfl rfl rfl) (fun y w _ h => by first | exact h | exact h.tl | exact h.tl.tl | exact h.tl.tl.tl | exact h.tl.tl.tl.tl | exact h.gtl | exact h.tl.gtl | exact h.sel [0] (by decide) rfl (fun _ h => h) | exact h.tl.tl.tl.tl.tl | exact h.tl.tl.tl.tl.tl.tl | exact h.tl.tl.tl.tl.tl.tl.tl | exact h.tl.tl.tl.tl.tl.tl.tl.tl | exact h.tl.tl.tl.tl.tl.tl.tl.tl.tl | exact h.tl.tl.tl.tl.tl.tl.tl.tl.tl.tl) ?_;rintro y15 hy15;refine okT_one (i := 3) rfl rfl (by kernel_rfl) rfl rfl rfl (by exact ms_ps (by first | exact ps_str_of (l := [UInt8.ofNat k,0,0,0,0]) rfl rfl (rds_row 0 rfl) rfl | exact ps_str_of rfl rfl (by first | exact rds_row 0 rfl | exact rds_row 1 rfl | exact rds_row 2 rfl | exact rds_row 3 rfl | exact rds_row 4 rfl | exact rds_row 5 rfl | exact rds_row 6 rfl | exact rds_row 7 rfl | exact rds_row 8 rfl | exact rds_row 9 rfl | exact rds_row 10 rfl | exact rds_row 11 rfl | exact rds_row 12 rfl | exact rds_row 13 rfl | exact rds_row 14 rfl | exact rds_row 15 rfl | exact rds_row 16 rfl | exact rds_row 17 rfl | exact rds_row 18 rfl | exact rds_row 19 rfl | exact rds_row 20 rfl | exact rds_row 21 rfl | exact rds_row 22 rfl | exact rds_row 23 rfl | exact rds_rf (by assumption) (by first | exact List.mem_cons_self | exact List.mem_cons_of_mem _ List.mem_cons_self | simp)) (by simp))) (fun y w _ h => by first | exact h | exact h.tl | exact h.tl.tl | exact h.tl.tl.tl | exact h.tl.tl.tl.tl | exact h.gtl | exact h.tl.gtl | exact h.sel [0] (by decide) rfl (fun _ h => h) | exact h.tl.tl.tl.tl.tl | exact h.tl.tl.tl.tl.tl.tl | exact h.tl.tl.tl.tl.tl.tl.tl | exact h.tl.tl.tl.tl.tl.tl.tl.tl | exact h.tl.tl.tl.tl.tl.tl.tl.tl.tl | exact h.tl.tl.tl.tl.tl.tl.tl.tl.tl.tl) ?_;rintro y16 hy16;refine okT_take (i := 6) rfl (by kernel_rfl) rfl rfl rfl (by exact ps_sadd rfl rfl rfl (by omega)) ?_;refine okT_take (i := 7) rfl (by kernel_rfl) rfl rfl rfl (ps_assign rfl rfl) ?_;refine okT_done (by kernel_rfl) ?_;refine ok_ne [(4,_)] ⟨rfl,trivial⟩ ?_;exact hk y15 y18))));rintro y15 y18))
  · exfalso;omega
  all_goals exact ok_endL (vs := [_]) rfl ⟨rfl,trivial⟩ (fun w' hw => ⟨rfl,hw.below⟩)
theorem b8_bt (s : ByteArray) (k : Nat) : (b8 s k).toNat = bt s k := rfl
theorem u8_ok (x : UInt8) : kOk .u8 x.toNat := .inr (.inr (.inl ⟨rfl,x.toNat_lt⟩))
theorem u8_okb (s : ByteArray) (k : Nat) : kOk .u8 (bt s k) := .inr (.inr (.inl ⟨rfl,bt_lt' s k⟩))
end Go.Proofs.YtmfojbidojjciaaGreat
/- Streams over texts of any length: both programs compute one plain function. -/
namespace Go.Proofs.YtmfojbidojjciaaGreat
open Go.RowKit
attribute [local irreducible] Calls
/-- What stands when a part is under the stream. -/
def midS (m nonce t : ByteArray) (i : Nat) : List UInt8 := strmL m nonce t i ++ (bl t).drop i
theorem midS_len (m nonce t : ByteArray) (i : Nat) (h : i ≤ t.size) : (midS m nonce t i).length = t.size := by
  simp [midS,strmL_len];omega
theorem midS_get (m nonce t : ByteArray) (i : Nat) (h : i < t.size) : (midS m nonce t i).getD i 0 = b8 t i := by
  unfold midS b8
  rw [List.getD_eq_getElem?_getD,List.getElem?_append_right (by rw [strmL_len];exact Nat.le_refl _),strmL_len,Nat.sub_self,List.getElem?_drop,List.getD_eq_getElem?_getD,Nat.add_zero]
theorem strmL_succ (m nonce t : ByteArray) (i : Nat) : strmL m nonce t (i + 1) = strmL m nonce t i ++ [strmB m nonce t i] := by
  unfold strmL;rw [List.range_succ,List.map_append];rfl
theorem midS_step (m nonce t : ByteArray) (i : Nat) (h : i < t.size) : (midS m nonce t i).set i (strmB m nonce t i) = midS m nonce t (i + 1) := by
  unfold midS
  have hl : i < (bl t).length := by simpa using h
  rw [List.set_append_right _ _ (by rw [strmL_len];exact Nat.le_refl _),strmL_len,Nat.sub_self,List.drop_eq_getElem_cons hl,List.set_cons_zero,strmL_succ,List.append_assoc]
  rfl
theorem midS_zero (m nonce t : ByteArray) : midS m nonce t 0 = bl t := by simp [midS,strmL]
theorem midS_all (m nonce t : ByteArray) : midS m nonce t t.size = strmL m nonce t t.size := by
  unfold midS
  rw [List.drop_of_length_le (by simp),List.append_nil]
theorem strmB_at (m nonce t : ByteArray) (b j : Nat) (hj : j < 64) : strmB m nonce t (64 * b + j) = b8 t (64 * b + j) ^^^ b8 (chaF m (b : Int) nonce) j := by
  unfold strmB
  rw [show (64 * b + j) / 64 = b by omega,show (64 * b + j) % 64 = j by omega]
theorem i_StreamL (m nonce t : ByteArray) (hm : m.size = 32) (hn : nonce.size = 12) (ht : t.size ≤ 4194304) (w : World) :
    Calls Tryz.prog 275 #[.string m,.int .i64 0,.string nonce,.string t] w fun e w' => e = .returned (.string (strmF m nonce t)) ∧ Below w.heap.size w w' := by
  have hch : ∀ b : Nat,b ≤ 65536 → isChaF m (b : Int) nonce = true := fun b hb => isCha_iff.2 ⟨hm,by omega,hn⟩
  have ex : strmF m nonce t = ⟨(midS m nonce t t.size).toArray⟩ := by rw [midS_all];rfl
  rw [ex]
  clear ex
  have HC := Lib.hid hch
  have hz := midS_zero m nonce t
  have hc0 := hch 0 (by omega)
  clear hch
  refine ok_enter 71 Tryz.func275 rfl rfl rfl ?_
  repeat' (first
    | refine ok_seq ?_
    | refine ok_then ?_
    | refine ok_then_ret ?_
    | refine ok_block ?_
    | (refine ok_cond rfl (fun hc => ?_) (fun hc => ?_) <;> (have hd := hc;(try simp only [jA,jB,jC,jD,jE,jF,jG,jH,jI,jJ,jK,jL,jM,jN,jO,jP,jQ,jR,jS] at hd)))
    | refine ok_ret ?_
    | refine ok_skip ?_
    | (refine ok_region (i := 0) ?_;refine ok_p rfl rfl rfl (ps_assign rfl rfl) ?_;refine ok_ne [(0,_),(1,_),(2,_),(3,_)] ⟨rfl,rfl,rfl,rfl,trivial⟩ ?_)
    | (refine ok_region (i := 1) ?_;refine ok_p rfl rfl rfl (ps_move rfl rfl) ?_;refine ok_p rfl rfl rfl (ps_move rfl rfl) ?_;refine ok_p rfl rfl rfl (ps_move rfl rfl) ?_;refine ok_m rfl rfl rfl (by exact ms_s3 rfl rfl rfl rfl (fun _ _ w hw => isCha_c m 0 nonce w)) ?_;rintro y17 hy17;refine ok_p rfl rfl rfl (by exact ps_not rfl rfl) ?_;refine ok_ne [(0,_),(1,_),(2,_),(3,_),(18,_)] ⟨rfl,rfl,rfl,rfl,rfl,trivial⟩ ?_)
    | (refine ok_region (i := 2) ?_;refine ok_p rfl rfl rfl (ps_assign rfl rfl) ?_;refine ok_ne [(8,_)] ⟨rfl,trivial⟩ ?_)
    | (refine ok_region (i := 3) ?_;refine ok_p rfl rfl rfl (ps_move rfl rfl) ?_;refine ok_m rfl rfl rfl (by exact ms_bytes rfl rfl) ?_;rintro y20 hy20;refine ok_p rfl rfl rfl (ps_assign rfl rfl) ?_;refine ok_ne [(0,_),(1,_),(2,_),(9,_)] ⟨rfl,rfl,rfl,rfl,trivial⟩ ?_)
    | (refine ok_region (i := 4) ?_;refine ok_p rfl rfl rfl (ps_move rfl rfl) ?_;refine ok_p rfl rfl rfl (by exact ps_len rfl rfl) ?_;refine ok_p rfl rfl rfl (by exact ps_add rfl rfl rfl (by omega)) ?_;refine ok_p rfl rfl rfl (by exact ps_quo rfl rfl rfl (by omega) (by omega)) ?_;refine ok_p rfl rfl rfl (ps_assign rfl rfl) ?_;refine ok_ne [(0,_),(1,_),(2,_),(9,_),(10,_)] ⟨rfl,rfl,rfl,rfl,rfl,trivial⟩ ?_)
    | (refine ok_region (i := 5) ?_;refine ok_p rfl rfl rfl (ps_move rfl rfl) ?_;refine ok_p rfl rfl rfl (by exact ps_int rfl rfl rfl rfl) ?_;refine ok_p rfl rfl rfl (ps_move rfl rfl) ?_;refine ok_pg rfl rfl rfl rfl rfl (gT _) (fun hp => by exact ps_move rfl rfl) ?_;refine ok_pg rfl rfl rfl rfl rfl (gT _) (fun hp => by exact ps_move rfl rfl) ?_;refine ok_pg rfl rfl rfl rfl rfl (gT _) (fun hp => by (have hpd := hp;(try simp only [jA,jB,jC,jD,jE,jF,jG,jH,jI,jJ,jK,jL,jM,jN,jO,jP,jQ,jR,jS] at hpd);exact ps_add rfl (og rfl (by assumption)) (og rfl (by assumption)) (by omega))) ?_;refine ok_pg rfl rfl rfl rfl rfl (gT _) (fun hp => by (have hpd := hp;(try simp only [jA,jB,jC,jD,jE,jF,jG,jH,jI,jJ,jK,jL,jM,jN,jO,jP,jQ,jR,jS] at hpd);exact ps_sub rfl (og rfl (by assumption)) rfl (by omega))) ?_;refine ok_pg rfl rfl rfl rfl rfl (gT _) (fun hp => by (exact ps_int rfl (og rfl (by assumption)) rfl rfl)) ?_;refine ok_p rfl rfl rfl (by exact ps_and rfl rfl rfl) ?_;refine ok_ne [(0,_),(1,_),(2,_),(9,_),(33,_)] ⟨rfl,rfl,rfl,rfl,rfl,trivial⟩ ?_)
    | (refine ok_region (i := 6) ?_;refine ok_p rfl rfl rfl (ps_assign rfl rfl) ?_;refine ok_ne [(8,_)] ⟨rfl,trivial⟩ ?_)
    | (refine ok_region (i := 7) ?_;refine ok_p rfl rfl rfl (ps_assign rfl rfl) ?_;refine ok_ne [(0,_),(1,_),(2,_),(9,_),(11,_)] ⟨rfl,rfl,rfl,rfl,rfl,trivial⟩ ?_))
  · exfalso;have h' : isChaF m 0 nonce = true := hc0;rw [h'] at hd;cases hd
  · exfalso;omega
  refine ok_loop (ι := { b : Nat // b ≤ (t.size + 63) / 64 }) (fun q => (t.size + 63) / 64 - q.1) (fun q => ([(0,.string m),(1,.int .i64 q.1),(2,.string nonce),(9,.slice (ga (y20 0).c) t.size (y20 1).c),(11,.int .i64 (64 * q.1 : Nat))],[.zrow (y20 0).c 5 (zcs (midS m nonce t (min (64 * q.1) t.size)) (y20 1).c) ((y20 1).c,(y20 1).c + 1)],_)) ⟨0,by omega⟩ (fun a w he hw => ⟨⟨0,by omega⟩,he.sub ⟨rfl,rfl,rfl,rfl,rfl,trivial⟩,by simp only;rw [show min (64 * 0) t.size = 0 by omega,hz];exact hw⟩) ?_
  clear hc hd hc0 hz
  rintro ⟨b,hb⟩
  simp only at hb ⊢
  repeat' (first
    | refine ok_seq ?_
    | refine ok_then ?_
    | refine ok_block ?_
    | (refine ok_cond rfl (fun hc => ?_) (fun hc => ?_) <;> (have hd := hc;(try simp only [jA,jB,jC,jD,jE,jF,jG,jH,jI,jJ,jK,jL,jM,jN,jO,jP,jQ,jR,jS] at hd)))
    | refine ok_ret ?_
    | refine ok_exit ?_
    | refine ok_skip ?_
    | (refine ok_region (i := 8) ?_;refine ok_p rfl rfl rfl (ps_move rfl rfl) ?_;refine ok_p rfl rfl rfl (ps_move rfl rfl) ?_;refine ok_p rfl rfl rfl (by exact ps_len rfl rfl) ?_;refine ok_p rfl rfl rfl (by exact ps_int rfl rfl rfl rfl) ?_;refine ok_ne [(0,_),(1,_),(2,_),(9,_),(11,_),(37,_)] ⟨rfl,rfl,rfl,rfl,rfl,rfl,trivial⟩ ?_)
    | (refine ok_region (i := 10) ?_;refine ok_p rfl rfl rfl (ps_move rfl rfl) ?_;refine ok_p rfl rfl rfl (ps_move rfl rfl) ?_;refine ok_p rfl rfl rfl (ps_move rfl rfl) ?_;refine ok_m rfl rfl rfl (by exact ms_s3 rfl rfl rfl rfl (fun _ _ w hw => i_ChaBlock m nonce (b : Int) w)) ?_;rintro y43 hy43;refine ok_p rfl rfl rfl (ps_assign rfl rfl) ?_;refine ok_ne [(0,_),(1,_),(2,_),(9,_),(11,_),(12,_)] ⟨rfl,rfl,rfl,rfl,rfl,rfl,trivial⟩ ?_)
    | (refine ok_region (i := 11) ?_;refine ok_p rfl rfl rfl (ps_move rfl rfl) ?_;refine ok_p rfl rfl rfl (by exact ps_add rfl rfl rfl (by omega)) ?_;refine ok_p rfl rfl rfl (ps_assign rfl rfl) ?_;refine ok_ne [(0,_),(1,_),(2,_),(9,_),(11,_),(12,_)] ⟨rfl,rfl,rfl,rfl,rfl,rfl,trivial⟩ ?_)
    | (refine ok_region (i := 12) ?_;refine ok_p rfl rfl rfl (ps_assign rfl rfl) ?_;refine ok_ne [(0,_),(1,_),(2,_),(9,_),(11,_),(12,_),(13,_)] ⟨rfl,rfl,rfl,rfl,rfl,rfl,rfl,trivial⟩ ?_)
    | (refine ok_region (i := 16) ?_;refine ok_p rfl rfl rfl (ps_move rfl rfl) ?_;refine ok_p rfl rfl rfl (by exact ps_str_of (l := midS m nonce t t.size) rfl rfl (rds_zcs 0 (by rw [show min (64 * b) t.size = t.size by omega];rfl)) (by rw [midS_len _ _ _ _ (Nat.le_refl _)])) ?_;refine ok_p rfl rfl rfl (ps_assign rfl rfl) ?_;refine ok_ne [(8,_)] ⟨rfl,trivial⟩ ?_))
  · have hB := chaF_size (HC.out b (by omega))
    have e0 : min (64 * b) t.size = 64 * b := by omega
    rw [e0]
    refine ok_loop (ι := { j : Nat // j ≤ 64 ∧ 64 * b + j ≤ t.size }) (fun q => 64 - q.1) (fun q => ([(0,.string m),(1,.int .i64 (b + 1 : Nat)),(2,.string nonce),(9,.slice (ga (y20 0).c) t.size (y20 1).c),(11,.int .i64 (64 * b : Nat)),(12,.string (chaF m b nonce)),(13,.int .i64 q.1)],[.zrow (y20 0).c 5 (zcs (midS m nonce t (64 * b + q.1)) (y20 1).c) ((y20 1).c,(y20 1).c + 1)],_)) ⟨0,by omega,by omega⟩ (fun a w he hw => ⟨⟨0,by omega,by omega⟩,he.sub ⟨rfl,rfl,rfl,rfl,rfl,rfl,rfl,trivial⟩,hw⟩) ?_
    rintro ⟨j,hj,hj2⟩
    simp only at hj hj2 ⊢
    have hl := midS_len m nonce t (64 * b + j) hj2
    repeat' (first
      | refine ok_seq ?_
      | refine ok_then ?_
      | refine ok_then_exit ?_
      | refine ok_block ?_
      | refine ok_in_normal ?_
      | refine ok_in_exit ?_
      | (refine ok_cond rfl (fun hc => ?_) (fun hc => ?_) <;> (have hd := hc;(try simp only [jA,jB,jC,jD,jE,jF,jG,jH,jI,jJ,jK,jL,jM,jN,jO,jP,jQ,jR,jS] at hd)))
      | refine ok_exit ?_
      | refine ok_skip ?_
      | (refine ok_region (i := 9) ?_;refine ok_p rfl rfl rfl (ps_move rfl rfl) ?_;refine ok_p rfl rfl rfl (by exact ps_add rfl rfl rfl (by omega)) ?_;refine ok_p rfl rfl rfl (ps_assign rfl rfl) ?_;refine ok_ne [(0,_),(1,_),(2,_),(9,_),(11,_)] ⟨rfl,rfl,rfl,rfl,rfl,trivial⟩ ?_)
      | (refine ok_region (i := 13) ?_;refine ok_p rfl rfl rfl (ps_move rfl rfl) ?_;refine ok_p rfl rfl rfl (by exact ps_int rfl rfl rfl rfl) ?_;refine ok_p rfl rfl rfl (ps_move rfl rfl) ?_;refine ok_pg rfl rfl rfl rfl rfl (gT _) (fun hp => by exact ps_move rfl rfl) ?_;refine ok_pg rfl rfl rfl rfl rfl (gT _) (fun hp => by exact ps_move rfl rfl) ?_;refine ok_pg rfl rfl rfl rfl rfl (gT _) (fun hp => by (have hpd := hp;(try simp only [jA,jB,jC,jD,jE,jF,jG,jH,jI,jJ,jK,jL,jM,jN,jO,jP,jQ,jR,jS] at hpd);exact ps_add rfl (og rfl (by assumption)) (og rfl (by assumption)) (by omega))) ?_;refine ok_pg rfl rfl rfl rfl rfl (gT _) (fun hp => by exact ps_move rfl rfl) ?_;refine ok_pg rfl rfl rfl rfl rfl (gT _) (fun hp => by (exact ps_len rfl (og rfl (by assumption)))) ?_;refine ok_pg rfl rfl rfl rfl rfl (gT _) (fun hp => by (exact ps_int rfl (og rfl (by assumption)) (og rfl (by assumption)) rfl)) ?_;refine ok_p rfl rfl rfl (by exact ps_and rfl rfl rfl) ?_;refine ok_ne [(0,_),(1,_),(2,_),(9,_),(11,_),(12,_),(13,_),(55,_)] ⟨rfl,rfl,rfl,rfl,rfl,rfl,rfl,rfl,trivial⟩ ?_)
      | (refine ok_region (i := 14) ?_;refine ok_p rfl rfl rfl (ps_move rfl rfl) ?_;refine ok_p rfl rfl rfl (by exact ps_add rfl rfl rfl (by omega)) ?_;refine ok_p rfl rfl rfl (ps_assign rfl rfl) ?_;refine ok_ne [(0,_),(1,_),(2,_),(9,_),(11,_),(12,_),(13,_)] ⟨rfl,rfl,rfl,rfl,rfl,rfl,rfl,trivial⟩ ?_)
      | (refine ok_draw (id := 15) 11 rfl (by kernel_rfl) (by kernel_rfl) rfl (by repeat (first | exact pq_body | refine pq_then ?_ | refine pq_in ?_)) [0,1,2,3,4,5,6,7,8,9,10,11,12,13,14,15,16,17,18,19,20,21,22,23] (by decide) rfl ?_;refine okT_take (i := 0) rfl (by kernel_rfl) rfl rfl rfl (ps_move rfl rfl) ?_;refine okT_take (i := 1) rfl (by kernel_rfl) rfl rfl rfl (ps_move rfl rfl) ?_;refine okT_take (i := 2) rfl (by kernel_rfl) rfl rfl rfl (ps_move rfl rfl) ?_;refine okT_take (i := 3) rfl (by kernel_rfl) rfl rfl rfl (by exact ps_cast (v' := .int .i64 ((64 * b + j : Nat) : Int)) (ps_add rfl rfl rfl (by omega)) (congrArg (Value.int .i64) (by omega))) ?_;refine okT_take (i := 4) rfl (by kernel_rfl) rfl rfl rfl (by exact ps_indexN (i := 64 * b + j) rfl rfl rfl (by omega) (isw_ga _)) ?_;refine okT_take (i := 5) rfl (by kernel_rfl) rfl rfl rfl (by exact ps_loadZ 0 rfl rfl rfl (by omega)) ?_;refine okT_take (i := 6) rfl (by kernel_rfl) rfl rfl rfl (ps_move rfl rfl) ?_;refine okT_take (i := 7) rfl (by kernel_rfl) rfl rfl rfl (ps_move rfl rfl) ?_;refine okT_take (i := 8) rfl (by kernel_rfl) rfl rfl rfl (by exact ps_sidxE j rfl rfl rfl rfl (by omega)) ?_;refine okT_take (i := 9) rfl (by kernel_rfl) rfl rfl rfl (by exact ps_cast (v' := .int .u8 ((strmB m nonce t (64 * b + j)).toNat : Int)) (ps_xorN rfl rfl rfl (u8_ok _) (u8_okb _ _)) (by rw [strmB_at _ _ _ _ _ (by omega),← b8_bt,midS_get _ _ _ _ (by omega),UInt8.toNat_xor])) ?_;refine okT_take (i := 10) rfl (by kernel_rfl) rfl rfl rfl (by exact ps_indexN (i := 64 * b + j) rfl rfl rfl (by omega) (isw_ga _)) ?_;refine okT_done (by kernel_rfl) ?_;refine ok_m_ rfl rfl (by exact ms_setZ 0 rfl rfl rfl rfl (by omega) (by omega)) ?_;rintro y_ hy_;refine ok_ne [(0,_),(1,_),(2,_),(9,_),(11,_),(12,_),(13,_)] ⟨rfl,rfl,rfl,rfl,rfl,rfl,rfl,trivial⟩ ?_))
    · rw [midS_step m nonce t (64 * b + j) (by omega)]
      exact fun a w' he hw => ⟨⟨j + 1,by omega,by omega⟩,by simp only;omega,he.sub ⟨rfl,rfl,rfl,rfl,rfl,rfl,rfl,trivial⟩,hw⟩
    · refine fun a w' he hw => ⟨⟨b + 1,by omega⟩,by simp only;omega,he.sub ⟨rfl,rfl,rfl,rfl,?_,trivial⟩,?_⟩
      · simp only [look];congr 2 <;> omega
      · simp only;rw [show min (64 * (b + 1)) t.size = 64 * b + j by omega];exact hw
  · exact ok_endL (vs := [_]) rfl ⟨rfl,trivial⟩ (fun w' hw => ⟨rfl,hw.below⟩)
structure StmJ (n : Nat) where
  b : Nat
  A : Option Addr
  c : Nat
  hb : b ≤ (n + 63) / 64
structure StmK (n b : Nat) where
  j : Nat
  A : Option Addr
  c : Nat
  hj : j ≤ 64 ∧ 64 * b + j ≤ n
theorem s_StreamL (m nonce t : ByteArray) (hm : m.size = 32) (hn : nonce.size = 12) (ht : t.size ≤ 4194304) (w : World) :
    Calls Tryz.prog 200 #[.string m,.int .i64 0,.string nonce,.string t] w fun e w' => e = .returned (.string (strmF m nonce t)) ∧ Below w.heap.size w w' := by
  have hch : ∀ b : Nat,b ≤ 65536 → sEq (chaF m (b : Int) nonce) ⟨#[]⟩ = false := fun b hb => by
    have hB := chaF_size (isCha_iff.2 ⟨hm,by omega,hn⟩ : isChaF m (b : Int) nonce = true)
    cases h : sEq (chaF m (b : Int) nonce) ⟨#[]⟩
    · rfl
    · rw [sEq_t h] at hB;exact absurd hB (by decide)
  have hsz : ∀ b : Nat,b ≤ 65536 → (chaF m (b : Int) nonce).size = 64 := fun b hb => chaF_size (isCha_iff.2 ⟨hm,by omega,hn⟩)
  have ex : strmF m nonce t = ⟨(strmL m nonce t t.size).toArray⟩ := rfl
  rw [ex]
  clear ex
  have HC := Lib.hid hch
  have HS := Lib.hid hsz;clear hsz
  have hc0 : sEq (chaF m 0 nonce) ⟨#[]⟩ = false := hch 0 (by omega)
  clear hch
  refine ok_enter 61 Tryz.func200 rfl rfl rfl ?_
  repeat' (first
    | refine ok_seq ?_
    | refine ok_then ?_
    | refine ok_then_ret ?_
    | refine ok_block ?_
    | (refine ok_cond rfl (fun hc => ?_) (fun hc => ?_) <;> (have hd := hc;(try simp only [jA,jB,jC,jD,jE,jF,jG,jH,jI,jJ,jK,jL,jM,jN,jO,jP,jQ,jR,jS] at hd)))
    | refine ok_ret ?_
    | refine ok_skip ?_
    | (refine ok_region (i := 0) ?_;refine ok_p rfl rfl rfl (ps_assign rfl rfl) ?_;refine ok_ne [(0,_),(1,_),(2,_),(3,_)] ⟨rfl,rfl,rfl,rfl,trivial⟩ ?_)
    | (refine ok_region (i := 1) ?_;refine ok_m rfl rfl rfl (by exact ms_lit rfl parts_nil rfl rfl rfl) ?_;rintro y13 hy13;refine ok_p rfl rfl rfl (ps_assign rfl rfl) ?_;refine ok_ne [(0,_),(1,_),(2,_),(3,_),(9,_)] ⟨rfl,rfl,rfl,rfl,rfl,trivial⟩ ?_)
    | (refine ok_region (i := 2) ?_;refine ok_p rfl rfl rfl (ps_move rfl rfl) ?_;refine ok_p rfl rfl rfl (ps_move rfl rfl) ?_;refine ok_p rfl rfl rfl (ps_move rfl rfl) ?_;refine ok_m rfl rfl rfl (by exact ms_s3 rfl rfl rfl rfl (fun _ _ w hw => s_ChaBlock m nonce 0 w)) ?_;rintro y17 hy17;refine ok_p rfl rfl rfl (by exact ps_str rfl rfl rfl rfl) ?_;refine ok_ne [(0,_),(1,_),(2,_),(3,_),(9,_),(18,_)] ⟨rfl,rfl,rfl,rfl,rfl,rfl,trivial⟩ ?_)
    | (refine ok_region (i := 3) ?_;refine ok_p rfl rfl rfl (ps_assign rfl rfl) ?_;refine ok_ne [(8,_)] ⟨rfl,trivial⟩ ?_)
    | (refine ok_region (i := 4) ?_;refine ok_p rfl rfl rfl (ps_assign rfl rfl) ?_;refine ok_ne [(0,_),(1,_),(2,_),(3,_),(9,_),(10,_)] ⟨rfl,rfl,rfl,rfl,rfl,rfl,trivial⟩ ?_))
  · exfalso;rw [hc0] at hd;cases hd
  refine ok_loop (ι := StmJ t.size) (fun q => (t.size + 63) / 64 - q.b) (fun q => ([(0,.string m),(1,.int .i64 0),(2,.string nonce),(3,.string t),(9,.slice q.A (min (64 * q.b) t.size) q.c),(10,.int .i64 (64 * q.b : Nat))],[.row 5 1 q.A (min (64 * q.b) t.size) q.c (byteVs (strmL m nonce t (min (64 * q.b) t.size)))],_)) ⟨0,ga (y13 0).c,0,by omega⟩ (fun a w he hw => ⟨⟨0,ga (y13 0).c,0,by omega⟩,he.sub ⟨rfl,rfl,rfl,rfl,by simp [look],rfl,trivial⟩,by simp only;rw [show min (64 * 0) t.size = 0 by omega];exact hw⟩) ?_
  clear hc hd hc0
  rintro ⟨b,A,c,hb⟩
  simp only at hb ⊢
  have hcb := HC.out b
  repeat' (first
    | refine ok_seq ?_
    | refine ok_then ?_
    | refine ok_then_ret ?_
    | refine ok_block ?_
    | refine ok_in_ret ?_
    | (refine ok_cond rfl (fun hc => ?_) (fun hc => ?_) <;> (have hd := hc;(try simp only [jA,jB,jC,jD,jE,jF,jG,jH,jI,jJ,jK,jL,jM,jN,jO,jP,jQ,jR,jS] at hd)))
    | refine ok_ret ?_
    | refine ok_exit ?_
    | refine ok_skip ?_
    | (refine ok_region (i := 5) ?_;refine ok_p rfl rfl rfl (ps_move rfl rfl) ?_;refine ok_p rfl rfl rfl (ps_move rfl rfl) ?_;refine ok_p rfl rfl rfl (by exact ps_slen rfl rfl) ?_;refine ok_p rfl rfl rfl (by exact ps_int rfl rfl rfl rfl) ?_;refine ok_ne [(0,_),(1,_),(2,_),(3,_),(9,_),(10,_),(22,_)] ⟨rfl,rfl,rfl,rfl,rfl,rfl,rfl,trivial⟩ ?_)
    | (refine ok_region (i := 7) ?_;refine ok_p rfl rfl rfl (ps_move rfl rfl) ?_;refine ok_p rfl rfl rfl (ps_move rfl rfl) ?_;refine ok_p rfl rfl rfl (ps_move rfl rfl) ?_;refine ok_p rfl rfl rfl (by exact ps_cast (v' := .int .i64 (b : Int)) (ps_quo rfl rfl rfl (by omega) (by omega)) (congrArg (Value.int .i64) (by omega))) ?_;refine ok_p rfl rfl rfl (by exact ps_cast (v' := .int .i64 (b : Int)) (ps_add rfl rfl rfl (by omega)) (congrArg (Value.int .i64) (by omega))) ?_;refine ok_p rfl rfl rfl (ps_move rfl rfl) ?_;refine ok_m rfl rfl rfl (by exact ms_s3 rfl rfl rfl rfl (fun _ _ w hw => s_ChaBlock m nonce (b : Int) w)) ?_;rintro y31 hy31;refine ok_p rfl rfl rfl (ps_assign rfl rfl) ?_;refine ok_ne [(0,_),(1,_),(2,_),(3,_),(9,_),(10,_),(11,_)] ⟨rfl,rfl,rfl,rfl,rfl,rfl,rfl,trivial⟩ ?_)
    | (refine ok_region (i := 8) ?_;refine ok_p rfl rfl rfl (ps_move rfl rfl) ?_;refine ok_p rfl rfl rfl (by exact ps_str rfl rfl rfl rfl) ?_;refine ok_ne [(0,_),(1,_),(2,_),(3,_),(9,_),(10,_),(11,_),(33,_)] ⟨rfl,rfl,rfl,rfl,rfl,rfl,rfl,rfl,trivial⟩ ?_)
    | (refine ok_region (i := 9) ?_;refine ok_p rfl rfl rfl (ps_assign rfl rfl) ?_;refine ok_ne [(8,_)] ⟨rfl,trivial⟩ ?_)
    | (refine ok_region (i := 10) ?_;refine ok_p rfl rfl rfl (ps_move rfl rfl) ?_;refine ok_p rfl rfl rfl (ps_assign rfl rfl) ?_;refine ok_ne [(0,_),(1,_),(2,_),(3,_),(9,_),(10,_),(11,_),(12,_)] ⟨rfl,rfl,rfl,rfl,rfl,rfl,rfl,rfl,trivial⟩ ?_)
    | (refine ok_region (i := 14) ?_;refine ok_p rfl rfl rfl (ps_move rfl rfl) ?_;refine ok_p rfl rfl rfl (by exact ps_str_of (l := strmL m nonce t (min (64 * b) t.size)) rfl rfl (rds_row 0 rfl) (by rw [strmL_len])) ?_;refine ok_p rfl rfl rfl (ps_assign rfl rfl) ?_;refine ok_ne [(8,_)] ⟨rfl,trivial⟩ ?_))
  · exfalso;rw [hcb (by omega)] at hd;cases hd
  · have hB := HS.out b (by omega)
    have e0 : min (64 * b) t.size = 64 * b := by omega
    rw [e0]
    clear hcb
    refine ok_loop (ι := StmK t.size b) (fun q => 64 - q.j) (fun q => ([(0,.string m),(1,.int .i64 0),(2,.string nonce),(3,.string t),(9,.slice q.A (64 * b + q.j) q.c),(10,.int .i64 (64 * b : Nat)),(11,.string (chaF m b nonce)),(12,.int .i64 (64 * b + q.j : Nat))],[.row 5 1 q.A (64 * b + q.j) q.c (byteVs (strmL m nonce t (64 * b + q.j)))],_)) ⟨0,A,c,by omega⟩ (fun a w he hw => ⟨⟨0,A,c,by omega⟩,he.sub ⟨rfl,rfl,rfl,rfl,rfl,rfl,rfl,rfl,trivial⟩,hw⟩) ?_
    rintro ⟨j,A2,c2,hj⟩
    simp only at hj ⊢
    repeat' (first
      | refine ok_seq ?_
      | refine ok_then ?_
      | refine ok_then_exit ?_
      | refine ok_block ?_
      | refine ok_in_normal ?_
      | refine ok_in_exit ?_
      | (refine ok_cond rfl (fun hc => ?_) (fun hc => ?_) <;> (have hd := hc;(try simp only [jA,jB,jC,jD,jE,jF,jG,jH,jI,jJ,jK,jL,jM,jN,jO,jP,jQ,jR,jS] at hd)))
      | refine ok_exit ?_
      | refine ok_skip ?_
      | (refine ok_region (i := 6) ?_;refine ok_p rfl rfl rfl (ps_move rfl rfl) ?_;refine ok_p rfl rfl rfl (by exact ps_add rfl rfl rfl (by omega)) ?_;refine ok_p rfl rfl rfl (ps_assign rfl rfl) ?_;refine ok_ne [(0,_),(1,_),(2,_),(3,_),(9,_),(10,_)] ⟨rfl,rfl,rfl,rfl,rfl,rfl,trivial⟩ ?_)
      | (refine ok_region (i := 11) ?_;refine ok_p rfl rfl rfl (ps_move rfl rfl) ?_;refine ok_p rfl rfl rfl (ps_move rfl rfl) ?_;refine ok_p rfl rfl rfl (by exact ps_slen rfl rfl) ?_;refine ok_p rfl rfl rfl (by exact ps_int rfl rfl rfl rfl) ?_;refine ok_p rfl rfl rfl (ps_move rfl rfl) ?_;refine ok_pg rfl rfl rfl rfl rfl (gT _) (fun hp => by exact ps_move rfl rfl) ?_;refine ok_pg rfl rfl rfl rfl rfl (gT _) (fun hp => by exact ps_move rfl rfl) ?_;refine ok_pg rfl rfl rfl rfl rfl (gT _) (fun hp => by (have hpd := hp;(try simp only [jA,jB,jC,jD,jE,jF,jG,jH,jI,jJ,jK,jL,jM,jN,jO,jP,jQ,jR,jS] at hpd);exact ps_add rfl (og rfl (by assumption)) rfl (by omega))) ?_;refine ok_pg rfl rfl rfl rfl rfl (gT _) (fun hp => by (exact ps_int rfl (og rfl (by assumption)) (og rfl (by assumption)) rfl)) ?_;refine ok_p rfl rfl rfl (by exact ps_and rfl rfl rfl) ?_;refine ok_ne [(0,_),(1,_),(2,_),(3,_),(9,_),(10,_),(11,_),(12,_),(44,_)] ⟨rfl,rfl,rfl,rfl,rfl,rfl,rfl,rfl,rfl,trivial⟩ ?_)
      | (refine ok_region (i := 12) ?_;refine ok_p rfl rfl rfl (ps_move rfl rfl) ?_;refine ok_p rfl rfl rfl (by exact ps_add rfl rfl rfl (by omega)) ?_;refine ok_p rfl rfl rfl (ps_assign rfl rfl) ?_;refine ok_ne [(0,_),(1,_),(2,_),(3,_),(9,_),(10,_),(11,_),(12,_)] ⟨rfl,rfl,rfl,rfl,rfl,rfl,rfl,rfl,trivial⟩ ?_)
      | (refine ok_draw (id := 13) 13 rfl (by kernel_rfl) (by kernel_rfl) rfl (by repeat (first | exact pq_body | refine pq_then ?_ | refine pq_in ?_)) [] (by decide) rfl ?_;refine okT_take (i := 0) rfl (by kernel_rfl) rfl rfl rfl (ps_move rfl rfl) ?_;refine okT_take (i := 1) rfl (by kernel_rfl) rfl rfl rfl (ps_move rfl rfl) ?_;refine okT_take (i := 2) rfl (by kernel_rfl) rfl rfl rfl (ps_move rfl rfl) ?_;refine okT_take (i := 3) rfl (by kernel_rfl) rfl rfl rfl (by exact ps_sidxE (64 * b + j) rfl rfl rfl rfl (by omega)) ?_;refine okT_take (i := 4) rfl (by kernel_rfl) rfl rfl rfl (ps_move rfl rfl) ?_;refine okT_take (i := 5) rfl (by kernel_rfl) rfl rfl rfl (ps_move rfl rfl) ?_;refine okT_take (i := 6) rfl (by kernel_rfl) rfl rfl rfl (ps_move rfl rfl) ?_;refine okT_take (i := 7) rfl (by kernel_rfl) rfl rfl rfl (by exact ps_cast (v' := .int .i64 (j : Int)) (ps_sub rfl rfl rfl (by omega)) (congrArg (Value.int .i64) (by omega))) ?_;refine okT_take (i := 8) rfl (by kernel_rfl) rfl rfl rfl (by exact ps_sidxE j rfl rfl rfl rfl (by omega)) ?_;refine okT_take (i := 9) rfl (by kernel_rfl) rfl rfl rfl (by exact ps_cast (v' := .int .u8 ((strmB m nonce t (64 * b + j)).toNat : Int)) (ps_xorN rfl rfl rfl (u8_okb _ _) (u8_okb _ _)) (by rw [strmB_at _ _ _ _ _ (by omega),← b8_bt,← b8_bt,UInt8.toNat_xor])) ?_;refine okT_one (i := 10) rfl rfl (by kernel_rfl) rfl rfl rfl (by exact ms_lit rfl (parts_cons rfl parts_nil) rfl rfl rfl) (fun y w _ h => by exact h.sel [] (by decide) rfl (fun _ h => h)) ?_;rintro y57 hy57;refine okT_one (i := 11) rfl rfl (by kernel_rfl) rfl rfl rfl (by exact ms_app (m := 1) 1 rfl rfl rfl rfl (rds_row 0 rfl) rfl (one1 rfl) (by omega) (by omega)) (fun y w _ h => by exact h.sel [] (by decide) rfl (fun _ h => h)) ?_;rintro y58 hy58;refine okT_take (i := 12) rfl (by kernel_rfl) rfl rfl rfl (ps_assign rfl rfl) ?_;refine okT_done (by kernel_rfl) ?_;refine ok_ne [(0,_),(1,_),(2,_),(3,_),(9,_),(10,_),(11,_),(12,_)] ⟨rfl,rfl,rfl,rfl,rfl,rfl,rfl,rfl,trivial⟩ ?_))
    · exact fun a w' he hw => ⟨⟨j + 1,(y58 0).A,(y58 0).c,by omega⟩,by simp only;omega,he.sub ⟨rfl,rfl,rfl,rfl,rfl,rfl,rfl,rfl,trivial⟩,by simp only;rw [show 64 * b + (j + 1) = (64 * b + j) + 1 from rfl,strmL_succ,bvs1];exact hw.tl⟩
    · refine fun a w' he hw => ⟨⟨b + 1,A2,c2,by omega⟩,by simp only;omega,he.sub ⟨rfl,rfl,rfl,rfl,?_,?_,trivial⟩,?_⟩
      · simp only [look];congr 2 <;> omega
      · simp only [look];congr 2 <;> omega
      · simp only;rw [show min (64 * (b + 1)) t.size = 64 * b + j by omega];exact hw
  · rw [show min (64 * b) t.size = t.size by omega]
    exact ok_endL (vs := [_]) rfl ⟨rfl,trivial⟩ (fun w' hw => ⟨rfl,hw.below⟩)
end Go.Proofs.YtmfojbidojjciaaGreat
/- Pieces taken and read: small facts. -/
namespace Go.Proofs.YtmfojbidojjciaaGreat
theorem tkE_le (s : ByteArray) (z : Int) : -1 ≤ tkE (tkW s z) ∧ tkE (tkW s z) ≤ s.size := by
  unfold tkW
  split
  · cases h : tkS s z.toNat with
    | none => simp only [tkE];omega
    | some p => obtain ⟨r,e⟩ := p;have := tkS_some h;simp only [tkE];omega
  · simp only [tkE];omega
theorem tkW_nat {s : ByteArray} {k : Nat} (h : k ≤ s.size) : tkW s (k : Int) = tkS s k := by
  unfold tkW;rw [if_pos ⟨by omega,by omega⟩,Int.toNat_natCast]
theorem tkV_nat {s : ByteArray} {k : Nat} (h : k ≤ s.size) : tkV s (k : Int) = tkN s k := by
  unfold tkV;rw [if_pos ⟨by omega,by omega⟩,Int.toNat_natCast]
theorem tkW_neg {s : ByteArray} : tkE (tkW s (-1)) = -1 := by unfold tkW;rw [if_neg (by omega)];rfl
theorem rdN_or (s : ByteArray) (k : Nat) : (tkN s k = none ∧ rdN s k false = (0,k,true)) ∨ ∃ n e,tkN s k = some (n,e) ∧ rdN s k false = (n,e,false) := by
  unfold rdN
  rw [if_neg (by simp)]
  cases h : tkN s k with
  | none => exact .inl ⟨rfl,rfl⟩
  | some p => obtain ⟨n,e⟩ := p;exact .inr ⟨n,e,rfl,rfl⟩
theorem rdS_or (s : ByteArray) (k : Nat) : (tkS s k = none ∧ (rdS s k false).2.2 = true) ∨ ∃ r e,tkS s k = some (r,e) ∧ rdS s k false = (r,e,false) := by
  have h := rdS_tk s k
  cases h1 : tkS s k with
  | none => exact .inl ⟨rfl,by rw [h.1,h1];rfl⟩
  | some p => obtain ⟨r,e⟩ := p;exact .inr ⟨r,e,rfl,h.2 r e h1⟩
end Go.Proofs.YtmfojbidojjciaaGreat
/- Batches read and opened by both programs. -/
namespace Go.Proofs.YtmfojbidojjciaaGreat
open Go.RowKit
attribute [local irreducible] Calls
theorem op_no1 {s : ByteArray} {p : Nat} (h1 : bt s p = 1) (hp : p < s.size) (h : tkE (tkW s ((p : Int) + 1)) < 0) : pOp s p = none := by
  unfold pOp
  rw [show (p : Int) + 1 = ((p + 1 : Nat) : Int) by omega,tkW_nat (by omega)] at h
  rw [if_pos hp]
  cases h2 : tkS s (p + 1) with
  | none => rfl
  | some q => rw [h2] at h;simp only [tkE] at h;omega
theorem op_yes1 {s : ByteArray} {p : Nat} (h1 : bt s p = 1) (hp : p < s.size) (h : ¬ tkE (tkW s ((p : Int) + 1)) < 0) : ∃ e : Nat,tkE (tkW s ((p : Int) + 1)) = e ∧ p + 1 < e ∧ e ≤ s.size ∧ pOp s p = some (⟨tkT (tkW s ((p : Int) + 1)),true,⟨#[]⟩⟩,e) := by
  unfold pOp
  rw [show (p : Int) + 1 = ((p + 1 : Nat) : Int) by omega,tkW_nat (by omega)] at h ⊢
  rw [if_pos hp]
  cases h2 : tkS s (p + 1) with
  | none => rw [h2] at h;exact absurd (show (-1 : Int) < 0 by decide) h
  | some q =>
    obtain ⟨r,e⟩ := q
    have h3 := tkS_some h2
    exact ⟨e,rfl,by omega,h3.2.1,by simp only [Option.bind_some];rw [if_pos h1];rfl⟩
theorem op_no2 {s : ByteArray} {p : Nat} (h1 : bt s p ≠ 1) (hp : p < s.size) (h : tkE (tkW s (tkE (tkW s ((p : Int) + 1)))) < 0) : pOp s p = none := by
  unfold pOp
  rw [show (p : Int) + 1 = ((p + 1 : Nat) : Int) by omega,tkW_nat (by omega)] at h
  rw [if_pos hp]
  cases h2 : tkS s (p + 1) with
  | none => rfl
  | some q =>
    obtain ⟨r,e⟩ := q
    have h3 := tkS_some h2
    rw [h2] at h
    simp only [tkE] at h
    rw [tkW_nat h3.2.1] at h
    simp only [Option.bind_some]
    rw [if_neg h1]
    cases h4 : tkS s e with
    | none => rfl
    | some q => rw [h4] at h;simp only [tkE] at h;omega
theorem op_yes2 {s : ByteArray} {p : Nat} (h1 : bt s p ≠ 1) (hp : p < s.size) (h : ¬ tkE (tkW s (tkE (tkW s ((p : Int) + 1)))) < 0) : ∃ e : Nat,tkE (tkW s (tkE (tkW s ((p : Int) + 1)))) = e ∧ p + 1 < e ∧ e ≤ s.size ∧ pOp s p = some (⟨tkT (tkW s ((p : Int) + 1)),false,tkT (tkW s (tkE (tkW s ((p : Int) + 1))))⟩,e) := by
  unfold pOp
  rw [show (p : Int) + 1 = ((p + 1 : Nat) : Int) by omega,tkW_nat (by omega)] at h ⊢
  rw [if_pos hp]
  cases h2 : tkS s (p + 1) with
  | none => rw [h2] at h;exact absurd (show tkE (tkW s (-1)) < 0 by rw [tkW_neg];decide) h
  | some q =>
    obtain ⟨r,e⟩ := q
    have h3 := tkS_some h2
    rw [h2] at h
    simp only [tkE] at h ⊢
    rw [tkW_nat h3.2.1] at h ⊢
    simp only [Option.bind_some]
    rw [if_neg h1]
    cases h4 : tkS s e with
    | none => rw [h4] at h;exact absurd (show (-1 : Int) < 0 by decide) h
    | some q =>
      obtain ⟨t,b⟩ := q
      have h5 := tkS_some h4
      exact ⟨b,rfl,by omega,h5.2.1,rfl⟩
structure RbA (s : ByteArray) (n : Nat) where
  i : Nat
  k : Nat
  L : List Opp
  A : Option Addr
  c : Nat
  hi : i ≤ n ∧ L.length = i
  hk : k ≤ s.size
  ok : pOps s (n - i) k L = pB s
theorem rb_no {s : ByteArray} (h : pB s = none) : fReadBatch s = ([],false) := by unfold fReadBatch;rw [h]
theorem pOps_no {s : ByteArray} {n k : Nat} {L : List Opp} (h : pOp s k = none) : pOps s (n + 1) k L = none := by unfold pOps;rw [h];rfl
theorem pOps_yes {s : ByteArray} {n k e : Nat} {L : List Opp} {o : Opp} (h : pOp s k = some (o,e)) : pOps s (n + 1) k L = pOps s n e (L ++ [o]) := by rw [pOps,h];rfl
theorem s_ReadBatch (s : ByteArray) (w : World) (hs : s.size ≤ 4194304) :
    Calls Tryz.prog 199 #[.string s] w fun e w' => ∃ y : Ys,e = .returned (.tuple #[.slice (y 0).A (fReadBatch s).1.length (y 0).c,.bool (fReadBatch s).2]) ∧ True ∧ Below w.heap.size w w' ∧ NewOk w.heap.size [.row 76 3 (y 0).A (fReadBatch s).1.length (y 0).c (fl (fReadBatch s).1)] [] w' := by
  have v0 : tkV s 0 = tkN s 0 := tkV_nat (k := 0) (Nat.zero_le _)
  cases h0 : tkN s 0 with
  | none =>
    have eB : pB s = none := by unfold pB;rw [h0];rfl
    rw [rb_no eB]
    refine ok_enter 80 Tryz.func199 rfl rfl rfl ?_
    repeat' (first
      | refine ok_seq ?_
      | refine ok_then ?_
      | refine ok_then_ret ?_
      | refine ok_block ?_
      | (refine ok_cond rfl (fun hc => ?_) (fun hc => ?_) <;> (have hd := hc;(try simp only [jA,jB,jC,jD,jE,jF,jG,jH,jI,jJ,jK,jL,jM,jN,jO,jP,jQ,jR,jS] at hd)))
      | refine ok_ret ?_
      | refine ok_skip ?_
      | (refine ok_region (i := 0) ?_;refine ok_p rfl rfl rfl (ps_assign rfl rfl) ?_;refine ok_p rfl rfl rfl (ps_assign rfl rfl) ?_;refine ok_ne [(0,_)] ⟨rfl,trivial⟩ ?_)
      | (refine ok_region (i := 1) ?_;refine ok_m rfl rfl rfl (by exact ms_lit rfl parts_nil rfl rfl rfl) ?_;rintro y12 hy12;refine ok_p rfl rfl rfl (ps_assign rfl rfl) ?_;refine ok_ne [(0,_),(4,_)] ⟨rfl,rfl,trivial⟩ ?_)
      | (refine ok_region (i := 2) ?_;refine ok_p rfl rfl rfl (ps_move rfl rfl) ?_;refine ok_m rfl rfl rfl (by exact ms_c3 rfl rfl rfl rfl (fun _ _ w hw => s_l6Vars_no s 0 (by omega) (by omega) (v0.trans h0) w)) ?_;rintro y15 hy15;refine ok_p rfl rfl rfl (ps_move rfl rfl) ?_;refine ok_p rfl rfl rfl (by exact ps_extract rfl rfl rfl) ?_;refine ok_p rfl rfl rfl (by exact ps_extract rfl rfl rfl) ?_;refine ok_p rfl rfl rfl (ps_assign rfl rfl) ?_;refine ok_p rfl rfl rfl (ps_assign rfl rfl) ?_;refine ok_ne [(0,_),(4,_),(5,_),(6,_)] ⟨rfl,rfl,rfl,rfl,trivial⟩ ?_)
      | (refine ok_region (i := 3) ?_;refine ok_p rfl rfl rfl (ps_move rfl rfl) ?_;refine ok_p rfl rfl rfl (by exact ps_int rfl rfl rfl rfl) ?_;refine ok_p rfl rfl rfl (ps_move rfl rfl) ?_;refine ok_pg rfl rfl rfl rfl rfl (gF _) (fun hp => by exact ps_move rfl rfl) ?_;refine ok_pg rfl rfl rfl rfl rfl (gF _) (fun hp => by (have hpd := hp;(try simp only [jA,jB,jC,jD,jE,jF,jG,jH,jI,jJ,jK,jL,jM,jN,jO,jP,jQ,jR,jS] at hpd);exact ps_indexN rfl (og rfl (by assumption)) rfl (by omega) (by exact isw_row 0 rfl (by omega)))) ?_;refine ok_pg rfl rfl rfl rfl rfl (gF _) (fun hp => by (have hpd := hp;(try simp only [jA,jB,jC,jD,jE,jF,jG,jH,jI,jJ,jK,jL,jM,jN,jO,jP,jQ,jR,jS] at hpd);exact ps_load rfl (og rfl (by assumption)) (by exact Rds.cell (rds_row 0 rfl) (by exact fl_at0 _ _ (by omega) (by decide))))) ?_;refine ok_pg rfl rfl rfl rfl rfl (gF _) (fun hp => by (exact ps_int rfl (og rfl (by assumption)) rfl rfl)) ?_;refine ok_p rfl rfl rfl (by exact ps_or rfl rfl rfl) ?_;refine ok_ne [(0,_),(4,_),(5,_),(6,_),(25,_)] ⟨rfl,rfl,rfl,rfl,rfl,trivial⟩ ?_)
      | (refine ok_region (i := 4) ?_;refine ok_p rfl rfl rfl (ps_move rfl rfl) ?_;refine ok_p rfl rfl rfl (ps_assign rfl rfl) ?_;refine ok_p rfl rfl rfl (ps_assign rfl rfl) ?_;refine ok_ne [(2,_),(3,_)] ⟨rfl,rfl,trivial⟩ ?_)
      | (refine ok_region (i := 5) ?_;refine ok_p rfl rfl rfl (ps_assign rfl rfl) ?_;refine ok_ne [(0,_),(4,_),(5,_),(6,_),(7,_)] ⟨rfl,rfl,rfl,rfl,rfl,trivial⟩ ?_))
    · exact ok_endL (vs := [_,_]) rfl ⟨rfl,rfl,trivial⟩ (fun w' hw => ⟨mkY (ga (y12 0).c) 0 w',rfl,trivial,hw.below,NewOk.of (hw.sel [1] (by decide) rfl (G' := []) (fun _ h => by cases h))⟩)
    · exfalso;omega
  | some p =>
    obtain ⟨n,a⟩ := p
    have hn := tkN_some h0
    obtain ⟨LN,hLN⟩ : ∃ L,L = [(n : Int)] := ⟨_,rfl⟩
    have hLN1 : LN.length = 1 := by rw [hLN];rfl
    have hLN2 : nth LN (Int.toNat 0) = n := by rw [hLN];rfl
    refine ok_enter 80 Tryz.func199 rfl rfl rfl ?_
    repeat' (first
      | refine ok_seq ?_
      | refine ok_then ?_
      | refine ok_then_ret ?_
      | refine ok_block ?_
      | (refine ok_cond rfl (fun hc => ?_) (fun hc => ?_) <;> (have hd := hc;(try simp only [jA,jB,jC,jD,jE,jF,jG,jH,jI,jJ,jK,jL,jM,jN,jO,jP,jQ,jR,jS] at hd)))
      | refine ok_ret ?_
      | refine ok_skip ?_
      | (refine ok_region (i := 0) ?_;refine ok_p rfl rfl rfl (ps_assign rfl rfl) ?_;refine ok_p rfl rfl rfl (ps_assign rfl rfl) ?_;refine ok_ne [(0,_)] ⟨rfl,trivial⟩ ?_)
      | (refine ok_region (i := 1) ?_;refine ok_m rfl rfl rfl (by exact ms_lit rfl parts_nil rfl rfl rfl) ?_;rintro y12 hy12;refine ok_p rfl rfl rfl (ps_assign rfl rfl) ?_;refine ok_ne [(0,_),(4,_)] ⟨rfl,rfl,trivial⟩ ?_)
      | (refine ok_region (i := 2) ?_;refine ok_p rfl rfl rfl (ps_move rfl rfl) ?_;refine ok_m rfl rfl rfl (by exact ms_c3 rfl rfl rfl rfl (fun _ _ w hw => s_l6Vars_yes s 0 n a LN hLN (by omega) (by omega) (v0.trans h0) w)) ?_;rintro y15 hy15;refine ok_p rfl rfl rfl (ps_move rfl rfl) ?_;refine ok_p rfl rfl rfl (by exact ps_extract rfl rfl rfl) ?_;refine ok_p rfl rfl rfl (by exact ps_extract rfl rfl rfl) ?_;refine ok_p rfl rfl rfl (ps_assign rfl rfl) ?_;refine ok_p rfl rfl rfl (ps_assign rfl rfl) ?_;refine ok_ne [(0,_),(4,_),(5,_),(6,_)] ⟨rfl,rfl,rfl,rfl,trivial⟩ ?_)
      | (refine ok_region (i := 3) ?_;refine ok_p rfl rfl rfl (ps_move rfl rfl) ?_;refine ok_p rfl rfl rfl (by exact ps_int rfl rfl rfl rfl) ?_;refine ok_p rfl rfl rfl (ps_move rfl rfl) ?_;refine ok_pg rfl rfl rfl rfl rfl (gF _) (fun hp => by exact ps_move rfl rfl) ?_;refine ok_pg rfl rfl rfl rfl rfl (gF _) (fun hp => by (have hpd := hp;(try simp only [jA,jB,jC,jD,jE,jF,jG,jH,jI,jJ,jK,jL,jM,jN,jO,jP,jQ,jR,jS] at hpd);exact ps_index rfl (og rfl (by assumption)) rfl (by omega) (by exact isw_row 0 rfl (by omega)))) ?_;refine ok_pg rfl rfl rfl rfl rfl (gF _) (fun hp => by (have hpd := hp;(try simp only [jA,jB,jC,jD,jE,jF,jG,jH,jI,jJ,jK,jL,jM,jN,jO,jP,jQ,jR,jS] at hpd);exact ps_load rfl (og rfl (by assumption)) (by exact Rds.cell (rds_row 0 rfl) (by exact fl_at0 _ _ (by omega) (by decide))))) ?_;refine ok_pg rfl rfl rfl rfl rfl (gF _) (fun hp => by (exact ps_int rfl (og rfl (by assumption)) rfl rfl)) ?_;refine ok_p rfl rfl rfl (by exact ps_or rfl rfl rfl) ?_;refine ok_ne [(0,_),(4,_),(5,_),(6,_),(25,_)] ⟨rfl,rfl,rfl,rfl,rfl,trivial⟩ ?_)
      | (refine ok_region (i := 4) ?_;refine ok_p rfl rfl rfl (ps_move rfl rfl) ?_;refine ok_p rfl rfl rfl (ps_assign rfl rfl) ?_;refine ok_p rfl rfl rfl (ps_assign rfl rfl) ?_;refine ok_ne [(2,_),(3,_)] ⟨rfl,rfl,trivial⟩ ?_)
      | (refine ok_region (i := 5) ?_;refine ok_p rfl rfl rfl (ps_assign rfl rfl) ?_;refine ok_ne [(0,_),(4,_),(5,_),(6,_),(7,_)] ⟨rfl,rfl,rfl,rfl,rfl,trivial⟩ ?_))
    · have eB : pB s = none := by
        unfold pB;rw [h0];simp only [Option.bind_some];rw [if_neg (by omega)]
      rw [rb_no eB]
      exact ok_endL (vs := [_,_]) rfl ⟨rfl,rfl,trivial⟩ (fun w' hw => ⟨mkY (ga (y12 0).c) 0 w',rfl,trivial,hw.below,NewOk.of (hw.sel [1] (by decide) rfl (G' := []) (fun _ h => by cases h))⟩)
    have h6 : n ≤ 6 := by omega
    clear hc hd
    have e0 : pOps s n a [] = pB s := by unfold pB;rw [h0];simp only [Option.bind_some];rw [if_pos h6]
    refine ok_loop (ι := RbA s n) (fun q => n - q.i) (fun q => ([(0,.string s),(4,.slice q.A q.L.length q.c),(5,.slice (y15 0).A 1 (y15 0).c),(6,.int .i64 q.k),(7,.int .i64 q.i)],[.row 76 3 q.A q.L.length q.c (fl q.L),.row 3 1 (y15 0).A 1 (y15 0).c (fl LN)],_)) ⟨0,a,[],ga (y12 0).c,0,by simp,by omega,e0⟩ (fun a' w he hw => ⟨⟨0,a,[],ga (y12 0).c,0,by simp,by omega,e0⟩,he.sub ⟨rfl,rfl,rfl,rfl,rfl,trivial⟩,hw.front 1 rfl⟩) ?_
    rintro ⟨i,k,L,A,c,hi,hk,ok⟩
    simp only at hi hk ok ⊢
    have OK := Lib.hid ok;clear ok
    have t1 := tkE_le s ((k : Int) + 1)
    have hbt := bt_lt s k
    repeat' (first
      | refine ok_seq ?_
      | refine ok_then ?_
      | refine ok_then_ret ?_
      | refine ok_block ?_
      | refine ok_in_normal ?_
      | refine ok_in_ret ?_
      | (refine ok_cond rfl (fun hc => ?_) (fun hc => ?_) <;> (have hd := hc;(try simp only [jA,jB,jC,jD,jE,jF,jG,jH,jI,jJ,jK,jL,jM,jN,jO,jP,jQ,jR,jS] at hd)))
      | refine ok_ret ?_
      | refine ok_exit ?_
      | refine ok_skip ?_
      | (refine ok_region (i := 6) ?_;refine ok_p rfl rfl rfl (ps_move rfl rfl) ?_;refine ok_p rfl rfl rfl (ps_move rfl rfl) ?_;refine ok_p rfl rfl rfl (by exact ps_index rfl rfl rfl (by omega) (by exact isw_row 1 rfl (by omega))) ?_;refine ok_p rfl rfl rfl (by exact ps_load rfl rfl (by exact Rds.cell (rds_row 1 rfl) (by exact fl_at0 _ _ (by omega) (by decide)))) ?_;refine ok_p rfl rfl rfl (by exact ps_int rfl rfl rfl rfl) ?_;refine ok_ne [(0,_),(4,_),(5,_),(6,_),(7,_),(31,_)] ⟨rfl,rfl,rfl,rfl,rfl,rfl,trivial⟩ ?_)
      | (refine ok_region (i := 7) ?_;refine ok_p rfl rfl rfl (ps_move rfl rfl) ?_;refine ok_p rfl rfl rfl (by exact ps_add rfl rfl rfl (by omega)) ?_;refine ok_p rfl rfl rfl (ps_assign rfl rfl) ?_;refine ok_ne [(0,_),(4,_),(5,_),(6,_),(7,_)] ⟨rfl,rfl,rfl,rfl,rfl,trivial⟩ ?_)
      | (refine ok_region (i := 8) ?_;refine ok_p rfl rfl rfl (ps_move rfl rfl) ?_;refine ok_p rfl rfl rfl (ps_move rfl rfl) ?_;refine ok_p rfl rfl rfl (by exact ps_slen rfl rfl) ?_;refine ok_p rfl rfl rfl (by exact ps_int rfl rfl rfl rfl) ?_;refine ok_ne [(0,_),(4,_),(5,_),(6,_),(7,_),(37,_)] ⟨rfl,rfl,rfl,rfl,rfl,rfl,trivial⟩ ?_)
      | (refine ok_region (i := 9) ?_;refine ok_m rfl rfl rfl (by exact ms_lit rfl parts_nil rfl rfl rfl) ?_;rintro y38 hy38;refine ok_p rfl rfl rfl (ps_assign rfl rfl) ?_;refine ok_p rfl rfl rfl (ps_assign rfl rfl) ?_;refine ok_ne [(2,_),(3,_)] ⟨rfl,rfl,trivial⟩ ?_)
      | (refine ok_region (i := 10) ?_;refine ok_p rfl rfl rfl (ps_move rfl rfl) ?_;refine ok_p rfl rfl rfl (ps_move rfl rfl) ?_;refine ok_p rfl rfl rfl (by exact ps_sidxE k rfl rfl rfl rfl (by omega)) ?_;refine ok_p rfl rfl rfl (by exact ps_int rfl rfl rfl rfl) ?_;refine ok_p rfl rfl rfl (ps_assign rfl rfl) ?_;refine ok_ne [(0,_),(4,_),(5,_),(6,_),(7,_),(8,_)] ⟨rfl,rfl,rfl,rfl,rfl,rfl,trivial⟩ ?_)
      | (refine ok_region (i := 11) ?_;refine ok_p rfl rfl rfl (ps_move rfl rfl) ?_;refine ok_p rfl rfl rfl (ps_move rfl rfl) ?_;refine ok_p rfl rfl rfl (by exact ps_add rfl rfl rfl (by omega)) ?_;refine ok_m rfl rfl rfl (by exact ms_s2 rfl rfl rfl (fun _ _ w hw => s_l6Take_c s _ (by omega) (by omega) w)) ?_;rintro y47 hy47;refine ok_p rfl rfl rfl (ps_move rfl rfl) ?_;refine ok_p rfl rfl rfl (by exact ps_extract rfl rfl rfl) ?_;refine ok_p rfl rfl rfl (by exact ps_extract rfl rfl rfl) ?_;refine ok_p rfl rfl rfl (ps_assign rfl rfl) ?_;refine ok_p rfl rfl rfl (ps_assign rfl rfl) ?_;refine ok_ne [(0,_),(4,_),(5,_),(7,_),(8,_),(9,_),(10,_)] ⟨rfl,rfl,rfl,rfl,rfl,rfl,rfl,trivial⟩ ?_)
      | (refine ok_region (i := 12) ?_;refine ok_p rfl rfl rfl (ps_assign rfl rfl) ?_;refine ok_ne [(0,_),(4,_),(5,_),(7,_),(8,_),(9,_),(10,_),(11,_)] ⟨rfl,rfl,rfl,rfl,rfl,rfl,rfl,rfl,trivial⟩ ?_)
      | (refine ok_region (i := 13) ?_;refine ok_p rfl rfl rfl (ps_move rfl rfl) ?_;refine ok_p rfl rfl rfl (by exact ps_not rfl rfl) ?_;refine ok_ne [(0,_),(4,_),(5,_),(7,_),(8,_),(9,_),(10,_),(11,_),(51,_)] ⟨rfl,rfl,rfl,rfl,rfl,rfl,rfl,rfl,rfl,trivial⟩ ?_)
      | (refine ok_region (i := 14) ?_;refine ok_p rfl rfl rfl (ps_move rfl rfl) ?_;refine ok_p rfl rfl rfl (ps_move rfl rfl) ?_;refine ok_m rfl rfl rfl (by exact ms_s2 rfl rfl rfl (fun _ _ w hw => s_l6Take_c s _ (by omega) (by omega) w)) ?_;rintro y55 hy55;refine ok_p rfl rfl rfl (ps_move rfl rfl) ?_;refine ok_p rfl rfl rfl (by exact ps_extract rfl rfl rfl) ?_;refine ok_p rfl rfl rfl (by exact ps_extract rfl rfl rfl) ?_;refine ok_p rfl rfl rfl (ps_assign rfl rfl) ?_;refine ok_p rfl rfl rfl (ps_assign rfl rfl) ?_;refine ok_ne [(0,_),(4,_),(5,_),(7,_),(8,_),(9,_),(10,_),(11,_)] ⟨rfl,rfl,rfl,rfl,rfl,rfl,rfl,rfl,trivial⟩ ?_)
      | (refine ok_region (i := 15) ?_;refine ok_p rfl rfl rfl (ps_move rfl rfl) ?_;refine ok_p rfl rfl rfl (by exact ps_int rfl rfl rfl rfl) ?_;refine ok_ne [(0,_),(4,_),(5,_),(7,_),(8,_),(9,_),(10,_),(11,_),(59,_)] ⟨rfl,rfl,rfl,rfl,rfl,rfl,rfl,rfl,rfl,trivial⟩ ?_)
      | (refine ok_region (i := 16) ?_;refine ok_m rfl rfl rfl (by exact ms_lit rfl parts_nil rfl rfl rfl) ?_;rintro y60 hy60;refine ok_p rfl rfl rfl (ps_assign rfl rfl) ?_;refine ok_p rfl rfl rfl (ps_assign rfl rfl) ?_;refine ok_ne [(2,_),(3,_)] ⟨rfl,rfl,trivial⟩ ?_)
      | (refine ok_region (i := 17) ?_;refine ok_p rfl rfl rfl (ps_move rfl rfl) ?_;refine ok_p rfl rfl rfl (ps_move rfl rfl) ?_;refine ok_p rfl rfl rfl (ps_move rfl rfl) ?_;refine ok_p rfl rfl rfl (ps_move rfl rfl) ?_;refine ok_p rfl rfl rfl (by exact ps_bld rfl (parts_cons rfl (parts_cons rfl (parts_cons rfl parts_nil))) rfl) ?_;refine ok_m rfl rfl rfl (by exact ms_lit rfl (parts_cons rfl parts_nil) rfl rfl rfl) ?_;rintro y66 hy66;refine ok_m rfl rfl rfl (by first | exact ms_appF (α := Opp) (L := L) (M := [(⟨tkT (tkW s ((k : Int) + 1)),((bt s k : Int) == 1),⟨#[]⟩⟩ : Opp)]) 1 rfl rfl rfl rfl (rds_row 0 rfl) rfl (by simp;omega) (by simp;omega) | exact ms_appF (α := Opp) (L := L) (M := [(⟨tkT (tkW s ((k : Int) + 1)),((bt s k : Int) == 1),tkT (tkW s (tkE (tkW s ((k : Int) + 1))))⟩ : Opp)]) 1 rfl rfl rfl rfl (rds_row 0 rfl) rfl (by simp;omega) (by simp;omega)) ?_;rintro y67 hy67;refine ok_p rfl rfl rfl (ps_assign rfl rfl) ?_;refine ok_ne [(0,_),(4,_),(5,_),(7,_),(10,_)] ⟨rfl,rfl,rfl,rfl,rfl,trivial⟩ ?_)
      | (refine ok_region (i := 18) ?_;refine ok_p rfl rfl rfl (ps_move rfl rfl) ?_;refine ok_p rfl rfl rfl (ps_assign rfl rfl) ?_;refine ok_ne [(0,_),(4,_),(5,_),(6,_),(7,_)] ⟨rfl,rfl,rfl,rfl,rfl,trivial⟩ ?_)
      | (refine ok_region (i := 19) ?_;refine ok_p rfl rfl rfl (ps_move rfl rfl) ?_;refine ok_p rfl rfl rfl (by exact ps_len rfl rfl) ?_;refine ok_p rfl rfl rfl (by exact ps_int rfl rfl rfl rfl) ?_;refine ok_p rfl rfl rfl (ps_move rfl rfl) ?_;refine ok_pg rfl rfl rfl rfl rfl (gF _) (fun hp => by exact ps_move rfl rfl) ?_;refine ok_mg rfl rfl rfl rfl rfl (gF _) (fun hp => by (have hpd := hp;(try simp only [jA,jB,jC,jD,jE,jF,jG,jH,jI,jJ,jK,jL,jM,jN,jO,jP,jQ,jR,jS] at hpd);exact ms_s1 rfl (og rfl (by assumption)) (fun _ _ w hw => s_ShowBatch A c L w (hw.row 0 rfl) (by omega)))) ?_;refine ok_pg rfl rfl rfl rfl rfl (gF _) (fun hp => by exact ps_move rfl rfl) ?_;refine ok_pg rfl rfl rfl rfl rfl (gF _) (fun hp => by (exact ps_str rfl (og rfl (by assumption)) (og rfl (by assumption)) rfl)) ?_;refine ok_p rfl rfl rfl (by exact ps_or rfl rfl rfl) ?_;refine ok_ne [(4,_),(77,_)] ⟨rfl,rfl,trivial⟩ ?_)
      | (refine ok_region (i := 20) ?_;refine ok_m rfl rfl rfl (by exact ms_lit rfl parts_nil rfl rfl rfl) ?_;rintro y78 hy78;refine ok_p rfl rfl rfl (ps_assign rfl rfl) ?_;refine ok_p rfl rfl rfl (ps_assign rfl rfl) ?_;refine ok_ne [(2,_),(3,_)] ⟨rfl,rfl,trivial⟩ ?_)
      | (refine ok_region (i := 21) ?_;refine ok_p rfl rfl rfl (ps_move rfl rfl) ?_;refine ok_p rfl rfl rfl (ps_assign rfl rfl) ?_;refine ok_p rfl rfl rfl (ps_assign rfl rfl) ?_;refine ok_ne [(2,_),(3,_)] ⟨rfl,rfl,trivial⟩ ?_))
    · have eB : pB s = none := by
        rw [← OK.out,show n - i = (n - i - 1) + 1 by omega]
        exact pOps_no (by unfold pOp;rw [if_neg (by omega)])
      rw [rb_no eB]
      exact ok_endL (vs := [_,_]) rfl ⟨rfl,rfl,trivial⟩ (fun w' hw => ⟨mkY (ga (y38 0).c) 0 w',rfl,trivial,hw.below,NewOk.of (hw.sel [0] (by decide) rfl (G' := []) (fun _ h => by cases h))⟩)
    · have hb : ¬ (bt s k : Int) = 1 := by assumption
      have eB : pB s = none := by
        rw [← OK.out,show n - i = (n - i - 1) + 1 by omega]
        exact pOps_no (op_no2 (by omega) (by omega) hd)
      rw [rb_no eB]
      exact ok_endL (vs := [_,_]) rfl ⟨rfl,rfl,trivial⟩ (fun w' hw => ⟨mkY (ga (y60 0).c) 0 w',rfl,trivial,hw.below,NewOk.of (hw.sel [0] (by decide) rfl (G' := []) (fun _ h => by cases h))⟩)
    · have hb : ¬ (bt s k : Int) = 1 := by assumption
      have hb2 : ((bt s k : Int) == 1) = false := by simpa using hb
      obtain ⟨e,e1,e2,e3,e4⟩ := op_yes2 (p := k) (show bt s k ≠ 1 by omega) (by omega) hd
      refine fun a' w' he hw => ⟨⟨i + 1,e,L ++ [⟨tkT (tkW s ((k : Int) + 1)),false,tkT (tkW s (tkE (tkW s ((k : Int) + 1))))⟩],(y67 0).A,(y67 0).c,by simp;omega,e3,?_⟩,by simp only;omega,he.sub ⟨rfl,by simp only [List.length_append];rfl,rfl,by rw [← e1];rfl,rfl,trivial⟩,?_⟩
      · rw [← OK.out,show n - i = (n - i - 1) + 1 by omega,pOps_yes e4,show n - (i + 1) = n - i - 1 by omega]
      · simp only [List.length_append];rw [← hb2];exact hw.tl
    · have hb : (bt s k : Int) = 1 := by assumption
      have eB : pB s = none := by
        rw [← OK.out,show n - i = (n - i - 1) + 1 by omega]
        exact pOps_no (op_no1 (by omega) (by omega) hd)
      rw [rb_no eB]
      exact ok_endL (vs := [_,_]) rfl ⟨rfl,rfl,trivial⟩ (fun w' hw => ⟨mkY (ga (y60 0).c) 0 w',rfl,trivial,hw.below,NewOk.of (hw.sel [0] (by decide) rfl (G' := []) (fun _ h => by cases h))⟩)
    · have hb : (bt s k : Int) = 1 := by assumption
      have hb2 : ((bt s k : Int) == 1) = true := by simpa using hb
      obtain ⟨e,e1,e2,e3,e4⟩ := op_yes1 (p := k) (show bt s k = 1 by omega) (by omega) hd
      refine fun a' w' he hw => ⟨⟨i + 1,e,L ++ [⟨tkT (tkW s ((k : Int) + 1)),true,⟨#[]⟩⟩],(y67 0).A,(y67 0).c,by simp;omega,e3,?_⟩,by simp only;omega,he.sub ⟨rfl,by simp only [List.length_append];rfl,rfl,by rw [← e1];rfl,rfl,trivial⟩,?_⟩
      · rw [← OK.out,show n - i = (n - i - 1) + 1 by omega,pOps_yes e4,show n - (i + 1) = n - i - 1 by omega]
      · simp only [List.length_append];rw [← hb2];exact hw.tl
    · have eB : pB s = some (L,k) := by rw [← OK.out,show n - i = 0 by omega];rfl
      have eR : fReadBatch s = ([],false) := by
        unfold fReadBatch
        rw [eB]
        simp only
        rw [if_neg]
        intro e
        rcases hd with hd | hd
        · obtain rfl : L = [] := List.length_eq_zero_iff.1 (by omega)
          have e0 : fShowBatch [] = ⟨#[]⟩ := rfl
          rw [e0] at e
          have : (⟨#[]⟩ : ByteArray).size = 0 := rfl
          rw [e] at this
          omega
        · rw [e,sEq_ref] at hd;cases hd
      rw [eR]
      exact ok_endL (vs := [_,_]) rfl ⟨rfl,rfl,trivial⟩ (fun w' hw => ⟨mkY (ga (y78 0).c) 0 w',rfl,trivial,hw.below,NewOk.of (hw.sel [0] (by decide) rfl (G' := []) (fun _ h => by cases h))⟩)
    · have eB : pB s = some (L,k) := by rw [← OK.out,show n - i = 0 by omega];rfl
      have eR : fReadBatch s = (L,true) := by
        unfold fReadBatch
        rw [eB]
        simp only
        rw [if_pos (sEq_t hd.2)]
      rw [eR]
      exact ok_endL (vs := [_,_]) rfl ⟨rfl,rfl,trivial⟩ (fun w' hw => ⟨mkY A c w',rfl,trivial,hw.below,NewOk.of (hw.sel [0] (by decide) rfl (G' := []) (fun _ h => by cases h))⟩)
/-- One operation, as the program's reader goes. -/
theorem rdF_ok {s : ByteArray} {k : Nat} (h : rdFx s k false = false) : k < s.size ∧ bt s k ≤ 1 ∧ rdFk s k false = k + 1 ∧ rdFb s k false = decide (bt s k = 1) := by
  unfold rdFx at h
  split at h
  · cases h
  · rename_i h0
    have hk : k < s.size := by omega
    have e : (gb s k).toNat = bt s k := (gb_bt s k hk).symm
    refine ⟨hk,?_,by unfold rdFk;rw [if_neg h0],?_⟩
    · rcases Bool.and_eq_false_iff.1 h with h1 | h1
      · have : gb s k = 0 := by simpa using h1
        rw [this] at e;rw [← e];decide
      · have : gb s k = 1 := by simpa using h1
        rw [this] at e;rw [← e];decide
    · unfold rdFb
      rw [Bool.eq_iff_iff]
      simp only [Bool.not_false,Bool.true_and,Bool.and_eq_true,decide_eq_true_eq,beq_iff_eq]
      constructor
      · rintro ⟨_,h1⟩;rw [h1] at e;rw [← e];rfl
      · intro h1;exact ⟨hk,UInt8.toNat_inj.1 (by rw [e,h1];rfl)⟩
theorem rdF_no {s : ByteArray} {k : Nat} (h : rdFx s k false = true) : pOpI s k = none := by
  unfold rdFx at h
  split at h
  · rename_i h0
    unfold pOpI pOp
    split
    · rw [if_neg (by rcases h0 with h0 | h0;cases h0;omega)]
    · rfl
  · rename_i h0
    have hk : k < s.size := by omega
    have e : (gb s k).toNat = bt s k := (gb_bt s k hk).symm
    unfold pOpI
    rw [if_neg]
    intro hb
    rw [Bool.and_eq_true] at h
    have h1 : gb s k ≠ 0 := by simpa using h.1
    have h2 : gb s k ≠ 1 := by simpa using h.2
    rcases Nat.le_one_iff_eq_zero_or_eq_one.1 hb with hb | hb
    · exact h1 (UInt8.toNat_inj.1 (by rw [e,hb];rfl))
    · exact h2 (UInt8.toNat_inj.1 (by rw [e,hb];rfl))
theorem rdFk_le (s : ByteArray) (k : Nat) (b : Bool) (h : k ≤ s.size) : rdFk s k b ≤ s.size := by
  unfold rdFk;split <;> omega
def rK (s : ByteArray) (k : Nat) : ByteArray × Nat × Bool := rdS s (rdFk s k false) (rdFx s k false)
def rV (s : ByteArray) (k : Nat) : ByteArray × Nat × Bool := rdS s (rK s k).2.1 (rK s k).2.2
theorem rK_bad {s : ByteArray} {k : Nat} (h : rdFx s k false = true) : (rK s k).2.2 = true := by unfold rK;rw [h];exact rdS_bad _ _
theorem rd_del {s : ByteArray} {k : Nat} (hd : rdFb s k false = true) (h : (rK s k).2.2 = false) : ∃ e : Nat,(rK s k).2.1 = e ∧ k < e ∧ e ≤ s.size ∧ pOpI s k = some (⟨(rK s k).1,true,⟨#[]⟩⟩,e) := by
  cases hx : rdFx s k false with
  | true => rw [rK_bad hx] at h;cases h
  | false =>
    obtain ⟨h1,h2,h3,h4⟩ := rdF_ok hx
    rw [hd] at h4
    have hb : bt s k = 1 := by simpa using h4.symm
    unfold rK at h ⊢
    rw [hx,h3] at h ⊢
    rcases rdS_or s (k + 1) with ⟨_,h5⟩ | ⟨r,e,h5,h6⟩
    · rw [h5] at h;cases h
    · have h7 := tkS_some h5
      rw [h6]
      refine ⟨e,rfl,by omega,h7.2.1,?_⟩
      unfold pOpI pOp
      rw [if_pos (by omega),if_pos h1,h5]
      simp only [Option.bind_some]
      rw [if_pos hb]
theorem rd_del_no {s : ByteArray} {k : Nat} (hd : rdFb s k false = true) (h : (rK s k).2.2 = true) : pOpI s k = none := by
  cases hx : rdFx s k false with
  | true => exact rdF_no hx
  | false =>
    obtain ⟨h1,h2,h3,h4⟩ := rdF_ok hx
    unfold rK at h
    rw [hx,h3] at h
    rcases rdS_or s (k + 1) with ⟨h5,_⟩ | ⟨r,e,h5,h6⟩
    · unfold pOpI pOp
      rw [if_pos h2,if_pos h1,h5];rfl
    · rw [h6] at h;cases h
theorem rd_put {s : ByteArray} {k : Nat} (hd : rdFb s k false = false) (h : (rV s k).2.2 = false) : ∃ e : Nat,(rV s k).2.1 = e ∧ k < e ∧ e ≤ s.size ∧ pOpI s k = some (⟨(rK s k).1,false,(rV s k).1⟩,e) := by
  cases hx : rdFx s k false with
  | true => unfold rV at h;rw [rK_bad hx,rdS_bad] at h;cases h
  | false =>
    obtain ⟨h1,h2,h3,h4⟩ := rdF_ok hx
    rw [hd] at h4
    have hb : ¬ bt s k = 1 := by simpa using h4.symm
    unfold rV rK at h ⊢
    rw [hx,h3] at h ⊢
    rcases rdS_or s (k + 1) with ⟨_,h5⟩ | ⟨r,e,h5,h6⟩
    · rw [h5,rdS_bad] at h;cases h
    · have h7 := tkS_some h5
      rw [h6] at h ⊢
      simp only at h ⊢
      rcases rdS_or s e with ⟨_,h8⟩ | ⟨t,b,h8,h9⟩
      · rw [h8] at h;cases h
      · have h10 := tkS_some h8
        rw [h9]
        refine ⟨b,rfl,by omega,h10.2.1,?_⟩
        unfold pOpI pOp
        rw [if_pos h2,if_pos h1,h5]
        simp only [Option.bind_some]
        rw [if_neg hb,h8];rfl
theorem rd_put_no {s : ByteArray} {k : Nat} (hd : rdFb s k false = false) (h : (rV s k).2.2 = true) : pOpI s k = none := by
  cases hx : rdFx s k false with
  | true => exact rdF_no hx
  | false =>
    obtain ⟨h1,h2,h3,h4⟩ := rdF_ok hx
    rw [hd] at h4
    have hb : ¬ bt s k = 1 := by simpa using h4.symm
    unfold rV rK at h
    rw [hx,h3] at h
    unfold pOpI pOp
    rw [if_pos h2,if_pos h1]
    rcases rdS_or s (k + 1) with ⟨h5,_⟩ | ⟨r,e,h5,h6⟩
    · rw [h5];rfl
    · rw [h6] at h
      simp only at h
      rw [h5]
      simp only [Option.bind_some]
      rw [if_neg hb]
      rcases rdS_or s e with ⟨h8,_⟩ | ⟨t,b,h8,h9⟩
      · rw [h8];rfl
      · rw [h9] at h;cases h
structure RbI (s : ByteArray) (n : Nat) where
  i : Nat
  k : Nat
  bad : Bool
  L : List Opp
  A : Option Addr
  c : Nat
  hk : k ≤ s.size
  hi : i ≤ 6 ∧ i ≤ n ∧ L.length = i
  ok : bad = false → (n ≤ 6 → pOpsI s (n - i) k L = piB s) ∧ (6 < n → piB s = none)
  no : bad = true → piB s = none
theorem pI_no {s : ByteArray} {n k : Nat} {L : List Opp} (h : pOpI s k = none) : pOpsI s (n + 1) k L = none := by unfold pOpsI;rw [h];rfl
theorem pI_yes {s : ByteArray} {n k e : Nat} {L : List Opp} {o : Opp} (h : pOpI s k = some (o,e)) : pOpsI s (n + 1) k L = pOpsI s n e (L ++ [o]) := by rw [pOpsI,h];rfl
theorem rb_start (s : ByteArray) : ((rdN s 0 false).2.2 = true → piB s = none) ∧ ((rdN s 0 false).2.2 = false → ((rdN s 0 false).1 ≤ 6 → pOpsI s (rdN s 0 false).1 (rdN s 0 false).2.1 [] = piB s) ∧ (6 < (rdN s 0 false).1 → piB s = none)) := by
  unfold piB
  rcases rdN_or s 0 with ⟨h1,h2⟩ | ⟨n,e,h1,h2⟩
  · rw [h1,h2];exact ⟨fun _ => rfl,fun h => (by cases h)⟩
  · rw [h1,h2]
    simp only [Option.bind_some]
    refine ⟨fun h => (by cases h),fun _ => ⟨fun h => by rw [if_pos h],fun h => by rw [if_neg (by omega)]⟩⟩
theorem rb_step_no {s : ByteArray} {n i k : Nat} {L : List Opp} (ok : (n ≤ 6 → pOpsI s (n - i) k L = piB s) ∧ (6 < n → piB s = none)) (hi : i < n) (h : pOpI s k = none) : piB s = none := by
  rcases Nat.lt_or_ge 6 n with h6 | h6
  · exact ok.2 h6
  · rw [← ok.1 h6,show n - i = (n - i - 1) + 1 by omega];exact pI_no h
theorem rb_step_yes {s : ByteArray} {n i k e : Nat} {L : List Opp} {o : Opp} (ok : (n ≤ 6 → pOpsI s (n - i) k L = piB s) ∧ (6 < n → piB s = none)) (hi : i < n) (h : pOpI s k = some (o,e)) : (n ≤ 6 → pOpsI s (n - (i + 1)) e (L ++ [o]) = piB s) ∧ (6 < n → piB s = none) :=
  ⟨fun h6 => by rw [← ok.1 h6,show n - i = (n - i - 1) + 1 by omega,pI_yes h,show n - (i + 1) = n - i - 1 by omega],ok.2⟩
theorem i_ReadBatch (s : ByteArray) (w : World) (hs : s.size ≤ 4194304) :
    Calls Tryz.prog 274 #[.string s] w fun e w' => ∃ y : Ys,e = .returned (.tuple #[.slice (y 0).A (fReadBatch s).1.length (y 0).c,.bool (fReadBatch s).2]) ∧ True ∧ Below w.heap.size w w' ∧ NewOk w.heap.size [.row 76 3 (y 0).A (fReadBatch s).1.length (y 0).c (fl (fReadBatch s).1)] [] w' := by
  have hn0 := rdN_le s 0 false (Nat.zero_le _)
  have hst := rb_start s
  have er := read_i s
  refine ok_enter 50 Tryz.func274 rfl rfl rfl ?_
  repeat' (first
    | refine ok_seq ?_
    | refine ok_then ?_
    | refine ok_block ?_
    | (refine ok_region (i := 0) ?_;refine ok_p rfl rfl rfl (ps_assign rfl rfl) ?_;refine ok_p rfl rfl rfl (ps_assign rfl rfl) ?_;refine ok_ne [(0,_)] ⟨rfl,trivial⟩ ?_)
    | (refine ok_region (i := 1) ?_;refine ok_p rfl rfl rfl (ps_move rfl rfl) ?_;refine ok_p rfl rfl rfl (by exact ps_bld rfl (parts_cons rfl parts_nil) rfl) ?_;refine ok_m rfl rfl rfl (by exact ms_alloc rfl) ?_;rintro y4 hy4;refine ok_m_ rfl rfl (by exact ms_store 0 rfl rfl rfl rfl rfl rfl rfl rfl) ?_;rintro y_ hy_;refine ok_ne [(4,_)] ⟨rfl,trivial⟩ ?_)
    | (refine ok_region (i := 2) ?_;refine ok_m rfl rfl rfl (by exact ms_wr 0 rfl rfl rfl rfl (fun _ _ w hw => rdN_c _ s 0 false (by omega) (by omega) hw)) ?_;rintro y11 hy11;refine ok_p rfl rfl rfl (ps_assign rfl rfl) ?_;refine ok_ne [(4,_),(5,_)] ⟨rfl,rfl,trivial⟩ ?_)
    | (refine ok_region (i := 3) ?_;refine ok_p rfl rfl rfl (ps_assign rfl rfl) ?_;refine ok_ne [(4,_),(5,_),(6,_)] ⟨rfl,rfl,rfl,trivial⟩ ?_)
    | (refine ok_region (i := 4) ?_;refine ok_p rfl rfl rfl (ps_assign rfl rfl) ?_;refine ok_ne [(4,_),(5,_),(6,_),(7,_)] ⟨rfl,rfl,rfl,rfl,trivial⟩ ?_))
  generalize (rdN s 0 false).1 = n at hn0 hst ⊢
  generalize (rdN s 0 false).2.1 = k0 at hn0 hst ⊢
  generalize (rdN s 0 false).2.2 = b0 at hn0 hst ⊢
  refine ok_loop (ι := RbI s n) (fun q => 6 - q.i) (fun q => ([(4,pt (ga (y4 0).c) 0),(5,.int .i64 n),(6,.slice q.A q.L.length q.c),(7,.int .i64 q.i)],[.row 76 3 q.A q.L.length q.c (fl q.L),rdr (y4 0).c s q.k q.bad],_)) ⟨0,k0,b0,[],none,0,hn0.1,by simp,hst.2,hst.1⟩ (fun a' w he hw => ⟨⟨0,k0,b0,[],none,0,hn0.1,by simp,hst.2,hst.1⟩,he.sub ⟨rfl,rfl,rfl,rfl,trivial⟩,hw.rowNil 76 3⟩) ?_
  clear hst
  rintro ⟨i,k,bad,L,A,c,hk,hi,ok,no⟩
  simp only at hk hi ok no ⊢
  have OK := Lib.hid ok;clear ok
  have NO := Lib.hid no;clear no
  have ER := Lib.hid er;clear er
  have k1 := rdFk_le s k false hk
  have k2 : (rK s k).2.1 ≤ s.size := rdS_le _ _ _ k1
  have k3 : (rV s k).2.1 ≤ s.size := rdS_le _ _ _ k2
  repeat' ((fail_if_success (refine at_reg 7 ?_));first
    | refine ok_seq ?_
    | refine ok_then ?_
    | refine ok_then_ret ?_
    | refine ok_block ?_
    | (refine ok_cond rfl (fun hc => ?_) (fun hc => ?_) <;> (have hd := hc;(try simp only [jA,jB,jC,jD,jE,jF,jG,jH,jI,jJ,jK,jL,jM,jN,jO,jP,jQ,jR,jS] at hd)))
    | refine ok_ret ?_
    | refine ok_exit ?_
    | refine ok_skip ?_
    | (refine ok_region (i := 5) ?_;refine ok_p rfl rfl rfl (ps_move rfl rfl) ?_;refine ok_p rfl rfl rfl (ps_move rfl rfl) ?_;refine ok_p rfl rfl rfl (by exact ps_min rfl rfl rfl) ?_;refine ok_p rfl rfl rfl (by exact ps_int rfl rfl rfl rfl) ?_;refine ok_p rfl rfl rfl (ps_move rfl rfl) ?_;refine ok_pg rfl rfl rfl rfl rfl (gT _) (fun hp => by exact ps_field rfl rfl (isw_ga _)) ?_;refine ok_pg rfl rfl rfl rfl rfl (gT _) (fun hp => by (exact ps_load rfl (og rfl (by assumption)) (by exact Rds.cell (rds_box 1 rfl) rfl))) ?_;refine ok_pg rfl rfl rfl rfl rfl (gT _) (fun hp => by (exact ps_not rfl (og rfl (by assumption)))) ?_;refine ok_p rfl rfl rfl (by exact ps_and rfl rfl rfl) ?_;refine ok_ne [(4,_),(5,_),(6,_),(7,_),(20,_)] ⟨rfl,rfl,rfl,rfl,rfl,trivial⟩ ?_)
    | (refine ok_region (i := 12) ?_;refine ok_m rfl rfl rfl (by exact ms_wr 1 rfl rfl rfl rfl (fun _ _ w hw => rdD_c _ s k bad hw)) ?_;rintro y36 hy36;refine ok_p rfl rfl rfl (by exact ps_not rfl rfl) ?_;refine ok_p rfl rfl rfl (ps_move rfl rfl) ?_;refine ok_pg rfl rfl rfl rfl rfl (gF _) (fun hp => by exact ps_move rfl rfl) ?_;refine ok_pg rfl rfl rfl rfl rfl (gF _) (fun hp => by (exact ps_len rfl (og rfl (by assumption)))) ?_;refine ok_pg rfl rfl rfl rfl rfl (gF _) (fun hp => by exact ps_move rfl rfl) ?_;refine ok_pg rfl rfl rfl rfl rfl (gF _) (fun hp => by (exact ps_int rfl (og rfl (by assumption)) (og rfl (by assumption)) rfl)) ?_;refine ok_p rfl rfl rfl (by exact ps_or rfl rfl rfl) ?_;refine ok_p rfl rfl rfl (ps_move rfl rfl) ?_;refine ok_pg rfl rfl rfl rfl rfl (gF _) (fun hp => by exact ps_move rfl rfl) ?_;refine ok_mg rfl rfl rfl rfl rfl (gF _) (fun hp => by (have hpd := hp;(try simp only [jA,jB,jC,jD,jE,jF,jG,jH,jI,jJ,jK,jL,jM,jN,jO,jP,jQ,jR,jS] at hpd);exact ms_s1 rfl (og rfl (by assumption)) (fun _ _ w hw => i_BatchOk A c L w (hw.row 0 rfl) (by omega)))) ?_;refine ok_pg rfl rfl rfl rfl rfl (gF _) (fun hp => by (exact ps_not rfl (og rfl (by assumption)))) ?_;refine ok_p rfl rfl rfl (by exact ps_or rfl rfl rfl) ?_;refine ok_ne [(6,_),(48,_)] ⟨rfl,rfl,trivial⟩ ?_)
    | (refine ok_region (i := 13) ?_;refine ok_p rfl rfl rfl (ps_assign rfl rfl) ?_;refine ok_p rfl rfl rfl (ps_assign rfl rfl) ?_;refine ok_ne [(2,_),(3,_)] ⟨rfl,rfl,trivial⟩ ?_)
    | (refine ok_region (i := 14) ?_;refine ok_p rfl rfl rfl (ps_move rfl rfl) ?_;refine ok_p rfl rfl rfl (ps_assign rfl rfl) ?_;refine ok_p rfl rfl rfl (ps_assign rfl rfl) ?_;refine ok_ne [(2,_),(3,_)] ⟨rfl,rfl,trivial⟩ ?_))
  · have hb : bad = false := hd.2
    subst hb
    have hlt : i < n ∧ i < 6 := by have h1 := hd.1;first | omega | (split at h1 <;> omega)
    clear hc hd
    repeat' (first
      | refine ok_seq ?_
      | refine ok_then ?_
      | refine ok_in_normal ?_
      | (refine ok_cond rfl (fun hc => ?_) (fun hc => ?_) <;> (have hd := hc;(try simp only [jA,jB,jC,jD,jE,jF,jG,jH,jI,jJ,jK,jL,jM,jN,jO,jP,jQ,jR,jS] at hd)))
      | refine ok_skip ?_
      | (refine ok_region (i := 6) ?_;refine ok_p rfl rfl rfl (ps_move rfl rfl) ?_;refine ok_p rfl rfl rfl (by exact ps_add rfl rfl rfl (by omega)) ?_;refine ok_p rfl rfl rfl (ps_assign rfl rfl) ?_;refine ok_ne [(4,_),(5,_),(6,_),(7,_)] ⟨rfl,rfl,rfl,rfl,trivial⟩ ?_)
      | (refine ok_region (i := 7) ?_;refine ok_m rfl rfl rfl (by exact ms_wr 1 rfl rfl rfl rfl (fun _ _ w hw => rdF_c _ s k false (by omega) (by omega) hw)) ?_;rintro y23 hy23;refine ok_p rfl rfl rfl (by exact ps_bld rfl (parts_cons rfl parts_nil) rfl) ?_;refine ok_m rfl rfl rfl (by exact ms_alloc rfl) ?_;rintro y8 hy8;refine ok_m_ rfl rfl (by exact ms_store 0 rfl rfl rfl rfl rfl rfl rfl rfl) ?_;rintro y_ hy_;refine ok_ne [(4,_),(5,_),(6,_),(7,_),(8,_)] ⟨rfl,rfl,rfl,rfl,rfl,trivial⟩ ?_)
      | (refine ok_region (i := 8) ?_;refine ok_m rfl rfl rfl (by exact ms_wr 2 rfl rfl rfl rfl (fun _ _ w hw => rdS_c _ s (rdFk s k false) (rdFx s k false) (by omega) (by omega) hw)) ?_;rintro y25 hy25;refine ok_p rfl rfl rfl (by exact ps_field rfl rfl (isw_ga _)) ?_;refine ok_m_ rfl rfl (by exact ms_store 0 rfl rfl rfl rfl rfl rfl rfl rfl) ?_;rintro y_ hy_;refine ok_ne [(4,_),(5,_),(6,_),(7,_),(8,_)] ⟨rfl,rfl,rfl,rfl,rfl,trivial⟩ ?_)
      | (refine ok_region (i := 9) ?_;refine ok_p rfl rfl rfl (by exact ps_field rfl rfl (isw_ga _)) ?_;refine ok_p rfl rfl rfl (by exact ps_load rfl rfl (by exact Rds.cell (rds_box 0 rfl) rfl)) ?_;refine ok_p rfl rfl rfl (by exact ps_not rfl rfl) ?_;refine ok_ne [(4,_),(5,_),(6,_),(7,_),(8,_),(29,_)] ⟨rfl,rfl,rfl,rfl,rfl,rfl,trivial⟩ ?_)
      | (refine ok_region (i := 10) ?_;refine ok_m rfl rfl rfl (by exact ms_wr 2 rfl rfl rfl rfl (fun _ _ w hw => rdS_c _ s (rK s k).2.1 (rK s k).2.2 (by omega) (by omega) hw)) ?_;rintro y30 hy30;refine ok_p rfl rfl rfl (by exact ps_field rfl rfl (isw_ga _)) ?_;refine ok_m_ rfl rfl (by exact ms_store 0 rfl rfl rfl rfl rfl rfl rfl rfl) ?_;rintro y_ hy_;refine ok_ne [(4,_),(5,_),(6,_),(7,_),(8,_)] ⟨rfl,rfl,rfl,rfl,rfl,trivial⟩ ?_)
      | (refine ok_region (i := 11) ?_;refine ok_p rfl rfl rfl (ps_move rfl rfl) ?_;refine ok_p rfl rfl rfl (by exact ps_loads rfl rfl (by exact rds_box 0 rfl) rfl rfl (by decide)) ?_;refine ok_m rfl rfl rfl (by exact ms_lit rfl (parts_cons rfl parts_nil) rfl rfl rfl) ?_;rintro y34 hy34;refine ok_m rfl rfl rfl (by first | exact ms_appF (α := Opp) (L := L) (M := [(⟨(rK s k).1,rdFb s k false,(rV s k).1⟩ : Opp)]) 2 rfl rfl rfl rfl (rds_row 0 rfl) rfl (by simp;omega) (by simp;omega) | exact ms_appF (α := Opp) (L := L) (M := [(⟨(rK s k).1,rdFb s k false,⟨#[]⟩⟩ : Opp)]) 2 rfl rfl rfl rfl (rds_row 0 rfl) rfl (by simp;omega) (by simp;omega)) ?_;rintro y35 hy35;refine ok_p rfl rfl rfl (ps_assign rfl rfl) ?_;refine ok_ne [(4,_),(5,_),(6,_),(7,_)] ⟨rfl,rfl,rfl,rfl,trivial⟩ ?_))
    · refine fun a' w' he hw => ⟨⟨i + 1,(rV s k).2.1,(rV s k).2.2,L ++ [⟨(rK s k).1,rdFb s k false,(rV s k).1⟩],(y35 0).A,(y35 0).c,k3,by simp;omega,fun h => ?_,fun h => ?_⟩,by simp only;omega,he.sub ⟨rfl,rfl,by simp only [List.length_append];rfl,rfl,trivial⟩,by simp only [List.length_append];exact hw.tl.tl⟩
      · obtain ⟨e,e1,e2,e3,e4⟩ := rd_put hd h
        rw [hd,e1]
        exact rb_step_yes (OK.out rfl) hlt.1 e4
      · exact rb_step_no (OK.out rfl) hlt.1 (rd_put_no hd h)
    · refine fun a' w' he hw => ⟨⟨i + 1,(rK s k).2.1,(rK s k).2.2,L ++ [⟨(rK s k).1,rdFb s k false,⟨#[]⟩⟩],(y35 0).A,(y35 0).c,k2,by simp;omega,fun h => ?_,fun h => ?_⟩,by simp only;omega,he.sub ⟨rfl,rfl,by simp only [List.length_append];rfl,rfl,trivial⟩,by simp only [List.length_append];exact hw.tl.tl⟩
      · obtain ⟨e,e1,e2,e3,e4⟩ := rd_del hd h
        rw [hd,e1]
        exact rb_step_yes (OK.out rfl) hlt.1 e4
      · exact rb_step_no (OK.out rfl) hlt.1 (rd_del_no hd h)
  · have eR : fReadBatch s = ([],false) := by
      rw [ER.out]
      have hx : (¬ (i : Int) < if 6 < (n : Int) then 6 else (n : Int)) ∨ bad = true := by assumption
      cases bad with
      | true => rw [NO.out rfl]
      | false =>
        rcases Nat.lt_or_ge 6 n with h6 | h6
        · rw [(OK.out rfl).2 h6]
        · have hi2 : i = n := by
            rcases hx with hx | hx
            · split at hx <;> omega
            · cases hx
          have := (OK.out rfl).1 h6
          rw [hi2,Nat.sub_self] at this
          have h7 : piB s = some (L,k) := this.symm
          rw [h7]
          simp only
          rw [if_neg]
          rintro ⟨h8,h9⟩
          subst h8
          rw [h9] at hd
          simp [rdD] at hd
          omega
    rw [eR]
    exact ok_endL (vs := [_,_]) rfl ⟨rfl,rfl,trivial⟩ (fun w' hw => ⟨mkY none 0 w',rfl,trivial,hw.below,NewOk.of ((hw.sel [] (by decide) rfl (G' := []) (fun _ h => by cases h)).rowNil 76 3)⟩)
  · have eR : fReadBatch s = (L,true) := by
      rw [ER.out]
      have hx : (¬ (i : Int) < if 6 < (n : Int) then 6 else (n : Int)) ∨ bad = true := by assumption
      obtain ⟨⟨g1,g2⟩,g3⟩ := hd
      unfold rdD at g1
      cases bad with
      | true => simp at g1
      | false =>
        have g4 : k = s.size := by simp at g1;omega
        have h6 : n ≤ 6 := by
          rcases Nat.lt_or_ge 6 n with h6 | h6
          · omega
          · exact h6
        have := (OK.out rfl).1 h6
        rw [show n - i = 0 by omega] at this
        have h7 : piB s = some (L,k) := this.symm
        rw [h7]
        simp only
        rw [if_pos ⟨g4,g3⟩]
    rw [eR]
    exact ok_endL (vs := [_,_]) rfl ⟨rfl,rfl,trivial⟩ (fun w' hw => ⟨mkY A c w',rfl,trivial,hw.below,NewOk.of (hw.sel [0] (by decide) rfl (G' := []) (fun _ h => by cases h))⟩)
theorem isPlace_c (b q : Int) (w : World) : Calls Tryz.prog 273 #[.int .i64 b,.int .i64 q] w fun e w' => e = .returned (.bool (placeOk b q)) ∧ Below w.heap.size w w' := by
  refine ok_enter 11 Tryz.func273 rfl rfl rfl ?_
  repeat' (first
    | refine ok_seq ?_
    | refine ok_then ?_
    | refine ok_ret ?_
    | (refine ok_region (i := 0) ?_;refine ok_p rfl rfl rfl (ps_assign rfl rfl) ?_;refine ok_ne [(0,_),(1,_)] ⟨rfl,rfl,trivial⟩ ?_)
    | (refine ok_region (i := 1) ?_;refine ok_p rfl rfl rfl (ps_move rfl rfl) ?_;refine ok_m rfl rfl rfl (by exact ms_s3 rfl rfl rfl rfl (fun _ _ w hw => in_i _ _ _ w)) ?_;rintro y6 hy6;refine ok_p rfl rfl rfl (ps_move rfl rfl) ?_;refine ok_pg rfl rfl rfl rfl rfl (gT _) (fun hp => by exact ps_move rfl rfl) ?_;refine ok_mg rfl rfl rfl rfl rfl (gT _) (fun hp => by (exact ms_s3 rfl (og rfl (by assumption)) rfl rfl (fun _ _ w hw => in_i _ _ _ w))) ?_;refine ok_p rfl rfl rfl (by exact ps_and rfl rfl rfl) ?_;refine ok_p rfl rfl rfl (ps_assign rfl rfl) ?_;refine ok_ne [(4,_)] ⟨rfl,trivial⟩ ?_))
  exact ok_endL (vs := [_]) rfl ⟨rfl,trivial⟩ (fun w' hw => ⟨rfl,hw.below⟩)
theorem l8At_c (b q : Int) (w : World) : Calls Tryz.prog 198 #[.int .i64 b,.int .i64 q] w fun e w' => e = .returned (.bool (placeOk b q)) ∧ Below w.heap.size w w' := by
  refine ok_enter 11 Tryz.func198 rfl rfl rfl ?_
  repeat' (first
    | refine ok_seq ?_
    | refine ok_then ?_
    | refine ok_ret ?_
    | (refine ok_region (i := 0) ?_;refine ok_p rfl rfl rfl (ps_assign rfl rfl) ?_;refine ok_ne [(0,_),(1,_)] ⟨rfl,rfl,trivial⟩ ?_)
    | (refine ok_region (i := 1) ?_;refine ok_p rfl rfl rfl (ps_move rfl rfl) ?_;refine ok_m rfl rfl rfl (by exact ms_s3 rfl rfl rfl rfl (fun _ _ w hw => in_s _ _ _ w)) ?_;rintro y6 hy6;refine ok_p rfl rfl rfl (ps_move rfl rfl) ?_;refine ok_pg rfl rfl rfl rfl rfl (gT _) (fun hp => by exact ps_move rfl rfl) ?_;refine ok_mg rfl rfl rfl rfl rfl (gT _) (fun hp => by (exact ms_s3 rfl (og rfl (by assumption)) rfl rfl (fun _ _ w hw => in_s _ _ _ w))) ?_;refine ok_p rfl rfl rfl (by exact ps_and rfl rfl rfl) ?_;refine ok_p rfl rfl rfl (ps_assign rfl rfl) ?_;refine ok_ne [(4,_)] ⟨rfl,trivial⟩ ?_))
  exact ok_endL (vs := [_]) rfl ⟨rfl,trivial⟩ (fun w' hw => ⟨rfl,hw.below⟩)
theorem place_n {b q : Int} (h : placeOk b q = true) : (0 ≤ b ∧ b ≤ 1000) ∧ (0 ≤ q ∧ q ≤ 999999) ∧ b * 1000000 + q = (rowN b q : Int) ∧ rowN b q ≤ 562949953421311 := by
  unfold placeOk at h
  rw [Bool.and_eq_true,inB_true,inB_true] at h
  unfold rowN
  omega
theorem rowNonce_c (b q : Int) (h : placeOk b q = true) (w : World) : Calls Tryz.prog 276 #[.int .i64 b,.int .i64 q] w fun e w' => e = .returned (.string (nonF 3 (rowN b q))) ∧ Below w.heap.size w w' := by
  obtain ⟨h1,h2,h3,h4⟩ := place_n h
  refine ok_enter 10 Tryz.func276 rfl rfl rfl ?_
  repeat' (first
    | refine ok_seq ?_
    | refine ok_then ?_
    | refine ok_ret ?_
    | (refine ok_region (i := 0) ?_;refine ok_p rfl rfl rfl (ps_assign rfl rfl) ?_;refine ok_ne [(0,_),(1,_)] ⟨rfl,rfl,trivial⟩ ?_)
    | (refine ok_region (i := 1) ?_;refine ok_p rfl rfl rfl (ps_move rfl rfl) ?_;refine ok_p rfl rfl rfl (by exact ps_mul rfl rfl rfl (by omega)) ?_;refine ok_p rfl rfl rfl (ps_move rfl rfl) ?_;refine ok_p rfl rfl rfl (by exact ps_cast (v' := .int .i64 (rowN b q : Int)) (ps_add rfl rfl rfl (by omega)) (congrArg (Value.int .i64) h3)) ?_;refine ok_m rfl rfl rfl (by exact ms_s2 rfl rfl rfl (fun _ _ w hw => i_NonceOf 3 _ (by omega) h4 w)) ?_;rintro y9 hy9;refine ok_p rfl rfl rfl (ps_assign rfl rfl) ?_;refine ok_ne [(4,_)] ⟨rfl,trivial⟩ ?_))
  exact ok_endL (vs := [_]) rfl ⟨rfl,trivial⟩ (fun w' hw => ⟨rfl,hw.below⟩)
theorem open_no {key : ByteArray} {b q : Int} {s : ByteArray} (h : openOk key b q = false) : openF key b q s = ([],false) := by unfold openF;rw [if_neg (by rw [h];decide)]
theorem open_yes {key : ByteArray} {b q : Int} {s : ByteArray} (h : openOk key b q = true) : openF key b q s = fReadBatch (strmF key (nonF 3 (rowN b q)) s) := by unfold openF;rw [if_pos h]
theorem i_OpenBatch (key : ByteArray) (b q : Int) (s : ByteArray) (w : World) (hs : s.size ≤ 4194304) :
    Calls Tryz.prog 210 #[.string key,.int .i64 b,.int .i64 q,.string s] w fun e w' => ∃ y : Ys,e = .returned (.tuple #[.slice (y 0).A (openF key b q s).1.length (y 0).c,.bool (openF key b q s).2]) ∧ True ∧ Below w.heap.size w w' ∧ NewOk w.heap.size [.row 76 3 (y 0).A (openF key b q s).1.length (y 0).c (fl (openF key b q s).1)] [] w' := by
  cases ho : openOk key b q with
  | false =>
    rw [open_no ho]
    unfold openOk at ho
    refine ok_enter 33 Tryz.func210 rfl rfl rfl ?_
    repeat' ((fail_if_success (refine at_reg 3 ?_));first
      | refine ok_seq ?_
      | refine ok_then ?_
      | refine ok_then_ret ?_
      | (refine ok_cond rfl (fun hc => ?_) (fun hc => ?_) <;> (have hd := hc;(try simp only [jA,jB,jC,jD,jE,jF,jG,jH,jI,jJ,jK,jL,jM,jN,jO,jP,jQ,jR,jS] at hd)))
      | refine ok_ret ?_
      | refine ok_skip ?_
      | (refine ok_region (i := 0) ?_;refine ok_p rfl rfl rfl (ps_assign rfl rfl) ?_;refine ok_p rfl rfl rfl (ps_assign rfl rfl) ?_;refine ok_ne [(0,_),(1,_),(2,_),(3,_)] ⟨rfl,rfl,rfl,rfl,trivial⟩ ?_)
      | (refine ok_region (i := 1) ?_;refine ok_p rfl rfl rfl (ps_move rfl rfl) ?_;refine ok_p rfl rfl rfl (by exact ps_slen rfl rfl) ?_;refine ok_p rfl rfl rfl (by exact ps_int rfl rfl rfl rfl) ?_;refine ok_p rfl rfl rfl (ps_move rfl rfl) ?_;refine ok_pg rfl rfl rfl rfl rfl (gF _) (fun hp => by exact ps_move rfl rfl) ?_;refine ok_pg rfl rfl rfl rfl rfl (gF _) (fun hp => by exact ps_move rfl rfl) ?_;refine ok_mg rfl rfl rfl rfl rfl (gF _) (fun hp => by (exact ms_s2 rfl (og rfl (by assumption)) (og rfl (by assumption)) (fun _ _ w hw => isPlace_c b q w))) ?_;refine ok_pg rfl rfl rfl rfl rfl (gF _) (fun hp => by (exact ps_not rfl (og rfl (by assumption)))) ?_;refine ok_p rfl rfl rfl (by exact ps_or rfl rfl rfl) ?_;refine ok_p rfl rfl rfl (ps_move rfl rfl) ?_;refine ok_pg rfl rfl rfl rfl rfl (gF _) (fun hp => by exact ps_move rfl rfl) ?_;refine ok_pg rfl rfl rfl rfl rfl (gF _) (fun hp => by (exact ps_slen rfl (og rfl (by assumption)))) ?_;refine ok_pg rfl rfl rfl rfl rfl (gF _) (fun hp => by (exact ps_int rfl (og rfl (by assumption)) rfl rfl)) ?_;refine ok_p rfl rfl rfl (by exact ps_or rfl rfl rfl) ?_;refine ok_ne [(0,_),(1,_),(2,_),(3,_),(23,_)] ⟨rfl,rfl,rfl,rfl,rfl,trivial⟩ ?_)
      | (refine ok_region (i := 2) ?_;refine ok_p rfl rfl rfl (ps_assign rfl rfl) ?_;refine ok_p rfl rfl rfl (ps_assign rfl rfl) ?_;refine ok_ne [(8,_),(9,_)] ⟨rfl,rfl,trivial⟩ ?_))
    · exact ok_endL (vs := [_,_]) rfl ⟨rfl,rfl,trivial⟩ (fun w' hw => ⟨mkY none 0 w',rfl,trivial,hw.below,NewOk.of ((hw.sel [] (by decide) rfl (G' := []) (fun _ h => by cases h)).rowNil 76 3)⟩)
    · exfalso
      rcases Bool.and_eq_false_iff.1 ho with h1 | h1
      · simp at h1;omega
      · rw [h1] at hd;simp at hd
  | true =>
    rw [open_yes ho]
    have hb : 300 < s.size → fReadBatch (strmF key (nonF 3 (rowN b q)) s) = ([],false) := fun h => by rw [← open_yes ho];exact open_big h
    unfold openOk at ho
    rw [Bool.and_eq_true,decide_eq_true_eq] at ho
    obtain ⟨hk,hp⟩ := ho
    have hz := strmF_size key (nonF 3 (rowN b q)) s
    refine ok_enter 33 Tryz.func210 rfl rfl rfl ?_
    repeat' (first
      | refine ok_seq ?_
      | refine ok_then ?_
      | refine ok_then_ret ?_
      | (refine ok_cond rfl (fun hc => ?_) (fun hc => ?_) <;> (have hd := hc;(try simp only [jA,jB,jC,jD,jE,jF,jG,jH,jI,jJ,jK,jL,jM,jN,jO,jP,jQ,jR,jS] at hd)))
      | refine ok_ret ?_
      | refine ok_skip ?_
      | (refine ok_region (i := 0) ?_;refine ok_p rfl rfl rfl (ps_assign rfl rfl) ?_;refine ok_p rfl rfl rfl (ps_assign rfl rfl) ?_;refine ok_ne [(0,_),(1,_),(2,_),(3,_)] ⟨rfl,rfl,rfl,rfl,trivial⟩ ?_)
      | (refine ok_region (i := 1) ?_;refine ok_p rfl rfl rfl (ps_move rfl rfl) ?_;refine ok_p rfl rfl rfl (by exact ps_slen rfl rfl) ?_;refine ok_p rfl rfl rfl (by exact ps_int rfl rfl rfl rfl) ?_;refine ok_p rfl rfl rfl (ps_move rfl rfl) ?_;refine ok_pg rfl rfl rfl rfl rfl (gF _) (fun hp => by exact ps_move rfl rfl) ?_;refine ok_pg rfl rfl rfl rfl rfl (gF _) (fun hp => by exact ps_move rfl rfl) ?_;refine ok_mg rfl rfl rfl rfl rfl (gF _) (fun hp => by (exact ms_s2 rfl (og rfl (by assumption)) (og rfl (by assumption)) (fun _ _ w hw => isPlace_c b q w))) ?_;refine ok_pg rfl rfl rfl rfl rfl (gF _) (fun hp => by (exact ps_not rfl (og rfl (by assumption)))) ?_;refine ok_p rfl rfl rfl (by exact ps_or rfl rfl rfl) ?_;refine ok_p rfl rfl rfl (ps_move rfl rfl) ?_;refine ok_pg rfl rfl rfl rfl rfl (gF _) (fun hp => by exact ps_move rfl rfl) ?_;refine ok_pg rfl rfl rfl rfl rfl (gF _) (fun hp => by (exact ps_slen rfl (og rfl (by assumption)))) ?_;refine ok_pg rfl rfl rfl rfl rfl (gF _) (fun hp => by (exact ps_int rfl (og rfl (by assumption)) rfl rfl)) ?_;refine ok_p rfl rfl rfl (by exact ps_or rfl rfl rfl) ?_;refine ok_ne [(0,_),(1,_),(2,_),(3,_),(23,_)] ⟨rfl,rfl,rfl,rfl,rfl,trivial⟩ ?_)
      | (refine ok_region (i := 2) ?_;refine ok_p rfl rfl rfl (ps_assign rfl rfl) ?_;refine ok_p rfl rfl rfl (ps_assign rfl rfl) ?_;refine ok_ne [(8,_),(9,_)] ⟨rfl,rfl,trivial⟩ ?_)
      | (refine ok_region (i := 3) ?_;refine ok_p rfl rfl rfl (ps_move rfl rfl) ?_;refine ok_p rfl rfl rfl (ps_move rfl rfl) ?_;refine ok_p rfl rfl rfl (ps_move rfl rfl) ?_;refine ok_m rfl rfl rfl (by exact ms_s2 rfl rfl rfl (fun _ _ w hw => rowNonce_c b q hp w)) ?_;rintro y27 hy27;refine ok_p rfl rfl rfl (ps_move rfl rfl) ?_;refine ok_m rfl rfl rfl (by exact ms_s4 rfl rfl rfl rfl rfl (fun _ _ w hw => i_StreamL key _ s (by omega) (nonF_size _ _) hs w)) ?_;rintro y29 hy29;refine ok_m rfl rfl rfl (by exact ms_c1 rfl rfl (fun _ _ w hw => i_ReadBatch _ w (by omega))) ?_;rintro y30 hy30;refine ok_p rfl rfl rfl (by exact ps_extract rfl rfl rfl) ?_;refine ok_p rfl rfl rfl (by exact ps_extract rfl rfl rfl) ?_;refine ok_p rfl rfl rfl (ps_assign rfl rfl) ?_;refine ok_p rfl rfl rfl (ps_assign rfl rfl) ?_;refine ok_ne [(8,_),(9,_)] ⟨rfl,rfl,trivial⟩ ?_))
    · have h3 : 300 < s.size := by
        rw [hp] at hd
        simp at hd
        omega
      rw [hb h3]
      exact ok_endL (vs := [_,_]) rfl ⟨rfl,rfl,trivial⟩ (fun w' hw => ⟨mkY none 0 w',rfl,trivial,hw.below,NewOk.of ((hw.sel [] (by decide) rfl (G' := []) (fun _ h => by cases h)).rowNil 76 3)⟩)
    · exact ok_endL (vs := [_,_]) rfl ⟨rfl,rfl,trivial⟩ (fun w' hw => ⟨y30,rfl,trivial,hw.below,NewOk.of (hw.sel [0] (by decide) rfl (G' := []) (fun _ h => by cases h))⟩)
theorem s_OpenBatch (key : ByteArray) (b q : Int) (s : ByteArray) (w : World) (hs : s.size ≤ 4194304) :
    Calls Tryz.prog 139 #[.string key,.int .i64 b,.int .i64 q,.string s] w fun e w' => ∃ y : Ys,e = .returned (.tuple #[.slice (y 0).A (openF key b q s).1.length (y 0).c,.bool (openF key b q s).2]) ∧ True ∧ Below w.heap.size w w' ∧ NewOk w.heap.size [.row 76 3 (y 0).A (openF key b q s).1.length (y 0).c (fl (openF key b q s).1)] [] w' := by
  cases ho : openOk key b q with
  | false =>
    rw [open_no ho]
    unfold openOk at ho
    refine ok_enter 36 Tryz.func139 rfl rfl rfl ?_
    repeat' ((fail_if_success (refine at_reg 3 ?_));first
      | refine ok_seq ?_
      | refine ok_then ?_
      | refine ok_then_ret ?_
      | (refine ok_cond rfl (fun hc => ?_) (fun hc => ?_) <;> (have hd := hc;(try simp only [jA,jB,jC,jD,jE,jF,jG,jH,jI,jJ,jK,jL,jM,jN,jO,jP,jQ,jR,jS] at hd)))
      | refine ok_ret ?_
      | refine ok_skip ?_
      | (refine ok_region (i := 0) ?_;refine ok_p rfl rfl rfl (ps_assign rfl rfl) ?_;refine ok_p rfl rfl rfl (ps_assign rfl rfl) ?_;refine ok_ne [(0,_),(1,_),(2,_),(3,_)] ⟨rfl,rfl,rfl,rfl,trivial⟩ ?_)
      | (refine ok_region (i := 1) ?_;refine ok_p rfl rfl rfl (ps_move rfl rfl) ?_;refine ok_p rfl rfl rfl (by exact ps_slen rfl rfl) ?_;refine ok_p rfl rfl rfl (by exact ps_int rfl rfl rfl rfl) ?_;refine ok_p rfl rfl rfl (ps_move rfl rfl) ?_;refine ok_pg rfl rfl rfl rfl rfl (gF _) (fun hp => by exact ps_move rfl rfl) ?_;refine ok_pg rfl rfl rfl rfl rfl (gF _) (fun hp => by exact ps_move rfl rfl) ?_;refine ok_mg rfl rfl rfl rfl rfl (gF _) (fun hp => by (exact ms_s2 rfl (og rfl (by assumption)) (og rfl (by assumption)) (fun _ _ w hw => l8At_c b q w))) ?_;refine ok_pg rfl rfl rfl rfl rfl (gF _) (fun hp => by (exact ps_not rfl (og rfl (by assumption)))) ?_;refine ok_p rfl rfl rfl (by exact ps_or rfl rfl rfl) ?_;refine ok_ne [(0,_),(1,_),(2,_),(3,_),(20,_)] ⟨rfl,rfl,rfl,rfl,rfl,trivial⟩ ?_)
      | (refine ok_region (i := 2) ?_;refine ok_m rfl rfl rfl (by exact ms_lit rfl parts_nil rfl rfl rfl) ?_;rintro y21 hy21;refine ok_p rfl rfl rfl (ps_assign rfl rfl) ?_;refine ok_p rfl rfl rfl (ps_assign rfl rfl) ?_;refine ok_ne [(8,_),(9,_)] ⟨rfl,rfl,trivial⟩ ?_))
    · exact ok_endL (vs := [_,_]) rfl ⟨rfl,rfl,trivial⟩ (fun w' hw => ⟨mkY (ga (y21 0).c) 0 w',rfl,trivial,hw.below,NewOk.of (hw.sel [0] (by decide) rfl (G' := []) (fun _ h => by cases h))⟩)
    · exfalso
      rcases Bool.and_eq_false_iff.1 ho with h1 | h1
      · simp at h1;omega
      · rw [h1] at hd;simp at hd
  | true =>
    rw [open_yes ho]
    unfold openOk at ho
    rw [Bool.and_eq_true,decide_eq_true_eq] at ho
    obtain ⟨hk,hp⟩ := ho
    obtain ⟨h1,h2,h3,h4⟩ := place_n hp
    have hz := strmF_size key (nonF 3 (rowN b q)) s
    refine ok_enter 36 Tryz.func139 rfl rfl rfl ?_
    repeat' (first
      | refine ok_seq ?_
      | refine ok_then ?_
      | refine ok_then_ret ?_
      | (refine ok_cond rfl (fun hc => ?_) (fun hc => ?_) <;> (have hd := hc;(try simp only [jA,jB,jC,jD,jE,jF,jG,jH,jI,jJ,jK,jL,jM,jN,jO,jP,jQ,jR,jS] at hd)))
      | refine ok_ret ?_
      | refine ok_skip ?_
      | (refine ok_region (i := 0) ?_;refine ok_p rfl rfl rfl (ps_assign rfl rfl) ?_;refine ok_p rfl rfl rfl (ps_assign rfl rfl) ?_;refine ok_ne [(0,_),(1,_),(2,_),(3,_)] ⟨rfl,rfl,rfl,rfl,trivial⟩ ?_)
      | (refine ok_region (i := 1) ?_;refine ok_p rfl rfl rfl (ps_move rfl rfl) ?_;refine ok_p rfl rfl rfl (by exact ps_slen rfl rfl) ?_;refine ok_p rfl rfl rfl (by exact ps_int rfl rfl rfl rfl) ?_;refine ok_p rfl rfl rfl (ps_move rfl rfl) ?_;refine ok_pg rfl rfl rfl rfl rfl (gF _) (fun hp => by exact ps_move rfl rfl) ?_;refine ok_pg rfl rfl rfl rfl rfl (gF _) (fun hp => by exact ps_move rfl rfl) ?_;refine ok_mg rfl rfl rfl rfl rfl (gF _) (fun hp => by (exact ms_s2 rfl (og rfl (by assumption)) (og rfl (by assumption)) (fun _ _ w hw => l8At_c b q w))) ?_;refine ok_pg rfl rfl rfl rfl rfl (gF _) (fun hp => by (exact ps_not rfl (og rfl (by assumption)))) ?_;refine ok_p rfl rfl rfl (by exact ps_or rfl rfl rfl) ?_;refine ok_ne [(0,_),(1,_),(2,_),(3,_),(20,_)] ⟨rfl,rfl,rfl,rfl,rfl,trivial⟩ ?_)
      | (refine ok_region (i := 2) ?_;refine ok_m rfl rfl rfl (by exact ms_lit rfl parts_nil rfl rfl rfl) ?_;rintro y21 hy21;refine ok_p rfl rfl rfl (ps_assign rfl rfl) ?_;refine ok_p rfl rfl rfl (ps_assign rfl rfl) ?_;refine ok_ne [(8,_),(9,_)] ⟨rfl,rfl,trivial⟩ ?_)
      | (refine ok_region (i := 3) ?_;refine ok_p rfl rfl rfl (ps_move rfl rfl) ?_;refine ok_p rfl rfl rfl (ps_move rfl rfl) ?_;refine ok_p rfl rfl rfl (by exact ps_mul rfl rfl rfl (by omega)) ?_;refine ok_p rfl rfl rfl (ps_move rfl rfl) ?_;refine ok_p rfl rfl rfl (by exact ps_cast (v' := .int .i64 (rowN b q : Int)) (ps_add rfl rfl rfl (by omega)) (congrArg (Value.int .i64) h3)) ?_;refine ok_m rfl rfl rfl (by exact ms_s2 rfl rfl rfl (fun _ _ w hw => s_NonceOf 3 _ (by omega) h4 w)) ?_;rintro y28 hy28;refine ok_p rfl rfl rfl (ps_move rfl rfl) ?_;refine ok_m rfl rfl rfl (by exact ms_s4 rfl rfl rfl rfl rfl (fun _ _ w hw => s_StreamL key _ s (by omega) (nonF_size _ _) hs w)) ?_;rintro y30 hy30;refine ok_m rfl rfl rfl (by exact ms_c1 rfl rfl (fun _ _ w hw => s_ReadBatch _ w (by omega))) ?_;rintro y31 hy31;refine ok_p rfl rfl rfl (ps_move rfl rfl) ?_;refine ok_p rfl rfl rfl (by exact ps_extract rfl rfl rfl) ?_;refine ok_p rfl rfl rfl (by exact ps_extract rfl rfl rfl) ?_;refine ok_p rfl rfl rfl (ps_assign rfl rfl) ?_;refine ok_p rfl rfl rfl (ps_assign rfl rfl) ?_;refine ok_ne [(10,_),(11,_)] ⟨rfl,rfl,trivial⟩ ?_)
      | (refine ok_region (i := 4) ?_;refine ok_p rfl rfl rfl (ps_move rfl rfl) ?_;refine ok_p rfl rfl rfl (ps_move rfl rfl) ?_;refine ok_p rfl rfl rfl (ps_assign rfl rfl) ?_;refine ok_p rfl rfl rfl (ps_assign rfl rfl) ?_;refine ok_ne [(8,_),(9,_)] ⟨rfl,rfl,trivial⟩ ?_))
    · exfalso
      rw [hp] at hd
      simp at hd
      omega
    · exact ok_endL (vs := [_,_]) rfl ⟨rfl,rfl,trivial⟩ (fun w' hw => ⟨y31,rfl,trivial,hw.below,NewOk.of (hw.sel [0] (by decide) rfl (G' := []) (fun _ h => by cases h))⟩)
end Go.Proofs.YtmfojbidojjciaaGreat
/- Entries compared as values. -/
namespace Go.Proofs.YtmfojbidojjciaaGreat
open Go.RowKit
theorem eqEnt (a b : Ent) (w : World) : (Op.equalIn 10000 204 (.agg (Dat.cells a).toArray) (.agg (Dat.cells b).toArray)).run Tryz.prog w = .ok (decide (a.key.toList = b.key.toList ∧ a.seq = b.seq ∧ a.del = b.del ∧ a.val.toList = b.val.toList)) w := by
  have u3 := Tryz.underlying3
  have a3 := Tryz.isAgg3
  have z3 := Tryz.sizeOf3
  have u9 := Tryz.underlying9
  have a9 := Tryz.isAgg9
  have z9 := Tryz.sizeOf9
  have u4 := Tryz.underlying4
  have a4 := Tryz.isAgg4
  have z4 := Tryz.sizeOf4
  have hS : Tryz.prog.underlying 204 = some (.struct (Tryz.prog.fieldsOf 204)) := by kernel_rfl
  have hp : Tryz.prog.stoodInHeld 204 = false := by kernel_rfl
  obtain ⟨ak,aq,ad,av⟩ := a
  obtain ⟨bk,bq,bd,bv⟩ := b
  simp only [Dat.cells]
  rw [show (10000 : Nat) = 9999 + 1 from rfl,run_equalIn_agg w 9999 204 _ _ hS hp]
  simp only [Program.fieldsOf,Tryz.underlying204]
  go_simp
  repeat' split
  all_goals simp_all
theorem ent_eq (a b : Ent) : decide (a.key.toList = b.key.toList ∧ a.seq = b.seq ∧ a.del = b.del ∧ a.val.toList = b.val.toList) = decide (a = b) := by
  refine decide_eq_decide.2 ⟨fun ⟨h1,h2,h3,h4⟩ => ?_,fun h => by rw [h];exact ⟨rfl,rfl,rfl,rfl⟩⟩
  obtain ⟨ak,aq,ad,av⟩ := a
  obtain ⟨bk,bq,bd,bv⟩ := b
  simp only at h1 h2 h3 h4
  rw [sEq_to (a := ak) (b := bk) (by unfold sEq;rw [h1];simp),h2,h3,sEq_to (a := av) (b := bv) (by unfold sEq;rw [h4];simp)]
theorem ps_neE {E : Env} {H : List HObj} {G : List World} {o : Oper} {x y : Operand} {t' : TypeId} (a b : Ent) (ho : o.op = .binOp .neq 204 x y t') (hx : opd E x = some (.agg (Dat.cells a).toArray)) (hy : opd E y = some (.agg (Dat.cells b).toArray)) : PStep Tryz.prog E H G o (.bool (!decide (a = b))) := fun N base w0 ac w he hw => by
  simp only [execOp,ho,he.eval hx,he.eval hy,Sem.run_bind,run_eqGuard_agg w _ _ _ _ _ _ (show Tryz.prog.eqGuardType Tryz.prog.depth 204 = false by kernel_rfl),Result.andThen_ok,run_neq_struct,eqEnt,Sem.run_pure,ent_eq]
end Go.Proofs.YtmfojbidojjciaaGreat
/- A tenant's rows played by the reference. -/
namespace Go.Proofs.YtmfojbidojjciaaGreat
open Go.RowKit
attribute [local irreducible] Calls
theorem dropA {α : Type} [Dat α] {R : List α} {j : Nat} (h : j < R.length) : R.drop j = nth R j :: R.drop (j + 1) := by
  rw [List.drop_eq_getElem_cons h]
  congr 1
  simp [nth,h]
theorem sPlay_skip {key : ByteArray} {id base : Int} {e : DEng} {n k : Nat} {l : List LogRow} (h : k < l.length) (hn : (nth l k).ten ≠ id) : sPlay key id base e n (l.drop k) = sPlay key id base e n (l.drop (k + 1)) := by
  rw [dropA h,sPlay,if_neg hn]
theorem sPlay_no {key : ByteArray} {id base : Int} {e : DEng} {n k : Nat} {l : List LogRow} (h : k < l.length) (hn : (nth l k).ten = id) (hc : ¬ ((openF key (nth l k).boot (nth l k).seq (nth l k).txt).2 = true ∧ (fEngPut e (openF key (nth l k).boot (nth l k).seq (nth l k).txt).1).2 = true ∧ (nth l k).seq = base + (n + 1 : Nat))) : sPlay key id base e n (l.drop k) = none := by
  rw [dropA h,sPlay,if_pos hn,if_neg hc]
theorem sPlay_yes {key : ByteArray} {id base : Int} {e : DEng} {n k : Nat} {l : List LogRow} (h : k < l.length) (hn : (nth l k).ten = id) (hc : (openF key (nth l k).boot (nth l k).seq (nth l k).txt).2 = true ∧ (fEngPut e (openF key (nth l k).boot (nth l k).seq (nth l k).txt).1).2 = true ∧ (nth l k).seq = base + (n + 1 : Nat)) : sPlay key id base e n (l.drop k) = sPlay key id base (fEngPut e (openF key (nth l k).boot (nth l k).seq (nth l k).txt).1).1 (n + 1) (l.drop (k + 1)) := by
  rw [dropA h,sPlay,if_pos hn,if_pos hc]
theorem mine_s (key : ByteArray) (rows : List LogRow) (t : DTen) : mineF key rows t = (match sPlay key t.id t.ba (baseE t) 0 rows with
    | none => false
    | some (x,n) => decide (x.mem = t.eng.mem) && decide (t.eng.tabs.length ≤ 1) && decide (n ≤ 6) && decide (t.ba + n = t.eng.seq)) := by
  rw [sPlay_eq]
  unfold mineF
  rw [show t.ba + ((0 : Nat) : Int) = t.ba by omega]
  cases hs : seqsOk t.ba (rowsF rows t.id) with
  | false => simp
  | true =>
    rw [if_pos rfl]
    cases hp : playF key (baseE t) (rowsF rows t.id) with
    | none => simp [memIs]
    | some x =>
      simp only [Option.map_some,memIs,Nat.zero_add,Bool.and_true]
      try rfl
theorem open_few (key : ByteArray) (b q : Int) (s : ByteArray) : (openF key b q s).1.length ≤ 6 := by
  cases h : (openF key b q s).2 with
  | true => exact (batch_few (open_ok h)).1
  | false => rw [open_not h];exact Nat.zero_le _
/-- An engine's own rows, frozen. -/
theorem eng_reads {D : DEng} {y : Ys} {m : World} (h : ∀ x ∈ engObj D y,x.reads m) : Rd m (y 0).A (fl D.mem) ∧ RdN m (y 1).A (locs 3 D.tabs y) ∧ Rd m (y 2).A (fl D.snaps) := by
  have q1 : (HObj.row 204 4 (y 0).A D.mem.length (y 0).c (fl D.mem)).reads m := h _ (by unfold engObj;simp)
  have q2 : (HObj.row 85 1 (y 1).A D.tabs.length (y 1).c (fl (locs 3 D.tabs y))).reads m := h _ (by unfold engObj;simp)
  have q3 : (HObj.bag 204 4 (rowsOf (locs 3 D.tabs y))).reads m := h _ (by unfold engObj;simp)
  have q4 : (HObj.row 3 1 (y 2).A D.snaps.length (y 2).c (fl D.snaps)).reads m := h _ (by unfold engObj;simp)
  exact ⟨q1,⟨q2,fun k hk => q3 (nth (locs 3 D.tabs y) k).row (List.mem_map.2 ⟨_,nth_mem _ k hk,rfl⟩)⟩,q4⟩
theorem eng_small {D : DEng} (h : fEngOk D = true) : (D.mem.length ≤ 4194304 ∧ D.tabs.length ≤ 4194304 ∧ D.snaps.length ≤ 4194304) ∧ ∀ x ∈ D.tabs,x.length ≤ 4194304 := by
  obtain ⟨f1,f2,f3,f4,f5,f6⟩ := eng_few h
  exact ⟨by omega,fun x hx => by have := tot_at f3 x (List.mem_cons_of_mem _ hx);omega⟩
theorem nth_ext {α : Type} [Dat α] {a b : List α} (hl : a.length = b.length) (h : ∀ j,j < a.length → nth a j = nth b j) : a = b := by
  refine List.ext_getElem hl fun i h1 h2 => ?_
  have := h i h1
  simpa [nth,h1,h2] using this
structure MnI (rows : List LogRow) (key : ByteArray) (id base : Int) (T : List (List Ent)) (w : World) where
  k : Nat
  n : Nat
  m : World
  mA : Option Addr
  mc : Nat
  mem : List Ent
  tA : Option Addr
  tc : Nat
  R : List LE
  sq : Int
  sA : Option Addr
  sc : Nat
  sn : List Int
  hk : k ≤ rows.length ∧ n ≤ k
  hm : WLe w m
  h1 : Rd m mA (fl mem)
  h2 : RdN m tA R
  h3 : Rd m sA (fl sn)
  hl : mem.length ≤ 4194304 ∧ R.length ≤ 4194304 ∧ sn.length ≤ 4194304
  hs : ∀ x ∈ dats R,x.length ≤ 4194304
  hp : sPlay key id base ⟨[],T,base,[]⟩ 0 rows = sPlay key id base ⟨mem,dats R,sq,sn⟩ n (rows.drop k)
theorem l22Mine0 (sec mk : ByteArray) (kA : Option Addr) (kc : Nat) (slots : List KeySlot) (wi ssz : Int) (shA : Option Addr) (shn shc : Nat) (tnA : Option Addr) (tnn tnc : Nat) (rA : Option Addr) (rc : Nat) (rows : List LogRow) (hA : Option Addr) (hn hcc : Nat) (bo : Int)
    (id ep ba : Int) (mA : Option Addr) (mc : Nat) (mem : List Ent) (tA : Option Addr) (tc : Nat) (R : List LE) (seq : Int) (sA : Option Addr) (sc : Nat) (sn : List Int) (w : World) (hk : Rd w kA (fl slots)) (hr : Rd w rA (fl rows)) (h1 : Rd w mA (fl mem)) (h2 : RdN w tA R) (hba : 0 ≤ ba ∧ ba ≤ 1000000) (hl0 : slots.length ≤ 4194304) (hlr : rows.length ≤ 4194304) (htx : ∀ k,k < rows.length → (nth rows k).txt.size ≤ 4194304) (hl1 : mem.length ≤ 4194304) (hl2 : R.length ≤ 4194304) (hs : ∀ x ∈ dats R,x.length ≤ 4194304) :
    Calls Tryz.prog 88 #[.agg #[.string sec,.string mk,.slice kA slots.length kc,.int .i64 wi,.int .i64 ssz,.slice shA shn shc,.slice tnA tnn tnc,.slice rA rows.length rc,.slice hA hn hcc,.int .i64 bo],.agg #[.int .i64 id,.int .i64 ep,.int .i64 ba,.slice mA mem.length mc,.slice tA R.length tc,.int .i64 seq,.slice sA sn.length sc]] w fun e w' => e = .returned (.bool (mineF (keyOf ⟨mk,slots,wi⟩ id) rows ⟨id,ep,ba,⟨mem,dats R,seq,sn⟩⟩)) ∧ Below w.heap.size w w' := by
  have HS := Lib.hid hs;clear hs
  have H2 := Lib.hid h2;clear h2
  have HTX := Lib.hid htx;clear htx
  have hms := mine_s (keyOf ⟨mk,slots,wi⟩ id) rows ⟨id,ep,ba,⟨mem,dats R,seq,sn⟩⟩
  simp only [baseE] at hms
  rw [hms]
  clear hms
  refine ok_enter 124 Tryz.func88 rfl rfl rfl ?_
  repeat' (first
    | refine ok_seq ?_
    | refine ok_then ?_
    | refine ok_block ?_
    | (refine ok_region (i := 0) ?_;refine ok_m rfl rfl rfl (by exact ms_box rfl rfl rfl) ?_;rintro y2 hy2;refine ok_m rfl rfl rfl (by exact ms_box rfl rfl rfl) ?_;rintro y3 hy3;refine ok_p rfl rfl rfl (ps_assign rfl rfl) ?_;refine ok_ne [(2,_),(3,_)] ⟨rfl,rfl,trivial⟩ ?_)
    | (refine ok_region (i := 1) ?_;refine ok_p rfl rfl rfl (ps_assign rfl rfl) ?_;refine ok_ne [(2,_),(3,_),(5,_)] ⟨rfl,rfl,rfl,trivial⟩ ?_)
    | (refine ok_region (i := 2) ?_;refine ok_p rfl rfl rfl (by exact ps_field rfl rfl (isw_ga _)) ?_;refine ok_p rfl rfl rfl (by exact ps_loads rfl rfl (by exact rds_box 1 rfl) rfl rfl (by decide)) ?_;refine ok_p rfl rfl rfl (by exact ps_field rfl rfl (isw_ga _)) ?_;refine ok_p rfl rfl rfl (by exact ps_load rfl rfl (by exact Rds.cell (rds_box 0 rfl) rfl)) ?_;refine ok_m rfl rfl rfl (by exact ms_s2 rfl rfl rfl (fun _ _ w hw => s_KeyOf0 mk kA kc slots wi id w (rds_rf hk List.mem_cons_self _ _ w hw) hl0)) ?_;rintro y19 hy19;refine ok_p rfl rfl rfl (ps_assign rfl rfl) ?_;refine ok_ne [(2,_),(3,_),(5,_),(6,_)] ⟨rfl,rfl,rfl,rfl,trivial⟩ ?_)
    | (refine ok_region (i := 3) ?_;refine ok_p rfl rfl rfl (by exact ps_field rfl rfl (isw_ga _)) ?_;refine ok_p rfl rfl rfl (by exact ps_field rfl rfl (isw_ga _)) ?_;refine ok_p rfl rfl rfl (by exact ps_load rfl rfl (by exact Rds.cell (rds_box 0 rfl) rfl)) ?_;refine ok_p rfl rfl rfl (by exact ps_field rfl rfl (isw_ga _)) ?_;refine ok_p rfl rfl rfl (by exact ps_load rfl rfl (by exact Rds.cell (rds_box 0 rfl) rfl)) ?_;refine ok_p rfl rfl rfl (by exact ps_bld rfl (parts_cons rfl (parts_cons rfl parts_nil)) rfl) ?_;refine ok_m rfl rfl rfl (by exact ms_alloc rfl) ?_;rintro y7 hy7;refine ok_m_ rfl rfl (by exact ms_store 0 rfl rfl rfl rfl rfl rfl rfl rfl) ?_;rintro y_ hy_;refine ok_ne [(2,_),(3,_),(5,_),(6,_),(7,_)] ⟨rfl,rfl,rfl,rfl,rfl,trivial⟩ ?_)
    | (refine ok_region (i := 4) ?_;refine ok_p rfl rfl rfl (ps_assign rfl rfl) ?_;refine ok_ne [(2,_),(3,_),(5,_),(6,_),(7,_),(8,_)] ⟨rfl,rfl,rfl,rfl,rfl,rfl,trivial⟩ ?_))
  generalize keyOf ⟨mk,slots,wi⟩ id = key
  refine ok_loop (ι := MnI rows key id ba (dats R) w) (fun q => rows.length - q.k) (fun q => ([(2,pt (ga (y2 0).c) 0),(3,pt (ga (y3 0).c) 0),(5,.int .i64 q.n),(6,.string key),(7,pt (ga (y7 0).c) 0),(8,.int .i64 q.k)],[.box (y7 0).c 88 [.slice q.mA q.mem.length q.mc,.slice q.tA q.R.length q.tc,.int .i64 q.sq,.slice q.sA q.sn.length q.sc],_,_],[q.m])) ⟨0,0,w,none,0,[],tA,tc,R,ba,none,0,[],by omega,WLe.refl _,(fun k u h => by simp [fl] at h),H2.out,(fun k u h => by simp [fl] at h),by simp;omega,HS.out,rfl⟩ (fun a w' he hw => ⟨⟨0,0,w,none,0,[],tA,tc,R,ba,none,0,[],by omega,WLe.refl _,(fun k u h => by simp [fl] at h),H2.out,(fun k u h => by simp [fl] at h),by simp;omega,HS.out,rfl⟩,he.sub ⟨rfl,rfl,rfl,rfl,rfl,rfl,trivial⟩,hw⟩) ?_
  rintro ⟨k,n,m,qA,qc,qm,uA,uc,S,sq,vA,vc,vn,hk2,hm,g1,g2,g3,gl,gs,gp⟩
  simp only at hk2 hm g1 g2 g3 gl gs gp ⊢
  have hr' := hr.le hm
  have h1' := h1.le hm
  have hk' := hk.le hm
  have G2 := Lib.hid g2;clear g2
  have GS := Lib.hid gs;clear gs
  have GP := Lib.hid gp;clear gp
  have HM := Lib.hid hm;clear hm
  clear hr h1 hk
  have hof := open_few key (nth rows k).boot (nth rows k).seq (nth rows k).txt
  repeat' (first
    | refine ok_seq ?_
    | refine ok_then ?_
    | refine ok_then_ret ?_
    | refine ok_then_exit ?_
    | refine ok_block ?_
    | refine ok_in_normal ?_
    | refine ok_in_ret ?_
    | refine ok_in_exit ?_
    | (refine ok_cond rfl (fun hc => ?_) (fun hc => ?_) <;> (have hd := hc;(try simp only [jA,jB,jC,jD,jE,jF,jG,jH,jI,jJ,jK,jL,jM,jN,jO,jP,jQ,jR,jS] at hd)))
    | refine ok_ret ?_
    | refine ok_exit ?_
    | refine ok_skip ?_
    | (refine ok_region (i := 5) ?_;refine ok_p rfl rfl rfl (ps_move rfl rfl) ?_;refine ok_p rfl rfl rfl (by exact ps_field rfl rfl (isw_ga _)) ?_;refine ok_p rfl rfl rfl (by exact ps_load rfl rfl (by exact Rds.cell (rds_box 2 rfl) rfl)) ?_;refine ok_p rfl rfl rfl (by exact ps_len rfl rfl) ?_;refine ok_p rfl rfl rfl (by exact ps_int rfl rfl rfl rfl) ?_;refine ok_ne [(2,_),(3,_),(5,_),(6,_),(7,_),(8,_),(30,_)] ⟨rfl,rfl,rfl,rfl,rfl,rfl,rfl,trivial⟩ ?_)
    | (refine ok_region (i := 6) ?_;refine ok_p rfl rfl rfl (ps_move rfl rfl) ?_;refine ok_p rfl rfl rfl (by exact ps_add rfl rfl rfl (by omega)) ?_;refine ok_p rfl rfl rfl (ps_assign rfl rfl) ?_;refine ok_ne [(2,_),(3,_),(5,_),(6,_),(7,_),(8,_)] ⟨rfl,rfl,rfl,rfl,rfl,rfl,trivial⟩ ?_)
    | (refine ok_region (i := 7) ?_;refine ok_p rfl rfl rfl (by exact ps_field rfl rfl (isw_ga _)) ?_;refine ok_p rfl rfl rfl (by exact ps_load rfl rfl (by exact Rds.cell (rds_box 2 rfl) rfl)) ?_;refine ok_p rfl rfl rfl (ps_move rfl rfl) ?_;refine ok_p rfl rfl rfl (by exact ps_indexN rfl rfl rfl (by omega) (by exact isw_of (isS_fl (by assumption) (by omega)))) ?_;refine ok_p rfl rfl rfl (by exact ps_loadsF rfl rfl (by exact rds_rf (by assumption) List.mem_cons_self) (by rfl) (by rfl) (by omega) rfl) ?_;refine ok_m rfl rfl rfl (by exact ms_alloc rfl) ?_;rintro y9 hy9;refine ok_m_ rfl rfl (by exact ms_store 0 rfl rfl rfl rfl rfl rfl rfl rfl) ?_;rintro y_ hy_;refine ok_ne [(2,_),(3,_),(5,_),(6,_),(7,_),(8,_),(9,_)] ⟨rfl,rfl,rfl,rfl,rfl,rfl,rfl,trivial⟩ ?_)
    | (refine ok_region (i := 8) ?_;refine ok_p rfl rfl rfl (by exact ps_field rfl rfl (isw_ga _)) ?_;refine ok_p rfl rfl rfl (by exact ps_load rfl rfl (by exact Rds.cell (rds_box 0 rfl) rfl)) ?_;refine ok_p rfl rfl rfl (by exact ps_field rfl rfl (isw_ga _)) ?_;refine ok_p rfl rfl rfl (by exact ps_load rfl rfl (by exact Rds.cell (rds_box 2 rfl) rfl)) ?_;refine ok_p rfl rfl rfl (by exact ps_int rfl rfl rfl rfl) ?_;refine ok_ne [(2,_),(3,_),(5,_),(6,_),(7,_),(8,_),(9,_),(42,_)] ⟨rfl,rfl,rfl,rfl,rfl,rfl,rfl,rfl,trivial⟩ ?_)
    | (refine ok_region (i := 9) ?_;refine ok_p rfl rfl rfl (ps_move rfl rfl) ?_;refine ok_p rfl rfl rfl (by exact ps_add rfl rfl rfl (by omega)) ?_;refine ok_p rfl rfl rfl (ps_assign rfl rfl) ?_;refine ok_ne [(2,_),(3,_),(5,_),(6,_),(7,_),(8,_),(9,_)] ⟨rfl,rfl,rfl,rfl,rfl,rfl,rfl,trivial⟩ ?_)
    | (refine ok_region (i := 10) ?_;refine ok_p rfl rfl rfl (ps_move rfl rfl) ?_;refine ok_p rfl rfl rfl (by exact ps_field rfl rfl (isw_ga _)) ?_;refine ok_p rfl rfl rfl (by exact ps_load rfl rfl (by exact Rds.cell (rds_box 0 rfl) rfl)) ?_;refine ok_p rfl rfl rfl (by exact ps_field rfl rfl (isw_ga _)) ?_;refine ok_p rfl rfl rfl (by exact ps_load rfl rfl (by exact Rds.cell (rds_box 0 rfl) rfl)) ?_;refine ok_p rfl rfl rfl (by exact ps_field rfl rfl (isw_ga _)) ?_;refine ok_p rfl rfl rfl (by exact ps_load rfl rfl (by exact Rds.cell (rds_box 0 rfl) rfl)) ?_;refine ok_m rfl rfl rfl (by exact ms_c4 rfl rfl rfl rfl rfl (fun _ _ w hw => s_OpenBatch key (nth rows k).boot (nth rows k).seq (nth rows k).txt w (HTX.out k (by omega)))) ?_;rintro y53 hy53;refine ok_p rfl rfl rfl (ps_move rfl rfl) ?_;refine ok_p rfl rfl rfl (by exact ps_extract rfl rfl rfl) ?_;refine ok_p rfl rfl rfl (by exact ps_extract rfl rfl rfl) ?_;refine ok_p rfl rfl rfl (ps_assign rfl rfl) ?_;refine ok_p rfl rfl rfl (ps_assign rfl rfl) ?_;refine ok_ne [(2,_),(3,_),(5,_),(6,_),(7,_),(8,_),(9,_),(10,_),(11,_)] ⟨rfl,rfl,rfl,rfl,rfl,rfl,rfl,rfl,rfl,trivial⟩ ?_)
    | (refine ok_region (i := 11) ?_;refine ok_p rfl rfl rfl (by exact ps_loads rfl rfl (by exact rds_box 2 rfl) rfl rfl (by decide)) ?_;refine ok_p rfl rfl rfl (ps_move rfl rfl) ?_;refine ok_m rfl rfl rfl (by exact ms_c2 rfl rfl rfl (fun _ _ w hw => s_EngPut0 qA qc qm uA uc S sq vA vc vn (y53 0).A (y53 0).c (openF key (nth rows k).boot (nth rows k).seq (nth rows k).txt).1 w (rds_rf g1 List.mem_cons_self _ _ w hw) (RdN.keep hw G2.out List.mem_cons_self) (rds_rf g3 List.mem_cons_self _ _ w hw) (hw.row 0 rfl) gl.1 gl.2.1 GS.out gl.2.2 (by omega))) ?_;rintro y59 hy59;refine ok_p rfl rfl rfl (ps_move rfl rfl) ?_;refine ok_p rfl rfl rfl (by exact ps_extract rfl rfl rfl) ?_;refine ok_p rfl rfl rfl (by exact ps_extract rfl rfl rfl) ?_;refine ok_m rfl rfl rfl (by exact ms_alloc rfl) ?_;rintro y12 hy12;refine ok_m_ rfl rfl (by exact ms_store 0 rfl rfl rfl rfl rfl rfl rfl rfl) ?_;rintro y_ hy_;refine ok_p rfl rfl rfl (ps_assign rfl rfl) ?_;refine ok_ne [(2,_),(3,_),(5,_),(6,_),(7,_),(8,_),(9,_),(11,_),(12,_),(13,_)] ⟨rfl,rfl,rfl,rfl,rfl,rfl,rfl,rfl,rfl,rfl,trivial⟩ ?_)
    | (refine ok_region (i := 12) ?_;refine ok_p rfl rfl rfl (ps_move rfl rfl) ?_;refine ok_p rfl rfl rfl (by exact ps_not rfl rfl) ?_;refine ok_p rfl rfl rfl (ps_move rfl rfl) ?_;refine ok_pg rfl rfl rfl rfl rfl (gF _) (fun hp => by exact ps_move rfl rfl) ?_;refine ok_pg rfl rfl rfl rfl rfl (gF _) (fun hp => by (exact ps_not rfl (og rfl (by assumption)))) ?_;refine ok_p rfl rfl rfl (by exact ps_or rfl rfl rfl) ?_;refine ok_p rfl rfl rfl (ps_move rfl rfl) ?_;refine ok_pg rfl rfl rfl rfl rfl (gF _) (fun hp => by exact ps_field rfl rfl (isw_ga _)) ?_;refine ok_pg rfl rfl rfl rfl rfl (gF _) (fun hp => by (exact ps_load rfl (og rfl (by assumption)) (by exact Rds.cell (rds_box 6 rfl) rfl))) ?_;refine ok_pg rfl rfl rfl rfl rfl (gF _) (fun hp => by exact ps_field rfl rfl (isw_ga _)) ?_;refine ok_pg rfl rfl rfl rfl rfl (gF _) (fun hp => by (exact ps_load rfl (og rfl (by assumption)) (by exact Rds.cell (rds_box 8 rfl) rfl))) ?_;refine ok_pg rfl rfl rfl rfl rfl (gF _) (fun hp => by exact ps_move rfl rfl) ?_;refine ok_pg rfl rfl rfl rfl rfl (gF _) (fun hp => by (have hpd := hp;(try simp only [jA,jB,jC,jD,jE,jF,jG,jH,jI,jJ,jK,jL,jM,jN,jO,jP,jQ,jR,jS] at hpd);exact ps_add rfl (og rfl (by assumption)) (og rfl (by assumption)) (by omega))) ?_;refine ok_pg rfl rfl rfl rfl rfl (gF _) (fun hp => by (exact ps_int rfl (og rfl (by assumption)) (og rfl (by assumption)) rfl)) ?_;refine ok_p rfl rfl rfl (by exact ps_or rfl rfl rfl) ?_;refine ok_ne [(2,_),(3,_),(5,_),(6,_),(7,_),(8,_),(12,_),(76,_)] ⟨rfl,rfl,rfl,rfl,rfl,rfl,rfl,rfl,trivial⟩ ?_)
    | (refine ok_region (i := 13) ?_;refine ok_p rfl rfl rfl (ps_assign rfl rfl) ?_;refine ok_ne [(4,_)] ⟨rfl,trivial⟩ ?_)
    | (refine ok_region (i := 14) ?_;refine ok_p rfl rfl rfl (by exact ps_loads rfl rfl (by exact rds_box 0 rfl) rfl rfl (by decide)) ?_;refine ok_m_ rfl rfl (by exact ms_store 7 rfl rfl rfl rfl rfl rfl rfl rfl) ?_;rintro y_ hy_;refine ok_ne [(2,_),(3,_),(5,_),(6,_),(7,_),(8,_)] ⟨rfl,rfl,rfl,rfl,rfl,rfl,trivial⟩ ?_)
    | (refine ok_region (i := 15) ?_;refine ok_p rfl rfl rfl (by exact ps_field rfl rfl (isw_ga _)) ?_;refine ok_p rfl rfl rfl (by exact ps_load rfl rfl (by exact Rds.cell (rds_box 0 rfl) rfl)) ?_;refine ok_p rfl rfl rfl (by exact ps_len rfl rfl) ?_;refine ok_p rfl rfl rfl (by exact ps_field rfl rfl (isw_ga _)) ?_;refine ok_p rfl rfl rfl (by exact ps_field rfl rfl (isw_ga _)) ?_;refine ok_p rfl rfl rfl (by exact ps_load rfl rfl (by exact Rds.cell (rds_box 1 rfl) rfl)) ?_;refine ok_p rfl rfl rfl (by exact ps_len rfl rfl) ?_;refine ok_p rfl rfl rfl (by exact ps_int rfl rfl rfl rfl) ?_;refine ok_p rfl rfl rfl (ps_move rfl rfl) ?_;refine ok_pg rfl rfl rfl rfl rfl (gF _) (fun hp => by exact ps_field rfl rfl (isw_ga _)) ?_;refine ok_pg rfl rfl rfl rfl rfl (gF _) (fun hp => by (exact ps_field rfl (og rfl (by assumption)) (isw_ga _))) ?_;refine ok_pg rfl rfl rfl rfl rfl (gF _) (fun hp => by (exact ps_load rfl (og rfl (by assumption)) (by exact Rds.cell (rds_box 1 rfl) rfl))) ?_;refine ok_pg rfl rfl rfl rfl rfl (gF _) (fun hp => by (exact ps_len rfl (og rfl (by assumption)))) ?_;refine ok_pg rfl rfl rfl rfl rfl (gF _) (fun hp => by (exact ps_int rfl (og rfl (by assumption)) rfl rfl)) ?_;refine ok_p rfl rfl rfl (by exact ps_or rfl rfl rfl) ?_;refine ok_ne [(3,_),(5,_),(7,_),(92,_)] ⟨rfl,rfl,rfl,rfl,trivial⟩ ?_)
    | (refine ok_region (i := 16) ?_;refine ok_p rfl rfl rfl (ps_assign rfl rfl) ?_;refine ok_ne [(4,_)] ⟨rfl,trivial⟩ ?_)
    | (refine ok_region (i := 17) ?_;refine ok_p rfl rfl rfl (ps_assign rfl rfl) ?_;refine ok_ne [(3,_),(5,_),(7,_),(14,_)] ⟨rfl,rfl,rfl,rfl,trivial⟩ ?_))
  · exact fun a w' he hw => ⟨⟨k + 1,n,m,qA,qc,qm,uA,uc,S,sq,vA,vc,vn,by omega,HM.out,g1,G2.out,g3,gl,GS.out,GP.out.trans (sPlay_skip (by omega) hd)⟩,by simp only;omega,he.sub ⟨rfl,rfl,rfl,rfl,rfl,rfl,trivial⟩,hw.sel [1,2,3] (by decide) rfl (fun _ h => h)⟩
  · have hid : (nth rows k).ten = id := by assumption
    have e := GP.out.trans (sPlay_no (by omega) hid (by
      rintro ⟨a,b,c⟩
      rcases hd with (hd | hd) | hd
      · rw [a] at hd;cases hd
      · rw [b] at hd;cases hd
      · exact hd (by rw [c];omega)))
    rw [e]
    exact ok_endL (vs := [_]) rfl ⟨rfl,trivial⟩ (fun w' hw => ⟨rfl,hw.below⟩)
  · have hid : (nth rows k).ten = id := by assumption
    have e := GP.out.trans (sPlay_yes (by omega) hid ⟨hd.1.1,hd.1.2,by rw [hd.2];omega⟩)
    obtain ⟨z1,z2,z3,z4⟩ := put_need hd.1.2
    have hok : fEngOk (fEngPut ⟨qm,dats S,sq,vn⟩ (openF key (nth rows k).boot (nth rows k).seq (nth rows k).txt).1).1 = true := by rw [z4];exact z3
    clear z1 z2 z3 z4 hd hc
    generalize (fEngPut ⟨qm,dats S,sq,vn⟩ (openF key (nth rows k).boot (nth rows k).seq (nth rows k).txt).1).1 = D at e hok ⊢
    obtain ⟨l1,l2⟩ := eng_small hok
    have E := Lib.hid e;clear e
    have L2 := Lib.hid l2;clear l2
    refine fun a w' he hw => ?_
    have hdl : (locs 3 D.tabs y59).length = D.tabs.length := locs_len 3 D.tabs y59
    have hdd : dats (locs 3 D.tabs y59) = D.tabs := dats_locs 3 D.tabs y59
    obtain ⟨m',hw',hle,hrd⟩ := WOk.frz (X := engObj D y59) (H := [.box (y7 0).c 88 [.slice (y59 0).A D.mem.length (y59 0).c,.slice (y59 1).A D.tabs.length (y59 1).c,.int .i64 D.seq,.slice (y59 2).A D.snaps.length (y59 2).c],.box (y3 0).c 90 [.int .i64 id,.int .i64 ep,.int .i64 ba,.slice mA mem.length mc,.slice tA R.length tc,.int .i64 seq,.slice sA sn.length sc],.box (y2 0).c 43 [.string sec,.string mk,.slice kA slots.length kc,.int .i64 wi,.int .i64 ssz,.slice shA shn shc,.slice tnA tnn tnc,.slice rA rows.length rc,.slice hA hn hcc,.int .i64 bo]]) (hw.sel [1,2,3,4,7,8,9] (by decide) rfl (fun _ h => h))
    obtain ⟨r1,r2,r3⟩ := eng_reads hrd
    refine ⟨⟨k + 1,n + 1,m',(y59 0).A,(y59 0).c,D.mem,(y59 1).A,(y59 1).c,locs 3 D.tabs y59,D.seq,(y59 2).A,(y59 2).c,D.snaps,by omega,HM.out.trans (hle m List.mem_cons_self),r1,r2,r3,by rw [hdl];exact l1,by rw [hdd];exact L2.out,by rw [hdd];exact E.out⟩,by simp only;omega,he.sub ⟨rfl,rfl,rfl,rfl,rfl,rfl,trivial⟩,?_⟩
    simp only [hdl]
    exact hw'
  · have hq := hd
    clear hd hc
    obtain rfl : k = rows.length := by omega
    have e := GP.out
    rw [List.drop_length,sPlay] at e
    rw [e]
    have e2 : (decide (qm = mem) && decide ((dats R).length ≤ 1) && decide (n ≤ 6) && decide (ba + (n : Int) = seq)) = false := by
      rw [dats_len]
      rcases hq with hd | hd
      · rw [show decide (qm = mem) = false from decide_eq_false (fun h => hd (by rw [h]))];rfl
      · rw [show decide (R.length ≤ 1) = false from decide_eq_false (by omega)];simp
    simp only [e2]
    exact ok_endL (vs := [_]) rfl ⟨rfl,trivial⟩ (fun w' hw => ⟨rfl,hw.below⟩)
  · have hq := hd
    clear hd hc
    obtain rfl : k = rows.length := by omega
    have e := GP.out
    rw [List.drop_length,sPlay] at e
    rw [e]
    simp only [dats_len]
    clear e GP GS G2
    refine ok_loop (ι := { j : Nat // j ≤ qm.length ∧ ∀ q,q < j → nth qm q = nth mem q }) (fun j => qm.length - j.1) (fun j => ([(3,pt (ga (y3 0).c) 0),(5,.int .i64 n),(7,pt (ga (y7 0).c) 0),(14,.int .i64 j.1)],_,_)) ⟨0,by omega,fun j h => absurd h (Nat.not_lt_zero j)⟩ (fun a w he hw => ⟨⟨0,by omega,fun j h => absurd h (Nat.not_lt_zero j)⟩,he.sub ⟨rfl,rfl,rfl,rfl,trivial⟩,hw⟩) ?_
    rintro ⟨j,hj,ha⟩
    simp only at hj ⊢
    have HA := Lib.hid ha;clear ha
    repeat' (first
      | refine ok_seq ?_
      | refine ok_then ?_
      | refine ok_then_ret ?_
      | refine ok_block ?_
      | refine ok_in_normal ?_
      | refine ok_in_ret ?_
      | (refine ok_cond rfl (fun hc => ?_) (fun hc => ?_) <;> (have hd := hc;(try simp only [jA,jB,jC,jD,jE,jF,jG,jH,jI,jJ,jK,jL,jM,jN,jO,jP,jQ,jR,jS] at hd)))
      | refine ok_ret ?_
      | refine ok_exit ?_
      | refine ok_skip ?_
      | (refine ok_region (i := 18) ?_;refine ok_p rfl rfl rfl (ps_move rfl rfl) ?_;refine ok_p rfl rfl rfl (by exact ps_field rfl rfl (isw_ga _)) ?_;refine ok_p rfl rfl rfl (by exact ps_load rfl rfl (by exact Rds.cell (rds_box 0 rfl) rfl)) ?_;refine ok_p rfl rfl rfl (by exact ps_len rfl rfl) ?_;refine ok_p rfl rfl rfl (by exact ps_int rfl rfl rfl rfl) ?_;refine ok_ne [(3,_),(5,_),(7,_),(14,_),(97,_)] ⟨rfl,rfl,rfl,rfl,rfl,trivial⟩ ?_)
      | (refine ok_region (i := 19) ?_;refine ok_p rfl rfl rfl (ps_move rfl rfl) ?_;refine ok_p rfl rfl rfl (by exact ps_add rfl rfl rfl (by omega)) ?_;refine ok_p rfl rfl rfl (ps_assign rfl rfl) ?_;refine ok_ne [(3,_),(5,_),(7,_),(14,_)] ⟨rfl,rfl,rfl,rfl,trivial⟩ ?_)
      | (refine ok_draw (id := 20) 12 rfl (by kernel_rfl) (by kernel_rfl) rfl (by repeat (first | exact pq_body | refine pq_then ?_ | refine pq_in ?_)) [0,1,2,3,4,5,6,7,8,9,10,11,12,13,14,15,16,17,18,19,20,21,22,23] (by decide) rfl ?_;refine okT_take (i := 0) rfl (by kernel_rfl) rfl rfl rfl (by exact ps_field rfl rfl (isw_ga _)) ?_;refine okT_take (i := 1) rfl (by kernel_rfl) rfl rfl rfl (by exact ps_load rfl rfl (by exact Rds.cell (rds_box 0 rfl) rfl)) ?_;refine okT_take (i := 2) rfl (by kernel_rfl) rfl rfl rfl (ps_move rfl rfl) ?_;refine okT_take (i := 3) rfl (by kernel_rfl) rfl rfl rfl (by exact ps_indexN rfl rfl rfl (by omega) (by exact isw_of (isS_fl (by assumption) (by omega)))) ?_;refine okT_take (i := 4) rfl (by kernel_rfl) rfl rfl rfl (by exact ps_loads (vs := Dat.cells (nth qm j)) rfl rfl (rds_rf g1 List.mem_cons_self) (fl_sub qm j (by omega)) (Dat.len (nth qm j)) (by decide)) ?_;refine okT_take (i := 5) rfl (by kernel_rfl) rfl rfl rfl (by exact ps_field rfl rfl (isw_ga _)) ?_;refine okT_take (i := 6) rfl (by kernel_rfl) rfl rfl rfl (by exact ps_field rfl rfl (isw_ga _)) ?_;refine okT_take (i := 7) rfl (by kernel_rfl) rfl rfl rfl (by exact ps_load rfl rfl (by exact Rds.cell (rds_box 1 rfl) rfl)) ?_;refine okT_take (i := 8) rfl (by kernel_rfl) rfl rfl rfl (ps_move rfl rfl) ?_;refine okT_take (i := 9) rfl (by kernel_rfl) rfl rfl rfl (by exact ps_indexN rfl rfl rfl (by omega) (by exact isw_of (isS_fl (by assumption) (by omega)))) ?_;refine okT_take (i := 10) rfl (by kernel_rfl) rfl rfl rfl (by exact ps_loads (vs := Dat.cells (nth mem j)) rfl rfl (rds_rf h1' List.mem_cons_self) (fl_sub mem j (by omega)) (Dat.len (nth mem j)) (by decide)) ?_;refine okT_take (i := 11) rfl (by kernel_rfl) rfl rfl rfl (by exact ps_neE (nth qm j) (nth mem j) rfl rfl rfl) ?_;refine okT_done (by kernel_rfl) ?_;refine ok_ne [(3,_),(5,_),(7,_),(14,_),(111,_)] ⟨rfl,rfl,rfl,rfl,rfl,trivial⟩ ?_)
      | (refine ok_region (i := 21) ?_;refine ok_p rfl rfl rfl (ps_assign rfl rfl) ?_;refine ok_ne [(4,_)] ⟨rfl,trivial⟩ ?_)
      | (refine ok_region (i := 22) ?_;refine ok_p rfl rfl rfl (ps_move rfl rfl) ?_;refine ok_p rfl rfl rfl (by exact ps_int rfl rfl rfl rfl) ?_;refine ok_p rfl rfl rfl (ps_move rfl rfl) ?_;refine ok_pg rfl rfl rfl rfl rfl (gT _) (fun hp => by exact ps_field rfl rfl (isw_ga _)) ?_;refine ok_pg rfl rfl rfl rfl rfl (gT _) (fun hp => by (exact ps_load rfl (og rfl (by assumption)) (by exact Rds.cell (rds_box 1 rfl) rfl))) ?_;refine ok_pg rfl rfl rfl rfl rfl (gT _) (fun hp => by exact ps_move rfl rfl) ?_;refine ok_pg rfl rfl rfl rfl rfl (gT _) (fun hp => by (have hpd := hp;(try simp only [jA,jB,jC,jD,jE,jF,jG,jH,jI,jJ,jK,jL,jM,jN,jO,jP,jQ,jR,jS] at hpd);exact ps_add rfl (og rfl (by assumption)) (og rfl (by assumption)) (by omega))) ?_;refine ok_pg rfl rfl rfl rfl rfl (gT _) (fun hp => by exact ps_field rfl rfl (isw_ga _)) ?_;refine ok_pg rfl rfl rfl rfl rfl (gT _) (fun hp => by (exact ps_field rfl (og rfl (by assumption)) (isw_ga _))) ?_;refine ok_pg rfl rfl rfl rfl rfl (gT _) (fun hp => by (exact ps_load rfl (og rfl (by assumption)) (by exact Rds.cell (rds_box 1 rfl) rfl))) ?_;refine ok_pg rfl rfl rfl rfl rfl (gT _) (fun hp => by (exact ps_int rfl (og rfl (by assumption)) (og rfl (by assumption)) rfl)) ?_;refine ok_p rfl rfl rfl (by exact ps_and rfl rfl rfl) ?_;refine ok_p rfl rfl rfl (ps_assign rfl rfl) ?_;refine ok_ne [(4,_)] ⟨rfl,trivial⟩ ?_))
    · have e : decide (qm = mem) = false := decide_eq_false (fun h => hd (by rw [h]))
      rw [e]
      exact ok_endL (vs := [_]) rfl ⟨rfl,trivial⟩ (fun w' hw => ⟨rfl,hw.below⟩)
    · exact fun a w' he hw => ⟨⟨j + 1,by omega,fun q hq => by
        rcases Nat.lt_succ_iff_lt_or_eq.1 hq with h' | rfl
        · exact HA.out q h'
        · exact hd⟩,by simp only;omega,he.sub ⟨rfl,rfl,rfl,rfl,trivial⟩,hw⟩
    · obtain rfl : j = qm.length := by omega
      have e : decide (qm = mem) = true := decide_eq_true (nth_ext (by omega) HA.out)
      have e1 : decide (R.length ≤ 1) = true := decide_eq_true (by omega)
      rw [e,e1]
      have e3 : decide ((n : Int) ≤ 6) = decide (n ≤ 6) := decide_eq_decide.2 (by omega)
      exact ok_endL (vs := [_]) rfl ⟨rfl,trivial⟩ (fun w' hw => ⟨by rw [← e3];rfl,hw.below⟩)
end Go.Proofs.YtmfojbidojjciaaGreat
/- Stores that are right, by the reference. -/
namespace Go.Proofs.YtmfojbidojjciaaGreat
open Go.RowKit
attribute [local irreducible] Calls
/-- A tenant that is not too large. -/
def tenSm (t : LTen) : Prop := t.e.mem.l.length ≤ 4194304 ∧ t.e.tab.l.length ≤ 4194304 ∧ (∀ x ∈ dats t.e.tab.l,x.length ≤ 4194304) ∧ t.e.snaps.l.length ≤ 4194304
theorem tenD_map (l : List LTen) (i : Nat) (h : i < l.length) : tenD (l.map LTen.d) i = (nth l i).d := by
  simp [tenD,nth,h]
theorem st_no {s : DStore} (h : ¬ ((s.secret.size : Int) = 32 ∧ fKeyOk s.keys = true ∧ fSharesOk s.shares = true ∧ (0 ≤ s.boot ∧ s.boot ≤ 1000) ∧ s.hist.length ≤ 120 ∧ s.tens.length = s.keys.slots.length ∧ s.tens.length = s.shares.list.length)) : fStoreOk s = false := by
  rw [Bool.eq_false_iff];intro e;apply h
  unfold fStoreOk at e
  simp only [Bool.and_eq_true,decide_eq_true_eq,inB_true] at e
  obtain ⟨⟨⟨⟨⟨⟨⟨⟨h1,h2⟩,h3⟩,h4⟩,h5⟩,h6⟩,h7⟩,h8⟩,h9⟩ := e
  exact ⟨h1,h2,h3,h4,h5,h6,h7⟩
theorem st_at {s : DStore} {k : Nat} (hk : k < s.tens.length) (h : tenAt s k = false) : fStoreOk s = false := by
  rw [Bool.eq_false_iff];intro e
  unfold fStoreOk at e
  simp only [Bool.and_eq_true,decide_eq_true_eq,inB_true] at e
  have := allR_at e.1.2 hk
  rw [h] at this;cases this
theorem st_row {s : DStore} {k : Nat} (hk : k < s.rows.length) (h : (s.tens.any fun t => decide (t.id = (nth s.rows k).ten)) = false) : fStoreOk s = false := by
  rw [Bool.eq_false_iff];intro e
  unfold fStoreOk at e
  rw [Bool.and_eq_true] at e
  have := List.all_eq_true.1 e.2 _ (nth_mem s.rows k hk)
  rw [h] at this;cases this
theorem st_yes {s : DStore} (h : (s.secret.size : Int) = 32 ∧ fKeyOk s.keys = true ∧ fSharesOk s.shares = true ∧ (0 ≤ s.boot ∧ s.boot ≤ 1000) ∧ s.hist.length ≤ 120 ∧ s.tens.length = s.keys.slots.length ∧ s.tens.length = s.shares.list.length) (ha : ∀ k,k < s.tens.length → tenAt s k = true) (hr : ∀ k,k < s.rows.length → (s.tens.any fun t => decide (t.id = (nth s.rows k).ten)) = true) : fStoreOk s = true := by
  unfold fStoreOk
  simp only [Bool.and_eq_true,decide_eq_true_eq,inB_true]
  obtain ⟨h1,h2,h3,h4,h5,h6,h7⟩ := h
  exact ⟨⟨⟨⟨⟨⟨⟨⟨h1,h2⟩,h3⟩,h4⟩,h5⟩,h6⟩,h7⟩,allR_yes ha⟩,List.all_eq_true.2 (mem_nth hr)⟩
theorem st_ten {s : DStore} {k : Nat} {l : List LTen} (hs : s.tens = l.map LTen.d) (hk : k < l.length) : tenAt s k = (decide ((nth s.keys.slots k).ten = (nth l k).id) && decide ((nth s.shares.list k).ten = (nth l k).id) && (inB (nth l k).ep 0 1000000 && inB (nth l k).ba 0 1000000 && fEngOk (nth l k).e.d && decide ((nth l k).e.snaps.l.length ≤ 2) && mineF (keyOf s.keys (nth l k).id) s.rows (nth l k).d)) := by
  unfold tenAt fTenOk
  rw [hs,tenD_map l k hk]
structure StI (n : Nat) (s : DStore) where
  k : Nat
  hk : k ≤ n
  ha : ∀ j,j < k → tenAt s j = true
structure SrI (s : DStore) where
  k : Nat
  hk : k ≤ s.rows.length
  ha : ∀ j,j < k → (s.tens.any fun t => decide (t.id = (nth s.rows j).ten)) = true
theorem s_StoreOk0 (sec mk : ByteArray) (kA : Option Addr) (kc : Nat) (slots : List KeySlot) (wi ssz : Int) (shA : Option Addr) (shc : Nat) (shl : List Share) (tnA : Option Addr) (tnc : Nat) (tens : List LTen) (rA : Option Addr) (rc : Nat) (rows : List LogRow) (hA : Option Addr) (hcc : Nat) (hist : List LogRow) (bo : Int)
    (w : World) (hk : Rd w kA (fl slots)) (hsh : Rd w shA (fl shl)) (ht : Rd w tnA (fl tens)) (htr : tensRd w tens) (hr : Rd w rA (fl rows)) (hl0 : slots.length ≤ 4194304) (hl1 : shl.length ≤ 4194304) (hl2 : tens.length ≤ 4194304) (hl3 : rows.length ≤ 4194304) (hl4 : hist.length ≤ 4194304) (htx : ∀ k,k < rows.length → (nth rows k).txt.size ≤ 4194304) (hsm : ∀ k,k < tens.length → tenSm (nth tens k)) :
    Calls Tryz.prog 40 #[.agg #[.string sec,.string mk,.slice kA slots.length kc,.int .i64 wi,.int .i64 ssz,.slice shA shl.length shc,.slice tnA tens.length tnc,.slice rA rows.length rc,.slice hA hist.length hcc,.int .i64 bo]] w fun e w' => e = .returned (.bool (fStoreOk ⟨sec,⟨mk,slots,wi⟩,⟨ssz,shl⟩,tens.map LTen.d,rows,hist,bo⟩)) ∧ Below w.heap.size w w' := by
  have HTX := Lib.hid htx;clear htx
  have HSM := Lib.hid hsm;clear hsm
  have HTR := Lib.hid htr;clear htr
  have hml : (tens.map LTen.d).length = tens.length := List.length_map ..
  refine ok_enter 136 Tryz.func40 rfl rfl rfl ?_
  repeat' (first
    | refine ok_seq ?_
    | refine ok_then ?_
    | refine ok_then_ret ?_
    | refine ok_block ?_
    | (refine ok_cond rfl (fun hc => ?_) (fun hc => ?_) <;> (have hd := hc;(try simp only [jA,jB,jC,jD,jE,jF,jG,jH,jI,jJ,jK,jL,jM,jN,jO,jP,jQ,jR,jS] at hd)))
    | refine ok_ret ?_
    | refine ok_skip ?_
    | (refine ok_region (i := 0) ?_;refine ok_m rfl rfl rfl (by exact ms_box rfl rfl rfl) ?_;rintro y1 hy1;refine ok_p rfl rfl rfl (ps_assign rfl rfl) ?_;refine ok_ne [(1,_)] ⟨rfl,trivial⟩ ?_)
    | (refine ok_region (i := 1) ?_;refine ok_p rfl rfl rfl (by exact ps_field rfl rfl (isw_ga _)) ?_;refine ok_p rfl rfl rfl (by exact ps_load rfl rfl (by exact Rds.cell (rds_box 0 rfl) rfl)) ?_;refine ok_p rfl rfl rfl (by exact ps_slen rfl rfl) ?_;refine ok_p rfl rfl rfl (by exact ps_int rfl rfl rfl rfl) ?_;refine ok_p rfl rfl rfl (ps_move rfl rfl) ?_;refine ok_pg rfl rfl rfl rfl rfl (gF _) (fun hp => by exact ps_field rfl rfl (isw_ga _)) ?_;refine ok_pg rfl rfl rfl rfl rfl (gF _) (fun hp => by (exact ps_loads rfl (og rfl (by assumption)) (by exact rds_box 0 rfl) rfl rfl (by decide))) ?_;refine ok_mg rfl rfl rfl rfl rfl (gF _) (fun hp => by (exact ms_s1 rfl (og rfl (by assumption)) (fun _ _ w hw => s_KeyOk0 mk kA kc slots wi w (rds_rf hk List.mem_cons_self _ _ w hw) hl0))) ?_;refine ok_pg rfl rfl rfl rfl rfl (gF _) (fun hp => by (exact ps_not rfl (og rfl (by assumption)))) ?_;refine ok_p rfl rfl rfl (by exact ps_or rfl rfl rfl) ?_;refine ok_p rfl rfl rfl (ps_move rfl rfl) ?_;refine ok_pg rfl rfl rfl rfl rfl (gF _) (fun hp => by exact ps_field rfl rfl (isw_ga _)) ?_;refine ok_pg rfl rfl rfl rfl rfl (gF _) (fun hp => by (exact ps_loads rfl (og rfl (by assumption)) (by exact rds_box 0 rfl) rfl rfl (by decide))) ?_;refine ok_mg rfl rfl rfl rfl rfl (gF _) (fun hp => by (exact ms_s1 rfl (og rfl (by assumption)) (fun _ _ w hw => s_SharesOk0 ssz shA shc shl w (rds_rf hsh List.mem_cons_self _ _ w hw) hl1))) ?_;refine ok_pg rfl rfl rfl rfl rfl (gF _) (fun hp => by (exact ps_not rfl (og rfl (by assumption)))) ?_;refine ok_p rfl rfl rfl (by exact ps_or rfl rfl rfl) ?_;refine ok_p rfl rfl rfl (ps_move rfl rfl) ?_;refine ok_pg rfl rfl rfl rfl rfl (gF _) (fun hp => by exact ps_field rfl rfl (isw_ga _)) ?_;refine ok_pg rfl rfl rfl rfl rfl (gF _) (fun hp => by (exact ps_load rfl (og rfl (by assumption)) (by exact Rds.cell (rds_box 0 rfl) rfl))) ?_;refine ok_pg rfl rfl rfl rfl rfl (gF _) (fun hp => by (exact ps_len rfl (og rfl (by assumption)))) ?_;refine ok_pg rfl rfl rfl rfl rfl (gF _) (fun hp => by exact ps_field rfl rfl (isw_ga _)) ?_;refine ok_pg rfl rfl rfl rfl rfl (gF _) (fun hp => by (exact ps_field rfl (og rfl (by assumption)) (isw_ga _))) ?_;refine ok_pg rfl rfl rfl rfl rfl (gF _) (fun hp => by (exact ps_load rfl (og rfl (by assumption)) (by exact Rds.cell (rds_box 0 rfl) rfl))) ?_;refine ok_pg rfl rfl rfl rfl rfl (gF _) (fun hp => by (exact ps_len rfl (og rfl (by assumption)))) ?_;refine ok_pg rfl rfl rfl rfl rfl (gF _) (fun hp => by (exact ps_int rfl (og rfl (by assumption)) (og rfl (by assumption)) rfl)) ?_;refine ok_p rfl rfl rfl (by exact ps_or rfl rfl rfl) ?_;refine ok_p rfl rfl rfl (ps_move rfl rfl) ?_;refine ok_pg rfl rfl rfl rfl rfl (gF _) (fun hp => by exact ps_field rfl rfl (isw_ga _)) ?_;refine ok_pg rfl rfl rfl rfl rfl (gF _) (fun hp => by (exact ps_load rfl (og rfl (by assumption)) (by exact Rds.cell (rds_box 0 rfl) rfl))) ?_;refine ok_pg rfl rfl rfl rfl rfl (gF _) (fun hp => by (exact ps_len rfl (og rfl (by assumption)))) ?_;refine ok_pg rfl rfl rfl rfl rfl (gF _) (fun hp => by exact ps_field rfl rfl (isw_ga _)) ?_;refine ok_pg rfl rfl rfl rfl rfl (gF _) (fun hp => by (exact ps_field rfl (og rfl (by assumption)) (isw_ga _))) ?_;refine ok_pg rfl rfl rfl rfl rfl (gF _) (fun hp => by (exact ps_load rfl (og rfl (by assumption)) (by exact Rds.cell (rds_box 0 rfl) rfl))) ?_;refine ok_pg rfl rfl rfl rfl rfl (gF _) (fun hp => by (exact ps_len rfl (og rfl (by assumption)))) ?_;refine ok_pg rfl rfl rfl rfl rfl (gF _) (fun hp => by (exact ps_int rfl (og rfl (by assumption)) (og rfl (by assumption)) rfl)) ?_;refine ok_p rfl rfl rfl (by exact ps_or rfl rfl rfl) ?_;refine ok_p rfl rfl rfl (ps_move rfl rfl) ?_;refine ok_pg rfl rfl rfl rfl rfl (gF _) (fun hp => by exact ps_field rfl rfl (isw_ga _)) ?_;refine ok_pg rfl rfl rfl rfl rfl (gF _) (fun hp => by (exact ps_load rfl (og rfl (by assumption)) (by exact Rds.cell (rds_box 0 rfl) rfl))) ?_;refine ok_mg rfl rfl rfl rfl rfl (gF _) (fun hp => by (exact ms_s3 rfl (og rfl (by assumption)) rfl rfl (fun _ _ w hw => in_s _ _ _ w))) ?_;refine ok_pg rfl rfl rfl rfl rfl (gF _) (fun hp => by (exact ps_not rfl (og rfl (by assumption)))) ?_;refine ok_p rfl rfl rfl (by exact ps_or rfl rfl rfl) ?_;refine ok_p rfl rfl rfl (ps_move rfl rfl) ?_;refine ok_pg rfl rfl rfl rfl rfl (gF _) (fun hp => by exact ps_field rfl rfl (isw_ga _)) ?_;refine ok_pg rfl rfl rfl rfl rfl (gF _) (fun hp => by (exact ps_load rfl (og rfl (by assumption)) (by exact Rds.cell (rds_box 0 rfl) rfl))) ?_;refine ok_pg rfl rfl rfl rfl rfl (gF _) (fun hp => by (exact ps_len rfl (og rfl (by assumption)))) ?_;refine ok_pg rfl rfl rfl rfl rfl (gF _) (fun hp => by (exact ps_int rfl (og rfl (by assumption)) rfl rfl)) ?_;refine ok_p rfl rfl rfl (by exact ps_or rfl rfl rfl) ?_;refine ok_ne [(1,_),(53,_)] ⟨rfl,rfl,trivial⟩ ?_)
    | (refine ok_region (i := 2) ?_;refine ok_p rfl rfl rfl (ps_assign rfl rfl) ?_;refine ok_ne [(2,_)] ⟨rfl,trivial⟩ ?_)
    | (refine ok_region (i := 3) ?_;refine ok_p rfl rfl rfl (ps_assign rfl rfl) ?_;refine ok_ne [(1,_),(3,_)] ⟨rfl,rfl,trivial⟩ ?_))
  · have e : fStoreOk ⟨sec,⟨mk,slots,wi⟩,⟨ssz,shl⟩,tens.map LTen.d,rows,hist,bo⟩ = false := st_no (by
      simp only [hml]
      rintro ⟨g1,g2,g3,g4,g5,g6,g7⟩
      simp [g1,g2,g3,g6] at hd
      omega)
    rw [e]
    exact ok_endL (vs := [_]) rfl ⟨rfl,trivial⟩ (fun w' hw => ⟨rfl,hw.below⟩)
  have hhead : (sec.size : Int) = 32 ∧ fKeyOk ⟨mk,slots,wi⟩ = true ∧ fSharesOk ⟨ssz,shl⟩ = true ∧ (0 ≤ bo ∧ bo ≤ 1000) ∧ hist.length ≤ 120 ∧ (tens.map LTen.d).length = slots.length ∧ (tens.map LTen.d).length = shl.length := by
    rw [hml]
    obtain ⟨⟨⟨⟨⟨⟨g1,g2⟩,g3⟩,g4⟩,g5⟩,g6⟩,g7⟩ := hd
    exact ⟨g1,g2,g3,g6,by omega,by omega,by omega⟩
  have hgs : tens.length = slots.length ∧ tens.length = shl.length := by rw [hml] at hhead;exact ⟨hhead.2.2.2.2.2.1,hhead.2.2.2.2.2.2⟩
  clear hc hd
  obtain ⟨D,hD⟩ : ∃ D : DStore,D = ⟨sec,⟨mk,slots,wi⟩,⟨ssz,shl⟩,tens.map LTen.d,rows,hist,bo⟩ := ⟨_,rfl⟩
  rw [← hD]
  have hT : ∀ k,k < tens.length → tenAt D k = (decide ((nth slots k).ten = (nth tens k).id) && decide ((nth shl k).ten = (nth tens k).id) && (inB (nth tens k).ep 0 1000000 && inB (nth tens k).ba 0 1000000 && fEngOk (nth tens k).e.d && decide ((nth tens k).e.snaps.l.length ≤ 2) && mineF (keyOf ⟨mk,slots,wi⟩ (nth tens k).id) rows (nth tens k).d)) := fun k hk => by subst hD;exact st_ten rfl hk
  have hno : ∀ k,k < tens.length → tenAt D k = false → fStoreOk D = false := fun k hk h => st_at (by subst hD;simpa using hk) h
  have hrn : ∀ k,k < rows.length → tensF tens (nth rows k).ten < 0 → fStoreOk D = false := fun k hk h => by
    subst hD
    refine st_row (k := k) hk ?_
    have := tens_any tens (nth rows k).ten
    rw [decide_eq_true h] at this
    simpa using this.symm
  have hye : (∀ k,k < tens.length → tenAt D k = true) → (∀ k,k < rows.length → ¬ tensF tens (nth rows k).ten < 0) → fStoreOk D = true := fun h1 h2 => by
    subst hD
    refine st_yes hhead (fun k hk => h1 k (by simpa using hk)) (fun k hk => ?_)
    have := tens_any tens (nth rows k).ten
    rw [decide_eq_false (h2 k hk)] at this
    simpa using this.symm
  clear hhead hml
  have HT := Lib.hid hT;clear hT
  have HNO := Lib.hid hno;clear hno
  have HRN := Lib.hid hrn;clear hrn
  have HYE := Lib.hid hye;clear hye
  clear hD
  refine ok_loop (ι := { k : Nat // k ≤ tens.length ∧ ∀ j,j < k → tenAt D j = true }) (fun k => tens.length - k.1) (fun k => ([(1,pt (ga (y1 0).c) 0),(3,.int .i64 k.1)],_,_)) ⟨0,by omega,fun j h => absurd h (Nat.not_lt_zero j)⟩ (fun a w he hw => ⟨⟨0,by omega,fun j h => absurd h (Nat.not_lt_zero j)⟩,he.sub ⟨rfl,rfl,trivial⟩,hw⟩) ?_
  rintro ⟨k,hk2,ha⟩
  simp only at hk2 ⊢
  have HA := Lib.hid ha;clear ha
  have hrd : k < tens.length → Rd w (nth tens k).e.mem.A (fl (nth tens k).e.mem.l) ∧ RdN w (nth tens k).e.tab.A (nth tens k).e.tab.l ∧ Rd w (nth tens k).e.snaps.A (fl (nth tens k).e.snaps.l) := fun h => ⟨(HTR.out k h).mem,(HTR.out k h).tab,(HTR.out k h).snaps⟩
  have HRD := Lib.hid hrd;clear hrd
  repeat' (first
    | refine ok_seq ?_
    | refine ok_then ?_
    | refine ok_then_ret ?_
    | refine ok_block ?_
    | refine ok_in_normal ?_
    | refine ok_in_ret ?_
    | (refine ok_cond rfl (fun hc => ?_) (fun hc => ?_) <;> (have hd := hc;(try simp only [jA,jB,jC,jD,jE,jF,jG,jH,jI,jJ,jK,jL,jM,jN,jO,jP,jQ,jR,jS] at hd)))
    | refine ok_ret ?_
    | refine ok_exit ?_
    | refine ok_skip ?_
    | (refine ok_region (i := 4) ?_;refine ok_p rfl rfl rfl (ps_move rfl rfl) ?_;refine ok_p rfl rfl rfl (by exact ps_field rfl rfl (isw_ga _)) ?_;refine ok_p rfl rfl rfl (by exact ps_load rfl rfl (by exact Rds.cell (rds_box 0 rfl) rfl)) ?_;refine ok_p rfl rfl rfl (by exact ps_len rfl rfl) ?_;refine ok_p rfl rfl rfl (by exact ps_int rfl rfl rfl rfl) ?_;refine ok_ne [(1,_),(3,_),(58,_)] ⟨rfl,rfl,rfl,trivial⟩ ?_)
    | (refine ok_region (i := 5) ?_;refine ok_p rfl rfl rfl (ps_move rfl rfl) ?_;refine ok_p rfl rfl rfl (by exact ps_add rfl rfl rfl (by omega)) ?_;refine ok_p rfl rfl rfl (ps_assign rfl rfl) ?_;refine ok_ne [(1,_),(3,_)] ⟨rfl,rfl,trivial⟩ ?_)
    | (refine ok_region (i := 6) ?_;refine ok_p rfl rfl rfl (by exact ps_field rfl rfl (isw_ga _)) ?_;refine ok_p rfl rfl rfl (by exact ps_load rfl rfl (by exact Rds.cell (rds_box 0 rfl) rfl)) ?_;refine ok_p rfl rfl rfl (ps_move rfl rfl) ?_;refine ok_p rfl rfl rfl (by exact ps_indexN rfl rfl rfl (by omega) (by exact isw_of (isS_fl (by assumption) (by omega)))) ?_;refine ok_p rfl rfl rfl (by exact ps_loadsF rfl rfl (by exact rds_rf (by assumption) List.mem_cons_self) (by rfl) (by rfl) (by omega) rfl) ?_;refine ok_m rfl rfl rfl (by exact ms_alloc rfl) ?_;rintro y4 hy4;refine ok_m_ rfl rfl (by exact ms_store 0 rfl rfl rfl rfl rfl rfl rfl rfl) ?_;rintro y_ hy_;refine ok_ne [(1,_),(3,_),(4,_)] ⟨rfl,rfl,rfl,trivial⟩ ?_)
    | (refine ok_draw (id := 7) 53 rfl (by kernel_rfl) (by kernel_rfl) rfl (by repeat (first | exact pq_body | refine pq_then ?_ | refine pq_in ?_)) [0,1,2,3,4,5,6,7,8,9,10,11,12,13,14,15,16,17,18,19,20,21,22,23] (by decide) rfl ?_;refine okT_take (i := 0) rfl (by kernel_rfl) rfl rfl rfl (by exact ps_field rfl rfl (isw_ga _)) ?_;refine okT_take (i := 1) rfl (by kernel_rfl) rfl rfl rfl (by exact ps_load rfl rfl (by exact Rds.cell (rds_box 0 rfl) rfl)) ?_;refine okT_take (i := 2) rfl (by kernel_rfl) rfl rfl rfl (by exact ps_field rfl rfl (isw_ga _)) ?_;refine okT_take (i := 3) rfl (by kernel_rfl) rfl rfl rfl (by exact ps_field rfl rfl (isw_ga _)) ?_;refine okT_take (i := 4) rfl (by kernel_rfl) rfl rfl rfl (by exact ps_load rfl rfl (by exact Rds.cell (rds_box 1 rfl) rfl)) ?_;refine okT_take (i := 5) rfl (by kernel_rfl) rfl rfl rfl (ps_move rfl rfl) ?_;refine okT_take (i := 6) rfl (by kernel_rfl) rfl rfl rfl (by exact ps_indexN rfl rfl rfl (by omega) (by exact isw_of (isS_fl (by assumption) (by omega)))) ?_;refine okT_take (i := 7) rfl (by kernel_rfl) rfl rfl rfl (by exact ps_field rfl rfl (by exact isw_of (isS_fl (by assumption) (by omega)))) ?_;refine okT_take (i := 8) rfl (by kernel_rfl) rfl rfl rfl (by exact ps_load rfl rfl (by exact Rds.cell (rds_rf (by assumption) List.mem_cons_self) (by exact fl_at0 _ _ (by omega) (by decide)))) ?_;refine okT_take (i := 9) rfl (by kernel_rfl) rfl rfl rfl (by exact ps_int rfl rfl rfl rfl) ?_;refine okT_take (i := 10) rfl (by kernel_rfl) rfl rfl rfl (ps_move rfl rfl) ?_;refine okT_take_g1 (i := 11) rfl (by kernel_rfl) rfl rfl rfl rfl rfl (gF _) (fun hp => by exact ps_field rfl rfl (isw_ga _)) ?_;refine okT_take_g1 (i := 12) rfl (by kernel_rfl) rfl rfl rfl rfl rfl (gF _) (fun hp => by (exact ps_load rfl (og rfl (by assumption)) (by exact Rds.cell (rds_box 0 rfl) rfl))) ?_;refine okT_take_g1 (i := 13) rfl (by kernel_rfl) rfl rfl rfl rfl rfl (gF _) (fun hp => by exact ps_field rfl rfl (isw_ga _)) ?_;refine okT_take_g1 (i := 14) rfl (by kernel_rfl) rfl rfl rfl rfl rfl (gF _) (fun hp => by (exact ps_field rfl (og rfl (by assumption)) (isw_ga _))) ?_;refine okT_take_g1 (i := 15) rfl (by kernel_rfl) rfl rfl rfl rfl rfl (gF _) (fun hp => by (exact ps_load rfl (og rfl (by assumption)) (by exact Rds.cell (rds_box 1 rfl) rfl))) ?_;refine okT_take_g1 (i := 16) rfl (by kernel_rfl) rfl rfl rfl rfl rfl (gF _) (fun hp => by exact ps_move rfl rfl) ?_;refine okT_take_g1 (i := 17) rfl (by kernel_rfl) rfl rfl rfl rfl rfl (gF _) (fun hp => by (have hpd := hp;(try simp only [jA,jB,jC,jD,jE,jF,jG,jH,jI,jJ,jK,jL,jM,jN,jO,jP,jQ,jR,jS] at hpd);exact ps_indexN rfl (og rfl (by assumption)) (og rfl (by assumption)) (by omega) (by exact isw_of (isS_fl (by assumption) (by omega))))) ?_;refine okT_take_g1 (i := 18) rfl (by kernel_rfl) rfl rfl rfl rfl rfl (gF _) (fun hp => by (have hpd := hp;(try simp only [jA,jB,jC,jD,jE,jF,jG,jH,jI,jJ,jK,jL,jM,jN,jO,jP,jQ,jR,jS] at hpd);exact ps_field rfl (og rfl (by assumption)) (by exact isw_of (isS_fl (by assumption) (by omega))))) ?_;refine okT_take_g1 (i := 19) rfl (by kernel_rfl) rfl rfl rfl rfl rfl (gF _) (fun hp => by (have hpd := hp;(try simp only [jA,jB,jC,jD,jE,jF,jG,jH,jI,jJ,jK,jL,jM,jN,jO,jP,jQ,jR,jS] at hpd);exact ps_load rfl (og rfl (by assumption)) (by exact Rds.cell (rds_rf (by assumption) List.mem_cons_self) (by exact fl_at0 _ _ (by omega) (by decide))))) ?_;refine okT_take_g1 (i := 20) rfl (by kernel_rfl) rfl rfl rfl rfl rfl (gF _) (fun hp => by (exact ps_int rfl (og rfl (by assumption)) (og rfl (by assumption)) rfl)) ?_;refine okT_take (i := 21) rfl (by kernel_rfl) rfl rfl rfl (by exact ps_or rfl rfl rfl) ?_;refine okT_take (i := 22) rfl (by kernel_rfl) rfl rfl rfl (ps_move rfl rfl) ?_;refine okT_take_g1 (i := 23) rfl (by kernel_rfl) rfl rfl rfl rfl rfl (gF _) (fun hp => by exact ps_field rfl rfl (isw_ga _)) ?_;refine okT_take_g1 (i := 24) rfl (by kernel_rfl) rfl rfl rfl rfl rfl (gF _) (fun hp => by (exact ps_load rfl (og rfl (by assumption)) (by exact Rds.cell (rds_box 0 rfl) rfl))) ?_;refine okT_one_g1 (i := 25) rfl rfl (by kernel_rfl) rfl rfl rfl rfl rfl (gF _) (fun hp => by (exact ms_s3 rfl (og rfl (by assumption)) rfl rfl (fun _ _ w hw => in_s _ _ _ w))) (fun w h => by exact h) ?_;refine okT_take_g1 (i := 26) rfl (by kernel_rfl) rfl rfl rfl rfl rfl (gF _) (fun hp => by (exact ps_not rfl (og rfl (by assumption)))) ?_;refine okT_take (i := 27) rfl (by kernel_rfl) rfl rfl rfl (by exact ps_or rfl rfl rfl) ?_;refine okT_take (i := 28) rfl (by kernel_rfl) rfl rfl rfl (ps_move rfl rfl) ?_;refine okT_take_g1 (i := 29) rfl (by kernel_rfl) rfl rfl rfl rfl rfl (gF _) (fun hp => by exact ps_field rfl rfl (isw_ga _)) ?_;refine okT_take_g1 (i := 30) rfl (by kernel_rfl) rfl rfl rfl rfl rfl (gF _) (fun hp => by (exact ps_load rfl (og rfl (by assumption)) (by exact Rds.cell (rds_box 0 rfl) rfl))) ?_;refine okT_one_g1 (i := 31) rfl rfl (by kernel_rfl) rfl rfl rfl rfl rfl (gF _) (fun hp => by (exact ms_s3 rfl (og rfl (by assumption)) rfl rfl (fun _ _ w hw => in_s _ _ _ w))) (fun w h => by exact h) ?_;refine okT_take_g1 (i := 32) rfl (by kernel_rfl) rfl rfl rfl rfl rfl (gF _) (fun hp => by (exact ps_not rfl (og rfl (by assumption)))) ?_;refine okT_take (i := 33) rfl (by kernel_rfl) rfl rfl rfl (by exact ps_or rfl rfl rfl) ?_;refine okT_take (i := 34) rfl (by kernel_rfl) rfl rfl rfl (ps_move rfl rfl) ?_;refine okT_take_g1 (i := 35) rfl (by kernel_rfl) rfl rfl rfl rfl rfl (gF _) (fun hp => by exact ps_field rfl rfl (isw_ga _)) ?_;refine okT_take_g1 (i := 36) rfl (by kernel_rfl) rfl rfl rfl rfl rfl (gF _) (fun hp => by (exact ps_loads rfl (og rfl (by assumption)) (by exact rds_box 0 rfl) rfl rfl (by decide))) ?_;refine okT_one_g1 (i := 37) rfl rfl (by kernel_rfl) rfl rfl rfl rfl rfl (gF _) (fun hp => by (have hpd := hp;(try simp only [jA,jB,jC,jD,jE,jF,jG,jH,jI,jJ,jK,jL,jM,jN,jO,jP,jQ,jR,jS] at hpd);exact ms_s1 rfl (og rfl (by assumption)) (fun _ _ w hw => s_EngOk0 (nth tens k).e.mem.A (nth tens k).e.mem.c (nth tens k).e.mem.l (nth tens k).e.tab.A (nth tens k).e.tab.c (nth tens k).e.tab.l (nth tens k).e.seq (nth tens k).e.snaps.A (nth tens k).e.snaps.c (nth tens k).e.snaps.l w (rds_rf (HRD.out (by omega)).1 List.mem_cons_self _ _ w hw) (RdN.keep hw (HRD.out (by omega)).2.1 List.mem_cons_self) (rds_rf (HRD.out (by omega)).2.2 List.mem_cons_self _ _ w hw) (HSM.out k (by omega)).1 (HSM.out k (by omega)).2.1 (HSM.out k (by omega)).2.2.1 (HSM.out k (by omega)).2.2.2))) (fun w h => by exact h) ?_;refine okT_take_g1 (i := 38) rfl (by kernel_rfl) rfl rfl rfl rfl rfl (gF _) (fun hp => by (exact ps_not rfl (og rfl (by assumption)))) ?_;refine okT_take (i := 39) rfl (by kernel_rfl) rfl rfl rfl (by exact ps_or rfl rfl rfl) ?_;refine okT_take (i := 40) rfl (by kernel_rfl) rfl rfl rfl (ps_move rfl rfl) ?_;refine okT_take_g1 (i := 41) rfl (by kernel_rfl) rfl rfl rfl rfl rfl (gF _) (fun hp => by exact ps_field rfl rfl (isw_ga _)) ?_;refine okT_take_g1 (i := 42) rfl (by kernel_rfl) rfl rfl rfl rfl rfl (gF _) (fun hp => by (exact ps_field rfl (og rfl (by assumption)) (isw_ga _))) ?_;refine okT_take_g1 (i := 43) rfl (by kernel_rfl) rfl rfl rfl rfl rfl (gF _) (fun hp => by (exact ps_load rfl (og rfl (by assumption)) (by exact Rds.cell (rds_box 0 rfl) rfl))) ?_;refine okT_take_g1 (i := 44) rfl (by kernel_rfl) rfl rfl rfl rfl rfl (gF _) (fun hp => by (exact ps_len rfl (og rfl (by assumption)))) ?_;refine okT_take_g1 (i := 45) rfl (by kernel_rfl) rfl rfl rfl rfl rfl (gF _) (fun hp => by (exact ps_int rfl (og rfl (by assumption)) rfl rfl)) ?_;refine okT_take (i := 46) rfl (by kernel_rfl) rfl rfl rfl (by exact ps_or rfl rfl rfl) ?_;refine okT_take (i := 47) rfl (by kernel_rfl) rfl rfl rfl (ps_move rfl rfl) ?_;refine okT_take_g1 (i := 48) rfl (by kernel_rfl) rfl rfl rfl rfl rfl (gF _) (fun hp => by exact ps_loads rfl rfl (by exact rds_box 1 rfl) rfl rfl (by decide)) ?_;refine okT_take_g1 (i := 49) rfl (by kernel_rfl) rfl rfl rfl rfl rfl (gF _) (fun hp => by exact ps_loads rfl rfl (by exact rds_box 0 rfl) rfl rfl (by decide)) ?_;refine okT_one_g1 (i := 50) rfl rfl (by kernel_rfl) rfl rfl rfl rfl rfl (gF _) (fun hp => by (have hpd := hp;(try simp only [jA,jB,jC,jD,jE,jF,jG,jH,jI,jJ,jK,jL,jM,jN,jO,jP,jQ,jR,jS] at hpd);exact ms_s2 rfl (og rfl (by assumption)) (og rfl (by assumption)) (fun _ _ w hw => l22Mine0 sec mk kA kc slots wi ssz shA shl.length shc tnA tens.length tnc rA rc rows hA hist.length hcc bo (nth tens k).id (nth tens k).ep (nth tens k).ba (nth tens k).e.mem.A (nth tens k).e.mem.c (nth tens k).e.mem.l (nth tens k).e.tab.A (nth tens k).e.tab.c (nth tens k).e.tab.l (nth tens k).e.seq (nth tens k).e.snaps.A (nth tens k).e.snaps.c (nth tens k).e.snaps.l w (rds_rf hk List.mem_cons_self _ _ w hw) (rds_rf hr List.mem_cons_self _ _ w hw) (rds_rf (HRD.out (by omega)).1 List.mem_cons_self _ _ w hw) (RdN.keep hw (HRD.out (by omega)).2.1 List.mem_cons_self) (by omega) hl0 hl3 HTX.out (HSM.out k (by omega)).1 (HSM.out k (by omega)).2.1 (HSM.out k (by omega)).2.2.1))) (fun w h => by exact h) ?_;refine okT_take_g1 (i := 51) rfl (by kernel_rfl) rfl rfl rfl rfl rfl (gF _) (fun hp => by (exact ps_not rfl (og rfl (by assumption)))) ?_;refine okT_take (i := 52) rfl (by kernel_rfl) rfl rfl rfl (by exact ps_or rfl rfl rfl) ?_;refine okT_done (by kernel_rfl) ?_;refine ok_ne [(1,_),(3,_),(118,_)] ⟨rfl,rfl,rfl,trivial⟩ ?_)
    | (refine ok_region (i := 8) ?_;refine ok_p rfl rfl rfl (ps_assign rfl rfl) ?_;refine ok_ne [(2,_)] ⟨rfl,trivial⟩ ?_)
    | (refine ok_region (i := 9) ?_;refine ok_p rfl rfl rfl (ps_assign rfl rfl) ?_;refine ok_ne [(1,_),(5,_)] ⟨rfl,rfl,trivial⟩ ?_))
  · have e : fStoreOk D = false := HNO.out k (by omega) (by
      rw [HT.out k (by omega),Bool.eq_false_iff];intro h
      simp only [Bool.and_eq_true,decide_eq_true_eq,inB_true] at h
      obtain ⟨⟨h1,h2⟩,⟨⟨⟨h3,h4⟩,h5⟩,h6⟩,h7⟩ := h
      rcases hd with (((((q | q) | q) | q) | q) | q) | q
      · exact q h1.symm
      · exact q h2.symm
      · omega
      · omega
      · exact absurd (h5.symm.trans q) (by decide)
      · omega
      · exact absurd (h7.symm.trans q) (by decide))
    rw [e]
    exact ok_endL (vs := [_]) rfl ⟨rfl,trivial⟩ (fun w' hw => ⟨rfl,hw.below⟩)
  · exact fun a w' he hw => ⟨⟨k + 1,by omega,fun j hj => by
      rcases Nat.lt_succ_iff_lt_or_eq.1 hj with h' | rfl
      · exact HA.out j h'
      · rw [HT.out j (by omega)]
        simp only [Bool.and_eq_true,decide_eq_true_eq,inB_true]
        obtain ⟨⟨⟨⟨⟨⟨q1,q2⟩,q3⟩,q4⟩,q5⟩,q6⟩,q7⟩ := hd
        exact ⟨⟨q1.symm,q2.symm⟩,⟨⟨⟨q3,q4⟩,q5⟩,by omega⟩,q7⟩⟩,by simp only;omega,he.sub ⟨rfl,rfl,trivial⟩,hw.sel [1] (by decide) rfl (fun _ h => h)⟩
  · have hkk : k = tens.length := by omega
    subst hkk
    clear hc hd HNO HT HRD
    refine ok_loop (ι := { k : Nat // k ≤ rows.length ∧ ∀ j,j < k → ¬ tensF tens (nth rows j).ten < 0 }) (fun k => rows.length - k.1) (fun k => ([(1,pt (ga (y1 0).c) 0),(5,.int .i64 k.1)],_,_)) ⟨0,by omega,fun j h => absurd h (Nat.not_lt_zero j)⟩ (fun a w he hw => ⟨⟨0,by omega,fun j h => absurd h (Nat.not_lt_zero j)⟩,he.sub ⟨rfl,rfl,trivial⟩,hw⟩) ?_
    rintro ⟨k,hk2,ha2⟩
    simp only at hk2 ⊢
    have HA2 := Lib.hid ha2;clear ha2
    repeat' (first
      | refine ok_seq ?_
      | refine ok_then ?_
      | refine ok_then_ret ?_
      | refine ok_block ?_
      | refine ok_in_normal ?_
      | refine ok_in_ret ?_
      | (refine ok_cond rfl (fun hc => ?_) (fun hc => ?_) <;> (have hd := hc;(try simp only [jA,jB,jC,jD,jE,jF,jG,jH,jI,jJ,jK,jL,jM,jN,jO,jP,jQ,jR,jS] at hd)))
      | refine ok_ret ?_
      | refine ok_exit ?_
      | refine ok_skip ?_
      | (refine ok_region (i := 10) ?_;refine ok_p rfl rfl rfl (ps_move rfl rfl) ?_;refine ok_p rfl rfl rfl (by exact ps_field rfl rfl (isw_ga _)) ?_;refine ok_p rfl rfl rfl (by exact ps_load rfl rfl (by exact Rds.cell (rds_box 0 rfl) rfl)) ?_;refine ok_p rfl rfl rfl (by exact ps_len rfl rfl) ?_;refine ok_p rfl rfl rfl (by exact ps_int rfl rfl rfl rfl) ?_;refine ok_ne [(1,_),(5,_),(123,_)] ⟨rfl,rfl,rfl,trivial⟩ ?_)
      | (refine ok_region (i := 11) ?_;refine ok_p rfl rfl rfl (ps_move rfl rfl) ?_;refine ok_p rfl rfl rfl (by exact ps_add rfl rfl rfl (by omega)) ?_;refine ok_p rfl rfl rfl (ps_assign rfl rfl) ?_;refine ok_ne [(1,_),(5,_)] ⟨rfl,rfl,trivial⟩ ?_)
      | (refine ok_draw (id := 12) 10 rfl (by kernel_rfl) (by kernel_rfl) rfl (by repeat (first | exact pq_body | refine pq_then ?_ | refine pq_in ?_)) [0,1,2,3,4,5,6,7,8,9,10,11,12,13,14,15,16,17,18,19,20,21,22,23] (by decide) rfl ?_;refine okT_take (i := 0) rfl (by kernel_rfl) rfl rfl rfl (by exact ps_field rfl rfl (isw_ga _)) ?_;refine okT_take (i := 1) rfl (by kernel_rfl) rfl rfl rfl (by exact ps_load rfl rfl (by exact Rds.cell (rds_box 0 rfl) rfl)) ?_;refine okT_take (i := 2) rfl (by kernel_rfl) rfl rfl rfl (by exact ps_field rfl rfl (isw_ga _)) ?_;refine okT_take (i := 3) rfl (by kernel_rfl) rfl rfl rfl (by exact ps_load rfl rfl (by exact Rds.cell (rds_box 0 rfl) rfl)) ?_;refine okT_take (i := 4) rfl (by kernel_rfl) rfl rfl rfl (ps_move rfl rfl) ?_;refine okT_take (i := 5) rfl (by kernel_rfl) rfl rfl rfl (by exact ps_indexN rfl rfl rfl (by omega) (by exact isw_of (isS_fl (by assumption) (by omega)))) ?_;refine okT_take (i := 6) rfl (by kernel_rfl) rfl rfl rfl (by exact ps_field rfl rfl (by exact isw_of (isS_fl (by assumption) (by omega)))) ?_;refine okT_take (i := 7) rfl (by kernel_rfl) rfl rfl rfl (by exact ps_load rfl rfl (by exact Rds.cell (rds_rf (by assumption) List.mem_cons_self) (by exact fl_at0 _ _ (by omega) (by decide)))) ?_;refine okT_one (i := 8) rfl rfl (by kernel_rfl) rfl rfl rfl (by exact ms_s2 rfl rfl rfl (fun _ _ w hw => l22At_c tnA tnc tens _ w (rds_rf ht List.mem_cons_self _ _ w hw) hl2)) (fun y w _ h => by exact h) ?_;rintro y134 hy134;refine okT_take (i := 9) rfl (by kernel_rfl) rfl rfl rfl (by exact ps_int rfl rfl rfl rfl) ?_;refine okT_done (by kernel_rfl) ?_;refine ok_ne [(1,_),(5,_),(135,_)] ⟨rfl,rfl,rfl,trivial⟩ ?_)
      | (refine ok_region (i := 13) ?_;refine ok_p rfl rfl rfl (ps_assign rfl rfl) ?_;refine ok_ne [(2,_)] ⟨rfl,trivial⟩ ?_)
      | (refine ok_region (i := 14) ?_;refine ok_p rfl rfl rfl (ps_assign rfl rfl) ?_;refine ok_ne [(2,_)] ⟨rfl,trivial⟩ ?_))
    · rw [HRN.out k (by omega) hd]
      exact ok_endL (vs := [_]) rfl ⟨rfl,trivial⟩ (fun w' hw => ⟨rfl,hw.below⟩)
    · exact fun a w' he hw => ⟨⟨k + 1,by omega,fun j hj => by
        rcases Nat.lt_succ_iff_lt_or_eq.1 hj with h' | rfl
        · exact HA2.out j h'
        · exact hd⟩,by simp only;omega,he.sub ⟨rfl,rfl,trivial⟩,hw⟩
    · obtain rfl : k = rows.length := by omega
      rw [HYE.out HA.out HA2.out]
      exact ok_endL (vs := [_]) rfl ⟨rfl,trivial⟩ (fun w' hw => ⟨rfl,hw.below⟩)
end Go.Proofs.YtmfojbidojjciaaGreat
/- The engine: a guarded call that writes, or tells a new value: the guard's two cases apart. -/
namespace Go.Proofs.YtmfojbidojjciaaGreat
open Go.RowKit
section
variable {P : Program} {N base : Nat} {w0 : World} {E : Env} {H : List HObj} {G : List World} {ops : Array Oper} {o : Oper} {rest : List Oper} {Q : Exit → Act → World → Prop} {F : Ys → Prop} {v : Ys → Value} {H' : Ys → List HObj} {G' : Ys → List World}
theorem ok_mgs {j d : Nat} {want c : Bool} (hg : o.guard = some (j,want)) (hj : (ops[j]?).bind (·.dst) = some d) (hv : look E d = some (.bool c)) {td : Nat} (hdt : o.dst = some td) (hd : Nat.blt td N = true) (hs : (c == want) = true → MStep P E H G o F v H' G')
    (h1 : (c == want) = true → ∀ y,F y → Ok N base w0 ((td,v y) :: E) (H' y) (G' y) (wpList P ops Q rest)) (h0 : (c == want) = false → Ok N base w0 ((td,undef) :: E) H G (wpList P ops Q rest)) : Ok N base w0 E H G (wpList P ops Q (o :: rest)) := by
  cases h : (c == want) with
  | true => exact ok_m_yes (p := true) hg hj hv (by rw [Bool.true_and];exact h) hdt hd (hs h) (h1 h)
  | false => exact ok_m_no (p := true) hg hj hv (by rw [Bool.true_and];exact h) hdt hd (h0 h)
theorem ps_never {u : Value} (h : False) : PStep P E H G o u := h.elim
end
end Go.Proofs.YtmfojbidojjciaaGreat
/- The engine: branches that meet again are told once. -/
namespace Go.Proofs.YtmfojbidojjciaaGreat
open Go.RowKit
section
variable {P : Program} {N base : Nat} {w0 : World} {E : Env} {H : List HObj} {G : List World} {Q : Exit → Act → World → Prop}
/-- Stops a walk ahead of a statement that begins with region i and is followed by more. -/
theorem at_reg (i : Nat) {ops : Array Oper} {b : Bool} {z y : Code} (h : Ok N base w0 E H G ((Code.seq (Code.seq (Code.region i ops b) z) y).wp P Q)) : Ok N base w0 E H G ((Code.seq (Code.seq (Code.region i ops b) z) y).wp P Q) := h
/-- A field of a struct value. -/
theorem ps_fieldV {o : Oper} {x : Operand} {t : TypeId} {f : Nat} {u v : Value} (ho : o.op = .field t x f) (hx : opd E x = some u) (hr : ∀ w,(Instr.field t u f).run P w = .ok v w) : PStep P E H G o v := fun N base w0 a w he hw => by
  simp only [execOp,ho,he.eval hx,Sem.run_bind,hr,Result.andThen_ok,Sem.run_pure]
theorem ok_capE {n c e sz : Nat} {A : Option Addr} {us : List Value} {K : Act → World → Prop} (i : Nat) (hi : H[i]? = some (.row e sz A n c us)) (h : n ≤ c → Ok N base w0 E H G K) : Ok N base w0 E H G K := fun a w he hw => h (hw.cap i hi) a w he hw
end
end Go.Proofs.YtmfojbidojjciaaGreat
/- Regions that meet again, with the facts on what was made; objects one by one to the front. -/
namespace Go.Proofs.YtmfojbidojjciaaGreat
open Go.RowKit
section
variable {P : Program} {N base : Nat} {w0 : World} {E : Env} {H : List HObj} {G : List World} {K : Act → World → Prop}
theorem ok_front (i : Nat) {x : HObj} (hi : H[i]? = some x) (h : Ok N base w0 E (x :: H.eraseIdx i) G K) : Ok N base w0 E H G K := fun a w he hw => h a w he (hw.front i hi)
end
end Go.Proofs.YtmfojbidojjciaaGreat
/- A tenant's rows played by the program. -/
namespace Go.Proofs.YtmfojbidojjciaaGreat
open Go.RowKit
attribute [local irreducible] Calls
def noEng : DEng := ⟨[],[],0,[]⟩
def repF (key : ByteArray) (e : DEng) (l : List LogRow) : DEng × Bool := match playF key e l with
  | some x => (x,true)
  | none => (noEng,false)
theorem rep_end (key : ByteArray) (e : DEng) : repF key e [] = (e,true) := rfl
theorem rep_no1 {key : ByteArray} {e : DEng} {l : List LogRow} {k : Nat} (hk : k < l.length) (h : (openF key (nth l k).boot (nth l k).seq (nth l k).txt).2 = false) : repF key e (l.drop k) = (noEng,false) := by
  unfold repF
  rw [dropA hk,playF,if_neg (by rw [h];decide)]
theorem rep_no2 {key : ByteArray} {e : DEng} {l : List LogRow} {k : Nat} (hk : k < l.length) (h : (fEngPut e (openF key (nth l k).boot (nth l k).seq (nth l k).txt).1).2 = false) : repF key e (l.drop k) = (noEng,false) := by
  unfold repF
  rw [dropA hk,playF]
  split
  · rename_i h1 h2
    split at h2
    · rw [if_neg (by rw [h];decide)] at h2;cases h2
    · cases h2
  · rfl
theorem rep_yes {key : ByteArray} {e : DEng} {l : List LogRow} {k : Nat} (hk : k < l.length) (h : (openF key (nth l k).boot (nth l k).seq (nth l k).txt).2 = true) (h2 : (fEngPut e (openF key (nth l k).boot (nth l k).seq (nth l k).txt).1).2 = true) : repF key e (l.drop k) = repF key (putE e (openF key (nth l k).boot (nth l k).seq (nth l k).txt).1) (l.drop (k + 1)) := by
  have := (put_need h2).2.2.2
  unfold repF
  rw [dropA hk,playF,if_pos h,if_pos h2,this]
theorem eng_field1 (a b c d : Value) (w : World) : (Instr.field 88 (.agg #[a,b,c,d]) 1).run Tryz.prog w = .ok b w := by kernel_rfl
structure RpI (rows : List LogRow) (key : ByteArray) (e0 : DEng) (m0 : World) where
  k : Nat
  m : World
  B : Option Addr
  d : Nat
  mem : List Ent
  sq : Int
  hk : k ≤ rows.length
  hm : WLe m0 m
  he : fEngOk ⟨mem,e0.tabs,sq,[]⟩ = true
  hp : repF key e0 rows = repF key ⟨mem,e0.tabs,sq,[]⟩ (rows.drop k)
theorem replayed0 (g : Nat) (cs : List Value) (mk : ByteArray) (kA : Option Addr) (kc : Nat) (slots : List KeySlot) (wi : Int) (id ep ba : Int) (mA : Option Addr) (mc : Nat) (mem : List Ent) (tA : Option Addr) (tc : Nat) (R : List LE) (seq : Int) (sA : Option Addr) (sc : Nat) (sn : List Int) (rA : Option Addr) (rc : Nat) (rows : List LogRow) (w : World)
    (hb : Rd w (ga g) cs) (hc1 : (cs.drop 1).take 3 = [.string mk,.slice kA slots.length kc,.int .i64 wi]) (hk : Rd w kA (fl slots)) (h1 : Rd w mA (fl mem)) (h2 : RdN w tA R) (h3 : Rd w sA (fl sn)) (hr : Rd w rA (fl rows)) (hl0 : slots.length ≤ 4194304) (hl1 : mem.length ≤ 4194304) (hl2 : R.length ≤ 4194304) (hs : ∀ x ∈ dats R,x.length ≤ 4194304) (hl3 : sn.length ≤ 4194304) (hlr : rows.length ≤ 4194304) (htx : ∀ k,k < rows.length → (nth rows k).txt.size ≤ 4194304) (he0 : fEngOk ⟨[],dats R,ba,[]⟩ = true) :
    Calls Tryz.prog 148 #[pt (ga g) 0,.agg #[.int .i64 id,.int .i64 ep,.int .i64 ba,.slice mA mem.length mc,.slice tA R.length tc,.int .i64 seq,.slice sA sn.length sc],.slice rA rows.length rc] w fun e w' => ∃ y : Ys,e = .returned (.tuple #[engVal (repF (keyOf ⟨mk,slots,wi⟩ id) ⟨[],dats R,ba,[]⟩ rows).1 y,.bool (repF (keyOf ⟨mk,slots,wi⟩ id) ⟨[],dats R,ba,[]⟩ rows).2]) ∧ True ∧ Below w.heap.size w w' ∧ NewOk w.heap.size (engObj (repF (keyOf ⟨mk,slots,wi⟩ id) ⟨[],dats R,ba,[]⟩ rows).1 y) [] w' := by
  have HS := Lib.hid hs;clear hs
  have H2 := Lib.hid h2;clear h2
  have HTX := Lib.hid htx;clear htx
  have HE0 := Lib.hid he0;clear he0
  refine ok_enter 55 Tryz.func148 rfl rfl rfl ?_
  repeat' (first
    | refine ok_seq ?_
    | refine ok_then ?_
    | refine ok_block ?_
    | (refine ok_region (i := 0) ?_;refine ok_m rfl rfl rfl (by exact ms_box rfl rfl rfl) ?_;rintro y4 hy4;refine ok_m rfl rfl rfl (by exact ms_alloc rfl) ?_;rintro y6 hy6;refine ok_p rfl rfl rfl (ps_assign rfl rfl) ?_;refine ok_ne [(0,_),(2,_),(4,_),(6,_)] ⟨rfl,rfl,rfl,rfl,trivial⟩ ?_)
    | (apply mrg2;(focus (intro hk;refine ok_draw (id := 1) 8 rfl (by kernel_rfl) (by kernel_rfl) rfl (by repeat (first | exact pq_body | refine pq_then ?_ | refine pq_in ?_)) [0,1,2,3,4,5,6,7,8,9,10,11,12,13,14,15,16,17,18,19,20,21,22,23] (by decide) rfl ?_;refine okT_take (i := 0) rfl (by kernel_rfl) rfl rfl rfl (by exact ps_field rfl rfl (isw_ga _)) ?_;refine okT_take (i := 1) rfl (by kernel_rfl) rfl rfl rfl (by exact ps_loads rfl rfl (by exact rds_box 1 rfl) rfl rfl (by decide)) ?_;refine okT_take (i := 4) rfl (by kernel_rfl) rfl rfl rfl (by exact ps_field rfl rfl (isw_ga _)) ?_;refine okT_take (i := 5) rfl (by kernel_rfl) rfl rfl rfl (by exact ps_load rfl rfl (by exact Rds.cell (rds_box 1 rfl) rfl)) ?_;refine okT_many (by kernel_rfl) (all_cons (at_m (i := 2) rfl rfl rfl rfl rfl (by /-4-/ exact ms_c1 rfl rfl (fun _ _ w hw => i_copyEng0 mA mc mem tA tc R seq sA sc sn w (rds_rf h1 List.mem_cons_self _ _ w hw) (RdN.keep hw H2.out List.mem_cons_self) (rds_rf h3 List.mem_cons_self _ _ w hw) hl1 hl2 HS.out hl3)) (fun y w _ h => by exact h.tl.tl.tl.tl) ?_) (all_cons (at_m (i := 7) rfl rfl rfl rfl rfl (by exact ms_alloc rfl) (fun y w _ h => by exact h.tl) ?_) all_nil));(focus (rintro y16 hy16;refine okT_take (i := 3) rfl (by kernel_rfl) rfl rfl rfl (by exact ps_fieldV rfl rfl (eng_field1 _ _ _ _)) ?_;refine okT_take (i := 6) rfl (by kernel_rfl) rfl rfl rfl (by exact ps_bld rfl (parts_cons rfl (parts_cons rfl parts_nil)) rfl) ?_;refine okT_one (i := 7) rfl rfl (by kernel_rfl) rfl rfl rfl (by exact ms_alloc rfl) (fun y w _ h => by exact h.tl.tl.tl.tl.tl) ?_;rintro y8 hy8;refine okT_done (by kernel_rfl) ?_;refine ok_m_ rfl rfl (by exact ms_store 0 rfl rfl rfl rfl rfl rfl rfl rfl) ?_;rintro y_ hy_;refine ok_ne [(0,_),(2,_),(4,_),(6,_),(8,_)] ⟨rfl,rfl,rfl,rfl,rfl,trivial⟩ ?_;exact hk y16 y8));(focus (rintro y8 hy8;refine okT_one (i := 2) rfl rfl (by kernel_rfl) rfl rfl rfl (by /-4-/ exact ms_c1 rfl rfl (fun _ _ w hw => i_copyEng0 mA mc mem tA tc R seq sA sc sn w (rds_rf h1 List.mem_cons_self _ _ w hw) (RdN.keep hw H2.out List.mem_cons_self) (rds_rf h3 List.mem_cons_self _ _ w hw) hl1 hl2 HS.out hl3)) (fun y w _ h => by exact h.tl.tl.tl.tl.tl) ?_;rintro y16 hy16;refine okT_take (i := 3) rfl (by kernel_rfl) rfl rfl rfl (by exact ps_fieldV rfl rfl (eng_field1 _ _ _ _)) ?_;refine okT_take (i := 6) rfl (by kernel_rfl) rfl rfl rfl (by exact ps_bld rfl (parts_cons rfl (parts_cons rfl parts_nil)) rfl) ?_;refine okT_done (by kernel_rfl) ?_;refine ok_m_ rfl rfl (by exact ms_store 4 rfl rfl rfl rfl rfl rfl rfl rfl) ?_;rintro y_ hy_;refine ok_ne [(0,_),(2,_),(4,_),(6,_),(8,_)] ⟨rfl,rfl,rfl,rfl,rfl,trivial⟩ ?_;refine ok_front 3 rfl ?_;refine ok_front 3 rfl ?_;refine ok_front 3 rfl ?_;refine ok_front 3 rfl ?_;refine ok_front 4 rfl ?_;exact hk y16 y8))));rintro y16 y8)
    | (refine ok_draw (id := 2) 8 rfl (by kernel_rfl) (by kernel_rfl) rfl (by repeat (first | exact pq_body | refine pq_then ?_ | refine pq_in ?_)) [0,1,2,3,4,5,6,7,8,9,10,11,12,13,14,15,16,17,18,19,20,21,22,23] (by decide) rfl ?_;refine okT_take (i := 0) rfl (by kernel_rfl) rfl rfl rfl (ps_move rfl rfl) ?_;refine okT_take (i := 1) rfl (by kernel_rfl) rfl rfl rfl (by exact ps_nil rfl rfl (isw_ga _)) ?_;refine okT_take (i := 2) rfl (by kernel_rfl) rfl rfl rfl (by exact ps_field rfl rfl (isw_ga _)) ?_;refine okT_take (i := 3) rfl (by kernel_rfl) rfl rfl rfl (by exact ps_loads (vs := [.string mk,.slice kA slots.length kc,.int .i64 wi]) rfl rfl (rds_rf hb List.mem_cons_self) hc1 rfl (by decide)) ?_;refine okT_take (i := 4) rfl (by kernel_rfl) rfl rfl rfl (by exact ps_field rfl rfl (isw_ga _)) ?_;refine okT_take (i := 5) rfl (by kernel_rfl) rfl rfl rfl (by exact ps_load rfl rfl (by exact Rds.cell (rds_box 6 rfl) rfl)) ?_;refine okT_one (i := 6) rfl rfl (by kernel_rfl) rfl rfl rfl (by exact ms_s2 rfl rfl rfl (fun _ _ w hw => i_KeyOf0 mk kA kc slots wi id w (rds_rf hk List.mem_cons_self _ _ w hw) hl0)) (fun y w _ h => by exact h) ?_;rintro y27 hy27;refine okT_take (i := 7) rfl (by kernel_rfl) rfl rfl rfl (ps_assign rfl rfl) ?_;refine okT_done (by kernel_rfl) ?_;refine ok_ne [(2,_),(6,_),(8,_),(9,_)] ⟨rfl,rfl,rfl,rfl,trivial⟩ ?_)
    | (refine ok_region (i := 3) ?_;refine ok_p rfl rfl rfl (ps_move rfl rfl) ?_;refine ok_p rfl rfl rfl (by exact ps_len rfl rfl) ?_;refine ok_p rfl rfl rfl (ps_move rfl rfl) ?_;refine ok_ne [(6,_),(8,_),(9,_),(28,_),(29,_),(30,_)] ⟨rfl,rfl,rfl,rfl,rfl,rfl,trivial⟩ ?_))
  have hS : dats (locs 3 (dats R) y16) = dats R := dats_locs 3 (dats R) y16
  have hSl : (locs 3 (dats R) y16).length = R.length := by rw [locs_len,dats_len]
  have he0 := HE0.out
  generalize locs 3 (dats R) y16 = S at hS hSl ⊢
  rw [← hS] at he0 ⊢
  generalize keyOf ⟨mk,slots,wi⟩ id = key
  rw [← hSl]
  clear HE0 hS
  have HE := Lib.hid he0;clear he0
  refine ok_loop (ι := RpI rows key ⟨[],dats S,ba,[]⟩ w) (fun q => rows.length - q.k) (fun q => ([(6,pt (ga (y6 0).c) 0),(8,pt (ga (y8 0).c) 0),(9,.string key),(28,.slice rA rows.length rc),(29,.int .i64 rows.length),(30,.int .i64 q.k)],[.box (y8 0).c 88 [.slice q.B q.mem.length q.d,.slice (y16 1).A S.length (y16 1).c,.int .i64 q.sq,.slice none 0 0],.row 204 4 q.B q.mem.length q.d (fl q.mem),.row 85 1 (y16 1).A S.length (y16 1).c (fl S),.bag 204 4 (rowsOf S),.box (y6 0).c 88 [.slice none 0 0,.slice none 0 0,.int .i64 0,.slice none 0 0]],[q.m])) ⟨0,w,none,0,[],ba,Nat.zero_le _,WLe.refl _,HE.out,rfl⟩ (fun a w' he hw => ⟨⟨0,w,none,0,[],ba,Nat.zero_le _,WLe.refl _,HE.out,rfl⟩,he.sub ⟨rfl,rfl,rfl,rfl,rfl,rfl,trivial⟩,((hw.sel [0,2,3,5] (by decide) rfl (fun _ h => h)).rowNil 204 4).front 1 rfl⟩) ?_
  rintro ⟨k,m,B,d,qm,sq,hk2,hm,heq,hp⟩
  simp only at hk2 hm heq hp ⊢
  have hr' := hr.le hm
  have HM := Lib.hid hm;clear hm
  have HP := Lib.hid hp;clear hp
  have HEQ := Lib.hid heq;clear heq
  have hof := open_few key (nth rows k).boot (nth rows k).seq (nth rows k).txt
  repeat' ((fail_if_success (refine at_reg 7 ?_));first
    | refine ok_seq ?_
    | refine ok_then ?_
    | refine ok_block ?_
    | (refine ok_cond rfl (fun hc => ?_) (fun hc => ?_) <;> (have hd := hc;(try simp only [jA,jB,jC,jD,jE,jF,jG,jH,jI,jJ,jK,jL,jM,jN,jO,jP,jQ,jR,jS] at hd)))
    | refine ok_ret ?_
    | refine ok_exit ?_
    | refine ok_skip ?_
    | (refine ok_region (i := 4) ?_;refine ok_p rfl rfl rfl (by exact ps_int rfl rfl rfl rfl) ?_;refine ok_ne [(6,_),(8,_),(9,_),(28,_),(29,_),(30,_),(31,_)] ⟨rfl,rfl,rfl,rfl,rfl,rfl,rfl,trivial⟩ ?_)
    | (refine ok_region (i := 5) ?_;refine ok_p rfl rfl rfl (by exact ps_indexN rfl rfl rfl (by omega) (by exact isw_of (isS_fl (by assumption) (by omega)))) ?_;refine ok_p rfl rfl rfl (by exact ps_loadsF rfl rfl (by exact rds_rf (by assumption) List.mem_cons_self) (by rfl) (by rfl) (by omega) rfl) ?_;refine ok_m rfl rfl rfl (by exact ms_alloc rfl) ?_;rintro y11 hy11;refine ok_m_ rfl rfl (by exact ms_store 0 rfl rfl rfl rfl rfl rfl rfl rfl) ?_;rintro y_ hy_;refine ok_ne [(6,_),(8,_),(9,_),(11,_),(28,_),(29,_),(30,_)] ⟨rfl,rfl,rfl,rfl,rfl,rfl,rfl,trivial⟩ ?_)
    | (refine ok_region (i := 6) ?_;refine ok_p rfl rfl rfl (ps_move rfl rfl) ?_;refine ok_p rfl rfl rfl (by exact ps_field rfl rfl (isw_ga _)) ?_;refine ok_p rfl rfl rfl (by exact ps_load rfl rfl (by exact Rds.cell (rds_box 0 rfl) rfl)) ?_;refine ok_p rfl rfl rfl (by exact ps_field rfl rfl (isw_ga _)) ?_;refine ok_p rfl rfl rfl (by exact ps_load rfl rfl (by exact Rds.cell (rds_box 0 rfl) rfl)) ?_;refine ok_p rfl rfl rfl (by exact ps_field rfl rfl (isw_ga _)) ?_;refine ok_p rfl rfl rfl (by exact ps_load rfl rfl (by exact Rds.cell (rds_box 0 rfl) rfl)) ?_;refine ok_m rfl rfl rfl (by exact ms_c4 rfl rfl rfl rfl rfl (fun _ _ w hw => i_OpenBatch key (nth rows k).boot (nth rows k).seq (nth rows k).txt w (HTX.out k (by omega)))) ?_;rintro y42 hy42;refine ok_p rfl rfl rfl (ps_move rfl rfl) ?_;refine ok_p rfl rfl rfl (by exact ps_extract rfl rfl rfl) ?_;refine ok_p rfl rfl rfl (by exact ps_extract rfl rfl rfl) ?_;refine ok_p rfl rfl rfl (ps_assign rfl rfl) ?_;refine ok_p rfl rfl rfl (ps_assign rfl rfl) ?_;refine ok_ne [(6,_),(8,_),(9,_),(12,_),(13,_),(28,_),(29,_),(30,_)] ⟨rfl,rfl,rfl,rfl,rfl,rfl,rfl,rfl,trivial⟩ ?_)
    | (refine ok_region (i := 10) ?_;refine ok_p rfl rfl rfl (by exact ps_loads rfl rfl (by exact rds_box 0 rfl) rfl rfl (by decide)) ?_;refine ok_m_ rfl rfl (by exact ms_store 4 rfl rfl rfl rfl rfl rfl rfl rfl) ?_;rintro y_ hy_;refine ok_p rfl rfl rfl (ps_assign rfl rfl) ?_;refine ok_ne [(6,_),(7,_)] ⟨rfl,rfl,trivial⟩ ?_))
  · refine ok_capE 0 rfl (fun hcp => ?_)
    refine ok_frz [_] (fun w hw => hw) (fun m2 hle hrd => ?_)
    have ho : Rd m2 (y42 0).A (fl (openF key (nth rows k).boot (nth rows k).seq (nth rows k).txt).1) := hrd _ List.mem_cons_self
    have hm2 := hle m List.mem_cons_self
    clear hle hrd
    repeat' (first
      | refine ok_seq ?_
      | refine ok_then ?_
      | refine ok_then_ret ?_
      | refine ok_in_normal ?_
      | refine ok_in_ret ?_
      | (refine ok_cond rfl (fun hc => ?_) (fun hc => ?_) <;> (have hd := hc;(try simp only [jA,jB,jC,jD,jE,jF,jG,jH,jI,jJ,jK,jL,jM,jN,jO,jP,jQ,jR,jS] at hd)))
      | refine ok_ret ?_
      | refine ok_skip ?_
      | (refine ok_region (i := 7) ?_;refine ok_p rfl rfl rfl (ps_move rfl rfl) ?_;refine ok_p rfl rfl rfl (by exact ps_not rfl rfl) ?_;refine ok_p rfl rfl rfl (ps_move rfl rfl) ?_;refine ok_pg rfl rfl rfl rfl rfl (gF _) (fun hp => by exact ps_move rfl rfl) ?_;refine ok_mgs rfl rfl rfl rfl rfl (fun hp => by (have hpd := hp;(try simp only [jA,jB,jC,jD,jE,jF,jG,jH,jI,jJ,jK,jL,jM,jN,jO,jP,jQ,jR,jS] at hpd);/-S-/ exact ms_w2 (fun _ _ _ h => (h.front 2 rfl).front 2 rfl) rfl rfl (og rfl (by simpa using hp)) (fun _ _ w hw => engPut_c (y8 0).c B d qm (y16 1).A (y16 1).c S sq none 0 [] (y42 0).A (y42 0).c (openF key (nth rows k).boot (nth rows k).seq (nth rows k).txt).1 m2 ho hcp HEQ.out (open_ok (by simpa using hp)) List.mem_cons_self (fun base w0 w hw => RdN.own hw 1 2 rfl rfl) hw))) ?_ ?_;(focus (intro hp y49 hy49;have hpd := hp;(try simp only [jA,jB,jC,jD,jE,jF,jG,jH,jI,jJ,jK,jL,jM,jN,jO,jP,jQ,jR,jS] at hpd);refine ok_pg rfl rfl rfl rfl rfl (gF _) (fun hp => by exact ps_not rfl rfl) ?_;refine ok_p rfl rfl rfl (by exact ps_or rfl rfl rfl) ?_;refine ok_ne [(6,_),(8,_),(9,_),(28,_),(29,_),(30,_),(51,_)] ⟨rfl,rfl,rfl,rfl,rfl,rfl,rfl,trivial⟩ ?_));rotate_left 1;(focus (intro hp;have hpd := hp;(try simp only [jA,jB,jC,jD,jE,jF,jG,jH,jI,jJ,jK,jL,jM,jN,jO,jP,jQ,jR,jS] at hpd);refine ok_pg rfl rfl rfl rfl rfl (gF _) (fun hp => by (have hpd := hp;(try simp only [jA,jB,jC,jD,jE,jF,jG,jH,jI,jJ,jK,jL,jM,jN,jO,jP,jQ,jR,jS] at hpd);exact ps_never (u := .bool true) (by contradiction))) ?_;refine ok_p rfl rfl rfl (by exact ps_or rfl rfl rfl) ?_;refine ok_ne [(6,_),(8,_),(9,_),(28,_),(29,_),(30,_),(51,_)] ⟨rfl,rfl,rfl,rfl,rfl,rfl,rfl,trivial⟩ ?_)))
      | (refine ok_region (i := 8) ?_;refine ok_p rfl rfl rfl (by exact ps_bld rfl parts_nil rfl) ?_;refine ok_m_ rfl rfl (by exact ms_store 5 rfl rfl rfl rfl rfl rfl rfl rfl) ?_;rintro y_ hy_;refine ok_p rfl rfl rfl (ps_assign rfl rfl) ?_;refine ok_ne [(6,_),(7,_)] ⟨rfl,rfl,trivial⟩ ?_)
      | (refine ok_region (i := 9) ?_;refine ok_p rfl rfl rfl (by exact ps_add rfl rfl rfl (by omega)) ?_;refine ok_p rfl rfl rfl (ps_move rfl rfl) ?_;refine ok_ne [(6,_),(8,_),(9,_),(28,_),(29,_),(30,_)] ⟨rfl,rfl,rfl,rfl,rfl,rfl,trivial⟩ ?_))
    · have hf : (openF key (nth rows k).boot (nth rows k).seq (nth rows k).txt).2 = false := by simpa using hpd
      rw [HP.out,rep_no1 (by omega) hf]
      refine ok_endL (vs := [_,_]) rfl ⟨⟨_,5,_,_,_,rfl,rfl,inferInstance,rfl,rfl⟩,rfl,trivial⟩ (fun w' hw => ⟨cpY none 0 none 0 none 0 [] w',?_,trivial,hw.below,?_⟩)
      · rw [noEng,(engNil w').1];rfl
      · rw [noEng,(engNil w').2]
        have := hw.sel [] (by decide) rfl (G' := []) (fun _ h => by cases h)
        exact NewOk.of ((((this.rowNil 3 1).bag_nil 204 4).rowNil 85 1).rowNil 204 4)
    · exact hd.2.elim
    · have hf : (fEngPut ⟨qm,dats S,sq,[]⟩ (openF key (nth rows k).boot (nth rows k).seq (nth rows k).txt).1).2 = false := by
        rcases hd with hd | hd
        · rw [hpd] at hd;cases hd
        · exact hd
      rw [HP.out,rep_no2 (by omega) hf]
      refine ok_endL (vs := [_,_]) rfl ⟨⟨_,5,_,_,_,rfl,rfl,inferInstance,rfl,rfl⟩,rfl,trivial⟩ (fun w' hw => ⟨cpY none 0 none 0 none 0 [] w',?_,trivial,hw.below,?_⟩)
      · rw [noEng,(engNil w').1];rfl
      · rw [noEng,(engNil w').2]
        have := hw.sel [] (by decide) rfl (G' := []) (fun _ h => by cases h)
        exact NewOk.of ((((this.rowNil 3 1).bag_nil 204 4).rowNil 85 1).rowNil 204 4)
    · exact fun a w' he hw => ⟨⟨k + 1,m2,(y49 0).A,(y49 0).c,(putE ⟨qm,dats S,sq,[]⟩ (openF key (nth rows k).boot (nth rows k).seq (nth rows k).txt).1).mem,sq + 1,by omega,HM.out.trans hm2,(put_need hd.2).2.2.1,HP.out.trans (rep_yes (by omega) hpd hd.2)⟩,by simp only;omega,he.sub ⟨rfl,rfl,rfl,rfl,rfl,rfl,trivial⟩,hw.sel [0,1,3,4,5] (by decide) rfl (fun _ h => h)⟩
  · obtain rfl : k = rows.length := by omega
    rw [HP.out,List.drop_length,rep_end]
    refine ok_endL (vs := [_,_]) rfl ⟨⟨_,4,_,_,_,rfl,rfl,inferInstance,rfl,rfl⟩,rfl,trivial⟩ (fun w' hw => ⟨cpY B d (y16 1).A (y16 1).c none 0 S w',?_,trivial,hw.below,?_⟩)
    · rw [(eng_obj B d qm (y16 1).A (y16 1).c S sq none 0 [] w').1];rfl
    · rw [(eng_obj B d qm (y16 1).A (y16 1).c S sq none 0 [] w').2]
      exact NewOk.of (((hw.sel [1,2,3] (by decide) rfl (G' := []) (fun _ h => by cases h)).rowNil 3 1).sel [1,2,3,0] (by decide) rfl (G' := []) (fun _ h => by cases h))
end Go.Proofs.YtmfojbidojjciaaGreat
/- A tenant that is right, by the program. -/
namespace Go.Proofs.YtmfojbidojjciaaGreat
open Go.RowKit
attribute [local irreducible] Calls
theorem equalE_c (A : Option Addr) (c : Nat) (L : List Ent) (B : Option Addr) (d : Nat) (M : List Ent) (w : World) (h1 : Rd w A (fl L)) (h2 : Rd w B (fl M)) (hl1 : L.length ≤ 4194304) (hl2 : M.length ≤ 4194304) :
    Calls Tryz.prog 149 #[.slice A L.length c,.slice B M.length d] w fun e w' => e = .returned (.bool (decide (L = M))) ∧ Below w.heap.size w w' := by
  refine ok_enter 26 Tryz.func149 rfl rfl rfl ?_
  repeat' (first
    | refine ok_seq ?_
    | refine ok_then ?_
    | refine ok_then_ret ?_
    | refine ok_block ?_
    | (refine ok_cond rfl (fun hc => ?_) (fun hc => ?_) <;> (have hd := hc;(try simp only [jA,jB,jC,jD,jE,jF,jG,jH,jI,jJ,jK,jL,jM,jN,jO,jP,jQ,jR,jS] at hd)))
    | refine ok_ret ?_
    | refine ok_skip ?_
    | (refine ok_region (i := 0) ?_;refine ok_p rfl rfl rfl (ps_assign rfl rfl) ?_;refine ok_ne [(0,_),(1,_)] ⟨rfl,rfl,trivial⟩ ?_)
    | (refine ok_region (i := 1) ?_;refine ok_p rfl rfl rfl (ps_move rfl rfl) ?_;refine ok_p rfl rfl rfl (by exact ps_len rfl rfl) ?_;refine ok_p rfl rfl rfl (ps_move rfl rfl) ?_;refine ok_p rfl rfl rfl (by exact ps_len rfl rfl) ?_;refine ok_p rfl rfl rfl (by exact ps_int rfl rfl rfl rfl) ?_;refine ok_ne [(0,_),(1,_),(10,_)] ⟨rfl,rfl,rfl,trivial⟩ ?_)
    | (refine ok_region (i := 2) ?_;refine ok_p rfl rfl rfl (ps_assign rfl rfl) ?_;refine ok_ne [(4,_)] ⟨rfl,trivial⟩ ?_)
    | (refine ok_region (i := 3) ?_;refine ok_p rfl rfl rfl (ps_move rfl rfl) ?_;refine ok_p rfl rfl rfl (by exact ps_len rfl rfl) ?_;refine ok_p rfl rfl rfl (ps_move rfl rfl) ?_;refine ok_ne [(0,_),(1,_),(12,_),(13,_)] ⟨rfl,rfl,rfl,rfl,trivial⟩ ?_))
  · rw [show decide (L = M) = false from decide_eq_false (fun h => hd (by rw [h]))]
    exact ok_endL (vs := [_]) rfl ⟨rfl,trivial⟩ (fun w' hw => ⟨rfl,hw.below⟩)
  have hlm : L.length = M.length := by omega
  clear hc hd
  refine ok_loop (ι := { j : Nat // j ≤ L.length ∧ ∀ q,q < j → nth L q = nth M q }) (fun j => L.length - j.1) (fun j => ([(0,.slice A L.length c),(1,.slice B M.length d),(12,.int .i64 L.length),(13,.int .i64 j.1)],_,_)) ⟨0,by omega,fun j h => absurd h (Nat.not_lt_zero j)⟩ (fun a w he hw => ⟨⟨0,by omega,fun j h => absurd h (Nat.not_lt_zero j)⟩,he.sub ⟨rfl,rfl,rfl,rfl,trivial⟩,hw⟩) ?_
  rintro ⟨j,hj,ha⟩
  simp only at hj ⊢
  have HA := Lib.hid ha;clear ha
  repeat' (first
    | refine ok_seq ?_
    | refine ok_then ?_
    | refine ok_then_ret ?_
    | refine ok_block ?_
    | refine ok_in_normal ?_
    | refine ok_in_ret ?_
    | (refine ok_cond rfl (fun hc => ?_) (fun hc => ?_) <;> (have hd := hc;(try simp only [jA,jB,jC,jD,jE,jF,jG,jH,jI,jJ,jK,jL,jM,jN,jO,jP,jQ,jR,jS] at hd)))
    | refine ok_ret ?_
    | refine ok_exit ?_
    | refine ok_skip ?_
    | (refine ok_region (i := 4) ?_;refine ok_p rfl rfl rfl (by exact ps_int rfl rfl rfl rfl) ?_;refine ok_ne [(0,_),(1,_),(12,_),(13,_),(14,_)] ⟨rfl,rfl,rfl,rfl,rfl,trivial⟩ ?_)
    | (refine ok_region (i := 5) ?_;refine ok_p rfl rfl rfl (ps_move rfl rfl) ?_;refine ok_p rfl rfl rfl (ps_assign rfl rfl) ?_;refine ok_ne [(0,_),(1,_),(5,_),(12,_),(13,_)] ⟨rfl,rfl,rfl,rfl,rfl,trivial⟩ ?_)
    | (refine ok_draw (id := 6) 9 rfl (by kernel_rfl) (by kernel_rfl) rfl (by repeat (first | exact pq_body | refine pq_then ?_ | refine pq_in ?_)) [0,1,2,3,4,5,6,7,8,9,10,11,12,13,14,15,16,17,18,19,20,21,22,23] (by decide) rfl ?_;refine okT_take (i := 0) rfl (by kernel_rfl) rfl rfl rfl (ps_move rfl rfl) ?_;refine okT_take (i := 1) rfl (by kernel_rfl) rfl rfl rfl (ps_move rfl rfl) ?_;refine okT_take (i := 2) rfl (by kernel_rfl) rfl rfl rfl (by exact ps_indexN rfl rfl rfl (by omega) (by exact isw_of (isS_fl (by assumption) (by omega)))) ?_;refine okT_take (i := 3) rfl (by kernel_rfl) rfl rfl rfl (by exact ps_loads (vs := Dat.cells (nth L j)) rfl rfl (rds_rf h1 List.mem_cons_self) (fl_sub L j (by omega)) (Dat.len (nth L j)) (by decide)) ?_;refine okT_take (i := 4) rfl (by kernel_rfl) rfl rfl rfl (ps_move rfl rfl) ?_;refine okT_take (i := 5) rfl (by kernel_rfl) rfl rfl rfl (ps_move rfl rfl) ?_;refine okT_take (i := 6) rfl (by kernel_rfl) rfl rfl rfl (by exact ps_indexN rfl rfl rfl (by omega) (by exact isw_of (isS_fl (by assumption) (by omega)))) ?_;refine okT_take (i := 7) rfl (by kernel_rfl) rfl rfl rfl (by exact ps_loads (vs := Dat.cells (nth M j)) rfl rfl (rds_rf h2 List.mem_cons_self) (fl_sub M j (by omega)) (Dat.len (nth M j)) (by decide)) ?_;refine okT_take (i := 8) rfl (by kernel_rfl) rfl rfl rfl (by exact ps_neE (nth L j) (nth M j) rfl rfl rfl) ?_;refine okT_done (by kernel_rfl) ?_;refine ok_ne [(0,_),(1,_),(12,_),(13,_),(24,_)] ⟨rfl,rfl,rfl,rfl,rfl,trivial⟩ ?_)
    | (refine ok_region (i := 7) ?_;refine ok_p rfl rfl rfl (ps_assign rfl rfl) ?_;refine ok_ne [(4,_)] ⟨rfl,trivial⟩ ?_)
    | (refine ok_region (i := 8) ?_;refine ok_p rfl rfl rfl (by exact ps_add rfl rfl rfl (by omega)) ?_;refine ok_p rfl rfl rfl (ps_move rfl rfl) ?_;refine ok_ne [(0,_),(1,_),(12,_),(13,_)] ⟨rfl,rfl,rfl,rfl,trivial⟩ ?_)
    | (refine ok_region (i := 9) ?_;refine ok_p rfl rfl rfl (ps_assign rfl rfl) ?_;refine ok_ne [(4,_)] ⟨rfl,trivial⟩ ?_))
  · have e : decide (L = M) = false := decide_eq_false (fun h => hd (by rw [h]))
    rw [e]
    exact ok_endL (vs := [_]) rfl ⟨rfl,trivial⟩ (fun w' hw => ⟨rfl,hw.below⟩)
  · exact fun a w' he hw => ⟨⟨j + 1,by omega,fun q hq => by
      rcases Nat.lt_succ_iff_lt_or_eq.1 hq with h' | rfl
      · exact HA.out q h'
      · exact hd⟩,by simp only;omega,he.sub ⟨rfl,rfl,rfl,rfl,trivial⟩,hw⟩
  · obtain rfl : j = L.length := by omega
    have e : decide (L = M) = true := decide_eq_true (nth_ext hlm HA.out)
    rw [e]
    exact ok_endL (vs := [_]) rfl ⟨rfl,trivial⟩ (fun w' hw => ⟨rfl,hw.below⟩)
def seqAt (b : Int) (l : List LogRow) (i : Nat) : Bool := decide ((nth l i).seq = b + i + 1)
theorem seqs_all : ∀ (b : Int) (l : List LogRow),seqsOk b l = (List.range l.length).all (seqAt b l)
  | _,[] => rfl
  | b,r :: l => by
    unfold seqsOk
    rw [seqs_all (b + 1) l,List.length_cons,List.range_succ_eq_map,List.all_cons,List.all_map]
    congr 1
    · unfold seqAt;simp [nth]
    · congr 1
      funext i
      unfold seqAt
      simp only [Function.comp_apply]
      have e : nth (r :: l) (i + 1) = nth l i := rfl
      rw [e]
      exact decide_eq_decide.2 (by omega)
theorem mine_i (key : ByteArray) (rows : List LogRow) (t : DTen) : mineF key rows t = (decide (t.eng.tabs.length ≤ 1) && decide ((rowsF rows t.id).length ≤ 6) && decide (t.ba + (rowsF rows t.id).length = t.eng.seq) && (List.range (rowsF rows t.id).length).all (seqAt t.ba (rowsF rows t.id)) && ((repF key (baseE t) (rowsF rows t.id)).2 && decide ((repF key (baseE t) (rowsF rows t.id)).1.mem = t.eng.mem))) := by
  unfold mineF
  rw [seqs_all]
  have e : memIs (playF key (baseE t) (rowsF rows t.id)) t.eng.mem = ((repF key (baseE t) (rowsF rows t.id)).2 && decide ((repF key (baseE t) (rowsF rows t.id)).1.mem = t.eng.mem)) := by
    unfold repF memIs
    cases playF key (baseE t) (rowsF rows t.id) <;> rfl
  rw [e]
  generalize decide (t.eng.tabs.length ≤ 1) = a
  generalize decide ((rowsF rows t.id).length ≤ 6) = b
  generalize decide (t.ba + (rowsF rows t.id).length = t.eng.seq) = c
  generalize (List.range (rowsF rows t.id).length).all (seqAt t.ba (rowsF rows t.id)) = d
  generalize (repF key (baseE t) (rowsF rows t.id)).2 = f
  generalize decide ((repF key (baseE t) (rowsF rows t.id)).1.mem = t.eng.mem) = g
  revert a b c d f g;decide
def tenOkF (ks : DKeys) (rows : List LogRow) (t : DTen) : Bool := inB t.ep 0 1000000 && inB t.ba 0 1000000 && fEngOk t.eng && decide (t.eng.snaps.length ≤ 2) && mineF (keyOf ks t.id) rows t
theorem ten_iff (ks : DKeys) (rows : List LogRow) (t : DTen) : tenOkF ks rows t = true ↔ (0 ≤ t.ep ∧ t.ep ≤ 1000000) ∧ (0 ≤ t.ba ∧ t.ba ≤ 1000000) ∧ fEngOk t.eng = true ∧ t.eng.snaps.length ≤ 2 ∧ t.eng.tabs.length ≤ 1 ∧ (rowsF rows t.id).length ≤ 6 ∧ t.ba + (rowsF rows t.id).length = t.eng.seq ∧ (∀ i,i < (rowsF rows t.id).length → seqAt t.ba (rowsF rows t.id) i = true) ∧ (repF (keyOf ks t.id) ⟨[],t.eng.tabs,t.ba,[]⟩ (rowsF rows t.id)).2 = true ∧ (repF (keyOf ks t.id) ⟨[],t.eng.tabs,t.ba,[]⟩ (rowsF rows t.id)).1.mem = t.eng.mem := by
  unfold tenOkF
  rw [mine_i]
  unfold baseE
  simp only [Bool.and_eq_true,decide_eq_true_eq,inB_true]
  constructor
  · rintro ⟨⟨⟨⟨h1,h2⟩,h3⟩,h4⟩,⟨⟨⟨h5,h6⟩,h7⟩,h8⟩,h9,h10⟩
    exact ⟨h1,h2,h3,h4,h5,h6,h7,fun i hi => allR_at h8 hi,h9,h10⟩
  · rintro ⟨h1,h2,h3,h4,h5,h6,h7,h8,h9,h10⟩
    exact ⟨⟨⟨⟨h1,h2⟩,h3⟩,h4⟩,⟨⟨⟨h5,h6⟩,h7⟩,allR_yes h8⟩,h9,h10⟩
theorem ten_base {ks : DKeys} {rows : List LogRow} {t : DTen} (h : tenOkF ks rows t = true) : fEngOk ⟨[],t.eng.tabs,t.ba,[]⟩ = true := by
  unfold tenOkF at h
  simp only [Bool.and_eq_true,decide_eq_true_eq] at h
  exact base_ok (t := t) h.1.1.2 h.2
theorem ten_f {ks : DKeys} {rows : List LogRow} {t : DTen} (h : tenOkF ks rows t = true → False) : tenOkF ks rows t = false := by
  rw [Bool.eq_false_iff];exact h
theorem play_ok (key : ByteArray) : ∀ (l : List LogRow) (e x : DEng),fEngOk e = true → playF key e l = some x → fEngOk x = true
  | [],e,x,he,h => by
    rw [playF] at h;cases h;exact he
  | r :: l,e,x,he,h => by
    rw [playF] at h
    split at h
    · split at h
      · rename_i h1 h2
        obtain ⟨z1,z2,z3,z4⟩ := put_need h2
        exact play_ok key l _ x (by rw [z4];exact z3) h
      · cases h
    · cases h
theorem rep_small {key : ByteArray} {l : List LogRow} {e : DEng} (he : fEngOk e = true) : (repF key e l).1.mem.length ≤ 60 := by
  unfold repF
  split
  · rename_i x h
    exact (eng_few (play_ok key l e x he h)).1
  · exact Nat.zero_le _
theorem rowsF_all {rows : List LogRow} {p : LogRow → Prop} (id : Int) (h : ∀ k,k < rows.length → p (nth rows k)) : ∀ k,k < (rowsF rows id).length → p (nth (rowsF rows id) k) := fun k hk => mem_nth h _ ((List.mem_filter.1 (nth_mem _ k hk)).1)
theorem tenOk_c (g : Nat) (cs : List Value) (mk : ByteArray) (kA : Option Addr) (kc : Nat) (slots : List KeySlot) (wi : Int) (rA : Option Addr) (rc : Nat) (rows : List LogRow) (id ep ba : Int) (mA : Option Addr) (mc : Nat) (mem : List Ent) (tA : Option Addr) (tc : Nat) (R : List LE) (seq : Int) (sA : Option Addr) (sc : Nat) (sn : List Int) (w : World)
    (hb : Rd w (ga g) cs) (hc1 : (cs.drop 1).take 3 = [.string mk,.slice kA slots.length kc,.int .i64 wi]) (hc7 : cs[7]? = some (.slice rA rows.length rc)) (hk : Rd w kA (fl slots)) (hr : Rd w rA (fl rows)) (h1 : Rd w mA (fl mem)) (h2 : RdN w tA R) (h3 : Rd w sA (fl sn)) (hl0 : slots.length ≤ 4194304) (hlr : rows.length ≤ 4194304) (htx : ∀ k,k < rows.length → (nth rows k).txt.size ≤ 4194304) (hl1 : mem.length ≤ 4194304) (hl2 : R.length ≤ 4194304) (hs : ∀ x ∈ dats R,x.length ≤ 4194304) (hl3 : sn.length ≤ 4194304) :
    Calls Tryz.prog 97 #[pt (ga g) 0,.agg #[.int .i64 id,.int .i64 ep,.int .i64 ba,.slice mA mem.length mc,.slice tA R.length tc,.int .i64 seq,.slice sA sn.length sc]] w fun e w' => e = .returned (.bool (tenOkF ⟨mk,slots,wi⟩ rows ⟨id,ep,ba,⟨mem,dats R,seq,sn⟩⟩)) ∧ Below w.heap.size w w' := by
  have hiff := ten_iff ⟨mk,slots,wi⟩ rows ⟨id,ep,ba,⟨mem,dats R,seq,sn⟩⟩
  have hbase := @ten_base ⟨mk,slots,wi⟩ rows ⟨id,ep,ba,⟨mem,dats R,seq,sn⟩⟩
  have hfal := @ten_f ⟨mk,slots,wi⟩ rows ⟨id,ep,ba,⟨mem,dats R,seq,sn⟩⟩
  simp only [dats_len] at hiff hbase
  generalize tenOkF ⟨mk,slots,wi⟩ rows ⟨id,ep,ba,⟨mem,dats R,seq,sn⟩⟩ = res at hiff hbase hfal ⊢
  have HI := Lib.hid hiff;clear hiff
  have HB := Lib.hid hbase;clear hbase
  have HF := Lib.hid hfal;clear hfal
  have HS := Lib.hid hs;clear hs
  have H2 := Lib.hid h2;clear h2
  have HTX := Lib.hid htx;clear htx
  refine ok_enter 98 Tryz.func97 rfl rfl rfl ?_
  have htxf := rowsF_all (p := fun r => r.txt.size ≤ 4194304) id HTX.out
  have hfl := rowsF_le rows id
  repeat' (first
    | refine ok_seq ?_
    | refine ok_then ?_
    | refine ok_then_ret ?_
    | refine ok_block ?_
    | (refine ok_cond rfl (fun hc => ?_) (fun hc => ?_) <;> (have hd := hc;(try simp only [jA,jB,jC,jD,jE,jF,jG,jH,jI,jJ,jK,jL,jM,jN,jO,jP,jQ,jR,jS] at hd)))
    | refine ok_ret ?_
    | refine ok_skip ?_
    | (refine ok_region (i := 0) ?_;refine ok_m rfl rfl rfl (by exact ms_box rfl rfl rfl) ?_;rintro y3 hy3;refine ok_p rfl rfl rfl (ps_assign rfl rfl) ?_;refine ok_ne [(0,_),(3,_)] ⟨rfl,rfl,trivial⟩ ?_)
    | (refine ok_region (i := 1) ?_;refine ok_p rfl rfl rfl (by exact ps_field rfl rfl (isw_ga _)) ?_;refine ok_p rfl rfl rfl (by exact ps_load rfl rfl (by exact Rds.cell (rds_box 0 rfl) rfl)) ?_;refine ok_m rfl rfl rfl (by exact ms_s1 rfl rfl (fun _ _ w hw => isNum_c _ w)) ?_;rintro y12 hy12;refine ok_p rfl rfl rfl (by exact ps_not rfl rfl) ?_;refine ok_p rfl rfl rfl (ps_move rfl rfl) ?_;refine ok_pg rfl rfl rfl rfl rfl (gF _) (fun hp => by exact ps_field rfl rfl (isw_ga _)) ?_;refine ok_pg rfl rfl rfl rfl rfl (gF _) (fun hp => by (exact ps_load rfl (og rfl (by assumption)) (by exact Rds.cell (rds_box 0 rfl) rfl))) ?_;refine ok_mg rfl rfl rfl rfl rfl (gF _) (fun hp => by (exact ms_s1 rfl (og rfl (by assumption)) (fun _ _ w hw => isNum_c _ w))) ?_;refine ok_pg rfl rfl rfl rfl rfl (gF _) (fun hp => by (exact ps_not rfl (og rfl (by assumption)))) ?_;refine ok_p rfl rfl rfl (by exact ps_or rfl rfl rfl) ?_;refine ok_p rfl rfl rfl (ps_move rfl rfl) ?_;refine ok_pg rfl rfl rfl rfl rfl (gF _) (fun hp => by exact ps_field rfl rfl (isw_ga _)) ?_;refine ok_pg rfl rfl rfl rfl rfl (gF _) (fun hp => by (exact ps_field rfl (og rfl (by assumption)) (isw_ga _))) ?_;refine ok_pg rfl rfl rfl rfl rfl (gF _) (fun hp => by (exact ps_load rfl (og rfl (by assumption)) (by exact Rds.cell (rds_box 0 rfl) rfl))) ?_;refine ok_pg rfl rfl rfl rfl rfl (gF _) (fun hp => by (exact ps_len rfl (og rfl (by assumption)))) ?_;refine ok_pg rfl rfl rfl rfl rfl (gF _) (fun hp => by (exact ps_int rfl (og rfl (by assumption)) rfl rfl)) ?_;refine ok_p rfl rfl rfl (by exact ps_or rfl rfl rfl) ?_;refine ok_p rfl rfl rfl (ps_move rfl rfl) ?_;refine ok_pg rfl rfl rfl rfl rfl (gF _) (fun hp => by exact ps_field rfl rfl (isw_ga _)) ?_;refine ok_pg rfl rfl rfl rfl rfl (gF _) (fun hp => by (exact ps_field rfl (og rfl (by assumption)) (isw_ga _))) ?_;refine ok_pg rfl rfl rfl rfl rfl (gF _) (fun hp => by (exact ps_load rfl (og rfl (by assumption)) (by exact Rds.cell (rds_box 0 rfl) rfl))) ?_;refine ok_pg rfl rfl rfl rfl rfl (gF _) (fun hp => by (exact ps_len rfl (og rfl (by assumption)))) ?_;refine ok_pg rfl rfl rfl rfl rfl (gF _) (fun hp => by (exact ps_int rfl (og rfl (by assumption)) rfl rfl)) ?_;refine ok_p rfl rfl rfl (by exact ps_or rfl rfl rfl) ?_;refine ok_p rfl rfl rfl (ps_move rfl rfl) ?_;refine ok_pg rfl rfl rfl rfl rfl (gF _) (fun hp => by exact ps_field rfl rfl (isw_ga _)) ?_;refine ok_pg rfl rfl rfl rfl rfl (gF _) (fun hp => by (exact ps_loads rfl (og rfl (by assumption)) (by exact rds_box 0 rfl) rfl rfl (by decide))) ?_;refine ok_mg rfl rfl rfl rfl rfl (gF _) (fun hp => by (exact ms_s1 rfl (og rfl (by assumption)) (fun _ _ w hw => i_EngOk0 mA mc mem tA tc R seq sA sc sn w (rds_rf h1 List.mem_cons_self _ _ w hw) (RdN.keep hw H2.out List.mem_cons_self) (rds_rf h3 List.mem_cons_self _ _ w hw) hl1 hl2 HS.out hl3))) ?_;refine ok_pg rfl rfl rfl rfl rfl (gF _) (fun hp => by (exact ps_not rfl (og rfl (by assumption)))) ?_;refine ok_p rfl rfl rfl (by exact ps_or rfl rfl rfl) ?_;refine ok_ne [(0,_),(3,_),(39,_)] ⟨rfl,rfl,rfl,trivial⟩ ?_)
    | (refine ok_region (i := 2) ?_;refine ok_p rfl rfl rfl (ps_assign rfl rfl) ?_;refine ok_ne [(4,_)] ⟨rfl,trivial⟩ ?_)
    | (refine ok_region (i := 3) ?_;refine ok_p rfl rfl rfl (ps_move rfl rfl) ?_;refine ok_p rfl rfl rfl (by exact ps_field rfl rfl (isw_ga _)) ?_;refine ok_p rfl rfl rfl (by exact ps_load rfl rfl (by exact Rds.cell (rds_box 0 rfl) rfl)) ?_;refine ok_m rfl rfl rfl (by exact ms_c2 rfl rfl rfl (fun _ _ w hw => rowsOf_c g cs rA rc rows id w (rds_rf hb List.mem_cons_self _ _ w hw) hc7 (rds_rf hr List.mem_cons_self _ _ w hw) hlr)) ?_;rintro y43 hy43;refine ok_p rfl rfl rfl (ps_assign rfl rfl) ?_;refine ok_ne [(0,_),(3,_),(5,_)] ⟨rfl,rfl,rfl,trivial⟩ ?_)
    | (refine ok_region (i := 4) ?_;refine ok_p rfl rfl rfl (ps_move rfl rfl) ?_;refine ok_p rfl rfl rfl (by exact ps_len rfl rfl) ?_;refine ok_p rfl rfl rfl (by exact ps_int rfl rfl rfl rfl) ?_;refine ok_p rfl rfl rfl (ps_move rfl rfl) ?_;refine ok_pg rfl rfl rfl rfl rfl (gF _) (fun hp => by exact ps_field rfl rfl (isw_ga _)) ?_;refine ok_pg rfl rfl rfl rfl rfl (gF _) (fun hp => by (exact ps_load rfl (og rfl (by assumption)) (by exact Rds.cell (rds_box 1 rfl) rfl))) ?_;refine ok_pg rfl rfl rfl rfl rfl (gF _) (fun hp => by exact ps_move rfl rfl) ?_;refine ok_pg rfl rfl rfl rfl rfl (gF _) (fun hp => by (exact ps_len rfl (og rfl (by assumption)))) ?_;refine ok_pg rfl rfl rfl rfl rfl (gF _) (fun hp => by (have hpd := hp;(try simp only [jA,jB,jC,jD,jE,jF,jG,jH,jI,jJ,jK,jL,jM,jN,jO,jP,jQ,jR,jS] at hpd);exact ps_add rfl (og rfl (by assumption)) (og rfl (by assumption)) (by omega))) ?_;refine ok_pg rfl rfl rfl rfl rfl (gF _) (fun hp => by exact ps_field rfl rfl (isw_ga _)) ?_;refine ok_pg rfl rfl rfl rfl rfl (gF _) (fun hp => by (exact ps_field rfl (og rfl (by assumption)) (isw_ga _))) ?_;refine ok_pg rfl rfl rfl rfl rfl (gF _) (fun hp => by (exact ps_load rfl (og rfl (by assumption)) (by exact Rds.cell (rds_box 1 rfl) rfl))) ?_;refine ok_pg rfl rfl rfl rfl rfl (gF _) (fun hp => by (exact ps_int rfl (og rfl (by assumption)) (og rfl (by assumption)) rfl)) ?_;refine ok_p rfl rfl rfl (by exact ps_or rfl rfl rfl) ?_;refine ok_ne [(0,_),(3,_),(5,_),(57,_)] ⟨rfl,rfl,rfl,rfl,trivial⟩ ?_)
    | (refine ok_region (i := 5) ?_;refine ok_p rfl rfl rfl (ps_assign rfl rfl) ?_;refine ok_ne [(4,_)] ⟨rfl,trivial⟩ ?_)
    | (refine ok_region (i := 6) ?_;refine ok_p rfl rfl rfl (ps_move rfl rfl) ?_;refine ok_p rfl rfl rfl (by exact ps_len rfl rfl) ?_;refine ok_p rfl rfl rfl (ps_move rfl rfl) ?_;refine ok_ne [(0,_),(3,_),(5,_),(58,_),(59,_),(60,_)] ⟨rfl,rfl,rfl,rfl,rfl,rfl,trivial⟩ ?_))
  · rw [HF.out (fun h => by
      obtain ⟨g1,g2,g3,g4,g5,g6,g7,g8,g9,g10⟩ := HI.out.1 h
      rcases hd with (((hd | hd) | hd) | hd) | hd
      · omega
      · omega
      · omega
      · omega
      · rw [g3] at hd;cases hd)]
    exact ok_endL (vs := [_]) rfl ⟨rfl,trivial⟩ (fun w' hw => ⟨rfl,hw.below⟩)
  · rw [HF.out (fun h => by
      obtain ⟨g1,g2,g3,g4,g5,g6,g7,g8,g9,g10⟩ := HI.out.1 h
      omega)]
    exact ok_endL (vs := [_]) rfl ⟨rfl,trivial⟩ (fun w' hw => ⟨rfl,hw.below⟩)
  have hA : (0 ≤ ep ∧ ep ≤ 1000000) ∧ (0 ≤ ba ∧ ba ≤ 1000000) ∧ fEngOk ⟨mem,dats R,seq,sn⟩ = true ∧ sn.length ≤ 2 ∧ R.length ≤ 1 ∧ (rowsF rows id).length ≤ 6 ∧ ba + (rowsF rows id).length = seq := by
    rename_i hd0
    obtain ⟨⟨⟨⟨q1,q2⟩,q3⟩,q4⟩,q5⟩ := hd0
    exact ⟨q1,q2,q5,by omega,by omega,by omega,by omega⟩
  clear hc hd
  generalize rowsF rows id = L at HI htxf hfl hA ⊢
  have HTF := Lib.hid htxf;clear htxf
  refine ok_loop (ι := { j : Nat // j ≤ L.length ∧ ∀ q,q < j → seqAt ba L q = true }) (fun j => L.length - j.1) (fun j => ([(0,pt (ga g) 0),(3,pt (ga (y3 0).c) 0),(5,.slice (y43 0).A L.length (y43 0).c),(58,.slice (y43 0).A L.length (y43 0).c),(59,.int .i64 L.length),(60,.int .i64 j.1)],_,_)) ⟨0,by omega,fun j h => absurd h (Nat.not_lt_zero j)⟩ (fun a w he hw => ⟨⟨0,by omega,fun j h => absurd h (Nat.not_lt_zero j)⟩,he.sub ⟨rfl,rfl,rfl,rfl,rfl,rfl,trivial⟩,hw⟩) ?_
  rintro ⟨j,hj,ha⟩
  simp only at hj ⊢
  have HA := Lib.hid ha;clear ha
  repeat' ((fail_if_success (refine at_reg 14 ?_));first
    | refine ok_seq ?_
    | refine ok_then ?_
    | refine ok_then_ret ?_
    | refine ok_block ?_
    | refine ok_in_normal ?_
    | refine ok_in_ret ?_
    | (refine ok_cond rfl (fun hc => ?_) (fun hc => ?_) <;> (have hd := hc;(try simp only [jA,jB,jC,jD,jE,jF,jG,jH,jI,jJ,jK,jL,jM,jN,jO,jP,jQ,jR,jS] at hd)))
    | refine ok_ret ?_
    | refine ok_exit ?_
    | refine ok_skip ?_
    | (refine ok_region (i := 7) ?_;refine ok_p rfl rfl rfl (by exact ps_int rfl rfl rfl rfl) ?_;refine ok_ne [(0,_),(3,_),(5,_),(58,_),(59,_),(60,_),(61,_)] ⟨rfl,rfl,rfl,rfl,rfl,rfl,rfl,trivial⟩ ?_)
    | (refine ok_region (i := 8) ?_;refine ok_p rfl rfl rfl (ps_move rfl rfl) ?_;refine ok_p rfl rfl rfl (by exact ps_indexN rfl rfl rfl (by omega) (by exact isw_row 0 rfl (by omega))) ?_;refine ok_p rfl rfl rfl (by exact ps_loadsF rfl rfl (by exact rds_row 0 rfl) (by rfl) (by rfl) (by omega) rfl) ?_;refine ok_m rfl rfl rfl (by exact ms_alloc rfl) ?_;rintro y7 hy7;refine ok_p rfl rfl rfl (ps_assign rfl rfl) ?_;refine ok_m_ rfl rfl (by exact ms_store 0 rfl rfl rfl rfl rfl rfl rfl rfl) ?_;rintro y_ hy_;refine ok_ne [(0,_),(3,_),(5,_),(6,_),(7,_),(58,_),(59,_),(60,_)] ⟨rfl,rfl,rfl,rfl,rfl,rfl,rfl,rfl,trivial⟩ ?_)
    | (refine ok_region (i := 9) ?_;refine ok_p rfl rfl rfl (by exact ps_field rfl rfl (isw_ga _)) ?_;refine ok_p rfl rfl rfl (by exact ps_load rfl rfl (by exact Rds.cell (rds_box 0 rfl) rfl)) ?_;refine ok_p rfl rfl rfl (by exact ps_field rfl rfl (isw_ga _)) ?_;refine ok_p rfl rfl rfl (by exact ps_load rfl rfl (by exact Rds.cell (rds_box 2 rfl) rfl)) ?_;refine ok_p rfl rfl rfl (ps_move rfl rfl) ?_;refine ok_p rfl rfl rfl (by exact ps_add rfl rfl rfl (by omega)) ?_;refine ok_p rfl rfl rfl (by exact ps_add rfl rfl rfl (by omega)) ?_;refine ok_p rfl rfl rfl (by exact ps_int rfl rfl rfl rfl) ?_;refine ok_ne [(0,_),(3,_),(5,_),(58,_),(59,_),(60,_),(72,_)] ⟨rfl,rfl,rfl,rfl,rfl,rfl,rfl,trivial⟩ ?_)
    | (refine ok_region (i := 10) ?_;refine ok_p rfl rfl rfl (ps_assign rfl rfl) ?_;refine ok_ne [(4,_)] ⟨rfl,trivial⟩ ?_)
    | (refine ok_region (i := 11) ?_;refine ok_p rfl rfl rfl (by exact ps_add rfl rfl rfl (by omega)) ?_;refine ok_p rfl rfl rfl (ps_move rfl rfl) ?_;refine ok_ne [(0,_),(3,_),(5,_),(58,_),(59,_),(60,_)] ⟨rfl,rfl,rfl,rfl,rfl,rfl,trivial⟩ ?_)
    | (refine ok_region (i := 12) ?_;refine ok_p rfl rfl rfl (by exact ps_field rfl rfl (isw_ga _)) ?_;refine ok_p rfl rfl rfl (by exact ps_field rfl rfl (isw_ga _)) ?_;refine ok_p rfl rfl rfl (by exact ps_load rfl rfl (by exact Rds.cell (rds_box 1 rfl) rfl)) ?_;refine ok_p rfl rfl rfl (by exact ps_field rfl rfl (isw_ga _)) ?_;refine ok_p rfl rfl rfl (by exact ps_load rfl rfl (by exact Rds.cell (rds_box 1 rfl) rfl)) ?_;refine ok_p rfl rfl rfl (by exact ps_bld rfl (parts_cons rfl (parts_cons rfl parts_nil)) rfl) ?_;refine ok_m rfl rfl rfl (by exact ms_s1 rfl rfl (fun _ _ w hw => i_EngOk0 none 0 [] tA tc R ba none 0 [] w (fun k u h => by simp [fl] at h) (RdN.keep hw H2.out List.mem_cons_self) (fun k u h => by simp [fl] at h) (by simp) hl2 HS.out (by simp))) ?_;rintro y80 hy80;refine ok_p rfl rfl rfl (by exact ps_not rfl rfl) ?_;refine ok_ne [(0,_),(3,_),(5,_),(81,_)] ⟨rfl,rfl,rfl,rfl,trivial⟩ ?_)
    | (refine ok_region (i := 13) ?_;refine ok_p rfl rfl rfl (ps_assign rfl rfl) ?_;refine ok_ne [(4,_)] ⟨rfl,trivial⟩ ?_))
  · rw [HF.out (fun h => by
      obtain ⟨g1,g2,g3,g4,g5,g6,g7,g8,g9,g10⟩ := HI.out.1 h
      have := g8 j (by omega)
      unfold seqAt at this
      rw [decide_eq_true_eq] at this
      exact hd this)]
    exact ok_endL (vs := [_]) rfl ⟨rfl,trivial⟩ (fun w' hw => ⟨rfl,hw.below⟩)
  · exact fun a w' he hw => ⟨⟨j + 1,by omega,fun q hq => by
      rcases Nat.lt_succ_iff_lt_or_eq.1 hq with h' | rfl
      · exact HA.out q h'
      · unfold seqAt;rw [decide_eq_true_eq];exact hd⟩,by simp only;omega,he.sub ⟨rfl,rfl,rfl,rfl,rfl,rfl,trivial⟩,hw.tl⟩
  · rw [HF.out (fun h => by
      have := HB.out h
      rw [hd] at this;cases this)]
    exact ok_endL (vs := [_]) rfl ⟨rfl,trivial⟩ (fun w' hw => ⟨rfl,hw.below⟩)
  have hbe : fEngOk ⟨[],dats R,ba,[]⟩ = true := by assumption
  have hjl : j = L.length := by omega
  subst hjl
  have hsm := rep_small (key := keyOf ⟨mk,slots,wi⟩ id) (l := L) hbe
  clear hc hd
  repeat' (first
    | refine ok_seq ?_
    | (refine ok_region (i := 14) ?_;refine ok_p rfl rfl rfl (ps_move rfl rfl) ?_;refine ok_p rfl rfl rfl (by exact ps_loads rfl rfl (by exact rds_box 1 rfl) rfl rfl (by decide)) ?_;refine ok_p rfl rfl rfl (ps_move rfl rfl) ?_;refine ok_m rfl rfl rfl (by exact ms_c3 rfl rfl rfl rfl (fun _ _ w hw => replayed0 g cs mk kA kc slots wi id ep ba mA mc mem tA tc R seq sA sc sn (y43 0).A (y43 0).c L w (rds_rf hb List.mem_cons_self _ _ w hw) hc1 (rds_rf hk List.mem_cons_self _ _ w hw) (rds_rf h1 List.mem_cons_self _ _ w hw) (RdN.keep hw H2.out List.mem_cons_self) (rds_rf h3 List.mem_cons_self _ _ w hw) (hw.row 0 rfl) hl0 hl1 hl2 HS.out hl3 (by omega) HTF.out hbe)) ?_;rintro y86 hy86;refine ok_p rfl rfl rfl (ps_move rfl rfl) ?_;refine ok_p rfl rfl rfl (by exact ps_extract rfl rfl rfl) ?_;refine ok_p rfl rfl rfl (by exact ps_extract rfl rfl rfl) ?_;refine ok_m rfl rfl rfl (by exact ms_alloc rfl) ?_;rintro y8 hy8;refine ok_m_ rfl rfl (by exact ms_store 0 rfl rfl rfl rfl rfl rfl rfl rfl) ?_;rintro y_ hy_;refine ok_p rfl rfl rfl (ps_assign rfl rfl) ?_;refine ok_ne [(3,_),(8,_),(9,_)] ⟨rfl,rfl,rfl,trivial⟩ ?_))
  generalize repF (keyOf ⟨mk,slots,wi⟩ id) ⟨[],dats R,ba,[]⟩ L = P at HI hsm ⊢
  repeat' (first
    | refine ok_then ?_
    | refine ok_ret ?_
    | (refine ok_region (i := 15) ?_;refine ok_p rfl rfl rfl (ps_move rfl rfl) ?_;refine ok_p rfl rfl rfl (ps_move rfl rfl) ?_;refine ok_pg rfl rfl rfl rfl rfl (gT _) (fun hp => by exact ps_field rfl rfl (isw_ga _)) ?_;refine ok_pg rfl rfl rfl rfl rfl (gT _) (fun hp => by (exact ps_load rfl (og rfl (by assumption)) (by exact Rds.cell (rds_box 0 rfl) rfl))) ?_;refine ok_pg rfl rfl rfl rfl rfl (gT _) (fun hp => by exact ps_field rfl rfl (isw_ga _)) ?_;refine ok_pg rfl rfl rfl rfl rfl (gT _) (fun hp => by (exact ps_field rfl (og rfl (by assumption)) (isw_ga _))) ?_;refine ok_pg rfl rfl rfl rfl rfl (gT _) (fun hp => by (exact ps_load rfl (og rfl (by assumption)) (by exact Rds.cell (rds_box 6 rfl) rfl))) ?_;refine ok_mg rfl rfl rfl rfl rfl (gT _) (fun hp => by (have hpd := hp;(try simp only [jA,jB,jC,jD,jE,jF,jG,jH,jI,jJ,jK,jL,jM,jN,jO,jP,jQ,jR,jS] at hpd);exact ms_s2 rfl (og rfl (by assumption)) (og rfl (by assumption)) (fun _ _ w hw => equalE_c (y86 0).A (y86 0).c P.1.mem mA mc mem w (hw.row 1 rfl) (rds_rf h1 List.mem_cons_self _ _ w hw) (by omega) hl1))) ?_;refine ok_p rfl rfl rfl (by exact ps_and rfl rfl rfl) ?_;refine ok_p rfl rfl rfl (ps_assign rfl rfl) ?_;refine ok_ne [(4,_)] ⟨rfl,trivial⟩ ?_))
  have e : (P.2 && decide (P.1.mem = mem)) = res := by
    rw [Bool.eq_iff_iff,HI.out,Bool.and_eq_true,decide_eq_true_eq]
    constructor
    · rintro ⟨a,b⟩
      obtain ⟨g1,g2,g3,g4,g5,g6,g7⟩ := hA
      exact ⟨g1,g2,g3,g4,g5,g6,g7,HA.out,a,b⟩
    · rintro ⟨g1,g2,g3,g4,g5,g6,g7,g8,g9,g10⟩
      exact ⟨g9,g10⟩
  exact ok_endL (vs := [_]) rfl ⟨rfl,trivial⟩ (fun w' hw => ⟨by rw [← e];rfl,hw.below⟩)
end Go.Proofs.YtmfojbidojjciaaGreat
/- Stores that are right, by the program. -/
namespace Go.Proofs.YtmfojbidojjciaaGreat
open Go.RowKit
attribute [local irreducible] Calls
theorem i_StoreOk0 (sec mk : ByteArray) (kA : Option Addr) (kc : Nat) (slots : List KeySlot) (wi ssz : Int) (shA : Option Addr) (shc : Nat) (shl : List Share) (tnA : Option Addr) (tnc : Nat) (tens : List LTen) (rA : Option Addr) (rc : Nat) (rows : List LogRow) (hA : Option Addr) (hcc : Nat) (hist : List LogRow) (bo : Int)
    (w : World) (hk : Rd w kA (fl slots)) (hsh : Rd w shA (fl shl)) (ht : Rd w tnA (fl tens)) (htr : tensRd w tens) (hr : Rd w rA (fl rows)) (hl0 : slots.length ≤ 4194304) (hl1 : shl.length ≤ 4194304) (hl2 : tens.length ≤ 4194304) (hl3 : rows.length ≤ 4194304) (hl4 : hist.length ≤ 4194304) (htx : ∀ k,k < rows.length → (nth rows k).txt.size ≤ 4194304) (hsm : ∀ k,k < tens.length → tenSm (nth tens k)) :
    Calls Tryz.prog 45 #[.agg #[.string sec,.string mk,.slice kA slots.length kc,.int .i64 wi,.int .i64 ssz,.slice shA shl.length shc,.slice tnA tens.length tnc,.slice rA rows.length rc,.slice hA hist.length hcc,.int .i64 bo]] w fun e w' => e = .returned (.bool (fStoreOk ⟨sec,⟨mk,slots,wi⟩,⟨ssz,shl⟩,tens.map LTen.d,rows,hist,bo⟩)) ∧ Below w.heap.size w w' := by
  have HTX := Lib.hid htx;clear htx
  have HSM := Lib.hid hsm;clear hsm
  have HTR := Lib.hid htr;clear htr
  have hml : (tens.map LTen.d).length = tens.length := List.length_map ..
  refine ok_enter 101 Tryz.func45 rfl rfl rfl ?_
  repeat' (first
    | refine ok_seq ?_
    | refine ok_then ?_
    | refine ok_then_ret ?_
    | refine ok_block ?_
    | (refine ok_cond rfl (fun hc => ?_) (fun hc => ?_) <;> (have hd := hc;(try simp only [jA,jB,jC,jD,jE,jF,jG,jH,jI,jJ,jK,jL,jM,jN,jO,jP,jQ,jR,jS] at hd)))
    | refine ok_ret ?_
    | refine ok_skip ?_
    | (refine ok_region (i := 0) ?_;refine ok_m rfl rfl rfl (by exact ms_box rfl rfl rfl) ?_;rintro y1 hy1;refine ok_p rfl rfl rfl (ps_assign rfl rfl) ?_;refine ok_ne [(1,_)] ⟨rfl,trivial⟩ ?_)
    | (refine ok_region (i := 1) ?_;refine ok_p rfl rfl rfl (by exact ps_field rfl rfl (isw_ga _)) ?_;refine ok_p rfl rfl rfl (by exact ps_load rfl rfl (by exact Rds.cell (rds_box 0 rfl) rfl)) ?_;refine ok_p rfl rfl rfl (by exact ps_slen rfl rfl) ?_;refine ok_p rfl rfl rfl (by exact ps_int rfl rfl rfl rfl) ?_;refine ok_p rfl rfl rfl (ps_move rfl rfl) ?_;refine ok_pg rfl rfl rfl rfl rfl (gF _) (fun hp => by exact ps_field rfl rfl (isw_ga _)) ?_;refine ok_pg rfl rfl rfl rfl rfl (gF _) (fun hp => by (exact ps_loads rfl (og rfl (by assumption)) (by exact rds_box 0 rfl) rfl rfl (by decide))) ?_;refine ok_mg rfl rfl rfl rfl rfl (gF _) (fun hp => by (exact ms_s1 rfl (og rfl (by assumption)) (fun _ _ w hw => i_KeyOk0 mk kA kc slots wi w (rds_rf hk List.mem_cons_self _ _ w hw) hl0))) ?_;refine ok_pg rfl rfl rfl rfl rfl (gF _) (fun hp => by (exact ps_not rfl (og rfl (by assumption)))) ?_;refine ok_p rfl rfl rfl (by exact ps_or rfl rfl rfl) ?_;refine ok_p rfl rfl rfl (ps_move rfl rfl) ?_;refine ok_pg rfl rfl rfl rfl rfl (gF _) (fun hp => by exact ps_field rfl rfl (isw_ga _)) ?_;refine ok_pg rfl rfl rfl rfl rfl (gF _) (fun hp => by (exact ps_loads rfl (og rfl (by assumption)) (by exact rds_box 0 rfl) rfl rfl (by decide))) ?_;refine ok_mg rfl rfl rfl rfl rfl (gF _) (fun hp => by (exact ms_s1 rfl (og rfl (by assumption)) (fun _ _ w hw => i_SharesOk0 ssz shA shc shl w (rds_rf hsh List.mem_cons_self _ _ w hw) hl1))) ?_;refine ok_pg rfl rfl rfl rfl rfl (gF _) (fun hp => by (exact ps_not rfl (og rfl (by assumption)))) ?_;refine ok_p rfl rfl rfl (by exact ps_or rfl rfl rfl) ?_;refine ok_p rfl rfl rfl (ps_move rfl rfl) ?_;refine ok_pg rfl rfl rfl rfl rfl (gF _) (fun hp => by exact ps_field rfl rfl (isw_ga _)) ?_;refine ok_pg rfl rfl rfl rfl rfl (gF _) (fun hp => by (exact ps_load rfl (og rfl (by assumption)) (by exact Rds.cell (rds_box 0 rfl) rfl))) ?_;refine ok_mg rfl rfl rfl rfl rfl (gF _) (fun hp => by (exact ms_s3 rfl (og rfl (by assumption)) rfl rfl (fun _ _ w hw => in_i _ _ _ w))) ?_;refine ok_pg rfl rfl rfl rfl rfl (gF _) (fun hp => by (exact ps_not rfl (og rfl (by assumption)))) ?_;refine ok_p rfl rfl rfl (by exact ps_or rfl rfl rfl) ?_;refine ok_p rfl rfl rfl (ps_move rfl rfl) ?_;refine ok_pg rfl rfl rfl rfl rfl (gF _) (fun hp => by exact ps_field rfl rfl (isw_ga _)) ?_;refine ok_pg rfl rfl rfl rfl rfl (gF _) (fun hp => by (exact ps_load rfl (og rfl (by assumption)) (by exact Rds.cell (rds_box 0 rfl) rfl))) ?_;refine ok_pg rfl rfl rfl rfl rfl (gF _) (fun hp => by (exact ps_len rfl (og rfl (by assumption)))) ?_;refine ok_pg rfl rfl rfl rfl rfl (gF _) (fun hp => by (exact ps_int rfl (og rfl (by assumption)) rfl rfl)) ?_;refine ok_p rfl rfl rfl (by exact ps_or rfl rfl rfl) ?_;refine ok_ne [(1,_),(34,_)] ⟨rfl,rfl,trivial⟩ ?_)
    | (refine ok_region (i := 2) ?_;refine ok_p rfl rfl rfl (ps_assign rfl rfl) ?_;refine ok_ne [(2,_)] ⟨rfl,trivial⟩ ?_)
    | (refine ok_region (i := 3) ?_;refine ok_p rfl rfl rfl (by exact ps_field rfl rfl (isw_ga _)) ?_;refine ok_p rfl rfl rfl (by exact ps_load rfl rfl (by exact Rds.cell (rds_box 0 rfl) rfl)) ?_;refine ok_p rfl rfl rfl (by exact ps_len rfl rfl) ?_;refine ok_p rfl rfl rfl (by exact ps_field rfl rfl (isw_ga _)) ?_;refine ok_p rfl rfl rfl (by exact ps_field rfl rfl (isw_ga _)) ?_;refine ok_p rfl rfl rfl (by exact ps_load rfl rfl (by exact Rds.cell (rds_box 0 rfl) rfl)) ?_;refine ok_p rfl rfl rfl (by exact ps_len rfl rfl) ?_;refine ok_p rfl rfl rfl (by exact ps_int rfl rfl rfl rfl) ?_;refine ok_p rfl rfl rfl (ps_move rfl rfl) ?_;refine ok_pg rfl rfl rfl rfl rfl (gF _) (fun hp => by exact ps_field rfl rfl (isw_ga _)) ?_;refine ok_pg rfl rfl rfl rfl rfl (gF _) (fun hp => by (exact ps_load rfl (og rfl (by assumption)) (by exact Rds.cell (rds_box 0 rfl) rfl))) ?_;refine ok_pg rfl rfl rfl rfl rfl (gF _) (fun hp => by (exact ps_len rfl (og rfl (by assumption)))) ?_;refine ok_pg rfl rfl rfl rfl rfl (gF _) (fun hp => by exact ps_field rfl rfl (isw_ga _)) ?_;refine ok_pg rfl rfl rfl rfl rfl (gF _) (fun hp => by (exact ps_field rfl (og rfl (by assumption)) (isw_ga _))) ?_;refine ok_pg rfl rfl rfl rfl rfl (gF _) (fun hp => by (exact ps_load rfl (og rfl (by assumption)) (by exact Rds.cell (rds_box 0 rfl) rfl))) ?_;refine ok_pg rfl rfl rfl rfl rfl (gF _) (fun hp => by (exact ps_len rfl (og rfl (by assumption)))) ?_;refine ok_pg rfl rfl rfl rfl rfl (gF _) (fun hp => by (exact ps_int rfl (og rfl (by assumption)) (og rfl (by assumption)) rfl)) ?_;refine ok_p rfl rfl rfl (by exact ps_or rfl rfl rfl) ?_;refine ok_ne [(1,_),(52,_)] ⟨rfl,rfl,trivial⟩ ?_)
    | (refine ok_region (i := 4) ?_;refine ok_p rfl rfl rfl (ps_assign rfl rfl) ?_;refine ok_ne [(2,_)] ⟨rfl,trivial⟩ ?_)
    | (refine ok_region (i := 5) ?_;refine ok_p rfl rfl rfl (by exact ps_field rfl rfl (isw_ga _)) ?_;refine ok_p rfl rfl rfl (by exact ps_load rfl rfl (by exact Rds.cell (rds_box 0 rfl) rfl)) ?_;refine ok_p rfl rfl rfl (by exact ps_len rfl rfl) ?_;refine ok_p rfl rfl rfl (ps_move rfl rfl) ?_;refine ok_ne [(1,_),(54,_),(55,_),(56,_)] ⟨rfl,rfl,rfl,rfl,trivial⟩ ?_))
  · have e : fStoreOk ⟨sec,⟨mk,slots,wi⟩,⟨ssz,shl⟩,tens.map LTen.d,rows,hist,bo⟩ = false := st_no (by
      simp only [hml]
      rintro ⟨g1,g2,g3,g4,g5,g6,g7⟩
      simp [g1,g2,g3] at hd
      omega)
    rw [e]
    exact ok_endL (vs := [_]) rfl ⟨rfl,trivial⟩ (fun w' hw => ⟨rfl,hw.below⟩)
  · have e : fStoreOk ⟨sec,⟨mk,slots,wi⟩,⟨ssz,shl⟩,tens.map LTen.d,rows,hist,bo⟩ = false := st_no (by
      simp only [hml]
      rintro ⟨g1,g2,g3,g4,g5,g6,g7⟩
      omega)
    rw [e]
    exact ok_endL (vs := [_]) rfl ⟨rfl,trivial⟩ (fun w' hw => ⟨rfl,hw.below⟩)
  have hhead : (sec.size : Int) = 32 ∧ fKeyOk ⟨mk,slots,wi⟩ = true ∧ fSharesOk ⟨ssz,shl⟩ = true ∧ (0 ≤ bo ∧ bo ≤ 1000) ∧ hist.length ≤ 120 ∧ (tens.map LTen.d).length = slots.length ∧ (tens.map LTen.d).length = shl.length := by
    rw [hml]
    rename_i hd0
    obtain ⟨⟨⟨⟨g1,g2⟩,g3⟩,g4⟩,g5⟩ := hd0
    exact ⟨g1,g2,g3,g4,by omega,by omega,by omega⟩
  have hgs : tens.length = slots.length ∧ tens.length = shl.length := by rw [hml] at hhead;exact ⟨hhead.2.2.2.2.2.1,hhead.2.2.2.2.2.2⟩
  clear hc hd
  obtain ⟨D,hD⟩ : ∃ D : DStore,D = ⟨sec,⟨mk,slots,wi⟩,⟨ssz,shl⟩,tens.map LTen.d,rows,hist,bo⟩ := ⟨_,rfl⟩
  rw [← hD]
  have hT : ∀ k,k < tens.length → tenAt D k = (decide ((nth slots k).ten = (nth tens k).id) && decide ((nth shl k).ten = (nth tens k).id) && (inB (nth tens k).ep 0 1000000 && inB (nth tens k).ba 0 1000000 && fEngOk (nth tens k).e.d && decide ((nth tens k).e.snaps.l.length ≤ 2) && mineF (keyOf ⟨mk,slots,wi⟩ (nth tens k).id) rows (nth tens k).d)) := fun k hk => by subst hD;exact st_ten rfl hk
  have hno : ∀ k,k < tens.length → tenAt D k = false → fStoreOk D = false := fun k hk h => st_at (by subst hD;simpa using hk) h
  have hrn : ∀ k,k < rows.length → tensF tens (nth rows k).ten < 0 → fStoreOk D = false := fun k hk h => by
    subst hD
    refine st_row (k := k) hk ?_
    have := tens_any tens (nth rows k).ten
    rw [decide_eq_true h] at this
    simpa using this.symm
  have hye : (∀ k,k < tens.length → tenAt D k = true) → (∀ k,k < rows.length → ¬ tensF tens (nth rows k).ten < 0) → fStoreOk D = true := fun h1 h2 => by
    subst hD
    refine st_yes hhead (fun k hk => h1 k (by simpa using hk)) (fun k hk => ?_)
    have := tens_any tens (nth rows k).ten
    rw [decide_eq_false (h2 k hk)] at this
    simpa using this.symm
  clear hhead hml
  have HT := Lib.hid hT;clear hT
  have HNO := Lib.hid hno;clear hno
  have HRN := Lib.hid hrn;clear hrn
  have HYE := Lib.hid hye;clear hye
  clear hD
  refine ok_loop (ι := { k : Nat // k ≤ tens.length ∧ ∀ j,j < k → tenAt D j = true }) (fun k => tens.length - k.1) (fun k => ([(1,pt (ga (y1 0).c) 0),(54,.slice tnA tens.length tnc),(55,.int .i64 tens.length),(56,.int .i64 k.1)],_,_)) ⟨0,by omega,fun j h => absurd h (Nat.not_lt_zero j)⟩ (fun a w he hw => ⟨⟨0,by omega,fun j h => absurd h (Nat.not_lt_zero j)⟩,he.sub ⟨rfl,rfl,rfl,rfl,trivial⟩,hw⟩) ?_
  rintro ⟨k,hk2,ha⟩
  simp only at hk2 ⊢
  have HA := Lib.hid ha;clear ha
  have hrd : k < tens.length → Rd w (nth tens k).e.mem.A (fl (nth tens k).e.mem.l) ∧ RdN w (nth tens k).e.tab.A (nth tens k).e.tab.l ∧ Rd w (nth tens k).e.snaps.A (fl (nth tens k).e.snaps.l) := fun h => ⟨(HTR.out k h).mem,(HTR.out k h).tab,(HTR.out k h).snaps⟩
  have HRD := Lib.hid hrd;clear hrd
  repeat' (first
    | refine ok_seq ?_
    | refine ok_then ?_
    | refine ok_then_ret ?_
    | refine ok_block ?_
    | refine ok_in_normal ?_
    | refine ok_in_ret ?_
    | (refine ok_cond rfl (fun hc => ?_) (fun hc => ?_) <;> (have hd := hc;(try simp only [jA,jB,jC,jD,jE,jF,jG,jH,jI,jJ,jK,jL,jM,jN,jO,jP,jQ,jR,jS] at hd)))
    | refine ok_ret ?_
    | refine ok_exit ?_
    | refine ok_skip ?_
    | (refine ok_region (i := 6) ?_;refine ok_p rfl rfl rfl (by exact ps_int rfl rfl rfl rfl) ?_;refine ok_ne [(1,_),(54,_),(55,_),(56,_),(57,_)] ⟨rfl,rfl,rfl,rfl,rfl,trivial⟩ ?_)
    | (refine ok_region (i := 7) ?_;refine ok_p rfl rfl rfl (ps_move rfl rfl) ?_;refine ok_p rfl rfl rfl (by exact ps_indexN rfl rfl rfl (by omega) (by exact isw_of (isS_fl (by assumption) (by omega)))) ?_;refine ok_p rfl rfl rfl (by exact ps_loadsF rfl rfl (by exact rds_rf (by assumption) List.mem_cons_self) (by rfl) (by rfl) (by omega) rfl) ?_;refine ok_m rfl rfl rfl (by exact ms_alloc rfl) ?_;rintro y4 hy4;refine ok_p rfl rfl rfl (ps_assign rfl rfl) ?_;refine ok_m_ rfl rfl (by exact ms_store 0 rfl rfl rfl rfl rfl rfl rfl rfl) ?_;rintro y_ hy_;refine ok_ne [(1,_),(3,_),(4,_),(54,_),(55,_),(56,_)] ⟨rfl,rfl,rfl,rfl,rfl,rfl,trivial⟩ ?_)
    | (refine ok_draw (id := 8) 27 rfl (by kernel_rfl) (by kernel_rfl) rfl (by repeat (first | exact pq_body | refine pq_then ?_ | refine pq_in ?_)) [0,1,2,3,4,5,6,7,8,9,10,11,12,13,14,15,16,17,18,19,20,21,22,23] (by decide) rfl ?_;refine okT_take (i := 0) rfl (by kernel_rfl) rfl rfl rfl (by exact ps_field rfl rfl (isw_ga _)) ?_;refine okT_take (i := 1) rfl (by kernel_rfl) rfl rfl rfl (by exact ps_field rfl rfl (isw_ga _)) ?_;refine okT_take (i := 2) rfl (by kernel_rfl) rfl rfl rfl (by exact ps_load rfl rfl (by exact Rds.cell (rds_box 1 rfl) rfl)) ?_;refine okT_take (i := 3) rfl (by kernel_rfl) rfl rfl rfl (ps_move rfl rfl) ?_;refine okT_take (i := 4) rfl (by kernel_rfl) rfl rfl rfl (by exact ps_indexN rfl rfl rfl (by omega) (by exact isw_of (isS_fl (by assumption) (by omega)))) ?_;refine okT_take (i := 5) rfl (by kernel_rfl) rfl rfl rfl (by exact ps_field rfl rfl (by exact isw_of (isS_fl (by assumption) (by omega)))) ?_;refine okT_take (i := 6) rfl (by kernel_rfl) rfl rfl rfl (by exact ps_load rfl rfl (by exact Rds.cell (rds_rf (by assumption) List.mem_cons_self) (by exact fl_at0 _ _ (by omega) (by decide)))) ?_;refine okT_take (i := 7) rfl (by kernel_rfl) rfl rfl rfl (by exact ps_field rfl rfl (isw_ga _)) ?_;refine okT_take (i := 8) rfl (by kernel_rfl) rfl rfl rfl (by exact ps_load rfl rfl (by exact Rds.cell (rds_box 0 rfl) rfl)) ?_;refine okT_take (i := 9) rfl (by kernel_rfl) rfl rfl rfl (by exact ps_int rfl rfl rfl rfl) ?_;refine okT_take (i := 10) rfl (by kernel_rfl) rfl rfl rfl (ps_move rfl rfl) ?_;refine okT_take_g1 (i := 11) rfl (by kernel_rfl) rfl rfl rfl rfl rfl (gF _) (fun hp => by exact ps_field rfl rfl (isw_ga _)) ?_;refine okT_take_g1 (i := 12) rfl (by kernel_rfl) rfl rfl rfl rfl rfl (gF _) (fun hp => by (exact ps_field rfl (og rfl (by assumption)) (isw_ga _))) ?_;refine okT_take_g1 (i := 13) rfl (by kernel_rfl) rfl rfl rfl rfl rfl (gF _) (fun hp => by (exact ps_load rfl (og rfl (by assumption)) (by exact Rds.cell (rds_box 1 rfl) rfl))) ?_;refine okT_take_g1 (i := 14) rfl (by kernel_rfl) rfl rfl rfl rfl rfl (gF _) (fun hp => by exact ps_move rfl rfl) ?_;refine okT_take_g1 (i := 15) rfl (by kernel_rfl) rfl rfl rfl rfl rfl (gF _) (fun hp => by (have hpd := hp;(try simp only [jA,jB,jC,jD,jE,jF,jG,jH,jI,jJ,jK,jL,jM,jN,jO,jP,jQ,jR,jS] at hpd);exact ps_indexN rfl (og rfl (by assumption)) (og rfl (by assumption)) (by omega) (by exact isw_of (isS_fl (by assumption) (by omega))))) ?_;refine okT_take_g1 (i := 16) rfl (by kernel_rfl) rfl rfl rfl rfl rfl (gF _) (fun hp => by (have hpd := hp;(try simp only [jA,jB,jC,jD,jE,jF,jG,jH,jI,jJ,jK,jL,jM,jN,jO,jP,jQ,jR,jS] at hpd);exact ps_field rfl (og rfl (by assumption)) (by exact isw_of (isS_fl (by assumption) (by omega))))) ?_;refine okT_take_g1 (i := 17) rfl (by kernel_rfl) rfl rfl rfl rfl rfl (gF _) (fun hp => by (have hpd := hp;(try simp only [jA,jB,jC,jD,jE,jF,jG,jH,jI,jJ,jK,jL,jM,jN,jO,jP,jQ,jR,jS] at hpd);exact ps_load rfl (og rfl (by assumption)) (by exact Rds.cell (rds_rf (by assumption) List.mem_cons_self) (by exact fl_at0 _ _ (by omega) (by decide))))) ?_;refine okT_take_g1 (i := 18) rfl (by kernel_rfl) rfl rfl rfl rfl rfl (gF _) (fun hp => by exact ps_field rfl rfl (isw_ga _)) ?_;refine okT_take_g1 (i := 19) rfl (by kernel_rfl) rfl rfl rfl rfl rfl (gF _) (fun hp => by (exact ps_load rfl (og rfl (by assumption)) (by exact Rds.cell (rds_box 0 rfl) rfl))) ?_;refine okT_take_g1 (i := 20) rfl (by kernel_rfl) rfl rfl rfl rfl rfl (gF _) (fun hp => by (exact ps_int rfl (og rfl (by assumption)) (og rfl (by assumption)) rfl)) ?_;refine okT_take (i := 21) rfl (by kernel_rfl) rfl rfl rfl (by exact ps_or rfl rfl rfl) ?_;refine okT_take (i := 22) rfl (by kernel_rfl) rfl rfl rfl (ps_move rfl rfl) ?_;refine okT_take_g1 (i := 23) rfl (by kernel_rfl) rfl rfl rfl rfl rfl (gF _) (fun hp => by exact ps_loads rfl rfl (by exact rds_box 0 rfl) rfl rfl (by decide)) ?_;refine okT_one_g1 (i := 24) rfl rfl (by kernel_rfl) rfl rfl rfl rfl rfl (gF _) (fun hp => by (have hpd := hp;(try simp only [jA,jB,jC,jD,jE,jF,jG,jH,jI,jJ,jK,jL,jM,jN,jO,jP,jQ,jR,jS] at hpd);exact ms_s2 rfl rfl (og rfl (by assumption)) (fun _ _ w hw => tenOk_c (y1 0).c [.string sec,.string mk,.slice kA slots.length kc,.int .i64 wi,.int .i64 ssz,.slice shA shl.length shc,.slice tnA tens.length tnc,.slice rA rows.length rc,.slice hA hist.length hcc,.int .i64 bo] mk kA kc slots wi rA rc rows (nth tens k).id (nth tens k).ep (nth tens k).ba (nth tens k).e.mem.A (nth tens k).e.mem.c (nth tens k).e.mem.l (nth tens k).e.tab.A (nth tens k).e.tab.c (nth tens k).e.tab.l (nth tens k).e.seq (nth tens k).e.snaps.A (nth tens k).e.snaps.c (nth tens k).e.snaps.l w (rds_box 1 rfl _ _ w hw) rfl rfl (rds_rf hk List.mem_cons_self _ _ w hw) (rds_rf hr List.mem_cons_self _ _ w hw) (rds_rf (HRD.out (by omega)).1 List.mem_cons_self _ _ w hw) (RdN.keep hw (HRD.out (by omega)).2.1 List.mem_cons_self) (rds_rf (HRD.out (by omega)).2.2 List.mem_cons_self _ _ w hw) hl0 hl3 HTX.out (HSM.out k (by omega)).1 (HSM.out k (by omega)).2.1 (HSM.out k (by omega)).2.2.1 (HSM.out k (by omega)).2.2.2))) (fun w h => by exact h) ?_;refine okT_take_g1 (i := 25) rfl (by kernel_rfl) rfl rfl rfl rfl rfl (gF _) (fun hp => by (exact ps_not rfl (og rfl (by assumption)))) ?_;refine okT_take (i := 26) rfl (by kernel_rfl) rfl rfl rfl (by exact ps_or rfl rfl rfl) ?_;refine okT_done (by kernel_rfl) ?_;refine ok_ne [(1,_),(54,_),(55,_),(56,_),(87,_)] ⟨rfl,rfl,rfl,rfl,rfl,trivial⟩ ?_)
    | (refine ok_region (i := 9) ?_;refine ok_p rfl rfl rfl (ps_assign rfl rfl) ?_;refine ok_ne [(2,_)] ⟨rfl,trivial⟩ ?_)
    | (refine ok_region (i := 10) ?_;refine ok_p rfl rfl rfl (by exact ps_add rfl rfl rfl (by omega)) ?_;refine ok_p rfl rfl rfl (ps_move rfl rfl) ?_;refine ok_ne [(1,_),(54,_),(55,_),(56,_)] ⟨rfl,rfl,rfl,rfl,trivial⟩ ?_)
    | (refine ok_region (i := 11) ?_;refine ok_p rfl rfl rfl (by exact ps_field rfl rfl (isw_ga _)) ?_;refine ok_p rfl rfl rfl (by exact ps_load rfl rfl (by exact Rds.cell (rds_box 0 rfl) rfl)) ?_;refine ok_p rfl rfl rfl (by exact ps_len rfl rfl) ?_;refine ok_p rfl rfl rfl (ps_move rfl rfl) ?_;refine ok_ne [(1,_),(90,_),(91,_),(92,_)] ⟨rfl,rfl,rfl,rfl,trivial⟩ ?_))
  · have e : fStoreOk D = false := HNO.out k (by omega) (by
      rw [HT.out k (by omega),Bool.eq_false_iff];intro h
      rw [Bool.and_eq_true,Bool.and_eq_true,decide_eq_true_eq,decide_eq_true_eq] at h
      obtain ⟨⟨h1,h2⟩,h3⟩ := h
      rcases hd with (q | q) | q
      · exact q h1
      · exact q h2
      · exact absurd (h3.symm.trans q) (by decide))
    rw [e]
    exact ok_endL (vs := [_]) rfl ⟨rfl,trivial⟩ (fun w' hw => ⟨rfl,hw.below⟩)
  · exact fun a w' he hw => ⟨⟨k + 1,by omega,fun j hj => by
      rcases Nat.lt_succ_iff_lt_or_eq.1 hj with h' | rfl
      · exact HA.out j h'
      · rw [HT.out j (by omega),Bool.and_eq_true,Bool.and_eq_true,decide_eq_true_eq,decide_eq_true_eq]
        obtain ⟨⟨q1,q2⟩,q3⟩ := hd
        exact ⟨⟨q1,q2⟩,q3⟩⟩,by simp only;omega,he.sub ⟨rfl,rfl,rfl,rfl,trivial⟩,hw.sel [1] (by decide) rfl (fun _ h => h)⟩
  · have hkk : k = tens.length := by omega
    subst hkk
    clear hc hd HNO HT HRD
    refine ok_loop (ι := { k : Nat // k ≤ rows.length ∧ ∀ j,j < k → ¬ tensF tens (nth rows j).ten < 0 }) (fun k => rows.length - k.1) (fun k => ([(1,pt (ga (y1 0).c) 0),(90,.slice rA rows.length rc),(91,.int .i64 rows.length),(92,.int .i64 k.1)],_,_)) ⟨0,by omega,fun j h => absurd h (Nat.not_lt_zero j)⟩ (fun a w he hw => ⟨⟨0,by omega,fun j h => absurd h (Nat.not_lt_zero j)⟩,he.sub ⟨rfl,rfl,rfl,rfl,trivial⟩,hw⟩) ?_
    rintro ⟨k,hk2,ha2⟩
    simp only at hk2 ⊢
    have HA2 := Lib.hid ha2;clear ha2
    repeat' (first
      | refine ok_seq ?_
      | refine ok_then ?_
      | refine ok_then_ret ?_
      | refine ok_block ?_
      | refine ok_in_normal ?_
      | refine ok_in_ret ?_
      | (refine ok_cond rfl (fun hc => ?_) (fun hc => ?_) <;> (have hd := hc;(try simp only [jA,jB,jC,jD,jE,jF,jG,jH,jI,jJ,jK,jL,jM,jN,jO,jP,jQ,jR,jS] at hd)))
      | refine ok_ret ?_
      | refine ok_exit ?_
      | refine ok_skip ?_
      | (refine ok_region (i := 12) ?_;refine ok_p rfl rfl rfl (by exact ps_int rfl rfl rfl rfl) ?_;refine ok_ne [(1,_),(90,_),(91,_),(92,_),(93,_)] ⟨rfl,rfl,rfl,rfl,rfl,trivial⟩ ?_)
      | (refine ok_region (i := 13) ?_;refine ok_p rfl rfl rfl (by exact ps_indexN rfl rfl rfl (by omega) (by exact isw_of (isS_fl (by assumption) (by omega)))) ?_;refine ok_p rfl rfl rfl (by exact ps_loadsF rfl rfl (by exact rds_rf (by assumption) List.mem_cons_self) (by rfl) (by rfl) (by omega) rfl) ?_;refine ok_m rfl rfl rfl (by exact ms_alloc rfl) ?_;rintro y6 hy6;refine ok_m_ rfl rfl (by exact ms_store 0 rfl rfl rfl rfl rfl rfl rfl rfl) ?_;rintro y_ hy_;refine ok_ne [(1,_),(6,_),(90,_),(91,_),(92,_)] ⟨rfl,rfl,rfl,rfl,rfl,trivial⟩ ?_)
      | (refine ok_region (i := 14) ?_;refine ok_p rfl rfl rfl (by exact ps_field rfl rfl (isw_ga _)) ?_;refine ok_p rfl rfl rfl (by exact ps_load rfl rfl (by exact Rds.cell (rds_box 0 rfl) rfl)) ?_;refine ok_m rfl rfl rfl (by exact ms_s2 rfl rfl rfl (fun _ _ w hw => at_c (y1 0).c [.string sec,.string mk,.slice kA slots.length kc,.int .i64 wi,.int .i64 ssz,.slice shA shl.length shc,.slice tnA tens.length tnc,.slice rA rows.length rc,.slice hA hist.length hcc,.int .i64 bo] tnA tnc tens _ w (rds_box 1 rfl _ _ w hw) rfl (rds_rf ht List.mem_cons_self _ _ w hw) hl2)) ?_;rintro y98 hy98;refine ok_p rfl rfl rfl (by exact ps_int rfl rfl rfl rfl) ?_;refine ok_ne [(1,_),(90,_),(91,_),(92,_),(99,_)] ⟨rfl,rfl,rfl,rfl,rfl,trivial⟩ ?_)
      | (refine ok_region (i := 15) ?_;refine ok_p rfl rfl rfl (ps_assign rfl rfl) ?_;refine ok_ne [(2,_)] ⟨rfl,trivial⟩ ?_)
      | (refine ok_region (i := 16) ?_;refine ok_p rfl rfl rfl (by exact ps_add rfl rfl rfl (by omega)) ?_;refine ok_p rfl rfl rfl (ps_move rfl rfl) ?_;refine ok_ne [(1,_),(90,_),(91,_),(92,_)] ⟨rfl,rfl,rfl,rfl,trivial⟩ ?_)
      | (refine ok_region (i := 17) ?_;refine ok_p rfl rfl rfl (ps_assign rfl rfl) ?_;refine ok_ne [(2,_)] ⟨rfl,trivial⟩ ?_))
    · rw [HRN.out k (by omega) hd]
      exact ok_endL (vs := [_]) rfl ⟨rfl,trivial⟩ (fun w' hw => ⟨rfl,hw.below⟩)
    · exact fun a w' he hw => ⟨⟨k + 1,by omega,fun j hj => by
        rcases Nat.lt_succ_iff_lt_or_eq.1 hj with h' | rfl
        · exact HA2.out j h'
        · exact hd⟩,by simp only;omega,he.sub ⟨rfl,rfl,rfl,rfl,trivial⟩,hw.sel [1] (by decide) rfl (fun _ h => h)⟩
    · obtain rfl : k = rows.length := by omega
      rw [HYE.out HA.out HA2.out]
      exact ok_endL (vs := [_]) rfl ⟨rfl,trivial⟩ (fun w' hw => ⟨rfl,hw.below⟩)
end Go.Proofs.YtmfojbidojjciaaGreat
/- Traces of a tenant, by both programs. -/
namespace Go.Proofs.YtmfojbidojjciaaGreat
open Go.RowKit
attribute [local irreducible] Calls
def cntT (l : List LTen) (id : Int) : Nat := (l.filter fun t => decide (t.id = id)).length
theorem cntT_step {l : List LTen} {k : Nat} (id : Int) (h : k < l.length) : cntT (l.take (k + 1)) id = cntT (l.take k) id + (if (nth l k).id = id then 1 else 0) := by
  rw [takeG h];unfold cntT
  rw [List.filter_append,List.length_append]
  congr 1
  by_cases hh : (nth l k).id = id
  · rw [if_pos hh,List.filter_cons,if_pos (by simpa using hh)];rfl
  · rw [if_neg hh,List.filter_cons,if_neg (by simpa using hh)];rfl
theorem cntT_le (l : List LTen) (id : Int) : cntT l id ≤ l.length := List.length_filter_le ..
theorem cntT_map (l : List LTen) (id : Int) : ((l.map LTen.d).filter fun t => decide (t.id = id)).length = cntT l id := by
  unfold cntT
  rw [List.filter_map,List.length_map];rfl
theorem traces_eq (sec : ByteArray) (ks : DKeys) (sh : DShares) (tens : List LTen) (rows hist : List LogRow) (bo id : Int) : fTraces ⟨sec,ks,sh,tens.map LTen.d,rows,hist,bo⟩ id = if fStoreOk ⟨sec,ks,sh,tens.map LTen.d,rows,hist,bo⟩ = true then ((rowsF rows id).length : Int) + 3 * (cntT tens id : Int) else 0 := by
  unfold fTraces
  simp only
  rw [cntT_map]
theorem s_Traces0 (sec mk : ByteArray) (kA : Option Addr) (kc : Nat) (slots : List KeySlot) (wi ssz : Int) (shA : Option Addr) (shc : Nat) (shl : List Share) (tnA : Option Addr) (tnc : Nat) (tens : List LTen) (rA : Option Addr) (rc : Nat) (rows : List LogRow) (hA : Option Addr) (hcc : Nat) (hist : List LogRow) (bo id : Int)
    (w : World) (hk : Rd w kA (fl slots)) (hsh : Rd w shA (fl shl)) (ht : Rd w tnA (fl tens)) (htr : tensRd w tens) (hr : Rd w rA (fl rows)) (hl0 : slots.length ≤ 4194304) (hl1 : shl.length ≤ 4194304) (hl2 : tens.length ≤ 4194304) (hl3 : rows.length ≤ 4194304) (hl4 : hist.length ≤ 4194304) (htx : ∀ k,k < rows.length → (nth rows k).txt.size ≤ 4194304) (hsm : ∀ k,k < tens.length → tenSm (nth tens k)) :
    Calls Tryz.prog 9 #[.agg #[.string sec,.string mk,.slice kA slots.length kc,.int .i64 wi,.int .i64 ssz,.slice shA shl.length shc,.slice tnA tens.length tnc,.slice rA rows.length rc,.slice hA hist.length hcc,.int .i64 bo],.int .i64 id] w fun e w' => e = .returned (.int .i64 (fTraces ⟨sec,⟨mk,slots,wi⟩,⟨ssz,shl⟩,tens.map LTen.d,rows,hist,bo⟩ id)) ∧ Below w.heap.size w w' := by
  rw [traces_eq]
  have HTX := Lib.hid htx;clear htx
  have HSM := Lib.hid hsm;clear hsm
  have HTR := Lib.hid htr;clear htr
  refine ok_enter 46 Tryz.func9 rfl rfl rfl ?_
  repeat' (first
    | refine ok_seq ?_
    | refine ok_then ?_
    | refine ok_then_ret ?_
    | refine ok_block ?_
    | (refine ok_cond rfl (fun hc => ?_) (fun hc => ?_) <;> (have hd := hc;(try simp only [jA,jB,jC,jD,jE,jF,jG,jH,jI,jJ,jK,jL,jM,jN,jO,jP,jQ,jR,jS] at hd)))
    | refine ok_ret ?_
    | refine ok_skip ?_
    | (refine ok_region (i := 0) ?_;refine ok_m rfl rfl rfl (by exact ms_box rfl rfl rfl) ?_;rintro y2 hy2;refine ok_p rfl rfl rfl (ps_assign rfl rfl) ?_;refine ok_ne [(1,_),(2,_)] ⟨rfl,rfl,trivial⟩ ?_)
    | (refine ok_region (i := 1) ?_;refine ok_p rfl rfl rfl (by exact ps_loads rfl rfl (by exact rds_box 0 rfl) rfl rfl (by decide)) ?_;refine ok_m rfl rfl rfl (by exact ms_s1 rfl rfl (fun _ _ w hw => s_StoreOk0 sec mk kA kc slots wi ssz shA shc shl tnA tnc tens rA rc rows hA hcc hist bo w (rds_rf hk List.mem_cons_self _ _ w hw) (rds_rf hsh List.mem_cons_self _ _ w hw) (rds_rf ht List.mem_cons_self _ _ w hw) (HTR.out.le (hw.wle List.mem_cons_self)) (rds_rf hr List.mem_cons_self _ _ w hw) hl0 hl1 hl2 hl3 hl4 HTX.out HSM.out)) ?_;rintro y9 hy9;refine ok_p rfl rfl rfl (by exact ps_not rfl rfl) ?_;refine ok_ne [(1,_),(2,_),(10,_)] ⟨rfl,rfl,rfl,trivial⟩ ?_)
    | (refine ok_region (i := 2) ?_;refine ok_p rfl rfl rfl (ps_assign rfl rfl) ?_;refine ok_ne [(4,_)] ⟨rfl,trivial⟩ ?_)
    | (refine ok_region (i := 3) ?_;refine ok_p rfl rfl rfl (ps_assign rfl rfl) ?_;refine ok_ne [(1,_),(2,_),(5,_)] ⟨rfl,rfl,rfl,trivial⟩ ?_)
    | (refine ok_region (i := 4) ?_;refine ok_p rfl rfl rfl (ps_assign rfl rfl) ?_;refine ok_ne [(1,_),(2,_),(5,_),(6,_)] ⟨rfl,rfl,rfl,rfl,trivial⟩ ?_))
  · rw [if_neg (by rw [hd];decide)]
    exact ok_endL (vs := [_]) rfl ⟨rfl,trivial⟩ (fun w' hw => ⟨rfl,hw.below⟩)
  rw [if_pos hd]
  clear hc hd
  have hst := fun k (hk : k < tens.length) => cntT_step (l := tens) (k := k) id hk
  have hle := fun k => Nat.le_trans (cntT_le (tens.take k) id) (by rw [List.length_take];exact Nat.min_le_left _ _ : (tens.take k).length ≤ k)
  have HST := Lib.hid hst;clear hst
  have HLE := Lib.hid hle;clear hle
  refine ok_loop (ι := { k : Nat // k ≤ tens.length }) (fun k => tens.length - k.1) (fun k => ([(1,.int .i64 id),(2,pt (ga (y2 0).c) 0),(5,.int .i64 (3 * (cntT (tens.take k.1) id : Int))),(6,.int .i64 k.1)],_,_)) ⟨0,by omega⟩ (fun a w he hw => ⟨⟨0,by omega⟩,he.sub ⟨rfl,rfl,rfl,rfl,trivial⟩,hw⟩) ?_
  rintro ⟨k,hk2⟩
  simp only at hk2 ⊢
  have hlk := HLE.out k
  repeat' (first
    | refine ok_seq ?_
    | refine ok_then ?_
    | refine ok_block ?_
    | refine ok_in_normal ?_
    | (refine ok_cond rfl (fun hc => ?_) (fun hc => ?_) <;> (have hd := hc;(try simp only [jA,jB,jC,jD,jE,jF,jG,jH,jI,jJ,jK,jL,jM,jN,jO,jP,jQ,jR,jS] at hd)))
    | refine ok_exit ?_
    | refine ok_skip ?_
    | (refine ok_region (i := 5) ?_;refine ok_p rfl rfl rfl (ps_move rfl rfl) ?_;refine ok_p rfl rfl rfl (by exact ps_field rfl rfl (isw_ga _)) ?_;refine ok_p rfl rfl rfl (by exact ps_load rfl rfl (by exact Rds.cell (rds_box 0 rfl) rfl)) ?_;refine ok_p rfl rfl rfl (by exact ps_len rfl rfl) ?_;refine ok_p rfl rfl rfl (by exact ps_int rfl rfl rfl rfl) ?_;refine ok_ne [(1,_),(2,_),(5,_),(6,_),(15,_)] ⟨rfl,rfl,rfl,rfl,rfl,trivial⟩ ?_)
    | (refine ok_region (i := 6) ?_;refine ok_p rfl rfl rfl (ps_move rfl rfl) ?_;refine ok_p rfl rfl rfl (by exact ps_add rfl rfl rfl (by omega)) ?_;refine ok_p rfl rfl rfl (ps_assign rfl rfl) ?_;refine ok_ne [(1,_),(2,_),(5,_),(6,_)] ⟨rfl,rfl,rfl,rfl,trivial⟩ ?_)
    | (refine ok_region (i := 7) ?_;refine ok_p rfl rfl rfl (by exact ps_field rfl rfl (isw_ga _)) ?_;refine ok_p rfl rfl rfl (by exact ps_load rfl rfl (by exact Rds.cell (rds_box 0 rfl) rfl)) ?_;refine ok_p rfl rfl rfl (ps_move rfl rfl) ?_;refine ok_p rfl rfl rfl (by exact ps_indexN rfl rfl rfl (by omega) (by exact isw_of (isS_fl (by assumption) (by omega)))) ?_;refine ok_p rfl rfl rfl (by exact ps_field rfl rfl (by exact isw_of (isS_fl (by assumption) (by omega)))) ?_;refine ok_p rfl rfl rfl (by exact ps_load rfl rfl (by exact Rds.cell (rds_rf (by assumption) List.mem_cons_self) (by exact fl_at0 _ _ (by omega) (by decide)))) ?_;refine ok_p rfl rfl rfl (ps_move rfl rfl) ?_;refine ok_p rfl rfl rfl (by exact ps_int rfl rfl rfl rfl) ?_;refine ok_ne [(1,_),(2,_),(5,_),(6,_),(25,_)] ⟨rfl,rfl,rfl,rfl,rfl,trivial⟩ ?_)
    | (refine ok_region (i := 8) ?_;refine ok_p rfl rfl rfl (ps_move rfl rfl) ?_;refine ok_p rfl rfl rfl (by exact ps_add rfl rfl rfl (by omega)) ?_;refine ok_p rfl rfl rfl (ps_assign rfl rfl) ?_;refine ok_ne [(1,_),(2,_),(5,_),(6,_)] ⟨rfl,rfl,rfl,rfl,trivial⟩ ?_)
    | (refine ok_region (i := 9) ?_;refine ok_p rfl rfl rfl (ps_assign rfl rfl) ?_;refine ok_ne [(1,_),(2,_),(5,_),(7,_)] ⟨rfl,rfl,rfl,rfl,trivial⟩ ?_))
  · have e := HST.out k (by omega)
    rw [if_pos hd] at e
    exact fun a w' he hw => ⟨⟨k + 1,by omega⟩,by simp only;omega,he.sub ⟨rfl,rfl,by show some (Value.int .i64 _) = some (.int .i64 _);rw [e];congr 2 <;> omega,rfl,trivial⟩,hw⟩
  · have e := HST.out k (by omega)
    rw [if_neg hd] at e
    exact fun a w' he hw => ⟨⟨k + 1,by omega⟩,by simp only;omega,he.sub ⟨rfl,rfl,by show some (Value.int .i64 _) = some (.int .i64 _);rw [e];rfl,rfl,trivial⟩,hw⟩
  have hkk : k = tens.length := by omega
  subst hkk
  rw [List.take_length] at hlk ⊢
  clear hc hd HST HLE
  generalize cntT tens id = C at hlk ⊢
  have hst := fun k (hk : k < rows.length) => rowsF_step (l := rows) (k := k) id hk
  have hle := fun k => Nat.le_trans (rowsF_le (rows.take k) id) (by rw [List.length_take];exact Nat.min_le_left _ _ : (rows.take k).length ≤ k)
  have HST := Lib.hid hst;clear hst
  have HLE := Lib.hid hle;clear hle
  refine ok_loop (ι := { k : Nat // k ≤ rows.length }) (fun k => rows.length - k.1) (fun k => ([(1,.int .i64 id),(2,pt (ga (y2 0).c) 0),(5,.int .i64 (((rowsF (rows.take k.1) id).length : Int) + 3 * (C : Int))),(7,.int .i64 k.1)],_,_)) ⟨0,by omega⟩ (fun a w he hw => ⟨⟨0,by omega⟩,he.sub ⟨rfl,rfl,by show some (Value.int .i64 _) = some (.int .i64 _);congr 2 <;> simp [rowsF],rfl,trivial⟩,hw⟩) ?_
  rintro ⟨k,hk3⟩
  simp only at hk3 ⊢
  have hlk2 := HLE.out k
  repeat' (first
    | refine ok_seq ?_
    | refine ok_then ?_
    | refine ok_block ?_
    | refine ok_in_normal ?_
    | (refine ok_cond rfl (fun hc => ?_) (fun hc => ?_) <;> (have hd := hc;(try simp only [jA,jB,jC,jD,jE,jF,jG,jH,jI,jJ,jK,jL,jM,jN,jO,jP,jQ,jR,jS] at hd)))
    | refine ok_ret ?_
    | refine ok_exit ?_
    | refine ok_skip ?_
    | (refine ok_region (i := 10) ?_;refine ok_p rfl rfl rfl (ps_move rfl rfl) ?_;refine ok_p rfl rfl rfl (by exact ps_field rfl rfl (isw_ga _)) ?_;refine ok_p rfl rfl rfl (by exact ps_load rfl rfl (by exact Rds.cell (rds_box 0 rfl) rfl)) ?_;refine ok_p rfl rfl rfl (by exact ps_len rfl rfl) ?_;refine ok_p rfl rfl rfl (by exact ps_int rfl rfl rfl rfl) ?_;refine ok_ne [(1,_),(2,_),(5,_),(7,_),(32,_)] ⟨rfl,rfl,rfl,rfl,rfl,trivial⟩ ?_)
    | (refine ok_region (i := 11) ?_;refine ok_p rfl rfl rfl (ps_move rfl rfl) ?_;refine ok_p rfl rfl rfl (by exact ps_add rfl rfl rfl (by omega)) ?_;refine ok_p rfl rfl rfl (ps_assign rfl rfl) ?_;refine ok_ne [(1,_),(2,_),(5,_),(7,_)] ⟨rfl,rfl,rfl,rfl,trivial⟩ ?_)
    | (refine ok_region (i := 12) ?_;refine ok_p rfl rfl rfl (by exact ps_field rfl rfl (isw_ga _)) ?_;refine ok_p rfl rfl rfl (by exact ps_load rfl rfl (by exact Rds.cell (rds_box 0 rfl) rfl)) ?_;refine ok_p rfl rfl rfl (ps_move rfl rfl) ?_;refine ok_p rfl rfl rfl (by exact ps_indexN rfl rfl rfl (by omega) (by exact isw_of (isS_fl (by assumption) (by omega)))) ?_;refine ok_p rfl rfl rfl (by exact ps_field rfl rfl (by exact isw_of (isS_fl (by assumption) (by omega)))) ?_;refine ok_p rfl rfl rfl (by exact ps_load rfl rfl (by exact Rds.cell (rds_rf (by assumption) List.mem_cons_self) (by exact fl_at0 _ _ (by omega) (by decide)))) ?_;refine ok_p rfl rfl rfl (ps_move rfl rfl) ?_;refine ok_p rfl rfl rfl (by exact ps_int rfl rfl rfl rfl) ?_;refine ok_ne [(1,_),(2,_),(5,_),(7,_),(42,_)] ⟨rfl,rfl,rfl,rfl,rfl,trivial⟩ ?_)
    | (refine ok_region (i := 13) ?_;refine ok_p rfl rfl rfl (ps_move rfl rfl) ?_;refine ok_p rfl rfl rfl (by exact ps_add rfl rfl rfl (by omega)) ?_;refine ok_p rfl rfl rfl (ps_assign rfl rfl) ?_;refine ok_ne [(1,_),(2,_),(5,_),(7,_)] ⟨rfl,rfl,rfl,rfl,trivial⟩ ?_)
    | (refine ok_region (i := 14) ?_;refine ok_p rfl rfl rfl (ps_move rfl rfl) ?_;refine ok_p rfl rfl rfl (ps_assign rfl rfl) ?_;refine ok_ne [(4,_)] ⟨rfl,trivial⟩ ?_))
  · have e := HST.out k (by omega)
    rw [if_pos hd] at e
    exact fun a w' he hw => ⟨⟨k + 1,by omega⟩,by simp only;omega,he.sub ⟨rfl,rfl,by show some (Value.int .i64 _) = some (.int .i64 _);rw [e,List.length_append,List.length_singleton];congr 2 <;> omega,rfl,trivial⟩,hw⟩
  · have e := HST.out k (by omega)
    rw [if_neg hd,List.append_nil] at e
    exact fun a w' he hw => ⟨⟨k + 1,by omega⟩,by simp only;omega,he.sub ⟨rfl,rfl,by show some (Value.int .i64 _) = some (.int .i64 _);rw [e],rfl,trivial⟩,hw⟩
  · have hkk : k = rows.length := by omega
    subst hkk
    rw [List.take_length]
    exact ok_endL (vs := [_]) rfl ⟨rfl,trivial⟩ (fun w' hw => ⟨rfl,hw.below⟩)
theorem tri_at {T : Value} {j : Nat} (h : j < 3) : ([T,T,T] : List Value)[j * 1]? = some T := by
  rcases j with _ | _ | _ | j
  · rfl
  · rfl
  · rfl
  · omega
theorem i_Traces0 (sec mk : ByteArray) (kA : Option Addr) (kc : Nat) (slots : List KeySlot) (wi ssz : Int) (shA : Option Addr) (shc : Nat) (shl : List Share) (tnA : Option Addr) (tnc : Nat) (tens : List LTen) (rA : Option Addr) (rc : Nat) (rows : List LogRow) (hA : Option Addr) (hcc : Nat) (hist : List LogRow) (bo id : Int)
    (w : World) (hk : Rd w kA (fl slots)) (hsh : Rd w shA (fl shl)) (ht : Rd w tnA (fl tens)) (htr : tensRd w tens) (hr : Rd w rA (fl rows)) (hl0 : slots.length ≤ 4194304) (hl1 : shl.length ≤ 4194304) (hl2 : tens.length ≤ 4194304) (hl3 : rows.length ≤ 4194304) (hl4 : hist.length ≤ 4194304) (htx : ∀ k,k < rows.length → (nth rows k).txt.size ≤ 4194304) (hsm : ∀ k,k < tens.length → tenSm (nth tens k)) :
    Calls Tryz.prog 11 #[.agg #[.string sec,.string mk,.slice kA slots.length kc,.int .i64 wi,.int .i64 ssz,.slice shA shl.length shc,.slice tnA tens.length tnc,.slice rA rows.length rc,.slice hA hist.length hcc,.int .i64 bo],.int .i64 id] w fun e w' => e = .returned (.int .i64 (fTraces ⟨sec,⟨mk,slots,wi⟩,⟨ssz,shl⟩,tens.map LTen.d,rows,hist,bo⟩ id)) ∧ Below w.heap.size w w' := by
  rw [traces_eq]
  have HTX := Lib.hid htx;clear htx
  have HSM := Lib.hid hsm;clear hsm
  have HTR := Lib.hid htr;clear htr
  refine ok_enter 54 Tryz.func11 rfl rfl rfl ?_
  repeat' ((fail_if_success (refine at_reg 3 ?_));first
    | refine ok_seq ?_
    | refine ok_then ?_
    | refine ok_then_ret ?_
    | (refine ok_cond rfl (fun hc => ?_) (fun hc => ?_) <;> (have hd := hc;(try simp only [jA,jB,jC,jD,jE,jF,jG,jH,jI,jJ,jK,jL,jM,jN,jO,jP,jQ,jR,jS] at hd)))
    | refine ok_ret ?_
    | refine ok_skip ?_
    | (refine ok_region (i := 0) ?_;refine ok_m rfl rfl rfl (by exact ms_box rfl rfl rfl) ?_;rintro y2 hy2;refine ok_p rfl rfl rfl (ps_assign rfl rfl) ?_;refine ok_ne [(1,_),(2,_)] ⟨rfl,rfl,trivial⟩ ?_)
    | (refine ok_region (i := 1) ?_;refine ok_p rfl rfl rfl (by exact ps_loads rfl rfl (by exact rds_box 0 rfl) rfl rfl (by decide)) ?_;refine ok_m rfl rfl rfl (by exact ms_s1 rfl rfl (fun _ _ w hw => i_StoreOk0 sec mk kA kc slots wi ssz shA shc shl tnA tnc tens rA rc rows hA hcc hist bo w (rds_rf hk List.mem_cons_self _ _ w hw) (rds_rf hsh List.mem_cons_self _ _ w hw) (rds_rf ht List.mem_cons_self _ _ w hw) (HTR.out.le (hw.wle List.mem_cons_self)) (rds_rf hr List.mem_cons_self _ _ w hw) hl0 hl1 hl2 hl3 hl4 HTX.out HSM.out)) ?_;rintro y11 hy11;refine ok_p rfl rfl rfl (by exact ps_not rfl rfl) ?_;refine ok_ne [(1,_),(2,_),(12,_)] ⟨rfl,rfl,rfl,trivial⟩ ?_)
    | (refine ok_region (i := 2) ?_;refine ok_p rfl rfl rfl (ps_assign rfl rfl) ?_;refine ok_ne [(4,_)] ⟨rfl,trivial⟩ ?_))
  · rw [if_neg (by rw [hd];decide)]
    exact ok_endL (vs := [_]) rfl ⟨rfl,trivial⟩ (fun w' hw => ⟨rfl,hw.below⟩)
  rw [if_pos hd]
  have htn : ∀ k,k < tens.length → (nth slots k).ten = (nth tens k).id ∧ (nth shl k).ten = (nth tens k).id := fun k hk => by
    have := store_ten hd (i := k) (by simpa using hk)
    simp only at this
    rw [tenD_map tens k hk] at this
    exact ⟨this.1,this.2.1⟩
  have hlen := store_len hd
  simp only [List.length_map] at hlen
  clear hc hd
  have HTN := Lib.hid htn;clear htn
  have hst := fun k (hk : k < tens.length) => cntT_step (l := tens) (k := k) id hk
  have hle := fun k => Nat.le_trans (cntT_le (tens.take k) id) (by rw [List.length_take];exact Nat.min_le_left _ _ : (tens.take k).length ≤ k)
  have HST := Lib.hid hst;clear hst
  have HLE := Lib.hid hle;clear hle
  have hrf := rowsF_le rows id
  repeat' (first
    | refine ok_seq ?_
    | refine ok_then ?_
    | refine ok_block ?_
    | (refine ok_region (i := 3) ?_;refine ok_p rfl rfl rfl (ps_move rfl rfl) ?_;refine ok_m rfl rfl rfl (by exact ms_c2 rfl rfl rfl (fun _ _ w hw => rowsOf_c (y2 0).c [.string sec,.string mk,.slice kA slots.length kc,.int .i64 wi,.int .i64 ssz,.slice shA shl.length shc,.slice tnA tens.length tnc,.slice rA rows.length rc,.slice hA hist.length hcc,.int .i64 bo] rA rc rows id w (rds_box 0 rfl _ _ w hw) rfl (rds_rf hr List.mem_cons_self _ _ w hw) hl3)) ?_;rintro y14 hy14;refine ok_p rfl rfl rfl (by exact ps_len rfl rfl) ?_;refine ok_p rfl rfl rfl (ps_assign rfl rfl) ?_;refine ok_ne [(1,_),(2,_),(5,_)] ⟨rfl,rfl,rfl,trivial⟩ ?_)
    | (refine ok_region (i := 4) ?_;refine ok_p rfl rfl rfl (by exact ps_field rfl rfl (isw_ga _)) ?_;refine ok_p rfl rfl rfl (by exact ps_load rfl rfl (by exact Rds.cell (rds_box 1 rfl) rfl)) ?_;refine ok_p rfl rfl rfl (by exact ps_len rfl rfl) ?_;refine ok_p rfl rfl rfl (ps_move rfl rfl) ?_;refine ok_ne [(1,_),(2,_),(5,_),(17,_),(18,_),(19,_)] ⟨rfl,rfl,rfl,rfl,rfl,rfl,trivial⟩ ?_))
  generalize (rowsF rows id).length = n0 at hrf ⊢
  refine ok_loop (ι := { k : Nat // k ≤ tens.length }) (fun k => tens.length - k.1) (fun k => ([(1,.int .i64 id),(2,pt (ga (y2 0).c) 0),(5,.int .i64 ((n0 : Int) + 3 * (cntT (tens.take k.1) id : Int))),(17,.slice tnA tens.length tnc),(18,.int .i64 tens.length),(19,.int .i64 k.1)],[.box (y2 0).c 43 [.string sec,.string mk,.slice kA slots.length kc,.int .i64 wi,.int .i64 ssz,.slice shA shl.length shc,.slice tnA tens.length tnc,.slice rA rows.length rc,.slice hA hist.length hcc,.int .i64 bo]],_)) ⟨0,by omega⟩ (fun a w he hw => ⟨⟨0,by omega⟩,he.sub ⟨rfl,rfl,by show some (Value.int .i64 _) = some (.int .i64 _);congr 2 <;> simp [cntT],rfl,rfl,rfl,trivial⟩,hw.tl⟩) ?_
  rintro ⟨k,hk2⟩
  simp only at hk2 ⊢
  have hlk := HLE.out k
  repeat' (first
    | refine ok_seq ?_
    | refine ok_then ?_
    | refine ok_block ?_
    | (refine ok_cond rfl (fun hc => ?_) (fun hc => ?_) <;> (have hd := hc;(try simp only [jA,jB,jC,jD,jE,jF,jG,jH,jI,jJ,jK,jL,jM,jN,jO,jP,jQ,jR,jS] at hd)))
    | refine ok_ret ?_
    | refine ok_exit ?_
    | refine ok_skip ?_
    | (refine ok_region (i := 5) ?_;refine ok_p rfl rfl rfl (by exact ps_int rfl rfl rfl rfl) ?_;refine ok_ne [(1,_),(2,_),(5,_),(17,_),(18,_),(19,_),(20,_)] ⟨rfl,rfl,rfl,rfl,rfl,rfl,rfl,trivial⟩ ?_)
    | (refine ok_region (i := 6) ?_;refine ok_p rfl rfl rfl (ps_move rfl rfl) ?_;refine ok_p rfl rfl rfl (by exact ps_indexN rfl rfl rfl (by omega) (by exact isw_of (isS_fl (by assumption) (by omega)))) ?_;refine ok_p rfl rfl rfl (by exact ps_loadsF rfl rfl (by exact rds_rf (by assumption) List.mem_cons_self) (by rfl) (by rfl) (by omega) rfl) ?_;refine ok_m rfl rfl rfl (by exact ms_alloc rfl) ?_;rintro y7 hy7;refine ok_p rfl rfl rfl (ps_assign rfl rfl) ?_;refine ok_m_ rfl rfl (by exact ms_store 0 rfl rfl rfl rfl rfl rfl rfl rfl) ?_;rintro y_ hy_;refine ok_ne [(1,_),(2,_),(5,_),(6,_),(7,_),(17,_),(18,_),(19,_)] ⟨rfl,rfl,rfl,rfl,rfl,rfl,rfl,rfl,trivial⟩ ?_)
    | (refine ok_draw (id := 7) 19 rfl (by kernel_rfl) (by kernel_rfl) rfl (by repeat (first | exact pq_body | refine pq_then ?_ | refine pq_in ?_)) [0,1,2,3,4,5,6,7,8,9,10,11,12,13,14,15,16,17,18,19,20,21,22,23] (by decide) rfl ?_;refine okT_take (i := 0) rfl (by kernel_rfl) rfl rfl rfl (by exact ps_field rfl rfl (isw_ga _)) ?_;refine okT_take (i := 1) rfl (by kernel_rfl) rfl rfl rfl (by exact ps_load rfl rfl (by exact Rds.cell (rds_box 0 rfl) rfl)) ?_;refine okT_take (i := 2) rfl (by kernel_rfl) rfl rfl rfl (by exact ps_field rfl rfl (isw_ga _)) ?_;refine okT_take (i := 3) rfl (by kernel_rfl) rfl rfl rfl (by exact ps_field rfl rfl (isw_ga _)) ?_;refine okT_take (i := 4) rfl (by kernel_rfl) rfl rfl rfl (by exact ps_load rfl rfl (by exact Rds.cell (rds_box 1 rfl) rfl)) ?_;refine okT_take (i := 5) rfl (by kernel_rfl) rfl rfl rfl (ps_move rfl rfl) ?_;refine okT_take (i := 6) rfl (by kernel_rfl) rfl rfl rfl (by exact ps_indexN rfl rfl rfl (by omega) (by exact isw_of (isS_fl (by assumption) (by omega)))) ?_;refine okT_take (i := 7) rfl (by kernel_rfl) rfl rfl rfl (by exact ps_field rfl rfl (by exact isw_of (isS_fl (by assumption) (by omega)))) ?_;refine okT_take (i := 8) rfl (by kernel_rfl) rfl rfl rfl (by exact ps_load rfl rfl (by exact Rds.cell (rds_rf (by assumption) List.mem_cons_self) (by exact fl_at0 _ _ (by omega) (by decide)))) ?_;refine okT_take (i := 9) rfl (by kernel_rfl) rfl rfl rfl (by exact ps_field rfl rfl (isw_ga _)) ?_;refine okT_take (i := 10) rfl (by kernel_rfl) rfl rfl rfl (by exact ps_field rfl rfl (isw_ga _)) ?_;refine okT_take (i := 11) rfl (by kernel_rfl) rfl rfl rfl (by exact ps_load rfl rfl (by exact Rds.cell (rds_box 1 rfl) rfl)) ?_;refine okT_take (i := 12) rfl (by kernel_rfl) rfl rfl rfl (ps_move rfl rfl) ?_;refine okT_take (i := 13) rfl (by kernel_rfl) rfl rfl rfl (by exact ps_indexN rfl rfl rfl (by omega) (by exact isw_of (isS_fl (by assumption) (by omega)))) ?_;refine okT_take (i := 14) rfl (by kernel_rfl) rfl rfl rfl (by exact ps_field rfl rfl (by exact isw_of (isS_fl (by assumption) (by omega)))) ?_;refine okT_take (i := 15) rfl (by kernel_rfl) rfl rfl rfl (by exact ps_load rfl rfl (by exact Rds.cell (rds_rf (by assumption) List.mem_cons_self) (by exact fl_at0 _ _ (by omega) (by decide)))) ?_;refine okT_take (i := 18) rfl (by kernel_rfl) rfl rfl rfl (ps_move rfl rfl) ?_;refine okT_one (i := 16) rfl rfl (by kernel_rfl) rfl rfl rfl (by exact ms_lit rfl (parts_cons rfl (parts_cons rfl (parts_cons rfl parts_nil))) rfl rfl rfl) (fun y w _ h => by exact h.tl) ?_;rintro y40 hy40;refine okT_take (i := 17) rfl (by kernel_rfl) rfl rfl rfl (by exact ps_len rfl rfl) ?_;refine okT_done (by kernel_rfl) ?_;refine ok_ne [(1,_),(2,_),(5,_),(17,_),(18,_),(19,_),(40,_),(41,_),(42,_)] ⟨rfl,rfl,rfl,rfl,rfl,rfl,rfl,rfl,rfl,trivial⟩ ?_)
    | (refine ok_region (i := 14) ?_;refine ok_p rfl rfl rfl (ps_move rfl rfl) ?_;refine ok_p rfl rfl rfl (ps_assign rfl rfl) ?_;refine ok_ne [(4,_)] ⟨rfl,trivial⟩ ?_))
  · obtain ⟨e1,e2⟩ := HTN.out k (by omega)
    rw [e1,e2]
    generalize hT : (nth tens k).id = T
    have e := HST.out k (by omega)
    rw [hT] at e
    refine ok_loop (ι := { j : Nat // j ≤ 3 }) (fun j => 3 - j.1) (fun j => ([(1,.int .i64 id),(2,pt (ga (y2 0).c) 0),(5,.int .i64 ((n0 : Int) + 3 * (cntT (tens.take k) id : Int) + (if T = id then (j.1 : Int) else 0))),(17,.slice tnA tens.length tnc),(18,.int .i64 tens.length),(19,.int .i64 k),(40,.slice (ga (y40 0).c) 3 3),(41,.int .i64 3),(42,.int .i64 j.1)],[.row 3 1 (ga (y40 0).c) 3 3 [.int .i64 T,.int .i64 T,.int .i64 T],_,_],_)) ⟨0,by omega⟩ (fun a w he hw => ⟨⟨0,by omega⟩,he.sub ⟨rfl,rfl,by show some (Value.int .i64 _) = some (.int .i64 _);congr 2;split <;> simp,rfl,rfl,rfl,rfl,rfl,rfl,trivial⟩,hw⟩) ?_
    rintro ⟨j,hj⟩
    simp only at hj ⊢
    have hsp : (if T = id then (j : Int) else 0) ≤ j ∧ 0 ≤ (if T = id then (j : Int) else 0) := by split <;> omega
    repeat' (first
      | refine ok_seq ?_
      | refine ok_then ?_
      | refine ok_then_exit ?_
      | refine ok_block ?_
      | refine ok_in_normal ?_
      | refine ok_in_exit ?_
      | (refine ok_cond rfl (fun hc => ?_) (fun hc => ?_) <;> (have hd := hc;(try simp only [jA,jB,jC,jD,jE,jF,jG,jH,jI,jJ,jK,jL,jM,jN,jO,jP,jQ,jR,jS] at hd)))
      | refine ok_exit ?_
      | refine ok_skip ?_
      | (refine ok_region (i := 8) ?_;refine ok_p rfl rfl rfl (by exact ps_int rfl rfl rfl rfl) ?_;refine ok_ne [(1,_),(2,_),(5,_),(17,_),(18,_),(19,_),(40,_),(41,_),(42,_),(43,_)] ⟨rfl,rfl,rfl,rfl,rfl,rfl,rfl,rfl,rfl,rfl,trivial⟩ ?_)
      | (refine ok_region (i := 9) ?_;refine ok_p rfl rfl rfl (by exact ps_indexN rfl rfl rfl (by omega) (isw_ga _)) ?_;refine ok_p rfl rfl rfl (by exact ps_load rfl rfl (Rds.cell (rds_row 0 rfl) (tri_at (by omega)))) ?_;refine ok_p rfl rfl rfl (ps_assign rfl rfl) ?_;refine ok_ne [(1,_),(2,_),(5,_),(9,_),(17,_),(18,_),(19,_),(40,_),(41,_),(42,_)] ⟨rfl,rfl,rfl,rfl,rfl,rfl,rfl,rfl,rfl,rfl,trivial⟩ ?_)
      | (refine ok_region (i := 10) ?_;refine ok_p rfl rfl rfl (ps_move rfl rfl) ?_;refine ok_p rfl rfl rfl (ps_move rfl rfl) ?_;refine ok_p rfl rfl rfl (by exact ps_int rfl rfl rfl rfl) ?_;refine ok_ne [(1,_),(2,_),(5,_),(17,_),(18,_),(19,_),(40,_),(41,_),(42,_),(48,_)] ⟨rfl,rfl,rfl,rfl,rfl,rfl,rfl,rfl,rfl,rfl,trivial⟩ ?_)
      | (refine ok_region (i := 11) ?_;refine ok_p rfl rfl rfl (ps_move rfl rfl) ?_;refine ok_p rfl rfl rfl (by exact ps_add rfl rfl rfl (by omega)) ?_;refine ok_p rfl rfl rfl (ps_assign rfl rfl) ?_;refine ok_ne [(1,_),(2,_),(5,_),(17,_),(18,_),(19,_),(40,_),(41,_),(42,_)] ⟨rfl,rfl,rfl,rfl,rfl,rfl,rfl,rfl,rfl,trivial⟩ ?_)
      | (refine ok_region (i := 12) ?_;refine ok_p rfl rfl rfl (by exact ps_add rfl rfl rfl (by omega)) ?_;refine ok_p rfl rfl rfl (ps_move rfl rfl) ?_;refine ok_ne [(1,_),(2,_),(5,_),(17,_),(18,_),(19,_),(40,_),(41,_),(42,_)] ⟨rfl,rfl,rfl,rfl,rfl,rfl,rfl,rfl,rfl,trivial⟩ ?_)
      | (refine ok_region (i := 13) ?_;refine ok_p rfl rfl rfl (by exact ps_add rfl rfl rfl (by omega)) ?_;refine ok_p rfl rfl rfl (ps_move rfl rfl) ?_;refine ok_ne [(1,_),(2,_),(5,_),(17,_),(18,_),(19,_)] ⟨rfl,rfl,rfl,rfl,rfl,rfl,trivial⟩ ?_))
    · exact fun a w' he hw => ⟨⟨j + 1,by omega⟩,by simp only;omega,he.sub ⟨rfl,rfl,by show some (Value.int .i64 _) = some (.int .i64 _);rw [if_pos hd,if_pos hd];congr 2 <;> omega,rfl,rfl,rfl,rfl,rfl,rfl,trivial⟩,hw⟩
    · exact fun a w' he hw => ⟨⟨j + 1,by omega⟩,by simp only;omega,he.sub ⟨rfl,rfl,by show some (Value.int .i64 _) = some (.int .i64 _);rw [if_neg hd,if_neg hd],rfl,rfl,rfl,rfl,rfl,rfl,trivial⟩,hw⟩
    · obtain rfl : j = 3 := by omega
      refine fun a w' he hw => ⟨⟨k + 1,by omega⟩,by simp only;omega,he.sub ⟨rfl,rfl,?_,rfl,rfl,rfl,trivial⟩,hw.sel [2] (by decide) rfl (fun _ h => h)⟩
      show some (Value.int .i64 _) = some (.int .i64 _)
      rw [e]
      congr 2
      split <;> omega
  · have hkk : k = tens.length := by omega
    subst hkk
    rw [List.take_length]
    exact ok_endL (vs := [_]) rfl ⟨rfl,trivial⟩ (fun w' hw => ⟨rfl,hw.below⟩)
end Go.Proofs.YtmfojbidojjciaaGreat
