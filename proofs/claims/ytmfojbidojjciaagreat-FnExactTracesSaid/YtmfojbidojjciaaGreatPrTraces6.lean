/- Texts of this claim, one behind the other: StTy, EncE, StTz, StO, WFnExactTraces, Jn. -/
import Derived.Test.YtmfojbidojjciaaGreatPrTraces1
import Derived.Test.YtmfojbidojjciaaGreatPrTraces5
import Derived.Test.YtmfojbidojjciaaGreatRows
import Derived.ProofKit
import Derived.JoinedOf
set_option linter.unusedVariables false
set_option linter.unusedSimpArgs false
set_option maxRecDepth 20000
set_option maxHeartbeats 4000000
/- Stores: size, copy, comparison. -/
namespace Go.Proofs.YtmfojbidojjciaaGreat
open Go.RowKit
attribute [local irreducible] Calls
structure engBig (e : LEng) : Prop where
  m : e.mem.l.length ≤ maxLen
  me : ∀ u ∈ e.mem.l,bigEnt u
  t : e.tab.l.length ≤ maxLen
  te : ∀ x ∈ dats e.tab.l,x.length ≤ maxLen ∧ ∀ u ∈ x,bigEnt u
  s : e.snaps.l.length ≤ maxLen
structure engWt (e : LEng) : Prop where
  m : e.mem.l.length ≤ 1048576
  t : e.tab.l.length ≤ 1048576
  te : ∀ x ∈ dats e.tab.l,x.length ≤ 1048576
  s : e.snaps.l.length ≤ 1048576
theorem engWt.sm {t : LTen} (h : engWt t.e) : tenSm t := ⟨by have := h.m;omega,by have := h.t;omega,fun x hx => by have := h.te x hx;omega,by have := h.s;omega⟩
theorem szEng_c (e : LEng) (left : Int) (hl : 0 ≤ left ∧ left ≤ 1048576) (w : World) (h : e.rd w) (hb : engBig e) :
    Calls Tryz.prog 133 #[e.val,.int .i64 left] w fun e' w' => ∃ y : Ys,e' = .returned (.int .i64 (y 0).n) ∧ (-1 ≤ (y 0).n ∧ (y 0).n ≤ left ∧ (0 ≤ (y 0).n → engWt e)) ∧ Below w.heap.size w w' ∧ NewOk w.heap.size [] [] w' := by
  obtain ⟨⟨mA,mc,mem⟩,⟨tA,tc,R⟩,seq,⟨sA,sc,sn⟩⟩ := e
  obtain ⟨h1,h2,h3⟩ := h
  obtain ⟨b1,b2,b3,b4,b5⟩ := hb
  simp only at h1 h2 h3 b1 b2 b3 b4 b5
  have H2 := Lib.hid h2;clear h2
  have B2 := Lib.hid b2;clear b2
  have B4 := Lib.hid b4;clear b4
  refine ok_enter 24 Tryz.func133 rfl rfl rfl ?_
  repeat' (first
    | refine ok_seq ?_
    | refine ok_then ?_
    | refine ok_then_ret ?_
    | (refine ok_cond rfl (fun hc => ?_) (fun hc => ?_) <;> (have hd := hc;(try simp only [jA,jB,jC,jD,jE,jF,jG,jH,jI,jJ,jK,jL,jM,jN,jO,jP,jQ,jR,jS] at hd)))
    | refine ok_ret ?_
    | refine ok_skip ?_
    | (refine ok_region (i := 0) ?_;refine ok_m rfl rfl rfl (by exact ms_box rfl rfl rfl) ?_;rintro y2 hy2;refine ok_p rfl rfl rfl (ps_assign rfl rfl) ?_;refine ok_ne [(1,_),(2,_)] ⟨rfl,rfl,trivial⟩ ?_)
    | (refine ok_region (i := 1) ?_;refine ok_p rfl rfl rfl (by exact ps_field rfl rfl (isw_ga _)) ?_;refine ok_p rfl rfl rfl (by exact ps_load rfl rfl (by exact Rds.cell (rds_box 0 rfl) rfl)) ?_;refine ok_p rfl rfl rfl (ps_move rfl rfl) ?_;refine ok_m rfl rfl rfl (by exact ms_c2 rfl rfl rfl (fun _ _ w hw => szEntS_c mA mc mem left hl b1 B2.out w (rds_rf h1 List.mem_cons_self _ _ w hw))) ?_;rintro y8 hy8;refine ok_p rfl rfl rfl (ps_assign rfl rfl) ?_;refine ok_ne [(1,_),(2,_)] ⟨rfl,rfl,trivial⟩ ?_)
    | (refine ok_region (i := 2) ?_;refine ok_p rfl rfl rfl (ps_move rfl rfl) ?_;refine ok_p rfl rfl rfl (by exact ps_int rfl rfl rfl rfl) ?_;refine ok_ne [(1,_),(2,_),(10,_)] ⟨rfl,rfl,rfl,trivial⟩ ?_)
    | (refine ok_region (i := 3) ?_;refine ok_p rfl rfl rfl (ps_assign rfl rfl) ?_;refine ok_ne [(4,_)] ⟨rfl,trivial⟩ ?_)
    | (refine ok_region (i := 4) ?_;refine ok_p rfl rfl rfl (by exact ps_field rfl rfl (isw_ga _)) ?_;refine ok_p rfl rfl rfl (by exact ps_load rfl rfl (by exact Rds.cell (rds_box 0 rfl) rfl)) ?_;refine ok_p rfl rfl rfl (ps_move rfl rfl) ?_;refine ok_m rfl rfl rfl (by exact ms_c2 rfl rfl rfl (fun _ _ w hw => szEntSS_c tA tc R _ ⟨by omega,by omega⟩ b3 B4.out w (RdN.keep hw H2.out List.mem_cons_self))) ?_;rintro y14 hy14;refine ok_p rfl rfl rfl (ps_assign rfl rfl) ?_;refine ok_ne [(1,_),(2,_)] ⟨rfl,rfl,trivial⟩ ?_)
    | (refine ok_region (i := 5) ?_;refine ok_p rfl rfl rfl (ps_move rfl rfl) ?_;refine ok_p rfl rfl rfl (by exact ps_int rfl rfl rfl rfl) ?_;refine ok_ne [(1,_),(2,_),(16,_)] ⟨rfl,rfl,rfl,trivial⟩ ?_)
    | (refine ok_region (i := 6) ?_;refine ok_p rfl rfl rfl (ps_assign rfl rfl) ?_;refine ok_ne [(4,_)] ⟨rfl,trivial⟩ ?_)
    | (refine ok_region (i := 7) ?_;refine ok_p rfl rfl rfl (by exact ps_field rfl rfl (isw_ga _)) ?_;refine ok_p rfl rfl rfl (by exact ps_load rfl rfl (by exact Rds.cell (rds_box 0 rfl) rfl)) ?_;refine ok_p rfl rfl rfl (ps_move rfl rfl) ?_;refine ok_m rfl rfl rfl (by exact ms_c2 rfl rfl rfl (fun _ _ w hw => szIntS_c sA sc sn.length _ ⟨by omega,by omega⟩ b5 w)) ?_;rintro y20 hy20;refine ok_p rfl rfl rfl (ps_assign rfl rfl) ?_;refine ok_ne [(1,_)] ⟨rfl,trivial⟩ ?_)
    | (refine ok_region (i := 8) ?_;refine ok_p rfl rfl rfl (ps_move rfl rfl) ?_;refine ok_p rfl rfl rfl (by exact ps_int rfl rfl rfl rfl) ?_;refine ok_ne [(1,_),(22,_)] ⟨rfl,rfl,trivial⟩ ?_)
    | (refine ok_region (i := 9) ?_;refine ok_p rfl rfl rfl (ps_assign rfl rfl) ?_;refine ok_ne [(4,_)] ⟨rfl,trivial⟩ ?_)
    | (refine ok_region (i := 10) ?_;refine ok_p rfl rfl rfl (ps_move rfl rfl) ?_;refine ok_p rfl rfl rfl (ps_assign rfl rfl) ?_;refine ok_ne [(4,_)] ⟨rfl,trivial⟩ ?_))
  all_goals first
    | exact ok_endL (vs := [.int .i64 (-1)]) rfl ⟨rfl,trivial⟩ (fun w' hw => ⟨mkN (-1) w,rfl,⟨by show (-1 : Int) ≤ -1;decide,by show (-1 : Int) ≤ left;omega,fun h => absurd h (by show ¬ (0 : Int) ≤ -1;decide)⟩,hw.below,NewOk.nil _ _⟩)
    | exact ok_endL (vs := [_]) rfl ⟨rfl,trivial⟩ (fun w' hw => ⟨mkN (y20 0).n w,rfl,⟨by show -1 ≤ (y20 0).n;omega,by show (y20 0).n ≤ left;omega,fun _ => by
        have q1 := (hy8.2.2 (by omega)).1
        have q2 := hy14.2.2 (by omega)
        have q3 := hy20.2.2 (by omega)
        exact ⟨by simp only;omega,by simp only;omega,fun x hx => (q2.2 x hx).1,by simp only;omega⟩⟩,hw.below,NewOk.nil _ _⟩)
theorem szSTen_c (t : LTen) (left : Int) (hl : 0 ≤ left ∧ left ≤ 1048576) (w : World) (h : t.e.rd w) (hb : engBig t.e) :
    Calls Tryz.prog 83 #[.agg (Dat.cells t).toArray,.int .i64 left] w fun e' w' => ∃ y : Ys,e' = .returned (.int .i64 (y 0).n) ∧ (-1 ≤ (y 0).n ∧ (y 0).n ≤ left ∧ (0 ≤ (y 0).n → engWt t.e)) ∧ Below w.heap.size w w' ∧ NewOk w.heap.size [] [] w' := by
  have HR := Lib.hid h;clear h
  have HB := Lib.hid hb;clear hb
  refine ok_enter 12 Tryz.func83 rfl rfl rfl ?_
  repeat' (first
    | refine ok_seq ?_
    | refine ok_then ?_
    | refine ok_then_ret ?_
    | (refine ok_cond rfl (fun hc => ?_) (fun hc => ?_) <;> (have hd := hc;(try simp only [jA,jB,jC,jD,jE,jF,jG,jH,jI,jJ,jK,jL,jM,jN,jO,jP,jQ,jR,jS] at hd)))
    | refine ok_ret ?_
    | refine ok_skip ?_
    | (refine ok_region (i := 0) ?_;refine ok_m rfl rfl rfl (by exact ms_box rfl rfl rfl) ?_;rintro y2 hy2;refine ok_p rfl rfl rfl (ps_assign rfl rfl) ?_;refine ok_ne [(1,_),(2,_)] ⟨rfl,rfl,trivial⟩ ?_)
    | (refine ok_region (i := 1) ?_;refine ok_p rfl rfl rfl (by exact ps_field rfl rfl (isw_ga _)) ?_;refine ok_p rfl rfl rfl (by exact ps_loads rfl rfl (by exact rds_box 0 rfl) rfl rfl (by decide)) ?_;refine ok_p rfl rfl rfl (ps_move rfl rfl) ?_;refine ok_m rfl rfl rfl (by exact ms_c2 rfl rfl rfl (fun _ _ w hw => szEng_c t.e left hl w (HR.out.le (hw.wle List.mem_cons_self)) HB.out)) ?_;rintro y8 hy8;refine ok_p rfl rfl rfl (ps_assign rfl rfl) ?_;refine ok_ne [(1,_)] ⟨rfl,trivial⟩ ?_)
    | (refine ok_region (i := 2) ?_;refine ok_p rfl rfl rfl (ps_move rfl rfl) ?_;refine ok_p rfl rfl rfl (by exact ps_int rfl rfl rfl rfl) ?_;refine ok_ne [(1,_),(10,_)] ⟨rfl,rfl,trivial⟩ ?_)
    | (refine ok_region (i := 3) ?_;refine ok_p rfl rfl rfl (ps_assign rfl rfl) ?_;refine ok_ne [(4,_)] ⟨rfl,trivial⟩ ?_)
    | (refine ok_region (i := 4) ?_;refine ok_p rfl rfl rfl (ps_move rfl rfl) ?_;refine ok_p rfl rfl rfl (ps_assign rfl rfl) ?_;refine ok_ne [(4,_)] ⟨rfl,trivial⟩ ?_))
  · exact ok_endL (vs := [.int .i64 (-1)]) rfl ⟨rfl,trivial⟩ (fun w' hw => ⟨mkN (-1) w,rfl,⟨by show (-1 : Int) ≤ -1;decide,by show (-1 : Int) ≤ left;omega,fun h => absurd h (by show ¬ (0 : Int) ≤ -1;decide)⟩,hw.below,NewOk.nil _ _⟩)
  · exact ok_endL (vs := [_]) rfl ⟨rfl,trivial⟩ (fun w' hw => ⟨mkN (y8 0).n w,rfl,⟨by show -1 ≤ (y8 0).n;omega,by show (y8 0).n ≤ left;omega,fun _ => hy8.2.2 (by omega)⟩,hw.below,NewOk.nil _ _⟩)
structure SzI (l : List LTen) (left : Int) where
  k : Nat
  v : Int
  hk : k ≤ l.length
  hv : 0 ≤ v ∧ v ≤ left
  ha : ∀ j,j < k → engWt (nth l j).e
theorem szSTenS_c (A : Option Addr) (c : Nat) (l : List LTen) (left : Int) (hl : 0 ≤ left ∧ left ≤ 1048576) (hn : l.length ≤ maxLen) (w : World) (h : Rd w A (fl l)) (hr : tensRd w l) (hb : ∀ k,k < l.length → engBig (nth l k).e) :
    Calls Tryz.prog 38 #[.slice A l.length c,.int .i64 left] w fun e' w' => ∃ y : Ys,e' = .returned (.int .i64 (y 0).n) ∧ (-1 ≤ (y 0).n ∧ (y 0).n ≤ left ∧ (0 ≤ (y 0).n → l.length ≤ 1048576 ∧ ∀ k,k < l.length → engWt (nth l k).e)) ∧ Below w.heap.size w w' ∧ NewOk w.heap.size [] [] w' := by
  have HR := Lib.hid hr;clear hr
  have HB := Lib.hid hb;clear hb
  unfold maxLen at hn
  refine ok_enter 27 Tryz.func38 rfl rfl rfl ?_
  repeat' (first
    | refine ok_seq ?_
    | refine ok_then ?_
    | refine ok_then_ret ?_
    | refine ok_block ?_
    | (refine ok_cond rfl (fun hc => ?_) (fun hc => ?_) <;> (have hd := hc;(try simp only [jA,jB,jC,jD,jE,jF,jG,jH,jI,jJ,jK,jL,jM,jN,jO,jP,jQ,jR,jS] at hd)))
    | refine ok_ret ?_
    | refine ok_skip ?_
    | (refine ok_region (i := 0) ?_;refine ok_p rfl rfl rfl (ps_assign rfl rfl) ?_;refine ok_ne [(0,_),(1,_)] ⟨rfl,rfl,trivial⟩ ?_)
    | (refine ok_region (i := 1) ?_;refine ok_p rfl rfl rfl (ps_move rfl rfl) ?_;refine ok_p rfl rfl rfl (ps_move rfl rfl) ?_;refine ok_p rfl rfl rfl (by exact ps_len rfl rfl) ?_;refine ok_p rfl rfl rfl (by exact ps_sub rfl rfl rfl (by omega)) ?_;refine ok_p rfl rfl rfl (ps_assign rfl rfl) ?_;refine ok_ne [(0,_),(1,_)] ⟨rfl,rfl,trivial⟩ ?_)
    | (refine ok_region (i := 2) ?_;refine ok_p rfl rfl rfl (ps_move rfl rfl) ?_;refine ok_p rfl rfl rfl (by exact ps_int rfl rfl rfl rfl) ?_;refine ok_ne [(0,_),(1,_),(11,_)] ⟨rfl,rfl,rfl,trivial⟩ ?_)
    | (refine ok_region (i := 3) ?_;refine ok_p rfl rfl rfl (ps_assign rfl rfl) ?_;refine ok_ne [(4,_)] ⟨rfl,trivial⟩ ?_)
    | (refine ok_region (i := 4) ?_;refine ok_p rfl rfl rfl (ps_assign rfl rfl) ?_;refine ok_ne [(0,_),(1,_),(5,_)] ⟨rfl,rfl,rfl,trivial⟩ ?_))
  · exact ok_endL (vs := [.int .i64 (-1)]) rfl ⟨rfl,trivial⟩ (fun w' hw => ⟨mkN (-1) w,rfl,⟨by show (-1 : Int) ≤ -1;decide,by show (-1 : Int) ≤ left;omega,fun h => absurd h (by show ¬ (0 : Int) ≤ -1;decide)⟩,hw.below,NewOk.nil _ _⟩)
  clear hc
  refine ok_loop (ι := SzI l left) (fun q => l.length - q.k) (fun q => ([(0,.slice A l.length c),(1,.int .i64 q.v),(5,.int .i64 q.k)],_,_)) ⟨0,left - l.length,by omega,by omega,fun j h => absurd h (Nat.not_lt_zero j)⟩ (fun a w he hw => ⟨⟨0,left - l.length,by omega,by omega,fun j h => absurd h (Nat.not_lt_zero j)⟩,he.sub ⟨rfl,rfl,rfl,trivial⟩,hw⟩) ?_
  rintro ⟨k,v,hk,hv,ha⟩
  simp only at hk hv ⊢
  have HA := Lib.hid ha;clear ha
  repeat' (first
    | refine ok_seq ?_
    | refine ok_then ?_
    | refine ok_then_ret ?_
    | refine ok_block ?_
    | refine ok_in_normal ?_
    | refine ok_in_ret ?_
    | (refine ok_cond rfl (fun hc => ?_) (fun hc => ?_) <;> (have hd := hc;(try simp only [jA,jB,jC,jD,jE,jF,jG,jH,jI,jJ,jK,jL,jM,jN,jO,jP,jQ,jR,jS] at hd)))
    | refine ok_ret ?_
    | refine ok_exit ?_
    | refine ok_skip ?_
    | (refine ok_region (i := 5) ?_;refine ok_p rfl rfl rfl (ps_move rfl rfl) ?_;refine ok_p rfl rfl rfl (ps_move rfl rfl) ?_;refine ok_p rfl rfl rfl (by exact ps_len rfl rfl) ?_;refine ok_p rfl rfl rfl (by exact ps_int rfl rfl rfl rfl) ?_;refine ok_ne [(0,_),(1,_),(5,_),(15,_)] ⟨rfl,rfl,rfl,rfl,trivial⟩ ?_)
    | (refine ok_region (i := 6) ?_;refine ok_p rfl rfl rfl (ps_move rfl rfl) ?_;refine ok_p rfl rfl rfl (by exact ps_add rfl rfl rfl (by omega)) ?_;refine ok_p rfl rfl rfl (ps_assign rfl rfl) ?_;refine ok_ne [(0,_),(1,_),(5,_)] ⟨rfl,rfl,rfl,trivial⟩ ?_)
    | (refine ok_region (i := 7) ?_;refine ok_p rfl rfl rfl (ps_move rfl rfl) ?_;refine ok_p rfl rfl rfl (ps_move rfl rfl) ?_;refine ok_p rfl rfl rfl (by exact ps_indexN rfl rfl rfl (by omega) (by exact isw_of (isS_fl (by assumption) (by omega)))) ?_;refine ok_p rfl rfl rfl (by exact ps_loads (vs := Dat.cells (nth l k)) rfl rfl (rds_rf h List.mem_cons_self) (fl_sub l k (by omega)) (Dat.len (nth l k)) (by decide)) ?_;refine ok_p rfl rfl rfl (ps_move rfl rfl) ?_;refine ok_m rfl rfl rfl (by exact ms_c2 rfl rfl rfl (fun _ _ w hw => szSTen_c (nth l k) v ⟨by omega,by omega⟩ w ((HR.out k (by omega)).le (hw.wle List.mem_cons_self)) (HB.out k (by omega)))) ?_;rintro y23 hy23;refine ok_p rfl rfl rfl (ps_assign rfl rfl) ?_;refine ok_ne [(0,_),(1,_),(5,_)] ⟨rfl,rfl,rfl,trivial⟩ ?_)
    | (refine ok_region (i := 8) ?_;refine ok_p rfl rfl rfl (ps_move rfl rfl) ?_;refine ok_p rfl rfl rfl (by exact ps_int rfl rfl rfl rfl) ?_;refine ok_ne [(0,_),(1,_),(5,_),(25,_)] ⟨rfl,rfl,rfl,rfl,trivial⟩ ?_)
    | (refine ok_region (i := 9) ?_;refine ok_p rfl rfl rfl (ps_assign rfl rfl) ?_;refine ok_ne [(4,_)] ⟨rfl,trivial⟩ ?_)
    | (refine ok_region (i := 10) ?_;refine ok_p rfl rfl rfl (ps_move rfl rfl) ?_;refine ok_p rfl rfl rfl (ps_assign rfl rfl) ?_;refine ok_ne [(4,_)] ⟨rfl,trivial⟩ ?_))
  · exact ok_endL (vs := [.int .i64 (-1)]) rfl ⟨rfl,trivial⟩ (fun w' hw => ⟨mkN (-1) w,rfl,⟨by show (-1 : Int) ≤ -1;decide,by show (-1 : Int) ≤ left;omega,fun h => absurd h (by show ¬ (0 : Int) ≤ -1;decide)⟩,hw.below,NewOk.nil _ _⟩)
  · exact fun a w' he hw => ⟨⟨k + 1,(y23 0).n,by omega,by omega,fun j hj => by
      rcases Nat.lt_succ_iff_lt_or_eq.1 hj with h' | rfl
      · exact HA.out j h'
      · exact hy23.2.2 (by omega)⟩,by simp only;omega,he.sub ⟨rfl,rfl,rfl,trivial⟩,hw⟩
  · have hkk : k = l.length := by omega
    subst hkk
    exact ok_endL (vs := [_]) rfl ⟨rfl,trivial⟩ (fun w' hw => ⟨mkN v w,rfl,⟨by show -1 ≤ v;omega,by show v ≤ left;omega,fun _ => ⟨by omega,HA.out⟩⟩,hw.below,NewOk.nil _ _⟩)
structure stBig (s : LStore) : Prop where
  ks : s.keys.slots.l.length ≤ maxLen
  ke : ∀ u ∈ s.keys.slots.l,bigKeySlot u
  sh : s.shares.list.l.length ≤ maxLen
  se : ∀ u ∈ s.shares.list.l,bigShare u
  t : s.tens.l.length ≤ maxLen
  te : ∀ k,k < s.tens.l.length → engBig (nth s.tens.l k).e
  r : s.rows.l.length ≤ maxLen
  re : ∀ u ∈ s.rows.l,bigLogRow u
  h : s.hist.l.length ≤ maxLen
  he : ∀ u ∈ s.hist.l,bigLogRow u
  x1 : s.secret.size ≤ maxLen
  x2 : s.keys.master.size ≤ maxLen
structure stWt (s : LStore) : Prop where
  ks : s.keys.slots.l.length ≤ 1048576
  sh : s.shares.list.l.length ≤ 1048576
  t : s.tens.l.length ≤ 1048576
  te : ∀ k,k < s.tens.l.length → engWt (nth s.tens.l k).e
  r : s.rows.l.length ≤ 1048576
  re : ∀ u ∈ s.rows.l,wtLogRow u
  h : s.hist.l.length ≤ 1048576
theorem szKeyDev_c (m : ByteArray) (A : Option Addr) (c : Nat) (l : List KeySlot) (wi left : Int) (hl : 0 ≤ left ∧ left ≤ 1048576) (hm : m.size ≤ maxLen) (hn : l.length ≤ maxLen) (hx : ∀ x ∈ l,bigKeySlot x) (w : World) (h : Rd w A (fl l)) :
    Calls Tryz.prog 36 #[.agg #[.string m,.slice A l.length c,.int .i64 wi],.int .i64 left] w fun e' w' => ∃ y : Ys,e' = .returned (.int .i64 (y 0).n) ∧ (-1 ≤ (y 0).n ∧ (y 0).n ≤ left ∧ (0 ≤ (y 0).n → l.length ≤ 1048576)) ∧ Below w.heap.size w w' ∧ NewOk w.heap.size [] [] w' := by
  have HX := Lib.hid hx;clear hx
  unfold maxLen at hm
  refine ok_enter 19 Tryz.func36 rfl rfl rfl ?_
  repeat' (first
    | refine ok_seq ?_
    | refine ok_then ?_
    | refine ok_then_ret ?_
    | (refine ok_cond rfl (fun hc => ?_) (fun hc => ?_) <;> (have hd := hc;(try simp only [jA,jB,jC,jD,jE,jF,jG,jH,jI,jJ,jK,jL,jM,jN,jO,jP,jQ,jR,jS] at hd)))
    | refine ok_ret ?_
    | refine ok_skip ?_
    | (refine ok_region (i := 0) ?_;refine ok_m rfl rfl rfl (by exact ms_box rfl rfl rfl) ?_;rintro y2 hy2;refine ok_p rfl rfl rfl (ps_assign rfl rfl) ?_;refine ok_ne [(1,_),(2,_)] ⟨rfl,rfl,trivial⟩ ?_)
    | (refine ok_region (i := 1) ?_;refine ok_p rfl rfl rfl (ps_move rfl rfl) ?_;refine ok_p rfl rfl rfl (by exact ps_field rfl rfl (isw_ga _)) ?_;refine ok_p rfl rfl rfl (by exact ps_load rfl rfl (by exact Rds.cell (rds_box 0 rfl) rfl)) ?_;refine ok_p rfl rfl rfl (by exact ps_slen rfl rfl) ?_;refine ok_p rfl rfl rfl (by exact ps_sub rfl rfl rfl (by omega)) ?_;refine ok_p rfl rfl rfl (ps_assign rfl rfl) ?_;refine ok_ne [(1,_),(2,_)] ⟨rfl,rfl,trivial⟩ ?_)
    | (refine ok_region (i := 2) ?_;refine ok_p rfl rfl rfl (ps_move rfl rfl) ?_;refine ok_p rfl rfl rfl (by exact ps_int rfl rfl rfl rfl) ?_;refine ok_ne [(1,_),(2,_),(11,_)] ⟨rfl,rfl,rfl,trivial⟩ ?_)
    | (refine ok_region (i := 3) ?_;refine ok_p rfl rfl rfl (ps_assign rfl rfl) ?_;refine ok_ne [(4,_)] ⟨rfl,trivial⟩ ?_)
    | (refine ok_region (i := 4) ?_;refine ok_p rfl rfl rfl (by exact ps_field rfl rfl (isw_ga _)) ?_;refine ok_p rfl rfl rfl (by exact ps_load rfl rfl (by exact Rds.cell (rds_box 0 rfl) rfl)) ?_;refine ok_p rfl rfl rfl (ps_move rfl rfl) ?_;refine ok_m rfl rfl rfl (by exact ms_c2 rfl rfl rfl (fun _ _ w hw => szKeySlotS_c A c l _ ⟨by omega,by omega⟩ hn HX.out w (rds_rf h List.mem_cons_self _ _ w hw))) ?_;rintro y15 hy15;refine ok_p rfl rfl rfl (ps_assign rfl rfl) ?_;refine ok_ne [(1,_)] ⟨rfl,trivial⟩ ?_)
    | (refine ok_region (i := 5) ?_;refine ok_p rfl rfl rfl (ps_move rfl rfl) ?_;refine ok_p rfl rfl rfl (by exact ps_int rfl rfl rfl rfl) ?_;refine ok_ne [(1,_),(17,_)] ⟨rfl,rfl,trivial⟩ ?_)
    | (refine ok_region (i := 6) ?_;refine ok_p rfl rfl rfl (ps_assign rfl rfl) ?_;refine ok_ne [(4,_)] ⟨rfl,trivial⟩ ?_)
    | (refine ok_region (i := 7) ?_;refine ok_p rfl rfl rfl (ps_move rfl rfl) ?_;refine ok_p rfl rfl rfl (ps_assign rfl rfl) ?_;refine ok_ne [(4,_)] ⟨rfl,trivial⟩ ?_))
  all_goals first
    | exact ok_endL (vs := [.int .i64 (-1)]) rfl ⟨rfl,trivial⟩ (fun w' hw => ⟨mkN (-1) w,rfl,⟨by show (-1 : Int) ≤ -1;decide,by show (-1 : Int) ≤ left;omega,fun h => absurd h (by show ¬ (0 : Int) ≤ -1;decide)⟩,hw.below,NewOk.nil _ _⟩)
    | exact ok_endL (vs := [_]) rfl ⟨rfl,trivial⟩ (fun w' hw => ⟨mkN (y15 0).n w,rfl,⟨by show -1 ≤ (y15 0).n;omega,by show (y15 0).n ≤ left;omega,fun _ => by have := (hy15.2.2 (by omega)).1;omega⟩,hw.below,NewOk.nil _ _⟩)
theorem szShares_c (sz : Int) (A : Option Addr) (c : Nat) (l : List Share) (left : Int) (hl : 0 ≤ left ∧ left ≤ 1048576) (hn : l.length ≤ maxLen) (hx : ∀ x ∈ l,bigShare x) (w : World) (h : Rd w A (fl l)) :
    Calls Tryz.prog 37 #[.agg #[.int .i64 sz,.slice A l.length c],.int .i64 left] w fun e' w' => ∃ y : Ys,e' = .returned (.int .i64 (y 0).n) ∧ (-1 ≤ (y 0).n ∧ (y 0).n ≤ left ∧ (0 ≤ (y 0).n → l.length ≤ 1048576)) ∧ Below w.heap.size w w' ∧ NewOk w.heap.size [] [] w' := by
  have HX := Lib.hid hx;clear hx
  refine ok_enter 12 Tryz.func37 rfl rfl rfl ?_
  repeat' (first
    | refine ok_seq ?_
    | refine ok_then ?_
    | refine ok_then_ret ?_
    | (refine ok_cond rfl (fun hc => ?_) (fun hc => ?_) <;> (have hd := hc;(try simp only [jA,jB,jC,jD,jE,jF,jG,jH,jI,jJ,jK,jL,jM,jN,jO,jP,jQ,jR,jS] at hd)))
    | refine ok_ret ?_
    | refine ok_skip ?_
    | (refine ok_region (i := 0) ?_;refine ok_m rfl rfl rfl (by exact ms_box rfl rfl rfl) ?_;rintro y2 hy2;refine ok_p rfl rfl rfl (ps_assign rfl rfl) ?_;refine ok_ne [(1,_),(2,_)] ⟨rfl,rfl,trivial⟩ ?_)
    | (refine ok_region (i := 1) ?_;refine ok_p rfl rfl rfl (by exact ps_field rfl rfl (isw_ga _)) ?_;refine ok_p rfl rfl rfl (by exact ps_load rfl rfl (by exact Rds.cell (rds_box 0 rfl) rfl)) ?_;refine ok_p rfl rfl rfl (ps_move rfl rfl) ?_;refine ok_m rfl rfl rfl (by exact ms_c2 rfl rfl rfl (fun _ _ w hw => szShareS_c A c l _ ⟨by omega,by omega⟩ hn HX.out w (rds_rf h List.mem_cons_self _ _ w hw))) ?_;rintro y8 hy8;refine ok_p rfl rfl rfl (ps_assign rfl rfl) ?_;refine ok_ne [(1,_)] ⟨rfl,trivial⟩ ?_)
    | (refine ok_region (i := 2) ?_;refine ok_p rfl rfl rfl (ps_move rfl rfl) ?_;refine ok_p rfl rfl rfl (by exact ps_int rfl rfl rfl rfl) ?_;refine ok_ne [(1,_),(10,_)] ⟨rfl,rfl,trivial⟩ ?_)
    | (refine ok_region (i := 3) ?_;refine ok_p rfl rfl rfl (ps_assign rfl rfl) ?_;refine ok_ne [(4,_)] ⟨rfl,trivial⟩ ?_)
    | (refine ok_region (i := 4) ?_;refine ok_p rfl rfl rfl (ps_move rfl rfl) ?_;refine ok_p rfl rfl rfl (ps_assign rfl rfl) ?_;refine ok_ne [(4,_)] ⟨rfl,trivial⟩ ?_))
  all_goals first
    | exact ok_endL (vs := [.int .i64 (-1)]) rfl ⟨rfl,trivial⟩ (fun w' hw => ⟨mkN (-1) w,rfl,⟨by show (-1 : Int) ≤ -1;decide,by show (-1 : Int) ≤ left;omega,fun h => absurd h (by show ¬ (0 : Int) ≤ -1;decide)⟩,hw.below,NewOk.nil _ _⟩)
    | exact ok_endL (vs := [_]) rfl ⟨rfl,trivial⟩ (fun w' hw => ⟨mkN (y8 0).n w,rfl,⟨by show -1 ≤ (y8 0).n;omega,by show (y8 0).n ≤ left;omega,fun _ => by have := (hy8.2.2 (by omega)).1;omega⟩,hw.below,NewOk.nil _ _⟩)
theorem szStore_c (s : LStore) (left : Int) (hl : 0 ≤ left ∧ left ≤ 1048576) (w : World) (h : s.rd w) (hb : stBig s) :
    Calls Tryz.prog 8 #[s.val,.int .i64 left] w fun e' w' => ∃ y : Ys,e' = .returned (.int .i64 (y 0).n) ∧ (-1 ≤ (y 0).n ∧ (y 0).n ≤ left ∧ (0 ≤ (y 0).n → stWt s)) ∧ Below w.heap.size w w' ∧ NewOk w.heap.size [] [] w' := by
  obtain ⟨sec,⟨mk,⟨kA,kc,slots⟩,wi⟩,⟨ssz,⟨shA,shc,shl⟩⟩,⟨tnA,tnc,tens⟩,⟨rA,rc,rows⟩,⟨hA,hcc,hist⟩,bo⟩ := s
  obtain ⟨h1,h2,h3,h4,h5,h6⟩ := h
  obtain ⟨b1,b2,b3,b4,b5,b6,b7,b8,b9,b10,b11,b12⟩ := hb
  simp only [LKeys.rd,LShares.rd] at h1 h2 h3 h4 h5 h6 b1 b2 b3 b4 b5 b6 b7 b8 b9 b10 b11 b12
  have B2 := Lib.hid b2;clear b2
  have B4 := Lib.hid b4;clear b4
  have B6 := Lib.hid b6;clear b6
  have B8 := Lib.hid b8;clear b8
  have B10 := Lib.hid b10;clear b10
  have H4 := Lib.hid h4;clear h4
  have b11' := b11
  unfold maxLen at b11'
  show Calls Tryz.prog 8 #[.agg #[.string sec,.string mk,.slice kA slots.length kc,.int .i64 wi,.int .i64 ssz,.slice shA shl.length shc,.slice tnA tens.length tnc,.slice rA rows.length rc,.slice hA hist.length hcc,.int .i64 bo],.int .i64 left] w _
  refine ok_enter 43 Tryz.func8 rfl rfl rfl ?_
  repeat' (first
    | refine ok_seq ?_
    | refine ok_then ?_
    | refine ok_then_ret ?_
    | (refine ok_cond rfl (fun hc => ?_) (fun hc => ?_) <;> (have hd := hc;(try simp only [jA,jB,jC,jD,jE,jF,jG,jH,jI,jJ,jK,jL,jM,jN,jO,jP,jQ,jR,jS] at hd)))
    | refine ok_ret ?_
    | refine ok_skip ?_
    | (refine ok_region (i := 0) ?_;refine ok_m rfl rfl rfl (by exact ms_box rfl rfl rfl) ?_;rintro y2 hy2;refine ok_p rfl rfl rfl (ps_assign rfl rfl) ?_;refine ok_ne [(1,_),(2,_)] ⟨rfl,rfl,trivial⟩ ?_)
    | (refine ok_region (i := 1) ?_;refine ok_p rfl rfl rfl (ps_move rfl rfl) ?_;refine ok_p rfl rfl rfl (by exact ps_field rfl rfl (isw_ga _)) ?_;refine ok_p rfl rfl rfl (by exact ps_load rfl rfl (by exact Rds.cell (rds_box 0 rfl) rfl)) ?_;refine ok_p rfl rfl rfl (by exact ps_slen rfl rfl) ?_;refine ok_p rfl rfl rfl (by exact ps_sub rfl rfl rfl (by omega)) ?_;refine ok_p rfl rfl rfl (ps_assign rfl rfl) ?_;refine ok_ne [(1,_),(2,_)] ⟨rfl,rfl,trivial⟩ ?_)
    | (refine ok_region (i := 2) ?_;refine ok_p rfl rfl rfl (ps_move rfl rfl) ?_;refine ok_p rfl rfl rfl (by exact ps_int rfl rfl rfl rfl) ?_;refine ok_ne [(1,_),(2,_),(11,_)] ⟨rfl,rfl,rfl,trivial⟩ ?_)
    | (refine ok_region (i := 3) ?_;refine ok_p rfl rfl rfl (ps_assign rfl rfl) ?_;refine ok_ne [(4,_)] ⟨rfl,trivial⟩ ?_)
    | (refine ok_region (i := 4) ?_;refine ok_p rfl rfl rfl (by exact ps_field rfl rfl (isw_ga _)) ?_;refine ok_p rfl rfl rfl (by exact ps_loads rfl rfl (by exact rds_box 0 rfl) rfl rfl (by decide)) ?_;refine ok_p rfl rfl rfl (ps_move rfl rfl) ?_;refine ok_m rfl rfl rfl (by exact ms_c2 rfl rfl rfl (fun _ _ w hw => szKeyDev_c mk kA kc slots wi _ ⟨by omega,by omega⟩ b12 b1 B2.out w (rds_rf h1 List.mem_cons_self _ _ w hw))) ?_;rintro y15 hy15;refine ok_p rfl rfl rfl (ps_assign rfl rfl) ?_;refine ok_ne [(1,_),(2,_)] ⟨rfl,rfl,trivial⟩ ?_)
    | (refine ok_region (i := 5) ?_;refine ok_p rfl rfl rfl (ps_move rfl rfl) ?_;refine ok_p rfl rfl rfl (by exact ps_int rfl rfl rfl rfl) ?_;refine ok_ne [(1,_),(2,_),(17,_)] ⟨rfl,rfl,rfl,trivial⟩ ?_)
    | (refine ok_region (i := 6) ?_;refine ok_p rfl rfl rfl (ps_assign rfl rfl) ?_;refine ok_ne [(4,_)] ⟨rfl,trivial⟩ ?_)
    | (refine ok_region (i := 7) ?_;refine ok_p rfl rfl rfl (by exact ps_field rfl rfl (isw_ga _)) ?_;refine ok_p rfl rfl rfl (by exact ps_loads rfl rfl (by exact rds_box 0 rfl) rfl rfl (by decide)) ?_;refine ok_p rfl rfl rfl (ps_move rfl rfl) ?_;refine ok_m rfl rfl rfl (by exact ms_c2 rfl rfl rfl (fun _ _ w hw => szShares_c ssz shA shc shl _ ⟨by omega,by omega⟩ b3 B4.out w (rds_rf h2 List.mem_cons_self _ _ w hw))) ?_;rintro y21 hy21;refine ok_p rfl rfl rfl (ps_assign rfl rfl) ?_;refine ok_ne [(1,_),(2,_)] ⟨rfl,rfl,trivial⟩ ?_)
    | (refine ok_region (i := 8) ?_;refine ok_p rfl rfl rfl (ps_move rfl rfl) ?_;refine ok_p rfl rfl rfl (by exact ps_int rfl rfl rfl rfl) ?_;refine ok_ne [(1,_),(2,_),(23,_)] ⟨rfl,rfl,rfl,trivial⟩ ?_)
    | (refine ok_region (i := 9) ?_;refine ok_p rfl rfl rfl (ps_assign rfl rfl) ?_;refine ok_ne [(4,_)] ⟨rfl,trivial⟩ ?_)
    | (refine ok_region (i := 10) ?_;refine ok_p rfl rfl rfl (by exact ps_field rfl rfl (isw_ga _)) ?_;refine ok_p rfl rfl rfl (by exact ps_load rfl rfl (by exact Rds.cell (rds_box 0 rfl) rfl)) ?_;refine ok_p rfl rfl rfl (ps_move rfl rfl) ?_;refine ok_m rfl rfl rfl (by exact ms_c2 rfl rfl rfl (fun _ _ w hw => szSTenS_c tnA tnc tens _ ⟨by omega,by omega⟩ b5 w (rds_rf h3 List.mem_cons_self _ _ w hw) (H4.out.le (hw.wle List.mem_cons_self)) B6.out)) ?_;rintro y27 hy27;refine ok_p rfl rfl rfl (ps_assign rfl rfl) ?_;refine ok_ne [(1,_),(2,_)] ⟨rfl,rfl,trivial⟩ ?_)
    | (refine ok_region (i := 11) ?_;refine ok_p rfl rfl rfl (ps_move rfl rfl) ?_;refine ok_p rfl rfl rfl (by exact ps_int rfl rfl rfl rfl) ?_;refine ok_ne [(1,_),(2,_),(29,_)] ⟨rfl,rfl,rfl,trivial⟩ ?_)
    | (refine ok_region (i := 12) ?_;refine ok_p rfl rfl rfl (ps_assign rfl rfl) ?_;refine ok_ne [(4,_)] ⟨rfl,trivial⟩ ?_)
    | (refine ok_region (i := 13) ?_;refine ok_p rfl rfl rfl (by exact ps_field rfl rfl (isw_ga _)) ?_;refine ok_p rfl rfl rfl (by exact ps_load rfl rfl (by exact Rds.cell (rds_box 0 rfl) rfl)) ?_;refine ok_p rfl rfl rfl (ps_move rfl rfl) ?_;refine ok_m rfl rfl rfl (by exact ms_c2 rfl rfl rfl (fun _ _ w hw => szLogRowS_c rA rc rows _ ⟨by omega,by omega⟩ b7 B8.out w (rds_rf h5 List.mem_cons_self _ _ w hw))) ?_;rintro y33 hy33;refine ok_p rfl rfl rfl (ps_assign rfl rfl) ?_;refine ok_ne [(1,_),(2,_)] ⟨rfl,rfl,trivial⟩ ?_)
    | (refine ok_region (i := 14) ?_;refine ok_p rfl rfl rfl (ps_move rfl rfl) ?_;refine ok_p rfl rfl rfl (by exact ps_int rfl rfl rfl rfl) ?_;refine ok_ne [(1,_),(2,_),(35,_)] ⟨rfl,rfl,rfl,trivial⟩ ?_)
    | (refine ok_region (i := 15) ?_;refine ok_p rfl rfl rfl (ps_assign rfl rfl) ?_;refine ok_ne [(4,_)] ⟨rfl,trivial⟩ ?_)
    | (refine ok_region (i := 16) ?_;refine ok_p rfl rfl rfl (by exact ps_field rfl rfl (isw_ga _)) ?_;refine ok_p rfl rfl rfl (by exact ps_load rfl rfl (by exact Rds.cell (rds_box 0 rfl) rfl)) ?_;refine ok_p rfl rfl rfl (ps_move rfl rfl) ?_;refine ok_m rfl rfl rfl (by exact ms_c2 rfl rfl rfl (fun _ _ w hw => szLogRowS_c hA hcc hist _ ⟨by omega,by omega⟩ b9 B10.out w (rds_rf h6 List.mem_cons_self _ _ w hw))) ?_;rintro y39 hy39;refine ok_p rfl rfl rfl (ps_assign rfl rfl) ?_;refine ok_ne [(1,_)] ⟨rfl,trivial⟩ ?_)
    | (refine ok_region (i := 17) ?_;refine ok_p rfl rfl rfl (ps_move rfl rfl) ?_;refine ok_p rfl rfl rfl (by exact ps_int rfl rfl rfl rfl) ?_;refine ok_ne [(1,_),(41,_)] ⟨rfl,rfl,trivial⟩ ?_)
    | (refine ok_region (i := 18) ?_;refine ok_p rfl rfl rfl (ps_assign rfl rfl) ?_;refine ok_ne [(4,_)] ⟨rfl,trivial⟩ ?_)
    | (refine ok_region (i := 19) ?_;refine ok_p rfl rfl rfl (ps_move rfl rfl) ?_;refine ok_p rfl rfl rfl (ps_assign rfl rfl) ?_;refine ok_ne [(4,_)] ⟨rfl,trivial⟩ ?_))
  all_goals first
    | exact ok_endL (vs := [.int .i64 (-1)]) rfl ⟨rfl,trivial⟩ (fun w' hw => ⟨mkN (-1) w,rfl,⟨by show (-1 : Int) ≤ -1;decide,by show (-1 : Int) ≤ left;omega,fun h => absurd h (by show ¬ (0 : Int) ≤ -1;decide)⟩,hw.below,NewOk.nil _ _⟩)
    | exact ok_endL (vs := [_]) rfl ⟨rfl,trivial⟩ (fun w' hw => ⟨mkN (y39 0).n w,rfl,⟨by show -1 ≤ (y39 0).n;omega,by show (y39 0).n ≤ left;omega,fun _ => by
        have q1 := hy15.2.2 (by omega)
        have q2 := hy21.2.2 (by omega)
        have q3 := hy27.2.2 (by omega)
        have q4 := hy33.2.2 (by omega)
        have q5 := hy39.2.2 (by omega)
        exact ⟨q1,q2,q3.1,q3.2,by simp only;omega,q4.2,by simp only;omega⟩⟩,hw.below,NewOk.nil _ _⟩)
end Go.Proofs.YtmfojbidojjciaaGreat
/- Entries as unknown results. -/
namespace Go.Proofs.YtmfojbidojjciaaGreat
instance : Enc Ent := ⟨fun e => .agg #[.string e.key,.int .i64 e.seq,.bool e.del,.string e.val],fun v => ⟨asS ((asL v).getD 0 (.bool false)),asI ((asL v).getD 1 (.bool false)),asB ((asL v).getD 2 (.bool false)),asS ((asL v).getD 3 (.bool false))⟩,fun _ => rfl⟩
end Go.Proofs.YtmfojbidojjciaaGreat
/- Stores copied: each row is one's own. -/
namespace Go.Proofs.YtmfojbidojjciaaGreat
open Go.RowKit
attribute [local irreducible] Calls
def memR (l : List LTen) : List RowD := l.map fun t => ⟨t.e.mem.A,t.e.mem.l.length,t.e.mem.c,fl t.e.mem.l⟩
def outR (l : List LTen) : List RowD := l.map fun t => ⟨t.e.tab.A,t.e.tab.l.length,t.e.tab.c,fl t.e.tab.l⟩
def tabR (l : List LTen) : List RowD := l.flatMap fun t => rowsOf t.e.tab.l
def snpR (l : List LTen) : List RowD := l.map fun t => ⟨t.e.snaps.A,t.e.snaps.l.length,t.e.snaps.c,fl t.e.snaps.l⟩
def stObj (s : LStore) : List HObj := [.row 99 2 s.keys.slots.A s.keys.slots.l.length s.keys.slots.c (fl s.keys.slots.l),.row 101 2 s.shares.list.A s.shares.list.l.length s.shares.list.c (fl s.shares.list.l),.row 90 7 s.tens.A s.tens.l.length s.tens.c (fl s.tens.l),.bag 204 4 (memR s.tens.l),.bag 85 1 (outR s.tens.l),.bag 204 4 (tabR s.tens.l),.bag 3 1 (snpR s.tens.l),.row 92 5 s.rows.A s.rows.l.length s.rows.c (fl s.rows.l),.row 92 5 s.hist.A s.hist.l.length s.hist.c (fl s.hist.l)]
theorem WOk.join {base : Nat} {w0 w : World} {H : List HObj} {G : List World} {e sz : Nat} {l1 l2 : List RowD} (h : WOk base w0 (.bag e sz l1 :: .bag e sz l2 :: H) G w) : WOk base w0 (.bag e sz (l2 ++ l1) :: H) G w := by
  rw [WOk.bag_iff,List.map_append,List.append_assoc]
  have h1 := WOk.bag_iff.1 h
  have h2 : WOk base w0 (.bag e sz l2 :: (l1.map (RowD.obj e sz) ++ H)) G w := h1.perm List.perm_middle
  exact WOk.bag_iff.1 h2
theorem rd_bagR {base : Nat} {w0 w : World} {H : List HObj} {G : List World} {e sz : Nat} {l : List RowD} (hw : WOk base w0 H G w) (hi : HObj.bag e sz l ∈ H) {r : RowD} (hr : r ∈ l) : Rd w r.A r.us := Rd.of_own ((hw.own _ hi).1 r hr)
theorem tens_own {base : Nat} {w0 w : World} {H : List HObj} {G : List World} {l : List LTen} (hw : WOk base w0 H G w) {e1 z1 e2 z2 e3 z3 e4 z4 : Nat} (h1 : HObj.bag e1 z1 (memR l) ∈ H) (h2 : HObj.bag e2 z2 (outR l) ∈ H) (h3 : HObj.bag e3 z3 (tabR l) ∈ H) (h4 : HObj.bag e4 z4 (snpR l) ∈ H) : tensRd w l := fun k hk => by
  have hm := nth_mem l k hk
  refine ⟨rd_bagR hw h1 (List.mem_map.2 ⟨_,hm,rfl⟩),⟨rd_bagR hw h2 (List.mem_map.2 ⟨_,hm,rfl⟩),fun j hj => ?_⟩,rd_bagR hw h4 (List.mem_map.2 ⟨_,hm,rfl⟩)⟩
  exact rd_bagR hw h3 (r := (nth (nth l k).e.tab.l j).row) (List.mem_flatMap.2 ⟨_,hm,List.mem_map.2 ⟨_,nth_mem _ j hj,rfl⟩⟩)
theorem st_own {base : Nat} {w0 w : World} {H : List HObj} {G : List World} {s : LStore} (hw : WOk base w0 (stObj s ++ H) G w) : s.rd w := by
  have hm : ∀ x ∈ stObj s,x ∈ stObj s ++ H := fun x hx => List.mem_append_left _ hx
  refine ⟨hw.row 0 rfl,hw.row 1 rfl,hw.row 2 rfl,tens_own hw (e1 := 204) (z1 := 4) (e2 := 85) (z2 := 1) (e3 := 204) (z3 := 4) (e4 := 3) (z4 := 1) (hm _ ?_) (hm _ ?_) (hm _ ?_) (hm _ ?_),hw.row 7 rfl,hw.row 8 rfl⟩ <;> (unfold stObj;simp)
theorem toEng_c (e : LEng) (w : World) (h : e.rd w) (hb : engWt e) :
    Calls Tryz.prog 143 #[e.val] w fun e' w' => ∃ y : Ys,e' = .returned (engVal e.d y) ∧ True ∧ Below w.heap.size w w' ∧ NewOk w.heap.size (engObj e.d y) [] w' := by
  obtain ⟨⟨mA,mc,mem⟩,⟨tA,tc,R⟩,seq,⟨sA,sc,sn⟩⟩ := e
  obtain ⟨h1,h2,h3⟩ := h
  obtain ⟨b1,b2,b3,b4⟩ := hb
  simp only at h1 h2 h3 b1 b2 b3 b4
  have H2 := Lib.hid h2;clear h2
  have B3 := Lib.hid b3;clear b3
  show Calls Tryz.prog 143 #[.agg #[.slice mA mem.length mc,.slice tA R.length tc,.int .i64 seq,.slice sA sn.length sc]] w _
  refine ok_enter 20 Tryz.func143 rfl rfl rfl ?_
  repeat' (first
    | refine ok_seq ?_
    | refine ok_then ?_
    | refine ok_ret ?_
    | (refine ok_region (i := 0) ?_;refine ok_m rfl rfl rfl (by exact ms_box rfl rfl rfl) ?_;rintro y1 hy1;refine ok_m rfl rfl rfl (by exact ms_alloc rfl) ?_;rintro y2 hy2;refine ok_ne [(1,_),(2,_)] ⟨rfl,rfl,trivial⟩ ?_)
    | (refine ok_region (i := 1) ?_;refine ok_m rfl rfl rfl (by exact ms_alloc rfl) ?_;rintro y3 hy3;refine ok_ne [(1,_),(2,_),(3,_)] ⟨rfl,rfl,rfl,trivial⟩ ?_)
    | (refine ok_region (i := 2) ?_;refine ok_p rfl rfl rfl (by exact ps_field rfl rfl (isw_ga _)) ?_;refine ok_p rfl rfl rfl (by exact ps_load rfl rfl (by exact Rds.cell (rds_box 2 rfl) rfl)) ?_;refine ok_m rfl rfl rfl (by exact ms_c1 rfl rfl (fun _ _ w hw => toEntS_c mA mc mem w (rds_rf h1 List.mem_cons_self _ _ w hw) b1)) ?_;rintro y6 hy6;refine ok_p rfl rfl rfl (by exact ps_field rfl rfl (isw_ga _)) ?_;refine ok_m_ rfl rfl (by exact ms_store 1 rfl rfl rfl rfl rfl rfl rfl rfl) ?_;rintro y_ hy_;refine ok_ne [(1,_),(2,_),(3,_)] ⟨rfl,rfl,rfl,trivial⟩ ?_)
    | (refine ok_region (i := 3) ?_;refine ok_p rfl rfl rfl (by exact ps_field rfl rfl (isw_ga _)) ?_;refine ok_p rfl rfl rfl (by exact ps_load rfl rfl (by exact Rds.cell (rds_box 3 rfl) rfl)) ?_;refine ok_m rfl rfl rfl (by exact ms_c1 rfl rfl (fun _ _ w hw => toEntSS_c tA tc R w (RdN.keep hw H2.out List.mem_cons_self) b2 B3.out)) ?_;rintro y10 hy10;refine ok_p rfl rfl rfl (by exact ps_field rfl rfl (isw_ga _)) ?_;refine ok_m_ rfl rfl (by exact ms_store 3 rfl rfl rfl rfl rfl rfl rfl rfl) ?_;rintro y_ hy_;refine ok_ne [(1,_),(2,_),(3,_)] ⟨rfl,rfl,rfl,trivial⟩ ?_)
    | (refine ok_region (i := 4) ?_;refine ok_p rfl rfl rfl (by exact ps_field rfl rfl (isw_ga _)) ?_;refine ok_p rfl rfl rfl (by exact ps_load rfl rfl (by exact Rds.cell (rds_box 5 rfl) rfl)) ?_;refine ok_p rfl rfl rfl (by exact ps_field rfl rfl (isw_ga _)) ?_;refine ok_m_ rfl rfl (by exact ms_store 3 rfl rfl rfl rfl rfl rfl rfl rfl) ?_;rintro y_ hy_;refine ok_ne [(1,_),(2,_),(3,_)] ⟨rfl,rfl,rfl,trivial⟩ ?_)
    | (refine ok_region (i := 5) ?_;refine ok_p rfl rfl rfl (by exact ps_field rfl rfl (isw_ga _)) ?_;refine ok_p rfl rfl rfl (by exact ps_load rfl rfl (by exact Rds.cell (rds_box 5 rfl) rfl)) ?_;refine ok_m rfl rfl rfl (by exact ms_c1 rfl rfl (fun _ _ w hw => toIntS_c sA sc sn w (rds_rf h3 List.mem_cons_self _ _ w hw) b4)) ?_;rintro y17 hy17;refine ok_p rfl rfl rfl (by exact ps_field rfl rfl (isw_ga _)) ?_;refine ok_m_ rfl rfl (by exact ms_store 4 rfl rfl rfl rfl rfl rfl rfl rfl) ?_;rintro y_ hy_;refine ok_ne [(2,_),(3,_)] ⟨rfl,rfl,trivial⟩ ?_)
    | (refine ok_region (i := 6) ?_;refine ok_p rfl rfl rfl (by exact ps_loads rfl rfl (by exact rds_box 4 rfl) rfl rfl (by decide)) ?_;refine ok_m_ rfl rfl (by exact ms_store 5 rfl rfl rfl rfl rfl rfl rfl rfl) ?_;rintro y_ hy_;refine ok_ne [(2,_)] ⟨rfl,trivial⟩ ?_))
  have hS : dats (locs 1 (dats R) y10) = dats R := dats_locs 1 (dats R) y10
  have hSl : (locs 1 (dats R) y10).length = R.length := by rw [locs_len,dats_len]
  simp only [LEng.d]
  generalize locs 1 (dats R) y10 = S at hS hSl ⊢
  rw [← hS,← hSl]
  refine ok_endL (vs := [_]) rfl ⟨⟨_,5,_,_,_,rfl,rfl,inferInstance,rfl,rfl⟩,trivial⟩ (fun w' hw => ⟨cpY (y6 0).A (y6 0).c (y10 0).A (y10 0).c (y17 0).A (y17 0).c S w',?_,trivial,hw.below,?_⟩)
  · rw [(eng_obj _ _ mem _ _ S seq _ _ sn w').1];rfl
  · rw [(eng_obj _ _ mem _ _ S seq _ _ sn w').2]
    exact NewOk.of (hw.sel [3,1,2,0] (by decide) rfl (G' := []) (fun _ h => by cases h))
/-- A tenant as a result. -/
@[reducible] def tenY (d : DTen) (y : Ys) : LTen := ⟨d.id,d.ep,d.ba,⟨⟨(y 0).A,(y 0).c,d.eng.mem⟩,⟨(y 1).A,(y 1).c,locs 3 d.eng.tabs y⟩,d.eng.seq,⟨(y 2).A,(y 2).c,d.eng.snaps⟩⟩⟩
theorem tenY_d (d : DTen) (y : Ys) : (tenY d y).d = d := by
  simp only [tenY,LTen.d,LEng.d,dats_locs]
theorem tenY_cells (d : DTen) (y : Ys) : Dat.cells (tenY d y) = [.int .i64 d.id,.int .i64 d.ep,.int .i64 d.ba,.slice (y 0).A d.eng.mem.length (y 0).c,.slice (y 1).A d.eng.tabs.length (y 1).c,.int .i64 d.eng.seq,.slice (y 2).A d.eng.snaps.length (y 2).c] := by
  simp only [tenY,Dat.cells,LEng.cells,locs_len]
theorem toSTen_c (t : LTen) (w : World) (h : t.e.rd w) (hb : engWt t.e) :
    Calls Tryz.prog 92 #[.agg (Dat.cells t).toArray] w fun e' w' => ∃ y : Ys,e' = .returned (.agg (Dat.cells (tenY t.d y)).toArray) ∧ True ∧ Below w.heap.size w w' ∧ NewOk w.heap.size (engObj t.e.d y) [] w' := by
  have HR := Lib.hid h;clear h
  have HB := Lib.hid hb;clear hb
  refine ok_enter 18 Tryz.func92 rfl rfl rfl ?_
  repeat' (first
    | refine ok_seq ?_
    | refine ok_then ?_
    | refine ok_ret ?_
    | (refine ok_region (i := 0) ?_;refine ok_m rfl rfl rfl (by exact ms_box rfl rfl rfl) ?_;rintro y1 hy1;refine ok_m rfl rfl rfl (by exact ms_alloc rfl) ?_;rintro y2 hy2;refine ok_ne [(1,_),(2,_)] ⟨rfl,rfl,trivial⟩ ?_)
    | (refine ok_region (i := 1) ?_;refine ok_m rfl rfl rfl (by exact ms_alloc rfl) ?_;rintro y3 hy3;refine ok_ne [(1,_),(2,_),(3,_)] ⟨rfl,rfl,rfl,trivial⟩ ?_)
    | (refine ok_region (i := 2) ?_;refine ok_p rfl rfl rfl (by exact ps_field rfl rfl (isw_ga _)) ?_;refine ok_p rfl rfl rfl (by exact ps_load rfl rfl (by exact Rds.cell (rds_box 2 rfl) rfl)) ?_;refine ok_p rfl rfl rfl (by exact ps_field rfl rfl (isw_ga _)) ?_;refine ok_m_ rfl rfl (by exact ms_store 0 rfl rfl rfl rfl rfl rfl rfl rfl) ?_;rintro y_ hy_;refine ok_ne [(1,_),(2,_),(3,_)] ⟨rfl,rfl,rfl,trivial⟩ ?_)
    | (refine ok_region (i := 3) ?_;refine ok_p rfl rfl rfl (by exact ps_field rfl rfl (isw_ga _)) ?_;refine ok_p rfl rfl rfl (by exact ps_load rfl rfl (by exact Rds.cell (rds_box 2 rfl) rfl)) ?_;refine ok_p rfl rfl rfl (by exact ps_field rfl rfl (isw_ga _)) ?_;refine ok_m_ rfl rfl (by exact ms_store 0 rfl rfl rfl rfl rfl rfl rfl rfl) ?_;rintro y_ hy_;refine ok_ne [(1,_),(2,_),(3,_)] ⟨rfl,rfl,rfl,trivial⟩ ?_)
    | (refine ok_region (i := 4) ?_;refine ok_p rfl rfl rfl (by exact ps_field rfl rfl (isw_ga _)) ?_;refine ok_p rfl rfl rfl (by exact ps_load rfl rfl (by exact Rds.cell (rds_box 2 rfl) rfl)) ?_;refine ok_p rfl rfl rfl (by exact ps_field rfl rfl (isw_ga _)) ?_;refine ok_m_ rfl rfl (by exact ms_store 0 rfl rfl rfl rfl rfl rfl rfl rfl) ?_;rintro y_ hy_;refine ok_ne [(1,_),(2,_),(3,_)] ⟨rfl,rfl,rfl,trivial⟩ ?_)
    | (refine ok_region (i := 5) ?_;refine ok_p rfl rfl rfl (by exact ps_field rfl rfl (isw_ga _)) ?_;refine ok_p rfl rfl rfl (by exact ps_loads rfl rfl (by exact rds_box 2 rfl) rfl rfl (by decide)) ?_;refine ok_m rfl rfl rfl (by exact ms_c1 rfl rfl (fun _ _ w hw => toEng_c t.e w (HR.out.le (hw.wle List.mem_cons_self)) HB.out)) ?_;rintro y15 hy15;refine ok_p rfl rfl rfl (by exact ps_field rfl rfl (isw_ga _)) ?_;refine ok_m_ rfl rfl (by exact ms_store 4 rfl rfl rfl rfl rfl rfl rfl rfl) ?_;rintro y_ hy_;refine ok_ne [(2,_),(3,_)] ⟨rfl,rfl,trivial⟩ ?_)
    | (refine ok_region (i := 6) ?_;refine ok_p rfl rfl rfl (by exact ps_loads rfl rfl (by exact rds_box 4 rfl) rfl rfl (by decide)) ?_;refine ok_m_ rfl rfl (by exact ms_store 5 rfl rfl rfl rfl rfl rfl rfl rfl) ?_;rintro y_ hy_;refine ok_ne [(2,_)] ⟨rfl,trivial⟩ ?_))
  refine ok_endL (vs := [_]) rfl ⟨⟨_,5,_,_,_,rfl,rfl,inferInstance,rfl,rfl⟩,trivial⟩ (fun w' hw => ⟨y15,?_,trivial,hw.below,NewOk.of (hw.sel [0,1,2,3] (by decide) rfl (G' := []) (fun _ h => by cases h))⟩)
  rw [tenY_cells];rfl
@[reducible] def encOf {α β : Type} [Enc β] (f : α → β) (g : β → α) (h : ∀ x,g (f x) = x) : Enc α := ⟨fun x => Enc.toV (f x),fun v => g (Enc.ofV v),fun x => by rw [Enc.rt,h]⟩
instance : Enc (Option Addr) := ⟨fun A => .slice A 0 0,fun v => match v with
  | .slice A _ _ => A
  | _ => none,fun _ => rfl⟩
instance : Enc Nat := ⟨fun n => .int .i64 n,fun v => (asI v).toNat,fun n => Int.toNat_natCast n⟩
@[reducible] instance encPl {α : Type} [Enc α] : Enc (Pl α) := encOf (β := Option Addr × (Nat × List α)) (fun p => (p.A,(p.c,p.l))) (fun q => ⟨q.1,q.2.1,q.2.2⟩) (fun _ => rfl)
@[reducible] instance encLE : Enc LE := encOf (β := List Ent × (Option Addr × Nat)) (fun l => (l.d,(l.A,l.c))) (fun q => ⟨q.1,q.2.1,q.2.2⟩) (fun _ => rfl)
@[reducible] instance encEng : Enc LEng := encOf (β := Pl Ent × (Pl LE × (Int × Pl Int))) (fun e => (e.mem,(e.tab,(e.seq,e.snaps)))) (fun q => ⟨q.1,q.2.1,q.2.2.1,q.2.2.2⟩) (fun _ => rfl)
@[reducible] instance encTen : Enc LTen := encOf (β := Int × (Int × (Int × LEng))) (fun t => (t.id,(t.ep,(t.ba,t.e)))) (fun q => ⟨q.1,q.2.1,q.2.2.1,q.2.2.2⟩) (fun _ => rfl)
@[reducible] instance encSlot : Enc KeySlot := encOf (β := Int × ByteArray) (fun k => (k.ten,k.key)) (fun q => ⟨q.1,q.2⟩) (fun _ => rfl)
@[reducible] instance encShare : Enc Share := encOf (β := Int × Int) (fun k => (k.ten,k.quo)) (fun q => ⟨q.1,q.2⟩) (fun _ => rfl)
@[reducible] instance encLog : Enc LogRow := encOf (β := Int × (Int × (Int × (ByteArray × Bool)))) (fun k => (k.ten,(k.boot,(k.seq,(k.txt,k.syn))))) (fun q => ⟨q.1,q.2.1,q.2.2.1,q.2.2.2.1,q.2.2.2.2⟩) (fun _ => rfl)
@[reducible] instance encKeys : Enc LKeys := encOf (β := ByteArray × (Pl KeySlot × Int)) (fun k => (k.master,(k.slots,k.wiped))) (fun q => ⟨q.1,q.2.1,q.2.2⟩) (fun _ => rfl)
@[reducible] instance encShares : Enc LShares := encOf (β := Int × Pl Share) (fun k => (k.size,k.list)) (fun q => ⟨q.1,q.2⟩) (fun _ => rfl)
@[reducible] instance encStore : Enc LStore := encOf (β := ByteArray × (LKeys × (LShares × (Pl LTen × (Pl LogRow × (Pl LogRow × Int)))))) (fun s => (s.secret,(s.keys,(s.shares,(s.tens,(s.rows,(s.hist,s.boot))))))) (fun q => ⟨q.1,q.2.1,q.2.2.1,q.2.2.2.1,q.2.2.2.2.1,q.2.2.2.2.2.1,q.2.2.2.2.2.2⟩) (fun _ => rfl)
theorem memR_snoc (l : List LTen) (t : LTen) : memR (l ++ [t]) = memR l ++ [⟨t.e.mem.A,t.e.mem.l.length,t.e.mem.c,fl t.e.mem.l⟩] := by simp [memR]
theorem outR_snoc (l : List LTen) (t : LTen) : outR (l ++ [t]) = outR l ++ [⟨t.e.tab.A,t.e.tab.l.length,t.e.tab.c,fl t.e.tab.l⟩] := by simp [outR]
theorem tabR_snoc (l : List LTen) (t : LTen) : tabR (l ++ [t]) = tabR l ++ rowsOf t.e.tab.l := by simp [tabR]
theorem snpR_snoc (l : List LTen) (t : LTen) : snpR (l ++ [t]) = snpR l ++ [⟨t.e.snaps.A,t.e.snaps.l.length,t.e.snaps.c,fl t.e.snaps.l⟩] := by simp [snpR]
/-- Tenants as a result: the row's place behind them. -/
def yT (y : Ys) : List LTen := yE (y 0)
def mkT (l : List LTen) (A : Option Addr) (c : Nat) (w : World) : Ys := fun i => if i = 0 then ⟨none,0,eW l w,0⟩ else ⟨A,c,w,0⟩
theorem yT_mk (l : List LTen) (A : Option Addr) (c : Nat) (w : World) : yT (mkT l A c w) = l := yE_mk none 0 l w 0
def tensObj (A : Option Addr) (c : Nat) (l : List LTen) : List HObj := [.row 90 7 A l.length c (fl l),.bag 204 4 (memR l),.bag 85 1 (outR l),.bag 204 4 (tabR l),.bag 3 1 (snpR l)]
theorem toSTenS_c (A : Option Addr) (c : Nat) (l : List LTen) (w : World) (h : Rd w A (fl l)) (hr : tensRd w l) (hl : l.length ≤ 1048576) (hb : ∀ k,k < l.length → engWt (nth l k).e) :
    Calls Tryz.prog 43 #[.slice A l.length c] w fun e' w' => ∃ y : Ys,e' = .returned (.slice (y 1).A (yT y).length (y 1).c) ∧ (yT y).map LTen.d = l.map LTen.d ∧ Below w.heap.size w w' ∧ NewOk w.heap.size (tensObj (y 1).A (y 1).c (yT y)) [] w' := by
  have HR := Lib.hid hr;clear hr
  have HB := Lib.hid hb;clear hb
  refine ok_enter 23 Tryz.func43 rfl rfl rfl ?_
  repeat' (first
    | refine ok_seq ?_
    | refine ok_then ?_
    | refine ok_block ?_
    | (refine ok_region (i := 0) ?_;refine ok_p rfl rfl rfl (ps_assign rfl rfl) ?_;refine ok_ne [(0,_)] ⟨rfl,trivial⟩ ?_)
    | (refine ok_region (i := 1) ?_;refine ok_p rfl rfl rfl (ps_move rfl rfl) ?_;refine ok_p rfl rfl rfl (by exact ps_len rfl rfl) ?_;refine ok_m rfl rfl rfl (by exact ms_make (z := Dat.cells (Dat.dflt : LTen)) rfl rfl rfl (by omega) (by omega)) ?_;rintro y7 hy7;refine ok_p rfl rfl rfl (ps_assign rfl rfl) ?_;refine ok_ne [(0,_),(3,_)] ⟨rfl,rfl,trivial⟩ ?_)
    | (refine ok_region (i := 2) ?_;refine ok_p rfl rfl rfl (ps_assign rfl rfl) ?_;refine ok_ne [(0,_),(3,_),(4,_)] ⟨rfl,rfl,rfl,trivial⟩ ?_))
  rw [show (madeCells (Dat.cells (Dat.dflt : LTen)).toArray (l.length * 7)).toList = fl (List.replicate l.length (Dat.dflt : LTen)) from made_fl (Dat.dflt : LTen) l.length]
  refine ok_loop (ι := { p : List LTen // p.length ≤ l.length ∧ p.map LTen.d = (l.take p.length).map LTen.d }) (fun p => l.length - p.1.length) (fun p => ([(0,.slice A l.length c),(3,.slice (ga (y7 0).c) l.length l.length),(4,.int .i64 p.1.length)],[.bag 204 4 (memR p.1),.bag 85 1 (outR p.1),.bag 204 4 (tabR p.1),.bag 3 1 (snpR p.1),.row 90 7 (ga (y7 0).c) l.length l.length (fl (p.1 ++ List.replicate (l.length - p.1.length) (Dat.dflt : LTen)))],_)) ⟨[],by simp,by simp⟩ (fun a w he hw => ⟨⟨[],by simp,by simp⟩,he.sub ⟨rfl,rfl,rfl,trivial⟩,by
    have := ((((hw.bag_nil 3 1).bag_nil 204 4).bag_nil 85 1).bag_nil 204 4)
    simpa [memR,outR,tabR,snpR] using this⟩) ?_
  rintro ⟨p,hp,hd⟩
  simp only at hp hd ⊢
  have HD := Lib.hid hd;clear hd
  repeat' (first
    | refine ok_seq ?_
    | refine ok_then ?_
    | refine ok_block ?_
    | refine ok_in_normal ?_
    | (refine ok_cond rfl (fun hc => ?_) (fun hc => ?_) <;> (have hd := hc;(try simp only [jA,jB,jC,jD,jE,jF,jG,jH,jI,jJ,jK,jL,jM,jN,jO,jP,jQ,jR,jS] at hd)))
    | refine ok_ret ?_
    | refine ok_exit ?_
    | refine ok_skip ?_
    | (refine ok_region (i := 3) ?_;refine ok_p rfl rfl rfl (ps_move rfl rfl) ?_;refine ok_p rfl rfl rfl (ps_move rfl rfl) ?_;refine ok_p rfl rfl rfl (by exact ps_len rfl rfl) ?_;refine ok_p rfl rfl rfl (by exact ps_int rfl rfl rfl rfl) ?_;refine ok_ne [(0,_),(3,_),(4,_),(11,_)] ⟨rfl,rfl,rfl,rfl,trivial⟩ ?_)
    | (refine ok_region (i := 4) ?_;refine ok_p rfl rfl rfl (ps_move rfl rfl) ?_;refine ok_p rfl rfl rfl (by exact ps_add rfl rfl rfl (by omega)) ?_;refine ok_p rfl rfl rfl (ps_assign rfl rfl) ?_;refine ok_ne [(0,_),(3,_),(4,_)] ⟨rfl,rfl,rfl,trivial⟩ ?_)
    | (refine ok_region (i := 5) ?_;refine ok_p rfl rfl rfl (ps_move rfl rfl) ?_;refine ok_p rfl rfl rfl (ps_move rfl rfl) ?_;refine ok_p rfl rfl rfl (ps_move rfl rfl) ?_;refine ok_p rfl rfl rfl (ps_move rfl rfl) ?_;refine ok_p rfl rfl rfl (by exact ps_indexN rfl rfl rfl (by omega) (by exact isw_of (isS_fl (by assumption) (by omega)))) ?_;refine ok_p rfl rfl rfl (by exact ps_loads (vs := Dat.cells (nth l p.length)) rfl rfl (rds_rf h List.mem_cons_self) (fl_sub l p.length (by omega)) (Dat.len (nth l p.length)) (by decide)) ?_;refine ok_m rfl rfl rfl (by exact ms_c1 rfl rfl (fun _ _ w hw => toSTen_c (nth l p.length) w ((HR.out p.length (by omega)).le (hw.wle List.mem_cons_self)) (HB.out _ (by omega)))) ?_;rintro y20 hy20;refine ok_p rfl rfl rfl (by exact ps_indexN rfl rfl rfl (by omega) (isw_ga _)) ?_;refine ok_m_ rfl rfl (by exact ms_setw 8 p.length (tenY (nth l p.length).d y20) rfl rfl rfl rfl rfl rfl rfl rfl rfl (by simp;omega)) ?_;rintro y_ hy_;refine ok_ne [(0,_),(3,_),(4,_)] ⟨rfl,rfl,rfl,trivial⟩ ?_)
    | (refine ok_region (i := 6) ?_;refine ok_p rfl rfl rfl (ps_move rfl rfl) ?_;refine ok_p rfl rfl rfl (ps_assign rfl rfl) ?_;refine ok_ne [(2,_)] ⟨rfl,trivial⟩ ?_))
  · refine fun a w' he hw => ⟨⟨p ++ [tenY (nth l p.length).d y20],by simp;omega,?_⟩,by simp;omega,he.sub ⟨rfl,rfl,by simp;rfl,trivial⟩,?_⟩
    · rw [List.map_append,HD.out,List.length_append,List.length_singleton,takeG (by omega),List.map_append]
      congr 1
      show [(tenY (nth l p.length).d y20).d] = [(nth l p.length).d]
      rw [tenY_d]
    · obtain ⟨m,hm⟩ : ∃ m,l.length - p.length = m + 1 := ⟨l.length - p.length - 1,by omega⟩
      rw [hm,fillP] at hw
      have e2 : l.length - (p ++ [tenY (nth l p.length).d y20]).length = m := by rw [List.length_append,List.length_singleton];omega
      simp only [e2]
      rw [memR_snoc,outR_snoc,tabR_snoc,snpR_snoc]
      simp only [locs_len]
      have q1 := (hw.sel [0,4,1,5,2,6,3,7,8] (by decide) rfl (fun _ h => h)).absorb
      have q2 := (q1.sel [1,2,3,4,5,6,7,0] (by decide) rfl (fun _ h => h)).absorb
      have q3 := (q2.sel [1,2,3,4,5,6,0] (by decide) rfl (fun _ h => h)).join
      have q4 := (q3.sel [1,2,3,4,5,0] (by decide) rfl (fun _ h => h)).absorb
      exact q4.sel [2,3,4,0,1] (by decide) rfl (fun _ h => h)
  · have hpl : p.length = l.length := by omega
    have hdp : p.map LTen.d = l.map LTen.d := by rw [HD.out,hpl,List.take_length]
    refine ok_endL (vs := [_]) rfl ⟨rfl,trivial⟩ (fun w' hw => ⟨mkT p (ga (y7 0).c) l.length w,?_,?_,hw.below,?_⟩)
    · rw [yT_mk,hpl];rfl
    · rw [yT_mk];exact hdp
    · rw [yT_mk]
      have := NewOk.of (hw.sel [4,0,1,2,3] (by decide) rfl (G' := []) (fun _ h => by cases h))
      rw [hpl,Nat.sub_self,List.replicate_zero,List.append_nil] at this
      unfold tensObj
      rw [hpl]
      exact this
theorem toKeyDev_c (m : ByteArray) (A : Option Addr) (c : Nat) (l : List KeySlot) (wi : Int) (w : World) (h : Rd w A (fl l)) (hl : l.length ≤ 1048576) :
    Calls Tryz.prog 41 #[.agg #[.string m,.slice A l.length c,.int .i64 wi]] w fun e' w' => ∃ y : Ys,e' = .returned (.agg #[.string m,.slice (y 0).A l.length (y 0).c,.int .i64 wi]) ∧ True ∧ Below w.heap.size w w' ∧ NewOk w.heap.size [.row 99 2 (y 0).A l.length (y 0).c (fl l)] [] w' := by
  refine ok_enter 15 Tryz.func41 rfl rfl rfl ?_
  repeat' (first
    | refine ok_seq ?_
    | refine ok_then ?_
    | refine ok_ret ?_
    | (refine ok_region (i := 0) ?_;refine ok_m rfl rfl rfl (by exact ms_box rfl rfl rfl) ?_;rintro y1 hy1;refine ok_m rfl rfl rfl (by exact ms_alloc rfl) ?_;rintro y2 hy2;refine ok_ne [(1,_),(2,_)] ⟨rfl,rfl,trivial⟩ ?_)
    | (refine ok_region (i := 1) ?_;refine ok_m rfl rfl rfl (by exact ms_alloc rfl) ?_;rintro y3 hy3;refine ok_ne [(1,_),(2,_),(3,_)] ⟨rfl,rfl,rfl,trivial⟩ ?_)
    | (refine ok_region (i := 2) ?_;refine ok_p rfl rfl rfl (by exact ps_field rfl rfl (isw_ga _)) ?_;refine ok_p rfl rfl rfl (by exact ps_load rfl rfl (by exact Rds.cell (rds_box 2 rfl) rfl)) ?_;refine ok_p rfl rfl rfl (by exact ps_field rfl rfl (isw_ga _)) ?_;refine ok_m_ rfl rfl (by exact ms_store 0 rfl rfl rfl rfl rfl rfl rfl rfl) ?_;rintro y_ hy_;refine ok_ne [(1,_),(2,_),(3,_)] ⟨rfl,rfl,rfl,trivial⟩ ?_)
    | (refine ok_region (i := 3) ?_;refine ok_p rfl rfl rfl (by exact ps_field rfl rfl (isw_ga _)) ?_;refine ok_p rfl rfl rfl (by exact ps_load rfl rfl (by exact Rds.cell (rds_box 2 rfl) rfl)) ?_;refine ok_m rfl rfl rfl (by exact ms_c1 rfl rfl (fun _ _ w hw => toKeySlotS_c A c l w (rds_rf h List.mem_cons_self _ _ w hw) hl)) ?_;rintro y9 hy9;refine ok_p rfl rfl rfl (by exact ps_field rfl rfl (isw_ga _)) ?_;refine ok_m_ rfl rfl (by exact ms_store 1 rfl rfl rfl rfl rfl rfl rfl rfl) ?_;rintro y_ hy_;refine ok_ne [(1,_),(2,_),(3,_)] ⟨rfl,rfl,rfl,trivial⟩ ?_)
    | (refine ok_region (i := 4) ?_;refine ok_p rfl rfl rfl (by exact ps_field rfl rfl (isw_ga _)) ?_;refine ok_p rfl rfl rfl (by exact ps_load rfl rfl (by exact Rds.cell (rds_box 3 rfl) rfl)) ?_;refine ok_p rfl rfl rfl (by exact ps_field rfl rfl (isw_ga _)) ?_;refine ok_m_ rfl rfl (by exact ms_store 1 rfl rfl rfl rfl rfl rfl rfl rfl) ?_;rintro y_ hy_;refine ok_ne [(2,_),(3,_)] ⟨rfl,rfl,trivial⟩ ?_)
    | (refine ok_region (i := 5) ?_;refine ok_p rfl rfl rfl (by exact ps_loads rfl rfl (by exact rds_box 1 rfl) rfl rfl (by decide)) ?_;refine ok_m_ rfl rfl (by exact ms_store 2 rfl rfl rfl rfl rfl rfl rfl rfl) ?_;rintro y_ hy_;refine ok_ne [(2,_)] ⟨rfl,trivial⟩ ?_))
  exact ok_endL (vs := [_]) rfl ⟨⟨_,2,_,_,_,rfl,rfl,inferInstance,rfl,rfl⟩,trivial⟩ (fun w' hw => ⟨y9,rfl,trivial,hw.below,NewOk.of (hw.sel [0] (by decide) rfl (G' := []) (fun _ h => by cases h))⟩)
theorem toShares_c (sz : Int) (A : Option Addr) (c : Nat) (l : List Share) (w : World) (h : Rd w A (fl l)) (hl : l.length ≤ 1048576) :
    Calls Tryz.prog 42 #[.agg #[.int .i64 sz,.slice A l.length c]] w fun e' w' => ∃ y : Ys,e' = .returned (.agg #[.int .i64 sz,.slice (y 0).A l.length (y 0).c]) ∧ True ∧ Below w.heap.size w w' ∧ NewOk w.heap.size [.row 101 2 (y 0).A l.length (y 0).c (fl l)] [] w' := by
  refine ok_enter 12 Tryz.func42 rfl rfl rfl ?_
  repeat' (first
    | refine ok_seq ?_
    | refine ok_then ?_
    | refine ok_ret ?_
    | (refine ok_region (i := 0) ?_;refine ok_m rfl rfl rfl (by exact ms_box rfl rfl rfl) ?_;rintro y1 hy1;refine ok_m rfl rfl rfl (by exact ms_alloc rfl) ?_;rintro y2 hy2;refine ok_ne [(1,_),(2,_)] ⟨rfl,rfl,trivial⟩ ?_)
    | (refine ok_region (i := 1) ?_;refine ok_m rfl rfl rfl (by exact ms_alloc rfl) ?_;rintro y3 hy3;refine ok_ne [(1,_),(2,_),(3,_)] ⟨rfl,rfl,rfl,trivial⟩ ?_)
    | (refine ok_region (i := 2) ?_;refine ok_p rfl rfl rfl (by exact ps_field rfl rfl (isw_ga _)) ?_;refine ok_p rfl rfl rfl (by exact ps_load rfl rfl (by exact Rds.cell (rds_box 2 rfl) rfl)) ?_;refine ok_p rfl rfl rfl (by exact ps_field rfl rfl (isw_ga _)) ?_;refine ok_m_ rfl rfl (by exact ms_store 0 rfl rfl rfl rfl rfl rfl rfl rfl) ?_;rintro y_ hy_;refine ok_ne [(1,_),(2,_),(3,_)] ⟨rfl,rfl,rfl,trivial⟩ ?_)
    | (refine ok_region (i := 3) ?_;refine ok_p rfl rfl rfl (by exact ps_field rfl rfl (isw_ga _)) ?_;refine ok_p rfl rfl rfl (by exact ps_load rfl rfl (by exact Rds.cell (rds_box 2 rfl) rfl)) ?_;refine ok_m rfl rfl rfl (by exact ms_c1 rfl rfl (fun _ _ w hw => toShareS_c A c l w (rds_rf h List.mem_cons_self _ _ w hw) hl)) ?_;rintro y9 hy9;refine ok_p rfl rfl rfl (by exact ps_field rfl rfl (isw_ga _)) ?_;refine ok_m_ rfl rfl (by exact ms_store 1 rfl rfl rfl rfl rfl rfl rfl rfl) ?_;rintro y_ hy_;refine ok_ne [(2,_),(3,_)] ⟨rfl,rfl,trivial⟩ ?_)
    | (refine ok_region (i := 4) ?_;refine ok_p rfl rfl rfl (by exact ps_loads rfl rfl (by exact rds_box 1 rfl) rfl rfl (by decide)) ?_;refine ok_m_ rfl rfl (by exact ms_store 2 rfl rfl rfl rfl rfl rfl rfl rfl) ?_;rintro y_ hy_;refine ok_ne [(2,_)] ⟨rfl,trivial⟩ ?_))
  exact ok_endL (vs := [_]) rfl ⟨⟨_,2,_,_,_,rfl,rfl,inferInstance,rfl,rfl⟩,trivial⟩ (fun w' hw => ⟨y9,rfl,trivial,hw.below,NewOk.of (hw.sel [0] (by decide) rfl (G' := []) (fun _ h => by cases h))⟩)
/-- A store as a result. -/
def yS5 (y : Ys) : LStore := yE (y 0)
def mkS5 (s : LStore) (w : World) : Ys := fun _ => ⟨none,0,eW s w,0⟩
theorem yS5_mk (s : LStore) (w : World) : yS5 (mkS5 s w) = s := yE_mk none 0 s w 0
theorem toStore_c (s : LStore) (w : World) (h : s.rd w) (hb : stWt s) :
    Calls Tryz.prog 10 #[s.val] w fun e' w' => ∃ y : Ys,e' = .returned (yS5 y).val ∧ (yS5 y).d = s.d ∧ Below w.heap.size w w' ∧ NewOk w.heap.size (stObj (yS5 y)) [] w' := by
  obtain ⟨sec,⟨mk,⟨kA,kc,slots⟩,wi⟩,⟨ssz,⟨shA,shc,shl⟩⟩,⟨tnA,tnc,tens⟩,⟨rA,rc,rows⟩,⟨hA,hcc,hist⟩,bo⟩ := s
  obtain ⟨h1,h2,h3,h4,h5,h6⟩ := h
  obtain ⟨b1,b2,b3,b4,b5,b6,b7⟩ := hb
  simp only [LKeys.rd,LShares.rd] at h1 h2 h3 h4 h5 h6 b1 b2 b3 b4 b5 b6 b7
  have B4 := Lib.hid b4;clear b4
  have H4 := Lib.hid h4;clear h4
  clear b6
  show Calls Tryz.prog 10 #[.agg #[.string sec,.string mk,.slice kA slots.length kc,.int .i64 wi,.int .i64 ssz,.slice shA shl.length shc,.slice tnA tens.length tnc,.slice rA rows.length rc,.slice hA hist.length hcc,.int .i64 bo]] w _
  refine ok_enter 31 Tryz.func10 rfl rfl rfl ?_
  repeat' (first
    | refine ok_seq ?_
    | (refine ok_region (i := 0) ?_;refine ok_m rfl rfl rfl (by exact ms_box rfl rfl rfl) ?_;rintro y1 hy1;refine ok_m rfl rfl rfl (by exact ms_alloc rfl) ?_;rintro y2 hy2;refine ok_ne [(1,_),(2,_)] ⟨rfl,rfl,trivial⟩ ?_)
    | (refine ok_region (i := 1) ?_;refine ok_m rfl rfl rfl (by exact ms_alloc rfl) ?_;rintro y3 hy3;refine ok_ne [(1,_),(2,_),(3,_)] ⟨rfl,rfl,rfl,trivial⟩ ?_)
    | (refine ok_region (i := 2) ?_;refine ok_p rfl rfl rfl (by exact ps_field rfl rfl (isw_ga _)) ?_;refine ok_p rfl rfl rfl (by exact ps_load rfl rfl (by exact Rds.cell (rds_box 2 rfl) rfl)) ?_;refine ok_p rfl rfl rfl (by exact ps_field rfl rfl (isw_ga _)) ?_;refine ok_m_ rfl rfl (by exact ms_store 0 rfl rfl rfl rfl rfl rfl rfl rfl) ?_;rintro y_ hy_;refine ok_ne [(1,_),(2,_),(3,_)] ⟨rfl,rfl,rfl,trivial⟩ ?_)
    | (refine ok_region (i := 3) ?_;refine ok_p rfl rfl rfl (by exact ps_field rfl rfl (isw_ga _)) ?_;refine ok_p rfl rfl rfl (by exact ps_loads rfl rfl (by exact rds_box 2 rfl) rfl rfl (by decide)) ?_;refine ok_m rfl rfl rfl (by exact ms_c1 rfl rfl (fun _ _ w hw => toKeyDev_c mk kA kc slots wi w (rds_rf h1 List.mem_cons_self _ _ w hw) b1)) ?_;rintro y9 hy9;refine ok_p rfl rfl rfl (by exact ps_field rfl rfl (isw_ga _)) ?_;refine ok_m_ rfl rfl (by exact ms_store 1 rfl rfl rfl rfl rfl rfl rfl rfl) ?_;rintro y_ hy_;refine ok_ne [(1,_),(2,_),(3,_)] ⟨rfl,rfl,rfl,trivial⟩ ?_)
    | (refine ok_region (i := 4) ?_;refine ok_p rfl rfl rfl (by exact ps_field rfl rfl (isw_ga _)) ?_;refine ok_p rfl rfl rfl (by exact ps_loads rfl rfl (by exact rds_box 3 rfl) rfl rfl (by decide)) ?_;refine ok_m rfl rfl rfl (by exact ms_c1 rfl rfl (fun _ _ w hw => toShares_c ssz shA shc shl w (rds_rf h2 List.mem_cons_self _ _ w hw) b2)) ?_;rintro y13 hy13;refine ok_p rfl rfl rfl (by exact ps_field rfl rfl (isw_ga _)) ?_;refine ok_m_ rfl rfl (by exact ms_store 2 rfl rfl rfl rfl rfl rfl rfl rfl) ?_;rintro y_ hy_;refine ok_ne [(1,_),(2,_),(3,_)] ⟨rfl,rfl,rfl,trivial⟩ ?_)
    | (refine ok_region (i := 5) ?_;refine ok_p rfl rfl rfl (by exact ps_field rfl rfl (isw_ga _)) ?_;refine ok_p rfl rfl rfl (by exact ps_load rfl rfl (by exact Rds.cell (rds_box 4 rfl) rfl)) ?_;refine ok_m rfl rfl rfl (by exact ms_c1 rfl rfl (fun _ _ w hw => toSTenS_c tnA tnc tens w (rds_rf h3 List.mem_cons_self _ _ w hw) (H4.out.le (hw.wle List.mem_cons_self)) b3 B4.out)) ?_;rintro y17 hy17;refine ok_p rfl rfl rfl (by exact ps_field rfl rfl (isw_ga _)) ?_;refine ok_m_ rfl rfl (by exact ms_store 7 rfl rfl rfl rfl rfl rfl rfl rfl) ?_;rintro y_ hy_;refine ok_ne [(1,_),(2,_),(3,_)] ⟨rfl,rfl,rfl,trivial⟩ ?_))
  refine ok_sel [0,1,2,3,4,5,6,7,8,9] (by decide) (H' := [.row 90 7 (y17 1).A (yT y17).length (y17 1).c (fl (yT y17)),.bag 204 4 (memR (yT y17)),.bag 85 1 (outR (yT y17)),.bag 204 4 (tabR (yT y17)),.bag 3 1 (snpR (yT y17)),.row 101 2 (y13 0).A shl.length (y13 0).c (fl shl),.row 99 2 (y9 0).A slots.length (y9 0).c (fl slots),.box (y3 0).c 43 [.string sec,.string mk,.slice (y9 0).A slots.length (y9 0).c,.int .i64 wi,.int .i64 ssz,.slice (y13 0).A shl.length (y13 0).c,.slice (y17 1).A (yT y17).length (y17 1).c,.slice none 0 0,.slice none 0 0,.int .i64 0],.box (y2 0).c 43 [.string ⟨#[]⟩,.string ⟨#[]⟩,.slice none 0 0,.int .i64 0,.int .i64 0,.slice none 0 0,.slice none 0 0,.slice none 0 0,.slice none 0 0,.int .i64 0],.box (y1 0).c 31 [.string sec,.string mk,.slice kA slots.length kc,.int .i64 wi,.int .i64 ssz,.slice shA shl.length shc,.slice tnA tens.length tnc,.slice rA rows.length rc,.slice hA hist.length hcc,.int .i64 bo]]) rfl ?_
  repeat' (first
    | refine ok_seq ?_
    | refine ok_then ?_
    | refine ok_ret ?_
    | (refine ok_region (i := 6) ?_;refine ok_p rfl rfl rfl (by exact ps_field rfl rfl (isw_ga _)) ?_;refine ok_p rfl rfl rfl (by exact ps_load rfl rfl (by exact Rds.cell (rds_box 9 rfl) rfl)) ?_;refine ok_m rfl rfl rfl (by exact ms_c1 rfl rfl (fun _ _ w hw => toLogRowS_c rA rc rows w (rds_rf h5 List.mem_cons_self _ _ w hw) b5)) ?_;rintro y21 hy21;refine ok_p rfl rfl rfl (by exact ps_field rfl rfl (isw_ga _)) ?_;refine ok_m_ rfl rfl (by exact ms_store 8 rfl rfl rfl rfl rfl rfl rfl rfl) ?_;rintro y_ hy_;refine ok_ne [(1,_),(2,_),(3,_)] ⟨rfl,rfl,rfl,trivial⟩ ?_)
    | (refine ok_region (i := 7) ?_;refine ok_p rfl rfl rfl (by exact ps_field rfl rfl (isw_ga _)) ?_;refine ok_p rfl rfl rfl (by exact ps_load rfl rfl (by exact Rds.cell (rds_box 10 rfl) rfl)) ?_;refine ok_m rfl rfl rfl (by exact ms_c1 rfl rfl (fun _ _ w hw => toLogRowS_c hA hcc hist w (rds_rf h6 List.mem_cons_self _ _ w hw) b7)) ?_;rintro y25 hy25;refine ok_p rfl rfl rfl (by exact ps_field rfl rfl (isw_ga _)) ?_;refine ok_m_ rfl rfl (by exact ms_store 9 rfl rfl rfl rfl rfl rfl rfl rfl) ?_;rintro y_ hy_;refine ok_ne [(1,_),(2,_),(3,_)] ⟨rfl,rfl,rfl,trivial⟩ ?_)
    | (refine ok_region (i := 8) ?_;refine ok_p rfl rfl rfl (by exact ps_field rfl rfl (isw_ga _)) ?_;refine ok_p rfl rfl rfl (by exact ps_load rfl rfl (by exact Rds.cell (rds_box 11 rfl) rfl)) ?_;refine ok_p rfl rfl rfl (by exact ps_field rfl rfl (isw_ga _)) ?_;refine ok_m_ rfl rfl (by exact ms_store 9 rfl rfl rfl rfl rfl rfl rfl rfl) ?_;rintro y_ hy_;refine ok_ne [(2,_),(3,_)] ⟨rfl,rfl,trivial⟩ ?_)
    | (refine ok_region (i := 9) ?_;refine ok_p rfl rfl rfl (by exact ps_loads rfl rfl (by exact rds_box 9 rfl) rfl rfl (by decide)) ?_;refine ok_m_ rfl rfl (by exact ms_store 10 rfl rfl rfl rfl rfl rfl rfl rfl) ?_;rintro y_ hy_;refine ok_ne [(2,_)] ⟨rfl,trivial⟩ ?_))
  refine ok_endL (vs := [_]) rfl ⟨⟨_,10,_,_,_,rfl,rfl,inferInstance,rfl,rfl⟩,trivial⟩ (fun w' hw => ⟨mkS5 ⟨sec,⟨mk,⟨(y9 0).A,(y9 0).c,slots⟩,wi⟩,⟨ssz,⟨(y13 0).A,(y13 0).c,shl⟩⟩,⟨(y17 1).A,(y17 1).c,yT y17⟩,⟨(y21 0).A,(y21 0).c,rows⟩,⟨(y25 0).A,(y25 0).c,hist⟩,bo⟩ w',?_,?_,hw.below,?_⟩)
  · rw [yS5_mk];rfl
  · rw [yS5_mk];simp only [LStore.d];rw [hy17]
  · rw [yS5_mk];exact NewOk.of (hw.sel [8,7,2,3,4,5,6,1,0] (by decide) rfl (G' := []) (fun _ h => by cases h))
theorem engWt.of_d {e e' : LEng} (h : e'.d = e.d) (hw : engWt e) : engWt e' := by
  obtain ⟨⟨mA,mc,mem⟩,⟨tA,tc,R⟩,seq,⟨sA,sc,sn⟩⟩ := e
  obtain ⟨⟨nA,nc,mem'⟩,⟨uA,uc,S⟩,seq',⟨vA,vc,sn'⟩⟩ := e'
  simp only [LEng.d,DEng.mk.injEq] at h
  obtain ⟨rfl,h2,rfl,rfl⟩ := h
  obtain ⟨b1,b2,b3,b4⟩ := hw
  refine ⟨b1,?_,?_,b4⟩
  · simp only at b2 ⊢;rw [← dats_len,h2,dats_len];exact b2
  · simp only at b3 ⊢;rw [h2];exact b3
theorem eqEng_c (e e' : LEng) (hd : e'.d = e.d) (w : World) (h : e.rd w) (h' : e'.rd w) (hb : engWt e) :
    Calls Tryz.prog 154 #[e.val,e'.val] w fun r w' => r = .returned (.bool true) ∧ Below w.heap.size w w' := by
  obtain ⟨⟨mA,mc,mem⟩,⟨tA,tc,R⟩,seq,⟨sA,sc,sn⟩⟩ := e
  obtain ⟨⟨nA,nc,mem'⟩,⟨uA,uc,S⟩,seq',⟨vA,vc,sn'⟩⟩ := e'
  simp only [LEng.d,DEng.mk.injEq] at hd
  obtain ⟨rfl,hS,rfl,rfl⟩ := hd
  obtain ⟨h1,h2,h3⟩ := h
  obtain ⟨g1,g2,g3⟩ := h'
  obtain ⟨b1,b2,b3,b4⟩ := hb
  simp only at h1 h2 h3 g1 g2 g3 b1 b2 b3 b4
  have H2 := Lib.hid h2;clear h2
  have G2 := Lib.hid g2;clear g2
  have B3 := Lib.hid b3;clear b3
  show Calls Tryz.prog 154 #[.agg #[.slice mA mem'.length mc,.slice tA R.length tc,.int .i64 seq',.slice sA sn'.length sc],.agg #[.slice nA mem'.length nc,.slice uA S.length uc,.int .i64 seq',.slice vA sn'.length vc]] w _
  refine ok_enter 28 Tryz.func154 rfl rfl rfl ?_
  repeat' (first
    | refine ok_seq ?_
    | refine ok_then ?_
    | refine ok_then_ret ?_
    | (refine ok_cond rfl (fun hc => ?_) (fun hc => ?_) <;> (have hd := hc;(try simp only [jA,jB,jC,jD,jE,jF,jG,jH,jI,jJ,jK,jL,jM,jN,jO,jP,jQ,jR,jS] at hd)))
    | refine ok_ret ?_
    | refine ok_skip ?_
    | (refine ok_region (i := 0) ?_;refine ok_m rfl rfl rfl (by exact ms_box rfl rfl rfl) ?_;rintro y2 hy2;refine ok_m rfl rfl rfl (by exact ms_box rfl rfl rfl) ?_;rintro y3 hy3;refine ok_p rfl rfl rfl (ps_assign rfl rfl) ?_;refine ok_ne [(2,_),(3,_)] ⟨rfl,rfl,trivial⟩ ?_)
    | (refine ok_region (i := 1) ?_;refine ok_p rfl rfl rfl (by exact ps_field rfl rfl (isw_ga _)) ?_;refine ok_p rfl rfl rfl (by exact ps_load rfl rfl (by exact Rds.cell (rds_box 1 rfl) rfl)) ?_;refine ok_p rfl rfl rfl (by exact ps_field rfl rfl (isw_ga _)) ?_;refine ok_p rfl rfl rfl (by exact ps_load rfl rfl (by exact Rds.cell (rds_box 0 rfl) rfl)) ?_;refine ok_m rfl rfl rfl (by exact ms_s2 rfl rfl rfl (fun _ _ w hw => eqEntS_c mA nA mc nc mem' w (rds_rf h1 List.mem_cons_self _ _ w hw) (rds_rf g1 List.mem_cons_self _ _ w hw) (by omega))) ?_;rintro y9 hy9;refine ok_p rfl rfl rfl (by exact ps_not rfl rfl) ?_;refine ok_ne [(2,_),(3,_),(10,_)] ⟨rfl,rfl,rfl,trivial⟩ ?_)
    | (refine ok_region (i := 3) ?_;refine ok_p rfl rfl rfl (by exact ps_field rfl rfl (isw_ga _)) ?_;refine ok_p rfl rfl rfl (by exact ps_load rfl rfl (by exact Rds.cell (rds_box 1 rfl) rfl)) ?_;refine ok_p rfl rfl rfl (by exact ps_field rfl rfl (isw_ga _)) ?_;refine ok_p rfl rfl rfl (by exact ps_load rfl rfl (by exact Rds.cell (rds_box 0 rfl) rfl)) ?_;refine ok_m rfl rfl rfl (by exact ms_s2 rfl rfl rfl (fun _ _ w hw => eqEntSS_c tA uA tc uc R S hS w (RdN.keep hw H2.out List.mem_cons_self) (RdN.keep hw G2.out List.mem_cons_self) (by omega) (fun x hx => by have := B3.out x hx;omega))) ?_;rintro y15 hy15;refine ok_p rfl rfl rfl (by exact ps_not rfl rfl) ?_;refine ok_ne [(2,_),(3,_),(16,_)] ⟨rfl,rfl,rfl,trivial⟩ ?_)
    | (refine ok_region (i := 5) ?_;refine ok_p rfl rfl rfl (by exact ps_field rfl rfl (isw_ga _)) ?_;refine ok_p rfl rfl rfl (by exact ps_load rfl rfl (by exact Rds.cell (rds_box 1 rfl) rfl)) ?_;refine ok_p rfl rfl rfl (by exact ps_field rfl rfl (isw_ga _)) ?_;refine ok_p rfl rfl rfl (by exact ps_load rfl rfl (by exact Rds.cell (rds_box 0 rfl) rfl)) ?_;refine ok_p rfl rfl rfl (by exact ps_int rfl rfl rfl rfl) ?_;refine ok_ne [(2,_),(3,_),(21,_)] ⟨rfl,rfl,rfl,trivial⟩ ?_)
    | (refine ok_region (i := 6) ?_;refine ok_p rfl rfl rfl (ps_assign rfl rfl) ?_;refine ok_ne [(4,_)] ⟨rfl,trivial⟩ ?_)
    | (refine ok_region (i := 7) ?_;refine ok_p rfl rfl rfl (by exact ps_field rfl rfl (isw_ga _)) ?_;refine ok_p rfl rfl rfl (by exact ps_load rfl rfl (by exact Rds.cell (rds_box 1 rfl) rfl)) ?_;refine ok_p rfl rfl rfl (by exact ps_field rfl rfl (isw_ga _)) ?_;refine ok_p rfl rfl rfl (by exact ps_load rfl rfl (by exact Rds.cell (rds_box 0 rfl) rfl)) ?_;refine ok_m rfl rfl rfl (by exact ms_s2 rfl rfl rfl (fun _ _ w hw => eqIntS_c sA vA sc vc sn' w (rds_rf h3 List.mem_cons_self _ _ w hw) (rds_rf g3 List.mem_cons_self _ _ w hw) (by omega))) ?_;rintro y26 hy26;refine ok_p rfl rfl rfl (by exact ps_not rfl rfl) ?_;refine ok_ne [(27,_)] ⟨rfl,trivial⟩ ?_)
    | (refine ok_region (i := 9) ?_;refine ok_p rfl rfl rfl (ps_assign rfl rfl) ?_;refine ok_ne [(4,_)] ⟨rfl,trivial⟩ ?_))
  all_goals first
    | (exfalso;simp at hc;done)
    | exact ok_endL (vs := [_]) rfl ⟨rfl,trivial⟩ (fun w' hw => ⟨rfl,hw.below⟩)
theorem eqSTen_c (t t' : LTen) (hd : t'.d = t.d) (w : World) (h : t.e.rd w) (h' : t'.e.rd w) (hb : engWt t.e) :
    Calls Tryz.prog 101 #[.agg (Dat.cells t).toArray,.agg (Dat.cells t').toArray] w fun r w' => r = .returned (.bool true) ∧ Below w.heap.size w w' := by
  obtain ⟨id,ep,ba,e⟩ := t
  obtain ⟨id',ep',ba',e'⟩ := t'
  simp only [LTen.d,DTen.mk.injEq] at hd
  obtain ⟨rfl,rfl,rfl,he⟩ := hd
  have HR := Lib.hid h;clear h
  have HR' := Lib.hid h';clear h'
  have HB := Lib.hid hb;clear hb
  refine ok_enter 26 Tryz.func101 rfl rfl rfl ?_
  repeat' (first
    | refine ok_seq ?_
    | refine ok_then ?_
    | refine ok_then_ret ?_
    | (refine ok_cond rfl (fun hc => ?_) (fun hc => ?_) <;> (have hd := hc;(try simp only [jA,jB,jC,jD,jE,jF,jG,jH,jI,jJ,jK,jL,jM,jN,jO,jP,jQ,jR,jS] at hd)))
    | refine ok_ret ?_
    | refine ok_skip ?_
    | (refine ok_region (i := 0) ?_;refine ok_m rfl rfl rfl (by exact ms_box rfl rfl rfl) ?_;rintro y2 hy2;refine ok_m rfl rfl rfl (by exact ms_box rfl rfl rfl) ?_;rintro y3 hy3;refine ok_p rfl rfl rfl (ps_assign rfl rfl) ?_;refine ok_ne [(2,_),(3,_)] ⟨rfl,rfl,trivial⟩ ?_)
    | (refine ok_region (i := 1) ?_;refine ok_p rfl rfl rfl (by exact ps_field rfl rfl (isw_ga _)) ?_;refine ok_p rfl rfl rfl (by exact ps_load rfl rfl (by exact Rds.cell (rds_box 1 rfl) rfl)) ?_;refine ok_p rfl rfl rfl (by exact ps_field rfl rfl (isw_ga _)) ?_;refine ok_p rfl rfl rfl (by exact ps_load rfl rfl (by exact Rds.cell (rds_box 0 rfl) rfl)) ?_;refine ok_p rfl rfl rfl (by exact ps_int rfl rfl rfl rfl) ?_;refine ok_ne [(2,_),(3,_),(9,_)] ⟨rfl,rfl,rfl,trivial⟩ ?_)
    | (refine ok_region (i := 2) ?_;refine ok_p rfl rfl rfl (ps_assign rfl rfl) ?_;refine ok_ne [(4,_)] ⟨rfl,trivial⟩ ?_)
    | (refine ok_region (i := 3) ?_;refine ok_p rfl rfl rfl (by exact ps_field rfl rfl (isw_ga _)) ?_;refine ok_p rfl rfl rfl (by exact ps_load rfl rfl (by exact Rds.cell (rds_box 1 rfl) rfl)) ?_;refine ok_p rfl rfl rfl (by exact ps_field rfl rfl (isw_ga _)) ?_;refine ok_p rfl rfl rfl (by exact ps_load rfl rfl (by exact Rds.cell (rds_box 0 rfl) rfl)) ?_;refine ok_p rfl rfl rfl (by exact ps_int rfl rfl rfl rfl) ?_;refine ok_ne [(2,_),(3,_),(14,_)] ⟨rfl,rfl,rfl,trivial⟩ ?_)
    | (refine ok_region (i := 4) ?_;refine ok_p rfl rfl rfl (ps_assign rfl rfl) ?_;refine ok_ne [(4,_)] ⟨rfl,trivial⟩ ?_)
    | (refine ok_region (i := 5) ?_;refine ok_p rfl rfl rfl (by exact ps_field rfl rfl (isw_ga _)) ?_;refine ok_p rfl rfl rfl (by exact ps_load rfl rfl (by exact Rds.cell (rds_box 1 rfl) rfl)) ?_;refine ok_p rfl rfl rfl (by exact ps_field rfl rfl (isw_ga _)) ?_;refine ok_p rfl rfl rfl (by exact ps_load rfl rfl (by exact Rds.cell (rds_box 0 rfl) rfl)) ?_;refine ok_p rfl rfl rfl (by exact ps_int rfl rfl rfl rfl) ?_;refine ok_ne [(2,_),(3,_),(19,_)] ⟨rfl,rfl,rfl,trivial⟩ ?_)
    | (refine ok_region (i := 6) ?_;refine ok_p rfl rfl rfl (ps_assign rfl rfl) ?_;refine ok_ne [(4,_)] ⟨rfl,trivial⟩ ?_)
    | (refine ok_region (i := 7) ?_;refine ok_p rfl rfl rfl (by exact ps_field rfl rfl (isw_ga _)) ?_;refine ok_p rfl rfl rfl (by exact ps_loads rfl rfl (by exact rds_box 1 rfl) rfl rfl (by decide)) ?_;refine ok_p rfl rfl rfl (by exact ps_field rfl rfl (isw_ga _)) ?_;refine ok_p rfl rfl rfl (by exact ps_loads rfl rfl (by exact rds_box 0 rfl) rfl rfl (by decide)) ?_;refine ok_m rfl rfl rfl (by exact ms_s2 rfl rfl rfl (fun _ _ w hw => eqEng_c e e' he w (HR.out.le (hw.wle List.mem_cons_self)) (HR'.out.le (hw.wle List.mem_cons_self)) HB.out)) ?_;rintro y24 hy24;refine ok_p rfl rfl rfl (by exact ps_not rfl rfl) ?_;refine ok_ne [(25,_)] ⟨rfl,trivial⟩ ?_)
    | (refine ok_region (i := 9) ?_;refine ok_p rfl rfl rfl (ps_assign rfl rfl) ?_;refine ok_ne [(4,_)] ⟨rfl,trivial⟩ ?_))
  all_goals first
    | (exfalso;simp at hc;done)
    | exact ok_endL (vs := [_]) rfl ⟨rfl,trivial⟩ (fun w' hw => ⟨rfl,hw.below⟩)
theorem map_nth {l l' : List LTen} (h : l'.map LTen.d = l.map LTen.d) : l'.length = l.length ∧ ∀ k,k < l.length → (nth l' k).d = (nth l k).d := by
  have hl : l'.length = l.length := by have := congrArg List.length h;simpa using this
  refine ⟨hl,fun k hk => ?_⟩
  have := congrArg (fun x => x[k]?) h
  simp only [List.getElem?_map] at this
  simpa [nth,hk,hl] using this
theorem eqSTenS_c (A B : Option Addr) (c d : Nat) (l l' : List LTen) (hd : l'.map LTen.d = l.map LTen.d) (w : World) (h : Rd w A (fl l)) (h' : Rd w B (fl l')) (hr : tensRd w l) (hr' : tensRd w l') (hl : l.length ≤ 1048576) (hb : ∀ k,k < l.length → engWt (nth l k).e) :
    Calls Tryz.prog 49 #[.slice A l.length c,.slice B l'.length d] w fun r w' => r = .returned (.bool true) ∧ Below w.heap.size w w' := by
  obtain ⟨hll,hdk⟩ := map_nth hd
  have HR := Lib.hid hr;clear hr
  have HR' := Lib.hid hr';clear hr'
  have HB := Lib.hid hb;clear hb
  have HD := Lib.hid hdk;clear hdk
  rw [hll]
  refine ok_enter 27 Tryz.func49 rfl rfl rfl ?_
  repeat' (first
    | refine ok_seq ?_
    | refine ok_then ?_
    | refine ok_then_ret ?_
    | refine ok_block ?_
    | (refine ok_cond rfl (fun hc => ?_) (fun hc => ?_) <;> (have hd := hc;(try simp only [jA,jB,jC,jD,jE,jF,jG,jH,jI,jJ,jK,jL,jM,jN,jO,jP,jQ,jR,jS] at hd)))
    | refine ok_ret ?_
    | refine ok_skip ?_
    | (refine ok_region (i := 0) ?_;refine ok_p rfl rfl rfl (ps_assign rfl rfl) ?_;refine ok_ne [(0,_),(1,_)] ⟨rfl,rfl,trivial⟩ ?_)
    | (refine ok_region (i := 1) ?_;refine ok_p rfl rfl rfl (ps_move rfl rfl) ?_;refine ok_p rfl rfl rfl (by exact ps_len rfl rfl) ?_;refine ok_p rfl rfl rfl (ps_move rfl rfl) ?_;refine ok_p rfl rfl rfl (by exact ps_len rfl rfl) ?_;refine ok_p rfl rfl rfl (by exact ps_int rfl rfl rfl rfl) ?_;refine ok_ne [(0,_),(1,_),(10,_)] ⟨rfl,rfl,rfl,trivial⟩ ?_)
    | (refine ok_region (i := 2) ?_;refine ok_p rfl rfl rfl (ps_assign rfl rfl) ?_;refine ok_ne [(4,_)] ⟨rfl,trivial⟩ ?_)
    | (refine ok_region (i := 3) ?_;refine ok_p rfl rfl rfl (ps_assign rfl rfl) ?_;refine ok_ne [(0,_),(1,_),(5,_)] ⟨rfl,rfl,rfl,trivial⟩ ?_))
  · exfalso;simp at hc
  refine ok_loop (ι := { k : Nat // k ≤ l.length }) (fun k => l.length - k.1) (fun k => ([(0,.slice A l.length c),(1,.slice B l.length d),(5,.int .i64 k.1)],_,_)) ⟨0,by omega⟩ (fun a w he hw => ⟨⟨0,by omega⟩,he.sub ⟨rfl,rfl,rfl,trivial⟩,hw⟩) ?_
  rintro ⟨k,hk⟩
  simp only at hk ⊢
  repeat' (first
    | refine ok_seq ?_
    | refine ok_then ?_
    | refine ok_block ?_
    | refine ok_in_normal ?_
    | (refine ok_cond rfl (fun hc => ?_) (fun hc => ?_) <;> (have hd := hc;(try simp only [jA,jB,jC,jD,jE,jF,jG,jH,jI,jJ,jK,jL,jM,jN,jO,jP,jQ,jR,jS] at hd)))
    | refine ok_ret ?_
    | refine ok_exit ?_
    | refine ok_skip ?_
    | (refine ok_region (i := 4) ?_;refine ok_p rfl rfl rfl (ps_move rfl rfl) ?_;refine ok_p rfl rfl rfl (ps_move rfl rfl) ?_;refine ok_p rfl rfl rfl (by exact ps_len rfl rfl) ?_;refine ok_p rfl rfl rfl (by exact ps_int rfl rfl rfl rfl) ?_;refine ok_ne [(0,_),(1,_),(5,_),(14,_)] ⟨rfl,rfl,rfl,rfl,trivial⟩ ?_)
    | (refine ok_region (i := 5) ?_;refine ok_p rfl rfl rfl (ps_move rfl rfl) ?_;refine ok_p rfl rfl rfl (by exact ps_add rfl rfl rfl (by omega)) ?_;refine ok_p rfl rfl rfl (ps_assign rfl rfl) ?_;refine ok_ne [(0,_),(1,_),(5,_)] ⟨rfl,rfl,rfl,trivial⟩ ?_)
    | (refine ok_draw (id := 6) 10 rfl (by kernel_rfl) (by kernel_rfl) rfl (by repeat (first | exact pq_body | refine pq_then ?_ | refine pq_in ?_)) [0,1,2,3,4,5,6,7,8,9,10,11,12,13,14,15,16,17,18,19,20,21,22,23] (by decide) rfl ?_;refine okT_take (i := 0) rfl (by kernel_rfl) rfl rfl rfl (ps_move rfl rfl) ?_;refine okT_take (i := 1) rfl (by kernel_rfl) rfl rfl rfl (ps_move rfl rfl) ?_;refine okT_take (i := 2) rfl (by kernel_rfl) rfl rfl rfl (by exact ps_indexN rfl rfl rfl (by omega) (by exact isw_of (isS_fl (by assumption) (by omega)))) ?_;refine okT_take (i := 3) rfl (by kernel_rfl) rfl rfl rfl (by exact ps_loads (vs := Dat.cells (nth l k)) rfl rfl (rds_rf h List.mem_cons_self) (fl_sub l k (by omega)) (Dat.len (nth l k)) (by decide)) ?_;refine okT_take (i := 4) rfl (by kernel_rfl) rfl rfl rfl (ps_move rfl rfl) ?_;refine okT_take (i := 5) rfl (by kernel_rfl) rfl rfl rfl (ps_move rfl rfl) ?_;refine okT_take (i := 6) rfl (by kernel_rfl) rfl rfl rfl (by exact ps_indexN rfl rfl rfl (by omega) (by exact isw_of (isS_fl (by assumption) (by omega)))) ?_;refine okT_take (i := 7) rfl (by kernel_rfl) rfl rfl rfl (by exact ps_loads (vs := Dat.cells (nth l' k)) rfl rfl (rds_rf h' List.mem_cons_self) (fl_sub l' k (by omega)) (Dat.len (nth l' k)) (by decide)) ?_;refine okT_one (i := 8) rfl rfl (by kernel_rfl) rfl rfl rfl (by exact ms_s2 rfl rfl rfl (fun _ _ w hw => eqSTen_c (nth l k) (nth l' k) (HD.out k (by omega)) w ((HR.out k (by omega)).le (hw.wle List.mem_cons_self)) ((HR'.out k (by omega)).le (hw.wle List.mem_cons_self)) (HB.out k (by omega)))) (fun y w _ h => by exact h) ?_;rintro y25 hy25;refine okT_take (i := 9) rfl (by kernel_rfl) rfl rfl rfl (by exact ps_not rfl rfl) ?_;refine okT_done (by kernel_rfl) ?_;refine ok_ne [(0,_),(1,_),(5,_),(26,_)] ⟨rfl,rfl,rfl,rfl,trivial⟩ ?_)
    | (refine ok_region (i := 8) ?_;refine ok_p rfl rfl rfl (ps_assign rfl rfl) ?_;refine ok_ne [(4,_)] ⟨rfl,trivial⟩ ?_))
  · exact fun a w' he hw => ⟨⟨k + 1,by omega⟩,by simp only;omega,he.sub ⟨rfl,rfl,rfl,trivial⟩,hw⟩
  · exact ok_endL (vs := [_]) rfl ⟨rfl,trivial⟩ (fun w' hw => ⟨rfl,hw.below⟩)
theorem eqKeyDev_c (m : ByteArray) (A B : Option Addr) (c d : Nat) (l : List KeySlot) (wi : Int) (w : World) (h : Rd w A (fl l)) (h' : Rd w B (fl l)) (hl : l.length ≤ 1048576) :
    Calls Tryz.prog 47 #[.agg #[.string m,.slice A l.length c,.int .i64 wi],.agg #[.string m,.slice B l.length d,.int .i64 wi]] w fun r w' => r = .returned (.bool true) ∧ Below w.heap.size w w' := by
  refine ok_enter 21 Tryz.func47 rfl rfl rfl ?_
  repeat' (first
    | refine ok_seq ?_
    | refine ok_then ?_
    | refine ok_then_ret ?_
    | (refine ok_cond rfl (fun hc => ?_) (fun hc => ?_) <;> (have hd := hc;(try simp only [jA,jB,jC,jD,jE,jF,jG,jH,jI,jJ,jK,jL,jM,jN,jO,jP,jQ,jR,jS] at hd)))
    | refine ok_ret ?_
    | refine ok_skip ?_
    | (refine ok_region (i := 0) ?_;refine ok_m rfl rfl rfl (by exact ms_box rfl rfl rfl) ?_;rintro y2 hy2;refine ok_m rfl rfl rfl (by exact ms_box rfl rfl rfl) ?_;rintro y3 hy3;refine ok_p rfl rfl rfl (ps_assign rfl rfl) ?_;refine ok_ne [(2,_),(3,_)] ⟨rfl,rfl,trivial⟩ ?_)
    | (refine ok_region (i := 1) ?_;refine ok_p rfl rfl rfl (by exact ps_field rfl rfl (isw_ga _)) ?_;refine ok_p rfl rfl rfl (by exact ps_load rfl rfl (by exact Rds.cell (rds_box 1 rfl) rfl)) ?_;refine ok_p rfl rfl rfl (by exact ps_field rfl rfl (isw_ga _)) ?_;refine ok_p rfl rfl rfl (by exact ps_load rfl rfl (by exact Rds.cell (rds_box 0 rfl) rfl)) ?_;refine ok_p rfl rfl rfl (by exact ps_str rfl rfl rfl rfl) ?_;refine ok_ne [(2,_),(3,_),(9,_)] ⟨rfl,rfl,rfl,trivial⟩ ?_)
    | (refine ok_region (i := 2) ?_;refine ok_p rfl rfl rfl (ps_assign rfl rfl) ?_;refine ok_ne [(4,_)] ⟨rfl,trivial⟩ ?_)
    | (refine ok_region (i := 3) ?_;refine ok_p rfl rfl rfl (by exact ps_field rfl rfl (isw_ga _)) ?_;refine ok_p rfl rfl rfl (by exact ps_load rfl rfl (by exact Rds.cell (rds_box 1 rfl) rfl)) ?_;refine ok_p rfl rfl rfl (by exact ps_field rfl rfl (isw_ga _)) ?_;refine ok_p rfl rfl rfl (by exact ps_load rfl rfl (by exact Rds.cell (rds_box 0 rfl) rfl)) ?_;refine ok_m rfl rfl rfl (by exact ms_s2 rfl rfl rfl (fun _ _ w hw => eqKeySlotS_c A B c d l w (rds_rf h List.mem_cons_self _ _ w hw) (rds_rf h' List.mem_cons_self _ _ w hw) (by omega))) ?_;rintro y14 hy14;refine ok_p rfl rfl rfl (by exact ps_not rfl rfl) ?_;refine ok_ne [(2,_),(3,_),(15,_)] ⟨rfl,rfl,rfl,trivial⟩ ?_)
    | (refine ok_region (i := 5) ?_;refine ok_p rfl rfl rfl (by exact ps_field rfl rfl (isw_ga _)) ?_;refine ok_p rfl rfl rfl (by exact ps_load rfl rfl (by exact Rds.cell (rds_box 1 rfl) rfl)) ?_;refine ok_p rfl rfl rfl (by exact ps_field rfl rfl (isw_ga _)) ?_;refine ok_p rfl rfl rfl (by exact ps_load rfl rfl (by exact Rds.cell (rds_box 0 rfl) rfl)) ?_;refine ok_p rfl rfl rfl (by exact ps_int rfl rfl rfl rfl) ?_;refine ok_ne [(20,_)] ⟨rfl,trivial⟩ ?_)
    | (refine ok_region (i := 6) ?_;refine ok_p rfl rfl rfl (ps_assign rfl rfl) ?_;refine ok_ne [(4,_)] ⟨rfl,trivial⟩ ?_)
    | (refine ok_region (i := 7) ?_;refine ok_p rfl rfl rfl (ps_assign rfl rfl) ?_;refine ok_ne [(4,_)] ⟨rfl,trivial⟩ ?_))
  all_goals first
    | (exfalso;simp [sEq] at hc;done)
    | exact ok_endL (vs := [_]) rfl ⟨rfl,trivial⟩ (fun w' hw => ⟨rfl,hw.below⟩)
theorem eqShares_c (sz : Int) (A B : Option Addr) (c d : Nat) (l : List Share) (w : World) (h : Rd w A (fl l)) (h' : Rd w B (fl l)) (hl : l.length ≤ 1048576) :
    Calls Tryz.prog 48 #[.agg #[.int .i64 sz,.slice A l.length c],.agg #[.int .i64 sz,.slice B l.length d]] w fun r w' => r = .returned (.bool true) ∧ Below w.heap.size w w' := by
  refine ok_enter 16 Tryz.func48 rfl rfl rfl ?_
  repeat' (first
    | refine ok_seq ?_
    | refine ok_then ?_
    | refine ok_then_ret ?_
    | (refine ok_cond rfl (fun hc => ?_) (fun hc => ?_) <;> (have hd := hc;(try simp only [jA,jB,jC,jD,jE,jF,jG,jH,jI,jJ,jK,jL,jM,jN,jO,jP,jQ,jR,jS] at hd)))
    | refine ok_ret ?_
    | refine ok_skip ?_
    | (refine ok_region (i := 0) ?_;refine ok_m rfl rfl rfl (by exact ms_box rfl rfl rfl) ?_;rintro y2 hy2;refine ok_m rfl rfl rfl (by exact ms_box rfl rfl rfl) ?_;rintro y3 hy3;refine ok_p rfl rfl rfl (ps_assign rfl rfl) ?_;refine ok_ne [(2,_),(3,_)] ⟨rfl,rfl,trivial⟩ ?_)
    | (refine ok_region (i := 1) ?_;refine ok_p rfl rfl rfl (by exact ps_field rfl rfl (isw_ga _)) ?_;refine ok_p rfl rfl rfl (by exact ps_load rfl rfl (by exact Rds.cell (rds_box 1 rfl) rfl)) ?_;refine ok_p rfl rfl rfl (by exact ps_field rfl rfl (isw_ga _)) ?_;refine ok_p rfl rfl rfl (by exact ps_load rfl rfl (by exact Rds.cell (rds_box 0 rfl) rfl)) ?_;refine ok_p rfl rfl rfl (by exact ps_int rfl rfl rfl rfl) ?_;refine ok_ne [(2,_),(3,_),(9,_)] ⟨rfl,rfl,rfl,trivial⟩ ?_)
    | (refine ok_region (i := 2) ?_;refine ok_p rfl rfl rfl (ps_assign rfl rfl) ?_;refine ok_ne [(4,_)] ⟨rfl,trivial⟩ ?_)
    | (refine ok_region (i := 3) ?_;refine ok_p rfl rfl rfl (by exact ps_field rfl rfl (isw_ga _)) ?_;refine ok_p rfl rfl rfl (by exact ps_load rfl rfl (by exact Rds.cell (rds_box 1 rfl) rfl)) ?_;refine ok_p rfl rfl rfl (by exact ps_field rfl rfl (isw_ga _)) ?_;refine ok_p rfl rfl rfl (by exact ps_load rfl rfl (by exact Rds.cell (rds_box 0 rfl) rfl)) ?_;refine ok_m rfl rfl rfl (by exact ms_s2 rfl rfl rfl (fun _ _ w hw => eqShareS_c A B c d l w (rds_rf h List.mem_cons_self _ _ w hw) (rds_rf h' List.mem_cons_self _ _ w hw) (by omega))) ?_;rintro y14 hy14;refine ok_p rfl rfl rfl (by exact ps_not rfl rfl) ?_;refine ok_ne [(15,_)] ⟨rfl,trivial⟩ ?_)
    | (refine ok_region (i := 5) ?_;refine ok_p rfl rfl rfl (ps_assign rfl rfl) ?_;refine ok_ne [(4,_)] ⟨rfl,trivial⟩ ?_))
  all_goals first
    | (exfalso;simp at hc;done)
    | exact ok_endL (vs := [_]) rfl ⟨rfl,trivial⟩ (fun w' hw => ⟨rfl,hw.below⟩)
theorem eqStore_c (s s' : LStore) (hd : s'.d = s.d) (w : World) (h : s.rd w) (h' : s'.rd w) (hb : stWt s) :
    Calls Tryz.prog 12 #[s.val,s'.val] w fun r w' => r = .returned (.bool true) ∧ Below w.heap.size w w' := by
  obtain ⟨sec,⟨mk,⟨kA,kc,slots⟩,wi⟩,⟨ssz,⟨shA,shc,shl⟩⟩,⟨tnA,tnc,tens⟩,⟨rA,rc,rows⟩,⟨hA,hcc,hist⟩,bo⟩ := s
  obtain ⟨sec',⟨mk',⟨kA',kc',slots'⟩,wi'⟩,⟨ssz',⟨shA',shc',shl'⟩⟩,⟨tnA',tnc',tens'⟩,⟨rA',rc',rows'⟩,⟨hA',hcc',hist'⟩,bo'⟩ := s'
  simp only [LStore.d,LKeys.d,LShares.d,DStore.mk.injEq,DKeys.mk.injEq,DShares.mk.injEq] at hd
  obtain ⟨rfl,⟨rfl,rfl,rfl⟩,⟨rfl,rfl⟩,hT,rfl,rfl,rfl⟩ := hd
  obtain ⟨h1,h2,h3,h4,h5,h6⟩ := h
  obtain ⟨g1,g2,g3,g4,g5,g6⟩ := h'
  obtain ⟨b1,b2,b3,b4,b5,b6,b7⟩ := hb
  simp only [LKeys.rd,LShares.rd] at h1 h2 h3 h4 h5 h6 g1 g2 g3 g4 g5 g6 b1 b2 b3 b4 b5 b6 b7
  have B4 := Lib.hid b4;clear b4
  have H4 := Lib.hid h4;clear h4
  have G4 := Lib.hid g4;clear g4
  clear b6
  show Calls Tryz.prog 12 #[.agg #[.string sec',.string mk',.slice kA slots'.length kc,.int .i64 wi',.int .i64 ssz',.slice shA shl'.length shc,.slice tnA tens.length tnc,.slice rA rows'.length rc,.slice hA hist'.length hcc,.int .i64 bo'],.agg #[.string sec',.string mk',.slice kA' slots'.length kc',.int .i64 wi',.int .i64 ssz',.slice shA' shl'.length shc',.slice tnA' tens'.length tnc',.slice rA' rows'.length rc',.slice hA' hist'.length hcc',.int .i64 bo']] w _
  refine ok_enter 45 Tryz.func12 rfl rfl rfl ?_
  repeat' (first
    | refine ok_seq ?_
    | refine ok_then ?_
    | refine ok_then_ret ?_
    | (refine ok_cond rfl (fun hc => ?_) (fun hc => ?_) <;> (have hd := hc;(try simp only [jA,jB,jC,jD,jE,jF,jG,jH,jI,jJ,jK,jL,jM,jN,jO,jP,jQ,jR,jS] at hd)))
    | refine ok_ret ?_
    | refine ok_skip ?_
    | (refine ok_region (i := 0) ?_;refine ok_m rfl rfl rfl (by exact ms_box rfl rfl rfl) ?_;rintro y2 hy2;refine ok_m rfl rfl rfl (by exact ms_box rfl rfl rfl) ?_;rintro y3 hy3;refine ok_p rfl rfl rfl (ps_assign rfl rfl) ?_;refine ok_ne [(2,_),(3,_)] ⟨rfl,rfl,trivial⟩ ?_)
    | (refine ok_region (i := 1) ?_;refine ok_p rfl rfl rfl (by exact ps_field rfl rfl (isw_ga _)) ?_;refine ok_p rfl rfl rfl (by exact ps_load rfl rfl (by exact Rds.cell (rds_box 1 rfl) rfl)) ?_;refine ok_p rfl rfl rfl (by exact ps_field rfl rfl (isw_ga _)) ?_;refine ok_p rfl rfl rfl (by exact ps_load rfl rfl (by exact Rds.cell (rds_box 0 rfl) rfl)) ?_;refine ok_p rfl rfl rfl (by exact ps_str rfl rfl rfl rfl) ?_;refine ok_ne [(2,_),(3,_),(9,_)] ⟨rfl,rfl,rfl,trivial⟩ ?_)
    | (refine ok_region (i := 2) ?_;refine ok_p rfl rfl rfl (ps_assign rfl rfl) ?_;refine ok_ne [(4,_)] ⟨rfl,trivial⟩ ?_)
    | (refine ok_region (i := 3) ?_;refine ok_p rfl rfl rfl (by exact ps_field rfl rfl (isw_ga _)) ?_;refine ok_p rfl rfl rfl (by exact ps_loads rfl rfl (by exact rds_box 1 rfl) rfl rfl (by decide)) ?_;refine ok_p rfl rfl rfl (by exact ps_field rfl rfl (isw_ga _)) ?_;refine ok_p rfl rfl rfl (by exact ps_loads rfl rfl (by exact rds_box 0 rfl) rfl rfl (by decide)) ?_;refine ok_m rfl rfl rfl (by exact ms_s2 rfl rfl rfl (fun _ _ w hw => eqKeyDev_c mk' kA kA' kc kc' slots' wi' w (rds_rf h1 List.mem_cons_self _ _ w hw) (rds_rf g1 List.mem_cons_self _ _ w hw) b1)) ?_;rintro y14 hy14;refine ok_p rfl rfl rfl (by exact ps_not rfl rfl) ?_;refine ok_ne [(2,_),(3,_),(15,_)] ⟨rfl,rfl,rfl,trivial⟩ ?_)
    | (refine ok_region (i := 5) ?_;refine ok_p rfl rfl rfl (by exact ps_field rfl rfl (isw_ga _)) ?_;refine ok_p rfl rfl rfl (by exact ps_loads rfl rfl (by exact rds_box 1 rfl) rfl rfl (by decide)) ?_;refine ok_p rfl rfl rfl (by exact ps_field rfl rfl (isw_ga _)) ?_;refine ok_p rfl rfl rfl (by exact ps_loads rfl rfl (by exact rds_box 0 rfl) rfl rfl (by decide)) ?_;refine ok_m rfl rfl rfl (by exact ms_s2 rfl rfl rfl (fun _ _ w hw => eqShares_c ssz' shA shA' shc shc' shl' w (rds_rf h2 List.mem_cons_self _ _ w hw) (rds_rf g2 List.mem_cons_self _ _ w hw) b2)) ?_;rintro y20 hy20;refine ok_p rfl rfl rfl (by exact ps_not rfl rfl) ?_;refine ok_ne [(2,_),(3,_),(21,_)] ⟨rfl,rfl,rfl,trivial⟩ ?_)
    | (refine ok_region (i := 7) ?_;refine ok_p rfl rfl rfl (by exact ps_field rfl rfl (isw_ga _)) ?_;refine ok_p rfl rfl rfl (by exact ps_load rfl rfl (by exact Rds.cell (rds_box 1 rfl) rfl)) ?_;refine ok_p rfl rfl rfl (by exact ps_field rfl rfl (isw_ga _)) ?_;refine ok_p rfl rfl rfl (by exact ps_load rfl rfl (by exact Rds.cell (rds_box 0 rfl) rfl)) ?_;refine ok_m rfl rfl rfl (by exact ms_s2 rfl rfl rfl (fun _ _ w hw => eqSTenS_c tnA tnA' tnc tnc' tens tens' hT w (rds_rf h3 List.mem_cons_self _ _ w hw) (rds_rf g3 List.mem_cons_self _ _ w hw) (H4.out.le (hw.wle List.mem_cons_self)) (G4.out.le (hw.wle List.mem_cons_self)) b3 B4.out)) ?_;rintro y26 hy26;refine ok_p rfl rfl rfl (by exact ps_not rfl rfl) ?_;refine ok_ne [(2,_),(3,_),(27,_)] ⟨rfl,rfl,rfl,trivial⟩ ?_)
    | (refine ok_region (i := 9) ?_;refine ok_p rfl rfl rfl (by exact ps_field rfl rfl (isw_ga _)) ?_;refine ok_p rfl rfl rfl (by exact ps_load rfl rfl (by exact Rds.cell (rds_box 1 rfl) rfl)) ?_;refine ok_p rfl rfl rfl (by exact ps_field rfl rfl (isw_ga _)) ?_;refine ok_p rfl rfl rfl (by exact ps_load rfl rfl (by exact Rds.cell (rds_box 0 rfl) rfl)) ?_;refine ok_m rfl rfl rfl (by exact ms_s2 rfl rfl rfl (fun _ _ w hw => eqLogRowS_c rA rA' rc rc' rows' w (rds_rf h5 List.mem_cons_self _ _ w hw) (rds_rf g5 List.mem_cons_self _ _ w hw) (by omega))) ?_;rintro y32 hy32;refine ok_p rfl rfl rfl (by exact ps_not rfl rfl) ?_;refine ok_ne [(2,_),(3,_),(33,_)] ⟨rfl,rfl,rfl,trivial⟩ ?_)
    | (refine ok_region (i := 11) ?_;refine ok_p rfl rfl rfl (by exact ps_field rfl rfl (isw_ga _)) ?_;refine ok_p rfl rfl rfl (by exact ps_load rfl rfl (by exact Rds.cell (rds_box 1 rfl) rfl)) ?_;refine ok_p rfl rfl rfl (by exact ps_field rfl rfl (isw_ga _)) ?_;refine ok_p rfl rfl rfl (by exact ps_load rfl rfl (by exact Rds.cell (rds_box 0 rfl) rfl)) ?_;refine ok_m rfl rfl rfl (by exact ms_s2 rfl rfl rfl (fun _ _ w hw => eqLogRowS_c hA hA' hcc hcc' hist' w (rds_rf h6 List.mem_cons_self _ _ w hw) (rds_rf g6 List.mem_cons_self _ _ w hw) (by omega))) ?_;rintro y38 hy38;refine ok_p rfl rfl rfl (by exact ps_not rfl rfl) ?_;refine ok_ne [(2,_),(3,_),(39,_)] ⟨rfl,rfl,rfl,trivial⟩ ?_)
    | (refine ok_region (i := 13) ?_;refine ok_p rfl rfl rfl (by exact ps_field rfl rfl (isw_ga _)) ?_;refine ok_p rfl rfl rfl (by exact ps_load rfl rfl (by exact Rds.cell (rds_box 1 rfl) rfl)) ?_;refine ok_p rfl rfl rfl (by exact ps_field rfl rfl (isw_ga _)) ?_;refine ok_p rfl rfl rfl (by exact ps_load rfl rfl (by exact Rds.cell (rds_box 0 rfl) rfl)) ?_;refine ok_p rfl rfl rfl (by exact ps_int rfl rfl rfl rfl) ?_;refine ok_ne [(44,_)] ⟨rfl,trivial⟩ ?_)
    | (refine ok_region (i := 14) ?_;refine ok_p rfl rfl rfl (ps_assign rfl rfl) ?_;refine ok_ne [(4,_)] ⟨rfl,trivial⟩ ?_)
    | (refine ok_region (i := 15) ?_;refine ok_p rfl rfl rfl (ps_assign rfl rfl) ?_;refine ok_ne [(4,_)] ⟨rfl,trivial⟩ ?_))
  all_goals first
    | (exfalso;simp [sEq] at hc;done)
    | exact ok_endL (vs := [_]) rfl ⟨rfl,trivial⟩ (fun w' hw => ⟨rfl,hw.below⟩)
theorem stWt.of_d {s s' : LStore} (hd : s'.d = s.d) (hw : stWt s) : stWt s' := by
  obtain ⟨sec,⟨mk,⟨kA,kc,slots⟩,wi⟩,⟨ssz,⟨shA,shc,shl⟩⟩,⟨tnA,tnc,tens⟩,⟨rA,rc,rows⟩,⟨hA,hcc,hist⟩,bo⟩ := s
  obtain ⟨sec',⟨mk',⟨kA',kc',slots'⟩,wi'⟩,⟨ssz',⟨shA',shc',shl'⟩⟩,⟨tnA',tnc',tens'⟩,⟨rA',rc',rows'⟩,⟨hA',hcc',hist'⟩,bo'⟩ := s'
  simp only [LStore.d,LKeys.d,LShares.d,DStore.mk.injEq,DKeys.mk.injEq,DShares.mk.injEq] at hd
  obtain ⟨rfl,⟨rfl,rfl,rfl⟩,⟨rfl,rfl⟩,hT,rfl,rfl,rfl⟩ := hd
  obtain ⟨b1,b2,b3,b4,b5,b6,b7⟩ := hw
  obtain ⟨hl,hk⟩ := map_nth hT
  refine ⟨b1,b2,?_,fun k hk' => ?_,b5,b6,b7⟩
  · simp only at b3 ⊢;omega
  · simp only at hk' ⊢
    exact (b4 k (by simp only;omega)).of_d (congrArg DTen.eng (hk k (by omega)))
end Go.Proofs.YtmfojbidojjciaaGreat
/- Stores opened: what a readable store is as data with places. -/
namespace Go.Proofs.YtmfojbidojjciaaGreat
open Go.RowKit
abbrev gKeySlot : GT := .st [.int,.str]
abbrev gKeyDev : GT := .st [.str,.sl 192 gKeySlot,.int]
abbrev gShare : GT := .st [.int,.int]
abbrev gShares : GT := .st [.int,.sl 207 gShare]
abbrev gLogRow : GT := .st [.int,.int,.int,.str,.bool]
abbrev gEng : GT := .st [.sl 286 gEnt,.sl 141 (.sl 286 gEnt),.int,.sl 3 .int]
abbrev gSTen : GT := .st [.int,.int,.int,gEng]
abbrev gStore : GT := .st [.str,gKeyDev,gShares,.sl 146 gSTen,.sl 148 gLogRow,.sl 148 gLogRow,.int]
theorem flatInt5 : FlatAt .int (α := Int) (fun x => x) inI64 := fun w x c h => RdT.int.1 h
theorem flatKeySlot : FlatAt gKeySlot (α := KeySlot) (fun x => ⟨x.1,x.2.1⟩) bigKeySlot := fun w x c h => by
  obtain ⟨a0,a1,u⟩ := x
  obtain ⟨c0,d0,rfl,h0,e0⟩ := RdTL.cons.1 (RdT.st.1 h)
  obtain ⟨c1,d1,rfl,h1,e1⟩ := RdTL.cons.1 e0
  rw [RdTL.nil] at e1;subst e1
  obtain ⟨rfl,b0⟩ := RdT.int.1 h0
  obtain ⟨rfl,b1⟩ := RdT.str.1 h1
  exact ⟨rfl,b1⟩
theorem flatShare : FlatAt gShare (α := Share) (fun x => ⟨x.1,x.2.1⟩) bigShare := fun w x c h => by
  obtain ⟨a0,a1,u⟩ := x
  obtain ⟨c0,d0,rfl,h0,e0⟩ := RdTL.cons.1 (RdT.st.1 h)
  obtain ⟨c1,d1,rfl,h1,e1⟩ := RdTL.cons.1 e0
  rw [RdTL.nil] at e1;subst e1
  obtain ⟨rfl,b0⟩ := RdT.int.1 h0
  obtain ⟨rfl,b1⟩ := RdT.int.1 h1
  exact ⟨rfl,trivial⟩
theorem flatLogRow : FlatAt gLogRow (α := LogRow) (fun x => ⟨x.1,x.2.1,x.2.2.1,x.2.2.2.1,x.2.2.2.2.1⟩) bigLogRow := fun w x c h => by
  obtain ⟨a0,a1,a2,a3,a4,u⟩ := x
  obtain ⟨c0,d0,rfl,h0,e0⟩ := RdTL.cons.1 (RdT.st.1 h)
  obtain ⟨c1,d1,rfl,h1,e1⟩ := RdTL.cons.1 e0
  obtain ⟨c2,d2,rfl,h2,e2⟩ := RdTL.cons.1 e1
  obtain ⟨c3,d3,rfl,h3,e3⟩ := RdTL.cons.1 e2
  obtain ⟨c4,d4,rfl,h4,e4⟩ := RdTL.cons.1 e3
  rw [RdTL.nil] at e4;subst e4
  obtain ⟨rfl,b0⟩ := RdT.int.1 h0
  obtain ⟨rfl,b1⟩ := RdT.int.1 h1
  obtain ⟨rfl,b2⟩ := RdT.int.1 h2
  obtain ⟨rfl,b3⟩ := RdT.str.1 h3
  obtain rfl := RdT.bool.1 h4
  exact ⟨rfl,b3⟩
theorem eng_open {w : World} {cs : List Value} {x : gEng.den} (hx : RdT w gEng x cs) : ∃ e : LEng,cs = e.cells ∧ e.rd w ∧ engBig e := by
  obtain ⟨a0,a1,a2,a3,u⟩ := x
  obtain ⟨c0,d0,rfl,h0,e0⟩ := RdTL.cons.1 (RdT.st.1 hx)
  obtain ⟨c1,d1,rfl,h1,e1⟩ := RdTL.cons.1 e0
  obtain ⟨c2,d2,rfl,h2,e2⟩ := RdTL.cons.1 e1
  obtain ⟨c3,d3,rfl,h3,e3⟩ := RdTL.cons.1 e2
  rw [RdTL.nil] at e3;subst e3
  obtain ⟨A0,k0,l0,rfl,m0,r0,b0⟩ := flat_sl flatEnt h0
  obtain ⟨A1,k1,R,rfl,m1,r1,b1⟩ := nest_sl (flat_nest flatEnt) h1
  obtain ⟨rfl,b2⟩ := RdT.int.1 h2
  obtain ⟨A3,k3,l3,rfl,m3,r3,b3⟩ := flat_sl flatInt5 h3
  exact ⟨⟨⟨A0,k0,l0⟩,⟨A1,k1,R⟩,a2,⟨A3,k3,l3⟩⟩,rfl,⟨r0,r1,r3⟩,⟨m0,b0,m1,b1,m3⟩⟩
theorem ten_open {w : World} {cs : List Value} {x : gSTen.den} (hx : RdT w gSTen x cs) : ∃ t : LTen,cs = Dat.cells t ∧ t.e.rd w ∧ engBig t.e := by
  obtain ⟨a0,a1,a2,a3,u⟩ := x
  obtain ⟨c0,d0,rfl,h0,e0⟩ := RdTL.cons.1 (RdT.st.1 hx)
  obtain ⟨c1,d1,rfl,h1,e1⟩ := RdTL.cons.1 e0
  obtain ⟨c2,d2,rfl,h2,e2⟩ := RdTL.cons.1 e1
  obtain ⟨c3,d3,rfl,h3,e3⟩ := RdTL.cons.1 e2
  rw [RdTL.nil] at e3;subst e3
  obtain ⟨rfl,b0⟩ := RdT.int.1 h0
  obtain ⟨rfl,b1⟩ := RdT.int.1 h1
  obtain ⟨rfl,b2⟩ := RdT.int.1 h2
  obtain ⟨e,rfl,r,b⟩ := eng_open h3
  exact ⟨⟨a0,a1,a2,e⟩,by rw [List.append_nil];rfl,r,b⟩
theorem tens_rows {w : World} : ∀ (xs : List gSTen.den) (us : List Value),RdTs w gSTen xs us → ∃ R : List LTen,us = fl R ∧ R.length = xs.length ∧ ∀ t ∈ R,t.e.rd w ∧ engBig t.e
  | [],us,h => by
    rw [RdTs.nil] at h;subst h;exact ⟨[],rfl,rfl,fun x h => (by cases h)⟩
  | x :: xs,us,h => by
    obtain ⟨c1,c2,rfl,h1,h2⟩ := RdTs.cons.1 h
    obtain ⟨t,rfl,r,b⟩ := ten_open h1
    obtain ⟨R,rfl,hl,hr⟩ := tens_rows xs c2 h2
    refine ⟨t :: R,rfl,by simp [hl],fun y hy => ?_⟩
    rcases List.mem_cons.1 hy with rfl | hy
    · exact ⟨r,b⟩
    · exact hr y hy
theorem store_open {w : World} {cs : List Value} {x : gStore.den} (hx : RdT w gStore x cs) : ∃ s : LStore,cs = s.cells ∧ s.rd w ∧ stBig s := by
  obtain ⟨a0,a1,a2,a3,a4,a5,a6,u⟩ := x
  obtain ⟨c0,d0,rfl,h0,e0⟩ := RdTL.cons.1 (RdT.st.1 hx)
  obtain ⟨c1,d1,rfl,h1,e1⟩ := RdTL.cons.1 e0
  obtain ⟨c2,d2,rfl,h2,e2⟩ := RdTL.cons.1 e1
  obtain ⟨c3,d3,rfl,h3,e3⟩ := RdTL.cons.1 e2
  obtain ⟨c4,d4,rfl,h4,e4⟩ := RdTL.cons.1 e3
  obtain ⟨c5,d5,rfl,h5,e5⟩ := RdTL.cons.1 e4
  obtain ⟨c6,d6,rfl,h6,e6⟩ := RdTL.cons.1 e5
  rw [RdTL.nil] at e6;subst e6
  obtain ⟨rfl,b0⟩ := RdT.str.1 h0
  obtain ⟨k0,k1,k2,ku⟩ := a1
  obtain ⟨f0,g0,rfl,q0,p0⟩ := RdTL.cons.1 (RdT.st.1 h1)
  obtain ⟨f1,g1,rfl,q1,p1⟩ := RdTL.cons.1 p0
  obtain ⟨f2,g2,rfl,q2,p2⟩ := RdTL.cons.1 p1
  rw [RdTL.nil] at p2;subst p2
  obtain ⟨rfl,bk0⟩ := RdT.str.1 q0
  obtain ⟨kA,kc,slots,rfl,km,kr,kb⟩ := flat_sl flatKeySlot q1
  obtain ⟨rfl,bk2⟩ := RdT.int.1 q2
  obtain ⟨s0,s1,su⟩ := a2
  obtain ⟨i0,j0,rfl,t0,v0⟩ := RdTL.cons.1 (RdT.st.1 h2)
  obtain ⟨i1,j1,rfl,t1,v1⟩ := RdTL.cons.1 v0
  rw [RdTL.nil] at v1;subst v1
  obtain ⟨rfl,bs0⟩ := RdT.int.1 t0
  obtain ⟨sA,sc,shl,rfl,sm,sr,sb⟩ := flat_sl flatShare t1
  obtain ⟨tA,tc,tus,rfl,tl1,tl2,trd,trs⟩ := RdT.sl.1 h3
  obtain ⟨tens,rfl,tlen,tall⟩ := tens_rows _ _ trs
  obtain ⟨rA,rc,rows,rfl,rm,rr,rb⟩ := flat_sl flatLogRow h4
  obtain ⟨hA,hc,hist,rfl,hm,hr,hb⟩ := flat_sl flatLogRow h5
  obtain ⟨rfl,b6⟩ := RdT.int.1 h6
  have tlen' : List.length a3 = tens.length := tlen.symm
  refine ⟨⟨a0,⟨k0,⟨kA,kc,slots⟩,k2⟩,⟨s0,⟨sA,sc,shl⟩⟩,⟨tA,tc,tens⟩,⟨rA,rc,rows⟩,⟨hA,hc,hist⟩,a6⟩,by rw [tlen'];rfl,⟨kr,sr,trd,fun k hk => (tall _ (nth_mem tens k hk)).1,rr,hr⟩,⟨km,kb,sm,sb,?_,fun k hk => (tall _ (nth_mem tens k hk)).2,rm,rb,hm,hb,b0,bk0⟩⟩
  simp only
  rw [← tlen']
  exact Nat.le_trans tl1 tl2
end Go.Proofs.YtmfojbidojjciaaGreat
/- The walk of FnExactTraces. -/
namespace Go.Proofs.YtmfojbidojjciaaGreat
open Go.RowKit
attribute [local irreducible] Calls
theorem s_Traces1 (s : LStore) (id : Int) (w : World) (h : s.rd w) (hw : stWt s) : Calls Tryz.prog 9 #[s.val,.int .i64 id] w fun e w' => e = .returned (.int .i64 (fTraces s.d id)) ∧ Below w.heap.size w w' := by
  obtain ⟨sec,⟨mk,⟨kA,kc,slots⟩,wi⟩,⟨ssz,⟨shA,shc,shl⟩⟩,⟨tnA,tnc,tens⟩,⟨rA,rc,rows⟩,⟨hA,hcc,hist⟩,bo⟩ := s
  obtain ⟨h1,h2,h3,h4,h5,h6⟩ := h
  obtain ⟨b1,b2,b3,b4,b5,b6,b7⟩ := hw
  simp only [LKeys.rd,LShares.rd] at h1 h2 h3 h4 h5 h6 b1 b2 b3 b4 b5 b6 b7
  exact s_Traces0 sec mk kA kc slots wi ssz shA shc shl tnA tnc tens rA rc rows hA hcc hist bo id w h1 h2 h3 h4 h5 (by omega) (by omega) (by omega) (by omega) (by omega) (fun k hk => by have := b6 _ (nth_mem rows k hk);unfold wtLogRow at this;omega) (fun k hk => (b4 k hk).sm)
theorem i_Traces1 (s : LStore) (id : Int) (w : World) (h : s.rd w) (hw : stWt s) : Calls Tryz.prog 11 #[s.val,.int .i64 id] w fun e w' => e = .returned (.int .i64 (fTraces s.d id)) ∧ Below w.heap.size w w' := by
  obtain ⟨sec,⟨mk,⟨kA,kc,slots⟩,wi⟩,⟨ssz,⟨shA,shc,shl⟩⟩,⟨tnA,tnc,tens⟩,⟨rA,rc,rows⟩,⟨hA,hcc,hist⟩,bo⟩ := s
  obtain ⟨h1,h2,h3,h4,h5,h6⟩ := h
  obtain ⟨b1,b2,b3,b4,b5,b6,b7⟩ := hw
  simp only [LKeys.rd,LShares.rd] at h1 h2 h3 h4 h5 h6 b1 b2 b3 b4 b5 b6 b7
  exact i_Traces0 sec mk kA kc slots wi ssz shA shc shl tnA tnc tens rA rc rows hA hcc hist bo id w h1 h2 h3 h4 h5 (by omega) (by omega) (by omega) (by omega) (by omega) (fun k hk => by have := b6 _ (nth_mem rows k hk);unfold wtLogRow at this;omega) (fun k hk => (b4 k hk).sm)
theorem FnExactTraces_e (s : LStore) (id : Int) (w : World) (h : s.rd w) (hb : stBig s) :
    Calls Tryz.prog 3 #[s.val,.int .i64 id] w fun e w' => e = .returned (.bool true) ∧ Below w.heap.size w w' := by
  have H := Lib.hid h;clear h
  have HB := Lib.hid hb;clear hb
  refine ok_enter 31 Tryz.func3 rfl rfl rfl ?_
  repeat' (first
    | refine ok_seq ?_
    | refine ok_then ?_
    | refine ok_then_ret ?_
    | (refine ok_cond rfl (fun hc => ?_) (fun hc => ?_) <;> (have hd := hc;(try simp only [jA,jB,jC,jD,jE,jF,jG,jH,jI,jJ,jK,jL,jM,jN,jO,jP,jQ,jR,jS] at hd)))
    | refine ok_ret ?_
    | refine ok_skip ?_
    | (refine ok_region (i := 0) ?_;refine ok_m rfl rfl rfl (by exact ms_box rfl rfl rfl) ?_;rintro y2 hy2;refine ok_p rfl rfl rfl (ps_assign rfl rfl) ?_;refine ok_ne [(1,_),(2,_)] ⟨rfl,rfl,trivial⟩ ?_)
    | (refine ok_region (i := 1) ?_;refine ok_p rfl rfl rfl (ps_assign rfl rfl) ?_;refine ok_ne [(1,_),(2,_),(5,_)] ⟨rfl,rfl,rfl,trivial⟩ ?_)
    | (refine ok_region (i := 2) ?_;refine ok_p rfl rfl rfl (by exact ps_loads rfl rfl (by exact rds_box 0 rfl) rfl rfl (by decide)) ?_;refine ok_p rfl rfl rfl (ps_move rfl rfl) ?_;refine ok_m rfl rfl rfl (by exact ms_c2 rfl rfl rfl (fun _ _ w hw => szStore_c s _ ⟨by omega,by omega⟩ w (H.out.le (hw.wle List.mem_cons_self)) HB.out)) ?_;rintro y11 hy11;refine ok_p rfl rfl rfl (ps_assign rfl rfl) ?_;refine ok_ne [(1,_),(2,_),(5,_)] ⟨rfl,rfl,rfl,trivial⟩ ?_)
    | (refine ok_region (i := 3) ?_;refine ok_p rfl rfl rfl (ps_move rfl rfl) ?_;refine ok_p rfl rfl rfl (by exact ps_int rfl rfl rfl rfl) ?_;refine ok_ne [(1,_),(2,_),(13,_)] ⟨rfl,rfl,rfl,trivial⟩ ?_)
    | (refine ok_region (i := 4) ?_;refine ok_p rfl rfl rfl (ps_assign rfl rfl) ?_;refine ok_ne [(4,_)] ⟨rfl,trivial⟩ ?_))
  · exact ok_endL (vs := [_]) rfl ⟨rfl,trivial⟩ (fun w hw => ⟨rfl,hw.below⟩)
  have hwt := hy11.2.2 (by omega)
  have HW := Lib.hid hwt;clear hwt
  clear hc hd hy11
  repeat' (first
    | refine ok_seq ?_
    | refine ok_then ?_
    | refine ok_then_ret ?_
    | (refine ok_cond rfl (fun hc => ?_) (fun hc => ?_) <;> (have hd := hc;(try simp only [jA,jB,jC,jD,jE,jF,jG,jH,jI,jJ,jK,jL,jM,jN,jO,jP,jQ,jR,jS] at hd)))
    | refine ok_ret ?_
    | refine ok_skip ?_
    | (refine ok_region (i := 5) ?_;refine ok_p rfl rfl rfl (by exact ps_loads rfl rfl (by exact rds_box 0 rfl) rfl rfl (by decide)) ?_;refine ok_m rfl rfl rfl (by exact ms_c1 rfl rfl (fun _ _ w hw => toStore_c s w (H.out.le (hw.wle List.mem_cons_self)) HW.out)) ?_;rintro y15 hy15;refine ok_p rfl rfl rfl (ps_move rfl rfl) ?_;refine ok_m rfl rfl rfl (by exact ms_s2 rfl rfl rfl (fun _ _ w hw => s_Traces1 (yS5 y15) id w (st_own (hw.drop 0 rfl)) (HW.out.of_d hy15))) ?_;rintro y17 hy17;refine ok_p rfl rfl rfl (ps_assign rfl rfl) ?_;refine ok_ne [(1,_),(2,_),(6,_)] ⟨rfl,rfl,rfl,trivial⟩ ?_)
    | (refine ok_region (i := 6) ?_;refine ok_p rfl rfl rfl (by exact ps_loads rfl rfl (by exact rds_box 9 rfl) rfl rfl (by decide)) ?_;refine ok_m rfl rfl rfl (by exact ms_c1 rfl rfl (fun _ _ w hw => toStore_c s w (H.out.le (hw.wle List.mem_cons_self)) HW.out)) ?_;rintro y19 hy19;refine ok_m rfl rfl rfl (by exact ms_alloc rfl) ?_;rintro y7 hy7;refine ok_m_ rfl rfl (by exact ms_store 0 rfl rfl rfl rfl rfl rfl rfl rfl) ?_;rintro y_ hy_;refine ok_ne [(1,_),(2,_),(6,_),(7,_)] ⟨rfl,rfl,rfl,rfl,trivial⟩ ?_)
    | (refine ok_region (i := 7) ?_;refine ok_p rfl rfl rfl (by exact ps_loads rfl rfl (by exact rds_box 0 rfl) rfl rfl (by decide)) ?_;refine ok_p rfl rfl rfl (ps_move rfl rfl) ?_;refine ok_m rfl rfl rfl (by exact ms_s2 rfl rfl rfl (fun _ _ w hw => i_Traces1 (yS5 y19) id w (st_own (hw.drop 1 rfl)) (HW.out.of_d hy19))) ?_;rintro y22 hy22;refine ok_p rfl rfl rfl (ps_assign rfl rfl) ?_;refine ok_ne [(2,_),(6,_),(7,_),(8,_)] ⟨rfl,rfl,rfl,rfl,trivial⟩ ?_)
    | (refine ok_region (i := 8) ?_;refine ok_p rfl rfl rfl (ps_move rfl rfl) ?_;refine ok_p rfl rfl rfl (ps_move rfl rfl) ?_;refine ok_p rfl rfl rfl (by exact ps_int rfl rfl rfl rfl) ?_;refine ok_ne [(2,_),(7,_),(25,_)] ⟨rfl,rfl,rfl,trivial⟩ ?_)
    | (refine ok_region (i := 9) ?_;refine ok_p rfl rfl rfl (ps_assign rfl rfl) ?_;refine ok_ne [(4,_)] ⟨rfl,trivial⟩ ?_))
  · exact absurd (by rw [hy15,hy19]) hd
  · clear hc hd
    repeat' (first
      | refine ok_seq ?_
      | refine ok_then ?_
      | (refine ok_cond rfl (fun hc => ?_) (fun hc => ?_) <;> (have hd := hc;(try simp only [jA,jB,jC,jD,jE,jF,jG,jH,jI,jJ,jK,jL,jM,jN,jO,jP,jQ,jR,jS] at hd)))
      | refine ok_ret ?_
      | refine ok_skip ?_
      | (refine ok_draw (id := 10) 5 rfl (by kernel_rfl) (by kernel_rfl) rfl (by repeat (first | exact pq_body | refine pq_then ?_ | refine pq_in ?_)) [0,1,2,3,4,5,6,7,8,9,10,11,12,13,14,15,16,17,18,19,20,21,22,23] (by decide) rfl ?_;refine okT_take (i := 0) rfl (by kernel_rfl) rfl rfl rfl (by exact ps_loads rfl rfl (by exact rds_box 0 rfl) rfl rfl (by decide)) ?_;refine okT_take (i := 1) rfl (by kernel_rfl) rfl rfl rfl (by exact ps_loads rfl rfl (by exact rds_box 19 rfl) rfl rfl (by decide)) ?_;refine okT_one (i := 2) rfl rfl (by kernel_rfl) rfl rfl rfl (by exact ms_c1 rfl rfl (fun _ _ w hw => toStore_c s w (H.out.le (hw.wle List.mem_cons_self)) HW.out)) (fun y w _ h => by exact h.tl.tl.tl.tl.tl.tl.tl.tl.tl) ?_;rintro y28 hy28;refine okT_one (i := 3) rfl rfl (by kernel_rfl) rfl rfl rfl (by exact ms_s2 rfl rfl rfl (fun _ _ w hw => eqStore_c (yS5 y19) (yS5 y28) (hy28.trans hy19.symm) w (st_own (hw.drop 10 rfl)) (st_own (hw.drop 0 rfl)) (HW.out.of_d hy19))) (fun y w _ h => by exact h.tl.tl.tl.tl.tl.tl.tl.tl.tl) ?_;rintro y29 hy29;refine okT_take (i := 4) rfl (by kernel_rfl) rfl rfl rfl (by exact ps_not rfl rfl) ?_;refine okT_done (by kernel_rfl) ?_;refine ok_ne [(30,_)] ⟨rfl,trivial⟩ ?_)
      | (refine ok_region (i := 12) ?_;refine ok_p rfl rfl rfl (ps_assign rfl rfl) ?_;refine ok_ne [(4,_)] ⟨rfl,trivial⟩ ?_))
    all_goals first
      | exact ok_endL (vs := [_]) rfl ⟨rfl,trivial⟩ (fun w hw => ⟨rfl,hw.below⟩)
      | (exfalso;simp at hc;done)
theorem FnExactTraces_walk (w : World) (cs0 : Array Value) (g0 : gStore.den) (a1 : Int) (hx0 : RdT w gStore g0 cs0.toList) (n1 : (Lit.int IntKind.i64 a1).wf = true) :
    Calls Tryz.prog 3 #[.agg cs0,.int .i64 a1] w fun e w' => e = .returned (.bool true) ∧ Below w.heap.size w w' := by
  obtain ⟨s,hv0,h0,b0⟩ := store_open hx0
  have e : Value.agg cs0 = s.val := by
    have : cs0 = (cs0.toList).toArray := (Array.toArray_toList).symm
    rw [this,hv0]
  rw [e]
  exact FnExactTraces_e s a1 w h0 b0
end Go.Proofs.YtmfojbidojjciaaGreat
/- The head of a cut program, and the facts of a row that hang on it: each by itself, so that the kernel's memory stays small. -/
namespace Go.Proofs.YtmfojbidojjciaaGreat
open Go.RowKit
set_option maxRecDepth 100000
section
variable (P : Program) (rest : List (List Char)) (h : behindMainWord (wordsSigns P.initOrder.toList) = ['c','u','t'] :: rest)
include h
theorem make_cut : P.make = some .cut := by
  unfold Program.make
  rw [h]
  simp
theorem lifts_cut : P.headLifts = [] := by
  unfold Program.headLifts
  rw [h]
  have : stripLifts liftWords (['c','u','t'] :: rest) = ([],['c','u','t'] :: rest) := by
    simp [liftWords,stripLifts]
  rw [this]
  simp
theorem final_cut : P.liftsFinal = false := by
  unfold Program.liftsFinal
  rw [lifts_cut P rest h]
  simp [h]
theorem enter_cut (h1 : P.laysLater = false) (h2 : P.bearsReflect = false) (h3 : P.doorFits [] = true) : P.mayEnter = true := by
  unfold Program.mayEnter
  have : stripLifts liftWords (['c','u','t'] :: rest) = ([],['c','u','t'] :: rest) := by
    simp [liftWords,stripLifts]
  rw [h]
  simp [this,h1,h2,h3]
end
def ioL : List Char := ['h','a','r','n','e','s','s',' ','6','b','f','1','d','9','d','c','2','e','f','5','2','e','3','d','5','1','9','0','8','9','d','e','2','f','a','3','2','7','5','8','6','f','5','1','2','f','8','6','5','9','6','9','c','4','0','6','7','0','d','1','4','8','a','e','9','4','c','a','9','5','b','f',' ','c','u','t',' ','a','t',' ','l','o','o','p','.','e','x','a','m','p','l','e','/','g','0','0','9','5','0','/','l','a','w','s','.','F','n','E','x','a','c','t','T','r','a','c','e','s',' ','l','o','o','p','.','e','x','a','m','p','l','e','/','g','0','0','9','5','0','/','l','a','w','s','.','F','n','E','x','a','c','t','A','c','c','o','u','n','t','s',' ','l','o','o','p','.','e','x','a','m','p','l','e','/','g','0','0','9','5','0','/','l','a','w','s','.','F','n','A','c','c','o','u','n','t','s',' ','l','o','o','p','.','e','x','a','m','p','l','e','/','g','0','0','9','5','0','/','l','a','w','s','.','F','n','O','n','c','e',' ','l','o','o','p','.','e','x','a','m','p','l','e','/','g','0','0','9','5','0','/','l','a','w','s','.','F','n','S','h','r','e','d']
theorem io : Tryz.prog.initOrder.toList = ioL := by
  show (String.ofList ioL).toList = ioL
  exact String.toList_ofList
def ioR : List (List Char) := [['a','t'],['l','o','o','p','.','e','x','a','m','p','l','e','/','g','0','0','9','5','0','/','l','a','w','s','.','F','n','E','x','a','c','t','T','r','a','c','e','s'],['l','o','o','p','.','e','x','a','m','p','l','e','/','g','0','0','9','5','0','/','l','a','w','s','.','F','n','E','x','a','c','t','A','c','c','o','u','n','t','s'],['l','o','o','p','.','e','x','a','m','p','l','e','/','g','0','0','9','5','0','/','l','a','w','s','.','F','n','A','c','c','o','u','n','t','s'],['l','o','o','p','.','e','x','a','m','p','l','e','/','g','0','0','9','5','0','/','l','a','w','s','.','F','n','O','n','c','e'],['l','o','o','p','.','e','x','a','m','p','l','e','/','g','0','0','9','5','0','/','l','a','w','s','.','F','n','S','h','r','e','d']]
theorem words : behindMainWord (wordsSigns Tryz.prog.initOrder.toList) = ['c','u','t'] :: ioR := by
  rw [io];kernel_rfl
theorem jLater : Tryz.prog.laysLater = false := by kernel_rfl
theorem jRefl : Tryz.prog.bearsReflect = false := by kernel_rfl
theorem jDoor : Tryz.prog.doorFits [] = true := by kernel_rfl
theorem jEnter : Tryz.prog.mayEnter = true := enter_cut _ _ words jLater jRefl jDoor
theorem jFinal : Tryz.prog.liftsFinal = false := final_cut _ _ words
theorem jMake : Tryz.prog.make = some .cut := make_cut _ _ words
end Go.Proofs.YtmfojbidojjciaaGreat
