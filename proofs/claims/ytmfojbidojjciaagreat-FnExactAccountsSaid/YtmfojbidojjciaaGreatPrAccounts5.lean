/- Texts of this claim, one behind the other: StR, EqE, StY, StZ, Eng16, Eng17, EngF, StAA, StAB, StAC, SymP, SymQ, Eng14, EncE, Swp, Sym, StbR, Stb, CptP, CatEnt. -/
import Derived.Test.YtmfojbidojjciaaGreatPrAccounts1
import Derived.Test.YtmfojbidojjciaaGreatPrAccounts4
import Derived.Test.YtmfojbidojjciaaGreatPrAccounts2
set_option linter.unusedVariables false
set_option linter.unusedSimpArgs false
set_option maxRecDepth 20000
set_option maxHeartbeats 4000000
namespace Go.Proofs.YtmfojbidojjciaaGreat
open Go.RowKit
attribute [local irreducible] Calls
theorem op_no1 {s : ByteArray} {p : Nat} (h1 : bt s p = 1) (hp : p < s.size) (h : tkE (tkW s ((p : Int) + 1)) < 0) : pOp s p = none := by
  unfold pOp
  rw [show (p : Int) + 1 = ((p + 1 : Nat) : Int) by omega,tkW_nat (by omega)] at h
  rw [if_pos hp]
  cases h2 : tkS s (p + 1) with
  | none => rfl
  | some q => rw [h2] at h;simp only [tkE] at h;omega
theorem op_yes1 {s : ByteArray} {p : Nat} (h1 : bt s p = 1) (hp : p < s.size) (h : ¬ tkE (tkW s ((p : Int) + 1)) < 0) : ∃ e : Nat,tkE (tkW s ((p : Int) + 1)) = e ∧ p + 1 < e ∧ e ≤ s.size ∧ pOp s p = some (⟨tkT (tkW s ((p : Int) + 1)),true,⟨#[]⟩⟩,e) := by
  unfold pOp
  rw [show (p : Int) + 1 = ((p + 1 : Nat) : Int) by omega,tkW_nat (by omega)] at h ⊢
  rw [if_pos hp]
  cases h2 : tkS s (p + 1) with
  | none => rw [h2] at h;exact absurd (show (-1 : Int) < 0 by decide) h
  | some q =>
    obtain ⟨r,e⟩ := q
    have h3 := tkS_some h2
    exact ⟨e,rfl,by omega,h3.2.1,by simp only [Option.bind_some];rw [if_pos h1];rfl⟩
theorem op_no2 {s : ByteArray} {p : Nat} (h1 : bt s p ≠ 1) (hp : p < s.size) (h : tkE (tkW s (tkE (tkW s ((p : Int) + 1)))) < 0) : pOp s p = none := by
  unfold pOp
  rw [show (p : Int) + 1 = ((p + 1 : Nat) : Int) by omega,tkW_nat (by omega)] at h
  rw [if_pos hp]
  cases h2 : tkS s (p + 1) with
  | none => rfl
  | some q =>
    obtain ⟨r,e⟩ := q
    have h3 := tkS_some h2
    rw [h2] at h
    simp only [tkE] at h
    rw [tkW_nat h3.2.1] at h
    simp only [Option.bind_some]
    rw [if_neg h1]
    cases h4 : tkS s e with
    | none => rfl
    | some q => rw [h4] at h;simp only [tkE] at h;omega
theorem op_yes2 {s : ByteArray} {p : Nat} (h1 : bt s p ≠ 1) (hp : p < s.size) (h : ¬ tkE (tkW s (tkE (tkW s ((p : Int) + 1)))) < 0) : ∃ e : Nat,tkE (tkW s (tkE (tkW s ((p : Int) + 1)))) = e ∧ p + 1 < e ∧ e ≤ s.size ∧ pOp s p = some (⟨tkT (tkW s ((p : Int) + 1)),false,tkT (tkW s (tkE (tkW s ((p : Int) + 1))))⟩,e) := by
  unfold pOp
  rw [show (p : Int) + 1 = ((p + 1 : Nat) : Int) by omega,tkW_nat (by omega)] at h ⊢
  rw [if_pos hp]
  cases h2 : tkS s (p + 1) with
  | none => rw [h2] at h;exact absurd (show tkE (tkW s (-1)) < 0 by rw [tkW_neg];decide) h
  | some q =>
    obtain ⟨r,e⟩ := q
    have h3 := tkS_some h2
    rw [h2] at h
    simp only [tkE] at h ⊢
    rw [tkW_nat h3.2.1] at h ⊢
    simp only [Option.bind_some]
    rw [if_neg h1]
    cases h4 : tkS s e with
    | none => rw [h4] at h;exact absurd (show (-1 : Int) < 0 by decide) h
    | some q =>
      obtain ⟨t,b⟩ := q
      have h5 := tkS_some h4
      exact ⟨b,rfl,by omega,h5.2.1,rfl⟩
structure RbA (s : ByteArray) (n : Nat) where
  i : Nat
  k : Nat
  L : List Opp
  A : Option Addr
  c : Nat
  hi : i ≤ n ∧ L.length = i
  hk : k ≤ s.size
  ok : pOps s (n - i) k L = pB s
theorem rb_no {s : ByteArray} (h : pB s = none) : fReadBatch s = ([],false) := by unfold fReadBatch;rw [h]
theorem pOps_no {s : ByteArray} {n k : Nat} {L : List Opp} (h : pOp s k = none) : pOps s (n + 1) k L = none := by unfold pOps;rw [h];rfl
theorem pOps_yes {s : ByteArray} {n k e : Nat} {L : List Opp} {o : Opp} (h : pOp s k = some (o,e)) : pOps s (n + 1) k L = pOps s n e (L ++ [o]) := by rw [pOps,h];rfl
theorem s_ReadBatch (s : ByteArray) (w : World) (hs : s.size ≤ 4194304) :
    Calls Tryz.prog 199 #[.string s] w fun e w' => ∃ y : Ys,e = .returned (.tuple #[.slice (y 0).A (fReadBatch s).1.length (y 0).c,.bool (fReadBatch s).2]) ∧ True ∧ Below w.heap.size w w' ∧ NewOk w.heap.size [.row 76 3 (y 0).A (fReadBatch s).1.length (y 0).c (fl (fReadBatch s).1)] [] w' := by
  have v0 : tkV s 0 = tkN s 0 := tkV_nat (k := 0) (Nat.zero_le _)
  cases h0 : tkN s 0 with
  | none =>
    have eB : pB s = none := by unfold pB;rw [h0];rfl
    rw [rb_no eB]
    refine ok_enter 80 Tryz.func199 rfl rfl rfl ?_
    repeat' (first|refine Wa ?_|refine Wb ?_|refine Wc ?_|refine Wd ?_|(refine ok_cond rfl (fun hc => ?_) (fun hc => ?_) <;> (have hd := hc;try simp only [jj] at hd))|refine Wg ?_|refine Wi ?_|(refine Zr 0 ?_;refine Za ?_;refine Za ?_;refine Ze1 0 ?_)|(refine Zr 1 ?_;refine Zn (by exact ms_lit rfl parts_nil rfl rfl rfl) ?_;rintro y12 hy12;refine Za ?_;refine Ze2 0 4 ?_)|(refine Zr 2 ?_;refine Zm ?_;refine Zn (by exact ms_c3 rfl rfl rfl rfl (fun _ _ w hw => s_l6Vars_no s 0 (by omega) (by omega) (v0.trans h0) w)) ?_;rintro y15 hy15;refine Zm ?_;refine Zq (ps_extract rfl rfl rfl) ?_;refine Zq (ps_extract rfl rfl rfl) ?_;refine Za ?_;refine Za ?_;refine Ze4 0 4 5 6 ?_)|(refine Zr 3 ?_;refine Zm ?_;refine Zi ?_;refine Zm ?_;refine Zg rfl rfl rfl (gF _) (fun hp => by exact ps_move rfl rfl) ?_;refine Zg rfl rfl rfl (gF _) (fun hp => by (have hpd := hp;(try simp only [jj] at hpd);exact ps_indexN rfl (Og rfl) rfl (by omega) (by exact isw_row 0 rfl (by omega)))) ?_;refine Zg rfl rfl rfl (gF _) (fun hp => by (have hpd := hp;(try simp only [jj] at hpd);exact ps_load rfl (Og rfl) (by exact Rds.cell (rds_row 0 rfl) (by exact fl_at0 _ _ (by omega) (by decide))))) ?_;refine Zg rfl rfl rfl (gF _) (fun hp => by (exact ps_int rfl (Og rfl) rfl rfl)) ?_;refine Zq (ps_or rfl rfl rfl) ?_;refine Ze5 0 4 5 6 25 ?_)|(refine Zr 4 ?_;refine Zm ?_;refine Za ?_;refine Za ?_;refine Ze2 2 3 ?_)|(refine Zr 5 ?_;refine Za ?_;refine Ze5 0 4 5 6 7 ?_))
    · exact ok_endL (vs := [_,_]) rfl ⟨rfl,rfl,trivial⟩ (fun w' hw => ⟨mkY (ga (y12 0).c) 0 w',rfl,trivial,hw.below,NewOk.of (hw.sel [1] (by decide) rfl (G' := []) (fun _ h => by cases h))⟩)
    · exfalso;omega
  | some p =>
    obtain ⟨n,a⟩ := p
    have hn := tkN_some h0
    obtain ⟨LN,hLN⟩ : ∃ L,L = [(n : Int)] := ⟨_,rfl⟩
    have hLN1 : LN.length = 1 := by rw [hLN];rfl
    have hLN2 : nth LN (Int.toNat 0) = n := by rw [hLN];rfl
    refine ok_enter 80 Tryz.func199 rfl rfl rfl ?_
    repeat' (first|refine Wa ?_|refine Wb ?_|refine Wc ?_|refine Wd ?_|(refine ok_cond rfl (fun hc => ?_) (fun hc => ?_) <;> (have hd := hc;try simp only [jj] at hd))|refine Wg ?_|refine Wi ?_|(refine Zr 0 ?_;refine Za ?_;refine Za ?_;refine Ze1 0 ?_)|(refine Zr 1 ?_;refine Zn (by exact ms_lit rfl parts_nil rfl rfl rfl) ?_;rintro y12 hy12;refine Za ?_;refine Ze2 0 4 ?_)|(refine Zr 2 ?_;refine Zm ?_;refine Zn (by exact ms_c3 rfl rfl rfl rfl (fun _ _ w hw => s_l6Vars_yes s 0 n a LN hLN (by omega) (by omega) (v0.trans h0) w)) ?_;rintro y15 hy15;refine Zm ?_;refine Zq (ps_extract rfl rfl rfl) ?_;refine Zq (ps_extract rfl rfl rfl) ?_;refine Za ?_;refine Za ?_;refine Ze4 0 4 5 6 ?_)|(refine Zr 3 ?_;refine Zm ?_;refine Zi ?_;refine Zm ?_;refine Zg rfl rfl rfl (gF _) (fun hp => by exact ps_move rfl rfl) ?_;refine Zg rfl rfl rfl (gF _) (fun hp => by (have hpd := hp;(try simp only [jj] at hpd);exact ps_index rfl (Og rfl) rfl (by omega) (by exact isw_row 0 rfl (by omega)))) ?_;refine Zg rfl rfl rfl (gF _) (fun hp => by (have hpd := hp;(try simp only [jj] at hpd);exact ps_load rfl (Og rfl) (by exact Rds.cell (rds_row 0 rfl) (by exact fl_at0 _ _ (by omega) (by decide))))) ?_;refine Zg rfl rfl rfl (gF _) (fun hp => by (exact ps_int rfl (Og rfl) rfl rfl)) ?_;refine Zq (ps_or rfl rfl rfl) ?_;refine Ze5 0 4 5 6 25 ?_)|(refine Zr 4 ?_;refine Zm ?_;refine Za ?_;refine Za ?_;refine Ze2 2 3 ?_)|(refine Zr 5 ?_;refine Za ?_;refine Ze5 0 4 5 6 7 ?_))
    · have eB : pB s = none := by
        unfold pB;rw [h0];simp only [Option.bind_some];rw [if_neg (by omega)]
      rw [rb_no eB]
      exact ok_endL (vs := [_,_]) rfl ⟨rfl,rfl,trivial⟩ (fun w' hw => ⟨mkY (ga (y12 0).c) 0 w',rfl,trivial,hw.below,NewOk.of (hw.sel [1] (by decide) rfl (G' := []) (fun _ h => by cases h))⟩)
    have h6 : n ≤ 6 := by omega
    clear hc hd
    have e0 : pOps s n a [] = pB s := by unfold pB;rw [h0];simp only [Option.bind_some];rw [if_pos h6]
    refine ok_loop (ι := RbA s n) (fun q => n - q.i) (fun q => ([(0,.string s),(4,.slice q.A q.L.length q.c),(5,.slice (y15 0).A 1 (y15 0).c),(6,.int .i64 q.k),(7,.int .i64 q.i)],[.row 76 3 q.A q.L.length q.c (fl q.L),.row 3 1 (y15 0).A 1 (y15 0).c (fl LN)],_)) ⟨0,a,[],ga (y12 0).c,0,by simp,by omega,e0⟩ (fun a' w he hw => ⟨⟨0,a,[],ga (y12 0).c,0,by simp,by omega,e0⟩,he.sub ⟨rfl,rfl,rfl,rfl,rfl,trivial⟩,hw.front 1 rfl⟩) ?_
    rintro ⟨i,k,L,A,c,hi,hk,ok⟩
    simp only at hi hk ok ⊢
    have OK := Lib.hid ok;clear ok
    have t1 := tkE_le s ((k : Int) + 1)
    have hbt := bt_lt s k
    repeat' (first|refine Wa ?_|refine Wb ?_|refine Wc ?_|refine Wd ?_|refine We ?_|refine Wf ?_|(refine ok_cond rfl (fun hc => ?_) (fun hc => ?_) <;> (have hd := hc;try simp only [jj] at hd))|refine Wg ?_|refine Wh ?_|refine Wi ?_|(refine Zr 6 ?_;refine Zm ?_;refine Zm ?_;refine Zq (by exact ps_index rfl rfl rfl (by omega) (by exact isw_row 1 rfl (by omega))) ?_;refine Zq (by exact ps_load rfl rfl (by exact Rds.cell (rds_row 1 rfl) (by exact fl_at0 _ _ (by omega) (by decide)))) ?_;refine Zi ?_;refine Ze6 0 4 5 6 7 31 ?_)|(refine Zr 7 ?_;refine Zm ?_;refine Zq (by exact ps_add rfl rfl rfl (by omega)) ?_;refine Za ?_;refine Ze5 0 4 5 6 7 ?_)|(refine Zr 8 ?_;refine Zm ?_;refine Zm ?_;refine Zq (ps_slen rfl rfl) ?_;refine Zi ?_;refine Ze6 0 4 5 6 7 37 ?_)|(refine Zr 9 ?_;refine Zn (by exact ms_lit rfl parts_nil rfl rfl rfl) ?_;rintro y38 hy38;refine Za ?_;refine Za ?_;refine Ze2 2 3 ?_)|(refine Zr 10 ?_;refine Zm ?_;refine Zm ?_;refine Zq (by exact ps_sidxE k rfl rfl rfl rfl (by omega)) ?_;refine Zi ?_;refine Za ?_;refine Ze6 0 4 5 6 7 8 ?_)|(refine Zr 11 ?_;refine Zm ?_;refine Zm ?_;refine Zq (by exact ps_add rfl rfl rfl (by omega)) ?_;refine Zn (by exact ms_s2 rfl rfl rfl (fun _ _ w hw => s_l6Take_c s _ (by omega) (by omega) w)) ?_;rintro y47 hy47;refine Zm ?_;refine Zq (ps_extract rfl rfl rfl) ?_;refine Zq (ps_extract rfl rfl rfl) ?_;refine Za ?_;refine Za ?_;refine Ze7 0 4 5 7 8 9 10 ?_)|(refine Zr 12 ?_;refine Za ?_;refine Ze8 0 4 5 7 8 9 10 11 ?_)|(refine Zr 13 ?_;refine Zm ?_;refine Zq (ps_not rfl rfl) ?_;refine Ze9 0 4 5 7 8 9 10 11 51 ?_)|(refine Zr 14 ?_;refine Zm ?_;refine Zm ?_;refine Zn (by exact ms_s2 rfl rfl rfl (fun _ _ w hw => s_l6Take_c s _ (by omega) (by omega) w)) ?_;rintro y55 hy55;refine Zm ?_;refine Zq (ps_extract rfl rfl rfl) ?_;refine Zq (ps_extract rfl rfl rfl) ?_;refine Za ?_;refine Za ?_;refine Ze8 0 4 5 7 8 9 10 11 ?_)|(refine Zr 15 ?_;refine Zm ?_;refine Zi ?_;refine Ze9 0 4 5 7 8 9 10 11 59 ?_)|(refine Zr 16 ?_;refine Zn (by exact ms_lit rfl parts_nil rfl rfl rfl) ?_;rintro y60 hy60;refine Za ?_;refine Za ?_;refine Ze2 2 3 ?_)|(refine Zr 17 ?_;refine Zm ?_;refine Zm ?_;refine Zm ?_;refine Zm ?_;refine Zq (by exact ps_bld rfl (parts_cons rfl (parts_cons rfl (parts_cons rfl parts_nil))) rfl) ?_;refine Zn (by exact ms_lit rfl (parts_cons rfl parts_nil) rfl rfl rfl) ?_;rintro y66 hy66;refine Zn (by first | exact ms_appF (α := Opp) (L := L) (M := [(⟨tkT (tkW s ((k : Int) + 1)),((bt s k : Int) == 1),⟨#[]⟩⟩ : Opp)]) 1 rfl rfl rfl rfl (rds_row 0 rfl) rfl (by simp;omega) (by simp;omega) | exact ms_appF (α := Opp) (L := L) (M := [(⟨tkT (tkW s ((k : Int) + 1)),((bt s k : Int) == 1),tkT (tkW s (tkE (tkW s ((k : Int) + 1))))⟩ : Opp)]) 1 rfl rfl rfl rfl (rds_row 0 rfl) rfl (by simp;omega) (by simp;omega)) ?_;rintro y67 hy67;refine Za ?_;refine Ze5 0 4 5 7 10 ?_)|(refine Zr 18 ?_;refine Zm ?_;refine Za ?_;refine Ze5 0 4 5 6 7 ?_)|(refine Zr 19 ?_;refine Zm ?_;refine Zq (ps_len rfl rfl) ?_;refine Zi ?_;refine Zm ?_;refine Zg rfl rfl rfl (gF _) (fun hp => by exact ps_move rfl rfl) ?_;refine Zh rfl rfl rfl (gF _) (fun hp => by (have hpd := hp;(try simp only [jj] at hpd);exact ms_s1 rfl (Og rfl) (fun _ _ w hw => s_ShowBatch A c L w (hw.row 0 rfl) (by omega)))) ?_;refine Zg rfl rfl rfl (gF _) (fun hp => by exact ps_move rfl rfl) ?_;refine Zg rfl rfl rfl (gF _) (fun hp => by (exact ps_str rfl (Og rfl) (Og rfl) rfl)) ?_;refine Zq (ps_or rfl rfl rfl) ?_;refine Ze2 4 77 ?_)|(refine Zr 20 ?_;refine Zn (by exact ms_lit rfl parts_nil rfl rfl rfl) ?_;rintro y78 hy78;refine Za ?_;refine Za ?_;refine Ze2 2 3 ?_)|(refine Zr 21 ?_;refine Zm ?_;refine Za ?_;refine Za ?_;refine Ze2 2 3 ?_))
    · have eB : pB s = none := by
        rw [← OK.out,show n - i = (n - i - 1) + 1 by omega]
        exact pOps_no (by unfold pOp;rw [if_neg (by omega)])
      rw [rb_no eB]
      exact ok_endL (vs := [_,_]) rfl ⟨rfl,rfl,trivial⟩ (fun w' hw => ⟨mkY (ga (y38 0).c) 0 w',rfl,trivial,hw.below,NewOk.of (hw.sel [0] (by decide) rfl (G' := []) (fun _ h => by cases h))⟩)
    · have hb : ¬ (bt s k : Int) = 1 := by assumption
      have eB : pB s = none := by
        rw [← OK.out,show n - i = (n - i - 1) + 1 by omega]
        exact pOps_no (op_no2 (by omega) (by omega) hd)
      rw [rb_no eB]
      exact ok_endL (vs := [_,_]) rfl ⟨rfl,rfl,trivial⟩ (fun w' hw => ⟨mkY (ga (y60 0).c) 0 w',rfl,trivial,hw.below,NewOk.of (hw.sel [0] (by decide) rfl (G' := []) (fun _ h => by cases h))⟩)
    · have hb : ¬ (bt s k : Int) = 1 := by assumption
      have hb2 : ((bt s k : Int) == 1) = false := by simpa using hb
      obtain ⟨e,e1,e2,e3,e4⟩ := op_yes2 (p := k) (show bt s k ≠ 1 by omega) (by omega) hd
      refine fun a' w' he hw => ⟨⟨i + 1,e,L ++ [⟨tkT (tkW s ((k : Int) + 1)),false,tkT (tkW s (tkE (tkW s ((k : Int) + 1))))⟩],(y67 0).A,(y67 0).c,by simp;omega,e3,?_⟩,by simp only;omega,he.sub ⟨rfl,by simp only [List.length_append];rfl,rfl,by rw [← e1];rfl,rfl,trivial⟩,?_⟩
      · rw [← OK.out,show n - i = (n - i - 1) + 1 by omega,pOps_yes e4,show n - (i + 1) = n - i - 1 by omega]
      · simp only [List.length_append];rw [← hb2];exact hw.tl
    · have hb : (bt s k : Int) = 1 := by assumption
      have eB : pB s = none := by
        rw [← OK.out,show n - i = (n - i - 1) + 1 by omega]
        exact pOps_no (op_no1 (by omega) (by omega) hd)
      rw [rb_no eB]
      exact ok_endL (vs := [_,_]) rfl ⟨rfl,rfl,trivial⟩ (fun w' hw => ⟨mkY (ga (y60 0).c) 0 w',rfl,trivial,hw.below,NewOk.of (hw.sel [0] (by decide) rfl (G' := []) (fun _ h => by cases h))⟩)
    · have hb : (bt s k : Int) = 1 := by assumption
      have hb2 : ((bt s k : Int) == 1) = true := by simpa using hb
      obtain ⟨e,e1,e2,e3,e4⟩ := op_yes1 (p := k) (show bt s k = 1 by omega) (by omega) hd
      refine fun a' w' he hw => ⟨⟨i + 1,e,L ++ [⟨tkT (tkW s ((k : Int) + 1)),true,⟨#[]⟩⟩],(y67 0).A,(y67 0).c,by simp;omega,e3,?_⟩,by simp only;omega,he.sub ⟨rfl,by simp only [List.length_append];rfl,rfl,by rw [← e1];rfl,rfl,trivial⟩,?_⟩
      · rw [← OK.out,show n - i = (n - i - 1) + 1 by omega,pOps_yes e4,show n - (i + 1) = n - i - 1 by omega]
      · simp only [List.length_append];rw [← hb2];exact hw.tl
    · have eB : pB s = some (L,k) := by rw [← OK.out,show n - i = 0 by omega];rfl
      have eR : fReadBatch s = ([],false) := by
        unfold fReadBatch
        rw [eB]
        simp only
        rw [if_neg]
        intro e
        rcases hd with hd | hd
        · obtain rfl : L = [] := List.length_eq_zero_iff.1 (by omega)
          have e0 : fShowBatch [] = ⟨#[]⟩ := rfl
          rw [e0] at e
          have : (⟨#[]⟩ : ByteArray).size = 0 := rfl
          rw [e] at this
          omega
        · rw [e,sEq_ref] at hd;cases hd
      rw [eR]
      exact ok_endL (vs := [_,_]) rfl ⟨rfl,rfl,trivial⟩ (fun w' hw => ⟨mkY (ga (y78 0).c) 0 w',rfl,trivial,hw.below,NewOk.of (hw.sel [0] (by decide) rfl (G' := []) (fun _ h => by cases h))⟩)
    · have eB : pB s = some (L,k) := by rw [← OK.out,show n - i = 0 by omega];rfl
      have eR : fReadBatch s = (L,true) := by
        unfold fReadBatch
        rw [eB]
        simp only
        rw [if_pos (sEq_t hd.2)]
      rw [eR]
      exact ok_endL (vs := [_,_]) rfl ⟨rfl,rfl,trivial⟩ (fun w' hw => ⟨mkY A c w',rfl,trivial,hw.below,NewOk.of (hw.sel [0] (by decide) rfl (G' := []) (fun _ h => by cases h))⟩)
theorem rdF_ok {s : ByteArray} {k : Nat} (h : rdFx s k false = false) : k < s.size ∧ bt s k ≤ 1 ∧ rdFk s k false = k + 1 ∧ rdFb s k false = decide (bt s k = 1) := by
  unfold rdFx at h
  split at h
  · cases h
  · rename_i h0
    have hk : k < s.size := by omega
    have e : (gb s k).toNat = bt s k := (gb_bt s k hk).symm
    refine ⟨hk,?_,by unfold rdFk;rw [if_neg h0],?_⟩
    · rcases Bool.and_eq_false_iff.1 h with h1 | h1
      · have : gb s k = 0 := by simpa using h1
        rw [this] at e;rw [← e];decide
      · have : gb s k = 1 := by simpa using h1
        rw [this] at e;rw [← e];decide
    · unfold rdFb
      rw [Bool.eq_iff_iff]
      simp only [Bool.not_false,Bool.true_and,Bool.and_eq_true,decide_eq_true_eq,beq_iff_eq]
      constructor
      · rintro ⟨_,h1⟩;rw [h1] at e;rw [← e];rfl
      · intro h1;exact ⟨hk,UInt8.toNat_inj.1 (by rw [e,h1];rfl)⟩
theorem rdF_no {s : ByteArray} {k : Nat} (h : rdFx s k false = true) : pOpI s k = none := by
  unfold rdFx at h
  split at h
  · rename_i h0
    unfold pOpI pOp
    split
    · rw [if_neg (by rcases h0 with h0 | h0;cases h0;omega)]
    · rfl
  · rename_i h0
    have hk : k < s.size := by omega
    have e : (gb s k).toNat = bt s k := (gb_bt s k hk).symm
    unfold pOpI
    rw [if_neg]
    intro hb
    rw [Bool.and_eq_true] at h
    have h1 : gb s k ≠ 0 := by simpa using h.1
    have h2 : gb s k ≠ 1 := by simpa using h.2
    rcases Nat.le_one_iff_eq_zero_or_eq_one.1 hb with hb | hb
    · exact h1 (UInt8.toNat_inj.1 (by rw [e,hb];rfl))
    · exact h2 (UInt8.toNat_inj.1 (by rw [e,hb];rfl))
theorem rdFk_le (s : ByteArray) (k : Nat) (b : Bool) (h : k ≤ s.size) : rdFk s k b ≤ s.size := by
  unfold rdFk;split <;> omega
def rK (s : ByteArray) (k : Nat) : ByteArray × Nat × Bool := rdS s (rdFk s k false) (rdFx s k false)
def rV (s : ByteArray) (k : Nat) : ByteArray × Nat × Bool := rdS s (rK s k).2.1 (rK s k).2.2
theorem rK_bad {s : ByteArray} {k : Nat} (h : rdFx s k false = true) : (rK s k).2.2 = true := by unfold rK;rw [h];exact rdS_bad _ _
theorem rd_del {s : ByteArray} {k : Nat} (hd : rdFb s k false = true) (h : (rK s k).2.2 = false) : ∃ e : Nat,(rK s k).2.1 = e ∧ k < e ∧ e ≤ s.size ∧ pOpI s k = some (⟨(rK s k).1,true,⟨#[]⟩⟩,e) := by
  cases hx : rdFx s k false with
  | true => rw [rK_bad hx] at h;cases h
  | false =>
    obtain ⟨h1,h2,h3,h4⟩ := rdF_ok hx
    rw [hd] at h4
    have hb : bt s k = 1 := by simpa using h4.symm
    unfold rK at h ⊢
    rw [hx,h3] at h ⊢
    rcases rdS_or s (k + 1) with ⟨_,h5⟩ | ⟨r,e,h5,h6⟩
    · rw [h5] at h;cases h
    · have h7 := tkS_some h5
      rw [h6]
      refine ⟨e,rfl,by omega,h7.2.1,?_⟩
      unfold pOpI pOp
      rw [if_pos (by omega),if_pos h1,h5]
      simp only [Option.bind_some]
      rw [if_pos hb]
theorem rd_del_no {s : ByteArray} {k : Nat} (hd : rdFb s k false = true) (h : (rK s k).2.2 = true) : pOpI s k = none := by
  cases hx : rdFx s k false with
  | true => exact rdF_no hx
  | false =>
    obtain ⟨h1,h2,h3,h4⟩ := rdF_ok hx
    unfold rK at h
    rw [hx,h3] at h
    rcases rdS_or s (k + 1) with ⟨h5,_⟩ | ⟨r,e,h5,h6⟩
    · unfold pOpI pOp
      rw [if_pos h2,if_pos h1,h5];rfl
    · rw [h6] at h;cases h
theorem rd_put {s : ByteArray} {k : Nat} (hd : rdFb s k false = false) (h : (rV s k).2.2 = false) : ∃ e : Nat,(rV s k).2.1 = e ∧ k < e ∧ e ≤ s.size ∧ pOpI s k = some (⟨(rK s k).1,false,(rV s k).1⟩,e) := by
  cases hx : rdFx s k false with
  | true => unfold rV at h;rw [rK_bad hx,rdS_bad] at h;cases h
  | false =>
    obtain ⟨h1,h2,h3,h4⟩ := rdF_ok hx
    rw [hd] at h4
    have hb : ¬ bt s k = 1 := by simpa using h4.symm
    unfold rV rK at h ⊢
    rw [hx,h3] at h ⊢
    rcases rdS_or s (k + 1) with ⟨_,h5⟩ | ⟨r,e,h5,h6⟩
    · rw [h5,rdS_bad] at h;cases h
    · have h7 := tkS_some h5
      rw [h6] at h ⊢
      simp only at h ⊢
      rcases rdS_or s e with ⟨_,h8⟩ | ⟨t,b,h8,h9⟩
      · rw [h8] at h;cases h
      · have h10 := tkS_some h8
        rw [h9]
        refine ⟨b,rfl,by omega,h10.2.1,?_⟩
        unfold pOpI pOp
        rw [if_pos h2,if_pos h1,h5]
        simp only [Option.bind_some]
        rw [if_neg hb,h8];rfl
theorem rd_put_no {s : ByteArray} {k : Nat} (hd : rdFb s k false = false) (h : (rV s k).2.2 = true) : pOpI s k = none := by
  cases hx : rdFx s k false with
  | true => exact rdF_no hx
  | false =>
    obtain ⟨h1,h2,h3,h4⟩ := rdF_ok hx
    rw [hd] at h4
    have hb : ¬ bt s k = 1 := by simpa using h4.symm
    unfold rV rK at h
    rw [hx,h3] at h
    unfold pOpI pOp
    rw [if_pos h2,if_pos h1]
    rcases rdS_or s (k + 1) with ⟨h5,_⟩ | ⟨r,e,h5,h6⟩
    · rw [h5];rfl
    · rw [h6] at h
      simp only at h
      rw [h5]
      simp only [Option.bind_some]
      rw [if_neg hb]
      rcases rdS_or s e with ⟨h8,_⟩ | ⟨t,b,h8,h9⟩
      · rw [h8];rfl
      · rw [h9] at h;cases h
structure RbI (s : ByteArray) (n : Nat) where
  i : Nat
  k : Nat
  bad : Bool
  L : List Opp
  A : Option Addr
  c : Nat
  hk : k ≤ s.size
  hi : i ≤ 6 ∧ i ≤ n ∧ L.length = i
  ok : bad = false → (n ≤ 6 → pOpsI s (n - i) k L = piB s) ∧ (6 < n → piB s = none)
  no : bad = true → piB s = none
theorem pI_no {s : ByteArray} {n k : Nat} {L : List Opp} (h : pOpI s k = none) : pOpsI s (n + 1) k L = none := by unfold pOpsI;rw [h];rfl
theorem pI_yes {s : ByteArray} {n k e : Nat} {L : List Opp} {o : Opp} (h : pOpI s k = some (o,e)) : pOpsI s (n + 1) k L = pOpsI s n e (L ++ [o]) := by rw [pOpsI,h];rfl
theorem rb_start (s : ByteArray) : ((rdN s 0 false).2.2 = true → piB s = none) ∧ ((rdN s 0 false).2.2 = false → ((rdN s 0 false).1 ≤ 6 → pOpsI s (rdN s 0 false).1 (rdN s 0 false).2.1 [] = piB s) ∧ (6 < (rdN s 0 false).1 → piB s = none)) := by
  unfold piB
  rcases rdN_or s 0 with ⟨h1,h2⟩ | ⟨n,e,h1,h2⟩
  · rw [h1,h2];exact ⟨fun _ => rfl,fun h => (by cases h)⟩
  · rw [h1,h2]
    simp only [Option.bind_some]
    refine ⟨fun h => (by cases h),fun _ => ⟨fun h => by rw [if_pos h],fun h => by rw [if_neg (by omega)]⟩⟩
theorem rb_step_no {s : ByteArray} {n i k : Nat} {L : List Opp} (ok : (n ≤ 6 → pOpsI s (n - i) k L = piB s) ∧ (6 < n → piB s = none)) (hi : i < n) (h : pOpI s k = none) : piB s = none := by
  rcases Nat.lt_or_ge 6 n with h6 | h6
  · exact ok.2 h6
  · rw [← ok.1 h6,show n - i = (n - i - 1) + 1 by omega];exact pI_no h
theorem rb_step_yes {s : ByteArray} {n i k e : Nat} {L : List Opp} {o : Opp} (ok : (n ≤ 6 → pOpsI s (n - i) k L = piB s) ∧ (6 < n → piB s = none)) (hi : i < n) (h : pOpI s k = some (o,e)) : (n ≤ 6 → pOpsI s (n - (i + 1)) e (L ++ [o]) = piB s) ∧ (6 < n → piB s = none) :=
  ⟨fun h6 => by rw [← ok.1 h6,show n - i = (n - i - 1) + 1 by omega,pI_yes h,show n - (i + 1) = n - i - 1 by omega],ok.2⟩
theorem i_ReadBatch (s : ByteArray) (w : World) (hs : s.size ≤ 4194304) :
    Calls Tryz.prog 274 #[.string s] w fun e w' => ∃ y : Ys,e = .returned (.tuple #[.slice (y 0).A (fReadBatch s).1.length (y 0).c,.bool (fReadBatch s).2]) ∧ True ∧ Below w.heap.size w w' ∧ NewOk w.heap.size [.row 76 3 (y 0).A (fReadBatch s).1.length (y 0).c (fl (fReadBatch s).1)] [] w' := by
  have hn0 := rdN_le s 0 false (Nat.zero_le _)
  have hst := rb_start s
  have er := read_i s
  refine ok_enter 50 Tryz.func274 rfl rfl rfl ?_
  repeat' (first|refine Wa ?_|refine Wb ?_|refine Wd ?_|(refine Zr 0 ?_;refine Za ?_;refine Za ?_;refine Ze1 0 ?_)|(refine Zr 1 ?_;refine Zm ?_;refine Zq (by exact ps_bld rfl (parts_cons rfl parts_nil) rfl) ?_;refine Zn (ms_alloc rfl) ?_;rintro y4 hy4;refine Zo (ms_store 0 rfl rfl rfl rfl rfl rfl rfl rfl) ?_;rintro y_ hy_;refine Ze1 4 ?_)|(refine Zr 2 ?_;refine Zn (by exact ms_wr 0 rfl rfl rfl rfl (fun _ _ w hw => rdN_c _ s 0 false (by omega) (by omega) hw)) ?_;rintro y11 hy11;refine Za ?_;refine Ze2 4 5 ?_)|(refine Zr 3 ?_;refine Za ?_;refine Ze3 4 5 6 ?_)|(refine Zr 4 ?_;refine Za ?_;refine Ze4 4 5 6 7 ?_))
  generalize (rdN s 0 false).1 = n at hn0 hst ⊢
  generalize (rdN s 0 false).2.1 = k0 at hn0 hst ⊢
  generalize (rdN s 0 false).2.2 = b0 at hn0 hst ⊢
  refine ok_loop (ι := RbI s n) (fun q => 6 - q.i) (fun q => ([(4,pt (ga (y4 0).c) 0),(5,.int .i64 n),(6,.slice q.A q.L.length q.c),(7,.int .i64 q.i)],[.row 76 3 q.A q.L.length q.c (fl q.L),rdr (y4 0).c s q.k q.bad],_)) ⟨0,k0,b0,[],none,0,hn0.1,by simp,hst.2,hst.1⟩ (fun a' w he hw => ⟨⟨0,k0,b0,[],none,0,hn0.1,by simp,hst.2,hst.1⟩,he.sub ⟨rfl,rfl,rfl,rfl,trivial⟩,hw.rowNil 76 3⟩) ?_
  clear hst
  rintro ⟨i,k,bad,L,A,c,hk,hi,ok,no⟩
  simp only at hk hi ok no ⊢
  have OK := Lib.hid ok;clear ok
  have NO := Lib.hid no;clear no
  have ER := Lib.hid er;clear er
  have k1 := rdFk_le s k false hk
  have k2 : (rK s k).2.1 ≤ s.size := rdS_le _ _ _ k1
  have k3 : (rV s k).2.1 ≤ s.size := rdS_le _ _ _ k2
  repeat' ((fail_if_success (refine at_reg 7 ?_));first
    | refine Wa ?_
    | refine Wb ?_
    | refine Wc ?_
    | refine Wd ?_
    | (refine ok_cond rfl (fun hc => ?_) (fun hc => ?_) <;> (have hd := hc;try simp only [jj] at hd))
    | refine Wg ?_
    | refine Wh ?_
    | refine Wi ?_
    | (refine Zr 5 ?_;refine Zm ?_;refine Zm ?_;refine Zq (ps_min rfl rfl rfl) ?_;refine Zi ?_;refine Zm ?_;refine Zg rfl rfl rfl (gT _) (fun hp => by exact ps_field rfl rfl (isw_ga _)) ?_;refine Zg rfl rfl rfl (gT _) (fun hp => by (exact ps_load rfl (Og rfl) (by exact Rds.cell (rds_box 1 rfl) rfl))) ?_;refine Zg rfl rfl rfl (gT _) (fun hp => by (exact ps_not rfl (Og rfl))) ?_;refine Zq (ps_and rfl rfl rfl) ?_;refine Ze5 4 5 6 7 20 ?_)
    | (refine Zr 12 ?_;refine Zn (by exact ms_wr 1 rfl rfl rfl rfl (fun _ _ w hw => rdD_c _ s k bad hw)) ?_;rintro y36 hy36;refine Zq (ps_not rfl rfl) ?_;refine Zm ?_;refine Zg rfl rfl rfl (gF _) (fun hp => by exact ps_move rfl rfl) ?_;refine Zg rfl rfl rfl (gF _) (fun hp => by (exact ps_len rfl (Og rfl))) ?_;refine Zg rfl rfl rfl (gF _) (fun hp => by exact ps_move rfl rfl) ?_;refine Zg rfl rfl rfl (gF _) (fun hp => by (exact ps_int rfl (Og rfl) (Og rfl) rfl)) ?_;refine Zq (ps_or rfl rfl rfl) ?_;refine Zm ?_;refine Zg rfl rfl rfl (gF _) (fun hp => by exact ps_move rfl rfl) ?_;refine Zh rfl rfl rfl (gF _) (fun hp => by (have hpd := hp;(try simp only [jj] at hpd);exact ms_s1 rfl (Og rfl) (fun _ _ w hw => i_BatchOk A c L w (hw.row 0 rfl) (by omega)))) ?_;refine Zg rfl rfl rfl (gF _) (fun hp => by (exact ps_not rfl (Og rfl))) ?_;refine Zq (ps_or rfl rfl rfl) ?_;refine Ze2 6 48 ?_)
    | (refine Zr 13 ?_;refine Za ?_;refine Za ?_;refine Ze2 2 3 ?_)
    | (refine Zr 14 ?_;refine Zm ?_;refine Za ?_;refine Za ?_;refine Ze2 2 3 ?_))
  · have hb : bad = false := hd.2
    subst hb
    have hlt : i < n ∧ i < 6 := by have h1 := hd.1;first | omega | (split at h1 <;> omega)
    clear hc hd
    repeat' (first|refine Wa ?_|refine Wb ?_|refine We ?_|(refine ok_cond rfl (fun hc => ?_) (fun hc => ?_) <;> (have hd := hc;try simp only [jj] at hd))|refine Wi ?_|(refine Zr 6 ?_;refine Zm ?_;refine Zq (by exact ps_add rfl rfl rfl (by omega)) ?_;refine Za ?_;refine Ze4 4 5 6 7 ?_)|(refine Zr 7 ?_;refine Zn (by exact ms_wr 1 rfl rfl rfl rfl (fun _ _ w hw => rdF_c _ s k false (by omega) (by omega) hw)) ?_;rintro y23 hy23;refine Zq (by exact ps_bld rfl (parts_cons rfl parts_nil) rfl) ?_;refine Zn (ms_alloc rfl) ?_;rintro y8 hy8;refine Zo (ms_store 0 rfl rfl rfl rfl rfl rfl rfl rfl) ?_;rintro y_ hy_;refine Ze5 4 5 6 7 8 ?_)|(refine Zr 8 ?_;refine Zn (by exact ms_wr 2 rfl rfl rfl rfl (fun _ _ w hw => rdS_c _ s (rdFk s k false) (rdFx s k false) (by omega) (by omega) hw)) ?_;rintro y25 hy25;refine Zf ?_;refine Zo (ms_store 0 rfl rfl rfl rfl rfl rfl rfl rfl) ?_;rintro y_ hy_;refine Ze5 4 5 6 7 8 ?_)|(refine Zr 9 ?_;refine Zf ?_;refine Zl 0 ?_;refine Zq (ps_not rfl rfl) ?_;refine Ze6 4 5 6 7 8 29 ?_)|(refine Zr 10 ?_;refine Zn (by exact ms_wr 2 rfl rfl rfl rfl (fun _ _ w hw => rdS_c _ s (rK s k).2.1 (rK s k).2.2 (by omega) (by omega) hw)) ?_;rintro y30 hy30;refine Zf ?_;refine Zo (ms_store 0 rfl rfl rfl rfl rfl rfl rfl rfl) ?_;rintro y_ hy_;refine Ze5 4 5 6 7 8 ?_)|(refine Zr 11 ?_;refine Zm ?_;refine Zq (by exact ps_loads rfl rfl (by exact rds_box 0 rfl) rfl rfl (by decide)) ?_;refine Zn (by exact ms_lit rfl (parts_cons rfl parts_nil) rfl rfl rfl) ?_;rintro y34 hy34;refine Zn (by first | exact ms_appF (α := Opp) (L := L) (M := [(⟨(rK s k).1,rdFb s k false,(rV s k).1⟩ : Opp)]) 2 rfl rfl rfl rfl (rds_row 0 rfl) rfl (by simp;omega) (by simp;omega) | exact ms_appF (α := Opp) (L := L) (M := [(⟨(rK s k).1,rdFb s k false,⟨#[]⟩⟩ : Opp)]) 2 rfl rfl rfl rfl (rds_row 0 rfl) rfl (by simp;omega) (by simp;omega)) ?_;rintro y35 hy35;refine Za ?_;refine Ze4 4 5 6 7 ?_))
    · refine fun a' w' he hw => ⟨⟨i + 1,(rV s k).2.1,(rV s k).2.2,L ++ [⟨(rK s k).1,rdFb s k false,(rV s k).1⟩],(y35 0).A,(y35 0).c,k3,by simp;omega,fun h => ?_,fun h => ?_⟩,by simp only;omega,he.sub ⟨rfl,rfl,by simp only [List.length_append];rfl,rfl,trivial⟩,by simp only [List.length_append];exact hw.tl.tl⟩
      · obtain ⟨e,e1,e2,e3,e4⟩ := rd_put hd h
        rw [hd,e1]
        exact rb_step_yes (OK.out rfl) hlt.1 e4
      · exact rb_step_no (OK.out rfl) hlt.1 (rd_put_no hd h)
    · refine fun a' w' he hw => ⟨⟨i + 1,(rK s k).2.1,(rK s k).2.2,L ++ [⟨(rK s k).1,rdFb s k false,⟨#[]⟩⟩],(y35 0).A,(y35 0).c,k2,by simp;omega,fun h => ?_,fun h => ?_⟩,by simp only;omega,he.sub ⟨rfl,rfl,by simp only [List.length_append];rfl,rfl,trivial⟩,by simp only [List.length_append];exact hw.tl.tl⟩
      · obtain ⟨e,e1,e2,e3,e4⟩ := rd_del hd h
        rw [hd,e1]
        exact rb_step_yes (OK.out rfl) hlt.1 e4
      · exact rb_step_no (OK.out rfl) hlt.1 (rd_del_no hd h)
  · have eR : fReadBatch s = ([],false) := by
      rw [ER.out]
      have hx : (¬ (i : Int) < if 6 < (n : Int) then 6 else (n : Int)) ∨ bad = true := by assumption
      cases bad with
      | true => rw [NO.out rfl]
      | false =>
        rcases Nat.lt_or_ge 6 n with h6 | h6
        · rw [(OK.out rfl).2 h6]
        · have hi2 : i = n := by
            rcases hx with hx | hx
            · split at hx <;> omega
            · cases hx
          have := (OK.out rfl).1 h6
          rw [hi2,Nat.sub_self] at this
          have h7 : piB s = some (L,k) := this.symm
          rw [h7]
          simp only
          rw [if_neg]
          rintro ⟨h8,h9⟩
          subst h8
          rw [h9] at hd
          simp [rdD] at hd
          omega
    rw [eR]
    exact ok_endL (vs := [_,_]) rfl ⟨rfl,rfl,trivial⟩ (fun w' hw => ⟨mkY none 0 w',rfl,trivial,hw.below,NewOk.of ((hw.sel [] (by decide) rfl (G' := []) (fun _ h => by cases h)).rowNil 76 3)⟩)
  · have eR : fReadBatch s = (L,true) := by
      rw [ER.out]
      have hx : (¬ (i : Int) < if 6 < (n : Int) then 6 else (n : Int)) ∨ bad = true := by assumption
      obtain ⟨⟨g1,g2⟩,g3⟩ := hd
      unfold rdD at g1
      cases bad with
      | true => simp at g1
      | false =>
        have g4 : k = s.size := by simp at g1;omega
        have h6 : n ≤ 6 := by
          rcases Nat.lt_or_ge 6 n with h6 | h6
          · omega
          · exact h6
        have := (OK.out rfl).1 h6
        rw [show n - i = 0 by omega] at this
        have h7 : piB s = some (L,k) := this.symm
        rw [h7]
        simp only
        rw [if_pos ⟨g4,g3⟩]
    rw [eR]
    exact ok_endL (vs := [_,_]) rfl ⟨rfl,rfl,trivial⟩ (fun w' hw => ⟨mkY A c w',rfl,trivial,hw.below,NewOk.of (hw.sel [0] (by decide) rfl (G' := []) (fun _ h => by cases h))⟩)
theorem isPlace_c (b q : Int) (w : World) : Calls Tryz.prog 273 #[.int .i64 b,.int .i64 q] w fun e w' => e = .returned (.bool (placeOk b q)) ∧ Below w.heap.size w w' := by
  refine ok_enter 11 Tryz.func273 rfl rfl rfl ?_
  repeat' (first|refine Wa ?_|refine Wb ?_|refine Wg ?_|(refine Zr 0 ?_;refine Za ?_;refine Ze2 0 1 ?_)|(refine Zr 1 ?_;refine Zm ?_;refine Zn (by exact ms_s3 rfl rfl rfl rfl (fun _ _ w hw => in_i _ _ _ w)) ?_;rintro y6 hy6;refine Zm ?_;refine Zg rfl rfl rfl (gT _) (fun hp => by exact ps_move rfl rfl) ?_;refine Zh rfl rfl rfl (gT _) (fun hp => by (exact ms_s3 rfl (Og rfl) rfl rfl (fun _ _ w hw => in_i _ _ _ w))) ?_;refine Zq (ps_and rfl rfl rfl) ?_;refine Za ?_;refine Ze1 4 ?_))
  exact ok_endL (vs := [_]) rfl ⟨rfl,trivial⟩ (fun w' hw => ⟨rfl,hw.below⟩)
theorem l8At_c (b q : Int) (w : World) : Calls Tryz.prog 198 #[.int .i64 b,.int .i64 q] w fun e w' => e = .returned (.bool (placeOk b q)) ∧ Below w.heap.size w w' := by
  refine ok_enter 11 Tryz.func198 rfl rfl rfl ?_
  repeat' (first|refine Wa ?_|refine Wb ?_|refine Wg ?_|(refine Zr 0 ?_;refine Za ?_;refine Ze2 0 1 ?_)|(refine Zr 1 ?_;refine Zm ?_;refine Zn (by exact ms_s3 rfl rfl rfl rfl (fun _ _ w hw => in_s _ _ _ w)) ?_;rintro y6 hy6;refine Zm ?_;refine Zg rfl rfl rfl (gT _) (fun hp => by exact ps_move rfl rfl) ?_;refine Zh rfl rfl rfl (gT _) (fun hp => by (exact ms_s3 rfl (Og rfl) rfl rfl (fun _ _ w hw => in_s _ _ _ w))) ?_;refine Zq (ps_and rfl rfl rfl) ?_;refine Za ?_;refine Ze1 4 ?_))
  exact ok_endL (vs := [_]) rfl ⟨rfl,trivial⟩ (fun w' hw => ⟨rfl,hw.below⟩)
theorem place_n {b q : Int} (h : placeOk b q = true) : (0 ≤ b ∧ b ≤ 1000) ∧ (0 ≤ q ∧ q ≤ 999999) ∧ b * 1000000 + q = (rowN b q : Int) ∧ rowN b q ≤ 562949953421311 := by
  unfold placeOk at h
  rw [Bool.and_eq_true,inB_true,inB_true] at h
  unfold rowN
  omega
theorem rowNonce_c (b q : Int) (h : placeOk b q = true) (w : World) : Calls Tryz.prog 276 #[.int .i64 b,.int .i64 q] w fun e w' => e = .returned (.string (nonF 3 (rowN b q))) ∧ Below w.heap.size w w' := by
  obtain ⟨h1,h2,h3,h4⟩ := place_n h
  refine ok_enter 10 Tryz.func276 rfl rfl rfl ?_
  repeat' (first|refine Wa ?_|refine Wb ?_|refine Wg ?_|(refine Zr 0 ?_;refine Za ?_;refine Ze2 0 1 ?_)|(refine Zr 1 ?_;refine Zm ?_;refine Zq (by exact ps_mul rfl rfl rfl (by omega)) ?_;refine Zm ?_;refine Zq (by exact ps_cast (v' := .int .i64 (rowN b q : Int)) (ps_add rfl rfl rfl (by omega)) (congrArg (Value.int .i64) h3)) ?_;refine Zn (by exact ms_s2 rfl rfl rfl (fun _ _ w hw => i_NonceOf 3 _ (by omega) h4 w)) ?_;rintro y9 hy9;refine Za ?_;refine Ze1 4 ?_))
  exact ok_endL (vs := [_]) rfl ⟨rfl,trivial⟩ (fun w' hw => ⟨rfl,hw.below⟩)
theorem open_no {key : ByteArray} {b q : Int} {s : ByteArray} (h : openOk key b q = false) : openF key b q s = ([],false) := by unfold openF;rw [if_neg (by rw [h];decide)]
theorem open_yes {key : ByteArray} {b q : Int} {s : ByteArray} (h : openOk key b q = true) : openF key b q s = fReadBatch (strmF key (nonF 3 (rowN b q)) s) := by unfold openF;rw [if_pos h]
theorem i_OpenBatch (key : ByteArray) (b q : Int) (s : ByteArray) (w : World) (hs : s.size ≤ 4194304) :
    Calls Tryz.prog 210 #[.string key,.int .i64 b,.int .i64 q,.string s] w fun e w' => ∃ y : Ys,e = .returned (.tuple #[.slice (y 0).A (openF key b q s).1.length (y 0).c,.bool (openF key b q s).2]) ∧ True ∧ Below w.heap.size w w' ∧ NewOk w.heap.size [.row 76 3 (y 0).A (openF key b q s).1.length (y 0).c (fl (openF key b q s).1)] [] w' := by
  cases ho : openOk key b q with
  | false =>
    rw [open_no ho]
    unfold openOk at ho
    refine ok_enter 33 Tryz.func210 rfl rfl rfl ?_
    repeat' ((fail_if_success (refine at_reg 3 ?_));first
      | refine Wa ?_
      | refine Wb ?_
      | refine Wc ?_
      | (refine ok_cond rfl (fun hc => ?_) (fun hc => ?_) <;> (have hd := hc;try simp only [jj] at hd))
      | refine Wg ?_
      | refine Wi ?_
      | (refine Zr 0 ?_;refine Za ?_;refine Za ?_;refine Ze4 0 1 2 3 ?_)
      | (refine Zr 1 ?_;refine Zm ?_;refine Zq (ps_slen rfl rfl) ?_;refine Zi ?_;refine Zm ?_;refine Zg rfl rfl rfl (gF _) (fun hp => by exact ps_move rfl rfl) ?_;refine Zg rfl rfl rfl (gF _) (fun hp => by exact ps_move rfl rfl) ?_;refine Zh rfl rfl rfl (gF _) (fun hp => by (exact ms_s2 rfl (Og rfl) (Og rfl) (fun _ _ w hw => isPlace_c b q w))) ?_;refine Zg rfl rfl rfl (gF _) (fun hp => by (exact ps_not rfl (Og rfl))) ?_;refine Zq (ps_or rfl rfl rfl) ?_;refine Zm ?_;refine Zg rfl rfl rfl (gF _) (fun hp => by exact ps_move rfl rfl) ?_;refine Zg rfl rfl rfl (gF _) (fun hp => by (exact ps_slen rfl (Og rfl))) ?_;refine Zg rfl rfl rfl (gF _) (fun hp => by (exact ps_int rfl (Og rfl) rfl rfl)) ?_;refine Zq (ps_or rfl rfl rfl) ?_;refine Ze5 0 1 2 3 23 ?_)
      | (refine Zr 2 ?_;refine Za ?_;refine Za ?_;refine Ze2 8 9 ?_))
    · exact ok_endL (vs := [_,_]) rfl ⟨rfl,rfl,trivial⟩ (fun w' hw => ⟨mkY none 0 w',rfl,trivial,hw.below,NewOk.of ((hw.sel [] (by decide) rfl (G' := []) (fun _ h => by cases h)).rowNil 76 3)⟩)
    · exfalso
      rcases Bool.and_eq_false_iff.1 ho with h1 | h1
      · simp at h1;omega
      · rw [h1] at hd;simp at hd
  | true =>
    rw [open_yes ho]
    have hb : 300 < s.size → fReadBatch (strmF key (nonF 3 (rowN b q)) s) = ([],false) := fun h => by rw [← open_yes ho];exact open_big h
    unfold openOk at ho
    rw [Bool.and_eq_true,decide_eq_true_eq] at ho
    obtain ⟨hk,hp⟩ := ho
    have hz := strmF_size key (nonF 3 (rowN b q)) s
    refine ok_enter 33 Tryz.func210 rfl rfl rfl ?_
    repeat' (first|refine Wa ?_|refine Wb ?_|refine Wc ?_|(refine ok_cond rfl (fun hc => ?_) (fun hc => ?_) <;> (have hd := hc;try simp only [jj] at hd))|refine Wg ?_|refine Wi ?_|(refine Zr 0 ?_;refine Za ?_;refine Za ?_;refine Ze4 0 1 2 3 ?_)|(refine Zr 1 ?_;refine Zm ?_;refine Zq (ps_slen rfl rfl) ?_;refine Zi ?_;refine Zm ?_;refine Zg rfl rfl rfl (gF _) (fun hp => by exact ps_move rfl rfl) ?_;refine Zg rfl rfl rfl (gF _) (fun hp => by exact ps_move rfl rfl) ?_;refine Zh rfl rfl rfl (gF _) (fun hp => by (exact ms_s2 rfl (Og rfl) (Og rfl) (fun _ _ w hw => isPlace_c b q w))) ?_;refine Zg rfl rfl rfl (gF _) (fun hp => by (exact ps_not rfl (Og rfl))) ?_;refine Zq (ps_or rfl rfl rfl) ?_;refine Zm ?_;refine Zg rfl rfl rfl (gF _) (fun hp => by exact ps_move rfl rfl) ?_;refine Zg rfl rfl rfl (gF _) (fun hp => by (exact ps_slen rfl (Og rfl))) ?_;refine Zg rfl rfl rfl (gF _) (fun hp => by (exact ps_int rfl (Og rfl) rfl rfl)) ?_;refine Zq (ps_or rfl rfl rfl) ?_;refine Ze5 0 1 2 3 23 ?_)|(refine Zr 2 ?_;refine Za ?_;refine Za ?_;refine Ze2 8 9 ?_)|(refine Zr 3 ?_;refine Zm ?_;refine Zm ?_;refine Zm ?_;refine Zn (by exact ms_s2 rfl rfl rfl (fun _ _ w hw => rowNonce_c b q hp w)) ?_;rintro y27 hy27;refine Zm ?_;refine Zn (by exact ms_s4 rfl rfl rfl rfl rfl (fun _ _ w hw => i_StreamL key _ s (by omega) (nonF_size _ _) hs w)) ?_;rintro y29 hy29;refine Zn (by exact ms_c1 rfl rfl (fun _ _ w hw => i_ReadBatch _ w (by omega))) ?_;rintro y30 hy30;refine Zq (ps_extract rfl rfl rfl) ?_;refine Zq (ps_extract rfl rfl rfl) ?_;refine Za ?_;refine Za ?_;refine Ze2 8 9 ?_))
    · have h3 : 300 < s.size := by
        rw [hp] at hd
        simp at hd
        omega
      rw [hb h3]
      exact ok_endL (vs := [_,_]) rfl ⟨rfl,rfl,trivial⟩ (fun w' hw => ⟨mkY none 0 w',rfl,trivial,hw.below,NewOk.of ((hw.sel [] (by decide) rfl (G' := []) (fun _ h => by cases h)).rowNil 76 3)⟩)
    · exact ok_endL (vs := [_,_]) rfl ⟨rfl,rfl,trivial⟩ (fun w' hw => ⟨y30,rfl,trivial,hw.below,NewOk.of (hw.sel [0] (by decide) rfl (G' := []) (fun _ h => by cases h))⟩)
theorem s_OpenBatch (key : ByteArray) (b q : Int) (s : ByteArray) (w : World) (hs : s.size ≤ 4194304) :
    Calls Tryz.prog 139 #[.string key,.int .i64 b,.int .i64 q,.string s] w fun e w' => ∃ y : Ys,e = .returned (.tuple #[.slice (y 0).A (openF key b q s).1.length (y 0).c,.bool (openF key b q s).2]) ∧ True ∧ Below w.heap.size w w' ∧ NewOk w.heap.size [.row 76 3 (y 0).A (openF key b q s).1.length (y 0).c (fl (openF key b q s).1)] [] w' := by
  cases ho : openOk key b q with
  | false =>
    rw [open_no ho]
    unfold openOk at ho
    refine ok_enter 36 Tryz.func139 rfl rfl rfl ?_
    repeat' ((fail_if_success (refine at_reg 3 ?_));first
      | refine Wa ?_
      | refine Wb ?_
      | refine Wc ?_
      | (refine ok_cond rfl (fun hc => ?_) (fun hc => ?_) <;> (have hd := hc;try simp only [jj] at hd))
      | refine Wg ?_
      | refine Wi ?_
      | (refine Zr 0 ?_;refine Za ?_;refine Za ?_;refine Ze4 0 1 2 3 ?_)
      | (refine Zr 1 ?_;refine Zm ?_;refine Zq (ps_slen rfl rfl) ?_;refine Zi ?_;refine Zm ?_;refine Zg rfl rfl rfl (gF _) (fun hp => by exact ps_move rfl rfl) ?_;refine Zg rfl rfl rfl (gF _) (fun hp => by exact ps_move rfl rfl) ?_;refine Zh rfl rfl rfl (gF _) (fun hp => by (exact ms_s2 rfl (Og rfl) (Og rfl) (fun _ _ w hw => l8At_c b q w))) ?_;refine Zg rfl rfl rfl (gF _) (fun hp => by (exact ps_not rfl (Og rfl))) ?_;refine Zq (ps_or rfl rfl rfl) ?_;refine Ze5 0 1 2 3 20 ?_)
      | (refine Zr 2 ?_;refine Zn (by exact ms_lit rfl parts_nil rfl rfl rfl) ?_;rintro y21 hy21;refine Za ?_;refine Za ?_;refine Ze2 8 9 ?_))
    · exact ok_endL (vs := [_,_]) rfl ⟨rfl,rfl,trivial⟩ (fun w' hw => ⟨mkY (ga (y21 0).c) 0 w',rfl,trivial,hw.below,NewOk.of (hw.sel [0] (by decide) rfl (G' := []) (fun _ h => by cases h))⟩)
    · exfalso
      rcases Bool.and_eq_false_iff.1 ho with h1 | h1
      · simp at h1;omega
      · rw [h1] at hd;simp at hd
  | true =>
    rw [open_yes ho]
    unfold openOk at ho
    rw [Bool.and_eq_true,decide_eq_true_eq] at ho
    obtain ⟨hk,hp⟩ := ho
    obtain ⟨h1,h2,h3,h4⟩ := place_n hp
    have hz := strmF_size key (nonF 3 (rowN b q)) s
    refine ok_enter 36 Tryz.func139 rfl rfl rfl ?_
    repeat' (first|refine Wa ?_|refine Wb ?_|refine Wc ?_|(refine ok_cond rfl (fun hc => ?_) (fun hc => ?_) <;> (have hd := hc;try simp only [jj] at hd))|refine Wg ?_|refine Wi ?_|(refine Zr 0 ?_;refine Za ?_;refine Za ?_;refine Ze4 0 1 2 3 ?_)|(refine Zr 1 ?_;refine Zm ?_;refine Zq (ps_slen rfl rfl) ?_;refine Zi ?_;refine Zm ?_;refine Zg rfl rfl rfl (gF _) (fun hp => by exact ps_move rfl rfl) ?_;refine Zg rfl rfl rfl (gF _) (fun hp => by exact ps_move rfl rfl) ?_;refine Zh rfl rfl rfl (gF _) (fun hp => by (exact ms_s2 rfl (Og rfl) (Og rfl) (fun _ _ w hw => l8At_c b q w))) ?_;refine Zg rfl rfl rfl (gF _) (fun hp => by (exact ps_not rfl (Og rfl))) ?_;refine Zq (ps_or rfl rfl rfl) ?_;refine Ze5 0 1 2 3 20 ?_)|(refine Zr 2 ?_;refine Zn (by exact ms_lit rfl parts_nil rfl rfl rfl) ?_;rintro y21 hy21;refine Za ?_;refine Za ?_;refine Ze2 8 9 ?_)|(refine Zr 3 ?_;refine Zm ?_;refine Zm ?_;refine Zq (by exact ps_mul rfl rfl rfl (by omega)) ?_;refine Zm ?_;refine Zq (by exact ps_cast (v' := .int .i64 (rowN b q : Int)) (ps_add rfl rfl rfl (by omega)) (congrArg (Value.int .i64) h3)) ?_;refine Zn (by exact ms_s2 rfl rfl rfl (fun _ _ w hw => s_NonceOf 3 _ (by omega) h4 w)) ?_;rintro y28 hy28;refine Zm ?_;refine Zn (by exact ms_s4 rfl rfl rfl rfl rfl (fun _ _ w hw => s_StreamL key _ s (by omega) (nonF_size _ _) hs w)) ?_;rintro y30 hy30;refine Zn (by exact ms_c1 rfl rfl (fun _ _ w hw => s_ReadBatch _ w (by omega))) ?_;rintro y31 hy31;refine Zm ?_;refine Zq (ps_extract rfl rfl rfl) ?_;refine Zq (ps_extract rfl rfl rfl) ?_;refine Za ?_;refine Za ?_;refine Ze2 10 11 ?_)|(refine Zr 4 ?_;refine Zm ?_;refine Zm ?_;refine Za ?_;refine Za ?_;refine Ze2 8 9 ?_))
    · exfalso
      rw [hp] at hd
      simp at hd
      omega
    · exact ok_endL (vs := [_,_]) rfl ⟨rfl,rfl,trivial⟩ (fun w' hw => ⟨y31,rfl,trivial,hw.below,NewOk.of (hw.sel [0] (by decide) rfl (G' := []) (fun _ h => by cases h))⟩)
end Go.Proofs.YtmfojbidojjciaaGreat
namespace Go.Proofs.YtmfojbidojjciaaGreat
open Go.RowKit
theorem eqEnt (a b : Ent) (w : World) : (Op.equalIn 10000 204 (.agg (Dat.cells a).toArray) (.agg (Dat.cells b).toArray)).run Tryz.prog w = .ok (decide (a.key.toList = b.key.toList ∧ a.seq = b.seq ∧ a.del = b.del ∧ a.val.toList = b.val.toList)) w := by
  have u3 := Tryz.underlying3
  have a3 := Tryz.isAgg3
  have z3 := Tryz.sizeOf3
  have u9 := Tryz.underlying9
  have a9 := Tryz.isAgg9
  have z9 := Tryz.sizeOf9
  have u4 := Tryz.underlying4
  have a4 := Tryz.isAgg4
  have z4 := Tryz.sizeOf4
  have hS : Tryz.prog.underlying 204 = some (.struct (Tryz.prog.fieldsOf 204)) := by kernel_rfl
  have hp : Tryz.prog.stoodInHeld 204 = false := by kernel_rfl
  obtain ⟨ak,aq,ad,av⟩ := a
  obtain ⟨bk,bq,bd,bv⟩ := b
  simp only [Dat.cells]
  rw [show (10000 : Nat) = 9999 + 1 from rfl,run_equalIn_agg w 9999 204 _ _ hS hp]
  simp only [Program.fieldsOf,Tryz.underlying204]
  go_simp
  repeat' split
  all_goals simp_all
theorem ent_eq (a b : Ent) : decide (a.key.toList = b.key.toList ∧ a.seq = b.seq ∧ a.del = b.del ∧ a.val.toList = b.val.toList) = decide (a = b) := by
  refine decide_eq_decide.2 ⟨fun ⟨h1,h2,h3,h4⟩ => ?_,fun h => by rw [h];exact ⟨rfl,rfl,rfl,rfl⟩⟩
  obtain ⟨ak,aq,ad,av⟩ := a
  obtain ⟨bk,bq,bd,bv⟩ := b
  simp only at h1 h2 h3 h4
  rw [sEq_to (a := ak) (b := bk) (by unfold sEq;rw [h1];simp),h2,h3,sEq_to (a := av) (b := bv) (by unfold sEq;rw [h4];simp)]
theorem ps_neE {E : Env} {H : List HObj} {G : List World} {o : Oper} {x y : Operand} {t' : TypeId} (a b : Ent) (ho : o.op = .binOp .neq 204 x y t') (hx : opd E x = some (.agg (Dat.cells a).toArray)) (hy : opd E y = some (.agg (Dat.cells b).toArray)) : PStep Tryz.prog E H G o (.bool (!decide (a = b))) := fun N base w0 ac w he hw => by
  simp only [execOp,ho,he.eval hx,he.eval hy,Sem.run_bind,run_eqGuard_agg w _ _ _ _ _ _ (show Tryz.prog.eqGuardType Tryz.prog.depth 204 = false by kernel_rfl),Result.andThen_ok,run_neq_struct,eqEnt,Sem.run_pure,ent_eq]
end Go.Proofs.YtmfojbidojjciaaGreat
namespace Go.Proofs.YtmfojbidojjciaaGreat
open Go.RowKit
attribute [local irreducible] Calls
theorem dropA {α : Type} [Dat α] {R : List α} {j : Nat} (h : j < R.length) : R.drop j = nth R j :: R.drop (j + 1) := by
  rw [List.drop_eq_getElem_cons h]
  congr 1
  simp [nth,h]
theorem sPlay_skip {key : ByteArray} {id base : Int} {e : DEng} {n k : Nat} {l : List LogRow} (h : k < l.length) (hn : (nth l k).ten ≠ id) : sPlay key id base e n (l.drop k) = sPlay key id base e n (l.drop (k + 1)) := by
  rw [dropA h,sPlay,if_neg hn]
theorem sPlay_no {key : ByteArray} {id base : Int} {e : DEng} {n k : Nat} {l : List LogRow} (h : k < l.length) (hn : (nth l k).ten = id) (hc : ¬ ((openF key (nth l k).boot (nth l k).seq (nth l k).txt).2 = true ∧ (fEngPut e (openF key (nth l k).boot (nth l k).seq (nth l k).txt).1).2 = true ∧ (nth l k).seq = base + (n + 1 : Nat))) : sPlay key id base e n (l.drop k) = none := by
  rw [dropA h,sPlay,if_pos hn,if_neg hc]
theorem sPlay_yes {key : ByteArray} {id base : Int} {e : DEng} {n k : Nat} {l : List LogRow} (h : k < l.length) (hn : (nth l k).ten = id) (hc : (openF key (nth l k).boot (nth l k).seq (nth l k).txt).2 = true ∧ (fEngPut e (openF key (nth l k).boot (nth l k).seq (nth l k).txt).1).2 = true ∧ (nth l k).seq = base + (n + 1 : Nat)) : sPlay key id base e n (l.drop k) = sPlay key id base (fEngPut e (openF key (nth l k).boot (nth l k).seq (nth l k).txt).1).1 (n + 1) (l.drop (k + 1)) := by
  rw [dropA h,sPlay,if_pos hn,if_pos hc]
theorem mine_s (key : ByteArray) (rows : List LogRow) (t : DTen) : mineF key rows t = (match sPlay key t.id t.ba (baseE t) 0 rows with
    | none => false
    | some (x,n) => decide (x.mem = t.eng.mem) && decide (t.eng.tabs.length ≤ 1) && decide (n ≤ 6) && decide (t.ba + n = t.eng.seq)) := by
  rw [sPlay_eq]
  unfold mineF
  rw [show t.ba + ((0 : Nat) : Int) = t.ba by omega]
  cases hs : seqsOk t.ba (rowsF rows t.id) with
  | false => simp
  | true =>
    rw [if_pos rfl]
    cases hp : playF key (baseE t) (rowsF rows t.id) with
    | none => simp [memIs]
    | some x =>
      simp only [Option.map_some,memIs,Nat.zero_add,Bool.and_true]
      try rfl
theorem open_few (key : ByteArray) (b q : Int) (s : ByteArray) : (openF key b q s).1.length ≤ 6 := by
  cases h : (openF key b q s).2 with
  | true => exact (batch_few (open_ok h)).1
  | false => rw [open_not h];exact Nat.zero_le _
theorem eng_reads {D : DEng} {y : Ys} {m : World} (h : ∀ x ∈ engObj D y,x.reads m) : Rd m (y 0).A (fl D.mem) ∧ RdN m (y 1).A (locs 3 D.tabs y) ∧ Rd m (y 2).A (fl D.snaps) := by
  have q1 : (HObj.row 204 4 (y 0).A D.mem.length (y 0).c (fl D.mem)).reads m := h _ (by unfold engObj;simp)
  have q2 : (HObj.row 85 1 (y 1).A D.tabs.length (y 1).c (fl (locs 3 D.tabs y))).reads m := h _ (by unfold engObj;simp)
  have q3 : (HObj.bag 204 4 (rowsOf (locs 3 D.tabs y))).reads m := h _ (by unfold engObj;simp)
  have q4 : (HObj.row 3 1 (y 2).A D.snaps.length (y 2).c (fl D.snaps)).reads m := h _ (by unfold engObj;simp)
  exact ⟨q1,⟨q2,fun k hk => q3 (nth (locs 3 D.tabs y) k).row (List.mem_map.2 ⟨_,nth_mem _ k hk,rfl⟩)⟩,q4⟩
theorem eng_small {D : DEng} (h : fEngOk D = true) : (D.mem.length ≤ 4194304 ∧ D.tabs.length ≤ 4194304 ∧ D.snaps.length ≤ 4194304) ∧ ∀ x ∈ D.tabs,x.length ≤ 4194304 := by
  obtain ⟨f1,f2,f3,f4,f5,f6⟩ := eng_few h
  exact ⟨by omega,fun x hx => by have := tot_at f3 x (List.mem_cons_of_mem _ hx);omega⟩
theorem ext_nth {α : Type} [Dat α] {a b : List α} (hl : a.length = b.length) (h : ∀ j,j < a.length → nth a j = nth b j) : a = b := by
  refine List.ext_getElem hl fun i h1 h2 => ?_
  have := h i h1
  simpa [nth,h1,h2] using this
structure MnI (rows : List LogRow) (key : ByteArray) (id base : Int) (T : List (List Ent)) (w : World) where
  k : Nat
  n : Nat
  m : World
  mA : Option Addr
  mc : Nat
  mem : List Ent
  tA : Option Addr
  tc : Nat
  R : List LE
  sq : Int
  sA : Option Addr
  sc : Nat
  sn : List Int
  hk : k ≤ rows.length ∧ n ≤ k
  hm : WLe w m
  h1 : Rd m mA (fl mem)
  h2 : RdN m tA R
  h3 : Rd m sA (fl sn)
  hl : mem.length ≤ 4194304 ∧ R.length ≤ 4194304 ∧ sn.length ≤ 4194304
  hs : ∀ x ∈ dats R,x.length ≤ 4194304
  hp : sPlay key id base ⟨[],T,base,[]⟩ 0 rows = sPlay key id base ⟨mem,dats R,sq,sn⟩ n (rows.drop k)
theorem l22Mine0 (sec mk : ByteArray) (kA : Option Addr) (kc : Nat) (slots : List KeySlot) (wi ssz : Int) (shA : Option Addr) (shn shc : Nat) (tnA : Option Addr) (tnn tnc : Nat) (rA : Option Addr) (rc : Nat) (rows : List LogRow) (hA : Option Addr) (hn hcc : Nat) (bo : Int)
    (id ep ba : Int) (mA : Option Addr) (mc : Nat) (mem : List Ent) (tA : Option Addr) (tc : Nat) (R : List LE) (seq : Int) (sA : Option Addr) (sc : Nat) (sn : List Int) (w : World) (hk : Rd w kA (fl slots)) (hr : Rd w rA (fl rows)) (h1 : Rd w mA (fl mem)) (h2 : RdN w tA R) (hba : 0 ≤ ba ∧ ba ≤ 1000000) (hl0 : slots.length ≤ 4194304) (hlr : rows.length ≤ 4194304) (htx : ∀ k,k < rows.length → (nth rows k).txt.size ≤ 4194304) (hl1 : mem.length ≤ 4194304) (hl2 : R.length ≤ 4194304) (hs : ∀ x ∈ dats R,x.length ≤ 4194304) :
    Calls Tryz.prog 88 #[.agg #[.string sec,.string mk,.slice kA slots.length kc,.int .i64 wi,.int .i64 ssz,.slice shA shn shc,.slice tnA tnn tnc,.slice rA rows.length rc,.slice hA hn hcc,.int .i64 bo],.agg #[.int .i64 id,.int .i64 ep,.int .i64 ba,.slice mA mem.length mc,.slice tA R.length tc,.int .i64 seq,.slice sA sn.length sc]] w fun e w' => e = .returned (.bool (mineF (keyOf ⟨mk,slots,wi⟩ id) rows ⟨id,ep,ba,⟨mem,dats R,seq,sn⟩⟩)) ∧ Below w.heap.size w w' := by
  have HS := Lib.hid hs;clear hs
  have H2 := Lib.hid h2;clear h2
  have HTX := Lib.hid htx;clear htx
  have hms := mine_s (keyOf ⟨mk,slots,wi⟩ id) rows ⟨id,ep,ba,⟨mem,dats R,seq,sn⟩⟩
  simp only [baseE] at hms
  rw [hms]
  clear hms
  refine ok_enter 124 Tryz.func88 rfl rfl rfl ?_
  repeat' (first|refine Wa ?_|refine Wb ?_|refine Wd ?_|(refine Zr 0 ?_;refine Zn (ms_box rfl rfl rfl) ?_;rintro y2 hy2;refine Zn (ms_box rfl rfl rfl) ?_;rintro y3 hy3;refine Za ?_;refine Ze2 2 3 ?_)|(refine Zr 1 ?_;refine Za ?_;refine Ze3 2 3 5 ?_)|(refine Zr 2 ?_;refine Zf ?_;refine Zq (by exact ps_loads rfl rfl (by exact rds_box 1 rfl) rfl rfl (by decide)) ?_;refine Zf ?_;refine Zl 0 ?_;refine Zn (by exact ms_s2 rfl rfl rfl (fun _ _ w hw => s_KeyOf0 mk kA kc slots wi id w (rds_rf hk List.mem_cons_self _ _ w hw) hl0)) ?_;rintro y19 hy19;refine Za ?_;refine Ze4 2 3 5 6 ?_)|(refine Zr 3 ?_;refine Zf ?_;refine Zf ?_;refine Zl 0 ?_;refine Zf ?_;refine Zl 0 ?_;refine Zq (by exact ps_bld rfl (parts_cons rfl (parts_cons rfl parts_nil)) rfl) ?_;refine Zn (ms_alloc rfl) ?_;rintro y7 hy7;refine Zo (ms_store 0 rfl rfl rfl rfl rfl rfl rfl rfl) ?_;rintro y_ hy_;refine Ze5 2 3 5 6 7 ?_)|(refine Zr 4 ?_;refine Za ?_;refine Ze6 2 3 5 6 7 8 ?_))
  generalize keyOf ⟨mk,slots,wi⟩ id = key
  refine ok_loop (ι := MnI rows key id ba (dats R) w) (fun q => rows.length - q.k) (fun q => ([(2,pt (ga (y2 0).c) 0),(3,pt (ga (y3 0).c) 0),(5,.int .i64 q.n),(6,.string key),(7,pt (ga (y7 0).c) 0),(8,.int .i64 q.k)],[.box (y7 0).c 88 [.slice q.mA q.mem.length q.mc,.slice q.tA q.R.length q.tc,.int .i64 q.sq,.slice q.sA q.sn.length q.sc],_,_],[q.m])) ⟨0,0,w,none,0,[],tA,tc,R,ba,none,0,[],by omega,WLe.refl _,(fun k u h => by simp [fl] at h),H2.out,(fun k u h => by simp [fl] at h),by simp;omega,HS.out,rfl⟩ (fun a w' he hw => ⟨⟨0,0,w,none,0,[],tA,tc,R,ba,none,0,[],by omega,WLe.refl _,(fun k u h => by simp [fl] at h),H2.out,(fun k u h => by simp [fl] at h),by simp;omega,HS.out,rfl⟩,he.sub ⟨rfl,rfl,rfl,rfl,rfl,rfl,trivial⟩,hw⟩) ?_
  rintro ⟨k,n,m,qA,qc,qm,uA,uc,S,sq,vA,vc,vn,hk2,hm,g1,g2,g3,gl,gs,gp⟩
  simp only at hk2 hm g1 g2 g3 gl gs gp ⊢
  have hr' := hr.le hm
  have h1' := h1.le hm
  have hk' := hk.le hm
  have G2 := Lib.hid g2;clear g2
  have GS := Lib.hid gs;clear gs
  have GP := Lib.hid gp;clear gp
  have HM := Lib.hid hm;clear hm
  clear hr h1 hk
  have hof := open_few key (nth rows k).boot (nth rows k).seq (nth rows k).txt
  repeat' (first|refine Wa ?_|refine Wb ?_|refine Wc ?_|refine ok_then_exit ?_|refine Wd ?_|refine We ?_|refine Wf ?_|refine ok_in_exit ?_|(refine ok_cond rfl (fun hc => ?_) (fun hc => ?_) <;> (have hd := hc;try simp only [jj] at hd))|refine Wg ?_|refine Wh ?_|refine Wi ?_|(refine Zr 5 ?_;refine Zm ?_;refine Zf ?_;refine Zl 2 ?_;refine Zq (ps_len rfl rfl) ?_;refine Zi ?_;refine Ze7 2 3 5 6 7 8 30 ?_)|(refine Zr 6 ?_;refine Zm ?_;refine Zq (by exact ps_add rfl rfl rfl (by omega)) ?_;refine Za ?_;refine Ze6 2 3 5 6 7 8 ?_)|(refine Zr 7 ?_;refine Zf ?_;refine Zl 2 ?_;refine Zm ?_;refine Zq (by exact ps_indexN rfl rfl rfl (by omega) (by exact isw_of (isS_fl (by assumption) (by omega)))) ?_;refine Zq (by exact ps_loadsF rfl rfl (by exact rds_rf (by assumption) List.mem_cons_self) (by rfl) (by rfl) (by omega) rfl) ?_;refine Zn (ms_alloc rfl) ?_;rintro y9 hy9;refine Zo (ms_store 0 rfl rfl rfl rfl rfl rfl rfl rfl) ?_;rintro y_ hy_;refine Ze7 2 3 5 6 7 8 9 ?_)|(refine Zr 8 ?_;refine Zf ?_;refine Zl 0 ?_;refine Zf ?_;refine Zl 2 ?_;refine Zi ?_;refine Ze8 2 3 5 6 7 8 9 42 ?_)|(refine Zr 9 ?_;refine Zm ?_;refine Zq (by exact ps_add rfl rfl rfl (by omega)) ?_;refine Za ?_;refine Ze7 2 3 5 6 7 8 9 ?_)|(refine Zr 10 ?_;refine Zm ?_;refine Zf ?_;refine Zl 0 ?_;refine Zf ?_;refine Zl 0 ?_;refine Zf ?_;refine Zl 0 ?_;refine Zn (by exact ms_c4 rfl rfl rfl rfl rfl (fun _ _ w hw => s_OpenBatch key (nth rows k).boot (nth rows k).seq (nth rows k).txt w (HTX.out k (by omega)))) ?_;rintro y53 hy53;refine Zm ?_;refine Zq (ps_extract rfl rfl rfl) ?_;refine Zq (ps_extract rfl rfl rfl) ?_;refine Za ?_;refine Za ?_;refine Ze9 2 3 5 6 7 8 9 10 11 ?_)|(refine Zr 11 ?_;refine Zq (by exact ps_loads rfl rfl (by exact rds_box 2 rfl) rfl rfl (by decide)) ?_;refine Zm ?_;refine Zn (by exact ms_c2 rfl rfl rfl (fun _ _ w hw => s_EngPut0 qA qc qm uA uc S sq vA vc vn (y53 0).A (y53 0).c (openF key (nth rows k).boot (nth rows k).seq (nth rows k).txt).1 w (rds_rf g1 List.mem_cons_self _ _ w hw) (RdN.keep hw G2.out List.mem_cons_self) (rds_rf g3 List.mem_cons_self _ _ w hw) (hw.row 0 rfl) gl.1 gl.2.1 GS.out gl.2.2 (by omega))) ?_;rintro y59 hy59;refine Zm ?_;refine Zq (ps_extract rfl rfl rfl) ?_;refine Zq (ps_extract rfl rfl rfl) ?_;refine Zn (ms_alloc rfl) ?_;rintro y12 hy12;refine Zo (ms_store 0 rfl rfl rfl rfl rfl rfl rfl rfl) ?_;rintro y_ hy_;refine Za ?_;refine Ze10 2 3 5 6 7 8 9 11 12 13 ?_)|(refine Zr 12 ?_;refine Zm ?_;refine Zq (ps_not rfl rfl) ?_;refine Zm ?_;refine Zg rfl rfl rfl (gF _) (fun hp => by exact ps_move rfl rfl) ?_;refine Zg rfl rfl rfl (gF _) (fun hp => by (exact ps_not rfl (Og rfl))) ?_;refine Zq (ps_or rfl rfl rfl) ?_;refine Zm ?_;refine Zg rfl rfl rfl (gF _) (fun hp => by exact ps_field rfl rfl (isw_ga _)) ?_;refine Zg rfl rfl rfl (gF _) (fun hp => by (exact ps_load rfl (Og rfl) (by exact Rds.cell (rds_box 6 rfl) rfl))) ?_;refine Zg rfl rfl rfl (gF _) (fun hp => by exact ps_field rfl rfl (isw_ga _)) ?_;refine Zg rfl rfl rfl (gF _) (fun hp => by (exact ps_load rfl (Og rfl) (by exact Rds.cell (rds_box 8 rfl) rfl))) ?_;refine Zg rfl rfl rfl (gF _) (fun hp => by exact ps_move rfl rfl) ?_;refine Zg rfl rfl rfl (gF _) (fun hp => by (have hpd := hp;(try simp only [jj] at hpd);exact ps_add rfl (Og rfl) (Og rfl) (by omega))) ?_;refine Zg rfl rfl rfl (gF _) (fun hp => by (exact ps_int rfl (Og rfl) (Og rfl) rfl)) ?_;refine Zq (ps_or rfl rfl rfl) ?_;refine Ze8 2 3 5 6 7 8 12 76 ?_)|(refine Zr 13 ?_;refine Za ?_;refine Ze1 4 ?_)|(refine Zr 14 ?_;refine Zq (by exact ps_loads rfl rfl (by exact rds_box 0 rfl) rfl rfl (by decide)) ?_;refine Zo (ms_store 7 rfl rfl rfl rfl rfl rfl rfl rfl) ?_;rintro y_ hy_;refine Ze6 2 3 5 6 7 8 ?_)|(refine Zr 15 ?_;refine Zf ?_;refine Zl 0 ?_;refine Zq (ps_len rfl rfl) ?_;refine Zf ?_;refine Zf ?_;refine Zl 1 ?_;refine Zq (ps_len rfl rfl) ?_;refine Zi ?_;refine Zm ?_;refine Zg rfl rfl rfl (gF _) (fun hp => by exact ps_field rfl rfl (isw_ga _)) ?_;refine Zg rfl rfl rfl (gF _) (fun hp => by (exact ps_field rfl (Og rfl) (isw_ga _))) ?_;refine Zg rfl rfl rfl (gF _) (fun hp => by (exact ps_load rfl (Og rfl) (by exact Rds.cell (rds_box 1 rfl) rfl))) ?_;refine Zg rfl rfl rfl (gF _) (fun hp => by (exact ps_len rfl (Og rfl))) ?_;refine Zg rfl rfl rfl (gF _) (fun hp => by (exact ps_int rfl (Og rfl) rfl rfl)) ?_;refine Zq (ps_or rfl rfl rfl) ?_;refine Ze4 3 5 7 92 ?_)|(refine Zr 16 ?_;refine Za ?_;refine Ze1 4 ?_)|(refine Zr 17 ?_;refine Za ?_;refine Ze4 3 5 7 14 ?_))
  · exact fun a w' he hw => ⟨⟨k + 1,n,m,qA,qc,qm,uA,uc,S,sq,vA,vc,vn,by omega,HM.out,g1,G2.out,g3,gl,GS.out,GP.out.trans (sPlay_skip (by omega) hd)⟩,by simp only;omega,he.sub ⟨rfl,rfl,rfl,rfl,rfl,rfl,trivial⟩,hw.sel [1,2,3] (by decide) rfl (fun _ h => h)⟩
  · have hid : (nth rows k).ten = id := by assumption
    have e := GP.out.trans (sPlay_no (by omega) hid (by
      rintro ⟨a,b,c⟩
      rcases hd with (hd | hd) | hd
      · rw [a] at hd;cases hd
      · rw [b] at hd;cases hd
      · exact hd (by rw [c];omega)))
    rw [e]
    exact ok_endL (vs := [_]) rfl ⟨rfl,trivial⟩ (fun w' hw => ⟨rfl,hw.below⟩)
  · have hid : (nth rows k).ten = id := by assumption
    have e := GP.out.trans (sPlay_yes (by omega) hid ⟨hd.1.1,hd.1.2,by rw [hd.2];omega⟩)
    obtain ⟨z1,z2,z3,z4⟩ := put_need hd.1.2
    have hok : fEngOk (fEngPut ⟨qm,dats S,sq,vn⟩ (openF key (nth rows k).boot (nth rows k).seq (nth rows k).txt).1).1 = true := by rw [z4];exact z3
    clear z1 z2 z3 z4 hd hc
    generalize (fEngPut ⟨qm,dats S,sq,vn⟩ (openF key (nth rows k).boot (nth rows k).seq (nth rows k).txt).1).1 = D at e hok ⊢
    obtain ⟨l1,l2⟩ := eng_small hok
    have E := Lib.hid e;clear e
    have L2 := Lib.hid l2;clear l2
    refine fun a w' he hw => ?_
    have hdl : (locs 3 D.tabs y59).length = D.tabs.length := locs_len 3 D.tabs y59
    have hdd : dats (locs 3 D.tabs y59) = D.tabs := dats_locs 3 D.tabs y59
    obtain ⟨m',hw',hle,hrd⟩ := WOk.frz (X := engObj D y59) (H := [.box (y7 0).c 88 [.slice (y59 0).A D.mem.length (y59 0).c,.slice (y59 1).A D.tabs.length (y59 1).c,.int .i64 D.seq,.slice (y59 2).A D.snaps.length (y59 2).c],.box (y3 0).c 90 [.int .i64 id,.int .i64 ep,.int .i64 ba,.slice mA mem.length mc,.slice tA R.length tc,.int .i64 seq,.slice sA sn.length sc],.box (y2 0).c 43 [.string sec,.string mk,.slice kA slots.length kc,.int .i64 wi,.int .i64 ssz,.slice shA shn shc,.slice tnA tnn tnc,.slice rA rows.length rc,.slice hA hn hcc,.int .i64 bo]]) (hw.sel [1,2,3,4,7,8,9] (by decide) rfl (fun _ h => h))
    obtain ⟨r1,r2,r3⟩ := eng_reads hrd
    refine ⟨⟨k + 1,n + 1,m',(y59 0).A,(y59 0).c,D.mem,(y59 1).A,(y59 1).c,locs 3 D.tabs y59,D.seq,(y59 2).A,(y59 2).c,D.snaps,by omega,HM.out.trans (hle m List.mem_cons_self),r1,r2,r3,by rw [hdl];exact l1,by rw [hdd];exact L2.out,by rw [hdd];exact E.out⟩,by simp only;omega,he.sub ⟨rfl,rfl,rfl,rfl,rfl,rfl,trivial⟩,?_⟩
    simp only [hdl]
    exact hw'
  · have hq := hd
    clear hd hc
    obtain rfl : k = rows.length := by omega
    have e := GP.out
    rw [List.drop_length,sPlay] at e
    rw [e]
    have e2 : (decide (qm = mem) && decide ((dats R).length ≤ 1) && decide (n ≤ 6) && decide (ba + (n : Int) = seq)) = false := by
      rw [dats_len]
      rcases hq with hd | hd
      · rw [show decide (qm = mem) = false from decide_eq_false (fun h => hd (by rw [h]))];rfl
      · rw [show decide (R.length ≤ 1) = false from decide_eq_false (by omega)];simp
    simp only [e2]
    exact ok_endL (vs := [_]) rfl ⟨rfl,trivial⟩ (fun w' hw => ⟨rfl,hw.below⟩)
  · have hq := hd
    clear hd hc
    obtain rfl : k = rows.length := by omega
    have e := GP.out
    rw [List.drop_length,sPlay] at e
    rw [e]
    simp only [dats_len]
    clear e GP GS G2
    refine ok_loop (ι := { j : Nat // j ≤ qm.length ∧ ∀ q,q < j → nth qm q = nth mem q }) (fun j => qm.length - j.1) (fun j => ([(3,pt (ga (y3 0).c) 0),(5,.int .i64 n),(7,pt (ga (y7 0).c) 0),(14,.int .i64 j.1)],_,_)) ⟨0,by omega,fun j h => absurd h (Nat.not_lt_zero j)⟩ (fun a w he hw => ⟨⟨0,by omega,fun j h => absurd h (Nat.not_lt_zero j)⟩,he.sub ⟨rfl,rfl,rfl,rfl,trivial⟩,hw⟩) ?_
    rintro ⟨j,hj,ha⟩
    simp only at hj ⊢
    have HA := Lib.hid ha;clear ha
    repeat' (first|refine Wa ?_|refine Wb ?_|refine Wc ?_|refine Wd ?_|refine We ?_|refine Wf ?_|(refine ok_cond rfl (fun hc => ?_) (fun hc => ?_) <;> (have hd := hc;try simp only [jj] at hd))|refine Wg ?_|refine Wh ?_|refine Wi ?_|(refine Zr 18 ?_;refine Zm ?_;refine Zf ?_;refine Zl 0 ?_;refine Zq (ps_len rfl rfl) ?_;refine Zi ?_;refine Ze5 3 5 7 14 97 ?_)|(refine Zr 19 ?_;refine Zm ?_;refine Zq (by exact ps_add rfl rfl rfl (by omega)) ?_;refine Za ?_;refine Ze4 3 5 7 14 ?_)|(refine Xd 20 12 ?_;refine Xf 0 ?_;refine Xl 1 0 ?_;refine Xm 2 ?_;refine Xt 3 rfl (by exact ps_indexN rfl rfl rfl (by omega) (by exact isw_of (isS_fl (by assumption) (by omega)))) ?_;refine Xt 4 rfl (by exact ps_loads (vs := Dat.cells (nth qm j)) rfl rfl (rds_rf g1 List.mem_cons_self) (fl_sub qm j (by omega)) (Dat.len (nth qm j)) (by decide)) ?_;refine Xf 5 ?_;refine Xf 6 ?_;refine Xl 7 1 ?_;refine Xm 8 ?_;refine Xt 9 rfl (by exact ps_indexN rfl rfl rfl (by omega) (by exact isw_of (isS_fl (by assumption) (by omega)))) ?_;refine Xt 10 rfl (by exact ps_loads (vs := Dat.cells (nth mem j)) rfl rfl (rds_rf h1' List.mem_cons_self) (fl_sub mem j (by omega)) (Dat.len (nth mem j)) (by decide)) ?_;refine Xt 11 rfl (by exact ps_neE (nth qm j) (nth mem j) rfl rfl rfl) ?_;refine okT_done (by kernel_rfl) ?_;refine Ze5 3 5 7 14 111 ?_)|(refine Zr 21 ?_;refine Za ?_;refine Ze1 4 ?_)|(refine Zr 22 ?_;refine Zm ?_;refine Zi ?_;refine Zm ?_;refine Zg rfl rfl rfl (gT _) (fun hp => by exact ps_field rfl rfl (isw_ga _)) ?_;refine Zg rfl rfl rfl (gT _) (fun hp => by (exact ps_load rfl (Og rfl) (by exact Rds.cell (rds_box 1 rfl) rfl))) ?_;refine Zg rfl rfl rfl (gT _) (fun hp => by exact ps_move rfl rfl) ?_;refine Zg rfl rfl rfl (gT _) (fun hp => by (have hpd := hp;(try simp only [jj] at hpd);exact ps_add rfl (Og rfl) (Og rfl) (by omega))) ?_;refine Zg rfl rfl rfl (gT _) (fun hp => by exact ps_field rfl rfl (isw_ga _)) ?_;refine Zg rfl rfl rfl (gT _) (fun hp => by (exact ps_field rfl (Og rfl) (isw_ga _))) ?_;refine Zg rfl rfl rfl (gT _) (fun hp => by (exact ps_load rfl (Og rfl) (by exact Rds.cell (rds_box 1 rfl) rfl))) ?_;refine Zg rfl rfl rfl (gT _) (fun hp => by (exact ps_int rfl (Og rfl) (Og rfl) rfl)) ?_;refine Zq (ps_and rfl rfl rfl) ?_;refine Za ?_;refine Ze1 4 ?_))
    · have e : decide (qm = mem) = false := decide_eq_false (fun h => hd (by rw [h]))
      rw [e]
      exact ok_endL (vs := [_]) rfl ⟨rfl,trivial⟩ (fun w' hw => ⟨rfl,hw.below⟩)
    · exact fun a w' he hw => ⟨⟨j + 1,by omega,fun q hq => by
        rcases Nat.lt_succ_iff_lt_or_eq.1 hq with h' | rfl
        · exact HA.out q h'
        · exact hd⟩,by simp only;omega,he.sub ⟨rfl,rfl,rfl,rfl,trivial⟩,hw⟩
    · obtain rfl : j = qm.length := by omega
      have e : decide (qm = mem) = true := decide_eq_true (ext_nth (by omega) HA.out)
      have e1 : decide (R.length ≤ 1) = true := decide_eq_true (by omega)
      rw [e,e1]
      have e3 : decide ((n : Int) ≤ 6) = decide (n ≤ 6) := decide_eq_decide.2 (by omega)
      exact ok_endL (vs := [_]) rfl ⟨rfl,trivial⟩ (fun w' hw => ⟨by rw [← e3];rfl,hw.below⟩)
def tenSm (t : LTen) : Prop := t.e.mem.l.length ≤ 4194304 ∧ t.e.tab.l.length ≤ 4194304 ∧ (∀ x ∈ dats t.e.tab.l,x.length ≤ 4194304) ∧ t.e.snaps.l.length ≤ 4194304
theorem tenD_map (l : List LTen) (i : Nat) (h : i < l.length) : tenD (l.map LTen.d) i = (nth l i).d := by
  simp [tenD,nth,h]
theorem st_no {s : DStore} (h : ¬ ((s.secret.size : Int) = 32 ∧ fKeyOk s.keys = true ∧ fSharesOk s.shares = true ∧ (0 ≤ s.boot ∧ s.boot ≤ 1000) ∧ s.hist.length ≤ 120 ∧ s.tens.length = s.keys.slots.length ∧ s.tens.length = s.shares.list.length)) : fStoreOk s = false := by
  rw [Bool.eq_false_iff];intro e;apply h
  unfold fStoreOk at e
  simp only [Bool.and_eq_true,decide_eq_true_eq,inB_true] at e
  obtain ⟨⟨⟨⟨⟨⟨⟨⟨h1,h2⟩,h3⟩,h4⟩,h5⟩,h6⟩,h7⟩,h8⟩,h9⟩ := e
  exact ⟨h1,h2,h3,h4,h5,h6,h7⟩
theorem st_at {s : DStore} {k : Nat} (hk : k < s.tens.length) (h : tenAt s k = false) : fStoreOk s = false := by
  rw [Bool.eq_false_iff];intro e
  unfold fStoreOk at e
  simp only [Bool.and_eq_true,decide_eq_true_eq,inB_true] at e
  have := allR_at e.1.2 hk
  rw [h] at this;cases this
theorem st_row {s : DStore} {k : Nat} (hk : k < s.rows.length) (h : (s.tens.any fun t => decide (t.id = (nth s.rows k).ten)) = false) : fStoreOk s = false := by
  rw [Bool.eq_false_iff];intro e
  unfold fStoreOk at e
  rw [Bool.and_eq_true] at e
  have := List.all_eq_true.1 e.2 _ (nth_mem s.rows k hk)
  rw [h] at this;cases this
theorem st_yes {s : DStore} (h : (s.secret.size : Int) = 32 ∧ fKeyOk s.keys = true ∧ fSharesOk s.shares = true ∧ (0 ≤ s.boot ∧ s.boot ≤ 1000) ∧ s.hist.length ≤ 120 ∧ s.tens.length = s.keys.slots.length ∧ s.tens.length = s.shares.list.length) (ha : ∀ k,k < s.tens.length → tenAt s k = true) (hr : ∀ k,k < s.rows.length → (s.tens.any fun t => decide (t.id = (nth s.rows k).ten)) = true) : fStoreOk s = true := by
  unfold fStoreOk
  simp only [Bool.and_eq_true,decide_eq_true_eq,inB_true]
  obtain ⟨h1,h2,h3,h4,h5,h6,h7⟩ := h
  exact ⟨⟨⟨⟨⟨⟨⟨⟨h1,h2⟩,h3⟩,h4⟩,h5⟩,h6⟩,h7⟩,allR_yes ha⟩,List.all_eq_true.2 (mem_nth hr)⟩
theorem st_ten {s : DStore} {k : Nat} {l : List LTen} (hs : s.tens = l.map LTen.d) (hk : k < l.length) : tenAt s k = (decide ((nth s.keys.slots k).ten = (nth l k).id) && decide ((nth s.shares.list k).ten = (nth l k).id) && (inB (nth l k).ep 0 1000000 && inB (nth l k).ba 0 1000000 && fEngOk (nth l k).e.d && decide ((nth l k).e.snaps.l.length ≤ 2) && mineF (keyOf s.keys (nth l k).id) s.rows (nth l k).d)) := by
  unfold tenAt fTenOk
  rw [hs,tenD_map l k hk]
structure StI (n : Nat) (s : DStore) where
  k : Nat
  hk : k ≤ n
  ha : ∀ j,j < k → tenAt s j = true
structure SrI (s : DStore) where
  k : Nat
  hk : k ≤ s.rows.length
  ha : ∀ j,j < k → (s.tens.any fun t => decide (t.id = (nth s.rows j).ten)) = true
theorem s_StoreOk0 (sec mk : ByteArray) (kA : Option Addr) (kc : Nat) (slots : List KeySlot) (wi ssz : Int) (shA : Option Addr) (shc : Nat) (shl : List Share) (tnA : Option Addr) (tnc : Nat) (tens : List LTen) (rA : Option Addr) (rc : Nat) (rows : List LogRow) (hA : Option Addr) (hcc : Nat) (hist : List LogRow) (bo : Int)
    (w : World) (hk : Rd w kA (fl slots)) (hsh : Rd w shA (fl shl)) (ht : Rd w tnA (fl tens)) (htr : tensRd w tens) (hr : Rd w rA (fl rows)) (hl0 : slots.length ≤ 4194304) (hl1 : shl.length ≤ 4194304) (hl2 : tens.length ≤ 4194304) (hl3 : rows.length ≤ 4194304) (hl4 : hist.length ≤ 4194304) (htx : ∀ k,k < rows.length → (nth rows k).txt.size ≤ 4194304) (hsm : ∀ k,k < tens.length → tenSm (nth tens k)) :
    Calls Tryz.prog 40 #[.agg #[.string sec,.string mk,.slice kA slots.length kc,.int .i64 wi,.int .i64 ssz,.slice shA shl.length shc,.slice tnA tens.length tnc,.slice rA rows.length rc,.slice hA hist.length hcc,.int .i64 bo]] w fun e w' => e = .returned (.bool (fStoreOk ⟨sec,⟨mk,slots,wi⟩,⟨ssz,shl⟩,tens.map LTen.d,rows,hist,bo⟩)) ∧ Below w.heap.size w w' := by
  have HTX := Lib.hid htx;clear htx
  have HSM := Lib.hid hsm;clear hsm
  have HTR := Lib.hid htr;clear htr
  have hml : (tens.map LTen.d).length = tens.length := List.length_map ..
  refine ok_enter 136 Tryz.func40 rfl rfl rfl ?_
  repeat' (first|refine Wa ?_|refine Wb ?_|refine Wc ?_|refine Wd ?_|(refine ok_cond rfl (fun hc => ?_) (fun hc => ?_) <;> (have hd := hc;try simp only [jj] at hd))|refine Wg ?_|refine Wi ?_|(refine Zr 0 ?_;refine Zn (ms_box rfl rfl rfl) ?_;rintro y1 hy1;refine Za ?_;refine Ze1 1 ?_)|(refine Zr 1 ?_;refine Zf ?_;refine Zl 0 ?_;refine Zq (ps_slen rfl rfl) ?_;refine Zi ?_;refine Zm ?_;refine Zg rfl rfl rfl (gF _) (fun hp => by exact ps_field rfl rfl (isw_ga _)) ?_;refine Zg rfl rfl rfl (gF _) (fun hp => by (exact ps_loads rfl (Og rfl) (by exact rds_box 0 rfl) rfl rfl (by decide))) ?_;refine Zh rfl rfl rfl (gF _) (fun hp => by (exact ms_s1 rfl (Og rfl) (fun _ _ w hw => s_KeyOk0 mk kA kc slots wi w (rds_rf hk List.mem_cons_self _ _ w hw) hl0))) ?_;refine Zg rfl rfl rfl (gF _) (fun hp => by (exact ps_not rfl (Og rfl))) ?_;refine Zq (ps_or rfl rfl rfl) ?_;refine Zm ?_;refine Zg rfl rfl rfl (gF _) (fun hp => by exact ps_field rfl rfl (isw_ga _)) ?_;refine Zg rfl rfl rfl (gF _) (fun hp => by (exact ps_loads rfl (Og rfl) (by exact rds_box 0 rfl) rfl rfl (by decide))) ?_;refine Zh rfl rfl rfl (gF _) (fun hp => by (exact ms_s1 rfl (Og rfl) (fun _ _ w hw => s_SharesOk0 ssz shA shc shl w (rds_rf hsh List.mem_cons_self _ _ w hw) hl1))) ?_;refine Zg rfl rfl rfl (gF _) (fun hp => by (exact ps_not rfl (Og rfl))) ?_;refine Zq (ps_or rfl rfl rfl) ?_;refine Zm ?_;refine Zg rfl rfl rfl (gF _) (fun hp => by exact ps_field rfl rfl (isw_ga _)) ?_;refine Zg rfl rfl rfl (gF _) (fun hp => by (exact ps_load rfl (Og rfl) (by exact Rds.cell (rds_box 0 rfl) rfl))) ?_;refine Zg rfl rfl rfl (gF _) (fun hp => by (exact ps_len rfl (Og rfl))) ?_;refine Zg rfl rfl rfl (gF _) (fun hp => by exact ps_field rfl rfl (isw_ga _)) ?_;refine Zg rfl rfl rfl (gF _) (fun hp => by (exact ps_field rfl (Og rfl) (isw_ga _))) ?_;refine Zg rfl rfl rfl (gF _) (fun hp => by (exact ps_load rfl (Og rfl) (by exact Rds.cell (rds_box 0 rfl) rfl))) ?_;refine Zg rfl rfl rfl (gF _) (fun hp => by (exact ps_len rfl (Og rfl))) ?_;refine Zg rfl rfl rfl (gF _) (fun hp => by (exact ps_int rfl (Og rfl) (Og rfl) rfl)) ?_;refine Zq (ps_or rfl rfl rfl) ?_;refine Zm ?_;refine Zg rfl rfl rfl (gF _) (fun hp => by exact ps_field rfl rfl (isw_ga _)) ?_;refine Zg rfl rfl rfl (gF _) (fun hp => by (exact ps_load rfl (Og rfl) (by exact Rds.cell (rds_box 0 rfl) rfl))) ?_;refine Zg rfl rfl rfl (gF _) (fun hp => by (exact ps_len rfl (Og rfl))) ?_;refine Zg rfl rfl rfl (gF _) (fun hp => by exact ps_field rfl rfl (isw_ga _)) ?_;refine Zg rfl rfl rfl (gF _) (fun hp => by (exact ps_field rfl (Og rfl) (isw_ga _))) ?_;refine Zg rfl rfl rfl (gF _) (fun hp => by (exact ps_load rfl (Og rfl) (by exact Rds.cell (rds_box 0 rfl) rfl))) ?_;refine Zg rfl rfl rfl (gF _) (fun hp => by (exact ps_len rfl (Og rfl))) ?_;refine Zg rfl rfl rfl (gF _) (fun hp => by (exact ps_int rfl (Og rfl) (Og rfl) rfl)) ?_;refine Zq (ps_or rfl rfl rfl) ?_;refine Zm ?_;refine Zg rfl rfl rfl (gF _) (fun hp => by exact ps_field rfl rfl (isw_ga _)) ?_;refine Zg rfl rfl rfl (gF _) (fun hp => by (exact ps_load rfl (Og rfl) (by exact Rds.cell (rds_box 0 rfl) rfl))) ?_;refine Zh rfl rfl rfl (gF _) (fun hp => by (exact ms_s3 rfl (Og rfl) rfl rfl (fun _ _ w hw => in_s _ _ _ w))) ?_;refine Zg rfl rfl rfl (gF _) (fun hp => by (exact ps_not rfl (Og rfl))) ?_;refine Zq (ps_or rfl rfl rfl) ?_;refine Zm ?_;refine Zg rfl rfl rfl (gF _) (fun hp => by exact ps_field rfl rfl (isw_ga _)) ?_;refine Zg rfl rfl rfl (gF _) (fun hp => by (exact ps_load rfl (Og rfl) (by exact Rds.cell (rds_box 0 rfl) rfl))) ?_;refine Zg rfl rfl rfl (gF _) (fun hp => by (exact ps_len rfl (Og rfl))) ?_;refine Zg rfl rfl rfl (gF _) (fun hp => by (exact ps_int rfl (Og rfl) rfl rfl)) ?_;refine Zq (ps_or rfl rfl rfl) ?_;refine Ze2 1 53 ?_)|(refine Zr 2 ?_;refine Za ?_;refine Ze1 2 ?_)|(refine Zr 3 ?_;refine Za ?_;refine Ze2 1 3 ?_))
  · have e : fStoreOk ⟨sec,⟨mk,slots,wi⟩,⟨ssz,shl⟩,tens.map LTen.d,rows,hist,bo⟩ = false := st_no (by
      simp only [hml]
      rintro ⟨g1,g2,g3,g4,g5,g6,g7⟩
      simp [g1,g2,g3,g6] at hd
      omega)
    rw [e]
    exact ok_endL (vs := [_]) rfl ⟨rfl,trivial⟩ (fun w' hw => ⟨rfl,hw.below⟩)
  have hhead : (sec.size : Int) = 32 ∧ fKeyOk ⟨mk,slots,wi⟩ = true ∧ fSharesOk ⟨ssz,shl⟩ = true ∧ (0 ≤ bo ∧ bo ≤ 1000) ∧ hist.length ≤ 120 ∧ (tens.map LTen.d).length = slots.length ∧ (tens.map LTen.d).length = shl.length := by
    rw [hml]
    obtain ⟨⟨⟨⟨⟨⟨g1,g2⟩,g3⟩,g4⟩,g5⟩,g6⟩,g7⟩ := hd
    exact ⟨g1,g2,g3,g6,by omega,by omega,by omega⟩
  have hgs : tens.length = slots.length ∧ tens.length = shl.length := by rw [hml] at hhead;exact ⟨hhead.2.2.2.2.2.1,hhead.2.2.2.2.2.2⟩
  clear hc hd
  obtain ⟨D,hD⟩ : ∃ D : DStore,D = ⟨sec,⟨mk,slots,wi⟩,⟨ssz,shl⟩,tens.map LTen.d,rows,hist,bo⟩ := ⟨_,rfl⟩
  rw [← hD]
  have hT : ∀ k,k < tens.length → tenAt D k = (decide ((nth slots k).ten = (nth tens k).id) && decide ((nth shl k).ten = (nth tens k).id) && (inB (nth tens k).ep 0 1000000 && inB (nth tens k).ba 0 1000000 && fEngOk (nth tens k).e.d && decide ((nth tens k).e.snaps.l.length ≤ 2) && mineF (keyOf ⟨mk,slots,wi⟩ (nth tens k).id) rows (nth tens k).d)) := fun k hk => by subst hD;exact st_ten rfl hk
  have hno : ∀ k,k < tens.length → tenAt D k = false → fStoreOk D = false := fun k hk h => st_at (by subst hD;simpa using hk) h
  have hrn : ∀ k,k < rows.length → tensF tens (nth rows k).ten < 0 → fStoreOk D = false := fun k hk h => by
    subst hD
    refine st_row (k := k) hk ?_
    have := tens_any tens (nth rows k).ten
    rw [decide_eq_true h] at this
    simpa using this.symm
  have hye : (∀ k,k < tens.length → tenAt D k = true) → (∀ k,k < rows.length → ¬ tensF tens (nth rows k).ten < 0) → fStoreOk D = true := fun h1 h2 => by
    subst hD
    refine st_yes hhead (fun k hk => h1 k (by simpa using hk)) (fun k hk => ?_)
    have := tens_any tens (nth rows k).ten
    rw [decide_eq_false (h2 k hk)] at this
    simpa using this.symm
  clear hhead hml
  have HT := Lib.hid hT;clear hT
  have HNO := Lib.hid hno;clear hno
  have HRN := Lib.hid hrn;clear hrn
  have HYE := Lib.hid hye;clear hye
  clear hD
  refine ok_loop (ι := { k : Nat // k ≤ tens.length ∧ ∀ j,j < k → tenAt D j = true }) (fun k => tens.length - k.1) (fun k => ([(1,pt (ga (y1 0).c) 0),(3,.int .i64 k.1)],_,_)) ⟨0,by omega,fun j h => absurd h (Nat.not_lt_zero j)⟩ (fun a w he hw => ⟨⟨0,by omega,fun j h => absurd h (Nat.not_lt_zero j)⟩,he.sub ⟨rfl,rfl,trivial⟩,hw⟩) ?_
  rintro ⟨k,hk2,ha⟩
  simp only at hk2 ⊢
  have HA := Lib.hid ha;clear ha
  have hrd : k < tens.length → Rd w (nth tens k).e.mem.A (fl (nth tens k).e.mem.l) ∧ RdN w (nth tens k).e.tab.A (nth tens k).e.tab.l ∧ Rd w (nth tens k).e.snaps.A (fl (nth tens k).e.snaps.l) := fun h => ⟨(HTR.out k h).mem,(HTR.out k h).tab,(HTR.out k h).snaps⟩
  have HRD := Lib.hid hrd;clear hrd
  repeat' (first|refine Wa ?_|refine Wb ?_|refine Wc ?_|refine Wd ?_|refine We ?_|refine Wf ?_|(refine ok_cond rfl (fun hc => ?_) (fun hc => ?_) <;> (have hd := hc;try simp only [jj] at hd))|refine Wg ?_|refine Wh ?_|refine Wi ?_|(refine Zr 4 ?_;refine Zm ?_;refine Zf ?_;refine Zl 0 ?_;refine Zq (ps_len rfl rfl) ?_;refine Zi ?_;refine Ze3 1 3 58 ?_)|(refine Zr 5 ?_;refine Zm ?_;refine Zq (by exact ps_add rfl rfl rfl (by omega)) ?_;refine Za ?_;refine Ze2 1 3 ?_)|(refine Zr 6 ?_;refine Zf ?_;refine Zl 0 ?_;refine Zm ?_;refine Zq (by exact ps_indexN rfl rfl rfl (by omega) (by exact isw_of (isS_fl (by assumption) (by omega)))) ?_;refine Zq (by exact ps_loadsF rfl rfl (by exact rds_rf (by assumption) List.mem_cons_self) (by rfl) (by rfl) (by omega) rfl) ?_;refine Zn (ms_alloc rfl) ?_;rintro y4 hy4;refine Zo (ms_store 0 rfl rfl rfl rfl rfl rfl rfl rfl) ?_;rintro y_ hy_;refine Ze3 1 3 4 ?_)|(refine Xd 7 53 ?_;refine Xf 0 ?_;refine Xl 1 0 ?_;refine Xf 2 ?_;refine Xf 3 ?_;refine Xl 4 1 ?_;refine Xm 5 ?_;refine Xt 6 rfl (by exact ps_indexN rfl rfl rfl (by omega) (by exact isw_of (isS_fl (by assumption) (by omega)))) ?_;refine Xt 7 rfl (by exact ps_field rfl rfl (by exact isw_of (isS_fl (by assumption) (by omega)))) ?_;refine Xt 8 rfl (by exact ps_load rfl rfl (by exact Rds.cell (rds_rf (by assumption) List.mem_cons_self) (by exact fl_at0 _ _ (by omega) (by decide)))) ?_;refine Xt 9 rfl (ps_int rfl rfl rfl rfl) ?_;refine Xm 10 ?_;refine Xg 11 rfl rfl rfl rfl (gF _) (fun hp => by exact ps_field rfl rfl (isw_ga _)) ?_;refine Xg 12 rfl rfl rfl rfl (gF _) (fun hp => by (exact ps_load rfl (Og rfl) (by exact Rds.cell (rds_box 0 rfl) rfl))) ?_;refine Xg 13 rfl rfl rfl rfl (gF _) (fun hp => by exact ps_field rfl rfl (isw_ga _)) ?_;refine Xg 14 rfl rfl rfl rfl (gF _) (fun hp => by (exact ps_field rfl (Og rfl) (isw_ga _))) ?_;refine Xg 15 rfl rfl rfl rfl (gF _) (fun hp => by (exact ps_load rfl (Og rfl) (by exact Rds.cell (rds_box 1 rfl) rfl))) ?_;refine Xg 16 rfl rfl rfl rfl (gF _) (fun hp => by exact ps_move rfl rfl) ?_;refine Xg 17 rfl rfl rfl rfl (gF _) (fun hp => by (have hpd := hp;(try simp only [jj] at hpd);exact ps_indexN rfl (Og rfl) (Og rfl) (by omega) (by exact isw_of (isS_fl (by assumption) (by omega))))) ?_;refine Xg 18 rfl rfl rfl rfl (gF _) (fun hp => by (have hpd := hp;(try simp only [jj] at hpd);exact ps_field rfl (Og rfl) (by exact isw_of (isS_fl (by assumption) (by omega))))) ?_;refine Xg 19 rfl rfl rfl rfl (gF _) (fun hp => by (have hpd := hp;(try simp only [jj] at hpd);exact ps_load rfl (Og rfl) (by exact Rds.cell (rds_rf (by assumption) List.mem_cons_self) (by exact fl_at0 _ _ (by omega) (by decide))))) ?_;refine Xg 20 rfl rfl rfl rfl (gF _) (fun hp => by (exact ps_int rfl (Og rfl) (Og rfl) rfl)) ?_;refine Xt 21 rfl (ps_or rfl rfl rfl) ?_;refine Xm 22 ?_;refine Xg 23 rfl rfl rfl rfl (gF _) (fun hp => by exact ps_field rfl rfl (isw_ga _)) ?_;refine Xg 24 rfl rfl rfl rfl (gF _) (fun hp => by (exact ps_load rfl (Og rfl) (by exact Rds.cell (rds_box 0 rfl) rfl))) ?_;refine okT_one_g1 (i := 25) rfl rfl (by kernel_rfl) rfl rfl rfl rfl rfl (gF _) (fun hp => by (exact ms_s3 rfl (Og rfl) rfl rfl (fun _ _ w hw => in_s _ _ _ w))) (fun w h => by exact h) ?_;refine Xg 26 rfl rfl rfl rfl (gF _) (fun hp => by (exact ps_not rfl (Og rfl))) ?_;refine Xt 27 rfl (ps_or rfl rfl rfl) ?_;refine Xm 28 ?_;refine Xg 29 rfl rfl rfl rfl (gF _) (fun hp => by exact ps_field rfl rfl (isw_ga _)) ?_;refine Xg 30 rfl rfl rfl rfl (gF _) (fun hp => by (exact ps_load rfl (Og rfl) (by exact Rds.cell (rds_box 0 rfl) rfl))) ?_;refine okT_one_g1 (i := 31) rfl rfl (by kernel_rfl) rfl rfl rfl rfl rfl (gF _) (fun hp => by (exact ms_s3 rfl (Og rfl) rfl rfl (fun _ _ w hw => in_s _ _ _ w))) (fun w h => by exact h) ?_;refine Xg 32 rfl rfl rfl rfl (gF _) (fun hp => by (exact ps_not rfl (Og rfl))) ?_;refine Xt 33 rfl (ps_or rfl rfl rfl) ?_;refine Xm 34 ?_;refine Xg 35 rfl rfl rfl rfl (gF _) (fun hp => by exact ps_field rfl rfl (isw_ga _)) ?_;refine Xg 36 rfl rfl rfl rfl (gF _) (fun hp => by (exact ps_loads rfl (Og rfl) (by exact rds_box 0 rfl) rfl rfl (by decide))) ?_;refine okT_one_g1 (i := 37) rfl rfl (by kernel_rfl) rfl rfl rfl rfl rfl (gF _) (fun hp => by (have hpd := hp;(try simp only [jj] at hpd);exact ms_s1 rfl (Og rfl) (fun _ _ w hw => s_EngOk0 (nth tens k).e.mem.A (nth tens k).e.mem.c (nth tens k).e.mem.l (nth tens k).e.tab.A (nth tens k).e.tab.c (nth tens k).e.tab.l (nth tens k).e.seq (nth tens k).e.snaps.A (nth tens k).e.snaps.c (nth tens k).e.snaps.l w (rds_rf (HRD.out (by omega)).1 List.mem_cons_self _ _ w hw) (RdN.keep hw (HRD.out (by omega)).2.1 List.mem_cons_self) (rds_rf (HRD.out (by omega)).2.2 List.mem_cons_self _ _ w hw) (HSM.out k (by omega)).1 (HSM.out k (by omega)).2.1 (HSM.out k (by omega)).2.2.1 (HSM.out k (by omega)).2.2.2))) (fun w h => by exact h) ?_;refine Xg 38 rfl rfl rfl rfl (gF _) (fun hp => by (exact ps_not rfl (Og rfl))) ?_;refine Xt 39 rfl (ps_or rfl rfl rfl) ?_;refine Xm 40 ?_;refine Xg 41 rfl rfl rfl rfl (gF _) (fun hp => by exact ps_field rfl rfl (isw_ga _)) ?_;refine Xg 42 rfl rfl rfl rfl (gF _) (fun hp => by (exact ps_field rfl (Og rfl) (isw_ga _))) ?_;refine Xg 43 rfl rfl rfl rfl (gF _) (fun hp => by (exact ps_load rfl (Og rfl) (by exact Rds.cell (rds_box 0 rfl) rfl))) ?_;refine Xg 44 rfl rfl rfl rfl (gF _) (fun hp => by (exact ps_len rfl (Og rfl))) ?_;refine Xg 45 rfl rfl rfl rfl (gF _) (fun hp => by (exact ps_int rfl (Og rfl) rfl rfl)) ?_;refine Xt 46 rfl (ps_or rfl rfl rfl) ?_;refine Xm 47 ?_;refine Xg 48 rfl rfl rfl rfl (gF _) (fun hp => by exact ps_loads rfl rfl (by exact rds_box 1 rfl) rfl rfl (by decide)) ?_;refine Xg 49 rfl rfl rfl rfl (gF _) (fun hp => by exact ps_loads rfl rfl (by exact rds_box 0 rfl) rfl rfl (by decide)) ?_;refine okT_one_g1 (i := 50) rfl rfl (by kernel_rfl) rfl rfl rfl rfl rfl (gF _) (fun hp => by (have hpd := hp;(try simp only [jj] at hpd);exact ms_s2 rfl (Og rfl) (Og rfl) (fun _ _ w hw => l22Mine0 sec mk kA kc slots wi ssz shA shl.length shc tnA tens.length tnc rA rc rows hA hist.length hcc bo (nth tens k).id (nth tens k).ep (nth tens k).ba (nth tens k).e.mem.A (nth tens k).e.mem.c (nth tens k).e.mem.l (nth tens k).e.tab.A (nth tens k).e.tab.c (nth tens k).e.tab.l (nth tens k).e.seq (nth tens k).e.snaps.A (nth tens k).e.snaps.c (nth tens k).e.snaps.l w (rds_rf hk List.mem_cons_self _ _ w hw) (rds_rf hr List.mem_cons_self _ _ w hw) (rds_rf (HRD.out (by omega)).1 List.mem_cons_self _ _ w hw) (RdN.keep hw (HRD.out (by omega)).2.1 List.mem_cons_self) (by omega) hl0 hl3 HTX.out (HSM.out k (by omega)).1 (HSM.out k (by omega)).2.1 (HSM.out k (by omega)).2.2.1))) (fun w h => by exact h) ?_;refine Xg 51 rfl rfl rfl rfl (gF _) (fun hp => by (exact ps_not rfl (Og rfl))) ?_;refine Xt 52 rfl (ps_or rfl rfl rfl) ?_;refine okT_done (by kernel_rfl) ?_;refine Ze3 1 3 118 ?_)|(refine Zr 8 ?_;refine Za ?_;refine Ze1 2 ?_)|(refine Zr 9 ?_;refine Za ?_;refine Ze2 1 5 ?_))
  · have e : fStoreOk D = false := HNO.out k (by omega) (by
      rw [HT.out k (by omega),Bool.eq_false_iff];intro h
      simp only [Bool.and_eq_true,decide_eq_true_eq,inB_true] at h
      obtain ⟨⟨h1,h2⟩,⟨⟨⟨h3,h4⟩,h5⟩,h6⟩,h7⟩ := h
      rcases hd with (((((q | q) | q) | q) | q) | q) | q
      · exact q h1.symm
      · exact q h2.symm
      · omega
      · omega
      · exact absurd (h5.symm.trans q) (by decide)
      · omega
      · exact absurd (h7.symm.trans q) (by decide))
    rw [e]
    exact ok_endL (vs := [_]) rfl ⟨rfl,trivial⟩ (fun w' hw => ⟨rfl,hw.below⟩)
  · exact fun a w' he hw => ⟨⟨k + 1,by omega,fun j hj => by
      rcases Nat.lt_succ_iff_lt_or_eq.1 hj with h' | rfl
      · exact HA.out j h'
      · rw [HT.out j (by omega)]
        simp only [Bool.and_eq_true,decide_eq_true_eq,inB_true]
        obtain ⟨⟨⟨⟨⟨⟨q1,q2⟩,q3⟩,q4⟩,q5⟩,q6⟩,q7⟩ := hd
        exact ⟨⟨q1.symm,q2.symm⟩,⟨⟨⟨q3,q4⟩,q5⟩,by omega⟩,q7⟩⟩,by simp only;omega,he.sub ⟨rfl,rfl,trivial⟩,hw.sel [1] (by decide) rfl (fun _ h => h)⟩
  · have hkk : k = tens.length := by omega
    subst hkk
    clear hc hd HNO HT HRD
    refine ok_loop (ι := { k : Nat // k ≤ rows.length ∧ ∀ j,j < k → ¬ tensF tens (nth rows j).ten < 0 }) (fun k => rows.length - k.1) (fun k => ([(1,pt (ga (y1 0).c) 0),(5,.int .i64 k.1)],_,_)) ⟨0,by omega,fun j h => absurd h (Nat.not_lt_zero j)⟩ (fun a w he hw => ⟨⟨0,by omega,fun j h => absurd h (Nat.not_lt_zero j)⟩,he.sub ⟨rfl,rfl,trivial⟩,hw⟩) ?_
    rintro ⟨k,hk2,ha2⟩
    simp only at hk2 ⊢
    have HA2 := Lib.hid ha2;clear ha2
    repeat' (first|refine Wa ?_|refine Wb ?_|refine Wc ?_|refine Wd ?_|refine We ?_|refine Wf ?_|(refine ok_cond rfl (fun hc => ?_) (fun hc => ?_) <;> (have hd := hc;try simp only [jj] at hd))|refine Wg ?_|refine Wh ?_|refine Wi ?_|(refine Zr 10 ?_;refine Zm ?_;refine Zf ?_;refine Zl 0 ?_;refine Zq (ps_len rfl rfl) ?_;refine Zi ?_;refine Ze3 1 5 123 ?_)|(refine Zr 11 ?_;refine Zm ?_;refine Zq (by exact ps_add rfl rfl rfl (by omega)) ?_;refine Za ?_;refine Ze2 1 5 ?_)|(refine Xd 12 10 ?_;refine Xf 0 ?_;refine Xl 1 0 ?_;refine Xf 2 ?_;refine Xl 3 0 ?_;refine Xm 4 ?_;refine Xt 5 rfl (by exact ps_indexN rfl rfl rfl (by omega) (by exact isw_of (isS_fl (by assumption) (by omega)))) ?_;refine Xt 6 rfl (by exact ps_field rfl rfl (by exact isw_of (isS_fl (by assumption) (by omega)))) ?_;refine Xt 7 rfl (by exact ps_load rfl rfl (by exact Rds.cell (rds_rf (by assumption) List.mem_cons_self) (by exact fl_at0 _ _ (by omega) (by decide)))) ?_;refine Xo 8 rfl (by exact ms_s2 rfl rfl rfl (fun _ _ w hw => l22At_c tnA tnc tens _ w (rds_rf ht List.mem_cons_self _ _ w hw) hl2)) (fun y w _ h => by exact h) ?_;rintro y134 hy134;refine Xt 9 rfl (ps_int rfl rfl rfl rfl) ?_;refine okT_done (by kernel_rfl) ?_;refine Ze3 1 5 135 ?_)|(refine Zr 13 ?_;refine Za ?_;refine Ze1 2 ?_)|(refine Zr 14 ?_;refine Za ?_;refine Ze1 2 ?_))
    · rw [HRN.out k (by omega) hd]
      exact ok_endL (vs := [_]) rfl ⟨rfl,trivial⟩ (fun w' hw => ⟨rfl,hw.below⟩)
    · exact fun a w' he hw => ⟨⟨k + 1,by omega,fun j hj => by
        rcases Nat.lt_succ_iff_lt_or_eq.1 hj with h' | rfl
        · exact HA2.out j h'
        · exact hd⟩,by simp only;omega,he.sub ⟨rfl,rfl,trivial⟩,hw⟩
    · obtain rfl : k = rows.length := by omega
      rw [HYE.out HA.out HA2.out]
      exact ok_endL (vs := [_]) rfl ⟨rfl,trivial⟩ (fun w' hw => ⟨rfl,hw.below⟩)
end Go.Proofs.YtmfojbidojjciaaGreat
namespace Go.Proofs.YtmfojbidojjciaaGreat
open Go.RowKit
section
variable {P : Program} {N base : Nat} {w0 : World} {E : Env} {H : List HObj} {G : List World} {ops : Array Oper} {o : Oper} {rest : List Oper} {Q : Exit → Act → World → Prop} {F : Ys → Prop} {v : Ys → Value} {H' : Ys → List HObj} {G' : Ys → List World}
theorem ok_mgs {j d : Nat} {want c : Bool} (hg : o.guard = some (j,want)) (hj : (ops[j]?).bind (·.dst) = some d) (hv : look E d = some (.bool c)) {td : Nat} (hdt : o.dst = some td) (hd : Nat.blt td N = true) (hs : (c == want) = true → MStep P E H G o F v H' G')
    (h1 : (c == want) = true → ∀ y,F y → Ok N base w0 ((td,v y) :: E) (H' y) (G' y) (wpList P ops Q rest)) (h0 : (c == want) = false → Ok N base w0 ((td,undef) :: E) H G (wpList P ops Q rest)) : Ok N base w0 E H G (wpList P ops Q (o :: rest)) := by
  cases h : (c == want) with
  | true => exact ok_m_yes (p := true) hg hj hv (by rw [Bool.true_and];exact h) hdt hd (hs h) (h1 h)
  | false => exact ok_m_no (p := true) hg hj hv (by rw [Bool.true_and];exact h) hdt hd (h0 h)
theorem ps_never {u : Value} (h : False) : PStep P E H G o u := h.elim
end
end Go.Proofs.YtmfojbidojjciaaGreat
namespace Go.Proofs.YtmfojbidojjciaaGreat
open Go.RowKit
section
variable {P : Program} {N base : Nat} {w0 : World} {E : Env} {H : List HObj} {G : List World} {Q : Exit → Act → World → Prop}
theorem at_block (i : Nat) {x y : Code} (h : Ok N base w0 E H G ((Code.seq (Code.block i x) y).wp P Q)) : Ok N base w0 E H G ((Code.seq (Code.block i x) y).wp P Q) := h
theorem at_reg (i : Nat) {ops : Array Oper} {b : Bool} {z y : Code} (h : Ok N base w0 E H G ((Code.seq (Code.seq (Code.region i ops b) z) y).wp P Q)) : Ok N base w0 E H G ((Code.seq (Code.seq (Code.region i ops b) z) y).wp P Q) := h
theorem ps_fieldV {o : Oper} {x : Operand} {t : TypeId} {f : Nat} {u v : Value} (ho : o.op = .field t x f) (hx : opd E x = some u) (hr : ∀ w,(Instr.field t u f).run P w = .ok v w) : PStep P E H G o v := fun N base w0 a w he hw => by
  simp only [execOp,ho,he.eval hx,Sem.run_bind,hr,Result.andThen_ok,Sem.run_pure]
theorem ok_capE {n c e sz : Nat} {A : Option Addr} {us : List Value} {K : Act → World → Prop} (i : Nat) (hi : H[i]? = some (.row e sz A n c us)) (h : n ≤ c → Ok N base w0 E H G K) : Ok N base w0 E H G K := fun a w he hw => h (hw.cap i hi) a w he hw
theorem isw_rdsE {A : Option Addr} {us : List Value} (h : Rds H G A us) (hl : 0 < us.length) : IsSW H G A := fun base w0 w hw => isS_rd (h base w0 w hw) hl
end
end Go.Proofs.YtmfojbidojjciaaGreat
namespace Go.Proofs.YtmfojbidojjciaaGreat
open Go.RowKit
section
variable {P : Program} {N base : Nat} {w0 : World} {E : Env} {H : List HObj} {G : List World} {K : Act → World → Prop}
theorem ok_front (i : Nat) {x : HObj} (hi : H[i]? = some x) (h : Ok N base w0 E (x :: H.eraseIdx i) G K) : Ok N base w0 E H G K := fun a w he hw => h a w he (hw.front i hi)
end
end Go.Proofs.YtmfojbidojjciaaGreat
namespace Go.Proofs.YtmfojbidojjciaaGreat
open Go.RowKit
attribute [local irreducible] Calls
def noEng : DEng := ⟨[],[],0,[]⟩
def repF (key : ByteArray) (e : DEng) (l : List LogRow) : DEng × Bool := match playF key e l with
  | some x => (x,true)
  | none => (noEng,false)
theorem rep_end (key : ByteArray) (e : DEng) : repF key e [] = (e,true) := rfl
theorem rep_no1 {key : ByteArray} {e : DEng} {l : List LogRow} {k : Nat} (hk : k < l.length) (h : (openF key (nth l k).boot (nth l k).seq (nth l k).txt).2 = false) : repF key e (l.drop k) = (noEng,false) := by
  unfold repF
  rw [dropA hk,playF,if_neg (by rw [h];decide)]
theorem rep_no2 {key : ByteArray} {e : DEng} {l : List LogRow} {k : Nat} (hk : k < l.length) (h : (fEngPut e (openF key (nth l k).boot (nth l k).seq (nth l k).txt).1).2 = false) : repF key e (l.drop k) = (noEng,false) := by
  unfold repF
  rw [dropA hk,playF]
  split
  · rename_i h1 h2
    split at h2
    · rw [if_neg (by rw [h];decide)] at h2;cases h2
    · cases h2
  · rfl
theorem rep_yes {key : ByteArray} {e : DEng} {l : List LogRow} {k : Nat} (hk : k < l.length) (h : (openF key (nth l k).boot (nth l k).seq (nth l k).txt).2 = true) (h2 : (fEngPut e (openF key (nth l k).boot (nth l k).seq (nth l k).txt).1).2 = true) : repF key e (l.drop k) = repF key (putE e (openF key (nth l k).boot (nth l k).seq (nth l k).txt).1) (l.drop (k + 1)) := by
  have := (put_need h2).2.2.2
  unfold repF
  rw [dropA hk,playF,if_pos h,if_pos h2,this]
theorem eng_field1 (a b c d : Value) (w : World) : (Instr.field 88 (.agg #[a,b,c,d]) 1).run Tryz.prog w = .ok b w := by kernel_rfl
structure RpI (rows : List LogRow) (key : ByteArray) (e0 : DEng) (m0 : World) where
  k : Nat
  m : World
  B : Option Addr
  d : Nat
  mem : List Ent
  sq : Int
  hk : k ≤ rows.length
  hm : WLe m0 m
  he : fEngOk ⟨mem,e0.tabs,sq,[]⟩ = true
  hp : repF key e0 rows = repF key ⟨mem,e0.tabs,sq,[]⟩ (rows.drop k)
theorem replayed0 (g : Nat) (cs : List Value) (mk : ByteArray) (kA : Option Addr) (kc : Nat) (slots : List KeySlot) (wi : Int) (id ep ba : Int) (mA : Option Addr) (mc : Nat) (mem : List Ent) (tA : Option Addr) (tc : Nat) (R : List LE) (seq : Int) (sA : Option Addr) (sc : Nat) (sn : List Int) (rA : Option Addr) (rc : Nat) (rows : List LogRow) (w : World)
    (hb : Rd w (ga g) cs) (hc1 : (cs.drop 1).take 3 = [.string mk,.slice kA slots.length kc,.int .i64 wi]) (hk : Rd w kA (fl slots)) (h1 : Rd w mA (fl mem)) (h2 : RdN w tA R) (h3 : Rd w sA (fl sn)) (hr : Rd w rA (fl rows)) (hl0 : slots.length ≤ 4194304) (hl1 : mem.length ≤ 4194304) (hl2 : R.length ≤ 4194304) (hs : ∀ x ∈ dats R,x.length ≤ 4194304) (hl3 : sn.length ≤ 4194304) (hlr : rows.length ≤ 4194304) (htx : ∀ k,k < rows.length → (nth rows k).txt.size ≤ 4194304) (he0 : fEngOk ⟨[],dats R,ba,[]⟩ = true) :
    Calls Tryz.prog 148 #[pt (ga g) 0,.agg #[.int .i64 id,.int .i64 ep,.int .i64 ba,.slice mA mem.length mc,.slice tA R.length tc,.int .i64 seq,.slice sA sn.length sc],.slice rA rows.length rc] w fun e w' => ∃ y : Ys,e = .returned (.tuple #[engVal (repF (keyOf ⟨mk,slots,wi⟩ id) ⟨[],dats R,ba,[]⟩ rows).1 y,.bool (repF (keyOf ⟨mk,slots,wi⟩ id) ⟨[],dats R,ba,[]⟩ rows).2]) ∧ True ∧ Below w.heap.size w w' ∧ NewOk w.heap.size (engObj (repF (keyOf ⟨mk,slots,wi⟩ id) ⟨[],dats R,ba,[]⟩ rows).1 y) [] w' := by
  have HS := Lib.hid hs;clear hs
  have H2 := Lib.hid h2;clear h2
  have HTX := Lib.hid htx;clear htx
  have HE0 := Lib.hid he0;clear he0
  refine ok_enter 55 Tryz.func148 rfl rfl rfl ?_
  repeat' (first|refine Wa ?_|refine Wb ?_|refine Wd ?_|(refine Zr 0 ?_;refine Zn (ms_box rfl rfl rfl) ?_;rintro y4 hy4;refine Zn (ms_alloc rfl) ?_;rintro y6 hy6;refine Za ?_;refine Ze4 0 2 4 6 ?_)|(apply mrg2;(focus (intro hk;refine Xd 1 8 ?_;refine Xf 0 ?_;refine Xt 1 rfl (by exact ps_loads rfl rfl (by exact rds_box 1 rfl) rfl rfl (by decide)) ?_;refine Xf 4 ?_;refine Xl 5 1 ?_;refine okT_many (by kernel_rfl) (all_cons (at_m (i := 2) rfl rfl rfl rfl rfl (by /-4-/ exact ms_c1 rfl rfl (fun _ _ w hw => i_copyEng0 mA mc mem tA tc R seq sA sc sn w (rds_rf h1 List.mem_cons_self _ _ w hw) (RdN.keep hw H2.out List.mem_cons_self) (rds_rf h3 List.mem_cons_self _ _ w hw) hl1 hl2 HS.out hl3)) (fun y w _ h => by exact h.tl.tl.tl.tl) ?_) (all_cons (at_m (i := 7) rfl rfl rfl rfl rfl (ms_alloc rfl) (fun y w _ h => by exact h.tl) ?_) all_nil));(focus (rintro y16 hy16;refine Xt 3 rfl (by exact ps_fieldV rfl rfl (eng_field1 _ _ _ _)) ?_;refine Xt 6 rfl (by exact ps_bld rfl (parts_cons rfl (parts_cons rfl parts_nil)) rfl) ?_;refine Xo 7 rfl (ms_alloc rfl) (fun y w _ h => by exact h.tl.tl.tl.tl.tl) ?_;rintro y8 hy8;refine okT_done (by kernel_rfl) ?_;refine Zo (ms_store 0 rfl rfl rfl rfl rfl rfl rfl rfl) ?_;rintro y_ hy_;refine Ze5 0 2 4 6 8 ?_;exact hk y16 y8));(focus (rintro y8 hy8;refine Xo 2 rfl (by /-4-/ exact ms_c1 rfl rfl (fun _ _ w hw => i_copyEng0 mA mc mem tA tc R seq sA sc sn w (rds_rf h1 List.mem_cons_self _ _ w hw) (RdN.keep hw H2.out List.mem_cons_self) (rds_rf h3 List.mem_cons_self _ _ w hw) hl1 hl2 HS.out hl3)) (fun y w _ h => by exact h.tl.tl.tl.tl.tl) ?_;rintro y16 hy16;refine Xt 3 rfl (by exact ps_fieldV rfl rfl (eng_field1 _ _ _ _)) ?_;refine Xt 6 rfl (by exact ps_bld rfl (parts_cons rfl (parts_cons rfl parts_nil)) rfl) ?_;refine okT_done (by kernel_rfl) ?_;refine Zo (ms_store 4 rfl rfl rfl rfl rfl rfl rfl rfl) ?_;rintro y_ hy_;refine Ze5 0 2 4 6 8 ?_;refine ok_front 3 rfl ?_;refine ok_front 3 rfl ?_;refine ok_front 3 rfl ?_;refine ok_front 3 rfl ?_;refine ok_front 4 rfl ?_;exact hk y16 y8))));rintro y16 y8)|(refine Xd 2 8 ?_;refine Xm 0 ?_;refine Xt 1 rfl (by exact ps_nil rfl rfl (isw_ga _)) ?_;refine Xf 2 ?_;refine Xt 3 rfl (by exact ps_loads (vs := [.string mk,.slice kA slots.length kc,.int .i64 wi]) rfl rfl (rds_rf hb List.mem_cons_self) hc1 rfl (by decide)) ?_;refine Xf 4 ?_;refine Xl 5 6 ?_;refine Xo 6 rfl (by exact ms_s2 rfl rfl rfl (fun _ _ w hw => i_KeyOf0 mk kA kc slots wi id w (rds_rf hk List.mem_cons_self _ _ w hw) hl0)) (fun y w _ h => by exact h) ?_;rintro y27 hy27;refine Xt 7 rfl (ps_assign rfl rfl) ?_;refine okT_done (by kernel_rfl) ?_;refine Ze4 2 6 8 9 ?_)|(refine Zr 3 ?_;refine Zm ?_;refine Zq (ps_len rfl rfl) ?_;refine Zm ?_;refine Ze6 6 8 9 28 29 30 ?_))
  have hS : dats (locs 3 (dats R) y16) = dats R := dats_locs 3 (dats R) y16
  have hSl : (locs 3 (dats R) y16).length = R.length := by rw [locs_len,dats_len]
  have he0 := HE0.out
  generalize locs 3 (dats R) y16 = S at hS hSl ⊢
  rw [← hS] at he0 ⊢
  generalize keyOf ⟨mk,slots,wi⟩ id = key
  rw [← hSl]
  clear HE0 hS
  have HE := Lib.hid he0;clear he0
  refine ok_loop (ι := RpI rows key ⟨[],dats S,ba,[]⟩ w) (fun q => rows.length - q.k) (fun q => ([(6,pt (ga (y6 0).c) 0),(8,pt (ga (y8 0).c) 0),(9,.string key),(28,.slice rA rows.length rc),(29,.int .i64 rows.length),(30,.int .i64 q.k)],[.box (y8 0).c 88 [.slice q.B q.mem.length q.d,.slice (y16 1).A S.length (y16 1).c,.int .i64 q.sq,.slice none 0 0],.row 204 4 q.B q.mem.length q.d (fl q.mem),.row 85 1 (y16 1).A S.length (y16 1).c (fl S),.bag 204 4 (rowsOf S),.box (y6 0).c 88 [.slice none 0 0,.slice none 0 0,.int .i64 0,.slice none 0 0]],[q.m])) ⟨0,w,none,0,[],ba,Nat.zero_le _,WLe.refl _,HE.out,rfl⟩ (fun a w' he hw => ⟨⟨0,w,none,0,[],ba,Nat.zero_le _,WLe.refl _,HE.out,rfl⟩,he.sub ⟨rfl,rfl,rfl,rfl,rfl,rfl,trivial⟩,((hw.sel [0,2,3,5] (by decide) rfl (fun _ h => h)).rowNil 204 4).front 1 rfl⟩) ?_
  rintro ⟨k,m,B,d,qm,sq,hk2,hm,heq,hp⟩
  simp only at hk2 hm heq hp ⊢
  have hr' := hr.le hm
  have HM := Lib.hid hm;clear hm
  have HP := Lib.hid hp;clear hp
  have HEQ := Lib.hid heq;clear heq
  have hof := open_few key (nth rows k).boot (nth rows k).seq (nth rows k).txt
  repeat' ((fail_if_success (refine at_reg 7 ?_));first
    | refine Wa ?_
    | refine Wb ?_
    | refine Wd ?_
    | (refine ok_cond rfl (fun hc => ?_) (fun hc => ?_) <;> (have hd := hc;try simp only [jj] at hd))
    | refine Wg ?_
    | refine Wh ?_
    | refine Wi ?_
    | (refine Zr 4 ?_;refine Zi ?_;refine Ze7 6 8 9 28 29 30 31 ?_)
    | (refine Zr 5 ?_;refine Zq (by exact ps_indexN rfl rfl rfl (by omega) (by exact isw_of (isS_fl (by assumption) (by omega)))) ?_;refine Zq (by exact ps_loadsF rfl rfl (by exact rds_rf (by assumption) List.mem_cons_self) (by rfl) (by rfl) (by omega) rfl) ?_;refine Zn (ms_alloc rfl) ?_;rintro y11 hy11;refine Zo (ms_store 0 rfl rfl rfl rfl rfl rfl rfl rfl) ?_;rintro y_ hy_;refine Ze7 6 8 9 11 28 29 30 ?_)
    | (refine Zr 6 ?_;refine Zm ?_;refine Zf ?_;refine Zl 0 ?_;refine Zf ?_;refine Zl 0 ?_;refine Zf ?_;refine Zl 0 ?_;refine Zn (by exact ms_c4 rfl rfl rfl rfl rfl (fun _ _ w hw => i_OpenBatch key (nth rows k).boot (nth rows k).seq (nth rows k).txt w (HTX.out k (by omega)))) ?_;rintro y42 hy42;refine Zm ?_;refine Zq (ps_extract rfl rfl rfl) ?_;refine Zq (ps_extract rfl rfl rfl) ?_;refine Za ?_;refine Za ?_;refine Ze8 6 8 9 12 13 28 29 30 ?_)
    | (refine Zr 10 ?_;refine Zq (by exact ps_loads rfl rfl (by exact rds_box 0 rfl) rfl rfl (by decide)) ?_;refine Zo (ms_store 4 rfl rfl rfl rfl rfl rfl rfl rfl) ?_;rintro y_ hy_;refine Za ?_;refine Ze2 6 7 ?_))
  · refine ok_capE 0 rfl (fun hcp => ?_)
    refine ok_frz [_] (fun w hw => hw) (fun m2 hle hrd => ?_)
    have ho : Rd m2 (y42 0).A (fl (openF key (nth rows k).boot (nth rows k).seq (nth rows k).txt).1) := hrd _ List.mem_cons_self
    have hm2 := hle m List.mem_cons_self
    clear hle hrd
    repeat' (first|refine Wa ?_|refine Wb ?_|refine Wc ?_|refine We ?_|refine Wf ?_|(refine ok_cond rfl (fun hc => ?_) (fun hc => ?_) <;> (have hd := hc;try simp only [jj] at hd))|refine Wg ?_|refine Wi ?_|(refine Zr 7 ?_;refine Zm ?_;refine Zq (ps_not rfl rfl) ?_;refine Zm ?_;refine Zg rfl rfl rfl (gF _) (fun hp => by exact ps_move rfl rfl) ?_;refine ok_mgs rfl rfl rfl rfl rfl (fun hp => by (have hpd := hp;(try simp only [jj] at hpd);/-S-/ exact ms_w2 (fun _ _ _ h => (h.front 2 rfl).front 2 rfl) rfl rfl (og rfl (by simpa using hp)) (fun _ _ w hw => engPut_c (y8 0).c B d qm (y16 1).A (y16 1).c S sq none 0 [] (y42 0).A (y42 0).c (openF key (nth rows k).boot (nth rows k).seq (nth rows k).txt).1 m2 ho hcp HEQ.out (open_ok (by simpa using hp)) List.mem_cons_self (fun base w0 w hw => RdN.own hw 1 2 rfl rfl) hw))) ?_ ?_;(focus (intro hp y49 hy49;have hpd := hp;(try simp only [jj] at hpd);refine Zg rfl rfl rfl (gF _) (fun hp => by exact ps_not rfl rfl) ?_;refine Zq (ps_or rfl rfl rfl) ?_;refine Ze7 6 8 9 28 29 30 51 ?_));rotate_left 1;(focus (intro hp;have hpd := hp;(try simp only [jj] at hpd);refine Zg rfl rfl rfl (gF _) (fun hp => by (have hpd := hp;(try simp only [jj] at hpd);exact ps_never (u := .bool true) (by contradiction))) ?_;refine Zq (ps_or rfl rfl rfl) ?_;refine Ze7 6 8 9 28 29 30 51 ?_)))|(refine Zr 8 ?_;refine Zq (by exact ps_bld rfl parts_nil rfl) ?_;refine Zo (ms_store 5 rfl rfl rfl rfl rfl rfl rfl rfl) ?_;rintro y_ hy_;refine Za ?_;refine Ze2 6 7 ?_)|(refine Zr 9 ?_;refine Zq (by exact ps_add rfl rfl rfl (by omega)) ?_;refine Zm ?_;refine Ze6 6 8 9 28 29 30 ?_))
    · have hf : (openF key (nth rows k).boot (nth rows k).seq (nth rows k).txt).2 = false := by simpa using hpd
      rw [HP.out,rep_no1 (by omega) hf]
      refine ok_endL (vs := [_,_]) rfl ⟨⟨_,5,_,_,_,rfl,rfl,inferInstance,rfl,rfl⟩,rfl,trivial⟩ (fun w' hw => ⟨cpY none 0 none 0 none 0 [] w',?_,trivial,hw.below,?_⟩)
      · rw [noEng,(engNil w').1];rfl
      · rw [noEng,(engNil w').2]
        have := hw.sel [] (by decide) rfl (G' := []) (fun _ h => by cases h)
        exact NewOk.of ((((this.rowNil 3 1).bag_nil 204 4).rowNil 85 1).rowNil 204 4)
    · exact hd.2.elim
    · have hf : (fEngPut ⟨qm,dats S,sq,[]⟩ (openF key (nth rows k).boot (nth rows k).seq (nth rows k).txt).1).2 = false := by
        rcases hd with hd | hd
        · rw [hpd] at hd;cases hd
        · exact hd
      rw [HP.out,rep_no2 (by omega) hf]
      refine ok_endL (vs := [_,_]) rfl ⟨⟨_,5,_,_,_,rfl,rfl,inferInstance,rfl,rfl⟩,rfl,trivial⟩ (fun w' hw => ⟨cpY none 0 none 0 none 0 [] w',?_,trivial,hw.below,?_⟩)
      · rw [noEng,(engNil w').1];rfl
      · rw [noEng,(engNil w').2]
        have := hw.sel [] (by decide) rfl (G' := []) (fun _ h => by cases h)
        exact NewOk.of ((((this.rowNil 3 1).bag_nil 204 4).rowNil 85 1).rowNil 204 4)
    · exact fun a w' he hw => ⟨⟨k + 1,m2,(y49 0).A,(y49 0).c,(putE ⟨qm,dats S,sq,[]⟩ (openF key (nth rows k).boot (nth rows k).seq (nth rows k).txt).1).mem,sq + 1,by omega,HM.out.trans hm2,(put_need hd.2).2.2.1,HP.out.trans (rep_yes (by omega) hpd hd.2)⟩,by simp only;omega,he.sub ⟨rfl,rfl,rfl,rfl,rfl,rfl,trivial⟩,hw.sel [0,1,3,4,5] (by decide) rfl (fun _ h => h)⟩
  · obtain rfl : k = rows.length := by omega
    rw [HP.out,List.drop_length,rep_end]
    refine ok_endL (vs := [_,_]) rfl ⟨⟨_,4,_,_,_,rfl,rfl,inferInstance,rfl,rfl⟩,rfl,trivial⟩ (fun w' hw => ⟨cpY B d (y16 1).A (y16 1).c none 0 S w',?_,trivial,hw.below,?_⟩)
    · rw [(eng_obj B d qm (y16 1).A (y16 1).c S sq none 0 [] w').1];rfl
    · rw [(eng_obj B d qm (y16 1).A (y16 1).c S sq none 0 [] w').2]
      exact NewOk.of (((hw.sel [1,2,3] (by decide) rfl (G' := []) (fun _ h => by cases h)).rowNil 3 1).sel [1,2,3,0] (by decide) rfl (G' := []) (fun _ h => by cases h))
theorem equalE_c (A : Option Addr) (c : Nat) (L : List Ent) (B : Option Addr) (d : Nat) (M : List Ent) (w : World) (h1 : Rd w A (fl L)) (h2 : Rd w B (fl M)) (hl1 : L.length ≤ 4194304) (hl2 : M.length ≤ 4194304) :
    Calls Tryz.prog 149 #[.slice A L.length c,.slice B M.length d] w fun e w' => e = .returned (.bool (decide (L = M))) ∧ Below w.heap.size w w' := by
  refine ok_enter 26 Tryz.func149 rfl rfl rfl ?_
  repeat' (first|refine Wa ?_|refine Wb ?_|refine Wc ?_|refine Wd ?_|(refine ok_cond rfl (fun hc => ?_) (fun hc => ?_) <;> (have hd := hc;try simp only [jj] at hd))|refine Wg ?_|refine Wi ?_|(refine Zr 0 ?_;refine Za ?_;refine Ze2 0 1 ?_)|(refine Zr 1 ?_;refine Zm ?_;refine Zq (ps_len rfl rfl) ?_;refine Zm ?_;refine Zq (ps_len rfl rfl) ?_;refine Zi ?_;refine Ze3 0 1 10 ?_)|(refine Zr 2 ?_;refine Za ?_;refine Ze1 4 ?_)|(refine Zr 3 ?_;refine Zm ?_;refine Zq (ps_len rfl rfl) ?_;refine Zm ?_;refine Ze4 0 1 12 13 ?_))
  · rw [show decide (L = M) = false from decide_eq_false (fun h => hd (by rw [h]))]
    exact ok_endL (vs := [_]) rfl ⟨rfl,trivial⟩ (fun w' hw => ⟨rfl,hw.below⟩)
  have hlm : L.length = M.length := by omega
  clear hc hd
  refine ok_loop (ι := { j : Nat // j ≤ L.length ∧ ∀ q,q < j → nth L q = nth M q }) (fun j => L.length - j.1) (fun j => ([(0,.slice A L.length c),(1,.slice B M.length d),(12,.int .i64 L.length),(13,.int .i64 j.1)],_,_)) ⟨0,by omega,fun j h => absurd h (Nat.not_lt_zero j)⟩ (fun a w he hw => ⟨⟨0,by omega,fun j h => absurd h (Nat.not_lt_zero j)⟩,he.sub ⟨rfl,rfl,rfl,rfl,trivial⟩,hw⟩) ?_
  rintro ⟨j,hj,ha⟩
  simp only at hj ⊢
  have HA := Lib.hid ha;clear ha
  repeat' (first|refine Wa ?_|refine Wb ?_|refine Wc ?_|refine Wd ?_|refine We ?_|refine Wf ?_|(refine ok_cond rfl (fun hc => ?_) (fun hc => ?_) <;> (have hd := hc;try simp only [jj] at hd))|refine Wg ?_|refine Wh ?_|refine Wi ?_|(refine Zr 4 ?_;refine Zi ?_;refine Ze5 0 1 12 13 14 ?_)|(refine Zr 5 ?_;refine Zm ?_;refine Za ?_;refine Ze5 0 1 5 12 13 ?_)|(refine Xd 6 9 ?_;refine Xm 0 ?_;refine Xm 1 ?_;refine Xt 2 rfl (by exact ps_indexN rfl rfl rfl (by omega) (by exact isw_of (isS_fl (by assumption) (by omega)))) ?_;refine Xt 3 rfl (by exact ps_loads (vs := Dat.cells (nth L j)) rfl rfl (rds_rf h1 List.mem_cons_self) (fl_sub L j (by omega)) (Dat.len (nth L j)) (by decide)) ?_;refine Xm 4 ?_;refine Xm 5 ?_;refine Xt 6 rfl (by exact ps_indexN rfl rfl rfl (by omega) (by exact isw_of (isS_fl (by assumption) (by omega)))) ?_;refine Xt 7 rfl (by exact ps_loads (vs := Dat.cells (nth M j)) rfl rfl (rds_rf h2 List.mem_cons_self) (fl_sub M j (by omega)) (Dat.len (nth M j)) (by decide)) ?_;refine Xt 8 rfl (by exact ps_neE (nth L j) (nth M j) rfl rfl rfl) ?_;refine okT_done (by kernel_rfl) ?_;refine Ze5 0 1 12 13 24 ?_)|(refine Zr 7 ?_;refine Za ?_;refine Ze1 4 ?_)|(refine Zr 8 ?_;refine Zq (by exact ps_add rfl rfl rfl (by omega)) ?_;refine Zm ?_;refine Ze4 0 1 12 13 ?_)|(refine Zr 9 ?_;refine Za ?_;refine Ze1 4 ?_))
  · have e : decide (L = M) = false := decide_eq_false (fun h => hd (by rw [h]))
    rw [e]
    exact ok_endL (vs := [_]) rfl ⟨rfl,trivial⟩ (fun w' hw => ⟨rfl,hw.below⟩)
  · exact fun a w' he hw => ⟨⟨j + 1,by omega,fun q hq => by
      rcases Nat.lt_succ_iff_lt_or_eq.1 hq with h' | rfl
      · exact HA.out q h'
      · exact hd⟩,by simp only;omega,he.sub ⟨rfl,rfl,rfl,rfl,trivial⟩,hw⟩
  · obtain rfl : j = L.length := by omega
    have e : decide (L = M) = true := decide_eq_true (ext_nth hlm HA.out)
    rw [e]
    exact ok_endL (vs := [_]) rfl ⟨rfl,trivial⟩ (fun w' hw => ⟨rfl,hw.below⟩)
def seqAt (b : Int) (l : List LogRow) (i : Nat) : Bool := decide ((nth l i).seq = b + i + 1)
theorem seqs_all : ∀ (b : Int) (l : List LogRow),seqsOk b l = (List.range l.length).all (seqAt b l)
  | _,[] => rfl
  | b,r :: l => by
    unfold seqsOk
    rw [seqs_all (b + 1) l,List.length_cons,List.range_succ_eq_map,List.all_cons,List.all_map]
    congr 1
    · unfold seqAt;simp [nth]
    · congr 1
      funext i
      unfold seqAt
      simp only [Function.comp_apply]
      have e : nth (r :: l) (i + 1) = nth l i := rfl
      rw [e]
      exact decide_eq_decide.2 (by omega)
theorem mine_i (key : ByteArray) (rows : List LogRow) (t : DTen) : mineF key rows t = (decide (t.eng.tabs.length ≤ 1) && decide ((rowsF rows t.id).length ≤ 6) && decide (t.ba + (rowsF rows t.id).length = t.eng.seq) && (List.range (rowsF rows t.id).length).all (seqAt t.ba (rowsF rows t.id)) && ((repF key (baseE t) (rowsF rows t.id)).2 && decide ((repF key (baseE t) (rowsF rows t.id)).1.mem = t.eng.mem))) := by
  unfold mineF
  rw [seqs_all]
  have e : memIs (playF key (baseE t) (rowsF rows t.id)) t.eng.mem = ((repF key (baseE t) (rowsF rows t.id)).2 && decide ((repF key (baseE t) (rowsF rows t.id)).1.mem = t.eng.mem)) := by
    unfold repF memIs
    cases playF key (baseE t) (rowsF rows t.id) <;> rfl
  rw [e]
  generalize decide (t.eng.tabs.length ≤ 1) = a
  generalize decide ((rowsF rows t.id).length ≤ 6) = b
  generalize decide (t.ba + (rowsF rows t.id).length = t.eng.seq) = c
  generalize (List.range (rowsF rows t.id).length).all (seqAt t.ba (rowsF rows t.id)) = d
  generalize (repF key (baseE t) (rowsF rows t.id)).2 = f
  generalize decide ((repF key (baseE t) (rowsF rows t.id)).1.mem = t.eng.mem) = g
  revert a b c d f g;decide
def tenOkF (ks : DKeys) (rows : List LogRow) (t : DTen) : Bool := inB t.ep 0 1000000 && inB t.ba 0 1000000 && fEngOk t.eng && decide (t.eng.snaps.length ≤ 2) && mineF (keyOf ks t.id) rows t
theorem ten_iff (ks : DKeys) (rows : List LogRow) (t : DTen) : tenOkF ks rows t = true ↔ (0 ≤ t.ep ∧ t.ep ≤ 1000000) ∧ (0 ≤ t.ba ∧ t.ba ≤ 1000000) ∧ fEngOk t.eng = true ∧ t.eng.snaps.length ≤ 2 ∧ t.eng.tabs.length ≤ 1 ∧ (rowsF rows t.id).length ≤ 6 ∧ t.ba + (rowsF rows t.id).length = t.eng.seq ∧ (∀ i,i < (rowsF rows t.id).length → seqAt t.ba (rowsF rows t.id) i = true) ∧ (repF (keyOf ks t.id) ⟨[],t.eng.tabs,t.ba,[]⟩ (rowsF rows t.id)).2 = true ∧ (repF (keyOf ks t.id) ⟨[],t.eng.tabs,t.ba,[]⟩ (rowsF rows t.id)).1.mem = t.eng.mem := by
  unfold tenOkF
  rw [mine_i]
  unfold baseE
  simp only [Bool.and_eq_true,decide_eq_true_eq,inB_true]
  constructor
  · rintro ⟨⟨⟨⟨h1,h2⟩,h3⟩,h4⟩,⟨⟨⟨h5,h6⟩,h7⟩,h8⟩,h9,h10⟩
    exact ⟨h1,h2,h3,h4,h5,h6,h7,fun i hi => allR_at h8 hi,h9,h10⟩
  · rintro ⟨h1,h2,h3,h4,h5,h6,h7,h8,h9,h10⟩
    exact ⟨⟨⟨⟨h1,h2⟩,h3⟩,h4⟩,⟨⟨⟨h5,h6⟩,h7⟩,allR_yes h8⟩,h9,h10⟩
theorem ten_base {ks : DKeys} {rows : List LogRow} {t : DTen} (h : tenOkF ks rows t = true) : fEngOk ⟨[],t.eng.tabs,t.ba,[]⟩ = true := by
  unfold tenOkF at h
  simp only [Bool.and_eq_true,decide_eq_true_eq] at h
  exact base_ok (t := t) h.1.1.2 h.2
theorem ten_f {ks : DKeys} {rows : List LogRow} {t : DTen} (h : tenOkF ks rows t = true → False) : tenOkF ks rows t = false := by
  rw [Bool.eq_false_iff];exact h
theorem play_ok (key : ByteArray) : ∀ (l : List LogRow) (e x : DEng),fEngOk e = true → playF key e l = some x → fEngOk x = true
  | [],e,x,he,h => by
    rw [playF] at h;cases h;exact he
  | r :: l,e,x,he,h => by
    rw [playF] at h
    split at h
    · split at h
      · rename_i h1 h2
        obtain ⟨z1,z2,z3,z4⟩ := put_need h2
        exact play_ok key l _ x (by rw [z4];exact z3) h
      · cases h
    · cases h
theorem rep_small {key : ByteArray} {l : List LogRow} {e : DEng} (he : fEngOk e = true) : (repF key e l).1.mem.length ≤ 60 := by
  unfold repF
  split
  · rename_i x h
    exact (eng_few (play_ok key l e x he h)).1
  · exact Nat.zero_le _
theorem rowsF_all {rows : List LogRow} {p : LogRow → Prop} (id : Int) (h : ∀ k,k < rows.length → p (nth rows k)) : ∀ k,k < (rowsF rows id).length → p (nth (rowsF rows id) k) := fun k hk => mem_nth h _ ((List.mem_filter.1 (nth_mem _ k hk)).1)
theorem tenOk_c (g : Nat) (cs : List Value) (mk : ByteArray) (kA : Option Addr) (kc : Nat) (slots : List KeySlot) (wi : Int) (rA : Option Addr) (rc : Nat) (rows : List LogRow) (id ep ba : Int) (mA : Option Addr) (mc : Nat) (mem : List Ent) (tA : Option Addr) (tc : Nat) (R : List LE) (seq : Int) (sA : Option Addr) (sc : Nat) (sn : List Int) (w : World)
    (hb : Rd w (ga g) cs) (hc1 : (cs.drop 1).take 3 = [.string mk,.slice kA slots.length kc,.int .i64 wi]) (hc7 : cs[7]? = some (.slice rA rows.length rc)) (hk : Rd w kA (fl slots)) (hr : Rd w rA (fl rows)) (h1 : Rd w mA (fl mem)) (h2 : RdN w tA R) (h3 : Rd w sA (fl sn)) (hl0 : slots.length ≤ 4194304) (hlr : rows.length ≤ 4194304) (htx : ∀ k,k < rows.length → (nth rows k).txt.size ≤ 4194304) (hl1 : mem.length ≤ 4194304) (hl2 : R.length ≤ 4194304) (hs : ∀ x ∈ dats R,x.length ≤ 4194304) (hl3 : sn.length ≤ 4194304) :
    Calls Tryz.prog 97 #[pt (ga g) 0,.agg #[.int .i64 id,.int .i64 ep,.int .i64 ba,.slice mA mem.length mc,.slice tA R.length tc,.int .i64 seq,.slice sA sn.length sc]] w fun e w' => e = .returned (.bool (tenOkF ⟨mk,slots,wi⟩ rows ⟨id,ep,ba,⟨mem,dats R,seq,sn⟩⟩)) ∧ Below w.heap.size w w' := by
  have hiff := ten_iff ⟨mk,slots,wi⟩ rows ⟨id,ep,ba,⟨mem,dats R,seq,sn⟩⟩
  have hbase := @ten_base ⟨mk,slots,wi⟩ rows ⟨id,ep,ba,⟨mem,dats R,seq,sn⟩⟩
  have hfal := @ten_f ⟨mk,slots,wi⟩ rows ⟨id,ep,ba,⟨mem,dats R,seq,sn⟩⟩
  simp only [dats_len] at hiff hbase
  generalize tenOkF ⟨mk,slots,wi⟩ rows ⟨id,ep,ba,⟨mem,dats R,seq,sn⟩⟩ = res at hiff hbase hfal ⊢
  have HI := Lib.hid hiff;clear hiff
  have HB := Lib.hid hbase;clear hbase
  have HF := Lib.hid hfal;clear hfal
  have HS := Lib.hid hs;clear hs
  have H2 := Lib.hid h2;clear h2
  have HTX := Lib.hid htx;clear htx
  refine ok_enter 98 Tryz.func97 rfl rfl rfl ?_
  have htxf := rowsF_all (p := fun r => r.txt.size ≤ 4194304) id HTX.out
  have hfl := rowsF_le rows id
  repeat' (first|refine Wa ?_|refine Wb ?_|refine Wc ?_|refine Wd ?_|(refine ok_cond rfl (fun hc => ?_) (fun hc => ?_) <;> (have hd := hc;try simp only [jj] at hd))|refine Wg ?_|refine Wi ?_|(refine Zr 0 ?_;refine Zn (ms_box rfl rfl rfl) ?_;rintro y3 hy3;refine Za ?_;refine Ze2 0 3 ?_)|(refine Zr 1 ?_;refine Zf ?_;refine Zl 0 ?_;refine Zn (by exact ms_s1 rfl rfl (fun _ _ w hw => isNum_c _ w)) ?_;rintro y12 hy12;refine Zq (ps_not rfl rfl) ?_;refine Zm ?_;refine Zg rfl rfl rfl (gF _) (fun hp => by exact ps_field rfl rfl (isw_ga _)) ?_;refine Zg rfl rfl rfl (gF _) (fun hp => by (exact ps_load rfl (Og rfl) (by exact Rds.cell (rds_box 0 rfl) rfl))) ?_;refine Zh rfl rfl rfl (gF _) (fun hp => by (exact ms_s1 rfl (Og rfl) (fun _ _ w hw => isNum_c _ w))) ?_;refine Zg rfl rfl rfl (gF _) (fun hp => by (exact ps_not rfl (Og rfl))) ?_;refine Zq (ps_or rfl rfl rfl) ?_;refine Zm ?_;refine Zg rfl rfl rfl (gF _) (fun hp => by exact ps_field rfl rfl (isw_ga _)) ?_;refine Zg rfl rfl rfl (gF _) (fun hp => by (exact ps_field rfl (Og rfl) (isw_ga _))) ?_;refine Zg rfl rfl rfl (gF _) (fun hp => by (exact ps_load rfl (Og rfl) (by exact Rds.cell (rds_box 0 rfl) rfl))) ?_;refine Zg rfl rfl rfl (gF _) (fun hp => by (exact ps_len rfl (Og rfl))) ?_;refine Zg rfl rfl rfl (gF _) (fun hp => by (exact ps_int rfl (Og rfl) rfl rfl)) ?_;refine Zq (ps_or rfl rfl rfl) ?_;refine Zm ?_;refine Zg rfl rfl rfl (gF _) (fun hp => by exact ps_field rfl rfl (isw_ga _)) ?_;refine Zg rfl rfl rfl (gF _) (fun hp => by (exact ps_field rfl (Og rfl) (isw_ga _))) ?_;refine Zg rfl rfl rfl (gF _) (fun hp => by (exact ps_load rfl (Og rfl) (by exact Rds.cell (rds_box 0 rfl) rfl))) ?_;refine Zg rfl rfl rfl (gF _) (fun hp => by (exact ps_len rfl (Og rfl))) ?_;refine Zg rfl rfl rfl (gF _) (fun hp => by (exact ps_int rfl (Og rfl) rfl rfl)) ?_;refine Zq (ps_or rfl rfl rfl) ?_;refine Zm ?_;refine Zg rfl rfl rfl (gF _) (fun hp => by exact ps_field rfl rfl (isw_ga _)) ?_;refine Zg rfl rfl rfl (gF _) (fun hp => by (exact ps_loads rfl (Og rfl) (by exact rds_box 0 rfl) rfl rfl (by decide))) ?_;refine Zh rfl rfl rfl (gF _) (fun hp => by (exact ms_s1 rfl (Og rfl) (fun _ _ w hw => i_EngOk0 mA mc mem tA tc R seq sA sc sn w (rds_rf h1 List.mem_cons_self _ _ w hw) (RdN.keep hw H2.out List.mem_cons_self) (rds_rf h3 List.mem_cons_self _ _ w hw) hl1 hl2 HS.out hl3))) ?_;refine Zg rfl rfl rfl (gF _) (fun hp => by (exact ps_not rfl (Og rfl))) ?_;refine Zq (ps_or rfl rfl rfl) ?_;refine Ze3 0 3 39 ?_)|(refine Zr 2 ?_;refine Za ?_;refine Ze1 4 ?_)|(refine Zr 3 ?_;refine Zm ?_;refine Zf ?_;refine Zl 0 ?_;refine Zn (by exact ms_c2 rfl rfl rfl (fun _ _ w hw => rowsOf_c g cs rA rc rows id w (rds_rf hb List.mem_cons_self _ _ w hw) hc7 (rds_rf hr List.mem_cons_self _ _ w hw) hlr)) ?_;rintro y43 hy43;refine Za ?_;refine Ze3 0 3 5 ?_)|(refine Zr 4 ?_;refine Zm ?_;refine Zq (ps_len rfl rfl) ?_;refine Zi ?_;refine Zm ?_;refine Zg rfl rfl rfl (gF _) (fun hp => by exact ps_field rfl rfl (isw_ga _)) ?_;refine Zg rfl rfl rfl (gF _) (fun hp => by (exact ps_load rfl (Og rfl) (by exact Rds.cell (rds_box 1 rfl) rfl))) ?_;refine Zg rfl rfl rfl (gF _) (fun hp => by exact ps_move rfl rfl) ?_;refine Zg rfl rfl rfl (gF _) (fun hp => by (exact ps_len rfl (Og rfl))) ?_;refine Zg rfl rfl rfl (gF _) (fun hp => by (have hpd := hp;(try simp only [jj] at hpd);exact ps_add rfl (Og rfl) (Og rfl) (by omega))) ?_;refine Zg rfl rfl rfl (gF _) (fun hp => by exact ps_field rfl rfl (isw_ga _)) ?_;refine Zg rfl rfl rfl (gF _) (fun hp => by (exact ps_field rfl (Og rfl) (isw_ga _))) ?_;refine Zg rfl rfl rfl (gF _) (fun hp => by (exact ps_load rfl (Og rfl) (by exact Rds.cell (rds_box 1 rfl) rfl))) ?_;refine Zg rfl rfl rfl (gF _) (fun hp => by (exact ps_int rfl (Og rfl) (Og rfl) rfl)) ?_;refine Zq (ps_or rfl rfl rfl) ?_;refine Ze4 0 3 5 57 ?_)|(refine Zr 5 ?_;refine Za ?_;refine Ze1 4 ?_)|(refine Zr 6 ?_;refine Zm ?_;refine Zq (ps_len rfl rfl) ?_;refine Zm ?_;refine Ze6 0 3 5 58 59 60 ?_))
  · rw [HF.out (fun h => by
      obtain ⟨g1,g2,g3,g4,g5,g6,g7,g8,g9,g10⟩ := HI.out.1 h
      rcases hd with (((hd | hd) | hd) | hd) | hd
      · omega
      · omega
      · omega
      · omega
      · rw [g3] at hd;cases hd)]
    exact ok_endL (vs := [_]) rfl ⟨rfl,trivial⟩ (fun w' hw => ⟨rfl,hw.below⟩)
  · rw [HF.out (fun h => by
      obtain ⟨g1,g2,g3,g4,g5,g6,g7,g8,g9,g10⟩ := HI.out.1 h
      omega)]
    exact ok_endL (vs := [_]) rfl ⟨rfl,trivial⟩ (fun w' hw => ⟨rfl,hw.below⟩)
  have hA : (0 ≤ ep ∧ ep ≤ 1000000) ∧ (0 ≤ ba ∧ ba ≤ 1000000) ∧ fEngOk ⟨mem,dats R,seq,sn⟩ = true ∧ sn.length ≤ 2 ∧ R.length ≤ 1 ∧ (rowsF rows id).length ≤ 6 ∧ ba + (rowsF rows id).length = seq := by
    rename_i hd0
    obtain ⟨⟨⟨⟨q1,q2⟩,q3⟩,q4⟩,q5⟩ := hd0
    exact ⟨q1,q2,q5,by omega,by omega,by omega,by omega⟩
  clear hc hd
  generalize rowsF rows id = L at HI htxf hfl hA ⊢
  have HTF := Lib.hid htxf;clear htxf
  refine ok_loop (ι := { j : Nat // j ≤ L.length ∧ ∀ q,q < j → seqAt ba L q = true }) (fun j => L.length - j.1) (fun j => ([(0,pt (ga g) 0),(3,pt (ga (y3 0).c) 0),(5,.slice (y43 0).A L.length (y43 0).c),(58,.slice (y43 0).A L.length (y43 0).c),(59,.int .i64 L.length),(60,.int .i64 j.1)],_,_)) ⟨0,by omega,fun j h => absurd h (Nat.not_lt_zero j)⟩ (fun a w he hw => ⟨⟨0,by omega,fun j h => absurd h (Nat.not_lt_zero j)⟩,he.sub ⟨rfl,rfl,rfl,rfl,rfl,rfl,trivial⟩,hw⟩) ?_
  rintro ⟨j,hj,ha⟩
  simp only at hj ⊢
  have HA := Lib.hid ha;clear ha
  repeat' ((fail_if_success (refine at_reg 14 ?_));first
    | refine Wa ?_
    | refine Wb ?_
    | refine Wc ?_
    | refine Wd ?_
    | refine We ?_
    | refine Wf ?_
    | (refine ok_cond rfl (fun hc => ?_) (fun hc => ?_) <;> (have hd := hc;try simp only [jj] at hd))
    | refine Wg ?_
    | refine Wh ?_
    | refine Wi ?_
    | (refine Zr 7 ?_;refine Zi ?_;refine Ze7 0 3 5 58 59 60 61 ?_)
    | (refine Zr 8 ?_;refine Zm ?_;refine Zq (by exact ps_indexN rfl rfl rfl (by omega) (by exact isw_row 0 rfl (by omega))) ?_;refine Zq (by exact ps_loadsF rfl rfl (by exact rds_row 0 rfl) (by rfl) (by rfl) (by omega) rfl) ?_;refine Zn (ms_alloc rfl) ?_;rintro y7 hy7;refine Za ?_;refine Zo (ms_store 0 rfl rfl rfl rfl rfl rfl rfl rfl) ?_;rintro y_ hy_;refine Ze8 0 3 5 6 7 58 59 60 ?_)
    | (refine Zr 9 ?_;refine Zf ?_;refine Zl 0 ?_;refine Zf ?_;refine Zl 2 ?_;refine Zm ?_;refine Zq (by exact ps_add rfl rfl rfl (by omega)) ?_;refine Zq (by exact ps_add rfl rfl rfl (by omega)) ?_;refine Zi ?_;refine Ze7 0 3 5 58 59 60 72 ?_)
    | (refine Zr 10 ?_;refine Za ?_;refine Ze1 4 ?_)
    | (refine Zr 11 ?_;refine Zq (by exact ps_add rfl rfl rfl (by omega)) ?_;refine Zm ?_;refine Ze6 0 3 5 58 59 60 ?_)
    | (refine Zr 12 ?_;refine Zf ?_;refine Zf ?_;refine Zl 1 ?_;refine Zf ?_;refine Zl 1 ?_;refine Zq (by exact ps_bld rfl (parts_cons rfl (parts_cons rfl parts_nil)) rfl) ?_;refine Zn (by exact ms_s1 rfl rfl (fun _ _ w hw => i_EngOk0 none 0 [] tA tc R ba none 0 [] w (fun k u h => by simp [fl] at h) (RdN.keep hw H2.out List.mem_cons_self) (fun k u h => by simp [fl] at h) (by simp) hl2 HS.out (by simp))) ?_;rintro y80 hy80;refine Zq (ps_not rfl rfl) ?_;refine Ze4 0 3 5 81 ?_)
    | (refine Zr 13 ?_;refine Za ?_;refine Ze1 4 ?_))
  · rw [HF.out (fun h => by
      obtain ⟨g1,g2,g3,g4,g5,g6,g7,g8,g9,g10⟩ := HI.out.1 h
      have := g8 j (by omega)
      unfold seqAt at this
      rw [decide_eq_true_eq] at this
      exact hd this)]
    exact ok_endL (vs := [_]) rfl ⟨rfl,trivial⟩ (fun w' hw => ⟨rfl,hw.below⟩)
  · exact fun a w' he hw => ⟨⟨j + 1,by omega,fun q hq => by
      rcases Nat.lt_succ_iff_lt_or_eq.1 hq with h' | rfl
      · exact HA.out q h'
      · unfold seqAt;rw [decide_eq_true_eq];exact hd⟩,by simp only;omega,he.sub ⟨rfl,rfl,rfl,rfl,rfl,rfl,trivial⟩,hw.tl⟩
  · rw [HF.out (fun h => by
      have := HB.out h
      rw [hd] at this;cases this)]
    exact ok_endL (vs := [_]) rfl ⟨rfl,trivial⟩ (fun w' hw => ⟨rfl,hw.below⟩)
  have hbe : fEngOk ⟨[],dats R,ba,[]⟩ = true := by assumption
  have hjl : j = L.length := by omega
  subst hjl
  have hsm := rep_small (key := keyOf ⟨mk,slots,wi⟩ id) (l := L) hbe
  clear hc hd
  repeat' (first|refine Wa ?_|(refine Zr 14 ?_;refine Zm ?_;refine Zq (by exact ps_loads rfl rfl (by exact rds_box 1 rfl) rfl rfl (by decide)) ?_;refine Zm ?_;refine Zn (by exact ms_c3 rfl rfl rfl rfl (fun _ _ w hw => replayed0 g cs mk kA kc slots wi id ep ba mA mc mem tA tc R seq sA sc sn (y43 0).A (y43 0).c L w (rds_rf hb List.mem_cons_self _ _ w hw) hc1 (rds_rf hk List.mem_cons_self _ _ w hw) (rds_rf h1 List.mem_cons_self _ _ w hw) (RdN.keep hw H2.out List.mem_cons_self) (rds_rf h3 List.mem_cons_self _ _ w hw) (hw.row 0 rfl) hl0 hl1 hl2 HS.out hl3 (by omega) HTF.out hbe)) ?_;rintro y86 hy86;refine Zm ?_;refine Zq (ps_extract rfl rfl rfl) ?_;refine Zq (ps_extract rfl rfl rfl) ?_;refine Zn (ms_alloc rfl) ?_;rintro y8 hy8;refine Zo (ms_store 0 rfl rfl rfl rfl rfl rfl rfl rfl) ?_;rintro y_ hy_;refine Za ?_;refine Ze3 3 8 9 ?_))
  generalize repF (keyOf ⟨mk,slots,wi⟩ id) ⟨[],dats R,ba,[]⟩ L = P at HI hsm ⊢
  repeat' (first|refine Wb ?_|refine Wg ?_|(refine Zr 15 ?_;refine Zm ?_;refine Zm ?_;refine Zg rfl rfl rfl (gT _) (fun hp => by exact ps_field rfl rfl (isw_ga _)) ?_;refine Zg rfl rfl rfl (gT _) (fun hp => by (exact ps_load rfl (Og rfl) (by exact Rds.cell (rds_box 0 rfl) rfl))) ?_;refine Zg rfl rfl rfl (gT _) (fun hp => by exact ps_field rfl rfl (isw_ga _)) ?_;refine Zg rfl rfl rfl (gT _) (fun hp => by (exact ps_field rfl (Og rfl) (isw_ga _))) ?_;refine Zg rfl rfl rfl (gT _) (fun hp => by (exact ps_load rfl (Og rfl) (by exact Rds.cell (rds_box 6 rfl) rfl))) ?_;refine Zh rfl rfl rfl (gT _) (fun hp => by (have hpd := hp;(try simp only [jj] at hpd);exact ms_s2 rfl (Og rfl) (Og rfl) (fun _ _ w hw => equalE_c (y86 0).A (y86 0).c P.1.mem mA mc mem w (hw.row 1 rfl) (rds_rf h1 List.mem_cons_self _ _ w hw) (by omega) hl1))) ?_;refine Zq (ps_and rfl rfl rfl) ?_;refine Za ?_;refine Ze1 4 ?_))
  have e : (P.2 && decide (P.1.mem = mem)) = res := by
    rw [Bool.eq_iff_iff,HI.out,Bool.and_eq_true,decide_eq_true_eq]
    constructor
    · rintro ⟨a,b⟩
      obtain ⟨g1,g2,g3,g4,g5,g6,g7⟩ := hA
      exact ⟨g1,g2,g3,g4,g5,g6,g7,HA.out,a,b⟩
    · rintro ⟨g1,g2,g3,g4,g5,g6,g7,g8,g9,g10⟩
      exact ⟨g9,g10⟩
  exact ok_endL (vs := [_]) rfl ⟨rfl,trivial⟩ (fun w' hw => ⟨by rw [← e];rfl,hw.below⟩)
theorem i_StoreOk0 (sec mk : ByteArray) (kA : Option Addr) (kc : Nat) (slots : List KeySlot) (wi ssz : Int) (shA : Option Addr) (shc : Nat) (shl : List Share) (tnA : Option Addr) (tnc : Nat) (tens : List LTen) (rA : Option Addr) (rc : Nat) (rows : List LogRow) (hA : Option Addr) (hcc : Nat) (hist : List LogRow) (bo : Int)
    (w : World) (hk : Rd w kA (fl slots)) (hsh : Rd w shA (fl shl)) (ht : Rd w tnA (fl tens)) (htr : tensRd w tens) (hr : Rd w rA (fl rows)) (hl0 : slots.length ≤ 4194304) (hl1 : shl.length ≤ 4194304) (hl2 : tens.length ≤ 4194304) (hl3 : rows.length ≤ 4194304) (hl4 : hist.length ≤ 4194304) (htx : ∀ k,k < rows.length → (nth rows k).txt.size ≤ 4194304) (hsm : ∀ k,k < tens.length → tenSm (nth tens k)) :
    Calls Tryz.prog 45 #[.agg #[.string sec,.string mk,.slice kA slots.length kc,.int .i64 wi,.int .i64 ssz,.slice shA shl.length shc,.slice tnA tens.length tnc,.slice rA rows.length rc,.slice hA hist.length hcc,.int .i64 bo]] w fun e w' => e = .returned (.bool (fStoreOk ⟨sec,⟨mk,slots,wi⟩,⟨ssz,shl⟩,tens.map LTen.d,rows,hist,bo⟩)) ∧ Below w.heap.size w w' := by
  have HTX := Lib.hid htx;clear htx
  have HSM := Lib.hid hsm;clear hsm
  have HTR := Lib.hid htr;clear htr
  have hml : (tens.map LTen.d).length = tens.length := List.length_map ..
  refine ok_enter 101 Tryz.func45 rfl rfl rfl ?_
  repeat' (first|refine Wa ?_|refine Wb ?_|refine Wc ?_|refine Wd ?_|(refine ok_cond rfl (fun hc => ?_) (fun hc => ?_) <;> (have hd := hc;try simp only [jj] at hd))|refine Wg ?_|refine Wi ?_|(refine Zr 0 ?_;refine Zn (ms_box rfl rfl rfl) ?_;rintro y1 hy1;refine Za ?_;refine Ze1 1 ?_)|(refine Zr 1 ?_;refine Zf ?_;refine Zl 0 ?_;refine Zq (ps_slen rfl rfl) ?_;refine Zi ?_;refine Zm ?_;refine Zg rfl rfl rfl (gF _) (fun hp => by exact ps_field rfl rfl (isw_ga _)) ?_;refine Zg rfl rfl rfl (gF _) (fun hp => by (exact ps_loads rfl (Og rfl) (by exact rds_box 0 rfl) rfl rfl (by decide))) ?_;refine Zh rfl rfl rfl (gF _) (fun hp => by (exact ms_s1 rfl (Og rfl) (fun _ _ w hw => i_KeyOk0 mk kA kc slots wi w (rds_rf hk List.mem_cons_self _ _ w hw) hl0))) ?_;refine Zg rfl rfl rfl (gF _) (fun hp => by (exact ps_not rfl (Og rfl))) ?_;refine Zq (ps_or rfl rfl rfl) ?_;refine Zm ?_;refine Zg rfl rfl rfl (gF _) (fun hp => by exact ps_field rfl rfl (isw_ga _)) ?_;refine Zg rfl rfl rfl (gF _) (fun hp => by (exact ps_loads rfl (Og rfl) (by exact rds_box 0 rfl) rfl rfl (by decide))) ?_;refine Zh rfl rfl rfl (gF _) (fun hp => by (exact ms_s1 rfl (Og rfl) (fun _ _ w hw => i_SharesOk0 ssz shA shc shl w (rds_rf hsh List.mem_cons_self _ _ w hw) hl1))) ?_;refine Zg rfl rfl rfl (gF _) (fun hp => by (exact ps_not rfl (Og rfl))) ?_;refine Zq (ps_or rfl rfl rfl) ?_;refine Zm ?_;refine Zg rfl rfl rfl (gF _) (fun hp => by exact ps_field rfl rfl (isw_ga _)) ?_;refine Zg rfl rfl rfl (gF _) (fun hp => by (exact ps_load rfl (Og rfl) (by exact Rds.cell (rds_box 0 rfl) rfl))) ?_;refine Zh rfl rfl rfl (gF _) (fun hp => by (exact ms_s3 rfl (Og rfl) rfl rfl (fun _ _ w hw => in_i _ _ _ w))) ?_;refine Zg rfl rfl rfl (gF _) (fun hp => by (exact ps_not rfl (Og rfl))) ?_;refine Zq (ps_or rfl rfl rfl) ?_;refine Zm ?_;refine Zg rfl rfl rfl (gF _) (fun hp => by exact ps_field rfl rfl (isw_ga _)) ?_;refine Zg rfl rfl rfl (gF _) (fun hp => by (exact ps_load rfl (Og rfl) (by exact Rds.cell (rds_box 0 rfl) rfl))) ?_;refine Zg rfl rfl rfl (gF _) (fun hp => by (exact ps_len rfl (Og rfl))) ?_;refine Zg rfl rfl rfl (gF _) (fun hp => by (exact ps_int rfl (Og rfl) rfl rfl)) ?_;refine Zq (ps_or rfl rfl rfl) ?_;refine Ze2 1 34 ?_)|(refine Zr 2 ?_;refine Za ?_;refine Ze1 2 ?_)|(refine Zr 3 ?_;refine Zf ?_;refine Zl 0 ?_;refine Zq (ps_len rfl rfl) ?_;refine Zf ?_;refine Zf ?_;refine Zl 0 ?_;refine Zq (ps_len rfl rfl) ?_;refine Zi ?_;refine Zm ?_;refine Zg rfl rfl rfl (gF _) (fun hp => by exact ps_field rfl rfl (isw_ga _)) ?_;refine Zg rfl rfl rfl (gF _) (fun hp => by (exact ps_load rfl (Og rfl) (by exact Rds.cell (rds_box 0 rfl) rfl))) ?_;refine Zg rfl rfl rfl (gF _) (fun hp => by (exact ps_len rfl (Og rfl))) ?_;refine Zg rfl rfl rfl (gF _) (fun hp => by exact ps_field rfl rfl (isw_ga _)) ?_;refine Zg rfl rfl rfl (gF _) (fun hp => by (exact ps_field rfl (Og rfl) (isw_ga _))) ?_;refine Zg rfl rfl rfl (gF _) (fun hp => by (exact ps_load rfl (Og rfl) (by exact Rds.cell (rds_box 0 rfl) rfl))) ?_;refine Zg rfl rfl rfl (gF _) (fun hp => by (exact ps_len rfl (Og rfl))) ?_;refine Zg rfl rfl rfl (gF _) (fun hp => by (exact ps_int rfl (Og rfl) (Og rfl) rfl)) ?_;refine Zq (ps_or rfl rfl rfl) ?_;refine Ze2 1 52 ?_)|(refine Zr 4 ?_;refine Za ?_;refine Ze1 2 ?_)|(refine Zr 5 ?_;refine Zf ?_;refine Zl 0 ?_;refine Zq (ps_len rfl rfl) ?_;refine Zm ?_;refine Ze4 1 54 55 56 ?_))
  · have e : fStoreOk ⟨sec,⟨mk,slots,wi⟩,⟨ssz,shl⟩,tens.map LTen.d,rows,hist,bo⟩ = false := st_no (by
      simp only [hml]
      rintro ⟨g1,g2,g3,g4,g5,g6,g7⟩
      simp [g1,g2,g3] at hd
      omega)
    rw [e]
    exact ok_endL (vs := [_]) rfl ⟨rfl,trivial⟩ (fun w' hw => ⟨rfl,hw.below⟩)
  · have e : fStoreOk ⟨sec,⟨mk,slots,wi⟩,⟨ssz,shl⟩,tens.map LTen.d,rows,hist,bo⟩ = false := st_no (by
      simp only [hml]
      rintro ⟨g1,g2,g3,g4,g5,g6,g7⟩
      omega)
    rw [e]
    exact ok_endL (vs := [_]) rfl ⟨rfl,trivial⟩ (fun w' hw => ⟨rfl,hw.below⟩)
  have hhead : (sec.size : Int) = 32 ∧ fKeyOk ⟨mk,slots,wi⟩ = true ∧ fSharesOk ⟨ssz,shl⟩ = true ∧ (0 ≤ bo ∧ bo ≤ 1000) ∧ hist.length ≤ 120 ∧ (tens.map LTen.d).length = slots.length ∧ (tens.map LTen.d).length = shl.length := by
    rw [hml]
    rename_i hd0
    obtain ⟨⟨⟨⟨g1,g2⟩,g3⟩,g4⟩,g5⟩ := hd0
    exact ⟨g1,g2,g3,g4,by omega,by omega,by omega⟩
  have hgs : tens.length = slots.length ∧ tens.length = shl.length := by rw [hml] at hhead;exact ⟨hhead.2.2.2.2.2.1,hhead.2.2.2.2.2.2⟩
  clear hc hd
  obtain ⟨D,hD⟩ : ∃ D : DStore,D = ⟨sec,⟨mk,slots,wi⟩,⟨ssz,shl⟩,tens.map LTen.d,rows,hist,bo⟩ := ⟨_,rfl⟩
  rw [← hD]
  have hT : ∀ k,k < tens.length → tenAt D k = (decide ((nth slots k).ten = (nth tens k).id) && decide ((nth shl k).ten = (nth tens k).id) && (inB (nth tens k).ep 0 1000000 && inB (nth tens k).ba 0 1000000 && fEngOk (nth tens k).e.d && decide ((nth tens k).e.snaps.l.length ≤ 2) && mineF (keyOf ⟨mk,slots,wi⟩ (nth tens k).id) rows (nth tens k).d)) := fun k hk => by subst hD;exact st_ten rfl hk
  have hno : ∀ k,k < tens.length → tenAt D k = false → fStoreOk D = false := fun k hk h => st_at (by subst hD;simpa using hk) h
  have hrn : ∀ k,k < rows.length → tensF tens (nth rows k).ten < 0 → fStoreOk D = false := fun k hk h => by
    subst hD
    refine st_row (k := k) hk ?_
    have := tens_any tens (nth rows k).ten
    rw [decide_eq_true h] at this
    simpa using this.symm
  have hye : (∀ k,k < tens.length → tenAt D k = true) → (∀ k,k < rows.length → ¬ tensF tens (nth rows k).ten < 0) → fStoreOk D = true := fun h1 h2 => by
    subst hD
    refine st_yes hhead (fun k hk => h1 k (by simpa using hk)) (fun k hk => ?_)
    have := tens_any tens (nth rows k).ten
    rw [decide_eq_false (h2 k hk)] at this
    simpa using this.symm
  clear hhead hml
  have HT := Lib.hid hT;clear hT
  have HNO := Lib.hid hno;clear hno
  have HRN := Lib.hid hrn;clear hrn
  have HYE := Lib.hid hye;clear hye
  clear hD
  refine ok_loop (ι := { k : Nat // k ≤ tens.length ∧ ∀ j,j < k → tenAt D j = true }) (fun k => tens.length - k.1) (fun k => ([(1,pt (ga (y1 0).c) 0),(54,.slice tnA tens.length tnc),(55,.int .i64 tens.length),(56,.int .i64 k.1)],_,_)) ⟨0,by omega,fun j h => absurd h (Nat.not_lt_zero j)⟩ (fun a w he hw => ⟨⟨0,by omega,fun j h => absurd h (Nat.not_lt_zero j)⟩,he.sub ⟨rfl,rfl,rfl,rfl,trivial⟩,hw⟩) ?_
  rintro ⟨k,hk2,ha⟩
  simp only at hk2 ⊢
  have HA := Lib.hid ha;clear ha
  have hrd : k < tens.length → Rd w (nth tens k).e.mem.A (fl (nth tens k).e.mem.l) ∧ RdN w (nth tens k).e.tab.A (nth tens k).e.tab.l ∧ Rd w (nth tens k).e.snaps.A (fl (nth tens k).e.snaps.l) := fun h => ⟨(HTR.out k h).mem,(HTR.out k h).tab,(HTR.out k h).snaps⟩
  have HRD := Lib.hid hrd;clear hrd
  repeat' (first|refine Wa ?_|refine Wb ?_|refine Wc ?_|refine Wd ?_|refine We ?_|refine Wf ?_|(refine ok_cond rfl (fun hc => ?_) (fun hc => ?_) <;> (have hd := hc;try simp only [jj] at hd))|refine Wg ?_|refine Wh ?_|refine Wi ?_|(refine Zr 6 ?_;refine Zi ?_;refine Ze5 1 54 55 56 57 ?_)|(refine Zr 7 ?_;refine Zm ?_;refine Zq (by exact ps_indexN rfl rfl rfl (by omega) (by exact isw_of (isS_fl (by assumption) (by omega)))) ?_;refine Zq (by exact ps_loadsF rfl rfl (by exact rds_rf (by assumption) List.mem_cons_self) (by rfl) (by rfl) (by omega) rfl) ?_;refine Zn (ms_alloc rfl) ?_;rintro y4 hy4;refine Za ?_;refine Zo (ms_store 0 rfl rfl rfl rfl rfl rfl rfl rfl) ?_;rintro y_ hy_;refine Ze6 1 3 4 54 55 56 ?_)|(refine Xd 8 27 ?_;refine Xf 0 ?_;refine Xf 1 ?_;refine Xl 2 1 ?_;refine Xm 3 ?_;refine Xt 4 rfl (by exact ps_indexN rfl rfl rfl (by omega) (by exact isw_of (isS_fl (by assumption) (by omega)))) ?_;refine Xt 5 rfl (by exact ps_field rfl rfl (by exact isw_of (isS_fl (by assumption) (by omega)))) ?_;refine Xt 6 rfl (by exact ps_load rfl rfl (by exact Rds.cell (rds_rf (by assumption) List.mem_cons_self) (by exact fl_at0 _ _ (by omega) (by decide)))) ?_;refine Xf 7 ?_;refine Xl 8 0 ?_;refine Xt 9 rfl (ps_int rfl rfl rfl rfl) ?_;refine Xm 10 ?_;refine Xg 11 rfl rfl rfl rfl (gF _) (fun hp => by exact ps_field rfl rfl (isw_ga _)) ?_;refine Xg 12 rfl rfl rfl rfl (gF _) (fun hp => by (exact ps_field rfl (Og rfl) (isw_ga _))) ?_;refine Xg 13 rfl rfl rfl rfl (gF _) (fun hp => by (exact ps_load rfl (Og rfl) (by exact Rds.cell (rds_box 1 rfl) rfl))) ?_;refine Xg 14 rfl rfl rfl rfl (gF _) (fun hp => by exact ps_move rfl rfl) ?_;refine Xg 15 rfl rfl rfl rfl (gF _) (fun hp => by (have hpd := hp;(try simp only [jj] at hpd);exact ps_indexN rfl (Og rfl) (Og rfl) (by omega) (by exact isw_of (isS_fl (by assumption) (by omega))))) ?_;refine Xg 16 rfl rfl rfl rfl (gF _) (fun hp => by (have hpd := hp;(try simp only [jj] at hpd);exact ps_field rfl (Og rfl) (by exact isw_of (isS_fl (by assumption) (by omega))))) ?_;refine Xg 17 rfl rfl rfl rfl (gF _) (fun hp => by (have hpd := hp;(try simp only [jj] at hpd);exact ps_load rfl (Og rfl) (by exact Rds.cell (rds_rf (by assumption) List.mem_cons_self) (by exact fl_at0 _ _ (by omega) (by decide))))) ?_;refine Xg 18 rfl rfl rfl rfl (gF _) (fun hp => by exact ps_field rfl rfl (isw_ga _)) ?_;refine Xg 19 rfl rfl rfl rfl (gF _) (fun hp => by (exact ps_load rfl (Og rfl) (by exact Rds.cell (rds_box 0 rfl) rfl))) ?_;refine Xg 20 rfl rfl rfl rfl (gF _) (fun hp => by (exact ps_int rfl (Og rfl) (Og rfl) rfl)) ?_;refine Xt 21 rfl (ps_or rfl rfl rfl) ?_;refine Xm 22 ?_;refine Xg 23 rfl rfl rfl rfl (gF _) (fun hp => by exact ps_loads rfl rfl (by exact rds_box 0 rfl) rfl rfl (by decide)) ?_;refine okT_one_g1 (i := 24) rfl rfl (by kernel_rfl) rfl rfl rfl rfl rfl (gF _) (fun hp => by (have hpd := hp;(try simp only [jj] at hpd);exact ms_s2 rfl rfl (Og rfl) (fun _ _ w hw => tenOk_c (y1 0).c [.string sec,.string mk,.slice kA slots.length kc,.int .i64 wi,.int .i64 ssz,.slice shA shl.length shc,.slice tnA tens.length tnc,.slice rA rows.length rc,.slice hA hist.length hcc,.int .i64 bo] mk kA kc slots wi rA rc rows (nth tens k).id (nth tens k).ep (nth tens k).ba (nth tens k).e.mem.A (nth tens k).e.mem.c (nth tens k).e.mem.l (nth tens k).e.tab.A (nth tens k).e.tab.c (nth tens k).e.tab.l (nth tens k).e.seq (nth tens k).e.snaps.A (nth tens k).e.snaps.c (nth tens k).e.snaps.l w (rds_box 1 rfl _ _ w hw) rfl rfl (rds_rf hk List.mem_cons_self _ _ w hw) (rds_rf hr List.mem_cons_self _ _ w hw) (rds_rf (HRD.out (by omega)).1 List.mem_cons_self _ _ w hw) (RdN.keep hw (HRD.out (by omega)).2.1 List.mem_cons_self) (rds_rf (HRD.out (by omega)).2.2 List.mem_cons_self _ _ w hw) hl0 hl3 HTX.out (HSM.out k (by omega)).1 (HSM.out k (by omega)).2.1 (HSM.out k (by omega)).2.2.1 (HSM.out k (by omega)).2.2.2))) (fun w h => by exact h) ?_;refine Xg 25 rfl rfl rfl rfl (gF _) (fun hp => by (exact ps_not rfl (Og rfl))) ?_;refine Xt 26 rfl (ps_or rfl rfl rfl) ?_;refine okT_done (by kernel_rfl) ?_;refine Ze5 1 54 55 56 87 ?_)|(refine Zr 9 ?_;refine Za ?_;refine Ze1 2 ?_)|(refine Zr 10 ?_;refine Zq (by exact ps_add rfl rfl rfl (by omega)) ?_;refine Zm ?_;refine Ze4 1 54 55 56 ?_)|(refine Zr 11 ?_;refine Zf ?_;refine Zl 0 ?_;refine Zq (ps_len rfl rfl) ?_;refine Zm ?_;refine Ze4 1 90 91 92 ?_))
  · have e : fStoreOk D = false := HNO.out k (by omega) (by
      rw [HT.out k (by omega),Bool.eq_false_iff];intro h
      rw [Bool.and_eq_true,Bool.and_eq_true,decide_eq_true_eq,decide_eq_true_eq] at h
      obtain ⟨⟨h1,h2⟩,h3⟩ := h
      rcases hd with (q | q) | q
      · exact q h1
      · exact q h2
      · exact absurd (h3.symm.trans q) (by decide))
    rw [e]
    exact ok_endL (vs := [_]) rfl ⟨rfl,trivial⟩ (fun w' hw => ⟨rfl,hw.below⟩)
  · exact fun a w' he hw => ⟨⟨k + 1,by omega,fun j hj => by
      rcases Nat.lt_succ_iff_lt_or_eq.1 hj with h' | rfl
      · exact HA.out j h'
      · rw [HT.out j (by omega),Bool.and_eq_true,Bool.and_eq_true,decide_eq_true_eq,decide_eq_true_eq]
        obtain ⟨⟨q1,q2⟩,q3⟩ := hd
        exact ⟨⟨q1,q2⟩,q3⟩⟩,by simp only;omega,he.sub ⟨rfl,rfl,rfl,rfl,trivial⟩,hw.sel [1] (by decide) rfl (fun _ h => h)⟩
  · have hkk : k = tens.length := by omega
    subst hkk
    clear hc hd HNO HT HRD
    refine ok_loop (ι := { k : Nat // k ≤ rows.length ∧ ∀ j,j < k → ¬ tensF tens (nth rows j).ten < 0 }) (fun k => rows.length - k.1) (fun k => ([(1,pt (ga (y1 0).c) 0),(90,.slice rA rows.length rc),(91,.int .i64 rows.length),(92,.int .i64 k.1)],_,_)) ⟨0,by omega,fun j h => absurd h (Nat.not_lt_zero j)⟩ (fun a w he hw => ⟨⟨0,by omega,fun j h => absurd h (Nat.not_lt_zero j)⟩,he.sub ⟨rfl,rfl,rfl,rfl,trivial⟩,hw⟩) ?_
    rintro ⟨k,hk2,ha2⟩
    simp only at hk2 ⊢
    have HA2 := Lib.hid ha2;clear ha2
    repeat' (first|refine Wa ?_|refine Wb ?_|refine Wc ?_|refine Wd ?_|refine We ?_|refine Wf ?_|(refine ok_cond rfl (fun hc => ?_) (fun hc => ?_) <;> (have hd := hc;try simp only [jj] at hd))|refine Wg ?_|refine Wh ?_|refine Wi ?_|(refine Zr 12 ?_;refine Zi ?_;refine Ze5 1 90 91 92 93 ?_)|(refine Zr 13 ?_;refine Zq (by exact ps_indexN rfl rfl rfl (by omega) (by exact isw_of (isS_fl (by assumption) (by omega)))) ?_;refine Zq (by exact ps_loadsF rfl rfl (by exact rds_rf (by assumption) List.mem_cons_self) (by rfl) (by rfl) (by omega) rfl) ?_;refine Zn (ms_alloc rfl) ?_;rintro y6 hy6;refine Zo (ms_store 0 rfl rfl rfl rfl rfl rfl rfl rfl) ?_;rintro y_ hy_;refine Ze5 1 6 90 91 92 ?_)|(refine Zr 14 ?_;refine Zf ?_;refine Zl 0 ?_;refine Zn (by exact ms_s2 rfl rfl rfl (fun _ _ w hw => at_c (y1 0).c [.string sec,.string mk,.slice kA slots.length kc,.int .i64 wi,.int .i64 ssz,.slice shA shl.length shc,.slice tnA tens.length tnc,.slice rA rows.length rc,.slice hA hist.length hcc,.int .i64 bo] tnA tnc tens _ w (rds_box 1 rfl _ _ w hw) rfl (rds_rf ht List.mem_cons_self _ _ w hw) hl2)) ?_;rintro y98 hy98;refine Zi ?_;refine Ze5 1 90 91 92 99 ?_)|(refine Zr 15 ?_;refine Za ?_;refine Ze1 2 ?_)|(refine Zr 16 ?_;refine Zq (by exact ps_add rfl rfl rfl (by omega)) ?_;refine Zm ?_;refine Ze4 1 90 91 92 ?_)|(refine Zr 17 ?_;refine Za ?_;refine Ze1 2 ?_))
    · rw [HRN.out k (by omega) hd]
      exact ok_endL (vs := [_]) rfl ⟨rfl,trivial⟩ (fun w' hw => ⟨rfl,hw.below⟩)
    · exact fun a w' he hw => ⟨⟨k + 1,by omega,fun j hj => by
        rcases Nat.lt_succ_iff_lt_or_eq.1 hj with h' | rfl
        · exact HA2.out j h'
        · exact hd⟩,by simp only;omega,he.sub ⟨rfl,rfl,rfl,rfl,trivial⟩,hw.sel [1] (by decide) rfl (fun _ h => h)⟩
    · obtain rfl : k = rows.length := by omega
      rw [HYE.out HA.out HA2.out]
      exact ok_endL (vs := [_]) rfl ⟨rfl,trivial⟩ (fun w' hw => ⟨rfl,hw.below⟩)
end Go.Proofs.YtmfojbidojjciaaGreat
namespace Go.Proofs.YtmfojbidojjciaaGreat
theorem nth_ext {L M : List Ent} (hl : L.length = M.length) (h : ∀ k,k < L.length → nth L k = nth M k) : L = M := by
  apply List.ext_getElem hl
  intro k h1 h2
  have := h k h1
  simpa [nth,h1,h2] using this
def swapL (L : List Ent) (i j : Nat) : List Ent := (L.set i (nth L j)).set j (nth L i)
theorem swap_len (L : List Ent) (i j : Nat) : (swapL L i j).length = L.length := by simp [swapL]
theorem nthE_set (L : List Ent) (i k : Nat) (v : Ent) (h : i < L.length) : nth (L.set i v) k = if k = i then v else nth L k := by
  by_cases e : k = i
  · subst e;rw [if_pos rfl];exact nth_set L k v h
  · rw [if_neg e];simp [nth,List.getD_eq_getElem?_getD,Ne.symm e]
theorem swap_nth {L : List Ent} {i j : Nat} (hi : i < L.length) (hj : j < L.length) (k : Nat) : nth (swapL L i j) k = if k = j then nth L i else if k = i then nth L j else nth L k := by
  unfold swapL
  rw [nthE_set _ _ _ _ (by rw [List.length_set];exact hj),nthE_set _ _ _ _ hi]
def byIx (n : Nat) (f : Nat → Ent) : List Ent := (List.range n).map f
theorem byIx_len (n : Nat) (f : Nat → Ent) : (byIx n f).length = n := by simp [byIx]
theorem byIx_nth {n k : Nat} (f : Nat → Ent) (h : k < n) : nth (byIx n f) k = f k := by simp [nth,byIx,h]
def swR (L : List Ent) (a b n : Nat) : List Ent := byIx L.length fun k => if a ≤ k ∧ k < a + n then nth L (k - a + b) else if b ≤ k ∧ k < b + n then nth L (k - b + a) else nth L k
theorem swR_len (L : List Ent) (a b n : Nat) : (swR L a b n).length = L.length := byIx_len _ _
theorem swR_nth {L : List Ent} {a b n k : Nat} (h : k < L.length) : nth (swR L a b n) k = if a ≤ k ∧ k < a + n then nth L (k - a + b) else if b ≤ k ∧ k < b + n then nth L (k - b + a) else nth L k := byIx_nth _ h
theorem swR_zero (L : List Ent) (a b : Nat) : swR L a b 0 = L := nth_ext (swR_len _ _ _ _) fun k hk => by
  rw [swR_len] at hk
  rw [swR_nth hk,if_neg (by omega),if_neg (by omega)]
theorem swR_step {L : List Ent} {a b i : Nat} (h : a + i < b) (hb : b + i < L.length) : swapL (swR L a b i) (a + i) (b + i) = swR L a b (i + 1) := nth_ext (by rw [swap_len,swR_len,swR_len]) fun k hk => by
  rw [swap_len,swR_len] at hk
  rw [swap_nth (by rw [swR_len];omega) (by rw [swR_len];omega),swR_nth hk,swR_nth (by omega),swR_nth (by omega),swR_nth hk]
  repeat' split
  all_goals first
    | rfl
    | omega
    | (congr 1;omega)
def rotL (L : List Ent) (a m b : Nat) : List Ent := byIx L.length fun k => if a ≤ k ∧ k < b then (if k < a + (b - m) then nth L (k - a + m) else nth L (k - (b - m))) else nth L k
theorem rotL_len (L : List Ent) (a m b : Nat) : (rotL L a m b).length = L.length := byIx_len _ _
theorem rotL_nth {L : List Ent} {a m b k : Nat} (h : k < L.length) : nth (rotL L a m b) k = if a ≤ k ∧ k < b then (if k < a + (b - m) then nth L (k - a + m) else nth L (k - (b - m))) else nth L k := byIx_nth _ h
theorem rot_more {C : List Ent} {m i j : Nat} (hi : i ≤ m) (hj : m + j ≤ C.length) (h : j < i) : rotL C (m - i) m (m + j) = rotL (swR C (m - i) m j) (m - (i - j)) m (m + j) := nth_ext (by rw [rotL_len,rotL_len,swR_len]) fun k hk => by
  rw [rotL_len] at hk
  rw [rotL_nth hk,rotL_nth (by rw [swR_len];exact hk)]
  by_cases h1 : m - i ≤ k ∧ k < m + j
  · rw [if_pos h1]
    by_cases h2 : k < m - i + (m + j - m)
    · rw [if_pos h2,if_neg (by omega),swR_nth hk,if_pos (by omega)]
    · rw [if_neg h2,if_pos (by omega)]
      by_cases h3 : k < m - (i - j) + (m + j - m)
      · rw [if_pos h3,swR_nth (by omega),if_neg (by omega),if_pos (by omega)]
        congr 1;omega
      · rw [if_neg h3,swR_nth (by omega),if_neg (by omega),if_neg (by omega)]
  · rw [if_neg h1,if_neg (by omega),swR_nth hk,if_neg (by omega),if_neg (by omega)]
theorem rot_less {C : List Ent} {m i j : Nat} (hi : i ≤ m) (hj : m + j ≤ C.length) (h : i < j) : rotL C (m - i) m (m + j) = rotL (swR C (m - i) (m + j - i) i) (m - i) m (m + (j - i)) := nth_ext (by rw [rotL_len,rotL_len,swR_len]) fun k hk => by
  rw [rotL_len] at hk
  rw [rotL_nth hk,rotL_nth (by rw [swR_len];exact hk)]
  by_cases h1 : m - i ≤ k ∧ k < m + j
  · rw [if_pos h1]
    by_cases h2 : k < m - i + (m + j - m)
    · rw [if_pos h2]
      by_cases h3 : k < m + (j - i)
      · rw [if_pos ⟨h1.1,h3⟩]
        by_cases h4 : k < m - i + (m + (j - i) - m)
        · rw [if_pos h4,swR_nth (by omega),if_neg (by omega),if_neg (by omega)]
        · rw [if_neg h4,swR_nth (by omega),if_pos (by omega)]
          congr 1;omega
      · omega
    · rw [if_neg h2,if_neg (by omega),swR_nth hk,if_neg (by omega),if_pos (by omega)]
      congr 1;omega
  · rw [if_neg h1,if_neg (by omega),swR_nth hk,if_neg (by omega),if_neg (by omega)]
theorem rot_even {C : List Ent} {m i : Nat} (hi : i ≤ m) (hj : m + i ≤ C.length) : rotL C (m - i) m (m + i) = swR C (m - i) m i := nth_ext (by rw [rotL_len,swR_len]) fun k hk => by
  rw [rotL_len] at hk
  rw [rotL_nth hk,swR_nth hk]
  by_cases h1 : m - i ≤ k ∧ k < m + i
  · rw [if_pos h1]
    by_cases h2 : k < m - i + (m + i - m)
    · rw [if_pos h2,if_pos (by omega)]
    · rw [if_neg h2,if_neg (by omega),if_pos (by omega)]
      congr 1;omega
  · rw [if_neg h1,if_neg (by omega),if_neg (by omega)]
def seg (L : List Ent) (a b : Nat) : List Ent := (L.drop a).take (b - a)
theorem seg_mem {L : List Ent} {a b : Nat} (hb : b ≤ L.length) {x : Ent} (h : x ∈ seg L a b) : ∃ k,a ≤ k ∧ k < b ∧ nth L k = x := by
  obtain ⟨k,hk,rfl⟩ := List.getElem_of_mem h
  unfold seg at hk ⊢
  rw [List.length_take,List.length_drop] at hk
  refine ⟨a + k,by omega,by omega,?_⟩
  rw [List.getElem_take,List.getElem_drop]
  simp [nth,show a + k < L.length by omega]
theorem nth_app (X Y : List Ent) (k : Nat) : nth (X ++ Y) k = if k < X.length then nth X k else nth Y (k - X.length) := by
  unfold nth
  rw [List.getD_eq_getElem?_getD,List.getElem?_append]
  split <;> rw [List.getD_eq_getElem?_getD]
theorem nth_take (L : List Ent) (a k : Nat) (h : k < a) : nth (L.take a) k = nth L k := by
  unfold nth
  rw [List.getD_eq_getElem?_getD,List.getElem?_take_of_lt h,List.getD_eq_getElem?_getD]
theorem nth_drop (L : List Ent) (a k : Nat) : nth (L.drop a) k = nth L (a + k) := by
  unfold nth
  rw [List.getD_eq_getElem?_getD,List.getElem?_drop,List.getD_eq_getElem?_getD]
theorem seg_nth {L : List Ent} {a b k : Nat} (h : k < b - a) : nth (seg L a b) k = nth L (a + k) := by
  unfold seg;rw [nth_take _ _ _ h,nth_drop]
theorem seg_len {L : List Ent} {a b : Nat} (hb : b ≤ L.length) : (seg L a b).length = b - a := by unfold seg;rw [List.length_take,List.length_drop];omega
theorem rot_parts {L : List Ent} {a m b : Nat} (h1 : a ≤ m) (h2 : m ≤ b) (hb : b ≤ L.length) : L = L.take a ++ seg L a m ++ seg L m b ++ L.drop b ∧ rotL L a m b = L.take a ++ seg L m b ++ seg L a m ++ L.drop b := by
  have l1 : (L.take a).length = a := by rw [List.length_take];omega
  have l2 := seg_len (L := L) (a := a) (b := m) (by omega)
  have l3 := seg_len (L := L) (a := m) (b := b) hb
  constructor
  · refine nth_ext (by simp only [List.length_append,l1,l2,l3,List.length_drop];omega) fun k hk => ?_
    simp only [nth_app,List.length_append,l1,l2,l3]
    by_cases c1 : k < a
    · rw [if_pos (by omega),if_pos (by omega),if_pos c1,nth_take _ _ _ c1]
    · by_cases c2 : k < m
      · rw [if_pos (by omega),if_pos (by omega),if_neg c1,seg_nth (by omega)];congr 1;omega
      · by_cases c3 : k < b
        · rw [if_pos (by omega),if_neg (by omega),seg_nth (by omega)];congr 1;omega
        · rw [if_neg (by omega),nth_drop];congr 1;omega
  · refine nth_ext (by rw [rotL_len];simp only [List.length_append,l1,l2,l3,List.length_drop];omega) fun k hk => ?_
    rw [rotL_len] at hk
    rw [rotL_nth hk]
    simp only [nth_app,List.length_append,l1,l2,l3]
    by_cases c1 : k < a
    · rw [if_neg (by omega),if_pos (by omega),if_pos (by omega),if_pos c1,nth_take _ _ _ c1]
    · by_cases c2 : k < a + (b - m)
      · rw [if_pos (by omega),if_pos c2,if_pos (by omega),if_pos (by omega),if_neg c1,seg_nth (by omega)];congr 1;omega
      · by_cases c3 : k < b
        · rw [if_pos (by omega),if_neg c2,if_pos (by omega),if_neg (by omega),seg_nth (by omega)];congr 1;omega
        · rw [if_neg (by omega),if_neg (by omega),nth_drop];congr 1;omega
theorem rot_stb {L : List Ent} {a m b : Nat} (h1 : a ≤ m) (h2 : m ≤ b) (hb : b ≤ L.length) (h : ∀ p q,a ≤ p → p < m → m ≤ q → q < b → aheadE (nth L q) (nth L p) = true) : stb L (rotL L a m b) := by
  obtain ⟨e1,e2⟩ := rot_parts h1 h2 hb
  rw [e2]
  conv => lhs;rw [e1]
  refine stb_rot fun x hx y hy => ?_
  obtain ⟨p,p1,p2,rfl⟩ := seg_mem (by omega) hx
  obtain ⟨q,q1,q2,rfl⟩ := seg_mem hb hy
  exact h p q p1 p2 q1 q2
theorem swap_rot {L : List Ent} {j : Nat} (h0 : 0 < j) (h : j < L.length) : swapL L j (j - 1) = rotL L (j - 1) j (j + 1) := nth_ext (by rw [swap_len,rotL_len]) fun k hk => by
  rw [swap_len] at hk
  rw [swap_nth h (by omega),rotL_nth hk]
  repeat' split
  all_goals first
    | rfl
    | omega
    | (congr 1;omega)
structure SegE (L M : List Ent) (a b : Nat) : Prop where
  len : M.length = L.length
  out : ∀ k,k < a ∨ b ≤ k → nth M k = nth L k
  src : ∀ k,a ≤ k → k < b → ∃ q,a ≤ q ∧ q < b ∧ nth M k = nth L q
  st : stb L M
theorem SegE.refl (L : List Ent) (a b : Nat) : SegE L L a b := ⟨rfl,fun _ _ => rfl,fun k h1 h2 => ⟨k,h1,h2,rfl⟩,stb_refl L⟩
theorem SegE.trans {L M N : List Ent} {a b : Nat} (h : SegE L M a b) (h2 : SegE M N a b) : SegE L N a b :=
  ⟨h2.len.trans h.len,fun k hk => (h2.out k hk).trans (h.out k hk),fun k k1 k2 => by
    obtain ⟨q,q1,q2,e⟩ := h2.src k k1 k2
    obtain ⟨r,r1,r2,e2⟩ := h.src q q1 q2
    exact ⟨r,r1,r2,e.trans e2⟩,stb_trans h.st h2.st⟩
theorem SegE.wide {L M : List Ent} {a b a' b' : Nat} (h : SegE L M a b) (h1 : a' ≤ a) (h2 : b ≤ b') : SegE L M a' b' :=
  ⟨h.len,fun k hk => h.out k (by omega),fun k k1 k2 => by
    by_cases hk : a ≤ k ∧ k < b
    · obtain ⟨q,q1,q2,e⟩ := h.src k hk.1 hk.2
      exact ⟨q,by omega,by omega,e⟩
    · exact ⟨k,k1,k2,h.out k (by omega)⟩,h.st⟩
theorem rot_seg {L : List Ent} {a m b : Nat} (h1 : a ≤ m) (h2 : m ≤ b) (hb : b ≤ L.length) (h : ∀ p q,a ≤ p → p < m → m ≤ q → q < b → aheadE (nth L q) (nth L p) = true) : SegE L (rotL L a m b) a b :=
  ⟨rotL_len _ _ _ _,fun k hk => by
    by_cases hl : k < L.length
    · rw [rotL_nth hl,if_neg (by omega)]
    · have e1 : (rotL L a m b).length ≤ k := by rw [rotL_len];omega
      simp [nth,List.getD_eq_getElem?_getD,List.getElem?_eq_none e1,List.getElem?_eq_none (show L.length ≤ k by omega)],fun k k1 k2 => by
    rw [rotL_nth (by omega),if_pos ⟨k1,k2⟩]
    split
    · exact ⟨k - a + m,by omega,by omega,rfl⟩
    · exact ⟨k - (b - m),by omega,by omega,rfl⟩,rot_stb h1 h2 hb h⟩
end Go.Proofs.YtmfojbidojjciaaGreat
namespace Go.Proofs.YtmfojbidojjciaaGreat
theorem leE_refl (a : Ent) : leE a a = true := by unfold leE;rw [ahead_irr];rfl
theorem srt_at {L : List Ent} {a b i j : Nat} (h : srtIn L a b) (h1 : a ≤ i) (h2 : i ≤ j) (h3 : j < b) : leE (nth L i) (nth L j) = true := by
  by_cases e : i = j
  · subst e;exact leE_refl _
  · exact h i j h1 (by omega) h3
theorem srt_join {L : List Ent} {a m b : Nat} (h1 : srtIn L a m) (h2 : srtIn L m b) (h : ∀ i j,a ≤ i → i < m → m ≤ j → j < b → leE (nth L i) (nth L j) = true) : srtIn L a b := fun i j hi hij hj => by
  by_cases c1 : j < m
  · exact h1 i j hi hij c1
  · by_cases c2 : i < m
    · exact h i j hi c2 (by omega) hj
    · exact h2 i j (by omega) hij hj
theorem srt_sub {L : List Ent} {a b a' b' : Nat} (h : srtIn L a b) (h1 : a ≤ a') (h2 : b' ≤ b) : srtIn L a' b' := fun i j hi hij hj => h i j (by omega) hij (by omega)
theorem srt_out {L M : List Ent} {a b c d : Nat} (h : SegE L M a b) (hs : srtIn L c d) (ho : d ≤ a ∨ b ≤ c) : srtIn M c d := fun i j hi hij hj => by
  rw [h.out i (by omega),h.out j (by omega)];exact hs i j hi hij hj
theorem srt_one (L : List Ent) {a b : Nat} (h : b ≤ a + 1) : srtIn L a b := fun i j hi hij hj => by omega
structure SymS (L : List Ent) (a m b s e : Nat) : Prop where
  h1 : a ≤ s ∧ s ≤ m ∧ m ≤ e ∧ e ≤ b
  mid : s + e = (a + b) / 2 + m
  lo : a < s → e < b → leE (nth L (s - 1)) (nth L e) = true
  hi : s < m → m < e → aheadE (nth L (e - 1)) (nth L s) = true
theorem sym_turn {L : List Ent} {a m b s e : Nat} (hb : b ≤ L.length) (hm : a ≤ m ∧ m ≤ b) (h1 : srtIn L a m) (h2 : srtIn L m b) (q : SymS L a m b s e) :
    SegE L (rotL L s m e) a b ∧ srtIn (rotL L s m e) a s ∧ srtIn (rotL L s m e) s ((a + b) / 2) ∧ srtIn (rotL L s m e) ((a + b) / 2) e ∧ srtIn (rotL L s m e) e b ∧ ∀ i j,a ≤ i → i < (a + b) / 2 → (a + b) / 2 ≤ j → j < b → leE (nth (rotL L s m e) i) (nth (rotL L s m e) j) = true := by
  obtain ⟨⟨q1,q2,q3,q4⟩,qm,ql,qh⟩ := q
  have hlt : ∀ p r,s ≤ p → p < m → m ≤ r → r < e → aheadE (nth L r) (nth L p) = true := fun p r p1 p2 r1 r2 => by
    have a1 := qh (by omega) (by omega)
    have a2 := srt_at h2 r1 (show r ≤ e - 1 by omega) (by omega)
    have a3 := srt_at h1 q1 p1 p2
    exact lt_le_lt (le_lt a2 a1) a3
  have hseg := (rot_seg (L := L) q2 q3 (by omega) hlt).wide q1 q4
  have hn : ∀ k,k < L.length → nth (rotL L s m e) k = if s ≤ k ∧ k < e then (if k < s + (e - m) then nth L (k - s + m) else nth L (k - (e - m))) else nth L k := fun k hk => rotL_nth hk
  generalize hd : (a + b) / 2 = d at *
  have hsd : s + (e - m) = d := by omega
  have n1 : ∀ k,a ≤ k → k < s → nth (rotL L s m e) k = nth L k := fun k k1 k2 => by rw [hn k (by omega),if_neg (by omega)]
  have n2 : ∀ k,s ≤ k → k < d → nth (rotL L s m e) k = nth L (k - s + m) := fun k k1 k2 => by rw [hn k (by omega),if_pos (by omega),if_pos (by omega)]
  have n3 : ∀ k,d ≤ k → k < e → nth (rotL L s m e) k = nth L (k - (e - m)) := fun k k1 k2 => by rw [hn k (by omega),if_pos (by omega),if_neg (by omega)]
  have n4 : ∀ k,e ≤ k → k < b → nth (rotL L s m e) k = nth L k := fun k k1 k2 => by rw [hn k (by omega),if_neg (by omega)]
  refine ⟨hseg,fun i j i1 i2 i3 => ?_,fun i j i1 i2 i3 => ?_,fun i j i1 i2 i3 => ?_,fun i j i1 i2 i3 => ?_,fun i j i1 i2 j1 j2 => ?_⟩
  · rw [n1 i i1 (by omega),n1 j (by omega) i3];exact h1 i j i1 i2 (by omega)
  · rw [n2 i i1 (by omega),n2 j (by omega) i3];exact h2 _ _ (by omega) (by omega) (by omega)
  · rw [n3 i i1 (by omega),n3 j (by omega) i3];exact h1 _ _ (by omega) (by omega) (by omega)
  · rw [n4 i i1 (by omega),n4 j (by omega) i3];exact h2 i j (by omega) i2 i3
  · by_cases c1 : i < s
    · rw [n1 i i1 c1]
      by_cases c2 : j < e
      · rw [n3 j j1 c2];exact h1 _ _ i1 (by omega) (by omega)
      · rw [n4 j (by omega) j2]
        have b1 := srt_at h1 i1 (show i ≤ s - 1 by omega) (by omega)
        have b2 := ql (by omega) (by omega)
        have b3 := srt_at h2 (show m ≤ e by omega) (show e ≤ j by omega) j2
        exact leE_trans (leE_trans b1 b2) b3
    · rw [n2 i (by omega) i2]
      by_cases c2 : j < e
      · rw [n3 j j1 c2]
        exact lt_le (hlt _ _ (by omega) (by omega) (by omega) (by omega))
      · rw [n4 j (by omega) j2];exact srt_at h2 (by omega) (by omega) j2
theorem sym_end {L M N : List Ent} {a d b : Nat} (hs : SegE L M a d) (hn : SegE M N d b) (h1 : srtIn M a d) (h2 : srtIn N d b) (hc : ∀ i j,a ≤ i → i < d → d ≤ j → j < b → leE (nth L i) (nth L j) = true) (had : a ≤ d ∧ d ≤ b) : SegE L N a b ∧ srtIn N a b := by
  refine ⟨(hs.wide (Nat.le_refl _) had.2).trans (hn.wide had.1 (Nat.le_refl _)),srt_join (srt_out hn h1 (.inl (Nat.le_refl _))) h2 fun i j i1 i2 j1 j2 => ?_⟩
  rw [hn.out i (.inl i2)]
  obtain ⟨q,q1,q2,e⟩ := hn.src j j1 j2
  obtain ⟨p,p1,p2,e2⟩ := hs.src i i1 i2
  rw [e,e2,hs.out q (.inr q1)]
  exact hc p q p1 p2 q1 q2
theorem ins_left {L : List Ent} {a i b : Nat} (hb : b ≤ L.length) (ha : a + 1 ≤ i ∧ i ≤ b) (h2 : srtIn L (a + 1) b) (hlo : ∀ k,a + 1 ≤ k → k < i → aheadE (nth L k) (nth L a) = true) (hhi : ∀ k,i ≤ k → k < b → leE (nth L a) (nth L k) = true) : SegE L (rotL L a (a + 1) i) a b ∧ srtIn (rotL L a (a + 1) i) a b := by
  have hlt : ∀ p r,a ≤ p → p < a + 1 → a + 1 ≤ r → r < i → aheadE (nth L r) (nth L p) = true := fun p r p1 p2 r1 r2 => by
    rw [show p = a by omega];exact hlo r r1 r2
  have hseg := (rot_seg (L := L) (by omega) ha.1 (by omega) hlt).wide (Nat.le_refl _) ha.2
  have hn : ∀ k,k < L.length → nth (rotL L a (a + 1) i) k = if a ≤ k ∧ k < i then (if k < a + (i - (a + 1)) then nth L (k - a + (a + 1)) else nth L (k - (i - (a + 1)))) else nth L k := fun k hk => rotL_nth hk
  refine ⟨hseg,fun p r p1 p2 r1 => ?_⟩
  rw [hn p (by omega),hn r (by omega)]
  by_cases c1 : p < i - 1
  · rw [if_pos (by omega),if_pos (by omega)]
    by_cases c2 : r < i - 1
    · rw [if_pos (by omega),if_pos (by omega)];exact h2 _ _ (by omega) (by omega) (by omega)
    · by_cases c3 : r < i
      · rw [if_pos (by omega),if_neg (by omega),show r - (i - (a + 1)) = a by omega]
        exact lt_le (hlo _ (by omega) (by omega))
      · rw [if_neg (by omega)];exact h2 _ _ (by omega) (by omega) r1
  · by_cases c4 : p < i
    · rw [if_pos (by omega),if_neg (by omega),show p - (i - (a + 1)) = a by omega,if_neg (by omega)]
      exact hhi r (by omega) r1
    · rw [if_neg (by omega),if_neg (by omega)];exact h2 _ _ (by omega) p2 r1
theorem ins_right {L : List Ent} {a i m : Nat} (hb : m < L.length) (ha : a ≤ i ∧ i ≤ m) (h1 : srtIn L a m) (hlo : ∀ k,a ≤ k → k < i → leE (nth L k) (nth L m) = true) (hhi : ∀ k,i ≤ k → k < m → aheadE (nth L m) (nth L k) = true) : SegE L (rotL L i m (m + 1)) a (m + 1) ∧ srtIn (rotL L i m (m + 1)) a (m + 1) := by
  have hlt : ∀ p r,i ≤ p → p < m → m ≤ r → r < m + 1 → aheadE (nth L r) (nth L p) = true := fun p r p1 p2 r1 r2 => by
    rw [show r = m by omega];exact hhi p p1 p2
  have hseg := (rot_seg (L := L) ha.2 (by omega) (by omega) hlt).wide ha.1 (Nat.le_refl _)
  have hn : ∀ k,k < L.length → nth (rotL L i m (m + 1)) k = if i ≤ k ∧ k < m + 1 then (if k < i + (m + 1 - m) then nth L (k - i + m) else nth L (k - (m + 1 - m))) else nth L k := fun k hk => rotL_nth hk
  refine ⟨hseg,fun p r p1 p2 r1 => ?_⟩
  rw [hn p (by omega),hn r (by omega)]
  by_cases c1 : p < i
  · rw [if_neg (by omega)]
    by_cases c2 : r < i
    · rw [if_neg (by omega)];exact h1 _ _ p1 p2 (by omega)
    · by_cases c3 : r = i
      · rw [if_pos (by omega),if_pos (by omega),show r - i + m = m by omega];exact hlo p p1 c1
      · rw [if_pos (by omega),if_neg (by omega)];exact h1 _ _ p1 (by omega) (by omega)
  · by_cases c3 : p = i
    · rw [if_pos (by omega),if_pos (by omega),show p - i + m = m by omega,if_pos (by omega),if_neg (by omega)]
      exact lt_le (hhi _ (by omega) (by omega))
    · rw [if_pos (by omega),if_neg (by omega),if_pos (by omega),if_neg (by omega)];exact h1 _ _ (by omega) (by omega) (by omega)
structure DwnI (L C : List Ent) (a i j : Nat) : Prop where
  seg : SegE L C a (i + 1)
  hj : a ≤ j ∧ j ≤ i
  oth : ∀ p q,a ≤ p → p < q → q ≤ i → p ≠ j → q ≠ j → leE (nth C p) (nth C q) = true
  abv : ∀ q,j < q → q ≤ i → aheadE (nth C j) (nth C q) = true
theorem dwn_start {L : List Ent} {a i : Nat} (h : srtIn L a i) (ha : a ≤ i) : DwnI L L a i i := ⟨SegE.refl _ _ _,⟨ha,Nat.le_refl _⟩,fun p q p1 p2 p3 p4 p5 => h p q p1 p2 (by omega),fun q q1 q2 => by omega⟩
theorem dwn_step {L C : List Ent} {a i j : Nat} (hi : i < L.length) (h : DwnI L C a i j) (hj : a < j) (hlt : aheadE (nth C j) (nth C (j - 1)) = true) : DwnI L (swapL C j (j - 1)) a i (j - 1) := by
  have hl := h.seg.len
  have hh := h.hj
  have hn := fun k => swap_nth (L := C) (i := j) (j := j - 1) (by omega) (by omega) k
  have hsg : SegE C (swapL C j (j - 1)) (j - 1) (j + 1) := by
    rw [swap_rot (by omega) (by omega)]
    refine rot_seg (by omega) (by omega) (by omega) fun p q p1 p2 q1 q2 => ?_
    rw [show q = j by omega,show p = j - 1 by omega];exact hlt
  refine ⟨h.seg.trans (hsg.wide (by omega) (by omega)),by omega,fun p q p1 p2 p3 p4 p5 => ?_,fun q q1 q2 => ?_⟩
  · rw [hn p,hn q,if_neg p4,if_neg p5]
    by_cases c1 : p = j
    · rw [if_pos c1]
      rw [if_neg (by omega)]
      exact h.oth (j - 1) q (by omega) (by omega) p3 (by omega) (by omega)
    · rw [if_neg c1]
      by_cases c2 : q = j
      · rw [if_pos c2];exact h.oth p (j - 1) p1 (by omega) (by omega) c1 (by omega)
      · rw [if_neg c2];exact h.oth p q p1 p2 p3 c1 c2
  · rw [hn (j - 1),hn q,if_pos rfl,if_neg (by omega)]
    by_cases c2 : q = j
    · rw [if_pos c2];exact hlt
    · rw [if_neg c2];exact h.abv q (by omega) q2
theorem dwn_end {L C : List Ent} {a i j : Nat} (h : DwnI L C a i j) (he : j = a ∨ aheadE (nth C j) (nth C (j - 1)) = false) : srtIn C a (i + 1) := fun p q p1 p2 p3 => by
  have hh := h.hj
  by_cases c1 : p = j
  · subst c1;exact lt_le (h.abv q p2 (by omega))
  · by_cases c2 : q = j
    · subst c2
      rcases he with he | he
      · omega
      · have h1 : leE (nth C (q - 1)) (nth C q) = true := by unfold leE;rw [he];rfl
        by_cases c3 : p = q - 1
        · rw [c3];exact h1
        · exact leE_trans (h.oth p (q - 1) p1 (by omega) (by omega) c1 (by omega)) h1
    · exact h.oth p q p1 p2 (by omega) c1 c2
end Go.Proofs.YtmfojbidojjciaaGreat
namespace Go.Proofs.YtmfojbidojjciaaGreat
open Go.RowKit
section
variable {P : Program} {N base : Nat} {w0 : World} {E : Env} {H : List HObj} {G : List World} {Q : Exit → Act → World → Prop} {o : Oper}
end
theorem mrg0 {N base : Nat} {w0 : World} {E E' : Env} {H H' : List HObj} {G G' : List World} {K K' : Act → World → Prop} (h1 : Ok N base w0 E' H' G' K' → Ok N base w0 E H G K) (h2 : Ok N base w0 E' H' G' K') : Ok N base w0 E H G K := h1 h2
end Go.Proofs.YtmfojbidojjciaaGreat
namespace Go.Proofs.YtmfojbidojjciaaGreat
instance : Enc Ent := ⟨fun e => .agg #[.string e.key,.int .i64 e.seq,.bool e.del,.string e.val],fun v => ⟨asS ((asL v).getD 0 (.bool false)),asI ((asL v).getD 1 (.bool false)),asB ((asL v).getD 2 (.bool false)),asS ((asL v).getD 3 (.bool false))⟩,fun _ => rfl⟩
end Go.Proofs.YtmfojbidojjciaaGreat
namespace Go.Proofs.YtmfojbidojjciaaGreat
open Go.RowKit
attribute [local irreducible] Calls
abbrev rwE (A : Option Addr) (n c : Nat) (L : List Ent) : HObj := .row 204 4 A n c (fl L)
def cmpV : Value := .func (.func 217) #[] #[]
theorem isS_own {w : World} {base e sz n c : Nat} {A : Option Addr} {us : List Value} (h : Own w base e sz A n c us) (hn : 0 < n) : IsS A := by
  obtain ⟨_,⟨hA,h0⟩ | ⟨g,cap,cur,hA,_⟩⟩ := h
  · omega
  · injection hA with hA;exact ⟨_,hA⟩
theorem swapR_c (A : Option Addr) (n c a b m : Nat) (L : List Ent) (hn : L.length = n) (hl : n ≤ 4194304) (h1 : a + m ≤ b) (h2 : b + m ≤ n) {base : Nat} {w0 w : World} {H : List HObj} {G : List World} (hw : WOk base w0 (rwE A n c L :: H) G w) :
    Calls Tryz.prog 363 #[.slice A n c,.int .i64 a,.int .i64 b,.int .i64 m,cmpV] w fun e w' => ∃ y : Ys,e = .returned (.tuple #[]) ∧ True ∧ WOk base w0 (rwE A n c (swR L a b m) :: H) G w' := by
  have hA : 0 < n → IsS A := fun h => isS_own (hw.own _ List.mem_cons_self) h
  refine ok_enterW 38 Tryz.func363 rfl rfl rfl hw ?_
  repeat' (first|refine Wa ?_|refine Wb ?_|refine Wd ?_|(refine Zr 0 ?_;refine Za ?_;refine Ze5 0 1 2 3 10 ?_))
  refine ok_loop (ι := { k : Nat // k ≤ m }) (fun k => m - k.1) (fun k => ([(0,.slice A n c),(1,.int .i64 a),(2,.int .i64 b),(3,.int .i64 m),(10,.int .i64 k.1)],rwE A n c (swR L a b k.1) :: H,_)) ⟨0,by omega⟩ (fun ac w he hw => ⟨⟨0,by omega⟩,he.sub ⟨rfl,rfl,rfl,rfl,rfl,trivial⟩,by simp only;rw [swR_zero];exact hw⟩) ?_
  rintro ⟨k,hk⟩
  simp only at hk ⊢
  have hll : (swR L a b k).length = n := by rw [swR_len];exact hn
  have hst := swR_step (L := L) (a := a) (b := b) (i := k)
  have HS := Lib.hid hst;clear hst
  generalize hC : swR L a b k = C at hll HS ⊢
  repeat' (first|refine Wa ?_|refine Wb ?_|refine ok_then_exit ?_|refine Wd ?_|refine We ?_|refine ok_in_exit ?_|(refine ok_cond rfl (fun hc => ?_) (fun hc => ?_) <;> (have hd := hc;try simp only [jj] at hd))|refine Wh ?_|refine Wi ?_|(refine Zr 1 ?_;refine Zm ?_;refine Zm ?_;refine Zi ?_;refine Ze6 0 1 2 3 10 13 ?_)|(refine Zr 2 ?_;refine Zm ?_;refine Zq (by exact ps_add rfl rfl rfl (by omega)) ?_;refine Za ?_;refine Ze5 0 1 2 3 10 ?_)|(apply mrg0;(focus (intro hk;refine ok_draw (id := 3) 22 rfl (by kernel_rfl) (by kernel_rfl) rfl (by repeat (first | exact pq_body | refine pq_then ?_ | refine pq_in ?_)) [] (by decide) rfl ?_;refine Xm 0 ?_;refine Xm 1 ?_;refine Xm 2 ?_;refine Xt 3 rfl (by exact ps_cast (v' := .int .i64 ((a + k : Nat) : Int)) (ps_add rfl rfl rfl (by omega)) (by push_cast;rfl)) ?_;refine Xm 4 ?_;refine Xm 5 ?_;refine Xm 6 ?_;refine Xt 7 rfl (by exact ps_cast (v' := .int .i64 ((b + k : Nat) : Int)) (ps_add rfl rfl rfl (by omega)) (by push_cast;rfl)) ?_;refine Xm 8 ?_;refine Xm 9 ?_;refine Xm 10 ?_;refine Xt 11 rfl (by exact ps_cast (v' := .int .i64 ((b + k : Nat) : Int)) (ps_add rfl rfl rfl (by omega)) (by push_cast;rfl)) ?_;refine Xt 12 rfl (by exact ps_indexN rfl rfl rfl (by omega) (isw_of (hA (by omega)))) ?_;refine Xm 14 ?_;refine Xm 15 ?_;refine Xm 16 ?_;refine Xt 17 rfl (by exact ps_cast (v' := .int .i64 ((a + k : Nat) : Int)) (ps_add rfl rfl rfl (by omega)) (by push_cast;rfl)) ?_;refine Xt 18 rfl (by exact ps_indexN rfl rfl rfl (by omega) (isw_of (hA (by omega)))) ?_;refine okT_many (by kernel_rfl) (all_cons (at_m (i := 13) rfl rfl rfl rfl rfl (by exact ms_ps (by exact ps_loadsF (α := Ent) (l := C) (i := b + k) rfl rfl (rds_row 0 rfl) rfl rfl (by omega) rfl)) (fun y w _ h => by exact h.sel [] (by decide) rfl (fun _ h => h)) ?_) (all_cons (at_m (i := 19) rfl rfl rfl rfl rfl (by exact ms_ps (by exact ps_loadsF (α := Ent) (l := C) (i := a + k) rfl rfl (rds_row 0 rfl) rfl rfl (by omega) rfl)) (fun y w _ h => by exact h.sel [] (by decide) rfl (fun _ h => h)) ?_) all_nil));(focus (rintro y29 hy29;refine Xo 19 rfl (by exact ms_ps (by exact ps_loadsF (α := Ent) (l := C) (i := a + k) rfl rfl (rds_row 0 rfl) rfl rfl (by omega) rfl)) (fun y w _ h => by exact h.sel [] (by decide) rfl (fun _ h => h)) ?_;rintro y35 hy35;refine Xt 20 rfl (by exact ps_indexN rfl rfl rfl (by omega) (isw_of (hA (by omega)))) ?_;refine okT_one0 (i := 21) rfl rfl (by kernel_rfl) rfl rfl (by exact ms_setw (α := Ent) 0 (a + k) (nth C (b + k)) rfl rfl rfl rfl rfl rfl rfl rfl rfl (by omega)) (fun y w _ h => by exact h.sel [] (by decide) rfl (fun _ h => h)) ?_;rintro y_ hy_;refine okT_done (by kernel_rfl) ?_;refine Zq (by exact ps_indexN rfl rfl rfl (by omega) (isw_of (hA (by omega)))) ?_;refine Zo (by exact ms_setw (α := Ent) 0 (b + k) (nth C (a + k)) rfl rfl rfl rfl rfl rfl rfl rfl rfl (by rw [List.length_set];omega)) ?_;rintro y_ hy_;refine Ze5 0 1 2 3 10 ?_;exact hk));(focus (rintro y35 hy35;refine Xo 13 rfl (by exact ms_ps (by exact ps_loadsF (α := Ent) (l := C) (i := b + k) rfl rfl (rds_row 0 rfl) rfl rfl (by omega) rfl)) (fun y w _ h => by exact h.sel [] (by decide) rfl (fun _ h => h)) ?_;rintro y29 hy29;refine Xt 20 rfl (by exact ps_indexN rfl rfl rfl (by omega) (isw_of (hA (by omega)))) ?_;refine okT_one0 (i := 21) rfl rfl (by kernel_rfl) rfl rfl (by exact ms_setw (α := Ent) 0 (a + k) (nth C (b + k)) rfl rfl rfl rfl rfl rfl rfl rfl rfl (by omega)) (fun y w _ h => by exact h.sel [] (by decide) rfl (fun _ h => h)) ?_;rintro y_ hy_;refine okT_done (by kernel_rfl) ?_;refine Zq (by exact ps_indexN rfl rfl rfl (by omega) (isw_of (hA (by omega)))) ?_;refine Zo (by exact ms_setw (α := Ent) 0 (b + k) (nth C (a + k)) rfl rfl rfl rfl rfl rfl rfl rfl rfl (by rw [List.length_set];omega)) ?_;rintro y_ hy_;refine Ze5 0 1 2 3 10 ?_;exact hk))))))
  · refine fun ac w' he hw => ⟨⟨k + 1,by omega⟩,by simp only;omega,he.sub ⟨rfl,rfl,rfl,rfl,rfl,trivial⟩,?_⟩
    simp only
    rw [← HS.out (by omega) (by omega)]
    exact hw
  · obtain rfl : k = m := by omega
    refine ok_endN (K := .normal) (ok_endL (vs := []) rfl trivial (fun w' hw => ⟨mkY none 0 w,rfl,trivial,?_⟩))
    rw [hC]
    exact hw
structure RotI (L : List Ent) (m : Nat) (a b : Nat) where
  C : List Ent
  i : Nat
  j : Nat
  hi : 0 < i ∧ i ≤ m - a
  hj : 0 < j ∧ j ≤ b - m
  hl : C.length = L.length
  ok : rotL L a m b = rotL C (m - i) m (m + j)
theorem rotate_c (A : Option Addr) (n c a m b : Nat) (L : List Ent) (hn : L.length = n) (hl : n ≤ 4194304) (h1 : a < m) (h2 : m < b) (h3 : b ≤ n) {base : Nat} {w0 w : World} {H : List HObj} {G : List World} (hw : WOk base w0 (rwE A n c L :: H) G w) :
    Calls Tryz.prog 352 #[.slice A n c,.int .i64 a,.int .i64 m,.int .i64 b,cmpV] w fun e w' => ∃ y : Ys,e = .returned (.tuple #[]) ∧ True ∧ WOk base w0 (rwE A n c (rotL L a m b) :: H) G w' := by
  refine ok_enterW 58 Tryz.func352 rfl rfl rfl hw ?_
  repeat' (first|refine Wa ?_|refine Wd ?_|(refine Zr 0 ?_;refine Zm ?_;refine Zm ?_;refine Zq (by exact ps_sub rfl rfl rfl (by omega)) ?_;refine Za ?_;refine Ze5 0 2 3 4 10 ?_)|(refine Zr 1 ?_;refine Zm ?_;refine Zm ?_;refine Zq (by exact ps_sub rfl rfl rfl (by omega)) ?_;refine Za ?_;refine Ze5 0 2 4 10 11 ?_))
  refine ok_loop (ι := RotI L m a b) (fun q => q.i + q.j) (fun q => ([(0,.slice A n c),(2,.int .i64 m),(4,cmpV),(10,.int .i64 q.i),(11,.int .i64 q.j)],rwE A n c q.C :: H,_)) ⟨L,m - a,b - m,by omega,by omega,rfl,by rw [show m - (m - a) = a by omega,show m + (b - m) = b by omega]⟩ (fun ac w he hw => ⟨⟨L,m - a,b - m,by omega,by omega,rfl,by rw [show m - (m - a) = a by omega,show m + (b - m) = b by omega]⟩,he.sub ⟨rfl,rfl,rfl,by simp only [look];congr 2;omega,by simp only [look];congr 2;omega,trivial⟩,hw⟩) ?_
  rintro ⟨C,i,j,hi,hj,hcl,ok⟩
  simp only at hi hj hcl ok ⊢
  have OK := Lib.hid ok;clear ok
  have hcn : C.length = n := by omega
  repeat' (first|refine Wa ?_|refine Wb ?_|refine ok_then_exit ?_|refine Wd ?_|refine We ?_|refine ok_in_exit ?_|(refine ok_cond rfl (fun hc => ?_) (fun hc => ?_) <;> (have hd := hc;try simp only [jj] at hd))|refine Wh ?_|refine Wi ?_|(refine Zr 2 ?_;refine Zm ?_;refine Zm ?_;refine Zi ?_;refine Ze6 0 2 4 10 11 20 ?_)|(refine Zr 3 ?_;refine Zm ?_;refine Zm ?_;refine Zi ?_;refine Ze6 0 2 4 10 11 23 ?_)|(refine Zr 4 ?_;refine Zm ?_;refine Zm ?_;refine Zm ?_;refine Zq (by exact ps_cast (v' := .int .i64 ((m - i : Nat) : Int)) (ps_sub rfl rfl rfl (by omega)) (by congr 1;omega)) ?_;refine Zm ?_;refine Zm ?_;refine Zm ?_;refine Zn (by exact ms_wr 0 rfl rfl rfl rfl (fun _ _ w hw => swapR_c A n c (m - i) m j C hcn hl (by omega) (by omega) hw)) ?_;rintro y31 hy31;refine Ze5 0 2 4 10 11 ?_)|(refine Zr 5 ?_;refine Zm ?_;refine Zm ?_;refine Zq (by exact ps_sub rfl rfl rfl (by omega)) ?_;refine Za ?_;refine Ze5 0 2 4 10 11 ?_)|(refine Zr 6 ?_;refine Zm ?_;refine Zm ?_;refine Zm ?_;refine Zq (by exact ps_cast (v' := .int .i64 ((m - i : Nat) : Int)) (ps_sub rfl rfl rfl (by omega)) (by congr 1;omega)) ?_;refine Zm ?_;refine Zm ?_;refine Zq (by exact ps_add rfl rfl rfl (by omega)) ?_;refine Zm ?_;refine Zq (by exact ps_cast (v' := .int .i64 ((m + j - i : Nat) : Int)) (ps_sub rfl rfl rfl (by omega)) (by congr 1;omega)) ?_;refine Zm ?_;refine Zm ?_;refine Zn (by exact ms_wr 0 rfl rfl rfl rfl (fun _ _ w hw => swapR_c A n c (m - i) (m + j - i) i C hcn hl (by omega) (by omega) hw)) ?_;rintro y46 hy46;refine Ze5 0 2 4 10 11 ?_)|(refine Zr 7 ?_;refine Zm ?_;refine Zm ?_;refine Zq (by exact ps_sub rfl rfl rfl (by omega)) ?_;refine Za ?_;refine Ze5 0 2 4 10 11 ?_)|(refine Zr 8 ?_;refine Zm ?_;refine Zm ?_;refine Zm ?_;refine Zq (by exact ps_cast (v' := .int .i64 ((m - i : Nat) : Int)) (ps_sub rfl rfl rfl (by omega)) (by congr 1;omega)) ?_;refine Zm ?_;refine Zm ?_;refine Zm ?_;refine Zn (by exact ms_wr 0 rfl rfl rfl rfl (fun _ _ w hw => swapR_c A n c (m - i) m i C hcn hl (by omega) (by omega) hw)) ?_;rintro y57 hy57;refine Ze0 ?_))
  · refine fun ac w' he hw => ⟨⟨swR C (m - i) m j,i - j,j,by omega,by omega,by rw [swR_len];exact hcl,by rw [OK.out];exact rot_more (by omega) (by omega) (by omega)⟩,by simp only;omega,he.sub ⟨rfl,rfl,rfl,by simp only [look];congr 2;omega,rfl,trivial⟩,hw⟩
  · refine fun ac w' he hw => ⟨⟨swR C (m - i) (m + j - i) i,i,j - i,by omega,by omega,by rw [swR_len];exact hcl,by rw [OK.out];exact rot_less (by omega) (by omega) (by omega)⟩,by simp only;omega,he.sub ⟨rfl,rfl,rfl,rfl,by simp only [look];congr 2;omega,trivial⟩,hw⟩
  · obtain rfl : i = j := by omega
    refine ok_endN (K := .normal) (ok_endL (vs := []) rfl trivial (fun w' hw => ⟨mkY none 0 w,rfl,trivial,?_⟩))
    rw [OK.out,rot_even (by omega) (by omega)]
    exact hw
def yM (M : List Ent) (w : World) : Ys := fun _ => ⟨none,0,eW M w,0⟩
def rM (y : Ys) : List Ent := yE (y 0)
theorem rM_yM (M : List Ent) (w : World) : rM (yM M w) = M := yE_mk _ _ _ _ _
theorem cmpE_lt (a b : Ent) : decide (cmpE a b < 0) = aheadE a b := by
  have h := cmpE_ahead a b
  cases h2 : aheadE a b with
  | true =>
    rw [h2] at h
    have : ¬ 0 ≤ cmpE a b := by simpa using h
    simp;omega
  | false =>
    rw [h2] at h
    have : 0 ≤ cmpE a b := by simpa using h
    simp;omega
structure InsI (L : List Ent) (a b : Nat) where
  C : List Ent
  i : Nat
  hi : a + 1 ≤ i ∧ (i ≤ b ∨ i = a + 1)
  seg : SegE L C a b
  srt : srtIn C a i
structure DwI (C : List Ent) (a i : Nat) where
  D : List Ent
  j : Nat
  ok : DwnI C D a i j
theorem insert_c' (A : Option Addr) (n c a b : Nat) (L : List Ent) (hn : L.length = n) (hl : n ≤ 4194304) (h1 : a ≤ b) (h2 : b ≤ n) {base : Nat} {w0 w : World} {H : List HObj} {G : List World} (hw : WOk base w0 (rwE A n c L :: H) G w) :
    Calls Tryz.prog 326 #[.slice A n c,.int .i64 a,.int .i64 b,cmpV] w fun e w' => ∃ y : Ys,e = .returned (.tuple #[]) ∧ (SegE L (rM y) a b ∧ srtIn (rM y) a b) ∧ WOk base w0 (rwE A n c (rM y) :: H) G w' := by
  have hA : 0 < n → IsS A := fun h => isS_own (hw.own _ List.mem_cons_self) h
  refine ok_enterW 53 Tryz.func326 rfl rfl rfl hw ?_
  repeat' (first|refine Wa ?_|refine Wb ?_|refine Wd ?_|(refine Zr 0 ?_;refine Zm ?_;refine Zq (by exact ps_add rfl rfl rfl (by omega)) ?_;refine Za ?_;refine Ze5 0 1 2 3 8 ?_))
  refine ok_loop (ι := InsI L a b) (fun q => b - q.i) (fun q => ([(0,.slice A n c),(1,.int .i64 a),(2,.int .i64 b),(3,cmpV),(8,.int .i64 q.i)],rwE A n c q.C :: H,_)) ⟨L,a + 1,by omega,SegE.refl _ _ _,srt_one _ (by omega)⟩ (fun ac w he hw => ⟨⟨L,a + 1,by omega,SegE.refl _ _ _,srt_one _ (by omega)⟩,he.sub ⟨rfl,rfl,rfl,rfl,by simp only [look];congr 2,trivial⟩,hw⟩) ?_
  rintro ⟨C,i,hi,seg,srt⟩
  simp only at hi ⊢
  have hcn : C.length = n := by rw [seg.len];exact hn
  repeat' (first|refine Wa ?_|refine Wb ?_|refine ok_then_exit ?_|refine Wd ?_|refine ok_in_exit ?_|(refine ok_cond rfl (fun hc => ?_) (fun hc => ?_) <;> (have hd := hc;try simp only [jj] at hd))|refine Wh ?_|refine Wi ?_|(refine Zr 1 ?_;refine Zm ?_;refine Zm ?_;refine Zi ?_;refine Ze6 0 1 2 3 8 14 ?_)|(refine Zr 3 ?_;refine Zm ?_;refine Za ?_;refine Ze6 0 1 2 3 8 9 ?_))
  · refine ok_loop (ι := DwI C a i) (fun q => q.j) (fun q => ([(0,.slice A n c),(1,.int .i64 a),(2,.int .i64 b),(3,cmpV),(8,.int .i64 i),(9,.int .i64 q.j)],rwE A n c q.D :: H,_)) ⟨C,i,dwn_start srt (by omega)⟩ (fun ac w he hw => ⟨⟨C,i,dwn_start srt (by omega)⟩,he.sub ⟨rfl,rfl,rfl,rfl,rfl,rfl,trivial⟩,hw⟩) ?_
    rintro ⟨D,j,ok⟩
    simp only
    have hj := ok.hj
    have hdn : D.length = n := by rw [ok.seg.len];exact hcn
    have OK := Lib.hid ok;clear ok
    have SEG := Lib.hid seg;clear seg
    have SRT := Lib.hid srt;clear srt
    repeat' (first|refine Wa ?_|refine Wb ?_|refine ok_then_exit ?_|refine Wd ?_|refine We ?_|refine ok_in_exit ?_|(refine ok_cond rfl (fun hc => ?_) (fun hc => ?_) <;> (have hd := hc;try simp only [jj] at hd))|refine Wh ?_|refine Wi ?_|(refine Zr 2 ?_;refine Zm ?_;refine Zq (by exact ps_add rfl rfl rfl (by omega)) ?_;refine Za ?_;refine Ze5 0 1 2 3 8 ?_)|(refine ok_draw (id := 4) 17 rfl (by kernel_rfl) (by kernel_rfl) rfl (by repeat (first | exact pq_body | refine pq_then ?_ | refine pq_in ?_)) [0] (by decide) rfl ?_;refine Xm 0 ?_;refine Xm 1 ?_;refine Xt 2 rfl (ps_int rfl rfl rfl rfl) ?_;refine Xm 3 ?_;refine Xg 4 rfl rfl rfl rfl (gT _) (fun hp => by exact ps_move rfl rfl) ?_;refine Xg 5 rfl rfl rfl rfl (gT _) (fun hp => by exact ps_move rfl rfl) ?_;refine Xg 6 rfl rfl rfl rfl (gT _) (fun hp => by exact ps_move rfl rfl) ?_;refine Xg 7 rfl rfl rfl rfl (gT _) (fun hp => by (have hpd := hp;(try simp only [jj] at hpd);exact ps_indexN rfl (Og rfl) (Og rfl) (by omega) (by exact isw_row 0 rfl (by omega)))) ?_;refine Xg 8 rfl rfl rfl rfl (gT _) (fun hp => by (have hpd := hp;(try simp only [jj] at hpd);exact ps_loadsF rfl (Og rfl) (by exact rds_row 0 rfl) (by rfl) (by rfl) (by omega) rfl)) ?_;refine Xg 9 rfl rfl rfl rfl (gT _) (fun hp => by exact ps_move rfl rfl) ?_;refine Xg 10 rfl rfl rfl rfl (gT _) (fun hp => by exact ps_move rfl rfl) ?_;refine Xg 11 rfl rfl rfl rfl (gT _) (fun hp => by (have hpd := hp;(try simp only [jj] at hpd);exact ps_cast (v' := .int .i64 ((j - 1 : Nat) : Int)) (ps_sub rfl (Og rfl) rfl (by omega)) (by congr 1;omega))) ?_;refine Xg 12 rfl rfl rfl rfl (gT _) (fun hp => by (have hpd := hp;(try simp only [jj] at hpd);exact ps_indexN rfl (Og rfl) (Og rfl) (by omega) (by exact isw_row 0 rfl (by omega)))) ?_;refine Xg 13 rfl rfl rfl rfl (gT _) (fun hp => by (have hpd := hp;(try simp only [jj] at hpd);exact ps_loadsF rfl (Og rfl) (by exact rds_row 0 rfl) (by rfl) (by rfl) (by omega) rfl)) ?_;refine okT_one_g1 (i := 14) rfl rfl (by kernel_rfl) rfl rfl rfl rfl rfl (gT _) (fun hp => by (exact ms_v2 rfl (Og rfl) (Og rfl) (Og rfl) (fun _ _ w hw => compareEnts_c (nth D j) (nth D (j - 1)) w))) (fun w h => by exact h.sel [0] (by decide) rfl (fun _ h => h)) ?_;refine Xg 15 rfl rfl rfl rfl (gT _) (fun hp => by (exact ps_int rfl (Og rfl) rfl rfl)) ?_;refine Xt 16 rfl (ps_and rfl rfl rfl) ?_;refine okT_done (by kernel_rfl) ?_;refine Ze7 0 1 2 3 8 9 34 ?_)|(refine Zr 5 ?_;refine Zm ?_;refine Zq (by exact ps_cast (v' := .int .i64 ((j - 1 : Nat) : Int)) (ps_sub rfl rfl rfl (by omega)) (by congr 1;omega)) ?_;refine Za ?_;refine Ze6 0 1 2 3 8 9 ?_)|(apply mrg0;(focus (intro hk;refine ok_draw (id := 6) 16 rfl (by kernel_rfl) (by kernel_rfl) rfl (by repeat (first | exact pq_body | refine pq_then ?_ | refine pq_in ?_)) [] (by decide) rfl ?_;refine Xm 0 ?_;refine Xm 1 ?_;refine Xm 2 ?_;refine Xm 3 ?_;refine Xt 4 rfl (by exact ps_cast (v' := .int .i64 ((j - 1 : Nat) : Int)) (ps_sub rfl rfl rfl (by omega)) (by congr 1;omega)) ?_;refine Xm 5 ?_;refine Xm 6 ?_;refine Xt 7 rfl (by exact ps_cast (v' := .int .i64 ((j - 1 : Nat) : Int)) (ps_sub rfl rfl rfl (by omega)) (by congr 1;omega)) ?_;refine Xt 8 rfl (by exact ps_indexN rfl rfl rfl (by omega) (isw_of (hA (by omega)))) ?_;refine Xm 10 ?_;refine Xm 11 ?_;refine Xt 12 rfl (by exact ps_indexN rfl rfl rfl (by omega) (isw_of (hA (by omega)))) ?_;refine okT_many (by kernel_rfl) (all_cons (at_m (i := 9) rfl rfl rfl rfl rfl (by exact ms_ps (by exact ps_loadsF (α := Ent) (l := D) (i := j - 1) rfl rfl (rds_row 0 rfl) rfl rfl (by omega) rfl)) (fun y w _ h => by exact h.sel [] (by decide) rfl (fun _ h => h)) ?_) (all_cons (at_m (i := 13) rfl rfl rfl rfl rfl (by exact ms_ps (by exact ps_loadsF (α := Ent) (l := D) (i := j) rfl rfl (rds_row 0 rfl) rfl rfl (by omega) rfl)) (fun y w _ h => by exact h.sel [] (by decide) rfl (fun _ h => h)) ?_) all_nil));(focus (rintro y46 hy46;refine Xo 13 rfl (by exact ms_ps (by exact ps_loadsF (α := Ent) (l := D) (i := j) rfl rfl (rds_row 0 rfl) rfl rfl (by omega) rfl)) (fun y w _ h => by exact h.sel [] (by decide) rfl (fun _ h => h)) ?_;rintro y50 hy50;refine Xt 14 rfl (by exact ps_indexN rfl rfl rfl (by omega) (isw_of (hA (by omega)))) ?_;refine okT_one0 (i := 15) rfl rfl (by kernel_rfl) rfl rfl (by exact ms_setw (α := Ent) 0 j (nth D (j - 1)) rfl rfl rfl rfl rfl rfl rfl rfl rfl (by omega)) (fun y w _ h => by exact h.sel [] (by decide) rfl (fun _ h => h)) ?_;rintro y_ hy_;refine okT_done (by kernel_rfl) ?_;refine Zq (by exact ps_indexN rfl rfl rfl (by omega) (isw_of (hA (by omega)))) ?_;refine Zo (by exact ms_setw (α := Ent) 0 (j - 1) (nth D j) rfl rfl rfl rfl rfl rfl rfl rfl rfl (by rw [List.length_set];omega)) ?_;rintro y_ hy_;refine Ze6 0 1 2 3 8 9 ?_;exact hk));(focus (rintro y50 hy50;refine Xo 9 rfl (by exact ms_ps (by exact ps_loadsF (α := Ent) (l := D) (i := j - 1) rfl rfl (rds_row 0 rfl) rfl rfl (by omega) rfl)) (fun y w _ h => by exact h.sel [] (by decide) rfl (fun _ h => h)) ?_;rintro y46 hy46;refine Xt 14 rfl (by exact ps_indexN rfl rfl rfl (by omega) (isw_of (hA (by omega)))) ?_;refine okT_one0 (i := 15) rfl rfl (by kernel_rfl) rfl rfl (by exact ms_setw (α := Ent) 0 j (nth D (j - 1)) rfl rfl rfl rfl rfl rfl rfl rfl rfl (by omega)) (fun y w _ h => by exact h.sel [] (by decide) rfl (fun _ h => h)) ?_;rintro y_ hy_;refine okT_done (by kernel_rfl) ?_;refine Zq (by exact ps_indexN rfl rfl rfl (by omega) (isw_of (hA (by omega)))) ?_;refine Zo (by exact ms_setw (α := Ent) 0 (j - 1) (nth D j) rfl rfl rfl rfl rfl rfl rfl rfl rfl (by rw [List.length_set];omega)) ?_;rintro y_ hy_;refine Ze6 0 1 2 3 8 9 ?_;exact hk))))))
    all_goals rw [cmpE_lt] at hc
    · simp only [Bool.and_eq_true,decide_eq_true_eq] at hc
      exact fun ac w' he hw => ⟨⟨swapL D j (j - 1),j - 1,dwn_step (by omega) OK.out (by omega) hc.2⟩,by simp only;omega,he.sub ⟨rfl,rfl,rfl,rfl,rfl,rfl,trivial⟩,hw⟩
    · have he1 : j = a ∨ aheadE (nth D j) (nth D (j - 1)) = false := by
        rw [Bool.and_eq_false_iff,decide_eq_false_iff_not] at hc
        rcases hc with h | h
        · left;omega
        · exact .inr h
      exact fun ac w' he hw => ⟨⟨D,i + 1,by omega,SEG.out.trans (OK.out.seg.wide (Nat.le_refl _) (by omega)),dwn_end OK.out he1⟩,by simp only;omega,he.sub ⟨rfl,rfl,rfl,rfl,rfl,trivial⟩,hw⟩
  · refine ok_endN (K := .normal) (ok_endL (vs := []) rfl trivial (fun w' hw => ⟨yM C w,rfl,?_,?_⟩))
    · rw [rM_yM];exact ⟨seg,srt_sub srt (Nat.le_refl _) (by omega)⟩
    · rw [rM_yM];exact hw
end Go.Proofs.YtmfojbidojjciaaGreat
namespace Go.Proofs.YtmfojbidojjciaaGreat
open Go.RowKit
set_option maxHeartbeats 8000000
attribute [local irreducible] Calls
theorem rot_triv {L : List Ent} {a m b : Nat} (h : a = m ∨ m = b) (h2 : a ≤ m ∧ m ≤ b) (hb : b ≤ L.length) : rotL L a m b = L := nth_ext (rotL_len _ _ _ _) fun k hk => by
  rw [rotL_len] at hk
  rw [rotL_nth hk]
  repeat' split
  all_goals first
    | rfl
    | omega
    | (congr 1;omega)
theorem rot_up {L : List Ent} {a k : Nat} (h : k + 1 < L.length) (ha : a ≤ k) : swapL (rotL L a (a + 1) (k + 1)) k (k + 1) = rotL L a (a + 1) (k + 2) := nth_ext (by rw [swap_len,rotL_len,rotL_len]) fun q hq => by
  rw [swap_len,rotL_len] at hq
  rw [swap_nth (by rw [rotL_len];omega) (by rw [rotL_len];omega),rotL_nth (by omega),rotL_nth (by omega),rotL_nth hq,rotL_nth hq]
  repeat' split
  all_goals first
    | rfl
    | omega
    | (congr 1;omega)
theorem rot_dn {L : List Ent} {k m : Nat} (h : m < L.length) (h0 : 0 < k) (hk : k ≤ m) : swapL (rotL L k m (m + 1)) k (k - 1) = rotL L (k - 1) m (m + 1) := nth_ext (by rw [swap_len,rotL_len,rotL_len]) fun q hq => by
  rw [swap_len,rotL_len] at hq
  rw [swap_nth (by rw [rotL_len];omega) (by rw [rotL_len];omega),rotL_nth (by omega),rotL_nth (by omega),rotL_nth hq,rotL_nth hq]
  repeat' split
  all_goals first
    | rfl
    | omega
    | (congr 1;omega)
structure BsL (L : List Ent) (a m b : Nat) where
  i : Nat
  j : Nat
  h : m ≤ i ∧ i ≤ j ∧ j ≤ b
  lo : ∀ k,m ≤ k → k < i → aheadE (nth L k) (nth L a) = true
  hi : ∀ k,j ≤ k → k < b → leE (nth L a) (nth L k) = true
structure BsR (L : List Ent) (a m : Nat) where
  i : Nat
  j : Nat
  h : a ≤ i ∧ i ≤ j ∧ j ≤ m
  lo : ∀ k,a ≤ k → k < i → leE (nth L k) (nth L m) = true
  hi : ∀ k,j ≤ k → k < m → aheadE (nth L m) (nth L k) = true
structure BsM (L : List Ent) (s0 r0 p : Nat) where
  s : Nat
  r : Nat
  h : s0 ≤ s ∧ s ≤ r ∧ r ≤ r0
  lo : s0 < s → leE (nth L (s - 1)) (nth L (p - (s - 1))) = true
  hi : r < r0 → aheadE (nth L (p - r)) (nth L r) = true
theorem nle_of {a b : Ent} (h : aheadE a b = false) : leE b a = true := by unfold leE;rw [h];rfl
theorem sym_found {L : List Ent} {a m b s0 r0 s : Nat} (ham : a < m) (hmb : m < b) (h0 : (m > (a + b) / 2 ∧ s0 = (a + b) / 2 + m - b ∧ r0 = (a + b) / 2) ∨ (¬ m > (a + b) / 2 ∧ s0 = a ∧ r0 = m)) (hs : s0 ≤ s ∧ s ≤ r0)
    (lo : s0 < s → leE (nth L (s - 1)) (nth L ((a + b) / 2 + m - 1 - (s - 1))) = true) (hi : s < r0 → aheadE (nth L ((a + b) / 2 + m - 1 - s)) (nth L s) = true) : SymS L a m b s ((a + b) / 2 + m - s) := by
  refine ⟨by omega,by omega,fun h1 h2 => ?_,fun h1 h2 => ?_⟩
  · have := lo (by omega)
    rw [show (a + b) / 2 + m - 1 - (s - 1) = (a + b) / 2 + m - s by omega] at this
    exact this
  · have := hi (by omega)
    rw [show (a + b) / 2 + m - 1 - s = (a + b) / 2 + m - s - 1 by omega] at this
    exact this
theorem sym_fin {L L1 M N : List Ent} {a s d e b : Nat} (F : SegE L L1 a b ∧ srtIn L1 a s ∧ srtIn L1 s d ∧ srtIn L1 d e ∧ srtIn L1 e b ∧ ∀ i j,a ≤ i → i < d → d ≤ j → j < b → leE (nth L1 i) (nth L1 j) = true) (h1 : (SegE L1 M a d ∧ srtIn M a d) ∨ (M = L1 ∧ (a = s ∨ s = d) ∧ a ≤ d)) (h2 : (SegE M N d b ∧ srtIn N d b) ∨ (N = M ∧ (d = e ∨ e = b) ∧ d ≤ b)) (had : a ≤ d ∧ d ≤ b := by omega) : SegE L N a b ∧ srtIn N a b := by
  obtain ⟨f0,f1,f2,f3,f4,f5⟩ := F
  have g1 : SegE L1 M a d ∧ srtIn M a d := by
    rcases h1 with h | ⟨rfl,h | h,_⟩
    · exact h
    · subst h;exact ⟨SegE.refl _ _ _,f2⟩
    · subst h;exact ⟨SegE.refl _ _ _,f1⟩
  have g2 : SegE M N d b ∧ srtIn N d b := by
    rcases h2 with h | ⟨rfl,h | h,_⟩
    · exact h
    · subst h;exact ⟨SegE.refl _ _ _,srt_out g1.1 f4 (.inr (Nat.le_refl _))⟩
    · subst h;exact ⟨SegE.refl _ _ _,srt_out g1.1 f3 (.inr (Nat.le_refl _))⟩
  obtain ⟨q1,q2⟩ := sym_end g1.1 g2.1 g1.2 g2.2 f5 had
  exact ⟨f0.trans q1,q2⟩
theorem symM_c (A : Option Addr) (n c : Nat) (hl : n ≤ 4194304) : ∀ (d a m b : Nat) (L : List Ent) (hd : b - a ≤ d) (hn : L.length = n) (ham : a < m) (hmb : m < b) (hbn : b ≤ n) (s1 : srtIn L a m) (s2 : srtIn L m b) {base : Nat} {w0 w : World} {H : List HObj} {G : List World} (hw : WOk base w0 (rwE A n c L :: H) G w),
    Calls Tryz.prog 327 #[.slice A n c,.int .i64 a,.int .i64 m,.int .i64 b,cmpV] w fun e w' => ∃ y : Ys,e = .returned (.tuple #[]) ∧ (SegE L (rM y) a b ∧ srtIn (rM y) a b) ∧ WOk base w0 (rwE A n c (rM y) :: H) G w'
  | 0,a,m,b,L,hd,hn,ham,hmb,hbn,s1,s2,base,w0,w,H,G,hw => by omega
  | d + 1,a,m,b,L,hd,hn,ham,hmb,hbn,s1,s2,base,w0,w,H,G,hw => by
    have ih := Lib.hid (symM_c A n c hl d)
    have hA : 0 < n → IsS A := fun h => isS_own (hw.own _ List.mem_cons_self) h
    have S1 := Lib.hid s1;clear s1
    have S2 := Lib.hid s2;clear s2
    refine ok_enterW 220 Tryz.func327 rfl rfl rfl hw ?_
    repeat' (first|refine Wa ?_|refine Wb ?_|refine Wd ?_|(refine ok_cond rfl (fun hc => ?_) (fun hc => ?_) <;> (have hd := hc;try simp only [jj] at hd))|refine Wi ?_|(refine Zr 0 ?_;refine Zm ?_;refine Zm ?_;refine Zq (by exact ps_sub rfl rfl rfl (by omega)) ?_;refine Zi ?_;refine Ze6 0 1 2 3 4 28 ?_)|(refine Zr 1 ?_;refine Zm ?_;refine Za ?_;refine Ze5 0 1 3 4 10 ?_)|(refine Zr 2 ?_;refine Zm ?_;refine Za ?_;refine Ze5 0 1 4 10 11 ?_)|(refine Zr 12 ?_;refine Zm ?_;refine Zm ?_;refine Zq (by exact ps_sub rfl rfl rfl (by omega)) ?_;refine Zi ?_;refine Ze6 0 1 2 3 4 80 ?_)|(refine Zr 13 ?_;refine Zm ?_;refine Za ?_;refine Ze4 0 2 4 14 ?_)|(refine Zr 14 ?_;refine Zm ?_;refine Za ?_;refine Ze5 0 2 4 14 15 ?_)|(refine Zr 24 ?_;refine Zm ?_;refine Zm ?_;refine Zq (by exact ps_add rfl rfl rfl (by omega)) ?_;refine Zq (by exact ps_conv_id rfl rfl (IntWalk.u64_in _ (by omega))) ?_;refine Zq (ps_half rfl rfl) ?_;refine Zq (by exact ps_conv_id rfl rfl (IntWalk.i64_in _ (by omega))) ?_;refine Za ?_;refine Ze6 0 1 2 3 4 18 ?_)|(refine Zr 25 ?_;refine Zm ?_;refine Zm ?_;refine Zq (by exact ps_cast (v' := .int .i64 (((a + b) / 2 + m : Nat) : Int)) (ps_add rfl rfl rfl (by omega)) (by push_cast;rfl)) ?_;refine Za ?_;refine Ze7 0 1 2 3 4 18 19 ?_)|(refine Zr 26 ?_;refine Za ?_;refine Za ?_;refine Ze7 0 1 2 3 4 18 19 ?_)|(refine Zr 27 ?_;refine Zm ?_;refine Zm ?_;refine Zi ?_;refine Ze8 0 1 2 3 4 18 19 140 ?_)|(refine Zr 28 ?_;refine Zm ?_;refine Zm ?_;refine Zq (by exact ps_cast (v' := .int .i64 (((a + b) / 2 + m - b : Nat) : Int)) (ps_sub rfl rfl rfl (by omega)) (by congr 1;omega)) ?_;refine Za ?_;refine Ze8 0 1 2 3 4 18 19 20 ?_)|(refine Zr 29 ?_;refine Zm ?_;refine Za ?_;refine Ze9 0 1 2 3 4 18 19 20 21 ?_)|(refine Zr 30 ?_;refine Zm ?_;refine Za ?_;refine Ze8 0 1 2 3 4 18 19 20 ?_)|(refine Zr 31 ?_;refine Zm ?_;refine Za ?_;refine Ze9 0 1 2 3 4 18 19 20 21 ?_)|(refine Zr 32 ?_;refine Zm ?_;refine Zq (by exact ps_cast (v' := .int .i64 (((a + b) / 2 + m - 1 : Nat) : Int)) (ps_sub rfl rfl rfl (by omega)) (by congr 1;omega)) ?_;refine Za ?_;refine Ze10 0 1 2 3 4 18 19 20 21 22 ?_))
    · obtain rfl : m = a + 1 := by omega
      clear hc hd
      refine ok_loop (ι := BsL L a (a + 1) b) (fun q => q.j - q.i) (fun q => ([(0,.slice A n c),(1,.int .i64 a),(4,cmpV),(10,.int .i64 q.i),(11,.int .i64 q.j)],rwE A n c L :: H,_)) ⟨a + 1,b,by omega,fun k k1 k2 => by omega,fun k k1 k2 => by omega⟩ (fun ac w he hw => ⟨⟨a + 1,b,by omega,fun k k1 k2 => by omega,fun k k1 k2 => by omega⟩,he.sub ⟨rfl,rfl,rfl,rfl,rfl,trivial⟩,hw⟩) ?_
      rintro ⟨i,j,hij,lo,hi⟩
      simp only at hij ⊢
      have LO := Lib.hid lo;clear lo
      have HI := Lib.hid hi;clear hi
      repeat' (first|refine Wa ?_|refine Wb ?_|refine Wd ?_|refine We ?_|(refine ok_cond rfl (fun hc => ?_) (fun hc => ?_) <;> (have hd := hc;try simp only [jj] at hd))|refine Wh ?_|refine Wi ?_|(refine Zr 3 ?_;refine Zm ?_;refine Zm ?_;refine Zi ?_;refine Ze6 0 1 4 10 11 33 ?_)|(refine Zr 4 ?_;refine Zm ?_;refine Zm ?_;refine Zq (by exact ps_add rfl rfl rfl (by omega)) ?_;refine Zq (by exact ps_conv_id rfl rfl (IntWalk.u64_in _ (by omega))) ?_;refine Zq (ps_half rfl rfl) ?_;refine Zq (by exact ps_conv_id rfl rfl (IntWalk.i64_in _ (by omega))) ?_;refine Za ?_;refine Ze6 0 1 4 10 11 12 ?_)|(refine ok_draw (id := 5) 11 rfl (by kernel_rfl) (by kernel_rfl) rfl (by repeat (first | exact pq_body | refine pq_then ?_ | refine pq_in ?_)) [0] (by decide) rfl ?_;refine Xm 0 ?_;refine Xm 1 ?_;refine Xm 2 ?_;refine Xt 3 rfl (by exact ps_indexN rfl rfl rfl (by omega) (by exact isw_row 0 rfl (by omega))) ?_;refine Xt 4 rfl (by exact ps_loadsF rfl rfl (by exact rds_row 0 rfl) (by rfl) (by rfl) (by omega) rfl) ?_;refine Xm 5 ?_;refine Xm 6 ?_;refine Xt 7 rfl (by exact ps_indexN rfl rfl rfl (by omega) (by exact isw_row 0 rfl (by omega))) ?_;refine Xt 8 rfl (by exact ps_loadsF rfl rfl (by exact rds_row 0 rfl) (by rfl) (by rfl) (by omega) rfl) ?_;refine Xo 9 rfl (by exact ms_v2 rfl rfl rfl rfl (fun _ _ w hw => compareEnts_c (nth L ((i + j) / 2)) (nth L a) w)) (fun y w _ h => by exact h.sel [0] (by decide) rfl (fun _ h => h)) ?_;rintro y49 hy49;refine Xt 10 rfl (ps_int rfl rfl rfl rfl) ?_;refine okT_done (by kernel_rfl) ?_;refine Ze7 0 1 4 10 11 12 50 ?_)|(refine Zr 6 ?_;refine Zm ?_;refine Zq (by exact ps_add rfl rfl rfl (by omega)) ?_;refine Za ?_;refine Ze5 0 1 4 10 11 ?_)|(refine Zr 7 ?_;refine Zm ?_;refine Za ?_;refine Ze5 0 1 4 10 11 ?_)|(refine Zr 8 ?_;refine Zm ?_;refine Za ?_;refine Ze3 0 10 13 ?_))
      · rw [cmpE_lt] at hc
        refine fun ac w' he hw => ⟨⟨(i + j) / 2 + 1,j,by omega,fun k k1 k2 => ?_,fun k k1 k2 => HI.out k k1 k2⟩,by simp only;omega,he.sub ⟨rfl,rfl,rfl,rfl,rfl,trivial⟩,hw⟩
        exact le_lt (srt_at S2.out k1 (by omega) (by omega)) hc
      · rw [cmpE_lt] at hc
        refine fun ac w' he hw => ⟨⟨i,(i + j) / 2,by omega,fun k k1 k2 => LO.out k k1 k2,fun k k1 k2 => ?_⟩,by simp only;omega,he.sub ⟨rfl,rfl,rfl,rfl,rfl,trivial⟩,hw⟩
        exact leE_trans (nle_of hc) (srt_at S2.out (by omega) k1 k2)
      have hij2 : i = j := by omega
      subst hij2
      clear hc hd
      refine ok_loop (ι := { k : Nat // a ≤ k ∧ k + 1 ≤ i }) (fun k => i - k.1) (fun k => ([(0,.slice A n c),(10,.int .i64 i),(13,.int .i64 k.1)],rwE A n c (rotL L a (a + 1) (k.1 + 1)) :: H,_)) ⟨a,by omega⟩ (fun ac w he hw => ⟨⟨a,by omega⟩,he.sub ⟨rfl,rfl,rfl,trivial⟩,by simp only;rw [rot_triv (.inr rfl) (by omega) (by omega)];exact hw⟩) ?_
      rintro ⟨k,hk1,hk2⟩
      simp only at hk1 hk2 ⊢
      have hup := rot_up (L := L) (a := a) (k := k)
      have HU := Lib.hid hup;clear hup
      have hcl : (rotL L a (a + 1) (k + 1)).length = n := by rw [rotL_len];exact hn
      generalize hC : rotL L a (a + 1) (k + 1) = C at hcl HU ⊢
      repeat' (first|refine Wa ?_|refine Wb ?_|refine Wc ?_|refine ok_then_exit ?_|refine Wd ?_|refine We ?_|refine ok_in_exit ?_|(refine ok_cond rfl (fun hc => ?_) (fun hc => ?_) <;> (have hd := hc;try simp only [jj] at hd))|refine Wg ?_|refine Wh ?_|refine Wi ?_|(refine Zr 9 ?_;refine Zm ?_;refine Zm ?_;refine Zq (by exact ps_sub rfl rfl rfl (by omega)) ?_;refine Zi ?_;refine Ze4 0 10 13 58 ?_)|(refine Zr 10 ?_;refine Zm ?_;refine Zq (by exact ps_add rfl rfl rfl (by omega)) ?_;refine Za ?_;refine Ze3 0 10 13 ?_)|(apply mrg0;(focus (intro hk;refine ok_draw (id := 11) 16 rfl (by kernel_rfl) (by kernel_rfl) rfl (by repeat (first | exact pq_body | refine pq_then ?_ | refine pq_in ?_)) [] (by decide) rfl ?_;refine Xm 0 ?_;refine Xm 1 ?_;refine Xm 2 ?_;refine Xm 3 ?_;refine Xt 4 rfl (by exact ps_cast (v' := .int .i64 ((k + 1 : Nat) : Int)) (ps_add rfl rfl rfl (by omega)) (by push_cast;rfl)) ?_;refine Xm 5 ?_;refine Xm 6 ?_;refine Xt 7 rfl (by exact ps_cast (v' := .int .i64 ((k + 1 : Nat) : Int)) (ps_add rfl rfl rfl (by omega)) (by push_cast;rfl)) ?_;refine Xt 8 rfl (by exact ps_indexN rfl rfl rfl (by omega) (isw_of (hA (by omega)))) ?_;refine Xm 10 ?_;refine Xm 11 ?_;refine Xt 12 rfl (by exact ps_indexN rfl rfl rfl (by omega) (isw_of (hA (by omega)))) ?_;refine okT_many (by kernel_rfl) (all_cons (at_m (i := 9) rfl rfl rfl rfl rfl (by exact ms_ps (by exact ps_loadsF (α := Ent) (l := C) (i := k + 1) rfl rfl (rds_row 0 rfl) rfl rfl (by omega) rfl)) (fun y w _ h => by exact h.sel [] (by decide) rfl (fun _ h => h)) ?_) (all_cons (at_m (i := 13) rfl rfl rfl rfl rfl (by exact ms_ps (by exact ps_loadsF (α := Ent) (l := C) (i := k) rfl rfl (rds_row 0 rfl) rfl rfl (by omega) rfl)) (fun y w _ h => by exact h.sel [] (by decide) rfl (fun _ h => h)) ?_) all_nil));(focus (rintro y70 hy70;refine Xo 13 rfl (by exact ms_ps (by exact ps_loadsF (α := Ent) (l := C) (i := k) rfl rfl (rds_row 0 rfl) rfl rfl (by omega) rfl)) (fun y w _ h => by exact h.sel [] (by decide) rfl (fun _ h => h)) ?_;rintro y74 hy74;refine Xt 14 rfl (by exact ps_indexN rfl rfl rfl (by omega) (isw_of (hA (by omega)))) ?_;refine okT_one0 (i := 15) rfl rfl (by kernel_rfl) rfl rfl (by exact ms_setw (α := Ent) 0 k (nth C (k + 1)) rfl rfl rfl rfl rfl rfl rfl rfl rfl (by omega)) (fun y w _ h => by exact h.sel [] (by decide) rfl (fun _ h => h)) ?_;rintro y_ hy_;refine okT_done (by kernel_rfl) ?_;refine Zq (by exact ps_indexN rfl rfl rfl (by omega) (isw_of (hA (by omega)))) ?_;refine Zo (by exact ms_setw (α := Ent) 0 (k + 1) (nth C k) rfl rfl rfl rfl rfl rfl rfl rfl rfl (by rw [List.length_set];omega)) ?_;rintro y_ hy_;refine Ze3 0 10 13 ?_;exact hk));(focus (rintro y74 hy74;refine Xo 9 rfl (by exact ms_ps (by exact ps_loadsF (α := Ent) (l := C) (i := k + 1) rfl rfl (rds_row 0 rfl) rfl rfl (by omega) rfl)) (fun y w _ h => by exact h.sel [] (by decide) rfl (fun _ h => h)) ?_;rintro y70 hy70;refine Xt 14 rfl (by exact ps_indexN rfl rfl rfl (by omega) (isw_of (hA (by omega)))) ?_;refine okT_one0 (i := 15) rfl rfl (by kernel_rfl) rfl rfl (by exact ms_setw (α := Ent) 0 k (nth C (k + 1)) rfl rfl rfl rfl rfl rfl rfl rfl rfl (by omega)) (fun y w _ h => by exact h.sel [] (by decide) rfl (fun _ h => h)) ?_;rintro y_ hy_;refine okT_done (by kernel_rfl) ?_;refine Zq (by exact ps_indexN rfl rfl rfl (by omega) (isw_of (hA (by omega)))) ?_;refine Zo (by exact ms_setw (α := Ent) 0 (k + 1) (nth C k) rfl rfl rfl rfl rfl rfl rfl rfl rfl (by rw [List.length_set];omega)) ?_;rintro y_ hy_;refine Ze3 0 10 13 ?_;exact hk))))))
      · refine fun ac w' he hw => ⟨⟨k + 1,by omega⟩,by simp only;omega,he.sub ⟨rfl,rfl,rfl,trivial⟩,?_⟩
        simp only
        rw [← HU.out (by omega) (by omega)]
        exact hw
      · obtain rfl : k + 1 = i := by omega
        obtain ⟨g1,g2⟩ := ins_left (L := L) (a := a) (i := k + 1) (b := b) (by omega) (by omega) S2.out (fun q q1 q2 => LO.out q q1 q2) (fun q q1 q2 => HI.out q q1 q2)
        rw [hC] at g1 g2
        refine ok_endL (vs := []) rfl trivial (fun w' hw => ⟨yM C w,rfl,?_,?_⟩)
        · rw [rM_yM];exact ⟨g1,g2⟩
        · rw [rM_yM];exact hw
    · obtain rfl : b = m + 1 := by omega
      clear hc hd
      refine ok_loop (ι := BsR L a m) (fun q => q.j - q.i) (fun q => ([(0,.slice A n c),(2,.int .i64 m),(4,cmpV),(14,.int .i64 q.i),(15,.int .i64 q.j)],rwE A n c L :: H,_)) ⟨a,m,by omega,fun k k1 k2 => by omega,fun k k1 k2 => by omega⟩ (fun ac w he hw => ⟨⟨a,m,by omega,fun k k1 k2 => by omega,fun k k1 k2 => by omega⟩,he.sub ⟨rfl,rfl,rfl,rfl,rfl,trivial⟩,hw⟩) ?_
      rintro ⟨i,j,hij,lo,hi⟩
      simp only at hij ⊢
      have LO := Lib.hid lo;clear lo
      have HI := Lib.hid hi;clear hi
      repeat' (first|refine Wa ?_|refine Wb ?_|refine Wd ?_|refine We ?_|(refine ok_cond rfl (fun hc => ?_) (fun hc => ?_) <;> (have hd := hc;try simp only [jj] at hd))|refine Wh ?_|refine Wi ?_|(refine Zr 15 ?_;refine Zm ?_;refine Zm ?_;refine Zi ?_;refine Ze6 0 2 4 14 15 85 ?_)|(refine Zr 16 ?_;refine Zm ?_;refine Zm ?_;refine Zq (by exact ps_add rfl rfl rfl (by omega)) ?_;refine Zq (by exact ps_conv_id rfl rfl (IntWalk.u64_in _ (by omega))) ?_;refine Zq (ps_half rfl rfl) ?_;refine Zq (by exact ps_conv_id rfl rfl (IntWalk.i64_in _ (by omega))) ?_;refine Za ?_;refine Ze6 0 2 4 14 15 16 ?_)|(refine ok_draw (id := 17) 12 rfl (by kernel_rfl) (by kernel_rfl) rfl (by repeat (first | exact pq_body | refine pq_then ?_ | refine pq_in ?_)) [0] (by decide) rfl ?_;refine Xm 0 ?_;refine Xm 1 ?_;refine Xm 2 ?_;refine Xt 3 rfl (by exact ps_indexN rfl rfl rfl (by omega) (by exact isw_row 0 rfl (by omega))) ?_;refine Xt 4 rfl (by exact ps_loadsF rfl rfl (by exact rds_row 0 rfl) (by rfl) (by rfl) (by omega) rfl) ?_;refine Xm 5 ?_;refine Xm 6 ?_;refine Xt 7 rfl (by exact ps_indexN rfl rfl rfl (by omega) (by exact isw_row 0 rfl (by omega))) ?_;refine Xt 8 rfl (by exact ps_loadsF rfl rfl (by exact rds_row 0 rfl) (by rfl) (by rfl) (by omega) rfl) ?_;refine Xo 9 rfl (by exact ms_v2 rfl rfl rfl rfl (fun _ _ w hw => compareEnts_c (nth L m) (nth L ((i + j) / 2)) w)) (fun y w _ h => by exact h.sel [0] (by decide) rfl (fun _ h => h)) ?_;rintro y101 hy101;refine Xt 10 rfl (ps_int rfl rfl rfl rfl) ?_;refine Xt 11 rfl (ps_not rfl rfl) ?_;refine okT_done (by kernel_rfl) ?_;refine Ze7 0 2 4 14 15 16 103 ?_)|(refine Zr 18 ?_;refine Zm ?_;refine Zq (by exact ps_add rfl rfl rfl (by omega)) ?_;refine Za ?_;refine Ze5 0 2 4 14 15 ?_)|(refine Zr 19 ?_;refine Zm ?_;refine Za ?_;refine Ze5 0 2 4 14 15 ?_)|(refine Zr 20 ?_;refine Zm ?_;refine Za ?_;refine Ze3 0 14 17 ?_))
      · rw [cmpE_lt] at hc
        have hc' : aheadE (nth L m) (nth L ((i + j) / 2)) = false := by simpa using hc
        refine fun ac w' he hw => ⟨⟨(i + j) / 2 + 1,j,by omega,fun k k1 k2 => ?_,fun k k1 k2 => HI.out k k1 k2⟩,by simp only;omega,he.sub ⟨rfl,rfl,rfl,rfl,rfl,trivial⟩,hw⟩
        exact leE_trans (srt_at S1.out k1 (by omega) (by omega)) (nle_of hc')
      · rw [cmpE_lt] at hc
        have hc' : aheadE (nth L m) (nth L ((i + j) / 2)) = true := by simpa using hc
        refine fun ac w' he hw => ⟨⟨i,(i + j) / 2,by omega,fun k k1 k2 => LO.out k k1 k2,fun k k1 k2 => ?_⟩,by simp only;omega,he.sub ⟨rfl,rfl,rfl,rfl,rfl,trivial⟩,hw⟩
        exact lt_le_lt hc' (srt_at S1.out (by omega) k1 k2)
      have hij2 : i = j := by omega
      subst hij2
      clear hc hd
      refine ok_loop (ι := { k : Nat // i ≤ k ∧ k ≤ m }) (fun k => k.1) (fun k => ([(0,.slice A n c),(14,.int .i64 i),(17,.int .i64 k.1)],rwE A n c (rotL L k.1 m (m + 1)) :: H,_)) ⟨m,by omega⟩ (fun ac w he hw => ⟨⟨m,by omega⟩,he.sub ⟨rfl,rfl,rfl,trivial⟩,by simp only;rw [rot_triv (.inl rfl) (by omega) (by omega)];exact hw⟩) ?_
      rintro ⟨k,hk1,hk2⟩
      simp only at hk1 hk2 ⊢
      have hup := rot_dn (L := L) (k := k) (m := m)
      have HU := Lib.hid hup;clear hup
      have hcl : (rotL L k m (m + 1)).length = n := by rw [rotL_len];exact hn
      generalize hC : rotL L k m (m + 1) = C at hcl HU ⊢
      repeat' (first|refine Wa ?_|refine Wb ?_|refine Wc ?_|refine ok_then_exit ?_|refine Wd ?_|refine We ?_|refine ok_in_exit ?_|(refine ok_cond rfl (fun hc => ?_) (fun hc => ?_) <;> (have hd := hc;try simp only [jj] at hd))|refine Wg ?_|refine Wh ?_|refine Wi ?_|(refine Zr 21 ?_;refine Zm ?_;refine Zm ?_;refine Zi ?_;refine Ze4 0 14 17 110 ?_)|(refine Zr 22 ?_;refine Zm ?_;refine Zq (by exact ps_cast (v' := .int .i64 ((k - 1 : Nat) : Int)) (ps_sub rfl rfl rfl (by omega)) (by congr 1;omega)) ?_;refine Za ?_;refine Ze3 0 14 17 ?_)|(apply mrg0;(focus (intro hk;refine ok_draw (id := 23) 16 rfl (by kernel_rfl) (by kernel_rfl) rfl (by repeat (first | exact pq_body | refine pq_then ?_ | refine pq_in ?_)) [] (by decide) rfl ?_;refine Xm 0 ?_;refine Xm 1 ?_;refine Xm 2 ?_;refine Xm 3 ?_;refine Xt 4 rfl (by exact ps_cast (v' := .int .i64 ((k - 1 : Nat) : Int)) (ps_sub rfl rfl rfl (by omega)) (by congr 1;omega)) ?_;refine Xm 5 ?_;refine Xm 6 ?_;refine Xt 7 rfl (by exact ps_cast (v' := .int .i64 ((k - 1 : Nat) : Int)) (ps_sub rfl rfl rfl (by omega)) (by congr 1;omega)) ?_;refine Xt 8 rfl (by exact ps_indexN rfl rfl rfl (by omega) (isw_of (hA (by omega)))) ?_;refine Xm 10 ?_;refine Xm 11 ?_;refine Xt 12 rfl (by exact ps_indexN rfl rfl rfl (by omega) (isw_of (hA (by omega)))) ?_;refine okT_many (by kernel_rfl) (all_cons (at_m (i := 9) rfl rfl rfl rfl rfl (by exact ms_ps (by exact ps_loadsF (α := Ent) (l := C) (i := k - 1) rfl rfl (rds_row 0 rfl) rfl rfl (by omega) rfl)) (fun y w _ h => by exact h.sel [] (by decide) rfl (fun _ h => h)) ?_) (all_cons (at_m (i := 13) rfl rfl rfl rfl rfl (by exact ms_ps (by exact ps_loadsF (α := Ent) (l := C) (i := k) rfl rfl (rds_row 0 rfl) rfl rfl (by omega) rfl)) (fun y w _ h => by exact h.sel [] (by decide) rfl (fun _ h => h)) ?_) all_nil));(focus (rintro y122 hy122;refine Xo 13 rfl (by exact ms_ps (by exact ps_loadsF (α := Ent) (l := C) (i := k) rfl rfl (rds_row 0 rfl) rfl rfl (by omega) rfl)) (fun y w _ h => by exact h.sel [] (by decide) rfl (fun _ h => h)) ?_;rintro y126 hy126;refine Xt 14 rfl (by exact ps_indexN rfl rfl rfl (by omega) (isw_of (hA (by omega)))) ?_;refine okT_one0 (i := 15) rfl rfl (by kernel_rfl) rfl rfl (by exact ms_setw (α := Ent) 0 k (nth C (k - 1)) rfl rfl rfl rfl rfl rfl rfl rfl rfl (by omega)) (fun y w _ h => by exact h.sel [] (by decide) rfl (fun _ h => h)) ?_;rintro y_ hy_;refine okT_done (by kernel_rfl) ?_;refine Zq (by exact ps_indexN rfl rfl rfl (by omega) (isw_of (hA (by omega)))) ?_;refine Zo (by exact ms_setw (α := Ent) 0 (k - 1) (nth C k) rfl rfl rfl rfl rfl rfl rfl rfl rfl (by rw [List.length_set];omega)) ?_;rintro y_ hy_;refine Ze3 0 14 17 ?_;exact hk));(focus (rintro y126 hy126;refine Xo 9 rfl (by exact ms_ps (by exact ps_loadsF (α := Ent) (l := C) (i := k - 1) rfl rfl (rds_row 0 rfl) rfl rfl (by omega) rfl)) (fun y w _ h => by exact h.sel [] (by decide) rfl (fun _ h => h)) ?_;rintro y122 hy122;refine Xt 14 rfl (by exact ps_indexN rfl rfl rfl (by omega) (isw_of (hA (by omega)))) ?_;refine okT_one0 (i := 15) rfl rfl (by kernel_rfl) rfl rfl (by exact ms_setw (α := Ent) 0 k (nth C (k - 1)) rfl rfl rfl rfl rfl rfl rfl rfl rfl (by omega)) (fun y w _ h => by exact h.sel [] (by decide) rfl (fun _ h => h)) ?_;rintro y_ hy_;refine okT_done (by kernel_rfl) ?_;refine Zq (by exact ps_indexN rfl rfl rfl (by omega) (isw_of (hA (by omega)))) ?_;refine Zo (by exact ms_setw (α := Ent) 0 (k - 1) (nth C k) rfl rfl rfl rfl rfl rfl rfl rfl rfl (by rw [List.length_set];omega)) ?_;rintro y_ hy_;refine Ze3 0 14 17 ?_;exact hk))))))
      · refine fun ac w' he hw => ⟨⟨k - 1,by omega⟩,by simp only;omega,he.sub ⟨rfl,rfl,rfl,trivial⟩,?_⟩
        simp only
        rw [← HU.out (by omega) (by omega) (by omega)]
        exact hw
      · obtain rfl : k = i := by omega
        obtain ⟨g1,g2⟩ := ins_right (L := L) (a := a) (i := k) (m := m) (by omega) (by omega) S1.out (fun q q1 q2 => LO.out q q1 q2) (fun q q1 q2 => HI.out q q1 q2)
        rw [hC] at g1 g2
        refine ok_endL (vs := []) rfl trivial (fun w' hw => ⟨yM C w,rfl,?_,?_⟩)
        · rw [rM_yM];exact ⟨g1,g2⟩
        · rw [rM_yM];exact hw
    · have hmd : 2 * ((a + b) / 2) ≤ a + b ∧ a + b < 2 * ((a + b) / 2) + 2 := by omega
      have h0 : (m > (a + b) / 2 ∧ ((a + b) / 2 + m - b) = (a + b) / 2 + m - b ∧ ((a + b) / 2) = (a + b) / 2) ∨ (¬ m > (a + b) / 2 ∧ ((a + b) / 2 + m - b) = a ∧ ((a + b) / 2) = m) := by omega
      have hsf := fun s => sym_found (L := L) (a := a) (m := m) (b := b) (s0 := (a + b) / 2 + m - b) (r0 := (a + b) / 2) (s := s) ham hmb h0
      have HF := Lib.hid hsf;clear hsf
      have hst := fun s e q => sym_turn (L := L) (a := a) (m := m) (b := b) (s := s) (e := e) (by omega) ⟨by omega,by omega⟩ S1.out S2.out q
      have HT := Lib.hid hst;clear hst
      generalize hmid : (a + b) / 2 = d2 at hmd h0 HF HT ⊢
      generalize hs0 : d2 + m - b = s0 at h0 HF ⊢
      have hb0 : s0 ≤ d2 ∧ d2 ≤ m ∧ a ≤ s0 ∧ d2 + m - 1 < b + s0 ∧ d2 ≤ d2 + m - 1 := by omega
      clear hc hd
      refine ok_loop (ι := BsM L s0 d2 (d2 + m - 1)) (fun q => q.r - q.s) (fun q => ([(0,.slice A n c),(1,.int .i64 a),(2,.int .i64 m),(3,.int .i64 b),(4,cmpV),(18,.int .i64 d2),(19,.int .i64 ((d2 + m : Nat) : Int)),(20,.int .i64 q.s),(21,.int .i64 q.r),(22,.int .i64 ((d2 + m - 1 : Nat) : Int))],rwE A n c L :: H,_)) ⟨s0,d2,by omega,fun h => by omega,fun h => by omega⟩ (fun ac w he hw => ⟨⟨s0,d2,by omega,fun h => by omega,fun h => by omega⟩,he.sub ⟨rfl,rfl,rfl,rfl,rfl,rfl,rfl,rfl,rfl,rfl,trivial⟩,hw⟩) ?_
      rintro ⟨s,r,hsr,lo,hi⟩
      simp only at hsr ⊢
      have LO := Lib.hid lo;clear lo
      have HI := Lib.hid hi;clear hi
      have hend : s = r → SymS L a m b s (d2 + m - s) := fun e => by
        have h1 := LO.out
        have h2 := HI.out
        subst e
        exact HF.out s (by omega) h1 h2
      have hF : s = r → SegE L (rotL L s m (d2 + m - s)) a b ∧ srtIn (rotL L s m (d2 + m - s)) a s ∧ srtIn (rotL L s m (d2 + m - s)) s d2 ∧ srtIn (rotL L s m (d2 + m - s)) d2 (d2 + m - s) ∧ srtIn (rotL L s m (d2 + m - s)) (d2 + m - s) b ∧ ∀ i j,a ≤ i → i < d2 → d2 ≤ j → j < b → leE (nth (rotL L s m (d2 + m - s)) i) (nth (rotL L s m (d2 + m - s)) j) = true := fun e => HT.out s (d2 + m - s) (hend e)
      have F := Lib.hid hF;clear hF
      have F' : s = r → (s = m ∨ m = d2 + m - s) → SegE L L a b ∧ srtIn L a s ∧ srtIn L s d2 ∧ srtIn L d2 (d2 + m - s) ∧ srtIn L (d2 + m - s) b ∧ ∀ i j,a ≤ i → i < d2 → d2 ≤ j → j < b → leE (nth L i) (nth L j) = true := fun e h => by
        have := F.out e
        rwa [rot_triv h (by omega) (by omega)] at this
      have F' := Lib.hid F'
      clear hend
      repeat' (first|refine Wa ?_|refine Wb ?_|refine Wd ?_|refine We ?_|(refine ok_cond rfl (fun hc => ?_) (fun hc => ?_) <;> (have hd := hc;try simp only [jj] at hd))|refine Wh ?_|refine Wi ?_|(refine Zr 33 ?_;refine Zm ?_;refine Zm ?_;refine Zi ?_;refine Ze11 0 1 2 3 4 18 19 20 21 22 151 ?_)|(refine Zr 34 ?_;refine Zm ?_;refine Zm ?_;refine Zq (by exact ps_add rfl rfl rfl (by omega)) ?_;refine Zq (by exact ps_conv_id rfl rfl (IntWalk.u64_in _ (by omega))) ?_;refine Zq (ps_half rfl rfl) ?_;refine Zq (by exact ps_conv_id rfl rfl (IntWalk.i64_in _ (by omega))) ?_;refine Za ?_;refine Ze11 0 1 2 3 4 18 19 20 21 22 23 ?_)|(refine ok_draw (id := 35) 14 rfl (by kernel_rfl) (by kernel_rfl) rfl (by repeat (first | exact pq_body | refine pq_then ?_ | refine pq_in ?_)) [0] (by decide) rfl ?_;refine Xm 0 ?_;refine Xm 1 ?_;refine Xm 2 ?_;refine Xm 3 ?_;refine Xt 4 rfl (by exact ps_cast (v' := .int .i64 ((d2 + m - 1 - (s + r) / 2 : Nat) : Int)) (ps_sub rfl rfl rfl (by omega)) (by congr 1;omega)) ?_;refine Xt 5 rfl (by exact ps_indexN rfl rfl rfl (by omega) (by exact isw_row 0 rfl (by omega))) ?_;refine Xt 6 rfl (by exact ps_loadsF rfl rfl (by exact rds_row 0 rfl) (by rfl) (by rfl) (by omega) rfl) ?_;refine Xm 7 ?_;refine Xm 8 ?_;refine Xt 9 rfl (by exact ps_indexN rfl rfl rfl (by omega) (by exact isw_row 0 rfl (by omega))) ?_;refine Xt 10 rfl (by exact ps_loadsF rfl rfl (by exact rds_row 0 rfl) (by rfl) (by rfl) (by omega) rfl) ?_;refine Xo 11 rfl (by exact ms_v2 rfl rfl rfl rfl (fun _ _ w hw => compareEnts_c (nth L (d2 + m - 1 - (s + r) / 2)) (nth L ((s + r) / 2)) w)) (fun y w _ h => by exact h.sel [0] (by decide) rfl (fun _ h => h)) ?_;rintro y169 hy169;refine Xt 12 rfl (ps_int rfl rfl rfl rfl) ?_;refine Xt 13 rfl (ps_not rfl rfl) ?_;refine okT_done (by kernel_rfl) ?_;refine Ze12 0 1 2 3 4 18 19 20 21 22 23 171 ?_)|(refine Zr 36 ?_;refine Zm ?_;refine Zq (by exact ps_add rfl rfl rfl (by omega)) ?_;refine Za ?_;refine Ze10 0 1 2 3 4 18 19 20 21 22 ?_)|(refine Zr 37 ?_;refine Zm ?_;refine Za ?_;refine Ze10 0 1 2 3 4 18 19 20 21 22 ?_)|(refine Zr 38 ?_;refine Zm ?_;refine Zm ?_;refine Zq (by exact ps_cast (v' := .int .i64 ((d2 + m - s : Nat) : Int)) (ps_sub rfl rfl rfl (by omega)) (by congr 1;omega)) ?_;refine Za ?_;refine Ze8 0 1 2 3 4 18 20 24 ?_)|(refine Zr 39 ?_;refine Zm ?_;refine Zm ?_;refine Zi ?_;refine Zm ?_;refine Zg rfl rfl rfl (gT _) (fun hp => by exact ps_move rfl rfl) ?_;refine Zg rfl rfl rfl (gT _) (fun hp => by exact ps_move rfl rfl) ?_;refine Zg rfl rfl rfl (gT _) (fun hp => by (exact ps_int rfl (Og rfl) (Og rfl) rfl)) ?_;refine Zq (ps_and rfl rfl rfl) ?_;refine Ze9 0 1 2 3 4 18 20 24 185 ?_)|(refine Zr 40 ?_;refine Zm ?_;refine Zm ?_;refine Zm ?_;refine Zm ?_;refine Zm ?_;refine Zn (by exact ms_wr 0 rfl rfl rfl rfl (fun _ _ w hw => rotate_c A n c s m (d2 + m - s) L hn hl (by omega) (by omega) (by omega) hw)) ?_;rintro y191 hy191;refine Ze7 0 1 3 4 18 20 24 ?_)|(refine Zr 41 ?_;refine Zm ?_;refine Zm ?_;refine Zi ?_;refine Zm ?_;refine Zg rfl rfl rfl (gT _) (fun hp => by exact ps_move rfl rfl) ?_;refine Zg rfl rfl rfl (gT _) (fun hp => by exact ps_move rfl rfl) ?_;refine Zg rfl rfl rfl (gT _) (fun hp => by (exact ps_int rfl (Og rfl) (Og rfl) rfl)) ?_;refine Zq (ps_and rfl rfl rfl) ?_;refine Ze8 0 1 3 4 18 20 24 199 ?_)|(refine Zr 42 ?_;refine Zm ?_;refine Zm ?_;refine Zm ?_;refine Zm ?_;refine Zm ?_;refine Zn (by exact ms_wr 0 rfl rfl rfl rfl (fun _ _ w hw => ih.out a s d2 _ (by omega) (by first | exact hn | (rw [rotL_len];exact hn)) (by omega) (by omega) (by omega) (by first | exact (F.out (by omega)).2.1 | exact (F'.out (by omega) (by omega)).2.1) (by first | exact (F.out (by omega)).2.2.1 | exact (F'.out (by omega) (by omega)).2.2.1) hw)) ?_;rintro y205 hy205;refine Ze5 0 3 4 18 24 ?_)|(refine Zr 43 ?_;refine Zm ?_;refine Zm ?_;refine Zi ?_;refine Zm ?_;refine Zg rfl rfl rfl (gT _) (fun hp => by exact ps_move rfl rfl) ?_;refine Zg rfl rfl rfl (gT _) (fun hp => by exact ps_move rfl rfl) ?_;refine Zg rfl rfl rfl (gT _) (fun hp => by (exact ps_int rfl (Og rfl) (Og rfl) rfl)) ?_;refine Zq (ps_and rfl rfl rfl) ?_;refine Ze6 0 3 4 18 24 213 ?_)|(refine Zr 44 ?_;refine Zm ?_;refine Zm ?_;refine Zm ?_;refine Zm ?_;refine Zm ?_;refine Zn (by exact ms_wr 0 rfl rfl rfl rfl (fun _ _ w hw => ih.out d2 (d2 + m - s) b _ (by omega) (by first | exact hn | (rw [rotL_len];exact hn) | (rw [hy205.1.len];exact hn) | (rw [hy205.1.len,rotL_len];exact hn)) (by omega) (by omega) (by omega) (by first | exact srt_out hy205.1 (F.out (by omega)).2.2.2.1 (.inr (Nat.le_refl _)) | exact srt_out hy205.1 (F'.out (by omega) (by omega)).2.2.2.1 (.inr (Nat.le_refl _)) | exact (F.out (by omega)).2.2.2.1 | exact (F'.out (by omega) (by omega)).2.2.2.1) (by first | exact srt_out hy205.1 (F.out (by omega)).2.2.2.2.1 (.inr (by omega)) | exact srt_out hy205.1 (F'.out (by omega) (by omega)).2.2.2.2.1 (.inr (by omega)) | exact (F.out (by omega)).2.2.2.2.1 | exact (F'.out (by omega) (by omega)).2.2.2.2.1) hw)) ?_;rintro y219 hy219;refine Ze0 ?_))
      all_goals first
        | (rw [cmpE_lt] at hc
           have hc' : aheadE (nth L (d2 + m - 1 - (s + r) / 2)) (nth L ((s + r) / 2)) = false := by simpa using hc
           exact fun ac w' he hw => ⟨⟨(s + r) / 2 + 1,r,by omega,fun _ => nle_of hc',HI.out⟩,by simp only;omega,he.sub ⟨rfl,rfl,rfl,rfl,rfl,rfl,rfl,rfl,rfl,rfl,trivial⟩,hw⟩)
        | (rw [cmpE_lt] at hc
           have hc' : aheadE (nth L (d2 + m - 1 - (s + r) / 2)) (nth L ((s + r) / 2)) = true := by simpa using hc
           exact fun ac w' he hw => ⟨⟨s,(s + r) / 2,by omega,LO.out,fun _ => hc'⟩,by simp only;omega,he.sub ⟨rfl,rfl,rfl,rfl,rfl,rfl,rfl,rfl,rfl,rfl,trivial⟩,hw⟩)
        | (refine ok_endN (K := .normal) (ok_endL (vs := []) rfl trivial (fun w' hw => ⟨yM (rM y219) w,rfl,?_,?_⟩))
           · rw [rM_yM]
             first
               | exact sym_fin (F.out (by omega)) (.inl hy205) (.inl hy219)
               | exact sym_fin (F'.out (by omega) (by omega)) (.inl hy205) (.inl hy219)
               | exact sym_fin (F.out (by omega)) (.inr ⟨rfl,by omega,by omega⟩) (.inl hy219)
               | exact sym_fin (F'.out (by omega) (by omega)) (.inr ⟨rfl,by omega,by omega⟩) (.inl hy219)
           · rw [rM_yM];exact hw)
        | (refine ok_endN (K := .normal) (ok_endL (vs := []) rfl trivial (fun w' hw => ⟨yM (rM y205) w,rfl,?_,?_⟩))
           · rw [rM_yM]
             first
               | exact sym_fin (F.out (by omega)) (.inl hy205) (.inr ⟨rfl,by omega,by omega⟩)
               | exact sym_fin (F'.out (by omega) (by omega)) (.inl hy205) (.inr ⟨rfl,by omega,by omega⟩)
           · rw [rM_yM];exact hw)
        | (refine ok_endN (K := .normal) (ok_endL (vs := []) rfl trivial (fun w' hw => ⟨yM (rotL L s m (d2 + m - s)) w,rfl,?_,?_⟩))
           · rw [rM_yM];exact sym_fin (F.out (by omega)) (.inr ⟨rfl,by omega,by omega⟩) (.inr ⟨rfl,by omega,by omega⟩)
           · rw [rM_yM];exact hw)
        | (refine ok_endN (K := .normal) (ok_endL (vs := []) rfl trivial (fun w' hw => ⟨yM L w,rfl,?_,?_⟩))
           · rw [rM_yM];exact sym_fin (F'.out (by omega) (by omega)) (.inr ⟨rfl,by omega,by omega⟩) (.inr ⟨rfl,by omega,by omega⟩)
           · rw [rM_yM];exact hw)
    · have hmd : 2 * ((a + b) / 2) ≤ a + b ∧ a + b < 2 * ((a + b) / 2) + 2 := by omega
      have h0 : (m > (a + b) / 2 ∧ (a) = (a + b) / 2 + m - b ∧ (m) = (a + b) / 2) ∨ (¬ m > (a + b) / 2 ∧ (a) = a ∧ (m) = m) := by omega
      have hsf := fun s => sym_found (L := L) (a := a) (m := m) (b := b) (s0 := a) (r0 := m) (s := s) ham hmb h0
      have HF := Lib.hid hsf;clear hsf
      have hst := fun s e q => sym_turn (L := L) (a := a) (m := m) (b := b) (s := s) (e := e) (by omega) ⟨by omega,by omega⟩ S1.out S2.out q
      have HT := Lib.hid hst;clear hst
      generalize hmid : (a + b) / 2 = d2 at hmd h0 HF HT ⊢
      have hb0 : a ≤ m ∧ m ≤ m ∧ a ≤ a ∧ d2 + m - 1 < b + a ∧ m ≤ d2 + m - 1 := by omega
      clear hc hd
      refine ok_loop (ι := BsM L a m (d2 + m - 1)) (fun q => q.r - q.s) (fun q => ([(0,.slice A n c),(1,.int .i64 a),(2,.int .i64 m),(3,.int .i64 b),(4,cmpV),(18,.int .i64 d2),(19,.int .i64 ((d2 + m : Nat) : Int)),(20,.int .i64 q.s),(21,.int .i64 q.r),(22,.int .i64 ((d2 + m - 1 : Nat) : Int))],rwE A n c L :: H,_)) ⟨a,m,by omega,fun h => by omega,fun h => by omega⟩ (fun ac w he hw => ⟨⟨a,m,by omega,fun h => by omega,fun h => by omega⟩,he.sub ⟨rfl,rfl,rfl,rfl,rfl,rfl,rfl,rfl,rfl,rfl,trivial⟩,hw⟩) ?_
      rintro ⟨s,r,hsr,lo,hi⟩
      simp only at hsr ⊢
      have LO := Lib.hid lo;clear lo
      have HI := Lib.hid hi;clear hi
      have hend : s = r → SymS L a m b s (d2 + m - s) := fun e => by
        have h1 := LO.out
        have h2 := HI.out
        subst e
        exact HF.out s (by omega) h1 h2
      have hF : s = r → SegE L (rotL L s m (d2 + m - s)) a b ∧ srtIn (rotL L s m (d2 + m - s)) a s ∧ srtIn (rotL L s m (d2 + m - s)) s d2 ∧ srtIn (rotL L s m (d2 + m - s)) d2 (d2 + m - s) ∧ srtIn (rotL L s m (d2 + m - s)) (d2 + m - s) b ∧ ∀ i j,a ≤ i → i < d2 → d2 ≤ j → j < b → leE (nth (rotL L s m (d2 + m - s)) i) (nth (rotL L s m (d2 + m - s)) j) = true := fun e => HT.out s (d2 + m - s) (hend e)
      have F := Lib.hid hF;clear hF
      have F' : s = r → (s = m ∨ m = d2 + m - s) → SegE L L a b ∧ srtIn L a s ∧ srtIn L s d2 ∧ srtIn L d2 (d2 + m - s) ∧ srtIn L (d2 + m - s) b ∧ ∀ i j,a ≤ i → i < d2 → d2 ≤ j → j < b → leE (nth L i) (nth L j) = true := fun e h => by
        have := F.out e
        rwa [rot_triv h (by omega) (by omega)] at this
      have F' := Lib.hid F'
      clear hend
      repeat' (first|refine Wa ?_|refine Wb ?_|refine Wd ?_|refine We ?_|(refine ok_cond rfl (fun hc => ?_) (fun hc => ?_) <;> (have hd := hc;try simp only [jj] at hd))|refine Wh ?_|refine Wi ?_|(refine Zr 33 ?_;refine Zm ?_;refine Zm ?_;refine Zi ?_;refine Ze11 0 1 2 3 4 18 19 20 21 22 151 ?_)|(refine Zr 34 ?_;refine Zm ?_;refine Zm ?_;refine Zq (by exact ps_add rfl rfl rfl (by omega)) ?_;refine Zq (by exact ps_conv_id rfl rfl (IntWalk.u64_in _ (by omega))) ?_;refine Zq (ps_half rfl rfl) ?_;refine Zq (by exact ps_conv_id rfl rfl (IntWalk.i64_in _ (by omega))) ?_;refine Za ?_;refine Ze11 0 1 2 3 4 18 19 20 21 22 23 ?_)|(refine ok_draw (id := 35) 14 rfl (by kernel_rfl) (by kernel_rfl) rfl (by repeat (first | exact pq_body | refine pq_then ?_ | refine pq_in ?_)) [0] (by decide) rfl ?_;refine Xm 0 ?_;refine Xm 1 ?_;refine Xm 2 ?_;refine Xm 3 ?_;refine Xt 4 rfl (by exact ps_cast (v' := .int .i64 ((d2 + m - 1 - (s + r) / 2 : Nat) : Int)) (ps_sub rfl rfl rfl (by omega)) (by congr 1;omega)) ?_;refine Xt 5 rfl (by exact ps_indexN rfl rfl rfl (by omega) (by exact isw_row 0 rfl (by omega))) ?_;refine Xt 6 rfl (by exact ps_loadsF rfl rfl (by exact rds_row 0 rfl) (by rfl) (by rfl) (by omega) rfl) ?_;refine Xm 7 ?_;refine Xm 8 ?_;refine Xt 9 rfl (by exact ps_indexN rfl rfl rfl (by omega) (by exact isw_row 0 rfl (by omega))) ?_;refine Xt 10 rfl (by exact ps_loadsF rfl rfl (by exact rds_row 0 rfl) (by rfl) (by rfl) (by omega) rfl) ?_;refine Xo 11 rfl (by exact ms_v2 rfl rfl rfl rfl (fun _ _ w hw => compareEnts_c (nth L (d2 + m - 1 - (s + r) / 2)) (nth L ((s + r) / 2)) w)) (fun y w _ h => by exact h.sel [0] (by decide) rfl (fun _ h => h)) ?_;rintro y169 hy169;refine Xt 12 rfl (ps_int rfl rfl rfl rfl) ?_;refine Xt 13 rfl (ps_not rfl rfl) ?_;refine okT_done (by kernel_rfl) ?_;refine Ze12 0 1 2 3 4 18 19 20 21 22 23 171 ?_)|(refine Zr 36 ?_;refine Zm ?_;refine Zq (by exact ps_add rfl rfl rfl (by omega)) ?_;refine Za ?_;refine Ze10 0 1 2 3 4 18 19 20 21 22 ?_)|(refine Zr 37 ?_;refine Zm ?_;refine Za ?_;refine Ze10 0 1 2 3 4 18 19 20 21 22 ?_)|(refine Zr 38 ?_;refine Zm ?_;refine Zm ?_;refine Zq (by exact ps_cast (v' := .int .i64 ((d2 + m - s : Nat) : Int)) (ps_sub rfl rfl rfl (by omega)) (by congr 1;omega)) ?_;refine Za ?_;refine Ze8 0 1 2 3 4 18 20 24 ?_)|(refine Zr 39 ?_;refine Zm ?_;refine Zm ?_;refine Zi ?_;refine Zm ?_;refine Zg rfl rfl rfl (gT _) (fun hp => by exact ps_move rfl rfl) ?_;refine Zg rfl rfl rfl (gT _) (fun hp => by exact ps_move rfl rfl) ?_;refine Zg rfl rfl rfl (gT _) (fun hp => by (exact ps_int rfl (Og rfl) (Og rfl) rfl)) ?_;refine Zq (ps_and rfl rfl rfl) ?_;refine Ze9 0 1 2 3 4 18 20 24 185 ?_)|(refine Zr 40 ?_;refine Zm ?_;refine Zm ?_;refine Zm ?_;refine Zm ?_;refine Zm ?_;refine Zn (by exact ms_wr 0 rfl rfl rfl rfl (fun _ _ w hw => rotate_c A n c s m (d2 + m - s) L hn hl (by omega) (by omega) (by omega) hw)) ?_;rintro y191 hy191;refine Ze7 0 1 3 4 18 20 24 ?_)|(refine Zr 41 ?_;refine Zm ?_;refine Zm ?_;refine Zi ?_;refine Zm ?_;refine Zg rfl rfl rfl (gT _) (fun hp => by exact ps_move rfl rfl) ?_;refine Zg rfl rfl rfl (gT _) (fun hp => by exact ps_move rfl rfl) ?_;refine Zg rfl rfl rfl (gT _) (fun hp => by (exact ps_int rfl (Og rfl) (Og rfl) rfl)) ?_;refine Zq (ps_and rfl rfl rfl) ?_;refine Ze8 0 1 3 4 18 20 24 199 ?_)|(refine Zr 42 ?_;refine Zm ?_;refine Zm ?_;refine Zm ?_;refine Zm ?_;refine Zm ?_;refine Zn (by exact ms_wr 0 rfl rfl rfl rfl (fun _ _ w hw => ih.out a s d2 _ (by omega) (by first | exact hn | (rw [rotL_len];exact hn)) (by omega) (by omega) (by omega) (by first | exact (F.out (by omega)).2.1 | exact (F'.out (by omega) (by omega)).2.1) (by first | exact (F.out (by omega)).2.2.1 | exact (F'.out (by omega) (by omega)).2.2.1) hw)) ?_;rintro y205 hy205;refine Ze5 0 3 4 18 24 ?_)|(refine Zr 43 ?_;refine Zm ?_;refine Zm ?_;refine Zi ?_;refine Zm ?_;refine Zg rfl rfl rfl (gT _) (fun hp => by exact ps_move rfl rfl) ?_;refine Zg rfl rfl rfl (gT _) (fun hp => by exact ps_move rfl rfl) ?_;refine Zg rfl rfl rfl (gT _) (fun hp => by (exact ps_int rfl (Og rfl) (Og rfl) rfl)) ?_;refine Zq (ps_and rfl rfl rfl) ?_;refine Ze6 0 3 4 18 24 213 ?_)|(refine Zr 44 ?_;refine Zm ?_;refine Zm ?_;refine Zm ?_;refine Zm ?_;refine Zm ?_;refine Zn (by exact ms_wr 0 rfl rfl rfl rfl (fun _ _ w hw => ih.out d2 (d2 + m - s) b _ (by omega) (by first | exact hn | (rw [rotL_len];exact hn) | (rw [hy205.1.len];exact hn) | (rw [hy205.1.len,rotL_len];exact hn)) (by omega) (by omega) (by omega) (by first | exact srt_out hy205.1 (F.out (by omega)).2.2.2.1 (.inr (Nat.le_refl _)) | exact srt_out hy205.1 (F'.out (by omega) (by omega)).2.2.2.1 (.inr (Nat.le_refl _)) | exact (F.out (by omega)).2.2.2.1 | exact (F'.out (by omega) (by omega)).2.2.2.1) (by first | exact srt_out hy205.1 (F.out (by omega)).2.2.2.2.1 (.inr (by omega)) | exact srt_out hy205.1 (F'.out (by omega) (by omega)).2.2.2.2.1 (.inr (by omega)) | exact (F.out (by omega)).2.2.2.2.1 | exact (F'.out (by omega) (by omega)).2.2.2.2.1) hw)) ?_;rintro y219 hy219;refine Ze0 ?_))
      all_goals first
        | (rw [cmpE_lt] at hc
           have hc' : aheadE (nth L (d2 + m - 1 - (s + r) / 2)) (nth L ((s + r) / 2)) = false := by simpa using hc
           exact fun ac w' he hw => ⟨⟨(s + r) / 2 + 1,r,by omega,fun _ => nle_of hc',HI.out⟩,by simp only;omega,he.sub ⟨rfl,rfl,rfl,rfl,rfl,rfl,rfl,rfl,rfl,rfl,trivial⟩,hw⟩)
        | (rw [cmpE_lt] at hc
           have hc' : aheadE (nth L (d2 + m - 1 - (s + r) / 2)) (nth L ((s + r) / 2)) = true := by simpa using hc
           exact fun ac w' he hw => ⟨⟨s,(s + r) / 2,by omega,LO.out,fun _ => hc'⟩,by simp only;omega,he.sub ⟨rfl,rfl,rfl,rfl,rfl,rfl,rfl,rfl,rfl,rfl,trivial⟩,hw⟩)
        | (refine ok_endN (K := .normal) (ok_endL (vs := []) rfl trivial (fun w' hw => ⟨yM (rM y219) w,rfl,?_,?_⟩))
           · rw [rM_yM]
             first
               | exact sym_fin (F.out (by omega)) (.inl hy205) (.inl hy219)
               | exact sym_fin (F'.out (by omega) (by omega)) (.inl hy205) (.inl hy219)
               | exact sym_fin (F.out (by omega)) (.inr ⟨rfl,by omega,by omega⟩) (.inl hy219)
               | exact sym_fin (F'.out (by omega) (by omega)) (.inr ⟨rfl,by omega,by omega⟩) (.inl hy219)
           · rw [rM_yM];exact hw)
        | (refine ok_endN (K := .normal) (ok_endL (vs := []) rfl trivial (fun w' hw => ⟨yM (rM y205) w,rfl,?_,?_⟩))
           · rw [rM_yM]
             first
               | exact sym_fin (F.out (by omega)) (.inl hy205) (.inr ⟨rfl,by omega,by omega⟩)
               | exact sym_fin (F'.out (by omega) (by omega)) (.inl hy205) (.inr ⟨rfl,by omega,by omega⟩)
           · rw [rM_yM];exact hw)
        | (refine ok_endN (K := .normal) (ok_endL (vs := []) rfl trivial (fun w' hw => ⟨yM (rotL L s m (d2 + m - s)) w,rfl,?_,?_⟩))
           · rw [rM_yM];exact sym_fin (F.out (by omega)) (.inr ⟨rfl,by omega,by omega⟩) (.inr ⟨rfl,by omega,by omega⟩)
           · rw [rM_yM];exact hw)
        | (refine ok_endN (K := .normal) (ok_endL (vs := []) rfl trivial (fun w' hw => ⟨yM L w,rfl,?_,?_⟩))
           · rw [rM_yM];exact sym_fin (F'.out (by omega) (by omega)) (.inr ⟨rfl,by omega,by omega⟩) (.inr ⟨rfl,by omega,by omega⟩)
           · rw [rM_yM];exact hw)
end Go.Proofs.YtmfojbidojjciaaGreat
namespace Go.Proofs.YtmfojbidojjciaaGreat
def Runs (C : List Ent) (s n : Nat) : Prop := ∀ p q,p < q → q < n → p / s = q / s → leE (nth C p) (nth C q) = true
def Mix (C : List Ent) (s u a n : Nat) : Prop := ∀ p q,p < q → q < n → (q < a → p / u = q / u → leE (nth C p) (nth C q) = true) ∧ (a ≤ p → p / s = q / s → leE (nth C p) (nth C q) = true)
theorem div_in {s t p : Nat} (h1 : t * s ≤ p) (h2 : p < t * s + s) : p / s = t := Nat.div_eq_of_lt_le h1 (by rw [Nat.succ_mul];exact h2)
theorem div_apart {u t p q : Nat} (hu : 0 < u) (h1 : p < t * u) (h2 : t * u ≤ q) : p / u ≠ q / u := by
  have h3 : p / u < t := (Nat.div_lt_iff_lt_mul hu).2 h1
  have h4 : t ≤ q / u := (Nat.le_div_iff_mul_le hu).2 h2
  omega
theorem mix_start {C : List Ent} {s u n : Nat} (h : Runs C s n) : Mix C s u 0 n := fun p q h1 h2 => ⟨fun h3 => by omega,fun _ h4 => h p q h1 h2 h4⟩
theorem mix_at {C : List Ent} {s u a n t x y : Nat} (h : Mix C s u a n) (hx : x = t * s) (ha : a ≤ x) (hy : y ≤ x + s ∧ y ≤ n) : srtIn C x y := fun i j hi hij hj => by
  subst hx
  exact (h i j hij (by omega)).2 (by omega) ((div_in hi (by omega)).trans (div_in (by omega) (by omega)).symm)
theorem mix_step {C D : List Ent} {s u a n t e : Nat} (hu : 0 < u) (h : Mix C s u a n) (ha : a = t * u) (he : e = a + u ∨ (e = n ∧ n ≤ a + u)) (hs : SegE C D a e) (hd : srtIn D a e) : Mix D s u e n := fun p q h1 h2 => by
  constructor
  · intro h3 h4
    rcases Nat.lt_or_ge q a with h5 | h5
    · rw [hs.out p (by omega),hs.out q (by omega)]
      exact (h p q h1 h2).1 h5 h4
    · rcases Nat.lt_or_ge p a with h6 | h6
      · subst ha;exact absurd h4 (div_apart hu h6 h5)
      · exact hd p q h6 h1 h3
  · intro h3 h4
    rw [hs.out p (by omega),hs.out q (by omega)]
    exact (h p q h1 h2).2 (by have := hs.len;rcases he with h5 | h5 <;> omega) h4
theorem mix_end {C : List Ent} {s u n : Nat} (h : Mix C s u n n) : Runs C u n := fun p q h1 h2 h3 => (h p q h1 h2).1 h2 h3
theorem mix_rest {C : List Ent} {s u a n t k : Nat} (hu : u = 2 * s) (hs : 0 < s) (h : Mix C s u a n) (ha : a = t * u) (h2 : n ≤ a + s) : Mix C s u n n := fun p q h1 h3 => by
  refine ⟨fun _ h4 => ?_,fun h4 => by omega⟩
  rcases Nat.lt_or_ge q a with h5 | h5
  · exact (h p q h1 h3).1 h5 h4
  · rcases Nat.lt_or_ge p a with h6 | h6
    · subst ha;exact absurd h4 (div_apart (by omega) h6 h5)
    · have e : a = (2 * t) * s := by rw [ha,hu,Nat.mul_left_comm,Nat.mul_assoc]
      exact (h p q h1 h3).2 h6 ((div_in (t := 2 * t) (by omega) (by omega)).trans (div_in (t := 2 * t) (by omega) (by omega)).symm)
theorem runs_srt {C : List Ent} {s n : Nat} (h : Runs C s n) (hs : n ≤ s) : srtIn C 0 n := fun i j hi hij hj => h i j hij hj (by rw [Nat.div_eq_of_lt (by omega),Nat.div_eq_of_lt (by omega)])
theorem mul_snoc {t u a : Nat} (h : a = t * u) : a + u = (t + 1) * u := by rw [Nat.succ_mul,h]
theorem two_mul_run {t s a : Nat} (h : a = t * (2 * s)) : a = (2 * t) * s ∧ a + s = (2 * t + 1) * s := by
  have e : a = (2 * t) * s := by rw [h,Nat.mul_left_comm,Nat.mul_assoc]
  exact ⟨e,by rw [Nat.succ_mul,e]⟩
theorem mix_none {C : List Ent} {u n : Nat} : Mix C 1 u 0 n := fun p q h1 h2 => ⟨fun h3 => by omega,fun _ h4 => by rw [Nat.div_one,Nat.div_one] at h4;omega⟩
end Go.Proofs.YtmfojbidojjciaaGreat
namespace Go.Proofs.YtmfojbidojjciaaGreat
open Go.RowKit
attribute [local irreducible] Calls
structure StA (L : List Ent) (n : Nat) where
  C : List Ent
  a : Nat
  t : Nat
  ha : a ≤ n ∧ a = t * 20
  seg : SegE L C 0 n
  mix : Mix C 1 20 a n
structure StM (L : List Ent) (n : Nat) where
  C : List Ent
  s : Nat
  hs : 0 < s ∧ s ≤ 2 * n + 20
  seg : SegE L C 0 n
  run : Runs C s n
structure StN (L : List Ent) (n s : Nat) where
  C : List Ent
  a : Nat
  t : Nat
  ha : a ≤ n ∧ a = t * (2 * s)
  seg : SegE L C 0 n
  mix : Mix C s (2 * s) a n
theorem stable_c (A : Option Addr) (n c : Nat) (L : List Ent) (hn : L.length = n) (hl : n ≤ 4194304) {base : Nat} {w0 w : World} {H : List HObj} {G : List World} (hw : WOk base w0 (rwE A n c L :: H) G w) :
    Calls Tryz.prog 282 #[.slice A n c,.int .i64 n,cmpV] w fun e w' => ∃ y : Ys,e = .returned (.tuple #[]) ∧ (stb L (rM y) ∧ leS' (rM y) ∧ (rM y).length = n) ∧ WOk base w0 (rwE A n c (rM y) :: H) G w' := by
  refine ok_enterW 63 Tryz.func282 rfl rfl rfl hw ?_
  repeat' (first|refine Wa ?_|refine Wd ?_|(refine Zr 0 ?_;refine Za ?_;refine Ze4 0 1 2 6 ?_)|(refine Zr 1 ?_;refine Zm ?_;refine Za ?_;refine Za ?_;refine Ze6 0 1 2 6 7 8 ?_))
  refine ok_loop (ι := StA L n) (fun q => n - q.a) (fun q => ([(0,.slice A n c),(1,.int .i64 n),(2,cmpV),(6,.int .i64 20),(7,.int .i64 q.a),(8,.int .i64 ((q.a + 20 : Nat) : Int))],rwE A n c q.C :: H,_)) ⟨L,0,0,by omega,SegE.refl _ _ _,mix_none⟩ (fun ac w he hw => ⟨⟨L,0,0,by omega,SegE.refl _ _ _,mix_none⟩,he.sub ⟨rfl,rfl,rfl,rfl,rfl,rfl,trivial⟩,hw⟩) ?_
  rintro ⟨C,a,t,ha,seg,mix⟩
  simp only at ha ⊢
  have hcn : C.length = n := by rw [seg.len];exact hn
  have SEG := Lib.hid seg;clear seg
  have MIX := Lib.hid mix;clear mix
  have HA := Lib.hid ha.2
  replace ha := ha.1
  repeat' (first|refine Wa ?_|refine Wb ?_|refine Wd ?_|refine We ?_|(refine ok_cond rfl (fun hc => ?_) (fun hc => ?_) <;> (have hd := hc;try simp only [jj] at hd))|refine Wh ?_|refine Wi ?_|(refine Zr 2 ?_;refine Zm ?_;refine Zm ?_;refine Zi ?_;refine Ze7 0 1 2 6 7 8 13 ?_)|(refine Zr 3 ?_;refine Zm ?_;refine Zm ?_;refine Zm ?_;refine Zm ?_;refine Zn (by exact ms_w4 (fun _ _ _ h => h) rfl rfl rfl rfl rfl (fun _ _ w hw => insert_c' A n c a (a + 20) C hcn hl (by omega) (by omega) hw)) ?_;rintro y18 hy18;refine Ze5 0 1 2 6 8 ?_)|(refine Zr 4 ?_;refine Zm ?_;refine Za ?_;refine Ze6 0 1 2 6 7 8 ?_)|(refine Zr 5 ?_;refine Zm ?_;refine Zm ?_;refine Zq (by exact ps_cast (v' := .int .i64 ((a + 20 + 20 : Nat) : Int)) (ps_add rfl rfl rfl (by omega)) (by push_cast;rfl)) ?_;refine Za ?_;refine Ze6 0 1 2 6 7 8 ?_)|(refine Zr 6 ?_;refine Zm ?_;refine Zm ?_;refine Zm ?_;refine Zm ?_;refine Zn (by exact ms_w4 (fun _ _ _ h => h) rfl rfl rfl rfl rfl (fun _ _ w hw => insert_c' A n c a n C hcn hl (by omega) (by omega) hw)) ?_;rintro y27 hy27;refine Ze4 0 1 2 6 ?_))
  · exact fun ac w' he hw => ⟨⟨rM y18,a + 20,t + 1,⟨by omega,mul_snoc HA.out⟩,SEG.out.trans (hy18.1.wide (by omega) (by omega)),mix_step (by omega) MIX.out HA.out (.inl rfl) hy18.1 hy18.2⟩,by simp only;omega,he.sub ⟨rfl,rfl,rfl,rfl,rfl,rfl,trivial⟩,hw⟩
  have hrun : Runs (rM y27) 20 n := mix_end (mix_step (by omega) MIX.out HA.out (.inr ⟨rfl,by omega⟩) hy27.1 hy27.2)
  have hseg : SegE L (rM y27) 0 n := SEG.out.trans (hy27.1.wide (by omega) (by omega))
  clear SEG MIX HA hc hd hcn hy27
  refine ok_loop (ι := StM L n) (fun q => 2 * n + 20 - q.s) (fun q => ([(0,.slice A n c),(1,.int .i64 n),(2,cmpV),(6,.int .i64 q.s)],rwE A n c q.C :: H,_)) ⟨rM y27,20,by omega,hseg,hrun⟩ (fun ac w he hw => ⟨⟨rM y27,20,by omega,hseg,hrun⟩,he.sub ⟨rfl,rfl,rfl,rfl,trivial⟩,hw⟩) ?_
  rintro ⟨D,s,hs,seg,run⟩
  simp only at hs ⊢
  clear hseg hrun
  have hdn : D.length = n := by rw [seg.len];exact hn
  have SEG := Lib.hid seg;clear seg
  have RUN := Lib.hid run;clear run
  repeat' (first|refine Wa ?_|refine Wb ?_|refine ok_then_exit ?_|refine Wd ?_|refine ok_in_exit ?_|(refine ok_cond rfl (fun hc => ?_) (fun hc => ?_) <;> (have hd := hc;try simp only [jj] at hd))|refine Wh ?_|refine Wi ?_|(refine Zr 7 ?_;refine Zm ?_;refine Zm ?_;refine Zi ?_;refine Ze5 0 1 2 6 30 ?_)|(refine Zr 8 ?_;refine Zm ?_;refine Zq (by exact ps_cast (v' := .int .i64 ((0 + 2 * s : Nat) : Int)) (ps_mul rfl rfl rfl (by omega)) (by push_cast;congr 1;omega)) ?_;refine Za ?_;refine Za ?_;refine Ze6 0 1 2 6 7 8 ?_))
  · refine ok_loop (ι := StN L n s) (fun q => n - q.a) (fun q => ([(0,.slice A n c),(1,.int .i64 n),(2,cmpV),(6,.int .i64 s),(7,.int .i64 q.a),(8,.int .i64 ((q.a + 2 * s : Nat) : Int))],rwE A n c q.C :: H,_)) ⟨D,0,0,by omega,SEG.out,mix_start RUN.out⟩ (fun ac w he hw => ⟨⟨D,0,0,by omega,SEG.out,mix_start RUN.out⟩,he.sub ⟨rfl,rfl,rfl,rfl,rfl,rfl,trivial⟩,hw⟩) ?_
    rintro ⟨C,a,t,ha,seg,mix⟩
    simp only at ha ⊢
    clear SEG RUN hdn
    have hcn : C.length = n := by rw [seg.len];exact hn
    have s1 := fun h => mix_at (x := a) (y := a + s) mix (two_mul_run ha.2).1 (Nat.le_refl _) h
    have s2 := fun y h => mix_at (x := a + s) (y := y) mix (two_mul_run ha.2).2 (by omega) h
    have S1 := Lib.hid s1;clear s1
    have S2 := Lib.hid s2;clear s2
    have SEG := Lib.hid seg;clear seg
    have MIX := Lib.hid mix;clear mix
    have HA := Lib.hid ha.2
    replace ha := ha.1
    repeat' (first|refine Wa ?_|refine Wb ?_|refine Wd ?_|refine We ?_|(refine ok_cond rfl (fun hc => ?_) (fun hc => ?_) <;> (have hd := hc;try simp only [jj] at hd))|refine Wh ?_|refine Wi ?_|(refine Zr 9 ?_;refine Zm ?_;refine Zm ?_;refine Zi ?_;refine Ze7 0 1 2 6 7 8 35 ?_)|(refine Zr 10 ?_;refine Zm ?_;refine Zm ?_;refine Zm ?_;refine Zm ?_;refine Zq (by exact ps_cast (v' := .int .i64 ((a + s : Nat) : Int)) (ps_add rfl rfl rfl (by omega)) (by push_cast;rfl)) ?_;refine Zm ?_;refine Zm ?_;refine Zn (by exact ms_w5 (fun _ _ _ h => h) rfl rfl rfl rfl rfl rfl (fun _ _ w hw => symM_c A n c hl (2 * s) a (a + s) (a + 2 * s) C (by omega) hcn (by omega) (by omega) (by omega) (S1.out (by omega)) (S2.out _ (by omega)) hw)) ?_;rintro y43 hy43;refine Ze5 0 1 2 6 8 ?_)|(refine Zr 11 ?_;refine Zm ?_;refine Za ?_;refine Ze6 0 1 2 6 7 8 ?_)|(refine Zr 12 ?_;refine Zm ?_;refine Zm ?_;refine Zq (by exact ps_cast (v' := .int .i64 ((2 * s : Nat) : Int)) (ps_mul rfl rfl rfl (by omega)) (by push_cast;rfl)) ?_;refine Zq (by exact ps_cast (v' := .int .i64 ((a + 2 * s + 2 * s : Nat) : Int)) (ps_add rfl rfl rfl (by omega)) (by push_cast;rfl)) ?_;refine Za ?_;refine Ze6 0 1 2 6 7 8 ?_)|(refine Zr 13 ?_;refine Zm ?_;refine Zm ?_;refine Zq (by exact ps_cast (v' := .int .i64 ((a + s : Nat) : Int)) (ps_add rfl rfl rfl (by omega)) (by push_cast;rfl)) ?_;refine Za ?_;refine Ze6 0 1 2 6 7 9 ?_)|(refine Zr 14 ?_;refine Zm ?_;refine Zm ?_;refine Zi ?_;refine Ze7 0 1 2 6 7 9 54 ?_)|(refine Zr 15 ?_;refine Zm ?_;refine Zm ?_;refine Zm ?_;refine Zm ?_;refine Zm ?_;refine Zn (by exact ms_w5 (fun _ _ _ h => h) rfl rfl rfl rfl rfl rfl (fun _ _ w hw => symM_c A n c hl (2 * s) a (a + s) n C (by omega) hcn (by omega) (by omega) (by omega) (S1.out (by omega)) (S2.out _ (by omega)) hw)) ?_;rintro y60 hy60;refine Ze4 0 1 2 6 ?_)|(refine Zr 16 ?_;refine Zm ?_;refine Zq (by exact ps_cast (v' := .int .i64 ((2 * s : Nat) : Int)) (ps_mul rfl rfl rfl (by omega)) (by push_cast;congr 1;omega)) ?_;refine Za ?_;refine Ze4 0 1 2 6 ?_))
    · exact fun ac w' he hw => ⟨⟨rM y43,a + 2 * s,t + 1,⟨by omega,mul_snoc HA.out⟩,SEG.out.trans (hy43.1.wide (by omega) (by omega)),mix_step (by omega) MIX.out HA.out (.inl rfl) hy43.1 hy43.2⟩,by simp only;omega,he.sub ⟨rfl,rfl,rfl,rfl,rfl,rfl,trivial⟩,hw⟩
    · exact fun ac w' he hw => ⟨⟨rM y60,2 * s,by omega,SEG.out.trans (hy60.1.wide (by omega) (by omega)),mix_end (mix_step (by omega) MIX.out HA.out (.inr ⟨rfl,by omega⟩) hy60.1 hy60.2)⟩,by simp only;omega,he.sub ⟨rfl,rfl,rfl,rfl,trivial⟩,hw⟩
    · exact fun ac w' he hw => ⟨⟨C,2 * s,by omega,SEG.out,mix_end (mix_rest (k := 0) rfl hs.1 MIX.out HA.out (by omega))⟩,by simp only;omega,he.sub ⟨rfl,rfl,rfl,rfl,trivial⟩,hw⟩
  · refine ok_endN (K := .normal) (ok_endL (vs := []) rfl trivial (fun w' hw => ⟨yM D w,rfl,?_,?_⟩))
    · rw [rM_yM]
      exact ⟨SEG.out.st,srt_le (by rw [hdn];exact runs_srt RUN.out (by omega)),hdn⟩
    · rw [rM_yM];exact hw
theorem sortStable_c (A : Option Addr) (n c : Nat) (L : List Ent) (hn : L.length = n) (hl : n ≤ 4194304) {base : Nat} {w0 w : World} {H : List HObj} {G : List World} (hw : WOk base w0 (rwE A n c L :: H) G w) :
    Calls Tryz.prog 216 #[.slice A n c,cmpV] w fun e w' => ∃ y : Ys,e = .returned (.tuple #[]) ∧ (stb L (rM y) ∧ leS' (rM y) ∧ (rM y).length = n) ∧ WOk base w0 (rwE A n c (rM y) :: H) G w' := by
  refine ok_enterW 9 Tryz.func216 rfl rfl rfl hw ?_
  repeat' ((refine Zr 0 ?_;refine Zm ?_;refine Zm ?_;refine Zq (ps_len rfl rfl) ?_;refine Zm ?_;refine Zn (by exact ms_w3 (fun _ _ _ h => h) rfl rfl rfl rfl (fun _ _ w hw => stable_c A n c L hn hl hw)) ?_;rintro y8 hy8;refine Ze0 ?_))
  exact ok_endN (K := .normal) (ok_endL (vs := []) rfl trivial (fun w' hw => ⟨y8,rfl,hy8,hw⟩))
end Go.Proofs.YtmfojbidojjciaaGreat
namespace Go.Proofs.YtmfojbidojjciaaGreat
def adjK (L : List Ent) : Nat → List Ent
  | 0 => []
  | m + 1 => adjK L m ++ if m = 0 ∨ sameE (nth L m) (nth L (m - 1)) = false then [nth L m] else []
def cmpA : Ent → List Ent → List Ent
  | _,[] => []
  | p,x :: L => if sameE x p = true then cmpA x L else x :: cmpA x L
theorem same_flip {a b c : Ent} (h : sameE a b = true) : sameE c b = sameE a c := by
  cases h1 : sameE a c with
  | true => rw [same_sym];exact same_trans h h1
  | false =>
    cases h2 : sameE c b with
    | false => rfl
    | true =>
      have := same_trans (by rw [same_sym];exact h : sameE b a = true) (by rw [same_sym];exact h2 : sameE b c = true)
      rw [h1] at this;cases this
theorem cmpct_A : ∀ (L : List Ent) (a b : Ent),sameE a b = true → cmpct (a :: L) = a :: cmpA b L
  | [],a,b,h => by rw [cmpct,cmpA]
  | x :: L,a,b,h => by
    rw [cmpct,cmpA,same_flip h]
    by_cases hx : sameE a x = true
    · rw [if_pos hx,if_pos hx];exact cmpct_A L a x hx
    · rw [if_neg hx,if_neg hx,cmpct_A L x x (same_refl x)]
theorem adj_tot (L : List Ent) (h0 : 0 < L.length) : ∀ k,k < L.length → adjK L (k + 1) ++ cmpA (nth L k) (L.drop (k + 1)) = cmpct L
  | 0,hk => by
    cases L with
    | nil => cases h0
    | cons a T =>
      rw [cmpct_A T a a (same_refl a)]
      simp [adjK,nth]
  | k + 1,hk => by
    have ih := adj_tot L h0 k (by omega)
    rw [← ih,List.drop_eq_getElem_cons (show k + 1 < L.length from hk),cmpA]
    have e : L[k + 1] = nth L (k + 1) := by simp [nth,hk]
    rw [e,adjK]
    have h1 : ¬ (k + 1 = 0) := by omega
    rw [show k + 1 - 1 = k by omega]
    by_cases hs : sameE (nth L (k + 1)) (nth L k) = true
    · rw [if_pos hs,if_neg (by rw [hs];simp)];simp
    · rw [if_neg hs,if_pos (.inr (by simpa using hs))];simp
theorem adj_end (L : List Ent) : adjK L L.length = cmpct L := by
  cases hL : L.length with
  | zero => rw [List.length_eq_zero_iff.1 hL];rw [adjK,cmpct]
  | succ k =>
    have := adj_tot L (by omega) k (by omega)
    rw [List.drop_eq_nil_of_le (by omega),cmpA,List.append_nil] at this
    exact this
theorem adj_same {L : List Ent} {m : Nat} (h0 : 0 < m) (h : sameE (nth L m) (nth L (m - 1)) = true) : adjK L (m + 1) = adjK L m := by
  rw [adjK,if_neg (by rw [h];simp;omega)];simp
theorem adj_diff {L : List Ent} {m : Nat} (h : sameE (nth L m) (nth L (m - 1)) = false) : adjK L (m + 1) = adjK L m ++ [nth L m] := by
  rw [adjK,if_pos (.inr h)]
theorem adj_zero (L : List Ent) : adjK L 1 = [nth L 0] := by rw [adjK,adjK,if_pos (.inl rfl)];rfl
theorem takeE_snoc {L : List Ent} {k : Nat} (h : k < L.length) : L.take (k + 1) = L.take k ++ [nth L k] := by
  rw [List.take_add_one,List.getElem?_eq_getElem h];simp [nth,h]
theorem nth_back {O L : List Ent} {k j : Nat} (ho : O.length = k) (hj : k ≤ j) : nth (O ++ L.drop k) j = nth L j := by
  rw [nth_app,if_neg (by omega),nth_drop];congr 1;omega
theorem set_front {O L : List Ent} {k : Nat} (ho : O.length = k) (hk : k < L.length) (x : Ent) : (O ++ L.drop k).set k x = (O ++ [x]) ++ L.drop (k + 1) := by
  rw [List.drop_eq_getElem_cons hk,List.set_append,if_neg (by omega),show k - O.length = 0 by omega,List.set_cons_zero,List.append_assoc]
  rfl
end Go.Proofs.YtmfojbidojjciaaGreat
namespace Go.Proofs.YtmfojbidojjciaaGreat
open Go.RowKit
attribute [local irreducible] Calls
theorem growEnt_c (n : Nat) (hn : n ≤ 4194304) (w : World) :
    Calls Tryz.prog 281 #[.slice none 0 0,.int .i64 (n : Int)] w fun e w' => ∃ y : Ys,e = .returned (.slice (y 0).A 0 (y 0).c) ∧ True ∧ Below w.heap.size w w' ∧ NewOk w.heap.size [.row 204 4 (y 0).A 0 (y 0).c []] [] w' := by
  refine ok_enter 27 Tryz.func281 rfl rfl rfl ?_
  repeat' (first|refine Wa ?_|refine Wb ?_|refine Wc ?_|refine ok_then_exit ?_|refine Wd ?_|refine We ?_|refine Wf ?_|refine ok_in_exit ?_|refine ok_in_other rfl ?_|(refine ok_cond rfl (fun hc => ?_) (fun hc => ?_) <;> (have hd := hc;try simp only [jj] at hd))|refine Wg ?_|refine Wh ?_|refine Wi ?_|(refine Zr 0 ?_;refine Za ?_;refine Ze2 0 1 ?_)|(refine Zr 1 ?_;refine Zm ?_;refine Zi ?_;refine Ze3 0 1 6 ?_)|(refine Zr 2 ?_;refine Zq (by fail "no rule makeInterface") ?_;refine Zq (by fail "no rule panic") ?_;refine Ze2 0 1 ?_)|(refine Zr 3 ?_;refine Zm ?_;refine Zm ?_;refine Zq (by first | exact ps_capS rfl rfl | exact ps_cap rfl rfl rfl) ?_;refine Zm ?_;refine Zq (ps_len rfl rfl) ?_;refine Zq (by first | exact ps_cast (v' := .int .i64 0) (ps_sub rfl rfl rfl (by omega)) (congrArg (Value.int .i64) (by omega)) | exact ps_sub rfl rfl rfl (by omega)) ?_;refine Zq (by first | exact ps_cast (v' := .int .i64 (n : Int)) (ps_sub rfl rfl rfl (by omega)) (congrArg (Value.int .i64) (by omega)) | exact ps_sub rfl rfl rfl (by omega)) ?_;refine Za ?_;refine Ze2 0 1 ?_)|(refine Zr 4 ?_;refine Zm ?_;refine Zi ?_;refine Ze3 0 1 16 ?_)|(refine Zr 5 ?_;refine Zm ?_;refine Zm ?_;refine Zq (by first | exact ps_capS rfl rfl | exact ps_cap rfl rfl rfl) ?_;refine Zq (by exact ps_slice0 (h := 0) rfl rfl rfl (by omega) (by omega)) ?_;refine Zm ?_;refine Zn (by exact ms_appZ (us := []) (i := 0) (n := n) rfl rfl rfl (fun _ _ w _ => Rd.nil w _) rfl (by omega) (by omega) (by omega) (by omega)) ?_;rintro y22 hy22;refine Zm ?_;refine Zq (ps_len rfl rfl) ?_;refine Zq (by exact ps_slice0 (h := 0) rfl rfl rfl (by omega) (by omega)) ?_;refine Za ?_;refine Ze1 0 ?_)|(refine Zr 6 ?_;refine Zm ?_;refine Za ?_;refine Ze1 4 ?_))
  · exfalso;omega
  · refine ok_endL (vs := [_]) rfl ⟨rfl,trivial⟩ (fun w' hw => ⟨mkY (ga (y22 0).c) (y22 1).c w',rfl,trivial,hw.below,?_⟩)
    obtain ⟨q1,q2⟩ := hy22
    refine NewOk.of (G := []) ((hw.boxRow (n := 0) (c := (y22 1).c) (us := []) (sz := 4) ?_ q2 (Nat.zero_le _) (by simp)).sel [0] (by decide) rfl (fun _ h => by cases h))
    simp only [List.length_append,zz_len,List.length_cons,List.length_nil]
    omega
  · exact ok_endL (vs := [_]) rfl ⟨rfl,trivial⟩ (fun w' hw => ⟨mkY none 0 w',rfl,trivial,hw.below,NewOk.one (Own.nil w' _ _ _)⟩)
theorem offEnt_succ (R : List (Lc (List Ent))) (i : Nat) (h : i < R.length) : offR List.length (dats R) (i + 1) = offR List.length (dats R) i + (nth R i).d.length := by
  rw [nthL R i h]
  have hd : i < (dats R).length := by rw [dats_len];exact h
  unfold offR
  rw [List.take_succ_eq_append_getElem hd,List.map_append,List.sum_append]
  simp [dats]
theorem catEnt_step (R : List (Lc (List Ent))) (i : Nat) (h : i < R.length) : ((dats R).take (i + 1)).flatten = ((dats R).take i).flatten ++ (nth R i).d := by
  rw [nthL R i h]
  have hd : i < (dats R).length := by rw [dats_len];exact h
  rw [List.take_succ_eq_append_getElem hd,List.flatten_append]
  simp [dats]
theorem catEnt_len (x : List (List Ent)) (i : Nat) : ((x.take i).flatten).length = offR List.length x i := by
  unfold offR;rw [List.length_flatten]
theorem concatEnt_c (A : Option Addr) (c : Nat) (R : List (Lc (List Ent))) (w : World) (h : RdN w A R) (hl : R.length ≤ 4194304) (ht : ∀ k,offR List.length (dats R) k ≤ 4194304) :
    Calls Tryz.prog 215 #[.slice A R.length c] w fun e w' => ∃ y : Ys,e = .returned (.slice (y 0).A ((dats R).flatten).length (y 0).c) ∧ True ∧ Below w.heap.size w w' ∧ NewOk w.heap.size [.row 204 4 (y 0).A ((dats R).flatten).length (y 0).c (fl (dats R).flatten)] [] w' := by
  obtain ⟨h1,h2⟩ := h
  have H2 := Lib.hid h2;clear h2
  have HT := Lib.hid ht;clear ht
  refine ok_enter 36 Tryz.func215 rfl rfl rfl ?_
  repeat' (first|refine Wa ?_|refine Wb ?_|refine Wc ?_|refine ok_then_exit ?_|refine Wd ?_|refine We ?_|refine Wf ?_|refine ok_in_exit ?_|refine ok_in_other rfl ?_|(refine ok_cond rfl (fun hc => ?_) (fun hc => ?_) <;> (have hd := hc;try simp only [jj] at hd))|refine Wg ?_|refine Wh ?_|refine Wi ?_|(refine Zr 0 ?_;refine Za ?_;refine Ze1 0 ?_)|(refine Zr 1 ?_;refine Za ?_;refine Ze2 0 3 ?_)|(refine Zr 2 ?_;refine Zm ?_;refine Zq (ps_len rfl rfl) ?_;refine Zm ?_;refine Ze5 0 3 9 10 11 ?_)|(refine Zr 3 ?_;refine Zi ?_;refine Ze6 0 3 9 10 11 12 ?_)|(refine Zr 4 ?_;refine Zq (by first | exact ps_indexN rfl rfl rfl (by omega) (by first | exact isw_ga _ | exact isw_some _ | exact isw_row 0 rfl (by omega) | exact isw_row 1 rfl (by omega) | exact isw_row 2 rfl (by omega) | exact isw_row 3 rfl (by omega) | exact isw_row 4 rfl (by omega) | exact isw_row 5 rfl (by omega) | exact isw_row 6 rfl (by omega) | exact isw_row 7 rfl (by omega) | exact isw_row 8 rfl (by omega) | exact isw_of (isS_fl (by assumption) (by omega)) | exact isw_of (by assumption)) | exact ps_index rfl rfl rfl (by omega) (by first | exact isw_ga _ | exact isw_some _ | exact isw_row 0 rfl (by omega) | exact isw_row 1 rfl (by omega) | exact isw_row 2 rfl (by omega) | exact isw_row 3 rfl (by omega) | exact isw_row 4 rfl (by omega) | exact isw_row 5 rfl (by omega) | exact isw_row 6 rfl (by omega) | exact isw_row 7 rfl (by omega) | exact isw_row 8 rfl (by omega) | exact isw_of (isS_fl (by assumption) (by omega)) | exact isw_of (by assumption))) ?_;refine Zq (by exact ps_load rfl rfl (by first | exact Rds.cell (rds_box 0 rfl) rfl | exact Rds.cell (rds_box 1 rfl) rfl | exact Rds.cell (rds_box 2 rfl) rfl | exact Rds.cell (rds_box 3 rfl) rfl | exact Rds.cell (rds_box 4 rfl) rfl | exact Rds.cell (rds_box 5 rfl) rfl | exact Rds.cell (rds_box 6 rfl) rfl | exact Rds.cell (rds_box 7 rfl) rfl | exact Rds.cell (rds_box 8 rfl) rfl | exact Rds.cell (rds_box 9 rfl) rfl | exact Rds.cell (rds_box 10 rfl) rfl | exact Rds.cell (rds_box 11 rfl) rfl | exact Rds.cell (rds_box 12 rfl) rfl | exact Rds.cell (rds_box 13 rfl) rfl | exact Rds.cell (rds_box 14 rfl) rfl | exact Rds.cell (rds_box 15 rfl) rfl | exact Rds.cell (rds_box 16 rfl) rfl | exact Rds.cell (rds_box 17 rfl) rfl | exact Rds.cell (rds_box 18 rfl) rfl | exact Rds.cell (rds_box 19 rfl) rfl | exact Rds.cell (rds_box 20 rfl) rfl | exact Rds.cell (rds_box 21 rfl) rfl | exact Rds.cell (rds_box 22 rfl) rfl | exact Rds.cell (rds_box 23 rfl) rfl | exact Rds.cell (rds_rf (by assumption) (by first | exact List.mem_cons_self | exact List.mem_cons_of_mem _ List.mem_cons_self | simp)) (by first | exact fl_at0 _ _ (by omega) (by decide) | exact fl_at _ _ _ (by omega) (by decide)) | exact Rds.cell (rds_row 0 rfl) (by first | exact fl_at0 _ _ (by omega) (by decide) | exact fl_at _ _ _ (by omega) (by decide)) | exact Rds.cell (rds_row 1 rfl) (by first | exact fl_at0 _ _ (by omega) (by decide) | exact fl_at _ _ _ (by omega) (by decide)) | exact Rds.cell (rds_row 2 rfl) (by first | exact fl_at0 _ _ (by omega) (by decide) | exact fl_at _ _ _ (by omega) (by decide)) | exact Rds.cell (rds_row 3 rfl) (by first | exact fl_at0 _ _ (by omega) (by decide) | exact fl_at _ _ _ (by omega) (by decide)) | exact Rds.cell (rds_row 4 rfl) (by first | exact fl_at0 _ _ (by omega) (by decide) | exact fl_at _ _ _ (by omega) (by decide)) | exact Rds.cell (rds_row 5 rfl) (by first | exact fl_at0 _ _ (by omega) (by decide) | exact fl_at _ _ _ (by omega) (by decide)) | exact Rds.cell (rds_row 6 rfl) (by first | exact fl_at0 _ _ (by omega) (by decide) | exact fl_at _ _ _ (by omega) (by decide)) | exact Rds.cell (rds_row 7 rfl) (by first | exact fl_at0 _ _ (by omega) (by decide) | exact fl_at _ _ _ (by omega) (by decide)) | exact Rds.cell (rds_row 8 rfl) (by first | exact fl_at0 _ _ (by omega) (by decide) | exact fl_at _ _ _ (by omega) (by decide)) | exact Rds.cell (rds_row 9 rfl) (by first | exact fl_at0 _ _ (by omega) (by decide) | exact fl_at _ _ _ (by omega) (by decide)))) ?_;refine Za ?_;refine Ze6 0 3 5 9 10 11 ?_)|(refine Zr 5 ?_;refine Zm ?_;refine Zm ?_;refine Zq (ps_len rfl rfl) ?_;refine Zq (by exact ps_add rfl rfl rfl (by omega)) ?_;refine Za ?_;refine Ze5 0 3 9 10 11 ?_)|(refine Zr 6 ?_;refine Zm ?_;refine Zi ?_;refine Ze6 0 3 9 10 11 20 ?_)|(refine Zr 7 ?_;refine Zq (by fail "no rule makeInterface") ?_;refine Zq (by fail "no rule panic") ?_;refine Ze5 0 3 9 10 11 ?_)|(refine Zr 8 ?_;refine Zq (by exact ps_add rfl rfl rfl (by omega)) ?_;refine Zm ?_;refine Ze5 0 3 9 10 11 ?_)|(refine Zr 9 ?_;refine Zm ?_;refine Zn (by fail "no maker call") ?_;rintro y24 hy24;refine Za ?_;refine Ze2 0 6 ?_)|(refine Zr 10 ?_;refine Zm ?_;refine Zq (ps_len rfl rfl) ?_;refine Zm ?_;refine Ze4 6 25 26 27 ?_)|(refine Zr 11 ?_;refine Zi ?_;refine Ze5 6 25 26 27 28 ?_)|(refine Zr 12 ?_;refine Zq (by first | exact ps_indexN rfl rfl rfl (by omega) (by first | exact isw_ga _ | exact isw_some _ | exact isw_row 0 rfl (by omega) | exact isw_row 1 rfl (by omega) | exact isw_row 2 rfl (by omega) | exact isw_row 3 rfl (by omega) | exact isw_row 4 rfl (by omega) | exact isw_row 5 rfl (by omega) | exact isw_row 6 rfl (by omega) | exact isw_row 7 rfl (by omega) | exact isw_row 8 rfl (by omega) | exact isw_of (isS_fl (by assumption) (by omega)) | exact isw_of (by assumption)) | exact ps_index rfl rfl rfl (by omega) (by first | exact isw_ga _ | exact isw_some _ | exact isw_row 0 rfl (by omega) | exact isw_row 1 rfl (by omega) | exact isw_row 2 rfl (by omega) | exact isw_row 3 rfl (by omega) | exact isw_row 4 rfl (by omega) | exact isw_row 5 rfl (by omega) | exact isw_row 6 rfl (by omega) | exact isw_row 7 rfl (by omega) | exact isw_row 8 rfl (by omega) | exact isw_of (isS_fl (by assumption) (by omega)) | exact isw_of (by assumption))) ?_;refine Zq (by exact ps_load rfl rfl (by first | exact Rds.cell (rds_box 0 rfl) rfl | exact Rds.cell (rds_box 1 rfl) rfl | exact Rds.cell (rds_box 2 rfl) rfl | exact Rds.cell (rds_box 3 rfl) rfl | exact Rds.cell (rds_box 4 rfl) rfl | exact Rds.cell (rds_box 5 rfl) rfl | exact Rds.cell (rds_box 6 rfl) rfl | exact Rds.cell (rds_box 7 rfl) rfl | exact Rds.cell (rds_box 8 rfl) rfl | exact Rds.cell (rds_box 9 rfl) rfl | exact Rds.cell (rds_box 10 rfl) rfl | exact Rds.cell (rds_box 11 rfl) rfl | exact Rds.cell (rds_box 12 rfl) rfl | exact Rds.cell (rds_box 13 rfl) rfl | exact Rds.cell (rds_box 14 rfl) rfl | exact Rds.cell (rds_box 15 rfl) rfl | exact Rds.cell (rds_box 16 rfl) rfl | exact Rds.cell (rds_box 17 rfl) rfl | exact Rds.cell (rds_box 18 rfl) rfl | exact Rds.cell (rds_box 19 rfl) rfl | exact Rds.cell (rds_box 20 rfl) rfl | exact Rds.cell (rds_box 21 rfl) rfl | exact Rds.cell (rds_box 22 rfl) rfl | exact Rds.cell (rds_box 23 rfl) rfl | exact Rds.cell (rds_rf (by assumption) (by first | exact List.mem_cons_self | exact List.mem_cons_of_mem _ List.mem_cons_self | simp)) (by first | exact fl_at0 _ _ (by omega) (by decide) | exact fl_at _ _ _ (by omega) (by decide)) | exact Rds.cell (rds_row 0 rfl) (by first | exact fl_at0 _ _ (by omega) (by decide) | exact fl_at _ _ _ (by omega) (by decide)) | exact Rds.cell (rds_row 1 rfl) (by first | exact fl_at0 _ _ (by omega) (by decide) | exact fl_at _ _ _ (by omega) (by decide)) | exact Rds.cell (rds_row 2 rfl) (by first | exact fl_at0 _ _ (by omega) (by decide) | exact fl_at _ _ _ (by omega) (by decide)) | exact Rds.cell (rds_row 3 rfl) (by first | exact fl_at0 _ _ (by omega) (by decide) | exact fl_at _ _ _ (by omega) (by decide)) | exact Rds.cell (rds_row 4 rfl) (by first | exact fl_at0 _ _ (by omega) (by decide) | exact fl_at _ _ _ (by omega) (by decide)) | exact Rds.cell (rds_row 5 rfl) (by first | exact fl_at0 _ _ (by omega) (by decide) | exact fl_at _ _ _ (by omega) (by decide)) | exact Rds.cell (rds_row 6 rfl) (by first | exact fl_at0 _ _ (by omega) (by decide) | exact fl_at _ _ _ (by omega) (by decide)) | exact Rds.cell (rds_row 7 rfl) (by first | exact fl_at0 _ _ (by omega) (by decide) | exact fl_at _ _ _ (by omega) (by decide)) | exact Rds.cell (rds_row 8 rfl) (by first | exact fl_at0 _ _ (by omega) (by decide) | exact fl_at _ _ _ (by omega) (by decide)) | exact Rds.cell (rds_row 9 rfl) (by first | exact fl_at0 _ _ (by omega) (by decide) | exact fl_at _ _ _ (by omega) (by decide)))) ?_;refine Za ?_;refine Ze5 6 8 25 26 27 ?_)|(refine Zr 13 ?_;refine Zm ?_;refine Zm ?_;refine Zn (by fail "no maker call") ?_;rintro y33 hy33;refine Za ?_;refine Ze4 6 25 26 27 ?_)|(refine Zr 14 ?_;refine Zq (by exact ps_add rfl rfl rfl (by omega)) ?_;refine Zm ?_;refine Ze4 6 25 26 27 ?_)|(refine Zr 15 ?_;refine Zm ?_;refine Za ?_;refine Ze1 2 ?_))
  refine ok_loop (ι := { k : Nat // k ≤ R.length }) (fun k => R.length - k.1) (fun k => ([(0,.slice A R.length c),(3,.int .i64 (offR List.length (dats R) k.1 : Int)),(9,.slice A R.length c),(10,.int .i64 R.length),(11,.int .i64 k.1)],[],_)) ⟨0,by omega⟩ (fun a w he hw => ⟨⟨0,by omega⟩,he.sub ⟨rfl,rfl,rfl,rfl,rfl,trivial⟩,hw⟩) ?_
  rintro ⟨k,hk⟩
  simp only at hk ⊢
  have ho := HT.out k
  have ho1 : k < R.length → offR List.length (dats R) k + (nth R k).d.length ≤ 4194304 := fun h => by rw [← offEnt_succ R k h];exact HT.out (k + 1)
  repeat' (first|refine Wa ?_|refine Wb ?_|refine Wc ?_|refine ok_then_exit ?_|refine Wd ?_|refine We ?_|refine Wf ?_|refine ok_in_exit ?_|refine ok_in_other rfl ?_|(refine ok_cond rfl (fun hc => ?_) (fun hc => ?_) <;> (have hd := hc;try simp only [jj] at hd))|refine Wg ?_|refine Wh ?_|refine Wi ?_|(refine Zr 0 ?_;refine Za ?_;refine Ze1 0 ?_)|(refine Zr 1 ?_;refine Za ?_;refine Ze2 0 3 ?_)|(refine Zr 2 ?_;refine Zm ?_;refine Zq (ps_len rfl rfl) ?_;refine Zm ?_;refine Ze5 0 3 9 10 11 ?_)|(refine Zr 3 ?_;refine Zi ?_;refine Ze6 0 3 9 10 11 12 ?_)|(refine Zr 4 ?_;refine Zq (by first | exact ps_indexN rfl rfl rfl (by omega) (by first | exact isw_ga _ | exact isw_some _ | exact isw_row 0 rfl (by omega) | exact isw_row 1 rfl (by omega) | exact isw_row 2 rfl (by omega) | exact isw_row 3 rfl (by omega) | exact isw_row 4 rfl (by omega) | exact isw_row 5 rfl (by omega) | exact isw_row 6 rfl (by omega) | exact isw_row 7 rfl (by omega) | exact isw_row 8 rfl (by omega) | exact isw_of (isS_fl (by assumption) (by omega)) | exact isw_of (by assumption)) | exact ps_index rfl rfl rfl (by omega) (by first | exact isw_ga _ | exact isw_some _ | exact isw_row 0 rfl (by omega) | exact isw_row 1 rfl (by omega) | exact isw_row 2 rfl (by omega) | exact isw_row 3 rfl (by omega) | exact isw_row 4 rfl (by omega) | exact isw_row 5 rfl (by omega) | exact isw_row 6 rfl (by omega) | exact isw_row 7 rfl (by omega) | exact isw_row 8 rfl (by omega) | exact isw_of (isS_fl (by assumption) (by omega)) | exact isw_of (by assumption))) ?_;refine Zq (by exact ps_load rfl rfl (by first | exact Rds.cell (rds_box 0 rfl) rfl | exact Rds.cell (rds_box 1 rfl) rfl | exact Rds.cell (rds_box 2 rfl) rfl | exact Rds.cell (rds_box 3 rfl) rfl | exact Rds.cell (rds_box 4 rfl) rfl | exact Rds.cell (rds_box 5 rfl) rfl | exact Rds.cell (rds_box 6 rfl) rfl | exact Rds.cell (rds_box 7 rfl) rfl | exact Rds.cell (rds_box 8 rfl) rfl | exact Rds.cell (rds_box 9 rfl) rfl | exact Rds.cell (rds_box 10 rfl) rfl | exact Rds.cell (rds_box 11 rfl) rfl | exact Rds.cell (rds_box 12 rfl) rfl | exact Rds.cell (rds_box 13 rfl) rfl | exact Rds.cell (rds_box 14 rfl) rfl | exact Rds.cell (rds_box 15 rfl) rfl | exact Rds.cell (rds_box 16 rfl) rfl | exact Rds.cell (rds_box 17 rfl) rfl | exact Rds.cell (rds_box 18 rfl) rfl | exact Rds.cell (rds_box 19 rfl) rfl | exact Rds.cell (rds_box 20 rfl) rfl | exact Rds.cell (rds_box 21 rfl) rfl | exact Rds.cell (rds_box 22 rfl) rfl | exact Rds.cell (rds_box 23 rfl) rfl | exact Rds.cell (rds_rf (by assumption) (by first | exact List.mem_cons_self | exact List.mem_cons_of_mem _ List.mem_cons_self | simp)) (by first | exact fl_at0 _ _ (by omega) (by decide) | exact fl_at _ _ _ (by omega) (by decide)) | exact Rds.cell (rds_row 0 rfl) (by first | exact fl_at0 _ _ (by omega) (by decide) | exact fl_at _ _ _ (by omega) (by decide)) | exact Rds.cell (rds_row 1 rfl) (by first | exact fl_at0 _ _ (by omega) (by decide) | exact fl_at _ _ _ (by omega) (by decide)) | exact Rds.cell (rds_row 2 rfl) (by first | exact fl_at0 _ _ (by omega) (by decide) | exact fl_at _ _ _ (by omega) (by decide)) | exact Rds.cell (rds_row 3 rfl) (by first | exact fl_at0 _ _ (by omega) (by decide) | exact fl_at _ _ _ (by omega) (by decide)) | exact Rds.cell (rds_row 4 rfl) (by first | exact fl_at0 _ _ (by omega) (by decide) | exact fl_at _ _ _ (by omega) (by decide)) | exact Rds.cell (rds_row 5 rfl) (by first | exact fl_at0 _ _ (by omega) (by decide) | exact fl_at _ _ _ (by omega) (by decide)) | exact Rds.cell (rds_row 6 rfl) (by first | exact fl_at0 _ _ (by omega) (by decide) | exact fl_at _ _ _ (by omega) (by decide)) | exact Rds.cell (rds_row 7 rfl) (by first | exact fl_at0 _ _ (by omega) (by decide) | exact fl_at _ _ _ (by omega) (by decide)) | exact Rds.cell (rds_row 8 rfl) (by first | exact fl_at0 _ _ (by omega) (by decide) | exact fl_at _ _ _ (by omega) (by decide)) | exact Rds.cell (rds_row 9 rfl) (by first | exact fl_at0 _ _ (by omega) (by decide) | exact fl_at _ _ _ (by omega) (by decide)))) ?_;refine Za ?_;refine Ze6 0 3 5 9 10 11 ?_)|(refine Zr 5 ?_;refine Zm ?_;refine Zm ?_;refine Zq (ps_len rfl rfl) ?_;refine Zq (by first | exact ps_add (n := ((nth R k).d.length : Int)) rfl rfl rfl (by have := ho1 (by omega);omega) | exact ps_add rfl rfl rfl (by omega)) ?_;refine Za ?_;refine Ze5 0 3 9 10 11 ?_)|(refine Zr 6 ?_;refine Zm ?_;refine Zi ?_;refine Ze6 0 3 9 10 11 20 ?_)|(refine Zr 7 ?_;refine Zq (by fail "no rule makeInterface") ?_;refine Zq (by fail "no rule panic") ?_;refine Ze5 0 3 9 10 11 ?_)|(refine Zr 8 ?_;refine Zq (by exact ps_add rfl rfl rfl (by omega)) ?_;refine Zm ?_;refine Ze5 0 3 9 10 11 ?_)|(refine Zr 9 ?_;refine Zm ?_;refine Zn (by exact ms_c2 rfl rfl rfl (fun _ _ w hw => growEnt_c _ (HT.out k) w)) ?_;rintro y24 hy24;refine Za ?_;refine Ze2 0 6 ?_)|(refine Zr 10 ?_;refine Zm ?_;refine Zq (ps_len rfl rfl) ?_;refine Zm ?_;refine Ze4 6 25 26 27 ?_)|(refine Zr 11 ?_;refine Zi ?_;refine Ze5 6 25 26 27 28 ?_)|(refine Zr 12 ?_;refine Zq (by first | exact ps_indexN rfl rfl rfl (by omega) (by first | exact isw_ga _ | exact isw_some _ | exact isw_row 0 rfl (by omega) | exact isw_row 1 rfl (by omega) | exact isw_row 2 rfl (by omega) | exact isw_row 3 rfl (by omega) | exact isw_row 4 rfl (by omega) | exact isw_row 5 rfl (by omega) | exact isw_row 6 rfl (by omega) | exact isw_row 7 rfl (by omega) | exact isw_row 8 rfl (by omega) | exact isw_of (isS_fl (by assumption) (by omega)) | exact isw_of (by assumption)) | exact ps_index rfl rfl rfl (by omega) (by first | exact isw_ga _ | exact isw_some _ | exact isw_row 0 rfl (by omega) | exact isw_row 1 rfl (by omega) | exact isw_row 2 rfl (by omega) | exact isw_row 3 rfl (by omega) | exact isw_row 4 rfl (by omega) | exact isw_row 5 rfl (by omega) | exact isw_row 6 rfl (by omega) | exact isw_row 7 rfl (by omega) | exact isw_row 8 rfl (by omega) | exact isw_of (isS_fl (by assumption) (by omega)) | exact isw_of (by assumption))) ?_;refine Zq (by exact ps_load rfl rfl (by first | exact Rds.cell (rds_box 0 rfl) rfl | exact Rds.cell (rds_box 1 rfl) rfl | exact Rds.cell (rds_box 2 rfl) rfl | exact Rds.cell (rds_box 3 rfl) rfl | exact Rds.cell (rds_box 4 rfl) rfl | exact Rds.cell (rds_box 5 rfl) rfl | exact Rds.cell (rds_box 6 rfl) rfl | exact Rds.cell (rds_box 7 rfl) rfl | exact Rds.cell (rds_box 8 rfl) rfl | exact Rds.cell (rds_box 9 rfl) rfl | exact Rds.cell (rds_box 10 rfl) rfl | exact Rds.cell (rds_box 11 rfl) rfl | exact Rds.cell (rds_box 12 rfl) rfl | exact Rds.cell (rds_box 13 rfl) rfl | exact Rds.cell (rds_box 14 rfl) rfl | exact Rds.cell (rds_box 15 rfl) rfl | exact Rds.cell (rds_box 16 rfl) rfl | exact Rds.cell (rds_box 17 rfl) rfl | exact Rds.cell (rds_box 18 rfl) rfl | exact Rds.cell (rds_box 19 rfl) rfl | exact Rds.cell (rds_box 20 rfl) rfl | exact Rds.cell (rds_box 21 rfl) rfl | exact Rds.cell (rds_box 22 rfl) rfl | exact Rds.cell (rds_box 23 rfl) rfl | exact Rds.cell (rds_rf (by assumption) (by first | exact List.mem_cons_self | exact List.mem_cons_of_mem _ List.mem_cons_self | simp)) (by first | exact fl_at0 _ _ (by omega) (by decide) | exact fl_at _ _ _ (by omega) (by decide)) | exact Rds.cell (rds_row 0 rfl) (by first | exact fl_at0 _ _ (by omega) (by decide) | exact fl_at _ _ _ (by omega) (by decide)) | exact Rds.cell (rds_row 1 rfl) (by first | exact fl_at0 _ _ (by omega) (by decide) | exact fl_at _ _ _ (by omega) (by decide)) | exact Rds.cell (rds_row 2 rfl) (by first | exact fl_at0 _ _ (by omega) (by decide) | exact fl_at _ _ _ (by omega) (by decide)) | exact Rds.cell (rds_row 3 rfl) (by first | exact fl_at0 _ _ (by omega) (by decide) | exact fl_at _ _ _ (by omega) (by decide)) | exact Rds.cell (rds_row 4 rfl) (by first | exact fl_at0 _ _ (by omega) (by decide) | exact fl_at _ _ _ (by omega) (by decide)) | exact Rds.cell (rds_row 5 rfl) (by first | exact fl_at0 _ _ (by omega) (by decide) | exact fl_at _ _ _ (by omega) (by decide)) | exact Rds.cell (rds_row 6 rfl) (by first | exact fl_at0 _ _ (by omega) (by decide) | exact fl_at _ _ _ (by omega) (by decide)) | exact Rds.cell (rds_row 7 rfl) (by first | exact fl_at0 _ _ (by omega) (by decide) | exact fl_at _ _ _ (by omega) (by decide)) | exact Rds.cell (rds_row 8 rfl) (by first | exact fl_at0 _ _ (by omega) (by decide) | exact fl_at _ _ _ (by omega) (by decide)) | exact Rds.cell (rds_row 9 rfl) (by first | exact fl_at0 _ _ (by omega) (by decide) | exact fl_at _ _ _ (by omega) (by decide)))) ?_;refine Za ?_;refine Ze5 6 8 25 26 27 ?_)|(refine Zr 13 ?_;refine Zm ?_;refine Zm ?_;refine Zn (by fail "no maker call") ?_;rintro y33 hy33;refine Za ?_;refine Ze4 6 25 26 27 ?_)|(refine Zr 14 ?_;refine Zq (by exact ps_add rfl rfl rfl (by omega)) ?_;refine Zm ?_;refine Ze4 6 25 26 27 ?_)|(refine Zr 15 ?_;refine Zm ?_;refine Za ?_;refine Ze1 2 ?_))
  · exfalso;omega
  · refine fun a w' he hw => ⟨⟨k + 1,by omega⟩,by simp only;omega,he.sub ⟨rfl,?_,rfl,rfl,rfl,trivial⟩,hw⟩
    simp only [look];congr 2;rw [offEnt_succ R k (by omega)];simp
  · clear hk ho ho1
    refine ok_loop (ι := { p : Nat × Option Addr × Nat // p.1 ≤ R.length }) (fun p => R.length - p.1.1) (fun p => ([(6,.slice p.1.2.1 (((dats R).take p.1.1).flatten).length p.1.2.2),(25,.slice A R.length c),(26,.int .i64 R.length),(27,.int .i64 p.1.1)],[.row 204 4 p.1.2.1 (((dats R).take p.1.1).flatten).length p.1.2.2 (fl ((dats R).take p.1.1).flatten)],_)) ⟨(0,(y24 0).A,(y24 0).c),by simp⟩ (fun a w he hw => ⟨⟨(0,(y24 0).A,(y24 0).c),by simp⟩,he.sub ⟨rfl,rfl,rfl,rfl,trivial⟩,hw⟩) ?_
    rintro ⟨⟨k,B,d⟩,hk⟩
    simp only at hk ⊢
    have ho1 : k < R.length → (((dats R).take k).flatten).length + (nth R k).d.length ≤ 4194304 := fun h => by rw [catEnt_len,← offEnt_succ R k h];exact HT.out (k + 1)
    repeat' (first|refine Wa ?_|refine Wb ?_|refine Wc ?_|refine ok_then_exit ?_|refine Wd ?_|refine We ?_|refine Wf ?_|refine ok_in_exit ?_|refine ok_in_other rfl ?_|(refine ok_cond rfl (fun hc => ?_) (fun hc => ?_) <;> (have hd := hc;try simp only [jj] at hd))|refine Wg ?_|refine Wh ?_|refine Wi ?_|(refine Zr 0 ?_;refine Za ?_;refine Ze1 0 ?_)|(refine Zr 1 ?_;refine Za ?_;refine Ze2 0 3 ?_)|(refine Zr 2 ?_;refine Zm ?_;refine Zq (ps_len rfl rfl) ?_;refine Zm ?_;refine Ze5 0 3 9 10 11 ?_)|(refine Zr 3 ?_;refine Zi ?_;refine Ze6 0 3 9 10 11 12 ?_)|(refine Zr 4 ?_;refine Zq (by first | exact ps_indexN rfl rfl rfl (by omega) (by first | exact isw_ga _ | exact isw_some _ | exact isw_row 0 rfl (by omega) | exact isw_row 1 rfl (by omega) | exact isw_row 2 rfl (by omega) | exact isw_row 3 rfl (by omega) | exact isw_row 4 rfl (by omega) | exact isw_row 5 rfl (by omega) | exact isw_row 6 rfl (by omega) | exact isw_row 7 rfl (by omega) | exact isw_row 8 rfl (by omega) | exact isw_of (isS_fl (by assumption) (by omega)) | exact isw_of (by assumption)) | exact ps_index rfl rfl rfl (by omega) (by first | exact isw_ga _ | exact isw_some _ | exact isw_row 0 rfl (by omega) | exact isw_row 1 rfl (by omega) | exact isw_row 2 rfl (by omega) | exact isw_row 3 rfl (by omega) | exact isw_row 4 rfl (by omega) | exact isw_row 5 rfl (by omega) | exact isw_row 6 rfl (by omega) | exact isw_row 7 rfl (by omega) | exact isw_row 8 rfl (by omega) | exact isw_of (isS_fl (by assumption) (by omega)) | exact isw_of (by assumption))) ?_;refine Zq (by exact ps_load rfl rfl (by first | exact Rds.cell (rds_box 0 rfl) rfl | exact Rds.cell (rds_box 1 rfl) rfl | exact Rds.cell (rds_box 2 rfl) rfl | exact Rds.cell (rds_box 3 rfl) rfl | exact Rds.cell (rds_box 4 rfl) rfl | exact Rds.cell (rds_box 5 rfl) rfl | exact Rds.cell (rds_box 6 rfl) rfl | exact Rds.cell (rds_box 7 rfl) rfl | exact Rds.cell (rds_box 8 rfl) rfl | exact Rds.cell (rds_box 9 rfl) rfl | exact Rds.cell (rds_box 10 rfl) rfl | exact Rds.cell (rds_box 11 rfl) rfl | exact Rds.cell (rds_box 12 rfl) rfl | exact Rds.cell (rds_box 13 rfl) rfl | exact Rds.cell (rds_box 14 rfl) rfl | exact Rds.cell (rds_box 15 rfl) rfl | exact Rds.cell (rds_box 16 rfl) rfl | exact Rds.cell (rds_box 17 rfl) rfl | exact Rds.cell (rds_box 18 rfl) rfl | exact Rds.cell (rds_box 19 rfl) rfl | exact Rds.cell (rds_box 20 rfl) rfl | exact Rds.cell (rds_box 21 rfl) rfl | exact Rds.cell (rds_box 22 rfl) rfl | exact Rds.cell (rds_box 23 rfl) rfl | exact Rds.cell (rds_rf (by assumption) (by first | exact List.mem_cons_self | exact List.mem_cons_of_mem _ List.mem_cons_self | simp)) (by first | exact fl_at0 _ _ (by omega) (by decide) | exact fl_at _ _ _ (by omega) (by decide)) | exact Rds.cell (rds_row 0 rfl) (by first | exact fl_at0 _ _ (by omega) (by decide) | exact fl_at _ _ _ (by omega) (by decide)) | exact Rds.cell (rds_row 1 rfl) (by first | exact fl_at0 _ _ (by omega) (by decide) | exact fl_at _ _ _ (by omega) (by decide)) | exact Rds.cell (rds_row 2 rfl) (by first | exact fl_at0 _ _ (by omega) (by decide) | exact fl_at _ _ _ (by omega) (by decide)) | exact Rds.cell (rds_row 3 rfl) (by first | exact fl_at0 _ _ (by omega) (by decide) | exact fl_at _ _ _ (by omega) (by decide)) | exact Rds.cell (rds_row 4 rfl) (by first | exact fl_at0 _ _ (by omega) (by decide) | exact fl_at _ _ _ (by omega) (by decide)) | exact Rds.cell (rds_row 5 rfl) (by first | exact fl_at0 _ _ (by omega) (by decide) | exact fl_at _ _ _ (by omega) (by decide)) | exact Rds.cell (rds_row 6 rfl) (by first | exact fl_at0 _ _ (by omega) (by decide) | exact fl_at _ _ _ (by omega) (by decide)) | exact Rds.cell (rds_row 7 rfl) (by first | exact fl_at0 _ _ (by omega) (by decide) | exact fl_at _ _ _ (by omega) (by decide)) | exact Rds.cell (rds_row 8 rfl) (by first | exact fl_at0 _ _ (by omega) (by decide) | exact fl_at _ _ _ (by omega) (by decide)) | exact Rds.cell (rds_row 9 rfl) (by first | exact fl_at0 _ _ (by omega) (by decide) | exact fl_at _ _ _ (by omega) (by decide)))) ?_;refine Za ?_;refine Ze6 0 3 5 9 10 11 ?_)|(refine Zr 5 ?_;refine Zm ?_;refine Zm ?_;refine Zq (ps_len rfl rfl) ?_;refine Zq (by exact ps_add rfl rfl rfl (by omega)) ?_;refine Za ?_;refine Ze5 0 3 9 10 11 ?_)|(refine Zr 6 ?_;refine Zm ?_;refine Zi ?_;refine Ze6 0 3 9 10 11 20 ?_)|(refine Zr 7 ?_;refine Zq (by fail "no rule makeInterface") ?_;refine Zq (by fail "no rule panic") ?_;refine Ze5 0 3 9 10 11 ?_)|(refine Zr 8 ?_;refine Zq (by exact ps_add rfl rfl rfl (by omega)) ?_;refine Zm ?_;refine Ze5 0 3 9 10 11 ?_)|(refine Zr 9 ?_;refine Zm ?_;refine Zn (by fail "no maker call") ?_;rintro y24 hy24;refine Za ?_;refine Ze2 0 6 ?_)|(refine Zr 10 ?_;refine Zm ?_;refine Zq (ps_len rfl rfl) ?_;refine Zm ?_;refine Ze4 6 25 26 27 ?_)|(refine Zr 11 ?_;refine Zi ?_;refine Ze5 6 25 26 27 28 ?_)|(refine Zr 12 ?_;refine Zq (by first | exact ps_indexN rfl rfl rfl (by omega) (by first | exact isw_ga _ | exact isw_some _ | exact isw_row 0 rfl (by omega) | exact isw_row 1 rfl (by omega) | exact isw_row 2 rfl (by omega) | exact isw_row 3 rfl (by omega) | exact isw_row 4 rfl (by omega) | exact isw_row 5 rfl (by omega) | exact isw_row 6 rfl (by omega) | exact isw_row 7 rfl (by omega) | exact isw_row 8 rfl (by omega) | exact isw_of (isS_fl (by assumption) (by omega)) | exact isw_of (by assumption)) | exact ps_index rfl rfl rfl (by omega) (by first | exact isw_ga _ | exact isw_some _ | exact isw_row 0 rfl (by omega) | exact isw_row 1 rfl (by omega) | exact isw_row 2 rfl (by omega) | exact isw_row 3 rfl (by omega) | exact isw_row 4 rfl (by omega) | exact isw_row 5 rfl (by omega) | exact isw_row 6 rfl (by omega) | exact isw_row 7 rfl (by omega) | exact isw_row 8 rfl (by omega) | exact isw_of (isS_fl (by assumption) (by omega)) | exact isw_of (by assumption))) ?_;refine Zq (by exact ps_load rfl rfl (by first | exact Rds.cell (rds_box 0 rfl) rfl | exact Rds.cell (rds_box 1 rfl) rfl | exact Rds.cell (rds_box 2 rfl) rfl | exact Rds.cell (rds_box 3 rfl) rfl | exact Rds.cell (rds_box 4 rfl) rfl | exact Rds.cell (rds_box 5 rfl) rfl | exact Rds.cell (rds_box 6 rfl) rfl | exact Rds.cell (rds_box 7 rfl) rfl | exact Rds.cell (rds_box 8 rfl) rfl | exact Rds.cell (rds_box 9 rfl) rfl | exact Rds.cell (rds_box 10 rfl) rfl | exact Rds.cell (rds_box 11 rfl) rfl | exact Rds.cell (rds_box 12 rfl) rfl | exact Rds.cell (rds_box 13 rfl) rfl | exact Rds.cell (rds_box 14 rfl) rfl | exact Rds.cell (rds_box 15 rfl) rfl | exact Rds.cell (rds_box 16 rfl) rfl | exact Rds.cell (rds_box 17 rfl) rfl | exact Rds.cell (rds_box 18 rfl) rfl | exact Rds.cell (rds_box 19 rfl) rfl | exact Rds.cell (rds_box 20 rfl) rfl | exact Rds.cell (rds_box 21 rfl) rfl | exact Rds.cell (rds_box 22 rfl) rfl | exact Rds.cell (rds_box 23 rfl) rfl | exact Rds.cell (rds_rf (by assumption) (by first | exact List.mem_cons_self | exact List.mem_cons_of_mem _ List.mem_cons_self | simp)) (by first | exact fl_at0 _ _ (by omega) (by decide) | exact fl_at _ _ _ (by omega) (by decide)) | exact Rds.cell (rds_row 0 rfl) (by first | exact fl_at0 _ _ (by omega) (by decide) | exact fl_at _ _ _ (by omega) (by decide)) | exact Rds.cell (rds_row 1 rfl) (by first | exact fl_at0 _ _ (by omega) (by decide) | exact fl_at _ _ _ (by omega) (by decide)) | exact Rds.cell (rds_row 2 rfl) (by first | exact fl_at0 _ _ (by omega) (by decide) | exact fl_at _ _ _ (by omega) (by decide)) | exact Rds.cell (rds_row 3 rfl) (by first | exact fl_at0 _ _ (by omega) (by decide) | exact fl_at _ _ _ (by omega) (by decide)) | exact Rds.cell (rds_row 4 rfl) (by first | exact fl_at0 _ _ (by omega) (by decide) | exact fl_at _ _ _ (by omega) (by decide)) | exact Rds.cell (rds_row 5 rfl) (by first | exact fl_at0 _ _ (by omega) (by decide) | exact fl_at _ _ _ (by omega) (by decide)) | exact Rds.cell (rds_row 6 rfl) (by first | exact fl_at0 _ _ (by omega) (by decide) | exact fl_at _ _ _ (by omega) (by decide)) | exact Rds.cell (rds_row 7 rfl) (by first | exact fl_at0 _ _ (by omega) (by decide) | exact fl_at _ _ _ (by omega) (by decide)) | exact Rds.cell (rds_row 8 rfl) (by first | exact fl_at0 _ _ (by omega) (by decide) | exact fl_at _ _ _ (by omega) (by decide)) | exact Rds.cell (rds_row 9 rfl) (by first | exact fl_at0 _ _ (by omega) (by decide) | exact fl_at _ _ _ (by omega) (by decide)))) ?_;refine Za ?_;refine Ze5 6 8 25 26 27 ?_)|(refine Zr 13 ?_;refine Zm ?_;refine Zm ?_;refine Zn (by exact ms_appF (α := Ent) (L := ((dats R).take k).flatten) (M := (nth R k).d) 0 rfl rfl rfl rfl (rds_rf (H2.out k (by omega)) (by first | exact List.mem_cons_self | exact List.mem_cons_of_mem _ List.mem_cons_self | simp)) rfl (by have := ho1 (by omega);omega) (by have := ho1 (by omega);omega)) ?_;rintro y33 hy33;refine Za ?_;refine Ze4 6 25 26 27 ?_)|(refine Zr 14 ?_;refine Zq (by exact ps_add rfl rfl rfl (by omega)) ?_;refine Zm ?_;refine Ze4 6 25 26 27 ?_)|(refine Zr 15 ?_;refine Zm ?_;refine Za ?_;refine Ze1 2 ?_))
    · refine fun a w' he hw => ⟨⟨(k + 1,(y33 0).A,(y33 0).c),by simp only;omega⟩,by simp only;omega,he.sub ⟨?_,rfl,rfl,rfl,trivial⟩,?_⟩
      · simp only [look];rw [catEnt_step R k (by omega),List.length_append]
      · simp only
        rw [catEnt_step R k (by omega),List.length_append]
        exact hw
    · obtain rfl : k = R.length := by omega
      refine ok_endL (vs := [_]) rfl ⟨rfl,trivial⟩ (fun w' hw => ⟨mkY B d w',?_,trivial,hw.below,?_⟩)
      · rw [← dats_len,List.take_length];rfl
      · rw [← dats_len,List.take_length] at hw
        exact NewOk.of (G := []) (hw.sel [0] (by decide) rfl (fun _ h => by cases h))
end Go.Proofs.YtmfojbidojjciaaGreat
