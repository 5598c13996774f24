/- Texts of this claim, one behind the other: Rds, DtP, JoP, BkP, SldP, BtSlot, Sld, SltP, DlP, RbP, ChaP, LnkP, WrpP, StQ, ElKeySlot, ChaI, ChaS, StK, StE, ElEnt. -/
import Derived.Test.YtmfojbidojjciaaGreatPrAccounts1
import Derived.Test.YtmfojbidojjciaaGreatPrAccounts2
import Derived.KernelRfl
import Derived.Laws.Tables
set_option linter.unusedVariables false
set_option linter.unusedSimpArgs false
set_option maxRecDepth 20000
set_option maxHeartbeats 4000000
namespace Go.Proofs.YtmfojbidojjciaaGreat
open Go.RowKit
section
variable {P : Program} {E : Env} {H : List HObj} {G : List World} {o : Oper}
theorem ps_sslE {x : Operand} {lo hi : Option Operand} {t : TypeId} {s : ByteArray} (l h : Nat) [ht : SS P t] (ho : o.op = .slice t x lo hi none) (hx : opd E x = some (.string s))
    (hlo : (match lo with | none => l = 0 | some y => ∃ k z,opd E y = some (.int k z) ∧ z = (l : Int))) (hhi : (match hi with | none => h = s.size | some y => ∃ k z,opd E y = some (.int k z) ∧ z = (h : Int))) (h1 : l ≤ h) (h2 : h ≤ s.size) :
    PStep P E H G o (.string (s.extract l h)) := by
  refine ps_sslice ho hx ?_ ?_ h1 h2
  · cases lo with
    | none => subst hlo;rfl
    | some y => obtain ⟨k,z,a,b⟩ := hlo;subst b;exact ⟨k,a⟩
  · cases hi with
    | none => exact hhi
    | some y => obtain ⟨k,z,a,b⟩ := hhi;subst b;exact ⟨k,a⟩
end
def tkN (s : ByteArray) (k : Nat) : Option (Nat × Nat) := (rv ((bl s).drop k)).map fun p => (p.1,k + p.2)
def tkS (s : ByteArray) (k : Nat) : Option (ByteArray × Nat) := (tkN s k).bind fun p => if p.2 + p.1 ≤ s.size then some (s.extract p.2 (p.2 + p.1),p.2 + p.1) else none
theorem tkN_some {s : ByteArray} {k n e : Nat} (h : tkN s k = some (n,e)) : k < e ∧ e ≤ s.size ∧ e ≤ k + 7 ∧ n < 562949953421312 ∧ (bl s).drop k = varL n ++ (bl s).drop e := by
  unfold tkN at h
  cases hr : rv ((bl s).drop k) with
  | none => rw [hr] at h;cases h
  | some p =>
    obtain ⟨m,z⟩ := p
    rw [hr] at h
    cases h
    obtain ⟨a,b,c,d,f⟩ := rv_some hr
    rw [List.length_drop,bl_len] at c
    refine ⟨by omega,by omega,by omega,d,?_⟩
    rw [f,← List.drop_drop]
    exact (List.take_append_drop z _).symm
theorem tkS_some {s r : ByteArray} {k e : Nat} (h : tkS s k = some (r,e)) : k < e ∧ e ≤ s.size ∧ (bl s).drop k = bl (pieceS r) ++ (bl s).drop e := by
  unfold tkS at h
  cases hr : tkN s k with
  | none => rw [hr] at h;cases h
  | some p =>
    obtain ⟨n,q⟩ := p
    rw [hr] at h
    simp only [Option.bind_some] at h
    split at h
    · rename_i hle
      cases h
      obtain ⟨a,b,c,d,f⟩ := tkN_some hr
      have hz : (s.extract q (q + n)).size = n := by rw [ByteArray.size_extract];omega
      refine ⟨by omega,by omega,?_⟩
      rw [f]
      unfold pieceS
      rw [bl_app,hz,bl_extract,List.append_assoc]
      have e1 : bl (vS n) = varL n := rfl
      rw [e1]
      congr 1
      rw [← List.drop_drop,List.drop_take,show q + n - q = n by omega]
      exact (List.take_append_drop n _).symm
    · cases h
theorem rvN_tk (s : ByteArray) (k : Nat) (hk : k ≤ s.size) : rvN (bl (s.extract k s.size)) = rvN ((bl s).drop k) := by
  rw [bl_extract,List.take_of_length_le (by rw [bl_len];omega)]
theorem tkN_z (s : ByteArray) (k : Nat) : tkN s k = if (rvN ((bl s).drop k)).2 = 0 then none else some ((rvN ((bl s).drop k)).1,k + (rvN ((bl s).drop k)).2) := by
  unfold tkN rvN
  cases hr : rv ((bl s).drop k) with
  | none => rfl
  | some p =>
    obtain ⟨m,z⟩ := p
    have := (rv_some hr).1
    simp only [Option.map_some,Option.getD_some]
    rw [if_neg (by omega)]
def rdN (s : ByteArray) (k : Nat) (bad : Bool) : Nat × Nat × Bool := if bad = true then (0,k,true) else match tkN s k with
  | none => (0,k,true)
  | some (n,e) => (n,e,false)
def rdB (s : ByteArray) (n k : Nat) (bad : Bool) : ByteArray × Nat × Bool := if bad = true ∨ s.size < k + n then (⟨#[]⟩,k,true) else (s.extract k (k + n),k + n,false)
def rdS (s : ByteArray) (k : Nat) (bad : Bool) : ByteArray × Nat × Bool := rdB s (rdN s k bad).1 (rdN s k bad).2.1 (rdN s k bad).2.2
theorem rdN_le (s : ByteArray) (k : Nat) (bad : Bool) (h : k ≤ s.size) : (rdN s k bad).2.1 ≤ s.size ∧ (rdN s k bad).1 < 562949953421312 := by
  unfold rdN
  split
  · exact ⟨h,by omega⟩
  · split
    · exact ⟨h,by omega⟩
    · rename_i n e hn
      have := tkN_some hn
      exact ⟨this.2.1,this.2.2.2.1⟩
theorem rdB_le (s : ByteArray) (n k : Nat) (bad : Bool) (h : k ≤ s.size) : (rdB s n k bad).2.1 ≤ s.size := by
  unfold rdB
  split
  · exact h
  · simp only;omega
theorem rdS_le (s : ByteArray) (k : Nat) (bad : Bool) (h : k ≤ s.size) : (rdS s k bad).2.1 ≤ s.size := rdB_le _ _ _ _ (rdN_le s k bad h).1
theorem rdS_tk (s : ByteArray) (k : Nat) : (rdS s k false).2.2 = (tkS s k).isNone ∧ ∀ r e,tkS s k = some (r,e) → rdS s k false = (r,e,false) := by
  unfold rdS rdN tkS
  cases h : tkN s k with
  | none => simp [rdB]
  | some p =>
    obtain ⟨n,e⟩ := p
    simp only [Option.bind_some,if_neg (show ¬ (false = true) by simp)]
    unfold rdB
    by_cases hle : e + n ≤ s.size
    · rw [if_pos hle,if_neg (by simp;omega)]
      simp
    · rw [if_neg hle,if_pos (by right;omega)]
      simp
theorem rdS_bad (s : ByteArray) (k : Nat) : (rdS s k true).2.2 = true := by simp [rdS,rdN,rdB]
attribute [local irreducible] Calls
abbrev rdr (g : Nat) (s : ByteArray) (k : Nat) (bad : Bool) : HObj := .box g 271 [.string s,.int .i64 k,.bool bad]
theorem rdB_c (g : Nat) (s : ByteArray) (n k : Nat) (bad : Bool) (hs : s.size ≤ 4194304) (hk : k ≤ s.size) (hn : n < 562949953421312) {base : Nat} {w0 w : World} {H : List HObj} {G : List World} (hw : WOk base w0 (rdr g s k bad :: H) G w) :
    Calls Tryz.prog 242 #[pt (ga g) 0,.int .i64 n] w fun e w' => ∃ y : Ys,e = .returned (.string (rdB s n k bad).1) ∧ True ∧ WOk base w0 (rdr g s (rdB s n k bad).2.1 (rdB s n k bad).2.2 :: H) G w' := by
  refine ok_enterW 49 Tryz.func242 rfl rfl rfl hw ?_
  repeat' (first|refine Wa ?_|refine Wb ?_|refine Wc ?_|(refine ok_cond rfl (fun hc => ?_) (fun hc => ?_) <;> (have hd := hc;try simp only [jj] at hd))|refine Wg ?_|refine Wi ?_|(refine Zr 0 ?_;refine Za ?_;refine Ze2 0 1 ?_)|(refine Xd 1 18 ?_;refine Xm 0 ?_;refine Xt 1 rfl (by exact ps_nil rfl rfl (isw_ga _)) ?_;refine Xf 2 ?_;refine Xl 3 0 ?_;refine Xm 4 ?_;refine Xg 5 rfl rfl rfl rfl (gF _) (fun hp => by exact ps_move rfl rfl) ?_;refine Xg 6 rfl rfl rfl rfl (gF _) (fun hp => by exact ps_move rfl rfl) ?_;refine Xg 7 rfl rfl rfl rfl (gF _) (fun hp => by (exact ps_nil rfl (Og rfl) (isw_ga _))) ?_;refine Xg 8 rfl rfl rfl rfl (gF _) (fun hp => by (exact ps_field rfl (Og rfl) (isw_ga _))) ?_;refine Xg 9 rfl rfl rfl rfl (gF _) (fun hp => by (exact ps_load rfl (Og rfl) (by exact Rds.cell (rds_box 0 rfl) rfl))) ?_;refine Xg 10 rfl rfl rfl rfl (gF _) (fun hp => by (exact ps_slen rfl (Og rfl))) ?_;refine Xg 11 rfl rfl rfl rfl (gF _) (fun hp => by exact ps_move rfl rfl) ?_;refine Xg 12 rfl rfl rfl rfl (gF _) (fun hp => by (exact ps_nil rfl (Og rfl) (isw_ga _))) ?_;refine Xg 13 rfl rfl rfl rfl (gF _) (fun hp => by (exact ps_field rfl (Og rfl) (isw_ga _))) ?_;refine Xg 14 rfl rfl rfl rfl (gF _) (fun hp => by (exact ps_load rfl (Og rfl) (by exact Rds.cell (rds_box 0 rfl) rfl))) ?_;refine Xg 15 rfl rfl rfl rfl (gF _) (fun hp => by (have hpd := hp;(try simp only [jj] at hpd);exact ps_sub rfl (Og rfl) (Og rfl) (by omega))) ?_;refine Xg 16 rfl rfl rfl rfl (gF _) (fun hp => by (exact ps_int rfl (Og rfl) (Og rfl) rfl)) ?_;refine Xt 17 rfl (ps_or rfl rfl rfl) ?_;refine okT_done (by kernel_rfl) ?_;refine Ze3 0 1 22 ?_)|(refine Zr 2 ?_;refine Zm ?_;refine Zq (by exact ps_nil rfl rfl (isw_ga _)) ?_;refine Zf ?_;refine Zo (ms_store 0 rfl rfl rfl rfl rfl rfl rfl rfl) ?_;rintro y_ hy_;refine Ze0 ?_)|(refine Zr 3 ?_;refine Za ?_;refine Ze1 4 ?_)|(refine Zr 4 ?_;refine Zm ?_;refine Zq (by exact ps_nil rfl rfl (isw_ga _)) ?_;refine Zf ?_;refine Zl 0 ?_;refine Zm ?_;refine Zq (by exact ps_add rfl rfl rfl (by omega)) ?_;refine Zq (by exact ps_nil rfl rfl (isw_ga _)) ?_;refine Zf ?_;refine Zo (ms_store 0 rfl rfl rfl rfl rfl rfl rfl rfl) ?_;rintro y_ hy_;refine Ze2 0 1 ?_)|(refine Xd 5 16 ?_;refine Xm 0 ?_;refine Xt 1 rfl (by exact ps_nil rfl rfl (isw_ga _)) ?_;refine Xf 2 ?_;refine Xl 3 0 ?_;refine Xm 4 ?_;refine Xt 5 rfl (by exact ps_nil rfl rfl (isw_ga _)) ?_;refine Xf 6 ?_;refine Xl 7 0 ?_;refine Xm 8 ?_;refine Xt 9 rfl (by exact ps_sub rfl rfl rfl (by omega)) ?_;refine Xm 10 ?_;refine Xt 11 rfl (by exact ps_nil rfl rfl (isw_ga _)) ?_;refine Xf 12 ?_;refine Xl 13 0 ?_;refine Xt 14 rfl (by exact ps_sslE k (k + n) rfl rfl ⟨_,_,rfl,by omega⟩ ⟨_,_,rfl,by omega⟩ (by omega) (by omega)) ?_;refine Xt 15 rfl (ps_assign rfl rfl) ?_;refine okT_done (by kernel_rfl) ?_;refine Ze1 4 ?_))
  · have e : rdB s n k bad = (⟨#[]⟩,k,true) := by
      unfold rdB;rw [if_pos (by rcases hd with h | h;exact .inl h;exact .inr (by omega))]
    rw [e]
    exact ok_endL (vs := [_]) rfl ⟨rfl,trivial⟩ (fun w' hw => ⟨mkY none 0 w,rfl,trivial,hw⟩)
  · have e : rdB s n k bad = (s.extract k (k + n),k + n,false) := by
      unfold rdB;rw [if_neg (by rintro (h | h);rw [hd.1] at h;cases h;omega)]
    obtain rfl : bad = false := hd.1
    rw [e]
    exact ok_endL (vs := [_]) rfl ⟨rfl,trivial⟩ (fun w' hw => ⟨mkY none 0 w,rfl,trivial,hw⟩)
theorem rdN_c (g : Nat) (s : ByteArray) (k : Nat) (bad : Bool) (hs : s.size ≤ 4194304) (hk : k ≤ s.size) {base : Nat} {w0 w : World} {H : List HObj} {G : List World} (hw : WOk base w0 (rdr g s k bad :: H) G w) :
    Calls Tryz.prog 241 #[pt (ga g) 0] w fun e w' => ∃ y : Ys,e = .returned (.int .i64 (rdN s k bad).1) ∧ True ∧ WOk base w0 (rdr g s (rdN s k bad).2.1 (rdN s k bad).2.2 :: H) G w' := by
  have q := rvN_tk s k hk
  have z := tkN_z s k
  have qb : k + (rvN ((bl s).drop k)).2 ≤ s.size ∧ (rvN ((bl s).drop k)).2 ≤ 7 := by
    by_cases h0 : (rvN ((bl s).drop k)).2 = 0
    · omega
    · rw [if_neg h0] at z
      have := tkN_some z
      omega
  refine ok_enterW 36 Tryz.func241 rfl rfl rfl hw ?_
  repeat' (first|refine Wa ?_|refine Wb ?_|refine Wc ?_|(refine ok_cond rfl (fun hc => ?_) (fun hc => ?_) <;> (have hd := hc;try simp only [jj] at hd))|refine Wg ?_|refine Wi ?_|(refine Zr 0 ?_;refine Za ?_;refine Ze1 0 ?_)|(refine Zr 1 ?_;refine Zm ?_;refine Zq (by exact ps_nil rfl rfl (isw_ga _)) ?_;refine Zf ?_;refine Zl 0 ?_;refine Ze2 0 8 ?_)|(refine Zr 2 ?_;refine Za ?_;refine Ze1 2 ?_))
  · have e : rdN s k bad = (0,k,true) := by unfold rdN;rw [if_pos hd]
    rw [e]
    subst hd
    exact ok_endL (vs := [_]) rfl ⟨rfl,trivial⟩ (fun w' hw => ⟨mkY none 0 w,rfl,trivial,hw⟩)
  subst hd
  repeat' (first|refine Wa ?_|refine Wb ?_|refine Wc ?_|(refine ok_cond rfl (fun hc => ?_) (fun hc => ?_) <;> (have hd := hc;try simp only [jj] at hd))|refine Wg ?_|refine Wi ?_|(refine ok_draw (id := 3) 15 rfl (by kernel_rfl) (by kernel_rfl) rfl (by repeat (first | exact pq_body | refine pq_then ?_ | refine pq_in ?_)) [0] (by decide) rfl ?_;refine Xm 0 ?_;refine Xt 1 rfl (by exact ps_nil rfl rfl (isw_ga _)) ?_;refine Xf 2 ?_;refine Xl 3 0 ?_;refine Xm 4 ?_;refine Xt 5 rfl (by exact ps_nil rfl rfl (isw_ga _)) ?_;refine Xf 6 ?_;refine Xl 7 0 ?_;refine Xt 8 rfl (by exact ps_sslE k s.size rfl rfl ⟨_,_,rfl,rfl⟩ rfl hk (by omega)) ?_;refine Xo 9 rfl (by exact ms_s1 rfl rfl (fun _ _ w hw => by have := i_ReadVar_c (s.extract k s.size) (by rw [ByteArray.size_extract];omega) w;rw [q] at this;exact this)) (fun y w _ h => by exact h.sel [0] (by decide) rfl (fun _ h => h)) ?_;rintro y19 hy19;refine Xm 10 ?_;refine Xt 11 rfl (ps_extract rfl rfl rfl) ?_;refine Xt 12 rfl (ps_extract rfl rfl rfl) ?_;refine Xt 13 rfl (ps_assign rfl rfl) ?_;refine Xt 14 rfl (ps_assign rfl rfl) ?_;refine okT_done (by kernel_rfl) ?_;refine Ze3 0 3 4 ?_)|(refine Zr 4 ?_;refine Zm ?_;refine Zi ?_;refine Ze4 0 3 4 23 ?_)|(refine Zr 5 ?_;refine Zm ?_;refine Zq (by exact ps_nil rfl rfl (isw_ga _)) ?_;refine Zf ?_;refine Zo (ms_store 0 rfl rfl rfl rfl rfl rfl rfl rfl) ?_;rintro y_ hy_;refine Ze0 ?_)|(refine Zr 6 ?_;refine Za ?_;refine Ze1 2 ?_)|(refine Zr 7 ?_;refine Zm ?_;refine Zq (by exact ps_nil rfl rfl (isw_ga _)) ?_;refine Zf ?_;refine Zl 0 ?_;refine Zm ?_;refine Zq (by exact ps_add rfl rfl rfl (by omega)) ?_;refine Zq (by exact ps_nil rfl rfl (isw_ga _)) ?_;refine Zf ?_;refine Zo (ms_store 0 rfl rfl rfl rfl rfl rfl rfl rfl) ?_;rintro y_ hy_;refine Ze1 3 ?_)|(refine Zr 8 ?_;refine Zm ?_;refine Za ?_;refine Ze1 2 ?_))
  · have h0 : (rvN ((bl s).drop k)).2 = 0 := by omega
    have e : rdN s k false = (0,k,true) := by unfold rdN;rw [if_neg (by simp),z,if_pos h0]
    rw [e]
    exact ok_endL (vs := [_]) rfl ⟨rfl,trivial⟩ (fun w' hw => ⟨mkY none 0 w,rfl,trivial,hw⟩)
  · have h0 : ¬ (rvN ((bl s).drop k)).2 = 0 := by omega
    have e : rdN s k false = ((rvN ((bl s).drop k)).1,k + (rvN ((bl s).drop k)).2,false) := by unfold rdN;rw [if_neg (by simp),z,if_neg h0]
    rw [e]
    exact ok_endL (vs := [_]) rfl ⟨rfl,trivial⟩ (fun w' hw => ⟨mkY none 0 w,rfl,trivial,hw⟩)
theorem rdS_c (g : Nat) (s : ByteArray) (k : Nat) (bad : Bool) (hs : s.size ≤ 4194304) (hk : k ≤ s.size) {base : Nat} {w0 w : World} {H : List HObj} {G : List World} (hw : WOk base w0 (rdr g s k bad :: H) G w) :
    Calls Tryz.prog 322 #[pt (ga g) 0] w fun e w' => ∃ y : Ys,e = .returned (.string (rdS s k bad).1) ∧ True ∧ WOk base w0 (rdr g s (rdS s k bad).2.1 (rdS s k bad).2.2 :: H) G w' := by
  have hb := rdN_le s k bad hk
  refine ok_enterW 9 Tryz.func322 rfl rfl rfl hw ?_
  repeat' (first|refine Wa ?_|refine Wb ?_|refine Wg ?_|(refine Zr 0 ?_;refine Za ?_;refine Ze1 0 ?_)|(refine Zr 1 ?_;refine Zm ?_;refine Zn (by exact ms_w1 (fun _ _ _ h => h) rfl rfl (fun _ _ w hw => rdN_c g s k bad hs hk hw)) ?_;rintro y5 hy5;refine Za ?_;refine Ze2 0 3 ?_)|(refine Zr 2 ?_;refine Zm ?_;refine Zm ?_;refine Zn (by exact ms_w2 (fun _ _ _ h => h) rfl rfl rfl (fun _ _ w hw => rdB_c g s (rdN s k bad).1 (rdN s k bad).2.1 (rdN s k bad).2.2 hs hb.1 hb.2 hw)) ?_;rintro y8 hy8;refine Za ?_;refine Ze1 2 ?_))
  exact ok_endL (vs := [_]) rfl ⟨rfl,trivial⟩ (fun w' hw => ⟨mkY none 0 w,rfl,trivial,hw⟩)
def rdD (s : ByteArray) (k : Nat) (bad : Bool) : Bool := !bad && ((k : Int) == (s.size : Int))
theorem rdD_c (g : Nat) (s : ByteArray) (k : Nat) (bad : Bool) {base : Nat} {w0 w : World} {H : List HObj} {G : List World} (hw : WOk base w0 (rdr g s k bad :: H) G w) :
    Calls Tryz.prog 243 #[pt (ga g) 0] w fun e w' => ∃ y : Ys,e = .returned (.bool (rdD s k bad)) ∧ True ∧ WOk base w0 (rdr g s k bad :: H) G w' := by
  refine ok_enterW 20 Tryz.func243 rfl rfl rfl hw ?_
  repeat' (first|refine Wa ?_|refine Wb ?_|refine Wg ?_|(refine Zr 0 ?_;refine Za ?_;refine Ze1 0 ?_)|(refine Xd 1 18 ?_;refine Xm 0 ?_;refine Xt 1 rfl (by exact ps_nil rfl rfl (isw_ga _)) ?_;refine Xf 2 ?_;refine Xl 3 0 ?_;refine Xt 4 rfl (ps_not rfl rfl) ?_;refine Xm 5 ?_;refine Xg 6 rfl rfl rfl rfl (gT _) (fun hp => by exact ps_move rfl rfl) ?_;refine Xg 7 rfl rfl rfl rfl (gT _) (fun hp => by (exact ps_nil rfl (Og rfl) (isw_ga _))) ?_;refine Xg 8 rfl rfl rfl rfl (gT _) (fun hp => by (exact ps_field rfl (Og rfl) (isw_ga _))) ?_;refine Xg 9 rfl rfl rfl rfl (gT _) (fun hp => by (exact ps_load rfl (Og rfl) (by exact Rds.cell (rds_box 0 rfl) rfl))) ?_;refine Xg 10 rfl rfl rfl rfl (gT _) (fun hp => by exact ps_move rfl rfl) ?_;refine Xg 11 rfl rfl rfl rfl (gT _) (fun hp => by (exact ps_nil rfl (Og rfl) (isw_ga _))) ?_;refine Xg 12 rfl rfl rfl rfl (gT _) (fun hp => by (exact ps_field rfl (Og rfl) (isw_ga _))) ?_;refine Xg 13 rfl rfl rfl rfl (gT _) (fun hp => by (exact ps_load rfl (Og rfl) (by exact Rds.cell (rds_box 0 rfl) rfl))) ?_;refine Xg 14 rfl rfl rfl rfl (gT _) (fun hp => by (exact ps_slen rfl (Og rfl))) ?_;refine Xg 15 rfl rfl rfl rfl (gT _) (fun hp => by (exact ps_int rfl (Og rfl) (Og rfl) rfl)) ?_;refine Xt 16 rfl (ps_and rfl rfl rfl) ?_;refine Xt 17 rfl (ps_assign rfl rfl) ?_;refine okT_done (by kernel_rfl) ?_;refine Ze1 2 ?_))
  exact ok_endL (vs := [_]) rfl ⟨rfl,trivial⟩ (fun w' hw => ⟨mkY none 0 w,rfl,trivial,hw⟩)
def tkV (s : ByteArray) (z : Int) : Option (Nat × Nat) := if 0 ≤ z ∧ z ≤ s.size then tkN s z.toNat else none
def tkW (s : ByteArray) (z : Int) : Option (ByteArray × Nat) := if 0 ≤ z ∧ z ≤ s.size then tkS s z.toNat else none
def tkE {α : Type} (r : Option (α × Nat)) : Int := match r with
  | none => -1
  | some p => p.2
def tkL (r : Option (Nat × Nat)) : List Int := match r with
  | none => []
  | some p => [(p.1 : Int)]
def tkT (r : Option (ByteArray × Nat)) : ByteArray := match r with
  | none => ⟨#[]⟩
  | some p => p.1
structure VarI (s : ByteArray) (z : Int) where
  i : Nat
  at_ : Int
  l : List Int
  A : Option Addr
  c : Nat
  ok : (i = 0 ∧ at_ = z ∧ l = []) ∨ (i = 1 ∧ tkE (tkV s z) = at_ ∧ l = tkL (tkV s z) ∧ l.length = 1 ∧ 0 ≤ at_ ∧ at_ ≤ s.size)
theorem s_l6Vars1 (s : ByteArray) (z : Int) (hs : s.size ≤ 4194304) (hz : -9223372036854775808 ≤ z ∧ z ≤ 9223372036854775807) (w : World) :
    Calls Tryz.prog 129 #[.string s,.int .i64 z,.int .i64 1] w fun e w' => ∃ y : Ys,e = .returned (.tuple #[.slice (y 0).A (tkL (tkV s z)).length (y 0).c,.int .i64 (tkE (tkV s z))]) ∧ True ∧ Below w.heap.size w w' ∧ NewOk w.heap.size [.row 3 1 (y 0).A (tkL (tkV s z)).length (y 0).c (fl (tkL (tkV s z)))] [] w' := by
  refine ok_enter 46 Tryz.func129 rfl rfl rfl ?_
  repeat' (first|refine Wa ?_|refine Wb ?_|refine Wd ?_|(refine Zr 0 ?_;refine Za ?_;refine Za ?_;refine Ze3 0 1 2 ?_)|(refine Zr 1 ?_;refine Zn (by exact ms_lit rfl parts_nil rfl rfl rfl) ?_;rintro y12 hy12;refine Za ?_;refine Ze4 0 1 2 8 ?_)|(refine Zr 2 ?_;refine Za ?_;refine Ze5 0 1 2 8 9 ?_))
  refine ok_loop (ι := VarI s z) (fun q => 1 - q.i) (fun q => ([(0,.string s),(1,.int .i64 q.at_),(2,.int .i64 1),(8,.slice q.A q.l.length q.c),(9,.int .i64 q.i)],[.row 3 1 q.A q.l.length q.c (fl q.l)],_)) ⟨0,z,[],none,0,.inl ⟨rfl,rfl,rfl⟩⟩ (fun a w he hw => ⟨⟨0,z,[],ga (y12 0).c,0,.inl ⟨rfl,rfl,rfl⟩⟩,he.sub ⟨rfl,rfl,rfl,rfl,rfl,trivial⟩,hw⟩) ?_
  rintro ⟨i,at_,l,A,c,ok⟩
  simp only
  rcases ok with ⟨rfl,rfl,rfl⟩ | ⟨rfl,e1,e2,e3,e4,e5⟩
  · have q := fun (h : 0 ≤ at_ ∧ at_ ≤ s.size) => rvN_tk s at_.toNat (by omega)
    have zz := tkN_z s at_.toNat
    have hlt := fun (h : 0 ≤ at_ ∧ at_ ≤ s.size) (h0 : ¬ (rvN ((bl s).drop at_.toNat)).2 = 0) => tkN_some (s := s) (k := at_.toNat) (by rw [zz,if_neg h0])
    have Q := Lib.hid q
    have ZZ := Lib.hid zz
    have HLT := Lib.hid hlt
    clear q zz hlt
    have b7 : (rvN ((bl s).drop at_.toNat)).2 ≤ 7 := by
      unfold rvN
      cases hr : rv ((bl s).drop at_.toNat) with
      | none => simp
      | some p => obtain ⟨m,z⟩ := p;exact (rv_some hr).2.1
    repeat' (first|refine Wa ?_|refine Wb ?_|refine Wc ?_|refine Wd ?_|refine We ?_|refine Wf ?_|(refine ok_cond rfl (fun hc => ?_) (fun hc => ?_) <;> (have hd := hc;try simp only [jj] at hd))|refine Wg ?_|refine Wh ?_|refine Wi ?_|(refine Zr 3 ?_;refine Zm ?_;refine Zm ?_;refine Zi ?_;refine Ze6 0 1 2 8 9 15 ?_)|(refine Zr 4 ?_;refine Zm ?_;refine Zq (by exact ps_add rfl rfl rfl (by omega)) ?_;refine Za ?_;refine Ze5 0 1 2 8 9 ?_)|(refine Zr 5 ?_;refine Zm ?_;refine Zi ?_;refine Zm ?_;refine Zg rfl rfl rfl (gF _) (fun hp => by exact ps_move rfl rfl) ?_;refine Zg rfl rfl rfl (gF _) (fun hp => by exact ps_move rfl rfl) ?_;refine Zg rfl rfl rfl (gF _) (fun hp => by (exact ps_slen rfl (Og rfl))) ?_;refine Zg rfl rfl rfl (gF _) (fun hp => by (exact ps_int rfl (Og rfl) (Og rfl) rfl)) ?_;refine Zq (ps_or rfl rfl rfl) ?_;refine Ze6 0 1 2 8 9 25 ?_)|(refine Zr 6 ?_;refine Zm ?_;refine Za ?_;refine Za ?_;refine Ze2 6 7 ?_)|(refine Zr 7 ?_;refine Zm ?_;refine Zm ?_;refine Zq (by exact ps_sslE at_.toNat s.size rfl rfl ⟨_,_,rfl,by omega⟩ rfl (by omega) (by omega)) ?_;refine Zn (by exact ms_s1 rfl rfl (fun _ _ w hw => by have := s_ReadVar_c (s.extract at_.toNat s.size) (by rw [ByteArray.size_extract];omega) w;rw [Q.out (by omega)] at this;exact this)) ?_;rintro y31 hy31;refine Zm ?_;refine Zq (ps_extract rfl rfl rfl) ?_;refine Zq (ps_extract rfl rfl rfl) ?_;refine Za ?_;refine Za ?_;refine Ze7 0 1 2 8 9 10 11 ?_)|(refine Zr 8 ?_;refine Zm ?_;refine Zi ?_;refine Ze8 0 1 2 8 9 10 11 35 ?_)|(refine Zr 9 ?_;refine Zm ?_;refine Za ?_;refine Za ?_;refine Ze2 6 7 ?_)|(refine Zr 10 ?_;refine Zm ?_;refine Zm ?_;refine Zn (by exact ms_lit rfl (parts_cons rfl parts_nil) rfl rfl rfl) ?_;rintro y39 hy39;refine Zn (by exact ms_appF (α := Int) (L := []) (M := [((rvN ((bl s).drop at_.toNat)).1 : Int)]) 1 rfl rfl rfl rfl (rds_row 0 rfl) rfl (by simp) (by simp)) ?_;rintro y40 hy40;refine Za ?_;refine Ze6 0 1 2 8 9 11 ?_)|(refine Zr 11 ?_;refine Zm ?_;refine Zm ?_;refine Zq (by exact ps_add rfl rfl rfl (by omega)) ?_;refine Za ?_;refine Ze5 0 1 2 8 9 ?_)|(refine Zr 12 ?_;refine Zm ?_;refine Zm ?_;refine Za ?_;refine Za ?_;refine Ze2 6 7 ?_))
    · have e : tkV s at_ = none := by unfold tkV;rw [if_neg (by omega)]
      rw [e]
      refine ok_endL (vs := [_,_]) rfl ⟨rfl,rfl,trivial⟩ (fun w' hw => ⟨mkY A c w,rfl,trivial,hw.below,?_⟩)
      exact NewOk.of (hw.sel [0] (by decide) rfl (G' := []) (fun _ h => by cases h))
    · have e : tkV s at_ = none := by unfold tkV;rw [if_pos (by omega),ZZ.out,if_pos (by omega)]
      rw [e]
      refine ok_endL (vs := [_,_]) rfl ⟨rfl,rfl,trivial⟩ (fun w' hw => ⟨mkY A c w,rfl,trivial,hw.below,?_⟩)
      exact NewOk.of (hw.sel [0] (by decide) rfl (G' := []) (fun _ h => by cases h))
    · have e : tkV s at_ = some ((rvN ((bl s).drop at_.toNat)).1,at_.toNat + (rvN ((bl s).drop at_.toNat)).2) := by unfold tkV;rw [if_pos (by omega),ZZ.out,if_neg (by omega)]
      have hh := HLT.out (by omega) (by omega)
      refine fun a w' he hw => ⟨⟨1,at_ + (rvN ((bl s).drop at_.toNat)).2,[((rvN ((bl s).drop at_.toNat)).1 : Int)],(y40 0).A,(y40 0).c,.inr ⟨rfl,?_,?_,rfl,by omega,by omega⟩⟩,by simp only;omega,he.sub ⟨rfl,rfl,rfl,rfl,rfl,trivial⟩,hw.tl⟩
      · rw [e];simp only [tkE];omega
      · rw [e];rfl
    · omega
  · skip
    repeat' (first|refine Wa ?_|refine Wb ?_|refine Wc ?_|refine Wd ?_|refine Wf ?_|(refine ok_cond rfl (fun hc => ?_) (fun hc => ?_) <;> (have hd := hc;try simp only [jj] at hd))|refine Wg ?_|refine Wh ?_|refine Wi ?_|(refine Zr 3 ?_;refine Zm ?_;refine Zm ?_;refine Zi ?_;refine Ze6 0 1 2 8 9 15 ?_)|(refine Zr 5 ?_;refine Zm ?_;refine Zi ?_;refine Zm ?_;refine Zg rfl rfl rfl (gF _) (fun hp => by exact ps_move rfl rfl) ?_;refine Zg rfl rfl rfl (gF _) (fun hp => by exact ps_move rfl rfl) ?_;refine Zg rfl rfl rfl (gF _) (fun hp => by (exact ps_slen rfl (Og rfl))) ?_;refine Zg rfl rfl rfl (gF _) (fun hp => by (exact ps_int rfl (Og rfl) (Og rfl) rfl)) ?_;refine Zq (ps_or rfl rfl rfl) ?_;refine Ze6 0 1 2 8 9 25 ?_)|(refine Zr 6 ?_;refine Zm ?_;refine Za ?_;refine Za ?_;refine Ze2 6 7 ?_)|(refine Zr 12 ?_;refine Zm ?_;refine Zm ?_;refine Za ?_;refine Za ?_;refine Ze2 6 7 ?_))
    · omega
    · omega
    · rw [e1,← e2]
      refine ok_endL (vs := [_,_]) rfl ⟨rfl,rfl,trivial⟩ (fun w' hw => ⟨mkY A c w,rfl,trivial,hw.below,?_⟩)
      exact NewOk.of (hw.sel [0] (by decide) rfl (G' := []) (fun _ h => by cases h))
theorem tkV_le {s : ByteArray} {z : Int} {n e : Nat} (h : tkV s z = some (n,e)) : e ≤ s.size ∧ n < 562949953421312 := by
  unfold tkV at h
  split at h
  · have := tkN_some h;omega
  · cases h
theorem s_l6Vars_no (s : ByteArray) (z : Int) (hs : s.size ≤ 4194304) (hz : -9223372036854775808 ≤ z ∧ z ≤ 9223372036854775807) (hv : tkV s z = none) (w : World) :
    Calls Tryz.prog 129 #[.string s,.int .i64 z,.int .i64 1] w fun e w' => ∃ y : Ys,e = .returned (.tuple #[.slice (y 0).A 0 (y 0).c,.int .i64 (-1)]) ∧ True ∧ Below w.heap.size w w' ∧ NewOk w.heap.size [.row 3 1 (y 0).A 0 (y 0).c (fl ([] : List Int))] [] w' := by
  have := s_l6Vars1 s z hs hz w
  rw [hv] at this
  exact this
theorem s_l6Vars_yes (s : ByteArray) (z : Int) (n q : Nat) (L : List Int) (hL : L = [(n : Int)]) (hs : s.size ≤ 4194304) (hz : -9223372036854775808 ≤ z ∧ z ≤ 9223372036854775807) (hv : tkV s z = some (n,q)) (w : World) :
    Calls Tryz.prog 129 #[.string s,.int .i64 z,.int .i64 1] w fun e w' => ∃ y : Ys,e = .returned (.tuple #[.slice (y 0).A 1 (y 0).c,.int .i64 q]) ∧ True ∧ Below w.heap.size w w' ∧ NewOk w.heap.size [.row 3 1 (y 0).A 1 (y 0).c (fl L)] [] w' := by
  subst hL
  have := s_l6Vars1 s z hs hz w
  rw [hv] at this
  exact this
theorem s_l6Take_c (s : ByteArray) (z : Int) (hs : s.size ≤ 4194304) (hz : -9223372036854775808 ≤ z ∧ z ≤ 9223372036854775807) (w : World) :
    Calls Tryz.prog 264 #[.string s,.int .i64 z] w fun e w' => e = .returned (.tuple #[.string (tkT (tkW s z)),.int .i64 (tkE (tkW s z))]) ∧ Below w.heap.size w w' := by
  cases hv : tkV s z with
  | none =>
    have e : tkW s z = none := by
      unfold tkV at hv
      unfold tkW
      split
      · rename_i h;rw [if_pos h] at hv;unfold tkS;rw [hv];rfl
      · rfl
    rw [e]
    refine ok_enter 39 Tryz.func264 rfl rfl rfl ?_
    repeat' (first|refine Wa ?_|refine Wb ?_|refine Wc ?_|(refine ok_cond rfl (fun hc => ?_) (fun hc => ?_) <;> (have hd := hc;try simp only [jj] at hd))|refine Wg ?_|refine Wi ?_|(refine Zr 0 ?_;refine Za ?_;refine Za ?_;refine Ze2 0 1 ?_)|(refine Zr 1 ?_;refine Zm ?_;refine Zm ?_;refine Zn (by exact ms_c3 rfl rfl rfl rfl (fun _ _ w hw => s_l6Vars_no s z hs hz hv w)) ?_;rintro y11 hy11;refine Zm ?_;refine Zq (ps_extract rfl rfl rfl) ?_;refine Zq (ps_extract rfl rfl rfl) ?_;refine Za ?_;refine Za ?_;refine Ze3 0 6 7 ?_)|(refine Zr 2 ?_;refine Zm ?_;refine Zi ?_;refine Zm ?_;refine Zg rfl rfl rfl (gF _) (fun hp => by exact ps_move rfl rfl) ?_;refine Zg rfl rfl rfl (gF _) (fun hp => by (have hpd := hp;(try simp only [jj] at hpd);exact ps_indexN rfl (Og rfl) rfl (by omega) (by exact isw_row 0 rfl (by omega)))) ?_;refine Zg rfl rfl rfl (gF _) (fun hp => by (have hpd := hp;(try simp only [jj] at hpd);exact ps_load rfl (Og rfl) (by exact Rds.cell (rds_row 0 rfl) (by exact fl_at0 _ _ (by omega) (by decide))))) ?_;refine Zg rfl rfl rfl (gF _) (fun hp => by exact ps_move rfl rfl) ?_;refine Zg rfl rfl rfl (gF _) (fun hp => by (exact ps_slen rfl (Og rfl))) ?_;refine Zg rfl rfl rfl (gF _) (fun hp => by exact ps_move rfl rfl) ?_;refine Zg rfl rfl rfl (gF _) (fun hp => by (have hpd := hp;(try simp only [jj] at hpd);exact ps_sub rfl (Og rfl) (Og rfl) (by omega))) ?_;refine Zg rfl rfl rfl (gF _) (fun hp => by (exact ps_int rfl (Og rfl) (Og rfl) rfl)) ?_;refine Zq (ps_or rfl rfl rfl) ?_;refine Ze4 0 6 7 25 ?_)|(refine Zr 3 ?_;refine Za ?_;refine Za ?_;refine Ze2 4 5 ?_))
    · exact ok_endL (vs := [_,_]) rfl ⟨rfl,rfl,trivial⟩ (fun w' hw => ⟨rfl,hw.below⟩)
    · omega
  | some p =>
    obtain ⟨n,q⟩ := p
    have hl := tkV_le hv
    have e : tkW s z = if q + n ≤ s.size then some (s.extract q (q + n),q + n) else none := by
      unfold tkV at hv
      unfold tkW
      split at hv
      · rename_i h;rw [if_pos h];unfold tkS;rw [hv];rfl
      · cases hv
    rw [e]
    obtain ⟨L,hL⟩ : ∃ L,L = [(n : Int)] := ⟨_,rfl⟩
    have h1 : L.length = 1 := by rw [hL];rfl
    have h2 : nth L (Int.toNat 0) = n := by rw [hL];rfl
    refine ok_enter 39 Tryz.func264 rfl rfl rfl ?_
    repeat' (first|refine Wa ?_|refine Wb ?_|refine Wc ?_|(refine ok_cond rfl (fun hc => ?_) (fun hc => ?_) <;> (have hd := hc;try simp only [jj] at hd))|refine Wg ?_|refine Wi ?_|(refine Zr 0 ?_;refine Za ?_;refine Za ?_;refine Ze2 0 1 ?_)|(refine Zr 1 ?_;refine Zm ?_;refine Zm ?_;refine Zn (by exact ms_c3 rfl rfl rfl rfl (fun _ _ w hw => s_l6Vars_yes s z n q L hL hs hz hv w)) ?_;rintro y11 hy11;refine Zm ?_;refine Zq (ps_extract rfl rfl rfl) ?_;refine Zq (ps_extract rfl rfl rfl) ?_;refine Za ?_;refine Za ?_;refine Ze3 0 6 7 ?_)|(refine Zr 2 ?_;refine Zm ?_;refine Zi ?_;refine Zm ?_;refine Zg rfl rfl rfl (gF _) (fun hp => by exact ps_move rfl rfl) ?_;refine Zg rfl rfl rfl (gF _) (fun hp => by (have hpd := hp;(try simp only [jj] at hpd);exact ps_index rfl (Og rfl) rfl (by omega) (by exact isw_row 0 rfl (by omega)))) ?_;refine Zg rfl rfl rfl (gF _) (fun hp => by (have hpd := hp;(try simp only [jj] at hpd);exact ps_load rfl (Og rfl) (by exact Rds.cell (rds_row 0 rfl) (by exact fl_at0 _ _ (by omega) (by decide))))) ?_;refine Zg rfl rfl rfl (gF _) (fun hp => by exact ps_move rfl rfl) ?_;refine Zg rfl rfl rfl (gF _) (fun hp => by (exact ps_slen rfl (Og rfl))) ?_;refine Zg rfl rfl rfl (gF _) (fun hp => by exact ps_move rfl rfl) ?_;refine Zg rfl rfl rfl (gF _) (fun hp => by (have hpd := hp;(try simp only [jj] at hpd);exact ps_sub rfl (Og rfl) (Og rfl) (by omega))) ?_;refine Zg rfl rfl rfl (gF _) (fun hp => by (exact ps_int rfl (Og rfl) (Og rfl) rfl)) ?_;refine Zq (ps_or rfl rfl rfl) ?_;refine Ze4 0 6 7 25 ?_)|(refine Zr 3 ?_;refine Za ?_;refine Za ?_;refine Ze2 4 5 ?_)|(refine Xd 4 15 ?_;refine Xm 0 ?_;refine Xm 1 ?_;refine Xm 2 ?_;refine Xm 3 ?_;refine Xt 4 rfl (by exact ps_index rfl rfl rfl (by omega) (by exact isw_row 0 rfl (by omega))) ?_;refine Xt 5 rfl (by exact ps_load rfl rfl (by exact Rds.cell (rds_row 0 rfl) (by exact fl_at0 _ _ (by omega) (by decide)))) ?_;refine Xt 6 rfl (by exact ps_add rfl rfl rfl (by omega)) ?_;refine Xt 7 rfl (by exact ps_sslE q (q + n) rfl rfl ⟨_,_,rfl,rfl⟩ ⟨_,_,rfl,by omega⟩ (by omega) (by omega)) ?_;refine Xm 8 ?_;refine Xm 9 ?_;refine Xt 10 rfl (by exact ps_index rfl rfl rfl (by omega) (by exact isw_row 0 rfl (by omega))) ?_;refine Xt 11 rfl (by exact ps_load rfl rfl (by exact Rds.cell (rds_row 0 rfl) (by exact fl_at0 _ _ (by omega) (by decide)))) ?_;refine Xt 12 rfl (by exact ps_add rfl rfl rfl (by omega)) ?_;refine Xt 13 rfl (ps_assign rfl rfl) ?_;refine Xt 14 rfl (ps_assign rfl rfl) ?_;refine okT_done (by kernel_rfl) ?_;refine Ze2 4 5 ?_))
    · rw [if_neg (by omega)]
      exact ok_endL (vs := [_,_]) rfl ⟨rfl,rfl,trivial⟩ (fun w' hw => ⟨rfl,hw.below⟩)
    · rw [if_pos (by omega)]
      refine ok_endL (vs := [_,_]) rfl ⟨rfl,rfl,trivial⟩ (fun w' hw => ⟨?_,hw.below⟩)
      rw [h2]
      simp only [tkT,tkE,retV,Int.natCast_add]
end Go.Proofs.YtmfojbidojjciaaGreat
namespace Go.Proofs.YtmfojbidojjciaaGreat
def catS {α : Type} (f : α → ByteArray) (L : List α) : ByteArray := L.foldl (fun s x => s ++ f x) ⟨#[]⟩
theorem catS_nil {α : Type} (f : α → ByteArray) : catS f [] = ⟨#[]⟩ := rfl
theorem catS_snoc {α : Type} (f : α → ByteArray) (L : List α) (x : α) : catS f (L ++ [x]) = catS f L ++ f x := foldl_snoc _ L _ x
theorem catS_step {α : Type} [Dat α] (f : α → ByteArray) {L : List α} {k : Nat} (h : k < L.length) : catS f (L.take (k + 1)) = catS f (L.take k) ++ f (nth L k) := by rw [takeG h,catS_snoc]
theorem catS_size {α : Type} (f : α → ByteArray) (b : Nat) : ∀ (n : Nat) (L : List α),L.length = n → (∀ x ∈ L,(f x).size ≤ b) → (catS f L).size ≤ n * b
  | 0,L,hn,h => by rw [List.length_eq_zero_iff.1 hn];exact Nat.zero_le _
  | n + 1,L,hn,h => by
    obtain ⟨x,hx⟩ : ∃ x,L = L.dropLast ++ [x] := ⟨L.getLast (by intro e;rw [e] at hn;cases hn),(List.dropLast_concat_getLast _).symm⟩
    have hl : L.dropLast.length = n := by rw [List.length_dropLast];omega
    have h1 := catS_size f b n L.dropLast hl (fun y hy => h y (List.dropLast_subset _ hy))
    have h2 := h x (by rw [hx];simp)
    rw [hx,catS_snoc,ByteArray.size_append,Nat.succ_mul]
    omega
theorem bl_cat {α : Type} (f : α → ByteArray) (L : List α) : bl (catS f L) = L.flatMap (fun x => bl (f x)) := by
  unfold catS
  have : ∀ (s : ByteArray),bl (L.foldl (fun s x => s ++ f x) s) = bl s ++ L.flatMap (fun x => bl (f x)) := by
    induction L with
    | nil => intro s;simp
    | cons x L ih => intro s;rw [List.foldl_cons,ih,bl_app,List.flatMap_cons,List.append_assoc]
  rw [this];rfl
end Go.Proofs.YtmfojbidojjciaaGreat
namespace Go.Proofs.YtmfojbidojjciaaGreat
end Go.Proofs.YtmfojbidojjciaaGreat
namespace Go.Proofs.YtmfojbidojjciaaGreat
theorem okM_of {U : List KV} (hs : srtK U) (hz : ∀ x ∈ U,kk x.key = true ∧ x.val.size ≤ 16) : mapOk U = true := by
  have h2 := srtK_iff.2 hs
  refine all_true fun i hi => ?_
  have hm := hz _ (nth_mem U i hi)
  unfold okM
  rw [hm.1]
  have h3 : decide (16 < ((nth U i).val.size : Int)) = false := by simp;omega
  rw [h3]
  by_cases h0 : 0 < i
  · have : sLt (nth U (i - 1)).key (nth U i).key = true := h2 (i - 1) i (by omega) hi
    rw [this];simp
  · simp;omega
end Go.Proofs.YtmfojbidojjciaaGreat
namespace Go.Proofs.YtmfojbidojjciaaGreat
def one0 (s : ByteArray) : Option (Nat × ByteArray) := (tkV s 4).bind fun p => (tkW s p.2).map fun q => (p.1,q.1)
def one (s : ByteArray) : Option (Nat × ByteArray) := (one0 s).bind fun p => if showS p.1 p.2 = s then some p else none
end Go.Proofs.YtmfojbidojjciaaGreat
namespace Go.Proofs.YtmfojbidojjciaaGreat
open Go.RowKit
attribute [local irreducible] Calls
structure DSlot where
  seq : Int
  root : ByteArray
  deriving DecidableEq
end Go.Proofs.YtmfojbidojjciaaGreat
namespace Go.Proofs.YtmfojbidojjciaaGreat
open Go.RowKit
def fSl (s : ByteArray) : DSlot := match one s with
  | none => ⟨0,⟨#[]⟩⟩
  | some p => ⟨p.1,p.2⟩
attribute [local irreducible] Calls
def selF (a b : ByteArray) : DSlot × Bool × Bool := if ((one b).isSome && (!(one a).isSome || decide ((fSl a).seq < (fSl b).seq))) = true then (fSl b,true,true) else (fSl a,false,(one a).isSome)
def fSlotRead (a b : ByteArray) : DSlot × Bool := ((selF a b).1,(selF a b).2.2)
def fSlotPut (a b r : ByteArray) : ByteArray × ByteArray × Bool :=
  if showS ((selF a b).1.seq + 1) r = ⟨#[]⟩ then (a,b,false) else if ((selF a b).2.1 || !(selF a b).2.2) = true then (showS ((selF a b).1.seq + 1) r,b,true) else (a,showS ((selF a b).1.seq + 1) r,true)
end Go.Proofs.YtmfojbidojjciaaGreat
namespace Go.Proofs.YtmfojbidojjciaaGreat
theorem u8_n (n : Nat) (h : n < 256) : (UInt8.ofNat n).toNat = n := by rw [UInt8.toNat_ofNat'];exact Nat.mod_eq_of_lt (by omega)
theorem rvT_var : ∀ (k f n : Nat) (t : Bool) (rest : List UInt8),n < 128 ^ k → k ≤ f + 1 → 1 ≤ k → (t = true → 0 < n) → rvT t k (varF f n ++ rest) = some (n,(varF f n).length)
  | 0,f,n,t,rest,h,h1,h2,h3 => by omega
  | k + 1,f,n,t,rest,h,h1,h2,h3 => by
    by_cases hn : n < 128
    · have e : varF f n = [UInt8.ofNat n] := by cases f <;> simp [varF,hn]
      rw [e]
      simp only [List.cons_append,List.nil_append,List.length_cons,List.length_nil,rvT,u8_n n (by omega)]
      rw [if_neg (by omega),if_neg (fun hh => by have := h3 hh.1;omega)]
    · have hk : 1 ≤ k := by
        rcases k with _ | k
        · simp at h;omega
        · omega
      obtain ⟨f',rfl⟩ : ∃ f',f = f' + 1 := ⟨f - 1,by omega⟩
      have e : varF (f' + 1) n = UInt8.ofNat (128 + n % 128) :: varF f' (n / 128) := by rw [varF,if_neg hn]
      have ih := rvT_var k f' (n / 128) true rest (by rw [Nat.pow_succ] at h;exact Nat.div_lt_of_lt_mul (by omega)) (by omega) hk (fun _ => by omega)
      rw [e]
      simp only [List.cons_append,List.length_cons,rvT,u8_n (128 + n % 128) (by omega)]
      rw [if_pos (by omega),ih]
      simp only [Option.map_some,Option.some.injEq,Prod.mk.injEq,and_true]
      omega
theorem rv_var (n : Nat) (rest : List UInt8) (h : n < 562949953421312) : rv (varL n ++ rest) = some (n,(varL n).length) := by
  have e : (128 : Nat) ^ 7 = 562949953421312 := by decide
  exact rvT_var 7 9 n false rest (by omega) (by omega) (by omega) (fun h => by cases h)
theorem varL_pos (n : Nat) : 0 < (varL n).length := by
  show 0 < (varF (8 + 1) n).length
  rw [varF];split <;> simp
theorem tkN_var {s : ByteArray} {k n : Nat} {rest : List UInt8} (h : (bl s).drop k = varL n ++ rest) (hn : n < 562949953421312) : tkN s k = some (n,k + (varL n).length) := by
  unfold tkN
  rw [h,rv_var n rest hn];rfl
theorem tkS_piece {s r : ByteArray} {k : Nat} {rest : List UInt8} (h : (bl s).drop k = bl (pieceS r) ++ rest) (hr : r.size < 562949953421312) : tkS s k = some (r,k + (bl (pieceS r)).length) := by
  have e1 : bl (pieceS r) = varL r.size ++ bl r := by unfold pieceS;rw [bl_app];rfl
  rw [e1,List.append_assoc] at h
  unfold tkS
  rw [tkN_var h hr]
  simp only [Option.bind_some]
  have h2 : (bl s).drop (k + (varL r.size).length) = bl r ++ rest := by
    rw [← List.drop_drop,h,List.drop_left]
  have h3 := congrArg List.length h2
  rw [List.length_drop,List.length_append,bl_len,bl_len] at h3
  have h4 : k + (varL r.size).length + r.size ≤ s.size := by
    rcases Nat.eq_zero_or_pos r.size with h0 | h0
    · have h5 := congrArg List.length h
      rw [List.length_drop,List.length_append,List.length_append,bl_len,bl_len] at h5
      have : 0 < (varL r.size).length := varL_pos _
      omega
    · omega
  rw [if_pos h4,e1,List.length_append,bl_len]
  simp only [Option.some.injEq,Prod.mk.injEq]
  refine ⟨?_,by omega⟩
  apply bl_ext
  rw [bl_extract,List.drop_take,h2,show k + (varL r.size).length + r.size - (k + (varL r.size).length) = r.size by omega]
  rw [List.take_append_of_le_length (by rw [bl_len];omega),List.take_of_length_le (by rw [bl_len];omega)]
def torn : ByteArray := ⟨#[116,111,114,110]⟩
inductive SlotF (a b r : ByteArray) : Prop
  | no (h : fSlotPut a b r = (a,b,false))
  | back (t : ByteArray) (n : Int) (hz : t.size ≤ 100) (hb : 0 ≤ n ∧ n ≤ 1000000) (h : fSlotPut a b r = (a,t,true)) (ho : fSlotRead a b = (⟨n,(fSl a).root⟩,true)) (hn : fSlotRead a t = (⟨n + 1,r⟩,true)) (ht : fSlotRead a torn = (⟨n,(fSl a).root⟩,true))
  | front (t : ByteArray) (n : Int) (hz : t.size ≤ 100) (hb : 0 ≤ n ∧ n ≤ 1000000) (h : fSlotPut a b r = (t,b,true)) (hne : t ≠ a) (ho : fSlotRead a b = (⟨n,(fSl b).root⟩,true)) (hn : fSlotRead t b = (⟨n + 1,r⟩,true)) (ht : fSlotRead torn b = (⟨n,(fSl b).root⟩,true))
  | first (t : ByteArray) (n : Int) (x : DSlot) (z : DSlot) (hz : t.size ≤ 100) (hb : 0 ≤ x.seq ∧ x.seq ≤ 1000000) (h : fSlotPut a b r = (t,b,true)) (hne : t ≠ a) (ho : fSlotRead a b = (x,false)) (hn : fSlotRead t b = (⟨n,r⟩,true)) (ht : fSlotRead torn b = (z,false))
end Go.Proofs.YtmfojbidojjciaaGreat
namespace Go.Proofs.YtmfojbidojjciaaGreat
theorem drop_more {α : Type} {l A rest : List α} {k : Nat} (h : l.drop k = A ++ rest) : l.drop (k + A.length) = rest := by
  rw [← List.drop_drop,h,List.drop_left]
end Go.Proofs.YtmfojbidojjciaaGreat
namespace Go.Proofs.YtmfojbidojjciaaGreat
def opS (o : Opp) : ByteArray := if o.del = true then (⟨#[1]⟩ : ByteArray) ++ pieceS o.key else ((⟨#[0]⟩ : ByteArray) ++ pieceS o.key) ++ pieceS o.val
def rawB (l : List Opp) (k : Nat) : ByteArray := vS l.length ++ catS opS (l.take k)
def fShowBatch (l : List Opp) : ByteArray := if batchOk l = true then rawB l l.length else ⟨#[]⟩
def pOp (s : ByteArray) (k : Nat) : Option (Opp × Nat) := if k < s.size then (tkS s (k + 1)).bind fun p => if bt s k = 1 then some (⟨p.1,true,⟨#[]⟩⟩,p.2) else (tkS s p.2).map fun q => (⟨p.1,false,q.1⟩,q.2) else none
def pOps (s : ByteArray) : Nat → Nat → List Opp → Option (List Opp × Nat)
  | 0,k,L => some (L,k)
  | n + 1,k,L => (pOp s k).bind fun p => pOps s n p.2 (L ++ [p.1])
def pB (s : ByteArray) : Option (List Opp × Nat) := (tkN s 0).bind fun p => if p.1 ≤ 6 then pOps s p.1 p.2 [] else none
def fReadBatch (s : ByteArray) : List Opp × Bool := match pB s with
  | some p => if fShowBatch p.1 = s then (p.1,true) else ([],false)
  | none => ([],false)
def pOpI (s : ByteArray) (k : Nat) : Option (Opp × Nat) := if bt s k ≤ 1 then pOp s k else none
def pOpsI (s : ByteArray) : Nat → Nat → List Opp → Option (List Opp × Nat)
  | 0,k,L => some (L,k)
  | n + 1,k,L => (pOpI s k).bind fun p => pOpsI s n p.2 (L ++ [p.1])
def piB (s : ByteArray) : Option (List Opp × Nat) := (tkN s 0).bind fun p => if p.1 ≤ 6 then pOpsI s p.1 p.2 [] else none
theorem bl_op (o : Opp) : bl (opS o) = (if o.del = true then 1 :: bl (pieceS o.key) else 0 :: (bl (pieceS o.key) ++ bl (pieceS o.val))) := by
  unfold opS
  split
  · rw [bl_app];rfl
  · rw [bl_app,bl_app,List.append_assoc];rfl
theorem drop_at {s : ByteArray} {k : Nat} (h : k < s.size) : (bl s).drop k = (bl s).getD k 0 :: (bl s).drop (k + 1) := by
  have hk : k < (bl s).length := by rw [bl_len];exact h
  rw [List.drop_eq_getElem_cons hk]
  congr 1
  rw [List.getD_eq_getElem?_getD,List.getElem?_eq_getElem hk];rfl
theorem pOpI_some {s : ByteArray} {k e : Nat} {o : Opp} (h : pOpI s k = some (o,e)) : k < s.size ∧ k + 1 < e ∧ e ≤ s.size ∧ (bl s).drop k = bl (opS o) ++ (bl s).drop e ∧ pOp s k = some (o,e) := by
  unfold pOpI at h
  split at h
  · rename_i hb
    have h' := h
    unfold pOp at h
    split at h
    · rename_i hk
      cases h1 : tkS s (k + 1) with
      | none => rw [h1] at h;cases h
      | some p =>
        obtain ⟨r,a⟩ := p
        rw [h1] at h
        simp only [Option.bind_some] at h
        obtain ⟨a1,a2,a3⟩ := tkS_some h1
        split at h
        · rename_i h2
          simp only [Option.some.injEq,Prod.mk.injEq] at h
          obtain ⟨rfl,rfl⟩ := h
          refine ⟨hk,by omega,a2,?_,h'⟩
          rw [bl_op,if_pos rfl,drop_at hk,a3]
          have : (bl s).getD k 0 = 1 := UInt8.toNat_inj.1 h2
          rw [this];rfl
        · rename_i h2
          cases h3 : tkS s a with
          | none => rw [h3] at h;cases h
          | some q =>
            obtain ⟨t,b⟩ := q
            rw [h3] at h
            simp only [Option.map_some,Option.some.injEq,Prod.mk.injEq] at h
            obtain ⟨rfl,rfl⟩ := h
            obtain ⟨b1,b2,b3⟩ := tkS_some h3
            refine ⟨hk,by omega,b2,?_,h'⟩
            rw [bl_op,if_neg (by simp),drop_at hk,a3,b3]
            have : (bl s).getD k 0 = 0 := UInt8.toNat_inj.1 (by have e : bt s k = 0 := by omega
                                                                exact e)
            rw [this,List.cons_append,List.append_assoc]
    · cases h
  · cases h
theorem pOpI_of {s : ByteArray} {k : Nat} {o : Opp} {rest : List UInt8} (h : (bl s).drop k = bl (opS o) ++ rest) (hd : o.del = true → o.val = ⟨#[]⟩) (hk : o.key.size ≤ 1000) (hv : o.val.size ≤ 1000) : pOpI s k = some (o,k + (bl (opS o)).length) := by
  have hl : k < s.size := by
    have := congrArg List.length h
    rw [List.length_drop,bl_len,List.length_append,bl_op] at this
    split at this <;> rw [List.length_cons] at this <;> omega
  obtain ⟨key,del,val⟩ := o
  simp only at hd hk hv
  rw [drop_at hl,bl_op] at h
  unfold pOpI pOp
  cases del with
  | true =>
    simp only [if_true,List.cons_append,List.cons.injEq] at h
    have hb : bt s k = 1 := by unfold bt;rw [h.1];rfl
    rw [if_pos (by omega),if_pos hl,tkS_piece h.2 (by omega)]
    simp only [Option.bind_some]
    rw [if_pos hb,bl_op,hd rfl]
    simp only [if_true,List.length_cons,Option.some.injEq,Prod.mk.injEq,true_and]
    omega
  | false =>
    simp only [Bool.false_eq_true,if_false,List.cons_append,List.append_assoc,List.cons.injEq] at h
    have hb : bt s k = 0 := by unfold bt;rw [h.1];rfl
    rw [if_pos (by omega),if_pos hl,tkS_piece h.2 (by omega)]
    simp only [Option.bind_some]
    rw [if_neg (by omega),tkS_piece (drop_more h.2) (by omega),bl_op]
    simp only [Bool.false_eq_true,if_false,List.length_cons,List.length_append,Option.map_some,Option.some.injEq,Prod.mk.injEq,true_and]
    omega
theorem pOpsI_len (s : ByteArray) : ∀ (n k : Nat) (L M : List Opp) (e : Nat),k ≤ s.size → pOpsI s n k L = some (M,e) → k + 2 * n ≤ e ∧ e ≤ s.size ∧ M.length = L.length + n ∧ (∃ N : List Opp,N.length = n ∧ M = L ++ N ∧ (bl s).drop k = N.flatMap (fun x => bl (opS x)) ++ (bl s).drop e) ∧ pOps s n k L = some (M,e)
  | 0,k,L,M,e,hk,h => by
    have h' := h
    simp only [pOpsI,Option.some.injEq,Prod.mk.injEq] at h
    obtain ⟨rfl,rfl⟩ := h
    exact ⟨by omega,hk,by omega,⟨[],rfl,by simp,by simp⟩,rfl⟩
  | n + 1,k,L,M,e,hk,h => by
    rw [pOpsI] at h
    cases h1 : pOpI s k with
    | none => rw [h1] at h;cases h
    | some p =>
      obtain ⟨o,a⟩ := p
      rw [h1] at h
      simp only [Option.bind_some] at h
      obtain ⟨a0,a1,a2,a3,a4⟩ := pOpI_some h1
      obtain ⟨c1,c2,c3,⟨N,d1,d2,d3⟩,c4⟩ := pOpsI_len s n a (L ++ [o]) M e a2 h
      refine ⟨by omega,c2,by rw [c3,List.length_append,List.length_singleton];omega,⟨o :: N,by rw [List.length_cons,d1],by rw [d2,List.append_assoc];rfl,?_⟩,?_⟩
      · rw [a3,d3,List.flatMap_cons,List.append_assoc]
      · rw [pOps,a4];exact c4
theorem pOpsI_of (s : ByteArray) : ∀ (N : List Opp) (k : Nat) (L : List Opp) (rest : List UInt8),(∀ x ∈ N,(x.del = true → x.val = ⟨#[]⟩) ∧ x.key.size ≤ 1000 ∧ x.val.size ≤ 1000) → (bl s).drop k = N.flatMap (fun x => bl (opS x)) ++ rest → pOpsI s N.length k L = some (L ++ N,k + (N.flatMap (fun x => bl (opS x))).length)
  | [],k,L,rest,hz,h => by simp [pOpsI]
  | x :: N,k,L,rest,hz,h => by
    obtain ⟨h1,h2,h3⟩ := hz x List.mem_cons_self
    have h0 : (bl s).drop k = bl (opS x) ++ (N.flatMap (fun x => bl (opS x)) ++ rest) := by
      rw [h,List.flatMap_cons,List.append_assoc]
    rw [List.length_cons,pOpsI,pOpI_of h0 h1 h2 h3]
    simp only [Option.bind_some]
    rw [pOpsI_of s N _ _ rest (fun y hy => hz y (List.mem_cons_of_mem _ hy)) (drop_more h0),List.flatMap_cons]
    simp only [List.append_assoc,List.length_append,List.cons_append,List.nil_append,Option.some.injEq,Prod.mk.injEq,true_and]
    omega
theorem opOk_sz {o : Opp} (h : opOk o = true) : (o.del = true → o.val = ⟨#[]⟩) ∧ o.key.size ≤ 10 ∧ o.val.size ≤ 16 ∧ 1 ≤ o.key.size := by
  unfold opOk kk at h
  simp only [Bool.and_eq_true,inB_true,decide_eq_true_eq] at h
  refine ⟨fun hd => ?_,by omega,by omega,by omega⟩
  have := h.2.2
  rw [hd] at this
  exact sEq_to (by simpa using this)
theorem bl_rawB (l : List Opp) : bl (rawB l l.length) = varL l.length ++ (l.flatMap (fun x => bl (opS x)) ++ []) := by
  unfold rawB
  rw [bl_app,bl_cat,List.take_length,List.append_nil];rfl
theorem piB_of {l : List Opp} (h : batchOk l = true) : piB (rawB l l.length) = some (l,(rawB l l.length).size) := by
  unfold batchOk at h
  rw [Bool.and_eq_true,inB_true] at h
  have hz := List.all_eq_true.1 h.2
  have h0 : (bl (rawB l l.length)).drop 0 = varL l.length ++ (l.flatMap (fun x => bl (opS x)) ++ []) := bl_rawB l
  have h1 := tkN_var h0 (by omega)
  have h3 := pOpsI_of (rawB l l.length) l _ [] _ (fun x hx => by have := opOk_sz (hz x hx);exact ⟨this.1,by omega,by omega⟩) (drop_more h0)
  unfold piB
  rw [h1]
  simp only [Option.bind_some]
  rw [if_pos (by omega),h3]
  have hs : (rawB l l.length).size = (bl (rawB l l.length)).length := (bl_len _).symm
  rw [hs,bl_rawB]
  simp only [List.nil_append,List.append_nil,List.length_append,Option.some.injEq,Prod.mk.injEq,true_and]
  omega
theorem piB_some {s : ByteArray} {l : List Opp} {e : Nat} (h : piB s = some (l,e)) : e ≤ s.size ∧ l.length ≤ 6 ∧ bl s = bl (rawB l l.length) ++ (bl s).drop e ∧ pB s = some (l,e) := by
  unfold piB at h
  cases h1 : tkN s 0 with
  | none => rw [h1] at h;cases h
  | some p =>
    obtain ⟨n,a⟩ := p
    rw [h1] at h
    simp only [Option.bind_some] at h
    obtain ⟨a1,a2,a3,a4,a5⟩ := tkN_some h1
    split at h
    · rename_i h6
      obtain ⟨c1,c2,c3,⟨N,d1,d2,d3⟩,c4⟩ := pOpsI_len s n a [] l e a2 h
      have e2 : l = N := by simpa using d2
      subst e2
      refine ⟨c2,by omega,?_,?_⟩
      · rw [bl_rawB,List.append_nil,d1]
        have a6 : bl s = varL n ++ (bl s).drop a := a5
        rw [d3] at a6
        rw [List.append_assoc]
        exact a6
      · unfold pB
        rw [h1]
        simp only [Option.bind_some]
        rw [if_pos h6];exact c4
    · cases h
theorem read_i (s : ByteArray) : fReadBatch s = match piB s with
  | some p => if p.2 = s.size ∧ batchOk p.1 = true then (p.1,true) else ([],false)
  | none => ([],false) := by
  have key : ∀ l,fShowBatch l = s → pB s = some (l,0) ∨ True → batchOk l = true → piB s = some (l,s.size) := fun l h _ hb => by
    unfold fShowBatch at h
    rw [if_pos hb] at h
    have := piB_of hb
    rw [h] at this;exact this
  have nz : ∀ p,pB s = some p → 0 < s.size := fun p h => by
    unfold pB at h
    cases h1 : tkN s 0 with
    | none => rw [h1] at h;cases h
    | some q => obtain ⟨n,a⟩ := q;have := tkN_some h1;omega
  have sb : ∀ l,0 < s.size → fShowBatch l = s → batchOk l = true := fun l hz h => by
    unfold fShowBatch at h
    split at h
    · assumption
    · have h0 : (⟨#[]⟩ : ByteArray).size = 0 := rfl
      rw [← h] at hz
      omega
  unfold fReadBatch
  cases hp : pB s with
  | none =>
    cases hi : piB s with
    | none => rfl
    | some q =>
      obtain ⟨l,e⟩ := q
      rw [(piB_some hi).2.2.2] at hp;cases hp
  | some p =>
    obtain ⟨l,e⟩ := p
    simp only
    by_cases hs : fShowBatch l = s
    · have hb := sb l (nz _ hp) hs
      rw [if_pos hs,key l hs (.inr trivial) hb]
      simp only
      rw [if_pos ⟨trivial,hb⟩]
    · rw [if_neg hs]
      cases hi : piB s with
      | none => rfl
      | some q =>
        obtain ⟨l2,e2⟩ := q
        have h4 := piB_some hi
        rw [hp] at h4
        have h5 := h4.2.2.2
        simp only [Option.some.injEq,Prod.mk.injEq] at h5
        obtain ⟨rfl,rfl⟩ := h5
        simp only
        rw [if_neg]
        rintro ⟨h6,h7⟩
        refine hs ?_
        unfold fShowBatch
        rw [if_pos h7]
        refine bl_ext ?_
        rw [h4.2.2.1,h6]
        rw [show List.drop s.size (bl s) = [] from List.drop_eq_nil_of_le (by rw [bl_len];exact Nat.le_refl _),List.append_nil]
theorem read_ok {s : ByteArray} (h : (fReadBatch s).2 = true) : batchOk (fReadBatch s).1 = true ∧ fShowBatch (fReadBatch s).1 = s := by
  rw [read_i] at h ⊢
  cases hi : piB s with
  | none => rw [hi] at h;cases h
  | some q =>
    obtain ⟨l,e⟩ := q
    rw [hi] at h
    simp only at h ⊢
    split at h
    · rename_i h1
      rw [if_pos h1]
      refine ⟨h1.2,?_⟩
      unfold fShowBatch
      rw [if_pos h1.2]
      have h4 := piB_some hi
      refine bl_ext ?_
      rw [h4.2.2.1,h1.1]
      rw [show List.drop s.size (bl s) = [] from List.drop_eq_nil_of_le (by rw [bl_len];exact Nat.le_refl _),List.append_nil]
    · cases h
theorem opS_size {o : Opp} (h : opOk o = true) : (opS o).size ≤ 60 := by
  obtain ⟨h1,h2,h3,h4⟩ := opOk_sz h
  have a := pieceS_size o.key
  have b := pieceS_size o.val
  unfold opS
  split
  · rw [ByteArray.size_append]
    have : (⟨#[1]⟩ : ByteArray).size = 1 := rfl
    omega
  · rw [ByteArray.size_append,ByteArray.size_append]
    have : (⟨#[0]⟩ : ByteArray).size = 1 := rfl
    omega
end Go.Proofs.YtmfojbidojjciaaGreat
namespace Go.Proofs.YtmfojbidojjciaaGreat
def wd (l : List Nat) (i : Nat) : Nat := l.getD i 0
def rotN (x n : Nat) : Nat := x * 2 ^ n % 4294967296 ||| x / 2 ^ (32 - n)
theorem rotN_lt {x n : Nat} (hx : x < 4294967296) : rotN x n < 4294967296 := by
  unfold rotN
  exact Nat.or_lt_two_pow (n := 32) (Nat.mod_lt _ (by decide)) (Nat.lt_of_le_of_lt (Nat.div_le_self _ _) hx)
theorem rotN_mask {x n : Nat} (hx : x < 4294967296) : (x * 2 ^ n ||| x / 2 ^ (32 - n)) % 4294967296 = rotN x n := by
  have h := @Nat.or_mod_two_pow (x * 2 ^ n) (x / 2 ^ (32 - n)) 32
  have h2 : x / 2 ^ (32 - n) < 2 ^ 32 := Nat.lt_of_le_of_lt (Nat.div_le_self _ _) hx
  rw [Nat.mod_eq_of_lt h2] at h
  exact h
def sA (l : List Nat) (a b : Nat) : List Nat := l.set a ((wd l a + wd l b) % 4294967296)
def sR (l : List Nat) (d a n : Nat) : List Nat := l.set d (rotN (wd l d ^^^ wd l a) n)
def qr (l : List Nat) (a b c d : Nat) : List Nat := sR (sA (sR (sA (sR (sA (sR (sA l a b) d a 16) c d) b c 12) a b) d a 8) c d) b c 7
structure W16 (l : List Nat) : Prop where
  len : l.length = 16
  lt : ∀ i,wd l i < 4294967296
theorem wd_set (l : List Nat) (a v i : Nat) (ha : a < l.length) : wd (l.set a v) i = if a = i then v else wd l i := by
  unfold wd
  rw [List.getD_eq_getElem?_getD,List.getElem?_set,List.getD_eq_getElem?_getD]
  split <;> rfl
theorem W16.set {l : List Nat} (h : W16 l) (a : Nat) {v : Nat} (hv : v < 4294967296) : W16 (l.set a v) := by
  refine ⟨by rw [List.length_set];exact h.len,fun i => ?_⟩
  rcases Nat.lt_or_ge a l.length with ha | ha
  · rw [wd_set l a v i ha]
    split
    · exact hv
    · exact h.lt i
  · rw [List.set_eq_of_length_le ha];exact h.lt i
theorem W16.sA {l : List Nat} (h : W16 l) (a b : Nat) : W16 (sA l a b) := h.set a (Nat.mod_lt _ (by decide))
theorem add_lt63 {a b : Nat} (ha : a < 4294967296) (hb : b < 4294967296) : a + b < 9223372036854775808 := by omega
theorem W16.xor {l : List Nat} (h : W16 l) (d a : Nat) : wd l d ^^^ wd l a < 4294967296 := Nat.xor_lt_two_pow (n := 32) (h.lt d) (h.lt a)
theorem W16.sR {l : List Nat} (h : W16 l) (d a n : Nat) : W16 (sR l d a n) := h.set d (rotN_lt (h.xor d a))
theorem W16.qr {l : List Nat} (h : W16 l) (a b c d : Nat) : W16 (qr l a b c d) := (((((((h.sA a b).sR d a 16).sA c d).sR b c 12).sA a b).sR d a 8).sA c d).sR b c 7
def colTo (l : List Nat) : Nat → List Nat
  | 0 => l
  | i + 1 => qr (colTo l i) i (4 + i) (8 + i) (12 + i)
def diaTo (l : List Nat) : Nat → List Nat
  | 0 => l
  | i + 1 => qr (diaTo l i) i (4 + (i + 1) % 4) (8 + (i + 2) % 4) (12 + (i + 3) % 4)
def dbl (l : List Nat) : List Nat := diaTo (colTo l 4) 4
def rnd (l : List Nat) : Nat → List Nat
  | 0 => l
  | k + 1 => dbl (rnd l k)
theorem W16.col {l : List Nat} (h : W16 l) : ∀ i,W16 (colTo l i)
  | 0 => h
  | i + 1 => (W16.col h i).qr _ _ _ _
theorem W16.dia {l : List Nat} (h : W16 l) : ∀ i,W16 (diaTo l i)
  | 0 => h
  | i + 1 => (W16.dia h i).qr _ _ _ _
theorem W16.rnd {l : List Nat} (h : W16 l) : ∀ k,W16 (rnd l k)
  | 0 => h
  | k + 1 => ((W16.rnd h k).col 4).dia 4
def le4 (s : ByteArray) (a : Nat) : Nat := bt s a ||| bt s (a + 1) * 2 ^ 8 ||| bt s (a + 2) * 2 ^ 16 ||| bt s (a + 3) * 2 ^ 24
theorem or_lt32 {a b : Nat} (ha : a < 4294967296) (hb : b < 4294967296) : a ||| b < 4294967296 := Nat.or_lt_two_pow (n := 32) ha hb
theorem le4_lt (s : ByteArray) (a : Nat) : le4 s a < 4294967296 := by
  have h0 := bt_lt s a
  have h1 := bt_lt s (a + 1)
  have h2 := bt_lt s (a + 2)
  have h3 := bt_lt s (a + 3)
  unfold le4
  exact or_lt32 (or_lt32 (or_lt32 (by omega) (by omega)) (by omega)) (by omega)
def keyTo (s : ByteArray) : Nat → List Nat
  | 0 => []
  | k + 1 => keyTo s k ++ [le4 s (4 * k)]
def firstW (key : ByteArray) (c : Nat) (nonce : ByteArray) : List Nat := [0x61707865,0x3320646e,0x79622d32,0x6b206574] ++ keyTo key 8 ++ [c] ++ keyTo nonce 3
theorem keyTo_len (s : ByteArray) (k : Nat) : (keyTo s k).length = k := by
  induction k with
  | zero => rfl
  | succ k ih => simp [keyTo,ih]
theorem keyTo_lt (s : ByteArray) (k : Nat) : ∀ x ∈ keyTo s k,x < 4294967296 := by
  induction k with
  | zero => intro x h;cases h
  | succ k ih =>
    intro x h
    simp only [keyTo,List.mem_append,List.mem_singleton] at h
    rcases h with h | rfl
    · exact ih x h
    · exact le4_lt s _
theorem wd_lt {l : List Nat} (h : ∀ x ∈ l,x < 4294967296) (i : Nat) : wd l i < 4294967296 := by
  unfold wd
  rw [List.getD_eq_getElem?_getD]
  cases e : l[i]? with
  | none => decide
  | some x => exact h x (List.mem_of_getElem? e)
theorem firstW_ok (key : ByteArray) {c : Nat} (hc : c < 4294967296) (nonce : ByteArray) : W16 (firstW key c nonce) := by
  refine ⟨by simp [firstW,keyTo_len],fun i => wd_lt (fun x h => ?_) i⟩
  simp only [firstW,List.mem_append] at h
  rcases h with ((h | h) | h) | h
  · revert x;decide
  · exact keyTo_lt _ _ x h
  · rw [List.mem_singleton] at h;omega
  · exact keyTo_lt _ _ x h
def wsum (w f : List Nat) (i : Nat) : Nat := (wd w i + wd f i) % 4294967296
def b4 (x : Nat) : List UInt8 := [UInt8.ofNat x,UInt8.ofNat (x / 2 ^ 8),UInt8.ofNat (x / 2 ^ 16),UInt8.ofNat (x / 2 ^ 24)]
def outTo (w f : List Nat) : Nat → List UInt8
  | 0 => []
  | k + 1 => outTo w f k ++ b4 (wsum w f k)
theorem outTo_len (w f : List Nat) (k : Nat) : (outTo w f k).length = 4 * k := by
  induction k with
  | zero => rfl
  | succ k ih => simp [outTo,ih,b4];omega
def blockL (key : ByteArray) (c : Nat) (nonce : ByteArray) : List UInt8 := outTo (rnd (firstW key c nonce) 10) (firstW key c nonce) 16
def isChaF (key : ByteArray) (c : Int) (nonce : ByteArray) : Bool := decide ((key.size : Int) = 32) && inB c 0 4294967295 && decide ((nonce.size : Int) = 12)
def chaF (key : ByteArray) (c : Int) (nonce : ByteArray) : ByteArray := if isChaF key c nonce = true then ⟨(blockL key c.toNat nonce).toArray⟩ else ⟨#[]⟩
theorem isCha_iff {key nonce : ByteArray} {c : Int} : isChaF key c nonce = true ↔ key.size = 32 ∧ (0 ≤ c ∧ c ≤ 4294967295) ∧ nonce.size = 12 := by
  unfold isChaF
  simp only [Bool.and_eq_true,decide_eq_true_eq,inB_true]
  omega
theorem blockL_len (key : ByteArray) (c : Nat) (nonce : ByteArray) : (blockL key c nonce).length = 64 := outTo_len _ _ 16
theorem set_fill (A : List Nat) (n v : Nat) (a : Nat) (ha : a = A.length) : (A ++ List.replicate (n + 1) 0).set a v = A ++ [v] ++ List.replicate n 0 := by
  subst ha
  rw [List.replicate_succ,List.set_append_right _ _ (Nat.le_refl _),Nat.sub_self,List.set_cons_zero,List.append_assoc];rfl
def hdrW : List Nat := [0x61707865,0x3320646e,0x79622d32,0x6b206574]
def fw1 (key : ByteArray) (i : Nat) : List Nat := (hdrW ++ keyTo key i) ++ List.replicate (12 - i) 0
def fw2 (key : ByteArray) (c : Nat) (nonce : ByteArray) (i : Nat) : List Nat := (hdrW ++ keyTo key 8 ++ [c] ++ keyTo nonce i) ++ List.replicate (3 - i) 0
theorem fw1_len (key : ByteArray) (i : Nat) (h : i ≤ 8) : (fw1 key i).length = 16 := by simp [fw1,hdrW,keyTo_len];omega
theorem fw2_len (key : ByteArray) (c : Nat) (nonce : ByteArray) (i : Nat) (h : i ≤ 3) : (fw2 key c nonce i).length = 16 := by simp [fw2,hdrW,keyTo_len];omega
theorem fw1_step (key : ByteArray) (i : Nat) (h : i < 8) : (fw1 key i).set (4 + i) (le4 key (4 * i)) = fw1 key (i + 1) := by
  unfold fw1
  rw [show 12 - i = (12 - (i + 1)) + 1 by omega,set_fill _ _ _ _ (by simp [hdrW,keyTo_len];omega),keyTo,List.append_assoc hdrW]
theorem fw1_c (key : ByteArray) (c : Nat) (nonce : ByteArray) : (fw1 key 8).set 12 c = fw2 key c nonce 0 := by
  unfold fw1 fw2
  rw [show 12 - 8 = 3 + 1 by rfl,set_fill _ _ _ _ (by simp [hdrW,keyTo_len]),keyTo,List.append_nil]
theorem fw2_step (key : ByteArray) (c : Nat) (nonce : ByteArray) (i : Nat) (h : i < 3) : (fw2 key c nonce i).set (13 + i) (le4 nonce (4 * i)) = fw2 key c nonce (i + 1) := by
  unfold fw2
  rw [show 3 - i = (3 - (i + 1)) + 1 by omega,set_fill _ _ _ _ (by simp [hdrW,keyTo_len];omega),show keyTo nonce (i + 1) = keyTo nonce i ++ [le4 nonce (4 * i)] from rfl]
  simp only [List.append_assoc]
theorem fw2_end (key : ByteArray) (c : Nat) (nonce : ByteArray) : fw2 key c nonce 3 = firstW key c nonce := by
  unfold fw2 firstW hdrW
  simp
theorem one4 {a b c d : Value} (ha : a.oneCell' = true) (hb : b.oneCell' = true) (hc : c.oneCell' = true) (hd : d.oneCell' = true) : ∀ u ∈ [a,b,c,d],u.oneCell' = true := fun u hu => by
  simp only [List.mem_cons,List.not_mem_nil,or_false] at hu
  rcases hu with rfl | rfl | rfl | rfl <;> assumption
end Go.Proofs.YtmfojbidojjciaaGreat
namespace Go.Proofs.YtmfojbidojjciaaGreat
def f7 (n : Nat) : ByteArray := ⟨(fixL 7 n).toArray⟩
theorem f7_size (n : Nat) : (f7 n).size = 7 := by show (fixL 7 n).toArray.size = 7;simp [fixL_len]
def z1 : ByteArray := ⟨#[0]⟩
def nonF (k n : Nat) : ByteArray := (⟨[UInt8.ofNat k,0,0,0,0].toArray⟩ : ByteArray) ++ f7 n
theorem nonF_size (k n : Nat) : (nonF k n).size = 12 := by unfold nonF;rw [ByteArray.size_append,f7_size];rfl
theorem chaF_size {key nonce : ByteArray} {c : Int} (h : isChaF key c nonce = true) : (chaF key c nonce).size = 64 := by
  unfold chaF;rw [if_pos h]
  show (blockL key c.toNat nonce).toArray.size = 64
  simp [blockL_len]
end Go.Proofs.YtmfojbidojjciaaGreat
namespace Go.Proofs.YtmfojbidojjciaaGreat
def b8 (s : ByteArray) (i : Nat) : UInt8 := (bl s).getD i 0
end Go.Proofs.YtmfojbidojjciaaGreat
namespace Go.Proofs.YtmfojbidojjciaaGreat
-- streams of any length
def strmB (key nonce t : ByteArray) (k : Nat) : UInt8 := b8 t k ^^^ b8 (chaF key ((k / 64 : Nat) : Int) nonce) (k % 64)
def strmL (key nonce t : ByteArray) (n : Nat) : List UInt8 := (List.range n).map (strmB key nonce t)
def strmF (key nonce t : ByteArray) : ByteArray := ⟨(strmL key nonce t t.size).toArray⟩
theorem strmL_len (key nonce t : ByteArray) (n : Nat) : (strmL key nonce t n).length = n := by simp [strmL]
theorem strmF_size (key nonce t : ByteArray) : (strmF key nonce t).size = t.size := by
  show (strmL key nonce t t.size).toArray.size = t.size
  rw [List.size_toArray,strmL_len]
-- batches sealed
def placeOk (boot seq : Int) : Bool := inB boot 0 1000 && inB seq 0 999999
def rowN (boot seq : Int) : Nat := (boot * 1000000 + seq).toNat
def openOk (key : ByteArray) (boot seq : Int) : Bool := decide ((key.size : Int) = 32) && placeOk boot seq
def openF (key : ByteArray) (boot seq : Int) (s : ByteArray) : List Opp × Bool := if openOk key boot seq = true then fReadBatch (strmF key (nonF 3 (rowN boot seq)) s) else ([],false)
theorem rawB_size {l : List Opp} (h : batchOk l = true) : (rawB l l.length).size ≤ 300 := by
  unfold batchOk at h
  rw [Bool.and_eq_true,inB_true] at h
  have hz := List.all_eq_true.1 h.2
  have a := vS_size l.length
  have b := catS_size opS 48 l.length l rfl (fun x hx => by
    obtain ⟨h1,h2,h3,h4⟩ := opOk_sz (hz x hx)
    have a := pieceS_size x.key
    have b := pieceS_size x.val
    unfold opS
    split
    · rw [ByteArray.size_append]
      have : (⟨#[1]⟩ : ByteArray).size = 1 := rfl
      omega
    · rw [ByteArray.size_append,ByteArray.size_append]
      have : (⟨#[0]⟩ : ByteArray).size = 1 := rfl
      omega)
  unfold rawB
  rw [ByteArray.size_append,List.take_length]
  have : l.length * 48 ≤ 6 * 48 := Nat.mul_le_mul_right _ (by omega)
  omega
theorem read_size {s : ByteArray} (h : (fReadBatch s).2 = true) : s.size ≤ 300 := by
  obtain ⟨h1,h2⟩ := read_ok h
  have := rawB_size h1
  unfold fShowBatch at h2
  rw [if_pos h1] at h2
  rw [← h2];exact this
theorem read_not {s : ByteArray} (h : (fReadBatch s).2 = false) : fReadBatch s = ([],false) := by
  unfold fReadBatch at h ⊢
  cases hp : pB s with
  | none => rfl
  | some p =>
    rw [hp] at h
    simp only at h ⊢
    split at h
    · cases h
    · rename_i h1
      rw [if_neg h1]
theorem open_not {key : ByteArray} {boot seq : Int} {s : ByteArray} (h : (openF key boot seq s).2 = false) : openF key boot seq s = ([],false) := by
  unfold openF at h ⊢
  split
  · rename_i h1
    rw [if_pos h1] at h
    exact read_not h
  · rfl
theorem open_big {key : ByteArray} {boot seq : Int} {s : ByteArray} (h : 300 < s.size) : openF key boot seq s = ([],false) := by
  refine open_not ?_
  unfold openF
  split
  · cases h2 : (fReadBatch (strmF key (nonF 3 (rowN boot seq)) s)).2 with
    | false => rfl
    | true =>
      have := read_size h2
      rw [strmF_size] at this
      omega
  · rfl
theorem open_ok {key : ByteArray} {boot seq : Int} {s : ByteArray} (h : (openF key boot seq s).2 = true) : batchOk (openF key boot seq s).1 = true := by
  unfold openF at h ⊢
  split at h
  · rename_i h1
    rw [if_pos h1]
    exact (read_ok h).1
  · cases h
-- a tenant's rows,played
def rowsF (l : List LogRow) (id : Int) : List LogRow := l.filter fun r => decide (r.ten = id)
def playF (key : ByteArray) : DEng → List LogRow → Option DEng
  | e,[] => some e
  | e,r :: l => if (openF key r.boot r.seq r.txt).2 = true then (if (fEngPut e (openF key r.boot r.seq r.txt).1).2 = true then playF key (fEngPut e (openF key r.boot r.seq r.txt).1).1 l else none) else none
def seqsOk : Int → List LogRow → Bool
  | _,[] => true
  | b,r :: l => decide (r.seq = b + 1) && seqsOk (b + 1) l
def baseE (t : DTen) : DEng := ⟨[],t.eng.tabs,t.ba,[]⟩
def memIs (o : Option DEng) (m : List Ent) : Bool := match o with
  | some e => decide (e.mem = m)
  | none => false
def mineF (key : ByteArray) (rows : List LogRow) (t : DTen) : Bool := memIs (playF key (baseE t) (rowsF rows t.id)) t.eng.mem && decide (t.eng.tabs.length ≤ 1) && seqsOk t.ba (rowsF rows t.id) && decide ((rowsF rows t.id).length ≤ 6) && decide (t.ba + (rowsF rows t.id).length = t.eng.seq)
def sPlay (key : ByteArray) (id base : Int) : DEng → Nat → List LogRow → Option (DEng × Nat)
  | e,n,[] => some (e,n)
  | e,n,r :: l => if r.ten = id then (if (openF key r.boot r.seq r.txt).2 = true ∧ (fEngPut e (openF key r.boot r.seq r.txt).1).2 = true ∧ r.seq = base + (n + 1 : Nat) then sPlay key id base (fEngPut e (openF key r.boot r.seq r.txt).1).1 (n + 1) l else none) else sPlay key id base e n l
theorem sPlay_eq (key : ByteArray) (id base : Int) : ∀ (l : List LogRow) (e : DEng) (n : Nat),sPlay key id base e n l = if seqsOk (base + n) (rowsF l id) = true then (playF key e (rowsF l id)).map (fun x => (x,n + (rowsF l id).length)) else none
  | [],e,n => by simp [sPlay,rowsF,seqsOk,playF]
  | r :: l,e,n => by
    unfold sPlay
    by_cases hid : r.ten = id
    · have hr : rowsF (r :: l) id = r :: rowsF l id := by unfold rowsF;rw [List.filter_cons,if_pos (by simpa using hid)]
      rw [if_pos hid,hr]
      unfold seqsOk playF
      by_cases h3 : r.seq = base + (n + 1 : Nat)
      · have e3 : decide (r.seq = base + (n : Int) + 1) = true := decide_eq_true (by omega)
        rw [e3,Bool.true_and]
        by_cases h1 : (openF key r.boot r.seq r.txt).2 = true
        · by_cases h2 : (fEngPut e (openF key r.boot r.seq r.txt).1).2 = true
          · rw [if_pos ⟨h1,h2,h3⟩,if_pos h1,if_pos h2,sPlay_eq key id base l]
            rw [show base + ((n + 1 : Nat) : Int) = base + n + 1 by omega]
            split
            · simp only [List.length_cons]
              congr 1
              funext x
              congr 1
              omega
            · rfl
          · rw [if_neg (fun h => h2 h.2.1),if_pos h1,if_neg h2]
            split <;> rfl
        · rw [if_neg (fun h => h1 h.1),if_neg h1]
          split <;> rfl
      · have e3 : decide (r.seq = base + (n : Int) + 1) = false := decide_eq_false (by omega)
        rw [if_neg (fun h => h3 h.2.2),e3,Bool.false_and,if_neg (by decide)]
    · have hr : rowsF (r :: l) id = rowsF l id := by unfold rowsF;rw [List.filter_cons,if_neg (by simpa using hid)]
      rw [if_neg hid,hr,sPlay_eq key id base l]
theorem put_need {e : DEng} {l : List Opp} (h : (fEngPut e l).2 = true) : fEngOk e = true ∧ batchOk l = true ∧ fEngOk (putE e l) = true ∧ fEngPut e l = (putE e l,true) := by
  unfold fEngPut at h ⊢
  split at h
  · rename_i h1
    split at h
    · rename_i h2
      split at h
      · rename_i h3
        rw [if_pos h1,if_pos h2,if_pos h3];exact ⟨h1,h2,h3,rfl⟩
      · cases h
    · cases h
  · cases h
theorem base_ok {key : ByteArray} {rows : List LogRow} {t : DTen} (he : fEngOk t.eng = true) (hm : mineF key rows t = true) : fEngOk (baseE t) = true := by
  unfold mineF at hm
  simp only [Bool.and_eq_true,decide_eq_true_eq] at hm
  obtain ⟨⟨⟨⟨h1,h2⟩,h3⟩,h4⟩,h5⟩ := hm
  cases hr : rowsF rows t.id with
  | nil =>
    rw [hr] at h1 h5
    have hmem : t.eng.mem = [] := by
      have : memIs (some (baseE t)) t.eng.mem = true := h1
      unfold memIs at this
      simp only [decide_eq_true_eq] at this
      exact this.symm
    unfold fEngOk at he ⊢
    simp only [Bool.and_eq_true,decide_eq_true_eq,inB_true,hmem] at he ⊢
    obtain ⟨⟨⟨⟨⟨⟨⟨g1,g2⟩,g3⟩,g4⟩,g5,g6⟩,g7⟩,g8⟩,g9⟩ := he
    have e5 : t.ba = t.eng.seq := by simpa using h5
    unfold baseE
    simp only [e5]
    exact ⟨⟨⟨⟨⟨⟨⟨g1,by simp⟩,g3⟩,g4⟩,g5,g6⟩,g7⟩,g8⟩,rfl⟩
  | cons r l =>
    rw [hr] at h1
    unfold playF at h1
    by_cases ho : (openF key r.boot r.seq r.txt).2 = true
    · rw [if_pos ho] at h1
      by_cases hp : (fEngPut (baseE t) (openF key r.boot r.seq r.txt).1).2 = true
      · exact (put_need hp).1
      · rw [if_neg hp] at h1;cases h1
    · rw [if_neg ho] at h1;cases h1
-- stores
def fTenOk (s : DStore) (t : DTen) : Bool := inB t.ep 0 1000000 && inB t.ba 0 1000000 && fEngOk t.eng && decide (t.eng.snaps.length ≤ 2) && mineF (keyOf s.keys t.id) s.rows t
def noTen : DTen := ⟨0,0,0,[],[],0,[]⟩
def tenD (l : List DTen) (i : Nat) : DTen := l.getD i noTen
def tenAt (s : DStore) (i : Nat) : Bool := decide ((nth s.keys.slots i).ten = (tenD s.tens i).id) && decide ((nth s.shares.list i).ten = (tenD s.tens i).id) && fTenOk s (tenD s.tens i)
def fStoreOk (s : DStore) : Bool := decide ((s.secret.size : Int) = 32) && fKeyOk s.keys && fSharesOk s.shares && inB s.boot 0 1000 && decide (s.hist.length ≤ 120) && decide (s.tens.length = s.keys.slots.length) && decide (s.tens.length = s.shares.list.length) && (List.range s.tens.length).all (tenAt s) && s.rows.all fun r => s.tens.any fun t => decide (t.id = r.ten)
end Go.Proofs.YtmfojbidojjciaaGreat
namespace Go.Proofs.YtmfojbidojjciaaGreat
open Go.RowKit
attribute [local irreducible] Calls
theorem indexKs_c (f : FuncId) [hF : FN Tryz.prog f] (cs : List Value) (p : KeySlot → Bool) (A : Option Addr) (c : Nat) (R : List KeySlot) (w : World) (h : Rd w A (fl R)) (hl : R.length ≤ 4194304)
    (hf : ∀ (x : KeySlot) (w' : World),Keeps w w' → Calls Tryz.prog f (Value.agg (Dat.cells x).toArray :: cs).toArray w' (fun e w'' => e = .returned (.bool (p x)) ∧ Below w'.heap.size w' w'')) :
    Calls Tryz.prog 290 #[.slice A R.length c,.func (.func f) #[] cs.toArray] w fun e w' => e = .returned (.int .i64 (ixP p R)) ∧ Below w.heap.size w w' := by
  refine ok_enter 19 Tryz.func290 rfl rfl rfl ?_
  repeat' (first|refine Wa ?_|refine Wb ?_|refine Wc ?_|refine ok_then_exit ?_|refine Wd ?_|refine We ?_|refine Wf ?_|refine ok_in_exit ?_|refine ok_in_other rfl ?_|(refine ok_cond rfl (fun hc => ?_) (fun hc => ?_) <;> (have hd := hc;try simp only [jj] at hd))|refine Wg ?_|refine Wh ?_|refine Wi ?_|(refine Zr 0 ?_;refine Za ?_;refine Ze2 0 1 ?_)|(refine Zr 1 ?_;refine Zm ?_;refine Zq (ps_len rfl rfl) ?_;refine Zm ?_;refine Ze4 0 1 7 8 ?_)|(refine Zr 2 ?_;refine Zi ?_;refine Ze5 0 1 7 8 9 ?_)|(refine Zr 3 ?_;refine Zm ?_;refine Za ?_;refine Ze5 0 1 5 7 8 ?_)|(refine Zr 4 ?_;refine Zm ?_;refine Zm ?_;refine Zm ?_;refine Zq (by first | exact ps_indexN rfl rfl rfl (by omega) (by first | exact isw_ga _ | exact isw_some _ | exact isw_row 0 rfl (by omega) | exact isw_row 1 rfl (by omega) | exact isw_row 2 rfl (by omega) | exact isw_row 3 rfl (by omega) | exact isw_row 4 rfl (by omega) | exact isw_row 5 rfl (by omega) | exact isw_row 6 rfl (by omega) | exact isw_row 7 rfl (by omega) | exact isw_row 8 rfl (by omega) | exact isw_of (isS_fl (by assumption) (by omega)) | exact isw_of (by assumption)) | exact ps_index rfl rfl rfl (by omega) (by first | exact isw_ga _ | exact isw_some _ | exact isw_row 0 rfl (by omega) | exact isw_row 1 rfl (by omega) | exact isw_row 2 rfl (by omega) | exact isw_row 3 rfl (by omega) | exact isw_row 4 rfl (by omega) | exact isw_row 5 rfl (by omega) | exact isw_row 6 rfl (by omega) | exact isw_row 7 rfl (by omega) | exact isw_row 8 rfl (by omega) | exact isw_of (isS_fl (by assumption) (by omega)) | exact isw_of (by assumption))) ?_;refine Zq (by first | exact ps_loads rfl rfl (by first | exact rds_box 0 rfl | exact rds_box 1 rfl | exact rds_box 2 rfl | exact rds_box 3 rfl | exact rds_box 4 rfl | exact rds_box 5 rfl | exact rds_box 6 rfl | exact rds_box 7 rfl | exact rds_box 8 rfl | exact rds_box 9 rfl | exact rds_box 10 rfl | exact rds_box 11 rfl | exact rds_box 12 rfl | exact rds_box 13 rfl | exact rds_box 14 rfl | exact rds_box 15 rfl | exact rds_box 16 rfl | exact rds_box 17 rfl | exact rds_box 18 rfl | exact rds_box 19 rfl | exact rds_box 20 rfl | exact rds_box 21 rfl | exact rds_box 22 rfl | exact rds_box 23 rfl) rfl rfl (by decide) | exact ps_loadsF rfl rfl (by first | exact rds_row 0 rfl | exact rds_row 1 rfl | exact rds_row 2 rfl | exact rds_row 3 rfl | exact rds_row 4 rfl | exact rds_row 5 rfl | exact rds_row 6 rfl | exact rds_row 7 rfl | exact rds_row 8 rfl | exact rds_row 9 rfl | exact rds_row 10 rfl | exact rds_row 11 rfl | exact rds_row 12 rfl | exact rds_row 13 rfl | exact rds_row 14 rfl | exact rds_row 15 rfl | exact rds_row 16 rfl | exact rds_row 17 rfl | exact rds_row 18 rfl | exact rds_row 19 rfl | exact rds_row 20 rfl | exact rds_row 21 rfl | exact rds_row 22 rfl | exact rds_row 23 rfl | exact rds_rf (by assumption) (by first | exact List.mem_cons_self | exact List.mem_cons_of_mem _ List.mem_cons_self | simp)) (by rfl) (by rfl) (by omega) rfl) ?_;refine Zn (by fail "no maker call") ?_;rintro y16 hy16;refine Ze6 0 1 5 7 8 16 ?_)|(refine Zr 5 ?_;refine Zm ?_;refine Za ?_;refine Ze1 4 ?_)|(refine Zr 6 ?_;refine Zq (by exact ps_add rfl rfl rfl (by omega)) ?_;refine Zm ?_;refine Ze4 0 1 7 8 ?_)|(refine Zr 7 ?_;refine Za ?_;refine Ze1 4 ?_))
  refine ok_loop (ι := { k : Nat // k ≤ R.length ∧ ixP p R = ixF p R (R.length - k) k }) (fun k => R.length - k.1) (fun k => ([(0,.slice A R.length c),(1,.func (.func f) #[] cs.toArray),(7,.int .i64 R.length),(8,.int .i64 k.1)],_,_)) ⟨0,by omega,rfl⟩ (fun a w he hw => ⟨⟨0,by omega,rfl⟩,he.sub ⟨rfl,rfl,rfl,rfl,trivial⟩,hw⟩) ?_
  rintro ⟨k,hk,hr⟩
  simp only at hk hr ⊢
  have HR := Lib.hid hr;clear hr
  repeat' (first|refine Wa ?_|refine Wb ?_|refine Wc ?_|refine ok_then_exit ?_|refine Wd ?_|refine We ?_|refine Wf ?_|refine ok_in_exit ?_|refine ok_in_other rfl ?_|(refine ok_cond rfl (fun hc => ?_) (fun hc => ?_) <;> (have hd := hc;try simp only [jj] at hd))|refine Wg ?_|refine Wh ?_|refine Wi ?_|(refine Zr 0 ?_;refine Za ?_;refine Ze2 0 1 ?_)|(refine Zr 1 ?_;refine Zm ?_;refine Zq (ps_len rfl rfl) ?_;refine Zm ?_;refine Ze4 0 1 7 8 ?_)|(refine Zr 2 ?_;refine Zi ?_;refine Ze5 0 1 7 8 9 ?_)|(refine Zr 3 ?_;refine Zm ?_;refine Za ?_;refine Ze5 0 1 5 7 8 ?_)|(refine Zr 4 ?_;refine Zm ?_;refine Zm ?_;refine Zm ?_;refine Zq (by first | exact ps_indexN rfl rfl rfl (by omega) (by first | exact isw_ga _ | exact isw_some _ | exact isw_row 0 rfl (by omega) | exact isw_row 1 rfl (by omega) | exact isw_row 2 rfl (by omega) | exact isw_row 3 rfl (by omega) | exact isw_row 4 rfl (by omega) | exact isw_row 5 rfl (by omega) | exact isw_row 6 rfl (by omega) | exact isw_row 7 rfl (by omega) | exact isw_row 8 rfl (by omega) | exact isw_of (isS_fl (by assumption) (by omega)) | exact isw_of (by assumption)) | exact ps_index rfl rfl rfl (by omega) (by first | exact isw_ga _ | exact isw_some _ | exact isw_row 0 rfl (by omega) | exact isw_row 1 rfl (by omega) | exact isw_row 2 rfl (by omega) | exact isw_row 3 rfl (by omega) | exact isw_row 4 rfl (by omega) | exact isw_row 5 rfl (by omega) | exact isw_row 6 rfl (by omega) | exact isw_row 7 rfl (by omega) | exact isw_row 8 rfl (by omega) | exact isw_of (isS_fl (by assumption) (by omega)) | exact isw_of (by assumption))) ?_;refine Zq (by first | exact ps_loads rfl rfl (by first | exact rds_box 0 rfl | exact rds_box 1 rfl | exact rds_box 2 rfl | exact rds_box 3 rfl | exact rds_box 4 rfl | exact rds_box 5 rfl | exact rds_box 6 rfl | exact rds_box 7 rfl | exact rds_box 8 rfl | exact rds_box 9 rfl | exact rds_box 10 rfl | exact rds_box 11 rfl | exact rds_box 12 rfl | exact rds_box 13 rfl | exact rds_box 14 rfl | exact rds_box 15 rfl | exact rds_box 16 rfl | exact rds_box 17 rfl | exact rds_box 18 rfl | exact rds_box 19 rfl | exact rds_box 20 rfl | exact rds_box 21 rfl | exact rds_box 22 rfl | exact rds_box 23 rfl) rfl rfl (by decide) | exact ps_loadsF rfl rfl (by first | exact rds_row 0 rfl | exact rds_row 1 rfl | exact rds_row 2 rfl | exact rds_row 3 rfl | exact rds_row 4 rfl | exact rds_row 5 rfl | exact rds_row 6 rfl | exact rds_row 7 rfl | exact rds_row 8 rfl | exact rds_row 9 rfl | exact rds_row 10 rfl | exact rds_row 11 rfl | exact rds_row 12 rfl | exact rds_row 13 rfl | exact rds_row 14 rfl | exact rds_row 15 rfl | exact rds_row 16 rfl | exact rds_row 17 rfl | exact rds_row 18 rfl | exact rds_row 19 rfl | exact rds_row 20 rfl | exact rds_row 21 rfl | exact rds_row 22 rfl | exact rds_row 23 rfl | exact rds_rf (by assumption) (by first | exact List.mem_cons_self | exact List.mem_cons_of_mem _ List.mem_cons_self | simp)) (by rfl) (by rfl) (by omega) rfl) ?_;refine Zn (by exact ms_k1 rfl rfl rfl (fun _ _ w' hw => hf (nth R k) w' (hw.keeps (by first | exact List.mem_cons_self | exact List.mem_cons_of_mem _ List.mem_cons_self | simp)))) ?_;rintro y16 hy16;refine Ze6 0 1 5 7 8 16 ?_)|(refine Zr 5 ?_;refine Zm ?_;refine Za ?_;refine Ze1 4 ?_)|(refine Zr 6 ?_;refine Zq (by exact ps_add rfl rfl rfl (by omega)) ?_;refine Zm ?_;refine Ze4 0 1 7 8 ?_)|(refine Zr 7 ?_;refine Za ?_;refine Ze1 4 ?_))
  · have e : ixP p R = (k : Int) := by rw [HR.out,ixF_step (by omega),hc];rfl
    rw [e]
    exact ok_endL (vs := [_]) rfl ⟨rfl,trivial⟩ (fun w' hw => ⟨rfl,hw.below⟩)
  · have e : ixF p R (R.length - k) k = ixF p R (R.length - (k + 1)) (k + 1) := by rw [ixF_step (by omega),hc];rfl
    exact fun a w' he hw => ⟨⟨k + 1,by omega,HR.out.trans e⟩,by simp only;omega,he.sub ⟨rfl,rfl,rfl,rfl,trivial⟩,hw⟩
  · obtain rfl : k = R.length := by omega
    have e : ixP p R = -1 := by rw [HR.out,Nat.sub_self];rfl
    rw [e]
    exact ok_endL (vs := [_]) rfl ⟨rfl,trivial⟩ (fun w' hw => ⟨rfl,hw.below⟩)
instance : AR Tryz.prog 308 16 307 1 := ⟨by kernel_rfl,by kernel_rfl,rfl⟩
@[reducible] def datU : Dat Nat := ⟨1,fun x => [.int .u32 (x : Int)],fun _ => rfl,0⟩
attribute [local instance] datU
theorem fl_oneU (l : List Nat) : ∀ u ∈ fl l,u.oneCell' = true := fun u hu => by
  obtain ⟨x,hx,hu⟩ := List.mem_flatMap.1 hu
  change u ∈ [Value.int .u32 (x : Int)] at hu
  rw [List.mem_singleton] at hu
  subst hu;rfl
theorem hdr_built : Tryz.prog.built 308 [(0,.int .u32 1634760805),(1,.int .u32 857760878),(2,.int .u32 2036477234),(3,.int .u32 1797285236)] = some (fl (hdrW ++ List.replicate 12 0)).toArray := by kernel_rfl
theorem ps_bldC {P : Program} {E : Env} {H : List HObj} {G : List World} {o : Oper} {t : TypeId} {parts : Array (Nat × Operand)} {vs : List (Nat × Value)} {cs : List Value} (ho : o.op = .build t parts) (hp : Parts E parts.toList vs) (hb : P.built t vs = some cs.toArray) : PStep P E H G o (.agg cs.toArray) := fun N base w0 a w he hw => by
  have hm : (parts.map fun q => (q.1,a.eval q.2)).toList = vs := by rw [Array.toList_map];exact parts_eval he hp
  have := run_build (P := P) w t (parts.map fun q => (q.1,a.eval q.2)) cs.toArray (by rw [hm];exact hb)
  simp only [execOp,ho,Sem.run_bind,this,Result.andThen_ok,Sem.run_pure]
theorem rotl_c (x n : Nat) (hx : x < 4294967296) (hn : 0 < n ∧ n < 32) (w : World) : Calls Tryz.prog 334 #[.int .u32 (x : Int),.int .i64 (n : Int)] w fun e w' => e = .returned (.int .u32 (rotN x n : Nat)) ∧ Below w.heap.size w w' := by
  have h1 : x / 2 ^ (32 - n) < 4294967296 := Nat.lt_of_le_of_lt (Nat.div_le_self _ _) hx
  have h2 : x * 2 ^ n % 4294967296 < 4294967296 := Nat.mod_lt _ (by decide)
  refine ok_enter 17 Tryz.func334 rfl rfl rfl ?_
  repeat' (first|refine Wa ?_|refine Wb ?_|refine Wg ?_|(refine Zr 0 ?_;refine Za ?_;refine Ze2 0 1 ?_)|(refine Zr 1 ?_;refine Zm ?_;refine Zq (by exact ps_conv_id rfl rfl (IntWalk.u64_in _ (by omega))) ?_;refine Zq (by exact ps_cast (v' := .int .u64 (n : Int)) (ps_andN (n := 31) rfl rfl rfl (.inr (.inr (.inr ⟨rfl,by omega⟩))) (.inr (.inr (.inr ⟨rfl,by omega⟩)))) (by rw [nat_mask5,Nat.mod_eq_of_lt hn.2])) ?_;refine Za ?_;refine Ze2 0 5 ?_)|(refine Zr 2 ?_;refine Zm ?_;refine Zm ?_;refine Zq (by exact ps_shlU rfl rfl rfl hn.2) ?_;refine Zm ?_;refine Zm ?_;refine Zq (by exact ps_subU64 (m := 32) rfl rfl rfl (by omega) (by omega)) ?_;refine Zq (by exact ps_shrN rfl rfl rfl (show 32 - n < 32 by omega)) ?_;refine Zq (by exact ps_orN rfl rfl rfl (.inl ⟨rfl,h2⟩) (.inl ⟨rfl,h1⟩)) ?_;refine Za ?_;refine Ze1 4 ?_))
  exact ok_endL (vs := [_]) rfl ⟨rfl,trivial⟩ (fun w' hw => ⟨rfl,hw.below⟩)
theorem little_c (s : ByteArray) (a : Nat) (h : a + 4 ≤ s.size) (hs : s.size ≤ 1048576) (w : World) : Calls Tryz.prog 333 #[.string s,.int .i64 (a : Int)] w fun e w' => e = .returned (.int .u32 (le4 s a : Nat)) ∧ Below w.heap.size w w' := by
  have h0 := bt_lt s a
  have h1 := bt_lt s (a + 1)
  have h2 := bt_lt s (a + 2)
  have h3 := bt_lt s (a + 3)
  have l1 := or_lt32 (a := bt s a) (b := bt s (a + 1) * 2 ^ 8) (by omega) (by omega)
  have l2 := or_lt32 (b := bt s (a + 2) * 2 ^ 16) l1 (by omega)
  refine ok_enter 30 Tryz.func333 rfl rfl rfl ?_
  repeat' (first|refine Wa ?_|refine Wb ?_|refine Wg ?_|(refine Zr 0 ?_;refine Za ?_;refine Ze2 0 1 ?_)|(refine Xd 1 26 ?_;refine Xm 0 ?_;refine Xm 1 ?_;refine Xt 2 rfl (by exact ps_sidxE a rfl rfl rfl rfl (by omega)) ?_;refine Xt 3 rfl (by exact ps_conv_id rfl rfl (IntWalk.u32_in _ (by omega))) ?_;refine Xm 4 ?_;refine Xm 5 ?_;refine Xt 6 rfl (by exact ps_add rfl rfl rfl (by omega)) ?_;refine Xt 7 rfl (by exact ps_sidxE (a + 1) rfl rfl rfl (by omega) (by omega)) ?_;refine Xt 8 rfl (by exact ps_conv_id rfl rfl (IntWalk.u32_in _ (by omega))) ?_;refine Xt 9 rfl (by exact ps_shlV (s := 8) rfl rfl rfl (by omega) (by omega)) ?_;refine Xt 10 rfl (by exact ps_orN rfl rfl rfl (.inl ⟨rfl,by omega⟩) (.inl ⟨rfl,by omega⟩)) ?_;refine Xm 11 ?_;refine Xm 12 ?_;refine Xt 13 rfl (by exact ps_add rfl rfl rfl (by omega)) ?_;refine Xt 14 rfl (by exact ps_sidxE (a + 2) rfl rfl rfl (by omega) (by omega)) ?_;refine Xt 15 rfl (by exact ps_conv_id rfl rfl (IntWalk.u32_in _ (by omega))) ?_;refine Xt 16 rfl (by exact ps_shlV (s := 16) rfl rfl rfl (by omega) (by omega)) ?_;refine Xt 17 rfl (by exact ps_orN rfl rfl rfl (.inl ⟨rfl,l1⟩) (.inl ⟨rfl,by omega⟩)) ?_;refine Xm 18 ?_;refine Xm 19 ?_;refine Xt 20 rfl (by exact ps_add rfl rfl rfl (by omega)) ?_;refine Xt 21 rfl (by exact ps_sidxE (a + 3) rfl rfl rfl (by omega) (by omega)) ?_;refine Xt 22 rfl (by exact ps_conv_id rfl rfl (IntWalk.u32_in _ (by omega))) ?_;refine Xt 23 rfl (by exact ps_shlV (s := 24) rfl rfl rfl (by omega) (by omega)) ?_;refine Xt 24 rfl (by exact ps_orN rfl rfl rfl (.inl ⟨rfl,l2⟩) (.inl ⟨rfl,by omega⟩)) ?_;refine Xt 25 rfl (ps_assign rfl rfl) ?_;refine okT_done (by kernel_rfl) ?_;refine Ze1 4 ?_))
  exact ok_endL (vs := [_]) rfl ⟨rfl,trivial⟩ (fun w' hw => ⟨rfl,hw.below⟩)
section
variable {P : Program} {E : Env} {H : List HObj} {G : List World} {o : Oper}
theorem ps_ldU {x : Operand} {t g e i : Nat} {L : List Nat} (q : Nat) [hl : LD P t 1 false] (ho : o.op = .load t x) (hx : opd E x = some (pt (ga g) (0 + i * 1))) (hi : H[q]? = some (.box g e (fl L))) (hL : W16 L) (hj : i < 16) : PStep P E H G o (.int .u32 (wd L i : Int)) :=
  ps_loadA q ho hx hi (by rw [hL.len];exact hj) rfl rfl
theorem ms_adU {x y : Operand} {t g e a b : Nat} {L : List Nat} (q : Nat) [hl : LD P t 1 false] (ho : o.op = .store t x y) (hx : opd E x = some (pt (ga g) (0 + a * 1))) (hy : opd E y = some (.int .u32 (((wd L a + wd L b) % 4294967296 : Nat) : Int))) (hi : H[q]? = some (.box g e (fl L))) (hL : W16 L) (hj : a < 16) :
    MStep P E H G o (fun _ => True) (fun _ => undef) (fun _ => H.set q (.box g e (fl (sA L a b)))) (fun _ => G) :=
  ms_setA q ((wd L a + wd L b) % 4294967296) ho hx hy hi rfl rfl rfl rfl (by rw [hL.len];exact hj)
theorem ms_roU {x y : Operand} {t g e d a n : Nat} {L : List Nat} (q : Nat) [hl : LD P t 1 false] (ho : o.op = .store t x y) (hx : opd E x = some (pt (ga g) (0 + d * 1))) (hy : opd E y = some (.int .u32 ((rotN (wd L d ^^^ wd L a) n : Nat) : Int))) (hi : H[q]? = some (.box g e (fl L))) (hL : W16 L) (hj : d < 16) :
    MStep P E H G o (fun _ => True) (fun _ => undef) (fun _ => H.set q (.box g e (fl (sR L d a n)))) (fun _ => G) :=
  ms_setA q (rotN (wd L d ^^^ wd L a) n) ho hx hy hi rfl rfl rfl rfl (by rw [hL.len];exact hj)
end
theorem ok_endV {P : Program} {N base : Nat} {w0 : World} {E : Env} {H : List HObj} {G : List World} {fn : Func} {R : Ending → World → Prop} (hr : fn.results = #[]) (h : ∀ w,WOk base w0 H G w → R (.returned (.tuple #[])) w) : Ok N base w0 E H G (bodyPost P fn R .normal) :=
  ok_endL (fn := fn) (R := R) (rs := []) (vs := []) hr trivial h
theorem quarter_c (g a b c d : Nat) (l : List Nat) (hl : W16 l) (ha : a < 16) (hb : b < 16) (hc : c < 16) (hd : d < 16) {base : Nat} {w0 w : World} {H : List HObj} {G : List World} (hw : WOk base w0 (.box g 308 (fl l) :: H) G w) :
    Calls Tryz.prog 298 #[pt (ga g) 0,.int .i64 (a : Int),.int .i64 (b : Int),.int .i64 (c : Int),.int .i64 (d : Int)] w fun e w' => ∃ y : Ys,e = .returned (.tuple #[]) ∧ True ∧ WOk base w0 (.box g 308 (fl (qr l a b c d)) :: H) G w' := by
  have l1 := hl.sA a b
  have l2 := l1.sR d a 16
  have l3 := l2.sA c d
  have l4 := l3.sR b c 12
  have l5 := l4.sA a b
  have l6 := l5.sR d a 8
  have l7 := l6.sA c d
  refine ok_enterW 126 Tryz.func298 rfl rfl rfl hw ?_
  repeat' (first|refine Wa ?_|refine Wb ?_|(refine ok_draw (id := 0) 13 rfl (by kernel_rfl) (by kernel_rfl) rfl (by repeat (first | exact pq_body | refine pq_then ?_ | refine pq_in ?_)) [0] (by decide) rfl ?_;refine Xm 0 ?_;refine Xm 1 ?_;refine Xt 2 rfl (by exact ps_nil rfl rfl (isw_ga _)) ?_;refine Xt 3 rfl (by exact ps_indexA rfl rfl rfl (by omega) (isw_ga _)) ?_;refine Xt 4 rfl (by exact ps_ldU 0 rfl rfl rfl (by assumption) (by omega)) ?_;refine Xm 5 ?_;refine Xm 6 ?_;refine Xt 7 rfl (by exact ps_nil rfl rfl (isw_ga _)) ?_;refine Xt 8 rfl (by exact ps_indexA rfl rfl rfl (by omega) (isw_ga _)) ?_;refine Xt 9 rfl (by exact ps_ldU 0 rfl rfl rfl (by assumption) (by omega)) ?_;refine Xt 10 rfl (ps_addU rfl rfl rfl) ?_;refine Xt 11 rfl (by exact ps_nil rfl rfl (isw_ga _)) ?_;refine Xt 12 rfl (by exact ps_indexA rfl rfl rfl (by omega) (isw_ga _)) ?_;refine okT_done (by kernel_rfl) ?_;refine Zo (by exact ms_adU 0 rfl rfl rfl rfl (by assumption) (by omega)) ?_;rintro y_ hy_;refine Ze5 0 1 2 3 4 ?_)|(refine ok_draw (id := 1) 16 rfl (by kernel_rfl) (by kernel_rfl) rfl (by repeat (first | exact pq_body | refine pq_then ?_ | refine pq_in ?_)) [0] (by decide) rfl ?_;refine Xm 0 ?_;refine Xm 1 ?_;refine Xm 2 ?_;refine Xm 3 ?_;refine Xt 4 rfl (by exact ps_nil rfl rfl (isw_ga _)) ?_;refine Xt 5 rfl (by exact ps_indexA rfl rfl rfl (by omega) (isw_ga _)) ?_;refine Xt 6 rfl (by exact ps_ldU 0 rfl rfl rfl (by assumption) (by omega)) ?_;refine Xm 7 ?_;refine Xm 8 ?_;refine Xt 9 rfl (by exact ps_nil rfl rfl (isw_ga _)) ?_;refine Xt 10 rfl (by exact ps_indexA rfl rfl rfl (by omega) (isw_ga _)) ?_;refine Xt 11 rfl (by exact ps_ldU 0 rfl rfl rfl (by assumption) (by omega)) ?_;refine Xt 12 rfl (by exact ps_xorN rfl rfl rfl (.inl ⟨rfl,W16.lt (by assumption) _⟩) (.inl ⟨rfl,W16.lt (by assumption) _⟩)) ?_;refine Xt 14 rfl (by exact ps_nil rfl rfl (isw_ga _)) ?_;refine Xo 13 rfl (by exact ms_s2 rfl rfl rfl (fun _ _ w hw => rotl_c _ 16 (W16.xor (by assumption) _ _) (by omega) w)) (fun y w _ h => by exact h.sel [0] (by decide) rfl (fun _ h => h)) ?_;rintro y36 hy36;refine Xt 15 rfl (by exact ps_indexA rfl rfl rfl (by omega) (isw_ga _)) ?_;refine okT_done (by kernel_rfl) ?_;refine Zo (by exact ms_roU 0 rfl rfl rfl rfl (by assumption) (by omega)) ?_;rintro y_ hy_;refine Ze5 0 1 2 3 4 ?_)|(refine ok_draw (id := 2) 13 rfl (by kernel_rfl) (by kernel_rfl) rfl (by repeat (first | exact pq_body | refine pq_then ?_ | refine pq_in ?_)) [0] (by decide) rfl ?_;refine Xm 0 ?_;refine Xm 1 ?_;refine Xt 2 rfl (by exact ps_nil rfl rfl (isw_ga _)) ?_;refine Xt 3 rfl (by exact ps_indexA rfl rfl rfl (by omega) (isw_ga _)) ?_;refine Xt 4 rfl (by exact ps_ldU 0 rfl rfl rfl (by assumption) (by omega)) ?_;refine Xm 5 ?_;refine Xm 6 ?_;refine Xt 7 rfl (by exact ps_nil rfl rfl (isw_ga _)) ?_;refine Xt 8 rfl (by exact ps_indexA rfl rfl rfl (by omega) (isw_ga _)) ?_;refine Xt 9 rfl (by exact ps_ldU 0 rfl rfl rfl (by assumption) (by omega)) ?_;refine Xt 10 rfl (ps_addU rfl rfl rfl) ?_;refine Xt 11 rfl (by exact ps_nil rfl rfl (isw_ga _)) ?_;refine Xt 12 rfl (by exact ps_indexA rfl rfl rfl (by omega) (isw_ga _)) ?_;refine okT_done (by kernel_rfl) ?_;refine Zo (by exact ms_adU 0 rfl rfl rfl rfl (by assumption) (by omega)) ?_;rintro y_ hy_;refine Ze5 0 1 2 3 4 ?_)|(refine ok_draw (id := 3) 16 rfl (by kernel_rfl) (by kernel_rfl) rfl (by repeat (first | exact pq_body | refine pq_then ?_ | refine pq_in ?_)) [0] (by decide) rfl ?_;refine Xm 0 ?_;refine Xm 1 ?_;refine Xm 2 ?_;refine Xm 3 ?_;refine Xt 4 rfl (by exact ps_nil rfl rfl (isw_ga _)) ?_;refine Xt 5 rfl (by exact ps_indexA rfl rfl rfl (by omega) (isw_ga _)) ?_;refine Xt 6 rfl (by exact ps_ldU 0 rfl rfl rfl (by assumption) (by omega)) ?_;refine Xm 7 ?_;refine Xm 8 ?_;refine Xt 9 rfl (by exact ps_nil rfl rfl (isw_ga _)) ?_;refine Xt 10 rfl (by exact ps_indexA rfl rfl rfl (by omega) (isw_ga _)) ?_;refine Xt 11 rfl (by exact ps_ldU 0 rfl rfl rfl (by assumption) (by omega)) ?_;refine Xt 12 rfl (by exact ps_xorN rfl rfl rfl (.inl ⟨rfl,W16.lt (by assumption) _⟩) (.inl ⟨rfl,W16.lt (by assumption) _⟩)) ?_;refine Xt 14 rfl (by exact ps_nil rfl rfl (isw_ga _)) ?_;refine Xo 13 rfl (by exact ms_s2 rfl rfl rfl (fun _ _ w hw => rotl_c _ 12 (W16.xor (by assumption) _ _) (by omega) w)) (fun y w _ h => by exact h.sel [0] (by decide) rfl (fun _ h => h)) ?_;rintro y65 hy65;refine Xt 15 rfl (by exact ps_indexA rfl rfl rfl (by omega) (isw_ga _)) ?_;refine okT_done (by kernel_rfl) ?_;refine Zo (by exact ms_roU 0 rfl rfl rfl rfl (by assumption) (by omega)) ?_;rintro y_ hy_;refine Ze5 0 1 2 3 4 ?_)|(refine ok_draw (id := 4) 13 rfl (by kernel_rfl) (by kernel_rfl) rfl (by repeat (first | exact pq_body | refine pq_then ?_ | refine pq_in ?_)) [0] (by decide) rfl ?_;refine Xm 0 ?_;refine Xm 1 ?_;refine Xt 2 rfl (by exact ps_nil rfl rfl (isw_ga _)) ?_;refine Xt 3 rfl (by exact ps_indexA rfl rfl rfl (by omega) (isw_ga _)) ?_;refine Xt 4 rfl (by exact ps_ldU 0 rfl rfl rfl (by assumption) (by omega)) ?_;refine Xm 5 ?_;refine Xm 6 ?_;refine Xt 7 rfl (by exact ps_nil rfl rfl (isw_ga _)) ?_;refine Xt 8 rfl (by exact ps_indexA rfl rfl rfl (by omega) (isw_ga _)) ?_;refine Xt 9 rfl (by exact ps_ldU 0 rfl rfl rfl (by assumption) (by omega)) ?_;refine Xt 10 rfl (ps_addU rfl rfl rfl) ?_;refine Xt 11 rfl (by exact ps_nil rfl rfl (isw_ga _)) ?_;refine Xt 12 rfl (by exact ps_indexA rfl rfl rfl (by omega) (isw_ga _)) ?_;refine okT_done (by kernel_rfl) ?_;refine Zo (by exact ms_adU 0 rfl rfl rfl rfl (by assumption) (by omega)) ?_;rintro y_ hy_;refine Ze5 0 1 2 3 4 ?_)|(refine ok_draw (id := 5) 16 rfl (by kernel_rfl) (by kernel_rfl) rfl (by repeat (first | exact pq_body | refine pq_then ?_ | refine pq_in ?_)) [0] (by decide) rfl ?_;refine Xm 0 ?_;refine Xm 1 ?_;refine Xm 2 ?_;refine Xm 3 ?_;refine Xt 4 rfl (by exact ps_nil rfl rfl (isw_ga _)) ?_;refine Xt 5 rfl (by exact ps_indexA rfl rfl rfl (by omega) (isw_ga _)) ?_;refine Xt 6 rfl (by exact ps_ldU 0 rfl rfl rfl (by assumption) (by omega)) ?_;refine Xm 7 ?_;refine Xm 8 ?_;refine Xt 9 rfl (by exact ps_nil rfl rfl (isw_ga _)) ?_;refine Xt 10 rfl (by exact ps_indexA rfl rfl rfl (by omega) (isw_ga _)) ?_;refine Xt 11 rfl (by exact ps_ldU 0 rfl rfl rfl (by assumption) (by omega)) ?_;refine Xt 12 rfl (by exact ps_xorN rfl rfl rfl (.inl ⟨rfl,W16.lt (by assumption) _⟩) (.inl ⟨rfl,W16.lt (by assumption) _⟩)) ?_;refine Xt 14 rfl (by exact ps_nil rfl rfl (isw_ga _)) ?_;refine Xo 13 rfl (by exact ms_s2 rfl rfl rfl (fun _ _ w hw => rotl_c _ 8 (W16.xor (by assumption) _ _) (by omega) w)) (fun y w _ h => by exact h.sel [0] (by decide) rfl (fun _ h => h)) ?_;rintro y94 hy94;refine Xt 15 rfl (by exact ps_indexA rfl rfl rfl (by omega) (isw_ga _)) ?_;refine okT_done (by kernel_rfl) ?_;refine Zo (by exact ms_roU 0 rfl rfl rfl rfl (by assumption) (by omega)) ?_;rintro y_ hy_;refine Ze4 0 2 3 4 ?_)|(refine ok_draw (id := 6) 13 rfl (by kernel_rfl) (by kernel_rfl) rfl (by repeat (first | exact pq_body | refine pq_then ?_ | refine pq_in ?_)) [0] (by decide) rfl ?_;refine Xm 0 ?_;refine Xm 1 ?_;refine Xt 2 rfl (by exact ps_nil rfl rfl (isw_ga _)) ?_;refine Xt 3 rfl (by exact ps_indexA rfl rfl rfl (by omega) (isw_ga _)) ?_;refine Xt 4 rfl (by exact ps_ldU 0 rfl rfl rfl (by assumption) (by omega)) ?_;refine Xm 5 ?_;refine Xm 6 ?_;refine Xt 7 rfl (by exact ps_nil rfl rfl (isw_ga _)) ?_;refine Xt 8 rfl (by exact ps_indexA rfl rfl rfl (by omega) (isw_ga _)) ?_;refine Xt 9 rfl (by exact ps_ldU 0 rfl rfl rfl (by assumption) (by omega)) ?_;refine Xt 10 rfl (ps_addU rfl rfl rfl) ?_;refine Xt 11 rfl (by exact ps_nil rfl rfl (isw_ga _)) ?_;refine Xt 12 rfl (by exact ps_indexA rfl rfl rfl (by omega) (isw_ga _)) ?_;refine okT_done (by kernel_rfl) ?_;refine Zo (by exact ms_adU 0 rfl rfl rfl rfl (by assumption) (by omega)) ?_;rintro y_ hy_;refine Ze3 0 2 3 ?_)|(refine ok_draw (id := 7) 16 rfl (by kernel_rfl) (by kernel_rfl) rfl (by repeat (first | exact pq_body | refine pq_then ?_ | refine pq_in ?_)) [0] (by decide) rfl ?_;refine Xm 0 ?_;refine Xm 1 ?_;refine Xm 2 ?_;refine Xm 3 ?_;refine Xt 4 rfl (by exact ps_nil rfl rfl (isw_ga _)) ?_;refine Xt 5 rfl (by exact ps_indexA rfl rfl rfl (by omega) (isw_ga _)) ?_;refine Xt 6 rfl (by exact ps_ldU 0 rfl rfl rfl (by assumption) (by omega)) ?_;refine Xm 7 ?_;refine Xm 8 ?_;refine Xt 9 rfl (by exact ps_nil rfl rfl (isw_ga _)) ?_;refine Xt 10 rfl (by exact ps_indexA rfl rfl rfl (by omega) (isw_ga _)) ?_;refine Xt 11 rfl (by exact ps_ldU 0 rfl rfl rfl (by assumption) (by omega)) ?_;refine Xt 12 rfl (by exact ps_xorN rfl rfl rfl (.inl ⟨rfl,W16.lt (by assumption) _⟩) (.inl ⟨rfl,W16.lt (by assumption) _⟩)) ?_;refine Xt 14 rfl (by exact ps_nil rfl rfl (isw_ga _)) ?_;refine Xo 13 rfl (by exact ms_s2 rfl rfl rfl (fun _ _ w hw => rotl_c _ 7 (W16.xor (by assumption) _ _) (by omega) w)) (fun y w _ h => by exact h.sel [0] (by decide) rfl (fun _ h => h)) ?_;rintro y123 hy123;refine Xt 15 rfl (by exact ps_indexA rfl rfl rfl (by omega) (isw_ga _)) ?_;refine okT_done (by kernel_rfl) ?_;refine Zo (by exact ms_roU 0 rfl rfl rfl rfl (by assumption) (by omega)) ?_;rintro y_ hy_;refine Ze0 ?_))
  exact ok_endV rfl (fun w' hw => ⟨mkY none 0 w',rfl,trivial,hw⟩)
theorem in_i (x a b : Int) (w : World) : Calls Tryz.prog 96 #[.int .i64 x,.int .i64 a,.int .i64 b] w fun e w' => e = .returned (.bool (inB x a b)) ∧ Below w.heap.size w w' := by
  refine ok_enter 15 Tryz.func96 rfl rfl rfl ?_
  repeat' (first|refine Wa ?_|refine Wb ?_|refine Wg ?_|(refine Zr 0 ?_;refine Za ?_;refine Ze3 0 1 2 ?_)|(refine Zr 1 ?_;refine Zm ?_;refine Zm ?_;refine Zi ?_;refine Zm ?_;refine Zg rfl rfl rfl (gT _) (fun hp => by exact ps_move rfl rfl) ?_;refine Zg rfl rfl rfl (gT _) (fun hp => by exact ps_move rfl rfl) ?_;refine Zg rfl rfl rfl (gT _) (fun hp => by (exact ps_int rfl (Og rfl) (Og rfl) rfl)) ?_;refine Zq (ps_and rfl rfl rfl) ?_;refine Za ?_;refine Ze1 6 ?_))
  exact ok_endL (vs := [_]) rfl ⟨rfl,trivial⟩ (fun w' hw => ⟨rfl,hw.below⟩)
theorem isCha_c (key : ByteArray) (c : Int) (nonce : ByteArray) (w : World) : Calls Tryz.prog 296 #[.string key,.int .i64 c,.string nonce] w fun e w' => e = .returned (.bool (isChaF key c nonce)) ∧ Below w.heap.size w w' := by
  refine ok_enter 19 Tryz.func296 rfl rfl rfl ?_
  repeat' (first|refine Wa ?_|refine Wb ?_|refine Wg ?_|(refine Zr 0 ?_;refine Za ?_;refine Ze3 0 1 2 ?_)|(refine Zr 1 ?_;refine Zm ?_;refine Zq (ps_slen rfl rfl) ?_;refine Zi ?_;refine Zm ?_;refine Zg rfl rfl rfl (gT _) (fun hp => by exact ps_move rfl rfl) ?_;refine Zh rfl rfl rfl (gT _) (fun hp => by (exact ms_s3 rfl (Og rfl) rfl rfl (fun _ _ w hw => in_i c _ _ w))) ?_;refine Zq (ps_and rfl rfl rfl) ?_;refine Zm ?_;refine Zg rfl rfl rfl (gT _) (fun hp => by exact ps_move rfl rfl) ?_;refine Zg rfl rfl rfl (gT _) (fun hp => by (exact ps_slen rfl (Og rfl))) ?_;refine Zg rfl rfl rfl (gT _) (fun hp => by (exact ps_int rfl (Og rfl) rfl rfl)) ?_;refine Zq (ps_and rfl rfl rfl) ?_;refine Za ?_;refine Ze1 6 ?_))
  exact ok_endL (vs := [_]) rfl ⟨rfl,trivial⟩ (fun w' hw => ⟨rfl,hw.below⟩)
theorem first_c (key nonce : ByteArray) (c : Nat) (hk : key.size = 32) (hn : nonce.size = 12) (hc : c < 4294967296) (w : World) :
    Calls Tryz.prog 297 #[.string key,.int .i64 (c : Int),.string nonce] w fun e w' => e = .returned (.agg (fl (firstW key c nonce)).toArray) ∧ Below w.heap.size w w' := by
  refine ok_enter 37 Tryz.func297 rfl rfl rfl ?_
  repeat' (first|refine Wa ?_|refine Wb ?_|refine Wd ?_|(refine Zr 0 ?_;refine Zn (ms_alloc rfl) ?_;rintro y6 hy6;refine Ze4 0 1 2 6 ?_)|(refine Zr 1 ?_;refine Zq (by exact ps_bldC rfl (parts_cons rfl (parts_cons rfl (parts_cons rfl (parts_cons rfl parts_nil)))) hdr_built) ?_;refine Zn (ms_alloc rfl) ?_;rintro y7 hy7;refine Zo (ms_store 0 rfl rfl rfl rfl rfl rfl rfl rfl) ?_;rintro y_ hy_;refine Ze5 0 1 2 6 7 ?_)|(refine Zr 2 ?_;refine Zm ?_;refine Ze6 0 1 2 6 7 11 ?_))
  refine ok_loop (ι := { i : Nat // i ≤ 8 }) (fun q => 8 - q.1) (fun q => ([(0,.string key),(1,.int .i64 (c : Int)),(2,.string nonce),(6,pt (ga (y6 0).c) 0),(7,pt (ga (y7 0).c) 0),(11,.int .i64 q.1)],[.box (y7 0).c 308 (fl (fw1 key q.1)),_],_)) ⟨0,by omega⟩ (fun a w he hw => ⟨⟨0,by omega⟩,he.sub ⟨rfl,rfl,rfl,rfl,rfl,rfl,trivial⟩,hw⟩) ?_
  rintro ⟨i,hi⟩
  simp only at hi ⊢
  have hlen := fw1_len key i hi
  repeat' (first|refine Wa ?_|refine Wb ?_|refine Wd ?_|refine We ?_|(refine ok_cond rfl (fun hc => ?_) (fun hc => ?_) <;> (have hd := hc;try simp only [jj] at hd))|refine Wh ?_|refine Wi ?_|(refine Zr 3 ?_;refine Zi ?_;refine Ze7 0 1 2 6 7 11 12 ?_)|(refine Zr 4 ?_;refine Zm ?_;refine Za ?_;refine Ze7 0 1 2 6 7 8 11 ?_)|(refine Zr 5 ?_;refine Zm ?_;refine Zq (by exact ps_cast (v' := .int .i64 ((4 + i : Nat) : Int)) (ps_add rfl rfl rfl (by omega)) (by push_cast;rfl)) ?_;refine Zm ?_;refine Zm ?_;refine Zq (by exact ps_cast (v' := .int .i64 ((4 * i : Nat) : Int)) (ps_mul rfl rfl rfl (by omega)) (by push_cast;rfl)) ?_;refine Zn (by exact ms_s2 rfl rfl rfl (fun _ _ w hw => little_c key (4 * i) (by omega) (by omega) w)) ?_;rintro y19 hy19;refine Zq (by exact ps_indexA rfl rfl rfl (by omega) (isw_ga _)) ?_;refine Zo (by exact ms_setA 0 (le4 key (4 * i)) rfl rfl rfl rfl rfl rfl rfl rfl (by omega)) ?_;rintro y_ hy_;refine Ze6 0 1 2 6 7 11 ?_)|(refine Zr 6 ?_;refine Zq (by exact ps_add rfl rfl rfl (by omega)) ?_;refine Zm ?_;refine Ze6 0 1 2 6 7 11 ?_)|(refine Zr 7 ?_;refine Zm ?_;refine Zq (by exact ps_conv_id rfl rfl (IntWalk.u32_in _ (by omega))) ?_;refine Zq (by exact ps_indexA (i := 12) rfl rfl rfl (by omega) (isw_ga _)) ?_;refine Zo (by exact ms_setA 0 c rfl rfl rfl rfl rfl rfl rfl rfl (by omega)) ?_;rintro y_ hy_;refine Ze3 2 6 7 ?_)|(refine Zr 8 ?_;refine Zm ?_;refine Ze4 2 6 7 25 ?_))
  · refine fun a w' he hw => ⟨⟨i + 1,by omega⟩,by simp only;omega,he.sub ⟨rfl,rfl,rfl,rfl,rfl,rfl,trivial⟩,?_⟩
    simp only [← fw1_step key i (by omega)]
    exact hw
  obtain rfl : i = 8 := by omega
  rw [List.set_cons_zero,fw1_c key c nonce]
  refine ok_loop (ι := { i : Nat // i ≤ 3 }) (fun q => 3 - q.1) (fun q => ([(2,.string nonce),(6,pt (ga (y6 0).c) 0),(7,pt (ga (y7 0).c) 0),(25,.int .i64 q.1)],[.box (y7 0).c 308 (fl (fw2 key c nonce q.1)),_],_)) ⟨0,by omega⟩ (fun a w he hw => ⟨⟨0,by omega⟩,he.sub ⟨rfl,rfl,rfl,rfl,trivial⟩,hw⟩) ?_
  rintro ⟨i,hi⟩
  simp only at hi ⊢
  have hlen := fw2_len key c nonce i hi
  have hlen3 : (fl (fw2 key c nonce i)).length = 16 := by rw [fl_len,hlen];rfl
  repeat' (first|refine Wa ?_|refine Wb ?_|refine Wd ?_|refine We ?_|(refine ok_cond rfl (fun hc => ?_) (fun hc => ?_) <;> (have hd := hc;try simp only [jj] at hd))|refine Wg ?_|refine Wh ?_|refine Wi ?_|(refine Zr 9 ?_;refine Zi ?_;refine Ze5 2 6 7 25 26 ?_)|(refine Zr 10 ?_;refine Zm ?_;refine Za ?_;refine Ze5 2 6 7 9 25 ?_)|(refine Zr 11 ?_;refine Zm ?_;refine Zq (by exact ps_cast (v' := .int .i64 ((13 + i : Nat) : Int)) (ps_add rfl rfl rfl (by omega)) (by push_cast;rfl)) ?_;refine Zm ?_;refine Zm ?_;refine Zq (by exact ps_cast (v' := .int .i64 ((4 * i : Nat) : Int)) (ps_mul rfl rfl rfl (by omega)) (by push_cast;rfl)) ?_;refine Zn (by exact ms_s2 rfl rfl rfl (fun _ _ w hw => little_c nonce (4 * i) (by omega) (by omega) w)) ?_;rintro y33 hy33;refine Zq (by exact ps_indexA rfl rfl rfl (by omega) (isw_ga _)) ?_;refine Zo (by exact ms_setA 0 (le4 nonce (4 * i)) rfl rfl rfl rfl rfl rfl rfl rfl (by omega)) ?_;rintro y_ hy_;refine Ze4 2 6 7 25 ?_)|(refine Zr 12 ?_;refine Zq (by exact ps_add rfl rfl rfl (by omega)) ?_;refine Zm ?_;refine Ze4 2 6 7 25 ?_)|(refine Zr 13 ?_;refine Zq (by exact ps_loadsB 0 rfl rfl rfl hlen3 rfl) ?_;refine Zo (by exact ms_storeB 1 rfl rfl rfl rfl hlen3 rfl (fl_oneU _)) ?_;rintro y_ hy_;refine Ze1 6 ?_))
  · refine fun a w' he hw => ⟨⟨i + 1,by omega⟩,by simp only;omega,he.sub ⟨rfl,rfl,rfl,rfl,trivial⟩,?_⟩
    simp only [← fw2_step key c nonce i (by omega)]
    exact hw
  obtain rfl : i = 3 := by omega
  rw [fw2_end] at hlen3
  rw [fw2_end]
  exact ok_endL (vs := [_]) rfl ⟨⟨_,1,_,_,_,rfl,rfl,inferInstance,hlen3,rfl⟩,trivial⟩ (fun w' hw => ⟨rfl,hw.below⟩)
theorem W16.fl {l : List Nat} (h : W16 l) : (fl l).length = 16 := by rw [fl_len,h.len];rfl
structure ChaO where
  i : Nat
  A : Option Addr
  c : Nat
  hi : i ≤ 16
theorem i_ChaBlock (key nonce : ByteArray) (c : Int) (w : World) :
    Calls Tryz.prog 232 #[.string key,.int .i64 c,.string nonce] w fun e w' => e = .returned (.string (chaF key c nonce)) ∧ Below w.heap.size w w' := by
  refine ok_enter 85 Tryz.func232 rfl rfl rfl ?_
  by_cases hok : isChaF key c nonce = true
  · obtain ⟨hk,hc,hn⟩ := isCha_iff.1 hok
    obtain ⟨m,rfl⟩ : ∃ m : Nat,c = m := ⟨c.toNat,by omega⟩
    have hF : W16 (firstW key m nonce) := firstW_ok key (by omega) nonce
    have hFl := hF.fl
    have e : chaF key m nonce = ⟨(outTo (rnd (firstW key m nonce) 10) (firstW key m nonce) 16).toArray⟩ := by unfold chaF;rw [if_pos hok];rfl
    rw [e]
    generalize hFF : firstW key m nonce = F at hF hFl ⊢
    repeat' (first|refine Wa ?_|refine Wb ?_|refine Wc ?_|refine Wd ?_|(refine ok_cond rfl (fun hc => ?_) (fun hc => ?_) <;> (have hd := hc;try simp only [jj] at hd))|refine Wg ?_|refine Wi ?_|(refine Zr 0 ?_;refine Za ?_;refine Ze3 0 1 2 ?_)|(refine Zr 1 ?_;refine Zm ?_;refine Zm ?_;refine Zm ?_;refine Zn (by exact ms_s3 rfl rfl rfl rfl (fun _ _ w hw => isCha_c key m nonce w)) ?_;rintro y17 hy17;refine Zq (ps_not rfl rfl) ?_;refine Ze4 0 1 2 18 ?_)|(refine Zr 2 ?_;refine Za ?_;refine Ze1 6 ?_)|(refine Zr 3 ?_;refine Zm ?_;refine Zm ?_;refine Zm ?_;refine Zn (by exact ms_s3 rfl rfl rfl rfl (fun _ _ w hw => hFF ▸ first_c key nonce m hk hn (by omega) w)) ?_;rintro y22 hy22;refine Zn (ms_alloc rfl) ?_;rintro y7 hy7;refine Zo (by exact ms_storeB 0 rfl rfl rfl rfl hFl rfl (fl_oneU _)) ?_;rintro y_ hy_;refine Ze1 7 ?_)|(refine Zr 4 ?_;refine Zq (by exact ps_loadsB 0 rfl rfl rfl hFl rfl) ?_;refine Zn (ms_alloc rfl) ?_;rintro y8 hy8;refine Zo (by exact ms_storeB 0 rfl rfl rfl rfl hFl rfl (fl_oneU _)) ?_;rintro y_ hy_;refine Ze2 7 8 ?_)|(refine Zr 5 ?_;refine Zm ?_;refine Ze3 7 8 24 ?_))
    · exact absurd (show isChaF key m nonce = false from hd) (by rw [hok];decide)
    refine ok_loop (ι := { k : Nat // k ≤ 10 }) (fun q => 10 - q.1) (fun q => ([(7,pt (ga (y7 0).c) 0),(8,pt (ga (y8 0).c) 0),(24,.int .i64 q.1)],[.box (y8 0).c 308 (fl (rnd F q.1)),.box (y7 0).c 308 (fl F)],_)) ⟨0,by omega⟩ (fun a w he hw => ⟨⟨0,by omega⟩,he.sub ⟨rfl,rfl,rfl,trivial⟩,hw⟩) ?_
    rintro ⟨k,hk10⟩
    simp only at hk10 ⊢
    have hR := hF.rnd k
    have hR10 := (hF.rnd k).fl
    repeat' (first|refine Wa ?_|refine Wb ?_|refine Wd ?_|(refine ok_cond rfl (fun hc => ?_) (fun hc => ?_) <;> (have hd := hc;try simp only [jj] at hd))|refine Wh ?_|refine Wi ?_|(refine Zr 6 ?_;refine Zi ?_;refine Ze4 7 8 24 25 ?_)|(refine Zr 7 ?_;refine Zm ?_;refine Ze4 7 8 24 26 ?_)|(refine Zr 18 ?_;refine Zn (by exact ms_make0 (n := 64) rfl rfl rfl (by omega) (by omega)) ?_;rintro y57 hy57;refine Za ?_;refine Ze3 7 8 11 ?_)|(refine Zr 19 ?_;refine Zq (by exact ps_loadsB 1 rfl rfl rfl hR10 rfl) ?_;refine Zm ?_;refine Ze4 7 11 58 59 ?_))
    · refine ok_loop (ι := { i : Nat // i ≤ 4 }) (fun q => 4 - q.1) (fun q => ([(7,pt (ga (y7 0).c) 0),(8,pt (ga (y8 0).c) 0),(24,.int .i64 k),(26,.int .i64 q.1)],[.box (y8 0).c 308 (fl (colTo (rnd F k) q.1)),_],_)) ⟨0,by omega⟩ (fun a w he hw => ⟨⟨0,by omega⟩,he.sub ⟨rfl,rfl,rfl,rfl,trivial⟩,hw⟩) ?_
      rintro ⟨i,hi⟩
      simp only at hi ⊢
      repeat' (first|refine Wa ?_|refine Wb ?_|refine Wd ?_|refine We ?_|(refine ok_cond rfl (fun hc => ?_) (fun hc => ?_) <;> (have hd := hc;try simp only [jj] at hd))|refine Wh ?_|refine Wi ?_|(refine Zr 8 ?_;refine Zi ?_;refine Ze5 7 8 24 26 27 ?_)|(refine Zr 9 ?_;refine Zm ?_;refine Za ?_;refine Ze5 7 8 9 24 26 ?_)|(refine Zr 10 ?_;refine Zm ?_;refine Zm ?_;refine Zq (by exact ps_cast (v' := .int .i64 ((4 + i : Nat) : Int)) (ps_add rfl rfl rfl (by omega)) (by push_cast;rfl)) ?_;refine Zm ?_;refine Zq (by exact ps_cast (v' := .int .i64 ((8 + i : Nat) : Int)) (ps_add rfl rfl rfl (by omega)) (by push_cast;rfl)) ?_;refine Zm ?_;refine Zq (by exact ps_cast (v' := .int .i64 ((12 + i : Nat) : Int)) (ps_add rfl rfl rfl (by omega)) (by push_cast;rfl)) ?_;refine Zn (by exact ms_wr 0 rfl rfl rfl rfl (fun _ _ w hw => quarter_c _ i (4 + i) (8 + i) (12 + i) _ (hR.col i) (by omega) (by omega) (by omega) (by omega) hw)) ?_;rintro y36 hy36;refine Ze4 7 8 24 26 ?_)|(refine Zr 11 ?_;refine Zq (by exact ps_add rfl rfl rfl (by omega)) ?_;refine Zm ?_;refine Ze4 7 8 24 26 ?_)|(refine Zr 12 ?_;refine Zm ?_;refine Ze4 7 8 24 38 ?_))
      · exact fun a w' he hw => ⟨⟨i + 1,by omega⟩,by simp only;omega,he.sub ⟨rfl,rfl,rfl,rfl,trivial⟩,hw⟩
      obtain rfl : i = 4 := by omega
      have hC := hR.col 4
      refine ok_loop (ι := { i : Nat // i ≤ 4 }) (fun q => 4 - q.1) (fun q => ([(7,pt (ga (y7 0).c) 0),(8,pt (ga (y8 0).c) 0),(24,.int .i64 k),(38,.int .i64 q.1)],[.box (y8 0).c 308 (fl (diaTo (colTo (rnd F k) 4) q.1)),_],_)) ⟨0,by omega⟩ (fun a w he hw => ⟨⟨0,by omega⟩,he.sub ⟨rfl,rfl,rfl,rfl,trivial⟩,hw⟩) ?_
      rintro ⟨i,hi⟩
      simp only at hi ⊢
      repeat' (first|refine Wa ?_|refine Wb ?_|refine ok_then_exit ?_|refine Wd ?_|refine We ?_|refine ok_in_exit ?_|(refine ok_cond rfl (fun hc => ?_) (fun hc => ?_) <;> (have hd := hc;try simp only [jj] at hd))|refine Wh ?_|refine Wi ?_|(refine Zr 13 ?_;refine Zi ?_;refine Ze5 7 8 24 38 39 ?_)|(refine Zr 14 ?_;refine Zm ?_;refine Za ?_;refine Ze5 7 8 10 24 38 ?_)|(refine Zr 15 ?_;refine Zm ?_;refine Zm ?_;refine Zq (by exact ps_add rfl rfl rfl (by omega)) ?_;refine Zq (by exact ps_rem rfl rfl rfl (by omega) (by omega)) ?_;refine Zq (by exact ps_cast (v' := .int .i64 ((4 + (i + 1) % 4 : Nat) : Int)) (ps_add rfl rfl rfl (by omega)) (by push_cast;rfl)) ?_;refine Zm ?_;refine Zq (by exact ps_add rfl rfl rfl (by omega)) ?_;refine Zq (by exact ps_rem rfl rfl rfl (by omega) (by omega)) ?_;refine Zq (by exact ps_cast (v' := .int .i64 ((8 + (i + 2) % 4 : Nat) : Int)) (ps_add rfl rfl rfl (by omega)) (by push_cast;rfl)) ?_;refine Zm ?_;refine Zq (by exact ps_add rfl rfl rfl (by omega)) ?_;refine Zq (by exact ps_rem rfl rfl rfl (by omega) (by omega)) ?_;refine Zq (by exact ps_cast (v' := .int .i64 ((12 + (i + 3) % 4 : Nat) : Int)) (ps_add rfl rfl rfl (by omega)) (by push_cast;rfl)) ?_;refine Zn (by exact ms_wr 0 rfl rfl rfl rfl (fun _ _ w hw => quarter_c _ i (4 + (i + 1) % 4) (8 + (i + 2) % 4) (12 + (i + 3) % 4) _ (hC.dia i) (by omega) (by omega) (by omega) (by omega) hw)) ?_;rintro y54 hy54;refine Ze4 7 8 24 38 ?_)|(refine Zr 16 ?_;refine Zq (by exact ps_add rfl rfl rfl (by omega)) ?_;refine Zm ?_;refine Ze4 7 8 24 38 ?_)|(refine Zr 17 ?_;refine Zq (by exact ps_add rfl rfl rfl (by omega)) ?_;refine Zm ?_;refine Ze3 7 8 24 ?_))
      · exact fun a w' he hw => ⟨⟨i + 1,by omega⟩,by simp only;omega,he.sub ⟨rfl,rfl,rfl,rfl,trivial⟩,hw⟩
      obtain rfl : i = 4 := by omega
      exact fun a w' he hw => ⟨⟨k + 1,by omega⟩,by simp only;omega,he.sub ⟨rfl,rfl,rfl,trivial⟩,hw⟩
    obtain rfl : k = 10 := by omega
    generalize hLL : rnd F 10 = L at hR hR10 ⊢
    refine ok_loop (ι := ChaO) (fun q => 16 - q.i) (fun q => ([(7,pt (ga (y7 0).c) 0),(11,.slice q.A (4 * q.i) q.c),(58,.agg (fl L).toArray),(59,.int .i64 q.i)],[.row 5 1 q.A (4 * q.i) q.c (byteVs (outTo L F q.i)),_,_],_)) ⟨0,none,0,by omega⟩ (fun a w he hw => ⟨⟨0,_,_,by omega⟩,he.sub ⟨rfl,rfl,rfl,rfl,trivial⟩,hw⟩) ?_
    rintro ⟨i,A',c',hi⟩
    simp only at hi ⊢
    have hol := outTo_len L F i
    repeat' (first|refine Wa ?_|refine Wb ?_|refine Wd ?_|refine We ?_|(refine ok_cond rfl (fun hc => ?_) (fun hc => ?_) <;> (have hd := hc;try simp only [jj] at hd))|refine Wg ?_|refine Wh ?_|refine Wi ?_|(refine Zr 20 ?_;refine Zi ?_;refine Ze5 7 11 58 59 60 ?_)|(refine Zr 21 ?_;refine Zm ?_;refine Zq (by exact ps_indexV (u := .int .u32 (wd L i : Int)) rfl rfl rfl (by omega) hR.len rfl rfl) ?_;refine Za ?_;refine Za ?_;refine Ze6 7 11 12 13 58 59 ?_)|(refine Zr 22 ?_;refine Zm ?_;refine Zm ?_;refine Zq (by exact ps_indexA rfl rfl rfl (by omega) (isw_ga _)) ?_;refine Zq (by exact ps_ldU 2 rfl rfl rfl hF (by omega)) ?_;refine Zq (ps_addU rfl rfl rfl) ?_;refine Za ?_;refine Ze5 7 11 13 58 59 ?_)|(refine Zr 23 ?_;refine Zm ?_;refine Zm ?_;refine Zq (ps_convB rfl rfl) ?_;refine Zm ?_;refine Zq (by exact ps_shrN (s := 8) rfl rfl rfl (by decide)) ?_;refine Zq (ps_convB rfl rfl) ?_;refine Zm ?_;refine Zq (by exact ps_shrN (s := 16) rfl rfl rfl (by decide)) ?_;refine Zq (ps_convB rfl rfl) ?_;refine Zm ?_;refine Zq (by exact ps_shrN (s := 24) rfl rfl rfl (by decide)) ?_;refine Zq (ps_convB rfl rfl) ?_;refine Zn (by exact ms_lit rfl (parts_cons rfl (parts_cons rfl (parts_cons rfl (parts_cons rfl parts_nil)))) rfl rfl rfl) ?_;rintro y80 hy80;refine Zn (by exact ms_app (m := 4) 1 rfl rfl rfl rfl (rds_row 0 rfl) rfl (one4 rfl rfl rfl rfl) (by omega) (by omega)) ?_;rintro y81 hy81;refine Za ?_;refine Ze4 7 11 58 59 ?_)|(refine Zr 24 ?_;refine Zq (by exact ps_add rfl rfl rfl (by omega)) ?_;refine Zm ?_;refine Ze4 7 11 58 59 ?_)|(refine Zr 25 ?_;refine Zm ?_;refine Zq (by exact ps_str_of rfl rfl (rds_row 0 rfl) (by omega)) ?_;refine Za ?_;refine Ze1 6 ?_))
    · refine fun a w' he hw => ⟨⟨i + 1,(y81 0).A,(y81 0).c,by omega⟩,by simp only;omega,he.sub ⟨rfl,rfl,rfl,rfl,trivial⟩,?_⟩
      have e2 : byteVs (outTo L F (i + 1)) = byteVs (outTo L F i) ++ byteVs (b4 (wsum L F i)) := by simp [outTo,byteVs]
      simp only [e2]
      exact hw.tl
    obtain rfl : i = 16 := by omega
    exact ok_endL (vs := [_]) rfl ⟨rfl,trivial⟩ (fun w' hw => ⟨rfl,hw.below⟩)
  · have e : chaF key c nonce = ⟨#[]⟩ := by unfold chaF;rw [if_neg hok]
    have hf : isChaF key c nonce = false := by simpa using hok
    rw [e]
    repeat' (first|refine Wa ?_|refine Wb ?_|refine Wc ?_|(refine ok_cond rfl (fun hc => ?_) (fun hc => ?_) <;> (have hd := hc;try simp only [jj] at hd))|refine Wg ?_|refine Wi ?_|(refine Zr 0 ?_;refine Za ?_;refine Ze3 0 1 2 ?_)|(refine Zr 1 ?_;refine Zm ?_;refine Zm ?_;refine Zm ?_;refine Zn (by exact ms_s3 rfl rfl rfl rfl (fun _ _ w hw => isCha_c key c nonce w)) ?_;rintro y17 hy17;refine Zq (ps_not rfl rfl) ?_;refine Ze4 0 1 2 18 ?_)|(refine Zr 2 ?_;refine Za ?_;refine Ze1 6 ?_))
    · exact ok_endL (vs := [_]) rfl ⟨rfl,trivial⟩ (fun w' hw => ⟨rfl,hw.below⟩)
    all_goals exact absurd (show isChaF key c nonce = true from hd) hok
@[reducible] def datI : Dat Nat := ⟨1,fun x => [.int .i64 (x : Int)],fun _ => rfl,0⟩
attribute [local instance] datI
theorem oneI : OneC Nat := ⟨fun x u hu => by cases hu with | head => rfl | tail _ h => cases h⟩
attribute [local instance] oneI
theorem word_c (x : Nat) (hx : x < 9223372036854775808) (w : World) : Calls Tryz.prog 318 #[.int .i64 (x : Int)] w fun e w' => e = .returned (.int .i64 ((x % 4294967296 : Nat) : Int)) ∧ Below w.heap.size w w' := by
  refine ok_enter 5 Tryz.func318 rfl rfl rfl ?_
  repeat' (first|refine Wa ?_|refine Wb ?_|refine Wg ?_|(refine Zr 0 ?_;refine Za ?_;refine Ze1 0 ?_)|(refine Zr 1 ?_;refine Zm ?_;refine Zq (by exact ps_cast (v' := .int .i64 ((x % 4294967296 : Nat) : Int)) (ps_andN (n := 4294967295) rfl rfl rfl (.inr (.inl ⟨rfl,hx⟩)) (.inr (.inl ⟨rfl,by omega⟩))) (by rw [show x &&& 4294967295 = x % 4294967296 from Nat.and_two_pow_sub_one_eq_mod x 32])) ?_;refine Za ?_;refine Ze1 2 ?_))
  exact ok_endL (vs := [_]) rfl ⟨rfl,trivial⟩ (fun w' hw => ⟨rfl,hw.below⟩)
theorem left_c (x n : Nat) (hx : x < 4294967296) (hn : n = 16 ∨ n = 12 ∨ n = 8 ∨ n = 7) (w : World) : Calls Tryz.prog 349 #[.int .i64 (x : Int),.int .u64 (n : Int)] w fun e w' => e = .returned (.int .i64 (rotN x n : Nat)) ∧ Below w.heap.size w w' := by
  have h1 : x / 2 ^ (32 - n) < 9223372036854775808 := Nat.lt_of_le_of_lt (Nat.div_le_self _ _) (by omega)
  have h2 : x * 2 ^ n < 9223372036854775808 := by rcases hn with rfl | rfl | rfl | rfl <;> omega
  have h3 : x * 2 ^ n ||| x / 2 ^ (32 - n) < 9223372036854775808 := Nat.or_lt_two_pow (n := 63) h2 h1
  have h4 := rotN_mask (n := n) hx
  refine ok_enter 14 Tryz.func349 rfl rfl rfl ?_
  repeat' (first|refine Wa ?_|refine Wb ?_|refine Wg ?_|(refine Zr 0 ?_;refine Za ?_;refine Ze2 0 1 ?_)|(refine Zr 1 ?_;refine Zm ?_;refine Zm ?_;refine Zq (by exact ps_shlI rfl rfl rfl (by omega) h2) ?_;refine Zm ?_;refine Zm ?_;refine Zq (by exact ps_subU64 (m := 32) rfl rfl rfl (by omega) (by omega)) ?_;refine Zq (by exact ps_shrN rfl rfl rfl (show 32 - n < 64 by omega)) ?_;refine Zq (by exact ps_orN rfl rfl rfl (.inr (.inl ⟨rfl,h2⟩)) (.inr (.inl ⟨rfl,h1⟩))) ?_;refine Zn (by exact ms_s1 rfl rfl (fun _ _ w hw => word_c _ h3 w)) ?_;rintro y13 hy13;refine Za ?_;refine Ze1 4 ?_))
  refine ok_endL (vs := [_]) rfl ⟨rfl,trivial⟩ (fun w' hw => ⟨?_,hw.below⟩)
  rw [h4];rfl
theorem little2_c (s : ByteArray) (a : Nat) (h : a + 4 ≤ s.size) (hs : s.size ≤ 1048576) (w : World) : Calls Tryz.prog 316 #[.string s,.int .i64 (a : Int)] w fun e w' => e = .returned (.int .i64 (le4 s a : Nat)) ∧ Below w.heap.size w w' := by
  have h0 := bt_lt s a
  have h1 := bt_lt s (a + 1)
  have h2 := bt_lt s (a + 2)
  have h3 := bt_lt s (a + 3)
  have l1 := or_lt32 (a := bt s a) (b := bt s (a + 1) * 2 ^ 8) (by omega) (by omega)
  have l2 := or_lt32 (b := bt s (a + 2) * 2 ^ 16) l1 (by omega)
  refine ok_enter 30 Tryz.func316 rfl rfl rfl ?_
  repeat' (first|refine Wa ?_|refine Wb ?_|refine Wg ?_|(refine Zr 0 ?_;refine Za ?_;refine Ze2 0 1 ?_)|(refine Xd 1 26 ?_;refine Xm 0 ?_;refine Xm 1 ?_;refine Xt 2 rfl (by exact ps_sidxE a rfl rfl rfl rfl (by omega)) ?_;refine Xt 3 rfl (by exact ps_conv_id rfl rfl (IntWalk.i64_in _ (by omega))) ?_;refine Xm 4 ?_;refine Xm 5 ?_;refine Xt 6 rfl (by exact ps_add rfl rfl rfl (by omega)) ?_;refine Xt 7 rfl (by exact ps_sidxE (a + 1) rfl rfl rfl (by omega) (by omega)) ?_;refine Xt 8 rfl (by exact ps_conv_id rfl rfl (IntWalk.i64_in _ (by omega))) ?_;refine Xt 9 rfl (by exact ps_shlI (s := 8) rfl rfl rfl (by omega) (by omega)) ?_;refine Xt 10 rfl (by exact ps_orN rfl rfl rfl (.inr (.inl ⟨rfl,by omega⟩)) (.inr (.inl ⟨rfl,by omega⟩))) ?_;refine Xm 11 ?_;refine Xm 12 ?_;refine Xt 13 rfl (by exact ps_add rfl rfl rfl (by omega)) ?_;refine Xt 14 rfl (by exact ps_sidxE (a + 2) rfl rfl rfl (by omega) (by omega)) ?_;refine Xt 15 rfl (by exact ps_conv_id rfl rfl (IntWalk.i64_in _ (by omega))) ?_;refine Xt 16 rfl (by exact ps_shlI (s := 16) rfl rfl rfl (by omega) (by omega)) ?_;refine Xt 17 rfl (by exact ps_orN rfl rfl rfl (.inr (.inl ⟨rfl,by omega⟩)) (.inr (.inl ⟨rfl,by omega⟩))) ?_;refine Xm 18 ?_;refine Xm 19 ?_;refine Xt 20 rfl (by exact ps_add rfl rfl rfl (by omega)) ?_;refine Xt 21 rfl (by exact ps_sidxE (a + 3) rfl rfl rfl (by omega) (by omega)) ?_;refine Xt 22 rfl (by exact ps_conv_id rfl rfl (IntWalk.i64_in _ (by omega))) ?_;refine Xt 23 rfl (by exact ps_shlI (s := 24) rfl rfl rfl (by omega) (by omega)) ?_;refine Xt 24 rfl (by exact ps_orN rfl rfl rfl (.inr (.inl ⟨rfl,by omega⟩)) (.inr (.inl ⟨rfl,by omega⟩))) ?_;refine Xt 25 rfl (ps_assign rfl rfl) ?_;refine okT_done (by kernel_rfl) ?_;refine Ze1 4 ?_))
  exact ok_endL (vs := [_]) rfl ⟨rfl,trivial⟩ (fun w' hw => ⟨rfl,hw.below⟩)
section
variable {P : Program} {E : Env} {H : List HObj} {G : List World} {o : Oper}
theorem ps_addI {x y : Operand} {t t' : TypeId} {m n : Nat} (ho : o.op = .binOp .add t x y t') (hx : opd E x = some (.int .i64 (m : Int))) (hy : opd E y = some (.int .i64 (n : Int))) (hm : m < 4294967296) (hn : n < 4294967296) : PStep P E H G o (.int .i64 ((m + n : Nat) : Int)) :=
  ps_cast (ps_add ho hx hy (by omega)) (by push_cast;rfl)
theorem ps_ldI {x : Operand} {t e sz n c i : Nat} {A : Option Addr} {L : List Nat} (q : Nat) [hl : LD P t 1 false] (ho : o.op = .load t x) (hx : opd E x = some (pt A (i * 1))) (hi : H[q]? = some (.row e sz A n c (fl L))) (hL : W16 L) (hj : i < 16) : PStep P E H G o (.int .i64 (wd L i : Int)) :=
  ps_loadR q ho hx hi (by rw [hL.len];exact hj) rfl rfl
theorem ms_adI {x y : Operand} {t e sz n c a b : Nat} {A : Option Addr} {L : List Nat} (q : Nat) [hl : LD P t 1 false] (ho : o.op = .store t x y) (hx : opd E x = some (pt A (a * 1))) (hy : opd E y = some (.int .i64 (((wd L a + wd L b) % 4294967296 : Nat) : Int))) (hi : H[q]? = some (.row e sz A n c (fl L))) (hL : W16 L) (hj : a < 16) :
    MStep P E H G o (fun _ => True) (fun _ => undef) (fun _ => H.set q (.row e sz A n c (fl (sA L a b)))) (fun _ => G) :=
  ms_setR q ((wd L a + wd L b) % 4294967296) ho hx hy hi rfl rfl rfl rfl (by rw [hL.len];exact hj)
theorem ms_roI {x y : Operand} {t e sz nn c d a n : Nat} {A : Option Addr} {L : List Nat} (q : Nat) [hl : LD P t 1 false] (ho : o.op = .store t x y) (hx : opd E x = some (pt A (d * 1))) (hy : opd E y = some (.int .i64 ((rotN (wd L d ^^^ wd L a) n : Nat) : Int))) (hi : H[q]? = some (.row e sz A nn c (fl L))) (hL : W16 L) (hj : d < 16) :
    MStep P E H G o (fun _ => True) (fun _ => undef) (fun _ => H.set q (.row e sz A nn c (fl (sR L d a n)))) (fun _ => G) :=
  ms_setR q (rotN (wd L d ^^^ wd L a) n) ho hx hy hi rfl rfl rfl rfl (by rw [hL.len];exact hj)
end
theorem W16.lt63 {l : List Nat} (h : W16 l) (i : Nat) : wd l i < 9223372036854775808 := Nat.lt_trans (h.lt i) (by decide)
theorem quarter2_c (A : Option Addr) (cc a b c d : Nat) (l : List Nat) (hl : W16 l) (ha : a < 16) (hb : b < 16) (hc : c < 16) (hd : d < 16) {base : Nat} {w0 w : World} {H : List HObj} {G : List World} (hw : WOk base w0 (.row 3 1 A 16 cc (fl l) :: H) G w) :
    Calls Tryz.prog 317 #[.slice A 16 cc,.int .i64 (a : Int),.int .i64 (b : Int),.int .i64 (c : Int),.int .i64 (d : Int)] w fun e w' => ∃ y : Ys,e = .returned (.slice A 16 cc) ∧ True ∧ WOk base w0 (.row 3 1 A 16 cc (fl (qr l a b c d)) :: H) G w' := by
  have l1 := hl.sA a b
  have l2 := l1.sR d a 16
  have l3 := l2.sA c d
  have l4 := l3.sR b c 12
  have l5 := l4.sA a b
  have l6 := l5.sR d a 8
  have l7 := l6.sA c d
  refine ok_enterW 116 Tryz.func317 rfl rfl rfl hw ?_
  repeat' (first|refine Wa ?_|refine Wb ?_|refine Wg ?_|(refine Zr 0 ?_;refine Za ?_;refine Ze5 0 1 2 3 4 ?_)|(refine ok_draw (id := 1) 13 rfl (by kernel_rfl) (by kernel_rfl) rfl (by repeat (first | exact pq_body | refine pq_then ?_ | refine pq_in ?_)) [0] (by decide) rfl ?_;refine Xm 0 ?_;refine Xm 1 ?_;refine Xm 2 ?_;refine Xm 3 ?_;refine Xt 4 rfl (by exact ps_indexN rfl rfl rfl (by omega) (isw_row 0 rfl (by omega))) ?_;refine Xt 5 rfl (by exact ps_ldI 0 rfl rfl rfl (by assumption) (by omega)) ?_;refine Xm 6 ?_;refine Xm 7 ?_;refine Xt 8 rfl (by exact ps_indexN rfl rfl rfl (by omega) (isw_row 0 rfl (by omega))) ?_;refine Xt 9 rfl (by exact ps_ldI 0 rfl rfl rfl (by assumption) (by omega)) ?_;refine Xt 10 rfl (by exact ps_addI rfl rfl rfl (W16.lt (by assumption) _) (W16.lt (by assumption) _)) ?_;refine Xo 11 rfl (by exact ms_s1 rfl rfl (fun _ _ w hw => word_c _ (add_lt63 (W16.lt (by assumption) _) (W16.lt (by assumption) _)) w)) (fun y w _ h => by exact h.sel [0] (by decide) rfl (fun _ h => h)) ?_;rintro y22 hy22;refine Xt 12 rfl (by exact ps_indexN rfl rfl rfl (by omega) (isw_row 0 rfl (by omega))) ?_;refine okT_done (by kernel_rfl) ?_;refine Zo (by exact ms_adI 0 rfl rfl rfl rfl (by assumption) (by omega)) ?_;rintro y_ hy_;refine Ze5 0 1 2 3 4 ?_)|(refine ok_draw (id := 2) 13 rfl (by kernel_rfl) (by kernel_rfl) rfl (by repeat (first | exact pq_body | refine pq_then ?_ | refine pq_in ?_)) [0] (by decide) rfl ?_;refine Xm 0 ?_;refine Xm 1 ?_;refine Xm 2 ?_;refine Xm 3 ?_;refine Xt 4 rfl (by exact ps_indexN rfl rfl rfl (by omega) (isw_row 0 rfl (by omega))) ?_;refine Xt 5 rfl (by exact ps_ldI 0 rfl rfl rfl (by assumption) (by omega)) ?_;refine Xm 6 ?_;refine Xm 7 ?_;refine Xt 8 rfl (by exact ps_indexN rfl rfl rfl (by omega) (isw_row 0 rfl (by omega))) ?_;refine Xt 9 rfl (by exact ps_ldI 0 rfl rfl rfl (by assumption) (by omega)) ?_;refine Xt 10 rfl (by exact ps_xorN rfl rfl rfl (.inr (.inl ⟨rfl,W16.lt63 (by assumption) _⟩)) (.inr (.inl ⟨rfl,W16.lt63 (by assumption) _⟩))) ?_;refine Xo 11 rfl (by exact ms_s2 rfl rfl rfl (fun _ _ w hw => left_c _ 16 (W16.xor (by assumption) _ _) (by omega) w)) (fun y w _ h => by exact h.sel [0] (by decide) rfl (fun _ h => h)) ?_;rintro y35 hy35;refine Xt 12 rfl (by exact ps_indexN rfl rfl rfl (by omega) (isw_row 0 rfl (by omega))) ?_;refine okT_done (by kernel_rfl) ?_;refine Zo (by exact ms_roI 0 rfl rfl rfl rfl (by assumption) (by omega)) ?_;rintro y_ hy_;refine Ze5 0 1 2 3 4 ?_)|(refine ok_draw (id := 3) 13 rfl (by kernel_rfl) (by kernel_rfl) rfl (by repeat (first | exact pq_body | refine pq_then ?_ | refine pq_in ?_)) [0] (by decide) rfl ?_;refine Xm 0 ?_;refine Xm 1 ?_;refine Xm 2 ?_;refine Xm 3 ?_;refine Xt 4 rfl (by exact ps_indexN rfl rfl rfl (by omega) (isw_row 0 rfl (by omega))) ?_;refine Xt 5 rfl (by exact ps_ldI 0 rfl rfl rfl (by assumption) (by omega)) ?_;refine Xm 6 ?_;refine Xm 7 ?_;refine Xt 8 rfl (by exact ps_indexN rfl rfl rfl (by omega) (isw_row 0 rfl (by omega))) ?_;refine Xt 9 rfl (by exact ps_ldI 0 rfl rfl rfl (by assumption) (by omega)) ?_;refine Xt 10 rfl (by exact ps_addI rfl rfl rfl (W16.lt (by assumption) _) (W16.lt (by assumption) _)) ?_;refine Xo 11 rfl (by exact ms_s1 rfl rfl (fun _ _ w hw => word_c _ (add_lt63 (W16.lt (by assumption) _) (W16.lt (by assumption) _)) w)) (fun y w _ h => by exact h.sel [0] (by decide) rfl (fun _ h => h)) ?_;rintro y48 hy48;refine Xt 12 rfl (by exact ps_indexN rfl rfl rfl (by omega) (isw_row 0 rfl (by omega))) ?_;refine okT_done (by kernel_rfl) ?_;refine Zo (by exact ms_adI 0 rfl rfl rfl rfl (by assumption) (by omega)) ?_;rintro y_ hy_;refine Ze5 0 1 2 3 4 ?_)|(refine ok_draw (id := 4) 13 rfl (by kernel_rfl) (by kernel_rfl) rfl (by repeat (first | exact pq_body | refine pq_then ?_ | refine pq_in ?_)) [0] (by decide) rfl ?_;refine Xm 0 ?_;refine Xm 1 ?_;refine Xm 2 ?_;refine Xm 3 ?_;refine Xt 4 rfl (by exact ps_indexN rfl rfl rfl (by omega) (isw_row 0 rfl (by omega))) ?_;refine Xt 5 rfl (by exact ps_ldI 0 rfl rfl rfl (by assumption) (by omega)) ?_;refine Xm 6 ?_;refine Xm 7 ?_;refine Xt 8 rfl (by exact ps_indexN rfl rfl rfl (by omega) (isw_row 0 rfl (by omega))) ?_;refine Xt 9 rfl (by exact ps_ldI 0 rfl rfl rfl (by assumption) (by omega)) ?_;refine Xt 10 rfl (by exact ps_xorN rfl rfl rfl (.inr (.inl ⟨rfl,W16.lt63 (by assumption) _⟩)) (.inr (.inl ⟨rfl,W16.lt63 (by assumption) _⟩))) ?_;refine Xo 11 rfl (by exact ms_s2 rfl rfl rfl (fun _ _ w hw => left_c _ 12 (W16.xor (by assumption) _ _) (by omega) w)) (fun y w _ h => by exact h.sel [0] (by decide) rfl (fun _ h => h)) ?_;rintro y61 hy61;refine Xt 12 rfl (by exact ps_indexN rfl rfl rfl (by omega) (isw_row 0 rfl (by omega))) ?_;refine okT_done (by kernel_rfl) ?_;refine Zo (by exact ms_roI 0 rfl rfl rfl rfl (by assumption) (by omega)) ?_;rintro y_ hy_;refine Ze5 0 1 2 3 4 ?_)|(refine ok_draw (id := 5) 13 rfl (by kernel_rfl) (by kernel_rfl) rfl (by repeat (first | exact pq_body | refine pq_then ?_ | refine pq_in ?_)) [0] (by decide) rfl ?_;refine Xm 0 ?_;refine Xm 1 ?_;refine Xm 2 ?_;refine Xm 3 ?_;refine Xt 4 rfl (by exact ps_indexN rfl rfl rfl (by omega) (isw_row 0 rfl (by omega))) ?_;refine Xt 5 rfl (by exact ps_ldI 0 rfl rfl rfl (by assumption) (by omega)) ?_;refine Xm 6 ?_;refine Xm 7 ?_;refine Xt 8 rfl (by exact ps_indexN rfl rfl rfl (by omega) (isw_row 0 rfl (by omega))) ?_;refine Xt 9 rfl (by exact ps_ldI 0 rfl rfl rfl (by assumption) (by omega)) ?_;refine Xt 10 rfl (by exact ps_addI rfl rfl rfl (W16.lt (by assumption) _) (W16.lt (by assumption) _)) ?_;refine Xo 11 rfl (by exact ms_s1 rfl rfl (fun _ _ w hw => word_c _ (add_lt63 (W16.lt (by assumption) _) (W16.lt (by assumption) _)) w)) (fun y w _ h => by exact h.sel [0] (by decide) rfl (fun _ h => h)) ?_;rintro y74 hy74;refine Xt 12 rfl (by exact ps_indexN rfl rfl rfl (by omega) (isw_row 0 rfl (by omega))) ?_;refine okT_done (by kernel_rfl) ?_;refine Zo (by exact ms_adI 0 rfl rfl rfl rfl (by assumption) (by omega)) ?_;rintro y_ hy_;refine Ze5 0 1 2 3 4 ?_)|(refine ok_draw (id := 6) 13 rfl (by kernel_rfl) (by kernel_rfl) rfl (by repeat (first | exact pq_body | refine pq_then ?_ | refine pq_in ?_)) [0] (by decide) rfl ?_;refine Xm 0 ?_;refine Xm 1 ?_;refine Xm 2 ?_;refine Xm 3 ?_;refine Xt 4 rfl (by exact ps_indexN rfl rfl rfl (by omega) (isw_row 0 rfl (by omega))) ?_;refine Xt 5 rfl (by exact ps_ldI 0 rfl rfl rfl (by assumption) (by omega)) ?_;refine Xm 6 ?_;refine Xm 7 ?_;refine Xt 8 rfl (by exact ps_indexN rfl rfl rfl (by omega) (isw_row 0 rfl (by omega))) ?_;refine Xt 9 rfl (by exact ps_ldI 0 rfl rfl rfl (by assumption) (by omega)) ?_;refine Xt 10 rfl (by exact ps_xorN rfl rfl rfl (.inr (.inl ⟨rfl,W16.lt63 (by assumption) _⟩)) (.inr (.inl ⟨rfl,W16.lt63 (by assumption) _⟩))) ?_;refine Xo 11 rfl (by exact ms_s2 rfl rfl rfl (fun _ _ w hw => left_c _ 8 (W16.xor (by assumption) _ _) (by omega) w)) (fun y w _ h => by exact h.sel [0] (by decide) rfl (fun _ h => h)) ?_;rintro y87 hy87;refine Xt 12 rfl (by exact ps_indexN rfl rfl rfl (by omega) (isw_row 0 rfl (by omega))) ?_;refine okT_done (by kernel_rfl) ?_;refine Zo (by exact ms_roI 0 rfl rfl rfl rfl (by assumption) (by omega)) ?_;rintro y_ hy_;refine Ze4 0 2 3 4 ?_)|(refine ok_draw (id := 7) 13 rfl (by kernel_rfl) (by kernel_rfl) rfl (by repeat (first | exact pq_body | refine pq_then ?_ | refine pq_in ?_)) [0] (by decide) rfl ?_;refine Xm 0 ?_;refine Xm 1 ?_;refine Xm 2 ?_;refine Xm 3 ?_;refine Xt 4 rfl (by exact ps_indexN rfl rfl rfl (by omega) (isw_row 0 rfl (by omega))) ?_;refine Xt 5 rfl (by exact ps_ldI 0 rfl rfl rfl (by assumption) (by omega)) ?_;refine Xm 6 ?_;refine Xm 7 ?_;refine Xt 8 rfl (by exact ps_indexN rfl rfl rfl (by omega) (isw_row 0 rfl (by omega))) ?_;refine Xt 9 rfl (by exact ps_ldI 0 rfl rfl rfl (by assumption) (by omega)) ?_;refine Xt 10 rfl (by exact ps_addI rfl rfl rfl (W16.lt (by assumption) _) (W16.lt (by assumption) _)) ?_;refine Xo 11 rfl (by exact ms_s1 rfl rfl (fun _ _ w hw => word_c _ (add_lt63 (W16.lt (by assumption) _) (W16.lt (by assumption) _)) w)) (fun y w _ h => by exact h.sel [0] (by decide) rfl (fun _ h => h)) ?_;rintro y100 hy100;refine Xt 12 rfl (by exact ps_indexN rfl rfl rfl (by omega) (isw_row 0 rfl (by omega))) ?_;refine okT_done (by kernel_rfl) ?_;refine Zo (by exact ms_adI 0 rfl rfl rfl rfl (by assumption) (by omega)) ?_;rintro y_ hy_;refine Ze3 0 2 3 ?_)|(refine ok_draw (id := 8) 13 rfl (by kernel_rfl) (by kernel_rfl) rfl (by repeat (first | exact pq_body | refine pq_then ?_ | refine pq_in ?_)) [0] (by decide) rfl ?_;refine Xm 0 ?_;refine Xm 1 ?_;refine Xm 2 ?_;refine Xm 3 ?_;refine Xt 4 rfl (by exact ps_indexN rfl rfl rfl (by omega) (isw_row 0 rfl (by omega))) ?_;refine Xt 5 rfl (by exact ps_ldI 0 rfl rfl rfl (by assumption) (by omega)) ?_;refine Xm 6 ?_;refine Xm 7 ?_;refine Xt 8 rfl (by exact ps_indexN rfl rfl rfl (by omega) (isw_row 0 rfl (by omega))) ?_;refine Xt 9 rfl (by exact ps_ldI 0 rfl rfl rfl (by assumption) (by omega)) ?_;refine Xt 10 rfl (by exact ps_xorN rfl rfl rfl (.inr (.inl ⟨rfl,W16.lt63 (by assumption) _⟩)) (.inr (.inl ⟨rfl,W16.lt63 (by assumption) _⟩))) ?_;refine Xo 11 rfl (by exact ms_s2 rfl rfl rfl (fun _ _ w hw => left_c _ 7 (W16.xor (by assumption) _ _) (by omega) w)) (fun y w _ h => by exact h.sel [0] (by decide) rfl (fun _ h => h)) ?_;rintro y113 hy113;refine Xt 12 rfl (by exact ps_indexN rfl rfl rfl (by omega) (isw_row 0 rfl (by omega))) ?_;refine okT_done (by kernel_rfl) ?_;refine Zo (by exact ms_roI 0 rfl rfl rfl rfl (by assumption) (by omega)) ?_;rintro y_ hy_;refine Ze1 0 ?_)|(refine Zr 9 ?_;refine Zm ?_;refine Za ?_;refine Ze1 10 ?_))
  exact ok_endL (vs := [_]) rfl ⟨rfl,trivial⟩ (fun w' hw => ⟨mkY none 0 w',rfl,trivial,hw⟩)
structure ChaK where
  i : Nat
  A : Option Addr
  c : Nat
  hi : i ≤ 8
structure ChaO2 where
  i : Nat
  A : Option Addr
  c : Nat
  hi : i ≤ 16
theorem s_block_c (key nonce : ByteArray) (m : Nat) (hk : key.size = 32) (hn : nonce.size = 12) (hcm : m < 4294967296) (w : World) :
    Calls Tryz.prog 261 #[.string key,.int .i64 (m : Int),.string nonce] w fun e w' => e = .returned (.string ⟨(blockL key m nonce).toArray⟩) ∧ Below w.heap.size w w' := by
  refine ok_enter 93 Tryz.func261 rfl rfl rfl ?_
  repeat' (first|refine Wa ?_|refine Wb ?_|refine Wd ?_|(refine Zr 0 ?_;refine Za ?_;refine Ze3 0 1 2 ?_)|(refine Zr 1 ?_;refine Zn (by exact ms_lit rfl (parts_cons rfl (parts_cons rfl (parts_cons rfl (parts_cons rfl parts_nil)))) rfl rfl rfl) ?_;rintro y14 hy14;refine Za ?_;refine Ze4 0 1 2 7 ?_)|(refine Zr 2 ?_;refine Za ?_;refine Ze5 0 1 2 7 8 ?_))
  refine ok_loop (ι := ChaK) (fun q => 8 - q.i) (fun q => ([(0,.string key),(1,.int .i64 (m : Int)),(2,.string nonce),(7,.slice q.A (4 + q.i) q.c),(8,.int .i64 q.i)],[.row 3 1 q.A (4 + q.i) q.c (fl (hdrW ++ keyTo key q.i))],_)) ⟨0,none,0,by omega⟩ (fun a w he hw => ⟨⟨0,_,_,by omega⟩,he.sub ⟨rfl,rfl,rfl,rfl,rfl,trivial⟩,hw⟩) ?_
  rintro ⟨i,A',c',hi⟩
  simp only at hi ⊢
  repeat' (first|refine Wa ?_|refine Wb ?_|refine Wd ?_|refine We ?_|(refine ok_cond rfl (fun hc => ?_) (fun hc => ?_) <;> (have hd := hc;try simp only [jj] at hd))|refine Wh ?_|refine Wi ?_|(refine Zr 3 ?_;refine Zm ?_;refine Zi ?_;refine Ze6 0 1 2 7 8 16 ?_)|(refine Zr 4 ?_;refine Zm ?_;refine Zq (by exact ps_add rfl rfl rfl (by omega)) ?_;refine Za ?_;refine Ze5 0 1 2 7 8 ?_)|(refine Zr 5 ?_;refine Zm ?_;refine Zm ?_;refine Zm ?_;refine Zq (by exact ps_cast (v' := .int .i64 ((4 * i : Nat) : Int)) (ps_mul rfl rfl rfl (by omega)) (by push_cast;rfl)) ?_;refine Zn (by exact ms_s2 rfl rfl rfl (fun _ _ w hw => little2_c key (4 * i) (by omega) (by omega) w)) ?_;rintro y23 hy23;refine Zn (by exact ms_lit rfl (parts_cons rfl parts_nil) rfl rfl rfl) ?_;rintro y24 hy24;refine Zn (by exact ms_appN (hdrW ++ keyTo key i) [le4 key (4 * i)] 1 rfl rfl rfl rfl (rds_row 0 rfl) rfl (by simp [hdrW,keyTo_len];omega) rfl (by omega) (by omega)) ?_;rintro y25 hy25;refine Za ?_;refine Ze5 0 1 2 7 8 ?_)|(refine Zr 6 ?_;refine Zm ?_;refine Zm ?_;refine Zm ?_;refine Zn (by exact ms_s2 rfl rfl rfl (fun _ _ w hw => little2_c nonce 0 (by omega) (by omega) w)) ?_;rintro y29 hy29;refine Zm ?_;refine Zn (by exact ms_s2 rfl rfl rfl (fun _ _ w hw => little2_c nonce 4 (by omega) (by omega) w)) ?_;rintro y31 hy31;refine Zm ?_;refine Zn (by exact ms_s2 rfl rfl rfl (fun _ _ w hw => little2_c nonce 8 (by omega) (by omega) w)) ?_;rintro y33 hy33;refine Zn (by exact ms_lit rfl (parts_cons rfl (parts_cons rfl (parts_cons rfl (parts_cons rfl parts_nil)))) rfl rfl rfl) ?_;rintro y34 hy34;refine Zn (by exact ms_appN (hdrW ++ keyTo key i) [m,le4 nonce 0,le4 nonce 4,le4 nonce 8] 1 rfl rfl rfl rfl (rds_row 0 rfl) rfl (by simp [hdrW,keyTo_len];omega) rfl (by omega) (by omega)) ?_;rintro y35 hy35;refine Za ?_;refine Ze1 7 ?_)|(refine Zr 7 ?_;refine Zn (by exact ms_lit rfl parts_nil rfl rfl rfl) ?_;rintro y36 hy36;refine Zm ?_;refine Zn (by exact ms_app0n (hdrW ++ keyTo key i ++ [m,le4 nonce 0,le4 nonce 4,le4 nonce 8]) 0 rfl rfl rfl rfl (rds_row 2 rfl) rfl (by simp [hdrW,keyTo_len];omega) (by omega) (by omega)) ?_;rintro y38 hy38;refine Za ?_;refine Ze2 7 9 ?_)|(refine Zr 8 ?_;refine Za ?_;refine Ze3 7 9 10 ?_))
  · refine fun a w' he hw => ⟨⟨i + 1,(y25 0).A,(y25 0).c,by omega⟩,by simp only;omega,he.sub ⟨rfl,rfl,rfl,rfl,rfl,trivial⟩,?_⟩
    simp only [keyTo,← List.append_assoc]
    exact hw.tl
  obtain rfl : i = 8 := by omega
  have hF : W16 (firstW key m nonce) := firstW_ok key hcm nonce
  have eF : hdrW ++ keyTo key 8 ++ [m,le4 nonce 0,le4 nonce 4,le4 nonce 8] = firstW key m nonce := by unfold firstW hdrW;simp [keyTo]
  rw [eF]
  unfold blockL
  generalize firstW key m nonce = F at hF eF ⊢
  refine ok_loop (ι := { k : Nat // k ≤ 10 }) (fun q => 10 - q.1) (fun q => ([(7,.slice (y35 0).A 16 (y35 0).c),(9,.slice (y38 0).A 16 (y38 0).c),(10,.int .i64 q.1)],[.row 3 1 (y38 0).A 16 (y38 0).c (fl (rnd F q.1)),_,.row 3 1 (y35 0).A 16 (y35 0).c (fl F)],_)) ⟨0,by omega⟩ (fun a w he hw => ⟨⟨0,by omega⟩,he.sub ⟨rfl,rfl,rfl,trivial⟩,hw⟩) ?_
  rintro ⟨k,hk10⟩
  simp only at hk10 ⊢
  have q0 := hF.rnd k
  have q1 := q0.qr 0 4 8 12
  have q2 := q1.qr 1 5 9 13
  have q3 := q2.qr 2 6 10 14
  have q4 := q3.qr 3 7 11 15
  have q5 := q4.qr 0 5 10 15
  have q6 := q5.qr 1 6 11 12
  have q7 := q6.qr 2 7 8 13
  repeat' (first|refine Wa ?_|refine Wb ?_|refine Wd ?_|refine We ?_|(refine ok_cond rfl (fun hc => ?_) (fun hc => ?_) <;> (have hd := hc;try simp only [jj] at hd))|refine Wh ?_|refine Wi ?_|(refine Zr 9 ?_;refine Zm ?_;refine Zi ?_;refine Ze4 7 9 10 40 ?_)|(refine Zr 10 ?_;refine Zm ?_;refine Zq (by exact ps_add rfl rfl rfl (by omega)) ?_;refine Za ?_;refine Ze3 7 9 10 ?_)|(refine Zr 11 ?_;refine Zm ?_;refine Zn (by exact ms_wr 0 rfl rfl rfl rfl (fun _ _ w hw => quarter2_c _ _ 0 4 8 12 _ q0 (by omega) (by omega) (by omega) (by omega) hw)) ?_;rintro y44 hy44;refine Za ?_;refine Ze3 7 9 10 ?_)|(refine Zr 12 ?_;refine Zm ?_;refine Zn (by exact ms_wr 0 rfl rfl rfl rfl (fun _ _ w hw => quarter2_c _ _ 1 5 9 13 _ q1 (by omega) (by omega) (by omega) (by omega) hw)) ?_;rintro y46 hy46;refine Za ?_;refine Ze3 7 9 10 ?_)|(refine Zr 13 ?_;refine Zm ?_;refine Zn (by exact ms_wr 0 rfl rfl rfl rfl (fun _ _ w hw => quarter2_c _ _ 2 6 10 14 _ q2 (by omega) (by omega) (by omega) (by omega) hw)) ?_;rintro y48 hy48;refine Za ?_;refine Ze3 7 9 10 ?_)|(refine Zr 14 ?_;refine Zm ?_;refine Zn (by exact ms_wr 0 rfl rfl rfl rfl (fun _ _ w hw => quarter2_c _ _ 3 7 11 15 _ q3 (by omega) (by omega) (by omega) (by omega) hw)) ?_;rintro y50 hy50;refine Za ?_;refine Ze3 7 9 10 ?_)|(refine Zr 15 ?_;refine Zm ?_;refine Zn (by exact ms_wr 0 rfl rfl rfl rfl (fun _ _ w hw => quarter2_c _ _ 0 5 10 15 _ q4 (by omega) (by omega) (by omega) (by omega) hw)) ?_;rintro y52 hy52;refine Za ?_;refine Ze3 7 9 10 ?_)|(refine Zr 16 ?_;refine Zm ?_;refine Zn (by exact ms_wr 0 rfl rfl rfl rfl (fun _ _ w hw => quarter2_c _ _ 1 6 11 12 _ q5 (by omega) (by omega) (by omega) (by omega) hw)) ?_;rintro y54 hy54;refine Za ?_;refine Ze3 7 9 10 ?_)|(refine Zr 17 ?_;refine Zm ?_;refine Zn (by exact ms_wr 0 rfl rfl rfl rfl (fun _ _ w hw => quarter2_c _ _ 2 7 8 13 _ q6 (by omega) (by omega) (by omega) (by omega) hw)) ?_;rintro y56 hy56;refine Za ?_;refine Ze3 7 9 10 ?_)|(refine Zr 18 ?_;refine Zm ?_;refine Zn (by exact ms_wr 0 rfl rfl rfl rfl (fun _ _ w hw => quarter2_c _ _ 3 4 9 14 _ q7 (by omega) (by omega) (by omega) (by omega) hw)) ?_;rintro y58 hy58;refine Za ?_;refine Ze3 7 9 10 ?_)|(refine Zr 19 ?_;refine Zn (by exact ms_lit rfl parts_nil rfl rfl rfl) ?_;rintro y59 hy59;refine Za ?_;refine Ze3 7 9 11 ?_)|(refine Zr 20 ?_;refine Za ?_;refine Ze4 7 9 11 12 ?_))
  · exact fun a w' he hw => ⟨⟨k + 1,by omega⟩,by simp only;omega,he.sub ⟨rfl,rfl,rfl,trivial⟩,hw⟩
  obtain rfl : k = 10 := by omega
  clear q1 q2 q3 q4 q5 q6 q7
  generalize rnd F 10 = L at q0 ⊢
  refine ok_loop (ι := ChaO2) (fun q => 16 - q.i) (fun q => ([(7,.slice (y35 0).A 16 (y35 0).c),(9,.slice (y38 0).A 16 (y38 0).c),(11,.slice q.A (4 * q.i) q.c),(12,.int .i64 q.i)],[.row 5 1 q.A (4 * q.i) q.c (byteVs (outTo L F q.i)),.row 3 1 (y38 0).A 16 (y38 0).c (fl L),.row 3 1 (y35 0).A 16 (y35 0).c (fl F)],_)) ⟨0,none,0,by omega⟩ (fun a w he hw => ⟨⟨0,_,_,by omega⟩,he.sub ⟨rfl,rfl,rfl,rfl,trivial⟩,hw.sel [0,1,3] (by decide) rfl (fun _ h => h)⟩) ?_
  rintro ⟨i,A',c',hi⟩
  simp only at hi ⊢
  have hol := outTo_len L F i
  have hx : wsum L F i < 4294967296 := Nat.mod_lt _ (by decide)
  repeat' (first|refine Wa ?_|refine Wb ?_|refine Wd ?_|refine We ?_|(refine ok_cond rfl (fun hc => ?_) (fun hc => ?_) <;> (have hd := hc;try simp only [jj] at hd))|refine Wg ?_|refine Wh ?_|refine Wi ?_|(refine Zr 21 ?_;refine Zm ?_;refine Zi ?_;refine Ze5 7 9 11 12 61 ?_)|(refine Zr 22 ?_;refine Zm ?_;refine Zq (by exact ps_add rfl rfl rfl (by omega)) ?_;refine Za ?_;refine Ze4 7 9 11 12 ?_)|(refine Xd 23 11 ?_;refine Xm 0 ?_;refine Xm 1 ?_;refine Xt 2 rfl (by exact ps_indexN rfl rfl rfl (by omega) (isw_row 1 rfl (by omega))) ?_;refine Xt 3 rfl (by exact ps_ldI 1 rfl rfl rfl q0 (by omega)) ?_;refine Xm 4 ?_;refine Xm 5 ?_;refine Xt 6 rfl (by exact ps_indexN rfl rfl rfl (by omega) (isw_row 2 rfl (by omega))) ?_;refine Xt 7 rfl (by exact ps_ldI 2 rfl rfl rfl hF (by omega)) ?_;refine Xt 8 rfl (by exact ps_addI rfl rfl rfl (q0.lt _) (hF.lt _)) ?_;refine Xo 9 rfl (by exact ms_s1 rfl rfl (fun _ _ w hw => word_c _ (add_lt63 (q0.lt _) (hF.lt _)) w)) (fun y w _ h => by exact h) ?_;rintro y73 hy73;refine Xt 10 rfl (ps_assign rfl rfl) ?_;refine okT_done (by kernel_rfl) ?_;refine Ze5 7 9 11 12 13 ?_)|(refine Zr 24 ?_;refine Zm ?_;refine Zm ?_;refine Zq (by exact ps_cast (v' := .int .i64 ((wsum L F i % 256 : Nat) : Int)) (ps_andN (n := 255) rfl rfl rfl (.inr (.inl ⟨rfl,by unfold wsum at hx;omega⟩)) (.inr (.inl ⟨rfl,by omega⟩))) (by rw [nat_mask8];rfl)) ?_;refine Zq (ps_convM rfl rfl) ?_;refine Zm ?_;refine Zq (by exact ps_shrN (s := 8) rfl rfl rfl (by decide)) ?_;refine Zq (by exact ps_cast (v' := .int .i64 ((wsum L F i / 2 ^ 8 % 256 : Nat) : Int)) (ps_andN (n := 255) rfl rfl rfl (.inr (.inl ⟨rfl,by unfold wsum at hx;omega⟩)) (.inr (.inl ⟨rfl,by omega⟩))) (by rw [nat_mask8];rfl)) ?_;refine Zq (ps_convM rfl rfl) ?_;refine Zm ?_;refine Zq (by exact ps_shrN (s := 16) rfl rfl rfl (by decide)) ?_;refine Zq (by exact ps_cast (v' := .int .i64 ((wsum L F i / 2 ^ 16 % 256 : Nat) : Int)) (ps_andN (n := 255) rfl rfl rfl (.inr (.inl ⟨rfl,by unfold wsum at hx;omega⟩)) (.inr (.inl ⟨rfl,by omega⟩))) (by rw [nat_mask8];rfl)) ?_;refine Zq (ps_convM rfl rfl) ?_;refine Zm ?_;refine Zq (by exact ps_shrN (s := 24) rfl rfl rfl (by decide)) ?_;refine Zq (ps_convB rfl rfl) ?_;refine Zn (by exact ms_lit rfl (parts_cons rfl (parts_cons rfl (parts_cons rfl (parts_cons rfl parts_nil)))) rfl rfl rfl) ?_;rintro y89 hy89;refine Zn (by exact ms_app (m := 4) 1 rfl rfl rfl rfl (rds_row 0 rfl) rfl (one4 rfl rfl rfl rfl) (by omega) (by omega)) ?_;rintro y90 hy90;refine Za ?_;refine Ze4 7 9 11 12 ?_)|(refine Zr 25 ?_;refine Zm ?_;refine Zq (by exact ps_str_of rfl rfl (rds_row 0 rfl) (by omega)) ?_;refine Za ?_;refine Ze1 6 ?_))
  · refine fun a w' he hw => ⟨⟨i + 1,(y90 0).A,(y90 0).c,by omega⟩,by simp only;omega,he.sub ⟨rfl,rfl,rfl,rfl,trivial⟩,?_⟩
    have e2 : byteVs (outTo L F (i + 1)) = byteVs (outTo L F i) ++ byteVs (b4 (wsum L F i)) := by simp [outTo,byteVs]
    simp only [e2]
    exact hw.tl
  obtain rfl : i = 16 := by omega
  exact ok_endL (vs := [_]) rfl ⟨rfl,trivial⟩ (fun w' hw => ⟨rfl,hw.below⟩)
theorem in_s (x a b : Int) (w : World) : Calls Tryz.prog 77 #[.int .i64 x,.int .i64 a,.int .i64 b] w fun e w' => e = .returned (.bool (inB x a b)) ∧ Below w.heap.size w w' := by
  refine ok_enter 15 Tryz.func77 rfl rfl rfl ?_
  repeat' (first|refine Wa ?_|refine Wb ?_|refine Wg ?_|(refine Zr 0 ?_;refine Za ?_;refine Ze3 0 1 2 ?_)|(refine Zr 1 ?_;refine Zm ?_;refine Zm ?_;refine Zi ?_;refine Zm ?_;refine Zg rfl rfl rfl (gT _) (fun hp => by exact ps_move rfl rfl) ?_;refine Zg rfl rfl rfl (gT _) (fun hp => by exact ps_move rfl rfl) ?_;refine Zg rfl rfl rfl (gT _) (fun hp => by (exact ps_int rfl (Og rfl) (Og rfl) rfl)) ?_;refine Zq (ps_and rfl rfl rfl) ?_;refine Za ?_;refine Ze1 6 ?_))
  exact ok_endL (vs := [_]) rfl ⟨rfl,trivial⟩ (fun w' hw => ⟨rfl,hw.below⟩)
theorem s_ChaBlock (key nonce : ByteArray) (c : Int) (w : World) :
    Calls Tryz.prog 190 #[.string key,.int .i64 c,.string nonce] w fun e w' => e = .returned (.string (chaF key c nonce)) ∧ Below w.heap.size w w' := by
  refine ok_enter 24 Tryz.func190 rfl rfl rfl ?_
  by_cases hok : isChaF key c nonce = true
  · obtain ⟨hk,hc,hn⟩ := isCha_iff.1 hok
    obtain ⟨m,rfl⟩ : ∃ m : Nat,c = m := ⟨c.toNat,by omega⟩
    have e : chaF key m nonce = ⟨(blockL key m nonce).toArray⟩ := by unfold chaF;rw [if_pos hok];rfl
    rw [e]
    repeat' (first|refine Wa ?_|refine Wb ?_|refine Wc ?_|(refine ok_cond rfl (fun hc => ?_) (fun hc => ?_) <;> (have hd := hc;try simp only [jj] at hd))|refine Wg ?_|refine Wi ?_|(refine Zr 0 ?_;refine Za ?_;refine Ze3 0 1 2 ?_)|(refine Zr 1 ?_;refine Zm ?_;refine Zq (ps_slen rfl rfl) ?_;refine Zi ?_;refine Zm ?_;refine Zg rfl rfl rfl (gF _) (fun hp => by exact ps_move rfl rfl) ?_;refine Zg rfl rfl rfl (gF _) (fun hp => by (exact ps_slen rfl (Og rfl))) ?_;refine Zg rfl rfl rfl (gF _) (fun hp => by (exact ps_int rfl (Og rfl) rfl rfl)) ?_;refine Zq (ps_or rfl rfl rfl) ?_;refine Zm ?_;refine Zg rfl rfl rfl (gF _) (fun hp => by exact ps_move rfl rfl) ?_;refine Zh rfl rfl rfl (gF _) (fun hp => by (exact ms_s3 rfl (Og rfl) rfl rfl (fun _ _ w hw => in_s m _ _ w))) ?_;refine Zg rfl rfl rfl (gF _) (fun hp => by (exact ps_not rfl (Og rfl))) ?_;refine Zq (ps_or rfl rfl rfl) ?_;refine Ze4 0 1 2 19 ?_)|(refine Zr 2 ?_;refine Za ?_;refine Ze1 6 ?_)|(refine Zr 3 ?_;refine Zm ?_;refine Zm ?_;refine Zm ?_;refine Zn (by exact ms_s3 rfl rfl rfl rfl (fun _ _ w hw => s_block_c key nonce m hk hn (by omega) w)) ?_;rintro y23 hy23;refine Za ?_;refine Ze1 6 ?_))
    · exfalso;omega
    exact ok_endL (vs := [_]) rfl ⟨rfl,trivial⟩ (fun w' hw => ⟨rfl,hw.below⟩)
  · have e : chaF key c nonce = ⟨#[]⟩ := by unfold chaF;rw [if_neg hok]
    have hf : ¬ (key.size = 32 ∧ (0 ≤ c ∧ c ≤ 4294967295) ∧ nonce.size = 12) := fun h => hok (isCha_iff.2 h)
    rw [e]
    repeat' (first|refine Wa ?_|refine Wb ?_|refine Wc ?_|(refine ok_cond rfl (fun hc => ?_) (fun hc => ?_) <;> (have hd := hc;try simp only [jj] at hd))|refine Wg ?_|refine Wi ?_|(refine Zr 0 ?_;refine Za ?_;refine Ze3 0 1 2 ?_)|(refine Zr 1 ?_;refine Zm ?_;refine Zq (ps_slen rfl rfl) ?_;refine Zi ?_;refine Zm ?_;refine Zg rfl rfl rfl (gF _) (fun hp => by exact ps_move rfl rfl) ?_;refine Zg rfl rfl rfl (gF _) (fun hp => by (exact ps_slen rfl (Og rfl))) ?_;refine Zg rfl rfl rfl (gF _) (fun hp => by (exact ps_int rfl (Og rfl) rfl rfl)) ?_;refine Zq (ps_or rfl rfl rfl) ?_;refine Zm ?_;refine Zg rfl rfl rfl (gF _) (fun hp => by exact ps_move rfl rfl) ?_;refine Zh rfl rfl rfl (gF _) (fun hp => by (exact ms_s3 rfl (Og rfl) rfl rfl (fun _ _ w hw => in_s c _ _ w))) ?_;refine Zg rfl rfl rfl (gF _) (fun hp => by (exact ps_not rfl (Og rfl))) ?_;refine Zq (ps_or rfl rfl rfl) ?_;refine Ze4 0 1 2 19 ?_)|(refine Zr 2 ?_;refine Za ?_;refine Ze1 6 ?_))
    · exact ok_endL (vs := [_]) rfl ⟨rfl,trivial⟩ (fun w' hw => ⟨rfl,hw.below⟩)
    all_goals (exfalso;omega)
theorem isTen_c (z : Int) (w : World) : Calls Tryz.prog 145 #[.int .i64 z] w fun e w' => e = .returned (.bool (inB z 1 99)) ∧ Below w.heap.size w w' := by
  refine ok_enter 5 Tryz.func145 rfl rfl rfl ?_
  repeat' (first|refine Wa ?_|refine Wb ?_|refine Wg ?_|(refine Zr 0 ?_;refine Za ?_;refine Ze1 0 ?_)|(refine Zr 1 ?_;refine Zm ?_;refine Zn (by exact ms_s3 rfl rfl rfl rfl (fun _ _ w hw => in_i z 1 99 w)) ?_;rintro y4 hy4;refine Za ?_;refine Ze1 2 ?_))
  exact ok_endL (vs := [_]) rfl ⟨rfl,trivial⟩ (fun w' hw => ⟨rfl,hw.below⟩)
theorem key_no {d : DKeys} (h : ¬ ((d.master.size : Int) = 32 ∧ d.slots.length ≤ 4 ∧ 0 ≤ d.wiped ∧ d.wiped ≤ 1000000)) : fKeyOk d = false := by
  unfold fKeyOk;rw [decide_eq_false h];rfl
theorem key_at {d : DKeys} {k : Nat} (hk : k < d.slots.length) (h : kslAt d.slots k = false) : fKeyOk d = false := by
  unfold fKeyOk;rw [allR_no hk h,Bool.and_false]
theorem key_yes {d : DKeys} (h : (d.master.size : Int) = 32 ∧ d.slots.length ≤ 4 ∧ 0 ≤ d.wiped ∧ d.wiped ≤ 1000000) (ha : ∀ k,k < d.slots.length → kslAt d.slots k = true) : fKeyOk d = true := by
  unfold fKeyOk;rw [decide_eq_true h,allR_yes ha];rfl
theorem i_KeyOk0 (m : ByteArray) (A : Option Addr) (c : Nat) (l : List KeySlot) (wi : Int) (w : World) (h : Rd w A (fl l)) (hl : l.length ≤ 4194304) :
    Calls Tryz.prog 94 #[.agg #[.string m,.slice A l.length c,.int .i64 wi]] w fun e w' => e = .returned (.bool (fKeyOk ⟨m,l,wi⟩)) ∧ Below w.heap.size w w' := by
  refine ok_enter 56 Tryz.func94 rfl rfl rfl ?_
  repeat' (first|refine Wa ?_|refine Wb ?_|refine Wc ?_|refine Wd ?_|(refine ok_cond rfl (fun hc => ?_) (fun hc => ?_) <;> (have hd := hc;try simp only [jj] at hd))|refine Wg ?_|refine Wi ?_|(refine Zr 0 ?_;refine Zn (ms_box rfl rfl rfl) ?_;rintro y1 hy1;refine Za ?_;refine Ze1 1 ?_)|(refine Zr 1 ?_;refine Zf ?_;refine Zl 0 ?_;refine Zq (ps_slen rfl rfl) ?_;refine Zi ?_;refine Zm ?_;refine Zg rfl rfl rfl (gF _) (fun hp => by exact ps_field rfl rfl (isw_ga _)) ?_;refine Zg rfl rfl rfl (gF _) (fun hp => by (exact ps_load rfl (Og rfl) (by exact Rds.cell (rds_box 0 rfl) rfl))) ?_;refine Zg rfl rfl rfl (gF _) (fun hp => by (exact ps_len rfl (Og rfl))) ?_;refine Zg rfl rfl rfl (gF _) (fun hp => by (exact ps_int rfl (Og rfl) rfl rfl)) ?_;refine Zq (ps_or rfl rfl rfl) ?_;refine Zm ?_;refine Zg rfl rfl rfl (gF _) (fun hp => by exact ps_field rfl rfl (isw_ga _)) ?_;refine Zg rfl rfl rfl (gF _) (fun hp => by (exact ps_load rfl (Og rfl) (by exact Rds.cell (rds_box 0 rfl) rfl))) ?_;refine Zh rfl rfl rfl (gF _) (fun hp => by (exact ms_s1 rfl (Og rfl) (fun _ _ w hw => isNum_c _ w))) ?_;refine Zg rfl rfl rfl (gF _) (fun hp => by (exact ps_not rfl (Og rfl))) ?_;refine Zq (ps_or rfl rfl rfl) ?_;refine Ze2 1 20 ?_)|(refine Zr 2 ?_;refine Za ?_;refine Ze1 2 ?_)|(refine Zr 3 ?_;refine Zf ?_;refine Zl 0 ?_;refine Zq (ps_len rfl rfl) ?_;refine Zm ?_;refine Ze4 1 22 23 24 ?_))
  · have e : fKeyOk ⟨m,l,wi⟩ = false := key_no (by simp only;omega)
    exact ok_endL (vs := [_]) rfl ⟨rfl,trivial⟩ (fun w' hw => ⟨by rw [e];simp [retV],hw.below⟩)
  have hok : (m.size : Int) = 32 ∧ l.length ≤ 4 ∧ 0 ≤ wi ∧ wi ≤ 1000000 := by omega
  clear hc hd
  refine ok_loop (ι := { k : Nat // k ≤ l.length ∧ ∀ j,j < k → kslAt l j = true }) (fun k => l.length - k.1) (fun k => ([(1,pt (ga (y1 0).c) 0),(22,.slice A l.length c),(23,.int .i64 l.length),(24,.int .i64 k.1)],_,_)) ⟨0,by omega,fun j h => absurd h (Nat.not_lt_zero j)⟩ (fun a w he hw => ⟨⟨0,by omega,fun j h => absurd h (Nat.not_lt_zero j)⟩,he.sub ⟨rfl,rfl,rfl,rfl,trivial⟩,hw⟩) ?_
  rintro ⟨k,hk,ha⟩
  simp only at hk ha ⊢
  have HA := Lib.hid ha;clear ha
  repeat' (first|refine Wa ?_|refine Wb ?_|refine Wc ?_|refine Wd ?_|refine We ?_|refine Wf ?_|(refine ok_cond rfl (fun hc => ?_) (fun hc => ?_) <;> (have hd := hc;try simp only [jj] at hd))|refine Wg ?_|refine Wh ?_|refine Wi ?_|(refine Zr 4 ?_;refine Zi ?_;refine Ze5 1 22 23 24 25 ?_)|(refine Zr 5 ?_;refine Zm ?_;refine Zq (by exact ps_indexN rfl rfl rfl (by omega) (by exact isw_of (isS_fl (by assumption) (by omega)))) ?_;refine Zq (by exact ps_loadsF rfl rfl (by exact rds_rf (by assumption) List.mem_cons_self) (by rfl) (by rfl) (by omega) rfl) ?_;refine Zn (ms_alloc rfl) ?_;rintro y4 hy4;refine Za ?_;refine Zo (ms_store 0 rfl rfl rfl rfl rfl rfl rfl rfl) ?_;rintro y_ hy_;refine Ze6 1 3 4 22 23 24 ?_)|(refine Xd 6 26 ?_;refine Xf 0 ?_;refine Xl 1 0 ?_;refine Xo 2 rfl (by exact ms_s1 rfl rfl (fun _ _ w hw => isTen_c _ w)) (fun y w _ h => by exact h) ?_;rintro y31 hy31;refine Xt 3 rfl (ps_not rfl rfl) ?_;refine Xm 4 ?_;refine Xg 5 rfl rfl rfl rfl (gF _) (fun hp => by exact ps_field rfl rfl (isw_ga _)) ?_;refine Xg 6 rfl rfl rfl rfl (gF _) (fun hp => by (exact ps_load rfl (Og rfl) (by exact Rds.cell (rds_box 0 rfl) rfl))) ?_;refine Xg 7 rfl rfl rfl rfl (gF _) (fun hp => by (exact ps_slen rfl (Og rfl))) ?_;refine Xg 8 rfl rfl rfl rfl (gF _) (fun hp => by (exact ps_int rfl (Og rfl) rfl rfl)) ?_;refine Xt 9 rfl (ps_or rfl rfl rfl) ?_;refine Xm 10 ?_;refine Xg 11 rfl rfl rfl rfl (gF _) (fun hp => by exact ps_move rfl rfl) ?_;refine Xg 12 rfl rfl rfl rfl (gF _) (fun hp => by (exact ps_int rfl (Og rfl) rfl rfl)) ?_;refine Xg 13 rfl rfl rfl rfl (gF _) (fun hp => by (exact ps_move rfl (Og rfl))) ?_;refine Xh 14 rfl rfl rfl rfl (gT _) (fun hq hp hqp => by exact ps_field rfl rfl (isw_ga _)) ?_;refine Xh 15 rfl rfl rfl rfl (gT _) (fun hq hp hqp => by (exact ps_load rfl (Og rfl) (by exact Rds.cell (rds_box 0 rfl) rfl))) ?_;refine Xh 16 rfl rfl rfl rfl (gT _) (fun hq hp hqp => by exact ps_field rfl rfl (isw_ga _)) ?_;refine Xh 17 rfl rfl rfl rfl (gT _) (fun hq hp hqp => by (exact ps_load rfl (Og rfl) (by exact Rds.cell (rds_box 1 rfl) rfl))) ?_;refine Xh 18 rfl rfl rfl rfl (gT _) (fun hq hp hqp => by exact ps_move rfl rfl) ?_;refine Xh 19 rfl rfl rfl rfl (gT _) (fun hq hp hqp => by (have hqd := hq;have hpd := hp;(try simp only [jj] at hqd hpd);exact ps_sub rfl (Og rfl) rfl (by omega))) ?_;refine Xh 20 rfl rfl rfl rfl (gT _) (fun hq hp hqp => by (have hqd := hq;have hpd := hp;(try simp only [jj] at hqd hpd);exact ps_index rfl (Og rfl) (Og rfl) (by omega) (by exact isw_of (isS_fl (by assumption) (by omega))))) ?_;refine Xh 21 rfl rfl rfl rfl (gT _) (fun hq hp hqp => by (have hqd := hq;have hpd := hp;(try simp only [jj] at hqd hpd);exact ps_field rfl (Og rfl) (by exact isw_of (isS_fl (by assumption) (by omega))))) ?_;refine Xh 22 rfl rfl rfl rfl (gT _) (fun hq hp hqp => by (have hqd := hq;have hpd := hp;(try simp only [jj] at hqd hpd);exact ps_load rfl (Og rfl) (by exact Rds.cell (rds_rf (by assumption) List.mem_cons_self) (by exact fl_at0 _ _ (by omega) (by decide))))) ?_;refine Xh 23 rfl rfl rfl rfl (gT _) (fun hq hp hqp => by (exact ps_int rfl (Og rfl) (Og rfl) rfl)) ?_;refine Xg 24 rfl rfl rfl rfl (gF _) (fun hp => by exact ps_and_in (by assumption) rfl rfl rfl) ?_;refine Xt 25 rfl (ps_or rfl rfl rfl) ?_;refine okT_done (by kernel_rfl) ?_;refine Ze5 1 22 23 24 54 ?_)|(refine Zr 7 ?_;refine Za ?_;refine Ze1 2 ?_)|(refine Zr 8 ?_;refine Zq (by exact ps_add rfl rfl rfl (by omega)) ?_;refine Zm ?_;refine Ze4 1 22 23 24 ?_)|(refine Zr 9 ?_;refine Za ?_;refine Ze1 2 ?_))
  · have e : fKeyOk ⟨m,l,wi⟩ = false := key_at (k := k) (by simp only;omega) (by unfold kslAt;rw [decide_eq_false_iff_not];simp only [tn1] at hd ⊢;omega)
    exact ok_endL (vs := [_]) rfl ⟨rfl,trivial⟩ (fun w' hw => ⟨by rw [e];simp [retV],hw.below⟩)
  · have e : kslAt l k = true := by unfold kslAt;rw [decide_eq_true_eq];simp only [tn1] at hd ⊢;omega
    refine fun a w' he hw => ⟨⟨k + 1,by omega,fun j hj => by
      rcases Nat.lt_succ_iff_lt_or_eq.1 hj with h' | h'
      · exact HA.out j h'
      · subst h';exact e⟩,by simp only;omega,he.sub ⟨rfl,rfl,rfl,rfl,trivial⟩,hw.drop 1 rfl⟩
  · obtain rfl : k = l.length := by omega
    have e : fKeyOk ⟨m,l,wi⟩ = true := key_yes hok (fun j hj => HA.out j hj)
    exact ok_endL (vs := [_]) rfl ⟨rfl,trivial⟩ (fun w' hw => ⟨by rw [e];simp [retV],hw.below⟩)
theorem s_KeyOk0 (m : ByteArray) (A : Option Addr) (c : Nat) (l : List KeySlot) (wi : Int) (w : World) (h : Rd w A (fl l)) (hl : l.length ≤ 4194304) :
    Calls Tryz.prog 85 #[.agg #[.string m,.slice A l.length c,.int .i64 wi]] w fun e w' => e = .returned (.bool (fKeyOk ⟨m,l,wi⟩)) ∧ Below w.heap.size w w' := by
  refine ok_enter 59 Tryz.func85 rfl rfl rfl ?_
  repeat' (first|refine Wa ?_|refine Wb ?_|refine Wc ?_|refine Wd ?_|(refine ok_cond rfl (fun hc => ?_) (fun hc => ?_) <;> (have hd := hc;try simp only [jj] at hd))|refine Wg ?_|refine Wi ?_|(refine Zr 0 ?_;refine Zn (ms_box rfl rfl rfl) ?_;rintro y1 hy1;refine Za ?_;refine Ze1 1 ?_)|(refine Zr 1 ?_;refine Zf ?_;refine Zl 0 ?_;refine Zq (ps_slen rfl rfl) ?_;refine Zi ?_;refine Zm ?_;refine Zg rfl rfl rfl (gF _) (fun hp => by exact ps_field rfl rfl (isw_ga _)) ?_;refine Zg rfl rfl rfl (gF _) (fun hp => by (exact ps_load rfl (Og rfl) (by exact Rds.cell (rds_box 0 rfl) rfl))) ?_;refine Zg rfl rfl rfl (gF _) (fun hp => by (exact ps_len rfl (Og rfl))) ?_;refine Zg rfl rfl rfl (gF _) (fun hp => by (exact ps_int rfl (Og rfl) rfl rfl)) ?_;refine Zq (ps_or rfl rfl rfl) ?_;refine Zm ?_;refine Zg rfl rfl rfl (gF _) (fun hp => by exact ps_field rfl rfl (isw_ga _)) ?_;refine Zg rfl rfl rfl (gF _) (fun hp => by (exact ps_load rfl (Og rfl) (by exact Rds.cell (rds_box 0 rfl) rfl))) ?_;refine Zh rfl rfl rfl (gF _) (fun hp => by (exact ms_s3 rfl (Og rfl) rfl rfl (fun _ _ w hw => in_s _ _ _ w))) ?_;refine Zg rfl rfl rfl (gF _) (fun hp => by (exact ps_not rfl (Og rfl))) ?_;refine Zq (ps_or rfl rfl rfl) ?_;refine Ze2 1 20 ?_)|(refine Zr 2 ?_;refine Za ?_;refine Ze1 2 ?_)|(refine Zr 3 ?_;refine Za ?_;refine Ze2 1 3 ?_))
  · have e : fKeyOk ⟨m,l,wi⟩ = false := key_no (by simp only;omega)
    exact ok_endL (vs := [_]) rfl ⟨rfl,trivial⟩ (fun w' hw => ⟨by rw [e];simp [retV],hw.below⟩)
  have hok : (m.size : Int) = 32 ∧ l.length ≤ 4 ∧ 0 ≤ wi ∧ wi ≤ 1000000 := by omega
  clear hc hd
  refine ok_loop (ι := { k : Nat // k ≤ l.length ∧ ∀ j,j < k → kslAt l j = true }) (fun k => l.length - k.1) (fun k => ([(1,pt (ga (y1 0).c) 0),(3,.int .i64 k.1)],_,_)) ⟨0,by omega,fun j h => absurd h (Nat.not_lt_zero j)⟩ (fun a w he hw => ⟨⟨0,by omega,fun j h => absurd h (Nat.not_lt_zero j)⟩,he.sub ⟨rfl,rfl,trivial⟩,hw⟩) ?_
  rintro ⟨k,hk,ha⟩
  simp only at hk ha ⊢
  have HA := Lib.hid ha;clear ha
  repeat' (first|refine Wa ?_|refine Wb ?_|refine Wc ?_|refine Wd ?_|refine We ?_|refine Wf ?_|(refine ok_cond rfl (fun hc => ?_) (fun hc => ?_) <;> (have hd := hc;try simp only [jj] at hd))|refine Wg ?_|refine Wh ?_|refine Wi ?_|(refine Zr 4 ?_;refine Zm ?_;refine Zf ?_;refine Zl 0 ?_;refine Zq (ps_len rfl rfl) ?_;refine Zi ?_;refine Ze3 1 3 25 ?_)|(refine Zr 5 ?_;refine Zm ?_;refine Zq (by exact ps_add rfl rfl rfl (by omega)) ?_;refine Za ?_;refine Ze2 1 3 ?_)|(refine Zr 6 ?_;refine Zf ?_;refine Zl 0 ?_;refine Zm ?_;refine Zq (by exact ps_indexN rfl rfl rfl (by omega) (by exact isw_of (isS_fl (by assumption) (by omega)))) ?_;refine Zq (by exact ps_loadsF rfl rfl (by exact rds_rf (by assumption) List.mem_cons_self) (by rfl) (by rfl) (by omega) rfl) ?_;refine Zn (ms_alloc rfl) ?_;rintro y4 hy4;refine Zo (ms_store 0 rfl rfl rfl rfl rfl rfl rfl rfl) ?_;rintro y_ hy_;refine Ze3 1 3 4 ?_)|(refine Xd 7 26 ?_;refine Xf 0 ?_;refine Xl 1 0 ?_;refine Xo 2 rfl (by exact ms_s3 rfl rfl rfl rfl (fun _ _ w hw => in_s _ _ _ w)) (fun y w _ h => by exact h) ?_;rintro y35 hy35;refine Xt 3 rfl (ps_not rfl rfl) ?_;refine Xm 4 ?_;refine Xg 5 rfl rfl rfl rfl (gF _) (fun hp => by exact ps_field rfl rfl (isw_ga _)) ?_;refine Xg 6 rfl rfl rfl rfl (gF _) (fun hp => by (exact ps_load rfl (Og rfl) (by exact Rds.cell (rds_box 0 rfl) rfl))) ?_;refine Xg 7 rfl rfl rfl rfl (gF _) (fun hp => by (exact ps_slen rfl (Og rfl))) ?_;refine Xg 8 rfl rfl rfl rfl (gF _) (fun hp => by (exact ps_int rfl (Og rfl) rfl rfl)) ?_;refine Xt 9 rfl (ps_or rfl rfl rfl) ?_;refine Xm 10 ?_;refine Xg 11 rfl rfl rfl rfl (gF _) (fun hp => by exact ps_move rfl rfl) ?_;refine Xg 12 rfl rfl rfl rfl (gF _) (fun hp => by (exact ps_int rfl (Og rfl) rfl rfl)) ?_;refine Xg 13 rfl rfl rfl rfl (gF _) (fun hp => by (exact ps_move rfl (Og rfl))) ?_;refine Xh 14 rfl rfl rfl rfl (gT _) (fun hq hp hqp => by exact ps_field rfl rfl (isw_ga _)) ?_;refine Xh 15 rfl rfl rfl rfl (gT _) (fun hq hp hqp => by (exact ps_load rfl (Og rfl) (by exact Rds.cell (rds_box 1 rfl) rfl))) ?_;refine Xh 16 rfl rfl rfl rfl (gT _) (fun hq hp hqp => by exact ps_move rfl rfl) ?_;refine Xh 17 rfl rfl rfl rfl (gT _) (fun hq hp hqp => by (have hqd := hq;have hpd := hp;(try simp only [jj] at hqd hpd);exact ps_sub rfl (Og rfl) rfl (by omega))) ?_;refine Xh 18 rfl rfl rfl rfl (gT _) (fun hq hp hqp => by (have hqd := hq;have hpd := hp;(try simp only [jj] at hqd hpd);exact ps_index rfl (Og rfl) (Og rfl) (by omega) (by exact isw_of (isS_fl (by assumption) (by omega))))) ?_;refine Xh 19 rfl rfl rfl rfl (gT _) (fun hq hp hqp => by (have hqd := hq;have hpd := hp;(try simp only [jj] at hqd hpd);exact ps_field rfl (Og rfl) (by exact isw_of (isS_fl (by assumption) (by omega))))) ?_;refine Xh 20 rfl rfl rfl rfl (gT _) (fun hq hp hqp => by (have hqd := hq;have hpd := hp;(try simp only [jj] at hqd hpd);exact ps_load rfl (Og rfl) (by exact Rds.cell (rds_rf (by assumption) List.mem_cons_self) (by exact fl_at0 _ _ (by omega) (by decide))))) ?_;refine Xh 21 rfl rfl rfl rfl (gT _) (fun hq hp hqp => by exact ps_field rfl rfl (isw_ga _)) ?_;refine Xh 22 rfl rfl rfl rfl (gT _) (fun hq hp hqp => by (exact ps_load rfl (Og rfl) (by exact Rds.cell (rds_box 0 rfl) rfl))) ?_;refine Xh 23 rfl rfl rfl rfl (gT _) (fun hq hp hqp => by (exact ps_int rfl (Og rfl) (Og rfl) rfl)) ?_;refine Xg 24 rfl rfl rfl rfl (gF _) (fun hp => by exact ps_and_in (by assumption) rfl rfl rfl) ?_;refine Xt 25 rfl (ps_or rfl rfl rfl) ?_;refine okT_done (by kernel_rfl) ?_;refine Ze3 1 3 58 ?_)|(refine Zr 8 ?_;refine Za ?_;refine Ze1 2 ?_)|(refine Zr 9 ?_;refine Za ?_;refine Ze1 2 ?_))
  · have e : fKeyOk ⟨m,l,wi⟩ = false := key_at (k := k) (by simp only;omega) (by unfold kslAt;rw [decide_eq_false_iff_not];simp only [tn1] at hd ⊢;omega)
    exact ok_endL (vs := [_]) rfl ⟨rfl,trivial⟩ (fun w' hw => ⟨by rw [e];simp [retV],hw.below⟩)
  · have e : kslAt l k = true := by unfold kslAt;rw [decide_eq_true_eq];simp only [tn1] at hd ⊢;omega
    refine fun a w' he hw => ⟨⟨k + 1,by omega,fun j hj => by
      rcases Nat.lt_succ_iff_lt_or_eq.1 hj with h' | h'
      · exact HA.out j h'
      · subst h';exact e⟩,by simp only;omega,he.sub ⟨rfl,rfl,trivial⟩,hw.drop 1 rfl⟩
  · obtain rfl : k = l.length := by omega
    have e : fKeyOk ⟨m,l,wi⟩ = true := key_yes hok (fun j hj => HA.out j hj)
    exact ok_endL (vs := [_]) rfl ⟨rfl,trivial⟩ (fun w' hw => ⟨by rw [e];simp [retV],hw.below⟩)
theorem slot_at {l : List KeySlot} {t : Int} {k : Nat} (hk : k < l.length) (h : (nth l k).ten = t) (ha : ∀ j,j < k → (nth l j).ten ≠ t) : slotF l t = (k : Int) := by
  rcases ixP_or (fun x : KeySlot => decide (x.ten = t)) l with ⟨e,hn⟩ | ⟨i,e,hi,h1,h2⟩
  · have := hn k hk;simp [h] at this
  · have e2 : i = k := by
      rcases Nat.lt_trichotomy i k with h' | h' | h'
      · exact absurd (by simpa using h1) (ha i h')
      · exact h'
      · have := h2 k h';simp [h] at this
    unfold slotF;rw [e,e2]
theorem slot_none {l : List KeySlot} {t : Int} (ha : ∀ j,j < l.length → (nth l j).ten ≠ t) : slotF l t = -1 := by
  rcases ixP_or (fun x : KeySlot => decide (x.ten = t)) l with ⟨e,hn⟩ | ⟨i,e,hi,h1,h2⟩
  · exact e
  · exact absurd (by simpa using h1) (ha i hi)
theorem slot_lt (l : List KeySlot) (t : Int) : -1 ≤ slotF l t ∧ slotF l t < l.length := by
  rcases ixP_or (fun x : KeySlot => decide (x.ten = t)) l with ⟨e,hn⟩ | ⟨i,e,hi,h1,h2⟩
  · unfold slotF;rw [e];omega
  · unfold slotF;rw [e];omega
theorem closK_c (x : KeySlot) (g : Nat) (t : Int) (w : World) (h : Rd w (ga g) (fl [t])) : Calls Tryz.prog 291 (Value.agg (Dat.cells x).toArray :: [pt (ga g) 0]).toArray w fun e w' => e = .returned (.bool (decide (x.ten = t))) ∧ Below w.heap.size w w' := by
  refine ok_enter 8 Tryz.func291 rfl rfl rfl ?_
  repeat' (first|refine Wa ?_|refine Wb ?_|refine Wg ?_|(refine Zr 0 ?_;refine Zn (ms_box rfl rfl rfl) ?_;rintro y2 hy2;refine Za ?_;refine Ze2 1 2 ?_)|(refine Zr 1 ?_;refine Zf ?_;refine Zl 0 ?_;refine Zq (by exact ps_load rfl rfl (Rds.cell (rds_rf h List.mem_cons_self) rfl)) ?_;refine Zi ?_;refine Za ?_;refine Ze1 3 ?_))
  refine ok_endL (vs := [_]) rfl ⟨rfl,trivial⟩ (fun w' hw => ⟨?_,hw.below⟩)
  simp only [retV]
  congr 2
theorem slotOf_c (m : ByteArray) (A : Option Addr) (c : Nat) (l : List KeySlot) (wi t : Int) (w : World) (h : Rd w A (fl l)) (hl : l.length ≤ 4194304) :
    Calls Tryz.prog 226 #[.agg #[.string m,.slice A l.length c,.int .i64 wi],.int .i64 t] w fun e w' => e = .returned (.int .i64 (slotF l t)) ∧ Below w.heap.size w w' := by
  refine ok_enter 9 Tryz.func226 rfl rfl rfl ?_
  repeat' (first|refine Wa ?_|refine Wb ?_|refine Wg ?_|(refine Zr 0 ?_;refine Zn (ms_box rfl rfl rfl) ?_;rintro y2 hy2;refine Zn (ms_box rfl rfl rfl) ?_;rintro y3 hy3;refine Za ?_;refine Ze2 2 3 ?_)|(refine Zr 1 ?_;refine Zf ?_;refine Zl 1 ?_;refine Zq (ps_mkf rfl rfl) ?_;refine Zn (by exact ms_s2 rfl rfl rfl (fun _ _ w hw => indexKs_c 291 [pt (ga (y3 0).c) 0] (fun x => decide (x.ten = t)) A c l w (rds_rf h List.mem_cons_self _ _ w hw) hl (fun x w' hk => closK_c x _ t w' ((rds_box 0 rfl _ _ w hw).keeps hk)))) ?_;rintro y8 hy8;refine Za ?_;refine Ze1 4 ?_))
  exact ok_endL (vs := [_]) rfl ⟨rfl,trivial⟩ (fun w' hw => ⟨rfl,hw.below⟩)
theorem i_KeyOf0 (m : ByteArray) (A : Option Addr) (c : Nat) (l : List KeySlot) (wi t : Int) (w : World) (h : Rd w A (fl l)) (hl : l.length ≤ 4194304) :
    Calls Tryz.prog 209 #[.agg #[.string m,.slice A l.length c,.int .i64 wi],.int .i64 t] w fun e w' => e = .returned (.string (keyOf ⟨m,l,wi⟩ t)) ∧ Below w.heap.size w w' := by
  have hs := slot_lt l t
  refine ok_enter 22 Tryz.func209 rfl rfl rfl ?_
  repeat' (first|refine Wa ?_|refine Wb ?_|refine Wc ?_|(refine ok_cond rfl (fun hc => ?_) (fun hc => ?_) <;> (have hd := hc;try simp only [jj] at hd))|refine Wg ?_|refine Wi ?_|(refine Zr 0 ?_;refine Zn (ms_box rfl rfl rfl) ?_;rintro y2 hy2;refine Za ?_;refine Ze2 1 2 ?_)|(refine Zr 1 ?_;refine Zq (by exact ps_loads rfl rfl (by exact rds_box 0 rfl) rfl rfl (by decide)) ?_;refine Zm ?_;refine Zn (by exact ms_s2 rfl rfl rfl (fun _ _ w hw => slotOf_c m A c l wi t w (rds_rf h List.mem_cons_self _ _ w hw) hl)) ?_;rintro y8 hy8;refine Za ?_;refine Ze2 2 5 ?_)|(refine Zr 2 ?_;refine Zm ?_;refine Zi ?_;refine Zm ?_;refine Zg rfl rfl rfl (gF _) (fun hp => by exact ps_loads rfl rfl (by exact rds_box 0 rfl) rfl rfl (by decide)) ?_;refine Zh rfl rfl rfl (gF _) (fun hp => by (exact ms_s1 rfl (Og rfl) (fun _ _ w hw => i_KeyOk0 m A c l wi w (rds_rf h List.mem_cons_self _ _ w hw) hl))) ?_;refine Zg rfl rfl rfl (gF _) (fun hp => by (exact ps_not rfl (Og rfl))) ?_;refine Zq (ps_or rfl rfl rfl) ?_;refine Ze3 2 5 15 ?_)|(refine Zr 3 ?_;refine Za ?_;refine Ze1 4 ?_)|(refine Zr 4 ?_;refine Zf ?_;refine Zl 0 ?_;refine Zm ?_;refine Zq (by exact ps_index rfl rfl rfl (by omega) (by exact isw_of (isS_fl (by assumption) (by omega)))) ?_;refine Zq (by exact ps_field rfl rfl (by exact isw_of (isS_fl (by assumption) (by omega)))) ?_;refine Zq (by exact ps_load rfl rfl (by exact Rds.cell (rds_rf (by assumption) List.mem_cons_self) (by exact fl_at _ _ _ (by omega) (by decide)))) ?_;refine Za ?_;refine Ze1 4 ?_))
  · have e : keyOf ⟨m,l,wi⟩ t = ⟨#[]⟩ := by
      unfold keyOf;rw [if_neg];rintro ⟨h1,h2⟩
      rw [h1] at hc;simp at hc
      simp only at h2;omega
    exact ok_endL (vs := [_]) rfl ⟨rfl,trivial⟩ (fun w' hw => ⟨by rw [e];rfl,hw.below⟩)
  · have e : keyOf ⟨m,l,wi⟩ t = (nth l (slotF l t).toNat).key := by
      unfold keyOf;rw [if_pos]
      simp at hc
      exact ⟨hc.2,by simp only;omega⟩
    exact ok_endL (vs := [_]) rfl ⟨rfl,trivial⟩ (fun w' hw => ⟨by rw [e];rfl,hw.below⟩)
theorem s_KeyOf0 (m : ByteArray) (A : Option Addr) (c : Nat) (l : List KeySlot) (wi t : Int) (w : World) (h : Rd w A (fl l)) (hl : l.length ≤ 4194304) :
    Calls Tryz.prog 138 #[.agg #[.string m,.slice A l.length c,.int .i64 wi],.int .i64 t] w fun e w' => e = .returned (.string (keyOf ⟨m,l,wi⟩ t)) ∧ Below w.heap.size w w' := by
  refine ok_enter 31 Tryz.func138 rfl rfl rfl ?_
  repeat' (first|refine Wa ?_|refine Wb ?_|refine Wd ?_|(refine Zr 0 ?_;refine Zn (ms_box rfl rfl rfl) ?_;rintro y2 hy2;refine Za ?_;refine Ze2 1 2 ?_)|(refine Zr 1 ?_;refine Za ?_;refine Ze3 1 2 5 ?_))
  refine ok_loop (ι := { k : Nat // k ≤ l.length ∧ ∀ j,j < k → (nth l j).ten ≠ t }) (fun k => l.length - k.1) (fun k => ([(1,.int .i64 t),(2,pt (ga (y2 0).c) 0),(5,.int .i64 k.1)],_,_)) ⟨0,by omega,fun j h => absurd h (Nat.not_lt_zero j)⟩ (fun a w he hw => ⟨⟨0,by omega,fun j h => absurd h (Nat.not_lt_zero j)⟩,he.sub ⟨rfl,rfl,rfl,trivial⟩,hw⟩) ?_
  rintro ⟨k,hk,ha⟩
  simp only at hk ha ⊢
  have HA := Lib.hid ha;clear ha
  repeat' (first|refine Wa ?_|refine Wb ?_|refine Wc ?_|refine Wd ?_|refine We ?_|refine Wf ?_|(refine ok_cond rfl (fun hc => ?_) (fun hc => ?_) <;> (have hd := hc;try simp only [jj] at hd))|refine Wg ?_|refine Wh ?_|refine Wi ?_|(refine Zr 2 ?_;refine Zm ?_;refine Zf ?_;refine Zl 0 ?_;refine Zq (ps_len rfl rfl) ?_;refine Zi ?_;refine Zm ?_;refine Zg rfl rfl rfl (gT _) (fun hp => by exact ps_loads rfl rfl (by exact rds_box 0 rfl) rfl rfl (by decide)) ?_;refine Zh rfl rfl rfl (gT _) (fun hp => by (exact ms_s1 rfl (Og rfl) (fun _ _ w hw => s_KeyOk0 m A c l wi w (rds_rf h List.mem_cons_self _ _ w hw) hl))) ?_;refine Zq (ps_and rfl rfl rfl) ?_;refine Ze4 1 2 5 14 ?_)|(refine Zr 3 ?_;refine Zm ?_;refine Zq (by exact ps_add rfl rfl rfl (by omega)) ?_;refine Za ?_;refine Ze3 1 2 5 ?_)|(refine Zr 4 ?_;refine Zf ?_;refine Zl 0 ?_;refine Zm ?_;refine Zq (by exact ps_indexN rfl rfl rfl (by omega) (by exact isw_of (isS_fl (by assumption) (by omega)))) ?_;refine Zq (by exact ps_field rfl rfl (by exact isw_of (isS_fl (by assumption) (by omega)))) ?_;refine Zq (by exact ps_load rfl rfl (by exact Rds.cell (rds_rf (by assumption) List.mem_cons_self) (by exact fl_at0 _ _ (by omega) (by decide)))) ?_;refine Zm ?_;refine Zi ?_;refine Ze4 1 2 5 24 ?_)|(refine Zr 5 ?_;refine Zf ?_;refine Zl 0 ?_;refine Zm ?_;refine Zq (by exact ps_indexN rfl rfl rfl (by omega) (by exact isw_of (isS_fl (by assumption) (by omega)))) ?_;refine Zq (by exact ps_field rfl rfl (by exact isw_of (isS_fl (by assumption) (by omega)))) ?_;refine Zq (by exact ps_load rfl rfl (by exact Rds.cell (rds_rf (by assumption) List.mem_cons_self) (by exact fl_at _ _ _ (by omega) (by decide)))) ?_;refine Za ?_;refine Ze1 4 ?_)|(refine Zr 6 ?_;refine Za ?_;refine Ze1 4 ?_))
  · have e : keyOf ⟨m,l,wi⟩ t = (nth l k).key := by
      have hs := slot_at (show k < l.length by omega) hd HA.out
      unfold keyOf; rw [if_pos ⟨by have h2 : (decide ((k : Int) < (l.length : Int)) && fKeyOk ⟨m, l, wi⟩) = true := by assumption
                                   rw [Bool.and_eq_true] at h2;exact h2.2,by simp only;omega⟩]
      simp only [hs,Int.toNat_natCast]
    exact ok_endL (vs := [_]) rfl ⟨rfl,trivial⟩ (fun w' hw => ⟨by rw [e];rfl,hw.below⟩)
  · exact fun a w' he hw => ⟨⟨k + 1,by omega,fun j hj => by
      rcases Nat.lt_succ_iff_lt_or_eq.1 hj with h' | h'
      · exact HA.out j h'
      · subst h';exact hd⟩,by simp only;omega,he.sub ⟨rfl,rfl,rfl,trivial⟩,hw⟩
  · have e : keyOf ⟨m,l,wi⟩ t = ⟨#[]⟩ := by
      unfold keyOf;rw [if_neg];rintro ⟨h1,h2⟩
      rcases hd with hd | hd
      · obtain rfl : k = l.length := by omega
        rw [slot_none HA.out] at h2;simp at h2
      · rw [hd] at h1;cases h1
    exact ok_endL (vs := [_]) rfl ⟨rfl,trivial⟩ (fun w' hw => ⟨by rw [e];rfl,hw.below⟩)
-- shares
theorem need_le (q : Int) : 0 ≤ needF q ∧ needF q ≤ 44 := by
  unfold needF
  split
  · rename_i h;rw [inB_true] at h;omega
  · omega
theorem i_Need (q : Int) (w : World) : Calls Tryz.prog 206 #[.int .i64 q] w fun e w' => e = .returned (.int .i64 (needF q)) ∧ Below w.heap.size w w' := by
  refine ok_enter 12 Tryz.func206 rfl rfl rfl ?_
  repeat' (first|refine Wa ?_|refine Wb ?_|refine Wc ?_|(refine ok_cond rfl (fun hc => ?_) (fun hc => ?_) <;> (have hd := hc;try simp only [jj] at hd))|refine Wg ?_|refine Wi ?_|(refine Zr 0 ?_;refine Za ?_;refine Ze1 0 ?_)|(refine Zr 1 ?_;refine Zm ?_;refine Zn (by exact ms_s3 rfl rfl rfl rfl (fun _ _ w hw => in_i _ _ _ w)) ?_;rintro y4 hy4;refine Zq (ps_not rfl rfl) ?_;refine Ze2 0 5 ?_)|(refine Zr 2 ?_;refine Za ?_;refine Ze1 2 ?_)|(refine Zr 3 ?_;refine Zm ?_;refine Zq (by exact ps_add rfl rfl rfl (by omega)) ?_;refine Zq (by exact ps_sub rfl rfl rfl (by omega)) ?_;refine Zq (by exact ps_quo rfl rfl rfl (by omega) (by omega)) ?_;refine Zq (by exact ps_mul rfl rfl rfl (by omega)) ?_;refine Zq (by exact ps_add rfl rfl rfl (by omega)) ?_;refine Za ?_;refine Ze1 2 ?_))
  · have e : needF q = 0 := by unfold needF;rw [if_neg];rw [inB_true];omega
    exact ok_endL (vs := [_]) rfl ⟨rfl,trivial⟩ (fun w' hw => ⟨by rw [e];rfl,hw.below⟩)
  · have e : needF q = 2 + 2 * ((q + 50 - 1) / 50) := by unfold needF;rw [if_pos (by rw [inB_true];omega)];omega
    exact ok_endL (vs := [_]) rfl ⟨rfl,trivial⟩ (fun w' hw => ⟨by rw [e];rfl,hw.below⟩)
theorem s_Need (q : Int) (w : World) : Calls Tryz.prog 195 #[.int .i64 q] w fun e w' => e = .returned (.int .i64 (needF q)) ∧ Below w.heap.size w w' := by
  refine ok_enter 11 Tryz.func195 rfl rfl rfl ?_
  repeat' (first|refine Wa ?_|refine Wb ?_|refine Wc ?_|(refine ok_cond rfl (fun hc => ?_) (fun hc => ?_) <;> (have hd := hc;try simp only [jj] at hd))|refine Wg ?_|refine Wi ?_|(refine Zr 0 ?_;refine Za ?_;refine Ze1 0 ?_)|(refine Zr 1 ?_;refine Zm ?_;refine Zn (by exact ms_s3 rfl rfl rfl rfl (fun _ _ w hw => in_s _ _ _ w)) ?_;rintro y4 hy4;refine Zq (ps_not rfl rfl) ?_;refine Ze2 0 5 ?_)|(refine Zr 2 ?_;refine Za ?_;refine Ze1 2 ?_)|(refine Zr 3 ?_;refine Zm ?_;refine Zq (by exact ps_add rfl rfl rfl (by omega)) ?_;refine Zq (by exact ps_quo rfl rfl rfl (by omega) (by omega)) ?_;refine Zq (by exact ps_mul rfl rfl rfl (by omega)) ?_;refine Zq (by exact ps_add rfl rfl rfl (by omega)) ?_;refine Za ?_;refine Ze1 2 ?_))
  · have e : needF q = 0 := by unfold needF;rw [if_neg];rw [inB_true];omega
    exact ok_endL (vs := [_]) rfl ⟨rfl,trivial⟩ (fun w' hw => ⟨by rw [e];rfl,hw.below⟩)
  · have e : needF q = 2 + 2 * ((q + 49) / 50) := by unfold needF;rw [if_pos (by rw [inB_true];omega)]
    exact ok_endL (vs := [_]) rfl ⟨rfl,trivial⟩ (fun w' hw => ⟨by rw [e];rfl,hw.below⟩)
theorem needS_nil : needS [] = 0 := rfl
theorem needS_step {l : List Share} {k : Nat} (h : k < l.length) : needS (l.take (k + 1)) = needS (l.take k) + needF (nth l k).quo := by
  rw [takeG h];unfold needS;rw [List.map_append,List.sum_append];simp
theorem needS_le (l : List Share) : 0 ≤ needS l ∧ needS l ≤ 44 * (l.length : Int) := by
  induction l with
  | nil => simp [needS]
  | cons x l ih =>
    have := need_le x.quo
    unfold needS at ih ⊢
    rw [List.map_cons,List.sum_cons,List.length_cons]
    omega
theorem needOf_c (sz : Int) (A : Option Addr) (c : Nat) (l : List Share) (w : World) (h : Rd w A (fl l)) (hl : l.length ≤ 4194304) :
    Calls Tryz.prog 146 #[.agg #[.int .i64 sz,.slice A l.length c]] w fun e w' => e = .returned (.int .i64 (4 + needS l)) ∧ Below w.heap.size w w' := by
  refine ok_enter 20 Tryz.func146 rfl rfl rfl ?_
  repeat' (first|refine Wa ?_|refine Wb ?_|refine Wd ?_|(refine Zr 0 ?_;refine Zn (ms_box rfl rfl rfl) ?_;rintro y1 hy1;refine Za ?_;refine Ze1 1 ?_)|(refine Zr 1 ?_;refine Za ?_;refine Ze2 1 3 ?_)|(refine Zr 2 ?_;refine Zf ?_;refine Zl 0 ?_;refine Zq (ps_len rfl rfl) ?_;refine Zm ?_;refine Ze4 3 7 8 9 ?_))
  refine ok_loop (ι := { k : Nat // k ≤ l.length }) (fun k => l.length - k.1) (fun k => ([(3,.int .i64 (4 + needS (l.take k.1))),(7,.slice A l.length c),(8,.int .i64 l.length),(9,.int .i64 k.1)],_,_)) ⟨0,by omega⟩ (fun a w he hw => ⟨⟨0,by omega⟩,he.sub ⟨rfl,rfl,rfl,rfl,trivial⟩,hw⟩) ?_
  rintro ⟨k,hk⟩
  simp only at hk ⊢
  have hn := needS_le (l.take k)
  have hq := need_le (nth l k).quo
  have htk : (l.take k).length ≤ k := by rw [List.length_take];omega
  repeat' (first|refine Wa ?_|refine Wb ?_|refine Wd ?_|refine We ?_|(refine ok_cond rfl (fun hc => ?_) (fun hc => ?_) <;> (have hd := hc;try simp only [jj] at hd))|refine Wg ?_|refine Wh ?_|refine Wi ?_|(refine Zr 3 ?_;refine Zi ?_;refine Ze5 3 7 8 9 10 ?_)|(refine Zr 4 ?_;refine Zq (by exact ps_indexN rfl rfl rfl (by omega) (by exact isw_of (isS_fl (by assumption) (by omega)))) ?_;refine Zq (by exact ps_loadsF rfl rfl (by exact rds_rf (by assumption) List.mem_cons_self) (by rfl) (by rfl) (by omega) rfl) ?_;refine Zn (ms_alloc rfl) ?_;rintro y5 hy5;refine Zo (ms_store 0 rfl rfl rfl rfl rfl rfl rfl rfl) ?_;rintro y_ hy_;refine Ze5 3 5 7 8 9 ?_)|(refine Zr 5 ?_;refine Zm ?_;refine Zf ?_;refine Zl 0 ?_;refine Zn (by exact ms_s1 rfl rfl (fun _ _ w hw => i_Need _ w)) ?_;rintro y16 hy16;refine Zq (by exact ps_add rfl rfl rfl (by omega)) ?_;refine Za ?_;refine Ze4 3 7 8 9 ?_)|(refine Zr 6 ?_;refine Zq (by exact ps_add rfl rfl rfl (by omega)) ?_;refine Zm ?_;refine Ze4 3 7 8 9 ?_)|(refine Zr 7 ?_;refine Zm ?_;refine Za ?_;refine Ze1 2 ?_))
  · refine fun a w' he hw => ⟨⟨k + 1,by omega⟩,by simp only;omega,he.sub ⟨?_,rfl,rfl,rfl,trivial⟩,hw.drop 1 rfl⟩
    simp only [look];congr 2;rw [needS_step (by omega)];omega
  · obtain rfl : k = l.length := by omega
    rw [List.take_length]
    exact ok_endL (vs := [_]) rfl ⟨rfl,trivial⟩ (fun w' hw => ⟨rfl,hw.below⟩)
def all19 (l : List Share) : Int := needS l + (if 0 < l.length then 4 else 0)
theorem l19All_c (sz : Int) (A : Option Addr) (c : Nat) (l : List Share) (w : World) (h : Rd w A (fl l)) (hl : l.length ≤ 4194304) :
    Calls Tryz.prog 134 #[.agg #[.int .i64 sz,.slice A l.length c]] w fun e w' => e = .returned (.int .i64 (all19 l)) ∧ Below w.heap.size w w' := by
  refine ok_enter 28 Tryz.func134 rfl rfl rfl ?_
  repeat' (first|refine Wa ?_|refine Wb ?_|refine Wd ?_|(refine Zr 0 ?_;refine Zn (ms_box rfl rfl rfl) ?_;rintro y1 hy1;refine Za ?_;refine Ze1 1 ?_)|(refine Zr 1 ?_;refine Za ?_;refine Ze2 1 3 ?_)|(refine Zr 2 ?_;refine Za ?_;refine Ze3 1 3 4 ?_))
  refine ok_loop (ι := { k : Nat // k ≤ l.length }) (fun k => l.length - k.1) (fun k => ([(1,pt (ga (y1 0).c) 0),(3,.int .i64 (needS (l.take k.1))),(4,.int .i64 k.1)],_,_)) ⟨0,by omega⟩ (fun a w he hw => ⟨⟨0,by omega⟩,he.sub ⟨rfl,rfl,rfl,trivial⟩,hw⟩) ?_
  rintro ⟨k,hk⟩
  simp only at hk ⊢
  have hn := needS_le (l.take k)
  have hq := need_le (nth l k).quo
  have htk : (l.take k).length ≤ k := by rw [List.length_take];omega
  repeat' (first|refine Wa ?_|refine Wb ?_|refine Wd ?_|refine We ?_|(refine ok_cond rfl (fun hc => ?_) (fun hc => ?_) <;> (have hd := hc;try simp only [jj] at hd))|refine Wg ?_|refine Wh ?_|refine Wi ?_|(refine Zr 3 ?_;refine Zm ?_;refine Zf ?_;refine Zl 0 ?_;refine Zq (ps_len rfl rfl) ?_;refine Zi ?_;refine Ze4 1 3 4 9 ?_)|(refine Zr 4 ?_;refine Zm ?_;refine Zq (by exact ps_add rfl rfl rfl (by omega)) ?_;refine Za ?_;refine Ze3 1 3 4 ?_)|(refine Zr 5 ?_;refine Zm ?_;refine Zf ?_;refine Zl 0 ?_;refine Zm ?_;refine Zq (by exact ps_indexN rfl rfl rfl (by omega) (by exact isw_of (isS_fl (by assumption) (by omega)))) ?_;refine Zq (by exact ps_field rfl rfl (by exact isw_of (isS_fl (by assumption) (by omega)))) ?_;refine Zq (by exact ps_load rfl rfl (by exact Rds.cell (rds_rf (by assumption) List.mem_cons_self) (by exact fl_at _ _ _ (by omega) (by decide)))) ?_;refine Zn (by exact ms_s1 rfl rfl (fun _ _ w hw => s_Need _ w)) ?_;rintro y19 hy19;refine Zq (by exact ps_add rfl rfl rfl (by omega)) ?_;refine Za ?_;refine Ze3 1 3 4 ?_)|(refine Zr 6 ?_;refine Zf ?_;refine Zl 0 ?_;refine Zq (ps_len rfl rfl) ?_;refine Zi ?_;refine Ze2 3 24 ?_)|(refine Zr 7 ?_;refine Zm ?_;refine Zq (by exact ps_add rfl rfl rfl (by omega)) ?_;refine Za ?_;refine Ze1 3 ?_)|(refine Zr 8 ?_;refine Zm ?_;refine Za ?_;refine Ze1 2 ?_))
  · refine fun a w' he hw => ⟨⟨k + 1,by omega⟩,by simp only;omega,he.sub ⟨rfl,?_,rfl,trivial⟩,hw⟩
    simp only [look];congr 2;rw [needS_step (by omega)]
  all_goals (obtain rfl : k = l.length := by omega)
  all_goals rw [List.take_length]
  · exact ok_endL (vs := [_]) rfl ⟨rfl,trivial⟩ (fun w' hw => ⟨by unfold all19;rw [if_pos (by omega)];rfl,hw.below⟩)
  · exact ok_endL (vs := [_]) rfl ⟨rfl,trivial⟩ (fun w' hw => ⟨by unfold all19;rw [if_neg (by omega)];simp [retV],hw.below⟩)
theorem share_no {s : DShares} (h : ¬ (0 ≤ s.size ∧ s.size ≤ 1000 ∧ s.list.length ≤ 4)) : fSharesOk s = false := by
  unfold fSharesOk;rw [decide_eq_false h];rfl
theorem share_at {s : DShares} {k : Nat} (hk : k < s.list.length) (h : shareAt s.list k = false) : fSharesOk s = false := by
  unfold fSharesOk;rw [allR_no hk h];simp
theorem share_end {s : DShares} (h : 0 ≤ s.size ∧ s.size ≤ 1000 ∧ s.list.length ≤ 4) (ha : ∀ k,k < s.list.length → shareAt s.list k = true) : fSharesOk s = decide (s.list.length = 0 ∨ 4 + needS s.list ≤ s.size) := by
  unfold fSharesOk;rw [decide_eq_true h,allR_yes ha];rfl
theorem i_SharesOk0 (sz : Int) (A : Option Addr) (c : Nat) (l : List Share) (w : World) (h : Rd w A (fl l)) (hl : l.length ≤ 4194304) :
    Calls Tryz.prog 95 #[.agg #[.int .i64 sz,.slice A l.length c]] w fun e w' => e = .returned (.bool (fSharesOk ⟨sz,l⟩)) ∧ Below w.heap.size w w' := by
  refine ok_enter 61 Tryz.func95 rfl rfl rfl ?_
  repeat' (first|refine Wa ?_|refine Wb ?_|refine Wc ?_|refine Wd ?_|(refine ok_cond rfl (fun hc => ?_) (fun hc => ?_) <;> (have hd := hc;try simp only [jj] at hd))|refine Wg ?_|refine Wi ?_|(refine Zr 0 ?_;refine Zn (ms_box rfl rfl rfl) ?_;rintro y1 hy1;refine Za ?_;refine Ze1 1 ?_)|(refine Zr 1 ?_;refine Zf ?_;refine Zl 0 ?_;refine Zn (by exact ms_s3 rfl rfl rfl rfl (fun _ _ w hw => in_i _ _ _ w)) ?_;rintro y7 hy7;refine Zq (ps_not rfl rfl) ?_;refine Zm ?_;refine Zg rfl rfl rfl (gF _) (fun hp => by exact ps_field rfl rfl (isw_ga _)) ?_;refine Zg rfl rfl rfl (gF _) (fun hp => by (exact ps_load rfl (Og rfl) (by exact Rds.cell (rds_box 0 rfl) rfl))) ?_;refine Zg rfl rfl rfl (gF _) (fun hp => by (exact ps_len rfl (Og rfl))) ?_;refine Zg rfl rfl rfl (gF _) (fun hp => by (exact ps_int rfl (Og rfl) rfl rfl)) ?_;refine Zq (ps_or rfl rfl rfl) ?_;refine Ze2 1 14 ?_)|(refine Zr 2 ?_;refine Za ?_;refine Ze1 2 ?_)|(refine Zr 3 ?_;refine Zf ?_;refine Zl 0 ?_;refine Zq (ps_len rfl rfl) ?_;refine Zm ?_;refine Ze4 1 16 17 18 ?_))
  · have e : fSharesOk ⟨sz,l⟩ = false := share_no (by simp only;omega)
    exact ok_endL (vs := [_]) rfl ⟨rfl,trivial⟩ (fun w' hw => ⟨by rw [e];simp [retV],hw.below⟩)
  have hok : 0 ≤ sz ∧ sz ≤ 1000 ∧ l.length ≤ 4 := by omega
  clear hc hd
  refine ok_loop (ι := { k : Nat // k ≤ l.length ∧ ∀ j,j < k → shareAt l j = true }) (fun k => l.length - k.1) (fun k => ([(1,pt (ga (y1 0).c) 0),(16,.slice A l.length c),(17,.int .i64 l.length),(18,.int .i64 k.1)],_,_)) ⟨0,by omega,fun j h => absurd h (Nat.not_lt_zero j)⟩ (fun a w he hw => ⟨⟨0,by omega,fun j h => absurd h (Nat.not_lt_zero j)⟩,he.sub ⟨rfl,rfl,rfl,rfl,trivial⟩,hw⟩) ?_
  rintro ⟨k,hk,ha⟩
  simp only at hk ha ⊢
  have HA := Lib.hid ha;clear ha
  repeat' (first|refine Wa ?_|refine Wb ?_|refine Wc ?_|refine Wd ?_|refine We ?_|refine Wf ?_|(refine ok_cond rfl (fun hc => ?_) (fun hc => ?_) <;> (have hd := hc;try simp only [jj] at hd))|refine Wg ?_|refine Wh ?_|refine Wi ?_|(refine Zr 4 ?_;refine Zi ?_;refine Ze5 1 16 17 18 19 ?_)|(refine Zr 5 ?_;refine Zm ?_;refine Zq (by exact ps_indexN rfl rfl rfl (by omega) (by exact isw_of (isS_fl (by assumption) (by omega)))) ?_;refine Zq (by exact ps_loadsF rfl rfl (by exact rds_rf (by assumption) List.mem_cons_self) (by rfl) (by rfl) (by omega) rfl) ?_;refine Zn (ms_alloc rfl) ?_;rintro y4 hy4;refine Za ?_;refine Zo (ms_store 0 rfl rfl rfl rfl rfl rfl rfl rfl) ?_;rintro y_ hy_;refine Ze6 1 3 4 16 17 18 ?_)|(refine Xd 6 26 ?_;refine Xf 0 ?_;refine Xl 1 0 ?_;refine Xo 2 rfl (by exact ms_s1 rfl rfl (fun _ _ w hw => isTen_c _ w)) (fun y w _ h => by exact h) ?_;rintro y25 hy25;refine Xt 3 rfl (ps_not rfl rfl) ?_;refine Xm 4 ?_;refine Xg 5 rfl rfl rfl rfl (gF _) (fun hp => by exact ps_field rfl rfl (isw_ga _)) ?_;refine Xg 6 rfl rfl rfl rfl (gF _) (fun hp => by (exact ps_load rfl (Og rfl) (by exact Rds.cell (rds_box 0 rfl) rfl))) ?_;refine okT_one_g1 (i := 7) rfl rfl (by kernel_rfl) rfl rfl rfl rfl rfl (gF _) (fun hp => by (exact ms_s3 rfl (Og rfl) rfl rfl (fun _ _ w hw => in_i _ _ _ w))) (fun w h => by exact h) ?_;refine Xg 8 rfl rfl rfl rfl (gF _) (fun hp => by (exact ps_not rfl (Og rfl))) ?_;refine Xt 9 rfl (ps_or rfl rfl rfl) ?_;refine Xm 10 ?_;refine Xg 11 rfl rfl rfl rfl (gF _) (fun hp => by exact ps_move rfl rfl) ?_;refine Xg 12 rfl rfl rfl rfl (gF _) (fun hp => by (exact ps_int rfl (Og rfl) rfl rfl)) ?_;refine Xg 13 rfl rfl rfl rfl (gF _) (fun hp => by (exact ps_move rfl (Og rfl))) ?_;refine Xh 14 rfl rfl rfl rfl (gT _) (fun hq hp hqp => by exact ps_field rfl rfl (isw_ga _)) ?_;refine Xh 15 rfl rfl rfl rfl (gT _) (fun hq hp hqp => by (exact ps_load rfl (Og rfl) (by exact Rds.cell (rds_box 0 rfl) rfl))) ?_;refine Xh 16 rfl rfl rfl rfl (gT _) (fun hq hp hqp => by exact ps_field rfl rfl (isw_ga _)) ?_;refine Xh 17 rfl rfl rfl rfl (gT _) (fun hq hp hqp => by (exact ps_load rfl (Og rfl) (by exact Rds.cell (rds_box 1 rfl) rfl))) ?_;refine Xh 18 rfl rfl rfl rfl (gT _) (fun hq hp hqp => by exact ps_move rfl rfl) ?_;refine Xh 19 rfl rfl rfl rfl (gT _) (fun hq hp hqp => by (have hqd := hq;have hpd := hp;(try simp only [jj] at hqd hpd);exact ps_sub rfl (Og rfl) rfl (by omega))) ?_;refine Xh 20 rfl rfl rfl rfl (gT _) (fun hq hp hqp => by (have hqd := hq;have hpd := hp;(try simp only [jj] at hqd hpd);exact ps_index rfl (Og rfl) (Og rfl) (by omega) (by exact isw_of (isS_fl (by assumption) (by omega))))) ?_;refine Xh 21 rfl rfl rfl rfl (gT _) (fun hq hp hqp => by (have hqd := hq;have hpd := hp;(try simp only [jj] at hqd hpd);exact ps_field rfl (Og rfl) (by exact isw_of (isS_fl (by assumption) (by omega))))) ?_;refine Xh 22 rfl rfl rfl rfl (gT _) (fun hq hp hqp => by (have hqd := hq;have hpd := hp;(try simp only [jj] at hqd hpd);exact ps_load rfl (Og rfl) (by exact Rds.cell (rds_rf (by assumption) List.mem_cons_self) (by exact fl_at0 _ _ (by omega) (by decide))))) ?_;refine Xh 23 rfl rfl rfl rfl (gT _) (fun hq hp hqp => by (exact ps_int rfl (Og rfl) (Og rfl) rfl)) ?_;refine Xg 24 rfl rfl rfl rfl (gF _) (fun hp => by exact ps_and_in (by assumption) rfl rfl rfl) ?_;refine Xt 25 rfl (ps_or rfl rfl rfl) ?_;refine okT_done (by kernel_rfl) ?_;refine Ze5 1 16 17 18 48 ?_)|(refine Zr 7 ?_;refine Za ?_;refine Ze1 2 ?_)|(refine Zr 8 ?_;refine Zq (by exact ps_add rfl rfl rfl (by omega)) ?_;refine Zm ?_;refine Ze4 1 16 17 18 ?_)|(refine Xd 9 12 ?_;refine Xf 0 ?_;refine Xl 1 0 ?_;refine Xt 2 rfl (ps_len rfl rfl) ?_;refine Xt 3 rfl (ps_int rfl rfl rfl rfl) ?_;refine Xm 4 ?_;refine Xg 5 rfl rfl rfl rfl (gF _) (fun hp => by exact ps_loads rfl rfl (by exact rds_box 0 rfl) rfl rfl (by decide)) ?_;refine Xg 7 rfl rfl rfl rfl (gF _) (fun hp => by exact ps_field rfl rfl (isw_ga _)) ?_;refine Xg 8 rfl rfl rfl rfl (gF _) (fun hp => by (exact ps_load rfl (Og rfl) (by exact Rds.cell (rds_box 0 rfl) rfl))) ?_;refine okT_one_g1 (i := 6) rfl rfl (by kernel_rfl) rfl rfl rfl rfl rfl (gF _) (fun hp => by (exact ms_s1 rfl (Og rfl) (fun _ _ w hw => needOf_c sz A c l w (rds_rf h List.mem_cons_self _ _ w hw) hl))) (fun w h => by exact h) ?_;refine Xg 9 rfl rfl rfl rfl (gF _) (fun hp => by (exact ps_int rfl (Og rfl) (Og rfl) rfl)) ?_;refine Xt 10 rfl (ps_or rfl rfl rfl) ?_;refine Xt 11 rfl (ps_assign rfl rfl) ?_;refine okT_done (by kernel_rfl) ?_;refine Ze1 2 ?_))
  · have e : fSharesOk ⟨sz,l⟩ = false := share_at (k := k) (by simp only;omega) (by unfold shareAt;rw [decide_eq_false_iff_not];simp only [tn1] at hd ⊢;omega)
    exact ok_endL (vs := [_]) rfl ⟨rfl,trivial⟩ (fun w' hw => ⟨by rw [e];simp [retV],hw.below⟩)
  · have e : shareAt l k = true := by unfold shareAt;rw [decide_eq_true_eq];simp only [tn1] at hd ⊢;omega
    refine fun a w' he hw => ⟨⟨k + 1,by omega,fun j hj => by
      rcases Nat.lt_succ_iff_lt_or_eq.1 hj with h' | h'
      · exact HA.out j h'
      · subst h';exact e⟩,by simp only;omega,he.sub ⟨rfl,rfl,rfl,rfl,trivial⟩,hw.drop 1 rfl⟩
  · obtain rfl : k = l.length := by omega
    have e := share_end (s := ⟨sz,l⟩) hok (fun j hj => HA.out j hj)
    refine ok_endL (vs := [_]) rfl ⟨rfl,trivial⟩ (fun w' hw => ⟨?_,hw.below⟩)
    rw [e]
    simp only [retV]
    congr 2
    rw [Bool.eq_iff_iff];simp
theorem s_SharesOk0 (sz : Int) (A : Option Addr) (c : Nat) (l : List Share) (w : World) (h : Rd w A (fl l)) (hl : l.length ≤ 4194304) :
    Calls Tryz.prog 86 #[.agg #[.int .i64 sz,.slice A l.length c]] w fun e w' => e = .returned (.bool (fSharesOk ⟨sz,l⟩)) ∧ Below w.heap.size w w' := by
  refine ok_enter 58 Tryz.func86 rfl rfl rfl ?_
  repeat' (first|refine Wa ?_|refine Wb ?_|refine Wc ?_|refine Wd ?_|(refine ok_cond rfl (fun hc => ?_) (fun hc => ?_) <;> (have hd := hc;try simp only [jj] at hd))|refine Wg ?_|refine Wi ?_|(refine Zr 0 ?_;refine Zn (ms_box rfl rfl rfl) ?_;rintro y1 hy1;refine Za ?_;refine Ze1 1 ?_)|(refine Zr 1 ?_;refine Zf ?_;refine Zl 0 ?_;refine Zn (by exact ms_s3 rfl rfl rfl rfl (fun _ _ w hw => in_s _ _ _ w)) ?_;rintro y7 hy7;refine Zq (ps_not rfl rfl) ?_;refine Zm ?_;refine Zg rfl rfl rfl (gF _) (fun hp => by exact ps_field rfl rfl (isw_ga _)) ?_;refine Zg rfl rfl rfl (gF _) (fun hp => by (exact ps_load rfl (Og rfl) (by exact Rds.cell (rds_box 0 rfl) rfl))) ?_;refine Zg rfl rfl rfl (gF _) (fun hp => by (exact ps_len rfl (Og rfl))) ?_;refine Zg rfl rfl rfl (gF _) (fun hp => by (exact ps_int rfl (Og rfl) rfl rfl)) ?_;refine Zq (ps_or rfl rfl rfl) ?_;refine Ze2 1 14 ?_)|(refine Zr 2 ?_;refine Za ?_;refine Ze1 2 ?_)|(refine Zr 3 ?_;refine Za ?_;refine Ze2 1 3 ?_))
  · have e : fSharesOk ⟨sz,l⟩ = false := share_no (by simp only;omega)
    exact ok_endL (vs := [_]) rfl ⟨rfl,trivial⟩ (fun w' hw => ⟨by rw [e];simp [retV],hw.below⟩)
  have hok : 0 ≤ sz ∧ sz ≤ 1000 ∧ l.length ≤ 4 := by omega
  clear hc hd
  refine ok_loop (ι := { k : Nat // k ≤ l.length ∧ ∀ j,j < k → shareAt l j = true }) (fun k => l.length - k.1) (fun k => ([(1,pt (ga (y1 0).c) 0),(3,.int .i64 k.1)],_,_)) ⟨0,by omega,fun j h => absurd h (Nat.not_lt_zero j)⟩ (fun a w he hw => ⟨⟨0,by omega,fun j h => absurd h (Nat.not_lt_zero j)⟩,he.sub ⟨rfl,rfl,trivial⟩,hw⟩) ?_
  rintro ⟨k,hk,ha⟩
  simp only at hk ha ⊢
  have HA := Lib.hid ha;clear ha
  repeat' (first|refine Wa ?_|refine Wb ?_|refine Wc ?_|refine Wd ?_|refine We ?_|refine Wf ?_|(refine ok_cond rfl (fun hc => ?_) (fun hc => ?_) <;> (have hd := hc;try simp only [jj] at hd))|refine Wg ?_|refine Wh ?_|refine Wi ?_|(refine Zr 4 ?_;refine Zm ?_;refine Zf ?_;refine Zl 0 ?_;refine Zq (ps_len rfl rfl) ?_;refine Zi ?_;refine Ze3 1 3 19 ?_)|(refine Zr 5 ?_;refine Zm ?_;refine Zq (by exact ps_add rfl rfl rfl (by omega)) ?_;refine Za ?_;refine Ze2 1 3 ?_)|(refine Zr 6 ?_;refine Zf ?_;refine Zl 0 ?_;refine Zm ?_;refine Zq (by exact ps_indexN rfl rfl rfl (by omega) (by exact isw_of (isS_fl (by assumption) (by omega)))) ?_;refine Zq (by exact ps_loadsF rfl rfl (by exact rds_rf (by assumption) List.mem_cons_self) (by rfl) (by rfl) (by omega) rfl) ?_;refine Zn (ms_alloc rfl) ?_;rintro y4 hy4;refine Zo (ms_store 0 rfl rfl rfl rfl rfl rfl rfl rfl) ?_;rintro y_ hy_;refine Ze3 1 3 4 ?_)|(refine Xd 7 26 ?_;refine Xf 0 ?_;refine Xl 1 0 ?_;refine Xo 2 rfl (by exact ms_s3 rfl rfl rfl rfl (fun _ _ w hw => in_s _ _ _ w)) (fun y w _ h => by exact h) ?_;rintro y29 hy29;refine Xt 3 rfl (ps_not rfl rfl) ?_;refine Xm 4 ?_;refine Xg 5 rfl rfl rfl rfl (gF _) (fun hp => by exact ps_field rfl rfl (isw_ga _)) ?_;refine Xg 6 rfl rfl rfl rfl (gF _) (fun hp => by (exact ps_load rfl (Og rfl) (by exact Rds.cell (rds_box 0 rfl) rfl))) ?_;refine okT_one_g1 (i := 7) rfl rfl (by kernel_rfl) rfl rfl rfl rfl rfl (gF _) (fun hp => by (exact ms_s3 rfl (Og rfl) rfl rfl (fun _ _ w hw => in_s _ _ _ w))) (fun w h => by exact h) ?_;refine Xg 8 rfl rfl rfl rfl (gF _) (fun hp => by (exact ps_not rfl (Og rfl))) ?_;refine Xt 9 rfl (ps_or rfl rfl rfl) ?_;refine Xm 10 ?_;refine Xg 11 rfl rfl rfl rfl (gF _) (fun hp => by exact ps_move rfl rfl) ?_;refine Xg 12 rfl rfl rfl rfl (gF _) (fun hp => by (exact ps_int rfl (Og rfl) rfl rfl)) ?_;refine Xg 13 rfl rfl rfl rfl (gF _) (fun hp => by (exact ps_move rfl (Og rfl))) ?_;refine Xh 14 rfl rfl rfl rfl (gT _) (fun hq hp hqp => by exact ps_field rfl rfl (isw_ga _)) ?_;refine Xh 15 rfl rfl rfl rfl (gT _) (fun hq hp hqp => by (exact ps_load rfl (Og rfl) (by exact Rds.cell (rds_box 1 rfl) rfl))) ?_;refine Xh 16 rfl rfl rfl rfl (gT _) (fun hq hp hqp => by exact ps_move rfl rfl) ?_;refine Xh 17 rfl rfl rfl rfl (gT _) (fun hq hp hqp => by (have hqd := hq;have hpd := hp;(try simp only [jj] at hqd hpd);exact ps_sub rfl (Og rfl) rfl (by omega))) ?_;refine Xh 18 rfl rfl rfl rfl (gT _) (fun hq hp hqp => by (have hqd := hq;have hpd := hp;(try simp only [jj] at hqd hpd);exact ps_index rfl (Og rfl) (Og rfl) (by omega) (by exact isw_of (isS_fl (by assumption) (by omega))))) ?_;refine Xh 19 rfl rfl rfl rfl (gT _) (fun hq hp hqp => by (have hqd := hq;have hpd := hp;(try simp only [jj] at hqd hpd);exact ps_field rfl (Og rfl) (by exact isw_of (isS_fl (by assumption) (by omega))))) ?_;refine Xh 20 rfl rfl rfl rfl (gT _) (fun hq hp hqp => by (have hqd := hq;have hpd := hp;(try simp only [jj] at hqd hpd);exact ps_load rfl (Og rfl) (by exact Rds.cell (rds_rf (by assumption) List.mem_cons_self) (by exact fl_at0 _ _ (by omega) (by decide))))) ?_;refine Xh 21 rfl rfl rfl rfl (gT _) (fun hq hp hqp => by exact ps_field rfl rfl (isw_ga _)) ?_;refine Xh 22 rfl rfl rfl rfl (gT _) (fun hq hp hqp => by (exact ps_load rfl (Og rfl) (by exact Rds.cell (rds_box 0 rfl) rfl))) ?_;refine Xh 23 rfl rfl rfl rfl (gT _) (fun hq hp hqp => by (exact ps_int rfl (Og rfl) (Og rfl) rfl)) ?_;refine Xg 24 rfl rfl rfl rfl (gF _) (fun hp => by exact ps_and_in (by assumption) rfl rfl rfl) ?_;refine Xt 25 rfl (ps_or rfl rfl rfl) ?_;refine okT_done (by kernel_rfl) ?_;refine Ze3 1 3 52 ?_)|(refine Zr 8 ?_;refine Za ?_;refine Ze1 2 ?_)|(refine Xd 9 6 ?_;refine Xt 0 rfl (by exact ps_loads rfl rfl (by exact rds_box 0 rfl) rfl rfl (by decide)) ?_;refine Xf 2 ?_;refine Xl 3 0 ?_;refine Xo 1 rfl (by exact ms_s1 rfl rfl (fun _ _ w hw => l19All_c sz A c l w (rds_rf h List.mem_cons_self _ _ w hw) hl)) (fun y w _ h => by exact h) ?_;rintro y54 hy54;refine Xt 4 rfl (ps_int rfl rfl rfl rfl) ?_;refine Xt 5 rfl (ps_assign rfl rfl) ?_;refine okT_done (by kernel_rfl) ?_;refine Ze1 2 ?_))
  · have e : fSharesOk ⟨sz,l⟩ = false := share_at (k := k) (by simp only;omega) (by unfold shareAt;rw [decide_eq_false_iff_not];simp only [tn1] at hd ⊢;omega)
    exact ok_endL (vs := [_]) rfl ⟨rfl,trivial⟩ (fun w' hw => ⟨by rw [e];simp [retV],hw.below⟩)
  · have e : shareAt l k = true := by unfold shareAt;rw [decide_eq_true_eq];simp only [tn1] at hd ⊢;omega
    refine fun a w' he hw => ⟨⟨k + 1,by omega,fun j hj => by
      rcases Nat.lt_succ_iff_lt_or_eq.1 hj with h' | h'
      · exact HA.out j h'
      · subst h';exact e⟩,by simp only;omega,he.sub ⟨rfl,rfl,trivial⟩,hw.drop 1 rfl⟩
  · obtain rfl : k = l.length := by omega
    have e := share_end (s := ⟨sz,l⟩) hok (fun j hj => HA.out j hj)
    refine ok_endL (vs := [_]) rfl ⟨rfl,trivial⟩ (fun w' hw => ⟨?_,hw.below⟩)
    rw [e]
    simp only [retV]
    congr 2
    rw [Bool.eq_iff_iff];simp only [decide_eq_true_eq];unfold all19
    split
    · omega
    · obtain rfl : l = [] := List.length_eq_zero_iff.1 (by omega)
      rw [needS_nil];simp;omega
theorem lo_snoc (l : List Ent) (x : Ent) : loS (l ++ [x]) = min (loS l) x.seq := by unfold loS;rw [List.foldl_append];rfl
theorem hi_snoc (l : List Ent) (x : Ent) : hiS (l ++ [x]) = max (hiS l) x.seq := by unfold hiS;rw [List.foldl_append];rfl
theorem lo_step {l : List Ent} {k : Nat} (h : k < l.length) : loS (l.take (k + 1)) = min (loS (l.take k)) (nth l k).seq := by rw [takeG h,lo_snoc]
theorem hi_step {l : List Ent} {k : Nat} (h : k < l.length) : hiS (l.take (k + 1)) = max (hiS (l.take k)) (nth l k).seq := by rw [takeG h,hi_snoc]
theorem seqRange_c (A : Option Addr) (c : Nat) (l : List Ent) (w : World) (h : Rd w A (fl l)) (hl : l.length ≤ 4194304) :
    Calls Tryz.prog 269 #[.slice A l.length c] w fun e w' => e = .returned (.tuple #[.int .i64 (loS l),.int .i64 (hiS l)]) ∧ Below w.heap.size w w' := by
  refine ok_enter 25 Tryz.func269 rfl rfl rfl ?_
  repeat' (first|refine Wa ?_|refine Wb ?_|refine Wd ?_|(refine Zr 0 ?_;refine Za ?_;refine Za ?_;refine Ze1 0 ?_)|(refine Zr 1 ?_;refine Za ?_;refine Za ?_;refine Ze3 0 4 5 ?_)|(refine Zr 2 ?_;refine Zm ?_;refine Zq (ps_len rfl rfl) ?_;refine Zm ?_;refine Ze5 4 5 8 9 10 ?_))
  refine ok_loop (ι := { k : Nat // k ≤ l.length }) (fun k => l.length - k.1) (fun k => ([(4,.int .i64 (loS (l.take k.1))),(5,.int .i64 (hiS (l.take k.1))),(8,.slice A l.length c),(9,.int .i64 l.length),(10,.int .i64 k.1)],_,_)) ⟨0,by omega⟩ (fun a w he hw => ⟨⟨0,by omega⟩,he.sub ⟨rfl,rfl,rfl,rfl,rfl,trivial⟩,hw⟩) ?_
  rintro ⟨k,hk⟩
  simp only at hk ⊢
  repeat' (first|refine Wa ?_|refine Wb ?_|refine Wd ?_|refine We ?_|(refine ok_cond rfl (fun hc => ?_) (fun hc => ?_) <;> (have hd := hc;try simp only [jj] at hd))|refine Wg ?_|refine Wh ?_|refine Wi ?_|(refine Zr 3 ?_;refine Zi ?_;refine Ze6 4 5 8 9 10 11 ?_)|(refine Zr 4 ?_;refine Zq (by exact ps_indexN rfl rfl rfl (by omega) (by exact isw_of (isS_fl (by assumption) (by omega)))) ?_;refine Zq (by exact ps_loadsF rfl rfl (by exact rds_rf (by assumption) List.mem_cons_self) (by rfl) (by rfl) (by omega) rfl) ?_;refine Zn (ms_alloc rfl) ?_;rintro y7 hy7;refine Zo (ms_store 0 rfl rfl rfl rfl rfl rfl rfl rfl) ?_;rintro y_ hy_;refine Ze6 4 5 7 8 9 10 ?_)|(refine Xd 5 10 ?_;refine Xm 0 ?_;refine Xf 1 ?_;refine Xl 2 0 ?_;refine Xt 3 rfl (ps_min rfl rfl rfl) ?_;refine Xm 4 ?_;refine Xf 5 ?_;refine Xl 6 0 ?_;refine Xt 7 rfl (ps_max rfl rfl rfl) ?_;refine Xt 8 rfl (ps_assign rfl rfl) ?_;refine Xt 9 rfl (ps_assign rfl rfl) ?_;refine okT_done (by kernel_rfl) ?_;refine Ze5 4 5 8 9 10 ?_)|(refine Zr 6 ?_;refine Zq (by exact ps_add rfl rfl rfl (by omega)) ?_;refine Zm ?_;refine Ze5 4 5 8 9 10 ?_)|(refine Zr 7 ?_;refine Zm ?_;refine Zm ?_;refine Za ?_;refine Za ?_;refine Ze2 2 3 ?_))
  · refine fun a w' he hw => ⟨⟨k + 1,by omega⟩,by simp only;omega,he.sub ⟨?_,?_,rfl,rfl,rfl,trivial⟩,hw.drop 1 rfl⟩
    · simp only [look];congr 2;rw [lo_step (by omega)];split <;> omega
    · simp only [look];congr 2;rw [hi_step (by omega)];split <;> omega
  · obtain rfl : k = l.length := by omega
    rw [List.take_length]
    exact ok_endL (vs := [_,_]) rfl ⟨rfl,rfl,trivial⟩ (fun w' hw => ⟨rfl,hw.below⟩)
theorem l20Bounds_c (A : Option Addr) (c : Nat) (l : List Ent) (w : World) (h : Rd w A (fl l)) (hl : l.length ≤ 4194304) :
    Calls Tryz.prog 136 #[.slice A l.length c] w fun e w' => e = .returned (.tuple #[.int .i64 (loS l),.int .i64 (hiS l)]) ∧ Below w.heap.size w w' := by
  refine ok_enter 39 Tryz.func136 rfl rfl rfl ?_
  repeat' (first|refine Wa ?_|refine Wb ?_|refine Wd ?_|(refine Zr 0 ?_;refine Za ?_;refine Za ?_;refine Ze1 0 ?_)|(refine Zr 1 ?_;refine Za ?_;refine Ze2 0 4 ?_)|(refine Zr 2 ?_;refine Za ?_;refine Ze3 0 4 5 ?_)|(refine Zr 3 ?_;refine Za ?_;refine Ze4 0 4 5 6 ?_))
  refine ok_loop (ι := { k : Nat // k ≤ l.length }) (fun k => l.length - k.1) (fun k => ([(0,.slice A l.length c),(4,.int .i64 (loS (l.take k.1))),(5,.int .i64 (hiS (l.take k.1))),(6,.int .i64 k.1)],_,_)) ⟨0,by omega⟩ (fun a w he hw => ⟨⟨0,by omega⟩,he.sub ⟨rfl,rfl,rfl,rfl,trivial⟩,hw⟩) ?_
  rintro ⟨k,hk⟩
  simp only at hk ⊢
  have e1 : k < l.length → loS (l.take (k + 1)) = min (loS (l.take k)) (nth l k).seq := fun h => lo_step h
  have e2 : k < l.length → hiS (l.take (k + 1)) = max (hiS (l.take k)) (nth l k).seq := fun h => hi_step h
  repeat' (first|refine Wa ?_|refine Wb ?_|refine Wd ?_|refine We ?_|(refine ok_cond rfl (fun hc => ?_) (fun hc => ?_) <;> (have hd := hc;try simp only [jj] at hd))|refine Wg ?_|refine Wh ?_|refine Wi ?_|(refine Zr 4 ?_;refine Zm ?_;refine Zm ?_;refine Zq (ps_len rfl rfl) ?_;refine Zi ?_;refine Ze5 0 4 5 6 10 ?_)|(refine Zr 5 ?_;refine Zm ?_;refine Zq (by exact ps_add rfl rfl rfl (by omega)) ?_;refine Za ?_;refine Ze4 0 4 5 6 ?_)|(refine Zr 6 ?_;refine Zm ?_;refine Zm ?_;refine Zq (by exact ps_indexN rfl rfl rfl (by omega) (by exact isw_of (isS_fl (by assumption) (by omega)))) ?_;refine Zq (by exact ps_field rfl rfl (by exact isw_of (isS_fl (by assumption) (by omega)))) ?_;refine Zq (by exact ps_load rfl rfl (by exact Rds.cell (rds_rf (by assumption) List.mem_cons_self) (by exact fl_at _ _ _ (by omega) (by decide)))) ?_;refine Zm ?_;refine Zi ?_;refine Ze5 0 4 5 6 19 ?_)|(refine Zr 7 ?_;refine Zm ?_;refine Zm ?_;refine Zq (by exact ps_indexN rfl rfl rfl (by omega) (by exact isw_of (isS_fl (by assumption) (by omega)))) ?_;refine Zq (by exact ps_field rfl rfl (by exact isw_of (isS_fl (by assumption) (by omega)))) ?_;refine Zq (by exact ps_load rfl rfl (by exact Rds.cell (rds_rf (by assumption) List.mem_cons_self) (by exact fl_at _ _ _ (by omega) (by decide)))) ?_;refine Za ?_;refine Ze4 0 4 5 6 ?_)|(refine Zr 8 ?_;refine Zm ?_;refine Zm ?_;refine Zq (by exact ps_indexN rfl rfl rfl (by omega) (by exact isw_of (isS_fl (by assumption) (by omega)))) ?_;refine Zq (by exact ps_field rfl rfl (by exact isw_of (isS_fl (by assumption) (by omega)))) ?_;refine Zq (by exact ps_load rfl rfl (by exact Rds.cell (rds_rf (by assumption) List.mem_cons_self) (by exact fl_at _ _ _ (by omega) (by decide)))) ?_;refine Zm ?_;refine Zi ?_;refine Ze5 0 4 5 6 31 ?_)|(refine Zr 9 ?_;refine Zm ?_;refine Zm ?_;refine Zq (by exact ps_indexN rfl rfl rfl (by omega) (by exact isw_of (isS_fl (by assumption) (by omega)))) ?_;refine Zq (by exact ps_field rfl rfl (by exact isw_of (isS_fl (by assumption) (by omega)))) ?_;refine Zq (by exact ps_load rfl rfl (by exact Rds.cell (rds_rf (by assumption) List.mem_cons_self) (by exact fl_at _ _ _ (by omega) (by decide)))) ?_;refine Za ?_;refine Ze4 0 4 5 6 ?_)|(refine Zr 10 ?_;refine Zm ?_;refine Zm ?_;refine Za ?_;refine Za ?_;refine Ze2 2 3 ?_))
  all_goals first
    | (refine fun a w' he hw => ⟨⟨k + 1,by omega⟩,by simp only;omega,he.sub ⟨rfl,?_,?_,rfl,trivial⟩,hw⟩
       · simp only [look];congr 2;have := e1 (by omega);omega
       · simp only [look];congr 2;have := e2 (by omega);omega)
    | (obtain rfl : k = l.length := by omega
       rw [List.take_length]
       exact ok_endL (vs := [_,_]) rfl ⟨rfl,rfl,trivial⟩ (fun w' hw => ⟨rfl,hw.below⟩))
def memOk (l : List Ent) : Bool := decide (l.length ≤ 60) && inOrd l
theorem i_MemOk (A : Option Addr) (c : Nat) (l : List Ent) (w : World) (h : Rd w A (fl l)) (hl : l.length ≤ 4194304) :
    Calls Tryz.prog 268 #[.slice A l.length c] w fun e w' => e = .returned (.bool (memOk l)) ∧ Below w.heap.size w w' := by
  refine ok_enter 10 Tryz.func268 rfl rfl rfl ?_
  repeat' (first|refine Wa ?_|refine Wb ?_|refine Wg ?_|(refine Zr 0 ?_;refine Za ?_;refine Ze1 0 ?_)|(refine Zr 1 ?_;refine Zm ?_;refine Zq (ps_len rfl rfl) ?_;refine Zi ?_;refine Zm ?_;refine Zg rfl rfl rfl (gT _) (fun hp => by exact ps_move rfl rfl) ?_;refine Zh rfl rfl rfl (gT _) (fun hp => by (exact ms_s1 rfl (Og rfl) (fun _ _ w hw => inOrder_c A c l w (rds_rf h List.mem_cons_self _ _ w hw) hl))) ?_;refine Zq (ps_and rfl rfl rfl) ?_;refine Za ?_;refine Ze1 2 ?_))
  refine ok_endL (vs := [_]) rfl ⟨rfl,trivial⟩ (fun w' hw => ⟨?_,hw.below⟩)
  unfold memOk
  rw [show decide (l.length ≤ 60) = decide ((l.length : Int) ≤ 60) by rw [decide_eq_decide];omega];rfl
theorem s_MemOk (A : Option Addr) (c : Nat) (l : List Ent) (w : World) (h : Rd w A (fl l)) (hl : l.length ≤ 4194304) :
    Calls Tryz.prog 135 #[.slice A l.length c] w fun e w' => e = .returned (.bool (memOk l)) ∧ Below w.heap.size w w' := by
  refine ok_enter 10 Tryz.func135 rfl rfl rfl ?_
  repeat' (first|refine Wa ?_|refine Wb ?_|refine Wg ?_|(refine Zr 0 ?_;refine Za ?_;refine Ze1 0 ?_)|(refine Zr 1 ?_;refine Zm ?_;refine Zq (ps_len rfl rfl) ?_;refine Zi ?_;refine Zm ?_;refine Zg rfl rfl rfl (gT _) (fun hp => by exact ps_move rfl rfl) ?_;refine Zh rfl rfl rfl (gT _) (fun hp => by (exact ms_s1 rfl (Og rfl) (fun _ _ w hw => l9Ents_c A c l w (rds_rf h List.mem_cons_self _ _ w hw) hl))) ?_;refine Zq (ps_and rfl rfl rfl) ?_;refine Za ?_;refine Ze1 2 ?_))
  refine ok_endL (vs := [_]) rfl ⟨rfl,trivial⟩ (fun w' hw => ⟨?_,hw.below⟩)
  unfold memOk
  rw [show decide (l.length ≤ 60) = decide ((l.length : Int) ≤ 60) by rw [decide_eq_decide];omega];rfl
theorem offE_tot (T : List (List Ent)) : offE T T.length = totE T := by
  unfold offE totE;unfold offR;rw [List.take_length]
def tabF (e : DEng) : Bool := decide (e.tabs.length ≤ 6) && decide (totE e.tabs + e.mem.length ≤ 400) && memOk e.mem && decide (hiS e.mem ≤ e.seq) && tabsOk e.seq (loS e.mem) e.tabs
theorem eng_tab (e : DEng) : fEngOk e = (inB e.seq 0 1000000 && decide (e.snaps.length ≤ 4) && tabF e && (List.range e.snaps.length).all (snapAt e.seq e.snaps)) := by
  unfold fEngOk tabF memOk
  rw [Bool.eq_iff_iff]
  simp only [Bool.and_eq_true]
  constructor
  · rintro ⟨⟨⟨⟨⟨⟨⟨g1,g2⟩,g3⟩,g4⟩,g5,g6⟩,g7⟩,g8⟩,g9⟩
    exact ⟨⟨⟨g1,g2⟩,⟨⟨⟨g3,g4⟩,g5,g6⟩,g7⟩,g8⟩,g9⟩
  · rintro ⟨⟨⟨g1,g2⟩,⟨⟨⟨g3,g4⟩,g5,g6⟩,g7⟩,g8⟩,g9⟩
    exact ⟨⟨⟨⟨⟨⟨⟨g1,g2⟩,g3⟩,g4⟩,g5,g6⟩,g7⟩,g8⟩,g9⟩
def lowT (T : List (List Ent)) (lo : Int) (k : Nat) : Int := if k = 0 then lo else loS (T.getD (k - 1) [])
def tabAt (seq : Int) (T : List (List Ent)) (lo : Int) (k : Nat) : Bool := decide (0 < (T.getD k []).length) && inOrd (T.getD k []) && decide (hiS (T.getD k []) < lowT T lo k) && decide (hiS (T.getD k []) ≤ seq)
theorem tabs_all (seq : Int) : ∀ (T : List (List Ent)) (lo : Int),tabsOk seq lo T = (List.range T.length).all (tabAt seq T lo)
  | [],lo => rfl
  | t :: T,lo => by
    unfold tabsOk
    rw [tabs_all seq T (loS t),List.length_cons,List.range_succ_eq_map,List.all_cons,List.all_map]
    have h0 : tabAt seq (t :: T) lo 0 = (decide (0 < t.length) && inOrd t && decide (hiS t < lo) && decide (hiS t ≤ seq)) := rfl
    rw [h0]
    congr 1
    congr 1
    funext k
    show tabAt seq T (loS t) k = tabAt seq (t :: T) lo (k + 1)
    unfold tabAt
    have e1 : (t :: T).getD (k + 1) [] = T.getD k [] := rfl
    have e2 : lowT (t :: T) lo (k + 1) = lowT T (loS t) k := by
      unfold lowT
      rw [if_neg (by omega)]
      cases k with
      | zero => rfl
      | succ k => rw [if_neg (by omega)];rfl
    rw [e1,e2]
theorem dat_getD (R : List LE) (k : Nat) (h : k < R.length) : (dats R).getD k [] = (nth R k).d := by
  unfold dats;rw [List.getD_eq_getElem?_getD,List.getElem?_map,List.getElem?_eq_getElem h,nthL R k h];rfl
theorem lowT_step (R : List LE) (lo : Int) (k : Nat) (h : k < R.length) : lowT (dats R) lo (k + 1) = loS (nth R k).d := by
  unfold lowT;rw [if_neg (by omega),Nat.add_sub_cancel,dat_getD R k h]
theorem tab_no {e : DEng} (h : ¬ (e.tabs.length ≤ 6 ∧ totE e.tabs + e.mem.length ≤ 400 ∧ memOk e.mem = true ∧ hiS e.mem ≤ e.seq)) : tabF e = false := by
  rw [Bool.eq_false_iff];intro he;unfold tabF at he
  simp only [Bool.and_eq_true,decide_eq_true_eq] at he
  exact h ⟨he.1.1.1.1,he.1.1.1.2,he.1.1.2,he.1.2⟩
theorem tab_at {e : DEng} {k : Nat} (hk : k < e.tabs.length) (h : tabAt e.seq e.tabs (loS e.mem) k = false) : tabF e = false := by
  unfold tabF;rw [tabs_all,allR_no hk h,Bool.and_false]
theorem tab_yes {e : DEng} (h : e.tabs.length ≤ 6 ∧ totE e.tabs + e.mem.length ≤ 400 ∧ memOk e.mem = true ∧ hiS e.mem ≤ e.seq) (ha : ∀ k,k < e.tabs.length → tabAt e.seq e.tabs (loS e.mem) k = true) : tabF e = true := by
  unfold tabF;rw [tabs_all,allR_yes ha,decide_eq_true h.1,decide_eq_true h.2.1,h.2.2.1,decide_eq_true h.2.2.2];rfl
theorem tablesOk_c (mA : Option Addr) (mc : Nat) (mem : List Ent) (tA : Option Addr) (tc : Nat) (R : List LE) (seq : Int) (sA : Option Addr) (sc : Nat) (sn : List Int) (w : World) (h1 : Rd w mA (fl mem)) (h2 : RdN w tA R) (hl1 : mem.length ≤ 4194304) (hl2 : R.length ≤ 4194304) (hs : ∀ x ∈ dats R,x.length ≤ 4194304) :
    Calls Tryz.prog 207 #[.agg #[.slice mA mem.length mc,.slice tA R.length tc,.int .i64 seq,.slice sA sn.length sc]] w fun e w' => e = .returned (.bool (tabF ⟨mem,dats R,seq,sn⟩)) ∧ Below w.heap.size w w' := by
  have ho : offE (dats R) R.length ≤ 17592186044416 := offE_le _ (by rw [dats_len];exact hl2) hs _
  have hlk := lens_at hs
  have ht := offE_tot (dats R)
  rw [dats_len] at ht
  have HLK := Lib.hid hlk;clear hlk
  have HS := Lib.hid hs;clear hs
  obtain ⟨h3,h4⟩ := h2
  have h4 : ∀ k,k < R.length → Rd w (nth R k).A (fl (nth R k).d) := h4
  have H4 := Lib.hid h4;clear h4
  refine ok_enter 72 Tryz.func207 rfl rfl rfl ?_
  repeat' (first|refine Wa ?_|refine Wb ?_|refine Wc ?_|refine Wd ?_|(refine ok_cond rfl (fun hc => ?_) (fun hc => ?_) <;> (have hd := hc;try simp only [jj] at hd))|refine Wg ?_|refine Wi ?_|(refine Zr 0 ?_;refine Zn (ms_box rfl rfl rfl) ?_;rintro y1 hy1;refine Za ?_;refine Ze1 1 ?_)|(refine Xd 1 20 ?_;refine Xf 0 ?_;refine Xl 1 0 ?_;refine Xt 2 rfl (ps_len rfl rfl) ?_;refine Xt 3 rfl (ps_int rfl rfl rfl rfl) ?_;refine Xm 4 ?_;refine Xg 5 rfl rfl rfl rfl (gF _) (fun hp => by exact ps_field rfl rfl (isw_ga _)) ?_;refine Xg 6 rfl rfl rfl rfl (gF _) (fun hp => by (exact ps_load rfl (Og rfl) (by exact Rds.cell (rds_box 0 rfl) rfl))) ?_;refine Xg 8 rfl rfl rfl rfl (gF _) (fun hp => by exact ps_field rfl rfl (isw_ga _)) ?_;refine Xg 9 rfl rfl rfl rfl (gF _) (fun hp => by (exact ps_load rfl (Og rfl) (by exact Rds.cell (rds_box 0 rfl) rfl))) ?_;refine Xg 10 rfl rfl rfl rfl (gF _) (fun hp => by (exact ps_len rfl (Og rfl))) ?_;refine okT_one_g1 (i := 7) rfl rfl (by kernel_rfl) rfl rfl rfl rfl rfl (gF _) (fun hp => by (exact ms_s1 rfl (Og rfl) (fun _ _ w hw => totalOf_c tA tc R hl2 HS.out w ⟨rds_rf h3 List.mem_cons_self _ _ w hw,fun k hk => hw.keep (H4.out k hk) List.mem_cons_self⟩))) (fun w h => by exact h) ?_;refine Xg 11 rfl rfl rfl rfl (gF _) (fun hp => by (have hpd := hp;(try simp only [jj] at hpd);exact ps_add rfl (Og rfl) (Og rfl) (by omega))) ?_;refine Xg 12 rfl rfl rfl rfl (gF _) (fun hp => by (exact ps_int rfl (Og rfl) rfl rfl)) ?_;refine Xt 13 rfl (ps_or rfl rfl rfl) ?_;refine Xm 14 ?_;refine Xg 15 rfl rfl rfl rfl (gF _) (fun hp => by exact ps_field rfl rfl (isw_ga _)) ?_;refine Xg 16 rfl rfl rfl rfl (gF _) (fun hp => by (exact ps_load rfl (Og rfl) (by exact Rds.cell (rds_box 0 rfl) rfl))) ?_;refine okT_one_g1 (i := 17) rfl rfl (by kernel_rfl) rfl rfl rfl rfl rfl (gF _) (fun hp => by (exact ms_s1 rfl (Og rfl) (fun _ _ w hw => i_MemOk mA mc mem w (rds_rf h1 List.mem_cons_self _ _ w hw) hl1))) (fun w h => by exact h) ?_;refine Xg 18 rfl rfl rfl rfl (gF _) (fun hp => by (exact ps_not rfl (Og rfl))) ?_;refine Xt 19 rfl (ps_or rfl rfl rfl) ?_;refine okT_done (by kernel_rfl) ?_;refine Ze2 1 28 ?_)|(refine Zr 2 ?_;refine Za ?_;refine Ze1 2 ?_)|(refine Zr 3 ?_;refine Zf ?_;refine Zl 0 ?_;refine Zn (by exact ms_s1 rfl rfl (fun _ _ w hw => seqRange_c mA mc mem w (rds_rf h1 List.mem_cons_self _ _ w hw) hl1)) ?_;rintro y32 hy32;refine Zm ?_;refine Zq (ps_extract rfl rfl rfl) ?_;refine Zq (ps_extract rfl rfl rfl) ?_;refine Za ?_;refine Za ?_;refine Ze3 1 3 4 ?_)|(refine Zr 4 ?_;refine Zm ?_;refine Zf ?_;refine Zl 0 ?_;refine Zi ?_;refine Ze3 1 3 38 ?_)|(refine Zr 5 ?_;refine Za ?_;refine Ze1 2 ?_)|(refine Zr 6 ?_;refine Zf ?_;refine Zl 0 ?_;refine Zq (ps_len rfl rfl) ?_;refine Zm ?_;refine Ze5 1 3 40 41 42 ?_))
  · have e : tabF ⟨mem,dats R,seq,sn⟩ = false := tab_no (by
      rintro ⟨a1,a2,a3,a4⟩
      rw [dats_len] at a1
      simp only at a2 a3
      rw [a3] at hd
      simp at hd
      omega)
    exact ok_endL (vs := [_]) rfl ⟨rfl,trivial⟩ (fun w' hw => ⟨by rw [e];rfl,hw.below⟩)
  · have e : tabF ⟨mem,dats R,seq,sn⟩ = false := tab_no (by
      rintro ⟨a1,a2,a3,a4⟩
      simp only at a4
      omega)
    exact ok_endL (vs := [_]) rfl ⟨rfl,trivial⟩ (fun w' hw => ⟨by rw [e];rfl,hw.below⟩)
  have hok : R.length ≤ 6 ∧ totE (dats R) + mem.length ≤ 400 ∧ memOk mem = true ∧ hiS mem ≤ seq := by
    have hd2 : (¬ 6 < (R.length : Int) ∧ ¬ 400 < (offE (dats R) R.length : Int) + (mem.length : Int)) ∧ memOk mem = true := by assumption
    exact ⟨by omega,by omega,hd2.2,by omega⟩
  clear hc hd
  refine ok_loop (ι := { k : Nat // k ≤ R.length ∧ ∀ j,j < k → tabAt seq (dats R) (loS mem) j = true }) (fun k => R.length - k.1) (fun k => ([(1,pt (ga (y1 0).c) 0),(3,.int .i64 (lowT (dats R) (loS mem) k.1)),(40,.slice tA R.length tc),(41,.int .i64 R.length),(42,.int .i64 k.1)],_,_)) ⟨0,by omega,fun j h => absurd h (Nat.not_lt_zero j)⟩ (fun a w he hw => ⟨⟨0,by omega,fun j h => absurd h (Nat.not_lt_zero j)⟩,he.sub ⟨rfl,rfl,rfl,rfl,rfl,trivial⟩,hw⟩) ?_
  rintro ⟨k,hk,ha⟩
  simp only at hk ha ⊢
  have HA := Lib.hid ha;clear ha
  have hlk : k < R.length → (nth R k).d.length ≤ 4194304 := HLK.out k
  have hI : (In.inn (nth R k).d).length = (nth R k).d.length := rfl
  repeat' (first|refine Wa ?_|refine Wb ?_|refine Wc ?_|refine Wd ?_|refine We ?_|refine Wf ?_|(refine ok_cond rfl (fun hc => ?_) (fun hc => ?_) <;> (have hd := hc;try simp only [jj] at hd))|refine Wg ?_|refine Wh ?_|refine Wi ?_|(refine Zr 7 ?_;refine Zi ?_;refine Ze6 1 3 40 41 42 43 ?_)|(refine Zr 8 ?_;refine Zq (by exact ps_indexN rfl rfl rfl (by omega) (by exact isw_of (isS_fl (by assumption) (by omega)))) ?_;refine Zq (by exact ps_load rfl rfl (by exact Rds.cell (rds_rf (by assumption) List.mem_cons_self) (by exact fl_at0 _ _ (by omega) (by decide)))) ?_;refine Za ?_;refine Ze6 1 3 6 40 41 42 ?_)|(refine Zr 9 ?_;refine Zm ?_;refine Zn (by exact ms_s1 rfl rfl (fun _ _ w hw => seqRange_c (nth R k).A (nth R k).c (nth R k).d w (hw.keep (H4.out k (by omega)) List.mem_cons_self) (hlk (by omega)))) ?_;rintro y48 hy48;refine Zm ?_;refine Zq (ps_extract rfl rfl rfl) ?_;refine Zq (ps_extract rfl rfl rfl) ?_;refine Za ?_;refine Za ?_;refine Ze8 1 3 6 7 8 40 41 42 ?_)|(refine Zr 10 ?_;refine Zm ?_;refine Zq (ps_len rfl rfl) ?_;refine Zi ?_;refine Zm ?_;refine Zg rfl rfl rfl (gF _) (fun hp => by exact ps_move rfl rfl) ?_;refine Zh rfl rfl rfl (gF _) (fun hp => by (have hpd := hp;(try simp only [jj] at hpd);exact ms_s1 rfl (Og rfl) (fun _ _ w hw => inOrder_c (nth R k).A (nth R k).c (nth R k).d w (hw.keep (H4.out k (by omega)) List.mem_cons_self) (hlk (by omega))))) ?_;refine Zg rfl rfl rfl (gF _) (fun hp => by (exact ps_not rfl (Og rfl))) ?_;refine Zq (ps_or rfl rfl rfl) ?_;refine Zm ?_;refine Zg rfl rfl rfl (gF _) (fun hp => by exact ps_move rfl rfl) ?_;refine Zg rfl rfl rfl (gF _) (fun hp => by exact ps_move rfl rfl) ?_;refine Zg rfl rfl rfl (gF _) (fun hp => by (exact ps_int rfl (Og rfl) (Og rfl) rfl)) ?_;refine Zq (ps_or rfl rfl rfl) ?_;refine Zm ?_;refine Zg rfl rfl rfl (gF _) (fun hp => by exact ps_move rfl rfl) ?_;refine Zg rfl rfl rfl (gF _) (fun hp => by exact ps_field rfl rfl (isw_ga _)) ?_;refine Zg rfl rfl rfl (gF _) (fun hp => by (exact ps_load rfl (Og rfl) (by exact Rds.cell (rds_box 0 rfl) rfl))) ?_;refine Zg rfl rfl rfl (gF _) (fun hp => by (exact ps_int rfl (Og rfl) (Og rfl) rfl)) ?_;refine Zq (ps_or rfl rfl rfl) ?_;refine Ze6 1 7 40 41 42 69 ?_)|(refine Zr 11 ?_;refine Za ?_;refine Ze1 2 ?_)|(refine Zr 12 ?_;refine Zm ?_;refine Za ?_;refine Ze5 1 3 40 41 42 ?_)|(refine Zr 13 ?_;refine Zq (by exact ps_add rfl rfl rfl (by omega)) ?_;refine Zm ?_;refine Ze5 1 3 40 41 42 ?_)|(refine Zr 14 ?_;refine Za ?_;refine Ze1 2 ?_))
  · have e0 : tabAt seq (dats R) (loS mem) k = false := by
      rw [Bool.eq_false_iff];intro he;unfold tabAt at he;rw [dat_getD R k (by omega)] at he
      simp only [Bool.and_eq_true,decide_eq_true_eq] at he
      obtain ⟨⟨⟨a1,a2⟩,a3⟩,a4⟩ := he
      rw [a2] at hd
      simp only [Bool.true_eq_false,or_false] at hd
      omega
    have e : tabF ⟨mem,dats R,seq,sn⟩ = false := tab_at (k := k) (by simp only [dats_len];omega) e0
    exact ok_endL (vs := [_]) rfl ⟨rfl,trivial⟩ (fun w' hw => ⟨by rw [e];rfl,hw.below⟩)
  · have e0 : tabAt seq (dats R) (loS mem) k = true := by
      have hq : inOrd (nth R k).d = true := by
        cases hq : inOrd (nth R k).d with
        | true => rfl
        | false => rw [hq] at hd;simp at hd
      unfold tabAt;rw [dat_getD R k (by omega),hq]
      rw [hq] at hd
      simp only [and_true] at hd
      simp only [Bool.and_eq_true,decide_eq_true_eq]
      exact ⟨⟨⟨by omega,trivial⟩,by omega⟩,by omega⟩
    refine fun a w' he hw => ⟨⟨k + 1,by omega,fun j hj => by
      rcases Nat.lt_succ_iff_lt_or_eq.1 hj with h' | h'
      · exact HA.out j h'
      · subst h';exact e0⟩,by simp only;omega,he.sub ⟨rfl,?_,rfl,rfl,rfl,trivial⟩,hw⟩
    simp only [look];congr 2;rw [lowT_step R _ k (by omega)]
  · obtain rfl : k = R.length := by omega
    have e : tabF ⟨mem,dats R,seq,sn⟩ = true := tab_yes (by simp only [dats_len];exact hok) (fun j hj => HA.out j (by simpa [dats_len] using hj))
    exact ok_endL (vs := [_]) rfl ⟨rfl,trivial⟩ (fun w' hw => ⟨by rw [e];rfl,hw.below⟩)
theorem eng_yes {e : DEng} (h : 0 ≤ e.seq ∧ e.seq ≤ 1000000 ∧ e.snaps.length ≤ 4 ∧ tabF e = true) (ha : ∀ k,k < e.snaps.length → snapAt e.seq e.snaps k = true) : fEngOk e = true := by
  rw [eng_tab,allR_yes ha,decide_eq_true h.2.2.1,h.2.2.2,show inB e.seq 0 1000000 = true by rw [inB_true];omega];rfl
theorem eng_no {e : DEng} (h : ¬ (0 ≤ e.seq ∧ e.seq ≤ 1000000 ∧ e.snaps.length ≤ 4 ∧ tabF e = true)) : fEngOk e = false := by
  rw [Bool.eq_false_iff];intro he;rw [eng_tab] at he
  simp only [Bool.and_eq_true,decide_eq_true_eq,inB_true] at he
  exact h ⟨he.1.1.1.1,he.1.1.1.2,he.1.1.2,he.1.2⟩
theorem eng_at {e : DEng} {k : Nat} (hk : k < e.snaps.length) (h : snapAt e.seq e.snaps k = false) : fEngOk e = false := by
  rw [eng_tab,allR_no hk h,Bool.and_false]
theorem i_EngOk0 (mA : Option Addr) (mc : Nat) (mem : List Ent) (tA : Option Addr) (tc : Nat) (R : List LE) (seq : Int) (sA : Option Addr) (sc : Nat) (sn : List Int) (w : World) (h1 : Rd w mA (fl mem)) (h2 : RdN w tA R) (h3 : Rd w sA (fl sn)) (hl1 : mem.length ≤ 4194304) (hl2 : R.length ≤ 4194304) (hs : ∀ x ∈ dats R,x.length ≤ 4194304) (hl3 : sn.length ≤ 4194304) :
    Calls Tryz.prog 147 #[.agg #[.slice mA mem.length mc,.slice tA R.length tc,.int .i64 seq,.slice sA sn.length sc]] w fun e w' => e = .returned (.bool (fEngOk ⟨mem,dats R,seq,sn⟩)) ∧ Below w.heap.size w w' := by
  have HS := Lib.hid hs;clear hs
  have H2 := Lib.hid h2;clear h2
  refine ok_enter 48 Tryz.func147 rfl rfl rfl ?_
  repeat' (first|refine Wa ?_|refine Wb ?_|refine Wc ?_|refine Wd ?_|(refine ok_cond rfl (fun hc => ?_) (fun hc => ?_) <;> (have hd := hc;try simp only [jj] at hd))|refine Wg ?_|refine Wi ?_|(refine Zr 0 ?_;refine Zn (ms_box rfl rfl rfl) ?_;rintro y1 hy1;refine Za ?_;refine Ze1 1 ?_)|(refine Zr 1 ?_;refine Zf ?_;refine Zl 0 ?_;refine Zn (by exact ms_s1 rfl rfl (fun _ _ w hw => isNum_c _ w)) ?_;rintro y7 hy7;refine Zq (ps_not rfl rfl) ?_;refine Zm ?_;refine Zg rfl rfl rfl (gF _) (fun hp => by exact ps_field rfl rfl (isw_ga _)) ?_;refine Zg rfl rfl rfl (gF _) (fun hp => by (exact ps_load rfl (Og rfl) (by exact Rds.cell (rds_box 0 rfl) rfl))) ?_;refine Zg rfl rfl rfl (gF _) (fun hp => by (exact ps_len rfl (Og rfl))) ?_;refine Zg rfl rfl rfl (gF _) (fun hp => by (exact ps_int rfl (Og rfl) rfl rfl)) ?_;refine Zq (ps_or rfl rfl rfl) ?_;refine Zm ?_;refine Zg rfl rfl rfl (gF _) (fun hp => by exact ps_loads rfl rfl (by exact rds_box 0 rfl) rfl rfl (by decide)) ?_;refine Zh rfl rfl rfl (gF _) (fun hp => by (exact ms_s1 rfl (Og rfl) (fun _ _ w hw => tablesOk_c mA mc mem tA tc R seq sA sc sn w (rds_rf h1 List.mem_cons_self _ _ w hw) (RdN.keep hw H2.out List.mem_cons_self) hl1 hl2 HS.out))) ?_;refine Zg rfl rfl rfl (gF _) (fun hp => by (exact ps_not rfl (Og rfl))) ?_;refine Zq (ps_or rfl rfl rfl) ?_;refine Ze2 1 19 ?_)|(refine Zr 2 ?_;refine Za ?_;refine Ze1 2 ?_)|(refine Zr 3 ?_;refine Zf ?_;refine Zl 0 ?_;refine Zq (ps_len rfl rfl) ?_;refine Zm ?_;refine Ze4 1 21 22 23 ?_))
  · have e : fEngOk ⟨mem,dats R,seq,sn⟩ = false := eng_no (by
      rintro ⟨a1,a2,a3,a4⟩
      simp only at a1 a2 a3
      rw [a4] at hd
      simp at hd
      omega)
    exact ok_endL (vs := [_]) rfl ⟨rfl,trivial⟩ (fun w' hw => ⟨by rw [e];rfl,hw.below⟩)
  have hok : 0 ≤ seq ∧ seq ≤ 1000000 ∧ sn.length ≤ 4 ∧ tabF ⟨mem,dats R,seq,sn⟩ = true := by
    have hq : tabF ⟨mem,dats R,seq,sn⟩ = true := by
      cases hq : tabF ⟨mem,dats R,seq,sn⟩ with
      | true => rfl
      | false => rw [hq] at hd;simp at hd
    rw [hq] at hd
    simp at hd
    exact ⟨by omega,by omega,by omega,hq⟩
  clear hc hd
  refine ok_loop (ι := { k : Nat // k ≤ sn.length ∧ ∀ j,j < k → snapAt seq sn j = true }) (fun k => sn.length - k.1) (fun k => ([(1,pt (ga (y1 0).c) 0),(21,.slice sA sn.length sc),(22,.int .i64 sn.length),(23,.int .i64 k.1)],_,_)) ⟨0,by omega,fun j h => absurd h (Nat.not_lt_zero j)⟩ (fun a w he hw => ⟨⟨0,by omega,fun j h => absurd h (Nat.not_lt_zero j)⟩,he.sub ⟨rfl,rfl,rfl,rfl,trivial⟩,hw⟩) ?_
  rintro ⟨k,hk,ha⟩
  simp only at hk ha ⊢
  have HA := Lib.hid ha;clear ha
  repeat' (first|refine Wa ?_|refine Wb ?_|refine Wc ?_|refine Wd ?_|refine We ?_|refine Wf ?_|(refine ok_cond rfl (fun hc => ?_) (fun hc => ?_) <;> (have hd := hc;try simp only [jj] at hd))|refine Wg ?_|refine Wh ?_|refine Wi ?_|(refine Zr 4 ?_;refine Zi ?_;refine Ze5 1 21 22 23 24 ?_)|(refine Zr 5 ?_;refine Zm ?_;refine Zq (by exact ps_indexN rfl rfl rfl (by omega) (by exact isw_of (isS_fl (by assumption) (by omega)))) ?_;refine Zq (by exact ps_load rfl rfl (by exact Rds.cell (rds_rf (by assumption) List.mem_cons_self) (by exact fl_at0 _ _ (by omega) (by decide)))) ?_;refine Za ?_;refine Za ?_;refine Ze6 1 3 4 21 22 23 ?_)|(refine Zr 6 ?_;refine Zm ?_;refine Zf ?_;refine Zl 0 ?_;refine Zn (by exact ms_s3 rfl rfl rfl rfl (fun _ _ w hw => in_i _ _ _ w)) ?_;rintro y31 hy31;refine Zq (ps_not rfl rfl) ?_;refine Zm ?_;refine Zg rfl rfl rfl (gF _) (fun hp => by exact ps_move rfl rfl) ?_;refine Zg rfl rfl rfl (gF _) (fun hp => by (exact ps_int rfl (Og rfl) rfl rfl)) ?_;refine Zg rfl rfl rfl (gF _) (fun hp => by (exact ps_move rfl (Og rfl))) ?_;refine ok_pgg rfl rfl rfl rfl rfl (gT _) (fun hq hp hqp => by exact ps_move rfl rfl) ?_;refine ok_pgg rfl rfl rfl rfl rfl (gT _) (fun hq hp hqp => by exact ps_field rfl rfl (isw_ga _)) ?_;refine ok_pgg rfl rfl rfl rfl rfl (gT _) (fun hq hp hqp => by (exact ps_load rfl (Og rfl) (by exact Rds.cell (rds_box 0 rfl) rfl))) ?_;refine ok_pgg rfl rfl rfl rfl rfl (gT _) (fun hq hp hqp => by exact ps_move rfl rfl) ?_;refine ok_pgg rfl rfl rfl rfl rfl (gT _) (fun hq hp hqp => by (have hqd := hq;have hpd := hp;(try simp only [jj] at hqd hpd);exact ps_sub rfl (Og rfl) rfl (by omega))) ?_;refine ok_pgg rfl rfl rfl rfl rfl (gT _) (fun hq hp hqp => by (have hqd := hq;have hpd := hp;(try simp only [jj] at hqd hpd);exact ps_index rfl (Og rfl) (Og rfl) (by omega) (by exact isw_of (isS_fl (by assumption) (by omega))))) ?_;refine ok_pgg rfl rfl rfl rfl rfl (gT _) (fun hq hp hqp => by (have hqd := hq;have hpd := hp;(try simp only [jj] at hqd hpd);exact ps_load rfl (Og rfl) (by exact Rds.cell (rds_rf (by assumption) List.mem_cons_self) (by exact fl_at0 _ _ (by omega) (by decide))))) ?_;refine ok_pgg rfl rfl rfl rfl rfl (gT _) (fun hq hp hqp => by (exact ps_int rfl (Og rfl) (Og rfl) rfl)) ?_;refine Zg rfl rfl rfl (gF _) (fun hp => by exact ps_and_in (by assumption) rfl rfl rfl) ?_;refine Zq (ps_or rfl rfl rfl) ?_;refine Ze5 1 21 22 23 46 ?_)|(refine Zr 7 ?_;refine Za ?_;refine Ze1 2 ?_)|(refine Zr 8 ?_;refine Zq (by exact ps_add rfl rfl rfl (by omega)) ?_;refine Zm ?_;refine Ze4 1 21 22 23 ?_)|(refine Zr 9 ?_;refine Za ?_;refine Ze1 2 ?_))
  · have e : fEngOk ⟨mem,dats R,seq,sn⟩ = false := eng_at (k := k) (by simp only;omega) (by unfold snapAt;rw [decide_eq_false_iff_not];simp only [tn1] at hd ⊢;omega)
    exact ok_endL (vs := [_]) rfl ⟨rfl,trivial⟩ (fun w' hw => ⟨by rw [e];rfl,hw.below⟩)
  · have e : snapAt seq sn k = true := by unfold snapAt;rw [decide_eq_true_eq];simp only [tn1] at hd ⊢;omega
    refine fun a w' he hw => ⟨⟨k + 1,by omega,fun j hj => by
      rcases Nat.lt_succ_iff_lt_or_eq.1 hj with h' | h'
      · exact HA.out j h'
      · subst h';exact e⟩,by simp only;omega,he.sub ⟨rfl,rfl,rfl,rfl,trivial⟩,hw⟩
  · obtain rfl : k = sn.length := by omega
    have e : fEngOk ⟨mem,dats R,seq,sn⟩ = true := eng_yes hok (fun j hj => HA.out j hj)
    exact ok_endL (vs := [_]) rfl ⟨rfl,trivial⟩ (fun w' hw => ⟨by rw [e];rfl,hw.below⟩)
theorem eng_end {e : DEng} (h : memOk e.mem = true ∧ e.tabs.length ≤ 6 ∧ 0 ≤ e.seq ∧ e.seq ≤ 1000000 ∧ e.snaps.length ≤ 4 ∧ hiS e.mem ≤ e.seq) (ht : ∀ k,k < e.tabs.length → tabAt e.seq e.tabs (loS e.mem) k = true) (ha : ∀ k,k < e.snaps.length → snapAt e.seq e.snaps k = true) : fEngOk e = decide (totE e.tabs + e.mem.length ≤ 400) := by
  rw [eng_tab,allR_yes ha,decide_eq_true h.2.2.2.2.1,show inB e.seq 0 1000000 = true by rw [inB_true];omega]
  unfold tabF
  rw [tabs_all,allR_yes ht,decide_eq_true h.2.1,h.1,decide_eq_true h.2.2.2.2.2]
  simp
theorem eng_tno {e : DEng} {k : Nat} (hk : k < e.tabs.length) (h : tabAt e.seq e.tabs (loS e.mem) k = false) : fEngOk e = false := eng_no (fun hh => by rw [tab_at hk h] at hh;exact absurd hh.2.2.2 (by decide))
theorem s_EngOk0 (mA : Option Addr) (mc : Nat) (mem : List Ent) (tA : Option Addr) (tc : Nat) (R : List LE) (seq : Int) (sA : Option Addr) (sc : Nat) (sn : List Int) (w : World) (h1 : Rd w mA (fl mem)) (h2 : RdN w tA R) (h3 : Rd w sA (fl sn)) (hl1 : mem.length ≤ 4194304) (hl2 : R.length ≤ 4194304) (hs : ∀ x ∈ dats R,x.length ≤ 4194304) (hl3 : sn.length ≤ 4194304) :
    Calls Tryz.prog 87 #[.agg #[.slice mA mem.length mc,.slice tA R.length tc,.int .i64 seq,.slice sA sn.length sc]] w fun e w' => e = .returned (.bool (fEngOk ⟨mem,dats R,seq,sn⟩)) ∧ Below w.heap.size w w' := by
  have ho : ∀ k,offE (dats R) k ≤ 17592186044416 := offE_le _ (by rw [dats_len];exact hl2) hs
  have hlk := lens_at hs
  have ht := offE_tot (dats R)
  rw [dats_len] at ht
  have HLK := Lib.hid hlk;clear hlk
  have HO := Lib.hid ho;clear ho
  clear hs
  obtain ⟨h5,h4⟩ := h2
  have h4 : ∀ k,k < R.length → Rd w (nth R k).A (fl (nth R k).d) := h4
  have H4 := Lib.hid h4;clear h4
  refine ok_enter 123 Tryz.func87 rfl rfl rfl ?_
  repeat' (first|refine Wa ?_|refine Wb ?_|refine Wc ?_|refine Wd ?_|(refine ok_cond rfl (fun hc => ?_) (fun hc => ?_) <;> (have hd := hc;try simp only [jj] at hd))|refine Wg ?_|refine Wi ?_|(refine Zr 0 ?_;refine Zn (ms_box rfl rfl rfl) ?_;rintro y1 hy1;refine Za ?_;refine Ze1 1 ?_)|(refine Zr 1 ?_;refine Zf ?_;refine Zl 0 ?_;refine Zn (by exact ms_s1 rfl rfl (fun _ _ w hw => s_MemOk mA mc mem w (rds_rf h1 List.mem_cons_self _ _ w hw) hl1)) ?_;rintro y13 hy13;refine Zq (ps_not rfl rfl) ?_;refine Zm ?_;refine Zg rfl rfl rfl (gF _) (fun hp => by exact ps_field rfl rfl (isw_ga _)) ?_;refine Zg rfl rfl rfl (gF _) (fun hp => by (exact ps_load rfl (Og rfl) (by exact Rds.cell (rds_box 0 rfl) rfl))) ?_;refine Zg rfl rfl rfl (gF _) (fun hp => by (exact ps_len rfl (Og rfl))) ?_;refine Zg rfl rfl rfl (gF _) (fun hp => by (exact ps_int rfl (Og rfl) rfl rfl)) ?_;refine Zq (ps_or rfl rfl rfl) ?_;refine Zm ?_;refine Zg rfl rfl rfl (gF _) (fun hp => by exact ps_field rfl rfl (isw_ga _)) ?_;refine Zg rfl rfl rfl (gF _) (fun hp => by (exact ps_load rfl (Og rfl) (by exact Rds.cell (rds_box 0 rfl) rfl))) ?_;refine Zh rfl rfl rfl (gF _) (fun hp => by (exact ms_s3 rfl (Og rfl) rfl rfl (fun _ _ w hw => in_s _ _ _ w))) ?_;refine Zg rfl rfl rfl (gF _) (fun hp => by (exact ps_not rfl (Og rfl))) ?_;refine Zq (ps_or rfl rfl rfl) ?_;refine Zm ?_;refine Zg rfl rfl rfl (gF _) (fun hp => by exact ps_field rfl rfl (isw_ga _)) ?_;refine Zg rfl rfl rfl (gF _) (fun hp => by (exact ps_load rfl (Og rfl) (by exact Rds.cell (rds_box 0 rfl) rfl))) ?_;refine Zg rfl rfl rfl (gF _) (fun hp => by (exact ps_len rfl (Og rfl))) ?_;refine Zg rfl rfl rfl (gF _) (fun hp => by (exact ps_int rfl (Og rfl) rfl rfl)) ?_;refine Zq (ps_or rfl rfl rfl) ?_;refine Ze2 1 32 ?_)|(refine Zr 2 ?_;refine Za ?_;refine Ze1 2 ?_)|(refine Zr 3 ?_;refine Zf ?_;refine Zl 0 ?_;refine Zn (by exact ms_s1 rfl rfl (fun _ _ w hw => l20Bounds_c mA mc mem w (rds_rf h1 List.mem_cons_self _ _ w hw) hl1)) ?_;rintro y36 hy36;refine Zm ?_;refine Zq (ps_extract rfl rfl rfl) ?_;refine Zq (ps_extract rfl rfl rfl) ?_;refine Za ?_;refine Za ?_;refine Ze3 1 3 4 ?_)|(refine Zr 4 ?_;refine Zm ?_;refine Zf ?_;refine Zl 0 ?_;refine Zi ?_;refine Ze3 1 3 42 ?_)|(refine Zr 5 ?_;refine Za ?_;refine Ze1 2 ?_)|(refine Zr 6 ?_;refine Zf ?_;refine Zl 0 ?_;refine Zq (ps_len rfl rfl) ?_;refine Za ?_;refine Ze3 1 3 5 ?_)|(refine Zr 7 ?_;refine Za ?_;refine Ze4 1 3 5 6 ?_))
  · have e : fEngOk ⟨mem,dats R,seq,sn⟩ = false := eng_no (by
      rintro ⟨a1,a2,a3,a4⟩
      unfold tabF at a4
      simp only [Bool.and_eq_true,decide_eq_true_eq,dats_len] at a1 a2 a3 a4
      rw [a4.1.1.2] at hd
      simp at hd
      omega)
    exact ok_endL (vs := [_]) rfl ⟨rfl,trivial⟩ (fun w' hw => ⟨by rw [e];rfl,hw.below⟩)
  · have e : fEngOk ⟨mem,dats R,seq,sn⟩ = false := eng_no (by
      rintro ⟨a1,a2,a3,a4⟩
      unfold tabF at a4
      simp only [Bool.and_eq_true,decide_eq_true_eq,dats_len] at a4
      omega)
    exact ok_endL (vs := [_]) rfl ⟨rfl,trivial⟩ (fun w' hw => ⟨by rw [e];rfl,hw.below⟩)
  have hok : memOk mem = true ∧ R.length ≤ 6 ∧ 0 ≤ seq ∧ seq ≤ 1000000 ∧ sn.length ≤ 4 ∧ hiS mem ≤ seq := by
    have hd2 : ((memOk mem = true ∧ ¬ 6 < (R.length : Int)) ∧ 0 ≤ seq ∧ seq ≤ 1000000) ∧ ¬ 4 < (sn.length : Int) := by assumption
    exact ⟨hd2.1.1.1,by omega,by omega,by omega,by omega,by omega⟩
  clear hc hd
  refine ok_loop (ι := { k : Nat // k ≤ R.length ∧ ∀ j,j < k → tabAt seq (dats R) (loS mem) j = true }) (fun k => R.length - k.1) (fun k => ([(1,pt (ga (y1 0).c) 0),(3,.int .i64 (lowT (dats R) (loS mem) k.1)),(5,.int .i64 ((mem.length : Int) + (offE (dats R) k.1 : Int))),(6,.int .i64 k.1)],_,_)) ⟨0,by omega,fun j h => absurd h (Nat.not_lt_zero j)⟩ (fun a w he hw => ⟨⟨0,by omega,fun j h => absurd h (Nat.not_lt_zero j)⟩,he.sub ⟨rfl,rfl,by simp [look,offE,offR],rfl,trivial⟩,hw⟩) ?_
  rintro ⟨k,hk,ha⟩
  simp only at hk ha ⊢
  have HA := Lib.hid ha;clear ha
  have hlk : k < R.length → (nth R k).d.length ≤ 4194304 := HLK.out k
  have hI : (In.inn (nth R k).d).length = (nth R k).d.length := rfl
  have hofk := HO.out k
  repeat' (first|refine Wa ?_|refine Wb ?_|refine Wc ?_|refine Wd ?_|refine We ?_|refine Wf ?_|(refine ok_cond rfl (fun hc => ?_) (fun hc => ?_) <;> (have hd := hc;try simp only [jj] at hd))|refine Wg ?_|refine Wh ?_|refine Wi ?_|(refine Zr 8 ?_;refine Zm ?_;refine Zf ?_;refine Zl 0 ?_;refine Zq (ps_len rfl rfl) ?_;refine Zi ?_;refine Ze5 1 3 5 6 50 ?_)|(refine Zr 9 ?_;refine Zm ?_;refine Zq (by exact ps_add rfl rfl rfl (by omega)) ?_;refine Za ?_;refine Ze4 1 3 5 6 ?_)|(refine Zr 10 ?_;refine Zf ?_;refine Zl 0 ?_;refine Zm ?_;refine Zq (by exact ps_indexN rfl rfl rfl (by omega) (by exact isw_of (isS_fl (by assumption) (by omega)))) ?_;refine Zq (by exact ps_load rfl rfl (by exact Rds.cell (rds_rf (by assumption) List.mem_cons_self) (by exact fl_at0 _ _ (by omega) (by decide)))) ?_;refine Za ?_;refine Ze5 1 3 5 6 7 ?_)|(refine Zr 11 ?_;refine Zm ?_;refine Zn (by exact ms_s1 rfl rfl (fun _ _ w hw => l20Bounds_c (nth R k).A (nth R k).c (nth R k).d w (hw.keep (H4.out k (by omega)) List.mem_cons_self) (hlk (by omega)))) ?_;rintro y60 hy60;refine Zm ?_;refine Zq (ps_extract rfl rfl rfl) ?_;refine Zq (ps_extract rfl rfl rfl) ?_;refine Za ?_;refine Za ?_;refine Ze7 1 3 5 6 7 8 9 ?_)|(refine Zr 12 ?_;refine Zm ?_;refine Zq (ps_len rfl rfl) ?_;refine Zi ?_;refine Zm ?_;refine Zg rfl rfl rfl (gF _) (fun hp => by exact ps_move rfl rfl) ?_;refine Zh rfl rfl rfl (gF _) (fun hp => by (have hpd := hp;(try simp only [jj] at hpd);exact ms_s1 rfl (Og rfl) (fun _ _ w hw => l9Ents_c (nth R k).A (nth R k).c (nth R k).d w (hw.keep (H4.out k (by omega)) List.mem_cons_self) (hlk (by omega))))) ?_;refine Zg rfl rfl rfl (gF _) (fun hp => by (exact ps_not rfl (Og rfl))) ?_;refine Zq (ps_or rfl rfl rfl) ?_;refine Zm ?_;refine Zg rfl rfl rfl (gF _) (fun hp => by exact ps_move rfl rfl) ?_;refine Zg rfl rfl rfl (gF _) (fun hp => by exact ps_move rfl rfl) ?_;refine Zg rfl rfl rfl (gF _) (fun hp => by (exact ps_int rfl (Og rfl) (Og rfl) rfl)) ?_;refine Zq (ps_or rfl rfl rfl) ?_;refine Zm ?_;refine Zg rfl rfl rfl (gF _) (fun hp => by exact ps_move rfl rfl) ?_;refine Zg rfl rfl rfl (gF _) (fun hp => by exact ps_field rfl rfl (isw_ga _)) ?_;refine Zg rfl rfl rfl (gF _) (fun hp => by (exact ps_load rfl (Og rfl) (by exact Rds.cell (rds_box 0 rfl) rfl))) ?_;refine Zg rfl rfl rfl (gF _) (fun hp => by (exact ps_int rfl (Og rfl) (Og rfl) rfl)) ?_;refine Zq (ps_or rfl rfl rfl) ?_;refine Ze6 1 5 6 7 8 81 ?_)|(refine Zr 13 ?_;refine Za ?_;refine Ze1 2 ?_)|(refine Zr 14 ?_;refine Zm ?_;refine Za ?_;refine Ze5 1 3 5 6 7 ?_)|(refine Zr 15 ?_;refine Zm ?_;refine Zm ?_;refine Zq (ps_len rfl rfl) ?_;refine Zq (by exact ps_add rfl rfl rfl (by have := hlk (by omega);omega)) ?_;refine Za ?_;refine Ze4 1 3 5 6 ?_)|(refine Zr 16 ?_;refine Za ?_;refine Ze3 1 5 10 ?_))
  · have e0 : tabAt seq (dats R) (loS mem) k = false := by
      rw [Bool.eq_false_iff];intro he;unfold tabAt at he;rw [dat_getD R k (by omega)] at he
      simp only [Bool.and_eq_true,decide_eq_true_eq] at he
      obtain ⟨⟨⟨a1,a2⟩,a3⟩,a4⟩ := he
      rw [a2] at hd
      simp only [Bool.true_eq_false,or_false] at hd
      omega
    have e : fEngOk ⟨mem,dats R,seq,sn⟩ = false := eng_tno (k := k) (by simp only [dats_len];omega) e0
    exact ok_endL (vs := [_]) rfl ⟨rfl,trivial⟩ (fun w' hw => ⟨by rw [e];rfl,hw.below⟩)
  · have e0 : tabAt seq (dats R) (loS mem) k = true := by
      have hq : inOrd (nth R k).d = true := by
        cases hq : inOrd (nth R k).d with
        | true => rfl
        | false => rw [hq] at hd;simp at hd
      unfold tabAt;rw [dat_getD R k (by omega),hq]
      rw [hq] at hd
      simp only [and_true] at hd
      simp only [Bool.and_eq_true,decide_eq_true_eq]
      exact ⟨⟨⟨by omega,trivial⟩,by omega⟩,by omega⟩
    refine fun a w' he hw => ⟨⟨k + 1,by omega,fun j hj => by
      rcases Nat.lt_succ_iff_lt_or_eq.1 hj with h' | h'
      · exact HA.out j h'
      · subst h';exact e0⟩,by simp only;omega,he.sub ⟨rfl,?_,?_,rfl,trivial⟩,hw⟩
    · simp only [look];congr 2;rw [lowT_step R _ k (by omega)]
    · simp only [look];congr 2;rw [offE_succ R k (by omega)];omega
  · obtain rfl : k = R.length := by omega
    clear hc hd hlk hI
    refine ok_loop (ι := { k : Nat // k ≤ sn.length ∧ ∀ j,j < k → snapAt seq sn j = true }) (fun k => sn.length - k.1) (fun k => ([(1,pt (ga (y1 0).c) 0),(5,.int .i64 ((mem.length : Int) + (offE (dats R) R.length : Int))),(10,.int .i64 k.1)],_,_)) ⟨0,by omega,fun j h => absurd h (Nat.not_lt_zero j)⟩ (fun a w he hw => ⟨⟨0,by omega,fun j h => absurd h (Nat.not_lt_zero j)⟩,he.sub ⟨rfl,rfl,rfl,trivial⟩,hw⟩) ?_
    rintro ⟨k,hk,ha⟩
    simp only at hk ha ⊢
    have HB := Lib.hid ha;clear ha
    repeat' (first|refine Wa ?_|refine Wb ?_|refine Wc ?_|refine Wd ?_|refine We ?_|refine Wf ?_|(refine ok_cond rfl (fun hc => ?_) (fun hc => ?_) <;> (have hd := hc;try simp only [jj] at hd))|refine Wg ?_|refine Wh ?_|refine Wi ?_|(refine Zr 17 ?_;refine Zm ?_;refine Zf ?_;refine Zl 0 ?_;refine Zq (ps_len rfl rfl) ?_;refine Zi ?_;refine Ze4 1 5 10 91 ?_)|(refine Zr 18 ?_;refine Zm ?_;refine Zq (by exact ps_add rfl rfl rfl (by omega)) ?_;refine Za ?_;refine Ze3 1 5 10 ?_)|(refine Xd 19 27 ?_;refine Xf 0 ?_;refine Xl 1 0 ?_;refine Xm 2 ?_;refine Xt 3 rfl (by exact ps_indexN rfl rfl rfl (by omega) (by exact isw_of (isS_fl (by assumption) (by omega)))) ?_;refine Xt 4 rfl (by exact ps_load rfl rfl (by exact Rds.cell (rds_rf (by assumption) List.mem_cons_self) (by exact fl_at0 _ _ (by omega) (by decide)))) ?_;refine Xf 5 ?_;refine Xl 6 0 ?_;refine Xo 7 rfl (by exact ms_s3 rfl rfl rfl rfl (fun _ _ w hw => in_s _ _ _ w)) (fun y w _ h => by exact h) ?_;rintro y101 hy101;refine Xt 8 rfl (ps_not rfl rfl) ?_;refine Xm 9 ?_;refine Xg 10 rfl rfl rfl rfl (gF _) (fun hp => by exact ps_move rfl rfl) ?_;refine Xg 11 rfl rfl rfl rfl (gF _) (fun hp => by (exact ps_int rfl (Og rfl) rfl rfl)) ?_;refine Xg 12 rfl rfl rfl rfl (gF _) (fun hp => by (exact ps_move rfl (Og rfl))) ?_;refine Xh 13 rfl rfl rfl rfl (gT _) (fun hq hp hqp => by exact ps_field rfl rfl (isw_ga _)) ?_;refine Xh 14 rfl rfl rfl rfl (gT _) (fun hq hp hqp => by (exact ps_load rfl (Og rfl) (by exact Rds.cell (rds_box 0 rfl) rfl))) ?_;refine Xh 15 rfl rfl rfl rfl (gT _) (fun hq hp hqp => by exact ps_move rfl rfl) ?_;refine Xh 16 rfl rfl rfl rfl (gT _) (fun hq hp hqp => by (have hqd := hq;have hpd := hp;(try simp only [jj] at hqd hpd);exact ps_sub rfl (Og rfl) rfl (by omega))) ?_;refine Xh 17 rfl rfl rfl rfl (gT _) (fun hq hp hqp => by (have hqd := hq;have hpd := hp;(try simp only [jj] at hqd hpd);exact ps_index rfl (Og rfl) (Og rfl) (by omega) (by exact isw_of (isS_fl (by assumption) (by omega))))) ?_;refine Xh 18 rfl rfl rfl rfl (gT _) (fun hq hp hqp => by (have hqd := hq;have hpd := hp;(try simp only [jj] at hqd hpd);exact ps_load rfl (Og rfl) (by exact Rds.cell (rds_rf (by assumption) List.mem_cons_self) (by exact fl_at0 _ _ (by omega) (by decide))))) ?_;refine Xh 19 rfl rfl rfl rfl (gT _) (fun hq hp hqp => by exact ps_field rfl rfl (isw_ga _)) ?_;refine Xh 20 rfl rfl rfl rfl (gT _) (fun hq hp hqp => by (exact ps_load rfl (Og rfl) (by exact Rds.cell (rds_box 0 rfl) rfl))) ?_;refine Xh 21 rfl rfl rfl rfl (gT _) (fun hq hp hqp => by exact ps_move rfl rfl) ?_;refine Xh 22 rfl rfl rfl rfl (gT _) (fun hq hp hqp => by (have hqd := hq;have hpd := hp;(try simp only [jj] at hqd hpd);exact ps_indexN rfl (Og rfl) (Og rfl) (by omega) (by exact isw_of (isS_fl (by assumption) (by omega))))) ?_;refine Xh 23 rfl rfl rfl rfl (gT _) (fun hq hp hqp => by (have hqd := hq;have hpd := hp;(try simp only [jj] at hqd hpd);exact ps_load rfl (Og rfl) (by exact Rds.cell (rds_rf (by assumption) List.mem_cons_self) (by exact fl_at0 _ _ (by omega) (by decide))))) ?_;refine Xh 24 rfl rfl rfl rfl (gT _) (fun hq hp hqp => by (exact ps_int rfl (Og rfl) (Og rfl) rfl)) ?_;refine Xg 25 rfl rfl rfl rfl (gF _) (fun hp => by exact ps_and_in (by assumption) rfl rfl rfl) ?_;refine Xt 26 rfl (ps_or rfl rfl rfl) ?_;refine okT_done (by kernel_rfl) ?_;refine Ze4 1 5 10 120 ?_)|(refine Zr 20 ?_;refine Za ?_;refine Ze1 2 ?_)|(refine Zr 21 ?_;refine Zm ?_;refine Zi ?_;refine Za ?_;refine Ze1 2 ?_))
    · have e : fEngOk ⟨mem,dats R,seq,sn⟩ = false := eng_at (k := k) (by simp only;omega) (by unfold snapAt;rw [decide_eq_false_iff_not];simp only [tn1] at hd ⊢;omega)
      exact ok_endL (vs := [_]) rfl ⟨rfl,trivial⟩ (fun w' hw => ⟨by rw [e];rfl,hw.below⟩)
    · have e : snapAt seq sn k = true := by unfold snapAt;rw [decide_eq_true_eq];simp only [tn1] at hd ⊢;omega
      refine fun a w' he hw => ⟨⟨k + 1,by omega,fun j hj => by
        rcases Nat.lt_succ_iff_lt_or_eq.1 hj with h' | h'
        · exact HB.out j h'
        · subst h';exact e⟩,by simp only;omega,he.sub ⟨rfl,rfl,rfl,trivial⟩,hw⟩
    · obtain rfl : k = sn.length := by omega
      have e := eng_end (e := ⟨mem,dats R,seq,sn⟩) ⟨hok.1,by rw [dats_len];exact hok.2.1,hok.2.2⟩ (fun j hj => HA.out j (by simpa [dats_len] using hj)) (fun j hj => HB.out j hj)
      refine ok_endL (vs := [_]) rfl ⟨rfl,trivial⟩ (fun w' hw => ⟨?_,hw.below⟩)
      rw [e]
      simp only [retV]
      congr 2
      rw [Bool.eq_iff_iff];simp only [decide_eq_true_eq];omega
theorem cloneE_c (A : Option Addr) (c : Nat) (L : List Ent) (w : World) (h : Rd w A (fl L)) (m : L.length ≤ 4194304) :
    Calls Tryz.prog 271 #[.slice A L.length c] w fun e w' => ∃ y : Ys,e = .returned (.slice (y 0).A L.length (y 0).c) ∧ True ∧ Below w.heap.size w w' ∧ NewOk w.heap.size [.row 204 4 (y 0).A L.length (y 0).c (fl L)] [] w' := by
  refine ok_enter 8 Tryz.func271 rfl rfl rfl ?_
  repeat' (first|refine Wa ?_|refine Wb ?_|refine Wc ?_|refine ok_then_exit ?_|refine Wd ?_|refine We ?_|refine Wf ?_|refine ok_in_exit ?_|refine ok_in_other rfl ?_|(refine ok_cond rfl (fun hc => ?_) (fun hc => ?_) <;> (have hd := hc;try simp only [jj] at hd))|refine Wg ?_|refine Wh ?_|refine Wi ?_|(refine Zr 0 ?_;refine Za ?_;refine Ze1 0 ?_)|(refine Zr 1 ?_;refine Zm ?_;refine Zq (by first | exact ps_eql_nil rfl rfl | exact ps_int rfl rfl rfl rfl) ?_;refine Ze2 0 4 ?_)|(refine Zr 2 ?_;refine Za ?_;refine Ze1 2 ?_)|(refine Zr 3 ?_;refine Zn (by exact ms_lit rfl parts_nil rfl rfl rfl) ?_;rintro y5 hy5;refine Zm ?_;refine Zn (by exact ms_app0 (M := L) 0 rfl rfl rfl rfl (rds_rf h (by first | exact List.mem_cons_self | exact List.mem_cons_of_mem _ List.mem_cons_self | simp)) rfl (by omega) (by omega)) ?_;rintro y7 hy7;refine Za ?_;refine Ze1 2 ?_))
  · have h0 : L = [] := by
      cases A with
      | some a => cases hc
      | none =>
        rcases L with _ | ⟨x,l⟩
        · rfl
        · have := isS_fl h (by simp);obtain ⟨ad,e⟩ := this;cases e
    subst h0
    refine ok_endL (vs := [_]) rfl ⟨rfl,trivial⟩ (fun w' hw => ?_)
    refine ⟨mkY none 0 w,?_,trivial,hw.below,?_⟩
    · rfl
    · exact NewOk.one (x := .row 204 4 none 0 0 (fl ([] : List Ent))) (Own.nil w' w.heap.size 204 4)
  · refine ok_endL (vs := [_]) rfl ⟨rfl,trivial⟩ (fun w' hw => ?_)
    refine ⟨yl [y7 0] (y7 0),?_,trivial,hw.below,?_⟩
    · rfl
    · have := NewOk.of (hw.sel [0] (by decide) rfl (fun _ h => h))
      exact this
end Go.Proofs.YtmfojbidojjciaaGreat
