/- Texts of this claim, one behind the other: BfEnt, FlEnt, Eng10, Eng11, BnEntSS, BfKeySlot, BfShare, BfLogRow, StD, Ord, StbP, MrgP, Cln, BfCRow, FlCRow, BtCache, Cch, StP, Dlt2, BtKVS, Cag, Cgt, Cge, Cgs, Dfm, ApP, JnP, Seq, GT2, Ty, Sl, In, Tu, Var, RvP, Fix, Crc, Shs, Rv. -/
import Derived.Test.YtmfojbidojjciaaGreatPrAccounts1
import Derived.Laws.CopyRow
import Derived.Laws.Append
import Derived.Laws.BitsAllLaws
import Derived.Lib.SliceRun
import Derived.Laws.Bits128
set_option linter.unusedVariables false
set_option linter.unusedSimpArgs false
set_option maxRecDepth 20000
set_option maxHeartbeats 4000000
namespace Go.Proofs.YtmfojbidojjciaaGreat
open Go.RowKit
set_option maxHeartbeats 2000000
attribute [local irreducible] Calls
structure Ent where
  key : ByteArray
  seq : Int
  del : Bool
  val : ByteArray
  deriving DecidableEq
instance : Dat Ent := ⟨4,fun x => [.string x.key,.int .i64 x.seq,.bool x.del,.string x.val],fun _ => rfl,⟨⟨#[]⟩,0,false,⟨#[]⟩⟩⟩
instance : Mk Ent := ⟨4,fun q => ⟨mT (q),q + 1,((q + 1 + 1) % 3 == 0),mT (q + 1 + 1 + 1)⟩⟩
def wtEnt (x : Ent) : Prop := x.key.size ≤ 1048576 ∧ x.val.size ≤ 1048576
def bigEnt (x : Ent) : Prop := x.key.size ≤ maxLen ∧ x.val.size ≤ maxLen
theorem szEnt_c (x : Ent) (left : Int) (hl : 0 ≤ left ∧ left ≤ 1048576) (hx : bigEnt x) (w : World) :
    Calls Tryz.prog 263 #[.agg (Dat.cells x).toArray,.int .i64 left] w fun e w' => ∃ y : Ys,e = .returned (.int .i64 (y 0).n) ∧ (-1 ≤ (y 0).n ∧ (y 0).n ≤ left ∧ (0 ≤ (y 0).n → wtEnt x)) ∧ Below w.heap.size w w' ∧ NewOk w.heap.size [] [] w' := by
  unfold bigEnt maxLen at hx
  refine ok_enter 20 Tryz.func263 rfl rfl rfl ?_
  repeat' (first|refine Wa ?_|refine Wb ?_|refine Wc ?_|(refine ok_cond rfl (fun hc => ?_) (fun hc => ?_) <;> (have hd := hc;try simp only [jj] at hd))|refine Wg ?_|refine Wi ?_|(refine Zr 0 ?_;refine Zn (ms_box rfl rfl rfl) ?_;rintro y2 hy2;refine Za ?_;refine Ze2 1 2 ?_)|(refine Zr 1 ?_;refine Zm ?_;refine Zf ?_;refine Zl 0 ?_;refine Zq (ps_slen rfl rfl) ?_;refine Zq (by exact ps_sub rfl rfl rfl (by omega)) ?_;refine Za ?_;refine Ze2 1 2 ?_)|(refine Zr 2 ?_;refine Zm ?_;refine Zi ?_;refine Ze3 1 2 11 ?_)|(refine Zr 3 ?_;refine Za ?_;refine Ze1 4 ?_)|(refine Zr 4 ?_;refine Zm ?_;refine Zf ?_;refine Zl 0 ?_;refine Zq (ps_slen rfl rfl) ?_;refine Zq (by exact ps_sub rfl rfl rfl (by omega)) ?_;refine Za ?_;refine Ze1 1 ?_)|(refine Zr 5 ?_;refine Zm ?_;refine Zi ?_;refine Ze2 1 18 ?_)|(refine Zr 6 ?_;refine Za ?_;refine Ze1 4 ?_)|(refine Zr 7 ?_;refine Zm ?_;refine Za ?_;refine Ze1 4 ?_))
  all_goals first
    | exact ok_endL (vs := [_]) rfl ⟨rfl,trivial⟩ (fun w' hw => ⟨mkN (-1) w,rfl,⟨by show (-1 : Int) ≤ -1;decide,by show (-1 : Int) ≤ left;omega,fun h => absurd h (by show ¬ (0 : Int) ≤ -1;decide)⟩,hw.below,NewOk.nil _ _⟩)
    | exact ok_endL (vs := [_]) rfl ⟨rfl,trivial⟩ (fun w' hw => ⟨mkN (left - (x.key.size : Int) - (x.val.size : Int)) w,rfl,⟨by show -1 ≤ left - (x.key.size : Int) - (x.val.size : Int);omega,by show left - (x.key.size : Int) - (x.val.size : Int) ≤ left;omega,fun _ => by unfold wtEnt;omega⟩,hw.below,NewOk.nil _ _⟩)
theorem toEnt_c (x : Ent) (w : World) :
    Calls Tryz.prog 266 #[.agg (Dat.cells x).toArray] w fun e w' => e = .returned (.agg (Dat.cells x).toArray) ∧ Below w.heap.size w w' := by
  refine ok_enter 17 Tryz.func266 rfl rfl rfl ?_
  repeat' (first|refine Wa ?_|refine Wb ?_|refine Wg ?_|(refine Zr 0 ?_;refine Zn (ms_box rfl rfl rfl) ?_;rintro y1 hy1;refine Zn (ms_alloc rfl) ?_;rintro y2 hy2;refine Ze2 1 2 ?_)|(refine Zr 1 ?_;refine Zn (ms_alloc rfl) ?_;rintro y3 hy3;refine Ze3 1 2 3 ?_)|(refine Zr 2 ?_;refine Zf ?_;refine Zl 2 ?_;refine Zf ?_;refine Zo (ms_store 0 rfl rfl rfl rfl rfl rfl rfl rfl) ?_;rintro y_ hy_;refine Ze3 1 2 3 ?_)|(refine Zr 3 ?_;refine Zf ?_;refine Zl 2 ?_;refine Zf ?_;refine Zo (ms_store 0 rfl rfl rfl rfl rfl rfl rfl rfl) ?_;rintro y_ hy_;refine Ze3 1 2 3 ?_)|(refine Zr 4 ?_;refine Zf ?_;refine Zl 2 ?_;refine Zf ?_;refine Zo (ms_store 0 rfl rfl rfl rfl rfl rfl rfl rfl) ?_;rintro y_ hy_;refine Ze3 1 2 3 ?_)|(refine Zr 5 ?_;refine Zf ?_;refine Zl 2 ?_;refine Zf ?_;refine Zo (ms_store 0 rfl rfl rfl rfl rfl rfl rfl rfl) ?_;rintro y_ hy_;refine Ze2 2 3 ?_)|(refine Zr 6 ?_;refine Zq (by exact ps_loads rfl rfl (by exact rds_box 0 rfl) rfl rfl (by decide)) ?_;refine Zo (ms_store 1 rfl rfl rfl rfl rfl rfl rfl rfl) ?_;rintro y_ hy_;refine Ze1 2 ?_))
  exact ok_endL (vs := [.agg (Dat.cells x).toArray]) rfl ⟨⟨_,1,_,_,_,rfl,rfl,inferInstance,rfl,rfl⟩,trivial⟩ (fun w' hw => ⟨rfl,hw.below⟩)
theorem eqEnt_c (x : Ent) (w : World) :
    Calls Tryz.prog 280 #[.agg (Dat.cells x).toArray,.agg (Dat.cells x).toArray] w fun e w' => e = .returned (.bool true) ∧ Below w.heap.size w w' := by
  refine ok_enter 25 Tryz.func280 rfl rfl rfl ?_
  repeat' (first|refine Wa ?_|refine Wb ?_|refine Wc ?_|(refine ok_cond rfl (fun hc => ?_) (fun hc => ?_) <;> (have hd := hc;try simp only [jj] at hd))|refine Wg ?_|refine Wi ?_|(refine Zr 0 ?_;refine Zn (ms_box rfl rfl rfl) ?_;rintro y2 hy2;refine Zn (ms_box rfl rfl rfl) ?_;rintro y3 hy3;refine Za ?_;refine Ze2 2 3 ?_)|(refine Zr 1 ?_;refine Zf ?_;refine Zl 1 ?_;refine Zf ?_;refine Zl 0 ?_;refine Zq (ps_str rfl rfl rfl rfl) ?_;refine Ze3 2 3 9 ?_)|(refine Zr 2 ?_;refine Za ?_;refine Ze1 4 ?_)|(refine Zr 3 ?_;refine Zf ?_;refine Zl 1 ?_;refine Zf ?_;refine Zl 0 ?_;refine Zi ?_;refine Ze3 2 3 14 ?_)|(refine Zr 4 ?_;refine Za ?_;refine Ze1 4 ?_)|(refine Zr 5 ?_;refine Zf ?_;refine Zl 1 ?_;refine Zf ?_;refine Zl 0 ?_;refine Zq (by exact ps_bool_neq Tryz.underlying4 rfl rfl rfl) ?_;refine Ze3 2 3 19 ?_)|(refine Zr 6 ?_;refine Za ?_;refine Ze1 4 ?_)|(refine Zr 7 ?_;refine Zf ?_;refine Zl 1 ?_;refine Zf ?_;refine Zl 0 ?_;refine Zq (ps_str rfl rfl rfl rfl) ?_;refine Ze1 24 ?_)|(refine Zr 8 ?_;refine Za ?_;refine Ze1 4 ?_)|(refine Zr 9 ?_;refine Za ?_;refine Ze1 4 ?_))
  all_goals first
    | (exfalso;simp [sEq] at hc;done)
    | exact ok_endL (vs := [_]) rfl ⟨rfl,trivial⟩ (fun w' hw => ⟨rfl,hw.below⟩)
theorem toEntS_c (A : Option Addr) (c : Nat) (l : List Ent) (w : World) (h : Rd w A (fl l)) (hl : l.length ≤ 1048576) :
    Calls Tryz.prog 203 #[.slice A l.length c] w fun e w' => ∃ y : Ys,e = .returned (.slice (y 0).A l.length (y 0).c) ∧ True ∧ Below w.heap.size w w' ∧ NewOk w.heap.size [.row 204 4 (y 0).A l.length (y 0).c (fl l)] [] w' := by
  refine ok_enter 23 Tryz.func203 rfl rfl rfl ?_
  repeat' (first|refine Wa ?_|refine Wb ?_|refine Wd ?_|(refine Zr 0 ?_;refine Za ?_;refine Ze1 0 ?_)|(refine Zr 1 ?_;refine Zm ?_;refine Zq (ps_len rfl rfl) ?_;refine Zn (by exact ms_make (z := Dat.cells (Dat.dflt : Ent)) rfl rfl rfl (by omega) (by omega)) ?_;rintro y7 hy7;refine Za ?_;refine Ze2 0 3 ?_)|(refine Zr 2 ?_;refine Za ?_;refine Ze3 0 3 4 ?_))
  rw [show (madeCells (Dat.cells (Dat.dflt : Ent)).toArray (l.length * 4)).toList = fl (List.replicate l.length (Dat.dflt : Ent)) from made_fl (Dat.dflt : Ent) l.length]
  refine ok_loop (ι := { k : Nat // k ≤ l.length }) (fun k => l.length - k.1) (fun k => ([(0,.slice A l.length c),(3,.slice (ga (y7 0).c) l.length l.length),(4,.int .i64 k.1)],[.row 204 4 (ga (y7 0).c) l.length l.length (fl (l.take k.1 ++ List.replicate (l.length - k.1) (Dat.dflt : Ent)))],_)) ⟨0,by omega⟩ (fun a w he hw => ⟨⟨0,by omega⟩,he.sub ⟨rfl,rfl,rfl,trivial⟩,by simpa using hw⟩) ?_
  rintro ⟨k,hk⟩
  simp only at hk ⊢
  repeat' (first|refine Wa ?_|refine Wb ?_|refine Wd ?_|refine We ?_|(refine ok_cond rfl (fun hc => ?_) (fun hc => ?_) <;> (have hd := hc;try simp only [jj] at hd))|refine Wg ?_|refine Wh ?_|refine Wi ?_|(refine Zr 3 ?_;refine Zm ?_;refine Zm ?_;refine Zq (ps_len rfl rfl) ?_;refine Zi ?_;refine Ze4 0 3 4 11 ?_)|(refine Zr 4 ?_;refine Zm ?_;refine Zq (by exact ps_add rfl rfl rfl (by omega)) ?_;refine Za ?_;refine Ze3 0 3 4 ?_)|(refine Zr 5 ?_;refine Zm ?_;refine Zm ?_;refine Zm ?_;refine Zm ?_;refine Zq (by exact ps_indexN rfl rfl rfl (by omega) (by exact isw_of (isS_fl (by assumption) (by omega)))) ?_;refine Zq (by exact ps_loadsF rfl rfl (by exact rds_rf (by assumption) List.mem_cons_self) (by rfl) (by rfl) (by omega) rfl) ?_;refine Zn (by exact ms_s1 rfl rfl (fun _ _ w hw => toEnt_c _ w)) ?_;rintro y20 hy20;refine Zq (by exact ps_indexN rfl rfl rfl (by omega) (isw_ga _)) ?_;refine Zo (by exact ms_setw 0 k (nth l k) rfl rfl rfl rfl rfl rfl rfl rfl rfl (by simp;omega)) ?_;rintro y_ hy_;refine Ze3 0 3 4 ?_)|(refine Zr 6 ?_;refine Zm ?_;refine Za ?_;refine Ze1 2 ?_))
  · refine fun a w' he hw => ⟨⟨k + 1,by omega⟩,by simp only;omega,he.sub ⟨rfl,rfl,rfl,trivial⟩,?_⟩
    simp only
    rw [← fill_step l Dat.dflt k (by omega)]
    exact hw
  · obtain rfl : k = l.length := by omega
    refine ok_endL (vs := [_]) rfl ⟨rfl,trivial⟩ (fun w' hw => ⟨mkY (ga (y7 0).c) l.length w,rfl,trivial,hw.below,?_⟩)
    have := NewOk.of hw
    simpa [mkY] using this
theorem eqEntS_c (A B : Option Addr) (c d : Nat) (l : List Ent) (w : World) (h : Rd w A (fl l)) (h2 : Rd w B (fl l)) (hl : l.length ≤ 140737488355328) :
    Calls Tryz.prog 212 #[.slice A l.length c,.slice B l.length d] w fun e w' => e = .returned (.bool true) ∧ Below w.heap.size w w' := by
  refine ok_enter 27 Tryz.func212 rfl rfl rfl ?_
  repeat' (first|refine Wa ?_|refine Wb ?_|refine Wc ?_|refine Wd ?_|(refine ok_cond rfl (fun hc => ?_) (fun hc => ?_) <;> (have hd := hc;try simp only [jj] at hd))|refine Wg ?_|refine Wi ?_|(refine Zr 0 ?_;refine Za ?_;refine Ze2 0 1 ?_)|(refine Zr 1 ?_;refine Zm ?_;refine Zq (ps_len rfl rfl) ?_;refine Zm ?_;refine Zq (ps_len rfl rfl) ?_;refine Zi ?_;refine Ze3 0 1 10 ?_)|(refine Zr 2 ?_;refine Za ?_;refine Ze1 4 ?_)|(refine Zr 3 ?_;refine Za ?_;refine Ze3 0 1 5 ?_))
  · exact absurd hc (by simp)
  · refine ok_loop (ι := { k : Nat // k ≤ l.length }) (fun k => l.length - k.1) (fun k => ([(0,.slice A l.length c),(1,.slice B l.length d),(5,.int .i64 k.1)],_,_)) ⟨0,by omega⟩ (fun a w he hw => ⟨⟨0,by omega⟩,he.sub ⟨rfl,rfl,rfl,trivial⟩,hw⟩) ?_
    rintro ⟨k,hk⟩
    simp only at hk ⊢
    repeat' (first|refine Wa ?_|refine Wb ?_|refine Wd ?_|refine We ?_|(refine ok_cond rfl (fun hc => ?_) (fun hc => ?_) <;> (have hd := hc;try simp only [jj] at hd))|refine Wg ?_|refine Wh ?_|refine Wi ?_|(refine Zr 4 ?_;refine Zm ?_;refine Zm ?_;refine Zq (ps_len rfl rfl) ?_;refine Zi ?_;refine Ze4 0 1 5 14 ?_)|(refine Zr 5 ?_;refine Zm ?_;refine Zq (by exact ps_add rfl rfl rfl (by omega)) ?_;refine Za ?_;refine Ze3 0 1 5 ?_)|(refine Xd 6 10 ?_;refine Xm 0 ?_;refine Xm 1 ?_;refine Xt 2 rfl (by exact ps_indexN rfl rfl rfl (by omega) (by exact isw_of (isS_fl (by assumption) (by omega)))) ?_;refine Xt 3 rfl (by exact ps_loadsF rfl rfl (by exact rds_rf (by assumption) List.mem_cons_self) (by rfl) (by rfl) (by omega) rfl) ?_;refine Xm 4 ?_;refine Xm 5 ?_;refine Xt 6 rfl (by exact ps_indexN rfl rfl rfl (by omega) (by exact isw_of (isS_fl (by assumption) (by omega)))) ?_;refine Xt 7 rfl (by exact ps_loadsF rfl rfl (by exact rds_rf (by assumption) List.mem_cons_self) (by rfl) (by rfl) (by omega) rfl) ?_;refine Xo 8 rfl (by exact ms_s2 rfl rfl rfl (fun _ _ w hw => eqEnt_c _ w)) (fun y w _ h => by exact h) ?_;rintro y25 hy25;refine Xt 9 rfl (ps_not rfl rfl) ?_;refine okT_done (by kernel_rfl) ?_;refine Ze4 0 1 5 26 ?_)|(refine Zr 8 ?_;refine Za ?_;refine Ze1 4 ?_))
    all_goals first
      | (exfalso;simp [sEq] at hc;done)
      | exact fun a w' he hw => ⟨⟨k + 1,by omega⟩,by simp only;omega,he.sub ⟨rfl,rfl,rfl,trivial⟩,hw⟩
      | exact ok_endL (vs := [_]) rfl ⟨rfl,trivial⟩ (fun w' hw => ⟨rfl,hw.below⟩)
theorem markEntS_c (A : Option Addr) (c : Nat) (l : List Ent) (k0 : Int) (hk0 : 0 ≤ k0 ∧ k0 ≤ 1000000000000000) (hl : l.length ≤ 140737488355328) {base : Nat} {w0 w : World} {H : List HObj} {G : List World}
    (hw : WOk base w0 (.row 204 4 A l.length c (fl l) :: H) G w) :
    Calls Tryz.prog 110 #[.slice A l.length c,.int .i64 k0] w fun e w' => ∃ y : Ys,e = .returned (.int .i64 (k0 + 4 * (l.length : Int))) ∧ True ∧ WOk base w0 (.row 204 4 A l.length c (fl (mkL k0 l.length : List Ent)) :: H) G w' := by
  refine ok_enterW 45 Tryz.func110 rfl rfl rfl hw ?_
  repeat' (first|refine Wa ?_|refine Wb ?_|refine Wd ?_|(refine Zr 0 ?_;refine Za ?_;refine Ze2 0 1 ?_)|(refine Zr 1 ?_;refine Za ?_;refine Ze3 0 1 5 ?_))
  refine ok_loop (ι := { k : Nat // k ≤ l.length }) (fun k => l.length - k.1) (fun k => ([(0,.slice A l.length c),(1,.int .i64 (k0 + 4 * (k.1 : Int))),(5,.int .i64 k.1)],.row 204 4 A l.length c (fl (mkL k0 k.1 ++ l.drop k.1)) :: H,_)) ⟨0,by omega⟩ (fun a w he hw => ⟨⟨0,by omega⟩,he.sub ⟨rfl,by simp [look,initE],rfl,trivial⟩,by simpa [mkL] using hw⟩) ?_
  rintro ⟨k,hk⟩
  simp only at hk ⊢
  repeat' (first|refine Wa ?_|refine Wb ?_|refine Wd ?_|refine We ?_|(refine ok_cond rfl (fun hc => ?_) (fun hc => ?_) <;> (have hd := hc;try simp only [jj] at hd))|refine Wg ?_|refine Wh ?_|refine Wi ?_|(refine Zr 2 ?_;refine Zm ?_;refine Zm ?_;refine Zq (ps_len rfl rfl) ?_;refine Zi ?_;refine Ze4 0 1 5 9 ?_)|(refine Zr 3 ?_;refine Zm ?_;refine Zq (by exact ps_add rfl rfl rfl (by omega)) ?_;refine Za ?_;refine Ze3 0 1 5 ?_)|(refine Zr 4 ?_;refine Zm ?_;refine Zm ?_;refine Zm ?_;refine Zn (by exact ms_s1 rfl rfl (fun _ _ w hw => markText_c _ (by omega) w)) ?_;rintro y15 hy15;refine Zq (by exact ps_indexN rfl rfl rfl (by omega) (by exact isw_row 0 rfl (by omega))) ?_;refine Zq (by exact ps_field rfl rfl (by exact isw_row 0 rfl (by omega))) ?_;refine Zo (by exact ms_setc 0 k 0 (⟨mT ((k0 + 4 * (k : Int))),(nth l k).seq,(nth l k).del,(nth l k).val⟩ : Ent) rfl rfl rfl rfl rfl rfl rfl rfl (by rw [mk_nth _ _ _ (by omega)];rfl) (by simp [mkL_len];omega)) ?_;rintro y_ hy_;refine Ze3 0 1 5 ?_)|(refine Zr 5 ?_;refine Zm ?_;refine Zq (by exact ps_add rfl rfl rfl (by omega)) ?_;refine Za ?_;refine Ze3 0 1 5 ?_)|(refine Zr 6 ?_;refine Zm ?_;refine Zm ?_;refine Zm ?_;refine Zq (by exact ps_indexN rfl rfl rfl (by omega) (by exact isw_row 0 rfl (by omega))) ?_;refine Zq (by exact ps_field rfl rfl (by exact isw_row 0 rfl (by omega))) ?_;refine Zo (by exact ms_setc 0 k 1 (⟨mT ((k0 + 4 * (k : Int))),(k0 + 4 * (k : Int)) + 1,(nth l k).del,(nth l k).val⟩ : Ent) rfl rfl rfl rfl rfl rfl rfl rfl (by rw [nth_set _ _ _ (by simp [mkL_len];omega)];rfl) (by simp [mkL_len];omega)) ?_;rintro y_ hy_;refine Ze3 0 1 5 ?_)|(refine Zr 7 ?_;refine Zm ?_;refine Zq (by exact ps_add rfl rfl rfl (by omega)) ?_;refine Za ?_;refine Ze3 0 1 5 ?_)|(refine Zr 8 ?_;refine Zm ?_;refine Zm ?_;refine Zm ?_;refine Zq (by exact ps_rem rfl rfl rfl (by omega) (by omega)) ?_;refine Zi ?_;refine Zq (by exact ps_indexN rfl rfl rfl (by omega) (by exact isw_row 0 rfl (by omega))) ?_;refine Zq (by exact ps_field rfl rfl (by exact isw_row 0 rfl (by omega))) ?_;refine Zo (by exact ms_setc 0 k 2 (⟨mT ((k0 + 4 * (k : Int))),(k0 + 4 * (k : Int)) + 1,(((k0 + 4 * (k : Int)) + 1 + 1) % 3 == 0),(nth l k).val⟩ : Ent) rfl rfl rfl rfl rfl rfl rfl rfl (by rw [nth_set _ _ _ (by simp [mkL_len];omega)];rfl) (by simp [mkL_len];omega)) ?_;rintro y_ hy_;refine Ze3 0 1 5 ?_)|(refine Zr 9 ?_;refine Zm ?_;refine Zq (by exact ps_add rfl rfl rfl (by omega)) ?_;refine Za ?_;refine Ze3 0 1 5 ?_)|(refine Zr 10 ?_;refine Zm ?_;refine Zm ?_;refine Zm ?_;refine Zn (by exact ms_s1 rfl rfl (fun _ _ w hw => markText_c _ (by omega) w)) ?_;rintro y39 hy39;refine Zq (by exact ps_indexN rfl rfl rfl (by omega) (by exact isw_row 0 rfl (by omega))) ?_;refine Zq (by exact ps_field rfl rfl (by exact isw_row 0 rfl (by omega))) ?_;refine Zo (by exact ms_setc 0 k 3 (⟨mT ((k0 + 4 * (k : Int))),(k0 + 4 * (k : Int)) + 1,(((k0 + 4 * (k : Int)) + 1 + 1) % 3 == 0),mT ((k0 + 4 * (k : Int)) + 1 + 1 + 1)⟩ : Ent) rfl rfl rfl rfl rfl rfl rfl rfl (by rw [nth_set _ _ _ (by simp [mkL_len];omega)];rfl) (by simp [mkL_len];omega)) ?_;rintro y_ hy_;refine Ze3 0 1 5 ?_)|(refine Zr 11 ?_;refine Zm ?_;refine Zq (by exact ps_add rfl rfl rfl (by omega)) ?_;refine Za ?_;refine Ze3 0 1 5 ?_)|(refine Zr 12 ?_;refine Zm ?_;refine Za ?_;refine Ze1 4 ?_))
  · refine fun a w' he hw => ⟨⟨k + 1,by omega⟩,by simp only;omega,he.sub ⟨rfl,?_,rfl,trivial⟩,?_⟩
    · simp only [look];congr 2;simp;omega
    · have e := mk_step l k0 k (by omega)
      simp only
      rw [← e]
      refine WOk.same ?_ hw
      simp only [List.set_cons_zero,List.set_set]
      rfl
  · obtain rfl : k = l.length := by omega
    refine ok_endL (vs := [_]) rfl ⟨rfl,trivial⟩ (fun w' hw => ⟨mkY none 0 w,rfl,trivial,?_⟩)
    simpa using hw
end Go.Proofs.YtmfojbidojjciaaGreat
namespace Go.Proofs.YtmfojbidojjciaaGreat
open Go.RowKit
abbrev gEnt : GT := .st [.str,.int,.bool,.str]
theorem flatEnt : FlatAt gEnt (α := Ent) (fun x => ⟨x.1,x.2.1,x.2.2.1,x.2.2.2.1⟩) bigEnt := fun w x c h => by
  obtain ⟨a0,a1,a2,a3,u⟩ := x
  obtain ⟨c0,d0,rfl,h0,e0⟩ := RdTL.cons.1 (RdT.st.1 h)
  obtain ⟨c1,d1,rfl,h1,e1⟩ := RdTL.cons.1 e0
  obtain ⟨c2,d2,rfl,h2,e2⟩ := RdTL.cons.1 e1
  obtain ⟨c3,d3,rfl,h3,e3⟩ := RdTL.cons.1 e2
  rw [RdTL.nil] at e3;subst e3
  obtain ⟨rfl,b0⟩ := RdT.str.1 h0
  obtain ⟨rfl,b1⟩ := RdT.int.1 h1
  obtain rfl := RdT.bool.1 h2
  obtain ⟨rfl,b3⟩ := RdT.str.1 h3
  exact ⟨rfl,b0,b3⟩
end Go.Proofs.YtmfojbidojjciaaGreat
namespace Go.Proofs.YtmfojbidojjciaaGreat
open Go.RowKit
theorem fl_take {α : Type} [Dat α] : ∀ (l : List α) (i : Nat),(fl l).take (i * Dat.sz α) = fl (l.take i)
  | [],i => by simp [fl]
  | x :: l,0 => by simp [fl]
  | x :: l,i + 1 => by
    have ih := fl_take l i
    rw [List.take_succ_cons,fl_cons,fl_cons,← ih]
    have : (i + 1) * Dat.sz α = (Dat.cells x).length + i * Dat.sz α := by rw [Dat.len,Nat.add_mul];omega
    rw [this,List.take_length_add_append]
section
variable {P : Program} {N base : Nat} {w0 : World} {E : Env} {H : List HObj} {G : List World} {Q : Exit → Act → World → Prop} {o : Oper} {ops : Array Oper} {rest : List Oper} {F : Ys → Prop} {v : Ys → Value} {H' : Ys → List HObj} {G' : Ys → List World}
theorem evs_of {N : Nat} {E : Env} {a : Act} (he : EnvOk N E a) {args : Array Operand} {vs : List Value} (ha : args.toList.mapM (opd E) = some vs) : args.map a.eval = vs.toArray := by
  apply Array.ext'
  rw [Array.toList_map]
  generalize args.toList = l at ha
  induction l generalizing vs with
  | nil => simp at ha;subst ha;rfl
  | cons q l ih =>
    simp only [List.mapM_cons,Option.bind_eq_bind] at ha
    cases hq : opd E q with
    | none => simp [hq] at ha
    | some u =>
      simp only [hq,Option.bind_some] at ha
      cases hr : l.mapM (opd E) with
      | none => simp [hr] at ha
      | some r =>
        simp only [hr,Option.bind_some] at ha
        cases ha
        simp [he.eval hq,ih hr]
theorem ps_mkf {f : FuncId} {cap : Array Operand} {vs : List Value} (ho : o.op = .makeFunc (.func f) #[] cap) (ha : cap.toList.mapM (opd E) = some vs) : PStep P E H G o (.func (.func f) #[] vs.toArray) := fun N base w0 a w he hw => by
  simp [execOp,ho,Instr.makeFunc,evs_of he ha]
theorem ms_k {f : FuncId} {cl : Operand} {args : Array Operand} {tys : Array TypeId} {vs cs : List Value} {H1 : List HObj} (hsel : ∀ base w0 w,WOk base w0 H G w → WOk base w0 H1 G w) [hf : FN P f] (ho : o.op = .call { callee := .value cl,args := args,argTypes := tys }) (hcl : opd E cl = some (.func (.func f) #[] cs.toArray)) (ha : args.toList.mapM (opd E) = some vs)
    (hc : ∀ base w0 w,WOk base w0 H1 G w → Calls P f (vs ++ cs).toArray w (fun e w' => ∃ y,e = .returned (v y) ∧ F y ∧ WOk base w0 (H' y) (G' y) w')) :
    MStep P E H G o F v H' G' := fun N base w0 a w Q K he hw hK => by
  obtain ⟨fn,c,h1,h2,h3⟩ := hf.h
  have hev := evs_of he ha
  have hr : (execOp a.eval o).run P w = .ok (.enter f (vs ++ cs).toArray) w := by
    have hfe : a.eval cl = .func (.func f) #[] cs.toArray := he.eval hcl
    have hname : fn.name ≠ "runtime.NumGoroutine" := by simpa using h2
    simp [execOp,ho,resolve,hev,hfe,Deferred.ofValue,invoke,callFunc,h1,hname,h3]
  unfold Oper.wp;rw [hr]
  refine (hc base w0 w (hsel base w0 w hw)).mono fun e w' ⟨y,he',hF,hw'⟩ => ?_
  subst he'
  exact hK y w' hF hw'
theorem ms_k1 {f : FuncId} {cl x0 : Operand} {u0 : Value} {tys : Array TypeId} {cs : List Value} {u : Value} [hf : FN P f] (ho : o.op = .call { callee := .value cl,args := #[x0],argTypes := tys }) (hcl : opd E cl = some (.func (.func f) #[] cs.toArray)) (h0 : opd E x0 = some u0)
    (hc : ∀ base w0 w,WOk base w0 H G w → Calls P f (u0 :: cs).toArray w (fun e w' => e = .returned u ∧ Below w.heap.size w w')) :
    MStep P E H G o (fun _ => True) (fun _ => u) (fun _ => H) (fun _ => G) :=
  ms_k (H1 := H) (fun _ _ _ h => h) ho hcl (vs := [u0]) (by simp [List.mapM_cons,h0]) (fun base w0 w hw => (hc base w0 w hw).mono fun e w' ⟨he,hb⟩ => ⟨mkY none 0 w,he,trivial,hw.grow (Hn := []) (Gn := []) hb (NewOk.nil _ _)⟩)
theorem own_over {w : World} {base e sz c g q m : Nat} {cur : Array Value} {vs : List Value} (hb : base ≤ g) (hg : w.heap[g]? = some (.cells cur e (0,0))) (hc : c ≤ maxLen) (hcs : cur.size = c * sz) (hk : q * sz + vs.length ≤ cur.size) (hm : m ≤ c) :
    Own (w.setRow g (putC cur.toList (q * sz) vs).toArray) base e sz (some ⟨g,0,none⟩) m c ((putC cur.toList (q * sz) vs).take (m * sz)) ∧ w.grownBy (w.setRow g (putC cur.toList (q * sz) vs).toArray) (some g) := by
  have hl : (putC cur.toList (q * sz) vs).length = c * sz := by rw [putC_len _ _ _ (by simpa using hk)];simpa using hcs
  have hms : m * sz ≤ c * sz := Nat.mul_le_mul_right _ hm
  refine ⟨⟨by rw [List.length_take,hl];omega,.inr ⟨g,c,_,rfl,hb,setRow_heap w g _ _ e _ hg,hm,hc,by simpa using hl,by simp⟩⟩,?_⟩
  exact ⟨rfl,rfl,rfl,by simp,fun j _ hj => setRow_other w g j _ (fun e => hj (by simp [e]))⟩
theorem putC_take0 {cs vs : List Value} {k m : Nat} (h : m ≤ k) (hk : k ≤ cs.length) : (putC cs k vs).take m = cs.take m := by
  unfold putC
  rw [List.append_assoc,List.take_append_of_le_length (by simp;omega),List.take_take]
  congr 1;omega
theorem run_clear {t ty e sz bytes : Nat} (hT : SlP P t e sz bytes) {z : List Value} [hz : ZV P e z] {w : World} {c q m c2 g : Nat} {cur : Array Value} (hg : w.heap[g]? = some (.cells cur e (0,0))) (hcs : cur.size = c * sz) (hqm : q + m ≤ c) (h1 : ∀ u ∈ z,u.oneCell' = true) (hm : 0 < m) :
    ∃ vs : List Value,vs.length = m * sz ∧ (Builtin.clear_ #[t] ty #[.slice (some ⟨g,q * sz,none⟩) m c2]).run P w = .ok (.tuple #[]) (w.setRow g (putC cur.toList (q * sz) vs).toArray) := by
  obtain ⟨hu,hz0,inf,zz,hi,hzz,hs,hby,hzs⟩ := hT
  have hz1 : zz.cells = z.toArray := by
    have := hz.h
    unfold zvB at this
    simpa [hi,hzz] using this
  have hzl : z.length = sz := by rw [← hzs,hz1];simp
  refine ⟨(Builtin.zeroCells z.toArray m).toList,by simp [Builtin.zeroCells,hzl],?_⟩
  have hvl : (Builtin.zeroCells z.toArray m).toList.length = m * sz := by simp [Builtin.zeroCells,hzl]
  have hfit : q * sz + (Builtin.zeroCells z.toArray m).toList.length ≤ cur.size := by rw [hvl,hcs,← Nat.add_mul];exact Nat.mul_le_mul_right _ hqm
  have hone : ∀ v ∈ (Builtin.zeroCells z.toArray m).toList,v.oneCell' = true := fun v hv => by
    simp only [Builtin.zeroCells,Array.toList_map,List.mem_map] at hv
    obtain ⟨i,hi,rfl⟩ := hv
    simp only [Array.toList_range,List.mem_range,List.size_toArray,hzl] at hi
    have hlt : i % z.toArray.size < z.toArray.size := Nat.mod_lt _ (by simp [hzl];exact hz0)
    have hlt' : i % z.length < z.length := by simpa using hlt
    have e2 : z.toArray[i % z.toArray.size]! = z[i % z.length] := by simp [hlt']
    rw [e2]
    exact h1 _ (List.getElem_mem _)
  have hst := run_storeCells_at P g (q * sz) e (Builtin.zeroCells z.toArray m).toList 0 cur w hg (by simpa using hfit) hone
  simp only [Nat.add_zero] at hst
  obtain ⟨m',rfl⟩ : ∃ m',m = m' + 1 := ⟨m - 1,by omega⟩
  simp only [Builtin.clear_]
  simp [run_underlying hu,zeroValue,typeInfo,hi,hzz,hz1,hst,putC]
theorem ms_clear {α : Type} [Dat α] {t e sz bytes n c c2 q m : Nat} {A B : Option Addr} {x : Operand} {L : List α} {z : List Value} (r : Nat) [ht : EL P t e sz bytes] [hz : ZV P e z] (ho : o.op = .call { callee := .builtin .clear,args := #[x],argTypes := #[t] })
    (hx : opd E x = some (.slice B m c2)) (hB : 0 < m → B = A.map (·.add (q * sz))) (hi : H[r]? = some (.row e sz A n c (fl L))) (hs : Dat.sz α = sz) (hq : q ≤ L.length) (hqm : q + m ≤ c) (h1 : ∀ u ∈ z,u.oneCell' = true) :
    MStep P E H G o (fun _ => True) (fun _ => .tuple #[]) (fun _ => H.set r (.row e sz A q c (fl (L.take q)))) (fun _ => G) := fun N base w0 a w Q K he hw hK => by
  have hsz : 0 < sz := ht.h.2.1
  have hown := hw.own _ (List.mem_of_getElem? hi)
  have hown2 := hown
  have hLn : L.length = n := by have := hown.1;rw [fl_len,hs] at this;exact Nat.eq_of_mul_eq_mul_right hsz this
  have hexec : ∀ v w',(Builtin.clear_ #[t] o.type #[.slice B m c2]).run P w = .ok v w' → (execOp a.eval o).run P w = .ok (.value v) w' := fun v w' h => by
    unfold execOp
    simp only [ho,resolve,invoke,builtin,Sem.run_bind,Sem.run_pure,Result.andThen_ok,List.map_toArray,List.map_cons,List.map_nil,he.eval hx,h]
  obtain ⟨hlen,⟨hA,hn0⟩ | ⟨g,cap,cur,hA,hb,hh,hnc,hcm,hcs,htk⟩⟩ := hown
  · injection hA with hA hA2 hA3
    subst hA;subst hA2;subst hA3
    have hq0 : q = 0 := by omega
    have hm0 : m = 0 := by omega
    subst hq0;subst hm0
    have hL : L = [] := List.eq_nil_of_length_eq_zero hLn
    subst hL
    have hrun : (Builtin.clear_ #[t] o.type #[.slice B 0 c2]).run P w = .ok (.tuple #[]) w := by
      obtain ⟨hu,_⟩ := ht.h
      simp only [Builtin.clear_]
      cases B <;> simp [run_underlying hu]
    unfold Oper.wp;rw [hexec _ _ hrun]
    exact hK (mkY none 0 w) _ trivial (hw.turn hi (r := none) (World.grownBy.refl w _) (fun k hk => by cases hk) (by simpa using hown2) (fun k hk => .inl hk))
  · injection hA with hA hA2 hA3
    subst hA;subst hA3
    have etake : ∀ cs : List Value,cs = cur.toList → cs.take (q * sz) = fl (L.take q) := fun cs e => by
      rw [e,← fl_take,hs,← htk,List.take_take];congr 1
      have : q * sz ≤ n * sz := Nat.mul_le_mul_right _ (by omega)
      omega
    rcases Nat.eq_zero_or_pos m with hm | hm
    · subst hm
      have hrun : (Builtin.clear_ #[t] o.type #[.slice B 0 c2]).run P w = .ok (.tuple #[]) w := by
        obtain ⟨hu,_⟩ := ht.h
        simp only [Builtin.clear_]
        cases B <;> simp [run_underlying hu]
      unfold Oper.wp;rw [hexec _ _ hrun]
      refine hK (mkY none 0 w) _ trivial (hw.turn hi (r := none) (World.grownBy.refl w _) (fun k hk => by cases hk) (x' := .row e sz (some ⟨g,0,none⟩) q c (fl (L.take q))) ?_ (fun k hk => .inl hk))
      refine ⟨by rw [fl_len,hs,List.length_take,Nat.min_eq_left hq],.inr ⟨g,c,cur,rfl,hb,hh,by omega,hcm,hcs,?_⟩⟩
      exact etake _ rfl
    · have hB' := hB hm
      have e0 : B = some ⟨g,q * sz,none⟩ := by rw [hB'];simp [ga_add]
      subst e0
      obtain ⟨vs,hvl,hrun⟩ := run_clear (P := P) (ty := o.type) (c2 := c2) ht.h (z := z) hh hcs hqm h1 hm
      unfold Oper.wp;rw [hexec _ _ hrun]
      have hfit : q * sz + vs.length ≤ cur.size := by rw [hvl,hcs,← Nat.add_mul];exact Nat.mul_le_mul_right _ hqm
      obtain ⟨o1,o2⟩ := own_over (m := q) hb hh hcm hcs hfit (by omega)
      rw [putC_take0 (Nat.le_refl _) (by rw [Array.length_toList,hcs];exact Nat.mul_le_mul_right _ (by omega)),etake _ rfl] at o1
      exact hK (mkY none 0 w) _ trivial (hw.turn (x := .row e sz (some ⟨g,0,none⟩) n c (fl L)) hi (r := some g) o2 (fun k hk => by cases hk;rfl) o1 (fun k hk => .inl hk))
end
section
variable {P : Program} {N base : Nat} {w0 : World} {E : Env} {H HS : List HObj} {G GS : List World} {Q : Exit → Act → World → Prop} {ops : Array Oper} {tl : List Oper} {n f : Nat} {listed : Array Bool}
theorem okT_one0 {i : Nat} {o : Oper} {F : Ys → Prop} {v : Ys → Value} {H' : Ys → List HObj} {G' : Ys → List World} (hi : ops[i]? = some o) (hin : Nat.blt i n = true) (hr : Region.ready .any ops listed = [i]) (hdt : o.dst = none) (hg : o.guard = none) (hs : MStep P E H G o F v H' G')
    (hS : ∀ y w,F y → WOk base w0 (H' y) (G' y) w → WOk base w0 HS GS w)
    (h : ∀ y,F y → OkT P ops Q tl n N base w0 HS GS f (listed.setIfInBounds i true) E (H' y) (G' y)) : OkT P ops Q tl n N base w0 HS GS (f + 1) listed E H G := fun a w hB hQ he hw hSw inv => by
  have hin' : i < n := by simpa [Nat.blt_eq] using hin
  refine ⟨by rw [hr];simp,fun j hj => ?_⟩
  have hji : j = i := by rw [hr] at hj;simpa using hj
  subst hji
  refine ⟨hin',?_⟩
  unfold wpOp
  simp only [hi]
  rw [if_pos (by simp [Region.wanted,hg])]
  refine .inl (hs N base w0 a w Q _ he hw fun y w' hF hw' => ?_)
  have h1 := hS y w' hF hw'
  exact ⟨h1,h y hF _ _ hB hQ (he.put0 hdt _) hw' h1 (inv.set hj hin')⟩
end
end Go.Proofs.YtmfojbidojjciaaGreat
namespace Go.Proofs.YtmfojbidojjciaaGreat
open Go.RowKit
class AR (P : Program) (t : TypeId) (n e sz : outParam Nat) : Prop where h : P.underlying t = some (.array n e) ∧ (P.info? e).map (·.size) = some sz ∧ Nat.blt 1 n = true
section
variable {P : Program} {N base : Nat} {w0 : World} {E : Env} {H : List HObj} {G : List World} {Q : Exit → Act → World → Prop} {o : Oper}
theorem ps_indexA {x y : Operand} {t n e sz i k : Nat} {A : Option Addr} {q : IntKind} [ht : AR P t n e sz] (ho : o.op = .indexAddr t x y) (hx : opd E x = some (pt A k)) (hy : opd E y = some (.int q (i : Int))) (h : i < n) (hA : IsSW H G A) : PStep P E H G o (pt A (k + i * sz)) := fun N base w0 a w he hw => by
  obtain ⟨ad,rfl⟩ := hA base w0 w hw
  obtain ⟨hu,hi,hn⟩ := ht.h
  obtain ⟨inf,hi,hs⟩ := Option.map_eq_some_iff.1 hi
  have hn1 : 1 < n := by simpa [Nat.blt_eq] using hn
  have h0 : (0 : Int) ≤ (i : Int) ∧ (i : Int) < (n : Int) := by omega
  have h2 : ¬ n ≤ 1 := by omega
  simp [execOp,ho,he.eval hx,he.eval hy,Instr.indexAt,Instr.sureAddr,asIntOf,run_underlying hu,h0,h2,h,sizeOf,typeInfo,hi,hs,pt,add_add']
theorem ms_setb {α : Type} [Dat α] {t e g k sz : Nat} {ag : Bool} {x y : Operand} {u : Value} {L : List α} (i j : Nat) (v : α) [hl : LD P t sz ag] (ho : o.op = .store t x y) (hx : opd E x = some (pt (ga g) k)) (hy : opd E y = some u) (hi : H[i]? = some (.box g e (fl L)))
    (hk : k = j * Dat.sz α) (hsz : Dat.sz α = sz) (hv : u.cells = (Dat.cells v).toArray) (h1 : (Dat.cells v).all (·.oneCell') = true) (hj : j < L.length) :
    MStep P E H G o (fun _ => True) (fun _ => undef) (fun _ => H.set i (.box g e (fl (L.set j v)))) (fun _ => G) := by
  have hle : j * Dat.sz α + Dat.sz α ≤ (fl L).length := by
    rw [fl_len]
    have : (j + 1) * Dat.sz α ≤ L.length * Dat.sz α := Nat.mul_le_mul_right _ hj
    rw [Nat.add_mul] at this;omega
  have := ms_store (P := P) (hl := hl) (G := G) (k := k) i ho hx hy hv (by rw [Dat.len,hsz]) h1 hi (by rw [Nat.ble_eq,Dat.len,hk];exact hle)
  rwa [hk,putC_fl L j v hj] at this
theorem wrapU32 (n : Nat) : IntKind.u32.wrap (n : Int) = ((n % 4294967296 : Nat) : Int) := by rw [IntKind.wrap_u32];omega
theorem wrapU8 (n : Nat) : IntKind.u8.wrap (n : Int) = ((n % 256 : Nat) : Int) := by rw [IntKind.wrap_u8];omega
theorem ps_addU {x y : Operand} {t t' : TypeId} {m n : Nat} (ho : o.op = .binOp .add t x y t') (hx : opd E x = some (.int .u32 (m : Int))) (hy : opd E y = some (.int .u32 (n : Int))) : PStep P E H G o (.int .u32 (((m + n) % 4294967296 : Nat) : Int)) :=
  ps_int ho hx hy (by rw [intOp,show (m : Int) + n = ((m + n : Nat) : Int) by omega,wrapU32])
def kOk (k : IntKind) (m : Nat) : Prop := k = .u32 ∧ m < 4294967296 ∨ k = .i64 ∧ m < 9223372036854775808 ∨ k = .u8 ∧ m < 256 ∨ k = .u64 ∧ m < 18446744073709551616
theorem kOk.xor {k : IntKind} {m n : Nat} (hm : kOk k m) (hn : kOk k n) : k.wrap ((BitVec.ofInt k.bits (m : Int) ^^^ BitVec.ofInt k.bits (n : Int)).toNat : Int) = ((m ^^^ n : Nat) : Int) := by
  rcases hm with ⟨rfl,hm⟩ | ⟨rfl,hm⟩ | ⟨rfl,hm⟩ | ⟨rfl,hm⟩ <;> rcases hn with ⟨e,hn⟩ | ⟨e,hn⟩ | ⟨e,hn⟩ | ⟨e,hn⟩ <;> first | cases e | skip
  · exact u32_xor_nat m n hm hn
  · have hx : m ^^^ n < 2 ^ 63 := Nat.xor_lt_two_pow (by omega) (by omega)
    show IntKind.i64.wrap ((BitVec.ofInt 64 (m : Int) ^^^ BitVec.ofInt 64 (n : Int)).toNat : Int) = _
    rw [BitVec.toNat_xor,ofInt_u64 m (by omega),ofInt_u64 n (by omega),IntKind.wrap_i64]
    omega
  · exact u8_xor_nat m n hm hn
  · exact u64_xor_nat m n hm hn
theorem kOk.or {k : IntKind} {m n : Nat} (hm : kOk k m) (hn : kOk k n) : k.wrap ((BitVec.ofInt k.bits (m : Int) ||| BitVec.ofInt k.bits (n : Int)).toNat : Int) = ((m ||| n : Nat) : Int) := by
  rcases hm with ⟨rfl,hm⟩ | ⟨rfl,hm⟩ | ⟨rfl,hm⟩ | ⟨rfl,hm⟩ <;> rcases hn with ⟨e,hn⟩ | ⟨e,hn⟩ | ⟨e,hn⟩ | ⟨e,hn⟩ <;> first | cases e | skip
  · exact u32_or_nat m n hm hn
  · have hx : m ||| n < 2 ^ 63 := Nat.or_lt_two_pow (by omega) (by omega)
    show IntKind.i64.wrap ((BitVec.ofInt 64 (m : Int) ||| BitVec.ofInt 64 (n : Int)).toNat : Int) = _
    rw [BitVec.toNat_or,ofInt_u64 m (by omega),ofInt_u64 n (by omega),IntKind.wrap_i64]
    omega
  · exact u8_or_nat m n hm hn
  · exact u64_or_nat m n hm hn
theorem kOk.and {k : IntKind} {m n : Nat} (hm : kOk k m) (hn : kOk k n) : k.wrap ((BitVec.ofInt k.bits (m : Int) &&& BitVec.ofInt k.bits (n : Int)).toNat : Int) = ((m &&& n : Nat) : Int) := by
  rcases hm with ⟨rfl,hm⟩ | ⟨rfl,hm⟩ | ⟨rfl,hm⟩ | ⟨rfl,hm⟩ <;> rcases hn with ⟨e,hn⟩ | ⟨e,hn⟩ | ⟨e,hn⟩ | ⟨e,hn⟩ <;> first | cases e | skip
  · exact u32_and_nat m n hm hn
  · have hx : m &&& n < 2 ^ 63 := Nat.and_lt_two_pow m (by omega)
    show IntKind.i64.wrap ((BitVec.ofInt 64 (m : Int) &&& BitVec.ofInt 64 (n : Int)).toNat : Int) = _
    rw [BitVec.toNat_and,ofInt_u64 m (by omega),ofInt_u64 n (by omega),IntKind.wrap_i64]
    omega
  · exact u8_and_nat m n hm hn
  · exact u64_and_nat m n hm hn
theorem ps_xorN {x y : Operand} {t t' : TypeId} {k : IntKind} {m n : Nat} (ho : o.op = .binOp .xor t x y t') (hx : opd E x = some (.int k (m : Int))) (hy : opd E y = some (.int k (n : Int))) (hm : kOk k m) (hn : kOk k n) : PStep P E H G o (.int k ((m ^^^ n : Nat) : Int)) :=
  ps_int ho hx hy (by rw [intOp,hm.xor hn])
theorem ps_orN {x y : Operand} {t t' : TypeId} {k : IntKind} {m n : Nat} (ho : o.op = .binOp .or t x y t') (hx : opd E x = some (.int k (m : Int))) (hy : opd E y = some (.int k (n : Int))) (hm : kOk k m) (hn : kOk k n) : PStep P E H G o (.int k ((m ||| n : Nat) : Int)) :=
  ps_int ho hx hy (by rw [intOp,hm.or hn])
theorem ps_andN {x y : Operand} {t t' : TypeId} {k : IntKind} {m n : Nat} (ho : o.op = .binOp .and t x y t') (hx : opd E x = some (.int k (m : Int))) (hy : opd E y = some (.int k (n : Int))) (hm : kOk k m) (hn : kOk k n) : PStep P E H G o (.int k ((m &&& n : Nat) : Int)) :=
  ps_int ho hx hy (by rw [intOp,hm.and hn])
theorem ps_shlU {x y : Operand} {t t' : TypeId} {k' : IntKind} {m s : Nat} (ho : o.op = .binOp .shl t x y t') (hx : opd E x = some (.int .u32 (m : Int))) (hy : opd E y = some (.int k' (s : Int))) (hs : s < 32) : PStep P E H G o (.int .u32 ((m * 2 ^ s % 4294967296 : Nat) : Int)) := by
  have := ps_shl (P := P) (H := H) (G := G) ho hx hy ⟨by omega,show (s : Int) < ((32 : Nat) : Int) by omega⟩
  rw [show ((s : Int)).toNat = s by omega,show ((m : Int) * 2 ^ s) = ((m * 2 ^ s : Nat) : Int) by push_cast;rfl,wrapU32] at this
  exact this
theorem ps_shlI {x y : Operand} {t t' : TypeId} {k' : IntKind} {m s : Nat} (ho : o.op = .binOp .shl t x y t') (hx : opd E x = some (.int .i64 (m : Int))) (hy : opd E y = some (.int k' (s : Int))) (hs : s < 64) (hm : m * 2 ^ s < 9223372036854775808) : PStep P E H G o (.int .i64 ((m * 2 ^ s : Nat) : Int)) := by
  have := ps_shl (P := P) (H := H) (G := G) ho hx hy ⟨by omega,show (s : Int) < ((64 : Nat) : Int) by omega⟩
  rw [show ((s : Int)).toNat = s by omega,show ((m : Int) * 2 ^ s) = ((m * 2 ^ s : Nat) : Int) by push_cast;rfl,IntWalk.i64_in _ (by omega)] at this
  exact this
theorem ps_shrN {x y : Operand} {t t' : TypeId} {k k' : IntKind} {m s : Nat} (ho : o.op = .binOp .shr t x y t') (hx : opd E x = some (.int k (m : Int))) (hy : opd E y = some (.int k' (s : Int))) (hs : s < k.bits) : PStep P E H G o (.int k ((m / 2 ^ s : Nat) : Int)) := by
  have := ps_shr (P := P) (H := H) (G := G) ho hx hy ⟨by omega,by omega⟩
  rw [show ((s : Int)).toNat = s by omega,Int.fdiv_eq_ediv_of_nonneg _ (Int.le_of_lt (Int.pow_pos (by decide)))] at this
  have e : ((m / 2 ^ s : Nat) : Int) = (m : Int) / 2 ^ s := by push_cast;rfl
  rw [e];exact this
theorem ps_conv8 {x : Operand} {s t : TypeId} {k' : IntKind} {n : Nat} [hk : IK P t .u8] [hk' : IK P s k'] (ho : o.op = .convert s t x) (hx : opd E x = some (.int k' (n : Int))) : PStep P E H G o (.int .u8 ((n % 256 : Nat) : Int)) := by
  rw [← wrapU8];exact ps_conv ho hx
theorem ofNat_toNat8 (n : Nat) : ((UInt8.ofNat n).toNat : Int) = ((n % 256 : Nat) : Int) := by simp
theorem ps_convB {x : Operand} {s t : TypeId} {k' : IntKind} {n : Nat} [hk : IK P t .u8] [hk' : IK P s k'] (ho : o.op = .convert s t x) (hx : opd E x = some (.int k' (n : Int))) : PStep P E H G o (.int .u8 ((UInt8.ofNat n).toNat : Int)) := by
  rw [ofNat_toNat8];exact ps_conv8 ho hx
theorem ps_convM {x : Operand} {s t : TypeId} {k' : IntKind} {n : Nat} [hk : IK P t .u8] [hk' : IK P s k'] (ho : o.op = .convert s t x) (hx : opd E x = some (.int k' ((n % 256 : Nat) : Int))) : PStep P E H G o (.int .u8 ((UInt8.ofNat n).toNat : Int)) := by
  rw [ofNat_toNat8]
  have := ps_conv8 (P := P) (H := H) (G := G) ho hx
  rwa [Nat.mod_mod] at this
theorem ms_make0 {t e sz bytes : Nat} {x y : Operand} {n : Nat} {k k' : IntKind} {z : List Value} [ht : EL P t e sz bytes] [hz : ZV P e z] (ho : o.op = .makeSlice t x y) (hx : opd E x = some (.int k ((0 : Nat) : Int))) (hy : opd E y = some (.int k' (n : Int))) (hb : bytes * n ≤ 140737488355328) (hn : n ≤ 140737488355328) :
    MStep P E H G o (fun _ => True) (fun y => .slice (ga (y 0).c) 0 n) (fun y => .row e sz (ga (y 0).c) 0 n [] :: H) (fun _ => G) := ms_of (v0 := undef) fun N base w0 a w he hw => by
  obtain ⟨hu,_,i,zz,hi,hzz,hs,hby,hzc⟩ := ht.h
  have hb' : (i.bytes : Int) * (n : Int) ≤ 281474976710656 := by
    have h : ((i.bytes * n : Nat) : Int) ≤ 281474976710656 := by rw [hby];omega
    rwa [Int.natCast_mul] at h
  have hr := run_make (P := P) w t e i zz hu hi hzz k k' ((0 : Nat) : Int) (n : Int) (by omega) (by omega) hb' (by omega)
  simp only [Int.toNat_natCast,hs] at hr
  refine ⟨mkY none w.heap.size w,w.alloc (.cells (madeCells zz.cells (n * sz)) e),trivial,?_,?_⟩
  · simp only [execOp,ho,he.eval hx,he.eval hy,Sem.run_bind,hr,Result.andThen_ok,Sem.run_pure];rfl
  · refine hw.grow (Hn := [.row e sz (ga w.heap.size) 0 n []]) (Gn := []) ((Below.refl _ _).alloc (Nat.le_refl _) _) (NewOk.one ⟨by simp,.inr ⟨w.heap.size,n,_,rfl,Nat.le_refl _,heap_alloc_new _ _,Nat.zero_le _,by simp only [maxLen];omega,?_,by simp⟩⟩)
    rw [size_madeCells]
theorem ps_indexV {α : Type} [Dat α] {x y : Operand} {t n e i : Nat} {L : List α} {u : Value} {q : IntKind} [ht : AR P t n e 1] [hl : LD P e 1 false] (ho : o.op = .index t x y) (hx : opd E x = some (.agg (fl L).toArray)) (hy : opd E y = some (.int q (i : Int))) (h : i < n) (hn : L.length = n) (h1 : Dat.sz α = 1) (hu : Dat.cells (nth L i) = [u]) : PStep P E H G o u := fun N base w0 a w he hw => by
  obtain ⟨hut,hi,_⟩ := ht.h
  obtain ⟨inf,hi,hs⟩ := Option.map_eq_some_iff.1 hi
  have h0 : (0 : Int) ≤ (i : Int) ∧ (i : Int) < (n : Int) := by omega
  have hc : (fl L)[i]? = some u := by
    have := fl_at L i 0 (by omega) (by omega)
    rw [h1,hu] at this
    simpa using this
  have hag : (isAgg e).run P w = .ok false w := by
    have h := hl.h
    unfold ldB at h
    split at h
    · exact absurd (congrArg (fun q => q.map Prod.snd) h) (by simp)
    · exact absurd (congrArg (fun q => q.map Prod.snd) h) (by simp)
    · rename_i d i h1 h2 hu hi
      simp only [isAgg,Sem.run_bind,run_underlying hu,Result.andThen_ok]
      cases d <;> first | rfl | exact absurd rfl (h1 _) | exact absurd rfl (h2 _ _)
    · cases h
  simp [execOp,ho,he.eval hx,he.eval hy,Instr.index,asIntOf,run_underlying hut,h0,h,sizeOf,typeInfo,hi,hs,part,hag,hc]
theorem ps_cast {v v' : Value} (h : PStep P E H G o v) (e : v = v') : PStep P E H G o v' := e ▸ h
theorem ps_subU64 {x y : Operand} {t t' : TypeId} {m n : Nat} (ho : o.op = .binOp .sub t x y t') (hx : opd E x = some (.int .u64 (m : Int))) (hy : opd E y = some (.int .u64 (n : Int))) (h : n ≤ m) (hm : m < 18446744073709551616) : PStep P E H G o (.int .u64 ((m - n : Nat) : Int)) :=
  ps_int ho hx hy (by rw [intOp,IntWalk.u64_in _ (by omega),show (m : Int) - n = ((m - n : Nat) : Int) by omega])
theorem ps_shlV {x y : Operand} {t t' : TypeId} {k' : IntKind} {m s : Nat} (ho : o.op = .binOp .shl t x y t') (hx : opd E x = some (.int .u32 (m : Int))) (hy : opd E y = some (.int k' (s : Int))) (hs : s < 32) (hm : m * 2 ^ s < 4294967296) : PStep P E H G o (.int .u32 ((m * 2 ^ s : Nat) : Int)) := by
  have := ps_shlU (P := P) (H := H) (G := G) ho hx hy hs
  rwa [Nat.mod_eq_of_lt hm] at this
theorem ps_loadsB {x : Operand} {t g e sz : Nat} {cs : List Value} (q : Nat) [hl : LD P t sz true] (ho : o.op = .load t x) (hx : opd E x = some (pt (ga g) 0)) (hi : H[q]? = some (.box g e cs)) (hn : cs.length = sz) (hz : Nat.blt 0 sz = true) : PStep P E H G o (.agg cs.toArray) :=
  ps_loads ho hx (rds_box q hi) (by rw [List.drop_zero,List.take_of_length_le (by omega)]) hn (by simpa [Nat.blt_eq] using hz)
theorem ms_storeB {x y : Operand} {t g e sz : Nat} {cs vs : List Value} (i : Nat) [hl : LD P t sz true] (ho : o.op = .store t x y) (hx : opd E x = some (pt (ga g) 0)) (hy : opd E y = some (.agg vs.toArray)) (hi : H[i]? = some (.box g e cs)) (hn : vs.length = sz) (hc : cs.length = sz) (h1 : ∀ u ∈ vs,u.oneCell' = true) :
    MStep P E H G o (fun _ => True) (fun _ => undef) (fun _ => H.set i (.box g e vs)) (fun _ => G) := by
  have := ms_store (P := P) (hl := hl) (G := G) (k := 0) (vs := vs) i ho hx hy rfl hn (by simpa using h1) hi (by rw [Nat.ble_eq];omega)
  have e : putC cs 0 vs = vs := by unfold putC;rw [List.take_zero,List.nil_append,List.drop_of_length_le (by omega),List.append_nil]
  rwa [e] at this
theorem ps_loadA {α : Type} [Dat α] {x : Operand} {t g e i : Nat} {L : List α} {u : Value} (q : Nat) [hl : LD P t 1 false] (ho : o.op = .load t x) (hx : opd E x = some (pt (ga g) (0 + i * 1))) (hi : H[q]? = some (.box g e (fl L))) (hj : i < L.length) (hs : Dat.sz α = 1) (hu : Dat.cells (nth L i) = [u]) : PStep P E H G o u :=
  ps_load ho hx (Rds.cell (rds_box q hi) (by
    have := fl_at L i 0 hj (by omega)
    rw [hs,hu] at this
    rw [Nat.zero_add];exact this))
theorem ms_setA {α : Type} [Dat α] {t e g j : Nat} {x y : Operand} {u : Value} {L : List α} (i : Nat) (v : α) [hl : LD P t 1 false] (ho : o.op = .store t x y) (hx : opd E x = some (pt (ga g) (0 + j * 1))) (hy : opd E y = some u) (hi : H[i]? = some (.box g e (fl L))) (hs : Dat.sz α = 1) (hu : Dat.cells v = [u]) (hc : u.cells = #[u]) (h1 : u.oneCell' = true) (hj : j < L.length) :
    MStep P E H G o (fun _ => True) (fun _ => undef) (fun _ => H.set i (.box g e (fl (L.set j v)))) (fun _ => G) :=
  ms_setb i j v ho hx hy hi (by rw [hs,Nat.zero_add]) hs (by rw [hc,hu]) (by rw [hu];simp [h1]) hj
theorem ps_loadR {α : Type} [Dat α] {x : Operand} {t e sz n c i : Nat} {A : Option Addr} {L : List α} {u : Value} (q : Nat) [hl : LD P t 1 false] (ho : o.op = .load t x) (hx : opd E x = some (pt A (i * 1))) (hi : H[q]? = some (.row e sz A n c (fl L))) (hj : i < L.length) (hs : Dat.sz α = 1) (hu : Dat.cells (nth L i) = [u]) : PStep P E H G o u :=
  ps_load ho hx (Rds.cell (rds_row q hi) (by
    have := fl_at L i 0 hj (by omega)
    rw [hs,hu] at this
    exact this))
theorem ms_setR {α : Type} [Dat α] {t e sz n c j : Nat} {A : Option Addr} {x y : Operand} {u : Value} {L : List α} (i : Nat) (v : α) [hl : LD P t 1 false] (ho : o.op = .store t x y) (hx : opd E x = some (pt A (j * 1))) (hy : opd E y = some u) (hi : H[i]? = some (.row e sz A n c (fl L))) (hs : Dat.sz α = 1) (hu : Dat.cells v = [u]) (hc : u.cells = #[u]) (h1 : u.oneCell' = true) (hj : j < L.length) :
    MStep P E H G o (fun _ => True) (fun _ => undef) (fun _ => H.set i (.row e sz A n c (fl (L.set j v)))) (fun _ => G) :=
  ms_setw i j v ho hx hy hi (by rw [hs]) hs rfl (by rw [hc,hu]) (by rw [hu];simp [h1]) hj
end
theorem WOk.cap {base : Nat} {w0 w : World} {H : List HObj} {G : List World} (hw : WOk base w0 H G w) {e sz n c : Nat} {A : Option Addr} {us : List Value} (i : Nat) (hi : H[i]? = some (.row e sz A n c us)) : n ≤ c := by
  obtain ⟨_,⟨hv,hn⟩ | ⟨g,cap,cur,hv,_,_,hle,_⟩⟩ := hw.own _ (List.mem_of_getElem? hi)
  · omega
  · injection hv with _ _ h3;omega
theorem set_perm {α : Type} : ∀ (l : List α) (i : Nat) (x : α),i < l.length → (x :: l.eraseIdx i).Perm (l.set i x)
  | [],i,x,h => by simp at h
  | y :: l,0,x,h => by simp
  | y :: l,i + 1,x,h => by
    have ih := set_perm l i x (by simpa using h)
    simp only [List.eraseIdx_cons_succ,List.set_cons_succ]
    exact (List.Perm.swap y x _).trans (List.Perm.cons y ih)
theorem ms_wr {P : Program} {E : Env} {H : List HObj} {G : List World} {o : Oper} {F : Ys → Prop} {v : Ys → Value} {f : FuncId} {cl : Operand} {args : Array Operand} {tys : Array TypeId} {vs : List Value} {x : HObj} {x' : Ys → HObj} (r : Nat) (hi : H[r]? = some x) [hf : FN P f] (ho : o.op = .call { callee := .value cl,args := args,argTypes := tys }) (hcl : opd E cl = some (.func (.func f) #[] #[])) (ha : args.toList.mapM (opd E) = some vs)
    (hc : ∀ base w0 w,WOk base w0 (x :: H.eraseIdx r) G w → Calls P f vs.toArray w (fun e w' => ∃ y,e = .returned (v y) ∧ F y ∧ WOk base w0 (x' y :: H.eraseIdx r) G w')) :
    MStep P E H G o F v (fun y => H.set r (x' y)) (fun _ => G) := fun N base w0 a w Q K he hw hK =>
  ms_callW (H' := fun y => x' y :: H.eraseIdx r) (G' := fun _ => G) (fun _ _ _ h => h.front r hi) ho hcl ha hc N base w0 a w Q K he hw (fun y w' hF hw' => hK y w' hF (hw'.perm (set_perm H r (x' y) (List.getElem?_eq_some_iff.1 hi).1)))
theorem ms_appN {P : Program} {E : Env} {H : List HObj} {G : List World} {o : Oper} {α : Type} [Dat α] [OneC α] {t e sz bytes c c2 n m : Nat} {A A2 : Option Addr} {x y : Operand} (L M : List α) (i : Nat) [ht : EL P t e sz bytes] (ho : o.op = .call { callee := .builtin .append,args := #[x,y],argTypes := #[t,t] })
    (hx : opd E x = some (.slice A n c)) (hy : opd E y = some (.slice A2 m c2)) (hi : H[i]? = some (.row e sz A n c (fl L))) (hr : Rds H G A2 (fl M)) (hs : Dat.sz α = sz) (hn : L.length = n) (hm : M.length = m)
    (hb : (n + m) * bytes ≤ 140737488355328) (hm2 : n + m ≤ 140737488355328) :
    MStep P E H G o (fun _ => True) (fun y => .slice (y 0).A (n + m) (y 0).c) (fun y => H.set i (.row e sz (y 0).A (n + m) (y 0).c (fl (L ++ M)))) (fun _ => G) := by
  subst hn hm
  exact ms_appF i ho hx hy hi hr hs hb hm2
theorem ms_app0n {P : Program} {E : Env} {H : List HObj} {G : List World} {o : Oper} {α : Type} [Dat α] [OneC α] {t e sz bytes c c2 m : Nat} {A A2 : Option Addr} {x y : Operand} (M : List α) (i : Nat) [ht : EL P t e sz bytes] (ho : o.op = .call { callee := .builtin .append,args := #[x,y],argTypes := #[t,t] })
    (hx : opd E x = some (.slice A 0 c)) (hy : opd E y = some (.slice A2 m c2)) (hi : H[i]? = some (.row e sz A 0 c [])) (hr : Rds H G A2 (fl M)) (hs : Dat.sz α = sz) (hm : M.length = m)
    (hb : m * bytes ≤ 140737488355328) (hm2 : m ≤ 140737488355328) :
    MStep P E H G o (fun _ => True) (fun y => .slice (y 0).A m (y 0).c) (fun y => H.set i (.row e sz (y 0).A m (y 0).c (fl M))) (fun _ => G) := by
  subst hm
  exact ms_app0 i ho hx hy hi hr hs hb hm2
end Go.Proofs.YtmfojbidojjciaaGreat
namespace Go.Proofs.YtmfojbidojjciaaGreat
open Go.RowKit
attribute [local irreducible] Calls
abbrev LE := Lc (List Ent)
instance : OneC Ent := ⟨fun x u hu => by
  have : u = .string x.key ∨ u = .int .i64 x.seq ∨ u = .bool x.del ∨ u = .string x.val := by simpa [Dat.cells] using hu
  rcases this with rfl | rfl | rfl | rfl <;> rfl⟩
theorem eqEntS_N (A B : Option Addr) (c d : Nat) (l l2 : List Ent) (e2 : l2 = l) (w : World) (h : Rd w A (fl l)) (h2 : Rd w B (fl l2)) (hl : l.length ≤ 140737488355328) :
    Calls Tryz.prog 212 #[.slice A l.length c,.slice B l2.length d] w fun e w' => e = .returned (.bool true) ∧ Below w.heap.size w w' := by
  subst e2;exact eqEntS_c A B c d _ w h h2 hl
theorem fillP {α : Type} (p : List α) (m : Nat) (z v : α) : (p ++ List.replicate (m + 1) z).set p.length v = (p ++ [v]) ++ List.replicate m z := by
  rw [List.replicate_succ,List.set_append_right _ _ (Nat.le_refl _),Nat.sub_self,List.set_cons_zero];simp
theorem dats_nth {α β : Type} [Dat β] [In α β] {R S : List (Lc α)} (e : dats S = dats R) (k : Nat) (h : k < R.length) : (nth S k).d = (nth R k).d := by
  have hl : S.length = R.length := by rw [← dats_len,e,dats_len]
  have h1 := congrArg (fun l => l[k]?) e
  simp only [dats,List.getElem?_map] at h1
  rw [List.getElem?_eq_getElem (by omega),List.getElem?_eq_getElem h] at h1
  rw [nthL S k (by omega),nthL R k h]
  simpa using h1
theorem toEntSS_c (A : Option Addr) (c : Nat) (R : List LE) (w : World) (h : RdN w A R) (hl : R.length ≤ 1048576) (hs : ∀ x ∈ dats R,x.length ≤ 1048576) :
    Calls Tryz.prog 204 #[.slice A R.length c] w fun e w' => ∃ y : Ys,e = .returned (.slice (y 0).A R.length (y 0).c) ∧ True ∧ Below w.heap.size w w' ∧ NewOk w.heap.size [.row 85 1 (y 0).A R.length (y 0).c (fl (locs 1 (dats R) y)),.bag 204 4 (rowsOf (locs 1 (dats R) y))] [] w' := by
  obtain ⟨h1,h2⟩ := h
  have hs' : ∀ k,k < R.length → (nth R k).d.length ≤ 1048576 := fun k hk => hs _ (List.mem_map.2 ⟨_,nth_mem R k hk,rfl⟩)
  clear hs
  have HS := Lib.hid hs';clear hs'
  have H2 := Lib.hid h2;clear h2
  refine ok_enter 23 Tryz.func204 rfl rfl rfl ?_
  repeat' (first|refine Wa ?_|refine Wb ?_|refine Wd ?_|(refine Zr 0 ?_;refine Za ?_;refine Ze1 0 ?_)|(refine Zr 1 ?_;refine Zm ?_;refine Zq (ps_len rfl rfl) ?_;refine Zn (by exact ms_make (z := Dat.cells (Dat.dflt : LE)) rfl rfl rfl (by omega) (by omega)) ?_;rintro y7 hy7;refine Za ?_;refine Ze2 0 3 ?_)|(refine Zr 2 ?_;refine Za ?_;refine Ze3 0 3 4 ?_))
  rw [show (madeCells (Dat.cells (Dat.dflt : LE)).toArray (R.length * 1)).toList = fl (List.replicate R.length (Dat.dflt : LE)) from made_fl (Dat.dflt : LE) R.length]
  refine ok_loop (ι := { p : List LE // p.length ≤ R.length ∧ dats p = (dats R).take p.length }) (fun p => R.length - p.1.length) (fun p => ([(0,.slice A R.length c),(3,.slice (ga (y7 0).c) R.length R.length),(4,.int .i64 p.1.length)],[.bag 204 4 (rowsOf p.1),.row 85 1 (ga (y7 0).c) R.length R.length (fl (p.1 ++ List.replicate (R.length - p.1.length) (Dat.dflt : LE)))],_)) ⟨[],by simp,by simp [dats]⟩ (fun a w he hw => ⟨⟨[],by simp,by simp [dats]⟩,he.sub ⟨rfl,rfl,rfl,trivial⟩,by
    have := hw.bag_nil 204 4
    simpa [rowsOf] using this⟩) ?_
  rintro ⟨p,hp,hd⟩
  simp only at hp hd ⊢
  have HD := Lib.hid hd;clear hd
  repeat' (first|refine Wa ?_|refine Wb ?_|refine Wd ?_|refine We ?_|(refine ok_cond rfl (fun hc => ?_) (fun hc => ?_) <;> (have hd := hc;try simp only [jj] at hd))|refine Wg ?_|refine Wh ?_|refine Wi ?_|(refine Zr 3 ?_;refine Zm ?_;refine Zm ?_;refine Zq (ps_len rfl rfl) ?_;refine Zi ?_;refine Ze4 0 3 4 11 ?_)|(refine Zr 4 ?_;refine Zm ?_;refine Zq (by exact ps_add rfl rfl rfl (by omega)) ?_;refine Za ?_;refine Ze3 0 3 4 ?_)|(refine Zr 5 ?_;refine Zm ?_;refine Zm ?_;refine Zm ?_;refine Zm ?_;refine Zq (by exact ps_indexN rfl rfl rfl (by omega) (by exact isw_of (isS_fl (by assumption) (by omega)))) ?_;refine Zq (by exact ps_load rfl rfl (by exact Rds.cell (rds_rf (by assumption) List.mem_cons_self) (by exact fl_at0 _ _ (by omega) (by decide)))) ?_;refine Zn (by exact ms_c1 rfl rfl (fun _ _ w hw => toEntS_c _ _ (nth R p.length).d w (rds_rf (H2.out p.length (by omega)) List.mem_cons_self _ _ w hw) (HS.out _ (by omega)))) ?_;rintro y20 hy20;refine Zq (by exact ps_indexN rfl rfl rfl (by omega) (isw_ga _)) ?_;refine Zo (by exact ms_setw 2 p.length (⟨(nth R p.length).d,(y20 0).A,(y20 0).c⟩ : LE) rfl rfl rfl rfl rfl rfl rfl rfl rfl (by simp;omega)) ?_;rintro y_ hy_;refine Ze3 0 3 4 ?_)|(refine Zr 6 ?_;refine Zm ?_;refine Za ?_;refine Ze1 2 ?_))
  · refine fun a w' he hw => ⟨⟨p ++ [⟨(nth R p.length).d,(y20 0).A,(y20 0).c⟩],by simp;omega,?_⟩,by simp;omega,he.sub ⟨rfl,rfl,by simp;rfl,trivial⟩,?_⟩
    · have hlt : p.length < (dats R).length := by rw [dats_len];omega
      rw [dats_snoc,HD.out,List.length_append,List.length_singleton,List.take_succ_eq_append_getElem hlt]
      congr 2
      simp [dats,nth,show p.length < R.length from by omega]
    · have := WOk.bagAdd (⟨(nth R p.length).d,(y20 0).A,(y20 0).c⟩ : LE) rfl rfl hw
      obtain ⟨m,hm⟩ : ∃ m,R.length - p.length = m + 1 := ⟨R.length - p.length - 1,by omega⟩
      rw [hm,fillP] at this
      simp only [List.length_append,List.length_singleton]
      rw [show R.length - (p.length + 1) = m by omega]
      exact this
  · have hpl : p.length = R.length := by omega
    have hdp : dats p = dats R := by rw [HD.out,hpl,← dats_len,List.take_length]
    refine ok_endL (vs := [_]) rfl ⟨rfl,trivial⟩ (fun w' hw => ⟨mkR [⟨ga (y7 0).c,R.length,w,0⟩] p w,rfl,trivial,hw.below,?_⟩)
    rw [← hdp,locs_mkR [⟨ga (y7 0).c,R.length,w,0⟩] p w 1 rfl]
    have := NewOk.of (hw.sel [1,0] (by decide) rfl (G' := []) (fun _ h => by cases h))
    rw [hpl,Nat.sub_self,List.replicate_zero,List.append_nil] at this
    exact this
theorem eqEntSS_c (A B : Option Addr) (c d : Nat) (R S : List LE) (e : dats S = dats R) (w : World) (h : RdN w A R) (k : RdN w B S) (hl : R.length ≤ 140737488355328) (hs : ∀ x ∈ dats R,x.length ≤ 140737488355328) :
    Calls Tryz.prog 213 #[.slice A R.length c,.slice B S.length d] w fun e w' => e = .returned (.bool true) ∧ Below w.heap.size w w' := by
  have hSR : S.length = R.length := by rw [← dats_len,e,dats_len]
  obtain ⟨h1,h2⟩ := h
  obtain ⟨k1,k2⟩ := k
  have hs' : ∀ k,k < R.length → (nth R k).d.length ≤ 140737488355328 := fun k hk => hs _ (List.mem_map.2 ⟨_,nth_mem R k hk,rfl⟩)
  have he := fun k (hk : k < R.length) => dats_nth e k hk
  clear hs
  have HS := Lib.hid hs';clear hs'
  have H2 := Lib.hid h2;clear h2
  have K2 := Lib.hid k2;clear k2
  have HE := Lib.hid he;clear he
  refine ok_enter 27 Tryz.func213 rfl rfl rfl ?_
  repeat' (first|refine Wa ?_|refine Wb ?_|refine Wc ?_|refine Wd ?_|(refine ok_cond rfl (fun hc => ?_) (fun hc => ?_) <;> (have hd := hc;try simp only [jj] at hd))|refine Wg ?_|refine Wi ?_|(refine Zr 0 ?_;refine Za ?_;refine Ze2 0 1 ?_)|(refine Zr 1 ?_;refine Zm ?_;refine Zq (ps_len rfl rfl) ?_;refine Zm ?_;refine Zq (ps_len rfl rfl) ?_;refine Zi ?_;refine Ze3 0 1 10 ?_)|(refine Zr 2 ?_;refine Za ?_;refine Ze1 4 ?_)|(refine Zr 3 ?_;refine Za ?_;refine Ze3 0 1 5 ?_))
  · exfalso;simp [hSR] at hc
  · refine ok_loop (ι := { k : Nat // k ≤ R.length }) (fun k => R.length - k.1) (fun k => ([(0,.slice A R.length c),(1,.slice B S.length d),(5,.int .i64 k.1)],_,_)) ⟨0,by omega⟩ (fun a w he hw => ⟨⟨0,by omega⟩,he.sub ⟨rfl,rfl,rfl,trivial⟩,hw⟩) ?_
    rintro ⟨k,hk⟩
    simp only at hk ⊢
    repeat' (first|refine Wa ?_|refine Wb ?_|refine Wd ?_|refine We ?_|(refine ok_cond rfl (fun hc => ?_) (fun hc => ?_) <;> (have hd := hc;try simp only [jj] at hd))|refine Wg ?_|refine Wh ?_|refine Wi ?_|(refine Zr 4 ?_;refine Zm ?_;refine Zm ?_;refine Zq (ps_len rfl rfl) ?_;refine Zi ?_;refine Ze4 0 1 5 14 ?_)|(refine Zr 5 ?_;refine Zm ?_;refine Zq (by exact ps_add rfl rfl rfl (by omega)) ?_;refine Za ?_;refine Ze3 0 1 5 ?_)|(refine Xd 6 10 ?_;refine Xm 0 ?_;refine Xm 1 ?_;refine Xt 2 rfl (by exact ps_indexN rfl rfl rfl (by omega) (by exact isw_of (isS_fl (by assumption) (by omega)))) ?_;refine Xt 3 rfl (by exact ps_load rfl rfl (by exact Rds.cell (rds_rf (by assumption) List.mem_cons_self) (by exact fl_at0 _ _ (by omega) (by decide)))) ?_;refine Xm 4 ?_;refine Xm 5 ?_;refine Xt 6 rfl (by exact ps_indexN rfl rfl rfl (by omega) (by exact isw_of (isS_fl (by assumption) (by omega)))) ?_;refine Xt 7 rfl (by exact ps_load rfl rfl (by exact Rds.cell (rds_rf (by assumption) List.mem_cons_self) (by exact fl_at0 _ _ (by omega) (by decide)))) ?_;refine Xo 8 rfl (by exact ms_s2 rfl rfl rfl (fun _ _ w hw => eqEntS_N _ _ _ _ (nth R k).d (nth S k).d (HE.out k (by omega)) w (rds_rf (H2.out k (by omega)) List.mem_cons_self _ _ w hw) (rds_rf (K2.out k (by omega)) List.mem_cons_self _ _ w hw) (HS.out k (by omega)))) (fun y w _ h => by exact h) ?_;rintro y25 hy25;refine Xt 9 rfl (ps_not rfl rfl) ?_;refine okT_done (by kernel_rfl) ?_;refine Ze4 0 1 5 26 ?_)|(refine Zr 8 ?_;refine Za ?_;refine Ze1 4 ?_))
    all_goals first
      | (exfalso;simp [sEq] at hc;done)
      | exact fun a w' he hw => ⟨⟨k + 1,by omega⟩,by simp only;omega,he.sub ⟨rfl,rfl,rfl,trivial⟩,hw⟩
      | exact ok_endL (vs := [_]) rfl ⟨rfl,trivial⟩ (fun w' hw => ⟨rfl,hw.below⟩)
def offE (x : List (List Ent)) (i : Nat) : Nat := offR List.length x i
def mkE1 (k0 : Int) (x : List (List Ent)) (i : Nat) (l : List Ent) : List Ent := mkL (k0 + 4 * (offE x i : Int)) l.length
def mkEL (k0 : Int) (x : List (List Ent)) (i : Nat) (l : LE) : LE := ⟨mkE1 k0 x i l.d,l.A,l.c⟩
theorem offE_le (x : List (List Ent)) (hx : x.length ≤ 4194304) (hs : ∀ l ∈ x,l.length ≤ 4194304) (i : Nat) : offE x i ≤ 17592186044416 := by
  have := offR_le List.length x 4194304 hs i
  have h2 : x.length * 4194304 ≤ 4194304 * 4194304 := Nat.mul_le_mul_right _ hx
  unfold offE;omega
theorem offE_succ (R : List LE) (i : Nat) (h : i < R.length) : offE (dats R) (i + 1) = offE (dats R) i + (nth R i).d.length := by
  rw [nthL R i h]
  have hd : i < (dats R).length := by rw [dats_len];exact h
  unfold offE offR
  rw [List.take_succ_eq_append_getElem hd,List.map_append,List.sum_append]
  simp [dats]
theorem markEntSS_c (A : Option Addr) (c : Nat) (R : List LE) (k0 : Int) (hk0 : 0 ≤ k0 ∧ k0 ≤ 100000000000000) (hl : R.length ≤ 4194304) (hs : ∀ x ∈ dats R,x.length ≤ 4194304) {base : Nat} {w0 w : World} {H : List HObj} {G : List World}
    (hw : WOk base w0 (.row 85 1 A R.length c (fl R) :: .bag 204 4 (rowsOf R) :: H) G w) :
    Calls Tryz.prog 111 #[.slice A R.length c,.int .i64 k0] w fun e w' => ∃ y : Ys,e = .returned (.int .i64 (k0 + 4 * (offE (dats R) R.length : Int))) ∧ True ∧ WOk base w0 (.row 85 1 A R.length c (fl R) :: .bag 204 4 (rowsOf (mixR (mkEL k0 (dats R)) R.length R)) :: H) G w' := by
  have hs' : ∀ k,k < R.length → (nth R k).d.length ≤ 4194304 := fun k hk => hs _ (List.mem_map.2 ⟨_,nth_mem R k hk,rfl⟩)
  have ho : ∀ k,offE (dats R) k ≤ 17592186044416 := offE_le _ (by rw [dats_len];exact hl) hs
  clear hs
  have HS := Lib.hid hs';clear hs'
  have HO := Lib.hid ho;clear ho
  refine ok_enterW 19 Tryz.func111 rfl rfl rfl hw ?_
  repeat' (first|refine Wa ?_|refine Wb ?_|refine Wd ?_|(refine Zr 0 ?_;refine Za ?_;refine Ze2 0 1 ?_)|(refine Zr 1 ?_;refine Za ?_;refine Ze3 0 1 5 ?_))
  refine ok_loop (ι := { k : Nat // k ≤ R.length }) (fun k => R.length - k.1) (fun k => ([(0,.slice A R.length c),(1,.int .i64 (k0 + 4 * (offE (dats R) k.1 : Int))),(5,.int .i64 k.1)],.row 85 1 A R.length c (fl R) :: .bag 204 4 (rowsOf (mixR (mkEL k0 (dats R)) k.1 R)) :: H,_)) ⟨0,by omega⟩ (fun a w he hw => ⟨⟨0,by omega⟩,he.sub ⟨rfl,by simp [look,initE,offE,offR_zero],rfl,trivial⟩,by rw [mixR_zero];exact hw⟩) ?_
  rintro ⟨k,hk⟩
  simp only at hk ⊢
  have hok := HO.out k
  repeat' (first|refine Wa ?_|refine Wb ?_|refine Wd ?_|refine We ?_|(refine ok_cond rfl (fun hc => ?_) (fun hc => ?_) <;> (have hd := hc;try simp only [jj] at hd))|refine Wg ?_|refine Wh ?_|refine Wi ?_|(refine Zr 2 ?_;refine Zm ?_;refine Zm ?_;refine Zq (ps_len rfl rfl) ?_;refine Zi ?_;refine Ze4 0 1 5 9 ?_)|(refine Zr 3 ?_;refine Zm ?_;refine Zq (by exact ps_add rfl rfl rfl (by omega)) ?_;refine Za ?_;refine Ze3 0 1 5 ?_)|(refine Zr 4 ?_;refine Zm ?_;refine Zm ?_;refine Zq (by exact ps_indexN rfl rfl rfl (by omega) (by exact isw_row 0 rfl (by omega))) ?_;refine Zq (by exact ps_load rfl rfl (by exact Rds.cell (rds_row 0 rfl) (by exact fl_at0 _ _ (by omega) (by decide)))) ?_;refine Zm ?_;refine Zn (by exact ms_wr 1 rfl rfl rfl rfl (fun _ _ w hw => bag_call (R := mixR (mkEL k0 (dats R)) k R) k (mkEL k0 (dats R) k (nth R k)) (by rw [mixR_len];omega) (fun H hw => by (have e : nth (mixR (mkEL k0 (dats R)) k R) k = nth R k := (by rw [mixR_nth _ _ _ _ (by omega),if_neg (by omega)]);rw [e] at hw;have := markEntS_c _ _ (nth R k).d (k0 + 4 * (offE (dats R) k : Int)) ⟨by omega,by omega⟩ (by have := HS.out k (by omega);omega) hw;simp only [mkEL,mkE1,In.inn,id,mkL_len];exact this)) hw)) ?_;rintro y17 hy17;refine Za ?_;refine Ze3 0 1 5 ?_)|(refine Zr 5 ?_;refine Zm ?_;refine Za ?_;refine Ze1 4 ?_))
  · refine fun a w' he hw => ⟨⟨k + 1,by omega⟩,by simp only;omega,he.sub ⟨rfl,?_,rfl,trivial⟩,?_⟩
    · simp only [look];congr 2;rw [offE_succ R k (by omega)];simp;omega
    · have e : nth (mixR (mkEL k0 (dats R)) k R) k = nth R k := by rw [mixR_nth _ _ _ _ (by omega),if_neg (by omega)]
      simp only
      rw [← mixR_step _ k R (by omega)]
      exact hw
  · obtain rfl : k = R.length := by omega
    exact ok_endL (vs := [_]) rfl ⟨rfl,trivial⟩ (fun w' hw => ⟨mkY none 0 w,rfl,trivial,hw⟩)
end Go.Proofs.YtmfojbidojjciaaGreat
namespace Go.Proofs.YtmfojbidojjciaaGreat
open Go.RowKit
set_option maxHeartbeats 2000000
attribute [local irreducible] Calls
structure KeySlot where
  ten : Int
  key : ByteArray
  deriving DecidableEq
instance : Dat KeySlot := ⟨2,fun x => [.int .i64 x.ten,.string x.key],fun _ => rfl,⟨0,⟨#[]⟩⟩⟩
instance : Mk KeySlot := ⟨2,fun q => ⟨q,mT (q + 1)⟩⟩
def wtKeySlot (x : KeySlot) : Prop := x.key.size ≤ 1048576
def bigKeySlot (x : KeySlot) : Prop := x.key.size ≤ maxLen
theorem szKeySlot_c (x : KeySlot) (left : Int) (hl : 0 ≤ left ∧ left ≤ 1048576) (hx : bigKeySlot x) (w : World) :
    Calls Tryz.prog 132 #[.agg (Dat.cells x).toArray,.int .i64 left] w fun e w' => ∃ y : Ys,e = .returned (.int .i64 (y 0).n) ∧ (-1 ≤ (y 0).n ∧ (y 0).n ≤ left ∧ (0 ≤ (y 0).n → wtKeySlot x)) ∧ Below w.heap.size w w' ∧ NewOk w.heap.size [] [] w' := by
  unfold bigKeySlot maxLen at hx
  refine ok_enter 13 Tryz.func132 rfl rfl rfl ?_
  repeat' (first|refine Wa ?_|refine Wb ?_|refine Wc ?_|(refine ok_cond rfl (fun hc => ?_) (fun hc => ?_) <;> (have hd := hc;try simp only [jj] at hd))|refine Wg ?_|refine Wi ?_|(refine Zr 0 ?_;refine Zn (ms_box rfl rfl rfl) ?_;rintro y2 hy2;refine Za ?_;refine Ze2 1 2 ?_)|(refine Zr 1 ?_;refine Zm ?_;refine Zf ?_;refine Zl 0 ?_;refine Zq (ps_slen rfl rfl) ?_;refine Zq (by exact ps_sub rfl rfl rfl (by omega)) ?_;refine Za ?_;refine Ze1 1 ?_)|(refine Zr 2 ?_;refine Zm ?_;refine Zi ?_;refine Ze2 1 11 ?_)|(refine Zr 3 ?_;refine Za ?_;refine Ze1 4 ?_)|(refine Zr 4 ?_;refine Zm ?_;refine Za ?_;refine Ze1 4 ?_))
  all_goals first
    | exact ok_endL (vs := [_]) rfl ⟨rfl,trivial⟩ (fun w' hw => ⟨mkN (-1) w,rfl,⟨by show (-1 : Int) ≤ -1;decide,by show (-1 : Int) ≤ left;omega,fun h => absurd h (by show ¬ (0 : Int) ≤ -1;decide)⟩,hw.below,NewOk.nil _ _⟩)
    | exact ok_endL (vs := [_]) rfl ⟨rfl,trivial⟩ (fun w' hw => ⟨mkN (left - (x.key.size : Int)) w,rfl,⟨by show -1 ≤ left - (x.key.size : Int);omega,by show left - (x.key.size : Int) ≤ left;omega,fun _ => by unfold wtKeySlot;omega⟩,hw.below,NewOk.nil _ _⟩)
theorem toKeySlot_c (x : KeySlot) (w : World) :
    Calls Tryz.prog 141 #[.agg (Dat.cells x).toArray] w fun e w' => e = .returned (.agg (Dat.cells x).toArray) ∧ Below w.heap.size w w' := by
  refine ok_enter 11 Tryz.func141 rfl rfl rfl ?_
  repeat' (first|refine Wa ?_|refine Wb ?_|refine Wg ?_|(refine Zr 0 ?_;refine Zn (ms_box rfl rfl rfl) ?_;rintro y1 hy1;refine Zn (ms_alloc rfl) ?_;rintro y2 hy2;refine Ze2 1 2 ?_)|(refine Zr 1 ?_;refine Zn (ms_alloc rfl) ?_;rintro y3 hy3;refine Ze3 1 2 3 ?_)|(refine Zr 2 ?_;refine Zf ?_;refine Zl 2 ?_;refine Zf ?_;refine Zo (ms_store 0 rfl rfl rfl rfl rfl rfl rfl rfl) ?_;rintro y_ hy_;refine Ze3 1 2 3 ?_)|(refine Zr 3 ?_;refine Zf ?_;refine Zl 2 ?_;refine Zf ?_;refine Zo (ms_store 0 rfl rfl rfl rfl rfl rfl rfl rfl) ?_;rintro y_ hy_;refine Ze2 2 3 ?_)|(refine Zr 4 ?_;refine Zq (by exact ps_loads rfl rfl (by exact rds_box 0 rfl) rfl rfl (by decide)) ?_;refine Zo (ms_store 1 rfl rfl rfl rfl rfl rfl rfl rfl) ?_;rintro y_ hy_;refine Ze1 2 ?_))
  exact ok_endL (vs := [.agg (Dat.cells x).toArray]) rfl ⟨⟨_,1,_,_,_,rfl,rfl,inferInstance,rfl,rfl⟩,trivial⟩ (fun w' hw => ⟨rfl,hw.below⟩)
theorem eqKeySlot_c (x : KeySlot) (w : World) :
    Calls Tryz.prog 152 #[.agg (Dat.cells x).toArray,.agg (Dat.cells x).toArray] w fun e w' => e = .returned (.bool true) ∧ Below w.heap.size w w' := by
  refine ok_enter 15 Tryz.func152 rfl rfl rfl ?_
  repeat' (first|refine Wa ?_|refine Wb ?_|refine Wc ?_|(refine ok_cond rfl (fun hc => ?_) (fun hc => ?_) <;> (have hd := hc;try simp only [jj] at hd))|refine Wg ?_|refine Wi ?_|(refine Zr 0 ?_;refine Zn (ms_box rfl rfl rfl) ?_;rintro y2 hy2;refine Zn (ms_box rfl rfl rfl) ?_;rintro y3 hy3;refine Za ?_;refine Ze2 2 3 ?_)|(refine Zr 1 ?_;refine Zf ?_;refine Zl 1 ?_;refine Zf ?_;refine Zl 0 ?_;refine Zi ?_;refine Ze3 2 3 9 ?_)|(refine Zr 2 ?_;refine Za ?_;refine Ze1 4 ?_)|(refine Zr 3 ?_;refine Zf ?_;refine Zl 1 ?_;refine Zf ?_;refine Zl 0 ?_;refine Zq (ps_str rfl rfl rfl rfl) ?_;refine Ze1 14 ?_)|(refine Zr 4 ?_;refine Za ?_;refine Ze1 4 ?_)|(refine Zr 5 ?_;refine Za ?_;refine Ze1 4 ?_))
  all_goals first
    | (exfalso;simp [sEq] at hc;done)
    | exact ok_endL (vs := [_]) rfl ⟨rfl,trivial⟩ (fun w' hw => ⟨rfl,hw.below⟩)
theorem szKeySlotS_c (A : Option Addr) (c : Nat) (l : List KeySlot) (left : Int) (hl : 0 ≤ left ∧ left ≤ 1048576) (hn : l.length ≤ maxLen) (hx : ∀ x ∈ l,bigKeySlot x) (w : World) (h : Rd w A (fl l)) :
    Calls Tryz.prog 81 #[.slice A l.length c,.int .i64 left] w fun e w' => ∃ y : Ys,e = .returned (.int .i64 (y 0).n) ∧ (-1 ≤ (y 0).n ∧ (y 0).n ≤ left ∧ (0 ≤ (y 0).n → (l.length : Int) ≤ left ∧ ∀ x ∈ l,wtKeySlot x)) ∧ Below w.heap.size w w' ∧ NewOk w.heap.size [] [] w' := by
  unfold maxLen at hn
  refine ok_enter 27 Tryz.func81 rfl rfl rfl ?_
  repeat' (first|refine Wa ?_|refine Wb ?_|refine Wc ?_|refine Wd ?_|(refine ok_cond rfl (fun hc => ?_) (fun hc => ?_) <;> (have hd := hc;try simp only [jj] at hd))|refine Wg ?_|refine Wi ?_|(refine Zr 0 ?_;refine Za ?_;refine Ze2 0 1 ?_)|(refine Zr 1 ?_;refine Zm ?_;refine Zm ?_;refine Zq (ps_len rfl rfl) ?_;refine Zq (by exact ps_sub rfl rfl rfl (by omega)) ?_;refine Za ?_;refine Ze2 0 1 ?_)|(refine Zr 2 ?_;refine Zm ?_;refine Zi ?_;refine Ze3 0 1 11 ?_)|(refine Zr 3 ?_;refine Za ?_;refine Ze1 4 ?_)|(refine Zr 4 ?_;refine Za ?_;refine Ze3 0 1 5 ?_))
  · exact ok_endL (vs := [_]) rfl ⟨rfl,trivial⟩ (fun w' hw => ⟨mkN (-1) w,rfl,⟨by show (-1 : Int) ≤ -1;decide,by show (-1 : Int) ≤ left;omega,fun h => absurd h (by show ¬ (0 : Int) ≤ -1;decide)⟩,hw.below,NewOk.nil _ _⟩)
  · refine ok_loop (ι := { p : Nat × Int // p.1 ≤ l.length ∧ 0 ≤ p.2 ∧ p.2 ≤ left - l.length ∧ ∀ j,j < p.1 → wtKeySlot (nth l j) }) (fun p => l.length - p.1.1) (fun p => ([(0,.slice A l.length c),(1,.int .i64 p.1.2),(5,.int .i64 p.1.1)],_,_)) ⟨(0,left - l.length),by simp only;omega,by simp only;omega,by simp only;omega,fun j h => absurd h (Nat.not_lt_zero j)⟩ (fun a w he hw => ⟨⟨(0,left - l.length),by simp only;omega,by simp only;omega,by simp only;omega,fun j h => absurd h (Nat.not_lt_zero j)⟩,he.sub ⟨rfl,rfl,rfl,trivial⟩,hw⟩) ?_
    rintro ⟨⟨k,r⟩,hk,hr0,hr1,hwt⟩
    simp only at hk hr0 hr1 hwt ⊢
    have HW := Lib.hid hwt;clear hwt
    repeat' (first|refine Wa ?_|refine Wb ?_|refine Wc ?_|refine Wd ?_|refine We ?_|refine Wf ?_|(refine ok_cond rfl (fun hc => ?_) (fun hc => ?_) <;> (have hd := hc;try simp only [jj] at hd))|refine Wg ?_|refine Wh ?_|refine Wi ?_|(refine Zr 5 ?_;refine Zm ?_;refine Zm ?_;refine Zq (ps_len rfl rfl) ?_;refine Zi ?_;refine Ze4 0 1 5 15 ?_)|(refine Zr 6 ?_;refine Zm ?_;refine Zq (by exact ps_add rfl rfl rfl (by omega)) ?_;refine Za ?_;refine Ze3 0 1 5 ?_)|(refine Zr 7 ?_;refine Zm ?_;refine Zm ?_;refine Zq (by exact ps_indexN rfl rfl rfl (by omega) (by exact isw_of (isS_fl (by assumption) (by omega)))) ?_;refine Zq (by exact ps_loadsF rfl rfl (by exact rds_rf (by assumption) List.mem_cons_self) (by rfl) (by rfl) (by omega) rfl) ?_;refine Zm ?_;refine Zn (by exact ms_c2 rfl rfl rfl (fun _ _ w hw => szKeySlot_c _ _ ⟨by omega,by omega⟩ (hx _ (nth_mem l k (by omega))) w)) ?_;rintro y23 hy23;refine Za ?_;refine Ze3 0 1 5 ?_)|(refine Zr 8 ?_;refine Zm ?_;refine Zi ?_;refine Ze4 0 1 5 25 ?_)|(refine Zr 9 ?_;refine Za ?_;refine Ze1 4 ?_)|(refine Zr 10 ?_;refine Zm ?_;refine Za ?_;refine Ze1 4 ?_))
    · exact ok_endL (vs := [_]) rfl ⟨rfl,trivial⟩ (fun w' hw => ⟨mkN (-1) w,rfl,⟨by show (-1 : Int) ≤ -1;decide,by show (-1 : Int) ≤ left;omega,fun h => absurd h (by show ¬ (0 : Int) ≤ -1;decide)⟩,hw.below,NewOk.nil _ _⟩)
    · obtain ⟨g1,g2,g3⟩ := hy23
      refine fun a w' he hw => ⟨⟨(k + 1,(y23 0).n),by simp only;omega,by simp only;omega,by simp only;omega,fun j hj => ?_⟩,by simp only;omega,he.sub ⟨rfl,rfl,rfl,trivial⟩,hw⟩
      rcases Nat.lt_succ_iff_lt_or_eq.1 hj with h' | h'
      · exact HW.out j h'
      · subst h';exact g3 (by omega)
    · obtain rfl : k = l.length := by omega
      exact ok_endL (vs := [_]) rfl ⟨rfl,trivial⟩ (fun w' hw => ⟨mkN r w,rfl,⟨by show -1 ≤ r;omega,by show r ≤ left;omega,fun _ => ⟨by omega,mem_nth (fun j hj => HW.out j hj)⟩⟩,hw.below,NewOk.nil _ _⟩)
theorem toKeySlotS_c (A : Option Addr) (c : Nat) (l : List KeySlot) (w : World) (h : Rd w A (fl l)) (hl : l.length ≤ 1048576) :
    Calls Tryz.prog 90 #[.slice A l.length c] w fun e w' => ∃ y : Ys,e = .returned (.slice (y 0).A l.length (y 0).c) ∧ True ∧ Below w.heap.size w w' ∧ NewOk w.heap.size [.row 99 2 (y 0).A l.length (y 0).c (fl l)] [] w' := by
  refine ok_enter 23 Tryz.func90 rfl rfl rfl ?_
  repeat' (first|refine Wa ?_|refine Wb ?_|refine Wd ?_|(refine Zr 0 ?_;refine Za ?_;refine Ze1 0 ?_)|(refine Zr 1 ?_;refine Zm ?_;refine Zq (ps_len rfl rfl) ?_;refine Zn (by exact ms_make (z := Dat.cells (Dat.dflt : KeySlot)) rfl rfl rfl (by omega) (by omega)) ?_;rintro y7 hy7;refine Za ?_;refine Ze2 0 3 ?_)|(refine Zr 2 ?_;refine Za ?_;refine Ze3 0 3 4 ?_))
  rw [show (madeCells (Dat.cells (Dat.dflt : KeySlot)).toArray (l.length * 2)).toList = fl (List.replicate l.length (Dat.dflt : KeySlot)) from made_fl (Dat.dflt : KeySlot) l.length]
  refine ok_loop (ι := { k : Nat // k ≤ l.length }) (fun k => l.length - k.1) (fun k => ([(0,.slice A l.length c),(3,.slice (ga (y7 0).c) l.length l.length),(4,.int .i64 k.1)],[.row 99 2 (ga (y7 0).c) l.length l.length (fl (l.take k.1 ++ List.replicate (l.length - k.1) (Dat.dflt : KeySlot)))],_)) ⟨0,by omega⟩ (fun a w he hw => ⟨⟨0,by omega⟩,he.sub ⟨rfl,rfl,rfl,trivial⟩,by simpa using hw⟩) ?_
  rintro ⟨k,hk⟩
  simp only at hk ⊢
  repeat' (first|refine Wa ?_|refine Wb ?_|refine Wd ?_|refine We ?_|(refine ok_cond rfl (fun hc => ?_) (fun hc => ?_) <;> (have hd := hc;try simp only [jj] at hd))|refine Wg ?_|refine Wh ?_|refine Wi ?_|(refine Zr 3 ?_;refine Zm ?_;refine Zm ?_;refine Zq (ps_len rfl rfl) ?_;refine Zi ?_;refine Ze4 0 3 4 11 ?_)|(refine Zr 4 ?_;refine Zm ?_;refine Zq (by exact ps_add rfl rfl rfl (by omega)) ?_;refine Za ?_;refine Ze3 0 3 4 ?_)|(refine Zr 5 ?_;refine Zm ?_;refine Zm ?_;refine Zm ?_;refine Zm ?_;refine Zq (by exact ps_indexN rfl rfl rfl (by omega) (by exact isw_of (isS_fl (by assumption) (by omega)))) ?_;refine Zq (by exact ps_loadsF rfl rfl (by exact rds_rf (by assumption) List.mem_cons_self) (by rfl) (by rfl) (by omega) rfl) ?_;refine Zn (by exact ms_s1 rfl rfl (fun _ _ w hw => toKeySlot_c _ w)) ?_;rintro y20 hy20;refine Zq (by exact ps_indexN rfl rfl rfl (by omega) (isw_ga _)) ?_;refine Zo (by exact ms_setw 0 k (nth l k) rfl rfl rfl rfl rfl rfl rfl rfl rfl (by simp;omega)) ?_;rintro y_ hy_;refine Ze3 0 3 4 ?_)|(refine Zr 6 ?_;refine Zm ?_;refine Za ?_;refine Ze1 2 ?_))
  · refine fun a w' he hw => ⟨⟨k + 1,by omega⟩,by simp only;omega,he.sub ⟨rfl,rfl,rfl,trivial⟩,?_⟩
    simp only
    rw [← fill_step l Dat.dflt k (by omega)]
    exact hw
  · obtain rfl : k = l.length := by omega
    refine ok_endL (vs := [_]) rfl ⟨rfl,trivial⟩ (fun w' hw => ⟨mkY (ga (y7 0).c) l.length w,rfl,trivial,hw.below,?_⟩)
    have := NewOk.of hw
    simpa [mkY] using this
theorem eqKeySlotS_c (A B : Option Addr) (c d : Nat) (l : List KeySlot) (w : World) (h : Rd w A (fl l)) (h2 : Rd w B (fl l)) (hl : l.length ≤ 140737488355328) :
    Calls Tryz.prog 99 #[.slice A l.length c,.slice B l.length d] w fun e w' => e = .returned (.bool true) ∧ Below w.heap.size w w' := by
  refine ok_enter 27 Tryz.func99 rfl rfl rfl ?_
  repeat' (first|refine Wa ?_|refine Wb ?_|refine Wc ?_|refine Wd ?_|(refine ok_cond rfl (fun hc => ?_) (fun hc => ?_) <;> (have hd := hc;try simp only [jj] at hd))|refine Wg ?_|refine Wi ?_|(refine Zr 0 ?_;refine Za ?_;refine Ze2 0 1 ?_)|(refine Zr 1 ?_;refine Zm ?_;refine Zq (ps_len rfl rfl) ?_;refine Zm ?_;refine Zq (ps_len rfl rfl) ?_;refine Zi ?_;refine Ze3 0 1 10 ?_)|(refine Zr 2 ?_;refine Za ?_;refine Ze1 4 ?_)|(refine Zr 3 ?_;refine Za ?_;refine Ze3 0 1 5 ?_))
  · exact absurd hc (by simp)
  · refine ok_loop (ι := { k : Nat // k ≤ l.length }) (fun k => l.length - k.1) (fun k => ([(0,.slice A l.length c),(1,.slice B l.length d),(5,.int .i64 k.1)],_,_)) ⟨0,by omega⟩ (fun a w he hw => ⟨⟨0,by omega⟩,he.sub ⟨rfl,rfl,rfl,trivial⟩,hw⟩) ?_
    rintro ⟨k,hk⟩
    simp only at hk ⊢
    repeat' (first|refine Wa ?_|refine Wb ?_|refine Wd ?_|refine We ?_|(refine ok_cond rfl (fun hc => ?_) (fun hc => ?_) <;> (have hd := hc;try simp only [jj] at hd))|refine Wg ?_|refine Wh ?_|refine Wi ?_|(refine Zr 4 ?_;refine Zm ?_;refine Zm ?_;refine Zq (ps_len rfl rfl) ?_;refine Zi ?_;refine Ze4 0 1 5 14 ?_)|(refine Zr 5 ?_;refine Zm ?_;refine Zq (by exact ps_add rfl rfl rfl (by omega)) ?_;refine Za ?_;refine Ze3 0 1 5 ?_)|(refine Xd 6 10 ?_;refine Xm 0 ?_;refine Xm 1 ?_;refine Xt 2 rfl (by exact ps_indexN rfl rfl rfl (by omega) (by exact isw_of (isS_fl (by assumption) (by omega)))) ?_;refine Xt 3 rfl (by exact ps_loadsF rfl rfl (by exact rds_rf (by assumption) List.mem_cons_self) (by rfl) (by rfl) (by omega) rfl) ?_;refine Xm 4 ?_;refine Xm 5 ?_;refine Xt 6 rfl (by exact ps_indexN rfl rfl rfl (by omega) (by exact isw_of (isS_fl (by assumption) (by omega)))) ?_;refine Xt 7 rfl (by exact ps_loadsF rfl rfl (by exact rds_rf (by assumption) List.mem_cons_self) (by rfl) (by rfl) (by omega) rfl) ?_;refine Xo 8 rfl (by exact ms_s2 rfl rfl rfl (fun _ _ w hw => eqKeySlot_c _ w)) (fun y w _ h => by exact h) ?_;rintro y25 hy25;refine Xt 9 rfl (ps_not rfl rfl) ?_;refine okT_done (by kernel_rfl) ?_;refine Ze4 0 1 5 26 ?_)|(refine Zr 8 ?_;refine Za ?_;refine Ze1 4 ?_))
    all_goals first
      | (exfalso;simp [sEq] at hc;done)
      | exact fun a w' he hw => ⟨⟨k + 1,by omega⟩,by simp only;omega,he.sub ⟨rfl,rfl,rfl,trivial⟩,hw⟩
      | exact ok_endL (vs := [_]) rfl ⟨rfl,trivial⟩ (fun w' hw => ⟨rfl,hw.below⟩)
theorem markKeySlotS_c (A : Option Addr) (c : Nat) (l : List KeySlot) (k0 : Int) (hk0 : 0 ≤ k0 ∧ k0 ≤ 1000000000000000) (hl : l.length ≤ 140737488355328) {base : Nat} {w0 w : World} {H : List HObj} {G : List World}
    (hw : WOk base w0 (.row 99 2 A l.length c (fl l) :: H) G w) :
    Calls Tryz.prog 108 #[.slice A l.length c,.int .i64 k0] w fun e w' => ∃ y : Ys,e = .returned (.int .i64 (k0 + 2 * (l.length : Int))) ∧ True ∧ WOk base w0 (.row 99 2 A l.length c (fl (mkL k0 l.length : List KeySlot)) :: H) G w' := by
  refine ok_enterW 28 Tryz.func108 rfl rfl rfl hw ?_
  repeat' (first|refine Wa ?_|refine Wb ?_|refine Wd ?_|(refine Zr 0 ?_;refine Za ?_;refine Ze2 0 1 ?_)|(refine Zr 1 ?_;refine Za ?_;refine Ze3 0 1 5 ?_))
  refine ok_loop (ι := { k : Nat // k ≤ l.length }) (fun k => l.length - k.1) (fun k => ([(0,.slice A l.length c),(1,.int .i64 (k0 + 2 * (k.1 : Int))),(5,.int .i64 k.1)],.row 99 2 A l.length c (fl (mkL k0 k.1 ++ l.drop k.1)) :: H,_)) ⟨0,by omega⟩ (fun a w he hw => ⟨⟨0,by omega⟩,he.sub ⟨rfl,by simp [look,initE],rfl,trivial⟩,by simpa [mkL] using hw⟩) ?_
  rintro ⟨k,hk⟩
  simp only at hk ⊢
  repeat' (first|refine Wa ?_|refine Wb ?_|refine Wd ?_|refine We ?_|(refine ok_cond rfl (fun hc => ?_) (fun hc => ?_) <;> (have hd := hc;try simp only [jj] at hd))|refine Wg ?_|refine Wh ?_|refine Wi ?_|(refine Zr 2 ?_;refine Zm ?_;refine Zm ?_;refine Zq (ps_len rfl rfl) ?_;refine Zi ?_;refine Ze4 0 1 5 9 ?_)|(refine Zr 3 ?_;refine Zm ?_;refine Zq (by exact ps_add rfl rfl rfl (by omega)) ?_;refine Za ?_;refine Ze3 0 1 5 ?_)|(refine Zr 4 ?_;refine Zm ?_;refine Zm ?_;refine Zm ?_;refine Zq (by exact ps_indexN rfl rfl rfl (by omega) (by exact isw_row 0 rfl (by omega))) ?_;refine Zq (by exact ps_field rfl rfl (by exact isw_row 0 rfl (by omega))) ?_;refine Zo (by exact ms_setc 0 k 0 (⟨(k0 + 2 * (k : Int)),(nth l k).key⟩ : KeySlot) rfl rfl rfl rfl rfl rfl rfl rfl (by rw [mk_nth _ _ _ (by omega)];rfl) (by simp [mkL_len];omega)) ?_;rintro y_ hy_;refine Ze3 0 1 5 ?_)|(refine Zr 5 ?_;refine Zm ?_;refine Zq (by exact ps_add rfl rfl rfl (by omega)) ?_;refine Za ?_;refine Ze3 0 1 5 ?_)|(refine Zr 6 ?_;refine Zm ?_;refine Zm ?_;refine Zm ?_;refine Zn (by exact ms_s1 rfl rfl (fun _ _ w hw => markText_c _ (by omega) w)) ?_;rintro y22 hy22;refine Zq (by exact ps_indexN rfl rfl rfl (by omega) (by exact isw_row 0 rfl (by omega))) ?_;refine Zq (by exact ps_field rfl rfl (by exact isw_row 0 rfl (by omega))) ?_;refine Zo (by exact ms_setc 0 k 1 (⟨(k0 + 2 * (k : Int)),mT ((k0 + 2 * (k : Int)) + 1)⟩ : KeySlot) rfl rfl rfl rfl rfl rfl rfl rfl (by rw [nth_set _ _ _ (by simp [mkL_len];omega)];rfl) (by simp [mkL_len];omega)) ?_;rintro y_ hy_;refine Ze3 0 1 5 ?_)|(refine Zr 7 ?_;refine Zm ?_;refine Zq (by exact ps_add rfl rfl rfl (by omega)) ?_;refine Za ?_;refine Ze3 0 1 5 ?_)|(refine Zr 8 ?_;refine Zm ?_;refine Za ?_;refine Ze1 4 ?_))
  · refine fun a w' he hw => ⟨⟨k + 1,by omega⟩,by simp only;omega,he.sub ⟨rfl,?_,rfl,trivial⟩,?_⟩
    · simp only [look];congr 2;simp;omega
    · have e := mk_step l k0 k (by omega)
      simp only
      rw [← e]
      refine WOk.same ?_ hw
      simp only [List.set_cons_zero,List.set_set]
      rfl
  · obtain rfl : k = l.length := by omega
    refine ok_endL (vs := [_]) rfl ⟨rfl,trivial⟩ (fun w' hw => ⟨mkY none 0 w,rfl,trivial,?_⟩)
    simpa using hw
end Go.Proofs.YtmfojbidojjciaaGreat
namespace Go.Proofs.YtmfojbidojjciaaGreat
open Go.RowKit
set_option maxHeartbeats 2000000
attribute [local irreducible] Calls
structure Share where
  ten : Int
  quo : Int
  deriving DecidableEq
instance : Dat Share := ⟨2,fun x => [.int .i64 x.ten,.int .i64 x.quo],fun _ => rfl,⟨0,0⟩⟩
instance : Mk Share := ⟨2,fun q => ⟨q,q + 1⟩⟩
def wtShare (x : Share) : Prop := True
def bigShare (x : Share) : Prop := True
theorem toShare_c (x : Share) (w : World) :
    Calls Tryz.prog 142 #[.agg (Dat.cells x).toArray] w fun e w' => e = .returned (.agg (Dat.cells x).toArray) ∧ Below w.heap.size w w' := by
  refine ok_enter 11 Tryz.func142 rfl rfl rfl ?_
  repeat' (first|refine Wa ?_|refine Wb ?_|refine Wg ?_|(refine Zr 0 ?_;refine Zn (ms_box rfl rfl rfl) ?_;rintro y1 hy1;refine Zn (ms_alloc rfl) ?_;rintro y2 hy2;refine Ze2 1 2 ?_)|(refine Zr 1 ?_;refine Zn (ms_alloc rfl) ?_;rintro y3 hy3;refine Ze3 1 2 3 ?_)|(refine Zr 2 ?_;refine Zf ?_;refine Zl 2 ?_;refine Zf ?_;refine Zo (ms_store 0 rfl rfl rfl rfl rfl rfl rfl rfl) ?_;rintro y_ hy_;refine Ze3 1 2 3 ?_)|(refine Zr 3 ?_;refine Zf ?_;refine Zl 2 ?_;refine Zf ?_;refine Zo (ms_store 0 rfl rfl rfl rfl rfl rfl rfl rfl) ?_;rintro y_ hy_;refine Ze2 2 3 ?_)|(refine Zr 4 ?_;refine Zq (by exact ps_loads rfl rfl (by exact rds_box 0 rfl) rfl rfl (by decide)) ?_;refine Zo (ms_store 1 rfl rfl rfl rfl rfl rfl rfl rfl) ?_;rintro y_ hy_;refine Ze1 2 ?_))
  exact ok_endL (vs := [.agg (Dat.cells x).toArray]) rfl ⟨⟨_,1,_,_,_,rfl,rfl,inferInstance,rfl,rfl⟩,trivial⟩ (fun w' hw => ⟨rfl,hw.below⟩)
theorem eqShare_c (x : Share) (w : World) :
    Calls Tryz.prog 153 #[.agg (Dat.cells x).toArray,.agg (Dat.cells x).toArray] w fun e w' => e = .returned (.bool true) ∧ Below w.heap.size w w' := by
  refine ok_enter 15 Tryz.func153 rfl rfl rfl ?_
  repeat' (first|refine Wa ?_|refine Wb ?_|refine Wc ?_|(refine ok_cond rfl (fun hc => ?_) (fun hc => ?_) <;> (have hd := hc;try simp only [jj] at hd))|refine Wg ?_|refine Wi ?_|(refine Zr 0 ?_;refine Zn (ms_box rfl rfl rfl) ?_;rintro y2 hy2;refine Zn (ms_box rfl rfl rfl) ?_;rintro y3 hy3;refine Za ?_;refine Ze2 2 3 ?_)|(refine Zr 1 ?_;refine Zf ?_;refine Zl 1 ?_;refine Zf ?_;refine Zl 0 ?_;refine Zi ?_;refine Ze3 2 3 9 ?_)|(refine Zr 2 ?_;refine Za ?_;refine Ze1 4 ?_)|(refine Zr 3 ?_;refine Zf ?_;refine Zl 1 ?_;refine Zf ?_;refine Zl 0 ?_;refine Zi ?_;refine Ze1 14 ?_)|(refine Zr 4 ?_;refine Za ?_;refine Ze1 4 ?_)|(refine Zr 5 ?_;refine Za ?_;refine Ze1 4 ?_))
  all_goals first
    | (exfalso;simp [sEq] at hc;done)
    | exact ok_endL (vs := [_]) rfl ⟨rfl,trivial⟩ (fun w' hw => ⟨rfl,hw.below⟩)
theorem szShareS_c (A : Option Addr) (c : Nat) (l : List Share) (left : Int) (hl : 0 ≤ left ∧ left ≤ 1048576) (hn : l.length ≤ maxLen) (hx : ∀ x ∈ l,bigShare x) (w : World) (h : Rd w A (fl l)) :
    Calls Tryz.prog 82 #[.slice A l.length c,.int .i64 left] w fun e w' => ∃ y : Ys,e = .returned (.int .i64 (y 0).n) ∧ (-1 ≤ (y 0).n ∧ (y 0).n ≤ left ∧ (0 ≤ (y 0).n → (l.length : Int) ≤ left ∧ ∀ x ∈ l,wtShare x)) ∧ Below w.heap.size w w' ∧ NewOk w.heap.size [] [] w' := by
  unfold maxLen at hn
  refine ok_enter 12 Tryz.func82 rfl rfl rfl ?_
  repeat' (first|refine Wa ?_|refine Wb ?_|refine Wc ?_|(refine ok_cond rfl (fun hc => ?_) (fun hc => ?_) <;> (have hd := hc;try simp only [jj] at hd))|refine Wg ?_|refine Wi ?_|(refine Zr 0 ?_;refine Za ?_;refine Ze2 0 1 ?_)|(refine Zr 1 ?_;refine Zm ?_;refine Zm ?_;refine Zq (ps_len rfl rfl) ?_;refine Zq (by exact ps_sub rfl rfl rfl (by omega)) ?_;refine Za ?_;refine Ze1 1 ?_)|(refine Zr 2 ?_;refine Zm ?_;refine Zi ?_;refine Ze2 1 10 ?_)|(refine Zr 3 ?_;refine Za ?_;refine Ze1 4 ?_)|(refine Zr 4 ?_;refine Zm ?_;refine Za ?_;refine Ze1 4 ?_))
  · exact ok_endL (vs := [_]) rfl ⟨rfl,trivial⟩ (fun w' hw => ⟨mkN (-1) w,rfl,⟨by show (-1 : Int) ≤ -1;decide,by show (-1 : Int) ≤ left;omega,fun h => absurd h (by show ¬ (0 : Int) ≤ -1;decide)⟩,hw.below,NewOk.nil _ _⟩)
  · exact ok_endL (vs := [_]) rfl ⟨rfl,trivial⟩ (fun w' hw => ⟨mkN (left - l.length) w,rfl,⟨by show (-1 : Int) ≤ left - l.length;omega,by show left - (l.length : Int) ≤ left;omega,fun _ => ⟨by omega,fun x _ => trivial⟩⟩,hw.below,NewOk.nil _ _⟩)
theorem toShareS_c (A : Option Addr) (c : Nat) (l : List Share) (w : World) (h : Rd w A (fl l)) (hl : l.length ≤ 1048576) :
    Calls Tryz.prog 91 #[.slice A l.length c] w fun e w' => ∃ y : Ys,e = .returned (.slice (y 0).A l.length (y 0).c) ∧ True ∧ Below w.heap.size w w' ∧ NewOk w.heap.size [.row 101 2 (y 0).A l.length (y 0).c (fl l)] [] w' := by
  refine ok_enter 23 Tryz.func91 rfl rfl rfl ?_
  repeat' (first|refine Wa ?_|refine Wb ?_|refine Wd ?_|(refine Zr 0 ?_;refine Za ?_;refine Ze1 0 ?_)|(refine Zr 1 ?_;refine Zm ?_;refine Zq (ps_len rfl rfl) ?_;refine Zn (by exact ms_make (z := Dat.cells (Dat.dflt : Share)) rfl rfl rfl (by omega) (by omega)) ?_;rintro y7 hy7;refine Za ?_;refine Ze2 0 3 ?_)|(refine Zr 2 ?_;refine Za ?_;refine Ze3 0 3 4 ?_))
  rw [show (madeCells (Dat.cells (Dat.dflt : Share)).toArray (l.length * 2)).toList = fl (List.replicate l.length (Dat.dflt : Share)) from made_fl (Dat.dflt : Share) l.length]
  refine ok_loop (ι := { k : Nat // k ≤ l.length }) (fun k => l.length - k.1) (fun k => ([(0,.slice A l.length c),(3,.slice (ga (y7 0).c) l.length l.length),(4,.int .i64 k.1)],[.row 101 2 (ga (y7 0).c) l.length l.length (fl (l.take k.1 ++ List.replicate (l.length - k.1) (Dat.dflt : Share)))],_)) ⟨0,by omega⟩ (fun a w he hw => ⟨⟨0,by omega⟩,he.sub ⟨rfl,rfl,rfl,trivial⟩,by simpa using hw⟩) ?_
  rintro ⟨k,hk⟩
  simp only at hk ⊢
  repeat' (first|refine Wa ?_|refine Wb ?_|refine Wd ?_|refine We ?_|(refine ok_cond rfl (fun hc => ?_) (fun hc => ?_) <;> (have hd := hc;try simp only [jj] at hd))|refine Wg ?_|refine Wh ?_|refine Wi ?_|(refine Zr 3 ?_;refine Zm ?_;refine Zm ?_;refine Zq (ps_len rfl rfl) ?_;refine Zi ?_;refine Ze4 0 3 4 11 ?_)|(refine Zr 4 ?_;refine Zm ?_;refine Zq (by exact ps_add rfl rfl rfl (by omega)) ?_;refine Za ?_;refine Ze3 0 3 4 ?_)|(refine Zr 5 ?_;refine Zm ?_;refine Zm ?_;refine Zm ?_;refine Zm ?_;refine Zq (by exact ps_indexN rfl rfl rfl (by omega) (by exact isw_of (isS_fl (by assumption) (by omega)))) ?_;refine Zq (by exact ps_loadsF rfl rfl (by exact rds_rf (by assumption) List.mem_cons_self) (by rfl) (by rfl) (by omega) rfl) ?_;refine Zn (by exact ms_s1 rfl rfl (fun _ _ w hw => toShare_c _ w)) ?_;rintro y20 hy20;refine Zq (by exact ps_indexN rfl rfl rfl (by omega) (isw_ga _)) ?_;refine Zo (by exact ms_setw 0 k (nth l k) rfl rfl rfl rfl rfl rfl rfl rfl rfl (by simp;omega)) ?_;rintro y_ hy_;refine Ze3 0 3 4 ?_)|(refine Zr 6 ?_;refine Zm ?_;refine Za ?_;refine Ze1 2 ?_))
  · refine fun a w' he hw => ⟨⟨k + 1,by omega⟩,by simp only;omega,he.sub ⟨rfl,rfl,rfl,trivial⟩,?_⟩
    simp only
    rw [← fill_step l Dat.dflt k (by omega)]
    exact hw
  · obtain rfl : k = l.length := by omega
    refine ok_endL (vs := [_]) rfl ⟨rfl,trivial⟩ (fun w' hw => ⟨mkY (ga (y7 0).c) l.length w,rfl,trivial,hw.below,?_⟩)
    have := NewOk.of hw
    simpa [mkY] using this
theorem eqShareS_c (A B : Option Addr) (c d : Nat) (l : List Share) (w : World) (h : Rd w A (fl l)) (h2 : Rd w B (fl l)) (hl : l.length ≤ 140737488355328) :
    Calls Tryz.prog 100 #[.slice A l.length c,.slice B l.length d] w fun e w' => e = .returned (.bool true) ∧ Below w.heap.size w w' := by
  refine ok_enter 27 Tryz.func100 rfl rfl rfl ?_
  repeat' (first|refine Wa ?_|refine Wb ?_|refine Wc ?_|refine Wd ?_|(refine ok_cond rfl (fun hc => ?_) (fun hc => ?_) <;> (have hd := hc;try simp only [jj] at hd))|refine Wg ?_|refine Wi ?_|(refine Zr 0 ?_;refine Za ?_;refine Ze2 0 1 ?_)|(refine Zr 1 ?_;refine Zm ?_;refine Zq (ps_len rfl rfl) ?_;refine Zm ?_;refine Zq (ps_len rfl rfl) ?_;refine Zi ?_;refine Ze3 0 1 10 ?_)|(refine Zr 2 ?_;refine Za ?_;refine Ze1 4 ?_)|(refine Zr 3 ?_;refine Za ?_;refine Ze3 0 1 5 ?_))
  · exact absurd hc (by simp)
  · refine ok_loop (ι := { k : Nat // k ≤ l.length }) (fun k => l.length - k.1) (fun k => ([(0,.slice A l.length c),(1,.slice B l.length d),(5,.int .i64 k.1)],_,_)) ⟨0,by omega⟩ (fun a w he hw => ⟨⟨0,by omega⟩,he.sub ⟨rfl,rfl,rfl,trivial⟩,hw⟩) ?_
    rintro ⟨k,hk⟩
    simp only at hk ⊢
    repeat' (first|refine Wa ?_|refine Wb ?_|refine Wd ?_|refine We ?_|(refine ok_cond rfl (fun hc => ?_) (fun hc => ?_) <;> (have hd := hc;try simp only [jj] at hd))|refine Wg ?_|refine Wh ?_|refine Wi ?_|(refine Zr 4 ?_;refine Zm ?_;refine Zm ?_;refine Zq (ps_len rfl rfl) ?_;refine Zi ?_;refine Ze4 0 1 5 14 ?_)|(refine Zr 5 ?_;refine Zm ?_;refine Zq (by exact ps_add rfl rfl rfl (by omega)) ?_;refine Za ?_;refine Ze3 0 1 5 ?_)|(refine Xd 6 10 ?_;refine Xm 0 ?_;refine Xm 1 ?_;refine Xt 2 rfl (by exact ps_indexN rfl rfl rfl (by omega) (by exact isw_of (isS_fl (by assumption) (by omega)))) ?_;refine Xt 3 rfl (by exact ps_loadsF rfl rfl (by exact rds_rf (by assumption) List.mem_cons_self) (by rfl) (by rfl) (by omega) rfl) ?_;refine Xm 4 ?_;refine Xm 5 ?_;refine Xt 6 rfl (by exact ps_indexN rfl rfl rfl (by omega) (by exact isw_of (isS_fl (by assumption) (by omega)))) ?_;refine Xt 7 rfl (by exact ps_loadsF rfl rfl (by exact rds_rf (by assumption) List.mem_cons_self) (by rfl) (by rfl) (by omega) rfl) ?_;refine Xo 8 rfl (by exact ms_s2 rfl rfl rfl (fun _ _ w hw => eqShare_c _ w)) (fun y w _ h => by exact h) ?_;rintro y25 hy25;refine Xt 9 rfl (ps_not rfl rfl) ?_;refine okT_done (by kernel_rfl) ?_;refine Ze4 0 1 5 26 ?_)|(refine Zr 8 ?_;refine Za ?_;refine Ze1 4 ?_))
    all_goals first
      | (exfalso;simp [sEq] at hc;done)
      | exact fun a w' he hw => ⟨⟨k + 1,by omega⟩,by simp only;omega,he.sub ⟨rfl,rfl,rfl,trivial⟩,hw⟩
      | exact ok_endL (vs := [_]) rfl ⟨rfl,trivial⟩ (fun w' hw => ⟨rfl,hw.below⟩)
theorem markShareS_c (A : Option Addr) (c : Nat) (l : List Share) (k0 : Int) (hk0 : 0 ≤ k0 ∧ k0 ≤ 1000000000000000) (hl : l.length ≤ 140737488355328) {base : Nat} {w0 w : World} {H : List HObj} {G : List World}
    (hw : WOk base w0 (.row 101 2 A l.length c (fl l) :: H) G w) :
    Calls Tryz.prog 109 #[.slice A l.length c,.int .i64 k0] w fun e w' => ∃ y : Ys,e = .returned (.int .i64 (k0 + 2 * (l.length : Int))) ∧ True ∧ WOk base w0 (.row 101 2 A l.length c (fl (mkL k0 l.length : List Share)) :: H) G w' := by
  refine ok_enterW 27 Tryz.func109 rfl rfl rfl hw ?_
  repeat' (first|refine Wa ?_|refine Wb ?_|refine Wd ?_|(refine Zr 0 ?_;refine Za ?_;refine Ze2 0 1 ?_)|(refine Zr 1 ?_;refine Za ?_;refine Ze3 0 1 5 ?_))
  refine ok_loop (ι := { k : Nat // k ≤ l.length }) (fun k => l.length - k.1) (fun k => ([(0,.slice A l.length c),(1,.int .i64 (k0 + 2 * (k.1 : Int))),(5,.int .i64 k.1)],.row 101 2 A l.length c (fl (mkL k0 k.1 ++ l.drop k.1)) :: H,_)) ⟨0,by omega⟩ (fun a w he hw => ⟨⟨0,by omega⟩,he.sub ⟨rfl,by simp [look,initE],rfl,trivial⟩,by simpa [mkL] using hw⟩) ?_
  rintro ⟨k,hk⟩
  simp only at hk ⊢
  repeat' (first|refine Wa ?_|refine Wb ?_|refine Wd ?_|refine We ?_|(refine ok_cond rfl (fun hc => ?_) (fun hc => ?_) <;> (have hd := hc;try simp only [jj] at hd))|refine Wg ?_|refine Wh ?_|refine Wi ?_|(refine Zr 2 ?_;refine Zm ?_;refine Zm ?_;refine Zq (ps_len rfl rfl) ?_;refine Zi ?_;refine Ze4 0 1 5 9 ?_)|(refine Zr 3 ?_;refine Zm ?_;refine Zq (by exact ps_add rfl rfl rfl (by omega)) ?_;refine Za ?_;refine Ze3 0 1 5 ?_)|(refine Zr 4 ?_;refine Zm ?_;refine Zm ?_;refine Zm ?_;refine Zq (by exact ps_indexN rfl rfl rfl (by omega) (by exact isw_row 0 rfl (by omega))) ?_;refine Zq (by exact ps_field rfl rfl (by exact isw_row 0 rfl (by omega))) ?_;refine Zo (by exact ms_setc 0 k 0 (⟨(k0 + 2 * (k : Int)),(nth l k).quo⟩ : Share) rfl rfl rfl rfl rfl rfl rfl rfl (by rw [mk_nth _ _ _ (by omega)];rfl) (by simp [mkL_len];omega)) ?_;rintro y_ hy_;refine Ze3 0 1 5 ?_)|(refine Zr 5 ?_;refine Zm ?_;refine Zq (by exact ps_add rfl rfl rfl (by omega)) ?_;refine Za ?_;refine Ze3 0 1 5 ?_)|(refine Zr 6 ?_;refine Zm ?_;refine Zm ?_;refine Zm ?_;refine Zq (by exact ps_indexN rfl rfl rfl (by omega) (by exact isw_row 0 rfl (by omega))) ?_;refine Zq (by exact ps_field rfl rfl (by exact isw_row 0 rfl (by omega))) ?_;refine Zo (by exact ms_setc 0 k 1 (⟨(k0 + 2 * (k : Int)),(k0 + 2 * (k : Int)) + 1⟩ : Share) rfl rfl rfl rfl rfl rfl rfl rfl (by rw [nth_set _ _ _ (by simp [mkL_len];omega)];rfl) (by simp [mkL_len];omega)) ?_;rintro y_ hy_;refine Ze3 0 1 5 ?_)|(refine Zr 7 ?_;refine Zm ?_;refine Zq (by exact ps_add rfl rfl rfl (by omega)) ?_;refine Za ?_;refine Ze3 0 1 5 ?_)|(refine Zr 8 ?_;refine Zm ?_;refine Za ?_;refine Ze1 4 ?_))
  · refine fun a w' he hw => ⟨⟨k + 1,by omega⟩,by simp only;omega,he.sub ⟨rfl,?_,rfl,trivial⟩,?_⟩
    · simp only [look];congr 2;simp;omega
    · have e := mk_step l k0 k (by omega)
      simp only
      rw [← e]
      refine WOk.same ?_ hw
      simp only [List.set_cons_zero,List.set_set]
      rfl
  · obtain rfl : k = l.length := by omega
    refine ok_endL (vs := [_]) rfl ⟨rfl,trivial⟩ (fun w' hw => ⟨mkY none 0 w,rfl,trivial,?_⟩)
    simpa using hw
end Go.Proofs.YtmfojbidojjciaaGreat
namespace Go.Proofs.YtmfojbidojjciaaGreat
open Go.RowKit
set_option maxHeartbeats 2000000
attribute [local irreducible] Calls
structure LogRow where
  ten : Int
  boot : Int
  seq : Int
  txt : ByteArray
  syn : Bool
  deriving DecidableEq
instance : Dat LogRow := ⟨5,fun x => [.int .i64 x.ten,.int .i64 x.boot,.int .i64 x.seq,.string x.txt,.bool x.syn],fun _ => rfl,⟨0,0,0,⟨#[]⟩,false⟩⟩
instance : Mk LogRow := ⟨5,fun q => ⟨q,q + 1,q + 1 + 1,mT (q + 1 + 1 + 1),((q + 1 + 1 + 1 + 1) % 3 == 0)⟩⟩
def wtLogRow (x : LogRow) : Prop := x.txt.size ≤ 1048576
def bigLogRow (x : LogRow) : Prop := x.txt.size ≤ maxLen
theorem szLogRow_c (x : LogRow) (left : Int) (hl : 0 ≤ left ∧ left ≤ 1048576) (hx : bigLogRow x) (w : World) :
    Calls Tryz.prog 84 #[.agg (Dat.cells x).toArray,.int .i64 left] w fun e w' => ∃ y : Ys,e = .returned (.int .i64 (y 0).n) ∧ (-1 ≤ (y 0).n ∧ (y 0).n ≤ left ∧ (0 ≤ (y 0).n → wtLogRow x)) ∧ Below w.heap.size w w' ∧ NewOk w.heap.size [] [] w' := by
  unfold bigLogRow maxLen at hx
  refine ok_enter 13 Tryz.func84 rfl rfl rfl ?_
  repeat' (first|refine Wa ?_|refine Wb ?_|refine Wc ?_|(refine ok_cond rfl (fun hc => ?_) (fun hc => ?_) <;> (have hd := hc;try simp only [jj] at hd))|refine Wg ?_|refine Wi ?_|(refine Zr 0 ?_;refine Zn (ms_box rfl rfl rfl) ?_;rintro y2 hy2;refine Za ?_;refine Ze2 1 2 ?_)|(refine Zr 1 ?_;refine Zm ?_;refine Zf ?_;refine Zl 0 ?_;refine Zq (ps_slen rfl rfl) ?_;refine Zq (by exact ps_sub rfl rfl rfl (by omega)) ?_;refine Za ?_;refine Ze1 1 ?_)|(refine Zr 2 ?_;refine Zm ?_;refine Zi ?_;refine Ze2 1 11 ?_)|(refine Zr 3 ?_;refine Za ?_;refine Ze1 4 ?_)|(refine Zr 4 ?_;refine Zm ?_;refine Za ?_;refine Ze1 4 ?_))
  all_goals first
    | exact ok_endL (vs := [_]) rfl ⟨rfl,trivial⟩ (fun w' hw => ⟨mkN (-1) w,rfl,⟨by show (-1 : Int) ≤ -1;decide,by show (-1 : Int) ≤ left;omega,fun h => absurd h (by show ¬ (0 : Int) ≤ -1;decide)⟩,hw.below,NewOk.nil _ _⟩)
    | exact ok_endL (vs := [_]) rfl ⟨rfl,trivial⟩ (fun w' hw => ⟨mkN (left - (x.txt.size : Int)) w,rfl,⟨by show -1 ≤ left - (x.txt.size : Int);omega,by show left - (x.txt.size : Int) ≤ left;omega,fun _ => by unfold wtLogRow;omega⟩,hw.below,NewOk.nil _ _⟩)
theorem toLogRow_c (x : LogRow) (w : World) :
    Calls Tryz.prog 93 #[.agg (Dat.cells x).toArray] w fun e w' => e = .returned (.agg (Dat.cells x).toArray) ∧ Below w.heap.size w w' := by
  refine ok_enter 20 Tryz.func93 rfl rfl rfl ?_
  repeat' (first|refine Wa ?_|refine Wb ?_|refine Wg ?_|(refine Zr 0 ?_;refine Zn (ms_box rfl rfl rfl) ?_;rintro y1 hy1;refine Zn (ms_alloc rfl) ?_;rintro y2 hy2;refine Ze2 1 2 ?_)|(refine Zr 1 ?_;refine Zn (ms_alloc rfl) ?_;rintro y3 hy3;refine Ze3 1 2 3 ?_)|(refine Zr 2 ?_;refine Zf ?_;refine Zl 2 ?_;refine Zf ?_;refine Zo (ms_store 0 rfl rfl rfl rfl rfl rfl rfl rfl) ?_;rintro y_ hy_;refine Ze3 1 2 3 ?_)|(refine Zr 3 ?_;refine Zf ?_;refine Zl 2 ?_;refine Zf ?_;refine Zo (ms_store 0 rfl rfl rfl rfl rfl rfl rfl rfl) ?_;rintro y_ hy_;refine Ze3 1 2 3 ?_)|(refine Zr 4 ?_;refine Zf ?_;refine Zl 2 ?_;refine Zf ?_;refine Zo (ms_store 0 rfl rfl rfl rfl rfl rfl rfl rfl) ?_;rintro y_ hy_;refine Ze3 1 2 3 ?_)|(refine Zr 5 ?_;refine Zf ?_;refine Zl 2 ?_;refine Zf ?_;refine Zo (ms_store 0 rfl rfl rfl rfl rfl rfl rfl rfl) ?_;rintro y_ hy_;refine Ze3 1 2 3 ?_)|(refine Zr 6 ?_;refine Zf ?_;refine Zl 2 ?_;refine Zf ?_;refine Zo (ms_store 0 rfl rfl rfl rfl rfl rfl rfl rfl) ?_;rintro y_ hy_;refine Ze2 2 3 ?_)|(refine Zr 7 ?_;refine Zq (by exact ps_loads rfl rfl (by exact rds_box 0 rfl) rfl rfl (by decide)) ?_;refine Zo (ms_store 1 rfl rfl rfl rfl rfl rfl rfl rfl) ?_;rintro y_ hy_;refine Ze1 2 ?_))
  exact ok_endL (vs := [.agg (Dat.cells x).toArray]) rfl ⟨⟨_,1,_,_,_,rfl,rfl,inferInstance,rfl,rfl⟩,trivial⟩ (fun w' hw => ⟨rfl,hw.below⟩)
theorem eqLogRow_c (x : LogRow) (w : World) :
    Calls Tryz.prog 102 #[.agg (Dat.cells x).toArray,.agg (Dat.cells x).toArray] w fun e w' => e = .returned (.bool true) ∧ Below w.heap.size w w' := by
  refine ok_enter 30 Tryz.func102 rfl rfl rfl ?_
  repeat' (first|refine Wa ?_|refine Wb ?_|refine Wc ?_|(refine ok_cond rfl (fun hc => ?_) (fun hc => ?_) <;> (have hd := hc;try simp only [jj] at hd))|refine Wg ?_|refine Wi ?_|(refine Zr 0 ?_;refine Zn (ms_box rfl rfl rfl) ?_;rintro y2 hy2;refine Zn (ms_box rfl rfl rfl) ?_;rintro y3 hy3;refine Za ?_;refine Ze2 2 3 ?_)|(refine Zr 1 ?_;refine Zf ?_;refine Zl 1 ?_;refine Zf ?_;refine Zl 0 ?_;refine Zi ?_;refine Ze3 2 3 9 ?_)|(refine Zr 2 ?_;refine Za ?_;refine Ze1 4 ?_)|(refine Zr 3 ?_;refine Zf ?_;refine Zl 1 ?_;refine Zf ?_;refine Zl 0 ?_;refine Zi ?_;refine Ze3 2 3 14 ?_)|(refine Zr 4 ?_;refine Za ?_;refine Ze1 4 ?_)|(refine Zr 5 ?_;refine Zf ?_;refine Zl 1 ?_;refine Zf ?_;refine Zl 0 ?_;refine Zi ?_;refine Ze3 2 3 19 ?_)|(refine Zr 6 ?_;refine Za ?_;refine Ze1 4 ?_)|(refine Zr 7 ?_;refine Zf ?_;refine Zl 1 ?_;refine Zf ?_;refine Zl 0 ?_;refine Zq (ps_str rfl rfl rfl rfl) ?_;refine Ze3 2 3 24 ?_)|(refine Zr 8 ?_;refine Za ?_;refine Ze1 4 ?_)|(refine Zr 9 ?_;refine Zf ?_;refine Zl 1 ?_;refine Zf ?_;refine Zl 0 ?_;refine Zq (by exact ps_bool_neq Tryz.underlying4 rfl rfl rfl) ?_;refine Ze1 29 ?_)|(refine Zr 10 ?_;refine Za ?_;refine Ze1 4 ?_)|(refine Zr 11 ?_;refine Za ?_;refine Ze1 4 ?_))
  all_goals first
    | (exfalso;simp [sEq] at hc;done)
    | exact ok_endL (vs := [_]) rfl ⟨rfl,trivial⟩ (fun w' hw => ⟨rfl,hw.below⟩)
theorem szLogRowS_c (A : Option Addr) (c : Nat) (l : List LogRow) (left : Int) (hl : 0 ≤ left ∧ left ≤ 1048576) (hn : l.length ≤ maxLen) (hx : ∀ x ∈ l,bigLogRow x) (w : World) (h : Rd w A (fl l)) :
    Calls Tryz.prog 39 #[.slice A l.length c,.int .i64 left] w fun e w' => ∃ y : Ys,e = .returned (.int .i64 (y 0).n) ∧ (-1 ≤ (y 0).n ∧ (y 0).n ≤ left ∧ (0 ≤ (y 0).n → (l.length : Int) ≤ left ∧ ∀ x ∈ l,wtLogRow x)) ∧ Below w.heap.size w w' ∧ NewOk w.heap.size [] [] w' := by
  unfold maxLen at hn
  refine ok_enter 27 Tryz.func39 rfl rfl rfl ?_
  repeat' (first|refine Wa ?_|refine Wb ?_|refine Wc ?_|refine Wd ?_|(refine ok_cond rfl (fun hc => ?_) (fun hc => ?_) <;> (have hd := hc;try simp only [jj] at hd))|refine Wg ?_|refine Wi ?_|(refine Zr 0 ?_;refine Za ?_;refine Ze2 0 1 ?_)|(refine Zr 1 ?_;refine Zm ?_;refine Zm ?_;refine Zq (ps_len rfl rfl) ?_;refine Zq (by exact ps_sub rfl rfl rfl (by omega)) ?_;refine Za ?_;refine Ze2 0 1 ?_)|(refine Zr 2 ?_;refine Zm ?_;refine Zi ?_;refine Ze3 0 1 11 ?_)|(refine Zr 3 ?_;refine Za ?_;refine Ze1 4 ?_)|(refine Zr 4 ?_;refine Za ?_;refine Ze3 0 1 5 ?_))
  · exact ok_endL (vs := [_]) rfl ⟨rfl,trivial⟩ (fun w' hw => ⟨mkN (-1) w,rfl,⟨by show (-1 : Int) ≤ -1;decide,by show (-1 : Int) ≤ left;omega,fun h => absurd h (by show ¬ (0 : Int) ≤ -1;decide)⟩,hw.below,NewOk.nil _ _⟩)
  · refine ok_loop (ι := { p : Nat × Int // p.1 ≤ l.length ∧ 0 ≤ p.2 ∧ p.2 ≤ left - l.length ∧ ∀ j,j < p.1 → wtLogRow (nth l j) }) (fun p => l.length - p.1.1) (fun p => ([(0,.slice A l.length c),(1,.int .i64 p.1.2),(5,.int .i64 p.1.1)],_,_)) ⟨(0,left - l.length),by simp only;omega,by simp only;omega,by simp only;omega,fun j h => absurd h (Nat.not_lt_zero j)⟩ (fun a w he hw => ⟨⟨(0,left - l.length),by simp only;omega,by simp only;omega,by simp only;omega,fun j h => absurd h (Nat.not_lt_zero j)⟩,he.sub ⟨rfl,rfl,rfl,trivial⟩,hw⟩) ?_
    rintro ⟨⟨k,r⟩,hk,hr0,hr1,hwt⟩
    simp only at hk hr0 hr1 hwt ⊢
    have HW := Lib.hid hwt;clear hwt
    repeat' (first|refine Wa ?_|refine Wb ?_|refine Wc ?_|refine Wd ?_|refine We ?_|refine Wf ?_|(refine ok_cond rfl (fun hc => ?_) (fun hc => ?_) <;> (have hd := hc;try simp only [jj] at hd))|refine Wg ?_|refine Wh ?_|refine Wi ?_|(refine Zr 5 ?_;refine Zm ?_;refine Zm ?_;refine Zq (ps_len rfl rfl) ?_;refine Zi ?_;refine Ze4 0 1 5 15 ?_)|(refine Zr 6 ?_;refine Zm ?_;refine Zq (by exact ps_add rfl rfl rfl (by omega)) ?_;refine Za ?_;refine Ze3 0 1 5 ?_)|(refine Zr 7 ?_;refine Zm ?_;refine Zm ?_;refine Zq (by exact ps_indexN rfl rfl rfl (by omega) (by exact isw_of (isS_fl (by assumption) (by omega)))) ?_;refine Zq (by exact ps_loadsF rfl rfl (by exact rds_rf (by assumption) List.mem_cons_self) (by rfl) (by rfl) (by omega) rfl) ?_;refine Zm ?_;refine Zn (by exact ms_c2 rfl rfl rfl (fun _ _ w hw => szLogRow_c _ _ ⟨by omega,by omega⟩ (hx _ (nth_mem l k (by omega))) w)) ?_;rintro y23 hy23;refine Za ?_;refine Ze3 0 1 5 ?_)|(refine Zr 8 ?_;refine Zm ?_;refine Zi ?_;refine Ze4 0 1 5 25 ?_)|(refine Zr 9 ?_;refine Za ?_;refine Ze1 4 ?_)|(refine Zr 10 ?_;refine Zm ?_;refine Za ?_;refine Ze1 4 ?_))
    · exact ok_endL (vs := [_]) rfl ⟨rfl,trivial⟩ (fun w' hw => ⟨mkN (-1) w,rfl,⟨by show (-1 : Int) ≤ -1;decide,by show (-1 : Int) ≤ left;omega,fun h => absurd h (by show ¬ (0 : Int) ≤ -1;decide)⟩,hw.below,NewOk.nil _ _⟩)
    · obtain ⟨g1,g2,g3⟩ := hy23
      refine fun a w' he hw => ⟨⟨(k + 1,(y23 0).n),by simp only;omega,by simp only;omega,by simp only;omega,fun j hj => ?_⟩,by simp only;omega,he.sub ⟨rfl,rfl,rfl,trivial⟩,hw⟩
      rcases Nat.lt_succ_iff_lt_or_eq.1 hj with h' | h'
      · exact HW.out j h'
      · subst h';exact g3 (by omega)
    · obtain rfl : k = l.length := by omega
      exact ok_endL (vs := [_]) rfl ⟨rfl,trivial⟩ (fun w' hw => ⟨mkN r w,rfl,⟨by show -1 ≤ r;omega,by show r ≤ left;omega,fun _ => ⟨by omega,mem_nth (fun j hj => HW.out j hj)⟩⟩,hw.below,NewOk.nil _ _⟩)
theorem toLogRowS_c (A : Option Addr) (c : Nat) (l : List LogRow) (w : World) (h : Rd w A (fl l)) (hl : l.length ≤ 1048576) :
    Calls Tryz.prog 44 #[.slice A l.length c] w fun e w' => ∃ y : Ys,e = .returned (.slice (y 0).A l.length (y 0).c) ∧ True ∧ Below w.heap.size w w' ∧ NewOk w.heap.size [.row 92 5 (y 0).A l.length (y 0).c (fl l)] [] w' := by
  refine ok_enter 23 Tryz.func44 rfl rfl rfl ?_
  repeat' (first|refine Wa ?_|refine Wb ?_|refine Wd ?_|(refine Zr 0 ?_;refine Za ?_;refine Ze1 0 ?_)|(refine Zr 1 ?_;refine Zm ?_;refine Zq (ps_len rfl rfl) ?_;refine Zn (by exact ms_make (z := Dat.cells (Dat.dflt : LogRow)) rfl rfl rfl (by omega) (by omega)) ?_;rintro y7 hy7;refine Za ?_;refine Ze2 0 3 ?_)|(refine Zr 2 ?_;refine Za ?_;refine Ze3 0 3 4 ?_))
  rw [show (madeCells (Dat.cells (Dat.dflt : LogRow)).toArray (l.length * 5)).toList = fl (List.replicate l.length (Dat.dflt : LogRow)) from made_fl (Dat.dflt : LogRow) l.length]
  refine ok_loop (ι := { k : Nat // k ≤ l.length }) (fun k => l.length - k.1) (fun k => ([(0,.slice A l.length c),(3,.slice (ga (y7 0).c) l.length l.length),(4,.int .i64 k.1)],[.row 92 5 (ga (y7 0).c) l.length l.length (fl (l.take k.1 ++ List.replicate (l.length - k.1) (Dat.dflt : LogRow)))],_)) ⟨0,by omega⟩ (fun a w he hw => ⟨⟨0,by omega⟩,he.sub ⟨rfl,rfl,rfl,trivial⟩,by simpa using hw⟩) ?_
  rintro ⟨k,hk⟩
  simp only at hk ⊢
  repeat' (first|refine Wa ?_|refine Wb ?_|refine Wd ?_|refine We ?_|(refine ok_cond rfl (fun hc => ?_) (fun hc => ?_) <;> (have hd := hc;try simp only [jj] at hd))|refine Wg ?_|refine Wh ?_|refine Wi ?_|(refine Zr 3 ?_;refine Zm ?_;refine Zm ?_;refine Zq (ps_len rfl rfl) ?_;refine Zi ?_;refine Ze4 0 3 4 11 ?_)|(refine Zr 4 ?_;refine Zm ?_;refine Zq (by exact ps_add rfl rfl rfl (by omega)) ?_;refine Za ?_;refine Ze3 0 3 4 ?_)|(refine Zr 5 ?_;refine Zm ?_;refine Zm ?_;refine Zm ?_;refine Zm ?_;refine Zq (by exact ps_indexN rfl rfl rfl (by omega) (by exact isw_of (isS_fl (by assumption) (by omega)))) ?_;refine Zq (by exact ps_loadsF rfl rfl (by exact rds_rf (by assumption) List.mem_cons_self) (by rfl) (by rfl) (by omega) rfl) ?_;refine Zn (by exact ms_s1 rfl rfl (fun _ _ w hw => toLogRow_c _ w)) ?_;rintro y20 hy20;refine Zq (by exact ps_indexN rfl rfl rfl (by omega) (isw_ga _)) ?_;refine Zo (by exact ms_setw 0 k (nth l k) rfl rfl rfl rfl rfl rfl rfl rfl rfl (by simp;omega)) ?_;rintro y_ hy_;refine Ze3 0 3 4 ?_)|(refine Zr 6 ?_;refine Zm ?_;refine Za ?_;refine Ze1 2 ?_))
  · refine fun a w' he hw => ⟨⟨k + 1,by omega⟩,by simp only;omega,he.sub ⟨rfl,rfl,rfl,trivial⟩,?_⟩
    simp only
    rw [← fill_step l Dat.dflt k (by omega)]
    exact hw
  · obtain rfl : k = l.length := by omega
    refine ok_endL (vs := [_]) rfl ⟨rfl,trivial⟩ (fun w' hw => ⟨mkY (ga (y7 0).c) l.length w,rfl,trivial,hw.below,?_⟩)
    have := NewOk.of hw
    simpa [mkY] using this
theorem eqLogRowS_c (A B : Option Addr) (c d : Nat) (l : List LogRow) (w : World) (h : Rd w A (fl l)) (h2 : Rd w B (fl l)) (hl : l.length ≤ 140737488355328) :
    Calls Tryz.prog 50 #[.slice A l.length c,.slice B l.length d] w fun e w' => e = .returned (.bool true) ∧ Below w.heap.size w w' := by
  refine ok_enter 27 Tryz.func50 rfl rfl rfl ?_
  repeat' (first|refine Wa ?_|refine Wb ?_|refine Wc ?_|refine Wd ?_|(refine ok_cond rfl (fun hc => ?_) (fun hc => ?_) <;> (have hd := hc;try simp only [jj] at hd))|refine Wg ?_|refine Wi ?_|(refine Zr 0 ?_;refine Za ?_;refine Ze2 0 1 ?_)|(refine Zr 1 ?_;refine Zm ?_;refine Zq (ps_len rfl rfl) ?_;refine Zm ?_;refine Zq (ps_len rfl rfl) ?_;refine Zi ?_;refine Ze3 0 1 10 ?_)|(refine Zr 2 ?_;refine Za ?_;refine Ze1 4 ?_)|(refine Zr 3 ?_;refine Za ?_;refine Ze3 0 1 5 ?_))
  · exact absurd hc (by simp)
  · refine ok_loop (ι := { k : Nat // k ≤ l.length }) (fun k => l.length - k.1) (fun k => ([(0,.slice A l.length c),(1,.slice B l.length d),(5,.int .i64 k.1)],_,_)) ⟨0,by omega⟩ (fun a w he hw => ⟨⟨0,by omega⟩,he.sub ⟨rfl,rfl,rfl,trivial⟩,hw⟩) ?_
    rintro ⟨k,hk⟩
    simp only at hk ⊢
    repeat' (first|refine Wa ?_|refine Wb ?_|refine Wd ?_|refine We ?_|(refine ok_cond rfl (fun hc => ?_) (fun hc => ?_) <;> (have hd := hc;try simp only [jj] at hd))|refine Wg ?_|refine Wh ?_|refine Wi ?_|(refine Zr 4 ?_;refine Zm ?_;refine Zm ?_;refine Zq (ps_len rfl rfl) ?_;refine Zi ?_;refine Ze4 0 1 5 14 ?_)|(refine Zr 5 ?_;refine Zm ?_;refine Zq (by exact ps_add rfl rfl rfl (by omega)) ?_;refine Za ?_;refine Ze3 0 1 5 ?_)|(refine Xd 6 10 ?_;refine Xm 0 ?_;refine Xm 1 ?_;refine Xt 2 rfl (by exact ps_indexN rfl rfl rfl (by omega) (by exact isw_of (isS_fl (by assumption) (by omega)))) ?_;refine Xt 3 rfl (by exact ps_loadsF rfl rfl (by exact rds_rf (by assumption) List.mem_cons_self) (by rfl) (by rfl) (by omega) rfl) ?_;refine Xm 4 ?_;refine Xm 5 ?_;refine Xt 6 rfl (by exact ps_indexN rfl rfl rfl (by omega) (by exact isw_of (isS_fl (by assumption) (by omega)))) ?_;refine Xt 7 rfl (by exact ps_loadsF rfl rfl (by exact rds_rf (by assumption) List.mem_cons_self) (by rfl) (by rfl) (by omega) rfl) ?_;refine Xo 8 rfl (by exact ms_s2 rfl rfl rfl (fun _ _ w hw => eqLogRow_c _ w)) (fun y w _ h => by exact h) ?_;rintro y25 hy25;refine Xt 9 rfl (ps_not rfl rfl) ?_;refine okT_done (by kernel_rfl) ?_;refine Ze4 0 1 5 26 ?_)|(refine Zr 8 ?_;refine Za ?_;refine Ze1 4 ?_))
    all_goals first
      | (exfalso;simp [sEq] at hc;done)
      | exact fun a w' he hw => ⟨⟨k + 1,by omega⟩,by simp only;omega,he.sub ⟨rfl,rfl,rfl,trivial⟩,hw⟩
      | exact ok_endL (vs := [_]) rfl ⟨rfl,trivial⟩ (fun w' hw => ⟨rfl,hw.below⟩)
theorem markLogRowS_c (A : Option Addr) (c : Nat) (l : List LogRow) (k0 : Int) (hk0 : 0 ≤ k0 ∧ k0 ≤ 1000000000000000) (hl : l.length ≤ 140737488355328) {base : Nat} {w0 w : World} {H : List HObj} {G : List World}
    (hw : WOk base w0 (.row 92 5 A l.length c (fl l) :: H) G w) :
    Calls Tryz.prog 61 #[.slice A l.length c,.int .i64 k0] w fun e w' => ∃ y : Ys,e = .returned (.int .i64 (k0 + 5 * (l.length : Int))) ∧ True ∧ WOk base w0 (.row 92 5 A l.length c (fl (mkL k0 l.length : List LogRow)) :: H) G w' := by
  refine ok_enterW 51 Tryz.func61 rfl rfl rfl hw ?_
  repeat' (first|refine Wa ?_|refine Wb ?_|refine Wd ?_|(refine Zr 0 ?_;refine Za ?_;refine Ze2 0 1 ?_)|(refine Zr 1 ?_;refine Za ?_;refine Ze3 0 1 5 ?_))
  refine ok_loop (ι := { k : Nat // k ≤ l.length }) (fun k => l.length - k.1) (fun k => ([(0,.slice A l.length c),(1,.int .i64 (k0 + 5 * (k.1 : Int))),(5,.int .i64 k.1)],.row 92 5 A l.length c (fl (mkL k0 k.1 ++ l.drop k.1)) :: H,_)) ⟨0,by omega⟩ (fun a w he hw => ⟨⟨0,by omega⟩,he.sub ⟨rfl,by simp [look,initE],rfl,trivial⟩,by simpa [mkL] using hw⟩) ?_
  rintro ⟨k,hk⟩
  simp only at hk ⊢
  repeat' (first|refine Wa ?_|refine Wb ?_|refine Wd ?_|refine We ?_|(refine ok_cond rfl (fun hc => ?_) (fun hc => ?_) <;> (have hd := hc;try simp only [jj] at hd))|refine Wg ?_|refine Wh ?_|refine Wi ?_|(refine Zr 2 ?_;refine Zm ?_;refine Zm ?_;refine Zq (ps_len rfl rfl) ?_;refine Zi ?_;refine Ze4 0 1 5 9 ?_)|(refine Zr 3 ?_;refine Zm ?_;refine Zq (by exact ps_add rfl rfl rfl (by omega)) ?_;refine Za ?_;refine Ze3 0 1 5 ?_)|(refine Zr 4 ?_;refine Zm ?_;refine Zm ?_;refine Zm ?_;refine Zq (by exact ps_indexN rfl rfl rfl (by omega) (by exact isw_row 0 rfl (by omega))) ?_;refine Zq (by exact ps_field rfl rfl (by exact isw_row 0 rfl (by omega))) ?_;refine Zo (by exact ms_setc 0 k 0 (⟨(k0 + 5 * (k : Int)),(nth l k).boot,(nth l k).seq,(nth l k).txt,(nth l k).syn⟩ : LogRow) rfl rfl rfl rfl rfl rfl rfl rfl (by rw [mk_nth _ _ _ (by omega)];rfl) (by simp [mkL_len];omega)) ?_;rintro y_ hy_;refine Ze3 0 1 5 ?_)|(refine Zr 5 ?_;refine Zm ?_;refine Zq (by exact ps_add rfl rfl rfl (by omega)) ?_;refine Za ?_;refine Ze3 0 1 5 ?_)|(refine Zr 6 ?_;refine Zm ?_;refine Zm ?_;refine Zm ?_;refine Zq (by exact ps_indexN rfl rfl rfl (by omega) (by exact isw_row 0 rfl (by omega))) ?_;refine Zq (by exact ps_field rfl rfl (by exact isw_row 0 rfl (by omega))) ?_;refine Zo (by exact ms_setc 0 k 1 (⟨(k0 + 5 * (k : Int)),(k0 + 5 * (k : Int)) + 1,(nth l k).seq,(nth l k).txt,(nth l k).syn⟩ : LogRow) rfl rfl rfl rfl rfl rfl rfl rfl (by rw [nth_set _ _ _ (by simp [mkL_len];omega)];rfl) (by simp [mkL_len];omega)) ?_;rintro y_ hy_;refine Ze3 0 1 5 ?_)|(refine Zr 7 ?_;refine Zm ?_;refine Zq (by exact ps_add rfl rfl rfl (by omega)) ?_;refine Za ?_;refine Ze3 0 1 5 ?_)|(refine Zr 8 ?_;refine Zm ?_;refine Zm ?_;refine Zm ?_;refine Zq (by exact ps_indexN rfl rfl rfl (by omega) (by exact isw_row 0 rfl (by omega))) ?_;refine Zq (by exact ps_field rfl rfl (by exact isw_row 0 rfl (by omega))) ?_;refine Zo (by exact ms_setc 0 k 2 (⟨(k0 + 5 * (k : Int)),(k0 + 5 * (k : Int)) + 1,(k0 + 5 * (k : Int)) + 1 + 1,(nth l k).txt,(nth l k).syn⟩ : LogRow) rfl rfl rfl rfl rfl rfl rfl rfl (by rw [nth_set _ _ _ (by simp [mkL_len];omega)];rfl) (by simp [mkL_len];omega)) ?_;rintro y_ hy_;refine Ze3 0 1 5 ?_)|(refine Zr 9 ?_;refine Zm ?_;refine Zq (by exact ps_add rfl rfl rfl (by omega)) ?_;refine Za ?_;refine Ze3 0 1 5 ?_)|(refine Zr 10 ?_;refine Zm ?_;refine Zm ?_;refine Zm ?_;refine Zn (by exact ms_s1 rfl rfl (fun _ _ w hw => markText_c _ (by omega) w)) ?_;rintro y36 hy36;refine Zq (by exact ps_indexN rfl rfl rfl (by omega) (by exact isw_row 0 rfl (by omega))) ?_;refine Zq (by exact ps_field rfl rfl (by exact isw_row 0 rfl (by omega))) ?_;refine Zo (by exact ms_setc 0 k 3 (⟨(k0 + 5 * (k : Int)),(k0 + 5 * (k : Int)) + 1,(k0 + 5 * (k : Int)) + 1 + 1,mT ((k0 + 5 * (k : Int)) + 1 + 1 + 1),(nth l k).syn⟩ : LogRow) rfl rfl rfl rfl rfl rfl rfl rfl (by rw [nth_set _ _ _ (by simp [mkL_len];omega)];rfl) (by simp [mkL_len];omega)) ?_;rintro y_ hy_;refine Ze3 0 1 5 ?_)|(refine Zr 11 ?_;refine Zm ?_;refine Zq (by exact ps_add rfl rfl rfl (by omega)) ?_;refine Za ?_;refine Ze3 0 1 5 ?_)|(refine Zr 12 ?_;refine Zm ?_;refine Zm ?_;refine Zm ?_;refine Zq (by exact ps_rem rfl rfl rfl (by omega) (by omega)) ?_;refine Zi ?_;refine Zq (by exact ps_indexN rfl rfl rfl (by omega) (by exact isw_row 0 rfl (by omega))) ?_;refine Zq (by exact ps_field rfl rfl (by exact isw_row 0 rfl (by omega))) ?_;refine Zo (by exact ms_setc 0 k 4 (⟨(k0 + 5 * (k : Int)),(k0 + 5 * (k : Int)) + 1,(k0 + 5 * (k : Int)) + 1 + 1,mT ((k0 + 5 * (k : Int)) + 1 + 1 + 1),(((k0 + 5 * (k : Int)) + 1 + 1 + 1 + 1) % 3 == 0)⟩ : LogRow) rfl rfl rfl rfl rfl rfl rfl rfl (by rw [nth_set _ _ _ (by simp [mkL_len];omega)];rfl) (by simp [mkL_len];omega)) ?_;rintro y_ hy_;refine Ze3 0 1 5 ?_)|(refine Zr 13 ?_;refine Zm ?_;refine Zq (by exact ps_add rfl rfl rfl (by omega)) ?_;refine Za ?_;refine Ze3 0 1 5 ?_)|(refine Zr 14 ?_;refine Zm ?_;refine Za ?_;refine Ze1 4 ?_))
  · refine fun a w' he hw => ⟨⟨k + 1,by omega⟩,by simp only;omega,he.sub ⟨rfl,?_,rfl,trivial⟩,?_⟩
    · simp only [look];congr 2;simp;omega
    · have e := mk_step l k0 k (by omega)
      simp only
      rw [← e]
      refine WOk.same ?_ hw
      simp only [List.set_cons_zero,List.set_set]
      rfl
  · obtain rfl : k = l.length := by omega
    refine ok_endL (vs := [_]) rfl ⟨rfl,trivial⟩ (fun w' hw => ⟨mkY none 0 w,rfl,trivial,?_⟩)
    simpa using hw
end Go.Proofs.YtmfojbidojjciaaGreat
namespace Go.Proofs.YtmfojbidojjciaaGreat
open Go.RowKit
instance : OneC KeySlot := ⟨fun x u hu => by
  have : u = .int .i64 x.ten ∨ u = .string x.key := by simpa [Dat.cells] using hu
  rcases this with rfl | rfl <;> rfl⟩
instance : OneC Share := ⟨fun x u hu => by
  have : u = .int .i64 x.ten ∨ u = .int .i64 x.quo := by simpa [Dat.cells] using hu
  rcases this with rfl | rfl <;> rfl⟩
instance : OneC LogRow := ⟨fun x u hu => by
  have : u = .int .i64 x.ten ∨ u = .int .i64 x.boot ∨ u = .int .i64 x.seq ∨ u = .string x.txt ∨ u = .bool x.syn := by simpa [Dat.cells] using hu
  rcases this with rfl | rfl | rfl | rfl | rfl <;> rfl⟩
structure DEng where
  mem : List Ent
  tabs : List (List Ent)
  seq : Int
  snaps : List Int
structure DTen where
  id : Int
  ep : Int
  ba : Int
  eng : DEng
structure DKeys where
  master : ByteArray
  slots : List KeySlot
  wiped : Int
structure DShares where
  size : Int
  list : List Share
structure DStore where
  secret : ByteArray
  keys : DKeys
  shares : DShares
  tens : List DTen
  rows : List LogRow
  hist : List LogRow
  boot : Int
structure LEng where
  mem : Pl Ent
  tab : Pl LE
  seq : Int
  snaps : Pl Int
@[reducible] def LEng.d (e : LEng) : DEng := ⟨e.mem.l,dats e.tab.l,e.seq,e.snaps.l⟩
@[reducible] def LEng.cells (e : LEng) : List Value := [.slice e.mem.A e.mem.l.length e.mem.c,.slice e.tab.A e.tab.l.length e.tab.c,.int .i64 e.seq,.slice e.snaps.A e.snaps.l.length e.snaps.c]
@[reducible] def LEng.val (e : LEng) : Value := .agg e.cells.toArray
structure LEng.rd (w : World) (e : LEng) : Prop where
  mem : Rd w e.mem.A (fl e.mem.l)
  tab : RdN w e.tab.A e.tab.l
  snaps : Rd w e.snaps.A (fl e.snaps.l)
theorem LEng.rd.le {e : LEng} {m w : World} (h : e.rd m) (hl : WLe m w) : e.rd w := ⟨h.mem.le hl,h.tab.le hl,h.snaps.le hl⟩
structure LTen where
  id : Int
  ep : Int
  ba : Int
  e : LEng
@[reducible] def LTen.d (t : LTen) : DTen := ⟨t.id,t.ep,t.ba,t.e.d⟩
@[reducible] instance : Dat LTen := ⟨7,fun t => .int .i64 t.id :: .int .i64 t.ep :: .int .i64 t.ba :: t.e.cells,fun _ => rfl,⟨0,0,0,⟨none,0,[]⟩,⟨none,0,[]⟩,0,⟨none,0,[]⟩⟩⟩
instance : OneC LTen := ⟨fun x u hu => by
  have : u = .int .i64 x.id ∨ u = .int .i64 x.ep ∨ u = .int .i64 x.ba ∨ u = x.e.mem.v ∨ u = x.e.tab.v ∨ u = .int .i64 x.e.seq ∨ u = x.e.snaps.v := by simpa [Dat.cells] using hu
  rcases this with rfl | rfl | rfl | rfl | rfl | rfl | rfl <;> rfl⟩
structure LKeys where
  master : ByteArray
  slots : Pl KeySlot
  wiped : Int
@[reducible] def LKeys.d (k : LKeys) : DKeys := ⟨k.master,k.slots.l,k.wiped⟩
@[reducible] def LKeys.cells (k : LKeys) : List Value := [.string k.master,.slice k.slots.A k.slots.l.length k.slots.c,.int .i64 k.wiped]
@[reducible] def LKeys.val (k : LKeys) : Value := .agg k.cells.toArray
def LKeys.rd (w : World) (k : LKeys) : Prop := Rd w k.slots.A (fl k.slots.l)
structure LShares where
  size : Int
  list : Pl Share
@[reducible] def LShares.d (s : LShares) : DShares := ⟨s.size,s.list.l⟩
@[reducible] def LShares.cells (s : LShares) : List Value := [.int .i64 s.size,.slice s.list.A s.list.l.length s.list.c]
@[reducible] def LShares.val (s : LShares) : Value := .agg s.cells.toArray
def LShares.rd (w : World) (s : LShares) : Prop := Rd w s.list.A (fl s.list.l)
structure LStore where
  secret : ByteArray
  keys : LKeys
  shares : LShares
  tens : Pl LTen
  rows : Pl LogRow
  hist : Pl LogRow
  boot : Int
@[reducible] def LStore.d (s : LStore) : DStore := ⟨s.secret,s.keys.d,s.shares.d,s.tens.l.map LTen.d,s.rows.l,s.hist.l,s.boot⟩
@[reducible] def LStore.cells (s : LStore) : List Value := [.string s.secret,.string s.keys.master,.slice s.keys.slots.A s.keys.slots.l.length s.keys.slots.c,.int .i64 s.keys.wiped,.int .i64 s.shares.size,.slice s.shares.list.A s.shares.list.l.length s.shares.list.c,.slice s.tens.A s.tens.l.length s.tens.c,.slice s.rows.A s.rows.l.length s.rows.c,.slice s.hist.A s.hist.l.length s.hist.c,.int .i64 s.boot]
@[reducible] def LStore.val (s : LStore) : Value := .agg s.cells.toArray
def tensRd (w : World) (l : List LTen) : Prop := ∀ k,k < l.length → (nth l k).e.rd w
structure LStore.rd (w : World) (s : LStore) : Prop where
  keys : s.keys.rd w
  shares : s.shares.rd w
  tens : Rd w s.tens.A (fl s.tens.l)
  engs : tensRd w s.tens.l
  rows : Rd w s.rows.A (fl s.rows.l)
  hist : Rd w s.hist.A (fl s.hist.l)
theorem tensRd.le {l : List LTen} {m w : World} (h : tensRd m l) (hl : WLe m w) : tensRd w l := fun k hk => (h k hk).le hl
theorem LStore.rd.le {s : LStore} {m w : World} (h : s.rd m) (hl : WLe m w) : s.rd w := ⟨Rd.le h.keys hl,Rd.le h.shares hl,h.tens.le hl,h.engs.le hl,h.rows.le hl,h.hist.le hl⟩
end Go.Proofs.YtmfojbidojjciaaGreat
namespace Go.Proofs.YtmfojbidojjciaaGreat
open Go.RowKit
attribute [local irreducible] Calls
def cmpT (a b : ByteArray) : Int := if sLt a b = true then -1 else if sLt b a = true then 1 else 0
def cmpI (a b : Int) : Int := if a < b then -1 else if b < a then 1 else 0
def or2 (a b : Int) : Int := if a ≠ 0 then a else b
def cmpE (a b : Ent) : Int := or2 (cmpT a.key b.key) (cmpI b.seq a.seq)
def aheadE (a b : Ent) : Bool := sLt a.key b.key || (sEq a.key b.key && decide (b.seq < a.seq))
def entOk (x : Ent) : Bool := kk x.key && inB x.seq 0 1000000 && (decide ((x.val.size : Int) ≤ 16) && (!x.del || sEq x.val ⟨#[]⟩))
theorem sTri (a b : ByteArray) : (sLt a b = true ∧ sLt b a = false ∧ sEq a b = false) ∨ (sLt a b = false ∧ sLt b a = true ∧ sEq a b = false) ∨ (sLt a b = false ∧ sLt b a = false ∧ sEq a b = true) := by
  have irr : ∀ x y : ByteArray,sLt x y = true → sEq x y = false := fun x y h => by
    cases h2 : sEq x y with
    | false => rfl
    | true =>
      unfold sEq at h2
      have e : x.toList = y.toList := by simpa using h2
      have h3 := h
      unfold sLt at h3
      rw [e] at h3
      have h4 := sLt_irrefl y
      unfold sLt at h4
      rw [h4] at h3;cases h3
  have sym : ∀ x y : ByteArray,sEq x y = sEq y x := fun x y => by unfold sEq;exact Bool.beq_comm
  have h0 := sLt_or_eq a b
  cases h1 : sLt a b with
  | true => exact .inl ⟨rfl,sLt_asymm h1,irr a b h1⟩
  | false =>
    right
    cases h2 : sLt b a with
    | true => exact .inl ⟨rfl,rfl,by rw [sym];exact irr b a h2⟩
    | false =>
      rw [h1,h2] at h0
      exact .inr ⟨rfl,rfl,by simpa using h0⟩
theorem cmpE_ahead (a b : Ent) : decide (0 ≤ cmpE a b) = !aheadE a b := by
  unfold cmpE or2 cmpT cmpI aheadE
  rcases sTri a.key b.key with ⟨h1,h2,h3⟩ | ⟨h1,h2,h3⟩ | ⟨h1,h2,h3⟩
  · simp [h1]
  · simp [h1,h2,h3]
  · simp only [h1,h2,h3,Bool.false_eq_true,if_false,ne_eq,not_true_eq_false,Bool.false_or,Bool.true_and]
    by_cases h : b.seq < a.seq
    · simp [h]
    · simp only [h,if_false,decide_false,Bool.not_false,decide_eq_true_eq]
      split <;> omega
def ordE (l : List Ent) (i : Nat) : Bool := !(!entOk (nth l i) || (decide (0 < (i : Int)) && !aheadE (nth l (i - 1)) (nth l i)))
def inOrd (l : List Ent) : Bool := (List.range l.length).all (ordE l)
theorem isNum_c (z : Int) (w : World) : Calls Tryz.prog 144 #[.int .i64 z] w fun e w' => e = .returned (.bool (inB z 0 1000000)) ∧ Below w.heap.size w w' := by
  refine ok_enter 5 Tryz.func144 rfl rfl rfl ?_
  repeat' (first|refine Wa ?_|refine Wb ?_|refine Wg ?_|(refine Zr 0 ?_;refine Za ?_;refine Ze1 0 ?_)|(refine Zr 1 ?_;refine Zm ?_;refine Zn (by exact ms_s3 rfl rfl rfl rfl (fun _ _ w hw => xi_in _ _ _ w)) ?_;rintro y4 hy4;refine Za ?_;refine Ze1 2 ?_))
  exact ok_endL (vs := [_]) rfl ⟨rfl,trivial⟩ (fun w hw => ⟨rfl,hw.below⟩)
theorem isVal_c (d : Bool) (v : ByteArray) (w : World) : Calls Tryz.prog 308 #[.bool d,.string v] w fun e w' => e = .returned (.bool (decide ((v.size : Int) ≤ 16) && (!d || sEq v ⟨#[]⟩))) ∧ Below w.heap.size w w' := by
  refine ok_enter 16 Tryz.func308 rfl rfl rfl ?_
  repeat' (first|refine Wa ?_|refine Wb ?_|refine Wg ?_|(refine Zr 0 ?_;refine Za ?_;refine Ze2 0 1 ?_)|(refine Zr 1 ?_;refine Zm ?_;refine Zq (ps_slen rfl rfl) ?_;refine Zi ?_;refine Zm ?_;refine Zg rfl rfl rfl (gT _) (fun hp => by exact ps_move rfl rfl) ?_;refine Zg rfl rfl rfl (gT _) (fun hp => by (exact ps_move rfl (Og rfl))) ?_;refine ok_pgg rfl rfl rfl rfl rfl (gT _) (fun hq hp hqp => by exact ps_move rfl rfl) ?_;refine ok_pgg rfl rfl rfl rfl rfl (gT _) (fun hq hp hqp => by (exact ps_str rfl (Og rfl) rfl rfl)) ?_;refine Zg rfl rfl rfl (gT _) (fun hp => by exact ps_and_in (by assumption) rfl rfl rfl) ?_;refine Zg rfl rfl rfl (gT _) (fun hp => by (exact ps_not rfl (Og rfl))) ?_;refine Zq (ps_and rfl rfl rfl) ?_;refine Za ?_;refine Ze1 4 ?_))
  refine ok_endL (vs := [_]) rfl ⟨rfl,trivial⟩ (fun w hw => ⟨?_,hw.below⟩)
  cases d <;> simp [retV]
theorem entOk_c (x : Ent) (w : World) : Calls Tryz.prog 320 #[.agg (Dat.cells x).toArray] w fun e w' => e = .returned (.bool (entOk x)) ∧ Below w.heap.size w w' := by
  refine ok_enter 18 Tryz.func320 rfl rfl rfl ?_
  repeat' (first|refine Wa ?_|refine Wb ?_|refine Wg ?_|(refine Zr 0 ?_;refine Zn (ms_box rfl rfl rfl) ?_;rintro y1 hy1;refine Za ?_;refine Ze1 1 ?_)|(refine Zr 1 ?_;refine Zf ?_;refine Zl 0 ?_;refine Zn (by exact ms_s1 rfl rfl (fun _ _ w hw => isKey_c _ w)) ?_;rintro y5 hy5;refine Zm ?_;refine Zg rfl rfl rfl (gT _) (fun hp => by exact ps_field rfl rfl (isw_ga _)) ?_;refine Zg rfl rfl rfl (gT _) (fun hp => by (exact ps_load rfl (Og rfl) (by exact Rds.cell (rds_box 0 rfl) rfl))) ?_;refine Zh rfl rfl rfl (gT _) (fun hp => by (exact ms_s1 rfl (Og rfl) (fun _ _ w hw => isNum_c _ w))) ?_;refine Zq (ps_and rfl rfl rfl) ?_;refine Zm ?_;refine Zg rfl rfl rfl (gT _) (fun hp => by exact ps_field rfl rfl (isw_ga _)) ?_;refine Zg rfl rfl rfl (gT _) (fun hp => by (exact ps_load rfl (Og rfl) (by exact Rds.cell (rds_box 0 rfl) rfl))) ?_;refine Zg rfl rfl rfl (gT _) (fun hp => by exact ps_field rfl rfl (isw_ga _)) ?_;refine Zg rfl rfl rfl (gT _) (fun hp => by (exact ps_load rfl (Og rfl) (by exact Rds.cell (rds_box 0 rfl) rfl))) ?_;refine Zh rfl rfl rfl (gT _) (fun hp => by (exact ms_s2 rfl (Og rfl) (Og rfl) (fun _ _ w hw => isVal_c _ _ w))) ?_;refine Zq (ps_and rfl rfl rfl) ?_;refine Za ?_;refine Ze1 2 ?_))
  exact ok_endL (vs := [_]) rfl ⟨rfl,trivial⟩ (fun w hw => ⟨rfl,hw.below⟩)
theorem l9Ent_c (x : Ent) (w : World) : Calls Tryz.prog 196 #[.agg (Dat.cells x).toArray] w fun e w' => e = .returned (.bool (entOk x)) ∧ Below w.heap.size w w' := by
  refine ok_enter 16 Tryz.func196 rfl rfl rfl ?_
  repeat' (first|refine Wa ?_|refine Wb ?_|refine Wg ?_|(refine Zr 0 ?_;refine Zn (ms_box rfl rfl rfl) ?_;rintro y1 hy1;refine Za ?_;refine Ze1 1 ?_)|(refine Zr 1 ?_;refine Zf ?_;refine Zl 0 ?_;refine Zf ?_;refine Zl 0 ?_;refine Zf ?_;refine Zl 0 ?_;refine Zq (by exact ps_bld rfl (parts_cons rfl (parts_cons rfl (parts_cons rfl parts_nil))) rfl) ?_;refine Zn (by exact ms_s1 rfl rfl (fun _ _ w hw => l7Op_c _ _ _ w)) ?_;rintro y10 hy10;refine Zm ?_;refine Zg rfl rfl rfl (gT _) (fun hp => by exact ps_field rfl rfl (isw_ga _)) ?_;refine Zg rfl rfl rfl (gT _) (fun hp => by (exact ps_load rfl (Og rfl) (by exact Rds.cell (rds_box 0 rfl) rfl))) ?_;refine Zh rfl rfl rfl (gT _) (fun hp => by (exact ms_s3 rfl (Og rfl) rfl rfl (fun _ _ w hw => xs_in _ _ _ w))) ?_;refine Zq (ps_and rfl rfl rfl) ?_;refine Za ?_;refine Ze1 2 ?_))
  refine ok_endL (vs := [_]) rfl ⟨rfl,trivial⟩ (fun w hw => ⟨?_,hw.below⟩)
  unfold entOk
  simp only [retV]
  congr 2
  cases kk x.key <;> cases inB x.seq 0 1000000 <;> simp
theorem ahead_c (a b : Ent) (w : World) : Calls Tryz.prog 197 #[.agg (Dat.cells a).toArray,.agg (Dat.cells b).toArray] w fun e w' => e = .returned (.bool (aheadE a b)) ∧ Below w.heap.size w w' := by
  refine ok_enter 24 Tryz.func197 rfl rfl rfl ?_
  repeat' (first|refine Wa ?_|refine Wb ?_|refine Wg ?_|(refine Zr 0 ?_;refine Zn (ms_box rfl rfl rfl) ?_;rintro y2 hy2;refine Zn (ms_box rfl rfl rfl) ?_;rintro y3 hy3;refine Za ?_;refine Ze2 2 3 ?_)|(refine Zr 1 ?_;refine Zf ?_;refine Zl 1 ?_;refine Zf ?_;refine Zl 0 ?_;refine Zq (ps_str rfl rfl rfl rfl) ?_;refine Zm ?_;refine Zg rfl rfl rfl (gF _) (fun hp => by exact ps_field rfl rfl (isw_ga _)) ?_;refine Zg rfl rfl rfl (gF _) (fun hp => by (exact ps_load rfl (Og rfl) (by exact Rds.cell (rds_box 1 rfl) rfl))) ?_;refine Zg rfl rfl rfl (gF _) (fun hp => by exact ps_field rfl rfl (isw_ga _)) ?_;refine Zg rfl rfl rfl (gF _) (fun hp => by (exact ps_load rfl (Og rfl) (by exact Rds.cell (rds_box 0 rfl) rfl))) ?_;refine Zg rfl rfl rfl (gF _) (fun hp => by (exact ps_str rfl (Og rfl) (Og rfl) rfl)) ?_;refine Zg rfl rfl rfl (gF _) (fun hp => by (exact ps_move rfl (Og rfl))) ?_;refine ok_pgg rfl rfl rfl rfl rfl (gT _) (fun hq hp hqp => by exact ps_field rfl rfl (isw_ga _)) ?_;refine ok_pgg rfl rfl rfl rfl rfl (gT _) (fun hq hp hqp => by (exact ps_load rfl (Og rfl) (by exact Rds.cell (rds_box 1 rfl) rfl))) ?_;refine ok_pgg rfl rfl rfl rfl rfl (gT _) (fun hq hp hqp => by exact ps_field rfl rfl (isw_ga _)) ?_;refine ok_pgg rfl rfl rfl rfl rfl (gT _) (fun hq hp hqp => by (exact ps_load rfl (Og rfl) (by exact Rds.cell (rds_box 0 rfl) rfl))) ?_;refine ok_pgg rfl rfl rfl rfl rfl (gT _) (fun hq hp hqp => by (exact ps_int rfl (Og rfl) (Og rfl) rfl)) ?_;refine Zg rfl rfl rfl (gF _) (fun hp => by exact ps_and_in (by assumption) rfl rfl rfl) ?_;refine Zq (ps_or rfl rfl rfl) ?_;refine Za ?_;refine Ze1 4 ?_))
  exact ok_endL (vs := [_]) rfl ⟨rfl,trivial⟩ (fun w hw => ⟨rfl,hw.below⟩)
theorem nanS_c (a : ByteArray) (w : World) : Calls Tryz.prog 328 #[.string a] w fun e w' => e = .returned (.bool false) ∧ Below w.heap.size w w' := by
  refine ok_enter 6 Tryz.func328 rfl rfl rfl ?_
  repeat' (first|refine Wa ?_|refine Wb ?_|refine Wg ?_|(refine Zr 0 ?_;refine Za ?_;refine Ze1 0 ?_)|(refine Zr 1 ?_;refine Zm ?_;refine Zm ?_;refine Zq (ps_str rfl rfl rfl rfl) ?_;refine Za ?_;refine Ze1 2 ?_))
  have e : sEq a a = true := by unfold sEq;simp
  exact ok_endL (vs := [_]) rfl ⟨rfl,trivial⟩ (fun w hw => ⟨by rw [e];rfl,hw.below⟩)
theorem nanI_c (a : Int) (w : World) : Calls Tryz.prog 329 #[.int .i64 a] w fun e w' => e = .returned (.bool false) ∧ Below w.heap.size w w' := by
  refine ok_enter 6 Tryz.func329 rfl rfl rfl ?_
  repeat' (first|refine Wa ?_|refine Wb ?_|refine Wg ?_|(refine Zr 0 ?_;refine Za ?_;refine Ze1 0 ?_)|(refine Zr 1 ?_;refine Zm ?_;refine Zm ?_;refine Zi ?_;refine Za ?_;refine Ze1 2 ?_))
  exact ok_endL (vs := [_]) rfl ⟨rfl,trivial⟩ (fun w hw => ⟨by simp [retV],hw.below⟩)
theorem cmpT_c (a b : ByteArray) (w : World) : Calls Tryz.prog 284 #[.string a,.string b] w fun e w' => e = .returned (.int .i64 (cmpT a b)) ∧ Below w.heap.size w w' := by
  refine ok_enter 20 Tryz.func284 rfl rfl rfl ?_
  repeat' (first|refine Wa ?_|refine Wb ?_|refine Wc ?_|(refine ok_cond rfl (fun hc => ?_) (fun hc => ?_) <;> (have hd := hc;try simp only [jj] at hd))|refine Wg ?_|refine Wi ?_|(refine Zr 0 ?_;refine Za ?_;refine Ze2 0 1 ?_)|(refine Zr 1 ?_;refine Zm ?_;refine Zn (by exact ms_s1 rfl rfl (fun _ _ w hw => nanS_c _ w)) ?_;rintro y8 hy8;refine Za ?_;refine Ze3 0 1 5 ?_)|(refine Zr 2 ?_;refine Zm ?_;refine Zn (by exact ms_s1 rfl rfl (fun _ _ w hw => nanS_c _ w)) ?_;rintro y10 hy10;refine Za ?_;refine Ze4 0 1 5 6 ?_)|(refine Zr 3 ?_;refine Zm ?_;refine Ze4 0 1 6 11 ?_)|(refine Zr 7 ?_;refine Zm ?_;refine Ze3 0 1 13 ?_)|(refine Zr 9 ?_;refine Zm ?_;refine Zm ?_;refine Zq (ps_str rfl rfl rfl rfl) ?_;refine Ze3 0 1 16 ?_)|(refine Zr 10 ?_;refine Za ?_;refine Ze1 4 ?_)|(refine Zr 11 ?_;refine Zm ?_;refine Zm ?_;refine Zq (ps_str rfl rfl rfl rfl) ?_;refine Ze1 19 ?_)|(refine Zr 12 ?_;refine Za ?_;refine Ze1 4 ?_)|(refine Zr 13 ?_;refine Za ?_;refine Ze1 4 ?_))
  all_goals first
    | (exfalso;simp at hc;done)
    | exact ok_endL (vs := [_]) rfl ⟨rfl,trivial⟩ (fun w hw => ⟨by simp_all [retV,cmpT],hw.below⟩)
theorem cmpI_c (a b : Int) (w : World) : Calls Tryz.prog 285 #[.int .i64 a,.int .i64 b] w fun e w' => e = .returned (.int .i64 (cmpI a b)) ∧ Below w.heap.size w w' := by
  refine ok_enter 20 Tryz.func285 rfl rfl rfl ?_
  repeat' (first|refine Wa ?_|refine Wb ?_|refine Wc ?_|(refine ok_cond rfl (fun hc => ?_) (fun hc => ?_) <;> (have hd := hc;try simp only [jj] at hd))|refine Wg ?_|refine Wi ?_|(refine Zr 0 ?_;refine Za ?_;refine Ze2 0 1 ?_)|(refine Zr 1 ?_;refine Zm ?_;refine Zn (by exact ms_s1 rfl rfl (fun _ _ w hw => nanI_c _ w)) ?_;rintro y8 hy8;refine Za ?_;refine Ze3 0 1 5 ?_)|(refine Zr 2 ?_;refine Zm ?_;refine Zn (by exact ms_s1 rfl rfl (fun _ _ w hw => nanI_c _ w)) ?_;rintro y10 hy10;refine Za ?_;refine Ze4 0 1 5 6 ?_)|(refine Zr 3 ?_;refine Zm ?_;refine Ze4 0 1 6 11 ?_)|(refine Zr 7 ?_;refine Zm ?_;refine Ze3 0 1 13 ?_)|(refine Zr 9 ?_;refine Zm ?_;refine Zm ?_;refine Zi ?_;refine Ze3 0 1 16 ?_)|(refine Zr 10 ?_;refine Za ?_;refine Ze1 4 ?_)|(refine Zr 11 ?_;refine Zm ?_;refine Zm ?_;refine Zi ?_;refine Ze1 19 ?_)|(refine Zr 12 ?_;refine Za ?_;refine Ze1 4 ?_)|(refine Zr 13 ?_;refine Za ?_;refine Ze1 4 ?_))
  all_goals first
    | (exfalso;simp at hc;done)
    | exact ok_endL (vs := [_]) rfl ⟨rfl,trivial⟩ (fun w hw => ⟨by (unfold cmpI;first | rw [if_pos (by assumption)];rfl | (rw [if_neg (by assumption),if_pos (by assumption)];rfl) | (rw [if_neg (by assumption),if_neg (by assumption)];rfl)),hw.below⟩)
theorem or_c (A : Option Addr) (c : Nat) (a b : Int) (w : World) (h : Rd w A (fl [a,b])) : Calls Tryz.prog 283 #[.slice A 2 c] w fun e w' => e = .returned (.int .i64 (or2 a b)) ∧ Below w.heap.size w w' := by
  refine ok_enter 18 Tryz.func283 rfl rfl rfl ?_
  repeat' (first|refine Wa ?_|refine Wb ?_|refine Wd ?_|(refine Zr 0 ?_;refine Za ?_;refine Ze1 0 ?_)|(refine Zr 1 ?_;refine Za ?_;refine Ze2 0 3 ?_)|(refine Zr 2 ?_;refine Zm ?_;refine Zq (ps_len rfl rfl) ?_;refine Zm ?_;refine Ze4 3 6 7 8 ?_))
  refine ok_loop (ι := { k : Nat // k ≤ 2 ∧ (0 < k → a = 0) ∧ (1 < k → b = 0) }) (fun k => 2 - k.1) (fun k => ([(3,.int .i64 0),(6,.slice A 2 c),(7,.int .i64 ((2 : Nat) : Int)),(8,.int .i64 k.1)],[],_)) ⟨0,by omega⟩ (fun a w he hw => ⟨⟨0,by omega⟩,he.sub ⟨rfl,rfl,rfl,rfl,trivial⟩,hw⟩) ?_
  rintro ⟨k,hk,k1,k2⟩
  simp only at hk k1 k2 ⊢
  have n0 : nth [a,b] 0 = a := rfl
  have n1 : nth [a,b] 1 = b := rfl
  have hl : ([a,b] : List Int).length = 2 := rfl
  repeat' (first|refine Wa ?_|refine Wb ?_|refine Wc ?_|refine Wd ?_|refine We ?_|refine Wf ?_|(refine ok_cond rfl (fun hc => ?_) (fun hc => ?_) <;> (have hd := hc;try simp only [jj] at hd))|refine Wg ?_|refine Wh ?_|refine Wi ?_|(refine Zr 3 ?_;refine Zi ?_;refine Ze5 3 6 7 8 9 ?_)|(refine Zr 4 ?_;refine Zq (by exact ps_indexN rfl rfl rfl (by omega) (by exact isw_of (isS_fl (by assumption) (by omega)))) ?_;refine Zq (by exact ps_load rfl rfl (by exact Rds.cell (rds_rf (by assumption) List.mem_cons_self) (by exact fl_at0 _ _ (by omega) (by decide)))) ?_;refine Za ?_;refine Ze5 3 5 6 7 8 ?_)|(refine Zr 5 ?_;refine Zm ?_;refine Zm ?_;refine Zi ?_;refine Ze6 3 5 6 7 8 14 ?_)|(refine Zr 6 ?_;refine Zm ?_;refine Za ?_;refine Ze1 2 ?_)|(refine Zr 7 ?_;refine Zq (by exact ps_add rfl rfl rfl (by omega)) ?_;refine Zm ?_;refine Ze4 3 6 7 8 ?_)|(refine Zr 8 ?_;refine Zm ?_;refine Za ?_;refine Ze1 2 ?_))
  · have e : or2 a b = nth [a,b] k := by
      unfold or2
      have : k = 0 ∨ k = 1 := by omega
      rcases this with rfl | rfl
      · rw [n0] at hd ⊢;rw [if_pos hd]
      · rw [n1] at hd ⊢;rw [if_neg (by have := k1 (by omega);simp [this])]
    rw [e]
    exact ok_endL (vs := [_]) rfl ⟨rfl,trivial⟩ (fun w hw => ⟨rfl,hw.below⟩)
  · have hd : nth [a,b] k = 0 := by simpa using hc
    exact fun ac w he hw => ⟨⟨k + 1,by omega,fun _ => by
      have : k = 0 ∨ k = 1 := by omega
      rcases this with rfl | rfl
      · rw [n0] at hd;exact hd
      · exact k1 (by omega),fun h => by
      obtain rfl : k = 1 := by omega
      rw [n1] at hd;exact hd⟩,by simp only;omega,he.sub ⟨rfl,rfl,rfl,rfl,trivial⟩,hw⟩
  · have e : or2 a b = 0 := by
      unfold or2
      rw [k1 (by omega),k2 (by omega)];rfl
    rw [e]
    exact ok_endL (vs := [_]) rfl ⟨rfl,trivial⟩ (fun w hw => ⟨rfl,hw.below⟩)
theorem compareEnts_c (a b : Ent) (w : World) : Calls Tryz.prog 217 #[.agg (Dat.cells a).toArray,.agg (Dat.cells b).toArray] w fun e w' => e = .returned (.int .i64 (cmpE a b)) ∧ Below w.heap.size w w' := by
  refine ok_enter 17 Tryz.func217 rfl rfl rfl ?_
  repeat' (first|refine Wa ?_|refine Wb ?_|refine Wg ?_|(refine Zr 0 ?_;refine Zn (ms_box rfl rfl rfl) ?_;rintro y2 hy2;refine Zn (ms_box rfl rfl rfl) ?_;rintro y3 hy3;refine Za ?_;refine Ze2 2 3 ?_)|(refine Xd 1 13 ?_;refine Xf 0 ?_;refine Xl 1 1 ?_;refine Xf 2 ?_;refine Xl 3 0 ?_;refine Xf 5 ?_;refine Xl 6 0 ?_;refine Xf 7 ?_;refine Xl 8 1 ?_;refine Xo 4 rfl (by exact ms_s2 rfl rfl rfl (fun _ _ w hw => cmpT_c _ _ w)) (fun y w _ h => by exact h) ?_;rintro y9 hy9;refine Xo 9 rfl (by exact ms_s2 rfl rfl rfl (fun _ _ w hw => cmpI_c _ _ w)) (fun y w _ h => by exact h) ?_;rintro y14 hy14;refine Xo 10 rfl (by exact ms_lit rfl (parts_cons rfl (parts_cons rfl parts_nil)) rfl rfl rfl) (fun y w _ h => by exact h.tl) ?_;rintro y15 hy15;refine Xo 11 rfl (by exact ms_s1 rfl rfl (fun _ _ w hw => or_c _ _ (cmpT a.key b.key) (cmpI b.seq a.seq) w (rds_row 0 rfl _ _ w hw))) (fun y w _ h => by exact h.tl) ?_;rintro y16 hy16;refine Xt 12 rfl (ps_assign rfl rfl) ?_;refine okT_done (by kernel_rfl) ?_;refine Ze1 4 ?_))
  exact ok_endL (vs := [_]) rfl ⟨rfl,trivial⟩ (fun w hw => ⟨rfl,hw.below⟩)
theorem inOrder_c (A : Option Addr) (c : Nat) (l : List Ent) (w : World) (h : Rd w A (fl l)) (hl : l.length ≤ 4194304) : Calls Tryz.prog 270 #[.slice A l.length c] w fun e w' => e = .returned (.bool (inOrd l)) ∧ Below w.heap.size w w' := by
  refine ok_enter 30 Tryz.func270 rfl rfl rfl ?_
  repeat' (first|refine Wa ?_|refine Wb ?_|refine Wd ?_|(refine Zr 0 ?_;refine Za ?_;refine Ze1 0 ?_)|(refine Zr 1 ?_;refine Zm ?_;refine Zq (ps_len rfl rfl) ?_;refine Zm ?_;refine Ze4 0 5 6 7 ?_))
  refine ok_loop (ι := { k : Nat // k ≤ l.length ∧ ∀ j,j < k → ordE l j = true }) (fun k => l.length - k.1) (fun k => ([(0,.slice A l.length c),(5,.slice A l.length c),(6,.int .i64 l.length),(7,.int .i64 k.1)],[],_)) ⟨0,by omega,fun j h => absurd h (Nat.not_lt_zero j)⟩ (fun a w he hw => ⟨⟨0,by omega,fun j h => absurd h (Nat.not_lt_zero j)⟩,he.sub ⟨rfl,rfl,rfl,rfl,trivial⟩,hw⟩) ?_
  rintro ⟨k,hk,hok⟩
  simp only at hk hok ⊢
  have HO := Lib.hid hok;clear hok
  repeat' (first|refine Wa ?_|refine Wb ?_|refine Wc ?_|refine Wd ?_|refine We ?_|refine Wf ?_|(refine ok_cond rfl (fun hc => ?_) (fun hc => ?_) <;> (have hd := hc;try simp only [jj] at hd))|refine Wg ?_|refine Wh ?_|refine Wi ?_|(refine Zr 2 ?_;refine Zi ?_;refine Ze5 0 5 6 7 8 ?_)|(refine Zr 3 ?_;refine Zm ?_;refine Zq (by exact ps_indexN rfl rfl rfl (by omega) (by exact isw_of (isS_fl (by assumption) (by omega)))) ?_;refine Zq (by exact ps_loadsF rfl rfl (by exact rds_rf (by assumption) List.mem_cons_self) (by rfl) (by rfl) (by omega) rfl) ?_;refine Zn (ms_alloc rfl) ?_;rintro y4 hy4;refine Za ?_;refine Zo (ms_store 0 rfl rfl rfl rfl rfl rfl rfl rfl) ?_;rintro y_ hy_;refine Ze6 0 3 4 5 6 7 ?_)|(refine Xd 4 17 ?_;refine Xt 0 rfl (by exact ps_loads rfl rfl (by exact rds_box 0 rfl) rfl rfl (by decide)) ?_;refine Xo 1 rfl (by exact ms_s1 rfl rfl (fun _ _ w hw => entOk_c (nth l k) w)) (fun y w _ h => by exact h) ?_;rintro y13 hy13;refine Xt 2 rfl (ps_not rfl rfl) ?_;refine Xm 3 ?_;refine Xg 4 rfl rfl rfl rfl (gF _) (fun hp => by exact ps_move rfl rfl) ?_;refine Xg 5 rfl rfl rfl rfl (gF _) (fun hp => by (exact ps_int rfl (Og rfl) rfl rfl)) ?_;refine Xg 6 rfl rfl rfl rfl (gF _) (fun hp => by (exact ps_move rfl (Og rfl))) ?_;refine Xh 7 rfl rfl rfl rfl (gT _) (fun hq hp hqp => by exact ps_move rfl rfl) ?_;refine Xh 8 rfl rfl rfl rfl (gT _) (fun hq hp hqp => by exact ps_move rfl rfl) ?_;refine Xh 9 rfl rfl rfl rfl (gT _) (fun hq hp hqp => by (have hqd := hq;have hpd := hp;(try simp only [jj] at hqd hpd);exact ps_sub rfl (Og rfl) rfl (by omega))) ?_;refine Xh 10 rfl rfl rfl rfl (gT _) (fun hq hp hqp => by (have hqd := hq;have hpd := hp;(try simp only [jj] at hqd hpd);exact ps_index rfl (Og rfl) (Og rfl) (by omega) (by exact isw_of (isS_fl (by assumption) (by omega))))) ?_;refine Xh 11 rfl rfl rfl rfl (gT _) (fun hq hp hqp => by (have hqd := hq;have hpd := hp;(try simp only [jj] at hqd hpd);exact ps_loadsF rfl (Og rfl) (by exact rds_rf (by assumption) List.mem_cons_self) (by rfl) (by rfl) (by omega) rfl)) ?_;refine Xh 12 rfl rfl rfl rfl (gT _) (fun hq hp hqp => by exact ps_loads rfl rfl (by exact rds_box 0 rfl) rfl rfl (by decide)) ?_;refine okT_one_g (i := 13) rfl rfl (by kernel_rfl) rfl rfl rfl rfl rfl (gT _) (fun hq hp hqp => by (exact ms_s2 rfl (Og rfl) (Og rfl) (fun _ _ w hw => compareEnts_c (nth l ((k : Int) - 1).toNat) (nth l k) w))) (fun w h => by exact h) ?_;refine Xh 14 rfl rfl rfl rfl (gT _) (fun hq hp hqp => by (exact ps_int rfl (Og rfl) rfl rfl)) ?_;refine Xg 15 rfl rfl rfl rfl (gF _) (fun hp => by exact ps_and_in (by assumption) rfl rfl rfl) ?_;refine Xt 16 rfl (ps_or rfl rfl rfl) ?_;refine okT_done (by kernel_rfl) ?_;refine Ze5 0 5 6 7 28 ?_)|(refine Zr 5 ?_;refine Za ?_;refine Ze1 2 ?_)|(refine Zr 6 ?_;refine Zq (by exact ps_add rfl rfl rfl (by omega)) ?_;refine Zm ?_;refine Ze4 0 5 6 7 ?_)|(refine Zr 7 ?_;refine Za ?_;refine Ze1 2 ?_))
  all_goals try rw [tn1,cmpE_ahead] at hc
  · have e := all_false (p := ordE l) (show k < l.length by omega) (by unfold ordE;rw [hc];rfl)
    exact ok_endL (vs := [_]) rfl ⟨rfl,trivial⟩ (fun w' hw => ⟨by rw [inOrd,e];rfl,hw.below⟩)
  · have e : ordE l k = true := by unfold ordE;rw [hc];rfl
    exact fun a w' he hw => ⟨⟨k + 1,by omega,fun j hj => by
      rcases Nat.lt_succ_iff_lt_or_eq.1 hj with h' | h'
      · exact HO.out j h'
      · subst h';exact e⟩,by simp only;omega,he.sub ⟨rfl,rfl,rfl,rfl,trivial⟩,hw.tl⟩
  · obtain rfl : k = l.length := by omega
    have e := all_true (p := ordE l) (n := l.length) (fun i hi => HO.out i hi)
    exact ok_endL (vs := [_]) rfl ⟨rfl,trivial⟩ (fun w' hw => ⟨by rw [inOrd,e];rfl,hw.below⟩)
theorem l9Ents_c (A : Option Addr) (c : Nat) (l : List Ent) (w : World) (h : Rd w A (fl l)) (hl : l.length ≤ 4194304) : Calls Tryz.prog 137 #[.slice A l.length c] w fun e w' => e = .returned (.bool (inOrd l)) ∧ Below w.heap.size w w' := by
  refine ok_enter 33 Tryz.func137 rfl rfl rfl ?_
  repeat' (first|refine Wa ?_|refine Wb ?_|refine Wd ?_|(refine Zr 0 ?_;refine Za ?_;refine Ze1 0 ?_)|(refine Zr 1 ?_;refine Za ?_;refine Ze2 0 3 ?_))
  refine ok_loop (ι := { k : Nat // k ≤ l.length ∧ ∀ j,j < k → ordE l j = true }) (fun k => l.length - k.1) (fun k => ([(0,.slice A l.length c),(3,.int .i64 k.1)],[],_)) ⟨0,by omega,fun j h => absurd h (Nat.not_lt_zero j)⟩ (fun a w he hw => ⟨⟨0,by omega,fun j h => absurd h (Nat.not_lt_zero j)⟩,he.sub ⟨rfl,rfl,trivial⟩,hw⟩) ?_
  rintro ⟨k,hk,hok⟩
  simp only at hk hok ⊢
  have HO := Lib.hid hok;clear hok
  repeat' (first|refine Wa ?_|refine Wb ?_|refine Wc ?_|refine Wd ?_|refine We ?_|refine Wf ?_|(refine ok_cond rfl (fun hc => ?_) (fun hc => ?_) <;> (have hd := hc;try simp only [jj] at hd))|refine Wg ?_|refine Wh ?_|refine Wi ?_|(refine Zr 2 ?_;refine Zm ?_;refine Zm ?_;refine Zq (ps_len rfl rfl) ?_;refine Zi ?_;refine Ze3 0 3 7 ?_)|(refine Zr 3 ?_;refine Zm ?_;refine Zq (by exact ps_add rfl rfl rfl (by omega)) ?_;refine Za ?_;refine Ze2 0 3 ?_)|(refine Xd 4 23 ?_;refine Xm 0 ?_;refine Xm 1 ?_;refine Xt 2 rfl (by exact ps_indexN rfl rfl rfl (by omega) (by exact isw_of (isS_fl (by assumption) (by omega)))) ?_;refine Xt 3 rfl (by exact ps_loadsF rfl rfl (by exact rds_rf (by assumption) List.mem_cons_self) (by rfl) (by rfl) (by omega) rfl) ?_;refine Xo 4 rfl (by exact ms_s1 rfl rfl (fun _ _ w hw => l9Ent_c (nth l k) w)) (fun y w _ h => by exact h) ?_;rintro y14 hy14;refine Xt 5 rfl (ps_not rfl rfl) ?_;refine Xm 6 ?_;refine Xg 7 rfl rfl rfl rfl (gF _) (fun hp => by exact ps_move rfl rfl) ?_;refine Xg 8 rfl rfl rfl rfl (gF _) (fun hp => by (exact ps_int rfl (Og rfl) rfl rfl)) ?_;refine Xg 9 rfl rfl rfl rfl (gF _) (fun hp => by (exact ps_move rfl (Og rfl))) ?_;refine Xh 10 rfl rfl rfl rfl (gT _) (fun hq hp hqp => by exact ps_move rfl rfl) ?_;refine Xh 11 rfl rfl rfl rfl (gT _) (fun hq hp hqp => by exact ps_move rfl rfl) ?_;refine Xh 12 rfl rfl rfl rfl (gT _) (fun hq hp hqp => by (have hqd := hq;have hpd := hp;(try simp only [jj] at hqd hpd);exact ps_sub rfl (Og rfl) rfl (by omega))) ?_;refine Xh 13 rfl rfl rfl rfl (gT _) (fun hq hp hqp => by (have hqd := hq;have hpd := hp;(try simp only [jj] at hqd hpd);exact ps_index rfl (Og rfl) (Og rfl) (by omega) (by exact isw_of (isS_fl (by assumption) (by omega))))) ?_;refine Xh 14 rfl rfl rfl rfl (gT _) (fun hq hp hqp => by (have hqd := hq;have hpd := hp;(try simp only [jj] at hqd hpd);exact ps_loadsF rfl (Og rfl) (by exact rds_rf (by assumption) List.mem_cons_self) (by rfl) (by rfl) (by omega) rfl)) ?_;refine Xh 15 rfl rfl rfl rfl (gT _) (fun hq hp hqp => by exact ps_move rfl rfl) ?_;refine Xh 16 rfl rfl rfl rfl (gT _) (fun hq hp hqp => by exact ps_move rfl rfl) ?_;refine Xh 17 rfl rfl rfl rfl (gT _) (fun hq hp hqp => by (have hqd := hq;have hpd := hp;(try simp only [jj] at hqd hpd);exact ps_indexN rfl (Og rfl) (Og rfl) (by omega) (by exact isw_of (isS_fl (by assumption) (by omega))))) ?_;refine Xh 18 rfl rfl rfl rfl (gT _) (fun hq hp hqp => by (have hqd := hq;have hpd := hp;(try simp only [jj] at hqd hpd);exact ps_loadsF rfl (Og rfl) (by exact rds_rf (by assumption) List.mem_cons_self) (by rfl) (by rfl) (by omega) rfl)) ?_;refine okT_one_g (i := 19) rfl rfl (by kernel_rfl) rfl rfl rfl rfl rfl (gT _) (fun hq hp hqp => by (exact ms_s2 rfl (Og rfl) (Og rfl) (fun _ _ w hw => ahead_c (nth l ((k : Int) - 1).toNat) (nth l k) w))) (fun w h => by exact h) ?_;refine Xh 20 rfl rfl rfl rfl (gT _) (fun hq hp hqp => by (exact ps_not rfl (Og rfl))) ?_;refine Xg 21 rfl rfl rfl rfl (gF _) (fun hp => by exact ps_and_in (by assumption) rfl rfl rfl) ?_;refine Xt 22 rfl (ps_or rfl rfl rfl) ?_;refine okT_done (by kernel_rfl) ?_;refine Ze3 0 3 32 ?_)|(refine Zr 5 ?_;refine Za ?_;refine Ze1 2 ?_)|(refine Zr 6 ?_;refine Za ?_;refine Ze1 2 ?_))
  all_goals try rw [tn1] at hc
  · have e := all_false (p := ordE l) (show k < l.length by omega) (by unfold ordE;rw [hc];rfl)
    exact ok_endL (vs := [_]) rfl ⟨rfl,trivial⟩ (fun w' hw => ⟨by rw [inOrd,e];rfl,hw.below⟩)
  · have e : ordE l k = true := by unfold ordE;rw [hc];rfl
    exact fun a w' he hw => ⟨⟨k + 1,by omega,fun j hj => by
      rcases Nat.lt_succ_iff_lt_or_eq.1 hj with h' | h'
      · exact HO.out j h'
      · subst h';exact e⟩,by simp only;omega,he.sub ⟨rfl,rfl,trivial⟩,hw⟩
  · obtain rfl : k = l.length := by omega
    have e := all_true (p := ordE l) (n := l.length) (fun i hi => HO.out i hi)
    exact ok_endL (vs := [_]) rfl ⟨rfl,trivial⟩ (fun w' hw => ⟨by rw [inOrd,e];rfl,hw.below⟩)
theorem lens_at {R : List LE} {m : Nat} (hs : ∀ x ∈ dats R,x.length ≤ m) : ∀ k,k < R.length → (nth R k).d.length ≤ m := fun k hk => hs _ (List.mem_map.2 ⟨_,nth_mem R k hk,rfl⟩)
theorem totalOf_c (A : Option Addr) (c : Nat) (R : List LE) (hl : R.length ≤ 4194304) (hs : ∀ x ∈ dats R,x.length ≤ 4194304) (w : World) (h : RdN w A R) : Calls Tryz.prog 267 #[.slice A R.length c] w fun e w' => e = .returned (.int .i64 (offE (dats R) R.length : Int)) ∧ Below w.heap.size w w' := by
  obtain ⟨h1,h2⟩ := h
  have ho : ∀ k,offE (dats R) k ≤ 17592186044416 := offE_le _ (by rw [dats_len];exact hl) hs
  have HS := Lib.hid (lens_at hs);clear hs
  have HO := Lib.hid ho;clear ho
  clear h2
  refine ok_enter 18 Tryz.func267 rfl rfl rfl ?_
  repeat' (first|refine Wa ?_|refine Wb ?_|refine Wd ?_|(refine Zr 0 ?_;refine Za ?_;refine Ze1 0 ?_)|(refine Zr 1 ?_;refine Za ?_;refine Ze2 0 3 ?_)|(refine Zr 2 ?_;refine Zm ?_;refine Zq (ps_len rfl rfl) ?_;refine Zm ?_;refine Ze4 3 6 7 8 ?_))
  refine ok_loop (ι := { k : Nat // k ≤ R.length }) (fun k => R.length - k.1) (fun k => ([(3,.int .i64 (offE (dats R) k.1 : Int)),(6,.slice A R.length c),(7,.int .i64 R.length),(8,.int .i64 k.1)],[],_)) ⟨0,by omega⟩ (fun a w he hw => ⟨⟨0,by omega⟩,he.sub ⟨rfl,rfl,rfl,rfl,trivial⟩,hw⟩) ?_
  rintro ⟨k,hk⟩
  simp only at hk ⊢
  have hok := HO.out k
  have hsk : k < R.length → (nth R k).d.length ≤ 4194304 := fun h => HS.out k h
  repeat' (first|refine Wa ?_|refine Wb ?_|refine Wd ?_|refine We ?_|(refine ok_cond rfl (fun hc => ?_) (fun hc => ?_) <;> (have hd := hc;try simp only [jj] at hd))|refine Wg ?_|refine Wh ?_|refine Wi ?_|(refine Zr 3 ?_;refine Zi ?_;refine Ze5 3 6 7 8 9 ?_)|(refine Zr 4 ?_;refine Zq (by exact ps_indexN rfl rfl rfl (by omega) (by exact isw_of (isS_fl (by assumption) (by omega)))) ?_;refine Zq (by exact ps_load rfl rfl (by exact Rds.cell (rds_rf (by assumption) List.mem_cons_self) (by exact fl_at0 _ _ (by omega) (by decide)))) ?_;refine Za ?_;refine Ze5 3 5 6 7 8 ?_)|(refine Zr 5 ?_;refine Zm ?_;refine Zm ?_;refine Zq (ps_len rfl rfl) ?_;refine Zq (by exact ps_add (n := ((nth R k).d.length : Int)) rfl rfl rfl (by have := hsk (by omega);omega)) ?_;refine Za ?_;refine Ze4 3 6 7 8 ?_)|(refine Zr 6 ?_;refine Zq (by exact ps_add rfl rfl rfl (by omega)) ?_;refine Zm ?_;refine Ze4 3 6 7 8 ?_)|(refine Zr 7 ?_;refine Zm ?_;refine Za ?_;refine Ze1 2 ?_))
  · refine fun a w' he hw => ⟨⟨k + 1,by omega⟩,by simp only;omega,he.sub ⟨?_,rfl,rfl,rfl,trivial⟩,hw⟩
    simp only [look];congr 2;rw [offE_succ R k (by omega)];simp
  · obtain rfl : k = R.length := by omega
    exact ok_endL (vs := [_]) rfl ⟨rfl,trivial⟩ (fun w' hw => ⟨rfl,hw.below⟩)
end Go.Proofs.YtmfojbidojjciaaGreat
namespace Go.Proofs.YtmfojbidojjciaaGreat
def sameE (a b : Ent) : Bool := sEq a.key b.key && decide (a.seq = b.seq)
def leE (a b : Ent) : Bool := !aheadE b a
theorem sEq_ref (a : ByteArray) : sEq a a = true := by unfold sEq;simp
theorem sEq_to {a b : ByteArray} (h : sEq a b = true) : a = b := by
  unfold sEq at h
  have h3 : a.toList = b.toList := by simpa using h
  have h4 : a.data.toList = b.data.toList := by rw [ByteArray.toList_eq,ByteArray.toList_eq] at h3;exact h3
  exact ByteArray.ext (Array.toList_inj.1 h4)
theorem ahead_irr (a : Ent) : aheadE a a = false := by unfold aheadE;rw [sLt_irrefl];simp
theorem ahead_trans {a b c : Ent} (h : aheadE a b = true) (h2 : aheadE b c = true) : aheadE a c = true := by
  unfold aheadE at *
  rw [Bool.or_eq_true] at h h2 ⊢
  rcases h with h | h
  · rcases h2 with h2 | h2
    · exact .inl (sLt_trans h h2)
    · rw [Bool.and_eq_true] at h2
      have e := sEq_to h2.1
      rw [← e];exact .inl h
  · rw [Bool.and_eq_true,decide_eq_true_eq] at h
    have e := sEq_to h.1
    rcases h2 with h2 | h2
    · rw [e];exact .inl h2
    · rw [Bool.and_eq_true,decide_eq_true_eq] at h2
      rw [e]
      exact .inr (by rw [h2.1,Bool.true_and,decide_eq_true_eq];omega)
theorem ahead_tri (a b : Ent) : aheadE a b = true ∨ aheadE b a = true ∨ sameE a b = true := by
  unfold aheadE sameE
  rcases sTri a.key b.key with ⟨h1,h2,h3⟩ | ⟨h1,h2,h3⟩ | ⟨h1,h2,h3⟩
  · left;rw [h1];rfl
  · right;left;rw [h2];rfl
  · have e := sEq_to h3
    rw [e,sEq_ref,sLt_irrefl]
    simp only [Bool.false_or,Bool.true_and,decide_eq_true_eq]
    omega
theorem ahead_not {a b : Ent} (h : aheadE a b = true) : aheadE b a = false := by
  cases h2 : aheadE b a with
  | false => rfl
  | true => have := ahead_trans h h2;rw [ahead_irr] at this;cases this
theorem ahead_diff {a b : Ent} (h : aheadE a b = true) : sameE a b = false := by
  cases h2 : sameE a b with
  | false => rfl
  | true =>
    unfold sameE at h2
    rw [Bool.and_eq_true,decide_eq_true_eq] at h2
    have e := sEq_to h2.1
    unfold aheadE at h
    rw [e,sLt_irrefl,h2.2] at h
    simp at h
theorem leE_trans {a b c : Ent} (h : leE a b = true) (h2 : leE b c = true) : leE a c = true := by
  unfold leE at *
  rw [Bool.not_eq_true'] at *
  cases h3 : aheadE c a with
  | false => rfl
  | true =>
    rcases ahead_tri b a with h4 | h4 | h4
    · rw [h4] at h;cases h
    · have := ahead_trans h3 h4;rw [this] at h2;cases h2
    · have e : sameE b a = true := h4
      unfold sameE at e
      rw [Bool.and_eq_true,decide_eq_true_eq] at e
      have e1 := sEq_to e.1
      have : aheadE c b = true := by
        unfold aheadE at h3 ⊢
        rw [e1,e.2];exact h3
      rw [this] at h2;cases h2
theorem lt_le {a b : Ent} (h : aheadE a b = true) : leE a b = true := by unfold leE;rw [ahead_not h];rfl
theorem le_lt {a b c : Ent} (h : leE a b = true) (h2 : aheadE b c = true) : aheadE a c = true := by
  cases h3 : aheadE a c with
  | true => rfl
  | false =>
    have h4 : leE c a = true := by unfold leE;rw [h3];rfl
    have := leE_trans h4 h
    unfold leE at this
    rw [h2] at this;cases this
theorem lt_le_lt {a b c : Ent} (h : aheadE a b = true) (h2 : leE b c = true) : aheadE a c = true := by
  cases h3 : aheadE a c with
  | true => rfl
  | false =>
    have h4 : leE c a = true := by unfold leE;rw [h3];rfl
    have := leE_trans h2 h4
    unfold leE at this
    rw [h] at this;cases this
def srtIn (L : List Ent) (a b : Nat) : Prop := ∀ i j,a ≤ i → i < j → j < b → leE (nth L i) (nth L j) = true
def stb (L M : List Ent) : Prop := ∀ e,L.filter (sameE e) = M.filter (sameE e)
theorem stb_refl (L : List Ent) : stb L L := fun _ => rfl
theorem stb_trans {L M N : List Ent} (h : stb L M) (h2 : stb M N) : stb L N := fun e => (h e).trans (h2 e)
theorem same_sym (a b : Ent) : sameE a b = sameE b a := by
  unfold sameE
  have : sEq a.key b.key = sEq b.key a.key := by unfold sEq;exact Bool.beq_comm
  rw [this]
  congr 1
  exact decide_eq_decide.2 ⟨Eq.symm,Eq.symm⟩
theorem same_trans {a b c : Ent} (h : sameE a b = true) (h2 : sameE a c = true) : sameE b c = true := by
  unfold sameE at *
  simp only [Bool.and_eq_true,decide_eq_true_eq] at *
  rw [← sEq_to h.1,← sEq_to h2.1,sEq_ref,← h.2,← h2.2]
  exact ⟨rfl,rfl⟩
theorem stb_rot {P u v S : List Ent} (h : ∀ x ∈ u,∀ y ∈ v,aheadE y x = true) : stb (P ++ u ++ v ++ S) (P ++ v ++ u ++ S) := fun e => by
  have key : u.filter (sameE e) ++ v.filter (sameE e) = v.filter (sameE e) ++ u.filter (sameE e) := by
    cases hu : u.filter (sameE e) with
    | nil => simp
    | cons x U =>
      cases hv : v.filter (sameE e) with
      | nil => simp
      | cons y V =>
        exfalso
        have hx : x ∈ u.filter (sameE e) := by rw [hu];exact List.mem_cons_self
        have hy : y ∈ v.filter (sameE e) := by rw [hv];exact List.mem_cons_self
        rw [List.mem_filter] at hx hy
        have h1 := ahead_diff (h x hx.1 y hy.1)
        have h2 := same_trans hy.2 hx.2
        rw [h1] at h2;cases h2
  simp only [List.filter_append,List.append_assoc]
  rw [← List.append_assoc (u.filter (sameE e)),key,List.append_assoc]
end Go.Proofs.YtmfojbidojjciaaGreat
namespace Go.Proofs.YtmfojbidojjciaaGreat
def strE (L : List Ent) : Prop := L.Pairwise (fun a b => aheadE a b = true)
theorem strE_ext : ∀ (L M : List Ent),strE L → strE M → (∀ x,x ∈ L ↔ x ∈ M) → L = M
  | [],[],_,_,_ => rfl
  | [],b :: M,_,_,h => by have := (h b).2 List.mem_cons_self;simp at this
  | a :: L,[],_,_,h => by have := (h a).1 List.mem_cons_self;simp at this
  | a :: L,b :: M,h1,h2,h => by
    have p1 := List.pairwise_cons.1 h1
    have p2 := List.pairwise_cons.1 h2
    have e : a = b := by
      rcases List.mem_cons.1 ((h a).1 List.mem_cons_self) with e | e
      · exact e
      · rcases List.mem_cons.1 ((h b).2 List.mem_cons_self) with e2 | e2
        · exact e2.symm
        · have q := ahead_not (p2.1 a e);rw [p1.1 b e2] at q;cases q
    subst e
    congr 1
    refine strE_ext L M p1.2 p2.2 fun x => ⟨fun hx => ?_,fun hx => ?_⟩
    · rcases List.mem_cons.1 ((h x).1 (List.mem_cons_of_mem _ hx)) with e | e
      · subst e;have := p1.1 x hx;rw [ahead_irr] at this;cases this
      · exact e
    · rcases List.mem_cons.1 ((h x).2 (List.mem_cons_of_mem _ hx)) with e | e
      · subst e;have := p2.1 x hx;rw [ahead_irr] at this;cases this
      · exact e
theorem same_refl (a : Ent) : sameE a a = true := by unfold sameE;rw [sEq_ref];simp
theorem find_str {L : List Ent} (h : strE L) (e : Ent) : L.find? (sameE e) = some e ↔ e ∈ L := by
  constructor
  · exact List.mem_of_find?_eq_some
  · intro he
    induction L with
    | nil => cases he
    | cons a L ih =>
      have p := List.pairwise_cons.1 h
      rw [List.find?_cons]
      rcases List.mem_cons.1 he with rfl | he
      · rw [same_refl]
      · have := ahead_diff (p.1 e he)
        rw [same_sym] at this
        rw [this]
        exact ih p.2 he
def mrg : List Ent → List Ent → List Ent
  | [],R => R
  | o :: O,[] => o :: O
  | o :: O,r :: R => if aheadE r o = true then r :: mrg (o :: O) R else if aheadE o r = true then o :: mrg O (r :: R) else o :: mrg O R
termination_by O R => O.length + R.length
theorem mrg_mem : ∀ (O R : List Ent),strE O → strE R → ∀ e,e ∈ mrg O R ↔ e ∈ O ∨ (e ∈ R ∧ ∀ o ∈ O,sameE o e = false)
  | [],R,_,_,e => by simp [mrg]
  | o :: O,[],_,_,e => by simp [mrg]
  | o :: O,r :: R,h1,h2,e => by
    have p1 := List.pairwise_cons.1 h1
    have p2 := List.pairwise_cons.1 h2
    rw [mrg]
    split
    · rename_i h
      rw [List.mem_cons,mrg_mem (o :: O) R h1 p2.2]
      constructor
      · rintro (rfl | hm | ⟨hm,hn⟩)
        · refine .inr ⟨List.mem_cons_self,fun q hq => ?_⟩
          rw [same_sym]
          rcases List.mem_cons.1 hq with rfl | hq
          · exact ahead_diff h
          · exact ahead_diff (ahead_trans h (p1.1 q hq))
        · exact .inl hm
        · exact .inr ⟨List.mem_cons_of_mem _ hm,hn⟩
      · rintro (hm | ⟨hm,hn⟩)
        · exact .inr (.inl hm)
        · rcases List.mem_cons.1 hm with rfl | hm
          · exact .inl rfl
          · exact .inr (.inr ⟨hm,hn⟩)
    · rename_i h
      have h' : aheadE r o = false := by simpa using h
      split
      · rename_i h3
        rw [List.mem_cons,mrg_mem O (r :: R) p1.2 h2]
        constructor
        · rintro (rfl | hm | ⟨hm,hn⟩)
          · exact .inl List.mem_cons_self
          · exact .inl (List.mem_cons_of_mem _ hm)
          · refine .inr ⟨hm,fun q hq => ?_⟩
            rcases List.mem_cons.1 hq with rfl | hq
            · rcases List.mem_cons.1 hm with rfl | hm
              · exact ahead_diff h3
              · exact ahead_diff (ahead_trans h3 (p2.1 e hm))
            · exact hn q hq
        · rintro (hm | ⟨hm,hn⟩)
          · rcases List.mem_cons.1 hm with rfl | hm
            · exact .inl rfl
            · exact .inr (.inl hm)
          · exact .inr (.inr ⟨hm,fun q hq => hn q (List.mem_cons_of_mem _ hq)⟩)
      · rename_i h3
        have h3' : aheadE o r = false := by simpa using h3
        have hs : sameE o r = true := by
          rcases ahead_tri o r with h4 | h4 | h4
          · rw [h3'] at h4;cases h4
          · rw [h'] at h4;cases h4
          · exact h4
        rw [List.mem_cons,mrg_mem O R p1.2 p2.2]
        constructor
        · rintro (rfl | hm | ⟨hm,hn⟩)
          · exact .inl List.mem_cons_self
          · exact .inl (List.mem_cons_of_mem _ hm)
          · refine .inr ⟨List.mem_cons_of_mem _ hm,fun q hq => ?_⟩
            rcases List.mem_cons.1 hq with rfl | hq
            · cases h5 : sameE q e with
              | false => rfl
              | true =>
                have h6 := same_trans hs h5
                rw [ahead_diff (p2.1 e hm)] at h6;cases h6
            · exact hn q hq
        · rintro (hm | ⟨hm,hn⟩)
          · rcases List.mem_cons.1 hm with rfl | hm
            · exact .inl rfl
            · exact .inr (.inl hm)
          · rcases List.mem_cons.1 hm with rfl | hm
            · have := hn o List.mem_cons_self;rw [hs] at this;cases this
            · exact .inr (.inr ⟨hm,fun q hq => hn q (List.mem_cons_of_mem _ hq)⟩)
termination_by O R => O.length + R.length
theorem mrg_str : ∀ (O R : List Ent),strE O → strE R → strE (mrg O R)
  | [],R,_,h2 => by rw [mrg];exact h2
  | o :: O,[],h1,_ => by rw [mrg];exact h1
  | o :: O,r :: R,h1,h2 => by
    have p1 := List.pairwise_cons.1 h1
    have p2 := List.pairwise_cons.1 h2
    rw [mrg]
    split
    · rename_i h
      refine List.pairwise_cons.2 ⟨fun e he => ?_,mrg_str (o :: O) R h1 p2.2⟩
      rcases (mrg_mem (o :: O) R h1 p2.2 e).1 he with hm | ⟨hm,_⟩
      · rcases List.mem_cons.1 hm with rfl | hm
        · exact h
        · exact ahead_trans h (p1.1 e hm)
      · exact p2.1 e hm
    · rename_i h
      split
      · rename_i h3
        refine List.pairwise_cons.2 ⟨fun e he => ?_,mrg_str O (r :: R) p1.2 h2⟩
        rcases (mrg_mem O (r :: R) p1.2 h2 e).1 he with hm | ⟨hm,_⟩
        · exact p1.1 e hm
        · rcases List.mem_cons.1 hm with rfl | hm
          · exact h3
          · exact ahead_trans h3 (p2.1 e hm)
      · rename_i h3
        have h' : aheadE r o = false := by simpa using h
        have hle : leE o r = true := by unfold leE;rw [h'];rfl
        refine List.pairwise_cons.2 ⟨fun e he => ?_,mrg_str O R p1.2 p2.2⟩
        rcases (mrg_mem O R p1.2 p2.2 e).1 he with hm | ⟨hm,_⟩
        · exact p1.1 e hm
        · exact le_lt hle (p2.1 e hm)
termination_by O R => O.length + R.length
theorem mrg_len : ∀ (O R : List Ent),(mrg O R).length ≤ O.length + R.length
  | [],R => by simp [mrg]
  | o :: O,[] => by simp [mrg]
  | o :: O,r :: R => by
    rw [mrg]
    split
    · have := mrg_len (o :: O) R;simp only [List.length_cons] at *;omega
    · split
      · have := mrg_len O (r :: R);simp only [List.length_cons] at *;omega
      · have := mrg_len O R;simp only [List.length_cons] at *;omega
termination_by O R => O.length + R.length
def mergeS (rows : List (List Ent)) : List Ent := rows.foldl mrg []
theorem mergeS_gen : ∀ (rows : List (List Ent)) (L0 acc : List Ent),strE acc → (∀ e,e ∈ acc ↔ L0.find? (sameE e) = some e) → (∀ l ∈ rows,strE l) → strE (rows.foldl mrg acc) ∧ ∀ e,e ∈ rows.foldl mrg acc ↔ (L0 ++ rows.flatten).find? (sameE e) = some e
  | [],L0,acc,h1,h2,_ => ⟨h1,fun e => by rw [List.flatten_nil,List.append_nil];exact h2 e⟩
  | r :: rows,L0,acc,h1,h2,h3 => by
    have hr := h3 r List.mem_cons_self
    have hm := mrg_mem acc r h1 hr
    have hs := mrg_str acc r h1 hr
    rw [List.foldl_cons,List.flatten_cons,← List.append_assoc]
    refine mergeS_gen rows (L0 ++ r) (mrg acc r) hs (fun e => ?_) (fun l hl => h3 l (List.mem_cons_of_mem _ hl))
    rw [hm e,h2 e,List.find?_append]
    cases hf : L0.find? (sameE e) with
    | none =>
      simp only [Option.none_or,reduceCtorEq,false_or]
      rw [find_str hr]
      constructor
      · exact fun h => h.1
      · intro he
        refine ⟨he,fun o ho => ?_⟩
        cases h5 : sameE o e with
        | false => rfl
        | true =>
          exfalso
          have h6 := (h2 o).1 ho
          have h7 := List.mem_of_find?_eq_some h6
          have h8 := List.find?_eq_none.1 hf o h7
          rw [same_sym,h5] at h8;simp at h8
    | some x =>
      simp only [Option.some_or]
      constructor
      · rintro (h | ⟨_,hn⟩)
        · exact h
        · exfalso
          have h4 := List.find?_some hf
          have hx : x ∈ acc := by
            rw [h2 x]
            have : L0.find? (sameE x) = L0.find? (sameE e) := by
              congr 1
              funext z
              cases h6 : sameE e z with
              | true => exact same_trans h4 h6
              | false =>
                cases h7 : sameE x z with
                | false => rfl
                | true =>
                  have h8 : sameE x e = true := by rw [same_sym];exact h4
                  have := same_trans h8 h7
                  rw [h6] at this;cases this
            rw [this,hf]
          have h5 := hn x hx
          rw [same_sym,h4] at h5;cases h5
      · exact .inl
theorem mergeS_str {rows : List (List Ent)} (h : ∀ l ∈ rows,strE l) : strE (mergeS rows) ∧ ∀ e,e ∈ mergeS rows ↔ rows.flatten.find? (sameE e) = some e := by
  have := mergeS_gen rows [] [] List.Pairwise.nil (fun e => by simp) h
  simpa [mergeS] using this
def cmpct : List Ent → List Ent
  | [] => []
  | [a] => [a]
  | a :: b :: L => if sameE a b = true then cmpct (a :: L) else a :: cmpct (b :: L)
termination_by L => L.length
def leS' (L : List Ent) : Prop := L.Pairwise (fun a b => leE a b = true)
theorem cmpct_spec : ∀ (L : List Ent),leS' L → strE (cmpct L) ∧ ∀ e,e ∈ cmpct L ↔ L.find? (sameE e) = some e
  | [],_ => by rw [cmpct];exact ⟨List.Pairwise.nil,fun e => by simp⟩
  | [a],_ => by
    rw [cmpct]
    refine ⟨List.pairwise_singleton _ _,fun e => ?_⟩
    rw [List.mem_singleton,List.find?_cons]
    constructor
    · rintro rfl;rw [same_refl]
    · intro h;split at h
      · cases h;rfl
      · simp at h
  | a :: b :: L,h => by
    have p := List.pairwise_cons.1 h
    have p2 := List.pairwise_cons.1 p.2
    rw [cmpct]
    split
    · rename_i hs
      have hl : leS' (a :: L) := List.pairwise_cons.2 ⟨fun c hc => p.1 c (List.mem_cons_of_mem _ hc),p2.2⟩
      obtain ⟨q1,q2⟩ := cmpct_spec (a :: L) hl
      refine ⟨q1,fun e => ?_⟩
      rw [q2 e,List.find?_cons,List.find?_cons,List.find?_cons]
      cases h1 : sameE e a with
      | true => rfl
      | false =>
        have h2 : sameE e b = false := by
          cases h3 : sameE e b with
          | false => rfl
          | true =>
            have h4 : sameE b e = true := by rw [same_sym];exact h3
            have h5 : sameE b a = true := by rw [same_sym];exact hs
            have := same_trans h4 h5
            rw [h1] at this;cases this
        simp only [h2]
    · rename_i hs
      have hs' : sameE a b = false := by simpa using hs
      have hab : aheadE a b = true := by
        rcases ahead_tri a b with h4 | h4 | h4
        · exact h4
        · have := p.1 b List.mem_cons_self;unfold leE at this;rw [h4] at this;cases this
        · rw [hs'] at h4;cases h4
      obtain ⟨q1,q2⟩ := cmpct_spec (b :: L) p.2
      have hall : ∀ e ∈ b :: L,aheadE a e = true := fun e he => by
        rcases List.mem_cons.1 he with rfl | he
        · exact hab
        · exact lt_le_lt hab (p2.1 e he)
      have hsub : ∀ e,e ∈ cmpct (b :: L) → e ∈ b :: L := fun e he => List.mem_of_find?_eq_some ((q2 e).1 he)
      refine ⟨List.pairwise_cons.2 ⟨fun e he => hall e (hsub e he),q1⟩,fun e => ?_⟩
      rw [List.mem_cons,q2 e,List.find?_cons (a := a)]
      cases h1 : sameE e a with
      | true =>
        constructor
        · rintro (rfl | he)
          · rfl
          · exfalso
            have := ahead_diff (hall e (List.mem_of_find?_eq_some he))
            rw [same_sym,h1] at this;cases this
        · intro he;exact .inl (by simpa using he.symm)
      | false =>
        constructor
        · rintro (rfl | he)
          · rw [same_refl] at h1;cases h1
          · exact he
        · exact .inr
termination_by L => L.length
theorem find_filter (p : Ent → Bool) (L : List Ent) : L.find? p = (L.filter p).head? := by
  induction L with
  | nil => rfl
  | cons a L ih =>
    rw [List.find?_cons,List.filter_cons]
    cases p a with
    | true => rfl
    | false => exact ih
theorem merge_same {rows : List (List Ent)} (h : ∀ l ∈ rows,strE l) {S : List Ent} (hs : leS' S) (hb : stb rows.flatten S) : cmpct S = mergeS rows := by
  obtain ⟨a1,a2⟩ := mergeS_str h
  obtain ⟨b1,b2⟩ := cmpct_spec S hs
  refine strE_ext _ _ b1 a1 fun e => ?_
  rw [a2 e,b2 e,find_filter,find_filter,hb e]
theorem srt_le {L : List Ent} (h : srtIn L 0 L.length) : leS' L := by
  unfold leS'
  rw [List.pairwise_iff_getElem]
  intro i j hi hj hij
  have := h i j (Nat.zero_le _) hij hj
  simpa [nth,hi,hj] using this
theorem inOrd_str {L : List Ent} (h : inOrd L = true) : strE L := by
  unfold inOrd at h
  rw [List.all_eq_true] at h
  have hadj : ∀ i,0 < i → i < L.length → aheadE (nth L (i - 1)) (nth L i) = true := fun i h0 hi => by
    have := h i (List.mem_range.2 hi)
    unfold ordE at this
    simp only [Bool.not_eq_true',Bool.or_eq_false_iff,Bool.and_eq_false_iff,decide_eq_false_iff_not,Bool.not_eq_false'] at this
    rcases this.2 with h1 | h1
    · omega
    · exact h1
  have hlt : ∀ (j i : Nat),i < j → j < L.length → aheadE (nth L i) (nth L j) = true := by
    intro j
    induction j with
    | zero => intro i h1;omega
    | succ j ih =>
      intro i h1 h2
      have h3 := hadj (j + 1) (by omega) h2
      rw [Nat.add_sub_cancel] at h3
      rcases Nat.lt_succ_iff_lt_or_eq.1 h1 with h4 | rfl
      · exact ahead_trans (ih i h4 (by omega)) h3
      · exact h3
  unfold strE
  rw [List.pairwise_iff_getElem]
  intro i j hi hj hij
  have := hlt j i hij hj
  simpa [nth,hi,hj] using this
end Go.Proofs.YtmfojbidojjciaaGreat
namespace Go.Proofs.YtmfojbidojjciaaGreat
open Go.RowKit
theorem run_eqGuard_slice {P : Program} (w : World) (p : BinOp) (t : TypeId) (x y : Operand) (A B : Option Addr) (n c n' c' : Nat) : (eqGuard p t x y (.slice A n c) (.slice B n' c')).run P w = .ok () w := by
  unfold eqGuard
  cases p <;> rfl
theorem ps_eql_nil {P : Program} {E : Env} {H : List HObj} {G : List World} {o : Oper} {x : Operand} {t t' e sz bytes : TypeId} {A : Option Addr} {n c : Nat} [ht : EL P t e sz bytes] (ho : o.op = .binOp .eql t x (.const (.slice none 0 0)) t') (hx : opd E x = some (.slice A n c)) : PStep P E H G o (.bool A.isNone) := fun N base w0 a w he hw => by
  have h := Lib.run_eql_slice_nil (P := P) w t e A n c 0 0 ht.h.1
  have hy : a.eval (.const (.slice none 0 0)) = .slice none 0 0 := rfl
  simp [execOp,ho,he.eval hx,hy,run_eqGuard_slice,h]
attribute [local irreducible] Calls
theorem clone_c (A : Option Addr) (c : Nat) (L : List Int) (w : World) (h : Rd w A (fl L)) (m : L.length ≤ 4194304) :
    Calls Tryz.prog 272 #[.slice A L.length c] w fun e w' => ∃ y : Ys,e = .returned (.slice (y 0).A L.length (y 0).c) ∧ True ∧ Below w.heap.size w w' ∧ NewOk w.heap.size [.row 3 1 (y 0).A L.length (y 0).c (fl L)] [] w' := by
  refine ok_enter 8 Tryz.func272 rfl rfl rfl ?_
  repeat' (first|refine Wa ?_|refine Wb ?_|refine Wc ?_|(refine ok_cond rfl (fun hc => ?_) (fun hc => ?_) <;> (have hd := hc;try simp only [jj] at hd))|refine Wg ?_|refine Wi ?_|(refine Zr 0 ?_;refine Za ?_;refine Ze1 0 ?_)|(refine Zr 1 ?_;refine Zm ?_;refine Zq (ps_eql_nil rfl rfl) ?_;refine Ze2 0 4 ?_)|(refine Zr 2 ?_;refine Za ?_;refine Ze1 2 ?_)|(refine Zr 3 ?_;refine Zn (by exact ms_lit rfl parts_nil rfl rfl rfl) ?_;rintro y5 hy5;refine Zm ?_;refine Zn (by exact ms_app0 (M := L) 0 rfl rfl rfl rfl (rds_rf h List.mem_cons_self) rfl (by omega) (by omega)) ?_;rintro y7 hy7;refine Za ?_;refine Ze1 2 ?_))
  · have h0 : L = [] := by
      cases A with
      | some a => cases hc
      | none =>
        rcases L with _ | ⟨x,l⟩
        · rfl
        · have := isS_fl h (by simp);obtain ⟨ad,e⟩ := this;cases e
    subst h0
    refine ok_endL (vs := [_]) rfl ⟨rfl,trivial⟩ (fun w' hw => ?_)
    refine ⟨mkY none 0 w,?_,trivial,hw.below,?_⟩
    · rfl
    · exact NewOk.one (x := .row 3 1 none 0 0 (fl ([] : List Int))) (Own.nil w' w.heap.size 3 1)
  · refine ok_endL (vs := [_]) rfl ⟨rfl,trivial⟩ (fun w' hw => ?_)
    refine ⟨yl [y7 0] (y7 0),?_,trivial,hw.below,?_⟩
    · rfl
    · have := NewOk.of (hw.sel [0] (by decide) rfl (fun _ h => h))
      exact this
end Go.Proofs.YtmfojbidojjciaaGreat
namespace Go.Proofs.YtmfojbidojjciaaGreat
open Go.RowKit
set_option maxHeartbeats 2000000
attribute [local irreducible] Calls
structure CRow where
  tenant : Int
  no : Int
  text : ByteArray
  deriving DecidableEq
instance : Dat CRow := ⟨3,fun x => [.int .i64 x.tenant,.int .i64 x.no,.string x.text],fun _ => rfl,⟨0,0,⟨#[]⟩⟩⟩
instance : Mk CRow := ⟨3,fun q => ⟨q,q + 1,mT (q + 1 + 1)⟩⟩
end Go.Proofs.YtmfojbidojjciaaGreat
namespace Go.Proofs.YtmfojbidojjciaaGreat
open Go.RowKit
end Go.Proofs.YtmfojbidojjciaaGreat
namespace Go.Proofs.YtmfojbidojjciaaGreat
open Go.RowKit
attribute [local irreducible] Calls
structure DCache where
  cap : Int
  R : List CRow
  deriving DecidableEq
end Go.Proofs.YtmfojbidojjciaaGreat
namespace Go.Proofs.YtmfojbidojjciaaGreat
open Go.RowKit
def ixF {α : Type} [Dat α] (p : α → Bool) (l : List α) : Nat → Nat → Int
  | 0,_ => -1
  | f + 1,k => bif p (nth l k) then (k : Int) else ixF p l f (k + 1)
def ixP {α : Type} [Dat α] (p : α → Bool) (l : List α) : Int := ixF p l l.length 0
theorem ixF_or {α : Type} [Dat α] (p : α → Bool) (l : List α) : ∀ f k,(ixF p l f k = -1 ∧ ∀ j,k ≤ j → j < k + f → p (nth l j) = false) ∨ (∃ i : Nat,ixF p l f k = i ∧ k ≤ i ∧ i < k + f ∧ p (nth l i) = true ∧ ∀ j,k ≤ j → j < i → p (nth l j) = false)
  | 0,k => .inl ⟨rfl,fun j a b => by omega⟩
  | f + 1,k => by
    unfold ixF
    cases h : p (nth l k) with
    | true => exact .inr ⟨k,rfl,by omega,by omega,h,fun j a b => by omega⟩
    | false =>
      rcases ixF_or p l f (k + 1) with ⟨a,b⟩ | ⟨i,a,b,c,d,e⟩
      · refine .inl ⟨a,fun j h1 h2 => ?_⟩
        rcases Nat.eq_or_lt_of_le h1 with rfl | h3
        · exact h
        · exact b j h3 (by omega)
      · refine .inr ⟨i,a,by omega,by omega,d,fun j h1 h2 => ?_⟩
        rcases Nat.eq_or_lt_of_le h1 with rfl | h3
        · exact h
        · exact e j h3 h2
theorem ixP_or {α : Type} [Dat α] (p : α → Bool) (l : List α) : (ixP p l = -1 ∧ ∀ j,j < l.length → p (nth l j) = false) ∨ (∃ i : Nat,ixP p l = i ∧ i < l.length ∧ p (nth l i) = true ∧ ∀ j,j < i → p (nth l j) = false) := by
  rcases ixF_or p l l.length 0 with ⟨a,b⟩ | ⟨i,a,b,c,d,e⟩
  · exact .inl ⟨a,fun j h => b j (by omega) (by omega)⟩
  · exact .inr ⟨i,a,by omega,d,fun j h => e j (by omega) h⟩
theorem ixF_step {α : Type} [Dat α] {p : α → Bool} {l : List α} {k : Nat} (h : k < l.length) : ixF p l (l.length - k) k = bif p (nth l k) then (k : Int) else ixF p l (l.length - (k + 1)) (k + 1) := by
  rw [show l.length - k = (l.length - (k + 1)) + 1 by omega,ixF]
section
variable {P : Program} {E : Env} {H : List HObj} {G : List World} {o : Oper}
theorem add_zero_all (A : Option Addr) (k : Nat) : A.map (·.add (0 * k)) = A := by
  cases A <;> simp [Addr.add]
theorem ps_slice0 {x : Operand} {hi : Operand} {t e sz bytes : TypeId} {A : Option Addr} {n c : Nat} {h : Nat} {z : Int} {k : IntKind} [ht : EL P t e sz bytes] (ho : o.op = .slice t x none (some hi) none) (hx : opd E x = some (.slice A n c))
    (hhi : opd E hi = some (.int k z)) (hz : z = (h : Int)) (h2 : h ≤ c) : PStep P E H G o (.slice A h c) := by
  subst hz
  have := ps_slice (P := P) (E := E) (H := H) (G := G) (l := 0) (h := h) ho hx rfl ⟨k,hhi⟩ (by omega) h2
  rw [add_zero_all] at this
  simpa using this
theorem ps_sliceE {x : Operand} {lo : Operand} {t e sz bytes : TypeId} {A : Option Addr} {n c : Nat} {l : Nat} {z : Int} {k : IntKind} [ht : EL P t e sz bytes] (ho : o.op = .slice t x (some lo) none none) (hx : opd E x = some (.slice A n c))
    (hlo : opd E lo = some (.int k z)) (hz : z = (l : Int)) (h1 : l ≤ n) (h2 : n ≤ c) : PStep P E H G o (.slice (if c = l then A else A.map (·.add (l * sz))) (n - l) (c - l)) := by
  subst hz
  exact ps_slice (l := l) (h := n) ho hx ⟨k,hlo⟩ rfl h1 h2
theorem fl_drop {α : Type} [Dat α] : ∀ (l : List α) (i : Nat),(fl l).drop (i * Dat.sz α) = fl (l.drop i)
  | [],i => by simp [fl]
  | x :: l,0 => by simp [fl]
  | x :: l,i + 1 => by
    have ih := fl_drop l i
    rw [List.drop_succ_cons,fl_cons,← ih]
    have : (i + 1) * Dat.sz α = (Dat.cells x).length + i * Dat.sz α := by rw [Dat.len,Nat.add_mul];omega
    rw [this,List.drop_length_add_append]
theorem rds_tail {α : Type} [Dat α] {A : Option Addr} {c j sz : Nat} {L : List α} (h : Rds H G A (fl L)) (hs : Dat.sz α = sz) (hc : L.length ≤ c) (hj : j ≤ L.length) : Rds H G (if c = j then A else A.map (·.add (j * sz))) (fl (L.drop j)) := by
  by_cases h0 : c = j
  · rw [if_pos h0,List.drop_of_length_le (by omega)]
    exact fun _ _ w _ => Rd.nil w A
  · rw [if_neg h0]
    have := h.sub (i := j * sz) (n := (fl L).length)
    rw [← hs,fl_drop,List.take_of_length_le (by rw [fl_len,fl_len,List.length_drop];exact Nat.mul_le_mul_right _ (by omega)),hs] at this
    exact this
end
theorem own_cap {w : World} {base e sz n c : Nat} {A : Option Addr} {us : List Value} (h : Own w base e sz A n c us) : n ≤ c := by
  obtain ⟨_,⟨hA,hn⟩ | ⟨g,cap,cur,hA,_,_,hnc,_⟩⟩ := h
  · omega
  · injection hA with _ _ h3;omega
def Keeps (m w : World) : Prop := ∀ p u,m.cell? p = some u → w.cell? p = some u
theorem Rd.keeps {m w : World} {A : Option Addr} {us : List Value} (h : Rd m A us) (hk : Keeps m w) : Rd w A us := fun j u hu => by
  obtain ⟨ad,e,hc⟩ := h j u hu
  exact ⟨ad,e,hk _ _ hc⟩
theorem WOk.keeps {m w w0 : World} {base : Nat} {H : List HObj} {G : List World} (hw : WOk base w0 H G w) (hm : m ∈ G) : Keeps m w := fun p u hp => (hw.ref m hm p u hp).1
attribute [local irreducible] Calls
instance : OneC CRow := ⟨fun x u hu => by
  have : u = .int .i64 x.tenant ∨ u = .int .i64 x.no ∨ u = .string x.text := by simpa [Dat.cells] using hu
  rcases this with rfl | rfl | rfl <;> rfl⟩
structure DelI (R : List CRow) (p : CRow → Bool) where
  i : Nat
  j : Nat
  L : List CRow
  hl : L.length = R.length
  hi : L.take i = (R.take j).filter (fun x => !p x)
  hil : i = ((R.take j).filter (fun x => !p x)).length
  hd : L.drop j = R.drop j
  hj : j ≤ R.length
theorem DelI.le {R : List CRow} {p : CRow → Bool} (q : DelI R p) : q.i ≤ q.j := by
  have h1 := q.hil
  have h2 := List.length_filter_le (fun x => !p x) (R.take q.j)
  rw [List.length_take] at h2
  omega
theorem takeN {R : List CRow} {j : Nat} (h : j < R.length) : R.take (j + 1) = R.take j ++ [nth R j] := by
  rw [List.take_add_one,List.getElem?_eq_getElem h]
  simp [nth,h]
theorem dropN {R : List CRow} {j : Nat} (h : j < R.length) : R.drop j = nth R j :: R.drop (j + 1) := by
  rw [List.drop_eq_getElem_cons h]
  simp [nth,h]
def DelI.keep {R : List CRow} {p : CRow → Bool} (q : DelI R p) (h : q.j < R.length) (hp : p (nth R q.j) = false) : DelI R p :=
  ⟨q.i + 1,q.j + 1,q.L.set q.i (nth R q.j),by rw [List.length_set];exact q.hl,by
    have hle := q.le
    have hlt : q.i < q.L.length := by rw [q.hl];omega
    rw [takeN h,List.filter_append,← q.hi]
    simp only [List.filter_cons,hp,Bool.not_false,if_true,List.filter_nil]
    rw [List.take_add_one,List.take_set_of_le (Nat.le_refl _),List.getElem?_set_self hlt];rfl,by
    rw [takeN h,List.filter_append,List.length_append,← q.hil]
    simp [hp],by
    have hle := q.le
    rw [List.drop_set_of_lt (by omega)]
    have := congrArg (List.drop 1) q.hd
    simpa [List.drop_drop] using this,by omega⟩
def DelI.skip {R : List CRow} {p : CRow → Bool} (q : DelI R p) (h : q.j < R.length) (hp : p (nth R q.j) = true) : DelI R p :=
  ⟨q.i,q.j + 1,q.L,q.hl,by
    rw [takeN h,List.filter_append,← q.hi]
    simp [hp],by
    rw [takeN h,List.filter_append,List.length_append,← q.hil]
    simp [hp],by
    have := congrArg (List.drop 1) q.hd
    simpa [List.drop_drop] using this,by omega⟩
theorem DelI.at_ {R : List CRow} {p : CRow → Bool} (q : DelI R p) (h : q.j < R.length) : nth q.L q.j = nth R q.j := by
  have e := q.hd
  have hl := q.hl
  rw [dropN h,dropN (show q.j < q.L.length by omega)] at e
  exact (List.cons.inj e).1
end Go.Proofs.YtmfojbidojjciaaGreat
namespace Go.Proofs.YtmfojbidojjciaaGreat
theorem allR_yes {n : Nat} {p : Nat → Bool} (h : ∀ k,k < n → p k = true) : (List.range n).all p = true := by
  rw [List.all_eq_true];intro k hk;exact h k (List.mem_range.1 hk)
theorem allR_no {n k : Nat} {p : Nat → Bool} (hk : k < n) (h : p k = false) : (List.range n).all p = false := by
  rw [Bool.eq_false_iff];intro e
  rw [List.all_eq_true] at e
  have := e k (List.mem_range.2 hk)
  rw [h] at this;cases this
theorem allR_at {n : Nat} {p : Nat → Bool} (h : (List.range n).all p = true) {k : Nat} (hk : k < n) : p k = true := by
  rw [List.all_eq_true] at h;exact h k (List.mem_range.2 hk)
-- keys
def kslAt (l : List KeySlot) (i : Nat) : Bool := decide ((1 ≤ (nth l i).ten ∧ (nth l i).ten ≤ 99) ∧ ((nth l i).key.size : Int) = 32 ∧ (i = 0 ∨ (nth l (i - 1)).ten < (nth l i).ten))
def fKeyOk (d : DKeys) : Bool := decide ((d.master.size : Int) = 32 ∧ d.slots.length ≤ 4 ∧ 0 ≤ d.wiped ∧ d.wiped ≤ 1000000) && (List.range d.slots.length).all (kslAt d.slots)
def slotF (l : List KeySlot) (t : Int) : Int := ixP (fun x => decide (x.ten = t)) l
def keyOf (d : DKeys) (t : Int) : ByteArray := if fKeyOk d = true ∧ 0 ≤ slotF d.slots t then (nth d.slots (slotF d.slots t).toNat).key else ⟨#[]⟩
-- shares
def needF (q : Int) : Int := if inB q 0 1000 = true then 2 + 2 * ((q + 49) / 50) else 0
def needS (l : List Share) : Int := (l.map fun x => needF x.quo).sum
def shareAt (l : List Share) (i : Nat) : Bool := decide ((1 ≤ (nth l i).ten ∧ (nth l i).ten ≤ 99) ∧ (0 ≤ (nth l i).quo ∧ (nth l i).quo ≤ 1000) ∧ (i = 0 ∨ (nth l (i - 1)).ten < (nth l i).ten))
def fSharesOk (s : DShares) : Bool := decide (0 ≤ s.size ∧ s.size ≤ 1000 ∧ s.list.length ≤ 4) && (List.range s.list.length).all (shareAt s.list) && decide (s.list.length = 0 ∨ 4 + needS s.list ≤ s.size)
-- engines
def loS (l : List Ent) : Int := l.foldl (fun m e => min m e.seq) 1000001
def hiS (l : List Ent) : Int := l.foldl (fun m e => max m e.seq) (-1)
def tabsOk (seq : Int) : Int → List (List Ent) → Bool
  | _,[] => true
  | low,t :: T => decide (0 < t.length) && inOrd t && decide (hiS t < low) && decide (hiS t ≤ seq) && tabsOk seq (loS t) T
def snapAt (seq : Int) (l : List Int) (i : Nat) : Bool := decide ((0 ≤ nth l i ∧ nth l i ≤ seq) ∧ (i = 0 ∨ nth l (i - 1) < nth l i))
def totE (T : List (List Ent)) : Nat := (T.map List.length).sum
def fEngOk (e : DEng) : Bool := inB e.seq 0 1000000 && decide (e.snaps.length ≤ 4) && decide (e.tabs.length ≤ 6) && decide (totE e.tabs + e.mem.length ≤ 400) && (decide (e.mem.length ≤ 60) && inOrd e.mem) && decide (hiS e.mem ≤ e.seq) && tabsOk e.seq (loS e.mem) e.tabs && (List.range e.snaps.length).all (snapAt e.seq e.snaps)
-- batches
def opOk (o : Opp) : Bool := kk o.key && (decide ((o.val.size : Int) ≤ 16) && (!o.del || sEq o.val ⟨#[]⟩))
def batchOk (l : List Opp) : Bool := inB l.length 1 6 && l.all opOk
def lastOp (l : List Opp) (i : Nat) : Bool := (l.drop (i + 1)).all fun x => !sEq x.key (nth l i).key
def insE : List Ent → Ent → List Ent
  | [],e => [e]
  | x :: l,e => if aheadE e x = true then e :: x :: l else x :: insE l e
def entOp (o : Opp) (seq : Int) : Ent := ⟨o.key,seq,o.del,o.val⟩
def putTo (m : List Ent) (seq : Int) (l : List Opp) : Nat → List Ent
  | 0 => m
  | i + 1 => if lastOp l i = true then insE (putTo m seq l i) (entOp (nth l i) seq) else putTo m seq l i
def putE (e : DEng) (l : List Opp) : DEng := ⟨putTo e.mem (e.seq + 1) l l.length,e.tabs,e.seq + 1,e.snaps⟩
def fEngPut (e : DEng) (l : List Opp) : DEng × Bool := if fEngOk e = true then (if batchOk l = true then (if fEngOk (putE e l) = true then (putE e l,true) else (e,false)) else (e,false)) else (⟨[],[],0,[]⟩,false)
theorem insE_len : ∀ (l : List Ent) (e : Ent),(insE l e).length = l.length + 1
  | [],e => rfl
  | x :: l,e => by
    unfold insE
    split
    · simp
    · simp [insE_len l e]
theorem insE_mem : ∀ (l : List Ent) (e x : Ent),x ∈ insE l e ↔ x = e ∨ x ∈ l
  | [],e,x => by simp [insE]
  | y :: l,e,x => by
    unfold insE
    split
    · simp
    · rw [List.mem_cons,insE_mem l e x,List.mem_cons]
      constructor
      · rintro (h | h | h)
        · exact .inr (.inl h)
        · exact .inl h
        · exact .inr (.inr h)
      · rintro (h | h | h)
        · exact .inr (.inl h)
        · exact .inl h
        · exact .inr (.inr h)
theorem inOrd_iff (l : List Ent) : inOrd l = true ↔ (∀ x ∈ l,entOk x = true) ∧ strE l := by
  constructor
  · intro h
    have hs : strE l := inOrd_str h
    refine ⟨mem_nth fun j hj => ?_,hs⟩
    have := allR_at (p := ordE l) h hj
    unfold ordE at this
    simp only [Bool.not_eq_true',Bool.or_eq_false_iff,Bool.not_eq_false'] at this
    exact this.1
  · rintro ⟨h1,h2⟩
    refine allR_yes fun k hk => ?_
    unfold ordE
    rw [h1 _ (nth_mem l k hk)]
    rcases Nat.eq_zero_or_pos k with rfl | h0
    · simp
    · have := List.pairwise_iff_getElem.1 h2 (k - 1) k (by omega) hk (by omega)
      have e1 : nth l (k - 1) = l[k - 1] := by simp [nth,show k - 1 < l.length from by omega]
      have e2 : nth l k = l[k] := by simp [nth,hk]
      rw [e1,e2,this];simp
theorem insE_str : ∀ (l : List Ent) (e : Ent),strE l → (∀ x ∈ l,sameE x e = false) → strE (insE l e)
  | [],e,_,_ => List.pairwise_singleton _ _
  | x :: l,e,h,hn => by
    have p := List.pairwise_cons.1 h
    unfold insE
    split
    · rename_i ha
      exact List.pairwise_cons.2 ⟨fun y hy => by
        rcases List.mem_cons.1 hy with rfl | hy
        · exact ha
        · exact ahead_trans ha (p.1 y hy),h⟩
    · rename_i ha
      have hx : aheadE x e = true := by
        rcases ahead_tri e x with h1 | h1 | h1
        · exact absurd h1 ha
        · exact h1
        · rw [same_sym,hn x List.mem_cons_self] at h1;cases h1
      exact List.pairwise_cons.2 ⟨fun y hy => by
        rcases (insE_mem l e y).1 hy with rfl | hy
        · exact hx
        · exact p.1 y hy,insE_str l e p.2 (fun y hy => hn y (List.mem_cons_of_mem _ hy))⟩
theorem insE_at : ∀ (l : List Ent) (e : Ent) (p : Nat),p ≤ l.length → (∀ x ∈ l,sameE x e = false) → (∀ j,j < p → aheadE (nth l j) e = true) → (p < l.length → aheadE (nth l p) e = false) → insE l e = l.take p ++ e :: l.drop p
  | [],e,p,hp,_,_,_ => by
    obtain rfl : p = 0 := by simpa using hp
    rfl
  | x :: l,e,0,hp,hn,h1,h2 => by
    have h := h2 (by simp)
    have h' : aheadE x e = false := h
    have ha : aheadE e x = true := by
      rcases ahead_tri e x with h3 | h3 | h3
      · exact h3
      · rw [h'] at h3;cases h3
      · rw [same_sym,hn x List.mem_cons_self] at h3;cases h3
    unfold insE
    rw [if_pos ha];rfl
  | x :: l,e,p + 1,hp,hn,h1,h2 => by
    have h : aheadE x e = true := h1 0 (by omega)
    have ha : ¬ aheadE e x = true := by rw [ahead_not h];decide
    unfold insE
    rw [if_neg ha,insE_at l e p (by simpa using hp) (fun y hy => hn y (List.mem_cons_of_mem _ hy)) (fun j hj => h1 (j + 1) (by omega)) (fun hj => h2 (by simpa using hj))]
    rfl
theorem putTo_mem (m : List Ent) (sq : Int) (l : List Opp) : ∀ (i : Nat) (x : Ent),x ∈ putTo m sq l i ↔ x ∈ m ∨ ∃ j,j < i ∧ lastOp l j = true ∧ x = entOp (nth l j) sq
  | 0,x => by simp [putTo]
  | i + 1,x => by
    unfold putTo
    split
    · rename_i h
      rw [insE_mem,putTo_mem m sq l i]
      constructor
      · rintro (rfl | h1 | ⟨j,h1,h2,h3⟩)
        · exact .inr ⟨i,by omega,h,rfl⟩
        · exact .inl h1
        · exact .inr ⟨j,by omega,h2,h3⟩
      · rintro (h1 | ⟨j,h1,h2,h3⟩)
        · exact .inr (.inl h1)
        · rcases Nat.lt_succ_iff_lt_or_eq.1 h1 with h4 | rfl
          · exact .inr (.inr ⟨j,h4,h2,h3⟩)
          · exact .inl h3
    · rename_i h
      rw [putTo_mem m sq l i]
      constructor
      · rintro (h1 | ⟨j,h1,h2,h3⟩)
        · exact .inl h1
        · exact .inr ⟨j,by omega,h2,h3⟩
      · rintro (h1 | ⟨j,h1,h2,h3⟩)
        · exact .inl h1
        · rcases Nat.lt_succ_iff_lt_or_eq.1 h1 with h4 | rfl
          · exact .inr ⟨j,h4,h2,h3⟩
          · exact absurd h2 h
theorem last_later {l : List Opp} {j i : Nat} (h : lastOp l j = true) (hji : j < i) (hi : i < l.length) : sEq (nth l i).key (nth l j).key = false := by
  unfold lastOp at h
  rw [List.all_eq_true] at h
  have hm : nth l i ∈ l.drop (j + 1) := by
    have e : nth l i = l[i] := by simp [nth,hi]
    rw [e,List.mem_iff_getElem]
    exact ⟨i - (j + 1),by rw [List.length_drop];omega,by rw [List.getElem_drop];congr 1;omega⟩
  have := h _ hm
  simpa using this
theorem put_new {m : List Ent} {sq : Int} {l : List Opp} (hm : ∀ x ∈ m,x.seq < sq) {i : Nat} (hi : i < l.length) : ∀ x ∈ putTo m sq l i,sameE x (entOp (nth l i) sq) = false := fun x hx => by
  rcases (putTo_mem m sq l i x).1 hx with h | ⟨j,h1,h2,rfl⟩
  · unfold sameE entOp
    have := hm x h
    rw [show decide (x.seq = sq) = false from decide_eq_false (by omega)];simp
  · have := last_later h2 h1 hi
    unfold sameE entOp
    simp only
    cases hs : sEq (nth l j).key (nth l i).key with
    | false => rfl
    | true =>
      rw [sEq_to hs,sEq_ref] at this;cases this
theorem putTo_str {m : List Ent} {sq : Int} {l : List Opp} (hs : strE m) (hm : ∀ x ∈ m,x.seq < sq) : ∀ i,i ≤ l.length → strE (putTo m sq l i)
  | 0,_ => hs
  | i + 1,hi => by
    unfold putTo
    split
    · exact insE_str _ _ (putTo_str hs hm i (by omega)) (put_new hm (by omega))
    · exact putTo_str hs hm i (by omega)
theorem putTo_le (m : List Ent) (sq : Int) (l : List Opp) : ∀ i,m.length ≤ (putTo m sq l i).length ∧ (putTo m sq l i).length ≤ m.length + i
  | 0 => ⟨Nat.le_refl _,Nat.le_refl _⟩
  | i + 1 => by
    have := putTo_le m sq l i
    unfold putTo
    split
    · rw [insE_len];omega
    · omega
theorem hi_fold : ∀ (l : List Ent) (m s : Int),l.foldl (fun m e => max m e.seq) m ≤ s ↔ m ≤ s ∧ ∀ x ∈ l,x.seq ≤ s
  | [],m,s => by simp
  | x :: l,m,s => by
    rw [List.foldl_cons,hi_fold l]
    constructor
    · rintro ⟨h1,h2⟩
      exact ⟨by omega,fun y hy => by
        rcases List.mem_cons.1 hy with rfl | hy
        · omega
        · exact h2 y hy⟩
    · rintro ⟨h1,h2⟩
      have := h2 x List.mem_cons_self
      exact ⟨by omega,fun y hy => h2 y (List.mem_cons_of_mem _ hy)⟩
theorem hi_le (l : List Ent) (s : Int) : hiS l ≤ s ↔ -1 ≤ s ∧ ∀ x ∈ l,x.seq ≤ s := hi_fold l (-1) s
theorem lo_fold : ∀ (l : List Ent) (m s : Int),s < l.foldl (fun m e => min m e.seq) m ↔ s < m ∧ ∀ x ∈ l,s < x.seq
  | [],m,s => by simp
  | x :: l,m,s => by
    rw [List.foldl_cons,lo_fold l]
    constructor
    · rintro ⟨h1,h2⟩
      exact ⟨by omega,fun y hy => by
        rcases List.mem_cons.1 hy with rfl | hy
        · omega
        · exact h2 y hy⟩
    · rintro ⟨h1,h2⟩
      have := h2 x List.mem_cons_self
      exact ⟨by omega,fun y hy => h2 y (List.mem_cons_of_mem _ hy)⟩
theorem lo_lt (l : List Ent) (s : Int) : s < loS l ↔ s < 1000001 ∧ ∀ x ∈ l,s < x.seq := lo_fold l 1000001 s
theorem tabs_up {a b : Int} (hab : a ≤ b) : ∀ (T : List (List Ent)) (lo lo' : Int),(∀ s,s ≤ a → s < lo → s < lo') → tabsOk a lo T = true → tabsOk b lo' T = true
  | [],_,_,_,_ => rfl
  | t :: T,lo,lo',hl,h => by
    unfold tabsOk at h ⊢
    simp only [Bool.and_eq_true,decide_eq_true_eq] at h ⊢
    obtain ⟨⟨⟨⟨h1,h2⟩,h3⟩,h4⟩,h5⟩ := h
    exact ⟨⟨⟨⟨h1,h2⟩,hl _ h4 h3⟩,by omega⟩,tabs_up hab T _ _ (fun s _ h => h) h5⟩
theorem put_valid {e : DEng} {l : List Opp} (he : fEngOk e = true) (hb : batchOk l = true) : fEngOk (putE e l) = (decide (e.seq + 1 ≤ 1000000) && decide ((putE e l).mem.length ≤ 60) && decide (totE e.tabs + (putE e l).mem.length ≤ 400)) := by
  unfold fEngOk at he
  simp only [Bool.and_eq_true,decide_eq_true_eq,inB_true] at he
  obtain ⟨⟨⟨⟨⟨⟨⟨h1,h2⟩,h3⟩,h4⟩,h5,h6⟩,h7⟩,h8⟩,h9⟩ := he
  obtain ⟨m1,m2⟩ := (inOrd_iff _).1 h6
  have hlt : ∀ x ∈ e.mem,x.seq < e.seq + 1 := fun x hx => by have := ((hi_le _ _).1 h7).2 x hx;omega
  unfold batchOk at hb
  rw [Bool.and_eq_true,inB_true] at hb
  have hops := List.all_eq_true.1 hb.2
  have key : e.seq + 1 ≤ 1000000 → inOrd (putE e l).mem = true := fun hs => by
    rw [inOrd_iff]
    refine ⟨fun x hx => ?_,putTo_str m2 hlt _ (Nat.le_refl _)⟩
    rcases (putTo_mem _ _ _ _ x).1 hx with h | ⟨j,hj,_,rfl⟩
    · exact m1 x h
    · have ho := hops _ (nth_mem l j hj)
      unfold opOk at ho
      rw [Bool.and_eq_true] at ho
      unfold entOk entOp
      simp only
      rw [ho.1,ho.2,show inB (e.seq + 1) 0 1000000 = true by rw [inB_true];omega];rfl
  have hhi : hiS (putE e l).mem ≤ e.seq + 1 := by
    rw [hi_le]
    refine ⟨by omega,fun x hx => ?_⟩
    rcases (putTo_mem _ _ _ _ x).1 hx with h | ⟨j,hj,_,rfl⟩
    · have := hlt x h;omega
    · exact Int.le_refl _
  have htab : tabsOk (e.seq + 1) (loS (putE e l).mem) e.tabs = true := by
    refine tabs_up (by omega) _ _ _ (fun s hs hl => ?_) h8
    rw [lo_lt] at hl ⊢
    refine ⟨hl.1,fun x hx => ?_⟩
    rcases (putTo_mem _ _ _ _ x).1 hx with h | ⟨j,hj,_,rfl⟩
    · exact hl.2 x h
    · show s < e.seq + 1;omega
  have hsn : (List.range e.snaps.length).all (snapAt (e.seq + 1) e.snaps) = true := allR_yes fun k hk => by
    have := allR_at h9 hk
    unfold snapAt at this ⊢
    rw [decide_eq_true_eq] at this ⊢
    exact ⟨by omega,this.2⟩
  have e1 : (putE e l).tabs = e.tabs := rfl
  have e2 : (putE e l).seq = e.seq + 1 := rfl
  have e3 : (putE e l).snaps = e.snaps := rfl
  rw [Bool.eq_iff_iff]
  unfold fEngOk
  rw [e1,e2,e3]
  simp only [Bool.and_eq_true,decide_eq_true_eq,inB_true]
  constructor
  · rintro ⟨⟨⟨⟨⟨⟨⟨g1,g2⟩,g3⟩,g4⟩,g5,g6⟩,g7⟩,g8⟩,g9⟩
    exact ⟨⟨by omega,g5⟩,g4⟩
  · rintro ⟨⟨g1,g2⟩,g3⟩
    exact ⟨⟨⟨⟨⟨⟨⟨by omega,h2⟩,h3⟩,g3⟩,g2,key g1⟩,hhi⟩,htab⟩,hsn⟩
end Go.Proofs.YtmfojbidojjciaaGreat
namespace Go.Proofs.YtmfojbidojjciaaGreat
open Go.RowKit
attribute [local irreducible] Calls
def keyAt (l : List KV) (i : Nat) : ByteArray := (nth l i).key
def sortedK (l : List KV) : Prop := ∀ i j,i < j → j < l.length → sLt (keyAt l i) (keyAt l j) = true
theorem ps_half {P : Program} {E : Env} {H : List HObj} {G : List World} {o : Oper} {x : Operand} {t t' : TypeId} {k' : IntKind} {a b : Nat} (ho : o.op = .binOp .shr t x (.const (.int k' 1)) t') (hx : opd E x = some (.int .u64 ((a : Int) + (b : Int)))) : PStep P E H G o (.int .u64 (((a + b) / 2 : Nat) : Int)) := by
  have := ps_shr (P := P) (H := H) (G := G) (n := 1) ho hx rfl (by decide)
  have e : ((a : Int) + (b : Int)).fdiv (2 ^ (1 : Int).toNat) = (((a + b) / 2 : Nat) : Int) := by
    rw [Int.fdiv_eq_ediv_of_nonneg _ (by decide)];simp
  rwa [e] at this
theorem WOk.rowNil {base : Nat} {w0 w : World} {H : List HObj} {G : List World} (e sz : Nat) (hw : WOk base w0 H G w) : WOk base w0 (.row e sz none 0 0 [] :: H) G w :=
  hw.grow (Hn := [.row e sz none 0 0 []]) (Gn := []) (Below.refl _ _) (NewOk.one (x := .row e sz none 0 0 []) (Own.nil w _ e sz))
structure WipI (R : List CRow) where
  k : Nat
  A : Option Addr
  c : Nat
  hk : k ≤ R.length
end Go.Proofs.YtmfojbidojjciaaGreat
namespace Go.Proofs.YtmfojbidojjciaaGreat
open Go.RowKit
instance : OneC KV := ⟨fun x u hu => by
  have : u = .string x.key ∨ u = .string x.val := by simpa [Dat.cells] using hu
  rcases this with rfl | rfl <;> rfl⟩
instance : OneC ByteArray := ⟨fun x u hu => by
  have : u = .string x := by simpa [Dat.cells] using hu
  subst this;rfl⟩
structure DfI (n : Nat) where
  k : Nat
  A : Option Addr
  c : Nat
  hk : k ≤ n
attribute [local irreducible] Calls
end Go.Proofs.YtmfojbidojjciaaGreat
namespace Go.Proofs.YtmfojbidojjciaaGreat
def ltK (x y : KV) : Prop := sLt x.key y.key = true
def srtK (R : List KV) : Prop := R.Pairwise ltK
theorem keyAt_eq (l : List KV) (i : Nat) (h : i < l.length) : keyAt l i = l[i].key := by
  unfold keyAt nth;rw [List.getD_eq_getElem?_getD,List.getElem?_eq_getElem h];rfl
theorem srtK_iff {R : List KV} : sortedK R ↔ srtK R := by
  unfold sortedK srtK
  rw [List.pairwise_iff_getElem]
  constructor
  · intro h i j hi hj hij
    have := h i j hij hj
    rw [keyAt_eq _ _ hi,keyAt_eq _ _ hj] at this
    exact this
  · intro h i j hij hj
    have := h i j (by omega) hj hij
    rw [keyAt_eq _ _ (by omega),keyAt_eq _ _ hj]
    exact this
theorem foldl_snoc {α β : Type} (f : β → α → β) (l : List α) (b : β) (x : α) : (l ++ [x]).foldl f b = f (l.foldl f b) x := by rw [List.foldl_append];rfl
theorem takeG {α : Type} [Dat α] {R : List α} {j : Nat} (h : j < R.length) : R.take (j + 1) = R.take j ++ [nth R j] := by
  rw [List.take_succ_eq_append_getElem h];simp [nth,List.getD_eq_getElem?_getD,List.getElem?_eq_getElem h]
end Go.Proofs.YtmfojbidojjciaaGreat
namespace Go.Proofs.YtmfojbidojjciaaGreat
end Go.Proofs.YtmfojbidojjciaaGreat
namespace Go.Proofs.YtmfojbidojjciaaGreat
open Go.RowKit

section
variable {P : Program} {ops : Array Oper} {w : World} {Q : Act → Prop}
end
end Go.Proofs.YtmfojbidojjciaaGreat
namespace Go.Proofs.YtmfojbidojjciaaGreat
open Go.RowKit
theorem flat_get {α : Type} (f : α → List Value) (k : Nat) (hk : ∀ x,(f x).length = k) : ∀ (l : List α) (i : Nat) (hi : i < l.length) (j : Nat) (u : Value),(f l[i])[j]? = some u → (l.flatMap f)[i * k + j]? = some u
  | [],i,hi,_,_,_ => by simp at hi
  | x :: l,0,hi,j,u,h => by
    have : j < (f x).length := (List.getElem?_eq_some_iff.1 h).1
    rw [List.flatMap_cons,Nat.zero_mul,Nat.zero_add,List.getElem?_append_left this];exact h
  | x :: l,i + 1,hi,j,u,h => by
    have e1 : (i + 1) * k + j = (f x).length + (i * k + j) := by rw [hk,Nat.add_mul,Nat.one_mul];omega
    rw [List.flatMap_cons,e1,List.getElem?_append_right (by omega),Nat.add_sub_cancel_left]
    exact flat_get f k hk l i (by simpa using hi) j u h
theorem flat_at {α : Type} {f : α → List Value} {k : Nat} (hk : ∀ x,(f x).length = k) (h0 : 0 < k) {w : World} {A : Option Addr} {l : List α} (hr : Rd w A (l.flatMap f)) {i : Nat} (hi : i < l.length) :
    ∃ ad,A = some ad ∧ ∀ j u,(f l[i])[j]? = some u → w.cell? (ad.add (i * k + j)) = some u := by
  have hl : 0 < (f l[i]).length := by rw [hk];exact h0
  obtain ⟨ad,e1,_⟩ := hr _ _ (flat_get f k hk l i hi 0 _ (List.getElem?_eq_getElem hl))
  refine ⟨ad,e1,fun j u hu => ?_⟩
  obtain ⟨ad',e2,h⟩ := hr _ _ (flat_get f k hk l i hi j u hu)
  rw [e1] at e2;cases e2;exact h
end Go.Proofs.YtmfojbidojjciaaGreat
namespace Go.Proofs.YtmfojbidojjciaaGreat
open Go.RowKit
abbrev gAcc : GT := .st [.int,.int,.int,.int,.int]
structure Acc where
  tenant : Int
  quota : Int
  bytes : Int
  keys : Int
  rows : Int
def Acc.of (x : gAcc.den) : Acc := match x with
  | (a0,a1,a2,a3,a4,_) => ⟨a0,a1,a2,a3,a4⟩
def Acc.cells (x : Acc) : List Value := [.int .i64 x.tenant,.int .i64 x.quota,.int .i64 x.bytes,.int .i64 x.keys,.int .i64 x.rows]
abbrev gSlt : GT := .st [.int,.str]
structure Slt where
  seq : Int
  root : ByteArray
def Slt.of (x : gSlt.den) : Slt := match x with
  | (a0,a1,_) => ⟨a0,a1⟩
def Slt.cells (x : Slt) : List Value := [.int .i64 x.seq,.string x.root]
abbrev gCRw : GT := .st [.int,.int,.str]
structure CRw where
  tenant : Int
  no : Int
  text : ByteArray
def CRw.of (x : gCRw.den) : CRw := match x with
  | (a0,a1,a2,_) => ⟨a0,a1,a2⟩
def CRw.cells (x : CRw) : List Value := [.int .i64 x.tenant,.int .i64 x.no,.string x.text]
abbrev gKVt : GT := .st [.str,.str]
structure KVt where
  key : ByteArray
  val : ByteArray
def KVt.of (x : gKVt.den) : KVt := match x with
  | (a0,a1,_) => ⟨a0,a1⟩
def KVt.cells (x : KVt) : List Value := [.string x.key,.string x.val]
abbrev gEntt : GT := .st [.str,.int,.bool,.str]
structure Entt where
  key : ByteArray
  seq : Int
  del : Bool
  val : ByteArray
def Entt.of (x : gEntt.den) : Entt := match x with
  | (a0,a1,a2,a3,_) => ⟨a0,a1,a2,a3⟩
def Entt.cells (x : Entt) : List Value := [.string x.key,.int .i64 x.seq,.bool x.del,.string x.val]
abbrev gLnk : GT := .st [.int,.str,.str]
structure Lnk where
  who : Int
  text : ByteArray
  sum : ByteArray
def Lnk.of (x : gLnk.den) : Lnk := match x with
  | (a0,a1,a2,_) => ⟨a0,a1,a2⟩
def Lnk.cells (x : Lnk) : List Value := [.int .i64 x.who,.string x.text,.string x.sum]
abbrev gFKy : GT := .st [.int,.str]
structure FKy where
  no : Int
  text : ByteArray
def FKy.of (x : gFKy.den) : FKy := match x with
  | (a0,a1,_) => ⟨a0,a1⟩
def FKy.cells (x : FKy) : List Value := [.int .i64 x.no,.string x.text]
theorem Acc.cells_len (x : Acc) : x.cells.length = 5 := rfl
theorem Acc.at_ {w : World} {A : Option Addr} {l : List Acc} (hr : Rd w A (l.flatMap Acc.cells)) {i : Nat} (hi : i < l.length) : ∃ ad,A = some ad ∧ w.cell? (ad.add (i * 5)) = some (.int .i64 l[i].tenant) ∧ w.cell? ⟨(ad.add (i * 5)).block,(ad.add (i * 5)).off + 1,none⟩ = some (.int .i64 l[i].quota) ∧ w.cell? ⟨(ad.add (i * 5)).block,(ad.add (i * 5)).off + 2,none⟩ = some (.int .i64 l[i].bytes) ∧ w.cell? ⟨(ad.add (i * 5)).block,(ad.add (i * 5)).off + 3,none⟩ = some (.int .i64 l[i].keys) ∧ w.cell? ⟨(ad.add (i * 5)).block,(ad.add (i * 5)).off + 4,none⟩ = some (.int .i64 l[i].rows) := by
  obtain ⟨ad,e,h⟩ := flat_at Acc.cells_len (by omega) hr hi
  exact ⟨ad,e,h 0 _ rfl,(congrArg w.cell? (add_add' ad (i * 5) 1)).trans (h 1 _ rfl),(congrArg w.cell? (add_add' ad (i * 5) 2)).trans (h 2 _ rfl),(congrArg w.cell? (add_add' ad (i * 5) 3)).trans (h 3 _ rfl),(congrArg w.cell? (add_add' ad (i * 5) 4)).trans (h 4 _ rfl)⟩
theorem Slt.cells_len (x : Slt) : x.cells.length = 2 := rfl
theorem Slt.at_ {w : World} {A : Option Addr} {l : List Slt} (hr : Rd w A (l.flatMap Slt.cells)) {i : Nat} (hi : i < l.length) : ∃ ad,A = some ad ∧ w.cell? (ad.add (i * 2)) = some (.int .i64 l[i].seq) ∧ w.cell? ⟨(ad.add (i * 2)).block,(ad.add (i * 2)).off + 1,none⟩ = some (.string l[i].root) := by
  obtain ⟨ad,e,h⟩ := flat_at Slt.cells_len (by omega) hr hi
  exact ⟨ad,e,h 0 _ rfl,(congrArg w.cell? (add_add' ad (i * 2) 1)).trans (h 1 _ rfl)⟩
theorem CRw.cells_len (x : CRw) : x.cells.length = 3 := rfl
theorem CRw.at_ {w : World} {A : Option Addr} {l : List CRw} (hr : Rd w A (l.flatMap CRw.cells)) {i : Nat} (hi : i < l.length) : ∃ ad,A = some ad ∧ w.cell? (ad.add (i * 3)) = some (.int .i64 l[i].tenant) ∧ w.cell? ⟨(ad.add (i * 3)).block,(ad.add (i * 3)).off + 1,none⟩ = some (.int .i64 l[i].no) ∧ w.cell? ⟨(ad.add (i * 3)).block,(ad.add (i * 3)).off + 2,none⟩ = some (.string l[i].text) := by
  obtain ⟨ad,e,h⟩ := flat_at CRw.cells_len (by omega) hr hi
  exact ⟨ad,e,h 0 _ rfl,(congrArg w.cell? (add_add' ad (i * 3) 1)).trans (h 1 _ rfl),(congrArg w.cell? (add_add' ad (i * 3) 2)).trans (h 2 _ rfl)⟩
theorem KVt.cells_len (x : KVt) : x.cells.length = 2 := rfl
theorem KVt.at_ {w : World} {A : Option Addr} {l : List KVt} (hr : Rd w A (l.flatMap KVt.cells)) {i : Nat} (hi : i < l.length) : ∃ ad,A = some ad ∧ w.cell? (ad.add (i * 2)) = some (.string l[i].key) ∧ w.cell? ⟨(ad.add (i * 2)).block,(ad.add (i * 2)).off + 1,none⟩ = some (.string l[i].val) := by
  obtain ⟨ad,e,h⟩ := flat_at KVt.cells_len (by omega) hr hi
  exact ⟨ad,e,h 0 _ rfl,(congrArg w.cell? (add_add' ad (i * 2) 1)).trans (h 1 _ rfl)⟩
theorem Entt.cells_len (x : Entt) : x.cells.length = 4 := rfl
theorem Entt.at_ {w : World} {A : Option Addr} {l : List Entt} (hr : Rd w A (l.flatMap Entt.cells)) {i : Nat} (hi : i < l.length) : ∃ ad,A = some ad ∧ w.cell? (ad.add (i * 4)) = some (.string l[i].key) ∧ w.cell? ⟨(ad.add (i * 4)).block,(ad.add (i * 4)).off + 1,none⟩ = some (.int .i64 l[i].seq) ∧ w.cell? ⟨(ad.add (i * 4)).block,(ad.add (i * 4)).off + 2,none⟩ = some (.bool l[i].del) ∧ w.cell? ⟨(ad.add (i * 4)).block,(ad.add (i * 4)).off + 3,none⟩ = some (.string l[i].val) := by
  obtain ⟨ad,e,h⟩ := flat_at Entt.cells_len (by omega) hr hi
  exact ⟨ad,e,h 0 _ rfl,(congrArg w.cell? (add_add' ad (i * 4) 1)).trans (h 1 _ rfl),(congrArg w.cell? (add_add' ad (i * 4) 2)).trans (h 2 _ rfl),(congrArg w.cell? (add_add' ad (i * 4) 3)).trans (h 3 _ rfl)⟩
theorem Lnk.cells_len (x : Lnk) : x.cells.length = 3 := rfl
theorem Lnk.at_ {w : World} {A : Option Addr} {l : List Lnk} (hr : Rd w A (l.flatMap Lnk.cells)) {i : Nat} (hi : i < l.length) : ∃ ad,A = some ad ∧ w.cell? (ad.add (i * 3)) = some (.int .i64 l[i].who) ∧ w.cell? ⟨(ad.add (i * 3)).block,(ad.add (i * 3)).off + 1,none⟩ = some (.string l[i].text) ∧ w.cell? ⟨(ad.add (i * 3)).block,(ad.add (i * 3)).off + 2,none⟩ = some (.string l[i].sum) := by
  obtain ⟨ad,e,h⟩ := flat_at Lnk.cells_len (by omega) hr hi
  exact ⟨ad,e,h 0 _ rfl,(congrArg w.cell? (add_add' ad (i * 3) 1)).trans (h 1 _ rfl),(congrArg w.cell? (add_add' ad (i * 3) 2)).trans (h 2 _ rfl)⟩
theorem FKy.cells_len (x : FKy) : x.cells.length = 2 := rfl
theorem FKy.at_ {w : World} {A : Option Addr} {l : List FKy} (hr : Rd w A (l.flatMap FKy.cells)) {i : Nat} (hi : i < l.length) : ∃ ad,A = some ad ∧ w.cell? (ad.add (i * 2)) = some (.int .i64 l[i].no) ∧ w.cell? ⟨(ad.add (i * 2)).block,(ad.add (i * 2)).off + 1,none⟩ = some (.string l[i].text) := by
  obtain ⟨ad,e,h⟩ := flat_at FKy.cells_len (by omega) hr hi
  exact ⟨ad,e,h 0 _ rfl,(congrArg w.cell? (add_add' ad (i * 2) 1)).trans (h 1 _ rfl)⟩
end Go.Proofs.YtmfojbidojjciaaGreat
namespace Go.Proofs.YtmfojbidojjciaaGreat
open Go.RowKit
theorem run_mk {t e size bytes : Nat} (hT : SlT t e size bytes) (n : Nat) (hn : n ≤ 1048576) (hb : bytes ≤ 1048576) :
    ∃ cs : Array Value,cs.size = n * size ∧ ∀ W : World,(Instr.makeSlice t (.int .i64 (n : Int)) (.int .i64 (n : Int))).run Tryz.prog W = .ok (.slice (some ⟨W.heap.size,0,none⟩) n n) (W.alloc (.cells cs e)) := by
  obtain ⟨ht,_,i,z,hi,hz,hs,hby,hzs⟩ := hT
  refine ⟨madeCells z.cells (n * i.size),by rw [size_madeCells,hs],fun W => ?_⟩
  have hbn : (bytes : Int) * (n : Int) ≤ 281474976710656 := by
    have h : bytes * n ≤ 1048576 * 1048576 := Nat.mul_le_mul hb hn
    have h2 : ((bytes * n : Nat) : Int) ≤ 281474976710656 := by omega
    rwa [Int.natCast_mul] at h2
  have hr := run_make (P := Tryz.prog) W t e i z ht hi hz .i64 .i64 n n (by omega) (Int.le_refl _) (by rw [hby];exact hbn) (by omega)
  simpa only [Int.toNat_natCast] using hr
theorem run_store_own {T k : Nat} (hs : (Tryz.prog.info? T).map (·.size) = some k) {w : World} {base e g n c : Nat} {us : List Value} (hown : Own w base e k (some ⟨g,0,none⟩) n c us) {i : Nat} (hi : i < n)
    {v : Value} (hv : v.cells.size = k) (h1 : ∀ u ∈ v.cells.toList,u.oneCell' = true) :
    ∃ w',(storeVar T ⟨g,i * k,none⟩ v).run Tryz.prog w = .ok () w' ∧ Own w' base e k (some ⟨g,0,none⟩) n c (us.take (i * k) ++ v.cells.toList ++ us.drop (i * k + k)) ∧ w.grownBy w' (some g) := by
  rcases hown.2 with ⟨h',_⟩ | ⟨g',cap',cur,h',hb,hg,hnc,hcm,hcs,htake⟩
  · simp at h'
  simp only [Value.slice.injEq,Option.some.injEq,Addr.mk.injEq,and_true,true_and] at h'
  obtain ⟨rfl,rfl⟩ := h'
  have hik : i * k + k ≤ n * k := by rw [← Nat.succ_mul];exact Nat.mul_le_mul_right k hi
  have hnk : n * k ≤ c * k := Nat.mul_le_mul_right k hnc
  have hst := run_storeCells_at Tryz.prog g (i * k) e v.cells.toList 0 cur w hg (by simp;omega) h1
  simp only [Nat.add_zero] at hst
  obtain ⟨inf,hinf,hsz⟩ := Option.map_eq_some_iff.1 hs
  let nc : Array Value := (cur.toList.take (i * k) ++ v.cells.toList ++ cur.toList.drop (i * k + v.cells.toList.length)).toArray
  refine ⟨w.setRow g nc,?_,⟨?_,.inr ⟨g,c,nc,rfl,hb,?_,hnc,hcm,?_,?_⟩⟩,?_⟩
  · simp [storeVar,sizeOf,typeInfo,hinf,hsz,hv,hst,nc]
  · have := hown.1
    simp [List.length_take,List.length_drop]
    omega
  · simp only [World.setRow,Array.getElem?_modify,hg,if_true];rfl
  · simp [nc,hv];omega
  · show (nc.toList).take (n * k) = _
    simp only [nc]
    have hl : cur.toList.length = c * k := by simpa using hcs
    rw [List.take_append,List.take_append]
    simp only [List.length_append,List.length_take,Array.length_toList,hv,hcs]
    rw [show min (i * k) (c * k) = i * k by omega]
    rw [List.take_take,show min (n * k) (i * k) = i * k by omega,List.take_of_length_le (l := v.cells.toList) (by simp;omega)]
    rw [← htake]
    simp only [List.take_take,show min (i * k) (n * k) = i * k by omega,List.drop_take]
  · refine ⟨rfl,rfl,rfl,by simp [World.setRow],fun j hj hne => ?_⟩
    simp only [World.setRow,Array.getElem?_modify]
    rw [if_neg (by rintro rfl;exact hne rfl)]
def Done (w : World) (base e size g n : Nat) (k : Nat) (dn : List Value) : Prop := ∃ us,Own w base e size (some ⟨g,0,none⟩) n n us ∧ us.take (k * size) = dn
theorem Done.step {w' : World} {base e size g n k : Nat} {us cs dn : List Value} (h : Own w' base e size (some ⟨g,0,none⟩) n n (us.take (k * size) ++ cs ++ us.drop (k * size + size))) (h2 : us.take (k * size) = dn) (hc : cs.length = size) (hl : us.length = n * size) (hk : k < n) :
    Done w' base e size g n (k + 1) (dn ++ cs) := by
  refine ⟨_,h,?_⟩
  have : k * size + size ≤ n * size := by rw [← Nat.succ_mul];exact Nat.mul_le_mul_right size hk
  have hd : (us.take (k * size)).length = k * size := by rw [List.length_take];omega
  rw [Nat.add_mul,Nat.one_mul,List.take_append,List.take_of_length_le (by rw [List.length_append,hd,hc];exact Nat.le_refl _),List.length_append,hd,hc,Nat.sub_self,List.take_zero,List.append_nil,h2]
theorem wpList_st {ops : Array Oper} {rest : List Oper} {o : Oper} {a : Act} {w : World} {Q : Exit → Act → World → Prop} {T k : Nat} (hs : (Tryz.prog.info? T).map (·.size) = some k) (hgd : o.guard = none) (p x : Operand)
    (ho : o.op = .store T p x) {base e g n c : Nat} {us : List Value} (hown : Own w base e k (some ⟨g,0,none⟩) n c us) {i : Nat} (hi : i < n)
    {ad : Addr} (hp : a.eval p = .pointer (some ad)) (had : ad = ⟨g,i * k,none⟩)
    (h : ∀ w',Own w' base e k (some ⟨g,0,none⟩) n c (us.take (i * k) ++ (a.eval x).cells.toList ++ us.drop (i * k + k)) → w.grownBy w' (some g) → wpList Tryz.prog ops Q rest (a.put o.dst undef) w')
    (hv : (a.eval x).cells.size = k) (h1 : ∀ u ∈ (a.eval x).cells.toList,u.oneCell' = true) :
    wpList Tryz.prog ops Q (o :: rest) a w :=
  wpList_plain hgd fun K hK => by
    obtain ⟨w',hrun,h2,h3⟩ := run_store_own hs hown hi hv h1
    subst had
    unfold Oper.wp execOp
    simp only [ho,Instr.storeAt,hp,Instr.sureAddr,Sem.run_bind,Sem.run_pure,Result.andThen_ok,hrun]
    exact hK _ _ (h w' h2 h3)
theorem Done.ext {w w' : World} {base e size g n k : Nat} {dn : List Value} (h : Done w base e size g n k dn) (hb : Below w.heap.size w w') : Done w' base e size g n k dn := by
  obtain ⟨us,h1,h2⟩ := h
  exact ⟨us,Own.ext h1 hb,h2⟩
theorem Done.lt {w : World} {base e size g n k : Nat} {dn : List Value} (h : Done w base e size g n k dn) : base ≤ g ∧ g < w.heap.size := by
  obtain ⟨us,h1,_⟩ := h
  exact Own.lt h1 g rfl
theorem below_own {B : Nat} {w w' w1 : World} {g : Nat} (h : Below B w w1) (hg : w1.grownBy w' (some g)) (hB : B ≤ g) (hs : B ≤ w1.heap.size) : Below B w w' :=
  h.grown hg hs (fun q hq => by cases hq;exact hB)
def Box (w : World) (g T : Nat) (cs : List Value) : Prop := w.heap[g]? = some (.cells cs.toArray T (0,0))
theorem Box.cell {w : World} {g T : Nat} {cs : List Value} (h : Box w g T cs) (j : Nat) : w.cell? ⟨g,j,none⟩ = cs[j]? := by
  rw [cell_of_row w g j _ T (0,0) h];simp
theorem Box.lt {w : World} {g T : Nat} {cs : List Value} (h : Box w g T cs) : g < w.heap.size := by
  rcases Nat.lt_or_ge g w.heap.size with hlt | hge
  · exact hlt
  · unfold Box at h;rw [Array.getElem?_eq_none hge] at h;cases h
theorem Box.ext {w w' : World} {g T : Nat} {cs : List Value} (h : Box w g T cs) (hb : Below w.heap.size w w') : Box w' g T cs := (hb.block g h.lt).trans h
theorem Box.new (w : World) (T : Nat) (cs : List Value) : Box (w.alloc (.cells cs.toArray T)) w.heap.size T cs := heap_alloc_new w _
theorem Box.drewN {w : World} {g T : Nat} {cs : List Value} (h : Box w g T cs) (n : Nat) : Box (w.drewN n) g T cs := h
theorem Box.drew {w : World} {g T : Nat} {cs : List Value} (h : Box w g T cs) : Box w.drew g T cs := h
theorem Box.alloc {w : World} {g T : Nat} {cs : List Value} (h : Box w g T cs) (o : Obj) : Box (w.alloc o) g T cs := (Below.heap_alloc w o g h.lt).trans h
end Go.Proofs.YtmfojbidojjciaaGreat
namespace Go.Proofs.YtmfojbidojjciaaGreat
open Go.RowKit
set_option maxHeartbeats 400000
def ints (xs : List Int) : List Value := xs.map (.int .i64)
end Go.Proofs.YtmfojbidojjciaaGreat
namespace Go.Proofs.YtmfojbidojjciaaGreat
open Go.RowKit
set_option maxHeartbeats 400000
def inR (n a b : Int) : Bool := decide (a ≤ n) && decide (n ≤ b)
theorem xs_l1In_any (n a b : Int) (w : World) :
    Calls Tryz.prog 77 #[.int .i64 n,.int .i64 a,.int .i64 b] w fun e w' => e = .returned (.bool (inR n a b)) ∧ w = w' := by
  go_enter Tryz.func77,Tryz.ntmps77
  by_cases h : a ≤ n <;> by_cases h2 : n ≤ b <;> go_wp2 <;> go_ret <;> exact ⟨by simp [inR,h,h2],rfl⟩
theorem xi_inRange_any (n a b : Int) (w : World) :
    Calls Tryz.prog 96 #[.int .i64 n,.int .i64 a,.int .i64 b] w fun e w' => e = .returned (.bool (inR n a b)) ∧ w = w' := by
  go_enter Tryz.func96,Tryz.ntmps96
  by_cases h : a ≤ n <;> by_cases h2 : n ≤ b <;> go_wp2 <;> go_ret <;> exact ⟨by simp [inR,h,h2],rfl⟩
structure Tn where
  W : List Int
  L : List Int
  T : List Int
  pos : Int
def TnV (w : World) (cs : List Value) (t : Tn) : Prop := ∃ (A1 A2 A3 : Option Addr) (c1 c2 c3 : Nat),cs = [.slice A1 t.W.length c1,.slice A2 t.L.length c2,.slice A3 t.T.length c3,.int .i64 t.pos] ∧ Rd w A1 (ints t.W) ∧ Rd w A2 (ints t.L) ∧ Rd w A3 (ints t.T)
theorem TnV.ext {w w' : World} {cs : List Value} {t : Tn} (h : TnV w cs t) (hb : Below w.heap.size w w') : TnV w' cs t := by
  obtain ⟨A1,A2,A3,c1,c2,c3,e,h1,h2,h3⟩ := h
  exact ⟨A1,A2,A3,c1,c2,c3,e,h1.ext hb,h2.ext hb,h3.ext hb⟩
end Go.Proofs.YtmfojbidojjciaaGreat
namespace Go.Proofs.YtmfojbidojjciaaGreat
open Go.RowKit
set_option maxHeartbeats 1000000
def varF : Nat → Nat → List UInt8
  | 0,n => [UInt8.ofNat n]
  | f + 1,n => if n < 128 then [UInt8.ofNat n] else UInt8.ofNat (128 + n % 128) :: varF f (n / 128)
def varL (n : Nat) : List UInt8 := varF 9 n
theorem ofNat_val' (n : Nat) (h : n < 256) : ((UInt8.ofNat n).toNat : Int) = n := by
  have : (UInt8.ofNat n).toNat = n := by rw [UInt8.toNat_ofNat'];exact Nat.mod_eq_of_lt h
  omega
theorem varF_len (f n : Nat) : (varF f n).length ≤ f + 1 := by
  induction f generalizing n with
  | zero => simp [varF]
  | succ f ih => rw [varF];split <;> simp;exact ih _
theorem varF_step {l : List UInt8} {n m f : Nat} (h : l ++ varF f m = varL n) (hm : 128 ≤ m) (hf : m < 128 ^ (f + 1)) : ∃ f',f = f' + 1 ∧ (l ++ [UInt8.ofNat (128 + m % 128)]) ++ varF f' (m / 128) = varL n ∧ m / 128 < 128 ^ (f' + 1) := by
  rcases f with _ | f'
  · omega
  · refine ⟨f',rfl,?_,?_⟩
    · rw [varF,if_neg (by omega)] at h
      rw [← h];simp
    · rw [Nat.pow_succ] at hf
      exact Nat.div_lt_of_lt_mul (by omega)
theorem varF_end {l : List UInt8} {n m f : Nat} (h : l ++ varF f m = varL n) (hm : m < 128) : l ++ [UInt8.ofNat m] = varL n := by
  rcases f with _ | f'
  · exact h
  · rw [varF,if_pos hm] at h;exact h
theorem i64_or128 (r : Int) (h0 : 0 ≤ r) (h1 : r < 128) : bits .or .i64 128 r = 128 + r := by
  obtain ⟨R,rfl⟩ := Int.eq_ofNat_of_zero_le h0
  have hR : R < 128 := by omega
  have key : 128 ||| R = 128 + R := by
    have := Nat.two_pow_add_eq_or_of_lt (i := 7) (b := R) (by omega) 1
    simpa using this.symm
  show IntKind.i64.wrap ((BitVec.ofInt 64 (128 : Nat) ||| BitVec.ofInt 64 (R : Int)).toNat : Int) = _
  rw [BitVec.toNat_or,ofInt_u64 128 (by omega),ofInt_u64 R (by omega),IntKind.wrap_i64,key]
  omega
theorem sVar_any (n : Nat) (hn : n ≤ 562949953421311) (w : World) :
    Calls Tryz.prog 189 #[.int .i64 n] w fun e w' => e = .returned (.string ⟨(varL n).toArray⟩) ∧ Below w.heap.size w w' := by
  go_enter Tryz.func189,Tryz.ntmps189
  have hin : inR (n : Int) 0 562949953421311 = true := by unfold inR;simp;omega
  go_wp2_with (go_at_call 77;refine (xs_l1In_any _ _ _ _).mono ?_;rintro e w' ⟨rfl,rfl⟩;rw [hin])
  go_loopw [0,3] (fun nv sv wr => ∃ (A : Option Addr) (c m f : Nat) (l : List UInt8),nv = .int .i64 m ∧ sv = .slice A l.length c ∧ Own wr w.heap.size 5 1 A l.length c (byteVs l) ∧ l ++ varF f m = varL n ∧ m < 128 ^ (f + 1) ∧ l.length + f = 9 ∧ m ≤ 562949953421311 ∧ Below w.heap.size w wr) (fun nv _ _ => (intOf nv).toNat)
  case atStart => exact ⟨_,0,n,9,[],rfl,rfl,World.ownsRow_lit w #[] 0 (Nat.le_refl _) (by simp [maxLen]) rfl,rfl,by omega,rfl,hn,(by repeat' first | (with_reducible assumption) | (with_reducible exact Below.refl _ _) | (with_reducible refine Below.drew ?_) | (with_reducible refine below_drewN ?_ _) | (with_reducible refine Below.alloc ?_ ?_ _) | (with_reducible refine Below.setCell ?_ ?_ _) | (simp;done) | (simp;omega) | omega)⟩
  case round =>
    obtain ⟨A,c,m,f,l,rfl,rfl,hown,hl,hm,hlf,hmn,hbel⟩ := hrel
    have L := Lib.hid hl;clear hl
    have hml : (m : Int) ≤ 562949953421311 := by omega
    have hm0 : (0 : Int) ≤ (m : Int) := by omega
    have hws := hbel.size

    by_cases h128 : (128 : Int) ≤ m
    · obtain ⟨f',rfl,L',hm'⟩ := varF_step L.out (by omega) hm
      have L2 := Lib.hid L';clear L' L
      have hv := Lib.hid (ofNat_val' (128 + m % 128) (by omega))
      go_wp2_with (at_builtin;refine wpList_app T_bytes rfl (.tmp 10) (.tmp 15) rfl rfl (Own.alloc hown _) rfl (m := 1) (news := byteVs [UInt8.ofNat (128 + m % 128)]) rfl ?_ ?h1 (byteVs_one _) ?h2 ?h3 ?h4;intro A' c' w1 hown1 hg1 hat1)
      case h1 => rw [show byteVs [UInt8.ofNat (128 + m % 128)] = [Value.int .u8 (128 + (m : Int) % 128)] by simp only [byteVs,List.map_cons,List.map_nil];rw [hv.out];rfl];exact Rd.new _ _ _
      case h2 => omega
      case h3 => omega
      case h4 => first | omega | (simp;omega)
      rw [byteVs_app] at hown1
      go_roundw
      case rel => exact ⟨A',c',m / 128,f',l ++ [UInt8.ofNat (128 + m % 128)],by simp,by simp,by simpa using hown1,L2.out,hm',by simp;omega,by omega,Below.grown' (hbel.alloc hbel.size _) hg1 (by simp;omega) (fun q hq => (Own.lt hown q hq).1)⟩
      case measure => simp [intOf];omega
    · have hv := Lib.hid (ofNat_val' m (by omega))
      have e := Lib.hid (varF_end L.out (by omega))
      go_wp2_with (at_builtin;refine wpList_app T_bytes rfl (.tmp 19) (.tmp 22) rfl rfl (Own.alloc hown _) rfl (m := 1) (news := byteVs [UInt8.ofNat m]) rfl ?_ ?h1 (byteVs_one _) ?h2 ?h3 ?h4;intro A' c' w1 hown1 hg1 hat1;rw [byteVs_app] at hown1;have hc := run_str (Rd.of_own hown1) (l.length + 1) (by simp) c')
      case h1 => rw [show byteVs [UInt8.ofNat m] = [Value.int .u8 (m : Int)] by simp only [byteVs,List.map_cons,List.map_nil];rw [hv.out]];exact Rd.new _ _ _
      case h2 => omega
      case h3 => omega
      case h4 => first | omega | (simp;omega)
      go_ret
      refine ⟨?_,Below.grown' (hbel.alloc hbel.size _) hg1 (by simp;omega) (fun q hq => (Own.lt hown q hq).1)⟩
      rw [← e.out];rfl
theorem iVar_any (n : Nat) (hn : n ≤ 562949953421311) (w : World) :
    Calls Tryz.prog 231 #[.int .i64 n] w fun e w' => e = .returned (.string ⟨(varL n).toArray⟩) ∧ Below w.heap.size w w' := by
  go_enter Tryz.func231,Tryz.ntmps231
  have hin : inR (n : Int) 0 562949953421311 = true := by unfold inR;simp;omega
  go_wp2_with (go_at_call 96;refine (xi_inRange_any _ _ _ _).mono ?_;rintro e w' ⟨rfl,rfl⟩;rw [hin])
  go_loopw [0,3] (fun nv sv wr => ∃ (A : Option Addr) (c m f : Nat) (l : List UInt8),nv = .int .i64 m ∧ sv = .slice A l.length c ∧ Own wr w.heap.size 5 1 A l.length c (byteVs l) ∧ l ++ varF f m = varL n ∧ m < 128 ^ (f + 1) ∧ l.length + f = 9 ∧ m ≤ 562949953421311 ∧ Below w.heap.size w wr) (fun nv _ _ => (intOf nv).toNat)
  case atStart => exact ⟨_,0,n,9,[],rfl,rfl,Own.nil _ _ _ _,rfl,by omega,rfl,hn,(by repeat' first | (with_reducible assumption) | (with_reducible exact Below.refl _ _) | (with_reducible refine Below.drew ?_) | (with_reducible refine below_drewN ?_ _) | (with_reducible refine Below.alloc ?_ ?_ _) | (with_reducible refine Below.setCell ?_ ?_ _) | (simp;done) | (simp;omega) | omega)⟩
  case round =>
    obtain ⟨A,c,m,f,l,rfl,rfl,hown,hl,hm,hlf,hmn,hbel⟩ := hrel
    have L := Lib.hid hl;clear hl
    have hml : (m : Int) ≤ 562949953421311 := by omega
    have hm0 : (0 : Int) ≤ (m : Int) := by omega
    have hws := hbel.size
    have B1 := i64_and127 (m : Int)
    have B2 := i64_or128 ((m : Int) % 128) (by omega) (by omega)
    by_cases h128 : (128 : Int) ≤ m
    · obtain ⟨f',rfl,L',hm'⟩ := varF_step L.out (by omega) hm
      have L2 := Lib.hid L';clear L' L
      have hv := Lib.hid (ofNat_val' (128 + m % 128) (by omega))
      go_wp2_with (at_builtin;refine wpList_app T_bytes rfl (.tmp 9) (.tmp 14) rfl rfl (Own.alloc hown _) rfl (m := 1) (news := byteVs [UInt8.ofNat (128 + m % 128)]) rfl ?_ ?h1 (byteVs_one _) ?h2 ?h3 ?h4;intro A' c' w1 hown1 hg1 hat1)
      case h1 => rw [show byteVs [UInt8.ofNat (128 + m % 128)] = [Value.int .u8 (128 + (m : Int) % 128)] by simp only [byteVs,List.map_cons,List.map_nil];rw [hv.out];rfl];exact Rd.new _ _ _
      case h2 => omega
      case h3 => omega
      case h4 => first | omega | (simp;omega)
      rw [byteVs_app] at hown1
      go_roundw
      case rel => exact ⟨A',c',m / 128,f',l ++ [UInt8.ofNat (128 + m % 128)],by simp,by simp,by simpa using hown1,L2.out,hm',by simp;omega,by omega,Below.grown' (hbel.alloc hbel.size _) hg1 (by simp;omega) (fun q hq => (Own.lt hown q hq).1)⟩
      case measure => simp [intOf];omega
    · have hv := Lib.hid (ofNat_val' m (by omega))
      have e := Lib.hid (varF_end L.out (by omega))
      go_wp2_with (at_builtin;refine wpList_app T_bytes rfl (.tmp 18) (.tmp 21) rfl rfl (Own.alloc hown _) rfl (m := 1) (news := byteVs [UInt8.ofNat m]) rfl ?_ ?h1 (byteVs_one _) ?h2 ?h3 ?h4;intro A' c' w1 hown1 hg1 hat1;rw [byteVs_app] at hown1;have hc := run_str (Rd.of_own hown1) (l.length + 1) (by simp) c')
      case h1 => rw [show byteVs [UInt8.ofNat m] = [Value.int .u8 (m : Int)] by simp only [byteVs,List.map_cons,List.map_nil];rw [hv.out]];exact Rd.new _ _ _
      case h2 => omega
      case h3 => omega
      case h4 => first | omega | (simp;omega)
      go_ret
      refine ⟨?_,Below.grown' (hbel.alloc hbel.size _) hg1 (by simp;omega) (fun q hq => (Own.lt hown q hq).1)⟩
      rw [← e.out];rfl
end Go.Proofs.YtmfojbidojjciaaGreat
namespace Go.Proofs.YtmfojbidojjciaaGreat
def sumL : List UInt8 → Nat
  | [] => 0
  | b :: l => sumL l * 128 + b.toNat % 128
def rvT : Bool → Nat → List UInt8 → Option (Nat × Nat)
  | _,0,_ => none
  | _,_ + 1,[] => none
  | t,f + 1,b :: l => if 128 ≤ b.toNat then (rvT true f l).map (fun p => (p.1 * 128 + b.toNat % 128,p.2 + 1)) else if t = true ∧ b.toNat = 0 then none else some (b.toNat,1)
def rvS (l : List UInt8) : Nat → Nat → Option (Nat × Nat)
  | 0,_ => none
  | f + 1,k => if k ≤ l.length then if varL (sumL (l.take k)) = l.take k then some (sumL (l.take k),k) else rvS l f (k + 1) else none
def canT0 : Bool → List UInt8 → Prop
  | _,[] => False
  | t,b :: l => if 128 ≤ b.toNat then canT0 true l else l = [] ∧ ¬ (t = true ∧ b.toNat = 0)
theorem rvT_can : ∀ (f : Nat) (t : Bool) (l : List UInt8) (n k : Nat),rvT t f l = some (n,k) → 1 ≤ k ∧ k ≤ f ∧ k ≤ l.length ∧ canT0 t (l.take k) ∧ n = sumL (l.take k)
  | 0,t,l,n,k,h => by simp [rvT] at h
  | f + 1,t,[],n,k,h => by simp [rvT] at h
  | f + 1,t,b :: l,n,k,h => by
    unfold rvT at h
    split at h
    · rename_i hb
      cases hr : rvT true f l with
      | none => rw [hr] at h;cases h
      | some p =>
        rw [hr] at h
        obtain ⟨n',k'⟩ := p
        simp only [Option.map_some,Option.some.injEq,Prod.mk.injEq] at h
        obtain ⟨rfl,rfl⟩ := h
        obtain ⟨h1,h2,h3,h4,h5⟩ := rvT_can f true l n' k' hr
        refine ⟨by omega,by omega,by simp;omega,?_,?_⟩
        · rw [List.take_succ_cons];unfold canT0;rw [if_pos hb];exact h4
        · rw [List.take_succ_cons];simp only [sumL];rw [← h5]
    · rename_i hb
      split at h
      · cases h
      · rename_i h0
        cases h
        refine ⟨by omega,by omega,by simp,?_,?_⟩
        · simp only [List.take_succ_cons,List.take_zero];unfold canT0;rw [if_neg hb];exact ⟨rfl,h0⟩
        · simp only [List.take_succ_cons,List.take_zero,sumL];omega
theorem can_rvT : ∀ (f : Nat) (t : Bool) (l : List UInt8) (k : Nat),k ≤ f → k ≤ l.length → canT0 t (l.take k) → rvT t f l = some (sumL (l.take k),k)
  | f,t,l,0,h1,h2,h => by simp [canT0] at h
  | 0,t,l,k + 1,h1,h2,h => by omega
  | f + 1,t,[],k + 1,h1,h2,h => by simp at h2
  | f + 1,t,b :: l,k + 1,h1,h2,h => by
    rw [List.take_succ_cons] at h
    unfold canT0 at h
    unfold rvT
    split at h
    · rename_i hb
      rw [if_pos hb,can_rvT f true l k (by omega) (by simp at h2;omega) h]
      simp [sumL]
    · rename_i hb
      rw [if_neg hb,if_neg h.2]
      have : (l.take k).length = 0 := by rw [h.1];rfl
      have hk : k = 0 := by simp at this h2;rcases this with h | h;exact h;subst h;simp at h2;omega
      subst hk
      simp [sumL];omega
theorem can_pos : ∀ (l : List UInt8),canT0 true l → 0 < sumL l
  | [],h => by simp [canT0] at h
  | b :: l,h => by
    unfold canT0 at h
    simp only [sumL]
    split at h
    · have := can_pos l h;omega
    · rename_i hb
      have : b.toNat ≠ 0 := fun e => h.2 ⟨rfl,e⟩
      omega
theorem u8_of (b : UInt8) (n : Nat) (h : n = b.toNat) : UInt8.ofNat n = b := by subst h;exact UInt8.ofNat_toNat
theorem can_varF : ∀ (l : List UInt8) (t : Bool) (f : Nat),canT0 t l → l.length ≤ f + 1 → varF f (sumL l) = l
  | [],t,f,h,hl => by simp [canT0] at h
  | b :: l,t,f,h,hl => by
    unfold canT0 at h
    have hb2 := b.toNat_lt
    split at h
    · rename_i hb
      have hp := can_pos l h
      have hl0 : l ≠ [] := fun e => by subst e;simp [canT0] at h
      have hl1 : 0 < l.length := List.length_pos_iff.2 hl0
      simp at hl
      obtain ⟨f',rfl⟩ : ∃ f',f = f' + 1 := ⟨f - 1,by omega⟩
      simp only [sumL]
      rw [varF,if_neg (by omega)]
      have e1 : (sumL l * 128 + b.toNat % 128) / 128 = sumL l := by omega
      rw [e1,can_varF l true f' h (by omega)]
      congr 1
      exact u8_of b _ (by omega)
    · rename_i hb
      obtain ⟨rfl,h0⟩ := h
      simp only [sumL]
      have e : 0 * 128 + b.toNat % 128 = b.toNat := by omega
      rw [e]
      cases f with
      | zero => rw [varF];rw [u8_of b _ rfl]
      | succ f => rw [varF,if_pos (by omega)];rw [u8_of b _ rfl]
theorem varF_can : ∀ (f n : Nat) (t : Bool),n < 128 ^ (f + 1) → (t = true → 0 < n) → canT0 t (varF f n)
  | 0,n,t,h,ht => by
    have hn : n < 128 := by simpa using h
    have e : (UInt8.ofNat n).toNat = n := by rw [UInt8.toNat_ofNat'];exact Nat.mod_eq_of_lt (by omega)
    rw [varF];unfold canT0;rw [e,if_neg (by omega)]
    exact ⟨rfl,fun h0 => by have := ht h0.1;omega⟩
  | f + 1,n,t,h,ht => by
    rw [varF]
    split
    · rename_i hn
      have e : (UInt8.ofNat n).toNat = n := by rw [UInt8.toNat_ofNat'];exact Nat.mod_eq_of_lt (by omega)
      unfold canT0;rw [e,if_neg (by omega)]
      exact ⟨rfl,fun h0 => by have := ht h0.1;omega⟩
    · rename_i hn
      have e : (UInt8.ofNat (128 + n % 128)).toNat = 128 + n % 128 := by rw [UInt8.toNat_ofNat'];exact Nat.mod_eq_of_lt (by omega)
      unfold canT0;rw [e,if_pos (by omega)]
      exact varF_can f (n / 128) true (by rw [Nat.pow_succ] at h;exact Nat.div_lt_of_lt_mul (by omega)) (fun _ => by omega)
theorem sumL_lt : ∀ (l : List UInt8),sumL l < 128 ^ l.length
  | [] => by simp [sumL]
  | b :: l => by
    have := sumL_lt l
    simp only [sumL,List.length_cons,Nat.pow_succ]
    omega
theorem pow_le (k : Nat) (h : k ≤ 7) : 128 ^ k ≤ 562949953421312 := by
  have := Nat.pow_le_pow_right (n := 128) (by omega) h
  have e : (128 : Nat) ^ 7 = 562949953421312 := by decide
  omega
theorem sumL_small (l : List UInt8) (h : l.length ≤ 7) : sumL l < 562949953421312 := by
  have := sumL_lt l
  have := pow_le l.length h
  omega
theorem good_iff (l : List UInt8) (k : Nat) (hk : k ≤ l.length) (h7 : k ≤ 7) : varL (sumL (l.take k)) = l.take k ↔ canT0 false (l.take k) := by
  have hl : (l.take k).length = k := by simp;omega
  constructor
  · intro h
    rw [← h]
    have := sumL_small (l.take k) (by omega)
    exact varF_can 9 _ false (by have : (128 : Nat) ^ (9 + 1) = 1180591620717411303424 := by decide
                                 omega) (fun h => by cases h)
  · intro h
    exact can_varF _ false 9 h (by omega)
theorem rvS_eq (l : List UInt8) : ∀ (f k : Nat),f + k = 8 → 1 ≤ k → (∀ j,1 ≤ j → j < k → j ≤ l.length → ¬ canT0 false (l.take j)) → rvS l f k = rvT false 7 l
  | 0,k,h,h1,hn => by
    cases hr : rvT false 7 l with
    | none => rfl
    | some p =>
      obtain ⟨n,j⟩ := p
      obtain ⟨a,b,c,d,e⟩ := rvT_can 7 false l n j hr
      exact absurd d (hn j a (by omega) c)
  | f + 1,k,h,h1,hn => by
    unfold rvS
    split
    · rename_i hk
      split
      · rename_i hg
        have := (good_iff l k hk (by omega)).1 hg
        rw [can_rvT 7 false l k (by omega) hk this]
      · rename_i hg
        have hng : ¬ canT0 false (l.take k) := fun h => hg ((good_iff l k hk (by omega)).2 h)
        refine rvS_eq l f (k + 1) (by omega) (by omega) (fun j a b c => ?_)
        rcases Nat.lt_succ_iff_lt_or_eq.1 b with h2 | rfl
        · exact hn j a h2 c
        · exact hng
    · rename_i hk
      cases hr : rvT false 7 l with
      | none => rfl
      | some p =>
        obtain ⟨n,j⟩ := p
        obtain ⟨a,b,c,d,e⟩ := rvT_can 7 false l n j hr
        exact absurd d (hn j a (by omega) c)
def rv (l : List UInt8) : Option (Nat × Nat) := rvT false 7 l
theorem rvS_rv (l : List UInt8) : rvS l 7 1 = rv l := rvS_eq l 7 1 rfl (by omega) (fun j a b => by omega)
theorem rv_some {l : List UInt8} {n k : Nat} (h : rv l = some (n,k)) : 1 ≤ k ∧ k ≤ 7 ∧ k ≤ l.length ∧ n < 562949953421312 ∧ varL n = l.take k := by
  obtain ⟨a,b,c,d,e⟩ := rvT_can 7 false l n k h
  have hl : (l.take k).length = k := by simp;omega
  refine ⟨a,b,c,?_,?_⟩
  · rw [e];exact sumL_small _ (by omega)
  · rw [e];exact (good_iff l k c b).2 d
end Go.Proofs.YtmfojbidojjciaaGreat
namespace Go.Proofs.YtmfojbidojjciaaGreat
open Go.RowKit
set_option maxHeartbeats 1000000
def fixL : Nat → Nat → List UInt8
  | 0,n => []
  | k + 1,n => fixL k (n / 256) ++ [UInt8.ofNat (n % 256)]
theorem fixL_len (k n : Nat) : (fixL k n).length = k := by
  induction k generalizing n with
  | zero => rfl
  | succ k ih => simp [fixL,ih]
theorem fixL_step {j m : Nat} {o t : List UInt8} (h : fixL (j + 1) m ++ o = t) : fixL j (m / 256) ++ (UInt8.ofNat (m % 256) :: o) = t := by
  rw [fixL,List.append_assoc] at h
  simpa using h
theorem byteStr_app (n : Nat) (o : List UInt8) : byteStr (n : Int) ++ (⟨o.toArray⟩ : ByteArray) = ⟨(UInt8.ofNat n :: o).toArray⟩ := by
  apply ByteArray.ext
  simp [byteStr]
theorem z_u8 : (Tryz.prog.info? 5).map (·.size) = some 1 := by kernel_rfl
theorem sFixed7_any (n : Nat) (hn : n < 72057594037927936) (w : World) :
    Calls Tryz.prog 262 #[.int .i64 n,.int .i64 7] w fun e w' => e = .returned (.string ⟨(fixL 7 n).toArray⟩) ∧ Below w.heap.size w w' := by
  go_enter Tryz.func262,Tryz.ntmps262
  have hin : inR 7 1 7 = true := rfl
  have hn0 : (0 : Int) ≤ (n : Int) := by omega
  go_wp2_with (go_at_call 77;refine (xs_l1In_any _ _ _ _).mono ?_;rintro e w' ⟨rfl,rfl⟩;rw [hin])
  go_loopw [0,5,6] (fun nv ov iv wr => ∃ (i m j : Nat) (o : List UInt8),iv = .int .i64 i ∧ nv = .int .i64 m ∧ ov = .string ⟨o.toArray⟩ ∧ o.length = i ∧ i + j = 7 ∧ fixL j m ++ o = fixL 7 n ∧ m < 256 ^ j ∧ m < 72057594037927936 ∧ Below w.heap.size w wr) (fun _ _ iv _ => 7 - (intOf iv).toNat)
  case atStart => exact ⟨0,n,7,[],rfl,rfl,rfl,rfl,rfl,by simp,by omega,hn,(by repeat' first | (with_reducible assumption) | (with_reducible exact Below.refl _ _) | (with_reducible refine Below.drew ?_) | (with_reducible refine below_drewN ?_ _) | (with_reducible refine Below.alloc ?_ ?_ _) | (with_reducible refine Below.setCell ?_ ?_ _) | (simp;done) | (simp;omega) | omega)⟩
  case round =>
    obtain ⟨i,m,j,o,rfl,rfl,rfl,hol,hij,hf,hm,hmb,hbel⟩ := hrel
    have L := Lib.hid hf;clear hf
    have hm0 : (0 : Int) ≤ (m : Int) := by omega
    have hi0 : (0 : Int) ≤ (i : Int) := by omega
    have hws := hbel.size
    rcases j with _ | j
    · obtain rfl : i = 7 := by omega
      obtain rfl : m = 0 := by omega
      have L2 := Lib.hid (show o = fixL 7 n from L.out)
      go_wp2
      go_ret
      refine ⟨?_,hbel⟩
      rw [← L2.out];rfl
    · have hlt : (i : Int) < 7 := by omega
      have L2 := Lib.hid (fixL_step L.out)
      have hsz : ¬ 9223372036854775807 < 1 + o.length := by omega
      have hsz2 : ¬ 9223372036854775807 < 1 + (⟨o.toArray⟩ : ByteArray).size := by show ¬ _ < 1 + o.toArray.size;simpa using hsz
      have hm' : m / 256 < 256 ^ j := Nat.div_lt_of_lt_mul (by rw [Nat.pow_succ] at hm;omega)
      have hmi : (m : Int) < 72057594037927936 := by omega
      go_wp2
      exact ⟨⟨i + 1,m / 256,j,UInt8.ofNat (m % 256) :: o,by go_num,by simp,by rw [← byteStr_app];rfl,by simp [hol],by omega,L2.out,hm',by omega,hbel.alloc hbel.size _⟩,by simp [intOf];omega⟩
theorem iFixed7_any (n : Nat) (hn : n < 72057594037927936) (w : World) :
    Calls Tryz.prog 299 #[.int .i64 n,.int .i64 7] w fun e w' => e = .returned (.string ⟨(fixL 7 n).toArray⟩) ∧ Below w.heap.size w w' := by
  obtain ⟨cs,hcs,hmk⟩ := run_mk T_bytes 7 (by omega) (by omega)
  replace hmk : ∀ W : World,(Instr.makeSlice 52 (.int .i64 7) (.int .i64 7)).run Tryz.prog W = .ok (.slice (some ⟨W.heap.size,0,none⟩) 7 7) (W.alloc (.cells cs 5)) := hmk
  go_enter Tryz.func299,Tryz.ntmps299
  have hin : inR 7 1 7 = true := rfl
  have hn0 : (0 : Int) ≤ (n : Int) := by omega
  have hz : (n : Int) / 72057594037927936 = 0 := by omega
  go_wp2_with (go_at_call 96;refine (xi_inRange_any _ _ _ _).mono ?_;rintro e w' ⟨rfl,rfl⟩;rw [hin])
  have hcz := Lib.hid hcs;clear hcs hmk
  go_loopw [0,6] (fun nv iv wr => ∃ (m j : Nat) (o : List UInt8) (us : List Value),iv = .int .i64 ((j : Int) - 1) ∧ nv = .int .i64 m ∧ Own wr w.heap.size 5 1 (some ⟨w.heap.size,0,none⟩) 7 7 us ∧ us.drop j = byteVs o ∧ fixL j m ++ o = fixL 7 n ∧ m < 72057594037927936 ∧ j ≤ 7 ∧ Below w.heap.size w wr) (fun _ iv _ => (intOf iv + 1).toNat)
  case atStart => exact ⟨n,7,[],cs.toList,rfl,rfl,World.ownsRow_lit w cs 7 (Nat.le_refl _) (by simp [maxLen]) hcz.out,by rw [List.drop_of_length_le (by have := hcz.out;simp;omega)];rfl,by simp,hn,Nat.le_refl _,(by repeat' first | (with_reducible assumption) | (with_reducible exact Below.refl _ _) | (with_reducible refine Below.drew ?_) | (with_reducible refine below_drewN ?_ _) | (with_reducible refine Below.alloc ?_ ?_ _) | (with_reducible refine Below.setCell ?_ ?_ _) | (simp;done) | (simp;omega) | omega)⟩
  case round =>
    obtain ⟨m,j,o,us,rfl,rfl,hown,hd,hf,hmb,hjK,hbel⟩ := hrel
    have L := Lib.hid hf;clear hf
    have D := Lib.hid hd;clear hd
    have hm0 : (0 : Int) ≤ (m : Int) := by omega
    have hws := hbel.size
    rcases j with _ | j
    · have L2 := Lib.hid (show o = fixL 7 n from L.out)
      have hus : us = byteVs o := by have := D.out;simpa using this
      subst hus
      have hol : o.length = 7 := by rw [L2.out,fixL_len]
      have hc := run_str (Rd.of_own hown) 7 hol.symm 7
      go_wp2
      go_ret
      refine ⟨?_,hbel⟩
      rw [← L2.out];rfl
    · have hji : ((j + 1 : Nat) : Int) - 1 = (j : Int) := by omega
      rw [hji]
      have hj0 : (0 : Int) ≤ (j : Int) := by omega
      have hjk : (j : Int) < 7 := by omega
      have hmi : (m : Int) < 72057594037927936 := by omega
      have hv := Lib.hid (ofNat_val' (m % 256) (by omega))
      have L2 := Lib.hid (fixL_step L.out)
      have hlu : us.length = 7 * 1 := hown.1
      go_wp2_with (refine wpList_st z_u8 rfl (.tmp 34) (.tmp 33) rfl hown (i := j) (by omega) rfl (by rw [Nat.mul_one]) ?_ rfl ?_;intro w2 hown2 hg2)
      · change Own w2 w.heap.size 5 1 (some ⟨w.heap.size,0,none⟩) 7 7 (us.take (j * 1) ++ [Value.int .u8 ((m : Int) % 256)] ++ us.drop (j * 1 + 1)) at hown2
        have ht : (us.take j).length = j := by rw [List.length_take];omega
        refine ⟨⟨m / 256,j,UInt8.ofNat (m % 256) :: o,_,rfl,by simp,hown2,?_,L2.out,by omega,by omega,below_own hbel hg2 (Nat.le_refl _) hws⟩,by simp [intOf]⟩
        rw [Nat.mul_one,List.append_assoc,List.drop_left' ht,D.out]
        simp only [byteVs,List.map_cons,List.singleton_append]
        rw [hv.out]
        rfl
      · change ∀ u ∈ [Value.int .u8 ((m : Int) % 256)],_
        intro u hu
        simp only [List.mem_singleton] at hu
        subst hu
        rfl
end Go.Proofs.YtmfojbidojjciaaGreat
namespace Go.Proofs.YtmfojbidojjciaaGreat
open Go.RowKit
set_option maxHeartbeats 1000000
def crcBit (c : Nat) : Nat := if c % 2 = 1 then (c / 2) ^^^ 2197175160 else c / 2
def crcIt : Nat → Nat → Nat
  | 0,c => c
  | k + 1,c => crcBit (crcIt k c)
def crcTo (s : ByteArray) : Nat → Nat
  | 0 => 4294967295
  | k + 1 => crcIt 8 (crcTo s k ^^^ s[k]!.toNat)
def crcF (s : ByteArray) : Nat := 4294967295 - crcTo s s.size
end Go.Proofs.YtmfojbidojjciaaGreat
namespace Go.Proofs.YtmfojbidojjciaaGreat
open Go.RowKit
set_option maxHeartbeats 1000000
def vS (n : Nat) : ByteArray := ⟨(varL n).toArray⟩
def fS (n : Nat) : ByteArray := ⟨(fixL 4 n).toArray⟩
def pieceS (r : ByteArray) : ByteArray := vS r.size ++ r
def sumS (t : ByteArray) : ByteArray := fS (crcF t) ++ t
theorem vS_size (n : Nat) : (vS n).size ≤ 10 := by
  show (varL n).toArray.size ≤ 10
  have := varF_len 9 n
  simpa [varL] using this
theorem pieceS_size (r : ByteArray) : (pieceS r).size ≤ r.size + 10 := by
  have := vS_size r.size
  unfold pieceS;rw [ByteArray.size_append];omega
theorem xs_Var_v (n : Nat) (hn : n ≤ 562949953421311) (w : World) :
    Calls Tryz.prog 189 #[.int .i64 n] w fun e w' => e = .returned (.string (vS n)) ∧ Below w.heap.size w w' := (by first | exact sVar_any n hn w | exact iVar_any n hn w)
theorem sPiece_any (s : ByteArray) (hs : s.size ≤ 1048576) (w : World) :
    Calls Tryz.prog 319 #[.string s] w fun e w' => e = .returned (.string (pieceS s)) ∧ Below w.heap.size w w' := by
  have hz := vS_size s.size
  have hq : ¬ 9223372036854775807 < (vS s.size).size + s.size := by omega
  go_enter Tryz.func319,Tryz.ntmps319
  go_wp2_with fail
  refine (xs_Var_v s.size (by omega) _).mono ?_
  rintro e w' ⟨rfl,hb⟩
  go_wp2
  go_ret
  exact ⟨rfl,hb⟩
def showS (q : Int) (r : ByteArray) : ByteArray := if inR q 1 1000000 = true ∧ r.size ≤ 40 then sumS (vS q.toNat ++ pieceS r) else ⟨#[]⟩
end Go.Proofs.YtmfojbidojjciaaGreat
namespace Go.Proofs.YtmfojbidojjciaaGreat
open Go.RowKit
abbrev bl (s : ByteArray) : List UInt8 := s.data.toList
theorem bl_len (s : ByteArray) : (bl s).length = s.size := Array.length_toList
theorem bl_ext {s t : ByteArray} (h : bl s = bl t) : s = t := by
  cases s;cases t;simp only [bl] at h;congr;exact Array.toList_inj.1 h
theorem bl_extract (s : ByteArray) (i k : Nat) : bl (s.extract i k) = ((bl s).take k).drop i := by
  simp [bl,ByteArray.data_extract,List.extract_eq_take_drop,List.drop_take]
theorem bl_app (s t : ByteArray) : bl (s ++ t) = bl s ++ bl t := by simp [bl]
def bt (s : ByteArray) (i : Nat) : Nat := ((bl s).getD i 0).toNat
theorem bt_lt (s : ByteArray) (i : Nat) : bt s i < 256 := UInt8.toNat_lt _
theorem bt_get {s : ByteArray} {i : Nat} (h : i < s.size) : s[i]! = (bl s).getD i 0 := by
  rw [getElem!_pos s i h]
  have h2 : i < (bl s).length := by rw [bl_len];exact h
  rw [List.getD_eq_getElem?_getD,List.getElem?_eq_getElem h2]
  simp [bl];rfl
theorem bl_cons {s : ByteArray} {i : Nat} (h : i < s.size) : (bl s).drop i = (bl s).getD i 0 :: (bl s).drop (i + 1) := by
  have h2 : i < (bl s).length := by rw [bl_len];exact h
  rw [List.drop_eq_getElem_cons h2,List.getD_eq_getElem?_getD,List.getElem?_eq_getElem h2];rfl
section
variable {P : Program} {E : Env} {H : List HObj} {G : List World} {o : Oper}
theorem ps_sidxE {x y : Operand} {t : TypeId} {s : ByteArray} {k : IntKind} {z : Int} (i : Nat) [ht : SS P t] (ho : o.op = .index t x y) (hx : opd E x = some (.string s)) (hy : opd E y = some (.int k z)) (hz : z = (i : Int)) (h : i < s.size) : PStep P E H G o (.int .u8 (bt s i : Int)) := by
  subst hz
  have := ps_sidx (P := P) (E := E) (H := H) (G := G) ho hx hy (by omega)
  rw [Int.toNat_natCast,bt_get h] at this
  exact this
theorem ps_and127 {x y : Operand} {t t' : TypeId} {n : Nat} (ho : o.op = .binOp .and t x y t') (hx : opd E x = some (.int .u8 (n : Int))) (hy : opd E y = some (.int .u8 127)) (hn : n < 256) : PStep P E H G o (.int .u8 ((n % 128 : Nat) : Int)) := by
  refine ps_int ho hx hy ?_
  have h : ∀ n : Nat,n < 256 → IntKind.u8.wrap ((BitVec.ofInt IntKind.u8.bits (n : Int) &&& BitVec.ofInt IntKind.u8.bits 127).toNat : Int) = ((n % 128 : Nat) : Int) := by decide +kernel
  simp only [intOp]
  rw [h n hn]
theorem pow7 (i : Nat) : (128 : Nat) ^ i = 2 ^ (7 * i) := by rw [Nat.pow_mul]
theorem ps_shl7 {x y : Operand} {t t' : TypeId} {n i : Nat} {z : Int} {k' : IntKind} (ho : o.op = .binOp .shl t x y t') (hx : opd E x = some (.int .i64 (n : Int))) (hy : opd E y = some (.int k' z)) (hz : z = ((7 * i : Nat) : Int)) (hi : i ≤ 6) (hn : n < 128) : PStep P E H G o (.int .i64 ((n * 128 ^ i : Nat) : Int)) := by
  subst hz
  have h0 := ps_shl (P := P) (E := E) (H := H) (G := G) ho hx hy (by simp only [IntKind.bits];omega)
  have h1 : n * 128 ^ i ≤ 127 * 128 ^ i := Nat.mul_le_mul_right _ (by omega)
  have h2 := pow_le i (by omega)
  have e : (n : Int) * 2 ^ ((7 * i : Nat) : Int).toNat = ((n * 128 ^ i : Nat) : Int) := by
    rw [Int.toNat_natCast,pow7];push_cast;rfl
  have h3 : n * 128 ^ i ≤ 127 * 562949953421312 := Nat.le_trans h1 (Nat.mul_le_mul_left _ h2)
  rw [e,IntWalk.i64_in _ (by omega)] at h0
  exact h0
theorem ps_orS {x y : Operand} {t t' : TypeId} {m n i : Nat} (ho : o.op = .binOp .or t x y t') (hx : opd E x = some (.int .i64 (m : Int))) (hy : opd E y = some (.int .i64 ((n * 128 ^ i : Nat) : Int))) (hm : m < 128 ^ i) (hi : i ≤ 6) (hn : n < 128) : PStep P E H G o (.int .i64 ((m + n * 128 ^ i : Nat) : Int)) := by
  refine ps_int ho hx hy ?_
  have h1 : n * 128 ^ i ≤ 127 * 128 ^ i := Nat.mul_le_mul_right _ (by omega)
  have h2 := pow_le i (by omega)
  have h3 : n * 128 ^ i ≤ 127 * 562949953421312 := Nat.le_trans h1 (Nat.mul_le_mul_left _ h2)
  have e : m ||| n * 128 ^ i = m + n * 128 ^ i := by
    have := Nat.two_pow_add_eq_or_of_lt (i := 7 * i) (b := m) (by rw [← pow7];exact hm) n
    rw [← pow7,Nat.mul_comm] at this
    rw [Nat.or_comm,← this,Nat.add_comm]
  simp only [intOp]
  congr 2
  show IntKind.i64.wrap ((BitVec.ofInt 64 (m : Int) ||| BitVec.ofInt 64 ((n * 128 ^ i : Nat) : Int)).toNat : Int) = _
  rw [BitVec.toNat_or,ofInt_u64 m (by omega),ofInt_u64 (n * 128 ^ i) (by omega),e,IntWalk.i64_in _ (by omega)]
end
theorem sumL_snoc : ∀ (l : List UInt8) (b : UInt8),sumL (l ++ [b]) = sumL l + b.toNat % 128 * 128 ^ l.length
  | [],b => by simp [sumL]
  | a :: l,b => by
    have ih := sumL_snoc l b
    simp only [List.cons_append,sumL,ih,List.length_cons,Nat.pow_succ,Nat.add_mul,← Nat.mul_assoc]
    omega
theorem take_snoc {s : ByteArray} {i : Nat} (h : i < s.size) : (bl s).take (i + 1) = (bl s).take i ++ [(bl s).getD i 0] := by
  have h2 : i < (bl s).length := by rw [bl_len];exact h
  rw [List.take_add_one,List.getElem?_eq_getElem h2,List.getD_eq_getElem?_getD,List.getElem?_eq_getElem h2];rfl
def rvN (l : List UInt8) : Nat × Nat := (rv l).getD (0,0)
structure RvI (s : ByteArray) (i : Nat) : Prop where
  le : i ≤ 7
  ls : i ≤ s.size
  eq : rv (bl s) = (rvT (decide (0 < i)) (7 - i) ((bl s).drop i)).map (fun p => (p.1 * 128 ^ i + sumL ((bl s).take i),p.2 + i))
theorem RvI.zero (s : ByteArray) : RvI s 0 := ⟨by omega,by omega,by
  simp only [rv,Nat.lt_irrefl,decide_false,Nat.sub_zero,List.drop_zero,List.take_zero,sumL]
  cases rvT false 7 (bl s) <;> simp⟩
theorem RvI.step {s : ByteArray} {i : Nat} (h : RvI s i) (h7 : i < 7) (hs : i < s.size) (hb : 128 ≤ bt s i) : RvI s (i + 1) := by
  refine ⟨by omega,by omega,?_⟩
  rw [h.eq,bl_cons hs,show 7 - i = (7 - (i + 1)) + 1 by omega,rvT]
  have hb' : 128 ≤ ((bl s).getD i 0).toNat := hb
  rw [if_pos hb',take_snoc hs,sumL_snoc]
  have hl : ((bl s).take i).length = i := by rw [List.length_take,bl_len];omega
  rw [hl,show decide (0 < i + 1) = true by simp]
  cases rvT true (7 - (i + 1)) ((bl s).drop (i + 1)) with
  | none => rfl
  | some p =>
    simp only [Option.map_some,Option.some.injEq,Prod.mk.injEq]
    refine ⟨?_,by omega⟩
    rw [Nat.pow_succ,Nat.add_mul,Nat.mul_assoc,Nat.mul_comm 128 (128 ^ i)]
    omega
theorem RvI.none {s : ByteArray} {i : Nat} (h : RvI s i) (hx : i = 7 ∨ i = s.size) : rvN (bl s) = (0,0) := by
  unfold rvN
  rw [h.eq]
  have : rvT (decide (0 < i)) (7 - i) ((bl s).drop i) = Option.none := by
    rcases hx with rfl | rfl
    · rfl
    · rw [List.drop_of_length_le (by rw [bl_len];omega)]
      cases 7 - s.size <;> rfl
  rw [this];rfl
theorem RvI.bad {s : ByteArray} {i : Nat} (h : RvI s i) (h7 : i < 7) (hs : i < s.size) (hb : bt s i = 0) (h0 : 0 < i) : rvN (bl s) = (0,0) := by
  unfold rvN
  have hb' : ((bl s).getD i 0).toNat = 0 := hb
  rw [h.eq,bl_cons hs,show 7 - i = (7 - (i + 1)) + 1 by omega,rvT,if_neg (by omega),if_pos ⟨by simp [h0],hb'⟩];rfl
theorem RvI.good {s : ByteArray} {i : Nat} (h : RvI s i) (h7 : i < 7) (hs : i < s.size) (hb : bt s i < 128) (h0 : ¬ (bt s i = 0 ∧ 0 < i)) : rvN (bl s) = (sumL ((bl s).take i) + bt s i * 128 ^ i,i + 1) := by
  unfold rvN
  have hb' : ((bl s).getD i 0).toNat < 128 := hb
  have h0' : ¬ (((bl s).getD i 0).toNat = 0 ∧ 0 < i) := h0
  rw [h.eq,bl_cons hs,show 7 - i = (7 - (i + 1)) + 1 by omega,rvT,if_neg (by omega),if_neg (by simp only [decide_eq_true_eq];omega)]
  simp only [Option.map_some,Option.getD_some,bt]
  congr 1 <;> omega
theorem sEq_t {a b : ByteArray} (h : sEq a b = true) : a = b := tl_inj (by simpa [sEq] using h)
theorem sEq_f {a b : ByteArray} (h : sEq a b = false) : a ≠ b := fun e => by subst e;simp [sEq] at h
attribute [local irreducible] Calls
theorem i_ReadVar_c (s : ByteArray) (hs : s.size ≤ 4194304) (w : World) :
    Calls Tryz.prog 306 #[.string s] w fun e w' => e = .returned (.tuple #[.int .i64 (rvN (bl s)).1,.int .i64 (rvN (bl s)).2]) ∧ Below w.heap.size w w' := by
  refine ok_enter 42 Tryz.func306 rfl rfl rfl ?_
  repeat' (first|refine Wa ?_|refine Wb ?_|refine Wd ?_|(refine Zr 0 ?_;refine Za ?_;refine Za ?_;refine Ze1 0 ?_)|(refine Zr 1 ?_;refine Za ?_;refine Ze2 0 4 ?_)|(refine Zr 2 ?_;refine Za ?_;refine Ze3 0 4 5 ?_))
  refine ok_loop (ι := { i : Nat // RvI s i }) (fun i => 7 - i.1) (fun i => ([(0,.string s),(4,.int .i64 (sumL ((bl s).take i.1))),(5,.int .i64 i.1)],_,_)) ⟨0,RvI.zero s⟩ (fun a w he hw => ⟨⟨0,RvI.zero s⟩,he.sub ⟨rfl,rfl,rfl,trivial⟩,hw⟩) ?_
  rintro ⟨i,hi⟩
  simp only
  have l1 := hi.le
  have l2 := hi.ls
  have l3 := bt_lt s i
  have l4 : sumL ((bl s).take i) < 128 ^ i := by
    have := sumL_lt ((bl s).take i)
    rwa [show ((bl s).take i).length = i by rw [List.length_take,bl_len];omega] at this
  repeat' (first|refine Wa ?_|refine Wb ?_|refine Wc ?_|refine ok_then_exit ?_|refine Wd ?_|refine Wf ?_|refine ok_in_exit ?_|(refine ok_cond rfl (fun hc => ?_) (fun hc => ?_) <;> (have hd := hc;try simp only [jj] at hd))|refine Wg ?_|refine Wh ?_|refine Wi ?_|(refine Zr 3 ?_;refine Zm ?_;refine Zi ?_;refine Zm ?_;refine Zg rfl rfl rfl (gT _) (fun hp => by exact ps_move rfl rfl) ?_;refine Zg rfl rfl rfl (gT _) (fun hp => by exact ps_move rfl rfl) ?_;refine Zg rfl rfl rfl (gT _) (fun hp => by (exact ps_slen rfl (Og rfl))) ?_;refine Zg rfl rfl rfl (gT _) (fun hp => by (exact ps_int rfl (Og rfl) (Og rfl) rfl)) ?_;refine Zq (ps_and rfl rfl rfl) ?_;refine Ze4 0 4 5 13 ?_)|(refine Zr 4 ?_;refine Zm ?_;refine Zq (by exact ps_add rfl rfl rfl (by omega)) ?_;refine Za ?_;refine Ze3 0 4 5 ?_)|(refine Zr 5 ?_;refine Zm ?_;refine Zm ?_;refine Zm ?_;refine Zq (by exact ps_sidxE i rfl rfl rfl rfl (by omega)) ?_;refine Zq (by exact ps_and127 rfl rfl rfl l3) ?_;refine Zq (by exact ps_conv_id rfl rfl (IntWalk.i64_in _ (by omega))) ?_;refine Zm ?_;refine Zq (by exact ps_mul rfl rfl rfl (by omega)) ?_;refine Zq (by exact ps_conv_id rfl rfl (IntWalk.u64_in _ (by omega))) ?_;refine Zq (by exact ps_shl7 (i := i) rfl rfl rfl (by push_cast;rfl) (by omega) (by omega)) ?_;refine Zq (by exact ps_orS rfl rfl rfl l4 (by omega) (by omega)) ?_;refine Za ?_;refine Ze3 0 4 5 ?_)|(refine Zr 6 ?_;refine Zm ?_;refine Zm ?_;refine Zq (by exact ps_sidxE i rfl rfl rfl rfl (by omega)) ?_;refine Zi ?_;refine Ze4 0 4 5 30 ?_)|(refine Zr 7 ?_;refine Zm ?_;refine Zm ?_;refine Zq (by exact ps_sidxE i rfl rfl rfl rfl (by omega)) ?_;refine Zi ?_;refine Zm ?_;refine Zg rfl rfl rfl (gT _) (fun hp => by exact ps_move rfl rfl) ?_;refine Zg rfl rfl rfl (gT _) (fun hp => by (exact ps_int rfl (Og rfl) rfl rfl)) ?_;refine Zq (ps_and rfl rfl rfl) ?_;refine Ze3 4 5 38 ?_)|(refine Zr 8 ?_;refine Za ?_;refine Za ?_;refine Ze2 2 3 ?_)|(refine Zr 9 ?_;refine Zm ?_;refine Zm ?_;refine Zq (by exact ps_add rfl rfl rfl (by omega)) ?_;refine Za ?_;refine Za ?_;refine Ze2 2 3 ?_)|(refine Zr 10 ?_;refine Za ?_;refine Za ?_;refine Ze2 2 3 ?_))
  · have st := hi.step (by omega) (by omega) (by omega)
    refine fun a w' he hw => ⟨⟨i + 1,st⟩,by simp only;omega,he.sub ⟨rfl,?_,rfl,trivial⟩,hw⟩
    have hb : ((bl s).getD i 0).toNat % 128 = bt s i % 128 := rfl
    have hl : ((bl s).take i).length = i := by rw [List.length_take,bl_len];omega
    simp only [take_snoc (show i < s.size by omega),sumL_snoc,hb,hl];rfl
  · have e := hi.bad (by omega) (by omega) (by omega) (by omega)
    refine ok_endL (vs := [_,_]) rfl ⟨rfl,rfl,trivial⟩ (fun w' hw => ⟨?_,hw.below⟩)
    rw [e];rfl
  · have e := hi.good (by omega) (by omega) (by omega) (by omega)
    refine ok_endL (vs := [_,_]) rfl ⟨rfl,rfl,trivial⟩ (fun w' hw => ⟨?_,hw.below⟩)
    rw [e,show bt s i % 128 = bt s i by omega];rfl
  · have e := hi.none (by omega)
    refine ok_endL (vs := [_,_]) rfl ⟨rfl,rfl,trivial⟩ (fun w' hw => ⟨?_,hw.below⟩)
    rw [e];rfl
theorem str_eq (n k : Nat) (s : ByteArray) : (vS n = s.extract 0 k) ↔ varL n = (bl s).take k := by
  constructor
  · intro h
    have := congrArg bl h
    rw [bl_extract,List.drop_zero] at this
    exact this
  · intro h
    apply bl_ext
    rw [bl_extract,List.drop_zero]
    exact h
theorem sumL_step {s : ByteArray} {j k : Nat} (hj : j < k) (hk : k ≤ s.size) : sumL (((bl s).take k).drop j) = sumL (((bl s).take k).drop (j + 1)) * 128 + bt s j % 128 := by
  have hl : ((bl s).take k).length = k := by rw [List.length_take,bl_len];omega
  rw [List.drop_eq_getElem_cons (by omega),sumL]
  congr 2
  rw [List.getElem_take]
  unfold bt
  rw [List.getD_eq_getElem?_getD,List.getElem?_eq_getElem (by rw [bl_len];omega)];rfl
theorem rvS_no {l : List UInt8} {f k : Nat} (h : l.length < k) : rvS l f k = none := by
  cases f with
  | zero => rfl
  | succ f => unfold rvS;rw [if_neg (by omega)]
theorem s_ReadVar_c (s : ByteArray) (hs : s.size ≤ 4194304) (w : World) :
    Calls Tryz.prog 188 #[.string s] w fun e w' => e = .returned (.tuple #[.int .i64 (rvN (bl s)).1,.int .i64 (rvN (bl s)).2]) ∧ Below w.heap.size w w' := by
  have l0 := bl_len s
  refine ok_enter 39 Tryz.func188 rfl rfl rfl ?_
  repeat' (first|refine Wa ?_|refine Wb ?_|refine Wd ?_|(refine Zr 0 ?_;refine Za ?_;refine Za ?_;refine Ze1 0 ?_)|(refine Zr 1 ?_;refine Za ?_;refine Ze2 0 4 ?_))
  refine ok_loop (ι := { k : Nat // 1 ≤ k ∧ k ≤ 8 ∧ rvS (bl s) (8 - k) k = rv (bl s) }) (fun k => 8 - k.1) (fun k => ([(0,.string s),(4,.int .i64 k.1)],_,_)) ⟨1,by omega,by omega,rvS_rv _⟩ (fun a w he hw => ⟨⟨1,by omega,by omega,rvS_rv _⟩,he.sub ⟨rfl,rfl,trivial⟩,hw⟩) ?_
  rintro ⟨k,hk1,hk8,hr⟩
  simp only at hk1 hk8 hr ⊢
  have HR := Lib.hid hr;clear hr
  repeat' (first|refine Wa ?_|refine Wb ?_|refine Wd ?_|(refine ok_cond rfl (fun hc => ?_) (fun hc => ?_) <;> (have hd := hc;try simp only [jj] at hd))|refine Wg ?_|refine Wh ?_|refine Wi ?_|(refine Zr 2 ?_;refine Zm ?_;refine Zi ?_;refine Zm ?_;refine Zg rfl rfl rfl (gT _) (fun hp => by exact ps_move rfl rfl) ?_;refine Zg rfl rfl rfl (gT _) (fun hp => by exact ps_move rfl rfl) ?_;refine Zg rfl rfl rfl (gT _) (fun hp => by (exact ps_slen rfl (Og rfl))) ?_;refine Zg rfl rfl rfl (gT _) (fun hp => by (exact ps_int rfl (Og rfl) (Og rfl) rfl)) ?_;refine Zq (ps_and rfl rfl rfl) ?_;refine Ze3 0 4 14 ?_)|(refine Zr 4 ?_;refine Za ?_;refine Ze3 0 4 5 ?_)|(refine Zr 5 ?_;refine Zm ?_;refine Zq (by exact ps_sub rfl rfl rfl (by omega)) ?_;refine Za ?_;refine Ze4 0 4 5 6 ?_)|(refine Zr 11 ?_;refine Za ?_;refine Za ?_;refine Ze2 2 3 ?_))
  · have hl : ((bl s).take k).length = k := by rw [List.length_take,l0];omega
    refine ok_loop (ι := { j : Nat // j ≤ k }) (fun j => j.1) (fun j => ([(0,.string s),(4,.int .i64 k),(5,.int .i64 (sumL (((bl s).take k).drop j.1))),(6,.int .i64 ((j.1 : Int) - 1))],_,_)) ⟨k,by omega⟩ (fun a w he hw => ⟨⟨k,by omega⟩,he.sub ⟨rfl,rfl,?_,rfl,trivial⟩,hw⟩) ?_
    · simp only [show ((bl s).take k).drop k = [] from List.drop_of_length_le (by omega)];rfl
    rintro ⟨j,hj⟩
    simp only at hj ⊢
    have b1 := bt_lt s (j - 1)
    have b2 := sumL_small (((bl s).take k).drop j) (by rw [List.length_drop];omega)
    have b3 := sumL_small ((bl s).take k) (by omega)
    repeat' (first|refine Wa ?_|refine Wb ?_|refine Wd ?_|refine We ?_|(refine ok_cond rfl (fun hc => ?_) (fun hc => ?_) <;> (have hd := hc;try simp only [jj] at hd))|refine Wh ?_|refine Wi ?_|(refine Zr 6 ?_;refine Zm ?_;refine Zi ?_;refine Ze5 0 4 5 6 20 ?_)|(refine Zr 7 ?_;refine Zm ?_;refine Zq (by exact ps_sub rfl rfl rfl (by omega)) ?_;refine Za ?_;refine Ze4 0 4 5 6 ?_)|(refine Zr 8 ?_;refine Zm ?_;refine Zq (by exact ps_mul rfl rfl rfl (by omega)) ?_;refine Zm ?_;refine Zm ?_;refine Zq (by exact ps_sidxE (j - 1) rfl rfl rfl (by omega) (by omega)) ?_;refine Zq (by exact ps_conv_id rfl rfl (IntWalk.i64_in _ (by omega))) ?_;refine Zq (by exact ps_rem rfl rfl rfl (by omega) (by omega)) ?_;refine Zq (by exact ps_add rfl rfl rfl (by omega)) ?_;refine Za ?_;refine Ze4 0 4 5 6 ?_))
    · have e := sumL_step (s := s) (j := j - 1) (k := k) (by omega) (by omega)
      rw [show j - 1 + 1 = j by omega] at e
      refine fun a w' he hw => ⟨⟨j - 1,by omega⟩,by simp only;omega,he.sub ⟨rfl,rfl,?_,?_,trivial⟩,hw⟩
      · simp only [e];rfl
      · simp only [show (((j - 1 : Nat) : Int)) = (j : Int) - 1 by omega];rfl
    obtain rfl : j = 0 := by omega
    rw [List.drop_zero]
    repeat' (first|refine Wa ?_|refine Wb ?_|refine Wc ?_|refine We ?_|refine Wf ?_|(refine ok_cond rfl (fun hc => ?_) (fun hc => ?_) <;> (have hd := hc;try simp only [jj] at hd))|refine Wg ?_|refine Wi ?_|(refine Zr 3 ?_;refine Zm ?_;refine Zq (by exact ps_add rfl rfl rfl (by omega)) ?_;refine Za ?_;refine Ze2 0 4 ?_)|(refine Xd 9 6 ?_;refine Xm 0 ?_;refine Xm 2 ?_;refine Xm 3 ?_;refine Xt 4 rfl (by exact ps_sslice rfl rfl rfl ⟨_,rfl⟩ (by omega) (by omega)) ?_;refine Xo 1 rfl (by exact ms_s1 rfl rfl (fun _ _ w hw => xs_Var_v _ (by omega) w)) (fun y w _ h => by exact h) ?_;rintro y32 hy32;refine Xt 5 rfl (ps_str rfl rfl rfl rfl) ?_;refine okT_done (by kernel_rfl) ?_;refine Ze4 0 4 5 36 ?_)|(refine Zr 10 ?_;refine Zm ?_;refine Zm ?_;refine Za ?_;refine Za ?_;refine Ze2 2 3 ?_))
    · have hg := (str_eq _ _ _).1 (sEq_t hd)
      have e : rvN (bl s) = (sumL ((bl s).take k),k) := by
        unfold rvN
        rw [← HR.out,show 8 - k = (8 - (k + 1)) + 1 by omega,rvS,if_pos (by omega),if_pos hg];rfl
      refine ok_endL (vs := [_,_]) rfl ⟨rfl,rfl,trivial⟩ (fun w' hw => ⟨?_,hw.below⟩)
      rw [e];rfl
    · have hg : ¬ varL (sumL ((bl s).take k)) = (bl s).take k := fun h => by
        have := sEq_f hd
        exact this ((str_eq _ _ _).2 h)
      have e : rvS (bl s) (8 - (k + 1)) (k + 1) = rv (bl s) := by
        rw [← HR.out,show 8 - k = (8 - (k + 1)) + 1 by omega,rvS,if_pos (by omega),if_neg hg]
      exact fun a w' he hw => ⟨⟨k + 1,by omega,by omega,e⟩,by simp only;omega,he.sub ⟨rfl,rfl,trivial⟩,hw⟩
  · have e : rv (bl s) = none := by
      rw [← HR.out]
      rcases Nat.lt_or_ge (bl s).length k with h | h
      · exact rvS_no h
      · have : k = 8 := by omega
        subst this;rfl
    have e2 : rvN (bl s) = (0,0) := by unfold rvN;rw [e];rfl
    refine ok_endL (vs := [_,_]) rfl ⟨rfl,rfl,trivial⟩ (fun w' hw => ⟨?_,hw.below⟩)
    rw [e2];rfl
end Go.Proofs.YtmfojbidojjciaaGreat
