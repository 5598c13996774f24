/- Texts of this claim, one behind the other: StT, Eng12, Eng13, ElKV, Ins, InsEnt, StU, ElOp, PackP, UpP, Pack, Pack2, Pack3, Upk, StB, VisP, BtWalk, Wok, WkP, BfAccount, AccP, StV, StW, ElSTen, StX, DrE, Non, StS, TkP. -/
import Derived.Test.YtmfojbidojjciaaGreatPrAccounts1
import Derived.Test.YtmfojbidojjciaaGreatPrAccounts3
import Derived.Test.YtmfojbidojjciaaGreatPrAccounts2
import Derived.Laws.IdiomStrings
import Derived.Lib.AppendStr
import Derived.Lib.AppendZerosOnto
import Derived.Lib.Overlaps
set_option linter.unusedVariables false
set_option linter.unusedSimpArgs false
set_option maxRecDepth 20000
set_option maxHeartbeats 4000000
namespace Go.Proofs.YtmfojbidojjciaaGreat
open Go.RowKit
attribute [local irreducible] Calls
structure PutI (l : List Ent) (x : Ent) where
  k : Nat
  put : Bool
  L : List Ent
  A : Option Addr
  c : Nat
  hk : k ≤ l.length ∧ L.length ≤ k + put.toNat
  hp : insE l x = L ++ (if put = true then l.drop k else insE (l.drop k) x)
theorem put_a {l : List Ent} {x : Ent} {k : Nat} {L : List Ent} (hk : k < l.length) (hp : insE l x = L ++ insE (l.drop k) x) (ha : aheadE x (nth l k) = true) : insE l x = (L ++ [x] ++ [nth l k]) ++ l.drop (k + 1) := by
  have e : l.drop k = nth l k :: l.drop (k + 1) := by rw [List.drop_eq_getElem_cons hk];congr 1;simp [nth,hk]
  rw [hp,e,insE,if_pos ha];simp
theorem put_b {l : List Ent} {x : Ent} {k : Nat} {L : List Ent} (hk : k < l.length) (hp : insE l x = L ++ insE (l.drop k) x) (ha : aheadE x (nth l k) = false) : insE l x = (L ++ [nth l k]) ++ insE (l.drop (k + 1)) x := by
  have e : l.drop k = nth l k :: l.drop (k + 1) := by rw [List.drop_eq_getElem_cons hk];congr 1;simp [nth,hk]
  rw [hp,e,insE,if_neg (by rw [ha];decide)];simp
theorem put_c {l : List Ent} {x : Ent} {k : Nat} {L : List Ent} (hk : k < l.length) (hp : insE l x = L ++ l.drop k) : insE l x = (L ++ [nth l k]) ++ l.drop (k + 1) := by
  have e : l.drop k = nth l k :: l.drop (k + 1) := by rw [List.drop_eq_getElem_cons hk];congr 1;simp [nth,hk]
  rw [hp,e];simp
theorem s_l9Put (A : Option Addr) (c : Nat) (l : List Ent) (x : Ent) (w : World) (h : Rd w A (fl l)) (hl : l.length ≤ 4194304) :
    Calls Tryz.prog 202 #[.slice A l.length c,.agg (Dat.cells x).toArray] w fun e w' => ∃ y : Ys,e = .returned (.slice (y 0).A (insE l x).length (y 0).c) ∧ True ∧ Below w.heap.size w w' ∧ NewOk w.heap.size [.row 204 4 (y 0).A (insE l x).length (y 0).c (fl (insE l x))] [] w' := by
  refine ok_enter 43 Tryz.func202 rfl rfl rfl ?_
  repeat' (first|refine Wa ?_|refine Wb ?_|refine Wd ?_|(refine Zr 0 ?_;refine Zn (ms_box rfl rfl rfl) ?_;rintro y3 hy3;refine Za ?_;refine Ze2 0 3 ?_)|(refine Zr 1 ?_;refine Zn (by exact ms_lit rfl parts_nil rfl rfl rfl) ?_;rintro y8 hy8;refine Za ?_;refine Ze3 0 3 5 ?_)|(refine Zr 2 ?_;refine Za ?_;refine Ze4 0 3 5 6 ?_)|(refine Zr 3 ?_;refine Za ?_;refine Ze5 0 3 5 6 7 ?_))
  refine ok_loop (ι := PutI l x) (fun q => l.length - q.k) (fun q => ([(0,.slice A l.length c),(3,pt (ga (y3 0).c) 0),(5,.slice q.A q.L.length q.c),(6,.bool q.put),(7,.int .i64 q.k)],[.row 204 4 q.A q.L.length q.c (fl q.L),.box (y3 0).c 204 (Dat.cells x)],_)) ⟨0,false,[],ga (y8 0).c,0,by simp,rfl⟩ (fun a' w he hw => ⟨⟨0,false,[],ga (y8 0).c,0,by simp,rfl⟩,he.sub ⟨rfl,rfl,rfl,rfl,rfl,trivial⟩,hw⟩) ?_
  rintro ⟨k,put,L,B,d,hk,hp⟩
  simp only at hk hp ⊢
  have HP := Lib.hid hp;clear hp
  have hpt : put.toNat ≤ 1 := by cases put <;> decide
  repeat' (first|refine Wa ?_|refine Wb ?_|refine Wd ?_|refine We ?_|(refine ok_cond rfl (fun hc => ?_) (fun hc => ?_) <;> (have hd := hc;try simp only [jj] at hd))|refine Wg ?_|refine Wh ?_|refine Wi ?_|(refine Zr 4 ?_;refine Zm ?_;refine Zm ?_;refine Zq (ps_len rfl rfl) ?_;refine Zi ?_;refine Ze6 0 3 5 6 7 12 ?_)|(refine Zr 5 ?_;refine Zm ?_;refine Zq (by exact ps_add rfl rfl rfl (by omega)) ?_;refine Za ?_;refine Ze5 0 3 5 6 7 ?_)|(refine Xd 6 10 ?_;refine Xm 0 ?_;refine Xt 1 rfl (ps_not rfl rfl) ?_;refine Xm 2 ?_;refine Xg 3 rfl rfl rfl rfl (gT _) (fun hp => by exact ps_loads rfl rfl (by exact rds_box 1 rfl) rfl rfl (by decide)) ?_;refine Xg 4 rfl rfl rfl rfl (gT _) (fun hp => by exact ps_move rfl rfl) ?_;refine Xg 5 rfl rfl rfl rfl (gT _) (fun hp => by exact ps_move rfl rfl) ?_;refine Xg 6 rfl rfl rfl rfl (gT _) (fun hp => by (have hpd := hp;(try simp only [jj] at hpd);exact ps_indexN rfl (Og rfl) (Og rfl) (by omega) (by exact isw_of (isS_fl (by assumption) (by omega))))) ?_;refine Xg 7 rfl rfl rfl rfl (gT _) (fun hp => by (have hpd := hp;(try simp only [jj] at hpd);exact ps_loadsF rfl (Og rfl) (by exact rds_rf (by assumption) List.mem_cons_self) (by rfl) (by rfl) (by omega) rfl)) ?_;refine okT_one_g1 (i := 8) rfl rfl (by kernel_rfl) rfl rfl rfl rfl rfl (gT _) (fun hp => by (exact ms_s2 rfl (Og rfl) (Og rfl) (fun _ _ w hw => ahead_c _ _ w))) (fun w h => by exact h) ?_;refine Xt 9 rfl (ps_and rfl rfl rfl) ?_;refine okT_done (by kernel_rfl) ?_;refine Ze6 0 3 5 6 7 24 ?_)|(refine Zr 7 ?_;refine Zm ?_;refine Zq (by exact ps_loads rfl rfl (by exact rds_box 1 rfl) rfl rfl (by decide)) ?_;refine Zn (by exact ms_lit rfl (parts_cons rfl parts_nil) rfl rfl rfl) ?_;rintro y27 hy27;refine Zn (by exact ms_appF (α := Ent) (L := L) (M := [x]) 1 rfl rfl rfl rfl (rds_row 0 rfl) rfl (by simp;omega) (by simp;omega)) ?_;rintro y28 hy28;refine Za ?_;refine Ze4 0 3 5 7 ?_)|(refine Zr 8 ?_;refine Za ?_;refine Ze5 0 3 5 6 7 ?_)|(refine Zr 9 ?_;refine Zm ?_;refine Zm ?_;refine Zm ?_;refine Zq (by exact ps_indexN rfl rfl rfl (by omega) (by exact isw_of (isS_fl (by assumption) (by omega)))) ?_;refine Zq (by exact ps_loadsF rfl rfl (by exact rds_rf (by assumption) List.mem_cons_self) (by rfl) (by rfl) (by omega) rfl) ?_;refine Zn (by exact ms_lit rfl (parts_cons rfl parts_nil) rfl rfl rfl) ?_;rintro y34 hy34;refine Zn (by first | exact ms_appN (L ++ [x]) [nth l k] 2 rfl rfl rfl rfl (rds_row 0 rfl) rfl (by simp) rfl (by simp;omega) (by simp;omega) | exact ms_appF (α := Ent) (L := L) (M := [nth l k]) 1 rfl rfl rfl rfl (rds_row 0 rfl) rfl (by simp;omega) (by simp;omega)) ?_;rintro y35 hy35;refine Za ?_;refine Ze5 0 3 5 6 7 ?_)|(refine Zr 10 ?_;refine Zm ?_;refine Zq (ps_not rfl rfl) ?_;refine Ze3 3 5 37 ?_)|(refine Zr 11 ?_;refine Zm ?_;refine Zq (by exact ps_loads rfl rfl (by exact rds_box 1 rfl) rfl rfl (by decide)) ?_;refine Zn (by exact ms_lit rfl (parts_cons rfl parts_nil) rfl rfl rfl) ?_;rintro y40 hy40;refine Zn (by exact ms_appF (α := Ent) (L := L) (M := [x]) 1 rfl rfl rfl rfl (rds_row 0 rfl) rfl (by simp;omega) (by simp;omega)) ?_;rintro y41 hy41;refine Za ?_;refine Ze1 5 ?_)|(refine Zr 12 ?_;refine Zm ?_;refine Za ?_;refine Ze1 4 ?_))
  · have hp := HP.out
    have hpz : put.toNat = 0 := by rw [hd.1];rfl
    rw [hd.1] at hp
    refine fun a' w' he hw => ⟨⟨k + 1,true,L ++ [x] ++ [nth l k],(y35 0).A,(y35 0).c,by simp only [List.length_append,List.length_singleton,Bool.toNat_true];omega,put_a (by omega) hp hd.2⟩,by simp only;omega,he.sub ⟨rfl,rfl,by simp only [List.length_append];rfl,rfl,rfl,trivial⟩,?_⟩
    simp only [List.length_append]
    exact hw.tl.tl
  · refine fun a' w' he hw => ⟨⟨k + 1,put,L ++ [nth l k],(y35 0).A,(y35 0).c,by simp only [List.length_append,List.length_singleton];omega,?_⟩,by simp only;omega,he.sub ⟨rfl,rfl,by simp only [List.length_append];rfl,rfl,rfl,trivial⟩,by simp only [List.length_append];exact hw.tl⟩
    have hp := HP.out
    cases put with
    | true => exact put_c (by omega) hp
    | false =>
      rcases hd with hd | hd
      · cases hd
      · exact put_b (by omega) hp hd
  · have hq := hd
    clear hd
    obtain rfl : k = l.length := by omega
    have hp := HP.out
    rw [hq,if_neg (by decide),List.drop_length] at hp
    have e : insE l x = L ++ [x] := hp
    rw [e]
    refine ok_endL (vs := [_]) rfl ⟨rfl,trivial⟩ (fun w' hw => ⟨mkY (y41 0).A (y41 0).c w',by rw [List.length_append];rfl,trivial,hw.below,?_⟩)
    rw [List.length_append]
    exact NewOk.of (hw.sel [1] (by decide) rfl (G' := []) (fun _ h => by cases h))
  · have hq := hd
    clear hd
    obtain rfl : k = l.length := by omega
    have hp := HP.out
    rw [hq,if_pos rfl,List.drop_length,List.append_nil] at hp
    rw [hp]
    exact ok_endL (vs := [_]) rfl ⟨rfl,trivial⟩ (fun w' hw => ⟨mkY B d w',rfl,trivial,hw.below,NewOk.of (hw.sel [0] (by decide) rfl (G' := []) (fun _ h => by cases h))⟩)
structure CpE (R : List LE) where
  S : List LE
  A : Option Addr
  c : Nat
  hs : S.length ≤ R.length
  hd : dats S = (dats R).take S.length
theorem CpE.snoc {R S : List LE} (hs : S.length < R.length) (hd : dats S = (dats R).take S.length) (A : Option Addr) (c : Nat) : dats (S ++ [⟨(nth R S.length).d,A,c⟩]) = (dats R).take (S ++ [(⟨(nth R S.length).d,A,c⟩ : LE)]).length := by
  have h' : S.length < (dats R).length := by rw [dats_len];exact hs
  rw [dats_snoc,hd,List.length_append,List.length_singleton,List.take_succ_eq_append_getElem h']
  congr 2
  simp [dats,nthL R S.length hs]
def cpY (mA : Option Addr) (mc : Nat) (tA : Option Addr) (tc : Nat) (sA : Option Addr) (sc : Nat) (S : List LE) (w : World) : Ys := mkR [⟨mA,mc,w,0⟩,⟨tA,tc,w,0⟩,⟨sA,sc,w,0⟩] S w
theorem cpY_loc (mA : Option Addr) (mc : Nat) (tA : Option Addr) (tc : Nat) (sA : Option Addr) (sc : Nat) (S : List LE) (w : World) : locs 3 (dats S) (cpY mA mc tA tc sA sc S w) = S := locs_mkR [⟨mA,mc,w,0⟩,⟨tA,tc,w,0⟩,⟨sA,sc,w,0⟩] S w 3 rfl
theorem s_l20Copy0 (mA : Option Addr) (mc : Nat) (mem : List Ent) (tA : Option Addr) (tc : Nat) (R : List LE) (seq : Int) (sA : Option Addr) (sc : Nat) (sn : List Int) (w : World) (h1 : Rd w mA (fl mem)) (h2 : RdN w tA R) (h3 : Rd w sA (fl sn)) (hl1 : mem.length ≤ 4194304) (hl2 : R.length ≤ 4194304) (hs : ∀ x ∈ dats R,x.length ≤ 4194304) (hl3 : sn.length ≤ 4194304) :
    Calls Tryz.prog 128 #[.agg #[.slice mA mem.length mc,.slice tA R.length tc,.int .i64 seq,.slice sA sn.length sc]] w fun e w' => ∃ y : Ys,e = .returned (.agg #[.slice (y 0).A mem.length (y 0).c,.slice (y 1).A R.length (y 1).c,.int .i64 seq,.slice (y 2).A sn.length (y 2).c]) ∧ True ∧ Below w.heap.size w w' ∧ NewOk w.heap.size [.row 204 4 (y 0).A mem.length (y 0).c (fl mem),.row 85 1 (y 1).A R.length (y 1).c (fl (locs 3 (dats R) y)),.bag 204 4 (rowsOf (locs 3 (dats R) y)),.row 3 1 (y 2).A sn.length (y 2).c (fl sn)] [] w' := by
  obtain ⟨q1,q2⟩ := h2
  have q2 : ∀ k,k < R.length → Rd w (nth R k).A (fl (nth R k).d) := q2
  have Q2 := Lib.hid q2;clear q2
  have HL := Lib.hid (lens_at hs);clear hs
  refine ok_enter 36 Tryz.func128 rfl rfl rfl ?_
  repeat' (first|refine Wa ?_|refine Wb ?_|refine Wd ?_|(refine Zr 0 ?_;refine Zn (ms_box rfl rfl rfl) ?_;rintro y1 hy1;refine Zn (ms_alloc rfl) ?_;rintro y2 hy2;refine Ze2 1 2 ?_)|(apply mrg5;(focus (intro hk;refine Xd 1 12 ?_;refine Xf 1 ?_;refine Xl 2 1 ?_;refine Xf 4 ?_;refine Xl 5 1 ?_;refine Xf 7 ?_;refine Xl 8 1 ?_;refine okT_many (by kernel_rfl) (all_cons (at_m (i := 0) rfl rfl rfl rfl rfl (by exact ms_lit rfl parts_nil rfl rfl rfl) (fun y w _ h => by exact h.tl) ?_) (all_cons (at_m (i := 6) rfl rfl rfl rfl rfl (by exact ms_lit rfl parts_nil rfl rfl rfl) (fun y w _ h => by exact h.tl) ?_) (all_cons (at_m (i := 11) rfl rfl rfl rfl rfl (ms_alloc rfl) (fun y w _ h => by exact h.tl) ?_) all_nil)));(focus (rintro y5 hy5;refine okT_many (by kernel_rfl) (all_cons (at_m (i := 3) rfl rfl rfl rfl rfl (by exact ms_app0 (M := mem) 0 rfl rfl rfl rfl (rds_rf h1 List.mem_cons_self) rfl (by omega) (by omega)) (fun y w _ h => by exact h.tl) ?_) (all_cons (at_m (i := 6) rfl rfl rfl rfl rfl (by exact ms_lit rfl parts_nil rfl rfl rfl) (fun y w _ h => by exact h.tl.tl) ?_) (all_cons (at_m (i := 11) rfl rfl rfl rfl rfl (ms_alloc rfl) (fun y w _ h => by exact h.tl.tl) ?_) all_nil)));(focus (rintro y8 hy8;refine okT_many (by kernel_rfl) (all_cons (at_m (i := 6) rfl rfl rfl rfl rfl (by exact ms_lit rfl parts_nil rfl rfl rfl) (fun y w _ h => by exact h.tl.tl) ?_) (all_cons (at_m (i := 11) rfl rfl rfl rfl rfl (ms_alloc rfl) (fun y w _ h => by exact h.tl.tl) ?_) all_nil));(focus (rintro y11 hy11;refine okT_many (by kernel_rfl) (all_cons (at_m (i := 9) rfl rfl rfl rfl rfl (by exact ms_app0 (M := sn) 0 rfl rfl rfl rfl (rds_rf h3 List.mem_cons_self) rfl (by omega) (by omega)) (fun y w _ h => by exact h.tl.tl) ?_) (all_cons (at_m (i := 11) rfl rfl rfl rfl rfl (ms_alloc rfl) (fun y w _ h => by exact h.tl.tl.tl) ?_) all_nil));(focus (rintro y14 hy14;refine Xt 10 rfl (by exact ps_bld rfl (parts_cons rfl (parts_cons rfl (parts_cons rfl parts_nil))) rfl) ?_;refine Xo 11 rfl (ms_alloc rfl) (fun y w _ h => by exact h.tl.tl.tl) ?_;rintro y3 hy3;refine okT_done (by kernel_rfl) ?_;refine Zo (ms_store 0 rfl rfl rfl rfl rfl rfl rfl rfl) ?_;rintro y_ hy_;refine Ze3 1 2 3 ?_;exact hk y5 y8 y11 y14 y3));(focus (rintro y3 hy3;refine Xo 9 rfl (by exact ms_app0 (M := sn) 1 rfl rfl rfl rfl (rds_rf h3 List.mem_cons_self) rfl (by omega) (by omega)) (fun y w _ h => by exact h.tl.tl.tl) ?_;rintro y14 hy14;refine Xt 10 rfl (by exact ps_bld rfl (parts_cons rfl (parts_cons rfl (parts_cons rfl parts_nil))) rfl) ?_;refine okT_done (by kernel_rfl) ?_;refine Zo (ms_store 0 rfl rfl rfl rfl rfl rfl rfl rfl) ?_;rintro y_ hy_;refine Ze3 1 2 3 ?_;exact hk y5 y8 y11 y14 y3))));(focus (rintro y3 hy3;refine Xo 6 rfl (by exact ms_lit rfl parts_nil rfl rfl rfl) (fun y w _ h => by exact h.tl.tl.tl) ?_;rintro y11 hy11;refine Xo 9 rfl (by exact ms_app0 (M := sn) 0 rfl rfl rfl rfl (rds_rf h3 List.mem_cons_self) rfl (by omega) (by omega)) (fun y w _ h => by exact h.tl.tl.tl) ?_;rintro y14 hy14;refine Xt 10 rfl (by exact ps_bld rfl (parts_cons rfl (parts_cons rfl (parts_cons rfl parts_nil))) rfl) ?_;refine okT_done (by kernel_rfl) ?_;refine Zo (ms_store 1 rfl rfl rfl rfl rfl rfl rfl rfl) ?_;rintro y_ hy_;refine Ze3 1 2 3 ?_;exact ok_sel [1,0,2,3,4,5,6,7,8,9,10,11,12] (by decide) rfl (hk y5 y8 y11 y14 y3)))));(focus (rintro y11 hy11;refine okT_many (by kernel_rfl) (all_cons (at_m (i := 3) rfl rfl rfl rfl rfl (by exact ms_app0 (M := mem) 1 rfl rfl rfl rfl (rds_rf h1 List.mem_cons_self) rfl (by omega) (by omega)) (fun y w _ h => by exact h.tl.tl) ?_) (all_cons (at_m (i := 11) rfl rfl rfl rfl rfl (ms_alloc rfl) (fun y w _ h => by exact h.tl.tl.tl) ?_) all_nil));(focus (rintro y8 hy8;refine okT_many (by kernel_rfl) (all_cons (at_m (i := 9) rfl rfl rfl rfl rfl (by exact ms_app0 (M := sn) 0 rfl rfl rfl rfl (rds_rf h3 List.mem_cons_self) rfl (by omega) (by omega)) (fun y w _ h => by exact h.tl.tl) ?_) (all_cons (at_m (i := 11) rfl rfl rfl rfl rfl (ms_alloc rfl) (fun y w _ h => by exact h.tl.tl.tl) ?_) all_nil));(focus (rintro y14 hy14;refine Xt 10 rfl (by exact ps_bld rfl (parts_cons rfl (parts_cons rfl (parts_cons rfl parts_nil))) rfl) ?_;refine Xo 11 rfl (ms_alloc rfl) (fun y w _ h => by exact h.tl.tl.tl) ?_;rintro y3 hy3;refine okT_done (by kernel_rfl) ?_;refine Zo (ms_store 0 rfl rfl rfl rfl rfl rfl rfl rfl) ?_;rintro y_ hy_;refine Ze3 1 2 3 ?_;exact hk y5 y8 y11 y14 y3));(focus (rintro y3 hy3;refine Xo 9 rfl (by exact ms_app0 (M := sn) 1 rfl rfl rfl rfl (rds_rf h3 List.mem_cons_self) rfl (by omega) (by omega)) (fun y w _ h => by exact h.tl.tl.tl) ?_;rintro y14 hy14;refine Xt 10 rfl (by exact ps_bld rfl (parts_cons rfl (parts_cons rfl (parts_cons rfl parts_nil))) rfl) ?_;refine okT_done (by kernel_rfl) ?_;refine Zo (ms_store 0 rfl rfl rfl rfl rfl rfl rfl rfl) ?_;rintro y_ hy_;refine Ze3 1 2 3 ?_;exact hk y5 y8 y11 y14 y3))));(focus (rintro y3 hy3;refine Xo 3 rfl (by exact ms_app0 (M := mem) 2 rfl rfl rfl rfl (rds_rf h1 List.mem_cons_self) rfl (by omega) (by omega)) (fun y w _ h => by exact h.tl.tl.tl) ?_;rintro y8 hy8;refine Xo 9 rfl (by exact ms_app0 (M := sn) 1 rfl rfl rfl rfl (rds_rf h3 List.mem_cons_self) rfl (by omega) (by omega)) (fun y w _ h => by exact h.tl.tl.tl) ?_;rintro y14 hy14;refine Xt 10 rfl (by exact ps_bld rfl (parts_cons rfl (parts_cons rfl (parts_cons rfl parts_nil))) rfl) ?_;refine okT_done (by kernel_rfl) ?_;refine Zo (ms_store 0 rfl rfl rfl rfl rfl rfl rfl rfl) ?_;rintro y_ hy_;refine Ze3 1 2 3 ?_;exact hk y5 y8 y11 y14 y3))));(focus (rintro y3 hy3;refine okT_many (by kernel_rfl) (all_cons (at_m (i := 3) rfl rfl rfl rfl rfl (by exact ms_app0 (M := mem) 1 rfl rfl rfl rfl (rds_rf h1 List.mem_cons_self) rfl (by omega) (by omega)) (fun y w _ h => by exact h.tl.tl) ?_) (all_cons (at_m (i := 6) rfl rfl rfl rfl rfl (by exact ms_lit rfl parts_nil rfl rfl rfl) (fun y w _ h => by exact h.tl.tl.tl) ?_) all_nil));(focus (rintro y8 hy8;refine Xo 6 rfl (by exact ms_lit rfl parts_nil rfl rfl rfl) (fun y w _ h => by exact h.tl.tl.tl) ?_;rintro y11 hy11;refine Xo 9 rfl (by exact ms_app0 (M := sn) 0 rfl rfl rfl rfl (rds_rf h3 List.mem_cons_self) rfl (by omega) (by omega)) (fun y w _ h => by exact h.tl.tl.tl) ?_;rintro y14 hy14;refine Xt 10 rfl (by exact ps_bld rfl (parts_cons rfl (parts_cons rfl (parts_cons rfl parts_nil))) rfl) ?_;refine okT_done (by kernel_rfl) ?_;refine Zo (ms_store 1 rfl rfl rfl rfl rfl rfl rfl rfl) ?_;rintro y_ hy_;refine Ze3 1 2 3 ?_;exact ok_sel [1,0,2,3,4,5,6,7,8,9,10,11,12] (by decide) rfl (hk y5 y8 y11 y14 y3)));(focus (rintro y11 hy11;refine Xo 3 rfl (by exact ms_app0 (M := mem) 2 rfl rfl rfl rfl (rds_rf h1 List.mem_cons_self) rfl (by omega) (by omega)) (fun y w _ h => by exact h.tl.tl.tl) ?_;rintro y8 hy8;refine Xo 9 rfl (by exact ms_app0 (M := sn) 0 rfl rfl rfl rfl (rds_rf h3 List.mem_cons_self) rfl (by omega) (by omega)) (fun y w _ h => by exact h.tl.tl.tl) ?_;rintro y14 hy14;refine Xt 10 rfl (by exact ps_bld rfl (parts_cons rfl (parts_cons rfl (parts_cons rfl parts_nil))) rfl) ?_;refine okT_done (by kernel_rfl) ?_;refine Zo (ms_store 1 rfl rfl rfl rfl rfl rfl rfl rfl) ?_;rintro y_ hy_;refine Ze3 1 2 3 ?_;exact ok_sel [1,0,2,3,4,5,6,7,8,9,10,11,12] (by decide) rfl (hk y5 y8 y11 y14 y3)))))));(focus (rintro y11 hy11;refine okT_many (by kernel_rfl) (all_cons (at_m (i := 0) rfl rfl rfl rfl rfl (by exact ms_lit rfl parts_nil rfl rfl rfl) (fun y w _ h => by exact h.tl.tl) ?_) (all_cons (at_m (i := 11) rfl rfl rfl rfl rfl (ms_alloc rfl) (fun y w _ h => by exact h.tl.tl) ?_) all_nil));(focus (rintro y5 hy5;refine okT_many (by kernel_rfl) (all_cons (at_m (i := 3) rfl rfl rfl rfl rfl (by exact ms_app0 (M := mem) 0 rfl rfl rfl rfl (rds_rf h1 List.mem_cons_self) rfl (by omega) (by omega)) (fun y w _ h => by exact h.tl.tl) ?_) (all_cons (at_m (i := 11) rfl rfl rfl rfl rfl (ms_alloc rfl) (fun y w _ h => by exact h.tl.tl.tl) ?_) all_nil));(focus (rintro y8 hy8;refine okT_many (by kernel_rfl) (all_cons (at_m (i := 9) rfl rfl rfl rfl rfl (by exact ms_app0 (M := sn) 1 rfl rfl rfl rfl (rds_rf h3 List.mem_cons_self) rfl (by omega) (by omega)) (fun y w _ h => by exact h.tl.tl) ?_) (all_cons (at_m (i := 11) rfl rfl rfl rfl rfl (ms_alloc rfl) (fun y w _ h => by exact h.tl.tl.tl) ?_) all_nil));(focus (rintro y14 hy14;refine Xt 10 rfl (by exact ps_bld rfl (parts_cons rfl (parts_cons rfl (parts_cons rfl parts_nil))) rfl) ?_;refine Xo 11 rfl (ms_alloc rfl) (fun y w _ h => by exact h.tl.tl.tl) ?_;rintro y3 hy3;refine okT_done (by kernel_rfl) ?_;refine Zo (ms_store 0 rfl rfl rfl rfl rfl rfl rfl rfl) ?_;rintro y_ hy_;refine Ze3 1 2 3 ?_;exact ok_sel [0,2,1,3,4,5,6,7,8,9,10,11,12] (by decide) rfl (hk y5 y8 y11 y14 y3)));(focus (rintro y3 hy3;refine Xo 9 rfl (by exact ms_app0 (M := sn) 2 rfl rfl rfl rfl (rds_rf h3 List.mem_cons_self) rfl (by omega) (by omega)) (fun y w _ h => by exact h.tl.tl.tl) ?_;rintro y14 hy14;refine Xt 10 rfl (by exact ps_bld rfl (parts_cons rfl (parts_cons rfl (parts_cons rfl parts_nil))) rfl) ?_;refine okT_done (by kernel_rfl) ?_;refine Zo (ms_store 0 rfl rfl rfl rfl rfl rfl rfl rfl) ?_;rintro y_ hy_;refine Ze3 1 2 3 ?_;exact ok_sel [0,2,1,3,4,5,6,7,8,9,10,11,12] (by decide) rfl (hk y5 y8 y11 y14 y3)))));(focus (rintro y3 hy3;refine Xo 3 rfl (by exact ms_app0 (M := mem) 1 rfl rfl rfl rfl (rds_rf h1 List.mem_cons_self) rfl (by omega) (by omega)) (fun y w _ h => by exact h.tl.tl.tl) ?_;rintro y8 hy8;refine Xo 9 rfl (by exact ms_app0 (M := sn) 2 rfl rfl rfl rfl (rds_rf h3 List.mem_cons_self) rfl (by omega) (by omega)) (fun y w _ h => by exact h.tl.tl.tl) ?_;rintro y14 hy14;refine Xt 10 rfl (by exact ps_bld rfl (parts_cons rfl (parts_cons rfl (parts_cons rfl parts_nil))) rfl) ?_;refine okT_done (by kernel_rfl) ?_;refine Zo (ms_store 0 rfl rfl rfl rfl rfl rfl rfl rfl) ?_;rintro y_ hy_;refine Ze3 1 2 3 ?_;exact ok_sel [0,2,1,3,4,5,6,7,8,9,10,11,12] (by decide) rfl (hk y5 y8 y11 y14 y3)))));(focus (rintro y3 hy3;refine Xo 0 rfl (by exact ms_lit rfl parts_nil rfl rfl rfl) (fun y w _ h => by exact h.tl.tl.tl) ?_;rintro y5 hy5;refine Xo 3 rfl (by exact ms_app0 (M := mem) 0 rfl rfl rfl rfl (rds_rf h1 List.mem_cons_self) rfl (by omega) (by omega)) (fun y w _ h => by exact h.tl.tl.tl) ?_;rintro y8 hy8;refine Xo 9 rfl (by exact ms_app0 (M := sn) 2 rfl rfl rfl rfl (rds_rf h3 List.mem_cons_self) rfl (by omega) (by omega)) (fun y w _ h => by exact h.tl.tl.tl) ?_;rintro y14 hy14;refine Xt 10 rfl (by exact ps_bld rfl (parts_cons rfl (parts_cons rfl (parts_cons rfl parts_nil))) rfl) ?_;refine okT_done (by kernel_rfl) ?_;refine Zo (ms_store 1 rfl rfl rfl rfl rfl rfl rfl rfl) ?_;rintro y_ hy_;refine Ze3 1 2 3 ?_;exact ok_sel [1,2,0,3,4,5,6,7,8,9,10,11,12] (by decide) rfl (hk y5 y8 y11 y14 y3)))));(focus (rintro y3 hy3;refine okT_many (by kernel_rfl) (all_cons (at_m (i := 0) rfl rfl rfl rfl rfl (by exact ms_lit rfl parts_nil rfl rfl rfl) (fun y w _ h => by exact h.tl.tl) ?_) (all_cons (at_m (i := 6) rfl rfl rfl rfl rfl (by exact ms_lit rfl parts_nil rfl rfl rfl) (fun y w _ h => by exact h.tl.tl) ?_) all_nil));(focus (rintro y5 hy5;refine okT_many (by kernel_rfl) (all_cons (at_m (i := 3) rfl rfl rfl rfl rfl (by exact ms_app0 (M := mem) 0 rfl rfl rfl rfl (rds_rf h1 List.mem_cons_self) rfl (by omega) (by omega)) (fun y w _ h => by exact h.tl.tl) ?_) (all_cons (at_m (i := 6) rfl rfl rfl rfl rfl (by exact ms_lit rfl parts_nil rfl rfl rfl) (fun y w _ h => by exact h.tl.tl.tl) ?_) all_nil));(focus (rintro y8 hy8;refine Xo 6 rfl (by exact ms_lit rfl parts_nil rfl rfl rfl) (fun y w _ h => by exact h.tl.tl.tl) ?_;rintro y11 hy11;refine Xo 9 rfl (by exact ms_app0 (M := sn) 0 rfl rfl rfl rfl (rds_rf h3 List.mem_cons_self) rfl (by omega) (by omega)) (fun y w _ h => by exact h.tl.tl.tl) ?_;rintro y14 hy14;refine Xt 10 rfl (by exact ps_bld rfl (parts_cons rfl (parts_cons rfl (parts_cons rfl parts_nil))) rfl) ?_;refine okT_done (by kernel_rfl) ?_;refine Zo (ms_store 2 rfl rfl rfl rfl rfl rfl rfl rfl) ?_;rintro y_ hy_;refine Ze3 1 2 3 ?_;exact ok_sel [2,0,1,3,4,5,6,7,8,9,10,11,12] (by decide) rfl (hk y5 y8 y11 y14 y3)));(focus (rintro y11 hy11;refine Xo 3 rfl (by exact ms_app0 (M := mem) 1 rfl rfl rfl rfl (rds_rf h1 List.mem_cons_self) rfl (by omega) (by omega)) (fun y w _ h => by exact h.tl.tl.tl) ?_;rintro y8 hy8;refine Xo 9 rfl (by exact ms_app0 (M := sn) 0 rfl rfl rfl rfl (rds_rf h3 List.mem_cons_self) rfl (by omega) (by omega)) (fun y w _ h => by exact h.tl.tl.tl) ?_;rintro y14 hy14;refine Xt 10 rfl (by exact ps_bld rfl (parts_cons rfl (parts_cons rfl (parts_cons rfl parts_nil))) rfl) ?_;refine okT_done (by kernel_rfl) ?_;refine Zo (ms_store 2 rfl rfl rfl rfl rfl rfl rfl rfl) ?_;rintro y_ hy_;refine Ze3 1 2 3 ?_;exact ok_sel [2,0,1,3,4,5,6,7,8,9,10,11,12] (by decide) rfl (hk y5 y8 y11 y14 y3)))));(focus (rintro y11 hy11;refine Xo 0 rfl (by exact ms_lit rfl parts_nil rfl rfl rfl) (fun y w _ h => by exact h.tl.tl.tl) ?_;rintro y5 hy5;refine Xo 3 rfl (by exact ms_app0 (M := mem) 0 rfl rfl rfl rfl (rds_rf h1 List.mem_cons_self) rfl (by omega) (by omega)) (fun y w _ h => by exact h.tl.tl.tl) ?_;rintro y8 hy8;refine Xo 9 rfl (by exact ms_app0 (M := sn) 1 rfl rfl rfl rfl (rds_rf h3 List.mem_cons_self) rfl (by omega) (by omega)) (fun y w _ h => by exact h.tl.tl.tl) ?_;rintro y14 hy14;refine Xt 10 rfl (by exact ps_bld rfl (parts_cons rfl (parts_cons rfl (parts_cons rfl parts_nil))) rfl) ?_;refine okT_done (by kernel_rfl) ?_;refine Zo (ms_store 2 rfl rfl rfl rfl rfl rfl rfl rfl) ?_;rintro y_ hy_;refine Ze3 1 2 3 ?_;exact ok_sel [2,1,0,3,4,5,6,7,8,9,10,11,12] (by decide) rfl (hk y5 y8 y11 y14 y3)))))));rintro y5 y8 y11 y14 y3)|(refine Zr 2 ?_;refine Za ?_;refine Ze4 1 2 3 4 ?_))
  refine ok_loop (ι := CpE R) (fun q => R.length - q.S.length) (fun q => ([(1,pt (ga (y1 0).c) 0),(2,pt (ga (y2 0).c) 0),(3,pt (ga (y3 0).c) 0),(4,.int .i64 q.S.length)],[.bag 204 4 (rowsOf q.S),.row 85 1 q.A q.S.length q.c (fl q.S),.box (y3 0).c 88 [.slice (y8 0).A mem.length (y8 0).c,.slice q.A q.S.length q.c,.int .i64 seq,.slice (y14 0).A sn.length (y14 0).c],.row 3 1 (y14 0).A sn.length (y14 0).c (fl sn),.row 204 4 (y8 0).A mem.length (y8 0).c (fl mem),_,_],_)) ⟨[],none,0,by simp,by simp [dats]⟩ (fun a w he hw => ⟨⟨[],none,0,by simp,by simp [dats]⟩,he.sub ⟨rfl,rfl,rfl,rfl,trivial⟩,by
    have := (hw.rowNil 85 1).bag_nil 204 4
    exact this⟩) ?_
  rintro ⟨S,A2,c2,hs,hd0⟩
  simp only at hs hd0 ⊢
  have HD := Lib.hid hd0;clear hd0
  have hsn := fun h => CpE.snoc (S := S) (R := R) h HD.out
  have HN := Lib.hid hsn;clear hsn
  repeat' (first|refine Wa ?_|refine Wb ?_|refine Wd ?_|refine We ?_|(refine ok_cond rfl (fun hc => ?_) (fun hc => ?_) <;> (have hd := hc;try simp only [jj] at hd))|refine Wg ?_|refine Wh ?_|refine Wi ?_|(refine Zr 3 ?_;refine Zm ?_;refine Zf ?_;refine Zl 6 ?_;refine Zq (ps_len rfl rfl) ?_;refine Zi ?_;refine Ze5 1 2 3 4 20 ?_)|(refine Zr 4 ?_;refine Zm ?_;refine Zq (by exact ps_add rfl rfl rfl (by omega)) ?_;refine Za ?_;refine Ze4 1 2 3 4 ?_)|(refine ok_draw (id := 5) 12 rfl (by kernel_rfl) (by kernel_rfl) rfl (by repeat (first | exact pq_body | refine pq_then ?_ | refine pq_in ?_)) [0,2,3,4,5,6] (by decide) rfl ?_;refine Xf 0 ?_;refine Xl 1 1 ?_;refine Xf 3 ?_;refine Xl 4 5 ?_;refine Xm 5 ?_;refine Xt 6 rfl (by exact ps_indexN rfl rfl rfl (by omega) (by exact isw_of (isS_fl (by assumption) (by omega)))) ?_;refine Xt 7 rfl (by exact ps_load rfl rfl (by exact Rds.cell (rds_rf (by assumption) List.mem_cons_self) (by exact fl_at0 _ _ (by omega) (by decide)))) ?_;refine Xo 2 rfl (by exact ms_lit rfl parts_nil rfl rfl rfl) (fun y w _ h => by exact h.tl.sel [0,2,3,4,5,6] (by decide) rfl (fun _ h => h)) ?_;rintro y25 hy25;refine Xo 8 rfl (by exact ms_app0 (M := (nth R S.length).d) 0 rfl rfl rfl rfl (rds_rf (Q2.out _ (by omega)) List.mem_cons_self) rfl (by have : (nth R S.length).d.length ≤ 4194304 := HL.out _ (by omega);omega) (by have : (nth R S.length).d.length ≤ 4194304 := HL.out _ (by omega);omega)) (fun y w _ h => by exact h.tl.sel [0,2,3,4,5,6] (by decide) rfl (fun _ h => h)) ?_;rintro y31 hy31;refine Xo 9 rfl (by exact ms_lit rfl (parts_cons rfl parts_nil) rfl rfl rfl) (fun y w _ h => by exact h.tl.tl.sel [0,2,3,4,5,6] (by decide) rfl (fun _ h => h)) ?_;rintro y32 hy32;refine Xo 10 rfl (by exact ms_appF (α := LE) (L := S) (M := [⟨(nth R S.length).d,(y31 0).A,(y31 0).c⟩]) 3 rfl rfl rfl rfl (rds_row 0 rfl) rfl (by simp;omega) (by simp;omega)) (fun y w _ h => by exact h.tl.tl.sel [0,2,3,4,5,6] (by decide) rfl (fun _ h => h)) ?_;rintro y33 hy33;refine Xf 11 ?_;refine okT_done (by kernel_rfl) ?_;refine Zo (ms_store 4 rfl rfl rfl rfl rfl rfl rfl rfl) ?_;rintro y_ hy_;refine Ze4 1 2 3 4 ?_)|(refine Zr 6 ?_;refine Zq (by exact ps_loads rfl rfl (by exact rds_box 2 rfl) rfl rfl (by decide)) ?_;refine Zo (ms_store 5 rfl rfl rfl rfl rfl rfl rfl rfl) ?_;rintro y_ hy_;refine Ze1 2 ?_))
  · refine fun a w' he hw => ⟨⟨S ++ [⟨(nth R S.length).d,(y31 0).A,(y31 0).c⟩],(y33 0).A,(y33 0).c,by simp;omega,HN.out (by omega) _ _⟩,by simp;omega,he.sub ⟨rfl,rfl,rfl,by simp [look],trivial⟩,?_⟩
    have h1 := WOk.bagAdd (⟨(nth R S.length).d,(y31 0).A,(y31 0).c⟩ : LE) rfl rfl (hw.sel [1,2,3,4,5,6,7,8] (by decide) rfl (fun _ h => h))
    simp only [List.length_append,List.length_singleton]
    exact h1
  · have hSR : S.length = R.length := by omega
    have hdd : dats S = dats R := by rw [HD.out,hSR,← dats_len,List.take_length]
    refine ok_endL (vs := [_]) rfl ⟨⟨_,5,_,_,_,rfl,rfl,inferInstance,rfl,rfl⟩,trivial⟩ (fun w' hw => ⟨cpY (y8 0).A (y8 0).c A2 c2 (y14 0).A (y14 0).c S w',?_,trivial,hw.below,?_⟩)
    · rw [← hSR];rfl
    · rw [← hdd,cpY_loc,← hSR]
      exact NewOk.of (hw.sel [4,1,0,3] (by decide) rfl (G' := []) (fun _ h => by cases h))
theorem i_copyEng0 (mA : Option Addr) (mc : Nat) (mem : List Ent) (tA : Option Addr) (tc : Nat) (R : List LE) (seq : Int) (sA : Option Addr) (sc : Nat) (sn : List Int) (w : World) (h1 : Rd w mA (fl mem)) (h2 : RdN w tA R) (h3 : Rd w sA (fl sn)) (hl1 : mem.length ≤ 4194304) (hl2 : R.length ≤ 4194304) (hs : ∀ x ∈ dats R,x.length ≤ 4194304) (hl3 : sn.length ≤ 4194304) :
    Calls Tryz.prog 208 #[.agg #[.slice mA mem.length mc,.slice tA R.length tc,.int .i64 seq,.slice sA sn.length sc]] w fun e w' => ∃ y : Ys,e = .returned (.agg #[.slice (y 0).A mem.length (y 0).c,.slice (y 1).A R.length (y 1).c,.int .i64 seq,.slice (y 2).A sn.length (y 2).c]) ∧ True ∧ Below w.heap.size w w' ∧ NewOk w.heap.size [.row 204 4 (y 0).A mem.length (y 0).c (fl mem),.row 85 1 (y 1).A R.length (y 1).c (fl (locs 3 (dats R) y)),.bag 204 4 (rowsOf (locs 3 (dats R) y)),.row 3 1 (y 2).A sn.length (y 2).c (fl sn)] [] w' := by
  obtain ⟨q1,q2⟩ := h2
  have q2 : ∀ k,k < R.length → Rd w (nth R k).A (fl (nth R k).d) := q2
  have Q2 := Lib.hid q2;clear q2
  have HL := Lib.hid (lens_at hs);clear hs
  refine ok_enter 31 Tryz.func208 rfl rfl rfl ?_
  repeat' (first|refine Wa ?_|refine Wb ?_|refine Wd ?_|(refine Zr 0 ?_;refine Zn (ms_box rfl rfl rfl) ?_;rintro y1 hy1;refine Zn (ms_alloc rfl) ?_;rintro y2 hy2;refine Ze2 1 2 ?_)|(apply mrg3;(focus (intro hk;refine Xd 1 10 ?_;refine Xf 0 ?_;refine Xl 1 1 ?_;refine Xf 3 ?_;refine Xl 4 1 ?_;refine Xf 5 ?_;refine Xl 6 1 ?_;refine okT_many (by kernel_rfl) (all_cons (at_m (i := 2) rfl rfl rfl rfl rfl (by exact ms_c1 rfl rfl (fun _ _ w hw => cloneE_c mA mc mem w (rds_rf h1 List.mem_cons_self _ _ w hw) hl1)) (fun y w _ h => by exact h.tl) ?_) (all_cons (at_m (i := 9) rfl rfl rfl rfl rfl (ms_alloc rfl) (fun y w _ h => by exact h.tl) ?_) all_nil));(focus (rintro y8 hy8;refine okT_many (by kernel_rfl) (all_cons (at_m (i := 7) rfl rfl rfl rfl rfl (by exact ms_c1 rfl rfl (fun _ _ w hw => clone_c sA sc sn w (rds_rf h3 List.mem_cons_self _ _ w hw) hl3)) (fun y w _ h => by exact h.tl.tl) ?_) (all_cons (at_m (i := 9) rfl rfl rfl rfl rfl (ms_alloc rfl) (fun y w _ h => by exact h.tl.tl) ?_) all_nil));(focus (rintro y13 hy13;refine Xt 8 rfl (by exact ps_bld rfl (parts_cons rfl (parts_cons rfl (parts_cons rfl parts_nil))) rfl) ?_;refine Xo 9 rfl (ms_alloc rfl) (fun y w _ h => by exact h.tl.tl.tl) ?_;rintro y3 hy3;refine okT_done (by kernel_rfl) ?_;refine Zo (ms_store 0 rfl rfl rfl rfl rfl rfl rfl rfl) ?_;rintro y_ hy_;refine Ze3 1 2 3 ?_;exact hk y8 y13 y3));(focus (rintro y3 hy3;refine Xo 7 rfl (by exact ms_c1 rfl rfl (fun _ _ w hw => clone_c sA sc sn w (rds_rf h3 List.mem_cons_self _ _ w hw) hl3)) (fun y w _ h => by exact h.tl.tl.tl) ?_;rintro y13 hy13;refine Xt 8 rfl (by exact ps_bld rfl (parts_cons rfl (parts_cons rfl (parts_cons rfl parts_nil))) rfl) ?_;refine okT_done (by kernel_rfl) ?_;refine Zo (ms_store 1 rfl rfl rfl rfl rfl rfl rfl rfl) ?_;rintro y_ hy_;refine Ze3 1 2 3 ?_;exact ok_sel [1,0,2,3,4,5,6,7,8,9,10,11,12] (by decide) rfl (hk y8 y13 y3)))));(focus (rintro y3 hy3;refine Xo 2 rfl (by exact ms_c1 rfl rfl (fun _ _ w hw => cloneE_c mA mc mem w (rds_rf h1 List.mem_cons_self _ _ w hw) hl1)) (fun y w _ h => by exact h.tl.tl) ?_;rintro y8 hy8;refine Xo 7 rfl (by exact ms_c1 rfl rfl (fun _ _ w hw => clone_c sA sc sn w (rds_rf h3 List.mem_cons_self _ _ w hw) hl3)) (fun y w _ h => by exact h.tl.tl.tl) ?_;rintro y13 hy13;refine Xt 8 rfl (by exact ps_bld rfl (parts_cons rfl (parts_cons rfl (parts_cons rfl parts_nil))) rfl) ?_;refine okT_done (by kernel_rfl) ?_;refine Zo (ms_store 2 rfl rfl rfl rfl rfl rfl rfl rfl) ?_;rintro y_ hy_;refine Ze3 1 2 3 ?_;exact ok_sel [2,0,1,3,4,5,6,7,8,9,10,11,12] (by decide) rfl (hk y8 y13 y3)))));rintro y8 y13 y3)|(refine Zr 2 ?_;refine Zf ?_;refine Zl 4 ?_;refine Zq (ps_len rfl rfl) ?_;refine Zm ?_;refine Ze5 2 3 16 17 18 ?_))
  refine ok_loop (ι := CpE R) (fun q => R.length - q.S.length) (fun q => ([(2,pt (ga (y2 0).c) 0),(3,pt (ga (y3 0).c) 0),(16,.slice tA R.length tc),(17,.int .i64 R.length),(18,.int .i64 q.S.length)],[.bag 204 4 (rowsOf q.S),.row 85 1 q.A q.S.length q.c (fl q.S),.box (y3 0).c 88 [.slice (y8 0).A mem.length (y8 0).c,.slice q.A q.S.length q.c,.int .i64 seq,.slice (y13 0).A sn.length (y13 0).c],.row 3 1 (y13 0).A sn.length (y13 0).c (fl sn),.row 204 4 (y8 0).A mem.length (y8 0).c (fl mem),_,_],_)) ⟨[],none,0,by simp,by simp [dats]⟩ (fun a w he hw => ⟨⟨[],none,0,by simp,by simp [dats]⟩,he.sub ⟨rfl,rfl,rfl,rfl,rfl,trivial⟩,by
    have := (hw.rowNil 85 1).bag_nil 204 4
    exact this⟩) ?_
  rintro ⟨S,A2,c2,hs,hd0⟩
  simp only at hs hd0 ⊢
  have HD := Lib.hid hd0;clear hd0
  have hsn := fun h => CpE.snoc (S := S) (R := R) h HD.out
  have HN := Lib.hid hsn;clear hsn
  repeat' (first|refine Wa ?_|refine Wb ?_|refine Wd ?_|refine We ?_|(refine ok_cond rfl (fun hc => ?_) (fun hc => ?_) <;> (have hd := hc;try simp only [jj] at hd))|refine Wg ?_|refine Wh ?_|refine Wi ?_|(refine Zr 3 ?_;refine Zi ?_;refine Ze6 2 3 16 17 18 19 ?_)|(refine Zr 4 ?_;refine Zq (by exact ps_indexN rfl rfl rfl (by omega) (by exact isw_of (isS_fl (by assumption) (by omega)))) ?_;refine Zq (by exact ps_load rfl rfl (by exact Rds.cell (rds_rf (by assumption) List.mem_cons_self) (by exact fl_at0 _ _ (by omega) (by decide)))) ?_;refine Za ?_;refine Ze6 2 3 5 16 17 18 ?_)|(refine ok_draw (id := 5) 7 rfl (by kernel_rfl) (by kernel_rfl) rfl (by repeat (first | exact pq_body | refine pq_then ?_ | refine pq_in ?_)) [0,2,3,4,5,6] (by decide) rfl ?_;refine Xf 0 ?_;refine Xl 1 1 ?_;refine Xm 2 ?_;refine Xo 3 rfl (by exact ms_c1 rfl rfl (fun _ _ w hw => cloneE_c (nth R S.length).A (nth R S.length).c (nth R S.length).d w (rds_rf (Q2.out _ (by omega)) List.mem_cons_self _ _ w hw) (HL.out _ (by omega)))) (fun y w _ h => by exact h.tl.sel [0,2,3,4,5,6] (by decide) rfl (fun _ h => h)) ?_;rintro y25 hy25;refine Xo 4 rfl (by exact ms_lit rfl (parts_cons rfl parts_nil) rfl rfl rfl) (fun y w _ h => by exact h.tl.tl.sel [0,2,3,4,5,6] (by decide) rfl (fun _ h => h)) ?_;rintro y26 hy26;refine Xo 5 rfl (by exact ms_appF (α := LE) (L := S) (M := [⟨(nth R S.length).d,(y25 0).A,(y25 0).c⟩]) 3 rfl rfl rfl rfl (rds_row 0 rfl) rfl (by simp;omega) (by simp;omega)) (fun y w _ h => by exact h.tl.tl.sel [0,2,3,4,5,6] (by decide) rfl (fun _ h => h)) ?_;rintro y27 hy27;refine Xf 6 ?_;refine okT_done (by kernel_rfl) ?_;refine Zo (ms_store 4 rfl rfl rfl rfl rfl rfl rfl rfl) ?_;rintro y_ hy_;refine Ze5 2 3 16 17 18 ?_)|(refine Zr 6 ?_;refine Zq (by exact ps_add rfl rfl rfl (by omega)) ?_;refine Zm ?_;refine Ze5 2 3 16 17 18 ?_)|(refine Zr 7 ?_;refine Zq (by exact ps_loads rfl rfl (by exact rds_box 2 rfl) rfl rfl (by decide)) ?_;refine Zo (ms_store 5 rfl rfl rfl rfl rfl rfl rfl rfl) ?_;rintro y_ hy_;refine Ze1 2 ?_))
  · refine fun a w' he hw => ⟨⟨S ++ [⟨(nth R S.length).d,(y25 0).A,(y25 0).c⟩],(y27 0).A,(y27 0).c,by simp;omega,HN.out (by omega) _ _⟩,by simp;omega,he.sub ⟨rfl,rfl,rfl,rfl,by simp [look],trivial⟩,?_⟩
    have h1 := WOk.bagAdd (⟨(nth R S.length).d,(y25 0).A,(y25 0).c⟩ : LE) rfl rfl (hw.sel [1,2,3,4,5,6,7,8] (by decide) rfl (fun _ h => h))
    simp only [List.length_append,List.length_singleton]
    exact h1
  · have hSR : S.length = R.length := by omega
    have hdd : dats S = dats R := by rw [HD.out,hSR,← dats_len,List.take_length]
    refine ok_endL (vs := [_]) rfl ⟨⟨_,5,_,_,_,rfl,rfl,inferInstance,rfl,rfl⟩,trivial⟩ (fun w' hw => ⟨cpY (y8 0).A (y8 0).c A2 c2 (y13 0).A (y13 0).c S w',?_,trivial,hw.below,?_⟩)
    · rw [← hSR];rfl
    · rw [← hdd,cpY_loc,← hSR]
      exact NewOk.of (hw.sel [4,1,0,3] (by decide) rfl (G' := []) (fun _ h => by cases h))
def engVal (d : DEng) (y : Ys) : Value := .agg #[.slice (y 0).A d.mem.length (y 0).c,.slice (y 1).A d.tabs.length (y 1).c,.int .i64 d.seq,.slice (y 2).A d.snaps.length (y 2).c]
def engObj (d : DEng) (y : Ys) : List HObj := [.row 204 4 (y 0).A d.mem.length (y 0).c (fl d.mem),.row 85 1 (y 1).A d.tabs.length (y 1).c (fl (locs 3 d.tabs y)),.bag 204 4 (rowsOf (locs 3 d.tabs y)),.row 3 1 (y 2).A d.snaps.length (y 2).c (fl d.snaps)]
theorem eng_obj (mA : Option Addr) (mc : Nat) (mem : List Ent) (tA : Option Addr) (tc : Nat) (S : List LE) (seq : Int) (sA : Option Addr) (sc : Nat) (sn : List Int) (w : World) : engVal ⟨mem,dats S,seq,sn⟩ (cpY mA mc tA tc sA sc S w) = .agg #[.slice mA mem.length mc,.slice tA S.length tc,.int .i64 seq,.slice sA sn.length sc] ∧ engObj ⟨mem,dats S,seq,sn⟩ (cpY mA mc tA tc sA sc S w) = [.row 204 4 mA mem.length mc (fl mem),.row 85 1 tA S.length tc (fl S),.bag 204 4 (rowsOf S),.row 3 1 sA sn.length sc (fl sn)] := by
  unfold engVal engObj
  simp only
  rw [cpY_loc,dats_len]
  exact ⟨rfl,rfl⟩
end Go.Proofs.YtmfojbidojjciaaGreat
namespace Go.Proofs.YtmfojbidojjciaaGreat
open Go.RowKit
def mkY2 (g c : Nat) (w : World) : Ys := fun i => if i = 0 then ⟨none,g,w,0⟩ else ⟨none,c,w,0⟩
def zcs (L : List UInt8) (c : Nat) : List Value := byteVs L ++ List.replicate (c - L.length) (.int .u8 0)
theorem zcs_len (L : List UInt8) (c : Nat) (h : L.length ≤ c) : (zcs L c).length = c := by simp [zcs,byteVs];omega
theorem zcs_set (L : List UInt8) (c j : Nat) (v : UInt8) (hj : j < L.length) : (zcs L c).set j (.int .u8 (v.toNat : Int)) = zcs (L.set j v) c := by
  unfold zcs
  rw [List.set_append_left _ _ (by simpa [byteVs] using hj),List.length_set]
  congr 1
  unfold byteVs
  rw [List.map_set]
section
variable {P : Program} {N base : Nat} {w0 : World} {E : Env} {H : List HObj} {G : List World} {Q : Exit → Act → World → Prop} {o : Oper}
theorem rds_zrow {g e : Nat} {cs : List Value} {fz : Nat × Nat} (i : Nat) (hi : H[i]? = some (.zrow g e cs fz)) : Rds H G (ga g) cs := fun base w0 w hw j u hu => by
  have := (hw.own _ (List.mem_of_getElem? hi)).2
  refine ⟨_,rfl,?_⟩
  rw [ga_add,cell_of_row _ _ j _ _ _ this]
  simpa using hu
theorem rds_zcs {g e c : Nat} {L : List UInt8} {fz : Nat × Nat} (i : Nat) (hi : H[i]? = some (.zrow g e (zcs L c) fz)) : Rds H G (ga g) (byteVs L) := fun base w0 w hw => by
  have h := (rds_zrow i hi base w0 w hw).take L.length
  have e : (zcs L c).take L.length = byteVs L := by
    unfold zcs
    rw [List.take_append_of_le_length (by simp [byteVs]),List.take_of_length_le (by simp [byteVs])]
  rwa [e] at h
theorem ms_bytes {x : Operand} {s t e : TypeId} {b : ByteArray} {sz bytes : Nat} [ht : EL P t e sz bytes] [hk : IK P e .u8] [hs : SS P s] (ho : o.op = .convert s t x) (hx : opd E x = some (.string b)) :
    MStep P E H G o (fun y => b.size ≤ (y 1).c) (fun y => .slice (ga (y 0).c) b.size (y 1).c) (fun y => .zrow (y 0).c e (zcs b.data.toList (y 1).c) ((y 1).c,(y 1).c + 1) :: H) (fun _ => G) := ms_of (v0 := undef) fun N base w0 a w he hw => by
  have hr := run_bytes_of_string (P := P) w s t e b hs.h ht.h.1 hk.h
  have hle : b.size ≤ grownCap w b.size 0 e := grownCap_ge w b.size 0 e
  have hbs : (bytesRow b (grownCap w b.size 0 e)) = (zcs b.data.toList (grownCap w b.size 0 e)).toArray := by
    apply Array.ext'
    simp [bytesRow,zcs,byteVs]
  have hsz : (bytesRow b (grownCap w b.size 0 e)).size = grownCap w b.size 0 e := by
    rw [hbs];simp only [List.size_toArray];exact zcs_len _ _ hle
  rw [hsz,hbs] at hr
  refine ⟨mkY2 w.heap.size (grownCap w b.size 0 e) w,w.drew.alloc (.cells (zcs b.data.toList (grownCap w b.size 0 e)).toArray e (grownCap w b.size 0 e,grownCap w b.size 0 e + 1)),hle,?_,?_⟩
  · simp only [execOp,ho,he.eval hx,Sem.run_bind,hr,Result.andThen_ok,Sem.run_pure];rfl
  · exact hw.grow (Hn := [.zrow w.heap.size e _ _]) (Gn := []) (((Below.refl _ _).drew).alloc (Nat.le_refl _) _) (NewOk.one ⟨Nat.le_refl _,heap_alloc_new _ _⟩)
theorem ps_loadZ {x : Operand} {t g e c i : Nat} {L : List UInt8} {fz : Nat × Nat} (q : Nat) [hl : LD P t 1 false] (ho : o.op = .load t x) (hx : opd E x = some (pt (ga g) (i * 1))) (hi : H[q]? = some (.zrow g e (zcs L c) fz)) (hj : i < L.length) : PStep P E H G o (.int .u8 ((L.getD i 0).toNat : Int)) :=
  ps_load ho hx (Rds.cell (rds_zcs q hi) (by simp [byteVs,hj]))
theorem ms_setZ {x y : Operand} {t g e c i n : Nat} {L : List UInt8} {v : UInt8} (q : Nat) [hl : LD P t 1 false] (ho : o.op = .store t x y) (hx : opd E x = some (pt (ga g) (i * 1))) (hy : opd E y = some (.int .u8 (v.toNat : Int))) (hi : H[q]? = some (.zrow g e (zcs L c) (n,n + 1))) (hj : i < L.length) (hn : i < n) :
    MStep P E H G o (fun _ => True) (fun _ => undef) (fun _ => H.set q (.zrow g e (zcs (L.set i v) c) (n,n + 1))) (fun _ => G) := fun N base w0 a w Q K he hw hK => by
  obtain ⟨hb,hh⟩ := hw.own _ (List.mem_of_getElem? hi)
  have hlen : i < (zcs L c).length := by simp [zcs,byteVs];omega
  have hadd : (⟨g,i * 1,none⟩ : Addr).add 0 = ⟨g,i,none⟩ := by unfold Addr.add;simp
  have hcell : w.cell? ⟨g,i,none⟩ = some (zcs L c)[i] := by simp [World.cell?,hh,hlen]
  have hfro : w.frozen? ⟨g,i,none⟩ = false := by simp [World.frozen?,hh];omega
  have hst : (storeCells ⟨g,i * 1,none⟩ [.int .u8 (v.toNat : Int)] 0).run P w = .ok () (w.setRow g ((zcs L c).set i (.int .u8 (v.toNat : Int))).toArray) := by
    simp only [storeCells,Sem.run_bind]
    rw [hadd,run_store P w _ _ _ rfl,hcell]
    simp [hfro,setCell_eq_setRow w g i _ e _ _ hh]
  have hsz : (sizeOf t).run P w = .ok 1 w := by
    have h := hl.h
    unfold ldB at h
    split at h <;> first | (injection h with h;injection h with h1 h2;rename_i hi;simp [sizeOf,typeInfo,hi,h1]) | cases h
  have hrun : (execOp a.eval o).run P w = .ok .skip (w.setRow g ((zcs L c).set i (.int .u8 (v.toNat : Int))).toArray) := by
    simp only [Nat.mul_one] at hst
    simp [execOp,ho,he.eval hx,he.eval hy,pt,ga,Instr.storeAt,Instr.sureAddr,storeVar,hsz,Value.cells,ga_add,hst]
  rw [zcs_set L c i v hj] at hrun
  unfold Oper.wp;rw [hrun]
  refine hK (mkY none 0 w) _ trivial (hw.turn (x := .zrow g e _ _) hi (r := some g) ?_ (fun k hk => by cases hk;rfl) ⟨hb,setRow_heap w g _ _ e _ hh⟩ (fun j hj => .inl hj))
  exact ⟨rfl,rfl,rfl,by simp,fun j _ hj => setRow_other w g j _ (fun e => hj (by simp [e]))⟩
end
end Go.Proofs.YtmfojbidojjciaaGreat
namespace Go.Proofs.YtmfojbidojjciaaGreat
open Go.RowKit
section
variable {base : Nat} {w0 w : World} {H : List HObj} {G : List World}
theorem WOk.rowBox {e sz n c : Nat} {A : Option Addr} {us : List Value} (hw : WOk base w0 (.row e sz A n c us :: H) G w) (h0 : 0 < n) : ∃ g cur,A = ga g ∧ cur.length = c * sz ∧ c ≤ maxLen ∧ n ≤ c ∧ cur.take (n * sz) = us ∧ WOk base w0 (.box g e cur :: H) G w := by
  obtain ⟨hlen,⟨hA,hn0⟩ | ⟨g,cap,cur,hA,hb,hh,hnc,hcm,hcs,htk⟩⟩ := hw.own _ List.mem_cons_self
  · omega
  · injection hA with hA hA2 hA3
    subst hA;subst hA3
    refine ⟨g,cur.toList,rfl,by simpa using hcs,hcm,hnc,htk,?_⟩
    exact hw.turn (i := 0) (x' := .box g e cur.toList) rfl (r := none) (World.grownBy.refl w _) (fun k hk => by cases hk) ⟨hb,by simpa using hh⟩ (fun k hk => .inl (by cases hk;rfl))
theorem WOk.boxRow {e sz n c g : Nat} {cs us : List Value} (hw : WOk base w0 (.box g e cs :: H) G w) (hcs : cs.length = c * sz) (hcm : c ≤ maxLen) (hn : n ≤ c) (hu : cs.take (n * sz) = us) : WOk base w0 (.row e sz (ga g) n c us :: H) G w := by
  obtain ⟨hb,hh⟩ := hw.own _ List.mem_cons_self
  have hl : n * sz ≤ c * sz := Nat.mul_le_mul_right _ hn
  refine hw.turn (i := 0) (x' := .row e sz (ga g) n c us) rfl (r := none) (World.grownBy.refl w _) (fun k hk => by cases hk) ⟨by rw [← hu,List.length_take,hcs];omega,.inr ⟨g,c,cs.toArray,rfl,hb,hh,hn,hcm,by simpa using hcs,by simpa using hu⟩⟩ (fun k hk => .inl (by cases hk;rfl))
end
section
variable {P : Program} {N base : Nat} {w0 : World} {E : Env} {H : List HObj} {G : List World} {Q : Exit → Act → World → Prop} {o : Oper}
theorem rds_take {A : Option Addr} {us : List Value} (h : Rds H G A us) (k : Nat) : Rds H G A (us.take k) := fun base w0 w hw j u hu => by
  rw [List.getElem?_take] at hu
  split at hu
  · exact h base w0 w hw j u hu
  · cases hu
theorem first_of {A : Option Addr} {us : List Value} {w : World} {sz i c : Nat} (hr : Rd w A us) (hl : us.length = i * sz) (hs : 0 < sz) : (Builtin.firstCells sz i (.slice A i c)).run P w = .ok us.toArray w := by
  rcases A with _ | ad
  · have hn : us = [] := by
      rcases us with _ | ⟨u,l⟩
      · rfl
      · obtain ⟨ad,e,_⟩ := hr 0 u rfl;cases e
    subst hn;exact run_firstCells_none w sz i i c
  · exact run_firstCells_some w sz i ad i c us hl (fun j v hv => by obtain ⟨ad',e,h⟩ := hr j v hv;cases e;exact h)
theorem first_of' {A : Option Addr} {us : List Value} {w : World} {sz i n c : Nat} (hr : Rd w A us) (hl : us.length = i * sz) (hs : 0 < sz) (h0 : 0 < i) : (Builtin.firstCells sz i (.slice A n c)).run P w = .ok us.toArray w := by
  rcases A with _ | ad
  · have hp := Nat.mul_pos h0 hs
    rcases us with _ | ⟨u,l⟩
    · simp at hl;omega
    · obtain ⟨ad,e,_⟩ := hr 0 u rfl;cases e
  · exact run_firstCells_some w sz i ad n c us hl (fun j v hv => by obtain ⟨ad',e,h⟩ := hr j v hv;cases e;exact h)
def zz (z : List Value) (n : Nat) : List Value := (Builtin.zeroCells z.toArray n).toList
theorem zz_len (z : List Value) (n : Nat) : (zz z n).length = n * z.length := by simp [zz,Builtin.zeroCells]
theorem ms_appZ {t tn e sz bytes i c n : Nat} {A : Option Addr} {x y' : Operand} {us z : List Value} {k kn : IntKind} [ht : EL P t e sz bytes] [hk : IK P tn kn] [hz : ZV P e z] (ho : o.op = .call { callee := .builtin .append,args := #[x,y'],argTypes := #[t,tn] })
    (hx : opd E x = some (.slice A i c)) (hy : opd E y' = some (.int k (n : Int))) (hr : Rds H G A us) (hl : us.length = i * sz) (h0 : 0 < n) (hg : c < i + n) (hb : (i + n) * bytes ≤ 140737488355328) (hm : i + n ≤ 140737488355328) :
    MStep P E H G o (fun y => i + n ≤ (y 1).c ∧ (y 1).c ≤ maxLen) (fun y => .slice (ga (y 0).c) (i + n) (y 1).c) (fun y => .box (y 0).c e ((us ++ zz z n) ++ zz z ((y 1).c - (i + n))) :: H) (fun _ => G) := fun N base w0 a w Q K he hw hK => by
  obtain ⟨hu,hz0,inf,zv,hi,hzv,hs,hby,hzs⟩ := ht.h
  have hz1 : zv.cells = z.toArray := by
    have := hz.h
    unfold zvB at this
    simpa [hi,hzv] using this
  have hold : (Builtin.firstCells inf.size i (.slice A i c)).run P w.drew = .ok us.toArray w.drew := by
    rw [hs];exact first_of (hr base w0 w.drew hw.drew) hl hz0
  have hnb : n * inf.bytes ≤ 281474976710656 := by
    rw [hby]
    have : n * bytes ≤ (i + n) * bytes := Nat.mul_le_mul_right _ (by omega)
    omega
  have hrun := Lib.run_append_grow_zeros (P := P) w t tn o.type e inf zv k kn hu hk.h hi hzv A i c us hold n h0 (by omega) hg (by omega) hnb (by rw [hby];exact growslice_fits hg hb)
  rw [hz1] at hrun
  have hr' : (execOp a.eval o).run P w = .ok (.value (.slice (some ⟨w.heap.size,0,none⟩) (i + n) (grownCap w (i + n) c e))) (w.drew.alloc (.cells (((us ++ zz z n) ++ zz z (grownCap w (i + n) c e - (i + n))).toArray) e)) := by
    unfold execOp
    simp only [ho,resolve,invoke,builtin,Sem.run_bind,Sem.run_pure,Result.andThen_ok,List.map_toArray,List.map_cons,List.map_nil,he.eval hx,he.eval hy,hrun]
    congr 3
    congr 1
    apply Array.ext'
    simp [zz]
  unfold Oper.wp;rw [hr']
  exact hK (mkY2 w.heap.size (grownCap w (i + n) c e) w) _ ⟨grownCap_ge w _ _ _,grownCap_le_maxLen w _ _ _ (by unfold maxLen;omega)⟩ (wok_new (sz := sz) (n := n) hw.drew e _)
theorem ms_copyB {t e sz bytes g q m c1 n2 c2 k : Nat} {A2 B : Option Addr} {x y : Operand} {cs us : List Value} (r : Nat) [ht : EL P t e sz bytes] (ho : o.op = .call { callee := .builtin .copy,args := #[x,y],argTypes := #[t,t] })
    (hx : opd E x = some (.slice B m c1)) (hB : B = (ga g).map (·.add (q * sz))) (hy : opd E y = some (.slice A2 n2 c2)) (hi : H[r]? = some (.box g e cs)) (hr : Rds H G A2 us) (hk : Nat.min n2 m = k) (hl : us.length = k * sz) (h1 : ∀ u ∈ us,u.oneCell' = true) (hfit : q * sz + us.length ≤ cs.length) (h0 : 0 < k) :
    MStep P E H G o (fun _ => True) (fun _ => .int .i64 (k : Int)) (fun _ => H.set r (.box g e (putC cs (q * sz) us))) (fun _ => G) := fun N base w0 a w Q K he hw hK => by
  obtain ⟨hb,hh⟩ := hw.own _ (List.mem_of_getElem? hi)
  obtain ⟨hu,hz0,inf,z,hii,hz,hss,hby,hzs⟩ := ht.h
  have hst := run_storeCells_at P g (q * sz) e us 0 cs.toArray w hh (by simpa using hfit) h1
  have hfc := first_of' (P := P) (n := n2) (c := c2) (hr base w0 w hw) hl hz0 h0
  simp only [Nat.add_zero] at hst
  have hBe : B = some ⟨g,q * sz,none⟩ := by
    rw [hB];show some ((⟨g,0,none⟩ : Addr).add (q * sz)) = _;rw [ga_add]
  subst hBe
  have hrun : (Builtin.copy_ #[t,t] o.type #[.slice (some ⟨g,q * sz,none⟩) m c1,.slice A2 n2 c2]).run P w = .ok (.int .i64 k) (w.setRow g (putC cs (q * sz) us).toArray) := by
    simp [Builtin.copy_,run_underlying hu,Builtin.lenOf,sizeOf,typeInfo,hii,hss,hk,hfc,hst,putC,goInt]
  have hr' : (execOp a.eval o).run P w = .ok (.value (.int .i64 k)) (w.setRow g (putC cs (q * sz) us).toArray) := by
    unfold execOp
    simp only [ho,resolve,invoke,builtin,Sem.run_bind,Sem.run_pure,Result.andThen_ok,List.map_toArray,List.map_cons,List.map_nil,he.eval hx,he.eval hy,hrun]
  unfold Oper.wp;rw [hr']
  refine hK (mkY none 0 w) _ trivial (hw.turn (x := .box g e cs) hi (r := some g) ?_ (fun k hk => by cases hk;rfl) ⟨hb,setRow_heap w g _ _ e _ hh⟩ (fun j hj => .inl hj))
  exact ⟨rfl,rfl,rfl,by simp,fun j _ hj => setRow_other w g j _ (fun e => hj (by simp [e]))⟩
theorem ps_capS {x : Operand} {t e sz bytes : TypeId} {A : Option Addr} {n c : Nat} [ht : EL P t e sz bytes] (ho : o.op = .call { callee := .builtin .cap,args := #[x],argTypes := #[t] }) (hx : opd E x = some (.slice A n c)) : PStep P E H G o (.int .i64 (c : Int)) := fun N base w0 a w he hw => by
  simp [execOp,ho,resolve,invoke,builtin,Builtin.cap_,he.eval hx,run_underlying ht.h.1,goInt]
end
theorem putC_app (P Z X : List Value) : putC (P ++ Z) P.length X = P ++ X ++ Z.drop X.length := by
  unfold putC
  rw [List.take_left,List.drop_append,List.drop_of_length_le (by omega),List.nil_append,Nat.add_sub_cancel_left]
theorem ins_grow {P Z X D : List Value} {p x n : Nat} (hp : P.length = p) (hx : X.length = x) (hn : p + x + D.length = n) : (putC (putC (P ++ Z) p X) (p + x) D).take n = P ++ X ++ D := by
  subst hp hx hn
  rw [putC_app,show P.length + X.length = (P ++ X).length by rw [List.length_append],putC_app]
  exact List.take_left' (by rw [List.length_append])
theorem ins_place {C P X D : List Value} {p x n : Nat} (hP : C.take p = P) (hp : p + x + D.length ≤ C.length) (hx : X.length = x) (hn : p + x + D.length = n) : (putC (putC C (p + x) D) p X).take n = P ++ X ++ D := by
  subst hx hn
  have hpl : P.length = p := by rw [← hP,List.length_take];omega
  have e0 : C = P ++ C.drop p := by rw [← hP,List.take_append_drop]
  have e1 : putC C (p + X.length) D = P ++ ((C.drop p).take X.length ++ D ++ C.drop (p + X.length + D.length)) := by
    unfold putC
    rw [List.take_add,hP]
    simp only [List.append_assoc]
  subst hpl
  rw [e1,putC_app]
  have e2 : ((C.drop P.length).take X.length ++ D ++ C.drop (P.length + X.length + D.length)).drop X.length = D ++ C.drop (P.length + X.length + D.length) := by
    rw [List.append_assoc]
    exact List.drop_left' (by rw [List.length_take,List.length_drop];omega)
  rw [e2,← List.append_assoc]
  exact List.take_left' (by simp only [List.length_append])
end Go.Proofs.YtmfojbidojjciaaGreat
namespace Go.Proofs.YtmfojbidojjciaaGreat
open Go.RowKit
attribute [local irreducible] Calls
theorem ps_ovlE {E : Env} {H : List HObj} {G : List World} {o : Oper} {x y : Operand} {tys : Array TypeId} {g1 g2 n1 c1 n2 c2 : Nat} {B : Option Addr} {e1 e2 k : Nat} {cs1 cs2 : List Value} (i j : Nat)
    (ho : o.op = .call { callee := .value (.func 350),args := #[x,y],argTypes := tys }) (hx : opd E x = some (.slice (ga g1) n1 c1)) (hy : opd E y = some (.slice B n2 c2)) (hB : B = (ga g2).map (·.add k)) (hi : H[i]? = some (.box g1 e1 cs1)) (hj : H[j]? = some (.box g2 e2 cs2)) (hij : i ≠ j) (h2 : cs2.length ≠ 0) :
    PStep Tryz.prog E H G o (.bool false) := fun N base w0 a w he hw => by
  obtain ⟨_,hh1⟩ := hw.own _ (List.mem_of_getElem? hi)
  obtain ⟨_,hh2⟩ := hw.own _ (List.mem_of_getElem? hj)
  have hne : g1 ≠ g2 := by
    have hp := List.pairwise_iff_getElem.1 hw.apart
    obtain ⟨hi1,hi2⟩ := List.getElem?_eq_some_iff.1 hi
    obtain ⟨hj1,hj2⟩ := List.getElem?_eq_some_iff.1 hj
    intro e
    subst e
    rcases Nat.lt_or_gt_of_ne hij with h | h
    · have := hp i j hi1 hj1 h
      rw [hi2,hj2] at this
      exact this g1 rfl rfl
    · have := hp j i hj1 hi1 h
      rw [hi2,hj2] at this
      exact this g1 rfl rfl
  have hBe : B = some ⟨g2,k,none⟩ := by
    rw [hB];show some ((⟨g2,0,none⟩ : Addr).add k) = _;rw [ga_add]
  subst hBe
  have hfe : a.eval (.func 350) = .func (.func 350) #[] #[] := rfl
  unfold execOp
  simp only [ho,resolve,Deferred.ofValue,hfe,he.eval hx,he.eval hy,List.map_toArray,List.map_cons,List.map_nil,Sem.run_bind,Sem.run_pure,Result.andThen_ok,invoke,Array.append_empty]
  show ((callFunc _ _).run Tryz.prog w) = _
  rw [run_callFunc_extern Tryz.func350 (by kernel_rfl) (by kernel_rfl) (by kernel_rfl) (e := Extern.SlicesOverlaps.overlaps #[85,85] #[4]) (by kernel_rfl)]
  have hEL : EL Tryz.prog 85 204 4 48 := inferInstance
  have := Lib.run_overlaps_apart (P := Tryz.prog) w 85 4 204 hEL.h.1 4 (fun w => by obtain ⟨_,_,inf,z,hii,hz,hs,_⟩ := hEL.h;simp [sizeOf,typeInfo,hii,hs]) ⟨g1,0,none⟩ ⟨g2,k,none⟩ n1 c1 n2 c2 hne e1 e2 cs1.length cs2.length (by simp [World.shape?,hh1]) (by simp [World.shape?,hh2]) h2 (by exact frozen_of_row w g1 0 _ _ hh1) (by exact frozen_of_row w g1 _ _ _ hh1)
  show Result.andThen ((Extern.SlicesOverlaps.overlaps #[85,85] #[4] #[.slice (some ⟨g1,0,none⟩) n1 c1,.slice (some ⟨g2,k,none⟩) n2 c2]).run Tryz.prog w) _ = _
  rw [this]
  rfl
theorem fl_partsE (R : List Ent) (i : Nat) (x : Ent) : fl (R.take i) ++ fl [x] ++ fl (R.drop i) = fl (R.take i ++ [x] ++ R.drop i) := by rw [fl_app,fl_app]
theorem insertE_c (A : Option Addr) (c gv i : Nat) (R : List Ent) (x : Ent) (hi : i ≤ R.length) (hl : R.length ≤ 4194304) {base : Nat} {w0 w : World} {H : List HObj} {G : List World} (hw : WOk base w0 (.row 204 4 A R.length c (fl R) :: .row 204 4 (ga gv) 1 1 (fl [x]) :: H) G w) :
    Calls Tryz.prog 325 #[.slice A R.length c,.int .i64 i,.slice (ga gv) 1 1] w fun e w' => ∃ y : Ys,e = .returned (.slice (y 0).A (R.take i ++ [x] ++ R.drop i).length (y 0).c) ∧ True ∧ WOk base w0 (.row 204 4 (y 0).A (R.take i ++ [x] ++ R.drop i).length (y 0).c (fl (R.take i ++ [x] ++ R.drop i)) :: H) G w' := by
  have hc := own_cap (hw.own _ List.mem_cons_self)
  have hnl : (R.take i ++ [x] ++ R.drop i).length = R.length + 1 := by simp;omega
  by_cases hin : i = R.length
  · subst hin
    have e : R.take R.length ++ [x] ++ R.drop R.length = R ++ [x] := by simp
    rw [e]
    refine ok_enterW 95 Tryz.func325 rfl rfl rfl hw ?_
    repeat' (first|refine Wa ?_|refine Wb ?_|refine Wc ?_|(refine ok_cond rfl (fun hc => ?_) (fun hc => ?_) <;> (have hd := hc;try simp only [jj] at hd))|refine Wg ?_|refine Wi ?_|(refine Zr 0 ?_;refine Za ?_;refine Ze3 0 1 2 ?_)|(refine Zr 1 ?_;refine Zm ?_;refine Zm ?_;refine Zq (by exact ps_sliceE (l := R.length) rfl rfl rfl rfl (by omega) (by omega)) ?_;refine Ze3 0 1 2 ?_)|(refine Zr 2 ?_;refine Zm ?_;refine Zq (ps_len rfl rfl) ?_;refine Za ?_;refine Ze4 0 1 2 7 ?_)|(refine Zr 3 ?_;refine Zm ?_;refine Zi ?_;refine Ze5 0 1 2 7 16 ?_)|(refine Zr 4 ?_;refine Zm ?_;refine Za ?_;refine Ze1 6 ?_)|(refine Zr 5 ?_;refine Zm ?_;refine Zq (ps_len rfl rfl) ?_;refine Za ?_;refine Ze5 0 1 2 7 8 ?_)|(refine Zr 6 ?_;refine Zm ?_;refine Zm ?_;refine Zi ?_;refine Ze6 0 1 2 7 8 22 ?_)|(refine Zr 7 ?_;refine Zm ?_;refine Zm ?_;refine Zn (by exact ms_appF (α := Ent) (L := R) (M := [x]) 0 rfl rfl rfl rfl (rds_row 1 rfl) rfl (by simp;omega) (by simp;omega)) ?_;rintro y25 hy25;refine Za ?_;refine Ze1 6 ?_))
    · exfalso;omega
    · exact ok_endL (vs := [_]) rfl ⟨rfl,trivial⟩ (fun w' hw => ⟨y25,by simp only [List.length_append];rfl,trivial,by simp only [List.length_append];exact (hw.front 1 rfl).tl⟩)
    · exact absurd trivial hd
  · have h0 : 0 < R.length := by omega
    obtain ⟨g,cur,rfl,hcl,hcm,hnc,hct,hw⟩ := hw.rowBox h0
    obtain ⟨gv',cv,hgv,hvl,_,_,hvt,hw⟩ := (hw.front 1 rfl).rowBox (by omega)
    have hgv2 : gv = gv' := by cases hgv;rfl
    subst hgv2
    rw [hnl]
    have hcv : cv = fl [x] := by rw [← hvt];exact (List.take_of_length_le (by omega)).symm
    subst hcv
    replace hw : WOk base w0 (.box gv 204 (fl [x]) :: .box g 204 cur :: H) G w := hw
    have hxl : (fl [x]).length = 1 * 4 := rfl
    have hDl : (fl (R.drop i)).length = (R.length - i) * 4 := by rw [fl_len,List.length_drop];rfl
    have hTl : (fl (R.take i)).length = i * 4 := by rw [fl_len,List.length_take,Nat.min_eq_left hi];rfl
    have hT : cur.take (i * 4) = fl (R.take i) := by
      have : (fl R).take (i * 4) = fl (R.take i) := fl_take R i
      rw [← this,← hct,List.take_take,Nat.min_eq_left (by omega)]
    have hD : (cur.drop (i * 4)).take ((R.length - i) * 4) = fl (R.drop i) := by
      have e1 : (fl R).drop (i * 4) = fl (R.drop i) := fl_drop R i
      rw [← e1,← hct,List.drop_take]
      congr 1
      omega
    by_cases hroom : R.length + 1 ≤ c
    · have hp1 : (putC cur ((i + 1) * 4) (fl (R.drop i))).length = cur.length := putC_len _ _ _ (by rw [hDl,hcl];omega)
      refine ok_enterW 95 Tryz.func325 rfl rfl rfl hw ?_
      repeat' (first|refine Wa ?_|refine Wb ?_|refine Wc ?_|(refine ok_cond rfl (fun hc => ?_) (fun hc => ?_) <;> (have hd := hc;try simp only [jj] at hd))|refine Wg ?_|refine Wi ?_|(refine Zr 0 ?_;refine Za ?_;refine Ze3 0 1 2 ?_)|(refine Zr 1 ?_;refine Zm ?_;refine Zm ?_;refine Zq (by exact ps_sliceE (l := i) rfl rfl rfl rfl (by omega) (by omega)) ?_;refine Ze3 0 1 2 ?_)|(refine Zr 2 ?_;refine Zm ?_;refine Zq (ps_len rfl rfl) ?_;refine Za ?_;refine Ze4 0 1 2 7 ?_)|(refine Zr 3 ?_;refine Zm ?_;refine Zi ?_;refine Ze5 0 1 2 7 16 ?_)|(refine Zr 4 ?_;refine Zm ?_;refine Za ?_;refine Ze1 6 ?_)|(refine Zr 5 ?_;refine Zm ?_;refine Zq (ps_len rfl rfl) ?_;refine Za ?_;refine Ze5 0 1 2 7 8 ?_)|(refine Zr 6 ?_;refine Zm ?_;refine Zm ?_;refine Zi ?_;refine Ze6 0 1 2 7 8 22 ?_)|(refine Zr 8 ?_;refine Zm ?_;refine Zm ?_;refine Zq (by exact ps_add rfl rfl rfl (by omega)) ?_;refine Zm ?_;refine Zq (ps_capS rfl rfl) ?_;refine Zi ?_;refine Ze6 0 1 2 7 8 31 ?_)|(refine Zr 13 ?_;refine Zm ?_;refine Zm ?_;refine Zm ?_;refine Zq (by exact ps_add rfl rfl rfl (by omega)) ?_;refine Zq (by exact ps_slice0 (h := R.length + 1) rfl rfl rfl rfl (by omega)) ?_;refine Za ?_;refine Ze5 0 1 2 7 8 ?_)|(refine Zr 14 ?_;refine Zm ?_;refine Zm ?_;refine Zm ?_;refine Zm ?_;refine Zq (by exact ps_add rfl rfl rfl (by omega)) ?_;refine Zq (by exact ps_sliceE (l := i + 1) rfl rfl rfl (by omega) (by omega) (by omega)) ?_;refine Zn (by exact ms_ps (ps_ovlE 0 1 rfl rfl rfl (if_neg (by omega)) rfl rfl (by decide) (by omega))) ?_;rintro y67 hy67;refine Zq (ps_not rfl rfl) ?_;refine Ze6 0 1 2 7 8 68 ?_)|(refine ok_draw (id := 15) 9 rfl (by kernel_rfl) (by kernel_rfl) rfl (by repeat (first | exact pq_body | refine pq_then ?_ | refine pq_in ?_)) [0] (by decide) rfl ?_;refine Xm 0 ?_;refine Xm 1 ?_;refine Xm 2 ?_;refine Xt 3 rfl (by exact ps_add rfl rfl rfl (by omega)) ?_;refine Xt 4 rfl (by exact ps_sliceE (l := i + 1) rfl rfl rfl (by omega) (by omega) (by omega)) ?_;refine Xm 5 ?_;refine Xm 6 ?_;refine Xt 7 rfl (by exact ps_sliceE (l := i) rfl rfl rfl (by omega) (by omega) (by omega)) ?_;refine Xo 8 rfl (by exact ms_copyB (q := i + 1) (k := R.length - i) 1 rfl rfl (if_neg (by omega)) rfl rfl (by rw [if_neg (show ¬ c = i by omega),← hD];exact (rds_box 1 rfl).sub) (by simp only [Nat.min_def];split <;> omega) hDl (fl_oneC _) (by rw [hDl,hcl];omega) (by omega)) (fun y w _ h => by exact h.sel [0] (by decide) rfl (fun _ h => h)) ?_;rintro y77 hy77;refine okT_done (by kernel_rfl) ?_;refine Ze3 0 1 2 ?_)|(refine Zr 16 ?_;refine Zm ?_;refine Zm ?_;refine Zq (by exact ps_sliceE (l := i) rfl rfl rfl (by omega) (by omega) (by omega)) ?_;refine Zm ?_;refine Zn (by exact ms_copyB (q := i) (k := 1) 1 rfl rfl (if_neg (by omega)) rfl rfl (rds_box 0 rfl) (by simp only [Nat.min_def];split <;> omega) hxl (fl_oneC _) (by rw [hp1,hxl,hcl];omega) (by omega)) ?_;rintro y82 hy82;refine Ze1 0 ?_)|(refine Zr 17 ?_;refine Zm ?_;refine Za ?_;refine Ze1 6 ?_))
      all_goals first
        | (exfalso;omega)
        | exact absurd trivial hd
        | (exfalso;cases hc;done)
        | (refine ok_endL (vs := [_]) rfl ⟨rfl,trivial⟩ (fun w' hw => ⟨mkY (ga g) c w',rfl,trivial,?_⟩)
           exact WOk.boxRow (c := c) hw.tl (by rw [putC_len _ _ _ (by rw [hp1,hxl,hcl];omega),hp1,hcl]) hcm hroom (by
             rw [show (i + 1) * 4 = i * 4 + 4 by omega,← fl_partsE]
             exact ins_place hT (by rw [hDl,hcl];omega) hxl (by rw [hDl];omega)))
    · refine ok_enterW 95 Tryz.func325 rfl rfl rfl hw ?_
      repeat' (first|refine Wa ?_|refine Wb ?_|refine Wc ?_|(refine ok_cond rfl (fun hc => ?_) (fun hc => ?_) <;> (have hd := hc;try simp only [jj] at hd))|refine Wg ?_|refine Wi ?_|(refine Zr 0 ?_;refine Za ?_;refine Ze3 0 1 2 ?_)|(refine Zr 1 ?_;refine Zm ?_;refine Zm ?_;refine Zq (by exact ps_sliceE (l := i) rfl rfl rfl rfl (by omega) (by omega)) ?_;refine Ze3 0 1 2 ?_)|(refine Zr 2 ?_;refine Zm ?_;refine Zq (ps_len rfl rfl) ?_;refine Za ?_;refine Ze4 0 1 2 7 ?_)|(refine Zr 3 ?_;refine Zm ?_;refine Zi ?_;refine Ze5 0 1 2 7 16 ?_)|(refine Zr 4 ?_;refine Zm ?_;refine Za ?_;refine Ze1 6 ?_)|(refine Zr 5 ?_;refine Zm ?_;refine Zq (ps_len rfl rfl) ?_;refine Za ?_;refine Ze5 0 1 2 7 8 ?_)|(refine Zr 6 ?_;refine Zm ?_;refine Zm ?_;refine Zi ?_;refine Ze6 0 1 2 7 8 22 ?_)|(refine Zr 8 ?_;refine Zm ?_;refine Zm ?_;refine Zq (by exact ps_add rfl rfl rfl (by omega)) ?_;refine Zm ?_;refine Zq (ps_capS rfl rfl) ?_;refine Zi ?_;refine Ze6 0 1 2 7 8 31 ?_)|(refine Zr 9 ?_;refine Zm ?_;refine Zm ?_;refine Zq (by exact ps_slice0 (h := i) rfl rfl rfl rfl (by omega)) ?_;refine Zm ?_;refine Zm ?_;refine Zq (by exact ps_add rfl rfl rfl (by omega)) ?_;refine Zm ?_;refine Zq (by exact ps_cast (v' := .int .i64 ((R.length + 1 - i : Nat) : Int)) (ps_sub rfl rfl rfl (by omega)) (by rw [show (R.length : Int) + ((1 : Nat) : Int) - (i : Int) = ((R.length + 1 - i : Nat) : Int) by omega])) ?_;refine Zn (by exact ms_appZ (us := fl (R.take i)) (z := [.string ⟨#[]⟩,.int .i64 0,.bool false,.string ⟨#[]⟩]) rfl rfl rfl (by rw [← hT];exact rds_take (rds_box 1 rfl) _) hTl (by omega) (by omega) (by omega) (by omega)) ?_;rintro y40 hy40;refine Za ?_;refine Ze5 0 1 2 7 9 ?_)|(refine Zr 10 ?_;refine Zm ?_;refine Zm ?_;refine Zq (by exact ps_sliceE (l := i) rfl rfl rfl rfl (by omega) (by omega)) ?_;refine Zm ?_;refine Zn (by exact ms_copyB (q := i) (k := 1) 0 rfl rfl (if_neg (by omega)) rfl rfl (rds_box 1 rfl) (by simp only [Nat.min_def];split <;> omega) hxl (fl_oneC _) (by simp only [List.length_append,zz_len,hTl,hxl,List.length_cons,List.length_nil];omega) (by omega)) ?_;rintro y45 hy45;refine Ze4 0 1 7 9 ?_)|(refine ok_draw (id := 11) 9 rfl (by kernel_rfl) (by kernel_rfl) rfl (by repeat (first | exact pq_body | refine pq_then ?_ | refine pq_in ?_)) [1,2] (by decide) rfl ?_;refine Xm 0 ?_;refine Xm 1 ?_;refine Xm 2 ?_;refine Xt 3 rfl (by exact ps_add rfl rfl rfl (by omega)) ?_;refine Xt 4 rfl (by exact ps_sliceE (l := i + 1) rfl rfl rfl (by omega) (by omega) (by omega)) ?_;refine Xm 5 ?_;refine Xm 6 ?_;refine Xt 7 rfl (by exact ps_sliceE (l := i) rfl rfl rfl rfl (by omega) (by omega)) ?_;refine Xo 8 rfl (by exact ms_copyB (q := i + 1) (k := R.length - i) 0 rfl rfl (if_neg (by omega)) rfl rfl (by rw [if_neg (show ¬ c = i by omega),← hD];exact (rds_box 2 rfl).sub) (by simp only [Nat.min_def];split <;> omega) hDl (fl_oneC _) (by rw [putC_len _ _ _ (by simp only [List.length_append,zz_len,hTl,hxl,List.length_cons,List.length_nil];omega)];simp only [List.length_append,zz_len,hTl,hDl,List.length_cons,List.length_nil];omega) (by omega)) (fun y w _ h => by exact h.sel [1,2] (by decide) rfl (fun _ h => h)) ?_;rintro y54 hy54;refine okT_done (by kernel_rfl) ?_;refine Ze1 9 ?_)|(refine Zr 12 ?_;refine Zm ?_;refine Za ?_;refine Ze1 6 ?_))
      all_goals first
        | (exfalso;omega)
        | exact absurd trivial hd
        | (have ea : i + (R.length + 1 - i) = R.length + 1 := by omega
           refine ok_endL (vs := [_]) rfl ⟨rfl,trivial⟩ (fun w' hw => ⟨mkY (ga (y40 0).c) (y40 1).c w',by rw [ea];rfl,trivial,?_⟩)
           have q1 : (((fl (R.take i) ++ zz [.string ⟨#[]⟩,.int .i64 0,.bool false,.string ⟨#[]⟩] (R.length + 1 - i)) ++ zz [.string ⟨#[]⟩,.int .i64 0,.bool false,.string ⟨#[]⟩] ((y40 1).c - (i + (R.length + 1 - i)))).length) = (y40 1).c * 4 := by
             simp only [List.length_append,zz_len,hTl,List.length_cons,List.length_nil];omega
           have q2 := putC_len (((fl (R.take i) ++ zz [.string ⟨#[]⟩,.int .i64 0,.bool false,.string ⟨#[]⟩] (R.length + 1 - i)) ++ zz [.string ⟨#[]⟩,.int .i64 0,.bool false,.string ⟨#[]⟩] ((y40 1).c - (i + (R.length + 1 - i))))) (i * 4) (fl [x]) (by rw [q1,hxl];omega)
           have q3 := putC_len (putC (((fl (R.take i) ++ zz [.string ⟨#[]⟩,.int .i64 0,.bool false,.string ⟨#[]⟩] (R.length + 1 - i)) ++ zz [.string ⟨#[]⟩,.int .i64 0,.bool false,.string ⟨#[]⟩] ((y40 1).c - (i + (R.length + 1 - i))))) (i * 4) (fl [x])) ((i + 1) * 4) (fl (R.drop i)) (by rw [q2,q1,hDl];omega)
           refine WOk.boxRow (c := (y40 1).c) ((hw.front 1 rfl).tl.front 1 rfl).tl (by rw [q3,q2,q1]) hy40.2 (by omega) ?_
           rw [show (i + 1) * 4 = i * 4 + 4 by omega,← fl_partsE,List.append_assoc (fl (R.take i))]
           exact ins_grow hTl hxl (by rw [hDl];omega))
theorem cmpE_lt2 (a b : Ent) : decide (cmpE a b < 0) = aheadE a b := by
  have := cmpE_ahead a b
  rw [Bool.eq_iff_iff]
  constructor
  · intro h;cases hq : aheadE a b with
    | true => rfl
    | false => rw [hq] at this;simp at this h;omega
  · intro h;rw [h] at this;simp at this ⊢;omega
structure BsI (l : List Ent) (x : Ent) where
  i : Nat
  j : Nat
  hij : i ≤ j ∧ j ≤ l.length
  ha : ∀ q,q < i → aheadE (nth l q) x = true
  hb : ∀ q,j ≤ q → q < l.length → aheadE (nth l q) x = false
def fndE (l : List Ent) (x : Ent) (p : Nat) : Bool := decide ((p : Int) < (l.length : Int)) && ((cmpE (nth l p) x : Int) == 0)
theorem str_at {l : List Ent} (hs : strE l) {i j : Nat} (hij : i < j) (hj : j < l.length) : aheadE (nth l i) (nth l j) = true := by
  have := List.pairwise_iff_getElem.1 hs i j (by omega) hj hij
  have e1 : nth l i = l[i] := by simp [nth,show i < l.length from by omega]
  have e2 : nth l j = l[j] := by simp [nth,hj]
  rw [e1,e2];exact this
theorem bsE_c (A : Option Addr) (c : Nat) (l : List Ent) (x : Ent) (w : World) (h : Rd w A (fl l)) (hl : l.length ≤ 4194304) (hs : strE l) :
    Calls Tryz.prog 324 #[.slice A l.length c,.agg (Dat.cells x).toArray,.func (.func 217) #[] #[]] w fun e w' => ∃ y : Ys,e = .returned (.tuple #[.int .i64 ((y 0).c : Int),.bool (fndE l x (y 0).c)]) ∧ ((y 0).c ≤ l.length ∧ (∀ q,q < (y 0).c → aheadE (nth l q) x = true) ∧ ((y 0).c < l.length → aheadE (nth l (y 0).c) x = false)) ∧ Below w.heap.size w w' ∧ NewOk w.heap.size [] [] w' := by
  have HS := Lib.hid hs;clear hs
  refine ok_enter 49 Tryz.func324 rfl rfl rfl ?_
  repeat' (first|refine Wa ?_|refine Wd ?_|(refine Zr 0 ?_;refine Zn (ms_box rfl rfl rfl) ?_;rintro y4 hy4;refine Za ?_;refine Za ?_;refine Ze3 0 2 4 ?_)|(refine Zr 1 ?_;refine Zm ?_;refine Zq (ps_len rfl rfl) ?_;refine Za ?_;refine Ze4 0 2 4 8 ?_)|(refine Zr 2 ?_;refine Zm ?_;refine Za ?_;refine Za ?_;refine Ze6 0 2 4 8 9 10 ?_))
  refine ok_loop (ι := BsI l x) (fun q => q.j - q.i) (fun q => ([(0,.slice A l.length c),(2,.func (.func 217) #[] #[]),(4,pt (ga (y4 0).c) 0),(8,.int .i64 l.length),(9,.int .i64 q.i),(10,.int .i64 q.j)],_,_)) ⟨0,l.length,by omega,fun q h => absurd h (Nat.not_lt_zero q),fun q h1 h2 => by omega⟩ (fun a w he hw => ⟨⟨0,l.length,by omega,fun q h => absurd h (Nat.not_lt_zero q),fun q h1 h2 => by omega⟩,he.sub ⟨rfl,rfl,rfl,rfl,rfl,rfl,trivial⟩,hw⟩) ?_
  rintro ⟨i,j,hij,ha,hb⟩
  simp only at hij ha hb ⊢
  have HA := Lib.hid ha;clear ha
  have HB := Lib.hid hb;clear hb
  repeat' (first|refine Wa ?_|refine Wb ?_|refine Wd ?_|refine We ?_|(refine ok_cond rfl (fun hc => ?_) (fun hc => ?_) <;> (have hd := hc;try simp only [jj] at hd))|refine Wg ?_|refine Wh ?_|refine Wi ?_|(refine Zr 3 ?_;refine Zm ?_;refine Zm ?_;refine Zi ?_;refine Ze7 0 2 4 8 9 10 17 ?_)|(refine Zr 4 ?_;refine Zm ?_;refine Zm ?_;refine Zq (by exact ps_add rfl rfl rfl (by omega)) ?_;refine Zq (by exact ps_conv_id rfl rfl (IntWalk.u64_in _ (by omega))) ?_;refine Zq (ps_half rfl rfl) ?_;refine Zq (by exact ps_conv_id rfl rfl (IntWalk.i64_in _ (by omega))) ?_;refine Za ?_;refine Ze7 0 2 4 8 9 10 11 ?_)|(refine Xd 5 8 ?_;refine Xm 0 ?_;refine Xm 1 ?_;refine Xm 2 ?_;refine Xt 3 rfl (by exact ps_indexN rfl rfl rfl (by omega) (by exact isw_of (isS_fl (by assumption) (by omega)))) ?_;refine Xt 4 rfl (by exact ps_loadsF rfl rfl (by exact rds_rf (by assumption) List.mem_cons_self) (by rfl) (by rfl) (by omega) rfl) ?_;refine Xt 5 rfl (by exact ps_loads rfl rfl (by exact rds_box 0 rfl) rfl rfl (by decide)) ?_;refine Xo 6 rfl (by exact ms_v2 rfl rfl rfl rfl (fun _ _ w hw => compareEnts_c (nth l ((i + j) / 2)) x w)) (fun y w _ h => by exact h) ?_;rintro y30 hy30;refine Xt 7 rfl (ps_int rfl rfl rfl rfl) ?_;refine okT_done (by kernel_rfl) ?_;refine Ze8 0 2 4 8 9 10 11 31 ?_)|(refine Zr 6 ?_;refine Zm ?_;refine Zq (by exact ps_add rfl rfl rfl (by omega)) ?_;refine Za ?_;refine Ze6 0 2 4 8 9 10 ?_)|(refine Zr 7 ?_;refine Zm ?_;refine Za ?_;refine Ze6 0 2 4 8 9 10 ?_)|(refine Xd 8 16 ?_;refine Xm 0 ?_;refine Xm 1 ?_;refine Xm 2 ?_;refine Xt 3 rfl (ps_int rfl rfl rfl rfl) ?_;refine Xm 4 ?_;refine Xg 5 rfl rfl rfl rfl (gT _) (fun hp => by exact ps_move rfl rfl) ?_;refine Xg 6 rfl rfl rfl rfl (gT _) (fun hp => by exact ps_move rfl rfl) ?_;refine Xg 7 rfl rfl rfl rfl (gT _) (fun hp => by exact ps_move rfl rfl) ?_;refine Xg 8 rfl rfl rfl rfl (gT _) (fun hp => by (have hpd := hp;(try simp only [jj] at hpd);exact ps_indexN rfl (Og rfl) (Og rfl) (by omega) (by exact isw_of (isS_fl (by assumption) (by omega))))) ?_;refine Xg 9 rfl rfl rfl rfl (gT _) (fun hp => by (have hpd := hp;(try simp only [jj] at hpd);exact ps_loadsF rfl (Og rfl) (by exact rds_rf (by assumption) List.mem_cons_self) (by rfl) (by rfl) (by omega) rfl)) ?_;refine Xg 10 rfl rfl rfl rfl (gT _) (fun hp => by exact ps_loads rfl rfl (by exact rds_box 0 rfl) rfl rfl (by decide)) ?_;refine okT_one_g1 (i := 11) rfl rfl (by kernel_rfl) rfl rfl rfl rfl rfl (gT _) (fun hp => by (exact ms_v2 rfl (Og rfl) (Og rfl) (Og rfl) (fun _ _ w hw => compareEnts_c (nth l i) x w))) (fun w h => by exact h) ?_;refine Xg 12 rfl rfl rfl rfl (gT _) (fun hp => by (exact ps_int rfl (Og rfl) rfl rfl)) ?_;refine Xt 13 rfl (ps_and rfl rfl rfl) ?_;refine Xt 14 rfl (ps_assign rfl rfl) ?_;refine Xt 15 rfl (ps_assign rfl rfl) ?_;refine okT_done (by kernel_rfl) ?_;refine Ze2 6 7 ?_))
  · have h1 : aheadE (nth l ((i + j) / 2)) x = true := by rw [← cmpE_lt2];exact hc
    exact fun a w' he hw => ⟨⟨(i + j) / 2 + 1,j,by omega,fun q hq => by
      rcases Nat.lt_succ_iff_lt_or_eq.1 hq with h' | h'
      · exact ahead_trans (str_at HS.out h' (by omega)) h1
      · subst h';exact h1,HB.out⟩,by simp only;omega,he.sub ⟨rfl,rfl,rfl,rfl,rfl,rfl,trivial⟩,hw⟩
  · have h1 : aheadE (nth l ((i + j) / 2)) x = false := by rw [← cmpE_lt2];exact hc
    exact fun a w' he hw => ⟨⟨i,(i + j) / 2,by omega,HA.out,fun q h2 h3 => by
      rcases Nat.eq_or_lt_of_le h2 with h' | h'
      · subst h';exact h1
      · cases hq : aheadE (nth l q) x with
        | false => rfl
        | true =>
          have := ahead_trans (str_at HS.out h' h3) hq
          rw [h1] at this;cases this⟩,by simp only;omega,he.sub ⟨rfl,rfl,rfl,rfl,rfl,rfl,trivial⟩,hw⟩
  · obtain rfl : i = j := by omega
    exact ok_endL (vs := [_,_]) rfl ⟨rfl,rfl,trivial⟩ (fun w' hw => ⟨mkY none i w',rfl,⟨hij.2,HA.out,fun h => HB.out i (Nat.le_refl _) h⟩,hw.below,NewOk.nil _ _⟩)
theorem cmpE_zero {a b : Ent} (h : cmpE a b = 0) : sameE a b = true := by
  unfold cmpE or2 at h
  split at h
  · rename_i h1;exact absurd h h1
  · rename_i h1
    have h1 : cmpT a.key b.key = 0 := by simpa using h1
    unfold cmpI at h
    have hq : a.seq = b.seq := by
      split at h
      · cases h
      · split at h
        · cases h
        · omega
    unfold cmpT at h1
    have hk : sEq a.key b.key = true := by
      rcases sTri a.key b.key with ⟨g1,g2,g3⟩ | ⟨g1,g2,g3⟩ | ⟨g1,g2,g3⟩
      · rw [g1] at h1;simp at h1
      · rw [g1,g2] at h1;simp at h1
      · exact g3
    unfold sameE;rw [hk,hq];simp
theorem fnd_no {R : List Ent} {x : Ent} (hn : ∀ y ∈ R,sameE y x = false) (p : Nat) : fndE R x p = false := by
  unfold fndE
  rw [Bool.and_eq_false_iff]
  by_cases hp : p < R.length
  · right
    cases hq : ((cmpE (nth R p) x : Int) == 0) with
    | false => rfl
    | true =>
      have := cmpE_zero (by simpa using hq)
      rw [hn _ (nth_mem R p hp)] at this;cases this
  · left;simp;omega
theorem i_put (A : Option Addr) (c : Nat) (R : List Ent) (x : Ent) (hs : strE R) (hn : ∀ y ∈ R,sameE y x = false) (hl : R.length ≤ 4194304) {base : Nat} {w0 w : World} {H : List HObj} {G : List World} (hw : WOk base w0 (.row 204 4 A R.length c (fl R) :: H) G w) :
    Calls Tryz.prog 279 #[.slice A R.length c,.agg (Dat.cells x).toArray] w fun e w' => ∃ y : Ys,e = .returned (.tuple #[.slice (y 0).A (insE R x).length (y 0).c,.bool true]) ∧ True ∧ WOk base w0 (.row 204 4 (y 0).A (insE R x).length (y 0).c (fl (insE R x)) :: H) G w' := by
  have hf := fun p => fnd_no hn p
  have HF := Lib.hid hf;clear hf
  have HN := Lib.hid hn;clear hn
  have HS := Lib.hid hs;clear hs
  refine ok_enterW 21 Tryz.func279 rfl rfl rfl hw ?_
  repeat' ((fail_if_success (refine at_reg 4 ?_));first
    | refine Wa ?_
    | refine Wb ?_
    | refine Wc ?_
    | (refine ok_cond rfl (fun hc => ?_) (fun hc => ?_) <;> (have hd := hc;try simp only [jj] at hd))
    | refine Wg ?_
    | refine Wi ?_
    | (refine Zr 0 ?_;refine Zn (ms_box rfl rfl rfl) ?_;rintro y3 hy3;refine Za ?_;refine Za ?_;refine Ze2 0 3 ?_)
    | (refine Zr 1 ?_;refine Zm ?_;refine Zq (by exact ps_loads rfl rfl (by exact rds_box 0 rfl) rfl rfl (by decide)) ?_;refine Zn (by exact ms_c3 rfl rfl rfl rfl (fun _ _ w hw => bsE_c A c R x w (hw.row 1 rfl) hl HS.out)) ?_;rintro y11 hy11;refine Zm ?_;refine Zq (ps_extract rfl rfl rfl) ?_;refine Zq (ps_extract rfl rfl rfl) ?_;refine Za ?_;refine Za ?_;refine Ze4 0 3 6 7 ?_)
    | (refine Zr 2 ?_;refine Zm ?_;refine Ze4 0 3 6 14 ?_)
    | (refine Zr 3 ?_;refine Zm ?_;refine Za ?_;refine Za ?_;refine Ze2 4 5 ?_))
  · exfalso;rw [HF.out] at hd;cases hd
  obtain ⟨h1,h2,h3⟩ := hy11
  generalize (y11 0).c = p at h1 h2 h3 ⊢
  have e := insE_at R x p h1 HN.out h2 h3
  have e2 : insE R x = R.take p ++ [x] ++ R.drop p := by rw [e];simp
  rw [e2]
  clear hc hd e e2 h2 h3
  repeat' (first|refine Wb ?_|refine Wg ?_|(refine Zr 4 ?_;refine Zm ?_;refine Zm ?_;refine Zq (by exact ps_loads rfl rfl (by exact rds_box 0 rfl) rfl rfl (by decide)) ?_;refine Zn (by exact ms_lit rfl (parts_cons rfl parts_nil) rfl rfl rfl) ?_;rintro y19 hy19;refine Zn (by exact ms_w3 (fun _ _ _ h => h.front 2 rfl) rfl rfl rfl rfl (fun _ _ w hw => insertE_c A c _ p R x h1 hl hw)) ?_;rintro y20 hy20;refine Za ?_;refine Za ?_;refine Ze2 4 5 ?_))
  exact ok_endL (vs := [_,_]) rfl ⟨rfl,rfl,trivial⟩ (fun w' hw => ⟨y20,rfl,trivial,(hw.front 1 rfl).tl⟩)
theorem indexO_c (f : FuncId) [hF : FN Tryz.prog f] (cs : List Value) (p : Opp → Bool) (A : Option Addr) (c : Nat) (R : List Opp) (w : World) (h : Rd w A (fl R)) (hl : R.length ≤ 4194304)
    (hf : ∀ (x : Opp) (w' : World),Keeps w w' → Calls Tryz.prog f (Value.agg (Dat.cells x).toArray :: cs).toArray w' (fun e w'' => e = .returned (.bool (p x)) ∧ Below w'.heap.size w' w'')) :
    Calls Tryz.prog 323 #[.slice A R.length c,.func (.func f) #[] cs.toArray] w fun e w' => e = .returned (.int .i64 (ixP p R)) ∧ Below w.heap.size w w' := by
  refine ok_enter 19 Tryz.func323 rfl rfl rfl ?_
  repeat' (first|refine Wa ?_|refine Wb ?_|refine Wc ?_|refine ok_then_exit ?_|refine Wd ?_|refine We ?_|refine Wf ?_|refine ok_in_exit ?_|refine ok_in_other rfl ?_|(refine ok_cond rfl (fun hc => ?_) (fun hc => ?_) <;> (have hd := hc;try simp only [jj] at hd))|refine Wg ?_|refine Wh ?_|refine Wi ?_|(refine Zr 0 ?_;refine Za ?_;refine Ze2 0 1 ?_)|(refine Zr 1 ?_;refine Zm ?_;refine Zq (ps_len rfl rfl) ?_;refine Zm ?_;refine Ze4 0 1 7 8 ?_)|(refine Zr 2 ?_;refine Zi ?_;refine Ze5 0 1 7 8 9 ?_)|(refine Zr 3 ?_;refine Zm ?_;refine Za ?_;refine Ze5 0 1 5 7 8 ?_)|(refine Zr 4 ?_;refine Zm ?_;refine Zm ?_;refine Zm ?_;refine Zq (by first | exact ps_indexN rfl rfl rfl (by omega) (by first | exact isw_ga _ | exact isw_some _ | exact isw_row 0 rfl (by omega) | exact isw_row 1 rfl (by omega) | exact isw_row 2 rfl (by omega) | exact isw_row 3 rfl (by omega) | exact isw_row 4 rfl (by omega) | exact isw_row 5 rfl (by omega) | exact isw_row 6 rfl (by omega) | exact isw_row 7 rfl (by omega) | exact isw_row 8 rfl (by omega) | exact isw_of (isS_fl (by assumption) (by omega)) | exact isw_of (by assumption)) | exact ps_index rfl rfl rfl (by omega) (by first | exact isw_ga _ | exact isw_some _ | exact isw_row 0 rfl (by omega) | exact isw_row 1 rfl (by omega) | exact isw_row 2 rfl (by omega) | exact isw_row 3 rfl (by omega) | exact isw_row 4 rfl (by omega) | exact isw_row 5 rfl (by omega) | exact isw_row 6 rfl (by omega) | exact isw_row 7 rfl (by omega) | exact isw_row 8 rfl (by omega) | exact isw_of (isS_fl (by assumption) (by omega)) | exact isw_of (by assumption))) ?_;refine Zq (by first | exact ps_loads rfl rfl (by first | exact rds_box 0 rfl | exact rds_box 1 rfl | exact rds_box 2 rfl | exact rds_box 3 rfl | exact rds_box 4 rfl | exact rds_box 5 rfl | exact rds_box 6 rfl | exact rds_box 7 rfl | exact rds_box 8 rfl | exact rds_box 9 rfl | exact rds_box 10 rfl | exact rds_box 11 rfl | exact rds_box 12 rfl | exact rds_box 13 rfl | exact rds_box 14 rfl | exact rds_box 15 rfl | exact rds_box 16 rfl | exact rds_box 17 rfl | exact rds_box 18 rfl | exact rds_box 19 rfl | exact rds_box 20 rfl | exact rds_box 21 rfl | exact rds_box 22 rfl | exact rds_box 23 rfl) rfl rfl (by decide) | exact ps_loadsF rfl rfl (by first | exact rds_row 0 rfl | exact rds_row 1 rfl | exact rds_row 2 rfl | exact rds_row 3 rfl | exact rds_row 4 rfl | exact rds_row 5 rfl | exact rds_row 6 rfl | exact rds_row 7 rfl | exact rds_row 8 rfl | exact rds_row 9 rfl | exact rds_row 10 rfl | exact rds_row 11 rfl | exact rds_row 12 rfl | exact rds_row 13 rfl | exact rds_row 14 rfl | exact rds_row 15 rfl | exact rds_row 16 rfl | exact rds_row 17 rfl | exact rds_row 18 rfl | exact rds_row 19 rfl | exact rds_row 20 rfl | exact rds_row 21 rfl | exact rds_row 22 rfl | exact rds_row 23 rfl | exact rds_rf (by assumption) (by first | exact List.mem_cons_self | exact List.mem_cons_of_mem _ List.mem_cons_self | simp)) (by rfl) (by rfl) (by omega) rfl) ?_;refine Zn (by fail "no maker call") ?_;rintro y16 hy16;refine Ze6 0 1 5 7 8 16 ?_)|(refine Zr 5 ?_;refine Zm ?_;refine Za ?_;refine Ze1 4 ?_)|(refine Zr 6 ?_;refine Zq (by exact ps_add rfl rfl rfl (by omega)) ?_;refine Zm ?_;refine Ze4 0 1 7 8 ?_)|(refine Zr 7 ?_;refine Za ?_;refine Ze1 4 ?_))
  refine ok_loop (ι := { k : Nat // k ≤ R.length ∧ ixP p R = ixF p R (R.length - k) k }) (fun k => R.length - k.1) (fun k => ([(0,.slice A R.length c),(1,.func (.func f) #[] cs.toArray),(7,.int .i64 R.length),(8,.int .i64 k.1)],_,_)) ⟨0,by omega,rfl⟩ (fun a w he hw => ⟨⟨0,by omega,rfl⟩,he.sub ⟨rfl,rfl,rfl,rfl,trivial⟩,hw⟩) ?_
  rintro ⟨k,hk,hr⟩
  simp only at hk hr ⊢
  have HR := Lib.hid hr;clear hr
  repeat' (first|refine Wa ?_|refine Wb ?_|refine Wc ?_|refine ok_then_exit ?_|refine Wd ?_|refine We ?_|refine Wf ?_|refine ok_in_exit ?_|refine ok_in_other rfl ?_|(refine ok_cond rfl (fun hc => ?_) (fun hc => ?_) <;> (have hd := hc;try simp only [jj] at hd))|refine Wg ?_|refine Wh ?_|refine Wi ?_|(refine Zr 0 ?_;refine Za ?_;refine Ze2 0 1 ?_)|(refine Zr 1 ?_;refine Zm ?_;refine Zq (ps_len rfl rfl) ?_;refine Zm ?_;refine Ze4 0 1 7 8 ?_)|(refine Zr 2 ?_;refine Zi ?_;refine Ze5 0 1 7 8 9 ?_)|(refine Zr 3 ?_;refine Zm ?_;refine Za ?_;refine Ze5 0 1 5 7 8 ?_)|(refine Zr 4 ?_;refine Zm ?_;refine Zm ?_;refine Zm ?_;refine Zq (by first | exact ps_indexN rfl rfl rfl (by omega) (by first | exact isw_ga _ | exact isw_some _ | exact isw_row 0 rfl (by omega) | exact isw_row 1 rfl (by omega) | exact isw_row 2 rfl (by omega) | exact isw_row 3 rfl (by omega) | exact isw_row 4 rfl (by omega) | exact isw_row 5 rfl (by omega) | exact isw_row 6 rfl (by omega) | exact isw_row 7 rfl (by omega) | exact isw_row 8 rfl (by omega) | exact isw_of (isS_fl (by assumption) (by omega)) | exact isw_of (by assumption)) | exact ps_index rfl rfl rfl (by omega) (by first | exact isw_ga _ | exact isw_some _ | exact isw_row 0 rfl (by omega) | exact isw_row 1 rfl (by omega) | exact isw_row 2 rfl (by omega) | exact isw_row 3 rfl (by omega) | exact isw_row 4 rfl (by omega) | exact isw_row 5 rfl (by omega) | exact isw_row 6 rfl (by omega) | exact isw_row 7 rfl (by omega) | exact isw_row 8 rfl (by omega) | exact isw_of (isS_fl (by assumption) (by omega)) | exact isw_of (by assumption))) ?_;refine Zq (by first | exact ps_loads rfl rfl (by first | exact rds_box 0 rfl | exact rds_box 1 rfl | exact rds_box 2 rfl | exact rds_box 3 rfl | exact rds_box 4 rfl | exact rds_box 5 rfl | exact rds_box 6 rfl | exact rds_box 7 rfl | exact rds_box 8 rfl | exact rds_box 9 rfl | exact rds_box 10 rfl | exact rds_box 11 rfl | exact rds_box 12 rfl | exact rds_box 13 rfl | exact rds_box 14 rfl | exact rds_box 15 rfl | exact rds_box 16 rfl | exact rds_box 17 rfl | exact rds_box 18 rfl | exact rds_box 19 rfl | exact rds_box 20 rfl | exact rds_box 21 rfl | exact rds_box 22 rfl | exact rds_box 23 rfl) rfl rfl (by decide) | exact ps_loadsF rfl rfl (by first | exact rds_row 0 rfl | exact rds_row 1 rfl | exact rds_row 2 rfl | exact rds_row 3 rfl | exact rds_row 4 rfl | exact rds_row 5 rfl | exact rds_row 6 rfl | exact rds_row 7 rfl | exact rds_row 8 rfl | exact rds_row 9 rfl | exact rds_row 10 rfl | exact rds_row 11 rfl | exact rds_row 12 rfl | exact rds_row 13 rfl | exact rds_row 14 rfl | exact rds_row 15 rfl | exact rds_row 16 rfl | exact rds_row 17 rfl | exact rds_row 18 rfl | exact rds_row 19 rfl | exact rds_row 20 rfl | exact rds_row 21 rfl | exact rds_row 22 rfl | exact rds_row 23 rfl | exact rds_rf (by assumption) (by first | exact List.mem_cons_self | exact List.mem_cons_of_mem _ List.mem_cons_self | simp)) (by rfl) (by rfl) (by omega) rfl) ?_;refine Zn (by exact ms_k1 rfl rfl rfl (fun _ _ w' hw => hf (nth R k) w' (hw.keeps (by first | exact List.mem_cons_self | exact List.mem_cons_of_mem _ List.mem_cons_self | simp)))) ?_;rintro y16 hy16;refine Ze6 0 1 5 7 8 16 ?_)|(refine Zr 5 ?_;refine Zm ?_;refine Za ?_;refine Ze1 4 ?_)|(refine Zr 6 ?_;refine Zq (by exact ps_add rfl rfl rfl (by omega)) ?_;refine Zm ?_;refine Ze4 0 1 7 8 ?_)|(refine Zr 7 ?_;refine Za ?_;refine Ze1 4 ?_))
  · have e : ixP p R = (k : Int) := by rw [HR.out,ixF_step (by omega),hc];rfl
    rw [e]
    exact ok_endL (vs := [_]) rfl ⟨rfl,trivial⟩ (fun w' hw => ⟨rfl,hw.below⟩)
  · have e : ixF p R (R.length - k) k = ixF p R (R.length - (k + 1)) (k + 1) := by rw [ixF_step (by omega),hc];rfl
    exact fun a w' he hw => ⟨⟨k + 1,by omega,HR.out.trans e⟩,by simp only;omega,he.sub ⟨rfl,rfl,rfl,rfl,trivial⟩,hw⟩
  · obtain rfl : k = R.length := by omega
    have e : ixP p R = -1 := by rw [HR.out,Nat.sub_self];rfl
    rw [e]
    exact ok_endL (vs := [_]) rfl ⟨rfl,trivial⟩ (fun w' hw => ⟨rfl,hw.below⟩)
end Go.Proofs.YtmfojbidojjciaaGreat
namespace Go.Proofs.YtmfojbidojjciaaGreat
def gb (s : ByteArray) (k : Nat) : UInt8 := s[k]!
theorem gb_eq (s : ByteArray) (k : Nat) (h : k < s.size) : gb s k = s[k] := getElem!_pos s k h
end Go.Proofs.YtmfojbidojjciaaGreat
namespace Go.Proofs.YtmfojbidojjciaaGreat
def upCopy (o : List UInt8) (d n : Nat) : List UInt8 := (o.drop (o.length - d)).take n
def upStep (s : ByteArray) (k : Nat) (o : List UInt8) : Option (Nat × List UInt8) :=
  if gb s k = 0 ∧ k + 1 < s.size then some (k + 2,o ++ [gb s (k + 1)])
  else if gb s k = 1 ∧ k + 2 < s.size ∧ (gb s (k + 1)).toNat ≤ o.length ∧ (gb s (k + 2)).toNat ≤ (gb s (k + 1)).toNat then some (k + 3,o ++ upCopy o (gb s (k + 1)).toNat (gb s (k + 2)).toNat)
  else none
def upF (s : ByteArray) : Nat → Nat → List UInt8 → Option (List UInt8)
  | 0,_,o => some o
  | f + 1,k,o => if k < s.size then (match upStep s k o with | none => none | some (k',o') => if 200 < o'.length then none else upF s f k' o') else some o
def upL (s : ByteArray) : Option (List UInt8) := upF s s.size 0 []
end Go.Proofs.YtmfojbidojjciaaGreat
namespace Go.Proofs.YtmfojbidojjciaaGreat
open Go.RowKit
set_option maxHeartbeats 400000
end Go.Proofs.YtmfojbidojjciaaGreat
namespace Go.Proofs.YtmfojbidojjciaaGreat
open Go.RowKit
set_option maxHeartbeats 400000
end Go.Proofs.YtmfojbidojjciaaGreat
namespace Go.Proofs.YtmfojbidojjciaaGreat
open Go.RowKit
set_option maxHeartbeats 400000
end Go.Proofs.YtmfojbidojjciaaGreat
namespace Go.Proofs.YtmfojbidojjciaaGreat
open Go.RowKit
attribute [local irreducible] Calls
theorem gb_bt (s : ByteArray) (k : Nat) (h : k < s.size) : bt s k = (gb s k).toNat := by
  rw [gb_eq s k h]
  unfold bt bl
  rw [List.getD_eq_getElem?_getD,List.getElem?_eq_getElem (by simpa using h)]
  rfl
theorem ext1 (s : ByteArray) (k : Nat) (h : k < s.size) : s.extract k (k + 1) = ⟨[gb s k].toArray⟩ := by
  apply ByteArray.ext
  apply Array.ext'
  rw [ByteArray.data_extract,Array.toList_extract]
  have hl : k < s.data.toList.length := by simpa using h
  rw [List.extract_eq_take_drop,show k + 1 - k = 1 by omega,List.drop_eq_getElem_cons hl,List.take_succ_cons,List.take_zero,gb_eq s k h]
  rfl
theorem sEq1 (a b : UInt8) : sEq ⟨[a].toArray⟩ ⟨[b].toArray⟩ = (a == b) := by unfold sEq;simp
def rdFb (s : ByteArray) (k : Nat) (bad : Bool) : Bool := !bad && decide (k < s.size) && (gb s k == 1)
def rdFk (s : ByteArray) (k : Nat) (bad : Bool) : Nat := if bad = true ∨ s.size < k + 1 then k else k + 1
def rdFx (s : ByteArray) (k : Nat) (bad : Bool) : Bool := if bad = true ∨ s.size < k + 1 then true else !(gb s k == 0) && !(gb s k == 1)
theorem rdF_c (g : Nat) (s : ByteArray) (k : Nat) (bad : Bool) (hs : s.size ≤ 4194304) (hk : k ≤ s.size) {base : Nat} {w0 w : World} {H : List HObj} {G : List World} (hw : WOk base w0 (rdr g s k bad :: H) G w) :
    Calls Tryz.prog 321 #[pt (ga g) 0] w fun e w' => ∃ y : Ys,e = .returned (.bool (rdFb s k bad)) ∧ True ∧ WOk base w0 (rdr g s (rdFk s k bad) (rdFx s k bad) :: H) G w' := by
  have n1 : sEq (⟨#[]⟩ : ByteArray) ⟨#[1]⟩ = false := by unfold sEq;simp
  refine ok_enterW 17 Tryz.func321 rfl rfl rfl hw ?_
  by_cases h : bad = true ∨ s.size < k + 1
  · have e1 : rdB s 1 k bad = (⟨#[]⟩,k,true) := by unfold rdB;rw [if_pos h]
    have e2 : rdFb s k bad = false := by unfold rdFb;rcases h with h | h <;> simp [h];omega
    have e3 : rdFk s k bad = k := by unfold rdFk;rw [if_pos h]
    have e4 : rdFx s k bad = true := by unfold rdFx;rw [if_pos h]
    rw [e2,e3,e4]
    repeat' (first|refine Wa ?_|refine Wb ?_|(refine ok_cond rfl (fun hc => ?_) (fun hc => ?_) <;> (have hd := hc;try simp only [jj] at hd))|refine Wg ?_|refine Wi ?_|(refine Zr 0 ?_;refine Za ?_;refine Ze1 0 ?_)|(refine Zr 1 ?_;refine Zm ?_;refine Zn (by exact ms_w2 (fun _ _ _ h => h) rfl rfl rfl (fun _ _ w hw => by have := rdB_c g s 1 k bad hs hk (by omega) hw;rw [e1] at this;exact this)) ?_;rintro y5 hy5;refine Za ?_;refine Ze2 0 3 ?_)|(refine Zr 2 ?_;refine Zm ?_;refine Zq (ps_str rfl rfl rfl rfl) ?_;refine Zm ?_;refine Zg rfl rfl rfl (gT _) (fun hp => by exact ps_move rfl rfl) ?_;refine Zg rfl rfl rfl (gT _) (fun hp => by (exact ps_str rfl (Og rfl) rfl rfl)) ?_;refine Zq (ps_and rfl rfl rfl) ?_;refine Ze3 0 3 11 ?_)|(refine Zr 3 ?_;refine Zm ?_;refine Zq (by exact ps_nil rfl rfl (isw_ga _)) ?_;refine Zf ?_;refine Zo (ms_store 0 rfl rfl rfl rfl rfl rfl rfl rfl) ?_;rintro y_ hy_;refine Ze1 3 ?_)|(refine Zr 4 ?_;refine Zm ?_;refine Zq (ps_str rfl rfl rfl rfl) ?_;refine Za ?_;refine Ze1 2 ?_))
    all_goals
      refine ok_endL (vs := [_]) rfl ⟨rfl,trivial⟩ (fun w' hw => ⟨mkY none 0 w',?_,trivial,hw⟩)
      show Ending.returned (.bool (sEq (⟨#[]⟩ : ByteArray) ⟨#[1]⟩)) = _
      rw [n1]
  · obtain rfl : bad = false := by simpa using fun h2 => h (.inl h2)
    have hk1 : k < s.size := by omega
    have e1 : rdB s 1 k false = (⟨[gb s k].toArray⟩,k + 1,false) := by unfold rdB;rw [if_neg h,ext1 s k hk1]
    have e2 : rdFb s k false = (gb s k == 1) := by unfold rdFb;simp [hk1]
    have e3 : rdFk s k false = k + 1 := by unfold rdFk;rw [if_neg h]
    have e4 : rdFx s k false = (!(gb s k == 0) && !(gb s k == 1)) := by unfold rdFx;rw [if_neg h]
    rw [e2,e3,e4]
    have s0 := sEq1 (gb s k) 0
    have s1 := sEq1 (gb s k) 1
    repeat' (first|refine Wa ?_|refine Wb ?_|(refine ok_cond rfl (fun hc => ?_) (fun hc => ?_) <;> (have hd := hc;try simp only [jj] at hd))|refine Wg ?_|refine Wi ?_|(refine Zr 0 ?_;refine Za ?_;refine Ze1 0 ?_)|(refine Zr 1 ?_;refine Zm ?_;refine Zn (by exact ms_w2 (fun _ _ _ h => h) rfl rfl rfl (fun _ _ w hw => by have := rdB_c g s 1 k false hs hk (by omega) hw;rw [e1] at this;exact this)) ?_;rintro y5 hy5;refine Za ?_;refine Ze2 0 3 ?_)|(refine Zr 2 ?_;refine Zm ?_;refine Zq (ps_str rfl rfl rfl rfl) ?_;refine Zm ?_;refine Zg rfl rfl rfl (gT _) (fun hp => by exact ps_move rfl rfl) ?_;refine Zg rfl rfl rfl (gT _) (fun hp => by (exact ps_str rfl (Og rfl) rfl rfl)) ?_;refine Zq (ps_and rfl rfl rfl) ?_;refine Ze3 0 3 11 ?_)|(refine Zr 3 ?_;refine Zm ?_;refine Zq (by exact ps_nil rfl rfl (isw_ga _)) ?_;refine Zf ?_;refine Zo (ms_store 0 rfl rfl rfl rfl rfl rfl rfl rfl) ?_;rintro y_ hy_;refine Ze1 3 ?_)|(refine Zr 4 ?_;refine Zm ?_;refine Zq (ps_str rfl rfl rfl rfl) ?_;refine Za ?_;refine Ze1 2 ?_))
    · rw [s0,s1] at hd
      refine ok_endL (vs := [_]) rfl ⟨rfl,trivial⟩ (fun w' hw => ⟨mkY none 0 w',?_,trivial,?_⟩)
      · show Ending.returned (.bool (sEq ⟨[gb s k].toArray⟩ ⟨[1].toArray⟩)) = _
        rw [s1]
      · rw [hd.1,hd.2];exact hw
    · rw [s0,s1] at hd
      refine ok_endL (vs := [_]) rfl ⟨rfl,trivial⟩ (fun w' hw => ⟨mkY none 0 w',?_,trivial,?_⟩)
      · show Ending.returned (.bool (sEq ⟨[gb s k].toArray⟩ ⟨[1].toArray⟩)) = _
        rw [s1]
      · have e : (!(gb s k == 0) && !(gb s k == 1)) = false := by
          rcases hd with hd | hd <;> rw [hd] <;> simp
        rw [e];exact hw
structure UpI (s : ByteArray) where
  k : Nat
  f : Nat
  o : List UInt8
  A : Option Addr
  c : Nat
  hk : k ≤ s.size
  hf : s.size ≤ k + f
  ho : o.length ≤ 200
  inv : upF s f k o = upL s
structure UpJ (s : ByteArray) (n : Nat) where
  j : Nat
  A : Option Addr
  c : Nat
  hj : j ≤ n
attribute [local irreducible] upCopy
structure UpK (s : ByteArray) where
  k : Nat
  bad : Bool
  f : Nat
  o : List UInt8
  A : Option Addr
  c : Nat
  hk : k ≤ s.size ∧ o.length ≤ 1000 ∧ o.length ≤ c
  ok : bad = false → (o.length ≤ 200 → upF s f k o = upL s ∧ s.size ≤ k + f) ∧ (200 < o.length → upL s = none)
  no : bad = true → upL s = none
theorem nn_t {a b : Bool} (h : (!a || !b) = false) : (a && b) = true := by cases a <;> cases b <;> simp_all
theorem nn_f {a b : Bool} (h : (!a || !b) = true) : (a && b) = false := by cases a <;> cases b <;> simp_all
theorem n_t {a : Bool} (h : (!a) = false) : a = true := by cases a <;> simp_all
theorem n_f {a : Bool} (h : (!a) = true) : a = false := by cases a <;> simp_all
theorem allL_yes {α : Type} [Dat α] {l : List α} {p : α → Bool} (h : ∀ k,k < l.length → p (nth l k) = true) : l.all p = true := by
  rw [List.all_eq_true];exact mem_nth h
theorem allL_no {α : Type} [Dat α] {l : List α} {p : α → Bool} {k : Nat} (hk : k < l.length) (h : p (nth l k) = false) : l.all p = false := by
  rw [Bool.eq_false_iff];intro e;rw [List.all_eq_true] at e
  have := e _ (nth_mem l k hk);rw [h] at this;cases this
theorem i_BatchOk (A : Option Addr) (c : Nat) (l : List Opp) (w : World) (h : Rd w A (fl l)) (hl : l.length ≤ 4194304) :
    Calls Tryz.prog 244 #[.slice A l.length c] w fun e w' => e = .returned (.bool (batchOk l)) ∧ Below w.heap.size w w' := by
  refine ok_enter 27 Tryz.func244 rfl rfl rfl ?_
  repeat' (first|refine Wa ?_|refine Wb ?_|refine Wd ?_|(refine Zr 0 ?_;refine Za ?_;refine Ze1 0 ?_)|(refine Zr 1 ?_;refine Zm ?_;refine Zq (ps_len rfl rfl) ?_;refine Zm ?_;refine Ze4 0 5 6 7 ?_))
  refine ok_loop (ι := { k : Nat // k ≤ l.length ∧ ∀ j,j < k → opOk (nth l j) = true }) (fun k => l.length - k.1) (fun k => ([(0,.slice A l.length c),(5,.slice A l.length c),(6,.int .i64 l.length),(7,.int .i64 k.1)],_,_)) ⟨0,by omega,fun j h => absurd h (Nat.not_lt_zero j)⟩ (fun a w he hw => ⟨⟨0,by omega,fun j h => absurd h (Nat.not_lt_zero j)⟩,he.sub ⟨rfl,rfl,rfl,rfl,trivial⟩,hw⟩) ?_
  rintro ⟨k,hk,ha⟩
  simp only at hk ha ⊢
  have HA := Lib.hid ha;clear ha
  repeat' (first|refine Wa ?_|refine Wb ?_|refine Wc ?_|refine Wd ?_|refine We ?_|refine Wf ?_|(refine ok_cond rfl (fun hc => ?_) (fun hc => ?_) <;> (have hd := hc;try simp only [jj] at hd))|refine Wg ?_|refine Wh ?_|refine Wi ?_|(refine Zr 2 ?_;refine Zi ?_;refine Ze5 0 5 6 7 8 ?_)|(refine Zr 3 ?_;refine Zq (by exact ps_indexN rfl rfl rfl (by omega) (by exact isw_of (isS_fl (by assumption) (by omega)))) ?_;refine Zq (by exact ps_loadsF rfl rfl (by exact rds_rf (by assumption) List.mem_cons_self) (by rfl) (by rfl) (by omega) rfl) ?_;refine Zn (ms_alloc rfl) ?_;rintro y4 hy4;refine Zo (ms_store 0 rfl rfl rfl rfl rfl rfl rfl rfl) ?_;rintro y_ hy_;refine Ze5 0 4 5 6 7 ?_)|(refine Zr 4 ?_;refine Zf ?_;refine Zl 0 ?_;refine Zn (by exact ms_s1 rfl rfl (fun _ _ w hw => isKey_c _ w)) ?_;rintro y13 hy13;refine Zq (ps_not rfl rfl) ?_;refine Zm ?_;refine Zg rfl rfl rfl (gF _) (fun hp => by exact ps_field rfl rfl (isw_ga _)) ?_;refine Zg rfl rfl rfl (gF _) (fun hp => by (exact ps_load rfl (Og rfl) (by exact Rds.cell (rds_box 0 rfl) rfl))) ?_;refine Zg rfl rfl rfl (gF _) (fun hp => by exact ps_field rfl rfl (isw_ga _)) ?_;refine Zg rfl rfl rfl (gF _) (fun hp => by (exact ps_load rfl (Og rfl) (by exact Rds.cell (rds_box 0 rfl) rfl))) ?_;refine Zh rfl rfl rfl (gF _) (fun hp => by (exact ms_s2 rfl (Og rfl) (Og rfl) (fun _ _ w hw => isVal_c _ _ w))) ?_;refine Zg rfl rfl rfl (gF _) (fun hp => by (exact ps_not rfl (Og rfl))) ?_;refine Zq (ps_or rfl rfl rfl) ?_;refine Ze5 0 5 6 7 22 ?_)|(refine Zr 5 ?_;refine Za ?_;refine Ze1 2 ?_)|(refine Zr 6 ?_;refine Zq (by exact ps_add rfl rfl rfl (by omega)) ?_;refine Zm ?_;refine Ze4 0 5 6 7 ?_)|(refine Zr 7 ?_;refine Zm ?_;refine Zq (ps_len rfl rfl) ?_;refine Zn (by exact ms_s3 rfl rfl rfl rfl (fun _ _ w hw => in_i _ _ _ w)) ?_;rintro y26 hy26;refine Za ?_;refine Ze1 2 ?_))
  · have e : batchOk l = false := by
      have : opOk (nth l k) = false := by unfold opOk;exact nn_f hc
      unfold batchOk;rw [allL_no (show k < l.length by omega) this,Bool.and_false]
    exact ok_endL (vs := [_]) rfl ⟨rfl,trivial⟩ (fun w' hw => ⟨by rw [e];rfl,hw.below⟩)
  · have e : opOk (nth l k) = true := by unfold opOk;exact nn_t hc
    exact fun a w' he hw => ⟨⟨k + 1,by omega,fun j hj => by
      rcases Nat.lt_succ_iff_lt_or_eq.1 hj with h' | h'
      · exact HA.out j h'
      · subst h';exact e⟩,by simp only;omega,he.sub ⟨rfl,rfl,rfl,rfl,trivial⟩,hw.drop 1 rfl⟩
  · obtain rfl : k = l.length := by omega
    have e : batchOk l = inB l.length 1 6 := by unfold batchOk;rw [allL_yes (fun j hj => HA.out j hj),Bool.and_true]
    exact ok_endL (vs := [_]) rfl ⟨rfl,trivial⟩ (fun w' hw => ⟨by rw [e];rfl,hw.below⟩)
theorem s_BatchOk (A : Option Addr) (c : Nat) (l : List Opp) (w : World) (h : Rd w A (fl l)) (hl : l.length ≤ 4194304) :
    Calls Tryz.prog 201 #[.slice A l.length c] w fun e w' => e = .returned (.bool (batchOk l)) ∧ Below w.heap.size w w' := by
  refine ok_enter 20 Tryz.func201 rfl rfl rfl ?_
  repeat' (first|refine Wa ?_|refine Wb ?_|refine Wc ?_|refine Wd ?_|(refine ok_cond rfl (fun hc => ?_) (fun hc => ?_) <;> (have hd := hc;try simp only [jj] at hd))|refine Wg ?_|refine Wi ?_|(refine Zr 0 ?_;refine Za ?_;refine Ze1 0 ?_)|(refine Zr 1 ?_;refine Zm ?_;refine Zq (ps_len rfl rfl) ?_;refine Zn (by exact ms_s3 rfl rfl rfl rfl (fun _ _ w hw => in_s _ _ _ w)) ?_;rintro y6 hy6;refine Zq (ps_not rfl rfl) ?_;refine Ze2 0 7 ?_)|(refine Zr 2 ?_;refine Za ?_;refine Ze1 2 ?_)|(refine Zr 3 ?_;refine Za ?_;refine Ze2 0 3 ?_))
  · have e : batchOk l = false := by unfold batchOk;rw [show inB (l.length : Int) 1 6 = false by simpa using hc];rfl
    exact ok_endL (vs := [_]) rfl ⟨rfl,trivial⟩ (fun w' hw => ⟨by rw [e];rfl,hw.below⟩)
  have hn : inB (l.length : Int) 1 6 = true := by simpa using hc
  clear hc hd
  refine ok_loop (ι := { k : Nat // k ≤ l.length ∧ ∀ j,j < k → opOk (nth l j) = true }) (fun k => l.length - k.1) (fun k => ([(0,.slice A l.length c),(3,.int .i64 k.1)],_,_)) ⟨0,by omega,fun j h => absurd h (Nat.not_lt_zero j)⟩ (fun a w he hw => ⟨⟨0,by omega,fun j h => absurd h (Nat.not_lt_zero j)⟩,he.sub ⟨rfl,rfl,trivial⟩,hw⟩) ?_
  rintro ⟨k,hk,ha⟩
  simp only at hk ha ⊢
  have HA := Lib.hid ha;clear ha
  repeat' (first|refine Wa ?_|refine Wb ?_|refine Wc ?_|refine Wd ?_|refine We ?_|refine Wf ?_|(refine ok_cond rfl (fun hc => ?_) (fun hc => ?_) <;> (have hd := hc;try simp only [jj] at hd))|refine Wg ?_|refine Wh ?_|refine Wi ?_|(refine Zr 4 ?_;refine Zm ?_;refine Zm ?_;refine Zq (ps_len rfl rfl) ?_;refine Zi ?_;refine Ze3 0 3 11 ?_)|(refine Zr 5 ?_;refine Zm ?_;refine Zq (by exact ps_add rfl rfl rfl (by omega)) ?_;refine Za ?_;refine Ze2 0 3 ?_)|(refine Zr 6 ?_;refine Zm ?_;refine Zm ?_;refine Zq (by exact ps_indexN rfl rfl rfl (by omega) (by exact isw_of (isS_fl (by assumption) (by omega)))) ?_;refine Zq (by exact ps_loadsF rfl rfl (by exact rds_rf (by assumption) List.mem_cons_self) (by rfl) (by rfl) (by omega) rfl) ?_;refine Zn (by exact ms_s1 rfl rfl (fun _ _ w hw => l7Op_c (nth l k).key (nth l k).val (nth l k).del w)) ?_;rintro y18 hy18;refine Zq (ps_not rfl rfl) ?_;refine Ze3 0 3 19 ?_)|(refine Zr 7 ?_;refine Za ?_;refine Ze1 2 ?_)|(refine Zr 8 ?_;refine Za ?_;refine Ze1 2 ?_))
  · have e : batchOk l = false := by
      have : opOk (nth l k) = false := by unfold opOk;rw [← Bool.and_assoc];exact n_f hc
      unfold batchOk;rw [allL_no (show k < l.length by omega) this,Bool.and_false]
    exact ok_endL (vs := [_]) rfl ⟨rfl,trivial⟩ (fun w' hw => ⟨by rw [e];rfl,hw.below⟩)
  · have e : opOk (nth l k) = true := by unfold opOk;rw [← Bool.and_assoc];exact n_t hc
    exact fun a w' he hw => ⟨⟨k + 1,by omega,fun j hj => by
      rcases Nat.lt_succ_iff_lt_or_eq.1 hj with h' | h'
      · exact HA.out j h'
      · subst h';exact e⟩,by simp only;omega,he.sub ⟨rfl,rfl,trivial⟩,hw⟩
  · obtain rfl : k = l.length := by omega
    have e : batchOk l = true := by unfold batchOk;rw [allL_yes (fun j hj => HA.out j hj),hn];rfl
    exact ok_endL (vs := [_]) rfl ⟨rfl,trivial⟩ (fun w' hw => ⟨by rw [e];rfl,hw.below⟩)
theorem batch_few {l : List Opp} (h : batchOk l = true) : l.length ≤ 6 ∧ ∀ k,k < l.length → (nth l k).key.size ≤ 10 ∧ (nth l k).val.size ≤ 16 := by
  unfold batchOk at h
  rw [Bool.and_eq_true,inB_true] at h
  exact ⟨by omega,fun k hk => by have := opOk_sz (List.all_eq_true.1 h.2 _ (nth_mem l k hk));omega⟩
theorem rawB_le {l : List Opp} (h : batchOk l = true) (k : Nat) (hk : k ≤ l.length) : (rawB l k).size ≤ 10 + k * 60 := by
  unfold batchOk at h
  rw [Bool.and_eq_true] at h
  have a := vS_size l.length
  have b := catS_size opS 60 k (l.take k) (by rw [List.length_take];omega) (fun x hx => opS_size (List.all_eq_true.1 h.2 x (List.mem_of_mem_take hx)))
  unfold rawB
  rw [ByteArray.size_append];omega
theorem rawB_zero (l : List Opp) : rawB l 0 = vS l.length := by
  unfold rawB
  rw [List.take_zero,catS_nil]
  exact ByteArray.append_empty
theorem rawB_step {l : List Opp} {k : Nat} (h : k < l.length) : rawB l (k + 1) = rawB l k ++ opS (nth l k) := by
  unfold rawB
  rw [catS_step opS h,ByteArray.append_assoc]
theorem s_ShowBatch (A : Option Addr) (c : Nat) (l : List Opp) (w : World) (h : Rd w A (fl l)) (hl : l.length ≤ 4194304) :
    Calls Tryz.prog 265 #[.slice A l.length c] w fun e w' => e = .returned (.string (fShowBatch l)) ∧ Below w.heap.size w w' := by
  refine ok_enter 48 Tryz.func265 rfl rfl rfl ?_
  repeat' (first|refine Wa ?_|refine Wb ?_|refine Wc ?_|(refine ok_cond rfl (fun hc => ?_) (fun hc => ?_) <;> (have hd := hc;try simp only [jj] at hd))|refine Wg ?_|refine Wi ?_|(refine Zr 0 ?_;refine Za ?_;refine Ze1 0 ?_)|(refine Zr 1 ?_;refine Zm ?_;refine Zn (by exact ms_s1 rfl rfl (fun _ _ w hw => s_BatchOk A c l w (rds_rf h List.mem_cons_self _ _ w hw) hl)) ?_;rintro y6 hy6;refine Zq (ps_not rfl rfl) ?_;refine Ze2 0 7 ?_)|(refine Zr 2 ?_;refine Za ?_;refine Ze1 2 ?_))
  · have e : fShowBatch l = ⟨#[]⟩ := by unfold fShowBatch;rw [if_neg (by rw [hd];decide)]
    exact ok_endL (vs := [_]) rfl ⟨rfl,trivial⟩ (fun w' hw => ⟨by rw [e];rfl,hw.below⟩)
  have hb := hd
  clear hc hd
  obtain ⟨h6,hf⟩ := batch_few hb
  have e : fShowBatch l = rawB l l.length := by unfold fShowBatch;rw [if_pos hb]
  rw [e]
  have HF := Lib.hid hf;clear hf
  have hz : (⟨(varL l.length).toArray⟩ : ByteArray) = rawB l 0 := by rw [rawB_zero];rfl
  repeat' (first|refine Wa ?_|refine Wb ?_|refine Wd ?_|(refine Zr 3 ?_;refine Zm ?_;refine Zq (ps_len rfl rfl) ?_;refine Zn (by exact ms_s1 rfl rfl (fun _ _ w hw => xs_Var_v l.length (by omega) w)) ?_;rintro y10 hy10;refine Za ?_;refine Ze2 0 3 ?_)|(refine Zr 4 ?_;refine Za ?_;refine Ze3 0 3 4 ?_))
  refine ok_loop (ι := { k : Nat // k ≤ l.length }) (fun k => l.length - k.1) (fun k => ([(0,.slice A l.length c),(3,.string (rawB l k.1)),(4,.int .i64 k.1)],_,_)) ⟨0,by omega⟩ (fun a w he hw => ⟨⟨0,by omega⟩,he.sub ⟨rfl,by rw [← hz];rfl,rfl,trivial⟩,hw⟩) ?_
  clear hz
  rintro ⟨k,hk⟩
  simp only at hk ⊢
  have hr := rawB_le hb k hk
  have hfk := HF.out k
  have hp1 := pieceS_size (nth l k).key
  have hp2 := pieceS_size (nth l k).val
  have s1 : (⟨#[1]⟩ : ByteArray).size = 1 := rfl
  have s0 : (⟨#[0]⟩ : ByteArray).size = 1 := rfl
  have e1 : k < l.length → rawB l (k + 1) = rawB l k ++ opS (nth l k) := fun h => rawB_step h
  repeat' (first|refine Wa ?_|refine Wb ?_|refine Wd ?_|refine We ?_|(refine ok_cond rfl (fun hc => ?_) (fun hc => ?_) <;> (have hd := hc;try simp only [jj] at hd))|refine Wg ?_|refine Wh ?_|refine Wi ?_|(refine Zr 5 ?_;refine Zm ?_;refine Zm ?_;refine Zq (ps_len rfl rfl) ?_;refine Zi ?_;refine Ze4 0 3 4 14 ?_)|(refine Zr 6 ?_;refine Zm ?_;refine Zq (by exact ps_add rfl rfl rfl (by omega)) ?_;refine Za ?_;refine Ze3 0 3 4 ?_)|(refine Zr 7 ?_;refine Zm ?_;refine Zm ?_;refine Zq (by exact ps_indexN rfl rfl rfl (by omega) (by exact isw_of (isS_fl (by assumption) (by omega)))) ?_;refine Zq (by exact ps_field rfl rfl (by exact isw_of (isS_fl (by assumption) (by omega)))) ?_;refine Zq (by exact ps_load rfl rfl (by exact Rds.cell (rds_rf (by assumption) List.mem_cons_self) (by exact fl_at _ _ _ (by omega) (by decide)))) ?_;refine Ze4 0 3 4 21 ?_)|(refine Zr 8 ?_;refine Zm ?_;refine Zq (by exact ps_sadd rfl rfl rfl (by omega)) ?_;refine Zm ?_;refine Zm ?_;refine Zq (by exact ps_indexN rfl rfl rfl (by omega) (by exact isw_of (isS_fl (by assumption) (by omega)))) ?_;refine Zq (by exact ps_field rfl rfl (by exact isw_of (isS_fl (by assumption) (by omega)))) ?_;refine Zq (by exact ps_load rfl rfl (by exact Rds.cell (rds_rf (by assumption) List.mem_cons_self) (by exact fl_at0 _ _ (by omega) (by decide)))) ?_;refine Zn (by exact ms_s1 rfl rfl (fun _ _ w hw => sPiece_any _ (by have := hfk (by omega);omega) w)) ?_;rintro y29 hy29;refine Zq (by exact ps_sadd rfl rfl rfl (by have := hfk (by omega);simp only [ByteArray.size_append];omega)) ?_;refine Za ?_;refine Ze3 0 3 4 ?_)|(refine Xd 9 17 ?_;refine Xm 0 ?_;refine Xt 1 rfl (by exact ps_sadd rfl rfl rfl (by omega)) ?_;refine Xm 2 ?_;refine Xm 3 ?_;refine Xt 4 rfl (by exact ps_indexN rfl rfl rfl (by omega) (by exact isw_of (isS_fl (by assumption) (by omega)))) ?_;refine Xt 5 rfl (by exact ps_field rfl rfl (by exact isw_of (isS_fl (by assumption) (by omega)))) ?_;refine Xt 6 rfl (by exact ps_load rfl rfl (by exact Rds.cell (rds_rf (by assumption) List.mem_cons_self) (by exact fl_at0 _ _ (by omega) (by decide)))) ?_;refine Xm 9 ?_;refine Xm 10 ?_;refine Xt 11 rfl (by exact ps_indexN rfl rfl rfl (by omega) (by exact isw_of (isS_fl (by assumption) (by omega)))) ?_;refine Xt 12 rfl (by exact ps_field rfl rfl (by exact isw_of (isS_fl (by assumption) (by omega)))) ?_;refine Xt 13 rfl (by exact ps_load rfl rfl (by exact Rds.cell (rds_rf (by assumption) List.mem_cons_self) (by exact fl_at _ _ _ (by omega) (by decide)))) ?_;refine Xo 7 rfl (by exact ms_s1 rfl rfl (fun _ _ w hw => sPiece_any _ (by have := hfk (by omega);omega) w)) (fun y w _ h => by exact h) ?_;rintro y38 hy38;refine Xt 8 rfl (by exact ps_sadd rfl rfl rfl (by have := hfk (by omega);simp only [ByteArray.size_append];omega)) ?_;refine Xo 14 rfl (by exact ms_s1 rfl rfl (fun _ _ w hw => sPiece_any _ (by have := hfk (by omega);omega) w)) (fun y w _ h => by exact h) ?_;rintro y45 hy45;refine Xt 15 rfl (by exact ps_sadd rfl rfl rfl (by have := hfk (by omega);simp only [ByteArray.size_append];omega)) ?_;refine Xt 16 rfl (ps_assign rfl rfl) ?_;refine okT_done (by kernel_rfl) ?_;refine Ze3 0 3 4 ?_)|(refine Zr 10 ?_;refine Zm ?_;refine Za ?_;refine Ze1 2 ?_))
  · refine fun a w' he hw => ⟨⟨k + 1,by omega⟩,by simp only;omega,he.sub ⟨rfl,?_,rfl,trivial⟩,hw⟩
    have h1 : (nth l k).del = true := by assumption
    simp only [look];congr 2;rw [e1 (by omega)];unfold opS;rw [if_pos h1,ByteArray.append_assoc]
  · refine fun a w' he hw => ⟨⟨k + 1,by omega⟩,by simp only;omega,he.sub ⟨rfl,?_,rfl,trivial⟩,hw⟩
    have h1 : (nth l k).del = false := by assumption
    simp only [look];congr 2;rw [e1 (by omega)];unfold opS;rw [if_neg (by rw [h1];decide)];simp only [ByteArray.append_assoc]
  · obtain rfl : k = l.length := by omega
    exact ok_endL (vs := [_]) rfl ⟨rfl,trivial⟩ (fun w' hw => ⟨rfl,hw.below⟩)
end Go.Proofs.YtmfojbidojjciaaGreat
namespace Go.Proofs.YtmfojbidojjciaaGreat
def kvE (x : Ent) : KV := ⟨x.key,x.val⟩
def isK (k : ByteArray) (seq : Int) (e : Ent) : Bool := sEq e.key k && decide (e.seq ≤ seq)
def getE (l : List Ent) (k : ByteArray) (seq : Int) : Option Ent := l.find? (isK k seq)
def seenK (last : Option ByteArray) (q : ByteArray) : Bool := match last with
  | some k => sEq q k
  | none => false
def vis (seq : Int) : Option ByteArray → List Ent → List KV
  | _,[] => []
  | last,e :: L => if (decide (seq < e.seq) || seenK last e.key) = true then vis seq last L else if e.del = true then vis seq (some e.key) L else kvE e :: vis seq (some e.key) L
def fVis (l : List Ent) (seq : Int) : List KV := vis seq none l
def mapPick (l : List Ent) (seq : Int) (x : Ent) : Bool := match getE l x.key seq with
  | some e => !e.del && decide (e.seq = x.seq)
  | none => false
def sMap (l : List Ent) (seq : Int) : List KV := (l.filter (mapPick l seq)).map kvE
theorem isK_iff (k : ByteArray) (seq : Int) (e : Ent) : isK k seq e = true ↔ e.key = k ∧ e.seq ≤ seq := by
  unfold isK
  rw [Bool.and_eq_true,decide_eq_true_eq]
  constructor
  · rintro ⟨h1,h2⟩;exact ⟨sEq_to h1,h2⟩
  · rintro ⟨h1,h2⟩;rw [h1];exact ⟨sEq_ref k,h2⟩
theorem ahead_key {a b c : Ent} (h1 : aheadE a b = true) (h2 : aheadE b c = true) (h3 : a.key = c.key) : b.key = a.key := by
  unfold aheadE at h1 h2
  rw [Bool.or_eq_true,Bool.and_eq_true] at h1 h2
  rcases h1 with h1 | h1
  · rcases h2 with h2 | h2
    · have := sLt_trans h1 h2
      rw [← h3,sLt_irrefl] at this;cases this
    · rw [sEq_to h2.1,h3]
  · exact (sEq_to h1.1).symm
def lastSeen (seq : Int) (P : List Ent) : Option ByteArray := ((P.filter fun e => decide (e.seq ≤ seq)).getLast?).map (·.key)
theorem last_snoc (seq : Int) (P : List Ent) (e : Ent) : lastSeen seq (P ++ [e]) = if e.seq ≤ seq then some e.key else lastSeen seq P := by
  unfold lastSeen
  rw [List.filter_append,List.filter_cons,List.filter_nil]
  by_cases h : e.seq ≤ seq
  · rw [if_pos h,if_pos (by simpa using h)];simp
  · rw [if_neg h,if_neg (by simpa using h)];simp
theorem last_iff {seq : Int} {P T : List Ent} {x : Ent} (h : strE (P ++ x :: T)) : seenK (lastSeen seq P) x.key = true ↔ ∃ y ∈ P,isK x.key seq y = true := by
  have hp := List.pairwise_append.1 h
  unfold lastSeen
  constructor
  · intro hm
    cases hl : (P.filter fun e => decide (e.seq ≤ seq)).getLast? with
    | none => rw [hl] at hm;cases hm
    | some y =>
      rw [hl] at hm
      have hy := List.mem_of_getLast? hl
      rw [List.mem_filter,decide_eq_true_eq] at hy
      exact ⟨y,hy.1,(isK_iff _ _ _).2 ⟨(sEq_to hm).symm,hy.2⟩⟩
  · rintro ⟨y,hy,hk⟩
    obtain ⟨k1,k2⟩ := (isK_iff _ _ _).1 hk
    have hyf : y ∈ P.filter fun e => decide (e.seq ≤ seq) := List.mem_filter.2 ⟨hy,by simpa using k2⟩
    cases hl : (P.filter fun e => decide (e.seq ≤ seq)).getLast? with
    | none =>
      have := List.getLast?_eq_none_iff.1 hl
      rw [this] at hyf;cases hyf
    | some z =>
      have hz := List.mem_of_getLast? hl
      have hzP : z ∈ P := (List.mem_filter.1 hz).1
      have hzx : aheadE z x = true := hp.2.2 z hzP x List.mem_cons_self
      have e : z.key = x.key := by
        by_cases hyz : y = z
        · rw [← hyz,k1]
        · have hsub : (P.filter fun e => decide (e.seq ≤ seq)).Pairwise (fun a b => aheadE a b = true) := hp.1.sublist List.filter_sublist
          obtain ⟨D,hD⟩ := List.getLast?_eq_some_iff.1 hl
          rw [hD] at hyf hsub
          have hyD : y ∈ D := by
            rcases List.mem_append.1 hyf with h1 | h1
            · exact h1
            · rw [List.mem_singleton] at h1;exact absurd h1 hyz
          have hyz2 : aheadE y z = true := (List.pairwise_append.1 hsub).2.2 y hyD z List.mem_cons_self
          rw [ahead_key hyz2 hzx k1,k1]
      show sEq x.key z.key = true
      rw [e];exact sEq_ref _
theorem pick_iff {seq : Int} {P T : List Ent} {x : Ent} (h : strE (P ++ x :: T)) : mapPick (P ++ x :: T) seq x = (decide (x.seq ≤ seq) && !seenK (lastSeen seq P) x.key && !x.del) := by
  have hp := List.pairwise_append.1 h
  have hl := last_iff (seq := seq) h
  unfold mapPick getE
  rw [List.find?_append]
  cases hf : P.find? (isK x.key seq) with
  | some y =>
    have hy := List.mem_of_find?_eq_some hf
    have hk := List.find?_some hf
    rw [hl.2 ⟨y,hy,hk⟩]
    simp only [Option.some_or,Bool.not_true,Bool.and_false,Bool.false_and]
    have hyx := hp.2.2 y hy x List.mem_cons_self
    have k1 := ((isK_iff _ _ _).1 hk).1
    have : ¬ y.seq = x.seq := fun e => by
      have h5 := ahead_diff hyx
      unfold sameE at h5
      rw [k1,sEq_ref,e] at h5
      simp at h5
    simp [this]
  | none =>
    have hn : seenK (lastSeen seq P) x.key = false := by
      cases hm : seenK (lastSeen seq P) x.key with
      | false => rfl
      | true =>
        obtain ⟨y,hy,hk⟩ := hl.1 hm
        have := List.find?_eq_none.1 hf y hy
        rw [hk] at this;simp at this
    rw [hn,Option.none_or,List.find?_cons]
    by_cases hq : x.seq ≤ seq
    · rw [(isK_iff _ _ _).2 ⟨rfl,hq⟩]
      simp [hq]
    · have hk : isK x.key seq x = false := by
        cases h6 : isK x.key seq x with
        | false => rfl
        | true => exact absurd ((isK_iff _ _ _).1 h6).2 hq
      rw [hk]
      simp only [hq,decide_false,Bool.false_and]
      cases hT : T.find? (isK x.key seq) with
      | none => rfl
      | some e =>
        have he := List.mem_of_find?_eq_some hT
        have k1 := (isK_iff _ _ _).1 (List.find?_some hT)
        have : ¬ e.seq = x.seq := by omega
        simp [this]
theorem vis_map {seq : Int} {l : List Ent} (h : strE l) : ∀ (T P : List Ent),l = P ++ T → vis seq (lastSeen seq P) T = (T.filter (mapPick l seq)).map kvE
  | [],P,_ => rfl
  | x :: T,P,e => by
    have hpk := pick_iff (seq := seq) (e ▸ h : strE (P ++ x :: T))
    rw [← e] at hpk
    have ih := vis_map (seq := seq) h T (P ++ [x]) (by rw [e];simp)
    rw [last_snoc] at ih
    rw [vis,List.filter_cons,hpk]
    by_cases hq : x.seq ≤ seq
    · rw [if_pos hq] at ih
      have h1 : decide (seq < x.seq) = false := by simp;omega
      rw [h1]
      cases hm : seenK (lastSeen seq P) x.key with
      | true =>
        have hs : lastSeen seq P = some x.key := by
          cases hl : lastSeen seq P with
          | none => rw [hl] at hm;cases hm
          | some k => rw [hl] at hm;rw [sEq_to hm]
        simp only [Bool.false_or,if_true,Bool.not_true,Bool.and_false,Bool.false_and,if_false,Bool.false_eq_true]
        rw [hs];exact ih
      | false =>
        simp only [Bool.false_or,Bool.false_eq_true,if_false,Bool.not_false,hq,decide_true,Bool.true_and]
        cases hd : x.del with
        | true => simp only [if_true,Bool.not_true,Bool.false_eq_true,if_false];exact ih
        | false => simp only [Bool.false_eq_true,if_false,Bool.not_false,if_true,List.map_cons];rw [ih]
    · rw [if_neg hq] at ih
      have h1 : decide (seq < x.seq) = true := by simp;omega
      rw [h1]
      simp only [Bool.true_or,if_true,hq,decide_false,Bool.false_and,Bool.false_eq_true,if_false]
      exact ih
theorem vis_same {l : List Ent} (h : strE l) (seq : Int) : fVis l seq = sMap l seq := vis_map h l [] rfl
end Go.Proofs.YtmfojbidojjciaaGreat
namespace Go.Proofs.YtmfojbidojjciaaGreat
open Go.RowKit
attribute [local irreducible] Calls
structure DWalk where
  R : List (List Ent)
  seq : Int
  key : ByteArray
  on : Bool
  deriving DecidableEq
end Go.Proofs.YtmfojbidojjciaaGreat
namespace Go.Proofs.YtmfojbidojjciaaGreat
theorem vis_keys (seq : Int) {l : List Ent} (h : strE l) : srtK (fVis l seq) := by
  rw [vis_same h]
  unfold sMap srtK
  rw [List.pairwise_map]
  have hp : (l.filter (mapPick l seq)).Pairwise (fun a b => aheadE a b = true) := h.sublist List.filter_sublist
  have hm : ∀ x ∈ l.filter (mapPick l seq),getE l x.key seq = some x := fun x hx => by
    obtain ⟨h1,h2⟩ := List.mem_filter.1 hx
    unfold mapPick at h2
    cases hg : getE l x.key seq with
    | none => rw [hg] at h2;cases h2
    | some e =>
      rw [hg] at h2
      simp only [Bool.and_eq_true,decide_eq_true_eq] at h2
      have he := List.mem_of_find?_eq_some hg
      have hk := ((isK_iff _ _ _).1 (List.find?_some hg)).1
      have hs : sameE e x = true := by unfold sameE;rw [hk,sEq_ref,h2.2];simp
      have e1 := (find_str h e).2 he
      have e2 := (find_str h x).2 h1
      have : l.find? (sameE e) = l.find? (sameE x) := by
        congr 1
        funext z
        cases h6 : sameE x z with
        | true => exact same_trans (by rw [same_sym];exact hs) h6
        | false =>
          cases h7 : sameE e z with
          | false => rfl
          | true => have := same_trans hs h7;rw [h6] at this;cases this
      rw [e1,e2] at this
      cases this;rfl
  refine List.Pairwise.imp_of_mem (fun {a b} ha hb hab => ?_) hp
  show sLt a.key b.key = true
  have h1 := hm a ha
  have h2 := hm b hb
  unfold aheadE at hab
  rw [Bool.or_eq_true] at hab
  rcases hab with hab | hab
  · exact hab
  · rw [Bool.and_eq_true,decide_eq_true_eq] at hab
    have e := sEq_to hab.1
    rw [e,h2] at h1
    cases h1
    omega
end Go.Proofs.YtmfojbidojjciaaGreat
namespace Go.Proofs.YtmfojbidojjciaaGreat
open Go.RowKit
set_option maxHeartbeats 2000000
attribute [local irreducible] Calls
structure Account where
  ten : Int
  quo : Int
  byt : Int
  keys : Int
  rows : Int
  deriving DecidableEq
instance : Dat Account := ⟨5,fun x => [.int .i64 x.ten,.int .i64 x.quo,.int .i64 x.byt,.int .i64 x.keys,.int .i64 x.rows],fun _ => rfl,⟨0,0,0,0,0⟩⟩
instance : Mk Account := ⟨5,fun q => ⟨q,q + 1,q + 1 + 1,q + 1 + 1 + 1,q + 1 + 1 + 1 + 1⟩⟩
theorem eqAccount_c (x : Account) (w : World) :
    Calls Tryz.prog 57 #[.agg (Dat.cells x).toArray,.agg (Dat.cells x).toArray] w fun e w' => e = .returned (.bool true) ∧ Below w.heap.size w w' := by
  refine ok_enter 30 Tryz.func57 rfl rfl rfl ?_
  repeat' (first|refine Wa ?_|refine Wb ?_|refine Wc ?_|(refine ok_cond rfl (fun hc => ?_) (fun hc => ?_) <;> (have hd := hc;try simp only [jj] at hd))|refine Wg ?_|refine Wi ?_|(refine Zr 0 ?_;refine Zn (ms_box rfl rfl rfl) ?_;rintro y2 hy2;refine Zn (ms_box rfl rfl rfl) ?_;rintro y3 hy3;refine Za ?_;refine Ze2 2 3 ?_)|(refine Zr 1 ?_;refine Zf ?_;refine Zl 1 ?_;refine Zf ?_;refine Zl 0 ?_;refine Zi ?_;refine Ze3 2 3 9 ?_)|(refine Zr 2 ?_;refine Za ?_;refine Ze1 4 ?_)|(refine Zr 3 ?_;refine Zf ?_;refine Zl 1 ?_;refine Zf ?_;refine Zl 0 ?_;refine Zi ?_;refine Ze3 2 3 14 ?_)|(refine Zr 4 ?_;refine Za ?_;refine Ze1 4 ?_)|(refine Zr 5 ?_;refine Zf ?_;refine Zl 1 ?_;refine Zf ?_;refine Zl 0 ?_;refine Zi ?_;refine Ze3 2 3 19 ?_)|(refine Zr 6 ?_;refine Za ?_;refine Ze1 4 ?_)|(refine Zr 7 ?_;refine Zf ?_;refine Zl 1 ?_;refine Zf ?_;refine Zl 0 ?_;refine Zi ?_;refine Ze3 2 3 24 ?_)|(refine Zr 8 ?_;refine Za ?_;refine Ze1 4 ?_)|(refine Zr 9 ?_;refine Zf ?_;refine Zl 1 ?_;refine Zf ?_;refine Zl 0 ?_;refine Zi ?_;refine Ze1 29 ?_)|(refine Zr 10 ?_;refine Za ?_;refine Ze1 4 ?_)|(refine Zr 11 ?_;refine Za ?_;refine Ze1 4 ?_))
  all_goals first
    | (exfalso;simp [sEq] at hc;done)
    | exact ok_endL (vs := [_]) rfl ⟨rfl,trivial⟩ (fun w' hw => ⟨rfl,hw.below⟩)
theorem eqAccountS_c (A B : Option Addr) (c d : Nat) (l : List Account) (w : World) (h : Rd w A (fl l)) (h2 : Rd w B (fl l)) (hl : l.length ≤ 140737488355328) :
    Calls Tryz.prog 15 #[.slice A l.length c,.slice B l.length d] w fun e w' => e = .returned (.bool true) ∧ Below w.heap.size w w' := by
  refine ok_enter 27 Tryz.func15 rfl rfl rfl ?_
  repeat' (first|refine Wa ?_|refine Wb ?_|refine Wc ?_|refine Wd ?_|(refine ok_cond rfl (fun hc => ?_) (fun hc => ?_) <;> (have hd := hc;try simp only [jj] at hd))|refine Wg ?_|refine Wi ?_|(refine Zr 0 ?_;refine Za ?_;refine Ze2 0 1 ?_)|(refine Zr 1 ?_;refine Zm ?_;refine Zq (ps_len rfl rfl) ?_;refine Zm ?_;refine Zq (ps_len rfl rfl) ?_;refine Zi ?_;refine Ze3 0 1 10 ?_)|(refine Zr 2 ?_;refine Za ?_;refine Ze1 4 ?_)|(refine Zr 3 ?_;refine Za ?_;refine Ze3 0 1 5 ?_))
  · exact absurd hc (by simp)
  · refine ok_loop (ι := { k : Nat // k ≤ l.length }) (fun k => l.length - k.1) (fun k => ([(0,.slice A l.length c),(1,.slice B l.length d),(5,.int .i64 k.1)],_,_)) ⟨0,by omega⟩ (fun a w he hw => ⟨⟨0,by omega⟩,he.sub ⟨rfl,rfl,rfl,trivial⟩,hw⟩) ?_
    rintro ⟨k,hk⟩
    simp only at hk ⊢
    repeat' (first|refine Wa ?_|refine Wb ?_|refine Wd ?_|refine We ?_|(refine ok_cond rfl (fun hc => ?_) (fun hc => ?_) <;> (have hd := hc;try simp only [jj] at hd))|refine Wg ?_|refine Wh ?_|refine Wi ?_|(refine Zr 4 ?_;refine Zm ?_;refine Zm ?_;refine Zq (ps_len rfl rfl) ?_;refine Zi ?_;refine Ze4 0 1 5 14 ?_)|(refine Zr 5 ?_;refine Zm ?_;refine Zq (by exact ps_add rfl rfl rfl (by omega)) ?_;refine Za ?_;refine Ze3 0 1 5 ?_)|(refine Xd 6 10 ?_;refine Xm 0 ?_;refine Xm 1 ?_;refine Xt 2 rfl (by exact ps_indexN rfl rfl rfl (by omega) (by exact isw_of (isS_fl (by assumption) (by omega)))) ?_;refine Xt 3 rfl (by exact ps_loadsF rfl rfl (by exact rds_rf (by assumption) List.mem_cons_self) (by rfl) (by rfl) (by omega) rfl) ?_;refine Xm 4 ?_;refine Xm 5 ?_;refine Xt 6 rfl (by exact ps_indexN rfl rfl rfl (by omega) (by exact isw_of (isS_fl (by assumption) (by omega)))) ?_;refine Xt 7 rfl (by exact ps_loadsF rfl rfl (by exact rds_rf (by assumption) List.mem_cons_self) (by rfl) (by rfl) (by omega) rfl) ?_;refine Xo 8 rfl (by exact ms_s2 rfl rfl rfl (fun _ _ w hw => eqAccount_c _ w)) (fun y w _ h => by exact h) ?_;rintro y25 hy25;refine Xt 9 rfl (ps_not rfl rfl) ?_;refine okT_done (by kernel_rfl) ?_;refine Ze4 0 1 5 26 ?_)|(refine Zr 8 ?_;refine Za ?_;refine Ze1 4 ?_))
    all_goals first
      | (exfalso;simp [sEq] at hc;done)
      | exact fun a w' he hw => ⟨⟨k + 1,by omega⟩,by simp only;omega,he.sub ⟨rfl,rfl,rfl,trivial⟩,hw⟩
      | exact ok_endL (vs := [_]) rfl ⟨rfl,trivial⟩ (fun w' hw => ⟨rfl,hw.below⟩)
theorem markAccountS_c (A : Option Addr) (c : Nat) (l : List Account) (k0 : Int) (hk0 : 0 ≤ k0 ∧ k0 ≤ 1000000000000000) (hl : l.length ≤ 140737488355328) {base : Nat} {w0 w : World} {H : List HObj} {G : List World}
    (hw : WOk base w0 (.row 56 5 A l.length c (fl l) :: H) G w) :
    Calls Tryz.prog 17 #[.slice A l.length c,.int .i64 k0] w fun e w' => ∃ y : Ys,e = .returned (.int .i64 (k0 + 5 * (l.length : Int))) ∧ True ∧ WOk base w0 (.row 56 5 A l.length c (fl (mkL k0 l.length : List Account)) :: H) G w' := by
  refine ok_enterW 48 Tryz.func17 rfl rfl rfl hw ?_
  repeat' (first|refine Wa ?_|refine Wb ?_|refine Wd ?_|(refine Zr 0 ?_;refine Za ?_;refine Ze2 0 1 ?_)|(refine Zr 1 ?_;refine Za ?_;refine Ze3 0 1 5 ?_))
  refine ok_loop (ι := { k : Nat // k ≤ l.length }) (fun k => l.length - k.1) (fun k => ([(0,.slice A l.length c),(1,.int .i64 (k0 + 5 * (k.1 : Int))),(5,.int .i64 k.1)],.row 56 5 A l.length c (fl (mkL k0 k.1 ++ l.drop k.1)) :: H,_)) ⟨0,by omega⟩ (fun a w he hw => ⟨⟨0,by omega⟩,he.sub ⟨rfl,by simp [look,initE],rfl,trivial⟩,by simpa [mkL] using hw⟩) ?_
  rintro ⟨k,hk⟩
  simp only at hk ⊢
  repeat' (first|refine Wa ?_|refine Wb ?_|refine Wd ?_|refine We ?_|(refine ok_cond rfl (fun hc => ?_) (fun hc => ?_) <;> (have hd := hc;try simp only [jj] at hd))|refine Wg ?_|refine Wh ?_|refine Wi ?_|(refine Zr 2 ?_;refine Zm ?_;refine Zm ?_;refine Zq (ps_len rfl rfl) ?_;refine Zi ?_;refine Ze4 0 1 5 9 ?_)|(refine Zr 3 ?_;refine Zm ?_;refine Zq (by exact ps_add rfl rfl rfl (by omega)) ?_;refine Za ?_;refine Ze3 0 1 5 ?_)|(refine Zr 4 ?_;refine Zm ?_;refine Zm ?_;refine Zm ?_;refine Zq (by exact ps_indexN rfl rfl rfl (by omega) (by exact isw_row 0 rfl (by omega))) ?_;refine Zq (by exact ps_field rfl rfl (by exact isw_row 0 rfl (by omega))) ?_;refine Zo (by exact ms_setc 0 k 0 (⟨(k0 + 5 * (k : Int)),(nth l k).quo,(nth l k).byt,(nth l k).keys,(nth l k).rows⟩ : Account) rfl rfl rfl rfl rfl rfl rfl rfl (by rw [mk_nth _ _ _ (by omega)];rfl) (by simp [mkL_len];omega)) ?_;rintro y_ hy_;refine Ze3 0 1 5 ?_)|(refine Zr 5 ?_;refine Zm ?_;refine Zq (by exact ps_add rfl rfl rfl (by omega)) ?_;refine Za ?_;refine Ze3 0 1 5 ?_)|(refine Zr 6 ?_;refine Zm ?_;refine Zm ?_;refine Zm ?_;refine Zq (by exact ps_indexN rfl rfl rfl (by omega) (by exact isw_row 0 rfl (by omega))) ?_;refine Zq (by exact ps_field rfl rfl (by exact isw_row 0 rfl (by omega))) ?_;refine Zo (by exact ms_setc 0 k 1 (⟨(k0 + 5 * (k : Int)),(k0 + 5 * (k : Int)) + 1,(nth l k).byt,(nth l k).keys,(nth l k).rows⟩ : Account) rfl rfl rfl rfl rfl rfl rfl rfl (by rw [nth_set _ _ _ (by simp [mkL_len];omega)];rfl) (by simp [mkL_len];omega)) ?_;rintro y_ hy_;refine Ze3 0 1 5 ?_)|(refine Zr 7 ?_;refine Zm ?_;refine Zq (by exact ps_add rfl rfl rfl (by omega)) ?_;refine Za ?_;refine Ze3 0 1 5 ?_)|(refine Zr 8 ?_;refine Zm ?_;refine Zm ?_;refine Zm ?_;refine Zq (by exact ps_indexN rfl rfl rfl (by omega) (by exact isw_row 0 rfl (by omega))) ?_;refine Zq (by exact ps_field rfl rfl (by exact isw_row 0 rfl (by omega))) ?_;refine Zo (by exact ms_setc 0 k 2 (⟨(k0 + 5 * (k : Int)),(k0 + 5 * (k : Int)) + 1,(k0 + 5 * (k : Int)) + 1 + 1,(nth l k).keys,(nth l k).rows⟩ : Account) rfl rfl rfl rfl rfl rfl rfl rfl (by rw [nth_set _ _ _ (by simp [mkL_len];omega)];rfl) (by simp [mkL_len];omega)) ?_;rintro y_ hy_;refine Ze3 0 1 5 ?_)|(refine Zr 9 ?_;refine Zm ?_;refine Zq (by exact ps_add rfl rfl rfl (by omega)) ?_;refine Za ?_;refine Ze3 0 1 5 ?_)|(refine Zr 10 ?_;refine Zm ?_;refine Zm ?_;refine Zm ?_;refine Zq (by exact ps_indexN rfl rfl rfl (by omega) (by exact isw_row 0 rfl (by omega))) ?_;refine Zq (by exact ps_field rfl rfl (by exact isw_row 0 rfl (by omega))) ?_;refine Zo (by exact ms_setc 0 k 3 (⟨(k0 + 5 * (k : Int)),(k0 + 5 * (k : Int)) + 1,(k0 + 5 * (k : Int)) + 1 + 1,(k0 + 5 * (k : Int)) + 1 + 1 + 1,(nth l k).rows⟩ : Account) rfl rfl rfl rfl rfl rfl rfl rfl (by rw [nth_set _ _ _ (by simp [mkL_len];omega)];rfl) (by simp [mkL_len];omega)) ?_;rintro y_ hy_;refine Ze3 0 1 5 ?_)|(refine Zr 11 ?_;refine Zm ?_;refine Zq (by exact ps_add rfl rfl rfl (by omega)) ?_;refine Za ?_;refine Ze3 0 1 5 ?_)|(refine Zr 12 ?_;refine Zm ?_;refine Zm ?_;refine Zm ?_;refine Zq (by exact ps_indexN rfl rfl rfl (by omega) (by exact isw_row 0 rfl (by omega))) ?_;refine Zq (by exact ps_field rfl rfl (by exact isw_row 0 rfl (by omega))) ?_;refine Zo (by exact ms_setc 0 k 4 (⟨(k0 + 5 * (k : Int)),(k0 + 5 * (k : Int)) + 1,(k0 + 5 * (k : Int)) + 1 + 1,(k0 + 5 * (k : Int)) + 1 + 1 + 1,(k0 + 5 * (k : Int)) + 1 + 1 + 1 + 1⟩ : Account) rfl rfl rfl rfl rfl rfl rfl rfl (by rw [nth_set _ _ _ (by simp [mkL_len];omega)];rfl) (by simp [mkL_len];omega)) ?_;rintro y_ hy_;refine Ze3 0 1 5 ?_)|(refine Zr 13 ?_;refine Zm ?_;refine Zq (by exact ps_add rfl rfl rfl (by omega)) ?_;refine Za ?_;refine Ze3 0 1 5 ?_)|(refine Zr 14 ?_;refine Zm ?_;refine Za ?_;refine Ze1 4 ?_))
  · refine fun a w' he hw => ⟨⟨k + 1,by omega⟩,by simp only;omega,he.sub ⟨rfl,?_,rfl,trivial⟩,?_⟩
    · simp only [look];congr 2;simp;omega
    · have e := mk_step l k0 k (by omega)
      simp only
      rw [← e]
      refine WOk.same ?_ hw
      simp only [List.set_cons_zero,List.set_set]
      rfl
  · obtain rfl : k = l.length := by omega
    refine ok_endL (vs := [_]) rfl ⟨rfl,trivial⟩ (fun w' hw => ⟨mkY none 0 w,rfl,trivial,?_⟩)
    simpa using hw
theorem heldAccountS_c (A : Option Addr) (c : Nat) (n : Nat) (k0 : Int) (hk0 : 0 ≤ k0 ∧ k0 ≤ 1000000000000000) (hl : n ≤ 140737488355328) (w : World) (h : Rd w A (fl (mkL k0 n : List Account))) :
    Calls Tryz.prog 18 #[.slice A n c,.int .i64 k0] w fun e w' => e = .returned (.int .i64 (k0 + 5 * (n : Int))) ∧ Below w.heap.size w w' := by
  have hln : (mkL k0 n : List Account).length = n := mkL_len k0 n
  refine ok_enter 58 Tryz.func18 rfl rfl rfl ?_
  repeat' (first|refine Wa ?_|refine Wb ?_|refine Wd ?_|(refine Zr 0 ?_;refine Za ?_;refine Ze2 0 1 ?_)|(refine Zr 1 ?_;refine Za ?_;refine Ze3 0 1 5 ?_))
  refine ok_loop (ι := { k : Nat // k ≤ n }) (fun k => n - k.1) (fun k => ([(0,.slice A n c),(1,.int .i64 (k0 + 5 * (k.1 : Int))),(5,.int .i64 k.1)],_,_)) ⟨0,by omega⟩ (fun a w he hw => ⟨⟨0,by omega⟩,he.sub ⟨rfl,by simp [look,initE],rfl,trivial⟩,hw⟩) ?_
  rintro ⟨k,hk⟩
  simp only at hk ⊢
  repeat' (first|refine Wa ?_|refine Wb ?_|refine Wc ?_|refine Wd ?_|refine We ?_|refine Wf ?_|(refine ok_cond rfl (fun hc => ?_) (fun hc => ?_) <;> (have hd := hc;try simp only [jj] at hd))|refine Wg ?_|refine Wh ?_|refine Wi ?_|(refine Zr 2 ?_;refine Zm ?_;refine Zm ?_;refine Zq (ps_len rfl rfl) ?_;refine Zi ?_;refine Ze4 0 1 5 9 ?_)|(refine Zr 3 ?_;refine Zm ?_;refine Zq (by exact ps_add rfl rfl rfl (by omega)) ?_;refine Za ?_;refine Ze3 0 1 5 ?_)|(refine Zr 4 ?_;refine Zm ?_;refine Zm ?_;refine Zq (by exact ps_indexN rfl rfl rfl (by omega) (by exact isw_of (isS_fl (by assumption) (by omega)))) ?_;refine Zq (by exact ps_field rfl rfl (by exact isw_of (isS_fl (by assumption) (by omega)))) ?_;refine Zq (by exact ps_load rfl rfl (by exact Rds.cell (rds_rf (by assumption) List.mem_cons_self) (by exact fl_at0 _ _ (by omega) (by decide)))) ?_;refine Zm ?_;refine Zi ?_;refine Ze4 0 1 5 18 ?_)|(refine Zr 5 ?_;refine Za ?_;refine Ze1 4 ?_)|(refine Zr 6 ?_;refine Zm ?_;refine Zq (by exact ps_add rfl rfl rfl (by omega)) ?_;refine Za ?_;refine Ze3 0 1 5 ?_)|(refine Zr 7 ?_;refine Zm ?_;refine Zm ?_;refine Zq (by exact ps_indexN rfl rfl rfl (by omega) (by exact isw_of (isS_fl (by assumption) (by omega)))) ?_;refine Zq (by exact ps_field rfl rfl (by exact isw_of (isS_fl (by assumption) (by omega)))) ?_;refine Zq (by exact ps_load rfl rfl (by exact Rds.cell (rds_rf (by assumption) List.mem_cons_self) (by exact fl_at _ _ _ (by omega) (by decide)))) ?_;refine Zm ?_;refine Zi ?_;refine Ze4 0 1 5 27 ?_)|(refine Zr 8 ?_;refine Za ?_;refine Ze1 4 ?_)|(refine Zr 9 ?_;refine Zm ?_;refine Zq (by exact ps_add rfl rfl rfl (by omega)) ?_;refine Za ?_;refine Ze3 0 1 5 ?_)|(refine Zr 10 ?_;refine Zm ?_;refine Zm ?_;refine Zq (by exact ps_indexN rfl rfl rfl (by omega) (by exact isw_of (isS_fl (by assumption) (by omega)))) ?_;refine Zq (by exact ps_field rfl rfl (by exact isw_of (isS_fl (by assumption) (by omega)))) ?_;refine Zq (by exact ps_load rfl rfl (by exact Rds.cell (rds_rf (by assumption) List.mem_cons_self) (by exact fl_at _ _ _ (by omega) (by decide)))) ?_;refine Zm ?_;refine Zi ?_;refine Ze4 0 1 5 36 ?_)|(refine Zr 11 ?_;refine Za ?_;refine Ze1 4 ?_)|(refine Zr 12 ?_;refine Zm ?_;refine Zq (by exact ps_add rfl rfl rfl (by omega)) ?_;refine Za ?_;refine Ze3 0 1 5 ?_)|(refine Zr 13 ?_;refine Zm ?_;refine Zm ?_;refine Zq (by exact ps_indexN rfl rfl rfl (by omega) (by exact isw_of (isS_fl (by assumption) (by omega)))) ?_;refine Zq (by exact ps_field rfl rfl (by exact isw_of (isS_fl (by assumption) (by omega)))) ?_;refine Zq (by exact ps_load rfl rfl (by exact Rds.cell (rds_rf (by assumption) List.mem_cons_self) (by exact fl_at _ _ _ (by omega) (by decide)))) ?_;refine Zm ?_;refine Zi ?_;refine Ze4 0 1 5 45 ?_)|(refine Zr 14 ?_;refine Za ?_;refine Ze1 4 ?_)|(refine Zr 15 ?_;refine Zm ?_;refine Zq (by exact ps_add rfl rfl rfl (by omega)) ?_;refine Za ?_;refine Ze3 0 1 5 ?_)|(refine Zr 16 ?_;refine Zm ?_;refine Zm ?_;refine Zq (by exact ps_indexN rfl rfl rfl (by omega) (by exact isw_of (isS_fl (by assumption) (by omega)))) ?_;refine Zq (by exact ps_field rfl rfl (by exact isw_of (isS_fl (by assumption) (by omega)))) ?_;refine Zq (by exact ps_load rfl rfl (by exact Rds.cell (rds_rf (by assumption) List.mem_cons_self) (by exact fl_at _ _ _ (by omega) (by decide)))) ?_;refine Zm ?_;refine Zi ?_;refine Ze4 0 1 5 54 ?_)|(refine Zr 17 ?_;refine Za ?_;refine Ze1 4 ?_)|(refine Zr 18 ?_;refine Zm ?_;refine Zq (by exact ps_add rfl rfl rfl (by omega)) ?_;refine Za ?_;refine Ze3 0 1 5 ?_)|(refine Zr 19 ?_;refine Zm ?_;refine Za ?_;refine Ze1 4 ?_))
  all_goals try (have hnth := mkL_nth (α := Account) k0 n k (by omega))
  all_goals first
    | (exfalso;rw [hnth] at hc;simp [Mk.mkv,Mk.cnt,sEq] at hc;done)
    | (refine fun a w' he hw => ⟨⟨k + 1,by omega⟩,by simp only;omega,he.sub ⟨rfl,?_,rfl,trivial⟩,hw⟩
       simp only [look];congr 2;simp;omega)
    | (obtain rfl : k = n := by omega
       exact ok_endL (vs := [_]) rfl ⟨rfl,trivial⟩ (fun w' hw => ⟨rfl,hw.below⟩))
end Go.Proofs.YtmfojbidojjciaaGreat
namespace Go.Proofs.YtmfojbidojjciaaGreat
def allE (e : DEng) : List Ent := mergeS (e.mem :: e.tabs)
def mapE (e : DEng) (seq : Int) : List KV := fVis (allE e) seq
def bytesF (m : List KV) : Int := (m.map fun x => (x.key.size : Int) + (x.val.size : Int)).sum
def quoF (l : List Share) (id : Int) : Option Int := (l.find? fun x => decide (x.ten = id)).map Share.quo
theorem tabs_ord (seq : Int) : ∀ (T : List (List Ent)) (lo : Int),tabsOk seq lo T = true → ∀ l ∈ T,inOrd l = true
  | [],_,_,l,hl => by cases hl
  | t :: T,lo,h,l,hl => by
    unfold tabsOk at h
    simp only [Bool.and_eq_true] at h
    rcases List.mem_cons.1 hl with rfl | hl
    · exact h.1.1.1.2
    · exact tabs_ord seq T _ h.2 l hl
theorem eng_ord {e : DEng} (h : fEngOk e = true) : ∀ l ∈ e.mem :: e.tabs,inOrd l = true := fun l hl => by
  unfold fEngOk at h
  simp only [Bool.and_eq_true] at h
  obtain ⟨⟨⟨⟨⟨⟨⟨g1,g2⟩,g3⟩,g4⟩,g5,g6⟩,g7⟩,g8⟩,g9⟩ := h
  rcases List.mem_cons.1 hl with rfl | hl
  · exact g6
  · exact tabs_ord _ _ _ g8 l hl
theorem eng_str {e : DEng} (h : fEngOk e = true) : ∀ l ∈ e.mem :: e.tabs,strE l := fun l hl => inOrd_str (eng_ord h l hl)
theorem eng_all {e : DEng} (h : fEngOk e = true) : strE (allE e) ∧ ∀ x ∈ allE e,entOk x = true := by
  obtain ⟨h1,h2⟩ := mergeS_str (eng_str h)
  refine ⟨h1,fun x hx => ?_⟩
  have hf := List.mem_of_find?_eq_some ((h2 x).1 hx)
  obtain ⟨l,hl,hxl⟩ := List.mem_flatten.1 hf
  exact ((inOrd_iff l).1 (eng_ord h l hl)).1 x hxl
theorem tot_at : ∀ {T : List (List Ent)} {m : Nat},totE T ≤ m → ∀ l ∈ T,l.length ≤ m
  | [],m,h,l,hl => by cases hl
  | t :: T,m,h,l,hl => by
    unfold totE at h
    rw [List.map_cons,List.sum_cons] at h
    rcases List.mem_cons.1 hl with rfl | hl
    · omega
    · exact tot_at (T := T) (by unfold totE;omega) l hl
theorem eng_few {e : DEng} (h : fEngOk e = true) : e.mem.length ≤ 60 ∧ e.tabs.length ≤ 6 ∧ totE (e.mem :: e.tabs) ≤ 400 ∧ e.snaps.length ≤ 4 ∧ 0 ≤ e.seq ∧ e.seq ≤ 1000000 := by
  unfold fEngOk at h
  simp only [Bool.and_eq_true,decide_eq_true_eq,inB_true] at h
  obtain ⟨⟨⟨⟨⟨⟨⟨g1,g2⟩,g3⟩,g4⟩,g5,g6⟩,g7⟩,g8⟩,g9⟩ := h
  refine ⟨g5,g3,?_,g2,g1.1,g1.2⟩
  unfold totE at g4 ⊢
  rw [List.map_cons,List.sum_cons];omega
theorem tot_off (T : List (List Ent)) : ∀ k,offR List.length T k ≤ totE T := fun k => by
  unfold offR totE
  have : T.map List.length = (T.take k).map List.length ++ (T.drop k).map List.length := by rw [← List.map_append,List.take_append_drop]
  rw [this,List.sum_append];omega
theorem entOk_kv {x : Ent} (h : entOk x = true) : kk (kvE x).key = true ∧ (kvE x).val.size ≤ 16 := by
  unfold entOk at h
  simp only [Bool.and_eq_true,decide_eq_true_eq] at h
  exact ⟨h.1.1,by have := h.2.1;unfold kvE;simp only;omega⟩
theorem map_ok {e : DEng} (h : fEngOk e = true) (seq : Int) : mapOk (mapE e seq) = true := by
  obtain ⟨h1,h2⟩ := eng_all h
  unfold mapE
  refine okM_of (vis_keys seq h1) ?_
  rw [vis_same h1]
  intro x hx
  unfold sMap at hx
  obtain ⟨a,ha,rfl⟩ := List.mem_map.1 hx
  exact entOk_kv (h2 a (List.mem_filter.1 ha).1)
def accF (s : DStore) (t : DTen) : Account := ⟨t.id,(quoF s.shares.list t.id).getD 0,bytesF (mapE t.eng t.eng.seq),((mapE t.eng t.eng.seq).length : Int),((rowsF s.rows t.id).length : Int)⟩
def fAccounts (s : DStore) : List Account := if fStoreOk s = true then s.tens.map (accF s) else []
theorem store_ten {s : DStore} (h : fStoreOk s = true) {i : Nat} (hi : i < s.tens.length) : (nth s.keys.slots i).ten = (tenD s.tens i).id ∧ (nth s.shares.list i).ten = (tenD s.tens i).id ∧ fTenOk s (tenD s.tens i) = true := by
  unfold fStoreOk at h
  simp only [Bool.and_eq_true] at h
  have := allR_at h.1.2 hi
  unfold tenAt at this
  simp only [Bool.and_eq_true,decide_eq_true_eq] at this
  exact ⟨this.1.1,this.1.2,this.2⟩
theorem ten_eng {s : DStore} {t : DTen} (h : fTenOk s t = true) : fEngOk t.eng = true := by
  unfold fTenOk at h
  simp only [Bool.and_eq_true] at h
  exact h.1.1.2
theorem ten_rows {s : DStore} {t : DTen} (h : fTenOk s t = true) : ((rowsF s.rows t.id).length : Int) = t.eng.seq - t.ba ∧ (rowsF s.rows t.id).length ≤ 6 := by
  unfold fTenOk mineF at h
  simp only [Bool.and_eq_true,decide_eq_true_eq] at h
  exact ⟨by omega,h.2.1.2⟩
theorem store_len {s : DStore} (h : fStoreOk s = true) : s.tens.length = s.keys.slots.length ∧ s.tens.length = s.shares.list.length ∧ s.tens.length ≤ 4 ∧ fSharesOk s.shares = true ∧ fKeyOk s.keys = true := by
  unfold fStoreOk at h
  simp only [Bool.and_eq_true,decide_eq_true_eq] at h
  obtain ⟨⟨⟨⟨⟨⟨⟨⟨h1,h2⟩,h3⟩,h4⟩,h5⟩,h6⟩,h7⟩,h8⟩,h9⟩ := h
  have h3' := h3
  unfold fSharesOk at h3
  simp only [Bool.and_eq_true,decide_eq_true_eq] at h3
  exact ⟨h6,h7,by have := h3.1.1;omega,h3',h2⟩
theorem store_quo {s : DStore} (h : fStoreOk s = true) {i : Nat} (hi : i < s.tens.length) : ∃ q,quoF s.shares.list (tenD s.tens i).id = some q := by
  obtain ⟨h1,h2,h3⟩ := store_ten h hi
  obtain ⟨g1,g2,_⟩ := store_len h
  unfold quoF
  cases hf : s.shares.list.find? (fun x => decide (x.ten = (tenD s.tens i).id)) with
  | some x => exact ⟨x.quo,rfl⟩
  | none =>
    rw [List.find?_eq_none] at hf
    have := hf _ (nth_mem s.shares.list i (by omega))
    simp [h2] at this
end Go.Proofs.YtmfojbidojjciaaGreat
namespace Go.Proofs.YtmfojbidojjciaaGreat
open Go.RowKit
attribute [local irreducible] Calls
theorem closO_c (x o : Opp) (g : Nat) (w : World) (h : Rd w (ga g) (Dat.cells o)) : Calls Tryz.prog 278 (Value.agg (Dat.cells x).toArray :: [pt (ga g) 0]).toArray w fun e w' => e = .returned (.bool (sEq x.key o.key)) ∧ Below w.heap.size w w' := by
  refine ok_enter 9 Tryz.func278 rfl rfl rfl ?_
  repeat' (first|refine Wa ?_|refine Wb ?_|refine Wg ?_|(refine Zr 0 ?_;refine Zn (ms_box rfl rfl rfl) ?_;rintro y2 hy2;refine Za ?_;refine Ze2 1 2 ?_)|(refine Zr 1 ?_;refine Zf ?_;refine Zl 0 ?_;refine Zf ?_;refine Zq (by exact ps_load rfl rfl (Rds.cell (rds_rf h List.mem_cons_self) rfl)) ?_;refine Zq (ps_str rfl rfl rfl rfl) ?_;refine Za ?_;refine Ze1 3 ?_))
  exact ok_endL (vs := [_]) rfl ⟨rfl,trivial⟩ (fun w' hw => ⟨rfl,hw.below⟩)
theorem containsO_c (f : FuncId) [hF : FN Tryz.prog f] (cs : List Value) (p : Opp → Bool) (A : Option Addr) (c : Nat) (R : List Opp) (w : World) (h : Rd w A (fl R)) (hl : R.length ≤ 4194304)
    (hf : ∀ (x : Opp) (w' : World),Keeps w w' → Calls Tryz.prog f (Value.agg (Dat.cells x).toArray :: cs).toArray w' (fun e w'' => e = .returned (.bool (p x)) ∧ Below w'.heap.size w' w'')) :
    Calls Tryz.prog 277 #[.slice A R.length c,.func (.func f) #[] cs.toArray] w fun e w' => e = .returned (.bool (R.any p)) ∧ Below w.heap.size w w' := by
  have e : decide (0 ≤ ixP p R) = R.any p := by
    rcases ixP_or p R with ⟨e,hn⟩ | ⟨i,e,hi,h1,h2⟩
    · rw [e]
      symm
      rw [List.any_eq_false.2]
      · decide
      · intro x hx
        have := mem_nth (l := R) (p := fun x => p x = false) hn x hx
        simp [this]
    · rw [e]
      have : R.any p = true := List.any_eq_true.2 ⟨_,nth_mem R i hi,h1⟩
      rw [this];simp
  refine ok_enter 9 Tryz.func277 rfl rfl rfl ?_
  repeat' (first|refine Wa ?_|refine Wb ?_|refine Wg ?_|(refine Zr 0 ?_;refine Za ?_;refine Ze2 0 1 ?_)|(refine Zr 1 ?_;refine Zm ?_;refine Zm ?_;refine Zn (by exact ms_s2 rfl rfl rfl (fun _ _ w' hw => indexO_c f cs p A c R w' (rds_rf h List.mem_cons_self _ _ w' hw) hl (fun x w2 hk => hf x w2 (fun p u hh => hk p u (hw.keeps List.mem_cons_self p u hh))))) ?_;rintro y7 hy7;refine Zi ?_;refine Za ?_;refine Ze1 4 ?_))
  exact ok_endL (vs := [_]) rfl ⟨rfl,trivial⟩ (fun w' hw => ⟨by rw [← e];rfl,hw.below⟩)
theorem containsO_n (f : FuncId) [hF : FN Tryz.prog f] (cs : List Value) (p : Opp → Bool) (A : Option Addr) (c n : Nat) (R : List Opp) (hn : R.length = n) (w : World) (h : Rd w A (fl R)) (hl : n ≤ 4194304)
    (hf : ∀ (x : Opp) (w' : World),Keeps w w' → Calls Tryz.prog f (Value.agg (Dat.cells x).toArray :: cs).toArray w' (fun e w'' => e = .returned (.bool (p x)) ∧ Below w'.heap.size w' w'')) :
    Calls Tryz.prog 277 #[.slice A n c,.func (.func f) #[] cs.toArray] w fun e w' => e = .returned (.bool (R.any p)) ∧ Below w.heap.size w w' := by
  subst hn;exact containsO_c f cs p A c R w h hl hf
theorem last_any (l : List Opp) (i : Nat) : ((l.drop (i + 1)).any fun x => sEq x.key (nth l i).key) = !lastOp l i := by
  unfold lastOp
  rw [List.any_eq_not_all_not]
structure EpI (n : Nat) where
  i : Nat
  B : Option Addr
  d : Nat
  hi : i ≤ n
theorem eng_mem {e : DEng} (he : fEngOk e = true) : strE e.mem ∧ ∀ x ∈ e.mem,x.seq < e.seq + 1 := by
  unfold fEngOk at he
  simp only [Bool.and_eq_true,decide_eq_true_eq,inB_true] at he
  obtain ⟨⟨⟨⟨⟨⟨⟨h1,h2⟩,h3⟩,h4⟩,h5,h6⟩,h7⟩,h8⟩,h9⟩ := he
  exact ⟨inOrd_str h6,fun x hx => by have := ((hi_le _ _).1 h7).2 x hx;omega⟩
def RdsN {α β : Type} [Dat β] [In α β] (H : List HObj) (G : List World) (A : Option Addr) (R : List (Lc α)) : Prop := ∀ base w0 w,WOk base w0 H G w → RdN w A R
theorem engPut_c (g : Nat) (mA : Option Addr) (mc : Nat) (mem : List Ent) (tA : Option Addr) (tc : Nat) (R : List LE) (seq : Int) (sA : Option Addr) (sc : Nat) (sn : List Int) (A : Option Addr) (c : Nat) (l : List Opp) (m : World) (ho : Rd m A (fl l)) (hlc : l.length ≤ c) (he : fEngOk ⟨mem,dats R,seq,sn⟩ = true) (hb : batchOk l = true) {base : Nat} {w0 w : World} {H : List HObj} {G : List World} (hm : m ∈ G) (ht : RdsN H G tA R)
    (hw : WOk base w0 (.box g 88 [.slice mA mem.length mc,.slice tA R.length tc,.int .i64 seq,.slice sA sn.length sc] :: .row 204 4 mA mem.length mc (fl mem) :: H) G w) :
    Calls Tryz.prog 211 #[pt (ga g) 0,.slice A l.length c] w fun e w' => ∃ y : Ys,e = .returned (.bool (fEngPut ⟨mem,dats R,seq,sn⟩ l).2) ∧ True ∧ WOk base w0 (.box g 88 [.slice (y 0).A (putE ⟨mem,dats R,seq,sn⟩ l).mem.length (y 0).c,.slice tA R.length tc,.int .i64 (seq + 1),.slice sA sn.length sc] :: .row 204 4 (y 0).A (putE ⟨mem,dats R,seq,sn⟩ l).mem.length (y 0).c (fl (putE ⟨mem,dats R,seq,sn⟩ l).mem) :: H) G w' := by
  have hfew := eng_few he
  simp only at hfew
  obtain ⟨f1,f2,f3,f4,f5,f6⟩ := hfew
  have hb6 := (batch_few hb).1
  refine ok_enterW 87 Tryz.func211 rfl rfl rfl hw ?_
  repeat' (first|refine Wa ?_|refine Wb ?_|refine Wd ?_|(refine Zr 0 ?_;refine Za ?_;refine Ze2 0 1 ?_)|(refine Zr 1 ?_;refine Zm ?_;refine Zq (by exact ps_nil rfl rfl (isw_ga _)) ?_;refine Zf ?_;refine Zl 0 ?_;refine Zq (by exact ps_add rfl rfl rfl (by omega)) ?_;refine Zq (by exact ps_nil rfl rfl (isw_ga _)) ?_;refine Zf ?_;refine Zo (ms_store 0 rfl rfl rfl rfl rfl rfl rfl rfl) ?_;rintro y_ hy_;refine Ze2 0 1 ?_)|(refine Zr 2 ?_;refine Za ?_;refine Ze3 0 1 5 ?_)|(refine Zr 3 ?_;refine Zm ?_;refine Zq (ps_len rfl rfl) ?_;refine Zm ?_;refine Ze6 0 1 5 16 17 18 ?_))
  obtain ⟨g1,g2⟩ := eng_mem he
  have hst : ∀ i,i ≤ l.length → strE (putTo mem (seq + 1) l i) := fun i hi => putTo_str g1 g2 i hi
  have hnw : ∀ i,i < l.length → ∀ x ∈ putTo mem (seq + 1) l i,sameE x (entOp (nth l i) (seq + 1)) = false := fun i hi => put_new g2 hi
  have hle := putTo_le mem (seq + 1) l
  have HST := Lib.hid hst;clear hst
  have HNW := Lib.hid hnw;clear hnw
  have HLE := Lib.hid hle;clear hle
  clear g1 g2
  refine ok_loop (ι := EpI l.length) (fun q => l.length - q.i) (fun q => ([(0,pt (ga g) 0),(1,.slice A l.length c),(5,.bool true),(16,.slice A l.length c),(17,.int .i64 l.length),(18,.int .i64 q.i)],.box g 88 [.slice q.B (putTo mem (seq + 1) l q.i).length q.d,.slice tA R.length tc,.int .i64 (seq + 1),.slice sA sn.length sc] :: .row 204 4 q.B (putTo mem (seq + 1) l q.i).length q.d (fl (putTo mem (seq + 1) l q.i)) :: H,G)) ⟨0,mA,mc,Nat.zero_le _⟩ (fun a w he hw => ⟨⟨0,mA,mc,Nat.zero_le _⟩,he.sub ⟨rfl,rfl,rfl,rfl,rfl,rfl,trivial⟩,hw⟩) ?_
  rintro ⟨i,B,d,hi⟩
  simp only at hi ⊢
  have hli := HLE.out i
  have hdl : (l.drop (i + 1)).length = l.length - (i + 1) := List.length_drop ..
  have hany := last_any l i
  have hl400 : ∀ x ∈ dats R,x.length ≤ 4194304 := fun x hx => by
    have := tot_at f3 x (List.mem_cons_of_mem _ hx);omega
  have HL4 := Lib.hid hl400;clear hl400
  have hto := offE_tot (dats R)
  rw [dats_len] at hto f2
  have hte : totE (mem :: dats R) = mem.length + totE (dats R) := by unfold totE;rw [List.map_cons,List.sum_cons]
  repeat' (first|refine Wa ?_|refine Wb ?_|refine Wd ?_|refine We ?_|(refine ok_cond rfl (fun hc => ?_) (fun hc => ?_) <;> (have hd := hc;try simp only [jj] at hd))|refine Wg ?_|refine Wh ?_|refine Wi ?_|(refine Zr 4 ?_;refine Zi ?_;refine Ze7 0 1 5 16 17 18 19 ?_)|(refine Zr 5 ?_;refine Zm ?_;refine Zq (by exact ps_indexN rfl rfl rfl (by omega) (isw_of (isS_fl ho (by omega)))) ?_;refine Zq (by exact ps_loads (vs := Dat.cells (nth l i)) rfl rfl (rds_rf ho hm) (fl_sub l i (by omega)) (Dat.len (nth l i)) (by decide)) ?_;refine Zn (ms_alloc rfl) ?_;rintro y7 hy7;refine Za ?_;refine Zo (ms_store 0 rfl rfl rfl rfl rfl rfl rfl rfl) ?_;rintro y_ hy_;refine Ze8 0 1 5 6 7 16 17 18 ?_)|(refine Zr 6 ?_;refine Zm ?_;refine Zm ?_;refine Zq (by exact ps_add rfl rfl rfl (by omega)) ?_;refine Zq (by exact ps_sliceE (l := i + 1) rfl rfl rfl rfl (by omega) (by omega)) ?_;refine Zq (ps_mkf rfl rfl) ?_;refine Zn (by exact ms_s2 rfl rfl rfl (fun _ _ w hw => containsO_n 278 [pt (ga (y7 0).c) 0] (fun x => sEq x.key (nth l i).key) _ _ _ (l.drop (i + 1)) hdl w (rds_tail (rds_rf ho hm) rfl (by omega) (by omega) _ _ w hw) (by omega) (fun x w' hk => closO_c x (nth l i) _ w' ((rds_box 0 rfl _ _ w hw).keeps hk)))) ?_;rintro y28 hy28;refine Za ?_;refine Ze8 0 1 5 7 8 16 17 18 ?_)|(refine Zr 7 ?_;refine Zm ?_;refine Zq (ps_not rfl rfl) ?_;refine Zm ?_;refine Zg rfl rfl rfl (gT _) (fun hp => by exact ps_move rfl rfl) ?_;refine Zq (ps_and rfl rfl rfl) ?_;refine Ze8 0 1 5 7 16 17 18 33 ?_)|(apply mrg1;(focus (intro hk;refine ok_draw (id := 8) 23 rfl (by kernel_rfl) (by kernel_rfl) rfl (by repeat (first | exact pq_body | refine pq_then ?_ | refine pq_in ?_)) [0] (by decide) rfl ?_;refine Xm 0 ?_;refine Xm 1 ?_;refine Xt 2 rfl (by exact ps_nil rfl rfl (isw_ga _)) ?_;refine Xf 3 ?_;refine Xf 5 ?_;refine Xl 6 0 ?_;refine Xm 7 ?_;refine Xt 8 rfl (by exact ps_nil rfl rfl (isw_ga _)) ?_;refine Xf 9 ?_;refine Xf 11 ?_;refine Xl 12 0 ?_;refine Xf 13 ?_;refine Xl 14 0 ?_;refine okT_many (by kernel_rfl) (all_cons (at_m (i := 4) rfl rfl rfl rfl rfl (by exact ms_ps (by exact ps_load rfl rfl (by exact Rds.cell (rds_box 1 rfl) rfl))) (fun y w _ h => by exact h.sel [0] (by decide) rfl (fun _ h => h)) ?_) (all_cons (at_m (i := 10) rfl rfl rfl rfl rfl (by exact ms_ps (by exact ps_load rfl rfl (by exact Rds.cell (rds_box 1 rfl) rfl))) (fun y w _ h => by exact h.sel [0] (by decide) rfl (fun _ h => h)) ?_) all_nil));(focus (rintro y39 hy39;refine Xo 10 rfl (by exact ms_ps (by exact ps_load rfl rfl (by exact Rds.cell (rds_box 1 rfl) rfl))) (fun y w _ h => by exact h.sel [0] (by decide) rfl (fun _ h => h)) ?_;rintro y45 hy45;refine Xt 15 rfl (by exact ps_bld rfl (parts_cons rfl (parts_cons rfl (parts_cons rfl (parts_cons rfl parts_nil)))) rfl) ?_;refine Xo 16 rfl (by exact ms_w2 (fun _ _ _ h => h.front 2 rfl) rfl rfl rfl (fun _ _ w hw => i_put B d (putTo mem (seq + 1) l i) (entOp (nth l i) (seq + 1)) (HST.out i (by omega)) (HNW.out i (by omega)) (by omega) hw)) (fun y w _ h => by exact h.tl.sel [0] (by decide) rfl (fun _ h => h)) ?_;rintro y51 hy51;refine Xm 17 ?_;refine Xt 18 rfl (ps_extract rfl rfl rfl) ?_;refine Xt 19 rfl (ps_extract rfl rfl rfl) ?_;refine Xt 20 rfl (by exact ps_nil rfl rfl (isw_ga _)) ?_;refine Xf 21 ?_;refine okT_one0 (i := 22) rfl rfl (by kernel_rfl) rfl rfl (ms_store 2 rfl rfl rfl rfl rfl rfl rfl rfl) (fun y w _ h => by exact h.tl.sel [0] (by decide) rfl (fun _ h => h)) ?_;rintro y_ hy_;refine okT_done (by kernel_rfl) ?_;refine Za ?_;refine Ze6 0 1 5 16 17 18 ?_;exact hk y51));(focus (rintro y45 hy45;refine Xt 15 rfl (by exact ps_bld rfl (parts_cons rfl (parts_cons rfl (parts_cons rfl (parts_cons rfl parts_nil)))) rfl) ?_;refine Xo 4 rfl (by exact ms_ps (by exact ps_load rfl rfl (by exact Rds.cell (rds_box 1 rfl) rfl))) (fun y w _ h => by exact h.sel [0] (by decide) rfl (fun _ h => h)) ?_;rintro y39 hy39;refine Xo 16 rfl (by exact ms_w2 (fun _ _ _ h => h.front 2 rfl) rfl rfl rfl (fun _ _ w hw => i_put B d (putTo mem (seq + 1) l i) (entOp (nth l i) (seq + 1)) (HST.out i (by omega)) (HNW.out i (by omega)) (by omega) hw)) (fun y w _ h => by exact h.tl.sel [0] (by decide) rfl (fun _ h => h)) ?_;rintro y51 hy51;refine Xm 17 ?_;refine Xt 18 rfl (ps_extract rfl rfl rfl) ?_;refine Xt 19 rfl (ps_extract rfl rfl rfl) ?_;refine Xt 20 rfl (by exact ps_nil rfl rfl (isw_ga _)) ?_;refine Xf 21 ?_;refine okT_one0 (i := 22) rfl rfl (by kernel_rfl) rfl rfl (ms_store 2 rfl rfl rfl rfl rfl rfl rfl rfl) (fun y w _ h => by exact h.tl.sel [0] (by decide) rfl (fun _ h => h)) ?_;rintro y_ hy_;refine okT_done (by kernel_rfl) ?_;refine Za ?_;refine Ze6 0 1 5 16 17 18 ?_;exact hk y51))));rintro y51)|(refine Zr 9 ?_;refine Zq (by exact ps_add rfl rfl rfl (by omega)) ?_;refine Zm ?_;refine Ze6 0 1 5 16 17 18 ?_)|(refine ok_draw (id := 10) 31 rfl (by kernel_rfl) (by kernel_rfl) rfl (by repeat (first | exact pq_body | refine pq_then ?_ | refine pq_in ?_)) [0,1] (by decide) rfl ?_;refine Xm 0 ?_;refine Xm 1 ?_;refine Xg 2 rfl rfl rfl rfl (gT _) (fun hp => by exact ps_move rfl rfl) ?_;refine Xg 3 rfl rfl rfl rfl (gT _) (fun hp => by (exact ps_nil rfl (Og rfl) (isw_ga _))) ?_;refine Xg 4 rfl rfl rfl rfl (gT _) (fun hp => by (exact ps_field rfl (Og rfl) (isw_ga _))) ?_;refine Xg 5 rfl rfl rfl rfl (gT _) (fun hp => by (exact ps_load rfl (Og rfl) (by exact Rds.cell (rds_box 0 rfl) rfl))) ?_;refine Xg 6 rfl rfl rfl rfl (gT _) (fun hp => by (exact ps_int rfl (Og rfl) rfl rfl)) ?_;refine Xt 7 rfl (ps_and rfl rfl rfl) ?_;refine Xm 8 ?_;refine Xg 9 rfl rfl rfl rfl (gT _) (fun hp => by exact ps_move rfl rfl) ?_;refine Xg 10 rfl rfl rfl rfl (gT _) (fun hp => by (exact ps_nil rfl (Og rfl) (isw_ga _))) ?_;refine Xg 11 rfl rfl rfl rfl (gT _) (fun hp => by (exact ps_field rfl (Og rfl) (isw_ga _))) ?_;refine Xg 12 rfl rfl rfl rfl (gT _) (fun hp => by (exact ps_load rfl (Og rfl) (by exact Rds.cell (rds_box 0 rfl) rfl))) ?_;refine Xg 13 rfl rfl rfl rfl (gT _) (fun hp => by (exact ps_len rfl (Og rfl))) ?_;refine Xg 14 rfl rfl rfl rfl (gT _) (fun hp => by (exact ps_int rfl (Og rfl) rfl rfl)) ?_;refine Xt 15 rfl (ps_and rfl rfl rfl) ?_;refine Xm 16 ?_;refine Xg 17 rfl rfl rfl rfl (gT _) (fun hp => by exact ps_move rfl rfl) ?_;refine Xg 18 rfl rfl rfl rfl (gT _) (fun hp => by (exact ps_nil rfl (Og rfl) (isw_ga _))) ?_;refine Xg 19 rfl rfl rfl rfl (gT _) (fun hp => by (exact ps_field rfl (Og rfl) (isw_ga _))) ?_;refine Xg 20 rfl rfl rfl rfl (gT _) (fun hp => by (exact ps_load rfl (Og rfl) (by exact Rds.cell (rds_box 0 rfl) rfl))) ?_;refine Xg 22 rfl rfl rfl rfl (gT _) (fun hp => by exact ps_move rfl rfl) ?_;refine Xg 23 rfl rfl rfl rfl (gT _) (fun hp => by (exact ps_nil rfl (Og rfl) (isw_ga _))) ?_;refine Xg 24 rfl rfl rfl rfl (gT _) (fun hp => by (exact ps_field rfl (Og rfl) (isw_ga _))) ?_;refine Xg 25 rfl rfl rfl rfl (gT _) (fun hp => by (exact ps_load rfl (Og rfl) (by exact Rds.cell (rds_box 0 rfl) rfl))) ?_;refine Xg 26 rfl rfl rfl rfl (gT _) (fun hp => by (exact ps_len rfl (Og rfl))) ?_;refine okT_one_g1 (i := 21) rfl rfl (by kernel_rfl) rfl rfl rfl rfl rfl (gT _) (fun hp => by (have hpd := hp;(try simp only [jj] at hpd);exact ms_s1 rfl (Og rfl) (fun _ _ w hw => totalOf_c tA tc R (by omega) HL4.out w (ht _ _ w hw.tl.tl)))) (fun w h => by exact h.sel [0,1] (by decide) rfl (fun _ h => h)) ?_;refine Xg 27 rfl rfl rfl rfl (gT _) (fun hp => by (have hpd := hp;(try simp only [jj] at hpd);exact ps_add rfl (Og rfl) (Og rfl) (by omega))) ?_;refine Xg 28 rfl rfl rfl rfl (gT _) (fun hp => by (exact ps_int rfl (Og rfl) rfl rfl)) ?_;refine Xt 29 rfl (ps_and rfl rfl rfl) ?_;refine Xt 30 rfl (ps_assign rfl rfl) ?_;refine okT_done (by kernel_rfl) ?_;refine Ze1 4 ?_))
  · have hlo : lastOp l i = true := by
      have := hany;rw [hd.1] at this;simpa using this.symm
    have e : putTo mem (seq + 1) l (i + 1) = insE (putTo mem (seq + 1) l i) (entOp (nth l i) (seq + 1)) := by rw [putTo,if_pos hlo]
    refine fun a' w' he hw => ⟨⟨i + 1,(y51 0).A,(y51 0).c,by omega⟩,by simp only;omega,he.sub ⟨rfl,rfl,rfl,rfl,rfl,rfl,trivial⟩,?_⟩
    simp only [e]
    exact (hw.front 1 rfl).tl.front 1 rfl
  · have hlo : lastOp l i = false := by
      rcases hd with hd | hd
      · have := hany;rw [hd] at this;simpa using this.symm
      · cases hd
    have e : putTo mem (seq + 1) l (i + 1) = putTo mem (seq + 1) l i := by rw [putTo,if_neg (by rw [hlo];decide)]
    refine fun a' w' he hw => ⟨⟨i + 1,B,d,by omega⟩,by simp only;omega,he.sub ⟨rfl,rfl,rfl,rfl,rfl,rfl,trivial⟩,?_⟩
    simp only [e]
    exact hw.tl
  · obtain rfl : i = l.length := by omega
    have e : (fEngPut ⟨mem,dats R,seq,sn⟩ l).2 = (true && decide (seq + 1 ≤ 1000000) && decide (((putTo mem (seq + 1) l l.length).length : Int) ≤ 60) && decide ((offE (dats R) R.length : Int) + ((putTo mem (seq + 1) l l.length).length : Int) ≤ 400)) := by
      have h1 := put_valid he hb
      unfold fEngPut
      rw [if_pos he,if_pos hb]
      have h2 : (if fEngOk (putE ⟨mem,dats R,seq,sn⟩ l) = true then (putE ⟨mem,dats R,seq,sn⟩ l,true) else (⟨mem,dats R,seq,sn⟩,false)).2 = fEngOk (putE ⟨mem,dats R,seq,sn⟩ l) := by
        cases fEngOk (putE ⟨mem,dats R,seq,sn⟩ l) <;> rfl
      rw [h2,h1,Bool.true_and,hto]
      show (decide (seq + 1 ≤ 1000000) && decide ((putTo mem (seq + 1) l l.length).length ≤ 60) && decide (totE (dats R) + (putTo mem (seq + 1) l l.length).length ≤ 400)) = _
      congr 1
      · congr 1
        exact decide_eq_decide.2 (by omega)
      · exact decide_eq_decide.2 (by omega)
    exact ok_endL (vs := [_]) rfl ⟨rfl,trivial⟩ (fun w' hw => ⟨mkY B d w',by rw [e];rfl,trivial,hw⟩)
def lastTo (l : List Opp) (i k : Nat) : Bool := ((l.take k).drop (i + 1)).all fun x => !sEq x.key (nth l i).key
theorem lastTo_zero (l : List Opp) (i : Nat) : lastTo l i (i + 1) = true := by
  unfold lastTo
  rw [List.drop_eq_nil_of_le (by rw [List.length_take];omega)];rfl
theorem lastTo_step (l : List Opp) (i k : Nat) (h : i + 1 ≤ k) (hk : k < l.length) : lastTo l i (k + 1) = (lastTo l i k && !sEq (nth l k).key (nth l i).key) := by
  have e : nth l k = l[k] := by simp [nth,hk]
  unfold lastTo
  rw [List.take_succ_eq_append_getElem hk,List.drop_append_of_le_length (by rw [List.length_take];omega),List.all_append,e]
  simp
theorem lastTo_all (l : List Opp) (i : Nat) : lastTo l i l.length = lastOp l i := by
  unfold lastTo lastOp;rw [List.take_length]
theorem engput_bad {e : DEng} {l : List Opp} (h : fEngOk e = false) : fEngPut e l = (⟨[],[],0,[]⟩,false) := by
  unfold fEngPut;rw [if_neg (by rw [h];decide)]
theorem engput_nob {e : DEng} {l : List Opp} (h : fEngOk e = true) (hb : batchOk l = false) : fEngPut e l = (e,false) := by
  unfold fEngPut;rw [if_pos h,if_neg (by rw [hb];decide)]
theorem engput_nor {e : DEng} {l : List Opp} (h : fEngOk e = true) (hb : batchOk l = true) (hr : fEngOk (putE e l) = false) : fEngPut e l = (e,false) := by
  unfold fEngPut;rw [if_pos h,if_pos hb,if_neg (by rw [hr];decide)]
theorem engput_yes {e : DEng} {l : List Opp} (h : fEngOk e = true) (hb : batchOk l = true) (hr : fEngOk (putE e l) = true) : fEngPut e l = (putE e l,true) := by
  unfold fEngPut;rw [if_pos h,if_pos hb,if_pos hr]
structure SpI (l : List Opp) (i : Nat) where
  k : Nat
  hk : i + 1 ≤ k ∧ k ≤ l.length
theorem engNil (w : World) : engVal ⟨[],[],0,[]⟩ (cpY none 0 none 0 none 0 [] w) = .agg #[.slice none 0 0,.slice none 0 0,.int .i64 0,.slice none 0 0] ∧ engObj ⟨[],[],0,[]⟩ (cpY none 0 none 0 none 0 [] w) = [.row 204 4 none 0 0 (fl ([] : List Ent)),.row 85 1 none 0 0 (fl ([] : List LE)),.bag 204 4 (rowsOf ([] : List LE)),.row 3 1 none 0 0 (fl ([] : List Int))] := eng_obj none 0 [] none 0 [] 0 none 0 [] w
theorem s_EngPut0 (mA : Option Addr) (mc : Nat) (mem : List Ent) (tA : Option Addr) (tc : Nat) (R : List LE) (seq : Int) (sA : Option Addr) (sc : Nat) (sn : List Int) (A : Option Addr) (c : Nat) (l : List Opp) (w : World) (h1 : Rd w mA (fl mem)) (h2 : RdN w tA R) (h3 : Rd w sA (fl sn)) (ho : Rd w A (fl l)) (hl1 : mem.length ≤ 4194304) (hl2 : R.length ≤ 4194304) (hs : ∀ x ∈ dats R,x.length ≤ 4194304) (hl3 : sn.length ≤ 4194304) (hl4 : l.length ≤ 4194304) :
    Calls Tryz.prog 140 #[.agg #[.slice mA mem.length mc,.slice tA R.length tc,.int .i64 seq,.slice sA sn.length sc],.slice A l.length c] w fun e w' => ∃ y : Ys,e = .returned (.tuple #[engVal (fEngPut ⟨mem,dats R,seq,sn⟩ l).1 y,.bool (fEngPut ⟨mem,dats R,seq,sn⟩ l).2]) ∧ True ∧ Below w.heap.size w w' ∧ NewOk w.heap.size (engObj (fEngPut ⟨mem,dats R,seq,sn⟩ l).1 y) [] w' := by
  have HS := Lib.hid hs;clear hs
  have H2 := Lib.hid h2;clear h2
  refine ok_enter 81 Tryz.func140 rfl rfl rfl ?_
  repeat' (first|refine Wa ?_|refine Wb ?_|refine Wc ?_|(refine ok_cond rfl (fun hc => ?_) (fun hc => ?_) <;> (have hd := hc;try simp only [jj] at hd))|refine Wg ?_|refine Wi ?_|(refine Zr 0 ?_;refine Zn (ms_box rfl rfl rfl) ?_;rintro y2 hy2;refine Zn (ms_alloc rfl) ?_;rintro y4 hy4;refine Za ?_;refine Ze3 1 2 4 ?_)|(refine Zr 1 ?_;refine Zq (by exact ps_loads rfl rfl (by exact rds_box 1 rfl) rfl rfl (by decide)) ?_;refine Zn (by exact ms_s1 rfl rfl (fun _ _ w hw => s_EngOk0 mA mc mem tA tc R seq sA sc sn w (rds_rf h1 List.mem_cons_self _ _ w hw) (RdN.keep hw H2.out List.mem_cons_self) (rds_rf h3 List.mem_cons_self _ _ w hw) hl1 hl2 HS.out hl3)) ?_;rintro y11 hy11;refine Zq (ps_not rfl rfl) ?_;refine Ze4 1 2 4 12 ?_)|(refine Zr 2 ?_;refine Zq (by exact ps_bld rfl parts_nil rfl) ?_;refine Zo (ms_store 0 rfl rfl rfl rfl rfl rfl rfl rfl) ?_;rintro y_ hy_;refine Za ?_;refine Ze2 4 5 ?_)|(refine Zr 3 ?_;refine Zq (by exact ps_loads rfl rfl (by exact rds_box 1 rfl) rfl rfl (by decide)) ?_;refine Zn (by exact ms_c1 rfl rfl (fun _ _ w hw => s_l20Copy0 mA mc mem tA tc R seq sA sc sn w (rds_rf h1 List.mem_cons_self _ _ w hw) (RdN.keep hw H2.out List.mem_cons_self) (rds_rf h3 List.mem_cons_self _ _ w hw) hl1 hl2 HS.out hl3)) ?_;rintro y15 hy15;refine Zn (ms_alloc rfl) ?_;rintro y6 hy6;refine Zo (ms_store 0 rfl rfl rfl rfl rfl rfl rfl rfl) ?_;rintro y_ hy_;refine Ze4 1 2 4 6 ?_)|(refine Zr 4 ?_;refine Zm ?_;refine Zn (by exact ms_s1 rfl rfl (fun _ _ w hw => s_BatchOk A c l w (rds_rf ho List.mem_cons_self _ _ w hw) hl4)) ?_;rintro y17 hy17;refine Zq (ps_not rfl rfl) ?_;refine Ze5 1 2 4 6 18 ?_)|(refine Zr 5 ?_;refine Zq (by exact ps_loads rfl rfl (by exact rds_box 0 rfl) rfl rfl (by decide)) ?_;refine Zo (ms_store 5 rfl rfl rfl rfl rfl rfl rfl rfl) ?_;rintro y_ hy_;refine Za ?_;refine Ze2 4 5 ?_))
  · rw [engput_bad hd]
    refine ok_endL (vs := [_,_]) rfl ⟨⟨_,0,_,_,_,rfl,rfl,inferInstance,rfl,rfl⟩,rfl,trivial⟩ (fun w' hw => ⟨cpY none 0 none 0 none 0 [] w',?_,trivial,hw.below,?_⟩)
    · rw [(engNil w').1];rfl
    · rw [(engNil w').2]
      have := hw.sel [] (by decide) rfl (G' := []) (fun _ h => by cases h)
      exact NewOk.of ((((this.rowNil 3 1).bag_nil 204 4).rowNil 85 1).rowNil 204 4)
  · have he : fEngOk ⟨mem,dats R,seq,sn⟩ = true := by assumption
    rw [engput_nob he hd]
    unfold engVal engObj
    simp only [dats_len]
    exact ok_endL (vs := [_,_]) rfl ⟨⟨_,5,_,_,_,rfl,rfl,inferInstance,rfl,rfl⟩,rfl,trivial⟩ (fun w' hw => ⟨y15,rfl,trivial,hw.below,NewOk.of (hw.sel [1,2,3,4] (by decide) rfl (G' := []) (fun _ h => by cases h))⟩)
  have he : fEngOk ⟨mem,dats R,seq,sn⟩ = true := by assumption
  have hb : batchOk l = true := hd
  clear hc hd
  have hfew := eng_few he
  simp only at hfew
  obtain ⟨f1,f2,f3,f4,f5,f6⟩ := hfew
  have hb6 := (batch_few hb).1
  rw [dats_len] at f2
  have hle := putTo_le mem (seq + 1) l
  have HLE := Lib.hid hle;clear hle
  have HE := Lib.hid he;clear he
  have HB := Lib.hid hb;clear hb
  repeat' (first|refine Wa ?_|refine Wb ?_|refine Wd ?_|(refine Zr 6 ?_;refine Zf ?_;refine Zl 0 ?_;refine Zq (by exact ps_add rfl rfl rfl (by omega)) ?_;refine Zf ?_;refine Zo (ms_store 0 rfl rfl rfl rfl rfl rfl rfl rfl) ?_;rintro y_ hy_;refine Ze4 1 2 4 6 ?_)|(refine Zr 7 ?_;refine Za ?_;refine Ze5 1 2 4 6 7 ?_))
  refine ok_loop (ι := EpI l.length) (fun q => l.length - q.i) (fun q => ([(1,.slice A l.length c),(2,pt (ga (y2 0).c) 0),(4,pt (ga (y4 0).c) 0),(6,pt (ga (y6 0).c) 0),(7,.int .i64 q.i)],[.row 204 4 q.B (putTo mem (seq + 1) l q.i).length q.d (fl (putTo mem (seq + 1) l q.i)),.row 85 1 (y15 1).A R.length (y15 1).c (fl (locs 3 (dats R) y15)),.bag 204 4 (rowsOf (locs 3 (dats R) y15)),.row 3 1 (y15 2).A sn.length (y15 2).c (fl sn),.box (y6 0).c 88 [.slice q.B (putTo mem (seq + 1) l q.i).length q.d,.slice (y15 1).A R.length (y15 1).c,.int .i64 (seq + 1),.slice (y15 2).A sn.length (y15 2).c],.box (y4 0).c 88 [.slice none 0 0,.slice none 0 0,.int .i64 0,.slice none 0 0],.box (y2 0).c 88 [.slice mA mem.length mc,.slice tA R.length tc,.int .i64 seq,.slice sA sn.length sc]],_)) ⟨0,(y15 0).A,(y15 0).c,Nat.zero_le _⟩ (fun a w he hw => ⟨⟨0,(y15 0).A,(y15 0).c,Nat.zero_le _⟩,he.sub ⟨rfl,rfl,rfl,rfl,rfl,trivial⟩,hw.sel [1,2,3,4,0,5,6] (by decide) rfl (fun _ h => h)⟩) ?_
  rintro ⟨i,B,d,hi⟩
  simp only at hi ⊢
  have hli := HLE.out i
  repeat' (first|refine Wa ?_|refine Wb ?_|refine Wd ?_|(refine ok_cond rfl (fun hc => ?_) (fun hc => ?_) <;> (have hd := hc;try simp only [jj] at hd))|refine Wh ?_|refine Wi ?_|(refine Zr 8 ?_;refine Zm ?_;refine Zm ?_;refine Zq (ps_len rfl rfl) ?_;refine Zi ?_;refine Ze6 1 2 4 6 7 27 ?_)|(refine Zr 10 ?_;refine Za ?_;refine Ze6 1 2 4 6 7 8 ?_)|(refine Zr 11 ?_;refine Zm ?_;refine Zq (by exact ps_add rfl rfl rfl (by omega)) ?_;refine Za ?_;refine Ze7 1 2 4 6 7 8 9 ?_))
  · refine ok_loop (ι := SpI l i) (fun q => l.length - q.k) (fun q => ([(1,.slice A l.length c),(2,pt (ga (y2 0).c) 0),(4,pt (ga (y4 0).c) 0),(6,pt (ga (y6 0).c) 0),(7,.int .i64 i),(8,.bool (lastTo l i q.k)),(9,.int .i64 q.k)],_,_)) ⟨i + 1,by omega⟩ (fun a w he hw => ⟨⟨i + 1,by omega⟩,he.sub ⟨rfl,rfl,rfl,rfl,rfl,by rw [lastTo_zero];rfl,rfl,trivial⟩,hw⟩) ?_
    rintro ⟨k,hk1,hk2⟩
    simp only at hk1 hk2 ⊢
    have hlt := lastTo_step l i k hk1
    have HLT := Lib.hid hlt;clear hlt
    repeat' (first|refine Wa ?_|refine Wb ?_|refine Wd ?_|refine We ?_|(refine ok_cond rfl (fun hc => ?_) (fun hc => ?_) <;> (have hd := hc;try simp only [jj] at hd))|refine Wh ?_|refine Wi ?_|(refine Zr 9 ?_;refine Zm ?_;refine Zq (by exact ps_add rfl rfl rfl (by omega)) ?_;refine Za ?_;refine Ze5 1 2 4 6 7 ?_)|(refine Zr 12 ?_;refine Zm ?_;refine Zm ?_;refine Zq (ps_len rfl rfl) ?_;refine Zi ?_;refine Ze8 1 2 4 6 7 8 9 35 ?_)|(refine Zr 13 ?_;refine Zm ?_;refine Zq (by exact ps_add rfl rfl rfl (by omega)) ?_;refine Za ?_;refine Ze7 1 2 4 6 7 8 9 ?_)|(refine Xd 14 15 ?_;refine Xm 0 ?_;refine Xm 1 ?_;refine Xg 2 rfl rfl rfl rfl (gT _) (fun hp => by exact ps_move rfl rfl) ?_;refine Xg 3 rfl rfl rfl rfl (gT _) (fun hp => by exact ps_move rfl rfl) ?_;refine Xg 4 rfl rfl rfl rfl (gT _) (fun hp => by (have hpd := hp;(try simp only [jj] at hpd);exact ps_indexN rfl (Og rfl) (Og rfl) (by omega) (by exact isw_of (isS_fl (by assumption) (by omega))))) ?_;refine Xg 5 rfl rfl rfl rfl (gT _) (fun hp => by (have hpd := hp;(try simp only [jj] at hpd);exact ps_field rfl (Og rfl) (by exact isw_of (isS_fl (by assumption) (by omega))))) ?_;refine Xg 6 rfl rfl rfl rfl (gT _) (fun hp => by (have hpd := hp;(try simp only [jj] at hpd);exact ps_load rfl (Og rfl) (by exact Rds.cell (rds_rf (by assumption) List.mem_cons_self) (by exact fl_at0 _ _ (by omega) (by decide))))) ?_;refine Xg 7 rfl rfl rfl rfl (gT _) (fun hp => by exact ps_move rfl rfl) ?_;refine Xg 8 rfl rfl rfl rfl (gT _) (fun hp => by exact ps_move rfl rfl) ?_;refine Xg 9 rfl rfl rfl rfl (gT _) (fun hp => by (have hpd := hp;(try simp only [jj] at hpd);exact ps_indexN rfl (Og rfl) (Og rfl) (by omega) (by exact isw_of (isS_fl (by assumption) (by omega))))) ?_;refine Xg 10 rfl rfl rfl rfl (gT _) (fun hp => by (have hpd := hp;(try simp only [jj] at hpd);exact ps_field rfl (Og rfl) (by exact isw_of (isS_fl (by assumption) (by omega))))) ?_;refine Xg 11 rfl rfl rfl rfl (gT _) (fun hp => by (have hpd := hp;(try simp only [jj] at hpd);exact ps_load rfl (Og rfl) (by exact Rds.cell (rds_rf (by assumption) List.mem_cons_self) (by exact fl_at0 _ _ (by omega) (by decide))))) ?_;refine Xg 12 rfl rfl rfl rfl (gT _) (fun hp => by (exact ps_str rfl (Og rfl) (Og rfl) rfl)) ?_;refine Xt 13 rfl (ps_and rfl rfl rfl) ?_;refine Xt 14 rfl (ps_assign rfl rfl) ?_;refine okT_done (by kernel_rfl) ?_;refine Ze7 1 2 4 6 7 8 9 ?_)|(refine Zr 15 ?_;refine Zm ?_;refine Ze6 1 2 4 6 7 52 ?_)|(apply mrg1;(focus (intro hk;refine ok_draw (id := 16) 22 rfl (by kernel_rfl) (by kernel_rfl) rfl (by repeat (first | exact pq_body | refine pq_then ?_ | refine pq_in ?_)) [1,2,3,5,6] (by decide) rfl ?_;refine Xf 0 ?_;refine Xm 2 ?_;refine Xm 3 ?_;refine Xt 4 rfl (by exact ps_indexN rfl rfl rfl (by omega) (by exact isw_of (isS_fl (by assumption) (by omega)))) ?_;refine Xt 5 rfl (by exact ps_field rfl rfl (by exact isw_of (isS_fl (by assumption) (by omega)))) ?_;refine Xt 6 rfl (by exact ps_load rfl rfl (by exact Rds.cell (rds_rf (by assumption) List.mem_cons_self) (by exact fl_at0 _ _ (by omega) (by decide)))) ?_;refine Xf 7 ?_;refine Xm 9 ?_;refine Xm 10 ?_;refine Xt 11 rfl (by exact ps_indexN rfl rfl rfl (by omega) (by exact isw_of (isS_fl (by assumption) (by omega)))) ?_;refine Xt 12 rfl (by exact ps_field rfl rfl (by exact isw_of (isS_fl (by assumption) (by omega)))) ?_;refine Xt 13 rfl (by exact ps_load rfl rfl (by exact Rds.cell (rds_rf (by assumption) List.mem_cons_self) (by exact fl_at _ _ _ (by omega) (by decide)))) ?_;refine Xm 14 ?_;refine Xm 15 ?_;refine Xt 16 rfl (by exact ps_indexN rfl rfl rfl (by omega) (by exact isw_of (isS_fl (by assumption) (by omega)))) ?_;refine Xt 17 rfl (by exact ps_field rfl rfl (by exact isw_of (isS_fl (by assumption) (by omega)))) ?_;refine Xt 18 rfl (by exact ps_load rfl rfl (by exact Rds.cell (rds_rf (by assumption) List.mem_cons_self) (by exact fl_at _ _ _ (by omega) (by decide)))) ?_;refine okT_many (by kernel_rfl) (all_cons (at_m (i := 1) rfl rfl rfl rfl rfl (by exact ms_ps (by exact ps_load rfl rfl (by exact Rds.cell (rds_box 4 rfl) rfl))) (fun y w _ h => by exact h.sel [1,2,3,5,6] (by decide) rfl (fun _ h => h)) ?_) (all_cons (at_m (i := 8) rfl rfl rfl rfl rfl (by exact ms_ps (by exact ps_load rfl rfl (by exact Rds.cell (rds_box 4 rfl) rfl))) (fun y w _ h => by exact h.sel [1,2,3,5,6] (by decide) rfl (fun _ h => h)) ?_) all_nil));(focus (rintro y54 hy54;refine Xo 8 rfl (by exact ms_ps (by exact ps_load rfl rfl (by exact Rds.cell (rds_box 4 rfl) rfl))) (fun y w _ h => by exact h.sel [1,2,3,5,6] (by decide) rfl (fun _ h => h)) ?_;rintro y61 hy61;refine Xt 19 rfl (by exact ps_bld rfl (parts_cons rfl (parts_cons rfl (parts_cons rfl (parts_cons rfl parts_nil)))) rfl) ?_;refine Xo 20 rfl (by exact ms_c2 rfl rfl rfl (fun _ _ w hw => s_l9Put B d (putTo mem (seq + 1) l i) (entOp (nth l i) (seq + 1)) w (hw.row 0 rfl) (by omega))) (fun y w _ h => by exact h.tl.sel [1,2,3,5,6] (by decide) rfl (fun _ h => h)) ?_;rintro y73 hy73;refine Xf 21 ?_;refine okT_done (by kernel_rfl) ?_;refine Zo (ms_store 5 rfl rfl rfl rfl rfl rfl rfl rfl) ?_;rintro y_ hy_;refine Ze5 1 2 4 6 7 ?_;exact hk y73));(focus (rintro y61 hy61;refine Xt 19 rfl (by exact ps_bld rfl (parts_cons rfl (parts_cons rfl (parts_cons rfl (parts_cons rfl parts_nil)))) rfl) ?_;refine Xo 1 rfl (by exact ms_ps (by exact ps_load rfl rfl (by exact Rds.cell (rds_box 4 rfl) rfl))) (fun y w _ h => by exact h.sel [1,2,3,5,6] (by decide) rfl (fun _ h => h)) ?_;rintro y54 hy54;refine Xo 20 rfl (by exact ms_c2 rfl rfl rfl (fun _ _ w hw => s_l9Put B d (putTo mem (seq + 1) l i) (entOp (nth l i) (seq + 1)) w (hw.row 0 rfl) (by omega))) (fun y w _ h => by exact h.tl.sel [1,2,3,5,6] (by decide) rfl (fun _ h => h)) ?_;rintro y73 hy73;refine Xf 21 ?_;refine okT_done (by kernel_rfl) ?_;refine Zo (ms_store 5 rfl rfl rfl rfl rfl rfl rfl rfl) ?_;rintro y_ hy_;refine Ze5 1 2 4 6 7 ?_;exact hk y73))));rintro y73))
    · exact fun a w' he hw => ⟨⟨k + 1,by omega⟩,by simp only;omega,he.sub ⟨rfl,rfl,rfl,rfl,rfl,by show some _ = some _;rw [HLT.out (by omega)],rfl,trivial⟩,hw⟩
    · have hk : k = l.length := by omega
      subst hk
      rw [lastTo_all] at hc
      have e : putTo mem (seq + 1) l (i + 1) = insE (putTo mem (seq + 1) l i) (entOp (nth l i) (seq + 1)) := by rw [putTo,if_pos hc]
      refine fun a' w' he hw => ⟨⟨i + 1,(y73 0).A,(y73 0).c,by omega⟩,by simp only;omega,he.sub ⟨rfl,rfl,rfl,rfl,rfl,trivial⟩,?_⟩
      simp only [e]
      exact (hw.front 1 rfl).tl
    · have hk : k = l.length := by omega
      subst hk
      rw [lastTo_all] at hc
      have e : putTo mem (seq + 1) l (i + 1) = putTo mem (seq + 1) l i := by rw [putTo,if_neg (by rw [hc];decide)]
      refine fun a' w' he hw => ⟨⟨i + 1,B,d,by omega⟩,by simp only;omega,he.sub ⟨rfl,rfl,rfl,rfl,rfl,trivial⟩,?_⟩
      simp only [e]
      exact hw
  · obtain rfl : i = l.length := by omega
    have hS : dats (locs 3 (dats R) y15) = dats R := dats_locs 3 (dats R) y15
    have hSl : (locs 3 (dats R) y15).length = R.length := by rw [locs_len,dats_len]
    generalize locs 3 (dats R) y15 = S at hS hSl ⊢
    have hok := fun w a b c => s_EngOk0 B d (putTo mem (seq + 1) l l.length) (y15 1).A (y15 1).c S (seq + 1) (y15 2).A (y15 2).c sn w a b c (by omega) (by omega) (by rw [hS];exact HS.out) hl3
    rw [hS,hSl] at hok
    have HOK := Lib.hid hok;clear hok
    clear hc hd
    repeat' (first|refine Wa ?_|refine Wb ?_|refine Wc ?_|(refine ok_cond rfl (fun hc => ?_) (fun hc => ?_) <;> (have hd := hc;try simp only [jj] at hd))|refine Wg ?_|refine Wi ?_|(refine Zr 17 ?_;refine Zq (by exact ps_loads rfl rfl (by exact rds_box 4 rfl) rfl rfl (by decide)) ?_;refine Zn (by exact ms_s1 rfl rfl (fun _ _ w hw => HOK.out w (hw.row 0 rfl) (RdN.own hw 1 2 rfl rfl) (hw.row 3 rfl))) ?_;rintro y76 hy76;refine Zq (ps_not rfl rfl) ?_;refine Ze4 2 4 6 77 ?_)|(refine Zr 18 ?_;refine Zq (by exact ps_loads rfl rfl (by exact rds_box 6 rfl) rfl rfl (by decide)) ?_;refine Zn (by exact ms_c1 rfl rfl (fun _ _ w hw => s_l20Copy0 mA mc mem tA tc R seq sA sc sn w (rds_rf h1 List.mem_cons_self _ _ w hw) (RdN.keep hw H2.out List.mem_cons_self) (rds_rf h3 List.mem_cons_self _ _ w hw) hl1 hl2 HS.out hl3)) ?_;rintro y79 hy79;refine Zo (ms_store 9 rfl rfl rfl rfl rfl rfl rfl rfl) ?_;rintro y_ hy_;refine Za ?_;refine Ze2 4 5 ?_)|(refine Zr 19 ?_;refine Zq (by exact ps_loads rfl rfl (by exact rds_box 4 rfl) rfl rfl (by decide)) ?_;refine Zo (ms_store 5 rfl rfl rfl rfl rfl rfl rfl rfl) ?_;rintro y_ hy_;refine Za ?_;refine Ze2 4 5 ?_))
    · rw [engput_nor HE.out HB.out hd]
      unfold engVal engObj
      simp only [dats_len]
      exact ok_endL (vs := [_,_]) rfl ⟨⟨_,9,_,_,_,rfl,rfl,inferInstance,rfl,rfl⟩,rfl,trivial⟩ (fun w' hw => ⟨y79,rfl,trivial,hw.below,NewOk.of (hw.sel [0,1,2,3] (by decide) rfl (G' := []) (fun _ h => by cases h))⟩)
    · rw [engput_yes HE.out HB.out hd]
      have e0 : putE ⟨mem,dats R,seq,sn⟩ l = ⟨putTo mem (seq + 1) l l.length,dats S,seq + 1,sn⟩ := by rw [hS];rfl
      rw [e0,← hSl]
      refine ok_endL (vs := [_,_]) rfl ⟨⟨_,5,_,_,_,rfl,rfl,inferInstance,rfl,rfl⟩,rfl,trivial⟩ (fun w' hw => ⟨cpY B d (y15 1).A (y15 1).c (y15 2).A (y15 2).c S w',?_,trivial,hw.below,?_⟩)
      · rw [(eng_obj B d _ _ _ S _ _ _ sn w').1];rfl
      · rw [(eng_obj B d _ _ _ S _ _ _ sn w').2]
        exact NewOk.of (hw.sel [0,1,2,3] (by decide) rfl (G' := []) (fun _ h => by cases h))
theorem indexTn_c (f : FuncId) [hF : FN Tryz.prog f] (cs : List Value) (p : LTen → Bool) (A : Option Addr) (c : Nat) (R : List LTen) (w : World) (h : Rd w A (fl R)) (hl : R.length ≤ 4194304)
    (hf : ∀ (x : LTen) (w' : World),Keeps w w' → Calls Tryz.prog f (Value.agg (Dat.cells x).toArray :: cs).toArray w' (fun e w'' => e = .returned (.bool (p x)) ∧ Below w'.heap.size w' w'')) :
    Calls Tryz.prog 150 #[.slice A R.length c,.func (.func f) #[] cs.toArray] w fun e w' => e = .returned (.int .i64 (ixP p R)) ∧ Below w.heap.size w w' := by
  refine ok_enter 19 Tryz.func150 rfl rfl rfl ?_
  repeat' (first|refine Wa ?_|refine Wb ?_|refine Wc ?_|refine ok_then_exit ?_|refine Wd ?_|refine We ?_|refine Wf ?_|refine ok_in_exit ?_|refine ok_in_other rfl ?_|(refine ok_cond rfl (fun hc => ?_) (fun hc => ?_) <;> (have hd := hc;try simp only [jj] at hd))|refine Wg ?_|refine Wh ?_|refine Wi ?_|(refine Zr 0 ?_;refine Za ?_;refine Ze2 0 1 ?_)|(refine Zr 1 ?_;refine Zm ?_;refine Zq (ps_len rfl rfl) ?_;refine Zm ?_;refine Ze4 0 1 7 8 ?_)|(refine Zr 2 ?_;refine Zi ?_;refine Ze5 0 1 7 8 9 ?_)|(refine Zr 3 ?_;refine Zm ?_;refine Za ?_;refine Ze5 0 1 5 7 8 ?_)|(refine Zr 4 ?_;refine Zm ?_;refine Zm ?_;refine Zm ?_;refine Zq (by first | exact ps_indexN rfl rfl rfl (by omega) (by first | exact isw_ga _ | exact isw_some _ | exact isw_row 0 rfl (by omega) | exact isw_row 1 rfl (by omega) | exact isw_row 2 rfl (by omega) | exact isw_row 3 rfl (by omega) | exact isw_row 4 rfl (by omega) | exact isw_row 5 rfl (by omega) | exact isw_row 6 rfl (by omega) | exact isw_row 7 rfl (by omega) | exact isw_row 8 rfl (by omega) | exact isw_of (isS_fl (by assumption) (by omega)) | exact isw_of (by assumption)) | exact ps_index rfl rfl rfl (by omega) (by first | exact isw_ga _ | exact isw_some _ | exact isw_row 0 rfl (by omega) | exact isw_row 1 rfl (by omega) | exact isw_row 2 rfl (by omega) | exact isw_row 3 rfl (by omega) | exact isw_row 4 rfl (by omega) | exact isw_row 5 rfl (by omega) | exact isw_row 6 rfl (by omega) | exact isw_row 7 rfl (by omega) | exact isw_row 8 rfl (by omega) | exact isw_of (isS_fl (by assumption) (by omega)) | exact isw_of (by assumption))) ?_;refine Zq (by first | exact ps_loads rfl rfl (by first | exact rds_box 0 rfl | exact rds_box 1 rfl | exact rds_box 2 rfl | exact rds_box 3 rfl | exact rds_box 4 rfl | exact rds_box 5 rfl | exact rds_box 6 rfl | exact rds_box 7 rfl | exact rds_box 8 rfl | exact rds_box 9 rfl | exact rds_box 10 rfl | exact rds_box 11 rfl | exact rds_box 12 rfl | exact rds_box 13 rfl | exact rds_box 14 rfl | exact rds_box 15 rfl | exact rds_box 16 rfl | exact rds_box 17 rfl | exact rds_box 18 rfl | exact rds_box 19 rfl | exact rds_box 20 rfl | exact rds_box 21 rfl | exact rds_box 22 rfl | exact rds_box 23 rfl) rfl rfl (by decide) | exact ps_loadsF rfl rfl (by first | exact rds_row 0 rfl | exact rds_row 1 rfl | exact rds_row 2 rfl | exact rds_row 3 rfl | exact rds_row 4 rfl | exact rds_row 5 rfl | exact rds_row 6 rfl | exact rds_row 7 rfl | exact rds_row 8 rfl | exact rds_row 9 rfl | exact rds_row 10 rfl | exact rds_row 11 rfl | exact rds_row 12 rfl | exact rds_row 13 rfl | exact rds_row 14 rfl | exact rds_row 15 rfl | exact rds_row 16 rfl | exact rds_row 17 rfl | exact rds_row 18 rfl | exact rds_row 19 rfl | exact rds_row 20 rfl | exact rds_row 21 rfl | exact rds_row 22 rfl | exact rds_row 23 rfl | exact rds_rf (by assumption) (by first | exact List.mem_cons_self | exact List.mem_cons_of_mem _ List.mem_cons_self | simp)) (by rfl) (by rfl) (by omega) rfl) ?_;refine Zn (by fail "no maker call") ?_;rintro y16 hy16;refine Ze6 0 1 5 7 8 16 ?_)|(refine Zr 5 ?_;refine Zm ?_;refine Za ?_;refine Ze1 4 ?_)|(refine Zr 6 ?_;refine Zq (by exact ps_add rfl rfl rfl (by omega)) ?_;refine Zm ?_;refine Ze4 0 1 7 8 ?_)|(refine Zr 7 ?_;refine Za ?_;refine Ze1 4 ?_))
  refine ok_loop (ι := { k : Nat // k ≤ R.length ∧ ixP p R = ixF p R (R.length - k) k }) (fun k => R.length - k.1) (fun k => ([(0,.slice A R.length c),(1,.func (.func f) #[] cs.toArray),(7,.int .i64 R.length),(8,.int .i64 k.1)],_,_)) ⟨0,by omega,rfl⟩ (fun a w he hw => ⟨⟨0,by omega,rfl⟩,he.sub ⟨rfl,rfl,rfl,rfl,trivial⟩,hw⟩) ?_
  rintro ⟨k,hk,hr⟩
  simp only at hk hr ⊢
  have HR := Lib.hid hr;clear hr
  repeat' (first|refine Wa ?_|refine Wb ?_|refine Wc ?_|refine ok_then_exit ?_|refine Wd ?_|refine We ?_|refine Wf ?_|refine ok_in_exit ?_|refine ok_in_other rfl ?_|(refine ok_cond rfl (fun hc => ?_) (fun hc => ?_) <;> (have hd := hc;try simp only [jj] at hd))|refine Wg ?_|refine Wh ?_|refine Wi ?_|(refine Zr 0 ?_;refine Za ?_;refine Ze2 0 1 ?_)|(refine Zr 1 ?_;refine Zm ?_;refine Zq (ps_len rfl rfl) ?_;refine Zm ?_;refine Ze4 0 1 7 8 ?_)|(refine Zr 2 ?_;refine Zi ?_;refine Ze5 0 1 7 8 9 ?_)|(refine Zr 3 ?_;refine Zm ?_;refine Za ?_;refine Ze5 0 1 5 7 8 ?_)|(refine Zr 4 ?_;refine Zm ?_;refine Zm ?_;refine Zm ?_;refine Zq (by first | exact ps_indexN rfl rfl rfl (by omega) (by first | exact isw_ga _ | exact isw_some _ | exact isw_row 0 rfl (by omega) | exact isw_row 1 rfl (by omega) | exact isw_row 2 rfl (by omega) | exact isw_row 3 rfl (by omega) | exact isw_row 4 rfl (by omega) | exact isw_row 5 rfl (by omega) | exact isw_row 6 rfl (by omega) | exact isw_row 7 rfl (by omega) | exact isw_row 8 rfl (by omega) | exact isw_of (isS_fl (by assumption) (by omega)) | exact isw_of (by assumption)) | exact ps_index rfl rfl rfl (by omega) (by first | exact isw_ga _ | exact isw_some _ | exact isw_row 0 rfl (by omega) | exact isw_row 1 rfl (by omega) | exact isw_row 2 rfl (by omega) | exact isw_row 3 rfl (by omega) | exact isw_row 4 rfl (by omega) | exact isw_row 5 rfl (by omega) | exact isw_row 6 rfl (by omega) | exact isw_row 7 rfl (by omega) | exact isw_row 8 rfl (by omega) | exact isw_of (isS_fl (by assumption) (by omega)) | exact isw_of (by assumption))) ?_;refine Zq (by first | exact ps_loads rfl rfl (by first | exact rds_box 0 rfl | exact rds_box 1 rfl | exact rds_box 2 rfl | exact rds_box 3 rfl | exact rds_box 4 rfl | exact rds_box 5 rfl | exact rds_box 6 rfl | exact rds_box 7 rfl | exact rds_box 8 rfl | exact rds_box 9 rfl | exact rds_box 10 rfl | exact rds_box 11 rfl | exact rds_box 12 rfl | exact rds_box 13 rfl | exact rds_box 14 rfl | exact rds_box 15 rfl | exact rds_box 16 rfl | exact rds_box 17 rfl | exact rds_box 18 rfl | exact rds_box 19 rfl | exact rds_box 20 rfl | exact rds_box 21 rfl | exact rds_box 22 rfl | exact rds_box 23 rfl) rfl rfl (by decide) | exact ps_loadsF rfl rfl (by first | exact rds_row 0 rfl | exact rds_row 1 rfl | exact rds_row 2 rfl | exact rds_row 3 rfl | exact rds_row 4 rfl | exact rds_row 5 rfl | exact rds_row 6 rfl | exact rds_row 7 rfl | exact rds_row 8 rfl | exact rds_row 9 rfl | exact rds_row 10 rfl | exact rds_row 11 rfl | exact rds_row 12 rfl | exact rds_row 13 rfl | exact rds_row 14 rfl | exact rds_row 15 rfl | exact rds_row 16 rfl | exact rds_row 17 rfl | exact rds_row 18 rfl | exact rds_row 19 rfl | exact rds_row 20 rfl | exact rds_row 21 rfl | exact rds_row 22 rfl | exact rds_row 23 rfl | exact rds_rf (by assumption) (by first | exact List.mem_cons_self | exact List.mem_cons_of_mem _ List.mem_cons_self | simp)) (by rfl) (by rfl) (by omega) rfl) ?_;refine Zn (by exact ms_k1 rfl rfl rfl (fun _ _ w' hw => hf (nth R k) w' (hw.keeps (by first | exact List.mem_cons_self | exact List.mem_cons_of_mem _ List.mem_cons_self | simp)))) ?_;rintro y16 hy16;refine Ze6 0 1 5 7 8 16 ?_)|(refine Zr 5 ?_;refine Zm ?_;refine Za ?_;refine Ze1 4 ?_)|(refine Zr 6 ?_;refine Zq (by exact ps_add rfl rfl rfl (by omega)) ?_;refine Zm ?_;refine Ze4 0 1 7 8 ?_)|(refine Zr 7 ?_;refine Za ?_;refine Ze1 4 ?_))
  · have e : ixP p R = (k : Int) := by rw [HR.out,ixF_step (by omega),hc];rfl
    rw [e]
    exact ok_endL (vs := [_]) rfl ⟨rfl,trivial⟩ (fun w' hw => ⟨rfl,hw.below⟩)
  · have e : ixF p R (R.length - k) k = ixF p R (R.length - (k + 1)) (k + 1) := by rw [ixF_step (by omega),hc];rfl
    exact fun a w' he hw => ⟨⟨k + 1,by omega,HR.out.trans e⟩,by simp only;omega,he.sub ⟨rfl,rfl,rfl,rfl,trivial⟩,hw⟩
  · obtain rfl : k = R.length := by omega
    have e : ixP p R = -1 := by rw [HR.out,Nat.sub_self];rfl
    rw [e]
    exact ok_endL (vs := [_]) rfl ⟨rfl,trivial⟩ (fun w' hw => ⟨rfl,hw.below⟩)
def tensF (l : List LTen) (id : Int) : Int := ixP (fun x => decide (x.id = id)) l
theorem closT_c (x : LTen) (g : Nat) (t : Int) (w : World) (h : Rd w (ga g) (fl [t])) : Calls Tryz.prog 151 (Value.agg (Dat.cells x).toArray :: [pt (ga g) 0]).toArray w fun e w' => e = .returned (.bool (decide (x.id = t))) ∧ Below w.heap.size w w' := by
  refine ok_enter 8 Tryz.func151 rfl rfl rfl ?_
  repeat' (first|refine Wa ?_|refine Wb ?_|refine Wg ?_|(refine Zr 0 ?_;refine Zn (ms_box rfl rfl rfl) ?_;rintro y2 hy2;refine Za ?_;refine Ze2 1 2 ?_)|(refine Zr 1 ?_;refine Zf ?_;refine Zl 0 ?_;refine Zq (by exact ps_load rfl rfl (Rds.cell (rds_rf h List.mem_cons_self) rfl)) ?_;refine Zi ?_;refine Za ?_;refine Ze1 3 ?_))
  refine ok_endL (vs := [_]) rfl ⟨rfl,trivial⟩ (fun w' hw => ⟨?_,hw.below⟩)
  simp only [retV]
  congr 2
theorem at_c (g : Nat) (cs : List Value) (A : Option Addr) (c : Nat) (l : List LTen) (id : Int) (w : World) (hb : Rd w (ga g) cs) (hc6 : cs[6]? = some (.slice A l.length c)) (h : Rd w A (fl l)) (hl : l.length ≤ 4194304) :
    Calls Tryz.prog 98 #[pt (ga g) 0,.int .i64 id] w fun e w' => e = .returned (.int .i64 (tensF l id)) ∧ Below w.heap.size w w' := by
  refine ok_enter 11 Tryz.func98 rfl rfl rfl ?_
  repeat' (first|refine Wa ?_|refine Wb ?_|refine Wg ?_|(refine Zr 0 ?_;refine Zn (ms_box rfl rfl rfl) ?_;rintro y3 hy3;refine Za ?_;refine Ze2 0 3 ?_)|(refine Zr 1 ?_;refine Zm ?_;refine Zq (by exact ps_nil rfl rfl (isw_ga _)) ?_;refine Zf ?_;refine Zq (by exact ps_load rfl rfl (Rds.cell (rds_rf hb List.mem_cons_self) hc6)) ?_;refine Zq (ps_mkf rfl rfl) ?_;refine Zn (by exact ms_s2 rfl rfl rfl (fun _ _ w hw => indexTn_c 151 [pt (ga (y3 0).c) 0] (fun x => decide (x.id = id)) A c l w (rds_rf h List.mem_cons_self _ _ w hw) hl (fun x w' hk => closT_c x _ id w' ((rds_box 0 rfl _ _ w hw).keeps hk)))) ?_;rintro y10 hy10;refine Za ?_;refine Ze1 4 ?_))
  exact ok_endL (vs := [_]) rfl ⟨rfl,trivial⟩ (fun w' hw => ⟨rfl,hw.below⟩)
theorem tens_at {l : List LTen} {t : Int} {k : Nat} (hk : k < l.length) (h : (nth l k).id = t) (ha : ∀ j,j < k → (nth l j).id ≠ t) : tensF l t = (k : Int) := by
  rcases ixP_or (fun x : LTen => decide (x.id = t)) l with ⟨e,hn⟩ | ⟨i,e,hi,h1,h2⟩
  · have := hn k hk;simp [h] at this
  · have h1 : (nth l i).id = t := by simpa using h1
    have : i = k := by
      rcases Nat.lt_trichotomy i k with hh | hh | hh
      · exact absurd h1 (ha i hh)
      · exact hh
      · have := h2 k hh;simp [h] at this
    unfold tensF;rw [e,this]
theorem tens_none {l : List LTen} {t : Int} (ha : ∀ j,j < l.length → (nth l j).id ≠ t) : tensF l t = -1 := by
  rcases ixP_or (fun x : LTen => decide (x.id = t)) l with ⟨e,hn⟩ | ⟨i,e,hi,h1,h2⟩
  · exact e
  · have h1 : (nth l i).id = t := by simpa using h1
    exact absurd h1 (ha i hi)
theorem tens_any (l : List LTen) (t : Int) : decide (tensF l t < 0) = !(l.map LTen.d).any fun x => decide (x.id = t) := by
  rcases ixP_or (fun x : LTen => decide (x.id = t)) l with ⟨e,hn⟩ | ⟨i,e,hi,h1,h2⟩
  · have h3 : tensF l t = -1 := e
    have h4 : ((l.map LTen.d).any fun x => decide (x.id = t)) = false := by
      rw [List.any_eq_false]
      intro x hx
      obtain ⟨u,hu,rfl⟩ := List.mem_map.1 hx
      have := mem_nth (l := l) (p := fun x => decide (x.id = t) = false) hn u hu
      simpa using this
    rw [h3,h4];rfl
  · have h3 : tensF l t = (i : Int) := e
    have h4 : ((l.map LTen.d).any fun x => decide (x.id = t)) = true := List.any_eq_true.2 ⟨_,List.mem_map.2 ⟨_,nth_mem l i hi,rfl⟩,h1⟩
    rw [h3,h4]
    exact decide_eq_false (by omega)
theorem l22At_c (A : Option Addr) (c : Nat) (l : List LTen) (id : Int) (w : World) (h : Rd w A (fl l)) (hl : l.length ≤ 4194304) :
    Calls Tryz.prog 89 #[.slice A l.length c,.int .i64 id] w fun e w' => e = .returned (.int .i64 (tensF l id)) ∧ Below w.heap.size w w' := by
  refine ok_enter 20 Tryz.func89 rfl rfl rfl ?_
  repeat' (first|refine Wa ?_|refine Wb ?_|refine Wd ?_|(refine Zr 0 ?_;refine Za ?_;refine Ze2 0 1 ?_)|(refine Zr 1 ?_;refine Za ?_;refine Ze3 0 1 5 ?_))
  refine ok_loop (ι := { k : Nat // k ≤ l.length ∧ ∀ j,j < k → (nth l j).id ≠ id }) (fun k => l.length - k.1) (fun k => ([(0,.slice A l.length c),(1,.int .i64 id),(5,.int .i64 k.1)],_,_)) ⟨0,by omega,fun j h => absurd h (Nat.not_lt_zero j)⟩ (fun a w he hw => ⟨⟨0,by omega,fun j h => absurd h (Nat.not_lt_zero j)⟩,he.sub ⟨rfl,rfl,rfl,trivial⟩,hw⟩) ?_
  rintro ⟨k,hk,ha⟩
  simp only at hk ⊢
  have HA := Lib.hid ha;clear ha
  repeat' (first|refine Wa ?_|refine Wb ?_|refine Wc ?_|refine Wd ?_|refine We ?_|refine Wf ?_|(refine ok_cond rfl (fun hc => ?_) (fun hc => ?_) <;> (have hd := hc;try simp only [jj] at hd))|refine Wg ?_|refine Wh ?_|refine Wi ?_|(refine Zr 2 ?_;refine Zm ?_;refine Zm ?_;refine Zq (ps_len rfl rfl) ?_;refine Zi ?_;refine Ze4 0 1 5 9 ?_)|(refine Zr 3 ?_;refine Zm ?_;refine Zq (by exact ps_add rfl rfl rfl (by omega)) ?_;refine Za ?_;refine Ze3 0 1 5 ?_)|(refine Zr 4 ?_;refine Zm ?_;refine Zm ?_;refine Zq (by exact ps_indexN rfl rfl rfl (by omega) (by exact isw_of (isS_fl (by assumption) (by omega)))) ?_;refine Zq (by exact ps_field rfl rfl (by exact isw_of (isS_fl (by assumption) (by omega)))) ?_;refine Zq (by exact ps_load rfl rfl (by exact Rds.cell (rds_rf (by assumption) List.mem_cons_self) (by exact fl_at0 _ _ (by omega) (by decide)))) ?_;refine Zm ?_;refine Zi ?_;refine Ze4 0 1 5 18 ?_)|(refine Zr 5 ?_;refine Zm ?_;refine Za ?_;refine Ze1 4 ?_)|(refine Zr 6 ?_;refine Za ?_;refine Ze1 4 ?_))
  · exact ok_endL (vs := [_]) rfl ⟨rfl,trivial⟩ (fun w' hw => ⟨by rw [tens_at (by omega) hd HA.out];rfl,hw.below⟩)
  · exact fun a w' he hw => ⟨⟨k + 1,by omega,fun j hj => by
      rcases Nat.lt_succ_iff_lt_or_eq.1 hj with h' | rfl
      · exact HA.out j h'
      · exact hd⟩,by simp only;omega,he.sub ⟨rfl,rfl,rfl,trivial⟩,hw⟩
  · obtain rfl : k = l.length := by omega
    exact ok_endL (vs := [_]) rfl ⟨rfl,trivial⟩ (fun w' hw => ⟨by rw [tens_none HA.out];rfl,hw.below⟩)
theorem rowsF_step {l : List LogRow} {k : Nat} (id : Int) (h : k < l.length) : rowsF (l.take (k + 1)) id = rowsF (l.take k) id ++ (if (nth l k).ten = id then [nth l k] else []) := by
  rw [takeG h];unfold rowsF
  rw [List.filter_append]
  congr 1
  by_cases hh : (nth l k).ten = id
  · rw [if_pos hh,List.filter_cons,if_pos (by simpa using hh)];rfl
  · rw [if_neg hh,List.filter_cons,if_neg (by simpa using hh)];rfl
theorem rowsF_le (l : List LogRow) (id : Int) : (rowsF l id).length ≤ l.length := List.length_filter_le ..
structure RwI (n : Nat) where
  k : Nat
  A : Option Addr
  c : Nat
  hk : k ≤ n
theorem rowsOf_c (g : Nat) (cs : List Value) (A : Option Addr) (c : Nat) (l : List LogRow) (id : Int) (w : World) (hb : Rd w (ga g) cs) (hc7 : cs[7]? = some (.slice A l.length c)) (h : Rd w A (fl l)) (hl : l.length ≤ 4194304) :
    Calls Tryz.prog 46 #[pt (ga g) 0,.int .i64 id] w fun e w' => ∃ y : Ys,e = .returned (.slice (y 0).A (rowsF l id).length (y 0).c) ∧ True ∧ Below w.heap.size w w' ∧ NewOk w.heap.size [.row 92 5 (y 0).A (rowsF l id).length (y 0).c (fl (rowsF l id))] [] w' := by
  refine ok_enter 27 Tryz.func46 rfl rfl rfl ?_
  repeat' (first|refine Wa ?_|refine Wb ?_|refine Wd ?_|(refine Zr 0 ?_;refine Za ?_;refine Ze2 0 1 ?_)|(refine Zr 1 ?_;refine Za ?_;refine Ze3 0 1 5 ?_)|(refine Zr 2 ?_;refine Zm ?_;refine Zq (by exact ps_nil rfl rfl (isw_ga _)) ?_;refine Zf ?_;refine Zq (by exact ps_load rfl rfl (Rds.cell (rds_rf hb List.mem_cons_self) hc7)) ?_;refine Zq (ps_len rfl rfl) ?_;refine Zm ?_;refine Ze5 1 5 11 12 13 ?_))
  have hst := fun k (hk : k < l.length) => rowsF_step (l := l) (k := k) id hk
  have hle := fun k => Nat.le_trans (rowsF_le (l.take k) id) (by rw [List.length_take];exact Nat.min_le_left _ _ : (l.take k).length ≤ k)
  have HST := Lib.hid hst;clear hst
  have HLE := Lib.hid hle;clear hle
  refine ok_loop (ι := RwI l.length) (fun q => l.length - q.k) (fun q => ([(1,.int .i64 id),(5,.slice q.A (rowsF (l.take q.k) id).length q.c),(11,.slice A l.length c),(12,.int .i64 l.length),(13,.int .i64 q.k)],[.row 92 5 q.A (rowsF (l.take q.k) id).length q.c (fl (rowsF (l.take q.k) id))],_)) ⟨0,none,0,Nat.zero_le _⟩ (fun a w he hw => ⟨⟨0,none,0,Nat.zero_le _⟩,he.sub ⟨rfl,rfl,rfl,rfl,rfl,trivial⟩,hw.rowNil 92 5⟩) ?_
  rintro ⟨k,B,d,hk⟩
  simp only at hk ⊢
  have hlk := HLE.out k
  repeat' (first|refine Wa ?_|refine Wb ?_|refine Wd ?_|refine We ?_|(refine ok_cond rfl (fun hc => ?_) (fun hc => ?_) <;> (have hd := hc;try simp only [jj] at hd))|refine Wg ?_|refine Wh ?_|refine Wi ?_|(refine Zr 3 ?_;refine Zi ?_;refine Ze6 1 5 11 12 13 14 ?_)|(refine Zr 4 ?_;refine Zq (by exact ps_indexN rfl rfl rfl (by omega) (by exact isw_of (isS_fl (by assumption) (by omega)))) ?_;refine Zq (by exact ps_loadsF rfl rfl (by exact rds_rf (by assumption) List.mem_cons_self) (by rfl) (by rfl) (by omega) rfl) ?_;refine Zn (ms_alloc rfl) ?_;rintro y7 hy7;refine Zo (ms_store 0 rfl rfl rfl rfl rfl rfl rfl rfl) ?_;rintro y_ hy_;refine Ze6 1 5 7 11 12 13 ?_)|(refine Zr 5 ?_;refine Zf ?_;refine Zl 0 ?_;refine Zm ?_;refine Zi ?_;refine Ze7 1 5 7 11 12 13 20 ?_)|(refine Zr 6 ?_;refine Zm ?_;refine Zq (by exact ps_loads rfl rfl (by exact rds_box 0 rfl) rfl rfl (by decide)) ?_;refine Zn (by exact ms_lit rfl (parts_cons rfl parts_nil) rfl rfl rfl) ?_;rintro y23 hy23;refine Zn (by exact ms_appF (α := LogRow) (L := rowsF (l.take k) id) (M := [nth l k]) 2 rfl rfl rfl rfl (rds_row 0 rfl) rfl (by simp;omega) (by simp;omega)) ?_;rintro y24 hy24;refine Za ?_;refine Ze5 1 5 11 12 13 ?_)|(refine Zr 7 ?_;refine Zq (by exact ps_add rfl rfl rfl (by omega)) ?_;refine Zm ?_;refine Ze5 1 5 11 12 13 ?_)|(refine Zr 8 ?_;refine Zm ?_;refine Za ?_;refine Ze1 4 ?_))
  · have e := HST.out k (by omega)
    rw [if_pos hd] at e
    refine fun a w' he hw => ⟨⟨k + 1,(y24 0).A,(y24 0).c,by omega⟩,by simp only;omega,he.sub ⟨rfl,by simp only [e,List.length_append];rfl,rfl,rfl,rfl,trivial⟩,?_⟩
    simp only [e,List.length_append]
    exact hw.sel [2] (by decide) rfl (fun _ h => h)
  · have e := HST.out k (by omega)
    rw [if_neg hd,List.append_nil] at e
    refine fun a w' he hw => ⟨⟨k + 1,B,d,by omega⟩,by simp only;omega,he.sub ⟨rfl,by simp only [e];rfl,rfl,rfl,rfl,trivial⟩,?_⟩
    simp only [e]
    exact hw.sel [1] (by decide) rfl (fun _ h => h)
  · obtain rfl : k = l.length := by omega
    rw [List.take_length]
    exact ok_endL (vs := [_]) rfl ⟨rfl,trivial⟩ (fun w' hw => ⟨mkY B d w',rfl,trivial,hw.below,NewOk.of (hw.sel [0] (by decide) rfl (G' := []) (fun _ h => by cases h))⟩)
abbrev cur (g : Nat) (A : Option Addr) (n c : Nat) (i : Nat) (h : Int) : HObj := .box g 177 [.slice A n c,.int .i64 i,.int .i64 h]
theorem bvs1 (L : List UInt8) (x : UInt8) : byteVs (L ++ [x]) = byteVs L ++ [.int .u8 (x.toNat : Int)] := by simp [byteVs]
theorem bt_lt' (s : ByteArray) (k : Nat) : bt s k < 256 := by unfold bt;exact UInt8.toNat_lt _
theorem one1 {v : Value} (h : v.oneCell' = true) : ∀ u ∈ [v],u.oneCell' = true := fun u hu => by
  cases hu with
  | head => exact h
  | tail _ h => cases h
structure CodeR (A : Option Addr) (bs : List UInt8) (G : List World) : Prop where
  rd : ∃ m ∈ G,Rd m A (fl bs)
  le : bs.length ≤ 1048576
structure TxI (most : Nat) (m : Nat) where
  k : Int
  n : Nat
  L : List UInt8
  B : Option Addr
  d : Nat
  i : Nat
  h : Int
  hn : n = L.length
  hk : (n : Int) + k ≤ most ∧ 0 ≤ k
  hi : i ≤ m
theorem s_Fix7 (n : Nat) (hn : n < 72057594037927936) (w : World) : Calls Tryz.prog 262 #[.int .i64 (n : Int),.int .i64 7] w fun e w' => e = .returned (.string (f7 n)) ∧ Below w.heap.size w w' := sFixed7_any n hn w
theorem i_Fix7 (n : Nat) (hn : n < 72057594037927936) (w : World) : Calls Tryz.prog 299 #[.int .i64 (n : Int),.int .i64 7] w fun e w' => e = .returned (.string (f7 n)) ∧ Below w.heap.size w w' := iFixed7_any n hn w
theorem i_NonceOf (k n : Nat) (hk : k < 256) (hn : n ≤ 562949953421311) (w : World) : Calls Tryz.prog 233 #[.int .i64 (k : Int),.int .i64 (n : Int)] w fun e w' => e = .returned (.string (nonF k n)) ∧ Below w.heap.size w w' := by
  have hz := f7_size n
  have h1 : (⟨[UInt8.ofNat k,0,0,0,0].toArray⟩ : ByteArray).size = 5 := rfl
  refine ok_enter 20 Tryz.func233 rfl rfl rfl ?_
  repeat' (first|refine Wa ?_|refine Wb ?_|refine Wc ?_|refine ok_then_exit ?_|refine Wd ?_|refine We ?_|refine Wf ?_|refine ok_in_exit ?_|refine ok_in_other rfl ?_|(refine ok_cond rfl (fun hc => ?_) (fun hc => ?_) <;> (have hd := hc;try simp only [jj] at hd))|refine Wg ?_|refine Wh ?_|refine Wi ?_|(refine Zr 0 ?_;refine Za ?_;refine Ze2 0 1 ?_)|(refine Zr 1 ?_;refine Zm ?_;refine Zn (by exact ms_s3 rfl rfl rfl rfl (fun _ _ w hw => in_i _ _ _ w)) ?_;rintro y6 hy6;refine Zq (ps_not rfl rfl) ?_;refine Zm ?_;refine Zg rfl rfl rfl (gF _) (fun hp => by (exact ps_move rfl (by first | (refine og rfl ?_;assumption) | exact rfl))) ?_;refine Zh rfl rfl rfl (gF _) (fun hp => by (exact ms_s3 rfl (by first | (refine og rfl ?_;assumption) | exact rfl) rfl rfl (fun _ _ w hw => in_i _ _ _ w))) ?_;refine Zg rfl rfl rfl (gF _) (fun hp => by (exact ps_not rfl (by first | (refine og rfl ?_;assumption) | exact rfl))) ?_;refine Zq (by first | exact ps_or rfl rfl rfl | exact ps_or_in (by assumption) rfl rfl rfl | exact ps_pick_t rfl rfl (by simp_all;done) rfl | exact ps_pick_f rfl rfl (by simp_all;done) rfl) ?_;refine Ze3 0 1 12 ?_)|(refine Zr 2 ?_;refine Za ?_;refine Ze1 4 ?_)|(apply mrg2;(focus (intro hk;refine Xd 3 8 ?_;refine Xm 0 ?_;refine Xt 1 rfl (by first | exact ps_convB rfl rfl | exact ps_conv rfl rfl) ?_;refine Xm 4 ?_;refine okT_many (by kernel_rfl) (all_cons (at_m (i := 2) rfl rfl rfl rfl rfl (by exact ms_lit rfl (parts_cons rfl (parts_cons rfl (parts_cons rfl (parts_cons rfl (parts_cons rfl parts_nil))))) rfl rfl rfl) (fun y w _ h => by first | exact h | exact h.tl | exact h.tl.tl | exact h.tl.tl.tl | exact h.tl.tl.tl.tl | exact h.gtl | exact h.tl.gtl | exact h.sel [0] (by decide) rfl (fun _ h => h) | exact h.tl.tl.tl.tl.tl | exact h.tl.tl.tl.tl.tl.tl | exact h.tl.tl.tl.tl.tl.tl.tl | exact h.tl.tl.tl.tl.tl.tl.tl.tl | exact h.tl.tl.tl.tl.tl.tl.tl.tl.tl | exact h.tl.tl.tl.tl.tl.tl.tl.tl.tl.tl) ?_) (all_cons (at_m (i := 5) rfl rfl rfl rfl rfl (by exact ms_s2 rfl rfl rfl (fun _ _ w hw => i_Fix7 n (by omega) w)) (fun y w _ h => by first | exact h | exact h.tl | exact h.tl.tl | exact h.tl.tl.tl | exact h.tl.tl.tl.tl | exact h.gtl | exact h.tl.gtl | exact h.sel [0] (by decide) rfl (fun _ h => h) | exact h.tl.tl.tl.tl.tl | exact h.tl.tl.tl.tl.tl.tl | exact h.tl.tl.tl.tl.tl.tl.tl | exact h.tl.tl.tl.tl.tl.tl.tl.tl | exact h.tl.tl.tl.tl.tl.tl.tl.tl.tl | exact h.tl.tl.tl.tl.tl.tl.tl.tl.tl.tl) ?_) all_nil));(focus (rintro y15 hy15;refine okT_many (by kernel_rfl) (all_cons (at_m (i := 3) rfl rfl rfl rfl rfl (by exact ms_ps (by first | exact ps_str_of (l := [UInt8.ofNat k,0,0,0,0]) rfl rfl (rds_row 0 rfl) rfl | exact ps_str_of rfl rfl (by first | exact rds_row 0 rfl | exact rds_row 1 rfl | exact rds_row 2 rfl | exact rds_row 3 rfl | exact rds_row 4 rfl | exact rds_row 5 rfl | exact rds_row 6 rfl | exact rds_row 7 rfl | exact rds_row 8 rfl | exact rds_row 9 rfl | exact rds_row 10 rfl | exact rds_row 11 rfl | exact rds_row 12 rfl | exact rds_row 13 rfl | exact rds_row 14 rfl | exact rds_row 15 rfl | exact rds_row 16 rfl | exact rds_row 17 rfl | exact rds_row 18 rfl | exact rds_row 19 rfl | exact rds_row 20 rfl | exact rds_row 21 rfl | exact rds_row 22 rfl | exact rds_row 23 rfl | exact rds_rf (by assumption) (by first | exact List.mem_cons_self | exact List.mem_cons_of_mem _ List.mem_cons_self | simp)) (by simp))) (fun y w _ h => by first | exact h | exact h.tl | exact h.tl.tl | exact h.tl.tl.tl | exact h.tl.tl.tl.tl | exact h.gtl | exact h.tl.gtl | exact h.sel [0] (by decide) rfl (fun _ h => h) | exact h.tl.tl.tl.tl.tl | exact h.tl.tl.tl.tl.tl.tl | exact h.tl.tl.tl.tl.tl.tl.tl | exact h.tl.tl.tl.tl.tl.tl.tl.tl | exact h.tl.tl.tl.tl.tl.tl.tl.tl.tl | exact h.tl.tl.tl.tl.tl.tl.tl.tl.tl.tl) ?_) (all_cons (at_m (i := 5) rfl rfl rfl rfl rfl (by exact ms_s2 rfl rfl rfl (fun _ _ w hw => i_Fix7 n (by omega) w)) (fun y w _ h => by first | exact h | exact h.tl | exact h.tl.tl | exact h.tl.tl.tl | exact h.tl.tl.tl.tl | exact h.gtl | exact h.tl.gtl | exact h.sel [0] (by decide) rfl (fun _ h => h) | exact h.tl.tl.tl.tl.tl | exact h.tl.tl.tl.tl.tl.tl | exact h.tl.tl.tl.tl.tl.tl.tl | exact h.tl.tl.tl.tl.tl.tl.tl.tl | exact h.tl.tl.tl.tl.tl.tl.tl.tl.tl | exact h.tl.tl.tl.tl.tl.tl.tl.tl.tl.tl) ?_) all_nil));(focus (rintro y16 hy16;refine Xo 5 rfl (by exact ms_s2 rfl rfl rfl (fun _ _ w hw => i_Fix7 n (by omega) w)) (fun y w _ h => by first | exact h | exact h.tl | exact h.tl.tl | exact h.tl.tl.tl | exact h.tl.tl.tl.tl | exact h.gtl | exact h.tl.gtl | exact h.sel [0] (by decide) rfl (fun _ h => h) | exact h.tl.tl.tl.tl.tl | exact h.tl.tl.tl.tl.tl.tl | exact h.tl.tl.tl.tl.tl.tl.tl | exact h.tl.tl.tl.tl.tl.tl.tl.tl | exact h.tl.tl.tl.tl.tl.tl.tl.tl.tl | exact h.tl.tl.tl.tl.tl.tl.tl.tl.tl.tl) ?_;rintro y18 hy18;refine Xt 6 rfl (by exact ps_sadd rfl rfl rfl (by omega)) ?_;refine Xt 7 rfl (ps_assign rfl rfl) ?_;refine okT_done (by kernel_rfl) ?_;refine Ze1 4 ?_;exact hk y15 y18));(focus (rintro y18 hy18;refine Xo 3 rfl (by exact ms_ps (by first | exact ps_str_of (l := [UInt8.ofNat k,0,0,0,0]) rfl rfl (rds_row 0 rfl) rfl | exact ps_str_of rfl rfl (by first | exact rds_row 0 rfl | exact rds_row 1 rfl | exact rds_row 2 rfl | exact rds_row 3 rfl | exact rds_row 4 rfl | exact rds_row 5 rfl | exact rds_row 6 rfl | exact rds_row 7 rfl | exact rds_row 8 rfl | exact rds_row 9 rfl | exact rds_row 10 rfl | exact rds_row 11 rfl | exact rds_row 12 rfl | exact rds_row 13 rfl | exact rds_row 14 rfl | exact rds_row 15 rfl | exact rds_row 16 rfl | exact rds_row 17 rfl | exact rds_row 18 rfl | exact rds_row 19 rfl | exact rds_row 20 rfl | exact rds_row 21 rfl | exact rds_row 22 rfl | exact rds_row 23 rfl | exact rds_rf (by assumption) (by first | exact List.mem_cons_self | exact List.mem_cons_of_mem _ List.mem_cons_self | simp)) (by simp))) (fun y w _ h => by first | exact h | exact h.tl | exact h.tl.tl | exact h.tl.tl.tl | exact h.tl.tl.tl.tl | exact h.gtl | exact h.tl.gtl | exact h.sel [0] (by decide) rfl (fun _ h => h) | exact h.tl.tl.tl.tl.tl | exact h.tl.tl.tl.tl.tl.tl | exact h.tl.tl.tl.tl.tl.tl.tl | exact h.tl.tl.tl.tl.tl.tl.tl.tl | exact h.tl.tl.tl.tl.tl.tl.tl.tl.tl | exact h.tl.tl.tl.tl.tl.tl.tl.tl.tl.tl) ?_;rintro y16 hy16;refine Xt 6 rfl (by exact ps_sadd rfl rfl rfl (by omega)) ?_;refine Xt 7 rfl (ps_assign rfl rfl) ?_;refine okT_done (by kernel_rfl) ?_;refine Ze1 4 ?_;exact hk y15 y18))));(focus (rintro y18 hy18;refine Xo 2 rfl (by exact ms_lit rfl (parts_cons rfl (parts_cons rfl (parts_cons rfl (parts_cons rfl (parts_cons rfl parts_nil))))) rfl rfl rfl) (fun y w _ h => by first | exact h | exact h.tl | exact h.tl.tl | exact h.tl.tl.tl | exact h.tl.tl.tl.tl | exact h.gtl | exact h.tl.gtl | exact h.sel [0] (by decide) rfl (fun _ h => h) | exact h.tl.tl.tl.tl.tl | exact h.tl.tl.tl.tl.tl.tl | exact h.tl.tl.tl.tl.tl.tl.tl | exact h.tl.tl.tl.tl.tl.tl.tl.tl | exact h.tl.tl.tl.tl.tl.tl.tl.tl.tl | exact h.tl.tl.tl.tl.tl.tl.tl.tl.tl.tl) ?_;rintro y15 hy15;refine Xo 3 rfl (by exact ms_ps (by first | exact ps_str_of (l := [UInt8.ofNat k,0,0,0,0]) rfl rfl (rds_row 0 rfl) rfl | exact ps_str_of rfl rfl (by first | exact rds_row 0 rfl | exact rds_row 1 rfl | exact rds_row 2 rfl | exact rds_row 3 rfl | exact rds_row 4 rfl | exact rds_row 5 rfl | exact rds_row 6 rfl | exact rds_row 7 rfl | exact rds_row 8 rfl | exact rds_row 9 rfl | exact rds_row 10 rfl | exact rds_row 11 rfl | exact rds_row 12 rfl | exact rds_row 13 rfl | exact rds_row 14 rfl | exact rds_row 15 rfl | exact rds_row 16 rfl | exact rds_row 17 rfl | exact rds_row 18 rfl | exact rds_row 19 rfl | exact rds_row 20 rfl | exact rds_row 21 rfl | exact rds_row 22 rfl | exact rds_row 23 rfl | exact rds_rf (by assumption) (by first | exact List.mem_cons_self | exact List.mem_cons_of_mem _ List.mem_cons_self | simp)) (by simp))) (fun y w _ h => by first | exact h | exact h.tl | exact h.tl.tl | exact h.tl.tl.tl | exact h.tl.tl.tl.tl | exact h.gtl | exact h.tl.gtl | exact h.sel [0] (by decide) rfl (fun _ h => h) | exact h.tl.tl.tl.tl.tl | exact h.tl.tl.tl.tl.tl.tl | exact h.tl.tl.tl.tl.tl.tl.tl | exact h.tl.tl.tl.tl.tl.tl.tl.tl | exact h.tl.tl.tl.tl.tl.tl.tl.tl.tl | exact h.tl.tl.tl.tl.tl.tl.tl.tl.tl.tl) ?_;rintro y16 hy16;refine Xt 6 rfl (by exact ps_sadd rfl rfl rfl (by omega)) ?_;refine Xt 7 rfl (ps_assign rfl rfl) ?_;refine okT_done (by kernel_rfl) ?_;refine Ze1 4 ?_;exact hk y15 y18))));rintro y15 y18))
  · exfalso;omega
  all_goals exact ok_endL (vs := [_]) rfl ⟨rfl,trivial⟩ (fun w' hw => ⟨rfl,hw.below⟩)
theorem s_NonceOf (k n : Nat) (hk : k < 256) (hn : n ≤ 562949953421311) (w : World) : Calls Tryz.prog 191 #[.int .i64 (k : Int),.int .i64 (n : Int)] w fun e w' => e = .returned (.string (nonF k n)) ∧ Below w.heap.size w w' := by
  have hz := f7_size n
  have h1 : (⟨[UInt8.ofNat k,0,0,0,0].toArray⟩ : ByteArray).size = 5 := rfl
  refine ok_enter 20 Tryz.func191 rfl rfl rfl ?_
  repeat' (first|refine Wa ?_|refine Wb ?_|refine Wc ?_|refine ok_then_exit ?_|refine Wd ?_|refine We ?_|refine Wf ?_|refine ok_in_exit ?_|refine ok_in_other rfl ?_|(refine ok_cond rfl (fun hc => ?_) (fun hc => ?_) <;> (have hd := hc;try simp only [jj] at hd))|refine Wg ?_|refine Wh ?_|refine Wi ?_|(refine Zr 0 ?_;refine Za ?_;refine Ze2 0 1 ?_)|(refine Zr 1 ?_;refine Zm ?_;refine Zn (by exact ms_s3 rfl rfl rfl rfl (fun _ _ w hw => in_s _ _ _ w)) ?_;rintro y6 hy6;refine Zq (ps_not rfl rfl) ?_;refine Zm ?_;refine Zg rfl rfl rfl (gF _) (fun hp => by (exact ps_move rfl (by first | (refine og rfl ?_;assumption) | exact rfl))) ?_;refine Zh rfl rfl rfl (gF _) (fun hp => by (exact ms_s3 rfl (by first | (refine og rfl ?_;assumption) | exact rfl) rfl rfl (fun _ _ w hw => in_s _ _ _ w))) ?_;refine Zg rfl rfl rfl (gF _) (fun hp => by (exact ps_not rfl (by first | (refine og rfl ?_;assumption) | exact rfl))) ?_;refine Zq (by first | exact ps_or rfl rfl rfl | exact ps_or_in (by assumption) rfl rfl rfl | exact ps_pick_t rfl rfl (by simp_all;done) rfl | exact ps_pick_f rfl rfl (by simp_all;done) rfl) ?_;refine Ze3 0 1 12 ?_)|(refine Zr 2 ?_;refine Za ?_;refine Ze1 4 ?_)|(apply mrg2;(focus (intro hk;refine Xd 3 8 ?_;refine Xm 0 ?_;refine Xt 1 rfl (by first | exact ps_convB rfl rfl | exact ps_conv rfl rfl) ?_;refine Xm 4 ?_;refine okT_many (by kernel_rfl) (all_cons (at_m (i := 2) rfl rfl rfl rfl rfl (by exact ms_lit rfl (parts_cons rfl (parts_cons rfl (parts_cons rfl (parts_cons rfl (parts_cons rfl parts_nil))))) rfl rfl rfl) (fun y w _ h => by first | exact h | exact h.tl | exact h.tl.tl | exact h.tl.tl.tl | exact h.tl.tl.tl.tl | exact h.gtl | exact h.tl.gtl | exact h.sel [0] (by decide) rfl (fun _ h => h) | exact h.tl.tl.tl.tl.tl | exact h.tl.tl.tl.tl.tl.tl | exact h.tl.tl.tl.tl.tl.tl.tl | exact h.tl.tl.tl.tl.tl.tl.tl.tl | exact h.tl.tl.tl.tl.tl.tl.tl.tl.tl | exact h.tl.tl.tl.tl.tl.tl.tl.tl.tl.tl) ?_) (all_cons (at_m (i := 5) rfl rfl rfl rfl rfl (by exact ms_s2 rfl rfl rfl (fun _ _ w hw => s_Fix7 n (by omega) w)) (fun y w _ h => by first | exact h | exact h.tl | exact h.tl.tl | exact h.tl.tl.tl | exact h.tl.tl.tl.tl | exact h.gtl | exact h.tl.gtl | exact h.sel [0] (by decide) rfl (fun _ h => h) | exact h.tl.tl.tl.tl.tl | exact h.tl.tl.tl.tl.tl.tl | exact h.tl.tl.tl.tl.tl.tl.tl | exact h.tl.tl.tl.tl.tl.tl.tl.tl | exact h.tl.tl.tl.tl.tl.tl.tl.tl.tl | exact h.tl.tl.tl.tl.tl.tl.tl.tl.tl.tl) ?_) all_nil));(focus (rintro y15 hy15;refine okT_many (by kernel_rfl) (all_cons (at_m (i := 3) rfl rfl rfl rfl rfl (by exact ms_ps (by first | exact ps_str_of (l := [UInt8.ofNat k,0,0,0,0]) rfl rfl (rds_row 0 rfl) rfl | exact ps_str_of rfl rfl (by first | exact rds_row 0 rfl | exact rds_row 1 rfl | exact rds_row 2 rfl | exact rds_row 3 rfl | exact rds_row 4 rfl | exact rds_row 5 rfl | exact rds_row 6 rfl | exact rds_row 7 rfl | exact rds_row 8 rfl | exact rds_row 9 rfl | exact rds_row 10 rfl | exact rds_row 11 rfl | exact rds_row 12 rfl | exact rds_row 13 rfl | exact rds_row 14 rfl | exact rds_row 15 rfl | exact rds_row 16 rfl | exact rds_row 17 rfl | exact rds_row 18 rfl | exact rds_row 19 rfl | exact rds_row 20 rfl | exact rds_row 21 rfl | exact rds_row 22 rfl | exact rds_row 23 rfl | exact rds_rf (by assumption) (by first | exact List.mem_cons_self | exact List.mem_cons_of_mem _ List.mem_cons_self | simp)) (by simp))) (fun y w _ h => by first | exact h | exact h.tl | exact h.tl.tl | exact h.tl.tl.tl | exact h.tl.tl.tl.tl | exact h.gtl | exact h.tl.gtl | exact h.sel [0] (by decide) rfl (fun _ h => h) | exact h.tl.tl.tl.tl.tl | exact h.tl.tl.tl.tl.tl.tl | exact h.tl.tl.tl.tl.tl.tl.tl | exact h.tl.tl.tl.tl.tl.tl.tl.tl | exact h.tl.tl.tl.tl.tl.tl.tl.tl.tl | exact h.tl.tl.tl.tl.tl.tl.tl.tl.tl.tl) ?_) (all_cons (at_m (i := 5) rfl rfl rfl rfl rfl (by exact ms_s2 rfl rfl rfl (fun _ _ w hw => s_Fix7 n (by omega) w)) (fun y w _ h => by first | exact h | exact h.tl | exact h.tl.tl | exact h.tl.tl.tl | exact h.tl.tl.tl.tl | exact h.gtl | exact h.tl.gtl | exact h.sel [0] (by decide) rfl (fun _ h => h) | exact h.tl.tl.tl.tl.tl | exact h.tl.tl.tl.tl.tl.tl | exact h.tl.tl.tl.tl.tl.tl.tl | exact h.tl.tl.tl.tl.tl.tl.tl.tl | exact h.tl.tl.tl.tl.tl.tl.tl.tl.tl | exact h.tl.tl.tl.tl.tl.tl.tl.tl.tl.tl) ?_) all_nil));(focus (rintro y16 hy16;refine Xo 5 rfl (by exact ms_s2 rfl rfl rfl (fun _ _ w hw => s_Fix7 n (by omega) w)) (fun y w _ h => by first | exact h | exact h.tl | exact h.tl.tl | exact h.tl.tl.tl | exact h.tl.tl.tl.tl | exact h.gtl | exact h.tl.gtl | exact h.sel [0] (by decide) rfl (fun _ h => h) | exact h.tl.tl.tl.tl.tl | exact h.tl.tl.tl.tl.tl.tl | exact h.tl.tl.tl.tl.tl.tl.tl | exact h.tl.tl.tl.tl.tl.tl.tl.tl | exact h.tl.tl.tl.tl.tl.tl.tl.tl.tl | exact h.tl.tl.tl.tl.tl.tl.tl.tl.tl.tl) ?_;rintro y18 hy18;refine Xt 6 rfl (by exact ps_sadd rfl rfl rfl (by omega)) ?_;refine Xt 7 rfl (ps_assign rfl rfl) ?_;refine okT_done (by kernel_rfl) ?_;refine Ze1 4 ?_;exact hk y15 y18));(focus (rintro y18 hy18;refine Xo 3 rfl (by exact ms_ps (by first | exact ps_str_of (l := [UInt8.ofNat k,0,0,0,0]) rfl rfl (rds_row 0 rfl) rfl | exact ps_str_of rfl rfl (by first | exact rds_row 0 rfl | exact rds_row 1 rfl | exact rds_row 2 rfl | exact rds_row 3 rfl | exact rds_row 4 rfl | exact rds_row 5 rfl | exact rds_row 6 rfl | exact rds_row 7 rfl | exact rds_row 8 rfl | exact rds_row 9 rfl | exact rds_row 10 rfl | exact rds_row 11 rfl | exact rds_row 12 rfl | exact rds_row 13 rfl | exact rds_row 14 rfl | exact rds_row 15 rfl | exact rds_row 16 rfl | exact rds_row 17 rfl | exact rds_row 18 rfl | exact rds_row 19 rfl | exact rds_row 20 rfl | exact rds_row 21 rfl | exact rds_row 22 rfl | exact rds_row 23 rfl | exact rds_rf (by assumption) (by first | exact List.mem_cons_self | exact List.mem_cons_of_mem _ List.mem_cons_self | simp)) (by simp))) (fun y w _ h => by first | exact h | exact h.tl | exact h.tl.tl | exact h.tl.tl.tl | exact h.tl.tl.tl.tl | exact h.gtl | exact h.tl.gtl | exact h.sel [0] (by decide) rfl (fun _ h => h) | exact h.tl.tl.tl.tl.tl | exact h.tl.tl.tl.tl.tl.tl | exact h.tl.tl.tl.tl.tl.tl.tl | exact h.tl.tl.tl.tl.tl.tl.tl.tl | exact h.tl.tl.tl.tl.tl.tl.tl.tl.tl | exact h.tl.tl.tl.tl.tl.tl.tl.tl.tl.tl) ?_;rintro y16 hy16;refine Xt 6 rfl (by exact ps_sadd rfl rfl rfl (by omega)) ?_;refine Xt 7 rfl (ps_assign rfl rfl) ?_;refine okT_done (by kernel_rfl) ?_;refine Ze1 4 ?_;exact hk y15 y18))));(focus (rintro y18 hy18;refine Xo 2 rfl (by exact ms_lit rfl (parts_cons rfl (parts_cons rfl (parts_cons rfl (parts_cons rfl (parts_cons rfl parts_nil))))) rfl rfl rfl) (fun y w _ h => by first | exact h | exact h.tl | exact h.tl.tl | exact h.tl.tl.tl | exact h.tl.tl.tl.tl | exact h.gtl | exact h.tl.gtl | exact h.sel [0] (by decide) rfl (fun _ h => h) | exact h.tl.tl.tl.tl.tl | exact h.tl.tl.tl.tl.tl.tl | exact h.tl.tl.tl.tl.tl.tl.tl | exact h.tl.tl.tl.tl.tl.tl.tl.tl | exact h.tl.tl.tl.tl.tl.tl.tl.tl.tl | exact h.tl.tl.tl.tl.tl.tl.tl.tl.tl.tl) ?_;rintro y15 hy15;refine Xo 3 rfl (by exact ms_ps (by first | exact ps_str_of (l := [UInt8.ofNat k,0,0,0,0]) rfl rfl (rds_row 0 rfl) rfl | exact ps_str_of rfl rfl (by first | exact rds_row 0 rfl | exact rds_row 1 rfl | exact rds_row 2 rfl | exact rds_row 3 rfl | exact rds_row 4 rfl | exact rds_row 5 rfl | exact rds_row 6 rfl | exact rds_row 7 rfl | exact rds_row 8 rfl | exact rds_row 9 rfl | exact rds_row 10 rfl | exact rds_row 11 rfl | exact rds_row 12 rfl | exact rds_row 13 rfl | exact rds_row 14 rfl | exact rds_row 15 rfl | exact rds_row 16 rfl | exact rds_row 17 rfl | exact rds_row 18 rfl | exact rds_row 19 rfl | exact rds_row 20 rfl | exact rds_row 21 rfl | exact rds_row 22 rfl | exact rds_row 23 rfl | exact rds_rf (by assumption) (by first | exact List.mem_cons_self | exact List.mem_cons_of_mem _ List.mem_cons_self | simp)) (by simp))) (fun y w _ h => by first | exact h | exact h.tl | exact h.tl.tl | exact h.tl.tl.tl | exact h.tl.tl.tl.tl | exact h.gtl | exact h.tl.gtl | exact h.sel [0] (by decide) rfl (fun _ h => h) | exact h.tl.tl.tl.tl.tl | exact h.tl.tl.tl.tl.tl.tl | exact h.tl.tl.tl.tl.tl.tl.tl | exact h.tl.tl.tl.tl.tl.tl.tl.tl | exact h.tl.tl.tl.tl.tl.tl.tl.tl.tl | exact h.tl.tl.tl.tl.tl.tl.tl.tl.tl.tl) ?_;rintro y16 hy16;refine Xt 6 rfl (by exact ps_sadd rfl rfl rfl (by omega)) ?_;refine Xt 7 rfl (ps_assign rfl rfl) ?_;refine okT_done (by kernel_rfl) ?_;refine Ze1 4 ?_;exact hk y15 y18))));rintro y15 y18))
  · exfalso;omega
  all_goals exact ok_endL (vs := [_]) rfl ⟨rfl,trivial⟩ (fun w' hw => ⟨rfl,hw.below⟩)
theorem b8_bt (s : ByteArray) (k : Nat) : (b8 s k).toNat = bt s k := rfl
theorem u8_ok (x : UInt8) : kOk .u8 x.toNat := .inr (.inr (.inl ⟨rfl,x.toNat_lt⟩))
theorem u8_okb (s : ByteArray) (k : Nat) : kOk .u8 (bt s k) := .inr (.inr (.inl ⟨rfl,bt_lt' s k⟩))
def midS (m nonce t : ByteArray) (i : Nat) : List UInt8 := strmL m nonce t i ++ (bl t).drop i
theorem midS_len (m nonce t : ByteArray) (i : Nat) (h : i ≤ t.size) : (midS m nonce t i).length = t.size := by
  simp [midS,strmL_len];omega
theorem midS_get (m nonce t : ByteArray) (i : Nat) (h : i < t.size) : (midS m nonce t i).getD i 0 = b8 t i := by
  unfold midS b8
  rw [List.getD_eq_getElem?_getD,List.getElem?_append_right (by rw [strmL_len];exact Nat.le_refl _),strmL_len,Nat.sub_self,List.getElem?_drop,List.getD_eq_getElem?_getD,Nat.add_zero]
theorem strmL_succ (m nonce t : ByteArray) (i : Nat) : strmL m nonce t (i + 1) = strmL m nonce t i ++ [strmB m nonce t i] := by
  unfold strmL;rw [List.range_succ,List.map_append];rfl
theorem midS_step (m nonce t : ByteArray) (i : Nat) (h : i < t.size) : (midS m nonce t i).set i (strmB m nonce t i) = midS m nonce t (i + 1) := by
  unfold midS
  have hl : i < (bl t).length := by simpa using h
  rw [List.set_append_right _ _ (by rw [strmL_len];exact Nat.le_refl _),strmL_len,Nat.sub_self,List.drop_eq_getElem_cons hl,List.set_cons_zero,strmL_succ,List.append_assoc]
  rfl
theorem midS_zero (m nonce t : ByteArray) : midS m nonce t 0 = bl t := by simp [midS,strmL]
theorem midS_all (m nonce t : ByteArray) : midS m nonce t t.size = strmL m nonce t t.size := by
  unfold midS
  rw [List.drop_of_length_le (by simp),List.append_nil]
theorem strmB_at (m nonce t : ByteArray) (b j : Nat) (hj : j < 64) : strmB m nonce t (64 * b + j) = b8 t (64 * b + j) ^^^ b8 (chaF m (b : Int) nonce) j := by
  unfold strmB
  rw [show (64 * b + j) / 64 = b by omega,show (64 * b + j) % 64 = j by omega]
theorem i_StreamL (m nonce t : ByteArray) (hm : m.size = 32) (hn : nonce.size = 12) (ht : t.size ≤ 4194304) (w : World) :
    Calls Tryz.prog 275 #[.string m,.int .i64 0,.string nonce,.string t] w fun e w' => e = .returned (.string (strmF m nonce t)) ∧ Below w.heap.size w w' := by
  have hch : ∀ b : Nat,b ≤ 65536 → isChaF m (b : Int) nonce = true := fun b hb => isCha_iff.2 ⟨hm,by omega,hn⟩
  have ex : strmF m nonce t = ⟨(midS m nonce t t.size).toArray⟩ := by rw [midS_all];rfl
  rw [ex]
  clear ex
  have HC := Lib.hid hch
  have hz := midS_zero m nonce t
  have hc0 := hch 0 (by omega)
  clear hch
  refine ok_enter 71 Tryz.func275 rfl rfl rfl ?_
  repeat' (first|refine Wa ?_|refine Wb ?_|refine Wc ?_|refine Wd ?_|(refine ok_cond rfl (fun hc => ?_) (fun hc => ?_) <;> (have hd := hc;try simp only [jj] at hd))|refine Wg ?_|refine Wi ?_|(refine Zr 0 ?_;refine Za ?_;refine Ze4 0 1 2 3 ?_)|(refine Zr 1 ?_;refine Zm ?_;refine Zm ?_;refine Zm ?_;refine Zn (by exact ms_s3 rfl rfl rfl rfl (fun _ _ w hw => isCha_c m 0 nonce w)) ?_;rintro y17 hy17;refine Zq (ps_not rfl rfl) ?_;refine Ze5 0 1 2 3 18 ?_)|(refine Zr 2 ?_;refine Za ?_;refine Ze1 8 ?_)|(refine Zr 3 ?_;refine Zm ?_;refine Zn (ms_bytes rfl rfl) ?_;rintro y20 hy20;refine Za ?_;refine Ze4 0 1 2 9 ?_)|(refine Zr 4 ?_;refine Zm ?_;refine Zq (ps_len rfl rfl) ?_;refine Zq (by exact ps_add rfl rfl rfl (by omega)) ?_;refine Zq (by exact ps_quo rfl rfl rfl (by omega) (by omega)) ?_;refine Za ?_;refine Ze5 0 1 2 9 10 ?_)|(refine Zr 5 ?_;refine Zm ?_;refine Zi ?_;refine Zm ?_;refine Zg rfl rfl rfl (gT _) (fun hp => by exact ps_move rfl rfl) ?_;refine Zg rfl rfl rfl (gT _) (fun hp => by exact ps_move rfl rfl) ?_;refine Zg rfl rfl rfl (gT _) (fun hp => by (have hpd := hp;(try simp only [jj] at hpd);exact ps_add rfl (Og rfl) (Og rfl) (by omega))) ?_;refine Zg rfl rfl rfl (gT _) (fun hp => by (have hpd := hp;(try simp only [jj] at hpd);exact ps_sub rfl (Og rfl) rfl (by omega))) ?_;refine Zg rfl rfl rfl (gT _) (fun hp => by (exact ps_int rfl (Og rfl) rfl rfl)) ?_;refine Zq (ps_and rfl rfl rfl) ?_;refine Ze5 0 1 2 9 33 ?_)|(refine Zr 6 ?_;refine Za ?_;refine Ze1 8 ?_)|(refine Zr 7 ?_;refine Za ?_;refine Ze5 0 1 2 9 11 ?_))
  · exfalso;have h' : isChaF m 0 nonce = true := hc0;rw [h'] at hd;cases hd
  · exfalso;omega
  refine ok_loop (ι := { b : Nat // b ≤ (t.size + 63) / 64 }) (fun q => (t.size + 63) / 64 - q.1) (fun q => ([(0,.string m),(1,.int .i64 q.1),(2,.string nonce),(9,.slice (ga (y20 0).c) t.size (y20 1).c),(11,.int .i64 (64 * q.1 : Nat))],[.zrow (y20 0).c 5 (zcs (midS m nonce t (min (64 * q.1) t.size)) (y20 1).c) ((y20 1).c,(y20 1).c + 1)],_)) ⟨0,by omega⟩ (fun a w he hw => ⟨⟨0,by omega⟩,he.sub ⟨rfl,rfl,rfl,rfl,rfl,trivial⟩,by simp only;rw [show min (64 * 0) t.size = 0 by omega,hz];exact hw⟩) ?_
  clear hc hd hc0 hz
  rintro ⟨b,hb⟩
  simp only at hb ⊢
  repeat' (first|refine Wa ?_|refine Wb ?_|refine Wd ?_|(refine ok_cond rfl (fun hc => ?_) (fun hc => ?_) <;> (have hd := hc;try simp only [jj] at hd))|refine Wg ?_|refine Wh ?_|refine Wi ?_|(refine Zr 8 ?_;refine Zm ?_;refine Zm ?_;refine Zq (ps_len rfl rfl) ?_;refine Zi ?_;refine Ze6 0 1 2 9 11 37 ?_)|(refine Zr 10 ?_;refine Zm ?_;refine Zm ?_;refine Zm ?_;refine Zn (by exact ms_s3 rfl rfl rfl rfl (fun _ _ w hw => i_ChaBlock m nonce (b : Int) w)) ?_;rintro y43 hy43;refine Za ?_;refine Ze6 0 1 2 9 11 12 ?_)|(refine Zr 11 ?_;refine Zm ?_;refine Zq (by exact ps_add rfl rfl rfl (by omega)) ?_;refine Za ?_;refine Ze6 0 1 2 9 11 12 ?_)|(refine Zr 12 ?_;refine Za ?_;refine Ze7 0 1 2 9 11 12 13 ?_)|(refine Zr 16 ?_;refine Zm ?_;refine Zq (by exact ps_str_of (l := midS m nonce t t.size) rfl rfl (rds_zcs 0 (by rw [show min (64 * b) t.size = t.size by omega];rfl)) (by rw [midS_len _ _ _ _ (Nat.le_refl _)])) ?_;refine Za ?_;refine Ze1 8 ?_))
  · have hB := chaF_size (HC.out b (by omega))
    have e0 : min (64 * b) t.size = 64 * b := by omega
    rw [e0]
    refine ok_loop (ι := { j : Nat // j ≤ 64 ∧ 64 * b + j ≤ t.size }) (fun q => 64 - q.1) (fun q => ([(0,.string m),(1,.int .i64 (b + 1 : Nat)),(2,.string nonce),(9,.slice (ga (y20 0).c) t.size (y20 1).c),(11,.int .i64 (64 * b : Nat)),(12,.string (chaF m b nonce)),(13,.int .i64 q.1)],[.zrow (y20 0).c 5 (zcs (midS m nonce t (64 * b + q.1)) (y20 1).c) ((y20 1).c,(y20 1).c + 1)],_)) ⟨0,by omega,by omega⟩ (fun a w he hw => ⟨⟨0,by omega,by omega⟩,he.sub ⟨rfl,rfl,rfl,rfl,rfl,rfl,rfl,trivial⟩,hw⟩) ?_
    rintro ⟨j,hj,hj2⟩
    simp only at hj hj2 ⊢
    have hl := midS_len m nonce t (64 * b + j) hj2
    repeat' (first|refine Wa ?_|refine Wb ?_|refine ok_then_exit ?_|refine Wd ?_|refine We ?_|refine ok_in_exit ?_|(refine ok_cond rfl (fun hc => ?_) (fun hc => ?_) <;> (have hd := hc;try simp only [jj] at hd))|refine Wh ?_|refine Wi ?_|(refine Zr 9 ?_;refine Zm ?_;refine Zq (by exact ps_add rfl rfl rfl (by omega)) ?_;refine Za ?_;refine Ze5 0 1 2 9 11 ?_)|(refine Zr 13 ?_;refine Zm ?_;refine Zi ?_;refine Zm ?_;refine Zg rfl rfl rfl (gT _) (fun hp => by exact ps_move rfl rfl) ?_;refine Zg rfl rfl rfl (gT _) (fun hp => by exact ps_move rfl rfl) ?_;refine Zg rfl rfl rfl (gT _) (fun hp => by (have hpd := hp;(try simp only [jj] at hpd);exact ps_add rfl (Og rfl) (Og rfl) (by omega))) ?_;refine Zg rfl rfl rfl (gT _) (fun hp => by exact ps_move rfl rfl) ?_;refine Zg rfl rfl rfl (gT _) (fun hp => by (exact ps_len rfl (Og rfl))) ?_;refine Zg rfl rfl rfl (gT _) (fun hp => by (exact ps_int rfl (Og rfl) (Og rfl) rfl)) ?_;refine Zq (ps_and rfl rfl rfl) ?_;refine Ze8 0 1 2 9 11 12 13 55 ?_)|(refine Zr 14 ?_;refine Zm ?_;refine Zq (by exact ps_add rfl rfl rfl (by omega)) ?_;refine Za ?_;refine Ze7 0 1 2 9 11 12 13 ?_)|(refine Xd 15 11 ?_;refine Xm 0 ?_;refine Xm 1 ?_;refine Xm 2 ?_;refine Xt 3 rfl (by exact ps_cast (v' := .int .i64 ((64 * b + j : Nat) : Int)) (ps_add rfl rfl rfl (by omega)) (congrArg (Value.int .i64) (by omega))) ?_;refine Xt 4 rfl (by exact ps_indexN (i := 64 * b + j) rfl rfl rfl (by omega) (isw_ga _)) ?_;refine Xt 5 rfl (by exact ps_loadZ 0 rfl rfl rfl (by omega)) ?_;refine Xm 6 ?_;refine Xm 7 ?_;refine Xt 8 rfl (by exact ps_sidxE j rfl rfl rfl rfl (by omega)) ?_;refine Xt 9 rfl (by exact ps_cast (v' := .int .u8 ((strmB m nonce t (64 * b + j)).toNat : Int)) (ps_xorN rfl rfl rfl (u8_ok _) (u8_okb _ _)) (by rw [strmB_at _ _ _ _ _ (by omega),← b8_bt,midS_get _ _ _ _ (by omega),UInt8.toNat_xor])) ?_;refine Xt 10 rfl (by exact ps_indexN (i := 64 * b + j) rfl rfl rfl (by omega) (isw_ga _)) ?_;refine okT_done (by kernel_rfl) ?_;refine Zo (by exact ms_setZ 0 rfl rfl rfl rfl (by omega) (by omega)) ?_;rintro y_ hy_;refine Ze7 0 1 2 9 11 12 13 ?_))
    · rw [midS_step m nonce t (64 * b + j) (by omega)]
      exact fun a w' he hw => ⟨⟨j + 1,by omega,by omega⟩,by simp only;omega,he.sub ⟨rfl,rfl,rfl,rfl,rfl,rfl,rfl,trivial⟩,hw⟩
    · refine fun a w' he hw => ⟨⟨b + 1,by omega⟩,by simp only;omega,he.sub ⟨rfl,rfl,rfl,rfl,?_,trivial⟩,?_⟩
      · simp only [look];congr 2 <;> omega
      · simp only;rw [show min (64 * (b + 1)) t.size = 64 * b + j by omega];exact hw
  · exact ok_endL (vs := [_]) rfl ⟨rfl,trivial⟩ (fun w' hw => ⟨rfl,hw.below⟩)
structure StmJ (n : Nat) where
  b : Nat
  A : Option Addr
  c : Nat
  hb : b ≤ (n + 63) / 64
structure StmK (n b : Nat) where
  j : Nat
  A : Option Addr
  c : Nat
  hj : j ≤ 64 ∧ 64 * b + j ≤ n
theorem s_StreamL (m nonce t : ByteArray) (hm : m.size = 32) (hn : nonce.size = 12) (ht : t.size ≤ 4194304) (w : World) :
    Calls Tryz.prog 200 #[.string m,.int .i64 0,.string nonce,.string t] w fun e w' => e = .returned (.string (strmF m nonce t)) ∧ Below w.heap.size w w' := by
  have hch : ∀ b : Nat,b ≤ 65536 → sEq (chaF m (b : Int) nonce) ⟨#[]⟩ = false := fun b hb => by
    have hB := chaF_size (isCha_iff.2 ⟨hm,by omega,hn⟩ : isChaF m (b : Int) nonce = true)
    cases h : sEq (chaF m (b : Int) nonce) ⟨#[]⟩
    · rfl
    · rw [sEq_t h] at hB;exact absurd hB (by decide)
  have hsz : ∀ b : Nat,b ≤ 65536 → (chaF m (b : Int) nonce).size = 64 := fun b hb => chaF_size (isCha_iff.2 ⟨hm,by omega,hn⟩)
  have ex : strmF m nonce t = ⟨(strmL m nonce t t.size).toArray⟩ := rfl
  rw [ex]
  clear ex
  have HC := Lib.hid hch
  have HS := Lib.hid hsz;clear hsz
  have hc0 : sEq (chaF m 0 nonce) ⟨#[]⟩ = false := hch 0 (by omega)
  clear hch
  refine ok_enter 61 Tryz.func200 rfl rfl rfl ?_
  repeat' (first|refine Wa ?_|refine Wb ?_|refine Wc ?_|refine Wd ?_|(refine ok_cond rfl (fun hc => ?_) (fun hc => ?_) <;> (have hd := hc;try simp only [jj] at hd))|refine Wg ?_|refine Wi ?_|(refine Zr 0 ?_;refine Za ?_;refine Ze4 0 1 2 3 ?_)|(refine Zr 1 ?_;refine Zn (by exact ms_lit rfl parts_nil rfl rfl rfl) ?_;rintro y13 hy13;refine Za ?_;refine Ze5 0 1 2 3 9 ?_)|(refine Zr 2 ?_;refine Zm ?_;refine Zm ?_;refine Zm ?_;refine Zn (by exact ms_s3 rfl rfl rfl rfl (fun _ _ w hw => s_ChaBlock m nonce 0 w)) ?_;rintro y17 hy17;refine Zq (ps_str rfl rfl rfl rfl) ?_;refine Ze6 0 1 2 3 9 18 ?_)|(refine Zr 3 ?_;refine Za ?_;refine Ze1 8 ?_)|(refine Zr 4 ?_;refine Za ?_;refine Ze6 0 1 2 3 9 10 ?_))
  · exfalso;rw [hc0] at hd;cases hd
  refine ok_loop (ι := StmJ t.size) (fun q => (t.size + 63) / 64 - q.b) (fun q => ([(0,.string m),(1,.int .i64 0),(2,.string nonce),(3,.string t),(9,.slice q.A (min (64 * q.b) t.size) q.c),(10,.int .i64 (64 * q.b : Nat))],[.row 5 1 q.A (min (64 * q.b) t.size) q.c (byteVs (strmL m nonce t (min (64 * q.b) t.size)))],_)) ⟨0,ga (y13 0).c,0,by omega⟩ (fun a w he hw => ⟨⟨0,ga (y13 0).c,0,by omega⟩,he.sub ⟨rfl,rfl,rfl,rfl,by simp [look],rfl,trivial⟩,by simp only;rw [show min (64 * 0) t.size = 0 by omega];exact hw⟩) ?_
  clear hc hd hc0
  rintro ⟨b,A,c,hb⟩
  simp only at hb ⊢
  have hcb := HC.out b
  repeat' (first|refine Wa ?_|refine Wb ?_|refine Wc ?_|refine Wd ?_|refine Wf ?_|(refine ok_cond rfl (fun hc => ?_) (fun hc => ?_) <;> (have hd := hc;try simp only [jj] at hd))|refine Wg ?_|refine Wh ?_|refine Wi ?_|(refine Zr 5 ?_;refine Zm ?_;refine Zm ?_;refine Zq (ps_slen rfl rfl) ?_;refine Zi ?_;refine Ze7 0 1 2 3 9 10 22 ?_)|(refine Zr 7 ?_;refine Zm ?_;refine Zm ?_;refine Zm ?_;refine Zq (by exact ps_cast (v' := .int .i64 (b : Int)) (ps_quo rfl rfl rfl (by omega) (by omega)) (congrArg (Value.int .i64) (by omega))) ?_;refine Zq (by exact ps_cast (v' := .int .i64 (b : Int)) (ps_add rfl rfl rfl (by omega)) (congrArg (Value.int .i64) (by omega))) ?_;refine Zm ?_;refine Zn (by exact ms_s3 rfl rfl rfl rfl (fun _ _ w hw => s_ChaBlock m nonce (b : Int) w)) ?_;rintro y31 hy31;refine Za ?_;refine Ze7 0 1 2 3 9 10 11 ?_)|(refine Zr 8 ?_;refine Zm ?_;refine Zq (ps_str rfl rfl rfl rfl) ?_;refine Ze8 0 1 2 3 9 10 11 33 ?_)|(refine Zr 9 ?_;refine Za ?_;refine Ze1 8 ?_)|(refine Zr 10 ?_;refine Zm ?_;refine Za ?_;refine Ze8 0 1 2 3 9 10 11 12 ?_)|(refine Zr 14 ?_;refine Zm ?_;refine Zq (by exact ps_str_of (l := strmL m nonce t (min (64 * b) t.size)) rfl rfl (rds_row 0 rfl) (by rw [strmL_len])) ?_;refine Za ?_;refine Ze1 8 ?_))
  · exfalso;rw [hcb (by omega)] at hd;cases hd
  · have hB := HS.out b (by omega)
    have e0 : min (64 * b) t.size = 64 * b := by omega
    rw [e0]
    clear hcb
    refine ok_loop (ι := StmK t.size b) (fun q => 64 - q.j) (fun q => ([(0,.string m),(1,.int .i64 0),(2,.string nonce),(3,.string t),(9,.slice q.A (64 * b + q.j) q.c),(10,.int .i64 (64 * b : Nat)),(11,.string (chaF m b nonce)),(12,.int .i64 (64 * b + q.j : Nat))],[.row 5 1 q.A (64 * b + q.j) q.c (byteVs (strmL m nonce t (64 * b + q.j)))],_)) ⟨0,A,c,by omega⟩ (fun a w he hw => ⟨⟨0,A,c,by omega⟩,he.sub ⟨rfl,rfl,rfl,rfl,rfl,rfl,rfl,rfl,trivial⟩,hw⟩) ?_
    rintro ⟨j,A2,c2,hj⟩
    simp only at hj ⊢
    repeat' (first|refine Wa ?_|refine Wb ?_|refine ok_then_exit ?_|refine Wd ?_|refine We ?_|refine ok_in_exit ?_|(refine ok_cond rfl (fun hc => ?_) (fun hc => ?_) <;> (have hd := hc;try simp only [jj] at hd))|refine Wh ?_|refine Wi ?_|(refine Zr 6 ?_;refine Zm ?_;refine Zq (by exact ps_add rfl rfl rfl (by omega)) ?_;refine Za ?_;refine Ze6 0 1 2 3 9 10 ?_)|(refine Zr 11 ?_;refine Zm ?_;refine Zm ?_;refine Zq (ps_slen rfl rfl) ?_;refine Zi ?_;refine Zm ?_;refine Zg rfl rfl rfl (gT _) (fun hp => by exact ps_move rfl rfl) ?_;refine Zg rfl rfl rfl (gT _) (fun hp => by exact ps_move rfl rfl) ?_;refine Zg rfl rfl rfl (gT _) (fun hp => by (have hpd := hp;(try simp only [jj] at hpd);exact ps_add rfl (Og rfl) rfl (by omega))) ?_;refine Zg rfl rfl rfl (gT _) (fun hp => by (exact ps_int rfl (Og rfl) (Og rfl) rfl)) ?_;refine Zq (ps_and rfl rfl rfl) ?_;refine Ze9 0 1 2 3 9 10 11 12 44 ?_)|(refine Zr 12 ?_;refine Zm ?_;refine Zq (by exact ps_add rfl rfl rfl (by omega)) ?_;refine Za ?_;refine Ze8 0 1 2 3 9 10 11 12 ?_)|(refine ok_draw (id := 13) 13 rfl (by kernel_rfl) (by kernel_rfl) rfl (by repeat (first | exact pq_body | refine pq_then ?_ | refine pq_in ?_)) [] (by decide) rfl ?_;refine Xm 0 ?_;refine Xm 1 ?_;refine Xm 2 ?_;refine Xt 3 rfl (by exact ps_sidxE (64 * b + j) rfl rfl rfl rfl (by omega)) ?_;refine Xm 4 ?_;refine Xm 5 ?_;refine Xm 6 ?_;refine Xt 7 rfl (by exact ps_cast (v' := .int .i64 (j : Int)) (ps_sub rfl rfl rfl (by omega)) (congrArg (Value.int .i64) (by omega))) ?_;refine Xt 8 rfl (by exact ps_sidxE j rfl rfl rfl rfl (by omega)) ?_;refine Xt 9 rfl (by exact ps_cast (v' := .int .u8 ((strmB m nonce t (64 * b + j)).toNat : Int)) (ps_xorN rfl rfl rfl (u8_okb _ _) (u8_okb _ _)) (by rw [strmB_at _ _ _ _ _ (by omega),← b8_bt,← b8_bt,UInt8.toNat_xor])) ?_;refine Xo 10 rfl (by exact ms_lit rfl (parts_cons rfl parts_nil) rfl rfl rfl) (fun y w _ h => by exact h.sel [] (by decide) rfl (fun _ h => h)) ?_;rintro y57 hy57;refine Xo 11 rfl (by exact ms_app (m := 1) 1 rfl rfl rfl rfl (rds_row 0 rfl) rfl (one1 rfl) (by omega) (by omega)) (fun y w _ h => by exact h.sel [] (by decide) rfl (fun _ h => h)) ?_;rintro y58 hy58;refine Xt 12 rfl (ps_assign rfl rfl) ?_;refine okT_done (by kernel_rfl) ?_;refine Ze8 0 1 2 3 9 10 11 12 ?_))
    · exact fun a w' he hw => ⟨⟨j + 1,(y58 0).A,(y58 0).c,by omega⟩,by simp only;omega,he.sub ⟨rfl,rfl,rfl,rfl,rfl,rfl,rfl,rfl,trivial⟩,by simp only;rw [show 64 * b + (j + 1) = (64 * b + j) + 1 from rfl,strmL_succ,bvs1];exact hw.tl⟩
    · refine fun a w' he hw => ⟨⟨b + 1,A2,c2,by omega⟩,by simp only;omega,he.sub ⟨rfl,rfl,rfl,rfl,?_,?_,trivial⟩,?_⟩
      · simp only [look];congr 2 <;> omega
      · simp only [look];congr 2 <;> omega
      · simp only;rw [show min (64 * (b + 1)) t.size = 64 * b + j by omega];exact hw
  · rw [show min (64 * b) t.size = t.size by omega]
    exact ok_endL (vs := [_]) rfl ⟨rfl,trivial⟩ (fun w' hw => ⟨rfl,hw.below⟩)
end Go.Proofs.YtmfojbidojjciaaGreat
namespace Go.Proofs.YtmfojbidojjciaaGreat
theorem tkE_le (s : ByteArray) (z : Int) : -1 ≤ tkE (tkW s z) ∧ tkE (tkW s z) ≤ s.size := by
  unfold tkW
  split
  · cases h : tkS s z.toNat with
    | none => simp only [tkE];omega
    | some p => obtain ⟨r,e⟩ := p;have := tkS_some h;simp only [tkE];omega
  · simp only [tkE];omega
theorem tkW_nat {s : ByteArray} {k : Nat} (h : k ≤ s.size) : tkW s (k : Int) = tkS s k := by
  unfold tkW;rw [if_pos ⟨by omega,by omega⟩,Int.toNat_natCast]
theorem tkV_nat {s : ByteArray} {k : Nat} (h : k ≤ s.size) : tkV s (k : Int) = tkN s k := by
  unfold tkV;rw [if_pos ⟨by omega,by omega⟩,Int.toNat_natCast]
theorem tkW_neg {s : ByteArray} : tkE (tkW s (-1)) = -1 := by unfold tkW;rw [if_neg (by omega)];rfl
theorem rdN_or (s : ByteArray) (k : Nat) : (tkN s k = none ∧ rdN s k false = (0,k,true)) ∨ ∃ n e,tkN s k = some (n,e) ∧ rdN s k false = (n,e,false) := by
  unfold rdN
  rw [if_neg (by simp)]
  cases h : tkN s k with
  | none => exact .inl ⟨rfl,rfl⟩
  | some p => obtain ⟨n,e⟩ := p;exact .inr ⟨n,e,rfl,rfl⟩
theorem rdS_or (s : ByteArray) (k : Nat) : (tkS s k = none ∧ (rdS s k false).2.2 = true) ∨ ∃ r e,tkS s k = some (r,e) ∧ rdS s k false = (r,e,false) := by
  have h := rdS_tk s k
  cases h1 : tkS s k with
  | none => exact .inl ⟨rfl,by rw [h.1,h1];rfl⟩
  | some p => obtain ⟨r,e⟩ := p;exact .inr ⟨r,e,rfl,h.2 r e h1⟩
end Go.Proofs.YtmfojbidojjciaaGreat
