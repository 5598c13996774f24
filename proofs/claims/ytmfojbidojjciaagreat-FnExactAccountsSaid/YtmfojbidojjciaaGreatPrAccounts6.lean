/- Texts of this claim, one behind the other: Cpt, WkC, WkQ, WkV, WkS, WkT, StAE, StAF, StAG, StTy, StTs, StTz, StMk, StO, WFnExactAccounts, Jn. -/
import Derived.Test.YtmfojbidojjciaaGreatPrAccounts1
import Derived.Test.YtmfojbidojjciaaGreatPrAccounts5
import Derived.Test.YtmfojbidojjciaaGreatPrAccounts4
import Derived.Test.YtmfojbidojjciaaGreatPrAccounts3
import Derived.Test.YtmfojbidojjciaaGreatPrAccounts2
import Derived.Test.YtmfojbidojjciaaGreatRows
import Derived.ProofKit
import Derived.JoinedOf
set_option linter.unusedVariables false
set_option linter.unusedSimpArgs false
set_option maxRecDepth 20000
set_option maxHeartbeats 4000000
namespace Go.Proofs.YtmfojbidojjciaaGreat
open Go.RowKit
attribute [local irreducible] Calls
def eqV : Value := .func (.func 220) #[] #[]
theorem same_c (a b : Ent) (w : World) : Calls Tryz.prog 220 #[.agg (Dat.cells a).toArray,.agg (Dat.cells b).toArray] w fun e w' => e = .returned (.bool (sameE a b)) ∧ Below w.heap.size w w' := by
  refine ok_enter 17 Tryz.func220 rfl rfl rfl ?_
  repeat' (first|refine Wa ?_|refine Wb ?_|refine Wg ?_|(refine Zr 0 ?_;refine Zn (ms_box rfl rfl rfl) ?_;rintro y2 hy2;refine Zn (ms_box rfl rfl rfl) ?_;rintro y3 hy3;refine Za ?_;refine Ze2 2 3 ?_)|(refine Zr 1 ?_;refine Zf ?_;refine Zl 1 ?_;refine Zf ?_;refine Zl 0 ?_;refine Zq (ps_str rfl rfl rfl rfl) ?_;refine Zm ?_;refine Zg rfl rfl rfl (gT _) (fun hp => by exact ps_field rfl rfl (isw_ga _)) ?_;refine Zg rfl rfl rfl (gT _) (fun hp => by (exact ps_load rfl (Og rfl) (by exact Rds.cell (rds_box 1 rfl) rfl))) ?_;refine Zg rfl rfl rfl (gT _) (fun hp => by exact ps_field rfl rfl (isw_ga _)) ?_;refine Zg rfl rfl rfl (gT _) (fun hp => by (exact ps_load rfl (Og rfl) (by exact Rds.cell (rds_box 0 rfl) rfl))) ?_;refine Zg rfl rfl rfl (gT _) (fun hp => by (exact ps_int rfl (Og rfl) (Og rfl) rfl)) ?_;refine Zq (ps_and rfl rfl rfl) ?_;refine Za ?_;refine Ze1 4 ?_))
  exact ok_endL (vs := [_]) rfl ⟨rfl,trivial⟩ (fun w' hw => ⟨rfl,hw.below⟩)
structure CpA (L : List Ent) where
  k : Nat
  hk : 1 ≤ k ∧ k ≤ L.length
  ad : adjK L k = L.take k
structure CpB (L : List Ent) (k0 : Nat) where
  j : Nat
  k : Nat
  O : List Ent
  hj : 1 ≤ j ∧ k0 + j ≤ L.length ∧ 1 ≤ k ∧ k ≤ k0 + j - 1
  hO : O.length = k
  ad : adjK L (k0 + j) = O
theorem compactE_c (A : Option Addr) (n c : Nat) (L : List Ent) (hn : L.length = n) (hl : n ≤ 4194304) {base : Nat} {w0 w : World} {H : List HObj} {G : List World} (hw : WOk base w0 (rwE A n c L :: H) G w) :
    Calls Tryz.prog 219 #[.slice A n c,eqV] w fun e w' => ∃ y : Ys,e = .returned (.slice A (cmpct L).length c) ∧ True ∧ WOk base w0 (rwE A (cmpct L).length c (cmpct L) :: H) G w' := by
  have hA : 0 < n → IsS A := fun h => isS_own (hw.own _ List.mem_cons_self) h
  have hcap := hw.cap 0 rfl
  refine ok_enterW 66 Tryz.func219 rfl rfl rfl hw ?_
  repeat' (first|refine Wa ?_|refine Wb ?_|refine Wc ?_|refine Wd ?_|(refine ok_cond rfl (fun hc => ?_) (fun hc => ?_) <;> (have hd := hc;try simp only [jj] at hd))|refine Wg ?_|refine Wi ?_|(refine Zr 0 ?_;refine Za ?_;refine Ze2 0 1 ?_)|(refine Zr 1 ?_;refine Zm ?_;refine Zq (ps_len rfl rfl) ?_;refine Zi ?_;refine Ze3 0 1 10 ?_)|(refine Zr 2 ?_;refine Zm ?_;refine Za ?_;refine Ze1 4 ?_)|(refine Zr 3 ?_;refine Za ?_;refine Ze3 0 1 5 ?_))
  · have e : cmpct L = L := by
      cases L with
      | nil => rw [cmpct]
      | cons a T => cases T with
        | nil => rw [cmpct]
        | cons b T => simp only [List.length_cons] at hn;omega
    refine ok_endL (vs := [_]) rfl ⟨rfl,trivial⟩ (fun w' hw => ⟨yM L w',?_,trivial,?_⟩)
    · rw [e,hn];rfl
    · rw [e,hn];exact hw
  refine ok_loop (ι := CpA L) (fun q => L.length - q.k) (fun q => ([(0,.slice A n c),(1,eqV),(5,.int .i64 q.k)],rwE A n c L :: H,_)) ⟨1,by omega,by rw [adj_zero,takeE_snoc (by omega)];rfl⟩ (fun ac w he hw => ⟨⟨1,by omega,by rw [adj_zero,takeE_snoc (by omega)];rfl⟩,he.sub ⟨rfl,rfl,rfl,trivial⟩,hw⟩) ?_
  rintro ⟨k,hk,ad⟩
  simp only at hk ⊢
  have AD := Lib.hid ad;clear ad
  repeat' (first|refine Wa ?_|refine Wb ?_|refine Wd ?_|refine We ?_|(refine ok_cond rfl (fun hc => ?_) (fun hc => ?_) <;> (have hd := hc;try simp only [jj] at hd))|refine Wg ?_|refine Wh ?_|refine Wi ?_|(refine Zr 4 ?_;refine Zm ?_;refine Zm ?_;refine Zq (ps_len rfl rfl) ?_;refine Zi ?_;refine Ze4 0 1 5 15 ?_)|(refine Zr 5 ?_;refine Zm ?_;refine Zq (by exact ps_add rfl rfl rfl (by omega)) ?_;refine Za ?_;refine Ze3 0 1 5 ?_)|(refine ok_draw (id := 6) 11 rfl (by kernel_rfl) (by kernel_rfl) rfl (by repeat (first | exact pq_body | refine pq_then ?_ | refine pq_in ?_)) [0] (by decide) rfl ?_;refine Xm 0 ?_;refine Xm 1 ?_;refine Xm 2 ?_;refine Xt 3 rfl (by exact ps_indexN rfl rfl rfl (by omega) (by exact isw_row 0 rfl (by omega))) ?_;refine Xt 4 rfl (by exact ps_loadsF (α := Ent) (l := L) (i := k) rfl rfl (rds_row 0 rfl) rfl rfl (by omega) rfl) ?_;refine Xm 5 ?_;refine Xm 6 ?_;refine Xt 7 rfl (by exact ps_cast (v' := .int .i64 ((k - 1 : Nat) : Int)) (ps_sub rfl rfl rfl (by omega)) (by congr 1;omega)) ?_;refine Xt 8 rfl (by exact ps_indexN rfl rfl rfl (by omega) (by exact isw_row 0 rfl (by omega))) ?_;refine Xt 9 rfl (by exact ps_loadsF (α := Ent) (l := L) (i := k - 1) rfl rfl (rds_row 0 rfl) rfl rfl (by omega) rfl) ?_;refine Xo 10 rfl (by exact ms_v2 rfl rfl rfl rfl (fun _ _ w hw => same_c (nth L k) (nth L (k - 1)) w)) (fun y w _ h => by exact h.sel [0] (by decide) rfl (fun _ h => h)) ?_;rintro y28 hy28;refine okT_done (by kernel_rfl) ?_;refine Ze4 0 1 5 28 ?_)|(refine Zr 7 ?_;refine Zm ?_;refine Zm ?_;refine Zq (by exact ps_sliceE (l := k) rfl rfl rfl rfl (by omega) (by omega)) ?_;refine Za ?_;refine Ze4 0 1 5 6 ?_)|(refine Zr 8 ?_;refine Za ?_;refine Ze5 0 1 5 6 7 ?_)|(refine Zr 16 ?_;refine Zm ?_;refine Za ?_;refine Ze1 4 ?_))
  · refine ok_loop (ι := CpB L k) (fun q => L.length - q.j) (fun q => ([(0,.slice A n c),(1,eqV),(5,.int .i64 q.k),(6,.slice (if c = k then A else A.map (·.add (k * 4))) (n - k) (c - k)),(7,.int .i64 q.j)],rwE A n c (q.O ++ L.drop q.k) :: H,_)) ⟨1,k,L.take k,by omega,by rw [List.length_take];omega,by rw [adj_same (by omega) hd,AD.out]⟩ (fun ac w he hw => ⟨⟨1,k,L.take k,by omega,by rw [List.length_take];omega,by rw [adj_same (by omega) hd,AD.out]⟩,he.sub ⟨rfl,rfl,rfl,rfl,rfl,trivial⟩,by simp only [List.take_append_drop];exact hw⟩) ?_
    clear AD hc hd
    rename_i hd0
    rintro ⟨j,m,O,hj,hO,ad⟩
    simp only at hj hO ⊢
    obtain ⟨D,eD⟩ : ∃ D,D = O ++ L.drop m := ⟨_,rfl⟩
    have hD : D.length = n := by rw [eD,List.length_append,List.length_drop];omega
    have hDk : (D.drop k).length = n - k := by rw [List.length_drop,hD]
    have e1 : nth (D.drop k) j = nth L (k + j) := by rw [nth_drop,eD,nth_back hO (by omega)]
    have e2 : nth (D.drop k) (j - 1) = nth L (k + j - 1) := by rw [nth_drop,eD,nth_back hO (by omega)];congr 1;omega
    have es : m < n → D.set m (nth L (k + j)) = (O ++ [nth L (k + j)]) ++ L.drop (m + 1) := fun h => by rw [eD,set_front hO (by omega)]
    have et : D.take m = O := by rw [eD,List.take_left' hO]
    rw [← eD]
    have ED := Lib.hid eD;clear eD
    have E1 := Lib.hid e1;clear e1
    have E2 := Lib.hid e2;clear e2
    have ES := Lib.hid es;clear es
    have ET := Lib.hid et;clear et
    have AD := Lib.hid ad;clear ad
    have hsm : 0 < (fl (D.drop k)).length → True := fun _ => trivial
    repeat' (first|refine Wa ?_|refine Wb ?_|refine Wc ?_|refine Wd ?_|refine We ?_|refine Wf ?_|(refine ok_cond rfl (fun hc => ?_) (fun hc => ?_) <;> (have hd := hc;try simp only [jj] at hd))|refine Wg ?_|refine Wh ?_|refine Wi ?_|(refine Zr 9 ?_;refine Zm ?_;refine Zm ?_;refine Zq (ps_len rfl rfl) ?_;refine Zi ?_;refine Ze6 0 1 5 6 7 35 ?_)|(refine Zr 10 ?_;refine Zm ?_;refine Zq (by exact ps_add rfl rfl rfl (by omega)) ?_;refine Za ?_;refine Ze5 0 1 5 6 7 ?_)|(refine ok_draw (id := 11) 12 rfl (by kernel_rfl) (by kernel_rfl) rfl (by repeat (first | exact pq_body | refine pq_then ?_ | refine pq_in ?_)) [0] (by decide) rfl ?_;refine Xm 0 ?_;refine Xm 1 ?_;refine Xm 2 ?_;refine Xt 3 rfl (by exact ps_indexN rfl rfl rfl (by omega) (isw_rdsE (rds_tail (rds_row 0 rfl) rfl (by omega) (by omega)) (by rw [fl_len];show 0 < _ * 4;omega))) ?_;refine Xt 4 rfl (by exact ps_cast (v' := .agg (Dat.cells (nth L (k + j))).toArray) (ps_loadsF (α := Ent) (l := D.drop k) (i := j) rfl rfl (rds_tail (rds_row 0 rfl) rfl (by omega) (by omega)) rfl rfl (by omega) rfl) (congrArg (fun x : Ent => Value.agg (Dat.cells x).toArray) E1.out)) ?_;refine Xm 5 ?_;refine Xm 6 ?_;refine Xt 7 rfl (by exact ps_cast (v' := .int .i64 ((j - 1 : Nat) : Int)) (ps_sub rfl rfl rfl (by omega)) (by congr 1;omega)) ?_;refine Xt 8 rfl (by exact ps_indexN rfl rfl rfl (by omega) (isw_rdsE (rds_tail (rds_row 0 rfl) rfl (by omega) (by omega)) (by rw [fl_len];show 0 < _ * 4;omega))) ?_;refine Xt 9 rfl (by exact ps_cast (v' := .agg (Dat.cells (nth L (k + j - 1))).toArray) (ps_loadsF (α := Ent) (l := D.drop k) (i := j - 1) rfl rfl (rds_tail (rds_row 0 rfl) rfl (by omega) (by omega)) rfl rfl (by omega) rfl) (congrArg (fun x : Ent => Value.agg (Dat.cells x).toArray) E2.out)) ?_;refine Xo 10 rfl (by exact ms_v2 rfl rfl rfl rfl (fun _ _ w hw => same_c (nth L (k + j)) (nth L (k + j - 1)) w)) (fun y w _ h => by exact h.sel [0] (by decide) rfl (fun _ h => h)) ?_;rintro y48 hy48;refine Xt 11 rfl (ps_not rfl rfl) ?_;refine okT_done (by kernel_rfl) ?_;refine Ze6 0 1 5 6 7 49 ?_)|(refine Zr 12 ?_;refine Zm ?_;refine Zm ?_;refine Zm ?_;refine Zm ?_;refine Zq (by exact ps_indexN rfl rfl rfl (by omega) (isw_rdsE (rds_tail (rds_row 0 rfl) rfl (by omega) (by omega)) (by rw [fl_len];show 0 < _ * 4;omega))) ?_;refine Zq (by exact ps_cast (v' := .agg (Dat.cells (nth L (k + j))).toArray) (ps_loadsF (α := Ent) (l := D.drop k) (i := j) rfl rfl (rds_tail (rds_row 0 rfl) rfl (by omega) (by omega)) rfl rfl (by omega) rfl) (congrArg (fun x : Ent => Value.agg (Dat.cells x).toArray) E1.out)) ?_;refine Zq (by exact ps_indexN rfl rfl rfl (by omega) (by exact isw_row 0 rfl (by omega))) ?_;refine Zo (by exact ms_setw (α := Ent) 0 m (nth L (k + j)) rfl rfl rfl rfl rfl rfl rfl rfl rfl (by omega)) ?_;rintro y_ hy_;refine Ze5 0 1 5 6 7 ?_)|(refine Zr 13 ?_;refine Zm ?_;refine Zq (by exact ps_add rfl rfl rfl (by omega)) ?_;refine Za ?_;refine Ze5 0 1 5 6 7 ?_)|(refine Zr 14 ?_;refine Zm ?_;refine Zm ?_;refine Zq (by exact ps_sliceE (l := m) rfl rfl rfl rfl (by omega) (by omega)) ?_;refine Zo (by exact ms_clear (α := Ent) (L := D) (q := m) (z := [.string ⟨#[]⟩,.int .i64 0,.bool false,.string ⟨#[]⟩]) 0 rfl rfl (fun h => if_neg (by omega)) rfl rfl (by omega) (by omega) (by decide)) ?_;rintro y_ hy_;refine Ze2 0 5 ?_)|(refine Zr 15 ?_;refine Zm ?_;refine Zm ?_;refine Zq (by exact ps_slice0 (h := m) rfl rfl rfl rfl (by omega)) ?_;refine Za ?_;refine Ze1 4 ?_))
    · refine fun ac w' he hw => ⟨⟨j + 1,m + 1,O ++ [nth L (k + j)],by omega,by rw [List.length_append,hO];rfl,by rw [show k + (j + 1) = (k + j) + 1 by omega,adj_diff hd,AD.out]⟩,by simp only;omega,he.sub ⟨rfl,rfl,rfl,rfl,rfl,trivial⟩,?_⟩
      simp only
      rw [← ES.out (by omega)]
      exact hw
    · refine fun ac w' he hw => ⟨⟨j + 1,m,O,by omega,hO,by rw [show k + (j + 1) = (k + j) + 1 by omega,adj_same (by omega) hd,AD.out]⟩,by simp only;omega,he.sub ⟨rfl,rfl,rfl,rfl,rfl,trivial⟩,?_⟩
      simp only
      rw [← ED.out]
      exact hw
    · have e : cmpct L = O := by rw [← adj_end,← AD.out];congr 1;omega
      refine ok_endL (vs := [_]) rfl ⟨rfl,trivial⟩ (fun w' hw => ⟨yM L w',?_,trivial,?_⟩)
      · rw [e,hO];rfl
      · rw [e,hO]
        have := ET.out
        rw [← this];exact hw
  · exact fun ac w' he hw => ⟨⟨k + 1,by omega,by rw [adj_diff (by simpa using hd),AD.out,takeE_snoc (by omega)]⟩,by simp only;omega,he.sub ⟨rfl,rfl,rfl,trivial⟩,hw⟩
  · have e : cmpct L = L := by rw [← adj_end,show L.length = k by omega,AD.out,List.take_of_length_le (by omega)]
    refine ok_endL (vs := [_]) rfl ⟨rfl,trivial⟩ (fun w' hw => ⟨yM L w',?_,trivial,?_⟩)
    · rw [e,hn];rfl
    · rw [e,hn];exact hw
theorem ps_clipE {P : Program} {E : Env} {H : List HObj} {G : List World} {o : Oper} {x hi mx : Operand} {t e sz bytes : TypeId} {A : Option Addr} {n c h : Nat} {k' k'' : IntKind} [ht : EL P t e sz bytes] (ho : o.op = .slice t x none (some hi) (some mx)) (hx : opd E x = some (.slice A n c))
    (hhi : opd E hi = some (.int k' (h : Int))) (hm : opd E mx = some (.int k'' (h : Int))) (h3 : h ≤ c) :
    PStep P E H G o (.slice A h h) := fun N base w0 a w he hw => by
  obtain ⟨hu,_,i,z,hi',hz,hs,_,_⟩ := ht.h
  have hb : ∀ (k : IntKind) (q m : Nat) (cd : BoundsCode),q ≤ m → (Instr.sliceBound (.int k (q : Int)) m cd).run P w = .ok q w := fun k q m cd hq => by
    have : (0 : Int) ≤ q ∧ (q : Int) ≤ m := by omega
    simp [Instr.sliceBound,asIntOf,this]
  simp [execOp,ho,he.eval hx,he.eval hhi,he.eval hm,Instr.sliceAt,Instr.slice,Instr.sliceBounds,run_underlying hu,sizeOf,typeInfo,hi',hs,hb k'' h c _ h3,hb k' h h _ (Nat.le_refl _)]
  exact fun _ => by have := add_zero_all A 0;simpa using this
theorem clipE_c (A : Option Addr) (n c : Nat) (h : n ≤ c) (w : World) :
    Calls Tryz.prog 218 #[.slice A n c] w fun e w' => e = .returned (.slice A n n) ∧ Below w.heap.size w w' := by
  refine ok_enter 9 Tryz.func218 rfl rfl rfl ?_
  repeat' (first|refine Wa ?_|refine Wb ?_|refine Wg ?_|(refine Zr 0 ?_;refine Za ?_;refine Ze1 0 ?_)|(refine Zr 1 ?_;refine Zm ?_;refine Zm ?_;refine Zq (ps_len rfl rfl) ?_;refine Zm ?_;refine Zq (ps_len rfl rfl) ?_;refine Zq (by exact ps_clipE rfl rfl rfl rfl h) ?_;refine Za ?_;refine Ze1 2 ?_))
  exact ok_endL (vs := [_]) rfl ⟨rfl,trivial⟩ (fun w' hw => ⟨rfl,hw.below⟩)
theorem merge_len : ∀ (rows : List (List Ent)) (acc : List Ent),(rows.foldl mrg acc).length ≤ acc.length + rows.flatten.length
  | [],acc => by simp
  | r :: rows,acc => by
    have h1 := merge_len rows (mrg acc r)
    have h2 := mrg_len acc r
    rw [List.foldl_cons,List.flatten_cons,List.length_append]
    omega
theorem merged_c (A : Option Addr) (c : Nat) (R : List (Lc (List Ent))) (w : World) (h : RdN w A R) (hl : R.length ≤ 4194304) (ht : ∀ k,offR List.length (dats R) k ≤ 4194304) (hs : ∀ l ∈ dats R,strE l) :
    Calls Tryz.prog 158 #[.slice A R.length c] w fun e w' => ∃ y : Ys,e = .returned (.slice (y 0).A (mergeS (dats R)).length (mergeS (dats R)).length) ∧ True ∧ Below w.heap.size w w' ∧ NewOk w.heap.size [.row 204 4 (y 0).A (mergeS (dats R)).length (y 0).c (fl (mergeS (dats R)))] [] w' := by
  have hf : (dats R).flatten.length ≤ 4194304 := by
    have h1 := catEnt_len (dats R) (dats R).length
    rw [List.take_length] at h1
    rw [h1];exact ht _
  refine ok_enter 11 Tryz.func158 rfl rfl rfl ?_
  repeat' (first|refine Wa ?_|refine Wb ?_|refine Wg ?_|(refine Zr 0 ?_;refine Za ?_;refine Ze1 0 ?_)|(refine Zr 1 ?_;refine Zm ?_;refine Zn (by exact ms_c1 rfl rfl (fun _ _ w hw => concatEnt_c A c R w (h.keep hw List.mem_cons_self) hl ht)) ?_;rintro y5 hy5;refine Za ?_;refine Ze1 3 ?_)|(refine Zr 2 ?_;refine Zm ?_;refine Zn (by exact ms_w2 (fun _ _ _ h => h) rfl rfl rfl (fun _ _ w hw => sortStable_c (y5 0).A _ (y5 0).c (dats R).flatten rfl hf hw)) ?_;rintro y7 hy7;refine Ze1 3 ?_)|(refine Zr 3 ?_;refine Zm ?_;refine Zn (by exact ms_w2 (fun _ _ _ h => h) rfl rfl rfl (fun _ _ w hw => compactE_c (y5 0).A _ (y5 0).c (rM y7) hy7.2.2 hf hw)) ?_;rintro y9 hy9;refine Zn (by exact ms_s1 rfl rfl (fun _ _ w hw => clipE_c (y5 0).A _ (y5 0).c (hw.cap 0 rfl) w)) ?_;rintro y10 hy10;refine Za ?_;refine Ze1 2 ?_))
  have e : cmpct (rM y7) = mergeS (dats R) := merge_same hs hy7.2.1 hy7.1
  exact ok_endL (vs := [_]) rfl ⟨rfl,trivial⟩ (fun w' hw => ⟨y5,by rw [e];rfl,trivial,hw.below,by rw [e] at hw;exact NewOk.of hw⟩)
structure CpW (R : List LE) where
  S : List LE
  A : Option Addr
  c : Nat
  hs : S.length ≤ R.length
  hd : dats S = (dats R).take S.length
theorem CpW.snoc {R S : List LE} (hs : S.length < R.length) (hd : dats S = (dats R).take S.length) (A : Option Addr) (c : Nat) : dats (S ++ [⟨(nth R S.length).d,A,c⟩]) = (dats R).take (S ++ [(⟨(nth R S.length).d,A,c⟩ : LE)]).length := by
  have h' : S.length < (dats R).length := by rw [dats_len];exact hs
  rw [dats_snoc,hd,List.length_append,List.length_singleton,List.take_succ_eq_append_getElem h']
  congr 2
  simp [dats,nthL R S.length hs]
end Go.Proofs.YtmfojbidojjciaaGreat
namespace Go.Proofs.YtmfojbidojjciaaGreat
end Go.Proofs.YtmfojbidojjciaaGreat
namespace Go.Proofs.YtmfojbidojjciaaGreat
open Go.RowKit
attribute [local irreducible] Calls
def lastK (last : Option ByteArray) : ByteArray := match last with
  | some k => k
  | none => ⟨#[]⟩
theorem seen_b (last : Option ByteArray) (q : ByteArray) : seenK last q = (last.isSome && sEq q (lastK last)) := by cases last <;> rfl
theorem vis_step (seq : Int) (last : Option ByteArray) {l : List Ent} {k : Nat} (hk : k < l.length) : vis seq last (l.drop k) = if (decide (seq < (nth l k).seq) || seenK last (nth l k).key) = true then vis seq last (l.drop (k + 1)) else if (nth l k).del = true then vis seq (some (nth l k).key) (l.drop (k + 1)) else kvE (nth l k) :: vis seq (some (nth l k).key) (l.drop (k + 1)) := by
  have e : nth l k = l[k] := by simp [nth,hk]
  rw [List.drop_eq_getElem_cons hk,vis,e]
structure ViS (l : List Ent) (seq : Int) where
  k : Nat
  M : List KV
  last : Option ByteArray
  B : Option Addr
  d : Nat
  hk : k ≤ l.length ∧ M.length ≤ k
  hm : M ++ vis seq last (l.drop k) = fVis l seq
theorem visible_c (A : Option Addr) (c : Nat) (l : List Ent) (seq : Int) (w : World) (h : Rd w A (fl l)) (hl : l.length ≤ 4194304) :
    Calls Tryz.prog 106 #[.slice A l.length c,.int .i64 seq] w fun e w' => ∃ y : Ys,e = .returned (.slice (y 0).A (fVis l seq).length (y 0).c) ∧ True ∧ Below w.heap.size w w' ∧ NewOk w.heap.size [.row 168 2 (y 0).A (fVis l seq).length (y 0).c (fl (fVis l seq))] [] w' := by
  refine ok_enter 44 Tryz.func106 rfl rfl rfl ?_
  repeat' (first|refine Wa ?_|refine Wb ?_|refine Wd ?_|(refine Zr 0 ?_;refine Za ?_;refine Ze2 0 1 ?_)|(refine Zr 1 ?_;refine Za ?_;refine Ze3 0 1 5 ?_)|(refine Zr 2 ?_;refine Za ?_;refine Za ?_;refine Ze5 0 1 5 6 7 ?_)|(refine Zr 3 ?_;refine Zm ?_;refine Zq (ps_len rfl rfl) ?_;refine Zm ?_;refine Ze7 1 5 6 7 10 11 12 ?_))
  refine ok_loop (ι := ViS l seq) (fun q => l.length - q.k) (fun q => ([(1,.int .i64 seq),(5,.slice q.B q.M.length q.d),(6,.string (lastK q.last)),(7,.bool q.last.isSome),(10,.slice A l.length c),(11,.int .i64 l.length),(12,.int .i64 q.k)],[.row 168 2 q.B q.M.length q.d (fl q.M)],_)) ⟨0,[],none,none,0,by simp,rfl⟩ (fun a w he hw => ⟨⟨0,[],none,none,0,by simp,rfl⟩,he.sub ⟨rfl,rfl,rfl,rfl,rfl,rfl,rfl,trivial⟩,hw.rowNil 168 2⟩) ?_
  rintro ⟨k,M,last,B,d,hk,hm⟩
  simp only at hk ⊢
  have HM := Lib.hid hm;clear hm
  repeat' (first|refine Wa ?_|refine Wb ?_|refine ok_then_exit ?_|refine Wd ?_|refine We ?_|refine ok_in_exit ?_|(refine ok_cond rfl (fun hc => ?_) (fun hc => ?_) <;> (have hd := hc;try simp only [jj] at hd))|refine Wg ?_|refine Wh ?_|refine Wi ?_|(refine Zr 4 ?_;refine Zi ?_;refine Ze8 1 5 6 7 10 11 12 13 ?_)|(refine Zr 5 ?_;refine Zq (by exact ps_indexN rfl rfl rfl (by omega) (by exact isw_of (isS_fl (by assumption) (by omega)))) ?_;refine Zq (by exact ps_loadsF (α := Ent) (l := l) (i := k) rfl rfl (rds_rf h List.mem_cons_self) rfl rfl (by omega) rfl) ?_;refine Zn (ms_alloc rfl) ?_;rintro y9 hy9;refine Zo (ms_store 0 rfl rfl rfl rfl rfl rfl rfl rfl) ?_;rintro y_ hy_;refine Ze8 1 5 6 7 9 10 11 12 ?_)|(refine Zr 6 ?_;refine Zf ?_;refine Zl 0 ?_;refine Zm ?_;refine Zi ?_;refine Zm ?_;refine Zg rfl rfl rfl (gF _) (fun hp => by exact ps_move rfl rfl) ?_;refine Zg rfl rfl rfl (gF _) (fun hp => by (exact ps_move rfl (Og rfl))) ?_;refine ok_pgg rfl rfl rfl rfl rfl (gT _) (fun hq hp hqp => by exact ps_field rfl rfl (isw_ga _)) ?_;refine ok_pgg rfl rfl rfl rfl rfl (gT _) (fun hq hp hqp => by (exact ps_load rfl (Og rfl) (by exact Rds.cell (rds_box 0 rfl) rfl))) ?_;refine ok_pgg rfl rfl rfl rfl rfl (gT _) (fun hq hp hqp => by exact ps_move rfl rfl) ?_;refine ok_pgg rfl rfl rfl rfl rfl (gT _) (fun hq hp hqp => by (exact ps_str rfl (Og rfl) (Og rfl) rfl)) ?_;refine Zg rfl rfl rfl (gF _) (fun hp => by exact ps_and_in (by assumption) rfl rfl rfl) ?_;refine Zq (ps_or rfl rfl rfl) ?_;refine Ze9 1 5 6 7 9 10 11 12 28 ?_)|(refine Zr 7 ?_;refine Zf ?_;refine Zl 0 ?_;refine Za ?_;refine Za ?_;refine Ze8 1 5 6 7 9 10 11 12 ?_)|(refine Zr 8 ?_;refine Zf ?_;refine Zl 0 ?_;refine Zq (ps_not rfl rfl) ?_;refine Ze9 1 5 6 7 9 10 11 12 33 ?_)|(refine Zr 9 ?_;refine Zm ?_;refine Zf ?_;refine Zl 0 ?_;refine Zf ?_;refine Zl 0 ?_;refine Zq (by exact ps_bld rfl (parts_cons rfl (parts_cons rfl parts_nil)) rfl) ?_;refine Zn (by exact ms_lit rfl (parts_cons rfl parts_nil) rfl rfl rfl) ?_;rintro y40 hy40;refine Zn (by exact ms_appF (α := KV) (L := M) (M := [kvE (nth l k)]) 2 rfl rfl rfl rfl (rds_row 0 rfl) rfl (by simp;omega) (by simp;omega)) ?_;rintro y41 hy41;refine Za ?_;refine Ze7 1 5 6 7 10 11 12 ?_)|(refine Zr 10 ?_;refine Zq (by exact ps_add rfl rfl rfl (by omega)) ?_;refine Zm ?_;refine Ze7 1 5 6 7 10 11 12 ?_)|(refine Zr 11 ?_;refine Zm ?_;refine Za ?_;refine Ze1 4 ?_))
  · refine fun a w' he hw => ⟨⟨k + 1,M,last,B,d,by omega,?_⟩,by simp only;omega,he.sub ⟨rfl,rfl,rfl,rfl,rfl,rfl,rfl,trivial⟩,hw.tl⟩
    rw [← HM.out,vis_step seq last (k := k) (by omega),seen_b,if_pos hc]
  · refine fun a w' he hw => ⟨⟨k + 1,M ++ [kvE (nth l k)],some (nth l k).key,(y41 0).A,(y41 0).c,by simp;omega,?_⟩,by simp only;omega,he.sub ⟨rfl,by simp only [List.length_append];rfl,rfl,rfl,rfl,rfl,rfl,trivial⟩,?_⟩
    · rename_i hq _
      rw [← HM.out,vis_step seq last (k := k) (by omega),seen_b,if_neg (by rw [hq];exact Bool.false_ne_true),if_neg (by rw [hd];exact Bool.false_ne_true),List.append_assoc];rfl
    · simp only [List.length_append]
      exact hw.tl.tl
  · refine fun a w' he hw => ⟨⟨k + 1,M,some (nth l k).key,B,d,by omega,?_⟩,by simp only;omega,he.sub ⟨rfl,rfl,rfl,rfl,rfl,rfl,rfl,trivial⟩,hw.tl⟩
    rename_i hq _
    rw [← HM.out,vis_step seq last (k := k) (by omega),seen_b,if_neg (by rw [hq];exact Bool.false_ne_true),if_pos hd]
  · have e : M = fVis l seq := by rw [← HM.out,List.drop_of_length_le (by omega)];simp [vis]
    rw [← e]
    exact ok_endL (vs := [_]) rfl ⟨rfl,trivial⟩ (fun w' hw => ⟨yl [⟨B,d,w',0⟩] ⟨B,d,w',0⟩,rfl,trivial,hw.below,NewOk.of (hw.sel [0] (by decide) rfl (G' := []) (fun _ h => by cases h))⟩)
theorem mrg_nil (O : List Ent) : mrg O [] = O := by cases O <;> rw [mrg]
theorem dropE {L : List Ent} {k : Nat} (h : k < L.length) : L.drop k = nth L k :: L.drop (k + 1) := by
  rw [List.drop_eq_getElem_cons h];simp [nth,h]
theorem mrg_in {O R : List Ent} {j k : Nat} (hj : j < O.length) (hk : k < R.length) (h : aheadE (nth R k) (nth O j) = true) : mrg (O.drop j) (R.drop k) = nth R k :: mrg (O.drop j) (R.drop (k + 1)) := by
  rw [dropE hj,dropE hk,mrg,if_pos h]
theorem mrg_out {O R : List Ent} {j k : Nat} (hj : j < O.length) (hk : k < R.length) (h : aheadE (nth R k) (nth O j) = false) (h2 : aheadE (nth O j) (nth R k) = true) : mrg (O.drop j) (R.drop k) = nth O j :: mrg (O.drop (j + 1)) (R.drop k) := by
  rw [dropE hj,dropE hk,mrg,if_neg (by rw [h];exact Bool.false_ne_true),if_pos h2]
theorem mrg_both {O R : List Ent} {j k : Nat} (hj : j < O.length) (hk : k < R.length) (h : aheadE (nth R k) (nth O j) = false) (h2 : aheadE (nth O j) (nth R k) = false) : mrg (O.drop j) (R.drop k) = nth O j :: mrg (O.drop (j + 1)) (R.drop (k + 1)) := by
  rw [dropE hj,dropE hk,mrg,if_neg (by rw [h];exact Bool.false_ne_true),if_neg (by rw [h2];exact Bool.false_ne_true)]
theorem mrg_end {O R : List Ent} {j k : Nat} (hj : j < O.length) (hk : ¬ k < R.length) : mrg (O.drop j) (R.drop k) = nth O j :: mrg (O.drop (j + 1)) (R.drop k) := by
  rw [List.drop_of_length_le (show R.length ≤ k by omega),mrg_nil,mrg_nil,dropE hj]
theorem merge_step {R : List LE} {i : Nat} (h : i < R.length) : mergeS ((dats R).take (i + 1)) = mrg (mergeS ((dats R).take i)) (nth R i).d := by
  have e : (dats R).take (i + 1) = (dats R).take i ++ [(nth R i).d] := by
    have hd : i < (dats R).length := by rw [dats_len];exact h
    rw [List.take_add_one,List.getElem?_eq_getElem hd]
    simp [dats,nth,h]
  unfold mergeS
  rw [e,List.foldl_append];rfl
theorem sum_mem : ∀ (L : List Nat) (x : Nat),x ∈ L → x ≤ L.sum
  | [],x,h => by cases h
  | a :: L,x,h => by
    rw [List.sum_cons]
    rcases List.mem_cons.1 h with rfl | h
    · omega
    · have := sum_mem L x h;omega
theorem l9Ents_t (A : Option Addr) (c : Nat) (l : List Ent) (w : World) (h : Rd w A (fl l)) (hl : l.length ≤ 4194304) (he : inOrd l = true) : Calls Tryz.prog 137 #[.slice A l.length c] w fun e w' => e = .returned (.bool true) ∧ Below w.heap.size w w' := by
  have := l9Ents_c A c l w h hl
  rw [he] at this;exact this
theorem offR_one {x : List (List Ent)} {m : Nat} (ht : ∀ k,offR List.length x k ≤ m) (l : List Ent) (hl : l ∈ x) : l.length ≤ m := by
  have h1 := ht x.length
  unfold offR at h1
  rw [List.take_length] at h1
  exact Nat.le_trans (sum_mem _ _ (List.mem_map.2 ⟨l,hl,rfl⟩)) h1
structure MgS (R : List LE) where
  i : Nat
  O : List Ent
  B : Option Addr
  d : Nat
  hi : i ≤ R.length
  hO : O = mergeS ((dats R).take i)
structure MgJ (O Q : List Ent) where
  j : Nat
  k : Nat
  M : List Ent
  B : Option Addr
  d : Nat
  hj : j ≤ O.length ∧ k ≤ Q.length ∧ M.length ≤ j + k
  hm : M ++ mrg (O.drop j) (Q.drop k) = mrg O Q
structure MgK (O Q : List Ent) (j : Nat) where
  k : Nat
  M : List Ent
  B : Option Addr
  d : Nat
  hj : k ≤ Q.length ∧ M.length ≤ j + k
  hm : M ++ mrg (O.drop j) (Q.drop k) = mrg O Q
theorem s_Merge_c (A : Option Addr) (c : Nat) (R : List LE) (w : World) (h : RdN w A R) (hl : R.length ≤ 4194304) (hs : ∀ l ∈ dats R,inOrd l = true) (ht : ∀ k,offR List.length (dats R) k ≤ 400) :
    Calls Tryz.prog 156 #[.slice A R.length c] w fun e w' => ∃ y : Ys,e = .returned (.slice (y 0).A (mergeS (dats R)).length (y 0).c) ∧ True ∧ Below w.heap.size w w' ∧ NewOk w.heap.size [.row 204 4 (y 0).A (mergeS (dats R)).length (y 0).c (fl (mergeS (dats R)))] [] w' := by
  obtain ⟨h1,h2⟩ := h
  have h2 : ∀ k,k < R.length → Rd w (nth R k).A (fl (nth R k).d) := h2
  have hz : ∀ k,k < R.length → inOrd (nth R k).d = true ∧ (nth R k).d.length ≤ 400 := fun k hk => ⟨hs _ (List.mem_map.2 ⟨_,nth_mem R k hk,rfl⟩),offR_one ht _ (List.mem_map.2 ⟨_,nth_mem R k hk,rfl⟩)⟩
  have ho : ∀ i,(mergeS ((dats R).take i)).length ≤ 400 := fun i => by
    have q1 := merge_len ((dats R).take i) []
    have q2 := catEnt_len (dats R) i
    have q3 := ht i
    have q4 : (mergeS ((dats R).take i)).length = (((dats R).take i).foldl mrg []).length := rfl
    simp only [List.length_nil] at q1
    omega
  have hn : ∀ i,i < R.length → offR List.length (dats R) (i + 1) = offR List.length (dats R) i + (nth R i).d.length := fun i hi => offEnt_succ R i hi
  have H2 := Lib.hid h2;clear h2
  have HZ := Lib.hid hz;clear hz
  have HO := Lib.hid ho;clear ho
  have HN := Lib.hid hn;clear hn
  have HT := Lib.hid ht;clear ht
  clear hs
  refine ok_enter 122 Tryz.func156 rfl rfl rfl ?_
  repeat' (first|refine Wa ?_|refine Wb ?_|refine Wd ?_|(refine Zr 0 ?_;refine Za ?_;refine Ze1 0 ?_)|(refine Zr 1 ?_;refine Zn (by exact ms_lit rfl parts_nil rfl rfl rfl) ?_;rintro y11 hy11;refine Za ?_;refine Ze2 0 3 ?_)|(refine Zr 2 ?_;refine Za ?_;refine Ze3 0 3 4 ?_))
  refine ok_loop (ι := MgS R) (fun q => R.length - q.i) (fun q => ([(0,.slice A R.length c),(3,.slice q.B q.O.length q.d),(4,.int .i64 q.i)],[.row 204 4 q.B q.O.length q.d (fl q.O)],_)) ⟨0,[],ga (y11 0).c,0,by omega,rfl⟩ (fun a w he hw => ⟨⟨0,[],ga (y11 0).c,0,by omega,rfl⟩,he.sub ⟨rfl,rfl,rfl,trivial⟩,hw⟩) ?_
  rintro ⟨i,O,B,d,hi,hO⟩
  simp only at hi ⊢
  have hol := HO.out i
  rw [← hO] at hol
  have HOE := Lib.hid hO;clear hO
  have hri := fun h => HZ.out i h
  have HRI := Lib.hid hri;clear hri
  refine ok_capE 0 rfl (fun hc0 => ?_)
  repeat' (first|refine Wa ?_|refine Wb ?_|refine Wc ?_|refine Wd ?_|refine Wf ?_|(refine ok_cond rfl (fun hc => ?_) (fun hc => ?_) <;> (have hd := hc;try simp only [jj] at hd))|refine Wg ?_|refine Wh ?_|refine Wi ?_|(refine Zr 3 ?_;refine Zm ?_;refine Zm ?_;refine Zq (ps_len rfl rfl) ?_;refine Zi ?_;refine Ze4 0 3 4 15 ?_)|(refine Zr 5 ?_;refine Zm ?_;refine Zm ?_;refine Zq (by exact ps_indexN rfl rfl rfl (by omega) (by exact isw_of (isS_fl (by assumption) (by omega)))) ?_;refine Zq (by exact ps_load rfl rfl (by exact Rds.cell (rds_rf (by assumption) List.mem_cons_self) (by exact fl_at0 _ _ (by omega) (by decide)))) ?_;refine Zn (by exact ms_s1 rfl rfl (fun _ _ w hw => l9Ents_t _ _ (nth R i).d w (rds_rf (H2.out i (by omega)) List.mem_cons_self _ _ w hw) (by have := (HRI.out (by omega)).2;omega) (HRI.out (by omega)).1)) ?_;rintro y22 hy22;refine Zq (ps_not rfl rfl) ?_;refine Zm ?_;refine Zg rfl rfl rfl (gF _) (fun hp => by exact ps_move rfl rfl) ?_;refine Zg rfl rfl rfl (gF _) (fun hp => by exact ps_move rfl rfl) ?_;refine Zg rfl rfl rfl (gF _) (fun hp => by (have hpd := hp;(try simp only [jj] at hpd);exact ps_indexN rfl (Og rfl) (Og rfl) (by omega) (by exact isw_of (isS_fl (by assumption) (by omega))))) ?_;refine Zg rfl rfl rfl (gF _) (fun hp => by (have hpd := hp;(try simp only [jj] at hpd);exact ps_load rfl (Og rfl) (by exact Rds.cell (rds_rf (by assumption) List.mem_cons_self) (by exact fl_at0 _ _ (by omega) (by decide))))) ?_;refine Zg rfl rfl rfl (gF _) (fun hp => by (exact ps_len rfl (Og rfl))) ?_;refine Zg rfl rfl rfl (gF _) (fun hp => by (exact ps_int rfl (Og rfl) rfl rfl)) ?_;refine Zq (ps_or rfl rfl rfl) ?_;refine Zm ?_;refine Zg rfl rfl rfl (gF _) (fun hp => by exact ps_move rfl rfl) ?_;refine Zg rfl rfl rfl (gF _) (fun hp => by (exact ps_len rfl (Og rfl))) ?_;refine Zg rfl rfl rfl (gF _) (fun hp => by (exact ps_int rfl (Og rfl) rfl rfl)) ?_;refine Zq (ps_or rfl rfl rfl) ?_;refine Ze4 0 3 4 36 ?_)|(refine Zr 6 ?_;refine Zn (by exact ms_lit rfl parts_nil rfl rfl rfl) ?_;rintro y37 hy37;refine Za ?_;refine Ze1 2 ?_)|(refine Zr 7 ?_;refine Zn (by exact ms_lit rfl parts_nil rfl rfl rfl) ?_;rintro y38 hy38;refine Zm ?_;refine Zm ?_;refine Zq (by exact ps_indexN rfl rfl rfl (by omega) (by exact isw_of (isS_fl (by assumption) (by omega)))) ?_;refine Zq (by exact ps_load rfl rfl (by exact Rds.cell (rds_rf (by assumption) List.mem_cons_self) (by exact fl_at0 _ _ (by omega) (by decide)))) ?_;refine Zn (by exact ms_app0 (M := (nth R i).d) 0 rfl rfl rfl rfl (rds_rf (H2.out i (by omega)) List.mem_cons_self) rfl (by have := (HRI.out (by omega)).2;omega) (by have := (HRI.out (by omega)).2;omega)) ?_;rintro y43 hy43;refine Za ?_;refine Ze4 0 3 4 5 ?_)|(refine Zr 8 ?_;refine Zn (by exact ms_lit rfl parts_nil rfl rfl rfl) ?_;rintro y44 hy44;refine Za ?_;refine Ze5 0 3 4 5 6 ?_)|(refine Zr 9 ?_;refine Za ?_;refine Ze6 0 3 4 5 6 7 ?_)|(refine Zr 10 ?_;refine Za ?_;refine Ze7 0 3 4 5 6 7 8 ?_)|(refine Zr 20 ?_;refine Za ?_;refine Ze3 0 3 9 ?_)|(refine Zr 21 ?_;refine Za ?_;refine Ze4 0 3 9 10 ?_))
  · exfalso
    have hx := (HRI.out (by omega)).2
    rcases hd with (h' | h') | h'
    · exact h'
    · exact absurd h' (by show ¬ ((400 : Int) < ((nth R i).d.length : Int));omega)
    · omega
  · have hql := (HRI.out (by omega)).2
    have hst : O = mergeS ((dats R).take i) → mergeS ((dats R).take (i + 1)) = mrg O (nth R i).d := fun e => by rw [merge_step (by omega),← e]
    have HST := Lib.hid hst;clear hst
    obtain ⟨Q,eQ⟩ : ∃ Q,Q = (nth R i).d := ⟨_,rfl⟩
    simp only [← eQ]
    rw [← eQ] at hql
    have EQ := Lib.hid eQ;clear eQ
    clear hc hd HRI
    have hql0 : Q.length ≤ 400 := hql
    refine ok_loop (ι := MgJ O Q) (fun q => O.length - q.j) (fun q => ([(0,.slice A R.length c),(3,.slice B O.length d),(4,.int .i64 i),(5,.slice (y43 0).A Q.length (y43 0).c),(6,.slice q.B q.M.length q.d),(7,.int .i64 q.k),(8,.int .i64 q.j)],[.row 204 4 q.B q.M.length q.d (fl q.M),.row 204 4 (y43 0).A Q.length (y43 0).c (fl Q),.row 204 4 B O.length d (fl O)],[w])) ⟨0,0,[],ga (y44 0).c,0,by simp,rfl⟩ (fun a w he hw => ⟨⟨0,0,[],ga (y44 0).c,0,by simp,rfl⟩,he.sub ⟨rfl,rfl,rfl,rfl,rfl,rfl,rfl,trivial⟩,hw⟩) ?_
    rintro ⟨j,k,M,C,e,hj,hm⟩
    simp only at hj ⊢
    have HM := Lib.hid hm;clear hm
    refine ok_capE 1 rfl (fun hc1 => ?_)
    repeat' (first|refine Wa ?_|refine Wb ?_|refine ok_then_exit ?_|refine Wd ?_|refine We ?_|refine ok_in_exit ?_|(refine ok_cond rfl (fun hc => ?_) (fun hc => ?_) <;> (have hd := hc;try simp only [jj] at hd))|refine Wh ?_|refine Wi ?_|(refine Zr 4 ?_;refine Zm ?_;refine Zq (by exact ps_add rfl rfl rfl (by omega)) ?_;refine Za ?_;refine Ze3 0 3 4 ?_)|(refine Zr 11 ?_;refine Zm ?_;refine Zm ?_;refine Zq (ps_len rfl rfl) ?_;refine Zi ?_;refine Ze8 0 3 4 5 6 7 8 48 ?_)|(refine Zr 19 ?_;refine Zm ?_;refine Zm ?_;refine Zm ?_;refine Zq (by exact ps_sliceE (l := k) rfl rfl rfl rfl (by omega) (by omega)) ?_;refine Zn (by exact ms_appN M (Q.drop k) 0 rfl rfl rfl rfl (rds_tail (rds_row 1 rfl) rfl (by omega) (by omega)) rfl rfl (by rw [List.length_drop]) (by omega) (by omega)) ?_;rintro y104 hy104;refine Za ?_;refine Ze3 0 3 4 ?_))
    · refine ok_loop (ι := MgK O Q j) (fun q => Q.length - q.k) (fun q => ([(0,.slice A R.length c),(3,.slice B O.length d),(4,.int .i64 i),(5,.slice (y43 0).A Q.length (y43 0).c),(6,.slice q.B q.M.length q.d),(7,.int .i64 q.k),(8,.int .i64 j)],[.row 204 4 q.B q.M.length q.d (fl q.M),.row 204 4 (y43 0).A Q.length (y43 0).c (fl Q),.row 204 4 B O.length d (fl O)],[w])) ⟨k,M,C,e,by omega,HM.out⟩ (fun a w he hw => ⟨⟨k,M,C,e,by omega,HM.out⟩,he.sub ⟨rfl,rfl,rfl,rfl,rfl,rfl,rfl,trivial⟩,hw⟩) ?_
      have hjo : j < O.length := by omega
      clear HM hj hd hc
      rintro ⟨k,M,C,e,hj,hm⟩
      simp only at hj ⊢
      have HM := Lib.hid hm;clear hm
      repeat' (first|refine Wa ?_|refine Wb ?_|refine Wd ?_|refine We ?_|(refine ok_cond rfl (fun hc => ?_) (fun hc => ?_) <;> (have hd := hc;try simp only [jj] at hd))|refine Wh ?_|refine Wi ?_|(refine Zr 12 ?_;refine Zm ?_;refine Zq (by exact ps_add rfl rfl rfl (by omega)) ?_;refine Za ?_;refine Ze7 0 3 4 5 6 7 8 ?_)|(refine Xd 13 15 ?_;refine Xm 0 ?_;refine Xm 1 ?_;refine Xt 2 rfl (ps_len rfl rfl) ?_;refine Xt 3 rfl (ps_int rfl rfl rfl rfl) ?_;refine Xm 4 ?_;refine Xg 5 rfl rfl rfl rfl (gT _) (fun hp => by exact ps_move rfl rfl) ?_;refine Xg 6 rfl rfl rfl rfl (gT _) (fun hp => by exact ps_move rfl rfl) ?_;refine Xg 7 rfl rfl rfl rfl (gT _) (fun hp => by (have hpd := hp;(try simp only [jj] at hpd);exact ps_indexN rfl (Og rfl) (Og rfl) (by omega) (by exact isw_row 1 rfl (by omega)))) ?_;refine Xg 8 rfl rfl rfl rfl (gT _) (fun hp => by (have hpd := hp;(try simp only [jj] at hpd);exact ps_loadsF (α := Ent) (l := Q) (i := k) rfl (Og rfl) (rds_row 1 rfl) rfl rfl (by omega) rfl)) ?_;refine Xg 9 rfl rfl rfl rfl (gT _) (fun hp => by exact ps_move rfl rfl) ?_;refine Xg 10 rfl rfl rfl rfl (gT _) (fun hp => by exact ps_move rfl rfl) ?_;refine Xg 11 rfl rfl rfl rfl (gT _) (fun hp => by (have hpd := hp;(try simp only [jj] at hpd);exact ps_indexN rfl (Og rfl) (Og rfl) (by omega) (by exact isw_row 2 rfl (by omega)))) ?_;refine Xg 12 rfl rfl rfl rfl (gT _) (fun hp => by (have hpd := hp;(try simp only [jj] at hpd);exact ps_loadsF (α := Ent) (l := O) (i := j) rfl (Og rfl) (rds_row 2 rfl) rfl rfl (by omega) rfl)) ?_;refine okT_one_g1 (i := 13) rfl rfl (by kernel_rfl) rfl rfl rfl rfl rfl (gT _) (fun hp => by (exact ms_s2 rfl (Og rfl) (Og rfl) (fun _ _ w hw => ahead_c (nth Q k) (nth O j) w))) (fun w h => by exact h) ?_;refine Xt 14 rfl (ps_and rfl rfl rfl) ?_;refine okT_done (by kernel_rfl) ?_;refine Ze8 0 3 4 5 6 7 8 65 ?_)|(refine Zr 14 ?_;refine Zm ?_;refine Zm ?_;refine Zm ?_;refine Zq (by exact ps_indexN rfl rfl rfl (by omega) (by exact isw_row 1 rfl (by omega))) ?_;refine Zq (by exact ps_loadsF (α := Ent) (l := Q) (i := k) rfl rfl (rds_row 1 rfl) rfl rfl (by omega) rfl) ?_;refine Zn (by exact ms_lit rfl (parts_cons rfl parts_nil) rfl rfl rfl) ?_;rintro y71 hy71;refine Zn (by exact ms_appF (α := Ent) (L := M) (M := [nth Q k]) 1 rfl rfl rfl rfl (rds_row 0 rfl) rfl (by simp;omega) (by simp;omega)) ?_;rintro y72 hy72;refine Za ?_;refine Ze7 0 3 4 5 6 7 8 ?_)|(refine Zr 15 ?_;refine Zm ?_;refine Zq (by exact ps_add rfl rfl rfl (by omega)) ?_;refine Za ?_;refine Ze7 0 3 4 5 6 7 8 ?_)|(refine Xd 16 16 ?_;refine Xm 0 ?_;refine Xm 1 ?_;refine Xt 2 rfl (ps_len rfl rfl) ?_;refine Xt 3 rfl (ps_int rfl rfl rfl rfl) ?_;refine Xm 4 ?_;refine Xg 5 rfl rfl rfl rfl (gT _) (fun hp => by exact ps_move rfl rfl) ?_;refine Xg 6 rfl rfl rfl rfl (gT _) (fun hp => by exact ps_move rfl rfl) ?_;refine Xg 7 rfl rfl rfl rfl (gT _) (fun hp => by (have hpd := hp;(try simp only [jj] at hpd);exact ps_indexN rfl (Og rfl) (Og rfl) (by omega) (by exact isw_row 2 rfl (by omega)))) ?_;refine Xg 8 rfl rfl rfl rfl (gT _) (fun hp => by (have hpd := hp;(try simp only [jj] at hpd);exact ps_loadsF rfl (Og rfl) (by exact rds_row 2 rfl) (by rfl) (by rfl) (by omega) rfl)) ?_;refine Xg 9 rfl rfl rfl rfl (gT _) (fun hp => by exact ps_move rfl rfl) ?_;refine Xg 10 rfl rfl rfl rfl (gT _) (fun hp => by exact ps_move rfl rfl) ?_;refine Xg 11 rfl rfl rfl rfl (gT _) (fun hp => by (have hpd := hp;(try simp only [jj] at hpd);exact ps_indexN rfl (Og rfl) (Og rfl) (by omega) (by exact isw_row 1 rfl (by omega)))) ?_;refine Xg 12 rfl rfl rfl rfl (gT _) (fun hp => by (have hpd := hp;(try simp only [jj] at hpd);exact ps_loadsF (α := Ent) (l := Q) (i := k) rfl (Og rfl) (rds_row 1 rfl) rfl rfl (by omega) rfl)) ?_;refine okT_one_g1 (i := 13) rfl rfl (by kernel_rfl) rfl rfl rfl rfl rfl (gT _) (fun hp => by (exact ms_s2 rfl (Og rfl) (Og rfl) (fun _ _ w hw => ahead_c (nth O j) (nth Q k) w))) (fun w h => by exact h) ?_;refine Xg 14 rfl rfl rfl rfl (gT _) (fun hp => by (exact ps_not rfl (Og rfl))) ?_;refine Xt 15 rfl (ps_and rfl rfl rfl) ?_;refine okT_done (by kernel_rfl) ?_;refine Ze8 0 3 4 5 6 7 8 90 ?_)|(refine Zr 17 ?_;refine Zm ?_;refine Zq (by exact ps_add rfl rfl rfl (by omega)) ?_;refine Za ?_;refine Ze7 0 3 4 5 6 7 8 ?_)|(refine Zr 18 ?_;refine Zm ?_;refine Zm ?_;refine Zm ?_;refine Zq (by exact ps_indexN rfl rfl rfl (by omega) (by exact isw_row 2 rfl (by omega))) ?_;refine Zq (by exact ps_loadsF (α := Ent) (l := O) (i := j) rfl rfl (rds_row 2 rfl) rfl rfl (by omega) rfl) ?_;refine Zn (by exact ms_lit rfl (parts_cons rfl parts_nil) rfl rfl rfl) ?_;rintro y98 hy98;refine Zn (by exact ms_appF (α := Ent) (L := M) (M := [nth O j]) 1 rfl rfl rfl rfl (rds_row 0 rfl) rfl (by simp;omega) (by simp;omega)) ?_;rintro y99 hy99;refine Za ?_;refine Ze7 0 3 4 5 6 7 8 ?_))
      · refine fun a w' he hw => ⟨⟨k + 1,M ++ [nth Q k],(y72 0).A,(y72 0).c,by simp;omega,?_⟩,by simp only;omega,he.sub ⟨rfl,rfl,rfl,rfl,by simp only [List.length_append];rfl,rfl,rfl,trivial⟩,?_⟩
        · rw [← HM.out,mrg_in hjo (by omega) hd.2,List.append_assoc];rfl
        · simp only [List.length_append];exact hw.tl
      · rename_i _ hq
        refine fun a w' he hw => ⟨⟨j + 1,k + 1,M ++ [nth O j],(y99 0).A,(y99 0).c,by simp;omega,?_⟩,by simp only;omega,he.sub ⟨rfl,rfl,rfl,rfl,by simp only [List.length_append];rfl,rfl,rfl,trivial⟩,?_⟩
        · have hq2 : aheadE (nth Q k) (nth O j) = false := by
            rcases hq with hq | hq
            · omega
            · exact hq
          rw [← HM.out,mrg_both hjo (by omega) hq2 hd.2,List.append_assoc];rfl
        · simp only [List.length_append];exact hw.tl
      · rename_i _ hq
        refine fun a w' he hw => ⟨⟨j + 1,k,M ++ [nth O j],(y99 0).A,(y99 0).c,by simp;omega,?_⟩,by simp only;omega,he.sub ⟨rfl,rfl,rfl,rfl,by simp only [List.length_append];rfl,rfl,rfl,trivial⟩,?_⟩
        · by_cases hk : k < Q.length
          · have hq2 : aheadE (nth Q k) (nth O j) = false := by
              rcases hq with hq | hq
              · omega
              · exact hq
            have hd2 : aheadE (nth O j) (nth Q k) = true := by
              rcases hd with hd | hd
              · omega
              · exact hd
            rw [← HM.out,mrg_out hjo hk hq2 hd2,List.append_assoc];rfl
          · rw [← HM.out,mrg_end hjo hk,List.append_assoc];rfl
        · simp only [List.length_append];exact hw.tl
    · have hln : (M ++ Q.drop k).length = M.length + (Q.length - k) := by rw [List.length_append,List.length_drop]
      refine fun a w' he hw => ⟨⟨i + 1,M ++ Q.drop k,(y104 0).A,(y104 0).c,by omega,?_⟩,by simp only;omega,he.sub ⟨rfl,by simp only [hln];rfl,rfl,trivial⟩,?_⟩
      · rw [HST.out HOE.out,← EQ.out,← HM.out,List.drop_of_length_le (show O.length ≤ j by omega),mrg]
      · simp only [hln];exact hw.sel [0] (by decide) rfl (fun _ h => h)
  · have hO : O = mergeS (dats R) := by
      have := HOE.out
      rw [show i = R.length by omega,← dats_len R,List.take_length] at this
      exact this
    refine ok_loop (ι := { k : Nat // k ≤ R.length }) (fun k => R.length - k.1) (fun k => ([(0,.slice A R.length c),(3,.slice B O.length d),(9,.int .i64 (offR List.length (dats R) k.1 : Int)),(10,.int .i64 k.1)],[.row 204 4 B O.length d (fl O)],[w])) ⟨0,by omega⟩ (fun a w he hw => ⟨⟨0,by omega⟩,he.sub ⟨rfl,rfl,rfl,rfl,trivial⟩,hw⟩) ?_
    rintro ⟨k,hk⟩
    simp only at hk ⊢
    have ht1 := HT.out (k + 1)
    have ht2 := HT.out k
    have hnk := fun h => HN.out k h
    have HNK := Lib.hid hnk;clear hnk
    repeat' (first|refine Wa ?_|refine Wb ?_|refine Wc ?_|refine Wd ?_|refine We ?_|(refine ok_cond rfl (fun hc => ?_) (fun hc => ?_) <;> (have hd := hc;try simp only [jj] at hd))|refine Wg ?_|refine Wh ?_|refine Wi ?_|(refine Zr 22 ?_;refine Zm ?_;refine Zm ?_;refine Zq (ps_len rfl rfl) ?_;refine Zi ?_;refine Ze5 0 3 9 10 108 ?_)|(refine Zr 23 ?_;refine Zm ?_;refine Zq (by exact ps_add rfl rfl rfl (by omega)) ?_;refine Za ?_;refine Ze4 0 3 9 10 ?_)|(refine Zr 24 ?_;refine Zm ?_;refine Zm ?_;refine Zm ?_;refine Zq (by exact ps_indexN rfl rfl rfl (by omega) (by exact isw_of (isS_fl (by assumption) (by omega)))) ?_;refine Zq (by exact ps_load rfl rfl (by exact Rds.cell (rds_rf (by assumption) List.mem_cons_self) (by exact fl_at0 _ _ (by omega) (by decide)))) ?_;refine Zq (ps_len rfl rfl) ?_;refine Zq (by exact ps_cast (v' := .int .i64 (offR List.length (dats R) (k + 1) : Int)) (ps_add (n := ((nth R k).d.length : Int)) rfl rfl rfl (by have := HNK.out (by omega);omega)) (by have := HNK.out (by omega);congr 1;omega)) ?_;refine Za ?_;refine Ze4 0 3 9 10 ?_)|(refine Zr 25 ?_;refine Zm ?_;refine Zi ?_;refine Ze2 3 119 ?_)|(refine Zr 26 ?_;refine Zn (by exact ms_lit rfl parts_nil rfl rfl rfl) ?_;rintro y120 hy120;refine Za ?_;refine Ze1 2 ?_)|(refine Zr 27 ?_;refine Zm ?_;refine Za ?_;refine Ze1 2 ?_))
    · exact fun a w' he hw => ⟨⟨k + 1,by omega⟩,by simp only;omega,he.sub ⟨rfl,rfl,rfl,rfl,trivial⟩,hw⟩
    · exfalso;omega
    · rw [← hO]
      exact ok_endL (vs := [_]) rfl ⟨rfl,trivial⟩ (fun w' hw => ⟨yl [⟨B,d,w',0⟩] ⟨B,d,w',0⟩,rfl,trivial,hw.below,NewOk.of (hw.sel [0] (by decide) rfl (G' := []) (fun _ h => by cases h))⟩)
def noE : Ent := ⟨⟨#[]⟩,0,false,⟨#[]⟩⟩
theorem l9Get_c (A : Option Addr) (c : Nat) (l : List Ent) (k : ByteArray) (seq : Int) (w : World) (h : Rd w A (fl l)) (hl : l.length ≤ 4194304) :
    Calls Tryz.prog 155 #[.slice A l.length c,.string k,.int .i64 seq] w fun e w' => e = .returned (.tuple #[.agg (Dat.cells ((getE l k seq).getD noE)).toArray,.bool (getE l k seq).isSome]) ∧ Below w.heap.size w w' := by
  refine ok_enter 36 Tryz.func155 rfl rfl rfl ?_
  repeat' (first|refine Wa ?_|refine Wb ?_|refine Wd ?_|(refine Zr 0 ?_;refine Zn (ms_alloc rfl) ?_;rintro y6 hy6;refine Za ?_;refine Ze4 0 1 2 6 ?_)|(refine Zr 1 ?_;refine Za ?_;refine Ze5 0 1 2 6 8 ?_))
  refine ok_loop (ι := { i : Nat // i ≤ l.length ∧ (l.drop i).find? (isK k seq) = getE l k seq }) (fun i => l.length - i.1) (fun i => ([(0,.slice A l.length c),(1,.string k),(2,.int .i64 seq),(6,pt (ga (y6 0).c) 0),(8,.int .i64 i.1)],_,_)) ⟨0,by omega,rfl⟩ (fun a w he hw => ⟨⟨0,by omega,rfl⟩,he.sub ⟨rfl,rfl,rfl,rfl,rfl,trivial⟩,hw⟩) ?_
  rintro ⟨i,hi,hf⟩
  simp only at hi ⊢
  have HF := Lib.hid hf;clear hf
  repeat' (first|refine Wa ?_|refine Wb ?_|refine Wc ?_|refine Wd ?_|refine We ?_|refine Wf ?_|(refine ok_cond rfl (fun hc => ?_) (fun hc => ?_) <;> (have hd := hc;try simp only [jj] at hd))|refine Wg ?_|refine Wh ?_|refine Wi ?_|(refine Zr 2 ?_;refine Zm ?_;refine Zm ?_;refine Zq (ps_len rfl rfl) ?_;refine Zi ?_;refine Ze6 0 1 2 6 8 12 ?_)|(refine Zr 3 ?_;refine Zm ?_;refine Zq (by exact ps_add rfl rfl rfl (by omega)) ?_;refine Za ?_;refine Ze5 0 1 2 6 8 ?_)|(refine Zr 4 ?_;refine Zm ?_;refine Zm ?_;refine Zq (by exact ps_indexN rfl rfl rfl (by omega) (by exact isw_of (isS_fl (by assumption) (by omega)))) ?_;refine Zq (by exact ps_field rfl rfl (by exact isw_of (isS_fl (by assumption) (by omega)))) ?_;refine Zq (by exact ps_load rfl rfl (by exact Rds.cell (rds_rf (by assumption) List.mem_cons_self) (by exact fl_at0 _ _ (by omega) (by decide)))) ?_;refine Zm ?_;refine Zq (ps_str rfl rfl rfl rfl) ?_;refine Zm ?_;refine Zg rfl rfl rfl (gT _) (fun hp => by exact ps_move rfl rfl) ?_;refine Zg rfl rfl rfl (gT _) (fun hp => by exact ps_move rfl rfl) ?_;refine Zg rfl rfl rfl (gT _) (fun hp => by (have hpd := hp;(try simp only [jj] at hpd);exact ps_indexN rfl (Og rfl) (Og rfl) (by omega) (by exact isw_of (isS_fl (by assumption) (by omega))))) ?_;refine Zg rfl rfl rfl (gT _) (fun hp => by (have hpd := hp;(try simp only [jj] at hpd);exact ps_field rfl (Og rfl) (by exact isw_of (isS_fl (by assumption) (by omega))))) ?_;refine Zg rfl rfl rfl (gT _) (fun hp => by (have hpd := hp;(try simp only [jj] at hpd);exact ps_load rfl (Og rfl) (by exact Rds.cell (rds_rf (by assumption) List.mem_cons_self) (by exact fl_at _ _ _ (by omega) (by decide))))) ?_;refine Zg rfl rfl rfl (gT _) (fun hp => by exact ps_move rfl rfl) ?_;refine Zg rfl rfl rfl (gT _) (fun hp => by (exact ps_int rfl (Og rfl) (Og rfl) rfl)) ?_;refine Zq (ps_and rfl rfl rfl) ?_;refine Ze6 0 1 2 6 8 30 ?_)|(refine Zr 5 ?_;refine Zm ?_;refine Zm ?_;refine Zq (by exact ps_indexN rfl rfl rfl (by omega) (by exact isw_of (isS_fl (by assumption) (by omega)))) ?_;refine Zq (by exact ps_loadsF (α := Ent) (l := l) (i := i) rfl rfl (rds_rf h List.mem_cons_self) rfl rfl (by omega) rfl) ?_;refine Zo (ms_store 0 rfl rfl rfl rfl rfl rfl rfl rfl) ?_;rintro y_ hy_;refine Za ?_;refine Ze2 6 7 ?_)|(refine Zr 6 ?_;refine Zq (by exact ps_bld rfl parts_nil rfl) ?_;refine Zo (ms_store 0 rfl rfl rfl rfl rfl rfl rfl rfl) ?_;rintro y_ hy_;refine Za ?_;refine Ze2 6 7 ?_))
  · have e : getE l k seq = some (nth l i) := by
      rw [← HF.out,dropE (by omega),List.find?_cons_of_pos]
      exact hc
    rw [e]
    exact ok_endL (vs := [_,_]) rfl ⟨⟨_,0,_,_,_,rfl,rfl,inferInstance,rfl,rfl⟩,rfl,trivial⟩ (fun w' hw => ⟨rfl,hw.below⟩)
  · have e : (l.drop (i + 1)).find? (isK k seq) = getE l k seq := by
      rw [← HF.out,dropE (show i < l.length by omega),List.find?_cons_of_neg]
      rw [show isK k seq (nth l i) = false from hc];exact Bool.false_ne_true
    exact fun a w' he hw => ⟨⟨i + 1,by omega,e⟩,by simp only;omega,he.sub ⟨rfl,rfl,rfl,rfl,rfl,trivial⟩,hw⟩
  · have e : getE l k seq = none := by rw [← HF.out,List.drop_of_length_le (by omega)];rfl
    rw [e]
    exact ok_endL (vs := [_,_]) rfl ⟨⟨_,0,_,_,_,rfl,rfl,inferInstance,rfl,rfl⟩,rfl,trivial⟩ (fun w' hw => ⟨rfl,hw.below⟩)
theorem str_one {l : List Ent} (hs : strE l) {a b : Ent} (ha : a ∈ l) (hb : b ∈ l) (hk : a.key = b.key) (hq : a.seq = b.seq) : a = b := by
  have hsm : sameE a b = true := by unfold sameE;rw [hk,hq,sEq_ref];simp
  have h1 := (find_str hs a).2 ha
  have h2 := (find_str hs b).2 hb
  have e : ∀ x,sameE a x = sameE b x := fun x => by
    cases h3 : sameE a x with
    | true => rw [same_trans hsm h3]
    | false =>
      cases h4 : sameE b x with
      | false => rfl
      | true =>
        have := same_trans (by rw [same_sym];exact hsm : sameE b a = true) h4
        rw [h3] at this;cases this
  rw [show sameE a = sameE b from funext e,h2] at h1
  cases h1;rfl
theorem pick_b (l : List Ent) (seq : Int) (x : Ent) : mapPick l seq x = ((getE l x.key seq).isSome && !((getE l x.key seq).getD noE).del && decide (((getE l x.key seq).getD noE).seq = x.seq)) := by
  unfold mapPick
  cases getE l x.key seq <;> simp
theorem pick_x {l : List Ent} (hs : strE l) {seq : Int} {x : Ent} (hx : x ∈ l) (h : mapPick l seq x = true) : (getE l x.key seq).getD noE = x := by
  unfold mapPick at h
  cases he : getE l x.key seq with
  | none => rw [he] at h;cases h
  | some e =>
    rw [he] at h
    simp only [Bool.and_eq_true,decide_eq_true_eq] at h
    have h1 := List.mem_of_find?_eq_some he
    have h2 := (isK_iff _ _ _).1 (List.find?_some he)
    exact str_one hs h1 hx h2.1 h.2
structure MpS (l : List Ent) (seq : Int) where
  i : Nat
  M : List KV
  B : Option Addr
  d : Nat
  hi : i ≤ l.length ∧ M.length ≤ i
  hm : M ++ ((l.drop i).filter (mapPick l seq)).map kvE = sMap l seq
theorem l9Map_c (A : Option Addr) (c : Nat) (l : List Ent) (seq : Int) (w : World) (h : Rd w A (fl l)) (hl : l.length ≤ 4194304) (hs : strE l) :
    Calls Tryz.prog 103 #[.slice A l.length c,.int .i64 seq] w fun e w' => ∃ y : Ys,e = .returned (.slice (y 0).A (sMap l seq).length (y 0).c) ∧ True ∧ Below w.heap.size w w' ∧ NewOk w.heap.size [.row 168 2 (y 0).A (sMap l seq).length (y 0).c (fl (sMap l seq))] [] w' := by
  have HS := Lib.hid hs;clear hs
  refine ok_enter 52 Tryz.func103 rfl rfl rfl ?_
  repeat' (first|refine Wa ?_|refine Wb ?_|refine Wd ?_|(refine Zr 0 ?_;refine Za ?_;refine Ze2 0 1 ?_)|(refine Zr 1 ?_;refine Zn (by exact ms_lit rfl parts_nil rfl rfl rfl) ?_;rintro y9 hy9;refine Za ?_;refine Ze3 0 1 5 ?_)|(refine Zr 2 ?_;refine Za ?_;refine Ze4 0 1 5 6 ?_))
  refine ok_loop (ι := MpS l seq) (fun q => l.length - q.i) (fun q => ([(0,.slice A l.length c),(1,.int .i64 seq),(5,.slice q.B q.M.length q.d),(6,.int .i64 q.i)],[.row 168 2 q.B q.M.length q.d (fl q.M)],_)) ⟨0,[],ga (y9 0).c,0,by simp,rfl⟩ (fun a w he hw => ⟨⟨0,[],ga (y9 0).c,0,by simp,rfl⟩,he.sub ⟨rfl,rfl,rfl,rfl,trivial⟩,hw⟩) ?_
  rintro ⟨i,M,B,d,hi,hm⟩
  simp only at hi ⊢
  have HM := Lib.hid hm;clear hm
  repeat' (first|refine Wa ?_|refine Wb ?_|refine Wd ?_|refine We ?_|(refine ok_cond rfl (fun hc => ?_) (fun hc => ?_) <;> (have hd := hc;try simp only [jj] at hd))|refine Wg ?_|refine Wh ?_|refine Wi ?_|(refine Zr 3 ?_;refine Zm ?_;refine Zm ?_;refine Zq (ps_len rfl rfl) ?_;refine Zi ?_;refine Ze5 0 1 5 6 13 ?_)|(refine Zr 4 ?_;refine Zm ?_;refine Zq (by exact ps_add rfl rfl rfl (by omega)) ?_;refine Za ?_;refine Ze4 0 1 5 6 ?_)|(refine Zr 5 ?_;refine Zm ?_;refine Zm ?_;refine Zm ?_;refine Zq (by exact ps_indexN rfl rfl rfl (by omega) (by exact isw_of (isS_fl (by assumption) (by omega)))) ?_;refine Zq (by exact ps_field rfl rfl (by exact isw_of (isS_fl (by assumption) (by omega)))) ?_;refine Zq (by exact ps_load rfl rfl (by exact Rds.cell (rds_rf (by assumption) List.mem_cons_self) (by exact fl_at0 _ _ (by omega) (by decide)))) ?_;refine Zm ?_;refine Zn (by exact ms_s3 rfl rfl rfl rfl (fun _ _ w hw => l9Get_c A c l (nth l i).key seq w (rds_rf h List.mem_cons_self _ _ w hw) hl)) ?_;rintro y24 hy24;refine Zm ?_;refine Zq (ps_extract rfl rfl rfl) ?_;refine Zq (ps_extract rfl rfl rfl) ?_;refine Zn (ms_alloc rfl) ?_;rintro y7 hy7;refine Zo (ms_store 0 rfl rfl rfl rfl rfl rfl rfl rfl) ?_;rintro y_ hy_;refine Za ?_;refine Ze6 0 1 5 6 7 8 ?_)|(refine Xd 6 16 ?_;refine Xm 0 ?_;refine Xm 1 ?_;refine Xg 2 rfl rfl rfl rfl (gT _) (fun hp => by exact ps_field rfl rfl (isw_ga _)) ?_;refine Xg 3 rfl rfl rfl rfl (gT _) (fun hp => by (exact ps_load rfl (Og rfl) (by exact Rds.cell (rds_box 0 rfl) rfl))) ?_;refine Xg 4 rfl rfl rfl rfl (gT _) (fun hp => by (exact ps_not rfl (Og rfl))) ?_;refine Xt 5 rfl (ps_and rfl rfl rfl) ?_;refine Xm 6 ?_;refine Xg 7 rfl rfl rfl rfl (gT _) (fun hp => by exact ps_field rfl rfl (isw_ga _)) ?_;refine Xg 8 rfl rfl rfl rfl (gT _) (fun hp => by (exact ps_load rfl (Og rfl) (by exact Rds.cell (rds_box 0 rfl) rfl))) ?_;refine Xg 9 rfl rfl rfl rfl (gT _) (fun hp => by exact ps_move rfl rfl) ?_;refine Xg 10 rfl rfl rfl rfl (gT _) (fun hp => by exact ps_move rfl rfl) ?_;refine Xg 11 rfl rfl rfl rfl (gT _) (fun hp => by (have hpd := hp;(try simp only [jj] at hpd);exact ps_indexN rfl (Og rfl) (Og rfl) (by omega) (by exact isw_of (isS_fl (by assumption) (by omega))))) ?_;refine Xg 12 rfl rfl rfl rfl (gT _) (fun hp => by (have hpd := hp;(try simp only [jj] at hpd);exact ps_field rfl (Og rfl) (by exact isw_of (isS_fl (by assumption) (by omega))))) ?_;refine Xg 13 rfl rfl rfl rfl (gT _) (fun hp => by (have hpd := hp;(try simp only [jj] at hpd);exact ps_load rfl (Og rfl) (by exact Rds.cell (rds_rf (by assumption) List.mem_cons_self) (by exact fl_at _ _ _ (by omega) (by decide))))) ?_;refine Xg 14 rfl rfl rfl rfl (gT _) (fun hp => by (exact ps_int rfl (Og rfl) (Og rfl) rfl)) ?_;refine Xt 15 rfl (ps_and rfl rfl rfl) ?_;refine okT_done (by kernel_rfl) ?_;refine Ze6 0 1 5 6 7 42 ?_)|(refine Zr 7 ?_;refine Zm ?_;refine Zf ?_;refine Zl 0 ?_;refine Zf ?_;refine Zl 0 ?_;refine Zq (by exact ps_bld rfl (parts_cons rfl (parts_cons rfl parts_nil)) rfl) ?_;refine Zn (by exact ms_lit rfl (parts_cons rfl parts_nil) rfl rfl rfl) ?_;rintro y49 hy49;refine Zn (by exact ms_appF (α := KV) (L := M) (M := [kvE ((getE l (nth l i).key seq).getD noE)]) 2 rfl rfl rfl rfl (rds_row 0 rfl) rfl (by simp;omega) (by simp;omega)) ?_;rintro y50 hy50;refine Za ?_;refine Ze4 0 1 5 6 ?_)|(refine Zr 8 ?_;refine Zm ?_;refine Za ?_;refine Ze1 4 ?_))
  · have hp : mapPick l seq (nth l i) = true := by rw [pick_b,← hc];rfl
    have ex : (getE l (nth l i).key seq).getD noE = nth l i := pick_x HS.out (nth_mem l i (by omega)) hp
    refine fun a w' he hw => ⟨⟨i + 1,M ++ [kvE ((getE l (nth l i).key seq).getD noE)],(y50 0).A,(y50 0).c,by simp;omega,?_⟩,by simp only;omega,he.sub ⟨rfl,rfl,by simp only [List.length_append];rfl,rfl,trivial⟩,?_⟩
    · rw [ex,← HM.out,dropE (show i < l.length by omega),List.filter_cons_of_pos hp,List.map_cons,List.append_assoc];rfl
    · simp only [List.length_append];exact hw.tl.tl
  · have hp : mapPick l seq (nth l i) = false := by rw [pick_b,← hc];rfl
    refine fun a w' he hw => ⟨⟨i + 1,M,B,d,by omega,?_⟩,by simp only;omega,he.sub ⟨rfl,rfl,rfl,rfl,trivial⟩,hw.tl⟩
    rw [← HM.out,dropE (show i < l.length by omega),List.filter_cons_of_neg (by rw [hp];exact Bool.false_ne_true)]
  · have e : sMap l seq = M := by rw [← HM.out,List.drop_of_length_le (by omega)];simp
    rw [e]
    exact ok_endL (vs := [_]) rfl ⟨rfl,trivial⟩ (fun w' hw => ⟨yl [⟨B,d,w',0⟩] ⟨B,d,w',0⟩,rfl,trivial,hw.below,NewOk.of (hw.sel [0] (by decide) rfl (G' := []) (fun _ h => by cases h))⟩)
theorem bytesF_step {l : List KV} {k : Nat} (h : k < l.length) : bytesF (l.take (k + 1)) = bytesF (l.take k) + ((nth l k).key.size + (nth l k).val.size : Int) := by
  rw [takeG h];unfold bytesF
  rw [List.map_append,List.sum_append];simp
theorem bytesF_le {l : List KV} (hs : ∀ k,k < l.length → (nth l k).key.size ≤ 1048576 ∧ (nth l k).val.size ≤ 1048576) : ∀ k,k ≤ l.length → 0 ≤ bytesF (l.take k) ∧ bytesF (l.take k) ≤ 2097152 * (k : Int)
  | 0,_ => by simp [bytesF]
  | k + 1,h => by
    have h1 := bytesF_le hs k (by omega)
    have h2 := hs k (by omega)
    rw [bytesF_step (by omega)]
    omega
theorem bytesOf_c (A : Option Addr) (c : Nat) (l : List KV) (w : World) (h : Rd w A (fl l)) (hl : l.length ≤ 4194304) (hs : ∀ k,k < l.length → (nth l k).key.size ≤ 1048576 ∧ (nth l k).val.size ≤ 1048576) :
    Calls Tryz.prog 56 #[.slice A l.length c] w fun e w' => e = .returned (.int .i64 (bytesF l)) ∧ Below w.heap.size w w' := by
  have hle := bytesF_le hs
  have hst := fun k (hk : k < l.length) => bytesF_step (l := l) (k := k) hk
  have HLE := Lib.hid hle;clear hle
  have HST := Lib.hid hst;clear hst
  have HS := Lib.hid hs;clear hs
  refine ok_enter 23 Tryz.func56 rfl rfl rfl ?_
  repeat' (first|refine Wa ?_|refine Wb ?_|refine Wd ?_|(refine Zr 0 ?_;refine Za ?_;refine Ze1 0 ?_)|(refine Zr 1 ?_;refine Za ?_;refine Ze2 0 3 ?_)|(refine Zr 2 ?_;refine Zm ?_;refine Zq (ps_len rfl rfl) ?_;refine Zm ?_;refine Ze4 3 6 7 8 ?_))
  refine ok_loop (ι := { k : Nat // k ≤ l.length }) (fun k => l.length - k.1) (fun k => ([(3,.int .i64 (bytesF (l.take k.1))),(6,.slice A l.length c),(7,.int .i64 l.length),(8,.int .i64 k.1)],[],_)) ⟨0,by omega⟩ (fun a w he hw => ⟨⟨0,by omega⟩,he.sub ⟨rfl,rfl,rfl,rfl,trivial⟩,hw⟩) ?_
  rintro ⟨k,hk⟩
  simp only at hk ⊢
  have h1 := HLE.out k hk
  repeat' (first|refine Wa ?_|refine Wb ?_|refine Wd ?_|refine We ?_|(refine ok_cond rfl (fun hc => ?_) (fun hc => ?_) <;> (have hd := hc;try simp only [jj] at hd))|refine Wg ?_|refine Wh ?_|refine Wi ?_|(refine Zr 3 ?_;refine Zi ?_;refine Ze5 3 6 7 8 9 ?_)|(refine Zr 4 ?_;refine Zq (by exact ps_indexN rfl rfl rfl (by omega) (by exact isw_of (isS_fl (by assumption) (by omega)))) ?_;refine Zq (by exact ps_loadsF rfl rfl (by exact rds_rf (by assumption) List.mem_cons_self) (by rfl) (by rfl) (by omega) rfl) ?_;refine Zn (ms_alloc rfl) ?_;rintro y5 hy5;refine Zo (ms_store 0 rfl rfl rfl rfl rfl rfl rfl rfl) ?_;rintro y_ hy_;refine Ze5 3 5 6 7 8 ?_)|(refine Zr 5 ?_;refine Zm ?_;refine Zf ?_;refine Zl 0 ?_;refine Zq (ps_slen rfl rfl) ?_;refine Zf ?_;refine Zl 0 ?_;refine Zq (ps_slen rfl rfl) ?_;refine Zq (by exact ps_add rfl rfl rfl (by have := HS.out k (by omega);omega)) ?_;refine Zq (by exact ps_add rfl rfl rfl (by have := HS.out k (by omega);omega)) ?_;refine Za ?_;refine Ze4 3 6 7 8 ?_)|(refine Zr 6 ?_;refine Zq (by exact ps_add rfl rfl rfl (by omega)) ?_;refine Zm ?_;refine Ze4 3 6 7 8 ?_)|(refine Zr 7 ?_;refine Zm ?_;refine Za ?_;refine Ze1 2 ?_))
  · exact fun a w' he hw => ⟨⟨k + 1,by omega⟩,by simp only;omega,he.sub ⟨by show some (Value.int .i64 _) = some (.int .i64 _);rw [HST.out k (by omega)],rfl,rfl,rfl,trivial⟩,hw.tl⟩
  · obtain rfl : k = l.length := by omega
    rw [List.take_length]
    exact ok_endL (vs := [_]) rfl ⟨rfl,trivial⟩ (fun w' hw => ⟨rfl,hw.below⟩)
theorem s_Bytes_c (A : Option Addr) (c : Nat) (l : List KV) (w : World) (h : Rd w A (fl l)) (hl : l.length ≤ 1048576) (hok : mapOk l = true) (hs : ∀ k,k < l.length → (nth l k).key.size ≤ 1048576 ∧ (nth l k).val.size ≤ 1048576) :
    Calls Tryz.prog 53 #[.slice A l.length c] w fun e w' => e = .returned (.int .i64 (bytesF l)) ∧ Below w.heap.size w w' := by
  have hle := bytesF_le hs
  have hst := fun k (hk : k < l.length) => bytesF_step (l := l) (k := k) hk
  have hm := fun w (hr : Rd w A (fl l)) => s_MapOk A c l w hr hl
  rw [hok] at hm
  have HM := Lib.hid hm;clear hm
  have HLE := Lib.hid hle;clear hle
  have HST := Lib.hid hst;clear hst
  have HS := Lib.hid hs;clear hs
  refine ok_enter 31 Tryz.func53 rfl rfl rfl ?_
  repeat' (first|refine Wa ?_|refine Wb ?_|refine Wd ?_|(refine Zr 0 ?_;refine Za ?_;refine Ze1 0 ?_)|(refine Zr 1 ?_;refine Za ?_;refine Ze2 0 3 ?_)|(refine Zr 2 ?_;refine Za ?_;refine Ze3 0 3 4 ?_))
  refine ok_loop (ι := { k : Nat // k ≤ l.length }) (fun k => l.length - k.1) (fun k => ([(0,.slice A l.length c),(3,.int .i64 (bytesF (l.take k.1))),(4,.int .i64 k.1)],[],_)) ⟨0,by omega⟩ (fun a w he hw => ⟨⟨0,by omega⟩,he.sub ⟨rfl,rfl,rfl,trivial⟩,hw⟩) ?_
  rintro ⟨k,hk⟩
  simp only at hk ⊢
  have h1 := HLE.out k hk
  repeat' (first|refine Wa ?_|refine Wb ?_|refine Wd ?_|refine We ?_|(refine ok_cond rfl (fun hc => ?_) (fun hc => ?_) <;> (have hd := hc;try simp only [jj] at hd))|refine Wg ?_|refine Wh ?_|refine Wi ?_|(refine Zr 3 ?_;refine Zm ?_;refine Zm ?_;refine Zq (ps_len rfl rfl) ?_;refine Zi ?_;refine Zm ?_;refine Zg rfl rfl rfl (gT _) (fun hp => by exact ps_move rfl rfl) ?_;refine Zh rfl rfl rfl (gT _) (fun hp => by (exact ms_s1 rfl (Og rfl) (fun _ _ w hw => HM.out w (rds_rf h List.mem_cons_self _ _ w hw)))) ?_;refine Zq (ps_and rfl rfl rfl) ?_;refine Ze4 0 3 4 12 ?_)|(refine Zr 4 ?_;refine Zm ?_;refine Zq (by exact ps_add rfl rfl rfl (by omega)) ?_;refine Za ?_;refine Ze3 0 3 4 ?_)|(refine Xd 5 16 ?_;refine Xm 0 ?_;refine Xm 1 ?_;refine Xm 2 ?_;refine Xt 3 rfl (by exact ps_indexN rfl rfl rfl (by omega) (by exact isw_of (isS_fl (by assumption) (by omega)))) ?_;refine Xt 4 rfl (by exact ps_field rfl rfl (by exact isw_of (isS_fl (by assumption) (by omega)))) ?_;refine Xt 5 rfl (by exact ps_load rfl rfl (by exact Rds.cell (rds_rf (by assumption) List.mem_cons_self) (by exact fl_at0 _ _ (by omega) (by decide)))) ?_;refine Xt 6 rfl (ps_slen rfl rfl) ?_;refine Xt 7 rfl (by exact ps_add rfl rfl rfl (by have := HS.out k (by omega);omega)) ?_;refine Xm 8 ?_;refine Xm 9 ?_;refine Xt 10 rfl (by exact ps_indexN rfl rfl rfl (by omega) (by exact isw_of (isS_fl (by assumption) (by omega)))) ?_;refine Xt 11 rfl (by exact ps_field rfl rfl (by exact isw_of (isS_fl (by assumption) (by omega)))) ?_;refine Xt 12 rfl (by exact ps_load rfl rfl (by exact Rds.cell (rds_rf (by assumption) List.mem_cons_self) (by exact fl_at _ _ _ (by omega) (by decide)))) ?_;refine Xt 13 rfl (ps_slen rfl rfl) ?_;refine Xt 14 rfl (by exact ps_add rfl rfl rfl (by have := HS.out k (by omega);omega)) ?_;refine Xt 15 rfl (ps_assign rfl rfl) ?_;refine okT_done (by kernel_rfl) ?_;refine Ze3 0 3 4 ?_)|(refine Zr 6 ?_;refine Zm ?_;refine Za ?_;refine Ze1 2 ?_))
  · exact fun a w' he hw => ⟨⟨k + 1,by omega⟩,by simp only;omega,he.sub ⟨rfl,by show some (Value.int .i64 _) = some (.int .i64 _);rw [HST.out k (by omega)];congr 2 <;> omega,rfl,trivial⟩,hw⟩
  · have hkk : k = l.length := by
      have h2 : ¬ (k : Int) < (l.length : Int) := by rcases hd with hd | hd <;> first | exact hd | cases hd
      omega
    subst hkk
    rw [List.take_length]
    exact ok_endL (vs := [_]) rfl ⟨rfl,trivial⟩ (fun w' hw => ⟨rfl,hw.below⟩)
theorem find_nth {α : Type} [Dat α] (p : α → Bool) : ∀ (l : List α) (k : Nat),k < l.length → p (nth l k) = true → (∀ j,j < k → p (nth l j) = false) → l.find? p = some (nth l k)
  | [],k,h,_,_ => absurd h (Nat.not_lt_zero k)
  | x :: l,0,_,hp,_ => by
    rw [List.find?_cons]
    have : p x = true := hp
    rw [this];rfl
  | x :: l,k + 1,h,hp,hn => by
    rw [List.find?_cons]
    have : p x = false := hn 0 (by omega)
    rw [this]
    exact find_nth p l k (by simpa using h) hp (fun j hj => hn (j + 1) (by omega))
theorem quo_at {l : List Share} {id : Int} {k : Nat} (hk : k < l.length) (h : (nth l k).ten = id) (hn : ∀ j,j < k → (nth l j).ten ≠ id) : quoF l id = some (nth l k).quo := by
  unfold quoF
  rw [find_nth (fun x : Share => decide (x.ten = id)) l k hk (by simpa using h) (fun j hj => by simpa using hn j hj)]
  rfl
theorem quo_none {l : List Share} {id : Int} (hn : ∀ j,j < l.length → (nth l j).ten ≠ id) : quoF l id = none := by
  unfold quoF
  rw [List.find?_eq_none.2]
  · rfl
  · intro x hx
    have := mem_nth (l := l) (p := fun x => x.ten ≠ id) hn x hx
    simpa using this
theorem quotaOf_c (sz : Int) (A : Option Addr) (c : Nat) (l : List Share) (id : Int) (w : World) (h : Rd w A (fl l)) (hl : l.length ≤ 4194304) :
    Calls Tryz.prog 55 #[.agg #[.int .i64 sz,.slice A l.length c],.int .i64 id] w fun e w' => e = .returned (.int .i64 ((quoF l id).getD 0)) ∧ Below w.heap.size w w' := by
  refine ok_enter 21 Tryz.func55 rfl rfl rfl ?_
  repeat' (first|refine Wa ?_|refine Wb ?_|refine Wd ?_|(refine Zr 0 ?_;refine Zn (ms_box rfl rfl rfl) ?_;rintro y2 hy2;refine Za ?_;refine Ze2 1 2 ?_)|(refine Zr 1 ?_;refine Zf ?_;refine Zl 0 ?_;refine Zq (ps_len rfl rfl) ?_;refine Zm ?_;refine Ze4 1 8 9 10 ?_))
  refine ok_loop (ι := { k : Nat // k ≤ l.length ∧ ∀ j,j < k → (nth l j).ten ≠ id }) (fun k => l.length - k.1) (fun k => ([(1,.int .i64 id),(8,.slice A l.length c),(9,.int .i64 l.length),(10,.int .i64 k.1)],[],_)) ⟨0,by omega,fun j h => absurd h (Nat.not_lt_zero j)⟩ (fun a w he hw => ⟨⟨0,by omega,fun j h => absurd h (Nat.not_lt_zero j)⟩,he.sub ⟨rfl,rfl,rfl,rfl,trivial⟩,hw.sel [] (by decide) rfl (fun _ h => h)⟩) ?_
  rintro ⟨k,hk,ha⟩
  simp only at hk ⊢
  have HA := Lib.hid ha;clear ha
  repeat' (first|refine Wa ?_|refine Wb ?_|refine Wc ?_|refine Wd ?_|refine We ?_|refine Wf ?_|(refine ok_cond rfl (fun hc => ?_) (fun hc => ?_) <;> (have hd := hc;try simp only [jj] at hd))|refine Wg ?_|refine Wh ?_|refine Wi ?_|(refine Zr 2 ?_;refine Zi ?_;refine Ze5 1 8 9 10 11 ?_)|(refine Zr 3 ?_;refine Zq (by exact ps_indexN rfl rfl rfl (by omega) (by exact isw_of (isS_fl (by assumption) (by omega)))) ?_;refine Zq (by exact ps_loadsF rfl rfl (by exact rds_rf (by assumption) List.mem_cons_self) (by rfl) (by rfl) (by omega) rfl) ?_;refine Zn (ms_alloc rfl) ?_;rintro y6 hy6;refine Zo (ms_store 0 rfl rfl rfl rfl rfl rfl rfl rfl) ?_;rintro y_ hy_;refine Ze5 1 6 8 9 10 ?_)|(refine Zr 4 ?_;refine Zf ?_;refine Zl 0 ?_;refine Zm ?_;refine Zi ?_;refine Ze6 1 6 8 9 10 17 ?_)|(refine Zr 5 ?_;refine Zf ?_;refine Zl 0 ?_;refine Za ?_;refine Ze1 4 ?_)|(refine Zr 6 ?_;refine Zq (by exact ps_add rfl rfl rfl (by omega)) ?_;refine Zm ?_;refine Ze4 1 8 9 10 ?_)|(refine Zr 7 ?_;refine Za ?_;refine Ze1 4 ?_))
  · rw [quo_at (by omega) hd HA.out]
    exact ok_endL (vs := [_]) rfl ⟨rfl,trivial⟩ (fun w' hw => ⟨rfl,hw.below⟩)
  · exact fun a w' he hw => ⟨⟨k + 1,by omega,fun j hj => by
      rcases Nat.lt_succ_iff_lt_or_eq.1 hj with h' | rfl
      · exact HA.out j h'
      · exact hd⟩,by simp only;omega,he.sub ⟨rfl,rfl,rfl,rfl,trivial⟩,hw.tl⟩
  · obtain rfl : k = l.length := by omega
    rw [quo_none HA.out]
    exact ok_endL (vs := [_]) rfl ⟨rfl,trivial⟩ (fun w' hw => ⟨rfl,hw.below⟩)
theorem l21Quota_c (sz : Int) (A : Option Addr) (c : Nat) (l : List Share) (id : Int) (w : World) (h : Rd w A (fl l)) (hl : l.length ≤ 4194304) :
    Calls Tryz.prog 52 #[.agg #[.int .i64 sz,.slice A l.length c],.int .i64 id] w fun e w' => e = .returned (.int .i64 ((quoF l id).getD (-1))) ∧ Below w.heap.size w w' := by
  refine ok_enter 27 Tryz.func52 rfl rfl rfl ?_
  repeat' (first|refine Wa ?_|refine Wb ?_|refine Wd ?_|(refine Zr 0 ?_;refine Zn (ms_box rfl rfl rfl) ?_;rintro y2 hy2;refine Za ?_;refine Ze2 1 2 ?_)|(refine Zr 1 ?_;refine Za ?_;refine Ze3 1 2 5 ?_))
  refine ok_loop (ι := { k : Nat // k ≤ l.length ∧ ∀ j,j < k → (nth l j).ten ≠ id }) (fun k => l.length - k.1) (fun k => ([(1,.int .i64 id),(2,pt (ga (y2 0).c) 0),(5,.int .i64 k.1)],_,_)) ⟨0,by omega,fun j h => absurd h (Nat.not_lt_zero j)⟩ (fun a w he hw => ⟨⟨0,by omega,fun j h => absurd h (Nat.not_lt_zero j)⟩,he.sub ⟨rfl,rfl,rfl,trivial⟩,hw⟩) ?_
  rintro ⟨k,hk,ha⟩
  simp only at hk ⊢
  have HA := Lib.hid ha;clear ha
  repeat' (first|refine Wa ?_|refine Wb ?_|refine Wc ?_|refine Wd ?_|refine We ?_|refine Wf ?_|(refine ok_cond rfl (fun hc => ?_) (fun hc => ?_) <;> (have hd := hc;try simp only [jj] at hd))|refine Wg ?_|refine Wh ?_|refine Wi ?_|(refine Zr 2 ?_;refine Zm ?_;refine Zf ?_;refine Zl 0 ?_;refine Zq (ps_len rfl rfl) ?_;refine Zi ?_;refine Ze4 1 2 5 10 ?_)|(refine Zr 3 ?_;refine Zm ?_;refine Zq (by exact ps_add rfl rfl rfl (by omega)) ?_;refine Za ?_;refine Ze3 1 2 5 ?_)|(refine Zr 4 ?_;refine Zf ?_;refine Zl 0 ?_;refine Zm ?_;refine Zq (by exact ps_indexN rfl rfl rfl (by omega) (by exact isw_of (isS_fl (by assumption) (by omega)))) ?_;refine Zq (by exact ps_field rfl rfl (by exact isw_of (isS_fl (by assumption) (by omega)))) ?_;refine Zq (by exact ps_load rfl rfl (by exact Rds.cell (rds_rf (by assumption) List.mem_cons_self) (by exact fl_at0 _ _ (by omega) (by decide)))) ?_;refine Zm ?_;refine Zi ?_;refine Ze4 1 2 5 20 ?_)|(refine Zr 5 ?_;refine Zf ?_;refine Zl 0 ?_;refine Zm ?_;refine Zq (by exact ps_indexN rfl rfl rfl (by omega) (by exact isw_of (isS_fl (by assumption) (by omega)))) ?_;refine Zq (by exact ps_field rfl rfl (by exact isw_of (isS_fl (by assumption) (by omega)))) ?_;refine Zq (by exact ps_load rfl rfl (by exact Rds.cell (rds_rf (by assumption) List.mem_cons_self) (by exact fl_at _ _ _ (by omega) (by decide)))) ?_;refine Za ?_;refine Ze1 4 ?_)|(refine Zr 6 ?_;refine Za ?_;refine Ze1 4 ?_))
  · rw [quo_at (by omega) hd HA.out]
    exact ok_endL (vs := [_]) rfl ⟨rfl,trivial⟩ (fun w' hw => ⟨rfl,hw.below⟩)
  · exact fun a w' he hw => ⟨⟨k + 1,by omega,fun j hj => by
      rcases Nat.lt_succ_iff_lt_or_eq.1 hj with h' | rfl
      · exact HA.out j h'
      · exact hd⟩,by simp only;omega,he.sub ⟨rfl,rfl,rfl,trivial⟩,hw⟩
  · obtain rfl : k = l.length := by omega
    rw [quo_none HA.out]
    exact ok_endL (vs := [_]) rfl ⟨rfl,trivial⟩ (fun w' hw => ⟨rfl,hw.below⟩)
theorem RdN_cons {w : World} {A B : Option Addr} {l : LE} {R : List LE} (h1 : Rd w A (fl (l :: R))) (h2 : Rd w l.A (fl l.d)) (h3 : RdN w B R) : RdN w A (l :: R) := ⟨h1,fun k hk => by
  rcases k with _ | k
  · exact h2
  · exact h3.2 k (by simpa using hk)⟩
theorem merged_n (A : Option Addr) (c : Nat) (R : List (Lc (List Ent))) (n : Nat) (hn : R.length = n) (w : World) (h : RdN w A R) (hl : R.length ≤ 4194304) (ht : ∀ k,offR List.length (dats R) k ≤ 4194304) (hs : ∀ l ∈ dats R,strE l) :
    Calls Tryz.prog 158 #[.slice A n c] w fun e w' => ∃ y : Ys,e = .returned (.slice (y 0).A (mergeS (dats R)).length (mergeS (dats R)).length) ∧ True ∧ Below w.heap.size w w' ∧ NewOk w.heap.size [.row 204 4 (y 0).A (mergeS (dats R)).length (y 0).c (fl (mergeS (dats R)))] [] w' := by
  subst hn;exact merged_c A c R w h hl ht hs
theorem all_c (A : Option Addr) (k : Nat) (us : List Value) (mA : Option Addr) (mc : Nat) (mem : List Ent) (tA : Option Addr) (tc : Nat) (R : List LE) (w : World) (hA : Rd w A us) (u0 : us[k]? = some (.slice mA mem.length mc)) (u1 : us[k + 1]? = some (.slice tA R.length tc)) (h1 : Rd w mA (fl mem)) (h2 : RdN w tA R) (hl2 : R.length ≤ 6) (ht : totE (mem :: dats R) ≤ 400) (hs : ∀ l ∈ mem :: dats R,strE l) :
    Calls Tryz.prog 107 #[pt A k] w fun e w' => ∃ y : Ys,e = .returned (.slice (y 0).A (mergeS (mem :: dats R)).length (mergeS (mem :: dats R)).length) ∧ True ∧ Below w.heap.size w w' ∧ NewOk w.heap.size [.row 204 4 (y 0).A (mergeS (mem :: dats R)).length (y 0).c (fl (mergeS (mem :: dats R)))] [] w' := by
  have H2 := Lib.hid h2;clear h2
  have HS := Lib.hid hs;clear hs
  have hto : ∀ q,offR List.length (mem :: dats R) q ≤ 4194304 := fun q => Nat.le_trans (tot_off _ q) (by omega)
  have HTO := Lib.hid hto;clear hto
  have hiA : IsS A := isS_rd hA (by have := (List.getElem?_eq_some_iff.1 u0).1;omega)
  refine ok_enter 14 Tryz.func107 rfl rfl rfl ?_
  repeat' (first|refine Wa ?_|refine Wb ?_|refine Wg ?_|(refine Zr 0 ?_;refine Za ?_;refine Ze1 0 ?_)|(refine Xd 1 12 ?_;refine Xm 0 ?_;refine Xt 1 rfl (by exact ps_nil rfl rfl (by exact isw_of (by assumption))) ?_;refine Xt 2 rfl (by exact ps_field rfl rfl (by exact isw_of (by assumption))) ?_;refine Xt 3 rfl (by exact ps_load rfl rfl (Rds.cell (rds_rf hA List.mem_cons_self) u0)) ?_;refine Xm 5 ?_;refine Xt 6 rfl (by exact ps_nil rfl rfl (by exact isw_of (by assumption))) ?_;refine Xt 7 rfl (by exact ps_field rfl rfl (by exact isw_of (by assumption))) ?_;refine Xt 8 rfl (by exact ps_load rfl rfl (Rds.cell (rds_rf hA List.mem_cons_self) u1)) ?_;refine Xo 4 rfl (by exact ms_lit rfl (parts_cons rfl parts_nil) rfl rfl rfl) (fun y w _ h => by exact h.tl) ?_;rintro y7 hy7;refine Xo 9 rfl (by exact ms_appF (α := LE) (L := [⟨mem,mA,mc⟩]) (M := R) 0 rfl rfl rfl rfl (rds_rf H2.out.1 List.mem_cons_self) rfl (by simp;omega) (by simp;omega)) (fun y w _ h => by exact h.tl) ?_;rintro y12 hy12;refine Xo 10 rfl (by exact ms_c1 rfl rfl (fun _ _ w hw => merged_n _ _ (⟨mem,mA,mc⟩ :: R) ([(⟨mem,mA,mc⟩ : LE)].length + R.length) (by simp;omega) w (RdN_cons (hw.row 0 rfl) (rds_rf h1 List.mem_cons_self _ _ w hw) (RdN.keep hw H2.out List.mem_cons_self)) (by simp;omega) HTO.out HS.out)) (fun y w _ h => by exact h.tl.tl) ?_;rintro y13 hy13;refine Xt 11 rfl (ps_assign rfl rfl) ?_;refine okT_done (by kernel_rfl) ?_;refine Ze1 2 ?_))
  exact ok_endL (vs := [_]) rfl ⟨rfl,trivial⟩ (fun w' hw => ⟨y13,rfl,trivial,hw.below,NewOk.of (hw.sel [0] (by decide) rfl (G' := []) (fun _ h => by cases h))⟩)
theorem all_len {e : DEng} (h : fEngOk e = true) : (allE e).length ≤ 400 := by
  have h1 := (eng_few h).2.2.1
  have h2 := merge_len (e.mem :: e.tabs) []
  have h3 : (allE e).length = ((e.mem :: e.tabs).foldl mrg []).length := rfl
  have h4 := catEnt_len (e.mem :: e.tabs) (e.mem :: e.tabs).length
  rw [List.take_length] at h4
  have h5 := tot_off (e.mem :: e.tabs) (e.mem :: e.tabs).length
  simp only [List.length_nil] at h2
  omega
theorem map_few {e : DEng} (h : fEngOk e = true) (seq : Int) : (mapE e seq).length ≤ 400 ∧ ∀ k,k < (mapE e seq).length → (nth (mapE e seq) k).key.size ≤ 1048576 ∧ (nth (mapE e seq) k).val.size ≤ 1048576 := by
  have h1 := all_len h
  have h2 := (eng_all h)
  have h3 : mapE e seq = sMap (allE e) seq := vis_same h2.1 seq
  rw [h3]
  unfold sMap
  refine ⟨by rw [List.length_map];exact Nat.le_trans (List.length_filter_le ..) h1,fun k hk => ?_⟩
  have hm := nth_mem _ k hk
  obtain ⟨x,hx,e1⟩ := List.mem_map.1 hm
  have h4 := entOk_kv (h2.2 x (List.mem_filter.1 hx).1)
  rw [← e1]
  refine ⟨?_,by omega⟩
  have := h4.1
  unfold kk at this
  rw [inB_true] at this
  omega
theorem mapOf_c (A : Option Addr) (k : Nat) (us : List Value) (id ep ba : Int) (mA : Option Addr) (mc : Nat) (mem : List Ent) (tA : Option Addr) (tc : Nat) (R : List LE) (seq : Int) (sn : List Int) (w : World) (hA : Rd w A us) (u0 : us[k + 3]? = some (.slice mA mem.length mc)) (u1 : us[k + 4]? = some (.slice tA R.length tc)) (u2 : us[k + 5]? = some (.int .i64 seq)) (h1 : Rd w mA (fl mem)) (h2 : RdN w tA R) (he : fEngOk ⟨mem,dats R,seq,sn⟩ = true) :
    Calls Tryz.prog 54 #[pt A k] w fun e w' => ∃ y : Ys,e = .returned (.slice (y 0).A (mapE ⟨mem,dats R,seq,sn⟩ seq).length (y 0).c) ∧ True ∧ Below w.heap.size w w' ∧ NewOk w.heap.size [.row 168 2 (y 0).A (mapE ⟨mem,dats R,seq,sn⟩ seq).length (y 0).c (fl (mapE ⟨mem,dats R,seq,sn⟩ seq))] [] w' := by
  have H2 := Lib.hid h2;clear h2
  have hiA : IsS A := isS_rd hA (by have := (List.getElem?_eq_some_iff.1 u0).1;omega)
  obtain ⟨f1,f2,f3,f4,f5,f6⟩ := eng_few he
  simp only [dats_len] at f1 f2 f3 f4 f5 f6
  have hst := eng_str he
  have hal := all_len he
  have HST := Lib.hid hst;clear hst
  have hae : allE ⟨mem,dats R,seq,sn⟩ = mergeS (mem :: dats R) := rfl
  rw [hae] at hal
  unfold mapE
  rw [hae]
  refine ok_enter 13 Tryz.func54 rfl rfl rfl ?_
  repeat' (first|refine Wa ?_|refine Wb ?_|refine Wg ?_|(refine Zr 0 ?_;refine Za ?_;refine Ze1 0 ?_)|(refine Xd 1 11 ?_;refine Xm 0 ?_;refine Xt 1 rfl (by exact ps_nil rfl rfl (by exact isw_of (by assumption))) ?_;refine Xt 2 rfl (by exact ps_field rfl rfl (by exact isw_of (by assumption))) ?_;refine Xm 4 ?_;refine Xt 5 rfl (by exact ps_nil rfl rfl (by exact isw_of (by assumption))) ?_;refine Xt 6 rfl (by exact ps_field rfl rfl (by exact isw_of (by assumption))) ?_;refine Xt 7 rfl (by exact ps_field rfl rfl (by exact isw_of (by assumption))) ?_;refine Xt 8 rfl (by exact ps_load rfl rfl (Rds.cell (rds_rf hA List.mem_cons_self) u2)) ?_;refine Xo 3 rfl (by exact ms_c1 rfl rfl (fun _ _ w hw => all_c A (k + 3) us mA mc mem tA tc R w (rds_rf hA List.mem_cons_self _ _ w hw) u0 u1 (rds_rf h1 List.mem_cons_self _ _ w hw) (RdN.keep hw H2.out List.mem_cons_self) f2 f3 HST.out)) (fun y w _ h => by exact h.tl) ?_;rintro y6 hy6;refine Xo 9 rfl (by exact ms_c2 rfl rfl rfl (fun _ _ w hw => visible_c (y6 0).A _ (mergeS (mem :: dats R)) seq w (hw.row 0 rfl) (by omega))) (fun y w _ h => by exact h.tl.tl) ?_;rintro y12 hy12;refine Xt 10 rfl (ps_assign rfl rfl) ?_;refine okT_done (by kernel_rfl) ?_;refine Ze1 2 ?_))
  exact ok_endL (vs := [_]) rfl ⟨rfl,trivial⟩ (fun w' hw => ⟨y12,rfl,trivial,hw.below,NewOk.of (hw.sel [0] (by decide) rfl (G' := []) (fun _ h => by cases h))⟩)
theorem s_Merge_n (A : Option Addr) (c : Nat) (R : List LE) (n : Nat) (hn : R.length = n) (w : World) (h : RdN w A R) (hl : R.length ≤ 4194304) (hs : ∀ l ∈ dats R,inOrd l = true) (ht : ∀ k,offR List.length (dats R) k ≤ 400) :
    Calls Tryz.prog 156 #[.slice A n c] w fun e w' => ∃ y : Ys,e = .returned (.slice (y 0).A (mergeS (dats R)).length (y 0).c) ∧ True ∧ Below w.heap.size w w' ∧ NewOk w.heap.size [.row 204 4 (y 0).A (mergeS (dats R)).length (y 0).c (fl (mergeS (dats R)))] [] w' := by
  subst hn;exact s_Merge_c A c R w h hl hs ht
theorem l20All0 (mA : Option Addr) (mc : Nat) (mem : List Ent) (tA : Option Addr) (tc : Nat) (R : List LE) (seq : Int) (sA : Option Addr) (sc : Nat) (sn : List Int) (w : World) (h1 : Rd w mA (fl mem)) (h2 : RdN w tA R) (hl2 : R.length ≤ 6) (ht : totE (mem :: dats R) ≤ 400) (hs : ∀ l ∈ mem :: dats R,inOrd l = true) :
    Calls Tryz.prog 104 #[.agg #[.slice mA mem.length mc,.slice tA R.length tc,.int .i64 seq,.slice sA sn.length sc]] w fun e w' => ∃ y : Ys,e = .returned (.slice (y 0).A (mergeS (mem :: dats R)).length (y 0).c) ∧ True ∧ Below w.heap.size w w' ∧ NewOk w.heap.size [.row 204 4 (y 0).A (mergeS (mem :: dats R)).length (y 0).c (fl (mergeS (mem :: dats R)))] [] w' := by
  have H2 := Lib.hid h2;clear h2
  have HS := Lib.hid hs;clear hs
  have hto : ∀ q,offR List.length (mem :: dats R) q ≤ 400 := fun q => Nat.le_trans (tot_off _ q) ht
  have HTO := Lib.hid hto;clear hto
  refine ok_enter 13 Tryz.func104 rfl rfl rfl ?_
  repeat' (first|refine Wa ?_|refine Wb ?_|refine Wg ?_|(refine Zr 0 ?_;refine Zn (ms_box rfl rfl rfl) ?_;rintro y1 hy1;refine Za ?_;refine Ze1 1 ?_)|(refine Zr 1 ?_;refine Zf ?_;refine Zl 0 ?_;refine Zn (by exact ms_lit rfl (parts_cons rfl parts_nil) rfl rfl rfl) ?_;rintro y6 hy6;refine Za ?_;refine Ze2 1 3 ?_)|(refine Zr 2 ?_;refine Zm ?_;refine Zf ?_;refine Zl 1 ?_;refine Zn (by exact ms_appF (α := LE) (L := [⟨mem,mA,mc⟩]) (M := R) 0 rfl rfl rfl rfl (rds_rf H2.out.1 List.mem_cons_self) rfl (by simp;omega) (by simp;omega)) ?_;rintro y10 hy10;refine Za ?_;refine Ze1 3 ?_)|(refine Zr 3 ?_;refine Zm ?_;refine Zn (by exact ms_c1 rfl rfl (fun _ _ w hw => s_Merge_n _ _ (⟨mem,mA,mc⟩ :: R) ([(⟨mem,mA,mc⟩ : LE)].length + R.length) (by simp;omega) w (RdN_cons (hw.row 0 rfl) (rds_rf h1 List.mem_cons_self _ _ w hw) (RdN.keep hw H2.out List.mem_cons_self)) (by simp;omega) HS.out HTO.out)) ?_;rintro y12 hy12;refine Za ?_;refine Ze1 2 ?_))
  exact ok_endL (vs := [_]) rfl ⟨rfl,trivial⟩ (fun w' hw => ⟨y12,rfl,trivial,hw.below,NewOk.of (hw.sel [0] (by decide) rfl (G' := []) (fun _ h => by cases h))⟩)
theorem engMap0 (mA : Option Addr) (mc : Nat) (mem : List Ent) (tA : Option Addr) (tc : Nat) (R : List LE) (seq : Int) (sA : Option Addr) (sc : Nat) (sn : List Int) (q : Int) (w : World) (h1 : Rd w mA (fl mem)) (h2 : RdN w tA R) (h3 : Rd w sA (fl sn)) (he : fEngOk ⟨mem,dats R,seq,sn⟩ = true) :
    Calls Tryz.prog 51 #[.agg #[.slice mA mem.length mc,.slice tA R.length tc,.int .i64 seq,.slice sA sn.length sc],.int .i64 q] w fun e w' => ∃ y : Ys,e = .returned (.slice (y 0).A (mapE ⟨mem,dats R,seq,sn⟩ q).length (y 0).c) ∧ True ∧ Below w.heap.size w w' ∧ NewOk w.heap.size [.row 168 2 (y 0).A (mapE ⟨mem,dats R,seq,sn⟩ q).length (y 0).c (fl (mapE ⟨mem,dats R,seq,sn⟩ q))] [] w' := by
  have H2 := Lib.hid h2;clear h2
  obtain ⟨f1,f2,f3,f4,f5,f6⟩ := eng_few he
  simp only [dats_len] at f1 f2 f3 f4 f5 f6
  have hod := eng_ord he
  have hal := all_len he
  have hst := (eng_all he).1
  have hsm := (eng_small he).2
  have hae : allE ⟨mem,dats R,seq,sn⟩ = mergeS (mem :: dats R) := rfl
  rw [hae] at hal hst
  have hvs := vis_same hst q
  unfold mapE
  rw [hae,hvs]
  have hok := fun w a b c => s_EngOk0 mA mc mem tA tc R seq sA sc sn w a b c (by omega) (by omega) hsm (by omega)
  rw [he] at hok
  have HOK := Lib.hid hok;clear hok
  have HOD := Lib.hid hod;clear hod
  have HST := Lib.hid hst;clear hst
  clear hsm hvs
  refine ok_enter 13 Tryz.func51 rfl rfl rfl ?_
  repeat' (first|refine Wa ?_|refine Wb ?_|(refine ok_cond rfl (fun hc => ?_) (fun hc => ?_) <;> (have hd := hc;try simp only [jj] at hd))|refine Wg ?_|refine Wi ?_|(refine Zr 0 ?_;refine Zn (ms_box rfl rfl rfl) ?_;rintro y2 hy2;refine Za ?_;refine Ze2 1 2 ?_)|(refine Zr 1 ?_;refine Zq (by exact ps_loads rfl rfl (by exact rds_box 0 rfl) rfl rfl (by decide)) ?_;refine Zn (by exact ms_s1 rfl rfl (fun _ _ w hw => HOK.out w (rds_rf h1 List.mem_cons_self _ _ w hw) (RdN.keep hw H2.out List.mem_cons_self) (rds_rf h3 List.mem_cons_self _ _ w hw))) ?_;rintro y6 hy6;refine Zq (ps_not rfl rfl) ?_;refine Ze3 1 2 7 ?_)|(refine Zr 3 ?_;refine Zq (by exact ps_loads rfl rfl (by exact rds_box 0 rfl) rfl rfl (by decide)) ?_;refine Zn (by exact ms_c1 rfl rfl (fun _ _ w hw => l20All0 mA mc mem tA tc R seq sA sc sn w (rds_rf h1 List.mem_cons_self _ _ w hw) (RdN.keep hw H2.out List.mem_cons_self) f2 f3 HOD.out)) ?_;rintro y10 hy10;refine Zm ?_;refine Zn (by exact ms_c2 rfl rfl rfl (fun _ _ w hw => l9Map_c (y10 0).A (y10 0).c (mergeS (mem :: dats R)) q w (hw.row 0 rfl) (by omega) HST.out)) ?_;rintro y12 hy12;refine Za ?_;refine Ze1 4 ?_))
  all_goals first
    | (exfalso;simp at hc;done)
    | exact ok_endL (vs := [_]) rfl ⟨rfl,trivial⟩ (fun w' hw => ⟨y12,rfl,trivial,hw.below,NewOk.of (hw.sel [0] (by decide) rfl (G' := []) (fun _ h => by cases h))⟩)
instance : OneC Account := ⟨fun x u hu => by
  have : u = .int .i64 x.ten ∨ u = .int .i64 x.quo ∨ u = .int .i64 x.byt ∨ u = .int .i64 x.keys ∨ u = .int .i64 x.rows := by simpa [Dat.cells] using hu
  rcases this with rfl | rfl | rfl | rfl | rfl <;> rfl⟩
structure AcI (n : Nat) where
  k : Nat
  A : Option Addr
  c : Nat
  hk : k ≤ n
theorem i_Accounts0 (sec mk : ByteArray) (kA : Option Addr) (kc : Nat) (slots : List KeySlot) (wi ssz : Int) (shA : Option Addr) (shc : Nat) (shl : List Share) (tnA : Option Addr) (tnc : Nat) (tens : List LTen) (rA : Option Addr) (rc : Nat) (rows : List LogRow) (hA : Option Addr) (hcc : Nat) (hist : List LogRow) (bo : Int)
    (w : World) (hk : Rd w kA (fl slots)) (hsh : Rd w shA (fl shl)) (ht : Rd w tnA (fl tens)) (htr : tensRd w tens) (hr : Rd w rA (fl rows)) (hl0 : slots.length ≤ 4194304) (hl1 : shl.length ≤ 4194304) (hl2 : tens.length ≤ 4194304) (hl3 : rows.length ≤ 4194304) (hl4 : hist.length ≤ 4194304) (htx : ∀ k,k < rows.length → (nth rows k).txt.size ≤ 4194304) (hsm : ∀ k,k < tens.length → tenSm (nth tens k)) :
    Calls Tryz.prog 14 #[.agg #[.string sec,.string mk,.slice kA slots.length kc,.int .i64 wi,.int .i64 ssz,.slice shA shl.length shc,.slice tnA tens.length tnc,.slice rA rows.length rc,.slice hA hist.length hcc,.int .i64 bo]] w fun e w' => ∃ y : Ys,e = .returned (.slice (y 0).A (fAccounts ⟨sec,⟨mk,slots,wi⟩,⟨ssz,shl⟩,tens.map LTen.d,rows,hist,bo⟩).length (y 0).c) ∧ True ∧ Below w.heap.size w w' ∧ NewOk w.heap.size [.row 56 5 (y 0).A (fAccounts ⟨sec,⟨mk,slots,wi⟩,⟨ssz,shl⟩,tens.map LTen.d,rows,hist,bo⟩).length (y 0).c (fl (fAccounts ⟨sec,⟨mk,slots,wi⟩,⟨ssz,shl⟩,tens.map LTen.d,rows,hist,bo⟩))] [] w' := by
  have HTX := Lib.hid htx;clear htx
  have HSM := Lib.hid hsm;clear hsm
  have HTR := Lib.hid htr;clear htr
  refine ok_enter 49 Tryz.func14 rfl rfl rfl ?_
  repeat' ((fail_if_success (refine at_reg 3 ?_));first
    | refine Wa ?_
    | refine Wb ?_
    | refine Wc ?_
    | refine Wd ?_
    | (refine ok_cond rfl (fun hc => ?_) (fun hc => ?_) <;> (have hd := hc;try simp only [jj] at hd))
    | refine Wg ?_
    | refine Wi ?_
    | (refine Zr 0 ?_;refine Zn (ms_box rfl rfl rfl) ?_;rintro y1 hy1;refine Za ?_;refine Ze1 1 ?_)
    | (refine Zr 1 ?_;refine Zq (by exact ps_loads rfl rfl (by exact rds_box 0 rfl) rfl rfl (by decide)) ?_;refine Zn (by exact ms_s1 rfl rfl (fun _ _ w hw => i_StoreOk0 sec mk kA kc slots wi ssz shA shc shl tnA tnc tens rA rc rows hA hcc hist bo w (rds_rf hk List.mem_cons_self _ _ w hw) (rds_rf hsh List.mem_cons_self _ _ w hw) (rds_rf ht List.mem_cons_self _ _ w hw) (HTR.out.le (hw.wle List.mem_cons_self)) (rds_rf hr List.mem_cons_self _ _ w hw) hl0 hl1 hl2 hl3 hl4 HTX.out HSM.out)) ?_;rintro y8 hy8;refine Zq (ps_not rfl rfl) ?_;refine Ze2 1 9 ?_)
    | (refine Zr 2 ?_;refine Za ?_;refine Ze1 2 ?_)
    | (refine Zr 3 ?_;refine Za ?_;refine Ze2 1 3 ?_)
    | (refine Zr 4 ?_;refine Zf ?_;refine Zl 0 ?_;refine Zq (ps_len rfl rfl) ?_;refine Zm ?_;refine Ze4 1 3 12 13 ?_))
  · have e : fAccounts ⟨sec,⟨mk,slots,wi⟩,⟨ssz,shl⟩,tens.map LTen.d,rows,hist,bo⟩ = [] := by unfold fAccounts;rw [if_neg (by rw [hd];decide)]
    rw [e]
    exact ok_endL (vs := [_]) rfl ⟨rfl,trivial⟩ (fun w' hw => ⟨mkY none 0 w',rfl,trivial,hw.below,NewOk.of ((hw.sel [] (by decide) rfl (G' := []) (fun _ h => by cases h)).rowNil 56 5)⟩)
  obtain ⟨D,hD⟩ : ∃ D : DStore,D = ⟨sec,⟨mk,slots,wi⟩,⟨ssz,shl⟩,tens.map LTen.d,rows,hist,bo⟩ := ⟨_,rfl⟩
  rw [← hD] at hd ⊢
  have e : fAccounts D = tens.map fun t => accF D t.d := by unfold fAccounts;rw [if_pos hd,hD,List.map_map];rfl
  rw [e]
  have heng : ∀ k,k < tens.length → fEngOk (nth tens k).e.d = true := fun k hk => by
    have := (store_ten hd (i := k) (by rw [hD];simpa using hk)).2.2
    rw [show D.tens = tens.map LTen.d by rw [hD],tenD_map tens k hk] at this
    exact ten_eng this
  have hacc : ∀ k,accF D (nth tens k).d = ⟨(nth tens k).id,(quoF shl (nth tens k).id).getD 0,bytesF (mapE (nth tens k).e.d (nth tens k).e.seq),((mapE (nth tens k).e.d (nth tens k).e.seq).length : Int),((rowsF rows (nth tens k).id).length : Int)⟩ := fun k => by rw [hD];rfl
  have hlen := (store_len hd).2.2.1
  rw [hD] at hlen
  simp only [List.length_map] at hlen
  have hst : ∀ k,k < tens.length → (tens.take (k + 1)).map (fun t => accF D t.d) = (tens.take k).map (fun t => accF D t.d) ++ [accF D (nth tens k).d] := fun k hk => by rw [takeG hk,List.map_append];rfl
  have HE := Lib.hid heng;clear heng
  have HAC := Lib.hid hacc;clear hacc
  have HST := Lib.hid hst;clear hst
  clear hD e hc hd
  refine ok_loop (ι := AcI tens.length) (fun q => tens.length - q.k) (fun q => ([(1,pt (ga (y1 0).c) 0),(3,.slice q.A ((tens.take q.k).map fun t => accF D t.d).length q.c),(12,.int .i64 tens.length),(13,.int .i64 q.k)],[.row 56 5 q.A ((tens.take q.k).map fun t => accF D t.d).length q.c (fl ((tens.take q.k).map fun t => accF D t.d)),.box (y1 0).c 43 [.string sec,.string mk,.slice kA slots.length kc,.int .i64 wi,.int .i64 ssz,.slice shA shl.length shc,.slice tnA tens.length tnc,.slice rA rows.length rc,.slice hA hist.length hcc,.int .i64 bo]],_)) ⟨0,none,0,by omega⟩ (fun a w he hw => ⟨⟨0,none,0,by omega⟩,he.sub ⟨rfl,rfl,rfl,rfl,trivial⟩,hw.rowNil 56 5⟩) ?_
  rintro ⟨k,B,d,hk2⟩
  simp only at hk2 ⊢
  have hLl : ((tens.take k).map fun t => accF D t.d).length = k := by rw [List.length_map,List.length_take];omega
  generalize hL : ((tens.take k).map fun t => accF D t.d) = L at hLl ⊢
  have HL := Lib.hid hL;clear hL
  have hrd : k < tens.length → Rd w (nth tens k).e.mem.A (fl (nth tens k).e.mem.l) ∧ RdN w (nth tens k).e.tab.A (nth tens k).e.tab.l ∧ Rd w (nth tens k).e.snaps.A (fl (nth tens k).e.snaps.l) := fun h => ⟨(HTR.out k h).mem,(HTR.out k h).tab,(HTR.out k h).snaps⟩
  have HRD := Lib.hid hrd;clear hrd
  have hus : k < tens.length → ∀ j,j < 7 → (fl tens)[k * 7 + j]? = (Dat.cells (nth tens k))[j]? := fun h j hj => fl_at tens k j h hj
  have HUS := Lib.hid hus;clear hus
  have hmf : k < tens.length → (mapE (nth tens k).e.d (nth tens k).e.seq).length ≤ 400 ∧ ∀ j,j < (mapE (nth tens k).e.d (nth tens k).e.seq).length → (nth (mapE (nth tens k).e.d (nth tens k).e.seq) j).key.size ≤ 1048576 ∧ (nth (mapE (nth tens k).e.d (nth tens k).e.seq) j).val.size ≤ 1048576 := fun h => map_few (HE.out k h) _
  have HMF := Lib.hid hmf;clear hmf
  repeat' (first|refine Wa ?_|refine Wb ?_|refine Wd ?_|(refine ok_cond rfl (fun hc => ?_) (fun hc => ?_) <;> (have hd := hc;try simp only [jj] at hd))|refine Wg ?_|refine Wh ?_|refine Wi ?_|(refine Zr 5 ?_;refine Zi ?_;refine Ze5 1 3 12 13 14 ?_)|(refine Zr 6 ?_;refine Zm ?_;refine Za ?_;refine Ze5 1 3 4 12 13 ?_)|(refine Zr 7 ?_;refine Zf ?_;refine Zl 1 ?_;refine Zm ?_;refine Zq (by exact ps_indexN rfl rfl rfl (by omega) (isw_of (isS_fl ht (by omega)))) ?_;refine Za ?_;refine Ze5 1 3 5 12 13 ?_)|(refine Zr 8 ?_;refine Zm ?_;refine Zn (by exact ms_c1 rfl rfl (fun _ _ w hw => mapOf_c tnA (k * 7) (fl tens) (nth tens k).id (nth tens k).ep (nth tens k).ba (nth tens k).e.mem.A (nth tens k).e.mem.c (nth tens k).e.mem.l (nth tens k).e.tab.A (nth tens k).e.tab.c (nth tens k).e.tab.l (nth tens k).e.seq (nth tens k).e.snaps.l w (rds_rf ht List.mem_cons_self _ _ w hw) (HUS.out (by omega) 3 (by decide)) (HUS.out (by omega) 4 (by decide)) (HUS.out (by omega) 5 (by decide)) (rds_rf (HRD.out (by omega)).1 List.mem_cons_self _ _ w hw) (RdN.keep hw (HRD.out (by omega)).2.1 List.mem_cons_self) (HE.out k (by omega)))) ?_;rintro y21 hy21;refine Za ?_;refine Ze6 1 3 5 6 12 13 ?_)|(refine Zr 11 ?_;refine Zm ?_;refine Za ?_;refine Ze1 2 ?_))
  · have hak : accF D (nth tens k).d = ⟨(nth tens k).id,(quoF shl (nth tens k).id).getD 0,bytesF (mapE ⟨(nth tens k).e.mem.l,dats (nth tens k).e.tab.l,(nth tens k).e.seq,(nth tens k).e.snaps.l⟩ (nth tens k).e.seq),((mapE ⟨(nth tens k).e.mem.l,dats (nth tens k).e.tab.l,(nth tens k).e.seq,(nth tens k).e.snaps.l⟩ (nth tens k).e.seq).length : Int),((rowsF rows (nth tens k).id).length : Int)⟩ := HAC.out k
    have hm2 : (mapE ⟨(nth tens k).e.mem.l,dats (nth tens k).e.tab.l,(nth tens k).e.seq,(nth tens k).e.snaps.l⟩ (nth tens k).e.seq).length ≤ 400 ∧ ∀ j,j < (mapE ⟨(nth tens k).e.mem.l,dats (nth tens k).e.tab.l,(nth tens k).e.seq,(nth tens k).e.snaps.l⟩ (nth tens k).e.seq).length → (nth (mapE ⟨(nth tens k).e.mem.l,dats (nth tens k).e.tab.l,(nth tens k).e.seq,(nth tens k).e.snaps.l⟩ (nth tens k).e.seq) j).key.size ≤ 1048576 ∧ (nth (mapE ⟨(nth tens k).e.mem.l,dats (nth tens k).e.tab.l,(nth tens k).e.seq,(nth tens k).e.snaps.l⟩ (nth tens k).e.seq) j).val.size ≤ 1048576 := HMF.out (by omega)
    generalize mapE ⟨(nth tens k).e.mem.l,dats (nth tens k).e.tab.l,(nth tens k).e.seq,(nth tens k).e.snaps.l⟩ (nth tens k).e.seq = M at hak hm2 ⊢
    obtain ⟨hm2,hm3⟩ := hm2
    have HM3 := Lib.hid hm3;clear hm3
    have HAK := Lib.hid hak;clear hak
    have hrl := rowsF_le rows (nth tens k).id
    repeat' (first|refine Wb ?_|refine We ?_|(refine ok_draw (id := 9) 26 rfl (by kernel_rfl) (by kernel_rfl) rfl (by repeat (first | exact pq_body | refine pq_then ?_ | refine pq_in ?_)) [0,2] (by decide) rfl ?_;refine Xm 0 ?_;refine Xm 1 ?_;refine Xt 2 rfl (by exact ps_nil rfl rfl (by exact isw_of (isS_fl (by assumption) (by omega)))) ?_;refine Xt 3 rfl (by exact ps_field rfl rfl (by exact isw_of (isS_fl (by assumption) (by omega)))) ?_;refine Xt 4 rfl (by exact ps_load rfl rfl (by exact Rds.cell (rds_rf (by assumption) List.mem_cons_self) (by exact fl_at0 _ _ (by omega) (by decide)))) ?_;refine Xf 5 ?_;refine Xt 6 rfl (by exact ps_loads rfl rfl (by exact rds_box 1 rfl) rfl rfl (by decide)) ?_;refine Xm 7 ?_;refine Xt 8 rfl (by exact ps_nil rfl rfl (by exact isw_of (isS_fl (by assumption) (by omega)))) ?_;refine Xt 9 rfl (by exact ps_field rfl rfl (by exact isw_of (isS_fl (by assumption) (by omega)))) ?_;refine Xt 10 rfl (by exact ps_load rfl rfl (by exact Rds.cell (rds_rf (by assumption) List.mem_cons_self) (by exact fl_at0 _ _ (by omega) (by decide)))) ?_;refine Xm 12 ?_;refine Xm 14 ?_;refine Xt 15 rfl (ps_len rfl rfl) ?_;refine Xm 16 ?_;refine Xt 17 rfl (by exact ps_nil rfl rfl (by exact isw_of (isS_fl (by assumption) (by omega)))) ?_;refine Xt 18 rfl (by exact ps_field rfl rfl (by exact isw_of (isS_fl (by assumption) (by omega)))) ?_;refine Xt 19 rfl (by exact ps_load rfl rfl (by exact Rds.cell (rds_rf (by assumption) List.mem_cons_self) (by exact fl_at0 _ _ (by omega) (by decide)))) ?_;refine Xo 11 rfl (by exact ms_s2 rfl rfl rfl (fun _ _ w hw => quotaOf_c ssz shA shc shl (nth tens k).id w (rds_rf hsh List.mem_cons_self _ _ w hw) hl1)) (fun y w _ h => by exact h.sel [0,2] (by decide) rfl (fun _ h => h)) ?_;rintro y33 hy33;refine Xo 13 rfl (by exact ms_s1 rfl rfl (fun _ _ w hw => bytesOf_c (y21 0).A (y21 0).c M w (hw.row 0 rfl) (by omega) HM3.out)) (fun y w _ h => by exact h.sel [0,2] (by decide) rfl (fun _ h => h)) ?_;rintro y35 hy35;refine Xo 20 rfl (by exact ms_c2 rfl rfl rfl (fun _ _ w hw => rowsOf_c (y1 0).c [.string sec,.string mk,.slice kA slots.length kc,.int .i64 wi,.int .i64 ssz,.slice shA shl.length shc,.slice tnA tens.length tnc,.slice rA rows.length rc,.slice hA hist.length hcc,.int .i64 bo] rA rc rows (nth tens k).id w (rds_box 2 rfl _ _ w hw) rfl (rds_rf hr List.mem_cons_self _ _ w hw) hl3)) (fun y w _ h => by exact h.tl.sel [0,2] (by decide) rfl (fun _ h => h)) ?_;rintro y42 hy42;refine Xt 21 rfl (ps_len rfl rfl) ?_;refine Xt 22 rfl (by exact ps_bld rfl (parts_cons rfl (parts_cons rfl (parts_cons rfl (parts_cons rfl (parts_cons rfl parts_nil))))) rfl) ?_;refine Xo 23 rfl (by exact ms_lit rfl (parts_cons rfl parts_nil) rfl rfl rfl) (fun y w _ h => by exact h.tl.tl.sel [0,2] (by decide) rfl (fun _ h => h)) ?_;rintro y45 hy45;refine Xo 24 rfl (by exact ms_appF (α := Account) (L := L) (M := [⟨(nth tens k).id,(quoF shl (nth tens k).id).getD 0,bytesF M,(M.length : Int),((rowsF rows (nth tens k).id).length : Int)⟩]) 3 rfl rfl rfl rfl (rds_row 0 rfl) rfl (by simp;omega) (by simp;omega)) (fun y w _ h => by exact h.tl.tl.sel [0,2] (by decide) rfl (fun _ h => h)) ?_;rintro y46 hy46;refine Xt 25 rfl (ps_assign rfl rfl) ?_;refine okT_done (by kernel_rfl) ?_;refine Ze4 1 3 12 13 ?_)|(refine Zr 10 ?_;refine Zq (by exact ps_add rfl rfl rfl (by omega)) ?_;refine Zm ?_;refine Ze4 1 3 12 13 ?_))
    have e2 : (tens.take (k + 1)).map (fun t => accF D t.d) = L ++ [⟨(nth tens k).id,(quoF shl (nth tens k).id).getD 0,bytesF M,(M.length : Int),((rowsF rows (nth tens k).id).length : Int)⟩] := by rw [HST.out k (by omega),HL.out,HAK.out]
    refine fun a w' he hw => ⟨⟨k + 1,(y46 0).A,(y46 0).c,by omega⟩,by simp only;omega,he.sub ⟨rfl,by simp only [e2,List.length_append];rfl,rfl,rfl,trivial⟩,?_⟩
    simp only [e2,List.length_append]
    exact hw.sel [3,4] (by decide) rfl (fun _ h => h)
  · have hkk : k = tens.length := by omega
    subst hkk
    have hL2 := HL.out
    rw [List.take_length] at hL2
    rw [hL2]
    exact ok_endL (vs := [_]) rfl ⟨rfl,trivial⟩ (fun w' hw => ⟨mkY B d w',rfl,trivial,hw.below,NewOk.of (hw.sel [0] (by decide) rfl (G' := []) (fun _ h => by cases h))⟩)
theorem s_Accounts0 (sec mk : ByteArray) (kA : Option Addr) (kc : Nat) (slots : List KeySlot) (wi ssz : Int) (shA : Option Addr) (shc : Nat) (shl : List Share) (tnA : Option Addr) (tnc : Nat) (tens : List LTen) (rA : Option Addr) (rc : Nat) (rows : List LogRow) (hA : Option Addr) (hcc : Nat) (hist : List LogRow) (bo : Int)
    (w : World) (hk : Rd w kA (fl slots)) (hsh : Rd w shA (fl shl)) (ht : Rd w tnA (fl tens)) (htr : tensRd w tens) (hr : Rd w rA (fl rows)) (hl0 : slots.length ≤ 4194304) (hl1 : shl.length ≤ 4194304) (hl2 : tens.length ≤ 4194304) (hl3 : rows.length ≤ 4194304) (hl4 : hist.length ≤ 4194304) (htx : ∀ k,k < rows.length → (nth rows k).txt.size ≤ 4194304) (hsm : ∀ k,k < tens.length → tenSm (nth tens k)) :
    Calls Tryz.prog 13 #[.agg #[.string sec,.string mk,.slice kA slots.length kc,.int .i64 wi,.int .i64 ssz,.slice shA shl.length shc,.slice tnA tens.length tnc,.slice rA rows.length rc,.slice hA hist.length hcc,.int .i64 bo]] w fun e w' => ∃ y : Ys,e = .returned (.slice (y 0).A (fAccounts ⟨sec,⟨mk,slots,wi⟩,⟨ssz,shl⟩,tens.map LTen.d,rows,hist,bo⟩).length (y 0).c) ∧ True ∧ Below w.heap.size w w' ∧ NewOk w.heap.size [.row 56 5 (y 0).A (fAccounts ⟨sec,⟨mk,slots,wi⟩,⟨ssz,shl⟩,tens.map LTen.d,rows,hist,bo⟩).length (y 0).c (fl (fAccounts ⟨sec,⟨mk,slots,wi⟩,⟨ssz,shl⟩,tens.map LTen.d,rows,hist,bo⟩))] [] w' := by
  have HTX := Lib.hid htx;clear htx
  have HSM := Lib.hid hsm;clear hsm
  have HTR := Lib.hid htr;clear htr
  obtain ⟨D,hD⟩ : ∃ D : DStore,D = ⟨sec,⟨mk,slots,wi⟩,⟨ssz,shl⟩,tens.map LTen.d,rows,hist,bo⟩ := ⟨_,rfl⟩
  have hso := fun w a b c d e => s_StoreOk0 sec mk kA kc slots wi ssz shA shc shl tnA tnc tens rA rc rows hA hcc hist bo w a b c d e hl0 hl1 hl2 hl3 hl4 HTX.out HSM.out
  rw [← hD] at hso ⊢
  have e1 : fStoreOk D = true → fAccounts D = tens.map fun t => accF D t.d := fun hd => by unfold fAccounts;rw [if_pos hd,hD,List.map_map];rfl
  have e0 : fStoreOk D = false → fAccounts D = [] := fun hd => by unfold fAccounts;rw [if_neg (by rw [hd];decide)]
  have hten : fStoreOk D = true → ∀ k,k < tens.length → fTenOk D (nth tens k).d = true := fun hd k hk => by
    have := (store_ten hd (i := k) (by rw [hD];simpa using hk)).2.2
    rw [show D.tens = tens.map LTen.d by rw [hD],tenD_map tens k hk] at this
    exact this
  have hquo : fStoreOk D = true → ∀ k,k < tens.length → (quoF shl (nth tens k).id).getD (-1) = (quoF shl (nth tens k).id).getD 0 := fun hd k hk => by
    obtain ⟨q,hq⟩ := store_quo hd (i := k) (by rw [hD];simpa using hk)
    rw [show D.tens = tens.map LTen.d by rw [hD],tenD_map tens k hk,show D.shares.list = shl by rw [hD]] at hq
    have hq' : quoF shl (nth tens k).id = some q := hq
    rw [hq'];rfl
  have hacc : fStoreOk D = true → ∀ k,k < tens.length → accF D (nth tens k).d = ⟨(nth tens k).id,(quoF shl (nth tens k).id).getD (-1),bytesF (mapE ⟨(nth tens k).e.mem.l,dats (nth tens k).e.tab.l,(nth tens k).e.seq,(nth tens k).e.snaps.l⟩ (nth tens k).e.seq),((mapE ⟨(nth tens k).e.mem.l,dats (nth tens k).e.tab.l,(nth tens k).e.seq,(nth tens k).e.snaps.l⟩ (nth tens k).e.seq).length : Int),(nth tens k).e.seq - (nth tens k).ba⟩ := fun hd k hk => by
    have h1 := (ten_rows (hten hd k hk)).1
    rw [hquo hd k hk]
    have h2 : ((rowsF D.rows (nth tens k).id).length : Int) = (nth tens k).e.seq - (nth tens k).ba := h1
    rw [← h2,hD];rfl
  have hmp : fStoreOk D = true → ∀ k,k < tens.length → fEngOk ⟨(nth tens k).e.mem.l,dats (nth tens k).e.tab.l,(nth tens k).e.seq,(nth tens k).e.snaps.l⟩ = true ∧ ((0 ≤ (nth tens k).ba ∧ (nth tens k).ba ≤ 1000000) ∧ (0 ≤ (nth tens k).e.seq ∧ (nth tens k).e.seq ≤ 1000000)) := fun hd k hk => by
    have h1 := hten hd k hk
    have h2 : fEngOk (nth tens k).e.d = true := ten_eng h1
    have h3 := (eng_few h2).2.2.2.2
    unfold fTenOk at h1
    simp only [Bool.and_eq_true,inB_true] at h1
    exact ⟨h2,h1.1.1.1.2,h3⟩
  have hlen : fStoreOk D = true → tens.length ≤ 4 := fun hd => by
    have := (store_len hd).2.2.1
    rw [hD] at this
    simpa using this
  have hst : ∀ k,k < tens.length → (tens.take (k + 1)).map (fun t => accF D t.d) = (tens.take k).map (fun t => accF D t.d) ++ [accF D (nth tens k).d] := fun k hk => by rw [takeG hk,List.map_append];rfl
  have HSO := Lib.hid hso;clear hso
  have HAC := Lib.hid hacc;clear hacc
  have HST := Lib.hid hst;clear hst
  have HMP := Lib.hid hmp;clear hmp
  have HLN := Lib.hid hlen;clear hlen
  have E1 := Lib.hid e1;clear e1
  have E0 := Lib.hid e0;clear e0
  clear hD hten hquo
  refine ok_enter 52 Tryz.func13 rfl rfl rfl ?_
  repeat' (first|refine Wa ?_|refine Wb ?_|refine Wd ?_|(refine Zr 0 ?_;refine Zn (ms_box rfl rfl rfl) ?_;rintro y1 hy1;refine Za ?_;refine Ze1 1 ?_)|(refine Zr 1 ?_;refine Zn (by exact ms_lit rfl parts_nil rfl rfl rfl) ?_;rintro y7 hy7;refine Za ?_;refine Ze2 1 3 ?_)|(refine Zr 2 ?_;refine Za ?_;refine Ze3 1 3 4 ?_))
  refine ok_loop (ι := { q : AcI tens.length // fStoreOk D = false → q.k = 0 }) (fun q => tens.length - q.1.k) (fun q => ([(1,pt (ga (y1 0).c) 0),(3,.slice q.1.A ((tens.take q.1.k).map fun t => accF D t.d).length q.1.c),(4,.int .i64 q.1.k)],[.row 56 5 q.1.A ((tens.take q.1.k).map fun t => accF D t.d).length q.1.c (fl ((tens.take q.1.k).map fun t => accF D t.d)),.box (y1 0).c 43 [.string sec,.string mk,.slice kA slots.length kc,.int .i64 wi,.int .i64 ssz,.slice shA shl.length shc,.slice tnA tens.length tnc,.slice rA rows.length rc,.slice hA hist.length hcc,.int .i64 bo]],_)) ⟨⟨0,ga (y7 0).c,0,by omega⟩,fun _ => rfl⟩ (fun a w he hw => ⟨⟨⟨0,ga (y7 0).c,0,by omega⟩,fun _ => rfl⟩,he.sub ⟨rfl,rfl,rfl,trivial⟩,hw⟩) ?_
  rintro ⟨⟨k,B,d,hk2⟩,hk0⟩
  simp only at hk2 hk0 ⊢
  have hLl : ((tens.take k).map fun t => accF D t.d).length = k := by rw [List.length_map,List.length_take];omega
  generalize hL : ((tens.take k).map fun t => accF D t.d) = L at hLl ⊢
  have HL := Lib.hid hL;clear hL
  have hrd : k < tens.length → Rd w (nth tens k).e.mem.A (fl (nth tens k).e.mem.l) ∧ RdN w (nth tens k).e.tab.A (nth tens k).e.tab.l ∧ Rd w (nth tens k).e.snaps.A (fl (nth tens k).e.snaps.l) := fun h => ⟨(HTR.out k h).mem,(HTR.out k h).tab,(HTR.out k h).snaps⟩
  have HRD := Lib.hid hrd;clear hrd
  repeat' ((fail_if_success (refine at_reg 5 ?_));first
    | refine Wa ?_
    | refine Wb ?_
    | refine Wd ?_
    | (refine ok_cond rfl (fun hc => ?_) (fun hc => ?_) <;> (have hd := hc;try simp only [jj] at hd))
    | refine Wg ?_
    | refine Wh ?_
    | refine Wi ?_
    | (refine Zr 3 ?_;refine Zm ?_;refine Zf ?_;refine Zl 1 ?_;refine Zq (ps_len rfl rfl) ?_;refine Zi ?_;refine Zm ?_;refine Zg rfl rfl rfl (gT _) (fun hp => by exact ps_loads rfl rfl (by exact rds_box 1 rfl) rfl rfl (by decide)) ?_;refine Zh rfl rfl rfl (gT _) (fun hp => by (exact ms_s1 rfl (Og rfl) (fun _ _ w hw => HSO.out w (rds_rf hk List.mem_cons_self _ _ w hw) (rds_rf hsh List.mem_cons_self _ _ w hw) (rds_rf ht List.mem_cons_self _ _ w hw) (HTR.out.le (hw.wle List.mem_cons_self)) (rds_rf hr List.mem_cons_self _ _ w hw)))) ?_;refine Zq (ps_and rfl rfl rfl) ?_;refine Ze4 1 3 4 16 ?_)
    | (refine Zr 5 ?_;refine Zf ?_;refine Zl 1 ?_;refine Zm ?_;refine Zq (by exact ps_indexN rfl rfl rfl (by omega) (by exact isw_of (isS_fl (by assumption) (by omega)))) ?_;refine Zq (by exact ps_loadsF rfl rfl (by exact rds_rf (by assumption) List.mem_cons_self) (by rfl) (by rfl) (by omega) rfl) ?_;refine Zn (ms_alloc rfl) ?_;rintro y5 hy5;refine Zo (ms_store 0 rfl rfl rfl rfl rfl rfl rfl rfl) ?_;rintro y_ hy_;refine Ze4 1 3 4 5 ?_)
    | (refine Zr 8 ?_;refine Zm ?_;refine Za ?_;refine Ze1 2 ?_))
  · obtain ⟨hk1,hok⟩ := hd
    have hkl : k < tens.length := by omega
    have hak := HAC.out hok k hkl
    obtain ⟨he,hba,hsq⟩ := HMP.out hok k hkl
    have hmk := map_ok he (nth tens k).e.seq
    obtain ⟨hm2,hm3⟩ := map_few he (nth tens k).e.seq
    have h4 := HLN.out hok
    have HEK := Lib.hid he;clear he
    clear hc hk0
    refine Zr 6 ?_
    refine Zf ?_
    refine Zq (by exact ps_loads rfl rfl (by exact rds_box 0 rfl) rfl rfl (by decide)) ?_
    refine Zf ?_
    refine Zf ?_
    refine Zl 0 ?_
    refine Zn (by exact ms_c2 rfl rfl rfl (fun _ _ w hw => engMap0 (nth tens k).e.mem.A (nth tens k).e.mem.c (nth tens k).e.mem.l (nth tens k).e.tab.A (nth tens k).e.tab.c (nth tens k).e.tab.l (nth tens k).e.seq (nth tens k).e.snaps.A (nth tens k).e.snaps.c (nth tens k).e.snaps.l (nth tens k).e.seq w (rds_rf (HRD.out hkl).1 List.mem_cons_self _ _ w hw) (RdN.keep hw (HRD.out hkl).2.1 List.mem_cons_self) (rds_rf (HRD.out hkl).2.2 List.mem_cons_self _ _ w hw) HEK.out)) ?_
    rintro y29 hy29
    refine Za ?_
    refine ok_nil ?_
    refine ok_env [(1,_),(3,_),(4,_),(5,_),(6,_)] ⟨rfl,rfl,rfl,rfl,rfl,trivial⟩ ?_
    generalize mapE ⟨(nth tens k).e.mem.l,dats (nth tens k).e.tab.l,(nth tens k).e.seq,(nth tens k).e.snaps.l⟩ (nth tens k).e.seq = M at hak hmk hm2 hm3 ⊢
    have HM3 := Lib.hid hm3;clear hm3
    have HMK := Lib.hid hmk;clear hmk
    have HAK := Lib.hid hak;clear hak
    repeat' (first|refine Wb ?_|refine We ?_|(refine Zr 4 ?_;refine Zm ?_;refine Zq (by exact ps_add rfl rfl rfl (by omega)) ?_;refine Za ?_;refine Ze3 1 3 4 ?_)|(refine ok_draw (id := 7) 22 rfl (by kernel_rfl) (by kernel_rfl) rfl (by repeat (first | exact pq_body | refine pq_then ?_ | refine pq_in ?_)) [0,1,3] (by decide) rfl ?_;refine Xm 0 ?_;refine Xf 1 ?_;refine Xl 2 1 ?_;refine Xf 3 ?_;refine Xt 4 rfl (by exact ps_loads rfl rfl (by exact rds_box 2 rfl) rfl rfl (by decide)) ?_;refine Xf 5 ?_;refine Xl 6 1 ?_;refine Xm 8 ?_;refine Xm 10 ?_;refine Xt 11 rfl (ps_len rfl rfl) ?_;refine Xf 12 ?_;refine Xf 13 ?_;refine Xl 14 1 ?_;refine Xf 15 ?_;refine Xl 16 1 ?_;refine Xt 17 rfl (by exact ps_sub rfl rfl rfl (by omega)) ?_;refine Xo 7 rfl (by exact ms_s2 rfl rfl rfl (fun _ _ w hw => l21Quota_c ssz shA shc shl (nth tens k).id w (rds_rf hsh List.mem_cons_self _ _ w hw) hl1)) (fun y w _ h => by exact h.sel [0,1,3] (by decide) rfl (fun _ h => h)) ?_;rintro y37 hy37;refine Xo 9 rfl (by exact ms_s1 rfl rfl (fun _ _ w hw => s_Bytes_c (y29 0).A (y29 0).c M w (hw.row 0 rfl) (by omega) HMK.out HM3.out)) (fun y w _ h => by exact h.sel [0,1,3] (by decide) rfl (fun _ h => h)) ?_;rintro y39 hy39;refine Xt 18 rfl (by exact ps_bld rfl (parts_cons rfl (parts_cons rfl (parts_cons rfl (parts_cons rfl (parts_cons rfl parts_nil))))) rfl) ?_;refine Xo 19 rfl (by exact ms_lit rfl (parts_cons rfl parts_nil) rfl rfl rfl) (fun y w _ h => by exact h.tl.sel [0,1,3] (by decide) rfl (fun _ h => h)) ?_;rintro y49 hy49;refine Xo 20 rfl (by exact ms_appF (α := Account) (L := L) (M := [⟨(nth tens k).id,(quoF shl (nth tens k).id).getD (-1),bytesF M,(M.length : Int),(nth tens k).e.seq - (nth tens k).ba⟩]) 3 rfl rfl rfl rfl (rds_row 0 rfl) rfl (by simp;omega) (by simp;omega)) (fun y w _ h => by exact h.tl.sel [0,1,3] (by decide) rfl (fun _ h => h)) ?_;rintro y50 hy50;refine Xt 21 rfl (ps_assign rfl rfl) ?_;refine okT_done (by kernel_rfl) ?_;refine Ze3 1 3 4 ?_))
    have e2 : (tens.take (k + 1)).map (fun t => accF D t.d) = L ++ [⟨(nth tens k).id,(quoF shl (nth tens k).id).getD (-1),bytesF M,(M.length : Int),(nth tens k).e.seq - (nth tens k).ba⟩] := by rw [HST.out k hkl,HL.out,HAK.out]
    refine fun a w' he hw => ⟨⟨⟨k + 1,(y50 0).A,(y50 0).c,by omega⟩,fun h => by rw [hok] at h;cases h⟩,by simp only;omega,he.sub ⟨rfl,by simp only [e2,List.length_append];rfl,rfl,trivial⟩,?_⟩
    simp only [e2,List.length_append]
    exact hw.sel [3,4] (by decide) rfl (fun _ h => h)
  · have e : fAccounts D = L := by
      cases hq : fStoreOk D with
      | false =>
        have hkz := hk0 hq
        have := HL.out
        rw [E0.out hq,← this,hkz];rfl
      | true =>
        have hkl : k = tens.length := by
          rcases hd with hd | hd
          · omega
          · rw [hq] at hd;cases hd
        have := HL.out
        rw [hkl,List.take_length] at this
        rw [E1.out hq,this]
    rw [e]
    exact ok_endL (vs := [_]) rfl ⟨rfl,trivial⟩ (fun w' hw => ⟨mkY B d w',rfl,trivial,hw.below,NewOk.of (hw.sel [0] (by decide) rfl (G' := []) (fun _ h => by cases h))⟩)
structure engBig (e : LEng) : Prop where
  m : e.mem.l.length ≤ maxLen
  me : ∀ u ∈ e.mem.l,bigEnt u
  t : e.tab.l.length ≤ maxLen
  te : ∀ x ∈ dats e.tab.l,x.length ≤ maxLen ∧ ∀ u ∈ x,bigEnt u
  s : e.snaps.l.length ≤ maxLen
structure engWt (e : LEng) : Prop where
  m : e.mem.l.length ≤ 1048576
  t : e.tab.l.length ≤ 1048576
  te : ∀ x ∈ dats e.tab.l,x.length ≤ 1048576
  s : e.snaps.l.length ≤ 1048576
theorem engWt.sm {t : LTen} (h : engWt t.e) : tenSm t := ⟨by have := h.m;omega,by have := h.t;omega,fun x hx => by have := h.te x hx;omega,by have := h.s;omega⟩
structure SzI (l : List LTen) (left : Int) where
  k : Nat
  v : Int
  hk : k ≤ l.length
  hv : 0 ≤ v ∧ v ≤ left
  ha : ∀ j,j < k → engWt (nth l j).e
structure stBig (s : LStore) : Prop where
  ks : s.keys.slots.l.length ≤ maxLen
  ke : ∀ u ∈ s.keys.slots.l,bigKeySlot u
  sh : s.shares.list.l.length ≤ maxLen
  se : ∀ u ∈ s.shares.list.l,bigShare u
  t : s.tens.l.length ≤ maxLen
  te : ∀ k,k < s.tens.l.length → engBig (nth s.tens.l k).e
  r : s.rows.l.length ≤ maxLen
  re : ∀ u ∈ s.rows.l,bigLogRow u
  h : s.hist.l.length ≤ maxLen
  he : ∀ u ∈ s.hist.l,bigLogRow u
  x1 : s.secret.size ≤ maxLen
  x2 : s.keys.master.size ≤ maxLen
structure stWt (s : LStore) : Prop where
  ks : s.keys.slots.l.length ≤ 1048576
  sh : s.shares.list.l.length ≤ 1048576
  t : s.tens.l.length ≤ 1048576
  te : ∀ k,k < s.tens.l.length → engWt (nth s.tens.l k).e
  r : s.rows.l.length ≤ 1048576
  re : ∀ u ∈ s.rows.l,wtLogRow u
  h : s.hist.l.length ≤ 1048576
theorem szKeyDev_c (m : ByteArray) (A : Option Addr) (c : Nat) (l : List KeySlot) (wi left : Int) (hl : 0 ≤ left ∧ left ≤ 1048576) (hm : m.size ≤ maxLen) (hn : l.length ≤ maxLen) (hx : ∀ x ∈ l,bigKeySlot x) (w : World) (h : Rd w A (fl l)) :
    Calls Tryz.prog 36 #[.agg #[.string m,.slice A l.length c,.int .i64 wi],.int .i64 left] w fun e' w' => ∃ y : Ys,e' = .returned (.int .i64 (y 0).n) ∧ (-1 ≤ (y 0).n ∧ (y 0).n ≤ left ∧ (0 ≤ (y 0).n → l.length ≤ 1048576)) ∧ Below w.heap.size w w' ∧ NewOk w.heap.size [] [] w' := by
  have HX := Lib.hid hx;clear hx
  unfold maxLen at hm
  refine ok_enter 19 Tryz.func36 rfl rfl rfl ?_
  repeat' (first|refine Wa ?_|refine Wb ?_|refine Wc ?_|(refine ok_cond rfl (fun hc => ?_) (fun hc => ?_) <;> (have hd := hc;try simp only [jj] at hd))|refine Wg ?_|refine Wi ?_|(refine Zr 0 ?_;refine Zn (ms_box rfl rfl rfl) ?_;rintro y2 hy2;refine Za ?_;refine Ze2 1 2 ?_)|(refine Zr 1 ?_;refine Zm ?_;refine Zf ?_;refine Zl 0 ?_;refine Zq (ps_slen rfl rfl) ?_;refine Zq (by exact ps_sub rfl rfl rfl (by omega)) ?_;refine Za ?_;refine Ze2 1 2 ?_)|(refine Zr 2 ?_;refine Zm ?_;refine Zi ?_;refine Ze3 1 2 11 ?_)|(refine Zr 3 ?_;refine Za ?_;refine Ze1 4 ?_)|(refine Zr 4 ?_;refine Zf ?_;refine Zl 0 ?_;refine Zm ?_;refine Zn (by exact ms_c2 rfl rfl rfl (fun _ _ w hw => szKeySlotS_c A c l _ ⟨by omega,by omega⟩ hn HX.out w (rds_rf h List.mem_cons_self _ _ w hw))) ?_;rintro y15 hy15;refine Za ?_;refine Ze1 1 ?_)|(refine Zr 5 ?_;refine Zm ?_;refine Zi ?_;refine Ze2 1 17 ?_)|(refine Zr 6 ?_;refine Za ?_;refine Ze1 4 ?_)|(refine Zr 7 ?_;refine Zm ?_;refine Za ?_;refine Ze1 4 ?_))
  all_goals first
    | exact ok_endL (vs := [.int .i64 (-1)]) rfl ⟨rfl,trivial⟩ (fun w' hw => ⟨mkN (-1) w,rfl,⟨by show (-1 : Int) ≤ -1;decide,by show (-1 : Int) ≤ left;omega,fun h => absurd h (by show ¬ (0 : Int) ≤ -1;decide)⟩,hw.below,NewOk.nil _ _⟩)
    | exact ok_endL (vs := [_]) rfl ⟨rfl,trivial⟩ (fun w' hw => ⟨mkN (y15 0).n w,rfl,⟨by show -1 ≤ (y15 0).n;omega,by show (y15 0).n ≤ left;omega,fun _ => by have := (hy15.2.2 (by omega)).1;omega⟩,hw.below,NewOk.nil _ _⟩)
theorem szShares_c (sz : Int) (A : Option Addr) (c : Nat) (l : List Share) (left : Int) (hl : 0 ≤ left ∧ left ≤ 1048576) (hn : l.length ≤ maxLen) (hx : ∀ x ∈ l,bigShare x) (w : World) (h : Rd w A (fl l)) :
    Calls Tryz.prog 37 #[.agg #[.int .i64 sz,.slice A l.length c],.int .i64 left] w fun e' w' => ∃ y : Ys,e' = .returned (.int .i64 (y 0).n) ∧ (-1 ≤ (y 0).n ∧ (y 0).n ≤ left ∧ (0 ≤ (y 0).n → l.length ≤ 1048576)) ∧ Below w.heap.size w w' ∧ NewOk w.heap.size [] [] w' := by
  have HX := Lib.hid hx;clear hx
  refine ok_enter 12 Tryz.func37 rfl rfl rfl ?_
  repeat' (first|refine Wa ?_|refine Wb ?_|refine Wc ?_|(refine ok_cond rfl (fun hc => ?_) (fun hc => ?_) <;> (have hd := hc;try simp only [jj] at hd))|refine Wg ?_|refine Wi ?_|(refine Zr 0 ?_;refine Zn (ms_box rfl rfl rfl) ?_;rintro y2 hy2;refine Za ?_;refine Ze2 1 2 ?_)|(refine Zr 1 ?_;refine Zf ?_;refine Zl 0 ?_;refine Zm ?_;refine Zn (by exact ms_c2 rfl rfl rfl (fun _ _ w hw => szShareS_c A c l _ ⟨by omega,by omega⟩ hn HX.out w (rds_rf h List.mem_cons_self _ _ w hw))) ?_;rintro y8 hy8;refine Za ?_;refine Ze1 1 ?_)|(refine Zr 2 ?_;refine Zm ?_;refine Zi ?_;refine Ze2 1 10 ?_)|(refine Zr 3 ?_;refine Za ?_;refine Ze1 4 ?_)|(refine Zr 4 ?_;refine Zm ?_;refine Za ?_;refine Ze1 4 ?_))
  all_goals first
    | exact ok_endL (vs := [.int .i64 (-1)]) rfl ⟨rfl,trivial⟩ (fun w' hw => ⟨mkN (-1) w,rfl,⟨by show (-1 : Int) ≤ -1;decide,by show (-1 : Int) ≤ left;omega,fun h => absurd h (by show ¬ (0 : Int) ≤ -1;decide)⟩,hw.below,NewOk.nil _ _⟩)
    | exact ok_endL (vs := [_]) rfl ⟨rfl,trivial⟩ (fun w' hw => ⟨mkN (y8 0).n w,rfl,⟨by show -1 ≤ (y8 0).n;omega,by show (y8 0).n ≤ left;omega,fun _ => by have := (hy8.2.2 (by omega)).1;omega⟩,hw.below,NewOk.nil _ _⟩)
def cntE (e : LEng) : Nat := e.mem.l.length + e.tab.l.length + totE (dats e.tab.l) + e.snaps.l.length
def cntL (l : List LTen) : Nat := (l.map fun t => cntE t.e).sum
theorem cntL_step {l : List LTen} {k : Nat} (h : k < l.length) : cntL (l.take (k + 1)) = cntL (l.take k) + cntE (nth l k).e := by
  rw [takeG h];unfold cntL;rw [List.map_append,List.sum_append];simp
theorem totE_step {R : List LE} {k : Nat} (h : k < R.length) : totE (dats (R.take (k + 1))) = totE (dats (R.take k)) + (nth R k).d.length := by
  rw [takeG h];unfold totE dats;rw [List.map_append,List.map_append,List.sum_append];simp
theorem szIntS_t (A : Option Addr) (c n : Nat) (left : Int) (hl : 0 ≤ left ∧ left ≤ 1048576) (hn : n ≤ maxLen) (w : World) :
    Calls Tryz.prog 194 #[.slice A n c,.int .i64 left] w fun e w' => ∃ y : Ys,e = .returned (.int .i64 (y 0).n) ∧ (-1 ≤ (y 0).n ∧ (y 0).n ≤ left ∧ (0 ≤ (y 0).n → (y 0).n + (n : Int) ≤ left)) ∧ Below w.heap.size w w' ∧ NewOk w.heap.size [] [] w' := by
  unfold maxLen at hn
  refine ok_enter 12 Tryz.func194 rfl rfl rfl ?_
  repeat' (first|refine Wa ?_|refine Wb ?_|refine Wc ?_|(refine ok_cond rfl (fun hc => ?_) (fun hc => ?_) <;> (have hd := hc;try simp only [jj] at hd))|refine Wg ?_|refine Wi ?_|(refine Zr 0 ?_;refine Za ?_;refine Ze2 0 1 ?_)|(refine Zr 1 ?_;refine Zm ?_;refine Zm ?_;refine Zq (ps_len rfl rfl) ?_;refine Zq (by exact ps_sub rfl rfl rfl (by omega)) ?_;refine Za ?_;refine Ze1 1 ?_)|(refine Zr 2 ?_;refine Zm ?_;refine Zi ?_;refine Ze2 1 10 ?_)|(refine Zr 3 ?_;refine Za ?_;refine Ze1 4 ?_)|(refine Zr 4 ?_;refine Zm ?_;refine Za ?_;refine Ze1 4 ?_))
  · exact ok_endL (vs := [_]) rfl ⟨rfl,trivial⟩ (fun w' hw => ⟨mkN (-1) w,rfl,⟨by show (-1 : Int) ≤ -1;decide,by show (-1 : Int) ≤ left;omega,fun h => absurd h (by show ¬ (0 : Int) ≤ -1;decide)⟩,hw.below,NewOk.nil _ _⟩)
  · exact ok_endL (vs := [_]) rfl ⟨rfl,trivial⟩ (fun w' hw => ⟨mkN (left - n) w,rfl,⟨by show -1 ≤ left - (n : Int);omega,by show left - (n : Int) ≤ left;omega,fun _ => by show left - (n : Int) + n ≤ left;omega⟩,hw.below,NewOk.nil _ _⟩)
theorem szEntS_t (A : Option Addr) (c : Nat) (l : List Ent) (left : Int) (hl : 0 ≤ left ∧ left ≤ 1048576) (hn : l.length ≤ maxLen) (hx : ∀ x ∈ l,bigEnt x) (w : World) (h : Rd w A (fl l)) :
    Calls Tryz.prog 192 #[.slice A l.length c,.int .i64 left] w fun e w' => ∃ y : Ys,e = .returned (.int .i64 (y 0).n) ∧ (-1 ≤ (y 0).n ∧ (y 0).n ≤ left ∧ (0 ≤ (y 0).n → (y 0).n + (l.length : Int) ≤ left)) ∧ Below w.heap.size w w' ∧ NewOk w.heap.size [] [] w' := by
  unfold maxLen at hn
  refine ok_enter 27 Tryz.func192 rfl rfl rfl ?_
  repeat' (first|refine Wa ?_|refine Wb ?_|refine Wc ?_|refine Wd ?_|(refine ok_cond rfl (fun hc => ?_) (fun hc => ?_) <;> (have hd := hc;try simp only [jj] at hd))|refine Wg ?_|refine Wi ?_|(refine Zr 0 ?_;refine Za ?_;refine Ze2 0 1 ?_)|(refine Zr 1 ?_;refine Zm ?_;refine Zm ?_;refine Zq (ps_len rfl rfl) ?_;refine Zq (by exact ps_sub rfl rfl rfl (by omega)) ?_;refine Za ?_;refine Ze2 0 1 ?_)|(refine Zr 2 ?_;refine Zm ?_;refine Zi ?_;refine Ze3 0 1 11 ?_)|(refine Zr 3 ?_;refine Za ?_;refine Ze1 4 ?_)|(refine Zr 4 ?_;refine Za ?_;refine Ze3 0 1 5 ?_))
  · exact ok_endL (vs := [_]) rfl ⟨rfl,trivial⟩ (fun w' hw => ⟨mkN (-1) w,rfl,⟨by show (-1 : Int) ≤ -1;decide,by show (-1 : Int) ≤ left;omega,fun h => absurd h (by show ¬ (0 : Int) ≤ -1;decide)⟩,hw.below,NewOk.nil _ _⟩)
  · refine ok_loop (ι := { p : Nat × Int // p.1 ≤ l.length ∧ 0 ≤ p.2 ∧ p.2 ≤ left - l.length ∧ ∀ j,j < p.1 → wtEnt (nth l j) }) (fun p => l.length - p.1.1) (fun p => ([(0,.slice A l.length c),(1,.int .i64 p.1.2),(5,.int .i64 p.1.1)],_,_)) ⟨(0,left - l.length),by simp only;omega,by simp only;omega,by simp only;omega,fun j h => absurd h (Nat.not_lt_zero j)⟩ (fun a w he hw => ⟨⟨(0,left - l.length),by simp only;omega,by simp only;omega,by simp only;omega,fun j h => absurd h (Nat.not_lt_zero j)⟩,he.sub ⟨rfl,rfl,rfl,trivial⟩,hw⟩) ?_
    rintro ⟨⟨k,r⟩,hk,hr0,hr1,hwt⟩
    simp only at hk hr0 hr1 hwt ⊢
    have HW := Lib.hid hwt;clear hwt
    repeat' (first|refine Wa ?_|refine Wb ?_|refine Wc ?_|refine Wd ?_|refine We ?_|refine Wf ?_|(refine ok_cond rfl (fun hc => ?_) (fun hc => ?_) <;> (have hd := hc;try simp only [jj] at hd))|refine Wg ?_|refine Wh ?_|refine Wi ?_|(refine Zr 5 ?_;refine Zm ?_;refine Zm ?_;refine Zq (ps_len rfl rfl) ?_;refine Zi ?_;refine Ze4 0 1 5 15 ?_)|(refine Zr 6 ?_;refine Zm ?_;refine Zq (by exact ps_add rfl rfl rfl (by omega)) ?_;refine Za ?_;refine Ze3 0 1 5 ?_)|(refine Zr 7 ?_;refine Zm ?_;refine Zm ?_;refine Zq (by exact ps_indexN rfl rfl rfl (by omega) (by exact isw_of (isS_fl (by assumption) (by omega)))) ?_;refine Zq (by exact ps_loadsF rfl rfl (by exact rds_rf (by assumption) List.mem_cons_self) (by rfl) (by rfl) (by omega) rfl) ?_;refine Zm ?_;refine Zn (by exact ms_c2 rfl rfl rfl (fun _ _ w hw => szEnt_c _ _ ⟨by omega,by omega⟩ (hx _ (nth_mem l k (by omega))) w)) ?_;rintro y23 hy23;refine Za ?_;refine Ze3 0 1 5 ?_)|(refine Zr 8 ?_;refine Zm ?_;refine Zi ?_;refine Ze4 0 1 5 25 ?_)|(refine Zr 9 ?_;refine Za ?_;refine Ze1 4 ?_)|(refine Zr 10 ?_;refine Zm ?_;refine Za ?_;refine Ze1 4 ?_))
    · exact ok_endL (vs := [_]) rfl ⟨rfl,trivial⟩ (fun w' hw => ⟨mkN (-1) w,rfl,⟨by show (-1 : Int) ≤ -1;decide,by show (-1 : Int) ≤ left;omega,fun h => absurd h (by show ¬ (0 : Int) ≤ -1;decide)⟩,hw.below,NewOk.nil _ _⟩)
    · obtain ⟨g1,g2,g3⟩ := hy23
      refine fun a w' he hw => ⟨⟨(k + 1,(y23 0).n),by simp only;omega,by simp only;omega,by simp only;omega,fun j hj => ?_⟩,by simp only;omega,he.sub ⟨rfl,rfl,rfl,trivial⟩,hw⟩
      rcases Nat.lt_succ_iff_lt_or_eq.1 hj with h' | h'
      · exact HW.out j h'
      · subst h';exact g3 (by omega)
    · obtain rfl : k = l.length := by omega
      exact ok_endL (vs := [_]) rfl ⟨rfl,trivial⟩ (fun w' hw => ⟨mkN r w,rfl,⟨by show -1 ≤ r;omega,by show r ≤ left;omega,fun _ => by show r + (l.length : Int) ≤ left;omega⟩,hw.below,NewOk.nil _ _⟩)
theorem szEntSS_t (A : Option Addr) (c : Nat) (R : List LE) (left : Int) (hl : 0 ≤ left ∧ left ≤ 1048576) (hn : R.length ≤ maxLen) (hx : ∀ x ∈ dats R,x.length ≤ maxLen ∧ ∀ u ∈ x,bigEnt u) (w : World) (h : RdN w A R) :
    Calls Tryz.prog 193 #[.slice A R.length c,.int .i64 left] w fun e w' => ∃ y : Ys,e = .returned (.int .i64 (y 0).n) ∧ (-1 ≤ (y 0).n ∧ (y 0).n ≤ left ∧ (0 ≤ (y 0).n → (y 0).n + (R.length : Int) + (totE (dats R) : Int) ≤ left)) ∧ Below w.heap.size w w' ∧ NewOk w.heap.size [] [] w' := by
  unfold maxLen at hn
  obtain ⟨h1,h2⟩ := h
  have hx' : ∀ k,k < R.length → (nth R k).d.length ≤ maxLen ∧ ∀ u ∈ (nth R k).d,bigEnt u := fun k hk => hx _ (List.mem_map.2 ⟨_,nth_mem R k hk,rfl⟩)
  clear hx
  have HX := Lib.hid hx';clear hx'
  have H2 := Lib.hid h2;clear h2
  refine ok_enter 27 Tryz.func193 rfl rfl rfl ?_
  repeat' (first|refine Wa ?_|refine Wb ?_|refine Wc ?_|refine Wd ?_|(refine ok_cond rfl (fun hc => ?_) (fun hc => ?_) <;> (have hd := hc;try simp only [jj] at hd))|refine Wg ?_|refine Wi ?_|(refine Zr 0 ?_;refine Za ?_;refine Ze2 0 1 ?_)|(refine Zr 1 ?_;refine Zm ?_;refine Zm ?_;refine Zq (ps_len rfl rfl) ?_;refine Zq (by exact ps_sub rfl rfl rfl (by omega)) ?_;refine Za ?_;refine Ze2 0 1 ?_)|(refine Zr 2 ?_;refine Zm ?_;refine Zi ?_;refine Ze3 0 1 11 ?_)|(refine Zr 3 ?_;refine Za ?_;refine Ze1 4 ?_)|(refine Zr 4 ?_;refine Za ?_;refine Ze3 0 1 5 ?_))
  · exact ok_endL (vs := [_]) rfl ⟨rfl,trivial⟩ (fun w' hw => ⟨mkN (-1) w,rfl,⟨by show (-1 : Int) ≤ -1;decide,by show (-1 : Int) ≤ left;omega,fun h => absurd h (by show ¬ (0 : Int) ≤ -1;decide)⟩,hw.below,NewOk.nil _ _⟩)
  · refine ok_loop (ι := { p : Nat × Int // p.1 ≤ R.length ∧ 0 ≤ p.2 ∧ p.2 + (totE (dats (R.take p.1)) : Int) ≤ left - R.length }) (fun p => R.length - p.1.1) (fun p => ([(0,.slice A R.length c),(1,.int .i64 p.1.2),(5,.int .i64 p.1.1)],_,_)) ⟨(0,left - R.length),by simp only;omega,by simp only;omega,by simp [dats,totE]⟩ (fun a w he hw => ⟨⟨(0,left - R.length),by simp only;omega,by simp only;omega,by simp [dats,totE]⟩,he.sub ⟨rfl,rfl,rfl,trivial⟩,hw⟩) ?_
    rintro ⟨⟨k,r⟩,hk,hr0,hr1⟩
    simp only at hk hr0 hr1 ⊢
    have hts := fun h : k < R.length => totE_step (R := R) (k := k) h
    repeat' (first|refine Wa ?_|refine Wb ?_|refine Wc ?_|refine Wd ?_|refine We ?_|refine Wf ?_|(refine ok_cond rfl (fun hc => ?_) (fun hc => ?_) <;> (have hd := hc;try simp only [jj] at hd))|refine Wg ?_|refine Wh ?_|refine Wi ?_|(refine Zr 5 ?_;refine Zm ?_;refine Zm ?_;refine Zq (ps_len rfl rfl) ?_;refine Zi ?_;refine Ze4 0 1 5 15 ?_)|(refine Zr 6 ?_;refine Zm ?_;refine Zq (by exact ps_add rfl rfl rfl (by omega)) ?_;refine Za ?_;refine Ze3 0 1 5 ?_)|(refine Zr 7 ?_;refine Zm ?_;refine Zm ?_;refine Zq (by exact ps_indexN rfl rfl rfl (by omega) (by exact isw_of (isS_fl (by assumption) (by omega)))) ?_;refine Zq (by exact ps_load rfl rfl (by exact Rds.cell (rds_rf (by assumption) List.mem_cons_self) (by exact fl_at0 _ _ (by omega) (by decide)))) ?_;refine Zm ?_;refine Zn (by exact ms_c2 rfl rfl rfl (fun _ _ w hw => szEntS_t _ _ (nth R k).d _ ⟨by omega,by omega⟩ (HX.out k (by omega)).1 (HX.out k (by omega)).2 w (rds_rf (H2.out k (by omega)) List.mem_cons_self _ _ w hw))) ?_;rintro y23 hy23;refine Za ?_;refine Ze3 0 1 5 ?_)|(refine Zr 8 ?_;refine Zm ?_;refine Zi ?_;refine Ze4 0 1 5 25 ?_)|(refine Zr 9 ?_;refine Za ?_;refine Ze1 4 ?_)|(refine Zr 10 ?_;refine Zm ?_;refine Za ?_;refine Ze1 4 ?_))
    · exact ok_endL (vs := [_]) rfl ⟨rfl,trivial⟩ (fun w' hw => ⟨mkN (-1) w,rfl,⟨by show (-1 : Int) ≤ -1;decide,by show (-1 : Int) ≤ left;omega,fun h => absurd h (by show ¬ (0 : Int) ≤ -1;decide)⟩,hw.below,NewOk.nil _ _⟩)
    · obtain ⟨g1,g2,g3⟩ := hy23
      have g4 := hts (by omega)
      have g5 := g3 (by omega)
      exact fun a w' he hw => ⟨⟨(k + 1,(y23 0).n),by simp only;omega,by simp only;omega,by simp only;omega⟩,by simp only;omega,he.sub ⟨rfl,rfl,rfl,trivial⟩,hw⟩
    · obtain rfl : k = R.length := by omega
      rw [List.take_length] at hr1
      exact ok_endL (vs := [_]) rfl ⟨rfl,trivial⟩ (fun w' hw => ⟨mkN r w,rfl,⟨by show -1 ≤ r;omega,by show r ≤ left;omega,fun _ => by show r + (R.length : Int) + (totE (dats R) : Int) ≤ left;omega⟩,hw.below,NewOk.nil _ _⟩)
theorem szEng_t (e : LEng) (left : Int) (hl : 0 ≤ left ∧ left ≤ 1048576) (w : World) (h : e.rd w) (hb : engBig e) :
    Calls Tryz.prog 133 #[e.val,.int .i64 left] w fun e' w' => ∃ y : Ys,e' = .returned (.int .i64 (y 0).n) ∧ (-1 ≤ (y 0).n ∧ (y 0).n ≤ left ∧ (0 ≤ (y 0).n → (y 0).n + (cntE e : Int) ≤ left)) ∧ Below w.heap.size w w' ∧ NewOk w.heap.size [] [] w' := by
  obtain ⟨⟨mA,mc,mem⟩,⟨tA,tc,R⟩,seq,⟨sA,sc,sn⟩⟩ := e
  obtain ⟨h1,h2,h3⟩ := h
  obtain ⟨b1,b2,b3,b4,b5⟩ := hb
  simp only at h1 h2 h3 b1 b2 b3 b4 b5
  have H2 := Lib.hid h2;clear h2
  have B2 := Lib.hid b2;clear b2
  have B4 := Lib.hid b4;clear b4
  refine ok_enter 24 Tryz.func133 rfl rfl rfl ?_
  repeat' (first|refine Wa ?_|refine Wb ?_|refine Wc ?_|(refine ok_cond rfl (fun hc => ?_) (fun hc => ?_) <;> (have hd := hc;try simp only [jj] at hd))|refine Wg ?_|refine Wi ?_|(refine Zr 0 ?_;refine Zn (ms_box rfl rfl rfl) ?_;rintro y2 hy2;refine Za ?_;refine Ze2 1 2 ?_)|(refine Zr 1 ?_;refine Zf ?_;refine Zl 0 ?_;refine Zm ?_;refine Zn (by exact ms_c2 rfl rfl rfl (fun _ _ w hw => szEntS_t mA mc mem left hl b1 B2.out w (rds_rf h1 List.mem_cons_self _ _ w hw))) ?_;rintro y8 hy8;refine Za ?_;refine Ze2 1 2 ?_)|(refine Zr 2 ?_;refine Zm ?_;refine Zi ?_;refine Ze3 1 2 10 ?_)|(refine Zr 3 ?_;refine Za ?_;refine Ze1 4 ?_)|(refine Zr 4 ?_;refine Zf ?_;refine Zl 0 ?_;refine Zm ?_;refine Zn (by exact ms_c2 rfl rfl rfl (fun _ _ w hw => szEntSS_t tA tc R _ ⟨by omega,by omega⟩ b3 B4.out w (RdN.keep hw H2.out List.mem_cons_self))) ?_;rintro y14 hy14;refine Za ?_;refine Ze2 1 2 ?_)|(refine Zr 5 ?_;refine Zm ?_;refine Zi ?_;refine Ze3 1 2 16 ?_)|(refine Zr 6 ?_;refine Za ?_;refine Ze1 4 ?_)|(refine Zr 7 ?_;refine Zf ?_;refine Zl 0 ?_;refine Zm ?_;refine Zn (by exact ms_c2 rfl rfl rfl (fun _ _ w hw => szIntS_t sA sc sn.length _ ⟨by omega,by omega⟩ b5 w)) ?_;rintro y20 hy20;refine Za ?_;refine Ze1 1 ?_)|(refine Zr 8 ?_;refine Zm ?_;refine Zi ?_;refine Ze2 1 22 ?_)|(refine Zr 9 ?_;refine Za ?_;refine Ze1 4 ?_)|(refine Zr 10 ?_;refine Zm ?_;refine Za ?_;refine Ze1 4 ?_))
  all_goals first
    | exact ok_endL (vs := [.int .i64 (-1)]) rfl ⟨rfl,trivial⟩ (fun w' hw => ⟨mkN (-1) w,rfl,⟨by show (-1 : Int) ≤ -1;decide,by show (-1 : Int) ≤ left;omega,fun h => absurd h (by show ¬ (0 : Int) ≤ -1;decide)⟩,hw.below,NewOk.nil _ _⟩)
    | exact ok_endL (vs := [_]) rfl ⟨rfl,trivial⟩ (fun w' hw => ⟨mkN (y20 0).n w,rfl,⟨by show -1 ≤ (y20 0).n;omega,by show (y20 0).n ≤ left;omega,fun _ => by
        have q1 := hy8.2.2 (by omega)
        have q2 := hy14.2.2 (by omega)
        have q3 := hy20.2.2 (by omega)
        show (y20 0).n + ((mem.length + R.length + totE (dats R) + sn.length : Nat) : Int) ≤ left
        omega⟩,hw.below,NewOk.nil _ _⟩)
theorem szSTen_t (t : LTen) (left : Int) (hl : 0 ≤ left ∧ left ≤ 1048576) (w : World) (h : t.e.rd w) (hb : engBig t.e) :
    Calls Tryz.prog 83 #[.agg (Dat.cells t).toArray,.int .i64 left] w fun e' w' => ∃ y : Ys,e' = .returned (.int .i64 (y 0).n) ∧ (-1 ≤ (y 0).n ∧ (y 0).n ≤ left ∧ (0 ≤ (y 0).n → (y 0).n + (cntE t.e : Int) ≤ left)) ∧ Below w.heap.size w w' ∧ NewOk w.heap.size [] [] w' := by
  have HR := Lib.hid h;clear h
  have HB := Lib.hid hb;clear hb
  refine ok_enter 12 Tryz.func83 rfl rfl rfl ?_
  repeat' (first|refine Wa ?_|refine Wb ?_|refine Wc ?_|(refine ok_cond rfl (fun hc => ?_) (fun hc => ?_) <;> (have hd := hc;try simp only [jj] at hd))|refine Wg ?_|refine Wi ?_|(refine Zr 0 ?_;refine Zn (ms_box rfl rfl rfl) ?_;rintro y2 hy2;refine Za ?_;refine Ze2 1 2 ?_)|(refine Zr 1 ?_;refine Zf ?_;refine Zq (by exact ps_loads rfl rfl (by exact rds_box 0 rfl) rfl rfl (by decide)) ?_;refine Zm ?_;refine Zn (by exact ms_c2 rfl rfl rfl (fun _ _ w hw => szEng_t t.e left hl w (HR.out.le (hw.wle List.mem_cons_self)) HB.out)) ?_;rintro y8 hy8;refine Za ?_;refine Ze1 1 ?_)|(refine Zr 2 ?_;refine Zm ?_;refine Zi ?_;refine Ze2 1 10 ?_)|(refine Zr 3 ?_;refine Za ?_;refine Ze1 4 ?_)|(refine Zr 4 ?_;refine Zm ?_;refine Za ?_;refine Ze1 4 ?_))
  · exact ok_endL (vs := [.int .i64 (-1)]) rfl ⟨rfl,trivial⟩ (fun w' hw => ⟨mkN (-1) w,rfl,⟨by show (-1 : Int) ≤ -1;decide,by show (-1 : Int) ≤ left;omega,fun h => absurd h (by show ¬ (0 : Int) ≤ -1;decide)⟩,hw.below,NewOk.nil _ _⟩)
  · exact ok_endL (vs := [_]) rfl ⟨rfl,trivial⟩ (fun w' hw => ⟨mkN (y8 0).n w,rfl,⟨by show -1 ≤ (y8 0).n;omega,by show (y8 0).n ≤ left;omega,fun _ => hy8.2.2 (by omega)⟩,hw.below,NewOk.nil _ _⟩)
structure SzT (l : List LTen) (left : Int) where
  k : Nat
  v : Int
  hk : k ≤ l.length
  hv : 0 ≤ v ∧ v + (cntL (l.take k) : Int) + (l.length : Int) ≤ left
theorem szSTenS_t (A : Option Addr) (c : Nat) (l : List LTen) (left : Int) (hl : 0 ≤ left ∧ left ≤ 1048576) (hn : l.length ≤ maxLen) (w : World) (h : Rd w A (fl l)) (hr : tensRd w l) (hb : ∀ k,k < l.length → engBig (nth l k).e) :
    Calls Tryz.prog 38 #[.slice A l.length c,.int .i64 left] w fun e' w' => ∃ y : Ys,e' = .returned (.int .i64 (y 0).n) ∧ (-1 ≤ (y 0).n ∧ (y 0).n ≤ left ∧ (0 ≤ (y 0).n → (y 0).n + (cntL l : Int) + (l.length : Int) ≤ left)) ∧ Below w.heap.size w w' ∧ NewOk w.heap.size [] [] w' := by
  have HR := Lib.hid hr;clear hr
  have HB := Lib.hid hb;clear hb
  unfold maxLen at hn
  refine ok_enter 27 Tryz.func38 rfl rfl rfl ?_
  repeat' (first|refine Wa ?_|refine Wb ?_|refine Wc ?_|refine Wd ?_|(refine ok_cond rfl (fun hc => ?_) (fun hc => ?_) <;> (have hd := hc;try simp only [jj] at hd))|refine Wg ?_|refine Wi ?_|(refine Zr 0 ?_;refine Za ?_;refine Ze2 0 1 ?_)|(refine Zr 1 ?_;refine Zm ?_;refine Zm ?_;refine Zq (ps_len rfl rfl) ?_;refine Zq (by exact ps_sub rfl rfl rfl (by omega)) ?_;refine Za ?_;refine Ze2 0 1 ?_)|(refine Zr 2 ?_;refine Zm ?_;refine Zi ?_;refine Ze3 0 1 11 ?_)|(refine Zr 3 ?_;refine Za ?_;refine Ze1 4 ?_)|(refine Zr 4 ?_;refine Za ?_;refine Ze3 0 1 5 ?_))
  · exact ok_endL (vs := [.int .i64 (-1)]) rfl ⟨rfl,trivial⟩ (fun w' hw => ⟨mkN (-1) w,rfl,⟨by show (-1 : Int) ≤ -1;decide,by show (-1 : Int) ≤ left;omega,fun h => absurd h (by show ¬ (0 : Int) ≤ -1;decide)⟩,hw.below,NewOk.nil _ _⟩)
  clear hc
  refine ok_loop (ι := SzT l left) (fun q => l.length - q.k) (fun q => ([(0,.slice A l.length c),(1,.int .i64 q.v),(5,.int .i64 q.k)],_,_)) ⟨0,left - l.length,by omega,by simp [cntL];omega⟩ (fun a w he hw => ⟨⟨0,left - l.length,by omega,by simp [cntL];omega⟩,he.sub ⟨rfl,rfl,rfl,trivial⟩,hw⟩) ?_
  rintro ⟨k,v,hk,hv⟩
  simp only at hk hv ⊢
  have hcs := fun h : k < l.length => cntL_step (l := l) (k := k) h
  repeat' (first|refine Wa ?_|refine Wb ?_|refine Wc ?_|refine Wd ?_|refine We ?_|refine Wf ?_|(refine ok_cond rfl (fun hc => ?_) (fun hc => ?_) <;> (have hd := hc;try simp only [jj] at hd))|refine Wg ?_|refine Wh ?_|refine Wi ?_|(refine Zr 5 ?_;refine Zm ?_;refine Zm ?_;refine Zq (ps_len rfl rfl) ?_;refine Zi ?_;refine Ze4 0 1 5 15 ?_)|(refine Zr 6 ?_;refine Zm ?_;refine Zq (by exact ps_add rfl rfl rfl (by omega)) ?_;refine Za ?_;refine Ze3 0 1 5 ?_)|(refine Zr 7 ?_;refine Zm ?_;refine Zm ?_;refine Zq (by exact ps_indexN rfl rfl rfl (by omega) (by exact isw_of (isS_fl (by assumption) (by omega)))) ?_;refine Zq (by exact ps_loads (vs := Dat.cells (nth l k)) rfl rfl (rds_rf h List.mem_cons_self) (fl_sub l k (by omega)) (Dat.len (nth l k)) (by decide)) ?_;refine Zm ?_;refine Zn (by exact ms_c2 rfl rfl rfl (fun _ _ w hw => szSTen_t (nth l k) v ⟨by omega,by omega⟩ w ((HR.out k (by omega)).le (hw.wle List.mem_cons_self)) (HB.out k (by omega)))) ?_;rintro y23 hy23;refine Za ?_;refine Ze3 0 1 5 ?_)|(refine Zr 8 ?_;refine Zm ?_;refine Zi ?_;refine Ze4 0 1 5 25 ?_)|(refine Zr 9 ?_;refine Za ?_;refine Ze1 4 ?_)|(refine Zr 10 ?_;refine Zm ?_;refine Za ?_;refine Ze1 4 ?_))
  · exact ok_endL (vs := [.int .i64 (-1)]) rfl ⟨rfl,trivial⟩ (fun w' hw => ⟨mkN (-1) w,rfl,⟨by show (-1 : Int) ≤ -1;decide,by show (-1 : Int) ≤ left;omega,fun h => absurd h (by show ¬ (0 : Int) ≤ -1;decide)⟩,hw.below,NewOk.nil _ _⟩)
  · have g4 := hcs (by omega)
    have g5 := hy23.2.2 (by omega)
    exact fun a w' he hw => ⟨⟨k + 1,(y23 0).n,by omega,by omega⟩,by simp only;omega,he.sub ⟨rfl,rfl,rfl,trivial⟩,hw⟩
  · have hkk : k = l.length := by omega
    subst hkk
    rw [List.take_length] at hv
    exact ok_endL (vs := [_]) rfl ⟨rfl,trivial⟩ (fun w' hw => ⟨mkN v w,rfl,⟨by show -1 ≤ v;omega,by show v ≤ left;omega,fun _ => by show v + (cntL l : Int) + (l.length : Int) ≤ left;omega⟩,hw.below,NewOk.nil _ _⟩)
theorem cntL_take (l : List LTen) (k : Nat) : cntL (l.take k) ≤ cntL l := by
  have h : cntL l = cntL (l.take k) + cntL (l.drop k) := by
    unfold cntL
    rw [← List.sum_append,← List.map_append,List.take_append_drop]
  omega
theorem engWt_cnt {l : List LTen} {k : Nat} (hk : k < l.length) (h : cntL l ≤ 1048576) : engWt (nth l k).e := by
  have h1 := cntL_step hk
  have h2 := cntL_take l (k + 1)
  unfold cntE at h1
  refine ⟨by omega,by omega,fun x hx => tot_at (by omega) x hx,by omega⟩
theorem szStore_t (s : LStore) (left : Int) (hl : 0 ≤ left ∧ left ≤ 1048576) (w : World) (h : s.rd w) (hb : stBig s) :
    Calls Tryz.prog 8 #[s.val,.int .i64 left] w fun e' w' => ∃ y : Ys,e' = .returned (.int .i64 (y 0).n) ∧ (-1 ≤ (y 0).n ∧ (y 0).n ≤ left ∧ (0 ≤ (y 0).n → stWt s ∧ cntL s.tens.l + s.tens.l.length ≤ 1048576)) ∧ Below w.heap.size w w' ∧ NewOk w.heap.size [] [] w' := by
  obtain ⟨sec,⟨mk,⟨kA,kc,slots⟩,wi⟩,⟨ssz,⟨shA,shc,shl⟩⟩,⟨tnA,tnc,tens⟩,⟨rA,rc,rows⟩,⟨hA,hcc,hist⟩,bo⟩ := s
  obtain ⟨h1,h2,h3,h4,h5,h6⟩ := h
  obtain ⟨b1,b2,b3,b4,b5,b6,b7,b8,b9,b10,b11,b12⟩ := hb
  simp only [LKeys.rd,LShares.rd] at h1 h2 h3 h4 h5 h6 b1 b2 b3 b4 b5 b6 b7 b8 b9 b10 b11 b12
  have B2 := Lib.hid b2;clear b2
  have B4 := Lib.hid b4;clear b4
  have B6 := Lib.hid b6;clear b6
  have B8 := Lib.hid b8;clear b8
  have B10 := Lib.hid b10;clear b10
  have H4 := Lib.hid h4;clear h4
  have b11' := b11
  unfold maxLen at b11'
  show Calls Tryz.prog 8 #[.agg #[.string sec,.string mk,.slice kA slots.length kc,.int .i64 wi,.int .i64 ssz,.slice shA shl.length shc,.slice tnA tens.length tnc,.slice rA rows.length rc,.slice hA hist.length hcc,.int .i64 bo],.int .i64 left] w _
  refine ok_enter 43 Tryz.func8 rfl rfl rfl ?_
  repeat' (first|refine Wa ?_|refine Wb ?_|refine Wc ?_|(refine ok_cond rfl (fun hc => ?_) (fun hc => ?_) <;> (have hd := hc;try simp only [jj] at hd))|refine Wg ?_|refine Wi ?_|(refine Zr 0 ?_;refine Zn (ms_box rfl rfl rfl) ?_;rintro y2 hy2;refine Za ?_;refine Ze2 1 2 ?_)|(refine Zr 1 ?_;refine Zm ?_;refine Zf ?_;refine Zl 0 ?_;refine Zq (ps_slen rfl rfl) ?_;refine Zq (by exact ps_sub rfl rfl rfl (by omega)) ?_;refine Za ?_;refine Ze2 1 2 ?_)|(refine Zr 2 ?_;refine Zm ?_;refine Zi ?_;refine Ze3 1 2 11 ?_)|(refine Zr 3 ?_;refine Za ?_;refine Ze1 4 ?_)|(refine Zr 4 ?_;refine Zf ?_;refine Zq (by exact ps_loads rfl rfl (by exact rds_box 0 rfl) rfl rfl (by decide)) ?_;refine Zm ?_;refine Zn (by exact ms_c2 rfl rfl rfl (fun _ _ w hw => szKeyDev_c mk kA kc slots wi _ ⟨by omega,by omega⟩ b12 b1 B2.out w (rds_rf h1 List.mem_cons_self _ _ w hw))) ?_;rintro y15 hy15;refine Za ?_;refine Ze2 1 2 ?_)|(refine Zr 5 ?_;refine Zm ?_;refine Zi ?_;refine Ze3 1 2 17 ?_)|(refine Zr 6 ?_;refine Za ?_;refine Ze1 4 ?_)|(refine Zr 7 ?_;refine Zf ?_;refine Zq (by exact ps_loads rfl rfl (by exact rds_box 0 rfl) rfl rfl (by decide)) ?_;refine Zm ?_;refine Zn (by exact ms_c2 rfl rfl rfl (fun _ _ w hw => szShares_c ssz shA shc shl _ ⟨by omega,by omega⟩ b3 B4.out w (rds_rf h2 List.mem_cons_self _ _ w hw))) ?_;rintro y21 hy21;refine Za ?_;refine Ze2 1 2 ?_)|(refine Zr 8 ?_;refine Zm ?_;refine Zi ?_;refine Ze3 1 2 23 ?_)|(refine Zr 9 ?_;refine Za ?_;refine Ze1 4 ?_)|(refine Zr 10 ?_;refine Zf ?_;refine Zl 0 ?_;refine Zm ?_;refine Zn (by exact ms_c2 rfl rfl rfl (fun _ _ w hw => szSTenS_t tnA tnc tens _ ⟨by omega,by omega⟩ b5 w (rds_rf h3 List.mem_cons_self _ _ w hw) (H4.out.le (hw.wle List.mem_cons_self)) B6.out)) ?_;rintro y27 hy27;refine Za ?_;refine Ze2 1 2 ?_)|(refine Zr 11 ?_;refine Zm ?_;refine Zi ?_;refine Ze3 1 2 29 ?_)|(refine Zr 12 ?_;refine Za ?_;refine Ze1 4 ?_)|(refine Zr 13 ?_;refine Zf ?_;refine Zl 0 ?_;refine Zm ?_;refine Zn (by exact ms_c2 rfl rfl rfl (fun _ _ w hw => szLogRowS_c rA rc rows _ ⟨by omega,by omega⟩ b7 B8.out w (rds_rf h5 List.mem_cons_self _ _ w hw))) ?_;rintro y33 hy33;refine Za ?_;refine Ze2 1 2 ?_)|(refine Zr 14 ?_;refine Zm ?_;refine Zi ?_;refine Ze3 1 2 35 ?_)|(refine Zr 15 ?_;refine Za ?_;refine Ze1 4 ?_)|(refine Zr 16 ?_;refine Zf ?_;refine Zl 0 ?_;refine Zm ?_;refine Zn (by exact ms_c2 rfl rfl rfl (fun _ _ w hw => szLogRowS_c hA hcc hist _ ⟨by omega,by omega⟩ b9 B10.out w (rds_rf h6 List.mem_cons_self _ _ w hw))) ?_;rintro y39 hy39;refine Za ?_;refine Ze1 1 ?_)|(refine Zr 17 ?_;refine Zm ?_;refine Zi ?_;refine Ze2 1 41 ?_)|(refine Zr 18 ?_;refine Za ?_;refine Ze1 4 ?_)|(refine Zr 19 ?_;refine Zm ?_;refine Za ?_;refine Ze1 4 ?_))
  all_goals first
    | exact ok_endL (vs := [.int .i64 (-1)]) rfl ⟨rfl,trivial⟩ (fun w' hw => ⟨mkN (-1) w,rfl,⟨by show (-1 : Int) ≤ -1;decide,by show (-1 : Int) ≤ left;omega,fun h => absurd h (by show ¬ (0 : Int) ≤ -1;decide)⟩,hw.below,NewOk.nil _ _⟩)
    | exact ok_endL (vs := [_]) rfl ⟨rfl,trivial⟩ (fun w' hw => ⟨mkN (y39 0).n w,rfl,⟨by show -1 ≤ (y39 0).n;omega,by show (y39 0).n ≤ left;omega,fun _ => by
        have q1 := hy15.2.2 (by omega)
        have q2 := hy21.2.2 (by omega)
        have q3 := hy27.2.2 (by omega)
        have q4 := hy33.2.2 (by omega)
        have q5 := hy39.2.2 (by omega)
        exact ⟨⟨q1,q2,by simp only;omega,fun k hk => engWt_cnt hk (by simp only;omega),by simp only;omega,q4.2,by simp only;omega⟩,by simp only;omega⟩⟩,hw.below,NewOk.nil _ _⟩)
def memR (l : List LTen) : List RowD := l.map fun t => ⟨t.e.mem.A,t.e.mem.l.length,t.e.mem.c,fl t.e.mem.l⟩
def outR (l : List LTen) : List RowD := l.map fun t => ⟨t.e.tab.A,t.e.tab.l.length,t.e.tab.c,fl t.e.tab.l⟩
def tabR (l : List LTen) : List RowD := l.flatMap fun t => rowsOf t.e.tab.l
def snpR (l : List LTen) : List RowD := l.map fun t => ⟨t.e.snaps.A,t.e.snaps.l.length,t.e.snaps.c,fl t.e.snaps.l⟩
def stObj (s : LStore) : List HObj := [.row 99 2 s.keys.slots.A s.keys.slots.l.length s.keys.slots.c (fl s.keys.slots.l),.row 101 2 s.shares.list.A s.shares.list.l.length s.shares.list.c (fl s.shares.list.l),.row 90 7 s.tens.A s.tens.l.length s.tens.c (fl s.tens.l),.bag 204 4 (memR s.tens.l),.bag 85 1 (outR s.tens.l),.bag 204 4 (tabR s.tens.l),.bag 3 1 (snpR s.tens.l),.row 92 5 s.rows.A s.rows.l.length s.rows.c (fl s.rows.l),.row 92 5 s.hist.A s.hist.l.length s.hist.c (fl s.hist.l)]
theorem WOk.join {base : Nat} {w0 w : World} {H : List HObj} {G : List World} {e sz : Nat} {l1 l2 : List RowD} (h : WOk base w0 (.bag e sz l1 :: .bag e sz l2 :: H) G w) : WOk base w0 (.bag e sz (l2 ++ l1) :: H) G w := by
  rw [WOk.bag_iff,List.map_append,List.append_assoc]
  have h1 := WOk.bag_iff.1 h
  have h2 : WOk base w0 (.bag e sz l2 :: (l1.map (RowD.obj e sz) ++ H)) G w := h1.perm List.perm_middle
  exact WOk.bag_iff.1 h2
theorem rd_bagR {base : Nat} {w0 w : World} {H : List HObj} {G : List World} {e sz : Nat} {l : List RowD} (hw : WOk base w0 H G w) (hi : HObj.bag e sz l ∈ H) {r : RowD} (hr : r ∈ l) : Rd w r.A r.us := Rd.of_own ((hw.own _ hi).1 r hr)
theorem tens_own {base : Nat} {w0 w : World} {H : List HObj} {G : List World} {l : List LTen} (hw : WOk base w0 H G w) {e1 z1 e2 z2 e3 z3 e4 z4 : Nat} (h1 : HObj.bag e1 z1 (memR l) ∈ H) (h2 : HObj.bag e2 z2 (outR l) ∈ H) (h3 : HObj.bag e3 z3 (tabR l) ∈ H) (h4 : HObj.bag e4 z4 (snpR l) ∈ H) : tensRd w l := fun k hk => by
  have hm := nth_mem l k hk
  refine ⟨rd_bagR hw h1 (List.mem_map.2 ⟨_,hm,rfl⟩),⟨rd_bagR hw h2 (List.mem_map.2 ⟨_,hm,rfl⟩),fun j hj => ?_⟩,rd_bagR hw h4 (List.mem_map.2 ⟨_,hm,rfl⟩)⟩
  exact rd_bagR hw h3 (r := (nth (nth l k).e.tab.l j).row) (List.mem_flatMap.2 ⟨_,hm,List.mem_map.2 ⟨_,nth_mem _ j hj,rfl⟩⟩)
theorem st_own {base : Nat} {w0 w : World} {H : List HObj} {G : List World} {s : LStore} (hw : WOk base w0 (stObj s ++ H) G w) : s.rd w := by
  have hm : ∀ x ∈ stObj s,x ∈ stObj s ++ H := fun x hx => List.mem_append_left _ hx
  refine ⟨hw.row 0 rfl,hw.row 1 rfl,hw.row 2 rfl,tens_own hw (e1 := 204) (z1 := 4) (e2 := 85) (z2 := 1) (e3 := 204) (z3 := 4) (e4 := 3) (z4 := 1) (hm _ ?_) (hm _ ?_) (hm _ ?_) (hm _ ?_),hw.row 7 rfl,hw.row 8 rfl⟩ <;> (unfold stObj;simp)
theorem toEng_c (e : LEng) (w : World) (h : e.rd w) (hb : engWt e) :
    Calls Tryz.prog 143 #[e.val] w fun e' w' => ∃ y : Ys,e' = .returned (engVal e.d y) ∧ True ∧ Below w.heap.size w w' ∧ NewOk w.heap.size (engObj e.d y) [] w' := by
  obtain ⟨⟨mA,mc,mem⟩,⟨tA,tc,R⟩,seq,⟨sA,sc,sn⟩⟩ := e
  obtain ⟨h1,h2,h3⟩ := h
  obtain ⟨b1,b2,b3,b4⟩ := hb
  simp only at h1 h2 h3 b1 b2 b3 b4
  have H2 := Lib.hid h2;clear h2
  have B3 := Lib.hid b3;clear b3
  show Calls Tryz.prog 143 #[.agg #[.slice mA mem.length mc,.slice tA R.length tc,.int .i64 seq,.slice sA sn.length sc]] w _
  refine ok_enter 20 Tryz.func143 rfl rfl rfl ?_
  repeat' (first|refine Wa ?_|refine Wb ?_|refine Wg ?_|(refine Zr 0 ?_;refine Zn (ms_box rfl rfl rfl) ?_;rintro y1 hy1;refine Zn (ms_alloc rfl) ?_;rintro y2 hy2;refine Ze2 1 2 ?_)|(refine Zr 1 ?_;refine Zn (ms_alloc rfl) ?_;rintro y3 hy3;refine Ze3 1 2 3 ?_)|(refine Zr 2 ?_;refine Zf ?_;refine Zl 2 ?_;refine Zn (by exact ms_c1 rfl rfl (fun _ _ w hw => toEntS_c mA mc mem w (rds_rf h1 List.mem_cons_self _ _ w hw) b1)) ?_;rintro y6 hy6;refine Zf ?_;refine Zo (ms_store 1 rfl rfl rfl rfl rfl rfl rfl rfl) ?_;rintro y_ hy_;refine Ze3 1 2 3 ?_)|(refine Zr 3 ?_;refine Zf ?_;refine Zl 3 ?_;refine Zn (by exact ms_c1 rfl rfl (fun _ _ w hw => toEntSS_c tA tc R w (RdN.keep hw H2.out List.mem_cons_self) b2 B3.out)) ?_;rintro y10 hy10;refine Zf ?_;refine Zo (ms_store 3 rfl rfl rfl rfl rfl rfl rfl rfl) ?_;rintro y_ hy_;refine Ze3 1 2 3 ?_)|(refine Zr 4 ?_;refine Zf ?_;refine Zl 5 ?_;refine Zf ?_;refine Zo (ms_store 3 rfl rfl rfl rfl rfl rfl rfl rfl) ?_;rintro y_ hy_;refine Ze3 1 2 3 ?_)|(refine Zr 5 ?_;refine Zf ?_;refine Zl 5 ?_;refine Zn (by exact ms_c1 rfl rfl (fun _ _ w hw => toIntS_c sA sc sn w (rds_rf h3 List.mem_cons_self _ _ w hw) b4)) ?_;rintro y17 hy17;refine Zf ?_;refine Zo (ms_store 4 rfl rfl rfl rfl rfl rfl rfl rfl) ?_;rintro y_ hy_;refine Ze2 2 3 ?_)|(refine Zr 6 ?_;refine Zq (by exact ps_loads rfl rfl (by exact rds_box 4 rfl) rfl rfl (by decide)) ?_;refine Zo (ms_store 5 rfl rfl rfl rfl rfl rfl rfl rfl) ?_;rintro y_ hy_;refine Ze1 2 ?_))
  have hS : dats (locs 1 (dats R) y10) = dats R := dats_locs 1 (dats R) y10
  have hSl : (locs 1 (dats R) y10).length = R.length := by rw [locs_len,dats_len]
  simp only [LEng.d]
  generalize locs 1 (dats R) y10 = S at hS hSl ⊢
  rw [← hS,← hSl]
  refine ok_endL (vs := [_]) rfl ⟨⟨_,5,_,_,_,rfl,rfl,inferInstance,rfl,rfl⟩,trivial⟩ (fun w' hw => ⟨cpY (y6 0).A (y6 0).c (y10 0).A (y10 0).c (y17 0).A (y17 0).c S w',?_,trivial,hw.below,?_⟩)
  · rw [(eng_obj _ _ mem _ _ S seq _ _ sn w').1];rfl
  · rw [(eng_obj _ _ mem _ _ S seq _ _ sn w').2]
    exact NewOk.of (hw.sel [3,1,2,0] (by decide) rfl (G' := []) (fun _ h => by cases h))
@[reducible] def tenY (d : DTen) (y : Ys) : LTen := ⟨d.id,d.ep,d.ba,⟨⟨(y 0).A,(y 0).c,d.eng.mem⟩,⟨(y 1).A,(y 1).c,locs 3 d.eng.tabs y⟩,d.eng.seq,⟨(y 2).A,(y 2).c,d.eng.snaps⟩⟩⟩
theorem tenY_d (d : DTen) (y : Ys) : (tenY d y).d = d := by
  simp only [tenY,LTen.d,LEng.d,dats_locs]
theorem tenY_cells (d : DTen) (y : Ys) : Dat.cells (tenY d y) = [.int .i64 d.id,.int .i64 d.ep,.int .i64 d.ba,.slice (y 0).A d.eng.mem.length (y 0).c,.slice (y 1).A d.eng.tabs.length (y 1).c,.int .i64 d.eng.seq,.slice (y 2).A d.eng.snaps.length (y 2).c] := by
  simp only [tenY,Dat.cells,LEng.cells,locs_len]
theorem toSTen_c (t : LTen) (w : World) (h : t.e.rd w) (hb : engWt t.e) :
    Calls Tryz.prog 92 #[.agg (Dat.cells t).toArray] w fun e' w' => ∃ y : Ys,e' = .returned (.agg (Dat.cells (tenY t.d y)).toArray) ∧ True ∧ Below w.heap.size w w' ∧ NewOk w.heap.size (engObj t.e.d y) [] w' := by
  have HR := Lib.hid h;clear h
  have HB := Lib.hid hb;clear hb
  refine ok_enter 18 Tryz.func92 rfl rfl rfl ?_
  repeat' (first|refine Wa ?_|refine Wb ?_|refine Wg ?_|(refine Zr 0 ?_;refine Zn (ms_box rfl rfl rfl) ?_;rintro y1 hy1;refine Zn (ms_alloc rfl) ?_;rintro y2 hy2;refine Ze2 1 2 ?_)|(refine Zr 1 ?_;refine Zn (ms_alloc rfl) ?_;rintro y3 hy3;refine Ze3 1 2 3 ?_)|(refine Zr 2 ?_;refine Zf ?_;refine Zl 2 ?_;refine Zf ?_;refine Zo (ms_store 0 rfl rfl rfl rfl rfl rfl rfl rfl) ?_;rintro y_ hy_;refine Ze3 1 2 3 ?_)|(refine Zr 3 ?_;refine Zf ?_;refine Zl 2 ?_;refine Zf ?_;refine Zo (ms_store 0 rfl rfl rfl rfl rfl rfl rfl rfl) ?_;rintro y_ hy_;refine Ze3 1 2 3 ?_)|(refine Zr 4 ?_;refine Zf ?_;refine Zl 2 ?_;refine Zf ?_;refine Zo (ms_store 0 rfl rfl rfl rfl rfl rfl rfl rfl) ?_;rintro y_ hy_;refine Ze3 1 2 3 ?_)|(refine Zr 5 ?_;refine Zf ?_;refine Zq (by exact ps_loads rfl rfl (by exact rds_box 2 rfl) rfl rfl (by decide)) ?_;refine Zn (by exact ms_c1 rfl rfl (fun _ _ w hw => toEng_c t.e w (HR.out.le (hw.wle List.mem_cons_self)) HB.out)) ?_;rintro y15 hy15;refine Zf ?_;refine Zo (ms_store 4 rfl rfl rfl rfl rfl rfl rfl rfl) ?_;rintro y_ hy_;refine Ze2 2 3 ?_)|(refine Zr 6 ?_;refine Zq (by exact ps_loads rfl rfl (by exact rds_box 4 rfl) rfl rfl (by decide)) ?_;refine Zo (ms_store 5 rfl rfl rfl rfl rfl rfl rfl rfl) ?_;rintro y_ hy_;refine Ze1 2 ?_))
  refine ok_endL (vs := [_]) rfl ⟨⟨_,5,_,_,_,rfl,rfl,inferInstance,rfl,rfl⟩,trivial⟩ (fun w' hw => ⟨y15,?_,trivial,hw.below,NewOk.of (hw.sel [0,1,2,3] (by decide) rfl (G' := []) (fun _ h => by cases h))⟩)
  rw [tenY_cells];rfl
@[reducible] def encOf {α β : Type} [Enc β] (f : α → β) (g : β → α) (h : ∀ x,g (f x) = x) : Enc α := ⟨fun x => Enc.toV (f x),fun v => g (Enc.ofV v),fun x => by rw [Enc.rt,h]⟩
instance : Enc (Option Addr) := ⟨fun A => .slice A 0 0,fun v => match v with
  | .slice A _ _ => A
  | _ => none,fun _ => rfl⟩
instance : Enc Nat := ⟨fun n => .int .i64 n,fun v => (asI v).toNat,fun n => Int.toNat_natCast n⟩
@[reducible] instance encPl {α : Type} [Enc α] : Enc (Pl α) := encOf (β := Option Addr × (Nat × List α)) (fun p => (p.A,(p.c,p.l))) (fun q => ⟨q.1,q.2.1,q.2.2⟩) (fun _ => rfl)
@[reducible] instance encLE : Enc LE := encOf (β := List Ent × (Option Addr × Nat)) (fun l => (l.d,(l.A,l.c))) (fun q => ⟨q.1,q.2.1,q.2.2⟩) (fun _ => rfl)
@[reducible] instance encEng : Enc LEng := encOf (β := Pl Ent × (Pl LE × (Int × Pl Int))) (fun e => (e.mem,(e.tab,(e.seq,e.snaps)))) (fun q => ⟨q.1,q.2.1,q.2.2.1,q.2.2.2⟩) (fun _ => rfl)
@[reducible] instance encTen : Enc LTen := encOf (β := Int × (Int × (Int × LEng))) (fun t => (t.id,(t.ep,(t.ba,t.e)))) (fun q => ⟨q.1,q.2.1,q.2.2.1,q.2.2.2⟩) (fun _ => rfl)
@[reducible] instance encSlot : Enc KeySlot := encOf (β := Int × ByteArray) (fun k => (k.ten,k.key)) (fun q => ⟨q.1,q.2⟩) (fun _ => rfl)
@[reducible] instance encShare : Enc Share := encOf (β := Int × Int) (fun k => (k.ten,k.quo)) (fun q => ⟨q.1,q.2⟩) (fun _ => rfl)
@[reducible] instance encLog : Enc LogRow := encOf (β := Int × (Int × (Int × (ByteArray × Bool)))) (fun k => (k.ten,(k.boot,(k.seq,(k.txt,k.syn))))) (fun q => ⟨q.1,q.2.1,q.2.2.1,q.2.2.2.1,q.2.2.2.2⟩) (fun _ => rfl)
@[reducible] instance encKeys : Enc LKeys := encOf (β := ByteArray × (Pl KeySlot × Int)) (fun k => (k.master,(k.slots,k.wiped))) (fun q => ⟨q.1,q.2.1,q.2.2⟩) (fun _ => rfl)
@[reducible] instance encShares : Enc LShares := encOf (β := Int × Pl Share) (fun k => (k.size,k.list)) (fun q => ⟨q.1,q.2⟩) (fun _ => rfl)
@[reducible] instance encStore : Enc LStore := encOf (β := ByteArray × (LKeys × (LShares × (Pl LTen × (Pl LogRow × (Pl LogRow × Int)))))) (fun s => (s.secret,(s.keys,(s.shares,(s.tens,(s.rows,(s.hist,s.boot))))))) (fun q => ⟨q.1,q.2.1,q.2.2.1,q.2.2.2.1,q.2.2.2.2.1,q.2.2.2.2.2.1,q.2.2.2.2.2.2⟩) (fun _ => rfl)
theorem memR_snoc (l : List LTen) (t : LTen) : memR (l ++ [t]) = memR l ++ [⟨t.e.mem.A,t.e.mem.l.length,t.e.mem.c,fl t.e.mem.l⟩] := by simp [memR]
theorem outR_snoc (l : List LTen) (t : LTen) : outR (l ++ [t]) = outR l ++ [⟨t.e.tab.A,t.e.tab.l.length,t.e.tab.c,fl t.e.tab.l⟩] := by simp [outR]
theorem tabR_snoc (l : List LTen) (t : LTen) : tabR (l ++ [t]) = tabR l ++ rowsOf t.e.tab.l := by simp [tabR]
theorem snpR_snoc (l : List LTen) (t : LTen) : snpR (l ++ [t]) = snpR l ++ [⟨t.e.snaps.A,t.e.snaps.l.length,t.e.snaps.c,fl t.e.snaps.l⟩] := by simp [snpR]
def yT (y : Ys) : List LTen := yE (y 0)
def mkT (l : List LTen) (A : Option Addr) (c : Nat) (w : World) : Ys := fun i => if i = 0 then ⟨none,0,eW l w,0⟩ else ⟨A,c,w,0⟩
theorem yT_mk (l : List LTen) (A : Option Addr) (c : Nat) (w : World) : yT (mkT l A c w) = l := yE_mk none 0 l w 0
def tensObj (A : Option Addr) (c : Nat) (l : List LTen) : List HObj := [.row 90 7 A l.length c (fl l),.bag 204 4 (memR l),.bag 85 1 (outR l),.bag 204 4 (tabR l),.bag 3 1 (snpR l)]
theorem toSTenS_c (A : Option Addr) (c : Nat) (l : List LTen) (w : World) (h : Rd w A (fl l)) (hr : tensRd w l) (hl : l.length ≤ 1048576) (hb : ∀ k,k < l.length → engWt (nth l k).e) :
    Calls Tryz.prog 43 #[.slice A l.length c] w fun e' w' => ∃ y : Ys,e' = .returned (.slice (y 1).A (yT y).length (y 1).c) ∧ (yT y).map LTen.d = l.map LTen.d ∧ Below w.heap.size w w' ∧ NewOk w.heap.size (tensObj (y 1).A (y 1).c (yT y)) [] w' := by
  have HR := Lib.hid hr;clear hr
  have HB := Lib.hid hb;clear hb
  refine ok_enter 23 Tryz.func43 rfl rfl rfl ?_
  repeat' (first|refine Wa ?_|refine Wb ?_|refine Wd ?_|(refine Zr 0 ?_;refine Za ?_;refine Ze1 0 ?_)|(refine Zr 1 ?_;refine Zm ?_;refine Zq (ps_len rfl rfl) ?_;refine Zn (by exact ms_make (z := Dat.cells (Dat.dflt : LTen)) rfl rfl rfl (by omega) (by omega)) ?_;rintro y7 hy7;refine Za ?_;refine Ze2 0 3 ?_)|(refine Zr 2 ?_;refine Za ?_;refine Ze3 0 3 4 ?_))
  rw [show (madeCells (Dat.cells (Dat.dflt : LTen)).toArray (l.length * 7)).toList = fl (List.replicate l.length (Dat.dflt : LTen)) from made_fl (Dat.dflt : LTen) l.length]
  refine ok_loop (ι := { p : List LTen // p.length ≤ l.length ∧ p.map LTen.d = (l.take p.length).map LTen.d }) (fun p => l.length - p.1.length) (fun p => ([(0,.slice A l.length c),(3,.slice (ga (y7 0).c) l.length l.length),(4,.int .i64 p.1.length)],[.bag 204 4 (memR p.1),.bag 85 1 (outR p.1),.bag 204 4 (tabR p.1),.bag 3 1 (snpR p.1),.row 90 7 (ga (y7 0).c) l.length l.length (fl (p.1 ++ List.replicate (l.length - p.1.length) (Dat.dflt : LTen)))],_)) ⟨[],by simp,by simp⟩ (fun a w he hw => ⟨⟨[],by simp,by simp⟩,he.sub ⟨rfl,rfl,rfl,trivial⟩,by
    have := ((((hw.bag_nil 3 1).bag_nil 204 4).bag_nil 85 1).bag_nil 204 4)
    simpa [memR,outR,tabR,snpR] using this⟩) ?_
  rintro ⟨p,hp,hd⟩
  simp only at hp hd ⊢
  have HD := Lib.hid hd;clear hd
  repeat' (first|refine Wa ?_|refine Wb ?_|refine Wd ?_|refine We ?_|(refine ok_cond rfl (fun hc => ?_) (fun hc => ?_) <;> (have hd := hc;try simp only [jj] at hd))|refine Wg ?_|refine Wh ?_|refine Wi ?_|(refine Zr 3 ?_;refine Zm ?_;refine Zm ?_;refine Zq (ps_len rfl rfl) ?_;refine Zi ?_;refine Ze4 0 3 4 11 ?_)|(refine Zr 4 ?_;refine Zm ?_;refine Zq (by exact ps_add rfl rfl rfl (by omega)) ?_;refine Za ?_;refine Ze3 0 3 4 ?_)|(refine Zr 5 ?_;refine Zm ?_;refine Zm ?_;refine Zm ?_;refine Zm ?_;refine Zq (by exact ps_indexN rfl rfl rfl (by omega) (by exact isw_of (isS_fl (by assumption) (by omega)))) ?_;refine Zq (by exact ps_loads (vs := Dat.cells (nth l p.length)) rfl rfl (rds_rf h List.mem_cons_self) (fl_sub l p.length (by omega)) (Dat.len (nth l p.length)) (by decide)) ?_;refine Zn (by exact ms_c1 rfl rfl (fun _ _ w hw => toSTen_c (nth l p.length) w ((HR.out p.length (by omega)).le (hw.wle List.mem_cons_self)) (HB.out _ (by omega)))) ?_;rintro y20 hy20;refine Zq (by exact ps_indexN rfl rfl rfl (by omega) (isw_ga _)) ?_;refine Zo (by exact ms_setw 8 p.length (tenY (nth l p.length).d y20) rfl rfl rfl rfl rfl rfl rfl rfl rfl (by simp;omega)) ?_;rintro y_ hy_;refine Ze3 0 3 4 ?_)|(refine Zr 6 ?_;refine Zm ?_;refine Za ?_;refine Ze1 2 ?_))
  · refine fun a w' he hw => ⟨⟨p ++ [tenY (nth l p.length).d y20],by simp;omega,?_⟩,by simp;omega,he.sub ⟨rfl,rfl,by simp;rfl,trivial⟩,?_⟩
    · rw [List.map_append,HD.out,List.length_append,List.length_singleton,takeG (by omega),List.map_append]
      congr 1
      show [(tenY (nth l p.length).d y20).d] = [(nth l p.length).d]
      rw [tenY_d]
    · obtain ⟨m,hm⟩ : ∃ m,l.length - p.length = m + 1 := ⟨l.length - p.length - 1,by omega⟩
      rw [hm,fillP] at hw
      have e2 : l.length - (p ++ [tenY (nth l p.length).d y20]).length = m := by rw [List.length_append,List.length_singleton];omega
      simp only [e2]
      rw [memR_snoc,outR_snoc,tabR_snoc,snpR_snoc]
      simp only [locs_len]
      have q1 := (hw.sel [0,4,1,5,2,6,3,7,8] (by decide) rfl (fun _ h => h)).absorb
      have q2 := (q1.sel [1,2,3,4,5,6,7,0] (by decide) rfl (fun _ h => h)).absorb
      have q3 := (q2.sel [1,2,3,4,5,6,0] (by decide) rfl (fun _ h => h)).join
      have q4 := (q3.sel [1,2,3,4,5,0] (by decide) rfl (fun _ h => h)).absorb
      exact q4.sel [2,3,4,0,1] (by decide) rfl (fun _ h => h)
  · have hpl : p.length = l.length := by omega
    have hdp : p.map LTen.d = l.map LTen.d := by rw [HD.out,hpl,List.take_length]
    refine ok_endL (vs := [_]) rfl ⟨rfl,trivial⟩ (fun w' hw => ⟨mkT p (ga (y7 0).c) l.length w,?_,?_,hw.below,?_⟩)
    · rw [yT_mk,hpl];rfl
    · rw [yT_mk];exact hdp
    · rw [yT_mk]
      have := NewOk.of (hw.sel [4,0,1,2,3] (by decide) rfl (G' := []) (fun _ h => by cases h))
      rw [hpl,Nat.sub_self,List.replicate_zero,List.append_nil] at this
      unfold tensObj
      rw [hpl]
      exact this
theorem toKeyDev_c (m : ByteArray) (A : Option Addr) (c : Nat) (l : List KeySlot) (wi : Int) (w : World) (h : Rd w A (fl l)) (hl : l.length ≤ 1048576) :
    Calls Tryz.prog 41 #[.agg #[.string m,.slice A l.length c,.int .i64 wi]] w fun e' w' => ∃ y : Ys,e' = .returned (.agg #[.string m,.slice (y 0).A l.length (y 0).c,.int .i64 wi]) ∧ True ∧ Below w.heap.size w w' ∧ NewOk w.heap.size [.row 99 2 (y 0).A l.length (y 0).c (fl l)] [] w' := by
  refine ok_enter 15 Tryz.func41 rfl rfl rfl ?_
  repeat' (first|refine Wa ?_|refine Wb ?_|refine Wg ?_|(refine Zr 0 ?_;refine Zn (ms_box rfl rfl rfl) ?_;rintro y1 hy1;refine Zn (ms_alloc rfl) ?_;rintro y2 hy2;refine Ze2 1 2 ?_)|(refine Zr 1 ?_;refine Zn (ms_alloc rfl) ?_;rintro y3 hy3;refine Ze3 1 2 3 ?_)|(refine Zr 2 ?_;refine Zf ?_;refine Zl 2 ?_;refine Zf ?_;refine Zo (ms_store 0 rfl rfl rfl rfl rfl rfl rfl rfl) ?_;rintro y_ hy_;refine Ze3 1 2 3 ?_)|(refine Zr 3 ?_;refine Zf ?_;refine Zl 2 ?_;refine Zn (by exact ms_c1 rfl rfl (fun _ _ w hw => toKeySlotS_c A c l w (rds_rf h List.mem_cons_self _ _ w hw) hl)) ?_;rintro y9 hy9;refine Zf ?_;refine Zo (ms_store 1 rfl rfl rfl rfl rfl rfl rfl rfl) ?_;rintro y_ hy_;refine Ze3 1 2 3 ?_)|(refine Zr 4 ?_;refine Zf ?_;refine Zl 3 ?_;refine Zf ?_;refine Zo (ms_store 1 rfl rfl rfl rfl rfl rfl rfl rfl) ?_;rintro y_ hy_;refine Ze2 2 3 ?_)|(refine Zr 5 ?_;refine Zq (by exact ps_loads rfl rfl (by exact rds_box 1 rfl) rfl rfl (by decide)) ?_;refine Zo (ms_store 2 rfl rfl rfl rfl rfl rfl rfl rfl) ?_;rintro y_ hy_;refine Ze1 2 ?_))
  exact ok_endL (vs := [_]) rfl ⟨⟨_,2,_,_,_,rfl,rfl,inferInstance,rfl,rfl⟩,trivial⟩ (fun w' hw => ⟨y9,rfl,trivial,hw.below,NewOk.of (hw.sel [0] (by decide) rfl (G' := []) (fun _ h => by cases h))⟩)
theorem toShares_c (sz : Int) (A : Option Addr) (c : Nat) (l : List Share) (w : World) (h : Rd w A (fl l)) (hl : l.length ≤ 1048576) :
    Calls Tryz.prog 42 #[.agg #[.int .i64 sz,.slice A l.length c]] w fun e' w' => ∃ y : Ys,e' = .returned (.agg #[.int .i64 sz,.slice (y 0).A l.length (y 0).c]) ∧ True ∧ Below w.heap.size w w' ∧ NewOk w.heap.size [.row 101 2 (y 0).A l.length (y 0).c (fl l)] [] w' := by
  refine ok_enter 12 Tryz.func42 rfl rfl rfl ?_
  repeat' (first|refine Wa ?_|refine Wb ?_|refine Wg ?_|(refine Zr 0 ?_;refine Zn (ms_box rfl rfl rfl) ?_;rintro y1 hy1;refine Zn (ms_alloc rfl) ?_;rintro y2 hy2;refine Ze2 1 2 ?_)|(refine Zr 1 ?_;refine Zn (ms_alloc rfl) ?_;rintro y3 hy3;refine Ze3 1 2 3 ?_)|(refine Zr 2 ?_;refine Zf ?_;refine Zl 2 ?_;refine Zf ?_;refine Zo (ms_store 0 rfl rfl rfl rfl rfl rfl rfl rfl) ?_;rintro y_ hy_;refine Ze3 1 2 3 ?_)|(refine Zr 3 ?_;refine Zf ?_;refine Zl 2 ?_;refine Zn (by exact ms_c1 rfl rfl (fun _ _ w hw => toShareS_c A c l w (rds_rf h List.mem_cons_self _ _ w hw) hl)) ?_;rintro y9 hy9;refine Zf ?_;refine Zo (ms_store 1 rfl rfl rfl rfl rfl rfl rfl rfl) ?_;rintro y_ hy_;refine Ze2 2 3 ?_)|(refine Zr 4 ?_;refine Zq (by exact ps_loads rfl rfl (by exact rds_box 1 rfl) rfl rfl (by decide)) ?_;refine Zo (ms_store 2 rfl rfl rfl rfl rfl rfl rfl rfl) ?_;rintro y_ hy_;refine Ze1 2 ?_))
  exact ok_endL (vs := [_]) rfl ⟨⟨_,2,_,_,_,rfl,rfl,inferInstance,rfl,rfl⟩,trivial⟩ (fun w' hw => ⟨y9,rfl,trivial,hw.below,NewOk.of (hw.sel [0] (by decide) rfl (G' := []) (fun _ h => by cases h))⟩)
def yS5 (y : Ys) : LStore := yE (y 0)
def mkS5 (s : LStore) (w : World) : Ys := fun _ => ⟨none,0,eW s w,0⟩
theorem yS5_mk (s : LStore) (w : World) : yS5 (mkS5 s w) = s := yE_mk none 0 s w 0
theorem toStore_c (s : LStore) (w : World) (h : s.rd w) (hb : stWt s) :
    Calls Tryz.prog 10 #[s.val] w fun e' w' => ∃ y : Ys,e' = .returned (yS5 y).val ∧ (yS5 y).d = s.d ∧ Below w.heap.size w w' ∧ NewOk w.heap.size (stObj (yS5 y)) [] w' := by
  obtain ⟨sec,⟨mk,⟨kA,kc,slots⟩,wi⟩,⟨ssz,⟨shA,shc,shl⟩⟩,⟨tnA,tnc,tens⟩,⟨rA,rc,rows⟩,⟨hA,hcc,hist⟩,bo⟩ := s
  obtain ⟨h1,h2,h3,h4,h5,h6⟩ := h
  obtain ⟨b1,b2,b3,b4,b5,b6,b7⟩ := hb
  simp only [LKeys.rd,LShares.rd] at h1 h2 h3 h4 h5 h6 b1 b2 b3 b4 b5 b6 b7
  have B4 := Lib.hid b4;clear b4
  have H4 := Lib.hid h4;clear h4
  clear b6
  show Calls Tryz.prog 10 #[.agg #[.string sec,.string mk,.slice kA slots.length kc,.int .i64 wi,.int .i64 ssz,.slice shA shl.length shc,.slice tnA tens.length tnc,.slice rA rows.length rc,.slice hA hist.length hcc,.int .i64 bo]] w _
  refine ok_enter 31 Tryz.func10 rfl rfl rfl ?_
  repeat' (first|refine Wa ?_|(refine Zr 0 ?_;refine Zn (ms_box rfl rfl rfl) ?_;rintro y1 hy1;refine Zn (ms_alloc rfl) ?_;rintro y2 hy2;refine Ze2 1 2 ?_)|(refine Zr 1 ?_;refine Zn (ms_alloc rfl) ?_;rintro y3 hy3;refine Ze3 1 2 3 ?_)|(refine Zr 2 ?_;refine Zf ?_;refine Zl 2 ?_;refine Zf ?_;refine Zo (ms_store 0 rfl rfl rfl rfl rfl rfl rfl rfl) ?_;rintro y_ hy_;refine Ze3 1 2 3 ?_)|(refine Zr 3 ?_;refine Zf ?_;refine Zq (by exact ps_loads rfl rfl (by exact rds_box 2 rfl) rfl rfl (by decide)) ?_;refine Zn (by exact ms_c1 rfl rfl (fun _ _ w hw => toKeyDev_c mk kA kc slots wi w (rds_rf h1 List.mem_cons_self _ _ w hw) b1)) ?_;rintro y9 hy9;refine Zf ?_;refine Zo (ms_store 1 rfl rfl rfl rfl rfl rfl rfl rfl) ?_;rintro y_ hy_;refine Ze3 1 2 3 ?_)|(refine Zr 4 ?_;refine Zf ?_;refine Zq (by exact ps_loads rfl rfl (by exact rds_box 3 rfl) rfl rfl (by decide)) ?_;refine Zn (by exact ms_c1 rfl rfl (fun _ _ w hw => toShares_c ssz shA shc shl w (rds_rf h2 List.mem_cons_self _ _ w hw) b2)) ?_;rintro y13 hy13;refine Zf ?_;refine Zo (ms_store 2 rfl rfl rfl rfl rfl rfl rfl rfl) ?_;rintro y_ hy_;refine Ze3 1 2 3 ?_)|(refine Zr 5 ?_;refine Zf ?_;refine Zl 4 ?_;refine Zn (by exact ms_c1 rfl rfl (fun _ _ w hw => toSTenS_c tnA tnc tens w (rds_rf h3 List.mem_cons_self _ _ w hw) (H4.out.le (hw.wle List.mem_cons_self)) b3 B4.out)) ?_;rintro y17 hy17;refine Zf ?_;refine Zo (ms_store 7 rfl rfl rfl rfl rfl rfl rfl rfl) ?_;rintro y_ hy_;refine Ze3 1 2 3 ?_))
  refine ok_sel [0,1,2,3,4,5,6,7,8,9] (by decide) (H' := [.row 90 7 (y17 1).A (yT y17).length (y17 1).c (fl (yT y17)),.bag 204 4 (memR (yT y17)),.bag 85 1 (outR (yT y17)),.bag 204 4 (tabR (yT y17)),.bag 3 1 (snpR (yT y17)),.row 101 2 (y13 0).A shl.length (y13 0).c (fl shl),.row 99 2 (y9 0).A slots.length (y9 0).c (fl slots),.box (y3 0).c 43 [.string sec,.string mk,.slice (y9 0).A slots.length (y9 0).c,.int .i64 wi,.int .i64 ssz,.slice (y13 0).A shl.length (y13 0).c,.slice (y17 1).A (yT y17).length (y17 1).c,.slice none 0 0,.slice none 0 0,.int .i64 0],.box (y2 0).c 43 [.string ⟨#[]⟩,.string ⟨#[]⟩,.slice none 0 0,.int .i64 0,.int .i64 0,.slice none 0 0,.slice none 0 0,.slice none 0 0,.slice none 0 0,.int .i64 0],.box (y1 0).c 31 [.string sec,.string mk,.slice kA slots.length kc,.int .i64 wi,.int .i64 ssz,.slice shA shl.length shc,.slice tnA tens.length tnc,.slice rA rows.length rc,.slice hA hist.length hcc,.int .i64 bo]]) rfl ?_
  repeat' (first|refine Wa ?_|refine Wb ?_|refine Wg ?_|(refine Zr 6 ?_;refine Zf ?_;refine Zl 9 ?_;refine Zn (by exact ms_c1 rfl rfl (fun _ _ w hw => toLogRowS_c rA rc rows w (rds_rf h5 List.mem_cons_self _ _ w hw) b5)) ?_;rintro y21 hy21;refine Zf ?_;refine Zo (ms_store 8 rfl rfl rfl rfl rfl rfl rfl rfl) ?_;rintro y_ hy_;refine Ze3 1 2 3 ?_)|(refine Zr 7 ?_;refine Zf ?_;refine Zl 10 ?_;refine Zn (by exact ms_c1 rfl rfl (fun _ _ w hw => toLogRowS_c hA hcc hist w (rds_rf h6 List.mem_cons_self _ _ w hw) b7)) ?_;rintro y25 hy25;refine Zf ?_;refine Zo (ms_store 9 rfl rfl rfl rfl rfl rfl rfl rfl) ?_;rintro y_ hy_;refine Ze3 1 2 3 ?_)|(refine Zr 8 ?_;refine Zf ?_;refine Zl 11 ?_;refine Zf ?_;refine Zo (ms_store 9 rfl rfl rfl rfl rfl rfl rfl rfl) ?_;rintro y_ hy_;refine Ze2 2 3 ?_)|(refine Zr 9 ?_;refine Zq (by exact ps_loads rfl rfl (by exact rds_box 9 rfl) rfl rfl (by decide)) ?_;refine Zo (ms_store 10 rfl rfl rfl rfl rfl rfl rfl rfl) ?_;rintro y_ hy_;refine Ze1 2 ?_))
  refine ok_endL (vs := [_]) rfl ⟨⟨_,10,_,_,_,rfl,rfl,inferInstance,rfl,rfl⟩,trivial⟩ (fun w' hw => ⟨mkS5 ⟨sec,⟨mk,⟨(y9 0).A,(y9 0).c,slots⟩,wi⟩,⟨ssz,⟨(y13 0).A,(y13 0).c,shl⟩⟩,⟨(y17 1).A,(y17 1).c,yT y17⟩,⟨(y21 0).A,(y21 0).c,rows⟩,⟨(y25 0).A,(y25 0).c,hist⟩,bo⟩ w',?_,?_,hw.below,?_⟩)
  · rw [yS5_mk];rfl
  · rw [yS5_mk];simp only [LStore.d];rw [hy17]
  · rw [yS5_mk];exact NewOk.of (hw.sel [8,7,2,3,4,5,6,1,0] (by decide) rfl (G' := []) (fun _ h => by cases h))
theorem engWt.of_d {e e' : LEng} (h : e'.d = e.d) (hw : engWt e) : engWt e' := by
  obtain ⟨⟨mA,mc,mem⟩,⟨tA,tc,R⟩,seq,⟨sA,sc,sn⟩⟩ := e
  obtain ⟨⟨nA,nc,mem'⟩,⟨uA,uc,S⟩,seq',⟨vA,vc,sn'⟩⟩ := e'
  simp only [LEng.d,DEng.mk.injEq] at h
  obtain ⟨rfl,h2,rfl,rfl⟩ := h
  obtain ⟨b1,b2,b3,b4⟩ := hw
  refine ⟨b1,?_,?_,b4⟩
  · simp only at b2 ⊢;rw [← dats_len,h2,dats_len];exact b2
  · simp only at b3 ⊢;rw [h2];exact b3
theorem eqEng_c (e e' : LEng) (hd : e'.d = e.d) (w : World) (h : e.rd w) (h' : e'.rd w) (hb : engWt e) :
    Calls Tryz.prog 154 #[e.val,e'.val] w fun r w' => r = .returned (.bool true) ∧ Below w.heap.size w w' := by
  obtain ⟨⟨mA,mc,mem⟩,⟨tA,tc,R⟩,seq,⟨sA,sc,sn⟩⟩ := e
  obtain ⟨⟨nA,nc,mem'⟩,⟨uA,uc,S⟩,seq',⟨vA,vc,sn'⟩⟩ := e'
  simp only [LEng.d,DEng.mk.injEq] at hd
  obtain ⟨rfl,hS,rfl,rfl⟩ := hd
  obtain ⟨h1,h2,h3⟩ := h
  obtain ⟨g1,g2,g3⟩ := h'
  obtain ⟨b1,b2,b3,b4⟩ := hb
  simp only at h1 h2 h3 g1 g2 g3 b1 b2 b3 b4
  have H2 := Lib.hid h2;clear h2
  have G2 := Lib.hid g2;clear g2
  have B3 := Lib.hid b3;clear b3
  show Calls Tryz.prog 154 #[.agg #[.slice mA mem'.length mc,.slice tA R.length tc,.int .i64 seq',.slice sA sn'.length sc],.agg #[.slice nA mem'.length nc,.slice uA S.length uc,.int .i64 seq',.slice vA sn'.length vc]] w _
  refine ok_enter 28 Tryz.func154 rfl rfl rfl ?_
  repeat' (first|refine Wa ?_|refine Wb ?_|refine Wc ?_|(refine ok_cond rfl (fun hc => ?_) (fun hc => ?_) <;> (have hd := hc;try simp only [jj] at hd))|refine Wg ?_|refine Wi ?_|(refine Zr 0 ?_;refine Zn (ms_box rfl rfl rfl) ?_;rintro y2 hy2;refine Zn (ms_box rfl rfl rfl) ?_;rintro y3 hy3;refine Za ?_;refine Ze2 2 3 ?_)|(refine Zr 1 ?_;refine Zf ?_;refine Zl 1 ?_;refine Zf ?_;refine Zl 0 ?_;refine Zn (by exact ms_s2 rfl rfl rfl (fun _ _ w hw => eqEntS_c mA nA mc nc mem' w (rds_rf h1 List.mem_cons_self _ _ w hw) (rds_rf g1 List.mem_cons_self _ _ w hw) (by omega))) ?_;rintro y9 hy9;refine Zq (ps_not rfl rfl) ?_;refine Ze3 2 3 10 ?_)|(refine Zr 3 ?_;refine Zf ?_;refine Zl 1 ?_;refine Zf ?_;refine Zl 0 ?_;refine Zn (by exact ms_s2 rfl rfl rfl (fun _ _ w hw => eqEntSS_c tA uA tc uc R S hS w (RdN.keep hw H2.out List.mem_cons_self) (RdN.keep hw G2.out List.mem_cons_self) (by omega) (fun x hx => by have := B3.out x hx;omega))) ?_;rintro y15 hy15;refine Zq (ps_not rfl rfl) ?_;refine Ze3 2 3 16 ?_)|(refine Zr 5 ?_;refine Zf ?_;refine Zl 1 ?_;refine Zf ?_;refine Zl 0 ?_;refine Zi ?_;refine Ze3 2 3 21 ?_)|(refine Zr 6 ?_;refine Za ?_;refine Ze1 4 ?_)|(refine Zr 7 ?_;refine Zf ?_;refine Zl 1 ?_;refine Zf ?_;refine Zl 0 ?_;refine Zn (by exact ms_s2 rfl rfl rfl (fun _ _ w hw => eqIntS_c sA vA sc vc sn' w (rds_rf h3 List.mem_cons_self _ _ w hw) (rds_rf g3 List.mem_cons_self _ _ w hw) (by omega))) ?_;rintro y26 hy26;refine Zq (ps_not rfl rfl) ?_;refine Ze1 27 ?_)|(refine Zr 9 ?_;refine Za ?_;refine Ze1 4 ?_))
  all_goals first
    | (exfalso;simp at hc;done)
    | exact ok_endL (vs := [_]) rfl ⟨rfl,trivial⟩ (fun w' hw => ⟨rfl,hw.below⟩)
theorem eqSTen_c (t t' : LTen) (hd : t'.d = t.d) (w : World) (h : t.e.rd w) (h' : t'.e.rd w) (hb : engWt t.e) :
    Calls Tryz.prog 101 #[.agg (Dat.cells t).toArray,.agg (Dat.cells t').toArray] w fun r w' => r = .returned (.bool true) ∧ Below w.heap.size w w' := by
  obtain ⟨id,ep,ba,e⟩ := t
  obtain ⟨id',ep',ba',e'⟩ := t'
  simp only [LTen.d,DTen.mk.injEq] at hd
  obtain ⟨rfl,rfl,rfl,he⟩ := hd
  have HR := Lib.hid h;clear h
  have HR' := Lib.hid h';clear h'
  have HB := Lib.hid hb;clear hb
  refine ok_enter 26 Tryz.func101 rfl rfl rfl ?_
  repeat' (first|refine Wa ?_|refine Wb ?_|refine Wc ?_|(refine ok_cond rfl (fun hc => ?_) (fun hc => ?_) <;> (have hd := hc;try simp only [jj] at hd))|refine Wg ?_|refine Wi ?_|(refine Zr 0 ?_;refine Zn (ms_box rfl rfl rfl) ?_;rintro y2 hy2;refine Zn (ms_box rfl rfl rfl) ?_;rintro y3 hy3;refine Za ?_;refine Ze2 2 3 ?_)|(refine Zr 1 ?_;refine Zf ?_;refine Zl 1 ?_;refine Zf ?_;refine Zl 0 ?_;refine Zi ?_;refine Ze3 2 3 9 ?_)|(refine Zr 2 ?_;refine Za ?_;refine Ze1 4 ?_)|(refine Zr 3 ?_;refine Zf ?_;refine Zl 1 ?_;refine Zf ?_;refine Zl 0 ?_;refine Zi ?_;refine Ze3 2 3 14 ?_)|(refine Zr 4 ?_;refine Za ?_;refine Ze1 4 ?_)|(refine Zr 5 ?_;refine Zf ?_;refine Zl 1 ?_;refine Zf ?_;refine Zl 0 ?_;refine Zi ?_;refine Ze3 2 3 19 ?_)|(refine Zr 6 ?_;refine Za ?_;refine Ze1 4 ?_)|(refine Zr 7 ?_;refine Zf ?_;refine Zq (by exact ps_loads rfl rfl (by exact rds_box 1 rfl) rfl rfl (by decide)) ?_;refine Zf ?_;refine Zq (by exact ps_loads rfl rfl (by exact rds_box 0 rfl) rfl rfl (by decide)) ?_;refine Zn (by exact ms_s2 rfl rfl rfl (fun _ _ w hw => eqEng_c e e' he w (HR.out.le (hw.wle List.mem_cons_self)) (HR'.out.le (hw.wle List.mem_cons_self)) HB.out)) ?_;rintro y24 hy24;refine Zq (ps_not rfl rfl) ?_;refine Ze1 25 ?_)|(refine Zr 9 ?_;refine Za ?_;refine Ze1 4 ?_))
  all_goals first
    | (exfalso;simp at hc;done)
    | exact ok_endL (vs := [_]) rfl ⟨rfl,trivial⟩ (fun w' hw => ⟨rfl,hw.below⟩)
theorem map_nth {l l' : List LTen} (h : l'.map LTen.d = l.map LTen.d) : l'.length = l.length ∧ ∀ k,k < l.length → (nth l' k).d = (nth l k).d := by
  have hl : l'.length = l.length := by have := congrArg List.length h;simpa using this
  refine ⟨hl,fun k hk => ?_⟩
  have := congrArg (fun x => x[k]?) h
  simp only [List.getElem?_map] at this
  simpa [nth,hk,hl] using this
theorem eqSTenS_c (A B : Option Addr) (c d : Nat) (l l' : List LTen) (hd : l'.map LTen.d = l.map LTen.d) (w : World) (h : Rd w A (fl l)) (h' : Rd w B (fl l')) (hr : tensRd w l) (hr' : tensRd w l') (hl : l.length ≤ 1048576) (hb : ∀ k,k < l.length → engWt (nth l k).e) :
    Calls Tryz.prog 49 #[.slice A l.length c,.slice B l'.length d] w fun r w' => r = .returned (.bool true) ∧ Below w.heap.size w w' := by
  obtain ⟨hll,hdk⟩ := map_nth hd
  have HR := Lib.hid hr;clear hr
  have HR' := Lib.hid hr';clear hr'
  have HB := Lib.hid hb;clear hb
  have HD := Lib.hid hdk;clear hdk
  rw [hll]
  refine ok_enter 27 Tryz.func49 rfl rfl rfl ?_
  repeat' (first|refine Wa ?_|refine Wb ?_|refine Wc ?_|refine Wd ?_|(refine ok_cond rfl (fun hc => ?_) (fun hc => ?_) <;> (have hd := hc;try simp only [jj] at hd))|refine Wg ?_|refine Wi ?_|(refine Zr 0 ?_;refine Za ?_;refine Ze2 0 1 ?_)|(refine Zr 1 ?_;refine Zm ?_;refine Zq (ps_len rfl rfl) ?_;refine Zm ?_;refine Zq (ps_len rfl rfl) ?_;refine Zi ?_;refine Ze3 0 1 10 ?_)|(refine Zr 2 ?_;refine Za ?_;refine Ze1 4 ?_)|(refine Zr 3 ?_;refine Za ?_;refine Ze3 0 1 5 ?_))
  · exfalso;simp at hc
  refine ok_loop (ι := { k : Nat // k ≤ l.length }) (fun k => l.length - k.1) (fun k => ([(0,.slice A l.length c),(1,.slice B l.length d),(5,.int .i64 k.1)],_,_)) ⟨0,by omega⟩ (fun a w he hw => ⟨⟨0,by omega⟩,he.sub ⟨rfl,rfl,rfl,trivial⟩,hw⟩) ?_
  rintro ⟨k,hk⟩
  simp only at hk ⊢
  repeat' (first|refine Wa ?_|refine Wb ?_|refine Wd ?_|refine We ?_|(refine ok_cond rfl (fun hc => ?_) (fun hc => ?_) <;> (have hd := hc;try simp only [jj] at hd))|refine Wg ?_|refine Wh ?_|refine Wi ?_|(refine Zr 4 ?_;refine Zm ?_;refine Zm ?_;refine Zq (ps_len rfl rfl) ?_;refine Zi ?_;refine Ze4 0 1 5 14 ?_)|(refine Zr 5 ?_;refine Zm ?_;refine Zq (by exact ps_add rfl rfl rfl (by omega)) ?_;refine Za ?_;refine Ze3 0 1 5 ?_)|(refine Xd 6 10 ?_;refine Xm 0 ?_;refine Xm 1 ?_;refine Xt 2 rfl (by exact ps_indexN rfl rfl rfl (by omega) (by exact isw_of (isS_fl (by assumption) (by omega)))) ?_;refine Xt 3 rfl (by exact ps_loads (vs := Dat.cells (nth l k)) rfl rfl (rds_rf h List.mem_cons_self) (fl_sub l k (by omega)) (Dat.len (nth l k)) (by decide)) ?_;refine Xm 4 ?_;refine Xm 5 ?_;refine Xt 6 rfl (by exact ps_indexN rfl rfl rfl (by omega) (by exact isw_of (isS_fl (by assumption) (by omega)))) ?_;refine Xt 7 rfl (by exact ps_loads (vs := Dat.cells (nth l' k)) rfl rfl (rds_rf h' List.mem_cons_self) (fl_sub l' k (by omega)) (Dat.len (nth l' k)) (by decide)) ?_;refine Xo 8 rfl (by exact ms_s2 rfl rfl rfl (fun _ _ w hw => eqSTen_c (nth l k) (nth l' k) (HD.out k (by omega)) w ((HR.out k (by omega)).le (hw.wle List.mem_cons_self)) ((HR'.out k (by omega)).le (hw.wle List.mem_cons_self)) (HB.out k (by omega)))) (fun y w _ h => by exact h) ?_;rintro y25 hy25;refine Xt 9 rfl (ps_not rfl rfl) ?_;refine okT_done (by kernel_rfl) ?_;refine Ze4 0 1 5 26 ?_)|(refine Zr 8 ?_;refine Za ?_;refine Ze1 4 ?_))
  · exact fun a w' he hw => ⟨⟨k + 1,by omega⟩,by simp only;omega,he.sub ⟨rfl,rfl,rfl,trivial⟩,hw⟩
  · exact ok_endL (vs := [_]) rfl ⟨rfl,trivial⟩ (fun w' hw => ⟨rfl,hw.below⟩)
theorem eqKeyDev_c (m : ByteArray) (A B : Option Addr) (c d : Nat) (l : List KeySlot) (wi : Int) (w : World) (h : Rd w A (fl l)) (h' : Rd w B (fl l)) (hl : l.length ≤ 1048576) :
    Calls Tryz.prog 47 #[.agg #[.string m,.slice A l.length c,.int .i64 wi],.agg #[.string m,.slice B l.length d,.int .i64 wi]] w fun r w' => r = .returned (.bool true) ∧ Below w.heap.size w w' := by
  refine ok_enter 21 Tryz.func47 rfl rfl rfl ?_
  repeat' (first|refine Wa ?_|refine Wb ?_|refine Wc ?_|(refine ok_cond rfl (fun hc => ?_) (fun hc => ?_) <;> (have hd := hc;try simp only [jj] at hd))|refine Wg ?_|refine Wi ?_|(refine Zr 0 ?_;refine Zn (ms_box rfl rfl rfl) ?_;rintro y2 hy2;refine Zn (ms_box rfl rfl rfl) ?_;rintro y3 hy3;refine Za ?_;refine Ze2 2 3 ?_)|(refine Zr 1 ?_;refine Zf ?_;refine Zl 1 ?_;refine Zf ?_;refine Zl 0 ?_;refine Zq (ps_str rfl rfl rfl rfl) ?_;refine Ze3 2 3 9 ?_)|(refine Zr 2 ?_;refine Za ?_;refine Ze1 4 ?_)|(refine Zr 3 ?_;refine Zf ?_;refine Zl 1 ?_;refine Zf ?_;refine Zl 0 ?_;refine Zn (by exact ms_s2 rfl rfl rfl (fun _ _ w hw => eqKeySlotS_c A B c d l w (rds_rf h List.mem_cons_self _ _ w hw) (rds_rf h' List.mem_cons_self _ _ w hw) (by omega))) ?_;rintro y14 hy14;refine Zq (ps_not rfl rfl) ?_;refine Ze3 2 3 15 ?_)|(refine Zr 5 ?_;refine Zf ?_;refine Zl 1 ?_;refine Zf ?_;refine Zl 0 ?_;refine Zi ?_;refine Ze1 20 ?_)|(refine Zr 6 ?_;refine Za ?_;refine Ze1 4 ?_)|(refine Zr 7 ?_;refine Za ?_;refine Ze1 4 ?_))
  all_goals first
    | (exfalso;simp [sEq] at hc;done)
    | exact ok_endL (vs := [_]) rfl ⟨rfl,trivial⟩ (fun w' hw => ⟨rfl,hw.below⟩)
theorem eqShares_c (sz : Int) (A B : Option Addr) (c d : Nat) (l : List Share) (w : World) (h : Rd w A (fl l)) (h' : Rd w B (fl l)) (hl : l.length ≤ 1048576) :
    Calls Tryz.prog 48 #[.agg #[.int .i64 sz,.slice A l.length c],.agg #[.int .i64 sz,.slice B l.length d]] w fun r w' => r = .returned (.bool true) ∧ Below w.heap.size w w' := by
  refine ok_enter 16 Tryz.func48 rfl rfl rfl ?_
  repeat' (first|refine Wa ?_|refine Wb ?_|refine Wc ?_|(refine ok_cond rfl (fun hc => ?_) (fun hc => ?_) <;> (have hd := hc;try simp only [jj] at hd))|refine Wg ?_|refine Wi ?_|(refine Zr 0 ?_;refine Zn (ms_box rfl rfl rfl) ?_;rintro y2 hy2;refine Zn (ms_box rfl rfl rfl) ?_;rintro y3 hy3;refine Za ?_;refine Ze2 2 3 ?_)|(refine Zr 1 ?_;refine Zf ?_;refine Zl 1 ?_;refine Zf ?_;refine Zl 0 ?_;refine Zi ?_;refine Ze3 2 3 9 ?_)|(refine Zr 2 ?_;refine Za ?_;refine Ze1 4 ?_)|(refine Zr 3 ?_;refine Zf ?_;refine Zl 1 ?_;refine Zf ?_;refine Zl 0 ?_;refine Zn (by exact ms_s2 rfl rfl rfl (fun _ _ w hw => eqShareS_c A B c d l w (rds_rf h List.mem_cons_self _ _ w hw) (rds_rf h' List.mem_cons_self _ _ w hw) (by omega))) ?_;rintro y14 hy14;refine Zq (ps_not rfl rfl) ?_;refine Ze1 15 ?_)|(refine Zr 5 ?_;refine Za ?_;refine Ze1 4 ?_))
  all_goals first
    | (exfalso;simp at hc;done)
    | exact ok_endL (vs := [_]) rfl ⟨rfl,trivial⟩ (fun w' hw => ⟨rfl,hw.below⟩)
theorem eqStore_c (s s' : LStore) (hd : s'.d = s.d) (w : World) (h : s.rd w) (h' : s'.rd w) (hb : stWt s) :
    Calls Tryz.prog 12 #[s.val,s'.val] w fun r w' => r = .returned (.bool true) ∧ Below w.heap.size w w' := by
  obtain ⟨sec,⟨mk,⟨kA,kc,slots⟩,wi⟩,⟨ssz,⟨shA,shc,shl⟩⟩,⟨tnA,tnc,tens⟩,⟨rA,rc,rows⟩,⟨hA,hcc,hist⟩,bo⟩ := s
  obtain ⟨sec',⟨mk',⟨kA',kc',slots'⟩,wi'⟩,⟨ssz',⟨shA',shc',shl'⟩⟩,⟨tnA',tnc',tens'⟩,⟨rA',rc',rows'⟩,⟨hA',hcc',hist'⟩,bo'⟩ := s'
  simp only [LStore.d,LKeys.d,LShares.d,DStore.mk.injEq,DKeys.mk.injEq,DShares.mk.injEq] at hd
  obtain ⟨rfl,⟨rfl,rfl,rfl⟩,⟨rfl,rfl⟩,hT,rfl,rfl,rfl⟩ := hd
  obtain ⟨h1,h2,h3,h4,h5,h6⟩ := h
  obtain ⟨g1,g2,g3,g4,g5,g6⟩ := h'
  obtain ⟨b1,b2,b3,b4,b5,b6,b7⟩ := hb
  simp only [LKeys.rd,LShares.rd] at h1 h2 h3 h4 h5 h6 g1 g2 g3 g4 g5 g6 b1 b2 b3 b4 b5 b6 b7
  have B4 := Lib.hid b4;clear b4
  have H4 := Lib.hid h4;clear h4
  have G4 := Lib.hid g4;clear g4
  clear b6
  show Calls Tryz.prog 12 #[.agg #[.string sec',.string mk',.slice kA slots'.length kc,.int .i64 wi',.int .i64 ssz',.slice shA shl'.length shc,.slice tnA tens.length tnc,.slice rA rows'.length rc,.slice hA hist'.length hcc,.int .i64 bo'],.agg #[.string sec',.string mk',.slice kA' slots'.length kc',.int .i64 wi',.int .i64 ssz',.slice shA' shl'.length shc',.slice tnA' tens'.length tnc',.slice rA' rows'.length rc',.slice hA' hist'.length hcc',.int .i64 bo']] w _
  refine ok_enter 45 Tryz.func12 rfl rfl rfl ?_
  repeat' (first|refine Wa ?_|refine Wb ?_|refine Wc ?_|(refine ok_cond rfl (fun hc => ?_) (fun hc => ?_) <;> (have hd := hc;try simp only [jj] at hd))|refine Wg ?_|refine Wi ?_|(refine Zr 0 ?_;refine Zn (ms_box rfl rfl rfl) ?_;rintro y2 hy2;refine Zn (ms_box rfl rfl rfl) ?_;rintro y3 hy3;refine Za ?_;refine Ze2 2 3 ?_)|(refine Zr 1 ?_;refine Zf ?_;refine Zl 1 ?_;refine Zf ?_;refine Zl 0 ?_;refine Zq (ps_str rfl rfl rfl rfl) ?_;refine Ze3 2 3 9 ?_)|(refine Zr 2 ?_;refine Za ?_;refine Ze1 4 ?_)|(refine Zr 3 ?_;refine Zf ?_;refine Zq (by exact ps_loads rfl rfl (by exact rds_box 1 rfl) rfl rfl (by decide)) ?_;refine Zf ?_;refine Zq (by exact ps_loads rfl rfl (by exact rds_box 0 rfl) rfl rfl (by decide)) ?_;refine Zn (by exact ms_s2 rfl rfl rfl (fun _ _ w hw => eqKeyDev_c mk' kA kA' kc kc' slots' wi' w (rds_rf h1 List.mem_cons_self _ _ w hw) (rds_rf g1 List.mem_cons_self _ _ w hw) b1)) ?_;rintro y14 hy14;refine Zq (ps_not rfl rfl) ?_;refine Ze3 2 3 15 ?_)|(refine Zr 5 ?_;refine Zf ?_;refine Zq (by exact ps_loads rfl rfl (by exact rds_box 1 rfl) rfl rfl (by decide)) ?_;refine Zf ?_;refine Zq (by exact ps_loads rfl rfl (by exact rds_box 0 rfl) rfl rfl (by decide)) ?_;refine Zn (by exact ms_s2 rfl rfl rfl (fun _ _ w hw => eqShares_c ssz' shA shA' shc shc' shl' w (rds_rf h2 List.mem_cons_self _ _ w hw) (rds_rf g2 List.mem_cons_self _ _ w hw) b2)) ?_;rintro y20 hy20;refine Zq (ps_not rfl rfl) ?_;refine Ze3 2 3 21 ?_)|(refine Zr 7 ?_;refine Zf ?_;refine Zl 1 ?_;refine Zf ?_;refine Zl 0 ?_;refine Zn (by exact ms_s2 rfl rfl rfl (fun _ _ w hw => eqSTenS_c tnA tnA' tnc tnc' tens tens' hT w (rds_rf h3 List.mem_cons_self _ _ w hw) (rds_rf g3 List.mem_cons_self _ _ w hw) (H4.out.le (hw.wle List.mem_cons_self)) (G4.out.le (hw.wle List.mem_cons_self)) b3 B4.out)) ?_;rintro y26 hy26;refine Zq (ps_not rfl rfl) ?_;refine Ze3 2 3 27 ?_)|(refine Zr 9 ?_;refine Zf ?_;refine Zl 1 ?_;refine Zf ?_;refine Zl 0 ?_;refine Zn (by exact ms_s2 rfl rfl rfl (fun _ _ w hw => eqLogRowS_c rA rA' rc rc' rows' w (rds_rf h5 List.mem_cons_self _ _ w hw) (rds_rf g5 List.mem_cons_self _ _ w hw) (by omega))) ?_;rintro y32 hy32;refine Zq (ps_not rfl rfl) ?_;refine Ze3 2 3 33 ?_)|(refine Zr 11 ?_;refine Zf ?_;refine Zl 1 ?_;refine Zf ?_;refine Zl 0 ?_;refine Zn (by exact ms_s2 rfl rfl rfl (fun _ _ w hw => eqLogRowS_c hA hA' hcc hcc' hist' w (rds_rf h6 List.mem_cons_self _ _ w hw) (rds_rf g6 List.mem_cons_self _ _ w hw) (by omega))) ?_;rintro y38 hy38;refine Zq (ps_not rfl rfl) ?_;refine Ze3 2 3 39 ?_)|(refine Zr 13 ?_;refine Zf ?_;refine Zl 1 ?_;refine Zf ?_;refine Zl 0 ?_;refine Zi ?_;refine Ze1 44 ?_)|(refine Zr 14 ?_;refine Za ?_;refine Ze1 4 ?_)|(refine Zr 15 ?_;refine Za ?_;refine Ze1 4 ?_))
  all_goals first
    | (exfalso;simp [sEq] at hc;done)
    | exact ok_endL (vs := [_]) rfl ⟨rfl,trivial⟩ (fun w' hw => ⟨rfl,hw.below⟩)
theorem stWt.of_d {s s' : LStore} (hd : s'.d = s.d) (hw : stWt s) : stWt s' := by
  obtain ⟨sec,⟨mk,⟨kA,kc,slots⟩,wi⟩,⟨ssz,⟨shA,shc,shl⟩⟩,⟨tnA,tnc,tens⟩,⟨rA,rc,rows⟩,⟨hA,hcc,hist⟩,bo⟩ := s
  obtain ⟨sec',⟨mk',⟨kA',kc',slots'⟩,wi'⟩,⟨ssz',⟨shA',shc',shl'⟩⟩,⟨tnA',tnc',tens'⟩,⟨rA',rc',rows'⟩,⟨hA',hcc',hist'⟩,bo'⟩ := s'
  simp only [LStore.d,LKeys.d,LShares.d,DStore.mk.injEq,DKeys.mk.injEq,DShares.mk.injEq] at hd
  obtain ⟨rfl,⟨rfl,rfl,rfl⟩,⟨rfl,rfl⟩,hT,rfl,rfl,rfl⟩ := hd
  obtain ⟨b1,b2,b3,b4,b5,b6,b7⟩ := hw
  obtain ⟨hl,hk⟩ := map_nth hT
  refine ⟨b1,b2,?_,fun k hk' => ?_,b5,b6,b7⟩
  · simp only at b3 ⊢;omega
  · simp only at hk' ⊢
    exact (b4 k (by simp only;omega)).of_d (congrArg DTen.eng (hk k (by omega)))
theorem ok_imp {N base : Nat} {w0 : World} {E : Env} {H H' : List HObj} {G G' : List World} {K : Act → World → Prop} (h1 : ∀ w,WOk base w0 H G w → WOk base w0 H' G' w) (h : Ok N base w0 E H' G' K) : Ok N base w0 E H G K := fun a w he hw => h a w he (h1 w hw)
theorem WOk.cut {base : Nat} {w0 w : World} {H : List HObj} {G : List World} {e sz : Nat} {l1 l2 : List RowD} (h : WOk base w0 (.bag e sz (l1 ++ l2) :: H) G w) : WOk base w0 (.bag e sz l1 :: .bag e sz l2 :: H) G w := by
  have h1 := WOk.bag_iff.1 h
  rw [List.map_append,List.append_assoc] at h1
  have h2 : WOk base w0 (l2.map (RowD.obj e sz) ++ (l1.map (RowD.obj e sz) ++ H)) G w := h1.perm (by
    rw [← List.append_assoc,← List.append_assoc]
    exact List.Perm.append_right _ List.perm_append_comm)
  have h3 := WOk.bag_iff.2 h2
  have h4 : WOk base w0 (l1.map (RowD.obj e sz) ++ (.bag e sz l2 :: H)) G w := h3.perm List.perm_middle.symm
  exact WOk.bag_iff.2 h4
structure MkT (l : List LTen) (k0 : Int) where
  q : List LTen
  v : Int
  hq : q.length ≤ l.length
  hv : k0 ≤ v ∧ v ≤ k0 + 4 * (cntL (l.take q.length) : Int) + 4 * (q.length : Int)
def tenBags (l : List LTen) : List HObj := [.bag 204 4 (memR l),.bag 85 1 (outR l),.bag 204 4 (tabR l),.bag 3 1 (snpR l)]
theorem WOk.tens_pull {base : Nat} {w0 w : World} {H : List HObj} {G : List World} {t : LTen} {r : List LTen} {o : HObj} (h : WOk base w0 (o :: (tenBags (t :: r) ++ H)) G w) :
    WOk base w0 ([.row 85 1 t.e.tab.A t.e.tab.l.length t.e.tab.c (fl t.e.tab.l),.bag 204 4 (rowsOf t.e.tab.l),o,.row 204 4 t.e.mem.A t.e.mem.l.length t.e.mem.c (fl t.e.mem.l),.row 3 1 t.e.snaps.A t.e.snaps.l.length t.e.snaps.c (fl t.e.snaps.l)] ++ (tenBags r ++ H)) G w := by
  have e3 : tabR (t :: r) = rowsOf t.e.tab.l ++ tabR r := by simp [tabR]
  have h0 : WOk base w0 (o :: .bag 204 4 ([] ++ ⟨t.e.mem.A,t.e.mem.l.length,t.e.mem.c,fl t.e.mem.l⟩ :: memR r) :: .bag 85 1 ([] ++ ⟨t.e.tab.A,t.e.tab.l.length,t.e.tab.c,fl t.e.tab.l⟩ :: outR r) :: .bag 204 4 (rowsOf t.e.tab.l ++ tabR r) :: .bag 3 1 ([] ++ ⟨t.e.snaps.A,t.e.snaps.l.length,t.e.snaps.c,fl t.e.snaps.l⟩ :: snpR r) :: H) G w := by rw [← e3];exact h
  have q1 := WOk.pull (h0.front 1 rfl)
  have q2 := WOk.pull (l1 := []) (q1.front 3 rfl)
  have q3 := WOk.cut (q2.front 5 rfl)
  have q4 := WOk.pull (l1 := []) (q3.front 7 rfl)
  exact ((((((((q4.front 1 rfl).front 3 rfl).front 5 rfl).front 7 rfl).front 4 rfl).front 7 rfl).front 8 rfl).front 7 rfl).front 8 rfl
theorem dropT {l : List LTen} {j : Nat} (h : j < l.length) : l.drop j = nth l j :: l.drop (j + 1) := by
  rw [List.drop_eq_getElem_cons h];congr 1;unfold nth;simp [h]
theorem nth_midT (q : List LTen) (t : LTen) (r : List LTen) : nth (q ++ t :: r) q.length = t := by
  unfold nth;simp
theorem markSTenS_c (A : Option Addr) (c : Nat) (l : List LTen) (k0 : Int) (hk0 : 0 ≤ k0 ∧ k0 ≤ 10000000000000) (hl : cntL l + l.length ≤ 1048576) {base : Nat} {w0 w : World} {H : List HObj} {G : List World}
    (hw : WOk base w0 (.row 90 7 A l.length c (fl l) :: (tenBags l ++ H)) G w) :
    Calls Tryz.prog 60 #[.slice A l.length c,.int .i64 k0] w fun e w' => ∃ y : Ys,e = .returned (.int .i64 (y 0).n) ∧ (k0 ≤ (y 0).n ∧ (y 0).n ≤ k0 + 4194304) ∧ WOk base w0 H G w' := by
  refine ok_enterW 66 Tryz.func60 rfl rfl rfl hw ?_
  repeat' (first|refine Wa ?_|refine Wb ?_|refine Wd ?_|(refine Zr 0 ?_;refine Za ?_;refine Ze2 0 1 ?_)|(refine Zr 1 ?_;refine Za ?_;refine Ze3 0 1 5 ?_))
  refine ok_loop (ι := MkT l k0) (fun p => l.length - p.q.length) (fun p => ([(0,.slice A l.length c),(1,.int .i64 p.v),(5,.int .i64 p.q.length)],.row 90 7 A l.length c (fl (p.q ++ l.drop p.q.length)) :: (tenBags (l.drop p.q.length) ++ H),_)) ⟨[],k0,by simp,by simp [cntL]⟩ (fun a w he hw => ⟨⟨[],k0,by simp,by simp [cntL]⟩,he.sub ⟨rfl,rfl,rfl,trivial⟩,hw⟩) ?_
  rintro ⟨q,v,hq,hv⟩
  simp only at hq hv ⊢
  rcases Nat.lt_or_ge q.length l.length with hk | hk
  · have hcs := cntL_step (l := l) (k := q.length) hk
    have hle : cntL (l.take (q.length + 1)) ≤ cntL l := cntL_take l _
    have et : l.drop q.length = nth l q.length :: l.drop (q.length + 1) := dropT hk
    rw [et]
    generalize nth l q.length = t at hcs et ⊢
    obtain ⟨id,ep,ba,⟨⟨mA,mc,mem⟩,⟨tA,tc,R⟩,seq,⟨sA,sc,sn⟩⟩⟩ := t
    simp only [cntE] at hcs
    refine ok_imp (fun w hw => WOk.tens_pull hw) ?_
    simp only [List.cons_append,List.nil_append]
    have hn0 : nth (q ++ (⟨id,ep,ba,⟨⟨mA,mc,mem⟩,⟨tA,tc,R⟩,seq,⟨sA,sc,sn⟩⟩⟩ : LTen) :: l.drop (q.length + 1)) q.length = ⟨id,ep,ba,⟨⟨mA,mc,mem⟩,⟨tA,tc,R⟩,seq,⟨sA,sc,sn⟩⟩⟩ := nth_midT q _ _
    have hlen : q.length < (q ++ (⟨id,ep,ba,⟨⟨mA,mc,mem⟩,⟨tA,tc,R⟩,seq,⟨sA,sc,sn⟩⟩⟩ : LTen) :: l.drop (q.length + 1)).length := by simp
    generalize hL : q ++ (⟨id,ep,ba,⟨⟨mA,mc,mem⟩,⟨tA,tc,R⟩,seq,⟨sA,sc,sn⟩⟩⟩ : LTen) :: l.drop (q.length + 1) = L at hn0 hlen ⊢
    have hot := offE_tot (dats R)
    rw [dats_len] at hot
    repeat' (first|refine Wa ?_|refine Wb ?_|refine Wd ?_|refine We ?_|(refine ok_cond rfl (fun hc => ?_) (fun hc => ?_) <;> (have hd := hc;try simp only [jj] at hd))|refine Wg ?_|refine Wh ?_|refine Wi ?_|(refine Zr 2 ?_;refine Zm ?_;refine Zm ?_;refine Zq (ps_len rfl rfl) ?_;refine Zi ?_;refine Ze4 0 1 5 9 ?_)|(refine Zr 3 ?_;refine Zm ?_;refine Zq (by exact ps_add rfl rfl rfl (by omega)) ?_;refine Za ?_;refine Ze3 0 1 5 ?_)|(refine Zr 4 ?_;refine Zm ?_;refine Zm ?_;refine Zm ?_;refine Zq (by exact ps_indexN rfl rfl rfl (by omega) (by exact isw_row 2 rfl (by omega))) ?_;refine Zq (by exact ps_field rfl rfl (by exact isw_row 2 rfl (by omega))) ?_;refine Zo (by exact ms_setc 2 q.length 0 (⟨v,ep,ba,⟨⟨mA,mc,mem⟩,⟨tA,tc,R⟩,seq,⟨sA,sc,sn⟩⟩⟩ : LTen) rfl rfl rfl rfl rfl rfl rfl rfl (by rw [hn0];rfl) (by simpa using hlen)) ?_;rintro y_ hy_;refine Ze3 0 1 5 ?_)|(refine Zr 5 ?_;refine Zm ?_;refine Zq (by exact ps_add rfl rfl rfl (by omega)) ?_;refine Za ?_;refine Ze3 0 1 5 ?_)|(refine Zr 6 ?_;refine Zm ?_;refine Zm ?_;refine Zm ?_;refine Zq (by exact ps_indexN rfl rfl rfl (by omega) (by exact isw_row 2 rfl (by omega))) ?_;refine Zq (by exact ps_field rfl rfl (by exact isw_row 2 rfl (by omega))) ?_;refine Zo (by exact ms_setc 2 q.length 1 (⟨v,v + 1,ba,⟨⟨mA,mc,mem⟩,⟨tA,tc,R⟩,seq,⟨sA,sc,sn⟩⟩⟩ : LTen) rfl rfl rfl rfl rfl rfl rfl rfl (by rw [nth_set _ _ _ (by simpa using hlen)];rfl) (by simpa using hlen)) ?_;rintro y_ hy_;refine Ze3 0 1 5 ?_)|(refine Zr 7 ?_;refine Zm ?_;refine Zq (by exact ps_add rfl rfl rfl (by omega)) ?_;refine Za ?_;refine Ze3 0 1 5 ?_)|(refine Zr 8 ?_;refine Zm ?_;refine Zm ?_;refine Zm ?_;refine Zq (by exact ps_indexN rfl rfl rfl (by omega) (by exact isw_row 2 rfl (by omega))) ?_;refine Zq (by exact ps_field rfl rfl (by exact isw_row 2 rfl (by omega))) ?_;refine Zo (by exact ms_setc 2 q.length 2 (⟨v,v + 1,v + 1 + 1,⟨⟨mA,mc,mem⟩,⟨tA,tc,R⟩,seq,⟨sA,sc,sn⟩⟩⟩ : LTen) rfl rfl rfl rfl rfl rfl rfl rfl (by rw [nth_set _ _ _ (by simpa using hlen)];rfl) (by simpa using hlen)) ?_;rintro y_ hy_;refine Ze3 0 1 5 ?_)|(refine Zr 9 ?_;refine Zm ?_;refine Zq (by exact ps_add rfl rfl rfl (by omega)) ?_;refine Za ?_;refine Ze3 0 1 5 ?_)|(refine Zr 10 ?_;refine Zm ?_;refine Zm ?_;refine Zq (by exact ps_indexN rfl rfl rfl (by omega) (by exact isw_row 2 rfl (by omega))) ?_;refine Zq (by exact ps_field rfl rfl (by exact isw_row 2 rfl (by omega))) ?_;refine Zq (by exact ps_field rfl rfl (by exact isw_row 2 rfl (by omega))) ?_;refine Zq (by exact ps_load (u := .slice mA mem.length mc) rfl rfl (Rds.cell (rds_row 2 rfl) (by rw [show (q.length * 7 + 3) = q.length * Dat.sz LTen + 3 from rfl,fl_at _ _ _ (by simpa using hlen) (by decide),nth_set _ _ _ (by simpa using hlen)] <;> rfl))) ?_;refine Zm ?_;refine Zn (by exact ms_wr 3 rfl rfl rfl rfl (fun _ _ w hw => markEntS_c mA mc mem (v + 1 + 1 + 1) ⟨by omega,by omega⟩ (by omega) hw)) ?_;rintro y40 hy40;refine Za ?_;refine Ze3 0 1 5 ?_)|(refine Zr 11 ?_;refine Zm ?_;refine Zm ?_;refine Zq (by exact ps_indexN rfl rfl rfl (by omega) (by exact isw_row 2 rfl (by omega))) ?_;refine Zq (by exact ps_field rfl rfl (by exact isw_row 2 rfl (by omega))) ?_;refine Zq (by exact ps_field rfl rfl (by exact isw_row 2 rfl (by omega))) ?_;refine Zq (by exact ps_load (u := .slice tA R.length tc) rfl rfl (Rds.cell (rds_row 2 rfl) (by rw [show (q.length * 7 + 4) = q.length * Dat.sz LTen + 4 from rfl,fl_at _ _ _ (by simpa using hlen) (by decide),nth_set _ _ _ (by simpa using hlen)] <;> rfl))) ?_;refine Zm ?_;refine Zn (by exact ms_w2 (fun _ _ _ h => h) rfl rfl rfl (fun _ _ w hw => markEntSS_c tA tc R (v + 1 + 1 + 1 + 4 * (mem.length : Int)) ⟨by omega,by omega⟩ (by omega) (fun x hx => by exact tot_at (T := dats R) (m := 4194304) (by omega) x hx) hw)) ?_;rintro y48 hy48;refine Za ?_;refine Ze3 0 1 5 ?_)|(refine Zr 12 ?_;refine Zm ?_;refine Zm ?_;refine Zm ?_;refine Zq (by exact ps_indexN rfl rfl rfl (by omega) (by exact isw_row 2 rfl (by omega))) ?_;refine Zq (by exact ps_field rfl rfl (by exact isw_row 2 rfl (by omega))) ?_;refine Zq (by exact ps_field rfl rfl (by exact isw_row 2 rfl (by omega))) ?_;refine Zo (by exact ms_setc 2 q.length 5 (⟨v,v + 1,v + 1 + 1,⟨⟨mA,mc,mem⟩,⟨tA,tc,R⟩,(v + 1 + 1 + 1 + 4 * (mem.length : Int) + 4 * (offE (dats R) R.length : Int)),⟨sA,sc,sn⟩⟩⟩ : LTen) rfl rfl rfl rfl rfl rfl rfl rfl (by rw [nth_set _ _ _ (by simpa using hlen)];rfl) (by simpa using hlen)) ?_;rintro y_ hy_;refine Ze3 0 1 5 ?_)|(refine Zr 13 ?_;refine Zm ?_;refine Zq (by exact ps_add rfl rfl rfl (by omega)) ?_;refine Za ?_;refine Ze3 0 1 5 ?_)|(refine Zr 14 ?_;refine Zm ?_;refine Zm ?_;refine Zq (by exact ps_indexN rfl rfl rfl (by omega) (by exact isw_row 2 rfl (by omega))) ?_;refine Zq (by exact ps_field rfl rfl (by exact isw_row 2 rfl (by omega))) ?_;refine Zq (by exact ps_field rfl rfl (by exact isw_row 2 rfl (by omega))) ?_;refine Zq (by exact ps_load (u := .slice sA sn.length sc) rfl rfl (Rds.cell (rds_row 2 rfl) (by rw [show (q.length * 7 + 6) = q.length * Dat.sz LTen + 6 from rfl,fl_at _ _ _ (by simpa using hlen) (by decide),nth_set _ _ _ (by simpa using hlen)] <;> rfl))) ?_;refine Zm ?_;refine Zn (by exact ms_wr 4 rfl rfl rfl rfl (fun _ _ w hw => markIntS_c sA sc sn ((v + 1 + 1 + 1 + 4 * (mem.length : Int) + 4 * (offE (dats R) R.length : Int)) + 1) ⟨by omega,by omega⟩ (by omega) hw)) ?_;rintro y64 hy64;refine Za ?_;refine Ze3 0 1 5 ?_)|(refine Zr 15 ?_;refine Zm ?_;refine Za ?_;refine Ze1 4 ?_))
    · refine fun a w' he hw => ⟨⟨q ++ [(⟨v,v + 1,v + 1 + 1,⟨⟨mA,mc,mem⟩,⟨tA,tc,R⟩,v + 1 + 1 + 1 + 4 * (mem.length : Int) + 4 * (offE (dats R) R.length : Int),⟨sA,sc,sn⟩⟩⟩ : LTen)],_,by simp;omega,by rw [List.length_append,List.length_singleton];omega⟩,by simp;omega,he.sub ⟨rfl,rfl,by simp;rfl,trivial⟩,?_⟩
      have h1 := (((hw.tl.tl).front 1 rfl).tl.front 1 rfl).tl
      simp only [List.length_append,List.length_singleton,List.append_assoc,List.singleton_append]
      refine WOk.same ?_ h1
      rw [← hL]
      simp
    · exfalso;omega
  · skip
    repeat' ((fail_if_success (refine at_block 1 ?_));first
      | refine Wa ?_
      | refine Wb ?_
      | refine Wd ?_
      | (refine ok_cond rfl (fun hc => ?_) (fun hc => ?_) <;> (have hd := hc;try simp only [jj] at hd))
      | refine Wg ?_
      | refine Wh ?_
      | refine Wi ?_
      | (refine Zr 2 ?_;refine Zm ?_;refine Zm ?_;refine Zq (ps_len rfl rfl) ?_;refine Zi ?_;refine Ze4 0 1 5 9 ?_)
      | (refine Zr 15 ?_;refine Zm ?_;refine Za ?_;refine Ze1 4 ?_))
    · exfalso;omega
    · have e : q.length = l.length := by omega
      refine ok_endL (vs := [_]) rfl ⟨rfl,trivial⟩ (fun w' hw => ⟨mkN v w,rfl,⟨hv.1,?_⟩,?_⟩)
      · show v ≤ k0 + 4194304
        rw [e,List.take_length] at hv
        omega
      · exact hw.tl.tl.tl.tl.tl
theorem markKeyDev_c (m : ByteArray) (A : Option Addr) (c : Nat) (l : List KeySlot) (wi k0 : Int) (hk0 : 0 ≤ k0 ∧ k0 ≤ 1000000000000000) (hl : l.length ≤ 140737488355328) {base : Nat} {w0 w : World} {H : List HObj} {G : List World}
    (hw : WOk base w0 (.row 99 2 A l.length c (fl l) :: H) G w) :
    Calls Tryz.prog 58 #[.agg #[.string m,.slice A l.length c,.int .i64 wi],.int .i64 k0] w fun e w' => ∃ y : Ys,e = .returned (.int .i64 (k0 + 2 * (l.length : Int))) ∧ True ∧ WOk base w0 (.row 99 2 A l.length c (fl (mkL k0 l.length : List KeySlot)) :: H) G w' := by
  refine ok_enterW 10 Tryz.func58 rfl rfl rfl hw ?_
  repeat' (first|refine Wa ?_|refine Wb ?_|refine Wg ?_|(refine Zr 0 ?_;refine Zn (ms_box rfl rfl rfl) ?_;rintro y2 hy2;refine Za ?_;refine Ze2 1 2 ?_)|(refine Zr 1 ?_;refine Zf ?_;refine Zl 0 ?_;refine Zm ?_;refine Zn (by exact ms_w2 (fun _ _ _ h => h.front 1 rfl) rfl rfl rfl (fun _ _ w hw => markKeySlotS_c A c l k0 hk0 hl hw)) ?_;rintro y8 hy8;refine Za ?_;refine Ze1 1 ?_)|(refine Zr 2 ?_;refine Zm ?_;refine Za ?_;refine Ze1 4 ?_))
  exact ok_endL (vs := [_]) rfl ⟨rfl,trivial⟩ (fun w' hw => ⟨mkN 0 w,rfl,trivial,(hw.front 1 rfl).tl⟩)
theorem markShares_c (sz : Int) (A : Option Addr) (c : Nat) (l : List Share) (k0 : Int) (hk0 : 0 ≤ k0 ∧ k0 ≤ 1000000000000000) (hl : l.length ≤ 140737488355328) {base : Nat} {w0 w : World} {H : List HObj} {G : List World}
    (hw : WOk base w0 (.row 101 2 A l.length c (fl l) :: H) G w) :
    Calls Tryz.prog 59 #[.agg #[.int .i64 sz,.slice A l.length c],.int .i64 k0] w fun e w' => ∃ y : Ys,e = .returned (.int .i64 (k0 + 2 * (l.length : Int))) ∧ True ∧ WOk base w0 (.row 101 2 A l.length c (fl (mkL k0 l.length : List Share)) :: H) G w' := by
  refine ok_enterW 10 Tryz.func59 rfl rfl rfl hw ?_
  repeat' (first|refine Wa ?_|refine Wb ?_|refine Wg ?_|(refine Zr 0 ?_;refine Zn (ms_box rfl rfl rfl) ?_;rintro y2 hy2;refine Za ?_;refine Ze2 1 2 ?_)|(refine Zr 1 ?_;refine Zf ?_;refine Zl 0 ?_;refine Zm ?_;refine Zn (by exact ms_w2 (fun _ _ _ h => h.front 1 rfl) rfl rfl rfl (fun _ _ w hw => markShareS_c A c l k0 hk0 hl hw)) ?_;rintro y8 hy8;refine Za ?_;refine Ze1 1 ?_)|(refine Zr 2 ?_;refine Zm ?_;refine Za ?_;refine Ze1 4 ?_))
  exact ok_endL (vs := [_]) rfl ⟨rfl,trivial⟩ (fun w' hw => ⟨mkN 0 w,rfl,trivial,(hw.front 1 rfl).tl⟩)
theorem markStore_c (s : LStore) (hwt : stWt s) (hsz : cntL s.tens.l + s.tens.l.length ≤ 1048576) {base : Nat} {w0 w : World} {H : List HObj} {G : List World}
    (hw : WOk base w0 (stObj s ++ H) G w) :
    Calls Tryz.prog 16 #[s.val,.int .i64 1] w fun e w' => ∃ y : Ys,e = .returned (.int .i64 (y 0).n) ∧ 0 ≤ (y 0).n ∧ WOk base w0 H G w' := by
  obtain ⟨sec,⟨mk,⟨kA,kc,slots⟩,wi⟩,⟨ssz,⟨shA,shc,shl⟩⟩,⟨tnA,tnc,tens⟩,⟨rA,rc,rows⟩,⟨hA,hcc,hist⟩,bo⟩ := s
  obtain ⟨b1,b2,b3,b4,b5,b6,b7⟩ := hwt
  simp only at b1 b2 b3 b5 b7 hsz
  clear b4 b6
  have hw' : WOk base w0 (.row 99 2 kA slots.length kc (fl slots) :: .row 101 2 shA shl.length shc (fl shl) :: .row 90 7 tnA tens.length tnc (fl tens) :: (tenBags tens ++ (.row 92 5 rA rows.length rc (fl rows) :: .row 92 5 hA hist.length hcc (fl hist) :: H))) G w := hw
  clear hw
  show Calls Tryz.prog 16 #[.agg #[.string sec,.string mk,.slice kA slots.length kc,.int .i64 wi,.int .i64 ssz,.slice shA shl.length shc,.slice tnA tens.length tnc,.slice rA rows.length rc,.slice hA hist.length hcc,.int .i64 bo],.int .i64 1] w _
  refine ok_enterW 26 Tryz.func16 rfl rfl rfl hw' ?_
  repeat' ((fail_if_success (refine at_reg 3 ?_));first
    | refine Wa ?_
    | (refine Zr 0 ?_;refine Zn (ms_box rfl rfl rfl) ?_;rintro y2 hy2;refine Za ?_;refine Ze2 1 2 ?_)
    | (refine Zr 1 ?_;refine Zf ?_;refine Zq (by exact ps_loads rfl rfl (by exact rds_box 0 rfl) rfl rfl (by decide)) ?_;refine Zm ?_;refine Zn (by exact ms_wr 1 rfl rfl rfl rfl (fun _ _ w hw => markKeyDev_c mk kA kc slots wi 1 ⟨by omega,by omega⟩ (by omega) hw)) ?_;rintro y8 hy8;refine Za ?_;refine Ze2 1 2 ?_)
    | (refine Zr 2 ?_;refine Zf ?_;refine Zq (by exact ps_loads rfl rfl (by exact rds_box 0 rfl) rfl rfl (by decide)) ?_;refine Zm ?_;refine Zn (by exact ms_wr 2 rfl rfl rfl rfl (fun _ _ w hw => markShares_c ssz shA shc shl (1 + 2 * (slots.length : Int)) ⟨by omega,by omega⟩ (by omega) hw)) ?_;rintro y12 hy12;refine Za ?_;refine Ze2 1 2 ?_))
  refine ok_imp (fun w hw => ((hw.front 1 rfl).tl.front 1 rfl).tl) ?_
  simp only [List.eraseIdx,List.set]
  repeat' (first|refine Wa ?_|refine Wb ?_|refine Wg ?_|(refine Zr 3 ?_;refine Zf ?_;refine Zl 0 ?_;refine Zm ?_;refine Zn (by exact ms_w2 (fun _ _ _ h => h.perm (List.perm_middle (l₁ := _ :: tenBags tens)).symm) rfl rfl rfl (fun _ _ w hw => markSTenS_c tnA tnc tens (1 + 2 * (slots.length : Int) + 2 * (shl.length : Int)) ⟨by omega,by omega⟩ hsz hw)) ?_;rintro y16 hy16;refine Za ?_;refine Ze2 1 2 ?_)|(refine Zr 4 ?_;refine Zf ?_;refine Zl 0 ?_;refine Zm ?_;refine Zn (by exact ms_wr 1 rfl rfl rfl rfl (fun _ _ w hw => markLogRowS_c rA rc rows _ ⟨by omega,by omega⟩ (by omega) hw)) ?_;rintro y20 hy20;refine Za ?_;refine Ze2 1 2 ?_)|(refine Zr 5 ?_;refine Zf ?_;refine Zl 0 ?_;refine Zm ?_;refine Zn (by exact ms_wr 2 rfl rfl rfl rfl (fun _ _ w hw => markLogRowS_c hA hcc hist _ ⟨by omega,by omega⟩ (by omega) hw)) ?_;rintro y24 hy24;refine Za ?_;refine Ze1 1 ?_)|(refine Zr 6 ?_;refine Zm ?_;refine Za ?_;refine Ze1 4 ?_))
  exact ok_endL (vs := [_]) rfl ⟨rfl,trivial⟩ (fun w' hw => ⟨mkN ((y16 0).n + 5 * (rows.length : Int) + 5 * (hist.length : Int)) w,rfl,by show 0 ≤ (y16 0).n + 5 * (rows.length : Int) + 5 * (hist.length : Int);omega,hw.tl.tl.tl⟩)
end Go.Proofs.YtmfojbidojjciaaGreat
namespace Go.Proofs.YtmfojbidojjciaaGreat
open Go.RowKit
abbrev gKeySlot : GT := .st [.int,.str]
abbrev gKeyDev : GT := .st [.str,.sl 192 gKeySlot,.int]
abbrev gShare : GT := .st [.int,.int]
abbrev gShares : GT := .st [.int,.sl 207 gShare]
abbrev gLogRow : GT := .st [.int,.int,.int,.str,.bool]
abbrev gEng : GT := .st [.sl 286 gEnt,.sl 141 (.sl 286 gEnt),.int,.sl 3 .int]
abbrev gSTen : GT := .st [.int,.int,.int,gEng]
abbrev gStore : GT := .st [.str,gKeyDev,gShares,.sl 146 gSTen,.sl 148 gLogRow,.sl 148 gLogRow,.int]
theorem flatInt5 : FlatAt .int (α := Int) (fun x => x) inI64 := fun w x c h => RdT.int.1 h
theorem flatKeySlot : FlatAt gKeySlot (α := KeySlot) (fun x => ⟨x.1,x.2.1⟩) bigKeySlot := fun w x c h => by
  obtain ⟨a0,a1,u⟩ := x
  obtain ⟨c0,d0,rfl,h0,e0⟩ := RdTL.cons.1 (RdT.st.1 h)
  obtain ⟨c1,d1,rfl,h1,e1⟩ := RdTL.cons.1 e0
  rw [RdTL.nil] at e1;subst e1
  obtain ⟨rfl,b0⟩ := RdT.int.1 h0
  obtain ⟨rfl,b1⟩ := RdT.str.1 h1
  exact ⟨rfl,b1⟩
theorem flatShare : FlatAt gShare (α := Share) (fun x => ⟨x.1,x.2.1⟩) bigShare := fun w x c h => by
  obtain ⟨a0,a1,u⟩ := x
  obtain ⟨c0,d0,rfl,h0,e0⟩ := RdTL.cons.1 (RdT.st.1 h)
  obtain ⟨c1,d1,rfl,h1,e1⟩ := RdTL.cons.1 e0
  rw [RdTL.nil] at e1;subst e1
  obtain ⟨rfl,b0⟩ := RdT.int.1 h0
  obtain ⟨rfl,b1⟩ := RdT.int.1 h1
  exact ⟨rfl,trivial⟩
theorem flatLogRow : FlatAt gLogRow (α := LogRow) (fun x => ⟨x.1,x.2.1,x.2.2.1,x.2.2.2.1,x.2.2.2.2.1⟩) bigLogRow := fun w x c h => by
  obtain ⟨a0,a1,a2,a3,a4,u⟩ := x
  obtain ⟨c0,d0,rfl,h0,e0⟩ := RdTL.cons.1 (RdT.st.1 h)
  obtain ⟨c1,d1,rfl,h1,e1⟩ := RdTL.cons.1 e0
  obtain ⟨c2,d2,rfl,h2,e2⟩ := RdTL.cons.1 e1
  obtain ⟨c3,d3,rfl,h3,e3⟩ := RdTL.cons.1 e2
  obtain ⟨c4,d4,rfl,h4,e4⟩ := RdTL.cons.1 e3
  rw [RdTL.nil] at e4;subst e4
  obtain ⟨rfl,b0⟩ := RdT.int.1 h0
  obtain ⟨rfl,b1⟩ := RdT.int.1 h1
  obtain ⟨rfl,b2⟩ := RdT.int.1 h2
  obtain ⟨rfl,b3⟩ := RdT.str.1 h3
  obtain rfl := RdT.bool.1 h4
  exact ⟨rfl,b3⟩
theorem eng_open {w : World} {cs : List Value} {x : gEng.den} (hx : RdT w gEng x cs) : ∃ e : LEng,cs = e.cells ∧ e.rd w ∧ engBig e := by
  obtain ⟨a0,a1,a2,a3,u⟩ := x
  obtain ⟨c0,d0,rfl,h0,e0⟩ := RdTL.cons.1 (RdT.st.1 hx)
  obtain ⟨c1,d1,rfl,h1,e1⟩ := RdTL.cons.1 e0
  obtain ⟨c2,d2,rfl,h2,e2⟩ := RdTL.cons.1 e1
  obtain ⟨c3,d3,rfl,h3,e3⟩ := RdTL.cons.1 e2
  rw [RdTL.nil] at e3;subst e3
  obtain ⟨A0,k0,l0,rfl,m0,r0,b0⟩ := flat_sl flatEnt h0
  obtain ⟨A1,k1,R,rfl,m1,r1,b1⟩ := nest_sl (flat_nest flatEnt) h1
  obtain ⟨rfl,b2⟩ := RdT.int.1 h2
  obtain ⟨A3,k3,l3,rfl,m3,r3,b3⟩ := flat_sl flatInt5 h3
  exact ⟨⟨⟨A0,k0,l0⟩,⟨A1,k1,R⟩,a2,⟨A3,k3,l3⟩⟩,rfl,⟨r0,r1,r3⟩,⟨m0,b0,m1,b1,m3⟩⟩
theorem ten_open {w : World} {cs : List Value} {x : gSTen.den} (hx : RdT w gSTen x cs) : ∃ t : LTen,cs = Dat.cells t ∧ t.e.rd w ∧ engBig t.e := by
  obtain ⟨a0,a1,a2,a3,u⟩ := x
  obtain ⟨c0,d0,rfl,h0,e0⟩ := RdTL.cons.1 (RdT.st.1 hx)
  obtain ⟨c1,d1,rfl,h1,e1⟩ := RdTL.cons.1 e0
  obtain ⟨c2,d2,rfl,h2,e2⟩ := RdTL.cons.1 e1
  obtain ⟨c3,d3,rfl,h3,e3⟩ := RdTL.cons.1 e2
  rw [RdTL.nil] at e3;subst e3
  obtain ⟨rfl,b0⟩ := RdT.int.1 h0
  obtain ⟨rfl,b1⟩ := RdT.int.1 h1
  obtain ⟨rfl,b2⟩ := RdT.int.1 h2
  obtain ⟨e,rfl,r,b⟩ := eng_open h3
  exact ⟨⟨a0,a1,a2,e⟩,by rw [List.append_nil];rfl,r,b⟩
theorem tens_rows {w : World} : ∀ (xs : List gSTen.den) (us : List Value),RdTs w gSTen xs us → ∃ R : List LTen,us = fl R ∧ R.length = xs.length ∧ ∀ t ∈ R,t.e.rd w ∧ engBig t.e
  | [],us,h => by
    rw [RdTs.nil] at h;subst h;exact ⟨[],rfl,rfl,fun x h => (by cases h)⟩
  | x :: xs,us,h => by
    obtain ⟨c1,c2,rfl,h1,h2⟩ := RdTs.cons.1 h
    obtain ⟨t,rfl,r,b⟩ := ten_open h1
    obtain ⟨R,rfl,hl,hr⟩ := tens_rows xs c2 h2
    refine ⟨t :: R,rfl,by simp [hl],fun y hy => ?_⟩
    rcases List.mem_cons.1 hy with rfl | hy
    · exact ⟨r,b⟩
    · exact hr y hy
theorem store_open {w : World} {cs : List Value} {x : gStore.den} (hx : RdT w gStore x cs) : ∃ s : LStore,cs = s.cells ∧ s.rd w ∧ stBig s := by
  obtain ⟨a0,a1,a2,a3,a4,a5,a6,u⟩ := x
  obtain ⟨c0,d0,rfl,h0,e0⟩ := RdTL.cons.1 (RdT.st.1 hx)
  obtain ⟨c1,d1,rfl,h1,e1⟩ := RdTL.cons.1 e0
  obtain ⟨c2,d2,rfl,h2,e2⟩ := RdTL.cons.1 e1
  obtain ⟨c3,d3,rfl,h3,e3⟩ := RdTL.cons.1 e2
  obtain ⟨c4,d4,rfl,h4,e4⟩ := RdTL.cons.1 e3
  obtain ⟨c5,d5,rfl,h5,e5⟩ := RdTL.cons.1 e4
  obtain ⟨c6,d6,rfl,h6,e6⟩ := RdTL.cons.1 e5
  rw [RdTL.nil] at e6;subst e6
  obtain ⟨rfl,b0⟩ := RdT.str.1 h0
  obtain ⟨k0,k1,k2,ku⟩ := a1
  obtain ⟨f0,g0,rfl,q0,p0⟩ := RdTL.cons.1 (RdT.st.1 h1)
  obtain ⟨f1,g1,rfl,q1,p1⟩ := RdTL.cons.1 p0
  obtain ⟨f2,g2,rfl,q2,p2⟩ := RdTL.cons.1 p1
  rw [RdTL.nil] at p2;subst p2
  obtain ⟨rfl,bk0⟩ := RdT.str.1 q0
  obtain ⟨kA,kc,slots,rfl,km,kr,kb⟩ := flat_sl flatKeySlot q1
  obtain ⟨rfl,bk2⟩ := RdT.int.1 q2
  obtain ⟨s0,s1,su⟩ := a2
  obtain ⟨i0,j0,rfl,t0,v0⟩ := RdTL.cons.1 (RdT.st.1 h2)
  obtain ⟨i1,j1,rfl,t1,v1⟩ := RdTL.cons.1 v0
  rw [RdTL.nil] at v1;subst v1
  obtain ⟨rfl,bs0⟩ := RdT.int.1 t0
  obtain ⟨sA,sc,shl,rfl,sm,sr,sb⟩ := flat_sl flatShare t1
  obtain ⟨tA,tc,tus,rfl,tl1,tl2,trd,trs⟩ := RdT.sl.1 h3
  obtain ⟨tens,rfl,tlen,tall⟩ := tens_rows _ _ trs
  obtain ⟨rA,rc,rows,rfl,rm,rr,rb⟩ := flat_sl flatLogRow h4
  obtain ⟨hA,hc,hist,rfl,hm,hr,hb⟩ := flat_sl flatLogRow h5
  obtain ⟨rfl,b6⟩ := RdT.int.1 h6
  have tlen' : List.length a3 = tens.length := tlen.symm
  refine ⟨⟨a0,⟨k0,⟨kA,kc,slots⟩,k2⟩,⟨s0,⟨sA,sc,shl⟩⟩,⟨tA,tc,tens⟩,⟨rA,rc,rows⟩,⟨hA,hc,hist⟩,a6⟩,by rw [tlen'];rfl,⟨kr,sr,trd,fun k hk => (tall _ (nth_mem tens k hk)).1,rr,hr⟩,⟨km,kb,sm,sb,?_,fun k hk => (tall _ (nth_mem tens k hk)).2,rm,rb,hm,hb,b0,bk0⟩⟩
  simp only
  rw [← tlen']
  exact Nat.le_trans tl1 tl2
end Go.Proofs.YtmfojbidojjciaaGreat
namespace Go.Proofs.YtmfojbidojjciaaGreat
open Go.RowKit
attribute [local irreducible] Calls
theorem acc_len (D : DStore) : (fAccounts D).length ≤ D.tens.length := by unfold fAccounts;split <;> simp
theorem sz_of_d {s s' : LStore} (h : s'.d = s.d) (hs : cntL s.tens.l + s.tens.l.length ≤ 1048576) : cntL s'.tens.l + s'.tens.l.length ≤ 1048576 := by
  have h1 : s'.tens.l.map LTen.d = s.tens.l.map LTen.d := by have := congrArg DStore.tens h;exact this
  have e : ∀ l : List LTen,cntL l = ((l.map LTen.d).map fun t => t.eng.mem.length + t.eng.tabs.length + totE t.eng.tabs + t.eng.snaps.length).sum := fun l => by
    unfold cntL
    rw [List.map_map]
    congr 1
    refine List.map_congr_left fun t _ => ?_
    simp [cntE,Function.comp,dats]
  have h2 := congrArg List.length h1
  rw [List.length_map,List.length_map] at h2
  rw [e,h1,← e,h2]
  exact hs
theorem s_Accounts1 (s : LStore) (D : DStore) (hD : s.d = D) (w : World) (h : s.rd w) (hw : stWt s) : Calls Tryz.prog 13 #[s.val] w fun e w' => ∃ y : Ys,e = .returned (.slice (y 0).A (fAccounts D).length (y 0).c) ∧ True ∧ Below w.heap.size w w' ∧ NewOk w.heap.size [.row 56 5 (y 0).A (fAccounts D).length (y 0).c (fl (fAccounts D))] [] w' := by
  subst hD
  obtain ⟨sec,⟨mk,⟨kA,kc,slots⟩,wi⟩,⟨ssz,⟨shA,shc,shl⟩⟩,⟨tnA,tnc,tens⟩,⟨rA,rc,rows⟩,⟨hA,hcc,hist⟩,bo⟩ := s
  obtain ⟨h1,h2,h3,h4,h5,h6⟩ := h
  obtain ⟨b1,b2,b3,b4,b5,b6,b7⟩ := hw
  simp only [LKeys.rd,LShares.rd] at h1 h2 h3 h4 h5 h6 b1 b2 b3 b4 b5 b6 b7
  exact s_Accounts0 sec mk kA kc slots wi ssz shA shc shl tnA tnc tens rA rc rows hA hcc hist bo w h1 h2 h3 h4 h5 (by omega) (by omega) (by omega) (by omega) (by omega) (fun k hk => by have := b6 _ (nth_mem rows k hk);unfold wtLogRow at this;omega) (fun k hk => (b4 k hk).sm)
theorem i_Accounts1 (s : LStore) (D : DStore) (hD : s.d = D) (w : World) (h : s.rd w) (hw : stWt s) : Calls Tryz.prog 14 #[s.val] w fun e w' => ∃ y : Ys,e = .returned (.slice (y 0).A (fAccounts D).length (y 0).c) ∧ True ∧ Below w.heap.size w w' ∧ NewOk w.heap.size [.row 56 5 (y 0).A (fAccounts D).length (y 0).c (fl (fAccounts D))] [] w' := by
  subst hD
  obtain ⟨sec,⟨mk,⟨kA,kc,slots⟩,wi⟩,⟨ssz,⟨shA,shc,shl⟩⟩,⟨tnA,tnc,tens⟩,⟨rA,rc,rows⟩,⟨hA,hcc,hist⟩,bo⟩ := s
  obtain ⟨h1,h2,h3,h4,h5,h6⟩ := h
  obtain ⟨b1,b2,b3,b4,b5,b6,b7⟩ := hw
  simp only [LKeys.rd,LShares.rd] at h1 h2 h3 h4 h5 h6 b1 b2 b3 b4 b5 b6 b7
  exact i_Accounts0 sec mk kA kc slots wi ssz shA shc shl tnA tnc tens rA rc rows hA hcc hist bo w h1 h2 h3 h4 h5 (by omega) (by omega) (by omega) (by omega) (by omega) (fun k hk => by have := b6 _ (nth_mem rows k hk);unfold wtLogRow at this;omega) (fun k hk => (b4 k hk).sm)
theorem FnExactAccounts_e (s : LStore) (w : World) (h : s.rd w) (hb : stBig s) :
    Calls Tryz.prog 4 #[s.val] w fun e w' => e = .returned (.bool true) ∧ Below w.heap.size w w' := by
  have H := Lib.hid h;clear h
  have HB := Lib.hid hb;clear hb
  refine ok_enter 69 Tryz.func4 rfl rfl rfl ?_
  repeat' (first|refine Wa ?_|refine Wb ?_|refine Wc ?_|(refine ok_cond rfl (fun hc => ?_) (fun hc => ?_) <;> (have hd := hc;try simp only [jj] at hd))|refine Wg ?_|refine Wi ?_|(refine Zr 0 ?_;refine Zn (ms_box rfl rfl rfl) ?_;rintro y1 hy1;refine Za ?_;refine Ze1 1 ?_)|(refine Zr 1 ?_;refine Za ?_;refine Ze2 1 3 ?_)|(refine Zr 2 ?_;refine Zq (by exact ps_loads rfl rfl (by exact rds_box 0 rfl) rfl rfl (by decide)) ?_;refine Zm ?_;refine Zn (by exact ms_c2 rfl rfl rfl (fun _ _ w hw => szStore_t s _ ⟨by omega,by omega⟩ w (H.out.le (hw.wle List.mem_cons_self)) HB.out)) ?_;rintro y13 hy13;refine Za ?_;refine Ze2 1 3 ?_)|(refine Zr 3 ?_;refine Zm ?_;refine Zi ?_;refine Ze2 1 15 ?_)|(refine Zr 4 ?_;refine Za ?_;refine Ze1 2 ?_))
  · exact ok_endL (vs := [_]) rfl ⟨rfl,trivial⟩ (fun w hw => ⟨rfl,hw.below⟩)
  obtain ⟨hwt,hsz⟩ := hy13.2.2 (by omega)
  have HW := Lib.hid hwt;clear hwt
  have hal : (fAccounts s.d).length ≤ 140737488355328 := by have := acc_len s.d;have := HW.out.t;simp only [LStore.d,List.length_map] at *;omega
  clear hc hd hy13
  repeat' (first|refine Wa ?_|refine Wb ?_|refine Wc ?_|(refine ok_cond rfl (fun hc => ?_) (fun hc => ?_) <;> (have hd := hc;try simp only [jj] at hd))|refine Wg ?_|refine Wi ?_|(refine Zr 5 ?_;refine Zq (by exact ps_loads rfl rfl (by exact rds_box 0 rfl) rfl rfl (by decide)) ?_;refine Zn (by exact ms_c1 rfl rfl (fun _ _ w hw => toStore_c s w (H.out.le (hw.wle List.mem_cons_self)) HW.out)) ?_;rintro y17 hy17;refine Zn (by exact ms_c1 rfl rfl (fun _ _ w hw => s_Accounts1 (yS5 y17) s.d hy17 w (st_own (hw.drop 0 rfl)) (HW.out.of_d hy17))) ?_;rintro y18 hy18;refine Za ?_;refine Ze2 1 4 ?_)|(refine Zr 6 ?_;refine Zq (by exact ps_loads rfl rfl (by exact rds_box 10 rfl) rfl rfl (by decide)) ?_;refine Zn (by exact ms_c1 rfl rfl (fun _ _ w hw => toStore_c s w (H.out.le (hw.wle List.mem_cons_self)) HW.out)) ?_;rintro y20 hy20;refine Zn (ms_alloc rfl) ?_;rintro y5 hy5;refine Zo (ms_store 0 rfl rfl rfl rfl rfl rfl rfl rfl) ?_;rintro y_ hy_;refine Ze3 1 4 5 ?_)|(refine Zr 7 ?_;refine Zq (by exact ps_loads rfl rfl (by exact rds_box 0 rfl) rfl rfl (by decide)) ?_;refine Zn (by exact ms_c1 rfl rfl (fun _ _ w hw => i_Accounts1 (yS5 y20) s.d hy20 w (st_own (hw.drop 1 rfl)) (HW.out.of_d hy20))) ?_;rintro y22 hy22;refine Za ?_;refine Ze4 1 4 5 6 ?_)|(refine Zr 8 ?_;refine Zm ?_;refine Zm ?_;refine Zn (by exact ms_s2 rfl rfl rfl (fun _ _ w hw => eqAccountS_c _ _ _ _ (fAccounts s.d) w (rds_row 0 rfl _ _ w hw) (rds_row 11 rfl _ _ w hw) hal)) ?_;rintro y25 hy25;refine Zq (ps_not rfl rfl) ?_;refine Ze5 1 4 5 6 26 ?_)|(refine Xd 10 5 ?_;refine Xt 0 rfl (by exact ps_loads rfl rfl (by exact rds_box 1 rfl) rfl rfl (by decide)) ?_;refine Xt 1 rfl (by exact ps_loads rfl rfl (by exact rds_box 21 rfl) rfl rfl (by decide)) ?_;refine Xo 2 rfl (by exact ms_c1 rfl rfl (fun _ _ w hw => toStore_c s w (H.out.le (hw.wle List.mem_cons_self)) HW.out)) (fun y w _ h => by exact h.tl.tl.tl.tl.tl.tl.tl.tl.tl) ?_;rintro y29 hy29;refine Xo 3 rfl (by exact ms_s2 rfl rfl rfl (fun _ _ w hw => eqStore_c (yS5 y20) (yS5 y29) (hy29.trans hy20.symm) w (st_own (hw.drop 11 rfl)) (st_own (hw.drop 0 rfl)) (HW.out.of_d hy20))) (fun y w _ h => by exact h.tl.tl.tl.tl.tl.tl.tl.tl.tl) ?_;rintro y30 hy30;refine Xt 4 rfl (ps_not rfl rfl) ?_;refine okT_done (by kernel_rfl) ?_;refine Ze5 1 4 5 6 31 ?_)|(refine Zr 12 ?_;refine Za ?_;refine Ze5 1 4 5 6 7 ?_)|(refine Zr 13 ?_;refine Zq (by exact ps_loads rfl rfl (by exact rds_box 10 rfl) rfl rfl (by decide)) ?_;refine Zm ?_;refine Zn (by exact ms_w2 (fun _ _ _ h => (h.drop 9 rfl).perm (List.perm_append_comm_assoc [_,_] (stObj (yS5 y20)) _)) rfl rfl rfl (fun _ _ w hw => markStore_c (yS5 y20) (HW.out.of_d hy20) (sz_of_d hy20 hsz) hw)) ?_;rintro y34 hy34;refine Za ?_;refine Ze4 1 4 6 7 ?_)|(refine Zr 14 ?_;refine Zm ?_;refine Zi ?_;refine Zm ?_;refine Zg rfl rfl rfl (gF _) (fun hp => by exact ps_move rfl rfl) ?_;refine Zg rfl rfl rfl (gF _) (fun hp => by exact ps_move rfl rfl) ?_;refine Zh rfl rfl rfl (gF _) (fun hp => by (exact ms_s2 rfl (Og rfl) (Og rfl) (fun _ _ w hw => eqAccountS_c (y22 0).A (y18 0).A (y22 0).c (y18 0).c (fAccounts s.d) w (rds_row 0 rfl _ _ w hw) (rds_row 2 rfl _ _ w hw) hal))) ?_;refine Zg rfl rfl rfl (gF _) (fun hp => by (exact ps_not rfl (Og rfl))) ?_;refine Zq (ps_or rfl rfl rfl) ?_;refine Ze4 1 4 6 42 ?_)|(refine Zr 15 ?_;refine Za ?_;refine Ze1 2 ?_)|(refine Zr 16 ?_;refine Za ?_;refine Ze4 1 4 6 8 ?_)|(refine Zr 17 ?_;refine Zm ?_;refine Zm ?_;refine Zn (by exact ms_wr 0 rfl rfl rfl rfl (fun _ _ w hw => markAccountS_c _ _ (fAccounts s.d) 1 ⟨by omega,by omega⟩ hal hw)) ?_;rintro y45 hy45;refine Za ?_;refine Ze4 1 4 6 8 ?_)|(refine Zr 18 ?_;refine Za ?_;refine Ze5 1 4 6 8 9 ?_)|(refine Zr 19 ?_;refine Zm ?_;refine Zm ?_;refine Zn (by exact ms_s2 rfl rfl rfl (fun _ _ w hw => heldAccountS_c _ _ (fAccounts s.d).length 1 ⟨by omega,by omega⟩ hal w (rds_row 0 rfl _ _ w hw))) ?_;rintro y48 hy48;refine Za ?_;refine Ze5 1 4 6 8 9 ?_)|(refine Zr 20 ?_;refine Zm ?_;refine Zi ?_;refine Ze6 1 4 6 8 9 50 ?_)|(refine Zr 21 ?_;refine Za ?_;refine Ze1 2 ?_)|(refine Zr 22 ?_;refine Zm ?_;refine Zm ?_;refine Zi ?_;refine Ze5 1 4 6 8 53 ?_)|(refine Zr 23 ?_;refine Za ?_;refine Ze1 2 ?_)|(refine Zr 24 ?_;refine Zq (by exact ps_loads rfl rfl (by exact rds_box 12 rfl) rfl rfl (by decide)) ?_;refine Zn (by exact ms_c1 rfl rfl (fun _ _ w hw => toStore_c s w (H.out.le (hw.wle List.mem_cons_self)) HW.out)) ?_;rintro y55 hy55;refine Zn (by exact ms_c1 rfl rfl (fun _ _ w hw => i_Accounts1 (yS5 y55) s.d hy55 w (st_own (hw.drop 0 rfl)) (HW.out.of_d hy55))) ?_;rintro y56 hy56;refine Za ?_;refine Ze4 4 6 8 10 ?_)|(refine Zr 25 ?_;refine Zm ?_;refine Zm ?_;refine Zn (by exact ms_s2 rfl rfl rfl (fun _ _ w hw => eqAccountS_c _ _ _ _ (fAccounts s.d) w (rds_row 0 rfl _ _ w hw) (rds_row 12 rfl _ _ w hw) hal)) ?_;rintro y59 hy59;refine Zq (ps_not rfl rfl) ?_;refine Ze3 6 8 60 ?_)|(refine Zr 27 ?_;refine Za ?_;refine Ze3 6 8 9 ?_)|(refine Zr 28 ?_;refine Zm ?_;refine Zm ?_;refine Zn (by exact ms_s2 rfl rfl rfl (fun _ _ w hw => heldAccountS_c _ _ (fAccounts s.d).length 1 ⟨by omega,by omega⟩ hal w (rds_row 10 rfl _ _ w hw))) ?_;rintro y63 hy63;refine Za ?_;refine Ze2 8 9 ?_)|(refine Zr 29 ?_;refine Zm ?_;refine Zi ?_;refine Ze3 8 9 65 ?_)|(refine Zr 30 ?_;refine Za ?_;refine Ze1 2 ?_)|(refine Zr 31 ?_;refine Zm ?_;refine Zm ?_;refine Zi ?_;refine Ze1 68 ?_)|(refine Zr 32 ?_;refine Za ?_;refine Ze1 2 ?_)|(refine Zr 33 ?_;refine Za ?_;refine Ze1 2 ?_))
  all_goals first
    | exact ok_endL (vs := [_]) rfl ⟨rfl,trivial⟩ (fun w hw => ⟨rfl,hw.below⟩)
    | (exfalso;omega)
    | (exfalso;simp at hc;omega)
    | (exfalso;simp at hc)
theorem FnExactAccounts_walk (w : World) (cs0 : Array Value) (g0 : gStore.den) (hx0 : RdT w gStore g0 cs0.toList) :
    Calls Tryz.prog 4 #[.agg cs0] w fun e w' => e = .returned (.bool true) ∧ Below w.heap.size w w' := by
  obtain ⟨s,hv0,h0,b0⟩ := store_open hx0
  have e : Value.agg cs0 = s.val := by
    have : cs0 = (cs0.toList).toArray := (Array.toArray_toList).symm
    rw [this,hv0]
  rw [e]
  exact FnExactAccounts_e s w h0 b0
end Go.Proofs.YtmfojbidojjciaaGreat
namespace Go.Proofs.YtmfojbidojjciaaGreat
open Go.RowKit
set_option maxRecDepth 100000
section
variable (P : Program) (rest : List (List Char)) (h : behindMainWord (wordsSigns P.initOrder.toList) = ['c','u','t'] :: rest)
include h
theorem make_cut : P.make = some .cut := by
  unfold Program.make
  rw [h]
  simp
theorem lifts_cut : P.headLifts = [] := by
  unfold Program.headLifts
  rw [h]
  have : stripLifts liftWords (['c','u','t'] :: rest) = ([],['c','u','t'] :: rest) := by
    simp [liftWords,stripLifts]
  rw [this]
  simp
theorem final_cut : P.liftsFinal = false := by
  unfold Program.liftsFinal
  rw [lifts_cut P rest h]
  simp [h]
theorem enter_cut (h1 : P.laysLater = false) (h2 : P.bearsReflect = false) (h3 : P.doorFits [] = true) : P.mayEnter = true := by
  unfold Program.mayEnter
  have : stripLifts liftWords (['c','u','t'] :: rest) = ([],['c','u','t'] :: rest) := by
    simp [liftWords,stripLifts]
  rw [h]
  simp [this,h1,h2,h3]
end
def ioL : List Char := ['h','a','r','n','e','s','s',' ','6','b','f','1','d','9','d','c','2','e','f','5','2','e','3','d','5','1','9','0','8','9','d','e','2','f','a','3','2','7','5','8','6','f','5','1','2','f','8','6','5','9','6','9','c','4','0','6','7','0','d','1','4','8','a','e','9','4','c','a','9','5','b','f',' ','c','u','t',' ','a','t',' ','l','o','o','p','.','e','x','a','m','p','l','e','/','g','0','0','9','5','0','/','l','a','w','s','.','F','n','E','x','a','c','t','T','r','a','c','e','s',' ','l','o','o','p','.','e','x','a','m','p','l','e','/','g','0','0','9','5','0','/','l','a','w','s','.','F','n','E','x','a','c','t','A','c','c','o','u','n','t','s',' ','l','o','o','p','.','e','x','a','m','p','l','e','/','g','0','0','9','5','0','/','l','a','w','s','.','F','n','A','c','c','o','u','n','t','s',' ','l','o','o','p','.','e','x','a','m','p','l','e','/','g','0','0','9','5','0','/','l','a','w','s','.','F','n','O','n','c','e',' ','l','o','o','p','.','e','x','a','m','p','l','e','/','g','0','0','9','5','0','/','l','a','w','s','.','F','n','S','h','r','e','d']
theorem io : Tryz.prog.initOrder.toList = ioL := by
  show (String.ofList ioL).toList = ioL
  exact String.toList_ofList
def ioR : List (List Char) := [['a','t'],['l','o','o','p','.','e','x','a','m','p','l','e','/','g','0','0','9','5','0','/','l','a','w','s','.','F','n','E','x','a','c','t','T','r','a','c','e','s'],['l','o','o','p','.','e','x','a','m','p','l','e','/','g','0','0','9','5','0','/','l','a','w','s','.','F','n','E','x','a','c','t','A','c','c','o','u','n','t','s'],['l','o','o','p','.','e','x','a','m','p','l','e','/','g','0','0','9','5','0','/','l','a','w','s','.','F','n','A','c','c','o','u','n','t','s'],['l','o','o','p','.','e','x','a','m','p','l','e','/','g','0','0','9','5','0','/','l','a','w','s','.','F','n','O','n','c','e'],['l','o','o','p','.','e','x','a','m','p','l','e','/','g','0','0','9','5','0','/','l','a','w','s','.','F','n','S','h','r','e','d']]
theorem words : behindMainWord (wordsSigns Tryz.prog.initOrder.toList) = ['c','u','t'] :: ioR := by
  rw [io];kernel_rfl
theorem jLater : Tryz.prog.laysLater = false := by kernel_rfl
theorem jRefl : Tryz.prog.bearsReflect = false := by kernel_rfl
theorem jDoor : Tryz.prog.doorFits [] = true := by kernel_rfl
theorem jEnter : Tryz.prog.mayEnter = true := enter_cut _ _ words jLater jRefl jDoor
theorem jFinal : Tryz.prog.liftsFinal = false := final_cut _ _ words
theorem jMake : Tryz.prog.make = some .cut := make_cut _ _ words
end Go.Proofs.YtmfojbidojjciaaGreat
