/- Texts of this claim, one behind the other: DlE, Rdl, Frs, Eng18, DlL, WFnDelta, Jn. -/
import Derived.Test.YtbegbdfbfbkflaaMgDelta2
import Derived.Test.YtbegbdfbfbkflaaMgDelta1
import Derived.Test.YtbegbdfbfbkflaaEng13
import Derived.Test.YtbegbdfbfbkflaaEng9
import Derived.Test.YtbegbdfbfbkflaaRows
import Derived.ProofKit
import Derived.JoinedOf
/- Changes drawn. -/
namespace Go.Proofs.Ytbegbdfbfbkflaa
open Go.RowKit
set_option maxHeartbeats 4000000
set_option maxRecDepth 20000
set_option linter.unusedVariables false
set_option linter.unusedSimpArgs false
attribute [local irreducible] Calls
def dFew (U : List KV) (D : List ByteArray) (n m : Nat) : Prop := kvFew U n m ∧ D.length ≤ n ∧ tFew D m
theorem diff_few {a b : List KV} (ha : kvFew a 32 20) (hb : kvFew b 32 20) : dFew (fDiffMap a b).U (fDiffMap a b).D 32 20 := by
  have h1 := diff_n ha hb
  by_cases hm : mapOk a = true ∧ mapOk b = true
  · rw [diff_eq hm.1 hm.2] at h1 ⊢
    refine ⟨⟨h1.1, fun u hu => hb.2 u (List.mem_filter.1 hu).1⟩, h1.2, fun u hu => ?_⟩
    obtain ⟨x, hx, rfl⟩ := List.mem_map.1 hu
    exact (ha.2 x (List.mem_filter.1 hx).1).1
  · have e : fDiffMap a b = ⟨[], []⟩ := by
      unfold fDiffMap
      cases h1 : mapOk a <;> cases h2 : mapOk b <;> simp_all
    rw [e]
    exact ⟨kv_nil _ _, Nat.zero_le _, fun u hu => (by cases hu)⟩
theorem d_up {U : List KV} {D : List ByteArray} {n m n' : Nat} (h : dFew U D n m) (hn : n ≤ n') : dFew U D n' m := ⟨kv_up h.1 ⟨hn, Nat.le_refl _⟩, Nat.le_trans h.2.1 hn, h.2.2⟩
theorem d_addD {U : List KV} {D : List ByteArray} {n m : Nat} (h : dFew U D n m) {s : ByteArray} (hs : s.size ≤ m) : dFew U (D ++ [s]) (n + 1) m := ⟨kv_up h.1 ⟨by omega, Nat.le_refl _⟩, by rw [List.length_append]; have := h.2.1; simp only [List.length_singleton]; omega, fun u hu => by
  rcases List.mem_append.1 hu with hu | hu
  · exact h.2.2 u hu
  · rw [List.mem_singleton] at hu; subst hu; exact hs⟩
theorem d_addU {U : List KV} {D : List ByteArray} {n m : Nat} (h : dFew U D n m) {x : KV} (hs : x.key.size ≤ m ∧ x.val.size ≤ m) : dFew (U ++ [x]) D (n + 1) m := ⟨⟨by rw [List.length_append]; have := h.1.1; simp only [List.length_singleton]; omega, fun u hu => by
  rcases List.mem_append.1 hu with hu | hu
  · exact h.1.2 u hu
  · rw [List.mem_singleton] at hu; subst hu; exact hs⟩, by have := h.2.1; omega, h.2.2⟩
theorem fin_D {base : Nat} {w0 w : World} {H : List HObj} {G : List World} {g n c m : Nat} {A : Option Addr} (B : Option Addr) (d : Nat) (B1 : Option Addr) (d1 : Nat) (U : List KV) (D : List ByteArray) (i : Nat) (h : Int) {e : Ending} (he : e = .returned (.agg #[.slice B U.length d, .slice B1 D.length d1])) (hf : dFew U D 33 20) (hi : i ≤ m) (hw : WOk base w0 (.row 67 2 B U.length d (fl U) :: .row 9 1 B1 D.length d1 (fl D) :: cur g A n c i h :: H) G w) :
    ∃ y : Ys, e = .returned (.agg #[.slice (y 0).A (yE (y 2) : List KV).length (y 0).c, .slice (y 1).A (yE (y 3) : List ByteArray).length (y 1).c]) ∧ (dFew (yE (y 2)) (yE (y 3)) 33 20 ∧ (y 4).c ≤ m) ∧ WOk base w0 (.row 67 2 (y 0).A (yE (y 2) : List KV).length (y 0).c (fl (yE (y 2) : List KV)) :: .row 9 1 (y 1).A (yE (y 3) : List ByteArray).length (y 1).c (fl (yE (y 3) : List ByteArray)) :: cur g A n c (y 4).c (y 4).n :: H) G w := by
  have e2 : (yE (⟨none, 0, eW U w, 0⟩ : Ya) : List KV) = U := yE_mk none 0 U w 0
  have e3 : (yE (⟨none, 0, eW D w, 0⟩ : Ya) : List ByteArray) = D := yE_mk none 0 D w 0
  refine ⟨yl [⟨B, d, w, 0⟩, ⟨B1, d1, w, 0⟩, ⟨none, 0, eW U w, 0⟩, ⟨none, 0, eW D w, 0⟩, ⟨none, i, w, h⟩] ⟨none, 0, w, 0⟩, ?_, ?_, ?_⟩
  · show e = .returned (.agg #[.slice B (yE (⟨none, 0, eW U w, 0⟩ : Ya) : List KV).length d, .slice B1 (yE (⟨none, 0, eW D w, 0⟩ : Ya) : List ByteArray).length d1])
    rw [e2, e3]; exact he
  · show dFew (yE (⟨none, 0, eW U w, 0⟩ : Ya)) (yE (⟨none, 0, eW D w, 0⟩ : Ya)) 33 20 ∧ i ≤ m
    rw [e2, e3]; exact ⟨hf, hi⟩
  · show WOk base w0 (.row 67 2 B (yE (⟨none, 0, eW U w, 0⟩ : Ya) : List KV).length d (fl (yE (⟨none, 0, eW U w, 0⟩ : Ya) : List KV)) :: .row 9 1 B1 (yE (⟨none, 0, eW D w, 0⟩ : Ya) : List ByteArray).length d1 (fl (yE (⟨none, 0, eW D w, 0⟩ : Ya) : List ByteArray)) :: cur g A n c i h :: H) G w
    rw [e2, e3]; exact hw
structure L35 (m : Nat) where
  U : List KV
  D : List ByteArray
  B0 : Option Addr
  d0 : Nat
  B1 : Option Addr
  d1 : Nat
  i : Nat
  h : Int
  hi : i ≤ m
  hf : dFew U D 33 20
theorem l35Some_c (g : Nat) (A : Option Addr) (c : Nat) (bs : List UInt8) (i : Nat) (h : Int) (hi : i ≤ bs.length) {base : Nat} {w0 w : World} {H : List HObj} {G : List World} (hr : CodeR A bs G) (hw : WOk base w0 (cur g A bs.length c i h :: H) G w) :
    Calls Try.prog 118 #[pt (ga g) 0] w fun e w' => ∃ y : Ys, e = .returned (.agg #[.slice (y 0).A (yE (y 2) : List KV).length (y 0).c, .slice (y 1).A (yE (y 3) : List ByteArray).length (y 1).c]) ∧ (dFew (yE (y 2)) (yE (y 3)) 33 20 ∧ (y 4).c ≤ bs.length) ∧ WOk base w0 (.row 67 2 (y 0).A (yE (y 2) : List KV).length (y 0).c (fl (yE (y 2) : List KV)) :: .row 9 1 (y 1).A (yE (y 3) : List ByteArray).length (y 1).c (fl (yE (y 3) : List ByteArray)) :: cur g A bs.length c (y 4).c (y 4).n :: H) G w' := by
  refine ok_enterW 42 Try.func118 rfl rfl rfl hw ?_
  repeat' ((fail_if_success (refine at_reg 4 ?_)); first
    | refine ok_seq ?_
    | (refine ok_region (i := 0) ?_; refine ok_m rfl rfl rfl (by exact ms_alloc rfl) ?_; rintro y2 hy2; refine ok_nil ?_; refine ok_env [(0, _), (2, _)] ⟨rfl, rfl, trivial⟩ ?_)
    | (refine ok_region (i := 1) ?_; refine ok_p rfl rfl rfl (by exact ps_move rfl rfl) ?_; refine ok_m rfl rfl rfl (by exact ms_w1 (fun _ _ _ h => h.front 1 rfl) rfl rfl (fun _ _ w hw => l7Map_c g A c bs _ _ (by omega) hr hw)) ?_; rintro y7 hy7; refine ok_p rfl rfl rfl (by exact ps_assign rfl rfl) ?_; refine ok_nil ?_; refine ok_env [(0, _), (2, _), (3, _)] ⟨rfl, rfl, rfl, trivial⟩ ?_)
    | (refine ok_region (i := 2) ?_; refine ok_p rfl rfl rfl (by exact ps_move rfl rfl) ?_; refine ok_m rfl rfl rfl (by exact ms_w1 (fun _ _ _ h => h.front 1 rfl) rfl rfl (fun _ _ w hw => l7Map_c g A c bs _ _ (by omega) hr hw)) ?_; rintro y9 hy9; refine ok_p rfl rfl rfl (by exact ps_assign rfl rfl) ?_; refine ok_nil ?_; refine ok_env [(0, _), (2, _), (3, _), (4, _)] ⟨rfl, rfl, rfl, rfl, trivial⟩ ?_)
    | (refine ok_region (i := 3) ?_; refine ok_p rfl rfl rfl (by exact ps_move rfl rfl) ?_; refine ok_p rfl rfl rfl (by exact ps_move rfl rfl) ?_; refine ok_m rfl rfl rfl (by exact ms_c2 rfl rfl rfl (fun _ _ w hw => s_diff_o (y7 0).A (y9 0).A (y7 0).c (y9 0).c (yE (y7 2)) (yE (y9 2)) w (rds_row 2 rfl _ _ w hw) (rds_row 0 rfl _ _ w hw) (by have := hy7.1.1; omega) (by have := hy9.1.1; omega))) ?_; rintro y12 hy12; refine ok_m rfl rfl rfl (by exact ms_alloc rfl) ?_; rintro y5 hy5; refine ok_m_ rfl rfl (by exact ms_store 0 rfl rfl rfl rfl rfl rfl rfl rfl) ?_; rintro y_ hy_; refine ok_nil ?_; refine ok_env [(0, _), (2, _), (5, _)] ⟨rfl, rfl, rfl, trivial⟩ ?_))
  have hf0 := diff_few hy7.1 hy9.1
  have hi9 := hy9.2
  clear hy7 hy12
  generalize (fDiffMap (yE (y7 2)) (yE (y9 2))).U = U at hf0 ⊢
  generalize (fDiffMap (yE (y7 2)) (yE (y9 2))).D = D at hf0 ⊢
  generalize (yE (y7 2) : List KV) = La at *
  generalize (yE (y9 2) : List KV) = Lb at *
  clear hy9
  refine ok_join (ι := L35 bs.length) (fun q => ([(2, pt (ga (y2 0).c) 0), (5, pt (ga (y5 0).c) 0)], .box (y5 0).c 89 [.slice q.B0 q.U.length q.d0, .slice q.B1 q.D.length q.d1] :: .row 67 2 q.B0 q.U.length q.d0 (fl q.U) :: .row 9 1 q.B1 q.D.length q.d1 (fl q.D) :: .row 67 2 (y9 0).A Lb.length (y9 0).c (fl Lb) :: cur g A bs.length c q.i q.h :: .row 67 2 (y7 0).A La.length (y7 0).c (fl La) :: .box (y2 0).c 89 [.slice none 0 0, .slice none 0 0] :: H, G)) ?_ ?_
  · have hl0 := hf0.1.1
    have hl1 := hf0.2.1
    have HF := Lib.hid hf0; clear hf0
    repeat' (first
      | refine ok_seq ?_
      | refine ok_then ?_
      | refine ok_block ?_
      | refine ok_in_normal ?_
      | (refine ok_cond rfl (fun hc => ?_) (fun hc => ?_) <;> (have hd := hc; (try simp only [decide_eq_true_eq, decide_eq_false_iff_not, Bool.or_eq_true, Bool.or_eq_false_iff, Bool.and_eq_true, Bool.and_eq_false_iff, Bool.not_eq_true', Bool.not_eq_false', bne_iff_ne, beq_iff_eq, bne_eq_false_iff_eq, beq_eq_false_iff_ne, ne_eq, Bool.not_true, Bool.not_false, Bool.false_eq_true, Bool.true_eq_false, inB_true, inB_false] at hd)))
      | refine ok_skip ?_
      | (refine ok_region (i := 4) ?_; refine ok_p rfl rfl rfl (by exact ps_move rfl rfl) ?_; refine ok_m rfl rfl rfl (by exact ms_wr 4 rfl rfl rfl rfl (fun _ _ w hw => once_c g A c bs _ _ 12 (by omega) (by omega) hr hw)) ?_; rintro y14 hy14; refine ok_nil ?_; refine ok_env [(0, _), (2, _), (5, _), (14, _)] ⟨rfl, rfl, rfl, rfl, trivial⟩ ?_)
      | (refine ok_region (i := 5) ?_; refine ok_p rfl rfl rfl (by exact ps_move rfl rfl) ?_; refine ok_m rfl rfl rfl (by exact ms_wr 4 rfl rfl rfl rfl (fun _ _ w hw => below_c g A c bs _ _ 3 (by omega) (by omega) hr hw)) ?_; rintro y16 hy16; refine ok_nil ?_; refine ok_env [(0, _), (2, _), (5, _), (16, _)] ⟨rfl, rfl, rfl, rfl, trivial⟩ ?_)
      | (refine ok_region (i := 6) ?_; refine ok_p rfl rfl rfl (by exact ps_field rfl rfl (by exact isw_ga _)) ?_; refine ok_p rfl rfl rfl (by exact ps_load rfl rfl (by exact Rds.cell (rds_box 0 rfl) rfl)) ?_; refine ok_m rfl rfl rfl (by exact ms_lit rfl (parts_cons rfl parts_nil) rfl rfl rfl) ?_; rintro y19 hy19; refine ok_m rfl rfl rfl (by exact ms_appN D [(⟨#[]⟩ : ByteArray)] 3 rfl rfl rfl rfl (rds_row 0 rfl) rfl rfl rfl (by omega) (by omega)) ?_; rintro y20 hy20; refine ok_p rfl rfl rfl (by exact ps_field rfl rfl (by exact isw_ga _)) ?_; refine ok_m_ rfl rfl (by exact ms_store 1 rfl rfl rfl rfl rfl rfl rfl rfl) ?_; rintro y_ hy_; refine ok_nil ?_; refine ok_env [(2, _), (5, _)] ⟨rfl, rfl, trivial⟩ ?_)
      | (refine ok_region (i := 7) ?_; refine ok_p rfl rfl rfl (by exact ps_int rfl rfl rfl rfl) ?_; refine ok_p rfl rfl rfl (by exact ps_assign rfl rfl) ?_; refine ok_nil ?_; refine ok_env [(0, _), (2, _), (5, _), (16, _), (22, _)] ⟨rfl, rfl, rfl, rfl, rfl, trivial⟩ ?_)
      | (refine ok_draw (id := 8) 7 rfl (by kernel_rfl) (by kernel_rfl) rfl (by repeat (first | exact pq_body | refine pq_then ?_ | refine pq_in ?_)) [0] (by decide) rfl ?_; refine okT_take (i := 0) rfl (by kernel_rfl) rfl rfl rfl (by exact ps_field rfl rfl (by exact isw_ga _)) ?_; refine okT_take (i := 1) rfl (by kernel_rfl) rfl rfl rfl (by exact ps_load rfl rfl (by exact Rds.cell (rds_box 0 rfl) rfl)) ?_; refine okT_take (i := 2) rfl (by kernel_rfl) rfl rfl rfl (by exact ps_move rfl rfl) ?_; refine okT_one (i := 3) rfl rfl (by kernel_rfl) rfl rfl rfl (by exact ms_wr 4 rfl rfl rfl rfl (fun _ _ w hw => l7Key_c g A c bs _ _ (by omega) hr hw)) (fun y w _ h => by exact h.sel [0] (by decide) rfl (fun _ h => h)) ?_; rintro y27 hy27; refine okT_one (i := 4) rfl rfl (by kernel_rfl) rfl rfl rfl (by exact ms_lit rfl (parts_cons rfl parts_nil) rfl rfl rfl) (fun y w _ h => by exact h.tl.sel [0] (by decide) rfl (fun _ h => h)) ?_; rintro y28 hy28; refine okT_one (i := 5) rfl rfl (by kernel_rfl) rfl rfl rfl (by exact ms_appN D [yS (y27 0)] 3 rfl rfl rfl rfl (rds_row 0 rfl) rfl rfl rfl (by omega) (by omega)) (fun y w _ h => by exact h.tl.sel [0] (by decide) rfl (fun _ h => h)) ?_; rintro y29 hy29; refine okT_take (i := 6) rfl (by kernel_rfl) rfl rfl rfl (by exact ps_field rfl rfl (by exact isw_ga _)) ?_; refine okT_done (by kernel_rfl) ?_; refine ok_m_ rfl rfl (by exact ms_store 1 rfl rfl rfl rfl rfl rfl rfl rfl) ?_; rintro y_ hy_; refine ok_nil ?_; refine ok_env [(2, _), (5, _)] ⟨rfl, rfl, trivial⟩ ?_)
      | (refine ok_region (i := 9) ?_; refine ok_p rfl rfl rfl (by exact ps_int rfl rfl rfl rfl) ?_; refine ok_p rfl rfl rfl (by exact ps_assign rfl rfl) ?_; refine ok_nil ?_; refine ok_env [(0, _), (2, _), (5, _), (31, _)] ⟨rfl, rfl, rfl, rfl, trivial⟩ ?_)
      | (refine ok_draw (id := 10) 8 rfl (by kernel_rfl) (by kernel_rfl) rfl (by repeat (first | exact pq_body | refine pq_then ?_ | refine pq_in ?_)) [0] (by decide) rfl ?_; refine okT_take (i := 0) rfl (by kernel_rfl) rfl rfl rfl (by exact ps_field rfl rfl (by exact isw_ga _)) ?_; refine okT_take (i := 1) rfl (by kernel_rfl) rfl rfl rfl (by exact ps_load rfl rfl (by exact Rds.cell (rds_box 0 rfl) rfl)) ?_; refine okT_take (i := 2) rfl (by kernel_rfl) rfl rfl rfl (by exact ps_move rfl rfl) ?_; refine okT_one (i := 3) rfl rfl (by kernel_rfl) rfl rfl rfl (by exact ms_wr 4 rfl rfl rfl rfl (fun _ _ w hw => l7Key_c g A c bs _ _ (by omega) hr hw)) (fun y w _ h => by exact h.sel [0] (by decide) rfl (fun _ h => h)) ?_; rintro y36 hy36; refine okT_take (i := 4) rfl (by kernel_rfl) rfl rfl rfl (by exact ps_bld rfl (parts_cons rfl parts_nil) rfl) ?_; refine okT_one (i := 5) rfl rfl (by kernel_rfl) rfl rfl rfl (by exact ms_lit rfl (parts_cons rfl parts_nil) rfl rfl rfl) (fun y w _ h => by exact h.tl.sel [0] (by decide) rfl (fun _ h => h)) ?_; rintro y38 hy38; refine okT_one (i := 6) rfl rfl (by kernel_rfl) rfl rfl rfl (by exact ms_appN U [(⟨yS (y36 0), ⟨#[]⟩⟩ : KV)] 2 rfl rfl rfl rfl (rds_row 0 rfl) rfl rfl rfl (by omega) (by omega)) (fun y w _ h => by exact h.tl.sel [0] (by decide) rfl (fun _ h => h)) ?_; rintro y39 hy39; refine okT_take (i := 7) rfl (by kernel_rfl) rfl rfl rfl (by exact ps_field rfl rfl (by exact isw_ga _)) ?_; refine okT_done (by kernel_rfl) ?_; refine ok_m_ rfl rfl (by exact ms_store 1 rfl rfl rfl rfl rfl rfl rfl rfl) ?_; rintro y_ hy_; refine ok_nil ?_; refine ok_env [(2, _), (5, _)] ⟨rfl, rfl, trivial⟩ ?_))
    · exact fun a w' he hw => ⟨⟨U, D ++ [yS (y27 0)], (y12 0).A, (y12 0).c, (y29 0).A, (y29 0).c, (y27 0).c, (y27 1).n, hy27.2, d_addD HF.out (Nat.le_trans hy27.1 (by omega))⟩, he.sub ⟨rfl, rfl, trivial⟩, by simp only [List.length_append]; exact hw.tl⟩
    · exact fun a w' he hw => ⟨⟨U ++ [(⟨yS (y36 0), ⟨#[]⟩⟩ : KV)], D, (y39 0).A, (y39 0).c, (y12 1).A, (y12 1).c, (y36 0).c, (y36 1).n, hy36.2, d_addU HF.out ⟨Nat.le_trans hy36.1 (by omega), Nat.zero_le _⟩⟩, he.sub ⟨rfl, rfl, trivial⟩, by simp only [List.length_append]; exact hw.tl⟩
    · exact fun a w' he hw => ⟨⟨U, D ++ [(⟨#[]⟩ : ByteArray)], (y12 0).A, (y12 0).c, (y20 0).A, (y20 0).c, (y16 0).c, (y16 1).n, hy16.2, d_addD HF.out (Nat.zero_le _)⟩, he.sub ⟨rfl, rfl, trivial⟩, by simp only [List.length_append]; exact hw.tl⟩
    · exact fun a w' he hw => ⟨⟨U, D, (y12 0).A, (y12 0).c, (y12 1).A, (y12 1).c, (y14 0).c, (y14 1).n, hy14, d_up HF.out (by omega)⟩, he.sub ⟨rfl, rfl, trivial⟩, hw⟩
  rintro ⟨U, D, B0, d0, B1, d1, i, h, hi, hf⟩
  simp only at hi ⊢
  repeat' (first
    | refine ok_seq ?_
    | refine ok_then ?_
    | refine ok_ret ?_
    | (refine ok_region (i := 11) ?_; refine ok_p rfl rfl rfl (by exact ps_loads rfl rfl (by exact rds_box 0 rfl) rfl rfl (by decide)) ?_; refine ok_m_ rfl rfl (by exact ms_store 6 rfl rfl rfl rfl rfl rfl rfl rfl) ?_; rintro y_ hy_; refine ok_nil ?_; refine ok_env [(2, _)] ⟨rfl, trivial⟩ ?_))
  refine ok_endL (vs := [_]) rfl ⟨⟨_, 6, _, _, _, rfl, rfl, inferInstance, rfl, rfl⟩, trivial⟩ (fun w' hw => ?_)
  exact fin_D B0 d0 B1 d1 U D i h rfl hf hi ((((hw.tl.front 2 rfl).tl.front 3 rfl).tl.front 3 rfl).tl)
theorem drawShow_c (A : Option Addr) (c : Nat) (bs : List UInt8) (w : World) (h : Rd w A (fl bs)) (hl : bs.length ≤ 1048576) :
    Calls Try.prog 52 #[.slice A bs.length c] w fun e w' => ∃ y : Ys, e = .returned (.agg #[.slice (y 0).A (yE (y 2) : List KV).length (y 0).c, .slice (y 1).A (yE (y 3) : List ByteArray).length (y 1).c]) ∧ dFew (yE (y 2)) (yE (y 3)) 33 20 ∧ Below w.heap.size w w' ∧ NewOk w.heap.size [.row 67 2 (y 0).A (yE (y 2) : List KV).length (y 0).c (fl (yE (y 2) : List KV)), .row 9 1 (y 1).A (yE (y 3) : List ByteArray).length (y 1).c (fl (yE (y 3) : List ByteArray))] [] w' := by
  refine ok_enter 8 Try.func52 rfl rfl rfl ?_
  repeat' (first
    | refine ok_seq ?_
    | refine ok_then ?_
    | refine ok_ret ?_
    | (refine ok_region (i := 0) ?_; refine ok_m rfl rfl rfl (by exact ms_alloc rfl) ?_; rintro y2 hy2; refine ok_nil ?_; refine ok_env [(0, _), (2, _)] ⟨rfl, rfl, trivial⟩ ?_)
    | (refine ok_region (i := 1) ?_; refine ok_p rfl rfl rfl (by exact ps_move rfl rfl) ?_; refine ok_m rfl rfl rfl (by exact ms_c1 rfl rfl (fun _ _ w hw => new_c A c bs w (rds_rf h (by exact List.mem_cons_self) _ _ w hw) hl)) ?_; rintro y5 hy5; refine ok_p rfl rfl rfl (by exact ps_assign rfl rfl) ?_; refine ok_nil ?_; refine ok_env [(2, _), (3, _)] ⟨rfl, rfl, trivial⟩ ?_)
    | (refine ok_region (i := 2) ?_; refine ok_p rfl rfl rfl (by exact ps_move rfl rfl) ?_; refine ok_m rfl rfl rfl (by exact ms_w1 (fun _ _ _ h => h) rfl rfl (fun _ _ w hw => l35Some_c _ A c bs _ _ (by omega) ⟨⟨_, (by exact List.mem_cons_self), h⟩, hl⟩ hw)) ?_; rintro y7 hy7; refine ok_m_ rfl rfl (by exact ms_store 3 rfl rfl rfl rfl rfl rfl rfl rfl) ?_; rintro y_ hy_; refine ok_nil ?_; refine ok_env [(2, _)] ⟨rfl, trivial⟩ ?_))
  refine ok_endL (vs := [_]) rfl ⟨⟨_, 3, _, _, _, rfl, rfl, inferInstance, rfl, rfl⟩, trivial⟩ (fun w' hw => ?_)
  exact ⟨y7, rfl, hy7.1, hw.below, NewOk.of (hw.sel [0, 1] (by decide) rfl (G' := []) (fun _ h => by cases h))⟩
theorem drawOk_c (A : Option Addr) (c : Nat) (bs : List UInt8) (w : World) (h : Rd w A (fl bs)) (hl : bs.length ≤ 1048576) :
    Calls Try.prog 59 #[.slice A bs.length c] w fun e w' => ∃ y : Ys, e = .returned (.agg #[.slice (y 0).A (yE (y 2) : List KV).length (y 0).c, .slice (y 1).A (yE (y 3) : List ByteArray).length (y 1).c]) ∧ dFew (yE (y 2)) (yE (y 3)) 33 20 ∧ Below w.heap.size w w' ∧ NewOk w.heap.size [.row 67 2 (y 0).A (yE (y 2) : List KV).length (y 0).c (fl (yE (y 2) : List KV)), .row 9 1 (y 1).A (yE (y 3) : List ByteArray).length (y 1).c (fl (yE (y 3) : List ByteArray))] [] w' := by
  refine ok_enter 8 Try.func59 rfl rfl rfl ?_
  repeat' (first
    | refine ok_seq ?_
    | refine ok_then ?_
    | refine ok_ret ?_
    | (refine ok_region (i := 0) ?_; refine ok_m rfl rfl rfl (by exact ms_alloc rfl) ?_; rintro y2 hy2; refine ok_nil ?_; refine ok_env [(0, _), (2, _)] ⟨rfl, rfl, trivial⟩ ?_)
    | (refine ok_region (i := 1) ?_; refine ok_p rfl rfl rfl (by exact ps_move rfl rfl) ?_; refine ok_m rfl rfl rfl (by exact ms_c1 rfl rfl (fun _ _ w hw => new_c A c bs w (rds_rf h (by exact List.mem_cons_self) _ _ w hw) hl)) ?_; rintro y5 hy5; refine ok_p rfl rfl rfl (by exact ps_assign rfl rfl) ?_; refine ok_nil ?_; refine ok_env [(2, _), (3, _)] ⟨rfl, rfl, trivial⟩ ?_)
    | (refine ok_region (i := 2) ?_; refine ok_p rfl rfl rfl (by exact ps_move rfl rfl) ?_; refine ok_m rfl rfl rfl (by exact ms_w1 (fun _ _ _ h => h) rfl rfl (fun _ _ w hw => l35Some_c _ A c bs _ _ (by omega) ⟨⟨_, (by exact List.mem_cons_self), h⟩, hl⟩ hw)) ?_; rintro y7 hy7; refine ok_m_ rfl rfl (by exact ms_store 3 rfl rfl rfl rfl rfl rfl rfl rfl) ?_; rintro y_ hy_; refine ok_nil ?_; refine ok_env [(2, _)] ⟨rfl, trivial⟩ ?_))
  refine ok_endL (vs := [_]) rfl ⟨⟨_, 3, _, _, _, rfl, rfl, inferInstance, rfl, rfl⟩, trivial⟩ (fun w' hw => ?_)
  exact ⟨y7, rfl, hy7.1, hw.below, NewOk.of (hw.sel [0, 1] (by decide) rfl (G' := []) (fun _ h => by cases h))⟩
theorem drawJoin_c (A : Option Addr) (c : Nat) (bs : List UInt8) (w : World) (h : Rd w A (fl bs)) (hl : bs.length ≤ 1048576) :
    Calls Try.prog 58 #[.slice A bs.length c] w fun e w' => ∃ y : Ys, e = .returned (.tuple #[.agg #[.slice (y 0).A (yE (y 2) : List KV).length (y 0).c, .slice (y 1).A (yE (y 3) : List ByteArray).length (y 1).c], .agg #[.slice (y 5).A (yE (y 7) : List KV).length (y 5).c, .slice (y 6).A (yE (y 8) : List ByteArray).length (y 6).c]]) ∧ (dFew (yE (y 2)) (yE (y 3)) 33 20 ∧ dFew (yE (y 7)) (yE (y 8)) 33 20) ∧ Below w.heap.size w w' ∧ NewOk w.heap.size [.row 67 2 (y 0).A (yE (y 2) : List KV).length (y 0).c (fl (yE (y 2) : List KV)), .row 9 1 (y 1).A (yE (y 3) : List ByteArray).length (y 1).c (fl (yE (y 3) : List ByteArray)), .row 67 2 (y 5).A (yE (y 7) : List KV).length (y 5).c (fl (yE (y 7) : List KV)), .row 9 1 (y 6).A (yE (y 8) : List ByteArray).length (y 6).c (fl (yE (y 8) : List ByteArray))] [] w' := by
  refine ok_enter 13 Try.func58 rfl rfl rfl ?_
  repeat' (first
    | refine ok_seq ?_
    | refine ok_then ?_
    | refine ok_ret ?_
    | (refine ok_region (i := 0) ?_; refine ok_m rfl rfl rfl (by exact ms_alloc rfl) ?_; rintro y2 hy2; refine ok_m rfl rfl rfl (by exact ms_alloc rfl) ?_; rintro y3 hy3; refine ok_nil ?_; refine ok_env [(0, _), (2, _), (3, _)] ⟨rfl, rfl, rfl, trivial⟩ ?_)
    | (refine ok_region (i := 1) ?_; refine ok_p rfl rfl rfl (by exact ps_move rfl rfl) ?_; refine ok_m rfl rfl rfl (by exact ms_c1 rfl rfl (fun _ _ w hw => new_c A c bs w (rds_rf h (by exact List.mem_cons_self) _ _ w hw) hl)) ?_; rintro y7 hy7; refine ok_p rfl rfl rfl (by exact ps_assign rfl rfl) ?_; refine ok_nil ?_; refine ok_env [(2, _), (3, _), (4, _)] ⟨rfl, rfl, rfl, trivial⟩ ?_)
    | (refine ok_region (i := 2) ?_; refine ok_p rfl rfl rfl (by exact ps_move rfl rfl) ?_; refine ok_m rfl rfl rfl (by exact ms_w1 (fun _ _ _ h => h) rfl rfl (fun _ _ w hw => l35Some_c _ A c bs _ _ (by omega) ⟨⟨_, (by exact List.mem_cons_self), h⟩, hl⟩ hw)) ?_; rintro y9 hy9; refine ok_m rfl rfl rfl (by exact ms_alloc rfl) ?_; rintro y5 hy5; refine ok_m_ rfl rfl (by exact ms_store 0 rfl rfl rfl rfl rfl rfl rfl rfl) ?_; rintro y_ hy_; refine ok_nil ?_; refine ok_env [(2, _), (3, _), (4, _), (5, _)] ⟨rfl, rfl, rfl, rfl, trivial⟩ ?_)
    | (refine ok_draw (id := 3) 3 rfl (by kernel_rfl) (by kernel_rfl) rfl (by repeat (first | exact pq_body | refine pq_then ?_ | refine pq_in ?_)) [0,  1] (by decide) rfl ?_; refine okT_take (i := 0) rfl (by kernel_rfl) rfl rfl rfl (by exact ps_loads rfl rfl (by exact rds_box 0 rfl) rfl rfl (by decide)) ?_; refine okT_take (i := 1) rfl (by kernel_rfl) rfl rfl rfl (by exact ps_move rfl rfl) ?_; refine okT_one (i := 2) rfl rfl (by kernel_rfl) rfl rfl rfl (by exact ms_w1 (fun _ _ _ h => h.front 3 rfl) rfl rfl (fun _ _ w hw => l35Some_c _ A c bs _ _ (by omega) ⟨⟨_, (by exact List.mem_cons_self), h⟩, hl⟩ hw)) (fun y w _ h => by exact h.tl.tl.tl.sel [0,  1] (by decide) rfl (fun _ h => h)) ?_; rintro y12 hy12; refine okT_done (by kernel_rfl) ?_; refine ok_m_ rfl rfl (by exact ms_store 7 rfl rfl rfl rfl rfl rfl rfl rfl) ?_; rintro y_ hy_; refine ok_m_ rfl rfl (by exact ms_store 6 rfl rfl rfl rfl rfl rfl rfl rfl) ?_; rintro y_ hy_; refine ok_nil ?_; refine ok_env [(2, _), (3, _)] ⟨rfl, rfl, trivial⟩ ?_))
  refine ok_endL (vs := [_, _]) rfl ⟨⟨_, 7, _, _, _, rfl, rfl, inferInstance, rfl, rfl⟩, ⟨_, 6, _, _, _, rfl, rfl, inferInstance, rfl, rfl⟩, trivial⟩ (fun w' hw => ?_)
  exact ⟨yl [y9 0, y9 1, y9 2, y9 3, y9 4, y12 0, y12 1, y12 2, y12 3] (y9 0), rfl, ⟨hy9.1, hy12.1⟩, hw.below, NewOk.of (hw.sel [4, 5, 0, 1] (by decide) rfl (G' := []) (fun _ h => by cases h))⟩
theorem show_size {U : List KV} {D : List ByteArray} (h : dFew U D 33 20) : (fShowDelta ⟨U, D⟩).size ≤ 4000 := by
  unfold fShowDelta
  split
  · rename_i hk
    have hr : (rawD U D D.length).size ≤ 20 + U.length * 46 + D.length * 20 := rawD_size hk D.length (Nat.le_refl _)
    have h1 := h.1.1
    have h2 := h.2.1
    show (rawD U D D.length).size ≤ 4000
    omega
  · exact Nat.zero_le _
theorem d_sm {x : DDelta} {n : Nat} (h : dFew x.U x.D n 20) (hn : n ≤ 1000) : Delta_sm x := ⟨⟨by have := h.1.1; omega, fun u hu => ⟨by have := (h.1.2 u hu).1; omega, by have := (h.1.2 u hu).2; omega⟩⟩, by have := h.2.1; omega, fun u hu => by have := h.2.2 u hu; show u.size ≤ 1048576; omega⟩
theorem join_few {a b : DDelta} {n k : Nat} (ha : dFew a.U a.D n 20) (hb : dFew b.U b.D k 20) : dFew (fJoinDelta a b).U (fJoinDelta a b).D (n + k) 20 := by
  by_cases hk : deltaOk a.U a.D = true ∧ deltaOk b.U b.D = true
  · rw [join_eq hk.1 hk.2]
    refine ⟨⟨?_, fun u hu => ?_⟩, ?_, fun u hu => ?_⟩
    · have q1 := puts_len b.U (dropsF b.D a.U)
      have q2 := drops_len b.D a.U
      have h1 := ha.1.1
      have h2 := hb.1.1
      show (joinU a b).length ≤ n + k
      unfold joinU
      omega
    · rcases (joinU_mem hk.1 hk.2 u).1 hu with h | h
      · exact hb.1.2 u h
      · exact ha.1.2 u h.1.1
    · have := delF_len b.U a.D b.D
      have h1 := ha.2.1
      have h2 := hb.2.1
      simp only
      omega
    · rcases (delF_mem (delta_srt hk.2).1 _ _ u).1 hu with h | h
      · exact hb.2.2 u h
      · exact ha.2.2 u h.1
  · rw [joinD_no hk]
    exact ⟨kv_nil _ _, Nat.zero_le _, fun u hu => (by cases hu)⟩
theorem drawRead_c (A : Option Addr) (c : Nat) (bs : List UInt8) (w : World) (h : Rd w A (fl bs)) (hl : bs.length ≤ 1048576) :
    Calls Try.prog 55 #[.slice A bs.length c] w fun e w' => ∃ y : Ys, e = .returned (.string (yS (y 0))) ∧ (yS (y 0)).size ≤ 4100 ∧ Below w.heap.size w w' ∧ NewOk w.heap.size [] [] w' := by
  refine ok_enter 16 Try.func55 rfl rfl rfl ?_
  repeat' (first
    | refine ok_seq ?_
    | refine ok_then ?_
    | refine ok_then_ret ?_
    | (refine ok_cond rfl (fun hc => ?_) (fun hc => ?_) <;> (have hd := hc; (try simp only [decide_eq_true_eq, decide_eq_false_iff_not, Bool.or_eq_true, Bool.or_eq_false_iff, Bool.and_eq_true, Bool.and_eq_false_iff, Bool.not_eq_true', Bool.not_eq_false', bne_iff_ne, beq_iff_eq, bne_eq_false_iff_eq, beq_eq_false_iff_ne, ne_eq, Bool.not_true, Bool.not_false, Bool.false_eq_true, Bool.true_eq_false, inB_true, inB_false] at hd)))
    | refine ok_ret ?_
    | refine ok_skip ?_
    | (refine ok_region (i := 0) ?_; refine ok_p rfl rfl rfl (by exact ps_assign rfl rfl) ?_; refine ok_nil ?_; refine ok_env [(0, _)] ⟨rfl, trivial⟩ ?_)
    | (refine ok_region (i := 1) ?_; refine ok_p rfl rfl rfl (by exact ps_move rfl rfl) ?_; refine ok_m rfl rfl rfl (by exact ms_c1 rfl rfl (fun _ _ w hw => new_c A c bs w (rds_rf h (by exact List.mem_cons_self) _ _ w hw) hl)) ?_; rintro y6 hy6; refine ok_p rfl rfl rfl (by exact ps_assign rfl rfl) ?_; refine ok_nil ?_; refine ok_env [(3, _)] ⟨rfl, trivial⟩ ?_)
    | (refine ok_region (i := 2) ?_; refine ok_p rfl rfl rfl (by exact ps_move rfl rfl) ?_; refine ok_m rfl rfl rfl (by exact ms_w1 (fun _ _ _ h => h) rfl rfl (fun _ _ w hw => l35Some_c _ A c bs _ _ (by omega) ⟨⟨_, (by exact List.mem_cons_self), h⟩, hl⟩ hw)) ?_; rintro y8 hy8; refine ok_m rfl rfl rfl (by exact ms_s1 rfl rfl (fun _ _ w hw => s_ShowDelta0 (y8 0).A (y8 1).A (y8 0).c (y8 1).c (yE (y8 2)) (yE (y8 3)) w (rds_row 0 rfl _ _ w hw) (rds_row 1 rfl _ _ w hw) (by have := hy8.1.1.1; omega) (by have := hy8.1.2.1; omega))) ?_; rintro y9 hy9; refine ok_p rfl rfl rfl (by exact ps_assign rfl rfl) ?_; refine ok_nil ?_; refine ok_env [(3, _), (4, _)] ⟨rfl, rfl, trivial⟩ ?_)
    | (refine ok_region (i := 3) ?_; refine ok_p rfl rfl rfl (by exact ps_move rfl rfl) ?_; refine ok_m rfl rfl rfl (by exact ms_wr 2 rfl rfl rfl rfl (fun _ _ w hw => once_c _ A c bs _ _ 3 (by omega) (by omega) ⟨⟨_, (by exact List.mem_cons_self), h⟩, hl⟩ hw)) ?_; rintro y11 hy11; refine ok_nil ?_; refine ok_env [(3, _), (4, _), (11, _)] ⟨rfl, rfl, rfl, trivial⟩ ?_)
    | (refine ok_region (i := 4) ?_; refine ok_p rfl rfl rfl (by exact ps_move rfl rfl) ?_; refine ok_p rfl rfl rfl (by exact ps_move rfl rfl) ?_; refine ok_m rfl rfl rfl (by exact ms_wr 2 rfl rfl rfl rfl (fun _ _ w hw => spoil_c _ A c bs _ _ (fShowDelta ⟨yE (y8 2), yE (y8 3)⟩) (by have := show_size hy8.1; omega) (by omega) ⟨⟨_, (by exact List.mem_cons_self), h⟩, hl⟩ hw)) ?_; rintro y14 hy14; refine ok_p rfl rfl rfl (by exact ps_assign rfl rfl) ?_; refine ok_nil ?_; refine ok_env [(2, _)] ⟨rfl, trivial⟩ ?_)
    | (refine ok_region (i := 5) ?_; refine ok_p rfl rfl rfl (by exact ps_move rfl rfl) ?_; refine ok_p rfl rfl rfl (by exact ps_assign rfl rfl) ?_; refine ok_nil ?_; refine ok_env [(2, _)] ⟨rfl, trivial⟩ ?_))
  · have h1 := show_size hy8.1
    exact ok_endL (vs := [_]) rfl ⟨rfl, trivial⟩ (fun w' hw => ⟨y14, rfl, Nat.le_trans hy14.1 (by omega), hw.below, NewOk.of (hw.sel [] (by decide) rfl (G' := []) (fun _ h => by cases h))⟩)
  · have h1 := show_size hy8.1
    exact ok_endL (vs := [_]) rfl ⟨rfl, trivial⟩ (fun w' hw => ⟨mkS (fShowDelta ⟨yE (y8 2), yE (y8 3)⟩) 0 0 w', rfl, by rw [yS_mk]; omega, hw.below, NewOk.of (hw.sel [] (by decide) rfl (G' := []) (fun _ h => by cases h))⟩)
end Go.Proofs.Ytbegbdfbfbkflaa
/- ReadDelta of both programs. -/
namespace Go.Proofs.Ytbegbdfbfbkflaa
open Go.RowKit
set_option maxHeartbeats 4000000
set_option maxRecDepth 20000
set_option linter.unusedVariables false
set_option linter.unusedSimpArgs false
attribute [local irreducible] Calls
theorem tkE_le (s : ByteArray) (z : Int) : -1 ≤ tkE (tkW s z) ∧ tkE (tkW s z) ≤ s.size := by
  unfold tkW
  split
  · cases h : tkS s z.toNat with
    | none => simp only [tkE]; omega
    | some p => obtain ⟨r, e⟩ := p; have := tkS_some h; simp only [tkE]; omega
  · simp only [tkE]; omega
theorem tkW_nat {s : ByteArray} {k : Nat} (h : k ≤ s.size) : tkW s (k : Int) = tkS s k := by
  unfold tkW; rw [if_pos ⟨by omega, by omega⟩, Int.toNat_natCast]
theorem tkV_nat {s : ByteArray} {k : Nat} (h : k ≤ s.size) : tkV s (k : Int) = tkN s k := by
  unfold tkV; rw [if_pos ⟨by omega, by omega⟩, Int.toNat_natCast]
theorem tkW_neg {s : ByteArray} : tkE (tkW s (-1)) = -1 := by unfold tkW; rw [if_neg (by omega)]; rfl
/-- Two pieces, one behind the other. -/
theorem tk2_no {s : ByteArray} {k n : Nat} {L : List KV} (hk : k ≤ s.size) (h : tkE (tkW s (tkE (tkW s k))) < 0) : pKV s (n + 1) k L = none := by
  rw [pKV]
  rw [tkW_nat hk] at h
  cases h1 : tkS s k with
  | none => rfl
  | some p =>
    obtain ⟨r, e⟩ := p
    have h2 := tkS_some h1
    rw [h1] at h
    simp only [tkE] at h
    rw [tkW_nat h2.2.1] at h
    simp only [Option.bind_some]
    cases h3 : tkS s e with
    | none => rfl
    | some q => rw [h3] at h; simp only [tkE] at h; omega
theorem tk2_yes {s : ByteArray} {k n : Nat} {L : List KV} (hk : k ≤ s.size) (h : ¬ tkE (tkW s (tkE (tkW s k))) < 0) : ∃ e : Nat, tkE (tkW s (tkE (tkW s k))) = e ∧ k + 2 ≤ e ∧ e ≤ s.size ∧ pKV s (n + 1) k L = pKV s n e (L ++ [⟨tkT (tkW s k), tkT (tkW s (tkE (tkW s k)))⟩]) := by
  rw [pKV]
  rw [tkW_nat hk] at h ⊢
  cases h1 : tkS s k with
  | none => rw [h1] at h; simp only [tkE] at h; exact absurd (show tkE (tkW s (-1)) < 0 by rw [tkW_neg]; decide) h
  | some p =>
    obtain ⟨r, e⟩ := p
    have h2 := tkS_some h1
    rw [h1] at h
    simp only [tkE] at h ⊢
    rw [tkW_nat h2.2.1] at h ⊢
    simp only [Option.bind_some]
    cases h3 : tkS s e with
    | none => rw [h3] at h; exact absurd (show (-1 : Int) < 0 by decide) h
    | some q =>
      obtain ⟨t, b⟩ := q
      have h4 := tkS_some h3
      exact ⟨b, rfl, by omega, h4.2.1, rfl⟩
theorem tk1_no {s : ByteArray} {k n : Nat} {L : List ByteArray} (hk : k ≤ s.size) (h : tkE (tkW s k) < 0) : pST s (n + 1) k L = none := by
  rw [pST]
  rw [tkW_nat hk] at h
  cases h1 : tkS s k with
  | none => rfl
  | some p => rw [h1] at h; simp only [tkE] at h; omega
theorem tk1_yes {s : ByteArray} {k n : Nat} {L : List ByteArray} (hk : k ≤ s.size) (h : ¬ tkE (tkW s k) < 0) : ∃ e : Nat, tkE (tkW s k) = e ∧ k + 1 ≤ e ∧ e ≤ s.size ∧ pST s (n + 1) k L = pST s n e (L ++ [tkT (tkW s k)]) := by
  rw [pST]
  rw [tkW_nat hk] at h ⊢
  cases h1 : tkS s k with
  | none => rw [h1] at h; exact absurd (show (-1 : Int) < 0 by decide) h
  | some p =>
    obtain ⟨r, e⟩ := p
    have h2 := tkS_some h1
    exact ⟨e, rfl, by omega, h2.2.1, rfl⟩
structure RdA (s : ByteArray) (n : Nat) where
  i : Nat
  k : Nat
  L : List KV
  A : Option Addr
  c : Nat
  hi : L.length = i ∧ i ≤ n
  hk : k ≤ s.size ∧ L.length ≤ k
  ok : pKV s (n - i) k L = pU s
structure RdB (s : ByteArray) (n : Nat) (P : Option (List ByteArray × Nat)) where
  i : Nat
  k : Nat
  L : List ByteArray
  A : Option Addr
  c : Nat
  hi : L.length = i ∧ i ≤ n
  hk : k ≤ s.size ∧ L.length ≤ k
  ok : pST s (n - i) k L = P
attribute [local irreducible] fShowDelta
theorem s_ReadDelta (s : ByteArray) (w : World) (hs : s.size ≤ 1048576) :
    Calls Try.prog 56 #[.string s] w fun e w' => ∃ y : Ys, e = .returned (.tuple #[Delta_val (fReadDelta s).1 y, .bool (fReadDelta s).2]) ∧ True ∧ Below w.heap.size w w' ∧ NewOk w.heap.size (Delta_obj (fReadDelta s).1 y) [] w' := by
  have v0 : tkV s 0 = tkN s 0 := tkV_nat (k := 0) (Nat.zero_le _)
  cases h0 : tkN s 0 with
  | none =>
    have eU : pU s = none := by unfold pU; rw [h0]; rfl
    rw [read_none (pU_none eU)]
    refine ok_enter 93 Try.func56 rfl rfl rfl ?_
    repeat' (first
      | refine ok_seq ?_
      | refine ok_then ?_
      | refine ok_then_ret ?_
      | refine ok_block ?_
      | (refine ok_cond rfl (fun hc => ?_) (fun hc => ?_) <;> (have hd := hc; (try simp only [decide_eq_true_eq, decide_eq_false_iff_not, Bool.or_eq_true, Bool.or_eq_false_iff, Bool.and_eq_true, Bool.and_eq_false_iff, Bool.not_eq_true', Bool.not_eq_false', bne_iff_ne, beq_iff_eq, bne_eq_false_iff_eq, beq_eq_false_iff_ne, ne_eq, Bool.not_true, Bool.not_false, Bool.false_eq_true, Bool.true_eq_false, inB_true, inB_false] at hd)))
      | refine ok_ret ?_
      | refine ok_skip ?_
      | (refine ok_region (i := 0) ?_; refine ok_m rfl rfl rfl (by exact ms_alloc rfl) ?_; rintro y2 hy2; refine ok_p rfl rfl rfl (by exact ps_assign rfl rfl) ?_; refine ok_nil ?_; refine ok_env [(0, _), (2, _)] ⟨rfl, rfl, trivial⟩ ?_)
      | (refine ok_region (i := 1) ?_; refine ok_p rfl rfl rfl (by exact ps_bld rfl parts_nil rfl) ?_; refine ok_m rfl rfl rfl (by exact ms_alloc rfl) ?_; rintro y4 hy4; refine ok_m_ rfl rfl (by exact ms_store 0 rfl rfl rfl rfl rfl rfl rfl rfl) ?_; rintro y_ hy_; refine ok_nil ?_; refine ok_env [(0, _), (2, _), (4, _)] ⟨rfl, rfl, rfl, trivial⟩ ?_)
      | (refine ok_region (i := 2) ?_; refine ok_p rfl rfl rfl (by exact ps_move rfl rfl) ?_; refine ok_m rfl rfl rfl (by exact ms_c3 rfl rfl rfl rfl (fun _ _ w hw => s_l6Vars_no s 0 (by omega) (by omega) (v0.trans h0) w)) ?_; rintro y18 hy18; refine ok_p rfl rfl rfl (by exact ps_move rfl rfl) ?_; refine ok_p rfl rfl rfl (by exact ps_extract rfl rfl rfl) ?_; refine ok_p rfl rfl rfl (by exact ps_extract rfl rfl rfl) ?_; refine ok_p rfl rfl rfl (by exact ps_assign rfl rfl) ?_; refine ok_p rfl rfl rfl (by exact ps_assign rfl rfl) ?_; refine ok_nil ?_; refine ok_env [(0, _), (2, _), (4, _), (5, _), (6, _)] ⟨rfl, rfl, rfl, rfl, rfl, trivial⟩ ?_)
      | (refine ok_region (i := 3) ?_; refine ok_p rfl rfl rfl (by exact ps_move rfl rfl) ?_; refine ok_p rfl rfl rfl (by exact ps_int rfl rfl rfl rfl) ?_; refine ok_nil ?_; refine ok_env [(0, _), (2, _), (4, _), (5, _), (6, _), (22, _)] ⟨rfl, rfl, rfl, rfl, rfl, rfl, trivial⟩ ?_)
      | (refine ok_region (i := 4) ?_; refine ok_p rfl rfl rfl (by exact ps_loads rfl rfl (by exact rds_box 1 rfl) rfl rfl (by decide)) ?_; refine ok_m_ rfl rfl (by exact ms_store 2 rfl rfl rfl rfl rfl rfl rfl rfl) ?_; rintro y_ hy_; refine ok_p rfl rfl rfl (by exact ps_assign rfl rfl) ?_; refine ok_nil ?_; refine ok_env [(2, _), (3, _)] ⟨rfl, rfl, trivial⟩ ?_)
      | (refine ok_region (i := 5) ?_; refine ok_p rfl rfl rfl (by exact ps_assign rfl rfl) ?_; refine ok_nil ?_; refine ok_env [(0, _), (2, _), (4, _), (5, _), (6, _), (7, _)] ⟨rfl, rfl, rfl, rfl, rfl, rfl, trivial⟩ ?_))
    · refine ok_endL (vs := [_, _]) rfl ⟨⟨_, 2, _, _, _, rfl, rfl, inferInstance, rfl, rfl⟩, rfl, trivial⟩ (fun w' hw => ?_)
      exact ⟨mkY none 0 w', rfl, trivial, hw.below, own_nilD _ _⟩
    · exfalso; omega
  | some p =>
    obtain ⟨n, a⟩ := p
    have hn := tkN_some h0
    have e0 : pKV s n a [] = pU s := by unfold pU; rw [h0]; rfl
    obtain ⟨LN, hLN⟩ : ∃ L, L = [(n : Int)] := ⟨_, rfl⟩
    have hLN1 : LN.length = 1 := by rw [hLN]; rfl
    have hLN2 : nth LN (Int.toNat 0) = n := by rw [hLN]; rfl
    refine ok_enter 93 Try.func56 rfl rfl rfl ?_
    repeat' (first
      | refine ok_seq ?_
      | refine ok_then ?_
      | refine ok_then_ret ?_
      | refine ok_block ?_
      | (refine ok_cond rfl (fun hc => ?_) (fun hc => ?_) <;> (have hd := hc; (try simp only [decide_eq_true_eq, decide_eq_false_iff_not, Bool.or_eq_true, Bool.or_eq_false_iff, Bool.and_eq_true, Bool.and_eq_false_iff, Bool.not_eq_true', Bool.not_eq_false', bne_iff_ne, beq_iff_eq, bne_eq_false_iff_eq, beq_eq_false_iff_ne, ne_eq, Bool.not_true, Bool.not_false, Bool.false_eq_true, Bool.true_eq_false, inB_true, inB_false] at hd)))
      | refine ok_ret ?_
      | refine ok_skip ?_
      | (refine ok_region (i := 0) ?_; refine ok_m rfl rfl rfl (by exact ms_alloc rfl) ?_; rintro y2 hy2; refine ok_p rfl rfl rfl (by exact ps_assign rfl rfl) ?_; refine ok_nil ?_; refine ok_env [(0, _), (2, _)] ⟨rfl, rfl, trivial⟩ ?_)
      | (refine ok_region (i := 1) ?_; refine ok_p rfl rfl rfl (by exact ps_bld rfl parts_nil rfl) ?_; refine ok_m rfl rfl rfl (by exact ms_alloc rfl) ?_; rintro y4 hy4; refine ok_m_ rfl rfl (by exact ms_store 0 rfl rfl rfl rfl rfl rfl rfl rfl) ?_; rintro y_ hy_; refine ok_nil ?_; refine ok_env [(0, _), (2, _), (4, _)] ⟨rfl, rfl, rfl, trivial⟩ ?_)
      | (refine ok_region (i := 2) ?_; refine ok_p rfl rfl rfl (by exact ps_move rfl rfl) ?_; refine ok_m rfl rfl rfl (by exact ms_c3 rfl rfl rfl rfl (fun _ _ w hw => s_l6Vars_yes s 0 n a LN hLN (by omega) (by omega) (v0.trans h0) w)) ?_; rintro y18 hy18; refine ok_p rfl rfl rfl (by exact ps_move rfl rfl) ?_; refine ok_p rfl rfl rfl (by exact ps_extract rfl rfl rfl) ?_; refine ok_p rfl rfl rfl (by exact ps_extract rfl rfl rfl) ?_; refine ok_p rfl rfl rfl (by exact ps_assign rfl rfl) ?_; refine ok_p rfl rfl rfl (by exact ps_assign rfl rfl) ?_; refine ok_nil ?_; refine ok_env [(0, _), (2, _), (4, _), (5, _), (6, _)] ⟨rfl, rfl, rfl, rfl, rfl, trivial⟩ ?_)
      | (refine ok_region (i := 3) ?_; refine ok_p rfl rfl rfl (by exact ps_move rfl rfl) ?_; refine ok_p rfl rfl rfl (by exact ps_int rfl rfl rfl rfl) ?_; refine ok_nil ?_; refine ok_env [(0, _), (2, _), (4, _), (5, _), (6, _), (22, _)] ⟨rfl, rfl, rfl, rfl, rfl, rfl, trivial⟩ ?_)
      | (refine ok_region (i := 4) ?_; refine ok_p rfl rfl rfl (by exact ps_loads rfl rfl (by exact rds_box 1 rfl) rfl rfl (by decide)) ?_; refine ok_m_ rfl rfl (by exact ms_store 2 rfl rfl rfl rfl rfl rfl rfl rfl) ?_; rintro y_ hy_; refine ok_p rfl rfl rfl (by exact ps_assign rfl rfl) ?_; refine ok_nil ?_; refine ok_env [(2, _), (3, _)] ⟨rfl, rfl, trivial⟩ ?_)
      | (refine ok_region (i := 5) ?_; refine ok_p rfl rfl rfl (by exact ps_assign rfl rfl) ?_; refine ok_nil ?_; refine ok_env [(0, _), (2, _), (4, _), (5, _), (6, _), (7, _)] ⟨rfl, rfl, rfl, rfl, rfl, rfl, trivial⟩ ?_))
    · exfalso; omega
    refine ok_loop (ι := RdA s n) (fun q => s.size - q.k) (fun q => ([(0, .string s), (2, pt (ga (y2 0).c) 0), (4, pt (ga (y4 0).c) 0), (5, .slice (y18 0).A 1 (y18 0).c), (6, .int .i64 q.k), (7, .int .i64 q.i)], [.row 67 2 q.A q.L.length q.c (fl q.L), .box (y4 0).c 89 [.slice q.A q.L.length q.c, .slice none 0 0], _, _], _)) ⟨0, a, [], none, 0, by simp, by simp; omega, e0⟩ (fun a' w he hw => ⟨⟨0, a, [], none, 0, by simp, by simp; omega, e0⟩, he.sub ⟨rfl, rfl, rfl, rfl, rfl, rfl, trivial⟩, (hw.front 1 rfl).rowNil 67 2⟩) ?_
    rintro ⟨i, k, L, A, c, hi, hk, ok⟩
    simp only at hi hk ok ⊢
    have OK := Lib.hid ok; clear ok
    have t1 := tkE_le s k
    repeat' (first
      | refine ok_seq ?_
      | refine ok_then ?_
      | refine ok_then_ret ?_
      | refine ok_block ?_
      | refine ok_in_normal ?_
      | refine ok_in_ret ?_
      | (refine ok_cond rfl (fun hc => ?_) (fun hc => ?_) <;> (have hd := hc; (try simp only [decide_eq_true_eq, decide_eq_false_iff_not, Bool.or_eq_true, Bool.or_eq_false_iff, Bool.and_eq_true, Bool.and_eq_false_iff, Bool.not_eq_true', Bool.not_eq_false', bne_iff_ne, beq_iff_eq, bne_eq_false_iff_eq, beq_eq_false_iff_ne, ne_eq, Bool.not_true, Bool.not_false, Bool.false_eq_true, Bool.true_eq_false, inB_true, inB_false] at hd)))
      | refine ok_ret ?_
      | refine ok_exit ?_
      | refine ok_skip ?_
      | (refine ok_region (i := 6) ?_; refine ok_p rfl rfl rfl (by exact ps_move rfl rfl) ?_; refine ok_p rfl rfl rfl (by exact ps_move rfl rfl) ?_; refine ok_p rfl rfl rfl (by exact ps_index rfl rfl rfl (by omega) (by exact isw_row 2 rfl (by omega))) ?_; refine ok_p rfl rfl rfl (by exact ps_load rfl rfl (by exact Rds.cell (rds_row 2 rfl) (by exact fl_at0 _ _ (by omega) (by decide)))) ?_; refine ok_p rfl rfl rfl (by exact ps_int rfl rfl rfl rfl) ?_; refine ok_nil ?_; refine ok_env [(0, _), (2, _), (4, _), (5, _), (6, _), (7, _), (28, _)] ⟨rfl, rfl, rfl, rfl, rfl, rfl, rfl, trivial⟩ ?_)
      | (refine ok_region (i := 7) ?_; refine ok_p rfl rfl rfl (by exact ps_move rfl rfl) ?_; refine ok_p rfl rfl rfl (by exact ps_add rfl rfl rfl (by omega)) ?_; refine ok_p rfl rfl rfl (by exact ps_assign rfl rfl) ?_; refine ok_nil ?_; refine ok_env [(0, _), (2, _), (4, _), (5, _), (6, _), (7, _)] ⟨rfl, rfl, rfl, rfl, rfl, rfl, trivial⟩ ?_)
      | (refine ok_region (i := 8) ?_; refine ok_p rfl rfl rfl (by exact ps_move rfl rfl) ?_; refine ok_p rfl rfl rfl (by exact ps_move rfl rfl) ?_; refine ok_m rfl rfl rfl (by exact ms_s2 rfl rfl rfl (fun _ _ w hw => s_l6Take_c s k (by omega) (by omega) w)) ?_; rintro y34 hy34; refine ok_p rfl rfl rfl (by exact ps_move rfl rfl) ?_; refine ok_p rfl rfl rfl (by exact ps_extract rfl rfl rfl) ?_; refine ok_p rfl rfl rfl (by exact ps_extract rfl rfl rfl) ?_; refine ok_p rfl rfl rfl (by exact ps_assign rfl rfl) ?_; refine ok_p rfl rfl rfl (by exact ps_assign rfl rfl) ?_; refine ok_nil ?_; refine ok_env [(0, _), (2, _), (4, _), (5, _), (7, _), (8, _), (9, _)] ⟨rfl, rfl, rfl, rfl, rfl, rfl, rfl, trivial⟩ ?_)
      | (refine ok_region (i := 9) ?_; refine ok_p rfl rfl rfl (by exact ps_move rfl rfl) ?_; refine ok_p rfl rfl rfl (by exact ps_move rfl rfl) ?_; refine ok_m rfl rfl rfl (by exact ms_s2 rfl rfl rfl (fun _ _ w hw => s_l6Take_c s _ (by omega) (by omega) w)) ?_; rintro y40 hy40; refine ok_p rfl rfl rfl (by exact ps_move rfl rfl) ?_; refine ok_p rfl rfl rfl (by exact ps_extract rfl rfl rfl) ?_; refine ok_p rfl rfl rfl (by exact ps_extract rfl rfl rfl) ?_; refine ok_p rfl rfl rfl (by exact ps_assign rfl rfl) ?_; refine ok_p rfl rfl rfl (by exact ps_assign rfl rfl) ?_; refine ok_nil ?_; refine ok_env [(0, _), (2, _), (4, _), (5, _), (7, _), (8, _), (9, _), (10, _)] ⟨rfl, rfl, rfl, rfl, rfl, rfl, rfl, rfl, trivial⟩ ?_)
      | (refine ok_region (i := 10) ?_; refine ok_p rfl rfl rfl (by exact ps_move rfl rfl) ?_; refine ok_p rfl rfl rfl (by exact ps_int rfl rfl rfl rfl) ?_; refine ok_nil ?_; refine ok_env [(0, _), (2, _), (4, _), (5, _), (7, _), (8, _), (9, _), (10, _), (44, _)] ⟨rfl, rfl, rfl, rfl, rfl, rfl, rfl, rfl, rfl, trivial⟩ ?_)
      | (refine ok_region (i := 11) ?_; refine ok_p rfl rfl rfl (by exact ps_bld rfl parts_nil rfl) ?_; refine ok_m_ rfl rfl (by exact ms_store 3 rfl rfl rfl rfl rfl rfl rfl rfl) ?_; rintro y_ hy_; refine ok_p rfl rfl rfl (by exact ps_assign rfl rfl) ?_; refine ok_nil ?_; refine ok_env [(2, _), (3, _)] ⟨rfl, rfl, trivial⟩ ?_)
      | (refine ok_region (i := 12) ?_; refine ok_p rfl rfl rfl (by exact ps_field rfl rfl (by exact isw_ga _)) ?_; refine ok_p rfl rfl rfl (by exact ps_load rfl rfl (by exact Rds.cell (rds_box 1 rfl) rfl)) ?_; refine ok_p rfl rfl rfl (by exact ps_move rfl rfl) ?_; refine ok_p rfl rfl rfl (by exact ps_move rfl rfl) ?_; refine ok_p rfl rfl rfl (by exact ps_bld rfl (parts_cons rfl (parts_cons rfl parts_nil)) rfl) ?_; refine ok_m rfl rfl rfl (by exact ms_lit rfl (parts_cons rfl parts_nil) rfl rfl rfl) ?_; rintro y51 hy51; refine ok_m rfl rfl rfl (by exact ms_appF (α := KV) (L := L) (M := [(⟨tkT (tkW s k), tkT (tkW s (tkE (tkW s k)))⟩ : KV)]) 1 rfl rfl rfl rfl (rds_row 0 rfl) rfl (by simp; omega) (by simp; omega)) ?_; rintro y52 hy52; refine ok_p rfl rfl rfl (by exact ps_field rfl rfl (by exact isw_ga _)) ?_; refine ok_m_ rfl rfl (by exact ms_store 2 rfl rfl rfl rfl rfl rfl rfl rfl) ?_; rintro y_ hy_; refine ok_nil ?_; refine ok_env [(0, _), (2, _), (4, _), (5, _), (7, _), (9, _)] ⟨rfl, rfl, rfl, rfl, rfl, rfl, trivial⟩ ?_)
      | (refine ok_region (i := 13) ?_; refine ok_p rfl rfl rfl (by exact ps_move rfl rfl) ?_; refine ok_p rfl rfl rfl (by exact ps_assign rfl rfl) ?_; refine ok_nil ?_; refine ok_env [(0, _), (2, _), (4, _), (5, _), (6, _), (7, _)] ⟨rfl, rfl, rfl, rfl, rfl, rfl, trivial⟩ ?_))
    · have eU : pU s = none := by rw [← OK.out, show n - i = (n - i - 1) + 1 by omega]; exact tk2_no hk.1 hd
      rw [read_none (pU_none eU)]
      refine ok_endL (vs := [_, _]) rfl ⟨⟨_, 3, _, _, _, rfl, rfl, inferInstance, rfl, rfl⟩, rfl, trivial⟩ (fun w' hw => ?_)
      exact ⟨mkY none 0 w', rfl, trivial, hw.below, own_nilD _ _⟩
    · obtain ⟨e, e1, e2, e3, e4⟩ := tk2_yes (n := n - i - 1) (L := L) hk.1 hd
      rw [e1]
      refine fun a' w' he hw => ⟨⟨i + 1, e, L ++ [⟨tkT (tkW s k), tkT (tkW s (tkE (tkW s k)))⟩], (y52 0).A, (y52 0).c, by simp; omega, by simp; omega, ?_⟩, by simp only; omega, he.sub ⟨rfl, rfl, rfl, rfl, rfl, rfl, trivial⟩, ?_⟩
      · rw [← OK.out, show n - i = (n - i - 1) + 1 by omega, e4, show n - (i + 1) = n - i - 1 by omega]
      · simp only [List.length_append]; exact hw.tl
    have eU : pU s = some (L, k) := by rw [← OK.out, show n - i = 0 by omega]; rfl
    cases h3 : tkN s k with
    | none =>
      have eD : pD s k = none := by unfold pD; rw [h3]; rfl
      rw [read_none (pD_none eU eD)]
      repeat' (first
        | refine ok_seq ?_
        | refine ok_then ?_
        | refine ok_then_ret ?_
        | refine ok_block ?_
        | (refine ok_cond rfl (fun hc => ?_) (fun hc => ?_) <;> (have hd := hc; (try simp only [decide_eq_true_eq, decide_eq_false_iff_not, Bool.or_eq_true, Bool.or_eq_false_iff, Bool.and_eq_true, Bool.and_eq_false_iff, Bool.not_eq_true', Bool.not_eq_false', bne_iff_ne, beq_iff_eq, bne_eq_false_iff_eq, beq_eq_false_iff_ne, ne_eq, Bool.not_true, Bool.not_false, Bool.false_eq_true, Bool.true_eq_false, inB_true, inB_false] at hd)))
        | refine ok_ret ?_
        | refine ok_skip ?_
        | (refine ok_region (i := 14) ?_; refine ok_p rfl rfl rfl (by exact ps_move rfl rfl) ?_; refine ok_p rfl rfl rfl (by exact ps_move rfl rfl) ?_; refine ok_m rfl rfl rfl (by exact ms_c3 rfl rfl rfl rfl (fun _ _ w hw => s_l6Vars_no s k (by omega) (by omega) ((tkV_nat hk.1).trans h3) w)) ?_; rintro y58 hy58; refine ok_p rfl rfl rfl (by exact ps_move rfl rfl) ?_; refine ok_p rfl rfl rfl (by exact ps_extract rfl rfl rfl) ?_; refine ok_p rfl rfl rfl (by exact ps_extract rfl rfl rfl) ?_; refine ok_p rfl rfl rfl (by exact ps_assign rfl rfl) ?_; refine ok_p rfl rfl rfl (by exact ps_assign rfl rfl) ?_; refine ok_nil ?_; refine ok_env [(0, _), (2, _), (4, _), (6, _), (11, _)] ⟨rfl, rfl, rfl, rfl, rfl, trivial⟩ ?_)
        | (refine ok_region (i := 15) ?_; refine ok_p rfl rfl rfl (by exact ps_move rfl rfl) ?_; refine ok_p rfl rfl rfl (by exact ps_int rfl rfl rfl rfl) ?_; refine ok_nil ?_; refine ok_env [(0, _), (2, _), (4, _), (6, _), (11, _), (62, _)] ⟨rfl, rfl, rfl, rfl, rfl, rfl, trivial⟩ ?_)
        | (refine ok_region (i := 16) ?_; refine ok_p rfl rfl rfl (by exact ps_bld rfl parts_nil rfl) ?_; refine ok_m_ rfl rfl (by exact ms_store 4 rfl rfl rfl rfl rfl rfl rfl rfl) ?_; rintro y_ hy_; refine ok_p rfl rfl rfl (by exact ps_assign rfl rfl) ?_; refine ok_nil ?_; refine ok_env [(2, _), (3, _)] ⟨rfl, rfl, trivial⟩ ?_)
        | (refine ok_region (i := 17) ?_; refine ok_p rfl rfl rfl (by exact ps_assign rfl rfl) ?_; refine ok_nil ?_; refine ok_env [(0, _), (2, _), (4, _), (6, _), (11, _), (12, _)] ⟨rfl, rfl, rfl, rfl, rfl, rfl, trivial⟩ ?_))
      · refine ok_endL (vs := [_, _]) rfl ⟨⟨_, 4, _, _, _, rfl, rfl, inferInstance, rfl, rfl⟩, rfl, trivial⟩ (fun w' hw => ?_)
        exact ⟨mkY none 0 w', rfl, trivial, hw.below, own_nilD _ _⟩
      · exfalso; omega
    | some p =>
      obtain ⟨m, b⟩ := p
      have hm := tkN_some h3
      have e0 : pST s m b [] = pD s k := by unfold pD; rw [h3]; rfl
      obtain ⟨LM, hLM⟩ : ∃ L, L = [(m : Int)] := ⟨_, rfl⟩
      have hLM1 : LM.length = 1 := by rw [hLM]; rfl
      have hLM2 : nth LM (Int.toNat 0) = m := by rw [hLM]; rfl
      repeat' (first
        | refine ok_seq ?_
        | refine ok_then ?_
        | refine ok_then_ret ?_
        | refine ok_block ?_
        | (refine ok_cond rfl (fun hc => ?_) (fun hc => ?_) <;> (have hd := hc; (try simp only [decide_eq_true_eq, decide_eq_false_iff_not, Bool.or_eq_true, Bool.or_eq_false_iff, Bool.and_eq_true, Bool.and_eq_false_iff, Bool.not_eq_true', Bool.not_eq_false', bne_iff_ne, beq_iff_eq, bne_eq_false_iff_eq, beq_eq_false_iff_ne, ne_eq, Bool.not_true, Bool.not_false, Bool.false_eq_true, Bool.true_eq_false, inB_true, inB_false] at hd)))
        | refine ok_ret ?_
        | refine ok_skip ?_
        | (refine ok_region (i := 14) ?_; refine ok_p rfl rfl rfl (by exact ps_move rfl rfl) ?_; refine ok_p rfl rfl rfl (by exact ps_move rfl rfl) ?_; refine ok_m rfl rfl rfl (by exact ms_c3 rfl rfl rfl rfl (fun _ _ w hw => s_l6Vars_yes s k m b LM hLM (by omega) (by omega) ((tkV_nat hk.1).trans h3) w)) ?_; rintro y58 hy58; refine ok_p rfl rfl rfl (by exact ps_move rfl rfl) ?_; refine ok_p rfl rfl rfl (by exact ps_extract rfl rfl rfl) ?_; refine ok_p rfl rfl rfl (by exact ps_extract rfl rfl rfl) ?_; refine ok_p rfl rfl rfl (by exact ps_assign rfl rfl) ?_; refine ok_p rfl rfl rfl (by exact ps_assign rfl rfl) ?_; refine ok_nil ?_; refine ok_env [(0, _), (2, _), (4, _), (6, _), (11, _)] ⟨rfl, rfl, rfl, rfl, rfl, trivial⟩ ?_)
        | (refine ok_region (i := 15) ?_; refine ok_p rfl rfl rfl (by exact ps_move rfl rfl) ?_; refine ok_p rfl rfl rfl (by exact ps_int rfl rfl rfl rfl) ?_; refine ok_nil ?_; refine ok_env [(0, _), (2, _), (4, _), (6, _), (11, _), (62, _)] ⟨rfl, rfl, rfl, rfl, rfl, rfl, trivial⟩ ?_)
        | (refine ok_region (i := 16) ?_; refine ok_p rfl rfl rfl (by exact ps_bld rfl parts_nil rfl) ?_; refine ok_m_ rfl rfl (by exact ms_store 4 rfl rfl rfl rfl rfl rfl rfl rfl) ?_; rintro y_ hy_; refine ok_p rfl rfl rfl (by exact ps_assign rfl rfl) ?_; refine ok_nil ?_; refine ok_env [(2, _), (3, _)] ⟨rfl, rfl, trivial⟩ ?_)
        | (refine ok_region (i := 17) ?_; refine ok_p rfl rfl rfl (by exact ps_assign rfl rfl) ?_; refine ok_nil ?_; refine ok_env [(0, _), (2, _), (4, _), (6, _), (11, _), (12, _)] ⟨rfl, rfl, rfl, rfl, rfl, rfl, trivial⟩ ?_))
      · exfalso; omega
      refine ok_loop (ι := RdB s m (pD s k)) (fun q => s.size - q.k) (fun q => ([(0, .string s), (2, pt (ga (y2 0).c) 0), (4, pt (ga (y4 0).c) 0), (11, .slice (y58 0).A 1 (y58 0).c), (6, .int .i64 q.k), (12, .int .i64 q.i)], [.row 9 1 q.A q.L.length q.c (fl q.L), .row 67 2 A L.length c (fl L), .box (y4 0).c 89 [.slice A L.length c, .slice q.A q.L.length q.c], .row 3 1 (y58 0).A 1 (y58 0).c (fl LM), .box (y2 0).c 89 [.slice none 0 0, .slice none 0 0]], [w])) ⟨0, b, [], none, 0, by simp, by simp; omega, e0⟩ (fun a' w he hw => ⟨⟨0, b, [], none, 0, by simp, by simp; omega, e0⟩, he.sub ⟨rfl, rfl, rfl, rfl, rfl, rfl, trivial⟩, (hw.sel [1, 2, 0, 4] (by decide) rfl (fun _ h => h)).rowNil 9 1⟩) ?_
      rintro ⟨j, q, M, B, d, hj, hq, ok⟩
      simp only at hj hq ok ⊢
      have OK2 := Lib.hid ok; clear ok
      have t2 := tkE_le s q
      repeat' (first
        | refine ok_seq ?_
        | refine ok_then ?_
        | refine ok_then_ret ?_
        | refine ok_block ?_
        | refine ok_in_normal ?_
        | refine ok_in_ret ?_
        | (refine ok_cond rfl (fun hc => ?_) (fun hc => ?_) <;> (have hd := hc; (try simp only [decide_eq_true_eq, decide_eq_false_iff_not, Bool.or_eq_true, Bool.or_eq_false_iff, Bool.and_eq_true, Bool.and_eq_false_iff, Bool.not_eq_true', Bool.not_eq_false', bne_iff_ne, beq_iff_eq, bne_eq_false_iff_eq, beq_eq_false_iff_ne, ne_eq, Bool.not_true, Bool.not_false, Bool.false_eq_true, Bool.true_eq_false, inB_true, inB_false] at hd)))
        | refine ok_ret ?_
        | refine ok_exit ?_
        | refine ok_skip ?_
        | (refine ok_region (i := 18) ?_; refine ok_p rfl rfl rfl (by exact ps_move rfl rfl) ?_; refine ok_p rfl rfl rfl (by exact ps_move rfl rfl) ?_; refine ok_p rfl rfl rfl (by exact ps_index rfl rfl rfl (by omega) (by exact isw_row 3 rfl (by omega))) ?_; refine ok_p rfl rfl rfl (by exact ps_load rfl rfl (by exact Rds.cell (rds_row 3 rfl) (by exact fl_at0 _ _ (by omega) (by decide)))) ?_; refine ok_p rfl rfl rfl (by exact ps_int rfl rfl rfl rfl) ?_; refine ok_nil ?_; refine ok_env [(0, _), (2, _), (4, _), (6, _), (11, _), (12, _), (68, _)] ⟨rfl, rfl, rfl, rfl, rfl, rfl, rfl, trivial⟩ ?_)
        | (refine ok_region (i := 19) ?_; refine ok_p rfl rfl rfl (by exact ps_move rfl rfl) ?_; refine ok_p rfl rfl rfl (by exact ps_add rfl rfl rfl (by omega)) ?_; refine ok_p rfl rfl rfl (by exact ps_assign rfl rfl) ?_; refine ok_nil ?_; refine ok_env [(0, _), (2, _), (4, _), (6, _), (11, _), (12, _)] ⟨rfl, rfl, rfl, rfl, rfl, rfl, trivial⟩ ?_)
        | (refine ok_region (i := 20) ?_; refine ok_p rfl rfl rfl (by exact ps_move rfl rfl) ?_; refine ok_p rfl rfl rfl (by exact ps_move rfl rfl) ?_; refine ok_m rfl rfl rfl (by exact ms_s2 rfl rfl rfl (fun _ _ w hw => s_l6Take_c s q (by omega) (by omega) w)) ?_; rintro y74 hy74; refine ok_p rfl rfl rfl (by exact ps_move rfl rfl) ?_; refine ok_p rfl rfl rfl (by exact ps_extract rfl rfl rfl) ?_; refine ok_p rfl rfl rfl (by exact ps_extract rfl rfl rfl) ?_; refine ok_p rfl rfl rfl (by exact ps_assign rfl rfl) ?_; refine ok_p rfl rfl rfl (by exact ps_assign rfl rfl) ?_; refine ok_nil ?_; refine ok_env [(0, _), (2, _), (4, _), (11, _), (12, _), (13, _), (14, _)] ⟨rfl, rfl, rfl, rfl, rfl, rfl, rfl, trivial⟩ ?_)
        | (refine ok_region (i := 21) ?_; refine ok_p rfl rfl rfl (by exact ps_move rfl rfl) ?_; refine ok_p rfl rfl rfl (by exact ps_int rfl rfl rfl rfl) ?_; refine ok_nil ?_; refine ok_env [(0, _), (2, _), (4, _), (11, _), (12, _), (13, _), (14, _), (78, _)] ⟨rfl, rfl, rfl, rfl, rfl, rfl, rfl, rfl, trivial⟩ ?_)
        | (refine ok_region (i := 22) ?_; refine ok_p rfl rfl rfl (by exact ps_bld rfl parts_nil rfl) ?_; refine ok_m_ rfl rfl (by exact ms_store 4 rfl rfl rfl rfl rfl rfl rfl rfl) ?_; rintro y_ hy_; refine ok_p rfl rfl rfl (by exact ps_assign rfl rfl) ?_; refine ok_nil ?_; refine ok_env [(2, _), (3, _)] ⟨rfl, rfl, trivial⟩ ?_)
        | (refine ok_region (i := 23) ?_; refine ok_p rfl rfl rfl (by exact ps_field rfl rfl (by exact isw_ga _)) ?_; refine ok_p rfl rfl rfl (by exact ps_load rfl rfl (by exact Rds.cell (rds_box 2 rfl) rfl)) ?_; refine ok_p rfl rfl rfl (by exact ps_move rfl rfl) ?_; refine ok_m rfl rfl rfl (by exact ms_lit rfl (parts_cons rfl parts_nil) rfl rfl rfl) ?_; rintro y83 hy83; refine ok_m rfl rfl rfl (by exact ms_appF (α := ByteArray) (L := M) (M := [tkT (tkW s q)]) 1 rfl rfl rfl rfl (rds_row 0 rfl) rfl (by simp; omega) (by simp; omega)) ?_; rintro y84 hy84; refine ok_p rfl rfl rfl (by exact ps_field rfl rfl (by exact isw_ga _)) ?_; refine ok_m_ rfl rfl (by exact ms_store 3 rfl rfl rfl rfl rfl rfl rfl rfl) ?_; rintro y_ hy_; refine ok_nil ?_; refine ok_env [(0, _), (2, _), (4, _), (11, _), (12, _), (14, _)] ⟨rfl, rfl, rfl, rfl, rfl, rfl, trivial⟩ ?_)
        | (refine ok_region (i := 24) ?_; refine ok_p rfl rfl rfl (by exact ps_move rfl rfl) ?_; refine ok_p rfl rfl rfl (by exact ps_assign rfl rfl) ?_; refine ok_nil ?_; refine ok_env [(0, _), (2, _), (4, _), (6, _), (11, _), (12, _)] ⟨rfl, rfl, rfl, rfl, rfl, rfl, trivial⟩ ?_)
        | (refine ok_region (i := 25) ?_; refine ok_p rfl rfl rfl (by exact ps_loads rfl rfl (by exact rds_box 2 rfl) rfl rfl (by decide)) ?_; refine ok_m rfl rfl rfl (by exact ms_s1 rfl rfl (fun _ _ w hw => s_ShowDelta0 A B c d L M w (rds_row 1 rfl _ _ w hw) (rds_row 0 rfl _ _ w hw) (by omega) (by omega))) ?_; rintro y88 hy88; refine ok_p rfl rfl rfl (by exact ps_move rfl rfl) ?_; refine ok_p rfl rfl rfl (by exact ps_str rfl rfl rfl rfl) ?_; refine ok_nil ?_; refine ok_env [(2, _), (4, _), (90, _)] ⟨rfl, rfl, rfl, trivial⟩ ?_)
        | (refine ok_region (i := 26) ?_; refine ok_p rfl rfl rfl (by exact ps_bld rfl parts_nil rfl) ?_; refine ok_m_ rfl rfl (by exact ms_store 4 rfl rfl rfl rfl rfl rfl rfl rfl) ?_; rintro y_ hy_; refine ok_p rfl rfl rfl (by exact ps_assign rfl rfl) ?_; refine ok_nil ?_; refine ok_env [(2, _), (3, _)] ⟨rfl, rfl, trivial⟩ ?_)
        | (refine ok_region (i := 27) ?_; refine ok_p rfl rfl rfl (by exact ps_loads rfl rfl (by exact rds_box 2 rfl) rfl rfl (by decide)) ?_; refine ok_m_ rfl rfl (by exact ms_store 4 rfl rfl rfl rfl rfl rfl rfl rfl) ?_; rintro y_ hy_; refine ok_p rfl rfl rfl (by exact ps_assign rfl rfl) ?_; refine ok_nil ?_; refine ok_env [(2, _), (3, _)] ⟨rfl, rfl, trivial⟩ ?_))
      · have eD : pD s k = none := by rw [← OK2.out, show m - j = (m - j - 1) + 1 by omega]; exact tk1_no hq.1 hd
        rw [read_none (pD_none eU eD)]
        refine ok_endL (vs := [_, _]) rfl ⟨⟨_, 4, _, _, _, rfl, rfl, inferInstance, rfl, rfl⟩, rfl, trivial⟩ (fun w' hw => ?_)
        exact ⟨mkY none 0 w', rfl, trivial, hw.below, own_nilD _ _⟩
      · obtain ⟨e, e1, e2, e3, e4⟩ := tk1_yes (n := m - j - 1) (L := M) hq.1 hd
        rw [e1]
        refine fun a' w' he hw => ⟨⟨j + 1, e, M ++ [tkT (tkW s q)], (y84 0).A, (y84 0).c, by simp; omega, by simp; omega, ?_⟩, by simp only; omega, he.sub ⟨rfl, rfl, rfl, rfl, rfl, rfl, trivial⟩, ?_⟩
        · rw [← OK2.out, show m - j = (m - j - 1) + 1 by omega, e4, show m - (j + 1) = m - j - 1 by omega]
        · simp only [List.length_append]; exact hw.tl
      all_goals
        have eD : pD s k = some (M, q) := by rw [← OK2.out, show m - j = 0 by omega]; rfl
      · rw [read_no (pX_yes eU eD) (sEq_f hd)]
        refine ok_endL (vs := [_, _]) rfl ⟨⟨_, 4, _, _, _, rfl, rfl, inferInstance, rfl, rfl⟩, rfl, trivial⟩ (fun w' hw => ?_)
        exact ⟨mkY none 0 w', rfl, trivial, hw.below, own_nilD _ _⟩
      · rw [read_yes (pX_yes eU eD) (sEq_t hd)]
        refine ok_endL (vs := [_, _]) rfl ⟨⟨_, 4, _, _, _, rfl, rfl, inferInstance, rfl, rfl⟩, rfl, trivial⟩ (fun w' hw => ?_)
        exact ⟨yl [mkY A c w 0, mkY B d w 0] (mkY none 0 w 0), rfl, trivial, hw.below, NewOk.of (hw.sel [1, 0] (by decide) rfl (G' := []) (fun _ h => by cases h))⟩
/-- The reader, piece by piece. -/
theorem rdN_or (s : ByteArray) (k : Nat) : (tkN s k = none ∧ rdN s k false = (0, k, true)) ∨ ∃ n e, tkN s k = some (n, e) ∧ rdN s k false = (n, e, false) := by
  unfold rdN
  rw [if_neg (by simp)]
  cases h : tkN s k with
  | none => exact .inl ⟨rfl, rfl⟩
  | some p => obtain ⟨n, e⟩ := p; exact .inr ⟨n, e, rfl, rfl⟩
theorem rdN_true (s : ByteArray) (k : Nat) : rdN s k true = (0, k, true) := by unfold rdN; rw [if_pos rfl]
theorem rdS_or (s : ByteArray) (k : Nat) : (tkS s k = none ∧ (rdS s k false).2.2 = true) ∨ ∃ r e, tkS s k = some (r, e) ∧ rdS s k false = (r, e, false) := by
  have h := rdS_tk s k
  cases h1 : tkS s k with
  | none => exact .inl ⟨rfl, by rw [h.1, h1]; rfl⟩
  | some p => obtain ⟨r, e⟩ := p; exact .inr ⟨r, e, rfl, h.2 r e h1⟩
theorem rdN_ge (s : ByteArray) (k : Nat) (b : Bool) : k ≤ (rdN s k b).2.1 := by
  cases b
  · rcases rdN_or s k with ⟨_, h⟩ | ⟨n, e, h1, h⟩
    · rw [h]; exact Nat.le_refl _
    · rw [h]; have := tkN_some h1; simp only; omega
  · rw [rdN_true]; exact Nat.le_refl _
theorem rdS_ge (s : ByteArray) (k : Nat) (b : Bool) : k ≤ (rdS s k b).2.1 := by
  have h := rdN_ge s k b
  unfold rdS rdB
  split
  · exact h
  · simp only; omega
theorem rd2_no {s : ByteArray} {k n : Nat} {L : List KV} (h : (rdS s (rdS s k false).2.1 (rdS s k false).2.2).2.2 = true) : pKV s (n + 1) k L = none := by
  rw [pKV]
  rcases rdS_or s k with ⟨h1, _⟩ | ⟨r, e, h1, h2⟩
  · rw [h1]; rfl
  · rw [h2] at h
    simp only at h
    rw [h1]
    simp only [Option.bind_some]
    rcases rdS_or s e with ⟨h3, _⟩ | ⟨t, b, h3, h4⟩
    · rw [h3]; rfl
    · rw [h4] at h; cases h
theorem rd2_yes {s : ByteArray} {k n : Nat} {L : List KV} (h : (rdS s (rdS s k false).2.1 (rdS s k false).2.2).2.2 = false) : pKV s (n + 1) k L = pKV s n (rdS s (rdS s k false).2.1 (rdS s k false).2.2).2.1 (L ++ [⟨(rdS s k false).1, (rdS s (rdS s k false).2.1 (rdS s k false).2.2).1⟩]) ∧ k + 2 ≤ (rdS s (rdS s k false).2.1 (rdS s k false).2.2).2.1 := by
  rw [pKV]
  rcases rdS_or s k with ⟨_, h1⟩ | ⟨r, e, h1, h2⟩
  · rw [h1, rdS_bad] at h; cases h
  · have q1 := tkS_some h1
    rw [h2] at h ⊢
    simp only at h ⊢
    rw [h1]
    simp only [Option.bind_some]
    rcases rdS_or s e with ⟨_, h3⟩ | ⟨t, b, h3, h4⟩
    · rw [h3] at h; cases h
    · have q2 := tkS_some h3
      rw [h4, h3]
      exact ⟨rfl, by simp only; omega⟩
theorem rd1_no {s : ByteArray} {k n : Nat} {L : List ByteArray} (h : (rdS s k false).2.2 = true) : pST s (n + 1) k L = none := by
  rw [pST]
  rcases rdS_or s k with ⟨h1, _⟩ | ⟨r, e, h1, h2⟩
  · rw [h1]; rfl
  · rw [h2] at h; cases h
theorem rd1_yes {s : ByteArray} {k n : Nat} {L : List ByteArray} (h : (rdS s k false).2.2 = false) : pST s (n + 1) k L = pST s n (rdS s k false).2.1 (L ++ [(rdS s k false).1]) ∧ k + 1 ≤ (rdS s k false).2.1 := by
  rw [pST]
  rcases rdS_or s k with ⟨_, h1⟩ | ⟨r, e, h1, h2⟩
  · rw [h1] at h; cases h
  · have q1 := tkS_some h1
    rw [h2, h1]
    exact ⟨rfl, by simp only; omega⟩
theorem msr {n k k2 : Nat} {b : Bool} (h : b = false → k < k2) (h2 : k2 ≤ n) : (if b = true then 0 else n - k2 + 1) < (if false = true then 0 else n - k + 1) := by
  cases b
  · have := h rfl
    rw [if_neg (by simp), if_neg (by simp)]; omega
  · rw [if_pos rfl, if_neg (by simp)]; omega
structure RdC (s : ByteArray) where
  z : Nat
  k : Nat
  bad : Bool
  L : List KV
  A : Option Addr
  c : Nat
  hk : k ≤ s.size ∧ L.length ≤ k ∧ z < 562949953421312
  ok : bad = false → L.length + 1 ≤ k ∧ pKV s z k L = pU s
  no : bad = true → pU s = none
def joinX (U : List KV) (r : Option (List ByteArray × Nat)) : Option (DDelta × Nat) := r.map fun q => (⟨U, q.1⟩, q.2)
structure RdE (s : ByteArray) (U : List KV) where
  z : Nat
  k : Nat
  bad : Bool
  L : List ByteArray
  A : Option Addr
  c : Nat
  hk : k ≤ s.size ∧ L.length ≤ k ∧ z < 562949953421312
  ok : bad = false → L.length + 1 ≤ k ∧ joinX U (pST s z k L) = pX s
  no : bad = true → pX s = none
def RdC.start (s : ByteArray) (A : Option Addr) (c : Nat) : RdC s := ⟨(rdN s 0 false).1, (rdN s 0 false).2.1, (rdN s 0 false).2.2, [], A, c, ⟨(rdN_le s 0 false (Nat.zero_le _)).1, Nat.zero_le _, (rdN_le s 0 false (Nat.zero_le _)).2⟩, fun h => by
  rcases rdN_or s 0 with ⟨_, h2⟩ | ⟨n, e, h1, h2⟩
  · rw [h2] at h; cases h
  · rw [h2]
    have := tkN_some h1
    refine ⟨by simp only [List.length_nil]; omega, ?_⟩
    unfold pU; rw [h1]; exact rfl, fun h => by
  rcases rdN_or s 0 with ⟨h1, _⟩ | ⟨n, e, h1, h2⟩
  · unfold pU; rw [h1]; rfl
  · rw [h2] at h; cases h⟩
def RdE.start (s : ByteArray) (U : List KV) (k : Nat) (bad : Bool) (hk : k ≤ s.size) (ok : bad = false → pU s = some (U, k)) (no : bad = true → pU s = none) (A : Option Addr) (c : Nat) : RdE s U := ⟨(rdN s k bad).1, (rdN s k bad).2.1, (rdN s k bad).2.2, [], A, c, ⟨(rdN_le s k bad hk).1, Nat.zero_le _, (rdN_le s k bad hk).2⟩, fun h => by
  cases bad
  · rcases rdN_or s k with ⟨_, h2⟩ | ⟨n, e, h1, h2⟩
    · rw [h2] at h; cases h
    · rw [h2]
      have := tkN_some h1
      refine ⟨by simp only [List.length_nil]; omega, ?_⟩
      unfold pX
      rw [ok rfl]
      simp only [Option.bind_some]
      unfold pD; rw [h1]; rfl
  · rw [rdN_true] at h
    exact absurd h (by simp), fun h => by
  cases bad
  · rcases rdN_or s k with ⟨h1, _⟩ | ⟨n, e, h1, h2⟩
    · exact pD_none (ok rfl) (by unfold pD; rw [h1]; rfl)
    · rw [h2] at h; cases h
  · exact pU_none (no rfl)⟩
theorem i_ReadDelta (s : ByteArray) (w : World) (hs : s.size ≤ 1048576) :
    Calls Try.prog 54 #[.string s] w fun e w' => ∃ y : Ys, e = .returned (.tuple #[Delta_val (fReadDelta s).1 y, .bool (fReadDelta s).2]) ∧ True ∧ Below w.heap.size w w' ∧ NewOk w.heap.size (Delta_obj (fReadDelta s).1 y) [] w' := by
  refine ok_enter 59 Try.func54 rfl rfl rfl ?_
  repeat' (first
    | refine ok_seq ?_
    | refine ok_then ?_
    | refine ok_block ?_
    | (refine ok_region (i := 0) ?_; refine ok_m rfl rfl rfl (by exact ms_alloc rfl) ?_; rintro y2 hy2; refine ok_p rfl rfl rfl (by exact ps_assign rfl rfl) ?_; refine ok_nil ?_; refine ok_env [(0, _), (2, _)] ⟨rfl, rfl, trivial⟩ ?_)
    | (refine ok_region (i := 1) ?_; refine ok_p rfl rfl rfl (by exact ps_move rfl rfl) ?_; refine ok_p rfl rfl rfl (by exact ps_bld rfl (parts_cons rfl parts_nil) rfl) ?_; refine ok_m rfl rfl rfl (by exact ms_alloc rfl) ?_; rintro y4 hy4; refine ok_m_ rfl rfl (by exact ms_store 0 rfl rfl rfl rfl rfl rfl rfl rfl) ?_; rintro y_ hy_; refine ok_nil ?_; refine ok_env [(0, _), (2, _), (4, _)] ⟨rfl, rfl, rfl, trivial⟩ ?_)
    | (refine ok_region (i := 2) ?_; refine ok_m rfl rfl rfl (by exact ms_alloc rfl) ?_; rintro y5 hy5; refine ok_nil ?_; refine ok_env [(0, _), (2, _), (4, _), (5, _)] ⟨rfl, rfl, rfl, rfl, trivial⟩ ?_)
    | (refine ok_region (i := 3) ?_; refine ok_m rfl rfl rfl (by exact ms_wr 1 rfl rfl rfl rfl (fun _ _ w hw => rdN_c _ s 0 false (by omega) (by omega) hw)) ?_; rintro y12 hy12; refine ok_p rfl rfl rfl (by exact ps_assign rfl rfl) ?_; refine ok_nil ?_; refine ok_env [(0, _), (2, _), (4, _), (5, _), (6, _)] ⟨rfl, rfl, rfl, rfl, rfl, trivial⟩ ?_))
  refine ok_loop (ι := RdC s) (fun q => if q.bad = true then 0 else s.size - q.k + 1) (fun q => ([(0, .string s), (2, pt (ga (y2 0).c) 0), (4, pt (ga (y4 0).c) 0), (5, pt (ga (y5 0).c) 0), (6, .int .i64 q.z)], [.row 67 2 q.A q.L.length q.c (fl q.L), .box (y5 0).c 89 [.slice q.A q.L.length q.c, .slice none 0 0], rdr (y4 0).c s q.k q.bad, _], _)) (RdC.start s none 0) (fun a' w he hw => ⟨RdC.start s none 0, he.sub ⟨rfl, rfl, rfl, rfl, rfl, trivial⟩, hw.rowNil 67 2⟩) ?_
  rintro ⟨z, k, bad, L, A, c, hk, ok, no⟩
  simp only at hk ok no ⊢
  have OK := Lib.hid ok; clear ok
  have NO := Lib.hid no; clear no
  have k1 := rdS_le s k bad hk.1
  have k2 := rdS_le s (rdS s k bad).2.1 (rdS s k bad).2.2 k1
  repeat' (first
    | refine ok_seq ?_
    | refine ok_then ?_
    | refine ok_block ?_
    | refine ok_in_normal ?_
    | (refine ok_cond rfl (fun hc => ?_) (fun hc => ?_) <;> (have hd := hc; (try simp only [decide_eq_true_eq, decide_eq_false_iff_not, Bool.or_eq_true, Bool.or_eq_false_iff, Bool.and_eq_true, Bool.and_eq_false_iff, Bool.not_eq_true', Bool.not_eq_false', bne_iff_ne, beq_iff_eq, bne_eq_false_iff_eq, beq_eq_false_iff_ne, ne_eq, Bool.not_true, Bool.not_false, Bool.false_eq_true, Bool.true_eq_false, inB_true, inB_false] at hd)))
    | refine ok_exit ?_
    | refine ok_skip ?_
    | (refine ok_region (i := 4) ?_; refine ok_p rfl rfl rfl (by exact ps_move rfl rfl) ?_; refine ok_p rfl rfl rfl (by exact ps_int rfl rfl rfl rfl) ?_; refine ok_p rfl rfl rfl (by exact ps_move rfl rfl) ?_; refine ok_pg rfl rfl rfl rfl rfl (gT _) (fun hp => by (have hpd := hp; (try simp only [decide_eq_true_eq, decide_eq_false_iff_not, Bool.or_eq_true, Bool.or_eq_false_iff, Bool.and_eq_true, Bool.and_eq_false_iff, Bool.not_eq_true', Bool.not_eq_false', bne_iff_ne, beq_iff_eq, bne_eq_false_iff_eq, beq_eq_false_iff_ne, ne_eq, Bool.not_true, Bool.not_false, Bool.false_eq_true, Bool.true_eq_false, inB_true, inB_false] at hpd); exact ps_field rfl (by exact rfl) (by exact isw_ga _))) ?_; refine ok_pg rfl rfl rfl rfl rfl (gT _) (fun hp => by (have hpd := hp; (try simp only [decide_eq_true_eq, decide_eq_false_iff_not, Bool.or_eq_true, Bool.or_eq_false_iff, Bool.and_eq_true, Bool.and_eq_false_iff, Bool.not_eq_true', Bool.not_eq_false', bne_iff_ne, beq_iff_eq, bne_eq_false_iff_eq, beq_eq_false_iff_ne, ne_eq, Bool.not_true, Bool.not_false, Bool.false_eq_true, Bool.true_eq_false, inB_true, inB_false] at hpd); exact ps_load rfl (by (refine og rfl ?_; assumption)) (by exact Rds.cell (rds_box 2 rfl) rfl))) ?_; refine ok_pg rfl rfl rfl rfl rfl (gT _) (fun hp => by (have hpd := hp; (try simp only [decide_eq_true_eq, decide_eq_false_iff_not, Bool.or_eq_true, Bool.or_eq_false_iff, Bool.and_eq_true, Bool.and_eq_false_iff, Bool.not_eq_true', Bool.not_eq_false', bne_iff_ne, beq_iff_eq, bne_eq_false_iff_eq, beq_eq_false_iff_ne, ne_eq, Bool.not_true, Bool.not_false, Bool.false_eq_true, Bool.true_eq_false, inB_true, inB_false] at hpd); exact ps_not rfl (by (refine og rfl ?_; assumption)))) ?_; refine ok_p rfl rfl rfl (by exact ps_and rfl rfl rfl) ?_; refine ok_nil ?_; refine ok_env [(0, _), (2, _), (4, _), (5, _), (6, _), (19, _)] ⟨rfl, rfl, rfl, rfl, rfl, rfl, trivial⟩ ?_)
    | (refine ok_region (i := 5) ?_; refine ok_p rfl rfl rfl (by exact ps_move rfl rfl) ?_; refine ok_p rfl rfl rfl (by exact ps_cast (v' := .int .i64 ((z - 1 : Nat) : Int)) (ps_sub rfl rfl rfl (by omega)) (by rw [show (z : Int) - 1 = ((z - 1 : Nat) : Int) by omega])) ?_; refine ok_p rfl rfl rfl (by exact ps_assign rfl rfl) ?_; refine ok_nil ?_; refine ok_env [(0, _), (2, _), (4, _), (5, _), (6, _)] ⟨rfl, rfl, rfl, rfl, rfl, trivial⟩ ?_)
    | (refine ok_region (i := 6) ?_; refine ok_m rfl rfl rfl (by exact ms_wr 2 rfl rfl rfl rfl (fun _ _ w hw => rdS_c _ s k bad (by omega) (by omega) hw)) ?_; rintro y22 hy22; refine ok_p rfl rfl rfl (by exact ps_bld rfl (parts_cons rfl parts_nil) rfl) ?_; refine ok_m rfl rfl rfl (by exact ms_alloc rfl) ?_; rintro y7 hy7; refine ok_m_ rfl rfl (by exact ms_store 0 rfl rfl rfl rfl rfl rfl rfl rfl) ?_; rintro y_ hy_; refine ok_nil ?_; refine ok_env [(0, _), (2, _), (4, _), (5, _), (6, _), (7, _)] ⟨rfl, rfl, rfl, rfl, rfl, rfl, trivial⟩ ?_)
    | (refine ok_region (i := 7) ?_; refine ok_m rfl rfl rfl (by exact ms_wr 3 rfl rfl rfl rfl (fun _ _ w hw => rdS_c _ s _ _ (by omega) (by omega) hw)) ?_; rintro y24 hy24; refine ok_p rfl rfl rfl (by exact ps_field rfl rfl (by exact isw_ga _)) ?_; refine ok_m_ rfl rfl (by exact ms_store 0 rfl rfl rfl rfl rfl rfl rfl rfl) ?_; rintro y_ hy_; refine ok_nil ?_; refine ok_env [(0, _), (2, _), (4, _), (5, _), (6, _), (7, _)] ⟨rfl, rfl, rfl, rfl, rfl, rfl, trivial⟩ ?_)
    | (refine ok_region (i := 8) ?_; refine ok_p rfl rfl rfl (by exact ps_field rfl rfl (by exact isw_ga _)) ?_; refine ok_p rfl rfl rfl (by exact ps_load rfl rfl (by exact Rds.cell (rds_box 2 rfl) rfl)) ?_; refine ok_p rfl rfl rfl (by exact ps_loads rfl rfl (by exact rds_box 0 rfl) rfl rfl (by decide)) ?_; refine ok_m rfl rfl rfl (by exact ms_lit rfl (parts_cons rfl parts_nil) rfl rfl rfl) ?_; rintro y29 hy29; refine ok_m rfl rfl rfl (by exact ms_appF (α := KV) (L := L) (M := [(⟨(rdS s k bad).1, (rdS s (rdS s k bad).2.1 (rdS s k bad).2.2).1⟩ : KV)]) 2 rfl rfl rfl rfl (rds_row 0 rfl) rfl (by simp; omega) (by simp; omega)) ?_; rintro y30 hy30; refine ok_p rfl rfl rfl (by exact ps_field rfl rfl (by exact isw_ga _)) ?_; refine ok_m_ rfl rfl (by exact ms_store 3 rfl rfl rfl rfl rfl rfl rfl rfl) ?_; rintro y_ hy_; refine ok_nil ?_; refine ok_env [(0, _), (2, _), (4, _), (5, _), (6, _)] ⟨rfl, rfl, rfl, rfl, rfl, trivial⟩ ?_)
    | (refine ok_region (i := 9) ?_; refine ok_m rfl rfl rfl (by exact ms_wr 2 rfl rfl rfl rfl (fun _ _ w hw => rdN_c _ s k bad (by omega) (by omega) hw)) ?_; rintro y32 hy32; refine ok_p rfl rfl rfl (by exact ps_assign rfl rfl) ?_; refine ok_nil ?_; refine ok_env [(0, _), (2, _), (4, _), (5, _), (8, _)] ⟨rfl, rfl, rfl, rfl, rfl, trivial⟩ ?_))
  · have hb := hd.2
    subst hb
    obtain ⟨o1, o2⟩ := OK.out rfl
    have g1 := rdS_ge s k false
    have g2 := rdS_ge s (rdS s k false).2.1 (rdS s k false).2.2
    have hz : z = (z - 1) + 1 := by omega
    refine fun a' w' he hw => ⟨⟨z - 1, (rdS s (rdS s k false).2.1 (rdS s k false).2.2).2.1, (rdS s (rdS s k false).2.1 (rdS s k false).2.2).2.2, L ++ [⟨(rdS s k false).1, (rdS s (rdS s k false).2.1 (rdS s k false).2.2).1⟩], (y30 0).A, (y30 0).c, ⟨k2, by rw [List.length_append, List.length_singleton]; omega, by omega⟩, fun h => ?_, fun h => ?_⟩, ?_, he.sub ⟨rfl, rfl, rfl, rfl, rfl, trivial⟩, ?_⟩
    · have h2 := rd2_yes (n := z - 1) (L := L) h
      have h3 := h2.2
      refine ⟨by rw [List.length_append, List.length_singleton]; omega, ?_⟩
      rw [← h2.1, ← hz]; exact o2
    · rw [← o2, hz]; exact rd2_no h
    · show (if _ = true then 0 else s.size - _ + 1) < _
      dsimp only
      exact msr (fun h => by have h2 := rd2_yes (n := z - 1) (L := L) h; omega) k2
    · have := hw.sel [2, 3, 4, 5] (by decide) rfl (fun _ h => h)
      simp only [List.length_append]
      exact this
  have oU : bad = false → pU s = some (L, k) := fun h => by
    have hz : z = 0 := by
      rcases hd with hd | hd
      · omega
      · rw [h] at hd; cases hd
    have := (OK.out h).2
    rw [hz] at this
    exact this.symm
  refine ok_loop (ι := RdE s L) (fun q => if q.bad = true then 0 else s.size - q.k + 1) (fun q => ([(0, .string s), (2, pt (ga (y2 0).c) 0), (4, pt (ga (y4 0).c) 0), (5, pt (ga (y5 0).c) 0), (8, .int .i64 q.z)], [.row 9 1 q.A q.L.length q.c (fl q.L), .row 67 2 A L.length c (fl L), .box (y5 0).c 89 [.slice A L.length c, .slice q.A q.L.length q.c], rdr (y4 0).c s q.k q.bad, _], _)) (RdE.start s L k bad hk.1 oU NO.out none 0) (fun a' w he hw => ⟨RdE.start s L k bad hk.1 oU NO.out none 0, he.sub ⟨rfl, rfl, rfl, rfl, rfl, trivial⟩, hw.rowNil 9 1⟩) ?_
  rintro ⟨z2, q, bad2, M, B, d, hq, ok2, no2⟩
  simp only at hq ok2 no2 ⊢
  have OK2 := Lib.hid ok2; clear ok2
  have NO2 := Lib.hid no2; clear no2
  have q1 := rdS_le s q bad2 hq.1
  repeat' (first
    | refine ok_seq ?_
    | refine ok_then ?_
    | refine ok_then_ret ?_
    | refine ok_block ?_
    | refine ok_in_normal ?_
    | (refine ok_cond rfl (fun hc => ?_) (fun hc => ?_) <;> (have hd := hc; (try simp only [decide_eq_true_eq, decide_eq_false_iff_not, Bool.or_eq_true, Bool.or_eq_false_iff, Bool.and_eq_true, Bool.and_eq_false_iff, Bool.not_eq_true', Bool.not_eq_false', bne_iff_ne, beq_iff_eq, bne_eq_false_iff_eq, beq_eq_false_iff_ne, ne_eq, Bool.not_true, Bool.not_false, Bool.false_eq_true, Bool.true_eq_false, inB_true, inB_false] at hd)))
    | refine ok_ret ?_
    | refine ok_exit ?_
    | refine ok_skip ?_
    | (refine ok_region (i := 10) ?_; refine ok_p rfl rfl rfl (by exact ps_move rfl rfl) ?_; refine ok_p rfl rfl rfl (by exact ps_int rfl rfl rfl rfl) ?_; refine ok_p rfl rfl rfl (by exact ps_move rfl rfl) ?_; refine ok_pg rfl rfl rfl rfl rfl (gT _) (fun hp => by (have hpd := hp; (try simp only [decide_eq_true_eq, decide_eq_false_iff_not, Bool.or_eq_true, Bool.or_eq_false_iff, Bool.and_eq_true, Bool.and_eq_false_iff, Bool.not_eq_true', Bool.not_eq_false', bne_iff_ne, beq_iff_eq, bne_eq_false_iff_eq, beq_eq_false_iff_ne, ne_eq, Bool.not_true, Bool.not_false, Bool.false_eq_true, Bool.true_eq_false, inB_true, inB_false] at hpd); exact ps_field rfl (by exact rfl) (by exact isw_ga _))) ?_; refine ok_pg rfl rfl rfl rfl rfl (gT _) (fun hp => by (have hpd := hp; (try simp only [decide_eq_true_eq, decide_eq_false_iff_not, Bool.or_eq_true, Bool.or_eq_false_iff, Bool.and_eq_true, Bool.and_eq_false_iff, Bool.not_eq_true', Bool.not_eq_false', bne_iff_ne, beq_iff_eq, bne_eq_false_iff_eq, beq_eq_false_iff_ne, ne_eq, Bool.not_true, Bool.not_false, Bool.false_eq_true, Bool.true_eq_false, inB_true, inB_false] at hpd); exact ps_load rfl (by (refine og rfl ?_; assumption)) (by exact Rds.cell (rds_box 3 rfl) rfl))) ?_; refine ok_pg rfl rfl rfl rfl rfl (gT _) (fun hp => by (have hpd := hp; (try simp only [decide_eq_true_eq, decide_eq_false_iff_not, Bool.or_eq_true, Bool.or_eq_false_iff, Bool.and_eq_true, Bool.and_eq_false_iff, Bool.not_eq_true', Bool.not_eq_false', bne_iff_ne, beq_iff_eq, bne_eq_false_iff_eq, beq_eq_false_iff_ne, ne_eq, Bool.not_true, Bool.not_false, Bool.false_eq_true, Bool.true_eq_false, inB_true, inB_false] at hpd); exact ps_not rfl (by (refine og rfl ?_; assumption)))) ?_; refine ok_p rfl rfl rfl (by exact ps_and rfl rfl rfl) ?_; refine ok_nil ?_; refine ok_env [(0, _), (2, _), (4, _), (5, _), (8, _), (39, _)] ⟨rfl, rfl, rfl, rfl, rfl, rfl, trivial⟩ ?_)
    | (refine ok_region (i := 11) ?_; refine ok_p rfl rfl rfl (by exact ps_move rfl rfl) ?_; refine ok_p rfl rfl rfl (by exact ps_cast (v' := .int .i64 ((z2 - 1 : Nat) : Int)) (ps_sub rfl rfl rfl (by omega)) (by rw [show (z2 : Int) - 1 = ((z2 - 1 : Nat) : Int) by omega])) ?_; refine ok_p rfl rfl rfl (by exact ps_assign rfl rfl) ?_; refine ok_nil ?_; refine ok_env [(0, _), (2, _), (4, _), (5, _), (8, _)] ⟨rfl, rfl, rfl, rfl, rfl, trivial⟩ ?_)
    | (refine ok_region (i := 12) ?_; refine ok_m rfl rfl rfl (by exact ms_wr 3 rfl rfl rfl rfl (fun _ _ w hw => rdS_c _ s q bad2 (by omega) (by omega) hw)) ?_; rintro y42 hy42; refine ok_p rfl rfl rfl (by exact ps_assign rfl rfl) ?_; refine ok_nil ?_; refine ok_env [(0, _), (2, _), (4, _), (5, _), (8, _), (9, _)] ⟨rfl, rfl, rfl, rfl, rfl, rfl, trivial⟩ ?_)
    | (refine ok_region (i := 13) ?_; refine ok_p rfl rfl rfl (by exact ps_field rfl rfl (by exact isw_ga _)) ?_; refine ok_p rfl rfl rfl (by exact ps_load rfl rfl (by exact Rds.cell (rds_box 2 rfl) rfl)) ?_; refine ok_p rfl rfl rfl (by exact ps_move rfl rfl) ?_; refine ok_m rfl rfl rfl (by exact ms_lit rfl (parts_cons rfl parts_nil) rfl rfl rfl) ?_; rintro y46 hy46; refine ok_m rfl rfl rfl (by exact ms_appF (α := ByteArray) (L := M) (M := [(rdS s q bad2).1]) 1 rfl rfl rfl rfl (rds_row 0 rfl) rfl (by simp; omega) (by simp; omega)) ?_; rintro y47 hy47; refine ok_p rfl rfl rfl (by exact ps_field rfl rfl (by exact isw_ga _)) ?_; refine ok_m_ rfl rfl (by exact ms_store 3 rfl rfl rfl rfl rfl rfl rfl rfl) ?_; rintro y_ hy_; refine ok_nil ?_; refine ok_env [(0, _), (2, _), (4, _), (5, _), (8, _)] ⟨rfl, rfl, rfl, rfl, rfl, trivial⟩ ?_)
    | (refine ok_region (i := 14) ?_; refine ok_m rfl rfl rfl (by exact ms_wr 3 rfl rfl rfl rfl (fun _ _ w hw => rdD_c _ s q bad2 hw)) ?_; rintro y49 hy49; refine ok_p rfl rfl rfl (by exact ps_not rfl rfl) ?_; refine ok_p rfl rfl rfl (by exact ps_move rfl rfl) ?_; refine ok_pg rfl rfl rfl rfl rfl (gF _) (fun hp => by (have hpd := hp; (try simp only [decide_eq_true_eq, decide_eq_false_iff_not, Bool.or_eq_true, Bool.or_eq_false_iff, Bool.and_eq_true, Bool.and_eq_false_iff, Bool.not_eq_true', Bool.not_eq_false', bne_iff_ne, beq_iff_eq, bne_eq_false_iff_eq, beq_eq_false_iff_ne, ne_eq, Bool.not_true, Bool.not_false, Bool.false_eq_true, Bool.true_eq_false, inB_true, inB_false] at hpd); exact ps_loads rfl (by exact rfl) (by exact rds_box 2 rfl) rfl rfl (by decide))) ?_; refine ok_mg rfl rfl rfl rfl rfl (gF _) (fun hp => by (have hpd := hp; (try simp only [decide_eq_true_eq, decide_eq_false_iff_not, Bool.or_eq_true, Bool.or_eq_false_iff, Bool.and_eq_true, Bool.and_eq_false_iff, Bool.not_eq_true', Bool.not_eq_false', bne_iff_ne, beq_iff_eq, bne_eq_false_iff_eq, beq_eq_false_iff_ne, ne_eq, Bool.not_true, Bool.not_false, Bool.false_eq_true, Bool.true_eq_false, inB_true, inB_false] at hpd); exact ms_s1 rfl (by (refine og rfl ?_; assumption)) (fun _ _ w hw => i_ShowDelta0 A B c d L M w (rds_row 1 rfl _ _ w hw) (rds_row 0 rfl _ _ w hw) (by omega) (by omega)))) ?_; refine ok_pg rfl rfl rfl rfl rfl (gF _) (fun hp => by (have hpd := hp; (try simp only [decide_eq_true_eq, decide_eq_false_iff_not, Bool.or_eq_true, Bool.or_eq_false_iff, Bool.and_eq_true, Bool.and_eq_false_iff, Bool.not_eq_true', Bool.not_eq_false', bne_iff_ne, beq_iff_eq, bne_eq_false_iff_eq, beq_eq_false_iff_ne, ne_eq, Bool.not_true, Bool.not_false, Bool.false_eq_true, Bool.true_eq_false, inB_true, inB_false] at hpd); exact ps_move rfl (by exact rfl))) ?_; refine ok_pg rfl rfl rfl rfl rfl (gF _) (fun hp => by (have hpd := hp; (try simp only [decide_eq_true_eq, decide_eq_false_iff_not, Bool.or_eq_true, Bool.or_eq_false_iff, Bool.and_eq_true, Bool.and_eq_false_iff, Bool.not_eq_true', Bool.not_eq_false', bne_iff_ne, beq_iff_eq, bne_eq_false_iff_eq, beq_eq_false_iff_ne, ne_eq, Bool.not_true, Bool.not_false, Bool.false_eq_true, Bool.true_eq_false, inB_true, inB_false] at hpd); exact ps_str rfl (by (refine og rfl ?_; assumption)) (by (refine og rfl ?_; assumption)) rfl)) ?_; refine ok_p rfl rfl rfl (by exact ps_or rfl rfl rfl) ?_; refine ok_nil ?_; refine ok_env [(2, _), (5, _), (56, _)] ⟨rfl, rfl, rfl, trivial⟩ ?_)
    | (refine ok_region (i := 15) ?_; refine ok_p rfl rfl rfl (by exact ps_bld rfl parts_nil rfl) ?_; refine ok_m_ rfl rfl (by exact ms_store 4 rfl rfl rfl rfl rfl rfl rfl rfl) ?_; rintro y_ hy_; refine ok_p rfl rfl rfl (by exact ps_assign rfl rfl) ?_; refine ok_nil ?_; refine ok_env [(2, _), (3, _)] ⟨rfl, rfl, trivial⟩ ?_)
    | (refine ok_region (i := 16) ?_; refine ok_p rfl rfl rfl (by exact ps_loads rfl rfl (by exact rds_box 2 rfl) rfl rfl (by decide)) ?_; refine ok_m_ rfl rfl (by exact ms_store 4 rfl rfl rfl rfl rfl rfl rfl rfl) ?_; rintro y_ hy_; refine ok_p rfl rfl rfl (by exact ps_assign rfl rfl) ?_; refine ok_nil ?_; refine ok_env [(2, _), (3, _)] ⟨rfl, rfl, trivial⟩ ?_))
  · have hb := hd.2
    subst hb
    obtain ⟨o1, o2⟩ := OK2.out rfl
    have g1 := rdS_ge s q false
    have hz : z2 = (z2 - 1) + 1 := by omega
    refine fun a' w' he hw => ⟨⟨z2 - 1, (rdS s q false).2.1, (rdS s q false).2.2, M ++ [(rdS s q false).1], (y47 0).A, (y47 0).c, ⟨q1, by rw [List.length_append, List.length_singleton]; omega, by omega⟩, fun h => ?_, fun h => ?_⟩, ?_, he.sub ⟨rfl, rfl, rfl, rfl, rfl, trivial⟩, ?_⟩
    · have h2 := rd1_yes (n := z2 - 1) (L := M) h
      have h3 := h2.2
      refine ⟨by rw [List.length_append, List.length_singleton]; omega, ?_⟩
      rw [← h2.1, ← hz]; exact o2
    · rw [← o2, hz, rd1_no h]; rfl
    · show (if _ = true then 0 else s.size - _ + 1) < _
      dsimp only
      exact msr (fun h => by have h2 := rd1_yes (n := z2 - 1) (L := M) h; omega) q1
    · simp only [List.length_append]
      exact hw.tl
  all_goals
    have oX : bad2 = false → pX s = some (⟨L, M⟩, q) := fun h => by
      have hz : z2 = 0 := by
        rcases ‹¬ 0 < (z2 : Int) ∨ bad2 = true› with h3 | h3
        · omega
        · rw [h] at h3; cases h3
      have := (OK2.out h).2
      rw [hz] at this
      exact this.symm
  · have e : fReadDelta s = (⟨[], []⟩, false) := by
      cases hb : bad2
      · rcases hd with hd | hd
        · refine read_no (oX hb) (fun e => ?_)
          have := pX_end (oX hb) e
          rw [rdD_true.2 ⟨hb, this⟩] at hd; cases hd
        · exact read_no (oX hb) (sEq_f hd)
      · exact read_none (NO2.out hb)
    rw [e]
    refine ok_endL (vs := [_, _]) rfl ⟨⟨_, 4, _, _, _, rfl, rfl, inferInstance, rfl, rfl⟩, rfl, trivial⟩ (fun w' hw => ?_)
    exact ⟨mkY none 0 w', rfl, trivial, hw.below, own_nilD _ _⟩
  · rw [read_yes (oX (rdD_true.1 hd.1).1) (sEq_t hd.2)]
    refine ok_endL (vs := [_, _]) rfl ⟨⟨_, 4, _, _, _, rfl, rfl, inferInstance, rfl, rfl⟩, rfl, trivial⟩ (fun w' hw => ?_)
    exact ⟨yl [mkY A c w 0, mkY B d w 0] (mkY none 0 w 0), rfl, trivial, hw.below, NewOk.of (hw.sel [1, 0] (by decide) rfl (G' := []) (fun _ h => by cases h))⟩
theorem ReadDelta_lim (s : ByteArray) (hs : s.size ≤ 1048576) : Delta_lim (fReadDelta s).1 := by
  unfold fReadDelta
  split
  · exact ⟨by simp, by simp⟩
  · rename_i p hp
    obtain ⟨x, e⟩ := p
    have := pX_some hp
    split
    · exact ⟨by show x.U.length ≤ _; omega, by show x.D.length ≤ _; omega⟩
    · exact ⟨by simp, by simp⟩
end Go.Proofs.Ytbegbdfbfbkflaa
/- Bytes that follow from others. -/
namespace Go.Proofs.Ytbegbdfbfbkflaa
open Go.RowKit
set_option maxHeartbeats 4000000
set_option maxRecDepth 20000
set_option linter.unusedVariables false
set_option linter.unusedSimpArgs false
attribute [local irreducible] Calls
instance : Enc UInt8 := ⟨fun b => .int .u8 (b.toNat : Int), fun v => UInt8.ofNat (asI v).toNat, fun b => by
  show UInt8.ofNat ((b.toNat : Int)).toNat = b
  rw [Int.toNat_natCast]; simp⟩
theorem ps_convF {P : Program} {E : Env} {H : List HObj} {G : List World} {o : Oper} {x : Operand} {s t : TypeId} {k' : IntKind} {z : Int} [hk : IK P t .u8] [hk' : IK P s k'] (ho : o.op = .convert s t x) (hx : opd E x = some (.int k' z)) (h : 0 ≤ z) : PStep P E H G o (.int .u8 ((UInt8.ofNat z.toNat).toNat : Int)) := by
  obtain ⟨n, rfl⟩ := Int.eq_ofNat_of_zero_le h
  rw [Int.toNat_natCast]; exact ps_convB ho hx
/-- Bytes that follow from others. -/
structure FrsB (n : Nat) where
  k : Nat
  L : List UInt8
  B : Option Addr
  d : Nat
  hk : k ≤ n ∧ L.length = k + 1 ∧ k ≤ 600
theorem freshF_c (A : Option Addr) (c : Nat) (bs : List UInt8) (salt : Int) (hs : 0 ≤ salt ∧ salt ≤ 100) (w : World) (h : Rd w A (fl bs)) (hl : bs.length ≤ 1048576) :
    Calls Try.prog 26 #[.slice A bs.length c, .int .i64 salt] w fun e w' => ∃ y : Ys, e = .returned (.slice (y 0).A (yE (y 1) : List UInt8).length (y 0).c) ∧ ((yE (y 1) : List UInt8).length = 1 + min bs.length 600 ∧ (yE (y 1) : List UInt8).length ≤ (y 0).c) ∧ Below w.heap.size w w' ∧ NewOk w.heap.size [.row 5 1 (y 0).A (yE (y 1) : List UInt8).length (y 0).c (fl (yE (y 1) : List UInt8))] [] w' := by
  refine ok_enter 37 Try.func26 rfl rfl rfl ?_
  repeat' (first
    | refine ok_seq ?_
    | refine ok_then ?_
    | refine ok_then_ret ?_
    | refine ok_then_exit ?_
    | refine ok_block ?_
    | refine ok_in_normal ?_
    | refine ok_in_ret ?_
    | refine ok_in_exit ?_
    | refine ok_in_other rfl ?_
    | (refine ok_cond rfl (fun hc => ?_) (fun hc => ?_) <;> (have hd := hc; (try simp only [decide_eq_true_eq, decide_eq_false_iff_not, Bool.or_eq_true, Bool.or_eq_false_iff, Bool.and_eq_true, Bool.and_eq_false_iff, Bool.not_eq_true', Bool.not_eq_false', bne_iff_ne, beq_iff_eq, bne_eq_false_iff_eq, beq_eq_false_iff_ne, ne_eq, Bool.not_true, Bool.not_false, Bool.false_eq_true, Bool.true_eq_false, inB_true, inB_false] at hd)))
    | refine ok_ret ?_
    | refine ok_exit ?_
    | refine ok_skip ?_
    | (refine ok_region (i := 0) ?_; refine ok_p rfl rfl rfl (by exact ps_assign rfl rfl) ?_; refine ok_nil ?_; refine ok_env [(0, _), (1, _)] ⟨rfl, rfl, trivial⟩ ?_)
    | (refine ok_region (i := 1) ?_; refine ok_p rfl rfl rfl (by exact ps_move rfl rfl) ?_; refine ok_p rfl rfl rfl (by first | exact ps_convF rfl rfl (by omega) | exact ps_conv rfl rfl) ?_; refine ok_m rfl rfl rfl (by exact ms_lit rfl (parts_cons rfl parts_nil) rfl rfl rfl) ?_; rintro y9 hy9; refine ok_p rfl rfl rfl (by exact ps_assign rfl rfl) ?_; refine ok_nil ?_; refine ok_env [(0, _), (1, _), (5, _)] ⟨rfl, rfl, rfl, trivial⟩ ?_)
    | (refine ok_region (i := 2) ?_; refine ok_p rfl rfl rfl (by exact ps_assign rfl rfl) ?_; refine ok_nil ?_; refine ok_env [(0, _), (1, _), (5, _), (6, _)] ⟨rfl, rfl, rfl, rfl, trivial⟩ ?_)
    | (refine ok_region (i := 3) ?_; refine ok_p rfl rfl rfl (by exact ps_move rfl rfl) ?_; refine ok_p rfl rfl rfl (by exact ps_move rfl rfl) ?_; refine ok_p rfl rfl rfl (by exact ps_len rfl rfl) ?_; refine ok_p rfl rfl rfl (by exact ps_int rfl rfl rfl rfl) ?_; refine ok_p rfl rfl rfl (by exact ps_move rfl rfl) ?_; refine ok_pg rfl rfl rfl rfl rfl (gT _) (fun hp => by (have hpd := hp; (try simp only [decide_eq_true_eq, decide_eq_false_iff_not, Bool.or_eq_true, Bool.or_eq_false_iff, Bool.and_eq_true, Bool.and_eq_false_iff, Bool.not_eq_true', Bool.not_eq_false', bne_iff_ne, beq_iff_eq, bne_eq_false_iff_eq, beq_eq_false_iff_ne, ne_eq, Bool.not_true, Bool.not_false, Bool.false_eq_true, Bool.true_eq_false, inB_true, inB_false] at hpd); exact ps_move rfl (by first | (refine og rfl ?_; assumption) | exact rfl))) ?_; refine ok_pg rfl rfl rfl rfl rfl (gT _) (fun hp => by (have hpd := hp; (try simp only [decide_eq_true_eq, decide_eq_false_iff_not, Bool.or_eq_true, Bool.or_eq_false_iff, Bool.and_eq_true, Bool.and_eq_false_iff, Bool.not_eq_true', Bool.not_eq_false', bne_iff_ne, beq_iff_eq, bne_eq_false_iff_eq, beq_eq_false_iff_ne, ne_eq, Bool.not_true, Bool.not_false, Bool.false_eq_true, Bool.true_eq_false, inB_true, inB_false] at hpd); exact ps_int rfl (by first | (refine og rfl ?_; assumption) | exact rfl) (by first | (refine og rfl ?_; assumption) | exact rfl) rfl)) ?_; refine ok_p rfl rfl rfl (by first | exact ps_and rfl rfl rfl | exact ps_and_in (by assumption) rfl rfl rfl | exact ps_pick_t rfl rfl (by simp_all; done) rfl | exact ps_pick_f rfl rfl (by simp_all; done) rfl) ?_; refine ok_nil ?_; refine ok_env [(0, _), (1, _), (5, _), (6, _), (17, _)] ⟨rfl, rfl, rfl, rfl, rfl, trivial⟩ ?_)
    | (refine ok_region (i := 4) ?_; refine ok_p rfl rfl rfl (by exact ps_move rfl rfl) ?_; refine ok_p rfl rfl rfl (by exact ps_add rfl rfl rfl (by omega)) ?_; refine ok_p rfl rfl rfl (by exact ps_assign rfl rfl) ?_; refine ok_nil ?_; refine ok_env [(0, _), (1, _), (5, _), (6, _)] ⟨rfl, rfl, rfl, rfl, trivial⟩ ?_)
    | (refine ok_region (i := 5) ?_; refine ok_p rfl rfl rfl (by exact ps_move rfl rfl) ?_; refine ok_p rfl rfl rfl (by exact ps_move rfl rfl) ?_; refine ok_p rfl rfl rfl (by exact ps_move rfl rfl) ?_; refine ok_p rfl rfl rfl (by first | exact ps_indexN rfl rfl rfl (by omega) (by first | exact isw_ga _ | exact isw_some _ | exact isw_row 0 rfl (by omega) | exact isw_row 1 rfl (by omega) | exact isw_row 2 rfl (by omega) | exact isw_row 3 rfl (by omega) | exact isw_row 4 rfl (by omega) | exact isw_row 5 rfl (by omega) | exact isw_row 6 rfl (by omega) | exact isw_row 7 rfl (by omega) | exact isw_row 8 rfl (by omega) | exact isw_of (isS_fl (by assumption) (by omega)) | exact isw_of (by assumption)) | exact ps_index rfl rfl rfl (by omega) (by first | exact isw_ga _ | exact isw_some _ | exact isw_row 0 rfl (by omega) | exact isw_row 1 rfl (by omega) | exact isw_row 2 rfl (by omega) | exact isw_row 3 rfl (by omega) | exact isw_row 4 rfl (by omega) | exact isw_row 5 rfl (by omega) | exact isw_row 6 rfl (by omega) | exact isw_row 7 rfl (by omega) | exact isw_row 8 rfl (by omega) | exact isw_of (isS_fl (by assumption) (by omega)) | exact isw_of (by assumption))) ?_; refine ok_p rfl rfl rfl (by exact ps_load rfl rfl (by first | exact Rds.cell (rds_box 0 rfl) rfl | exact Rds.cell (rds_box 1 rfl) rfl | exact Rds.cell (rds_box 2 rfl) rfl | exact Rds.cell (rds_box 3 rfl) rfl | exact Rds.cell (rds_box 4 rfl) rfl | exact Rds.cell (rds_box 5 rfl) rfl | exact Rds.cell (rds_box 6 rfl) rfl | exact Rds.cell (rds_box 7 rfl) rfl | exact Rds.cell (rds_box 8 rfl) rfl | exact Rds.cell (rds_box 9 rfl) rfl | exact Rds.cell (rds_box 10 rfl) rfl | exact Rds.cell (rds_box 11 rfl) rfl | exact Rds.cell (rds_box 12 rfl) rfl | exact Rds.cell (rds_box 13 rfl) rfl | exact Rds.cell (rds_box 14 rfl) rfl | exact Rds.cell (rds_box 15 rfl) rfl | exact Rds.cell (rds_box 16 rfl) rfl | exact Rds.cell (rds_box 17 rfl) rfl | exact Rds.cell (rds_box 18 rfl) rfl | exact Rds.cell (rds_box 19 rfl) rfl | exact Rds.cell (rds_box 20 rfl) rfl | exact Rds.cell (rds_box 21 rfl) rfl | exact Rds.cell (rds_box 22 rfl) rfl | exact Rds.cell (rds_box 23 rfl) rfl | exact Rds.cell (rds_rf (by assumption) (by first | exact List.mem_cons_self | exact List.mem_cons_of_mem _ List.mem_cons_self | simp)) (by first | exact fl_at0 _ _ (by omega) (by decide) | exact fl_at _ _ _ (by omega) (by decide)) | exact Rds.cell (rds_row 0 rfl) (by first | exact fl_at0 _ _ (by omega) (by decide) | exact fl_at _ _ _ (by omega) (by decide)) | exact Rds.cell (rds_row 1 rfl) (by first | exact fl_at0 _ _ (by omega) (by decide) | exact fl_at _ _ _ (by omega) (by decide)) | exact Rds.cell (rds_row 2 rfl) (by first | exact fl_at0 _ _ (by omega) (by decide) | exact fl_at _ _ _ (by omega) (by decide)) | exact Rds.cell (rds_row 3 rfl) (by first | exact fl_at0 _ _ (by omega) (by decide) | exact fl_at _ _ _ (by omega) (by decide)) | exact Rds.cell (rds_row 4 rfl) (by first | exact fl_at0 _ _ (by omega) (by decide) | exact fl_at _ _ _ (by omega) (by decide)) | exact Rds.cell (rds_row 5 rfl) (by first | exact fl_at0 _ _ (by omega) (by decide) | exact fl_at _ _ _ (by omega) (by decide)) | exact Rds.cell (rds_row 6 rfl) (by first | exact fl_at0 _ _ (by omega) (by decide) | exact fl_at _ _ _ (by omega) (by decide)) | exact Rds.cell (rds_row 7 rfl) (by first | exact fl_at0 _ _ (by omega) (by decide) | exact fl_at _ _ _ (by omega) (by decide)) | exact Rds.cell (rds_row 8 rfl) (by first | exact fl_at0 _ _ (by omega) (by decide) | exact fl_at _ _ _ (by omega) (by decide)) | exact Rds.cell (rds_row 9 rfl) (by first | exact fl_at0 _ _ (by omega) (by decide) | exact fl_at _ _ _ (by omega) (by decide)))) ?_; refine ok_p rfl rfl rfl (by exact ps_conv_id rfl rfl (IntWalk.i64_in _ (by omega))) ?_; refine ok_p rfl rfl rfl (by exact ps_mul rfl rfl rfl (by omega)) ?_; refine ok_p rfl rfl rfl (by exact ps_move rfl rfl) ?_; refine ok_p rfl rfl rfl (by exact ps_move rfl rfl) ?_; refine ok_p rfl rfl rfl (by exact ps_rem rfl rfl rfl (by omega) (by omega)) ?_; refine ok_p rfl rfl rfl (by exact ps_add rfl rfl rfl (by omega)) ?_; refine ok_p rfl rfl rfl (by exact ps_mul rfl rfl rfl (by omega)) ?_; refine ok_p rfl rfl rfl (by exact ps_add rfl rfl rfl (by omega)) ?_; refine ok_p rfl rfl rfl (by exact ps_conv rfl rfl) ?_; refine ok_m rfl rfl rfl (by exact ms_lit rfl (parts_cons rfl parts_nil) rfl rfl rfl) ?_; rintro y34 hy34; refine ok_m rfl rfl rfl (by fail "no maker call") ?_; rintro y35 hy35; refine ok_p rfl rfl rfl (by exact ps_assign rfl rfl) ?_; refine ok_nil ?_; refine ok_env [(0, _), (1, _), (5, _), (6, _)] ⟨rfl, rfl, rfl, rfl, trivial⟩ ?_)
    | (refine ok_region (i := 6) ?_; refine ok_p rfl rfl rfl (by exact ps_move rfl rfl) ?_; refine ok_p rfl rfl rfl (by exact ps_assign rfl rfl) ?_; refine ok_nil ?_; refine ok_env [(4, _)] ⟨rfl, trivial⟩ ?_))
  refine ok_loop (ι := FrsB bs.length) (fun q => bs.length - q.k) (fun q => ([(0, .slice A bs.length c), (1, .int .i64 salt), (5, .slice q.B q.L.length q.d), (6, .int .i64 q.k)], [.row 5 1 q.B q.L.length q.d (fl q.L)], _)) ⟨0, [UInt8.ofNat salt.toNat], ga (y9 0).c, 1, by simp⟩ (fun a w he hw => ⟨⟨0, [UInt8.ofNat salt.toNat], ga (y9 0).c, 1, by simp⟩, he.sub ⟨rfl, rfl, rfl, rfl, trivial⟩, hw⟩) ?_
  rintro ⟨k, L, B, d, hk⟩
  simp only at hk ⊢
  have hbt := UInt8.toNat_lt (nth bs k)
  have h7 : 0 ≤ (k : Int) % 7 ∧ (k : Int) % 7 < 7 := by omega
  have hm0 : 0 ≤ salt * ((k : Int) % 7 + 1) := Int.mul_nonneg hs.1 (by omega)
  have hm1 : salt * ((k : Int) % 7 + 1) ≤ 100 * 7 := Int.mul_le_mul hs.2 (by omega) (by omega) (by omega)
  repeat' (first
    | refine ok_seq ?_
    | refine ok_then ?_
    | refine ok_then_ret ?_
    | refine ok_then_exit ?_
    | refine ok_block ?_
    | refine ok_in_normal ?_
    | refine ok_in_ret ?_
    | refine ok_in_exit ?_
    | refine ok_in_other rfl ?_
    | (refine ok_cond rfl (fun hc => ?_) (fun hc => ?_) <;> (have hd := hc; (try simp only [decide_eq_true_eq, decide_eq_false_iff_not, Bool.or_eq_true, Bool.or_eq_false_iff, Bool.and_eq_true, Bool.and_eq_false_iff, Bool.not_eq_true', Bool.not_eq_false', bne_iff_ne, beq_iff_eq, bne_eq_false_iff_eq, beq_eq_false_iff_ne, ne_eq, Bool.not_true, Bool.not_false, Bool.false_eq_true, Bool.true_eq_false, inB_true, inB_false] at hd)))
    | refine ok_ret ?_
    | refine ok_exit ?_
    | refine ok_skip ?_
    | (refine ok_region (i := 0) ?_; refine ok_p rfl rfl rfl (by exact ps_assign rfl rfl) ?_; refine ok_nil ?_; refine ok_env [(0, _), (1, _)] ⟨rfl, rfl, trivial⟩ ?_)
    | (refine ok_region (i := 1) ?_; refine ok_p rfl rfl rfl (by exact ps_move rfl rfl) ?_; refine ok_p rfl rfl rfl (by exact ps_conv rfl rfl) ?_; refine ok_m rfl rfl rfl (by exact ms_lit rfl (parts_cons rfl parts_nil) rfl rfl rfl) ?_; rintro y9 hy9; refine ok_p rfl rfl rfl (by exact ps_assign rfl rfl) ?_; refine ok_nil ?_; refine ok_env [(0, _), (1, _), (5, _)] ⟨rfl, rfl, rfl, trivial⟩ ?_)
    | (refine ok_region (i := 2) ?_; refine ok_p rfl rfl rfl (by exact ps_assign rfl rfl) ?_; refine ok_nil ?_; refine ok_env [(0, _), (1, _), (5, _), (6, _)] ⟨rfl, rfl, rfl, rfl, trivial⟩ ?_)
    | (refine ok_region (i := 3) ?_; refine ok_p rfl rfl rfl (by exact ps_move rfl rfl) ?_; refine ok_p rfl rfl rfl (by exact ps_move rfl rfl) ?_; refine ok_p rfl rfl rfl (by exact ps_len rfl rfl) ?_; refine ok_p rfl rfl rfl (by exact ps_int rfl rfl rfl rfl) ?_; refine ok_p rfl rfl rfl (by exact ps_move rfl rfl) ?_; refine ok_pg rfl rfl rfl rfl rfl (gT _) (fun hp => by (have hpd := hp; (try simp only [decide_eq_true_eq, decide_eq_false_iff_not, Bool.or_eq_true, Bool.or_eq_false_iff, Bool.and_eq_true, Bool.and_eq_false_iff, Bool.not_eq_true', Bool.not_eq_false', bne_iff_ne, beq_iff_eq, bne_eq_false_iff_eq, beq_eq_false_iff_ne, ne_eq, Bool.not_true, Bool.not_false, Bool.false_eq_true, Bool.true_eq_false, inB_true, inB_false] at hpd); exact ps_move rfl (by first | (refine og rfl ?_; assumption) | exact rfl))) ?_; refine ok_pg rfl rfl rfl rfl rfl (gT _) (fun hp => by (have hpd := hp; (try simp only [decide_eq_true_eq, decide_eq_false_iff_not, Bool.or_eq_true, Bool.or_eq_false_iff, Bool.and_eq_true, Bool.and_eq_false_iff, Bool.not_eq_true', Bool.not_eq_false', bne_iff_ne, beq_iff_eq, bne_eq_false_iff_eq, beq_eq_false_iff_ne, ne_eq, Bool.not_true, Bool.not_false, Bool.false_eq_true, Bool.true_eq_false, inB_true, inB_false] at hpd); exact ps_int rfl (by first | (refine og rfl ?_; assumption) | exact rfl) (by first | (refine og rfl ?_; assumption) | exact rfl) rfl)) ?_; refine ok_p rfl rfl rfl (by first | exact ps_and rfl rfl rfl | exact ps_and_in (by assumption) rfl rfl rfl | exact ps_pick_t rfl rfl (by simp_all; done) rfl | exact ps_pick_f rfl rfl (by simp_all; done) rfl) ?_; refine ok_nil ?_; refine ok_env [(0, _), (1, _), (5, _), (6, _), (17, _)] ⟨rfl, rfl, rfl, rfl, rfl, trivial⟩ ?_)
    | (refine ok_region (i := 4) ?_; refine ok_p rfl rfl rfl (by exact ps_move rfl rfl) ?_; refine ok_p rfl rfl rfl (by exact ps_add rfl rfl rfl (by omega)) ?_; refine ok_p rfl rfl rfl (by exact ps_assign rfl rfl) ?_; refine ok_nil ?_; refine ok_env [(0, _), (1, _), (5, _), (6, _)] ⟨rfl, rfl, rfl, rfl, trivial⟩ ?_)
    | (refine ok_region (i := 5) ?_; refine ok_p rfl rfl rfl (by exact ps_move rfl rfl) ?_; refine ok_p rfl rfl rfl (by exact ps_move rfl rfl) ?_; refine ok_p rfl rfl rfl (by exact ps_move rfl rfl) ?_; refine ok_p rfl rfl rfl (by first | exact ps_indexN rfl rfl rfl (by omega) (by first | exact isw_ga _ | exact isw_some _ | exact isw_row 0 rfl (by omega) | exact isw_row 1 rfl (by omega) | exact isw_row 2 rfl (by omega) | exact isw_row 3 rfl (by omega) | exact isw_row 4 rfl (by omega) | exact isw_row 5 rfl (by omega) | exact isw_row 6 rfl (by omega) | exact isw_row 7 rfl (by omega) | exact isw_row 8 rfl (by omega) | exact isw_of (isS_fl (by assumption) (by omega)) | exact isw_of (by assumption)) | exact ps_index rfl rfl rfl (by omega) (by first | exact isw_ga _ | exact isw_some _ | exact isw_row 0 rfl (by omega) | exact isw_row 1 rfl (by omega) | exact isw_row 2 rfl (by omega) | exact isw_row 3 rfl (by omega) | exact isw_row 4 rfl (by omega) | exact isw_row 5 rfl (by omega) | exact isw_row 6 rfl (by omega) | exact isw_row 7 rfl (by omega) | exact isw_row 8 rfl (by omega) | exact isw_of (isS_fl (by assumption) (by omega)) | exact isw_of (by assumption))) ?_; refine ok_p rfl rfl rfl (by first | exact ps_load rfl rfl (Rds.cell (rds_rf h (by first | exact List.mem_cons_self | exact List.mem_cons_of_mem _ List.mem_cons_self | simp)) (fl_at0 bs k (by omega) (by decide))) | exact ps_load rfl rfl (by first | exact Rds.cell (rds_box 0 rfl) rfl | exact Rds.cell (rds_box 1 rfl) rfl | exact Rds.cell (rds_box 2 rfl) rfl | exact Rds.cell (rds_box 3 rfl) rfl | exact Rds.cell (rds_box 4 rfl) rfl | exact Rds.cell (rds_box 5 rfl) rfl | exact Rds.cell (rds_box 6 rfl) rfl | exact Rds.cell (rds_box 7 rfl) rfl | exact Rds.cell (rds_box 8 rfl) rfl | exact Rds.cell (rds_box 9 rfl) rfl | exact Rds.cell (rds_box 10 rfl) rfl | exact Rds.cell (rds_box 11 rfl) rfl | exact Rds.cell (rds_box 12 rfl) rfl | exact Rds.cell (rds_box 13 rfl) rfl | exact Rds.cell (rds_box 14 rfl) rfl | exact Rds.cell (rds_box 15 rfl) rfl | exact Rds.cell (rds_box 16 rfl) rfl | exact Rds.cell (rds_box 17 rfl) rfl | exact Rds.cell (rds_box 18 rfl) rfl | exact Rds.cell (rds_box 19 rfl) rfl | exact Rds.cell (rds_box 20 rfl) rfl | exact Rds.cell (rds_box 21 rfl) rfl | exact Rds.cell (rds_box 22 rfl) rfl | exact Rds.cell (rds_box 23 rfl) rfl | exact Rds.cell (rds_rf (by assumption) (by first | exact List.mem_cons_self | exact List.mem_cons_of_mem _ List.mem_cons_self | simp)) (by first | exact fl_at0 _ _ (by omega) (by decide) | exact fl_at _ _ _ (by omega) (by decide)) | exact Rds.cell (rds_row 0 rfl) (by first | exact fl_at0 _ _ (by omega) (by decide) | exact fl_at _ _ _ (by omega) (by decide)) | exact Rds.cell (rds_row 1 rfl) (by first | exact fl_at0 _ _ (by omega) (by decide) | exact fl_at _ _ _ (by omega) (by decide)) | exact Rds.cell (rds_row 2 rfl) (by first | exact fl_at0 _ _ (by omega) (by decide) | exact fl_at _ _ _ (by omega) (by decide)) | exact Rds.cell (rds_row 3 rfl) (by first | exact fl_at0 _ _ (by omega) (by decide) | exact fl_at _ _ _ (by omega) (by decide)) | exact Rds.cell (rds_row 4 rfl) (by first | exact fl_at0 _ _ (by omega) (by decide) | exact fl_at _ _ _ (by omega) (by decide)) | exact Rds.cell (rds_row 5 rfl) (by first | exact fl_at0 _ _ (by omega) (by decide) | exact fl_at _ _ _ (by omega) (by decide)) | exact Rds.cell (rds_row 6 rfl) (by first | exact fl_at0 _ _ (by omega) (by decide) | exact fl_at _ _ _ (by omega) (by decide)) | exact Rds.cell (rds_row 7 rfl) (by first | exact fl_at0 _ _ (by omega) (by decide) | exact fl_at _ _ _ (by omega) (by decide)) | exact Rds.cell (rds_row 8 rfl) (by first | exact fl_at0 _ _ (by omega) (by decide) | exact fl_at _ _ _ (by omega) (by decide)) | exact Rds.cell (rds_row 9 rfl) (by first | exact fl_at0 _ _ (by omega) (by decide) | exact fl_at _ _ _ (by omega) (by decide)))) ?_; refine ok_p rfl rfl rfl (by first | exact ps_conv_id rfl rfl (IntWalk.i64_in _ (by omega)) | exact ps_conv_id rfl rfl (IntWalk.i64_in _ (by omega))) ?_; refine ok_p rfl rfl rfl (by exact ps_mul rfl rfl rfl (by omega)) ?_; refine ok_p rfl rfl rfl (by exact ps_move rfl rfl) ?_; refine ok_p rfl rfl rfl (by exact ps_move rfl rfl) ?_; refine ok_p rfl rfl rfl (by exact ps_rem rfl rfl rfl (by omega) (by omega)) ?_; refine ok_p rfl rfl rfl (by exact ps_add rfl rfl rfl (by omega)) ?_; refine ok_p rfl rfl rfl (by exact ps_mul rfl rfl rfl (by omega)) ?_; refine ok_p rfl rfl rfl (by exact ps_add rfl rfl rfl (by omega)) ?_; refine ok_p rfl rfl rfl (by first | exact ps_convF rfl rfl (by omega) | exact ps_conv rfl rfl) ?_; refine ok_m rfl rfl rfl (by exact ms_lit rfl (parts_cons rfl parts_nil) rfl rfl rfl) ?_; rintro y34 hy34; refine ok_m rfl rfl rfl (by exact ms_appF (α := UInt8) (L := L) (M := [UInt8.ofNat (((nth bs k).toNat : Int) * 3 + salt * ((k : Int) % 7 + 1)).toNat]) 1 rfl rfl rfl rfl (rds_row 0 rfl) rfl (by simp; omega) (by simp; omega)) ?_; rintro y35 hy35; refine ok_p rfl rfl rfl (by exact ps_assign rfl rfl) ?_; refine ok_nil ?_; refine ok_env [(0, _), (1, _), (5, _), (6, _)] ⟨rfl, rfl, rfl, rfl, trivial⟩ ?_)
    | (refine ok_region (i := 6) ?_; refine ok_p rfl rfl rfl (by exact ps_move rfl rfl) ?_; refine ok_p rfl rfl rfl (by exact ps_assign rfl rfl) ?_; refine ok_nil ?_; refine ok_env [(4, _)] ⟨rfl, trivial⟩ ?_))
  · exact fun a w' he hw => ⟨⟨k + 1, L ++ [UInt8.ofNat (((nth bs k).toNat : Int) * 3 + salt * ((k : Int) % 7 + 1)).toNat], (y35 0).A, (y35 0).c, by rw [List.length_append, List.length_singleton]; omega⟩, by simp only; omega, he.sub ⟨rfl, rfl, by simp only [List.length_append]; rfl, rfl, trivial⟩, by
      have := hw.tl
      simp only [List.length_append]
      exact this⟩
  · exact ok_endL (vs := [_]) rfl ⟨rfl, trivial⟩ (fun w' hw => by
      have e2 : (yE (⟨none, 0, eW L w, 0⟩ : Ya) : List UInt8) = L := yE_mk none 0 L w 0
      refine ⟨yl [⟨B, d, w, 0⟩, ⟨none, 0, eW L w, 0⟩] ⟨B, d, w, 0⟩, ?_, ?_, hw.below, ?_⟩
      · show _ = Ending.returned (.slice B (yE (⟨none, 0, eW L w, 0⟩ : Ya) : List UInt8).length d)
        rw [e2]; rfl
      · show (yE (⟨none, 0, eW L w, 0⟩ : Ya) : List UInt8).length = 1 + min bs.length 600 ∧ (yE (⟨none, 0, eW L w, 0⟩ : Ya) : List UInt8).length ≤ d
        rw [e2]; exact ⟨by omega, hw.cap 0 rfl⟩
      · show NewOk _ [.row 5 1 B (yE (⟨none, 0, eW L w, 0⟩ : Ya) : List UInt8).length d (fl (yE (⟨none, 0, eW L w, 0⟩ : Ya) : List UInt8))] [] w'
        rw [e2]; exact NewOk.of (hw.sel [0] (by decide) rfl (G' := []) (fun _ h => by cases h)))
end Go.Proofs.Ytbegbdfbfbkflaa
/- The engine: a statement whose order is open, told operation by operation: what each leaves stays true as memory grows, so no order has to be told from another. -/
namespace Go.Proofs.Ytbegbdfbfbkflaa
open Go.RowKit
set_option linter.unusedVariables false
/-- How many of the first n are to come. -/
def cntF (listed : Array Bool) : Nat → Nat
  | 0 => 0
  | n + 1 => cntF listed n + if listed.getD n true = true then 0 else 1
theorem getD_set_same (listed : Array Bool) (i : Nat) : (listed.setIfInBounds i true).getD i true = true := by
  rw [Array.getD_eq_getD_getElem?]
  by_cases h : i < listed.size
  · simp [h]
  · simp [h]
theorem cntF_out {listed : Array Bool} {i : Nat} : ∀ n, n ≤ i → cntF (listed.setIfInBounds i true) n = cntF listed n
  | 0, _ => rfl
  | n + 1, h => by
    rw [cntF, cntF, cntF_out n (by omega), getD_set_ne true (show i ≠ n by omega)]
theorem cntF_set {listed : Array Bool} {i : Nat} (hu : listed.getD i true = false) : ∀ n, i < n → cntF listed n = cntF (listed.setIfInBounds i true) n + 1
  | 0, h => by omega
  | n + 1, h => by
    rw [cntF, cntF]
    by_cases e : i = n
    · subst e
      rw [cntF_out i (Nat.le_refl _), getD_set_same, hu, if_pos rfl, if_neg Bool.false_ne_true]
    · rw [cntF_set hu n (by omega), getD_set_ne true e]; omega
theorem cntF_zero {listed : Array Bool} : ∀ n, cntF listed n = 0 → ∀ k, k < n → listed.getD k true = true
  | 0, _, k, hk => by omega
  | n + 1, h, k, hk => by
    rw [cntF] at h
    by_cases e : listed.getD n true = true
    · by_cases hkn : k = n
      · rw [hkn]; exact e
      · exact cntF_zero n (by omega) k (by omega)
    · rw [if_neg e] at h; omega
theorem cntF_some {listed : Array Bool} : ∀ n, cntF listed n ≠ 0 → ∃ k, k < n ∧ listed.getD k true = false ∧ ∀ j, j < k → listed.getD j true = true
  | 0, h => absurd rfl h
  | n + 1, h => by
    by_cases h0 : cntF listed n = 0
    · rw [cntF, h0] at h
      refine ⟨n, by omega, ?_, cntF_zero n h0⟩
      cases hg : listed.getD n true with
      | false => rfl
      | true => rw [hg, if_pos rfl] at h; exact absurd rfl h
    · obtain ⟨k, hk, h1, h2⟩ := cntF_some n h0
      exact ⟨k, by omega, h1, h2⟩
theorem cntF_all {m : Nat} : ∀ n, n ≤ m → cntF (Array.replicate m false) n = n
  | 0, _ => rfl
  | n + 1, h => by
    rw [cntF, cntF_all n (by omega), getD_in (by simp; omega) (getD_replicate_false _ _), if_neg Bool.false_ne_true]
/-- Edges go back. -/
def backB (ops : Array Oper) (n : Nat) : Bool := (List.range n).all fun i => match ops[i]? with
  | some o => o.after.all fun e => !Region.binds .any e || Nat.blt e.on i
  | none => false
def dstAt (ops : Array Oper) (k : Nat) : Option Nat := (ops[k]?).bind (·.dst)
/-- Each operation of the head has a temporary of its own, none of the environment's. -/
def dstB (ops : Array Oper) (n N : Nat) : Bool := (List.range n).all fun i => match dstAt ops i with
  | some d => Nat.blt d N && (List.range n).all fun j => Nat.beq j i || !((dstAt ops j) == some d)
  | none => false
def apartB (ops : Array Oper) (n : Nat) : Env → Bool
  | [] => true
  | p :: E => (List.range n).all (fun j => !((dstAt ops j) == some p.1)) && apartB ops n E
theorem apart_look {ops : Array Oper} {n : Nat} : ∀ {E : Env}, apartB ops n E = true → ∀ {k d : Nat}, k < n → dstAt ops k = some d → look E d = none
  | [], _, _, _, _, _ => rfl
  | (s, v) :: E, h, k, d, hk, hd => by
    rw [apartB, Bool.and_eq_true] at h
    have h1 := List.all_eq_true.1 h.1 k (List.mem_range.2 hk)
    have hne : s ≠ d := fun e => by subst e; rw [hd] at h1; simp at h1
    rw [look]
    cases hb : Nat.beq s d with
    | true => exact absurd (Nat.eq_of_beq_eq_true hb) hne
    | false => exact apart_look h.2 hk hd
theorem EnvOk.add {N : Nat} {E : Env} {a : Act} (h : EnvOk N E a) {d : Nat} {v : Value} (hv : a.tmps[d]? = some v) : EnvOk N ((d, v) :: E) a := ⟨h.defers, h.size, fun t u hu => by
  rw [look] at hu
  split at hu
  · rename_i hb
    have : d = t := Nat.eq_of_beq_eq_true hb
    cases hu; rw [← this]; exact hv
  · exact h.at_ t u hu⟩
section
variable {P : Program} {N base : Nat} {w0 : World} {E : Env} {H : List HObj} {G : List World} {Q : Exit → Act → World → Prop}
/-- What one operation of the family does, those it waits for having left what they leave. -/
def FamStep (P : Program) (N base : Nat) (w0 : World) (E : Env) (H : List HObj) (G : List World) (Q : Exit → Act → World → Prop) (ops : Array Oper) (V : Nat → Value → World → Prop) (i : Nat) : Prop :=
  ∀ o, ops[i]? = some o → ∀ a w, EnvOk N E a → WOk base w0 H G w → (∀ j d, (o.after.toList.any fun e => Region.binds .any e && Nat.beq e.on j) = true → dstAt ops j = some d → ∃ v, a.tmps[d]? = some v ∧ V j v w) →
    wpOp P ops Q i (fun a' w' => WOk base w0 H G w' ∧ Below w.heap.size w w' ∧ ∃ v, a' = a.put o.dst v ∧ V i v w') a w
def FamAll (P : Program) (N base : Nat) (w0 : World) (E : Env) (H : List HObj) (G : List World) (Q : Exit → Act → World → Prop) (ops : Array Oper) (V : Nat → Value → World → Prop) : Nat → Prop
  | 0 => True
  | n + 1 => FamAll P N base w0 E H G Q ops V n ∧ FamStep P N base w0 E H G Q ops V n
theorem FamAll.at {ops : Array Oper} {V : Nat → Value → World → Prop} : ∀ {n i : Nat}, FamAll P N base w0 E H G Q ops V n → i < n → FamStep P N base w0 E H G Q ops V i
  | n + 1, i, h, hi => by
    by_cases e : i = n
    · subst e; exact h.2
    · exact FamAll.at h.1 (by omega)
structure FamI (N base : Nat) (w0 : World) (E : Env) (H : List HObj) (G : List World) (ops : Array Oper) (n : Nat) (V : Nat → Value → World → Prop) (listed : Array Bool) (a : Act) (w : World) : Prop where
  env : EnvOk N E a
  mem : WOk base w0 H G w
  vals : ∀ k d, k < n → dstAt ops k = some d → listed.getD k false = true → ∃ v, a.tmps[d]? = some v ∧ V k v w
theorem ok_fam {id : Nat} {l : List Oper} (n : Nat) {tl : List Oper} (htl : l.drop n = tl) (hm : P.follows .mixedOrders = true) (hB : HeadB .any l.toArray n = true) (hn : Nat.ble n l.length = true) (hQ : PQ Q)
    (hb : backB l.toArray n = true) (hd : dstB l.toArray n N = true) (ha : apartB l.toArray n E = true) (hsq : Region.seqB .any l.toArray tl.length n ((List.range l.length).map (fun k => Nat.blt k n)).toArray = true)
    (V : Nat → Value → World → Prop) (hV : ∀ k v w w', V k v w → Below w.heap.size w w' → V k v w')
    (step : FamAll P N base w0 E H G Q l.toArray V n)
    (fin : ∀ a w, EnvOk N E a → WOk base w0 H G w → (∀ k d, k < n → dstAt l.toArray k = some d → ∃ v, a.tmps[d]? = some v ∧ V k v w) → wpList P l.toArray Q tl a w) :
    Ok N base w0 E H G ((Code.region id l.toArray true).wp P Q) := fun a w he hw => by
  have hn' : n ≤ l.length := Nat.le_of_ble_eq_true hn
  have hdl : tl.length = l.toArray.size - n := by subst htl; simp
  have hnz : ∀ (f : Nat) (listed : Array Bool) (a : Act) (w : World), HeadInv .any l.toArray n listed → cntF listed n = f → FamI N base w0 E H G l.toArray n V listed a w →
      wpT P .any l.toArray Q (fun _ => True) n (fun listed a w => Region.seqB .any l.toArray tl.length n listed = true ∧ wpList P l.toArray Q tl a w) f listed a w := by
    intro f
    induction f with
    | zero =>
      intro listed a w inv hc hI
      have hall := cntF_zero n hc
      have hle : listed = ((List.range l.length).map (fun k => Nat.blt k n)).toArray := by
        apply Array.ext
        · rw [inv.size]; simp
        · intro k h1 h2
          have hk : k < l.length := by have := inv.size; simp at this; omega
          simp only [List.getElem_toArray, List.getElem_map, List.getElem_range]
          rcases Nat.lt_or_ge k n with h3 | h3
          · have := hall k h3
            rw [Array.getD_eq_getD_getElem?, Array.getElem?_eq_getElem h1] at this
            rw [show Nat.blt k n = true from by simpa [Nat.blt_eq] using h3]
            exact this
          · have := inv.tail k h3 (by simpa using hk)
            rw [Array.getD_eq_getD_getElem?, Array.getElem?_eq_getElem h1] at this
            rw [show Nat.blt k n = false from by
              cases hx : Nat.blt k n with
              | false => rfl
              | true => rw [Nat.blt_eq] at hx; omega]
            exact this
      refine ⟨by rw [hle]; exact hsq, fin a w hI.env hI.mem fun k d hk hkd => hI.vals k d hk hkd ?_⟩
      have h1 := hall k hk
      rw [Array.getD_eq_getD_getElem?] at h1 ⊢
      have hks : k < listed.size := by rw [inv.size]; simp; omega
      rw [Array.getElem?_eq_getElem hks] at h1 ⊢
      exact h1
    | succ f ih =>
      intro listed a w inv hc hI
      obtain ⟨k, hk, hku, hkm⟩ := cntF_some n (by rw [hc]; exact Nat.succ_ne_zero f)
      have hko : ∃ o, l.toArray[k]? = some o := ⟨l[k]'(by omega), by simp⟩
      obtain ⟨ok, hok⟩ := hko
      have hkr : k ∈ Region.ready .any l.toArray listed := by
        refine mem_ready.2 ⟨hku, ok, hok, fun e hea hbi => ?_⟩
        have h1 := List.all_eq_true.1 hb k (List.mem_range.2 hk)
        rw [hok] at h1
        have h2 := Array.all_eq_true_iff_forall_mem.1 h1 e hea
        rw [hbi] at h2
        have h3 : e.on < k := by simpa [Nat.blt_eq] using h2
        have h4 := hkm e.on h3
        rw [Array.getD_eq_getD_getElem?] at h4 ⊢
        have hes : e.on < listed.size := by rw [inv.size]; simp; omega
        rw [Array.getElem?_eq_getElem hes] at h4 ⊢
        exact h4
      refine ⟨fun h => (by rw [h] at hkr; cases hkr), fun i hi => ?_⟩
      have hin := head_lt hB inv hk hku i hi
      refine ⟨hin, ?_⟩
      obtain ⟨hiu, oi, hoi, hie⟩ := mem_ready.1 hi
      have hs := step.at hin oi hoi a w hI.env hI.mem (fun j d hj hjd => by
        rw [List.any_eq_true] at hj
        obtain ⟨e, hea, heb⟩ := hj
        have hea : e ∈ oi.after := by simpa using hea
        rw [Bool.and_eq_true] at heb
        have hej : e.on = j := Nat.eq_of_beq_eq_true heb.2
        have h1 := List.all_eq_true.1 hb i (List.mem_range.2 hin)
        rw [hoi] at h1
        have h2 := Array.all_eq_true_iff_forall_mem.1 h1 e hea
        rw [heb.1] at h2
        have h3 : e.on < i := by simpa [Nat.blt_eq] using h2
        exact hI.vals j d (by omega) hjd (by rw [← hej]; exact hie e hea heb.1))
      refine wpOp_mono (fun a' w' hp => ?_) hs
      obtain ⟨hw', hbel, v, rfl, hvi⟩ := hp
      refine ⟨trivial, ih _ _ _ (inv.set hi hin) (by have := cntF_set hiu n hin; omega) ⟨?_, hw', fun k' d' hk' hd' hl' => ?_⟩⟩
      · exact hI.env.forget v (fun t ht => apart_look ha hin (by unfold dstAt; rw [hoi]; exact ht))
      · have hdi := List.all_eq_true.1 hd i (List.mem_range.2 hin)
        have hdo : dstAt l.toArray i = oi.dst := by unfold dstAt; rw [hoi]; rfl
        rw [hdo] at hdi
        cases hod : oi.dst with
        | none => rw [hod] at hdi; cases hdi
        | some di =>
          rw [hod] at hdi
          simp only [Bool.and_eq_true] at hdi
          by_cases hki : k' = i
          · subst hki
            have : d' = di := by rw [hdo, hod] at hd'; cases hd'; rfl
            subst this
            refine ⟨v, ?_, hvi⟩
            have hsz : d' < a.tmps.size := by rw [hI.env.size]; simpa [Nat.blt_eq] using hdi.1
            show (a.tmps.setIfInBounds d' v)[d']? = some v
            simp [hsz]
          · have hne : d' ≠ di := fun e => by
              have h5 := List.all_eq_true.1 hdi.2 k' (List.mem_range.2 hk')
              rw [hd', e] at h5
              simp only [BEq.rfl, Bool.not_true, Bool.or_false] at h5
              exact hki (Nat.eq_of_beq_eq_true h5)
            rw [getD_set_ne false (Ne.symm hki)] at hl'
            obtain ⟨v', h6, h7⟩ := hI.vals k' d' hk' hd' hl'
            refine ⟨v', ?_, hV _ _ _ _ h7 hbel⟩
            show (a.tmps.setIfInBounds di v)[d']? = some v'
            rw [Array.getElem?_setIfInBounds_ne (Ne.symm hne)]
            exact h6
  have inv0 : HeadInv .any l.toArray n (Array.replicate l.length false) :=
    ⟨by simp, fun j oj _ hl => (by rw [getD_replicate_false] at hl; cases hl), fun t _ ht => getD_in (by simpa using ht) (getD_replicate_false _ _)⟩
  have H0 := hnz n (Array.replicate l.length false) a w.drew inv0 (cntF_all n hn') ⟨he, hw.drew, fun k d _ _ hl => by rw [getD_replicate_false] at hl; cases hl⟩
  refine wp_region_any hm ?_
  have := wpAny_of_T (Q := Q) (g := l.toArray.size - n) (fun listed a' w' hL => by
    have := wpAny_of_seq (md := .any) (Q' := Q) tl n listed a' w' (fun j => by subst htl; simp [List.getElem?_drop]) hL.1 hL.2
    rwa [hdl] at this) _ _ _ _ H0
  rw [show n + (l.toArray.size - n) = l.toArray.size by simp; omega] at this
  simpa using this
/-- The tellings as a list. -/
abbrev VL := List (Value → World → Prop)
def VL.at (l : VL) (k : Nat) : Value → World → Prop := l.getD k (fun _ _ => True)
def VL.mono : VL → Prop
  | [] => True
  | p :: l => (∀ v w w', p v w → Below w.heap.size w w' → p v w') ∧ VL.mono l
theorem VL.mono_at : ∀ {l : VL}, l.mono → ∀ k v w w', l.at k v w → Below w.heap.size w w' → l.at k v w'
  | [], _, k, v, w, w', _, _ => trivial
  | p :: l, h, 0, v, w, w', hp, hb => h.1 v w w' hp hb
  | p :: l, h, k + 1, v, w, w', hp, hb => VL.mono_at h.2 k v w w' hp hb
theorem mono_c (c : Value) : ∀ (v : Value) (w w' : World), (fun v (_ : World) => v = c) v w → Below w.heap.size w w' → (fun v (_ : World) => v = c) v w' := fun _ _ _ h _ => h
theorem fam_step {ops : Array Oper} {V : Nat → Value → World → Prop} {i : Nat} {o : Oper} (ho : ops[i]? = some o)
    (h : ∀ a w, EnvOk N E a → WOk base w0 H G w → (∀ j d, (o.after.toList.any fun e => Region.binds .any e && Nat.beq e.on j) = true → dstAt ops j = some d → ∃ v, a.tmps[d]? = some v ∧ V j v w) →
      wpOp P ops Q i (fun a' w' => WOk base w0 H G w' ∧ Below w.heap.size w w' ∧ ∃ v, a' = a.put o.dst v ∧ V i v w') a w) : FamStep P N base w0 E H G Q ops V i := fun o' ho' => by
  cases ho.symm.trans ho'; exact h
theorem fam_w {ops : Array Oper} {o : Oper} {a : Act} (hg : o.guard = none) : Region.wanted o (yielded ops a.tmps) = true := by simp [Region.wanted, hg]
theorem fam_g {ops : Array Oper} {o : Oper} {a : Act} {E' : Env} {j d : Nat} {want : Bool} (he : EnvOk N E' a) (hg : o.guard = some (j, want)) (hj : dstAt ops j = some d) (hv : look E' d = some (.bool want)) : Region.wanted o (yielded ops a.tmps) = true := by
  rw [wanted_of (p := true) (c := want) he hg hj hv]; simp
theorem fam_gn {ops : Array Oper} {o : Oper} {a : Act} {E' : Env} {j d : Nat} {want c : Bool} (he : EnvOk N E' a) (hg : o.guard = some (j, want)) (hj : dstAt ops j = some d) (hv : look E' d = some (.bool c)) (hc : (c == want) = false) : Region.wanted o (yielded ops a.tmps) = false := by
  rw [wanted_of (p := true) (c := c) he hg hj hv, hc]; simp
theorem fam_p {ops : Array Oper} {V : Nat → Value → World → Prop} {i : Nat} {o : Oper} {a : Act} {w : World} (hi : ops[i]? = some o) (hn : Region.wanted o (yielded ops a.tmps) = true) {E' : Env} {v : Value} (he : EnvOk N E' a) (hw : WOk base w0 H G w) (hs : PStep P E' H G o v) (hv : V i v w) :
    wpOp P ops Q i (fun a' w' => WOk base w0 H G w' ∧ Below w.heap.size w w' ∧ ∃ v, a' = a.put o.dst v ∧ V i v w') a w :=
  (show YieldsIf P ops (fun w' => w' = w) o v a from .inl ⟨hn, fun w' e => by subst e; exact hs N base w0 a _ he hw⟩).wpOp hi rfl ⟨hw, Below.refl _ _, v, rfl, hv⟩
theorem fam_n {ops : Array Oper} {V : Nat → Value → World → Prop} {i : Nat} {o : Oper} {a : Act} {w : World} (hi : ops[i]? = some o) (hn : Region.wanted o (yielded ops a.tmps) = false) (hw : WOk base w0 H G w) (hv : V i undef w) :
    wpOp P ops Q i (fun a' w' => WOk base w0 H G w' ∧ Below w.heap.size w w' ∧ ∃ v, a' = a.put o.dst v ∧ V i v w') a w := by
  unfold wpOp
  simp only [hi]
  rw [if_neg (by rw [hn]; exact Bool.false_ne_true)]
  exact ⟨hw, Below.refl _ _, undef, rfl, hv⟩
theorem wok_here (w : World) : WOk w.heap.size w [] [w] w := ⟨Below.refl _ _, Nat.le_refl _, (fun x h => (by cases h)), List.Pairwise.nil, fun m hm p u hp => by
  cases hm with
  | head => exact ⟨hp, (fun x h => (by cases h))⟩
  | tail _ h => exact (by cases h)⟩
theorem fam_m {ops : Array Oper} {V : Nat → Value → World → Prop} {i : Nat} {o : Oper} {a : Act} {w : World} (hi : ops[i]? = some o) (hn : Region.wanted o (yielded ops a.tmps) = true) {E' : Env} {F : Ys → Prop} {v : Ys → Value} {H' : Ys → List HObj} {G' : Ys → List World} (he : EnvOk N E' a) (hw : WOk base w0 H G w) (hs : MStep P E' [] [w] o F v H' G')
    (hv : ∀ y w', F y → WOk w.heap.size w (H' y) (G' y) w' → V i (v y) w') :
    wpOp P ops Q i (fun a' w' => WOk base w0 H G w' ∧ Below w.heap.size w w' ∧ ∃ v, a' = a.put o.dst v ∧ V i v w') a w := by
  unfold wpOp
  simp only [hi]
  rw [if_pos hn]
  refine .inl (hs N w.heap.size w a w Q _ he (wok_here w) fun y w' hF hw' => ?_)
  have hb := hw'.below
  exact ⟨hw.grow (Hn := []) (Gn := []) hb (NewOk.nil _ _), hb, v y, rfl, hv y w' hF hw'⟩
theorem fam_fin1 {l : List Oper} {n : Nat} {tl : List Oper} {V : Nat → Value → World → Prop} {c : Value} (k d : Nat) (hk : Nat.blt k n = true) (hd : dstAt l.toArray k = some d) (hc : ∀ v w, V k v w → v = c) (h : Ok N base w0 ((d, c) :: E) H G (wpList P l.toArray Q tl)) :
    ∀ a w, EnvOk N E a → WOk base w0 H G w → (∀ k d, k < n → dstAt l.toArray k = some d → ∃ v, a.tmps[d]? = some v ∧ V k v w) → wpList P l.toArray Q tl a w := fun a w he hw hR => by
  obtain ⟨v, hv, hV⟩ := hR k d (by simpa [Nat.blt_eq] using hk) hd
  exact h a w (he.add (by rw [hv, hc v w hV])) hw
end
end Go.Proofs.Ytbegbdfbfbkflaa
/- FnDelta: its walk. -/
namespace Go.Proofs.Ytbegbdfbfbkflaa
open Go.RowKit
set_option maxHeartbeats 4000000
set_option maxRecDepth 20000
set_option linter.unusedVariables false
set_option linter.unusedSimpArgs false
attribute [local irreducible] Calls
theorem sEqD (s : ByteArray) : sEq s s = true := by unfold sEq; simp
theorem i_read_e (s : ByteArray) (x : DDelta) (b : Bool) (e : fReadDelta s = (x, b)) (w : World) (hs : s.size ≤ 1048576) :
    Calls Try.prog 54 #[.string s] w fun e w' => ∃ y : Ys, e = .returned (.tuple #[Delta_val x y, .bool b]) ∧ True ∧ Below w.heap.size w w' ∧ NewOk w.heap.size (Delta_obj x y) [] w' := by
  have := i_ReadDelta s w hs
  rw [e] at this; exact this
theorem s_read_e (s : ByteArray) (x : DDelta) (b : Bool) (e : fReadDelta s = (x, b)) (w : World) (hs : s.size ≤ 1048576) :
    Calls Try.prog 56 #[.string s] w fun e w' => ∃ y : Ys, e = .returned (.tuple #[Delta_val x y, .bool b]) ∧ True ∧ Below w.heap.size w w' ∧ NewOk w.heap.size (Delta_obj x y) [] w' := by
  have := s_ReadDelta s w hs
  rw [e] at this; exact this
theorem read_le {s : ByteArray} : (fReadDelta s).1.U.length ≤ s.size ∧ (fReadDelta s).1.D.length ≤ s.size := by
  cases hp : pX s with
  | none => rw [read_none hp]; exact ⟨Nat.zero_le _, Nat.zero_le _⟩
  | some p =>
    obtain ⟨x, e⟩ := p
    obtain ⟨_, _, h3, h4, _⟩ := pX_some hp
    by_cases hs : fShowDelta x = s
    · rw [read_yes hp hs]; exact ⟨h3, h4⟩
    · rw [read_no hp hs]; exact ⟨Nat.zero_le _, Nat.zero_le _⟩
theorem i_show_e (x : DDelta) (s : ByteArray) (y : Ys) (e : fShowDelta x = s) (w : World) (h : Delta_rd w x y) (hs : x.U.length ≤ 1048576 ∧ x.D.length ≤ 1048576) :
    Calls Try.prog 53 #[Delta_val x y] w fun e w' => e = .returned (.string s) ∧ Below w.heap.size w w' := by
  have := i_ShowDelta0 (y 0).A (y 1).A (y 0).c (y 1).c x.U x.D w h.1 h.2 hs.1 hs.2
  rw [← e]; exact this
theorem s_show_e (x : DDelta) (s : ByteArray) (y : Ys) (e : fShowDelta x = s) (w : World) (h : Delta_rd w x y) (hs : x.U.length ≤ 1048576 ∧ x.D.length ≤ 1048576) :
    Calls Try.prog 61 #[Delta_val x y] w fun e w' => e = .returned (.string s) ∧ Below w.heap.size w w' := by
  have := s_ShowDelta0 (y 0).A (y 1).A (y 0).c (y 1).c x.U x.D w h.1 h.2 hs.1 hs.2
  rw [← e]; exact this
theorem s_join_o (A0 A1 B0 B1 : Option Addr) (c0 c1 d0 d1 : Nat) (a b : DDelta) (sa : Delta_sm a) (sb : Delta_sm b) (w : World) (h0 : Rd w A0 (fl a.U)) (h1 : Rd w A1 (fl a.D)) (k0 : Rd w B0 (fl b.U)) (k1 : Rd w B1 (fl b.D)) :
    Calls Try.prog 62 #[.agg #[.slice A0 a.U.length c0, .slice A1 a.D.length c1], .agg #[.slice B0 b.U.length d0, .slice B1 b.D.length d1]] w fun e w' => ∃ y : Ys, e = .returned (Delta_val (fJoinDelta a b) y) ∧ True ∧ Below w.heap.size w w' ∧ NewOk w.heap.size (Delta_obj (fJoinDelta a b) y) [] w' :=
  s_JoinDelta a (yl [⟨A0, c0, w, 0⟩, ⟨A1, c1, w, 0⟩] ⟨A0, c0, w, 0⟩) b (yl [⟨B0, d0, w, 0⟩, ⟨B1, d1, w, 0⟩] ⟨B0, d0, w, 0⟩) w ⟨h0, h1⟩ ⟨k0, k1⟩ sa sb
theorem below_rd {w w' : World} {x : DDelta} {y : Ys} (hb : Below w.heap.size w w') (h : Delta_rd w x y) : Delta_rd w' x y := ⟨h.1.ext hb, h.2.ext hb⟩
theorem s_dok_g (A0 A1 : Option Addr) (c0 c1 : Nat) (U : List KV) (D : List ByteArray) (b : Bool) (he : deltaOk U D = b) (w : World) (h0 : Rd w A0 (fl U)) (h1 : Rd w A1 (fl D)) (m0 : U.length ≤ 1048576) (m1 : D.length ≤ 1048576) :
    Calls Try.prog 57 #[.agg #[.slice A0 U.length c0, .slice A1 D.length c1]] w fun e w' => e = .returned (.bool b) ∧ Below w.heap.size w w' := by
  have := s_DeltaOk A0 c0 A1 c1 U D w h0 h1 m0 m1
  rw [he] at this; exact this
theorem FnDelta_e (A : Option Addr) (cp : Nat) (bs : List UInt8) (w : World) (h : Rd w A (fl bs)) :
    Calls Try.prog 10 #[.slice A bs.length cp] w fun e w' => e = .returned (.bool true) ∧ Below w.heap.size w w' := by
  refine ok_enter 119 Try.func10 rfl rfl rfl ?_
  repeat' ((fail_if_success (refine at_reg 9 ?_)); first
    | refine ok_seq ?_
    | refine ok_then ?_
    | refine ok_then_ret ?_
    | (refine ok_cond rfl (fun hc => ?_) (fun hc => ?_) <;> (have hd := hc; (try simp only [decide_eq_true_eq, decide_eq_false_iff_not, Bool.or_eq_true, Bool.or_eq_false_iff, Bool.and_eq_true, Bool.and_eq_false_iff, Bool.not_eq_true', Bool.not_eq_false', bne_iff_ne, beq_iff_eq, bne_eq_false_iff_eq, beq_eq_false_iff_ne, ne_eq, Bool.not_true, Bool.not_false, Bool.false_eq_true, Bool.true_eq_false, inB_true, inB_false] at hd)))
    | refine ok_ret ?_
    | refine ok_skip ?_
    | (refine ok_region (i := 0) ?_; refine ok_p rfl rfl rfl (by exact ps_assign rfl rfl) ?_; refine ok_nil ?_; refine ok_env [(0, _)] ⟨rfl, trivial⟩ ?_)
    | (refine ok_region (i := 1) ?_; refine ok_p rfl rfl rfl (by exact ps_move rfl rfl) ?_; refine ok_m rfl rfl rfl (by exact ms_s1 rfl rfl (fun _ _ w _ => big_c A cp _ w)) ?_; rintro y16 hy16; refine ok_nil ?_; refine ok_env [(0, _), (16, _)] ⟨rfl, rfl, trivial⟩ ?_)
    | (refine ok_region (i := 2) ?_; refine ok_p rfl rfl rfl (by exact ps_assign rfl rfl) ?_; refine ok_nil ?_; refine ok_env [(2, _)] ⟨rfl, trivial⟩ ?_))
  · exact ok_endL (vs := [_]) rfl ⟨rfl, trivial⟩ (fun w' hw => ⟨rfl, hw.below⟩)
  have hl : bs.length ≤ 1048576 := by omega
  clear hc hd
  repeat' ((fail_if_success (refine at_reg 9 ?_)); first
    | refine ok_seq ?_
    | (refine ok_region (i := 3) ?_; refine ok_p rfl rfl rfl (by exact ps_move rfl rfl) ?_; refine ok_m rfl rfl rfl (by exact ms_c1 rfl rfl (fun _ _ w hw => drawShow_c A cp bs w (rds_rf h (by exact List.mem_cons_self) _ _ w hw) hl)) ?_; rintro y18 hy18; refine ok_m rfl rfl rfl (by exact ms_alloc rfl) ?_; rintro y3 hy3; refine ok_m_ rfl rfl (by exact ms_store 0 rfl rfl rfl rfl rfl rfl rfl rfl) ?_; rintro y_ hy_; refine ok_nil ?_; refine ok_env [(0, _), (3, _)] ⟨rfl, rfl, trivial⟩ ?_)
    | (refine ok_region (i := 4) ?_; refine ok_p rfl rfl rfl (by exact ps_loads rfl rfl (by exact rds_box 0 rfl) rfl rfl (by decide)) ?_; refine ok_m rfl rfl rfl (by exact ms_s1 rfl rfl (fun _ _ w hw => i_ShowDelta0 (y18 0).A (y18 1).A (y18 0).c (y18 1).c (yE (y18 2)) (yE (y18 3)) w (rds_row 1 rfl _ _ w hw) (rds_row 2 rfl _ _ w hw) (by have := hy18.1.1; omega) (by have := hy18.2.1; omega))) ?_; rintro y20 hy20; refine ok_p rfl rfl rfl (by exact ps_assign rfl rfl) ?_; refine ok_nil ?_; refine ok_env [(0, _), (3, _), (4, _)] ⟨rfl, rfl, rfl, trivial⟩ ?_))
  have hf := hy18
  clear hy18
  generalize (yE (y18 2) : List KV) = U at hf ⊢
  generalize (yE (y18 3) : List ByteArray) = D at hf ⊢
  have hsz := show_size hf
  have hrd := show_read (x := ⟨U, D⟩) ⟨by have := hf.1.1; show U.length ≤ 1000; omega, fun u hu => by have := hf.1.2 u hu; omega⟩ ⟨by have := hf.2.1; show D.length ≤ 1000; omega, fun u hu => by have := hf.2.2 u hu; omega⟩
  have hrs := read_show (s := fShowDelta ⟨U, D⟩)
  have hrl := read_le (s := fShowDelta ⟨U, D⟩)
  have hU := hf.1.1
  have hD := hf.2.1
  generalize fShowDelta ⟨U, D⟩ = s at hsz hrd hrs hrl ⊢
  obtain ⟨x, b, er⟩ : ∃ x b, fReadDelta s = (x, b) := ⟨_, _, rfl⟩
  rw [er] at hrs hrl
  have hbk : deltaOk U D = b := by
    rw [er] at hrd
    by_cases hk : deltaOk U D = true
    · rw [if_pos hk] at hrd; rw [hk]; exact (congrArg Prod.snd hrd).symm
    · rw [if_neg hk] at hrd
      have : deltaOk U D = false := by simpa using hk
      rw [this]; exact (congrArg Prod.snd hrd).symm
  clear hrd hf
  simp only at hrs hrl
  have HRS := Lib.hid hrs; clear hrs
  have ER := Lib.hid er; clear er
  have HBK := Lib.hid hbk; clear hbk
  repeat' ((fail_if_success (refine at_reg 9 ?_)); first
    | refine ok_seq ?_
    | (refine ok_region (i := 5) ?_; refine ok_p rfl rfl rfl (by exact ps_move rfl rfl) ?_; refine ok_m rfl rfl rfl (by exact ms_c1 rfl rfl (fun _ _ w hw => i_read_e s x b ER.out w (by omega))) ?_; rintro y23 hy23; refine ok_p rfl rfl rfl (by exact ps_move rfl rfl) ?_; refine ok_p rfl rfl rfl (by exact ps_extract rfl rfl rfl) ?_; refine ok_p rfl rfl rfl (by exact ps_extract rfl rfl rfl) ?_; refine ok_m rfl rfl rfl (by exact ms_alloc rfl) ?_; rintro y5 hy5; refine ok_m_ rfl rfl (by exact ms_store 0 rfl rfl rfl rfl rfl rfl rfl rfl) ?_; rintro y_ hy_; refine ok_p rfl rfl rfl (by exact ps_assign rfl rfl) ?_; refine ok_nil ?_; refine ok_env [(0, _), (3, _), (4, _), (5, _), (6, _)] ⟨rfl, rfl, rfl, rfl, rfl, trivial⟩ ?_)
    | (refine ok_region (i := 6) ?_; refine ok_p rfl rfl rfl (by exact ps_move rfl rfl) ?_; refine ok_m rfl rfl rfl (by exact ms_c1 rfl rfl (fun _ _ w hw => drawRead_c A cp bs w (rds_rf h (by exact List.mem_cons_self) _ _ w hw) hl)) ?_; rintro y27 hy27; refine ok_p rfl rfl rfl (by exact ps_assign rfl rfl) ?_; refine ok_nil ?_; refine ok_env [(0, _), (3, _), (4, _), (5, _), (6, _), (7, _)] ⟨rfl, rfl, rfl, rfl, rfl, rfl, trivial⟩ ?_))
  have htz := hy27
  clear hy27
  generalize yS (y27 0) = t at htz ⊢
  have hts := read_show (s := t)
  have htl := read_le (s := t)
  obtain ⟨z, f, et⟩ : ∃ z f, fReadDelta t = (z, f) := ⟨_, _, rfl⟩
  rw [et] at hts htl
  simp only at hts htl
  have HTS := Lib.hid hts; clear hts
  have ET := Lib.hid et; clear et
  repeat' ((fail_if_success (refine at_reg 9 ?_)); first
    | refine ok_seq ?_
    | (refine ok_region (i := 7) ?_; refine ok_p rfl rfl rfl (by exact ps_move rfl rfl) ?_; refine ok_m rfl rfl rfl (by exact ms_c1 rfl rfl (fun _ _ w hw => i_read_e t z f ET.out w (by omega))) ?_; rintro y30 hy30; refine ok_p rfl rfl rfl (by exact ps_move rfl rfl) ?_; refine ok_p rfl rfl rfl (by exact ps_extract rfl rfl rfl) ?_; refine ok_p rfl rfl rfl (by exact ps_extract rfl rfl rfl) ?_; refine ok_m rfl rfl rfl (by exact ms_alloc rfl) ?_; rintro y8 hy8; refine ok_m_ rfl rfl (by exact ms_store 0 rfl rfl rfl rfl rfl rfl rfl rfl) ?_; rintro y_ hy_; refine ok_p rfl rfl rfl (by exact ps_assign rfl rfl) ?_; refine ok_nil ?_; refine ok_env [(0, _), (3, _), (4, _), (5, _), (6, _), (7, _), (8, _), (9, _)] ⟨rfl, rfl, rfl, rfl, rfl, rfl, rfl, rfl, trivial⟩ ?_)
    | (refine ok_region (i := 8) ?_; refine ok_p rfl rfl rfl (by exact ps_move rfl rfl) ?_; refine ok_m rfl rfl rfl (by exact ms_c1 rfl rfl (fun _ _ w hw => s_read_e t z f ET.out w (by omega))) ?_; rintro y35 hy35; refine ok_p rfl rfl rfl (by exact ps_move rfl rfl) ?_; refine ok_p rfl rfl rfl (by exact ps_extract rfl rfl rfl) ?_; refine ok_p rfl rfl rfl (by exact ps_extract rfl rfl rfl) ?_; refine ok_m rfl rfl rfl (by exact ms_alloc rfl) ?_; rintro y10 hy10; refine ok_m_ rfl rfl (by exact ms_store 0 rfl rfl rfl rfl rfl rfl rfl rfl) ?_; rintro y_ hy_; refine ok_p rfl rfl rfl (by exact ps_assign rfl rfl) ?_; refine ok_nil ?_; refine ok_env [(0, _), (3, _), (4, _), (5, _), (6, _), (7, _), (8, _), (9, _), (11, _)] ⟨rfl, rfl, rfl, rfl, rfl, rfl, rfl, rfl, rfl, trivial⟩ ?_))
  repeat' (first
    | refine ok_seq ?_
    | refine ok_then ?_
    | refine ok_then_ret ?_
    | (refine ok_cond rfl (fun hc => ?_) (fun hc => ?_) <;> (have hd := hc; (try simp only [decide_eq_true_eq, decide_eq_false_iff_not, Bool.or_eq_true, Bool.or_eq_false_iff, Bool.and_eq_true, Bool.and_eq_false_iff, Bool.not_eq_true', Bool.not_eq_false', bne_iff_ne, beq_iff_eq, bne_eq_false_iff_eq, beq_eq_false_iff_ne, ne_eq, Bool.not_true, Bool.not_false, Bool.false_eq_true, Bool.true_eq_false, inB_true, inB_false] at hd)))
    | refine ok_ret ?_
    | refine ok_skip ?_
    | (refine ok_region (i := 9) ?_; refine ok_p rfl rfl rfl (by exact ps_move rfl rfl) ?_; refine ok_p rfl rfl rfl (by exact ps_loads rfl rfl (by exact rds_box 9 rfl) rfl rfl (by decide)) ?_; refine ok_m rfl rfl rfl (by exact ms_s1 rfl rfl (fun _ _ w hw => s_dok_g (y18 0).A (y18 1).A (y18 0).c (y18 1).c U D b HBK.out w (rds_row 10 rfl _ _ w hw) (rds_row 11 rfl _ _ w hw) (by omega) (by omega))) ?_; rintro y40 hy40; refine ok_p rfl rfl rfl (by exact ps_bool_neq Try.underlying4 rfl rfl rfl) ?_; refine ok_p rfl rfl rfl (by exact ps_move rfl rfl) ?_; refine ok_pg rfl rfl rfl rfl rfl (gF _) (fun hp => by (have hpd := hp; (try simp only [decide_eq_true_eq, decide_eq_false_iff_not, Bool.or_eq_true, Bool.or_eq_false_iff, Bool.and_eq_true, Bool.and_eq_false_iff, Bool.not_eq_true', Bool.not_eq_false', bne_iff_ne, beq_iff_eq, bne_eq_false_iff_eq, beq_eq_false_iff_ne, ne_eq, Bool.not_true, Bool.not_false, Bool.false_eq_true, Bool.true_eq_false, inB_true, inB_false] at hpd); exact ps_move rfl (by exact rfl))) ?_; refine ok_pg rfl rfl rfl rfl rfl (gF _) (fun hp => by (have hpd := hp; (try simp only [decide_eq_true_eq, decide_eq_false_iff_not, Bool.or_eq_true, Bool.or_eq_false_iff, Bool.and_eq_true, Bool.and_eq_false_iff, Bool.not_eq_true', Bool.not_eq_false', bne_iff_ne, beq_iff_eq, bne_eq_false_iff_eq, beq_eq_false_iff_ne, ne_eq, Bool.not_true, Bool.not_false, Bool.false_eq_true, Bool.true_eq_false, inB_true, inB_false] at hpd); exact ps_move rfl (by (refine og rfl ?_; assumption)))) ?_; refine ok_pgg rfl rfl rfl rfl rfl (gT _) (fun hq hp hqp => by (have hqd := hq; (try simp only [decide_eq_true_eq, decide_eq_false_iff_not, Bool.or_eq_true, Bool.or_eq_false_iff, Bool.and_eq_true, Bool.and_eq_false_iff, Bool.not_eq_true', Bool.not_eq_false', bne_iff_ne, beq_iff_eq, bne_eq_false_iff_eq, beq_eq_false_iff_ne, ne_eq, Bool.not_true, Bool.not_false, Bool.false_eq_true, Bool.true_eq_false, inB_true, inB_false] at hqd); have hpd := hp; (try simp only [decide_eq_true_eq, decide_eq_false_iff_not, Bool.or_eq_true, Bool.or_eq_false_iff, Bool.and_eq_true, Bool.and_eq_false_iff, Bool.not_eq_true', Bool.not_eq_false', bne_iff_ne, beq_iff_eq, bne_eq_false_iff_eq, beq_eq_false_iff_ne, ne_eq, Bool.not_true, Bool.not_false, Bool.false_eq_true, Bool.true_eq_false, inB_true, inB_false] at hpd); exact ps_loads rfl (by exact rfl) (by exact rds_box 6 rfl) rfl rfl (by decide))) ?_; refine ok_mgg rfl rfl rfl rfl rfl (gT _) (fun hq hp hqp => by (have hqd := hq; (try simp only [decide_eq_true_eq, decide_eq_false_iff_not, Bool.or_eq_true, Bool.or_eq_false_iff, Bool.and_eq_true, Bool.and_eq_false_iff, Bool.not_eq_true', Bool.not_eq_false', bne_iff_ne, beq_iff_eq, bne_eq_false_iff_eq, beq_eq_false_iff_ne, ne_eq, Bool.not_true, Bool.not_false, Bool.false_eq_true, Bool.true_eq_false, inB_true, inB_false] at hqd); have hpd := hp; (try simp only [decide_eq_true_eq, decide_eq_false_iff_not, Bool.or_eq_true, Bool.or_eq_false_iff, Bool.and_eq_true, Bool.and_eq_false_iff, Bool.not_eq_true', Bool.not_eq_false', bne_iff_ne, beq_iff_eq, bne_eq_false_iff_eq, beq_eq_false_iff_ne, ne_eq, Bool.not_true, Bool.not_false, Bool.false_eq_true, Bool.true_eq_false, inB_true, inB_false] at hpd); exact ms_s1 rfl (by (refine og rfl ?_; assumption)) (fun _ _ w hw => i_show_e x s y23 (HRS.out (by simpa using hp)) w (Delta_of (hw.drop 7 rfl)) (by omega)))) ?_; refine ok_pgg rfl rfl rfl rfl rfl (gT _) (fun hq hp hqp => by (have hqd := hq; (try simp only [decide_eq_true_eq, decide_eq_false_iff_not, Bool.or_eq_true, Bool.or_eq_false_iff, Bool.and_eq_true, Bool.and_eq_false_iff, Bool.not_eq_true', Bool.not_eq_false', bne_iff_ne, beq_iff_eq, bne_eq_false_iff_eq, beq_eq_false_iff_ne, ne_eq, Bool.not_true, Bool.not_false, Bool.false_eq_true, Bool.true_eq_false, inB_true, inB_false] at hqd); have hpd := hp; (try simp only [decide_eq_true_eq, decide_eq_false_iff_not, Bool.or_eq_true, Bool.or_eq_false_iff, Bool.and_eq_true, Bool.and_eq_false_iff, Bool.not_eq_true', Bool.not_eq_false', bne_iff_ne, beq_iff_eq, bne_eq_false_iff_eq, beq_eq_false_iff_ne, ne_eq, Bool.not_true, Bool.not_false, Bool.false_eq_true, Bool.true_eq_false, inB_true, inB_false] at hpd); exact ps_move rfl (by exact rfl))) ?_; refine ok_pgg rfl rfl rfl rfl rfl (gT _) (fun hq hp hqp => by (have hqd := hq; (try simp only [decide_eq_true_eq, decide_eq_false_iff_not, Bool.or_eq_true, Bool.or_eq_false_iff, Bool.and_eq_true, Bool.and_eq_false_iff, Bool.not_eq_true', Bool.not_eq_false', bne_iff_ne, beq_iff_eq, bne_eq_false_iff_eq, beq_eq_false_iff_ne, ne_eq, Bool.not_true, Bool.not_false, Bool.false_eq_true, Bool.true_eq_false, inB_true, inB_false] at hqd); have hpd := hp; (try simp only [decide_eq_true_eq, decide_eq_false_iff_not, Bool.or_eq_true, Bool.or_eq_false_iff, Bool.and_eq_true, Bool.and_eq_false_iff, Bool.not_eq_true', Bool.not_eq_false', bne_iff_ne, beq_iff_eq, bne_eq_false_iff_eq, beq_eq_false_iff_ne, ne_eq, Bool.not_true, Bool.not_false, Bool.false_eq_true, Bool.true_eq_false, inB_true, inB_false] at hpd); exact ps_str rfl (by (refine og rfl ?_; assumption)) (by (refine og rfl ?_; assumption)) rfl)) ?_; refine ok_pg rfl rfl rfl rfl rfl (gF _) (fun hp => by (have hpd := hp; (try simp only [decide_eq_true_eq, decide_eq_false_iff_not, Bool.or_eq_true, Bool.or_eq_false_iff, Bool.and_eq_true, Bool.and_eq_false_iff, Bool.not_eq_true', Bool.not_eq_false', bne_iff_ne, beq_iff_eq, bne_eq_false_iff_eq, beq_eq_false_iff_ne, ne_eq, Bool.not_true, Bool.not_false, Bool.false_eq_true, Bool.true_eq_false, inB_true, inB_false] at hpd); exact ps_and_in (by assumption) rfl rfl rfl)) ?_; refine ok_p rfl rfl rfl (by exact ps_or rfl rfl rfl) ?_; refine ok_p rfl rfl rfl (by exact ps_move rfl rfl) ?_; refine ok_pg rfl rfl rfl rfl rfl (gF _) (fun hp => by (have hpd := hp; (try simp only [decide_eq_true_eq, decide_eq_false_iff_not, Bool.or_eq_true, Bool.or_eq_false_iff, Bool.and_eq_true, Bool.and_eq_false_iff, Bool.not_eq_true', Bool.not_eq_false', bne_iff_ne, beq_iff_eq, bne_eq_false_iff_eq, beq_eq_false_iff_ne, ne_eq, Bool.not_true, Bool.not_false, Bool.false_eq_true, Bool.true_eq_false, inB_true, inB_false] at hpd); exact ps_move rfl (by exact rfl))) ?_; refine ok_pg rfl rfl rfl rfl rfl (gF _) (fun hp => by (have hpd := hp; (try simp only [decide_eq_true_eq, decide_eq_false_iff_not, Bool.or_eq_true, Bool.or_eq_false_iff, Bool.and_eq_true, Bool.and_eq_false_iff, Bool.not_eq_true', Bool.not_eq_false', bne_iff_ne, beq_iff_eq, bne_eq_false_iff_eq, beq_eq_false_iff_ne, ne_eq, Bool.not_true, Bool.not_false, Bool.false_eq_true, Bool.true_eq_false, inB_true, inB_false] at hpd); exact ps_move rfl (by exact rfl))) ?_; refine ok_pg rfl rfl rfl rfl rfl (gF _) (fun hp => by (have hpd := hp; (try simp only [decide_eq_true_eq, decide_eq_false_iff_not, Bool.or_eq_true, Bool.or_eq_false_iff, Bool.and_eq_true, Bool.and_eq_false_iff, Bool.not_eq_true', Bool.not_eq_false', bne_iff_ne, beq_iff_eq, bne_eq_false_iff_eq, beq_eq_false_iff_ne, ne_eq, Bool.not_true, Bool.not_false, Bool.false_eq_true, Bool.true_eq_false, inB_true, inB_false] at hpd); exact ps_bool_neq Try.underlying4 rfl (by (refine og rfl ?_; assumption)) (by (refine og rfl ?_; assumption)))) ?_; refine ok_p rfl rfl rfl (by exact ps_or rfl rfl rfl) ?_; refine ok_p rfl rfl rfl (by exact ps_move rfl rfl) ?_; refine ok_pg rfl rfl rfl rfl rfl (gF _) (fun hp => by (have hpd := hp; (try simp only [decide_eq_true_eq, decide_eq_false_iff_not, Bool.or_eq_true, Bool.or_eq_false_iff, Bool.and_eq_true, Bool.and_eq_false_iff, Bool.not_eq_true', Bool.not_eq_false', bne_iff_ne, beq_iff_eq, bne_eq_false_iff_eq, beq_eq_false_iff_ne, ne_eq, Bool.not_true, Bool.not_false, Bool.false_eq_true, Bool.true_eq_false, inB_true, inB_false] at hpd); exact ps_move rfl (by exact rfl))) ?_; refine ok_pg rfl rfl rfl rfl rfl (gF _) (fun hp => by (have hpd := hp; (try simp only [decide_eq_true_eq, decide_eq_false_iff_not, Bool.or_eq_true, Bool.or_eq_false_iff, Bool.and_eq_true, Bool.and_eq_false_iff, Bool.not_eq_true', Bool.not_eq_false', bne_iff_ne, beq_iff_eq, bne_eq_false_iff_eq, beq_eq_false_iff_ne, ne_eq, Bool.not_true, Bool.not_false, Bool.false_eq_true, Bool.true_eq_false, inB_true, inB_false] at hpd); exact ps_move rfl (by (refine og rfl ?_; assumption)))) ?_; refine ok_pgg rfl rfl rfl rfl rfl (gT _) (fun hq hp hqp => by (have hqd := hq; (try simp only [decide_eq_true_eq, decide_eq_false_iff_not, Bool.or_eq_true, Bool.or_eq_false_iff, Bool.and_eq_true, Bool.and_eq_false_iff, Bool.not_eq_true', Bool.not_eq_false', bne_iff_ne, beq_iff_eq, bne_eq_false_iff_eq, beq_eq_false_iff_ne, ne_eq, Bool.not_true, Bool.not_false, Bool.false_eq_true, Bool.true_eq_false, inB_true, inB_false] at hqd); have hpd := hp; (try simp only [decide_eq_true_eq, decide_eq_false_iff_not, Bool.or_eq_true, Bool.or_eq_false_iff, Bool.and_eq_true, Bool.and_eq_false_iff, Bool.not_eq_true', Bool.not_eq_false', bne_iff_ne, beq_iff_eq, bne_eq_false_iff_eq, beq_eq_false_iff_ne, ne_eq, Bool.not_true, Bool.not_false, Bool.false_eq_true, Bool.true_eq_false, inB_true, inB_false] at hpd); exact ps_loads rfl (by exact rfl) (by exact rds_box 3 rfl) rfl rfl (by decide))) ?_; refine ok_mgg rfl rfl rfl rfl rfl (gT _) (fun hq hp hqp => by (have hqd := hq; (try simp only [decide_eq_true_eq, decide_eq_false_iff_not, Bool.or_eq_true, Bool.or_eq_false_iff, Bool.and_eq_true, Bool.and_eq_false_iff, Bool.not_eq_true', Bool.not_eq_false', bne_iff_ne, beq_iff_eq, bne_eq_false_iff_eq, beq_eq_false_iff_ne, ne_eq, Bool.not_true, Bool.not_false, Bool.false_eq_true, Bool.true_eq_false, inB_true, inB_false] at hqd); have hpd := hp; (try simp only [decide_eq_true_eq, decide_eq_false_iff_not, Bool.or_eq_true, Bool.or_eq_false_iff, Bool.and_eq_true, Bool.and_eq_false_iff, Bool.not_eq_true', Bool.not_eq_false', bne_iff_ne, beq_iff_eq, bne_eq_false_iff_eq, beq_eq_false_iff_ne, ne_eq, Bool.not_true, Bool.not_false, Bool.false_eq_true, Bool.true_eq_false, inB_true, inB_false] at hpd); exact ms_s1 rfl (by (refine og rfl ?_; assumption)) (fun _ _ w hw => i_show_e z t y30 (HTS.out (by simpa using hp)) w (Delta_of (hw.drop 4 rfl)) (by omega)))) ?_; refine ok_pgg rfl rfl rfl rfl rfl (gT _) (fun hq hp hqp => by (have hqd := hq; (try simp only [decide_eq_true_eq, decide_eq_false_iff_not, Bool.or_eq_true, Bool.or_eq_false_iff, Bool.and_eq_true, Bool.and_eq_false_iff, Bool.not_eq_true', Bool.not_eq_false', bne_iff_ne, beq_iff_eq, bne_eq_false_iff_eq, beq_eq_false_iff_ne, ne_eq, Bool.not_true, Bool.not_false, Bool.false_eq_true, Bool.true_eq_false, inB_true, inB_false] at hqd); have hpd := hp; (try simp only [decide_eq_true_eq, decide_eq_false_iff_not, Bool.or_eq_true, Bool.or_eq_false_iff, Bool.and_eq_true, Bool.and_eq_false_iff, Bool.not_eq_true', Bool.not_eq_false', bne_iff_ne, beq_iff_eq, bne_eq_false_iff_eq, beq_eq_false_iff_ne, ne_eq, Bool.not_true, Bool.not_false, Bool.false_eq_true, Bool.true_eq_false, inB_true, inB_false] at hpd); exact ps_move rfl (by exact rfl))) ?_; refine ok_pgg rfl rfl rfl rfl rfl (gT _) (fun hq hp hqp => by (have hqd := hq; (try simp only [decide_eq_true_eq, decide_eq_false_iff_not, Bool.or_eq_true, Bool.or_eq_false_iff, Bool.and_eq_true, Bool.and_eq_false_iff, Bool.not_eq_true', Bool.not_eq_false', bne_iff_ne, beq_iff_eq, bne_eq_false_iff_eq, beq_eq_false_iff_ne, ne_eq, Bool.not_true, Bool.not_false, Bool.false_eq_true, Bool.true_eq_false, inB_true, inB_false] at hqd); have hpd := hp; (try simp only [decide_eq_true_eq, decide_eq_false_iff_not, Bool.or_eq_true, Bool.or_eq_false_iff, Bool.and_eq_true, Bool.and_eq_false_iff, Bool.not_eq_true', Bool.not_eq_false', bne_iff_ne, beq_iff_eq, bne_eq_false_iff_eq, beq_eq_false_iff_ne, ne_eq, Bool.not_true, Bool.not_false, Bool.false_eq_true, Bool.true_eq_false, inB_true, inB_false] at hpd); exact ps_str rfl (by (refine og rfl ?_; assumption)) (by (refine og rfl ?_; assumption)) rfl)) ?_; refine ok_pg rfl rfl rfl rfl rfl (gF _) (fun hp => by (have hpd := hp; (try simp only [decide_eq_true_eq, decide_eq_false_iff_not, Bool.or_eq_true, Bool.or_eq_false_iff, Bool.and_eq_true, Bool.and_eq_false_iff, Bool.not_eq_true', Bool.not_eq_false', bne_iff_ne, beq_iff_eq, bne_eq_false_iff_eq, beq_eq_false_iff_ne, ne_eq, Bool.not_true, Bool.not_false, Bool.false_eq_true, Bool.true_eq_false, inB_true, inB_false] at hpd); exact ps_and_in (by assumption) rfl rfl rfl)) ?_; refine ok_p rfl rfl rfl (by exact ps_or rfl rfl rfl) ?_; refine ok_nil ?_; refine ok_env [(0, _), (64, _)] ⟨rfl, rfl, trivial⟩ ?_)
    | (refine ok_region (i := 10) ?_; refine ok_p rfl rfl rfl (by exact ps_assign rfl rfl) ?_; refine ok_nil ?_; refine ok_env [(2, _)] ⟨rfl, trivial⟩ ?_))
  · exfalso
    cases b <;> cases f <;> simp [sEq] at hd
  clear hc hd HTS ET HBK HRS ER htl htz hrl hsz hU hD
  refine ok_sel (H' := []) [] (by decide) rfl ?_
  repeat' ((fail_if_success (refine at_reg 13 ?_)); first
    | refine ok_seq ?_
    | (refine ok_region (i := 11) ?_; refine ok_p rfl rfl rfl (by exact ps_move rfl rfl) ?_; refine ok_m rfl rfl rfl (by exact ms_c1 rfl rfl (fun _ _ w hw => drawJoin_c A cp bs w (rds_rf h (by exact List.mem_cons_self) _ _ w hw) hl)) ?_; rintro y67 hy67; refine ok_p rfl rfl rfl (by exact ps_move rfl rfl) ?_; refine ok_p rfl rfl rfl (by exact ps_extract rfl rfl rfl) ?_; refine ok_p rfl rfl rfl (by exact ps_extract rfl rfl rfl) ?_; refine ok_m rfl rfl rfl (by exact ms_alloc rfl) ?_; rintro y12 hy12; refine ok_m rfl rfl rfl (by exact ms_alloc rfl) ?_; rintro y13 hy13; refine ok_m_ rfl rfl (by exact ms_store 1 rfl rfl rfl rfl rfl rfl rfl rfl) ?_; rintro y_ hy_; refine ok_m_ rfl rfl (by exact ms_store 0 rfl rfl rfl rfl rfl rfl rfl rfl) ?_; rintro y_ hy_; refine ok_nil ?_; refine ok_env [(0, _), (12, _), (13, _)] ⟨rfl, rfl, rfl, trivial⟩ ?_)
    | (refine ok_region (i := 12) ?_; refine ok_p rfl rfl rfl (by exact ps_move rfl rfl) ?_; refine ok_m rfl rfl rfl (by exact ms_c2 rfl rfl rfl (fun _ _ w hw => freshF_c A cp bs 2 (by omega) w (rds_rf h (by exact List.mem_cons_self) _ _ w hw) hl)) ?_; rintro y71 hy71; refine ok_m rfl rfl rfl (by exact ms_c1 rfl rfl (fun _ _ w hw => drawOk_c (y71 0).A (y71 0).c (yE (y71 1)) w (rds_row 0 rfl _ _ w hw) (by have := hy71.1; omega))) ?_; rintro y72 hy72; refine ok_m rfl rfl rfl (by exact ms_alloc rfl) ?_; rintro y14 hy14; refine ok_m_ rfl rfl (by exact ms_store 0 rfl rfl rfl rfl rfl rfl rfl rfl) ?_; rintro y_ hy_; refine ok_nil ?_; refine ok_env [(12, _), (13, _), (14, _)] ⟨rfl, rfl, rfl, trivial⟩ ?_))
  have ha := hy67.1
  have hb := hy67.2
  have hc := hy72
  clear hy67 hy72
  generalize (yE (y67 2) : List KV) = U1 at ha ⊢
  generalize (yE (y67 3) : List ByteArray) = D1 at ha ⊢
  generalize (yE (y67 7) : List KV) = U2 at hb ⊢
  generalize (yE (y67 8) : List ByteArray) = D2 at hb ⊢
  generalize (yE (y72 2) : List KV) = U3 at hc ⊢
  generalize (yE (y72 3) : List ByteArray) = D3 at hc ⊢
  have l1 := ha.1.1
  have l2 := ha.2.1
  have l3 := hb.1.1
  have l4 := hb.2.1
  have l5 := hc.1.1
  have l6 := hc.2.1
  have HA := Lib.hid ha; clear ha
  have HB := Lib.hid hb; clear hb
  have HC := Lib.hid hc; clear hc
  repeat' (first
    | refine ok_seq ?_
    | refine ok_then ?_
    | (refine ok_cond rfl (fun hc => ?_) (fun hc => ?_) <;> (have hd := hc; (try simp only [decide_eq_true_eq, decide_eq_false_iff_not, Bool.or_eq_true, Bool.or_eq_false_iff, Bool.and_eq_true, Bool.and_eq_false_iff, Bool.not_eq_true', Bool.not_eq_false', bne_iff_ne, beq_iff_eq, bne_eq_false_iff_eq, beq_eq_false_iff_ne, ne_eq, Bool.not_true, Bool.not_false, Bool.false_eq_true, Bool.true_eq_false, inB_true, inB_false] at hd)))
    | refine ok_skip ?_
    | (refine ok_region (i := 13) ?_; refine ok_p rfl rfl rfl (by exact ps_loads rfl rfl (by exact rds_box 5 rfl) rfl rfl (by decide)) ?_; refine ok_m rfl rfl rfl (by exact ms_s1 rfl rfl (fun _ _ w hw => s_dok_g (y67 0).A (y67 1).A (y67 0).c (y67 1).c U1 D1 _ rfl w (rds_row 6 rfl _ _ w hw) (rds_row 7 rfl _ _ w hw) (by omega) (by omega))) ?_; rintro y74 hy74; refine ok_p rfl rfl rfl (by exact ps_not rfl rfl) ?_; refine ok_p rfl rfl rfl (by exact ps_move rfl rfl) ?_; refine ok_pg rfl rfl rfl rfl rfl (gF _) (fun hp => by (have hpd := hp; (try simp only [decide_eq_true_eq, decide_eq_false_iff_not, Bool.or_eq_true, Bool.or_eq_false_iff, Bool.and_eq_true, Bool.and_eq_false_iff, Bool.not_eq_true', Bool.not_eq_false', bne_iff_ne, beq_iff_eq, bne_eq_false_iff_eq, beq_eq_false_iff_ne, ne_eq, Bool.not_true, Bool.not_false, Bool.false_eq_true, Bool.true_eq_false, inB_true, inB_false] at hpd); exact ps_loads rfl (by exact rfl) (by exact rds_box 4 rfl) rfl rfl (by decide))) ?_; refine ok_mg rfl rfl rfl rfl rfl (gF _) (fun hp => by (have hpd := hp; (try simp only [decide_eq_true_eq, decide_eq_false_iff_not, Bool.or_eq_true, Bool.or_eq_false_iff, Bool.and_eq_true, Bool.and_eq_false_iff, Bool.not_eq_true', Bool.not_eq_false', bne_iff_ne, beq_iff_eq, bne_eq_false_iff_eq, beq_eq_false_iff_ne, ne_eq, Bool.not_true, Bool.not_false, Bool.false_eq_true, Bool.true_eq_false, inB_true, inB_false] at hpd); exact ms_s1 rfl (by (refine og rfl ?_; assumption)) (fun _ _ w hw => s_dok_g (y67 5).A (y67 6).A (y67 5).c (y67 6).c U2 D2 _ rfl w (rds_row 8 rfl _ _ w hw) (rds_row 9 rfl _ _ w hw) (by omega) (by omega)))) ?_; refine ok_pg rfl rfl rfl rfl rfl (gF _) (fun hp => by (have hpd := hp; (try simp only [decide_eq_true_eq, decide_eq_false_iff_not, Bool.or_eq_true, Bool.or_eq_false_iff, Bool.and_eq_true, Bool.and_eq_false_iff, Bool.not_eq_true', Bool.not_eq_false', bne_iff_ne, beq_iff_eq, bne_eq_false_iff_eq, beq_eq_false_iff_ne, ne_eq, Bool.not_true, Bool.not_false, Bool.false_eq_true, Bool.true_eq_false, inB_true, inB_false] at hpd); exact ps_not rfl (by (refine og rfl ?_; assumption)))) ?_; refine ok_p rfl rfl rfl (by exact ps_or rfl rfl rfl) ?_; refine ok_p rfl rfl rfl (by exact ps_move rfl rfl) ?_; refine ok_pg rfl rfl rfl rfl rfl (gF _) (fun hp => by (have hpd := hp; (try simp only [decide_eq_true_eq, decide_eq_false_iff_not, Bool.or_eq_true, Bool.or_eq_false_iff, Bool.and_eq_true, Bool.and_eq_false_iff, Bool.not_eq_true', Bool.not_eq_false', bne_iff_ne, beq_iff_eq, bne_eq_false_iff_eq, beq_eq_false_iff_ne, ne_eq, Bool.not_true, Bool.not_false, Bool.false_eq_true, Bool.true_eq_false, inB_true, inB_false] at hpd); exact ps_loads rfl (by exact rfl) (by exact rds_box 0 rfl) rfl rfl (by decide))) ?_; refine ok_mg rfl rfl rfl rfl rfl (gF _) (fun hp => by (have hpd := hp; (try simp only [decide_eq_true_eq, decide_eq_false_iff_not, Bool.or_eq_true, Bool.or_eq_false_iff, Bool.and_eq_true, Bool.and_eq_false_iff, Bool.not_eq_true', Bool.not_eq_false', bne_iff_ne, beq_iff_eq, bne_eq_false_iff_eq, beq_eq_false_iff_ne, ne_eq, Bool.not_true, Bool.not_false, Bool.false_eq_true, Bool.true_eq_false, inB_true, inB_false] at hpd); exact ms_s1 rfl (by (refine og rfl ?_; assumption)) (fun _ _ w hw => s_dok_g (y72 0).A (y72 1).A (y72 0).c (y72 1).c U3 D3 _ rfl w (rds_row 1 rfl _ _ w hw) (rds_row 2 rfl _ _ w hw) (by omega) (by omega)))) ?_; refine ok_pg rfl rfl rfl rfl rfl (gF _) (fun hp => by (have hpd := hp; (try simp only [decide_eq_true_eq, decide_eq_false_iff_not, Bool.or_eq_true, Bool.or_eq_false_iff, Bool.and_eq_true, Bool.and_eq_false_iff, Bool.not_eq_true', Bool.not_eq_false', bne_iff_ne, beq_iff_eq, bne_eq_false_iff_eq, beq_eq_false_iff_ne, ne_eq, Bool.not_true, Bool.not_false, Bool.false_eq_true, Bool.true_eq_false, inB_true, inB_false] at hpd); exact ps_not rfl (by (refine og rfl ?_; assumption)))) ?_; refine ok_p rfl rfl rfl (by exact ps_or rfl rfl rfl) ?_; refine ok_nil ?_; refine ok_env [(12, _), (13, _), (14, _), (85, _)] ⟨rfl, rfl, rfl, rfl, trivial⟩ ?_))
  · have sa : Delta_sm (⟨U1, D1⟩ : DDelta) := d_sm HA.out (by omega)
    have sb : Delta_sm (⟨U2, D2⟩ : DDelta) := d_sm HB.out (by omega)
    have sc : Delta_sm (⟨U3, D3⟩ : DDelta) := d_sm HC.out (by omega)
    have fab := join_few (a := (⟨U1, D1⟩ : DDelta)) (b := (⟨U2, D2⟩ : DDelta)) HA.out HB.out
    have fbc := join_few (a := (⟨U2, D2⟩ : DDelta)) (b := (⟨U3, D3⟩ : DDelta)) HB.out HC.out
    have fabc := join_few (b := (⟨U3, D3⟩ : DDelta)) fab HC.out
    have fabc2 := join_few (a := (⟨U1, D1⟩ : DDelta)) HA.out fbc
    have LAB := Lib.hid (show (fJoinDelta (⟨U1, D1⟩ : DDelta) (⟨U2, D2⟩ : DDelta)).U.length ≤ 1048576 ∧ (fJoinDelta (⟨U1, D1⟩ : DDelta) (⟨U2, D2⟩ : DDelta)).D.length ≤ 1048576 from ⟨by have := fab.1.1; omega, by have := fab.2.1; omega⟩)
    have LABC := Lib.hid (show (fJoinDelta (fJoinDelta (⟨U1, D1⟩ : DDelta) (⟨U2, D2⟩ : DDelta)) (⟨U3, D3⟩ : DDelta)).U.length ≤ 1048576 ∧ (fJoinDelta (fJoinDelta (⟨U1, D1⟩ : DDelta) (⟨U2, D2⟩ : DDelta)) (⟨U3, D3⟩ : DDelta)).D.length ≤ 1048576 from ⟨by have := fabc.1.1; omega, by have := fabc.2.1; omega⟩)
    have LABC2 := Lib.hid (show (fJoinDelta (⟨U1, D1⟩ : DDelta) (fJoinDelta (⟨U2, D2⟩ : DDelta) (⟨U3, D3⟩ : DDelta))).U.length ≤ 1048576 ∧ (fJoinDelta (⟨U1, D1⟩ : DDelta) (fJoinDelta (⟨U2, D2⟩ : DDelta) (⟨U3, D3⟩ : DDelta))).D.length ≤ 1048576 from ⟨by have := fabc2.1.1; omega, by have := fabc2.2.1; omega⟩)
    have SAB := Lib.hid (d_sm fab (by omega))
    have SBC := Lib.hid (d_sm fbc (by omega))
    have SA := Lib.hid sa; clear sa
    have SB := Lib.hid sb; clear sb
    have SC := Lib.hid sc; clear sc
    clear fab fbc fabc fabc2
    refine ok_fam (id := 14) 10 rfl (by kernel_rfl) (by kernel_rfl) rfl (by repeat (first | exact pq_body | refine pq_then ?_ | refine pq_in ?_)) (by kernel_rfl) (by kernel_rfl) rfl (by kernel_rfl) (VL.at [(fun v (_ : World) => v = (.agg #[.slice (y67 0).A U1.length (y67 0).c, .slice (y67 1).A D1.length (y67 1).c])), (fun v (_ : World) => v = (.agg #[.slice (y67 5).A U2.length (y67 5).c, .slice (y67 6).A D2.length (y67 6).c])), (fun v (w : World) => ∃ y : Ys, v = Delta_val (fJoinDelta (⟨U1, D1⟩ : DDelta) (⟨U2, D2⟩ : DDelta)) y ∧ Delta_rd w (fJoinDelta (⟨U1, D1⟩ : DDelta) (⟨U2, D2⟩ : DDelta)) y), (fun v (_ : World) => v = (.string (fShowDelta (fJoinDelta (⟨U1, D1⟩ : DDelta) (⟨U2, D2⟩ : DDelta))))), (fun v (_ : World) => v = (.agg #[.slice (y67 0).A U1.length (y67 0).c, .slice (y67 1).A D1.length (y67 1).c])), (fun v (_ : World) => v = (.agg #[.slice (y67 5).A U2.length (y67 5).c, .slice (y67 6).A D2.length (y67 6).c])), (fun v (w : World) => ∃ y : Ys, v = Delta_val (fJoinDelta (⟨U1, D1⟩ : DDelta) (⟨U2, D2⟩ : DDelta)) y ∧ Delta_rd w (fJoinDelta (⟨U1, D1⟩ : DDelta) (⟨U2, D2⟩ : DDelta)) y), (fun v (_ : World) => v = (.string (fShowDelta (fJoinDelta (⟨U1, D1⟩ : DDelta) (⟨U2, D2⟩ : DDelta))))), (fun v (_ : World) => v = (.bool true)), (fun v (_ : World) => v = (.bool true))]) (VL.mono_at ?mono14) ⟨⟨⟨⟨⟨⟨⟨⟨⟨⟨trivial, ?s14_0⟩, ?s14_1⟩, ?s14_2⟩, ?s14_3⟩, ?s14_4⟩, ?s14_5⟩, ?s14_6⟩, ?s14_7⟩, ?s14_8⟩, ?s14_9⟩ ?fin14
    case s14_0 => (focus (refine fam_step rfl ?_; rintro a w he hw hD; exact fam_p rfl (fam_w rfl) he hw (by first | exact ps_loads rfl rfl (by first | exact rds_box 0 rfl | exact rds_box 1 rfl | exact rds_box 2 rfl | exact rds_box 3 rfl | exact rds_box 4 rfl | exact rds_box 5 rfl | exact rds_box 6 rfl | exact rds_box 7 rfl | exact rds_box 8 rfl | exact rds_box 9 rfl | exact rds_box 10 rfl | exact rds_box 11 rfl | exact rds_box 12 rfl | exact rds_box 13 rfl | exact rds_box 14 rfl | exact rds_box 15 rfl | exact rds_box 16 rfl | exact rds_box 17 rfl | exact rds_box 18 rfl | exact rds_box 19 rfl | exact rds_box 20 rfl | exact rds_box 21 rfl | exact rds_box 22 rfl | exact rds_box 23 rfl) rfl rfl (by first | decide | exact Nat.zero_lt_succ _) | exact ps_loadsF rfl rfl (by first | exact rds_row 0 rfl | exact rds_row 1 rfl | exact rds_row 2 rfl | exact rds_row 3 rfl | exact rds_row 4 rfl | exact rds_row 5 rfl | exact rds_row 6 rfl | exact rds_row 7 rfl | exact rds_row 8 rfl | exact rds_row 9 rfl | exact rds_row 10 rfl | exact rds_row 11 rfl | exact rds_row 12 rfl | exact rds_row 13 rfl | exact rds_row 14 rfl | exact rds_row 15 rfl | exact rds_row 16 rfl | exact rds_row 17 rfl | exact rds_row 18 rfl | exact rds_row 19 rfl | exact rds_row 20 rfl | exact rds_row 21 rfl | exact rds_row 22 rfl | exact rds_row 23 rfl | exact rds_rf (by assumption) (by first | exact List.mem_cons_self | exact List.mem_cons_of_mem _ List.mem_cons_self | simp)) (by rfl) (by rfl) (by omega) rfl) rfl))
    case s14_1 => (focus (refine fam_step rfl ?_; rintro a w he hw hD; exact fam_p rfl (fam_w rfl) he hw (by first | exact ps_loads rfl rfl (by first | exact rds_box 0 rfl | exact rds_box 1 rfl | exact rds_box 2 rfl | exact rds_box 3 rfl | exact rds_box 4 rfl | exact rds_box 5 rfl | exact rds_box 6 rfl | exact rds_box 7 rfl | exact rds_box 8 rfl | exact rds_box 9 rfl | exact rds_box 10 rfl | exact rds_box 11 rfl | exact rds_box 12 rfl | exact rds_box 13 rfl | exact rds_box 14 rfl | exact rds_box 15 rfl | exact rds_box 16 rfl | exact rds_box 17 rfl | exact rds_box 18 rfl | exact rds_box 19 rfl | exact rds_box 20 rfl | exact rds_box 21 rfl | exact rds_box 22 rfl | exact rds_box 23 rfl) rfl rfl (by first | decide | exact Nat.zero_lt_succ _) | exact ps_loadsF rfl rfl (by first | exact rds_row 0 rfl | exact rds_row 1 rfl | exact rds_row 2 rfl | exact rds_row 3 rfl | exact rds_row 4 rfl | exact rds_row 5 rfl | exact rds_row 6 rfl | exact rds_row 7 rfl | exact rds_row 8 rfl | exact rds_row 9 rfl | exact rds_row 10 rfl | exact rds_row 11 rfl | exact rds_row 12 rfl | exact rds_row 13 rfl | exact rds_row 14 rfl | exact rds_row 15 rfl | exact rds_row 16 rfl | exact rds_row 17 rfl | exact rds_row 18 rfl | exact rds_row 19 rfl | exact rds_row 20 rfl | exact rds_row 21 rfl | exact rds_row 22 rfl | exact rds_row 23 rfl | exact rds_rf (by assumption) (by first | exact List.mem_cons_self | exact List.mem_cons_of_mem _ List.mem_cons_self | simp)) (by rfl) (by rfl) (by omega) rfl) rfl))
    case s14_2 => (focus (refine fam_step rfl ?_; rintro a w he hw hD; obtain ⟨v86, t86, V86⟩ := hD 0 86 rfl rfl; obtain rfl : v86 = _ := V86; obtain ⟨v87, t87, V87⟩ := hD 1 87 rfl rfl; obtain rfl : v87 = _ := V87; exact fam_m rfl (fam_w rfl) ((he.add t86).add t87) hw (by exact ms_c2 rfl rfl rfl (fun _ _ w2 hw2 => i_join_o (y67 0).A (y67 1).A (y67 5).A (y67 6).A (y67 0).c (y67 1).c (y67 5).c (y67 6).c (⟨U1, D1⟩ : DDelta) (⟨U2, D2⟩ : DDelta) (SA.out) (SB.out) w2 (rds_rf (rds_row 6 rfl _ _ w hw) (by first | exact List.mem_cons_self | exact List.mem_cons_of_mem _ List.mem_cons_self | simp) _ _ w2 hw2) (rds_rf (rds_row 7 rfl _ _ w hw) (by first | exact List.mem_cons_self | exact List.mem_cons_of_mem _ List.mem_cons_self | simp) _ _ w2 hw2) (rds_rf (rds_row 8 rfl _ _ w hw) (by first | exact List.mem_cons_self | exact List.mem_cons_of_mem _ List.mem_cons_self | simp) _ _ w2 hw2) (rds_rf (rds_row 9 rfl _ _ w hw) (by first | exact List.mem_cons_self | exact List.mem_cons_of_mem _ List.mem_cons_self | simp) _ _ w2 hw2))) (fun y w2 _ hw2 => ⟨y, rfl, hw2.row 0 rfl, hw2.row 1 rfl⟩)))
    case s14_3 => (focus (refine fam_step rfl ?_; rintro a w he hw hD; obtain ⟨v88, t88, V88⟩ := hD 2 88 rfl rfl; obtain ⟨y88, rfl, hy88⟩ := V88; exact fam_m rfl (fam_w rfl) (he.add t88) hw (by exact ms_s1 rfl rfl (fun _ _ w2 hw2 => i_show_e (fJoinDelta (⟨U1, D1⟩ : DDelta) (⟨U2, D2⟩ : DDelta)) _ y88 rfl w2 (Delta_rf hy88 (by first | exact List.mem_cons_self | exact List.mem_cons_of_mem _ List.mem_cons_self | simp) hw2) (LAB.out))) (fun _ _ _ _ => rfl)))
    case s14_4 => (focus (refine fam_step rfl ?_; rintro a w he hw hD; exact fam_p rfl (fam_w rfl) he hw (by first | exact ps_loads rfl rfl (by first | exact rds_box 0 rfl | exact rds_box 1 rfl | exact rds_box 2 rfl | exact rds_box 3 rfl | exact rds_box 4 rfl | exact rds_box 5 rfl | exact rds_box 6 rfl | exact rds_box 7 rfl | exact rds_box 8 rfl | exact rds_box 9 rfl | exact rds_box 10 rfl | exact rds_box 11 rfl | exact rds_box 12 rfl | exact rds_box 13 rfl | exact rds_box 14 rfl | exact rds_box 15 rfl | exact rds_box 16 rfl | exact rds_box 17 rfl | exact rds_box 18 rfl | exact rds_box 19 rfl | exact rds_box 20 rfl | exact rds_box 21 rfl | exact rds_box 22 rfl | exact rds_box 23 rfl) rfl rfl (by first | decide | exact Nat.zero_lt_succ _) | exact ps_loadsF rfl rfl (by first | exact rds_row 0 rfl | exact rds_row 1 rfl | exact rds_row 2 rfl | exact rds_row 3 rfl | exact rds_row 4 rfl | exact rds_row 5 rfl | exact rds_row 6 rfl | exact rds_row 7 rfl | exact rds_row 8 rfl | exact rds_row 9 rfl | exact rds_row 10 rfl | exact rds_row 11 rfl | exact rds_row 12 rfl | exact rds_row 13 rfl | exact rds_row 14 rfl | exact rds_row 15 rfl | exact rds_row 16 rfl | exact rds_row 17 rfl | exact rds_row 18 rfl | exact rds_row 19 rfl | exact rds_row 20 rfl | exact rds_row 21 rfl | exact rds_row 22 rfl | exact rds_row 23 rfl | exact rds_rf (by assumption) (by first | exact List.mem_cons_self | exact List.mem_cons_of_mem _ List.mem_cons_self | simp)) (by rfl) (by rfl) (by omega) rfl) rfl))
    case s14_5 => (focus (refine fam_step rfl ?_; rintro a w he hw hD; exact fam_p rfl (fam_w rfl) he hw (by first | exact ps_loads rfl rfl (by first | exact rds_box 0 rfl | exact rds_box 1 rfl | exact rds_box 2 rfl | exact rds_box 3 rfl | exact rds_box 4 rfl | exact rds_box 5 rfl | exact rds_box 6 rfl | exact rds_box 7 rfl | exact rds_box 8 rfl | exact rds_box 9 rfl | exact rds_box 10 rfl | exact rds_box 11 rfl | exact rds_box 12 rfl | exact rds_box 13 rfl | exact rds_box 14 rfl | exact rds_box 15 rfl | exact rds_box 16 rfl | exact rds_box 17 rfl | exact rds_box 18 rfl | exact rds_box 19 rfl | exact rds_box 20 rfl | exact rds_box 21 rfl | exact rds_box 22 rfl | exact rds_box 23 rfl) rfl rfl (by first | decide | exact Nat.zero_lt_succ _) | exact ps_loadsF rfl rfl (by first | exact rds_row 0 rfl | exact rds_row 1 rfl | exact rds_row 2 rfl | exact rds_row 3 rfl | exact rds_row 4 rfl | exact rds_row 5 rfl | exact rds_row 6 rfl | exact rds_row 7 rfl | exact rds_row 8 rfl | exact rds_row 9 rfl | exact rds_row 10 rfl | exact rds_row 11 rfl | exact rds_row 12 rfl | exact rds_row 13 rfl | exact rds_row 14 rfl | exact rds_row 15 rfl | exact rds_row 16 rfl | exact rds_row 17 rfl | exact rds_row 18 rfl | exact rds_row 19 rfl | exact rds_row 20 rfl | exact rds_row 21 rfl | exact rds_row 22 rfl | exact rds_row 23 rfl | exact rds_rf (by assumption) (by first | exact List.mem_cons_self | exact List.mem_cons_of_mem _ List.mem_cons_self | simp)) (by rfl) (by rfl) (by omega) rfl) rfl))
    case s14_6 => (focus (refine fam_step rfl ?_; rintro a w he hw hD; obtain ⟨v90, t90, V90⟩ := hD 4 90 rfl rfl; obtain rfl : v90 = _ := V90; obtain ⟨v91, t91, V91⟩ := hD 5 91 rfl rfl; obtain rfl : v91 = _ := V91; exact fam_m rfl (fam_w rfl) ((he.add t90).add t91) hw (by exact ms_c2 rfl rfl rfl (fun _ _ w2 hw2 => s_join_o (y67 0).A (y67 1).A (y67 5).A (y67 6).A (y67 0).c (y67 1).c (y67 5).c (y67 6).c (⟨U1, D1⟩ : DDelta) (⟨U2, D2⟩ : DDelta) (SA.out) (SB.out) w2 (rds_rf (rds_row 6 rfl _ _ w hw) (by first | exact List.mem_cons_self | exact List.mem_cons_of_mem _ List.mem_cons_self | simp) _ _ w2 hw2) (rds_rf (rds_row 7 rfl _ _ w hw) (by first | exact List.mem_cons_self | exact List.mem_cons_of_mem _ List.mem_cons_self | simp) _ _ w2 hw2) (rds_rf (rds_row 8 rfl _ _ w hw) (by first | exact List.mem_cons_self | exact List.mem_cons_of_mem _ List.mem_cons_self | simp) _ _ w2 hw2) (rds_rf (rds_row 9 rfl _ _ w hw) (by first | exact List.mem_cons_self | exact List.mem_cons_of_mem _ List.mem_cons_self | simp) _ _ w2 hw2))) (fun y w2 _ hw2 => ⟨y, rfl, hw2.row 0 rfl, hw2.row 1 rfl⟩)))
    case s14_7 => (focus (refine fam_step rfl ?_; rintro a w he hw hD; obtain ⟨v92, t92, V92⟩ := hD 6 92 rfl rfl; obtain ⟨y92, rfl, hy92⟩ := V92; exact fam_m rfl (fam_w rfl) (he.add t92) hw (by exact ms_s1 rfl rfl (fun _ _ w2 hw2 => s_show_e (fJoinDelta (⟨U1, D1⟩ : DDelta) (⟨U2, D2⟩ : DDelta)) _ y92 rfl w2 (Delta_rf hy92 (by first | exact List.mem_cons_self | exact List.mem_cons_of_mem _ List.mem_cons_self | simp) hw2) (LAB.out))) (fun _ _ _ _ => rfl)))
    case s14_8 => (focus (refine fam_step rfl ?_; rintro a w he hw hD; obtain ⟨v89, t89, V89⟩ := hD 3 89 rfl rfl; obtain rfl : v89 = _ := V89; obtain ⟨v93, t93, V93⟩ := hD 7 93 rfl rfl; obtain rfl : v93 = _ := V93; exact fam_p rfl (fam_w rfl) ((he.add t89).add t93) hw (by first | exact ps_cast (v' := .bool true) (ps_str (v := .bool (sEq _ _)) rfl rfl rfl rfl) (congrArg Value.bool (sEqD _)) | exact ps_str rfl rfl rfl rfl) rfl))
    case s14_9 => (focus (refine fam_step rfl ?_; rintro a w he hw hD; obtain ⟨v94, t94, V94⟩ := hD 8 94 rfl rfl; obtain rfl : v94 = _ := V94; exact fam_p rfl (fam_w rfl) (he.add t94) hw (by exact ps_assign rfl rfl) rfl))
    case mono14 => exact ⟨(by first | exact mono_c _ | (rintro v w w2 ⟨y, h1, h2⟩ hb; exact ⟨y, h1, by first | exact below_rd hb h2 | exact h2⟩)), (by first | exact mono_c _ | (rintro v w w2 ⟨y, h1, h2⟩ hb; exact ⟨y, h1, by first | exact below_rd hb h2 | exact h2⟩)), (by first | exact mono_c _ | (rintro v w w2 ⟨y, h1, h2⟩ hb; exact ⟨y, h1, by first | exact below_rd hb h2 | exact h2⟩)), (by first | exact mono_c _ | (rintro v w w2 ⟨y, h1, h2⟩ hb; exact ⟨y, h1, by first | exact below_rd hb h2 | exact h2⟩)), (by first | exact mono_c _ | (rintro v w w2 ⟨y, h1, h2⟩ hb; exact ⟨y, h1, by first | exact below_rd hb h2 | exact h2⟩)), (by first | exact mono_c _ | (rintro v w w2 ⟨y, h1, h2⟩ hb; exact ⟨y, h1, by first | exact below_rd hb h2 | exact h2⟩)), (by first | exact mono_c _ | (rintro v w w2 ⟨y, h1, h2⟩ hb; exact ⟨y, h1, by first | exact below_rd hb h2 | exact h2⟩)), (by first | exact mono_c _ | (rintro v w w2 ⟨y, h1, h2⟩ hb; exact ⟨y, h1, by first | exact below_rd hb h2 | exact h2⟩)), (by first | exact mono_c _ | (rintro v w w2 ⟨y, h1, h2⟩ hb; exact ⟨y, h1, by first | exact below_rd hb h2 | exact h2⟩)), (by first | exact mono_c _ | (rintro v w w2 ⟨y, h1, h2⟩ hb; exact ⟨y, h1, by first | exact below_rd hb h2 | exact h2⟩)), trivial⟩
    case' fin14 => refine fam_fin1 9 2 rfl rfl (fun _ _ h => h) ?_
    refine ok_nil ?_
    refine ok_env [(2, _)] ⟨rfl, trivial⟩ ?_
    repeat' (first
      | refine ok_then ?_
      | refine ok_then_ret ?_
      | refine ok_ret ?_)
    exact ok_endL (vs := [_]) rfl ⟨rfl, trivial⟩ (fun w' hw => ⟨rfl, hw.below⟩)
  · have sa : Delta_sm (⟨U1, D1⟩ : DDelta) := d_sm HA.out (by omega)
    have sb : Delta_sm (⟨U2, D2⟩ : DDelta) := d_sm HB.out (by omega)
    have sc : Delta_sm (⟨U3, D3⟩ : DDelta) := d_sm HC.out (by omega)
    have fab := join_few (a := (⟨U1, D1⟩ : DDelta)) (b := (⟨U2, D2⟩ : DDelta)) HA.out HB.out
    have fbc := join_few (a := (⟨U2, D2⟩ : DDelta)) (b := (⟨U3, D3⟩ : DDelta)) HB.out HC.out
    have fabc := join_few (b := (⟨U3, D3⟩ : DDelta)) fab HC.out
    have fabc2 := join_few (a := (⟨U1, D1⟩ : DDelta)) HA.out fbc
    have LAB := Lib.hid (show (fJoinDelta (⟨U1, D1⟩ : DDelta) (⟨U2, D2⟩ : DDelta)).U.length ≤ 1048576 ∧ (fJoinDelta (⟨U1, D1⟩ : DDelta) (⟨U2, D2⟩ : DDelta)).D.length ≤ 1048576 from ⟨by have := fab.1.1; omega, by have := fab.2.1; omega⟩)
    have LABC := Lib.hid (show (fJoinDelta (fJoinDelta (⟨U1, D1⟩ : DDelta) (⟨U2, D2⟩ : DDelta)) (⟨U3, D3⟩ : DDelta)).U.length ≤ 1048576 ∧ (fJoinDelta (fJoinDelta (⟨U1, D1⟩ : DDelta) (⟨U2, D2⟩ : DDelta)) (⟨U3, D3⟩ : DDelta)).D.length ≤ 1048576 from ⟨by have := fabc.1.1; omega, by have := fabc.2.1; omega⟩)
    have LABC2 := Lib.hid (show (fJoinDelta (⟨U1, D1⟩ : DDelta) (fJoinDelta (⟨U2, D2⟩ : DDelta) (⟨U3, D3⟩ : DDelta))).U.length ≤ 1048576 ∧ (fJoinDelta (⟨U1, D1⟩ : DDelta) (fJoinDelta (⟨U2, D2⟩ : DDelta) (⟨U3, D3⟩ : DDelta))).D.length ≤ 1048576 from ⟨by have := fabc2.1.1; omega, by have := fabc2.2.1; omega⟩)
    have SAB := Lib.hid (d_sm fab (by omega))
    have SBC := Lib.hid (d_sm fbc (by omega))
    have SA := Lib.hid sa; clear sa
    have SB := Lib.hid sb; clear sb
    have SC := Lib.hid sc; clear sc
    clear fab fbc fabc fabc2
    have hk1 := hd.1.1
    have hk2 := hd.1.2
    have hk3 := hd.2
    have has := join_assoc (a := (⟨U1, D1⟩ : DDelta)) (b := (⟨U2, D2⟩ : DDelta)) (c := (⟨U3, D3⟩ : DDelta)) hk1 hk2 hk3
    have HAS := Lib.hid has; clear has
    refine ok_fam (id := 15) 25 rfl (by kernel_rfl) (by kernel_rfl) rfl (by repeat (first | exact pq_body | refine pq_then ?_ | refine pq_in ?_)) (by kernel_rfl) (by kernel_rfl) rfl (by kernel_rfl) (VL.at [(fun v (_ : World) => v = (.agg #[.slice (y67 0).A U1.length (y67 0).c, .slice (y67 1).A D1.length (y67 1).c])), (fun v (_ : World) => v = (.agg #[.slice (y67 5).A U2.length (y67 5).c, .slice (y67 6).A D2.length (y67 6).c])), (fun v (w : World) => ∃ y : Ys, v = Delta_val (fJoinDelta (⟨U1, D1⟩ : DDelta) (⟨U2, D2⟩ : DDelta)) y ∧ Delta_rd w (fJoinDelta (⟨U1, D1⟩ : DDelta) (⟨U2, D2⟩ : DDelta)) y), (fun v (_ : World) => v = (.agg #[.slice (y72 0).A U3.length (y72 0).c, .slice (y72 1).A D3.length (y72 1).c])), (fun v (w : World) => ∃ y : Ys, v = Delta_val (fJoinDelta (fJoinDelta (⟨U1, D1⟩ : DDelta) (⟨U2, D2⟩ : DDelta)) (⟨U3, D3⟩ : DDelta)) y ∧ Delta_rd w (fJoinDelta (fJoinDelta (⟨U1, D1⟩ : DDelta) (⟨U2, D2⟩ : DDelta)) (⟨U3, D3⟩ : DDelta)) y), (fun v (_ : World) => v = (.string (fShowDelta (fJoinDelta (fJoinDelta (⟨U1, D1⟩ : DDelta) (⟨U2, D2⟩ : DDelta)) (⟨U3, D3⟩ : DDelta))))), (fun v (_ : World) => v = (.agg #[.slice (y67 0).A U1.length (y67 0).c, .slice (y67 1).A D1.length (y67 1).c])), (fun v (_ : World) => v = (.agg #[.slice (y67 5).A U2.length (y67 5).c, .slice (y67 6).A D2.length (y67 6).c])), (fun v (_ : World) => v = (.agg #[.slice (y72 0).A U3.length (y72 0).c, .slice (y72 1).A D3.length (y72 1).c])), (fun v (w : World) => ∃ y : Ys, v = Delta_val (fJoinDelta (⟨U2, D2⟩ : DDelta) (⟨U3, D3⟩ : DDelta)) y ∧ Delta_rd w (fJoinDelta (⟨U2, D2⟩ : DDelta) (⟨U3, D3⟩ : DDelta)) y), (fun v (w : World) => ∃ y : Ys, v = Delta_val (fJoinDelta (⟨U1, D1⟩ : DDelta) (fJoinDelta (⟨U2, D2⟩ : DDelta) (⟨U3, D3⟩ : DDelta))) y ∧ Delta_rd w (fJoinDelta (⟨U1, D1⟩ : DDelta) (fJoinDelta (⟨U2, D2⟩ : DDelta) (⟨U3, D3⟩ : DDelta))) y), (fun v (_ : World) => v = (.string (fShowDelta (fJoinDelta (⟨U1, D1⟩ : DDelta) (fJoinDelta (⟨U2, D2⟩ : DDelta) (⟨U3, D3⟩ : DDelta)))))), (fun v (_ : World) => v = (.bool true)), (fun v (_ : World) => v = (.bool true)), (fun v (_ : World) => v = (.agg #[.slice (y67 0).A U1.length (y67 0).c, .slice (y67 1).A D1.length (y67 1).c])), (fun v (_ : World) => v = (.agg #[.slice (y67 5).A U2.length (y67 5).c, .slice (y67 6).A D2.length (y67 6).c])), (fun v (w : World) => ∃ y : Ys, v = Delta_val (fJoinDelta (⟨U1, D1⟩ : DDelta) (⟨U2, D2⟩ : DDelta)) y ∧ Delta_rd w (fJoinDelta (⟨U1, D1⟩ : DDelta) (⟨U2, D2⟩ : DDelta)) y), (fun v (_ : World) => v = (.string (fShowDelta (fJoinDelta (⟨U1, D1⟩ : DDelta) (⟨U2, D2⟩ : DDelta))))), (fun v (_ : World) => v = (.agg #[.slice (y67 0).A U1.length (y67 0).c, .slice (y67 1).A D1.length (y67 1).c])), (fun v (_ : World) => v = (.agg #[.slice (y67 5).A U2.length (y67 5).c, .slice (y67 6).A D2.length (y67 6).c])), (fun v (w : World) => ∃ y : Ys, v = Delta_val (fJoinDelta (⟨U1, D1⟩ : DDelta) (⟨U2, D2⟩ : DDelta)) y ∧ Delta_rd w (fJoinDelta (⟨U1, D1⟩ : DDelta) (⟨U2, D2⟩ : DDelta)) y), (fun v (_ : World) => v = (.string (fShowDelta (fJoinDelta (⟨U1, D1⟩ : DDelta) (⟨U2, D2⟩ : DDelta))))), (fun v (_ : World) => v = (.bool true)), (fun v (_ : World) => v = (.bool true)), (fun v (_ : World) => v = (.bool true))]) (VL.mono_at ?mono15) ⟨⟨⟨⟨⟨⟨⟨⟨⟨⟨⟨⟨⟨⟨⟨⟨⟨⟨⟨⟨⟨⟨⟨⟨⟨trivial, ?s15_0⟩, ?s15_1⟩, ?s15_2⟩, ?s15_3⟩, ?s15_4⟩, ?s15_5⟩, ?s15_6⟩, ?s15_7⟩, ?s15_8⟩, ?s15_9⟩, ?s15_10⟩, ?s15_11⟩, ?s15_12⟩, ?s15_13⟩, ?s15_14⟩, ?s15_15⟩, ?s15_16⟩, ?s15_17⟩, ?s15_18⟩, ?s15_19⟩, ?s15_20⟩, ?s15_21⟩, ?s15_22⟩, ?s15_23⟩, ?s15_24⟩ ?fin15
    case s15_0 => (focus (refine fam_step rfl ?_; rintro a w he hw hD; exact fam_p rfl (fam_w rfl) he hw (by first | exact ps_loads rfl rfl (by first | exact rds_box 0 rfl | exact rds_box 1 rfl | exact rds_box 2 rfl | exact rds_box 3 rfl | exact rds_box 4 rfl | exact rds_box 5 rfl | exact rds_box 6 rfl | exact rds_box 7 rfl | exact rds_box 8 rfl | exact rds_box 9 rfl | exact rds_box 10 rfl | exact rds_box 11 rfl | exact rds_box 12 rfl | exact rds_box 13 rfl | exact rds_box 14 rfl | exact rds_box 15 rfl | exact rds_box 16 rfl | exact rds_box 17 rfl | exact rds_box 18 rfl | exact rds_box 19 rfl | exact rds_box 20 rfl | exact rds_box 21 rfl | exact rds_box 22 rfl | exact rds_box 23 rfl) rfl rfl (by first | decide | exact Nat.zero_lt_succ _) | exact ps_loadsF rfl rfl (by first | exact rds_row 0 rfl | exact rds_row 1 rfl | exact rds_row 2 rfl | exact rds_row 3 rfl | exact rds_row 4 rfl | exact rds_row 5 rfl | exact rds_row 6 rfl | exact rds_row 7 rfl | exact rds_row 8 rfl | exact rds_row 9 rfl | exact rds_row 10 rfl | exact rds_row 11 rfl | exact rds_row 12 rfl | exact rds_row 13 rfl | exact rds_row 14 rfl | exact rds_row 15 rfl | exact rds_row 16 rfl | exact rds_row 17 rfl | exact rds_row 18 rfl | exact rds_row 19 rfl | exact rds_row 20 rfl | exact rds_row 21 rfl | exact rds_row 22 rfl | exact rds_row 23 rfl | exact rds_rf (by assumption) (by first | exact List.mem_cons_self | exact List.mem_cons_of_mem _ List.mem_cons_self | simp)) (by rfl) (by rfl) (by omega) rfl) rfl))
    case s15_1 => (focus (refine fam_step rfl ?_; rintro a w he hw hD; exact fam_p rfl (fam_w rfl) he hw (by first | exact ps_loads rfl rfl (by first | exact rds_box 0 rfl | exact rds_box 1 rfl | exact rds_box 2 rfl | exact rds_box 3 rfl | exact rds_box 4 rfl | exact rds_box 5 rfl | exact rds_box 6 rfl | exact rds_box 7 rfl | exact rds_box 8 rfl | exact rds_box 9 rfl | exact rds_box 10 rfl | exact rds_box 11 rfl | exact rds_box 12 rfl | exact rds_box 13 rfl | exact rds_box 14 rfl | exact rds_box 15 rfl | exact rds_box 16 rfl | exact rds_box 17 rfl | exact rds_box 18 rfl | exact rds_box 19 rfl | exact rds_box 20 rfl | exact rds_box 21 rfl | exact rds_box 22 rfl | exact rds_box 23 rfl) rfl rfl (by first | decide | exact Nat.zero_lt_succ _) | exact ps_loadsF rfl rfl (by first | exact rds_row 0 rfl | exact rds_row 1 rfl | exact rds_row 2 rfl | exact rds_row 3 rfl | exact rds_row 4 rfl | exact rds_row 5 rfl | exact rds_row 6 rfl | exact rds_row 7 rfl | exact rds_row 8 rfl | exact rds_row 9 rfl | exact rds_row 10 rfl | exact rds_row 11 rfl | exact rds_row 12 rfl | exact rds_row 13 rfl | exact rds_row 14 rfl | exact rds_row 15 rfl | exact rds_row 16 rfl | exact rds_row 17 rfl | exact rds_row 18 rfl | exact rds_row 19 rfl | exact rds_row 20 rfl | exact rds_row 21 rfl | exact rds_row 22 rfl | exact rds_row 23 rfl | exact rds_rf (by assumption) (by first | exact List.mem_cons_self | exact List.mem_cons_of_mem _ List.mem_cons_self | simp)) (by rfl) (by rfl) (by omega) rfl) rfl))
    case s15_2 => (focus (refine fam_step rfl ?_; rintro a w he hw hD; obtain ⟨v95, t95, V95⟩ := hD 0 95 rfl rfl; obtain rfl : v95 = _ := V95; obtain ⟨v96, t96, V96⟩ := hD 1 96 rfl rfl; obtain rfl : v96 = _ := V96; exact fam_m rfl (fam_w rfl) ((he.add t95).add t96) hw (by exact ms_c2 rfl rfl rfl (fun _ _ w2 hw2 => i_join_o (y67 0).A (y67 1).A (y67 5).A (y67 6).A (y67 0).c (y67 1).c (y67 5).c (y67 6).c (⟨U1, D1⟩ : DDelta) (⟨U2, D2⟩ : DDelta) (SA.out) (SB.out) w2 (rds_rf (rds_row 6 rfl _ _ w hw) (by first | exact List.mem_cons_self | exact List.mem_cons_of_mem _ List.mem_cons_self | simp) _ _ w2 hw2) (rds_rf (rds_row 7 rfl _ _ w hw) (by first | exact List.mem_cons_self | exact List.mem_cons_of_mem _ List.mem_cons_self | simp) _ _ w2 hw2) (rds_rf (rds_row 8 rfl _ _ w hw) (by first | exact List.mem_cons_self | exact List.mem_cons_of_mem _ List.mem_cons_self | simp) _ _ w2 hw2) (rds_rf (rds_row 9 rfl _ _ w hw) (by first | exact List.mem_cons_self | exact List.mem_cons_of_mem _ List.mem_cons_self | simp) _ _ w2 hw2))) (fun y w2 _ hw2 => ⟨y, rfl, hw2.row 0 rfl, hw2.row 1 rfl⟩)))
    case s15_3 => (focus (refine fam_step rfl ?_; rintro a w he hw hD; exact fam_p rfl (fam_w rfl) he hw (by first | exact ps_loads rfl rfl (by first | exact rds_box 0 rfl | exact rds_box 1 rfl | exact rds_box 2 rfl | exact rds_box 3 rfl | exact rds_box 4 rfl | exact rds_box 5 rfl | exact rds_box 6 rfl | exact rds_box 7 rfl | exact rds_box 8 rfl | exact rds_box 9 rfl | exact rds_box 10 rfl | exact rds_box 11 rfl | exact rds_box 12 rfl | exact rds_box 13 rfl | exact rds_box 14 rfl | exact rds_box 15 rfl | exact rds_box 16 rfl | exact rds_box 17 rfl | exact rds_box 18 rfl | exact rds_box 19 rfl | exact rds_box 20 rfl | exact rds_box 21 rfl | exact rds_box 22 rfl | exact rds_box 23 rfl) rfl rfl (by first | decide | exact Nat.zero_lt_succ _) | exact ps_loadsF rfl rfl (by first | exact rds_row 0 rfl | exact rds_row 1 rfl | exact rds_row 2 rfl | exact rds_row 3 rfl | exact rds_row 4 rfl | exact rds_row 5 rfl | exact rds_row 6 rfl | exact rds_row 7 rfl | exact rds_row 8 rfl | exact rds_row 9 rfl | exact rds_row 10 rfl | exact rds_row 11 rfl | exact rds_row 12 rfl | exact rds_row 13 rfl | exact rds_row 14 rfl | exact rds_row 15 rfl | exact rds_row 16 rfl | exact rds_row 17 rfl | exact rds_row 18 rfl | exact rds_row 19 rfl | exact rds_row 20 rfl | exact rds_row 21 rfl | exact rds_row 22 rfl | exact rds_row 23 rfl | exact rds_rf (by assumption) (by first | exact List.mem_cons_self | exact List.mem_cons_of_mem _ List.mem_cons_self | simp)) (by rfl) (by rfl) (by omega) rfl) rfl))
    case s15_4 => (focus (refine fam_step rfl ?_; rintro a w he hw hD; obtain ⟨v97, t97, V97⟩ := hD 2 97 rfl rfl; obtain ⟨y97, rfl, hy97⟩ := V97; obtain ⟨v98, t98, V98⟩ := hD 3 98 rfl rfl; obtain rfl : v98 = _ := V98; exact fam_m rfl (fam_w rfl) ((he.add t97).add t98) hw (by exact ms_c2 rfl rfl rfl (fun _ _ w2 hw2 => i_join_o (y97 0).A (y97 1).A (y72 0).A (y72 1).A (y97 0).c (y97 1).c (y72 0).c (y72 1).c (fJoinDelta (⟨U1, D1⟩ : DDelta) (⟨U2, D2⟩ : DDelta)) (⟨U3, D3⟩ : DDelta) (SAB.out) (SC.out) w2 (rds_rf hy97.1 (by first | exact List.mem_cons_self | exact List.mem_cons_of_mem _ List.mem_cons_self | simp) _ _ w2 hw2) (rds_rf hy97.2 (by first | exact List.mem_cons_self | exact List.mem_cons_of_mem _ List.mem_cons_self | simp) _ _ w2 hw2) (rds_rf (rds_row 1 rfl _ _ w hw) (by first | exact List.mem_cons_self | exact List.mem_cons_of_mem _ List.mem_cons_self | simp) _ _ w2 hw2) (rds_rf (rds_row 2 rfl _ _ w hw) (by first | exact List.mem_cons_self | exact List.mem_cons_of_mem _ List.mem_cons_self | simp) _ _ w2 hw2))) (fun y w2 _ hw2 => ⟨y, rfl, hw2.row 0 rfl, hw2.row 1 rfl⟩)))
    case s15_5 => (focus (refine fam_step rfl ?_; rintro a w he hw hD; obtain ⟨v99, t99, V99⟩ := hD 4 99 rfl rfl; obtain ⟨y99, rfl, hy99⟩ := V99; exact fam_m rfl (fam_w rfl) (he.add t99) hw (by exact ms_s1 rfl rfl (fun _ _ w2 hw2 => i_show_e (fJoinDelta (fJoinDelta (⟨U1, D1⟩ : DDelta) (⟨U2, D2⟩ : DDelta)) (⟨U3, D3⟩ : DDelta)) _ y99 rfl w2 (Delta_rf hy99 (by first | exact List.mem_cons_self | exact List.mem_cons_of_mem _ List.mem_cons_self | simp) hw2) (LABC.out))) (fun _ _ _ _ => rfl)))
    case s15_6 => (focus (refine fam_step rfl ?_; rintro a w he hw hD; exact fam_p rfl (fam_w rfl) he hw (by first | exact ps_loads rfl rfl (by first | exact rds_box 0 rfl | exact rds_box 1 rfl | exact rds_box 2 rfl | exact rds_box 3 rfl | exact rds_box 4 rfl | exact rds_box 5 rfl | exact rds_box 6 rfl | exact rds_box 7 rfl | exact rds_box 8 rfl | exact rds_box 9 rfl | exact rds_box 10 rfl | exact rds_box 11 rfl | exact rds_box 12 rfl | exact rds_box 13 rfl | exact rds_box 14 rfl | exact rds_box 15 rfl | exact rds_box 16 rfl | exact rds_box 17 rfl | exact rds_box 18 rfl | exact rds_box 19 rfl | exact rds_box 20 rfl | exact rds_box 21 rfl | exact rds_box 22 rfl | exact rds_box 23 rfl) rfl rfl (by first | decide | exact Nat.zero_lt_succ _) | exact ps_loadsF rfl rfl (by first | exact rds_row 0 rfl | exact rds_row 1 rfl | exact rds_row 2 rfl | exact rds_row 3 rfl | exact rds_row 4 rfl | exact rds_row 5 rfl | exact rds_row 6 rfl | exact rds_row 7 rfl | exact rds_row 8 rfl | exact rds_row 9 rfl | exact rds_row 10 rfl | exact rds_row 11 rfl | exact rds_row 12 rfl | exact rds_row 13 rfl | exact rds_row 14 rfl | exact rds_row 15 rfl | exact rds_row 16 rfl | exact rds_row 17 rfl | exact rds_row 18 rfl | exact rds_row 19 rfl | exact rds_row 20 rfl | exact rds_row 21 rfl | exact rds_row 22 rfl | exact rds_row 23 rfl | exact rds_rf (by assumption) (by first | exact List.mem_cons_self | exact List.mem_cons_of_mem _ List.mem_cons_self | simp)) (by rfl) (by rfl) (by omega) rfl) rfl))
    case s15_7 => (focus (refine fam_step rfl ?_; rintro a w he hw hD; exact fam_p rfl (fam_w rfl) he hw (by first | exact ps_loads rfl rfl (by first | exact rds_box 0 rfl | exact rds_box 1 rfl | exact rds_box 2 rfl | exact rds_box 3 rfl | exact rds_box 4 rfl | exact rds_box 5 rfl | exact rds_box 6 rfl | exact rds_box 7 rfl | exact rds_box 8 rfl | exact rds_box 9 rfl | exact rds_box 10 rfl | exact rds_box 11 rfl | exact rds_box 12 rfl | exact rds_box 13 rfl | exact rds_box 14 rfl | exact rds_box 15 rfl | exact rds_box 16 rfl | exact rds_box 17 rfl | exact rds_box 18 rfl | exact rds_box 19 rfl | exact rds_box 20 rfl | exact rds_box 21 rfl | exact rds_box 22 rfl | exact rds_box 23 rfl) rfl rfl (by first | decide | exact Nat.zero_lt_succ _) | exact ps_loadsF rfl rfl (by first | exact rds_row 0 rfl | exact rds_row 1 rfl | exact rds_row 2 rfl | exact rds_row 3 rfl | exact rds_row 4 rfl | exact rds_row 5 rfl | exact rds_row 6 rfl | exact rds_row 7 rfl | exact rds_row 8 rfl | exact rds_row 9 rfl | exact rds_row 10 rfl | exact rds_row 11 rfl | exact rds_row 12 rfl | exact rds_row 13 rfl | exact rds_row 14 rfl | exact rds_row 15 rfl | exact rds_row 16 rfl | exact rds_row 17 rfl | exact rds_row 18 rfl | exact rds_row 19 rfl | exact rds_row 20 rfl | exact rds_row 21 rfl | exact rds_row 22 rfl | exact rds_row 23 rfl | exact rds_rf (by assumption) (by first | exact List.mem_cons_self | exact List.mem_cons_of_mem _ List.mem_cons_self | simp)) (by rfl) (by rfl) (by omega) rfl) rfl))
    case s15_8 => (focus (refine fam_step rfl ?_; rintro a w he hw hD; exact fam_p rfl (fam_w rfl) he hw (by first | exact ps_loads rfl rfl (by first | exact rds_box 0 rfl | exact rds_box 1 rfl | exact rds_box 2 rfl | exact rds_box 3 rfl | exact rds_box 4 rfl | exact rds_box 5 rfl | exact rds_box 6 rfl | exact rds_box 7 rfl | exact rds_box 8 rfl | exact rds_box 9 rfl | exact rds_box 10 rfl | exact rds_box 11 rfl | exact rds_box 12 rfl | exact rds_box 13 rfl | exact rds_box 14 rfl | exact rds_box 15 rfl | exact rds_box 16 rfl | exact rds_box 17 rfl | exact rds_box 18 rfl | exact rds_box 19 rfl | exact rds_box 20 rfl | exact rds_box 21 rfl | exact rds_box 22 rfl | exact rds_box 23 rfl) rfl rfl (by first | decide | exact Nat.zero_lt_succ _) | exact ps_loadsF rfl rfl (by first | exact rds_row 0 rfl | exact rds_row 1 rfl | exact rds_row 2 rfl | exact rds_row 3 rfl | exact rds_row 4 rfl | exact rds_row 5 rfl | exact rds_row 6 rfl | exact rds_row 7 rfl | exact rds_row 8 rfl | exact rds_row 9 rfl | exact rds_row 10 rfl | exact rds_row 11 rfl | exact rds_row 12 rfl | exact rds_row 13 rfl | exact rds_row 14 rfl | exact rds_row 15 rfl | exact rds_row 16 rfl | exact rds_row 17 rfl | exact rds_row 18 rfl | exact rds_row 19 rfl | exact rds_row 20 rfl | exact rds_row 21 rfl | exact rds_row 22 rfl | exact rds_row 23 rfl | exact rds_rf (by assumption) (by first | exact List.mem_cons_self | exact List.mem_cons_of_mem _ List.mem_cons_self | simp)) (by rfl) (by rfl) (by omega) rfl) rfl))
    case s15_9 => (focus (refine fam_step rfl ?_; rintro a w he hw hD; obtain ⟨v102, t102, V102⟩ := hD 7 102 rfl rfl; obtain rfl : v102 = _ := V102; obtain ⟨v103, t103, V103⟩ := hD 8 103 rfl rfl; obtain rfl : v103 = _ := V103; exact fam_m rfl (fam_w rfl) ((he.add t102).add t103) hw (by exact ms_c2 rfl rfl rfl (fun _ _ w2 hw2 => i_join_o (y67 5).A (y67 6).A (y72 0).A (y72 1).A (y67 5).c (y67 6).c (y72 0).c (y72 1).c (⟨U2, D2⟩ : DDelta) (⟨U3, D3⟩ : DDelta) (SB.out) (SC.out) w2 (rds_rf (rds_row 8 rfl _ _ w hw) (by first | exact List.mem_cons_self | exact List.mem_cons_of_mem _ List.mem_cons_self | simp) _ _ w2 hw2) (rds_rf (rds_row 9 rfl _ _ w hw) (by first | exact List.mem_cons_self | exact List.mem_cons_of_mem _ List.mem_cons_self | simp) _ _ w2 hw2) (rds_rf (rds_row 1 rfl _ _ w hw) (by first | exact List.mem_cons_self | exact List.mem_cons_of_mem _ List.mem_cons_self | simp) _ _ w2 hw2) (rds_rf (rds_row 2 rfl _ _ w hw) (by first | exact List.mem_cons_self | exact List.mem_cons_of_mem _ List.mem_cons_self | simp) _ _ w2 hw2))) (fun y w2 _ hw2 => ⟨y, rfl, hw2.row 0 rfl, hw2.row 1 rfl⟩)))
    case s15_10 => (focus (refine fam_step rfl ?_; rintro a w he hw hD; obtain ⟨v101, t101, V101⟩ := hD 6 101 rfl rfl; obtain rfl : v101 = _ := V101; obtain ⟨v104, t104, V104⟩ := hD 9 104 rfl rfl; obtain ⟨y104, rfl, hy104⟩ := V104; exact fam_m rfl (fam_w rfl) ((he.add t101).add t104) hw (by exact ms_c2 rfl rfl rfl (fun _ _ w2 hw2 => i_join_o (y67 0).A (y67 1).A (y104 0).A (y104 1).A (y67 0).c (y67 1).c (y104 0).c (y104 1).c (⟨U1, D1⟩ : DDelta) (fJoinDelta (⟨U2, D2⟩ : DDelta) (⟨U3, D3⟩ : DDelta)) (SA.out) (SBC.out) w2 (rds_rf (rds_row 6 rfl _ _ w hw) (by first | exact List.mem_cons_self | exact List.mem_cons_of_mem _ List.mem_cons_self | simp) _ _ w2 hw2) (rds_rf (rds_row 7 rfl _ _ w hw) (by first | exact List.mem_cons_self | exact List.mem_cons_of_mem _ List.mem_cons_self | simp) _ _ w2 hw2) (rds_rf hy104.1 (by first | exact List.mem_cons_self | exact List.mem_cons_of_mem _ List.mem_cons_self | simp) _ _ w2 hw2) (rds_rf hy104.2 (by first | exact List.mem_cons_self | exact List.mem_cons_of_mem _ List.mem_cons_self | simp) _ _ w2 hw2))) (fun y w2 _ hw2 => ⟨y, rfl, hw2.row 0 rfl, hw2.row 1 rfl⟩)))
    case s15_11 => (focus (refine fam_step rfl ?_; rintro a w he hw hD; obtain ⟨v105, t105, V105⟩ := hD 10 105 rfl rfl; obtain ⟨y105, rfl, hy105⟩ := V105; exact fam_m rfl (fam_w rfl) (he.add t105) hw (by exact ms_s1 rfl rfl (fun _ _ w2 hw2 => i_show_e (fJoinDelta (⟨U1, D1⟩ : DDelta) (fJoinDelta (⟨U2, D2⟩ : DDelta) (⟨U3, D3⟩ : DDelta))) _ y105 rfl w2 (Delta_rf hy105 (by first | exact List.mem_cons_self | exact List.mem_cons_of_mem _ List.mem_cons_self | simp) hw2) (LABC2.out))) (fun _ _ _ _ => rfl)))
    case s15_12 => (focus (refine fam_step rfl ?_; rintro a w he hw hD; obtain ⟨v100, t100, V100⟩ := hD 5 100 rfl rfl; obtain rfl : v100 = _ := V100; obtain ⟨v106, t106, V106⟩ := hD 11 106 rfl rfl; obtain rfl : v106 = _ := V106; exact fam_p rfl (fam_w rfl) ((he.add t100).add t106) hw (by first | exact ps_cast (v' := .bool true) (ps_str (v := .bool (sEq _ _)) rfl rfl rfl rfl) (congrArg Value.bool (by rw [HAS.out]; exact sEqD _)) | exact ps_str rfl rfl rfl rfl) rfl))
    case s15_13 => (focus (refine fam_step rfl ?_; rintro a w he hw hD; obtain ⟨v107, t107, V107⟩ := hD 12 107 rfl rfl; obtain rfl : v107 = _ := V107; exact fam_p rfl (fam_w rfl) (he.add t107) hw (by exact ps_move rfl rfl) rfl))
    case s15_14 => (focus (refine fam_step rfl ?_; rintro a w he hw hD; obtain ⟨v108, t108, V108⟩ := hD 13 108 rfl rfl; obtain rfl : v108 = _ := V108; exact fam_p rfl (fam_g (he.add t108) rfl rfl rfl) (he.add t108) hw (by first | exact ps_loads rfl rfl (by first | exact rds_box 0 rfl | exact rds_box 1 rfl | exact rds_box 2 rfl | exact rds_box 3 rfl | exact rds_box 4 rfl | exact rds_box 5 rfl | exact rds_box 6 rfl | exact rds_box 7 rfl | exact rds_box 8 rfl | exact rds_box 9 rfl | exact rds_box 10 rfl | exact rds_box 11 rfl | exact rds_box 12 rfl | exact rds_box 13 rfl | exact rds_box 14 rfl | exact rds_box 15 rfl | exact rds_box 16 rfl | exact rds_box 17 rfl | exact rds_box 18 rfl | exact rds_box 19 rfl | exact rds_box 20 rfl | exact rds_box 21 rfl | exact rds_box 22 rfl | exact rds_box 23 rfl) rfl rfl (by first | decide | exact Nat.zero_lt_succ _) | exact ps_loadsF rfl rfl (by first | exact rds_row 0 rfl | exact rds_row 1 rfl | exact rds_row 2 rfl | exact rds_row 3 rfl | exact rds_row 4 rfl | exact rds_row 5 rfl | exact rds_row 6 rfl | exact rds_row 7 rfl | exact rds_row 8 rfl | exact rds_row 9 rfl | exact rds_row 10 rfl | exact rds_row 11 rfl | exact rds_row 12 rfl | exact rds_row 13 rfl | exact rds_row 14 rfl | exact rds_row 15 rfl | exact rds_row 16 rfl | exact rds_row 17 rfl | exact rds_row 18 rfl | exact rds_row 19 rfl | exact rds_row 20 rfl | exact rds_row 21 rfl | exact rds_row 22 rfl | exact rds_row 23 rfl | exact rds_rf (by assumption) (by first | exact List.mem_cons_self | exact List.mem_cons_of_mem _ List.mem_cons_self | simp)) (by rfl) (by rfl) (by omega) rfl) rfl))
    case s15_15 => (focus (refine fam_step rfl ?_; rintro a w he hw hD; obtain ⟨v108, t108, V108⟩ := hD 13 108 rfl rfl; obtain rfl : v108 = _ := V108; exact fam_p rfl (fam_g (he.add t108) rfl rfl rfl) (he.add t108) hw (by first | exact ps_loads rfl rfl (by first | exact rds_box 0 rfl | exact rds_box 1 rfl | exact rds_box 2 rfl | exact rds_box 3 rfl | exact rds_box 4 rfl | exact rds_box 5 rfl | exact rds_box 6 rfl | exact rds_box 7 rfl | exact rds_box 8 rfl | exact rds_box 9 rfl | exact rds_box 10 rfl | exact rds_box 11 rfl | exact rds_box 12 rfl | exact rds_box 13 rfl | exact rds_box 14 rfl | exact rds_box 15 rfl | exact rds_box 16 rfl | exact rds_box 17 rfl | exact rds_box 18 rfl | exact rds_box 19 rfl | exact rds_box 20 rfl | exact rds_box 21 rfl | exact rds_box 22 rfl | exact rds_box 23 rfl) rfl rfl (by first | decide | exact Nat.zero_lt_succ _) | exact ps_loadsF rfl rfl (by first | exact rds_row 0 rfl | exact rds_row 1 rfl | exact rds_row 2 rfl | exact rds_row 3 rfl | exact rds_row 4 rfl | exact rds_row 5 rfl | exact rds_row 6 rfl | exact rds_row 7 rfl | exact rds_row 8 rfl | exact rds_row 9 rfl | exact rds_row 10 rfl | exact rds_row 11 rfl | exact rds_row 12 rfl | exact rds_row 13 rfl | exact rds_row 14 rfl | exact rds_row 15 rfl | exact rds_row 16 rfl | exact rds_row 17 rfl | exact rds_row 18 rfl | exact rds_row 19 rfl | exact rds_row 20 rfl | exact rds_row 21 rfl | exact rds_row 22 rfl | exact rds_row 23 rfl | exact rds_rf (by assumption) (by first | exact List.mem_cons_self | exact List.mem_cons_of_mem _ List.mem_cons_self | simp)) (by rfl) (by rfl) (by omega) rfl) rfl))
    case s15_16 => (focus (refine fam_step rfl ?_; rintro a w he hw hD; obtain ⟨v109, t109, V109⟩ := hD 14 109 rfl rfl; obtain rfl : v109 = _ := V109; obtain ⟨v110, t110, V110⟩ := hD 15 110 rfl rfl; obtain rfl : v110 = _ := V110; obtain ⟨v108, t108, V108⟩ := hD 13 108 rfl rfl; obtain rfl : v108 = _ := V108; exact fam_m rfl (fam_g (((he.add t109).add t110).add t108) rfl rfl rfl) (((he.add t109).add t110).add t108) hw (by exact ms_c2 rfl rfl rfl (fun _ _ w2 hw2 => i_join_o (y67 0).A (y67 1).A (y67 5).A (y67 6).A (y67 0).c (y67 1).c (y67 5).c (y67 6).c (⟨U1, D1⟩ : DDelta) (⟨U2, D2⟩ : DDelta) (SA.out) (SB.out) w2 (rds_rf (rds_row 6 rfl _ _ w hw) (by first | exact List.mem_cons_self | exact List.mem_cons_of_mem _ List.mem_cons_self | simp) _ _ w2 hw2) (rds_rf (rds_row 7 rfl _ _ w hw) (by first | exact List.mem_cons_self | exact List.mem_cons_of_mem _ List.mem_cons_self | simp) _ _ w2 hw2) (rds_rf (rds_row 8 rfl _ _ w hw) (by first | exact List.mem_cons_self | exact List.mem_cons_of_mem _ List.mem_cons_self | simp) _ _ w2 hw2) (rds_rf (rds_row 9 rfl _ _ w hw) (by first | exact List.mem_cons_self | exact List.mem_cons_of_mem _ List.mem_cons_self | simp) _ _ w2 hw2))) (fun y w2 _ hw2 => ⟨y, rfl, hw2.row 0 rfl, hw2.row 1 rfl⟩)))
    case s15_17 => (focus (refine fam_step rfl ?_; rintro a w he hw hD; obtain ⟨v111, t111, V111⟩ := hD 16 111 rfl rfl; obtain ⟨y111, rfl, hy111⟩ := V111; obtain ⟨v108, t108, V108⟩ := hD 13 108 rfl rfl; obtain rfl : v108 = _ := V108; exact fam_m rfl (fam_g ((he.add t111).add t108) rfl rfl rfl) ((he.add t111).add t108) hw (by exact ms_s1 rfl rfl (fun _ _ w2 hw2 => i_show_e (fJoinDelta (⟨U1, D1⟩ : DDelta) (⟨U2, D2⟩ : DDelta)) _ y111 rfl w2 (Delta_rf hy111 (by first | exact List.mem_cons_self | exact List.mem_cons_of_mem _ List.mem_cons_self | simp) hw2) (LAB.out))) (fun _ _ _ _ => rfl)))
    case s15_18 => (focus (refine fam_step rfl ?_; rintro a w he hw hD; obtain ⟨v108, t108, V108⟩ := hD 13 108 rfl rfl; obtain rfl : v108 = _ := V108; exact fam_p rfl (fam_g (he.add t108) rfl rfl rfl) (he.add t108) hw (by first | exact ps_loads rfl rfl (by first | exact rds_box 0 rfl | exact rds_box 1 rfl | exact rds_box 2 rfl | exact rds_box 3 rfl | exact rds_box 4 rfl | exact rds_box 5 rfl | exact rds_box 6 rfl | exact rds_box 7 rfl | exact rds_box 8 rfl | exact rds_box 9 rfl | exact rds_box 10 rfl | exact rds_box 11 rfl | exact rds_box 12 rfl | exact rds_box 13 rfl | exact rds_box 14 rfl | exact rds_box 15 rfl | exact rds_box 16 rfl | exact rds_box 17 rfl | exact rds_box 18 rfl | exact rds_box 19 rfl | exact rds_box 20 rfl | exact rds_box 21 rfl | exact rds_box 22 rfl | exact rds_box 23 rfl) rfl rfl (by first | decide | exact Nat.zero_lt_succ _) | exact ps_loadsF rfl rfl (by first | exact rds_row 0 rfl | exact rds_row 1 rfl | exact rds_row 2 rfl | exact rds_row 3 rfl | exact rds_row 4 rfl | exact rds_row 5 rfl | exact rds_row 6 rfl | exact rds_row 7 rfl | exact rds_row 8 rfl | exact rds_row 9 rfl | exact rds_row 10 rfl | exact rds_row 11 rfl | exact rds_row 12 rfl | exact rds_row 13 rfl | exact rds_row 14 rfl | exact rds_row 15 rfl | exact rds_row 16 rfl | exact rds_row 17 rfl | exact rds_row 18 rfl | exact rds_row 19 rfl | exact rds_row 20 rfl | exact rds_row 21 rfl | exact rds_row 22 rfl | exact rds_row 23 rfl | exact rds_rf (by assumption) (by first | exact List.mem_cons_self | exact List.mem_cons_of_mem _ List.mem_cons_self | simp)) (by rfl) (by rfl) (by omega) rfl) rfl))
    case s15_19 => (focus (refine fam_step rfl ?_; rintro a w he hw hD; obtain ⟨v108, t108, V108⟩ := hD 13 108 rfl rfl; obtain rfl : v108 = _ := V108; exact fam_p rfl (fam_g (he.add t108) rfl rfl rfl) (he.add t108) hw (by first | exact ps_loads rfl rfl (by first | exact rds_box 0 rfl | exact rds_box 1 rfl | exact rds_box 2 rfl | exact rds_box 3 rfl | exact rds_box 4 rfl | exact rds_box 5 rfl | exact rds_box 6 rfl | exact rds_box 7 rfl | exact rds_box 8 rfl | exact rds_box 9 rfl | exact rds_box 10 rfl | exact rds_box 11 rfl | exact rds_box 12 rfl | exact rds_box 13 rfl | exact rds_box 14 rfl | exact rds_box 15 rfl | exact rds_box 16 rfl | exact rds_box 17 rfl | exact rds_box 18 rfl | exact rds_box 19 rfl | exact rds_box 20 rfl | exact rds_box 21 rfl | exact rds_box 22 rfl | exact rds_box 23 rfl) rfl rfl (by first | decide | exact Nat.zero_lt_succ _) | exact ps_loadsF rfl rfl (by first | exact rds_row 0 rfl | exact rds_row 1 rfl | exact rds_row 2 rfl | exact rds_row 3 rfl | exact rds_row 4 rfl | exact rds_row 5 rfl | exact rds_row 6 rfl | exact rds_row 7 rfl | exact rds_row 8 rfl | exact rds_row 9 rfl | exact rds_row 10 rfl | exact rds_row 11 rfl | exact rds_row 12 rfl | exact rds_row 13 rfl | exact rds_row 14 rfl | exact rds_row 15 rfl | exact rds_row 16 rfl | exact rds_row 17 rfl | exact rds_row 18 rfl | exact rds_row 19 rfl | exact rds_row 20 rfl | exact rds_row 21 rfl | exact rds_row 22 rfl | exact rds_row 23 rfl | exact rds_rf (by assumption) (by first | exact List.mem_cons_self | exact List.mem_cons_of_mem _ List.mem_cons_self | simp)) (by rfl) (by rfl) (by omega) rfl) rfl))
    case s15_20 => (focus (refine fam_step rfl ?_; rintro a w he hw hD; obtain ⟨v113, t113, V113⟩ := hD 18 113 rfl rfl; obtain rfl : v113 = _ := V113; obtain ⟨v114, t114, V114⟩ := hD 19 114 rfl rfl; obtain rfl : v114 = _ := V114; obtain ⟨v108, t108, V108⟩ := hD 13 108 rfl rfl; obtain rfl : v108 = _ := V108; exact fam_m rfl (fam_g (((he.add t113).add t114).add t108) rfl rfl rfl) (((he.add t113).add t114).add t108) hw (by exact ms_c2 rfl rfl rfl (fun _ _ w2 hw2 => s_join_o (y67 0).A (y67 1).A (y67 5).A (y67 6).A (y67 0).c (y67 1).c (y67 5).c (y67 6).c (⟨U1, D1⟩ : DDelta) (⟨U2, D2⟩ : DDelta) (SA.out) (SB.out) w2 (rds_rf (rds_row 6 rfl _ _ w hw) (by first | exact List.mem_cons_self | exact List.mem_cons_of_mem _ List.mem_cons_self | simp) _ _ w2 hw2) (rds_rf (rds_row 7 rfl _ _ w hw) (by first | exact List.mem_cons_self | exact List.mem_cons_of_mem _ List.mem_cons_self | simp) _ _ w2 hw2) (rds_rf (rds_row 8 rfl _ _ w hw) (by first | exact List.mem_cons_self | exact List.mem_cons_of_mem _ List.mem_cons_self | simp) _ _ w2 hw2) (rds_rf (rds_row 9 rfl _ _ w hw) (by first | exact List.mem_cons_self | exact List.mem_cons_of_mem _ List.mem_cons_self | simp) _ _ w2 hw2))) (fun y w2 _ hw2 => ⟨y, rfl, hw2.row 0 rfl, hw2.row 1 rfl⟩)))
    case s15_21 => (focus (refine fam_step rfl ?_; rintro a w he hw hD; obtain ⟨v115, t115, V115⟩ := hD 20 115 rfl rfl; obtain ⟨y115, rfl, hy115⟩ := V115; obtain ⟨v108, t108, V108⟩ := hD 13 108 rfl rfl; obtain rfl : v108 = _ := V108; exact fam_m rfl (fam_g ((he.add t115).add t108) rfl rfl rfl) ((he.add t115).add t108) hw (by exact ms_s1 rfl rfl (fun _ _ w2 hw2 => s_show_e (fJoinDelta (⟨U1, D1⟩ : DDelta) (⟨U2, D2⟩ : DDelta)) _ y115 rfl w2 (Delta_rf hy115 (by first | exact List.mem_cons_self | exact List.mem_cons_of_mem _ List.mem_cons_self | simp) hw2) (LAB.out))) (fun _ _ _ _ => rfl)))
    case s15_22 => (focus (refine fam_step rfl ?_; rintro a w he hw hD; obtain ⟨v112, t112, V112⟩ := hD 17 112 rfl rfl; obtain rfl : v112 = _ := V112; obtain ⟨v116, t116, V116⟩ := hD 21 116 rfl rfl; obtain rfl : v116 = _ := V116; obtain ⟨v108, t108, V108⟩ := hD 13 108 rfl rfl; obtain rfl : v108 = _ := V108; exact fam_p rfl (fam_g (((he.add t112).add t116).add t108) rfl rfl rfl) (((he.add t112).add t116).add t108) hw (by first | exact ps_cast (v' := .bool true) (ps_str (v := .bool (sEq _ _)) rfl rfl rfl rfl) (congrArg Value.bool (sEqD _)) | exact ps_str rfl rfl rfl rfl) rfl))
    case s15_23 => (focus (refine fam_step rfl ?_; rintro a w he hw hD; obtain ⟨v108, t108, V108⟩ := hD 13 108 rfl rfl; obtain rfl : v108 = _ := V108; obtain ⟨v117, t117, V117⟩ := hD 22 117 rfl rfl; obtain rfl : v117 = _ := V117; exact fam_p rfl (fam_w rfl) ((he.add t108).add t117) hw (by first | exact ps_and rfl rfl rfl | exact ps_and_in (by assumption) rfl rfl rfl | exact ps_pick_t rfl rfl (by simp_all; done) rfl | exact ps_pick_f rfl rfl (by simp_all; done) rfl) rfl))
    case s15_24 => (focus (refine fam_step rfl ?_; rintro a w he hw hD; obtain ⟨v118, t118, V118⟩ := hD 23 118 rfl rfl; obtain rfl : v118 = _ := V118; exact fam_p rfl (fam_w rfl) (he.add t118) hw (by exact ps_assign rfl rfl) rfl))
    case mono15 => exact ⟨(by first | exact mono_c _ | (rintro v w w2 ⟨y, h1, h2⟩ hb; exact ⟨y, h1, by first | exact below_rd hb h2 | exact h2⟩)), (by first | exact mono_c _ | (rintro v w w2 ⟨y, h1, h2⟩ hb; exact ⟨y, h1, by first | exact below_rd hb h2 | exact h2⟩)), (by first | exact mono_c _ | (rintro v w w2 ⟨y, h1, h2⟩ hb; exact ⟨y, h1, by first | exact below_rd hb h2 | exact h2⟩)), (by first | exact mono_c _ | (rintro v w w2 ⟨y, h1, h2⟩ hb; exact ⟨y, h1, by first | exact below_rd hb h2 | exact h2⟩)), (by first | exact mono_c _ | (rintro v w w2 ⟨y, h1, h2⟩ hb; exact ⟨y, h1, by first | exact below_rd hb h2 | exact h2⟩)), (by first | exact mono_c _ | (rintro v w w2 ⟨y, h1, h2⟩ hb; exact ⟨y, h1, by first | exact below_rd hb h2 | exact h2⟩)), (by first | exact mono_c _ | (rintro v w w2 ⟨y, h1, h2⟩ hb; exact ⟨y, h1, by first | exact below_rd hb h2 | exact h2⟩)), (by first | exact mono_c _ | (rintro v w w2 ⟨y, h1, h2⟩ hb; exact ⟨y, h1, by first | exact below_rd hb h2 | exact h2⟩)), (by first | exact mono_c _ | (rintro v w w2 ⟨y, h1, h2⟩ hb; exact ⟨y, h1, by first | exact below_rd hb h2 | exact h2⟩)), (by first | exact mono_c _ | (rintro v w w2 ⟨y, h1, h2⟩ hb; exact ⟨y, h1, by first | exact below_rd hb h2 | exact h2⟩)), (by first | exact mono_c _ | (rintro v w w2 ⟨y, h1, h2⟩ hb; exact ⟨y, h1, by first | exact below_rd hb h2 | exact h2⟩)), (by first | exact mono_c _ | (rintro v w w2 ⟨y, h1, h2⟩ hb; exact ⟨y, h1, by first | exact below_rd hb h2 | exact h2⟩)), (by first | exact mono_c _ | (rintro v w w2 ⟨y, h1, h2⟩ hb; exact ⟨y, h1, by first | exact below_rd hb h2 | exact h2⟩)), (by first | exact mono_c _ | (rintro v w w2 ⟨y, h1, h2⟩ hb; exact ⟨y, h1, by first | exact below_rd hb h2 | exact h2⟩)), (by first | exact mono_c _ | (rintro v w w2 ⟨y, h1, h2⟩ hb; exact ⟨y, h1, by first | exact below_rd hb h2 | exact h2⟩)), (by first | exact mono_c _ | (rintro v w w2 ⟨y, h1, h2⟩ hb; exact ⟨y, h1, by first | exact below_rd hb h2 | exact h2⟩)), (by first | exact mono_c _ | (rintro v w w2 ⟨y, h1, h2⟩ hb; exact ⟨y, h1, by first | exact below_rd hb h2 | exact h2⟩)), (by first | exact mono_c _ | (rintro v w w2 ⟨y, h1, h2⟩ hb; exact ⟨y, h1, by first | exact below_rd hb h2 | exact h2⟩)), (by first | exact mono_c _ | (rintro v w w2 ⟨y, h1, h2⟩ hb; exact ⟨y, h1, by first | exact below_rd hb h2 | exact h2⟩)), (by first | exact mono_c _ | (rintro v w w2 ⟨y, h1, h2⟩ hb; exact ⟨y, h1, by first | exact below_rd hb h2 | exact h2⟩)), (by first | exact mono_c _ | (rintro v w w2 ⟨y, h1, h2⟩ hb; exact ⟨y, h1, by first | exact below_rd hb h2 | exact h2⟩)), (by first | exact mono_c _ | (rintro v w w2 ⟨y, h1, h2⟩ hb; exact ⟨y, h1, by first | exact below_rd hb h2 | exact h2⟩)), (by first | exact mono_c _ | (rintro v w w2 ⟨y, h1, h2⟩ hb; exact ⟨y, h1, by first | exact below_rd hb h2 | exact h2⟩)), (by first | exact mono_c _ | (rintro v w w2 ⟨y, h1, h2⟩ hb; exact ⟨y, h1, by first | exact below_rd hb h2 | exact h2⟩)), (by first | exact mono_c _ | (rintro v w w2 ⟨y, h1, h2⟩ hb; exact ⟨y, h1, by first | exact below_rd hb h2 | exact h2⟩)), trivial⟩
    case' fin15 => refine fam_fin1 24 2 rfl rfl (fun _ _ h => h) ?_
    refine ok_nil ?_
    refine ok_env [(2, _)] ⟨rfl, trivial⟩ ?_
    repeat' (first
      | refine ok_then ?_
      | refine ok_ret ?_)
    exact ok_endL (vs := [_]) rfl ⟨rfl, trivial⟩ (fun w' hw => ⟨rfl, hw.below⟩)
end Go.Proofs.Ytbegbdfbfbkflaa
/- The walk of FnDelta. -/
namespace Go.Proofs.Ytbegbdfbfbkflaa
open Go.RowKit
theorem FnDelta_walk (w : World) (v : Value) (x : gCode.den) (hx : RdT w gCode x [v]) :
    Calls Try.prog 10 #[v] w fun e w' => e = .returned (.bool true) ∧ Below w.heap.size w w' := by
  obtain ⟨A, c, l, rfl, h⟩ := code_open hx
  exact FnDelta_e A c l w h
end Go.Proofs.Ytbegbdfbfbkflaa
/- The head of a cut program, and the facts of a row that hang on it: each by itself, so that the kernel's memory stays small. -/
namespace Go.Proofs.Ytbegbdfbfbkflaa
open Go.RowKit
set_option maxRecDepth 100000
section
variable (P : Program) (rest : List (List Char)) (h : behindMainWord (wordsSigns P.initOrder.toList) = ['c', 'u', 't'] :: rest)
include h
theorem make_cut : P.make = some .cut := by
  unfold Program.make
  rw [h]
  simp
theorem lifts_cut : P.headLifts = [] := by
  unfold Program.headLifts
  rw [h]
  have : stripLifts liftWords (['c', 'u', 't'] :: rest) = ([], ['c', 'u', 't'] :: rest) := by
    simp [liftWords, stripLifts]
  rw [this]
  simp
theorem final_cut : P.liftsFinal = false := by
  unfold Program.liftsFinal
  rw [lifts_cut P rest h]
  simp [h]
theorem enter_cut (h1 : P.laysLater = false) (h2 : P.bearsReflect = false) (h3 : P.doorFits [] = true) : P.mayEnter = true := by
  unfold Program.mayEnter
  have : stripLifts liftWords (['c', 'u', 't'] :: rest) = ([], ['c', 'u', 't'] :: rest) := by
    simp [liftWords, stripLifts]
  rw [h]
  simp [this, h1, h2, h3]
end
def ioL : List Char := ['h', 'a', 'r', 'n', 'e', 's', 's', ' ', 'e', 'e', '5', '8', '6', '6', 'f', '3', 'f', '6', '6', '2', '6', 'f', '5', 'c', '4', '3', 'f', '5', '0', '8', '1', '9', 'd', '5', '7', '6', 'a', 'b', '9', 'a', 'f', '6', '5', 'f', 'f', 'f', '4', 'd', 'c', '8', 'b', 'b', 'e', 'b', '8', 'e', 'e', 'd', '1', 'e', '2', '3', 'b', '4', '3', 'c', '3', 'e', '0', '4', '6', '3', ' ', 'c', 'u', 't', ' ', 'a', 't', ' ', 'l', 'o', 'o', 'p', '.', 'e', 'x', 'a', 'm', 'p', 'l', 'e', '/', 'g', '0', '0', '9', '5', '0', '/', 'l', 'a', 'w', 's', '.', 'F', 'n', 'C', 'h', 'a', 'i', 'n', 'L', 'o', 'g', ' ', 'l', 'o', 'o', 'p', '.', 'e', 'x', 'a', 'm', 'p', 'l', 'e', '/', 'g', '0', '0', '9', '5', '0', '/', 'l', 'a', 'w', 's', '.', 'F', 'n', 'F', 'S', 't', 'o', 'r', 'e', ' ', 'l', 'o', 'o', 'p', '.', 'e', 'x', 'a', 'm', 'p', 'l', 'e', '/', 'g', '0', '0', '9', '5', '0', '/', 'l', 'a', 'w', 's', '.', 'F', 'n', 'F', 'i', 'l', 'e', 'd', ' ', 'l', 'o', 'o', 'p', '.', 'e', 'x', 'a', 'm', 'p', 'l', 'e', '/', 'g', '0', '0', '9', '5', '0', '/', 'l', 'a', 'w', 's', '.', 'F', 'n', 'W', 'a', 'l', 'k', ' ', 'l', 'o', 'o', 'p', '.', 'e', 'x', 'a', 'm', 'p', 'l', 'e', '/', 'g', '0', '0', '9', '5', '0', '/', 'l', 'a', 'w', 's', '.', 'F', 'n', 'E', 'x', 'a', 'c', 't', 'W', 'a', 'l', 'k', 'S', 'e', 'e', 'k', ' ', 'l', 'o', 'o', 'p', '.', 'e', 'x', 'a', 'm', 'p', 'l', 'e', '/', 'g', '0', '0', '9', '5', '0', '/', 'l', 'a', 'w', 's', '.', 'F', 'n', 'E', 'x', 'a', 'c', 't', 'W', 'a', 'l', 'k', 'P', 'r', 'e', 'v', ' ', 'l', 'o', 'o', 'p', '.', 'e', 'x', 'a', 'm', 'p', 'l', 'e', '/', 'g', '0', '0', '9', '5', '0', '/', 'l', 'a', 'w', 's', '.', 'F', 'n', 'E', 'x', 'a', 'c', 't', 'W', 'a', 'l', 'k', 'N', 'e', 'x', 't', ' ', 'l', 'o', 'o', 'p', '.', 'e', 'x', 'a', 'm', 'p', 'l', 'e', '/', 'g', '0', '0', '9', '5', '0', '/', 'l', 'a', 'w', 's', '.', 'F', 'n', 'D', 'e', 'l', 't', 'a']
theorem io : Try.prog.initOrder.toList = ioL := by
  show (String.ofList ioL).toList = ioL
  exact String.toList_ofList
def ioR : List (List Char) := [['a', 't'], ['l', 'o', 'o', 'p', '.', 'e', 'x', 'a', 'm', 'p', 'l', 'e', '/', 'g', '0', '0', '9', '5', '0', '/', 'l', 'a', 'w', 's', '.', 'F', 'n', 'C', 'h', 'a', 'i', 'n', 'L', 'o', 'g'], ['l', 'o', 'o', 'p', '.', 'e', 'x', 'a', 'm', 'p', 'l', 'e', '/', 'g', '0', '0', '9', '5', '0', '/', 'l', 'a', 'w', 's', '.', 'F', 'n', 'F', 'S', 't', 'o', 'r', 'e'], ['l', 'o', 'o', 'p', '.', 'e', 'x', 'a', 'm', 'p', 'l', 'e', '/', 'g', '0', '0', '9', '5', '0', '/', 'l', 'a', 'w', 's', '.', 'F', 'n', 'F', 'i', 'l', 'e', 'd'], ['l', 'o', 'o', 'p', '.', 'e', 'x', 'a', 'm', 'p', 'l', 'e', '/', 'g', '0', '0', '9', '5', '0', '/', 'l', 'a', 'w', 's', '.', 'F', 'n', 'W', 'a', 'l', 'k'], ['l', 'o', 'o', 'p', '.', 'e', 'x', 'a', 'm', 'p', 'l', 'e', '/', 'g', '0', '0', '9', '5', '0', '/', 'l', 'a', 'w', 's', '.', 'F', 'n', 'E', 'x', 'a', 'c', 't', 'W', 'a', 'l', 'k', 'S', 'e', 'e', 'k'], ['l', 'o', 'o', 'p', '.', 'e', 'x', 'a', 'm', 'p', 'l', 'e', '/', 'g', '0', '0', '9', '5', '0', '/', 'l', 'a', 'w', 's', '.', 'F', 'n', 'E', 'x', 'a', 'c', 't', 'W', 'a', 'l', 'k', 'P', 'r', 'e', 'v'], ['l', 'o', 'o', 'p', '.', 'e', 'x', 'a', 'm', 'p', 'l', 'e', '/', 'g', '0', '0', '9', '5', '0', '/', 'l', 'a', 'w', 's', '.', 'F', 'n', 'E', 'x', 'a', 'c', 't', 'W', 'a', 'l', 'k', 'N', 'e', 'x', 't'], ['l', 'o', 'o', 'p', '.', 'e', 'x', 'a', 'm', 'p', 'l', 'e', '/', 'g', '0', '0', '9', '5', '0', '/', 'l', 'a', 'w', 's', '.', 'F', 'n', 'D', 'e', 'l', 't', 'a']]
theorem words : behindMainWord (wordsSigns Try.prog.initOrder.toList) = ['c', 'u', 't'] :: ioR := by
  rw [io]; kernel_rfl
theorem jLater : Try.prog.laysLater = false := by kernel_rfl
theorem jRefl : Try.prog.bearsReflect = false := by kernel_rfl
theorem jDoor : Try.prog.doorFits [] = true := by kernel_rfl
theorem jEnter : Try.prog.mayEnter = true := enter_cut _ _ words jLater jRefl jDoor
theorem jFinal : Try.prog.liftsFinal = false := final_cut _ _ words
theorem jMake : Try.prog.make = some .cut := make_cut _ _ words
end Go.Proofs.Ytbegbdfbfbkflaa
