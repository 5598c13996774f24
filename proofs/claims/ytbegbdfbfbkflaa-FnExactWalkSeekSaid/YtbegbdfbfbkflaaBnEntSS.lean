/- Rows of rows of Ent: size, copy, comparison, marks. -/
import Derived.Test.YtbegbdfbfbkflaaNst
import Derived.Test.YtbegbdfbfbkflaaBfEnt
import Derived.Test.YtbegbdfbfbkflaaFlEnt
import Derived.Test.YtbegbdfbfbkflaaEng11
namespace Go.Proofs.Ytbegbdfbfbkflaa
open Go.RowKit
set_option maxHeartbeats 4000000
set_option maxRecDepth 20000
set_option linter.unusedVariables false
set_option linter.unusedSimpArgs false
attribute [local irreducible] Calls
abbrev LE := Lc (List Ent)
instance : OneC Ent := ⟨fun x u hu => by
  have : u = .string x.key ∨ u = .int .i64 x.seq ∨ u = .bool x.del ∨ u = .string x.val := by simpa [Dat.cells] using hu
  rcases this with rfl | rfl | rfl | rfl <;> rfl⟩
theorem fl_mix {α : Type} [Dat α] (mk : Nat → α → α) (h : ∀ i l, Dat.cells (mk i l) = Dat.cells l) (k : Nat) (R : List α) : fl (mixR mk k R) = fl R := by
  unfold fl mixR
  rw [List.flatMap_def, List.flatMap_def]
  congr 1
  apply List.ext_getElem?
  intro i
  simp only [List.getElem?_map, List.getElem?_mapIdx, Option.map_map]
  cases R[i]? with
  | none => rfl
  | some l =>
    simp only [Option.map_some, Function.comp]
    split
    · rw [h]
    · rfl
theorem eqEntS_N (A B : Option Addr) (c d : Nat) (l l2 : List Ent) (e2 : l2 = l) (w : World) (h : Rd w A (fl l)) (h2 : Rd w B (fl l2)) (hl : l.length ≤ 140737488355328) :
    Calls Try.prog 173 #[.slice A l.length c, .slice B l2.length d] w fun e w' => e = .returned (.bool true) ∧ Below w.heap.size w w' := by
  subst e2; exact eqEntS_c A B c d _ w h h2 hl
theorem heldEntS_M (A : Option Addr) (c : Nat) (l : List Ent) (k0 : Int) (hm : l = mkL k0 l.length) (hk0 : 0 ≤ k0 ∧ k0 ≤ 1000000000000000) (hl : l.length ≤ 140737488355328) (w : World) (h : Rd w A (fl l)) :
    Calls Try.prog 175 #[.slice A l.length c, .int .i64 k0] w fun e w' => e = .returned (.int .i64 (k0 + 4 * (l.length : Int))) ∧ Below w.heap.size w w' :=
  heldEntS_c A c l.length k0 hk0 hl w (by rw [hm] at h; exact h)
theorem fillP {α : Type} (p : List α) (m : Nat) (z v : α) : (p ++ List.replicate (m + 1) z).set p.length v = (p ++ [v]) ++ List.replicate m z := by
  rw [List.replicate_succ, List.set_append_right _ _ (Nat.le_refl _), Nat.sub_self, List.set_cons_zero]; simp
theorem dats_nth {α β : Type} [Dat β] [In α β] {R S : List (Lc α)} (e : dats S = dats R) (k : Nat) (h : k < R.length) : (nth S k).d = (nth R k).d := by
  have hl : S.length = R.length := by rw [← dats_len, e, dats_len]
  have h1 := congrArg (fun l => l[k]?) e
  simp only [dats, List.getElem?_map] at h1
  rw [List.getElem?_eq_getElem (by omega), List.getElem?_eq_getElem h] at h1
  rw [nthL S k (by omega), nthL R k h]
  simpa using h1
theorem szEntSS_c (A : Option Addr) (c : Nat) (R : List LE) (left : Int) (hl : 0 ≤ left ∧ left ≤ 1048576) (hn : R.length ≤ maxLen) (hx : ∀ x ∈ dats R, x.length ≤ maxLen ∧ ∀ u ∈ x, bigEnt u) (w : World) (h : RdN w A R) :
    Calls Try.prog 113 #[.slice A R.length c, .int .i64 left] w fun e w' => ∃ y : Ys, e = .returned (.int .i64 (y 0).n) ∧ (-1 ≤ (y 0).n ∧ (y 0).n ≤ left ∧ (0 ≤ (y 0).n → R.length ≤ 1048576 ∧ ∀ x ∈ dats R, x.length ≤ 1048576 ∧ ∀ u ∈ x, wtEnt u)) ∧ Below w.heap.size w w' ∧ NewOk w.heap.size [] [] w' := by
  unfold maxLen at hn
  obtain ⟨h1, h2⟩ := h
  have hx' : ∀ k, k < R.length → (nth R k).d.length ≤ maxLen ∧ ∀ u ∈ (nth R k).d, bigEnt u := fun k hk => hx _ (List.mem_map.2 ⟨_, nth_mem R k hk, rfl⟩)
  clear hx
  have HX := Lib.hid hx'; clear hx'
  have H2 := Lib.hid h2; clear h2
  refine ok_enter 27 Try.func113 rfl rfl rfl ?_
  repeat' (first
    | refine ok_seq ?_
    | refine ok_then ?_
    | refine ok_then_ret ?_
    | refine ok_block ?_
    | (refine ok_cond rfl (fun hc => ?_) (fun hc => ?_) <;> (have hd := hc; (try simp only [decide_eq_true_eq, decide_eq_false_iff_not, Bool.or_eq_true, Bool.or_eq_false_iff, Bool.and_eq_true, Bool.and_eq_false_iff, Bool.not_eq_true', Bool.not_eq_false', bne_iff_ne, beq_iff_eq, bne_eq_false_iff_eq, beq_eq_false_iff_ne, ne_eq, Bool.not_true, Bool.not_false, Bool.false_eq_true, Bool.true_eq_false, inB_true, inB_false] at hd)))
    | refine ok_ret ?_
    | refine ok_skip ?_
    | (refine ok_region (i := 0) ?_; refine ok_p rfl rfl rfl (by exact ps_assign rfl rfl) ?_; refine ok_nil ?_; refine ok_env [(0, _), (1, _)] ⟨rfl, rfl, trivial⟩ ?_)
    | (refine ok_region (i := 1) ?_; refine ok_p rfl rfl rfl (by exact ps_move rfl rfl) ?_; refine ok_p rfl rfl rfl (by exact ps_move rfl rfl) ?_; refine ok_p rfl rfl rfl (by exact ps_len rfl rfl) ?_; refine ok_p rfl rfl rfl (by exact ps_sub rfl rfl rfl (by omega)) ?_; refine ok_p rfl rfl rfl (by exact ps_assign rfl rfl) ?_; refine ok_nil ?_; refine ok_env [(0, _), (1, _)] ⟨rfl, rfl, trivial⟩ ?_)
    | (refine ok_region (i := 2) ?_; refine ok_p rfl rfl rfl (by exact ps_move rfl rfl) ?_; refine ok_p rfl rfl rfl (by exact ps_int rfl rfl rfl rfl) ?_; refine ok_nil ?_; refine ok_env [(0, _), (1, _), (11, _)] ⟨rfl, rfl, rfl, trivial⟩ ?_)
    | (refine ok_region (i := 3) ?_; refine ok_p rfl rfl rfl (by exact ps_assign rfl rfl) ?_; refine ok_nil ?_; refine ok_env [(4, _)] ⟨rfl, trivial⟩ ?_)
    | (refine ok_region (i := 4) ?_; refine ok_p rfl rfl rfl (by exact ps_assign rfl rfl) ?_; refine ok_nil ?_; refine ok_env [(0, _), (1, _), (5, _)] ⟨rfl, rfl, rfl, trivial⟩ ?_))
  · exact ok_endL (vs := [_]) rfl ⟨rfl, trivial⟩ (fun w' hw => ⟨mkN (-1) w, rfl, ⟨by show (-1 : Int) ≤ -1; decide, by show (-1 : Int) ≤ left; omega, fun h => absurd h (by show ¬ (0 : Int) ≤ -1; decide)⟩, hw.below, NewOk.nil _ _⟩)
  · refine ok_loop (ι := { p : Nat × Int // p.1 ≤ R.length ∧ 0 ≤ p.2 ∧ p.2 ≤ left - R.length ∧ ∀ j, j < p.1 → (nth R j).d.length ≤ 1048576 ∧ ∀ u ∈ (nth R j).d, wtEnt u }) (fun p => R.length - p.1.1) (fun p => ([(0, .slice A R.length c), (1, .int .i64 p.1.2), (5, .int .i64 p.1.1)], _, _)) ⟨(0, left - R.length), by simp only; omega, by simp only; omega, by simp only; omega, fun j h => absurd h (Nat.not_lt_zero j)⟩ (fun a w he hw => ⟨⟨(0, left - R.length), by simp only; omega, by simp only; omega, by simp only; omega, fun j h => absurd h (Nat.not_lt_zero j)⟩, he.sub ⟨rfl, rfl, rfl, trivial⟩, hw⟩) ?_
    rintro ⟨⟨k, r⟩, hk, hr0, hr1, hwt⟩
    simp only at hk hr0 hr1 hwt ⊢
    have HW := Lib.hid hwt; clear hwt
    repeat' (first
      | refine ok_seq ?_
      | refine ok_then ?_
      | refine ok_then_ret ?_
      | refine ok_block ?_
      | refine ok_in_normal ?_
      | refine ok_in_ret ?_
      | (refine ok_cond rfl (fun hc => ?_) (fun hc => ?_) <;> (have hd := hc; (try simp only [decide_eq_true_eq, decide_eq_false_iff_not, Bool.or_eq_true, Bool.or_eq_false_iff, Bool.and_eq_true, Bool.and_eq_false_iff, Bool.not_eq_true', Bool.not_eq_false', bne_iff_ne, beq_iff_eq, bne_eq_false_iff_eq, beq_eq_false_iff_ne, ne_eq, Bool.not_true, Bool.not_false, Bool.false_eq_true, Bool.true_eq_false, inB_true, inB_false] at hd)))
      | refine ok_ret ?_
      | refine ok_exit ?_
      | refine ok_skip ?_
      | (refine ok_region (i := 5) ?_; refine ok_p rfl rfl rfl (by exact ps_move rfl rfl) ?_; refine ok_p rfl rfl rfl (by exact ps_move rfl rfl) ?_; refine ok_p rfl rfl rfl (by exact ps_len rfl rfl) ?_; refine ok_p rfl rfl rfl (by exact ps_int rfl rfl rfl rfl) ?_; refine ok_nil ?_; refine ok_env [(0, _), (1, _), (5, _), (15, _)] ⟨rfl, rfl, rfl, rfl, trivial⟩ ?_)
      | (refine ok_region (i := 6) ?_; refine ok_p rfl rfl rfl (by exact ps_move rfl rfl) ?_; refine ok_p rfl rfl rfl (by exact ps_add rfl rfl rfl (by omega)) ?_; refine ok_p rfl rfl rfl (by exact ps_assign rfl rfl) ?_; refine ok_nil ?_; refine ok_env [(0, _), (1, _), (5, _)] ⟨rfl, rfl, rfl, trivial⟩ ?_)
      | (refine ok_region (i := 7) ?_; refine ok_p rfl rfl rfl (by exact ps_move rfl rfl) ?_; refine ok_p rfl rfl rfl (by exact ps_move rfl rfl) ?_; refine ok_p rfl rfl rfl (by exact ps_indexN rfl rfl rfl (by omega) (by exact isw_of (isS_fl (by assumption) (by omega)))) ?_; refine ok_p rfl rfl rfl (by exact ps_load rfl rfl (by exact Rds.cell (rds_rf (by assumption) (by exact List.mem_cons_self)) (by exact fl_at0 _ _ (by omega) (by decide)))) ?_; refine ok_p rfl rfl rfl (by exact ps_move rfl rfl) ?_; refine ok_m rfl rfl rfl (by exact ms_c2 rfl rfl rfl (fun _ _ w hw => szEntS_c _ _ (nth R k).d _ ⟨by omega, by omega⟩ (HX.out k (by omega)).1 (HX.out k (by omega)).2 w (rds_rf (H2.out k (by omega)) (by exact List.mem_cons_self) _ _ w hw))) ?_; rintro y23 hy23; refine ok_p rfl rfl rfl (by exact ps_assign rfl rfl) ?_; refine ok_nil ?_; refine ok_env [(0, _), (1, _), (5, _)] ⟨rfl, rfl, rfl, trivial⟩ ?_)
      | (refine ok_region (i := 8) ?_; refine ok_p rfl rfl rfl (by exact ps_move rfl rfl) ?_; refine ok_p rfl rfl rfl (by exact ps_int rfl rfl rfl rfl) ?_; refine ok_nil ?_; refine ok_env [(0, _), (1, _), (5, _), (25, _)] ⟨rfl, rfl, rfl, rfl, trivial⟩ ?_)
      | (refine ok_region (i := 9) ?_; refine ok_p rfl rfl rfl (by exact ps_assign rfl rfl) ?_; refine ok_nil ?_; refine ok_env [(4, _)] ⟨rfl, trivial⟩ ?_)
      | (refine ok_region (i := 10) ?_; refine ok_p rfl rfl rfl (by exact ps_move rfl rfl) ?_; refine ok_p rfl rfl rfl (by exact ps_assign rfl rfl) ?_; refine ok_nil ?_; refine ok_env [(4, _)] ⟨rfl, trivial⟩ ?_))
    · exact ok_endL (vs := [_]) rfl ⟨rfl, trivial⟩ (fun w' hw => ⟨mkN (-1) w, rfl, ⟨by show (-1 : Int) ≤ -1; decide, by show (-1 : Int) ≤ left; omega, fun h => absurd h (by show ¬ (0 : Int) ≤ -1; decide)⟩, hw.below, NewOk.nil _ _⟩)
    · obtain ⟨g1, g2, g3⟩ := hy23
      refine fun a w' he hw => ⟨⟨(k + 1, (y23 0).n), by simp only; omega, by simp only; omega, by simp only; omega, fun j hj => ?_⟩, by simp only; omega, he.sub ⟨rfl, rfl, rfl, trivial⟩, hw⟩
      rcases Nat.lt_succ_iff_lt_or_eq.1 hj with h' | h'
      · exact HW.out j h'
      · subst h'
        have := g3 (by omega)
        exact ⟨by omega, this.2⟩
    · obtain rfl : k = R.length := by omega
      refine ok_endL (vs := [_]) rfl ⟨rfl, trivial⟩ (fun w' hw => ⟨mkN r w, rfl, ⟨by show -1 ≤ r; omega, by show r ≤ left; omega, fun _ => ⟨by omega, fun x hx => ?_⟩⟩, hw.below, NewOk.nil _ _⟩)
      obtain ⟨l, hl, rfl⟩ := List.mem_map.1 hx
      obtain ⟨j, hj, rfl⟩ := List.getElem_of_mem hl
      have := HW.out j hj
      rwa [nthL R j hj] at this
theorem toEntSS_c (A : Option Addr) (c : Nat) (R : List LE) (w : World) (h : RdN w A R) (hl : R.length ≤ 1048576) (hs : ∀ x ∈ dats R, x.length ≤ 1048576) :
    Calls Try.prog 114 #[.slice A R.length c] w fun e w' => ∃ y : Ys, e = .returned (.slice (y 0).A R.length (y 0).c) ∧ True ∧ Below w.heap.size w w' ∧ NewOk w.heap.size [.row 64 1 (y 0).A R.length (y 0).c (fl (locs 1 (dats R) y)), .bag 71 4 (rowsOf (locs 1 (dats R) y))] [] w' := by
  obtain ⟨h1, h2⟩ := h
  have hs' : ∀ k, k < R.length → (nth R k).d.length ≤ 1048576 := fun k hk => hs _ (List.mem_map.2 ⟨_, nth_mem R k hk, rfl⟩)
  clear hs
  have HS := Lib.hid hs'; clear hs'
  have H2 := Lib.hid h2; clear h2
  refine ok_enter 23 Try.func114 rfl rfl rfl ?_
  repeat' (first
    | refine ok_seq ?_
    | refine ok_then ?_
    | refine ok_block ?_
    | (refine ok_region (i := 0) ?_; refine ok_p rfl rfl rfl (by exact ps_assign rfl rfl) ?_; refine ok_nil ?_; refine ok_env [(0, _)] ⟨rfl, trivial⟩ ?_)
    | (refine ok_region (i := 1) ?_; refine ok_p rfl rfl rfl (by exact ps_move rfl rfl) ?_; refine ok_p rfl rfl rfl (by exact ps_len rfl rfl) ?_; refine ok_m rfl rfl rfl (by exact ms_make (z := Dat.cells (Dat.dflt : LE)) rfl rfl rfl (by omega) (by omega)) ?_; rintro y7 hy7; refine ok_p rfl rfl rfl (by exact ps_assign rfl rfl) ?_; refine ok_nil ?_; refine ok_env [(0, _), (3, _)] ⟨rfl, rfl, trivial⟩ ?_)
    | (refine ok_region (i := 2) ?_; refine ok_p rfl rfl rfl (by exact ps_assign rfl rfl) ?_; refine ok_nil ?_; refine ok_env [(0, _), (3, _), (4, _)] ⟨rfl, rfl, rfl, trivial⟩ ?_))
  rw [show (madeCells (Dat.cells (Dat.dflt : LE)).toArray (R.length * 1)).toList = fl (List.replicate R.length (Dat.dflt : LE)) from made_fl (Dat.dflt : LE) R.length]
  refine ok_loop (ι := { p : List LE // p.length ≤ R.length ∧ dats p = (dats R).take p.length }) (fun p => R.length - p.1.length) (fun p => ([(0, .slice A R.length c), (3, .slice (ga (y7 0).c) R.length R.length), (4, .int .i64 p.1.length)], [.bag 71 4 (rowsOf p.1), .row 64 1 (ga (y7 0).c) R.length R.length (fl (p.1 ++ List.replicate (R.length - p.1.length) (Dat.dflt : LE)))], _)) ⟨[], by simp, by simp [dats]⟩ (fun a w he hw => ⟨⟨[], by simp, by simp [dats]⟩, he.sub ⟨rfl, rfl, rfl, trivial⟩, by
    have := hw.bag_nil 71 4
    simpa [rowsOf] using this⟩) ?_
  rintro ⟨p, hp, hd⟩
  simp only at hp hd ⊢
  have HD := Lib.hid hd; clear hd
  repeat' (first
    | refine ok_seq ?_
    | refine ok_then ?_
    | refine ok_block ?_
    | refine ok_in_normal ?_
    | (refine ok_cond rfl (fun hc => ?_) (fun hc => ?_) <;> (have hd := hc; (try simp only [decide_eq_true_eq, decide_eq_false_iff_not, Bool.or_eq_true, Bool.or_eq_false_iff, Bool.and_eq_true, Bool.and_eq_false_iff, Bool.not_eq_true', Bool.not_eq_false', bne_iff_ne, beq_iff_eq, bne_eq_false_iff_eq, beq_eq_false_iff_ne, ne_eq, Bool.not_true, Bool.not_false, Bool.false_eq_true, Bool.true_eq_false, inB_true, inB_false] at hd)))
    | refine ok_ret ?_
    | refine ok_exit ?_
    | refine ok_skip ?_
    | (refine ok_region (i := 3) ?_; refine ok_p rfl rfl rfl (by exact ps_move rfl rfl) ?_; refine ok_p rfl rfl rfl (by exact ps_move rfl rfl) ?_; refine ok_p rfl rfl rfl (by exact ps_len rfl rfl) ?_; refine ok_p rfl rfl rfl (by exact ps_int rfl rfl rfl rfl) ?_; refine ok_nil ?_; refine ok_env [(0, _), (3, _), (4, _), (11, _)] ⟨rfl, rfl, rfl, rfl, trivial⟩ ?_)
    | (refine ok_region (i := 4) ?_; refine ok_p rfl rfl rfl (by exact ps_move rfl rfl) ?_; refine ok_p rfl rfl rfl (by exact ps_add rfl rfl rfl (by omega)) ?_; refine ok_p rfl rfl rfl (by exact ps_assign rfl rfl) ?_; refine ok_nil ?_; refine ok_env [(0, _), (3, _), (4, _)] ⟨rfl, rfl, rfl, trivial⟩ ?_)
    | (refine ok_region (i := 5) ?_; refine ok_p rfl rfl rfl (by exact ps_move rfl rfl) ?_; refine ok_p rfl rfl rfl (by exact ps_move rfl rfl) ?_; refine ok_p rfl rfl rfl (by exact ps_move rfl rfl) ?_; refine ok_p rfl rfl rfl (by exact ps_move rfl rfl) ?_; refine ok_p rfl rfl rfl (by exact ps_indexN rfl rfl rfl (by omega) (by exact isw_of (isS_fl (by assumption) (by omega)))) ?_; refine ok_p rfl rfl rfl (by exact ps_load rfl rfl (by exact Rds.cell (rds_rf (by assumption) (by exact List.mem_cons_self)) (by exact fl_at0 _ _ (by omega) (by decide)))) ?_; refine ok_m rfl rfl rfl (by exact ms_c1 rfl rfl (fun _ _ w hw => toEntS_c _ _ (nth R p.length).d w (rds_rf (H2.out p.length (by omega)) (by exact List.mem_cons_self) _ _ w hw) (HS.out _ (by omega)))) ?_; rintro y20 hy20; refine ok_p rfl rfl rfl (by exact ps_indexN rfl rfl rfl (by omega) (by exact isw_ga _)) ?_; refine ok_m_ rfl rfl (by exact ms_setw 2 p.length (⟨(nth R p.length).d, (y20 0).A, (y20 0).c⟩ : LE) rfl rfl rfl rfl rfl rfl rfl rfl rfl (by simp; omega)) ?_; rintro y_ hy_; refine ok_nil ?_; refine ok_env [(0, _), (3, _), (4, _)] ⟨rfl, rfl, rfl, trivial⟩ ?_)
    | (refine ok_region (i := 6) ?_; refine ok_p rfl rfl rfl (by exact ps_move rfl rfl) ?_; refine ok_p rfl rfl rfl (by exact ps_assign rfl rfl) ?_; refine ok_nil ?_; refine ok_env [(2, _)] ⟨rfl, trivial⟩ ?_))
  · refine fun a w' he hw => ⟨⟨p ++ [⟨(nth R p.length).d, (y20 0).A, (y20 0).c⟩], by simp; omega, ?_⟩, by simp; omega, he.sub ⟨rfl, rfl, by simp; rfl, trivial⟩, ?_⟩
    · have hlt : p.length < (dats R).length := by rw [dats_len]; omega
      rw [dats_snoc, HD.out, List.length_append, List.length_singleton, List.take_succ_eq_append_getElem hlt]
      congr 2
      simp [dats, nth, show p.length < R.length from by omega]
    · have := WOk.bagAdd (⟨(nth R p.length).d, (y20 0).A, (y20 0).c⟩ : LE) rfl rfl hw
      obtain ⟨m, hm⟩ : ∃ m, R.length - p.length = m + 1 := ⟨R.length - p.length - 1, by omega⟩
      rw [hm, fillP] at this
      simp only [List.length_append, List.length_singleton]
      rw [show R.length - (p.length + 1) = m by omega]
      exact this
  · have hpl : p.length = R.length := by omega
    have hdp : dats p = dats R := by rw [HD.out, hpl, ← dats_len, List.take_length]
    refine ok_endL (vs := [_]) rfl ⟨rfl, trivial⟩ (fun w' hw => ⟨mkR [⟨ga (y7 0).c, R.length, w, 0⟩] p w, rfl, trivial, hw.below, ?_⟩)
    rw [← hdp, locs_mkR [⟨ga (y7 0).c, R.length, w, 0⟩] p w 1 rfl]
    have := NewOk.of (hw.sel [1, 0] (by decide) rfl (G' := []) (fun _ h => by cases h))
    rw [hpl, Nat.sub_self, List.replicate_zero, List.append_nil] at this
    exact this
theorem eqEntSS_c (A B : Option Addr) (c d : Nat) (R S : List LE) (e : dats S = dats R) (w : World) (h : RdN w A R) (k : RdN w B S) (hl : R.length ≤ 140737488355328) (hs : ∀ x ∈ dats R, x.length ≤ 140737488355328) :
    Calls Try.prog 115 #[.slice A R.length c, .slice B S.length d] w fun e w' => e = .returned (.bool true) ∧ Below w.heap.size w w' := by
  have hSR : S.length = R.length := by rw [← dats_len, e, dats_len]
  obtain ⟨h1, h2⟩ := h
  obtain ⟨k1, k2⟩ := k
  have hs' : ∀ k, k < R.length → (nth R k).d.length ≤ 140737488355328 := fun k hk => hs _ (List.mem_map.2 ⟨_, nth_mem R k hk, rfl⟩)
  have he := fun k (hk : k < R.length) => dats_nth e k hk
  clear hs
  have HS := Lib.hid hs'; clear hs'
  have H2 := Lib.hid h2; clear h2
  have K2 := Lib.hid k2; clear k2
  have HE := Lib.hid he; clear he
  refine ok_enter 27 Try.func115 rfl rfl rfl ?_
  repeat' (first
    | refine ok_seq ?_
    | refine ok_then ?_
    | refine ok_then_ret ?_
    | refine ok_block ?_
    | (refine ok_cond rfl (fun hc => ?_) (fun hc => ?_) <;> (have hd := hc; (try simp only [decide_eq_true_eq, decide_eq_false_iff_not, Bool.or_eq_true, Bool.or_eq_false_iff, Bool.and_eq_true, Bool.and_eq_false_iff, Bool.not_eq_true', Bool.not_eq_false', bne_iff_ne, beq_iff_eq, bne_eq_false_iff_eq, beq_eq_false_iff_ne, ne_eq, Bool.not_true, Bool.not_false, Bool.false_eq_true, Bool.true_eq_false, inB_true, inB_false] at hd)))
    | refine ok_ret ?_
    | refine ok_skip ?_
    | (refine ok_region (i := 0) ?_; refine ok_p rfl rfl rfl (by exact ps_assign rfl rfl) ?_; refine ok_nil ?_; refine ok_env [(0, _), (1, _)] ⟨rfl, rfl, trivial⟩ ?_)
    | (refine ok_region (i := 1) ?_; refine ok_p rfl rfl rfl (by exact ps_move rfl rfl) ?_; refine ok_p rfl rfl rfl (by exact ps_len rfl rfl) ?_; refine ok_p rfl rfl rfl (by exact ps_move rfl rfl) ?_; refine ok_p rfl rfl rfl (by exact ps_len rfl rfl) ?_; refine ok_p rfl rfl rfl (by exact ps_int rfl rfl rfl rfl) ?_; refine ok_nil ?_; refine ok_env [(0, _), (1, _), (10, _)] ⟨rfl, rfl, rfl, trivial⟩ ?_)
    | (refine ok_region (i := 2) ?_; refine ok_p rfl rfl rfl (by exact ps_assign rfl rfl) ?_; refine ok_nil ?_; refine ok_env [(4, _)] ⟨rfl, trivial⟩ ?_)
    | (refine ok_region (i := 3) ?_; refine ok_p rfl rfl rfl (by exact ps_assign rfl rfl) ?_; refine ok_nil ?_; refine ok_env [(0, _), (1, _), (5, _)] ⟨rfl, rfl, rfl, trivial⟩ ?_))
  · exfalso; simp [hSR] at hc
  · refine ok_loop (ι := { k : Nat // k ≤ R.length }) (fun k => R.length - k.1) (fun k => ([(0, .slice A R.length c), (1, .slice B S.length d), (5, .int .i64 k.1)], _, _)) ⟨0, by omega⟩ (fun a w he hw => ⟨⟨0, by omega⟩, he.sub ⟨rfl, rfl, rfl, trivial⟩, hw⟩) ?_
    rintro ⟨k, hk⟩
    simp only at hk ⊢
    repeat' (first
      | refine ok_seq ?_
      | refine ok_then ?_
      | refine ok_block ?_
      | refine ok_in_normal ?_
      | (refine ok_cond rfl (fun hc => ?_) (fun hc => ?_) <;> (have hd := hc; (try simp only [decide_eq_true_eq, decide_eq_false_iff_not, Bool.or_eq_true, Bool.or_eq_false_iff, Bool.and_eq_true, Bool.and_eq_false_iff, Bool.not_eq_true', Bool.not_eq_false', bne_iff_ne, beq_iff_eq, bne_eq_false_iff_eq, beq_eq_false_iff_ne, ne_eq, Bool.not_true, Bool.not_false, Bool.false_eq_true, Bool.true_eq_false, inB_true, inB_false] at hd)))
      | refine ok_ret ?_
      | refine ok_exit ?_
      | refine ok_skip ?_
      | (refine ok_region (i := 4) ?_; refine ok_p rfl rfl rfl (by exact ps_move rfl rfl) ?_; refine ok_p rfl rfl rfl (by exact ps_move rfl rfl) ?_; refine ok_p rfl rfl rfl (by exact ps_len rfl rfl) ?_; refine ok_p rfl rfl rfl (by exact ps_int rfl rfl rfl rfl) ?_; refine ok_nil ?_; refine ok_env [(0, _), (1, _), (5, _), (14, _)] ⟨rfl, rfl, rfl, rfl, trivial⟩ ?_)
      | (refine ok_region (i := 5) ?_; refine ok_p rfl rfl rfl (by exact ps_move rfl rfl) ?_; refine ok_p rfl rfl rfl (by exact ps_add rfl rfl rfl (by omega)) ?_; refine ok_p rfl rfl rfl (by exact ps_assign rfl rfl) ?_; refine ok_nil ?_; refine ok_env [(0, _), (1, _), (5, _)] ⟨rfl, rfl, rfl, trivial⟩ ?_)
      | (refine ok_draw (id := 6) 10 rfl (by kernel_rfl) (by kernel_rfl) rfl (by repeat (first | exact pq_body | refine pq_then ?_ | refine pq_in ?_)) [0, 1, 2, 3, 4, 5, 6, 7, 8, 9, 10, 11, 12, 13, 14, 15, 16, 17, 18, 19, 20, 21, 22, 23] (by decide) rfl ?_; refine okT_take (i := 0) rfl (by kernel_rfl) rfl rfl rfl (by exact ps_move rfl rfl) ?_; refine okT_take (i := 1) rfl (by kernel_rfl) rfl rfl rfl (by exact ps_move rfl rfl) ?_; refine okT_take (i := 2) rfl (by kernel_rfl) rfl rfl rfl (by exact ps_indexN rfl rfl rfl (by omega) (by exact isw_of (isS_fl (by assumption) (by omega)))) ?_; refine okT_take (i := 3) rfl (by kernel_rfl) rfl rfl rfl (by exact ps_load rfl rfl (by exact Rds.cell (rds_rf (by assumption) (by exact List.mem_cons_self)) (by exact fl_at0 _ _ (by omega) (by decide)))) ?_; refine okT_take (i := 4) rfl (by kernel_rfl) rfl rfl rfl (by exact ps_move rfl rfl) ?_; refine okT_take (i := 5) rfl (by kernel_rfl) rfl rfl rfl (by exact ps_move rfl rfl) ?_; refine okT_take (i := 6) rfl (by kernel_rfl) rfl rfl rfl (by exact ps_indexN rfl rfl rfl (by omega) (by exact isw_of (isS_fl (by assumption) (by omega)))) ?_; refine okT_take (i := 7) rfl (by kernel_rfl) rfl rfl rfl (by exact ps_load rfl rfl (by exact Rds.cell (rds_rf (by assumption) (by exact List.mem_cons_self)) (by exact fl_at0 _ _ (by omega) (by decide)))) ?_; refine okT_one (i := 8) rfl rfl (by kernel_rfl) rfl rfl rfl (by exact ms_s2 rfl rfl rfl (fun _ _ w hw => eqEntS_N _ _ _ _ (nth R k).d (nth S k).d (HE.out k (by omega)) w (rds_rf (H2.out k (by omega)) (by exact List.mem_cons_self) _ _ w hw) (rds_rf (K2.out k (by omega)) (by exact List.mem_cons_self) _ _ w hw) (HS.out k (by omega)))) (fun y w _ h => by exact h) ?_; rintro y25 hy25; refine okT_take (i := 9) rfl (by kernel_rfl) rfl rfl rfl (by exact ps_not rfl rfl) ?_; refine okT_done (by kernel_rfl) ?_; refine ok_nil ?_; refine ok_env [(0, _), (1, _), (5, _), (26, _)] ⟨rfl, rfl, rfl, rfl, trivial⟩ ?_)
      | (refine ok_region (i := 8) ?_; refine ok_p rfl rfl rfl (by exact ps_assign rfl rfl) ?_; refine ok_nil ?_; refine ok_env [(4, _)] ⟨rfl, trivial⟩ ?_))
    all_goals first
      | (exfalso; simp [sEq] at hc; done)
      | exact fun a w' he hw => ⟨⟨k + 1, by omega⟩, by simp only; omega, he.sub ⟨rfl, rfl, rfl, trivial⟩, hw⟩
      | exact ok_endL (vs := [_]) rfl ⟨rfl, trivial⟩ (fun w' hw => ⟨rfl, hw.below⟩)
/-- The marks of rows of rows. -/
def offE (x : List (List Ent)) (i : Nat) : Nat := offR List.length x i
def mkE1 (k0 : Int) (x : List (List Ent)) (i : Nat) (l : List Ent) : List Ent := mkL (k0 + 4 * (offE x i : Int)) l.length
def mkEL (k0 : Int) (x : List (List Ent)) (i : Nat) (l : LE) : LE := ⟨mkE1 k0 x i l.d, l.A, l.c⟩
def mkES (k0 : Int) (x : List (List Ent)) : List (List Ent) := mixR (mkE1 k0 x) x.length x
theorem dats_mix (k0 : Int) (x : List (List Ent)) (k : Nat) (R : List LE) : dats (mixR (mkEL k0 x) k R) = mixR (mkE1 k0 x) k (dats R) := by
  apply List.ext_getElem?
  intro i
  simp only [dats, mixR, List.getElem?_map, List.getElem?_mapIdx, Option.map_map]
  cases R[i]? with
  | none => rfl
  | some l =>
    simp only [Option.map_some, Function.comp]
    split <;> rfl
theorem locs_mk (k0 : Int) (x : List (List Ent)) (k q : Nat) (y : Ys) : locs q (mixR (mkE1 k0 x) k x) y = mixR (mkEL k0 x) k (locs q x y) := by
  apply List.ext_getElem?
  intro i
  simp only [locs, mixR, List.getElem?_mapIdx, Option.map_map]
  cases x[i]? with
  | none => rfl
  | some l =>
    simp only [Option.map_some, Function.comp]
    split <;> rfl
theorem offE_le (x : List (List Ent)) (hx : x.length ≤ 4194304) (hs : ∀ l ∈ x, l.length ≤ 4194304) (i : Nat) : offE x i ≤ 17592186044416 := by
  have := offR_le List.length x 4194304 hs i
  have h2 : x.length * 4194304 ≤ 4194304 * 4194304 := Nat.mul_le_mul_right _ hx
  unfold offE; omega
theorem offE_succ (R : List LE) (i : Nat) (h : i < R.length) : offE (dats R) (i + 1) = offE (dats R) i + (nth R i).d.length := by
  rw [nthL R i h]
  have hd : i < (dats R).length := by rw [dats_len]; exact h
  unfold offE offR
  rw [List.take_succ_eq_append_getElem hd, List.map_append, List.sum_append]
  simp [dats]
theorem mkE1_len (k0 : Int) (x : List (List Ent)) (i : Nat) (l : List Ent) : (mkE1 k0 x i l).length = l.length := mkL_len _ _
theorem markEntSS_c (A : Option Addr) (c : Nat) (R : List LE) (k0 : Int) (hk0 : 0 ≤ k0 ∧ k0 ≤ 100000000000000) (hl : R.length ≤ 4194304) (hs : ∀ x ∈ dats R, x.length ≤ 4194304) {base : Nat} {w0 w : World} {H : List HObj} {G : List World}
    (hw : WOk base w0 (.row 64 1 A R.length c (fl R) :: .bag 71 4 (rowsOf R) :: H) G w) :
    Calls Try.prog 116 #[.slice A R.length c, .int .i64 k0] w fun e w' => ∃ y : Ys, e = .returned (.int .i64 (k0 + 4 * (offE (dats R) R.length : Int))) ∧ True ∧ WOk base w0 (.row 64 1 A R.length c (fl R) :: .bag 71 4 (rowsOf (mixR (mkEL k0 (dats R)) R.length R)) :: H) G w' := by
  have hs' : ∀ k, k < R.length → (nth R k).d.length ≤ 4194304 := fun k hk => hs _ (List.mem_map.2 ⟨_, nth_mem R k hk, rfl⟩)
  have ho : ∀ k, offE (dats R) k ≤ 17592186044416 := offE_le _ (by rw [dats_len]; exact hl) hs
  clear hs
  have HS := Lib.hid hs'; clear hs'
  have HO := Lib.hid ho; clear ho
  refine ok_enterW 19 Try.func116 rfl rfl rfl hw ?_
  repeat' (first
    | refine ok_seq ?_
    | refine ok_then ?_
    | refine ok_block ?_
    | (refine ok_region (i := 0) ?_; refine ok_p rfl rfl rfl (by exact ps_assign rfl rfl) ?_; refine ok_nil ?_; refine ok_env [(0, _), (1, _)] ⟨rfl, rfl, trivial⟩ ?_)
    | (refine ok_region (i := 1) ?_; refine ok_p rfl rfl rfl (by exact ps_assign rfl rfl) ?_; refine ok_nil ?_; refine ok_env [(0, _), (1, _), (5, _)] ⟨rfl, rfl, rfl, trivial⟩ ?_))
  refine ok_loop (ι := { k : Nat // k ≤ R.length }) (fun k => R.length - k.1) (fun k => ([(0, .slice A R.length c), (1, .int .i64 (k0 + 4 * (offE (dats R) k.1 : Int))), (5, .int .i64 k.1)], .row 64 1 A R.length c (fl R) :: .bag 71 4 (rowsOf (mixR (mkEL k0 (dats R)) k.1 R)) :: H, _)) ⟨0, by omega⟩ (fun a w he hw => ⟨⟨0, by omega⟩, he.sub ⟨rfl, by simp [look, initE, offE, offR_zero], rfl, trivial⟩, by rw [mixR_zero]; exact hw⟩) ?_
  rintro ⟨k, hk⟩
  simp only at hk ⊢
  have hok := HO.out k
  repeat' (first
    | refine ok_seq ?_
    | refine ok_then ?_
    | refine ok_block ?_
    | refine ok_in_normal ?_
    | (refine ok_cond rfl (fun hc => ?_) (fun hc => ?_) <;> (have hd := hc; (try simp only [decide_eq_true_eq, decide_eq_false_iff_not, Bool.or_eq_true, Bool.or_eq_false_iff, Bool.and_eq_true, Bool.and_eq_false_iff, Bool.not_eq_true', Bool.not_eq_false', bne_iff_ne, beq_iff_eq, bne_eq_false_iff_eq, beq_eq_false_iff_ne, ne_eq, Bool.not_true, Bool.not_false, Bool.false_eq_true, Bool.true_eq_false, inB_true, inB_false] at hd)))
    | refine ok_ret ?_
    | refine ok_exit ?_
    | refine ok_skip ?_
    | (refine ok_region (i := 2) ?_; refine ok_p rfl rfl rfl (by exact ps_move rfl rfl) ?_; refine ok_p rfl rfl rfl (by exact ps_move rfl rfl) ?_; refine ok_p rfl rfl rfl (by exact ps_len rfl rfl) ?_; refine ok_p rfl rfl rfl (by exact ps_int rfl rfl rfl rfl) ?_; refine ok_nil ?_; refine ok_env [(0, _), (1, _), (5, _), (9, _)] ⟨rfl, rfl, rfl, rfl, trivial⟩ ?_)
    | (refine ok_region (i := 3) ?_; refine ok_p rfl rfl rfl (by exact ps_move rfl rfl) ?_; refine ok_p rfl rfl rfl (by exact ps_add rfl rfl rfl (by omega)) ?_; refine ok_p rfl rfl rfl (by exact ps_assign rfl rfl) ?_; refine ok_nil ?_; refine ok_env [(0, _), (1, _), (5, _)] ⟨rfl, rfl, rfl, trivial⟩ ?_)
    | (refine ok_region (i := 4) ?_; refine ok_p rfl rfl rfl (by exact ps_move rfl rfl) ?_; refine ok_p rfl rfl rfl (by exact ps_move rfl rfl) ?_; refine ok_p rfl rfl rfl (by exact ps_indexN rfl rfl rfl (by omega) (by exact isw_row 0 rfl (by omega))) ?_; refine ok_p rfl rfl rfl (by exact ps_load rfl rfl (by exact Rds.cell (rds_row 0 rfl) (by exact fl_at0 _ _ (by omega) (by decide)))) ?_; refine ok_p rfl rfl rfl (by exact ps_move rfl rfl) ?_; refine ok_m rfl rfl rfl (by exact ms_wr 1 rfl rfl rfl rfl (fun _ _ w hw => bag_call (R := mixR (mkEL k0 (dats R)) k R) k (mkEL k0 (dats R) k (nth R k)) (by rw [mixR_len]; omega) (fun H hw => by (have e : nth (mixR (mkEL k0 (dats R)) k R) k = nth R k := (by rw [mixR_nth _ _ _ _ (by omega), if_neg (by omega)]); rw [e] at hw; have := markEntS_c _ _ (nth R k).d (k0 + 4 * (offE (dats R) k : Int)) ⟨by omega, by omega⟩ (by have := HS.out k (by omega); omega) hw; simp only [mkEL, mkE1, In.inn, id, mkL_len]; exact this)) hw)) ?_; rintro y17 hy17; refine ok_p rfl rfl rfl (by exact ps_assign rfl rfl) ?_; refine ok_nil ?_; refine ok_env [(0, _), (1, _), (5, _)] ⟨rfl, rfl, rfl, trivial⟩ ?_)
    | (refine ok_region (i := 5) ?_; refine ok_p rfl rfl rfl (by exact ps_move rfl rfl) ?_; refine ok_p rfl rfl rfl (by exact ps_assign rfl rfl) ?_; refine ok_nil ?_; refine ok_env [(4, _)] ⟨rfl, trivial⟩ ?_))
  · refine fun a w' he hw => ⟨⟨k + 1, by omega⟩, by simp only; omega, he.sub ⟨rfl, ?_, rfl, trivial⟩, ?_⟩
    · simp only [look]; congr 2; rw [offE_succ R k (by omega)]; simp; omega
    · have e : nth (mixR (mkEL k0 (dats R)) k R) k = nth R k := by rw [mixR_nth _ _ _ _ (by omega), if_neg (by omega)]
      simp only
      rw [← mixR_step _ k R (by omega)]
      exact hw
  · obtain rfl : k = R.length := by omega
    exact ok_endL (vs := [_]) rfl ⟨rfl, trivial⟩ (fun w' hw => ⟨mkY none 0 w, rfl, trivial, hw⟩)
theorem heldEntSS_c (A : Option Addr) (c : Nat) (R : List LE) (k0 : Int) (hk0 : 0 ≤ k0 ∧ k0 ≤ 100000000000000) (hl : R.length ≤ 4194304) (hs : ∀ x ∈ dats R, x.length ≤ 4194304) (hm : ∀ k, k < R.length → (nth R k).d = mkL (k0 + 4 * (offE (dats R) k : Int)) (nth R k).d.length) (w : World) (h : RdN w A R) :
    Calls Try.prog 117 #[.slice A R.length c, .int .i64 k0] w fun e w' => e = .returned (.int .i64 (k0 + 4 * (offE (dats R) R.length : Int))) ∧ Below w.heap.size w w' := by
  obtain ⟨h1, h2⟩ := h
  have hs' : ∀ k, k < R.length → (nth R k).d.length ≤ 4194304 := fun k hk => hs _ (List.mem_map.2 ⟨_, nth_mem R k hk, rfl⟩)
  have ho : ∀ k, offE (dats R) k ≤ 17592186044416 := offE_le _ (by rw [dats_len]; exact hl) hs
  clear hs
  have HS := Lib.hid hs'; clear hs'
  have HO := Lib.hid ho; clear ho
  have H2 := Lib.hid h2; clear h2
  have HM := Lib.hid hm; clear hm
  refine ok_enter 21 Try.func117 rfl rfl rfl ?_
  repeat' (first
    | refine ok_seq ?_
    | refine ok_then ?_
    | refine ok_block ?_
    | (refine ok_region (i := 0) ?_; refine ok_p rfl rfl rfl (by exact ps_assign rfl rfl) ?_; refine ok_nil ?_; refine ok_env [(0, _), (1, _)] ⟨rfl, rfl, trivial⟩ ?_)
    | (refine ok_region (i := 1) ?_; refine ok_p rfl rfl rfl (by exact ps_assign rfl rfl) ?_; refine ok_nil ?_; refine ok_env [(0, _), (1, _), (5, _)] ⟨rfl, rfl, rfl, trivial⟩ ?_))
  refine ok_loop (ι := { k : Nat // k ≤ R.length }) (fun k => R.length - k.1) (fun k => ([(0, .slice A R.length c), (1, .int .i64 (k0 + 4 * (offE (dats R) k.1 : Int))), (5, .int .i64 k.1)], _, _)) ⟨0, by omega⟩ (fun a w he hw => ⟨⟨0, by omega⟩, he.sub ⟨rfl, by simp [look, initE, offE, offR_zero], rfl, trivial⟩, hw⟩) ?_
  rintro ⟨k, hk⟩
  simp only at hk ⊢
  have hok := HO.out k
  repeat' (first
    | refine ok_seq ?_
    | refine ok_then ?_
    | refine ok_then_ret ?_
    | refine ok_block ?_
    | refine ok_in_normal ?_
    | refine ok_in_ret ?_
    | (refine ok_cond rfl (fun hc => ?_) (fun hc => ?_) <;> (have hd := hc; (try simp only [decide_eq_true_eq, decide_eq_false_iff_not, Bool.or_eq_true, Bool.or_eq_false_iff, Bool.and_eq_true, Bool.and_eq_false_iff, Bool.not_eq_true', Bool.not_eq_false', bne_iff_ne, beq_iff_eq, bne_eq_false_iff_eq, beq_eq_false_iff_ne, ne_eq, Bool.not_true, Bool.not_false, Bool.false_eq_true, Bool.true_eq_false, inB_true, inB_false] at hd)))
    | refine ok_ret ?_
    | refine ok_exit ?_
    | refine ok_skip ?_
    | (refine ok_region (i := 2) ?_; refine ok_p rfl rfl rfl (by exact ps_move rfl rfl) ?_; refine ok_p rfl rfl rfl (by exact ps_move rfl rfl) ?_; refine ok_p rfl rfl rfl (by exact ps_len rfl rfl) ?_; refine ok_p rfl rfl rfl (by exact ps_int rfl rfl rfl rfl) ?_; refine ok_nil ?_; refine ok_env [(0, _), (1, _), (5, _), (9, _)] ⟨rfl, rfl, rfl, rfl, trivial⟩ ?_)
    | (refine ok_region (i := 3) ?_; refine ok_p rfl rfl rfl (by exact ps_move rfl rfl) ?_; refine ok_p rfl rfl rfl (by exact ps_add rfl rfl rfl (by omega)) ?_; refine ok_p rfl rfl rfl (by exact ps_assign rfl rfl) ?_; refine ok_nil ?_; refine ok_env [(0, _), (1, _), (5, _)] ⟨rfl, rfl, rfl, trivial⟩ ?_)
    | (refine ok_region (i := 4) ?_; refine ok_p rfl rfl rfl (by exact ps_move rfl rfl) ?_; refine ok_p rfl rfl rfl (by exact ps_move rfl rfl) ?_; refine ok_p rfl rfl rfl (by exact ps_indexN rfl rfl rfl (by omega) (by exact isw_of (isS_fl (by assumption) (by omega)))) ?_; refine ok_p rfl rfl rfl (by exact ps_load rfl rfl (by exact Rds.cell (rds_rf (by assumption) (by exact List.mem_cons_self)) (by exact fl_at0 _ _ (by omega) (by decide)))) ?_; refine ok_p rfl rfl rfl (by exact ps_move rfl rfl) ?_; refine ok_m rfl rfl rfl (by exact ms_s2 rfl rfl rfl (fun _ _ w hw => heldEntS_M _ _ (nth R k).d (k0 + 4 * (offE (dats R) k : Int)) (HM.out k (by omega)) ⟨by omega, by omega⟩ (by have := HS.out k (by omega); omega) w (rds_rf (H2.out k (by omega)) (by exact List.mem_cons_self) _ _ w hw))) ?_; rintro y17 hy17; refine ok_p rfl rfl rfl (by exact ps_assign rfl rfl) ?_; refine ok_nil ?_; refine ok_env [(0, _), (1, _), (5, _)] ⟨rfl, rfl, rfl, trivial⟩ ?_)
    | (refine ok_region (i := 5) ?_; refine ok_p rfl rfl rfl (by exact ps_move rfl rfl) ?_; refine ok_p rfl rfl rfl (by exact ps_int rfl rfl rfl rfl) ?_; refine ok_nil ?_; refine ok_env [(0, _), (1, _), (5, _), (19, _)] ⟨rfl, rfl, rfl, rfl, trivial⟩ ?_)
    | (refine ok_region (i := 6) ?_; refine ok_p rfl rfl rfl (by exact ps_assign rfl rfl) ?_; refine ok_nil ?_; refine ok_env [(4, _)] ⟨rfl, trivial⟩ ?_)
    | (refine ok_region (i := 7) ?_; refine ok_p rfl rfl rfl (by exact ps_move rfl rfl) ?_; refine ok_p rfl rfl rfl (by exact ps_assign rfl rfl) ?_; refine ok_nil ?_; refine ok_env [(4, _)] ⟨rfl, trivial⟩ ?_))
  all_goals first
    | (exfalso; omega)
    | (refine fun a w' he hw => ⟨⟨k + 1, by omega⟩, by simp only; omega, he.sub ⟨rfl, ?_, rfl, trivial⟩, hw⟩
       simp only [look]; congr 2; rw [offE_succ R k (by omega)]; simp; omega)
    | (obtain rfl : k = R.length := by omega
       exact ok_endL (vs := [_]) rfl ⟨rfl, trivial⟩ (fun w' hw => ⟨rfl, hw.below⟩))
/- In the uniform style. -/
abbrev DEntSS := List (List Ent)
@[reducible] def EntSS_loc (x : DEntSS) (y : Ys) : List LE := locs 1 x y
def EntSS_val (x : DEntSS) (y : Ys) : Value := .slice (y 0).A x.length (y 0).c
def EntSS_obj (x : DEntSS) (y : Ys) : List HObj := [.row 64 1 (y 0).A x.length (y 0).c (fl (EntSS_loc x y)), .bag 71 4 (rowsOf (EntSS_loc x y))]
def EntSS_rd (w : World) (x : DEntSS) (y : Ys) : Prop := RdN w (y 0).A (EntSS_loc x y)
def EntSS_big (x : DEntSS) : Prop := x.length ≤ maxLen ∧ ∀ l ∈ x, l.length ≤ maxLen ∧ ∀ u ∈ l, bigEnt u
def EntSS_sm (x : DEntSS) : Prop := x.length ≤ 1048576 ∧ ∀ l ∈ x, l.length ≤ 1048576 ∧ ∀ u ∈ l, wtEnt u
def EntSS_lim (x : DEntSS) : Prop := x.length ≤ 4194304 ∧ ∀ l ∈ x, l.length ≤ 4194304
def EntSS_cnt (x : DEntSS) (k : Int) : Int := k + 4 * (offE x x.length : Int)
def EntSS_mk (k : Int) (x : DEntSS) : DEntSS := mkES k x
theorem EntSS_sm_lim {x : DEntSS} (h : EntSS_sm x) : EntSS_lim x := ⟨by have := h.1; omega, fun l hl => by have := (h.2 l hl).1; omega⟩
theorem EntSS_cnt_le (x : DEntSS) (k : Int) (h : EntSS_lim x) : k ≤ EntSS_cnt x k ∧ EntSS_cnt x k ≤ k + 70368744177664 := by
  have := offE_le x h.1 h.2 x.length
  unfold EntSS_cnt; omega
theorem szEntSS_d (x : DEntSS) (y : Ys) (left : Int) (hl : 0 ≤ left ∧ left ≤ 1048576) (w : World) (h : EntSS_rd w x y) (hb : EntSS_big x) :
    Calls Try.prog 113 #[EntSS_val x y, .int .i64 left] w fun e w' => ∃ y : Ys, e = .returned (.int .i64 (y 0).n) ∧ (-1 ≤ (y 0).n ∧ (y 0).n ≤ left ∧ (0 ≤ (y 0).n → EntSS_sm x)) ∧ Below w.heap.size w w' ∧ NewOk w.heap.size [] [] w' := by
  have := szEntSS_c (y 0).A (y 0).c (locs 1 x y) left hl (by rw [locs_len]; exact hb.1) (by rw [dats_locs]; exact hb.2) w h
  rw [locs_len, dats_locs] at this
  exact this
theorem toEntSS_d (x : DEntSS) (y : Ys) (w : World) (h : EntSS_rd w x y) (hs : EntSS_sm x) :
    Calls Try.prog 114 #[EntSS_val x y] w fun e w' => ∃ y : Ys, e = .returned (EntSS_val x y) ∧ True ∧ Below w.heap.size w w' ∧ NewOk w.heap.size (EntSS_obj x y) [] w' := by
  have := toEntSS_c (y 0).A (y 0).c (locs 1 x y) w h (by rw [locs_len]; exact hs.1) (by rw [dats_locs]; exact fun l hl => (hs.2 l hl).1)
  rw [locs_len, dats_locs] at this
  exact this
theorem eqEntSS_d (x : DEntSS) (y z : Ys) (w : World) (h : EntSS_rd w x y) (k : EntSS_rd w x z) (hl : EntSS_lim x) :
    Calls Try.prog 115 #[EntSS_val x y, EntSS_val x z] w fun e w' => e = .returned (.bool true) ∧ Below w.heap.size w w' := by
  have := eqEntSS_c (y 0).A (z 0).A (y 0).c (z 0).c (locs 1 x y) (locs 1 x z) (by rw [dats_locs, dats_locs]) w h k (by rw [locs_len]; have := hl.1; omega) (by rw [dats_locs]; exact fun l hl' => by have := hl.2 l hl'; omega)
  rw [locs_len, locs_len] at this
  exact this
theorem EntSS_mk_len (k : Int) (x : DEntSS) : (EntSS_mk k x).length = x.length := mixR_len _ _ _
theorem EntSS_mk_loc (k : Int) (x : DEntSS) (y : Ys) : EntSS_loc (EntSS_mk k x) y = mixR (mkEL k x) x.length (EntSS_loc x y) := locs_mk k x x.length 1 y
theorem EntSS_mk_fl (k : Int) (x : DEntSS) (y : Ys) : fl (EntSS_loc (EntSS_mk k x) y) = fl (EntSS_loc x y) := by
  rw [EntSS_mk_loc]
  refine fl_mix _ (fun i l => ?_) _ _
  simp only [Dat.cells, In.cells, In.inn, mkEL, id]
  rw [mkE1_len]
theorem markEntSS_d (x : DEntSS) (y : Ys) (k : Int) (hk : 0 ≤ k ∧ k ≤ 100000000000000) (hl : EntSS_lim x) {base : Nat} {w0 w : World} {H : List HObj} {G : List World}
    (hw : WOk base w0 (EntSS_obj x y ++ H) G w) :
    Calls Try.prog 116 #[EntSS_val x y, .int .i64 k] w fun e w' => ∃ q : Ys, e = .returned (.int .i64 (EntSS_cnt x k)) ∧ True ∧ WOk base w0 (EntSS_obj (EntSS_mk k x) y ++ H) G w' := by
  have := markEntSS_c (y 0).A (y 0).c (locs 1 x y) k hk (by rw [locs_len]; exact hl.1) (by rw [dats_locs]; exact hl.2) (by rw [locs_len]; exact hw)
  rw [locs_len, dats_locs] at this
  unfold EntSS_obj
  rw [EntSS_mk_len, EntSS_mk_fl, EntSS_mk_loc]
  exact this
theorem offE_mk (k : Int) (x : DEntSS) (i : Nat) : offE (EntSS_mk k x) i = offE x i := by
  unfold offE offR EntSS_mk mkES mixR
  congr 1
  apply List.ext_getElem?
  intro j
  simp only [List.getElem?_map, List.getElem?_take, List.getElem?_mapIdx]
  by_cases hj : j < i
  · simp only [hj, if_true]
    cases hx : x[j]? with
    | none => rfl
    | some l =>
      simp only [Option.map_some, Option.some.injEq]
      split
      · exact mkE1_len _ _ _ _
      · rfl
  · simp only [hj, if_false]
theorem EntSS_mk_nth (k0 : Int) (x : DEntSS) (y : Ys) (k : Nat) (h : k < (locs 1 (EntSS_mk k0 x) y).length) : (nth (locs 1 (EntSS_mk k0 x) y) k).d = mkL (k0 + 4 * (offE (EntSS_mk k0 x) k : Int)) (nth (locs 1 (EntSS_mk k0 x) y) k).d.length := by
  rw [locs_len, EntSS_mk_len] at h
  rw [offE_mk]
  have e : locs 1 (EntSS_mk k0 x) y = mixR (mkEL k0 x) x.length (locs 1 x y) := locs_mk k0 x x.length 1 y
  rw [e, mixR_nth _ _ _ _ (by rw [locs_len]; exact h), if_pos h]
  show mkE1 k0 x k _ = mkL _ (mkE1 k0 x k _).length
  rw [mkE1_len]; rfl
theorem heldEntSS_d (x : DEntSS) (y : Ys) (k : Int) (hk : 0 ≤ k ∧ k ≤ 100000000000000) (hl : EntSS_lim x) (w : World) (h : EntSS_rd w (EntSS_mk k x) y) :
    Calls Try.prog 117 #[EntSS_val x y, .int .i64 k] w fun e w' => e = .returned (.int .i64 (EntSS_cnt x k)) ∧ Below w.heap.size w w' := by
  have hlm : ∀ l ∈ EntSS_mk k x, l.length ≤ 4194304 := fun l hm => by
    obtain ⟨i, hi, rfl⟩ := List.getElem_of_mem hm
    have h1 := hl.2
    simp only [EntSS_mk, mkES, mixR, List.getElem_mapIdx]
    split
    · rw [mkE1_len]; exact h1 _ (List.getElem_mem _)
    · exact h1 _ (List.getElem_mem _)
  have := heldEntSS_c (y 0).A (y 0).c (locs 1 (EntSS_mk k x) y) k hk (by rw [locs_len, EntSS_mk_len]; exact hl.1) (by rw [dats_locs]; exact hlm) (by rw [dats_locs]; exact EntSS_mk_nth k x y) w h
  rw [locs_len, EntSS_mk_len, dats_locs, offE_mk] at this
  exact this
theorem EntSS_rf {m w w0 : World} {base : Nat} {H : List HObj} {G : List World} {x : DEntSS} {y : Ys} (h : EntSS_rd m x y) (hm : m ∈ G) (hw : WOk base w0 H G w) : EntSS_rd w x y := RdN.keep hw h hm
theorem EntSS_of {w w0 : World} {base : Nat} {H : List HObj} {G : List World} {x : DEntSS} {y : Ys} (hw : WOk base w0 (EntSS_obj x y ++ H) G w) : EntSS_rd w x y := RdN.own hw 0 1 rfl rfl
abbrev gEntSS : GT := .sl 197 (.sl 229 gEnt)
theorem EntSS_open {w : World} {v : Value} {x : gEntSS.den} (hx : RdT w gEntSS x [v]) : ∃ (d : DEntSS) (y : Ys), v = EntSS_val d y ∧ EntSS_rd w d y ∧ EntSS_big d := by
  obtain ⟨A, c, R, e, m, r, b⟩ := nest_sl (flat_nest flatEnt) hx
  have e' : v = _ := List.head_eq_of_cons_eq e
  subst e'
  refine ⟨dats R, mkR [⟨A, c, w, 0⟩] R w, ?_, ?_, ?_, ?_⟩
  · unfold EntSS_val; rw [dats_len]; rfl
  · unfold EntSS_rd EntSS_loc; rw [locs_mkR [⟨A, c, w, 0⟩] R w 1 rfl]; exact r
  · rw [dats_len]; exact m
  · exact b
end Go.Proofs.Ytbegbdfbfbkflaa
