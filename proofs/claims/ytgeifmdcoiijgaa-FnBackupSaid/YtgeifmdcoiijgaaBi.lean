/- Rows of ints: size, copy, comparison, marks, by the engine. -/
import Derived.Test.YtgeifmdcoiijgaaEng8
import Derived.Test.YtgeifmdcoiijgaaTab
namespace Go.Proofs.Ytgeifmdcoiijgaa
open Go.RowKit
set_option maxHeartbeats 1000000
set_option maxRecDepth 20000
set_option linter.unusedVariables false
set_option linter.unusedSimpArgs false
/-- What a mark writes: k, k + 1, .. -/
class Mk (α : Type) where
  cnt : Int
  mkv : Int → α
def mkL {α : Type} [Mk α] (k : Int) (n : Nat) : List α := (List.range n).map fun (j : Nat) => Mk.mkv (k + Mk.cnt α * (j : Int))
theorem mkL_len {α : Type} [Mk α] (k : Int) (n : Nat) : (mkL k n : List α).length = n := by simp [mkL]
theorem mkL_nth {α : Type} [Mk α] [Dat α] (k : Int) (n j : Nat) (h : j < n) : nth (mkL k n : List α) j = Mk.mkv (k + Mk.cnt α * j) := by simp [nth, mkL, h]
theorem mk_step {α : Type} [Mk α] [Dat α] (l : List α) (k : Int) (i : Nat) (h : i < l.length) : (mkL k i ++ l.drop i).set i (Mk.mkv (k + Mk.cnt α * i)) = mkL k (i + 1) ++ l.drop (i + 1) := by
  have h1 : (mkL k i : List α).length = i := mkL_len k i
  rw [List.set_append_right _ _ (by omega), h1, Nat.sub_self, List.drop_eq_getElem_cons h, List.set_cons_zero]
  simp [mkL, List.range_succ]
theorem mk_nth {α : Type} [Mk α] [Dat α] (l : List α) (k : Int) (i : Nat) (h : i < l.length) : nth (mkL k i ++ l.drop i) i = nth l i := by
  have h1 : (mkL k i : List α).length = i := mkL_len k i
  have h2 : (mkL k i ++ l.drop i)[i]? = l[i]? := by
    rw [List.getElem?_append_right (by omega), h1, Nat.sub_self, List.getElem?_drop]; simp
  simp [nth, h2]
theorem nth_set {α : Type} [Dat α] (l : List α) (i : Nat) (x : α) (h : i < l.length) : nth (l.set i x) i = x := by simp [nth, h]
theorem nth_mem {α : Type} [Dat α] (l : List α) (k : Nat) (h : k < l.length) : nth l k ∈ l := by
  have : nth l k = l[k] := by simp [nth, h]
  rw [this]; exact List.getElem_mem h
theorem mem_nth {α : Type} [Dat α] {l : List α} {p : α → Prop} (h : ∀ j, j < l.length → p (nth l j)) : ∀ x ∈ l, p x := fun x hx => by
  obtain ⟨j, hj, rfl⟩ := List.getElem_of_mem hx
  have := h j hj
  rwa [show nth l j = l[j] by simp [nth, hj]] at this
theorem WOk.same {base : Nat} {w0 w : World} {H H' : List HObj} {G : List World} (e : H = H') (h : WOk base w0 H G w) : WOk base w0 H' G w := e ▸ h
instance : Mk Int := ⟨1, fun k => k⟩
/-- A contract of the pure kind as one of the kind that tells the lists. -/
theorem toW {P : Program} {f : FuncId} {vs : Array Value} {base : Nat} {w0 w : World} {H : List HObj} {G : List World} {F : Ys → Prop} {v : Ys → Value} {Hn : Ys → List HObj} {Gn : Ys → List World}
    (hw : WOk base w0 H G w) (h : Calls P f vs w (fun e w' => ∃ y, e = .returned (v y) ∧ F y ∧ Below w.heap.size w w' ∧ NewOk w.heap.size (Hn y) (Gn y) w')) :
    Calls P f vs w (fun e w' => ∃ y, e = .returned (v y) ∧ F y ∧ WOk base w0 (Hn y ++ H) (Gn y ++ G) w') :=
  h.mono fun e w' ⟨y, a, b, c, d⟩ => ⟨y, a, b, hw.grow c d⟩
theorem szIntS_c (A : Option Addr) (c n : Nat) (left : Int) (hl : 0 ≤ left ∧ left ≤ 1048576) (hn : n ≤ maxLen) (w : World) :
    Calls Try.prog 239 #[.slice A n c, .int .i64 left] w fun e w' => ∃ y : Ys, e = .returned (.int .i64 (y 0).n) ∧ (-1 ≤ (y 0).n ∧ (y 0).n ≤ left ∧ (0 ≤ (y 0).n → (n : Int) ≤ left)) ∧ Below w.heap.size w w' ∧ NewOk w.heap.size [] [] w' := by
  unfold maxLen at hn
  refine ok_enter 12 Try.func239 rfl rfl rfl ?_
  repeat' (first
    | refine ok_seq ?_
    | refine ok_then ?_
    | refine ok_then_ret ?_
    | (refine ok_cond rfl (fun hc => ?_) (fun hc => ?_) <;> (have hd := hc; (try simp only [decide_eq_true_eq, decide_eq_false_iff_not, Bool.or_eq_true, Bool.or_eq_false_iff, Bool.and_eq_true, Bool.and_eq_false_iff, Bool.not_eq_true', Bool.not_eq_false', bne_iff_ne, beq_iff_eq, bne_eq_false_iff_eq, beq_eq_false_iff_ne, ne_eq, Bool.not_true, Bool.not_false, Bool.false_eq_true, Bool.true_eq_false, inB_true, inB_false] at hd)))
    | refine ok_ret ?_
    | refine ok_skip ?_
    | (refine ok_region (i := 0) ?_; refine ok_p rfl rfl rfl (by exact ps_assign rfl rfl) ?_; refine ok_nil ?_; refine ok_env [(0, _), (1, _)] ⟨rfl, rfl, trivial⟩ ?_)
    | (refine ok_region (i := 1) ?_; refine ok_p rfl rfl rfl (by exact ps_move rfl rfl) ?_; refine ok_p rfl rfl rfl (by exact ps_move rfl rfl) ?_; refine ok_p rfl rfl rfl (by exact ps_len rfl rfl) ?_; refine ok_p rfl rfl rfl (by exact ps_sub rfl rfl rfl (by omega)) ?_; refine ok_p rfl rfl rfl (by exact ps_assign rfl rfl) ?_; refine ok_nil ?_; refine ok_env [(1, _)] ⟨rfl, trivial⟩ ?_)
    | (refine ok_region (i := 2) ?_; refine ok_p rfl rfl rfl (by exact ps_move rfl rfl) ?_; refine ok_p rfl rfl rfl (by exact ps_int rfl rfl rfl rfl) ?_; refine ok_nil ?_; refine ok_env [(1, _), (10, _)] ⟨rfl, rfl, trivial⟩ ?_)
    | (refine ok_region (i := 3) ?_; refine ok_p rfl rfl rfl (by exact ps_assign rfl rfl) ?_; refine ok_nil ?_; refine ok_env [(4, _)] ⟨rfl, trivial⟩ ?_)
    | (refine ok_region (i := 4) ?_; refine ok_p rfl rfl rfl (by exact ps_move rfl rfl) ?_; refine ok_p rfl rfl rfl (by exact ps_assign rfl rfl) ?_; refine ok_nil ?_; refine ok_env [(4, _)] ⟨rfl, trivial⟩ ?_))
  · exact ok_endL (vs := [_]) rfl ⟨rfl, trivial⟩ (fun w' hw => ⟨mkN (-1) w, rfl, ⟨by show (-1 : Int) ≤ -1; decide, by show (-1 : Int) ≤ left; omega, fun h => absurd h (by show ¬ (0 : Int) ≤ -1; decide)⟩, hw.below, NewOk.nil _ _⟩)
  · exact ok_endL (vs := [_]) rfl ⟨rfl, trivial⟩ (fun w' hw => ⟨mkN (left - n) w, rfl, ⟨by show -1 ≤ left - (n : Int); omega, by show left - (n : Int) ≤ left; omega, fun _ => by omega⟩, hw.below, NewOk.nil _ _⟩)
theorem toIntS_c (A : Option Addr) (c : Nat) (l : List Int) (w : World) (h : Rd w A (fl l)) (hl : l.length ≤ 1048576) :
    Calls Try.prog 240 #[.slice A l.length c] w fun e w' => ∃ y : Ys, e = .returned (.slice (y 0).A l.length (y 0).c) ∧ True ∧ Below w.heap.size w w' ∧ NewOk w.heap.size [.row 3 1 (y 0).A l.length (y 0).c (fl l)] [] w' := by
  refine ok_enter 22 Try.func240 rfl rfl rfl ?_
  repeat' (first
    | refine ok_seq ?_
    | refine ok_then ?_
    | refine ok_block ?_
    | (refine ok_region (i := 0) ?_; refine ok_p rfl rfl rfl (by exact ps_assign rfl rfl) ?_; refine ok_nil ?_; refine ok_env [(0, _)] ⟨rfl, trivial⟩ ?_)
    | (refine ok_region (i := 1) ?_; refine ok_p rfl rfl rfl (by exact ps_move rfl rfl) ?_; refine ok_p rfl rfl rfl (by exact ps_len rfl rfl) ?_; refine ok_m rfl rfl rfl (by exact ms_make (z := [.int .i64 0]) rfl rfl rfl (by omega) (by omega)) ?_; rintro y7 hy7; refine ok_p rfl rfl rfl (by exact ps_assign rfl rfl) ?_; refine ok_nil ?_; refine ok_env [(0, _), (3, _)] ⟨rfl, rfl, trivial⟩ ?_)
    | (refine ok_region (i := 2) ?_; refine ok_p rfl rfl rfl (by exact ps_assign rfl rfl) ?_; refine ok_nil ?_; refine ok_env [(0, _), (3, _), (4, _)] ⟨rfl, rfl, rfl, trivial⟩ ?_))
  rw [show (madeCells [Value.int IntKind.i64 0].toArray (l.length * 1)).toList = fl (List.replicate l.length (0 : Int)) from made_fl (0 : Int) l.length]
  refine ok_loop (ι := { k : Nat // k ≤ l.length }) (fun k => l.length - k.1) (fun k => ([(0, .slice A l.length c), (3, .slice (ga (y7 0).c) l.length l.length), (4, .int .i64 k.1)], [.row 3 1 (ga (y7 0).c) l.length l.length (fl (l.take k.1 ++ List.replicate (l.length - k.1) (0 : Int)))], _)) ⟨0, by omega⟩ (fun a w he hw => ⟨⟨0, by omega⟩, he.sub ⟨rfl, rfl, rfl, trivial⟩, by simpa using hw⟩) ?_
  rintro ⟨k, hk⟩
  simp only at hk ⊢
  repeat' (first
    | refine ok_seq ?_
    | refine ok_then ?_
    | refine ok_block ?_
    | refine ok_in_normal ?_
    | (refine ok_cond rfl (fun hc => ?_) (fun hc => ?_) <;> (have hd := hc; (try simp only [decide_eq_true_eq, decide_eq_false_iff_not, Bool.or_eq_true, Bool.or_eq_false_iff, Bool.and_eq_true, Bool.and_eq_false_iff, Bool.not_eq_true', Bool.not_eq_false', bne_iff_ne, beq_iff_eq, bne_eq_false_iff_eq, beq_eq_false_iff_ne, ne_eq, Bool.not_true, Bool.not_false, Bool.false_eq_true, Bool.true_eq_false, inB_true, inB_false] at hd)))
    | refine ok_ret ?_
    | refine ok_exit ?_
    | refine ok_skip ?_
    | (refine ok_region (i := 3) ?_; refine ok_p rfl rfl rfl (by exact ps_move rfl rfl) ?_; refine ok_p rfl rfl rfl (by exact ps_move rfl rfl) ?_; refine ok_p rfl rfl rfl (by exact ps_len rfl rfl) ?_; refine ok_p rfl rfl rfl (by exact ps_int rfl rfl rfl rfl) ?_; refine ok_nil ?_; refine ok_env [(0, _), (3, _), (4, _), (11, _)] ⟨rfl, rfl, rfl, rfl, trivial⟩ ?_)
    | (refine ok_region (i := 4) ?_; refine ok_p rfl rfl rfl (by exact ps_move rfl rfl) ?_; refine ok_p rfl rfl rfl (by exact ps_add rfl rfl rfl (by omega)) ?_; refine ok_p rfl rfl rfl (by exact ps_assign rfl rfl) ?_; refine ok_nil ?_; refine ok_env [(0, _), (3, _), (4, _)] ⟨rfl, rfl, rfl, trivial⟩ ?_)
    | (refine ok_region (i := 5) ?_; refine ok_p rfl rfl rfl (by exact ps_move rfl rfl) ?_; refine ok_p rfl rfl rfl (by exact ps_move rfl rfl) ?_; refine ok_p rfl rfl rfl (by exact ps_move rfl rfl) ?_; refine ok_p rfl rfl rfl (by exact ps_move rfl rfl) ?_; refine ok_p rfl rfl rfl (by exact ps_indexN rfl rfl rfl (by omega) (by exact isw_of (isS_fl (by assumption) (by omega)))) ?_; refine ok_p rfl rfl rfl (by exact ps_load rfl rfl (by exact Rds.cell (rds_rf (by assumption) (by exact List.mem_cons_self)) (by exact fl_at0 _ _ (by omega) (by decide)))) ?_; refine ok_p rfl rfl rfl (by exact ps_indexN rfl rfl rfl (by omega) (by exact isw_ga _)) ?_; refine ok_m_ rfl rfl (by exact ms_setw 0 k (nth l k) rfl rfl rfl rfl rfl rfl rfl rfl rfl (by simp; omega)) ?_; rintro y_ hy_; refine ok_nil ?_; refine ok_env [(0, _), (3, _), (4, _)] ⟨rfl, rfl, rfl, trivial⟩ ?_)
    | (refine ok_region (i := 6) ?_; refine ok_p rfl rfl rfl (by exact ps_move rfl rfl) ?_; refine ok_p rfl rfl rfl (by exact ps_assign rfl rfl) ?_; refine ok_nil ?_; refine ok_env [(2, _)] ⟨rfl, trivial⟩ ?_))
  · refine fun a w' he hw => ⟨⟨k + 1, by omega⟩, by simp only; omega, he.sub ⟨rfl, rfl, rfl, trivial⟩, ?_⟩
    simp only
    rw [← fill_step l 0 k (by omega)]
    exact hw
  · obtain rfl : k = l.length := by omega
    refine ok_endL (vs := [_]) rfl ⟨rfl, trivial⟩ (fun w' hw => ⟨mkY (ga (y7 0).c) l.length w, rfl, trivial, hw.below, ?_⟩)
    have := NewOk.of hw
    simpa [mkY] using this
theorem eqIntS_c (A B : Option Addr) (c d : Nat) (l : List Int) (w : World) (h : Rd w A (fl l)) (h2 : Rd w B (fl l)) (hl : l.length ≤ 140737488355328) :
    Calls Try.prog 237 #[.slice A l.length c, .slice B l.length d] w fun e w' => e = .returned (.bool true) ∧ Below w.heap.size w w' := by
  refine ok_enter 26 Try.func237 rfl rfl rfl ?_
  repeat' (first
    | refine ok_seq ?_
    | refine ok_then ?_
    | refine ok_then_ret ?_
    | refine ok_block ?_
    | (refine ok_cond rfl (fun hc => ?_) (fun hc => ?_) <;> (have hd := hc; (try simp only [decide_eq_true_eq, decide_eq_false_iff_not, Bool.or_eq_true, Bool.or_eq_false_iff, Bool.and_eq_true, Bool.and_eq_false_iff, Bool.not_eq_true', Bool.not_eq_false', bne_iff_ne, beq_iff_eq, bne_eq_false_iff_eq, beq_eq_false_iff_ne, ne_eq, Bool.not_true, Bool.not_false, Bool.false_eq_true, Bool.true_eq_false, inB_true, inB_false] at hd)))
    | refine ok_ret ?_
    | refine ok_skip ?_
    | (refine ok_region (i := 0) ?_; refine ok_p rfl rfl rfl (by exact ps_assign rfl rfl) ?_; refine ok_nil ?_; refine ok_env [(0, _), (1, _)] ⟨rfl, rfl, trivial⟩ ?_)
    | (refine ok_region (i := 1) ?_; refine ok_p rfl rfl rfl (by exact ps_move rfl rfl) ?_; refine ok_p rfl rfl rfl (by exact ps_len rfl rfl) ?_; refine ok_p rfl rfl rfl (by exact ps_move rfl rfl) ?_; refine ok_p rfl rfl rfl (by exact ps_len rfl rfl) ?_; refine ok_p rfl rfl rfl (by exact ps_int rfl rfl rfl rfl) ?_; refine ok_nil ?_; refine ok_env [(0, _), (1, _), (10, _)] ⟨rfl, rfl, rfl, trivial⟩ ?_)
    | (refine ok_region (i := 2) ?_; refine ok_p rfl rfl rfl (by exact ps_assign rfl rfl) ?_; refine ok_nil ?_; refine ok_env [(4, _)] ⟨rfl, trivial⟩ ?_)
    | (refine ok_region (i := 3) ?_; refine ok_p rfl rfl rfl (by exact ps_assign rfl rfl) ?_; refine ok_nil ?_; refine ok_env [(0, _), (1, _), (5, _)] ⟨rfl, rfl, rfl, trivial⟩ ?_))
  · exact absurd hc (by simp)
  · refine ok_loop (ι := { k : Nat // k ≤ l.length }) (fun k => l.length - k.1) (fun k => ([(0, .slice A l.length c), (1, .slice B l.length d), (5, .int .i64 k.1)], _, _)) ⟨0, by omega⟩ (fun a w he hw => ⟨⟨0, by omega⟩, he.sub ⟨rfl, rfl, rfl, trivial⟩, hw⟩) ?_
    rintro ⟨k, hk⟩
    simp only at hk ⊢
    repeat' (first
      | refine ok_seq ?_
      | refine ok_then ?_
      | refine ok_then_ret ?_
      | refine ok_block ?_
      | refine ok_in_normal ?_
      | refine ok_in_ret ?_
      | (refine ok_cond rfl (fun hc => ?_) (fun hc => ?_) <;> (have hd := hc; (try simp only [decide_eq_true_eq, decide_eq_false_iff_not, Bool.or_eq_true, Bool.or_eq_false_iff, Bool.and_eq_true, Bool.and_eq_false_iff, Bool.not_eq_true', Bool.not_eq_false', bne_iff_ne, beq_iff_eq, bne_eq_false_iff_eq, beq_eq_false_iff_ne, ne_eq, Bool.not_true, Bool.not_false, Bool.false_eq_true, Bool.true_eq_false, inB_true, inB_false] at hd)))
      | refine ok_ret ?_
      | refine ok_exit ?_
      | refine ok_skip ?_
      | (refine ok_region (i := 4) ?_; refine ok_p rfl rfl rfl (by exact ps_move rfl rfl) ?_; refine ok_p rfl rfl rfl (by exact ps_move rfl rfl) ?_; refine ok_p rfl rfl rfl (by exact ps_len rfl rfl) ?_; refine ok_p rfl rfl rfl (by exact ps_int rfl rfl rfl rfl) ?_; refine ok_nil ?_; refine ok_env [(0, _), (1, _), (5, _), (14, _)] ⟨rfl, rfl, rfl, rfl, trivial⟩ ?_)
      | (refine ok_region (i := 5) ?_; refine ok_p rfl rfl rfl (by exact ps_move rfl rfl) ?_; refine ok_p rfl rfl rfl (by exact ps_add rfl rfl rfl (by omega)) ?_; refine ok_p rfl rfl rfl (by exact ps_assign rfl rfl) ?_; refine ok_nil ?_; refine ok_env [(0, _), (1, _), (5, _)] ⟨rfl, rfl, rfl, trivial⟩ ?_)
      | (refine ok_draw (id := 6) 9 rfl (by kernel_rfl) (by kernel_rfl) rfl (by repeat (first | exact pq_body | refine pq_then ?_ | refine pq_in ?_)) [0, 1, 2, 3, 4, 5, 6, 7, 8, 9, 10, 11, 12, 13, 14, 15, 16, 17, 18, 19, 20, 21, 22, 23] (by decide) rfl ?_; refine okT_take (i := 0) rfl (by kernel_rfl) rfl rfl rfl (by exact ps_move rfl rfl) ?_; refine okT_take (i := 1) rfl (by kernel_rfl) rfl rfl rfl (by exact ps_move rfl rfl) ?_; refine okT_take (i := 2) rfl (by kernel_rfl) rfl rfl rfl (by exact ps_indexN rfl rfl rfl (by omega) (by exact isw_of (isS_fl (by assumption) (by omega)))) ?_; refine okT_take (i := 3) rfl (by kernel_rfl) rfl rfl rfl (by exact ps_load rfl rfl (by exact Rds.cell (rds_rf (by assumption) (by exact List.mem_cons_self)) (by exact fl_at0 _ _ (by omega) (by decide)))) ?_; refine okT_take (i := 4) rfl (by kernel_rfl) rfl rfl rfl (by exact ps_move rfl rfl) ?_; refine okT_take (i := 5) rfl (by kernel_rfl) rfl rfl rfl (by exact ps_move rfl rfl) ?_; refine okT_take (i := 6) rfl (by kernel_rfl) rfl rfl rfl (by exact ps_indexN rfl rfl rfl (by omega) (by exact isw_of (isS_fl (by assumption) (by omega)))) ?_; refine okT_take (i := 7) rfl (by kernel_rfl) rfl rfl rfl (by exact ps_load rfl rfl (by exact Rds.cell (rds_rf (by assumption) (by exact List.mem_cons_self)) (by exact fl_at0 _ _ (by omega) (by decide)))) ?_; refine okT_take (i := 8) rfl (by kernel_rfl) rfl rfl rfl (by exact ps_int rfl rfl rfl rfl) ?_; refine okT_done (by kernel_rfl) ?_; refine ok_nil ?_; refine ok_env [(0, _), (1, _), (5, _), (25, _)] ⟨rfl, rfl, rfl, rfl, trivial⟩ ?_)
      | (refine ok_region (i := 7) ?_; refine ok_p rfl rfl rfl (by exact ps_assign rfl rfl) ?_; refine ok_nil ?_; refine ok_env [(4, _)] ⟨rfl, trivial⟩ ?_)
      | (refine ok_region (i := 8) ?_; refine ok_p rfl rfl rfl (by exact ps_assign rfl rfl) ?_; refine ok_nil ?_; refine ok_env [(4, _)] ⟨rfl, trivial⟩ ?_))
    · exact absurd hc (by simp)
    · exact fun a w' he hw => ⟨⟨k + 1, by omega⟩, by simp only; omega, he.sub ⟨rfl, rfl, rfl, trivial⟩, hw⟩
    · exact ok_endL (vs := [_]) rfl ⟨rfl, trivial⟩ (fun w' hw => ⟨rfl, hw.below⟩)
theorem markIntS_c0 (A : Option Addr) (c : Nat) (l : List Int) (k0 : Int) (hk0 : 0 ≤ k0 ∧ k0 ≤ 1000000000000000) (hl : l.length ≤ 140737488355328) {base : Nat} {w0 w : World} {H : List HObj} {G : List World}
    (hw : WOk base w0 (.row 3 1 A l.length c (fl l) :: H) G w) :
    Calls Try.prog 190 #[.slice A l.length c, .int .i64 k0] w fun e w' => ∃ y : Ys, e = .returned (.int .i64 (k0 + l.length)) ∧ True ∧ WOk base w0 (.row 3 1 A l.length c (fl (mkL k0 l.length : List Int)) :: H) G w' := by
  refine ok_enterW 19 Try.func190 rfl rfl rfl hw ?_
  repeat' (first
    | refine ok_seq ?_
    | refine ok_then ?_
    | refine ok_block ?_
    | (refine ok_region (i := 0) ?_; refine ok_p rfl rfl rfl (by exact ps_assign rfl rfl) ?_; refine ok_nil ?_; refine ok_env [(0, _), (1, _)] ⟨rfl, rfl, trivial⟩ ?_)
    | (refine ok_region (i := 1) ?_; refine ok_p rfl rfl rfl (by exact ps_assign rfl rfl) ?_; refine ok_nil ?_; refine ok_env [(0, _), (1, _), (5, _)] ⟨rfl, rfl, rfl, trivial⟩ ?_))
  refine ok_loop (ι := { k : Nat // k ≤ l.length }) (fun k => l.length - k.1) (fun k => ([(0, .slice A l.length c), (1, .int .i64 (k0 + k.1)), (5, .int .i64 k.1)], .row 3 1 A l.length c (fl (mkL k0 k.1 ++ l.drop k.1)) :: H, _)) ⟨0, by omega⟩ (fun a w he hw => ⟨⟨0, by omega⟩, he.sub ⟨rfl, by simp [look, initE], rfl, trivial⟩, by simpa [mkL] using hw⟩) ?_
  rintro ⟨k, hk⟩
  simp only at hk ⊢
  repeat' (first
    | refine ok_seq ?_
    | refine ok_then ?_
    | refine ok_block ?_
    | refine ok_in_normal ?_
    | (refine ok_cond rfl (fun hc => ?_) (fun hc => ?_) <;> (have hd := hc; (try simp only [decide_eq_true_eq, decide_eq_false_iff_not, Bool.or_eq_true, Bool.or_eq_false_iff, Bool.and_eq_true, Bool.and_eq_false_iff, Bool.not_eq_true', Bool.not_eq_false', bne_iff_ne, beq_iff_eq, bne_eq_false_iff_eq, beq_eq_false_iff_ne, ne_eq, Bool.not_true, Bool.not_false, Bool.false_eq_true, Bool.true_eq_false, inB_true, inB_false] at hd)))
    | refine ok_ret ?_
    | refine ok_exit ?_
    | refine ok_skip ?_
    | (refine ok_region (i := 2) ?_; refine ok_p rfl rfl rfl (by exact ps_move rfl rfl) ?_; refine ok_p rfl rfl rfl (by exact ps_move rfl rfl) ?_; refine ok_p rfl rfl rfl (by exact ps_len rfl rfl) ?_; refine ok_p rfl rfl rfl (by exact ps_int rfl rfl rfl rfl) ?_; refine ok_nil ?_; refine ok_env [(0, _), (1, _), (5, _), (9, _)] ⟨rfl, rfl, rfl, rfl, trivial⟩ ?_)
    | (refine ok_region (i := 3) ?_; refine ok_p rfl rfl rfl (by exact ps_move rfl rfl) ?_; refine ok_p rfl rfl rfl (by exact ps_add rfl rfl rfl (by omega)) ?_; refine ok_p rfl rfl rfl (by exact ps_assign rfl rfl) ?_; refine ok_nil ?_; refine ok_env [(0, _), (1, _), (5, _)] ⟨rfl, rfl, rfl, trivial⟩ ?_)
    | (refine ok_region (i := 4) ?_; refine ok_p rfl rfl rfl (by exact ps_move rfl rfl) ?_; refine ok_p rfl rfl rfl (by exact ps_move rfl rfl) ?_; refine ok_p rfl rfl rfl (by exact ps_move rfl rfl) ?_; refine ok_p rfl rfl rfl (by exact ps_indexN rfl rfl rfl (by omega) (by exact isw_row 0 rfl (by omega))) ?_; refine ok_m_ rfl rfl (by exact ms_setw 0 k (k0 + k) rfl rfl rfl rfl rfl rfl rfl rfl rfl (by simp [mkL_len]; omega)) ?_; rintro y_ hy_; refine ok_nil ?_; refine ok_env [(0, _), (1, _), (5, _)] ⟨rfl, rfl, rfl, trivial⟩ ?_)
    | (refine ok_region (i := 5) ?_; refine ok_p rfl rfl rfl (by exact ps_move rfl rfl) ?_; refine ok_p rfl rfl rfl (by exact ps_add rfl rfl rfl (by omega)) ?_; refine ok_p rfl rfl rfl (by exact ps_assign rfl rfl) ?_; refine ok_nil ?_; refine ok_env [(0, _), (1, _), (5, _)] ⟨rfl, rfl, rfl, trivial⟩ ?_)
    | (refine ok_region (i := 6) ?_; refine ok_p rfl rfl rfl (by exact ps_move rfl rfl) ?_; refine ok_p rfl rfl rfl (by exact ps_assign rfl rfl) ?_; refine ok_nil ?_; refine ok_env [(4, _)] ⟨rfl, trivial⟩ ?_))
  · refine fun a w' he hw => ⟨⟨k + 1, by omega⟩, by simp only; omega, he.sub ⟨rfl, ?_, rfl, trivial⟩, ?_⟩
    · simp only [look]; congr 2; simp; omega
    · have e := mk_step l k0 k (by omega)
      rw [show (Mk.mkv (k0 + Mk.cnt Int * (k : Int)) : Int) = k0 + k from by show k0 + 1 * (k : Int) = _; omega] at e
      simp only
      rw [← e]
      exact hw
  · obtain rfl : k = l.length := by omega
    refine ok_endL (vs := [_]) rfl ⟨rfl, trivial⟩ (fun w' hw => ⟨mkY none 0 w, rfl, trivial, ?_⟩)
    simpa using hw
theorem heldIntS_c0 (A : Option Addr) (c : Nat) (n : Nat) (k0 : Int) (hk0 : 0 ≤ k0 ∧ k0 ≤ 1000000000000000) (hl : n ≤ 140737488355328) (w : World) (h : Rd w A (fl (mkL k0 n : List Int))) :
    Calls Try.prog 191 #[.slice A n c, .int .i64 k0] w fun e w' => e = .returned (.int .i64 (k0 + n)) ∧ Below w.heap.size w w' := by
  have hln : (mkL k0 n : List Int).length = n := mkL_len k0 n
  refine ok_enter 21 Try.func191 rfl rfl rfl ?_
  repeat' (first
    | refine ok_seq ?_
    | refine ok_then ?_
    | refine ok_block ?_
    | (refine ok_region (i := 0) ?_; refine ok_p rfl rfl rfl (by exact ps_assign rfl rfl) ?_; refine ok_nil ?_; refine ok_env [(0, _), (1, _)] ⟨rfl, rfl, trivial⟩ ?_)
    | (refine ok_region (i := 1) ?_; refine ok_p rfl rfl rfl (by exact ps_assign rfl rfl) ?_; refine ok_nil ?_; refine ok_env [(0, _), (1, _), (5, _)] ⟨rfl, rfl, rfl, trivial⟩ ?_))
  refine ok_loop (ι := { k : Nat // k ≤ n }) (fun k => n - k.1) (fun k => ([(0, .slice A n c), (1, .int .i64 (k0 + k.1)), (5, .int .i64 k.1)], _, _)) ⟨0, by omega⟩ (fun a w he hw => ⟨⟨0, by omega⟩, he.sub ⟨rfl, by simp [look, initE], rfl, trivial⟩, hw⟩) ?_
  rintro ⟨k, hk⟩
  simp only at hk ⊢
  repeat' (first
    | refine ok_seq ?_
    | refine ok_then ?_
    | refine ok_then_ret ?_
    | refine ok_block ?_
    | refine ok_in_normal ?_
    | refine ok_in_ret ?_
    | (refine ok_cond rfl (fun hc => ?_) (fun hc => ?_) <;> (have hd := hc; (try simp only [decide_eq_true_eq, decide_eq_false_iff_not, Bool.or_eq_true, Bool.or_eq_false_iff, Bool.and_eq_true, Bool.and_eq_false_iff, Bool.not_eq_true', Bool.not_eq_false', bne_iff_ne, beq_iff_eq, bne_eq_false_iff_eq, beq_eq_false_iff_ne, ne_eq, Bool.not_true, Bool.not_false, Bool.false_eq_true, Bool.true_eq_false, inB_true, inB_false] at hd)))
    | refine ok_ret ?_
    | refine ok_exit ?_
    | refine ok_skip ?_
    | (refine ok_region (i := 2) ?_; refine ok_p rfl rfl rfl (by exact ps_move rfl rfl) ?_; refine ok_p rfl rfl rfl (by exact ps_move rfl rfl) ?_; refine ok_p rfl rfl rfl (by exact ps_len rfl rfl) ?_; refine ok_p rfl rfl rfl (by exact ps_int rfl rfl rfl rfl) ?_; refine ok_nil ?_; refine ok_env [(0, _), (1, _), (5, _), (9, _)] ⟨rfl, rfl, rfl, rfl, trivial⟩ ?_)
    | (refine ok_region (i := 3) ?_; refine ok_p rfl rfl rfl (by exact ps_move rfl rfl) ?_; refine ok_p rfl rfl rfl (by exact ps_add rfl rfl rfl (by omega)) ?_; refine ok_p rfl rfl rfl (by exact ps_assign rfl rfl) ?_; refine ok_nil ?_; refine ok_env [(0, _), (1, _), (5, _)] ⟨rfl, rfl, rfl, trivial⟩ ?_)
    | (refine ok_region (i := 4) ?_; refine ok_p rfl rfl rfl (by exact ps_move rfl rfl) ?_; refine ok_p rfl rfl rfl (by exact ps_move rfl rfl) ?_; refine ok_p rfl rfl rfl (by exact ps_indexN rfl rfl rfl (by omega) (by exact isw_of (isS_fl (by assumption) (by omega)))) ?_; refine ok_p rfl rfl rfl (by exact ps_load rfl rfl (by exact Rds.cell (rds_rf (by assumption) (by exact List.mem_cons_self)) (by exact fl_at0 _ _ (by omega) (by decide)))) ?_; refine ok_p rfl rfl rfl (by exact ps_move rfl rfl) ?_; refine ok_p rfl rfl rfl (by exact ps_int rfl rfl rfl rfl) ?_; refine ok_nil ?_; refine ok_env [(0, _), (1, _), (5, _), (17, _)] ⟨rfl, rfl, rfl, rfl, trivial⟩ ?_)
    | (refine ok_region (i := 5) ?_; refine ok_p rfl rfl rfl (by exact ps_assign rfl rfl) ?_; refine ok_nil ?_; refine ok_env [(4, _)] ⟨rfl, trivial⟩ ?_)
    | (refine ok_region (i := 6) ?_; refine ok_p rfl rfl rfl (by exact ps_move rfl rfl) ?_; refine ok_p rfl rfl rfl (by exact ps_add rfl rfl rfl (by omega)) ?_; refine ok_p rfl rfl rfl (by exact ps_assign rfl rfl) ?_; refine ok_nil ?_; refine ok_env [(0, _), (1, _), (5, _)] ⟨rfl, rfl, rfl, trivial⟩ ?_)
    | (refine ok_region (i := 7) ?_; refine ok_p rfl rfl rfl (by exact ps_move rfl rfl) ?_; refine ok_p rfl rfl rfl (by exact ps_assign rfl rfl) ?_; refine ok_nil ?_; refine ok_env [(4, _)] ⟨rfl, trivial⟩ ?_))
  all_goals try (have hnth := mkL_nth (α := Int) k0 n k (by omega))
  · exact absurd hd (by rw [hnth]; show ¬ ¬ (k0 + 1 * (k : Int) = k0 + k); omega)
  · refine fun a w' he hw => ⟨⟨k + 1, by omega⟩, by simp only; omega, he.sub ⟨rfl, ?_, rfl, trivial⟩, hw⟩
    simp only [look]; congr 2; simp; omega
  · obtain rfl : k = n := by omega
    exact ok_endL (vs := [_]) rfl ⟨rfl, trivial⟩ (fun w' hw => ⟨rfl, hw.below⟩)
theorem markIntS_c (A : Option Addr) (c : Nat) (l : List Int) (k0 : Int) (hk0 : 0 ≤ k0 ∧ k0 ≤ 1000000000000000) (hl : l.length ≤ 140737488355328) {base : Nat} {w0 w : World} {H : List HObj} {G : List World}
    (hw : WOk base w0 (.row 3 1 A l.length c (fl l) :: H) G w) :
    Calls Try.prog 190 #[.slice A l.length c, .int .i64 k0] w fun e w' => ∃ y : Ys, e = .returned (.int .i64 (k0 + 1 * (l.length : Int))) ∧ True ∧ WOk base w0 (.row 3 1 A l.length c (fl (mkL k0 l.length : List Int)) :: H) G w' := by
  rw [Int.one_mul]; exact markIntS_c0 A c l k0 hk0 hl hw
theorem heldIntS_c (A : Option Addr) (c : Nat) (n : Nat) (k0 : Int) (hk0 : 0 ≤ k0 ∧ k0 ≤ 1000000000000000) (hl : n ≤ 140737488355328) (w : World) (h : Rd w A (fl (mkL k0 n : List Int))) :
    Calls Try.prog 191 #[.slice A n c, .int .i64 k0] w fun e w' => e = .returned (.int .i64 (k0 + 1 * (n : Int))) ∧ Below w.heap.size w w' := by
  rw [Int.one_mul]; exact heldIntS_c0 A c n k0 hk0 hl w h
end Go.Proofs.Ytgeifmdcoiijgaa
