/- Finding and deleting in a row by a function; cache rows. -/
import Derived.Test.YtfcnimglcialbaaEng10
import Derived.Test.YtfcnimglcialbaaCln
import Derived.Test.YtfcnimglcialbaaBtCache
import Derived.Test.YtfcnimglcialbaaDlt
namespace Go.Proofs.Ytfcnimglcialbaa
open Go.RowKit
set_option maxHeartbeats 4000000
set_option maxRecDepth 20000
set_option linter.unusedVariables false
set_option linter.unusedSimpArgs false
/-- The first index at which a test holds; -1 where none does. -/
def ixF {α : Type} [Dat α] (p : α → Bool) (l : List α) : Nat → Nat → Int
  | 0, _ => -1
  | f + 1, k => bif p (nth l k) then (k : Int) else ixF p l f (k + 1)
def ixP {α : Type} [Dat α] (p : α → Bool) (l : List α) : Int := ixF p l l.length 0
theorem ixF_or {α : Type} [Dat α] (p : α → Bool) (l : List α) : ∀ f k, (ixF p l f k = -1 ∧ ∀ j, k ≤ j → j < k + f → p (nth l j) = false) ∨ (∃ i : Nat, ixF p l f k = i ∧ k ≤ i ∧ i < k + f ∧ p (nth l i) = true ∧ ∀ j, k ≤ j → j < i → p (nth l j) = false)
  | 0, k => .inl ⟨rfl, fun j a b => by omega⟩
  | f + 1, k => by
    unfold ixF
    cases h : p (nth l k) with
    | true => exact .inr ⟨k, rfl, by omega, by omega, h, fun j a b => by omega⟩
    | false =>
      rcases ixF_or p l f (k + 1) with ⟨a, b⟩ | ⟨i, a, b, c, d, e⟩
      · refine .inl ⟨a, fun j h1 h2 => ?_⟩
        rcases Nat.eq_or_lt_of_le h1 with rfl | h3
        · exact h
        · exact b j h3 (by omega)
      · refine .inr ⟨i, a, by omega, by omega, d, fun j h1 h2 => ?_⟩
        rcases Nat.eq_or_lt_of_le h1 with rfl | h3
        · exact h
        · exact e j h3 h2
theorem ixP_or {α : Type} [Dat α] (p : α → Bool) (l : List α) : (ixP p l = -1 ∧ ∀ j, j < l.length → p (nth l j) = false) ∨ (∃ i : Nat, ixP p l = i ∧ i < l.length ∧ p (nth l i) = true ∧ ∀ j, j < i → p (nth l j) = false) := by
  rcases ixF_or p l l.length 0 with ⟨a, b⟩ | ⟨i, a, b, c, d, e⟩
  · exact .inl ⟨a, fun j h => b j (by omega) (by omega)⟩
  · exact .inr ⟨i, a, by omega, d, fun j h => e j (by omega) h⟩
theorem ixF_step {α : Type} [Dat α] {p : α → Bool} {l : List α} {k : Nat} (h : k < l.length) : ixF p l (l.length - k) k = bif p (nth l k) then (k : Int) else ixF p l (l.length - (k + 1)) (k + 1) := by
  rw [show l.length - k = (l.length - (k + 1)) + 1 by omega, ixF]
section
variable {P : Program} {E : Env} {H : List HObj} {G : List World} {o : Oper}
theorem add_zero_all (A : Option Addr) (k : Nat) : A.map (·.add (0 * k)) = A := by
  cases A <;> simp [Addr.add]
theorem ps_slice0 {x : Operand} {hi : Operand} {t e sz bytes : TypeId} {A : Option Addr} {n c : Nat} {h : Nat} {z : Int} {k : IntKind} [ht : EL P t e sz bytes] (ho : o.op = .slice t x none (some hi) none) (hx : opd E x = some (.slice A n c))
    (hhi : opd E hi = some (.int k z)) (hz : z = (h : Int)) (h2 : h ≤ c) : PStep P E H G o (.slice A h c) := by
  subst hz
  have := ps_slice (P := P) (E := E) (H := H) (G := G) (l := 0) (h := h) ho hx rfl ⟨k, hhi⟩ (by omega) h2
  rw [add_zero_all] at this
  simpa using this
theorem ps_sliceE {x : Operand} {lo : Operand} {t e sz bytes : TypeId} {A : Option Addr} {n c : Nat} {l : Nat} {z : Int} {k : IntKind} [ht : EL P t e sz bytes] (ho : o.op = .slice t x (some lo) none none) (hx : opd E x = some (.slice A n c))
    (hlo : opd E lo = some (.int k z)) (hz : z = (l : Int)) (h1 : l ≤ n) (h2 : n ≤ c) : PStep P E H G o (.slice (if c = l then A else A.map (·.add (l * sz))) (n - l) (c - l)) := by
  subst hz
  exact ps_slice (l := l) (h := n) ho hx ⟨k, hlo⟩ rfl h1 h2
theorem ps_sliceEE {x : Operand} {lo hi : Operand} {t e sz bytes : TypeId} {A : Option Addr} {n c : Nat} {l h : Nat} {z z' : Int} {k k' : IntKind} [ht : EL P t e sz bytes] (ho : o.op = .slice t x (some lo) (some hi) none) (hx : opd E x = some (.slice A n c))
    (hlo : opd E lo = some (.int k z)) (hhi : opd E hi = some (.int k' z')) (hz : z = (l : Int)) (hz' : z' = (h : Int)) (h1 : l ≤ h) (h2 : h ≤ c) : PStep P E H G o (.slice (if c = l then A else A.map (·.add (l * sz))) (h - l) (c - l)) := by
  subst hz hz'
  exact ps_slice (l := l) (h := h) ho hx ⟨k, hlo⟩ ⟨k', hhi⟩ h1 h2
theorem fl_drop {α : Type} [Dat α] : ∀ (l : List α) (i : Nat), (fl l).drop (i * Dat.sz α) = fl (l.drop i)
  | [], i => by simp [fl]
  | x :: l, 0 => by simp [fl]
  | x :: l, i + 1 => by
    have ih := fl_drop l i
    rw [List.drop_succ_cons, fl_cons, ← ih]
    have : (i + 1) * Dat.sz α = (Dat.cells x).length + i * Dat.sz α := by rw [Dat.len, Nat.add_mul]; omega
    rw [this, List.drop_length_add_append]
theorem rds_tail {α : Type} [Dat α] {A : Option Addr} {c j sz : Nat} {L : List α} (h : Rds H G A (fl L)) (hs : Dat.sz α = sz) (hc : L.length ≤ c) (hj : j ≤ L.length) : Rds H G (if c = j then A else A.map (·.add (j * sz))) (fl (L.drop j)) := by
  by_cases h0 : c = j
  · rw [if_pos h0, List.drop_of_length_le (by omega)]
    exact fun _ _ w _ => Rd.nil w A
  · rw [if_neg h0]
    have := h.sub (i := j * sz) (n := (fl L).length)
    rw [← hs, fl_drop, List.take_of_length_le (by rw [fl_len, fl_len, List.length_drop]; exact Nat.mul_le_mul_right _ (by omega)), hs] at this
    exact this
end
theorem own_cap {w : World} {base e sz n c : Nat} {A : Option Addr} {us : List Value} (h : Own w base e sz A n c us) : n ≤ c := by
  obtain ⟨_, ⟨hA, hn⟩ | ⟨g, cap, cur, hA, _, _, hnc, _⟩⟩ := h
  · omega
  · injection hA with _ _ h3; omega
def Keeps (m w : World) : Prop := ∀ p u, m.cell? p = some u → w.cell? p = some u
theorem Rd.keeps {m w : World} {A : Option Addr} {us : List Value} (h : Rd m A us) (hk : Keeps m w) : Rd w A us := fun j u hu => by
  obtain ⟨ad, e, hc⟩ := h j u hu
  exact ⟨ad, e, hk _ _ hc⟩
theorem WOk.keeps {m w w0 : World} {base : Nat} {H : List HObj} {G : List World} (hw : WOk base w0 H G w) (hm : m ∈ G) : Keeps m w := fun p u hp => (hw.ref m hm p u hp).1
attribute [local irreducible] Calls
theorem index_c (f : FuncId) [hF : FN Try.prog f] (cs : List Value) (p : CRow → Bool) (A : Option Addr) (c : Nat) (R : List CRow) (w : World) (h : Rd w A (fl R)) (hl : R.length ≤ 4194304)
    (hf : ∀ (x : CRow) (w' : World), Keeps w w' → Calls Try.prog f (Value.agg (Dat.cells x).toArray :: cs).toArray w' (fun e w'' => e = .returned (.bool (p x)) ∧ Below w'.heap.size w' w'')) :
    Calls Try.prog 202 #[.slice A R.length c, .func (.func f) #[] cs.toArray] w fun e w' => e = .returned (.int .i64 (ixP p R)) ∧ Below w.heap.size w w' := by
  refine ok_enter 19 Try.func202 rfl rfl rfl ?_
  repeat' (first
    | refine ok_seq ?_
    | refine ok_then ?_
    | refine ok_block ?_
    | (refine ok_region (i := 0) ?_; refine ok_p rfl rfl rfl (by exact ps_assign rfl rfl) ?_; refine ok_nil ?_; refine ok_env [(0, _), (1, _)] ⟨rfl, rfl, trivial⟩ ?_)
    | (refine ok_region (i := 1) ?_; refine ok_p rfl rfl rfl (by exact ps_move rfl rfl) ?_; refine ok_p rfl rfl rfl (by exact ps_len rfl rfl) ?_; refine ok_p rfl rfl rfl (by exact ps_move rfl rfl) ?_; refine ok_nil ?_; refine ok_env [(0, _), (1, _), (7, _), (8, _)] ⟨rfl, rfl, rfl, rfl, trivial⟩ ?_))
  refine ok_loop (ι := { k : Nat // k ≤ R.length ∧ ixP p R = ixF p R (R.length - k) k }) (fun k => R.length - k.1) (fun k => ([(0, .slice A R.length c), (1, .func (.func f) #[] cs.toArray), (7, .int .i64 R.length), (8, .int .i64 k.1)], _, _)) ⟨0, by omega, rfl⟩ (fun a w he hw => ⟨⟨0, by omega, rfl⟩, he.sub ⟨rfl, rfl, rfl, rfl, trivial⟩, hw⟩) ?_
  rintro ⟨k, hk, hr⟩
  simp only at hk hr ⊢
  have HR := Lib.hid hr; clear hr
  repeat' (first
    | refine ok_seq ?_
    | refine ok_then ?_
    | refine ok_then_ret ?_
    | refine ok_block ?_
    | refine ok_in_normal ?_
    | refine ok_in_ret ?_
    | (refine ok_cond rfl (fun hc => ?_) (fun hc => ?_) <;> (have hd := hc; (try simp only [decide_eq_true_eq, decide_eq_false_iff_not, Bool.or_eq_true, Bool.or_eq_false_iff, Bool.and_eq_true, Bool.and_eq_false_iff, Bool.not_eq_true', Bool.not_eq_false', bne_iff_ne, beq_iff_eq, bne_eq_false_iff_eq, beq_eq_false_iff_ne, ne_eq, Bool.not_true, Bool.not_false, Bool.false_eq_true, Bool.true_eq_false, inB_true, inB_false] at hd)))
    | refine ok_ret ?_
    | refine ok_exit ?_
    | refine ok_skip ?_
    | (refine ok_region (i := 2) ?_; refine ok_p rfl rfl rfl (by exact ps_int rfl rfl rfl rfl) ?_; refine ok_nil ?_; refine ok_env [(0, _), (1, _), (7, _), (8, _), (9, _)] ⟨rfl, rfl, rfl, rfl, rfl, trivial⟩ ?_)
    | (refine ok_region (i := 3) ?_; refine ok_p rfl rfl rfl (by exact ps_move rfl rfl) ?_; refine ok_p rfl rfl rfl (by exact ps_assign rfl rfl) ?_; refine ok_nil ?_; refine ok_env [(0, _), (1, _), (5, _), (7, _), (8, _)] ⟨rfl, rfl, rfl, rfl, rfl, trivial⟩ ?_)
    | (refine ok_region (i := 4) ?_; refine ok_p rfl rfl rfl (by exact ps_move rfl rfl) ?_; refine ok_p rfl rfl rfl (by exact ps_move rfl rfl) ?_; refine ok_p rfl rfl rfl (by exact ps_move rfl rfl) ?_; refine ok_p rfl rfl rfl (by exact ps_indexN rfl rfl rfl (by omega) (by exact isw_of (isS_fl (by assumption) (by omega)))) ?_; refine ok_p rfl rfl rfl (by exact ps_loadsF rfl rfl (by exact rds_rf (by assumption) (by exact List.mem_cons_self)) (by rfl) (by rfl) (by omega) rfl) ?_; refine ok_m rfl rfl rfl (by exact ms_k1 rfl rfl rfl (fun _ _ w' hw => hf (nth R k) w' (hw.keeps (by exact List.mem_cons_self)))) ?_; rintro y16 hy16; refine ok_nil ?_; refine ok_env [(0, _), (1, _), (5, _), (7, _), (8, _), (16, _)] ⟨rfl, rfl, rfl, rfl, rfl, rfl, trivial⟩ ?_)
    | (refine ok_region (i := 5) ?_; refine ok_p rfl rfl rfl (by exact ps_move rfl rfl) ?_; refine ok_p rfl rfl rfl (by exact ps_assign rfl rfl) ?_; refine ok_nil ?_; refine ok_env [(4, _)] ⟨rfl, trivial⟩ ?_)
    | (refine ok_region (i := 6) ?_; refine ok_p rfl rfl rfl (by exact ps_add rfl rfl rfl (by omega)) ?_; refine ok_p rfl rfl rfl (by exact ps_move rfl rfl) ?_; refine ok_nil ?_; refine ok_env [(0, _), (1, _), (7, _), (8, _)] ⟨rfl, rfl, rfl, rfl, trivial⟩ ?_)
    | (refine ok_region (i := 7) ?_; refine ok_p rfl rfl rfl (by exact ps_assign rfl rfl) ?_; refine ok_nil ?_; refine ok_env [(4, _)] ⟨rfl, trivial⟩ ?_))
  · have e : ixP p R = (k : Int) := by rw [HR.out, ixF_step (by omega), hc]; rfl
    rw [e]
    exact ok_endL (vs := [_]) rfl ⟨rfl, trivial⟩ (fun w' hw => ⟨rfl, hw.below⟩)
  · have e : ixF p R (R.length - k) k = ixF p R (R.length - (k + 1)) (k + 1) := by rw [ixF_step (by omega), hc]; rfl
    exact fun a w' he hw => ⟨⟨k + 1, by omega, HR.out.trans e⟩, by simp only; omega, he.sub ⟨rfl, rfl, rfl, rfl, trivial⟩, hw⟩
  · obtain rfl : k = R.length := by omega
    have e : ixP p R = -1 := by rw [HR.out, Nat.sub_self]; rfl
    rw [e]
    exact ok_endL (vs := [_]) rfl ⟨rfl, trivial⟩ (fun w' hw => ⟨rfl, hw.below⟩)
instance : OneC CRow := ⟨fun x u hu => by
  have : u = .int .i64 x.tenant ∨ u = .int .i64 x.no ∨ u = .string x.text := by simpa [Dat.cells] using hu
  rcases this with rfl | rfl | rfl <;> rfl⟩
theorem cloneC_c (A : Option Addr) (c : Nat) (L : List CRow) (w : World) (h : Rd w A (fl L)) (m : L.length ≤ 4194304) :
    Calls Try.prog 201 #[.slice A L.length c] w fun e w' => ∃ y : Ys, e = .returned (.slice (y 0).A L.length (y 0).c) ∧ True ∧ Below w.heap.size w w' ∧ NewOk w.heap.size [.row 132 3 (y 0).A L.length (y 0).c (fl L)] [] w' := by
  refine ok_enter 8 Try.func201 rfl rfl rfl ?_
  repeat' (first
    | refine ok_seq ?_
    | refine ok_then ?_
    | refine ok_then_ret ?_
    | (refine ok_cond rfl (fun hc => ?_) (fun hc => ?_) <;> (have hd := hc; (try simp only [decide_eq_true_eq, decide_eq_false_iff_not, Bool.or_eq_true, Bool.or_eq_false_iff, Bool.and_eq_true, Bool.and_eq_false_iff, Bool.not_eq_true', Bool.not_eq_false', bne_iff_ne, beq_iff_eq, bne_eq_false_iff_eq, beq_eq_false_iff_ne, ne_eq, Bool.not_true, Bool.not_false, Bool.false_eq_true, Bool.true_eq_false, inB_true, inB_false] at hd)))
    | refine ok_ret ?_
    | refine ok_skip ?_
    | (refine ok_region (i := 0) ?_; refine ok_p rfl rfl rfl (by exact ps_assign rfl rfl) ?_; refine ok_nil ?_; refine ok_env [(0, _)] ⟨rfl, trivial⟩ ?_)
    | (refine ok_region (i := 1) ?_; refine ok_p rfl rfl rfl (by exact ps_move rfl rfl) ?_; refine ok_p rfl rfl rfl (by exact ps_eql_nil rfl rfl) ?_; refine ok_nil ?_; refine ok_env [(0, _), (4, _)] ⟨rfl, rfl, trivial⟩ ?_)
    | (refine ok_region (i := 2) ?_; refine ok_p rfl rfl rfl (by exact ps_assign rfl rfl) ?_; refine ok_nil ?_; refine ok_env [(2, _)] ⟨rfl, trivial⟩ ?_)
    | (refine ok_region (i := 3) ?_; refine ok_m rfl rfl rfl (by exact ms_lit rfl parts_nil rfl rfl rfl) ?_; rintro y5 hy5; refine ok_p rfl rfl rfl (by exact ps_move rfl rfl) ?_; refine ok_m rfl rfl rfl (by exact ms_app0 (M := L) 0 rfl rfl rfl rfl (rds_rf h (by exact List.mem_cons_self)) rfl (by omega) (by omega)) ?_; rintro y7 hy7; refine ok_p rfl rfl rfl (by exact ps_assign rfl rfl) ?_; refine ok_nil ?_; refine ok_env [(2, _)] ⟨rfl, trivial⟩ ?_))
  · have h0 : L = [] := by
      cases A with
      | some a => cases hc
      | none =>
        rcases L with _ | ⟨x, l⟩
        · rfl
        · have := isS_fl h (by simp); obtain ⟨ad, e⟩ := this; cases e
    subst h0
    refine ok_endL (vs := [_]) rfl ⟨rfl, trivial⟩ (fun w' hw => ?_)
    refine ⟨mkY none 0 w, ?_, trivial, hw.below, ?_⟩
    · rfl
    · exact NewOk.one (x := .row 132 3 none 0 0 (fl ([] : List CRow))) (Own.nil w' w.heap.size 132 3)
  · refine ok_endL (vs := [_]) rfl ⟨rfl, trivial⟩ (fun w' hw => ?_)
    refine ⟨yl [y7 0] (y7 0), ?_, trivial, hw.below, ?_⟩
    · rfl
    · have := NewOk.of (hw.sel [0] (by decide) rfl (fun _ h => h))
      exact this
/-- slices.Delete of a piece that is not empty, in an own row. -/
theorem delete_c (A : Option Addr) (c i j : Nat) (R : List CRow) (hij : i < j) (hj : j ≤ R.length) (hl : R.length ≤ 4194304) {base : Nat} {w0 w : World} {H : List HObj} {G : List World} (hw : WOk base w0 (.row 132 3 A R.length c (fl R) :: H) G w) :
    Calls Try.prog 101 #[.slice A R.length c, .int .i64 i, .int .i64 j] w fun e w' => ∃ y : Ys, e = .returned (.slice A (R.take i ++ R.drop j).length c) ∧ True ∧ WOk base w0 (.row 132 3 A (R.take i ++ R.drop j).length c (fl (R.take i ++ R.drop j)) :: H) G w' := by
  have hc := own_cap (hw.own _ List.mem_cons_self)
  have hlen : (R.take i ++ R.drop j).length = i + (R.length - j) := by simp; omega
  have hdl : (R.drop j).length = R.length - j := by simp
  refine ok_enterW 33 Try.func101 rfl rfl rfl hw ?_
  repeat' (first
    | refine ok_seq ?_
    | refine ok_then ?_
    | refine ok_then_ret ?_
    | (refine ok_cond rfl (fun hc => ?_) (fun hc => ?_) <;> (have hd := hc; (try simp only [decide_eq_true_eq, decide_eq_false_iff_not, Bool.or_eq_true, Bool.or_eq_false_iff, Bool.and_eq_true, Bool.and_eq_false_iff, Bool.not_eq_true', Bool.not_eq_false', bne_iff_ne, beq_iff_eq, bne_eq_false_iff_eq, beq_eq_false_iff_ne, ne_eq, Bool.not_true, Bool.not_false, Bool.false_eq_true, Bool.true_eq_false, inB_true, inB_false] at hd)))
    | refine ok_ret ?_
    | refine ok_skip ?_
    | (refine ok_region (i := 0) ?_; refine ok_p rfl rfl rfl (by exact ps_assign rfl rfl) ?_; refine ok_nil ?_; refine ok_env [(0, _), (1, _), (2, _)] ⟨rfl, rfl, rfl, trivial⟩ ?_)
    | (refine ok_region (i := 1) ?_; refine ok_p rfl rfl rfl (by exact ps_move rfl rfl) ?_; refine ok_p rfl rfl rfl (by exact ps_move rfl rfl) ?_; refine ok_p rfl rfl rfl (by exact ps_move rfl rfl) ?_; refine ok_p rfl rfl rfl (by exact ps_move rfl rfl) ?_; refine ok_p rfl rfl rfl (by exact ps_len rfl rfl) ?_; refine ok_p rfl rfl rfl (by exact ps_slice3 rfl rfl rfl rfl rfl (by omega) (by omega) (by omega)) ?_; refine ok_nil ?_; refine ok_env [(0, _), (1, _), (2, _)] ⟨rfl, rfl, rfl, trivial⟩ ?_)
    | (refine ok_region (i := 2) ?_; refine ok_p rfl rfl rfl (by exact ps_move rfl rfl) ?_; refine ok_p rfl rfl rfl (by exact ps_move rfl rfl) ?_; refine ok_p rfl rfl rfl (by exact ps_int rfl rfl rfl rfl) ?_; refine ok_nil ?_; refine ok_env [(0, _), (1, _), (2, _), (16, _)] ⟨rfl, rfl, rfl, rfl, trivial⟩ ?_)
    | (refine ok_region (i := 3) ?_; refine ok_p rfl rfl rfl (by exact ps_move rfl rfl) ?_; refine ok_p rfl rfl rfl (by exact ps_assign rfl rfl) ?_; refine ok_nil ?_; refine ok_env [(6, _)] ⟨rfl, trivial⟩ ?_)
    | (refine ok_region (i := 4) ?_; refine ok_p rfl rfl rfl (by exact ps_move rfl rfl) ?_; refine ok_p rfl rfl rfl (by exact ps_len rfl rfl) ?_; refine ok_p rfl rfl rfl (by exact ps_assign rfl rfl) ?_; refine ok_nil ?_; refine ok_env [(0, _), (1, _), (2, _), (7, _)] ⟨rfl, rfl, rfl, rfl, trivial⟩ ?_)
    | (refine ok_draw (id := 5) 8 rfl (by kernel_rfl) (by kernel_rfl) rfl (by repeat (first | exact pq_body | refine pq_then ?_ | refine pq_in ?_)) [] (by decide) rfl ?_; refine okT_take (i := 0) rfl (by kernel_rfl) rfl rfl rfl (by exact ps_move rfl rfl) ?_; refine okT_take (i := 1) rfl (by kernel_rfl) rfl rfl rfl (by exact ps_move rfl rfl) ?_; refine okT_take (i := 2) rfl (by kernel_rfl) rfl rfl rfl (by exact ps_slice0 (h := i) rfl rfl rfl rfl (by omega)) ?_; refine okT_take (i := 3) rfl (by kernel_rfl) rfl rfl rfl (by exact ps_move rfl rfl) ?_; refine okT_take (i := 4) rfl (by kernel_rfl) rfl rfl rfl (by exact ps_move rfl rfl) ?_; refine okT_take (i := 5) rfl (by kernel_rfl) rfl rfl rfl (by exact ps_sliceE (l := j) rfl rfl rfl rfl (by omega) (by omega)) ?_; refine okT_one (i := 6) rfl rfl (by kernel_rfl) rfl rfl rfl (by exact ms_appin (α := CRow) (L := R) (M := R.drop j) 0 rfl rfl rfl rfl (rds_tail (rds_row 0 rfl) rfl (by omega) (by omega)) rfl (by omega) (by omega) (by omega) (by omega)) (fun y w _ h => by exact h.sel [] (by decide) rfl (fun _ h => h)) ?_; rintro y26 hy26; refine okT_take (i := 7) rfl (by kernel_rfl) rfl rfl rfl (by exact ps_assign rfl rfl) ?_; refine okT_done (by kernel_rfl) ?_; refine ok_nil ?_; refine ok_env [(0, _), (7, _)] ⟨rfl, rfl, trivial⟩ ?_))
  · omega
  have e2 : i + (R.drop j).length = (R.take i ++ R.drop j).length := by omega
  have e3 : (R.take i ++ R.drop j).take (i + (R.length - j)) = R.take i ++ R.drop j := List.take_of_length_le (by omega)
  repeat' (first
    | refine ok_seq ?_
    | refine ok_then ?_
    | refine ok_ret ?_
    | (refine ok_region (i := 6) ?_; refine ok_p rfl rfl rfl (by exact ps_move rfl rfl) ?_; refine ok_p rfl rfl rfl (by exact ps_move rfl rfl) ?_; refine ok_p rfl rfl rfl (by exact ps_len rfl rfl) ?_; refine ok_p rfl rfl rfl (by exact ps_move rfl rfl) ?_; refine ok_p rfl rfl rfl (by exact ps_sliceEE (l := i + (R.length - j)) (h := R.length) rfl rfl rfl rfl rfl rfl (by omega) (by omega)) ?_; refine ok_m_ rfl rfl (by exact ms_clear (α := CRow) (L := R.take i ++ R.drop j) (q := i + (R.length - j)) (z := [.int .i64 0, .int .i64 0, .string ⟨#[]⟩]) 0 rfl rfl (fun h => if_neg (by omega)) rfl rfl (by omega) (by omega) (by decide)) ?_; rintro y_ hy_; refine ok_nil ?_; refine ok_env [(0, _)] ⟨rfl, trivial⟩ ?_)
    | (refine ok_region (i := 7) ?_; refine ok_p rfl rfl rfl (by exact ps_move rfl rfl) ?_; refine ok_p rfl rfl rfl (by exact ps_assign rfl rfl) ?_; refine ok_nil ?_; refine ok_env [(6, _)] ⟨rfl, trivial⟩ ?_))
  rw [hlen]
  refine ok_endL (vs := [_]) rfl ⟨rfl, trivial⟩ (fun w' hw => ⟨mkY none 0 w, rfl, trivial, ?_⟩)
  rw [e3] at hw
  exact hw
/-- slices.DeleteFunc in an own row. -/
structure DelI (R : List CRow) (p : CRow → Bool) where
  i : Nat
  j : Nat
  L : List CRow
  hl : L.length = R.length
  hi : L.take i = (R.take j).filter (fun x => !p x)
  hil : i = ((R.take j).filter (fun x => !p x)).length
  hd : L.drop j = R.drop j
  hj : j ≤ R.length
theorem DelI.le {R : List CRow} {p : CRow → Bool} (q : DelI R p) : q.i ≤ q.j := by
  have h1 := q.hil
  have h2 := List.length_filter_le (fun x => !p x) (R.take q.j)
  rw [List.length_take] at h2
  omega
theorem takeN {R : List CRow} {j : Nat} (h : j < R.length) : R.take (j + 1) = R.take j ++ [nth R j] := by
  rw [List.take_add_one, List.getElem?_eq_getElem h]
  simp [nth, h]
theorem dropN {R : List CRow} {j : Nat} (h : j < R.length) : R.drop j = nth R j :: R.drop (j + 1) := by
  rw [List.drop_eq_getElem_cons h]
  simp [nth, h]
def DelI.keep {R : List CRow} {p : CRow → Bool} (q : DelI R p) (h : q.j < R.length) (hp : p (nth R q.j) = false) : DelI R p :=
  ⟨q.i + 1, q.j + 1, q.L.set q.i (nth R q.j), by rw [List.length_set]; exact q.hl, by
    have hle := q.le
    have hlt : q.i < q.L.length := by rw [q.hl]; omega
    rw [takeN h, List.filter_append, ← q.hi]
    simp only [List.filter_cons, hp, Bool.not_false, if_true, List.filter_nil]
    rw [List.take_add_one, List.take_set_of_le (Nat.le_refl _), List.getElem?_set_self hlt]; rfl, by
    rw [takeN h, List.filter_append, List.length_append, ← q.hil]
    simp [hp], by
    have hle := q.le
    rw [List.drop_set_of_lt (by omega)]
    have := congrArg (List.drop 1) q.hd
    simpa [List.drop_drop] using this, by omega⟩
def DelI.skip {R : List CRow} {p : CRow → Bool} (q : DelI R p) (h : q.j < R.length) (hp : p (nth R q.j) = true) : DelI R p :=
  ⟨q.i, q.j + 1, q.L, q.hl, by
    rw [takeN h, List.filter_append, ← q.hi]
    simp [hp], by
    rw [takeN h, List.filter_append, List.length_append, ← q.hil]
    simp [hp], by
    have := congrArg (List.drop 1) q.hd
    simpa [List.drop_drop] using this, by omega⟩
theorem DelI.at_ {R : List CRow} {p : CRow → Bool} (q : DelI R p) (h : q.j < R.length) : nth q.L q.j = nth R q.j := by
  have e := q.hd
  have hl := q.hl
  rw [dropN h, dropN (show q.j < q.L.length by omega)] at e
  exact (List.cons.inj e).1
theorem take_keep {R : List CRow} {p : CRow → Bool} {i : Nat} (h : i ≤ R.length) (hn : ∀ j, j < i → p (nth R j) = false) : (R.take i).filter (fun x => !p x) = R.take i := by
  rw [List.filter_eq_self]
  intro x hx
  obtain ⟨j, hj, rfl⟩ := List.getElem_of_mem hx
  rw [List.length_take] at hj
  have := hn j (by omega)
  rw [show nth R j = R[j]'(by omega) by simp [nth, show j < R.length by omega]] at this
  rw [List.getElem_take, this]; rfl
def DelI.start {R : List CRow} {p : CRow → Bool} {i : Nat} (h : i < R.length) (hp : p (nth R i) = true) (hn : ∀ j, j < i → p (nth R j) = false) : DelI R p :=
  ⟨i, i + 1, R, rfl, by
    rw [takeN h, List.filter_append, take_keep (by omega) hn]
    simp [hp], by
    rw [takeN h, List.filter_append, take_keep (by omega) hn]
    simp [hp]; omega, rfl, by omega⟩
theorem deleteF_c (f : FuncId) [hF : FN Try.prog f] (cs : List Value) (p : CRow → Bool) (A : Option Addr) (c : Nat) (R : List CRow) (hl : R.length ≤ 4194304) {base : Nat} {w0 w : World} {H : List HObj} {G : List World}
    (RD : World → Prop) (hk : ∀ w w', RD w → Keeps w w' → RD w') (hr : ∀ base w0 w' G, WOk base w0 H G w' → RD w')
    (hf : ∀ (x : CRow) (w' : World), RD w' → Calls Try.prog f (Value.agg (Dat.cells x).toArray :: cs).toArray w' (fun e w'' => e = .returned (.bool (p x)) ∧ Below w'.heap.size w' w''))
    (hw : WOk base w0 (.row 132 3 A R.length c (fl R) :: H) G w) :
    Calls Try.prog 105 #[.slice A R.length c, .func (.func f) #[] cs.toArray] w fun e w' => ∃ y : Ys, e = .returned (.slice A (R.filter (fun x => !p x)).length c) ∧ True ∧ WOk base w0 (.row 132 3 A (R.filter (fun x => !p x)).length c (fl (R.filter (fun x => !p x))) :: H) G w' := by
  have hc := own_cap (hw.own _ List.mem_cons_self)
  refine ok_enterW 42 Try.func105 rfl rfl rfl hw ?_
  rcases ixP_or p R with ⟨e0, hn⟩ | ⟨i, e0, hi, hp, hn⟩
  · have e1 : R.filter (fun x => !p x) = R := by have := take_keep (p := p) (Nat.le_refl R.length) hn; rwa [List.take_length] at this
    rw [e1]
    repeat' (first
      | refine ok_seq ?_
      | refine ok_then ?_
      | refine ok_then_ret ?_
      | refine ok_block ?_
      | (refine ok_cond rfl (fun hc => ?_) (fun hc => ?_) <;> (have hd := hc; (try simp only [decide_eq_true_eq, decide_eq_false_iff_not, Bool.or_eq_true, Bool.or_eq_false_iff, Bool.and_eq_true, Bool.and_eq_false_iff, Bool.not_eq_true', Bool.not_eq_false', bne_iff_ne, beq_iff_eq, bne_eq_false_iff_eq, beq_eq_false_iff_ne, ne_eq, Bool.not_true, Bool.not_false, Bool.false_eq_true, Bool.true_eq_false, inB_true, inB_false] at hd)))
      | refine ok_ret ?_
      | refine ok_skip ?_
      | (refine ok_region (i := 0) ?_; refine ok_p rfl rfl rfl (by exact ps_assign rfl rfl) ?_; refine ok_nil ?_; refine ok_env [(0, _), (1, _)] ⟨rfl, rfl, trivial⟩ ?_)
      | (refine ok_region (i := 1) ?_; refine ok_p rfl rfl rfl (by exact ps_move rfl rfl) ?_; refine ok_p rfl rfl rfl (by exact ps_move rfl rfl) ?_; refine ok_m rfl rfl rfl (by exact ms_s2 rfl rfl rfl (fun _ _ w' hw => index_c f cs p A c R w' (Rd.of_own (hw.own _ List.mem_cons_self)) hl (fun x w'' hb => hf x w'' (hk _ _ (hr _ _ _ _ hw.tl) hb)))) ?_; rintro y10 hy10; refine ok_p rfl rfl rfl (by exact ps_assign rfl rfl) ?_; refine ok_nil ?_; refine ok_env [(0, _), (1, _), (5, _)] ⟨rfl, rfl, rfl, trivial⟩ ?_)
      | (refine ok_region (i := 2) ?_; refine ok_p rfl rfl rfl (by exact ps_move rfl rfl) ?_; refine ok_p rfl rfl rfl (by exact ps_int rfl rfl rfl rfl) ?_; refine ok_nil ?_; refine ok_env [(0, _), (1, _), (5, _), (12, _)] ⟨rfl, rfl, rfl, rfl, trivial⟩ ?_)
      | (refine ok_region (i := 3) ?_; refine ok_p rfl rfl rfl (by exact ps_move rfl rfl) ?_; refine ok_p rfl rfl rfl (by exact ps_assign rfl rfl) ?_; refine ok_nil ?_; refine ok_env [(4, _)] ⟨rfl, trivial⟩ ?_)
      | (refine ok_region (i := 4) ?_; refine ok_p rfl rfl rfl (by exact ps_move rfl rfl) ?_; refine ok_p rfl rfl rfl (by exact ps_add rfl rfl rfl (by omega)) ?_; refine ok_p rfl rfl rfl (by exact ps_assign rfl rfl) ?_; refine ok_nil ?_; refine ok_env [(0, _), (1, _), (5, _), (6, _)] ⟨rfl, rfl, rfl, rfl, trivial⟩ ?_))
    · exact ok_endL (vs := [_]) rfl ⟨rfl, trivial⟩ (fun w' hw => ⟨mkY none 0 w, rfl, trivial, hw⟩)
    · exfalso; omega
  · skip
    repeat' (first
      | refine ok_seq ?_
      | refine ok_then ?_
      | refine ok_then_ret ?_
      | refine ok_block ?_
      | (refine ok_cond rfl (fun hc => ?_) (fun hc => ?_) <;> (have hd := hc; (try simp only [decide_eq_true_eq, decide_eq_false_iff_not, Bool.or_eq_true, Bool.or_eq_false_iff, Bool.and_eq_true, Bool.and_eq_false_iff, Bool.not_eq_true', Bool.not_eq_false', bne_iff_ne, beq_iff_eq, bne_eq_false_iff_eq, beq_eq_false_iff_ne, ne_eq, Bool.not_true, Bool.not_false, Bool.false_eq_true, Bool.true_eq_false, inB_true, inB_false] at hd)))
      | refine ok_ret ?_
      | refine ok_skip ?_
      | (refine ok_region (i := 0) ?_; refine ok_p rfl rfl rfl (by exact ps_assign rfl rfl) ?_; refine ok_nil ?_; refine ok_env [(0, _), (1, _)] ⟨rfl, rfl, trivial⟩ ?_)
      | (refine ok_region (i := 1) ?_; refine ok_p rfl rfl rfl (by exact ps_move rfl rfl) ?_; refine ok_p rfl rfl rfl (by exact ps_move rfl rfl) ?_; refine ok_m rfl rfl rfl (by exact ms_s2 rfl rfl rfl (fun _ _ w' hw => index_c f cs p A c R w' (Rd.of_own (hw.own _ List.mem_cons_self)) hl (fun x w'' hb => hf x w'' (hk _ _ (hr _ _ _ _ hw.tl) hb)))) ?_; rintro y10 hy10; refine ok_p rfl rfl rfl (by exact ps_assign rfl rfl) ?_; refine ok_nil ?_; refine ok_env [(0, _), (1, _), (5, _)] ⟨rfl, rfl, rfl, trivial⟩ ?_)
      | (refine ok_region (i := 2) ?_; refine ok_p rfl rfl rfl (by exact ps_move rfl rfl) ?_; refine ok_p rfl rfl rfl (by exact ps_int rfl rfl rfl rfl) ?_; refine ok_nil ?_; refine ok_env [(0, _), (1, _), (5, _), (12, _)] ⟨rfl, rfl, rfl, rfl, trivial⟩ ?_)
      | (refine ok_region (i := 3) ?_; refine ok_p rfl rfl rfl (by exact ps_move rfl rfl) ?_; refine ok_p rfl rfl rfl (by exact ps_assign rfl rfl) ?_; refine ok_nil ?_; refine ok_env [(4, _)] ⟨rfl, trivial⟩ ?_)
      | (refine ok_region (i := 4) ?_; refine ok_p rfl rfl rfl (by exact ps_move rfl rfl) ?_; refine ok_p rfl rfl rfl (by exact ps_add rfl rfl rfl (by omega)) ?_; refine ok_p rfl rfl rfl (by exact ps_assign rfl rfl) ?_; refine ok_nil ?_; refine ok_env [(0, _), (1, _), (5, _), (6, _)] ⟨rfl, rfl, rfl, rfl, trivial⟩ ?_))
    · exfalso; omega
    rw [e0]
    refine ok_loop (ι := DelI R p) (fun q => R.length - q.j) (fun q => ([(0, .slice A R.length c), (1, .func (.func f) #[] cs.toArray), (5, .int .i64 q.i), (6, .int .i64 q.j)], .row 132 3 A R.length c (fl q.L) :: H, _)) (DelI.start hi hp hn) (fun a w he hw => ⟨DelI.start hi hp hn, he.sub ⟨rfl, rfl, rfl, rfl, trivial⟩, hw⟩) ?_
    intro q
    simp only
    have q1 := q.le
    have q2 := q.hj
    have q3 := q.hl
    repeat' (first
      | refine ok_seq ?_
      | refine ok_then ?_
      | refine ok_block ?_
      | refine ok_in_normal ?_
      | (refine ok_cond rfl (fun hc => ?_) (fun hc => ?_) <;> (have hd := hc; (try simp only [decide_eq_true_eq, decide_eq_false_iff_not, Bool.or_eq_true, Bool.or_eq_false_iff, Bool.and_eq_true, Bool.and_eq_false_iff, Bool.not_eq_true', Bool.not_eq_false', bne_iff_ne, beq_iff_eq, bne_eq_false_iff_eq, beq_eq_false_iff_ne, ne_eq, Bool.not_true, Bool.not_false, Bool.false_eq_true, Bool.true_eq_false, inB_true, inB_false] at hd)))
      | refine ok_exit ?_
      | refine ok_skip ?_
      | (refine ok_region (i := 5) ?_; refine ok_p rfl rfl rfl (by exact ps_move rfl rfl) ?_; refine ok_p rfl rfl rfl (by exact ps_move rfl rfl) ?_; refine ok_p rfl rfl rfl (by exact ps_len rfl rfl) ?_; refine ok_p rfl rfl rfl (by exact ps_int rfl rfl rfl rfl) ?_; refine ok_nil ?_; refine ok_env [(0, _), (1, _), (5, _), (6, _), (19, _)] ⟨rfl, rfl, rfl, rfl, rfl, trivial⟩ ?_)
      | (refine ok_region (i := 6) ?_; refine ok_p rfl rfl rfl (by exact ps_move rfl rfl) ?_; refine ok_p rfl rfl rfl (by exact ps_add rfl rfl rfl (by omega)) ?_; refine ok_p rfl rfl rfl (by exact ps_assign rfl rfl) ?_; refine ok_nil ?_; refine ok_env [(0, _), (1, _), (5, _), (6, _)] ⟨rfl, rfl, rfl, rfl, trivial⟩ ?_)
      | (refine ok_region (i := 7) ?_; refine ok_p rfl rfl rfl (by exact ps_move rfl rfl) ?_; refine ok_p rfl rfl rfl (by exact ps_move rfl rfl) ?_; refine ok_p rfl rfl rfl (by exact ps_indexN rfl rfl rfl (by omega) (by exact isw_row 0 rfl (by omega))) ?_; refine ok_p rfl rfl rfl (by exact ps_loadsF rfl rfl (by exact rds_row 0 rfl) (by rfl) (by rfl) (by omega) rfl) ?_; refine ok_m rfl rfl rfl (by exact ms_alloc rfl) ?_; rintro y7 hy7; refine ok_m_ rfl rfl (by exact ms_store 0 rfl rfl rfl rfl rfl rfl rfl rfl) ?_; rintro y_ hy_; refine ok_nil ?_; refine ok_env [(0, _), (1, _), (5, _), (6, _), (7, _)] ⟨rfl, rfl, rfl, rfl, rfl, trivial⟩ ?_)
      | (refine ok_region (i := 8) ?_; refine ok_p rfl rfl rfl (by exact ps_move rfl rfl) ?_; refine ok_p rfl rfl rfl (by exact ps_loads rfl rfl (by exact rds_box 0 rfl) rfl rfl (by decide)) ?_; refine ok_m rfl rfl rfl (by exact ms_k1 rfl rfl rfl (fun _ _ w' hw => hf (nth q.L q.j) w' (hr _ _ _ _ hw.tl.tl))) ?_; rintro y28 hy28; refine ok_p rfl rfl rfl (by exact ps_not rfl rfl) ?_; refine ok_nil ?_; refine ok_env [(0, _), (1, _), (5, _), (6, _), (7, _), (29, _)] ⟨rfl, rfl, rfl, rfl, rfl, rfl, trivial⟩ ?_)
      | (refine ok_region (i := 9) ?_; refine ok_p rfl rfl rfl (by exact ps_move rfl rfl) ?_; refine ok_p rfl rfl rfl (by exact ps_move rfl rfl) ?_; refine ok_p rfl rfl rfl (by exact ps_loads rfl rfl (by exact rds_box 0 rfl) rfl rfl (by decide)) ?_; refine ok_p rfl rfl rfl (by exact ps_indexN rfl rfl rfl (by omega) (by exact isw_row 1 rfl (by omega))) ?_; refine ok_m_ rfl rfl (by exact ms_setw (α := CRow) 1 q.i (nth q.L q.j) rfl rfl rfl rfl rfl rfl rfl rfl rfl (by omega)) ?_; rintro y_ hy_; refine ok_nil ?_; refine ok_env [(0, _), (1, _), (5, _), (6, _)] ⟨rfl, rfl, rfl, rfl, trivial⟩ ?_)
      | (refine ok_region (i := 10) ?_; refine ok_p rfl rfl rfl (by exact ps_move rfl rfl) ?_; refine ok_p rfl rfl rfl (by exact ps_add rfl rfl rfl (by omega)) ?_; refine ok_p rfl rfl rfl (by exact ps_assign rfl rfl) ?_; refine ok_nil ?_; refine ok_env [(0, _), (1, _), (5, _), (6, _)] ⟨rfl, rfl, rfl, rfl, trivial⟩ ?_))
    · have e := q.at_ (by omega)
      have hp' : p (nth R q.j) = false := by rw [← e]; exact hd
      refine fun a w' he hw => ⟨q.keep (by omega) hp', by simp only [DelI.keep]; omega, he.sub ⟨rfl, rfl, rfl, rfl, trivial⟩, ?_⟩
      rw [e] at hw
      exact hw.tl
    · have e := q.at_ (by omega)
      have hp' : p (nth R q.j) = true := by rw [← e]; exact hd
      exact fun a w' he hw => ⟨q.skip (by omega) hp', by simp only [DelI.skip]; omega, he.sub ⟨rfl, rfl, rfl, rfl, trivial⟩, hw.tl⟩
    have e2 : q.L.take q.i = R.filter (fun x => !p x) := by
      rw [q.hi, List.take_of_length_le (by omega)]
    have e3 : (R.filter (fun x => !p x)).length = q.i := by
      have := q.hil
      rw [List.take_of_length_le (by omega)] at this
      exact this.symm
    repeat' (first
      | refine ok_seq ?_
      | refine ok_then ?_
      | refine ok_ret ?_
      | (refine ok_region (i := 11) ?_; refine ok_p rfl rfl rfl (by exact ps_move rfl rfl) ?_; refine ok_p rfl rfl rfl (by exact ps_move rfl rfl) ?_; refine ok_p rfl rfl rfl (by exact ps_sliceE (l := q.i) rfl rfl rfl rfl (by omega) (by omega)) ?_; refine ok_m_ rfl rfl (by exact ms_clear (α := CRow) (L := q.L) (q := q.i) (z := [.int .i64 0, .int .i64 0, .string ⟨#[]⟩]) 0 rfl rfl (fun h => if_neg (by omega)) rfl rfl (by omega) (by omega) (by decide)) ?_; rintro y_ hy_; refine ok_nil ?_; refine ok_env [(0, _), (5, _)] ⟨rfl, rfl, trivial⟩ ?_)
      | (refine ok_region (i := 12) ?_; refine ok_p rfl rfl rfl (by exact ps_move rfl rfl) ?_; refine ok_p rfl rfl rfl (by exact ps_move rfl rfl) ?_; refine ok_p rfl rfl rfl (by exact ps_slice0 (h := q.i) rfl rfl rfl rfl (by omega)) ?_; refine ok_p rfl rfl rfl (by exact ps_assign rfl rfl) ?_; refine ok_nil ?_; refine ok_env [(4, _)] ⟨rfl, trivial⟩ ?_))
    rw [e3]
    refine ok_endL (vs := [_]) rfl ⟨rfl, trivial⟩ (fun w' hw => ⟨mkY none 0 w, rfl, trivial, ?_⟩)
    rw [e2] at hw
    exact hw
end Go.Proofs.Ytfcnimglcialbaa
