/- Texts of this claim, one behind the other: BfCRow, FlCRow, BtCache, Cch, Eng13, Byt, EngF, TnE, TnL, WFnTurns, Jn. -/
import Derived.Test.YtfcnimglcialbaaMt
import Derived.Test.YtfcnimglcialbaaFgt0
import Derived.Test.YtfcnimglcialbaaEng10
import Derived.Test.YtfcnimglcialbaaCln
import Derived.Test.YtfcnimglcialbaaDlt
import Derived.Test.YtfcnimglcialbaaEng12
import Derived.Lib.AppendZerosOnto
import Derived.Lib.Overlaps
import Derived.Test.YtfcnimglcialbaaEng11
import Derived.Test.YtfcnimglcialbaaTab
import Derived.Test.YtfcnimglcialbaaEng9
import Derived.Test.YtfcnimglcialbaaTnO
import Derived.Test.YtfcnimglcialbaaDrE
import Derived.Test.YtfcnimglcialbaaEnc
import Derived.Test.YtfcnimglcialbaaRows
import Derived.ProofKit
import Derived.JoinedOf
/- CRow: rows of it: size, copy, comparison, marks. -/
namespace Go.Proofs.Ytfcnimglcialbaa
open Go.RowKit
set_option maxHeartbeats 2000000
set_option maxRecDepth 20000
set_option linter.unusedVariables false
set_option linter.unusedSimpArgs false
attribute [local irreducible] Calls
structure CRow where
  tenant : Int
  no : Int
  text : ByteArray
  deriving DecidableEq
instance : Dat CRow := ⟨3, fun x => [.int .i64 x.tenant, .int .i64 x.no, .string x.text], fun _ => rfl, ⟨0, 0, ⟨#[]⟩⟩⟩
instance : Mk CRow := ⟨3, fun q => ⟨q, q + 1, mT (q + 1 + 1)⟩⟩
def wtCRow (x : CRow) : Prop := x.text.size ≤ 1048576
def bigCRow (x : CRow) : Prop := x.text.size ≤ maxLen
end Go.Proofs.Ytfcnimglcialbaa
/- The record CRow by its type. -/
namespace Go.Proofs.Ytfcnimglcialbaa
open Go.RowKit
set_option linter.unusedVariables false
set_option linter.unusedSimpArgs false
abbrev gCRow : GT := .st [.int, .int, .str]
theorem flatCRow : FlatAt gCRow (α := CRow) (fun x => ⟨x.1, x.2.1, x.2.2.1⟩) bigCRow := fun w x c h => by
  obtain ⟨a0, a1, a2, u⟩ := x
  obtain ⟨c0, d0, rfl, h0, e0⟩ := RdTL.cons.1 (RdT.st.1 h)
  obtain ⟨c1, d1, rfl, h1, e1⟩ := RdTL.cons.1 e0
  obtain ⟨c2, d2, rfl, h2, e2⟩ := RdTL.cons.1 e1
  rw [RdTL.nil] at e2; subst e2
  obtain ⟨rfl, b0⟩ := RdT.int.1 h0
  obtain ⟨rfl, b1⟩ := RdT.int.1 h1
  obtain ⟨rfl, b2⟩ := RdT.str.1 h2
  exact ⟨rfl, b2⟩
end Go.Proofs.Ytfcnimglcialbaa
/- Cache in the uniform style: size, copy, comparison, marks. -/
namespace Go.Proofs.Ytfcnimglcialbaa
open Go.RowKit
set_option maxHeartbeats 4000000
set_option maxRecDepth 20000
set_option linter.unusedVariables false
set_option linter.unusedSimpArgs false
attribute [local irreducible] Calls
structure DCache where
  cap : Int
  R : List CRow
  deriving DecidableEq
def Cache_val (x : DCache) (y : Ys) : Value := .agg #[.int .i64 x.cap, .slice (y 0).A x.R.length (y 0).c]
def Cache_obj (x : DCache) (y : Ys) : List HObj := [.row 132 3 (y 0).A x.R.length (y 0).c (fl x.R)]
def Cache_rd (w : World) (x : DCache) (y : Ys) : Prop := Rd w (y 0).A (fl x.R)
def Cache_big (x : DCache) : Prop := (x.R.length ≤ maxLen ∧ ∀ u ∈ x.R, bigCRow u)
def Cache_sm (x : DCache) : Prop := (x.R.length ≤ 1048576 ∧ ∀ u ∈ x.R, wtCRow u)
def Cache_lim (x : DCache) : Prop := x.R.length ≤ 4194304
def Cache_cnt (x : DCache) (k : Int) : Int := (k + 3 * (x.R.length : Int))
def Cache_mk (k : Int) (x : DCache) : DCache := { x with R := mkL k x.R.length }
theorem Cache_cnt_le (x : DCache) (k : Int) (h : Cache_lim x) : k ≤ Cache_cnt x k ∧ Cache_cnt x k ≤ k + 12582912 := by
  unfold Cache_lim at h; unfold Cache_cnt; omega
theorem Cache_sm_lim {x : DCache} (h : Cache_sm x) : Cache_lim x := by
  unfold Cache_sm at h; unfold Cache_lim; have := h.1; omega
theorem Cache_rf {m w w0 : World} {base : Nat} {H : List HObj} {G : List World} {x : DCache} {y : Ys} (h : Cache_rd m x y) (hm : m ∈ G) (hw : WOk base w0 H G w) : Cache_rd w x y := hw.keep h hm
theorem Cache_of {w w0 : World} {base : Nat} {H : List HObj} {G : List World} {x : DCache} {y : Ys} (hw : WOk base w0 (Cache_obj x y ++ H) G w) : Cache_rd w x y := hw.row 0 rfl
end Go.Proofs.Ytfcnimglcialbaa
/- Finding and deleting in a row by a function; cache rows. -/
namespace Go.Proofs.Ytfcnimglcialbaa
open Go.RowKit
set_option maxHeartbeats 4000000
set_option maxRecDepth 20000
set_option linter.unusedVariables false
set_option linter.unusedSimpArgs false
/-- The first index at which a test holds; -1 where none does. -/
def ixF {α : Type} [Dat α] (p : α → Bool) (l : List α) : Nat → Nat → Int
  | 0, _ => -1
  | f + 1, k => bif p (nth l k) then (k : Int) else ixF p l f (k + 1)
def ixP {α : Type} [Dat α] (p : α → Bool) (l : List α) : Int := ixF p l l.length 0
theorem ixF_or {α : Type} [Dat α] (p : α → Bool) (l : List α) : ∀ f k, (ixF p l f k = -1 ∧ ∀ j, k ≤ j → j < k + f → p (nth l j) = false) ∨ (∃ i : Nat, ixF p l f k = i ∧ k ≤ i ∧ i < k + f ∧ p (nth l i) = true ∧ ∀ j, k ≤ j → j < i → p (nth l j) = false)
  | 0, k => .inl ⟨rfl, fun j a b => by omega⟩
  | f + 1, k => by
    unfold ixF
    cases h : p (nth l k) with
    | true => exact .inr ⟨k, rfl, by omega, by omega, h, fun j a b => by omega⟩
    | false =>
      rcases ixF_or p l f (k + 1) with ⟨a, b⟩ | ⟨i, a, b, c, d, e⟩
      · refine .inl ⟨a, fun j h1 h2 => ?_⟩
        rcases Nat.eq_or_lt_of_le h1 with rfl | h3
        · exact h
        · exact b j h3 (by omega)
      · refine .inr ⟨i, a, by omega, by omega, d, fun j h1 h2 => ?_⟩
        rcases Nat.eq_or_lt_of_le h1 with rfl | h3
        · exact h
        · exact e j h3 h2
theorem ixP_or {α : Type} [Dat α] (p : α → Bool) (l : List α) : (ixP p l = -1 ∧ ∀ j, j < l.length → p (nth l j) = false) ∨ (∃ i : Nat, ixP p l = i ∧ i < l.length ∧ p (nth l i) = true ∧ ∀ j, j < i → p (nth l j) = false) := by
  rcases ixF_or p l l.length 0 with ⟨a, b⟩ | ⟨i, a, b, c, d, e⟩
  · exact .inl ⟨a, fun j h => b j (by omega) (by omega)⟩
  · exact .inr ⟨i, a, by omega, d, fun j h => e j (by omega) h⟩
theorem ixF_step {α : Type} [Dat α] {p : α → Bool} {l : List α} {k : Nat} (h : k < l.length) : ixF p l (l.length - k) k = bif p (nth l k) then (k : Int) else ixF p l (l.length - (k + 1)) (k + 1) := by
  rw [show l.length - k = (l.length - (k + 1)) + 1 by omega, ixF]
section
variable {P : Program} {E : Env} {H : List HObj} {G : List World} {o : Oper}
theorem add_zero_all (A : Option Addr) (k : Nat) : A.map (·.add (0 * k)) = A := by
  cases A <;> simp [Addr.add]
theorem ps_slice0 {x : Operand} {hi : Operand} {t e sz bytes : TypeId} {A : Option Addr} {n c : Nat} {h : Nat} {z : Int} {k : IntKind} [ht : EL P t e sz bytes] (ho : o.op = .slice t x none (some hi) none) (hx : opd E x = some (.slice A n c))
    (hhi : opd E hi = some (.int k z)) (hz : z = (h : Int)) (h2 : h ≤ c) : PStep P E H G o (.slice A h c) := by
  subst hz
  have := ps_slice (P := P) (E := E) (H := H) (G := G) (l := 0) (h := h) ho hx rfl ⟨k, hhi⟩ (by omega) h2
  rw [add_zero_all] at this
  simpa using this
theorem ps_sliceE {x : Operand} {lo : Operand} {t e sz bytes : TypeId} {A : Option Addr} {n c : Nat} {l : Nat} {z : Int} {k : IntKind} [ht : EL P t e sz bytes] (ho : o.op = .slice t x (some lo) none none) (hx : opd E x = some (.slice A n c))
    (hlo : opd E lo = some (.int k z)) (hz : z = (l : Int)) (h1 : l ≤ n) (h2 : n ≤ c) : PStep P E H G o (.slice (if c = l then A else A.map (·.add (l * sz))) (n - l) (c - l)) := by
  subst hz
  exact ps_slice (l := l) (h := n) ho hx ⟨k, hlo⟩ rfl h1 h2
theorem ps_sliceEE {x : Operand} {lo hi : Operand} {t e sz bytes : TypeId} {A : Option Addr} {n c : Nat} {l h : Nat} {z z' : Int} {k k' : IntKind} [ht : EL P t e sz bytes] (ho : o.op = .slice t x (some lo) (some hi) none) (hx : opd E x = some (.slice A n c))
    (hlo : opd E lo = some (.int k z)) (hhi : opd E hi = some (.int k' z')) (hz : z = (l : Int)) (hz' : z' = (h : Int)) (h1 : l ≤ h) (h2 : h ≤ c) : PStep P E H G o (.slice (if c = l then A else A.map (·.add (l * sz))) (h - l) (c - l)) := by
  subst hz hz'
  exact ps_slice (l := l) (h := h) ho hx ⟨k, hlo⟩ ⟨k', hhi⟩ h1 h2
theorem fl_drop {α : Type} [Dat α] : ∀ (l : List α) (i : Nat), (fl l).drop (i * Dat.sz α) = fl (l.drop i)
  | [], i => by simp [fl]
  | x :: l, 0 => by simp [fl]
  | x :: l, i + 1 => by
    have ih := fl_drop l i
    rw [List.drop_succ_cons, fl_cons, ← ih]
    have : (i + 1) * Dat.sz α = (Dat.cells x).length + i * Dat.sz α := by rw [Dat.len, Nat.add_mul]; omega
    rw [this, List.drop_length_add_append]
theorem rds_tail {α : Type} [Dat α] {A : Option Addr} {c j sz : Nat} {L : List α} (h : Rds H G A (fl L)) (hs : Dat.sz α = sz) (hc : L.length ≤ c) (hj : j ≤ L.length) : Rds H G (if c = j then A else A.map (·.add (j * sz))) (fl (L.drop j)) := by
  by_cases h0 : c = j
  · rw [if_pos h0, List.drop_of_length_le (by omega)]
    exact fun _ _ w _ => Rd.nil w A
  · rw [if_neg h0]
    have := h.sub (i := j * sz) (n := (fl L).length)
    rw [← hs, fl_drop, List.take_of_length_le (by rw [fl_len, fl_len, List.length_drop]; exact Nat.mul_le_mul_right _ (by omega)), hs] at this
    exact this
end
theorem own_cap {w : World} {base e sz n c : Nat} {A : Option Addr} {us : List Value} (h : Own w base e sz A n c us) : n ≤ c := by
  obtain ⟨_, ⟨hA, hn⟩ | ⟨g, cap, cur, hA, _, _, hnc, _⟩⟩ := h
  · omega
  · injection hA with _ _ h3; omega
def Keeps (m w : World) : Prop := ∀ p u, m.cell? p = some u → w.cell? p = some u
theorem Rd.keeps {m w : World} {A : Option Addr} {us : List Value} (h : Rd m A us) (hk : Keeps m w) : Rd w A us := fun j u hu => by
  obtain ⟨ad, e, hc⟩ := h j u hu
  exact ⟨ad, e, hk _ _ hc⟩
theorem WOk.keeps {m w w0 : World} {base : Nat} {H : List HObj} {G : List World} (hw : WOk base w0 H G w) (hm : m ∈ G) : Keeps m w := fun p u hp => (hw.ref m hm p u hp).1
attribute [local irreducible] Calls
theorem index_c (f : FuncId) [hF : FN Try.prog f] (cs : List Value) (p : CRow → Bool) (A : Option Addr) (c : Nat) (R : List CRow) (w : World) (h : Rd w A (fl R)) (hl : R.length ≤ 4194304)
    (hf : ∀ (x : CRow) (w' : World), Keeps w w' → Calls Try.prog f (Value.agg (Dat.cells x).toArray :: cs).toArray w' (fun e w'' => e = .returned (.bool (p x)) ∧ Below w'.heap.size w' w'')) :
    Calls Try.prog 202 #[.slice A R.length c, .func (.func f) #[] cs.toArray] w fun e w' => e = .returned (.int .i64 (ixP p R)) ∧ Below w.heap.size w w' := by
  refine ok_enter 19 Try.func202 rfl rfl rfl ?_
  repeat' (first
    | refine ok_seq ?_
    | refine ok_then ?_
    | refine ok_block ?_
    | (refine ok_region (i := 0) ?_; refine ok_p rfl rfl rfl (by exact ps_assign rfl rfl) ?_; refine ok_nil ?_; refine ok_env [(0, _), (1, _)] ⟨rfl, rfl, trivial⟩ ?_)
    | (refine ok_region (i := 1) ?_; refine ok_p rfl rfl rfl (by exact ps_move rfl rfl) ?_; refine ok_p rfl rfl rfl (by exact ps_len rfl rfl) ?_; refine ok_p rfl rfl rfl (by exact ps_move rfl rfl) ?_; refine ok_nil ?_; refine ok_env [(0, _), (1, _), (7, _), (8, _)] ⟨rfl, rfl, rfl, rfl, trivial⟩ ?_))
  refine ok_loop (ι := { k : Nat // k ≤ R.length ∧ ixP p R = ixF p R (R.length - k) k }) (fun k => R.length - k.1) (fun k => ([(0, .slice A R.length c), (1, .func (.func f) #[] cs.toArray), (7, .int .i64 R.length), (8, .int .i64 k.1)], _, _)) ⟨0, by omega, rfl⟩ (fun a w he hw => ⟨⟨0, by omega, rfl⟩, he.sub ⟨rfl, rfl, rfl, rfl, trivial⟩, hw⟩) ?_
  rintro ⟨k, hk, hr⟩
  simp only at hk hr ⊢
  have HR := Lib.hid hr; clear hr
  repeat' (first
    | refine ok_seq ?_
    | refine ok_then ?_
    | refine ok_then_ret ?_
    | refine ok_block ?_
    | refine ok_in_normal ?_
    | refine ok_in_ret ?_
    | (refine ok_cond rfl (fun hc => ?_) (fun hc => ?_) <;> (have hd := hc; (try simp only [decide_eq_true_eq, decide_eq_false_iff_not, Bool.or_eq_true, Bool.or_eq_false_iff, Bool.and_eq_true, Bool.and_eq_false_iff, Bool.not_eq_true', Bool.not_eq_false', bne_iff_ne, beq_iff_eq, bne_eq_false_iff_eq, beq_eq_false_iff_ne, ne_eq, Bool.not_true, Bool.not_false, Bool.false_eq_true, Bool.true_eq_false, inB_true, inB_false] at hd)))
    | refine ok_ret ?_
    | refine ok_exit ?_
    | refine ok_skip ?_
    | (refine ok_region (i := 2) ?_; refine ok_p rfl rfl rfl (by exact ps_int rfl rfl rfl rfl) ?_; refine ok_nil ?_; refine ok_env [(0, _), (1, _), (7, _), (8, _), (9, _)] ⟨rfl, rfl, rfl, rfl, rfl, trivial⟩ ?_)
    | (refine ok_region (i := 3) ?_; refine ok_p rfl rfl rfl (by exact ps_move rfl rfl) ?_; refine ok_p rfl rfl rfl (by exact ps_assign rfl rfl) ?_; refine ok_nil ?_; refine ok_env [(0, _), (1, _), (5, _), (7, _), (8, _)] ⟨rfl, rfl, rfl, rfl, rfl, trivial⟩ ?_)
    | (refine ok_region (i := 4) ?_; refine ok_p rfl rfl rfl (by exact ps_move rfl rfl) ?_; refine ok_p rfl rfl rfl (by exact ps_move rfl rfl) ?_; refine ok_p rfl rfl rfl (by exact ps_move rfl rfl) ?_; refine ok_p rfl rfl rfl (by exact ps_indexN rfl rfl rfl (by omega) (by exact isw_of (isS_fl (by assumption) (by omega)))) ?_; refine ok_p rfl rfl rfl (by exact ps_loadsF rfl rfl (by exact rds_rf (by assumption) (by exact List.mem_cons_self)) (by rfl) (by rfl) (by omega) rfl) ?_; refine ok_m rfl rfl rfl (by exact ms_k1 rfl rfl rfl (fun _ _ w' hw => hf (nth R k) w' (hw.keeps (by exact List.mem_cons_self)))) ?_; rintro y16 hy16; refine ok_nil ?_; refine ok_env [(0, _), (1, _), (5, _), (7, _), (8, _), (16, _)] ⟨rfl, rfl, rfl, rfl, rfl, rfl, trivial⟩ ?_)
    | (refine ok_region (i := 5) ?_; refine ok_p rfl rfl rfl (by exact ps_move rfl rfl) ?_; refine ok_p rfl rfl rfl (by exact ps_assign rfl rfl) ?_; refine ok_nil ?_; refine ok_env [(4, _)] ⟨rfl, trivial⟩ ?_)
    | (refine ok_region (i := 6) ?_; refine ok_p rfl rfl rfl (by exact ps_add rfl rfl rfl (by omega)) ?_; refine ok_p rfl rfl rfl (by exact ps_move rfl rfl) ?_; refine ok_nil ?_; refine ok_env [(0, _), (1, _), (7, _), (8, _)] ⟨rfl, rfl, rfl, rfl, trivial⟩ ?_)
    | (refine ok_region (i := 7) ?_; refine ok_p rfl rfl rfl (by exact ps_assign rfl rfl) ?_; refine ok_nil ?_; refine ok_env [(4, _)] ⟨rfl, trivial⟩ ?_))
  · have e : ixP p R = (k : Int) := by rw [HR.out, ixF_step (by omega), hc]; rfl
    rw [e]
    exact ok_endL (vs := [_]) rfl ⟨rfl, trivial⟩ (fun w' hw => ⟨rfl, hw.below⟩)
  · have e : ixF p R (R.length - k) k = ixF p R (R.length - (k + 1)) (k + 1) := by rw [ixF_step (by omega), hc]; rfl
    exact fun a w' he hw => ⟨⟨k + 1, by omega, HR.out.trans e⟩, by simp only; omega, he.sub ⟨rfl, rfl, rfl, rfl, trivial⟩, hw⟩
  · obtain rfl : k = R.length := by omega
    have e : ixP p R = -1 := by rw [HR.out, Nat.sub_self]; rfl
    rw [e]
    exact ok_endL (vs := [_]) rfl ⟨rfl, trivial⟩ (fun w' hw => ⟨rfl, hw.below⟩)
instance : OneC CRow := ⟨fun x u hu => by
  have : u = .int .i64 x.tenant ∨ u = .int .i64 x.no ∨ u = .string x.text := by simpa [Dat.cells] using hu
  rcases this with rfl | rfl | rfl <;> rfl⟩
theorem cloneC_c (A : Option Addr) (c : Nat) (L : List CRow) (w : World) (h : Rd w A (fl L)) (m : L.length ≤ 4194304) :
    Calls Try.prog 201 #[.slice A L.length c] w fun e w' => ∃ y : Ys, e = .returned (.slice (y 0).A L.length (y 0).c) ∧ True ∧ Below w.heap.size w w' ∧ NewOk w.heap.size [.row 132 3 (y 0).A L.length (y 0).c (fl L)] [] w' := by
  refine ok_enter 8 Try.func201 rfl rfl rfl ?_
  repeat' (first
    | refine ok_seq ?_
    | refine ok_then ?_
    | refine ok_then_ret ?_
    | (refine ok_cond rfl (fun hc => ?_) (fun hc => ?_) <;> (have hd := hc; (try simp only [decide_eq_true_eq, decide_eq_false_iff_not, Bool.or_eq_true, Bool.or_eq_false_iff, Bool.and_eq_true, Bool.and_eq_false_iff, Bool.not_eq_true', Bool.not_eq_false', bne_iff_ne, beq_iff_eq, bne_eq_false_iff_eq, beq_eq_false_iff_ne, ne_eq, Bool.not_true, Bool.not_false, Bool.false_eq_true, Bool.true_eq_false, inB_true, inB_false] at hd)))
    | refine ok_ret ?_
    | refine ok_skip ?_
    | (refine ok_region (i := 0) ?_; refine ok_p rfl rfl rfl (by exact ps_assign rfl rfl) ?_; refine ok_nil ?_; refine ok_env [(0, _)] ⟨rfl, trivial⟩ ?_)
    | (refine ok_region (i := 1) ?_; refine ok_p rfl rfl rfl (by exact ps_move rfl rfl) ?_; refine ok_p rfl rfl rfl (by exact ps_eql_nil rfl rfl) ?_; refine ok_nil ?_; refine ok_env [(0, _), (4, _)] ⟨rfl, rfl, trivial⟩ ?_)
    | (refine ok_region (i := 2) ?_; refine ok_p rfl rfl rfl (by exact ps_assign rfl rfl) ?_; refine ok_nil ?_; refine ok_env [(2, _)] ⟨rfl, trivial⟩ ?_)
    | (refine ok_region (i := 3) ?_; refine ok_m rfl rfl rfl (by exact ms_lit rfl parts_nil rfl rfl rfl) ?_; rintro y5 hy5; refine ok_p rfl rfl rfl (by exact ps_move rfl rfl) ?_; refine ok_m rfl rfl rfl (by exact ms_app0 (M := L) 0 rfl rfl rfl rfl (rds_rf h (by exact List.mem_cons_self)) rfl (by omega) (by omega)) ?_; rintro y7 hy7; refine ok_p rfl rfl rfl (by exact ps_assign rfl rfl) ?_; refine ok_nil ?_; refine ok_env [(2, _)] ⟨rfl, trivial⟩ ?_))
  · have h0 : L = [] := by
      cases A with
      | some a => cases hc
      | none =>
        rcases L with _ | ⟨x, l⟩
        · rfl
        · have := isS_fl h (by simp); obtain ⟨ad, e⟩ := this; cases e
    subst h0
    refine ok_endL (vs := [_]) rfl ⟨rfl, trivial⟩ (fun w' hw => ?_)
    refine ⟨mkY none 0 w, ?_, trivial, hw.below, ?_⟩
    · rfl
    · exact NewOk.one (x := .row 132 3 none 0 0 (fl ([] : List CRow))) (Own.nil w' w.heap.size 132 3)
  · refine ok_endL (vs := [_]) rfl ⟨rfl, trivial⟩ (fun w' hw => ?_)
    refine ⟨yl [y7 0] (y7 0), ?_, trivial, hw.below, ?_⟩
    · rfl
    · have := NewOk.of (hw.sel [0] (by decide) rfl (fun _ h => h))
      exact this
/-- slices.Delete of a piece that is not empty, in an own row. -/
theorem delete_c (A : Option Addr) (c i j : Nat) (R : List CRow) (hij : i < j) (hj : j ≤ R.length) (hl : R.length ≤ 4194304) {base : Nat} {w0 w : World} {H : List HObj} {G : List World} (hw : WOk base w0 (.row 132 3 A R.length c (fl R) :: H) G w) :
    Calls Try.prog 101 #[.slice A R.length c, .int .i64 i, .int .i64 j] w fun e w' => ∃ y : Ys, e = .returned (.slice A (R.take i ++ R.drop j).length c) ∧ True ∧ WOk base w0 (.row 132 3 A (R.take i ++ R.drop j).length c (fl (R.take i ++ R.drop j)) :: H) G w' := by
  have hc := own_cap (hw.own _ List.mem_cons_self)
  have hlen : (R.take i ++ R.drop j).length = i + (R.length - j) := by simp; omega
  have hdl : (R.drop j).length = R.length - j := by simp
  refine ok_enterW 33 Try.func101 rfl rfl rfl hw ?_
  repeat' (first
    | refine ok_seq ?_
    | refine ok_then ?_
    | refine ok_then_ret ?_
    | (refine ok_cond rfl (fun hc => ?_) (fun hc => ?_) <;> (have hd := hc; (try simp only [decide_eq_true_eq, decide_eq_false_iff_not, Bool.or_eq_true, Bool.or_eq_false_iff, Bool.and_eq_true, Bool.and_eq_false_iff, Bool.not_eq_true', Bool.not_eq_false', bne_iff_ne, beq_iff_eq, bne_eq_false_iff_eq, beq_eq_false_iff_ne, ne_eq, Bool.not_true, Bool.not_false, Bool.false_eq_true, Bool.true_eq_false, inB_true, inB_false] at hd)))
    | refine ok_ret ?_
    | refine ok_skip ?_
    | (refine ok_region (i := 0) ?_; refine ok_p rfl rfl rfl (by exact ps_assign rfl rfl) ?_; refine ok_nil ?_; refine ok_env [(0, _), (1, _), (2, _)] ⟨rfl, rfl, rfl, trivial⟩ ?_)
    | (refine ok_region (i := 1) ?_; refine ok_p rfl rfl rfl (by exact ps_move rfl rfl) ?_; refine ok_p rfl rfl rfl (by exact ps_move rfl rfl) ?_; refine ok_p rfl rfl rfl (by exact ps_move rfl rfl) ?_; refine ok_p rfl rfl rfl (by exact ps_move rfl rfl) ?_; refine ok_p rfl rfl rfl (by exact ps_len rfl rfl) ?_; refine ok_p rfl rfl rfl (by exact ps_slice3 rfl rfl rfl rfl rfl (by omega) (by omega) (by omega)) ?_; refine ok_nil ?_; refine ok_env [(0, _), (1, _), (2, _)] ⟨rfl, rfl, rfl, trivial⟩ ?_)
    | (refine ok_region (i := 2) ?_; refine ok_p rfl rfl rfl (by exact ps_move rfl rfl) ?_; refine ok_p rfl rfl rfl (by exact ps_move rfl rfl) ?_; refine ok_p rfl rfl rfl (by exact ps_int rfl rfl rfl rfl) ?_; refine ok_nil ?_; refine ok_env [(0, _), (1, _), (2, _), (16, _)] ⟨rfl, rfl, rfl, rfl, trivial⟩ ?_)
    | (refine ok_region (i := 3) ?_; refine ok_p rfl rfl rfl (by exact ps_move rfl rfl) ?_; refine ok_p rfl rfl rfl (by exact ps_assign rfl rfl) ?_; refine ok_nil ?_; refine ok_env [(6, _)] ⟨rfl, trivial⟩ ?_)
    | (refine ok_region (i := 4) ?_; refine ok_p rfl rfl rfl (by exact ps_move rfl rfl) ?_; refine ok_p rfl rfl rfl (by exact ps_len rfl rfl) ?_; refine ok_p rfl rfl rfl (by exact ps_assign rfl rfl) ?_; refine ok_nil ?_; refine ok_env [(0, _), (1, _), (2, _), (7, _)] ⟨rfl, rfl, rfl, rfl, trivial⟩ ?_)
    | (refine ok_draw (id := 5) 8 rfl (by kernel_rfl) (by kernel_rfl) rfl (by repeat (first | exact pq_body | refine pq_then ?_ | refine pq_in ?_)) [] (by decide) rfl ?_; refine okT_take (i := 0) rfl (by kernel_rfl) rfl rfl rfl (by exact ps_move rfl rfl) ?_; refine okT_take (i := 1) rfl (by kernel_rfl) rfl rfl rfl (by exact ps_move rfl rfl) ?_; refine okT_take (i := 2) rfl (by kernel_rfl) rfl rfl rfl (by exact ps_slice0 (h := i) rfl rfl rfl rfl (by omega)) ?_; refine okT_take (i := 3) rfl (by kernel_rfl) rfl rfl rfl (by exact ps_move rfl rfl) ?_; refine okT_take (i := 4) rfl (by kernel_rfl) rfl rfl rfl (by exact ps_move rfl rfl) ?_; refine okT_take (i := 5) rfl (by kernel_rfl) rfl rfl rfl (by exact ps_sliceE (l := j) rfl rfl rfl rfl (by omega) (by omega)) ?_; refine okT_one (i := 6) rfl rfl (by kernel_rfl) rfl rfl rfl (by exact ms_appin (α := CRow) (L := R) (M := R.drop j) 0 rfl rfl rfl rfl (rds_tail (rds_row 0 rfl) rfl (by omega) (by omega)) rfl (by omega) (by omega) (by omega) (by omega)) (fun y w _ h => by exact h.sel [] (by decide) rfl (fun _ h => h)) ?_; rintro y26 hy26; refine okT_take (i := 7) rfl (by kernel_rfl) rfl rfl rfl (by exact ps_assign rfl rfl) ?_; refine okT_done (by kernel_rfl) ?_; refine ok_nil ?_; refine ok_env [(0, _), (7, _)] ⟨rfl, rfl, trivial⟩ ?_))
  · omega
  have e2 : i + (R.drop j).length = (R.take i ++ R.drop j).length := by omega
  have e3 : (R.take i ++ R.drop j).take (i + (R.length - j)) = R.take i ++ R.drop j := List.take_of_length_le (by omega)
  repeat' (first
    | refine ok_seq ?_
    | refine ok_then ?_
    | refine ok_ret ?_
    | (refine ok_region (i := 6) ?_; refine ok_p rfl rfl rfl (by exact ps_move rfl rfl) ?_; refine ok_p rfl rfl rfl (by exact ps_move rfl rfl) ?_; refine ok_p rfl rfl rfl (by exact ps_len rfl rfl) ?_; refine ok_p rfl rfl rfl (by exact ps_move rfl rfl) ?_; refine ok_p rfl rfl rfl (by exact ps_sliceEE (l := i + (R.length - j)) (h := R.length) rfl rfl rfl rfl rfl rfl (by omega) (by omega)) ?_; refine ok_m_ rfl rfl (by exact ms_clear (α := CRow) (L := R.take i ++ R.drop j) (q := i + (R.length - j)) (z := [.int .i64 0, .int .i64 0, .string ⟨#[]⟩]) 0 rfl rfl (fun h => if_neg (by omega)) rfl rfl (by omega) (by omega) (by decide)) ?_; rintro y_ hy_; refine ok_nil ?_; refine ok_env [(0, _)] ⟨rfl, trivial⟩ ?_)
    | (refine ok_region (i := 7) ?_; refine ok_p rfl rfl rfl (by exact ps_move rfl rfl) ?_; refine ok_p rfl rfl rfl (by exact ps_assign rfl rfl) ?_; refine ok_nil ?_; refine ok_env [(6, _)] ⟨rfl, trivial⟩ ?_))
  rw [hlen]
  refine ok_endL (vs := [_]) rfl ⟨rfl, trivial⟩ (fun w' hw => ⟨mkY none 0 w, rfl, trivial, ?_⟩)
  rw [e3] at hw
  exact hw
/-- slices.DeleteFunc in an own row. -/
structure DelI (R : List CRow) (p : CRow → Bool) where
  i : Nat
  j : Nat
  L : List CRow
  hl : L.length = R.length
  hi : L.take i = (R.take j).filter (fun x => !p x)
  hil : i = ((R.take j).filter (fun x => !p x)).length
  hd : L.drop j = R.drop j
  hj : j ≤ R.length
theorem DelI.le {R : List CRow} {p : CRow → Bool} (q : DelI R p) : q.i ≤ q.j := by
  have h1 := q.hil
  have h2 := List.length_filter_le (fun x => !p x) (R.take q.j)
  rw [List.length_take] at h2
  omega
theorem takeN {R : List CRow} {j : Nat} (h : j < R.length) : R.take (j + 1) = R.take j ++ [nth R j] := by
  rw [List.take_add_one, List.getElem?_eq_getElem h]
  simp [nth, h]
theorem dropN {R : List CRow} {j : Nat} (h : j < R.length) : R.drop j = nth R j :: R.drop (j + 1) := by
  rw [List.drop_eq_getElem_cons h]
  simp [nth, h]
def DelI.keep {R : List CRow} {p : CRow → Bool} (q : DelI R p) (h : q.j < R.length) (hp : p (nth R q.j) = false) : DelI R p :=
  ⟨q.i + 1, q.j + 1, q.L.set q.i (nth R q.j), by rw [List.length_set]; exact q.hl, by
    have hle := q.le
    have hlt : q.i < q.L.length := by rw [q.hl]; omega
    rw [takeN h, List.filter_append, ← q.hi]
    simp only [List.filter_cons, hp, Bool.not_false, if_true, List.filter_nil]
    rw [List.take_add_one, List.take_set_of_le (Nat.le_refl _), List.getElem?_set_self hlt]; rfl, by
    rw [takeN h, List.filter_append, List.length_append, ← q.hil]
    simp [hp], by
    have hle := q.le
    rw [List.drop_set_of_lt (by omega)]
    have := congrArg (List.drop 1) q.hd
    simpa [List.drop_drop] using this, by omega⟩
def DelI.skip {R : List CRow} {p : CRow → Bool} (q : DelI R p) (h : q.j < R.length) (hp : p (nth R q.j) = true) : DelI R p :=
  ⟨q.i, q.j + 1, q.L, q.hl, by
    rw [takeN h, List.filter_append, ← q.hi]
    simp [hp], by
    rw [takeN h, List.filter_append, List.length_append, ← q.hil]
    simp [hp], by
    have := congrArg (List.drop 1) q.hd
    simpa [List.drop_drop] using this, by omega⟩
theorem DelI.at_ {R : List CRow} {p : CRow → Bool} (q : DelI R p) (h : q.j < R.length) : nth q.L q.j = nth R q.j := by
  have e := q.hd
  have hl := q.hl
  rw [dropN h, dropN (show q.j < q.L.length by omega)] at e
  exact (List.cons.inj e).1
theorem take_keep {R : List CRow} {p : CRow → Bool} {i : Nat} (h : i ≤ R.length) (hn : ∀ j, j < i → p (nth R j) = false) : (R.take i).filter (fun x => !p x) = R.take i := by
  rw [List.filter_eq_self]
  intro x hx
  obtain ⟨j, hj, rfl⟩ := List.getElem_of_mem hx
  rw [List.length_take] at hj
  have := hn j (by omega)
  rw [show nth R j = R[j]'(by omega) by simp [nth, show j < R.length by omega]] at this
  rw [List.getElem_take, this]; rfl
def DelI.start {R : List CRow} {p : CRow → Bool} {i : Nat} (h : i < R.length) (hp : p (nth R i) = true) (hn : ∀ j, j < i → p (nth R j) = false) : DelI R p :=
  ⟨i, i + 1, R, rfl, by
    rw [takeN h, List.filter_append, take_keep (by omega) hn]
    simp [hp], by
    rw [takeN h, List.filter_append, take_keep (by omega) hn]
    simp [hp]; omega, rfl, by omega⟩
theorem deleteF_c (f : FuncId) [hF : FN Try.prog f] (cs : List Value) (p : CRow → Bool) (A : Option Addr) (c : Nat) (R : List CRow) (hl : R.length ≤ 4194304) {base : Nat} {w0 w : World} {H : List HObj} {G : List World}
    (RD : World → Prop) (hk : ∀ w w', RD w → Keeps w w' → RD w') (hr : ∀ base w0 w' G, WOk base w0 H G w' → RD w')
    (hf : ∀ (x : CRow) (w' : World), RD w' → Calls Try.prog f (Value.agg (Dat.cells x).toArray :: cs).toArray w' (fun e w'' => e = .returned (.bool (p x)) ∧ Below w'.heap.size w' w''))
    (hw : WOk base w0 (.row 132 3 A R.length c (fl R) :: H) G w) :
    Calls Try.prog 105 #[.slice A R.length c, .func (.func f) #[] cs.toArray] w fun e w' => ∃ y : Ys, e = .returned (.slice A (R.filter (fun x => !p x)).length c) ∧ True ∧ WOk base w0 (.row 132 3 A (R.filter (fun x => !p x)).length c (fl (R.filter (fun x => !p x))) :: H) G w' := by
  have hc := own_cap (hw.own _ List.mem_cons_self)
  refine ok_enterW 42 Try.func105 rfl rfl rfl hw ?_
  rcases ixP_or p R with ⟨e0, hn⟩ | ⟨i, e0, hi, hp, hn⟩
  · have e1 : R.filter (fun x => !p x) = R := by have := take_keep (p := p) (Nat.le_refl R.length) hn; rwa [List.take_length] at this
    rw [e1]
    repeat' (first
      | refine ok_seq ?_
      | refine ok_then ?_
      | refine ok_then_ret ?_
      | refine ok_block ?_
      | (refine ok_cond rfl (fun hc => ?_) (fun hc => ?_) <;> (have hd := hc; (try simp only [decide_eq_true_eq, decide_eq_false_iff_not, Bool.or_eq_true, Bool.or_eq_false_iff, Bool.and_eq_true, Bool.and_eq_false_iff, Bool.not_eq_true', Bool.not_eq_false', bne_iff_ne, beq_iff_eq, bne_eq_false_iff_eq, beq_eq_false_iff_ne, ne_eq, Bool.not_true, Bool.not_false, Bool.false_eq_true, Bool.true_eq_false, inB_true, inB_false] at hd)))
      | refine ok_ret ?_
      | refine ok_skip ?_
      | (refine ok_region (i := 0) ?_; refine ok_p rfl rfl rfl (by exact ps_assign rfl rfl) ?_; refine ok_nil ?_; refine ok_env [(0, _), (1, _)] ⟨rfl, rfl, trivial⟩ ?_)
      | (refine ok_region (i := 1) ?_; refine ok_p rfl rfl rfl (by exact ps_move rfl rfl) ?_; refine ok_p rfl rfl rfl (by exact ps_move rfl rfl) ?_; refine ok_m rfl rfl rfl (by exact ms_s2 rfl rfl rfl (fun _ _ w' hw => index_c f cs p A c R w' (Rd.of_own (hw.own _ List.mem_cons_self)) hl (fun x w'' hb => hf x w'' (hk _ _ (hr _ _ _ _ hw.tl) hb)))) ?_; rintro y10 hy10; refine ok_p rfl rfl rfl (by exact ps_assign rfl rfl) ?_; refine ok_nil ?_; refine ok_env [(0, _), (1, _), (5, _)] ⟨rfl, rfl, rfl, trivial⟩ ?_)
      | (refine ok_region (i := 2) ?_; refine ok_p rfl rfl rfl (by exact ps_move rfl rfl) ?_; refine ok_p rfl rfl rfl (by exact ps_int rfl rfl rfl rfl) ?_; refine ok_nil ?_; refine ok_env [(0, _), (1, _), (5, _), (12, _)] ⟨rfl, rfl, rfl, rfl, trivial⟩ ?_)
      | (refine ok_region (i := 3) ?_; refine ok_p rfl rfl rfl (by exact ps_move rfl rfl) ?_; refine ok_p rfl rfl rfl (by exact ps_assign rfl rfl) ?_; refine ok_nil ?_; refine ok_env [(4, _)] ⟨rfl, trivial⟩ ?_)
      | (refine ok_region (i := 4) ?_; refine ok_p rfl rfl rfl (by exact ps_move rfl rfl) ?_; refine ok_p rfl rfl rfl (by exact ps_add rfl rfl rfl (by omega)) ?_; refine ok_p rfl rfl rfl (by exact ps_assign rfl rfl) ?_; refine ok_nil ?_; refine ok_env [(0, _), (1, _), (5, _), (6, _)] ⟨rfl, rfl, rfl, rfl, trivial⟩ ?_))
    · exact ok_endL (vs := [_]) rfl ⟨rfl, trivial⟩ (fun w' hw => ⟨mkY none 0 w, rfl, trivial, hw⟩)
    · exfalso; omega
  · skip
    repeat' (first
      | refine ok_seq ?_
      | refine ok_then ?_
      | refine ok_then_ret ?_
      | refine ok_block ?_
      | (refine ok_cond rfl (fun hc => ?_) (fun hc => ?_) <;> (have hd := hc; (try simp only [decide_eq_true_eq, decide_eq_false_iff_not, Bool.or_eq_true, Bool.or_eq_false_iff, Bool.and_eq_true, Bool.and_eq_false_iff, Bool.not_eq_true', Bool.not_eq_false', bne_iff_ne, beq_iff_eq, bne_eq_false_iff_eq, beq_eq_false_iff_ne, ne_eq, Bool.not_true, Bool.not_false, Bool.false_eq_true, Bool.true_eq_false, inB_true, inB_false] at hd)))
      | refine ok_ret ?_
      | refine ok_skip ?_
      | (refine ok_region (i := 0) ?_; refine ok_p rfl rfl rfl (by exact ps_assign rfl rfl) ?_; refine ok_nil ?_; refine ok_env [(0, _), (1, _)] ⟨rfl, rfl, trivial⟩ ?_)
      | (refine ok_region (i := 1) ?_; refine ok_p rfl rfl rfl (by exact ps_move rfl rfl) ?_; refine ok_p rfl rfl rfl (by exact ps_move rfl rfl) ?_; refine ok_m rfl rfl rfl (by exact ms_s2 rfl rfl rfl (fun _ _ w' hw => index_c f cs p A c R w' (Rd.of_own (hw.own _ List.mem_cons_self)) hl (fun x w'' hb => hf x w'' (hk _ _ (hr _ _ _ _ hw.tl) hb)))) ?_; rintro y10 hy10; refine ok_p rfl rfl rfl (by exact ps_assign rfl rfl) ?_; refine ok_nil ?_; refine ok_env [(0, _), (1, _), (5, _)] ⟨rfl, rfl, rfl, trivial⟩ ?_)
      | (refine ok_region (i := 2) ?_; refine ok_p rfl rfl rfl (by exact ps_move rfl rfl) ?_; refine ok_p rfl rfl rfl (by exact ps_int rfl rfl rfl rfl) ?_; refine ok_nil ?_; refine ok_env [(0, _), (1, _), (5, _), (12, _)] ⟨rfl, rfl, rfl, rfl, trivial⟩ ?_)
      | (refine ok_region (i := 3) ?_; refine ok_p rfl rfl rfl (by exact ps_move rfl rfl) ?_; refine ok_p rfl rfl rfl (by exact ps_assign rfl rfl) ?_; refine ok_nil ?_; refine ok_env [(4, _)] ⟨rfl, trivial⟩ ?_)
      | (refine ok_region (i := 4) ?_; refine ok_p rfl rfl rfl (by exact ps_move rfl rfl) ?_; refine ok_p rfl rfl rfl (by exact ps_add rfl rfl rfl (by omega)) ?_; refine ok_p rfl rfl rfl (by exact ps_assign rfl rfl) ?_; refine ok_nil ?_; refine ok_env [(0, _), (1, _), (5, _), (6, _)] ⟨rfl, rfl, rfl, rfl, trivial⟩ ?_))
    · exfalso; omega
    rw [e0]
    refine ok_loop (ι := DelI R p) (fun q => R.length - q.j) (fun q => ([(0, .slice A R.length c), (1, .func (.func f) #[] cs.toArray), (5, .int .i64 q.i), (6, .int .i64 q.j)], .row 132 3 A R.length c (fl q.L) :: H, _)) (DelI.start hi hp hn) (fun a w he hw => ⟨DelI.start hi hp hn, he.sub ⟨rfl, rfl, rfl, rfl, trivial⟩, hw⟩) ?_
    intro q
    simp only
    have q1 := q.le
    have q2 := q.hj
    have q3 := q.hl
    repeat' (first
      | refine ok_seq ?_
      | refine ok_then ?_
      | refine ok_block ?_
      | refine ok_in_normal ?_
      | (refine ok_cond rfl (fun hc => ?_) (fun hc => ?_) <;> (have hd := hc; (try simp only [decide_eq_true_eq, decide_eq_false_iff_not, Bool.or_eq_true, Bool.or_eq_false_iff, Bool.and_eq_true, Bool.and_eq_false_iff, Bool.not_eq_true', Bool.not_eq_false', bne_iff_ne, beq_iff_eq, bne_eq_false_iff_eq, beq_eq_false_iff_ne, ne_eq, Bool.not_true, Bool.not_false, Bool.false_eq_true, Bool.true_eq_false, inB_true, inB_false] at hd)))
      | refine ok_exit ?_
      | refine ok_skip ?_
      | (refine ok_region (i := 5) ?_; refine ok_p rfl rfl rfl (by exact ps_move rfl rfl) ?_; refine ok_p rfl rfl rfl (by exact ps_move rfl rfl) ?_; refine ok_p rfl rfl rfl (by exact ps_len rfl rfl) ?_; refine ok_p rfl rfl rfl (by exact ps_int rfl rfl rfl rfl) ?_; refine ok_nil ?_; refine ok_env [(0, _), (1, _), (5, _), (6, _), (19, _)] ⟨rfl, rfl, rfl, rfl, rfl, trivial⟩ ?_)
      | (refine ok_region (i := 6) ?_; refine ok_p rfl rfl rfl (by exact ps_move rfl rfl) ?_; refine ok_p rfl rfl rfl (by exact ps_add rfl rfl rfl (by omega)) ?_; refine ok_p rfl rfl rfl (by exact ps_assign rfl rfl) ?_; refine ok_nil ?_; refine ok_env [(0, _), (1, _), (5, _), (6, _)] ⟨rfl, rfl, rfl, rfl, trivial⟩ ?_)
      | (refine ok_region (i := 7) ?_; refine ok_p rfl rfl rfl (by exact ps_move rfl rfl) ?_; refine ok_p rfl rfl rfl (by exact ps_move rfl rfl) ?_; refine ok_p rfl rfl rfl (by exact ps_indexN rfl rfl rfl (by omega) (by exact isw_row 0 rfl (by omega))) ?_; refine ok_p rfl rfl rfl (by exact ps_loadsF rfl rfl (by exact rds_row 0 rfl) (by rfl) (by rfl) (by omega) rfl) ?_; refine ok_m rfl rfl rfl (by exact ms_alloc rfl) ?_; rintro y7 hy7; refine ok_m_ rfl rfl (by exact ms_store 0 rfl rfl rfl rfl rfl rfl rfl rfl) ?_; rintro y_ hy_; refine ok_nil ?_; refine ok_env [(0, _), (1, _), (5, _), (6, _), (7, _)] ⟨rfl, rfl, rfl, rfl, rfl, trivial⟩ ?_)
      | (refine ok_region (i := 8) ?_; refine ok_p rfl rfl rfl (by exact ps_move rfl rfl) ?_; refine ok_p rfl rfl rfl (by exact ps_loads rfl rfl (by exact rds_box 0 rfl) rfl rfl (by decide)) ?_; refine ok_m rfl rfl rfl (by exact ms_k1 rfl rfl rfl (fun _ _ w' hw => hf (nth q.L q.j) w' (hr _ _ _ _ hw.tl.tl))) ?_; rintro y28 hy28; refine ok_p rfl rfl rfl (by exact ps_not rfl rfl) ?_; refine ok_nil ?_; refine ok_env [(0, _), (1, _), (5, _), (6, _), (7, _), (29, _)] ⟨rfl, rfl, rfl, rfl, rfl, rfl, trivial⟩ ?_)
      | (refine ok_region (i := 9) ?_; refine ok_p rfl rfl rfl (by exact ps_move rfl rfl) ?_; refine ok_p rfl rfl rfl (by exact ps_move rfl rfl) ?_; refine ok_p rfl rfl rfl (by exact ps_loads rfl rfl (by exact rds_box 0 rfl) rfl rfl (by decide)) ?_; refine ok_p rfl rfl rfl (by exact ps_indexN rfl rfl rfl (by omega) (by exact isw_row 1 rfl (by omega))) ?_; refine ok_m_ rfl rfl (by exact ms_setw (α := CRow) 1 q.i (nth q.L q.j) rfl rfl rfl rfl rfl rfl rfl rfl rfl (by omega)) ?_; rintro y_ hy_; refine ok_nil ?_; refine ok_env [(0, _), (1, _), (5, _), (6, _)] ⟨rfl, rfl, rfl, rfl, trivial⟩ ?_)
      | (refine ok_region (i := 10) ?_; refine ok_p rfl rfl rfl (by exact ps_move rfl rfl) ?_; refine ok_p rfl rfl rfl (by exact ps_add rfl rfl rfl (by omega)) ?_; refine ok_p rfl rfl rfl (by exact ps_assign rfl rfl) ?_; refine ok_nil ?_; refine ok_env [(0, _), (1, _), (5, _), (6, _)] ⟨rfl, rfl, rfl, rfl, trivial⟩ ?_))
    · have e := q.at_ (by omega)
      have hp' : p (nth R q.j) = false := by rw [← e]; exact hd
      refine fun a w' he hw => ⟨q.keep (by omega) hp', by simp only [DelI.keep]; omega, he.sub ⟨rfl, rfl, rfl, rfl, trivial⟩, ?_⟩
      rw [e] at hw
      exact hw.tl
    · have e := q.at_ (by omega)
      have hp' : p (nth R q.j) = true := by rw [← e]; exact hd
      exact fun a w' he hw => ⟨q.skip (by omega) hp', by simp only [DelI.skip]; omega, he.sub ⟨rfl, rfl, rfl, rfl, trivial⟩, hw.tl⟩
    have e2 : q.L.take q.i = R.filter (fun x => !p x) := by
      rw [q.hi, List.take_of_length_le (by omega)]
    have e3 : (R.filter (fun x => !p x)).length = q.i := by
      have := q.hil
      rw [List.take_of_length_le (by omega)] at this
      exact this.symm
    repeat' (first
      | refine ok_seq ?_
      | refine ok_then ?_
      | refine ok_ret ?_
      | (refine ok_region (i := 11) ?_; refine ok_p rfl rfl rfl (by exact ps_move rfl rfl) ?_; refine ok_p rfl rfl rfl (by exact ps_move rfl rfl) ?_; refine ok_p rfl rfl rfl (by exact ps_sliceE (l := q.i) rfl rfl rfl rfl (by omega) (by omega)) ?_; refine ok_m_ rfl rfl (by exact ms_clear (α := CRow) (L := q.L) (q := q.i) (z := [.int .i64 0, .int .i64 0, .string ⟨#[]⟩]) 0 rfl rfl (fun h => if_neg (by omega)) rfl rfl (by omega) (by omega) (by decide)) ?_; rintro y_ hy_; refine ok_nil ?_; refine ok_env [(0, _), (5, _)] ⟨rfl, rfl, trivial⟩ ?_)
      | (refine ok_region (i := 12) ?_; refine ok_p rfl rfl rfl (by exact ps_move rfl rfl) ?_; refine ok_p rfl rfl rfl (by exact ps_move rfl rfl) ?_; refine ok_p rfl rfl rfl (by exact ps_slice0 (h := q.i) rfl rfl rfl rfl (by omega)) ?_; refine ok_p rfl rfl rfl (by exact ps_assign rfl rfl) ?_; refine ok_nil ?_; refine ok_env [(4, _)] ⟨rfl, trivial⟩ ?_))
    rw [e3]
    refine ok_endL (vs := [_]) rfl ⟨rfl, trivial⟩ (fun w' hw => ⟨mkY none 0 w, rfl, trivial, ?_⟩)
    rw [e2] at hw
    exact hw
end Go.Proofs.Ytfcnimglcialbaa
/- The engine: rows whose cells are all known, copies into them, rows grown by zeros; slices.overlaps. -/
namespace Go.Proofs.Ytfcnimglcialbaa
open Go.RowKit
set_option linter.unusedVariables false
set_option linter.unusedSimpArgs false
section
variable {base : Nat} {w0 w : World} {H : List HObj} {G : List World}
theorem WOk.rowBox {e sz n c : Nat} {A : Option Addr} {us : List Value} (hw : WOk base w0 (.row e sz A n c us :: H) G w) (h0 : 0 < n) : ∃ g cur, A = ga g ∧ cur.length = c * sz ∧ c ≤ maxLen ∧ n ≤ c ∧ cur.take (n * sz) = us ∧ WOk base w0 (.box g e cur :: H) G w := by
  obtain ⟨hlen, ⟨hA, hn0⟩ | ⟨g, cap, cur, hA, hb, hh, hnc, hcm, hcs, htk⟩⟩ := hw.own _ List.mem_cons_self
  · omega
  · injection hA with hA hA2 hA3
    subst hA; subst hA3
    refine ⟨g, cur.toList, rfl, by simpa using hcs, hcm, hnc, htk, ?_⟩
    exact hw.turn (i := 0) (x' := .box g e cur.toList) rfl (r := none) (World.grownBy.refl w _) (fun k hk => by cases hk) ⟨hb, by simpa using hh⟩ (fun k hk => .inl (by cases hk; rfl))
theorem WOk.boxRow {e sz n c g : Nat} {cs us : List Value} (hw : WOk base w0 (.box g e cs :: H) G w) (hcs : cs.length = c * sz) (hcm : c ≤ maxLen) (hn : n ≤ c) (hu : cs.take (n * sz) = us) : WOk base w0 (.row e sz (ga g) n c us :: H) G w := by
  obtain ⟨hb, hh⟩ := hw.own _ List.mem_cons_self
  have hl : n * sz ≤ c * sz := Nat.mul_le_mul_right _ hn
  refine hw.turn (i := 0) (x' := .row e sz (ga g) n c us) rfl (r := none) (World.grownBy.refl w _) (fun k hk => by cases hk) ⟨by rw [← hu, List.length_take, hcs]; omega, .inr ⟨g, c, cs.toArray, rfl, hb, hh, hn, hcm, by simpa using hcs, by simpa using hu⟩⟩ (fun k hk => .inl (by cases hk; rfl))
end
section
variable {P : Program} {N base : Nat} {w0 : World} {E : Env} {H : List HObj} {G : List World} {Q : Exit → Act → World → Prop} {o : Oper}
theorem rds_take {A : Option Addr} {us : List Value} (h : Rds H G A us) (k : Nat) : Rds H G A (us.take k) := fun base w0 w hw j u hu => by
  rw [List.getElem?_take] at hu
  split at hu
  · exact h base w0 w hw j u hu
  · cases hu
theorem first_of {A : Option Addr} {us : List Value} {w : World} {sz i c : Nat} (hr : Rd w A us) (hl : us.length = i * sz) (hs : 0 < sz) : (Builtin.firstCells sz i (.slice A i c)).run P w = .ok us.toArray w := by
  rcases A with _ | ad
  · have hn : us = [] := by
      rcases us with _ | ⟨u, l⟩
      · rfl
      · obtain ⟨ad, e, _⟩ := hr 0 u rfl; cases e
    subst hn; exact run_firstCells_none w sz i i c
  · exact run_firstCells_some w sz i ad i c us hl (fun j v hv => by obtain ⟨ad', e, h⟩ := hr j v hv; cases e; exact h)
theorem first_of' {A : Option Addr} {us : List Value} {w : World} {sz i n c : Nat} (hr : Rd w A us) (hl : us.length = i * sz) (hs : 0 < sz) (h0 : 0 < i) : (Builtin.firstCells sz i (.slice A n c)).run P w = .ok us.toArray w := by
  rcases A with _ | ad
  · have hp := Nat.mul_pos h0 hs
    rcases us with _ | ⟨u, l⟩
    · simp at hl; omega
    · obtain ⟨ad, e, _⟩ := hr 0 u rfl; cases e
  · exact run_firstCells_some w sz i ad n c us hl (fun j v hv => by obtain ⟨ad', e, h⟩ := hr j v hv; cases e; exact h)
def zz (z : List Value) (n : Nat) : List Value := (Builtin.zeroCells z.toArray n).toList
theorem zz_len (z : List Value) (n : Nat) : (zz z n).length = n * z.length := by simp [zz, Builtin.zeroCells]
/-- append of zeros where no room is: a new row, all of it known. -/
theorem ms_appZ {t tn e sz bytes i c n : Nat} {A : Option Addr} {x y' : Operand} {us z : List Value} {k kn : IntKind} [ht : EL P t e sz bytes] [hk : IK P tn kn] [hz : ZV P e z] (ho : o.op = .call { callee := .builtin .append, args := #[x, y'], argTypes := #[t, tn] })
    (hx : opd E x = some (.slice A i c)) (hy : opd E y' = some (.int k (n : Int))) (hr : Rds H G A us) (hl : us.length = i * sz) (h0 : 0 < n) (hg : c < i + n) (hb : (i + n) * bytes ≤ 140737488355328) (hm : i + n ≤ 140737488355328) :
    MStep P E H G o (fun y => i + n ≤ (y 1).c ∧ (y 1).c ≤ maxLen) (fun y => .slice (ga (y 0).c) (i + n) (y 1).c) (fun y => .box (y 0).c e ((us ++ zz z n) ++ zz z ((y 1).c - (i + n))) :: H) (fun _ => G) := fun N base w0 a w Q K he hw hK => by
  obtain ⟨hu, hz0, inf, zv, hi, hzv, hs, hby, hzs⟩ := ht.h
  have hz1 : zv.cells = z.toArray := by
    have := hz.h
    unfold zvB at this
    simpa [hi, hzv] using this
  have hold : (Builtin.firstCells inf.size i (.slice A i c)).run P w.drew = .ok us.toArray w.drew := by
    rw [hs]; exact first_of (hr base w0 w.drew hw.drew) hl hz0
  have hnb : n * inf.bytes ≤ 281474976710656 := by
    rw [hby]
    have : n * bytes ≤ (i + n) * bytes := Nat.mul_le_mul_right _ (by omega)
    omega
  have hrun := Lib.run_append_grow_zeros (P := P) w t tn o.type e inf zv k kn hu hk.h hi hzv A i c us hold n h0 (by omega) hg (by omega) hnb (by rw [hby]; exact growslice_fits hg hb)
  rw [hz1] at hrun
  have hr' : (execOp a.eval o).run P w = .ok (.value (.slice (some ⟨w.heap.size, 0, none⟩) (i + n) (grownCap w (i + n) c e))) (w.drew.alloc (.cells (((us ++ zz z n) ++ zz z (grownCap w (i + n) c e - (i + n))).toArray) e)) := by
    unfold execOp
    simp only [ho, resolve, invoke, builtin, Sem.run_bind, Sem.run_pure, Result.andThen_ok, List.map_toArray, List.map_cons, List.map_nil, he.eval hx, he.eval hy, hrun]
    congr 3
    congr 1
    apply Array.ext'
    simp [zz]
  unfold Oper.wp; rw [hr']
  exact hK (mkY2 w.heap.size (grownCap w (i + n) c e) w) _ ⟨grownCap_ge w _ _ _, grownCap_le_maxLen w _ _ _ (by unfold maxLen; omega)⟩ (wok_new (sz := sz) (n := n) hw.drew e _)
/-- copy into a block whose cells are all known. -/
theorem ms_copyB {t e sz bytes g q m c1 n2 c2 k : Nat} {A2 B : Option Addr} {x y : Operand} {cs us : List Value} (r : Nat) [ht : EL P t e sz bytes] (ho : o.op = .call { callee := .builtin .copy, args := #[x, y], argTypes := #[t, t] })
    (hx : opd E x = some (.slice B m c1)) (hB : B = (ga g).map (·.add (q * sz))) (hy : opd E y = some (.slice A2 n2 c2)) (hi : H[r]? = some (.box g e cs)) (hr : Rds H G A2 us) (hk : Nat.min n2 m = k) (hl : us.length = k * sz) (h1 : ∀ u ∈ us, u.oneCell' = true) (hfit : q * sz + us.length ≤ cs.length) (h0 : 0 < k) :
    MStep P E H G o (fun _ => True) (fun _ => .int .i64 (k : Int)) (fun _ => H.set r (.box g e (putC cs (q * sz) us))) (fun _ => G) := fun N base w0 a w Q K he hw hK => by
  obtain ⟨hb, hh⟩ := hw.own _ (List.mem_of_getElem? hi)
  obtain ⟨hu, hz0, inf, z, hii, hz, hss, hby, hzs⟩ := ht.h
  have hst := run_storeCells_at P g (q * sz) e us 0 cs.toArray w hh (by simpa using hfit) h1
  have hfc := first_of' (P := P) (n := n2) (c := c2) (hr base w0 w hw) hl hz0 h0
  simp only [Nat.add_zero] at hst
  have hBe : B = some ⟨g, q * sz, none⟩ := by
    rw [hB]; show some ((⟨g, 0, none⟩ : Addr).add (q * sz)) = _; rw [ga_add]
  subst hBe
  have hrun : (Builtin.copy_ #[t, t] o.type #[.slice (some ⟨g, q * sz, none⟩) m c1, .slice A2 n2 c2]).run P w = .ok (.int .i64 k) (w.setRow g (putC cs (q * sz) us).toArray) := by
    simp [Builtin.copy_, run_underlying hu, Builtin.lenOf, sizeOf, typeInfo, hii, hss, hk, hfc, hst, putC, goInt]
  have hr' : (execOp a.eval o).run P w = .ok (.value (.int .i64 k)) (w.setRow g (putC cs (q * sz) us).toArray) := by
    unfold execOp
    simp only [ho, resolve, invoke, builtin, Sem.run_bind, Sem.run_pure, Result.andThen_ok, List.map_toArray, List.map_cons, List.map_nil, he.eval hx, he.eval hy, hrun]
  unfold Oper.wp; rw [hr']
  refine hK (mkY none 0 w) _ trivial (hw.turn (x := .box g e cs) hi (r := some g) ?_ (fun k hk => by cases hk; rfl) ⟨hb, setRow_heap w g _ _ e _ hh⟩ (fun j hj => .inl hj))
  exact ⟨rfl, rfl, rfl, by simp, fun j _ hj => setRow_other w g j _ (fun e => hj (by simp [e]))⟩
theorem ps_capS {x : Operand} {t e sz bytes : TypeId} {A : Option Addr} {n c : Nat} [ht : EL P t e sz bytes] (ho : o.op = .call { callee := .builtin .cap, args := #[x], argTypes := #[t] }) (hx : opd E x = some (.slice A n c)) : PStep P E H G o (.int .i64 (c : Int)) := fun N base w0 a w he hw => by
  simp [execOp, ho, resolve, invoke, builtin, Builtin.cap_, he.eval hx, run_underlying ht.h.1, goInt]
end
/-- What an insertion leaves, in cells. -/
theorem putC_app (P Z X : List Value) : putC (P ++ Z) P.length X = P ++ X ++ Z.drop X.length := by
  unfold putC
  rw [List.take_left, List.drop_append, List.drop_of_length_le (by omega), List.nil_append, Nat.add_sub_cancel_left]
theorem ins_grow {P Z X D : List Value} {p x n : Nat} (hp : P.length = p) (hx : X.length = x) (hn : p + x + D.length = n) : (putC (putC (P ++ Z) p X) (p + x) D).take n = P ++ X ++ D := by
  subst hp hx hn
  rw [putC_app, show P.length + X.length = (P ++ X).length by rw [List.length_append], putC_app]
  exact List.take_left' (by rw [List.length_append])
theorem ins_place {C P X D : List Value} {p x n : Nat} (hP : C.take p = P) (hp : p + x + D.length ≤ C.length) (hx : X.length = x) (hn : p + x + D.length = n) : (putC (putC C (p + x) D) p X).take n = P ++ X ++ D := by
  subst hx hn
  have hpl : P.length = p := by rw [← hP, List.length_take]; omega
  have e0 : C = P ++ C.drop p := by rw [← hP, List.take_append_drop]
  have e1 : putC C (p + X.length) D = P ++ ((C.drop p).take X.length ++ D ++ C.drop (p + X.length + D.length)) := by
    unfold putC
    rw [List.take_add, hP]
    simp only [List.append_assoc]
  subst hpl
  rw [e1, putC_app]
  have e2 : ((C.drop P.length).take X.length ++ D ++ C.drop (P.length + X.length + D.length)).drop X.length = D ++ C.drop (P.length + X.length + D.length) := by
    rw [List.append_assoc]
    exact List.drop_left' (by rw [List.length_take, List.length_drop]; omega)
  rw [e2, ← List.append_assoc]
  exact List.take_left' (by simp only [List.length_append])
end Go.Proofs.Ytfcnimglcialbaa
/- The laws over a code of bytes: what they begin with. -/
namespace Go.Proofs.Ytfcnimglcialbaa
open Go.RowKit
set_option maxHeartbeats 4000000
set_option maxRecDepth 20000
set_option linter.unusedVariables false
set_option linter.unusedSimpArgs false
attribute [local irreducible] Calls
theorem flatU8 : FlatAt .u8 (α := UInt8) (fun x => x) (fun _ => True) := fun w x c h => ⟨RdT.u8.1 h, trivial⟩
abbrev gCode : GT := .sl 5 .u8
theorem code_open {w : World} {v : Value} {x : gCode.den} (hx : RdT w gCode x [v]) : ∃ (A : Option Addr) (c : Nat) (l : List UInt8), v = .slice A l.length c ∧ Rd w A (fl l) := by
  obtain ⟨A, c, l, e, _, h, _⟩ := flat_sl flatU8 hx
  exact ⟨A, c, l, by simpa using e, h⟩
theorem big_c (A : Option Addr) (c n : Nat) (w : World) : Calls Try.prog 23 #[.slice A n c] w fun e w' => e = .returned (.bool (decide (1048576 < (n : Int)))) ∧ Below w.heap.size w w' := by
  refine ok_enter 6 Try.func23 rfl rfl rfl ?_
  repeat' (first
    | refine ok_seq ?_
    | refine ok_then ?_
    | refine ok_then_ret ?_
    | refine ok_then_exit ?_
    | refine ok_block ?_
    | refine ok_in_normal ?_
    | refine ok_in_ret ?_
    | refine ok_in_exit ?_
    | refine ok_in_other rfl ?_
    | (refine ok_cond rfl (fun hc => ?_) (fun hc => ?_) <;> (have hd := hc; (try simp only [decide_eq_true_eq, decide_eq_false_iff_not, Bool.or_eq_true, Bool.or_eq_false_iff, Bool.and_eq_true, Bool.and_eq_false_iff, Bool.not_eq_true', Bool.not_eq_false', bne_iff_ne, beq_iff_eq, bne_eq_false_iff_eq, beq_eq_false_iff_ne, ne_eq, Bool.not_true, Bool.not_false, Bool.false_eq_true, Bool.true_eq_false, inB_true, inB_false] at hd)))
    | refine ok_ret ?_
    | refine ok_exit ?_
    | refine ok_skip ?_
    | (refine ok_region (i := 0) ?_; refine ok_p rfl rfl rfl (by exact ps_assign rfl rfl) ?_; refine ok_nil ?_; refine ok_env [(0, _)] ⟨rfl, trivial⟩ ?_)
    | (refine ok_region (i := 1) ?_; refine ok_p rfl rfl rfl (by exact ps_move rfl rfl) ?_; refine ok_p rfl rfl rfl (by exact ps_len rfl rfl) ?_; refine ok_p rfl rfl rfl (by exact ps_int rfl rfl rfl rfl) ?_; refine ok_p rfl rfl rfl (by exact ps_assign rfl rfl) ?_; refine ok_nil ?_; refine ok_env [(2, _)] ⟨rfl, trivial⟩ ?_))
  exact ok_endL (vs := [_]) rfl ⟨rfl, trivial⟩ (fun w' hw => ⟨rfl, hw.below⟩)
def atV (l : List UInt8) (i : Nat) : Nat := if i < l.length then (nth l i).toNat else (i * 37 + l.length * 11) % 256
theorem atV_lt (l : List UInt8) (i : Nat) : atV l i < 256 := by
  unfold atV
  split
  · exact UInt8.toNat_lt _
  · omega
theorem at_c (A : Option Addr) (c : Nat) (l : List UInt8) (i : Nat) (w : World) (h : Rd w A (fl l)) (hl : l.length ≤ 1048576) (hi : i ≤ 1000) : Calls Try.prog 24 #[.slice A l.length c, .int .i64 i] w fun e w' => e = .returned (.int .i64 (atV l i)) ∧ Below w.heap.size w w' := by
  have hb := UInt8.toNat_lt (nth l i)
  refine ok_enter 21 Try.func24 rfl rfl rfl ?_
  repeat' (first
    | refine ok_seq ?_
    | refine ok_then ?_
    | refine ok_then_ret ?_
    | refine ok_then_exit ?_
    | refine ok_block ?_
    | refine ok_in_normal ?_
    | refine ok_in_ret ?_
    | refine ok_in_exit ?_
    | refine ok_in_other rfl ?_
    | (refine ok_cond rfl (fun hc => ?_) (fun hc => ?_) <;> (have hd := hc; (try simp only [decide_eq_true_eq, decide_eq_false_iff_not, Bool.or_eq_true, Bool.or_eq_false_iff, Bool.and_eq_true, Bool.and_eq_false_iff, Bool.not_eq_true', Bool.not_eq_false', bne_iff_ne, beq_iff_eq, bne_eq_false_iff_eq, beq_eq_false_iff_ne, ne_eq, Bool.not_true, Bool.not_false, Bool.false_eq_true, Bool.true_eq_false, inB_true, inB_false] at hd)))
    | refine ok_ret ?_
    | refine ok_exit ?_
    | refine ok_skip ?_
    | (refine ok_region (i := 0) ?_; refine ok_p rfl rfl rfl (by exact ps_assign rfl rfl) ?_; refine ok_nil ?_; refine ok_env [(0, _), (1, _)] ⟨rfl, rfl, trivial⟩ ?_)
    | (refine ok_region (i := 1) ?_; refine ok_p rfl rfl rfl (by exact ps_move rfl rfl) ?_; refine ok_p rfl rfl rfl (by exact ps_move rfl rfl) ?_; refine ok_p rfl rfl rfl (by exact ps_len rfl rfl) ?_; refine ok_p rfl rfl rfl (by exact ps_int rfl rfl rfl rfl) ?_; refine ok_nil ?_; refine ok_env [(0, _), (1, _), (8, _)] ⟨rfl, rfl, rfl, trivial⟩ ?_)
    | (refine ok_region (i := 2) ?_; refine ok_p rfl rfl rfl (by exact ps_move rfl rfl) ?_; refine ok_p rfl rfl rfl (by exact ps_move rfl rfl) ?_; refine ok_p rfl rfl rfl (by first | exact ps_indexN rfl rfl rfl (by omega) (by first | exact isw_ga _ | exact isw_some _ | exact isw_row 0 rfl (by omega) | exact isw_row 1 rfl (by omega) | exact isw_row 2 rfl (by omega) | exact isw_row 3 rfl (by omega) | exact isw_row 4 rfl (by omega) | exact isw_row 5 rfl (by omega) | exact isw_row 6 rfl (by omega) | exact isw_row 7 rfl (by omega) | exact isw_row 8 rfl (by omega) | exact isw_of (isS_fl (by assumption) (by omega)) | exact isw_of (by assumption)) | exact ps_index rfl rfl rfl (by omega) (by first | exact isw_ga _ | exact isw_some _ | exact isw_row 0 rfl (by omega) | exact isw_row 1 rfl (by omega) | exact isw_row 2 rfl (by omega) | exact isw_row 3 rfl (by omega) | exact isw_row 4 rfl (by omega) | exact isw_row 5 rfl (by omega) | exact isw_row 6 rfl (by omega) | exact isw_row 7 rfl (by omega) | exact isw_row 8 rfl (by omega) | exact isw_of (isS_fl (by assumption) (by omega)) | exact isw_of (by assumption))) ?_; refine ok_p rfl rfl rfl (by exact ps_load rfl rfl (by first | exact Rds.cell (rds_box 0 rfl) rfl | exact Rds.cell (rds_box 1 rfl) rfl | exact Rds.cell (rds_box 2 rfl) rfl | exact Rds.cell (rds_box 3 rfl) rfl | exact Rds.cell (rds_box 4 rfl) rfl | exact Rds.cell (rds_box 5 rfl) rfl | exact Rds.cell (rds_box 6 rfl) rfl | exact Rds.cell (rds_box 7 rfl) rfl | exact Rds.cell (rds_box 8 rfl) rfl | exact Rds.cell (rds_box 9 rfl) rfl | exact Rds.cell (rds_box 10 rfl) rfl | exact Rds.cell (rds_box 11 rfl) rfl | exact Rds.cell (rds_box 12 rfl) rfl | exact Rds.cell (rds_box 13 rfl) rfl | exact Rds.cell (rds_box 14 rfl) rfl | exact Rds.cell (rds_box 15 rfl) rfl | exact Rds.cell (rds_box 16 rfl) rfl | exact Rds.cell (rds_box 17 rfl) rfl | exact Rds.cell (rds_box 18 rfl) rfl | exact Rds.cell (rds_box 19 rfl) rfl | exact Rds.cell (rds_box 20 rfl) rfl | exact Rds.cell (rds_box 21 rfl) rfl | exact Rds.cell (rds_box 22 rfl) rfl | exact Rds.cell (rds_box 23 rfl) rfl | exact Rds.cell (rds_rf (by assumption) (by first | exact List.mem_cons_self | exact List.mem_cons_of_mem _ List.mem_cons_self | simp)) (by first | exact fl_at0 _ _ (by omega) (by decide) | exact fl_at _ _ _ (by omega) (by decide)) | exact Rds.cell (rds_row 0 rfl) (by first | exact fl_at0 _ _ (by omega) (by decide) | exact fl_at _ _ _ (by omega) (by decide)) | exact Rds.cell (rds_row 1 rfl) (by first | exact fl_at0 _ _ (by omega) (by decide) | exact fl_at _ _ _ (by omega) (by decide)) | exact Rds.cell (rds_row 2 rfl) (by first | exact fl_at0 _ _ (by omega) (by decide) | exact fl_at _ _ _ (by omega) (by decide)) | exact Rds.cell (rds_row 3 rfl) (by first | exact fl_at0 _ _ (by omega) (by decide) | exact fl_at _ _ _ (by omega) (by decide)) | exact Rds.cell (rds_row 4 rfl) (by first | exact fl_at0 _ _ (by omega) (by decide) | exact fl_at _ _ _ (by omega) (by decide)) | exact Rds.cell (rds_row 5 rfl) (by first | exact fl_at0 _ _ (by omega) (by decide) | exact fl_at _ _ _ (by omega) (by decide)) | exact Rds.cell (rds_row 6 rfl) (by first | exact fl_at0 _ _ (by omega) (by decide) | exact fl_at _ _ _ (by omega) (by decide)) | exact Rds.cell (rds_row 7 rfl) (by first | exact fl_at0 _ _ (by omega) (by decide) | exact fl_at _ _ _ (by omega) (by decide)) | exact Rds.cell (rds_row 8 rfl) (by first | exact fl_at0 _ _ (by omega) (by decide) | exact fl_at _ _ _ (by omega) (by decide)) | exact Rds.cell (rds_row 9 rfl) (by first | exact fl_at0 _ _ (by omega) (by decide) | exact fl_at _ _ _ (by omega) (by decide)))) ?_; refine ok_p rfl rfl rfl (by first | exact ps_conv_id rfl rfl (IntWalk.i64_in _ (by omega)) | exact ps_conv_id rfl rfl (IntWalk.i64_in _ (by omega))) ?_; refine ok_p rfl rfl rfl (by exact ps_assign rfl rfl) ?_; refine ok_nil ?_; refine ok_env [(4, _)] ⟨rfl, trivial⟩ ?_)
    | (refine ok_region (i := 3) ?_; refine ok_p rfl rfl rfl (by exact ps_move rfl rfl) ?_; refine ok_p rfl rfl rfl (by exact ps_mul rfl rfl rfl (by omega)) ?_; refine ok_p rfl rfl rfl (by exact ps_move rfl rfl) ?_; refine ok_p rfl rfl rfl (by exact ps_len rfl rfl) ?_; refine ok_p rfl rfl rfl (by exact ps_mul rfl rfl rfl (by omega)) ?_; refine ok_p rfl rfl rfl (by exact ps_add rfl rfl rfl (by omega)) ?_; refine ok_p rfl rfl rfl (by exact ps_rem rfl rfl rfl (by omega) (by omega)) ?_; refine ok_p rfl rfl rfl (by exact ps_assign rfl rfl) ?_; refine ok_nil ?_; refine ok_env [(4, _)] ⟨rfl, trivial⟩ ?_))
  · have e : atV l i = (nth l i).toNat := by unfold atV; rw [if_pos (by omega)]
    rw [e]
    exact ok_endL (vs := [_]) rfl ⟨rfl, trivial⟩ (fun w' hw => ⟨rfl, hw.below⟩)
  · have e : atV l i = (i * 37 + l.length * 11) % 256 := by unfold atV; rw [if_neg (by omega)]
    rw [e]
    exact ok_endL (vs := [_]) rfl ⟨rfl, trivial⟩ (fun w' hw => ⟨rfl, hw.below⟩)
end Go.Proofs.Ytfcnimglcialbaa
/- Regions that meet again, with the facts on what was made; objects one by one to the front. -/
namespace Go.Proofs.Ytfcnimglcialbaa
open Go.RowKit
set_option linter.unusedVariables false
section
variable {P : Program} {N base : Nat} {w0 : World} {E : Env} {H : List HObj} {G : List World} {K : Act → World → Prop}
theorem mrgf1 {F : Ys → Prop} {XE : Ys → Env} {XH : Ys → List HObj} {G' : List World} {K' : Act → World → Prop} (h1 : (∀ y0, F y0 → Ok N base w0 (XE y0) (XH y0) G' K') → Ok N base w0 E H G K) (h2 : ∀ y0, F y0 → Ok N base w0 (XE y0) (XH y0) G' K') : Ok N base w0 E H G K := h1 h2
theorem mrgf2 {F : Ys → Ys → Prop} {XE : Ys → Ys → Env} {XH : Ys → Ys → List HObj} {G' : List World} {K' : Act → World → Prop} (h1 : (∀ y0 y1, F y0 y1 → Ok N base w0 (XE y0 y1) (XH y0 y1) G' K') → Ok N base w0 E H G K) (h2 : ∀ y0 y1, F y0 y1 → Ok N base w0 (XE y0 y1) (XH y0 y1) G' K') : Ok N base w0 E H G K := h1 h2
theorem mrgf3 {F : Ys → Ys → Ys → Prop} {XE : Ys → Ys → Ys → Env} {XH : Ys → Ys → Ys → List HObj} {G' : List World} {K' : Act → World → Prop} (h1 : (∀ y0 y1 y2, F y0 y1 y2 → Ok N base w0 (XE y0 y1 y2) (XH y0 y1 y2) G' K') → Ok N base w0 E H G K) (h2 : ∀ y0 y1 y2, F y0 y1 y2 → Ok N base w0 (XE y0 y1 y2) (XH y0 y1 y2) G' K') : Ok N base w0 E H G K := h1 h2
theorem mrgf4 {F : Ys → Ys → Ys → Ys → Prop} {XE : Ys → Ys → Ys → Ys → Env} {XH : Ys → Ys → Ys → Ys → List HObj} {G' : List World} {K' : Act → World → Prop} (h1 : (∀ y0 y1 y2 y3, F y0 y1 y2 y3 → Ok N base w0 (XE y0 y1 y2 y3) (XH y0 y1 y2 y3) G' K') → Ok N base w0 E H G K) (h2 : ∀ y0 y1 y2 y3, F y0 y1 y2 y3 → Ok N base w0 (XE y0 y1 y2 y3) (XH y0 y1 y2 y3) G' K') : Ok N base w0 E H G K := h1 h2
theorem mrgf5 {F : Ys → Ys → Ys → Ys → Ys → Prop} {XE : Ys → Ys → Ys → Ys → Ys → Env} {XH : Ys → Ys → Ys → Ys → Ys → List HObj} {G' : List World} {K' : Act → World → Prop} (h1 : (∀ y0 y1 y2 y3 y4, F y0 y1 y2 y3 y4 → Ok N base w0 (XE y0 y1 y2 y3 y4) (XH y0 y1 y2 y3 y4) G' K') → Ok N base w0 E H G K) (h2 : ∀ y0 y1 y2 y3 y4, F y0 y1 y2 y3 y4 → Ok N base w0 (XE y0 y1 y2 y3 y4) (XH y0 y1 y2 y3 y4) G' K') : Ok N base w0 E H G K := h1 h2
theorem mrgf6 {F : Ys → Ys → Ys → Ys → Ys → Ys → Prop} {XE : Ys → Ys → Ys → Ys → Ys → Ys → Env} {XH : Ys → Ys → Ys → Ys → Ys → Ys → List HObj} {G' : List World} {K' : Act → World → Prop} (h1 : (∀ y0 y1 y2 y3 y4 y5, F y0 y1 y2 y3 y4 y5 → Ok N base w0 (XE y0 y1 y2 y3 y4 y5) (XH y0 y1 y2 y3 y4 y5) G' K') → Ok N base w0 E H G K) (h2 : ∀ y0 y1 y2 y3 y4 y5, F y0 y1 y2 y3 y4 y5 → Ok N base w0 (XE y0 y1 y2 y3 y4 y5) (XH y0 y1 y2 y3 y4 y5) G' K') : Ok N base w0 E H G K := h1 h2
theorem mrgf7 {F : Ys → Ys → Ys → Ys → Ys → Ys → Ys → Prop} {XE : Ys → Ys → Ys → Ys → Ys → Ys → Ys → Env} {XH : Ys → Ys → Ys → Ys → Ys → Ys → Ys → List HObj} {G' : List World} {K' : Act → World → Prop} (h1 : (∀ y0 y1 y2 y3 y4 y5 y6, F y0 y1 y2 y3 y4 y5 y6 → Ok N base w0 (XE y0 y1 y2 y3 y4 y5 y6) (XH y0 y1 y2 y3 y4 y5 y6) G' K') → Ok N base w0 E H G K) (h2 : ∀ y0 y1 y2 y3 y4 y5 y6, F y0 y1 y2 y3 y4 y5 y6 → Ok N base w0 (XE y0 y1 y2 y3 y4 y5 y6) (XH y0 y1 y2 y3 y4 y5 y6) G' K') : Ok N base w0 E H G K := h1 h2
theorem mrgf8 {F : Ys → Ys → Ys → Ys → Ys → Ys → Ys → Ys → Prop} {XE : Ys → Ys → Ys → Ys → Ys → Ys → Ys → Ys → Env} {XH : Ys → Ys → Ys → Ys → Ys → Ys → Ys → Ys → List HObj} {G' : List World} {K' : Act → World → Prop} (h1 : (∀ y0 y1 y2 y3 y4 y5 y6 y7, F y0 y1 y2 y3 y4 y5 y6 y7 → Ok N base w0 (XE y0 y1 y2 y3 y4 y5 y6 y7) (XH y0 y1 y2 y3 y4 y5 y6 y7) G' K') → Ok N base w0 E H G K) (h2 : ∀ y0 y1 y2 y3 y4 y5 y6 y7, F y0 y1 y2 y3 y4 y5 y6 y7 → Ok N base w0 (XE y0 y1 y2 y3 y4 y5 y6 y7) (XH y0 y1 y2 y3 y4 y5 y6 y7) G' K') : Ok N base w0 E H G K := h1 h2
theorem ok_front (i : Nat) {x : HObj} (hi : H[i]? = some x) (h : Ok N base w0 E (x :: H.eraseIdx i) G K) : Ok N base w0 E H G K := fun a w he hw => h a w he (hw.front i hi)
end
end Go.Proofs.Ytfcnimglcialbaa
/- Turns drawn. -/
namespace Go.Proofs.Ytfcnimglcialbaa
open Go.RowKit
set_option maxHeartbeats 4000000
set_option maxRecDepth 20000
set_option linter.unusedVariables false
set_option linter.unusedSimpArgs false
attribute [local irreducible] Calls
instance : Enc DTurns := ⟨fun x => .agg #[Enc.toV x.W, Enc.toV x.L, Enc.toV x.T, .int .i64 x.p], fun v => ⟨Enc.ofV ((asL v).getD 0 (.bool false)), Enc.ofV ((asL v).getD 1 (.bool false)), Enc.ofV ((asL v).getD 2 (.bool false)), asI ((asL v).getD 3 (.bool false))⟩, fun x => by
  show (⟨Enc.ofV (Enc.toV x.W), Enc.ofV (Enc.toV x.L), Enc.ofV (Enc.toV x.T), x.p⟩ : DTurns) = x
  rw [Enc.rt, Enc.rt, Enc.rt]⟩
theorem isw_rds {H : List HObj} {G : List World} {A : Option Addr} {us : List Value} (h : Rds H G A us) (hl : 0 < us.length) : IsSW H G A := fun base w0 w hw => isS_rd (h base w0 w hw) hl
theorem rds_tl {H : List HObj} {G : List World} {A : Option Addr} {us : List Value} (x : HObj) (h : Rds H G A us) : Rds (x :: H) G A us := fun base w0 w hw => h base w0 w hw.tl
theorem pickInt_c (g : Nat) (A : Option Addr) (c : Nat) (bs : List UInt8) (i : Nat) (h : Int) (L : List Int) (B : Option Addr) (d : Nat) (h0 : 0 < L.length ∧ L.length ≤ 1048576) (hi : i ≤ bs.length) {base : Nat} {w0 w : World} {H : List HObj} {G : List World} (hr : CodeR A bs G) (hL : Rds H G B (fl L)) (hw : WOk base w0 (cur g A bs.length c i h :: H) G w) :
    Calls Try.prog 212 #[pt (ga g) 0, .slice B L.length d] w fun e w' => ∃ y : Ys, e = .returned (.int .i64 (nth L (y 0).n.toNat)) ∧ ((0 ≤ (y 0).n ∧ (y 0).n < L.length) ∧ (y 0).c ≤ bs.length) ∧ WOk base w0 (cur g A bs.length c (y 0).c (y 1).n :: H) G w' := by
  have hz : 0 < (fl L).length := by rw [fl_len]; show 0 < L.length * 1; omega
  refine ok_enterW 12 Try.func212 rfl rfl rfl hw ?_
  repeat' (first
    | refine ok_seq ?_
    | refine ok_then ?_
    | refine ok_ret ?_
    | (refine ok_region (i := 0) ?_; refine ok_p rfl rfl rfl (by exact ps_assign rfl rfl) ?_; refine ok_nil ?_; refine ok_env [(0, _), (1, _)] ⟨rfl, rfl, trivial⟩ ?_)
    | (refine ok_region (i := 1) ?_; refine ok_p rfl rfl rfl (by exact ps_move rfl rfl) ?_; refine ok_p rfl rfl rfl (by exact ps_move rfl rfl) ?_; refine ok_p rfl rfl rfl (by exact ps_move rfl rfl) ?_; refine ok_p rfl rfl rfl (by exact ps_len rfl rfl) ?_; refine ok_m rfl rfl rfl (by exact ms_wr 0 rfl rfl rfl rfl (fun _ _ w hw => below_c g A c bs _ _ (L.length : Int) (by omega) (by omega) hr hw)) ?_; rintro y9 hy9; refine ok_p rfl rfl rfl (by exact ps_index rfl rfl rfl (by omega) (isw_rds (rds_tl _ hL) hz)) ?_; refine ok_p rfl rfl rfl (by exact ps_load rfl rfl (Rds.cell (rds_tl _ hL) (fl_at0 L (y9 0).n.toNat (by omega) (by decide)))) ?_; refine ok_p rfl rfl rfl (by exact ps_assign rfl rfl) ?_; refine ok_nil ?_; refine ok_env [(4, _)] ⟨rfl, trivial⟩ ?_))
  refine ok_endL (vs := [_]) rfl ⟨rfl, trivial⟩ (fun w' hw => ?_)
  exact ⟨y9, rfl, hy9, hw⟩
/-- Numbers from 1 to 4. -/
structure TnA (m : Nat) where
  n : Nat
  L : List Int
  B : Option Addr
  d : Nat
  i : Nat
  h : Int
  hi : i ≤ m ∧ 1 ≤ L.length + n ∧ L.length + n ≤ 4
  hL : ∀ k, k < L.length → 1 ≤ nth L k ∧ nth L k ≤ 9
theorem in_snoc {L : List Int} {v : Int} (h : ∀ k, k < L.length → 1 ≤ nth L k ∧ nth L k ≤ 9) (hv : 1 ≤ v ∧ v ≤ 9) : ∀ k, k < (L ++ [v]).length → 1 ≤ nth (L ++ [v]) k ∧ nth (L ++ [v]) k ≤ 9 := by
  intro k hk
  simp only [List.length_append, List.length_singleton] at hk
  by_cases e : k < L.length
  · have := h k e
    unfold nth at this ⊢
    rw [List.getD_eq_getElem?_getD, List.getElem?_append_left e, ← List.getD_eq_getElem?_getD]; exact this
  · have e2 : k = L.length := by omega
    subst e2
    unfold nth
    rw [List.getD_eq_getElem?_getD, List.getElem?_append_right (Nat.le_refl _), Nat.sub_self]; exact hv
/-- Turns, asked and served. -/
structure TnB (m : Nat) where
  n : Nat
  x : DTurns
  y : Ys
  i : Nat
  h : Int
  hi : i ≤ m ∧ n ≤ 20
  hx : fTurnsOk x = true
theorem fin_T {base : Nat} {w0 w : World} {H : List HObj} {G : List World} {g n c m : Nat} {A : Option Addr} (y : Ys) (x : DTurns) (i : Nat) (h : Int) {e : Ending} (he : e = .returned (Turns_val x y)) (hx : Turns_sm x) (hi : i ≤ m) (hw : WOk base w0 (Turns_obj x y ++ (cur g A n c i h :: H)) G w) :
    ∃ y : Ys, e = .returned (Turns_val (yE (y 3)) y) ∧ (Turns_sm (yE (y 3)) ∧ (y 3).c ≤ m) ∧ WOk base w0 (.row 3 1 (y 0).A (yE (y 3) : DTurns).W.length (y 0).c (fl (yE (y 3) : DTurns).W) :: .row 3 1 (y 1).A (yE (y 3) : DTurns).L.length (y 1).c (fl (yE (y 3) : DTurns).L) :: .row 3 1 (y 2).A (yE (y 3) : DTurns).T.length (y 2).c (fl (yE (y 3) : DTurns).T) :: cur g A n c (y 3).c (y 3).n :: H) G w := by
  have e3 : (yE (mkE 3 y x i h w 3) : DTurns) = x := yE_mk none i x w h
  exact ⟨mkE 3 y x i h w, by rw [e3]; exact he, by rw [e3]; exact ⟨hx, hi⟩, by rw [e3]; exact hw⟩
theorem l33Some_c (g : Nat) (A : Option Addr) (c : Nat) (bs : List UInt8) (i : Nat) (h : Int) (hi : i ≤ bs.length) {base : Nat} {w0 w : World} {H : List HObj} {G : List World} (hr : CodeR A bs G) (hw : WOk base w0 (cur g A bs.length c i h :: H) G w) :
    Calls Try.prog 125 #[pt (ga g) 0] w fun e w' => ∃ y : Ys, e = .returned (Turns_val (yE (y 3)) y) ∧ (Turns_sm (yE (y 3)) ∧ (y 3).c ≤ bs.length) ∧ WOk base w0 (.row 3 1 (y 0).A (yE (y 3) : DTurns).W.length (y 0).c (fl (yE (y 3) : DTurns).W) :: .row 3 1 (y 1).A (yE (y 3) : DTurns).L.length (y 1).c (fl (yE (y 3) : DTurns).L) :: .row 3 1 (y 2).A (yE (y 3) : DTurns).T.length (y 2).c (fl (yE (y 3) : DTurns).T) :: cur g A bs.length c (y 3).c (y 3).n :: H) G w' := by
  refine ok_enterW 92 Try.func125 rfl rfl rfl hw ?_
  repeat' (first
    | refine ok_seq ?_
    | refine ok_then ?_
    | refine ok_block ?_
    | (refine ok_region (i := 0) ?_; refine ok_m rfl rfl rfl (by exact ms_alloc rfl) ?_; rintro y2 hy2; refine ok_nil ?_; refine ok_env [(0, _), (2, _)] ⟨rfl, rfl, trivial⟩ ?_)
    | (refine ok_region (i := 1) ?_; refine ok_m rfl rfl rfl (by exact ms_lit rfl parts_nil rfl rfl rfl) ?_; rintro y12 hy12; refine ok_p rfl rfl rfl (by exact ps_assign rfl rfl) ?_; refine ok_nil ?_; refine ok_env [(0, _), (2, _), (3, _)] ⟨rfl, rfl, rfl, trivial⟩ ?_)
    | (refine ok_region (i := 2) ?_; refine ok_p rfl rfl rfl (by exact ps_move rfl rfl) ?_; refine ok_m rfl rfl rfl (by exact ms_wr 2 rfl rfl rfl rfl (fun _ _ w hw => below_c g A c bs _ _ 4 (by omega) (by omega) hr hw)) ?_; rintro y14 hy14; refine ok_p rfl rfl rfl (by exact ps_add rfl rfl rfl (by omega)) ?_; refine ok_p rfl rfl rfl (by exact ps_assign rfl rfl) ?_; refine ok_nil ?_; refine ok_env [(0, _), (2, _), (3, _), (4, _)] ⟨rfl, rfl, rfl, rfl, trivial⟩ ?_))
  refine ok_loop (ι := TnA bs.length) (fun q => q.n) (fun q => ([(0, pt (ga g) 0), (2, pt (ga (y2 0).c) 0), (3, .slice q.B q.L.length q.d), (4, .int .i64 q.n)], .row 3 1 q.B q.L.length q.d (fl q.L) :: .box (y2 0).c 51 [.slice none 0 0, .slice none 0 0, .slice none 0 0, .int .i64 0] :: cur g A bs.length c q.i q.h :: H, _)) ⟨(1 + (y14 0).n).toNat, [], ga (y12 0).c, 0, (y14 0).c, (y14 1).n, by simp; omega, by simp⟩ (fun a w he hw => ⟨⟨(1 + (y14 0).n).toNat, [], ga (y12 0).c, 0, (y14 0).c, (y14 1).n, by simp; omega, by simp⟩, he.sub ⟨rfl, rfl, rfl, by show some (Value.int .i64 (1 + (y14 0).n)) = some (.int .i64 (((1 + (y14 0).n).toNat : Nat) : Int)); rw [show (((1 + (y14 0).n).toNat : Nat) : Int) = 1 + (y14 0).n by omega], trivial⟩, hw⟩) ?_
  rintro ⟨n, L, B, d, i2, h2, hi2, hL⟩
  simp only at hi2 hL ⊢
  have HL := Lib.hid hL; clear hL
  repeat' (first
    | refine ok_seq ?_
    | refine ok_then ?_
    | refine ok_block ?_
    | refine ok_in_normal ?_
    | (refine ok_cond rfl (fun hc => ?_) (fun hc => ?_) <;> (have hd := hc; (try simp only [decide_eq_true_eq, decide_eq_false_iff_not, Bool.or_eq_true, Bool.or_eq_false_iff, Bool.and_eq_true, Bool.and_eq_false_iff, Bool.not_eq_true', Bool.not_eq_false', bne_iff_ne, beq_iff_eq, bne_eq_false_iff_eq, beq_eq_false_iff_ne, ne_eq, Bool.not_true, Bool.not_false, Bool.false_eq_true, Bool.true_eq_false, inB_true, inB_false] at hd)))
    | refine ok_exit ?_
    | refine ok_skip ?_
    | (refine ok_region (i := 3) ?_; refine ok_p rfl rfl rfl (by exact ps_move rfl rfl) ?_; refine ok_p rfl rfl rfl (by exact ps_int rfl rfl rfl rfl) ?_; refine ok_nil ?_; refine ok_env [(0, _), (2, _), (3, _), (4, _), (17, _)] ⟨rfl, rfl, rfl, rfl, rfl, trivial⟩ ?_)
    | (refine ok_region (i := 4) ?_; refine ok_p rfl rfl rfl (by exact ps_move rfl rfl) ?_; refine ok_p rfl rfl rfl (by exact ps_cast (v' := .int .i64 ((n - 1 : Nat) : Int)) (ps_sub rfl rfl rfl (by omega)) (by rw [show (n : Int) - 1 = ((n - 1 : Nat) : Int) by omega])) ?_; refine ok_p rfl rfl rfl (by exact ps_assign rfl rfl) ?_; refine ok_nil ?_; refine ok_env [(0, _), (2, _), (3, _), (4, _)] ⟨rfl, rfl, rfl, rfl, trivial⟩ ?_)
    | (refine ok_region (i := 5) ?_; refine ok_p rfl rfl rfl (by exact ps_move rfl rfl) ?_; refine ok_p rfl rfl rfl (by exact ps_move rfl rfl) ?_; refine ok_m rfl rfl rfl (by exact ms_wr 2 rfl rfl rfl rfl (fun _ _ w hw => below_c g A c bs _ _ 4 (by omega) (by omega) hr hw)) ?_; rintro y22 hy22; refine ok_p rfl rfl rfl (by exact ps_add rfl rfl rfl (by omega)) ?_; refine ok_m rfl rfl rfl (by exact ms_lit rfl (parts_cons rfl parts_nil) rfl rfl rfl) ?_; rintro y24 hy24; refine ok_m rfl rfl rfl (by exact ms_appF (α := Int) (L := L) (M := [1 + (y22 0).n]) 1 rfl rfl rfl rfl (rds_row 0 rfl) rfl (by simp; omega) (by simp; omega)) ?_; rintro y25 hy25; refine ok_p rfl rfl rfl (by exact ps_assign rfl rfl) ?_; refine ok_nil ?_; refine ok_env [(0, _), (2, _), (3, _), (4, _)] ⟨rfl, rfl, rfl, rfl, trivial⟩ ?_)
    | (refine ok_region (i := 6) ?_; refine ok_p rfl rfl rfl (by exact ps_move rfl rfl) ?_; refine ok_m rfl rfl rfl (by exact ms_c1 rfl rfl (fun _ _ w hw => s_TurnsNew0 B d L w (rds_row 0 rfl _ _ w hw) (by omega))) ?_; rintro y28 hy28; refine ok_p rfl rfl rfl (by exact ps_move rfl rfl) ?_; refine ok_p rfl rfl rfl (by exact ps_extract rfl rfl rfl) ?_; refine ok_p rfl rfl rfl (by exact ps_extract rfl rfl rfl) ?_; refine ok_m rfl rfl rfl (by exact ms_alloc rfl) ?_; rintro y5 hy5; refine ok_m_ rfl rfl (by exact ms_store 0 rfl rfl rfl rfl rfl rfl rfl rfl) ?_; rintro y_ hy_; refine ok_p rfl rfl rfl (by exact ps_assign rfl rfl) ?_; refine ok_nil ?_; refine ok_env [(0, _), (2, _), (3, _), (5, _)] ⟨rfl, rfl, rfl, rfl, trivial⟩ ?_)
    | (refine ok_region (i := 7) ?_; refine ok_p rfl rfl rfl (by exact ps_move rfl rfl) ?_; refine ok_m rfl rfl rfl (by exact ms_wr 6 rfl rfl rfl rfl (fun _ _ w hw => below_c g A c bs _ _ 20 (by omega) (by omega) hr hw)) ?_; rintro y32 hy32; refine ok_p rfl rfl rfl (by exact ps_assign rfl rfl) ?_; refine ok_nil ?_; refine ok_env [(0, _), (2, _), (3, _), (5, _), (7, _)] ⟨rfl, rfl, rfl, rfl, rfl, trivial⟩ ?_))
  · exact fun a w' he hw => ⟨⟨n - 1, L ++ [1 + (y22 0).n], (y25 0).A, (y25 0).c, (y22 0).c, (y22 1).n, by simp only [List.length_append, List.length_singleton]; omega, in_snoc HL.out (by omega)⟩, by simp only; omega, he.sub ⟨rfl, rfl, by simp only [List.length_append, List.length_singleton]; rfl, rfl, trivial⟩, by
      have := hw.tl
      simp only [List.length_append, List.length_singleton] at this ⊢
      exact this⟩
  have n0 : n = 0 := by omega
  have ln : 1 ≤ L.length ∧ L.length ≤ 4 := by omega
  have nok : fTurnsOk (fTurnsNew L).1 = true := new_ok (by omega) HL.out
  generalize (fTurnsNew L).1 = x at nok ⊢
  refine ok_loop (ι := TnB bs.length) (fun q => q.n) (fun q => ([(0, pt (ga g) 0), (2, pt (ga (y2 0).c) 0), (3, .slice B L.length d), (5, pt (ga (y5 0).c) 0), (7, .int .i64 q.n)], .box (y5 0).c 51 [.slice (q.y 0).A q.x.W.length (q.y 0).c, .slice (q.y 1).A q.x.L.length (q.y 1).c, .slice (q.y 2).A q.x.T.length (q.y 2).c, .int .i64 q.x.p] :: .row 3 1 (q.y 0).A q.x.W.length (q.y 0).c (fl q.x.W) :: .row 3 1 (q.y 1).A q.x.L.length (q.y 1).c (fl q.x.L) :: .row 3 1 (q.y 2).A q.x.T.length (q.y 2).c (fl q.x.T) :: .row 3 1 B L.length d (fl L) :: .box (y2 0).c 51 [.slice none 0 0, .slice none 0 0, .slice none 0 0, .int .i64 0] :: cur g A bs.length c q.i q.h :: H, _)) ⟨(y32 0).n.toNat, x, y28, (y32 0).c, (y32 1).n, by omega, nok⟩ (fun a w he hw => ⟨⟨(y32 0).n.toNat, x, y28, (y32 0).c, (y32 1).n, by omega, nok⟩, he.sub ⟨rfl, rfl, rfl, rfl, by show some (Value.int .i64 (y32 0).n) = some (.int .i64 (((y32 0).n.toNat : Nat) : Int)); rw [show (((y32 0).n.toNat : Nat) : Int) = (y32 0).n by omega], trivial⟩, hw⟩) ?_
  rintro ⟨n2, x, y, i3, h3, hi3, hok⟩
  simp only at hi3 hok ⊢
  have hlen := ok_len hok
  have OK := Lib.hid hok; clear hok
  have sm : Turns_sm x := ⟨by omega, by omega, by omega⟩
  have SM := Lib.hid sm; clear sm
  repeat' (first
    | refine ok_seq ?_
    | refine ok_then ?_
    | refine ok_block ?_
    | refine ok_in_normal ?_
    | (refine ok_cond rfl (fun hc => ?_) (fun hc => ?_) <;> (have hd := hc; (try simp only [decide_eq_true_eq, decide_eq_false_iff_not, Bool.or_eq_true, Bool.or_eq_false_iff, Bool.and_eq_true, Bool.and_eq_false_iff, Bool.not_eq_true', Bool.not_eq_false', bne_iff_ne, beq_iff_eq, bne_eq_false_iff_eq, beq_eq_false_iff_ne, ne_eq, Bool.not_true, Bool.not_false, Bool.false_eq_true, Bool.true_eq_false, inB_true, inB_false] at hd)))
    | refine ok_ret ?_
    | refine ok_exit ?_
    | refine ok_skip ?_
    | (refine ok_region (i := 8) ?_; refine ok_p rfl rfl rfl (by exact ps_move rfl rfl) ?_; refine ok_p rfl rfl rfl (by exact ps_int rfl rfl rfl rfl) ?_; refine ok_nil ?_; refine ok_env [(0, _), (2, _), (3, _), (5, _), (7, _), (34, _)] ⟨rfl, rfl, rfl, rfl, rfl, rfl, trivial⟩ ?_)
    | (refine ok_region (i := 9) ?_; refine ok_p rfl rfl rfl (by exact ps_move rfl rfl) ?_; refine ok_p rfl rfl rfl (by exact ps_cast (v' := .int .i64 ((n2 - 1 : Nat) : Int)) (ps_sub rfl rfl rfl (by omega)) (by rw [show (n2 : Int) - 1 = ((n2 - 1 : Nat) : Int) by omega])) ?_; refine ok_p rfl rfl rfl (by exact ps_assign rfl rfl) ?_; refine ok_nil ?_; refine ok_env [(0, _), (2, _), (3, _), (5, _), (7, _)] ⟨rfl, rfl, rfl, rfl, rfl, trivial⟩ ?_)
    | (refine ok_region (i := 10) ?_; refine ok_p rfl rfl rfl (by exact ps_move rfl rfl) ?_; refine ok_m rfl rfl rfl (by exact ms_wr 6 rfl rfl rfl rfl (fun _ _ w hw => once_c g A c bs _ _ 2 (by omega) (by omega) hr hw)) ?_; rintro y38 hy38; refine ok_nil ?_; refine ok_env [(0, _), (2, _), (3, _), (5, _), (7, _), (38, _)] ⟨rfl, rfl, rfl, rfl, rfl, rfl, trivial⟩ ?_)
    | (refine ok_region (i := 11) ?_; refine ok_p rfl rfl rfl (by exact ps_loads rfl rfl (by exact rds_box 0 rfl) rfl rfl (by decide)) ?_; refine ok_m rfl rfl rfl (by exact ms_c1 rfl rfl (fun _ _ w hw => s_TurnsNext x y w ⟨rds_row 1 rfl _ _ w hw, rds_row 2 rfl _ _ w hw, rds_row 3 rfl _ _ w hw⟩ SM.out)) ?_; rintro y41 hy41; refine ok_p rfl rfl rfl (by exact ps_move rfl rfl) ?_; refine ok_p rfl rfl rfl (by exact ps_extract rfl rfl rfl) ?_; refine ok_p rfl rfl rfl (by exact ps_extract rfl rfl rfl) ?_; refine ok_m rfl rfl rfl (by exact ms_alloc rfl) ?_; rintro y8 hy8; refine ok_m_ rfl rfl (by exact ms_store 0 rfl rfl rfl rfl rfl rfl rfl rfl) ?_; rintro y_ hy_; refine ok_p rfl rfl rfl (by exact ps_assign rfl rfl) ?_; refine ok_nil ?_; refine ok_env [(0, _), (2, _), (3, _), (5, _), (7, _), (8, _)] ⟨rfl, rfl, rfl, rfl, rfl, rfl, trivial⟩ ?_)
    | (refine ok_region (i := 12) ?_; refine ok_p rfl rfl rfl (by exact ps_loads rfl rfl (by exact rds_box 0 rfl) rfl rfl (by decide)) ?_; refine ok_m_ rfl rfl (by exact ms_store 4 rfl rfl rfl rfl rfl rfl rfl rfl) ?_; rintro y_ hy_; refine ok_nil ?_; refine ok_env [(0, _), (2, _), (3, _), (5, _), (7, _)] ⟨rfl, rfl, rfl, rfl, rfl, trivial⟩ ?_)
    | (apply mrgf3; (focus (intro hk; refine ok_draw (id := 13) 11 rfl (by kernel_rfl) (by kernel_rfl) rfl (by repeat (first | exact pq_body | refine pq_then ?_ | refine pq_in ?_)) [0, 1, 2, 3, 4,  5] (by decide) rfl ?_; refine okT_take (i := 0) rfl (by kernel_rfl) rfl rfl rfl (by exact ps_loads rfl rfl (by exact rds_box 0 rfl) rfl rfl (by decide)) ?_; refine okT_take (i := 1) rfl (by kernel_rfl) rfl rfl rfl (by exact ps_move rfl rfl) ?_; refine okT_take (i := 2) rfl (by kernel_rfl) rfl rfl rfl (by exact ps_move rfl rfl) ?_; refine okT_take (i := 3) rfl (by kernel_rfl) rfl rfl rfl (by exact ps_len rfl rfl) ?_; refine okT_many (by kernel_rfl) (all_cons (at_m (i := 4) rfl rfl rfl rfl rfl (by exact ms_wr 6 rfl rfl rfl rfl (fun _ _ w hw => below_c g A c bs _ _ (L.length : Int) (by omega) (by omega) hr hw)) (fun y w _ h => by exact h.sel [0, 1, 2, 3, 4,  5] (by decide) rfl (fun _ h => h)) ?_) (all_cons (at_m (i := 9) rfl rfl rfl rfl rfl (by exact ms_alloc rfl) (fun y w _ h => by exact h.tl.sel [0, 1, 2, 3, 4,  5] (by decide) rfl (fun _ h => h)) ?_) all_nil)); (focus (rintro y50 hy50; refine okT_many (by kernel_rfl) (all_cons (at_m (i := 5) rfl rfl rfl rfl rfl (by /-3-/ /-F-/ exact ms_c2 rfl rfl rfl (fun _ _ w hw => s_TurnsAsk x y (y50 0).n w ⟨rds_row 1 rfl _ _ w hw, rds_row 2 rfl _ _ w hw, rds_row 3 rfl _ _ w hw⟩ SM.out (by omega))) (fun y w _ h => by exact h.tl.tl.tl.sel [0, 1, 2, 3, 4,  5] (by decide) rfl (fun _ h => h)) ?_) (all_cons (at_m (i := 9) rfl rfl rfl rfl rfl (by exact ms_alloc rfl) (fun y w _ h => by exact h.tl.sel [0, 1, 2, 3, 4,  5] (by decide) rfl (fun _ h => h)) ?_) all_nil)); (focus (rintro y51 hy51; refine okT_take (i := 6) rfl (by kernel_rfl) rfl rfl rfl (by exact ps_move rfl rfl) ?_; refine okT_take (i := 7) rfl (by kernel_rfl) rfl rfl rfl (by exact ps_extract rfl rfl rfl) ?_; refine okT_take (i := 8) rfl (by kernel_rfl) rfl rfl rfl (by exact ps_extract rfl rfl rfl) ?_; refine okT_one (i := 9) rfl rfl (by kernel_rfl) rfl rfl rfl (by exact ms_alloc rfl) (fun y w _ h => by exact h.tl.tl.tl.tl.sel [0, 1, 2, 3, 4,  5] (by decide) rfl (fun _ h => h)) ?_; rintro y10 hy10; refine okT_one0 (i := 10) rfl rfl (by kernel_rfl) rfl rfl (by exact ms_store 0 rfl rfl rfl rfl rfl rfl rfl rfl) (fun y w _ h => by exact h.tl.tl.tl.tl.sel [0, 1, 2, 3, 4,  5] (by decide) rfl (fun _ h => h)) ?_; rintro y_ hy_; refine okT_done (by kernel_rfl) ?_; refine ok_p rfl rfl rfl (by exact ps_assign rfl rfl) ?_; refine ok_nil ?_; refine ok_env [(0, _), (2, _), (3, _), (5, _), (7, _), (10, _)] ⟨rfl, rfl, rfl, rfl, rfl, rfl, trivial⟩ ?_; exact hk y50 y51 y10 (And.intro hy50 (And.intro hy51 hy10)))); (focus (rintro y10 hy10; refine okT_one (i := 5) rfl rfl (by kernel_rfl) rfl rfl rfl (by /-3-/ /-F-/ exact ms_c2 rfl rfl rfl (fun _ _ w hw => s_TurnsAsk x y (y50 0).n w ⟨rds_row 2 rfl _ _ w hw, rds_row 3 rfl _ _ w hw, rds_row 4 rfl _ _ w hw⟩ SM.out (by omega))) (fun y w _ h => by exact h.tl.tl.tl.tl.sel [0, 1, 2, 3, 4,  5] (by decide) rfl (fun _ h => h)) ?_; rintro y51 hy51; refine okT_take (i := 6) rfl (by kernel_rfl) rfl rfl rfl (by exact ps_move rfl rfl) ?_; refine okT_take (i := 7) rfl (by kernel_rfl) rfl rfl rfl (by exact ps_extract rfl rfl rfl) ?_; refine okT_take (i := 8) rfl (by kernel_rfl) rfl rfl rfl (by exact ps_extract rfl rfl rfl) ?_; refine okT_one0 (i := 10) rfl rfl (by kernel_rfl) rfl rfl (by exact ms_store 3 rfl rfl rfl rfl rfl rfl rfl rfl) (fun y w _ h => by exact h.tl.tl.tl.tl.sel [0, 1, 2, 3, 4,  5] (by decide) rfl (fun _ h => h)) ?_; rintro y_ hy_; refine okT_done (by kernel_rfl) ?_; refine ok_p rfl rfl rfl (by exact ps_assign rfl rfl) ?_; refine ok_nil ?_; refine ok_env [(0, _), (2, _), (3, _), (5, _), (7, _), (10, _)] ⟨rfl, rfl, rfl, rfl, rfl, rfl, trivial⟩ ?_; refine ok_front 2 rfl ?_; refine ok_front 2 rfl ?_; refine ok_front 2 rfl ?_; refine ok_front 3 rfl ?_; exact hk y50 y51 y10 (And.intro hy50 (And.intro hy51 hy10)))))); (focus (rintro y10 hy10; refine okT_one (i := 4) rfl rfl (by kernel_rfl) rfl rfl rfl (by exact ms_wr 7 rfl rfl rfl rfl (fun _ _ w hw => below_c g A c bs _ _ (L.length : Int) (by omega) (by omega) hr hw)) (fun y w _ h => by exact h.tl.sel [0, 1, 2, 3, 4,  5] (by decide) rfl (fun _ h => h)) ?_; rintro y50 hy50; refine okT_one (i := 5) rfl rfl (by kernel_rfl) rfl rfl rfl (by /-3-/ /-F-/ exact ms_c2 rfl rfl rfl (fun _ _ w hw => s_TurnsAsk x y (y50 0).n w ⟨rds_row 2 rfl _ _ w hw, rds_row 3 rfl _ _ w hw, rds_row 4 rfl _ _ w hw⟩ SM.out (by omega))) (fun y w _ h => by exact h.tl.tl.tl.tl.sel [0, 1, 2, 3, 4,  5] (by decide) rfl (fun _ h => h)) ?_; rintro y51 hy51; refine okT_take (i := 6) rfl (by kernel_rfl) rfl rfl rfl (by exact ps_move rfl rfl) ?_; refine okT_take (i := 7) rfl (by kernel_rfl) rfl rfl rfl (by exact ps_extract rfl rfl rfl) ?_; refine okT_take (i := 8) rfl (by kernel_rfl) rfl rfl rfl (by exact ps_extract rfl rfl rfl) ?_; refine okT_one0 (i := 10) rfl rfl (by kernel_rfl) rfl rfl (by exact ms_store 3 rfl rfl rfl rfl rfl rfl rfl rfl) (fun y w _ h => by exact h.tl.tl.tl.tl.sel [0, 1, 2, 3, 4,  5] (by decide) rfl (fun _ h => h)) ?_; rintro y_ hy_; refine okT_done (by kernel_rfl) ?_; refine ok_p rfl rfl rfl (by exact ps_assign rfl rfl) ?_; refine ok_nil ?_; refine ok_env [(0, _), (2, _), (3, _), (5, _), (7, _), (10, _)] ⟨rfl, rfl, rfl, rfl, rfl, rfl, trivial⟩ ?_; refine ok_front 2 rfl ?_; refine ok_front 2 rfl ?_; refine ok_front 2 rfl ?_; refine ok_front 3 rfl ?_; exact hk y50 y51 y10 (And.intro hy50 (And.intro hy51 hy10)))))); rintro y50 y51 y10 ⟨hy50, hy51, hy10⟩)
    | (refine ok_region (i := 14) ?_; refine ok_p rfl rfl rfl (by exact ps_loads rfl rfl (by exact rds_box 0 rfl) rfl rfl (by decide)) ?_; refine ok_m_ rfl rfl (by exact ms_store 4 rfl rfl rfl rfl rfl rfl rfl rfl) ?_; rintro y_ hy_; refine ok_nil ?_; refine ok_env [(0, _), (2, _), (3, _), (5, _), (7, _)] ⟨rfl, rfl, rfl, rfl, rfl, trivial⟩ ?_)
    | (refine ok_region (i := 15) ?_; refine ok_p rfl rfl rfl (by exact ps_move rfl rfl) ?_; refine ok_m rfl rfl rfl (by exact ms_wr 6 rfl rfl rfl rfl (fun _ _ w hw => once_c g A c bs _ _ 10 (by omega) (by omega) hr hw)) ?_; rintro y56 hy56; refine ok_nil ?_; refine ok_env [(0, _), (2, _), (5, _), (56, _)] ⟨rfl, rfl, rfl, rfl, trivial⟩ ?_)
    | (refine ok_region (i := 24) ?_; refine ok_p rfl rfl rfl (by exact ps_loads rfl rfl (by exact rds_box 0 rfl) rfl rfl (by decide)) ?_; refine ok_m_ rfl rfl (by exact ms_store 5 rfl rfl rfl rfl rfl rfl rfl rfl) ?_; rintro y_ hy_; refine ok_nil ?_; refine ok_env [(2, _)] ⟨rfl, trivial⟩ ?_))
  · exact fun a w' he hw => ⟨⟨n2 - 1, (fTurnsNext x).1, y41, (y38 0).c, (y38 1).n, by omega, next_ok OK.out⟩, by simp only; omega, he.sub ⟨rfl, rfl, rfl, rfl, rfl, trivial⟩, (((((((hw.tl.front 3 rfl).front 4 rfl).tl).front 4 rfl).tl).front 4 rfl).tl)⟩
  · exact fun a w' he hw => ⟨⟨n2 - 1, (fTurnsAsk x (y50 0).n).1, y51, (y50 0).c, (y50 1).n, by omega, ask_ok _ OK.out⟩, by simp only; omega, he.sub ⟨rfl, rfl, rfl, rfl, rfl, trivial⟩, (((((((hw.tl.front 3 rfl).front 4 rfl).tl).front 4 rfl).tl).front 4 rfl).tl)⟩
  · have tk := tok_of OK.out
    have l0 := tk.l 0 (by omega)
    have w1 := tk.w 0 (by omega)
    clear tk
    repeat' (first
      | refine ok_seq ?_
      | refine ok_then ?_
      | refine ok_block ?_
      | (refine ok_cond rfl (fun hc => ?_) (fun hc => ?_) <;> (have hd := hc; (try simp only [decide_eq_true_eq, decide_eq_false_iff_not, Bool.or_eq_true, Bool.or_eq_false_iff, Bool.and_eq_true, Bool.and_eq_false_iff, Bool.not_eq_true', Bool.not_eq_false', bne_iff_ne, beq_iff_eq, bne_eq_false_iff_eq, beq_eq_false_iff_ne, ne_eq, Bool.not_true, Bool.not_false, Bool.false_eq_true, Bool.true_eq_false, inB_true, inB_false] at hd)))
      | refine ok_ret ?_
      | (refine ok_region (i := 16) ?_; refine ok_p rfl rfl rfl (by exact ps_move rfl rfl) ?_; refine ok_m rfl rfl rfl (by exact ms_wr 6 rfl rfl rfl rfl (fun _ _ w hw => below_c g A c bs _ _ 4 (by omega) (by omega) hr hw)) ?_; rintro y58 hy58; refine ok_nil ?_; refine ok_env [(0, _), (2, _), (5, _), (58, _)] ⟨rfl, rfl, rfl, rfl, trivial⟩ ?_)
      | (refine ok_region (i := 17) ?_; refine ok_p rfl rfl rfl (by exact ps_field rfl rfl (by exact isw_ga _)) ?_; refine ok_p rfl rfl rfl (by exact ps_load rfl rfl (by exact Rds.cell (rds_box 0 rfl) rfl)) ?_; refine ok_m rfl rfl rfl (by exact ms_lit rfl (parts_cons rfl parts_nil) rfl rfl rfl) ?_; rintro y61 hy61; refine ok_m rfl rfl rfl (by exact ms_appF (α := Int) (L := x.W) (M := [1]) 2 rfl rfl rfl rfl (rds_row 0 rfl) rfl (by simp; omega) (by simp; omega)) ?_; rintro y62 hy62; refine ok_p rfl rfl rfl (by exact ps_field rfl rfl (by exact isw_ga _)) ?_; refine ok_m_ rfl rfl (by exact ms_store 1 rfl rfl rfl rfl rfl rfl rfl rfl) ?_; rintro y_ hy_; refine ok_nil ?_; refine ok_env [(2, _), (5, _)] ⟨rfl, rfl, trivial⟩ ?_)
      | (refine ok_region (i := 18) ?_; refine ok_p rfl rfl rfl (by exact ps_int rfl rfl rfl rfl) ?_; refine ok_p rfl rfl rfl (by exact ps_assign rfl rfl) ?_; refine ok_nil ?_; refine ok_env [(0, _), (2, _), (5, _), (58, _), (64, _)] ⟨rfl, rfl, rfl, rfl, rfl, trivial⟩ ?_)
      | (refine ok_region (i := 19) ?_; refine ok_p rfl rfl rfl (by exact ps_move rfl rfl) ?_; refine ok_m rfl rfl rfl (by exact ms_lit rfl (parts_cons rfl (parts_cons rfl (parts_cons rfl parts_nil))) rfl rfl rfl) ?_; rintro y67 hy67; refine ok_m rfl rfl rfl (by exact ms_wr 7 rfl rfl rfl rfl (fun _ _ w hw => pickInt_c g A c bs _ _ [-1, 4, 5] _ _ (by simp) (by omega) hr (rds_row 0 rfl) hw)) ?_; rintro y68 hy68; refine ok_p rfl rfl rfl (by exact ps_field rfl rfl (by exact isw_ga _)) ?_; refine ok_m_ rfl rfl (by exact ms_store 1 rfl rfl rfl rfl rfl rfl rfl rfl) ?_; rintro y_ hy_; refine ok_nil ?_; refine ok_env [(2, _), (5, _)] ⟨rfl, rfl, trivial⟩ ?_)
      | (refine ok_region (i := 20) ?_; refine ok_p rfl rfl rfl (by exact ps_int rfl rfl rfl rfl) ?_; refine ok_p rfl rfl rfl (by exact ps_assign rfl rfl) ?_; refine ok_nil ?_; refine ok_env [(0, _), (2, _), (5, _), (58, _), (70, _)] ⟨rfl, rfl, rfl, rfl, rfl, trivial⟩ ?_)
      | (refine ok_draw (id := 21) 11 rfl (by kernel_rfl) (by kernel_rfl) rfl (by repeat (first | exact pq_body | refine pq_then ?_ | refine pq_in ?_)) [0, 1, 2, 3, 4, 5] (by decide) rfl ?_; refine okT_take (i := 0) rfl (by kernel_rfl) rfl rfl rfl (by exact ps_field rfl rfl (by exact isw_ga _)) ?_; refine okT_take (i := 1) rfl (by kernel_rfl) rfl rfl rfl (by exact ps_load rfl rfl (by exact Rds.cell (rds_box 0 rfl) rfl)) ?_; refine okT_take (i := 2) rfl (by kernel_rfl) rfl rfl rfl (by exact ps_field rfl rfl (by exact isw_ga _)) ?_; refine okT_take (i := 3) rfl (by kernel_rfl) rfl rfl rfl (by exact ps_load rfl rfl (by exact Rds.cell (rds_box 0 rfl) rfl)) ?_; refine okT_take (i := 4) rfl (by kernel_rfl) rfl rfl rfl (by exact ps_index rfl rfl rfl (by omega) (by exact isw_row 2 rfl (by omega))) ?_; refine okT_take (i := 5) rfl (by kernel_rfl) rfl rfl rfl (by exact ps_load rfl rfl (Rds.cell (rds_row 2 rfl) (fl_at0 x.L 0 (by omega) (by decide)))) ?_; refine okT_take (i := 6) rfl (by kernel_rfl) rfl rfl rfl (by exact ps_move rfl rfl) ?_; refine okT_one (i := 7) rfl rfl (by kernel_rfl) rfl rfl rfl (by exact ms_wr 6 rfl rfl rfl rfl (fun _ _ w hw => below_c g A c bs _ _ 5 (by omega) (by omega) hr hw)) (fun y w _ h => by exact h.sel [0, 1, 2, 3, 4, 5] (by decide) rfl (fun _ h => h)) ?_; rintro y79 hy79; refine okT_take (i := 8) rfl (by kernel_rfl) rfl rfl rfl (by exact ps_add rfl rfl rfl (by omega)) ?_; refine okT_take (i := 9) rfl (by kernel_rfl) rfl rfl rfl (by exact ps_sub rfl rfl rfl (by omega)) ?_; refine okT_take (i := 10) rfl (by kernel_rfl) rfl rfl rfl (by exact ps_index rfl rfl rfl (by omega) (by exact isw_row 2 rfl (by omega))) ?_; refine okT_done (by kernel_rfl) ?_; refine ok_m_ rfl rfl (by exact ms_setc (α := Int) 2 0 0 (nth x.L 0 + (y79 0).n - 2) rfl rfl rfl rfl rfl rfl rfl rfl rfl (by omega)) ?_; rintro y_ hy_; refine ok_nil ?_; refine ok_env [(2, _), (5, _)] ⟨rfl, rfl, trivial⟩ ?_)
      | (refine ok_region (i := 22) ?_; refine ok_p rfl rfl rfl (by exact ps_int rfl rfl rfl rfl) ?_; refine ok_p rfl rfl rfl (by exact ps_assign rfl rfl) ?_; refine ok_nil ?_; refine ok_env [(0, _), (2, _), (5, _), (83, _)] ⟨rfl, rfl, rfl, rfl, trivial⟩ ?_)
      | (refine ok_draw (id := 23) 6 rfl (by kernel_rfl) (by kernel_rfl) rfl (by repeat (first | exact pq_body | refine pq_then ?_ | refine pq_in ?_)) [0, 1, 2, 3, 4, 5] (by decide) rfl ?_; refine okT_take (i := 0) rfl (by kernel_rfl) rfl rfl rfl (by exact ps_field rfl rfl (by exact isw_ga _)) ?_; refine okT_take (i := 1) rfl (by kernel_rfl) rfl rfl rfl (by exact ps_load rfl rfl (by exact Rds.cell (rds_box 0 rfl) rfl)) ?_; refine okT_take (i := 2) rfl (by kernel_rfl) rfl rfl rfl (by exact ps_move rfl rfl) ?_; refine okT_one (i := 3) rfl rfl (by kernel_rfl) rfl rfl rfl (by exact ms_lit rfl (parts_cons rfl (parts_cons rfl (parts_cons rfl parts_nil))) rfl rfl rfl) (fun y w _ h => by exact h.tl.sel [0, 1, 2, 3, 4, 5] (by decide) rfl (fun _ h => h)) ?_; rintro y88 hy88; refine okT_one (i := 4) rfl rfl (by kernel_rfl) rfl rfl rfl (by exact ms_wr 7 rfl rfl rfl rfl (fun _ _ w hw => pickInt_c g A c bs _ _ [-1, 99, 100] _ _ (by simp) (by omega) hr (rds_row 0 rfl) hw)) (fun y w _ h => by exact h.tl.sel [0, 1, 2, 3, 4, 5] (by decide) rfl (fun _ h => h)) ?_; rintro y89 hy89; refine okT_take (i := 5) rfl (by kernel_rfl) rfl rfl rfl (by exact ps_index rfl rfl rfl (by omega) (by exact isw_row 3 rfl (by omega))) ?_; refine okT_done (by kernel_rfl) ?_; refine ok_m_ rfl rfl (by exact ms_setc (α := Int) 4 0 0 (nth [-1, 99, 100] (y89 0).n.toNat) rfl rfl rfl rfl rfl rfl rfl rfl rfl (by omega)) ?_; rintro y_ hy_; refine ok_nil ?_; refine ok_env [(2, _), (5, _)] ⟨rfl, rfl, trivial⟩ ?_)
      | (refine ok_region (i := 24) ?_; refine ok_p rfl rfl rfl (by exact ps_loads rfl rfl (by first | exact rds_box 0 rfl | exact rds_box 1 rfl) rfl rfl (by decide)) ?_; refine ok_m_ rfl rfl (by first | exact ms_store 5 rfl rfl rfl rfl rfl rfl rfl rfl | exact ms_store 6 rfl rfl rfl rfl rfl rfl rfl rfl) ?_; rintro y_ hy_; refine ok_nil ?_; refine ok_env [(2, _)] ⟨rfl, trivial⟩ ?_))
    · refine ok_endL (vs := [_]) rfl ⟨⟨_, 6, _, _, _, rfl, rfl, inferInstance, rfl, rfl⟩, trivial⟩ (fun w' hw => ?_)
      exact fin_T y ⟨x.W, x.L, x.T, nth [-1, 4, 5] (y68 0).n.toNat⟩ _ (y68 1).n rfl SM.out hy68.2 ((hw.tl.tl.front 3 rfl).tl.front 3 rfl).tl
    · refine ok_endL (vs := [_]) rfl ⟨⟨_, 5, _, _, _, rfl, rfl, inferInstance, rfl, rfl⟩, trivial⟩ (fun w' hw => ?_)
      refine fin_T y ⟨x.W, x.L.set 0 (nth x.L 0 + (y79 0).n - 2), x.T, x.p⟩ _ (y79 1).n (by simp only [Turns_val, List.length_set]; rfl) (by have := SM.out; simpa [Turns_sm] using this) hy79.2 ?_
      have := ((hw.tl.front 3 rfl).tl.front 3 rfl).tl
      simp only [Turns_obj, List.length_set]
      exact this
    · refine ok_endL (vs := [_]) rfl ⟨⟨_, 6, _, _, _, rfl, rfl, inferInstance, rfl, rfl⟩, trivial⟩ (fun w' hw => ?_)
      refine fin_T y ⟨x.W, x.L, x.T.set 0 (nth [-1, 99, 100] (y89 0).n.toNat), x.p⟩ _ (y89 1).n (by simp only [Turns_val, List.length_set]; rfl) (by have := SM.out; simpa [Turns_sm] using this) hy89.2 ?_
      have := ((hw.tl.tl.front 3 rfl).tl.front 3 rfl).tl
      simp only [Turns_obj, List.length_set]
      exact this
    · refine ok_endL (vs := [_]) rfl ⟨⟨_, 6, _, _, _, rfl, rfl, inferInstance, rfl, rfl⟩, trivial⟩ (fun w' hw => ?_)
      refine fin_T (yl [y62 0, y 1, y 2] (y 0)) ⟨x.W ++ [1], x.L, x.T, x.p⟩ _ (y58 1).n (by simp only [Turns_val, List.length_append, List.length_singleton]; rfl) ⟨by simp; omega, SM.out.2.1, SM.out.2.2⟩ hy58.2 ?_
      have := ((hw.tl.tl.front 3 rfl).tl.front 3 rfl).tl
      simp only [Turns_obj, List.length_append, List.length_singleton]
      exact this
  · refine ok_endL (vs := [_]) rfl ⟨⟨_, 5, _, _, _, rfl, rfl, inferInstance, rfl, rfl⟩, trivial⟩ (fun w' hw => ?_)
    exact fin_T y x _ (y56 1).n rfl SM.out hy56 ((hw.tl.front 3 rfl).tl.front 3 rfl).tl
theorem drawNext_c (A : Option Addr) (c : Nat) (bs : List UInt8) (w : World) (h : Rd w A (fl bs)) (hl : bs.length ≤ 1048576) :
    Calls Try.prog 43 #[.slice A bs.length c] w fun e w' => ∃ y : Ys, e = .returned (Turns_val (yE (y 3)) y) ∧ Turns_sm (yE (y 3)) ∧ Below w.heap.size w w' ∧ NewOk w.heap.size (Turns_obj (yE (y 3)) y) [] w' := by
  refine ok_enter 8 Try.func43 rfl rfl rfl ?_
  repeat' (first
    | refine ok_seq ?_
    | refine ok_then ?_
    | refine ok_ret ?_
    | (refine ok_region (i := 0) ?_; refine ok_m rfl rfl rfl (by exact ms_alloc rfl) ?_; rintro y2 hy2; refine ok_nil ?_; refine ok_env [(0, _), (2, _)] ⟨rfl, rfl, trivial⟩ ?_)
    | (refine ok_region (i := 1) ?_; refine ok_p rfl rfl rfl (by exact ps_move rfl rfl) ?_; refine ok_m rfl rfl rfl (by exact ms_c1 rfl rfl (fun _ _ w hw => new_c A c bs w (rds_rf h (by exact List.mem_cons_self) _ _ w hw) hl)) ?_; rintro y5 hy5; refine ok_p rfl rfl rfl (by exact ps_assign rfl rfl) ?_; refine ok_nil ?_; refine ok_env [(2, _), (3, _)] ⟨rfl, rfl, trivial⟩ ?_)
    | (refine ok_region (i := 2) ?_; refine ok_p rfl rfl rfl (by exact ps_move rfl rfl) ?_; refine ok_m rfl rfl rfl (by exact ms_w1 (fun _ _ _ h => h) rfl rfl (fun _ _ w hw => l33Some_c _ A c bs _ _ (by omega) ⟨⟨_, (by exact List.mem_cons_self), h⟩, hl⟩ hw)) ?_; rintro y7 hy7; refine ok_m_ rfl rfl (by exact ms_store 4 rfl rfl rfl rfl rfl rfl rfl rfl) ?_; rintro y_ hy_; refine ok_nil ?_; refine ok_env [(2, _)] ⟨rfl, trivial⟩ ?_))
  exact ok_endL (vs := [_]) rfl ⟨⟨_, 4, _, _, _, rfl, rfl, inferInstance, rfl, rfl⟩, trivial⟩ (fun w' hw => ⟨y7, rfl, hy7.1, hw.below, NewOk.of (hw.sel [0, 1, 2] (by decide) rfl (G' := []) (fun _ h => by cases h))⟩)
theorem drawAsk_c (A : Option Addr) (c : Nat) (bs : List UInt8) (w : World) (h : Rd w A (fl bs)) (hl : bs.length ≤ 1048576) :
    Calls Try.prog 45 #[.slice A bs.length c] w fun e w' => ∃ y : Ys, e = .returned (.tuple #[Turns_val (yE (y 3)) y, .int .i64 (y 3).n]) ∧ (Turns_sm (yE (y 3)) ∧ -1 ≤ (y 3).n ∧ (y 3).n ≤ 5) ∧ Below w.heap.size w w' ∧ NewOk w.heap.size (Turns_obj (yE (y 3)) y) [] w' := by
  refine ok_enter 14 Try.func45 rfl rfl rfl ?_
  repeat' (first
    | refine ok_seq ?_
    | refine ok_then ?_
    | refine ok_ret ?_
    | (refine ok_region (i := 0) ?_; refine ok_m rfl rfl rfl (by exact ms_alloc rfl) ?_; rintro y2 hy2; refine ok_p rfl rfl rfl (by exact ps_assign rfl rfl) ?_; refine ok_nil ?_; refine ok_env [(0, _), (2, _)] ⟨rfl, rfl, trivial⟩ ?_)
    | (refine ok_region (i := 1) ?_; refine ok_p rfl rfl rfl (by exact ps_move rfl rfl) ?_; refine ok_m rfl rfl rfl (by exact ms_c1 rfl rfl (fun _ _ w hw => new_c A c bs w (rds_rf h (by exact List.mem_cons_self) _ _ w hw) hl)) ?_; rintro y7 hy7; refine ok_p rfl rfl rfl (by exact ps_assign rfl rfl) ?_; refine ok_nil ?_; refine ok_env [(2, _), (4, _)] ⟨rfl, rfl, trivial⟩ ?_)
    | (refine ok_region (i := 2) ?_; refine ok_p rfl rfl rfl (by exact ps_move rfl rfl) ?_; refine ok_m rfl rfl rfl (by exact ms_w1 (fun _ _ _ h => h) rfl rfl (fun _ _ w hw => l33Some_c _ A c bs _ _ (by omega) ⟨⟨_, (by exact List.mem_cons_self), h⟩, hl⟩ hw)) ?_; rintro y9 hy9; refine ok_m rfl rfl rfl (by exact ms_alloc rfl) ?_; rintro y5 hy5; refine ok_m_ rfl rfl (by exact ms_store 0 rfl rfl rfl rfl rfl rfl rfl rfl) ?_; rintro y_ hy_; refine ok_nil ?_; refine ok_env [(2, _), (4, _), (5, _)] ⟨rfl, rfl, rfl, trivial⟩ ?_)
    | (refine ok_draw (id := 3) 5 rfl (by kernel_rfl) (by kernel_rfl) rfl (by repeat (first | exact pq_body | refine pq_then ?_ | refine pq_in ?_)) [0, 1, 2, 3] (by decide) rfl ?_; refine okT_take (i := 0) rfl (by kernel_rfl) rfl rfl rfl (by exact ps_loads rfl rfl (by exact rds_box 0 rfl) rfl rfl (by decide)) ?_; refine okT_take (i := 1) rfl (by kernel_rfl) rfl rfl rfl (by exact ps_move rfl rfl) ?_; refine okT_one (i := 2) rfl rfl (by kernel_rfl) rfl rfl rfl (by exact ms_wr 4 rfl rfl rfl rfl (fun _ _ w hw => below_c _ A c bs _ _ 7 (by omega) (by omega) ⟨⟨_, (by exact List.mem_cons_self), h⟩, hl⟩ hw)) (fun y w _ h => by exact h.sel [0, 1, 2, 3] (by decide) rfl (fun _ h => h)) ?_; rintro y12 hy12; refine okT_take (i := 3) rfl (by kernel_rfl) rfl rfl rfl (by exact ps_sub rfl rfl rfl (by omega)) ?_; refine okT_one0 (i := 4) rfl rfl (by kernel_rfl) rfl rfl (by exact ms_store 5 rfl rfl rfl rfl rfl rfl rfl rfl) (fun y w _ h => by exact h.sel [0, 1, 2, 3] (by decide) rfl (fun _ h => h)) ?_; rintro y_ hy_; refine okT_done (by kernel_rfl) ?_; refine ok_p rfl rfl rfl (by exact ps_assign rfl rfl) ?_; refine ok_nil ?_; refine ok_env [(2, _), (3, _)] ⟨rfl, rfl, trivial⟩ ?_))
  refine ok_endL (vs := [_, _]) rfl ⟨⟨_, 5, _, _, _, rfl, rfl, inferInstance, rfl, rfl⟩, rfl, trivial⟩ (fun w' hw => ?_)
  have e3 : (yE (mkE 3 y9 (yE (y9 3) : DTurns) 0 ((y12 0).n - 1) w' 3) : DTurns) = yE (y9 3) := yE_mk none 0 _ w' _
  refine ⟨mkE 3 y9 (yE (y9 3) : DTurns) 0 ((y12 0).n - 1) w', by rw [e3]; rfl, by rw [e3]; exact ⟨hy9.1, by show -1 ≤ (y12 0).n - 1; omega, by show (y12 0).n - 1 ≤ 5; omega⟩, hw.below, ?_⟩
  rw [e3]
  exact NewOk.of (hw.sel [1, 2, 3] (by decide) rfl (G' := []) (fun _ h => by cases h))
end Go.Proofs.Ytfcnimglcialbaa
/- FnTurns walked: three weights from 1 to 4; each asks forty times; three rounds; then two draws. -/
namespace Go.Proofs.Ytfcnimglcialbaa
open Go.RowKit
set_option maxHeartbeats 4000000
set_option maxRecDepth 20000
set_option linter.unusedVariables false
set_option linter.unusedSimpArgs false
attribute [local irreducible] Calls
theorem sameInts_c (A B : Option Addr) (c d : Nat) (l : List Int) (w : World) (h : Rd w A (fl l)) (h2 : Rd w B (fl l)) (hl : l.length ≤ 140737488355328) :
    Calls Try.prog 42 #[.slice A l.length c, .slice B l.length d] w fun e w' => e = .returned (.bool true) ∧ Below w.heap.size w w' := by
  refine ok_enter 26 Try.func42 rfl rfl rfl ?_
  repeat' (first
    | refine ok_seq ?_
    | refine ok_then ?_
    | refine ok_then_ret ?_
    | refine ok_block ?_
    | (refine ok_cond rfl (fun hc => ?_) (fun hc => ?_) <;> (have hd := hc; (try simp only [decide_eq_true_eq, decide_eq_false_iff_not, Bool.or_eq_true, Bool.or_eq_false_iff, Bool.and_eq_true, Bool.and_eq_false_iff, Bool.not_eq_true', Bool.not_eq_false', bne_iff_ne, beq_iff_eq, bne_eq_false_iff_eq, beq_eq_false_iff_ne, ne_eq, Bool.not_true, Bool.not_false, Bool.false_eq_true, Bool.true_eq_false, inB_true, inB_false] at hd)))
    | refine ok_ret ?_
    | refine ok_skip ?_
    | (refine ok_region (i := 0) ?_; refine ok_p rfl rfl rfl (by exact ps_assign rfl rfl) ?_; refine ok_nil ?_; refine ok_env [(0, _), (1, _)] ⟨rfl, rfl, trivial⟩ ?_)
    | (refine ok_region (i := 1) ?_; refine ok_p rfl rfl rfl (by exact ps_move rfl rfl) ?_; refine ok_p rfl rfl rfl (by exact ps_len rfl rfl) ?_; refine ok_p rfl rfl rfl (by exact ps_move rfl rfl) ?_; refine ok_p rfl rfl rfl (by exact ps_len rfl rfl) ?_; refine ok_p rfl rfl rfl (by exact ps_int rfl rfl rfl rfl) ?_; refine ok_nil ?_; refine ok_env [(0, _), (1, _), (10, _)] ⟨rfl, rfl, rfl, trivial⟩ ?_)
    | (refine ok_region (i := 2) ?_; refine ok_p rfl rfl rfl (by exact ps_assign rfl rfl) ?_; refine ok_nil ?_; refine ok_env [(4, _)] ⟨rfl, trivial⟩ ?_)
    | (refine ok_region (i := 3) ?_; refine ok_p rfl rfl rfl (by exact ps_assign rfl rfl) ?_; refine ok_nil ?_; refine ok_env [(0, _), (1, _), (5, _)] ⟨rfl, rfl, rfl, trivial⟩ ?_))
  · exact absurd hc (by simp)
  · refine ok_loop (ι := { k : Nat // k ≤ l.length }) (fun k => l.length - k.1) (fun k => ([(0, .slice A l.length c), (1, .slice B l.length d), (5, .int .i64 k.1)], _, _)) ⟨0, by omega⟩ (fun a w he hw => ⟨⟨0, by omega⟩, he.sub ⟨rfl, rfl, rfl, trivial⟩, hw⟩) ?_
    rintro ⟨k, hk⟩
    simp only at hk ⊢
    repeat' (first
      | refine ok_seq ?_
      | refine ok_then ?_
      | refine ok_then_ret ?_
      | refine ok_block ?_
      | refine ok_in_normal ?_
      | refine ok_in_ret ?_
      | (refine ok_cond rfl (fun hc => ?_) (fun hc => ?_) <;> (have hd := hc; (try simp only [decide_eq_true_eq, decide_eq_false_iff_not, Bool.or_eq_true, Bool.or_eq_false_iff, Bool.and_eq_true, Bool.and_eq_false_iff, Bool.not_eq_true', Bool.not_eq_false', bne_iff_ne, beq_iff_eq, bne_eq_false_iff_eq, beq_eq_false_iff_ne, ne_eq, Bool.not_true, Bool.not_false, Bool.false_eq_true, Bool.true_eq_false, inB_true, inB_false] at hd)))
      | refine ok_ret ?_
      | refine ok_exit ?_
      | refine ok_skip ?_
      | (refine ok_region (i := 4) ?_; refine ok_p rfl rfl rfl (by exact ps_move rfl rfl) ?_; refine ok_p rfl rfl rfl (by exact ps_move rfl rfl) ?_; refine ok_p rfl rfl rfl (by exact ps_len rfl rfl) ?_; refine ok_p rfl rfl rfl (by exact ps_int rfl rfl rfl rfl) ?_; refine ok_nil ?_; refine ok_env [(0, _), (1, _), (5, _), (14, _)] ⟨rfl, rfl, rfl, rfl, trivial⟩ ?_)
      | (refine ok_region (i := 5) ?_; refine ok_p rfl rfl rfl (by exact ps_move rfl rfl) ?_; refine ok_p rfl rfl rfl (by exact ps_add rfl rfl rfl (by omega)) ?_; refine ok_p rfl rfl rfl (by exact ps_assign rfl rfl) ?_; refine ok_nil ?_; refine ok_env [(0, _), (1, _), (5, _)] ⟨rfl, rfl, rfl, trivial⟩ ?_)
      | (refine ok_draw (id := 6) 9 rfl (by kernel_rfl) (by kernel_rfl) rfl (by repeat (first | exact pq_body | refine pq_then ?_ | refine pq_in ?_)) [0, 1, 2, 3, 4, 5, 6, 7, 8, 9, 10, 11, 12, 13, 14, 15, 16, 17, 18, 19, 20, 21, 22, 23] (by decide) rfl ?_; refine okT_take (i := 0) rfl (by kernel_rfl) rfl rfl rfl (by exact ps_move rfl rfl) ?_; refine okT_take (i := 1) rfl (by kernel_rfl) rfl rfl rfl (by exact ps_move rfl rfl) ?_; refine okT_take (i := 2) rfl (by kernel_rfl) rfl rfl rfl (by exact ps_indexN rfl rfl rfl (by omega) (by exact isw_of (isS_fl (by assumption) (by omega)))) ?_; refine okT_take (i := 3) rfl (by kernel_rfl) rfl rfl rfl (by exact ps_load rfl rfl (by exact Rds.cell (rds_rf (by assumption) (by exact List.mem_cons_self)) (by exact fl_at0 _ _ (by omega) (by decide)))) ?_; refine okT_take (i := 4) rfl (by kernel_rfl) rfl rfl rfl (by exact ps_move rfl rfl) ?_; refine okT_take (i := 5) rfl (by kernel_rfl) rfl rfl rfl (by exact ps_move rfl rfl) ?_; refine okT_take (i := 6) rfl (by kernel_rfl) rfl rfl rfl (by exact ps_indexN rfl rfl rfl (by omega) (by exact isw_of (isS_fl (by assumption) (by omega)))) ?_; refine okT_take (i := 7) rfl (by kernel_rfl) rfl rfl rfl (by exact ps_load rfl rfl (by exact Rds.cell (rds_rf (by assumption) (by exact List.mem_cons_self)) (by exact fl_at0 _ _ (by omega) (by decide)))) ?_; refine okT_take (i := 8) rfl (by kernel_rfl) rfl rfl rfl (by exact ps_int rfl rfl rfl rfl) ?_; refine okT_done (by kernel_rfl) ?_; refine ok_nil ?_; refine ok_env [(0, _), (1, _), (5, _), (25, _)] ⟨rfl, rfl, rfl, rfl, trivial⟩ ?_)
      | (refine ok_region (i := 7) ?_; refine ok_p rfl rfl rfl (by exact ps_assign rfl rfl) ?_; refine ok_nil ?_; refine ok_env [(4, _)] ⟨rfl, trivial⟩ ?_)
      | (refine ok_region (i := 8) ?_; refine ok_p rfl rfl rfl (by exact ps_assign rfl rfl) ?_; refine ok_nil ?_; refine ok_env [(4, _)] ⟨rfl, trivial⟩ ?_))
    all_goals first
      | (exfalso; simp at hc; done)
      | exact fun a w' he hw => ⟨⟨k + 1, by omega⟩, by simp only; omega, he.sub ⟨rfl, rfl, rfl, trivial⟩, hw⟩
      | exact ok_endL (vs := [_]) rfl ⟨rfl, trivial⟩ (fun w' hw => ⟨rfl, hw.below⟩)
theorem new_t {a b c : Nat} (h4 : W4 a b c) (A : Option Addr) (c' : Nat) (w : World) (h : Rd w A (fl (wts a b c))) :
    Calls Try.prog 38 #[.slice A 3 c'] w fun e w' => ∃ y : Ys, e = .returned (.tuple #[Turns_val (askSt a b c 0) y, .bool true]) ∧ True ∧ Below w.heap.size w w' ∧ NewOk w.heap.size (Turns_obj (askSt a b c 0) y) [] w' := by
  have := i_TurnsNew0 A c' (wts a b c) w h (by simp [wts])
  rw [W4.new h4] at this
  exact this
theorem ask_t {a b c : Nat} (h4 : W4 a b c) (i k : Nat) (hi : i < 3) (hk : k < 40) (y : Ys) (w : World) (h : Turns_rd w (askSt a b c (40 * i + k)) y) :
    Calls Try.prog 39 #[Turns_val (askSt a b c (40 * i + k)) y, .int .i64 (i : Int)] w fun e w' => ∃ y : Ys, e = .returned (.tuple #[Turns_val (askSt a b c (40 * i + k + 1)) y, .bool true]) ∧ True ∧ Below w.heap.size w w' ∧ NewOk w.heap.size (Turns_obj (askSt a b c (40 * i + k + 1)) y) [] w' := by
  have := i_TurnsAsk (askSt a b c (40 * i + k)) y (i : Int) w h (askSt_sm _ _ _ _) (by omega)
  have e := W4.ask h4 (m := 40 * i + k) (by omega)
  rw [show (40 * i + k) / 40 = i by omega] at e
  rw [e] at this
  exact this
theorem next_t {a b c : Nat} (h4 : W4 a b c) (r k : Nat) (hr : r < 3) (hk : k < a + b + c) (y : Ys) (w : World) (h : Turns_rd w (rdSt a b c r k) y) :
    Calls Try.prog 40 #[Turns_val (rdSt a b c r k) y] w fun e w' => ∃ y : Ys, e = .returned (.tuple #[Turns_val (rdSt a b c r (k + 1)) y, .int .i64 ((rdI a b k : Nat) : Int)]) ∧ True ∧ Below w.heap.size w w' ∧ NewOk w.heap.size (Turns_obj (rdSt a b c r (k + 1)) y) [] w' := by
  have := i_TurnsNext (rdSt a b c r k) y w h (rdSt_sm _ _ _ _ _)
  rw [(W4.step h4 hr hk).1] at this
  exact this
theorem ok_t {a b c : Nat} (h4 : W4 a b c) (r k : Nat) (hr : r < 3) (hk : k < a + b + c) (y : Ys) (w : World) (h : Turns_rd w (rdSt a b c r (k + 1)) y) :
    Calls Try.prog 41 #[Turns_val (rdSt a b c r (k + 1)) y] w fun e w' => e = .returned (.bool true) ∧ Below w.heap.size w w' := by
  have hs := rdSt_sm a b c r (k + 1)
  have := s_TurnsOk _ _ _ (y 0).c (y 1).c (y 2).c (rdSt a b c r (k + 1)).W (rdSt a b c r (k + 1)).L (rdSt a b c r (k + 1)).T (rdSt a b c r (k + 1)).p w h.1 h.2.1 h.2.2 hs.1 hs.2.1 hs.2.2
  rw [show turnsOkF (rdSt a b c r (k + 1)).W (rdSt a b c r (k + 1)).L (rdSt a b c r (k + 1)).T (rdSt a b c r (k + 1)).p = true from (W4.step h4 hr hk).2.1] at this
  exact this
theorem next_lim {x : DTurns} (h : Turns_sm x) : (fTurnsNext x).1.T.length ≤ 4194304 := (TurnsNext_lim x h).2.2
theorem gotK_len (a b c k : Nat) : (gotK a b c k).length = 3 := rfl
theorem gotK_le (a b c k i : Nat) (hk : k ≤ 12) (hi : i < 3) : 0 ≤ nth (gotK a b c k) i ∧ nth (gotK a b c k) i ≤ 12 := by
  have : i = 0 ∨ i = 1 ∨ i = 2 := by omega
  rcases this with rfl | rfl | rfl
  · show 0 ≤ ((min k a : Nat) : Int) ∧ ((min k a : Nat) : Int) ≤ 12; omega
  · show 0 ≤ ((min (k - a) b : Nat) : Int) ∧ ((min (k - a) b : Nat) : Int) ≤ 12; omega
  · show 0 ≤ ((min (k - a - b) c : Nat) : Int) ∧ ((min (k - a - b) c : Nat) : Int) ≤ 12; omega
theorem FnTurns_e (A : Option Addr) (cc : Nat) (bs : List UInt8) (w : World) (h : Rd w A (fl bs)) :
    Calls Try.prog 7 #[.slice A bs.length cc] w fun e w' => e = .returned (.bool true) ∧ Below w.heap.size w w' := by
  have b0 := atV_lt bs 0
  have b1 := atV_lt bs 1
  have b2 := atV_lt bs 2
  have h4 : W4 (1 + atV bs 0 % 4) (1 + atV bs 1 % 4) (1 + atV bs 2 % 4) := ⟨by omega, by omega, by omega⟩
  generalize hA : 1 + atV bs 0 % 4 = a at h4
  generalize hB : 1 + atV bs 1 % 4 = b at h4
  generalize hC : 1 + atV bs 2 % 4 = c at h4
  have ha := h4.a
  have hb := h4.b
  have hcc := h4.c
  have H4 := Lib.hid h4; clear h4
  refine ok_enter 167 Try.func7 rfl rfl rfl ?_
  repeat' (first
    | refine ok_seq ?_
    | refine ok_then ?_
    | refine ok_then_ret ?_
    | (refine ok_cond rfl (fun hc => ?_) (fun hc => ?_) <;> (have hd := hc; (try simp only [decide_eq_true_eq, decide_eq_false_iff_not, Bool.or_eq_true, Bool.or_eq_false_iff, Bool.and_eq_true, Bool.and_eq_false_iff, Bool.not_eq_true', Bool.not_eq_false', bne_iff_ne, beq_iff_eq, bne_eq_false_iff_eq, beq_eq_false_iff_ne, ne_eq, Bool.not_true, Bool.not_false, Bool.false_eq_true, Bool.true_eq_false, inB_true, inB_false] at hd)))
    | refine ok_ret ?_
    | refine ok_skip ?_
    | (refine ok_region (i := 0) ?_; refine ok_p rfl rfl rfl (by exact ps_assign rfl rfl) ?_; refine ok_nil ?_; refine ok_env [(0, _)] ⟨rfl, trivial⟩ ?_)
    | (refine ok_region (i := 1) ?_; refine ok_p rfl rfl rfl (by exact ps_move rfl rfl) ?_; refine ok_m rfl rfl rfl (by exact ms_s1 rfl rfl (fun _ _ w hw => big_c A cc bs.length w)) ?_; rintro y28 hy28; refine ok_nil ?_; refine ok_env [(0, _), (28, _)] ⟨rfl, rfl, trivial⟩ ?_)
    | (refine ok_region (i := 2) ?_; refine ok_p rfl rfl rfl (by exact ps_assign rfl rfl) ?_; refine ok_nil ?_; refine ok_env [(2, _)] ⟨rfl, trivial⟩ ?_))
  · exact ok_endL (vs := [_]) rfl ⟨rfl, trivial⟩ (fun w' hw => ⟨rfl, hw.below⟩)
  have hl : bs.length ≤ 1048576 := by omega
  refine ok_region (i := 3) ?_
  refine ok_p rfl rfl rfl (by exact ps_move rfl rfl) ?_
  refine ok_m rfl rfl rfl (by exact ms_s2 rfl rfl rfl (fun _ _ w hw => at_c A cc bs 0 w (rds_rf h (by exact List.mem_cons_self) _ _ w hw) hl (by omega))) ?_
  rintro y30 hy30
  refine ok_p rfl rfl rfl (by exact ps_rem rfl rfl rfl (by omega) (by omega)) ?_
  refine ok_p rfl rfl rfl (by exact ps_cast (v' := .int .i64 (a : Int)) (ps_add rfl rfl rfl (by omega)) (congrArg (Value.int .i64) (by omega))) ?_
  refine ok_p rfl rfl rfl (by exact ps_move rfl rfl) ?_
  refine ok_m rfl rfl rfl (by exact ms_s2 rfl rfl rfl (fun _ _ w hw => at_c A cc bs 1 w (rds_rf h (by exact List.mem_cons_self) _ _ w hw) hl (by omega))) ?_
  rintro y34 hy34
  refine ok_p rfl rfl rfl (by exact ps_rem rfl rfl rfl (by omega) (by omega)) ?_
  refine ok_p rfl rfl rfl (by exact ps_cast (v' := .int .i64 (b : Int)) (ps_add rfl rfl rfl (by omega)) (congrArg (Value.int .i64) (by omega))) ?_
  refine ok_p rfl rfl rfl (by exact ps_move rfl rfl) ?_
  refine ok_m rfl rfl rfl (by exact ms_s2 rfl rfl rfl (fun _ _ w hw => at_c A cc bs 2 w (rds_rf h (by exact List.mem_cons_self) _ _ w hw) hl (by omega))) ?_
  rintro y38 hy38
  refine ok_p rfl rfl rfl (by exact ps_rem rfl rfl rfl (by omega) (by omega)) ?_
  refine ok_p rfl rfl rfl (by exact ps_cast (v' := .int .i64 (c : Int)) (ps_add rfl rfl rfl (by omega)) (congrArg (Value.int .i64) (by omega))) ?_
  refine ok_m rfl rfl rfl (by exact ms_lit rfl (parts_cons rfl (parts_cons rfl (parts_cons rfl parts_nil))) rfl rfl rfl) ?_
  rintro y41 hy41
  refine ok_p rfl rfl rfl (by exact ps_assign rfl rfl) ?_
  refine ok_nil ?_
  refine ok_env [(0, _), (3, _)] ⟨rfl, rfl, trivial⟩ ?_
  refine ok_sel [0] (by decide) (H' := [.row 3 1 (ga (y41 0).c) 3 3 (fl (wts a b c))]) rfl ?_
  repeat' (first
    | refine ok_seq ?_
    | refine ok_then ?_
    | refine ok_block ?_
    | (refine ok_cond rfl (fun hc => ?_) (fun hc => ?_) <;> (have hd := hc; (try simp only [decide_eq_true_eq, decide_eq_false_iff_not, Bool.or_eq_true, Bool.or_eq_false_iff, Bool.and_eq_true, Bool.and_eq_false_iff, Bool.not_eq_true', Bool.not_eq_false', bne_iff_ne, beq_iff_eq, bne_eq_false_iff_eq, beq_eq_false_iff_ne, ne_eq, Bool.not_true, Bool.not_false, Bool.false_eq_true, Bool.true_eq_false, inB_true, inB_false] at hd)))
    | refine ok_skip ?_
    | (refine ok_region (i := 4) ?_; refine ok_p rfl rfl rfl (by exact ps_move rfl rfl) ?_; refine ok_m rfl rfl rfl (by exact ms_c1 rfl rfl (fun _ _ w hw => new_t H4.out (ga (y41 0).c) 3 w (rds_row 0 rfl _ _ w hw))) ?_; rintro y44 hy44; refine ok_p rfl rfl rfl (by exact ps_move rfl rfl) ?_; refine ok_p rfl rfl rfl (by exact ps_extract rfl rfl rfl) ?_; refine ok_p rfl rfl rfl (by exact ps_extract rfl rfl rfl) ?_; refine ok_m rfl rfl rfl (by exact ms_alloc rfl) ?_; rintro y4 hy4; refine ok_m_ rfl rfl (by exact ms_store 0 rfl rfl rfl rfl rfl rfl rfl rfl) ?_; rintro y_ hy_; refine ok_p rfl rfl rfl (by exact ps_assign rfl rfl) ?_; refine ok_nil ?_; refine ok_env [(0, _), (3, _), (4, _), (5, _)] ⟨rfl, rfl, rfl, rfl, trivial⟩ ?_)
    | (refine ok_region (i := 5) ?_; refine ok_p rfl rfl rfl (by exact ps_move rfl rfl) ?_; refine ok_p rfl rfl rfl (by exact ps_not rfl rfl) ?_; refine ok_nil ?_; refine ok_env [(0, _), (3, _), (4, _), (48, _)] ⟨rfl, rfl, rfl, rfl, trivial⟩ ?_)
    | (refine ok_draw (id := 7) 12 rfl (by kernel_rfl) (by kernel_rfl) rfl (by repeat (first | exact pq_body | refine pq_then ?_ | refine pq_in ?_)) [0, 1, 2, 3, 4, 5, 6, 7, 8, 9, 10, 11, 12, 13, 14, 15, 16, 17, 18, 19, 20, 21, 22, 23] (by decide) rfl ?_; refine okT_take (i := 0) rfl (by kernel_rfl) rfl rfl rfl (by exact ps_move rfl rfl) ?_; refine okT_take (i := 1) rfl (by kernel_rfl) rfl rfl rfl (by exact ps_index rfl rfl rfl (by omega) (by exact isw_ga _)) ?_; refine okT_take (i := 2) rfl (by kernel_rfl) rfl rfl rfl (by exact ps_load rfl rfl (Rds.cell (rds_row 4 rfl) (show (fl (wts a b c))[0]? = some (.int .i64 (a : Int)) from rfl))) ?_; refine okT_take (i := 3) rfl (by kernel_rfl) rfl rfl rfl (by exact ps_move rfl rfl) ?_; refine okT_take (i := 4) rfl (by kernel_rfl) rfl rfl rfl (by exact ps_index rfl rfl rfl (by omega) (by exact isw_ga _)) ?_; refine okT_take (i := 5) rfl (by kernel_rfl) rfl rfl rfl (by exact ps_load rfl rfl (Rds.cell (rds_row 4 rfl) (show (fl (wts a b c))[1]? = some (.int .i64 (b : Int)) from rfl))) ?_; refine okT_take (i := 6) rfl (by kernel_rfl) rfl rfl rfl (by exact ps_add rfl rfl rfl (by omega)) ?_; refine okT_take (i := 7) rfl (by kernel_rfl) rfl rfl rfl (by exact ps_move rfl rfl) ?_; refine okT_take (i := 8) rfl (by kernel_rfl) rfl rfl rfl (by exact ps_index rfl rfl rfl (by omega) (by exact isw_ga _)) ?_; refine okT_take (i := 9) rfl (by kernel_rfl) rfl rfl rfl (by exact ps_load rfl rfl (Rds.cell (rds_row 4 rfl) (show (fl (wts a b c))[2]? = some (.int .i64 (c : Int)) from rfl))) ?_; refine okT_take (i := 10) rfl (by kernel_rfl) rfl rfl rfl (by exact ps_cast (v' := .int .i64 ((a + b + c : Nat) : Int)) (ps_add rfl rfl rfl (by omega)) (congrArg (Value.int .i64) (by omega))) ?_; refine okT_take (i := 11) rfl (by kernel_rfl) rfl rfl rfl (by exact ps_assign rfl rfl) ?_; refine okT_done (by kernel_rfl) ?_; refine ok_nil ?_; refine ok_env [(0, _), (3, _), (4, _), (6, _)] ⟨rfl, rfl, rfl, rfl, trivial⟩ ?_)
    | (refine ok_region (i := 8) ?_; refine ok_p rfl rfl rfl (by exact ps_assign rfl rfl) ?_; refine ok_nil ?_; refine ok_env [(0, _), (3, _), (4, _), (6, _), (7, _)] ⟨rfl, rfl, rfl, rfl, rfl, trivial⟩ ?_))
  refine ok_loop (ι := { p : Nat × Ys // p.1 ≤ 3 }) (fun p => 3 - p.1.1) (fun p => ([(0, .slice A bs.length cc), (3, .slice (ga (y41 0).c) 3 3), (4, pt (ga (y4 0).c) 0), (6, .int .i64 ((a + b + c : Nat) : Int)), (7, .int .i64 (p.1.1 : Int))], [.box (y4 0).c 51 [.slice (p.1.2 0).A 3 (p.1.2 0).c, .slice (p.1.2 1).A 3 (p.1.2 1).c, .slice (p.1.2 2).A 3 (p.1.2 2).c, .int .i64 0]] ++ (Turns_obj (askSt a b c (40 * p.1.1)) p.1.2 ++ [.row 3 1 (ga (y41 0).c) 3 3 (fl (wts a b c))]), _)) ⟨(0, y44), by simp⟩ (fun a w he hw => ⟨⟨(0, y44), by simp⟩, he.sub ⟨rfl, rfl, rfl, rfl, rfl, trivial⟩, hw⟩) ?_
  rintro ⟨⟨i, y⟩, hi⟩
  simp only at hi ⊢
  repeat' (first
    | refine ok_seq ?_
    | refine ok_then ?_
    | refine ok_block ?_
    | (refine ok_cond rfl (fun hc => ?_) (fun hc => ?_) <;> (have hd := hc; (try simp only [decide_eq_true_eq, decide_eq_false_iff_not, Bool.or_eq_true, Bool.or_eq_false_iff, Bool.and_eq_true, Bool.and_eq_false_iff, Bool.not_eq_true', Bool.not_eq_false', bne_iff_ne, beq_iff_eq, bne_eq_false_iff_eq, beq_eq_false_iff_ne, ne_eq, Bool.not_true, Bool.not_false, Bool.false_eq_true, Bool.true_eq_false, inB_true, inB_false] at hd)))
    | refine ok_exit ?_
    | refine ok_skip ?_
    | (refine ok_region (i := 9) ?_; refine ok_p rfl rfl rfl (by exact ps_move rfl rfl) ?_; refine ok_p rfl rfl rfl (by exact ps_int rfl rfl rfl rfl) ?_; refine ok_nil ?_; refine ok_env [(0, _), (3, _), (4, _), (6, _), (7, _), (61, _)] ⟨rfl, rfl, rfl, rfl, rfl, rfl, trivial⟩ ?_)
    | (refine ok_region (i := 11) ?_; refine ok_p rfl rfl rfl (by exact ps_assign rfl rfl) ?_; refine ok_nil ?_; refine ok_env [(0, _), (3, _), (4, _), (6, _), (7, _), (8, _)] ⟨rfl, rfl, rfl, rfl, rfl, rfl, trivial⟩ ?_)
    | (refine ok_region (i := 18) ?_; refine ok_p rfl rfl rfl (by exact ps_assign rfl rfl) ?_; refine ok_nil ?_; refine ok_env [(0, _), (3, _), (4, _), (6, _), (11, _)] ⟨rfl, rfl, rfl, rfl, rfl, trivial⟩ ?_))
  · refine ok_loop (ι := { p : Nat × Ys // p.1 ≤ 40 }) (fun p => 40 - p.1.1) (fun p => ([(0, .slice A bs.length cc), (3, .slice (ga (y41 0).c) 3 3), (4, pt (ga (y4 0).c) 0), (6, .int .i64 ((a + b + c : Nat) : Int)), (7, .int .i64 (i : Int)), (8, .int .i64 (p.1.1 : Int))], [.box (y4 0).c 51 [.slice (p.1.2 0).A 3 (p.1.2 0).c, .slice (p.1.2 1).A 3 (p.1.2 1).c, .slice (p.1.2 2).A 3 (p.1.2 2).c, .int .i64 0]] ++ (Turns_obj (askSt a b c (40 * i + p.1.1)) p.1.2 ++ [.row 3 1 (ga (y41 0).c) 3 3 (fl (wts a b c))]), _)) ⟨(0, y), by simp⟩ (fun a w he hw => ⟨⟨(0, y), by simp⟩, he.sub ⟨rfl, rfl, rfl, rfl, rfl, rfl, trivial⟩, hw⟩) ?_
    rintro ⟨⟨k, y⟩, hk⟩
    simp only at hk ⊢
    repeat' (first
      | refine ok_seq ?_
      | refine ok_then ?_
      | refine ok_then_exit ?_
      | refine ok_block ?_
      | refine ok_in_normal ?_
      | refine ok_in_exit ?_
      | (refine ok_cond rfl (fun hc => ?_) (fun hc => ?_) <;> (have hd := hc; (try simp only [decide_eq_true_eq, decide_eq_false_iff_not, Bool.or_eq_true, Bool.or_eq_false_iff, Bool.and_eq_true, Bool.and_eq_false_iff, Bool.not_eq_true', Bool.not_eq_false', bne_iff_ne, beq_iff_eq, bne_eq_false_iff_eq, beq_eq_false_iff_ne, ne_eq, Bool.not_true, Bool.not_false, Bool.false_eq_true, Bool.true_eq_false, inB_true, inB_false] at hd)))
      | refine ok_exit ?_
      | refine ok_skip ?_
      | (refine ok_region (i := 10) ?_; refine ok_p rfl rfl rfl (by exact ps_move rfl rfl) ?_; refine ok_p rfl rfl rfl (by exact ps_add rfl rfl rfl (by omega)) ?_; refine ok_p rfl rfl rfl (by exact ps_assign rfl rfl) ?_; refine ok_nil ?_; refine ok_env [(0, _), (3, _), (4, _), (6, _), (7, _)] ⟨rfl, rfl, rfl, rfl, rfl, trivial⟩ ?_)
      | (refine ok_region (i := 12) ?_; refine ok_p rfl rfl rfl (by exact ps_move rfl rfl) ?_; refine ok_p rfl rfl rfl (by exact ps_int rfl rfl rfl rfl) ?_; refine ok_nil ?_; refine ok_env [(0, _), (3, _), (4, _), (6, _), (7, _), (8, _), (65, _)] ⟨rfl, rfl, rfl, rfl, rfl, rfl, rfl, trivial⟩ ?_)
      | (refine ok_region (i := 13) ?_; refine ok_p rfl rfl rfl (by exact ps_move rfl rfl) ?_; refine ok_p rfl rfl rfl (by exact ps_add rfl rfl rfl (by omega)) ?_; refine ok_p rfl rfl rfl (by exact ps_assign rfl rfl) ?_; refine ok_nil ?_; refine ok_env [(0, _), (3, _), (4, _), (6, _), (7, _), (8, _)] ⟨rfl, rfl, rfl, rfl, rfl, rfl, trivial⟩ ?_)
      | (refine ok_region (i := 14) ?_; refine ok_p rfl rfl rfl (by exact ps_loads rfl rfl (by exact rds_box 0 rfl) rfl rfl (by decide)) ?_; refine ok_p rfl rfl rfl (by exact ps_move rfl rfl) ?_; refine ok_m rfl rfl rfl (by exact ms_c2 rfl rfl rfl (fun _ _ w hw => ask_t H4.out i k (by omega) (by omega) y w ⟨rds_row 1 rfl _ _ w hw, rds_row 2 rfl _ _ w hw, rds_row 3 rfl _ _ w hw⟩)) ?_; rintro y71 hy71; refine ok_p rfl rfl rfl (by exact ps_move rfl rfl) ?_; refine ok_p rfl rfl rfl (by exact ps_extract rfl rfl rfl) ?_; refine ok_p rfl rfl rfl (by exact ps_extract rfl rfl rfl) ?_; refine ok_m rfl rfl rfl (by exact ms_alloc rfl) ?_; rintro y9 hy9; refine ok_m_ rfl rfl (by exact ms_store 0 rfl rfl rfl rfl rfl rfl rfl rfl) ?_; rintro y_ hy_; refine ok_p rfl rfl rfl (by exact ps_assign rfl rfl) ?_; refine ok_nil ?_; refine ok_env [(0, _), (3, _), (4, _), (6, _), (7, _), (8, _), (9, _), (10, _)] ⟨rfl, rfl, rfl, rfl, rfl, rfl, rfl, rfl, trivial⟩ ?_)
      | (refine ok_region (i := 15) ?_; refine ok_p rfl rfl rfl (by exact ps_move rfl rfl) ?_; refine ok_p rfl rfl rfl (by exact ps_not rfl rfl) ?_; refine ok_nil ?_; refine ok_env [(0, _), (3, _), (4, _), (6, _), (7, _), (8, _), (9, _), (75, _)] ⟨rfl, rfl, rfl, rfl, rfl, rfl, rfl, rfl, trivial⟩ ?_)
      | (refine ok_region (i := 17) ?_; refine ok_p rfl rfl rfl (by exact ps_loads rfl rfl (by exact rds_box 0 rfl) rfl rfl (by decide)) ?_; refine ok_m_ rfl rfl (by exact ms_store 4 rfl rfl rfl rfl rfl rfl rfl rfl) ?_; rintro y_ hy_; refine ok_nil ?_; refine ok_env [(0, _), (3, _), (4, _), (6, _), (7, _), (8, _)] ⟨rfl, rfl, rfl, rfl, rfl, rfl, trivial⟩ ?_))
    · exact fun ac w he hw => ⟨⟨(k + 1, y71), by simp only; omega⟩, by simp only; omega, he.sub ⟨rfl, rfl, rfl, rfl, rfl, rfl, trivial⟩, hw.sel [4, 1, 2, 3, 8] (by decide) rfl (fun _ h => h)⟩
    · obtain rfl : k = 40 := by omega
      exact fun ac w he hw => ⟨⟨(i + 1, y), by simp only; omega⟩, by simp only; omega, he.sub ⟨rfl, rfl, rfl, rfl, rfl, trivial⟩, hw⟩
  obtain rfl : i = 3 := by omega
  rw [show 40 * 3 = 120 from rfl, askSt_start]
  refine ok_loop (ι := { p : Nat × Ys // p.1 ≤ 3 }) (fun p => 3 - p.1.1) (fun p => ([(0, .slice A bs.length cc), (3, .slice (ga (y41 0).c) 3 3), (4, pt (ga (y4 0).c) 0), (6, .int .i64 ((a + b + c : Nat) : Int)), (11, .int .i64 (p.1.1 : Int))], [.box (y4 0).c 51 [.slice (p.1.2 0).A (rdSt a b c p.1.1 0).W.length (p.1.2 0).c, .slice (p.1.2 1).A (rdSt a b c p.1.1 0).L.length (p.1.2 1).c, .slice (p.1.2 2).A (rdSt a b c p.1.1 0).T.length (p.1.2 2).c, .int .i64 (rdSt a b c p.1.1 0).p]] ++ (Turns_obj (rdSt a b c p.1.1 0) p.1.2 ++ [.row 3 1 (ga (y41 0).c) 3 3 (fl (wts a b c))]), _)) ⟨(0, y), by simp⟩ (fun a w he hw => ⟨⟨(0, y), by simp⟩, he.sub ⟨rfl, rfl, rfl, rfl, rfl, trivial⟩, hw⟩) ?_
  clear hi
  rintro ⟨⟨r, y⟩, hr⟩
  simp only at hr ⊢
  repeat' (first
    | refine ok_seq ?_
    | refine ok_then ?_
    | refine ok_block ?_
    | (refine ok_cond rfl (fun hc => ?_) (fun hc => ?_) <;> (have hd := hc; (try simp only [decide_eq_true_eq, decide_eq_false_iff_not, Bool.or_eq_true, Bool.or_eq_false_iff, Bool.and_eq_true, Bool.and_eq_false_iff, Bool.not_eq_true', Bool.not_eq_false', bne_iff_ne, beq_iff_eq, bne_eq_false_iff_eq, beq_eq_false_iff_ne, ne_eq, Bool.not_true, Bool.not_false, Bool.false_eq_true, Bool.true_eq_false, inB_true, inB_false] at hd)))
    | refine ok_exit ?_
    | refine ok_skip ?_
    | (refine ok_region (i := 19) ?_; refine ok_p rfl rfl rfl (by exact ps_move rfl rfl) ?_; refine ok_p rfl rfl rfl (by exact ps_int rfl rfl rfl rfl) ?_; refine ok_nil ?_; refine ok_env [(0, _), (3, _), (4, _), (6, _), (11, _), (78, _)] ⟨rfl, rfl, rfl, rfl, rfl, rfl, trivial⟩ ?_)
    | (refine ok_region (i := 21) ?_; refine ok_m rfl rfl rfl (by exact ms_lit rfl (parts_cons rfl (parts_cons rfl (parts_cons rfl parts_nil))) rfl rfl rfl) ?_; rintro y81 hy81; refine ok_p rfl rfl rfl (by exact ps_assign rfl rfl) ?_; refine ok_nil ?_; refine ok_env [(0, _), (3, _), (4, _), (6, _), (11, _), (12, _)] ⟨rfl, rfl, rfl, rfl, rfl, rfl, trivial⟩ ?_)
    | (refine ok_region (i := 22) ?_; refine ok_p rfl rfl rfl (by exact ps_assign rfl rfl) ?_; refine ok_nil ?_; refine ok_env [(0, _), (3, _), (4, _), (6, _), (11, _), (12, _), (13, _)] ⟨rfl, rfl, rfl, rfl, rfl, rfl, rfl, trivial⟩ ?_))
  · refine ok_sel [0, 1, 2, 3, 4, 5] (by decide) (H' := [.row 3 1 (ga (y81 0).c) 3 3 (fl (gotK a b c 0)), .box (y4 0).c 51 [.slice (y 0).A (rdSt a b c r 0).W.length (y 0).c, .slice (y 1).A (rdSt a b c r 0).L.length (y 1).c, .slice (y 2).A (rdSt a b c r 0).T.length (y 2).c, .int .i64 (rdSt a b c r 0).p]] ++ (Turns_obj (rdSt a b c r 0) y ++ [.row 3 1 (ga (y41 0).c) 3 3 (fl (wts a b c))])) (by rw [gotK_zero]; rfl) ?_
    refine ok_loop (ι := { p : Nat × Ys // p.1 ≤ a + b + c }) (fun p => a + b + c - p.1.1) (fun p => ([(0, .slice A bs.length cc), (3, .slice (ga (y41 0).c) 3 3), (4, pt (ga (y4 0).c) 0), (6, .int .i64 ((a + b + c : Nat) : Int)), (11, .int .i64 (r : Int)), (12, .slice (ga (y81 0).c) 3 3), (13, .int .i64 (p.1.1 : Int))], [.row 3 1 (ga (y81 0).c) 3 3 (fl (gotK a b c p.1.1)), .box (y4 0).c 51 [.slice (p.1.2 0).A (rdSt a b c r p.1.1).W.length (p.1.2 0).c, .slice (p.1.2 1).A (rdSt a b c r p.1.1).L.length (p.1.2 1).c, .slice (p.1.2 2).A (rdSt a b c r p.1.1).T.length (p.1.2 2).c, .int .i64 (rdSt a b c r p.1.1).p]] ++ (Turns_obj (rdSt a b c r p.1.1) p.1.2 ++ [.row 3 1 (ga (y41 0).c) 3 3 (fl (wts a b c))]), _)) ⟨(0, y), by simp⟩ (fun a w he hw => ⟨⟨(0, y), by simp⟩, he.sub ⟨rfl, rfl, rfl, rfl, rfl, rfl, rfl, trivial⟩, hw⟩) ?_
    rintro ⟨⟨k, y⟩, hk⟩
    simp only at hk ⊢
    have hI := rdI_lt a b k
    have hG := gotK_le a b c k (rdI a b k) (by omega) hI
    repeat' (first
      | refine ok_seq ?_
      | refine ok_then ?_
      | refine ok_then_ret ?_
      | refine ok_block ?_
      | refine ok_in_normal ?_
      | refine ok_in_ret ?_
      | (refine ok_cond rfl (fun hc => ?_) (fun hc => ?_) <;> (have hd := hc; (try simp only [decide_eq_true_eq, decide_eq_false_iff_not, Bool.or_eq_true, Bool.or_eq_false_iff, Bool.and_eq_true, Bool.and_eq_false_iff, Bool.not_eq_true', Bool.not_eq_false', bne_iff_ne, beq_iff_eq, bne_eq_false_iff_eq, beq_eq_false_iff_ne, ne_eq, Bool.not_true, Bool.not_false, Bool.false_eq_true, Bool.true_eq_false, inB_true, inB_false] at hd)))
      | refine ok_ret ?_
      | refine ok_exit ?_
      | refine ok_skip ?_
      | (refine ok_region (i := 23) ?_; refine ok_p rfl rfl rfl (by exact ps_move rfl rfl) ?_; refine ok_p rfl rfl rfl (by exact ps_move rfl rfl) ?_; refine ok_p rfl rfl rfl (by exact ps_int rfl rfl rfl rfl) ?_; refine ok_nil ?_; refine ok_env [(0, _), (3, _), (4, _), (6, _), (11, _), (12, _), (13, _), (84, _)] ⟨rfl, rfl, rfl, rfl, rfl, rfl, rfl, rfl, trivial⟩ ?_)
      | (refine ok_region (i := 24) ?_; refine ok_p rfl rfl rfl (by exact ps_move rfl rfl) ?_; refine ok_p rfl rfl rfl (by exact ps_add rfl rfl rfl (by omega)) ?_; refine ok_p rfl rfl rfl (by exact ps_assign rfl rfl) ?_; refine ok_nil ?_; refine ok_env [(0, _), (3, _), (4, _), (6, _), (11, _), (12, _), (13, _)] ⟨rfl, rfl, rfl, rfl, rfl, rfl, rfl, trivial⟩ ?_)
      | (refine ok_region (i := 25) ?_; refine ok_p rfl rfl rfl (by exact ps_loads rfl rfl (by exact rds_box 1 rfl) rfl rfl (by decide)) ?_; refine ok_m rfl rfl rfl (by exact ms_c1 rfl rfl (fun _ _ w hw => next_t H4.out r k (by omega) (by omega) y w ⟨rds_row 2 rfl _ _ w hw, rds_row 3 rfl _ _ w hw, rds_row 4 rfl _ _ w hw⟩)) ?_; rintro y89 hy89; refine ok_p rfl rfl rfl (by exact ps_move rfl rfl) ?_; refine ok_p rfl rfl rfl (by exact ps_extract rfl rfl rfl) ?_; refine ok_p rfl rfl rfl (by exact ps_extract rfl rfl rfl) ?_; refine ok_m rfl rfl rfl (by exact ms_alloc rfl) ?_; rintro y14 hy14; refine ok_m_ rfl rfl (by exact ms_store 0 rfl rfl rfl rfl rfl rfl rfl rfl) ?_; rintro y_ hy_; refine ok_p rfl rfl rfl (by exact ps_assign rfl rfl) ?_; refine ok_nil ?_; refine ok_env [(0, _), (3, _), (4, _), (6, _), (11, _), (12, _), (13, _), (14, _), (15, _)] ⟨rfl, rfl, rfl, rfl, rfl, rfl, rfl, rfl, rfl, trivial⟩ ?_)
      | (refine ok_region (i := 26) ?_; refine ok_p rfl rfl rfl (by exact ps_move rfl rfl) ?_; refine ok_p rfl rfl rfl (by exact ps_int rfl rfl rfl rfl) ?_; refine ok_p rfl rfl rfl (by exact ps_move rfl rfl) ?_; refine ok_pg rfl rfl rfl rfl rfl (gF _) (fun hp => by (have hpd := hp; (try simp only [decide_eq_true_eq, decide_eq_false_iff_not, Bool.or_eq_true, Bool.or_eq_false_iff, Bool.and_eq_true, Bool.and_eq_false_iff, Bool.not_eq_true', Bool.not_eq_false', bne_iff_ne, beq_iff_eq, bne_eq_false_iff_eq, beq_eq_false_iff_ne, ne_eq, Bool.not_true, Bool.not_false, Bool.false_eq_true, Bool.true_eq_false, inB_true, inB_false] at hpd); exact ps_move rfl (by exact rfl))) ?_; refine ok_pg rfl rfl rfl rfl rfl (gF _) (fun hp => by (have hpd := hp; (try simp only [decide_eq_true_eq, decide_eq_false_iff_not, Bool.or_eq_true, Bool.or_eq_false_iff, Bool.and_eq_true, Bool.and_eq_false_iff, Bool.not_eq_true', Bool.not_eq_false', bne_iff_ne, beq_iff_eq, bne_eq_false_iff_eq, beq_eq_false_iff_ne, ne_eq, Bool.not_true, Bool.not_false, Bool.false_eq_true, Bool.true_eq_false, inB_true, inB_false] at hpd); exact ps_int rfl (by (refine og rfl ?_; assumption)) (by exact rfl) rfl)) ?_; refine ok_p rfl rfl rfl (by exact ps_or rfl rfl rfl) ?_; refine ok_p rfl rfl rfl (by exact ps_move rfl rfl) ?_; refine ok_pg rfl rfl rfl rfl rfl (gF _) (fun hp => by (have hpd := hp; (try simp only [decide_eq_true_eq, decide_eq_false_iff_not, Bool.or_eq_true, Bool.or_eq_false_iff, Bool.and_eq_true, Bool.and_eq_false_iff, Bool.not_eq_true', Bool.not_eq_false', bne_iff_ne, beq_iff_eq, bne_eq_false_iff_eq, beq_eq_false_iff_ne, ne_eq, Bool.not_true, Bool.not_false, Bool.false_eq_true, Bool.true_eq_false, inB_true, inB_false] at hpd); exact ps_loads rfl (by exact rfl) (by exact rds_box 0 rfl) rfl rfl (by decide))) ?_; refine ok_mg rfl rfl rfl rfl rfl (gF _) (fun hp => by (have hpd := hp; (try simp only [decide_eq_true_eq, decide_eq_false_iff_not, Bool.or_eq_true, Bool.or_eq_false_iff, Bool.and_eq_true, Bool.and_eq_false_iff, Bool.not_eq_true', Bool.not_eq_false', bne_iff_ne, beq_iff_eq, bne_eq_false_iff_eq, beq_eq_false_iff_ne, ne_eq, Bool.not_true, Bool.not_false, Bool.false_eq_true, Bool.true_eq_false, inB_true, inB_false] at hpd); exact ms_s1 rfl (by (refine og rfl ?_; assumption)) (fun _ _ w hw => ok_t H4.out r k (by omega) (by omega) y89 w ⟨rds_row 1 rfl _ _ w hw, rds_row 2 rfl _ _ w hw, rds_row 3 rfl _ _ w hw⟩))) ?_; refine ok_pg rfl rfl rfl rfl rfl (gF _) (fun hp => by (have hpd := hp; (try simp only [decide_eq_true_eq, decide_eq_false_iff_not, Bool.or_eq_true, Bool.or_eq_false_iff, Bool.and_eq_true, Bool.and_eq_false_iff, Bool.not_eq_true', Bool.not_eq_false', bne_iff_ne, beq_iff_eq, bne_eq_false_iff_eq, beq_eq_false_iff_ne, ne_eq, Bool.not_true, Bool.not_false, Bool.false_eq_true, Bool.true_eq_false, inB_true, inB_false] at hpd); exact ps_not rfl (by (refine og rfl ?_; assumption)))) ?_; refine ok_p rfl rfl rfl (by exact ps_or rfl rfl rfl) ?_; refine ok_nil ?_; refine ok_env [(0, _), (3, _), (4, _), (6, _), (11, _), (12, _), (13, _), (14, _), (15, _), (102, _)] ⟨rfl, rfl, rfl, rfl, rfl, rfl, rfl, rfl, rfl, rfl, trivial⟩ ?_)
      | (refine ok_region (i := 27) ?_; refine ok_p rfl rfl rfl (by exact ps_assign rfl rfl) ?_; refine ok_nil ?_; refine ok_env [(2, _)] ⟨rfl, trivial⟩ ?_)
      | (refine ok_region (i := 28) ?_; refine ok_p rfl rfl rfl (by exact ps_move rfl rfl) ?_; refine ok_p rfl rfl rfl (by exact ps_move rfl rfl) ?_; refine ok_p rfl rfl rfl (by exact ps_move rfl rfl) ?_; refine ok_p rfl rfl rfl (by exact ps_move rfl rfl) ?_; refine ok_p rfl rfl rfl (by exact ps_indexN rfl rfl rfl hI (isw_ga _)) ?_; refine ok_p rfl rfl rfl (by exact ps_load rfl rfl (Rds.cell (rds_row 4 rfl) (fl_at0 (gotK a b c k) (rdI a b k) hI (by decide)))) ?_; refine ok_p rfl rfl rfl (by exact ps_add rfl rfl rfl (by omega)) ?_; refine ok_p rfl rfl rfl (by exact ps_indexN rfl rfl rfl hI (isw_ga _)) ?_; refine ok_m_ rfl rfl (by exact ms_setc (α := Int) 4 (rdI a b k) 0 (nth (gotK a b c k) (rdI a b k) + 1) rfl rfl rfl rfl rfl rfl rfl rfl rfl hI) ?_; rintro y_ hy_; refine ok_nil ?_; refine ok_env [(0, _), (3, _), (4, _), (6, _), (11, _), (12, _), (13, _), (14, _)] ⟨rfl, rfl, rfl, rfl, rfl, rfl, rfl, rfl, trivial⟩ ?_)
      | (refine ok_region (i := 29) ?_; refine ok_p rfl rfl rfl (by exact ps_loads rfl rfl (by exact rds_box 0 rfl) rfl rfl (by decide)) ?_; refine ok_m_ rfl rfl (by exact ms_store 5 rfl rfl rfl rfl rfl rfl rfl rfl) ?_; rintro y_ hy_; refine ok_nil ?_; refine ok_env [(0, _), (3, _), (4, _), (6, _), (11, _), (12, _), (13, _)] ⟨rfl, rfl, rfl, rfl, rfl, rfl, rfl, trivial⟩ ?_))
    · exfalso
      rcases hd with (hd | hd) | hd
      · omega
      · omega
      · exact hd
    · refine fun ac w he hw => ⟨⟨(k + 1, y89), by simp only; omega⟩, by simp only; omega, he.sub ⟨rfl, rfl, rfl, rfl, rfl, rfl, rfl, trivial⟩, ?_⟩
      have e := (W4.step H4.out (r := r) (k := k) (by omega) (by omega)).2.2
      have := hw.sel [4, 5, 1, 2, 3, 9] (by decide) (H' := [.row 3 1 (ga (y81 0).c) 3 3 (fl (bumpG (gotK a b c k) (rdI a b k))), .box (y4 0).c 51 [.slice (y89 0).A (rdSt a b c r (k + 1)).W.length (y89 0).c, .slice (y89 1).A (rdSt a b c r (k + 1)).L.length (y89 1).c, .slice (y89 2).A (rdSt a b c r (k + 1)).T.length (y89 2).c, .int .i64 (rdSt a b c r (k + 1)).p]] ++ (Turns_obj (rdSt a b c r (k + 1)) y89 ++ [.row 3 1 (ga (y41 0).c) 3 3 (fl (wts a b c))])) rfl (fun _ h => h)
      rw [e] at this
      exact this
    · obtain rfl : k = a + b + c := by omega
      rw [gotK_end, rdSt_next H4.out r (by omega)]
      repeat' (first
        | refine ok_then ?_
        | refine ok_in_normal ?_
        | (refine ok_cond rfl (fun hc => ?_) (fun hc => ?_) <;> (have hd := hc; (try simp only [decide_eq_true_eq, decide_eq_false_iff_not, Bool.or_eq_true, Bool.or_eq_false_iff, Bool.and_eq_true, Bool.and_eq_false_iff, Bool.not_eq_true', Bool.not_eq_false', bne_iff_ne, beq_iff_eq, bne_eq_false_iff_eq, beq_eq_false_iff_ne, ne_eq, Bool.not_true, Bool.not_false, Bool.false_eq_true, Bool.true_eq_false, inB_true, inB_false] at hd)))
        | refine ok_skip ?_
        | (refine ok_region (i := 20) ?_; refine ok_p rfl rfl rfl (by exact ps_move rfl rfl) ?_; refine ok_p rfl rfl rfl (by exact ps_add rfl rfl rfl (by omega)) ?_; refine ok_p rfl rfl rfl (by exact ps_assign rfl rfl) ?_; refine ok_nil ?_; refine ok_env [(0, _), (3, _), (4, _), (6, _), (11, _)] ⟨rfl, rfl, rfl, rfl, rfl, trivial⟩ ?_)
        | (refine ok_region (i := 30) ?_; refine ok_p rfl rfl rfl (by exact ps_move rfl rfl) ?_; refine ok_p rfl rfl rfl (by exact ps_move rfl rfl) ?_; refine ok_m rfl rfl rfl (by exact ms_s2 rfl rfl rfl (fun _ _ w hw => sameInts_c _ _ _ _ (wts a b c) w (rds_row 0 rfl _ _ w hw) (rds_row 5 rfl _ _ w hw) (by simp [wts]))) ?_; rintro y114 hy114; refine ok_p rfl rfl rfl (by exact ps_not rfl rfl) ?_; refine ok_nil ?_; refine ok_env [(0, _), (3, _), (4, _), (6, _), (11, _), (115, _)] ⟨rfl, rfl, rfl, rfl, rfl, rfl, trivial⟩ ?_))
      exact fun ac w he hw => ⟨⟨(r + 1, y), by simp only; omega⟩, by simp only; omega, he.sub ⟨rfl, rfl, rfl, rfl, rfl, trivial⟩, hw.tl⟩
  repeat' (first
    | refine ok_seq ?_
    | refine ok_then ?_
    | refine ok_ret ?_
    | (refine ok_region (i := 32) ?_; refine ok_p rfl rfl rfl (by exact ps_move rfl rfl) ?_; refine ok_m rfl rfl rfl (by exact ms_c1 rfl rfl (fun _ _ w hw => drawNext_c A cc bs w (rds_rf h (by exact List.mem_cons_self) _ _ w hw) hl)) ?_; rintro y117 hy117; refine ok_m rfl rfl rfl (by exact ms_alloc rfl) ?_; rintro y16 hy16; refine ok_m_ rfl rfl (by exact ms_store 0 rfl rfl rfl rfl rfl rfl rfl rfl) ?_; rintro y_ hy_; refine ok_nil ?_; refine ok_env [(0, _), (16, _)] ⟨rfl, rfl, trivial⟩ ?_)
    | (refine ok_region (i := 33) ?_; refine ok_p rfl rfl rfl (by exact ps_loads rfl rfl (by exact rds_box 0 rfl) rfl rfl (by decide)) ?_; refine ok_m rfl rfl rfl (by exact ms_c1 rfl rfl (fun _ _ w hw => i_TurnsNext (yE (y117 3)) y117 w ⟨rds_row 1 rfl _ _ w hw, rds_row 2 rfl _ _ w hw, rds_row 3 rfl _ _ w hw⟩ hy117)) ?_; rintro y120 hy120; refine ok_p rfl rfl rfl (by exact ps_move rfl rfl) ?_; refine ok_p rfl rfl rfl (by exact ps_extract rfl rfl rfl) ?_; refine ok_p rfl rfl rfl (by exact ps_extract rfl rfl rfl) ?_; refine ok_m rfl rfl rfl (by exact ms_alloc rfl) ?_; rintro y17 hy17; refine ok_m_ rfl rfl (by exact ms_store 0 rfl rfl rfl rfl rfl rfl rfl rfl) ?_; rintro y_ hy_; refine ok_p rfl rfl rfl (by exact ps_assign rfl rfl) ?_; refine ok_nil ?_; refine ok_env [(0, _), (16, _), (17, _), (18, _)] ⟨rfl, rfl, rfl, rfl, trivial⟩ ?_)
    | (refine ok_region (i := 34) ?_; refine ok_p rfl rfl rfl (by exact ps_loads rfl rfl (by exact rds_box 4 rfl) rfl rfl (by decide)) ?_; refine ok_m rfl rfl rfl (by exact ms_c1 rfl rfl (fun _ _ w hw => s_TurnsNext (yE (y117 3)) y117 w ⟨rds_row 5 rfl _ _ w hw, rds_row 6 rfl _ _ w hw, rds_row 7 rfl _ _ w hw⟩ hy117)) ?_; rintro y125 hy125; refine ok_p rfl rfl rfl (by exact ps_move rfl rfl) ?_; refine ok_p rfl rfl rfl (by exact ps_extract rfl rfl rfl) ?_; refine ok_p rfl rfl rfl (by exact ps_extract rfl rfl rfl) ?_; refine ok_m rfl rfl rfl (by exact ms_alloc rfl) ?_; rintro y19 hy19; refine ok_m_ rfl rfl (by exact ms_store 0 rfl rfl rfl rfl rfl rfl rfl rfl) ?_; rintro y_ hy_; refine ok_p rfl rfl rfl (by exact ps_assign rfl rfl) ?_; refine ok_nil ?_; refine ok_env [(0, _), (17, _), (18, _), (19, _), (20, _)] ⟨rfl, rfl, rfl, rfl, rfl, trivial⟩ ?_)
    | (refine ok_region (i := 35) ?_; refine ok_p rfl rfl rfl (by exact ps_move rfl rfl) ?_; refine ok_m rfl rfl rfl (by exact ms_c1 rfl rfl (fun _ _ w hw => drawAsk_c A cc bs w (rds_rf h (by exact List.mem_cons_self) _ _ w hw) hl)) ?_; rintro y130 hy130; refine ok_p rfl rfl rfl (by exact ps_move rfl rfl) ?_; refine ok_p rfl rfl rfl (by exact ps_extract rfl rfl rfl) ?_; refine ok_p rfl rfl rfl (by exact ps_extract rfl rfl rfl) ?_; refine ok_m rfl rfl rfl (by exact ms_alloc rfl) ?_; rintro y21 hy21; refine ok_m_ rfl rfl (by exact ms_store 0 rfl rfl rfl rfl rfl rfl rfl rfl) ?_; rintro y_ hy_; refine ok_p rfl rfl rfl (by exact ps_assign rfl rfl) ?_; refine ok_nil ?_; refine ok_env [(17, _), (18, _), (19, _), (20, _), (21, _), (22, _)] ⟨rfl, rfl, rfl, rfl, rfl, rfl, trivial⟩ ?_)
    | (refine ok_region (i := 36) ?_; refine ok_p rfl rfl rfl (by exact ps_loads rfl rfl (by exact rds_box 0 rfl) rfl rfl (by decide)) ?_; refine ok_p rfl rfl rfl (by exact ps_move rfl rfl) ?_; refine ok_m rfl rfl rfl (by exact ms_c2 rfl rfl rfl (fun _ _ w hw => i_TurnsAsk (yE (y130 3)) y130 (y130 3).n w ⟨rds_row 1 rfl _ _ w hw, rds_row 2 rfl _ _ w hw, rds_row 3 rfl _ _ w hw⟩ hy130.1 (by omega))) ?_; rintro y136 hy136; refine ok_p rfl rfl rfl (by exact ps_move rfl rfl) ?_; refine ok_p rfl rfl rfl (by exact ps_extract rfl rfl rfl) ?_; refine ok_p rfl rfl rfl (by exact ps_extract rfl rfl rfl) ?_; refine ok_m rfl rfl rfl (by exact ms_alloc rfl) ?_; rintro y23 hy23; refine ok_m_ rfl rfl (by exact ms_store 0 rfl rfl rfl rfl rfl rfl rfl rfl) ?_; rintro y_ hy_; refine ok_p rfl rfl rfl (by exact ps_assign rfl rfl) ?_; refine ok_nil ?_; refine ok_env [(17, _), (18, _), (19, _), (20, _), (21, _), (22, _), (24, _)] ⟨rfl, rfl, rfl, rfl, rfl, rfl, rfl, trivial⟩ ?_)
    | (refine ok_region (i := 37) ?_; refine ok_p rfl rfl rfl (by exact ps_loads rfl rfl (by exact rds_box 4 rfl) rfl rfl (by decide)) ?_; refine ok_p rfl rfl rfl (by exact ps_move rfl rfl) ?_; refine ok_m rfl rfl rfl (by exact ms_c2 rfl rfl rfl (fun _ _ w hw => s_TurnsAsk (yE (y130 3)) y130 (y130 3).n w ⟨rds_row 5 rfl _ _ w hw, rds_row 6 rfl _ _ w hw, rds_row 7 rfl _ _ w hw⟩ hy130.1 (by omega))) ?_; rintro y142 hy142; refine ok_p rfl rfl rfl (by exact ps_move rfl rfl) ?_; refine ok_p rfl rfl rfl (by exact ps_extract rfl rfl rfl) ?_; refine ok_p rfl rfl rfl (by exact ps_extract rfl rfl rfl) ?_; refine ok_m rfl rfl rfl (by exact ms_alloc rfl) ?_; rintro y25 hy25; refine ok_m_ rfl rfl (by exact ms_store 0 rfl rfl rfl rfl rfl rfl rfl rfl) ?_; rintro y_ hy_; refine ok_p rfl rfl rfl (by exact ps_assign rfl rfl) ?_; refine ok_nil ?_; refine ok_env [(17, _), (18, _), (19, _), (20, _), (24, _), (26, _)] ⟨rfl, rfl, rfl, rfl, rfl, rfl, trivial⟩ ?_)
    | (refine ok_region (i := 38) ?_; refine ok_p rfl rfl rfl (by exact ps_move rfl rfl) ?_; refine ok_p rfl rfl rfl (by exact ps_move rfl rfl) ?_; refine ok_p rfl rfl rfl (by exact ps_int rfl rfl rfl rfl) ?_; refine ok_p rfl rfl rfl (by exact ps_move rfl rfl) ?_; refine ok_pg rfl rfl rfl rfl rfl (gT _) (fun hp => by (have hpd := hp; (try simp only [decide_eq_true_eq, decide_eq_false_iff_not, Bool.or_eq_true, Bool.or_eq_false_iff, Bool.and_eq_true, Bool.and_eq_false_iff, Bool.not_eq_true', Bool.not_eq_false', bne_iff_ne, beq_iff_eq, bne_eq_false_iff_eq, beq_eq_false_iff_ne, ne_eq, Bool.not_true, Bool.not_false, Bool.false_eq_true, Bool.true_eq_false, inB_true, inB_false] at hpd); exact ps_field rfl (by exact rfl) (by exact isw_ga _))) ?_; refine ok_pg rfl rfl rfl rfl rfl (gT _) (fun hp => by (have hpd := hp; (try simp only [decide_eq_true_eq, decide_eq_false_iff_not, Bool.or_eq_true, Bool.or_eq_false_iff, Bool.and_eq_true, Bool.and_eq_false_iff, Bool.not_eq_true', Bool.not_eq_false', bne_iff_ne, beq_iff_eq, bne_eq_false_iff_eq, beq_eq_false_iff_ne, ne_eq, Bool.not_true, Bool.not_false, Bool.false_eq_true, Bool.true_eq_false, inB_true, inB_false] at hpd); exact ps_load rfl (by (refine og rfl ?_; assumption)) (by exact Rds.cell (rds_box 16 rfl) rfl))) ?_; refine ok_pg rfl rfl rfl rfl rfl (gT _) (fun hp => by (have hpd := hp; (try simp only [decide_eq_true_eq, decide_eq_false_iff_not, Bool.or_eq_true, Bool.or_eq_false_iff, Bool.and_eq_true, Bool.and_eq_false_iff, Bool.not_eq_true', Bool.not_eq_false', bne_iff_ne, beq_iff_eq, bne_eq_false_iff_eq, beq_eq_false_iff_ne, ne_eq, Bool.not_true, Bool.not_false, Bool.false_eq_true, Bool.true_eq_false, inB_true, inB_false] at hpd); exact ps_field rfl (by exact rfl) (by exact isw_ga _))) ?_; refine ok_pg rfl rfl rfl rfl rfl (gT _) (fun hp => by (have hpd := hp; (try simp only [decide_eq_true_eq, decide_eq_false_iff_not, Bool.or_eq_true, Bool.or_eq_false_iff, Bool.and_eq_true, Bool.and_eq_false_iff, Bool.not_eq_true', Bool.not_eq_false', bne_iff_ne, beq_iff_eq, bne_eq_false_iff_eq, beq_eq_false_iff_ne, ne_eq, Bool.not_true, Bool.not_false, Bool.false_eq_true, Bool.true_eq_false, inB_true, inB_false] at hpd); exact ps_load rfl (by (refine og rfl ?_; assumption)) (by exact Rds.cell (rds_box 12 rfl) rfl))) ?_; refine ok_mg rfl rfl rfl rfl rfl (gT _) (fun hp => by (have hpd := hp; (try simp only [decide_eq_true_eq, decide_eq_false_iff_not, Bool.or_eq_true, Bool.or_eq_false_iff, Bool.and_eq_true, Bool.and_eq_false_iff, Bool.not_eq_true', Bool.not_eq_false', bne_iff_ne, beq_iff_eq, bne_eq_false_iff_eq, beq_eq_false_iff_ne, ne_eq, Bool.not_true, Bool.not_false, Bool.false_eq_true, Bool.true_eq_false, inB_true, inB_false] at hpd); exact ms_s2 rfl (by (refine og rfl ?_; assumption)) (by (refine og rfl ?_; assumption)) (fun _ _ w hw => sameInts_c _ _ _ _ (fTurnsNext (yE (y117 3))).1.T w (rds_row 19 rfl _ _ w hw) (rds_row 15 rfl _ _ w hw) (by have := next_lim hy117; omega)))) ?_; refine ok_p rfl rfl rfl (by exact ps_and rfl rfl rfl) ?_; refine ok_p rfl rfl rfl (by exact ps_move rfl rfl) ?_; refine ok_pg rfl rfl rfl rfl rfl (gT _) (fun hp => by (have hpd := hp; (try simp only [decide_eq_true_eq, decide_eq_false_iff_not, Bool.or_eq_true, Bool.or_eq_false_iff, Bool.and_eq_true, Bool.and_eq_false_iff, Bool.not_eq_true', Bool.not_eq_false', bne_iff_ne, beq_iff_eq, bne_eq_false_iff_eq, beq_eq_false_iff_ne, ne_eq, Bool.not_true, Bool.not_false, Bool.false_eq_true, Bool.true_eq_false, inB_true, inB_false] at hpd); exact ps_field rfl (by exact rfl) (by exact isw_ga _))) ?_; refine ok_pg rfl rfl rfl rfl rfl (gT _) (fun hp => by (have hpd := hp; (try simp only [decide_eq_true_eq, decide_eq_false_iff_not, Bool.or_eq_true, Bool.or_eq_false_iff, Bool.and_eq_true, Bool.and_eq_false_iff, Bool.not_eq_true', Bool.not_eq_false', bne_iff_ne, beq_iff_eq, bne_eq_false_iff_eq, beq_eq_false_iff_ne, ne_eq, Bool.not_true, Bool.not_false, Bool.false_eq_true, Bool.true_eq_false, inB_true, inB_false] at hpd); exact ps_load rfl (by (refine og rfl ?_; assumption)) (by exact Rds.cell (rds_box 16 rfl) rfl))) ?_; refine ok_pg rfl rfl rfl rfl rfl (gT _) (fun hp => by (have hpd := hp; (try simp only [decide_eq_true_eq, decide_eq_false_iff_not, Bool.or_eq_true, Bool.or_eq_false_iff, Bool.and_eq_true, Bool.and_eq_false_iff, Bool.not_eq_true', Bool.not_eq_false', bne_iff_ne, beq_iff_eq, bne_eq_false_iff_eq, beq_eq_false_iff_ne, ne_eq, Bool.not_true, Bool.not_false, Bool.false_eq_true, Bool.true_eq_false, inB_true, inB_false] at hpd); exact ps_field rfl (by exact rfl) (by exact isw_ga _))) ?_; refine ok_pg rfl rfl rfl rfl rfl (gT _) (fun hp => by (have hpd := hp; (try simp only [decide_eq_true_eq, decide_eq_false_iff_not, Bool.or_eq_true, Bool.or_eq_false_iff, Bool.and_eq_true, Bool.and_eq_false_iff, Bool.not_eq_true', Bool.not_eq_false', bne_iff_ne, beq_iff_eq, bne_eq_false_iff_eq, beq_eq_false_iff_ne, ne_eq, Bool.not_true, Bool.not_false, Bool.false_eq_true, Bool.true_eq_false, inB_true, inB_false] at hpd); exact ps_load rfl (by (refine og rfl ?_; assumption)) (by exact Rds.cell (rds_box 12 rfl) rfl))) ?_; refine ok_pg rfl rfl rfl rfl rfl (gT _) (fun hp => by (have hpd := hp; (try simp only [decide_eq_true_eq, decide_eq_false_iff_not, Bool.or_eq_true, Bool.or_eq_false_iff, Bool.and_eq_true, Bool.and_eq_false_iff, Bool.not_eq_true', Bool.not_eq_false', bne_iff_ne, beq_iff_eq, bne_eq_false_iff_eq, beq_eq_false_iff_ne, ne_eq, Bool.not_true, Bool.not_false, Bool.false_eq_true, Bool.true_eq_false, inB_true, inB_false] at hpd); exact ps_int rfl (by (refine og rfl ?_; assumption)) (by (refine og rfl ?_; assumption)) rfl)) ?_; refine ok_p rfl rfl rfl (by exact ps_and rfl rfl rfl) ?_; refine ok_p rfl rfl rfl (by exact ps_move rfl rfl) ?_; refine ok_pg rfl rfl rfl rfl rfl (gT _) (fun hp => by (have hpd := hp; (try simp only [decide_eq_true_eq, decide_eq_false_iff_not, Bool.or_eq_true, Bool.or_eq_false_iff, Bool.and_eq_true, Bool.and_eq_false_iff, Bool.not_eq_true', Bool.not_eq_false', bne_iff_ne, beq_iff_eq, bne_eq_false_iff_eq, beq_eq_false_iff_ne, ne_eq, Bool.not_true, Bool.not_false, Bool.false_eq_true, Bool.true_eq_false, inB_true, inB_false] at hpd); exact ps_move rfl (by exact rfl))) ?_; refine ok_pg rfl rfl rfl rfl rfl (gT _) (fun hp => by (have hpd := hp; (try simp only [decide_eq_true_eq, decide_eq_false_iff_not, Bool.or_eq_true, Bool.or_eq_false_iff, Bool.and_eq_true, Bool.and_eq_false_iff, Bool.not_eq_true', Bool.not_eq_false', bne_iff_ne, beq_iff_eq, bne_eq_false_iff_eq, beq_eq_false_iff_ne, ne_eq, Bool.not_true, Bool.not_false, Bool.false_eq_true, Bool.true_eq_false, inB_true, inB_false] at hpd); exact ps_move rfl (by exact rfl))) ?_; refine ok_pg rfl rfl rfl rfl rfl (gT _) (fun hp => by (have hpd := hp; (try simp only [decide_eq_true_eq, decide_eq_false_iff_not, Bool.or_eq_true, Bool.or_eq_false_iff, Bool.and_eq_true, Bool.and_eq_false_iff, Bool.not_eq_true', Bool.not_eq_false', bne_iff_ne, beq_iff_eq, bne_eq_false_iff_eq, beq_eq_false_iff_ne, ne_eq, Bool.not_true, Bool.not_false, Bool.false_eq_true, Bool.true_eq_false, inB_true, inB_false] at hpd); exact ps_bool_eql Try.underlying4 rfl (by (refine og rfl ?_; assumption)) (by (refine og rfl ?_; assumption)))) ?_; refine ok_p rfl rfl rfl (by exact ps_and rfl rfl rfl) ?_; refine ok_p rfl rfl rfl (by exact ps_assign rfl rfl) ?_; refine ok_nil ?_; refine ok_env [(2, _)] ⟨rfl, trivial⟩ ?_))
  exact ok_endL (vs := [_]) rfl ⟨rfl, trivial⟩ (fun w' hw => ⟨by simp [retV], hw.below⟩)
end Go.Proofs.Ytfcnimglcialbaa
/- The walk of FnTurns. -/
namespace Go.Proofs.Ytfcnimglcialbaa
open Go.RowKit
theorem FnTurns_walk (w : World) (v : Value) (x : gCode.den) (hx : RdT w gCode x [v]) :
    Calls Try.prog 7 #[v] w fun e w' => e = .returned (.bool true) ∧ Below w.heap.size w w' := by
  obtain ⟨A, c, l, rfl, h⟩ := code_open hx
  exact FnTurns_e A c l w h
end Go.Proofs.Ytfcnimglcialbaa
/- The head of a cut program, and the facts of a row that hang on it: each by itself, so that the kernel's memory stays small. -/
namespace Go.Proofs.Ytfcnimglcialbaa
open Go.RowKit
set_option maxRecDepth 100000
section
variable (P : Program) (rest : List (List Char)) (h : behindMainWord (wordsSigns P.initOrder.toList) = ['c', 'u', 't'] :: rest)
include h
theorem make_cut : P.make = some .cut := by
  unfold Program.make
  rw [h]
  simp
theorem lifts_cut : P.headLifts = [] := by
  unfold Program.headLifts
  rw [h]
  have : stripLifts liftWords (['c', 'u', 't'] :: rest) = ([], ['c', 'u', 't'] :: rest) := by
    simp [liftWords, stripLifts]
  rw [this]
  simp
theorem final_cut : P.liftsFinal = false := by
  unfold Program.liftsFinal
  rw [lifts_cut P rest h]
  simp [h]
theorem enter_cut (h1 : P.laysLater = false) (h2 : P.bearsReflect = false) (h3 : P.doorFits [] = true) : P.mayEnter = true := by
  unfold Program.mayEnter
  have : stripLifts liftWords (['c', 'u', 't'] :: rest) = ([], ['c', 'u', 't'] :: rest) := by
    simp [liftWords, stripLifts]
  rw [h]
  simp [this, h1, h2, h3]
end
def ioL : List Char := ['h', 'a', 'r', 'n', 'e', 's', 's', ' ', 'a', '4', 'd', '2', 'd', '2', '0', 'a', '6', 'f', 'a', '0', '7', 'd', '6', 'c', '5', '1', '7', '7', 'a', '5', 'e', 'f', '1', '6', '0', 'f', 'd', '7', 'a', '0', '1', 'e', '5', '8', 'b', '9', '4', 'b', '4', 'c', 'f', 'd', '2', '8', '0', '7', '2', 'e', '2', '5', '7', 'a', 'e', 'f', '4', 'a', '0', 'c', 'c', 'd', 'f', 'a', ' ', 'c', 'u', 't', ' ', 'a', 't', ' ', 'l', 'o', 'o', 'p', '.', 'e', 'x', 'a', 'm', 'p', 'l', 'e', '/', 'g', '0', '0', '9', '5', '0', '/', 'l', 'a', 'w', 's', '.', 'F', 'n', 'E', 'x', 'a', 'c', 't', 'U', 'n', 'p', 'a', 'c', 'k', ' ', 'l', 'o', 'o', 'p', '.', 'e', 'x', 'a', 'm', 'p', 'l', 'e', '/', 'g', '0', '0', '9', '5', '0', '/', 'l', 'a', 'w', 's', '.', 'F', 'n', 'C', 'a', 'c', 'h', 'e', ' ', 'l', 'o', 'o', 'p', '.', 'e', 'x', 'a', 'm', 'p', 'l', 'e', '/', 'g', '0', '0', '9', '5', '0', '/', 'l', 'a', 'w', 's', '.', 'F', 'n', 'P', 'a', 'c', 'k', ' ', 'l', 'o', 'o', 'p', '.', 'e', 'x', 'a', 'm', 'p', 'l', 'e', '/', 'g', '0', '0', '9', '5', '0', '/', 'l', 'a', 'w', 's', '.', 'F', 'n', 'E', 'x', 'a', 'c', 't', 'W', 'a', 'l', 'k', 'O', 'k', ' ', 'l', 'o', 'o', 'p', '.', 'e', 'x', 'a', 'm', 'p', 'l', 'e', '/', 'g', '0', '0', '9', '5', '0', '/', 'l', 'a', 'w', 's', '.', 'F', 'n', 'T', 'u', 'r', 'n', 's', ' ', 'l', 'o', 'o', 'p', '.', 'e', 'x', 'a', 'm', 'p', 'l', 'e', '/', 'g', '0', '0', '9', '5', '0', '/', 'l', 'a', 'w', 's', '.', 'F', 'n', 'E', 'x', 'a', 'c', 't', 'S', 'h', 'o', 'w', 'D', 'e', 'l', 't', 'a', ' ', 'l', 'o', 'o', 'p', '.', 'e', 'x', 'a', 'm', 'p', 'l', 'e', '/', 'g', '0', '0', '9', '5', '0', '/', 'l', 'a', 'w', 's', '.', 'F', 'n', 'S', 'l', 'o', 't', 's', ' ', 'l', 'o', 'o', 'p', '.', 'e', 'x', 'a', 'm', 'p', 'l', 'e', '/', 'g', '0', '0', '9', '5', '0', '/', 'l', 'a', 'w', 's', '.', 'F', 'n', 'E', 'x', 'a', 'c', 't', 'L', 'i', 'n', 'k', 'S', 'u', 'm', ' ', 'l', 'o', 'o', 'p', '.', 'e', 'x', 'a', 'm', 'p', 'l', 'e', '/', 'g', '0', '0', '9', '5', '0', '/', 'l', 'a', 'w', 's', '.', 'F', 'n', 'E', 'x', 'a', 'c', 't', 'R', 'e', 'k', 'e', 'y', 'O', 'k', ' ', 'l', 'o', 'o', 'p', '.', 'e', 'x', 'a', 'm', 'p', 'l', 'e', '/', 'g', '0', '0', '9', '5', '0', '/', 'l', 'a', 'w', 's', '.', 'F', 'n', 'E', 'x', 'a', 'c', 't', 'R', 'e', 'k', 'e', 'y', 'K', 'e', 'y', ' ', 'l', 'o', 'o', 'p', '.', 'e', 'x', 'a', 'm', 'p', 'l', 'e', '/', 'g', '0', '0', '9', '5', '0', '/', 'l', 'a', 'w', 's', '.', 'F', 'n', 'E', 'x', 'a', 'c', 't', 'R', 'e', 'a', 'd', 'D', 'e', 'l', 't', 'a', ' ', 'l', 'o', 'o', 'p', '.', 'e', 'x', 'a', 'm', 'p', 'l', 'e', '/', 'g', '0', '0', '9', '5', '0', '/', 'l', 'a', 'w', 's', '.', 'F', 'n', 'E', 'x', 'a', 'c', 't', 'A', 'p', 'p', 'l', 'y', 'D', 'e', 'l', 't', 'a', ' ', 'l', 'o', 'o', 'p', '.', 'e', 'x', 'a', 'm', 'p', 'l', 'e', '/', 'g', '0', '0', '9', '5', '0', '/', 'l', 'a', 'w', 's', '.', 'F', 'n', 'E', 'x', 'a', 'c', 't', 'R', 'e', 'k', 'e', 'y', 'E', 'n', 'd', ' ', 'l', 'o', 'o', 'p', '.', 'e', 'x', 'a', 'm', 'p', 'l', 'e', '/', 'g', '0', '0', '9', '5', '0', '/', 'l', 'a', 'w', 's', '.', 'F', 'n', 'E', 'x', 'a', 'c', 't', 'R', 'e', 'k', 'e', 'y', 'S', 't', 'e', 'p', ' ', 'l', 'o', 'o', 'p', '.', 'e', 'x', 'a', 'm', 'p', 'l', 'e', '/', 'g', '0', '0', '9', '5', '0', '/', 'l', 'a', 'w', 's', '.', 'F', 'n', 'R', 'e', 'k', 'e', 'y', ' ', 'l', 'o', 'o', 'p', '.', 'e', 'x', 'a', 'm', 'p', 'l', 'e', '/', 'g', '0', '0', '9', '5', '0', '/', 'l', 'a', 'w', 's', '.', 'F', 'n', 'E', 'x', 'a', 'c', 't', 'C', 'h', 'a', 'i', 'n', 'A', 'd', 'd', ' ', 'l', 'o', 'o', 'p', '.', 'e', 'x', 'a', 'm', 'p', 'l', 'e', '/', 'g', '0', '0', '9', '5', '0', '/', 'l', 'a', 'w', 's', '.', 'F', 'n', 'E', 'x', 'a', 'c', 't', 'C', 'h', 'a', 'i', 'n', 'S', 'i', 'n', 'c', 'e', ' ', 'l', 'o', 'o', 'p', '.', 'e', 'x', 'a', 'm', 'p', 'l', 'e', '/', 'g', '0', '0', '9', '5', '0', '/', 'l', 'a', 'w', 's', '.', 'F', 'n', 'E', 'x', 'a', 'c', 't', 'J', 'o', 'i', 'n', 'D', 'e', 'l', 't', 'a']
theorem io : Try.prog.initOrder.toList = ioL := by
  show (String.ofList ioL).toList = ioL
  exact String.toList_ofList
def ioR : List (List Char) := [['a', 't'], ['l', 'o', 'o', 'p', '.', 'e', 'x', 'a', 'm', 'p', 'l', 'e', '/', 'g', '0', '0', '9', '5', '0', '/', 'l', 'a', 'w', 's', '.', 'F', 'n', 'E', 'x', 'a', 'c', 't', 'U', 'n', 'p', 'a', 'c', 'k'], ['l', 'o', 'o', 'p', '.', 'e', 'x', 'a', 'm', 'p', 'l', 'e', '/', 'g', '0', '0', '9', '5', '0', '/', 'l', 'a', 'w', 's', '.', 'F', 'n', 'C', 'a', 'c', 'h', 'e'], ['l', 'o', 'o', 'p', '.', 'e', 'x', 'a', 'm', 'p', 'l', 'e', '/', 'g', '0', '0', '9', '5', '0', '/', 'l', 'a', 'w', 's', '.', 'F', 'n', 'P', 'a', 'c', 'k'], ['l', 'o', 'o', 'p', '.', 'e', 'x', 'a', 'm', 'p', 'l', 'e', '/', 'g', '0', '0', '9', '5', '0', '/', 'l', 'a', 'w', 's', '.', 'F', 'n', 'E', 'x', 'a', 'c', 't', 'W', 'a', 'l', 'k', 'O', 'k'], ['l', 'o', 'o', 'p', '.', 'e', 'x', 'a', 'm', 'p', 'l', 'e', '/', 'g', '0', '0', '9', '5', '0', '/', 'l', 'a', 'w', 's', '.', 'F', 'n', 'T', 'u', 'r', 'n', 's'], ['l', 'o', 'o', 'p', '.', 'e', 'x', 'a', 'm', 'p', 'l', 'e', '/', 'g', '0', '0', '9', '5', '0', '/', 'l', 'a', 'w', 's', '.', 'F', 'n', 'E', 'x', 'a', 'c', 't', 'S', 'h', 'o', 'w', 'D', 'e', 'l', 't', 'a'], ['l', 'o', 'o', 'p', '.', 'e', 'x', 'a', 'm', 'p', 'l', 'e', '/', 'g', '0', '0', '9', '5', '0', '/', 'l', 'a', 'w', 's', '.', 'F', 'n', 'S', 'l', 'o', 't', 's'], ['l', 'o', 'o', 'p', '.', 'e', 'x', 'a', 'm', 'p', 'l', 'e', '/', 'g', '0', '0', '9', '5', '0', '/', 'l', 'a', 'w', 's', '.', 'F', 'n', 'E', 'x', 'a', 'c', 't', 'L', 'i', 'n', 'k', 'S', 'u', 'm'], ['l', 'o', 'o', 'p', '.', 'e', 'x', 'a', 'm', 'p', 'l', 'e', '/', 'g', '0', '0', '9', '5', '0', '/', 'l', 'a', 'w', 's', '.', 'F', 'n', 'E', 'x', 'a', 'c', 't', 'R', 'e', 'k', 'e', 'y', 'O', 'k'], ['l', 'o', 'o', 'p', '.', 'e', 'x', 'a', 'm', 'p', 'l', 'e', '/', 'g', '0', '0', '9', '5', '0', '/', 'l', 'a', 'w', 's', '.', 'F', 'n', 'E', 'x', 'a', 'c', 't', 'R', 'e', 'k', 'e', 'y', 'K', 'e', 'y'], ['l', 'o', 'o', 'p', '.', 'e', 'x', 'a', 'm', 'p', 'l', 'e', '/', 'g', '0', '0', '9', '5', '0', '/', 'l', 'a', 'w', 's', '.', 'F', 'n', 'E', 'x', 'a', 'c', 't', 'R', 'e', 'a', 'd', 'D', 'e', 'l', 't', 'a'], ['l', 'o', 'o', 'p', '.', 'e', 'x', 'a', 'm', 'p', 'l', 'e', '/', 'g', '0', '0', '9', '5', '0', '/', 'l', 'a', 'w', 's', '.', 'F', 'n', 'E', 'x', 'a', 'c', 't', 'A', 'p', 'p', 'l', 'y', 'D', 'e', 'l', 't', 'a'], ['l', 'o', 'o', 'p', '.', 'e', 'x', 'a', 'm', 'p', 'l', 'e', '/', 'g', '0', '0', '9', '5', '0', '/', 'l', 'a', 'w', 's', '.', 'F', 'n', 'E', 'x', 'a', 'c', 't', 'R', 'e', 'k', 'e', 'y', 'E', 'n', 'd'], ['l', 'o', 'o', 'p', '.', 'e', 'x', 'a', 'm', 'p', 'l', 'e', '/', 'g', '0', '0', '9', '5', '0', '/', 'l', 'a', 'w', 's', '.', 'F', 'n', 'E', 'x', 'a', 'c', 't', 'R', 'e', 'k', 'e', 'y', 'S', 't', 'e', 'p'], ['l', 'o', 'o', 'p', '.', 'e', 'x', 'a', 'm', 'p', 'l', 'e', '/', 'g', '0', '0', '9', '5', '0', '/', 'l', 'a', 'w', 's', '.', 'F', 'n', 'R', 'e', 'k', 'e', 'y'], ['l', 'o', 'o', 'p', '.', 'e', 'x', 'a', 'm', 'p', 'l', 'e', '/', 'g', '0', '0', '9', '5', '0', '/', 'l', 'a', 'w', 's', '.', 'F', 'n', 'E', 'x', 'a', 'c', 't', 'C', 'h', 'a', 'i', 'n', 'A', 'd', 'd'], ['l', 'o', 'o', 'p', '.', 'e', 'x', 'a', 'm', 'p', 'l', 'e', '/', 'g', '0', '0', '9', '5', '0', '/', 'l', 'a', 'w', 's', '.', 'F', 'n', 'E', 'x', 'a', 'c', 't', 'C', 'h', 'a', 'i', 'n', 'S', 'i', 'n', 'c', 'e'], ['l', 'o', 'o', 'p', '.', 'e', 'x', 'a', 'm', 'p', 'l', 'e', '/', 'g', '0', '0', '9', '5', '0', '/', 'l', 'a', 'w', 's', '.', 'F', 'n', 'E', 'x', 'a', 'c', 't', 'J', 'o', 'i', 'n', 'D', 'e', 'l', 't', 'a']]
theorem words : behindMainWord (wordsSigns Try.prog.initOrder.toList) = ['c', 'u', 't'] :: ioR := by
  rw [io]; kernel_rfl
theorem jLater : Try.prog.laysLater = false := by kernel_rfl
theorem jRefl : Try.prog.bearsReflect = false := by kernel_rfl
theorem jDoor : Try.prog.doorFits [] = true := by kernel_rfl
theorem jEnter : Try.prog.mayEnter = true := enter_cut _ _ words jLater jRefl jDoor
theorem jFinal : Try.prog.liftsFinal = false := final_cut _ _ words
theorem jMake : Try.prog.make = some .cut := make_cut _ _ words
end Go.Proofs.Ytfcnimglcialbaa
