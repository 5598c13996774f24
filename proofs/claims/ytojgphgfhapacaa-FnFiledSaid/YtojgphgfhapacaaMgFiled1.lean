/- Texts of this claim, one behind the other: BfCRow, FlCRow, BtCache, BfKV, FlKV, BtDelta, Dlt, Cch, Eng14, FsK, FsO, ElFFile, ElStr, Eng12, Cag, Cgt, Bld, Eng15, FsE, FsC, FsG, FsM. -/
import Derived.Test.YtojgphgfhapacaaMt
import Derived.Test.YtojgphgfhapacaaFgt0
import Derived.Test.YtojgphgfhapacaaBfStr
import Derived.Test.YtojgphgfhapacaaFlStr
import Derived.Lib.Bytealg
import Derived.Laws.Externs
import Derived.Test.YtojgphgfhapacaaEng10
import Derived.Test.YtojgphgfhapacaaCln
import Derived.Test.YtojgphgfhapacaaEng11
import Derived.Test.YtojgphgfhapacaaNst
import Derived.Test.YtojgphgfhapacaaFitP
import Derived.Test.YtojgphgfhapacaaBtFStore
import Derived.Test.YtojgphgfhapacaaZer
import Derived.Test.YtojgphgfhapacaaRds
import Derived.Test.YtojgphgfhapacaaBnFFile
import Derived.Laws.IdiomStrings
import Derived.Lib.AppendStr
import Derived.Test.YtojgphgfhapacaaShf
import Derived.Test.YtojgphgfhapacaaTab
import Derived.Test.YtojgphgfhapacaaRv
/- CRow: rows of it: size, copy, comparison, marks. -/
namespace Go.Proofs.Ytojgphgfhapacaa
open Go.RowKit
set_option maxHeartbeats 2000000
set_option maxRecDepth 20000
set_option linter.unusedVariables false
set_option linter.unusedSimpArgs false
attribute [local irreducible] Calls
structure CRow where
  tenant : Int
  no : Int
  text : ByteArray
  deriving DecidableEq
instance : Dat CRow := ⟨3, fun x => [.int .i64 x.tenant, .int .i64 x.no, .string x.text], fun _ => rfl, ⟨0, 0, ⟨#[]⟩⟩⟩
instance : Mk CRow := ⟨3, fun q => ⟨q, q + 1, mT (q + 1 + 1)⟩⟩
def wtCRow (x : CRow) : Prop := x.text.size ≤ 1048576
def bigCRow (x : CRow) : Prop := x.text.size ≤ maxLen
end Go.Proofs.Ytojgphgfhapacaa
/- The record CRow by its type. -/
namespace Go.Proofs.Ytojgphgfhapacaa
open Go.RowKit
set_option linter.unusedVariables false
set_option linter.unusedSimpArgs false
abbrev gCRow : GT := .st [.int, .int, .str]
theorem flatCRow : FlatAt gCRow (α := CRow) (fun x => ⟨x.1, x.2.1, x.2.2.1⟩) bigCRow := fun w x c h => by
  obtain ⟨a0, a1, a2, u⟩ := x
  obtain ⟨c0, d0, rfl, h0, e0⟩ := RdTL.cons.1 (RdT.st.1 h)
  obtain ⟨c1, d1, rfl, h1, e1⟩ := RdTL.cons.1 e0
  obtain ⟨c2, d2, rfl, h2, e2⟩ := RdTL.cons.1 e1
  rw [RdTL.nil] at e2; subst e2
  obtain ⟨rfl, b0⟩ := RdT.int.1 h0
  obtain ⟨rfl, b1⟩ := RdT.int.1 h1
  obtain ⟨rfl, b2⟩ := RdT.str.1 h2
  exact ⟨rfl, b2⟩
end Go.Proofs.Ytojgphgfhapacaa
/- Cache in the uniform style: size, copy, comparison, marks. -/
namespace Go.Proofs.Ytojgphgfhapacaa
open Go.RowKit
set_option maxHeartbeats 4000000
set_option maxRecDepth 20000
set_option linter.unusedVariables false
set_option linter.unusedSimpArgs false
attribute [local irreducible] Calls
structure DCache where
  cap : Int
  R : List CRow
  deriving DecidableEq
def Cache_val (x : DCache) (y : Ys) : Value := .agg #[.int .i64 x.cap, .slice (y 0).A x.R.length (y 0).c]
def Cache_rd (w : World) (x : DCache) (y : Ys) : Prop := Rd w (y 0).A (fl x.R)
def Cache_big (x : DCache) : Prop := (x.R.length ≤ maxLen ∧ ∀ u ∈ x.R, bigCRow u)
def Cache_sm (x : DCache) : Prop := (x.R.length ≤ 1048576 ∧ ∀ u ∈ x.R, wtCRow u)
def Cache_lim (x : DCache) : Prop := x.R.length ≤ 4194304
def Cache_cnt (x : DCache) (k : Int) : Int := (k + 3 * (x.R.length : Int))
def Cache_mk (k : Int) (x : DCache) : DCache := { x with R := mkL k x.R.length }
theorem Cache_cnt_le (x : DCache) (k : Int) (h : Cache_lim x) : k ≤ Cache_cnt x k ∧ Cache_cnt x k ≤ k + 12582912 := by
  unfold Cache_lim at h; unfold Cache_cnt; omega
theorem Cache_sm_lim {x : DCache} (h : Cache_sm x) : Cache_lim x := by
  unfold Cache_sm at h; unfold Cache_lim; have := h.1; omega
theorem Cache_rf {m w w0 : World} {base : Nat} {H : List HObj} {G : List World} {x : DCache} {y : Ys} (h : Cache_rd m x y) (hm : m ∈ G) (hw : WOk base w0 H G w) : Cache_rd w x y := hw.keep h hm
end Go.Proofs.Ytojgphgfhapacaa
/- KV: rows of it: size, copy, comparison, marks. -/
namespace Go.Proofs.Ytojgphgfhapacaa
open Go.RowKit
set_option maxHeartbeats 2000000
set_option maxRecDepth 20000
set_option linter.unusedVariables false
set_option linter.unusedSimpArgs false
attribute [local irreducible] Calls
structure KV where
  key : ByteArray
  val : ByteArray
  deriving DecidableEq
instance : Dat KV := ⟨2, fun x => [.string x.key, .string x.val], fun _ => rfl, ⟨⟨#[]⟩, ⟨#[]⟩⟩⟩
instance : Mk KV := ⟨2, fun q => ⟨mT (q), mT (q + 1)⟩⟩
def wtKV (x : KV) : Prop := x.key.size ≤ 1048576 ∧ x.val.size ≤ 1048576
def bigKV (x : KV) : Prop := x.key.size ≤ maxLen ∧ x.val.size ≤ maxLen
end Go.Proofs.Ytojgphgfhapacaa
/- The record KV by its type. -/
namespace Go.Proofs.Ytojgphgfhapacaa
open Go.RowKit
set_option linter.unusedVariables false
set_option linter.unusedSimpArgs false
abbrev gKV : GT := .st [.str, .str]
theorem flatKV : FlatAt gKV (α := KV) (fun x => ⟨x.1, x.2.1⟩) bigKV := fun w x c h => by
  obtain ⟨a0, a1, u⟩ := x
  obtain ⟨c0, d0, rfl, h0, e0⟩ := RdTL.cons.1 (RdT.st.1 h)
  obtain ⟨c1, d1, rfl, h1, e1⟩ := RdTL.cons.1 e0
  rw [RdTL.nil] at e1; subst e1
  obtain ⟨rfl, b0⟩ := RdT.str.1 h0
  obtain ⟨rfl, b1⟩ := RdT.str.1 h1
  exact ⟨rfl, b0, b1⟩
end Go.Proofs.Ytojgphgfhapacaa
/- Delta in the uniform style: size, copy, comparison, marks. -/
namespace Go.Proofs.Ytojgphgfhapacaa
open Go.RowKit
set_option maxHeartbeats 4000000
set_option maxRecDepth 20000
set_option linter.unusedVariables false
set_option linter.unusedSimpArgs false
attribute [local irreducible] Calls
structure DDelta where
  U : List KV
  D : List ByteArray
  deriving DecidableEq
def Delta_val (x : DDelta) (y : Ys) : Value := .agg #[.slice (y 0).A x.U.length (y 0).c, .slice (y 1).A x.D.length (y 1).c]
def Delta_rd (w : World) (x : DDelta) (y : Ys) : Prop := Rd w (y 0).A (fl x.U) ∧ Rd w (y 1).A (fl x.D)
def Delta_big (x : DDelta) : Prop := (x.U.length ≤ maxLen ∧ ∀ u ∈ x.U, bigKV u) ∧ (x.D.length ≤ maxLen ∧ ∀ u ∈ x.D, bigStr u)
def Delta_sm (x : DDelta) : Prop := (x.U.length ≤ 1048576 ∧ ∀ u ∈ x.U, wtKV u) ∧ (x.D.length ≤ 1048576 ∧ ∀ u ∈ x.D, wtStr u)
def Delta_lim (x : DDelta) : Prop := x.U.length ≤ 4194304 ∧ x.D.length ≤ 4194304
def Delta_cnt (x : DDelta) (k : Int) : Int := ((k + 2 * (x.U.length : Int)) + 1 * (x.D.length : Int))
def Delta_mk (k : Int) (x : DDelta) : DDelta := { x with U := mkL k x.U.length, D := mkL (k + 2 * (x.U.length : Int)) x.D.length }
theorem Delta_cnt_le (x : DDelta) (k : Int) (h : Delta_lim x) : k ≤ Delta_cnt x k ∧ Delta_cnt x k ≤ k + 12582912 := by
  unfold Delta_lim at h; unfold Delta_cnt; omega
theorem Delta_sm_lim {x : DDelta} (h : Delta_sm x) : Delta_lim x := by
  unfold Delta_sm at h; unfold Delta_lim; exact ⟨by have := h.1.1; omega, by have := h.2.1; omega⟩
theorem Delta_rf {m w w0 : World} {base : Nat} {H : List HObj} {G : List World} {x : DDelta} {y : Ys} (h : Delta_rd m x y) (hm : m ∈ G) (hw : WOk base w0 H G w) : Delta_rd w x y := ⟨hw.keep (h.1) hm, hw.keep (h.2) hm⟩
end Go.Proofs.Ytojgphgfhapacaa
/- Keys, maps, differences: MapOk, findKey, DeltaOk of both programs. -/
namespace Go.Proofs.Ytojgphgfhapacaa
open Go.RowKit
set_option maxHeartbeats 4000000
set_option maxRecDepth 20000
set_option linter.unusedVariables false
set_option linter.unusedSimpArgs false
theorem xs_in (x a b : Int) (w : World) : Calls Try.prog 28 #[.int .i64 x, .int .i64 a, .int .i64 b] w fun e w' => e = .returned (.bool (inB x a b)) ∧ Below w.heap.size w w' := by
  refine ok_enter 15 Try.func28 rfl rfl rfl ?_
  repeat' (first
    | refine ok_seq ?_
    | refine ok_then ?_
    | refine ok_ret ?_
    | (refine ok_region (i := 0) ?_; refine ok_p rfl rfl rfl (by exact ps_assign rfl rfl) ?_; refine ok_nil ?_; refine ok_env [(0, _), (1, _), (2, _)] ⟨rfl, rfl, rfl, trivial⟩ ?_)
    | (refine ok_region (i := 1) ?_; refine ok_p rfl rfl rfl (by exact ps_move rfl rfl) ?_; refine ok_p rfl rfl rfl (by exact ps_move rfl rfl) ?_; refine ok_p rfl rfl rfl (by exact ps_int rfl rfl rfl rfl) ?_; refine ok_p rfl rfl rfl (by exact ps_move rfl rfl) ?_; refine ok_pg rfl rfl rfl rfl rfl (gT _) (fun hp => by (have hpd := hp; (try simp only [decide_eq_true_eq, decide_eq_false_iff_not, Bool.or_eq_true, Bool.or_eq_false_iff, Bool.and_eq_true, Bool.and_eq_false_iff, Bool.not_eq_true', Bool.not_eq_false', bne_iff_ne, beq_iff_eq, bne_eq_false_iff_eq, beq_eq_false_iff_ne, ne_eq, Bool.not_true, Bool.not_false, Bool.false_eq_true, Bool.true_eq_false, inB_true, inB_false] at hpd); exact ps_move rfl (by exact rfl))) ?_; refine ok_pg rfl rfl rfl rfl rfl (gT _) (fun hp => by (have hpd := hp; (try simp only [decide_eq_true_eq, decide_eq_false_iff_not, Bool.or_eq_true, Bool.or_eq_false_iff, Bool.and_eq_true, Bool.and_eq_false_iff, Bool.not_eq_true', Bool.not_eq_false', bne_iff_ne, beq_iff_eq, bne_eq_false_iff_eq, beq_eq_false_iff_ne, ne_eq, Bool.not_true, Bool.not_false, Bool.false_eq_true, Bool.true_eq_false, inB_true, inB_false] at hpd); exact ps_move rfl (by exact rfl))) ?_; refine ok_pg rfl rfl rfl rfl rfl (gT _) (fun hp => by (have hpd := hp; (try simp only [decide_eq_true_eq, decide_eq_false_iff_not, Bool.or_eq_true, Bool.or_eq_false_iff, Bool.and_eq_true, Bool.and_eq_false_iff, Bool.not_eq_true', Bool.not_eq_false', bne_iff_ne, beq_iff_eq, bne_eq_false_iff_eq, beq_eq_false_iff_ne, ne_eq, Bool.not_true, Bool.not_false, Bool.false_eq_true, Bool.true_eq_false, inB_true, inB_false] at hpd); exact ps_int rfl (by (refine og rfl ?_; assumption)) (by (refine og rfl ?_; assumption)) rfl)) ?_; refine ok_p rfl rfl rfl (by exact ps_and rfl rfl rfl) ?_; refine ok_p rfl rfl rfl (by exact ps_assign rfl rfl) ?_; refine ok_nil ?_; refine ok_env [(6, _)] ⟨rfl, trivial⟩ ?_))
  exact ok_endL (vs := [_]) rfl ⟨rfl, trivial⟩ (fun w hw => ⟨rfl, hw.below⟩)
theorem xi_in (x a b : Int) (w : World) : Calls Try.prog 42 #[.int .i64 x, .int .i64 a, .int .i64 b] w fun e w' => e = .returned (.bool (inB x a b)) ∧ Below w.heap.size w w' := by
  refine ok_enter 15 Try.func42 rfl rfl rfl ?_
  repeat' (first
    | refine ok_seq ?_
    | refine ok_then ?_
    | refine ok_ret ?_
    | (refine ok_region (i := 0) ?_; refine ok_p rfl rfl rfl (by exact ps_assign rfl rfl) ?_; refine ok_nil ?_; refine ok_env [(0, _), (1, _), (2, _)] ⟨rfl, rfl, rfl, trivial⟩ ?_)
    | (refine ok_region (i := 1) ?_; refine ok_p rfl rfl rfl (by exact ps_move rfl rfl) ?_; refine ok_p rfl rfl rfl (by exact ps_move rfl rfl) ?_; refine ok_p rfl rfl rfl (by exact ps_int rfl rfl rfl rfl) ?_; refine ok_p rfl rfl rfl (by exact ps_move rfl rfl) ?_; refine ok_pg rfl rfl rfl rfl rfl (gT _) (fun hp => by (have hpd := hp; (try simp only [decide_eq_true_eq, decide_eq_false_iff_not, Bool.or_eq_true, Bool.or_eq_false_iff, Bool.and_eq_true, Bool.and_eq_false_iff, Bool.not_eq_true', Bool.not_eq_false', bne_iff_ne, beq_iff_eq, bne_eq_false_iff_eq, beq_eq_false_iff_ne, ne_eq, Bool.not_true, Bool.not_false, Bool.false_eq_true, Bool.true_eq_false, inB_true, inB_false] at hpd); exact ps_move rfl (by exact rfl))) ?_; refine ok_pg rfl rfl rfl rfl rfl (gT _) (fun hp => by (have hpd := hp; (try simp only [decide_eq_true_eq, decide_eq_false_iff_not, Bool.or_eq_true, Bool.or_eq_false_iff, Bool.and_eq_true, Bool.and_eq_false_iff, Bool.not_eq_true', Bool.not_eq_false', bne_iff_ne, beq_iff_eq, bne_eq_false_iff_eq, beq_eq_false_iff_ne, ne_eq, Bool.not_true, Bool.not_false, Bool.false_eq_true, Bool.true_eq_false, inB_true, inB_false] at hpd); exact ps_move rfl (by exact rfl))) ?_; refine ok_pg rfl rfl rfl rfl rfl (gT _) (fun hp => by (have hpd := hp; (try simp only [decide_eq_true_eq, decide_eq_false_iff_not, Bool.or_eq_true, Bool.or_eq_false_iff, Bool.and_eq_true, Bool.and_eq_false_iff, Bool.not_eq_true', Bool.not_eq_false', bne_iff_ne, beq_iff_eq, bne_eq_false_iff_eq, beq_eq_false_iff_ne, ne_eq, Bool.not_true, Bool.not_false, Bool.false_eq_true, Bool.true_eq_false, inB_true, inB_false] at hpd); exact ps_int rfl (by (refine og rfl ?_; assumption)) (by (refine og rfl ?_; assumption)) rfl)) ?_; refine ok_p rfl rfl rfl (by exact ps_and rfl rfl rfl) ?_; refine ok_p rfl rfl rfl (by exact ps_assign rfl rfl) ?_; refine ok_nil ?_; refine ok_env [(6, _)] ⟨rfl, trivial⟩ ?_))
  exact ok_endL (vs := [_]) rfl ⟨rfl, trivial⟩ (fun w hw => ⟨rfl, hw.below⟩)
/-- The order of strings as a number. -/
def cmpS (a b : ByteArray) : Int := Lib.compareBytes a.data.toList b.data.toList
theorem cmpB_facts : ∀ a b : List UInt8, decide (Lib.compareBytes a b < 0) = Op.bytesLess a b ∧ ((Lib.compareBytes a b == 0) = (a == b))
  | [], [] => by simp [Lib.compareBytes, Op.bytesLess]
  | [], _ :: _ => by simp [Lib.compareBytes, Op.bytesLess]
  | _ :: _, [] => by simp [Lib.compareBytes, Op.bytesLess]
  | a :: x, b :: y => by
    obtain ⟨h1, h2⟩ := cmpB_facts x y
    simp only [Lib.compareBytes, Op.bytesLess]
    by_cases h : a < b
    · have hne : ¬ a = b := fun e => by subst e; exact absurd h (UInt8.lt_irrefl a)
      simp [h, hne]
    · by_cases h' : b < a
      · have hne : ¬ a = b := fun e => by subst e; exact absurd h' (UInt8.lt_irrefl a)
        simp [h, h', hne]
      · have he : a = b := UInt8.le_antisymm (UInt8.not_lt.1 h') (UInt8.not_lt.1 h)
        subst he
        simp [h, h1, h2]
theorem cmpS_lt (a b : ByteArray) : decide (cmpS a b < 0) = sLt a b := by
  unfold cmpS sLt
  rw [(cmpB_facts _ _).1]; simp [ByteArray.toList_eq]
theorem cmpS_eq (a b : ByteArray) : (cmpS a b == 0) = sEq a b := by
  unfold cmpS sEq
  rw [(cmpB_facts _ _).2]; simp [ByteArray.toList_eq]
def kk (s : ByteArray) : Bool := inB s.size 1 10
def okM (l : List KV) (i : Nat) : Bool := !(!kk (nth l i).key || decide (16 < ((nth l i).val.size : Int)) || (decide (0 < (i : Int)) && !sLt (nth l (i - 1)).key (nth l i).key))
theorem tn1 (k : Nat) : ((k : Int) - 1).toNat = k - 1 := by omega
def mapOk (l : List KV) : Bool := (List.range l.length).all (okM l)
theorem all_false {p : Nat → Bool} {n i : Nat} (h : i < n) (hp : p i = false) : (List.range n).all p = false := by
  rw [List.all_eq_false]; exact ⟨i, by simpa using h, by simp [hp]⟩
theorem all_true {p : Nat → Bool} {n : Nat} (h : ∀ i, i < n → p i = true) : (List.range n).all p = true := by
  rw [List.all_eq_true]; intro i hi; exact h i (by simpa using hi)
theorem okM_spec (l : List KV) (k : Nat) : okM l k = !(!(kk (nth l k).key && decide (((nth l k).val.size : Int) ≤ 16) && (!false || sEq (nth l k).val ⟨#[]⟩)) || decide (0 < (k : Int)) && !sLt (nth l (k - 1)).key (nth l k).key) := by
  unfold okM
  have e : decide (16 < ((nth l k).val.size : Int)) = !decide (((nth l k).val.size : Int) ≤ 16) := by
    rw [← decide_not]; congr 1; simp
  rw [e]
  cases kk (nth l k).key <;> cases decide (((nth l k).val.size : Int) ≤ 16) <;> simp
/-- The place of a key; -1 where it is not there. -/
def atK (l : List KV) (k : ByteArray) : Nat → Nat → Int
  | 0, _ => -1
  | f + 1, i => if sEq (nth l i).key k = true then (i : Int) else atK l k f (i + 1)
end Go.Proofs.Ytojgphgfhapacaa
/- Finding and deleting in a row by a function; cache rows. -/
namespace Go.Proofs.Ytojgphgfhapacaa
open Go.RowKit
set_option maxHeartbeats 4000000
set_option maxRecDepth 20000
set_option linter.unusedVariables false
set_option linter.unusedSimpArgs false
/-- The first index at which a test holds; -1 where none does. -/
def ixF {α : Type} [Dat α] (p : α → Bool) (l : List α) : Nat → Nat → Int
  | 0, _ => -1
  | f + 1, k => bif p (nth l k) then (k : Int) else ixF p l f (k + 1)
def ixP {α : Type} [Dat α] (p : α → Bool) (l : List α) : Int := ixF p l l.length 0
theorem ixF_or {α : Type} [Dat α] (p : α → Bool) (l : List α) : ∀ f k, (ixF p l f k = -1 ∧ ∀ j, k ≤ j → j < k + f → p (nth l j) = false) ∨ (∃ i : Nat, ixF p l f k = i ∧ k ≤ i ∧ i < k + f ∧ p (nth l i) = true ∧ ∀ j, k ≤ j → j < i → p (nth l j) = false)
  | 0, k => .inl ⟨rfl, fun j a b => by omega⟩
  | f + 1, k => by
    unfold ixF
    cases h : p (nth l k) with
    | true => exact .inr ⟨k, rfl, by omega, by omega, h, fun j a b => by omega⟩
    | false =>
      rcases ixF_or p l f (k + 1) with ⟨a, b⟩ | ⟨i, a, b, c, d, e⟩
      · refine .inl ⟨a, fun j h1 h2 => ?_⟩
        rcases Nat.eq_or_lt_of_le h1 with rfl | h3
        · exact h
        · exact b j h3 (by omega)
      · refine .inr ⟨i, a, by omega, by omega, d, fun j h1 h2 => ?_⟩
        rcases Nat.eq_or_lt_of_le h1 with rfl | h3
        · exact h
        · exact e j h3 h2
theorem ixP_or {α : Type} [Dat α] (p : α → Bool) (l : List α) : (ixP p l = -1 ∧ ∀ j, j < l.length → p (nth l j) = false) ∨ (∃ i : Nat, ixP p l = i ∧ i < l.length ∧ p (nth l i) = true ∧ ∀ j, j < i → p (nth l j) = false) := by
  rcases ixF_or p l l.length 0 with ⟨a, b⟩ | ⟨i, a, b, c, d, e⟩
  · exact .inl ⟨a, fun j h => b j (by omega) (by omega)⟩
  · exact .inr ⟨i, a, by omega, d, fun j h => e j (by omega) h⟩
theorem ixF_step {α : Type} [Dat α] {p : α → Bool} {l : List α} {k : Nat} (h : k < l.length) : ixF p l (l.length - k) k = bif p (nth l k) then (k : Int) else ixF p l (l.length - (k + 1)) (k + 1) := by
  rw [show l.length - k = (l.length - (k + 1)) + 1 by omega, ixF]
section
variable {P : Program} {E : Env} {H : List HObj} {G : List World} {o : Oper}
theorem add_zero_all (A : Option Addr) (k : Nat) : A.map (·.add (0 * k)) = A := by
  cases A <;> simp [Addr.add]
theorem ps_slice0 {x : Operand} {hi : Operand} {t e sz bytes : TypeId} {A : Option Addr} {n c : Nat} {h : Nat} {z : Int} {k : IntKind} [ht : EL P t e sz bytes] (ho : o.op = .slice t x none (some hi) none) (hx : opd E x = some (.slice A n c))
    (hhi : opd E hi = some (.int k z)) (hz : z = (h : Int)) (h2 : h ≤ c) : PStep P E H G o (.slice A h c) := by
  subst hz
  have := ps_slice (P := P) (E := E) (H := H) (G := G) (l := 0) (h := h) ho hx rfl ⟨k, hhi⟩ (by omega) h2
  rw [add_zero_all] at this
  simpa using this
theorem ps_sliceE {x : Operand} {lo : Operand} {t e sz bytes : TypeId} {A : Option Addr} {n c : Nat} {l : Nat} {z : Int} {k : IntKind} [ht : EL P t e sz bytes] (ho : o.op = .slice t x (some lo) none none) (hx : opd E x = some (.slice A n c))
    (hlo : opd E lo = some (.int k z)) (hz : z = (l : Int)) (h1 : l ≤ n) (h2 : n ≤ c) : PStep P E H G o (.slice (if c = l then A else A.map (·.add (l * sz))) (n - l) (c - l)) := by
  subst hz
  exact ps_slice (l := l) (h := n) ho hx ⟨k, hlo⟩ rfl h1 h2
theorem ps_sliceEE {x : Operand} {lo hi : Operand} {t e sz bytes : TypeId} {A : Option Addr} {n c : Nat} {l h : Nat} {z z' : Int} {k k' : IntKind} [ht : EL P t e sz bytes] (ho : o.op = .slice t x (some lo) (some hi) none) (hx : opd E x = some (.slice A n c))
    (hlo : opd E lo = some (.int k z)) (hhi : opd E hi = some (.int k' z')) (hz : z = (l : Int)) (hz' : z' = (h : Int)) (h1 : l ≤ h) (h2 : h ≤ c) : PStep P E H G o (.slice (if c = l then A else A.map (·.add (l * sz))) (h - l) (c - l)) := by
  subst hz hz'
  exact ps_slice (l := l) (h := h) ho hx ⟨k, hlo⟩ ⟨k', hhi⟩ h1 h2
theorem fl_drop {α : Type} [Dat α] : ∀ (l : List α) (i : Nat), (fl l).drop (i * Dat.sz α) = fl (l.drop i)
  | [], i => by simp [fl]
  | x :: l, 0 => by simp [fl]
  | x :: l, i + 1 => by
    have ih := fl_drop l i
    rw [List.drop_succ_cons, fl_cons, ← ih]
    have : (i + 1) * Dat.sz α = (Dat.cells x).length + i * Dat.sz α := by rw [Dat.len, Nat.add_mul]; omega
    rw [this, List.drop_length_add_append]
theorem rds_tail {α : Type} [Dat α] {A : Option Addr} {c j sz : Nat} {L : List α} (h : Rds H G A (fl L)) (hs : Dat.sz α = sz) (hc : L.length ≤ c) (hj : j ≤ L.length) : Rds H G (if c = j then A else A.map (·.add (j * sz))) (fl (L.drop j)) := by
  by_cases h0 : c = j
  · rw [if_pos h0, List.drop_of_length_le (by omega)]
    exact fun _ _ w _ => Rd.nil w A
  · rw [if_neg h0]
    have := h.sub (i := j * sz) (n := (fl L).length)
    rw [← hs, fl_drop, List.take_of_length_le (by rw [fl_len, fl_len, List.length_drop]; exact Nat.mul_le_mul_right _ (by omega)), hs] at this
    exact this
end
theorem own_cap {w : World} {base e sz n c : Nat} {A : Option Addr} {us : List Value} (h : Own w base e sz A n c us) : n ≤ c := by
  obtain ⟨_, ⟨hA, hn⟩ | ⟨g, cap, cur, hA, _, _, hnc, _⟩⟩ := h
  · omega
  · injection hA with _ _ h3; omega
def Keeps (m w : World) : Prop := ∀ p u, m.cell? p = some u → w.cell? p = some u
theorem Rd.keeps {m w : World} {A : Option Addr} {us : List Value} (h : Rd m A us) (hk : Keeps m w) : Rd w A us := fun j u hu => by
  obtain ⟨ad, e, hc⟩ := h j u hu
  exact ⟨ad, e, hk _ _ hc⟩
theorem WOk.keeps {m w w0 : World} {base : Nat} {H : List HObj} {G : List World} (hw : WOk base w0 H G w) (hm : m ∈ G) : Keeps m w := fun p u hp => (hw.ref m hm p u hp).1
attribute [local irreducible] Calls
instance : OneC CRow := ⟨fun x u hu => by
  have : u = .int .i64 x.tenant ∨ u = .int .i64 x.no ∨ u = .string x.text := by simpa [Dat.cells] using hu
  rcases this with rfl | rfl | rfl <;> rfl⟩
/-- slices.DeleteFunc in an own row. -/
structure DelI (R : List CRow) (p : CRow → Bool) where
  i : Nat
  j : Nat
  L : List CRow
  hl : L.length = R.length
  hi : L.take i = (R.take j).filter (fun x => !p x)
  hil : i = ((R.take j).filter (fun x => !p x)).length
  hd : L.drop j = R.drop j
  hj : j ≤ R.length
theorem DelI.le {R : List CRow} {p : CRow → Bool} (q : DelI R p) : q.i ≤ q.j := by
  have h1 := q.hil
  have h2 := List.length_filter_le (fun x => !p x) (R.take q.j)
  rw [List.length_take] at h2
  omega
theorem takeN {R : List CRow} {j : Nat} (h : j < R.length) : R.take (j + 1) = R.take j ++ [nth R j] := by
  rw [List.take_add_one, List.getElem?_eq_getElem h]
  simp [nth, h]
theorem dropN {R : List CRow} {j : Nat} (h : j < R.length) : R.drop j = nth R j :: R.drop (j + 1) := by
  rw [List.drop_eq_getElem_cons h]
  simp [nth, h]
def DelI.keep {R : List CRow} {p : CRow → Bool} (q : DelI R p) (h : q.j < R.length) (hp : p (nth R q.j) = false) : DelI R p :=
  ⟨q.i + 1, q.j + 1, q.L.set q.i (nth R q.j), by rw [List.length_set]; exact q.hl, by
    have hle := q.le
    have hlt : q.i < q.L.length := by rw [q.hl]; omega
    rw [takeN h, List.filter_append, ← q.hi]
    simp only [List.filter_cons, hp, Bool.not_false, if_true, List.filter_nil]
    rw [List.take_add_one, List.take_set_of_le (Nat.le_refl _), List.getElem?_set_self hlt]; rfl, by
    rw [takeN h, List.filter_append, List.length_append, ← q.hil]
    simp [hp], by
    have hle := q.le
    rw [List.drop_set_of_lt (by omega)]
    have := congrArg (List.drop 1) q.hd
    simpa [List.drop_drop] using this, by omega⟩
def DelI.skip {R : List CRow} {p : CRow → Bool} (q : DelI R p) (h : q.j < R.length) (hp : p (nth R q.j) = true) : DelI R p :=
  ⟨q.i, q.j + 1, q.L, q.hl, by
    rw [takeN h, List.filter_append, ← q.hi]
    simp [hp], by
    rw [takeN h, List.filter_append, List.length_append, ← q.hil]
    simp [hp], by
    have := congrArg (List.drop 1) q.hd
    simpa [List.drop_drop] using this, by omega⟩
theorem DelI.at_ {R : List CRow} {p : CRow → Bool} (q : DelI R p) (h : q.j < R.length) : nth q.L q.j = nth R q.j := by
  have e := q.hd
  have hl := q.hl
  rw [dropN h, dropN (show q.j < q.L.length by omega)] at e
  exact (List.cons.inj e).1
theorem take_keep {R : List CRow} {p : CRow → Bool} {i : Nat} (h : i ≤ R.length) (hn : ∀ j, j < i → p (nth R j) = false) : (R.take i).filter (fun x => !p x) = R.take i := by
  rw [List.filter_eq_self]
  intro x hx
  obtain ⟨j, hj, rfl⟩ := List.getElem_of_mem hx
  rw [List.length_take] at hj
  have := hn j (by omega)
  rw [show nth R j = R[j]'(by omega) by simp [nth, show j < R.length by omega]] at this
  rw [List.getElem_take, this]; rfl
def DelI.start {R : List CRow} {p : CRow → Bool} {i : Nat} (h : i < R.length) (hp : p (nth R i) = true) (hn : ∀ j, j < i → p (nth R j) = false) : DelI R p :=
  ⟨i, i + 1, R, rfl, by
    rw [takeN h, List.filter_append, take_keep (by omega) hn]
    simp [hp], by
    rw [takeN h, List.filter_append, take_keep (by omega) hn]
    simp [hp]; omega, rfl, by omega⟩
end Go.Proofs.Ytojgphgfhapacaa
/- The engine: arrays by a number that may be negative, makers on rows of a bag, objects let go. -/
namespace Go.Proofs.Ytojgphgfhapacaa
open Go.RowKit
set_option linter.unusedVariables false
set_option linter.unusedSimpArgs false
section
variable {P : Program} {N base : Nat} {w0 : World} {E : Env} {H : List HObj} {G : List World} {Q : Exit → Act → World → Prop} {o : Oper}
theorem ps_indexAE {x y : Operand} {t n e sz k : Nat} {z : Int} {A : Option Addr} {q : IntKind} [ht : AR P t n e sz] (ho : o.op = .indexAddr t x y) (hx : opd E x = some (pt A k)) (hy : opd E y = some (.int q z)) (h : 0 ≤ z ∧ z < (n : Int)) (hA : IsSW H G A) : PStep P E H G o (pt A (k + z.toNat * sz)) := by
  obtain ⟨i, rfl⟩ : ∃ i : Nat, z = (i : Int) := ⟨z.toNat, by omega⟩
  rw [Int.toNat_natCast]
  exact ps_indexA ho hx hy (by omega) hA
/-- A maker seen with its objects in another order, before and behind. -/
theorem ms_pre {F : Ys → Prop} {v : Ys → Value} {H1 : List HObj} {G1 : List World} {H1' H' : Ys → List HObj} {G1' G' : Ys → List World} (h1 : ∀ base w0 w, WOk base w0 H G w → WOk base w0 H1 G1 w) (h : MStep P E H1 G1 o F v H1' G1') (h2 : ∀ y base w0 w, F y → WOk base w0 (H1' y) (G1' y) w → WOk base w0 (H' y) (G' y) w) : MStep P E H G o F v H' G' := fun N base w0 a w Q K he hw hK =>
  h N base w0 a w Q K he (h1 _ _ _ hw) (fun y w' hF hw' => hK y w' hF (h2 y _ _ _ hF hw'))
theorem ps_subH {H1 : List HObj} {v : Value} (h1 : ∀ base w0 w, WOk base w0 H G w → WOk base w0 H1 G w) (h : PStep P E H1 G o v) : PStep P E H G o v := fun N base w0 a w he hw => h N base w0 a w he (h1 _ _ _ hw)
/-- append to a row of a bag. -/
theorem ms_appBag {α β : Type} [Dat β] [OneC β] [In α β] {t e sz bytes c c2 n m : Nat} {A A2 : Option Addr} {x y : Operand} {R : List (Lc α)} (M : List β) (i k : Nat) (d' : α) [ht : EL P t e sz bytes] (ho : o.op = .call { callee := .builtin .append, args := #[x, y], argTypes := #[t, t] })
    (hx : opd E x = some (.slice (nth R k).A n (nth R k).c)) (hy : opd E y = some (.slice A2 m c2)) (hi : H[i]? = some (.bag e sz (rowsOf R))) (hr : Rds (H.eraseIdx i) G A2 (fl M)) (hs : Dat.sz β = sz) (hk : k < R.length) (hn : (In.inn (nth R k).d).length = n) (hm : M.length = m)
    (hd : In.inn d' = In.inn (nth R k).d ++ M) (hb : (n + m) * bytes ≤ 140737488355328) (hm2 : n + m ≤ 140737488355328) :
    MStep P E H G o (fun _ => True) (fun y => .slice (y 0).A (n + m) (y 0).c) (fun y => H.set i (.bag e sz (rowsOf (R.set k ⟨d', (y 0).A, (y 0).c⟩)))) (fun _ => G) := by
  have hil : i < H.length := (List.getElem?_eq_some_iff.1 hi).1
  refine ms_pre (H1 := .row e sz (nth R k).A (In.inn (nth R k).d).length (nth R k).c (fl (In.inn (nth R k).d)) :: .bag e sz (rowsOf (R.take k) ++ rowsOf (R.drop (k + 1))) :: H.eraseIdx i) (G1 := G) (fun _ _ _ hw => WOk.bagPull k hk (hw.front i hi)) ?_ ?_ (H1' := fun y => .row e sz (y 0).A (n + m) (y 0).c (fl (In.inn (nth R k).d ++ M)) :: .bag e sz (rowsOf (R.take k) ++ rowsOf (R.drop (k + 1))) :: H.eraseIdx i) (G1' := fun _ => G)
  · have := ms_appN (P := P) (G := G) (H := .row e sz (nth R k).A (In.inn (nth R k).d).length (nth R k).c (fl (In.inn (nth R k).d)) :: .bag e sz (rowsOf (R.take k) ++ rowsOf (R.drop (k + 1))) :: H.eraseIdx i) (In.inn (nth R k).d) M 0 ho hx hy (by rw [hn]; rfl) (fun base w0 w hw => hr base w0 w hw.tl.tl) hs hn hm hb hm2
    exact this
  · intro y base w0 w _ hw
    have h1 := WOk.bagPush k (⟨d', (y 0).A, (y 0).c⟩ : Lc α) hk (R := R) (e := e) (sz := sz) (H := H.eraseIdx i) (by
      simp only
      rw [hd, List.length_append, hn, hm]
      exact hw)
    exact h1.perm (set_perm H i _ hil)
end
theorem mrg0 {N base : Nat} {w0 : World} {E E' : Env} {H H' : List HObj} {G G' : List World} {K K' : Act → World → Prop} (h1 : Ok N base w0 E' H' G' K' → Ok N base w0 E H G K) (h2 : Ok N base w0 E' H' G' K') : Ok N base w0 E H G K := h1 h2
/-- From here on all memory that stands is old: as at a call. -/
theorem ok_frame {N base : Nat} {w0 : World} {E : Env} {H : List HObj} {G : List World} {K : Act → World → Prop} (h : ∀ w1, WOk base w0 H G w1 → Ok N w1.heap.size w1 E [] [w1] K) : Ok N base w0 E H G K := fun a w he hw =>
  h w hw a w he ⟨Below.refl _ _, Nat.le_refl _, (fun x h => (by cases h)), List.Pairwise.nil, fun m hm p u hp => by
    cases hm with
    | head => exact ⟨hp, (fun x h => (by cases h))⟩
    | tail _ h => exact (by cases h)⟩
theorem WOk.framed {base : Nat} {w0 w1 w : World} {H H1 : List HObj} {G G1 : List World} (h1 : WOk base w0 H1 G1 w1) (h : WOk w1.heap.size w1 H G w) : Below base w0 w := h1.below.trans (h.below.mono h1.le)
/-- A row of a bag is let go. -/
theorem WOk.bagDrop {α β : Type} [Dat β] [In α β] {base : Nat} {w0 w : World} {H : List HObj} {G : List World} {e sz : Nat} {R : List (Lc α)} (k : Nat) (hk : k < R.length) (hw : WOk base w0 (.bag e sz (rowsOf R) :: H) G w) : WOk base w0 (.bag e sz (rowsOf (R.eraseIdx k)) :: H) G w := by
  have := (hw.bagPull k hk).tl
  rw [List.eraseIdx_eq_take_drop_succ]
  simpa [rowsOf] using this
end Go.Proofs.Ytojgphgfhapacaa
/- FsOk of both programs. -/
namespace Go.Proofs.Ytojgphgfhapacaa
open Go.RowKit
set_option maxHeartbeats 4000000
set_option maxRecDepth 20000
set_option linter.unusedVariables false
set_option linter.unusedSimpArgs false
attribute [local irreducible] Calls
instance : AR Try.prog 54 24 4 1 := ⟨Try.underlying54, by kernel_rfl, by decide⟩
theorem isTen_c (z : Int) (w : World) : Calls Try.prog 43 #[.int .i64 z] w fun e w' => e = .returned (.bool (inB z 1 99)) ∧ Below w.heap.size w w' := by
  refine ok_enter 5 Try.func43 rfl rfl rfl ?_
  repeat' (first
    | refine ok_seq ?_
    | refine ok_then ?_
    | refine ok_ret ?_
    | (refine ok_region (i := 0) ?_; refine ok_p rfl rfl rfl (by exact ps_assign rfl rfl) ?_; refine ok_nil ?_; refine ok_env [(0, _)] ⟨rfl, trivial⟩ ?_)
    | (refine ok_region (i := 1) ?_; refine ok_p rfl rfl rfl (by exact ps_move rfl rfl) ?_; refine ok_m rfl rfl rfl (by exact ms_s3 rfl rfl rfl rfl (fun _ _ w hw => xi_in _ _ _ w)) ?_; rintro y4 hy4; refine ok_p rfl rfl rfl (by exact ps_assign rfl rfl) ?_; refine ok_nil ?_; refine ok_env [(2, _)] ⟨rfl, trivial⟩ ?_))
  exact ok_endL (vs := [_]) rfl ⟨rfl, trivial⟩ (fun w hw => ⟨rfl, hw.below⟩)
theorem zerosI_c (z : Int) (hz : 0 ≤ z ∧ z ≤ 64) (w : World) : Calls Try.prog 21 #[.int .i64 z] w fun e w' => e = .returned (.string (zrs z.toNat)) ∧ Below w.heap.size w w' := by
  obtain ⟨n, rfl⟩ : ∃ n : Nat, z = (n : Int) := ⟨z.toNat, by omega⟩
  rw [Int.toNat_natCast]
  exact zeros_c n (by omega) w
theorem l30Zero_c (z : Int) (hz : 0 ≤ z ∧ z ≤ 64) (w : World) : Calls Try.prog 27 #[.int .i64 z] w fun e w' => e = .returned (.string (zrs z.toNat)) ∧ Below w.heap.size w w' := by
  obtain ⟨n, rfl⟩ : ∃ n : Nat, z = (n : Int) := ⟨z.toNat, by omega⟩
  rw [Int.toNat_natCast]
  have e : (madeCells (Dat.cells (0 : UInt8)).toArray (n * Dat.sz UInt8)).toList = byteVs (List.replicate n 0) := by rw [made_fl (0 : UInt8) n, fl_bytes]
  refine ok_enter 6 Try.func27 rfl rfl rfl ?_
  repeat' (first
    | refine ok_seq ?_
    | refine ok_then ?_
    | refine ok_ret ?_
    | (refine ok_region (i := 0) ?_; refine ok_p rfl rfl rfl (by exact ps_assign rfl rfl) ?_; refine ok_nil ?_; refine ok_env [(0, _)] ⟨rfl, trivial⟩ ?_)
    | (refine ok_region (i := 1) ?_; refine ok_p rfl rfl rfl (by exact ps_move rfl rfl) ?_; refine ok_m rfl rfl rfl (by exact ms_make (n := n) (z := Dat.cells (0 : UInt8)) rfl rfl rfl (by omega) (by omega)) ?_; rintro y4 hy4; refine ok_p rfl rfl rfl (by exact ps_str_of (l := List.replicate n 0) rfl rfl (by rw [← e]; exact rds_row 0 rfl) (by simp)) ?_; refine ok_p rfl rfl rfl (by exact ps_assign rfl rfl) ?_; refine ok_nil ?_; refine ok_env [(2, _)] ⟨rfl, trivial⟩ ?_))
  exact ok_endL (vs := [_]) rfl ⟨rfl, trivial⟩ (fun w' hw => ⟨rfl, hw.below⟩)
theorem need_c (z : Int) (hz : 0 ≤ z ∧ z ≤ 1000000) (w : World) : Calls Try.prog 25 #[.int .i64 z] w fun e w' => e = .returned (.int .i64 (ceil8 z)) ∧ Below w.heap.size w w' := by
  refine ok_enter 7 Try.func25 rfl rfl rfl ?_
  repeat' (first
    | refine ok_seq ?_
    | refine ok_then ?_
    | refine ok_ret ?_
    | (refine ok_region (i := 0) ?_; refine ok_p rfl rfl rfl (by exact ps_assign rfl rfl) ?_; refine ok_nil ?_; refine ok_env [(0, _)] ⟨rfl, trivial⟩ ?_)
    | (refine ok_region (i := 1) ?_; refine ok_p rfl rfl rfl (by exact ps_move rfl rfl) ?_; refine ok_p rfl rfl rfl (by exact ps_add rfl rfl rfl (by omega)) ?_; refine ok_p rfl rfl rfl (by exact ps_sub rfl rfl rfl (by omega)) ?_; refine ok_p rfl rfl rfl (by exact ps_quo rfl rfl rfl (by omega) (by omega)) ?_; refine ok_p rfl rfl rfl (by exact ps_assign rfl rfl) ?_; refine ok_nil ?_; refine ok_env [(2, _)] ⟨rfl, trivial⟩ ?_))
  exact ok_endL (vs := [_]) rfl ⟨rfl, trivial⟩ (fun w hw => ⟨rfl, hw.below⟩)
/-- One file: marks. -/
theorem useM_rng : ∀ (l : List Int) (U : List Bool), (useM U l).2 = true → ∀ i, i < l.length → 0 ≤ nth l i ∧ nth l i ≤ 23
  | [], U, h, i, hi => by simp at hi
  | b :: l, U, h, i, hi => by
    rw [useM] at h
    split at h
    · rename_i hb
      simp only [Bool.and_eq_true, inB_true] at hb
      cases i with
      | zero => exact hb.1
      | succ i => exact useM_rng l _ h i (by simpa using hi)
    · cases h
theorem useM_end {l : List Int} {U U' : List Bool} {k : Nat} (h : useM U l = useM U' (l.drop k)) (hk : l.length ≤ k) : useM U l = (U', true) := by
  rw [h, List.drop_of_length_le hk]; rfl
theorem fitF_no {B : List ByteArray} {U : List Bool} {x : FFile} (h : ¬ fileOk0 x = true) : fitF B U x = (U, false) := by unfold fitF; rw [if_neg h]
structure FitI (U : List Bool) (l : List Int) where
  k : Nat
  V : List Bool
  hk : k ≤ l.length
  hV : V.length = 24
  hu : useM U l = useM V (l.drop k)
theorem fits_c (A : Option Addr) (c : Nat) (B : List ByteArray) (A' : Option Addr) (n' c' : Nat) (l : LF) (g : Nat) (U : List Bool) (hB : B.length = 24) (h8 : ∀ u ∈ B, u.size = 8) (hU : U.length = 24) (hl : l.d.bl.length ≤ 4194304) {base : Nat} {w0 w m : World} {H : List HObj} {G : List World} (h1 : Rd m A (fl B)) (h2 : Rd m l.A (fl l.d.bl))
    (hw : WOk base w0 (.box g 54 (fl U) :: H) (m :: G) w) :
    Calls Try.prog 29 #[.agg #[.slice A B.length c, .slice A' n' c'], .agg (Dat.cells l).toArray, pt (ga g) 0] w fun e w' => ∃ y : Ys, e = .returned (.bool (fitF B U l.d).2) ∧ True ∧ WOk base w0 (.box g 54 (fl (fitF B U l.d).1) :: H) (m :: G) w' := by
  obtain ⟨⟨no, ow, bl, ln, sl⟩, LA, lc⟩ := l
  simp only at hl h2 ⊢
  simp only [Dat.cells, In.cells, In.inn]
  have H8 := Lib.hid h8; clear h8
  refine ok_enterW 82 Try.func29 rfl rfl rfl hw ?_
  repeat' (first
    | refine ok_seq ?_
    | refine ok_then ?_
    | refine ok_then_ret ?_
    | refine ok_block ?_
    | (refine ok_cond rfl (fun hc => ?_) (fun hc => ?_) <;> (have hd := hc; (try simp only [decide_eq_true_eq, decide_eq_false_iff_not, Bool.or_eq_true, Bool.or_eq_false_iff, Bool.and_eq_true, Bool.and_eq_false_iff, Bool.not_eq_true', Bool.not_eq_false', bne_iff_ne, beq_iff_eq, bne_eq_false_iff_eq, beq_eq_false_iff_ne, ne_eq, Bool.not_true, Bool.not_false, Bool.false_eq_true, Bool.true_eq_false, inB_true, inB_false] at hd)))
    | refine ok_ret ?_
    | refine ok_skip ?_
    | (refine ok_region (i := 0) ?_; refine ok_m rfl rfl rfl (by exact ms_box rfl rfl rfl) ?_; rintro y3 hy3; refine ok_m rfl rfl rfl (by exact ms_box rfl rfl rfl) ?_; rintro y4 hy4; refine ok_p rfl rfl rfl (by exact ps_assign rfl rfl) ?_; refine ok_nil ?_; refine ok_env [(2, _), (3, _), (4, _)] ⟨rfl, rfl, rfl, trivial⟩ ?_)
    | (refine ok_region (i := 1) ?_; refine ok_p rfl rfl rfl (by exact ps_field rfl rfl (by exact isw_ga _)) ?_; refine ok_p rfl rfl rfl (by exact ps_load rfl rfl (by exact Rds.cell (rds_box 0 rfl) rfl)) ?_; refine ok_m rfl rfl rfl (by exact ms_s3 rfl rfl rfl rfl (fun _ _ w hw => xi_in _ _ _ w)) ?_; rintro y13 hy13; refine ok_p rfl rfl rfl (by exact ps_not rfl rfl) ?_; refine ok_p rfl rfl rfl (by exact ps_move rfl rfl) ?_; refine ok_pg rfl rfl rfl rfl rfl (gF _) (fun hp => by (have hpd := hp; (try simp only [decide_eq_true_eq, decide_eq_false_iff_not, Bool.or_eq_true, Bool.or_eq_false_iff, Bool.and_eq_true, Bool.and_eq_false_iff, Bool.not_eq_true', Bool.not_eq_false', bne_iff_ne, beq_iff_eq, bne_eq_false_iff_eq, beq_eq_false_iff_ne, ne_eq, Bool.not_true, Bool.not_false, Bool.false_eq_true, Bool.true_eq_false, inB_true, inB_false] at hpd); exact ps_field rfl (by exact rfl) (by exact isw_ga _))) ?_; refine ok_pg rfl rfl rfl rfl rfl (gF _) (fun hp => by (have hpd := hp; (try simp only [decide_eq_true_eq, decide_eq_false_iff_not, Bool.or_eq_true, Bool.or_eq_false_iff, Bool.and_eq_true, Bool.and_eq_false_iff, Bool.not_eq_true', Bool.not_eq_false', bne_iff_ne, beq_iff_eq, bne_eq_false_iff_eq, beq_eq_false_iff_ne, ne_eq, Bool.not_true, Bool.not_false, Bool.false_eq_true, Bool.true_eq_false, inB_true, inB_false] at hpd); exact ps_load rfl (by (refine og rfl ?_; assumption)) (by exact Rds.cell (rds_box 0 rfl) rfl))) ?_; refine ok_mg rfl rfl rfl rfl rfl (gF _) (fun hp => by (have hpd := hp; (try simp only [decide_eq_true_eq, decide_eq_false_iff_not, Bool.or_eq_true, Bool.or_eq_false_iff, Bool.and_eq_true, Bool.and_eq_false_iff, Bool.not_eq_true', Bool.not_eq_false', bne_iff_ne, beq_iff_eq, bne_eq_false_iff_eq, beq_eq_false_iff_ne, ne_eq, Bool.not_true, Bool.not_false, Bool.false_eq_true, Bool.true_eq_false, inB_true, inB_false] at hpd); exact ms_s1 rfl (by (refine og rfl ?_; assumption)) (fun _ _ w hw => isTen_c _ w))) ?_; refine ok_pg rfl rfl rfl rfl rfl (gF _) (fun hp => by (have hpd := hp; (try simp only [decide_eq_true_eq, decide_eq_false_iff_not, Bool.or_eq_true, Bool.or_eq_false_iff, Bool.and_eq_true, Bool.and_eq_false_iff, Bool.not_eq_true', Bool.not_eq_false', bne_iff_ne, beq_iff_eq, bne_eq_false_iff_eq, beq_eq_false_iff_ne, ne_eq, Bool.not_true, Bool.not_false, Bool.false_eq_true, Bool.true_eq_false, inB_true, inB_false] at hpd); exact ps_not rfl (by (refine og rfl ?_; assumption)))) ?_; refine ok_p rfl rfl rfl (by exact ps_or rfl rfl rfl) ?_; refine ok_p rfl rfl rfl (by exact ps_move rfl rfl) ?_; refine ok_pg rfl rfl rfl rfl rfl (gF _) (fun hp => by (have hpd := hp; (try simp only [decide_eq_true_eq, decide_eq_false_iff_not, Bool.or_eq_true, Bool.or_eq_false_iff, Bool.and_eq_true, Bool.and_eq_false_iff, Bool.not_eq_true', Bool.not_eq_false', bne_iff_ne, beq_iff_eq, bne_eq_false_iff_eq, beq_eq_false_iff_ne, ne_eq, Bool.not_true, Bool.not_false, Bool.false_eq_true, Bool.true_eq_false, inB_true, inB_false] at hpd); exact ps_field rfl (by exact rfl) (by exact isw_ga _))) ?_; refine ok_pg rfl rfl rfl rfl rfl (gF _) (fun hp => by (have hpd := hp; (try simp only [decide_eq_true_eq, decide_eq_false_iff_not, Bool.or_eq_true, Bool.or_eq_false_iff, Bool.and_eq_true, Bool.and_eq_false_iff, Bool.not_eq_true', Bool.not_eq_false', bne_iff_ne, beq_iff_eq, bne_eq_false_iff_eq, beq_eq_false_iff_ne, ne_eq, Bool.not_true, Bool.not_false, Bool.false_eq_true, Bool.true_eq_false, inB_true, inB_false] at hpd); exact ps_load rfl (by (refine og rfl ?_; assumption)) (by exact Rds.cell (rds_box 0 rfl) rfl))) ?_; refine ok_mg rfl rfl rfl rfl rfl (gF _) (fun hp => by (have hpd := hp; (try simp only [decide_eq_true_eq, decide_eq_false_iff_not, Bool.or_eq_true, Bool.or_eq_false_iff, Bool.and_eq_true, Bool.and_eq_false_iff, Bool.not_eq_true', Bool.not_eq_false', bne_iff_ne, beq_iff_eq, bne_eq_false_iff_eq, beq_eq_false_iff_ne, ne_eq, Bool.not_true, Bool.not_false, Bool.false_eq_true, Bool.true_eq_false, inB_true, inB_false] at hpd); exact ms_s3 rfl (by (refine og rfl ?_; assumption)) rfl rfl (fun _ _ w hw => xi_in _ _ _ w))) ?_; refine ok_pg rfl rfl rfl rfl rfl (gF _) (fun hp => by (have hpd := hp; (try simp only [decide_eq_true_eq, decide_eq_false_iff_not, Bool.or_eq_true, Bool.or_eq_false_iff, Bool.and_eq_true, Bool.and_eq_false_iff, Bool.not_eq_true', Bool.not_eq_false', bne_iff_ne, beq_iff_eq, bne_eq_false_iff_eq, beq_eq_false_iff_ne, ne_eq, Bool.not_true, Bool.not_false, Bool.false_eq_true, Bool.true_eq_false, inB_true, inB_false] at hpd); exact ps_not rfl (by (refine og rfl ?_; assumption)))) ?_; refine ok_p rfl rfl rfl (by exact ps_or rfl rfl rfl) ?_; refine ok_nil ?_; refine ok_env [(2, _), (3, _), (4, _), (26, _)] ⟨rfl, rfl, rfl, rfl, trivial⟩ ?_)
    | (refine ok_region (i := 2) ?_; refine ok_p rfl rfl rfl (by exact ps_assign rfl rfl) ?_; refine ok_nil ?_; refine ok_env [(6, _)] ⟨rfl, trivial⟩ ?_)
    | (refine ok_region (i := 3) ?_; refine ok_p rfl rfl rfl (by exact ps_field rfl rfl (by exact isw_ga _)) ?_; refine ok_p rfl rfl rfl (by exact ps_load rfl rfl (by exact Rds.cell (rds_box 0 rfl) rfl)) ?_; refine ok_p rfl rfl rfl (by exact ps_len rfl rfl) ?_; refine ok_p rfl rfl rfl (by exact ps_field rfl rfl (by exact isw_ga _)) ?_; refine ok_p rfl rfl rfl (by exact ps_load rfl rfl (by exact Rds.cell (rds_box 0 rfl) rfl)) ?_; refine ok_p rfl rfl rfl (by exact ps_add rfl rfl rfl (by omega)) ?_; refine ok_p rfl rfl rfl (by exact ps_sub rfl rfl rfl (by omega)) ?_; refine ok_p rfl rfl rfl (by exact ps_quo rfl rfl rfl (by omega) (by omega)) ?_; refine ok_p rfl rfl rfl (by exact ps_int rfl rfl rfl rfl) ?_; refine ok_nil ?_; refine ok_env [(2, _), (3, _), (4, _), (35, _)] ⟨rfl, rfl, rfl, rfl, trivial⟩ ?_)
    | (refine ok_region (i := 4) ?_; refine ok_p rfl rfl rfl (by exact ps_assign rfl rfl) ?_; refine ok_nil ?_; refine ok_env [(6, _)] ⟨rfl, trivial⟩ ?_)
    | (refine ok_region (i := 5) ?_; refine ok_p rfl rfl rfl (by exact ps_field rfl rfl (by exact isw_ga _)) ?_; refine ok_p rfl rfl rfl (by exact ps_load rfl rfl (by exact Rds.cell (rds_box 0 rfl) rfl)) ?_; refine ok_p rfl rfl rfl (by exact ps_len rfl rfl) ?_; refine ok_p rfl rfl rfl (by exact ps_move rfl rfl) ?_; refine ok_nil ?_; refine ok_env [(2, _), (3, _), (4, _), (37, _), (38, _), (39, _)] ⟨rfl, rfl, rfl, rfl, rfl, rfl, trivial⟩ ?_))
  · rw [fitF_no (by intro h; unfold fileOk0 at h; simp only [Bool.and_eq_true, inB_true, decide_eq_true_eq] at h; omega)]
    exact ok_endL (vs := [_]) rfl ⟨rfl, trivial⟩ (fun w' hw => ⟨mkY none 0 w, rfl, trivial, hw.tl.tl⟩)
  · rw [fitF_no (by intro h; unfold fileOk0 ceil8 at h; simp only [Bool.and_eq_true, inB_true, decide_eq_true_eq] at h; omega)]
    exact ok_endL (vs := [_]) rfl ⟨rfl, trivial⟩ (fun w' hw => ⟨mkY none 0 w, rfl, trivial, hw.tl.tl⟩)
  have h0 : fileOk0 (⟨no, ow, bl, ln, sl⟩ : FFile) = true := by unfold fileOk0 ceil8; simp only [Bool.and_eq_true, inB_true, decide_eq_true_eq]; omega
  refine ok_loop (ι := FitI U bl) (fun q => bl.length - q.k) (fun q => ([(2, pt (ga g) 0), (3, pt (ga (y3 0).c) 0), (4, pt (ga (y4 0).c) 0), (37, .slice LA bl.length lc), (38, .int .i64 bl.length), (39, .int .i64 q.k)], _ :: _ :: .box g 54 (fl q.V) :: H, _)) ⟨0, U, Nat.zero_le _, hU, rfl⟩ (fun a w he hw => ⟨⟨0, U, Nat.zero_le _, hU, rfl⟩, he.sub ⟨rfl, rfl, rfl, rfl, rfl, rfl, trivial⟩, hw⟩) ?_
  rintro ⟨k, V, hk, hV, hu⟩
  simp only at hk hV hu ⊢
  have HU := Lib.hid hu; clear hu
  have rng : bl.length ≤ k → ∀ i, i < bl.length → 0 ≤ nth bl i ∧ nth bl i ≤ 23 := fun hk => useM_rng bl U (by rw [useM_end HU.out hk])
  have RNG := Lib.hid rng; clear rng
  repeat' (first
    | refine ok_seq ?_
    | refine ok_then ?_
    | refine ok_then_ret ?_
    | refine ok_block ?_
    | refine ok_in_normal ?_
    | refine ok_in_ret ?_
    | (refine ok_cond rfl (fun hc => ?_) (fun hc => ?_) <;> (have hd := hc; (try simp only [decide_eq_true_eq, decide_eq_false_iff_not, Bool.or_eq_true, Bool.or_eq_false_iff, Bool.and_eq_true, Bool.and_eq_false_iff, Bool.not_eq_true', Bool.not_eq_false', bne_iff_ne, beq_iff_eq, bne_eq_false_iff_eq, beq_eq_false_iff_ne, ne_eq, Bool.not_true, Bool.not_false, Bool.false_eq_true, Bool.true_eq_false, inB_true, inB_false] at hd)))
    | refine ok_ret ?_
    | refine ok_exit ?_
    | refine ok_skip ?_
    | (refine ok_region (i := 6) ?_; refine ok_p rfl rfl rfl (by exact ps_int rfl rfl rfl rfl) ?_; refine ok_nil ?_; refine ok_env [(2, _), (3, _), (4, _), (37, _), (38, _), (39, _), (40, _)] ⟨rfl, rfl, rfl, rfl, rfl, rfl, rfl, trivial⟩ ?_)
    | (refine ok_region (i := 7) ?_; refine ok_p rfl rfl rfl (by exact ps_indexN rfl rfl rfl (by omega) (by exact isw_of (isS_fl (by assumption) (by omega)))) ?_; refine ok_p rfl rfl rfl (by exact ps_load rfl rfl (by exact Rds.cell (rds_rf (by assumption) (by exact List.mem_cons_self)) (by exact fl_at0 _ _ (by omega) (by decide)))) ?_; refine ok_p rfl rfl rfl (by exact ps_assign rfl rfl) ?_; refine ok_nil ?_; refine ok_env [(2, _), (3, _), (4, _), (8, _), (37, _), (38, _), (39, _)] ⟨rfl, rfl, rfl, rfl, rfl, rfl, rfl, trivial⟩ ?_)
    | (refine ok_region (i := 8) ?_; refine ok_p rfl rfl rfl (by exact ps_move rfl rfl) ?_; refine ok_m rfl rfl rfl (by exact ms_s3 rfl rfl rfl rfl (fun _ _ w hw => xi_in _ _ _ w)) ?_; rintro y44 hy44; refine ok_p rfl rfl rfl (by exact ps_not rfl rfl) ?_; refine ok_p rfl rfl rfl (by exact ps_move rfl rfl) ?_; refine ok_pg rfl rfl rfl rfl rfl (gF _) (fun hp => by (have hpd := hp; (try simp only [decide_eq_true_eq, decide_eq_false_iff_not, Bool.or_eq_true, Bool.or_eq_false_iff, Bool.and_eq_true, Bool.and_eq_false_iff, Bool.not_eq_true', Bool.not_eq_false', bne_iff_ne, beq_iff_eq, bne_eq_false_iff_eq, beq_eq_false_iff_ne, ne_eq, Bool.not_true, Bool.not_false, Bool.false_eq_true, Bool.true_eq_false, inB_true, inB_false] at hpd); exact ps_move rfl (by exact rfl))) ?_; refine ok_pg rfl rfl rfl rfl rfl (gF _) (fun hp => by (have hpd := hp; (try simp only [decide_eq_true_eq, decide_eq_false_iff_not, Bool.or_eq_true, Bool.or_eq_false_iff, Bool.and_eq_true, Bool.and_eq_false_iff, Bool.not_eq_true', Bool.not_eq_false', bne_iff_ne, beq_iff_eq, bne_eq_false_iff_eq, beq_eq_false_iff_ne, ne_eq, Bool.not_true, Bool.not_false, Bool.false_eq_true, Bool.true_eq_false, inB_true, inB_false] at hpd); exact ps_move rfl (by exact rfl))) ?_; refine ok_pg rfl rfl rfl rfl rfl (gF _) (fun hp => by (have hpd := hp; (try simp only [decide_eq_true_eq, decide_eq_false_iff_not, Bool.or_eq_true, Bool.or_eq_false_iff, Bool.and_eq_true, Bool.and_eq_false_iff, Bool.not_eq_true', Bool.not_eq_false', bne_iff_ne, beq_iff_eq, bne_eq_false_iff_eq, beq_eq_false_iff_ne, ne_eq, Bool.not_true, Bool.not_false, Bool.false_eq_true, Bool.true_eq_false, inB_true, inB_false] at hpd); exact ps_nil rfl (by (refine og rfl ?_; assumption)) (by exact isw_ga _))) ?_; refine ok_pg rfl rfl rfl rfl rfl (gF _) (fun hp => by (have hpd := hp; (try simp only [decide_eq_true_eq, decide_eq_false_iff_not, Bool.or_eq_true, Bool.or_eq_false_iff, Bool.and_eq_true, Bool.and_eq_false_iff, Bool.not_eq_true', Bool.not_eq_false', bne_iff_ne, beq_iff_eq, bne_eq_false_iff_eq, beq_eq_false_iff_ne, ne_eq, Bool.not_true, Bool.not_false, Bool.false_eq_true, Bool.true_eq_false, inB_true, inB_false] at hpd); exact ps_indexAE rfl (by (refine og rfl ?_; assumption)) (by (refine og rfl ?_; assumption)) ⟨by omega, by omega⟩ (isw_ga _))) ?_; refine ok_pg rfl rfl rfl rfl rfl (gF _) (fun hp => by (have hpd := hp; (try simp only [decide_eq_true_eq, decide_eq_false_iff_not, Bool.or_eq_true, Bool.or_eq_false_iff, Bool.and_eq_true, Bool.and_eq_false_iff, Bool.not_eq_true', Bool.not_eq_false', bne_iff_ne, beq_iff_eq, bne_eq_false_iff_eq, beq_eq_false_iff_ne, ne_eq, Bool.not_true, Bool.not_false, Bool.false_eq_true, Bool.true_eq_false, inB_true, inB_false] at hpd); exact ps_loadA (α := Bool) (u := .bool (nth V (nth bl k).toNat)) 2 rfl (by (refine og rfl ?_; assumption)) rfl (by omega) rfl rfl)) ?_; refine ok_p rfl rfl rfl (by exact ps_or rfl rfl rfl) ?_; refine ok_nil ?_; refine ok_env [(2, _), (3, _), (4, _), (8, _), (37, _), (38, _), (39, _), (52, _)] ⟨rfl, rfl, rfl, rfl, rfl, rfl, rfl, rfl, trivial⟩ ?_)
    | (refine ok_region (i := 9) ?_; refine ok_p rfl rfl rfl (by exact ps_assign rfl rfl) ?_; refine ok_nil ?_; refine ok_env [(6, _)] ⟨rfl, trivial⟩ ?_)
    | (refine ok_region (i := 10) ?_; refine ok_p rfl rfl rfl (by exact ps_move rfl rfl) ?_; refine ok_p rfl rfl rfl (by exact ps_move rfl rfl) ?_; refine ok_p rfl rfl rfl (by exact ps_nil rfl rfl (by exact isw_ga _)) ?_; refine ok_p rfl rfl rfl (by exact ps_indexAE rfl rfl rfl ⟨by omega, by omega⟩ (isw_ga _)) ?_; refine ok_m_ rfl rfl (by exact ms_setA (α := Bool) 2 true rfl rfl rfl rfl rfl rfl rfl rfl (by omega)) ?_; rintro y_ hy_; refine ok_nil ?_; refine ok_env [(2, _), (3, _), (4, _), (37, _), (38, _), (39, _)] ⟨rfl, rfl, rfl, rfl, rfl, rfl, trivial⟩ ?_)
    | (refine ok_region (i := 11) ?_; refine ok_p rfl rfl rfl (by exact ps_add rfl rfl rfl (by omega)) ?_; refine ok_p rfl rfl rfl (by exact ps_move rfl rfl) ?_; refine ok_nil ?_; refine ok_env [(2, _), (3, _), (4, _), (37, _), (38, _), (39, _)] ⟨rfl, rfl, rfl, rfl, rfl, rfl, trivial⟩ ?_)
    | (refine ok_region (i := 12) ?_; refine ok_p rfl rfl rfl (by exact ps_field rfl rfl (by exact isw_ga _)) ?_; refine ok_p rfl rfl rfl (by exact ps_load rfl rfl (by exact Rds.cell (rds_box 0 rfl) rfl)) ?_; refine ok_p rfl rfl rfl (by exact ps_rem rfl rfl rfl (by omega) (by omega)) ?_; refine ok_p rfl rfl rfl (by exact ps_assign rfl rfl) ?_; refine ok_nil ?_; refine ok_env [(3, _), (4, _), (9, _)] ⟨rfl, rfl, rfl, trivial⟩ ?_)
    | (refine ok_region (i := 13) ?_; refine ok_p rfl rfl rfl (by exact ps_move rfl rfl) ?_; refine ok_p rfl rfl rfl (by exact ps_int rfl rfl rfl rfl) ?_; refine ok_nil ?_; refine ok_env [(3, _), (4, _), (9, _), (62, _)] ⟨rfl, rfl, rfl, rfl, trivial⟩ ?_)
    | (refine ok_draw (id := 14) 13 rfl (by kernel_rfl) (by kernel_rfl) rfl (by repeat (first | exact pq_body | refine pq_then ?_ | refine pq_in ?_)) [0, 1] (by decide) rfl ?_; refine okT_take (i := 0) rfl (by kernel_rfl) rfl rfl rfl (by exact ps_field rfl rfl (by exact isw_ga _)) ?_; refine okT_take (i := 1) rfl (by kernel_rfl) rfl rfl rfl (by exact ps_load rfl rfl (by exact Rds.cell (rds_box 1 rfl) rfl)) ?_; refine okT_take (i := 2) rfl (by kernel_rfl) rfl rfl rfl (by exact ps_field rfl rfl (by exact isw_ga _)) ?_; refine okT_take (i := 3) rfl (by kernel_rfl) rfl rfl rfl (by exact ps_load rfl rfl (by exact Rds.cell (rds_box 0 rfl) rfl)) ?_; refine okT_take (i := 4) rfl (by kernel_rfl) rfl rfl rfl (by exact ps_field rfl rfl (by exact isw_ga _)) ?_; refine okT_take (i := 5) rfl (by kernel_rfl) rfl rfl rfl (by exact ps_load rfl rfl (by exact Rds.cell (rds_box 0 rfl) rfl)) ?_; refine okT_take (i := 6) rfl (by kernel_rfl) rfl rfl rfl (by exact ps_len rfl rfl) ?_; refine okT_take (i := 7) rfl (by kernel_rfl) rfl rfl rfl (by exact ps_sub rfl rfl rfl (by omega)) ?_; refine okT_take (i := 8) rfl (by kernel_rfl) rfl rfl rfl (by exact ps_index rfl rfl rfl (by omega) (by exact isw_of (isS_fl (by assumption) (by omega)))) ?_; refine okT_take (i := 9) rfl (by kernel_rfl) rfl rfl rfl (by exact ps_load rfl rfl (by exact Rds.cell (rds_rf (by assumption) (by exact List.mem_cons_self)) (by exact fl_at0 _ _ (by omega) (by decide)))) ?_; refine okT_take (i := 10) rfl (by kernel_rfl) rfl rfl rfl (by exact ps_index rfl rfl rfl (by have := RNG.out (by omega) ((bl.length : Int) - 1).toNat (by omega); omega) (isw_of (isS_fl h1 (by omega)))) ?_; refine okT_take (i := 11) rfl (by kernel_rfl) rfl rfl rfl (by exact ps_load rfl rfl (Rds.cell (rds_rf h1 (by exact List.mem_cons_self)) (fl_at0 B (nth bl ((bl.length : Int) - 1).toNat).toNat (by have := RNG.out (by omega) ((bl.length : Int) - 1).toNat (by omega); omega) (by decide)))) ?_; refine okT_take (i := 12) rfl (by kernel_rfl) rfl rfl rfl (by exact ps_assign rfl rfl) ?_; refine okT_done (by kernel_rfl) ?_; refine ok_nil ?_; refine ok_env [(9, _), (10, _)] ⟨rfl, rfl, trivial⟩ ?_)
    | (refine ok_draw (id := 15) 8 rfl (by kernel_rfl) (by kernel_rfl) rfl (by repeat (first | exact pq_body | refine pq_then ?_ | refine pq_in ?_)) [0, 1] (by decide) rfl ?_; refine okT_take (i := 0) rfl (by kernel_rfl) rfl rfl rfl (by exact ps_move rfl rfl) ?_; refine okT_take (i := 1) rfl (by kernel_rfl) rfl rfl rfl (by exact ps_move rfl rfl) ?_; refine okT_take (i := 2) rfl (by kernel_rfl) rfl rfl rfl (by exact ps_sslE (ln % 8).toNat (nth B (nth bl ((bl.length : Int) - 1).toNat).toNat).size rfl rfl ⟨_, _, rfl, by omega⟩ rfl (by have := RNG.out (by omega) ((bl.length : Int) - 1).toNat (by omega); have := H8.out _ (nth_mem B (nth bl ((bl.length : Int) - 1).toNat).toNat (by omega)); omega) (Nat.le_refl _)) ?_; refine okT_take (i := 3) rfl (by kernel_rfl) rfl rfl rfl (by exact ps_move rfl rfl) ?_; refine okT_take (i := 4) rfl (by kernel_rfl) rfl rfl rfl (by exact ps_sub rfl rfl rfl (by omega)) ?_; refine okT_one (i := 5) rfl rfl (by kernel_rfl) rfl rfl rfl (by exact ms_s1 rfl rfl (fun _ _ w hw => zerosI_c _ ⟨by omega, by omega⟩ w)) (fun y w _ h => by exact h.sel [0, 1] (by decide) rfl (fun _ h => h)) ?_; rintro y80 hy80; refine okT_take (i := 6) rfl (by kernel_rfl) rfl rfl rfl (by exact ps_str rfl rfl rfl rfl) ?_; refine okT_take (i := 7) rfl (by kernel_rfl) rfl rfl rfl (by exact ps_assign rfl rfl) ?_; refine okT_done (by kernel_rfl) ?_; refine ok_nil ?_; refine ok_env [(6, _)] ⟨rfl, trivial⟩ ?_)
    | (refine ok_region (i := 16) ?_; refine ok_p rfl rfl rfl (by exact ps_assign rfl rfl) ?_; refine ok_nil ?_; refine ok_env [(6, _)] ⟨rfl, trivial⟩ ?_))
  · have e1 : useM U bl = (V, false) := by
      rw [HU.out, useM_step V (by omega), if_neg (by simp only [Bool.and_eq_true, inB_true, Bool.not_eq_true']; rintro ⟨q1, q2⟩; rcases hd with h | h; omega; rw [h] at q2; cases q2)]
    have e2 : fitF B U ⟨no, ow, bl, ln, sl⟩ = (V, false) := by unfold fitF; rw [if_pos h0]; simp only [e1]; rfl
    rw [e2]
    exact ok_endL (vs := [_]) rfl ⟨rfl, trivial⟩ (fun w' hw => ⟨mkY none 0 w, rfl, trivial, hw.tl.tl⟩)
  · exact fun a w' he hw => ⟨⟨k + 1, V.set (nth bl k).toNat true, by omega, by rw [List.length_set]; exact hV, by
      rw [HU.out, useM_step V (by omega), if_pos (by simp only [Bool.and_eq_true, inB_true, Bool.not_eq_true']; exact hd)]⟩, by simp only; omega, he.sub ⟨rfl, rfl, rfl, rfl, rfl, rfl, trivial⟩, hw⟩
  all_goals
    have e1 : useM U bl = (V, true) := useM_end HU.out (by omega)
  · have e2 : fitF B U ⟨no, ow, bl, ln, sl⟩ = (V, sEq ((nth B (nth bl ((bl.length : Int) - 1).toNat).toNat).extract (ln % 8).toNat (nth B (nth bl ((bl.length : Int) - 1).toNat).toNat).size) (zrs (8 - ln % 8).toNat)) := by
      unfold fitF tailI blkOf
      rw [if_pos h0, if_pos hd]
      simp only [e1, Bool.true_and]
      rw [show ((bl.length : Int) - 1).toNat = bl.length - 1 by omega, show (8 - ln % 8).toNat = 8 - (ln % 8).toNat by omega]
    rw [e2]
    exact ok_endL (vs := [_]) rfl ⟨rfl, trivial⟩ (fun w' hw => ⟨mkY none 0 w, rfl, trivial, hw.tl.tl⟩)
  · have e2 : fitF B U ⟨no, ow, bl, ln, sl⟩ = (V, true) := by
      unfold fitF tailI
      rw [if_pos h0, if_neg hd]
      simp only [e1, Bool.true_and]
    rw [e2]
    exact ok_endL (vs := [_]) rfl ⟨rfl, trivial⟩ (fun w' hw => ⟨mkY none 0 w, rfl, trivial, hw.tl.tl⟩)
/-- The files one by one. -/
def prevK (R : List LF) (k : Nat) : Option Int := if k = 0 then none else some (nth R (k - 1)).d.no
theorem dats_drop {R : List LF} {k : Nat} (h : k < R.length) : (dats R).drop k = (nth R k).d :: (dats R).drop (k + 1) := by
  have h' : k < (dats R).length := by rw [dats_len]; exact h
  rw [List.drop_eq_getElem_cons h']
  simp [dats, nthL R k h]
structure FsI (B : List ByteArray) (R : List LF) where
  k : Nat
  U : List Bool
  hk : k ≤ R.length
  hU : U.length = 24
  hu : fitsF B none noF (dats R) = fitsF B (prevK R k) U ((dats R).drop k)
theorem prevOk_K (R : List LF) (k : Nat) (x : FFile) : prevOk (prevK R k) x = !(decide (0 < (k : Int)) && decide (x.no ≤ (nth R (k - 1)).d.no)) := by
  unfold prevK
  by_cases h : k = 0
  · subst h; rfl
  · rw [if_neg h]
    have h0 : decide (0 < (k : Int)) = true := decide_eq_true (by omega)
    rw [h0, Bool.true_and]
    show decide ((nth R (k - 1)).d.no < x.no) = _
    by_cases h1 : x.no ≤ (nth R (k - 1)).d.no
    · rw [decide_eq_true h1, decide_eq_false (by omega)]; rfl
    · rw [decide_eq_false h1, decide_eq_true (by omega)]; rfl
theorem fsOk_no8 {x : DFStore} {k : Nat} (hk : k < x.B.length) (h : ¬ (nth x.B k).size = 8) : fFsOk x = false := by
  cases hh : fFsOk x with
  | false => rfl
  | true => exact absurd (((fs_good x).1 hh).h8 _ (nth_mem x.B k hk)) h
theorem free_no {B : List ByteArray} {U : List Bool} {k : Nat} (hk : k < 24) (h1 : nth U k = false) (h2 : sEq (nth B k) (zrs 8) = false) : freeOk B U = false := by
  unfold freeOk
  rw [List.all_eq_false]
  exact ⟨k, List.mem_range.2 hk, by rw [h1, h2]; simp⟩
theorem free_yes {B : List ByteArray} {U : List Bool} (h : ∀ k, k < 24 → (nth U k || sEq (nth B k) (zrs 8)) = true) : freeOk B U = true := by
  unfold freeOk
  rw [List.all_eq_true]
  exact fun k hk => h k (List.mem_range.1 hk)
theorem fsOk_fits {x : DFStore} (h1 : x.B.length = 24) (h2 : x.F.length ≤ 6) (h3 : ∀ u ∈ x.B, u.size = 8) : fFsOk x = endF x.B (fitsF x.B none noF x.F) := by
  unfold fFsOk
  have e : x.B.all (fun u => decide (u.size = 8)) = true := by rw [List.all_eq_true]; exact fun u hu => decide_eq_true (h3 u hu)
  rw [e, decide_eq_true h1, decide_eq_true h2, fits_files]; rfl
theorem fsOk_head {x : DFStore} (h : ¬ (x.B.length = 24 ∧ x.F.length ≤ 6)) : fFsOk x = false := by
  unfold fFsOk
  by_cases h1 : x.B.length = 24
  · rw [decide_eq_false (fun h2 : x.F.length ≤ 6 => h ⟨h1, h2⟩)]; simp
  · rw [decide_eq_false h1]; simp
theorem i_FsOk0 (A : Option Addr) (c : Nat) (B : List ByteArray) (A' : Option Addr) (c' : Nat) (R : List LF) (w : World) (h1 : Rd w A (fl B)) (h2 : RdN w A' R) (hl : B.length ≤ 4194304) (hl2 : R.length ≤ 4194304) (hl3 : ∀ x ∈ dats R, x.bl.length ≤ 4194304) :
    Calls Try.prog 11 #[.agg #[.slice A B.length c, .slice A' R.length c']] w fun e w' => e = .returned (.bool (fFsOk ⟨B, dats R⟩)) ∧ Below w.heap.size w w' := by
  obtain ⟨h2, h3⟩ := h2
  have hl3 := lens_in hl3
  have H3 := Lib.hid h3; clear h3
  have HL := Lib.hid hl3; clear hl3
  refine ok_enter 78 Try.func11 rfl rfl rfl ?_
  repeat' (first
    | refine ok_seq ?_
    | refine ok_then ?_
    | refine ok_then_ret ?_
    | refine ok_block ?_
    | (refine ok_cond rfl (fun hc => ?_) (fun hc => ?_) <;> (have hd := hc; (try simp only [decide_eq_true_eq, decide_eq_false_iff_not, Bool.or_eq_true, Bool.or_eq_false_iff, Bool.and_eq_true, Bool.and_eq_false_iff, Bool.not_eq_true', Bool.not_eq_false', bne_iff_ne, beq_iff_eq, bne_eq_false_iff_eq, beq_eq_false_iff_ne, ne_eq, Bool.not_true, Bool.not_false, Bool.false_eq_true, Bool.true_eq_false, inB_true, inB_false] at hd)))
    | refine ok_ret ?_
    | refine ok_skip ?_
    | (refine ok_region (i := 0) ?_; refine ok_m rfl rfl rfl (by exact ms_box rfl rfl rfl) ?_; rintro y1 hy1; refine ok_p rfl rfl rfl (by exact ps_assign rfl rfl) ?_; refine ok_nil ?_; refine ok_env [(1, _)] ⟨rfl, trivial⟩ ?_)
    | (refine ok_region (i := 1) ?_; refine ok_p rfl rfl rfl (by exact ps_field rfl rfl (by exact isw_ga _)) ?_; refine ok_p rfl rfl rfl (by exact ps_load rfl rfl (by exact Rds.cell (rds_box 0 rfl) rfl)) ?_; refine ok_p rfl rfl rfl (by exact ps_len rfl rfl) ?_; refine ok_p rfl rfl rfl (by exact ps_int rfl rfl rfl rfl) ?_; refine ok_p rfl rfl rfl (by exact ps_move rfl rfl) ?_; refine ok_pg rfl rfl rfl rfl rfl (gF _) (fun hp => by (have hpd := hp; (try simp only [decide_eq_true_eq, decide_eq_false_iff_not, Bool.or_eq_true, Bool.or_eq_false_iff, Bool.and_eq_true, Bool.and_eq_false_iff, Bool.not_eq_true', Bool.not_eq_false', bne_iff_ne, beq_iff_eq, bne_eq_false_iff_eq, beq_eq_false_iff_ne, ne_eq, Bool.not_true, Bool.not_false, Bool.false_eq_true, Bool.true_eq_false, inB_true, inB_false] at hpd); exact ps_field rfl (by exact rfl) (by exact isw_ga _))) ?_; refine ok_pg rfl rfl rfl rfl rfl (gF _) (fun hp => by (have hpd := hp; (try simp only [decide_eq_true_eq, decide_eq_false_iff_not, Bool.or_eq_true, Bool.or_eq_false_iff, Bool.and_eq_true, Bool.and_eq_false_iff, Bool.not_eq_true', Bool.not_eq_false', bne_iff_ne, beq_iff_eq, bne_eq_false_iff_eq, beq_eq_false_iff_ne, ne_eq, Bool.not_true, Bool.not_false, Bool.false_eq_true, Bool.true_eq_false, inB_true, inB_false] at hpd); exact ps_load rfl (by (refine og rfl ?_; assumption)) (by exact Rds.cell (rds_box 0 rfl) rfl))) ?_; refine ok_pg rfl rfl rfl rfl rfl (gF _) (fun hp => by (have hpd := hp; (try simp only [decide_eq_true_eq, decide_eq_false_iff_not, Bool.or_eq_true, Bool.or_eq_false_iff, Bool.and_eq_true, Bool.and_eq_false_iff, Bool.not_eq_true', Bool.not_eq_false', bne_iff_ne, beq_iff_eq, bne_eq_false_iff_eq, beq_eq_false_iff_ne, ne_eq, Bool.not_true, Bool.not_false, Bool.false_eq_true, Bool.true_eq_false, inB_true, inB_false] at hpd); exact ps_len rfl (by (refine og rfl ?_; assumption)))) ?_; refine ok_pg rfl rfl rfl rfl rfl (gF _) (fun hp => by (have hpd := hp; (try simp only [decide_eq_true_eq, decide_eq_false_iff_not, Bool.or_eq_true, Bool.or_eq_false_iff, Bool.and_eq_true, Bool.and_eq_false_iff, Bool.not_eq_true', Bool.not_eq_false', bne_iff_ne, beq_iff_eq, bne_eq_false_iff_eq, beq_eq_false_iff_ne, ne_eq, Bool.not_true, Bool.not_false, Bool.false_eq_true, Bool.true_eq_false, inB_true, inB_false] at hpd); exact ps_int rfl (by (refine og rfl ?_; assumption)) (by exact rfl) rfl)) ?_; refine ok_p rfl rfl rfl (by exact ps_or rfl rfl rfl) ?_; refine ok_nil ?_; refine ok_env [(1, _), (19, _)] ⟨rfl, rfl, trivial⟩ ?_)
    | (refine ok_region (i := 2) ?_; refine ok_p rfl rfl rfl (by exact ps_assign rfl rfl) ?_; refine ok_nil ?_; refine ok_env [(2, _)] ⟨rfl, trivial⟩ ?_)
    | (refine ok_region (i := 3) ?_; refine ok_p rfl rfl rfl (by exact ps_field rfl rfl (by exact isw_ga _)) ?_; refine ok_p rfl rfl rfl (by exact ps_load rfl rfl (by exact Rds.cell (rds_box 0 rfl) rfl)) ?_; refine ok_p rfl rfl rfl (by exact ps_len rfl rfl) ?_; refine ok_p rfl rfl rfl (by exact ps_move rfl rfl) ?_; refine ok_nil ?_; refine ok_env [(1, _), (21, _), (22, _), (23, _)] ⟨rfl, rfl, rfl, rfl, trivial⟩ ?_))
  · rw [fsOk_head (x := ⟨B, dats R⟩) (by simp only [dats_len]; omega)]
    exact ok_endL (vs := [_]) rfl ⟨rfl, trivial⟩ (fun w' hw => ⟨rfl, hw.below⟩)
  have hB : B.length = 24 := by omega
  have hR : R.length ≤ 6 := by omega
  clear hc hd
  refine ok_loop (ι := { k : Nat // k ≤ B.length ∧ ∀ j, j < k → (nth B j).size = 8 }) (fun k => B.length - k.1) (fun k => ([(1, pt (ga (y1 0).c) 0), (21, .slice A B.length c), (22, .int .i64 B.length), (23, .int .i64 k.1)], _, _)) ⟨0, Nat.zero_le _, fun j h => absurd h (Nat.not_lt_zero j)⟩ (fun a w he hw => ⟨⟨0, Nat.zero_le _, fun j h => absurd h (Nat.not_lt_zero j)⟩, he.sub ⟨rfl, rfl, rfl, rfl, trivial⟩, hw⟩) ?_
  rintro ⟨k, hk, hok⟩
  simp only at hk hok ⊢
  have HO := Lib.hid hok; clear hok
  repeat' (first
    | refine ok_seq ?_
    | refine ok_then ?_
    | refine ok_then_ret ?_
    | refine ok_block ?_
    | refine ok_in_normal ?_
    | refine ok_in_ret ?_
    | (refine ok_cond rfl (fun hc => ?_) (fun hc => ?_) <;> (have hd := hc; (try simp only [decide_eq_true_eq, decide_eq_false_iff_not, Bool.or_eq_true, Bool.or_eq_false_iff, Bool.and_eq_true, Bool.and_eq_false_iff, Bool.not_eq_true', Bool.not_eq_false', bne_iff_ne, beq_iff_eq, bne_eq_false_iff_eq, beq_eq_false_iff_ne, ne_eq, Bool.not_true, Bool.not_false, Bool.false_eq_true, Bool.true_eq_false, inB_true, inB_false] at hd)))
    | refine ok_ret ?_
    | refine ok_exit ?_
    | refine ok_skip ?_
    | (refine ok_region (i := 4) ?_; refine ok_p rfl rfl rfl (by exact ps_int rfl rfl rfl rfl) ?_; refine ok_nil ?_; refine ok_env [(1, _), (21, _), (22, _), (23, _), (24, _)] ⟨rfl, rfl, rfl, rfl, rfl, trivial⟩ ?_)
    | (refine ok_region (i := 5) ?_; refine ok_p rfl rfl rfl (by exact ps_indexN rfl rfl rfl (by omega) (by exact isw_of (isS_fl (by assumption) (by omega)))) ?_; refine ok_p rfl rfl rfl (by exact ps_load rfl rfl (by exact Rds.cell (rds_rf (by assumption) (by exact List.mem_cons_self)) (by exact fl_at0 _ _ (by omega) (by decide)))) ?_; refine ok_p rfl rfl rfl (by exact ps_assign rfl rfl) ?_; refine ok_nil ?_; refine ok_env [(1, _), (4, _), (21, _), (22, _), (23, _)] ⟨rfl, rfl, rfl, rfl, rfl, trivial⟩ ?_)
    | (refine ok_region (i := 6) ?_; refine ok_p rfl rfl rfl (by exact ps_move rfl rfl) ?_; refine ok_p rfl rfl rfl (by exact ps_slen rfl rfl) ?_; refine ok_p rfl rfl rfl (by exact ps_int rfl rfl rfl rfl) ?_; refine ok_nil ?_; refine ok_env [(1, _), (21, _), (22, _), (23, _), (29, _)] ⟨rfl, rfl, rfl, rfl, rfl, trivial⟩ ?_)
    | (refine ok_region (i := 7) ?_; refine ok_p rfl rfl rfl (by exact ps_assign rfl rfl) ?_; refine ok_nil ?_; refine ok_env [(2, _)] ⟨rfl, trivial⟩ ?_)
    | (refine ok_region (i := 8) ?_; refine ok_p rfl rfl rfl (by exact ps_add rfl rfl rfl (by omega)) ?_; refine ok_p rfl rfl rfl (by exact ps_move rfl rfl) ?_; refine ok_nil ?_; refine ok_env [(1, _), (21, _), (22, _), (23, _)] ⟨rfl, rfl, rfl, rfl, trivial⟩ ?_)
    | (refine ok_region (i := 9) ?_; refine ok_m rfl rfl rfl (by exact ms_alloc rfl) ?_; rintro y5 hy5; refine ok_nil ?_; refine ok_env [(1, _), (5, _)] ⟨rfl, rfl, trivial⟩ ?_)
    | (refine ok_region (i := 10) ?_; refine ok_p rfl rfl rfl (by exact ps_field rfl rfl (by exact isw_ga _)) ?_; refine ok_p rfl rfl rfl (by exact ps_load rfl rfl (by exact Rds.cell (rds_box 1 rfl) rfl)) ?_; refine ok_p rfl rfl rfl (by exact ps_len rfl rfl) ?_; refine ok_p rfl rfl rfl (by exact ps_move rfl rfl) ?_; refine ok_nil ?_; refine ok_env [(1, _), (5, _), (32, _), (33, _), (34, _)] ⟨rfl, rfl, rfl, rfl, rfl, trivial⟩ ?_))
  · rw [fsOk_no8 (x := ⟨B, dats R⟩) (k := k) (by simp only; omega) (by simp only; omega)]
    exact ok_endL (vs := [_]) rfl ⟨rfl, trivial⟩ (fun w' hw => ⟨rfl, hw.below⟩)
  · exact fun a w' he hw => ⟨⟨k + 1, by omega, fun j hj => by
      rcases Nat.lt_succ_iff_lt_or_eq.1 hj with h' | h'
      · exact HO.out j h'
      · subst h'; omega⟩, by simp only; omega, he.sub ⟨rfl, rfl, rfl, rfl, trivial⟩, hw⟩
  obtain rfl : k = B.length := by omega
  have h8 : ∀ u ∈ B, u.size = 8 := fun u hu => by
    obtain ⟨i, hi, rfl⟩ := List.getElem_of_mem hu
    have := HO.out i hi
    simpa [nth, hi] using this
  have hfin := fsOk_fits (x := ⟨B, dats R⟩) hB (by simp only [dats_len]; exact hR) h8
  simp only at hfin
  clear HO hk hc hd
  have H8 := Lib.hid h8; clear h8
  refine ok_loop (ι := FsI B R) (fun q => R.length - q.k) (fun q => ([(1, pt (ga (y1 0).c) 0), (5, pt (ga (y5 0).c) 0), (32, .slice A' R.length c'), (33, .int .i64 R.length), (34, .int .i64 q.k)], [.box (y5 0).c 54 (fl q.U), _], _)) ⟨0, noF, Nat.zero_le _, by simp [noF], rfl⟩ (fun a w he hw => ⟨⟨0, noF, Nat.zero_le _, by simp [noF], rfl⟩, he.sub ⟨rfl, rfl, rfl, rfl, rfl, trivial⟩, hw⟩) ?_
  rintro ⟨k, U, hk, hU, hu⟩
  simp only at hk hU hu ⊢
  have HU := Lib.hid hu; clear hu
  repeat' (first
    | refine ok_seq ?_
    | refine ok_then ?_
    | refine ok_then_ret ?_
    | refine ok_block ?_
    | refine ok_in_normal ?_
    | refine ok_in_ret ?_
    | (refine ok_cond rfl (fun hc => ?_) (fun hc => ?_) <;> (have hd := hc; (try simp only [decide_eq_true_eq, decide_eq_false_iff_not, Bool.or_eq_true, Bool.or_eq_false_iff, Bool.and_eq_true, Bool.and_eq_false_iff, Bool.not_eq_true', Bool.not_eq_false', bne_iff_ne, beq_iff_eq, bne_eq_false_iff_eq, beq_eq_false_iff_ne, ne_eq, Bool.not_true, Bool.not_false, Bool.false_eq_true, Bool.true_eq_false, inB_true, inB_false] at hd)))
    | refine ok_ret ?_
    | refine ok_exit ?_
    | refine ok_skip ?_
    | (refine ok_region (i := 11) ?_; refine ok_p rfl rfl rfl (by exact ps_int rfl rfl rfl rfl) ?_; refine ok_nil ?_; refine ok_env [(1, _), (5, _), (32, _), (33, _), (34, _), (35, _)] ⟨rfl, rfl, rfl, rfl, rfl, rfl, trivial⟩ ?_)
    | (refine ok_region (i := 12) ?_; refine ok_p rfl rfl rfl (by exact ps_move rfl rfl) ?_; refine ok_p rfl rfl rfl (by exact ps_indexN rfl rfl rfl (by omega) (by exact isw_of (isS_fl (by assumption) (by omega)))) ?_; refine ok_p rfl rfl rfl (by exact ps_loadsF rfl rfl (by exact rds_rf (by assumption) (by exact List.mem_cons_self)) (by rfl) (by rfl) (by omega) rfl) ?_; refine ok_m rfl rfl rfl (by exact ms_alloc rfl) ?_; rintro y7 hy7; refine ok_p rfl rfl rfl (by exact ps_assign rfl rfl) ?_; refine ok_m_ rfl rfl (by exact ms_store 0 rfl rfl rfl rfl rfl rfl rfl rfl) ?_; rintro y_ hy_; refine ok_nil ?_; refine ok_env [(1, _), (5, _), (6, _), (7, _), (32, _), (33, _), (34, _)] ⟨rfl, rfl, rfl, rfl, rfl, rfl, rfl, trivial⟩ ?_)
    | (refine ok_draw (id := 13) 20 rfl (by kernel_rfl) (by kernel_rfl) rfl (by repeat (first | exact pq_body | refine pq_then ?_ | refine pq_in ?_)) [0, 2] (by decide) rfl ?_; refine okT_take (i := 0) rfl (by kernel_rfl) rfl rfl rfl (by exact ps_loads rfl rfl (by exact rds_box 1 rfl) rfl rfl (by decide)) ?_; refine okT_take (i := 1) rfl (by kernel_rfl) rfl rfl rfl (by exact ps_loads rfl rfl (by exact rds_box 0 rfl) rfl rfl (by decide)) ?_; refine okT_one (i := 2) rfl rfl (by kernel_rfl) rfl rfl rfl (by exact ms_wr 1 rfl rfl rfl rfl (fun _ _ w hw => fits_c A c B A' R.length c' (nth R k) (y5 0).c U hB H8.out hU (HL.out k (by omega)) h1 (H3.out k (by omega)) hw)) (fun y w _ h => by exact h.sel [0, 2] (by decide) rfl (fun _ h => h)) ?_; rintro y41 hy41; refine okT_take (i := 3) rfl (by kernel_rfl) rfl rfl rfl (by exact ps_not rfl rfl) ?_; refine okT_take (i := 4) rfl (by kernel_rfl) rfl rfl rfl (by exact ps_move rfl rfl) ?_; refine okT_take_g1 (i := 5) rfl (by kernel_rfl) rfl rfl rfl rfl rfl (gF _) (fun hp => by (have hpd := hp; (try simp only [decide_eq_true_eq, decide_eq_false_iff_not, Bool.or_eq_true, Bool.or_eq_false_iff, Bool.and_eq_true, Bool.and_eq_false_iff, Bool.not_eq_true', Bool.not_eq_false', bne_iff_ne, beq_iff_eq, bne_eq_false_iff_eq, beq_eq_false_iff_ne, ne_eq, Bool.not_true, Bool.not_false, Bool.false_eq_true, Bool.true_eq_false, inB_true, inB_false] at hpd); exact ps_move rfl (by exact rfl))) ?_; refine okT_take_g1 (i := 6) rfl (by kernel_rfl) rfl rfl rfl rfl rfl (gF _) (fun hp => by (have hpd := hp; (try simp only [decide_eq_true_eq, decide_eq_false_iff_not, Bool.or_eq_true, Bool.or_eq_false_iff, Bool.and_eq_true, Bool.and_eq_false_iff, Bool.not_eq_true', Bool.not_eq_false', bne_iff_ne, beq_iff_eq, bne_eq_false_iff_eq, beq_eq_false_iff_ne, ne_eq, Bool.not_true, Bool.not_false, Bool.false_eq_true, Bool.true_eq_false, inB_true, inB_false] at hpd); exact ps_int rfl (by (refine og rfl ?_; assumption)) (by exact rfl) rfl)) ?_; refine okT_take_g1 (i := 7) rfl (by kernel_rfl) rfl rfl rfl rfl rfl (gF _) (fun hp => by (have hpd := hp; (try simp only [decide_eq_true_eq, decide_eq_false_iff_not, Bool.or_eq_true, Bool.or_eq_false_iff, Bool.and_eq_true, Bool.and_eq_false_iff, Bool.not_eq_true', Bool.not_eq_false', bne_iff_ne, beq_iff_eq, bne_eq_false_iff_eq, beq_eq_false_iff_ne, ne_eq, Bool.not_true, Bool.not_false, Bool.false_eq_true, Bool.true_eq_false, inB_true, inB_false] at hpd); exact ps_move rfl (by (refine og rfl ?_; assumption)))) ?_; refine okT_take_g (i := 8) rfl (by kernel_rfl) rfl rfl rfl rfl rfl (gT _) (fun hq hp hqp => by (have hqd := hq; (try simp only [decide_eq_true_eq, decide_eq_false_iff_not, Bool.or_eq_true, Bool.or_eq_false_iff, Bool.and_eq_true, Bool.and_eq_false_iff, Bool.not_eq_true', Bool.not_eq_false', bne_iff_ne, beq_iff_eq, bne_eq_false_iff_eq, beq_eq_false_iff_ne, ne_eq, Bool.not_true, Bool.not_false, Bool.false_eq_true, Bool.true_eq_false, inB_true, inB_false] at hqd); have hpd := hp; (try simp only [decide_eq_true_eq, decide_eq_false_iff_not, Bool.or_eq_true, Bool.or_eq_false_iff, Bool.and_eq_true, Bool.and_eq_false_iff, Bool.not_eq_true', Bool.not_eq_false', bne_iff_ne, beq_iff_eq, bne_eq_false_iff_eq, beq_eq_false_iff_ne, ne_eq, Bool.not_true, Bool.not_false, Bool.false_eq_true, Bool.true_eq_false, inB_true, inB_false] at hpd); exact ps_field rfl (by exact rfl) (by exact isw_ga _))) ?_; refine okT_take_g (i := 9) rfl (by kernel_rfl) rfl rfl rfl rfl rfl (gT _) (fun hq hp hqp => by (have hqd := hq; (try simp only [decide_eq_true_eq, decide_eq_false_iff_not, Bool.or_eq_true, Bool.or_eq_false_iff, Bool.and_eq_true, Bool.and_eq_false_iff, Bool.not_eq_true', Bool.not_eq_false', bne_iff_ne, beq_iff_eq, bne_eq_false_iff_eq, beq_eq_false_iff_ne, ne_eq, Bool.not_true, Bool.not_false, Bool.false_eq_true, Bool.true_eq_false, inB_true, inB_false] at hqd); have hpd := hp; (try simp only [decide_eq_true_eq, decide_eq_false_iff_not, Bool.or_eq_true, Bool.or_eq_false_iff, Bool.and_eq_true, Bool.and_eq_false_iff, Bool.not_eq_true', Bool.not_eq_false', bne_iff_ne, beq_iff_eq, bne_eq_false_iff_eq, beq_eq_false_iff_ne, ne_eq, Bool.not_true, Bool.not_false, Bool.false_eq_true, Bool.true_eq_false, inB_true, inB_false] at hpd); exact ps_load rfl (by (refine og rfl ?_; assumption)) (by exact Rds.cell (rds_box 0 rfl) rfl))) ?_; refine okT_take_g (i := 10) rfl (by kernel_rfl) rfl rfl rfl rfl rfl (gT _) (fun hq hp hqp => by (have hqd := hq; (try simp only [decide_eq_true_eq, decide_eq_false_iff_not, Bool.or_eq_true, Bool.or_eq_false_iff, Bool.and_eq_true, Bool.and_eq_false_iff, Bool.not_eq_true', Bool.not_eq_false', bne_iff_ne, beq_iff_eq, bne_eq_false_iff_eq, beq_eq_false_iff_ne, ne_eq, Bool.not_true, Bool.not_false, Bool.false_eq_true, Bool.true_eq_false, inB_true, inB_false] at hqd); have hpd := hp; (try simp only [decide_eq_true_eq, decide_eq_false_iff_not, Bool.or_eq_true, Bool.or_eq_false_iff, Bool.and_eq_true, Bool.and_eq_false_iff, Bool.not_eq_true', Bool.not_eq_false', bne_iff_ne, beq_iff_eq, bne_eq_false_iff_eq, beq_eq_false_iff_ne, ne_eq, Bool.not_true, Bool.not_false, Bool.false_eq_true, Bool.true_eq_false, inB_true, inB_false] at hpd); exact ps_field rfl (by exact rfl) (by exact isw_ga _))) ?_; refine okT_take_g (i := 11) rfl (by kernel_rfl) rfl rfl rfl rfl rfl (gT _) (fun hq hp hqp => by (have hqd := hq; (try simp only [decide_eq_true_eq, decide_eq_false_iff_not, Bool.or_eq_true, Bool.or_eq_false_iff, Bool.and_eq_true, Bool.and_eq_false_iff, Bool.not_eq_true', Bool.not_eq_false', bne_iff_ne, beq_iff_eq, bne_eq_false_iff_eq, beq_eq_false_iff_ne, ne_eq, Bool.not_true, Bool.not_false, Bool.false_eq_true, Bool.true_eq_false, inB_true, inB_false] at hqd); have hpd := hp; (try simp only [decide_eq_true_eq, decide_eq_false_iff_not, Bool.or_eq_true, Bool.or_eq_false_iff, Bool.and_eq_true, Bool.and_eq_false_iff, Bool.not_eq_true', Bool.not_eq_false', bne_iff_ne, beq_iff_eq, bne_eq_false_iff_eq, beq_eq_false_iff_ne, ne_eq, Bool.not_true, Bool.not_false, Bool.false_eq_true, Bool.true_eq_false, inB_true, inB_false] at hpd); exact ps_load rfl (by (refine og rfl ?_; assumption)) (by exact Rds.cell (rds_box 1 rfl) rfl))) ?_; refine okT_take_g (i := 12) rfl (by kernel_rfl) rfl rfl rfl rfl rfl (gT _) (fun hq hp hqp => by (have hqd := hq; (try simp only [decide_eq_true_eq, decide_eq_false_iff_not, Bool.or_eq_true, Bool.or_eq_false_iff, Bool.and_eq_true, Bool.and_eq_false_iff, Bool.not_eq_true', Bool.not_eq_false', bne_iff_ne, beq_iff_eq, bne_eq_false_iff_eq, beq_eq_false_iff_ne, ne_eq, Bool.not_true, Bool.not_false, Bool.false_eq_true, Bool.true_eq_false, inB_true, inB_false] at hqd); have hpd := hp; (try simp only [decide_eq_true_eq, decide_eq_false_iff_not, Bool.or_eq_true, Bool.or_eq_false_iff, Bool.and_eq_true, Bool.and_eq_false_iff, Bool.not_eq_true', Bool.not_eq_false', bne_iff_ne, beq_iff_eq, bne_eq_false_iff_eq, beq_eq_false_iff_ne, ne_eq, Bool.not_true, Bool.not_false, Bool.false_eq_true, Bool.true_eq_false, inB_true, inB_false] at hpd); exact ps_move rfl (by exact rfl))) ?_; refine okT_take_g (i := 13) rfl (by kernel_rfl) rfl rfl rfl rfl rfl (gT _) (fun hq hp hqp => by (have hqd := hq; (try simp only [decide_eq_true_eq, decide_eq_false_iff_not, Bool.or_eq_true, Bool.or_eq_false_iff, Bool.and_eq_true, Bool.and_eq_false_iff, Bool.not_eq_true', Bool.not_eq_false', bne_iff_ne, beq_iff_eq, bne_eq_false_iff_eq, beq_eq_false_iff_ne, ne_eq, Bool.not_true, Bool.not_false, Bool.false_eq_true, Bool.true_eq_false, inB_true, inB_false] at hqd); have hpd := hp; (try simp only [decide_eq_true_eq, decide_eq_false_iff_not, Bool.or_eq_true, Bool.or_eq_false_iff, Bool.and_eq_true, Bool.and_eq_false_iff, Bool.not_eq_true', Bool.not_eq_false', bne_iff_ne, beq_iff_eq, bne_eq_false_iff_eq, beq_eq_false_iff_ne, ne_eq, Bool.not_true, Bool.not_false, Bool.false_eq_true, Bool.true_eq_false, inB_true, inB_false] at hpd); exact ps_sub rfl (by (refine og rfl ?_; assumption)) (by exact rfl) (by omega))) ?_; refine okT_take_g (i := 14) rfl (by kernel_rfl) rfl rfl rfl rfl rfl (gT _) (fun hq hp hqp => by (have hqd := hq; (try simp only [decide_eq_true_eq, decide_eq_false_iff_not, Bool.or_eq_true, Bool.or_eq_false_iff, Bool.and_eq_true, Bool.and_eq_false_iff, Bool.not_eq_true', Bool.not_eq_false', bne_iff_ne, beq_iff_eq, bne_eq_false_iff_eq, beq_eq_false_iff_ne, ne_eq, Bool.not_true, Bool.not_false, Bool.false_eq_true, Bool.true_eq_false, inB_true, inB_false] at hqd); have hpd := hp; (try simp only [decide_eq_true_eq, decide_eq_false_iff_not, Bool.or_eq_true, Bool.or_eq_false_iff, Bool.and_eq_true, Bool.and_eq_false_iff, Bool.not_eq_true', Bool.not_eq_false', bne_iff_ne, beq_iff_eq, bne_eq_false_iff_eq, beq_eq_false_iff_ne, ne_eq, Bool.not_true, Bool.not_false, Bool.false_eq_true, Bool.true_eq_false, inB_true, inB_false] at hpd); exact ps_index rfl (by (refine og rfl ?_; assumption)) (by (refine og rfl ?_; assumption)) (by omega) (by exact isw_of (isS_fl (by assumption) (by omega))))) ?_; refine okT_take_g (i := 15) rfl (by kernel_rfl) rfl rfl rfl rfl rfl (gT _) (fun hq hp hqp => by (have hqd := hq; (try simp only [decide_eq_true_eq, decide_eq_false_iff_not, Bool.or_eq_true, Bool.or_eq_false_iff, Bool.and_eq_true, Bool.and_eq_false_iff, Bool.not_eq_true', Bool.not_eq_false', bne_iff_ne, beq_iff_eq, bne_eq_false_iff_eq, beq_eq_false_iff_ne, ne_eq, Bool.not_true, Bool.not_false, Bool.false_eq_true, Bool.true_eq_false, inB_true, inB_false] at hqd); have hpd := hp; (try simp only [decide_eq_true_eq, decide_eq_false_iff_not, Bool.or_eq_true, Bool.or_eq_false_iff, Bool.and_eq_true, Bool.and_eq_false_iff, Bool.not_eq_true', Bool.not_eq_false', bne_iff_ne, beq_iff_eq, bne_eq_false_iff_eq, beq_eq_false_iff_ne, ne_eq, Bool.not_true, Bool.not_false, Bool.false_eq_true, Bool.true_eq_false, inB_true, inB_false] at hpd); exact ps_field rfl (by (refine og rfl ?_; assumption)) (by exact isw_of (isS_fl (by assumption) (by omega))))) ?_; refine okT_take_g (i := 16) rfl (by kernel_rfl) rfl rfl rfl rfl rfl (gT _) (fun hq hp hqp => by (have hqd := hq; (try simp only [decide_eq_true_eq, decide_eq_false_iff_not, Bool.or_eq_true, Bool.or_eq_false_iff, Bool.and_eq_true, Bool.and_eq_false_iff, Bool.not_eq_true', Bool.not_eq_false', bne_iff_ne, beq_iff_eq, bne_eq_false_iff_eq, beq_eq_false_iff_ne, ne_eq, Bool.not_true, Bool.not_false, Bool.false_eq_true, Bool.true_eq_false, inB_true, inB_false] at hqd); have hpd := hp; (try simp only [decide_eq_true_eq, decide_eq_false_iff_not, Bool.or_eq_true, Bool.or_eq_false_iff, Bool.and_eq_true, Bool.and_eq_false_iff, Bool.not_eq_true', Bool.not_eq_false', bne_iff_ne, beq_iff_eq, bne_eq_false_iff_eq, beq_eq_false_iff_ne, ne_eq, Bool.not_true, Bool.not_false, Bool.false_eq_true, Bool.true_eq_false, inB_true, inB_false] at hpd); exact ps_load rfl (by (refine og rfl ?_; assumption)) (by exact Rds.cell (rds_rf (by assumption) (by exact List.mem_cons_self)) (by exact fl_at0 _ _ (by omega) (by decide))))) ?_; refine okT_take_g (i := 17) rfl (by kernel_rfl) rfl rfl rfl rfl rfl (gT _) (fun hq hp hqp => by (have hqd := hq; (try simp only [decide_eq_true_eq, decide_eq_false_iff_not, Bool.or_eq_true, Bool.or_eq_false_iff, Bool.and_eq_true, Bool.and_eq_false_iff, Bool.not_eq_true', Bool.not_eq_false', bne_iff_ne, beq_iff_eq, bne_eq_false_iff_eq, beq_eq_false_iff_ne, ne_eq, Bool.not_true, Bool.not_false, Bool.false_eq_true, Bool.true_eq_false, inB_true, inB_false] at hqd); have hpd := hp; (try simp only [decide_eq_true_eq, decide_eq_false_iff_not, Bool.or_eq_true, Bool.or_eq_false_iff, Bool.and_eq_true, Bool.and_eq_false_iff, Bool.not_eq_true', Bool.not_eq_false', bne_iff_ne, beq_iff_eq, bne_eq_false_iff_eq, beq_eq_false_iff_ne, ne_eq, Bool.not_true, Bool.not_false, Bool.false_eq_true, Bool.true_eq_false, inB_true, inB_false] at hpd); exact ps_int rfl (by (refine og rfl ?_; assumption)) (by (refine og rfl ?_; assumption)) rfl)) ?_; refine okT_take_g1 (i := 18) rfl (by kernel_rfl) rfl rfl rfl rfl rfl (gF _) (fun hp => by (have hpd := hp; (try simp only [decide_eq_true_eq, decide_eq_false_iff_not, Bool.or_eq_true, Bool.or_eq_false_iff, Bool.and_eq_true, Bool.and_eq_false_iff, Bool.not_eq_true', Bool.not_eq_false', bne_iff_ne, beq_iff_eq, bne_eq_false_iff_eq, beq_eq_false_iff_ne, ne_eq, Bool.not_true, Bool.not_false, Bool.false_eq_true, Bool.true_eq_false, inB_true, inB_false] at hpd); exact ps_and_in (by assumption) rfl rfl rfl)) ?_; refine okT_take (i := 19) rfl (by kernel_rfl) rfl rfl rfl (by exact ps_or rfl rfl rfl) ?_; refine okT_done (by kernel_rfl) ?_; refine ok_nil ?_; refine ok_env [(1, _), (5, _), (32, _), (33, _), (34, _), (58, _)] ⟨rfl, rfl, rfl, rfl, rfl, rfl, trivial⟩ ?_)
    | (refine ok_region (i := 14) ?_; refine ok_p rfl rfl rfl (by exact ps_assign rfl rfl) ?_; refine ok_nil ?_; refine ok_env [(2, _)] ⟨rfl, trivial⟩ ?_)
    | (refine ok_region (i := 15) ?_; refine ok_p rfl rfl rfl (by exact ps_add rfl rfl rfl (by omega)) ?_; refine ok_p rfl rfl rfl (by exact ps_move rfl rfl) ?_; refine ok_nil ?_; refine ok_env [(1, _), (5, _), (32, _), (33, _), (34, _)] ⟨rfl, rfl, rfl, rfl, rfl, trivial⟩ ?_)
    | (refine ok_region (i := 16) ?_; refine ok_p rfl rfl rfl (by exact ps_field rfl rfl (by exact isw_ga _)) ?_; refine ok_p rfl rfl rfl (by exact ps_load rfl rfl (by exact Rds.cell (rds_box 1 rfl) rfl)) ?_; refine ok_p rfl rfl rfl (by exact ps_len rfl rfl) ?_; refine ok_p rfl rfl rfl (by exact ps_move rfl rfl) ?_; refine ok_nil ?_; refine ok_env [(5, _), (61, _), (62, _), (63, _)] ⟨rfl, rfl, rfl, rfl, trivial⟩ ?_))
  · have e : fFsOk ⟨B, dats R⟩ = false := by
      rw [hfin, HU.out, dats_drop (show k < R.length by omega), fitsF, if_neg]
      · rfl
      · rw [prevOk_K, show k - 1 = ((k : Int) - 1).toNat by omega, Bool.and_eq_true, Bool.not_eq_true', Bool.and_eq_false_iff, decide_eq_false_iff_not, decide_eq_false_iff_not]
        rintro ⟨q1, q2⟩
        rcases hd with h | h
        · rw [h] at q1; cases q1
        · omega
    rw [e]
    exact ok_endL (vs := [_]) rfl ⟨rfl, trivial⟩ (fun w' hw => ⟨rfl, hw.below⟩)
  · refine fun a w' he hw => ⟨⟨k + 1, (fitF B U (nth R k).d).1, by omega, by rw [fitF_len]; exact hU, ?_⟩, by simp only; omega, he.sub ⟨rfl, rfl, rfl, rfl, rfl, trivial⟩, hw.tl⟩
    rw [HU.out, dats_drop (show k < R.length by omega), fitsF, if_pos]
    · rfl
    · rw [prevOk_K, show k - 1 = ((k : Int) - 1).toNat by omega, Bool.and_eq_true, Bool.not_eq_true', Bool.and_eq_false_iff, decide_eq_false_iff_not, decide_eq_false_iff_not]
      exact ⟨hd.1, hd.2⟩
  obtain rfl : k = R.length := by omega
  have hfr : fFsOk ⟨B, dats R⟩ = freeOk B U := by
    rw [hfin, HU.out, show (dats R).drop R.length = [] by rw [← dats_len, List.drop_length], fitsF]; rfl
  clear hfin HU hk hc hd
  refine ok_loop (ι := { k : Nat // k ≤ 24 ∧ ∀ j, j < k → (nth U j || sEq (nth B j) (zrs 8)) = true }) (fun k => 24 - k.1) (fun k => ([(5, pt (ga (y5 0).c) 0), (61, .slice A B.length c), (62, .int .i64 B.length), (63, .int .i64 k.1)], _, _)) ⟨0, Nat.zero_le _, fun j h => absurd h (Nat.not_lt_zero j)⟩ (fun a w he hw => ⟨⟨0, Nat.zero_le _, fun j h => absurd h (Nat.not_lt_zero j)⟩, he.sub ⟨rfl, rfl, rfl, rfl, trivial⟩, hw⟩) ?_
  rintro ⟨k, hk, hok⟩
  simp only at hk hok ⊢
  have HO := Lib.hid hok; clear hok
  repeat' (first
    | refine ok_seq ?_
    | refine ok_then ?_
    | refine ok_then_ret ?_
    | refine ok_block ?_
    | refine ok_in_normal ?_
    | refine ok_in_ret ?_
    | (refine ok_cond rfl (fun hc => ?_) (fun hc => ?_) <;> (have hd := hc; (try simp only [decide_eq_true_eq, decide_eq_false_iff_not, Bool.or_eq_true, Bool.or_eq_false_iff, Bool.and_eq_true, Bool.and_eq_false_iff, Bool.not_eq_true', Bool.not_eq_false', bne_iff_ne, beq_iff_eq, bne_eq_false_iff_eq, beq_eq_false_iff_ne, ne_eq, Bool.not_true, Bool.not_false, Bool.false_eq_true, Bool.true_eq_false, inB_true, inB_false] at hd)))
    | refine ok_ret ?_
    | refine ok_exit ?_
    | refine ok_skip ?_
    | (refine ok_region (i := 17) ?_; refine ok_p rfl rfl rfl (by exact ps_int rfl rfl rfl rfl) ?_; refine ok_nil ?_; refine ok_env [(5, _), (61, _), (62, _), (63, _), (64, _)] ⟨rfl, rfl, rfl, rfl, rfl, trivial⟩ ?_)
    | (refine ok_region (i := 18) ?_; refine ok_p rfl rfl rfl (by exact ps_move rfl rfl) ?_; refine ok_p rfl rfl rfl (by exact ps_indexN rfl rfl rfl (by omega) (by exact isw_of (isS_fl (by assumption) (by omega)))) ?_; refine ok_p rfl rfl rfl (by exact ps_load rfl rfl (by exact Rds.cell (rds_rf (by assumption) (by exact List.mem_cons_self)) (by exact fl_at0 _ _ (by omega) (by decide)))) ?_; refine ok_p rfl rfl rfl (by exact ps_assign rfl rfl) ?_; refine ok_p rfl rfl rfl (by exact ps_assign rfl rfl) ?_; refine ok_nil ?_; refine ok_env [(5, _), (8, _), (9, _), (61, _), (62, _), (63, _)] ⟨rfl, rfl, rfl, rfl, rfl, rfl, trivial⟩ ?_)
    | (refine ok_region (i := 19) ?_; refine ok_p rfl rfl rfl (by exact ps_move rfl rfl) ?_; refine ok_p rfl rfl rfl (by exact ps_indexA rfl rfl rfl (by omega) (isw_ga _)) ?_; refine ok_p rfl rfl rfl (by exact ps_loadA (α := Bool) (u := .bool (nth U k)) 0 rfl rfl rfl (by omega) rfl rfl) ?_; refine ok_p rfl rfl rfl (by exact ps_not rfl rfl) ?_; refine ok_p rfl rfl rfl (by exact ps_move rfl rfl) ?_; refine ok_pg rfl rfl rfl rfl rfl (gT _) (fun hp => by (have hpd := hp; (try simp only [decide_eq_true_eq, decide_eq_false_iff_not, Bool.or_eq_true, Bool.or_eq_false_iff, Bool.and_eq_true, Bool.and_eq_false_iff, Bool.not_eq_true', Bool.not_eq_false', bne_iff_ne, beq_iff_eq, bne_eq_false_iff_eq, beq_eq_false_iff_ne, ne_eq, Bool.not_true, Bool.not_false, Bool.false_eq_true, Bool.true_eq_false, inB_true, inB_false] at hpd); exact ps_move rfl (by exact rfl))) ?_; refine ok_mg rfl rfl rfl rfl rfl (gT _) (fun hp => by (have hpd := hp; (try simp only [decide_eq_true_eq, decide_eq_false_iff_not, Bool.or_eq_true, Bool.or_eq_false_iff, Bool.and_eq_true, Bool.and_eq_false_iff, Bool.not_eq_true', Bool.not_eq_false', bne_iff_ne, beq_iff_eq, bne_eq_false_iff_eq, beq_eq_false_iff_ne, ne_eq, Bool.not_true, Bool.not_false, Bool.false_eq_true, Bool.true_eq_false, inB_true, inB_false] at hpd); exact ms_s1 rfl rfl (fun _ _ w hw => zerosI_c 8 ⟨by omega, by omega⟩ w))) ?_; refine ok_pg rfl rfl rfl rfl rfl (gT _) (fun hp => by (have hpd := hp; (try simp only [decide_eq_true_eq, decide_eq_false_iff_not, Bool.or_eq_true, Bool.or_eq_false_iff, Bool.and_eq_true, Bool.and_eq_false_iff, Bool.not_eq_true', Bool.not_eq_false', bne_iff_ne, beq_iff_eq, bne_eq_false_iff_eq, beq_eq_false_iff_ne, ne_eq, Bool.not_true, Bool.not_false, Bool.false_eq_true, Bool.true_eq_false, inB_true, inB_false] at hpd); exact ps_str rfl (by (refine og rfl ?_; assumption)) (by (refine og rfl ?_; assumption)) rfl)) ?_; refine ok_p rfl rfl rfl (by exact ps_and rfl rfl rfl) ?_; refine ok_nil ?_; refine ok_env [(5, _), (61, _), (62, _), (63, _), (76, _)] ⟨rfl, rfl, rfl, rfl, rfl, trivial⟩ ?_)
    | (refine ok_region (i := 20) ?_; refine ok_p rfl rfl rfl (by exact ps_assign rfl rfl) ?_; refine ok_nil ?_; refine ok_env [(2, _)] ⟨rfl, trivial⟩ ?_)
    | (refine ok_region (i := 21) ?_; refine ok_p rfl rfl rfl (by exact ps_add rfl rfl rfl (by omega)) ?_; refine ok_p rfl rfl rfl (by exact ps_move rfl rfl) ?_; refine ok_nil ?_; refine ok_env [(5, _), (61, _), (62, _), (63, _)] ⟨rfl, rfl, rfl, rfl, trivial⟩ ?_)
    | (refine ok_region (i := 22) ?_; refine ok_p rfl rfl rfl (by exact ps_assign rfl rfl) ?_; refine ok_nil ?_; refine ok_env [(2, _)] ⟨rfl, trivial⟩ ?_))
  · rw [hfr, free_no (k := k) (by omega) hd.1 hd.2]
    exact ok_endL (vs := [_]) rfl ⟨rfl, trivial⟩ (fun w' hw => ⟨rfl, hw.below⟩)
  · exact fun a w' he hw => ⟨⟨k + 1, by omega, fun j hj => by
      rcases Nat.lt_succ_iff_lt_or_eq.1 hj with h' | h'
      · exact HO.out j h'
      · subst h'; rw [Bool.or_eq_true]; exact hd⟩, by simp only; omega, he.sub ⟨rfl, rfl, rfl, rfl, trivial⟩, hw⟩
  · rw [hfr, free_yes (fun j hj => HO.out j (by omega))]
    exact ok_endL (vs := [_]) rfl ⟨rfl, trivial⟩ (fun w' hw => ⟨rfl, hw.below⟩)
end Go.Proofs.Ytojgphgfhapacaa
/- FsOk of the reference. -/
namespace Go.Proofs.Ytojgphgfhapacaa
open Go.RowKit
set_option maxHeartbeats 4000000
set_option maxRecDepth 20000
set_option linter.unusedVariables false
set_option linter.unusedSimpArgs false
attribute [local irreducible] Calls
theorem sOk_head {x : DFStore} (h : ¬ (x.B.length = 24 ∧ x.F.length ≤ 6)) : sFsOk x = false := by rw [fs_same]; exact fsOk_head h
theorem sOk_fits {x : DFStore} (h1 : x.B.length = 24) (h2 : x.F.length ≤ 6) : sFsOk x = endF x.B (filesF (blkS x.B) (fun _ => true) none noF x.F) := by
  unfold sFsOk
  rw [decide_eq_true h1, decide_eq_true h2]; rfl
structure SsI (B : List ByteArray) (R : List LF) where
  k : Nat
  U : List Bool
  hk : k ≤ R.length
  hU : U.length = 24
  hu : filesF (blkS B) (fun _ => true) none noF (dats R) = filesF (blkS B) (fun _ => true) (prevK R k) U ((dats R).drop k)
structure SuI (B : List ByteArray) (x : FFile) (U : List Bool) where
  j : Nat
  V : List Bool
  hj : j ≤ x.bl.length
  hV : V.length = 24
  hv : useC (blkS B x) 0 U x.bl = useC (blkS B x) j V (x.bl.drop j)
theorem s_FsOk0 (A : Option Addr) (c : Nat) (B : List ByteArray) (A' : Option Addr) (c' : Nat) (R : List LF) (w : World) (h1 : Rd w A (fl B)) (h2 : RdN w A' R) (hl : B.length ≤ 4194304) (hl2 : R.length ≤ 4194304) (hl3 : ∀ x ∈ dats R, x.bl.length ≤ 4194304) :
    Calls Try.prog 8 #[.agg #[.slice A B.length c, .slice A' R.length c']] w fun e w' => e = .returned (.bool (fFsOk ⟨B, dats R⟩)) ∧ Below w.heap.size w w' := by
  obtain ⟨h2, h3⟩ := h2
  have hl3 := lens_in hl3
  have H3 := Lib.hid h3; clear h3
  have HL := Lib.hid hl3; clear hl3
  rw [← fs_same]
  have en : (madeCells (Dat.cells false).toArray (24 * Dat.sz Bool)).toList = fl noF := made_fl false 24
  refine ok_enter 152 Try.func8 rfl rfl rfl ?_
  repeat' (first
    | refine ok_seq ?_
    | refine ok_then ?_
    | refine ok_then_ret ?_
    | refine ok_block ?_
    | (refine ok_cond rfl (fun hc => ?_) (fun hc => ?_) <;> (have hd := hc; (try simp only [decide_eq_true_eq, decide_eq_false_iff_not, Bool.or_eq_true, Bool.or_eq_false_iff, Bool.and_eq_true, Bool.and_eq_false_iff, Bool.not_eq_true', Bool.not_eq_false', bne_iff_ne, beq_iff_eq, bne_eq_false_iff_eq, beq_eq_false_iff_ne, ne_eq, Bool.not_true, Bool.not_false, Bool.false_eq_true, Bool.true_eq_false, inB_true, inB_false] at hd)))
    | refine ok_ret ?_
    | refine ok_skip ?_
    | (refine ok_region (i := 0) ?_; refine ok_m rfl rfl rfl (by exact ms_box rfl rfl rfl) ?_; rintro y1 hy1; refine ok_p rfl rfl rfl (by exact ps_assign rfl rfl) ?_; refine ok_nil ?_; refine ok_env [(1, _)] ⟨rfl, trivial⟩ ?_)
    | (refine ok_region (i := 1) ?_; refine ok_p rfl rfl rfl (by exact ps_field rfl rfl (by exact isw_ga _)) ?_; refine ok_p rfl rfl rfl (by exact ps_load rfl rfl (by exact Rds.cell (rds_box 0 rfl) rfl)) ?_; refine ok_p rfl rfl rfl (by exact ps_len rfl rfl) ?_; refine ok_p rfl rfl rfl (by exact ps_int rfl rfl rfl rfl) ?_; refine ok_p rfl rfl rfl (by exact ps_move rfl rfl) ?_; refine ok_pg rfl rfl rfl rfl rfl (gF _) (fun hp => by (have hpd := hp; (try simp only [decide_eq_true_eq, decide_eq_false_iff_not, Bool.or_eq_true, Bool.or_eq_false_iff, Bool.and_eq_true, Bool.and_eq_false_iff, Bool.not_eq_true', Bool.not_eq_false', bne_iff_ne, beq_iff_eq, bne_eq_false_iff_eq, beq_eq_false_iff_ne, ne_eq, Bool.not_true, Bool.not_false, Bool.false_eq_true, Bool.true_eq_false, inB_true, inB_false] at hpd); exact ps_field rfl (by exact rfl) (by exact isw_ga _))) ?_; refine ok_pg rfl rfl rfl rfl rfl (gF _) (fun hp => by (have hpd := hp; (try simp only [decide_eq_true_eq, decide_eq_false_iff_not, Bool.or_eq_true, Bool.or_eq_false_iff, Bool.and_eq_true, Bool.and_eq_false_iff, Bool.not_eq_true', Bool.not_eq_false', bne_iff_ne, beq_iff_eq, bne_eq_false_iff_eq, beq_eq_false_iff_ne, ne_eq, Bool.not_true, Bool.not_false, Bool.false_eq_true, Bool.true_eq_false, inB_true, inB_false] at hpd); exact ps_load rfl (by (refine og rfl ?_; assumption)) (by exact Rds.cell (rds_box 0 rfl) rfl))) ?_; refine ok_pg rfl rfl rfl rfl rfl (gF _) (fun hp => by (have hpd := hp; (try simp only [decide_eq_true_eq, decide_eq_false_iff_not, Bool.or_eq_true, Bool.or_eq_false_iff, Bool.and_eq_true, Bool.and_eq_false_iff, Bool.not_eq_true', Bool.not_eq_false', bne_iff_ne, beq_iff_eq, bne_eq_false_iff_eq, beq_eq_false_iff_ne, ne_eq, Bool.not_true, Bool.not_false, Bool.false_eq_true, Bool.true_eq_false, inB_true, inB_false] at hpd); exact ps_len rfl (by (refine og rfl ?_; assumption)))) ?_; refine ok_pg rfl rfl rfl rfl rfl (gF _) (fun hp => by (have hpd := hp; (try simp only [decide_eq_true_eq, decide_eq_false_iff_not, Bool.or_eq_true, Bool.or_eq_false_iff, Bool.and_eq_true, Bool.and_eq_false_iff, Bool.not_eq_true', Bool.not_eq_false', bne_iff_ne, beq_iff_eq, bne_eq_false_iff_eq, beq_eq_false_iff_ne, ne_eq, Bool.not_true, Bool.not_false, Bool.false_eq_true, Bool.true_eq_false, inB_true, inB_false] at hpd); exact ps_int rfl (by (refine og rfl ?_; assumption)) (by exact rfl) rfl)) ?_; refine ok_p rfl rfl rfl (by exact ps_or rfl rfl rfl) ?_; refine ok_nil ?_; refine ok_env [(1, _), (19, _)] ⟨rfl, rfl, trivial⟩ ?_)
    | (refine ok_region (i := 2) ?_; refine ok_p rfl rfl rfl (by exact ps_assign rfl rfl) ?_; refine ok_nil ?_; refine ok_env [(2, _)] ⟨rfl, trivial⟩ ?_)
    | (refine ok_region (i := 3) ?_; refine ok_m rfl rfl rfl (by exact ms_make (n := 24) (z := Dat.cells false) rfl rfl rfl (by omega) (by omega)) ?_; rintro y20 hy20; refine ok_p rfl rfl rfl (by exact ps_assign rfl rfl) ?_; refine ok_nil ?_; refine ok_env [(1, _), (3, _)] ⟨rfl, rfl, trivial⟩ ?_)
    | (refine ok_region (i := 4) ?_; refine ok_p rfl rfl rfl (by exact ps_assign rfl rfl) ?_; refine ok_nil ?_; refine ok_env [(1, _), (3, _), (4, _)] ⟨rfl, rfl, rfl, trivial⟩ ?_))
  · rw [sOk_head (x := ⟨B, dats R⟩) (by simp only [dats_len]; omega)]
    exact ok_endL (vs := [_]) rfl ⟨rfl, trivial⟩ (fun w' hw => ⟨rfl, hw.below⟩)
  have hB : B.length = 24 := by omega
  have hR : R.length ≤ 6 := by omega
  have hfin := sOk_fits (x := ⟨B, dats R⟩) hB (by simp only [dats_len]; exact hR)
  simp only at hfin
  clear hc hd
  refine ok_loop (ι := SsI B R) (fun q => R.length - q.k) (fun q => ([(1, pt (ga (y1 0).c) 0), (3, .slice (ga (y20 0).c) 24 24), (4, .int .i64 q.k)], [.row 4 1 (ga (y20 0).c) 24 24 (fl q.U), _], _)) ⟨0, noF, Nat.zero_le _, by simp [noF], rfl⟩ (fun a w he hw => ⟨⟨0, noF, Nat.zero_le _, by simp [noF], rfl⟩, he.sub ⟨rfl, rfl, rfl, trivial⟩, by rw [← en]; exact hw⟩) ?_
  rintro ⟨k, U, hk, hU, hu⟩
  simp only at hk hU hu ⊢
  have HU := Lib.hid hu; clear hu
  repeat' (first
    | refine ok_seq ?_
    | refine ok_then ?_
    | refine ok_then_ret ?_
    | refine ok_block ?_
    | refine ok_in_ret ?_
    | (refine ok_cond rfl (fun hc => ?_) (fun hc => ?_) <;> (have hd := hc; (try simp only [decide_eq_true_eq, decide_eq_false_iff_not, Bool.or_eq_true, Bool.or_eq_false_iff, Bool.and_eq_true, Bool.and_eq_false_iff, Bool.not_eq_true', Bool.not_eq_false', bne_iff_ne, beq_iff_eq, bne_eq_false_iff_eq, beq_eq_false_iff_ne, ne_eq, Bool.not_true, Bool.not_false, Bool.false_eq_true, Bool.true_eq_false, inB_true, inB_false] at hd)))
    | refine ok_ret ?_
    | refine ok_exit ?_
    | refine ok_skip ?_
    | (refine ok_region (i := 5) ?_; refine ok_p rfl rfl rfl (by exact ps_move rfl rfl) ?_; refine ok_p rfl rfl rfl (by exact ps_field rfl rfl (by exact isw_ga _)) ?_; refine ok_p rfl rfl rfl (by exact ps_load rfl rfl (by exact Rds.cell (rds_box 1 rfl) rfl)) ?_; refine ok_p rfl rfl rfl (by exact ps_len rfl rfl) ?_; refine ok_p rfl rfl rfl (by exact ps_int rfl rfl rfl rfl) ?_; refine ok_nil ?_; refine ok_env [(1, _), (3, _), (4, _), (25, _)] ⟨rfl, rfl, rfl, rfl, trivial⟩ ?_)
    | (refine ok_region (i := 7) ?_; refine ok_p rfl rfl rfl (by exact ps_field rfl rfl (by exact isw_ga _)) ?_; refine ok_p rfl rfl rfl (by exact ps_load rfl rfl (by exact Rds.cell (rds_box 1 rfl) rfl)) ?_; refine ok_p rfl rfl rfl (by exact ps_move rfl rfl) ?_; refine ok_p rfl rfl rfl (by exact ps_indexN rfl rfl rfl (by omega) (by exact isw_of (isS_fl (by assumption) (by omega)))) ?_; refine ok_p rfl rfl rfl (by exact ps_loadsF rfl rfl (by exact rds_rf (by assumption) (by exact List.mem_cons_self)) (by rfl) (by rfl) (by omega) rfl) ?_; refine ok_m rfl rfl rfl (by exact ms_alloc rfl) ?_; rintro y5 hy5; refine ok_m_ rfl rfl (by exact ms_store 0 rfl rfl rfl rfl rfl rfl rfl rfl) ?_; rintro y_ hy_; refine ok_nil ?_; refine ok_env [(1, _), (3, _), (4, _), (5, _)] ⟨rfl, rfl, rfl, rfl, trivial⟩ ?_)
    | (refine ok_draw (id := 8) 45 rfl (by kernel_rfl) (by kernel_rfl) rfl (by repeat (first | exact pq_body | refine pq_then ?_ | refine pq_in ?_)) [0, 1, 2, 3, 4, 5, 6, 7, 8, 9, 10, 11, 12, 13, 14, 15, 16, 17, 18, 19, 20, 21, 22, 23] (by decide) rfl ?_; refine okT_take (i := 0) rfl (by kernel_rfl) rfl rfl rfl (by exact ps_field rfl rfl (by exact isw_ga _)) ?_; refine okT_take (i := 1) rfl (by kernel_rfl) rfl rfl rfl (by exact ps_load rfl rfl (by exact Rds.cell (rds_box 0 rfl) rfl)) ?_; refine okT_one (i := 2) rfl rfl (by kernel_rfl) rfl rfl rfl (by exact ms_s3 rfl rfl rfl rfl (fun _ _ w hw => xs_in _ _ _ w)) (fun y w _ h => by exact h) ?_; rintro y35 hy35; refine okT_take (i := 3) rfl (by kernel_rfl) rfl rfl rfl (by exact ps_not rfl rfl) ?_; refine okT_take (i := 4) rfl (by kernel_rfl) rfl rfl rfl (by exact ps_move rfl rfl) ?_; refine okT_take_g1 (i := 5) rfl (by kernel_rfl) rfl rfl rfl rfl rfl (gF _) (fun hp => by (have hpd := hp; (try simp only [decide_eq_true_eq, decide_eq_false_iff_not, Bool.or_eq_true, Bool.or_eq_false_iff, Bool.and_eq_true, Bool.and_eq_false_iff, Bool.not_eq_true', Bool.not_eq_false', bne_iff_ne, beq_iff_eq, bne_eq_false_iff_eq, beq_eq_false_iff_ne, ne_eq, Bool.not_true, Bool.not_false, Bool.false_eq_true, Bool.true_eq_false, inB_true, inB_false] at hpd); exact ps_field rfl (by exact rfl) (by exact isw_ga _))) ?_; refine okT_take_g1 (i := 6) rfl (by kernel_rfl) rfl rfl rfl rfl rfl (gF _) (fun hp => by (have hpd := hp; (try simp only [decide_eq_true_eq, decide_eq_false_iff_not, Bool.or_eq_true, Bool.or_eq_false_iff, Bool.and_eq_true, Bool.and_eq_false_iff, Bool.not_eq_true', Bool.not_eq_false', bne_iff_ne, beq_iff_eq, bne_eq_false_iff_eq, beq_eq_false_iff_ne, ne_eq, Bool.not_true, Bool.not_false, Bool.false_eq_true, Bool.true_eq_false, inB_true, inB_false] at hpd); exact ps_load rfl (by (refine og rfl ?_; assumption)) (by exact Rds.cell (rds_box 0 rfl) rfl))) ?_; refine okT_one_g1 (i := 7) rfl rfl (by kernel_rfl) rfl rfl rfl rfl rfl (gF _) (fun hp => by (have hpd := hp; (try simp only [decide_eq_true_eq, decide_eq_false_iff_not, Bool.or_eq_true, Bool.or_eq_false_iff, Bool.and_eq_true, Bool.and_eq_false_iff, Bool.not_eq_true', Bool.not_eq_false', bne_iff_ne, beq_iff_eq, bne_eq_false_iff_eq, beq_eq_false_iff_ne, ne_eq, Bool.not_true, Bool.not_false, Bool.false_eq_true, Bool.true_eq_false, inB_true, inB_false] at hpd); exact ms_s3 rfl (by (refine og rfl ?_; assumption)) rfl rfl (fun _ _ w hw => xs_in _ _ _ w))) (fun w h => by exact h) ?_; refine okT_take_g1 (i := 8) rfl (by kernel_rfl) rfl rfl rfl rfl rfl (gF _) (fun hp => by (have hpd := hp; (try simp only [decide_eq_true_eq, decide_eq_false_iff_not, Bool.or_eq_true, Bool.or_eq_false_iff, Bool.and_eq_true, Bool.and_eq_false_iff, Bool.not_eq_true', Bool.not_eq_false', bne_iff_ne, beq_iff_eq, bne_eq_false_iff_eq, beq_eq_false_iff_ne, ne_eq, Bool.not_true, Bool.not_false, Bool.false_eq_true, Bool.true_eq_false, inB_true, inB_false] at hpd); exact ps_not rfl (by (refine og rfl ?_; assumption)))) ?_; refine okT_take (i := 9) rfl (by kernel_rfl) rfl rfl rfl (by exact ps_or rfl rfl rfl) ?_; refine okT_take (i := 10) rfl (by kernel_rfl) rfl rfl rfl (by exact ps_move rfl rfl) ?_; refine okT_take_g1 (i := 11) rfl (by kernel_rfl) rfl rfl rfl rfl rfl (gF _) (fun hp => by (have hpd := hp; (try simp only [decide_eq_true_eq, decide_eq_false_iff_not, Bool.or_eq_true, Bool.or_eq_false_iff, Bool.and_eq_true, Bool.and_eq_false_iff, Bool.not_eq_true', Bool.not_eq_false', bne_iff_ne, beq_iff_eq, bne_eq_false_iff_eq, beq_eq_false_iff_ne, ne_eq, Bool.not_true, Bool.not_false, Bool.false_eq_true, Bool.true_eq_false, inB_true, inB_false] at hpd); exact ps_move rfl (by exact rfl))) ?_; refine okT_take_g1 (i := 12) rfl (by kernel_rfl) rfl rfl rfl rfl rfl (gF _) (fun hp => by (have hpd := hp; (try simp only [decide_eq_true_eq, decide_eq_false_iff_not, Bool.or_eq_true, Bool.or_eq_false_iff, Bool.and_eq_true, Bool.and_eq_false_iff, Bool.not_eq_true', Bool.not_eq_false', bne_iff_ne, beq_iff_eq, bne_eq_false_iff_eq, beq_eq_false_iff_ne, ne_eq, Bool.not_true, Bool.not_false, Bool.false_eq_true, Bool.true_eq_false, inB_true, inB_false] at hpd); exact ps_int rfl (by (refine og rfl ?_; assumption)) (by exact rfl) rfl)) ?_; refine okT_take_g1 (i := 13) rfl (by kernel_rfl) rfl rfl rfl rfl rfl (gF _) (fun hp => by (have hpd := hp; (try simp only [decide_eq_true_eq, decide_eq_false_iff_not, Bool.or_eq_true, Bool.or_eq_false_iff, Bool.and_eq_true, Bool.and_eq_false_iff, Bool.not_eq_true', Bool.not_eq_false', bne_iff_ne, beq_iff_eq, bne_eq_false_iff_eq, beq_eq_false_iff_ne, ne_eq, Bool.not_true, Bool.not_false, Bool.false_eq_true, Bool.true_eq_false, inB_true, inB_false] at hpd); exact ps_move rfl (by (refine og rfl ?_; assumption)))) ?_; refine okT_take_g (i := 14) rfl (by kernel_rfl) rfl rfl rfl rfl rfl (gT _) (fun hq hp hqp => by (have hqd := hq; (try simp only [decide_eq_true_eq, decide_eq_false_iff_not, Bool.or_eq_true, Bool.or_eq_false_iff, Bool.and_eq_true, Bool.and_eq_false_iff, Bool.not_eq_true', Bool.not_eq_false', bne_iff_ne, beq_iff_eq, bne_eq_false_iff_eq, beq_eq_false_iff_ne, ne_eq, Bool.not_true, Bool.not_false, Bool.false_eq_true, Bool.true_eq_false, inB_true, inB_false] at hqd); have hpd := hp; (try simp only [decide_eq_true_eq, decide_eq_false_iff_not, Bool.or_eq_true, Bool.or_eq_false_iff, Bool.and_eq_true, Bool.and_eq_false_iff, Bool.not_eq_true', Bool.not_eq_false', bne_iff_ne, beq_iff_eq, bne_eq_false_iff_eq, beq_eq_false_iff_ne, ne_eq, Bool.not_true, Bool.not_false, Bool.false_eq_true, Bool.true_eq_false, inB_true, inB_false] at hpd); exact ps_field rfl (by exact rfl) (by exact isw_ga _))) ?_; refine okT_take_g (i := 15) rfl (by kernel_rfl) rfl rfl rfl rfl rfl (gT _) (fun hq hp hqp => by (have hqd := hq; (try simp only [decide_eq_true_eq, decide_eq_false_iff_not, Bool.or_eq_true, Bool.or_eq_false_iff, Bool.and_eq_true, Bool.and_eq_false_iff, Bool.not_eq_true', Bool.not_eq_false', bne_iff_ne, beq_iff_eq, bne_eq_false_iff_eq, beq_eq_false_iff_ne, ne_eq, Bool.not_true, Bool.not_false, Bool.false_eq_true, Bool.true_eq_false, inB_true, inB_false] at hqd); have hpd := hp; (try simp only [decide_eq_true_eq, decide_eq_false_iff_not, Bool.or_eq_true, Bool.or_eq_false_iff, Bool.and_eq_true, Bool.and_eq_false_iff, Bool.not_eq_true', Bool.not_eq_false', bne_iff_ne, beq_iff_eq, bne_eq_false_iff_eq, beq_eq_false_iff_ne, ne_eq, Bool.not_true, Bool.not_false, Bool.false_eq_true, Bool.true_eq_false, inB_true, inB_false] at hpd); exact ps_load rfl (by (refine og rfl ?_; assumption)) (by exact Rds.cell (rds_box 2 rfl) rfl))) ?_; refine okT_take_g (i := 16) rfl (by kernel_rfl) rfl rfl rfl rfl rfl (gT _) (fun hq hp hqp => by (have hqd := hq; (try simp only [decide_eq_true_eq, decide_eq_false_iff_not, Bool.or_eq_true, Bool.or_eq_false_iff, Bool.and_eq_true, Bool.and_eq_false_iff, Bool.not_eq_true', Bool.not_eq_false', bne_iff_ne, beq_iff_eq, bne_eq_false_iff_eq, beq_eq_false_iff_ne, ne_eq, Bool.not_true, Bool.not_false, Bool.false_eq_true, Bool.true_eq_false, inB_true, inB_false] at hqd); have hpd := hp; (try simp only [decide_eq_true_eq, decide_eq_false_iff_not, Bool.or_eq_true, Bool.or_eq_false_iff, Bool.and_eq_true, Bool.and_eq_false_iff, Bool.not_eq_true', Bool.not_eq_false', bne_iff_ne, beq_iff_eq, bne_eq_false_iff_eq, beq_eq_false_iff_ne, ne_eq, Bool.not_true, Bool.not_false, Bool.false_eq_true, Bool.true_eq_false, inB_true, inB_false] at hpd); exact ps_move rfl (by exact rfl))) ?_; refine okT_take_g (i := 17) rfl (by kernel_rfl) rfl rfl rfl rfl rfl (gT _) (fun hq hp hqp => by (have hqd := hq; (try simp only [decide_eq_true_eq, decide_eq_false_iff_not, Bool.or_eq_true, Bool.or_eq_false_iff, Bool.and_eq_true, Bool.and_eq_false_iff, Bool.not_eq_true', Bool.not_eq_false', bne_iff_ne, beq_iff_eq, bne_eq_false_iff_eq, beq_eq_false_iff_ne, ne_eq, Bool.not_true, Bool.not_false, Bool.false_eq_true, Bool.true_eq_false, inB_true, inB_false] at hqd); have hpd := hp; (try simp only [decide_eq_true_eq, decide_eq_false_iff_not, Bool.or_eq_true, Bool.or_eq_false_iff, Bool.and_eq_true, Bool.and_eq_false_iff, Bool.not_eq_true', Bool.not_eq_false', bne_iff_ne, beq_iff_eq, bne_eq_false_iff_eq, beq_eq_false_iff_ne, ne_eq, Bool.not_true, Bool.not_false, Bool.false_eq_true, Bool.true_eq_false, inB_true, inB_false] at hpd); exact ps_sub rfl (by (refine og rfl ?_; assumption)) (by exact rfl) (by omega))) ?_; refine okT_take_g (i := 18) rfl (by kernel_rfl) rfl rfl rfl rfl rfl (gT _) (fun hq hp hqp => by (have hqd := hq; (try simp only [decide_eq_true_eq, decide_eq_false_iff_not, Bool.or_eq_true, Bool.or_eq_false_iff, Bool.and_eq_true, Bool.and_eq_false_iff, Bool.not_eq_true', Bool.not_eq_false', bne_iff_ne, beq_iff_eq, bne_eq_false_iff_eq, beq_eq_false_iff_ne, ne_eq, Bool.not_true, Bool.not_false, Bool.false_eq_true, Bool.true_eq_false, inB_true, inB_false] at hqd); have hpd := hp; (try simp only [decide_eq_true_eq, decide_eq_false_iff_not, Bool.or_eq_true, Bool.or_eq_false_iff, Bool.and_eq_true, Bool.and_eq_false_iff, Bool.not_eq_true', Bool.not_eq_false', bne_iff_ne, beq_iff_eq, bne_eq_false_iff_eq, beq_eq_false_iff_ne, ne_eq, Bool.not_true, Bool.not_false, Bool.false_eq_true, Bool.true_eq_false, inB_true, inB_false] at hpd); exact ps_index rfl (by (refine og rfl ?_; assumption)) (by (refine og rfl ?_; assumption)) (by omega) (by exact isw_of (isS_fl (by assumption) (by omega))))) ?_; refine okT_take_g (i := 19) rfl (by kernel_rfl) rfl rfl rfl rfl rfl (gT _) (fun hq hp hqp => by (have hqd := hq; (try simp only [decide_eq_true_eq, decide_eq_false_iff_not, Bool.or_eq_true, Bool.or_eq_false_iff, Bool.and_eq_true, Bool.and_eq_false_iff, Bool.not_eq_true', Bool.not_eq_false', bne_iff_ne, beq_iff_eq, bne_eq_false_iff_eq, beq_eq_false_iff_ne, ne_eq, Bool.not_true, Bool.not_false, Bool.false_eq_true, Bool.true_eq_false, inB_true, inB_false] at hqd); have hpd := hp; (try simp only [decide_eq_true_eq, decide_eq_false_iff_not, Bool.or_eq_true, Bool.or_eq_false_iff, Bool.and_eq_true, Bool.and_eq_false_iff, Bool.not_eq_true', Bool.not_eq_false', bne_iff_ne, beq_iff_eq, bne_eq_false_iff_eq, beq_eq_false_iff_ne, ne_eq, Bool.not_true, Bool.not_false, Bool.false_eq_true, Bool.true_eq_false, inB_true, inB_false] at hpd); exact ps_field rfl (by (refine og rfl ?_; assumption)) (by exact isw_of (isS_fl (by assumption) (by omega))))) ?_; refine okT_take_g (i := 20) rfl (by kernel_rfl) rfl rfl rfl rfl rfl (gT _) (fun hq hp hqp => by (have hqd := hq; (try simp only [decide_eq_true_eq, decide_eq_false_iff_not, Bool.or_eq_true, Bool.or_eq_false_iff, Bool.and_eq_true, Bool.and_eq_false_iff, Bool.not_eq_true', Bool.not_eq_false', bne_iff_ne, beq_iff_eq, bne_eq_false_iff_eq, beq_eq_false_iff_ne, ne_eq, Bool.not_true, Bool.not_false, Bool.false_eq_true, Bool.true_eq_false, inB_true, inB_false] at hqd); have hpd := hp; (try simp only [decide_eq_true_eq, decide_eq_false_iff_not, Bool.or_eq_true, Bool.or_eq_false_iff, Bool.and_eq_true, Bool.and_eq_false_iff, Bool.not_eq_true', Bool.not_eq_false', bne_iff_ne, beq_iff_eq, bne_eq_false_iff_eq, beq_eq_false_iff_ne, ne_eq, Bool.not_true, Bool.not_false, Bool.false_eq_true, Bool.true_eq_false, inB_true, inB_false] at hpd); exact ps_load rfl (by (refine og rfl ?_; assumption)) (by exact Rds.cell (rds_rf (by assumption) (by exact List.mem_cons_self)) (by exact fl_at0 _ _ (by omega) (by decide))))) ?_; refine okT_take_g (i := 21) rfl (by kernel_rfl) rfl rfl rfl rfl rfl (gT _) (fun hq hp hqp => by (have hqd := hq; (try simp only [decide_eq_true_eq, decide_eq_false_iff_not, Bool.or_eq_true, Bool.or_eq_false_iff, Bool.and_eq_true, Bool.and_eq_false_iff, Bool.not_eq_true', Bool.not_eq_false', bne_iff_ne, beq_iff_eq, bne_eq_false_iff_eq, beq_eq_false_iff_ne, ne_eq, Bool.not_true, Bool.not_false, Bool.false_eq_true, Bool.true_eq_false, inB_true, inB_false] at hqd); have hpd := hp; (try simp only [decide_eq_true_eq, decide_eq_false_iff_not, Bool.or_eq_true, Bool.or_eq_false_iff, Bool.and_eq_true, Bool.and_eq_false_iff, Bool.not_eq_true', Bool.not_eq_false', bne_iff_ne, beq_iff_eq, bne_eq_false_iff_eq, beq_eq_false_iff_ne, ne_eq, Bool.not_true, Bool.not_false, Bool.false_eq_true, Bool.true_eq_false, inB_true, inB_false] at hpd); exact ps_field rfl (by exact rfl) (by exact isw_ga _))) ?_; refine okT_take_g (i := 22) rfl (by kernel_rfl) rfl rfl rfl rfl rfl (gT _) (fun hq hp hqp => by (have hqd := hq; (try simp only [decide_eq_true_eq, decide_eq_false_iff_not, Bool.or_eq_true, Bool.or_eq_false_iff, Bool.and_eq_true, Bool.and_eq_false_iff, Bool.not_eq_true', Bool.not_eq_false', bne_iff_ne, beq_iff_eq, bne_eq_false_iff_eq, beq_eq_false_iff_ne, ne_eq, Bool.not_true, Bool.not_false, Bool.false_eq_true, Bool.true_eq_false, inB_true, inB_false] at hqd); have hpd := hp; (try simp only [decide_eq_true_eq, decide_eq_false_iff_not, Bool.or_eq_true, Bool.or_eq_false_iff, Bool.and_eq_true, Bool.and_eq_false_iff, Bool.not_eq_true', Bool.not_eq_false', bne_iff_ne, beq_iff_eq, bne_eq_false_iff_eq, beq_eq_false_iff_ne, ne_eq, Bool.not_true, Bool.not_false, Bool.false_eq_true, Bool.true_eq_false, inB_true, inB_false] at hpd); exact ps_load rfl (by (refine og rfl ?_; assumption)) (by exact Rds.cell (rds_box 0 rfl) rfl))) ?_; refine okT_take_g (i := 23) rfl (by kernel_rfl) rfl rfl rfl rfl rfl (gT _) (fun hq hp hqp => by (have hqd := hq; (try simp only [decide_eq_true_eq, decide_eq_false_iff_not, Bool.or_eq_true, Bool.or_eq_false_iff, Bool.and_eq_true, Bool.and_eq_false_iff, Bool.not_eq_true', Bool.not_eq_false', bne_iff_ne, beq_iff_eq, bne_eq_false_iff_eq, beq_eq_false_iff_ne, ne_eq, Bool.not_true, Bool.not_false, Bool.false_eq_true, Bool.true_eq_false, inB_true, inB_false] at hqd); have hpd := hp; (try simp only [decide_eq_true_eq, decide_eq_false_iff_not, Bool.or_eq_true, Bool.or_eq_false_iff, Bool.and_eq_true, Bool.and_eq_false_iff, Bool.not_eq_true', Bool.not_eq_false', bne_iff_ne, beq_iff_eq, bne_eq_false_iff_eq, beq_eq_false_iff_ne, ne_eq, Bool.not_true, Bool.not_false, Bool.false_eq_true, Bool.true_eq_false, inB_true, inB_false] at hpd); exact ps_int rfl (by (refine og rfl ?_; assumption)) (by (refine og rfl ?_; assumption)) rfl)) ?_; refine okT_take_g1 (i := 24) rfl (by kernel_rfl) rfl rfl rfl rfl rfl (gF _) (fun hp => by (have hpd := hp; (try simp only [decide_eq_true_eq, decide_eq_false_iff_not, Bool.or_eq_true, Bool.or_eq_false_iff, Bool.and_eq_true, Bool.and_eq_false_iff, Bool.not_eq_true', Bool.not_eq_false', bne_iff_ne, beq_iff_eq, bne_eq_false_iff_eq, beq_eq_false_iff_ne, ne_eq, Bool.not_true, Bool.not_false, Bool.false_eq_true, Bool.true_eq_false, inB_true, inB_false] at hpd); exact ps_and_in (by assumption) rfl rfl rfl)) ?_; refine okT_take (i := 25) rfl (by kernel_rfl) rfl rfl rfl (by exact ps_or rfl rfl rfl) ?_; refine okT_take (i := 26) rfl (by kernel_rfl) rfl rfl rfl (by exact ps_move rfl rfl) ?_; refine okT_take_g1 (i := 27) rfl (by kernel_rfl) rfl rfl rfl rfl rfl (gF _) (fun hp => by (have hpd := hp; (try simp only [decide_eq_true_eq, decide_eq_false_iff_not, Bool.or_eq_true, Bool.or_eq_false_iff, Bool.and_eq_true, Bool.and_eq_false_iff, Bool.not_eq_true', Bool.not_eq_false', bne_iff_ne, beq_iff_eq, bne_eq_false_iff_eq, beq_eq_false_iff_ne, ne_eq, Bool.not_true, Bool.not_false, Bool.false_eq_true, Bool.true_eq_false, inB_true, inB_false] at hpd); exact ps_field rfl (by exact rfl) (by exact isw_ga _))) ?_; refine okT_take_g1 (i := 28) rfl (by kernel_rfl) rfl rfl rfl rfl rfl (gF _) (fun hp => by (have hpd := hp; (try simp only [decide_eq_true_eq, decide_eq_false_iff_not, Bool.or_eq_true, Bool.or_eq_false_iff, Bool.and_eq_true, Bool.and_eq_false_iff, Bool.not_eq_true', Bool.not_eq_false', bne_iff_ne, beq_iff_eq, bne_eq_false_iff_eq, beq_eq_false_iff_ne, ne_eq, Bool.not_true, Bool.not_false, Bool.false_eq_true, Bool.true_eq_false, inB_true, inB_false] at hpd); exact ps_load rfl (by (refine og rfl ?_; assumption)) (by exact Rds.cell (rds_box 0 rfl) rfl))) ?_; refine okT_take_g1 (i := 29) rfl (by kernel_rfl) rfl rfl rfl rfl rfl (gF _) (fun hp => by (have hpd := hp; (try simp only [decide_eq_true_eq, decide_eq_false_iff_not, Bool.or_eq_true, Bool.or_eq_false_iff, Bool.and_eq_true, Bool.and_eq_false_iff, Bool.not_eq_true', Bool.not_eq_false', bne_iff_ne, beq_iff_eq, bne_eq_false_iff_eq, beq_eq_false_iff_ne, ne_eq, Bool.not_true, Bool.not_false, Bool.false_eq_true, Bool.true_eq_false, inB_true, inB_false] at hpd); exact ps_int rfl (by (refine og rfl ?_; assumption)) (by exact rfl) rfl)) ?_; refine okT_take (i := 30) rfl (by kernel_rfl) rfl rfl rfl (by exact ps_or rfl rfl rfl) ?_; refine okT_take (i := 31) rfl (by kernel_rfl) rfl rfl rfl (by exact ps_move rfl rfl) ?_; refine okT_take_g1 (i := 32) rfl (by kernel_rfl) rfl rfl rfl rfl rfl (gF _) (fun hp => by (have hpd := hp; (try simp only [decide_eq_true_eq, decide_eq_false_iff_not, Bool.or_eq_true, Bool.or_eq_false_iff, Bool.and_eq_true, Bool.and_eq_false_iff, Bool.not_eq_true', Bool.not_eq_false', bne_iff_ne, beq_iff_eq, bne_eq_false_iff_eq, beq_eq_false_iff_ne, ne_eq, Bool.not_true, Bool.not_false, Bool.false_eq_true, Bool.true_eq_false, inB_true, inB_false] at hpd); exact ps_field rfl (by exact rfl) (by exact isw_ga _))) ?_; refine okT_take_g1 (i := 33) rfl (by kernel_rfl) rfl rfl rfl rfl rfl (gF _) (fun hp => by (have hpd := hp; (try simp only [decide_eq_true_eq, decide_eq_false_iff_not, Bool.or_eq_true, Bool.or_eq_false_iff, Bool.and_eq_true, Bool.and_eq_false_iff, Bool.not_eq_true', Bool.not_eq_false', bne_iff_ne, beq_iff_eq, bne_eq_false_iff_eq, beq_eq_false_iff_ne, ne_eq, Bool.not_true, Bool.not_false, Bool.false_eq_true, Bool.true_eq_false, inB_true, inB_false] at hpd); exact ps_load rfl (by (refine og rfl ?_; assumption)) (by exact Rds.cell (rds_box 0 rfl) rfl))) ?_; refine okT_take_g1 (i := 34) rfl (by kernel_rfl) rfl rfl rfl rfl rfl (gF _) (fun hp => by (have hpd := hp; (try simp only [decide_eq_true_eq, decide_eq_false_iff_not, Bool.or_eq_true, Bool.or_eq_false_iff, Bool.and_eq_true, Bool.and_eq_false_iff, Bool.not_eq_true', Bool.not_eq_false', bne_iff_ne, beq_iff_eq, bne_eq_false_iff_eq, beq_eq_false_iff_ne, ne_eq, Bool.not_true, Bool.not_false, Bool.false_eq_true, Bool.true_eq_false, inB_true, inB_false] at hpd); exact ps_int rfl (by (refine og rfl ?_; assumption)) (by exact rfl) rfl)) ?_; refine okT_take (i := 35) rfl (by kernel_rfl) rfl rfl rfl (by exact ps_or rfl rfl rfl) ?_; refine okT_take (i := 36) rfl (by kernel_rfl) rfl rfl rfl (by exact ps_move rfl rfl) ?_; refine okT_take_g1 (i := 37) rfl (by kernel_rfl) rfl rfl rfl rfl rfl (gF _) (fun hp => by (have hpd := hp; (try simp only [decide_eq_true_eq, decide_eq_false_iff_not, Bool.or_eq_true, Bool.or_eq_false_iff, Bool.and_eq_true, Bool.and_eq_false_iff, Bool.not_eq_true', Bool.not_eq_false', bne_iff_ne, beq_iff_eq, bne_eq_false_iff_eq, beq_eq_false_iff_ne, ne_eq, Bool.not_true, Bool.not_false, Bool.false_eq_true, Bool.true_eq_false, inB_true, inB_false] at hpd); exact ps_field rfl (by exact rfl) (by exact isw_ga _))) ?_; refine okT_take_g1 (i := 38) rfl (by kernel_rfl) rfl rfl rfl rfl rfl (gF _) (fun hp => by (have hpd := hp; (try simp only [decide_eq_true_eq, decide_eq_false_iff_not, Bool.or_eq_true, Bool.or_eq_false_iff, Bool.and_eq_true, Bool.and_eq_false_iff, Bool.not_eq_true', Bool.not_eq_false', bne_iff_ne, beq_iff_eq, bne_eq_false_iff_eq, beq_eq_false_iff_ne, ne_eq, Bool.not_true, Bool.not_false, Bool.false_eq_true, Bool.true_eq_false, inB_true, inB_false] at hpd); exact ps_load rfl (by (refine og rfl ?_; assumption)) (by exact Rds.cell (rds_box 0 rfl) rfl))) ?_; refine okT_take_g1 (i := 39) rfl (by kernel_rfl) rfl rfl rfl rfl rfl (gF _) (fun hp => by (have hpd := hp; (try simp only [decide_eq_true_eq, decide_eq_false_iff_not, Bool.or_eq_true, Bool.or_eq_false_iff, Bool.and_eq_true, Bool.and_eq_false_iff, Bool.not_eq_true', Bool.not_eq_false', bne_iff_ne, beq_iff_eq, bne_eq_false_iff_eq, beq_eq_false_iff_ne, ne_eq, Bool.not_true, Bool.not_false, Bool.false_eq_true, Bool.true_eq_false, inB_true, inB_false] at hpd); exact ps_len rfl (by (refine og rfl ?_; assumption)))) ?_; refine okT_take_g1 (i := 40) rfl (by kernel_rfl) rfl rfl rfl rfl rfl (gF _) (fun hp => by (have hpd := hp; (try simp only [decide_eq_true_eq, decide_eq_false_iff_not, Bool.or_eq_true, Bool.or_eq_false_iff, Bool.and_eq_true, Bool.and_eq_false_iff, Bool.not_eq_true', Bool.not_eq_false', bne_iff_ne, beq_iff_eq, bne_eq_false_iff_eq, beq_eq_false_iff_ne, ne_eq, Bool.not_true, Bool.not_false, Bool.false_eq_true, Bool.true_eq_false, inB_true, inB_false] at hpd); exact ps_field rfl (by exact rfl) (by exact isw_ga _))) ?_; refine okT_take_g1 (i := 41) rfl (by kernel_rfl) rfl rfl rfl rfl rfl (gF _) (fun hp => by (have hpd := hp; (try simp only [decide_eq_true_eq, decide_eq_false_iff_not, Bool.or_eq_true, Bool.or_eq_false_iff, Bool.and_eq_true, Bool.and_eq_false_iff, Bool.not_eq_true', Bool.not_eq_false', bne_iff_ne, beq_iff_eq, bne_eq_false_iff_eq, beq_eq_false_iff_ne, ne_eq, Bool.not_true, Bool.not_false, Bool.false_eq_true, Bool.true_eq_false, inB_true, inB_false] at hpd); exact ps_load rfl (by (refine og rfl ?_; assumption)) (by exact Rds.cell (rds_box 0 rfl) rfl))) ?_; refine okT_one_g1 (i := 42) rfl rfl (by kernel_rfl) rfl rfl rfl rfl rfl (gF _) (fun hp => by (have hpd := hp; (try simp only [decide_eq_true_eq, decide_eq_false_iff_not, Bool.or_eq_true, Bool.or_eq_false_iff, Bool.and_eq_true, Bool.and_eq_false_iff, Bool.not_eq_true', Bool.not_eq_false', bne_iff_ne, beq_iff_eq, bne_eq_false_iff_eq, beq_eq_false_iff_ne, ne_eq, Bool.not_true, Bool.not_false, Bool.false_eq_true, Bool.true_eq_false, inB_true, inB_false] at hpd); exact ms_s1 rfl (by (refine og rfl ?_; assumption)) (fun _ _ w hw => need_c _ ⟨by omega, by omega⟩ w))) (fun w h => by exact h) ?_; refine okT_take_g1 (i := 43) rfl (by kernel_rfl) rfl rfl rfl rfl rfl (gF _) (fun hp => by (have hpd := hp; (try simp only [decide_eq_true_eq, decide_eq_false_iff_not, Bool.or_eq_true, Bool.or_eq_false_iff, Bool.and_eq_true, Bool.and_eq_false_iff, Bool.not_eq_true', Bool.not_eq_false', bne_iff_ne, beq_iff_eq, bne_eq_false_iff_eq, beq_eq_false_iff_ne, ne_eq, Bool.not_true, Bool.not_false, Bool.false_eq_true, Bool.true_eq_false, inB_true, inB_false] at hpd); exact ps_int rfl (by (refine og rfl ?_; assumption)) (by (refine og rfl ?_; assumption)) rfl)) ?_; refine okT_take (i := 44) rfl (by kernel_rfl) rfl rfl rfl (by exact ps_or rfl rfl rfl) ?_; refine okT_done (by kernel_rfl) ?_; refine ok_nil ?_; refine ok_env [(1, _), (3, _), (4, _), (5, _), (77, _)] ⟨rfl, rfl, rfl, rfl, rfl, trivial⟩ ?_)
    | (refine ok_region (i := 9) ?_; refine ok_p rfl rfl rfl (by exact ps_assign rfl rfl) ?_; refine ok_nil ?_; refine ok_env [(2, _)] ⟨rfl, trivial⟩ ?_)
    | (refine ok_region (i := 10) ?_; refine ok_p rfl rfl rfl (by exact ps_assign rfl rfl) ?_; refine ok_nil ?_; refine ok_env [(1, _), (3, _), (4, _), (5, _), (6, _)] ⟨rfl, rfl, rfl, rfl, rfl, trivial⟩ ?_)
    | (refine ok_region (i := 20) ?_; refine ok_p rfl rfl rfl (by exact ps_assign rfl rfl) ?_; refine ok_nil ?_; refine ok_env [(1, _), (3, _), (9, _)] ⟨rfl, rfl, rfl, trivial⟩ ?_))
  · have e : sFsOk ⟨B, dats R⟩ = false := by
      rw [hfin, HU.out, dats_drop (show k < R.length by omega), filesF, if_neg]
      · rfl
      · rw [prevOk_K, show k - 1 = ((k : Int) - 1).toNat by omega]
        unfold fileOk0
        simp only [Bool.and_eq_true, Bool.not_eq_true', Bool.and_eq_false_iff, decide_eq_false_iff_not, inB_true, decide_eq_true_eq]
        rintro ⟨⟨⟨⟨q1, q2⟩, q3⟩, q4⟩, q5⟩
        have q4 : ((In.inn (nth R k).d).length : Int) = ceil8 (nth R k).d.ln := q4
        omega
    rw [e]
    exact ok_endL (vs := [_]) rfl ⟨rfl, trivial⟩ (fun w' hw => ⟨rfl, hw.below⟩)
  · have hkR : k < R.length := by omega
    have hb1 : (nth R k).d.bl.length ≤ 4194304 := HL.out k hkR
    have hb2 : Rd w (nth R k).A (fl (nth R k).d.bl) := H3.out k hkR
    have hln : 0 ≤ (nth R k).d.ln ∧ (nth R k).d.ln ≤ 192 := by omega
    have hlen : ((nth R k).d.bl.length : Int) = ceil8 (nth R k).d.ln := hd.2
    have hst : filesF (blkS B) (fun _ => true) (prevK R k) U ((dats R).drop k) = (match useC (blkS B (nth R k).d) 0 U (nth R k).d.bl with
      | some U' => filesF (blkS B) (fun _ => true) (prevK R (k + 1)) U' ((dats R).drop (k + 1))
      | none => none) := by
      rw [dats_drop hkR, filesF, if_pos]
      · rfl
      · rw [prevOk_K, show k - 1 = ((k : Int) - 1).toNat by omega]
        unfold fileOk0
        simp only [Bool.and_eq_true, Bool.not_eq_true', Bool.and_eq_false_iff, decide_eq_false_iff_not, inB_true, decide_eq_true_eq]
        exact ⟨⟨⟨⟨hd.1.1.1.1.1, hd.1.1.1.1.2⟩, hln⟩, hlen⟩, hd.1.1.1.2⟩
    have HS := Lib.hid (HU.out.trans hst); clear hst
    clear hc hd
    generalize hx : (nth R k).d = x at hb1 hb2 hln hlen HS
    refine ok_loop (ι := SuI B x U) (fun q => x.bl.length - q.j) (fun q => ([(1, pt (ga (y1 0).c) 0), (3, .slice (ga (y20 0).c) 24 24), (4, .int .i64 k), (5, pt (ga (y5 0).c) 0), (6, .int .i64 q.j)], [.box (y5 0).c 36 [.int .i64 x.no, .int .i64 x.ow, .slice (nth R k).A x.bl.length (nth R k).c, .int .i64 x.ln, .bool x.sl], .row 4 1 (ga (y20 0).c) 24 24 (fl q.V), _], _)) ⟨0, U, Nat.zero_le _, hU, rfl⟩ (fun a w he hw => ⟨⟨0, U, Nat.zero_le _, hU, rfl⟩, he.sub ⟨rfl, rfl, rfl, rfl, rfl, trivial⟩, by subst hx; exact hw⟩) ?_
    rintro ⟨j, V, hj, hV, hv⟩
    simp only at hj hV hv ⊢
    have HV := Lib.hid hv; clear hv
    unfold ceil8 at hlen
    repeat' (first
      | refine ok_seq ?_
      | refine ok_then ?_
      | refine ok_then_ret ?_
      | refine ok_then_exit ?_
      | refine ok_block ?_
      | refine ok_in_normal ?_
      | refine ok_in_ret ?_
      | refine ok_in_exit ?_
      | (refine ok_cond rfl (fun hc => ?_) (fun hc => ?_) <;> (have hd := hc; (try simp only [decide_eq_true_eq, decide_eq_false_iff_not, Bool.or_eq_true, Bool.or_eq_false_iff, Bool.and_eq_true, Bool.and_eq_false_iff, Bool.not_eq_true', Bool.not_eq_false', bne_iff_ne, beq_iff_eq, bne_eq_false_iff_eq, beq_eq_false_iff_ne, ne_eq, Bool.not_true, Bool.not_false, Bool.false_eq_true, Bool.true_eq_false, inB_true, inB_false] at hd)))
      | refine ok_ret ?_
      | refine ok_exit ?_
      | refine ok_skip ?_
      | (refine ok_region (i := 6) ?_; refine ok_p rfl rfl rfl (by exact ps_move rfl rfl) ?_; refine ok_p rfl rfl rfl (by exact ps_add rfl rfl rfl (by omega)) ?_; refine ok_p rfl rfl rfl (by exact ps_assign rfl rfl) ?_; refine ok_nil ?_; refine ok_env [(1, _), (3, _), (4, _)] ⟨rfl, rfl, rfl, trivial⟩ ?_)
      | (refine ok_region (i := 11) ?_; refine ok_p rfl rfl rfl (by exact ps_move rfl rfl) ?_; refine ok_p rfl rfl rfl (by exact ps_field rfl rfl (by exact isw_ga _)) ?_; refine ok_p rfl rfl rfl (by exact ps_load rfl rfl (by exact Rds.cell (rds_box 0 rfl) rfl)) ?_; refine ok_p rfl rfl rfl (by exact ps_len rfl rfl) ?_; refine ok_p rfl rfl rfl (by exact ps_int rfl rfl rfl rfl) ?_; refine ok_nil ?_; refine ok_env [(1, _), (3, _), (4, _), (5, _), (6, _), (82, _)] ⟨rfl, rfl, rfl, rfl, rfl, rfl, trivial⟩ ?_)
      | (refine ok_region (i := 12) ?_; refine ok_p rfl rfl rfl (by exact ps_move rfl rfl) ?_; refine ok_p rfl rfl rfl (by exact ps_add rfl rfl rfl (by omega)) ?_; refine ok_p rfl rfl rfl (by exact ps_assign rfl rfl) ?_; refine ok_nil ?_; refine ok_env [(1, _), (3, _), (4, _), (5, _), (6, _)] ⟨rfl, rfl, rfl, rfl, rfl, trivial⟩ ?_)
      | (refine ok_region (i := 13) ?_; refine ok_p rfl rfl rfl (by exact ps_field rfl rfl (by exact isw_ga _)) ?_; refine ok_p rfl rfl rfl (by exact ps_load rfl rfl (by exact Rds.cell (rds_box 0 rfl) rfl)) ?_; refine ok_p rfl rfl rfl (by exact ps_move rfl rfl) ?_; refine ok_p rfl rfl rfl (by exact ps_indexN rfl rfl rfl (by omega) (by exact isw_of (isS_fl (by assumption) (by omega)))) ?_; refine ok_p rfl rfl rfl (by exact ps_load rfl rfl (by exact Rds.cell (rds_rf (by assumption) (by exact List.mem_cons_self)) (by exact fl_at0 _ _ (by omega) (by decide)))) ?_; refine ok_p rfl rfl rfl (by exact ps_assign rfl rfl) ?_; refine ok_nil ?_; refine ok_env [(1, _), (3, _), (4, _), (5, _), (6, _), (7, _)] ⟨rfl, rfl, rfl, rfl, rfl, rfl, trivial⟩ ?_)
      | (refine ok_region (i := 14) ?_; refine ok_p rfl rfl rfl (by exact ps_move rfl rfl) ?_; refine ok_p rfl rfl rfl (by exact ps_int rfl rfl rfl rfl) ?_; refine ok_p rfl rfl rfl (by exact ps_move rfl rfl) ?_; refine ok_pg rfl rfl rfl rfl rfl (gF _) (fun hp => by (have hpd := hp; (try simp only [decide_eq_true_eq, decide_eq_false_iff_not, Bool.or_eq_true, Bool.or_eq_false_iff, Bool.and_eq_true, Bool.and_eq_false_iff, Bool.not_eq_true', Bool.not_eq_false', bne_iff_ne, beq_iff_eq, bne_eq_false_iff_eq, beq_eq_false_iff_ne, ne_eq, Bool.not_true, Bool.not_false, Bool.false_eq_true, Bool.true_eq_false, inB_true, inB_false] at hpd); exact ps_move rfl (by exact rfl))) ?_; refine ok_pg rfl rfl rfl rfl rfl (gF _) (fun hp => by (have hpd := hp; (try simp only [decide_eq_true_eq, decide_eq_false_iff_not, Bool.or_eq_true, Bool.or_eq_false_iff, Bool.and_eq_true, Bool.and_eq_false_iff, Bool.not_eq_true', Bool.not_eq_false', bne_iff_ne, beq_iff_eq, bne_eq_false_iff_eq, beq_eq_false_iff_ne, ne_eq, Bool.not_true, Bool.not_false, Bool.false_eq_true, Bool.true_eq_false, inB_true, inB_false] at hpd); exact ps_int rfl (by (refine og rfl ?_; assumption)) (by exact rfl) rfl)) ?_; refine ok_p rfl rfl rfl (by exact ps_or rfl rfl rfl) ?_; refine ok_p rfl rfl rfl (by exact ps_move rfl rfl) ?_; refine ok_pg rfl rfl rfl rfl rfl (gF _) (fun hp => by (have hpd := hp; (try simp only [decide_eq_true_eq, decide_eq_false_iff_not, Bool.or_eq_true, Bool.or_eq_false_iff, Bool.and_eq_true, Bool.and_eq_false_iff, Bool.not_eq_true', Bool.not_eq_false', bne_iff_ne, beq_iff_eq, bne_eq_false_iff_eq, beq_eq_false_iff_ne, ne_eq, Bool.not_true, Bool.not_false, Bool.false_eq_true, Bool.true_eq_false, inB_true, inB_false] at hpd); exact ps_move rfl (by exact rfl))) ?_; refine ok_pg rfl rfl rfl rfl rfl (gF _) (fun hp => by (have hpd := hp; (try simp only [decide_eq_true_eq, decide_eq_false_iff_not, Bool.or_eq_true, Bool.or_eq_false_iff, Bool.and_eq_true, Bool.and_eq_false_iff, Bool.not_eq_true', Bool.not_eq_false', bne_iff_ne, beq_iff_eq, bne_eq_false_iff_eq, beq_eq_false_iff_ne, ne_eq, Bool.not_true, Bool.not_false, Bool.false_eq_true, Bool.true_eq_false, inB_true, inB_false] at hpd); exact ps_move rfl (by exact rfl))) ?_; refine ok_pg rfl rfl rfl rfl rfl (gF _) (fun hp => by (have hpd := hp; (try simp only [decide_eq_true_eq, decide_eq_false_iff_not, Bool.or_eq_true, Bool.or_eq_false_iff, Bool.and_eq_true, Bool.and_eq_false_iff, Bool.not_eq_true', Bool.not_eq_false', bne_iff_ne, beq_iff_eq, bne_eq_false_iff_eq, beq_eq_false_iff_ne, ne_eq, Bool.not_true, Bool.not_false, Bool.false_eq_true, Bool.true_eq_false, inB_true, inB_false] at hpd); exact ps_index rfl (by (refine og rfl ?_; assumption)) (by (refine og rfl ?_; assumption)) ⟨by omega, by omega⟩ (isw_ga _))) ?_; refine ok_pg rfl rfl rfl rfl rfl (gF _) (fun hp => by (have hpd := hp; (try simp only [decide_eq_true_eq, decide_eq_false_iff_not, Bool.or_eq_true, Bool.or_eq_false_iff, Bool.and_eq_true, Bool.and_eq_false_iff, Bool.not_eq_true', Bool.not_eq_false', bne_iff_ne, beq_iff_eq, bne_eq_false_iff_eq, beq_eq_false_iff_ne, ne_eq, Bool.not_true, Bool.not_false, Bool.false_eq_true, Bool.true_eq_false, inB_true, inB_false] at hpd); exact ps_loadR (α := Bool) (u := .bool (nth V (nth x.bl j).toNat)) 1 rfl (by (refine og rfl ?_; assumption)) rfl (by omega) rfl rfl)) ?_; refine ok_p rfl rfl rfl (by exact ps_or rfl rfl rfl) ?_; refine ok_p rfl rfl rfl (by exact ps_move rfl rfl) ?_; refine ok_pg rfl rfl rfl rfl rfl (gF _) (fun hp => by (have hpd := hp; (try simp only [decide_eq_true_eq, decide_eq_false_iff_not, Bool.or_eq_true, Bool.or_eq_false_iff, Bool.and_eq_true, Bool.and_eq_false_iff, Bool.not_eq_true', Bool.not_eq_false', bne_iff_ne, beq_iff_eq, bne_eq_false_iff_eq, beq_eq_false_iff_ne, ne_eq, Bool.not_true, Bool.not_false, Bool.false_eq_true, Bool.true_eq_false, inB_true, inB_false] at hpd); exact ps_field rfl (by exact rfl) (by exact isw_ga _))) ?_; refine ok_pg rfl rfl rfl rfl rfl (gF _) (fun hp => by (have hpd := hp; (try simp only [decide_eq_true_eq, decide_eq_false_iff_not, Bool.or_eq_true, Bool.or_eq_false_iff, Bool.and_eq_true, Bool.and_eq_false_iff, Bool.not_eq_true', Bool.not_eq_false', bne_iff_ne, beq_iff_eq, bne_eq_false_iff_eq, beq_eq_false_iff_ne, ne_eq, Bool.not_true, Bool.not_false, Bool.false_eq_true, Bool.true_eq_false, inB_true, inB_false] at hpd); exact ps_load rfl (by (refine og rfl ?_; assumption)) (by exact Rds.cell (rds_box 2 rfl) rfl))) ?_; refine ok_pg rfl rfl rfl rfl rfl (gF _) (fun hp => by (have hpd := hp; (try simp only [decide_eq_true_eq, decide_eq_false_iff_not, Bool.or_eq_true, Bool.or_eq_false_iff, Bool.and_eq_true, Bool.and_eq_false_iff, Bool.not_eq_true', Bool.not_eq_false', bne_iff_ne, beq_iff_eq, bne_eq_false_iff_eq, beq_eq_false_iff_ne, ne_eq, Bool.not_true, Bool.not_false, Bool.false_eq_true, Bool.true_eq_false, inB_true, inB_false] at hpd); exact ps_move rfl (by exact rfl))) ?_; refine ok_pg rfl rfl rfl rfl rfl (gF _) (fun hp => by (have hpd := hp; (try simp only [decide_eq_true_eq, decide_eq_false_iff_not, Bool.or_eq_true, Bool.or_eq_false_iff, Bool.and_eq_true, Bool.and_eq_false_iff, Bool.not_eq_true', Bool.not_eq_false', bne_iff_ne, beq_iff_eq, bne_eq_false_iff_eq, beq_eq_false_iff_ne, ne_eq, Bool.not_true, Bool.not_false, Bool.false_eq_true, Bool.true_eq_false, inB_true, inB_false] at hpd); exact ps_index rfl (by (refine og rfl ?_; assumption)) (by (refine og rfl ?_; assumption)) ⟨by omega, by omega⟩ (isw_of (isS_fl h1 (by omega))))) ?_; refine ok_pg rfl rfl rfl rfl rfl (gF _) (fun hp => by (have hpd := hp; (try simp only [decide_eq_true_eq, decide_eq_false_iff_not, Bool.or_eq_true, Bool.or_eq_false_iff, Bool.and_eq_true, Bool.and_eq_false_iff, Bool.not_eq_true', Bool.not_eq_false', bne_iff_ne, beq_iff_eq, bne_eq_false_iff_eq, beq_eq_false_iff_ne, ne_eq, Bool.not_true, Bool.not_false, Bool.false_eq_true, Bool.true_eq_false, inB_true, inB_false] at hpd); exact ps_load rfl (by (refine og rfl ?_; assumption)) (Rds.cell (rds_rf h1 (by exact List.mem_cons_self)) (fl_at0 B (nth x.bl j).toNat (by omega) (by decide))))) ?_; refine ok_pg rfl rfl rfl rfl rfl (gF _) (fun hp => by (have hpd := hp; (try simp only [decide_eq_true_eq, decide_eq_false_iff_not, Bool.or_eq_true, Bool.or_eq_false_iff, Bool.and_eq_true, Bool.and_eq_false_iff, Bool.not_eq_true', Bool.not_eq_false', bne_iff_ne, beq_iff_eq, bne_eq_false_iff_eq, beq_eq_false_iff_ne, ne_eq, Bool.not_true, Bool.not_false, Bool.false_eq_true, Bool.true_eq_false, inB_true, inB_false] at hpd); exact ps_slen rfl (by (refine og rfl ?_; assumption)))) ?_; refine ok_pg rfl rfl rfl rfl rfl (gF _) (fun hp => by (have hpd := hp; (try simp only [decide_eq_true_eq, decide_eq_false_iff_not, Bool.or_eq_true, Bool.or_eq_false_iff, Bool.and_eq_true, Bool.and_eq_false_iff, Bool.not_eq_true', Bool.not_eq_false', bne_iff_ne, beq_iff_eq, bne_eq_false_iff_eq, beq_eq_false_iff_ne, ne_eq, Bool.not_true, Bool.not_false, Bool.false_eq_true, Bool.true_eq_false, inB_true, inB_false] at hpd); exact ps_int rfl (by (refine og rfl ?_; assumption)) (by exact rfl) rfl)) ?_; refine ok_p rfl rfl rfl (by exact ps_or rfl rfl rfl) ?_; refine ok_nil ?_; refine ok_env [(1, _), (3, _), (4, _), (5, _), (6, _), (7, _), (110, _)] ⟨rfl, rfl, rfl, rfl, rfl, rfl, rfl, trivial⟩ ?_)
      | (refine ok_region (i := 15) ?_; refine ok_p rfl rfl rfl (by exact ps_assign rfl rfl) ?_; refine ok_nil ?_; refine ok_env [(2, _)] ⟨rfl, trivial⟩ ?_)
      | (refine ok_region (i := 16) ?_; refine ok_p rfl rfl rfl (by exact ps_move rfl rfl) ?_; refine ok_p rfl rfl rfl (by exact ps_move rfl rfl) ?_; refine ok_p rfl rfl rfl (by exact ps_index rfl rfl rfl ⟨by omega, by omega⟩ (isw_ga _)) ?_; refine ok_m_ rfl rfl (by exact ms_setR (α := Bool) 1 true rfl rfl rfl rfl rfl rfl rfl rfl (by omega)) ?_; rintro y_ hy_; refine ok_nil ?_; refine ok_env [(1, _), (3, _), (4, _), (5, _), (6, _), (7, _)] ⟨rfl, rfl, rfl, rfl, rfl, rfl, trivial⟩ ?_)
      | (refine ok_region (i := 17) ?_; refine ok_p rfl rfl rfl (by exact ps_field rfl rfl (by exact isw_ga _)) ?_; refine ok_p rfl rfl rfl (by exact ps_load rfl rfl (by exact Rds.cell (rds_box 0 rfl) rfl)) ?_; refine ok_p rfl rfl rfl (by exact ps_move rfl rfl) ?_; refine ok_p rfl rfl rfl (by exact ps_mul rfl rfl rfl (by omega)) ?_; refine ok_p rfl rfl rfl (by exact ps_sub rfl rfl rfl (by omega)) ?_; refine ok_p rfl rfl rfl (by exact ps_assign rfl rfl) ?_; refine ok_nil ?_; refine ok_env [(1, _), (3, _), (4, _), (5, _), (6, _), (7, _), (8, _)] ⟨rfl, rfl, rfl, rfl, rfl, rfl, rfl, trivial⟩ ?_)
      | (refine ok_draw (id := 18) 15 rfl (by kernel_rfl) (by kernel_rfl) rfl (by repeat (first | exact pq_body | refine pq_then ?_ | refine pq_in ?_)) [0, 1, 2, 3, 4, 5, 6, 7, 8, 9, 10, 11, 12, 13, 14, 15, 16, 17, 18, 19, 20, 21, 22, 23] (by decide) rfl ?_; refine okT_take (i := 0) rfl (by kernel_rfl) rfl rfl rfl (by exact ps_move rfl rfl) ?_; refine okT_take (i := 1) rfl (by kernel_rfl) rfl rfl rfl (by exact ps_int rfl rfl rfl rfl) ?_; refine okT_take (i := 2) rfl (by kernel_rfl) rfl rfl rfl (by exact ps_move rfl rfl) ?_; refine okT_take_g1 (i := 3) rfl (by kernel_rfl) rfl rfl rfl rfl rfl (gT _) (fun hp => by (have hpd := hp; (try simp only [decide_eq_true_eq, decide_eq_false_iff_not, Bool.or_eq_true, Bool.or_eq_false_iff, Bool.and_eq_true, Bool.and_eq_false_iff, Bool.not_eq_true', Bool.not_eq_false', bne_iff_ne, beq_iff_eq, bne_eq_false_iff_eq, beq_eq_false_iff_ne, ne_eq, Bool.not_true, Bool.not_false, Bool.false_eq_true, Bool.true_eq_false, inB_true, inB_false] at hpd); exact ps_field rfl (by exact rfl) (by exact isw_ga _))) ?_; refine okT_take_g1 (i := 4) rfl (by kernel_rfl) rfl rfl rfl rfl rfl (gT _) (fun hp => by (have hpd := hp; (try simp only [decide_eq_true_eq, decide_eq_false_iff_not, Bool.or_eq_true, Bool.or_eq_false_iff, Bool.and_eq_true, Bool.and_eq_false_iff, Bool.not_eq_true', Bool.not_eq_false', bne_iff_ne, beq_iff_eq, bne_eq_false_iff_eq, beq_eq_false_iff_ne, ne_eq, Bool.not_true, Bool.not_false, Bool.false_eq_true, Bool.true_eq_false, inB_true, inB_false] at hpd); exact ps_load rfl (by (refine og rfl ?_; assumption)) (by exact Rds.cell (rds_box 2 rfl) rfl))) ?_; refine okT_take_g1 (i := 5) rfl (by kernel_rfl) rfl rfl rfl rfl rfl (gT _) (fun hp => by (have hpd := hp; (try simp only [decide_eq_true_eq, decide_eq_false_iff_not, Bool.or_eq_true, Bool.or_eq_false_iff, Bool.and_eq_true, Bool.and_eq_false_iff, Bool.not_eq_true', Bool.not_eq_false', bne_iff_ne, beq_iff_eq, bne_eq_false_iff_eq, beq_eq_false_iff_ne, ne_eq, Bool.not_true, Bool.not_false, Bool.false_eq_true, Bool.true_eq_false, inB_true, inB_false] at hpd); exact ps_move rfl (by exact rfl))) ?_; refine okT_take_g1 (i := 6) rfl (by kernel_rfl) rfl rfl rfl rfl rfl (gT _) (fun hp => by (have hpd := hp; (try simp only [decide_eq_true_eq, decide_eq_false_iff_not, Bool.or_eq_true, Bool.or_eq_false_iff, Bool.and_eq_true, Bool.and_eq_false_iff, Bool.not_eq_true', Bool.not_eq_false', bne_iff_ne, beq_iff_eq, bne_eq_false_iff_eq, beq_eq_false_iff_ne, ne_eq, Bool.not_true, Bool.not_false, Bool.false_eq_true, Bool.true_eq_false, inB_true, inB_false] at hpd); exact ps_index rfl (by (refine og rfl ?_; assumption)) (by (refine og rfl ?_; assumption)) ⟨by omega, by omega⟩ (isw_of (isS_fl h1 (by omega))))) ?_; refine okT_take_g1 (i := 7) rfl (by kernel_rfl) rfl rfl rfl rfl rfl (gT _) (fun hp => by (have hpd := hp; (try simp only [decide_eq_true_eq, decide_eq_false_iff_not, Bool.or_eq_true, Bool.or_eq_false_iff, Bool.and_eq_true, Bool.and_eq_false_iff, Bool.not_eq_true', Bool.not_eq_false', bne_iff_ne, beq_iff_eq, bne_eq_false_iff_eq, beq_eq_false_iff_ne, ne_eq, Bool.not_true, Bool.not_false, Bool.false_eq_true, Bool.true_eq_false, inB_true, inB_false] at hpd); exact ps_load rfl (by (refine og rfl ?_; assumption)) (Rds.cell (rds_rf h1 (by exact List.mem_cons_self)) (fl_at0 B (nth x.bl j).toNat (by omega) (by decide))))) ?_; refine okT_take_g1 (i := 8) rfl (by kernel_rfl) rfl rfl rfl rfl rfl (gT _) (fun hp => by (have hpd := hp; (try simp only [decide_eq_true_eq, decide_eq_false_iff_not, Bool.or_eq_true, Bool.or_eq_false_iff, Bool.and_eq_true, Bool.and_eq_false_iff, Bool.not_eq_true', Bool.not_eq_false', bne_iff_ne, beq_iff_eq, bne_eq_false_iff_eq, beq_eq_false_iff_ne, ne_eq, Bool.not_true, Bool.not_false, Bool.false_eq_true, Bool.true_eq_false, inB_true, inB_false] at hpd); exact ps_move rfl (by exact rfl))) ?_; refine okT_take_g1 (i := 9) rfl (by kernel_rfl) rfl rfl rfl rfl rfl (gT _) (fun hp => by (have hpd := hp; (try simp only [decide_eq_true_eq, decide_eq_false_iff_not, Bool.or_eq_true, Bool.or_eq_false_iff, Bool.and_eq_true, Bool.and_eq_false_iff, Bool.not_eq_true', Bool.not_eq_false', bne_iff_ne, beq_iff_eq, bne_eq_false_iff_eq, beq_eq_false_iff_ne, ne_eq, Bool.not_true, Bool.not_false, Bool.false_eq_true, Bool.true_eq_false, inB_true, inB_false] at hpd); exact ps_sslE (x.ln - (j : Int) * 8).toNat (nth B (nth x.bl j).toNat).size rfl (by (refine og rfl ?_; assumption)) ⟨_, _, (by (refine og rfl ?_; assumption)), by omega⟩ rfl (by omega) (Nat.le_refl _))) ?_; refine okT_take_g1 (i := 10) rfl (by kernel_rfl) rfl rfl rfl rfl rfl (gT _) (fun hp => by (have hpd := hp; (try simp only [decide_eq_true_eq, decide_eq_false_iff_not, Bool.or_eq_true, Bool.or_eq_false_iff, Bool.and_eq_true, Bool.and_eq_false_iff, Bool.not_eq_true', Bool.not_eq_false', bne_iff_ne, beq_iff_eq, bne_eq_false_iff_eq, beq_eq_false_iff_ne, ne_eq, Bool.not_true, Bool.not_false, Bool.false_eq_true, Bool.true_eq_false, inB_true, inB_false] at hpd); exact ps_move rfl (by exact rfl))) ?_; refine okT_take_g1 (i := 11) rfl (by kernel_rfl) rfl rfl rfl rfl rfl (gT _) (fun hp => by (have hpd := hp; (try simp only [decide_eq_true_eq, decide_eq_false_iff_not, Bool.or_eq_true, Bool.or_eq_false_iff, Bool.and_eq_true, Bool.and_eq_false_iff, Bool.not_eq_true', Bool.not_eq_false', bne_iff_ne, beq_iff_eq, bne_eq_false_iff_eq, beq_eq_false_iff_ne, ne_eq, Bool.not_true, Bool.not_false, Bool.false_eq_true, Bool.true_eq_false, inB_true, inB_false] at hpd); exact ps_sub rfl (by exact rfl) (by (refine og rfl ?_; assumption)) (by omega))) ?_; refine okT_one_g1 (i := 12) rfl rfl (by kernel_rfl) rfl rfl rfl rfl rfl (gT _) (fun hp => by (have hpd := hp; (try simp only [decide_eq_true_eq, decide_eq_false_iff_not, Bool.or_eq_true, Bool.or_eq_false_iff, Bool.and_eq_true, Bool.and_eq_false_iff, Bool.not_eq_true', Bool.not_eq_false', bne_iff_ne, beq_iff_eq, bne_eq_false_iff_eq, beq_eq_false_iff_ne, ne_eq, Bool.not_true, Bool.not_false, Bool.false_eq_true, Bool.true_eq_false, inB_true, inB_false] at hpd); exact ms_s1 rfl (by (refine og rfl ?_; assumption)) (fun _ _ w hw => l30Zero_c _ ⟨by omega, by omega⟩ w))) (fun w h => by exact h) ?_; refine okT_take_g1 (i := 13) rfl (by kernel_rfl) rfl rfl rfl rfl rfl (gT _) (fun hp => by (have hpd := hp; (try simp only [decide_eq_true_eq, decide_eq_false_iff_not, Bool.or_eq_true, Bool.or_eq_false_iff, Bool.and_eq_true, Bool.and_eq_false_iff, Bool.not_eq_true', Bool.not_eq_false', bne_iff_ne, beq_iff_eq, bne_eq_false_iff_eq, beq_eq_false_iff_ne, ne_eq, Bool.not_true, Bool.not_false, Bool.false_eq_true, Bool.true_eq_false, inB_true, inB_false] at hpd); exact ps_str rfl (by (refine og rfl ?_; assumption)) (by (refine og rfl ?_; assumption)) rfl)) ?_; refine okT_take (i := 14) rfl (by kernel_rfl) rfl rfl rfl (by exact ps_and rfl rfl rfl) ?_; refine okT_done (by kernel_rfl) ?_; refine ok_nil ?_; refine ok_env [(1, _), (3, _), (4, _), (5, _), (6, _), (133, _)] ⟨rfl, rfl, rfl, rfl, rfl, rfl, trivial⟩ ?_)
      | (refine ok_region (i := 19) ?_; refine ok_p rfl rfl rfl (by exact ps_assign rfl rfl) ?_; refine ok_nil ?_; refine ok_env [(2, _)] ⟨rfl, trivial⟩ ?_))
    · have e1 : useC (blkS B x) 0 U x.bl = none := by
        rw [HV.out, useC_step _ V (by omega), if_neg]
        simp only [Bool.and_eq_true, inB_true, Bool.not_eq_true', blkS, decide_eq_true_eq, blkOf]
        rintro ⟨⟨q1, q2⟩, q3, _⟩
        have q4 : (nth B (nth x.bl j).toNat).size = 8 := of_decide_eq_true q3
        rcases hd with (h | h) | h
        · omega
        · rw [h] at q2; cases q2
        · omega
      have e : sFsOk ⟨B, dats R⟩ = false := by rw [hfin, HS.out, e1]; rfl
      rw [e]
      exact ok_endL (vs := [_]) rfl ⟨rfl, trivial⟩ (fun w' hw => ⟨rfl, hw.below⟩)
    · have e1 : useC (blkS B x) 0 U x.bl = none := by
        rw [HV.out, useC_step _ V (by omega), if_neg]
        simp only [Bool.and_eq_true, inB_true, Bool.not_eq_true', blkS, decide_eq_true_eq, blkOf]
        rintro ⟨_, _, q4⟩
        rw [if_pos (by omega), show x.ln - 8 * (j : Int) = x.ln - (j : Int) * 8 by omega, show 8 - (x.ln - (j : Int) * 8).toNat = (8 - (x.ln - (j : Int) * 8)).toNat by omega] at q4
        rw [hd.2] at q4; cases q4
      have e : sFsOk ⟨B, dats R⟩ = false := by rw [hfin, HS.out, e1]; rfl
      rw [e]
      exact ok_endL (vs := [_]) rfl ⟨rfl, trivial⟩ (fun w' hw => ⟨rfl, hw.below⟩)
    · have hd0 : ((¬nth x.bl j < 0 ∧ ¬24 ≤ nth x.bl j) ∧ nth V (nth x.bl j).toNat = false) ∧ ((nth B (nth x.bl j).toNat).size : Int) = 8 := by assumption
      refine fun a w' he hw => ⟨⟨j + 1, V.set (nth x.bl j).toNat true, by omega, by rw [List.length_set]; exact hV, ?_⟩, by simp only; omega, he.sub ⟨rfl, rfl, rfl, rfl, rfl, trivial⟩, hw⟩
      rw [HV.out, useC_step _ V (by omega), if_pos]
      simp only [Bool.and_eq_true, inB_true, Bool.not_eq_true', blkS, decide_eq_true_eq, blkOf]
      have q5 : (nth B (nth x.bl j).toNat).size = 8 := by have := hd0.2; omega
      refine ⟨⟨by omega, hd0.1.2⟩, decide_eq_true q5, ?_⟩
      split
      · rw [show x.ln - 8 * (j : Int) = x.ln - (j : Int) * 8 by omega, show 8 - (x.ln - (j : Int) * 8).toNat = (8 - (x.ln - (j : Int) * 8)).toNat by omega]
        rcases hd with h | h
        · omega
        · exact h
      · rfl
    · refine fun a w' he hw => ⟨⟨k + 1, V, by omega, hV, ?_⟩, by simp only; omega, he.sub ⟨rfl, rfl, rfl, trivial⟩, hw.tl⟩
      have e1 : useC (blkS B x) 0 U x.bl = some V := by rw [HV.out, List.drop_of_length_le (by omega)]; rfl
      rw [HS.out, e1]
  obtain rfl : k = R.length := by omega
  have hfr : sFsOk ⟨B, dats R⟩ = freeOk B U := by
    rw [hfin, HU.out, show (dats R).drop R.length = [] by rw [← dats_len, List.drop_length], filesF]; rfl
  clear hfin HU hk hc hd
  refine ok_loop (ι := { k : Nat // k ≤ 24 ∧ ∀ j, j < k → (nth U j || sEq (nth B j) (zrs 8)) = true }) (fun k => 24 - k.1) (fun k => ([(1, pt (ga (y1 0).c) 0), (3, .slice (ga (y20 0).c) 24 24), (9, .int .i64 k.1)], _, _)) ⟨0, Nat.zero_le _, fun j h => absurd h (Nat.not_lt_zero j)⟩ (fun a w he hw => ⟨⟨0, Nat.zero_le _, fun j h => absurd h (Nat.not_lt_zero j)⟩, he.sub ⟨rfl, rfl, rfl, trivial⟩, hw⟩) ?_
  rintro ⟨k, hk, hok⟩
  simp only at hk hok ⊢
  have HO := Lib.hid hok; clear hok
  repeat' (first
    | refine ok_seq ?_
    | refine ok_then ?_
    | refine ok_then_ret ?_
    | refine ok_block ?_
    | refine ok_in_normal ?_
    | refine ok_in_ret ?_
    | (refine ok_cond rfl (fun hc => ?_) (fun hc => ?_) <;> (have hd := hc; (try simp only [decide_eq_true_eq, decide_eq_false_iff_not, Bool.or_eq_true, Bool.or_eq_false_iff, Bool.and_eq_true, Bool.and_eq_false_iff, Bool.not_eq_true', Bool.not_eq_false', bne_iff_ne, beq_iff_eq, bne_eq_false_iff_eq, beq_eq_false_iff_ne, ne_eq, Bool.not_true, Bool.not_false, Bool.false_eq_true, Bool.true_eq_false, inB_true, inB_false] at hd)))
    | refine ok_ret ?_
    | refine ok_exit ?_
    | refine ok_skip ?_
    | (refine ok_region (i := 21) ?_; refine ok_p rfl rfl rfl (by exact ps_move rfl rfl) ?_; refine ok_p rfl rfl rfl (by exact ps_int rfl rfl rfl rfl) ?_; refine ok_nil ?_; refine ok_env [(1, _), (3, _), (9, _), (135, _)] ⟨rfl, rfl, rfl, rfl, trivial⟩ ?_)
    | (refine ok_region (i := 22) ?_; refine ok_p rfl rfl rfl (by exact ps_move rfl rfl) ?_; refine ok_p rfl rfl rfl (by exact ps_add rfl rfl rfl (by omega)) ?_; refine ok_p rfl rfl rfl (by exact ps_assign rfl rfl) ?_; refine ok_nil ?_; refine ok_env [(1, _), (3, _), (9, _)] ⟨rfl, rfl, rfl, trivial⟩ ?_)
    | (refine ok_draw (id := 23) 14 rfl (by kernel_rfl) (by kernel_rfl) rfl (by repeat (first | exact pq_body | refine pq_then ?_ | refine pq_in ?_)) [0, 1, 2, 3, 4, 5, 6, 7, 8, 9, 10, 11, 12, 13, 14, 15, 16, 17, 18, 19, 20, 21, 22, 23] (by decide) rfl ?_; refine okT_take (i := 0) rfl (by kernel_rfl) rfl rfl rfl (by exact ps_move rfl rfl) ?_; refine okT_take (i := 1) rfl (by kernel_rfl) rfl rfl rfl (by exact ps_move rfl rfl) ?_; refine okT_take (i := 2) rfl (by kernel_rfl) rfl rfl rfl (by exact ps_indexN rfl rfl rfl (by omega) (by exact isw_ga _)) ?_; refine okT_take (i := 3) rfl (by kernel_rfl) rfl rfl rfl (by exact ps_loadR (α := Bool) (u := .bool (nth U k)) 0 rfl rfl rfl (by omega) rfl rfl) ?_; refine okT_take (i := 4) rfl (by kernel_rfl) rfl rfl rfl (by exact ps_not rfl rfl) ?_; refine okT_take (i := 5) rfl (by kernel_rfl) rfl rfl rfl (by exact ps_move rfl rfl) ?_; refine okT_take_g1 (i := 6) rfl (by kernel_rfl) rfl rfl rfl rfl rfl (gT _) (fun hp => by (have hpd := hp; (try simp only [decide_eq_true_eq, decide_eq_false_iff_not, Bool.or_eq_true, Bool.or_eq_false_iff, Bool.and_eq_true, Bool.and_eq_false_iff, Bool.not_eq_true', Bool.not_eq_false', bne_iff_ne, beq_iff_eq, bne_eq_false_iff_eq, beq_eq_false_iff_ne, ne_eq, Bool.not_true, Bool.not_false, Bool.false_eq_true, Bool.true_eq_false, inB_true, inB_false] at hpd); exact ps_field rfl (by exact rfl) (by exact isw_ga _))) ?_; refine okT_take_g1 (i := 7) rfl (by kernel_rfl) rfl rfl rfl rfl rfl (gT _) (fun hp => by (have hpd := hp; (try simp only [decide_eq_true_eq, decide_eq_false_iff_not, Bool.or_eq_true, Bool.or_eq_false_iff, Bool.and_eq_true, Bool.and_eq_false_iff, Bool.not_eq_true', Bool.not_eq_false', bne_iff_ne, beq_iff_eq, bne_eq_false_iff_eq, beq_eq_false_iff_ne, ne_eq, Bool.not_true, Bool.not_false, Bool.false_eq_true, Bool.true_eq_false, inB_true, inB_false] at hpd); exact ps_load rfl (by (refine og rfl ?_; assumption)) (by exact Rds.cell (rds_box 1 rfl) rfl))) ?_; refine okT_take_g1 (i := 8) rfl (by kernel_rfl) rfl rfl rfl rfl rfl (gT _) (fun hp => by (have hpd := hp; (try simp only [decide_eq_true_eq, decide_eq_false_iff_not, Bool.or_eq_true, Bool.or_eq_false_iff, Bool.and_eq_true, Bool.and_eq_false_iff, Bool.not_eq_true', Bool.not_eq_false', bne_iff_ne, beq_iff_eq, bne_eq_false_iff_eq, beq_eq_false_iff_ne, ne_eq, Bool.not_true, Bool.not_false, Bool.false_eq_true, Bool.true_eq_false, inB_true, inB_false] at hpd); exact ps_move rfl (by exact rfl))) ?_; refine okT_take_g1 (i := 9) rfl (by kernel_rfl) rfl rfl rfl rfl rfl (gT _) (fun hp => by (have hpd := hp; (try simp only [decide_eq_true_eq, decide_eq_false_iff_not, Bool.or_eq_true, Bool.or_eq_false_iff, Bool.and_eq_true, Bool.and_eq_false_iff, Bool.not_eq_true', Bool.not_eq_false', bne_iff_ne, beq_iff_eq, bne_eq_false_iff_eq, beq_eq_false_iff_ne, ne_eq, Bool.not_true, Bool.not_false, Bool.false_eq_true, Bool.true_eq_false, inB_true, inB_false] at hpd); exact ps_indexN rfl (by (refine og rfl ?_; assumption)) (by (refine og rfl ?_; assumption)) (by omega) (by exact isw_of (isS_fl (by assumption) (by omega))))) ?_; refine okT_take_g1 (i := 10) rfl (by kernel_rfl) rfl rfl rfl rfl rfl (gT _) (fun hp => by (have hpd := hp; (try simp only [decide_eq_true_eq, decide_eq_false_iff_not, Bool.or_eq_true, Bool.or_eq_false_iff, Bool.and_eq_true, Bool.and_eq_false_iff, Bool.not_eq_true', Bool.not_eq_false', bne_iff_ne, beq_iff_eq, bne_eq_false_iff_eq, beq_eq_false_iff_ne, ne_eq, Bool.not_true, Bool.not_false, Bool.false_eq_true, Bool.true_eq_false, inB_true, inB_false] at hpd); exact ps_load rfl (by (refine og rfl ?_; assumption)) (by exact Rds.cell (rds_rf (by assumption) (by exact List.mem_cons_self)) (by exact fl_at0 _ _ (by omega) (by decide))))) ?_; refine okT_one_g1 (i := 11) rfl rfl (by kernel_rfl) rfl rfl rfl rfl rfl (gT _) (fun hp => by (have hpd := hp; (try simp only [decide_eq_true_eq, decide_eq_false_iff_not, Bool.or_eq_true, Bool.or_eq_false_iff, Bool.and_eq_true, Bool.and_eq_false_iff, Bool.not_eq_true', Bool.not_eq_false', bne_iff_ne, beq_iff_eq, bne_eq_false_iff_eq, beq_eq_false_iff_ne, ne_eq, Bool.not_true, Bool.not_false, Bool.false_eq_true, Bool.true_eq_false, inB_true, inB_false] at hpd); exact ms_s1 rfl rfl (fun _ _ w hw => l30Zero_c 8 ⟨by omega, by omega⟩ w))) (fun w h => by exact h) ?_; refine okT_take_g1 (i := 12) rfl (by kernel_rfl) rfl rfl rfl rfl rfl (gT _) (fun hp => by (have hpd := hp; (try simp only [decide_eq_true_eq, decide_eq_false_iff_not, Bool.or_eq_true, Bool.or_eq_false_iff, Bool.and_eq_true, Bool.and_eq_false_iff, Bool.not_eq_true', Bool.not_eq_false', bne_iff_ne, beq_iff_eq, bne_eq_false_iff_eq, beq_eq_false_iff_ne, ne_eq, Bool.not_true, Bool.not_false, Bool.false_eq_true, Bool.true_eq_false, inB_true, inB_false] at hpd); exact ps_str rfl (by (refine og rfl ?_; assumption)) (by (refine og rfl ?_; assumption)) rfl)) ?_; refine okT_take (i := 13) rfl (by kernel_rfl) rfl rfl rfl (by exact ps_and rfl rfl rfl) ?_; refine okT_done (by kernel_rfl) ?_; refine ok_nil ?_; refine ok_env [(1, _), (3, _), (9, _), (151, _)] ⟨rfl, rfl, rfl, rfl, trivial⟩ ?_)
    | (refine ok_region (i := 24) ?_; refine ok_p rfl rfl rfl (by exact ps_assign rfl rfl) ?_; refine ok_nil ?_; refine ok_env [(2, _)] ⟨rfl, trivial⟩ ?_)
    | (refine ok_region (i := 25) ?_; refine ok_p rfl rfl rfl (by exact ps_assign rfl rfl) ?_; refine ok_nil ?_; refine ok_env [(2, _)] ⟨rfl, trivial⟩ ?_))
  · rw [hfr, free_no (k := k) (by omega) hd.1 hd.2]
    exact ok_endL (vs := [_]) rfl ⟨rfl, trivial⟩ (fun w' hw => ⟨rfl, hw.below⟩)
  · exact fun a w' he hw => ⟨⟨k + 1, by omega, fun j hj => by
      rcases Nat.lt_succ_iff_lt_or_eq.1 hj with h' | h'
      · exact HO.out j h'
      · subst h'; rw [Bool.or_eq_true]; exact hd⟩, by simp only; omega, he.sub ⟨rfl, rfl, rfl, trivial⟩, hw⟩
  · rw [hfr, free_yes (fun j hj => HO.out j (by omega))]
    exact ok_endL (vs := [_]) rfl ⟨rfl, trivial⟩ (fun w' hw => ⟨rfl, hw.below⟩)
end Go.Proofs.Ytojgphgfhapacaa
/- Rows of impl.FFile: index, delete. -/
namespace Go.Proofs.Ytojgphgfhapacaa
open Go.RowKit
set_option maxHeartbeats 4000000
set_option maxRecDepth 20000
set_option linter.unusedVariables false
set_option linter.unusedSimpArgs false
attribute [local irreducible] Calls
theorem indexF_c (f : FuncId) [hF : FN Try.prog f] (cs : List Value) (p : LF → Bool) (A : Option Addr) (c : Nat) (R : List LF) (w : World) (h : Rd w A (fl R)) (hl : R.length ≤ 4194304)
    (hf : ∀ (x : LF) (w' : World), Keeps w w' → Calls Try.prog f (Value.agg (Dat.cells x).toArray :: cs).toArray w' (fun e w'' => e = .returned (.bool (p x)) ∧ Below w'.heap.size w' w'')) :
    Calls Try.prog 37 #[.slice A R.length c, .func (.func f) #[] cs.toArray] w fun e w' => e = .returned (.int .i64 (ixP p R)) ∧ Below w.heap.size w w' := by
  refine ok_enter 19 Try.func37 rfl rfl rfl ?_
  repeat' (first
    | refine ok_seq ?_
    | refine ok_then ?_
    | refine ok_then_ret ?_
    | refine ok_then_exit ?_
    | refine ok_block ?_
    | refine ok_in_normal ?_
    | refine ok_in_ret ?_
    | refine ok_in_exit ?_
    | refine ok_in_other rfl ?_
    | (refine ok_cond rfl (fun hc => ?_) (fun hc => ?_) <;> (have hd := hc; (try simp only [decide_eq_true_eq, decide_eq_false_iff_not, Bool.or_eq_true, Bool.or_eq_false_iff, Bool.and_eq_true, Bool.and_eq_false_iff, Bool.not_eq_true', Bool.not_eq_false', bne_iff_ne, beq_iff_eq, bne_eq_false_iff_eq, beq_eq_false_iff_ne, ne_eq, Bool.not_true, Bool.not_false, Bool.false_eq_true, Bool.true_eq_false, inB_true, inB_false] at hd)))
    | refine ok_ret ?_
    | refine ok_exit ?_
    | refine ok_skip ?_
    | (refine ok_region (i := 0) ?_; refine ok_p rfl rfl rfl (by exact ps_assign rfl rfl) ?_; refine ok_nil ?_; refine ok_env [(0, _), (1, _)] ⟨rfl, rfl, trivial⟩ ?_)
    | (refine ok_region (i := 1) ?_; refine ok_p rfl rfl rfl (by exact ps_move rfl rfl) ?_; refine ok_p rfl rfl rfl (by exact ps_len rfl rfl) ?_; refine ok_p rfl rfl rfl (by exact ps_move rfl rfl) ?_; refine ok_nil ?_; refine ok_env [(0, _), (1, _), (7, _), (8, _)] ⟨rfl, rfl, rfl, rfl, trivial⟩ ?_)
    | (refine ok_region (i := 2) ?_; refine ok_p rfl rfl rfl (by exact ps_int rfl rfl rfl rfl) ?_; refine ok_nil ?_; refine ok_env [(0, _), (1, _), (7, _), (8, _), (9, _)] ⟨rfl, rfl, rfl, rfl, rfl, trivial⟩ ?_)
    | (refine ok_region (i := 3) ?_; refine ok_p rfl rfl rfl (by exact ps_move rfl rfl) ?_; refine ok_p rfl rfl rfl (by exact ps_assign rfl rfl) ?_; refine ok_nil ?_; refine ok_env [(0, _), (1, _), (5, _), (7, _), (8, _)] ⟨rfl, rfl, rfl, rfl, rfl, trivial⟩ ?_)
    | (refine ok_region (i := 4) ?_; refine ok_p rfl rfl rfl (by exact ps_move rfl rfl) ?_; refine ok_p rfl rfl rfl (by exact ps_move rfl rfl) ?_; refine ok_p rfl rfl rfl (by exact ps_move rfl rfl) ?_; refine ok_p rfl rfl rfl (by first | exact ps_indexN rfl rfl rfl (by omega) (by first | exact isw_ga _ | exact isw_some _ | exact isw_row 0 rfl (by omega) | exact isw_row 1 rfl (by omega) | exact isw_row 2 rfl (by omega) | exact isw_row 3 rfl (by omega) | exact isw_row 4 rfl (by omega) | exact isw_row 5 rfl (by omega) | exact isw_row 6 rfl (by omega) | exact isw_row 7 rfl (by omega) | exact isw_row 8 rfl (by omega) | exact isw_of (isS_fl (by assumption) (by omega)) | exact isw_of (by assumption)) | exact ps_index rfl rfl rfl (by omega) (by first | exact isw_ga _ | exact isw_some _ | exact isw_row 0 rfl (by omega) | exact isw_row 1 rfl (by omega) | exact isw_row 2 rfl (by omega) | exact isw_row 3 rfl (by omega) | exact isw_row 4 rfl (by omega) | exact isw_row 5 rfl (by omega) | exact isw_row 6 rfl (by omega) | exact isw_row 7 rfl (by omega) | exact isw_row 8 rfl (by omega) | exact isw_of (isS_fl (by assumption) (by omega)) | exact isw_of (by assumption))) ?_; refine ok_p rfl rfl rfl (by first | exact ps_loads rfl rfl (by first | exact rds_box 0 rfl | exact rds_box 1 rfl | exact rds_box 2 rfl | exact rds_box 3 rfl | exact rds_box 4 rfl | exact rds_box 5 rfl | exact rds_box 6 rfl | exact rds_box 7 rfl | exact rds_box 8 rfl | exact rds_box 9 rfl | exact rds_box 10 rfl | exact rds_box 11 rfl | exact rds_box 12 rfl | exact rds_box 13 rfl | exact rds_box 14 rfl | exact rds_box 15 rfl | exact rds_box 16 rfl | exact rds_box 17 rfl | exact rds_box 18 rfl | exact rds_box 19 rfl | exact rds_box 20 rfl | exact rds_box 21 rfl | exact rds_box 22 rfl | exact rds_box 23 rfl) rfl rfl (by decide) | exact ps_loadsF rfl rfl (by first | exact rds_row 0 rfl | exact rds_row 1 rfl | exact rds_row 2 rfl | exact rds_row 3 rfl | exact rds_row 4 rfl | exact rds_row 5 rfl | exact rds_row 6 rfl | exact rds_row 7 rfl | exact rds_row 8 rfl | exact rds_row 9 rfl | exact rds_row 10 rfl | exact rds_row 11 rfl | exact rds_row 12 rfl | exact rds_row 13 rfl | exact rds_row 14 rfl | exact rds_row 15 rfl | exact rds_row 16 rfl | exact rds_row 17 rfl | exact rds_row 18 rfl | exact rds_row 19 rfl | exact rds_row 20 rfl | exact rds_row 21 rfl | exact rds_row 22 rfl | exact rds_row 23 rfl | exact rds_rf (by assumption) (by first | exact List.mem_cons_self | exact List.mem_cons_of_mem _ List.mem_cons_self | simp)) (by rfl) (by rfl) (by omega) rfl) ?_; refine ok_m rfl rfl rfl (by fail "no maker call") ?_; rintro y16 hy16; refine ok_nil ?_; refine ok_env [(0, _), (1, _), (5, _), (7, _), (8, _), (16, _)] ⟨rfl, rfl, rfl, rfl, rfl, rfl, trivial⟩ ?_)
    | (refine ok_region (i := 5) ?_; refine ok_p rfl rfl rfl (by exact ps_move rfl rfl) ?_; refine ok_p rfl rfl rfl (by exact ps_assign rfl rfl) ?_; refine ok_nil ?_; refine ok_env [(4, _)] ⟨rfl, trivial⟩ ?_)
    | (refine ok_region (i := 6) ?_; refine ok_p rfl rfl rfl (by exact ps_add rfl rfl rfl (by omega)) ?_; refine ok_p rfl rfl rfl (by exact ps_move rfl rfl) ?_; refine ok_nil ?_; refine ok_env [(0, _), (1, _), (7, _), (8, _)] ⟨rfl, rfl, rfl, rfl, trivial⟩ ?_)
    | (refine ok_region (i := 7) ?_; refine ok_p rfl rfl rfl (by exact ps_assign rfl rfl) ?_; refine ok_nil ?_; refine ok_env [(4, _)] ⟨rfl, trivial⟩ ?_))
  refine ok_loop (ι := { k : Nat // k ≤ R.length ∧ ixP p R = ixF p R (R.length - k) k }) (fun k => R.length - k.1) (fun k => ([(0, .slice A R.length c), (1, .func (.func f) #[] cs.toArray), (7, .int .i64 R.length), (8, .int .i64 k.1)], _, _)) ⟨0, by omega, rfl⟩ (fun a w he hw => ⟨⟨0, by omega, rfl⟩, he.sub ⟨rfl, rfl, rfl, rfl, trivial⟩, hw⟩) ?_
  rintro ⟨k, hk, hr⟩
  simp only at hk hr ⊢
  have HR := Lib.hid hr; clear hr
  repeat' (first
    | refine ok_seq ?_
    | refine ok_then ?_
    | refine ok_then_ret ?_
    | refine ok_then_exit ?_
    | refine ok_block ?_
    | refine ok_in_normal ?_
    | refine ok_in_ret ?_
    | refine ok_in_exit ?_
    | refine ok_in_other rfl ?_
    | (refine ok_cond rfl (fun hc => ?_) (fun hc => ?_) <;> (have hd := hc; (try simp only [decide_eq_true_eq, decide_eq_false_iff_not, Bool.or_eq_true, Bool.or_eq_false_iff, Bool.and_eq_true, Bool.and_eq_false_iff, Bool.not_eq_true', Bool.not_eq_false', bne_iff_ne, beq_iff_eq, bne_eq_false_iff_eq, beq_eq_false_iff_ne, ne_eq, Bool.not_true, Bool.not_false, Bool.false_eq_true, Bool.true_eq_false, inB_true, inB_false] at hd)))
    | refine ok_ret ?_
    | refine ok_exit ?_
    | refine ok_skip ?_
    | (refine ok_region (i := 0) ?_; refine ok_p rfl rfl rfl (by exact ps_assign rfl rfl) ?_; refine ok_nil ?_; refine ok_env [(0, _), (1, _)] ⟨rfl, rfl, trivial⟩ ?_)
    | (refine ok_region (i := 1) ?_; refine ok_p rfl rfl rfl (by exact ps_move rfl rfl) ?_; refine ok_p rfl rfl rfl (by exact ps_len rfl rfl) ?_; refine ok_p rfl rfl rfl (by exact ps_move rfl rfl) ?_; refine ok_nil ?_; refine ok_env [(0, _), (1, _), (7, _), (8, _)] ⟨rfl, rfl, rfl, rfl, trivial⟩ ?_)
    | (refine ok_region (i := 2) ?_; refine ok_p rfl rfl rfl (by exact ps_int rfl rfl rfl rfl) ?_; refine ok_nil ?_; refine ok_env [(0, _), (1, _), (7, _), (8, _), (9, _)] ⟨rfl, rfl, rfl, rfl, rfl, trivial⟩ ?_)
    | (refine ok_region (i := 3) ?_; refine ok_p rfl rfl rfl (by exact ps_move rfl rfl) ?_; refine ok_p rfl rfl rfl (by exact ps_assign rfl rfl) ?_; refine ok_nil ?_; refine ok_env [(0, _), (1, _), (5, _), (7, _), (8, _)] ⟨rfl, rfl, rfl, rfl, rfl, trivial⟩ ?_)
    | (refine ok_region (i := 4) ?_; refine ok_p rfl rfl rfl (by exact ps_move rfl rfl) ?_; refine ok_p rfl rfl rfl (by exact ps_move rfl rfl) ?_; refine ok_p rfl rfl rfl (by exact ps_move rfl rfl) ?_; refine ok_p rfl rfl rfl (by first | exact ps_indexN rfl rfl rfl (by omega) (by first | exact isw_ga _ | exact isw_some _ | exact isw_row 0 rfl (by omega) | exact isw_row 1 rfl (by omega) | exact isw_row 2 rfl (by omega) | exact isw_row 3 rfl (by omega) | exact isw_row 4 rfl (by omega) | exact isw_row 5 rfl (by omega) | exact isw_row 6 rfl (by omega) | exact isw_row 7 rfl (by omega) | exact isw_row 8 rfl (by omega) | exact isw_of (isS_fl (by assumption) (by omega)) | exact isw_of (by assumption)) | exact ps_index rfl rfl rfl (by omega) (by first | exact isw_ga _ | exact isw_some _ | exact isw_row 0 rfl (by omega) | exact isw_row 1 rfl (by omega) | exact isw_row 2 rfl (by omega) | exact isw_row 3 rfl (by omega) | exact isw_row 4 rfl (by omega) | exact isw_row 5 rfl (by omega) | exact isw_row 6 rfl (by omega) | exact isw_row 7 rfl (by omega) | exact isw_row 8 rfl (by omega) | exact isw_of (isS_fl (by assumption) (by omega)) | exact isw_of (by assumption))) ?_; refine ok_p rfl rfl rfl (by first | exact ps_loads rfl rfl (by first | exact rds_box 0 rfl | exact rds_box 1 rfl | exact rds_box 2 rfl | exact rds_box 3 rfl | exact rds_box 4 rfl | exact rds_box 5 rfl | exact rds_box 6 rfl | exact rds_box 7 rfl | exact rds_box 8 rfl | exact rds_box 9 rfl | exact rds_box 10 rfl | exact rds_box 11 rfl | exact rds_box 12 rfl | exact rds_box 13 rfl | exact rds_box 14 rfl | exact rds_box 15 rfl | exact rds_box 16 rfl | exact rds_box 17 rfl | exact rds_box 18 rfl | exact rds_box 19 rfl | exact rds_box 20 rfl | exact rds_box 21 rfl | exact rds_box 22 rfl | exact rds_box 23 rfl) rfl rfl (by decide) | exact ps_loadsF rfl rfl (by first | exact rds_row 0 rfl | exact rds_row 1 rfl | exact rds_row 2 rfl | exact rds_row 3 rfl | exact rds_row 4 rfl | exact rds_row 5 rfl | exact rds_row 6 rfl | exact rds_row 7 rfl | exact rds_row 8 rfl | exact rds_row 9 rfl | exact rds_row 10 rfl | exact rds_row 11 rfl | exact rds_row 12 rfl | exact rds_row 13 rfl | exact rds_row 14 rfl | exact rds_row 15 rfl | exact rds_row 16 rfl | exact rds_row 17 rfl | exact rds_row 18 rfl | exact rds_row 19 rfl | exact rds_row 20 rfl | exact rds_row 21 rfl | exact rds_row 22 rfl | exact rds_row 23 rfl | exact rds_rf (by assumption) (by first | exact List.mem_cons_self | exact List.mem_cons_of_mem _ List.mem_cons_self | simp)) (by rfl) (by rfl) (by omega) rfl) ?_; refine ok_m rfl rfl rfl (by exact ms_k1 rfl rfl rfl (fun _ _ w' hw => hf (nth R k) w' (hw.keeps (by first | exact List.mem_cons_self | exact List.mem_cons_of_mem _ List.mem_cons_self | simp)))) ?_; rintro y16 hy16; refine ok_nil ?_; refine ok_env [(0, _), (1, _), (5, _), (7, _), (8, _), (16, _)] ⟨rfl, rfl, rfl, rfl, rfl, rfl, trivial⟩ ?_)
    | (refine ok_region (i := 5) ?_; refine ok_p rfl rfl rfl (by exact ps_move rfl rfl) ?_; refine ok_p rfl rfl rfl (by exact ps_assign rfl rfl) ?_; refine ok_nil ?_; refine ok_env [(4, _)] ⟨rfl, trivial⟩ ?_)
    | (refine ok_region (i := 6) ?_; refine ok_p rfl rfl rfl (by exact ps_add rfl rfl rfl (by omega)) ?_; refine ok_p rfl rfl rfl (by exact ps_move rfl rfl) ?_; refine ok_nil ?_; refine ok_env [(0, _), (1, _), (7, _), (8, _)] ⟨rfl, rfl, rfl, rfl, trivial⟩ ?_)
    | (refine ok_region (i := 7) ?_; refine ok_p rfl rfl rfl (by exact ps_assign rfl rfl) ?_; refine ok_nil ?_; refine ok_env [(4, _)] ⟨rfl, trivial⟩ ?_))
  · have e : ixP p R = (k : Int) := by rw [HR.out, ixF_step (by omega), hc]; rfl
    rw [e]
    exact ok_endL (vs := [_]) rfl ⟨rfl, trivial⟩ (fun w' hw => ⟨rfl, hw.below⟩)
  · have e : ixF p R (R.length - k) k = ixF p R (R.length - (k + 1)) (k + 1) := by rw [ixF_step (by omega), hc]; rfl
    exact fun a w' he hw => ⟨⟨k + 1, by omega, HR.out.trans e⟩, by simp only; omega, he.sub ⟨rfl, rfl, rfl, rfl, trivial⟩, hw⟩
  · obtain rfl : k = R.length := by omega
    have e : ixP p R = -1 := by rw [HR.out, Nat.sub_self]; rfl
    rw [e]
    exact ok_endL (vs := [_]) rfl ⟨rfl, trivial⟩ (fun w' hw => ⟨rfl, hw.below⟩)
end Go.Proofs.Ytojgphgfhapacaa
/- Rows of string: clone. -/
namespace Go.Proofs.Ytojgphgfhapacaa
open Go.RowKit
set_option maxHeartbeats 4000000
set_option maxRecDepth 20000
set_option linter.unusedVariables false
set_option linter.unusedSimpArgs false
attribute [local irreducible] Calls
theorem cloneS_c (A : Option Addr) (c : Nat) (L : List ByteArray) (w : World) (h : Rd w A (fl L)) (m : L.length ≤ 4194304) :
    Calls Try.prog 35 #[.slice A L.length c] w fun e w' => ∃ y : Ys, e = .returned (.slice (y 0).A L.length (y 0).c) ∧ True ∧ Below w.heap.size w w' ∧ NewOk w.heap.size [.row 9 1 (y 0).A L.length (y 0).c (fl L)] [] w' := by
  refine ok_enter 8 Try.func35 rfl rfl rfl ?_
  repeat' (first
    | refine ok_seq ?_
    | refine ok_then ?_
    | refine ok_then_ret ?_
    | refine ok_then_exit ?_
    | refine ok_block ?_
    | refine ok_in_normal ?_
    | refine ok_in_ret ?_
    | refine ok_in_exit ?_
    | refine ok_in_other rfl ?_
    | (refine ok_cond rfl (fun hc => ?_) (fun hc => ?_) <;> (have hd := hc; (try simp only [decide_eq_true_eq, decide_eq_false_iff_not, Bool.or_eq_true, Bool.or_eq_false_iff, Bool.and_eq_true, Bool.and_eq_false_iff, Bool.not_eq_true', Bool.not_eq_false', bne_iff_ne, beq_iff_eq, bne_eq_false_iff_eq, beq_eq_false_iff_ne, ne_eq, Bool.not_true, Bool.not_false, Bool.false_eq_true, Bool.true_eq_false, inB_true, inB_false] at hd)))
    | refine ok_ret ?_
    | refine ok_exit ?_
    | refine ok_skip ?_
    | (refine ok_region (i := 0) ?_; refine ok_p rfl rfl rfl (by exact ps_assign rfl rfl) ?_; refine ok_nil ?_; refine ok_env [(0, _)] ⟨rfl, trivial⟩ ?_)
    | (refine ok_region (i := 1) ?_; refine ok_p rfl rfl rfl (by exact ps_move rfl rfl) ?_; refine ok_p rfl rfl rfl (by first | exact ps_eql_nil rfl rfl | exact ps_int rfl rfl rfl rfl) ?_; refine ok_nil ?_; refine ok_env [(0, _), (4, _)] ⟨rfl, rfl, trivial⟩ ?_)
    | (refine ok_region (i := 2) ?_; refine ok_p rfl rfl rfl (by exact ps_assign rfl rfl) ?_; refine ok_nil ?_; refine ok_env [(2, _)] ⟨rfl, trivial⟩ ?_)
    | (refine ok_region (i := 3) ?_; refine ok_m rfl rfl rfl (by exact ms_lit rfl parts_nil rfl rfl rfl) ?_; rintro y5 hy5; refine ok_p rfl rfl rfl (by exact ps_move rfl rfl) ?_; refine ok_m rfl rfl rfl (by exact ms_app0 (M := L) 0 rfl rfl rfl rfl (rds_rf h (by first | exact List.mem_cons_self | exact List.mem_cons_of_mem _ List.mem_cons_self | simp)) rfl (by omega) (by omega)) ?_; rintro y7 hy7; refine ok_p rfl rfl rfl (by exact ps_assign rfl rfl) ?_; refine ok_nil ?_; refine ok_env [(2, _)] ⟨rfl, trivial⟩ ?_))
  · have h0 : L = [] := by
      cases A with
      | some a => cases hc
      | none =>
        rcases L with _ | ⟨x, l⟩
        · rfl
        · have := isS_fl h (by simp); obtain ⟨ad, e⟩ := this; cases e
    subst h0
    refine ok_endL (vs := [_]) rfl ⟨rfl, trivial⟩ (fun w' hw => ?_)
    refine ⟨mkY none 0 w, ?_, trivial, hw.below, ?_⟩
    · rfl
    · exact NewOk.one (x := .row 9 1 none 0 0 (fl ([] : List ByteArray))) (Own.nil w' w.heap.size 9 1)
  · refine ok_endL (vs := [_]) rfl ⟨rfl, trivial⟩ (fun w' hw => ?_)
    refine ⟨yl [y7 0] (y7 0), ?_, trivial, hw.below, ?_⟩
    · rfl
    · have := NewOk.of (hw.sel [0] (by decide) rfl (fun _ h => h))
      exact this
end Go.Proofs.Ytojgphgfhapacaa
/- The engine: the bytes of a string, in a row of its own. -/
namespace Go.Proofs.Ytojgphgfhapacaa
open Go.RowKit
set_option linter.unusedVariables false
set_option linter.unusedSimpArgs false
def mkY2 (g c : Nat) (w : World) : Ys := fun i => if i = 0 then ⟨none, g, w, 0⟩ else ⟨none, c, w, 0⟩
def zcs (L : List UInt8) (c : Nat) : List Value := byteVs L ++ List.replicate (c - L.length) (.int .u8 0)
theorem zcs_len (L : List UInt8) (c : Nat) (h : L.length ≤ c) : (zcs L c).length = c := by simp [zcs, byteVs]; omega
theorem zcs_set (L : List UInt8) (c j : Nat) (v : UInt8) (hj : j < L.length) : (zcs L c).set j (.int .u8 (v.toNat : Int)) = zcs (L.set j v) c := by
  unfold zcs
  rw [List.set_append_left _ _ (by simpa [byteVs] using hj), List.length_set]
  congr 1
  unfold byteVs
  rw [List.map_set]
/-- The zero value is the byte 0. -/
class ZB (P : Program) (e : TypeId) : Prop where h : (P.info? e).bind (·.zero) = some (.int .u8 0)
section
variable {P : Program} {N base : Nat} {w0 : World} {E : Env} {H : List HObj} {G : List World} {Q : Exit → Act → World → Prop} {o : Oper}
theorem rds_zrow {g e : Nat} {cs : List Value} {fz : Nat × Nat} (i : Nat) (hi : H[i]? = some (.zrow g e cs fz)) : Rds H G (ga g) cs := fun base w0 w hw j u hu => by
  have := (hw.own _ (List.mem_of_getElem? hi)).2
  refine ⟨_, rfl, ?_⟩
  rw [ga_add, cell_of_row _ _ j _ _ _ this]
  simpa using hu
theorem rds_zcs {g e c : Nat} {L : List UInt8} {fz : Nat × Nat} (i : Nat) (hi : H[i]? = some (.zrow g e (zcs L c) fz)) : Rds H G (ga g) (byteVs L) := fun base w0 w hw => by
  have h := (rds_zrow i hi base w0 w hw).take L.length
  have e : (zcs L c).take L.length = byteVs L := by
    unfold zcs
    rw [List.take_append_of_le_length (by simp [byteVs]), List.take_of_length_le (by simp [byteVs])]
  rwa [e] at h
theorem ms_bytes {x : Operand} {s t e : TypeId} {b : ByteArray} {sz bytes : Nat} [ht : EL P t e sz bytes] [hk : IK P e .u8] [hs : SS P s] (ho : o.op = .convert s t x) (hx : opd E x = some (.string b)) :
    MStep P E H G o (fun y => b.size ≤ (y 1).c) (fun y => .slice (ga (y 0).c) b.size (y 1).c) (fun y => .zrow (y 0).c e (zcs b.data.toList (y 1).c) ((y 1).c, (y 1).c + 1) :: H) (fun _ => G) := ms_of (v0 := undef) fun N base w0 a w he hw => by
  have hr := run_bytes_of_string (P := P) w s t e b hs.h ht.h.1 hk.h
  have hle : b.size ≤ grownCap w b.size 0 e := grownCap_ge w b.size 0 e
  have hbs : (bytesRow b (grownCap w b.size 0 e)) = (zcs b.data.toList (grownCap w b.size 0 e)).toArray := by
    apply Array.ext'
    simp [bytesRow, zcs, byteVs]
  have hsz : (bytesRow b (grownCap w b.size 0 e)).size = grownCap w b.size 0 e := by
    rw [hbs]; simp only [List.size_toArray]; exact zcs_len _ _ hle
  rw [hsz, hbs] at hr
  refine ⟨mkY2 w.heap.size (grownCap w b.size 0 e) w, w.drew.alloc (.cells (zcs b.data.toList (grownCap w b.size 0 e)).toArray e (grownCap w b.size 0 e, grownCap w b.size 0 e + 1)), hle, ?_, ?_⟩
  · simp only [execOp, ho, he.eval hx, Sem.run_bind, hr, Result.andThen_ok, Sem.run_pure]; rfl
  · exact hw.grow (Hn := [.zrow w.heap.size e _ _]) (Gn := []) (((Below.refl _ _).drew).alloc (Nat.le_refl _) _) (NewOk.one ⟨Nat.le_refl _, heap_alloc_new _ _⟩)
theorem ps_loadZ {x : Operand} {t g e c i : Nat} {L : List UInt8} {fz : Nat × Nat} (q : Nat) [hl : LD P t 1 false] (ho : o.op = .load t x) (hx : opd E x = some (pt (ga g) (i * 1))) (hi : H[q]? = some (.zrow g e (zcs L c) fz)) (hj : i < L.length) : PStep P E H G o (.int .u8 ((L.getD i 0).toNat : Int)) :=
  ps_load ho hx (Rds.cell (rds_zcs q hi) (by simp [byteVs, hj]))
theorem ms_setZ {x y : Operand} {t g e c i n : Nat} {L : List UInt8} {v : UInt8} (q : Nat) [hl : LD P t 1 false] (ho : o.op = .store t x y) (hx : opd E x = some (pt (ga g) (i * 1))) (hy : opd E y = some (.int .u8 (v.toNat : Int))) (hi : H[q]? = some (.zrow g e (zcs L c) (n, n + 1))) (hj : i < L.length) (hn : i < n) :
    MStep P E H G o (fun _ => True) (fun _ => undef) (fun _ => H.set q (.zrow g e (zcs (L.set i v) c) (n, n + 1))) (fun _ => G) := fun N base w0 a w Q K he hw hK => by
  obtain ⟨hb, hh⟩ := hw.own _ (List.mem_of_getElem? hi)
  have hlen : i < (zcs L c).length := by simp [zcs, byteVs]; omega
  have hadd : (⟨g, i * 1, none⟩ : Addr).add 0 = ⟨g, i, none⟩ := by unfold Addr.add; simp
  have hcell : w.cell? ⟨g, i, none⟩ = some (zcs L c)[i] := by simp [World.cell?, hh, hlen]
  have hfro : w.frozen? ⟨g, i, none⟩ = false := by simp [World.frozen?, hh]; omega
  have hst : (storeCells ⟨g, i * 1, none⟩ [.int .u8 (v.toNat : Int)] 0).run P w = .ok () (w.setRow g ((zcs L c).set i (.int .u8 (v.toNat : Int))).toArray) := by
    simp only [storeCells, Sem.run_bind]
    rw [hadd, run_store P w _ _ _ rfl, hcell]
    simp [hfro, setCell_eq_setRow w g i _ e _ _ hh]
  have hsz : (sizeOf t).run P w = .ok 1 w := by
    have h := hl.h
    unfold ldB at h
    split at h <;> first | (injection h with h; injection h with h1 h2; rename_i hi; simp [sizeOf, typeInfo, hi, h1]) | cases h
  have hrun : (execOp a.eval o).run P w = .ok .skip (w.setRow g ((zcs L c).set i (.int .u8 (v.toNat : Int))).toArray) := by
    simp only [Nat.mul_one] at hst
    simp [execOp, ho, he.eval hx, he.eval hy, pt, ga, Instr.storeAt, Instr.sureAddr, storeVar, hsz, Value.cells, ga_add, hst]
  rw [zcs_set L c i v hj] at hrun
  unfold Oper.wp; rw [hrun]
  refine hK (mkY none 0 w) _ trivial (hw.turn (x := .zrow g e _ _) hi (r := some g) ?_ (fun k hk => by cases hk; rfl) ⟨hb, setRow_heap w g _ _ e _ hh⟩ (fun j hj => .inl hj))
  exact ⟨rfl, rfl, rfl, by simp, fun j _ hj => setRow_other w g j _ (fun e => hj (by simp [e]))⟩
/-- Appending a string to bytes. -/
theorem run_appS {t u ty e n c base : Nat} {A : Option Addr} {us : List Value} {w : World} (hT : SlP P t e 1 1) (hz : (P.info? e).bind (·.zero) = some (.int .u8 0)) (hu : P.underlying u = some .string) (hown : Own w base e 1 A n c us) (s : ByteArray) (hb : n + s.size ≤ 140737488355328) (hbase : base ≤ w.heap.size) :
    ∃ A' c' w', (Builtin.append_ #[t, u] ty #[.slice A n c, .string s]).run P w = .ok (.slice A' (n + s.size) c') w' ∧ Own w' base e 1 A' (n + s.size) c' (us ++ byteVs s.data.toList) ∧ w.grownBy w' (blk A) ∧ (blk A' = blk A ∨ blk A' = some w.heap.size) := by
  obtain ⟨ht, _, i, z, hi, hzz, hs, hby, _⟩ := hT
  have hz' : i.zero = some (.int .u8 0) := by simpa [hi] using hz
  obtain ⟨v', w', hr, h2, h3, hiff⟩ := Lib.run_append_own_string (P := P) w base t u ty e i ht hu hi hz' hs hby (.slice A n c) n us hown s (by simp only [maxLen]; omega) hb hbase
  obtain ⟨A', c', rfl⟩ : ∃ A' c', v' = .slice A' (n + s.size) c' := by
    rcases h2.2 with ⟨hv, hn⟩ | ⟨g, cap, cur, hv, _⟩
    · exact ⟨none, 0, by rw [hv, hn]⟩
    · exact ⟨_, _, hv⟩
  rw [ownBlock_slice] at h3
  refine ⟨A', c', w', hr, h2, h3, ?_⟩
  rcases hown.2 with ⟨hv, hn⟩ | ⟨g, cap, cur, hv, hbg, hg, hnc, hcm, hcs, htk⟩
  · cases hv

    by_cases h0 : s.size = 0
    · have := hiff.2 ⟨rfl, h0⟩
      injection this with hA
      rw [hA]; exact .inl rfl
    · have hr2 := run_append_nil_string (P := P) w t u ty e i (.int .u8 0) ht hu hi hz' s (by omega) (by omega) (by rw [hby]; omega)
      simp only [Nat.zero_add] at hr
      rw [hr2] at hr
      injection hr with hr _
      injection hr with hr
      subst hr; exact .inr rfl
  · cases hv
    by_cases hroom : n + s.size ≤ c
    · have hr2 := Lib.run_append_room_string (P := P) w t u ty e i ht hu hi hs g n c cur hg s hroom (by simp at hcs; omega)
      rw [hr2] at hr
      injection hr with hr _
      injection hr with hr
      subst hr; exact .inl rfl
    · have holds : ∀ j v, us[j]? = some v → w.cell? ((⟨g, 0, none⟩ : Addr).add j) = some v := hown.cells (g := g) rfl
      have hl := hown.1
      have hr2 := Lib.run_append_grow_string (P := P) w t u ty e i (.int .u8 0) ht hu hi hz' ⟨g, 0, none⟩ n c us (by rw [hs]; exact hl) holds s (by omega) (by omega) (by rw [hby]; exact growslice_fits (by omega) (by omega))
      rw [hr2] at hr
      injection hr with hr _
      injection hr with hr
      subst hr; exact .inr rfl
theorem ms_appS {t u e n c : Nat} {A : Option Addr} {x y : Operand} {L : List UInt8} {s : ByteArray} (q : Nat) [ht : EL P t e 1 1] [hz : ZB P e] [hu : SS P u] (ho : o.op = .call { callee := .builtin .append, args := #[x, y], argTypes := #[t, u] })
    (hx : opd E x = some (.slice A n c)) (hy : opd E y = some (.string s)) (hi : H[q]? = some (.row e 1 A n c (byteVs L))) (hb : n + s.size ≤ 140737488355328) :
    MStep P E H G o (fun _ => True) (fun y => .slice (y 0).A (n + s.size) (y 0).c) (fun y => H.set q (.row e 1 (y 0).A (n + s.size) (y 0).c (byteVs (L ++ s.data.toList)))) (fun _ => G) := fun N base w0 a w Q K he hw hK => by
  have hzz := hz.h
  obtain ⟨A', c', w', hrun, h2, h3, h4⟩ := run_appS (ty := o.type) ht.h hzz hu.h (hw.own _ (List.mem_of_getElem? hi)) s hb hw.le
  have hr' : (execOp a.eval o).run P w = .ok (.value (.slice A' (n + s.size) c')) w' := by
    unfold execOp
    simp only [ho, resolve, invoke, builtin, Sem.run_bind, Sem.run_pure, Result.andThen_ok, List.map_toArray, List.map_cons, List.map_nil, he.eval hx, he.eval hy, hrun]
  have e2 : byteVs L ++ byteVs s.data.toList = byteVs (L ++ s.data.toList) := by simp [byteVs]
  rw [e2] at h2
  unfold Oper.wp; rw [hr']
  refine hK (mkY A' c' w) _ trivial (hw.turn (x := .row e 1 A n c _) hi h3 (fun k hk => hk) h2 fun k hk => ?_)
  rcases h4 with h4 | h4
  · exact .inl (h4.symm.trans hk)
  · right
    have : some k = some w.heap.size := hk.symm.trans h4
    cases this; exact Nat.le_refl _
end
end Go.Proofs.Ytojgphgfhapacaa
/- Cache: both programs. -/
namespace Go.Proofs.Ytojgphgfhapacaa
open Go.RowKit
set_option maxHeartbeats 4000000
set_option maxRecDepth 20000
set_option linter.unusedVariables false
set_option linter.unusedSimpArgs false
attribute [local irreducible] Calls
def isRow (t no : Int) (x : CRow) : Bool := (x.tenant == t) && (x.no == no)
def ofT (t : Int) (x : CRow) : Bool := x.tenant == t
def okC0 (x : DCache) : Bool := !(!inB x.cap 1 8 || decide (x.cap < (x.R.length : Int)))
def okCi (R : List CRow) (k : Nat) : Bool := !(decide (100 < ((nth R k).text.size : Int)) || (ixP (isRow (nth R k).tenant (nth R k).no) R != (k : Int)))
def fCacheOk (x : DCache) : Bool := okC0 x && (List.range x.R.length).all (okCi x.R)
end Go.Proofs.Ytojgphgfhapacaa
/- CacheGet and CacheWipe of both programs. -/
namespace Go.Proofs.Ytojgphgfhapacaa
open Go.RowKit
set_option maxHeartbeats 4000000
set_option maxRecDepth 20000
set_option linter.unusedVariables false
set_option linter.unusedSimpArgs false
attribute [local irreducible] Calls
/-- What stays when a tenant is wiped out. -/
def keepR (R : List CRow) (t : Int) : List CRow := R.filter (fun x => !ofT t x)
def fCacheWipe (x : DCache) (t : Int) : DCache × Int := bif fCacheOk x then (⟨x.cap, keepR x.R t⟩, (x.R.length : Int) - ((keepR x.R t).length : Int)) else (⟨0, []⟩, 0)
theorem keep_le (R : List CRow) (t : Int) : (keepR R t).length ≤ R.length := List.length_filter_le _ _
theorem WOk.rowNil {base : Nat} {w0 w : World} {H : List HObj} {G : List World} (e sz : Nat) (hw : WOk base w0 H G w) : WOk base w0 (.row e sz none 0 0 [] :: H) G w :=
  hw.grow (Hn := [.row e sz none 0 0 []]) (Gn := []) (Below.refl _ _) (NewOk.one (x := .row e sz none 0 0 []) (Own.nil w _ e sz))
theorem keep_step {R : List CRow} {t : Int} {k : Nat} (h : k < R.length) : keepR (R.take (k + 1)) t = if ofT t (nth R k) = true then keepR (R.take k) t else keepR (R.take k) t ++ [nth R k] := by
  unfold keepR
  rw [takeN h, List.filter_append]
  cases hh : ofT t (nth R k) <;> simp [hh]
structure WipI (R : List CRow) where
  k : Nat
  A : Option Addr
  c : Nat
  hk : k ≤ R.length
theorem CacheWipe_lim (x : DCache) (t : Int) (hs : Cache_sm x) (ht : -9223372036854775808 ≤ t ∧ t ≤ 9223372036854775807) : Cache_lim (fCacheWipe x t).1 := by
  have := keep_le x.R t
  have h1 := hs.1
  unfold fCacheWipe
  cases fCacheOk x
  · show (0 : Nat) ≤ _; omega
  · show (keepR x.R t).length ≤ _; omega
end Go.Proofs.Ytojgphgfhapacaa
/- strings.Builder in memory of the call's own, with the engine: written on, read at the end. -/
namespace Go.Proofs.Ytojgphgfhapacaa
open Go.RowKit
set_option maxHeartbeats 4000000
set_option maxRecDepth 20000
set_option linter.unusedVariables false
set_option linter.unusedSimpArgs false
attribute [local irreducible] Calls
theorem pt_ga (g : Nat) : pt (ga g) 0 = .pointer (some ⟨g, 0, none⟩) := by
  unfold pt ga
  rw [Option.map_some, ga_add]
instance zbB : ZB Try.prog 5 := ⟨by kernel_rfl⟩
/-- A builder: its box, its bytes. -/
abbrev bldO (g : Nat) (p : Value) (A : Option Addr) (n c : Nat) : HObj := .box g 70 [p, .slice A n c]
theorem copyCheck_c (g : Nat) (p v : Value) (hp : p = .pointer none ∨ p = .pointer (some ⟨g, 0, none⟩)) {base : Nat} {w0 w : World} {H : List HObj} {G : List World} (hw : WOk base w0 (.box g 70 [p, v] :: H) G w) :
    Calls Try.prog 44 #[pt (ga g) 0] w fun e w' => ∃ y : Ys, e = .returned (.tuple #[]) ∧ True ∧ WOk base w0 (.box g 70 [.pointer (some ⟨g, 0, none⟩), v] :: H) G w' := by
  obtain ⟨hb, hh⟩ := hw.own _ List.mem_cons_self
  have hc : w.cell? ⟨g, 0, none⟩ = some p := by rw [Lib.cell_of_heap hh]; rfl
  rw [pt_ga]
  rcases hp with rfl | rfl
  · refine (Any.Builder_copyCheck_fresh (ρ := sh_lays105_ren) { sh_lays105 with } sh_Builder_Extra_105.toX72 g w hc (by simp [World.shape?, hh]; rfl) (Lib.frozen_of_heap hh 0)).mono ?_
    rintro e w' ⟨rfl, rfl⟩
    refine ⟨mkY none 0 w, rfl, trivial, ?_⟩
    refine hw.turn (i := 0) (x' := .box g 70 [.pointer (some ⟨g, 0, none⟩), v]) rfl (r := some g) ⟨rfl, rfl, rfl, by simp, fun j _ hj => ?_⟩ (fun k hk => by cases hk; rfl) ⟨hb, ?_⟩ (fun j hj => .inl hj)
    · exact heap_setCell_other w ⟨g, 0, none⟩ j _ (fun e => hj (by simp [e]))
    · rw [heap_setCell_same w g 0 _ _ _ hh]; rfl
  · refine (Any.Builder_copyCheck_used (ρ := sh_lays105_ren) { sh_lays105 with } sh_Builder_Extra_105.toX72 g w hc).mono ?_
    rintro e w' ⟨rfl, rfl⟩
    exact ⟨mkY none 0 w', rfl, trivial, hw⟩
/-- A string is written behind. -/
theorem bldW_c (g : Nat) (p : Value) (A : Option Addr) (c : Nat) (t s : ByteArray) (hp : p = .pointer none ∨ p = .pointer (some ⟨g, 0, none⟩)) (hz : t.size + s.size ≤ 140737488355328) {base : Nat} {w0 w : World} {H : List HObj} {G : List World}
    (hw : WOk base w0 (bldO g p A t.size c :: .row 5 1 A t.size c (byteVs (bl t)) :: H) G w) :
    Calls Try.prog 39 #[pt (ga g) 0, .string s] w fun e w' => ∃ y : Ys, e = .returned (.tuple #[.int .i64 s.size, .nilIface]) ∧ True ∧ WOk base w0 (bldO g (.pointer (some ⟨g, 0, none⟩)) (y 0).A (t ++ s).size (y 0).c :: .row 5 1 (y 0).A (t ++ s).size (y 0).c (byteVs (bl (t ++ s))) :: H) G w' := by
  rw [bl_app, ByteArray.size_append]
  refine ok_enterW 19 Try.func39 rfl rfl rfl hw ?_
  repeat' (first
    | refine ok_seq ?_
    | refine ok_then ?_
    | refine ok_then_ret ?_
    | refine ok_then_exit ?_
    | refine ok_block ?_
    | refine ok_in_normal ?_
    | refine ok_in_ret ?_
    | refine ok_in_exit ?_
    | refine ok_in_other rfl ?_
    | (refine ok_cond rfl (fun hc => ?_) (fun hc => ?_) <;> (have hd := hc; (try simp only [decide_eq_true_eq, decide_eq_false_iff_not, Bool.or_eq_true, Bool.or_eq_false_iff, Bool.and_eq_true, Bool.and_eq_false_iff, Bool.not_eq_true', Bool.not_eq_false', bne_iff_ne, beq_iff_eq, bne_eq_false_iff_eq, beq_eq_false_iff_ne, ne_eq, Bool.not_true, Bool.not_false, Bool.false_eq_true, Bool.true_eq_false, inB_true, inB_false] at hd)))
    | refine ok_ret ?_
    | refine ok_exit ?_
    | refine ok_skip ?_
    | (refine ok_region (i := 0) ?_; refine ok_p rfl rfl rfl (by exact ps_assign rfl rfl) ?_; refine ok_p rfl rfl rfl (by exact ps_assign rfl rfl) ?_; refine ok_nil ?_; refine ok_env [(0, _), (1, _)] ⟨rfl, rfl, trivial⟩ ?_)
    | (refine ok_region (i := 1) ?_; refine ok_p rfl rfl rfl (by exact ps_move rfl rfl) ?_; refine ok_m rfl rfl rfl (by exact ms_w1 (fun _ _ _ h => h) rfl rfl (fun _ _ w hw => copyCheck_c g p _ hp hw)) ?_; rintro y7 hy7; refine ok_nil ?_; refine ok_env [(0, _), (1, _)] ⟨rfl, rfl, trivial⟩ ?_)
    | (refine ok_region (i := 2) ?_; refine ok_p rfl rfl rfl (by exact ps_move rfl rfl) ?_; refine ok_p rfl rfl rfl (by exact ps_move rfl rfl) ?_; refine ok_p rfl rfl rfl (by first | exact ps_nil rfl rfl (by first | exact isw_ga _ | exact isw_some _ | exact isw_row 0 rfl (by omega) | exact isw_row 1 rfl (by omega) | exact isw_row 2 rfl (by omega) | exact isw_row 3 rfl (by omega) | exact isw_row 4 rfl (by omega) | exact isw_row 5 rfl (by omega) | exact isw_row 6 rfl (by omega) | exact isw_row 7 rfl (by omega) | exact isw_row 8 rfl (by omega) | exact isw_of (isS_fl (by assumption) (by omega)) | exact isw_of (by assumption)) | exact ps_nil_func rfl rfl) ?_; refine ok_p rfl rfl rfl (by exact ps_field rfl rfl (by first | exact isw_ga _ | exact isw_some _ | exact isw_row 0 rfl (by omega) | exact isw_row 1 rfl (by omega) | exact isw_row 2 rfl (by omega) | exact isw_row 3 rfl (by omega) | exact isw_row 4 rfl (by omega) | exact isw_row 5 rfl (by omega) | exact isw_row 6 rfl (by omega) | exact isw_row 7 rfl (by omega) | exact isw_row 8 rfl (by omega) | exact isw_of (isS_fl (by assumption) (by omega)) | exact isw_of (by assumption))) ?_; refine ok_p rfl rfl rfl (by exact ps_load rfl rfl (by first | exact Rds.cell (rds_box 0 rfl) rfl | exact Rds.cell (rds_box 1 rfl) rfl | exact Rds.cell (rds_box 2 rfl) rfl | exact Rds.cell (rds_box 3 rfl) rfl | exact Rds.cell (rds_box 4 rfl) rfl | exact Rds.cell (rds_box 5 rfl) rfl | exact Rds.cell (rds_box 6 rfl) rfl | exact Rds.cell (rds_box 7 rfl) rfl | exact Rds.cell (rds_box 8 rfl) rfl | exact Rds.cell (rds_box 9 rfl) rfl | exact Rds.cell (rds_box 10 rfl) rfl | exact Rds.cell (rds_box 11 rfl) rfl | exact Rds.cell (rds_box 12 rfl) rfl | exact Rds.cell (rds_box 13 rfl) rfl | exact Rds.cell (rds_box 14 rfl) rfl | exact Rds.cell (rds_box 15 rfl) rfl | exact Rds.cell (rds_box 16 rfl) rfl | exact Rds.cell (rds_box 17 rfl) rfl | exact Rds.cell (rds_box 18 rfl) rfl | exact Rds.cell (rds_box 19 rfl) rfl | exact Rds.cell (rds_box 20 rfl) rfl | exact Rds.cell (rds_box 21 rfl) rfl | exact Rds.cell (rds_box 22 rfl) rfl | exact Rds.cell (rds_box 23 rfl) rfl | exact Rds.cell (rds_rf (by assumption) (by first | exact List.mem_cons_self | exact List.mem_cons_of_mem _ List.mem_cons_self | simp)) (by first | exact fl_at0 _ _ (by omega) (by decide) | exact fl_at _ _ _ (by omega) (by decide)) | exact Rds.cell (rds_row 0 rfl) (by first | exact fl_at0 _ _ (by omega) (by decide) | exact fl_at _ _ _ (by omega) (by decide)) | exact Rds.cell (rds_row 1 rfl) (by first | exact fl_at0 _ _ (by omega) (by decide) | exact fl_at _ _ _ (by omega) (by decide)) | exact Rds.cell (rds_row 2 rfl) (by first | exact fl_at0 _ _ (by omega) (by decide) | exact fl_at _ _ _ (by omega) (by decide)) | exact Rds.cell (rds_row 3 rfl) (by first | exact fl_at0 _ _ (by omega) (by decide) | exact fl_at _ _ _ (by omega) (by decide)) | exact Rds.cell (rds_row 4 rfl) (by first | exact fl_at0 _ _ (by omega) (by decide) | exact fl_at _ _ _ (by omega) (by decide)) | exact Rds.cell (rds_row 5 rfl) (by first | exact fl_at0 _ _ (by omega) (by decide) | exact fl_at _ _ _ (by omega) (by decide)) | exact Rds.cell (rds_row 6 rfl) (by first | exact fl_at0 _ _ (by omega) (by decide) | exact fl_at _ _ _ (by omega) (by decide)) | exact Rds.cell (rds_row 7 rfl) (by first | exact fl_at0 _ _ (by omega) (by decide) | exact fl_at _ _ _ (by omega) (by decide)) | exact Rds.cell (rds_row 8 rfl) (by first | exact fl_at0 _ _ (by omega) (by decide) | exact fl_at _ _ _ (by omega) (by decide)) | exact Rds.cell (rds_row 9 rfl) (by first | exact fl_at0 _ _ (by omega) (by decide) | exact fl_at _ _ _ (by omega) (by decide)))) ?_; refine ok_p rfl rfl rfl (by exact ps_move rfl rfl) ?_; refine ok_m rfl rfl rfl (by exact ms_appS 1 rfl rfl rfl rfl hz) ?_; rintro y14 hy14; refine ok_p rfl rfl rfl (by first | exact ps_nil rfl rfl (by first | exact isw_ga _ | exact isw_some _ | exact isw_row 0 rfl (by omega) | exact isw_row 1 rfl (by omega) | exact isw_row 2 rfl (by omega) | exact isw_row 3 rfl (by omega) | exact isw_row 4 rfl (by omega) | exact isw_row 5 rfl (by omega) | exact isw_row 6 rfl (by omega) | exact isw_row 7 rfl (by omega) | exact isw_row 8 rfl (by omega) | exact isw_of (isS_fl (by assumption) (by omega)) | exact isw_of (by assumption)) | exact ps_nil_func rfl rfl) ?_; refine ok_p rfl rfl rfl (by exact ps_field rfl rfl (by first | exact isw_ga _ | exact isw_some _ | exact isw_row 0 rfl (by omega) | exact isw_row 1 rfl (by omega) | exact isw_row 2 rfl (by omega) | exact isw_row 3 rfl (by omega) | exact isw_row 4 rfl (by omega) | exact isw_row 5 rfl (by omega) | exact isw_row 6 rfl (by omega) | exact isw_row 7 rfl (by omega) | exact isw_row 8 rfl (by omega) | exact isw_of (isS_fl (by assumption) (by omega)) | exact isw_of (by assumption))) ?_; refine ok_m_ rfl rfl (by first | exact ms_store 0 rfl rfl rfl rfl rfl rfl rfl rfl | exact ms_store 1 rfl rfl rfl rfl rfl rfl rfl rfl | exact ms_store 2 rfl rfl rfl rfl rfl rfl rfl rfl | exact ms_store 3 rfl rfl rfl rfl rfl rfl rfl rfl | exact ms_store 4 rfl rfl rfl rfl rfl rfl rfl rfl | exact ms_store 5 rfl rfl rfl rfl rfl rfl rfl rfl | exact ms_store 6 rfl rfl rfl rfl rfl rfl rfl rfl | exact ms_store 7 rfl rfl rfl rfl rfl rfl rfl rfl) ?_; rintro y_ hy_; refine ok_nil ?_; refine ok_env [(1, _)] ⟨rfl, trivial⟩ ?_)
    | (refine ok_region (i := 3) ?_; refine ok_p rfl rfl rfl (by exact ps_move rfl rfl) ?_; refine ok_p rfl rfl rfl (by exact ps_slen rfl rfl) ?_; refine ok_p rfl rfl rfl (by exact ps_assign rfl rfl) ?_; refine ok_p rfl rfl rfl (by exact ps_assign rfl rfl) ?_; refine ok_nil ?_; refine ok_env [(4, _), (5, _)] ⟨rfl, rfl, trivial⟩ ?_))
  exact ok_endL (vs := [_, _]) rfl ⟨rfl, rfl, trivial⟩ (fun w' hw => ⟨y14, rfl, trivial, hw⟩)
/-- A builder of no bytes yet. -/
theorem WOk.bld0 {base : Nat} {w0 w : World} {H : List HObj} {G : List World} {g : Nat} (hw : WOk base w0 (.box g 70 [.pointer none, .slice none 0 0] :: H) G w) : WOk base w0 (bldO g (.pointer none) none (⟨#[]⟩ : ByteArray).size 0 :: .row 5 1 none (⟨#[]⟩ : ByteArray).size 0 (byteVs (bl ⟨#[]⟩)) :: H) G w := (hw.rowNil 5 1).front 1 rfl
/-- What a call that leaves nothing behind may forget. -/
theorem ms_noG {P : Program} {E : Env} {H : List HObj} {G : List World} {o : Oper} {F : Ys → Prop} {v : Ys → Value} {H' : Ys → List HObj} {G' : Ys → List World} (h : MStep P E H [] o F v H' G') : MStep P E H G o F v H' G' := fun N base w0 a w Q K he hw hK =>
  h N base w0 a w Q K he ⟨hw.below, hw.le, hw.own, hw.apart, fun m hm => by cases hm⟩ hK
theorem ba_bl (s : ByteArray) : (⟨(bl s).toArray⟩ : ByteArray) = s := by apply ByteArray.ext; simp
/-- The bytes are read, and the builder is let go. -/
theorem bldS_c (g : Nat) (p : Value) (A : Option Addr) (c : Nat) (t : ByteArray) (hp : p = .pointer none ∨ p = .pointer (some ⟨g, 0, none⟩)) (h0 : 0 < t.size) {base : Nat} {w0 w : World} {H : List HObj}
    (hw : WOk base w0 (bldO g p A t.size c :: .row 5 1 A t.size c (byteVs (bl t)) :: H) [] w) :
    Calls Try.prog 40 #[pt (ga g) 0] w fun e w' => ∃ y : Ys, e = .returned (.string t) ∧ True ∧ WOk base w0 [] [] w' := by
  obtain ⟨hb, hh⟩ := hw.own _ List.mem_cons_self
  have hr := hw.own (.row 5 1 A t.size c (byteVs (bl t))) (by simp)
  have hga : ¬ blk A = some g := (List.pairwise_cons.1 hw.apart).1 (.row 5 1 A t.size c (byteVs (bl t))) (by simp) g rfl
  rw [pt_ga]
  have hat : Lib.BuilderAt 70 5 base g p (Lib.byteCells (bl t)) w := ⟨hb, _, hh, by rw [Lib.byteCells_length, bl_len]; exact hr, by rw [ownBlock_slice]; exact hga⟩
  refine (Any.Builder_String (ρ := sh_lays105_ren) { sh_lays105 with } sh_Builder_Extra_105 base g (bl t) w (by rcases hp with rfl | rfl; exact .inl hat; exact .inr hat) (fun e => by have := bl_len t; rw [e] at this; simp at this; omega)).mono ?_
  rintro e w' ⟨rfl, hbel⟩
  rw [ba_bl]
  exact ⟨mkY none 0 w, rfl, trivial, hw.below.trans hbel, Nat.le_trans hw.le hbel.size, (fun _ h => by cases h), List.Pairwise.nil, (fun m hm => by cases hm)⟩
end Go.Proofs.Ytojgphgfhapacaa
/- The engine: makers told at one place alone (a call whose contract needs the beginning's own world). -/
namespace Go.Proofs.Ytojgphgfhapacaa
open Go.RowKit
set_option linter.unusedVariables false
set_option linter.unusedSimpArgs false
def MAt (P : Program) (N : Nat) (E : Env) (H : List HObj) (G : List World) (o : Oper) (F : Ys → Prop) (v : Ys → Value) (H' : Ys → List HObj) (G' : Ys → List World) (base : Nat) (w0 : World) : Prop :=
  ∀ a w Q (K : Act → World → Prop), EnvOk N E a → WOk base w0 H G w → (∀ y w', F y → WOk base w0 (H' y) (G' y) w' → K (a.put o.dst (v y)) w') → o.wp P a w K Q
section
variable {P : Program} {N base : Nat} {w0 : World} {E : Env} {H HS : List HObj} {G GS : List World} {Q : Exit → Act → World → Prop} {ops : Array Oper} {tl : List Oper} {n f : Nat} {listed : Array Bool}
theorem at_w1 {o : Oper} {f : FuncId} {tys : Array TypeId} {x0 : Operand} {u0 : Value} {F : Ys → Prop} {v : Ys → Value} {H' : Ys → List HObj} {G' : Ys → List World} [hf : FN P f] (ho : o.op = .call { callee := .value (.func f), args := #[x0], argTypes := tys }) (h0 : opd E x0 = some u0)
    (hc : ∀ w, WOk base w0 H G w → Calls P f #[u0] w (fun e w' => ∃ y, e = .returned (v y) ∧ F y ∧ WOk base w0 (H' y) (G' y) w')) : MAt P N E H G o F v H' G' base w0 := fun a w Q K he hw hK => by
  obtain ⟨fn, c, h1, h2, h3⟩ := hf.h
  have hr : (execOp a.eval o).run P w = .ok (.enter f #[u0]) w := by
    have hfe : a.eval (.func f) = .func (.func f) #[] #[] := rfl
    have hname : fn.name ≠ "runtime.NumGoroutine" := by simpa using h2
    simp [execOp, ho, resolve, he.eval h0, hfe, Deferred.ofValue, invoke, callFunc, h1, hname, h3]
  unfold Oper.wp; rw [hr]
  refine (hc w hw).mono fun e w' ⟨y, he', hF, hw'⟩ => ?_
  subst he'
  exact hK y w' hF hw'
theorem okT_oneAt {i : Nat} {o : Oper} {F : Ys → Prop} {v : Ys → Value} {H' : Ys → List HObj} {G' : Ys → List World} (hi : ops[i]? = some o) (hin : Nat.blt i n = true) (hr : Region.ready .any ops listed = [i]) {td : Nat} (hdt : o.dst = some td) (hd : Nat.blt td N = true) (hg : o.guard = none) (hs : MAt P N E H G o F v H' G' base w0)
    (hS : ∀ y w, F y → WOk base w0 (H' y) (G' y) w → WOk base w0 HS GS w)
    (h : ∀ y, F y → OkT P ops Q tl n N base w0 HS GS f (listed.setIfInBounds i true) ((td, v y) :: E) (H' y) (G' y)) : OkT P ops Q tl n N base w0 HS GS (f + 1) listed E H G := fun a w hB hQ he hw hSw inv => by
  have hin' : i < n := by simpa [Nat.blt_eq] using hin
  refine ⟨by rw [hr]; simp, fun j hj => ?_⟩
  have hji : j = i := by rw [hr] at hj; simpa using hj
  subst hji
  refine ⟨hin', ?_⟩
  unfold wpOp
  simp only [hi]
  rw [if_pos (by simp [Region.wanted, hg])]
  refine .inl (hs a w Q _ he hw fun y w' hF hw' => ?_)
  have h1 := hS y w' hF hw'
  exact ⟨h1, h y hF _ _ hB hQ (he.put' hdt hd _) hw' h1 (inv.set hj hin')⟩
end
end Go.Proofs.Ytojgphgfhapacaa
/- Stores of files: what both programs search, copy and read. -/
namespace Go.Proofs.Ytojgphgfhapacaa
open Go.RowKit
set_option maxHeartbeats 4000000
set_option maxRecDepth 20000
set_option linter.unusedVariables false
set_option linter.unusedSimpArgs false
attribute [local irreducible] Calls
/-- The place of a file; -1 where it is not there. -/
def atI (F : List FFile) (no : Int) : Int := match atF F no with
  | some i => (i : Int)
  | none => -1
theorem atI_some {F : List FFile} {no : Int} {i : Nat} (hi : i < F.length) (h : (fileAt F i).no = no) (hb : ∀ j, j < i → (fileAt F j).no ≠ no) : atI F no = (i : Int) := by
  have : atF F no = some i := by
    unfold atF
    rw [List.findIdx?_eq_some_iff_getElem]
    refine ⟨hi, ?_, fun j hj => ?_⟩
    · rw [fileAt_get hi] at h; simp [h]
    · have := hb j hj
      rw [fileAt_get (by omega)] at this
      simp [this]
  unfold atI; rw [this]
theorem atI_none {F : List FFile} {no : Int} (h : ∀ j, j < F.length → (fileAt F j).no ≠ no) : atI F no = -1 := by
  have : atF F no = none := by
    unfold atF
    rw [List.findIdx?_eq_none_iff]
    intro f hf
    obtain ⟨j, hj, rfl⟩ := List.getElem_of_mem hf
    have := h j hj
    rw [fileAt_get hj] at this
    simpa using this
  unfold atI; rw [this]
theorem fileAt_nth (R : List LF) (k : Nat) (h : k < R.length) : fileAt (dats R) k = (nth R k).d := by
  rw [fileAt_get (by rw [dats_len]; exact h)]
  simp [dats, nthL R k h]
theorem atI_ix (R : List LF) (no : Int) : ixP (fun x : LF => decide (x.d.no = no)) R = atI (dats R) no := by
  rcases ixP_or (fun x : LF => decide (x.d.no = no)) R with ⟨h1, h2⟩ | ⟨i, h1, h2, h3, h4⟩
  · rw [h1, atI_none fun j hj => ?_]
    rw [dats_len] at hj
    rw [fileAt_nth R j hj]
    have := h2 j hj
    simpa using this
  · rw [h1, atI_some (by rw [dats_len]; exact h2) (by rw [fileAt_nth R i h2]; simpa using h3) fun j hj => ?_]
    rw [fileAt_nth R j (by omega)]
    have := h4 j hj
    simpa using this
theorem atI_iff (F : List FFile) (no : Int) : (atI F no < 0 ∧ atF F no = none) ∨ (∃ i : Nat, atI F no = (i : Int) ∧ atF F no = some i ∧ i < F.length) := by
  unfold atI
  cases h : atF F no with
  | none => exact .inl ⟨by decide, rfl⟩
  | some i => exact .inr ⟨i, rfl, rfl, (at_some h).1⟩
theorem closN_c (x : LF) (g : Nat) (no : Int) (w : World) (h : Rd w (ga g) (fl [no])) : Calls Try.prog 38 (Value.agg (Dat.cells x).toArray :: [pt (ga g) 0]).toArray w fun e w' => e = .returned (.bool (decide (x.d.no = no))) ∧ Below w.heap.size w w' := by
  refine ok_enter 8 Try.func38 rfl rfl rfl ?_
  repeat' (first
    | refine ok_seq ?_
    | refine ok_then ?_
    | refine ok_ret ?_
    | (refine ok_region (i := 0) ?_; refine ok_m rfl rfl rfl (by exact ms_box rfl rfl rfl) ?_; rintro y2 hy2; refine ok_p rfl rfl rfl (by exact ps_assign rfl rfl) ?_; refine ok_nil ?_; refine ok_env [(1, _), (2, _)] ⟨rfl, rfl, trivial⟩ ?_)
    | (refine ok_region (i := 1) ?_; refine ok_p rfl rfl rfl (by exact ps_field rfl rfl (by exact isw_ga _)) ?_; refine ok_p rfl rfl rfl (by exact ps_load rfl rfl (by exact Rds.cell (rds_box 0 rfl) rfl)) ?_; refine ok_p rfl rfl rfl (by exact ps_load rfl rfl (Rds.cell (rds_rf h (by exact List.mem_cons_self)) rfl)) ?_; refine ok_p rfl rfl rfl (by exact ps_int rfl rfl rfl rfl) ?_; refine ok_p rfl rfl rfl (by exact ps_assign rfl rfl) ?_; refine ok_nil ?_; refine ok_env [(3, _)] ⟨rfl, trivial⟩ ?_))
  refine ok_endL (vs := [_]) rfl ⟨rfl, trivial⟩ (fun w' hw => ⟨?_, hw.below⟩)
  simp only [retV]
  congr 2
theorem i_ffileAt_c (v0 : Value) (A : Option Addr) (c : Nat) (R : List LF) (no : Int) (w : World) (h : Rd w A (fl R)) (hl : R.length ≤ 4194304) (h1 : v0.oneCell' = true) :
    Calls Try.prog 18 #[.agg #[v0, .slice A R.length c], .int .i64 no] w fun e w' => e = .returned (.int .i64 (atI (dats R) no)) ∧ Below w.heap.size w w' := by
  rw [← atI_ix]
  refine ok_enter 9 Try.func18 rfl rfl rfl ?_
  repeat' (first
    | refine ok_seq ?_
    | refine ok_then ?_
    | refine ok_ret ?_
    | (refine ok_region (i := 0) ?_; refine ok_m rfl rfl rfl (by exact ms_box rfl rfl rfl) ?_; rintro y2 hy2; refine ok_m rfl rfl rfl (by exact ms_box rfl rfl rfl) ?_; rintro y3 hy3; refine ok_p rfl rfl rfl (by exact ps_assign rfl rfl) ?_; refine ok_nil ?_; refine ok_env [(2, _), (3, _)] ⟨rfl, rfl, trivial⟩ ?_)
    | (refine ok_region (i := 1) ?_; refine ok_p rfl rfl rfl (by exact ps_field rfl rfl (by exact isw_ga _)) ?_; refine ok_p rfl rfl rfl (by exact ps_load rfl rfl (by exact Rds.cell (rds_box 1 rfl) rfl)) ?_; refine ok_p rfl rfl rfl (by exact ps_mkf rfl rfl) ?_; refine ok_m rfl rfl rfl (by exact ms_s2 rfl rfl rfl (fun _ _ w hw => indexF_c 38 [pt (ga (y3 0).c) 0] (fun x => decide (x.d.no = no)) A c R w (rds_rf h (by exact List.mem_cons_self) _ _ w hw) hl (fun x w' hk => closN_c x _ no w' ((rds_box 0 rfl _ _ w hw).keeps hk)))) ?_; rintro y8 hy8; refine ok_p rfl rfl rfl (by exact ps_assign rfl rfl) ?_; refine ok_nil ?_; refine ok_env [(4, _)] ⟨rfl, trivial⟩ ?_))
  exact ok_endL (vs := [_]) rfl ⟨rfl, trivial⟩ (fun w' hw => ⟨rfl, hw.below⟩)
theorem s_l30At_c (v0 : Value) (A : Option Addr) (c : Nat) (R : List LF) (no : Int) (w : World) (h : Rd w A (fl R)) (hl : R.length ≤ 4194304) (h1 : v0.oneCell' = true) :
    Calls Try.prog 23 #[.agg #[v0, .slice A R.length c], .int .i64 no] w fun e w' => e = .returned (.int .i64 (atI (dats R) no)) ∧ Below w.heap.size w w' := by
  refine ok_enter 22 Try.func23 rfl rfl rfl ?_
  repeat' (first
    | refine ok_seq ?_
    | refine ok_then ?_
    | refine ok_block ?_
    | (refine ok_region (i := 0) ?_; refine ok_m rfl rfl rfl (by exact ms_box rfl rfl rfl) ?_; rintro y2 hy2; refine ok_p rfl rfl rfl (by exact ps_assign rfl rfl) ?_; refine ok_nil ?_; refine ok_env [(1, _), (2, _)] ⟨rfl, rfl, trivial⟩ ?_)
    | (refine ok_region (i := 1) ?_; refine ok_p rfl rfl rfl (by exact ps_assign rfl rfl) ?_; refine ok_nil ?_; refine ok_env [(1, _), (2, _), (5, _)] ⟨rfl, rfl, rfl, trivial⟩ ?_))
  refine ok_loop (ι := { k : Nat // k ≤ R.length ∧ ∀ j, j < k → (nth R j).d.no ≠ no }) (fun k => R.length - k.1) (fun k => ([(1, .int .i64 no), (2, pt (ga (y2 0).c) 0), (5, .int .i64 k.1)], _, _)) ⟨0, Nat.zero_le _, fun j h => absurd h (Nat.not_lt_zero j)⟩ (fun a w he hw => ⟨⟨0, Nat.zero_le _, fun j h => absurd h (Nat.not_lt_zero j)⟩, he.sub ⟨rfl, rfl, rfl, trivial⟩, hw⟩) ?_
  rintro ⟨k, hk, hok⟩
  simp only at hk hok ⊢
  have HO := Lib.hid hok; clear hok
  repeat' (first
    | refine ok_seq ?_
    | refine ok_then ?_
    | refine ok_then_ret ?_
    | refine ok_block ?_
    | refine ok_in_normal ?_
    | refine ok_in_ret ?_
    | (refine ok_cond rfl (fun hc => ?_) (fun hc => ?_) <;> (have hd := hc; (try simp only [decide_eq_true_eq, decide_eq_false_iff_not, Bool.or_eq_true, Bool.or_eq_false_iff, Bool.and_eq_true, Bool.and_eq_false_iff, Bool.not_eq_true', Bool.not_eq_false', bne_iff_ne, beq_iff_eq, bne_eq_false_iff_eq, beq_eq_false_iff_ne, ne_eq, Bool.not_true, Bool.not_false, Bool.false_eq_true, Bool.true_eq_false, inB_true, inB_false] at hd)))
    | refine ok_ret ?_
    | refine ok_exit ?_
    | refine ok_skip ?_
    | (refine ok_region (i := 2) ?_; refine ok_p rfl rfl rfl (by exact ps_move rfl rfl) ?_; refine ok_p rfl rfl rfl (by exact ps_field rfl rfl (by exact isw_ga _)) ?_; refine ok_p rfl rfl rfl (by exact ps_load rfl rfl (by exact Rds.cell (rds_box 0 rfl) rfl)) ?_; refine ok_p rfl rfl rfl (by exact ps_len rfl rfl) ?_; refine ok_p rfl rfl rfl (by exact ps_int rfl rfl rfl rfl) ?_; refine ok_nil ?_; refine ok_env [(1, _), (2, _), (5, _), (10, _)] ⟨rfl, rfl, rfl, rfl, trivial⟩ ?_)
    | (refine ok_region (i := 3) ?_; refine ok_p rfl rfl rfl (by exact ps_move rfl rfl) ?_; refine ok_p rfl rfl rfl (by exact ps_add rfl rfl rfl (by omega)) ?_; refine ok_p rfl rfl rfl (by exact ps_assign rfl rfl) ?_; refine ok_nil ?_; refine ok_env [(1, _), (2, _), (5, _)] ⟨rfl, rfl, rfl, trivial⟩ ?_)
    | (refine ok_region (i := 4) ?_; refine ok_p rfl rfl rfl (by exact ps_field rfl rfl (by exact isw_ga _)) ?_; refine ok_p rfl rfl rfl (by exact ps_load rfl rfl (by exact Rds.cell (rds_box 0 rfl) rfl)) ?_; refine ok_p rfl rfl rfl (by exact ps_move rfl rfl) ?_; refine ok_p rfl rfl rfl (by exact ps_indexN rfl rfl rfl (by omega) (by exact isw_of (isS_fl (by assumption) (by omega)))) ?_; refine ok_p rfl rfl rfl (by exact ps_field rfl rfl (by exact isw_of (isS_fl (by assumption) (by omega)))) ?_; refine ok_p rfl rfl rfl (by exact ps_load rfl rfl (by exact Rds.cell (rds_rf (by assumption) (by exact List.mem_cons_self)) (by exact fl_at0 _ _ (by omega) (by decide)))) ?_; refine ok_p rfl rfl rfl (by exact ps_move rfl rfl) ?_; refine ok_p rfl rfl rfl (by exact ps_int rfl rfl rfl rfl) ?_; refine ok_nil ?_; refine ok_env [(1, _), (2, _), (5, _), (20, _)] ⟨rfl, rfl, rfl, rfl, trivial⟩ ?_)
    | (refine ok_region (i := 5) ?_; refine ok_p rfl rfl rfl (by exact ps_move rfl rfl) ?_; refine ok_p rfl rfl rfl (by exact ps_assign rfl rfl) ?_; refine ok_nil ?_; refine ok_env [(4, _)] ⟨rfl, trivial⟩ ?_)
    | (refine ok_region (i := 6) ?_; refine ok_p rfl rfl rfl (by exact ps_assign rfl rfl) ?_; refine ok_nil ?_; refine ok_env [(4, _)] ⟨rfl, trivial⟩ ?_))
  · rw [atI_some (F := dats R) (i := k) (by rw [dats_len]; omega) (by rw [fileAt_nth R k (by omega)]; exact hd) (fun j hj => by rw [fileAt_nth R j (by omega)]; exact HO.out j hj)]
    exact ok_endL (vs := [_]) rfl ⟨rfl, trivial⟩ (fun w' hw => ⟨rfl, hw.below⟩)
  · exact fun a w' he hw => ⟨⟨k + 1, by omega, fun j hj => by
      rcases Nat.lt_succ_iff_lt_or_eq.1 hj with h' | h'
      · exact HO.out j h'
      · subst h'; exact hd⟩, by simp only; omega, he.sub ⟨rfl, rfl, rfl, trivial⟩, hw⟩
  · obtain rfl : k = R.length := by omega
    rw [atI_none fun j hj => by rw [dats_len] at hj; rw [fileAt_nth R j hj]; exact HO.out j hj]
    exact ok_endL (vs := [_]) rfl ⟨rfl, trivial⟩ (fun w' hw => ⟨rfl, hw.below⟩)
/-- How many blocks an owner holds. -/
theorem own_step (R : List LF) (o : Int) (k : Nat) (h : k < R.length) : ownF ((dats R).take (k + 1)) o = ownF ((dats R).take k) o + (if (nth R k).d.ow = o then (nth R k).d.bl.length else 0) := by
  have h' : k < (dats R).length := by rw [dats_len]; exact h
  have e : (dats R).take (k + 1) = (dats R).take k ++ [(nth R k).d] := by
    rw [List.take_succ_eq_append_getElem h']
    congr 2
    simp [dats, nthL R k h]
  rw [e]
  unfold ownF
  rw [List.filter_append, List.filter_cons, List.filter_nil]
  by_cases c : (nth R k).d.ow = o
  · rw [if_pos c, if_pos (by simpa using c)]; simp [lenF]
  · rw [if_neg c, if_neg (by simpa using c)]; simp
theorem own_take_le {x : DFStore} (g : GoodFs x) (o : Int) (k : Nat) : ownF (x.F.take k) o ≤ 24 * x.F.length := by
  have h1 := lenF_take x.F (fun f hf => good_24 g hf) k
  have h2 : ownF (x.F.take k) o ≤ lenF (x.F.take k) := by
    generalize x.F.take k = F
    induction F with
    | nil => simp [ownF, lenF]
    | cons f F ih => rw [ownF_cons, lenF_cons]; split <;> omega
  have h3 : lenF (x.F.take k) ≤ 24 * min k x.F.length := by
    have := lenF_take x.F (fun f hf => good_24 g hf) (min k x.F.length)
    rw [Nat.min_comm] at this
    have e : x.F.take (min x.F.length k) = x.F.take k := by
      rcases Nat.le_total k x.F.length with h | h
      · rw [Nat.min_eq_right h]
      · rw [Nat.min_eq_left h, List.take_length, List.take_of_length_le h]
    rw [e] at this
    rw [Nat.min_comm]; exact this
  have : min k x.F.length ≤ x.F.length := Nat.min_le_right _ _
  omega
theorem i_FsUsed0 (A : Option Addr) (c : Nat) (B : List ByteArray) (A' : Option Addr) (c' : Nat) (R : List LF) (o : Int) (w : World) (h1 : Rd w A (fl B)) (h2 : RdN w A' R) (hl : B.length ≤ 4194304) (hl2 : R.length ≤ 4194304) (hl3 : ∀ x ∈ dats R, x.bl.length ≤ 4194304) :
    Calls Try.prog 9 #[.agg #[.slice A B.length c, .slice A' R.length c'], .int .i64 o] w fun e w' => e = .returned (.int .i64 (fFsUsed ⟨B, dats R⟩ o)) ∧ Below w.heap.size w w' := by
  obtain ⟨q1, q2⟩ := h2
  have Q2 := Lib.hid q2; clear q2
  have HL := Lib.hid hl3; clear hl3
  refine ok_enter 29 Try.func9 rfl rfl rfl ?_
  repeat' (first
    | refine ok_seq ?_
    | refine ok_then ?_
    | refine ok_then_ret ?_
    | refine ok_block ?_
    | (refine ok_cond rfl (fun hc => ?_) (fun hc => ?_) <;> (have hd := hc; (try simp only [decide_eq_true_eq, decide_eq_false_iff_not, Bool.or_eq_true, Bool.or_eq_false_iff, Bool.and_eq_true, Bool.and_eq_false_iff, Bool.not_eq_true', Bool.not_eq_false', bne_iff_ne, beq_iff_eq, bne_eq_false_iff_eq, beq_eq_false_iff_ne, ne_eq, Bool.not_true, Bool.not_false, Bool.false_eq_true, Bool.true_eq_false, inB_true, inB_false] at hd)))
    | refine ok_ret ?_
    | refine ok_skip ?_
    | (refine ok_region (i := 0) ?_; refine ok_m rfl rfl rfl (by exact ms_box rfl rfl rfl) ?_; rintro y2 hy2; refine ok_p rfl rfl rfl (by exact ps_assign rfl rfl) ?_; refine ok_nil ?_; refine ok_env [(1, _), (2, _)] ⟨rfl, rfl, trivial⟩ ?_)
    | (refine ok_region (i := 1) ?_; refine ok_p rfl rfl rfl (by exact ps_loads rfl rfl (by exact rds_box 0 rfl) rfl rfl (by decide)) ?_; refine ok_m rfl rfl rfl (by exact ms_s1 rfl rfl (fun _ _ w hw => i_FsOk0 A c B A' c' R w (rds_rf h1 (by exact List.mem_cons_self) _ _ w hw) (RdN.keep hw ⟨q1, Q2.out⟩ (by exact List.mem_cons_self)) hl hl2 HL.out)) ?_; rintro y9 hy9; refine ok_p rfl rfl rfl (by exact ps_not rfl rfl) ?_; refine ok_nil ?_; refine ok_env [(1, _), (2, _), (10, _)] ⟨rfl, rfl, rfl, trivial⟩ ?_)
    | (refine ok_region (i := 2) ?_; refine ok_p rfl rfl rfl (by exact ps_assign rfl rfl) ?_; refine ok_nil ?_; refine ok_env [(4, _)] ⟨rfl, trivial⟩ ?_)
    | (refine ok_region (i := 3) ?_; refine ok_p rfl rfl rfl (by exact ps_assign rfl rfl) ?_; refine ok_nil ?_; refine ok_env [(1, _), (2, _), (5, _)] ⟨rfl, rfl, rfl, trivial⟩ ?_)
    | (refine ok_region (i := 4) ?_; refine ok_p rfl rfl rfl (by exact ps_field rfl rfl (by exact isw_ga _)) ?_; refine ok_p rfl rfl rfl (by exact ps_load rfl rfl (by exact Rds.cell (rds_box 0 rfl) rfl)) ?_; refine ok_p rfl rfl rfl (by exact ps_len rfl rfl) ?_; refine ok_p rfl rfl rfl (by exact ps_move rfl rfl) ?_; refine ok_nil ?_; refine ok_env [(1, _), (5, _), (12, _), (13, _), (14, _)] ⟨rfl, rfl, rfl, rfl, rfl, trivial⟩ ?_))
  · have e : fFsUsed ⟨B, dats R⟩ o = 0 := by unfold fFsUsed; rw [if_neg (by rw [show fFsOk ⟨B, dats R⟩ = false from hd]; exact Bool.false_ne_true)]
    rw [e]
    exact ok_endL (vs := [_]) rfl ⟨rfl, trivial⟩ (fun w' hw => ⟨rfl, hw.below⟩)
  have hok : fFsOk ⟨B, dats R⟩ = true := hd
  have g := (fs_good _).1 hok
  have hRl : R.length ≤ 6 := by have := g.hF; rw [dats_len] at this; exact this
  have ht := fun k => own_take_le g o k
  simp only [dats_len] at ht
  have HT := Lib.hid ht; clear ht
  rw [used_own hok]
  clear hd hc
  refine ok_loop (ι := { k : Nat // k ≤ R.length }) (fun k => R.length - k.1) (fun k => ([(1, .int .i64 o), (5, .int .i64 (ownF ((dats R).take k.1) o : Int)), (12, .slice A' R.length c'), (13, .int .i64 R.length), (14, .int .i64 k.1)], _, _)) ⟨0, Nat.zero_le _⟩ (fun a w he hw => ⟨⟨0, Nat.zero_le _⟩, he.sub ⟨rfl, rfl, rfl, rfl, rfl, trivial⟩, hw⟩) ?_
  rintro ⟨k, hk⟩
  simp only at hk ⊢
  have hs := own_step R o k
  have hk1 := HT.out k
  have hk2 := HT.out (k + 1)
  have HS := Lib.hid hs; clear hs
  repeat' (first
    | refine ok_seq ?_
    | refine ok_then ?_
    | refine ok_block ?_
    | refine ok_in_normal ?_
    | (refine ok_cond rfl (fun hc => ?_) (fun hc => ?_) <;> (have hd := hc; (try simp only [decide_eq_true_eq, decide_eq_false_iff_not, Bool.or_eq_true, Bool.or_eq_false_iff, Bool.and_eq_true, Bool.and_eq_false_iff, Bool.not_eq_true', Bool.not_eq_false', bne_iff_ne, beq_iff_eq, bne_eq_false_iff_eq, beq_eq_false_iff_ne, ne_eq, Bool.not_true, Bool.not_false, Bool.false_eq_true, Bool.true_eq_false, inB_true, inB_false] at hd)))
    | refine ok_ret ?_
    | refine ok_exit ?_
    | refine ok_skip ?_
    | (refine ok_region (i := 5) ?_; refine ok_p rfl rfl rfl (by exact ps_int rfl rfl rfl rfl) ?_; refine ok_nil ?_; refine ok_env [(1, _), (5, _), (12, _), (13, _), (14, _), (15, _)] ⟨rfl, rfl, rfl, rfl, rfl, rfl, trivial⟩ ?_)
    | (refine ok_region (i := 6) ?_; refine ok_p rfl rfl rfl (by exact ps_indexN rfl rfl rfl (by omega) (by exact isw_of (isS_fl (by assumption) (by omega)))) ?_; refine ok_p rfl rfl rfl (by exact ps_loadsF rfl rfl (by exact rds_rf (by assumption) (by exact List.mem_cons_self)) (by rfl) (by rfl) (by omega) rfl) ?_; refine ok_m rfl rfl rfl (by exact ms_alloc rfl) ?_; rintro y7 hy7; refine ok_m_ rfl rfl (by exact ms_store 0 rfl rfl rfl rfl rfl rfl rfl rfl) ?_; rintro y_ hy_; refine ok_nil ?_; refine ok_env [(1, _), (5, _), (7, _), (12, _), (13, _), (14, _)] ⟨rfl, rfl, rfl, rfl, rfl, rfl, trivial⟩ ?_)
    | (refine ok_region (i := 7) ?_; refine ok_p rfl rfl rfl (by exact ps_field rfl rfl (by exact isw_ga _)) ?_; refine ok_p rfl rfl rfl (by exact ps_load rfl rfl (by exact Rds.cell (rds_box 0 rfl) rfl)) ?_; refine ok_p rfl rfl rfl (by exact ps_move rfl rfl) ?_; refine ok_p rfl rfl rfl (by exact ps_int rfl rfl rfl rfl) ?_; refine ok_nil ?_; refine ok_env [(1, _), (5, _), (7, _), (12, _), (13, _), (14, _), (21, _)] ⟨rfl, rfl, rfl, rfl, rfl, rfl, rfl, trivial⟩ ?_)
    | (refine ok_region (i := 8) ?_; refine ok_p rfl rfl rfl (by exact ps_move rfl rfl) ?_; refine ok_p rfl rfl rfl (by exact ps_field rfl rfl (by exact isw_ga _)) ?_; refine ok_p rfl rfl rfl (by exact ps_load rfl rfl (by exact Rds.cell (rds_box 0 rfl) rfl)) ?_; refine ok_p rfl rfl rfl (by exact ps_len rfl rfl) ?_; refine ok_p rfl rfl rfl (by exact ps_add (n := ((nth R k).d.bl.length : Int)) rfl rfl rfl (by have := HS.out (by omega); rw [if_pos hd] at this; omega)) ?_; refine ok_p rfl rfl rfl (by exact ps_assign rfl rfl) ?_; refine ok_nil ?_; refine ok_env [(1, _), (5, _), (12, _), (13, _), (14, _)] ⟨rfl, rfl, rfl, rfl, rfl, trivial⟩ ?_)
    | (refine ok_region (i := 9) ?_; refine ok_p rfl rfl rfl (by exact ps_add rfl rfl rfl (by omega)) ?_; refine ok_p rfl rfl rfl (by exact ps_move rfl rfl) ?_; refine ok_nil ?_; refine ok_env [(1, _), (5, _), (12, _), (13, _), (14, _)] ⟨rfl, rfl, rfl, rfl, rfl, trivial⟩ ?_)
    | (refine ok_region (i := 10) ?_; refine ok_p rfl rfl rfl (by exact ps_move rfl rfl) ?_; refine ok_p rfl rfl rfl (by exact ps_assign rfl rfl) ?_; refine ok_nil ?_; refine ok_env [(4, _)] ⟨rfl, trivial⟩ ?_))
  · refine fun a w' he hw => ⟨⟨k + 1, by omega⟩, by simp only; omega, he.sub ⟨rfl, ?_, rfl, rfl, rfl, trivial⟩, hw.tl⟩
    simp only [look]
    rw [HS.out (by omega), if_pos hd]; congr 2
  · refine fun a w' he hw => ⟨⟨k + 1, by omega⟩, by simp only; omega, he.sub ⟨rfl, ?_, rfl, rfl, rfl, trivial⟩, hw.tl⟩
    simp only [look]
    rw [HS.out (by omega), if_neg hd, Nat.add_zero]
  · obtain rfl : k = R.length := by omega
    refine ok_endL (vs := [_]) rfl ⟨rfl, trivial⟩ (fun w' hw => ⟨?_, hw.below⟩)
    have e : (dats R).take R.length = dats R := by rw [← dats_len, List.take_length]
    simp only [retV]
    rw [e]
/-- The bytes of a builder, whatever it holds; what is old stays. -/
theorem bldA_c (g : Nat) (p : Value) (A : Option Addr) (c : Nat) (t : ByteArray) (hp : p = .pointer none ∨ p = .pointer (some ⟨g, 0, none⟩)) {base : Nat} {w0 w : World} {H : List HObj} {G : List World} (hbs : w0.heap.size ≤ base)
    (hw : WOk base w0 (bldO g p A t.size c :: .row 5 1 A t.size c (byteVs (bl t)) :: H) G w) :
    Calls Try.prog 40 #[pt (ga g) 0] w fun e w' => ∃ y : Ys, e = .returned (.string t) ∧ True ∧ WOk base w0 [] [w0] w' := by
  obtain ⟨hb, hh⟩ := hw.own _ List.mem_cons_self
  have hr := hw.own (.row 5 1 A t.size c (byteVs (bl t))) (by simp)
  have hga : ¬ blk A = some g := (List.pairwise_cons.1 hw.apart).1 (.row 5 1 A t.size c (byteVs (bl t))) (by simp) g rfl
  rw [pt_ga]
  have hat : Lib.BuilderAt 70 5 base g p (Lib.byteCells (bl t)) w := ⟨hb, _, hh, by rw [Lib.byteCells_length, bl_len]; exact hr, by rw [ownBlock_slice]; exact hga⟩
  refine (Any.Builder_String_any (ρ := sh_lays105_ren) { sh_lays105 with } sh_Builder_Extra_105 base g (bl t) w (by rcases hp with rfl | rfl; exact .inl hat; exact .inr hat) hw.le).mono ?_
  rintro e w' ⟨rfl, hbel⟩
  rw [ba_bl]
  have h2 := hw.below.trans hbel
  exact ⟨mkY none 0 w, rfl, trivial, h2, Nat.le_trans hw.le hbel.size, (fun _ h => by cases h), List.Pairwise.nil, fun m hm q u hq => by
    cases hm with
    | head =>
      have hlt := World.block_lt_of_cell? _ q hq
      exact ⟨(h2.cell (p := q) (by omega)).trans hq, fun _ h => by cases h⟩
    | tail _ h => exact (by cases h)⟩
/-- What stands in blocks, one behind the other. -/
def txtK (B : List ByteArray) (l : List Int) : ByteArray := ⟨(bytesOf B l).toArray⟩
theorem bl_inj {s t : ByteArray} (h : bl s = bl t) : s = t := ByteArray.ext (Array.toList_inj.1 h)
theorem txtK_snoc (B : List ByteArray) (l : List Int) (b : Int) : txtK B (l ++ [b]) = txtK B l ++ blkOf B b := by
  apply bl_inj
  rw [bl_app]
  show bytesOf B (l ++ [b]) = bytesOf B l ++ (blkOf B b).data.toList
  unfold bytesOf
  rw [List.flatMap_append, List.flatMap_cons, List.flatMap_nil, List.append_nil]
theorem txtK_cut (B : List ByteArray) (f : FFile) : (txtK B f.bl).extract 0 f.ln.toNat = fText B f := by
  apply bl_inj
  rw [bl_extract]
  show ((bytesOf B f.bl).drop 0).take (f.ln.toNat - 0) = (bytesOf B f.bl).take f.ln.toNat
  rw [List.drop_zero, Nat.sub_zero]
theorem txtK_size {B : List ByteArray} {l : List Int} (h : ∀ b ∈ l, (blkOf B b).size = 8) : (txtK B l).size = 8 * l.length := by
  show (bytesOf B l).toArray.size = _
  rw [List.size_toArray]
  unfold bytesOf
  induction l with
  | nil => rfl
  | cons b l ih =>
    have h1 := h b List.mem_cons_self
    have h2 : (blkOf B b).data.toList.length = 8 := by simpa using h1
    rw [List.flatMap_cons, List.length_append, ih fun c hc => h c (List.mem_cons_of_mem _ hc), h2, List.length_cons]; omega
theorem takI {l : List Int} {k : Nat} (h : k < l.length) : l.take (k + 1) = l.take k ++ [nth l k] := by
  rw [List.take_succ_eq_append_getElem h]
  congr 2
  simp [nth, h]
structure TxtR (B : List ByteArray) (x : FFile) : Prop where
  n : x.bl.length ≤ 24
  r : ∀ i, i < x.bl.length → 0 ≤ nth x.bl i ∧ nth x.bl i < B.length
  s : ∀ b ∈ x.bl, (blkOf B b).size = 8
  l : 0 ≤ x.ln ∧ x.ln ≤ 8 * (x.bl.length : Int)
theorem TxtR.of {x : DFStore} (g : GoodFs x) {f : FFile} (hf : f ∈ x.F) : TxtR x.B f := by
  have h0 := g.hf f hf
  unfold fileOk0 ceil8 at h0
  simp only [Bool.and_eq_true, inB_true, decide_eq_true_eq] at h0
  refine ⟨good_24 g hf, fun i hi => ?_, fun b hb => ?_, by omega⟩
  · have := g.hr f hf _ (nth_mem f.bl i hi)
    have := g.hB
    omega
  · have h1 := g.hr f hf b hb
    exact g.h8 _ (nth_mem x.B _ (g.len h1))
theorem TxtR.tk {B : List ByteArray} {x : FFile} (h : TxtR B x) (k : Nat) : (txtK B (x.bl.take k)).size = 8 * min k x.bl.length := by
  rw [txtK_size fun b hb => h.s b (List.mem_of_mem_take hb), List.length_take]
structure TxF (n g : Nat) where
  k : Nat
  p : Value
  A : Option Addr
  c : Nat
  hk : k ≤ n
  hp : p = .pointer none ∨ p = .pointer (some ⟨g, 0, none⟩)
theorem i_contents_c (v1 : Value) (A : Option Addr) (c : Nat) (B : List ByteArray) (x : LF) (w : World) (h1 : Rd w A (fl B)) (h2 : Rd w x.A (fl x.d.bl)) (ht : TxtR B x.d) :
    Calls Try.prog 20 #[.agg #[.slice A B.length c, v1], .agg (Dat.cells x).toArray] w fun e w' => e = .returned (.string (fText B x.d)) ∧ Below w.heap.size w w' := by
  obtain ⟨⟨no, ow, bs, ln, sl⟩, LA, lc⟩ := x
  simp only at h2 ht ⊢
  simp only [Dat.cells, In.cells, In.inn]
  have hn := ht.n
  have hln := ht.l
  simp only at hn hln
  have HT := Lib.hid ht; clear ht
  refine ok_enter 26 Try.func20 rfl rfl rfl ?_
  refine ok_seq ?_
  refine ok_region (i := 0) ?_
  refine ok_m rfl rfl rfl (by exact ms_box rfl rfl rfl) ?_
  rintro y2 hy2
  refine ok_m rfl rfl rfl (by exact ms_box rfl rfl rfl) ?_
  rintro y3 hy3
  refine ok_p rfl rfl rfl (by exact ps_assign rfl rfl) ?_
  refine ok_nil ?_
  refine ok_env [(2, _), (3, _)] ⟨rfl, rfl, trivial⟩ ?_
  refine ok_then ?_
  refine ok_frame (fun w1 hw1 => ?_)
  have b3 := rds_box 0 rfl _ _ _ hw1
  have b2 := rds_box 1 rfl _ _ _ hw1
  have h1 := hw1.keep h1 List.mem_cons_self
  have h2 := hw1.keep h2 List.mem_cons_self
  repeat' (first
    | refine ok_seq ?_
    | refine ok_then ?_
    | refine ok_block ?_
    | (refine ok_region (i := 1) ?_; refine ok_m rfl rfl rfl (by exact ms_alloc rfl) ?_; rintro y5 hy5; refine ok_nil ?_; refine ok_env [(2, _), (3, _), (5, _)] ⟨rfl, rfl, rfl, trivial⟩ ?_)
    | (refine ok_region (i := 2) ?_; refine ok_p rfl rfl rfl (by exact ps_field rfl rfl (by exact isw_ga _)) ?_; refine ok_p rfl rfl rfl (by exact ps_load rfl rfl (Rds.cell (rds_rf b3 (by exact List.mem_cons_self)) rfl)) ?_; refine ok_p rfl rfl rfl (by exact ps_len rfl rfl) ?_; refine ok_p rfl rfl rfl (by exact ps_move rfl rfl) ?_; refine ok_nil ?_; refine ok_env [(2, _), (3, _), (5, _), (9, _), (10, _), (11, _)] ⟨rfl, rfl, rfl, rfl, rfl, rfl, trivial⟩ ?_))
  have hz := fun k => HT.out.tk k
  simp only at hz
  have HZ := Lib.hid hz; clear hz
  have e0 : txtK B (bs.take 0) = ⟨#[]⟩ := rfl
  refine ok_loop (ι := TxF bs.length (y5 0).c) (fun q => bs.length - q.k) (fun q => ([(2, pt (ga (y2 0).c) 0), (3, pt (ga (y3 0).c) 0), (5, pt (ga (y5 0).c) 0), (9, .slice LA bs.length lc), (10, .int .i64 bs.length), (11, .int .i64 q.k)], [bldO (y5 0).c q.p q.A (txtK B (bs.take q.k)).size q.c, .row 5 1 q.A (txtK B (bs.take q.k)).size q.c (byteVs (bl (txtK B (bs.take q.k))))], _)) ⟨0, .pointer none, none, 0, Nat.zero_le _, .inl rfl⟩ (fun a w he hw => ⟨⟨0, .pointer none, none, 0, Nat.zero_le _, .inl rfl⟩, he.sub ⟨rfl, rfl, rfl, rfl, rfl, rfl, trivial⟩, by simp only; rw [e0]; exact hw.bld0⟩) ?_
  rintro ⟨k, p, A2, c2, hk, hp⟩
  simp only at hk hp ⊢
  have hzk := HZ.out k
  have hbz : k < bs.length → (blkOf B (nth bs k)).size = 8 := fun h => HT.out.s _ (nth_mem _ _ h)
  have hbr : k < bs.length → 0 ≤ nth bs k ∧ nth bs k < B.length := fun h => HT.out.r k h
  have HB := Lib.hid hbz; clear hbz
  have HR := Lib.hid hbr; clear hbr
  repeat' (first
    | refine ok_seq ?_
    | refine ok_then ?_
    | refine ok_block ?_
    | refine ok_in_normal ?_
    | (refine ok_cond rfl (fun hc => ?_) (fun hc => ?_) <;> (have hd := hc; (try simp only [decide_eq_true_eq, decide_eq_false_iff_not, Bool.or_eq_true, Bool.or_eq_false_iff, Bool.and_eq_true, Bool.and_eq_false_iff, Bool.not_eq_true', Bool.not_eq_false', bne_iff_ne, beq_iff_eq, bne_eq_false_iff_eq, beq_eq_false_iff_ne, ne_eq, Bool.not_true, Bool.not_false, Bool.false_eq_true, Bool.true_eq_false, inB_true, inB_false] at hd)))
    | refine ok_ret ?_
    | refine ok_exit ?_
    | refine ok_skip ?_
    | (refine ok_region (i := 3) ?_; refine ok_p rfl rfl rfl (by exact ps_int rfl rfl rfl rfl) ?_; refine ok_nil ?_; refine ok_env [(2, _), (3, _), (5, _), (9, _), (10, _), (11, _), (12, _)] ⟨rfl, rfl, rfl, rfl, rfl, rfl, rfl, trivial⟩ ?_)
    | (refine ok_region (i := 4) ?_; refine ok_p rfl rfl rfl (by exact ps_indexN rfl rfl rfl (by omega) (by exact isw_of (isS_fl (by assumption) (by omega)))) ?_; refine ok_p rfl rfl rfl (by exact ps_load rfl rfl (by exact Rds.cell (rds_rf (by assumption) (by exact List.mem_cons_self)) (by exact fl_at0 _ _ (by omega) (by decide)))) ?_; refine ok_p rfl rfl rfl (by exact ps_assign rfl rfl) ?_; refine ok_nil ?_; refine ok_env [(2, _), (3, _), (5, _), (7, _), (9, _), (10, _), (11, _)] ⟨rfl, rfl, rfl, rfl, rfl, rfl, rfl, trivial⟩ ?_)
    | (refine ok_region (i := 5) ?_; refine ok_p rfl rfl rfl (by exact ps_field rfl rfl (by exact isw_ga _)) ?_; refine ok_p rfl rfl rfl (by exact ps_load rfl rfl (Rds.cell (rds_rf b2 (by exact List.mem_cons_self)) rfl)) ?_; refine ok_p rfl rfl rfl (by exact ps_move rfl rfl) ?_; refine ok_p rfl rfl rfl (by exact ps_index rfl rfl rfl (by have := HR.out (by omega); omega) (isw_of (isS_fl h1 (by have := HR.out (by omega); omega)))) ?_; refine ok_p rfl rfl rfl (by exact ps_load rfl rfl (Rds.cell (rds_rf h1 (by exact List.mem_cons_self)) (fl_at0 B (nth bs k).toNat (by have := HR.out (by omega); omega) (by decide)))) ?_; refine ok_m rfl rfl rfl (by exact ms_w2 (fun _ _ _ h => h) rfl rfl rfl (fun _ _ w hw => bldW_c (y5 0).c _ _ _ _ (nth B (nth bs k).toNat) hp (by have := HB.out (by omega); unfold blkOf at this; omega) hw)) ?_; rintro y20 hy20; refine ok_nil ?_; refine ok_env [(2, _), (3, _), (5, _), (9, _), (10, _), (11, _)] ⟨rfl, rfl, rfl, rfl, rfl, rfl, trivial⟩ ?_)
    | (refine ok_region (i := 6) ?_; refine ok_p rfl rfl rfl (by exact ps_add rfl rfl rfl (by omega)) ?_; refine ok_p rfl rfl rfl (by exact ps_move rfl rfl) ?_; refine ok_nil ?_; refine ok_env [(2, _), (3, _), (5, _), (9, _), (10, _), (11, _)] ⟨rfl, rfl, rfl, rfl, rfl, rfl, trivial⟩ ?_)
    | (refine ok_draw (id := 7) 5 rfl (by kernel_rfl) (by kernel_rfl) rfl (by repeat (first | exact pq_body | refine pq_then ?_ | refine pq_in ?_)) [] (by decide) rfl ?_; refine okT_take (i := 1) rfl (by kernel_rfl) rfl rfl rfl (by exact ps_field rfl rfl (by exact isw_ga _)) ?_; refine okT_take (i := 2) rfl (by kernel_rfl) rfl rfl rfl (by exact ps_load rfl rfl (Rds.cell (rds_rf b3 (by exact List.mem_cons_self)) rfl)) ?_; refine okT_oneAt (i := 0) rfl rfl (by kernel_rfl) rfl rfl rfl (by exact at_w1 rfl rfl (fun w hw => bldA_c (y5 0).c p A2 c2 (txtK B (bs.take k)) hp (Nat.le_refl _) hw)) (fun y w _ h => by exact h.sel [] (by decide) rfl (fun _ h => h)) ?_; rintro y22 hy22; refine okT_take (i := 3) rfl (by kernel_rfl) rfl rfl rfl (by exact ps_sslE 0 ln.toNat rfl rfl rfl ⟨_, _, rfl, by omega⟩ (Nat.zero_le _) (by omega)) ?_; refine okT_take (i := 4) rfl (by kernel_rfl) rfl rfl rfl (by exact ps_assign rfl rfl) ?_; refine okT_done (by kernel_rfl) ?_; refine ok_nil ?_; refine ok_env [(4, _)] ⟨rfl, trivial⟩ ?_))
  · refine fun a w' he hw => ⟨⟨k + 1, .pointer (some ⟨(y5 0).c, 0, none⟩), (y20 0).A, (y20 0).c, by omega, .inr rfl⟩, by simp only; omega, he.sub ⟨rfl, rfl, rfl, rfl, rfl, rfl, trivial⟩, ?_⟩
    simp only
    rw [takI (by omega), txtK_snoc]
    exact hw
  · obtain rfl : k = bs.length := by omega
    rw [List.take_length]
    refine ok_endL (vs := [_]) rfl ⟨rfl, trivial⟩ (fun w' hw => ⟨?_, hw1.framed hw⟩)
    have := txtK_cut B (⟨no, ow, bs, ln, sl⟩ : FFile)
    simp only at this
    simp only [retV]
    rw [this]
theorem s_l30Text_c (A : Option Addr) (c : Nat) (B : List ByteArray) (A' : Option Addr) (c' : Nat) (R : List LF) (i : Nat) (hi : i < R.length) (w : World) (h1 : Rd w A (fl B)) (h2 : RdN w A' R) (ht : TxtR B (nth R i).d) :
    Calls Try.prog 24 #[.agg #[.slice A B.length c, .slice A' R.length c'], .int .i64 i] w fun e w' => e = .returned (.string (fText B (nth R i).d)) ∧ Below w.heap.size w w' := by
  obtain ⟨q1, q2⟩ := h2
  have q3 : Rd w (nth R i).A (fl (nth R i).d.bl) := q2 i hi
  clear q2
  have hin : (In.inn (nth R i).d).length = (nth R i).d.bl.length := rfl
  have hn := ht.n
  have hln := ht.l
  have HT := Lib.hid ht; clear ht
  refine ok_enter 41 Try.func24 rfl rfl rfl ?_
  repeat' (first
    | refine ok_seq ?_
    | refine ok_then ?_
    | refine ok_block ?_
    | (refine ok_region (i := 0) ?_; refine ok_m rfl rfl rfl (by exact ms_box rfl rfl rfl) ?_; rintro y2 hy2; refine ok_p rfl rfl rfl (by exact ps_assign rfl rfl) ?_; refine ok_nil ?_; refine ok_env [(1, _), (2, _)] ⟨rfl, rfl, trivial⟩ ?_)
    | (refine ok_region (i := 1) ?_; refine ok_p rfl rfl rfl (by exact ps_assign rfl rfl) ?_; refine ok_nil ?_; refine ok_env [(1, _), (2, _), (5, _)] ⟨rfl, rfl, rfl, trivial⟩ ?_)
    | (refine ok_region (i := 2) ?_; refine ok_p rfl rfl rfl (by exact ps_assign rfl rfl) ?_; refine ok_nil ?_; refine ok_env [(1, _), (2, _), (5, _), (6, _)] ⟨rfl, rfl, rfl, rfl, trivial⟩ ?_))
  refine ok_loop (ι := { k : Nat // k ≤ (nth R i).d.bl.length }) (fun k => (nth R i).d.bl.length - k.1) (fun k => ([(1, .int .i64 i), (2, pt (ga (y2 0).c) 0), (5, .string (txtK B ((nth R i).d.bl.take k.1))), (6, .int .i64 k.1)], _, _)) ⟨0, Nat.zero_le _⟩ (fun a w he hw => ⟨⟨0, Nat.zero_le _⟩, he.sub ⟨rfl, rfl, rfl, rfl, trivial⟩, hw⟩) ?_
  rintro ⟨k, hk⟩
  simp only at hk ⊢
  have hz := HT.out.tk k
  have hbz : k < (nth R i).d.bl.length → (blkOf B (nth (nth R i).d.bl k)).size = 8 := fun h => HT.out.s _ (nth_mem _ _ h)
  have hbr : k < (nth R i).d.bl.length → 0 ≤ nth (nth R i).d.bl k ∧ nth (nth R i).d.bl k < B.length := fun h => HT.out.r k h
  have HZ := Lib.hid hbz; clear hbz
  have HR := Lib.hid hbr; clear hbr
  repeat' (first
    | refine ok_seq ?_
    | refine ok_then ?_
    | refine ok_block ?_
    | refine ok_in_normal ?_
    | (refine ok_cond rfl (fun hc => ?_) (fun hc => ?_) <;> (have hd := hc; (try simp only [decide_eq_true_eq, decide_eq_false_iff_not, Bool.or_eq_true, Bool.or_eq_false_iff, Bool.and_eq_true, Bool.and_eq_false_iff, Bool.not_eq_true', Bool.not_eq_false', bne_iff_ne, beq_iff_eq, bne_eq_false_iff_eq, beq_eq_false_iff_ne, ne_eq, Bool.not_true, Bool.not_false, Bool.false_eq_true, Bool.true_eq_false, inB_true, inB_false] at hd)))
    | refine ok_ret ?_
    | refine ok_exit ?_
    | refine ok_skip ?_
    | (refine ok_region (i := 3) ?_; refine ok_p rfl rfl rfl (by exact ps_move rfl rfl) ?_; refine ok_p rfl rfl rfl (by exact ps_field rfl rfl (by exact isw_ga _)) ?_; refine ok_p rfl rfl rfl (by exact ps_load rfl rfl (by exact Rds.cell (rds_box 0 rfl) rfl)) ?_; refine ok_p rfl rfl rfl (by exact ps_move rfl rfl) ?_; refine ok_p rfl rfl rfl (by exact ps_indexN rfl rfl rfl (by omega) (by exact isw_of (isS_fl (by assumption) (by omega)))) ?_; refine ok_p rfl rfl rfl (by exact ps_field rfl rfl (by exact isw_of (isS_fl (by assumption) (by omega)))) ?_; refine ok_p rfl rfl rfl (by exact ps_load rfl rfl (by exact Rds.cell (rds_rf (by assumption) (by exact List.mem_cons_self)) (by exact fl_at _ _ _ (by omega) (by decide)))) ?_; refine ok_p rfl rfl rfl (by exact ps_len rfl rfl) ?_; refine ok_p rfl rfl rfl (by exact ps_int rfl rfl rfl rfl) ?_; refine ok_nil ?_; refine ok_env [(1, _), (2, _), (5, _), (6, _), (15, _)] ⟨rfl, rfl, rfl, rfl, rfl, trivial⟩ ?_)
    | (refine ok_region (i := 4) ?_; refine ok_p rfl rfl rfl (by exact ps_move rfl rfl) ?_; refine ok_p rfl rfl rfl (by exact ps_add rfl rfl rfl (by omega)) ?_; refine ok_p rfl rfl rfl (by exact ps_assign rfl rfl) ?_; refine ok_nil ?_; refine ok_env [(1, _), (2, _), (5, _), (6, _)] ⟨rfl, rfl, rfl, rfl, trivial⟩ ?_)
    | (refine ok_draw (id := 5) 16 rfl (by kernel_rfl) (by kernel_rfl) rfl (by repeat (first | exact pq_body | refine pq_then ?_ | refine pq_in ?_)) [0, 1, 2, 3, 4, 5, 6, 7, 8, 9, 10, 11, 12, 13, 14, 15, 16, 17, 18, 19, 20, 21, 22, 23] (by decide) rfl ?_; refine okT_take (i := 0) rfl (by kernel_rfl) rfl rfl rfl (by exact ps_move rfl rfl) ?_; refine okT_take (i := 1) rfl (by kernel_rfl) rfl rfl rfl (by exact ps_field rfl rfl (by exact isw_ga _)) ?_; refine okT_take (i := 2) rfl (by kernel_rfl) rfl rfl rfl (by exact ps_load rfl rfl (by exact Rds.cell (rds_box 0 rfl) rfl)) ?_; refine okT_take (i := 3) rfl (by kernel_rfl) rfl rfl rfl (by exact ps_field rfl rfl (by exact isw_ga _)) ?_; refine okT_take (i := 4) rfl (by kernel_rfl) rfl rfl rfl (by exact ps_load rfl rfl (by exact Rds.cell (rds_box 0 rfl) rfl)) ?_; refine okT_take (i := 5) rfl (by kernel_rfl) rfl rfl rfl (by exact ps_move rfl rfl) ?_; refine okT_take (i := 6) rfl (by kernel_rfl) rfl rfl rfl (by exact ps_indexN rfl rfl rfl (by omega) (by exact isw_of (isS_fl (by assumption) (by omega)))) ?_; refine okT_take (i := 7) rfl (by kernel_rfl) rfl rfl rfl (by exact ps_field rfl rfl (by exact isw_of (isS_fl (by assumption) (by omega)))) ?_; refine okT_take (i := 8) rfl (by kernel_rfl) rfl rfl rfl (by exact ps_load rfl rfl (by exact Rds.cell (rds_rf (by assumption) (by exact List.mem_cons_self)) (by exact fl_at _ _ _ (by omega) (by decide)))) ?_; refine okT_take (i := 9) rfl (by kernel_rfl) rfl rfl rfl (by exact ps_move rfl rfl) ?_; refine okT_take (i := 10) rfl (by kernel_rfl) rfl rfl rfl (by exact ps_indexN rfl rfl rfl (by omega) (by exact isw_of (isS_fl (by assumption) (by omega)))) ?_; refine okT_take (i := 11) rfl (by kernel_rfl) rfl rfl rfl (by exact ps_load rfl rfl (by exact Rds.cell (rds_rf (by assumption) (by exact List.mem_cons_self)) (by exact fl_at0 _ _ (by omega) (by decide)))) ?_; refine okT_take (i := 12) rfl (by kernel_rfl) rfl rfl rfl (by exact ps_index rfl rfl rfl (by have := HR.out (by omega); omega) (isw_of (isS_fl h1 (by have := HR.out (by omega); omega)))) ?_; refine okT_take (i := 13) rfl (by kernel_rfl) rfl rfl rfl (by exact ps_load rfl rfl (Rds.cell (rds_rf h1 (by exact List.mem_cons_self)) (fl_at0 B (nth (nth R i).d.bl k).toNat (by have := HR.out (by omega); omega) (by decide)))) ?_; refine okT_take (i := 14) rfl (by kernel_rfl) rfl rfl rfl (by exact ps_sadd rfl rfl rfl (by have := HZ.out (by omega); unfold blkOf at this; omega)) ?_; refine okT_take (i := 15) rfl (by kernel_rfl) rfl rfl rfl (by exact ps_assign rfl rfl) ?_; refine okT_done (by kernel_rfl) ?_; refine ok_nil ?_; refine ok_env [(1, _), (2, _), (5, _), (6, _)] ⟨rfl, rfl, rfl, rfl, trivial⟩ ?_)
    | (refine ok_region (i := 6) ?_; refine ok_p rfl rfl rfl (by exact ps_move rfl rfl) ?_; refine ok_p rfl rfl rfl (by exact ps_field rfl rfl (by exact isw_ga _)) ?_; refine ok_p rfl rfl rfl (by exact ps_load rfl rfl (by exact Rds.cell (rds_box 0 rfl) rfl)) ?_; refine ok_p rfl rfl rfl (by exact ps_move rfl rfl) ?_; refine ok_p rfl rfl rfl (by exact ps_indexN rfl rfl rfl (by omega) (by exact isw_of (isS_fl (by assumption) (by omega)))) ?_; refine ok_p rfl rfl rfl (by exact ps_field rfl rfl (by exact isw_of (isS_fl (by assumption) (by omega)))) ?_; refine ok_p rfl rfl rfl (by exact ps_load rfl rfl (by exact Rds.cell (rds_rf (by assumption) (by exact List.mem_cons_self)) (by exact fl_at _ _ _ (by omega) (by decide)))) ?_; refine ok_p rfl rfl rfl (by exact ps_sslE 0 (nth R i).d.ln.toNat rfl rfl rfl ⟨_, _, rfl, by omega⟩ (Nat.zero_le _) (by omega)) ?_; refine ok_p rfl rfl rfl (by exact ps_assign rfl rfl) ?_; refine ok_nil ?_; refine ok_env [(4, _)] ⟨rfl, trivial⟩ ?_))
  · refine fun a w' he hw => ⟨⟨k + 1, by omega⟩, by simp only; omega, he.sub ⟨rfl, rfl, ?_, rfl, trivial⟩, hw⟩
    simp only [look]
    rw [takI (by omega), txtK_snoc]; rfl
  · have hk2 : k = (nth R i).d.bl.length := by omega
    refine ok_endL (vs := [_]) rfl ⟨rfl, trivial⟩ (fun w' hw => ⟨?_, hw.below⟩)
    simp only [retV]
    rw [hk2, List.take_length, txtK_cut]
end Go.Proofs.Ytojgphgfhapacaa
/- FsOk in the uniform style. -/
namespace Go.Proofs.Ytojgphgfhapacaa
open Go.RowKit
set_option maxHeartbeats 4000000
set_option linter.unusedVariables false
theorem FS_n (x : DFStore) (hs : FStore_sm x) : x.B.length ≤ 4194304 ∧ x.F.length ≤ 4194304 ∧ ∀ f ∈ x.F, f.bl.length ≤ 4194304 := FStore_sm_lim hs
theorem i_FsOk (x : DFStore) (y : Ys) (w : World) (h : FStore_rd w x y) (hs : FStore_sm x) :
    Calls Try.prog 11 #[FStore_val x y] w fun e w' => e = .returned (.bool (fFsOk x)) ∧ Below w.heap.size w w' := by
  obtain ⟨n1, n2, n3⟩ := FS_n x hs
  have := i_FsOk0 (y 0).A (y 0).c x.B (y 1).A (y 1).c (FS_loc x y) w h.1 h.2 n1 (by rw [locs_len]; exact n2) (by rw [dats_locs]; exact n3)
  rw [locs_len, dats_locs] at this
  exact this
theorem s_FsOk (x : DFStore) (y : Ys) (w : World) (h : FStore_rd w x y) (hs : FStore_sm x) :
    Calls Try.prog 8 #[FStore_val x y] w fun e w' => e = .returned (.bool (fFsOk x)) ∧ Below w.heap.size w w' := by
  obtain ⟨n1, n2, n3⟩ := FS_n x hs
  have := s_FsOk0 (y 0).A (y 0).c x.B (y 1).A (y 1).c (FS_loc x y) w h.1 h.2 n1 (by rw [locs_len]; exact n2) (by rw [dats_locs]; exact n3)
  rw [locs_len, dats_locs] at this
  exact this
end Go.Proofs.Ytojgphgfhapacaa
/- FsUsed and FsRead of both programs. -/
namespace Go.Proofs.Ytojgphgfhapacaa
open Go.RowKit
set_option maxHeartbeats 4000000
set_option maxRecDepth 20000
set_option linter.unusedVariables false
set_option linter.unusedSimpArgs false
attribute [local irreducible] Calls
theorem i_FsUsed (x : DFStore) (y : Ys) (n : Int) (w : World) (h : FStore_rd w x y) (hs : FStore_sm x) (hn : -9223372036854775808 ≤ n ∧ n ≤ 9223372036854775807) :
    Calls Try.prog 9 #[FStore_val x y, .int .i64 n] w fun e w' => e = .returned (.int .i64 (fFsUsed x n)) ∧ Below w.heap.size w w' := by
  obtain ⟨n1, n2, n3⟩ := FS_n x hs
  have := i_FsUsed0 (y 0).A (y 0).c x.B (y 1).A (y 1).c (FS_loc x y) n w h.1 h.2 n1 (by rw [locs_len]; exact n2) (by rw [dats_locs]; exact n3)
  rw [locs_len, dats_locs] at this
  exact this
theorem read_none {x : DFStore} {no : Int} (h : atI x.F no < 0 ∨ fFsOk x = false) : fFsRead x no = (⟨#[]⟩, false) := by
  unfold fFsRead
  rcases atI_iff x.F no with ⟨h1, h2⟩ | ⟨i, h1, h2, h3⟩
  · rw [h2]; split <;> rfl
  · rcases h with h | h
    · omega
    · rw [if_neg (by rw [h]; exact Bool.false_ne_true)]
theorem read_some {x : DFStore} {no : Int} (h : ¬ atI x.F no < 0) (hok : fFsOk x = true) : ∃ i : Nat, atI x.F no = (i : Int) ∧ i < x.F.length ∧ fFsRead x no = (fText x.B (fileAt x.F i), true) := by
  unfold fFsRead
  rcases atI_iff x.F no with ⟨h1, h2⟩ | ⟨i, h1, h2, h3⟩
  · omega
  · exact ⟨i, h1, h3, by rw [if_pos hok, h2]⟩
theorem i_FsRead0 (A : Option Addr) (c : Nat) (B : List ByteArray) (A' : Option Addr) (c' : Nat) (R : List LF) (no : Int) (w : World) (h1 : Rd w A (fl B)) (h2 : RdN w A' R) (hl : B.length ≤ 4194304) (hl2 : R.length ≤ 4194304) (hl3 : ∀ x ∈ dats R, x.bl.length ≤ 4194304) :
    Calls Try.prog 10 #[.agg #[.slice A B.length c, .slice A' R.length c'], .int .i64 no] w fun e w' => e = .returned (.tuple #[.string (fFsRead ⟨B, dats R⟩ no).1, .bool (fFsRead ⟨B, dats R⟩ no).2]) ∧ Below w.heap.size w w' := by
  obtain ⟨q1, q2⟩ := h2
  have Q2 := Lib.hid q2; clear q2
  have HL := Lib.hid hl3; clear hl3
  have hns := fun h => read_none (x := ⟨B, dats R⟩) (no := no) h
  have hsm := fun h h2 => read_some (x := ⟨B, dats R⟩) (no := no) h h2
  have HN := Lib.hid hns; clear hns
  have HS := Lib.hid hsm; clear hsm
  simp only at HN HS
  refine ok_enter 24 Try.func10 rfl rfl rfl ?_
  repeat' (first
    | refine ok_seq ?_
    | refine ok_then ?_
    | refine ok_then_ret ?_
    | (refine ok_cond rfl (fun hc => ?_) (fun hc => ?_) <;> (have hd := hc; (try simp only [decide_eq_true_eq, decide_eq_false_iff_not, Bool.or_eq_true, Bool.or_eq_false_iff, Bool.and_eq_true, Bool.and_eq_false_iff, Bool.not_eq_true', Bool.not_eq_false', bne_iff_ne, beq_iff_eq, bne_eq_false_iff_eq, beq_eq_false_iff_ne, ne_eq, Bool.not_true, Bool.not_false, Bool.false_eq_true, Bool.true_eq_false, inB_true, inB_false] at hd)))
    | refine ok_ret ?_
    | refine ok_skip ?_
    | (refine ok_region (i := 0) ?_; refine ok_m rfl rfl rfl (by exact ms_box rfl rfl rfl) ?_; rintro y2 hy2; refine ok_p rfl rfl rfl (by exact ps_assign rfl rfl) ?_; refine ok_p rfl rfl rfl (by exact ps_assign rfl rfl) ?_; refine ok_nil ?_; refine ok_env [(1, _), (2, _)] ⟨rfl, rfl, trivial⟩ ?_)
    | (refine ok_region (i := 1) ?_; refine ok_p rfl rfl rfl (by exact ps_loads rfl rfl (by exact rds_box 0 rfl) rfl rfl (by decide)) ?_; refine ok_p rfl rfl rfl (by exact ps_move rfl rfl) ?_; refine ok_m rfl rfl rfl (by exact ms_s2 rfl rfl rfl (fun _ _ w hw => i_ffileAt_c _ A' c' R no w (rds_rf q1 (by exact List.mem_cons_self) _ _ w hw) hl2 rfl)) ?_; rintro y9 hy9; refine ok_p rfl rfl rfl (by exact ps_assign rfl rfl) ?_; refine ok_nil ?_; refine ok_env [(2, _), (6, _)] ⟨rfl, rfl, trivial⟩ ?_)
    | (refine ok_region (i := 2) ?_; refine ok_p rfl rfl rfl (by exact ps_move rfl rfl) ?_; refine ok_p rfl rfl rfl (by exact ps_int rfl rfl rfl rfl) ?_; refine ok_p rfl rfl rfl (by exact ps_move rfl rfl) ?_; refine ok_pg rfl rfl rfl rfl rfl (gF _) (fun hp => by (have hpd := hp; (try simp only [decide_eq_true_eq, decide_eq_false_iff_not, Bool.or_eq_true, Bool.or_eq_false_iff, Bool.and_eq_true, Bool.and_eq_false_iff, Bool.not_eq_true', Bool.not_eq_false', bne_iff_ne, beq_iff_eq, bne_eq_false_iff_eq, beq_eq_false_iff_ne, ne_eq, Bool.not_true, Bool.not_false, Bool.false_eq_true, Bool.true_eq_false, inB_true, inB_false] at hpd); exact ps_loads rfl (by exact rfl) (by exact rds_box 0 rfl) rfl rfl (by decide))) ?_; refine ok_mg rfl rfl rfl rfl rfl (gF _) (fun hp => by (have hpd := hp; (try simp only [decide_eq_true_eq, decide_eq_false_iff_not, Bool.or_eq_true, Bool.or_eq_false_iff, Bool.and_eq_true, Bool.and_eq_false_iff, Bool.not_eq_true', Bool.not_eq_false', bne_iff_ne, beq_iff_eq, bne_eq_false_iff_eq, beq_eq_false_iff_ne, ne_eq, Bool.not_true, Bool.not_false, Bool.false_eq_true, Bool.true_eq_false, inB_true, inB_false] at hpd); exact ms_s1 rfl (by (refine og rfl ?_; assumption)) (fun _ _ w hw => i_FsOk0 A c B A' c' R w (rds_rf h1 (by exact List.mem_cons_self) _ _ w hw) (RdN.keep hw ⟨q1, Q2.out⟩ (by exact List.mem_cons_self)) hl hl2 HL.out))) ?_; refine ok_pg rfl rfl rfl rfl rfl (gF _) (fun hp => by (have hpd := hp; (try simp only [decide_eq_true_eq, decide_eq_false_iff_not, Bool.or_eq_true, Bool.or_eq_false_iff, Bool.and_eq_true, Bool.and_eq_false_iff, Bool.not_eq_true', Bool.not_eq_false', bne_iff_ne, beq_iff_eq, bne_eq_false_iff_eq, beq_eq_false_iff_ne, ne_eq, Bool.not_true, Bool.not_false, Bool.false_eq_true, Bool.true_eq_false, inB_true, inB_false] at hpd); exact ps_not rfl (by (refine og rfl ?_; assumption)))) ?_; refine ok_p rfl rfl rfl (by exact ps_or rfl rfl rfl) ?_; refine ok_nil ?_; refine ok_env [(2, _), (6, _), (16, _)] ⟨rfl, rfl, rfl, trivial⟩ ?_)
    | (refine ok_region (i := 3) ?_; refine ok_p rfl rfl rfl (by exact ps_assign rfl rfl) ?_; refine ok_p rfl rfl rfl (by exact ps_assign rfl rfl) ?_; refine ok_nil ?_; refine ok_env [(4, _), (5, _)] ⟨rfl, rfl, trivial⟩ ?_))
  · rw [HN.out hd]
    exact ok_endL (vs := [_, _]) rfl ⟨rfl, rfl, trivial⟩ (fun w' hw => ⟨rfl, hw.below⟩)
  obtain ⟨i, e1, e2, e3⟩ := HS.out hd.1 hd.2
  have g := (fs_good _).1 hd.2
  rw [dats_len] at e2
  have hmem : (nth R i).d ∈ dats R := List.mem_map.2 ⟨_, nth_mem R i e2, rfl⟩
  have ht := TxtR.of g hmem
  have q3 : Rd w (nth R i).A (fl (nth R i).d.bl) := Q2.out i e2
  rw [e3, fileAt_nth R i e2]
  generalize hz : atI (dats R) no = z at e1 ⊢
  subst e1
  repeat' (first
    | refine ok_then ?_
    | refine ok_ret ?_
    | (refine ok_draw (id := 4) 9 rfl (by kernel_rfl) (by kernel_rfl) rfl (by repeat (first | exact pq_body | refine pq_then ?_ | refine pq_in ?_)) [0, 1, 2, 3, 4, 5, 6, 7, 8, 9, 10, 11, 12, 13, 14, 15, 16, 17, 18, 19, 20, 21, 22, 23] (by decide) rfl ?_; refine okT_take (i := 0) rfl (by kernel_rfl) rfl rfl rfl (by exact ps_loads rfl rfl (by exact rds_box 0 rfl) rfl rfl (by decide)) ?_; refine okT_take (i := 1) rfl (by kernel_rfl) rfl rfl rfl (by exact ps_field rfl rfl (by exact isw_ga _)) ?_; refine okT_take (i := 2) rfl (by kernel_rfl) rfl rfl rfl (by exact ps_load rfl rfl (by exact Rds.cell (rds_box 0 rfl) rfl)) ?_; refine okT_take (i := 3) rfl (by kernel_rfl) rfl rfl rfl (by exact ps_move rfl rfl) ?_; refine okT_take (i := 4) rfl (by kernel_rfl) rfl rfl rfl (by exact ps_indexN rfl rfl rfl (by omega) (by exact isw_of (isS_fl (by assumption) (by omega)))) ?_; refine okT_take (i := 5) rfl (by kernel_rfl) rfl rfl rfl (by exact ps_loadsF rfl rfl (by exact rds_rf (by assumption) (by exact List.mem_cons_self)) (by rfl) (by rfl) (by omega) rfl) ?_; refine okT_one (i := 6) rfl rfl (by kernel_rfl) rfl rfl rfl (by exact ms_s2 rfl rfl rfl (fun _ _ w hw => i_contents_c _ A c B (nth R i) w (rds_rf h1 (by exact List.mem_cons_self) _ _ w hw) (rds_rf q3 (by exact List.mem_cons_self) _ _ w hw) ht)) (fun y w _ h => by exact h) ?_; rintro y23 hy23; refine okT_take (i := 7) rfl (by kernel_rfl) rfl rfl rfl (by exact ps_assign rfl rfl) ?_; refine okT_take (i := 8) rfl (by kernel_rfl) rfl rfl rfl (by exact ps_assign rfl rfl) ?_; refine okT_done (by kernel_rfl) ?_; refine ok_nil ?_; refine ok_env [(4, _), (5, _)] ⟨rfl, rfl, trivial⟩ ?_))
  exact ok_endL (vs := [_, _]) rfl ⟨rfl, rfl, trivial⟩ (fun w' hw => ⟨rfl, hw.below⟩)
theorem i_FsRead (x : DFStore) (y : Ys) (n : Int) (w : World) (h : FStore_rd w x y) (hs : FStore_sm x) (hn : -9223372036854775808 ≤ n ∧ n ≤ 9223372036854775807) :
    Calls Try.prog 10 #[FStore_val x y, .int .i64 n] w fun e w' => e = .returned (.tuple #[.string (fFsRead x n).1, .bool (fFsRead x n).2]) ∧ Below w.heap.size w w' := by
  obtain ⟨n1, n2, n3⟩ := FS_n x hs
  have := i_FsRead0 (y 0).A (y 0).c x.B (y 1).A (y 1).c (FS_loc x y) n w h.1 h.2 n1 (by rw [locs_len]; exact n2) (by rw [dats_locs]; exact n3)
  rw [locs_len, dats_locs] at this
  exact this
end Go.Proofs.Ytojgphgfhapacaa
/- Copies of stores of files; FsCreate, FsSeal of both programs. -/
namespace Go.Proofs.Ytojgphgfhapacaa
open Go.RowKit
set_option maxHeartbeats 4000000
set_option maxRecDepth 20000
set_option linter.unusedVariables false
set_option linter.unusedSimpArgs false
attribute [local irreducible] Calls
/-- A store of one's own as a result. -/
def fsY (A : Option Addr) (c : Nat) (A' : Option Addr) (c' : Nat) (S : List LF) (w : World) : Ys := mkR [⟨A, c, w, 0⟩, ⟨A', c', w, 0⟩] S w
theorem fsY_val (A : Option Addr) (c : Nat) (A' : Option Addr) (c' : Nat) (B : List ByteArray) (S : List LF) (w : World) : FStore_val ⟨B, dats S⟩ (fsY A c A' c' S w) = .agg #[.slice A B.length c, .slice A' S.length c'] := by
  unfold FStore_val
  simp only [dats_len]
  rfl
theorem fsY_obj (A : Option Addr) (c : Nat) (A' : Option Addr) (c' : Nat) (B : List ByteArray) (S : List LF) (w : World) : FStore_obj ⟨B, dats S⟩ (fsY A c A' c' S w) = [.row 9 1 A B.length c (fl B), .row 36 5 A' S.length c' (fl S), .bag 3 1 (rowsOf S)] := by
  have e : FS_loc ⟨B, dats S⟩ (fsY A c A' c' S w) = S := locs_mkR [⟨A, c, w, 0⟩, ⟨A', c', w, 0⟩] S w 2 rfl
  unfold FStore_obj
  rw [e]
  simp only [dats_len]
  rfl
theorem fsN_no {n : World} {w0 w' : World} {H : List HObj} {G : List World} (hw : WOk n.heap.size w0 H G w') : NewOk n.heap.size (FStore_obj noFs (mkY none 0 w')) [] w' := by
  have h0 := hw.sel [] (by decide) (H' := []) rfl (fun _ h => h)
  exact NewOk.of (((h0.bag_nil 3 1).rowNil 36 5).rowNil 9 1)
structure CpI (R : List LF) where
  S : List LF
  A : Option Addr
  c : Nat
  hs : S.length ≤ R.length
  hd : dats S = (dats R).take S.length
theorem CpI.snoc {R S : List LF} (hs : S.length < R.length) (hd : dats S = (dats R).take S.length) (A : Option Addr) (c : Nat) : dats (S ++ [⟨(nth R S.length).d, A, c⟩]) = (dats R).take (S ++ [(⟨(nth R S.length).d, A, c⟩ : LF)]).length := by
  have h' : S.length < (dats R).length := by rw [dats_len]; exact hs
  rw [dats_snoc, hd, List.length_append, List.length_singleton, List.take_succ_eq_append_getElem h']
  congr 2
  simp [dats, nthL R S.length hs]
theorem i_copyFs_c (A : Option Addr) (c : Nat) (B : List ByteArray) (A' : Option Addr) (c' : Nat) (R : List LF) (w : World) (h1 : Rd w A (fl B)) (h2 : RdN w A' R) (hl : B.length ≤ 4194304) (hl2 : R.length ≤ 4194304) (hl3 : ∀ x ∈ dats R, x.bl.length ≤ 4194304) :
    Calls Try.prog 17 #[.agg #[.slice A B.length c, .slice A' R.length c']] w fun e w' => ∃ y : Ys, e = .returned (FStore_val ⟨B, dats R⟩ y) ∧ True ∧ Below w.heap.size w w' ∧ NewOk w.heap.size (FStore_obj ⟨B, dats R⟩ y) [] w' := by
  obtain ⟨q1, q2⟩ := h2
  have q2 : ∀ k, k < R.length → Rd w (nth R k).A (fl (nth R k).d.bl) := q2
  have Q2 := Lib.hid q2; clear q2
  have HL := Lib.hid (lens_in hl3); clear hl3
  refine ok_enter 29 Try.func17 rfl rfl rfl ?_
  repeat' (first
    | refine ok_seq ?_
    | refine ok_then ?_
    | refine ok_block ?_
    | (refine ok_region (i := 0) ?_; refine ok_m rfl rfl rfl (by exact ms_box rfl rfl rfl) ?_; rintro y1 hy1; refine ok_m rfl rfl rfl (by exact ms_alloc rfl) ?_; rintro y2 hy2; refine ok_nil ?_; refine ok_env [(1, _), (2, _)] ⟨rfl, rfl, trivial⟩ ?_)
    | (refine ok_region (i := 1) ?_; refine ok_p rfl rfl rfl (by exact ps_field rfl rfl (by exact isw_ga _)) ?_; refine ok_p rfl rfl rfl (by exact ps_load rfl rfl (by exact Rds.cell (rds_box 1 rfl) rfl)) ?_; refine ok_m rfl rfl rfl (by exact ms_c1 rfl rfl (fun _ _ w hw => cloneS_c A c B w (rds_rf h1 (by exact List.mem_cons_self) _ _ w hw) hl)) ?_; rintro y8 hy8; refine ok_p rfl rfl rfl (by exact ps_bld rfl (parts_cons rfl parts_nil) rfl) ?_; refine ok_m rfl rfl rfl (by exact ms_alloc rfl) ?_; rintro y3 hy3; refine ok_m_ rfl rfl (by exact ms_store 0 rfl rfl rfl rfl rfl rfl rfl rfl) ?_; rintro y_ hy_; refine ok_nil ?_; refine ok_env [(1, _), (2, _), (3, _)] ⟨rfl, rfl, rfl, trivial⟩ ?_)
    | (refine ok_region (i := 2) ?_; refine ok_p rfl rfl rfl (by exact ps_field rfl rfl (by exact isw_ga _)) ?_; refine ok_p rfl rfl rfl (by exact ps_load rfl rfl (by exact Rds.cell (rds_box 3 rfl) rfl)) ?_; refine ok_p rfl rfl rfl (by exact ps_len rfl rfl) ?_; refine ok_p rfl rfl rfl (by exact ps_move rfl rfl) ?_; refine ok_nil ?_; refine ok_env [(2, _), (3, _), (11, _), (12, _), (13, _)] ⟨rfl, rfl, rfl, rfl, rfl, trivial⟩ ?_))
  refine ok_loop (ι := CpI R) (fun q => R.length - q.S.length) (fun q => ([(2, pt (ga (y2 0).c) 0), (3, pt (ga (y3 0).c) 0), (11, .slice A' R.length c'), (12, .int .i64 R.length), (13, .int .i64 q.S.length)], [.bag 3 1 (rowsOf q.S), .row 36 5 q.A q.S.length q.c (fl q.S), .box (y3 0).c 27 [.slice (y8 0).A B.length (y8 0).c, .slice q.A q.S.length q.c], .row 9 1 (y8 0).A B.length (y8 0).c (fl B), _, _], _)) ⟨[], none, 0, by simp, by simp [dats]⟩ (fun a w he hw => ⟨⟨[], none, 0, by simp, by simp [dats]⟩, he.sub ⟨rfl, rfl, rfl, rfl, rfl, trivial⟩, by
    have := (hw.rowNil 36 5).bag_nil 3 1
    exact this⟩) ?_
  rintro ⟨S, A2, c2, hs, hd0⟩
  simp only at hs hd0 ⊢
  have HD := Lib.hid hd0; clear hd0
  have hsn := fun h => CpI.snoc (S := S) (R := R) h HD.out
  have HN := Lib.hid hsn; clear hsn
  repeat' (first
    | refine ok_seq ?_
    | refine ok_then ?_
    | refine ok_block ?_
    | refine ok_in_normal ?_
    | (refine ok_cond rfl (fun hc => ?_) (fun hc => ?_) <;> (have hd := hc; (try simp only [decide_eq_true_eq, decide_eq_false_iff_not, Bool.or_eq_true, Bool.or_eq_false_iff, Bool.and_eq_true, Bool.and_eq_false_iff, Bool.not_eq_true', Bool.not_eq_false', bne_iff_ne, beq_iff_eq, bne_eq_false_iff_eq, beq_eq_false_iff_ne, ne_eq, Bool.not_true, Bool.not_false, Bool.false_eq_true, Bool.true_eq_false, inB_true, inB_false] at hd)))
    | refine ok_ret ?_
    | refine ok_exit ?_
    | refine ok_skip ?_
    | (refine ok_region (i := 3) ?_; refine ok_p rfl rfl rfl (by exact ps_int rfl rfl rfl rfl) ?_; refine ok_nil ?_; refine ok_env [(2, _), (3, _), (11, _), (12, _), (13, _), (14, _)] ⟨rfl, rfl, rfl, rfl, rfl, rfl, trivial⟩ ?_)
    | (refine ok_region (i := 4) ?_; refine ok_p rfl rfl rfl (by exact ps_indexN rfl rfl rfl (by omega) (by exact isw_of (isS_fl (by assumption) (by omega)))) ?_; refine ok_p rfl rfl rfl (by exact ps_loadsF rfl rfl (by exact rds_rf (by assumption) (by exact List.mem_cons_self)) (by rfl) (by rfl) (by omega) rfl) ?_; refine ok_m rfl rfl rfl (by exact ms_alloc rfl) ?_; rintro y5 hy5; refine ok_m_ rfl rfl (by exact ms_store 0 rfl rfl rfl rfl rfl rfl rfl rfl) ?_; rintro y_ hy_; refine ok_nil ?_; refine ok_env [(2, _), (3, _), (5, _), (11, _), (12, _), (13, _)] ⟨rfl, rfl, rfl, rfl, rfl, rfl, trivial⟩ ?_)
    | (refine ok_region (i := 5) ?_; refine ok_p rfl rfl rfl (by exact ps_field rfl rfl (by exact isw_ga _)) ?_; refine ok_p rfl rfl rfl (by exact ps_load rfl rfl (by exact Rds.cell (rds_box 0 rfl) rfl)) ?_; refine ok_m rfl rfl rfl (by exact ms_c1 rfl rfl (fun _ _ w hw => clone_c (nth R S.length).A (nth R S.length).c (nth R S.length).d.bl w (rds_rf (Q2.out _ (by omega)) (by exact List.mem_cons_self) _ _ w hw) (HL.out _ (by omega)))) ?_; rintro y19 hy19; refine ok_p rfl rfl rfl (by exact ps_field rfl rfl (by exact isw_ga _)) ?_; refine ok_m_ rfl rfl (by exact ms_store 1 rfl rfl rfl rfl rfl rfl rfl rfl) ?_; rintro y_ hy_; refine ok_nil ?_; refine ok_env [(2, _), (3, _), (5, _), (11, _), (12, _), (13, _)] ⟨rfl, rfl, rfl, rfl, rfl, rfl, trivial⟩ ?_)
    | (refine ok_region (i := 6) ?_; refine ok_p rfl rfl rfl (by exact ps_field rfl rfl (by exact isw_ga _)) ?_; refine ok_p rfl rfl rfl (by exact ps_load rfl rfl (by exact Rds.cell (rds_box 4 rfl) rfl)) ?_; refine ok_p rfl rfl rfl (by exact ps_loads rfl rfl (by exact rds_box 1 rfl) rfl rfl (by decide)) ?_; refine ok_m rfl rfl rfl (by exact ms_lit rfl (parts_cons rfl parts_nil) rfl rfl rfl) ?_; rintro y24 hy24; refine ok_m rfl rfl rfl (by exact ms_appF (α := LF) (L := S) (M := [⟨(nth R S.length).d, (y19 0).A, (y19 0).c⟩]) 4 rfl rfl rfl rfl (rds_row 0 rfl) rfl (by simp; omega) (by simp; omega)) ?_; rintro y25 hy25; refine ok_p rfl rfl rfl (by exact ps_field rfl rfl (by exact isw_ga _)) ?_; refine ok_m_ rfl rfl (by exact ms_store 5 rfl rfl rfl rfl rfl rfl rfl rfl) ?_; rintro y_ hy_; refine ok_nil ?_; refine ok_env [(2, _), (3, _), (11, _), (12, _), (13, _)] ⟨rfl, rfl, rfl, rfl, rfl, trivial⟩ ?_)
    | (refine ok_region (i := 7) ?_; refine ok_p rfl rfl rfl (by exact ps_add rfl rfl rfl (by omega)) ?_; refine ok_p rfl rfl rfl (by exact ps_move rfl rfl) ?_; refine ok_nil ?_; refine ok_env [(2, _), (3, _), (11, _), (12, _), (13, _)] ⟨rfl, rfl, rfl, rfl, rfl, trivial⟩ ?_)
    | (refine ok_region (i := 8) ?_; refine ok_p rfl rfl rfl (by exact ps_loads rfl rfl (by exact rds_box 2 rfl) rfl rfl (by decide)) ?_; refine ok_m_ rfl rfl (by exact ms_store 4 rfl rfl rfl rfl rfl rfl rfl rfl) ?_; rintro y_ hy_; refine ok_nil ?_; refine ok_env [(2, _)] ⟨rfl, trivial⟩ ?_))
  · refine fun a w' he hw => ⟨⟨S ++ [⟨(nth R S.length).d, (y19 0).A, (y19 0).c⟩], (y25 0).A, (y25 0).c, by simp; omega, HN.out (by omega) _ _⟩, by simp; omega, he.sub ⟨rfl, rfl, rfl, rfl, by simp [look], trivial⟩, ?_⟩
    have h1 := WOk.bagAdd (⟨(nth R S.length).d, (y19 0).A, (y19 0).c⟩ : LF) rfl rfl (hw.sel [1, 3, 4, 5, 6, 7, 8] (by decide) rfl (fun _ h => h))
    simp only [List.length_append, List.length_singleton]
    exact h1
  · have hSR : S.length = R.length := by omega
    have hdd : dats S = dats R := by rw [HD.out, hSR, ← dats_len, List.take_length]
    refine ok_endL (vs := [_]) rfl ⟨⟨_, 4, _, _, _, rfl, rfl, inferInstance, rfl, rfl⟩, trivial⟩ (fun w' hw => ⟨fsY (y8 0).A (y8 0).c A2 c2 S w', ?_, trivial, hw.below, ?_⟩)
    · rw [← hdd, fsY_val]; rfl
    · rw [← hdd, fsY_obj]
      exact NewOk.of (hw.sel [3, 1, 0] (by decide) rfl (G' := []) (fun _ h => by cases h))
theorem s_l30Copy_c (A : Option Addr) (c : Nat) (B : List ByteArray) (A' : Option Addr) (c' : Nat) (R : List LF) (w : World) (h1 : Rd w A (fl B)) (h2 : RdN w A' R) (hl : B.length ≤ 4194304) (hl2 : R.length ≤ 4194304) (hl3 : ∀ x ∈ dats R, x.bl.length ≤ 4194304) :
    Calls Try.prog 22 #[.agg #[.slice A B.length c, .slice A' R.length c']] w fun e w' => ∃ y : Ys, e = .returned (FStore_val ⟨B, dats R⟩ y) ∧ True ∧ Below w.heap.size w w' ∧ NewOk w.heap.size (FStore_obj ⟨B, dats R⟩ y) [] w' := by
  obtain ⟨q1, q2⟩ := h2
  have q2 : ∀ k, k < R.length → Rd w (nth R k).A (fl (nth R k).d.bl) := q2
  have Q2 := Lib.hid q2; clear q2
  have HL := Lib.hid (lens_in hl3); clear hl3
  refine ok_enter 35 Try.func22 rfl rfl rfl ?_
  repeat' (first
    | refine ok_seq ?_
    | refine ok_then ?_
    | refine ok_block ?_
    | (refine ok_region (i := 0) ?_; refine ok_m rfl rfl rfl (by exact ms_box rfl rfl rfl) ?_; rintro y1 hy1; refine ok_m rfl rfl rfl (by exact ms_alloc rfl) ?_; rintro y2 hy2; refine ok_nil ?_; refine ok_env [(1, _), (2, _)] ⟨rfl, rfl, trivial⟩ ?_)
    | (refine ok_region (i := 1) ?_; refine ok_m rfl rfl rfl (by exact ms_lit rfl parts_nil rfl rfl rfl) ?_; rintro y6 hy6; refine ok_p rfl rfl rfl (by exact ps_field rfl rfl (by exact isw_ga _)) ?_; refine ok_p rfl rfl rfl (by exact ps_load rfl rfl (by exact Rds.cell (rds_box 2 rfl) rfl)) ?_; refine ok_m rfl rfl rfl (by exact ms_app0 (M := B) 0 rfl rfl rfl rfl (rds_rf h1 (by exact List.mem_cons_self)) rfl (by omega) (by omega)) ?_; rintro y9 hy9; refine ok_p rfl rfl rfl (by exact ps_bld rfl (parts_cons rfl parts_nil) rfl) ?_; refine ok_m rfl rfl rfl (by exact ms_alloc rfl) ?_; rintro y3 hy3; refine ok_m_ rfl rfl (by exact ms_store 0 rfl rfl rfl rfl rfl rfl rfl rfl) ?_; rintro y_ hy_; refine ok_nil ?_; refine ok_env [(1, _), (2, _), (3, _)] ⟨rfl, rfl, rfl, trivial⟩ ?_)
    | (refine ok_region (i := 2) ?_; refine ok_p rfl rfl rfl (by exact ps_assign rfl rfl) ?_; refine ok_nil ?_; refine ok_env [(1, _), (2, _), (3, _), (4, _)] ⟨rfl, rfl, rfl, rfl, trivial⟩ ?_))
  refine ok_loop (ι := CpI R) (fun q => R.length - q.S.length) (fun q => ([(1, pt (ga (y1 0).c) 0), (2, pt (ga (y2 0).c) 0), (3, pt (ga (y3 0).c) 0), (4, .int .i64 q.S.length)], [.bag 3 1 (rowsOf q.S), .row 36 5 q.A q.S.length q.c (fl q.S), .box (y3 0).c 27 [.slice (y9 0).A B.length (y9 0).c, .slice q.A q.S.length q.c], .row 9 1 (y9 0).A B.length (y9 0).c (fl B), _, _], _)) ⟨[], none, 0, by simp, by simp [dats]⟩ (fun a w he hw => ⟨⟨[], none, 0, by simp, by simp [dats]⟩, he.sub ⟨rfl, rfl, rfl, rfl, trivial⟩, by
    have := (hw.rowNil 36 5).bag_nil 3 1
    exact this⟩) ?_
  rintro ⟨S, A2, c2, hs, hd0⟩
  simp only at hs hd0 ⊢
  have HD := Lib.hid hd0; clear hd0
  have hsn := fun h => CpI.snoc (S := S) (R := R) h HD.out
  have HN := Lib.hid hsn; clear hsn
  repeat' (first
    | refine ok_seq ?_
    | refine ok_then ?_
    | refine ok_block ?_
    | refine ok_in_normal ?_
    | (refine ok_cond rfl (fun hc => ?_) (fun hc => ?_) <;> (have hd := hc; (try simp only [decide_eq_true_eq, decide_eq_false_iff_not, Bool.or_eq_true, Bool.or_eq_false_iff, Bool.and_eq_true, Bool.and_eq_false_iff, Bool.not_eq_true', Bool.not_eq_false', bne_iff_ne, beq_iff_eq, bne_eq_false_iff_eq, beq_eq_false_iff_ne, ne_eq, Bool.not_true, Bool.not_false, Bool.false_eq_true, Bool.true_eq_false, inB_true, inB_false] at hd)))
    | refine ok_ret ?_
    | refine ok_exit ?_
    | refine ok_skip ?_
    | (refine ok_region (i := 3) ?_; refine ok_p rfl rfl rfl (by exact ps_move rfl rfl) ?_; refine ok_p rfl rfl rfl (by exact ps_field rfl rfl (by exact isw_ga _)) ?_; refine ok_p rfl rfl rfl (by exact ps_load rfl rfl (by exact Rds.cell (rds_box 5 rfl) rfl)) ?_; refine ok_p rfl rfl rfl (by exact ps_len rfl rfl) ?_; refine ok_p rfl rfl rfl (by exact ps_int rfl rfl rfl rfl) ?_; refine ok_nil ?_; refine ok_env [(1, _), (2, _), (3, _), (4, _), (15, _)] ⟨rfl, rfl, rfl, rfl, rfl, trivial⟩ ?_)
    | (refine ok_region (i := 4) ?_; refine ok_p rfl rfl rfl (by exact ps_move rfl rfl) ?_; refine ok_p rfl rfl rfl (by exact ps_add rfl rfl rfl (by omega)) ?_; refine ok_p rfl rfl rfl (by exact ps_assign rfl rfl) ?_; refine ok_nil ?_; refine ok_env [(1, _), (2, _), (3, _), (4, _)] ⟨rfl, rfl, rfl, rfl, trivial⟩ ?_)
    | (refine ok_region (i := 5) ?_; refine ok_p rfl rfl rfl (by exact ps_field rfl rfl (by exact isw_ga _)) ?_; refine ok_p rfl rfl rfl (by exact ps_load rfl rfl (by exact Rds.cell (rds_box 5 rfl) rfl)) ?_; refine ok_p rfl rfl rfl (by exact ps_move rfl rfl) ?_; refine ok_p rfl rfl rfl (by exact ps_indexN rfl rfl rfl (by omega) (by exact isw_of (isS_fl (by assumption) (by omega)))) ?_; refine ok_p rfl rfl rfl (by exact ps_loadsF rfl rfl (by exact rds_rf (by assumption) (by exact List.mem_cons_self)) (by rfl) (by rfl) (by omega) rfl) ?_; refine ok_m rfl rfl rfl (by exact ms_alloc rfl) ?_; rintro y5 hy5; refine ok_m_ rfl rfl (by exact ms_store 0 rfl rfl rfl rfl rfl rfl rfl rfl) ?_; rintro y_ hy_; refine ok_nil ?_; refine ok_env [(1, _), (2, _), (3, _), (4, _), (5, _)] ⟨rfl, rfl, rfl, rfl, rfl, trivial⟩ ?_)
    | (refine ok_region (i := 6) ?_; refine ok_m rfl rfl rfl (by exact ms_lit rfl parts_nil rfl rfl rfl) ?_; rintro y23 hy23; refine ok_p rfl rfl rfl (by exact ps_field rfl rfl (by exact isw_ga _)) ?_; refine ok_p rfl rfl rfl (by exact ps_load rfl rfl (by exact Rds.cell (rds_box 1 rfl) rfl)) ?_; refine ok_m rfl rfl rfl (by exact ms_app0 (M := (nth R S.length).d.bl) 0 rfl rfl rfl rfl (rds_rf (Q2.out _ (by omega)) (by exact List.mem_cons_self)) rfl (by have : (nth R S.length).d.bl.length ≤ 4194304 := HL.out _ (by omega); omega) (by have : (nth R S.length).d.bl.length ≤ 4194304 := HL.out _ (by omega); omega)) ?_; rintro y26 hy26; refine ok_p rfl rfl rfl (by exact ps_field rfl rfl (by exact isw_ga _)) ?_; refine ok_m_ rfl rfl (by exact ms_store 1 rfl rfl rfl rfl rfl rfl rfl rfl) ?_; rintro y_ hy_; refine ok_nil ?_; refine ok_env [(1, _), (2, _), (3, _), (4, _), (5, _)] ⟨rfl, rfl, rfl, rfl, rfl, trivial⟩ ?_)
    | (refine ok_region (i := 7) ?_; refine ok_p rfl rfl rfl (by exact ps_field rfl rfl (by exact isw_ga _)) ?_; refine ok_p rfl rfl rfl (by exact ps_load rfl rfl (by exact Rds.cell (rds_box 4 rfl) rfl)) ?_; refine ok_p rfl rfl rfl (by exact ps_loads rfl rfl (by exact rds_box 1 rfl) rfl rfl (by decide)) ?_; refine ok_m rfl rfl rfl (by exact ms_lit rfl (parts_cons rfl parts_nil) rfl rfl rfl) ?_; rintro y31 hy31; refine ok_m rfl rfl rfl (by exact ms_appF (α := LF) (L := S) (M := [⟨(nth R S.length).d, (y26 0).A, (y26 0).c⟩]) 4 rfl rfl rfl rfl (rds_row 0 rfl) rfl (by simp; omega) (by simp; omega)) ?_; rintro y32 hy32; refine ok_p rfl rfl rfl (by exact ps_field rfl rfl (by exact isw_ga _)) ?_; refine ok_m_ rfl rfl (by exact ms_store 5 rfl rfl rfl rfl rfl rfl rfl rfl) ?_; rintro y_ hy_; refine ok_nil ?_; refine ok_env [(1, _), (2, _), (3, _), (4, _)] ⟨rfl, rfl, rfl, rfl, trivial⟩ ?_)
    | (refine ok_region (i := 8) ?_; refine ok_p rfl rfl rfl (by exact ps_loads rfl rfl (by exact rds_box 2 rfl) rfl rfl (by decide)) ?_; refine ok_m_ rfl rfl (by exact ms_store 4 rfl rfl rfl rfl rfl rfl rfl rfl) ?_; rintro y_ hy_; refine ok_nil ?_; refine ok_env [(2, _)] ⟨rfl, trivial⟩ ?_))
  · refine fun a w' he hw => ⟨⟨S ++ [⟨(nth R S.length).d, (y26 0).A, (y26 0).c⟩], (y32 0).A, (y32 0).c, by simp; omega, HN.out (by omega) _ _⟩, by simp; omega, he.sub ⟨rfl, rfl, rfl, by simp [look], trivial⟩, ?_⟩
    have h1 := WOk.bagAdd (⟨(nth R S.length).d, (y26 0).A, (y26 0).c⟩ : LF) rfl rfl (hw.sel [1, 3, 4, 5, 6, 7, 8] (by decide) rfl (fun _ h => h))
    simp only [List.length_append, List.length_singleton]
    exact h1
  · have hSR : S.length = R.length := by omega
    have hdd : dats S = dats R := by rw [HD.out, hSR, ← dats_len, List.take_length]
    refine ok_endL (vs := [_]) rfl ⟨⟨_, 4, _, _, _, rfl, rfl, inferInstance, rfl, rfl⟩, trivial⟩ (fun w' hw => ⟨fsY (y9 0).A (y9 0).c A2 c2 S w', ?_, trivial, hw.below, ?_⟩)
    · rw [← hdd, fsY_val]; rfl
    · rw [← hdd, fsY_obj]
      exact NewOk.of (hw.sel [3, 1, 0] (by decide) rfl (G' := []) (fun _ h => by cases h))
/-- The file that is made. -/
theorem nextNo_le {x : DFStore} (g : GoodFs x) : nextNo x.F ≤ 1000001 := by
  unfold nextNo
  split
  · omega
  · have hl : x.F.length - 1 < x.F.length := by omega
    have hm := g.hf _ (fileAt_mem hl)
    unfold fileOk0 at hm
    simp only [Bool.and_eq_true, inB_true] at hm
    omega
theorem create_no {x : DFStore} (h : fFsOk x = false) (ow : Int) : fFsCreate x ow = (noFs, 0, false) := by unfold fFsCreate; rw [if_neg (by rw [h]; exact Bool.false_ne_true)]
theorem create_stop {x : DFStore} (h : fFsOk x = true) {ow : Int} (hc : ¬ (inB ow 1 99 = true ∧ x.F.length < 6 ∧ nextNo x.F ≤ 1000000)) : fFsCreate x ow = (x, 0, false) := by unfold fFsCreate; rw [if_pos h, if_neg hc]
theorem create_yes {x : DFStore} (h : fFsOk x = true) {ow : Int} (hc : inB ow 1 99 = true ∧ x.F.length < 6 ∧ nextNo x.F ≤ 1000000) : fFsCreate x ow = (⟨x.B, x.F ++ [⟨nextNo x.F, ow, [], 0, false⟩]⟩, nextNo x.F, true) := by unfold fFsCreate; rw [if_pos h, if_pos hc]
theorem nextNo_R {R : List LF} (h : 0 < R.length) : nextNo (dats R) = (nth R (R.length - 1)).d.no + 1 := by
  unfold nextNo
  rw [dats_len, if_neg (by omega), fileAt_nth R _ (by omega)]
theorem nextNo_0 {R : List LF} (h : R.length = 0) : nextNo (dats R) = 1 := by unfold nextNo; rw [dats_len, if_pos h]
end Go.Proofs.Ytojgphgfhapacaa
