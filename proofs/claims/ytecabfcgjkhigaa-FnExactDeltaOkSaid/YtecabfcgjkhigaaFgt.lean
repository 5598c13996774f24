/- Data by their type as rows of records. -/
import Derived.Test.YtecabfcgjkhigaaGT
import Derived.Test.YtecabfcgjkhigaaDlt2
namespace Go.Proofs.Ytecabfcgjkhigaa
open Go.RowKit
set_option linter.unusedVariables false
set_option linter.unusedSimpArgs false
/-- A record by its type. -/
def FlatAt (e : GT) {α : Type} [Dat α] (f : e.den → α) (big : α → Prop) : Prop := ∀ (w : World) x c, RdT w e x c → c = Dat.cells (f x) ∧ big (f x)
theorem flat_rows {e : GT} {α : Type} [Dat α] {f : e.den → α} {big : α → Prop} (hf : FlatAt e f big) {w : World} : ∀ (xs : List e.den) (us : List Value), RdTs w e xs us → us = fl (xs.map f) ∧ ∀ x ∈ xs.map f, big x
  | [], us, h => by
    rw [RdTs.nil] at h; subst h; exact ⟨rfl, fun x h => by cases h⟩
  | x :: xs, us, h => by
    obtain ⟨c1, c2, rfl, h1, h2⟩ := RdTs.cons.1 h
    obtain ⟨rfl, hb⟩ := hf w x c1 h1
    obtain ⟨rfl, hbs⟩ := flat_rows hf xs c2 h2
    exact ⟨rfl, fun y hy => by
      rw [List.map_cons] at hy
      cases hy with
      | head => exact hb
      | tail _ hy => exact hbs y hy⟩
theorem flat_sl {E : TypeId} {e : GT} {α : Type} [Dat α] {f : e.den → α} {big : α → Prop} (hf : FlatAt e f big) {w : World} {xs : GT.den (.sl E e)} {cs : List Value} (h : RdT w (.sl E e) xs cs) : ∃ (A : Option Addr) (c : Nat) (l : List α), cs = [.slice A l.length c] ∧ l.length ≤ maxLen ∧ Rd w A (fl l) ∧ (∀ x ∈ l, big x) := by
  obtain ⟨A, c, us, rfl, h1, h2, h3, h4⟩ := RdT.sl.1 h
  obtain ⟨rfl, hb⟩ := flat_rows hf _ _ h4
  have hl : (List.map f (show List e.den from xs)).length = List.length xs := List.length_map ..
  exact ⟨A, c, List.map f (show List e.den from xs), congrArg (fun n => [Value.slice A n c]) hl.symm, Nat.le_trans (Nat.le_of_eq hl) (Nat.le_trans h1 h2), h3, hb⟩
theorem flatStr : FlatAt .str (α := ByteArray) (fun x => x) bigStr := fun w x c h => RdT.str.1 h
theorem flatInt : FlatAt .int (α := Int) (fun x => x) inI64 := fun w x c h => RdT.int.1 h
abbrev gKV : GT := .st [.str, .str]
theorem flatKV : FlatAt gKV (α := KV) (fun x => ⟨x.1, x.2.1⟩) bigKV := fun w x c h => by
  obtain ⟨a, b, u⟩ := x
  obtain ⟨c1, c2, rfl, h1, h2⟩ := RdTL.cons.1 (RdT.st.1 h)
  obtain ⟨c3, c4, rfl, h3, h4⟩ := RdTL.cons.1 h2
  obtain ⟨rfl, b1⟩ := RdT.str.1 h1
  obtain ⟨rfl, b2⟩ := RdT.str.1 h3
  rw [RdTL.nil] at h4; subst h4
  exact ⟨rfl, b1, b2⟩
abbrev gDelta : GT := .st [.sl 172 gKV, .sl 9 .str]
theorem gDelta_open {w : World} {cs : List Value} {x : gDelta.den} (hx : RdT w gDelta x cs) : ∃ (A0 : Option Addr) (c0 : Nat) (A1 : Option Addr) (c1 : Nat) (U : List KV) (D : List ByteArray), cs = [.slice A0 U.length c0, .slice A1 D.length c1] ∧ Rd w A0 (fl U) ∧ Rd w A1 (fl D) ∧ U.length ≤ maxLen ∧ D.length ≤ maxLen ∧ (∀ x ∈ U, bigKV x) ∧ (∀ x ∈ D, bigStr x) := by
  obtain ⟨a, b, u⟩ := x
  obtain ⟨d1, d2, rfl, h1, h2⟩ := RdTL.cons.1 (RdT.st.1 hx)
  obtain ⟨d3, d4, rfl, h3, h4⟩ := RdTL.cons.1 h2
  rw [RdTL.nil] at h4; subst h4
  obtain ⟨A0, c0, U, rfl, m0, r0, b0⟩ := flat_sl flatKV h1
  obtain ⟨A1, c1, D, rfl, m1, r1, b1⟩ := flat_sl flatStr h3
  exact ⟨A0, c0, A1, c1, U, D, rfl, r0, r1, m0, m1, b0, b1⟩
end Go.Proofs.Ytecabfcgjkhigaa
