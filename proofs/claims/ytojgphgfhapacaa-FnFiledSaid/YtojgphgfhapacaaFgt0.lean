/- Data by their type as rows of records: what serves every record. -/
import Derived.Test.YtojgphgfhapacaaGT
import Derived.Test.YtojgphgfhapacaaEng9
namespace Go.Proofs.Ytojgphgfhapacaa
open Go.RowKit
set_option linter.unusedVariables false
set_option linter.unusedSimpArgs false
/-- A record by its type. -/
def FlatAt (e : GT) {α : Type} [Dat α] (f : e.den → α) (big : α → Prop) : Prop := ∀ (w : World) x c, RdT w e x c → c = Dat.cells (f x) ∧ big (f x)
theorem flat_rows {e : GT} {α : Type} [Dat α] {f : e.den → α} {big : α → Prop} (hf : FlatAt e f big) {w : World} : ∀ (xs : List e.den) (us : List Value), RdTs w e xs us → us = fl (xs.map f) ∧ ∀ x ∈ xs.map f, big x
  | [], us, h => by
    rw [RdTs.nil] at h; subst h; exact ⟨rfl, fun x h => by cases h⟩
  | x :: xs, us, h => by
    obtain ⟨c1, c2, rfl, h1, h2⟩ := RdTs.cons.1 h
    obtain ⟨rfl, hb⟩ := hf w x c1 h1
    obtain ⟨rfl, hbs⟩ := flat_rows hf xs c2 h2
    exact ⟨rfl, fun y hy => by
      rw [List.map_cons] at hy
      cases hy with
      | head => exact hb
      | tail _ hy => exact hbs y hy⟩
theorem flat_sl {E : TypeId} {e : GT} {α : Type} [Dat α] {f : e.den → α} {big : α → Prop} (hf : FlatAt e f big) {w : World} {xs : GT.den (.sl E e)} {cs : List Value} (h : RdT w (.sl E e) xs cs) : ∃ (A : Option Addr) (c : Nat) (l : List α), cs = [.slice A l.length c] ∧ l.length ≤ maxLen ∧ Rd w A (fl l) ∧ (∀ x ∈ l, big x) := by
  obtain ⟨A, c, us, rfl, h1, h2, h3, h4⟩ := RdT.sl.1 h
  obtain ⟨rfl, hb⟩ := flat_rows hf _ _ h4
  have hl : (List.map f (show List e.den from xs)).length = List.length xs := List.length_map ..
  exact ⟨A, c, List.map f (show List e.den from xs), congrArg (fun n => [Value.slice A n c]) hl.symm, Nat.le_trans (Nat.le_of_eq hl) (Nat.le_trans h1 h2), h3, hb⟩
theorem flatInt : FlatAt .int (α := Int) (fun x => x) inI64 := fun w x c h => RdT.int.1 h
def ya (l : List (Option Addr × Nat)) (w : World) : Ys := fun i => ⟨(l.getD i (none, 0)).1, (l.getD i (none, 0)).2, w, 0⟩
/-- Objects moved to the front. -/
theorem WOk.rot {base : Nat} {w0 w : World} {H H' : List HObj} {G : List World} (p n : Nat) (e : List.take n (List.drop p H) ++ (List.take p H ++ List.drop n (List.drop p H)) = H') (h : WOk base w0 H G w) : WOk base w0 H' G w := by
  subst e
  refine h.perm ?_
  have h1 : H.Perm (List.take p H ++ (List.take n (List.drop p H) ++ List.drop n (List.drop p H))) := by
    rw [List.take_append_drop, List.take_append_drop]
  refine h1.trans ?_
  rw [← List.append_assoc, ← List.append_assoc]
  exact List.Perm.append_right _ List.perm_append_comm
theorem WOk.drop {base : Nat} {w0 w : World} {H H' : List HObj} {G : List World} (p : Nat) (e : List.drop p H = H') (h : WOk base w0 H G w) : WOk base w0 H' G w := by
  subst e
  have hm : ∀ x ∈ List.drop p H, x ∈ H := fun x hx => List.mem_of_mem_drop hx
  exact ⟨h.below, h.le, fun x hx => h.own x (hm x hx), h.apart.sublist (List.drop_sublist p H), fun m hmm q u hq => ⟨(h.ref m hmm q u hq).1, fun x hx => (h.ref m hmm q u hq).2 x (hm x hx)⟩⟩
theorem WOk.keep {base : Nat} {w0 w m : World} {H : List HObj} {G : List World} {A : Option Addr} {us : List Value} (h : WOk base w0 H G w) (hr : Rd m A us) (hm : m ∈ G) : Rd w A us := rds_rf hr hm _ _ _ h
theorem WOk.row {base : Nat} {w0 w : World} {H : List HObj} {G : List World} {A : Option Addr} {e sz n c : Nat} {us : List Value} (h : WOk base w0 H G w) (i : Nat) (hi : H[i]? = some (.row e sz A n c us)) : Rd w A us := rds_row i hi _ _ _ h
end Go.Proofs.Ytojgphgfhapacaa
