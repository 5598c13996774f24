/- Wrapping of keys in plain Lean. -/
import Derived.Test.YtfcnimglcialbaaLnkP
namespace Go.Proofs.Ytfcnimglcialbaa
set_option linter.unusedVariables false
/-- A text under a stream of bytes, up to a place. -/
def b8 (s : ByteArray) (i : Nat) : UInt8 := (bl s).getD i 0
def xorTo (t : ByteArray) (b : ByteArray) : Nat → List UInt8
  | 0 => []
  | k + 1 => xorTo t b k ++ [b8 t k ^^^ b8 b k]
theorem xorTo_len (t b : ByteArray) (k : Nat) : (xorTo t b k).length = k := by
  induction k with
  | zero => rfl
  | succ k ih => simp [xorTo, ih]
def xorF (t b : ByteArray) : ByteArray := ⟨(xorTo t b t.size).toArray⟩
theorem xorF_size (t b : ByteArray) : (xorF t b).size = t.size := by
  show (xorTo t b t.size).toArray.size = _
  simp [xorTo_len]
theorem xorTo_get (t b : ByteArray) : ∀ (n k : Nat), k < n → (xorTo t b n).getD k 0 = b8 t k ^^^ b8 b k := by
  intro n
  induction n with
  | zero => intro k h; omega
  | succ n ih =>
    intro k h
    rw [xorTo, List.getD_eq_getElem?_getD]
    rcases Nat.lt_or_ge k n with h1 | h1
    · rw [List.getElem?_append_left (by rw [xorTo_len]; exact h1), ← List.getD_eq_getElem?_getD]; exact ih k h1
    · obtain rfl : k = n := by omega
      rw [List.getElem?_append_right (by rw [xorTo_len]; exact Nat.le_refl _), xorTo_len, Nat.sub_self]; rfl
theorem b8_xorF (t b : ByteArray) (k : Nat) (h : k < t.size) : b8 (xorF t b) k = b8 t k ^^^ b8 b k := by
  show ((xorTo t b t.size).toArray.toList).getD k 0 = _
  rw [List.toList_toArray]
  exact xorTo_get t b _ k h
theorem xor_twice (a b : UInt8) : (a ^^^ b) ^^^ b = a := by
  rw [UInt8.xor_assoc, UInt8.xor_self, UInt8.xor_zero]
theorem ba_ext {a b : ByteArray} (hs : a.size = b.size) (h : ∀ k, k < a.size → b8 a k = b8 b k) : a = b := by
  apply ByteArray.ext
  apply Array.ext
  · exact hs
  · intro i h1 h2
    have := h i h1
    unfold b8 bl at this
    rw [List.getD_eq_getElem?_getD, List.getD_eq_getElem?_getD, List.getElem?_eq_getElem (by simpa using h1), List.getElem?_eq_getElem (by simpa using h2)] at this
    simpa using this
theorem xorF_twice (t b : ByteArray) : xorF (xorF t b) b = t := by
  refine ba_ext (by rw [xorF_size, xorF_size]) fun k hk => ?_
  rw [xorF_size, xorF_size] at hk
  rw [b8_xorF _ _ _ (by rw [xorF_size]; exact hk), b8_xorF _ _ _ hk, xor_twice]
theorem b8_eq (a : ByteArray) (k : Nat) (h : k < a.size) : b8 a k = a[k] := by
  unfold b8 bl
  rw [List.getD_eq_getElem?_getD, List.getElem?_eq_getElem (by simpa using h)]
  rfl
/-- The stream of a master and a number over a text of at most a block. -/
def stmF (m : ByteArray) (n : Nat) (t : ByteArray) : ByteArray := xorF t (chaF m 0 (nonF 1 n))
theorem stmF_size (m : ByteArray) (n : Nat) (t : ByteArray) : (stmF m n t).size = t.size := xorF_size _ _
theorem stmF_twice (m : ByteArray) (n : Nat) (t : ByteArray) : stmF m n (stmF m n t) = t := xorF_twice _ _
/-- Wrap and Unwrap. -/
def wrapOk (m : ByteArray) (n : Int) (k : ByteArray) : Prop := m.size = 32 ∧ k.size = 32 ∧ 0 ≤ n ∧ n ≤ 562949953421311
instance (m : ByteArray) (n : Int) (k : ByteArray) : Decidable (wrapOk m n k) := by unfold wrapOk; infer_instance
def wrapF (m : ByteArray) (n : Int) (k : ByteArray) : ByteArray := if wrapOk m n k then sumS (stmF m n.toNat k) else ⟨#[]⟩
/-- A text under its checksum. -/
def unOk (s : ByteArray) : Prop := s.size = 36 ∧ s = sumS (s.extract 4 s.size)
def unwOk (m : ByteArray) (n : Int) (s : ByteArray) : Prop := m.size = 32 ∧ (0 ≤ n ∧ n ≤ 562949953421311) ∧ unOk s
instance (s : ByteArray) : Decidable (unOk s) := by unfold unOk; infer_instance
instance (m : ByteArray) (n : Int) (s : ByteArray) : Decidable (unwOk m n s) := by unfold unwOk; infer_instance
def unwF (m : ByteArray) (n : Int) (s : ByteArray) : ByteArray × Bool := if unwOk m n s then (stmF m n.toNat (s.extract 4 s.size), true) else (⟨#[]⟩, false)
theorem sumS_size (t : ByteArray) : (sumS t).size = t.size + 4 := by unfold sumS; rw [ByteArray.size_append, fS_size]; omega
theorem wrapF_le (m : ByteArray) (n : Int) (k : ByteArray) : (wrapF m n k).size ≤ 36 := by
  unfold wrapF
  split
  · rename_i h; rw [sumS_size, stmF_size, h.2.1]; omega
  · exact Nat.zero_le _
theorem unwF_le (m : ByteArray) (n : Int) (s : ByteArray) : (unwF m n s).1.size ≤ 32 := by
  unfold unwF
  split
  · rename_i h
    have := h.2.2.1
    show (stmF _ _ _).size ≤ 32
    rw [stmF_size, ByteArray.size_extract]; omega
  · exact Nat.zero_le _
/-- What is wrapped is unwrapped. -/
theorem unw_wrap {m : ByteArray} {n : Int} {k : ByteArray} (h : wrapOk m n k) : unwF m n (wrapF m n k) = (k, true) := by
  have hs : (stmF m n.toNat k).size = 32 := by rw [stmF_size, h.2.1]
  have e1 : wrapF m n k = sumS (stmF m n.toNat k) := by unfold wrapF; rw [if_pos h]
  have e2 : (sumS (stmF m n.toNat k)).extract 4 (sumS (stmF m n.toNat k)).size = stmF m n.toNat k := by
    unfold sumS
    rw [show (fS (crcF (stmF m n.toNat k)) ++ stmF m n.toNat k).size = 36 by rw [ByteArray.size_append, fS_size, hs]]
    refine ba_ext (by rw [ByteArray.size_extract, ByteArray.size_append, fS_size, hs]; rfl) fun i hi => ?_
    rw [ByteArray.size_extract, ByteArray.size_append, fS_size, hs] at hi
    have hi : i < 32 := by simpa using hi
    rw [b8_eq _ i (by rw [ByteArray.size_extract, ByteArray.size_append, fS_size, hs]; simpa using hi), b8_eq _ i (by omega), ByteArray.getElem_extract, ByteArray.getElem_append_right (by rw [fS_size]; omega)]
    congr 1
    rw [fS_size]; omega
  rw [e1]
  unfold unwF
  rw [if_pos ⟨h.1, h.2.2, by rw [sumS_size, hs], by rw [e2]⟩, e2, stmF_twice]
end Go.Proofs.Ytfcnimglcialbaa
