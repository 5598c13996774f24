/- Plain facts on strings as lists of bytes: their order is total. -/
import Derived.WalkKit
import Derived.WalkLawsBesides
namespace Go.Proofs.Ytojgphgfhapacaa
theorem bl_eq : ∀ x y : List UInt8, Op.bytesLess x y = decide (x < y)
  | [], [] => by simp [Op.bytesLess]
  | [], _ :: _ => by simp [Op.bytesLess]
  | _ :: _, [] => by simp [Op.bytesLess]
  | a :: x, b :: y => by
    have ih := bl_eq x y
    simp only [Op.bytesLess, List.cons_lt_cons_iff, ih]
    by_cases h : a < b
    · simp [h]
    · by_cases h2 : a = b
      · subst h2; simp
      · simp [h, h2]
theorem tl_inj {a b : ByteArray} (h : a.toList = b.toList) : a = b := by
  have h2 : a.data.toList = b.data.toList := by simpa [ByteArray.toList_eq] using h
  cases a; cases b; simp at h2; simp [h2]
def sLt (a b : ByteArray) : Bool := Op.bytesLess a.toList b.toList
def sEmp (a : ByteArray) : Bool := a.toList.isEmpty
def sEq (a b : ByteArray) : Bool := a.toList == b.toList
theorem sLt_iff (a b : ByteArray) : sLt a b = true ↔ a.toList < b.toList := by simp [sLt, bl_eq]
theorem sLt_irrefl (a : ByteArray) : sLt a a = false := by
  cases h : sLt a a with
  | false => rfl
  | true => exact absurd ((sLt_iff _ _).1 h) (List.lt_irrefl _)
theorem sLt_trans {a b c : ByteArray} (h : sLt a b = true) (h2 : sLt b c = true) : sLt a c = true :=
  (sLt_iff _ _).2 (List.lt_trans ((sLt_iff _ _).1 h) ((sLt_iff _ _).1 h2))
theorem sLt_tri (a b : ByteArray) : sLt a b = true ∨ a.toList = b.toList ∨ sLt b a = true := by
  rcases Classical.em (a.toList < b.toList) with h | h
  · exact .inl ((sLt_iff _ _).2 h)
  · rcases Classical.em (b.toList < a.toList) with h2 | h2
    · exact .inr (.inr ((sLt_iff _ _).2 h2))
    · exact .inr (.inl (List.le_antisymm h2 h))
theorem sLt_asymm {a b : ByteArray} (h : sLt a b = true) : sLt b a = false := by
  cases h2 : sLt b a with
  | false => rfl
  | true => exact absurd (sLt_trans h h2) (by simp [sLt_irrefl])
theorem not_sLt_nil (a b : ByteArray) (h : b.toList = []) : sLt a b = false := by
  cases h2 : sLt a b with
  | false => rfl
  | true => have := (sLt_iff _ _).1 h2; rw [h] at this; exact absurd this (List.not_lt_nil _)
end Go.Proofs.Ytojgphgfhapacaa
