/- Unpack in plain Lean: the decoder. -/
import Derived.Test.YtfcnimglcialbaaPackP
namespace Go.Proofs.Ytfcnimglcialbaa
set_option linter.unusedVariables false
set_option linter.unusedSimpArgs false
def upCopy (o : List UInt8) (d n : Nat) : List UInt8 := (o.drop (o.length - d)).take n
def upStep (s : ByteArray) (k : Nat) (o : List UInt8) : Option (Nat × List UInt8) :=
  if gb s k = 0 ∧ k + 1 < s.size then some (k + 2, o ++ [gb s (k + 1)])
  else if gb s k = 1 ∧ k + 2 < s.size ∧ (gb s (k + 1)).toNat ≤ o.length ∧ (gb s (k + 2)).toNat ≤ (gb s (k + 1)).toNat then some (k + 3, o ++ upCopy o (gb s (k + 1)).toNat (gb s (k + 2)).toNat)
  else none
def upF (s : ByteArray) : Nat → Nat → List UInt8 → Option (List UInt8)
  | 0, _, o => some o
  | f + 1, k, o => if k < s.size then (match upStep s k o with | none => none | some (k', o') => if 200 < o'.length then none else upF s f k' o') else some o
def upL (s : ByteArray) : Option (List UInt8) := upF s s.size 0 []
def upB (s : ByteArray) : ByteArray × Bool := match upL s with
  | none => (⟨#[]⟩, false)
  | some o => if (⟨(pkL ⟨o.toArray⟩).toArray⟩ : ByteArray) = s then (⟨o.toArray⟩, true) else (⟨#[]⟩, false)
theorem upB_none {s : ByteArray} (h : upL s = none) : upB s = (⟨#[]⟩, false) := by unfold upB; rw [h]
theorem upB_yes {s : ByteArray} {o : List UInt8} (h : upL s = some o) (hp : (⟨(pkL ⟨o.toArray⟩).toArray⟩ : ByteArray) = s) : upB s = (⟨o.toArray⟩, true) := by unfold upB; rw [h]; simp only [hp, if_true]
theorem upB_no {s : ByteArray} {o : List UInt8} (h : upL s = some o) (hp : ¬ (⟨(pkL ⟨o.toArray⟩).toArray⟩ : ByteArray) = s) : upB s = (⟨#[]⟩, false) := by unfold upB; rw [h]; simp only [hp, if_false]
/-- One step of the decoder, its outcome told. -/
theorem upF_none {s : ByteArray} {f k : Nat} {o : List UInt8} {r : Option (List UInt8)} (h : upF s f k o = r) (hk : k < s.size) (hf : s.size ≤ k + f) (hs : upStep s k o = none) : r = none := by
  rcases f with _ | f
  · omega
  · rw [upF, if_pos hk, hs] at h; exact h.symm
theorem upF_long {s : ByteArray} {f k k' : Nat} {o o' : List UInt8} {r : Option (List UInt8)} (h : upF s f k o = r) (hk : k < s.size) (hf : s.size ≤ k + f) (hs : upStep s k o = some (k', o')) (hl : 200 < o'.length) : r = none := by
  rcases f with _ | f
  · omega
  · rw [upF, if_pos hk, hs] at h; simp only [hl, if_true] at h; exact h.symm
theorem upF_go {s : ByteArray} {f k k' : Nat} {o o' : List UInt8} {r : Option (List UInt8)} (h : upF s f k o = r) (hk : k < s.size) (hf : s.size ≤ k + f) (hs : upStep s k o = some (k', o')) (hl : ¬ 200 < o'.length) : ∃ f', f = f' + 1 ∧ upF s f' k' o' = r := by
  rcases f with _ | f
  · omega
  · rw [upF, if_pos hk, hs] at h; simp only [hl, if_false] at h; exact ⟨f, rfl, h⟩
theorem upF_end {s : ByteArray} {f k : Nat} {o : List UInt8} {r : Option (List UInt8)} (h : upF s f k o = r) (hk : ¬ k < s.size) : r = some o := by
  rcases f with _ | f
  · exact h.symm
  · rw [upF, if_neg hk] at h; exact h.symm
theorem upStep_lit {s : ByteArray} {k : Nat} {o : List UInt8} (h0 : gb s k = 0) (h1 : k + 1 < s.size) : upStep s k o = some (k + 2, o ++ [gb s (k + 1)]) := by unfold upStep; rw [if_pos ⟨h0, h1⟩]
theorem upStep_ref {s : ByteArray} {k : Nat} {o : List UInt8} (h0 : gb s k = 1) (h1 : k + 2 < s.size) (h2 : (gb s (k + 1)).toNat ≤ o.length) (h3 : (gb s (k + 2)).toNat ≤ (gb s (k + 1)).toNat) : upStep s k o = some (k + 3, o ++ upCopy o (gb s (k + 1)).toNat (gb s (k + 2)).toNat) := by
  unfold upStep; rw [if_neg (by rw [h0]; rintro ⟨h, _⟩; exact absurd h (by decide)), if_pos ⟨h0, h1, h2, h3⟩]
theorem upStep_no {s : ByteArray} {k : Nat} {o : List UInt8} (h0 : gb s k = 0 → ¬ k + 1 < s.size) (h1 : gb s k = 1 → k + 2 < s.size → (gb s (k + 1)).toNat ≤ o.length → ¬ (gb s (k + 2)).toNat ≤ (gb s (k + 1)).toNat) : upStep s k o = none := by
  unfold upStep; rw [if_neg (fun ⟨a, b⟩ => h0 a b), if_neg (fun ⟨a, b, c, d⟩ => h1 a b c d)]
end Go.Proofs.Ytfcnimglcialbaa
