/- Reading a varint, in plain Lean: the first terminator, and the shortest beginning that is its own writing, are one. -/
import Derived.Test.YtojgphgfhapacaaVar
namespace Go.Proofs.Ytojgphgfhapacaa
set_option linter.unusedVariables false
/-- What the bytes say, the last one the greatest. -/
def sumL : List UInt8 → Nat
  | [] => 0
  | b :: l => sumL l * 128 + b.toNat % 128
/-- Reading by the first byte below 128; t: a byte stood ahead. -/
def rvT : Bool → Nat → List UInt8 → Option (Nat × Nat)
  | _, 0, _ => none
  | _, _ + 1, [] => none
  | t, f + 1, b :: l => if 128 ≤ b.toNat then (rvT true f l).map (fun p => (p.1 * 128 + b.toNat % 128, p.2 + 1)) else if t = true ∧ b.toNat = 0 then none else some (b.toNat, 1)
/-- The same by beginnings. -/
def rvS (l : List UInt8) : Nat → Nat → Option (Nat × Nat)
  | 0, _ => none
  | f + 1, k => if k ≤ l.length then if varL (sumL (l.take k)) = l.take k then some (sumL (l.take k), k) else rvS l f (k + 1) else none
def canT0 : Bool → List UInt8 → Prop
  | _, [] => False
  | t, b :: l => if 128 ≤ b.toNat then canT0 true l else l = [] ∧ ¬ (t = true ∧ b.toNat = 0)
theorem rvT_can : ∀ (f : Nat) (t : Bool) (l : List UInt8) (n k : Nat), rvT t f l = some (n, k) → 1 ≤ k ∧ k ≤ f ∧ k ≤ l.length ∧ canT0 t (l.take k) ∧ n = sumL (l.take k)
  | 0, t, l, n, k, h => by simp [rvT] at h
  | f + 1, t, [], n, k, h => by simp [rvT] at h
  | f + 1, t, b :: l, n, k, h => by
    unfold rvT at h
    split at h
    · rename_i hb
      cases hr : rvT true f l with
      | none => rw [hr] at h; cases h
      | some p =>
        rw [hr] at h
        obtain ⟨n', k'⟩ := p
        simp only [Option.map_some, Option.some.injEq, Prod.mk.injEq] at h
        obtain ⟨rfl, rfl⟩ := h
        obtain ⟨h1, h2, h3, h4, h5⟩ := rvT_can f true l n' k' hr
        refine ⟨by omega, by omega, by simp; omega, ?_, ?_⟩
        · rw [List.take_succ_cons]; unfold canT0; rw [if_pos hb]; exact h4
        · rw [List.take_succ_cons]; simp only [sumL]; rw [← h5]
    · rename_i hb
      split at h
      · cases h
      · rename_i h0
        cases h
        refine ⟨by omega, by omega, by simp, ?_, ?_⟩
        · simp only [List.take_succ_cons, List.take_zero]; unfold canT0; rw [if_neg hb]; exact ⟨rfl, h0⟩
        · simp only [List.take_succ_cons, List.take_zero, sumL]; omega
theorem can_rvT : ∀ (f : Nat) (t : Bool) (l : List UInt8) (k : Nat), k ≤ f → k ≤ l.length → canT0 t (l.take k) → rvT t f l = some (sumL (l.take k), k)
  | f, t, l, 0, h1, h2, h => by simp [canT0] at h
  | 0, t, l, k + 1, h1, h2, h => by omega
  | f + 1, t, [], k + 1, h1, h2, h => by simp at h2
  | f + 1, t, b :: l, k + 1, h1, h2, h => by
    rw [List.take_succ_cons] at h
    unfold canT0 at h
    unfold rvT
    split at h
    · rename_i hb
      rw [if_pos hb, can_rvT f true l k (by omega) (by simp at h2; omega) h]
      simp [sumL]
    · rename_i hb
      rw [if_neg hb, if_neg h.2]
      have : (l.take k).length = 0 := by rw [h.1]; rfl
      have hk : k = 0 := by simp at this h2; rcases this with h | h; exact h; subst h; simp at h2; omega
      subst hk
      simp [sumL]; omega
theorem can_pos : ∀ (l : List UInt8), canT0 true l → 0 < sumL l
  | [], h => by simp [canT0] at h
  | b :: l, h => by
    unfold canT0 at h
    simp only [sumL]
    split at h
    · have := can_pos l h; omega
    · rename_i hb
      have : b.toNat ≠ 0 := fun e => h.2 ⟨rfl, e⟩
      omega
theorem u8_of (b : UInt8) (n : Nat) (h : n = b.toNat) : UInt8.ofNat n = b := by subst h; exact UInt8.ofNat_toNat
theorem can_varF : ∀ (l : List UInt8) (t : Bool) (f : Nat), canT0 t l → l.length ≤ f + 1 → varF f (sumL l) = l
  | [], t, f, h, hl => by simp [canT0] at h
  | b :: l, t, f, h, hl => by
    unfold canT0 at h
    have hb2 := b.toNat_lt
    split at h
    · rename_i hb
      have hp := can_pos l h
      have hl0 : l ≠ [] := fun e => by subst e; simp [canT0] at h
      have hl1 : 0 < l.length := List.length_pos_iff.2 hl0
      simp at hl
      obtain ⟨f', rfl⟩ : ∃ f', f = f' + 1 := ⟨f - 1, by omega⟩
      simp only [sumL]
      rw [varF, if_neg (by omega)]
      have e1 : (sumL l * 128 + b.toNat % 128) / 128 = sumL l := by omega
      rw [e1, can_varF l true f' h (by omega)]
      congr 1
      exact u8_of b _ (by omega)
    · rename_i hb
      obtain ⟨rfl, h0⟩ := h
      simp only [sumL]
      have e : 0 * 128 + b.toNat % 128 = b.toNat := by omega
      rw [e]
      cases f with
      | zero => rw [varF]; rw [u8_of b _ rfl]
      | succ f => rw [varF, if_pos (by omega)]; rw [u8_of b _ rfl]
theorem varF_can : ∀ (f n : Nat) (t : Bool), n < 128 ^ (f + 1) → (t = true → 0 < n) → canT0 t (varF f n)
  | 0, n, t, h, ht => by
    have hn : n < 128 := by simpa using h
    have e : (UInt8.ofNat n).toNat = n := by rw [UInt8.toNat_ofNat']; exact Nat.mod_eq_of_lt (by omega)
    rw [varF]; unfold canT0; rw [e, if_neg (by omega)]
    exact ⟨rfl, fun h0 => by have := ht h0.1; omega⟩
  | f + 1, n, t, h, ht => by
    rw [varF]
    split
    · rename_i hn
      have e : (UInt8.ofNat n).toNat = n := by rw [UInt8.toNat_ofNat']; exact Nat.mod_eq_of_lt (by omega)
      unfold canT0; rw [e, if_neg (by omega)]
      exact ⟨rfl, fun h0 => by have := ht h0.1; omega⟩
    · rename_i hn
      have e : (UInt8.ofNat (128 + n % 128)).toNat = 128 + n % 128 := by rw [UInt8.toNat_ofNat']; exact Nat.mod_eq_of_lt (by omega)
      unfold canT0; rw [e, if_pos (by omega)]
      exact varF_can f (n / 128) true (by rw [Nat.pow_succ] at h; exact Nat.div_lt_of_lt_mul (by omega)) (fun _ => by omega)
theorem sumL_lt : ∀ (l : List UInt8), sumL l < 128 ^ l.length
  | [] => by simp [sumL]
  | b :: l => by
    have := sumL_lt l
    simp only [sumL, List.length_cons, Nat.pow_succ]
    omega
theorem pow_le (k : Nat) (h : k ≤ 7) : 128 ^ k ≤ 562949953421312 := by
  have := Nat.pow_le_pow_right (n := 128) (by omega) h
  have e : (128 : Nat) ^ 7 = 562949953421312 := by decide
  omega
theorem sumL_small (l : List UInt8) (h : l.length ≤ 7) : sumL l < 562949953421312 := by
  have := sumL_lt l
  have := pow_le l.length h
  omega
theorem good_iff (l : List UInt8) (k : Nat) (hk : k ≤ l.length) (h7 : k ≤ 7) : varL (sumL (l.take k)) = l.take k ↔ canT0 false (l.take k) := by
  have hl : (l.take k).length = k := by simp; omega
  constructor
  · intro h
    rw [← h]
    have := sumL_small (l.take k) (by omega)
    exact varF_can 9 _ false (by have : (128 : Nat) ^ (9 + 1) = 1180591620717411303424 := by decide
                                 omega) (fun h => by cases h)
  · intro h
    exact can_varF _ false 9 h (by omega)
theorem rvS_eq (l : List UInt8) : ∀ (f k : Nat), f + k = 8 → 1 ≤ k → (∀ j, 1 ≤ j → j < k → j ≤ l.length → ¬ canT0 false (l.take j)) → rvS l f k = rvT false 7 l
  | 0, k, h, h1, hn => by
    cases hr : rvT false 7 l with
    | none => rfl
    | some p =>
      obtain ⟨n, j⟩ := p
      obtain ⟨a, b, c, d, e⟩ := rvT_can 7 false l n j hr
      exact absurd d (hn j a (by omega) c)
  | f + 1, k, h, h1, hn => by
    unfold rvS
    split
    · rename_i hk
      split
      · rename_i hg
        have := (good_iff l k hk (by omega)).1 hg
        rw [can_rvT 7 false l k (by omega) hk this]
      · rename_i hg
        have hng : ¬ canT0 false (l.take k) := fun h => hg ((good_iff l k hk (by omega)).2 h)
        refine rvS_eq l f (k + 1) (by omega) (by omega) (fun j a b c => ?_)
        rcases Nat.lt_succ_iff_lt_or_eq.1 b with h2 | rfl
        · exact hn j a h2 c
        · exact hng
    · rename_i hk
      cases hr : rvT false 7 l with
      | none => rfl
      | some p =>
        obtain ⟨n, j⟩ := p
        obtain ⟨a, b, c, d, e⟩ := rvT_can 7 false l n j hr
        exact absurd d (hn j a (by omega) c)
/-- What both programs read. -/
def rv (l : List UInt8) : Option (Nat × Nat) := rvT false 7 l
theorem rvS_rv (l : List UInt8) : rvS l 7 1 = rv l := rvS_eq l 7 1 rfl (by omega) (fun j a b => by omega)
theorem rv_some {l : List UInt8} {n k : Nat} (h : rv l = some (n, k)) : 1 ≤ k ∧ k ≤ 7 ∧ k ≤ l.length ∧ n < 562949953421312 ∧ varL n = l.take k := by
  obtain ⟨a, b, c, d, e⟩ := rvT_can 7 false l n k h
  have hl : (l.take k).length = k := by simp; omega
  refine ⟨a, b, c, ?_, ?_⟩
  · rw [e]; exact sumL_small _ (by omega)
  · rw [e]; exact (good_iff l k c b).2 d
end Go.Proofs.Ytojgphgfhapacaa
