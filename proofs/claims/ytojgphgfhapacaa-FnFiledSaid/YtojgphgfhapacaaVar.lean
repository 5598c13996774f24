/- Varints: both programs write one plain list of bytes. -/
import Derived.Test.YtojgphgfhapacaaTu
import Derived.Laws.BitsAllLaws
import Derived.Laws.Bits128
namespace Go.Proofs.Ytojgphgfhapacaa
open Go.RowKit
set_option maxHeartbeats 1000000
set_option linter.unusedVariables false
set_option linter.unusedSimpArgs false
def varF : Nat → Nat → List UInt8
  | 0, n => [UInt8.ofNat n]
  | f + 1, n => if n < 128 then [UInt8.ofNat n] else UInt8.ofNat (128 + n % 128) :: varF f (n / 128)
def varL (n : Nat) : List UInt8 := varF 9 n
theorem ofNat_val' (n : Nat) (h : n < 256) : ((UInt8.ofNat n).toNat : Int) = n := by
  have : (UInt8.ofNat n).toNat = n := by rw [UInt8.toNat_ofNat']; exact Nat.mod_eq_of_lt h
  omega
theorem varF_len (f n : Nat) : (varF f n).length ≤ f + 1 := by
  induction f generalizing n with
  | zero => simp [varF]
  | succ f ih => rw [varF]; split <;> simp; exact ih _
theorem varF_step {l : List UInt8} {n m f : Nat} (h : l ++ varF f m = varL n) (hm : 128 ≤ m) (hf : m < 128 ^ (f + 1)) : ∃ f', f = f' + 1 ∧ (l ++ [UInt8.ofNat (128 + m % 128)]) ++ varF f' (m / 128) = varL n ∧ m / 128 < 128 ^ (f' + 1) := by
  rcases f with _ | f'
  · omega
  · refine ⟨f', rfl, ?_, ?_⟩
    · rw [varF, if_neg (by omega)] at h
      rw [← h]; simp
    · rw [Nat.pow_succ] at hf
      exact Nat.div_lt_of_lt_mul (by omega)
theorem varF_end {l : List UInt8} {n m f : Nat} (h : l ++ varF f m = varL n) (hm : m < 128) : l ++ [UInt8.ofNat m] = varL n := by
  rcases f with _ | f'
  · exact h
  · rw [varF, if_pos hm] at h; exact h
theorem i64_or128 (r : Int) (h0 : 0 ≤ r) (h1 : r < 128) : bits .or .i64 128 r = 128 + r := by
  obtain ⟨R, rfl⟩ := Int.eq_ofNat_of_zero_le h0
  have hR : R < 128 := by omega
  have key : 128 ||| R = 128 + R := by
    have := Nat.two_pow_add_eq_or_of_lt (i := 7) (b := R) (by omega) 1
    simpa using this.symm
  show IntKind.i64.wrap ((BitVec.ofInt 64 (128 : Nat) ||| BitVec.ofInt 64 (R : Int)).toNat : Int) = _
  rw [BitVec.toNat_or, ofInt_u64 128 (by omega), ofInt_u64 R (by omega), IntKind.wrap_i64, key]
  omega
end Go.Proofs.Ytojgphgfhapacaa
