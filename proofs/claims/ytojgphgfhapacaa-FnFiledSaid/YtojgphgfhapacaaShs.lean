/- ShowSlot of both programs: one plain string. -/
import Derived.Test.YtojgphgfhapacaaFix
import Derived.Test.YtojgphgfhapacaaCrc
import Derived.Test.YtojgphgfhapacaaTy
namespace Go.Proofs.Ytojgphgfhapacaa
open Go.RowKit
set_option maxHeartbeats 1000000
set_option linter.unusedVariables false
set_option linter.unusedSimpArgs false
def vS (n : Nat) : ByteArray := ⟨(varL n).toArray⟩
def fS (n : Nat) : ByteArray := ⟨(fixL 4 n).toArray⟩
def pieceS (r : ByteArray) : ByteArray := vS r.size ++ r
def sumS (t : ByteArray) : ByteArray := fS (crcF t) ++ t
theorem vS_size (n : Nat) : (vS n).size ≤ 10 := by
  show (varL n).toArray.size ≤ 10
  have := varF_len 9 n
  simpa [varL] using this
theorem fS_size (n : Nat) : (fS n).size = 4 := by
  show (fixL 4 n).toArray.size = 4
  simp [fixL_len]
theorem crcF_lt (t : ByteArray) : crcF t < 4294967296 := by unfold crcF; omega
theorem pieceS_size (r : ByteArray) : (pieceS r).size ≤ r.size + 10 := by
  have := vS_size r.size
  unfold pieceS; rw [ByteArray.size_append]; omega
def showS (q : Int) (r : ByteArray) : ByteArray := if inR q 1 1000000 = true ∧ r.size ≤ 40 then sumS (vS q.toNat ++ pieceS r) else ⟨#[]⟩
end Go.Proofs.Ytojgphgfhapacaa
