/- ShowSlot of both programs: one plain string. -/
import Derived.Test.YtbegbdfbfbkflaaFix
import Derived.Test.YtbegbdfbfbkflaaCrc
import Derived.Test.YtbegbdfbfbkflaaTy
namespace Go.Proofs.Ytbegbdfbfbkflaa
open Go.RowKit
set_option maxHeartbeats 1000000
set_option linter.unusedVariables false
set_option linter.unusedSimpArgs false
def vS (n : Nat) : ByteArray := ⟨(varL n).toArray⟩
def fS (n : Nat) : ByteArray := ⟨(fixL 4 n).toArray⟩
def pieceS (r : ByteArray) : ByteArray := vS r.size ++ r
def sumS (t : ByteArray) : ByteArray := fS (crcF t) ++ t
theorem vS_size (n : Nat) : (vS n).size ≤ 10 := by
  show (varL n).toArray.size ≤ 10
  have := varF_len 9 n
  simpa [varL] using this
theorem fS_size (n : Nat) : (fS n).size = 4 := by
  show (fixL 4 n).toArray.size = 4
  simp [fixL_len]
theorem crcF_lt (t : ByteArray) : crcF t < 4294967296 := by unfold crcF; omega
theorem pieceS_size (r : ByteArray) : (pieceS r).size ≤ r.size + 10 := by
  have := vS_size r.size
  unfold pieceS; rw [ByteArray.size_append]; omega
theorem xs_Var_v (n : Nat) (hn : n ≤ 562949953421311) (w : World) :
    Calls Try.prog 140 #[.int .i64 n] w fun e w' => e = .returned (.string (vS n)) ∧ Below w.heap.size w w' := (by first | exact sVar_any n hn w | exact iVar_any n hn w)
theorem xi_Var_v (n : Nat) (hn : n ≤ 562949953421311) (w : World) :
    Calls Try.prog 121 #[.int .i64 n] w fun e w' => e = .returned (.string (vS n)) ∧ Below w.heap.size w w' := (by first | exact sVar_any n hn w | exact iVar_any n hn w)
theorem sFix_v (n : Nat) (hn : n < 4294967296) (w : World) :
    Calls Try.prog 66 #[.int .i64 n, .int .i64 4] w fun e w' => e = .returned (.string (fS n)) ∧ Below w.heap.size w w' := sFixed4_any n hn w
theorem iFix_v (n : Nat) (hn : n < 4294967296) (w : World) :
    Calls Try.prog 148 #[.int .i64 n, .int .i64 4] w fun e w' => e = .returned (.string (fS n)) ∧ Below w.heap.size w w' := iFixed4_any n hn w
theorem sPiece_any (s : ByteArray) (hs : s.size ≤ 1048576) (w : World) :
    Calls Try.prog 141 #[.string s] w fun e w' => e = .returned (.string (pieceS s)) ∧ Below w.heap.size w w' := by
  have hz := vS_size s.size
  have hq : ¬ 9223372036854775807 < (vS s.size).size + s.size := by omega
  go_enter Try.func141, Try.ntmps141
  go_wp2_with fail
  refine (xs_Var_v s.size (by omega) _).mono ?_
  rintro e w' ⟨rfl, hb⟩
  go_wp2
  go_ret
  exact ⟨rfl, hb⟩
theorem iPiece_any (s : ByteArray) (hs : s.size ≤ 1048576) (w : World) :
    Calls Try.prog 122 #[.string s] w fun e w' => e = .returned (.string (pieceS s)) ∧ Below w.heap.size w w' := by
  have hz := vS_size s.size
  have hq : ¬ 9223372036854775807 < (vS s.size).size + s.size := by omega
  go_enter Try.func122, Try.ntmps122
  go_wp2_with fail
  refine (xi_Var_v s.size (by omega) _).mono ?_
  rintro e w' ⟨rfl, hb⟩
  go_wp2
  go_ret
  exact ⟨rfl, hb⟩
def showS (q : Int) (r : ByteArray) : ByteArray := if inR q 1 1000000 = true ∧ r.size ≤ 40 then sumS (vS q.toNat ++ pieceS r) else ⟨#[]⟩
end Go.Proofs.Ytbegbdfbfbkflaa
