/- Small laws that the walks use: one byte made to a string. -/
import Derived.Test.YtojgphgfhapacaaBase
import Derived.Laws.BytesArg
import Derived.Laws.IdiomStrings
namespace Go.Proofs.Ytojgphgfhapacaa
open Go.RowKit
set_option linter.unusedVariables false
theorem ret_str {a b : ByteArray} (h : a = b) : Ending.returned (.string a) = .returned (.string b) := by rw [h]
theorem ret_int {k : IntKind} {a b : Int} (h : a = b) : Ending.returned (.int k a) = .returned (.int k b) := by rw [h]
theorem ret_bool {a b : Bool} (h : a = b) : Ending.returned (.bool a) = .returned (.bool b) := by rw [h]
def byteStr (n : Int) : ByteArray := ⟨#[UInt8.ofNat n.toNat]⟩
@[simp, go_sem] theorem byteStr_size (n : Int) : (byteStr n).size = 1 := rfl
theorem extract_size_le (p : ByteArray) (i k : Nat) : (p.extract i k).size ≤ p.size := by simp; omega
theorem run_conv_one (w : World) (a : Addr) (c : Nat) (n : Int) (h : w.cell? a = some (.int .u8 n)) :
    (convert 22 9 (.slice (some a) 1 c)).run Try.prog w = .ok (.string (byteStr n)) w := by
  rw [run_convert_bytes_string w _ _ 5 (some a) 1 c Try.underlying22 Try.underlying5 Try.underlying9]
  rw [run_bytesToString w a 1 c [n] (by
    have := run_loadCells_list (P := Try.prog) w a [Value.int .u8 n] (fun j v hj => by
      rcases j with _ | j
      · simp at hj; subst hj; simpa [Addr.add] using h
      · simp at hj)
    simpa using this)]
  simp [byteStr, ByteArray.empty, ByteArray.emptyWithCapacity, ByteArray.push]
  rfl
@[go_sem] theorem conv_one_new (w : World) (n : Int) (e : TypeId) :
    (convert 22 9 (.slice (some ⟨w.heap.size, 0, none⟩) 1 1)).run Try.prog (w.alloc (.cells #[.int .u8 n] e)) = .ok (.string (byteStr n)) (w.alloc (.cells #[.int .u8 n] e)) :=
  run_conv_one _ _ _ _ (by simp only [go_sem]; simp)
@[go_sem] theorem conv_one_new_drew (w : World) (n : Int) (e : TypeId) :
    (convert 22 9 (.slice (some ⟨w.heap.size, 0, none⟩) 1 1)).run Try.prog (w.alloc (.cells #[.int .u8 n] e)).drew = .ok (.string (byteStr n)) (w.alloc (.cells #[.int .u8 n] e)).drew :=
  run_conv_one _ _ _ _ (by show (w.alloc (.cells #[.int .u8 n] e)).cell? _ = _; simp only [go_sem]; simp)
end Go.Proofs.Ytojgphgfhapacaa
