/- Files and stores of files, as data. -/
import Derived.Test.YtojgphgfhapacaaNst
namespace Go.Proofs.Ytojgphgfhapacaa
set_option linter.unusedVariables false
set_option linter.unusedSimpArgs false
structure FFile where
  no : Int
  ow : Int
  bl : List Int
  ln : Int
  sl : Bool
  deriving DecidableEq
@[reducible] instance : In FFile Int := ⟨5, fun x v => [.int .i64 x.no, .int .i64 x.ow, v, .int .i64 x.ln, .bool x.sl], fun _ _ => rfl, FFile.bl, ⟨0, 0, [], 0, false⟩, fun x A n c u hu => by
  simp only [List.mem_cons, List.mem_nil_iff, or_false] at hu
  rcases hu with rfl | rfl | rfl | rfl | rfl <;> rfl⟩
structure DFStore where
  B : List ByteArray
  F : List FFile
  deriving DecidableEq
end Go.Proofs.Ytojgphgfhapacaa
