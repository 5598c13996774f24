/- Slices of ints: their size, copy, comparison, marks. -/
import Derived.Test.YtojgphgfhapacaaSl
namespace Go.Proofs.Ytojgphgfhapacaa
open Go.RowKit
set_option maxHeartbeats 400000
set_option linter.unusedVariables false
set_option linter.unusedSimpArgs false
def ints (xs : List Int) : List Value := xs.map (.int .i64)
theorem ints_len (xs : List Int) : (ints xs).length = xs.length := by simp [ints]
theorem ints_app (a b : List Int) : ints (a ++ b) = ints a ++ ints b := by simp [ints]
theorem ints_at {w : World} {A : Option Addr} {xs : List Int} (h : Rd w A (ints xs)) {i : Nat} (hi : i < xs.length) : ∃ ad, A = some ad ∧ w.cell? (ad.add i) = some (.int .i64 xs[i]) := by
  obtain ⟨ad, e, hc⟩ := h i (.int .i64 xs[i]) (by simp [ints, List.getElem?_eq_getElem hi])
  exact ⟨ad, e, hc⟩
theorem ints_snoc (l : List Int) (k : Nat) (h : k < l.length) : ints (l.take (k + 1)) = ints (l.take k) ++ [.int .i64 l[k]] := by
  rw [List.take_succ_eq_append_getElem h]; unfold ints; rw [List.map_append]; rfl
def szQ (left : Int) (n : Nat) : Int := if (n : Int) ≤ left then left - n else -1
theorem z_int : (Try.prog.info? 3).map (·.size) = some 1 := by kernel_rfl
theorem i_int : (Try.prog.info? 3).map (fun i => (i.zero, i.size, i.bytes)) = some (some (.int .i64 0), 1, 8) := by kernel_rfl
theorem T_int : SlT 34 3 1 8 := SlT.mk' (z := .int .i64 0) Try.underlying34 i_int rfl (by omega)
/-- n numbers from k on. -/
def upFrom (k : Int) (n : Nat) : List Int := (List.range n).map (fun j : Nat => k + (j : Int))
theorem upFrom_len (k : Int) (n : Nat) : (upFrom k n).length = n := by simp [upFrom]
theorem upFrom_succ (k : Int) (n : Nat) : upFrom k (n + 1) = upFrom k n ++ [k + (n : Int)] := by simp [upFrom, List.range_succ]
theorem upFrom_get (k : Int) (n i : Nat) (h : i < (upFrom k n).length) : (upFrom k n)[i] = k + (i : Int) := by simp [upFrom]
end Go.Proofs.Ytojgphgfhapacaa
