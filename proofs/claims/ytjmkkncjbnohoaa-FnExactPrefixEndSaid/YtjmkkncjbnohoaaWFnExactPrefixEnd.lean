/- The walk of FnExactPrefixEnd. -/
import Derived.Test.YtjmkkncjbnohoaaPE
namespace Go.Proofs.Ytjmkkncjbnohoaa
open Go.RowKit
set_option maxHeartbeats 400000
set_option linter.unusedVariables false
theorem FnExactPrefixEnd_walk (p : ByteArray) (hp : p.size ≤ maxLen) (w : World) :
    Calls Try.prog 4 #[.string p] w fun e w' => e = .returned (.bool true) ∧ Below w.heap.size w w' := by
  go_enter Try.func4, Try.ntmps4
  by_cases h : p.size ≤ 1048576
  · go_wp2_with (first | (go_at_call 17; refine (xs_PrefixEnd_any _ h _).mono ?_; rintro e w1 ⟨rfl, hb1⟩) | (go_at_call 18; refine (xi_PrefixEnd_any _ h _).mono ?_; rintro e w2 ⟨rfl, hb2⟩))
    go_ret
    exact ⟨rfl, hb1.trans (hb2.mono hb1.size)⟩
  · go_wp2
    go_ret
    exact ⟨rfl, Below.refl _ _⟩
end Go.Proofs.Ytjmkkncjbnohoaa
