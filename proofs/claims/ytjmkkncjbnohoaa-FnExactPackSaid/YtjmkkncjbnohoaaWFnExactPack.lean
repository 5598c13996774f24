/- The walk of FnExactPack. -/
import Derived.Test.YtjmkkncjbnohoaaPack3
namespace Go.Proofs.Ytjmkkncjbnohoaa
open Go.RowKit
set_option maxHeartbeats 400000
set_option linter.unusedVariables false
theorem FnExactPack_walk (p : ByteArray) (hp : p.size ≤ maxLen) (w : World) :
    Calls Try.prog 7 #[.string p] w fun e w' => e = .returned (.bool true) ∧ Below w.heap.size w w' := by
  go_enter Try.func7, Try.ntmps7
  by_cases h : p.size ≤ 1048576
  · go_wp2_with (first | (go_at_call 23; refine (sPack_any _ h _).mono ?_; rintro e w1 ⟨rfl, hb1⟩) | (go_at_call 24; refine (iPack_any _ h _).mono ?_; rintro e w2 ⟨rfl, hb2⟩))
    go_ret
    exact ⟨rfl, hb1.trans (hb2.mono hb1.size)⟩
  · go_wp2
    go_ret
    exact ⟨rfl, Below.refl _ _⟩
end Go.Proofs.Ytjmkkncjbnohoaa
