/- The walk of FnExactOverlap. -/
import Derived.Test.YtjmkkncjbnohoaaRg
namespace Go.Proofs.Ytjmkkncjbnohoaa
open Go.RowKit
set_option maxHeartbeats 400000
set_option linter.unusedVariables false
theorem FnExactOverlap_walk (a b c d : ByteArray) (ha : a.size ≤ maxLen) (hb : b.size ≤ maxLen) (hc : c.size ≤ maxLen) (hd : d.size ≤ maxLen) (w : World) :
    Calls Try.prog 5 #[.string a, .string b, .string c, .string d] w fun e w' => e = .returned (.bool true) ∧ Below w.heap.size w w' := by
  go_enter Try.func5, Try.ntmps5
  go_wp2_with (first | (go_at_call 19; refine (sOverlap_any _ _ _ _ _).mono ?_; rintro e w' ⟨rfl, rfl⟩) | (go_at_call 20; refine (iOverlap_any _ _ _ _ _).mono ?_; rintro e w' ⟨rfl, rfl⟩))
  all_goals (go_ret; exact ⟨rfl, Below.refl _ _⟩)
end Go.Proofs.Ytjmkkncjbnohoaa
