/- The walk of FnExactClip. -/
import Derived.Test.YtjmkkncjbnohoaaRg
namespace Go.Proofs.Ytjmkkncjbnohoaa
open Go.RowKit
set_option maxHeartbeats 400000
set_option linter.unusedVariables false
theorem FnExactClip_walk (a b c d : ByteArray) (ha : a.size ≤ maxLen) (hb : b.size ≤ maxLen) (hc : c.size ≤ maxLen) (hd : d.size ≤ maxLen) (w : World) :
    Calls Try.prog 6 #[.string a, .string b, .string c, .string d] w fun e w' => e = .returned (.bool true) ∧ Below w.heap.size w w' := by
  go_enter Try.func6, Try.ntmps6
  cases h1 : rgOv a b c d
  all_goals
    go_wp2_with (first | (go_at_call 21; refine (sClip_any _ _ _ _ _).mono ?_; rintro e w' ⟨he, rfl⟩; simp only [rgClip, h1, if_true, Bool.false_eq_true, if_false] at he; subst he) | (go_at_call 22; refine (iClip_any _ _ _ _ _).mono ?_; rintro e w' ⟨he, rfl⟩; simp only [rgClip, h1, if_true, Bool.false_eq_true, if_false] at he; subst he))
    all_goals (go_ret; exact ⟨rfl, Below.refl _ _⟩)
end Go.Proofs.Ytjmkkncjbnohoaa
