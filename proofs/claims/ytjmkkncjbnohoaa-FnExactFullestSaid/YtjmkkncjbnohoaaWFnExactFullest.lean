/- The walk of FnExactFullest. -/
import Derived.Test.YtjmkkncjbnohoaaAc
import Derived.Test.YtjmkkncjbnohoaaAcTo
namespace Go.Proofs.Ytjmkkncjbnohoaa
open Go.RowKit
set_option maxHeartbeats 400000
set_option linter.unusedVariables false
set_option linter.unusedSimpArgs false
theorem FnExactFullest_walk (w : World) (v : Value) (x : (GT.sl 75 gAcc).den) (hx : RdT w (GT.sl 75 gAcc) x [v]) :
    Calls Try.prog 9 #[v] w fun e w' => e = .returned (.bool true) ∧ Below w.heap.size w w' := by
  obtain ⟨A, c, l, rfl, hlc, hcm, hr⟩ := gAcc_open hx
  clear hx
  have hm : l.length ≤ maxLen := Nat.le_trans hlc hcm
  have hm2 := hm
  unfold maxLen at hm2
  go_enter Try.func9, Try.ntmps9
  by_cases hs : l.length ≤ 1048576
  · have hsz : Hid (szR 1048576 l.length = 1048576 - l.length) := by show _ = _; unfold szR; rw [if_pos (by omega)]
    go_wp2_with fail
    refine (szAccS_any _ _ _ _ _ (by omega) hm).mono ?_
    rintro e w' ⟨rfl, rfl⟩
    rw [hsz.out]
    go_wp2_with fail
    refine (toAccS_any _ _ l _ hr hs).mono ?_
    rintro e w1 ⟨rfl, hd1, hb1⟩
    go_wp2_with fail
    refine (sFullest_any _ _ l _ (Rd.of_own hd1) hs).mono ?_
    rintro e w2 ⟨rfl, hb2⟩
    have hw2 : Below w.heap.size w w2 := hb1.trans (hb2.mono hb1.size)
    clear hd1
    go_wp2_with fail
    refine (toAccS_any _ _ l _ (hr.ext hw2) hs).mono ?_
    rintro e w3 ⟨rfl, hd3, hb3⟩
    go_wp2_with fail
    refine (iFullest_any _ _ l _ (Rd.of_own hd3) hs).mono ?_
    rintro e w4 ⟨rfl, hb4⟩
    have hw4 : Below w.heap.size w w4 := hw2.trans ((hb3.trans (hb4.mono hb3.size)).mono hw2.size)
    have hd4 := Rd.ext (Rd.of_own hd3) hb4
    clear hd3
    go_wp2_with fail
    refine (toAccS_any _ _ l _ (hr.ext hw4) hs).mono ?_
    rintro e w5 ⟨rfl, hd5, hb5⟩
    go_wp2_with fail
    refine (eqAccS_any _ _ _ _ l _ (hd4.ext hb5) (Rd.of_own hd5) hs).mono ?_
    rintro e w6 ⟨rfl, hb6⟩
    go_wp2
    go_ret
    exact ⟨rfl, hw4.trans ((hb5.trans (hb6.mono hb5.size)).mono hw4.size)⟩
  · have hsz : Hid (szR 1048576 l.length = -1) := by show _ = _; unfold szR; rw [if_neg (by omega)]
    go_wp2_with (go_at_call 25; refine (szAccS_any _ _ _ _ _ (by omega) hm).mono ?_; rintro e w' ⟨rfl, rfl⟩; rw [hsz.out])
    go_ret
    exact ⟨rfl, Below.refl _ _⟩
end Go.Proofs.Ytjmkkncjbnohoaa
