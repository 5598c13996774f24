/- The walk of FnExactTotalOf. -/
import Derived.Test.YtjmkkncjbnohoaaTot
import Derived.Test.YtjmkkncjbnohoaaAcTo
namespace Go.Proofs.Ytjmkkncjbnohoaa
open Go.RowKit
set_option maxHeartbeats 400000
set_option linter.unusedVariables false
set_option linter.unusedSimpArgs false
theorem FnExactTotalOf_walk (w : World) (v : Value) (x : (GT.sl 75 gAcc).den) (hx : RdT w (GT.sl 75 gAcc) x [v]) :
    Calls Try.prog 8 #[v] w fun e w' => e = .returned (.bool true) ∧ Below w.heap.size w w' := by
  obtain ⟨A, c, l, rfl, hlc, hcm, hr⟩ := gAcc_open hx
  clear hx
  have hm : l.length ≤ maxLen := Nat.le_trans hlc hcm
  have hm2 := hm
  unfold maxLen at hm2
  go_enter Try.func8, Try.ntmps8
  by_cases hs : l.length ≤ 1048576
  · have hsz : Hid (szR 1048576 l.length = 1048576 - l.length) := by show _ = _; unfold szR; rw [if_pos (by omega)]
    go_wp2_with fail
    refine (szAccS_any _ _ _ _ _ (by omega) hm).mono ?_
    rintro e w' ⟨rfl, rfl⟩
    rw [hsz.out]
    go_wp2_with fail
    refine (toAccS_any _ _ l _ hr hs).mono ?_
    rintro e w1 ⟨rfl, hd1, hb1⟩
    go_wp2_with fail
    refine (sTotalOf_any _ _ l _ (Rd.of_own hd1) hs).mono ?_
    rintro e w2 ⟨rfl, hb2⟩
    have hw2 : Below w.heap.size w w2 := hb1.trans (hb2.mono hb1.size)
    clear hd1
    obtain ⟨⟨t0, t1, t2, t3, t4⟩, ht⟩ : ∃ t, t = totAll l l.length := ⟨_, rfl⟩
    have HT := Lib.hid ht; clear ht
    rw [← HT.out]
    simp only [Acc.cells]
    go_wp2_with fail
    have hX : Box (w2.alloc (.cells #[.int .i64 t0, .int .i64 t1, .int .i64 t2, .int .i64 t3, .int .i64 t4] 30)) w2.heap.size 30 [.int .i64 t0, .int .i64 t1, .int .i64 t2, .int .i64 t3, .int .i64 t4] := Box.new _ _ _
    have hc3 := toAccS_any A c l _ ((hr.ext hw2).alloc (.cells #[.int .i64 t0, .int .i64 t1, .int .i64 t2, .int .i64 t3, .int .i64 t4] 30)) hs
    refine hc3.mono ?_
    clear hc3
    rintro e w3 ⟨rfl, hd3, hb3⟩
    rw [size_al] at hd3
    have hX3 := hX.ext hb3
    have hw3 : Below w.heap.size w w3 := (hw2.alloc hw2.size _).trans (hb3.mono (by have := hw2.size; simp; omega))
    clear hX
    go_wp2_with fail
    refine (iTotalOf_any _ _ l _ (Rd.of_own hd3) hs).mono ?_
    rintro e w4 ⟨rfl, hb4⟩
    have hw4 : Below w.heap.size w w4 := hw3.trans (hb4.mono hw3.size)
    have hd4 := Rd.ext (Rd.of_own hd3) hb4
    have hX4 := hX3.ext hb4
    clear hd3 hX3
    rw [← HT.out]
    simp only [Acc.cells]
    have hlt4 := hX4.lt
    have b0 := hX4.cell 0
    have f0 := hX4.frozen 0
    have b1 := hX4.cell 1
    have f1 := hX4.frozen 1
    have b2 := hX4.cell 2
    have f2 := hX4.frozen 2
    have b3 := hX4.cell 3
    have f3 := hX4.frozen 3
    have b4 := hX4.cell 4
    have f4 := hX4.frozen 4
    simp only [List.getElem?_cons_succ, List.getElem?_cons_zero] at b0 b1 b2 b3 b4
    go_wp2_with fail
    refine (eqAcc_any ⟨t0, t1, t2, t3, t4⟩ ⟨t0, t1, t2, t3, t4⟩ _ rfl).mono ?_
    rintro e w5 ⟨rfl, hb5⟩
    have hw5 : Below w.heap.size w w5 := (hw4.alloc hw4.size _).trans (hb5.mono (by have := hw4.size; simp; omega))
    have hd5 := Rd.ext (hd4.alloc _) hb5
    go_wp2_with fail
    refine (toAccS_any _ _ l _ (hr.ext hw5) hs).mono ?_
    rintro e w6 ⟨rfl, hd6, hb6⟩
    go_wp2_with fail
    refine (eqAccS_any _ _ _ _ l _ (hd5.ext hb6) (Rd.of_own hd6) hs).mono ?_
    rintro e w7 ⟨rfl, hb7⟩
    go_wp2
    go_ret
    exact ⟨rfl, hw5.trans ((hb6.trans (hb7.mono hb6.size)).mono hw5.size)⟩
  · have hsz : Hid (szR 1048576 l.length = -1) := by show _ = _; unfold szR; rw [if_neg (by omega)]
    go_wp2_with (go_at_call 25; refine (szAccS_any _ _ _ _ _ (by omega) hm).mono ?_; rintro e w' ⟨rfl, rfl⟩; rw [hsz.out])
    go_ret
    exact ⟨rfl, Below.refl _ _⟩
end Go.Proofs.Ytjmkkncjbnohoaa
