/- The walk of FnExactShowSlot. -/
import Derived.Test.YtjmkkncjbnohoaaShw
namespace Go.Proofs.Ytjmkkncjbnohoaa
open Go.RowKit
set_option maxHeartbeats 1000000
set_option linter.unusedVariables false
set_option linter.unusedSimpArgs false
theorem FnExactShowSlot_walk (w : World) (cs : Array Value) (x : gSlt.den) (hx : RdT w gSlt x cs.toList) :
    Calls Try.prog 12 #[.agg cs] w fun e w' => e = .returned (.bool true) ∧ Below w.heap.size w w' := by
  obtain ⟨hcs, _, hroot⟩ := gSlt_cells hx
  generalize Slt.of x = s at hcs hroot
  clear hx
  obtain ⟨cs⟩ := cs
  subst hcs
  have hroot2 := hroot
  unfold maxLen at hroot2
  go_enter Try.func12, Try.ntmps12
  unfold Slt.cells
  go_wp2_with fail
  have BA : Box (w.alloc (.cells [.int .i64 s.seq, .string s.root].toArray 54)) w.heap.size 54 [.int .i64 s.seq, .string s.root] := Box.new w _ _
  have hb0 : Below w.heap.size w (w.alloc (.cells [.int .i64 s.seq, .string s.root].toArray 54)) := (by repeat' first | (with_reducible assumption) | (with_reducible exact Below.refl _ _) | (with_reducible refine Below.drew ?_) | (with_reducible refine below_drewN ?_ _) | (with_reducible refine Below.alloc ?_ ?_ _) | (with_reducible refine Below.setCell ?_ ?_ _) | (simp; done) | (simp; omega) | omega)
  generalize (w.alloc (.cells [.int .i64 s.seq, .string s.root].toArray 54)) = W0 at BA hb0 ⊢
  refine (szSlot_any s _ hroot).mono ?_
  rintro e w1 ⟨z, rfl, hz, hb1⟩
  replace BA := BA.ext hb1
  replace hb0 := hb0.trans (hb1.mono hb0.size)
  clear hb1
  have a0 := BA.cell 0
  have fa0 := BA.frozen 0
  have a1 := BA.cell 1
  have fa1 := BA.frozen 1
  simp only [List.getElem?_cons_succ, List.getElem?_cons_zero] at a0 a1
  by_cases hneg : z < 0
  · go_wp2
    go_ret
    exact ⟨rfl, hb0⟩
  · have hs := hz (by omega)
    go_wp2_with fail
    clear a0 a1 fa0 fa1
    refine (toSlot_any s _).mono ?_
    rintro e w2 ⟨rfl, hb1⟩
    replace BA := BA.ext hb1
    replace hb0 := hb0.trans (hb1.mono hb0.size)
    clear hb1
    go_wp2_with fail
    refine (sShowSlot_any _ _ _ hs).mono ?_
    rintro e w3 ⟨rfl, hb1⟩
    replace BA := BA.ext hb1
    replace hb0 := hb0.trans (hb1.mono hb0.size)
    clear hb1
    have a0 := BA.cell 0
    have fa0 := BA.frozen 0
    have a1 := BA.cell 1
    have fa1 := BA.frozen 1
    simp only [List.getElem?_cons_succ, List.getElem?_cons_zero] at a0 a1
    go_wp2_with fail
    refine (toSlot_any s _).mono ?_
    rintro e w4 ⟨rfl, hb1⟩
    replace hb0 := hb0.trans (hb1.mono hb0.size)
    clear hb1
    go_wp2_with fail
    refine (iShowSlot_any _ _ _ hs).mono ?_
    rintro e w5 ⟨rfl, hb1⟩
    replace hb0 := hb0.trans (hb1.mono hb0.size)
    go_wp2
    go_ret
    exact ⟨rfl, hb0⟩
end Go.Proofs.Ytjmkkncjbnohoaa
