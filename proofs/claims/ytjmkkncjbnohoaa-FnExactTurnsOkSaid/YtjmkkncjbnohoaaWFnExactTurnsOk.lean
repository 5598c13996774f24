/- The walk of FnExactTurnsOk. -/
import Derived.Test.YtjmkkncjbnohoaaTu2
import Derived.Test.YtjmkkncjbnohoaaTuTo
import Derived.Deep.RegionHeld3
namespace Go.Proofs.Ytjmkkncjbnohoaa
open Go.RowKit
set_option maxHeartbeats 1000000
set_option linter.unusedVariables false
set_option linter.unusedSimpArgs false
theorem FnExactTurnsOk_walk (w : World) (cs : Array Value) (x : gTurns.den) (hx : RdT w gTurns x cs.toList) :
    Calls Try.prog 10 #[.agg cs] w fun e w' => e = .returned (.bool true) ∧ Below w.heap.size w w' := by
  obtain ⟨t, ht, m1, m2, m3⟩ := gTurns_open hx
  clear hx
  obtain ⟨A1, A2, A3, c1, c2, c3, hcs, h1, h2, h3⟩ := id ht
  obtain ⟨cs⟩ := cs
  subst hcs
  clear h1 h2 h3
  go_enter Try.func10, Try.ntmps10
  go_wp2_with fail
  have BA : Box (w.alloc (.cells [.slice A1 t.W.length c1, .slice A2 t.L.length c2, .slice A3 t.T.length c3, .int .i64 t.pos].toArray 40)) w.heap.size 40 _ := Box.new w _ _
  have hb0 : Below w.heap.size w (w.alloc (.cells [.slice A1 t.W.length c1, .slice A2 t.L.length c2, .slice A3 t.T.length c3, .int .i64 t.pos].toArray 40)) := (by repeat' first | (with_reducible assumption) | (with_reducible exact Below.refl _ _) | (with_reducible refine Below.drew ?_) | (with_reducible refine below_drewN ?_ _) | (with_reducible refine Below.alloc ?_ ?_ _) | (with_reducible refine Below.setCell ?_ ?_ _) | (simp; done) | (simp; omega) | omega)
  have hz0 : w.heap.size + 1 ≤ (w.alloc (.cells [.slice A1 t.W.length c1, .slice A2 t.L.length c2, .slice A3 t.T.length c3, .int .i64 t.pos].toArray 40)).heap.size := by rw [size_al]; exact Nat.le_refl _
  generalize (w.alloc (.cells [.slice A1 t.W.length c1, .slice A2 t.L.length c2, .slice A3 t.T.length c3, .int .i64 t.pos].toArray 40)) = W0 at BA hb0 hz0 ⊢
  refine (szTurns_any _ t _ (ht.ext hb0) m1 m2 m3).mono ?_
  rintro e w1 ⟨r, rfl, hr, hb1⟩
  have hx1 : Below w.heap.size w w1 := hb0.trans (hb1.mono hb0.size)
  replace BA := BA.ext hb1
  have hz1 : w.heap.size + 1 ≤ w1.heap.size := Nat.le_trans hz0 hb1.size
  clear hb1
  have a0 := BA.cell 0
  have fa0 := BA.frozen 0
  have a1 := BA.cell 1
  have fa1 := BA.frozen 1
  have a2 := BA.cell 2
  have fa2 := BA.frozen 2
  have a3 := BA.cell 3
  have fa3 := BA.frozen 3
  simp only [List.getElem?_cons_succ, List.getElem?_cons_zero] at a0 a1 a2 a3
  by_cases hneg : r < 0
  · go_wp2
    go_ret
    exact ⟨rfl, hx1⟩
  · have hs := hr (by omega)
    go_wp2_with fail
    clear a0 a1 a2 a3 fa0 fa1 fa2 fa3
    refine (toTurns_any _ t _ (ht.ext hx1) hs).mono ?_
    rintro e w2 ⟨cs2, rfl, o2, hb2⟩
    have hx2 : Below w.heap.size w w2 := hx1.trans (hb2.mono hx1.size)
    replace BA := BA.ext hb2
    have hz2 : w.heap.size + 1 ≤ w2.heap.size := Nat.le_trans hz1 hb2.size
    clear hb2
    go_wp2_with fail
    refine (sTurnsOk_any _ t _ o2.rd hs).mono ?_
    rintro e w3 ⟨rfl, hb3⟩
    have hx3 : Below w.heap.size w w3 := hx2.trans (hb3.mono hx2.size)
    replace BA := BA.ext hb3
    have hz3 : w.heap.size + 1 ≤ w3.heap.size := Nat.le_trans hz2 hb3.size
    clear hb3 o2
    have a0 := BA.cell 0
    have fa0 := BA.frozen 0
    have a1 := BA.cell 1
    have fa1 := BA.frozen 1
    have a2 := BA.cell 2
    have fa2 := BA.frozen 2
    have a3 := BA.cell 3
    have fa3 := BA.frozen 3
    simp only [List.getElem?_cons_succ, List.getElem?_cons_zero] at a0 a1 a2 a3
    go_wp2_with fail
    clear a0 a1 a2 a3 fa0 fa1 fa2 fa3
    refine (toTurns_any _ t _ (ht.ext hx3) hs).mono ?_
    rintro e w4 ⟨cs4, rfl, o4, hb4⟩
    have hx4 : Below w.heap.size w w4 := hx3.trans (hb4.mono hx3.size)
    replace BA := BA.ext hb4
    have hz4 : w.heap.size + 1 ≤ w4.heap.size := Nat.le_trans hz3 hb4.size
    clear hb4
    have r4 := o4.rd
    obtain ⟨B1, B2, B3, d1, d2, d3, rfl, k1, k2, k3⟩ := id r4
    clear k1 k2 k3
    go_wp2_with fail
    have BG := Box.new w4 43 [.slice B1 t.W.length d1, .slice B2 t.L.length d2, .slice B3 t.T.length d3, .int .i64 t.pos]
    replace BA := BA.alloc (.cells [.slice B1 t.W.length d1, .slice B2 t.L.length d2, .slice B3 t.T.length d3, .int .i64 t.pos].toArray 43)
    have hb5 : Below w4.heap.size w4 (w4.alloc (.cells [.slice B1 t.W.length d1, .slice B2 t.L.length d2, .slice B3 t.T.length d3, .int .i64 t.pos].toArray 43)) := (by repeat' first | (with_reducible assumption) | (with_reducible exact Below.refl _ _) | (with_reducible refine Below.drew ?_) | (with_reducible refine below_drewN ?_ _) | (with_reducible refine Below.alloc ?_ ?_ _) | (with_reducible refine Below.setCell ?_ ?_ _) | (simp; done) | (simp; omega) | omega)
    have hz5 : w4.heap.size + 1 ≤ (w4.alloc (.cells [.slice B1 t.W.length d1, .slice B2 t.L.length d2, .slice B3 t.T.length d3, .int .i64 t.pos].toArray 43)).heap.size := by rw [size_al]; exact Nat.le_refl _
    generalize (w4.alloc (.cells [.slice B1 t.W.length d1, .slice B2 t.L.length d2, .slice B3 t.T.length d3, .int .i64 t.pos].toArray 43)) = W5 at BA BG hb5 hz5 ⊢
    have r5 := r4.ext hb5
    have hx5 : Below w.heap.size w W5 := hx4.trans (hb5.mono hx4.size)
    refine (iTurnsOk_any _ t _ r5 hs).mono ?_
    rintro e w6 ⟨rfl, hb6⟩
    have hx6 : Below w.heap.size w w6 := hx5.trans (hb6.mono hx5.size)
    replace BA := BA.ext hb6
    replace BG := BG.ext hb6
    have r6 := r5.ext hb6
    have ha6 : TnV w6 _ t := ht.ext hx6
    have hz6 : w.heap.size + 1 ≤ w6.heap.size := Nat.le_trans hz4 (Nat.le_trans (Nat.le_trans (Nat.le_succ _) hz5) hb6.size)
    have hz7 : w4.heap.size + 1 ≤ w6.heap.size := Nat.le_trans hz5 hb6.size
    clear hb6 hb5 r4 r5
    have a0 := BA.cell 0
    have fa0 := BA.frozen 0
    have a1 := BA.cell 1
    have fa1 := BA.frozen 1
    have a2 := BA.cell 2
    have fa2 := BA.frozen 2
    have a3 := BA.cell 3
    have fa3 := BA.frozen 3
    have g0 := BG.cell 0
    have fg0 := BG.frozen 0
    have g1 := BG.cell 1
    have fg1 := BG.frozen 1
    have g2 := BG.cell 2
    have fg2 := BG.frozen 2
    have g3 := BG.cell 3
    have fg3 := BG.frozen 3
    simp only [List.getElem?_cons_succ, List.getElem?_cons_zero] at a0 a1 a2 a3 g0 g1 g2 g3
    go_wp2_with fail
    have hb6' : Below w6.heap.size w6 w6.drew := Below.drew (Below.refl _ _)
    have BG' := BG.ext hb6'
    have hx6' := hx6.trans (hb6'.mono hx6.size)
    go_region_with (first
      | (go_at_call 35
         refine (toTurns_any _ t _ (ha6.ext hb6') hs).mono ?_
         rintro e w7 ⟨cs7, rfl, o7, hb7⟩
         replace BG' := BG'.ext hb7
         have hb7' := hb6'.trans (hb7.mono hb6'.size)
         have q0 := BG'.cell 0
         have q1 := BG'.cell 1
         have q2 := BG'.cell 2
         have q3 := BG'.cell 3
         have y0 := BG'.frozen 0
         have y1 := BG'.frozen 1
         have y2 := BG'.frozen 2
         have y3 := BG'.frozen 3
         simp only [List.getElem?_cons_succ, List.getElem?_cons_zero] at q0 q1 q2 q3)
      | (go_at_call 37
         refine (eqTurns_any _ _ t _ (r6.ext hb7') o7.rd hs).mono ?_
         rintro e w8 ⟨rfl, hb8⟩
         have hx8 : Below w.heap.size w w8 := hx6.trans ((hb7'.trans (hb8.mono hb7'.size)).mono hx6.size)))
    all_goals go_wp2
    all_goals go_ret
    all_goals exact ⟨rfl, hx8⟩
end Go.Proofs.Ytjmkkncjbnohoaa
