/- Turns: size, copy, comparison, marks. -/
import Derived.Test.YtjmkkncjbnohoaaTu
namespace Go.Proofs.Ytjmkkncjbnohoaa
open Go.RowKit
set_option maxHeartbeats 1000000
set_option linter.unusedVariables false
set_option linter.unusedSimpArgs false
abbrev gTurns : GT := .st [.sl 3 .int, .sl 3 .int, .sl 3 .int, .int]
theorem gTurns_open {w : World} {cs : List Value} {x : gTurns.den} (hx : RdT w gTurns x cs) : ∃ t : Tn, TnV w cs t ∧ t.W.length ≤ maxLen ∧ t.L.length ≤ maxLen ∧ t.T.length ≤ maxLen := by
  obtain ⟨W, L, T, p, u⟩ := x
  obtain ⟨_, _, rfl, h1, q⟩ := RdTL.cons.1 (RdT.st.1 hx)
  obtain ⟨_, _, rfl, h2, q⟩ := RdTL.cons.1 q
  obtain ⟨_, _, rfl, h3, q⟩ := RdTL.cons.1 q
  obtain ⟨_, _, rfl, h4, q⟩ := RdTL.cons.1 q
  obtain rfl := RdTL.nil.1 q
  obtain ⟨A1, c1, u1, rfl, a1, b1, r1, t1⟩ := RdT.sl.1 h1
  obtain ⟨A2, c2, u2, rfl, a2, b2, r2, t2⟩ := RdT.sl.1 h2
  obtain ⟨A3, c3, u3, rfl, a3, b3, r3, t3⟩ := RdT.sl.1 h3
  obtain ⟨rfl, _⟩ := RdT.int.1 h4
  obtain ⟨rfl, _⟩ := RdTs_int t1
  obtain ⟨rfl, _⟩ := RdTs_int t2
  obtain ⟨rfl, _⟩ := RdTs_int t3
  exact ⟨⟨W, L, T, p⟩, ⟨A1, A2, A3, c1, c2, c3, rfl, r1, r2, r3⟩, Nat.le_trans a1 b1, Nat.le_trans a2 b2, Nat.le_trans a3 b3⟩
theorem szQ_le {left : Int} {n : Nat} (h : (n : Int) ≤ left) : szQ left n = left - n := by unfold szQ; rw [if_pos h]
theorem szQ_gt {left : Int} {n : Nat} (h : ¬ (n : Int) ≤ left) : szQ left n = -1 := by unfold szQ; rw [if_neg h]
theorem szTurns_any (cs : List Value) (t : Tn) (w : World) (h : TnV w cs t) (m1 : t.W.length ≤ maxLen) (m2 : t.L.length ≤ maxLen) (m3 : t.T.length ≤ maxLen) :
    Calls Try.prog 33 #[.agg cs.toArray, .int .i64 1048576] w fun e w' => ∃ r : Int, e = .returned (.int .i64 r) ∧ (0 ≤ r → t.small) ∧ Below w.heap.size w w' := by
  obtain ⟨A1, A2, A3, c1, c2, c3, rfl, h1, h2, h3⟩ := h
  have n1 := m1; have n2 := m2; have n3 := m3
  unfold maxLen at n1 n2 n3
  go_enter Try.func33, Try.ntmps33
  by_cases q1 : (t.W.length : Int) ≤ 1048576
  · by_cases q2 : (t.L.length : Int) ≤ 1048576 - t.W.length
    · by_cases q3 : (t.T.length : Int) ≤ 1048576 - t.W.length - t.L.length
      · have z1 := Lib.hid (szQ_le q1); have z2 := Lib.hid (szQ_le q2); have z3 := Lib.hid (szQ_le q3)
        go_wp2_with fail
        refine (szIntS_any _ _ _ _ _ (by omega) m1).mono ?_
        rintro e w' ⟨rfl, rfl⟩
        rw [z1.out]
        go_wp2_with fail
        refine (szIntS_any _ _ _ _ _ (by omega) m2).mono ?_
        rintro e w' ⟨rfl, rfl⟩
        rw [z2.out]
        go_wp2_with fail
        refine (szIntS_any _ _ _ _ _ (by omega) m3).mono ?_
        rintro e w' ⟨rfl, rfl⟩
        rw [z3.out]
        go_wp2
        go_ret
        exact ⟨_, rfl, fun _ => ⟨by omega, by omega, by omega⟩, (by repeat' first | (with_reducible assumption) | (with_reducible exact Below.refl _ _) | (with_reducible refine Below.drew ?_) | (with_reducible refine below_drewN ?_ _) | (with_reducible refine Below.alloc ?_ ?_ _) | (with_reducible refine Below.setCell ?_ ?_ _) | (simp; done) | (simp; omega) | omega)⟩
      · have z1 := Lib.hid (szQ_le q1); have z2 := Lib.hid (szQ_le q2); have z3 := Lib.hid (szQ_gt q3)
        go_wp2_with fail
        refine (szIntS_any _ _ _ _ _ (by omega) m1).mono ?_
        rintro e w' ⟨rfl, rfl⟩
        rw [z1.out]
        go_wp2_with fail
        refine (szIntS_any _ _ _ _ _ (by omega) m2).mono ?_
        rintro e w' ⟨rfl, rfl⟩
        rw [z2.out]
        go_wp2_with fail
        refine (szIntS_any _ _ _ _ _ (by omega) m3).mono ?_
        rintro e w' ⟨rfl, rfl⟩
        rw [z3.out]
        go_wp2
        go_ret
        exact ⟨_, rfl, fun h => absurd h (by simp), (by repeat' first | (with_reducible assumption) | (with_reducible exact Below.refl _ _) | (with_reducible refine Below.drew ?_) | (with_reducible refine below_drewN ?_ _) | (with_reducible refine Below.alloc ?_ ?_ _) | (with_reducible refine Below.setCell ?_ ?_ _) | (simp; done) | (simp; omega) | omega)⟩
    · have z1 := Lib.hid (szQ_le q1); have z2 := Lib.hid (szQ_gt q2)
      go_wp2_with fail
      refine (szIntS_any _ _ _ _ _ (by omega) m1).mono ?_
      rintro e w' ⟨rfl, rfl⟩
      rw [z1.out]
      go_wp2_with fail
      refine (szIntS_any _ _ _ _ _ (by omega) m2).mono ?_
      rintro e w' ⟨rfl, rfl⟩
      rw [z2.out]
      go_wp2
      go_ret
      exact ⟨_, rfl, fun h => absurd h (by simp), (by repeat' first | (with_reducible assumption) | (with_reducible exact Below.refl _ _) | (with_reducible refine Below.drew ?_) | (with_reducible refine below_drewN ?_ _) | (with_reducible refine Below.alloc ?_ ?_ _) | (with_reducible refine Below.setCell ?_ ?_ _) | (simp; done) | (simp; omega) | omega)⟩
  · have z1 := Lib.hid (szQ_gt q1)
    go_wp2_with fail
    refine (szIntS_any _ _ _ _ _ (by omega) m1).mono ?_
    rintro e w' ⟨rfl, rfl⟩
    rw [z1.out]
    go_wp2
    go_ret
    exact ⟨_, rfl, fun h => absurd h (by simp), (by repeat' first | (with_reducible assumption) | (with_reducible exact Below.refl _ _) | (with_reducible refine Below.drew ?_) | (with_reducible refine below_drewN ?_ _) | (with_reducible refine Below.alloc ?_ ?_ _) | (with_reducible refine Below.setCell ?_ ?_ _) | (simp; done) | (simp; omega) | omega)⟩
theorem eqTurns_any (cs ds : List Value) (t : Tn) (w : World) (h : TnV w cs t) (k : TnV w ds t) (hs : t.small) :
    Calls Try.prog 37 #[.agg cs.toArray, .agg ds.toArray] w fun e w' => e = .returned (.bool true) ∧ Below w.heap.size w w' := by
  obtain ⟨A1, A2, A3, c1, c2, c3, rfl, h1, h2, h3⟩ := h
  obtain ⟨B1, B2, B3, d1, d2, d3, rfl, k1, k2, k3⟩ := k
  obtain ⟨s1, s2, s3⟩ := hs
  go_enter Try.func37, Try.ntmps37
  go_wp2_with fail
  refine (eqIntS_any A1 B1 _ _ t.W _ ((h1.alloc _).alloc _) ((k1.alloc _).alloc _) s1).mono ?_
  rintro e w' ⟨rfl, n1, rfl⟩
  go_wp2_with fail
  refine (eqIntS_any A2 B2 _ _ t.L _ (((h2.alloc _).alloc _).drewN _) (((k2.alloc _).alloc _).drewN _) s2).mono ?_
  rintro e w' ⟨rfl, n2, rfl⟩
  go_wp2_with fail
  refine (eqIntS_any A3 B3 _ _ t.T _ (((h3.alloc _).alloc _).drewN _) (((k3.alloc _).alloc _).drewN _) s3).mono ?_
  rintro e w' ⟨rfl, n3, rfl⟩
  go_wp2
  go_ret
  exact ⟨rfl, (by repeat' first | (with_reducible assumption) | (with_reducible exact Below.refl _ _) | (with_reducible refine Below.drew ?_) | (with_reducible refine below_drewN ?_ _) | (with_reducible refine Below.alloc ?_ ?_ _) | (with_reducible refine Below.setCell ?_ ?_ _) | (simp; done) | (simp; omega) | omega)⟩
def Dj (A B : Option Addr) : Prop := ∀ k, blk A = some k → blk B ≠ some k
/-- Turns that the call made, its three rows in three blocks. -/
def TnO (w : World) (base : Nat) (cs : List Value) (t : Tn) : Prop := ∃ (A1 A2 A3 : Option Addr) (c1 c2 c3 : Nat), cs = [.slice A1 t.W.length c1, .slice A2 t.L.length c2, .slice A3 t.T.length c3, .int .i64 t.pos] ∧
  Own w base 3 1 A1 t.W.length c1 (ints t.W) ∧ Own w base 3 1 A2 t.L.length c2 (ints t.L) ∧ Own w base 3 1 A3 t.T.length c3 (ints t.T) ∧ Dj A1 A2 ∧ Dj A1 A3 ∧ Dj A2 A3
theorem TnO.rd {w : World} {base : Nat} {cs : List Value} {t : Tn} (h : TnO w base cs t) : TnV w cs t := by
  obtain ⟨A1, A2, A3, c1, c2, c3, e, h1, h2, h3, _⟩ := h
  exact ⟨A1, A2, A3, c1, c2, c3, e, Rd.of_own h1, Rd.of_own h2, Rd.of_own h3⟩
theorem TnO.ext {w w' : World} {base : Nat} {cs : List Value} {t : Tn} (h : TnO w base cs t) (hb : Below w.heap.size w w') : TnO w' base cs t := by
  obtain ⟨A1, A2, A3, c1, c2, c3, e, h1, h2, h3, d⟩ := h
  exact ⟨A1, A2, A3, c1, c2, c3, e, Own.ext h1 hb, Own.ext h2 hb, Own.ext h3 hb, d⟩
theorem Own.base {w : World} {base base' e size n c : Nat} {A : Option Addr} {us : List Value} (h : Own w base e size A n c us) (hb : base' ≤ base) : Own w base' e size A n c us := by
  refine ⟨h.1, ?_⟩
  rcases h.2 with h | ⟨g, cap, cur, hv, hbg, r⟩
  · exact .inl h
  · exact .inr ⟨g, cap, cur, hv, Nat.le_trans hb hbg, r⟩
theorem Own.setCell {w : World} {base e size n c : Nat} {A : Option Addr} {us : List Value} (h : Own w base e size A n c us) {p : Addr} (hp : p.block < base) (u : Value) : Own (w.setCell p u) base e size A n c us :=
  ownsRow_setCell_below h hp u
theorem toTurns_any (cs : List Value) (t : Tn) (w : World) (h : TnV w cs t) (hs : t.small) :
    Calls Try.prog 35 #[.agg cs.toArray] w fun e w' => ∃ cs' : List Value, e = .returned (.agg cs'.toArray) ∧ TnO w' w.heap.size cs' t ∧ Below w.heap.size w w' := by
  obtain ⟨A1, A2, A3, c1, c2, c3, rfl, h1, h2, h3⟩ := h
  obtain ⟨s1, s2, s3⟩ := hs
  go_enter Try.func35, Try.ntmps35
  go_wp2_with fail
  have BA : Box (((w.alloc (.cells [.slice A1 t.W.length c1, .slice A2 t.L.length c2, .slice A3 t.T.length c3, .int .i64 t.pos].toArray 40)).alloc (.cells [.slice none 0 0, .slice none 0 0, .slice none 0 0, .int .i64 0].toArray 43)).alloc (.cells [.slice none 0 0, .slice none 0 0, .slice none 0 0, .int .i64 0].toArray 43)) w.heap.size 40 _ := ((Box.new w _ _).alloc _).alloc _
  have BR := (Box.new1 w (.cells [.slice A1 t.W.length c1, .slice A2 t.L.length c2, .slice A3 t.T.length c3, .int .i64 t.pos].toArray 40) 43 [.slice none 0 0, .slice none 0 0, .slice none 0 0, .int .i64 0]).alloc (.cells [.slice none 0 0, .slice none 0 0, .slice none 0 0, .int .i64 0].toArray 43)
  have BO := Box.new ((w.alloc (.cells [.slice A1 t.W.length c1, .slice A2 t.L.length c2, .slice A3 t.T.length c3, .int .i64 t.pos].toArray 40)).alloc (.cells [.slice none 0 0, .slice none 0 0, .slice none 0 0, .int .i64 0].toArray 43)) 43 [.slice none 0 0, .slice none 0 0, .slice none 0 0, .int .i64 0]
  rw [size_al, size_al] at BO
  have hb0 : Below w.heap.size w (((w.alloc (.cells [.slice A1 t.W.length c1, .slice A2 t.L.length c2, .slice A3 t.T.length c3, .int .i64 t.pos].toArray 40)).alloc (.cells [.slice none 0 0, .slice none 0 0, .slice none 0 0, .int .i64 0].toArray 43)).alloc (.cells [.slice none 0 0, .slice none 0 0, .slice none 0 0, .int .i64 0].toArray 43)) := (by repeat' first | (with_reducible assumption) | (with_reducible exact Below.refl _ _) | (with_reducible refine Below.drew ?_) | (with_reducible refine below_drewN ?_ _) | (with_reducible refine Below.alloc ?_ ?_ _) | (with_reducible refine Below.setCell ?_ ?_ _) | (simp; done) | (simp; omega) | omega)
  generalize hW0 : (((w.alloc (.cells [.slice A1 t.W.length c1, .slice A2 t.L.length c2, .slice A3 t.T.length c3, .int .i64 t.pos].toArray 40)).alloc (.cells [.slice none 0 0, .slice none 0 0, .slice none 0 0, .int .i64 0].toArray 43)).alloc (.cells [.slice none 0 0, .slice none 0 0, .slice none 0 0, .int .i64 0].toArray 43)) = W0 at BA BR BO hb0 ⊢
  have hz0 : w.heap.size + 3 ≤ W0.heap.size := by rw [← hW0, size_al, size_al, size_al]; omega
  clear hW0
  refine (toIntS_any _ _ t.W W0 (h1.ext hb0) s1).mono ?_
  rintro e w1 ⟨rfl, o1, hb1⟩
  have hx1 : Below w.heap.size w w1 := hb0.trans (hb1.mono hb0.size)
  replace BA := BA.ext hb1
  replace BR := BR.ext hb1
  replace BO := BO.ext hb1
  have hz1 : w.heap.size + 3 ≤ w1.heap.size := Nat.le_trans (by omega) hb1.size
  clear hb1
  have a0 := BA.cell 0
  have fa0 := BA.frozen 0
  have a1 := BA.cell 1
  have fa1 := BA.frozen 1
  have a2 := BA.cell 2
  have fa2 := BA.frozen 2
  have a3 := BA.cell 3
  have fa3 := BA.frozen 3
  have r0 := BR.cell 0
  have fr0 := BR.frozen 0
  have r1 := BR.cell 1
  have fr1 := BR.frozen 1
  have r2 := BR.cell 2
  have fr2 := BR.frozen 2
  have r3 := BR.cell 3
  have fr3 := BR.frozen 3
  have o_0 := BO.cell 0
  have fo0 := BO.frozen 0
  have o_1 := BO.cell 1
  have fo1 := BO.frozen 1
  have o_2 := BO.cell 2
  have fo2 := BO.frozen 2
  have o_3 := BO.cell 3
  have fo3 := BO.frozen 3
  simp only [List.getElem?_cons_succ, List.getElem?_cons_zero] at a0 a1 a2 a3 r0 r1 r2 r3 o_0 o_1 o_2 o_3
  go_wp2_with fail
  clear a0 a1 a2 a3 r0 r1 r2 r3 o_0 o_1 o_2 o_3 fa0 fa1 fa2 fa3 fr0 fr1 fr2 fr3 fo0 fo1 fo2 fo3
  have hb01 : Below w.heap.size w (w1.setCell ⟨w.heap.size + 1 + 1, 0, none⟩ (.slice (some ⟨W0.heap.size, 0, none⟩) t.W.length t.W.length)) := hx1.setCell (by simp; omega) _
  replace BA := BA.far (p := ⟨w.heap.size + 1 + 1, 0, none⟩) (by simp; omega) (.slice (some ⟨W0.heap.size, 0, none⟩) t.W.length t.W.length)
  replace BR := BR.far (p := ⟨w.heap.size + 1 + 1, 0, none⟩) (by simp) (.slice (some ⟨W0.heap.size, 0, none⟩) t.W.length t.W.length)
  replace BO := BO.set_ 0 (.slice (some ⟨W0.heap.size, 0, none⟩) t.W.length t.W.length)
  replace o1 := Own.setCell o1 (p := ⟨w.heap.size + 1 + 1, 0, none⟩) (by simp; omega) (.slice (some ⟨W0.heap.size, 0, none⟩) t.W.length t.W.length)
  have hw1 : w.heap.size + 3 ≤ (w1.setCell ⟨w.heap.size + 1 + 1, 0, none⟩ (.slice (some ⟨W0.heap.size, 0, none⟩) t.W.length t.W.length)).heap.size ∧ W0.heap.size < (w1.setCell ⟨w.heap.size + 1 + 1, 0, none⟩ (.slice (some ⟨W0.heap.size, 0, none⟩) t.W.length t.W.length)).heap.size := by
    have := (Own.lt o1 _ rfl).2
    exact ⟨by simp [World.setCell]; omega, this⟩
  generalize (w1.setCell ⟨w.heap.size + 1 + 1, 0, none⟩ (.slice (some ⟨W0.heap.size, 0, none⟩) t.W.length t.W.length)) = W1 at BA BR BO hb01 hw1 o1 ⊢
  refine (toIntS_any _ _ t.L W1 (h2.ext hb01) s2).mono ?_
  rintro e w2 ⟨rfl, o2, hb2⟩
  have hx2 : Below w.heap.size w w2 := hb01.trans (hb2.mono hb01.size)
  replace BA := BA.ext hb2
  replace BR := BR.ext hb2
  replace BO := BO.ext hb2
  replace o1 := Own.ext o1 hb2
  have hz2 : w.heap.size + 3 ≤ w2.heap.size := Nat.le_trans (by omega) hb2.size
  clear hb2
  have a0 := BA.cell 0
  have fa0 := BA.frozen 0
  have a1 := BA.cell 1
  have fa1 := BA.frozen 1
  have a2 := BA.cell 2
  have fa2 := BA.frozen 2
  have a3 := BA.cell 3
  have fa3 := BA.frozen 3
  have r0 := BR.cell 0
  have fr0 := BR.frozen 0
  have r1 := BR.cell 1
  have fr1 := BR.frozen 1
  have r2 := BR.cell 2
  have fr2 := BR.frozen 2
  have r3 := BR.cell 3
  have fr3 := BR.frozen 3
  have o_0 := BO.cell 0
  have fo0 := BO.frozen 0
  have o_1 := BO.cell 1
  have fo1 := BO.frozen 1
  have o_2 := BO.cell 2
  have fo2 := BO.frozen 2
  have o_3 := BO.cell 3
  have fo3 := BO.frozen 3
  simp only [List.getElem?_cons_succ, List.getElem?_cons_zero, List.set_cons_zero, List.set_cons_succ] at a0 a1 a2 a3 r0 r1 r2 r3 o_0 o_1 o_2 o_3
  go_wp2_with fail
  clear a0 a1 a2 a3 r0 r1 r2 r3 o_0 o_1 o_2 o_3 fa0 fa1 fa2 fa3 fr0 fr1 fr2 fr3 fo0 fo1 fo2 fo3
  have hb02 : Below w.heap.size w (w2.setCell ⟨w.heap.size + 1 + 1, 1, none⟩ (.slice (some ⟨W1.heap.size, 0, none⟩) t.L.length t.L.length)) := hx2.setCell (by simp; omega) _
  replace BA := BA.far (p := ⟨w.heap.size + 1 + 1, 1, none⟩) (by simp; omega) (.slice (some ⟨W1.heap.size, 0, none⟩) t.L.length t.L.length)
  replace BR := BR.far (p := ⟨w.heap.size + 1 + 1, 1, none⟩) (by simp) (.slice (some ⟨W1.heap.size, 0, none⟩) t.L.length t.L.length)
  replace BO := BO.set_ 1 (.slice (some ⟨W1.heap.size, 0, none⟩) t.L.length t.L.length)
  replace o1 := Own.setCell o1 (p := ⟨w.heap.size + 1 + 1, 1, none⟩) (by simp; omega) (.slice (some ⟨W1.heap.size, 0, none⟩) t.L.length t.L.length)
  replace o2 := Own.setCell o2 (p := ⟨w.heap.size + 1 + 1, 1, none⟩) (by simp; omega) (.slice (some ⟨W1.heap.size, 0, none⟩) t.L.length t.L.length)
  have hw2 : w.heap.size + 3 ≤ (w2.setCell ⟨w.heap.size + 1 + 1, 1, none⟩ (.slice (some ⟨W1.heap.size, 0, none⟩) t.L.length t.L.length)).heap.size ∧ W1.heap.size < (w2.setCell ⟨w.heap.size + 1 + 1, 1, none⟩ (.slice (some ⟨W1.heap.size, 0, none⟩) t.L.length t.L.length)).heap.size := by
    have := (Own.lt o2 _ rfl).2
    exact ⟨by simp [World.setCell]; omega, this⟩
  generalize (w2.setCell ⟨w.heap.size + 1 + 1, 1, none⟩ (.slice (some ⟨W1.heap.size, 0, none⟩) t.L.length t.L.length)) = W2 at BA BR BO hb02 hw2 o1 o2 ⊢
  refine (toIntS_any _ _ t.T W2 (h3.ext hb02) s3).mono ?_
  rintro e w3 ⟨rfl, o3, hb3⟩
  have hx3 : Below w.heap.size w w3 := hb02.trans (hb3.mono hb02.size)
  replace BA := BA.ext hb3
  replace BR := BR.ext hb3
  replace BO := BO.ext hb3
  replace o1 := Own.ext o1 hb3
  replace o2 := Own.ext o2 hb3
  have hz3 : w.heap.size + 3 ≤ w3.heap.size := Nat.le_trans (by omega) hb3.size
  clear hb3
  have a0 := BA.cell 0
  have fa0 := BA.frozen 0
  have a1 := BA.cell 1
  have fa1 := BA.frozen 1
  have a2 := BA.cell 2
  have fa2 := BA.frozen 2
  have a3 := BA.cell 3
  have fa3 := BA.frozen 3
  have r0 := BR.cell 0
  have fr0 := BR.frozen 0
  have r1 := BR.cell 1
  have fr1 := BR.frozen 1
  have r2 := BR.cell 2
  have fr2 := BR.frozen 2
  have r3 := BR.cell 3
  have fr3 := BR.frozen 3
  have o_0 := BO.cell 0
  have fo0 := BO.frozen 0
  have o_1 := BO.cell 1
  have fo1 := BO.frozen 1
  have o_2 := BO.cell 2
  have fo2 := BO.frozen 2
  have o_3 := BO.cell 3
  have fo3 := BO.frozen 3
  simp only [List.getElem?_cons_succ, List.getElem?_cons_zero, List.set_cons_zero, List.set_cons_succ] at a0 a1 a2 a3 r0 r1 r2 r3 o_0 o_1 o_2 o_3
  go_wp2
  have ob : w.heap.size ≤ W0.heap.size ∧ w.heap.size ≤ W1.heap.size ∧ w.heap.size ≤ W2.heap.size := by omega
  refine bodyPost_ret (v := .agg [.slice (some ⟨W0.heap.size, 0, none⟩) t.W.length t.W.length, .slice (some ⟨W1.heap.size, 0, none⟩) t.L.length t.L.length, .slice (some ⟨W2.heap.size, 0, none⟩) t.T.length t.T.length, .int .i64 t.pos].toArray) (by simp [results, Try.results35, go_sem, r0, r1, r2, r3, fr0, fr1, fr2, fr3]) rfl
    ⟨_, rfl, ⟨some ⟨W0.heap.size, 0, none⟩, some ⟨W1.heap.size, 0, none⟩, some ⟨W2.heap.size, 0, none⟩, _, _, _, rfl, Own.base ?_ ob.1, Own.base ?_ ob.2.1, Own.base ?_ ob.2.2, ?_, ?_, ?_⟩, (by repeat' first | (with_reducible assumption) | (with_reducible exact Below.refl _ _) | (with_reducible refine Below.drew ?_) | (with_reducible refine below_drewN ?_ _) | (with_reducible refine Below.alloc ?_ ?_ _) | (with_reducible refine Below.setCell ?_ ?_ _) | (simp; done) | (simp; omega) | omega)⟩
  · repeat' (first | (with_reducible exact o1) | (with_reducible refine Own.setCell ?_ ?_ _) | (simp; omega))
  · repeat' (first | (with_reducible exact o2) | (with_reducible refine Own.setCell ?_ ?_ _) | (simp; omega))
  · repeat' (first | (with_reducible exact o3) | (with_reducible refine Own.setCell ?_ ?_ _) | (simp; omega))
  all_goals
    intro k hk hk2
    simp [blk] at hk hk2
    omega
end Go.Proofs.Ytjmkkncjbnohoaa
