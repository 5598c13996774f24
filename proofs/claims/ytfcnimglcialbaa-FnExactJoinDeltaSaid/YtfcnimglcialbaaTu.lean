/- Turns: what is right; both TurnsOk. -/
import Derived.Test.YtfcnimglcialbaaIn
namespace Go.Proofs.Ytfcnimglcialbaa
open Go.RowKit
set_option maxHeartbeats 400000
set_option linter.unusedVariables false
set_option linter.unusedSimpArgs false
def inR (n a b : Int) : Bool := decide (a ≤ n) && decide (n ≤ b)
theorem inR_iff (n a b : Int) : inR n a b = true ↔ a ≤ n ∧ n ≤ b := by simp [inR]
theorem same_r {P : Program} {f : FuncId} {args : Array Value} {w : World} {v : Value} (h : Calls P f args w fun e w' => e = .returned v ∧ w = w') : Calls P f args w fun e w' => e = .returned v ∧ w' = w :=
  h.mono fun _ _ ⟨a, b⟩ => ⟨a, b.symm⟩
theorem xs_l1In_any (n a b : Int) (w : World) :
    Calls Try.prog 104 #[.int .i64 n, .int .i64 a, .int .i64 b] w fun e w' => e = .returned (.bool (inR n a b)) ∧ w = w' := by
  go_enter Try.func104, Try.ntmps104
  by_cases h : a ≤ n <;> by_cases h2 : n ≤ b <;> go_wp2 <;> go_ret <;> exact ⟨by simp [inR, h, h2], rfl⟩
theorem xi_inRange_any (n a b : Int) (w : World) :
    Calls Try.prog 122 #[.int .i64 n, .int .i64 a, .int .i64 b] w fun e w' => e = .returned (.bool (inR n a b)) ∧ w = w' := by
  go_enter Try.func122, Try.ntmps122
  by_cases h : a ≤ n <;> by_cases h2 : n ≤ b <;> go_wp2 <;> go_ret <;> exact ⟨by simp [inR, h, h2], rfl⟩
structure Tn where
  W : List Int
  L : List Int
  T : List Int
  pos : Int
def TnV (w : World) (cs : List Value) (t : Tn) : Prop := ∃ (A1 A2 A3 : Option Addr) (c1 c2 c3 : Nat), cs = [.slice A1 t.W.length c1, .slice A2 t.L.length c2, .slice A3 t.T.length c3, .int .i64 t.pos] ∧ Rd w A1 (ints t.W) ∧ Rd w A2 (ints t.L) ∧ Rd w A3 (ints t.T)
theorem TnV.ext {w w' : World} {cs : List Value} {t : Tn} (h : TnV w cs t) (hb : Below w.heap.size w w') : TnV w' cs t := by
  obtain ⟨A1, A2, A3, c1, c2, c3, e, h1, h2, h3⟩ := h
  exact ⟨A1, A2, A3, c1, c2, c3, e, h1.ext hb, h2.ext hb, h3.ext hb⟩
def Tn.small (t : Tn) : Prop := t.W.length ≤ 1048576 ∧ t.L.length ≤ 1048576 ∧ t.T.length ≤ 1048576
def okAt (t : Tn) (i : Nat) : Bool := inR (t.W.getD i 0) 1 9 && inR (t.L.getD i 0) 0 (t.W.getD i 0) && inR (t.T.getD i 0) 0 99
def turnsOk (t : Tn) : Bool := inR t.W.length 1 5 && (t.L.length == t.W.length) && (t.T.length == t.W.length) && inR t.pos 0 (t.W.length - 1) && (List.range t.W.length).all (okAt t)
theorem turnsOk_false {t : Tn} {i : Nat} (hi : i < t.W.length) (h : okAt t i = false) : turnsOk t = false := by
  have : (List.range t.W.length).all (okAt t) = false := by
    rw [List.all_eq_false]; exact ⟨i, List.mem_range.2 hi, by rw [h]; simp⟩
  unfold turnsOk; rw [this]; simp
theorem turnsOk_true {t : Tn} (h1 : inR t.W.length 1 5 = true) (h2 : t.L.length = t.W.length) (h3 : t.T.length = t.W.length) (h4 : inR t.pos 0 (t.W.length - 1) = true) (h : ∀ i, i < t.W.length → okAt t i = true) : turnsOk t = true := by
  have : (List.range t.W.length).all (okAt t) = true := by
    rw [List.all_eq_true]; exact fun i hi => h i (List.mem_range.1 hi)
  unfold turnsOk; rw [this]; simp [h1, h2, h3, h4]
theorem turnsOk_head {t : Tn} (h : inR t.W.length 1 5 = false ∨ ¬ t.L.length = t.W.length ∨ ¬ t.T.length = t.W.length ∨ inR t.pos 0 (t.W.length - 1) = false) : turnsOk t = false := by
  unfold turnsOk
  rcases h with h | h | h | h
  · simp [h]
  · simp [h]
  · simp [h]
  · simp [h]
theorem ints_at3 {w : World} {A : Option Addr} {xs : List Int} (h : Rd w A (ints xs)) {i : Nat} (hi : i < xs.length) : ∃ ad, A = some ad ∧ w.cell? (ad.add i) = some (.int .i64 (xs.getD i 0)) ∧ (ad.add i).block < w.heap.size := by
  obtain ⟨ad, e, hc⟩ := ints_at h hi
  refine ⟨ad, e, ?_, World.block_lt_of_cell? w _ hc⟩
  rw [hc]; simp [List.getD, List.getElem?_eq_getElem hi]
theorem getD_eq {l : List Int} {i : Nat} (h : i < l.length) : l.getD i 0 = l[i] := by simp [List.getD, List.getElem?_eq_getElem h]
theorem iTurnsOk_any (cs : List Value) (t : Tn) (w : World) (h : TnV w cs t) (hs : t.small) :
    Calls Try.prog 120 #[.agg cs.toArray] w fun e w' => e = .returned (.bool (turnsOk t)) ∧ Below w.heap.size w w' := by
  obtain ⟨A1, A2, A3, c1, c2, c3, rfl, h1, h2, h3⟩ := h
  obtain ⟨s1, s2, s3⟩ := hs
  go_enter Try.func120, Try.ntmps120
  cases ha : inR t.W.length 1 5
  · go_wp2_with (go_at_call 122; refine (xi_inRange_any _ _ _ _).mono ?_; rintro e w' ⟨rfl, rfl⟩)
    go_ret
    exact ⟨ret_bool (turnsOk_head (.inl ha)).symm, (by repeat' first | (with_reducible assumption) | (with_reducible exact Below.refl _ _) | (with_reducible refine Below.drew ?_) | (with_reducible refine below_drewN ?_ _) | (with_reducible refine Below.alloc ?_ ?_ _) | (with_reducible refine Below.setCell ?_ ?_ _) | (simp; done) | (simp; omega) | omega)⟩
  · cases hd : inR t.pos 0 (t.W.length - 1)
    · go_wp2_with (go_at_call 122; refine (xi_inRange_any _ _ _ _).mono ?_; rintro e w' ⟨rfl, rfl⟩)
      all_goals (go_ret; exact ⟨ret_bool (turnsOk_head (by first | exact .inr (.inr (.inr hd)))).symm, (by repeat' first | (with_reducible assumption) | (with_reducible exact Below.refl _ _) | (with_reducible refine Below.drew ?_) | (with_reducible refine below_drewN ?_ _) | (with_reducible refine Below.alloc ?_ ?_ _) | (with_reducible refine Below.setCell ?_ ?_ _) | (simp; done) | (simp; omega) | omega)⟩)
    · by_cases hl : t.L.length = t.W.length ∧ t.T.length = t.W.length
      · obtain ⟨l1, l2⟩ := hl
        go_wp2_with (go_at_call 122; refine (xi_inRange_any _ _ _ _).mono ?_; rintro e w' ⟨rfl, rfl⟩)
        have L1 := Lib.hid l1; have L2 := Lib.hid l2; clear l1 l2
        go_loop [37] (fun i => ∃ k : Nat, k ≤ t.W.length ∧ i = .int .i64 k ∧ ∀ j, j < k → okAt t j = true) (fun i => t.W.length - (intOf i).toNat)
        case atStart => exact ⟨0, Nat.zero_le _, rfl, fun j hj => by omega⟩
        case round =>
          obtain ⟨k, hk, rfl, hok⟩ := hrel
          have OK := Lib.hid hok; clear hok
          by_cases hlt : k < t.W.length
          · obtain ⟨ad1, rfl, d1, e1⟩ := ints_at3 h1 hlt
            obtain ⟨ad2, rfl, d2, e2⟩ := ints_at3 h2 (i := k) (by rw [L1.out]; exact hlt)
            obtain ⟨ad3, rfl, d3, e3⟩ := ints_at3 h3 (i := k) (by rw [L2.out]; exact hlt)
            have hok : okAt t k = (inR (t.W.getD k 0) 1 9 && inR (t.L.getD k 0) 0 (t.W.getD k 0) && inR (t.T.getD k 0) 0 99) := rfl
            generalize t.W.getD k 0 = x at d1 hok
            generalize t.L.getD k 0 = y at d2 hok
            generalize t.T.getD k 0 = z at d3 hok
            cases q1 : inR x 1 9 <;> cases q2 : inR y 0 x <;> cases q3 : inR z 0 99
            all_goals
              rw [q1, q2, q3] at hok
              simp only [Bool.false_and, Bool.and_false, Bool.true_and, Bool.and_true] at hok
              have HK := Lib.hid hok; clear hok
              go_wp2_with (go_at_call 122; refine (xi_inRange_any _ _ _ _).mono ?_; rintro e w' ⟨rfl, rfl⟩)
              first
                | (go_ret; exact ⟨ret_bool (turnsOk_false hlt HK.out).symm, (by repeat' first | (with_reducible assumption) | (with_reducible exact Below.refl _ _) | (with_reducible refine Below.drew ?_) | (with_reducible refine below_drewN ?_ _) | (with_reducible refine Below.alloc ?_ ?_ _) | (with_reducible refine Below.setCell ?_ ?_ _) | (simp; done) | (simp; omega) | omega)⟩)
                | exact ⟨⟨k + 1, by omega, by go_num, fun j hj => by rcases Nat.lt_succ_iff_lt_or_eq.1 hj with h | h; exact OK.out j h; exact h ▸ HK.out⟩, by simp [intOf]; omega⟩
          · obtain hkk : k = t.W.length := by omega
            have hT := Lib.hid (turnsOk_true ha L1.out L2.out hd (fun i hi => OK.out i (by omega)))
            go_wp2
            go_ret
            exact ⟨ret_bool hT.out.symm, (by repeat' first | (with_reducible assumption) | (with_reducible exact Below.refl _ _) | (with_reducible refine Below.drew ?_) | (with_reducible refine below_drewN ?_ _) | (with_reducible refine Below.alloc ?_ ?_ _) | (with_reducible refine Below.setCell ?_ ?_ _) | (simp; done) | (simp; omega) | omega)⟩
      · have hF := Lib.hid (turnsOk_head (t := t) (by by_cases q : t.L.length = t.W.length; exact .inr (.inr (.inl (fun h => hl ⟨q, h⟩))); exact .inr (.inl q)))
        go_wp2_with (go_at_call 122; refine (xi_inRange_any _ _ _ _).mono ?_; rintro e w' ⟨rfl, rfl⟩)
        all_goals (go_ret; exact ⟨ret_bool hF.out.symm, (by repeat' first | (with_reducible assumption) | (with_reducible exact Below.refl _ _) | (with_reducible refine Below.drew ?_) | (with_reducible refine below_drewN ?_ _) | (with_reducible refine Below.alloc ?_ ?_ _) | (with_reducible refine Below.setCell ?_ ?_ _) | (simp; done) | (simp; omega) | omega)⟩)
end Go.Proofs.Ytfcnimglcialbaa
