/- Turns: what is right; both TurnsOk. -/
import Derived.Test.YtojgphgfhapacaaIn
namespace Go.Proofs.Ytojgphgfhapacaa
open Go.RowKit
set_option maxHeartbeats 400000
set_option linter.unusedVariables false
set_option linter.unusedSimpArgs false
def inR (n a b : Int) : Bool := decide (a ≤ n) && decide (n ≤ b)
theorem inR_iff (n a b : Int) : inR n a b = true ↔ a ≤ n ∧ n ≤ b := by simp [inR]
theorem same_r {P : Program} {f : FuncId} {args : Array Value} {w : World} {v : Value} (h : Calls P f args w fun e w' => e = .returned v ∧ w = w') : Calls P f args w fun e w' => e = .returned v ∧ w' = w :=
  h.mono fun _ _ ⟨a, b⟩ => ⟨a, b.symm⟩
theorem xs_l1In_any (n a b : Int) (w : World) :
    Calls Try.prog 28 #[.int .i64 n, .int .i64 a, .int .i64 b] w fun e w' => e = .returned (.bool (inR n a b)) ∧ w = w' := by
  go_enter Try.func28, Try.ntmps28
  by_cases h : a ≤ n <;> by_cases h2 : n ≤ b <;> go_wp2 <;> go_ret <;> exact ⟨by simp [inR, h, h2], rfl⟩
theorem xi_inRange_any (n a b : Int) (w : World) :
    Calls Try.prog 42 #[.int .i64 n, .int .i64 a, .int .i64 b] w fun e w' => e = .returned (.bool (inR n a b)) ∧ w = w' := by
  go_enter Try.func42, Try.ntmps42
  by_cases h : a ≤ n <;> by_cases h2 : n ≤ b <;> go_wp2 <;> go_ret <;> exact ⟨by simp [inR, h, h2], rfl⟩
structure Tn where
  W : List Int
  L : List Int
  T : List Int
  pos : Int
def TnV (w : World) (cs : List Value) (t : Tn) : Prop := ∃ (A1 A2 A3 : Option Addr) (c1 c2 c3 : Nat), cs = [.slice A1 t.W.length c1, .slice A2 t.L.length c2, .slice A3 t.T.length c3, .int .i64 t.pos] ∧ Rd w A1 (ints t.W) ∧ Rd w A2 (ints t.L) ∧ Rd w A3 (ints t.T)
theorem TnV.ext {w w' : World} {cs : List Value} {t : Tn} (h : TnV w cs t) (hb : Below w.heap.size w w') : TnV w' cs t := by
  obtain ⟨A1, A2, A3, c1, c2, c3, e, h1, h2, h3⟩ := h
  exact ⟨A1, A2, A3, c1, c2, c3, e, h1.ext hb, h2.ext hb, h3.ext hb⟩
def Tn.small (t : Tn) : Prop := t.W.length ≤ 1048576 ∧ t.L.length ≤ 1048576 ∧ t.T.length ≤ 1048576
def okAt (t : Tn) (i : Nat) : Bool := inR (t.W.getD i 0) 1 9 && inR (t.L.getD i 0) 0 (t.W.getD i 0) && inR (t.T.getD i 0) 0 99
def turnsOk (t : Tn) : Bool := inR t.W.length 1 5 && (t.L.length == t.W.length) && (t.T.length == t.W.length) && inR t.pos 0 (t.W.length - 1) && (List.range t.W.length).all (okAt t)
theorem turnsOk_false {t : Tn} {i : Nat} (hi : i < t.W.length) (h : okAt t i = false) : turnsOk t = false := by
  have : (List.range t.W.length).all (okAt t) = false := by
    rw [List.all_eq_false]; exact ⟨i, List.mem_range.2 hi, by rw [h]; simp⟩
  unfold turnsOk; rw [this]; simp
theorem turnsOk_true {t : Tn} (h1 : inR t.W.length 1 5 = true) (h2 : t.L.length = t.W.length) (h3 : t.T.length = t.W.length) (h4 : inR t.pos 0 (t.W.length - 1) = true) (h : ∀ i, i < t.W.length → okAt t i = true) : turnsOk t = true := by
  have : (List.range t.W.length).all (okAt t) = true := by
    rw [List.all_eq_true]; exact fun i hi => h i (List.mem_range.1 hi)
  unfold turnsOk; rw [this]; simp [h1, h2, h3, h4]
theorem turnsOk_head {t : Tn} (h : inR t.W.length 1 5 = false ∨ ¬ t.L.length = t.W.length ∨ ¬ t.T.length = t.W.length ∨ inR t.pos 0 (t.W.length - 1) = false) : turnsOk t = false := by
  unfold turnsOk
  rcases h with h | h | h | h
  · simp [h]
  · simp [h]
  · simp [h]
  · simp [h]
theorem ints_at3 {w : World} {A : Option Addr} {xs : List Int} (h : Rd w A (ints xs)) {i : Nat} (hi : i < xs.length) : ∃ ad, A = some ad ∧ w.cell? (ad.add i) = some (.int .i64 (xs.getD i 0)) ∧ (ad.add i).block < w.heap.size := by
  obtain ⟨ad, e, hc⟩ := ints_at h hi
  refine ⟨ad, e, ?_, World.block_lt_of_cell? w _ hc⟩
  rw [hc]; simp [List.getD, List.getElem?_eq_getElem hi]
theorem getD_eq {l : List Int} {i : Nat} (h : i < l.length) : l.getD i 0 = l[i] := by simp [List.getD, List.getElem?_eq_getElem h]
end Go.Proofs.Ytojgphgfhapacaa
