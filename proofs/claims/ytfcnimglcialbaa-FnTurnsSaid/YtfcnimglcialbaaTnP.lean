/- Turns over three rounds, in plain Lean (for FnTurns): all weights from 1 to 4, step by step. -/
import Derived.Test.YtfcnimglcialbaaTnw
namespace Go.Proofs.Ytfcnimglcialbaa
set_option linter.unusedVariables false
set_option maxRecDepth 20000
/-- Asked m times, forty times each. -/
def askT (m : Nat) : List Int := [((min m 40 : Nat) : Int), ((min (m - 40) 40 : Nat) : Int), ((min (m - 80) 40 : Nat) : Int)]
def wts (a b c : Nat) : List Int := [(a : Int), (b : Int), (c : Int)]
def askSt (a b c m : Nat) : DTurns := ⟨wts a b c, wts a b c, askT m, 0⟩
/-- What each has got after k steps of a round. -/
def gotK (a b c k : Nat) : List Int := [((min k a : Nat) : Int), ((min (k - a) b : Nat) : Int), ((min (k - a - b) c : Nat) : Int)]
def stL (a b c r k : Nat) : List Int := if k = 0 ∧ r ≠ 0 then [0, 0, 0] else [((a - min k a : Nat) : Int), ((b - min (k - a) b : Nat) : Int), ((c - min (k - a - b) c : Nat) : Int)]
def stP (a b r k : Nat) : Int := if k = 0 ∧ r ≠ 0 then 2 else if k ≤ a then 0 else if k ≤ a + b then 1 else 2
def stT (a b c r k : Nat) : List Int := [((40 - r * a - min k a : Nat) : Int), ((40 - r * b - min (k - a) b : Nat) : Int), ((40 - r * c - min (k - a - b) c : Nat) : Int)]
def rdSt (a b c r k : Nat) : DTurns := ⟨wts a b c, stL a b c r k, stT a b c r k, stP a b r k⟩
/-- Who is served next. -/
def rdI (a b k : Nat) : Nat := if k < a then 0 else if k < a + b then 1 else 2
def bumpG (G : List Int) (i : Nat) : List Int := G.set i (nth G i + 1)
def okStep (a b c r k : Nat) : Bool := decide (fTurnsNext (rdSt a b c r k) = (rdSt a b c r (k + 1), ((rdI a b k : Nat) : Int))) && fTurnsOk (rdSt a b c r (k + 1)) && decide (bumpG (gotK a b c k) (rdI a b k) = gotK a b c (k + 1))
def okAsk (a b c m : Nat) : Bool := decide (fTurnsAsk (askSt a b c m) ((m / 40 : Nat) : Int) = (askSt a b c (m + 1), true))
theorem ask_all : ∀ a b c : Fin 4, ∀ m : Fin 120, okAsk (1 + a) (1 + b) (1 + c) m = true := by decide +kernel
theorem step_all : ∀ a b c : Fin 4, ∀ r : Fin 3, ∀ k : Fin 12, k.val < (1 + a) + (1 + b) + (1 + c) → okStep (1 + a) (1 + b) (1 + c) r k = true := by decide +kernel
theorem new_all : ∀ a b c : Fin 4, fTurnsNew (wts (1 + a) (1 + b) (1 + c)) = (askSt (1 + a) (1 + b) (1 + c) 0, true) := by decide +kernel
structure W4 (a b c : Nat) : Prop where
  a : 1 ≤ a ∧ a ≤ 4
  b : 1 ≤ b ∧ b ≤ 4
  c : 1 ≤ c ∧ c ≤ 4
theorem W4.new {a b c : Nat} (h : W4 a b c) : fTurnsNew (wts a b c) = (askSt a b c 0, true) := by
  obtain ⟨ha, hb, hc⟩ := h
  have := new_all ⟨a - 1, by omega⟩ ⟨b - 1, by omega⟩ ⟨c - 1, by omega⟩
  simp only at this
  rwa [show 1 + (a - 1) = a by omega, show 1 + (b - 1) = b by omega, show 1 + (c - 1) = c by omega] at this
theorem W4.ask {a b c m : Nat} (h : W4 a b c) (hm : m < 120) : fTurnsAsk (askSt a b c m) ((m / 40 : Nat) : Int) = (askSt a b c (m + 1), true) := by
  obtain ⟨ha, hb, hc⟩ := h
  have := ask_all ⟨a - 1, by omega⟩ ⟨b - 1, by omega⟩ ⟨c - 1, by omega⟩ ⟨m, hm⟩
  simp only at this
  rw [show 1 + (a - 1) = a by omega, show 1 + (b - 1) = b by omega, show 1 + (c - 1) = c by omega] at this
  exact of_decide_eq_true this
theorem W4.step {a b c r k : Nat} (h : W4 a b c) (hr : r < 3) (hk : k < a + b + c) : fTurnsNext (rdSt a b c r k) = (rdSt a b c r (k + 1), ((rdI a b k : Nat) : Int)) ∧ fTurnsOk (rdSt a b c r (k + 1)) = true ∧ bumpG (gotK a b c k) (rdI a b k) = gotK a b c (k + 1) := by
  obtain ⟨ha, hb, hc⟩ := h
  have := step_all ⟨a - 1, by omega⟩ ⟨b - 1, by omega⟩ ⟨c - 1, by omega⟩ ⟨r, hr⟩ ⟨k, by omega⟩ (by simp only; omega)
  simp only at this
  rw [show 1 + (a - 1) = a by omega, show 1 + (b - 1) = b by omega, show 1 + (c - 1) = c by omega] at this
  unfold okStep at this
  rw [Bool.and_eq_true, Bool.and_eq_true] at this
  exact ⟨of_decide_eq_true this.1.1, this.1.2, of_decide_eq_true this.2⟩
theorem rdI_lt (a b k : Nat) : rdI a b k < 3 := by
  unfold rdI
  repeat' split
  all_goals decide
theorem askSt_start {a b c : Nat} : askSt a b c 120 = rdSt a b c 0 0 := by
  simp [askSt, rdSt, askT, stL, stT, stP, wts]
theorem rdSt_next {a b c : Nat} (h : W4 a b c) (r : Nat) (hr : r < 3) : rdSt a b c r (a + b + c) = rdSt a b c (r + 1) 0 := by
  obtain ⟨ha, hb, hc⟩ := h
  unfold rdSt
  have h1 : ¬ (a + b + c = 0 ∧ r ≠ 0) := by omega
  have h2 : (0 = 0 ∧ r + 1 ≠ 0) := by omega
  have e1 : stL a b c r (a + b + c) = stL a b c (r + 1) 0 := by
    unfold stL
    rw [if_neg h1, if_pos h2]
    simp only [List.cons.injEq, and_true]
    refine ⟨by omega, by omega, by omega⟩
  have e2 : stP a b r (a + b + c) = stP a b (r + 1) 0 := by
    unfold stP
    rw [if_neg h1, if_pos h2, if_neg (by omega), if_neg (by omega)]
  have e3 : stT a b c r (a + b + c) = stT a b c (r + 1) 0 := by
    unfold stT
    have q1 : (r + 1) * a = r * a + a := Nat.succ_mul r a
    have q2 : (r + 1) * b = r * b + b := Nat.succ_mul r b
    have q3 : (r + 1) * c = r * c + c := Nat.succ_mul r c
    simp only [List.cons.injEq, and_true]
    refine ⟨by rw [q1]; omega, by rw [q2]; omega, by rw [q3]; omega⟩
  rw [e1, e2, e3]
theorem gotK_zero (a b c : Nat) : gotK a b c 0 = [0, 0, 0] := by simp [gotK]
theorem gotK_end (a b c : Nat) : gotK a b c (a + b + c) = wts a b c := by
  unfold gotK wts
  simp only [List.cons.injEq, and_true]
  refine ⟨by omega, by omega, by omega⟩
theorem rdSt_sm (a b c r k : Nat) : Turns_sm (rdSt a b c r k) := by
  refine ⟨?_, ?_, ?_⟩
  · show (wts a b c).length ≤ _; simp [wts]
  · show (stL a b c r k).length ≤ _; unfold stL; split <;> simp
  · show (stT a b c r k).length ≤ _; simp [stT]
theorem askSt_sm (a b c m : Nat) : Turns_sm (askSt a b c m) := by
  refine ⟨?_, ?_, ?_⟩
  · show (wts a b c).length ≤ _; simp [wts]
  · show (wts a b c).length ≤ _; simp [wts]
  · show (askT m).length ≤ _; simp [askT]
end Go.Proofs.Ytfcnimglcialbaa
