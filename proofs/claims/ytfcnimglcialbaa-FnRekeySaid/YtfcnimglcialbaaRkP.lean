/- Rekeying in plain Lean. -/
import Derived.Test.YtfcnimglcialbaaWrpP
import Derived.Test.YtfcnimglcialbaaBtRekey
namespace Go.Proofs.Ytfcnimglcialbaa
set_option linter.unusedVariables false
def rkUnder (x : DRekey) (i : Nat) : ByteArray := if (i : Int) < x.dn then x.o2 else x.o1
def rkUnw (x : DRekey) (i : Nat) : ByteArray × Bool := unwF (rkUnder x i) (nth x.K i).no (nth x.K i).text
def rkBad (x : DRekey) (i : Nat) : Bool := !inB (nth x.K i).no 0 1000000 || (decide (0 < i) && decide ((nth x.K i).no ≤ (nth x.K (i - 1)).no)) || !(rkUnw x i).2
def rkHead (x : DRekey) : Prop := x.o1.size = 32 ∧ x.o2.size = 32 ∧ sEq x.o1 x.o2 = false ∧ x.K.length ≤ 10 ∧ 0 ≤ x.dn ∧ x.dn ≤ x.K.length
instance (x : DRekey) : Decidable (rkHead x) := by unfold rkHead; infer_instance
def fRekeyOk (x : DRekey) : Bool := decide (rkHead x) && (List.range x.K.length).all (fun i => !rkBad x i)
theorem rk_head {x : DRekey} (h : ¬ rkHead x) : fRekeyOk x = false := by unfold fRekeyOk; rw [decide_eq_false h]; rfl
theorem rk_bad {x : DRekey} {i : Nat} (hi : i < x.K.length) (h : rkBad x i = true) : fRekeyOk x = false := by
  unfold fRekeyOk
  rw [Bool.and_eq_false_iff]
  right
  rw [List.all_eq_false]
  exact ⟨i, by simpa using hi, by simp [h]⟩
theorem rk_yes {x : DRekey} (h : rkHead x) (ha : ∀ i, i < x.K.length → rkBad x i = false) : fRekeyOk x = true := by
  unfold fRekeyOk
  rw [decide_eq_true h, Bool.true_and, List.all_eq_true]
  exact fun i hi => by rw [ha i (by simpa using hi)]; rfl
theorem rk_of {x : DRekey} (h : fRekeyOk x = true) : rkHead x ∧ ∀ i, i < x.K.length → rkBad x i = false := by
  unfold fRekeyOk at h
  rw [Bool.and_eq_true, List.all_eq_true] at h
  refine ⟨of_decide_eq_true h.1, fun i hi => ?_⟩
  have := h.2 i (by simpa using hi)
  simpa using this
theorem rk_unw {x : DRekey} (h : fRekeyOk x = true) {i : Nat} (hi : i < x.K.length) : (rkUnw x i).2 = true ∧ 0 ≤ (nth x.K i).no ∧ (nth x.K i).no ≤ 1000000 := by
  have := (rk_of h).2 i hi
  unfold rkBad at this
  simp only [Bool.or_eq_false_iff, Bool.not_eq_false', inB_true] at this
  exact ⟨this.2, this.1.1⟩
def rk0 : DRekey := ⟨⟨#[]⟩, ⟨#[]⟩, [], 0⟩
def rkFind (no : Int) (K : List FKey) : Nat → Nat → Int
  | 0, _ => -1
  | f + 1, i => if (nth K i).no = no then i else rkFind no K f (i + 1)
def fRekeyKey (x : DRekey) (no : Int) : ByteArray × Bool := if fRekeyOk x = true then (if 0 ≤ rkFind no x.K x.K.length 0 then rkUnw x (rkFind no x.K x.K.length 0).toNat else (⟨#[]⟩, false)) else (⟨#[]⟩, false)
def rkNew (x : DRekey) : FKey := ⟨(nth x.K x.dn.toNat).no, wrapF x.o2 (nth x.K x.dn.toNat).no (unwF x.o1 (nth x.K x.dn.toNat).no (nth x.K x.dn.toNat).text).1⟩
def fRekeyStep (x : DRekey) : DRekey × Bool := if fRekeyOk x = true then (if x.dn = x.K.length then (x, false) else (⟨x.o1, x.o2, x.K.set x.dn.toNat (rkNew x), x.dn + 1⟩, true)) else (rk0, false)
def fRekeyEnd (x : DRekey) : DRekey × Bool := if fRekeyOk x = true then (if x.K.length = 0 ∨ x.dn < x.K.length then (x, false) else (⟨x.o2, x.o1, x.K, 0⟩, true)) else (rk0, false)
theorem rkUnder_dn {x : DRekey} (h : 0 ≤ x.dn) : rkUnder x x.dn.toNat = x.o1 := by unfold rkUnder; rw [if_neg (by omega)]
theorem RekeyStep_lim (x : DRekey) (hs : Rekey_sm x) : Rekey_lim (fRekeyStep x).1 := by
  have h1 := hs.1.1
  unfold fRekeyStep Rekey_lim
  split
  · split
    · simp only; omega
    · simp only [List.length_set]; omega
  · simp [rk0]
theorem RekeyEnd_lim (x : DRekey) (hs : Rekey_sm x) : Rekey_lim (fRekeyEnd x).1 := by
  have h1 := hs.1.1
  unfold fRekeyEnd Rekey_lim
  split
  · split
    · simp only; omega
    · simp only; omega
  · simp [rk0]
end Go.Proofs.Ytfcnimglcialbaa
