/- Audit chains in plain Lean. -/
import Derived.Test.YtbegbdfbfbkflaaLnkP
import Derived.Test.YtbegbdfbfbkflaaElLink
namespace Go.Proofs.Ytbegbdfbfbkflaa
set_option linter.unusedVariables false
def lastS (L : List Link) : ByteArray := if L.length = 0 then ⟨#[]⟩ else (nth L (L.length - 1)).sum
/-- The link at a place follows from the sum ahead of it. -/
def badI (L : List Link) (i : Nat) : Bool := sEq (nth L i).sum ⟨#[]⟩ || !sEq (nth L i).sum (lnkF (lastS (L.take i)) (nth L i).who (nth L i).text)
def chainOk (L : List Link) : Bool := !decide ((40 : Int) < (L.length : Int)) && (List.range L.length).all (fun i => !badI L i)
theorem lastS_zero (L : List Link) : lastS (L.take 0) = ⟨#[]⟩ := by simp [lastS]
theorem lastS_succ (L : List Link) (i : Nat) (h : i < L.length) : lastS (L.take (i + 1)) = (nth L i).sum := by
  unfold lastS
  rw [List.length_take, show min (i + 1) L.length = i + 1 by omega, if_neg (by omega), Nat.add_sub_cancel]
  congr 1
  unfold nth
  rw [List.getD_eq_getElem?_getD, List.getD_eq_getElem?_getD, List.getElem?_take_of_lt (by omega)]
theorem chainOk_len {L : List Link} (h : chainOk L = true) : L.length ≤ 40 := by
  unfold chainOk at h
  rw [Bool.and_eq_true] at h
  have := h.1
  simp at this; omega
theorem chainOk_bad {L : List Link} {i : Nat} (hi : i < L.length) (hb : badI L i = true) : chainOk L = false := by
  unfold chainOk
  rw [Bool.and_eq_false_iff]
  right
  rw [List.all_eq_false]
  exact ⟨i, by simpa using hi, by simp [hb]⟩
theorem chainOk_long {L : List Link} (h : 40 < L.length) : chainOk L = false := by
  unfold chainOk
  have : decide ((40 : Int) < (L.length : Int)) = true := by simp; omega
  rw [this]; rfl
theorem chainOk_yes {L : List Link} (h : L.length ≤ 40) (ha : ∀ i, i < L.length → badI L i = false) : chainOk L = true := by
  unfold chainOk
  rw [Bool.and_eq_true, List.all_eq_true]
  exact ⟨by simp; omega, fun i hi => by rw [ha i (by simpa using hi)]; rfl⟩
/-- Adding, what follows a sum. -/
def fChainAdd (L : List Link) (who : Int) (text : ByteArray) : List Link × Bool :=
  if sEq (lnkF (lastS L) who text) ⟨#[]⟩ = true ∨ 40 ≤ L.length ∨ chainOk L = false then (L, false) else (L ++ [⟨who, text, lnkF (lastS L) who text⟩], true)
def fChainSince (L : List Link) (sum : ByteArray) : List Link × Bool :=
  if chainOk L = false then ([], false)
  else if sEq sum ⟨#[]⟩ = true then (L, true)
  else if ixP (fun x => sEq x.sum sum) L < 0 then ([], false)
  else (L.drop ((ixP (fun x => sEq x.sum sum) L).toNat + 1), true)
end Go.Proofs.Ytbegbdfbfbkflaa
