/- Elements of a slice that is read; named types. -/
import Derived.Test.YtojgphgfhapacaaGT
import Derived.Test.YtojgphgfhapacaaSeq
namespace Go.Proofs.Ytojgphgfhapacaa
open Go.RowKit
set_option linter.unusedVariables false
theorem RdTs_at {w : World} {e : GT} : ∀ {xs : List e.den} {us : List Value}, RdTs w e xs us → ∀ {i : Nat} (hi : i < xs.length), ∃ c, RdT w e xs[i] c ∧ ∀ j u, c[j]? = some u → us[i * e.size + j]? = some u
  | [], us, h, i, hi => by simp at hi
  | x :: xs, us, h, i, hi => by
    obtain ⟨c1, c2, rfl, h1, h2⟩ := RdTs.cons.1 h
    have hl := RdT_len e x c1 h1
    rcases i with _ | i
    · exact ⟨c1, h1, fun j u hu => by
        have : j < c1.length := (List.getElem?_eq_some_iff.1 hu).1
        rw [Nat.zero_mul, Nat.zero_add, List.getElem?_append_left this]; exact hu⟩
    · obtain ⟨c, hc, hj⟩ := RdTs_at h2 (i := i) (by simpa using hi)
      refine ⟨c, hc, fun j u hu => ?_⟩
      have e1 : (i + 1) * e.size + j = c1.length + (i * e.size + j) := by rw [hl, Nat.add_mul, Nat.one_mul]; omega
      rw [e1, List.getElem?_append_right (by omega), Nat.add_sub_cancel_left]
      exact hj j u hu
theorem sl_at {w : World} {e : GT} {A : Option Addr} {us : List Value} {xs : List e.den} (hr : Rd w A us) (ht : RdTs w e xs us) {i : Nat} (hi : i < xs.length) (hs : 0 < e.size) :
    ∃ ad c, A = some ad ∧ RdT w e xs[i] c ∧ ∀ j u, c[j]? = some u → w.cell? (ad.add (i * e.size + j)) = some u := by
  obtain ⟨c, hc, hj⟩ := RdTs_at ht hi
  have hl := RdT_len e _ c hc
  obtain ⟨ad, e1, _⟩ := hr _ _ (hj 0 c[0] (List.getElem?_eq_getElem (by omega)))
  refine ⟨ad, c, e1, hc, fun j u hu => ?_⟩
  obtain ⟨ad', e2, h⟩ := hr _ _ (hj j u hu)
  rw [e1] at e2
  cases e2
  exact h
theorem RdTs_int {w : World} : ∀ {xs : List (GT.den .int)} {us : List Value}, RdTs w .int xs us → us = List.map (fun n : Int => Value.int .i64 n) xs ∧ ∀ n ∈ xs, inI64 n
  | [], us, h => ⟨by rw [RdTs.nil.1 h]; rfl, fun n h => by simp at h⟩
  | x :: xs, us, h => by
    obtain ⟨c1, c2, rfl, h1, h2⟩ := RdTs.cons.1 h
    obtain ⟨rfl, b⟩ := RdT.int.1 h1
    obtain ⟨rfl, bs⟩ := RdTs_int h2
    refine ⟨rfl, fun n hn => ?_⟩
    rcases List.mem_cons.1 hn with rfl | hn
    · exact b
    · exact bs n hn
theorem RdTs_str {w : World} : ∀ {xs : List (GT.den .str)} {us : List Value}, RdTs w .str xs us → us = List.map (fun n : ByteArray => Value.string n) xs ∧ ∀ n ∈ xs, ByteArray.size n ≤ maxLen
  | [], us, h => ⟨by rw [RdTs.nil.1 h]; rfl, fun n h => by simp at h⟩
  | x :: xs, us, h => by
    obtain ⟨c1, c2, rfl, h1, h2⟩ := RdTs.cons.1 h
    obtain ⟨rfl, b⟩ := RdT.str.1 h1
    obtain ⟨rfl, bs⟩ := RdTs_str h2
    refine ⟨rfl, fun n hn => ?_⟩
    rcases List.mem_cons.1 hn with rfl | hn
    · exact b
    · exact bs n hn
theorem RdTs_u8 {w : World} : ∀ {xs : List (GT.den .u8)} {us : List Value}, RdTs w .u8 xs us → us = byteVs xs
  | [], us, h => by rw [RdTs.nil.1 h]; rfl
  | x :: xs, us, h => by
    obtain ⟨c1, c2, rfl, h1, h2⟩ := RdTs.cons.1 h
    rw [RdT.u8.1 h1, RdTs_u8 h2]; rfl
theorem flat_get {α : Type} (f : α → List Value) (k : Nat) (hk : ∀ x, (f x).length = k) : ∀ (l : List α) (i : Nat) (hi : i < l.length) (j : Nat) (u : Value), (f l[i])[j]? = some u → (l.flatMap f)[i * k + j]? = some u
  | [], i, hi, _, _, _ => by simp at hi
  | x :: l, 0, hi, j, u, h => by
    have : j < (f x).length := (List.getElem?_eq_some_iff.1 h).1
    rw [List.flatMap_cons, Nat.zero_mul, Nat.zero_add, List.getElem?_append_left this]; exact h
  | x :: l, i + 1, hi, j, u, h => by
    have e1 : (i + 1) * k + j = (f x).length + (i * k + j) := by rw [hk, Nat.add_mul, Nat.one_mul]; omega
    rw [List.flatMap_cons, e1, List.getElem?_append_right (by omega), Nat.add_sub_cancel_left]
    exact flat_get f k hk l i (by simpa using hi) j u h
theorem flat_at {α : Type} {f : α → List Value} {k : Nat} (hk : ∀ x, (f x).length = k) (h0 : 0 < k) {w : World} {A : Option Addr} {l : List α} (hr : Rd w A (l.flatMap f)) {i : Nat} (hi : i < l.length) :
    ∃ ad, A = some ad ∧ ∀ j u, (f l[i])[j]? = some u → w.cell? (ad.add (i * k + j)) = some u := by
  have hl : 0 < (f l[i]).length := by rw [hk]; exact h0
  obtain ⟨ad, e1, _⟩ := hr _ _ (flat_get f k hk l i hi 0 _ (List.getElem?_eq_getElem hl))
  refine ⟨ad, e1, fun j u hu => ?_⟩
  obtain ⟨ad', e2, h⟩ := hr _ _ (flat_get f k hk l i hi j u hu)
  rw [e1] at e2; cases e2; exact h
theorem flat_len {α : Type} {f : α → List Value} {k : Nat} (hk : ∀ x, (f x).length = k) : ∀ l : List α, (l.flatMap f).length = l.length * k
  | [] => by simp
  | x :: l => by rw [List.flatMap_cons, List.length_append, hk, flat_len hk l, List.length_cons, Nat.add_mul, Nat.one_mul]; omega
end Go.Proofs.Ytojgphgfhapacaa
