/- What the next turn is, in plain Lean. -/
import Derived.Test.YtfcnimglcialbaaTrn
namespace Go.Proofs.Ytfcnimglcialbaa
set_option linter.unusedVariables false
def canT (L T : List Int) (i : Nat) : Bool := decide (0 < nth T i) && decide (0 < nth L i)
/-- The first that waits and has some left, from p on, k steps from p, at most f steps. -/
def takeT (L T : List Int) (p : Int) (n : Nat) : Nat → Nat → Int
  | 0, _ => -1
  | f + 1, k => bif canT L T (((p + k) % n).toNat) then (p + k) % n else takeT L T p n f (k + 1)
theorem takeT_or (L T : List Int) (p : Int) (n : Nat) (hn : 0 < n) : ∀ f k, takeT L T p n f k = -1 ∨ (0 ≤ takeT L T p n f k ∧ takeT L T p n f k < n ∧ canT L T (takeT L T p n f k).toNat = true)
  | 0, k => .inl rfl
  | f + 1, k => by
    unfold takeT
    cases h : canT L T (((p + k) % n).toNat)
    · exact takeT_or L T p n hn f (k + 1)
    · right
      have h1 : 0 ≤ (p + (k : Int)) % (n : Int) := Int.emod_nonneg _ (by omega)
      have h2 : (p + (k : Int)) % (n : Int) < n := Int.emod_lt_of_pos _ (by omega)
      exact ⟨h1, h2, h⟩
theorem takeT_no (L T : List Int) (p : Int) (n : Nat) (hn : 0 < n) : ∀ f k, takeT L T p n f k < 0 → ∀ j, k ≤ j → j < k + f → canT L T (((p + j) % n).toNat) = false
  | 0, k, h, j, h1, h2 => by omega
  | f + 1, k, h, j, h1, h2 => by
    unfold takeT at h
    cases hc : canT L T (((p + k) % n).toNat)
    · rw [hc] at h
      rcases Nat.eq_or_lt_of_le h1 with rfl | h3
      · exact hc
      · exact takeT_no L T p n hn f (k + 1) h j h3 (by omega)
    · rw [hc] at h
      have h1 : 0 ≤ (p + (k : Int)) % (n : Int) := Int.emod_nonneg _ (by omega)
      simp only [cond_true] at h
      omega
theorem mod_all (p : Int) (n i : Nat) (hp : 0 ≤ p ∧ p < n) (hi : i < n) : ∃ j, j < n ∧ ((p + (j : Nat)) % (n : Int)).toNat = i := by
  by_cases h : p ≤ i
  · refine ⟨i - p.toNat, by omega, ?_⟩
    have : p + ((i - p.toNat : Nat) : Int) = i := by omega
    rw [this, Int.emod_eq_of_lt (by omega) (by omega)]; omega
  · refine ⟨i + n - p.toNat, by omega, ?_⟩
    have : p + ((i + n - p.toNat : Nat) : Int) = i + n := by omega
    rw [this, Int.add_emod_right, Int.emod_eq_of_lt (by omega) (by omega)]; omega
theorem takeT_some (L T : List Int) (p : Int) (n i : Nat) (hp : 0 ≤ p ∧ p < n) (hi : i < n) (hc : canT L T i = true) : 0 ≤ takeT L T p n n 0 := by
  rcases takeT_or L T p n (by omega) n 0 with h | h
  · obtain ⟨j, hj, e⟩ := mod_all p n i hp hi
    have := takeT_no L T p n (by omega) n 0 (by omega) j (by omega) (by omega)
    rw [e, hc] at this; cases this
  · exact h.1
/-- One turn. -/
def anyT (T : List Int) : Bool := T.any (fun x => decide (0 < x))
def serveT (W L T : List Int) (i : Int) : DTurns := ⟨W, L.set i.toNat (nth L i.toNat - 1), T.set i.toNat (nth T i.toNat - 1), i⟩
def fTurnsNext (x : DTurns) : DTurns × Int :=
  bif fTurnsOk x then
    bif anyT x.T then
      if 0 ≤ takeT x.L x.T x.p x.T.length x.T.length 0 then (serveT x.W x.L x.T (takeT x.L x.T x.p x.T.length x.T.length 0), takeT x.L x.T x.p x.T.length x.T.length 0)
      else (serveT x.W x.W x.T (takeT x.W x.T ((x.p + 1) % x.T.length) x.T.length x.T.length 0), takeT x.W x.T ((x.p + 1) % x.T.length) x.T.length x.T.length 0)
    else (x, -1)
  else (⟨[], [], [], 0⟩, -1)
theorem anyT_false {T : List Int} (h : anyT T = false) : ∀ x ∈ T, x ≤ 0 := fun x hx => by
  have := (List.any_eq_false.1 h) x hx
  simp at this; omega
theorem nth_eq {T : List Int} {i : Nat} (h : i < T.length) : nth T i = T[i] := by
  simp [nth, List.getD_eq_getElem?_getD, List.getElem?_eq_getElem h]
theorem anyT_true {T : List Int} (h : anyT T = true) : ∃ i, i < T.length ∧ 0 < nth T i := by
  obtain ⟨x, hx, h1⟩ := List.any_eq_true.1 h
  obtain ⟨i, hi, rfl⟩ := List.getElem_of_mem hx
  exact ⟨i, hi, by rw [nth_eq hi]; simpa using h1⟩
structure TOk (W L T : List Int) (p : Int) : Prop where
  lL : L.length = W.length
  lT : T.length = W.length
  n : 1 ≤ W.length ∧ W.length ≤ 5
  p : 0 ≤ p ∧ p < W.length
  w : ∀ k, k < W.length → 1 ≤ nth W k ∧ nth W k ≤ 9
  l : ∀ k, k < W.length → 0 ≤ nth L k ∧ nth L k ≤ nth W k
  t : ∀ k, k < W.length → 0 ≤ nth T k ∧ nth T k ≤ 99
theorem tok_of {W L T : List Int} {p : Int} (h : turnsOkF W L T p = true) : TOk W L T p := by
  have h0 : okT0 W L T p = true := by unfold turnsOkF at h; rw [Bool.and_eq_true] at h; exact h.1
  have hk : ∀ k, k < W.length → okTi W L T k = true := fun k hk => turnsOk_at h hk
  unfold okT0 at h0
  simp only [Bool.not_eq_true', Bool.or_eq_false_iff, bne_eq_false_iff_eq, Bool.not_eq_false', inB_true] at h0
  unfold okTi at hk
  simp only [Bool.not_eq_true', Bool.or_eq_false_iff, Bool.not_eq_false', inB_true] at hk
  exact ⟨by omega, by omega, by omega, by omega, fun k h => by have := hk k h; omega, fun k h => by have := hk k h; omega, fun k h => by have := hk k h; omega⟩
/-- In the second round somebody is served. -/
theorem second {W L T : List Int} {p : Int} (h : TOk W L T p) (ha : anyT T = true) : 0 ≤ takeT W T ((p + 1) % T.length) T.length T.length 0 ∧ takeT W T ((p + 1) % T.length) T.length T.length 0 < T.length ∧ canT W T (takeT W T ((p + 1) % T.length) T.length T.length 0).toNat = true := by
  obtain ⟨i, hi, h1⟩ := anyT_true ha
  have hl := h.lT
  have hn := h.n
  have hw := h.w i (by omega)
  have h0 := takeT_some W T ((p + 1) % T.length) T.length i ⟨Int.emod_nonneg _ (by omega), Int.emod_lt_of_pos _ (by omega)⟩ hi (by simp [canT]; omega)
  rcases takeT_or W T ((p + 1) % T.length) T.length (by omega) T.length 0 with e | e
  · omega
  · exact e
end Go.Proofs.Ytfcnimglcialbaa
