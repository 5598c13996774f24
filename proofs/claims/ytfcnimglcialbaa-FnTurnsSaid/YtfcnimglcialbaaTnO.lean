/- Turns stay good, in plain Lean. -/
import Derived.Test.YtfcnimglcialbaaTnP
namespace Go.Proofs.Ytfcnimglcialbaa
set_option linter.unusedVariables false
theorem nthI_set (l : List Int) (i k : Nat) (x : Int) (h : i < l.length) : nth (l.set i x) k = if k = i then x else nth l k := by
  by_cases e : k = i
  · subst e; rw [if_pos rfl]; exact nth_set l k x h
  · rw [if_neg e]; simp [nth, List.getD_eq_getElem?_getD, Ne.symm e]
theorem tok_to {W L T : List Int} {p : Int} (h : TOk W L T p) : turnsOkF W L T p = true := by
  obtain ⟨h1, h2, h3, h4, h5, h6, h7⟩ := h
  unfold turnsOkF
  rw [Bool.and_eq_true, List.all_eq_true]
  refine ⟨?_, fun k hk => ?_⟩
  · unfold okT0
    simp only [Bool.not_eq_true', Bool.or_eq_false_iff, bne_eq_false_iff_eq, Bool.not_eq_false', inB_true]
    omega
  · have hk : k < W.length := by simpa using hk
    unfold okTi
    simp only [Bool.not_eq_true', Bool.or_eq_false_iff, Bool.not_eq_false', inB_true]
    exact ⟨⟨⟨(h5 k hk).1, (h5 k hk).2⟩, h6 k hk⟩, h7 k hk⟩
theorem tok_serve {W L L' T : List Int} {p i : Int} (h : TOk W L T p) (hL : L' = L ∨ L' = W) (h0 : 0 ≤ i) (h1 : i < T.length) (hc : canT L' T i.toNat = true) : fTurnsOk (serveT W L' T i) = true := by
  obtain ⟨e1, e2, h3, h4, h5, h6, h7⟩ := h
  unfold canT at hc
  rw [Bool.and_eq_true, decide_eq_true_eq, decide_eq_true_eq] at hc
  have hl : L'.length = W.length := by rcases hL with rfl | rfl <;> omega
  have hb : ∀ k, k < W.length → 0 ≤ nth L' k ∧ nth L' k ≤ nth W k := fun k hk => by
    rcases hL with rfl | rfl
    · exact h6 k hk
    · have := h5 k hk; omega
  refine tok_to (p := i) ⟨by simp only [serveT, List.length_set]; omega, by simp only [serveT, List.length_set]; omega, h3, ⟨h0, by simp only [serveT]; omega⟩, h5, fun k hk => ?_, fun k hk => ?_⟩
  · show 0 ≤ nth (L'.set i.toNat (nth L' i.toNat - 1)) k ∧ nth (L'.set i.toNat (nth L' i.toNat - 1)) k ≤ nth W k
    rw [nthI_set _ _ _ _ (by omega)]
    have := hb k hk
    split
    · rename_i e; subst e; omega
    · exact this
  · show 0 ≤ nth (T.set i.toNat (nth T i.toNat - 1)) k ∧ nth (T.set i.toNat (nth T i.toNat - 1)) k ≤ 99
    rw [nthI_set _ _ _ _ (by omega)]
    have := h7 k hk
    split
    · rename_i e; subst e; omega
    · exact this
theorem next_ok {x : DTurns} (h : fTurnsOk x = true) : fTurnsOk (fTurnsNext x).1 = true := by
  have ht := tok_of h
  have hn := ht.n
  have hl := ht.lT
  unfold fTurnsNext
  rw [h, cond_true]
  cases ha : anyT x.T
  · exact h
  · rw [cond_true]
    split
    · rename_i h0
      rcases takeT_or x.L x.T x.p x.T.length (by omega) x.T.length 0 with e | e
      · omega
      · exact tok_serve ht (.inl rfl) e.1 e.2.1 e.2.2
    · have e := second ht ha
      exact tok_serve ht (.inr rfl) e.1 e.2.1 e.2.2
theorem ask_ok {x : DTurns} (i : Int) (h : fTurnsOk x = true) : fTurnsOk (fTurnsAsk x i).1 = true := by
  have ht := tok_of h
  obtain ⟨e1, e2, h3, h4, h5, h6, h7⟩ := ht
  unfold fTurnsAsk askF
  rw [if_pos (show turnsOkF x.W x.L x.T x.p = true from h)]
  split
  · rename_i hi
    refine tok_to (p := x.p) ⟨e1, by simp only [List.length_set]; omega, h3, h4, h5, h6, fun k hk => ?_⟩
    show 0 ≤ nth (x.T.set i.toNat (nth x.T i.toNat + 1)) k ∧ nth (x.T.set i.toNat (nth x.T i.toNat + 1)) k ≤ 99
    rw [nthI_set _ _ _ _ (by omega)]
    have := h7 k hk
    split
    · rename_i e; subst e; have := hi.2.2; omega
    · exact this
  · exact h
theorem new_ok {x : DIntS} (hl : 1 ≤ x.length ∧ x.length ≤ 5) (hx : ∀ k, k < x.length → 1 ≤ nth x k ∧ nth x k ≤ 9) : fTurnsOk (fTurnsNew x).1 = true := by
  have h : turnsOkF x x (List.replicate x.length 0) 0 = true := tok_to ⟨rfl, by simp, hl, by omega, hx, fun k hk => by have := hx k hk; omega, fun k hk => by
    have e : nth (List.replicate x.length (0 : Int)) k = 0 := by simp [nth, List.getD_eq_getElem?_getD, hk]
    rw [e]; omega⟩
  unfold fTurnsNew
  rw [h]; exact h
theorem ok_len {x : DTurns} (h : fTurnsOk x = true) : 1 ≤ x.W.length ∧ x.W.length ≤ 5 ∧ x.L.length = x.W.length ∧ x.T.length = x.W.length := by
  have ht := tok_of h
  exact ⟨ht.n.1, ht.n.2, ht.lL, ht.lT⟩
end Go.Proofs.Ytfcnimglcialbaa
