/- Stable order of entries in plain Lean: parts of a row in order; what keeps the order of equal ones. -/
import Derived.Test.YtbegbdfbfbkflaaOrd
namespace Go.Proofs.Ytbegbdfbfbkflaa
set_option linter.unusedVariables false
set_option linter.unusedSimpArgs false
/-- Same key and same number. -/
def sameE (a b : Ent) : Bool := sEq a.key b.key && decide (a.seq = b.seq)
/-- a may stand ahead of b. -/
def leE (a b : Ent) : Bool := !aheadE b a
theorem sEq_ref (a : ByteArray) : sEq a a = true := by unfold sEq; simp
theorem sEq_to {a b : ByteArray} (h : sEq a b = true) : a = b := by
  unfold sEq at h
  have h3 : a.toList = b.toList := by simpa using h
  have h4 : a.data.toList = b.data.toList := by rw [ByteArray.toList_eq, ByteArray.toList_eq] at h3; exact h3
  exact ByteArray.ext (Array.toList_inj.1 h4)
theorem ahead_irr (a : Ent) : aheadE a a = false := by unfold aheadE; rw [sLt_irrefl]; simp
theorem ahead_trans {a b c : Ent} (h : aheadE a b = true) (h2 : aheadE b c = true) : aheadE a c = true := by
  unfold aheadE at *
  rw [Bool.or_eq_true] at h h2 ⊢
  rcases h with h | h
  · rcases h2 with h2 | h2
    · exact .inl (sLt_trans h h2)
    · rw [Bool.and_eq_true] at h2
      have e := sEq_to h2.1
      rw [← e]; exact .inl h
  · rw [Bool.and_eq_true, decide_eq_true_eq] at h
    have e := sEq_to h.1
    rcases h2 with h2 | h2
    · rw [e]; exact .inl h2
    · rw [Bool.and_eq_true, decide_eq_true_eq] at h2
      rw [e]
      exact .inr (by rw [h2.1, Bool.true_and, decide_eq_true_eq]; omega)
theorem ahead_tri (a b : Ent) : aheadE a b = true ∨ aheadE b a = true ∨ sameE a b = true := by
  unfold aheadE sameE
  rcases sTri a.key b.key with ⟨h1, h2, h3⟩ | ⟨h1, h2, h3⟩ | ⟨h1, h2, h3⟩
  · left; rw [h1]; rfl
  · right; left; rw [h2]; rfl
  · have e := sEq_to h3
    rw [e, sEq_ref, sLt_irrefl]
    simp only [Bool.false_or, Bool.true_and, decide_eq_true_eq]
    omega
theorem ahead_not {a b : Ent} (h : aheadE a b = true) : aheadE b a = false := by
  cases h2 : aheadE b a with
  | false => rfl
  | true => have := ahead_trans h h2; rw [ahead_irr] at this; cases this
theorem ahead_diff {a b : Ent} (h : aheadE a b = true) : sameE a b = false := by
  cases h2 : sameE a b with
  | false => rfl
  | true =>
    unfold sameE at h2
    rw [Bool.and_eq_true, decide_eq_true_eq] at h2
    have e := sEq_to h2.1
    unfold aheadE at h
    rw [e, sLt_irrefl, h2.2] at h
    simp at h
theorem leE_trans {a b c : Ent} (h : leE a b = true) (h2 : leE b c = true) : leE a c = true := by
  unfold leE at *
  rw [Bool.not_eq_true'] at *
  cases h3 : aheadE c a with
  | false => rfl
  | true =>
    rcases ahead_tri b a with h4 | h4 | h4
    · rw [h4] at h; cases h
    · have := ahead_trans h3 h4; rw [this] at h2; cases h2
    · have e : sameE b a = true := h4
      unfold sameE at e
      rw [Bool.and_eq_true, decide_eq_true_eq] at e
      have e1 := sEq_to e.1
      have : aheadE c b = true := by
        unfold aheadE at h3 ⊢
        rw [e1, e.2]; exact h3
      rw [this] at h2; cases h2
theorem lt_le {a b : Ent} (h : aheadE a b = true) : leE a b = true := by unfold leE; rw [ahead_not h]; rfl
theorem lt_of_nle {a b : Ent} (h : leE a b = false) : aheadE b a = true := by unfold leE at h; simpa using h
theorem le_lt {a b c : Ent} (h : leE a b = true) (h2 : aheadE b c = true) : aheadE a c = true := by
  cases h3 : aheadE a c with
  | true => rfl
  | false =>
    have h4 : leE c a = true := by unfold leE; rw [h3]; rfl
    have := leE_trans h4 h
    unfold leE at this
    rw [h2] at this; cases this
theorem lt_le_lt {a b c : Ent} (h : aheadE a b = true) (h2 : leE b c = true) : aheadE a c = true := by
  cases h3 : aheadE a c with
  | true => rfl
  | false =>
    have h4 : leE c a = true := by unfold leE; rw [h3]; rfl
    have := leE_trans h2 h4
    unfold leE at this
    rw [h] at this; cases this
/-- A part of a row is in order. -/
def srtIn (L : List Ent) (a b : Nat) : Prop := ∀ i j, a ≤ i → i < j → j < b → leE (nth L i) (nth L j) = true
/-- The same entries of each key and number, in the same order. -/
def stb (L M : List Ent) : Prop := ∀ e, L.filter (sameE e) = M.filter (sameE e)
theorem stb_refl (L : List Ent) : stb L L := fun _ => rfl
theorem stb_trans {L M N : List Ent} (h : stb L M) (h2 : stb M N) : stb L N := fun e => (h e).trans (h2 e)
theorem same_sym (a b : Ent) : sameE a b = sameE b a := by
  unfold sameE
  have : sEq a.key b.key = sEq b.key a.key := by unfold sEq; exact Bool.beq_comm
  rw [this]
  congr 1
  exact decide_eq_decide.2 ⟨Eq.symm, Eq.symm⟩
theorem same_trans {a b c : Ent} (h : sameE a b = true) (h2 : sameE a c = true) : sameE b c = true := by
  unfold sameE at *
  simp only [Bool.and_eq_true, decide_eq_true_eq] at *
  rw [← sEq_to h.1, ← sEq_to h2.1, sEq_ref, ← h.2, ← h2.2]
  exact ⟨rfl, rfl⟩
/-- Two parts change places where all of the one stand strictly ahead of all of the other. -/
theorem stb_rot {P u v S : List Ent} (h : ∀ x ∈ u, ∀ y ∈ v, aheadE y x = true) : stb (P ++ u ++ v ++ S) (P ++ v ++ u ++ S) := fun e => by
  have key : u.filter (sameE e) ++ v.filter (sameE e) = v.filter (sameE e) ++ u.filter (sameE e) := by
    cases hu : u.filter (sameE e) with
    | nil => simp
    | cons x U =>
      cases hv : v.filter (sameE e) with
      | nil => simp
      | cons y V =>
        exfalso
        have hx : x ∈ u.filter (sameE e) := by rw [hu]; exact List.mem_cons_self
        have hy : y ∈ v.filter (sameE e) := by rw [hv]; exact List.mem_cons_self
        rw [List.mem_filter] at hx hy
        have h1 := ahead_diff (h x hx.1 y hy.1)
        have h2 := same_trans hy.2 hx.2
        rw [h1] at h2; cases h2
  simp only [List.filter_append, List.append_assoc]
  rw [← List.append_assoc (u.filter (sameE e)), key, List.append_assoc]
end Go.Proofs.Ytbegbdfbfbkflaa
