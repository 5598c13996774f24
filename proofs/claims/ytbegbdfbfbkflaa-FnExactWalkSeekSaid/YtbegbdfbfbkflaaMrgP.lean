/- Rows of entries merged, in plain Lean: the reference's way and the program's are one. -/
import Derived.Test.YtbegbdfbfbkflaaStbP
namespace Go.Proofs.Ytbegbdfbfbkflaa
set_option linter.unusedVariables false
set_option linter.unusedSimpArgs false
/-- Strictly in order. -/
def strE (L : List Ent) : Prop := L.Pairwise (fun a b => aheadE a b = true)
theorem strE_ext : ∀ (L M : List Ent), strE L → strE M → (∀ x, x ∈ L ↔ x ∈ M) → L = M
  | [], [], _, _, _ => rfl
  | [], b :: M, _, _, h => by have := (h b).2 List.mem_cons_self; simp at this
  | a :: L, [], _, _, h => by have := (h a).1 List.mem_cons_self; simp at this
  | a :: L, b :: M, h1, h2, h => by
    have p1 := List.pairwise_cons.1 h1
    have p2 := List.pairwise_cons.1 h2
    have e : a = b := by
      rcases List.mem_cons.1 ((h a).1 List.mem_cons_self) with e | e
      · exact e
      · rcases List.mem_cons.1 ((h b).2 List.mem_cons_self) with e2 | e2
        · exact e2.symm
        · have q := ahead_not (p2.1 a e); rw [p1.1 b e2] at q; cases q
    subst e
    congr 1
    refine strE_ext L M p1.2 p2.2 fun x => ⟨fun hx => ?_, fun hx => ?_⟩
    · rcases List.mem_cons.1 ((h x).1 (List.mem_cons_of_mem _ hx)) with e | e
      · subst e; have := p1.1 x hx; rw [ahead_irr] at this; cases this
      · exact e
    · rcases List.mem_cons.1 ((h x).2 (List.mem_cons_of_mem _ hx)) with e | e
      · subst e; have := p2.1 x hx; rw [ahead_irr] at this; cases this
      · exact e
theorem same_refl (a : Ent) : sameE a a = true := by unfold sameE; rw [sEq_ref]; simp
theorem find_str {L : List Ent} (h : strE L) (e : Ent) : L.find? (sameE e) = some e ↔ e ∈ L := by
  constructor
  · exact List.mem_of_find?_eq_some
  · intro he
    induction L with
    | nil => cases he
    | cons a L ih =>
      have p := List.pairwise_cons.1 h
      rw [List.find?_cons]
      rcases List.mem_cons.1 he with rfl | he
      · rw [same_refl]
      · have := ahead_diff (p.1 e he)
        rw [same_sym] at this
        rw [this]
        exact ih p.2 he
/-- One row into another; what is there stays. -/
def mrg : List Ent → List Ent → List Ent
  | [], R => R
  | o :: O, [] => o :: O
  | o :: O, r :: R => if aheadE r o = true then r :: mrg (o :: O) R else if aheadE o r = true then o :: mrg O (r :: R) else o :: mrg O R
termination_by O R => O.length + R.length
theorem mrg_mem : ∀ (O R : List Ent), strE O → strE R → ∀ e, e ∈ mrg O R ↔ e ∈ O ∨ (e ∈ R ∧ ∀ o ∈ O, sameE o e = false)
  | [], R, _, _, e => by simp [mrg]
  | o :: O, [], _, _, e => by simp [mrg]
  | o :: O, r :: R, h1, h2, e => by
    have p1 := List.pairwise_cons.1 h1
    have p2 := List.pairwise_cons.1 h2
    rw [mrg]
    split
    · rename_i h
      rw [List.mem_cons, mrg_mem (o :: O) R h1 p2.2]
      constructor
      · rintro (rfl | hm | ⟨hm, hn⟩)
        · refine .inr ⟨List.mem_cons_self, fun q hq => ?_⟩
          rw [same_sym]
          rcases List.mem_cons.1 hq with rfl | hq
          · exact ahead_diff h
          · exact ahead_diff (ahead_trans h (p1.1 q hq))
        · exact .inl hm
        · exact .inr ⟨List.mem_cons_of_mem _ hm, hn⟩
      · rintro (hm | ⟨hm, hn⟩)
        · exact .inr (.inl hm)
        · rcases List.mem_cons.1 hm with rfl | hm
          · exact .inl rfl
          · exact .inr (.inr ⟨hm, hn⟩)
    · rename_i h
      have h' : aheadE r o = false := by simpa using h
      split
      · rename_i h3
        rw [List.mem_cons, mrg_mem O (r :: R) p1.2 h2]
        constructor
        · rintro (rfl | hm | ⟨hm, hn⟩)
          · exact .inl List.mem_cons_self
          · exact .inl (List.mem_cons_of_mem _ hm)
          · refine .inr ⟨hm, fun q hq => ?_⟩
            rcases List.mem_cons.1 hq with rfl | hq
            · rcases List.mem_cons.1 hm with rfl | hm
              · exact ahead_diff h3
              · exact ahead_diff (ahead_trans h3 (p2.1 e hm))
            · exact hn q hq
        · rintro (hm | ⟨hm, hn⟩)
          · rcases List.mem_cons.1 hm with rfl | hm
            · exact .inl rfl
            · exact .inr (.inl hm)
          · exact .inr (.inr ⟨hm, fun q hq => hn q (List.mem_cons_of_mem _ hq)⟩)
      · rename_i h3
        have h3' : aheadE o r = false := by simpa using h3
        have hs : sameE o r = true := by
          rcases ahead_tri o r with h4 | h4 | h4
          · rw [h3'] at h4; cases h4
          · rw [h'] at h4; cases h4
          · exact h4
        rw [List.mem_cons, mrg_mem O R p1.2 p2.2]
        constructor
        · rintro (rfl | hm | ⟨hm, hn⟩)
          · exact .inl List.mem_cons_self
          · exact .inl (List.mem_cons_of_mem _ hm)
          · refine .inr ⟨List.mem_cons_of_mem _ hm, fun q hq => ?_⟩
            rcases List.mem_cons.1 hq with rfl | hq
            · cases h5 : sameE q e with
              | false => rfl
              | true =>
                have h6 := same_trans hs h5
                rw [ahead_diff (p2.1 e hm)] at h6; cases h6
            · exact hn q hq
        · rintro (hm | ⟨hm, hn⟩)
          · rcases List.mem_cons.1 hm with rfl | hm
            · exact .inl rfl
            · exact .inr (.inl hm)
          · rcases List.mem_cons.1 hm with rfl | hm
            · have := hn o List.mem_cons_self; rw [hs] at this; cases this
            · exact .inr (.inr ⟨hm, fun q hq => hn q (List.mem_cons_of_mem _ hq)⟩)
termination_by O R => O.length + R.length
theorem mrg_str : ∀ (O R : List Ent), strE O → strE R → strE (mrg O R)
  | [], R, _, h2 => by rw [mrg]; exact h2
  | o :: O, [], h1, _ => by rw [mrg]; exact h1
  | o :: O, r :: R, h1, h2 => by
    have p1 := List.pairwise_cons.1 h1
    have p2 := List.pairwise_cons.1 h2
    rw [mrg]
    split
    · rename_i h
      refine List.pairwise_cons.2 ⟨fun e he => ?_, mrg_str (o :: O) R h1 p2.2⟩
      rcases (mrg_mem (o :: O) R h1 p2.2 e).1 he with hm | ⟨hm, _⟩
      · rcases List.mem_cons.1 hm with rfl | hm
        · exact h
        · exact ahead_trans h (p1.1 e hm)
      · exact p2.1 e hm
    · rename_i h
      split
      · rename_i h3
        refine List.pairwise_cons.2 ⟨fun e he => ?_, mrg_str O (r :: R) p1.2 h2⟩
        rcases (mrg_mem O (r :: R) p1.2 h2 e).1 he with hm | ⟨hm, _⟩
        · exact p1.1 e hm
        · rcases List.mem_cons.1 hm with rfl | hm
          · exact h3
          · exact ahead_trans h3 (p2.1 e hm)
      · rename_i h3
        have h' : aheadE r o = false := by simpa using h
        have hle : leE o r = true := by unfold leE; rw [h']; rfl
        refine List.pairwise_cons.2 ⟨fun e he => ?_, mrg_str O R p1.2 p2.2⟩
        rcases (mrg_mem O R p1.2 p2.2 e).1 he with hm | ⟨hm, _⟩
        · exact p1.1 e hm
        · exact le_lt hle (p2.1 e hm)
termination_by O R => O.length + R.length
theorem mrg_len : ∀ (O R : List Ent), (mrg O R).length ≤ O.length + R.length
  | [], R => by simp [mrg]
  | o :: O, [] => by simp [mrg]
  | o :: O, r :: R => by
    rw [mrg]
    split
    · have := mrg_len (o :: O) R; simp only [List.length_cons] at *; omega
    · split
      · have := mrg_len O (r :: R); simp only [List.length_cons] at *; omega
      · have := mrg_len O R; simp only [List.length_cons] at *; omega
termination_by O R => O.length + R.length
def mergeS (rows : List (List Ent)) : List Ent := rows.foldl mrg []
theorem mergeS_gen : ∀ (rows : List (List Ent)) (L0 acc : List Ent), strE acc → (∀ e, e ∈ acc ↔ L0.find? (sameE e) = some e) → (∀ l ∈ rows, strE l) → strE (rows.foldl mrg acc) ∧ ∀ e, e ∈ rows.foldl mrg acc ↔ (L0 ++ rows.flatten).find? (sameE e) = some e
  | [], L0, acc, h1, h2, _ => ⟨h1, fun e => by rw [List.flatten_nil, List.append_nil]; exact h2 e⟩
  | r :: rows, L0, acc, h1, h2, h3 => by
    have hr := h3 r List.mem_cons_self
    have hm := mrg_mem acc r h1 hr
    have hs := mrg_str acc r h1 hr
    rw [List.foldl_cons, List.flatten_cons, ← List.append_assoc]
    refine mergeS_gen rows (L0 ++ r) (mrg acc r) hs (fun e => ?_) (fun l hl => h3 l (List.mem_cons_of_mem _ hl))
    rw [hm e, h2 e, List.find?_append]
    cases hf : L0.find? (sameE e) with
    | none =>
      simp only [Option.none_or, reduceCtorEq, false_or]
      rw [find_str hr]
      constructor
      · exact fun h => h.1
      · intro he
        refine ⟨he, fun o ho => ?_⟩
        cases h5 : sameE o e with
        | false => rfl
        | true =>
          exfalso
          have h6 := (h2 o).1 ho
          have h7 := List.mem_of_find?_eq_some h6
          have h8 := List.find?_eq_none.1 hf o h7
          rw [same_sym, h5] at h8; simp at h8
    | some x =>
      simp only [Option.some_or]
      constructor
      · rintro (h | ⟨_, hn⟩)
        · exact h
        · exfalso
          have h4 := List.find?_some hf
          have hx : x ∈ acc := by
            rw [h2 x]
            have : L0.find? (sameE x) = L0.find? (sameE e) := by
              congr 1
              funext z
              cases h6 : sameE e z with
              | true => exact same_trans h4 h6
              | false =>
                cases h7 : sameE x z with
                | false => rfl
                | true =>
                  have h8 : sameE x e = true := by rw [same_sym]; exact h4
                  have := same_trans h8 h7
                  rw [h6] at this; cases this
            rw [this, hf]
          have h5 := hn x hx
          rw [same_sym, h4] at h5; cases h5
      · exact .inl
theorem mergeS_str {rows : List (List Ent)} (h : ∀ l ∈ rows, strE l) : strE (mergeS rows) ∧ ∀ e, e ∈ mergeS rows ↔ rows.flatten.find? (sameE e) = some e := by
  have := mergeS_gen rows [] [] List.Pairwise.nil (fun e => by simp) h
  simpa [mergeS] using this
/-- The program's way: in order, stably, then of each run the first. -/
def cmpct : List Ent → List Ent
  | [] => []
  | [a] => [a]
  | a :: b :: L => if sameE a b = true then cmpct (a :: L) else a :: cmpct (b :: L)
termination_by L => L.length
theorem cmpct_head : ∀ (L : List Ent) (a : Ent), ∃ D, cmpct (a :: L) = a :: D
  | [], a => ⟨[], by rw [cmpct]⟩
  | b :: L, a => by
    rw [cmpct]
    split
    · exact cmpct_head L a
    · exact ⟨_, rfl⟩
def leS' (L : List Ent) : Prop := L.Pairwise (fun a b => leE a b = true)
theorem le_same {a b c : Ent} (h : leE a b = true) (h2 : leE b c = true) (h3 : sameE a c = true) : sameE a b = true := by
  rcases ahead_tri a b with h4 | h4 | h4
  · have := lt_le_lt h4 h2
    rw [ahead_diff this] at h3; cases h3
  · unfold leE at h; rw [h4] at h; cases h
  · exact h4
theorem cmpct_spec : ∀ (L : List Ent), leS' L → strE (cmpct L) ∧ ∀ e, e ∈ cmpct L ↔ L.find? (sameE e) = some e
  | [], _ => by rw [cmpct]; exact ⟨List.Pairwise.nil, fun e => by simp⟩
  | [a], _ => by
    rw [cmpct]
    refine ⟨List.pairwise_singleton _ _, fun e => ?_⟩
    rw [List.mem_singleton, List.find?_cons]
    constructor
    · rintro rfl; rw [same_refl]
    · intro h; split at h
      · cases h; rfl
      · simp at h
  | a :: b :: L, h => by
    have p := List.pairwise_cons.1 h
    have p2 := List.pairwise_cons.1 p.2
    rw [cmpct]
    split
    · rename_i hs
      have hl : leS' (a :: L) := List.pairwise_cons.2 ⟨fun c hc => p.1 c (List.mem_cons_of_mem _ hc), p2.2⟩
      obtain ⟨q1, q2⟩ := cmpct_spec (a :: L) hl
      refine ⟨q1, fun e => ?_⟩
      rw [q2 e, List.find?_cons, List.find?_cons, List.find?_cons]
      cases h1 : sameE e a with
      | true => rfl
      | false =>
        have h2 : sameE e b = false := by
          cases h3 : sameE e b with
          | false => rfl
          | true =>
            have h4 : sameE b e = true := by rw [same_sym]; exact h3
            have h5 : sameE b a = true := by rw [same_sym]; exact hs
            have := same_trans h4 h5
            rw [h1] at this; cases this
        simp only [h2]
    · rename_i hs
      have hs' : sameE a b = false := by simpa using hs
      have hab : aheadE a b = true := by
        rcases ahead_tri a b with h4 | h4 | h4
        · exact h4
        · have := p.1 b List.mem_cons_self; unfold leE at this; rw [h4] at this; cases this
        · rw [hs'] at h4; cases h4
      obtain ⟨q1, q2⟩ := cmpct_spec (b :: L) p.2
      have hall : ∀ e ∈ b :: L, aheadE a e = true := fun e he => by
        rcases List.mem_cons.1 he with rfl | he
        · exact hab
        · exact lt_le_lt hab (p2.1 e he)
      have hsub : ∀ e, e ∈ cmpct (b :: L) → e ∈ b :: L := fun e he => List.mem_of_find?_eq_some ((q2 e).1 he)
      refine ⟨List.pairwise_cons.2 ⟨fun e he => hall e (hsub e he), q1⟩, fun e => ?_⟩
      rw [List.mem_cons, q2 e, List.find?_cons (a := a)]
      cases h1 : sameE e a with
      | true =>
        constructor
        · rintro (rfl | he)
          · rfl
          · exfalso
            have := ahead_diff (hall e (List.mem_of_find?_eq_some he))
            rw [same_sym, h1] at this; cases this
        · intro he; exact .inl (by simpa using he.symm)
      | false =>
        constructor
        · rintro (rfl | he)
          · rw [same_refl] at h1; cases h1
          · exact he
        · exact .inr
termination_by L => L.length
theorem find_filter (p : Ent → Bool) (L : List Ent) : L.find? p = (L.filter p).head? := by
  induction L with
  | nil => rfl
  | cons a L ih =>
    rw [List.find?_cons, List.filter_cons]
    cases p a with
    | true => rfl
    | false => exact ih
/-- Both ways lead to the same row. -/
theorem merge_same {rows : List (List Ent)} (h : ∀ l ∈ rows, strE l) {S : List Ent} (hs : leS' S) (hb : stb rows.flatten S) : cmpct S = mergeS rows := by
  obtain ⟨a1, a2⟩ := mergeS_str h
  obtain ⟨b1, b2⟩ := cmpct_spec S hs
  refine strE_ext _ _ b1 a1 fun e => ?_
  rw [a2 e, b2 e, find_filter, find_filter, hb e]
theorem srt_le {L : List Ent} (h : srtIn L 0 L.length) : leS' L := by
  unfold leS'
  rw [List.pairwise_iff_getElem]
  intro i j hi hj hij
  have := h i j (Nat.zero_le _) hij hj
  simpa [nth, hi, hj] using this
theorem inOrd_str {L : List Ent} (h : inOrd L = true) : strE L := by
  unfold inOrd at h
  rw [List.all_eq_true] at h
  have hadj : ∀ i, 0 < i → i < L.length → aheadE (nth L (i - 1)) (nth L i) = true := fun i h0 hi => by
    have := h i (List.mem_range.2 hi)
    unfold ordE at this
    simp only [Bool.not_eq_true', Bool.or_eq_false_iff, Bool.and_eq_false_iff, decide_eq_false_iff_not, Bool.not_eq_false'] at this
    rcases this.2 with h1 | h1
    · omega
    · exact h1
  have hlt : ∀ (j i : Nat), i < j → j < L.length → aheadE (nth L i) (nth L j) = true := by
    intro j
    induction j with
    | zero => intro i h1; omega
    | succ j ih =>
      intro i h1 h2
      have h3 := hadj (j + 1) (by omega) h2
      rw [Nat.add_sub_cancel] at h3
      rcases Nat.lt_succ_iff_lt_or_eq.1 h1 with h4 | rfl
      · exact ahead_trans (ih i h4 (by omega)) h3
      · exact h3
  unfold strE
  rw [List.pairwise_iff_getElem]
  intro i j hi hj hij
  have := hlt j i hij hj
  simpa [nth, hi, hj] using this
end Go.Proofs.Ytbegbdfbfbkflaa
