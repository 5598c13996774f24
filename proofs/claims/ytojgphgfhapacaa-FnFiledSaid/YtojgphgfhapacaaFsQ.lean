/- Stores of files in plain Lean: what a right store is, told apart. -/
import Derived.Test.YtojgphgfhapacaaFsP
namespace Go.Proofs.Ytojgphgfhapacaa
set_option linter.unusedVariables false
set_option linter.unusedSimpArgs false
structure GoodFs (x : DFStore) : Prop where
  hB : x.B.length = 24
  hF : x.F.length ≤ 6
  h8 : ∀ u ∈ x.B, u.size = 8
  hf : ∀ f ∈ x.F, fileOk0 f = true
  hr : ∀ f ∈ x.F, ∀ b ∈ f.bl, 0 ≤ b ∧ b ≤ 23
  hi : x.F.Pairwise (fun f g => f.no < g.no)
  hd : (x.F.flatMap FFile.bl).Nodup
  ht : ∀ f ∈ x.F, tailI x.B f = true
  hz : ∀ b : Nat, b < 24 → (∀ f ∈ x.F, (b : Int) ∉ f.bl) → nth x.B b = zrs 8
theorem nth_mem_iff {l : List Int} {p : Int → Prop} : (∀ i, i < l.length → p (nth l i)) ↔ ∀ b ∈ l, p b := by
  constructor
  · intro h b hb
    obtain ⟨i, hi, rfl⟩ := List.getElem_of_mem hb
    have := h i hi
    simpa [nth, hi] using this
  · intro h i hi
    exact h _ (nth_mem l i hi)
theorem toNat_inj {a b : Int} (ha : 0 ≤ a) (hb : 0 ≤ b) (h : a.toNat = b.toNat) : a = b := by omega
/-- Marks: all in range, none twice, none marked before. -/
theorem useC_iff : ∀ (l : List Int) (k : Nat) (U : List Bool), U.length = 24 → ((useC (fun _ _ => true) k U l).isSome = true ↔ (∀ b ∈ l, 0 ≤ b ∧ b ≤ 23) ∧ l.Nodup ∧ ∀ b ∈ l, nth U b.toNat = false)
  | [], k, U, hU => by simp [useC]
  | b :: l, k, U, hU => by
    rw [useC]
    by_cases h : (inB b 0 23 && !nth U b.toNat && true) = true
    · rw [if_pos h, useC_iff l _ _ (by rw [List.length_set]; exact hU)]
      simp only [Bool.and_eq_true, inB_true, Bool.not_eq_true'] at h
      have hs : ∀ c : Int, 0 ≤ c → c ≤ 23 → nth (U.set b.toNat true) c.toNat = if c = b then true else nth U c.toNat := fun c h0 h1 => by
        by_cases e : c = b
        · subst e; rw [if_pos rfl]; exact nth_set U _ true (by omega)
        · rw [if_neg e]
          have : c.toNat ≠ b.toNat := fun h2 => e (toNat_inj h0 h.1.1.1 h2)
          simp [nth, List.getD_eq_getElem?_getD, this.symm]
      constructor
      · rintro ⟨h1, h2, h3⟩
        refine ⟨fun c hc => ?_, List.nodup_cons.2 ⟨fun hm => ?_, h2⟩, fun c hc => ?_⟩
        · rcases List.mem_cons.1 hc with rfl | hc
          · exact h.1.1
          · exact h1 c hc
        · have := h3 b hm
          rw [hs b h.1.1.1 h.1.1.2, if_pos rfl] at this; cases this
        · rcases List.mem_cons.1 hc with rfl | hc
          · exact h.1.2
          · have q := h3 c hc
            rw [hs c (h1 c hc).1 (h1 c hc).2] at q
            split at q
            · cases q
            · exact q
      · rintro ⟨h1, h2, h3⟩
        have h2 := List.nodup_cons.1 h2
        refine ⟨fun c hc => h1 c (List.mem_cons_of_mem _ hc), h2.2, fun c hc => ?_⟩
        rw [hs c (h1 c (List.mem_cons_of_mem _ hc)).1 (h1 c (List.mem_cons_of_mem _ hc)).2, if_neg (fun e : c = b => h2.1 (e ▸ hc))]
        exact h3 c (List.mem_cons_of_mem _ hc)
    · rw [if_neg h]
      simp only [Option.isSome_none, Bool.false_eq_true, false_iff]
      rintro ⟨h1, h2, h3⟩
      apply h
      have := h1 b List.mem_cons_self
      have h4 := h3 b List.mem_cons_self
      simp only [Bool.and_eq_true, inB_true, Bool.not_eq_true']
      exact ⟨⟨this, h4⟩, trivial⟩
/-- The files: all right, rising, no block twice. -/
theorem files_iff (q : FFile → Bool) : ∀ (F : List FFile) (p : Option Int) (U : List Bool), U.length = 24 → ((filesF (fun _ _ _ => true) q p U F).isSome = true ↔ (∀ f ∈ F, fileOk0 f = true ∧ (∀ b ∈ f.bl, 0 ≤ b ∧ b ≤ 23) ∧ q f = true) ∧ F.Pairwise (fun f g => f.no < g.no) ∧ (∀ n, p = some n → ∀ f ∈ F, n < f.no) ∧ (F.flatMap FFile.bl).Nodup ∧ ∀ b ∈ F.flatMap FFile.bl, nth U b.toNat = false)
  | [], p, U, hU => by simp [filesF]
  | x :: F, p, U, hU => by
    rw [filesF]
    have hui := useC_iff x.bl 0 U hU
    constructor
    · intro h
      split at h
      · rename_i h0
        rw [Bool.and_eq_true] at h0
        split at h
        · rename_i U1 h1
          split at h
          · rename_i h2
            have hl : U1.length = 24 := by rw [useC_len _ _ _ _ _ h1]; exact hU
            obtain ⟨a1, a2, a3, a4, a5⟩ := (files_iff q F (some x.no) U1 hl).1 h
            obtain ⟨b1, b2, b3⟩ := hui.1 (by rw [h1]; rfl)
            have hm := (useC_mark _ _ _ _ _ hU h1).2
            have hfr : ∀ b ∈ F.flatMap FFile.bl, 0 ≤ b ∧ b ≤ 23 := fun b hb => by
              obtain ⟨f, hf, hb⟩ := List.mem_flatMap.1 hb
              exact (a1 f hf).2.1 b hb
            refine ⟨fun f hf => ?_, List.pairwise_cons.2 ⟨fun f hf => a3 _ rfl f hf, a2⟩, fun n hn f hf => ?_, ?_, fun b hb => ?_⟩
            · rcases List.mem_cons.1 hf with rfl | hf
              · exact ⟨h0.1, b1, h2⟩
              · exact a1 f hf
            · subst hn
              have h5 : n < x.no := by simpa [prevOk] using h0.2
              rcases List.mem_cons.1 hf with rfl | hf
              · exact h5
              · exact Int.lt_trans h5 (a3 _ rfl f hf)
            · rw [List.flatMap_cons]
              refine List.nodup_append.2 ⟨b2, a4, fun b hb c hc e => ?_⟩
              subst e
              have h5 := a5 b hc
              have h6 := b1 b hb
              obtain ⟨i, hi, e⟩ := List.getElem_of_mem hb
              have h7 := (hm b.toNat (by omega)).2 (.inr ⟨i, hi, by simp [nth, hi, e]⟩)
              rw [h7] at h5; cases h5
            · rw [List.flatMap_cons, List.mem_append] at hb
              rcases hb with hb | hb
              · exact b3 b hb
              · have h5 := a5 b hb
                have h6 := hfr b hb
                cases h7 : nth U b.toNat with
                | false => rfl
                | true => rw [(hm b.toNat (by omega)).2 (.inl h7)] at h5; cases h5
          · cases h
        · cases h
      · cases h
    · rintro ⟨a1, a2, a3, a4, a5⟩
      have ax := a1 x List.mem_cons_self
      rw [List.flatMap_cons] at a4 a5
      have a4 := List.nodup_append.1 a4
      have hs := hui.2 ⟨ax.2.1, a4.1, fun b hb => a5 b (List.mem_append_left _ hb)⟩
      rw [if_pos (by
        rw [Bool.and_eq_true]
        refine ⟨ax.1, ?_⟩
        cases p with
        | none => rfl
        | some n => exact decide_eq_true (a3 n rfl x List.mem_cons_self))]
      cases h1 : useC (fun _ _ => true) 0 U x.bl with
      | none => rw [h1] at hs; cases hs
      | some U1 =>
        simp only [ax.2.2, if_true]
        have hl : U1.length = 24 := by rw [useC_len _ _ _ _ _ h1]; exact hU
        have hm := (useC_mark _ _ _ _ _ hU h1).2
        have hp := List.pairwise_cons.1 a2
        refine (files_iff q F (some x.no) U1 hl).2 ⟨fun f hf => a1 f (List.mem_cons_of_mem _ hf), hp.2, fun n hn f hf => by cases hn; exact hp.1 f hf, a4.2.1, fun b hb => ?_⟩
        have hbr : 0 ≤ b ∧ b ≤ 23 := by
          obtain ⟨f, hf, hb⟩ := List.mem_flatMap.1 hb
          exact (a1 f (List.mem_cons_of_mem _ hf)).2.1 b hb
        cases h7 : nth U1 b.toNat with
        | false => rfl
        | true =>
          exfalso
          rcases (hm b.toNat (by omega)).1 h7 with h8 | ⟨i, hi, h8⟩
          · rw [a5 b (List.mem_append_right _ hb)] at h8; cases h8
          · have hmem := nth_mem x.bl i hi
            have h9 := ax.2.1 _ hmem
            have e := toNat_inj h9.1 hbr.1 h8
            rw [e] at hmem
            exact a4.2.2 b hmem b hb rfl
/-- Which blocks are marked at the end. -/
theorem files_mark (q : FFile → Bool) : ∀ (F : List FFile) (p : Option Int) (U U' : List Bool), U.length = 24 → filesF (fun _ _ _ => true) q p U F = some U' → ∀ j, j < 24 → (nth U' j = true ↔ nth U j = true ∨ ∃ b ∈ F.flatMap FFile.bl, b.toNat = j)
  | [], p, U, U', hU, h, j, hj => by cases h; simp
  | x :: F, p, U, U', hU, h, j, hj => by
    rw [filesF] at h
    split at h
    · split at h
      · rename_i U1 h1
        split at h
        · have hl : U1.length = 24 := by rw [useC_len _ _ _ _ _ h1]; exact hU
          rw [files_mark q F _ _ _ hl h j hj, (useC_mark _ _ _ _ _ hU h1).2 j hj, List.flatMap_cons]
          constructor
          · rintro ((h2 | ⟨i, hi, h2⟩) | ⟨b, hb, h2⟩)
            · exact .inl h2
            · exact .inr ⟨_, List.mem_append_left _ (nth_mem x.bl i hi), h2⟩
            · exact .inr ⟨b, List.mem_append_right _ hb, h2⟩
          · rintro (h2 | ⟨b, hb, h2⟩)
            · exact .inl (.inl h2)
            · rcases List.mem_append.1 hb with hb | hb
              · obtain ⟨i, hi, e⟩ := List.getElem_of_mem hb
                exact .inl (.inr ⟨i, hi, by simp [nth, hi, e, h2]⟩)
              · exact .inr ⟨b, hb, h2⟩
        · cases h
      · cases h
    · cases h
theorem sEq_yes {a b : ByteArray} (h : sEq a b = true) : a = b := by
  unfold sEq at h
  have h3 : a.toList = b.toList := by simpa using h
  rw [ByteArray.toList_eq, ByteArray.toList_eq] at h3
  exact ByteArray.ext (Array.toList_inj.1 h3)
theorem fs_good (x : DFStore) : fFsOk x = true ↔ GoodFs x := by
  have hn : noF.length = 24 := by simp [noF]
  have hfi := files_iff (tailI x.B) x.F none noF hn
  have hno : ∀ j, nth noF j = false := nth_false
  unfold fFsOk
  constructor
  · intro h
    rw [Bool.and_eq_true, Bool.and_eq_true, Bool.and_eq_true, decide_eq_true_eq, decide_eq_true_eq, List.all_eq_true] at h
    obtain ⟨⟨⟨h1, h2⟩, h3⟩, h4⟩ := h
    cases hf : filesF (fun _ _ _ => true) (tailI x.B) none noF x.F with
    | none => rw [hf] at h4; cases h4
    | some U =>
      rw [hf] at h4 hfi
      obtain ⟨a1, a2, a3, a4, a5⟩ := hfi.1 rfl
      have hm := files_mark _ _ _ _ _ hn hf
      refine ⟨h1, h2, fun u hu => by simpa using h3 u hu, fun f hf => (a1 f hf).1, fun f hf => (a1 f hf).2.1, a2, a4, fun f hf => (a1 f hf).2.2, fun b hb hnb => ?_⟩
      have h5 : freeOk x.B U = true := h4
      unfold freeOk at h5
      rw [List.all_eq_true] at h5
      have h6 := h5 b (List.mem_range.2 hb)
      rw [Bool.or_eq_true] at h6
      rcases h6 with h6 | h6
      · exfalso
        rcases (hm b hb).1 h6 with h7 | ⟨c, hc, h7⟩
        · rw [hno] at h7; cases h7
        · obtain ⟨f, hf, hc⟩ := List.mem_flatMap.1 hc
          have := (a1 f hf).2.1 c hc
          have e : c = (b : Int) := by omega
          rw [e] at hc
          exact hnb f hf hc
      · exact sEq_yes h6
  · intro g
    have hs := hfi.2 ⟨fun f hf => ⟨g.hf f hf, g.hr f hf, g.ht f hf⟩, g.hi, fun n hn => (by cases hn), g.hd, fun b _ => hno _⟩
    cases hf : filesF (fun _ _ _ => true) (tailI x.B) none noF x.F with
    | none => rw [hf] at hs; cases hs
    | some U =>
      have hm := files_mark _ _ _ _ _ hn hf
      have h3 : x.B.all (fun u => decide (u.size = 8)) = true := by rw [List.all_eq_true]; exact fun u hu => decide_eq_true (g.h8 u hu)
      rw [g.hB, h3, decide_eq_true g.hF]
      show (true && true && true && freeOk x.B U) = true
      simp only [Bool.and_self, Bool.true_and]
      unfold freeOk
      rw [List.all_eq_true]
      intro b hb
      have hb := List.mem_range.1 hb
      rw [Bool.or_eq_true]
      cases hu : nth U b with
      | true => exact .inl rfl
      | false =>
        right
        rw [g.hz b hb (fun f hf hbf => by
          have := (hm b hb).2 (.inr ⟨(b : Int), List.mem_flatMap.2 ⟨f, hf, hbf⟩, by omega⟩)
          rw [hu] at this; cases this)]
        unfold sEq; simp
end Go.Proofs.Ytojgphgfhapacaa
