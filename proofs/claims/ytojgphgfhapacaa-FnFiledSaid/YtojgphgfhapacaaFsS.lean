/- Stores of files in plain Lean: right stores stay right; what is read behind each operation. -/
import Derived.Test.YtojgphgfhapacaaFsR
namespace Go.Proofs.Ytojgphgfhapacaa
set_option linter.unusedVariables false
set_option linter.unusedSimpArgs false
theorem no_uniq {F : List FFile} (h : F.Pairwise (fun f g => f.no < g.no)) {f g : FFile} (hf : f ∈ F) (hg : g ∈ F) (e : f.no = g.no) : f = g := by
  obtain ⟨i, hi, rfl⟩ := List.getElem_of_mem hf
  obtain ⟨j, hj, rfl⟩ := List.getElem_of_mem hg
  have hp := List.pairwise_iff_getElem.1 h
  rcases Nat.lt_trichotomy i j with h1 | h1 | h1
  · have := hp i j hi hj h1; omega
  · subst h1; rfl
  · have := hp j i hj hi h1; omega
theorem rd_mem {x : DFStore} (h : x.F.Pairwise (fun f g => f.no < g.no)) {f : FFile} (hf : f ∈ x.F) : rdF x f.no = some (fText x.B f) := by
  unfold rdF
  cases hq : x.F.find? (fun g => decide (g.no = f.no)) with
  | none =>
    have := List.find?_eq_none.1 hq f hf
    simp at this
  | some g =>
    have h1 := List.mem_of_find?_eq_some hq
    have h2 := List.find?_some hq
    have e : g = f := no_uniq h h1 hf (by simpa using h2)
    rw [e]; rfl
theorem rd_none {x : DFStore} {n : Int} (h : ∀ f ∈ x.F, f.no ≠ n) : rdF x n = none := by
  unfold rdF
  have : x.F.find? (fun g => decide (g.no = n)) = none := List.find?_eq_none.2 fun f hf => by simpa using h f hf
  rw [this]; rfl
theorem rd_case {x : DFStore} (h : x.F.Pairwise (fun f g => f.no < g.no)) (n : Int) : (∃ f ∈ x.F, f.no = n ∧ rdF x n = some (fText x.B f)) ∨ ((∀ f ∈ x.F, f.no ≠ n) ∧ rdF x n = none) := by
  by_cases he : ∃ f ∈ x.F, f.no = n
  · obtain ⟨f, hf, rfl⟩ := he
    exact .inl ⟨f, hf, rfl, rd_mem h hf⟩
  · have hn : ∀ f ∈ x.F, f.no ≠ n := fun f hf e => he ⟨f, hf, e⟩
    exact .inr ⟨hn, rd_none hn⟩
theorem flat_sub {α β : Type} (f : α → List β) {l m : List α} (h : l.Sublist m) : (l.flatMap f).Sublist (m.flatMap f) := by
  induction h with
  | slnil => exact List.Sublist.refl _
  | cons a h ih => rw [List.flatMap_cons]; exact ih.trans (List.sublist_append_right _ _)
  | cons_cons a h ih => rw [List.flatMap_cons, List.flatMap_cons]; exact List.Sublist.append (List.Sublist.refl _) ih
/-- A file is thrown away. -/
theorem drop_good {x : DFStore} (g : GoodFs x) {no : Int} {i : Nat} (hi : atF x.F no = some i) : GoodFs ⟨zeroB x.B (fileAt x.F i).bl, x.F.eraseIdx i⟩ ∧ ∀ m, rdF ⟨zeroB x.B (fileAt x.F i).bl, x.F.eraseIdx i⟩ m = if m = no then none else rdF x m := by
  obtain ⟨hil, hno⟩ := at_some hi
  have hfm := fileAt_mem hil
  have hmem : ∀ f ∈ x.F.eraseIdx i, f ∈ x.F ∧ ∀ b ∈ f.bl, b ∉ (fileAt x.F i).bl := fun f hf => by
    obtain ⟨j, hj, hne, rfl⟩ := List.mem_eraseIdx_iff_getElem.1 hf
    refine ⟨List.getElem_mem _, fun b hb => ?_⟩
    have := nodup_apart g.hd hj hil hne b
    rw [fileAt_get hj] at this
    exact this hb
  have hsame : ∀ f ∈ x.F.eraseIdx i, ∀ b ∈ f.bl, blkOf (zeroB x.B (fileAt x.F i).bl) b = blkOf x.B b := fun f hf b hb => by
    obtain ⟨h1, h2⟩ := hmem f hf
    have hr := g.hr f h1 b hb
    unfold blkOf
    rw [zero_nth _ _ _ (g.len hr), if_neg]
    rintro ⟨c, hc, e⟩
    have hrc := g.hr _ hfm c hc
    have := toNat_inj hrc.1 hr.1 e
    subst this
    exact h2 c hb hc
  have hp := g.hi.sublist (List.eraseIdx_sublist x.F i)
  refine ⟨⟨by rw [zero_len]; exact g.hB, by have := g.hF; have := List.length_eraseIdx_le x.F i; simp only; omega, fun u hu => ?_, fun f hf => g.hf f (hmem f hf).1, fun f hf => g.hr f (hmem f hf).1, hp, List.Nodup.sublist (flat_sub _ (List.eraseIdx_sublist x.F i)) g.hd, fun f hf => ?_, fun b hb hnb => ?_⟩, fun m => ?_⟩
  · obtain ⟨j, hj, rfl⟩ := List.getElem_of_mem hu
    have hj' : j < x.B.length := by rw [zero_len] at hj; exact hj
    have e : (zeroB x.B (fileAt x.F i).bl)[j] = nth (zeroB x.B (fileAt x.F i).bl) j := by simp [nth, hj]
    rw [e, zero_nth _ _ _ hj']
    split
    · exact zrs_size 8
    · exact g.h8 _ (nth_mem _ _ hj')
  · rw [tail_same (hsame f hf) (g.hf f (hmem f hf).1)]
    exact g.ht f (hmem f hf).1
  · simp only
    rw [zero_nth _ _ _ (by rw [g.hB]; exact hb)]
    split
    · rfl
    · rename_i hn
      refine g.hz b hb fun f hf hbf => ?_
      obtain ⟨j, hj, rfl⟩ := List.getElem_of_mem hf
      by_cases e : j = i
      · subst e
        exact hn ⟨(b : Int), by rw [fileAt_get hj]; exact hbf, by omega⟩
      · exact hnb _ (List.mem_eraseIdx_iff_getElem.2 ⟨j, hj, e, rfl⟩) hbf
  · by_cases e : m = no
    · rw [if_pos e]
      refine rd_none fun f hf => ?_
      obtain ⟨j, hj, hne, rfl⟩ := List.mem_eraseIdx_iff_getElem.1 hf
      intro h1
      have h2 := no_uniq g.hi (List.getElem_mem hj) hfm (by rw [h1, hno, e])
      have hp := List.pairwise_iff_getElem.1 g.hi
      rw [fileAt_get hil] at h2
      rcases Nat.lt_trichotomy j i with h3 | h3 | h3
      · have := hp j i hj hil h3; rw [h2] at this; omega
      · exact hne h3
      · have := hp i j hil hj h3; rw [h2] at this; omega
    · rw [if_neg e]
      rcases rd_case g.hi m with ⟨f, hf, hm, hr⟩ | ⟨hn, hr⟩
      · obtain ⟨j, hj, rfl⟩ := List.getElem_of_mem hf
        have hne : j ≠ i := fun h => by
          subst h
          rw [fileAt_get hj] at hno
          exact e (by rw [← hm, hno])
        have hmj : x.F[j] ∈ x.F.eraseIdx i := List.mem_eraseIdx_iff_getElem.2 ⟨j, hj, hne, rfl⟩
        rw [hr, ← hm]
        have := rd_mem (x := ⟨zeroB x.B (fileAt x.F i).bl, x.F.eraseIdx i⟩) hp hmj
        rw [this]
        congr 1
        exact text_same (hsame _ hmj)
      · rw [hr]
        exact rd_none fun f hf => hn f (hmem f hf).1
theorem set_file {F : List FFile} {i : Nat} {f' : FFile} (hi : i < F.length) : ∀ f ∈ F.set i f', f = f' ∨ (∃ j, j < F.length ∧ j ≠ i ∧ f = fileAt F j) := fun f hf => by
  obtain ⟨j, hj, rfl⟩ := List.getElem_of_mem hf
  rw [List.length_set] at hj
  rw [List.getElem_set]
  split
  · exact .inl rfl
  · rename_i hne
    exact .inr ⟨j, hj, Ne.symm hne, (fileAt_get hj).symm⟩
theorem set_sorted {F : List FFile} {i : Nat} {f' : FFile} (hi : i < F.length) (h : F.Pairwise (fun f g => f.no < g.no)) (e : f'.no = (fileAt F i).no) : (F.set i f').Pairwise (fun f g => f.no < g.no) := by
  rw [List.pairwise_iff_getElem] at h ⊢
  intro a b ha hb hab
  rw [List.length_set] at ha hb
  rw [fileAt_get hi] at e
  rw [List.getElem_set, List.getElem_set]
  split
  · rename_i h1
    subst h1
    rw [if_neg (by omega), e]
    exact h _ b ha hb hab
  · split
    · rename_i h2
      subst h2
      rw [e]
      exact h a _ ha hb hab
    · exact h a b ha hb hab
theorem set_flat {F : List FFile} {i : Nat} {f' : FFile} (hi : i < F.length) (e : f'.bl = (fileAt F i).bl) : (F.set i f').flatMap FFile.bl = F.flatMap FFile.bl := by
  rw [List.set_eq_take_append_cons_drop, if_pos hi]
  have : F = F.take i ++ F[i] :: F.drop (i + 1) := by rw [← List.drop_eq_getElem_cons hi, List.take_append_drop]
  conv => rhs; rw [this]
  rw [fileAt_get hi] at e
  simp only [List.flatMap_append, List.flatMap_cons, e]
/-- A file is sealed. -/
theorem seal_good {x : DFStore} (g : GoodFs x) {no : Int} {i : Nat} (hi : atF x.F no = some i) : GoodFs ⟨x.B, x.F.set i (shutF (fileAt x.F i))⟩ ∧ ∀ m, rdF ⟨x.B, x.F.set i (shutF (fileAt x.F i))⟩ m = rdF x m := by
  obtain ⟨hil, hno⟩ := at_some hi
  have hfm := fileAt_mem hil
  have hmem := set_file (f' := (shutF (fileAt x.F i))) hil
  have hp := set_sorted (f' := (shutF (fileAt x.F i))) hil g.hi rfl
  have hprop : ∀ p : FFile → Prop, (∀ f, p f → p (shutF f)) → (∀ f ∈ x.F, p f) → ∀ f ∈ x.F.set i (shutF (fileAt x.F i)), p f := fun p h1 h2 f hf => by
    rcases hmem f hf with rfl | ⟨j, hj, _, rfl⟩
    · exact h1 _ (h2 _ hfm)
    · exact h2 _ (fileAt_mem hj)
  refine ⟨⟨g.hB, by simp only [List.length_set]; exact g.hF, g.h8, hprop _ (fun f h => h) g.hf, hprop _ (fun f h => h) g.hr, hp, by show (List.flatMap FFile.bl (x.F.set i (shutF (fileAt x.F i)))).Nodup; rw [set_flat (f' := shutF (fileAt x.F i)) hil rfl]; exact g.hd, hprop (fun f => tailI x.B f = true) (fun f h => h) g.ht, fun b hb hnb => g.hz b hb fun f hf hbf => ?_⟩, fun m => ?_⟩
  · obtain ⟨j, hj, rfl⟩ := List.getElem_of_mem hf
    by_cases e : j = i
    · subst e
      refine hnb (shutF (fileAt x.F j)) ?_ (by show (b : Int) ∈ (fileAt x.F j).bl; rw [fileAt_get hj]; exact hbf)
      exact List.mem_iff_getElem.2 ⟨j, by rw [List.length_set]; exact hj, by rw [List.getElem_set, if_pos rfl]⟩
    · refine hnb x.F[j] ?_ hbf
      exact List.mem_iff_getElem.2 ⟨j, by rw [List.length_set]; exact hj, by rw [List.getElem_set, if_neg (Ne.symm e)]⟩
  · rcases rd_case g.hi m with ⟨f, hf, hm, hr⟩ | ⟨hn, hr⟩
    · obtain ⟨j, hj, rfl⟩ := List.getElem_of_mem hf
      rw [hr, ← hm]
      by_cases e : j = i
      · subst e
        have hmj : (shutF (fileAt x.F j)) ∈ x.F.set j (shutF (fileAt x.F j)) := List.mem_iff_getElem.2 ⟨j, by rw [List.length_set]; exact hj, by rw [List.getElem_set, if_pos rfl]⟩
        have := rd_mem (x := ⟨x.B, x.F.set j (shutF (fileAt x.F j))⟩) hp hmj
        rw [show (shutF (fileAt x.F j)).no = x.F[j].no by rw [← fileAt_get hj]; rfl] at this
        rw [this, ← fileAt_get hj]; rfl
      · have hmj : x.F[j] ∈ x.F.set i (shutF (fileAt x.F i)) := List.mem_iff_getElem.2 ⟨j, by rw [List.length_set]; exact hj, by rw [List.getElem_set, if_neg (Ne.symm e)]⟩
        exact rd_mem (x := ⟨x.B, x.F.set i (shutF (fileAt x.F i))⟩) hp hmj
    · rw [hr]
      refine rd_none fun f hf => ?_
      rcases hmem f hf with rfl | ⟨j, hj, _, rfl⟩
      · exact fun e => hn _ hfm e
      · exact hn _ (fileAt_mem hj)
/-- A file is made. -/
theorem next_gt {x : DFStore} (g : GoodFs x) : 1 ≤ nextNo x.F ∧ ∀ f ∈ x.F, f.no < nextNo x.F := by
  unfold nextNo
  by_cases h : x.F.length = 0
  · rw [if_pos h]
    refine ⟨Int.le_refl _, fun f hf => ?_⟩
    have := List.eq_nil_of_length_eq_zero h
    rw [this] at hf; cases hf
  · rw [if_neg h]
    have hl : x.F.length - 1 < x.F.length := by omega
    have hm := g.hf _ (fileAt_mem hl)
    unfold fileOk0 at hm
    simp only [Bool.and_eq_true, inB_true] at hm
    refine ⟨by omega, fun f hf => ?_⟩
    obtain ⟨j, hj, rfl⟩ := List.getElem_of_mem hf
    rw [fileAt_get hl]
    by_cases e : j = x.F.length - 1
    · subst e; omega
    · have := List.pairwise_iff_getElem.1 g.hi j (x.F.length - 1) hj hl (by omega)
      omega
theorem create_good {x : DFStore} (g : GoodFs x) {ow : Int} (ho : inB ow 1 99 = true) (hl : x.F.length < 6) (hn : nextNo x.F ≤ 1000000) : GoodFs ⟨x.B, x.F ++ [⟨nextNo x.F, ow, [], 0, false⟩]⟩ ∧ rdF x (nextNo x.F) = none ∧ ∀ m, rdF ⟨x.B, x.F ++ [⟨nextNo x.F, ow, [], 0, false⟩]⟩ m = if m = nextNo x.F then some ⟨#[]⟩ else rdF x m := by
  obtain ⟨h1, h2⟩ := next_gt g
  have hp : (x.F ++ [(⟨nextNo x.F, ow, [], 0, false⟩ : FFile)]).Pairwise (fun f g => f.no < g.no) := by
    rw [List.pairwise_append]
    exact ⟨g.hi, List.pairwise_singleton _ _, fun f hf h hh => by rw [List.mem_singleton] at hh; subst hh; exact h2 f hf⟩
  have hmem : ∀ p : FFile → Prop, (∀ f ∈ x.F, p f) → p ⟨nextNo x.F, ow, [], 0, false⟩ → ∀ f ∈ x.F ++ [(⟨nextNo x.F, ow, [], 0, false⟩ : FFile)], p f := fun p h3 h4 f hf => by
    rcases List.mem_append.1 hf with hf | hf
    · exact h3 f hf
    · rw [List.mem_singleton] at hf; subst hf; exact h4
  refine ⟨⟨g.hB, by simp only [List.length_append, List.length_singleton]; omega, g.h8, hmem _ g.hf ?_, hmem _ g.hr (fun b hb => by cases hb), hp, ?_, hmem (fun f => tailI x.B f = true) g.ht (by unfold tailI; rw [if_neg (by simp)]), fun b hb hnb => g.hz b hb fun f hf => hnb f (List.mem_append_left _ hf)⟩, ?_, fun m => ?_⟩
  · unfold fileOk0
    simp only [Bool.and_eq_true, inB_true, decide_eq_true_eq]
    simp only [inB_true] at ho
    exact ⟨⟨⟨⟨h1, hn⟩, ho⟩, by decide⟩, rfl⟩
  · simp only [List.flatMap_append, List.flatMap_cons, List.flatMap_nil, List.append_nil]
    exact g.hd
  · exact rd_none fun f hf e => by have := h2 f hf; omega
  · by_cases e : m = nextNo x.F
    · rw [if_pos e, e]
      exact rd_mem (x := ⟨x.B, x.F ++ [⟨nextNo x.F, ow, [], 0, false⟩]⟩) hp (List.mem_append_right _ List.mem_cons_self)
    · rw [if_neg e]
      rcases rd_case g.hi m with ⟨f, hf, hm, hr⟩ | ⟨hn2, hr⟩
      · rw [hr, ← hm]
        exact rd_mem (x := ⟨x.B, x.F ++ [⟨nextNo x.F, ow, [], 0, false⟩]⟩) hp (List.mem_append_left _ hf)
      · rw [hr]
        refine rd_none (hmem _ hn2 (fun h => e h.symm))
end Go.Proofs.Ytojgphgfhapacaa
