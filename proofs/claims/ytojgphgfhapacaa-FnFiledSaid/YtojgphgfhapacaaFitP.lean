/- How both programs go through a store of files: marks, free blocks, and the blocks that an append takes. In plain Lean. -/
import Derived.Test.YtojgphgfhapacaaFilP
namespace Go.Proofs.Ytojgphgfhapacaa
set_option linter.unusedVariables false
set_option linter.unusedSimpArgs false
/-- The marks behind one file, and whether all its blocks were free. -/
def useM : List Bool → List Int → List Bool × Bool
  | U, [] => (U, true)
  | U, b :: l => if (inB b 0 23 && !nth U b.toNat) = true then useM (U.set b.toNat true) l else (U, false)
theorem useM_C : ∀ (l : List Int) (k : Nat) (U : List Bool), useC (fun _ _ => true) k U l = if (useM U l).2 = true then some (useM U l).1 else none
  | [], k, U => rfl
  | b :: l, k, U => by
    rw [useC, useM, Bool.and_true]
    split
    · exact useM_C l _ _
    · rfl
theorem useM_len : ∀ (l : List Int) (U : List Bool), (useM U l).1.length = U.length
  | [], U => rfl
  | b :: l, U => by
    rw [useM]
    split
    · rw [useM_len l, List.length_set]
    · rfl
theorem useM_step (U : List Bool) {l : List Int} {k : Nat} (hk : k < l.length) : useM U (l.drop k) = if (inB (nth l k) 0 23 && !nth U (nth l k).toNat) = true then useM (U.set (nth l k).toNat true) (l.drop (k + 1)) else (U, false) := by
  have e : nth l k = l[k] := by simp [nth, hk]
  rw [List.drop_eq_getElem_cons hk, useM, e]
theorem useC_step (c : Nat → Int → Bool) (U : List Bool) {l : List Int} {k : Nat} (hk : k < l.length) : useC c k U (l.drop k) = if (inB (nth l k) 0 23 && !nth U (nth l k).toNat && c k (nth l k)) = true then useC c (k + 1) (U.set (nth l k).toNat true) (l.drop (k + 1)) else none := by
  have e : nth l k = l[k] := by simp [nth, hk]
  rw [List.drop_eq_getElem_cons hk, useC, e]
/-- One file: the marks behind it, and whether it fits. -/
def fitF (B : List ByteArray) (U : List Bool) (x : FFile) : List Bool × Bool := if fileOk0 x = true then ((useM U x.bl).1, (useM U x.bl).2 && tailI B x) else (U, false)
theorem fitF_len (B : List ByteArray) (U : List Bool) (x : FFile) : (fitF B U x).1.length = U.length := by
  unfold fitF
  split
  · exact useM_len _ _
  · rfl
def fitsF (B : List ByteArray) : Option Int → List Bool → List FFile → Option (List Bool)
  | _, U, [] => some U
  | p, U, x :: F => if ((fitF B U x).2 && prevOk p x) = true then fitsF B (some x.no) (fitF B U x).1 F else none
theorem fits_files (B : List ByteArray) : ∀ (F : List FFile) (p : Option Int) (U : List Bool), filesF (fun _ _ _ => true) (tailI B) p U F = fitsF B p U F
  | [], p, U => rfl
  | x :: F, p, U => by
    rw [filesF, fitsF, useM_C, fitF]
    by_cases h0 : fileOk0 x = true
    · by_cases hp : prevOk p x = true
      · by_cases hu : (useM U x.bl).2 = true
        · by_cases ht : tailI B x = true
          · simp [h0, hp, hu, ht, fits_files B F]
          · simp [h0, hp, hu, ht]
        · simp [h0, hp, hu]
      · simp [h0, hp]
    · simp [h0]
/-- Marks without a check. -/
def markA (U : List Bool) (bl : List Int) : List Bool := bl.foldl (fun U b => U.set b.toNat true) U
theorem markA_len : ∀ (bl : List Int) (U : List Bool), (markA U bl).length = U.length
  | [], U => rfl
  | b :: bl, U => by
    show (markA (U.set b.toNat true) bl).length = U.length
    rw [markA_len bl, List.length_set]
theorem markA_nth : ∀ (bl : List Int) (U : List Bool), (∀ b ∈ bl, 0 ≤ b ∧ b ≤ 23) → U.length = 24 → ∀ j, j < 24 → nth (markA U bl) j = (nth U j || bl.any fun c => decide (c = (j : Int)))
  | [], U, hb, hU, j, hj => by simp [markA]
  | b :: bl, U, hb, hU, j, hj => by
    have h0 := hb b List.mem_cons_self
    show nth (markA (U.set b.toNat true) bl) j = _
    rw [markA_nth bl _ (fun c hc => hb c (List.mem_cons_of_mem _ hc)) (by rw [List.length_set]; exact hU) j hj, nthB_set _ _ _ _ (by omega), List.any_cons]
    by_cases e : j = b.toNat
    · rw [if_pos e, decide_eq_true (show b = (j : Int) by omega)]; simp
    · rw [if_neg e, decide_eq_false (show ¬ b = (j : Int) by omega), Bool.false_or]
def markAll (U : List Bool) (F : List FFile) : List Bool := F.foldl (fun U x => markA U x.bl) U
theorem markAll_len : ∀ (F : List FFile) (U : List Bool), (markAll U F).length = U.length
  | [], U => rfl
  | x :: F, U => by
    show (markAll (markA U x.bl) F).length = U.length
    rw [markAll_len F, markA_len]
theorem markAll_nth : ∀ (F : List FFile) (U : List Bool), (∀ f ∈ F, ∀ b ∈ f.bl, 0 ≤ b ∧ b ≤ 23) → U.length = 24 → ∀ j, j < 24 → nth (markAll U F) j = (nth U j || usedF F j)
  | [], U, hb, hU, j, hj => by simp [markAll, usedF]
  | x :: F, U, hb, hU, j, hj => by
    show nth (markAll (markA U x.bl) F) j = _
    rw [markAll_nth F _ (fun f hf => hb f (List.mem_cons_of_mem _ hf)) (by rw [markA_len]; exact hU) j hj, markA_nth _ _ (hb x List.mem_cons_self) hU j hj]
    show _ = (nth U j || (x :: F).any _)
    rw [List.any_cons, Bool.or_assoc]; rfl
theorem markAll_used {x : DFStore} (g : GoodFs x) (j : Nat) (hj : j < 24) : nth (markAll noF x.F) j = usedF x.F j := by
  rw [markAll_nth _ _ g.hr (by simp [noF]) j hj]
  have : nth noF j = false := by unfold nth noF; rw [List.getD_eq_getElem?_getD, List.getElem?_replicate, if_pos hj]; rfl
  rw [this, Bool.false_or]
/-- The free blocks among the first k. -/
def freeK (F : List FFile) (k : Nat) : List Int := ((List.range k).filter fun b => !usedF F b).map fun b : Nat => (b : Int)
theorem freeK_24 (F : List FFile) : freeK F 24 = freeF F := rfl
theorem freeK_succ (F : List FFile) (k : Nat) : freeK F (k + 1) = freeK F k ++ if usedF F k = true then [] else [(k : Int)] := by
  unfold freeK
  rw [List.range_succ, List.filter_append, List.map_append]
  congr 1
  by_cases h : usedF F k = true
  · simp [h]
  · simp [h]
theorem freeK_pre (F : List FFile) : ∀ (n k : Nat), ∃ t, freeK F (k + n) = freeK F k ++ t
  | 0, k => ⟨[], by simp⟩
  | n + 1, k => by
    obtain ⟨t, e⟩ := freeK_pre F n k
    rw [show k + (n + 1) = (k + n) + 1 by omega, freeK_succ, e]
    exact ⟨_, List.append_assoc ..⟩
/-- What the reference's search holds behind k blocks: what is still wanting, from the front. -/
def takK (F : List FFile) (m k : Nat) : List Int := (freeK F k).take m
theorem takK_succ (F : List FFile) {m k : Nat} (h : (takK F m k).length < m) : takK F m (k + 1) = takK F m k ++ if usedF F k = true then [] else [(k : Int)] := by
  unfold takK at h ⊢
  rw [List.length_take] at h
  rw [freeK_succ, List.take_append]
  have h1 : (freeK F k).length < m := by omega
  rw [List.take_of_length_le (by omega)]
  congr 1
  split
  · simp
  · rw [List.take_of_length_le (by simp; omega)]
theorem takK_end (F : List FFile) {m k : Nat} (hk : k ≤ 24) (h : ¬ (takK F m k).length < m) : takK F m k = (freeF F).take m ∧ m ≤ (freeF F).length := by
  unfold takK at h ⊢
  rw [List.length_take] at h
  obtain ⟨t, e⟩ := freeK_pre F (24 - k) k
  rw [show k + (24 - k) = 24 by omega, freeK_24] at e
  rw [e, List.take_append_of_le_length (by omega)]
  exact ⟨rfl, by rw [List.length_append]; omega⟩
/-- Blocks of a file and free blocks are 24 at most. -/
theorem free_24 {x : DFStore} (g : GoodFs x) {f : FFile} (hf : f ∈ x.F) : f.bl.length + (freeF x.F).length ≤ 24 := by
  rw [← List.length_append]
  refine int_len (List.nodup_append.2 ⟨mem_nodup g.hd hf, free_nodup _, fun a ha b hb e => ?_⟩) fun b hb => ?_
  · subst e; exact ((free_mem _ _).1 hb).2 f hf ha
  · rcases List.mem_append.1 hb with h | h
    · exact g.hr f hf b h
    · exact ((free_mem _ _).1 h).1
/-- Both programs refuse the same texts. -/
theorem room_same {x : DFStore} (g : GoodFs x) {f : FFile} (hf : f ∈ x.F) (n : Nat) : ((f.bl.length + (freeF x.F).length : Nat) : Int) * 8 - f.ln < n ↔ (192 < n ∨ f.bl.length + (freeF x.F).length < (ceil8 (f.ln + n)).toNat) := by
  have h24 := free_24 g hf
  have h0 := g.hf f hf
  unfold fileOk0 ceil8 at h0
  simp only [Bool.and_eq_true, inB_true, decide_eq_true_eq] at h0
  unfold ceil8
  omega
end Go.Proofs.Ytojgphgfhapacaa
