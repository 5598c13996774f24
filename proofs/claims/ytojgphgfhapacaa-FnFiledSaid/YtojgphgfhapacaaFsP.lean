/- Stores of files in plain Lean: when one is right. -/
import Derived.Test.YtojgphgfhapacaaFsD
import Derived.Test.YtojgphgfhapacaaLnkP
namespace Go.Proofs.Ytojgphgfhapacaa
set_option linter.unusedVariables false
set_option linter.unusedSimpArgs false
/-- The blocks of a file are marked, one by one; none where one is out of place, marked already, or does not pass. -/
def useC (c : Nat → Int → Bool) : Nat → List Bool → List Int → Option (List Bool)
  | _, U, [] => some U
  | k, U, b :: l => if (inB b 0 23 && !nth U b.toNat && c k b) = true then useC c (k + 1) (U.set b.toNat true) l else none
def ceil8 (n : Int) : Int := (n + 8 - 1) / 8
def fileOk0 (x : FFile) : Bool := inB x.no 1 1000000 && inB x.ow 1 99 && inB x.ln 0 192 && decide ((x.bl.length : Int) = ceil8 x.ln)
def prevOk (p : Option Int) (x : FFile) : Bool := match p with
  | some n => decide (n < x.no)
  | none => true
/-- The files one by one: by a check of each block and one of each file. -/
def filesF (c : FFile → Nat → Int → Bool) (q : FFile → Bool) : Option Int → List Bool → List FFile → Option (List Bool)
  | _, U, [] => some U
  | p, U, x :: F => if (fileOk0 x && prevOk p x) = true then
      match useC (c x) 0 U x.bl with
      | some U' => if q x = true then filesF c q (some x.no) U' F else none
      | none => none
    else none
def blkOf (B : List ByteArray) (b : Int) : ByteArray := nth B b.toNat
/-- What is behind the last byte of a file is zero: as the program sees it. -/
def tailI (B : List ByteArray) (x : FFile) : Bool := if 0 < x.ln % 8 then sEq ((blkOf B (nth x.bl (x.bl.length - 1))).extract (x.ln % 8).toNat (blkOf B (nth x.bl (x.bl.length - 1))).size) (zrs (8 - (x.ln % 8).toNat)) else true
/-- As the reference sees it, block by block. -/
def blkS (B : List ByteArray) (x : FFile) (k : Nat) (b : Int) : Bool := decide ((blkOf B b).size = 8) && (if x.ln - 8 * (k : Int) < 8 then sEq ((blkOf B b).extract (x.ln - 8 * (k : Int)).toNat (blkOf B b).size) (zrs (8 - (x.ln - 8 * (k : Int)).toNat)) else true)
def noF : List Bool := List.replicate 24 false
def freeOk (B : List ByteArray) (U : List Bool) : Bool := (List.range 24).all fun b => nth U b || sEq (nth B b) (zrs 8)
def endF (B : List ByteArray) : Option (List Bool) → Bool
  | some U => freeOk B U
  | none => false
def fFsOk (x : DFStore) : Bool := decide (x.B.length = 24) && decide (x.F.length ≤ 6) && x.B.all (fun u => decide (u.size = 8)) && endF x.B (filesF (fun _ _ _ => true) (tailI x.B) none noF x.F)
def sFsOk (x : DFStore) : Bool := decide (x.B.length = 24) && decide (x.F.length ≤ 6) && endF x.B (filesF (blkS x.B) (fun _ => true) none noF x.F)
theorem useC_len (c : Nat → Int → Bool) : ∀ (l : List Int) (k : Nat) (U U' : List Bool), useC c k U l = some U' → U'.length = U.length
  | [], k, U, U', h => by cases h; rfl
  | b :: l, k, U, U', h => by
    rw [useC] at h
    split at h
    · rw [useC_len c l _ _ _ h, List.length_set]
    · cases h
/-- With checks of the blocks: the same, where all pass. -/
theorem useC_all (c : Nat → Int → Bool) : ∀ (l : List Int) (k : Nat) (U : List Bool), useC c k U l = if (∀ i, i < l.length → c (k + i) (nth l i) = true) then useC (fun _ _ => true) k U l else none
  | [], k, U => by simp [useC]
  | b :: l, k, U => by
    rw [useC, useC, useC_all c l]
    have hs : (∀ i, i < (b :: l).length → c (k + i) (nth (b :: l) i) = true) ↔ c k b = true ∧ ∀ i, i < l.length → c (k + 1 + i) (nth l i) = true := by
      constructor
      · intro h
        refine ⟨h 0 (by simp), fun i hi => ?_⟩
        have := h (i + 1) (by simp; omega)
        rw [show k + 1 + i = k + (i + 1) by omega]
        exact this
      · rintro ⟨h0, h1⟩ i hi
        cases i with
        | zero => exact h0
        | succ i =>
          have := h1 i (by simp at hi; omega)
          rw [show k + (i + 1) = k + 1 + i by omega]
          exact this
    by_cases hc : c k b = true
    · by_cases hr : ∀ i, i < l.length → c (k + 1 + i) (nth l i) = true
      · rw [if_pos hr, if_pos (hs.2 ⟨hc, hr⟩), hc]
      · rw [if_neg hr, if_neg (fun h => hr (hs.1 h).2), ite_self]
    · have hc' : c k b = false := by simpa using hc
      rw [if_neg (fun h => hc (hs.1 h).1), hc']
      simp
theorem useC_mark (c : Nat → Int → Bool) : ∀ (l : List Int) (k : Nat) (U U' : List Bool), U.length = 24 → useC c k U l = some U' → (∀ i, i < l.length → 0 ≤ nth l i ∧ nth l i ≤ 23) ∧ ∀ j, j < 24 → (nth U' j = true ↔ nth U j = true ∨ ∃ i, i < l.length ∧ (nth l i).toNat = j)
  | [], k, U, U', hU, h => by
    cases h
    exact ⟨fun i hi => by simp at hi, fun j hj => ⟨.inl, fun h => h.elim id (fun ⟨i, hi, _⟩ => by simp at hi)⟩⟩
  | b :: l, k, U, U', hU, h => by
    rw [useC] at h
    split at h
    · rename_i hb
      simp only [Bool.and_eq_true, inB_true, Bool.not_eq_true'] at hb
      obtain ⟨⟨hb1, hb2⟩, hb3⟩ := hb
      obtain ⟨q1, q2⟩ := useC_mark c l _ _ _ (by rw [List.length_set]; exact hU) h
      refine ⟨fun i hi => ?_, fun j hj => ?_⟩
      · cases i with
        | zero => exact hb1
        | succ i => exact q1 i (by simp at hi; omega)
      · rw [q2 j hj]
        have e : nth (U.set b.toNat true) j = if j = b.toNat then true else nth U j := by
          by_cases e : j = b.toNat
          · subst e; rw [if_pos rfl]; exact nth_set U _ true (by omega)
          · rw [if_neg e]; simp [nth, List.getD_eq_getElem?_getD, Ne.symm e]
        rw [e]
        constructor
        · rintro (h1 | ⟨i, hi, hj'⟩)
          · split at h1
            · rename_i e; exact .inr ⟨0, by simp, e.symm⟩
            · exact .inl h1
          · exact .inr ⟨i + 1, by simp; omega, hj'⟩
        · rintro (h1 | ⟨i, hi, hj'⟩)
          · split
            · exact .inl rfl
            · exact .inl h1
          · cases i with
            | zero => left; exact if_pos hj'.symm
            | succ i => exact .inr ⟨i, by simp at hi; omega, hj'⟩
    · cases h
/-- Both ways of checking tell the same where all blocks have eight bytes. -/
theorem tail_blk {B : List ByteArray} {x : FFile} (h0 : fileOk0 x = true) (hs : ∀ b, 0 ≤ b → b ≤ 23 → (blkOf B b).size = 8) (hr : ∀ i, i < x.bl.length → 0 ≤ nth x.bl i ∧ nth x.bl i ≤ 23) : tailI B x = true ↔ ∀ i, i < x.bl.length → blkS B x (0 + i) (nth x.bl i) = true := by
  unfold fileOk0 at h0
  simp only [Bool.and_eq_true, inB_true, decide_eq_true_eq] at h0
  obtain ⟨⟨⟨_, _⟩, hl⟩, hlen⟩ := h0
  unfold ceil8 at hlen
  have hb : ∀ i, i < x.bl.length → (blkOf B (nth x.bl i)).size = 8 := fun i hi => hs _ (hr i hi).1 (hr i hi).2
  unfold tailI
  by_cases h : 0 < x.ln % 8
  · rw [if_pos h]
    have hn : 0 < x.bl.length := by omega
    constructor
    · intro ht i hi
      unfold blkS
      rw [hb i hi, Nat.zero_add]
      by_cases hlast : x.ln - 8 * (i : Int) < 8
      · have hi2 : i = x.bl.length - 1 := by omega
        rw [if_pos hlast, show decide ((8 : Nat) = 8) = true from rfl, Bool.true_and]
        subst hi2
        have e : x.ln - 8 * ((x.bl.length - 1 : Nat) : Int) = x.ln % 8 := by omega
        rw [e]
        rw [hb _ hi] at ht
        exact ht
      · rw [if_neg hlast]; rfl
    · intro ha
      have := ha (x.bl.length - 1) (by omega)
      unfold blkS at this
      rw [hb _ (by omega), Nat.zero_add] at this
      have e : x.ln - 8 * ((x.bl.length - 1 : Nat) : Int) = x.ln % 8 := by omega
      rw [if_pos (by rw [e]; omega), e, show decide ((8 : Nat) = 8) = true from rfl, Bool.true_and] at this
      rw [hb _ (by omega)]
      exact this
  · rw [if_neg h]
    refine ⟨fun _ i hi => ?_, fun _ => rfl⟩
    unfold blkS
    rw [hb i hi, Nat.zero_add, if_neg (by omega)]; rfl
theorem filesF_len (c : FFile → Nat → Int → Bool) (q : FFile → Bool) : ∀ (F : List FFile) (p : Option Int) (U U' : List Bool), filesF c q p U F = some U' → U'.length = U.length
  | [], p, U, U', h => by cases h; rfl
  | x :: F, p, U, U', h => by
    rw [filesF] at h
    split at h
    · split at h
      · rename_i U1 h1
        split at h
        · rw [filesF_len c q F _ _ _ h, useC_len _ _ _ _ _ h1]
        · cases h
      · cases h
    · cases h
theorem files_same {B : List ByteArray} (hs : ∀ b : Int, 0 ≤ b → b ≤ 23 → (blkOf B b).size = 8) : ∀ (F : List FFile) (p : Option Int) (U : List Bool), U.length = 24 → filesF (blkS B) (fun _ => true) p U F = filesF (fun _ _ _ => true) (tailI B) p U F
  | [], p, U, hU => rfl
  | x :: F, p, U, hU => by
    rw [filesF, filesF]
    by_cases hc : (fileOk0 x && prevOk p x) = true
    · rw [if_pos hc, if_pos hc]
      have h0 : fileOk0 x = true := by simp only [Bool.and_eq_true] at hc; exact hc.1
      rw [useC_all (blkS B x)]
      cases hu : useC (fun _ _ => true) 0 U x.bl with
      | none => simp
      | some U1 =>
        have hr := (useC_mark _ _ _ _ _ hU hu).1
        have ht := tail_blk h0 hs hr
        have hl : U1.length = 24 := by rw [useC_len _ _ _ _ _ hu]; exact hU
        by_cases hq : tailI B x = true
        · rw [if_pos (ht.1 hq)]
          simp only [hq, if_true]
          exact files_same hs F _ _ hl
        · rw [if_neg (fun h => hq (ht.2 h))]
          simp [hq]
    · rw [if_neg hc, if_neg hc]
/-- What the reference has passed has eight bytes. -/
theorem files_eight {B : List ByteArray} : ∀ (F : List FFile) (p : Option Int) (U U' : List Bool), U.length = 24 → filesF (blkS B) (fun _ => true) p U F = some U' → ∀ j, j < 24 → nth U' j = true → nth U j = true ∨ (nth B j).size = 8
  | [], p, U, U', hU, h, j, hj, hm => by cases h; exact .inl hm
  | x :: F, p, U, U', hU, h, j, hj, hm => by
    rw [filesF] at h
    split at h
    · split at h
      · rename_i U1 h1
        simp only [if_true] at h
        have hl : U1.length = 24 := by rw [useC_len _ _ _ _ _ h1]; exact hU
        rcases files_eight F _ _ _ hl h j hj hm with h2 | h2
        · rw [useC_all] at h1
          split at h1
          · rename_i ha
            rcases ((useC_mark _ _ _ _ _ hU h1).2 j hj).1 h2 with h3 | ⟨i, hi, h3⟩
            · exact .inl h3
            · right
              have := ha i hi
              unfold blkS at this
              simp only [Bool.and_eq_true, decide_eq_true_eq] at this
              have h4 := this.1
              unfold blkOf at h4
              rw [h3] at h4
              exact h4
          · cases h1
        · exact .inr h2
      · cases h
    · cases h
theorem nth_false (j : Nat) : nth noF j = false := by
  unfold noF nth
  rw [List.getD_eq_getElem?_getD, List.getElem?_replicate]
  split <;> rfl
theorem fs_same (x : DFStore) : sFsOk x = fFsOk x := by
  unfold sFsOk fFsOk
  by_cases hB : x.B.length = 24
  · by_cases ha : ∀ u ∈ x.B, u.size = 8
    · have h1 : x.B.all (fun u => decide (u.size = 8)) = true := by rw [List.all_eq_true]; exact fun u hu => decide_eq_true (ha u hu)
      have hs : ∀ b : Int, 0 ≤ b → b ≤ 23 → (blkOf x.B b).size = 8 := fun b h0 h1 => ha _ (nth_mem x.B _ (by omega))
      rw [h1, files_same hs _ _ _ (by simp [noF]), Bool.and_true]
    · have h1 : x.B.all (fun u => decide (u.size = 8)) = false := by
        rw [List.all_eq_false]
        have : ∃ u, u ∈ x.B ∧ u.size ≠ 8 := by
          apply Classical.byContradiction
          intro hn
          exact ha (fun u hu => Classical.byContradiction fun h => hn ⟨u, hu, h⟩)
        obtain ⟨u, hu, h⟩ := this
        exact ⟨u, hu, by simp [h]⟩
      rw [h1, Bool.and_false, Bool.false_and]
      suffices h : endF x.B (filesF (blkS x.B) (fun _ => true) none noF x.F) = false by rw [h, Bool.and_false]
      cases hf : filesF (blkS x.B) (fun _ => true) none noF x.F with
      | none => rfl
      | some U =>
        show freeOk x.B U = false
        cases hfr : freeOk x.B U with
        | false => rfl
        | true =>
          exfalso
          apply ha
          intro u hu
          obtain ⟨j, hj, rfl⟩ := List.getElem_of_mem hu
          have e : nth x.B j = x.B[j] := by simp [nth, hj]
          unfold freeOk at hfr
          rw [List.all_eq_true] at hfr
          have := hfr j (List.mem_range.2 (by omega))
          rw [Bool.or_eq_true] at this
          rcases this with h | h
          · rcases files_eight _ _ _ _ (by simp [noF]) hf j (by omega) h with h2 | h2
            · rw [nth_false] at h2; cases h2
            · rw [← e]; exact h2
          · have e2 : nth x.B j = zrs 8 := by
              unfold sEq at h
              have h3 : (nth x.B j).toList = (zrs 8).toList := by simpa using h
              have h4 : (nth x.B j).data.toList = (zrs 8).data.toList := by rw [ByteArray.toList_eq, ByteArray.toList_eq] at h3; exact h3
              exact ByteArray.ext (Array.toList_inj.1 h4)
            rw [← e, e2, zrs_size]
  · have : decide (x.B.length = 24) = false := by simp [hB]
    rw [this]; simp
end Go.Proofs.Ytojgphgfhapacaa
