/- FnFStore in plain Lean: what is there and what it reads as, round by round. -/
import Derived.Test.YtojgphgfhapacaaFsT
namespace Go.Proofs.Ytojgphgfhapacaa
set_option linter.unusedVariables false
set_option linter.unusedSimpArgs false
structure FsInv (x : DFStore) (T : List Bool) (W : List ByteArray) (r : Nat) : Prop where
  g : GoodFs x
  lT : T.length = 60
  lW : W.length = 60
  th : ∀ n : Nat, 1 ≤ n → n < 60 → nth T n = (rdF x (n : Int)).isSome
  wt : ∀ n : Nat, 1 ≤ n → n < 60 → ∀ s, rdF x (n : Int) = some s → nth W n = s
  no : ∀ f ∈ x.F, f.no ≤ r
  wz : ∀ n : Nat, (nth W n).size ≤ 192
theorem nthB_set (T : List Bool) (i k : Nat) (v : Bool) (h : i < T.length) : nth (T.set i v) k = if k = i then v else nth T k := by
  by_cases e : k = i
  · subst e; rw [if_pos rfl]; exact nth_set T k v h
  · rw [if_neg e]; simp [nth, List.getD_eq_getElem?_getD, Ne.symm e]
theorem nthS_set (T : List ByteArray) (i k : Nat) (v : ByteArray) (h : i < T.length) : nth (T.set i v) k = if k = i then v else nth T k := by
  by_cases e : k = i
  · subst e; rw [if_pos rfl]; exact nth_set T k v h
  · rw [if_neg e]; simp [nth, List.getD_eq_getElem?_getD, Ne.symm e]
theorem at_rd (x : DFStore) (n : Int) : (rdF x n).isSome = (atF x.F n).isSome := by
  unfold rdF
  rw [at_find]
  cases atF x.F n <;> rfl
theorem rd_size {x : DFStore} (g : GoodFs x) {n : Int} {s : ByteArray} (h : rdF x n = some s) : s.size ≤ 192 := by
  rcases rd_case g.hi n with ⟨f, hf, _, hr⟩ | ⟨_, hr⟩
  · rw [hr] at h
    cases h
    have h1 := text_len g hf
    have h0 := g.hf f hf
    unfold fileOk0 at h0
    simp only [Bool.and_eq_true, inB_true] at h0
    omega
  · rw [hr] at h; cases h
theorem new_good : GoodFs fFsNew := by
  refine ⟨by simp [fFsNew], by simp [fFsNew], fun u hu => ?_, fun f hf => (by cases hf), fun f hf => (by cases hf), List.Pairwise.nil, List.nodup_nil, fun f hf => (by cases hf), fun b hb _ => ?_⟩
  · have := List.eq_of_mem_replicate hu
    rw [this]; exact zrs_size 8
  · show nth (List.replicate 24 (zrs 8)) b = zrs 8
    unfold nth
    rw [List.getD_eq_getElem?_getD, List.getElem?_replicate, if_pos hb]; rfl
theorem inv_new : FsInv fFsNew (List.replicate 60 false) (List.replicate 60 ⟨#[]⟩) 0 := by
  refine ⟨new_good, by simp, by simp, fun n h1 h2 => ?_, fun n h1 h2 s hs => ?_, fun f hf => (by cases hf), fun n => ?_⟩
  · rw [show rdF fFsNew (n : Int) = none from rfl]
    unfold nth
    rw [List.getD_eq_getElem?_getD, List.getElem?_replicate, if_pos h2]; rfl
  · rw [show rdF fFsNew (n : Int) = none from rfl] at hs; cases hs
  · unfold nth
    rw [List.getD_eq_getElem?_getD, List.getElem?_replicate]
    split <;> exact Nat.zero_le _
theorem FsInv.ok {x : DFStore} {T : List Bool} {W : List ByteArray} {r : Nat} (h : FsInv x T W r) : fFsOk x = true := (fs_good x).2 h.g
theorem FsInv.up {x : DFStore} {T : List Bool} {W : List ByteArray} {r : Nat} (h : FsInv x T W r) : FsInv x T W (r + 1) := ⟨h.g, h.lT, h.lW, h.th, h.wt, fun f hf => by have := h.no f hf; omega, h.wz⟩
theorem inv_read {x : DFStore} {T : List Bool} {W : List ByteArray} {r : Nat} (h : FsInv x T W r) {n : Nat} (h1 : 1 ≤ n) (h2 : n < 60) : (fFsRead x n).2 = nth T n ∧ ((fFsRead x n).2 = true → (fFsRead x n).1 = nth W n) := by
  rw [read_rd h.ok]
  have ht := h.th n h1 h2
  cases hr : rdF x (n : Int) with
  | none => rw [hr] at ht; exact ⟨ht.symm, fun h => (by cases h)⟩
  | some s => rw [hr] at ht; exact ⟨ht.symm, fun _ => (h.wt n h1 h2 s hr).symm⟩
theorem inv_create {x : DFStore} {T : List Bool} {W : List ByteArray} {r : Nat} (h : FsInv x T W r) (hr : r < 59) (ow : Int) :
    (∃ n : Nat, 1 ≤ n ∧ n ≤ 59 ∧ fFsCreate x ow = ((fFsCreate x ow).1, (n : Int), true) ∧ nth T n = false ∧ FsInv (fFsCreate x ow).1 (T.set n true) (W.set n ⟨#[]⟩) (r + 1)) ∨ (fFsCreate x ow = (x, 0, false)) := by
  unfold fFsCreate
  rw [if_pos h.ok]
  split
  · rename_i hc
    left
    obtain ⟨c1, c2, c3⟩ := hc
    obtain ⟨g', hn, hm⟩ := create_good h.g c1 c2 c3
    obtain ⟨n1, n2⟩ := next_gt h.g
    have hle : nextNo x.F ≤ r + 1 := by
      unfold nextNo
      split
      · omega
      · rename_i h0
        have := h.no _ (fileAt_mem (show x.F.length - 1 < x.F.length by omega))
        omega
    refine ⟨(nextNo x.F).toNat, by omega, by omega, by simp only; rw [show (((nextNo x.F).toNat : Nat) : Int) = nextNo x.F by omega], ?_, ⟨g', by rw [List.length_set]; exact h.lT, by rw [List.length_set]; exact h.lW, fun n h1 h2 => ?_, fun n h1 h2 s hs => ?_, fun f hf => ?_, fun n => ?_⟩⟩
    · rw [h.th _ (by omega) (by omega), show (((nextNo x.F).toNat : Nat) : Int) = nextNo x.F by omega, hn]; rfl
    · rw [nthB_set _ _ _ _ (by rw [h.lT]; omega), hm]
      by_cases e : n = (nextNo x.F).toNat
      · rw [if_pos e, if_pos (by omega)]; rfl
      · rw [if_neg e, if_neg (by omega)]; exact h.th n h1 h2
    · rw [nthS_set _ _ _ _ (by rw [h.lW]; omega)]
      rw [hm] at hs
      by_cases e : n = (nextNo x.F).toNat
      · rw [if_pos (by omega)] at hs
        rw [if_pos e]; cases hs; rfl
      · rw [if_neg (by omega)] at hs
        rw [if_neg e]; exact h.wt n h1 h2 s hs
    · rcases List.mem_append.1 hf with hf | hf
      · have := h.no f hf; omega
      · rw [List.mem_singleton] at hf; subst hf; exact hle
    · rw [nthS_set _ _ _ _ (by rw [h.lW]; omega)]
      split
      · exact Nat.zero_le _
      · exact h.wz n
  · right; rfl
theorem inv_drop {x : DFStore} {T : List Bool} {W : List ByteArray} {r : Nat} (h : FsInv x T W r) {n : Nat} (h1 : 1 ≤ n) (h2 : n < 60) : (fFsDrop x n).2 = nth T n ∧ FsInv (fFsDrop x n).1 (T.set n false) W r := by
  unfold fFsDrop
  rw [if_pos h.ok]
  have ht := h.th n h1 h2
  rw [at_rd] at ht
  cases ha : atF x.F (n : Int) with
  | none =>
    rw [ha] at ht
    refine ⟨ht.symm, ⟨h.g, by rw [List.length_set]; exact h.lT, h.lW, fun k k1 k2 => ?_, h.wt, h.no, h.wz⟩⟩
    rw [nthB_set _ _ _ _ (by rw [h.lT]; exact h2)]
    split
    · rename_i e; subst e; rw [at_rd, ha]; rfl
    · exact h.th k k1 k2
  | some i =>
    rw [ha] at ht
    obtain ⟨g', hm⟩ := drop_good h.g ha
    refine ⟨ht.symm, ⟨g', by rw [List.length_set]; exact h.lT, h.lW, fun k k1 k2 => ?_, fun k k1 k2 s hs => ?_, fun f hf => ?_, h.wz⟩⟩
    · rw [nthB_set _ _ _ _ (by rw [h.lT]; exact h2)]
      simp only
      rw [hm]
      by_cases e : k = n
      · rw [if_pos e, if_pos (by omega)]; rfl
      · rw [if_neg e, if_neg (by omega)]; exact h.th k k1 k2
    · simp only at hs
      rw [hm] at hs
      split at hs
      · cases hs
      · exact h.wt k k1 k2 s hs
    · exact h.no f (List.mem_of_mem_eraseIdx hf)
theorem inv_seal {x : DFStore} {T : List Bool} {W : List ByteArray} {r : Nat} (h : FsInv x T W r) (no : Int) : FsInv (fFsSeal x no).1 T W r := by
  unfold fFsSeal
  rw [if_pos h.ok]
  cases ha : atF x.F no with
  | none => exact h
  | some i =>
    simp only
    split
    · exact h
    · obtain ⟨g', hm⟩ := seal_good h.g ha
      refine ⟨g', h.lT, h.lW, fun n h1 h2 => by rw [hm]; exact h.th n h1 h2, fun n h1 h2 s hs => h.wt n h1 h2 s (by rw [← hm]; exact hs), fun f hf => ?_, h.wz⟩
      obtain ⟨hil, _⟩ := at_some ha
      rcases set_file hil f hf with rfl | ⟨j, hj, _, rfl⟩
      · show (fileAt x.F i).no ≤ r
        exact h.no _ (fileAt_mem hil)
      · exact h.no _ (fileAt_mem hj)
theorem app_eq (x : DFStore) (no : Int) (text : ByteArray) (h : fFsOk x = true) : fFsAppend x no text = match atF x.F no with
    | some i => if (fileAt x.F i).sl = true ∨ (((fileAt x.F i).bl.length + (freeF x.F).length : Nat) : Int) * 8 - (fileAt x.F i).ln < text.size then (x, false) else (appX x i text, true)
    | none => (x, false) := by
  unfold fFsAppend
  rw [if_pos h]
  rfl
theorem inv_append {x : DFStore} {T : List Bool} {W : List ByteArray} {r : Nat} (h : FsInv x T W r) {n : Nat} (h1 : 1 ≤ n) (h2 : n < 60) (t : ByteArray) : ((fFsAppend x n t).2 = true → FsInv (fFsAppend x n t).1 T (W.set n (nth W n ++ t)) r) ∧ ((fFsAppend x n t).2 = false → (fFsAppend x n t).1 = x) := by
  rw [app_eq x n t h.ok]
  cases ha : atF x.F (n : Int) with
  | none => exact ⟨fun h => (by cases h), fun _ => rfl⟩
  | some i =>
    simp only
    split
    · exact ⟨fun h => (by cases h), fun _ => rfl⟩
    · rename_i hc
      refine ⟨fun _ => ?_, fun h => (by cases h)⟩
      simp only
      obtain ⟨g', hm⟩ := append_good h.g ha (text := t) (by have := fun q => hc (.inr q); omega)
      obtain ⟨hil, hno⟩ := at_some ha
      have hrn : rdF x (n : Int) = some (fText x.B (fileAt x.F i)) := by rw [← hno]; exact rd_mem h.g.hi (fileAt_mem hil)
      have hw := h.wt n h1 h2 _ hrn
      have hre : rdF (appX x i t) (n : Int) = some (fText x.B (fileAt x.F i) ++ t) := by rw [hm, if_pos rfl]
      have hz := rd_size g' hre
      refine ⟨g', h.lT, by rw [List.length_set]; exact h.lW, fun k k1 k2 => ?_, fun k k1 k2 s hs => ?_, fun f hf => ?_, fun k => ?_⟩
      · rw [hm]
        by_cases e : k = n
        · subst e
          rw [if_pos rfl, h.th k k1 k2, hrn]; rfl
        · rw [if_neg (by omega)]; exact h.th k k1 k2
      · rw [nthS_set _ _ _ _ (by rw [h.lW]; exact h2)]
        rw [hm] at hs
        by_cases e : k = n
        · rw [if_pos (by omega)] at hs
          rw [if_pos e, hw]; cases hs; rfl
        · rw [if_neg (by omega)] at hs
          rw [if_neg e]; exact h.wt k k1 k2 s hs
      · rcases set_file hil f hf with rfl | ⟨j, hj, _, rfl⟩
        · show (fileAt x.F i).no ≤ r
          exact h.no _ (fileAt_mem hil)
        · exact h.no _ (fileAt_mem hj)
      · rw [nthS_set _ _ _ _ (by rw [h.lW]; exact h2)]
        split
        · rw [hw]; exact hz
        · exact h.wz k
/-- Behind all of it: nothing there, all blocks zero. -/
theorem inv_end {x : DFStore} {T : List Bool} {W : List ByteArray} {r : Nat} (h : FsInv x T W r) (hr : r < 60) (hT : ∀ n, 1 ≤ n → n < 60 → nth T n = false) : x.B = List.replicate 24 (zrs 8) ∧ x.F = [] := by
  have hF : x.F = [] := by
    cases hx : x.F with
    | nil => rfl
    | cons f F =>
      exfalso
      have hf : f ∈ x.F := by rw [hx]; exact List.mem_cons_self
      have h0 := h.g.hf f hf
      unfold fileOk0 at h0
      simp only [Bool.and_eq_true, inB_true] at h0
      have h1 := h.no f hf
      have h2 := hT f.no.toNat (by omega) (by omega)
      rw [h.th _ (by omega) (by omega), show ((f.no.toNat : Nat) : Int) = f.no by omega, rd_mem h.g.hi hf] at h2
      cases h2
  refine ⟨?_, hF⟩
  apply List.ext_getElem
  · rw [h.g.hB]; simp
  · intro b h1 h2
    have hb : b < 24 := by rw [← h.g.hB]; exact h1
    have := h.g.hz b hb (fun f hf => by rw [hF] at hf; cases hf)
    rw [List.getElem_replicate, ← this]
    simp [nth, h1]
end Go.Proofs.Ytojgphgfhapacaa
