/- Walks in plain Lean: where the program's steps and the reference's lead. -/
import Derived.Test.YtbegbdfbfbkflaaVisP
import Derived.Test.YtbegbdfbfbkflaaWok
import Derived.Test.YtbegbdfbfbkflaaApP
namespace Go.Proofs.Ytbegbdfbfbkflaa
set_option linter.unusedVariables false
set_option linter.unusedSimpArgs false
theorem vis_keys (seq : Int) {l : List Ent} (h : strE l) : srtK (fVis l seq) := by
  rw [vis_same h]
  unfold sMap srtK
  rw [List.pairwise_map]
  have hp : (l.filter (mapPick l seq)).Pairwise (fun a b => aheadE a b = true) := h.sublist List.filter_sublist
  have hm : ∀ x ∈ l.filter (mapPick l seq), getE l x.key seq = some x := fun x hx => by
    obtain ⟨h1, h2⟩ := List.mem_filter.1 hx
    unfold mapPick at h2
    cases hg : getE l x.key seq with
    | none => rw [hg] at h2; cases h2
    | some e =>
      rw [hg] at h2
      simp only [Bool.and_eq_true, decide_eq_true_eq] at h2
      have he := List.mem_of_find?_eq_some hg
      have hk := ((isK_iff _ _ _).1 (List.find?_some hg)).1
      have hs : sameE e x = true := by unfold sameE; rw [hk, sEq_ref, h2.2]; simp
      have e1 := (find_str h e).2 he
      have e2 := (find_str h x).2 h1
      have : l.find? (sameE e) = l.find? (sameE x) := by
        congr 1
        funext z
        cases h6 : sameE x z with
        | true => exact same_trans (by rw [same_sym]; exact hs) h6
        | false =>
          cases h7 : sameE e z with
          | false => rfl
          | true => have := same_trans hs h7; rw [h6] at this; cases this
      rw [e1, e2] at this
      cases this; rfl
  refine List.Pairwise.imp_of_mem (fun {a b} ha hb hab => ?_) hp
  show sLt a.key b.key = true
  have h1 := hm a ha
  have h2 := hm b hb
  unfold aheadE at hab
  rw [Bool.or_eq_true] at hab
  rcases hab with hab | hab
  · exact hab
  · rw [Bool.and_eq_true, decide_eq_true_eq] at hab
    have e := sEq_to hab.1
    rw [e, h2] at h1
    cases h1
    omega
theorem lb_ix : ∀ (m : List KV) (k : ByteArray) (i : Nat), i ≤ m.length → (∀ j, j < i → sLt (nth m j).key k = true) → (i < m.length → sLt (nth m i).key k = false) → lbK m k = i
  | [], k, i, h, _, _ => by simp at h; subst h; rfl
  | x :: m, k, i, h, h1, h2 => by
    unfold lbK
    rw [List.takeWhile_cons]
    cases i with
    | zero =>
      have := h2 (by simp)
      simp only [nth, List.getD_cons_zero] at this
      rw [this]; rfl
    | succ i =>
      have := h1 0 (by omega)
      simp only [nth, List.getD_cons_zero] at this
      rw [this]
      have ih := lb_ix m k i (by simpa using h) (fun j hj => by have := h1 (j + 1) (by omega); simpa [nth] using this) (fun hi => by have := h2 (by simpa using hi); simpa [nth] using this)
      unfold lbK at ih
      simp [ih]
theorem srt_ix {m : List KV} (h : srtK m) {i j : Nat} (hij : i < j) (hj : j < m.length) : sLt (nth m i).key (nth m j).key = true := by
  have := List.pairwise_iff_getElem.1 h i j (by omega) hj hij
  have e1 : nth m i = m[i] := by simp [nth, show i < m.length by omega]
  have e2 : nth m j = m[j] := by simp [nth, hj]
  rw [e1, e2]; exact this
/-- The first place behind a key. -/
theorem nx_ix {m : List KV} (hs : srtK m) {k : ByteArray} {i : Nat} (h : i ≤ m.length) (h1 : ∀ j, j < i → sLt k (nth m j).key = false) (h2 : i < m.length → sLt k (nth m i).key = true) : (lbK m k : Int) + (if fndK m k = true then 1 else 0) = i := by
  by_cases c : 0 < i ∧ sEq (nth m (i - 1)).key k = true
  · have e := sEq_to c.2
    have hl : lbK m k = i - 1 := lb_ix m k (i - 1) (by omega) (fun j hj => by rw [← e]; exact srt_ix hs hj (by omega)) (fun _ => by rw [e]; exact sLt_irrefl k)
    have hf : fndK m k = true := by
      unfold fndK
      rw [hl, c.2, Bool.and_true, decide_eq_true_eq]; omega
    rw [if_pos hf, hl]; omega
  · have hlt : ∀ j, j < i → sLt (nth m j).key k = true := fun j hj => by
      have a1 := h1 j hj
      rcases sTri (nth m j).key k with ⟨b1, _, _⟩ | ⟨_, b2, _⟩ | ⟨_, _, b3⟩
      · exact b1
      · rw [a1] at b2; cases b2
      · exfalso
        have e := sEq_to b3
        by_cases hj2 : j = i - 1
        · subst hj2; exact c ⟨by omega, b3⟩
        · have := srt_ix hs (show j < i - 1 by omega) (by omega)
          rw [e, h1 (i - 1) (by omega)] at this; cases this
    have hl : lbK m k = i := lb_ix m k i h hlt (fun hi => by
      have := sLt_asymm (h2 hi); exact this)
    have hf : fndK m k = false := by
      unfold fndK
      rw [hl]
      by_cases hi : i < m.length
      · rcases sTri (nth m i).key k with ⟨b1, _, b3⟩ | ⟨_, b2, b3⟩ | ⟨_, b2, _⟩
        · rw [b3, Bool.and_false]
        · rw [b3, Bool.and_false]
        · rw [h2 hi] at b2; cases b2
      · have : decide ((i : Int) < (m.length : Int)) = false := by simp; omega
        rw [this]; rfl
    rw [if_neg (by rw [hf]; decide), hl]; omega
/-- The last place ahead of a key. -/
theorem pv_ix {m : List KV} (hs : srtK m) {k : ByteArray} {i : Nat} (h : i ≤ m.length) (h1 : ∀ j, i ≤ j → j < m.length → sLt (nth m j).key k = false) (h2 : 0 < i → sLt (nth m (i - 1)).key k = true) : lbK m k = i :=
  lb_ix m k i h (fun j hj => by
    have a := h2 (by omega)
    by_cases e : j = i - 1
    · rw [e]; exact a
    · exact sLt_trans (srt_ix hs (show j < i - 1 by omega) (by omega)) a) (fun hi => h1 i (Nat.le_refl _) hi)
def mapW (x : DWalk) : List KV := fVis (mergeS x.R) x.seq
def noW : DWalk := ⟨[], 0, ⟨#[]⟩, false⟩
def noKV : KV := ⟨⟨#[]⟩, ⟨#[]⟩⟩
def standAt (x : DWalk) (m : List KV) (i : Int) : DWalk × KV × Bool := if 0 ≤ i ∧ i < m.length then ({ x with key := (nth m i.toNat).key, on := true }, nth m i.toNat, true) else ({ x with key := ⟨#[]⟩, on := false }, noKV, false)
def nextI (x : DWalk) (m : List KV) : Int := if x.on = true then (lbK m x.key : Int) + (if fndK m x.key = true then 1 else 0) else 0
def prevI (x : DWalk) (m : List KV) : Int := if x.on = true then (lbK m x.key : Int) - 1 else (m.length : Int) - 1
def fWalkNext (x : DWalk) : DWalk × KV × Bool := if fWalkOk x = true then standAt x (mapW x) (nextI x (mapW x)) else (noW, noKV, false)
def fWalkPrev (x : DWalk) : DWalk × KV × Bool := if fWalkOk x = true then standAt x (mapW x) (prevI x (mapW x)) else (noW, noKV, false)
def fWalkSeek (x : DWalk) (key : ByteArray) : DWalk × KV × Bool := if fWalkOk x = true then standAt x (mapW x) (lbK (mapW x) key : Int) else (noW, noKV, false)
def fWalkNew (rows : List (List Ent)) (seq : Int) : DWalk × Bool := if fWalkOk ⟨rows, seq, ⟨#[]⟩, false⟩ = true then (⟨rows, seq, ⟨#[]⟩, false⟩, true) else (noW, false)
theorem ok_rows {x : DWalk} (h : fWalkOk x = true) : ∀ l ∈ x.R, strE l := by
  unfold fWalkOk at h
  rw [Bool.and_eq_true, Bool.and_eq_true, List.all_eq_true] at h
  exact fun l hl => inOrd_str (h.1.2 l hl)
theorem map_srt {x : DWalk} (h : fWalkOk x = true) : srtK (mapW x) := vis_keys x.seq (mergeS_str (ok_rows h)).1
end Go.Proofs.Ytbegbdfbfbkflaa
