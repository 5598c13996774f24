/- Texts of this claim, one behind the other: SymP, SymQ, Enc, Swp, Sym, StbR, Stb, CptP, Eng12, Eng13, CatEnt, Eng16, Eng17, Cpt, WkQ. -/
import Derived.Test.YtbegbdfbfbkflaaMrgP
import Derived.Test.YtbegbdfbfbkflaaMt
import Derived.Test.YtbegbdfbfbkflaaOrd
import Derived.Test.YtbegbdfbfbkflaaEng14
import Derived.Test.YtbegbdfbfbkflaaDlt2
import Derived.Test.YtbegbdfbfbkflaaEng11
import Derived.Laws.IdiomStrings
import Derived.Lib.AppendStr
import Derived.Test.YtbegbdfbfbkflaaCch
import Derived.Lib.AppendZerosOnto
import Derived.Lib.Overlaps
import Derived.Test.YtbegbdfbfbkflaaNst
import Derived.Test.YtbegbdfbfbkflaaBnEntSS
import Derived.Test.YtbegbdfbfbkflaaBfEnt
import Derived.Test.YtbegbdfbfbkflaaEng5
import Derived.Test.YtbegbdfbfbkflaaWkP
/- Rows with two places changed, two ranges changed, a part turned round: index by index; for the stable sort. -/
namespace Go.Proofs.Ytbegbdfbfbkflaa
set_option linter.unusedVariables false
set_option linter.unusedSimpArgs false
theorem nth_ext {L M : List Ent} (hl : L.length = M.length) (h : ∀ k, k < L.length → nth L k = nth M k) : L = M := by
  apply List.ext_getElem hl
  intro k h1 h2
  have := h k h1
  simpa [nth, h1, h2] using this
def swapL (L : List Ent) (i j : Nat) : List Ent := (L.set i (nth L j)).set j (nth L i)
theorem swap_len (L : List Ent) (i j : Nat) : (swapL L i j).length = L.length := by simp [swapL]
theorem nthE_set (L : List Ent) (i k : Nat) (v : Ent) (h : i < L.length) : nth (L.set i v) k = if k = i then v else nth L k := by
  by_cases e : k = i
  · subst e; rw [if_pos rfl]; exact nth_set L k v h
  · rw [if_neg e]; simp [nth, List.getD_eq_getElem?_getD, Ne.symm e]
theorem swap_nth {L : List Ent} {i j : Nat} (hi : i < L.length) (hj : j < L.length) (k : Nat) : nth (swapL L i j) k = if k = j then nth L i else if k = i then nth L j else nth L k := by
  unfold swapL
  rw [nthE_set _ _ _ _ (by rw [List.length_set]; exact hj), nthE_set _ _ _ _ hi]
/-- A row told index by index. -/
def byIx (n : Nat) (f : Nat → Ent) : List Ent := (List.range n).map f
theorem byIx_len (n : Nat) (f : Nat → Ent) : (byIx n f).length = n := by simp [byIx]
theorem byIx_nth {n k : Nat} (f : Nat → Ent) (h : k < n) : nth (byIx n f) k = f k := by simp [nth, byIx, h]
/-- Two ranges of n places change places. -/
def swR (L : List Ent) (a b n : Nat) : List Ent := byIx L.length fun k => if a ≤ k ∧ k < a + n then nth L (k - a + b) else if b ≤ k ∧ k < b + n then nth L (k - b + a) else nth L k
theorem swR_len (L : List Ent) (a b n : Nat) : (swR L a b n).length = L.length := byIx_len _ _
theorem swR_nth {L : List Ent} {a b n k : Nat} (h : k < L.length) : nth (swR L a b n) k = if a ≤ k ∧ k < a + n then nth L (k - a + b) else if b ≤ k ∧ k < b + n then nth L (k - b + a) else nth L k := byIx_nth _ h
theorem swR_zero (L : List Ent) (a b : Nat) : swR L a b 0 = L := nth_ext (swR_len _ _ _ _) fun k hk => by
  rw [swR_len] at hk
  rw [swR_nth hk, if_neg (by omega), if_neg (by omega)]
theorem swR_step {L : List Ent} {a b i : Nat} (h : a + i < b) (hb : b + i < L.length) : swapL (swR L a b i) (a + i) (b + i) = swR L a b (i + 1) := nth_ext (by rw [swap_len, swR_len, swR_len]) fun k hk => by
  rw [swap_len, swR_len] at hk
  rw [swap_nth (by rw [swR_len]; omega) (by rw [swR_len]; omega), swR_nth hk, swR_nth (by omega), swR_nth (by omega), swR_nth hk]
  repeat' split
  all_goals first
    | rfl
    | omega
    | (congr 1; omega)
/-- The part from a to b turned round at m: what is from m on comes first. -/
def rotL (L : List Ent) (a m b : Nat) : List Ent := byIx L.length fun k => if a ≤ k ∧ k < b then (if k < a + (b - m) then nth L (k - a + m) else nth L (k - (b - m))) else nth L k
theorem rotL_len (L : List Ent) (a m b : Nat) : (rotL L a m b).length = L.length := byIx_len _ _
theorem rotL_nth {L : List Ent} {a m b k : Nat} (h : k < L.length) : nth (rotL L a m b) k = if a ≤ k ∧ k < b then (if k < a + (b - m) then nth L (k - a + m) else nth L (k - (b - m))) else nth L k := byIx_nth _ h
theorem rot_more {C : List Ent} {m i j : Nat} (hi : i ≤ m) (hj : m + j ≤ C.length) (h : j < i) : rotL C (m - i) m (m + j) = rotL (swR C (m - i) m j) (m - (i - j)) m (m + j) := nth_ext (by rw [rotL_len, rotL_len, swR_len]) fun k hk => by
  rw [rotL_len] at hk
  rw [rotL_nth hk, rotL_nth (by rw [swR_len]; exact hk)]
  by_cases h1 : m - i ≤ k ∧ k < m + j
  · rw [if_pos h1]
    by_cases h2 : k < m - i + (m + j - m)
    · rw [if_pos h2, if_neg (by omega), swR_nth hk, if_pos (by omega)]
    · rw [if_neg h2, if_pos (by omega)]
      by_cases h3 : k < m - (i - j) + (m + j - m)
      · rw [if_pos h3, swR_nth (by omega), if_neg (by omega), if_pos (by omega)]
        congr 1; omega
      · rw [if_neg h3, swR_nth (by omega), if_neg (by omega), if_neg (by omega)]
  · rw [if_neg h1, if_neg (by omega), swR_nth hk, if_neg (by omega), if_neg (by omega)]
theorem rot_less {C : List Ent} {m i j : Nat} (hi : i ≤ m) (hj : m + j ≤ C.length) (h : i < j) : rotL C (m - i) m (m + j) = rotL (swR C (m - i) (m + j - i) i) (m - i) m (m + (j - i)) := nth_ext (by rw [rotL_len, rotL_len, swR_len]) fun k hk => by
  rw [rotL_len] at hk
  rw [rotL_nth hk, rotL_nth (by rw [swR_len]; exact hk)]
  by_cases h1 : m - i ≤ k ∧ k < m + j
  · rw [if_pos h1]
    by_cases h2 : k < m - i + (m + j - m)
    · rw [if_pos h2]
      by_cases h3 : k < m + (j - i)
      · rw [if_pos ⟨h1.1, h3⟩]
        by_cases h4 : k < m - i + (m + (j - i) - m)
        · rw [if_pos h4, swR_nth (by omega), if_neg (by omega), if_neg (by omega)]
        · rw [if_neg h4, swR_nth (by omega), if_pos (by omega)]
          congr 1; omega
      · omega
    · rw [if_neg h2, if_neg (by omega), swR_nth hk, if_neg (by omega), if_pos (by omega)]
      congr 1; omega
  · rw [if_neg h1, if_neg (by omega), swR_nth hk, if_neg (by omega), if_neg (by omega)]
theorem rot_even {C : List Ent} {m i : Nat} (hi : i ≤ m) (hj : m + i ≤ C.length) : rotL C (m - i) m (m + i) = swR C (m - i) m i := nth_ext (by rw [rotL_len, swR_len]) fun k hk => by
  rw [rotL_len] at hk
  rw [rotL_nth hk, swR_nth hk]
  by_cases h1 : m - i ≤ k ∧ k < m + i
  · rw [if_pos h1]
    by_cases h2 : k < m - i + (m + i - m)
    · rw [if_pos h2, if_pos (by omega)]
    · rw [if_neg h2, if_neg (by omega), if_pos (by omega)]
      congr 1; omega
  · rw [if_neg h1, if_neg (by omega), if_neg (by omega)]
/-- A part of a row. -/
def seg (L : List Ent) (a b : Nat) : List Ent := (L.drop a).take (b - a)
theorem seg_mem {L : List Ent} {a b : Nat} (hb : b ≤ L.length) {x : Ent} (h : x ∈ seg L a b) : ∃ k, a ≤ k ∧ k < b ∧ nth L k = x := by
  obtain ⟨k, hk, rfl⟩ := List.getElem_of_mem h
  unfold seg at hk ⊢
  rw [List.length_take, List.length_drop] at hk
  refine ⟨a + k, by omega, by omega, ?_⟩
  rw [List.getElem_take, List.getElem_drop]
  simp [nth, show a + k < L.length by omega]
theorem nth_app (X Y : List Ent) (k : Nat) : nth (X ++ Y) k = if k < X.length then nth X k else nth Y (k - X.length) := by
  unfold nth
  rw [List.getD_eq_getElem?_getD, List.getElem?_append]
  split <;> rw [List.getD_eq_getElem?_getD]
theorem nth_take (L : List Ent) (a k : Nat) (h : k < a) : nth (L.take a) k = nth L k := by
  unfold nth
  rw [List.getD_eq_getElem?_getD, List.getElem?_take_of_lt h, List.getD_eq_getElem?_getD]
theorem nth_drop (L : List Ent) (a k : Nat) : nth (L.drop a) k = nth L (a + k) := by
  unfold nth
  rw [List.getD_eq_getElem?_getD, List.getElem?_drop, List.getD_eq_getElem?_getD]
theorem seg_nth {L : List Ent} {a b k : Nat} (h : k < b - a) : nth (seg L a b) k = nth L (a + k) := by
  unfold seg; rw [nth_take _ _ _ h, nth_drop]
theorem seg_len {L : List Ent} {a b : Nat} (hb : b ≤ L.length) : (seg L a b).length = b - a := by unfold seg; rw [List.length_take, List.length_drop]; omega
theorem rot_parts {L : List Ent} {a m b : Nat} (h1 : a ≤ m) (h2 : m ≤ b) (hb : b ≤ L.length) : L = L.take a ++ seg L a m ++ seg L m b ++ L.drop b ∧ rotL L a m b = L.take a ++ seg L m b ++ seg L a m ++ L.drop b := by
  have l1 : (L.take a).length = a := by rw [List.length_take]; omega
  have l2 := seg_len (L := L) (a := a) (b := m) (by omega)
  have l3 := seg_len (L := L) (a := m) (b := b) hb
  constructor
  · refine nth_ext (by simp only [List.length_append, l1, l2, l3, List.length_drop]; omega) fun k hk => ?_
    simp only [nth_app, List.length_append, l1, l2, l3]
    by_cases c1 : k < a
    · rw [if_pos (by omega), if_pos (by omega), if_pos c1, nth_take _ _ _ c1]
    · by_cases c2 : k < m
      · rw [if_pos (by omega), if_pos (by omega), if_neg c1, seg_nth (by omega)]; congr 1; omega
      · by_cases c3 : k < b
        · rw [if_pos (by omega), if_neg (by omega), seg_nth (by omega)]; congr 1; omega
        · rw [if_neg (by omega), nth_drop]; congr 1; omega
  · refine nth_ext (by rw [rotL_len]; simp only [List.length_append, l1, l2, l3, List.length_drop]; omega) fun k hk => ?_
    rw [rotL_len] at hk
    rw [rotL_nth hk]
    simp only [nth_app, List.length_append, l1, l2, l3]
    by_cases c1 : k < a
    · rw [if_neg (by omega), if_pos (by omega), if_pos (by omega), if_pos c1, nth_take _ _ _ c1]
    · by_cases c2 : k < a + (b - m)
      · rw [if_pos (by omega), if_pos c2, if_pos (by omega), if_pos (by omega), if_neg c1, seg_nth (by omega)]; congr 1; omega
      · by_cases c3 : k < b
        · rw [if_pos (by omega), if_neg c2, if_pos (by omega), if_neg (by omega), seg_nth (by omega)]; congr 1; omega
        · rw [if_neg (by omega), if_neg (by omega), nth_drop]; congr 1; omega
theorem rot_stb {L : List Ent} {a m b : Nat} (h1 : a ≤ m) (h2 : m ≤ b) (hb : b ≤ L.length) (h : ∀ p q, a ≤ p → p < m → m ≤ q → q < b → aheadE (nth L q) (nth L p) = true) : stb L (rotL L a m b) := by
  obtain ⟨e1, e2⟩ := rot_parts h1 h2 hb
  rw [e2]
  conv => lhs; rw [e1]
  refine stb_rot fun x hx y hy => ?_
  obtain ⟨p, p1, p2, rfl⟩ := seg_mem (by omega) hx
  obtain ⟨q, q1, q2, rfl⟩ := seg_mem hb hy
  exact h p q p1 p2 q1 q2
theorem swap_rot {L : List Ent} {j : Nat} (h0 : 0 < j) (h : j < L.length) : swapL L j (j - 1) = rotL L (j - 1) j (j + 1) := nth_ext (by rw [swap_len, rotL_len]) fun k hk => by
  rw [swap_len] at hk
  rw [swap_nth h (by omega), rotL_nth hk]
  repeat' split
  all_goals first
    | rfl
    | omega
    | (congr 1; omega)
theorem swap_stb {L : List Ent} {j : Nat} (h0 : 0 < j) (h : j < L.length) (hlt : aheadE (nth L j) (nth L (j - 1)) = true) : stb L (swapL L j (j - 1)) := by
  rw [swap_rot h0 h]
  refine rot_stb (by omega) (by omega) (by omega) fun p q p1 p2 q1 q2 => ?_
  rw [show q = j by omega, show p = j - 1 by omega]
  exact hlt
/-- Only a part is changed, and only among itself; equal ones keep their order. -/
structure SegE (L M : List Ent) (a b : Nat) : Prop where
  len : M.length = L.length
  out : ∀ k, k < a ∨ b ≤ k → nth M k = nth L k
  src : ∀ k, a ≤ k → k < b → ∃ q, a ≤ q ∧ q < b ∧ nth M k = nth L q
  st : stb L M
theorem SegE.refl (L : List Ent) (a b : Nat) : SegE L L a b := ⟨rfl, fun _ _ => rfl, fun k h1 h2 => ⟨k, h1, h2, rfl⟩, stb_refl L⟩
theorem SegE.trans {L M N : List Ent} {a b : Nat} (h : SegE L M a b) (h2 : SegE M N a b) : SegE L N a b :=
  ⟨h2.len.trans h.len, fun k hk => (h2.out k hk).trans (h.out k hk), fun k k1 k2 => by
    obtain ⟨q, q1, q2, e⟩ := h2.src k k1 k2
    obtain ⟨r, r1, r2, e2⟩ := h.src q q1 q2
    exact ⟨r, r1, r2, e.trans e2⟩, stb_trans h.st h2.st⟩
theorem SegE.wide {L M : List Ent} {a b a' b' : Nat} (h : SegE L M a b) (h1 : a' ≤ a) (h2 : b ≤ b') : SegE L M a' b' :=
  ⟨h.len, fun k hk => h.out k (by omega), fun k k1 k2 => by
    by_cases hk : a ≤ k ∧ k < b
    · obtain ⟨q, q1, q2, e⟩ := h.src k hk.1 hk.2
      exact ⟨q, by omega, by omega, e⟩
    · exact ⟨k, k1, k2, h.out k (by omega)⟩, h.st⟩
theorem rot_seg {L : List Ent} {a m b : Nat} (h1 : a ≤ m) (h2 : m ≤ b) (hb : b ≤ L.length) (h : ∀ p q, a ≤ p → p < m → m ≤ q → q < b → aheadE (nth L q) (nth L p) = true) : SegE L (rotL L a m b) a b :=
  ⟨rotL_len _ _ _ _, fun k hk => by
    by_cases hl : k < L.length
    · rw [rotL_nth hl, if_neg (by omega)]
    · have e1 : (rotL L a m b).length ≤ k := by rw [rotL_len]; omega
      simp [nth, List.getD_eq_getElem?_getD, List.getElem?_eq_none e1, List.getElem?_eq_none (show L.length ≤ k by omega)], fun k k1 k2 => by
    rw [rotL_nth (by omega), if_pos ⟨k1, k2⟩]
    split
    · exact ⟨k - a + m, by omega, by omega, rfl⟩
    · exact ⟨k - (b - m), by omega, by omega, rfl⟩, rot_stb h1 h2 hb h⟩
end Go.Proofs.Ytbegbdfbfbkflaa
/- The stable merge of two parts in order, in plain Lean: what its search finds, what the turn leaves. -/
namespace Go.Proofs.Ytbegbdfbfbkflaa
set_option linter.unusedVariables false
set_option linter.unusedSimpArgs false
theorem leE_refl (a : Ent) : leE a a = true := by unfold leE; rw [ahead_irr]; rfl
theorem srt_at {L : List Ent} {a b i j : Nat} (h : srtIn L a b) (h1 : a ≤ i) (h2 : i ≤ j) (h3 : j < b) : leE (nth L i) (nth L j) = true := by
  by_cases e : i = j
  · subst e; exact leE_refl _
  · exact h i j h1 (by omega) h3
theorem srt_join {L : List Ent} {a m b : Nat} (h1 : srtIn L a m) (h2 : srtIn L m b) (h : ∀ i j, a ≤ i → i < m → m ≤ j → j < b → leE (nth L i) (nth L j) = true) : srtIn L a b := fun i j hi hij hj => by
  by_cases c1 : j < m
  · exact h1 i j hi hij c1
  · by_cases c2 : i < m
    · exact h i j hi c2 (by omega) hj
    · exact h2 i j (by omega) hij hj
theorem srt_sub {L : List Ent} {a b a' b' : Nat} (h : srtIn L a b) (h1 : a ≤ a') (h2 : b' ≤ b) : srtIn L a' b' := fun i j hi hij hj => h i j (by omega) hij (by omega)
theorem srt_out {L M : List Ent} {a b c d : Nat} (h : SegE L M a b) (hs : srtIn L c d) (ho : d ≤ a ∨ b ≤ c) : srtIn M c d := fun i j hi hij hj => by
  rw [h.out i (by omega), h.out j (by omega)]; exact hs i j hi hij hj
theorem srt_one (L : List Ent) {a b : Nat} (h : b ≤ a + 1) : srtIn L a b := fun i j hi hij hj => by omega
/-- Where the search ends. -/
structure SymS (L : List Ent) (a m b s e : Nat) : Prop where
  h1 : a ≤ s ∧ s ≤ m ∧ m ≤ e ∧ e ≤ b
  mid : s + e = (a + b) / 2 + m
  lo : a < s → e < b → leE (nth L (s - 1)) (nth L e) = true
  hi : s < m → m < e → aheadE (nth L (e - 1)) (nth L s) = true
theorem sym_turn {L : List Ent} {a m b s e : Nat} (hb : b ≤ L.length) (hm : a ≤ m ∧ m ≤ b) (h1 : srtIn L a m) (h2 : srtIn L m b) (q : SymS L a m b s e) :
    SegE L (rotL L s m e) a b ∧ srtIn (rotL L s m e) a s ∧ srtIn (rotL L s m e) s ((a + b) / 2) ∧ srtIn (rotL L s m e) ((a + b) / 2) e ∧ srtIn (rotL L s m e) e b ∧ ∀ i j, a ≤ i → i < (a + b) / 2 → (a + b) / 2 ≤ j → j < b → leE (nth (rotL L s m e) i) (nth (rotL L s m e) j) = true := by
  obtain ⟨⟨q1, q2, q3, q4⟩, qm, ql, qh⟩ := q
  have hlt : ∀ p r, s ≤ p → p < m → m ≤ r → r < e → aheadE (nth L r) (nth L p) = true := fun p r p1 p2 r1 r2 => by
    have a1 := qh (by omega) (by omega)
    have a2 := srt_at h2 r1 (show r ≤ e - 1 by omega) (by omega)
    have a3 := srt_at h1 q1 p1 p2
    exact lt_le_lt (le_lt a2 a1) a3
  have hseg := (rot_seg (L := L) q2 q3 (by omega) hlt).wide q1 q4
  have hn : ∀ k, k < L.length → nth (rotL L s m e) k = if s ≤ k ∧ k < e then (if k < s + (e - m) then nth L (k - s + m) else nth L (k - (e - m))) else nth L k := fun k hk => rotL_nth hk
  generalize hd : (a + b) / 2 = d at *
  have hsd : s + (e - m) = d := by omega
  have n1 : ∀ k, a ≤ k → k < s → nth (rotL L s m e) k = nth L k := fun k k1 k2 => by rw [hn k (by omega), if_neg (by omega)]
  have n2 : ∀ k, s ≤ k → k < d → nth (rotL L s m e) k = nth L (k - s + m) := fun k k1 k2 => by rw [hn k (by omega), if_pos (by omega), if_pos (by omega)]
  have n3 : ∀ k, d ≤ k → k < e → nth (rotL L s m e) k = nth L (k - (e - m)) := fun k k1 k2 => by rw [hn k (by omega), if_pos (by omega), if_neg (by omega)]
  have n4 : ∀ k, e ≤ k → k < b → nth (rotL L s m e) k = nth L k := fun k k1 k2 => by rw [hn k (by omega), if_neg (by omega)]
  refine ⟨hseg, fun i j i1 i2 i3 => ?_, fun i j i1 i2 i3 => ?_, fun i j i1 i2 i3 => ?_, fun i j i1 i2 i3 => ?_, fun i j i1 i2 j1 j2 => ?_⟩
  · rw [n1 i i1 (by omega), n1 j (by omega) i3]; exact h1 i j i1 i2 (by omega)
  · rw [n2 i i1 (by omega), n2 j (by omega) i3]; exact h2 _ _ (by omega) (by omega) (by omega)
  · rw [n3 i i1 (by omega), n3 j (by omega) i3]; exact h1 _ _ (by omega) (by omega) (by omega)
  · rw [n4 i i1 (by omega), n4 j (by omega) i3]; exact h2 i j (by omega) i2 i3
  · by_cases c1 : i < s
    · rw [n1 i i1 c1]
      by_cases c2 : j < e
      · rw [n3 j j1 c2]; exact h1 _ _ i1 (by omega) (by omega)
      · rw [n4 j (by omega) j2]
        have b1 := srt_at h1 i1 (show i ≤ s - 1 by omega) (by omega)
        have b2 := ql (by omega) (by omega)
        have b3 := srt_at h2 (show m ≤ e by omega) (show e ≤ j by omega) j2
        exact leE_trans (leE_trans b1 b2) b3
    · rw [n2 i (by omega) i2]
      by_cases c2 : j < e
      · rw [n3 j j1 c2]
        exact lt_le (hlt _ _ (by omega) (by omega) (by omega) (by omega))
      · rw [n4 j (by omega) j2]; exact srt_at h2 (by omega) (by omega) j2
/-- Both halves in order, and the whole. -/
theorem sym_end {L M N : List Ent} {a d b : Nat} (hs : SegE L M a d) (hn : SegE M N d b) (h1 : srtIn M a d) (h2 : srtIn N d b) (hc : ∀ i j, a ≤ i → i < d → d ≤ j → j < b → leE (nth L i) (nth L j) = true) (had : a ≤ d ∧ d ≤ b) : SegE L N a b ∧ srtIn N a b := by
  refine ⟨(hs.wide (Nat.le_refl _) had.2).trans (hn.wide had.1 (Nat.le_refl _)), srt_join (srt_out hn h1 (.inl (Nat.le_refl _))) h2 fun i j i1 i2 j1 j2 => ?_⟩
  rw [hn.out i (.inl i2)]
  obtain ⟨q, q1, q2, e⟩ := hn.src j j1 j2
  obtain ⟨p, p1, p2, e2⟩ := hs.src i i1 i2
  rw [e, e2, hs.out q (.inr q1)]
  exact hc p q p1 p2 q1 q2
/-- One entry put into its place: from the left. -/
theorem ins_left {L : List Ent} {a i b : Nat} (hb : b ≤ L.length) (ha : a + 1 ≤ i ∧ i ≤ b) (h2 : srtIn L (a + 1) b) (hlo : ∀ k, a + 1 ≤ k → k < i → aheadE (nth L k) (nth L a) = true) (hhi : ∀ k, i ≤ k → k < b → leE (nth L a) (nth L k) = true) : SegE L (rotL L a (a + 1) i) a b ∧ srtIn (rotL L a (a + 1) i) a b := by
  have hlt : ∀ p r, a ≤ p → p < a + 1 → a + 1 ≤ r → r < i → aheadE (nth L r) (nth L p) = true := fun p r p1 p2 r1 r2 => by
    rw [show p = a by omega]; exact hlo r r1 r2
  have hseg := (rot_seg (L := L) (by omega) ha.1 (by omega) hlt).wide (Nat.le_refl _) ha.2
  have hn : ∀ k, k < L.length → nth (rotL L a (a + 1) i) k = if a ≤ k ∧ k < i then (if k < a + (i - (a + 1)) then nth L (k - a + (a + 1)) else nth L (k - (i - (a + 1)))) else nth L k := fun k hk => rotL_nth hk
  refine ⟨hseg, fun p r p1 p2 r1 => ?_⟩
  rw [hn p (by omega), hn r (by omega)]
  by_cases c1 : p < i - 1
  · rw [if_pos (by omega), if_pos (by omega)]
    by_cases c2 : r < i - 1
    · rw [if_pos (by omega), if_pos (by omega)]; exact h2 _ _ (by omega) (by omega) (by omega)
    · by_cases c3 : r < i
      · rw [if_pos (by omega), if_neg (by omega), show r - (i - (a + 1)) = a by omega]
        exact lt_le (hlo _ (by omega) (by omega))
      · rw [if_neg (by omega)]; exact h2 _ _ (by omega) (by omega) r1
  · by_cases c4 : p < i
    · rw [if_pos (by omega), if_neg (by omega), show p - (i - (a + 1)) = a by omega, if_neg (by omega)]
      exact hhi r (by omega) r1
    · rw [if_neg (by omega), if_neg (by omega)]; exact h2 _ _ (by omega) p2 r1
/-- From the right. -/
theorem ins_right {L : List Ent} {a i m : Nat} (hb : m < L.length) (ha : a ≤ i ∧ i ≤ m) (h1 : srtIn L a m) (hlo : ∀ k, a ≤ k → k < i → leE (nth L k) (nth L m) = true) (hhi : ∀ k, i ≤ k → k < m → aheadE (nth L m) (nth L k) = true) : SegE L (rotL L i m (m + 1)) a (m + 1) ∧ srtIn (rotL L i m (m + 1)) a (m + 1) := by
  have hlt : ∀ p r, i ≤ p → p < m → m ≤ r → r < m + 1 → aheadE (nth L r) (nth L p) = true := fun p r p1 p2 r1 r2 => by
    rw [show r = m by omega]; exact hhi p p1 p2
  have hseg := (rot_seg (L := L) ha.2 (by omega) (by omega) hlt).wide ha.1 (Nat.le_refl _)
  have hn : ∀ k, k < L.length → nth (rotL L i m (m + 1)) k = if i ≤ k ∧ k < m + 1 then (if k < i + (m + 1 - m) then nth L (k - i + m) else nth L (k - (m + 1 - m))) else nth L k := fun k hk => rotL_nth hk
  refine ⟨hseg, fun p r p1 p2 r1 => ?_⟩
  rw [hn p (by omega), hn r (by omega)]
  by_cases c1 : p < i
  · rw [if_neg (by omega)]
    by_cases c2 : r < i
    · rw [if_neg (by omega)]; exact h1 _ _ p1 p2 (by omega)
    · by_cases c3 : r = i
      · rw [if_pos (by omega), if_pos (by omega), show r - i + m = m by omega]; exact hlo p p1 c1
      · rw [if_pos (by omega), if_neg (by omega)]; exact h1 _ _ p1 (by omega) (by omega)
  · by_cases c3 : p = i
    · rw [if_pos (by omega), if_pos (by omega), show p - i + m = m by omega, if_pos (by omega), if_neg (by omega)]
      exact lt_le (hhi _ (by omega) (by omega))
    · rw [if_pos (by omega), if_neg (by omega), if_pos (by omega), if_neg (by omega)]; exact h1 _ _ (by omega) (by omega) (by omega)
/-- One step of moving an entry down to its place. -/
structure DwnI (L C : List Ent) (a i j : Nat) : Prop where
  seg : SegE L C a (i + 1)
  hj : a ≤ j ∧ j ≤ i
  oth : ∀ p q, a ≤ p → p < q → q ≤ i → p ≠ j → q ≠ j → leE (nth C p) (nth C q) = true
  abv : ∀ q, j < q → q ≤ i → aheadE (nth C j) (nth C q) = true
theorem dwn_start {L : List Ent} {a i : Nat} (h : srtIn L a i) (ha : a ≤ i) : DwnI L L a i i := ⟨SegE.refl _ _ _, ⟨ha, Nat.le_refl _⟩, fun p q p1 p2 p3 p4 p5 => h p q p1 p2 (by omega), fun q q1 q2 => by omega⟩
theorem dwn_step {L C : List Ent} {a i j : Nat} (hi : i < L.length) (h : DwnI L C a i j) (hj : a < j) (hlt : aheadE (nth C j) (nth C (j - 1)) = true) : DwnI L (swapL C j (j - 1)) a i (j - 1) := by
  have hl := h.seg.len
  have hh := h.hj
  have hn := fun k => swap_nth (L := C) (i := j) (j := j - 1) (by omega) (by omega) k
  have hsg : SegE C (swapL C j (j - 1)) (j - 1) (j + 1) := by
    rw [swap_rot (by omega) (by omega)]
    refine rot_seg (by omega) (by omega) (by omega) fun p q p1 p2 q1 q2 => ?_
    rw [show q = j by omega, show p = j - 1 by omega]; exact hlt
  refine ⟨h.seg.trans (hsg.wide (by omega) (by omega)), by omega, fun p q p1 p2 p3 p4 p5 => ?_, fun q q1 q2 => ?_⟩
  · rw [hn p, hn q, if_neg p4, if_neg p5]
    by_cases c1 : p = j
    · rw [if_pos c1]
      rw [if_neg (by omega)]
      exact h.oth (j - 1) q (by omega) (by omega) p3 (by omega) (by omega)
    · rw [if_neg c1]
      by_cases c2 : q = j
      · rw [if_pos c2]; exact h.oth p (j - 1) p1 (by omega) (by omega) c1 (by omega)
      · rw [if_neg c2]; exact h.oth p q p1 p2 p3 c1 c2
  · rw [hn (j - 1), hn q, if_pos rfl, if_neg (by omega)]
    by_cases c2 : q = j
    · rw [if_pos c2]; exact hlt
    · rw [if_neg c2]; exact h.abv q (by omega) q2
theorem dwn_end {L C : List Ent} {a i j : Nat} (h : DwnI L C a i j) (he : j = a ∨ aheadE (nth C j) (nth C (j - 1)) = false) : srtIn C a (i + 1) := fun p q p1 p2 p3 => by
  have hh := h.hj
  by_cases c1 : p = j
  · subst c1; exact lt_le (h.abv q p2 (by omega))
  · by_cases c2 : q = j
    · subst c2
      rcases he with he | he
      · omega
      · have h1 : leE (nth C (q - 1)) (nth C q) = true := by unfold leE; rw [he]; rfl
        by_cases c3 : p = q - 1
        · rw [c3]; exact h1
        · exact leE_trans (h.oth p (q - 1) p1 (by omega) (by omega) c1 (by omega)) h1
    · exact h.oth p q p1 p2 (by omega) c1 c2
end Go.Proofs.Ytbegbdfbfbkflaa
/- Data as the unknown results of calls: kept in a world of the result. -/
namespace Go.Proofs.Ytbegbdfbfbkflaa
set_option linter.unusedVariables false
class Enc (α : Type) where
  toV : α → Value
  ofV : Value → α
  rt : ∀ x, ofV (toV x) = x
@[reducible] def asI : Value → Int
  | .int _ n => n
  | _ => 0
@[reducible] def asS : Value → ByteArray
  | .string s => s
  | _ => ⟨#[]⟩
@[reducible] def asB : Value → Bool
  | .bool b => b
  | _ => false
def asL : Value → List Value
  | .agg cs => cs.toList
  | _ => []
instance : Enc Int := ⟨fun n => .int .i64 n, asI, fun _ => rfl⟩
instance : Enc ByteArray := ⟨fun s => .string s, asS, fun _ => rfl⟩
instance : Enc Bool := ⟨fun b => .bool b, asB, fun _ => rfl⟩
instance {α : Type} [Enc α] : Enc (List α) := ⟨fun l => .agg (l.map Enc.toV).toArray, fun v => (asL v).map Enc.ofV, fun l => by
  show ((l.map Enc.toV).toArray.toList).map Enc.ofV = l
  rw [List.toList_toArray, List.map_map]
  exact (List.map_congr_left (fun a _ => Enc.rt a)).trans (List.map_id l)⟩
instance {α β : Type} [Enc α] [Enc β] : Enc (α × β) := ⟨fun x => .agg #[Enc.toV x.1, Enc.toV x.2], fun v => (Enc.ofV ((asL v).getD 0 (.bool false)), Enc.ofV ((asL v).getD 1 (.bool false))), fun x => by
  show (Enc.ofV (Enc.toV x.1), Enc.ofV (Enc.toV x.2)) = x
  rw [Enc.rt, Enc.rt]⟩
def eW {α : Type} [Enc α] (x : α) (w : World) : World := { w with heap := #[.cells #[Enc.toV x] 0 (0, 0)] }
def yE {α : Type} [Enc α] (y : Ya) : α := match (y.w.heap[0]? : Option Obj) with
  | some (.cells cs _ _) => Enc.ofV ((cs[0]? : Option Value).getD (.bool false))
  | _ => Enc.ofV (.bool false)
theorem yE_mk {α : Type} [Enc α] (A : Option Addr) (c : Nat) (x : α) (w : World) (n : Int) : yE ⟨A, c, eW x w, n⟩ = x := Enc.rt x
/-- Results with data: places as they are, the data with a number and a place behind them. -/
def mkE {α : Type} [Enc α] (k : Nat) (y : Ys) (x : α) (i : Nat) (h : Int) (w : World) : Ys := fun j => if j = k then ⟨none, i, eW x w, h⟩ else y j
end Go.Proofs.Ytbegbdfbfbkflaa
/- The stable sort of entries, walked: ranges changed, parts turned, insertion. -/
namespace Go.Proofs.Ytbegbdfbfbkflaa
open Go.RowKit
set_option maxHeartbeats 4000000
set_option maxRecDepth 20000
set_option linter.unusedVariables false
set_option linter.unusedSimpArgs false
attribute [local irreducible] Calls
abbrev rwE (A : Option Addr) (n c : Nat) (L : List Ent) : HObj := .row 71 4 A n c (fl L)
def cmpV : Value := .func (.func 205) #[] #[]
theorem isS_own {w : World} {base e sz n c : Nat} {A : Option Addr} {us : List Value} (h : Own w base e sz A n c us) (hn : 0 < n) : IsS A := by
  obtain ⟨_, ⟨hA, h0⟩ | ⟨g, cap, cur, hA, _⟩⟩ := h
  · omega
  · injection hA with hA; exact ⟨_, hA⟩
theorem natAdd (a b : Nat) : ((a : Int) + (b : Int)) = ((a + b : Nat) : Int) := by omega
theorem swapR_c (A : Option Addr) (n c a b m : Nat) (L : List Ent) (hn : L.length = n) (hl : n ≤ 4194304) (h1 : a + m ≤ b) (h2 : b + m ≤ n) {base : Nat} {w0 w : World} {H : List HObj} {G : List World} (hw : WOk base w0 (rwE A n c L :: H) G w) :
    Calls Try.prog 262 #[.slice A n c, .int .i64 a, .int .i64 b, .int .i64 m, cmpV] w fun e w' => ∃ y : Ys, e = .returned (.tuple #[]) ∧ True ∧ WOk base w0 (rwE A n c (swR L a b m) :: H) G w' := by
  have hA : 0 < n → IsS A := fun h => isS_own (hw.own _ List.mem_cons_self) h
  refine ok_enterW 38 Try.func262 rfl rfl rfl hw ?_
  repeat' (first
    | refine ok_seq ?_
    | refine ok_then ?_
    | refine ok_block ?_
    | (refine ok_region (i := 0) ?_; refine ok_p rfl rfl rfl (by exact ps_assign rfl rfl) ?_; refine ok_nil ?_; refine ok_env [(0, _), (1, _), (2, _), (3, _), (10, _)] ⟨rfl, rfl, rfl, rfl, rfl, trivial⟩ ?_))
  refine ok_loop (ι := { k : Nat // k ≤ m }) (fun k => m - k.1) (fun k => ([(0, .slice A n c), (1, .int .i64 a), (2, .int .i64 b), (3, .int .i64 m), (10, .int .i64 k.1)], rwE A n c (swR L a b k.1) :: H, _)) ⟨0, by omega⟩ (fun ac w he hw => ⟨⟨0, by omega⟩, he.sub ⟨rfl, rfl, rfl, rfl, rfl, trivial⟩, by simp only; rw [swR_zero]; exact hw⟩) ?_
  rintro ⟨k, hk⟩
  simp only at hk ⊢
  have hll : (swR L a b k).length = n := by rw [swR_len]; exact hn
  have hst := swR_step (L := L) (a := a) (b := b) (i := k)
  have HS := Lib.hid hst; clear hst
  generalize hC : swR L a b k = C at hll HS ⊢
  repeat' (first
    | refine ok_seq ?_
    | refine ok_then ?_
    | refine ok_then_exit ?_
    | refine ok_block ?_
    | refine ok_in_normal ?_
    | refine ok_in_exit ?_
    | (refine ok_cond rfl (fun hc => ?_) (fun hc => ?_) <;> (have hd := hc; (try simp only [decide_eq_true_eq, decide_eq_false_iff_not, Bool.or_eq_true, Bool.or_eq_false_iff, Bool.and_eq_true, Bool.and_eq_false_iff, Bool.not_eq_true', Bool.not_eq_false', bne_iff_ne, beq_iff_eq, bne_eq_false_iff_eq, beq_eq_false_iff_ne, ne_eq, Bool.not_true, Bool.not_false, Bool.false_eq_true, Bool.true_eq_false, inB_true, inB_false] at hd)))
    | refine ok_exit ?_
    | refine ok_skip ?_
    | (refine ok_region (i := 1) ?_; refine ok_p rfl rfl rfl (by exact ps_move rfl rfl) ?_; refine ok_p rfl rfl rfl (by exact ps_move rfl rfl) ?_; refine ok_p rfl rfl rfl (by exact ps_int rfl rfl rfl rfl) ?_; refine ok_nil ?_; refine ok_env [(0, _), (1, _), (2, _), (3, _), (10, _), (13, _)] ⟨rfl, rfl, rfl, rfl, rfl, rfl, trivial⟩ ?_)
    | (refine ok_region (i := 2) ?_; refine ok_p rfl rfl rfl (by exact ps_move rfl rfl) ?_; refine ok_p rfl rfl rfl (by exact ps_add rfl rfl rfl (by omega)) ?_; refine ok_p rfl rfl rfl (by exact ps_assign rfl rfl) ?_; refine ok_nil ?_; refine ok_env [(0, _), (1, _), (2, _), (3, _), (10, _)] ⟨rfl, rfl, rfl, rfl, rfl, trivial⟩ ?_)
    | (apply mrg0; (focus (intro hk; refine ok_draw (id := 3) 22 rfl (by kernel_rfl) (by kernel_rfl) rfl (by repeat (first | exact pq_body | refine pq_then ?_ | refine pq_in ?_)) [] (by decide) rfl ?_; refine okT_take (i := 0) rfl (by kernel_rfl) rfl rfl rfl (by exact ps_move rfl rfl) ?_; refine okT_take (i := 1) rfl (by kernel_rfl) rfl rfl rfl (by exact ps_move rfl rfl) ?_; refine okT_take (i := 2) rfl (by kernel_rfl) rfl rfl rfl (by exact ps_move rfl rfl) ?_; refine okT_take (i := 3) rfl (by kernel_rfl) rfl rfl rfl (by exact ps_cast (v' := .int .i64 ((a + k : Nat) : Int)) (ps_add rfl rfl rfl (by omega)) (by push_cast; rfl)) ?_; refine okT_take (i := 4) rfl (by kernel_rfl) rfl rfl rfl (by exact ps_move rfl rfl) ?_; refine okT_take (i := 5) rfl (by kernel_rfl) rfl rfl rfl (by exact ps_move rfl rfl) ?_; refine okT_take (i := 6) rfl (by kernel_rfl) rfl rfl rfl (by exact ps_move rfl rfl) ?_; refine okT_take (i := 7) rfl (by kernel_rfl) rfl rfl rfl (by exact ps_cast (v' := .int .i64 ((b + k : Nat) : Int)) (ps_add rfl rfl rfl (by omega)) (by push_cast; rfl)) ?_; refine okT_take (i := 8) rfl (by kernel_rfl) rfl rfl rfl (by exact ps_move rfl rfl) ?_; refine okT_take (i := 9) rfl (by kernel_rfl) rfl rfl rfl (by exact ps_move rfl rfl) ?_; refine okT_take (i := 10) rfl (by kernel_rfl) rfl rfl rfl (by exact ps_move rfl rfl) ?_; refine okT_take (i := 11) rfl (by kernel_rfl) rfl rfl rfl (by exact ps_cast (v' := .int .i64 ((b + k : Nat) : Int)) (ps_add rfl rfl rfl (by omega)) (by push_cast; rfl)) ?_; refine okT_take (i := 12) rfl (by kernel_rfl) rfl rfl rfl (by exact ps_indexN rfl rfl rfl (by omega) (isw_of (hA (by omega)))) ?_; refine okT_take (i := 14) rfl (by kernel_rfl) rfl rfl rfl (by exact ps_move rfl rfl) ?_; refine okT_take (i := 15) rfl (by kernel_rfl) rfl rfl rfl (by exact ps_move rfl rfl) ?_; refine okT_take (i := 16) rfl (by kernel_rfl) rfl rfl rfl (by exact ps_move rfl rfl) ?_; refine okT_take (i := 17) rfl (by kernel_rfl) rfl rfl rfl (by exact ps_cast (v' := .int .i64 ((a + k : Nat) : Int)) (ps_add rfl rfl rfl (by omega)) (by push_cast; rfl)) ?_; refine okT_take (i := 18) rfl (by kernel_rfl) rfl rfl rfl (by exact ps_indexN rfl rfl rfl (by omega) (isw_of (hA (by omega)))) ?_; refine okT_many (by kernel_rfl) (all_cons (at_m (i := 13) rfl rfl rfl rfl rfl (by exact ms_ps (by exact ps_loadsF (α := Ent) (l := C) (i := b + k) rfl rfl (rds_row 0 rfl) rfl rfl (by omega) rfl)) (fun y w _ h => by exact h.sel [] (by decide) rfl (fun _ h => h)) ?_) (all_cons (at_m (i := 19) rfl rfl rfl rfl rfl (by exact ms_ps (by exact ps_loadsF (α := Ent) (l := C) (i := a + k) rfl rfl (rds_row 0 rfl) rfl rfl (by omega) rfl)) (fun y w _ h => by exact h.sel [] (by decide) rfl (fun _ h => h)) ?_) all_nil)); (focus (rintro y29 hy29; refine okT_one (i := 19) rfl rfl (by kernel_rfl) rfl rfl rfl (by exact ms_ps (by exact ps_loadsF (α := Ent) (l := C) (i := a + k) rfl rfl (rds_row 0 rfl) rfl rfl (by omega) rfl)) (fun y w _ h => by exact h.sel [] (by decide) rfl (fun _ h => h)) ?_; rintro y35 hy35; refine okT_take (i := 20) rfl (by kernel_rfl) rfl rfl rfl (by exact ps_indexN rfl rfl rfl (by omega) (isw_of (hA (by omega)))) ?_; refine okT_one0 (i := 21) rfl rfl (by kernel_rfl) rfl rfl (by exact ms_setw (α := Ent) 0 (a + k) (nth C (b + k)) rfl rfl rfl rfl rfl rfl rfl rfl rfl (by omega)) (fun y w _ h => by exact h.sel [] (by decide) rfl (fun _ h => h)) ?_; rintro y_ hy_; refine okT_done (by kernel_rfl) ?_; refine ok_p rfl rfl rfl (by exact ps_indexN rfl rfl rfl (by omega) (isw_of (hA (by omega)))) ?_; refine ok_m_ rfl rfl (by exact ms_setw (α := Ent) 0 (b + k) (nth C (a + k)) rfl rfl rfl rfl rfl rfl rfl rfl rfl (by rw [List.length_set]; omega)) ?_; rintro y_ hy_; refine ok_nil ?_; refine ok_env [(0, _), (1, _), (2, _), (3, _), (10, _)] ⟨rfl, rfl, rfl, rfl, rfl, trivial⟩ ?_; exact hk)); (focus (rintro y35 hy35; refine okT_one (i := 13) rfl rfl (by kernel_rfl) rfl rfl rfl (by exact ms_ps (by exact ps_loadsF (α := Ent) (l := C) (i := b + k) rfl rfl (rds_row 0 rfl) rfl rfl (by omega) rfl)) (fun y w _ h => by exact h.sel [] (by decide) rfl (fun _ h => h)) ?_; rintro y29 hy29; refine okT_take (i := 20) rfl (by kernel_rfl) rfl rfl rfl (by exact ps_indexN rfl rfl rfl (by omega) (isw_of (hA (by omega)))) ?_; refine okT_one0 (i := 21) rfl rfl (by kernel_rfl) rfl rfl (by exact ms_setw (α := Ent) 0 (a + k) (nth C (b + k)) rfl rfl rfl rfl rfl rfl rfl rfl rfl (by omega)) (fun y w _ h => by exact h.sel [] (by decide) rfl (fun _ h => h)) ?_; rintro y_ hy_; refine okT_done (by kernel_rfl) ?_; refine ok_p rfl rfl rfl (by exact ps_indexN rfl rfl rfl (by omega) (isw_of (hA (by omega)))) ?_; refine ok_m_ rfl rfl (by exact ms_setw (α := Ent) 0 (b + k) (nth C (a + k)) rfl rfl rfl rfl rfl rfl rfl rfl rfl (by rw [List.length_set]; omega)) ?_; rintro y_ hy_; refine ok_nil ?_; refine ok_env [(0, _), (1, _), (2, _), (3, _), (10, _)] ⟨rfl, rfl, rfl, rfl, rfl, trivial⟩ ?_; exact hk))))))
  · refine fun ac w' he hw => ⟨⟨k + 1, by omega⟩, by simp only; omega, he.sub ⟨rfl, rfl, rfl, rfl, rfl, trivial⟩, ?_⟩
    simp only
    rw [← HS.out (by omega) (by omega)]
    exact hw
  · obtain rfl : k = m := by omega
    refine ok_endN (K := .normal) (ok_endL (vs := []) rfl trivial (fun w' hw => ⟨mkY none 0 w, rfl, trivial, ?_⟩))
    rw [hC]
    exact hw
/-- A part turned round. -/
structure RotI (L : List Ent) (m : Nat) (a b : Nat) where
  C : List Ent
  i : Nat
  j : Nat
  hi : 0 < i ∧ i ≤ m - a
  hj : 0 < j ∧ j ≤ b - m
  hl : C.length = L.length
  ok : rotL L a m b = rotL C (m - i) m (m + j)
theorem rotate_c (A : Option Addr) (n c a m b : Nat) (L : List Ent) (hn : L.length = n) (hl : n ≤ 4194304) (h1 : a < m) (h2 : m < b) (h3 : b ≤ n) {base : Nat} {w0 w : World} {H : List HObj} {G : List World} (hw : WOk base w0 (rwE A n c L :: H) G w) :
    Calls Try.prog 261 #[.slice A n c, .int .i64 a, .int .i64 m, .int .i64 b, cmpV] w fun e w' => ∃ y : Ys, e = .returned (.tuple #[]) ∧ True ∧ WOk base w0 (rwE A n c (rotL L a m b) :: H) G w' := by
  refine ok_enterW 58 Try.func261 rfl rfl rfl hw ?_
  repeat' (first
    | refine ok_seq ?_
    | refine ok_block ?_
    | (refine ok_region (i := 0) ?_; refine ok_p rfl rfl rfl (by exact ps_move rfl rfl) ?_; refine ok_p rfl rfl rfl (by exact ps_move rfl rfl) ?_; refine ok_p rfl rfl rfl (by exact ps_sub rfl rfl rfl (by omega)) ?_; refine ok_p rfl rfl rfl (by exact ps_assign rfl rfl) ?_; refine ok_nil ?_; refine ok_env [(0, _), (2, _), (3, _), (4, _), (10, _)] ⟨rfl, rfl, rfl, rfl, rfl, trivial⟩ ?_)
    | (refine ok_region (i := 1) ?_; refine ok_p rfl rfl rfl (by exact ps_move rfl rfl) ?_; refine ok_p rfl rfl rfl (by exact ps_move rfl rfl) ?_; refine ok_p rfl rfl rfl (by exact ps_sub rfl rfl rfl (by omega)) ?_; refine ok_p rfl rfl rfl (by exact ps_assign rfl rfl) ?_; refine ok_nil ?_; refine ok_env [(0, _), (2, _), (4, _), (10, _), (11, _)] ⟨rfl, rfl, rfl, rfl, rfl, trivial⟩ ?_))
  refine ok_loop (ι := RotI L m a b) (fun q => q.i + q.j) (fun q => ([(0, .slice A n c), (2, .int .i64 m), (4, cmpV), (10, .int .i64 q.i), (11, .int .i64 q.j)], rwE A n c q.C :: H, _)) ⟨L, m - a, b - m, by omega, by omega, rfl, by rw [show m - (m - a) = a by omega, show m + (b - m) = b by omega]⟩ (fun ac w he hw => ⟨⟨L, m - a, b - m, by omega, by omega, rfl, by rw [show m - (m - a) = a by omega, show m + (b - m) = b by omega]⟩, he.sub ⟨rfl, rfl, rfl, by simp only [look]; congr 2; omega, by simp only [look]; congr 2; omega, trivial⟩, hw⟩) ?_
  rintro ⟨C, i, j, hi, hj, hcl, ok⟩
  simp only at hi hj hcl ok ⊢
  have OK := Lib.hid ok; clear ok
  have hcn : C.length = n := by omega
  repeat' (first
    | refine ok_seq ?_
    | refine ok_then ?_
    | refine ok_then_exit ?_
    | refine ok_block ?_
    | refine ok_in_normal ?_
    | refine ok_in_exit ?_
    | (refine ok_cond rfl (fun hc => ?_) (fun hc => ?_) <;> (have hd := hc; (try simp only [decide_eq_true_eq, decide_eq_false_iff_not, Bool.or_eq_true, Bool.or_eq_false_iff, Bool.and_eq_true, Bool.and_eq_false_iff, Bool.not_eq_true', Bool.not_eq_false', bne_iff_ne, beq_iff_eq, bne_eq_false_iff_eq, beq_eq_false_iff_ne, ne_eq, Bool.not_true, Bool.not_false, Bool.false_eq_true, Bool.true_eq_false, inB_true, inB_false] at hd)))
    | refine ok_exit ?_
    | refine ok_skip ?_
    | (refine ok_region (i := 2) ?_; refine ok_p rfl rfl rfl (by exact ps_move rfl rfl) ?_; refine ok_p rfl rfl rfl (by exact ps_move rfl rfl) ?_; refine ok_p rfl rfl rfl (by exact ps_int rfl rfl rfl rfl) ?_; refine ok_nil ?_; refine ok_env [(0, _), (2, _), (4, _), (10, _), (11, _), (20, _)] ⟨rfl, rfl, rfl, rfl, rfl, rfl, trivial⟩ ?_)
    | (refine ok_region (i := 3) ?_; refine ok_p rfl rfl rfl (by exact ps_move rfl rfl) ?_; refine ok_p rfl rfl rfl (by exact ps_move rfl rfl) ?_; refine ok_p rfl rfl rfl (by exact ps_int rfl rfl rfl rfl) ?_; refine ok_nil ?_; refine ok_env [(0, _), (2, _), (4, _), (10, _), (11, _), (23, _)] ⟨rfl, rfl, rfl, rfl, rfl, rfl, trivial⟩ ?_)
    | (refine ok_region (i := 4) ?_; refine ok_p rfl rfl rfl (by exact ps_move rfl rfl) ?_; refine ok_p rfl rfl rfl (by exact ps_move rfl rfl) ?_; refine ok_p rfl rfl rfl (by exact ps_move rfl rfl) ?_; refine ok_p rfl rfl rfl (by exact ps_cast (v' := .int .i64 ((m - i : Nat) : Int)) (ps_sub rfl rfl rfl (by omega)) (by congr 1; omega)) ?_; refine ok_p rfl rfl rfl (by exact ps_move rfl rfl) ?_; refine ok_p rfl rfl rfl (by exact ps_move rfl rfl) ?_; refine ok_p rfl rfl rfl (by exact ps_move rfl rfl) ?_; refine ok_m rfl rfl rfl (by exact ms_wr 0 rfl rfl rfl rfl (fun _ _ w hw => swapR_c A n c (m - i) m j C hcn hl (by omega) (by omega) hw)) ?_; rintro y31 hy31; refine ok_nil ?_; refine ok_env [(0, _), (2, _), (4, _), (10, _), (11, _)] ⟨rfl, rfl, rfl, rfl, rfl, trivial⟩ ?_)
    | (refine ok_region (i := 5) ?_; refine ok_p rfl rfl rfl (by exact ps_move rfl rfl) ?_; refine ok_p rfl rfl rfl (by exact ps_move rfl rfl) ?_; refine ok_p rfl rfl rfl (by exact ps_sub rfl rfl rfl (by omega)) ?_; refine ok_p rfl rfl rfl (by exact ps_assign rfl rfl) ?_; refine ok_nil ?_; refine ok_env [(0, _), (2, _), (4, _), (10, _), (11, _)] ⟨rfl, rfl, rfl, rfl, rfl, trivial⟩ ?_)
    | (refine ok_region (i := 6) ?_; refine ok_p rfl rfl rfl (by exact ps_move rfl rfl) ?_; refine ok_p rfl rfl rfl (by exact ps_move rfl rfl) ?_; refine ok_p rfl rfl rfl (by exact ps_move rfl rfl) ?_; refine ok_p rfl rfl rfl (by exact ps_cast (v' := .int .i64 ((m - i : Nat) : Int)) (ps_sub rfl rfl rfl (by omega)) (by congr 1; omega)) ?_; refine ok_p rfl rfl rfl (by exact ps_move rfl rfl) ?_; refine ok_p rfl rfl rfl (by exact ps_move rfl rfl) ?_; refine ok_p rfl rfl rfl (by exact ps_add rfl rfl rfl (by omega)) ?_; refine ok_p rfl rfl rfl (by exact ps_move rfl rfl) ?_; refine ok_p rfl rfl rfl (by exact ps_cast (v' := .int .i64 ((m + j - i : Nat) : Int)) (ps_sub rfl rfl rfl (by omega)) (by congr 1; omega)) ?_; refine ok_p rfl rfl rfl (by exact ps_move rfl rfl) ?_; refine ok_p rfl rfl rfl (by exact ps_move rfl rfl) ?_; refine ok_m rfl rfl rfl (by exact ms_wr 0 rfl rfl rfl rfl (fun _ _ w hw => swapR_c A n c (m - i) (m + j - i) i C hcn hl (by omega) (by omega) hw)) ?_; rintro y46 hy46; refine ok_nil ?_; refine ok_env [(0, _), (2, _), (4, _), (10, _), (11, _)] ⟨rfl, rfl, rfl, rfl, rfl, trivial⟩ ?_)
    | (refine ok_region (i := 7) ?_; refine ok_p rfl rfl rfl (by exact ps_move rfl rfl) ?_; refine ok_p rfl rfl rfl (by exact ps_move rfl rfl) ?_; refine ok_p rfl rfl rfl (by exact ps_sub rfl rfl rfl (by omega)) ?_; refine ok_p rfl rfl rfl (by exact ps_assign rfl rfl) ?_; refine ok_nil ?_; refine ok_env [(0, _), (2, _), (4, _), (10, _), (11, _)] ⟨rfl, rfl, rfl, rfl, rfl, trivial⟩ ?_)
    | (refine ok_region (i := 8) ?_; refine ok_p rfl rfl rfl (by exact ps_move rfl rfl) ?_; refine ok_p rfl rfl rfl (by exact ps_move rfl rfl) ?_; refine ok_p rfl rfl rfl (by exact ps_move rfl rfl) ?_; refine ok_p rfl rfl rfl (by exact ps_cast (v' := .int .i64 ((m - i : Nat) : Int)) (ps_sub rfl rfl rfl (by omega)) (by congr 1; omega)) ?_; refine ok_p rfl rfl rfl (by exact ps_move rfl rfl) ?_; refine ok_p rfl rfl rfl (by exact ps_move rfl rfl) ?_; refine ok_p rfl rfl rfl (by exact ps_move rfl rfl) ?_; refine ok_m rfl rfl rfl (by exact ms_wr 0 rfl rfl rfl rfl (fun _ _ w hw => swapR_c A n c (m - i) m i C hcn hl (by omega) (by omega) hw)) ?_; rintro y57 hy57; refine ok_nil ?_; refine ok_env [] trivial ?_))
  · refine fun ac w' he hw => ⟨⟨swR C (m - i) m j, i - j, j, by omega, by omega, by rw [swR_len]; exact hcl, by rw [OK.out]; exact rot_more (by omega) (by omega) (by omega)⟩, by simp only; omega, he.sub ⟨rfl, rfl, rfl, by simp only [look]; congr 2; omega, rfl, trivial⟩, hw⟩
  · refine fun ac w' he hw => ⟨⟨swR C (m - i) (m + j - i) i, i, j - i, by omega, by omega, by rw [swR_len]; exact hcl, by rw [OK.out]; exact rot_less (by omega) (by omega) (by omega)⟩, by simp only; omega, he.sub ⟨rfl, rfl, rfl, rfl, by simp only [look]; congr 2; omega, trivial⟩, hw⟩
  · obtain rfl : i = j := by omega
    refine ok_endN (K := .normal) (ok_endL (vs := []) rfl trivial (fun w' hw => ⟨mkY none 0 w, rfl, trivial, ?_⟩))
    rw [OK.out, rot_even (by omega) (by omega)]
    exact hw
/-- Results told by facts: the row is kept in the result. -/
instance : Enc Ent := ⟨fun e => .agg #[.string e.key, .int .i64 e.seq, .bool e.del, .string e.val], fun v => ⟨asS ((asL v).getD 0 (.bool false)), asI ((asL v).getD 1 (.bool false)), asB ((asL v).getD 2 (.bool false)), asS ((asL v).getD 3 (.bool false))⟩, fun _ => rfl⟩
def yM (M : List Ent) (w : World) : Ys := fun _ => ⟨none, 0, eW M w, 0⟩
def rM (y : Ys) : List Ent := yE (y 0)
theorem rM_yM (M : List Ent) (w : World) : rM (yM M w) = M := yE_mk _ _ _ _ _
theorem cmpE_lt (a b : Ent) : decide (cmpE a b < 0) = aheadE a b := by
  have h := cmpE_ahead a b
  cases h2 : aheadE a b with
  | true =>
    rw [h2] at h
    have : ¬ 0 ≤ cmpE a b := by simpa using h
    simp; omega
  | false =>
    rw [h2] at h
    have : 0 ≤ cmpE a b := by simpa using h
    simp; omega
structure InsI (L : List Ent) (a b : Nat) where
  C : List Ent
  i : Nat
  hi : a + 1 ≤ i ∧ (i ≤ b ∨ i = a + 1)
  seg : SegE L C a b
  srt : srtIn C a i
structure DwI (C : List Ent) (a i : Nat) where
  D : List Ent
  j : Nat
  ok : DwnI C D a i j
theorem insert_c' (A : Option Addr) (n c a b : Nat) (L : List Ent) (hn : L.length = n) (hl : n ≤ 4194304) (h1 : a ≤ b) (h2 : b ≤ n) {base : Nat} {w0 w : World} {H : List HObj} {G : List World} (hw : WOk base w0 (rwE A n c L :: H) G w) :
    Calls Try.prog 256 #[.slice A n c, .int .i64 a, .int .i64 b, cmpV] w fun e w' => ∃ y : Ys, e = .returned (.tuple #[]) ∧ (SegE L (rM y) a b ∧ srtIn (rM y) a b) ∧ WOk base w0 (rwE A n c (rM y) :: H) G w' := by
  have hA : 0 < n → IsS A := fun h => isS_own (hw.own _ List.mem_cons_self) h
  refine ok_enterW 53 Try.func256 rfl rfl rfl hw ?_
  repeat' (first
    | refine ok_seq ?_
    | refine ok_then ?_
    | refine ok_block ?_
    | (refine ok_region (i := 0) ?_; refine ok_p rfl rfl rfl (by exact ps_move rfl rfl) ?_; refine ok_p rfl rfl rfl (by exact ps_add rfl rfl rfl (by omega)) ?_; refine ok_p rfl rfl rfl (by exact ps_assign rfl rfl) ?_; refine ok_nil ?_; refine ok_env [(0, _), (1, _), (2, _), (3, _), (8, _)] ⟨rfl, rfl, rfl, rfl, rfl, trivial⟩ ?_))
  refine ok_loop (ι := InsI L a b) (fun q => b - q.i) (fun q => ([(0, .slice A n c), (1, .int .i64 a), (2, .int .i64 b), (3, cmpV), (8, .int .i64 q.i)], rwE A n c q.C :: H, _)) ⟨L, a + 1, by omega, SegE.refl _ _ _, srt_one _ (by omega)⟩ (fun ac w he hw => ⟨⟨L, a + 1, by omega, SegE.refl _ _ _, srt_one _ (by omega)⟩, he.sub ⟨rfl, rfl, rfl, rfl, by simp only [look]; congr 2, trivial⟩, hw⟩) ?_
  rintro ⟨C, i, hi, seg, srt⟩
  simp only at hi ⊢
  have hcn : C.length = n := by rw [seg.len]; exact hn
  repeat' (first
    | refine ok_seq ?_
    | refine ok_then ?_
    | refine ok_then_exit ?_
    | refine ok_block ?_
    | refine ok_in_exit ?_
    | (refine ok_cond rfl (fun hc => ?_) (fun hc => ?_) <;> (have hd := hc; (try simp only [decide_eq_true_eq, decide_eq_false_iff_not, Bool.or_eq_true, Bool.or_eq_false_iff, Bool.and_eq_true, Bool.and_eq_false_iff, Bool.not_eq_true', Bool.not_eq_false', bne_iff_ne, beq_iff_eq, bne_eq_false_iff_eq, beq_eq_false_iff_ne, ne_eq, Bool.not_true, Bool.not_false, Bool.false_eq_true, Bool.true_eq_false, inB_true, inB_false] at hd)))
    | refine ok_exit ?_
    | refine ok_skip ?_
    | (refine ok_region (i := 1) ?_; refine ok_p rfl rfl rfl (by exact ps_move rfl rfl) ?_; refine ok_p rfl rfl rfl (by exact ps_move rfl rfl) ?_; refine ok_p rfl rfl rfl (by exact ps_int rfl rfl rfl rfl) ?_; refine ok_nil ?_; refine ok_env [(0, _), (1, _), (2, _), (3, _), (8, _), (14, _)] ⟨rfl, rfl, rfl, rfl, rfl, rfl, trivial⟩ ?_)
    | (refine ok_region (i := 3) ?_; refine ok_p rfl rfl rfl (by exact ps_move rfl rfl) ?_; refine ok_p rfl rfl rfl (by exact ps_assign rfl rfl) ?_; refine ok_nil ?_; refine ok_env [(0, _), (1, _), (2, _), (3, _), (8, _), (9, _)] ⟨rfl, rfl, rfl, rfl, rfl, rfl, trivial⟩ ?_))
  · refine ok_loop (ι := DwI C a i) (fun q => q.j) (fun q => ([(0, .slice A n c), (1, .int .i64 a), (2, .int .i64 b), (3, cmpV), (8, .int .i64 i), (9, .int .i64 q.j)], rwE A n c q.D :: H, _)) ⟨C, i, dwn_start srt (by omega)⟩ (fun ac w he hw => ⟨⟨C, i, dwn_start srt (by omega)⟩, he.sub ⟨rfl, rfl, rfl, rfl, rfl, rfl, trivial⟩, hw⟩) ?_
    rintro ⟨D, j, ok⟩
    simp only
    have hj := ok.hj
    have hdn : D.length = n := by rw [ok.seg.len]; exact hcn
    have OK := Lib.hid ok; clear ok
    have SEG := Lib.hid seg; clear seg
    have SRT := Lib.hid srt; clear srt
    repeat' (first
      | refine ok_seq ?_
      | refine ok_then ?_
      | refine ok_then_exit ?_
      | refine ok_block ?_
      | refine ok_in_normal ?_
      | refine ok_in_exit ?_
      | (refine ok_cond rfl (fun hc => ?_) (fun hc => ?_) <;> (have hd := hc; (try simp only [decide_eq_true_eq, decide_eq_false_iff_not, Bool.or_eq_true, Bool.or_eq_false_iff, Bool.and_eq_true, Bool.and_eq_false_iff, Bool.not_eq_true', Bool.not_eq_false', bne_iff_ne, beq_iff_eq, bne_eq_false_iff_eq, beq_eq_false_iff_ne, ne_eq, Bool.not_true, Bool.not_false, Bool.false_eq_true, Bool.true_eq_false, inB_true, inB_false] at hd)))
      | refine ok_exit ?_
      | refine ok_skip ?_
      | (refine ok_region (i := 2) ?_; refine ok_p rfl rfl rfl (by exact ps_move rfl rfl) ?_; refine ok_p rfl rfl rfl (by exact ps_add rfl rfl rfl (by omega)) ?_; refine ok_p rfl rfl rfl (by exact ps_assign rfl rfl) ?_; refine ok_nil ?_; refine ok_env [(0, _), (1, _), (2, _), (3, _), (8, _)] ⟨rfl, rfl, rfl, rfl, rfl, trivial⟩ ?_)
      | (refine ok_draw (id := 4) 17 rfl (by kernel_rfl) (by kernel_rfl) rfl (by repeat (first | exact pq_body | refine pq_then ?_ | refine pq_in ?_)) [0] (by decide) rfl ?_; refine okT_take (i := 0) rfl (by kernel_rfl) rfl rfl rfl (by exact ps_move rfl rfl) ?_; refine okT_take (i := 1) rfl (by kernel_rfl) rfl rfl rfl (by exact ps_move rfl rfl) ?_; refine okT_take (i := 2) rfl (by kernel_rfl) rfl rfl rfl (by exact ps_int rfl rfl rfl rfl) ?_; refine okT_take (i := 3) rfl (by kernel_rfl) rfl rfl rfl (by exact ps_move rfl rfl) ?_; refine okT_take_g1 (i := 4) rfl (by kernel_rfl) rfl rfl rfl rfl rfl (gT _) (fun hp => by (have hpd := hp; (try simp only [decide_eq_true_eq, decide_eq_false_iff_not, Bool.or_eq_true, Bool.or_eq_false_iff, Bool.and_eq_true, Bool.and_eq_false_iff, Bool.not_eq_true', Bool.not_eq_false', bne_iff_ne, beq_iff_eq, bne_eq_false_iff_eq, beq_eq_false_iff_ne, ne_eq, Bool.not_true, Bool.not_false, Bool.false_eq_true, Bool.true_eq_false, inB_true, inB_false] at hpd); exact ps_move rfl (by exact rfl))) ?_; refine okT_take_g1 (i := 5) rfl (by kernel_rfl) rfl rfl rfl rfl rfl (gT _) (fun hp => by (have hpd := hp; (try simp only [decide_eq_true_eq, decide_eq_false_iff_not, Bool.or_eq_true, Bool.or_eq_false_iff, Bool.and_eq_true, Bool.and_eq_false_iff, Bool.not_eq_true', Bool.not_eq_false', bne_iff_ne, beq_iff_eq, bne_eq_false_iff_eq, beq_eq_false_iff_ne, ne_eq, Bool.not_true, Bool.not_false, Bool.false_eq_true, Bool.true_eq_false, inB_true, inB_false] at hpd); exact ps_move rfl (by exact rfl))) ?_; refine okT_take_g1 (i := 6) rfl (by kernel_rfl) rfl rfl rfl rfl rfl (gT _) (fun hp => by (have hpd := hp; (try simp only [decide_eq_true_eq, decide_eq_false_iff_not, Bool.or_eq_true, Bool.or_eq_false_iff, Bool.and_eq_true, Bool.and_eq_false_iff, Bool.not_eq_true', Bool.not_eq_false', bne_iff_ne, beq_iff_eq, bne_eq_false_iff_eq, beq_eq_false_iff_ne, ne_eq, Bool.not_true, Bool.not_false, Bool.false_eq_true, Bool.true_eq_false, inB_true, inB_false] at hpd); exact ps_move rfl (by exact rfl))) ?_; refine okT_take_g1 (i := 7) rfl (by kernel_rfl) rfl rfl rfl rfl rfl (gT _) (fun hp => by (have hpd := hp; (try simp only [decide_eq_true_eq, decide_eq_false_iff_not, Bool.or_eq_true, Bool.or_eq_false_iff, Bool.and_eq_true, Bool.and_eq_false_iff, Bool.not_eq_true', Bool.not_eq_false', bne_iff_ne, beq_iff_eq, bne_eq_false_iff_eq, beq_eq_false_iff_ne, ne_eq, Bool.not_true, Bool.not_false, Bool.false_eq_true, Bool.true_eq_false, inB_true, inB_false] at hpd); exact ps_indexN rfl (by (refine og rfl ?_; assumption)) (by (refine og rfl ?_; assumption)) (by omega) (by exact isw_row 0 rfl (by omega)))) ?_; refine okT_take_g1 (i := 8) rfl (by kernel_rfl) rfl rfl rfl rfl rfl (gT _) (fun hp => by (have hpd := hp; (try simp only [decide_eq_true_eq, decide_eq_false_iff_not, Bool.or_eq_true, Bool.or_eq_false_iff, Bool.and_eq_true, Bool.and_eq_false_iff, Bool.not_eq_true', Bool.not_eq_false', bne_iff_ne, beq_iff_eq, bne_eq_false_iff_eq, beq_eq_false_iff_ne, ne_eq, Bool.not_true, Bool.not_false, Bool.false_eq_true, Bool.true_eq_false, inB_true, inB_false] at hpd); exact ps_loadsF rfl (by (refine og rfl ?_; assumption)) (by exact rds_row 0 rfl) (by rfl) (by rfl) (by omega) rfl)) ?_; refine okT_take_g1 (i := 9) rfl (by kernel_rfl) rfl rfl rfl rfl rfl (gT _) (fun hp => by (have hpd := hp; (try simp only [decide_eq_true_eq, decide_eq_false_iff_not, Bool.or_eq_true, Bool.or_eq_false_iff, Bool.and_eq_true, Bool.and_eq_false_iff, Bool.not_eq_true', Bool.not_eq_false', bne_iff_ne, beq_iff_eq, bne_eq_false_iff_eq, beq_eq_false_iff_ne, ne_eq, Bool.not_true, Bool.not_false, Bool.false_eq_true, Bool.true_eq_false, inB_true, inB_false] at hpd); exact ps_move rfl (by exact rfl))) ?_; refine okT_take_g1 (i := 10) rfl (by kernel_rfl) rfl rfl rfl rfl rfl (gT _) (fun hp => by (have hpd := hp; (try simp only [decide_eq_true_eq, decide_eq_false_iff_not, Bool.or_eq_true, Bool.or_eq_false_iff, Bool.and_eq_true, Bool.and_eq_false_iff, Bool.not_eq_true', Bool.not_eq_false', bne_iff_ne, beq_iff_eq, bne_eq_false_iff_eq, beq_eq_false_iff_ne, ne_eq, Bool.not_true, Bool.not_false, Bool.false_eq_true, Bool.true_eq_false, inB_true, inB_false] at hpd); exact ps_move rfl (by exact rfl))) ?_; refine okT_take_g1 (i := 11) rfl (by kernel_rfl) rfl rfl rfl rfl rfl (gT _) (fun hp => by (have hpd := hp; (try simp only [decide_eq_true_eq, decide_eq_false_iff_not, Bool.or_eq_true, Bool.or_eq_false_iff, Bool.and_eq_true, Bool.and_eq_false_iff, Bool.not_eq_true', Bool.not_eq_false', bne_iff_ne, beq_iff_eq, bne_eq_false_iff_eq, beq_eq_false_iff_ne, ne_eq, Bool.not_true, Bool.not_false, Bool.false_eq_true, Bool.true_eq_false, inB_true, inB_false] at hpd); exact ps_cast (v' := .int .i64 ((j - 1 : Nat) : Int)) (ps_sub rfl (by (refine og rfl ?_; assumption)) rfl (by omega)) (by congr 1; omega))) ?_; refine okT_take_g1 (i := 12) rfl (by kernel_rfl) rfl rfl rfl rfl rfl (gT _) (fun hp => by (have hpd := hp; (try simp only [decide_eq_true_eq, decide_eq_false_iff_not, Bool.or_eq_true, Bool.or_eq_false_iff, Bool.and_eq_true, Bool.and_eq_false_iff, Bool.not_eq_true', Bool.not_eq_false', bne_iff_ne, beq_iff_eq, bne_eq_false_iff_eq, beq_eq_false_iff_ne, ne_eq, Bool.not_true, Bool.not_false, Bool.false_eq_true, Bool.true_eq_false, inB_true, inB_false] at hpd); exact ps_indexN rfl (by (refine og rfl ?_; assumption)) (by (refine og rfl ?_; assumption)) (by omega) (by exact isw_row 0 rfl (by omega)))) ?_; refine okT_take_g1 (i := 13) rfl (by kernel_rfl) rfl rfl rfl rfl rfl (gT _) (fun hp => by (have hpd := hp; (try simp only [decide_eq_true_eq, decide_eq_false_iff_not, Bool.or_eq_true, Bool.or_eq_false_iff, Bool.and_eq_true, Bool.and_eq_false_iff, Bool.not_eq_true', Bool.not_eq_false', bne_iff_ne, beq_iff_eq, bne_eq_false_iff_eq, beq_eq_false_iff_ne, ne_eq, Bool.not_true, Bool.not_false, Bool.false_eq_true, Bool.true_eq_false, inB_true, inB_false] at hpd); exact ps_loadsF rfl (by (refine og rfl ?_; assumption)) (by exact rds_row 0 rfl) (by rfl) (by rfl) (by omega) rfl)) ?_; refine okT_one_g1 (i := 14) rfl rfl (by kernel_rfl) rfl rfl rfl rfl rfl (gT _) (fun hp => by (have hpd := hp; (try simp only [decide_eq_true_eq, decide_eq_false_iff_not, Bool.or_eq_true, Bool.or_eq_false_iff, Bool.and_eq_true, Bool.and_eq_false_iff, Bool.not_eq_true', Bool.not_eq_false', bne_iff_ne, beq_iff_eq, bne_eq_false_iff_eq, beq_eq_false_iff_ne, ne_eq, Bool.not_true, Bool.not_false, Bool.false_eq_true, Bool.true_eq_false, inB_true, inB_false] at hpd); exact ms_v2 rfl (by (refine og rfl ?_; assumption)) (by (refine og rfl ?_; assumption)) (by (refine og rfl ?_; assumption)) (fun _ _ w hw => compareEnts_c (nth D j) (nth D (j - 1)) w))) (fun w h => by exact h.sel [0] (by decide) rfl (fun _ h => h)) ?_; refine okT_take_g1 (i := 15) rfl (by kernel_rfl) rfl rfl rfl rfl rfl (gT _) (fun hp => by (have hpd := hp; (try simp only [decide_eq_true_eq, decide_eq_false_iff_not, Bool.or_eq_true, Bool.or_eq_false_iff, Bool.and_eq_true, Bool.and_eq_false_iff, Bool.not_eq_true', Bool.not_eq_false', bne_iff_ne, beq_iff_eq, bne_eq_false_iff_eq, beq_eq_false_iff_ne, ne_eq, Bool.not_true, Bool.not_false, Bool.false_eq_true, Bool.true_eq_false, inB_true, inB_false] at hpd); exact ps_int rfl (by (refine og rfl ?_; assumption)) (by exact rfl) rfl)) ?_; refine okT_take (i := 16) rfl (by kernel_rfl) rfl rfl rfl (by exact ps_and rfl rfl rfl) ?_; refine okT_done (by kernel_rfl) ?_; refine ok_nil ?_; refine ok_env [(0, _), (1, _), (2, _), (3, _), (8, _), (9, _), (34, _)] ⟨rfl, rfl, rfl, rfl, rfl, rfl, rfl, trivial⟩ ?_)
      | (refine ok_region (i := 5) ?_; refine ok_p rfl rfl rfl (by exact ps_move rfl rfl) ?_; refine ok_p rfl rfl rfl (by exact ps_cast (v' := .int .i64 ((j - 1 : Nat) : Int)) (ps_sub rfl rfl rfl (by omega)) (by congr 1; omega)) ?_; refine ok_p rfl rfl rfl (by exact ps_assign rfl rfl) ?_; refine ok_nil ?_; refine ok_env [(0, _), (1, _), (2, _), (3, _), (8, _), (9, _)] ⟨rfl, rfl, rfl, rfl, rfl, rfl, trivial⟩ ?_)
      | (apply mrg0; (focus (intro hk; refine ok_draw (id := 6) 16 rfl (by kernel_rfl) (by kernel_rfl) rfl (by repeat (first | exact pq_body | refine pq_then ?_ | refine pq_in ?_)) [] (by decide) rfl ?_; refine okT_take (i := 0) rfl (by kernel_rfl) rfl rfl rfl (by exact ps_move rfl rfl) ?_; refine okT_take (i := 1) rfl (by kernel_rfl) rfl rfl rfl (by exact ps_move rfl rfl) ?_; refine okT_take (i := 2) rfl (by kernel_rfl) rfl rfl rfl (by exact ps_move rfl rfl) ?_; refine okT_take (i := 3) rfl (by kernel_rfl) rfl rfl rfl (by exact ps_move rfl rfl) ?_; refine okT_take (i := 4) rfl (by kernel_rfl) rfl rfl rfl (by exact ps_cast (v' := .int .i64 ((j - 1 : Nat) : Int)) (ps_sub rfl rfl rfl (by omega)) (by congr 1; omega)) ?_; refine okT_take (i := 5) rfl (by kernel_rfl) rfl rfl rfl (by exact ps_move rfl rfl) ?_; refine okT_take (i := 6) rfl (by kernel_rfl) rfl rfl rfl (by exact ps_move rfl rfl) ?_; refine okT_take (i := 7) rfl (by kernel_rfl) rfl rfl rfl (by exact ps_cast (v' := .int .i64 ((j - 1 : Nat) : Int)) (ps_sub rfl rfl rfl (by omega)) (by congr 1; omega)) ?_; refine okT_take (i := 8) rfl (by kernel_rfl) rfl rfl rfl (by exact ps_indexN rfl rfl rfl (by omega) (isw_of (hA (by omega)))) ?_; refine okT_take (i := 10) rfl (by kernel_rfl) rfl rfl rfl (by exact ps_move rfl rfl) ?_; refine okT_take (i := 11) rfl (by kernel_rfl) rfl rfl rfl (by exact ps_move rfl rfl) ?_; refine okT_take (i := 12) rfl (by kernel_rfl) rfl rfl rfl (by exact ps_indexN rfl rfl rfl (by omega) (isw_of (hA (by omega)))) ?_; refine okT_many (by kernel_rfl) (all_cons (at_m (i := 9) rfl rfl rfl rfl rfl (by exact ms_ps (by exact ps_loadsF (α := Ent) (l := D) (i := j - 1) rfl rfl (rds_row 0 rfl) rfl rfl (by omega) rfl)) (fun y w _ h => by exact h.sel [] (by decide) rfl (fun _ h => h)) ?_) (all_cons (at_m (i := 13) rfl rfl rfl rfl rfl (by exact ms_ps (by exact ps_loadsF (α := Ent) (l := D) (i := j) rfl rfl (rds_row 0 rfl) rfl rfl (by omega) rfl)) (fun y w _ h => by exact h.sel [] (by decide) rfl (fun _ h => h)) ?_) all_nil)); (focus (rintro y46 hy46; refine okT_one (i := 13) rfl rfl (by kernel_rfl) rfl rfl rfl (by exact ms_ps (by exact ps_loadsF (α := Ent) (l := D) (i := j) rfl rfl (rds_row 0 rfl) rfl rfl (by omega) rfl)) (fun y w _ h => by exact h.sel [] (by decide) rfl (fun _ h => h)) ?_; rintro y50 hy50; refine okT_take (i := 14) rfl (by kernel_rfl) rfl rfl rfl (by exact ps_indexN rfl rfl rfl (by omega) (isw_of (hA (by omega)))) ?_; refine okT_one0 (i := 15) rfl rfl (by kernel_rfl) rfl rfl (by exact ms_setw (α := Ent) 0 j (nth D (j - 1)) rfl rfl rfl rfl rfl rfl rfl rfl rfl (by omega)) (fun y w _ h => by exact h.sel [] (by decide) rfl (fun _ h => h)) ?_; rintro y_ hy_; refine okT_done (by kernel_rfl) ?_; refine ok_p rfl rfl rfl (by exact ps_indexN rfl rfl rfl (by omega) (isw_of (hA (by omega)))) ?_; refine ok_m_ rfl rfl (by exact ms_setw (α := Ent) 0 (j - 1) (nth D j) rfl rfl rfl rfl rfl rfl rfl rfl rfl (by rw [List.length_set]; omega)) ?_; rintro y_ hy_; refine ok_nil ?_; refine ok_env [(0, _), (1, _), (2, _), (3, _), (8, _), (9, _)] ⟨rfl, rfl, rfl, rfl, rfl, rfl, trivial⟩ ?_; exact hk)); (focus (rintro y50 hy50; refine okT_one (i := 9) rfl rfl (by kernel_rfl) rfl rfl rfl (by exact ms_ps (by exact ps_loadsF (α := Ent) (l := D) (i := j - 1) rfl rfl (rds_row 0 rfl) rfl rfl (by omega) rfl)) (fun y w _ h => by exact h.sel [] (by decide) rfl (fun _ h => h)) ?_; rintro y46 hy46; refine okT_take (i := 14) rfl (by kernel_rfl) rfl rfl rfl (by exact ps_indexN rfl rfl rfl (by omega) (isw_of (hA (by omega)))) ?_; refine okT_one0 (i := 15) rfl rfl (by kernel_rfl) rfl rfl (by exact ms_setw (α := Ent) 0 j (nth D (j - 1)) rfl rfl rfl rfl rfl rfl rfl rfl rfl (by omega)) (fun y w _ h => by exact h.sel [] (by decide) rfl (fun _ h => h)) ?_; rintro y_ hy_; refine okT_done (by kernel_rfl) ?_; refine ok_p rfl rfl rfl (by exact ps_indexN rfl rfl rfl (by omega) (isw_of (hA (by omega)))) ?_; refine ok_m_ rfl rfl (by exact ms_setw (α := Ent) 0 (j - 1) (nth D j) rfl rfl rfl rfl rfl rfl rfl rfl rfl (by rw [List.length_set]; omega)) ?_; rintro y_ hy_; refine ok_nil ?_; refine ok_env [(0, _), (1, _), (2, _), (3, _), (8, _), (9, _)] ⟨rfl, rfl, rfl, rfl, rfl, rfl, trivial⟩ ?_; exact hk))))))
    all_goals rw [cmpE_lt] at hc
    · simp only [Bool.and_eq_true, decide_eq_true_eq] at hc
      exact fun ac w' he hw => ⟨⟨swapL D j (j - 1), j - 1, dwn_step (by omega) OK.out (by omega) hc.2⟩, by simp only; omega, he.sub ⟨rfl, rfl, rfl, rfl, rfl, rfl, trivial⟩, hw⟩
    · have he1 : j = a ∨ aheadE (nth D j) (nth D (j - 1)) = false := by
        rw [Bool.and_eq_false_iff, decide_eq_false_iff_not] at hc
        rcases hc with h | h
        · left; omega
        · exact .inr h
      exact fun ac w' he hw => ⟨⟨D, i + 1, by omega, SEG.out.trans (OK.out.seg.wide (Nat.le_refl _) (by omega)), dwn_end OK.out he1⟩, by simp only; omega, he.sub ⟨rfl, rfl, rfl, rfl, rfl, trivial⟩, hw⟩
  · refine ok_endN (K := .normal) (ok_endL (vs := []) rfl trivial (fun w' hw => ⟨yM C w, rfl, ?_, ?_⟩))
    · rw [rM_yM]; exact ⟨seg, srt_sub srt (Nat.le_refl _) (by omega)⟩
    · rw [rM_yM]; exact hw
end Go.Proofs.Ytbegbdfbfbkflaa
/- The stable merge of two parts in order and the stable sort, walked. -/
namespace Go.Proofs.Ytbegbdfbfbkflaa
open Go.RowKit
set_option maxHeartbeats 8000000
set_option maxRecDepth 20000
set_option linter.unusedVariables false
set_option linter.unusedSimpArgs false
attribute [local irreducible] Calls
theorem rot_triv {L : List Ent} {a m b : Nat} (h : a = m ∨ m = b) (h2 : a ≤ m ∧ m ≤ b) (hb : b ≤ L.length) : rotL L a m b = L := nth_ext (rotL_len _ _ _ _) fun k hk => by
  rw [rotL_len] at hk
  rw [rotL_nth hk]
  repeat' split
  all_goals first
    | rfl
    | omega
    | (congr 1; omega)
theorem rot_up {L : List Ent} {a k : Nat} (h : k + 1 < L.length) (ha : a ≤ k) : swapL (rotL L a (a + 1) (k + 1)) k (k + 1) = rotL L a (a + 1) (k + 2) := nth_ext (by rw [swap_len, rotL_len, rotL_len]) fun q hq => by
  rw [swap_len, rotL_len] at hq
  rw [swap_nth (by rw [rotL_len]; omega) (by rw [rotL_len]; omega), rotL_nth (by omega), rotL_nth (by omega), rotL_nth hq, rotL_nth hq]
  repeat' split
  all_goals first
    | rfl
    | omega
    | (congr 1; omega)
theorem rot_dn {L : List Ent} {k m : Nat} (h : m < L.length) (h0 : 0 < k) (hk : k ≤ m) : swapL (rotL L k m (m + 1)) k (k - 1) = rotL L (k - 1) m (m + 1) := nth_ext (by rw [swap_len, rotL_len, rotL_len]) fun q hq => by
  rw [swap_len, rotL_len] at hq
  rw [swap_nth (by rw [rotL_len]; omega) (by rw [rotL_len]; omega), rotL_nth (by omega), rotL_nth (by omega), rotL_nth hq, rotL_nth hq]
  repeat' split
  all_goals first
    | rfl
    | omega
    | (congr 1; omega)
/-- The searches. -/
structure BsL (L : List Ent) (a m b : Nat) where
  i : Nat
  j : Nat
  h : m ≤ i ∧ i ≤ j ∧ j ≤ b
  lo : ∀ k, m ≤ k → k < i → aheadE (nth L k) (nth L a) = true
  hi : ∀ k, j ≤ k → k < b → leE (nth L a) (nth L k) = true
structure BsR (L : List Ent) (a m : Nat) where
  i : Nat
  j : Nat
  h : a ≤ i ∧ i ≤ j ∧ j ≤ m
  lo : ∀ k, a ≤ k → k < i → leE (nth L k) (nth L m) = true
  hi : ∀ k, j ≤ k → k < m → aheadE (nth L m) (nth L k) = true
structure BsM (L : List Ent) (s0 r0 p : Nat) where
  s : Nat
  r : Nat
  h : s0 ≤ s ∧ s ≤ r ∧ r ≤ r0
  lo : s0 < s → leE (nth L (s - 1)) (nth L (p - (s - 1))) = true
  hi : r < r0 → aheadE (nth L (p - r)) (nth L r) = true
theorem nle_of {a b : Ent} (h : aheadE a b = false) : leE b a = true := by unfold leE; rw [h]; rfl
/-- The search in the middle ends where the turn is to be. -/
theorem sym_found {L : List Ent} {a m b s0 r0 s : Nat} (ham : a < m) (hmb : m < b) (h0 : (m > (a + b) / 2 ∧ s0 = (a + b) / 2 + m - b ∧ r0 = (a + b) / 2) ∨ (¬ m > (a + b) / 2 ∧ s0 = a ∧ r0 = m)) (hs : s0 ≤ s ∧ s ≤ r0)
    (lo : s0 < s → leE (nth L (s - 1)) (nth L ((a + b) / 2 + m - 1 - (s - 1))) = true) (hi : s < r0 → aheadE (nth L ((a + b) / 2 + m - 1 - s)) (nth L s) = true) : SymS L a m b s ((a + b) / 2 + m - s) := by
  refine ⟨by omega, by omega, fun h1 h2 => ?_, fun h1 h2 => ?_⟩
  · have := lo (by omega)
    rw [show (a + b) / 2 + m - 1 - (s - 1) = (a + b) / 2 + m - s by omega] at this
    exact this
  · have := hi (by omega)
    rw [show (a + b) / 2 + m - 1 - s = (a + b) / 2 + m - s - 1 by omega] at this
    exact this
theorem sym_fin {L L1 M N : List Ent} {a s d e b : Nat} (F : SegE L L1 a b ∧ srtIn L1 a s ∧ srtIn L1 s d ∧ srtIn L1 d e ∧ srtIn L1 e b ∧ ∀ i j, a ≤ i → i < d → d ≤ j → j < b → leE (nth L1 i) (nth L1 j) = true) (h1 : (SegE L1 M a d ∧ srtIn M a d) ∨ (M = L1 ∧ (a = s ∨ s = d) ∧ a ≤ d)) (h2 : (SegE M N d b ∧ srtIn N d b) ∨ (N = M ∧ (d = e ∨ e = b) ∧ d ≤ b)) (had : a ≤ d ∧ d ≤ b := by omega) : SegE L N a b ∧ srtIn N a b := by
  obtain ⟨f0, f1, f2, f3, f4, f5⟩ := F
  have g1 : SegE L1 M a d ∧ srtIn M a d := by
    rcases h1 with h | ⟨rfl, h | h, _⟩
    · exact h
    · subst h; exact ⟨SegE.refl _ _ _, f2⟩
    · subst h; exact ⟨SegE.refl _ _ _, f1⟩
  have g2 : SegE M N d b ∧ srtIn N d b := by
    rcases h2 with h | ⟨rfl, h | h, _⟩
    · exact h
    · subst h; exact ⟨SegE.refl _ _ _, srt_out g1.1 f4 (.inr (Nat.le_refl _))⟩
    · subst h; exact ⟨SegE.refl _ _ _, srt_out g1.1 f3 (.inr (Nat.le_refl _))⟩
  obtain ⟨q1, q2⟩ := sym_end g1.1 g2.1 g1.2 g2.2 f5 had
  exact ⟨f0.trans q1, q2⟩
theorem symM_c (A : Option Addr) (n c : Nat) (hl : n ≤ 4194304) : ∀ (d a m b : Nat) (L : List Ent) (hd : b - a ≤ d) (hn : L.length = n) (ham : a < m) (hmb : m < b) (hbn : b ≤ n) (s1 : srtIn L a m) (s2 : srtIn L m b) {base : Nat} {w0 w : World} {H : List HObj} {G : List World} (hw : WOk base w0 (rwE A n c L :: H) G w),
    Calls Try.prog 257 #[.slice A n c, .int .i64 a, .int .i64 m, .int .i64 b, cmpV] w fun e w' => ∃ y : Ys, e = .returned (.tuple #[]) ∧ (SegE L (rM y) a b ∧ srtIn (rM y) a b) ∧ WOk base w0 (rwE A n c (rM y) :: H) G w'
  | 0, a, m, b, L, hd, hn, ham, hmb, hbn, s1, s2, base, w0, w, H, G, hw => by omega
  | d + 1, a, m, b, L, hd, hn, ham, hmb, hbn, s1, s2, base, w0, w, H, G, hw => by
    have ih := Lib.hid (symM_c A n c hl d)
    have hA : 0 < n → IsS A := fun h => isS_own (hw.own _ List.mem_cons_self) h
    have S1 := Lib.hid s1; clear s1
    have S2 := Lib.hid s2; clear s2
    refine ok_enterW 220 Try.func257 rfl rfl rfl hw ?_
    repeat' (first
      | refine ok_seq ?_
      | refine ok_then ?_
      | refine ok_block ?_
      | (refine ok_cond rfl (fun hc => ?_) (fun hc => ?_) <;> (have hd := hc; (try simp only [decide_eq_true_eq, decide_eq_false_iff_not, Bool.or_eq_true, Bool.or_eq_false_iff, Bool.and_eq_true, Bool.and_eq_false_iff, Bool.not_eq_true', Bool.not_eq_false', bne_iff_ne, beq_iff_eq, bne_eq_false_iff_eq, beq_eq_false_iff_ne, ne_eq, Bool.not_true, Bool.not_false, Bool.false_eq_true, Bool.true_eq_false, inB_true, inB_false] at hd)))
      | refine ok_skip ?_
      | (refine ok_region (i := 0) ?_; refine ok_p rfl rfl rfl (by exact ps_move rfl rfl) ?_; refine ok_p rfl rfl rfl (by exact ps_move rfl rfl) ?_; refine ok_p rfl rfl rfl (by exact ps_sub rfl rfl rfl (by omega)) ?_; refine ok_p rfl rfl rfl (by exact ps_int rfl rfl rfl rfl) ?_; refine ok_nil ?_; refine ok_env [(0, _), (1, _), (2, _), (3, _), (4, _), (28, _)] ⟨rfl, rfl, rfl, rfl, rfl, rfl, trivial⟩ ?_)
      | (refine ok_region (i := 1) ?_; refine ok_p rfl rfl rfl (by exact ps_move rfl rfl) ?_; refine ok_p rfl rfl rfl (by exact ps_assign rfl rfl) ?_; refine ok_nil ?_; refine ok_env [(0, _), (1, _), (3, _), (4, _), (10, _)] ⟨rfl, rfl, rfl, rfl, rfl, trivial⟩ ?_)
      | (refine ok_region (i := 2) ?_; refine ok_p rfl rfl rfl (by exact ps_move rfl rfl) ?_; refine ok_p rfl rfl rfl (by exact ps_assign rfl rfl) ?_; refine ok_nil ?_; refine ok_env [(0, _), (1, _), (4, _), (10, _), (11, _)] ⟨rfl, rfl, rfl, rfl, rfl, trivial⟩ ?_)
      | (refine ok_region (i := 12) ?_; refine ok_p rfl rfl rfl (by exact ps_move rfl rfl) ?_; refine ok_p rfl rfl rfl (by exact ps_move rfl rfl) ?_; refine ok_p rfl rfl rfl (by exact ps_sub rfl rfl rfl (by omega)) ?_; refine ok_p rfl rfl rfl (by exact ps_int rfl rfl rfl rfl) ?_; refine ok_nil ?_; refine ok_env [(0, _), (1, _), (2, _), (3, _), (4, _), (80, _)] ⟨rfl, rfl, rfl, rfl, rfl, rfl, trivial⟩ ?_)
      | (refine ok_region (i := 13) ?_; refine ok_p rfl rfl rfl (by exact ps_move rfl rfl) ?_; refine ok_p rfl rfl rfl (by exact ps_assign rfl rfl) ?_; refine ok_nil ?_; refine ok_env [(0, _), (2, _), (4, _), (14, _)] ⟨rfl, rfl, rfl, rfl, trivial⟩ ?_)
      | (refine ok_region (i := 14) ?_; refine ok_p rfl rfl rfl (by exact ps_move rfl rfl) ?_; refine ok_p rfl rfl rfl (by exact ps_assign rfl rfl) ?_; refine ok_nil ?_; refine ok_env [(0, _), (2, _), (4, _), (14, _), (15, _)] ⟨rfl, rfl, rfl, rfl, rfl, trivial⟩ ?_)
      | (refine ok_region (i := 24) ?_; refine ok_p rfl rfl rfl (by exact ps_move rfl rfl) ?_; refine ok_p rfl rfl rfl (by exact ps_move rfl rfl) ?_; refine ok_p rfl rfl rfl (by exact ps_add rfl rfl rfl (by omega)) ?_; refine ok_p rfl rfl rfl (by exact ps_conv_id rfl rfl (IntWalk.u64_in _ (by omega))) ?_; refine ok_p rfl rfl rfl (by exact ps_half rfl rfl) ?_; refine ok_p rfl rfl rfl (by exact ps_conv_id rfl rfl (IntWalk.i64_in _ (by omega))) ?_; refine ok_p rfl rfl rfl (by exact ps_assign rfl rfl) ?_; refine ok_nil ?_; refine ok_env [(0, _), (1, _), (2, _), (3, _), (4, _), (18, _)] ⟨rfl, rfl, rfl, rfl, rfl, rfl, trivial⟩ ?_)
      | (refine ok_region (i := 25) ?_; refine ok_p rfl rfl rfl (by exact ps_move rfl rfl) ?_; refine ok_p rfl rfl rfl (by exact ps_move rfl rfl) ?_; refine ok_p rfl rfl rfl (by exact ps_cast (v' := .int .i64 (((a + b) / 2 + m : Nat) : Int)) (ps_add rfl rfl rfl (by omega)) (by push_cast; rfl)) ?_; refine ok_p rfl rfl rfl (by exact ps_assign rfl rfl) ?_; refine ok_nil ?_; refine ok_env [(0, _), (1, _), (2, _), (3, _), (4, _), (18, _), (19, _)] ⟨rfl, rfl, rfl, rfl, rfl, rfl, rfl, trivial⟩ ?_)
      | (refine ok_region (i := 26) ?_; refine ok_p rfl rfl rfl (by exact ps_assign rfl rfl) ?_; refine ok_p rfl rfl rfl (by exact ps_assign rfl rfl) ?_; refine ok_nil ?_; refine ok_env [(0, _), (1, _), (2, _), (3, _), (4, _), (18, _), (19, _)] ⟨rfl, rfl, rfl, rfl, rfl, rfl, rfl, trivial⟩ ?_)
      | (refine ok_region (i := 27) ?_; refine ok_p rfl rfl rfl (by exact ps_move rfl rfl) ?_; refine ok_p rfl rfl rfl (by exact ps_move rfl rfl) ?_; refine ok_p rfl rfl rfl (by exact ps_int rfl rfl rfl rfl) ?_; refine ok_nil ?_; refine ok_env [(0, _), (1, _), (2, _), (3, _), (4, _), (18, _), (19, _), (140, _)] ⟨rfl, rfl, rfl, rfl, rfl, rfl, rfl, rfl, trivial⟩ ?_)
      | (refine ok_region (i := 28) ?_; refine ok_p rfl rfl rfl (by exact ps_move rfl rfl) ?_; refine ok_p rfl rfl rfl (by exact ps_move rfl rfl) ?_; refine ok_p rfl rfl rfl (by exact ps_cast (v' := .int .i64 (((a + b) / 2 + m - b : Nat) : Int)) (ps_sub rfl rfl rfl (by omega)) (by congr 1; omega)) ?_; refine ok_p rfl rfl rfl (by exact ps_assign rfl rfl) ?_; refine ok_nil ?_; refine ok_env [(0, _), (1, _), (2, _), (3, _), (4, _), (18, _), (19, _), (20, _)] ⟨rfl, rfl, rfl, rfl, rfl, rfl, rfl, rfl, trivial⟩ ?_)
      | (refine ok_region (i := 29) ?_; refine ok_p rfl rfl rfl (by exact ps_move rfl rfl) ?_; refine ok_p rfl rfl rfl (by exact ps_assign rfl rfl) ?_; refine ok_nil ?_; refine ok_env [(0, _), (1, _), (2, _), (3, _), (4, _), (18, _), (19, _), (20, _), (21, _)] ⟨rfl, rfl, rfl, rfl, rfl, rfl, rfl, rfl, rfl, trivial⟩ ?_)
      | (refine ok_region (i := 30) ?_; refine ok_p rfl rfl rfl (by exact ps_move rfl rfl) ?_; refine ok_p rfl rfl rfl (by exact ps_assign rfl rfl) ?_; refine ok_nil ?_; refine ok_env [(0, _), (1, _), (2, _), (3, _), (4, _), (18, _), (19, _), (20, _)] ⟨rfl, rfl, rfl, rfl, rfl, rfl, rfl, rfl, trivial⟩ ?_)
      | (refine ok_region (i := 31) ?_; refine ok_p rfl rfl rfl (by exact ps_move rfl rfl) ?_; refine ok_p rfl rfl rfl (by exact ps_assign rfl rfl) ?_; refine ok_nil ?_; refine ok_env [(0, _), (1, _), (2, _), (3, _), (4, _), (18, _), (19, _), (20, _), (21, _)] ⟨rfl, rfl, rfl, rfl, rfl, rfl, rfl, rfl, rfl, trivial⟩ ?_)
      | (refine ok_region (i := 32) ?_; refine ok_p rfl rfl rfl (by exact ps_move rfl rfl) ?_; refine ok_p rfl rfl rfl (by exact ps_cast (v' := .int .i64 (((a + b) / 2 + m - 1 : Nat) : Int)) (ps_sub rfl rfl rfl (by omega)) (by congr 1; omega)) ?_; refine ok_p rfl rfl rfl (by exact ps_assign rfl rfl) ?_; refine ok_nil ?_; refine ok_env [(0, _), (1, _), (2, _), (3, _), (4, _), (18, _), (19, _), (20, _), (21, _), (22, _)] ⟨rfl, rfl, rfl, rfl, rfl, rfl, rfl, rfl, rfl, rfl, trivial⟩ ?_))
    · obtain rfl : m = a + 1 := by omega
      clear hc hd
      refine ok_loop (ι := BsL L a (a + 1) b) (fun q => q.j - q.i) (fun q => ([(0, .slice A n c), (1, .int .i64 a), (4, cmpV), (10, .int .i64 q.i), (11, .int .i64 q.j)], rwE A n c L :: H, _)) ⟨a + 1, b, by omega, fun k k1 k2 => by omega, fun k k1 k2 => by omega⟩ (fun ac w he hw => ⟨⟨a + 1, b, by omega, fun k k1 k2 => by omega, fun k k1 k2 => by omega⟩, he.sub ⟨rfl, rfl, rfl, rfl, rfl, trivial⟩, hw⟩) ?_
      rintro ⟨i, j, hij, lo, hi⟩
      simp only at hij ⊢
      have LO := Lib.hid lo; clear lo
      have HI := Lib.hid hi; clear hi
      repeat' (first
        | refine ok_seq ?_
        | refine ok_then ?_
        | refine ok_block ?_
        | refine ok_in_normal ?_
        | (refine ok_cond rfl (fun hc => ?_) (fun hc => ?_) <;> (have hd := hc; (try simp only [decide_eq_true_eq, decide_eq_false_iff_not, Bool.or_eq_true, Bool.or_eq_false_iff, Bool.and_eq_true, Bool.and_eq_false_iff, Bool.not_eq_true', Bool.not_eq_false', bne_iff_ne, beq_iff_eq, bne_eq_false_iff_eq, beq_eq_false_iff_ne, ne_eq, Bool.not_true, Bool.not_false, Bool.false_eq_true, Bool.true_eq_false, inB_true, inB_false] at hd)))
        | refine ok_exit ?_
        | refine ok_skip ?_
        | (refine ok_region (i := 3) ?_; refine ok_p rfl rfl rfl (by exact ps_move rfl rfl) ?_; refine ok_p rfl rfl rfl (by exact ps_move rfl rfl) ?_; refine ok_p rfl rfl rfl (by exact ps_int rfl rfl rfl rfl) ?_; refine ok_nil ?_; refine ok_env [(0, _), (1, _), (4, _), (10, _), (11, _), (33, _)] ⟨rfl, rfl, rfl, rfl, rfl, rfl, trivial⟩ ?_)
        | (refine ok_region (i := 4) ?_; refine ok_p rfl rfl rfl (by exact ps_move rfl rfl) ?_; refine ok_p rfl rfl rfl (by exact ps_move rfl rfl) ?_; refine ok_p rfl rfl rfl (by exact ps_add rfl rfl rfl (by omega)) ?_; refine ok_p rfl rfl rfl (by exact ps_conv_id rfl rfl (IntWalk.u64_in _ (by omega))) ?_; refine ok_p rfl rfl rfl (by exact ps_half rfl rfl) ?_; refine ok_p rfl rfl rfl (by exact ps_conv_id rfl rfl (IntWalk.i64_in _ (by omega))) ?_; refine ok_p rfl rfl rfl (by exact ps_assign rfl rfl) ?_; refine ok_nil ?_; refine ok_env [(0, _), (1, _), (4, _), (10, _), (11, _), (12, _)] ⟨rfl, rfl, rfl, rfl, rfl, rfl, trivial⟩ ?_)
        | (refine ok_draw (id := 5) 11 rfl (by kernel_rfl) (by kernel_rfl) rfl (by repeat (first | exact pq_body | refine pq_then ?_ | refine pq_in ?_)) [0] (by decide) rfl ?_; refine okT_take (i := 0) rfl (by kernel_rfl) rfl rfl rfl (by exact ps_move rfl rfl) ?_; refine okT_take (i := 1) rfl (by kernel_rfl) rfl rfl rfl (by exact ps_move rfl rfl) ?_; refine okT_take (i := 2) rfl (by kernel_rfl) rfl rfl rfl (by exact ps_move rfl rfl) ?_; refine okT_take (i := 3) rfl (by kernel_rfl) rfl rfl rfl (by exact ps_indexN rfl rfl rfl (by omega) (by exact isw_row 0 rfl (by omega))) ?_; refine okT_take (i := 4) rfl (by kernel_rfl) rfl rfl rfl (by exact ps_loadsF rfl rfl (by exact rds_row 0 rfl) (by rfl) (by rfl) (by omega) rfl) ?_; refine okT_take (i := 5) rfl (by kernel_rfl) rfl rfl rfl (by exact ps_move rfl rfl) ?_; refine okT_take (i := 6) rfl (by kernel_rfl) rfl rfl rfl (by exact ps_move rfl rfl) ?_; refine okT_take (i := 7) rfl (by kernel_rfl) rfl rfl rfl (by exact ps_indexN rfl rfl rfl (by omega) (by exact isw_row 0 rfl (by omega))) ?_; refine okT_take (i := 8) rfl (by kernel_rfl) rfl rfl rfl (by exact ps_loadsF rfl rfl (by exact rds_row 0 rfl) (by rfl) (by rfl) (by omega) rfl) ?_; refine okT_one (i := 9) rfl rfl (by kernel_rfl) rfl rfl rfl (by exact ms_v2 rfl rfl rfl rfl (fun _ _ w hw => compareEnts_c (nth L ((i + j) / 2)) (nth L a) w)) (fun y w _ h => by exact h.sel [0] (by decide) rfl (fun _ h => h)) ?_; rintro y49 hy49; refine okT_take (i := 10) rfl (by kernel_rfl) rfl rfl rfl (by exact ps_int rfl rfl rfl rfl) ?_; refine okT_done (by kernel_rfl) ?_; refine ok_nil ?_; refine ok_env [(0, _), (1, _), (4, _), (10, _), (11, _), (12, _), (50, _)] ⟨rfl, rfl, rfl, rfl, rfl, rfl, rfl, trivial⟩ ?_)
        | (refine ok_region (i := 6) ?_; refine ok_p rfl rfl rfl (by exact ps_move rfl rfl) ?_; refine ok_p rfl rfl rfl (by exact ps_add rfl rfl rfl (by omega)) ?_; refine ok_p rfl rfl rfl (by exact ps_assign rfl rfl) ?_; refine ok_nil ?_; refine ok_env [(0, _), (1, _), (4, _), (10, _), (11, _)] ⟨rfl, rfl, rfl, rfl, rfl, trivial⟩ ?_)
        | (refine ok_region (i := 7) ?_; refine ok_p rfl rfl rfl (by exact ps_move rfl rfl) ?_; refine ok_p rfl rfl rfl (by exact ps_assign rfl rfl) ?_; refine ok_nil ?_; refine ok_env [(0, _), (1, _), (4, _), (10, _), (11, _)] ⟨rfl, rfl, rfl, rfl, rfl, trivial⟩ ?_)
        | (refine ok_region (i := 8) ?_; refine ok_p rfl rfl rfl (by exact ps_move rfl rfl) ?_; refine ok_p rfl rfl rfl (by exact ps_assign rfl rfl) ?_; refine ok_nil ?_; refine ok_env [(0, _), (10, _), (13, _)] ⟨rfl, rfl, rfl, trivial⟩ ?_))
      · rw [cmpE_lt] at hc
        refine fun ac w' he hw => ⟨⟨(i + j) / 2 + 1, j, by omega, fun k k1 k2 => ?_, fun k k1 k2 => HI.out k k1 k2⟩, by simp only; omega, he.sub ⟨rfl, rfl, rfl, rfl, rfl, trivial⟩, hw⟩
        exact le_lt (srt_at S2.out k1 (by omega) (by omega)) hc
      · rw [cmpE_lt] at hc
        refine fun ac w' he hw => ⟨⟨i, (i + j) / 2, by omega, fun k k1 k2 => LO.out k k1 k2, fun k k1 k2 => ?_⟩, by simp only; omega, he.sub ⟨rfl, rfl, rfl, rfl, rfl, trivial⟩, hw⟩
        exact leE_trans (nle_of hc) (srt_at S2.out (by omega) k1 k2)
      have hij2 : i = j := by omega
      subst hij2
      clear hc hd
      refine ok_loop (ι := { k : Nat // a ≤ k ∧ k + 1 ≤ i }) (fun k => i - k.1) (fun k => ([(0, .slice A n c), (10, .int .i64 i), (13, .int .i64 k.1)], rwE A n c (rotL L a (a + 1) (k.1 + 1)) :: H, _)) ⟨a, by omega⟩ (fun ac w he hw => ⟨⟨a, by omega⟩, he.sub ⟨rfl, rfl, rfl, trivial⟩, by simp only; rw [rot_triv (.inr rfl) (by omega) (by omega)]; exact hw⟩) ?_
      rintro ⟨k, hk1, hk2⟩
      simp only at hk1 hk2 ⊢
      have hup := rot_up (L := L) (a := a) (k := k)
      have HU := Lib.hid hup; clear hup
      have hcl : (rotL L a (a + 1) (k + 1)).length = n := by rw [rotL_len]; exact hn
      generalize hC : rotL L a (a + 1) (k + 1) = C at hcl HU ⊢
      repeat' (first
        | refine ok_seq ?_
        | refine ok_then ?_
        | refine ok_then_ret ?_
        | refine ok_then_exit ?_
        | refine ok_block ?_
        | refine ok_in_normal ?_
        | refine ok_in_exit ?_
        | (refine ok_cond rfl (fun hc => ?_) (fun hc => ?_) <;> (have hd := hc; (try simp only [decide_eq_true_eq, decide_eq_false_iff_not, Bool.or_eq_true, Bool.or_eq_false_iff, Bool.and_eq_true, Bool.and_eq_false_iff, Bool.not_eq_true', Bool.not_eq_false', bne_iff_ne, beq_iff_eq, bne_eq_false_iff_eq, beq_eq_false_iff_ne, ne_eq, Bool.not_true, Bool.not_false, Bool.false_eq_true, Bool.true_eq_false, inB_true, inB_false] at hd)))
        | refine ok_ret ?_
        | refine ok_exit ?_
        | refine ok_skip ?_
        | (refine ok_region (i := 9) ?_; refine ok_p rfl rfl rfl (by exact ps_move rfl rfl) ?_; refine ok_p rfl rfl rfl (by exact ps_move rfl rfl) ?_; refine ok_p rfl rfl rfl (by exact ps_sub rfl rfl rfl (by omega)) ?_; refine ok_p rfl rfl rfl (by exact ps_int rfl rfl rfl rfl) ?_; refine ok_nil ?_; refine ok_env [(0, _), (10, _), (13, _), (58, _)] ⟨rfl, rfl, rfl, rfl, trivial⟩ ?_)
        | (refine ok_region (i := 10) ?_; refine ok_p rfl rfl rfl (by exact ps_move rfl rfl) ?_; refine ok_p rfl rfl rfl (by exact ps_add rfl rfl rfl (by omega)) ?_; refine ok_p rfl rfl rfl (by exact ps_assign rfl rfl) ?_; refine ok_nil ?_; refine ok_env [(0, _), (10, _), (13, _)] ⟨rfl, rfl, rfl, trivial⟩ ?_)
        | (apply mrg0; (focus (intro hk; refine ok_draw (id := 11) 16 rfl (by kernel_rfl) (by kernel_rfl) rfl (by repeat (first | exact pq_body | refine pq_then ?_ | refine pq_in ?_)) [] (by decide) rfl ?_; refine okT_take (i := 0) rfl (by kernel_rfl) rfl rfl rfl (by exact ps_move rfl rfl) ?_; refine okT_take (i := 1) rfl (by kernel_rfl) rfl rfl rfl (by exact ps_move rfl rfl) ?_; refine okT_take (i := 2) rfl (by kernel_rfl) rfl rfl rfl (by exact ps_move rfl rfl) ?_; refine okT_take (i := 3) rfl (by kernel_rfl) rfl rfl rfl (by exact ps_move rfl rfl) ?_; refine okT_take (i := 4) rfl (by kernel_rfl) rfl rfl rfl (by exact ps_cast (v' := .int .i64 ((k + 1 : Nat) : Int)) (ps_add rfl rfl rfl (by omega)) (by push_cast; rfl)) ?_; refine okT_take (i := 5) rfl (by kernel_rfl) rfl rfl rfl (by exact ps_move rfl rfl) ?_; refine okT_take (i := 6) rfl (by kernel_rfl) rfl rfl rfl (by exact ps_move rfl rfl) ?_; refine okT_take (i := 7) rfl (by kernel_rfl) rfl rfl rfl (by exact ps_cast (v' := .int .i64 ((k + 1 : Nat) : Int)) (ps_add rfl rfl rfl (by omega)) (by push_cast; rfl)) ?_; refine okT_take (i := 8) rfl (by kernel_rfl) rfl rfl rfl (by exact ps_indexN rfl rfl rfl (by omega) (isw_of (hA (by omega)))) ?_; refine okT_take (i := 10) rfl (by kernel_rfl) rfl rfl rfl (by exact ps_move rfl rfl) ?_; refine okT_take (i := 11) rfl (by kernel_rfl) rfl rfl rfl (by exact ps_move rfl rfl) ?_; refine okT_take (i := 12) rfl (by kernel_rfl) rfl rfl rfl (by exact ps_indexN rfl rfl rfl (by omega) (isw_of (hA (by omega)))) ?_; refine okT_many (by kernel_rfl) (all_cons (at_m (i := 9) rfl rfl rfl rfl rfl (by exact ms_ps (by exact ps_loadsF (α := Ent) (l := C) (i := k + 1) rfl rfl (rds_row 0 rfl) rfl rfl (by omega) rfl)) (fun y w _ h => by exact h.sel [] (by decide) rfl (fun _ h => h)) ?_) (all_cons (at_m (i := 13) rfl rfl rfl rfl rfl (by exact ms_ps (by exact ps_loadsF (α := Ent) (l := C) (i := k) rfl rfl (rds_row 0 rfl) rfl rfl (by omega) rfl)) (fun y w _ h => by exact h.sel [] (by decide) rfl (fun _ h => h)) ?_) all_nil)); (focus (rintro y70 hy70; refine okT_one (i := 13) rfl rfl (by kernel_rfl) rfl rfl rfl (by exact ms_ps (by exact ps_loadsF (α := Ent) (l := C) (i := k) rfl rfl (rds_row 0 rfl) rfl rfl (by omega) rfl)) (fun y w _ h => by exact h.sel [] (by decide) rfl (fun _ h => h)) ?_; rintro y74 hy74; refine okT_take (i := 14) rfl (by kernel_rfl) rfl rfl rfl (by exact ps_indexN rfl rfl rfl (by omega) (isw_of (hA (by omega)))) ?_; refine okT_one0 (i := 15) rfl rfl (by kernel_rfl) rfl rfl (by exact ms_setw (α := Ent) 0 k (nth C (k + 1)) rfl rfl rfl rfl rfl rfl rfl rfl rfl (by omega)) (fun y w _ h => by exact h.sel [] (by decide) rfl (fun _ h => h)) ?_; rintro y_ hy_; refine okT_done (by kernel_rfl) ?_; refine ok_p rfl rfl rfl (by exact ps_indexN rfl rfl rfl (by omega) (isw_of (hA (by omega)))) ?_; refine ok_m_ rfl rfl (by exact ms_setw (α := Ent) 0 (k + 1) (nth C k) rfl rfl rfl rfl rfl rfl rfl rfl rfl (by rw [List.length_set]; omega)) ?_; rintro y_ hy_; refine ok_nil ?_; refine ok_env [(0, _), (10, _), (13, _)] ⟨rfl, rfl, rfl, trivial⟩ ?_; exact hk)); (focus (rintro y74 hy74; refine okT_one (i := 9) rfl rfl (by kernel_rfl) rfl rfl rfl (by exact ms_ps (by exact ps_loadsF (α := Ent) (l := C) (i := k + 1) rfl rfl (rds_row 0 rfl) rfl rfl (by omega) rfl)) (fun y w _ h => by exact h.sel [] (by decide) rfl (fun _ h => h)) ?_; rintro y70 hy70; refine okT_take (i := 14) rfl (by kernel_rfl) rfl rfl rfl (by exact ps_indexN rfl rfl rfl (by omega) (isw_of (hA (by omega)))) ?_; refine okT_one0 (i := 15) rfl rfl (by kernel_rfl) rfl rfl (by exact ms_setw (α := Ent) 0 k (nth C (k + 1)) rfl rfl rfl rfl rfl rfl rfl rfl rfl (by omega)) (fun y w _ h => by exact h.sel [] (by decide) rfl (fun _ h => h)) ?_; rintro y_ hy_; refine okT_done (by kernel_rfl) ?_; refine ok_p rfl rfl rfl (by exact ps_indexN rfl rfl rfl (by omega) (isw_of (hA (by omega)))) ?_; refine ok_m_ rfl rfl (by exact ms_setw (α := Ent) 0 (k + 1) (nth C k) rfl rfl rfl rfl rfl rfl rfl rfl rfl (by rw [List.length_set]; omega)) ?_; rintro y_ hy_; refine ok_nil ?_; refine ok_env [(0, _), (10, _), (13, _)] ⟨rfl, rfl, rfl, trivial⟩ ?_; exact hk))))))
      · refine fun ac w' he hw => ⟨⟨k + 1, by omega⟩, by simp only; omega, he.sub ⟨rfl, rfl, rfl, trivial⟩, ?_⟩
        simp only
        rw [← HU.out (by omega) (by omega)]
        exact hw
      · obtain rfl : k + 1 = i := by omega
        obtain ⟨g1, g2⟩ := ins_left (L := L) (a := a) (i := k + 1) (b := b) (by omega) (by omega) S2.out (fun q q1 q2 => LO.out q q1 q2) (fun q q1 q2 => HI.out q q1 q2)
        rw [hC] at g1 g2
        refine ok_endL (vs := []) rfl trivial (fun w' hw => ⟨yM C w, rfl, ?_, ?_⟩)
        · rw [rM_yM]; exact ⟨g1, g2⟩
        · rw [rM_yM]; exact hw
    · obtain rfl : b = m + 1 := by omega
      clear hc hd
      refine ok_loop (ι := BsR L a m) (fun q => q.j - q.i) (fun q => ([(0, .slice A n c), (2, .int .i64 m), (4, cmpV), (14, .int .i64 q.i), (15, .int .i64 q.j)], rwE A n c L :: H, _)) ⟨a, m, by omega, fun k k1 k2 => by omega, fun k k1 k2 => by omega⟩ (fun ac w he hw => ⟨⟨a, m, by omega, fun k k1 k2 => by omega, fun k k1 k2 => by omega⟩, he.sub ⟨rfl, rfl, rfl, rfl, rfl, trivial⟩, hw⟩) ?_
      rintro ⟨i, j, hij, lo, hi⟩
      simp only at hij ⊢
      have LO := Lib.hid lo; clear lo
      have HI := Lib.hid hi; clear hi
      repeat' (first
        | refine ok_seq ?_
        | refine ok_then ?_
        | refine ok_block ?_
        | refine ok_in_normal ?_
        | (refine ok_cond rfl (fun hc => ?_) (fun hc => ?_) <;> (have hd := hc; (try simp only [decide_eq_true_eq, decide_eq_false_iff_not, Bool.or_eq_true, Bool.or_eq_false_iff, Bool.and_eq_true, Bool.and_eq_false_iff, Bool.not_eq_true', Bool.not_eq_false', bne_iff_ne, beq_iff_eq, bne_eq_false_iff_eq, beq_eq_false_iff_ne, ne_eq, Bool.not_true, Bool.not_false, Bool.false_eq_true, Bool.true_eq_false, inB_true, inB_false] at hd)))
        | refine ok_exit ?_
        | refine ok_skip ?_
        | (refine ok_region (i := 15) ?_; refine ok_p rfl rfl rfl (by exact ps_move rfl rfl) ?_; refine ok_p rfl rfl rfl (by exact ps_move rfl rfl) ?_; refine ok_p rfl rfl rfl (by exact ps_int rfl rfl rfl rfl) ?_; refine ok_nil ?_; refine ok_env [(0, _), (2, _), (4, _), (14, _), (15, _), (85, _)] ⟨rfl, rfl, rfl, rfl, rfl, rfl, trivial⟩ ?_)
        | (refine ok_region (i := 16) ?_; refine ok_p rfl rfl rfl (by exact ps_move rfl rfl) ?_; refine ok_p rfl rfl rfl (by exact ps_move rfl rfl) ?_; refine ok_p rfl rfl rfl (by exact ps_add rfl rfl rfl (by omega)) ?_; refine ok_p rfl rfl rfl (by exact ps_conv_id rfl rfl (IntWalk.u64_in _ (by omega))) ?_; refine ok_p rfl rfl rfl (by exact ps_half rfl rfl) ?_; refine ok_p rfl rfl rfl (by exact ps_conv_id rfl rfl (IntWalk.i64_in _ (by omega))) ?_; refine ok_p rfl rfl rfl (by exact ps_assign rfl rfl) ?_; refine ok_nil ?_; refine ok_env [(0, _), (2, _), (4, _), (14, _), (15, _), (16, _)] ⟨rfl, rfl, rfl, rfl, rfl, rfl, trivial⟩ ?_)
        | (refine ok_draw (id := 17) 12 rfl (by kernel_rfl) (by kernel_rfl) rfl (by repeat (first | exact pq_body | refine pq_then ?_ | refine pq_in ?_)) [0] (by decide) rfl ?_; refine okT_take (i := 0) rfl (by kernel_rfl) rfl rfl rfl (by exact ps_move rfl rfl) ?_; refine okT_take (i := 1) rfl (by kernel_rfl) rfl rfl rfl (by exact ps_move rfl rfl) ?_; refine okT_take (i := 2) rfl (by kernel_rfl) rfl rfl rfl (by exact ps_move rfl rfl) ?_; refine okT_take (i := 3) rfl (by kernel_rfl) rfl rfl rfl (by exact ps_indexN rfl rfl rfl (by omega) (by exact isw_row 0 rfl (by omega))) ?_; refine okT_take (i := 4) rfl (by kernel_rfl) rfl rfl rfl (by exact ps_loadsF rfl rfl (by exact rds_row 0 rfl) (by rfl) (by rfl) (by omega) rfl) ?_; refine okT_take (i := 5) rfl (by kernel_rfl) rfl rfl rfl (by exact ps_move rfl rfl) ?_; refine okT_take (i := 6) rfl (by kernel_rfl) rfl rfl rfl (by exact ps_move rfl rfl) ?_; refine okT_take (i := 7) rfl (by kernel_rfl) rfl rfl rfl (by exact ps_indexN rfl rfl rfl (by omega) (by exact isw_row 0 rfl (by omega))) ?_; refine okT_take (i := 8) rfl (by kernel_rfl) rfl rfl rfl (by exact ps_loadsF rfl rfl (by exact rds_row 0 rfl) (by rfl) (by rfl) (by omega) rfl) ?_; refine okT_one (i := 9) rfl rfl (by kernel_rfl) rfl rfl rfl (by exact ms_v2 rfl rfl rfl rfl (fun _ _ w hw => compareEnts_c (nth L m) (nth L ((i + j) / 2)) w)) (fun y w _ h => by exact h.sel [0] (by decide) rfl (fun _ h => h)) ?_; rintro y101 hy101; refine okT_take (i := 10) rfl (by kernel_rfl) rfl rfl rfl (by exact ps_int rfl rfl rfl rfl) ?_; refine okT_take (i := 11) rfl (by kernel_rfl) rfl rfl rfl (by exact ps_not rfl rfl) ?_; refine okT_done (by kernel_rfl) ?_; refine ok_nil ?_; refine ok_env [(0, _), (2, _), (4, _), (14, _), (15, _), (16, _), (103, _)] ⟨rfl, rfl, rfl, rfl, rfl, rfl, rfl, trivial⟩ ?_)
        | (refine ok_region (i := 18) ?_; refine ok_p rfl rfl rfl (by exact ps_move rfl rfl) ?_; refine ok_p rfl rfl rfl (by exact ps_add rfl rfl rfl (by omega)) ?_; refine ok_p rfl rfl rfl (by exact ps_assign rfl rfl) ?_; refine ok_nil ?_; refine ok_env [(0, _), (2, _), (4, _), (14, _), (15, _)] ⟨rfl, rfl, rfl, rfl, rfl, trivial⟩ ?_)
        | (refine ok_region (i := 19) ?_; refine ok_p rfl rfl rfl (by exact ps_move rfl rfl) ?_; refine ok_p rfl rfl rfl (by exact ps_assign rfl rfl) ?_; refine ok_nil ?_; refine ok_env [(0, _), (2, _), (4, _), (14, _), (15, _)] ⟨rfl, rfl, rfl, rfl, rfl, trivial⟩ ?_)
        | (refine ok_region (i := 20) ?_; refine ok_p rfl rfl rfl (by exact ps_move rfl rfl) ?_; refine ok_p rfl rfl rfl (by exact ps_assign rfl rfl) ?_; refine ok_nil ?_; refine ok_env [(0, _), (14, _), (17, _)] ⟨rfl, rfl, rfl, trivial⟩ ?_))
      · rw [cmpE_lt] at hc
        have hc' : aheadE (nth L m) (nth L ((i + j) / 2)) = false := by simpa using hc
        refine fun ac w' he hw => ⟨⟨(i + j) / 2 + 1, j, by omega, fun k k1 k2 => ?_, fun k k1 k2 => HI.out k k1 k2⟩, by simp only; omega, he.sub ⟨rfl, rfl, rfl, rfl, rfl, trivial⟩, hw⟩
        exact leE_trans (srt_at S1.out k1 (by omega) (by omega)) (nle_of hc')
      · rw [cmpE_lt] at hc
        have hc' : aheadE (nth L m) (nth L ((i + j) / 2)) = true := by simpa using hc
        refine fun ac w' he hw => ⟨⟨i, (i + j) / 2, by omega, fun k k1 k2 => LO.out k k1 k2, fun k k1 k2 => ?_⟩, by simp only; omega, he.sub ⟨rfl, rfl, rfl, rfl, rfl, trivial⟩, hw⟩
        exact lt_le_lt hc' (srt_at S1.out (by omega) k1 k2)
      have hij2 : i = j := by omega
      subst hij2
      clear hc hd
      refine ok_loop (ι := { k : Nat // i ≤ k ∧ k ≤ m }) (fun k => k.1) (fun k => ([(0, .slice A n c), (14, .int .i64 i), (17, .int .i64 k.1)], rwE A n c (rotL L k.1 m (m + 1)) :: H, _)) ⟨m, by omega⟩ (fun ac w he hw => ⟨⟨m, by omega⟩, he.sub ⟨rfl, rfl, rfl, trivial⟩, by simp only; rw [rot_triv (.inl rfl) (by omega) (by omega)]; exact hw⟩) ?_
      rintro ⟨k, hk1, hk2⟩
      simp only at hk1 hk2 ⊢
      have hup := rot_dn (L := L) (k := k) (m := m)
      have HU := Lib.hid hup; clear hup
      have hcl : (rotL L k m (m + 1)).length = n := by rw [rotL_len]; exact hn
      generalize hC : rotL L k m (m + 1) = C at hcl HU ⊢
      repeat' (first
        | refine ok_seq ?_
        | refine ok_then ?_
        | refine ok_then_ret ?_
        | refine ok_then_exit ?_
        | refine ok_block ?_
        | refine ok_in_normal ?_
        | refine ok_in_exit ?_
        | (refine ok_cond rfl (fun hc => ?_) (fun hc => ?_) <;> (have hd := hc; (try simp only [decide_eq_true_eq, decide_eq_false_iff_not, Bool.or_eq_true, Bool.or_eq_false_iff, Bool.and_eq_true, Bool.and_eq_false_iff, Bool.not_eq_true', Bool.not_eq_false', bne_iff_ne, beq_iff_eq, bne_eq_false_iff_eq, beq_eq_false_iff_ne, ne_eq, Bool.not_true, Bool.not_false, Bool.false_eq_true, Bool.true_eq_false, inB_true, inB_false] at hd)))
        | refine ok_ret ?_
        | refine ok_exit ?_
        | refine ok_skip ?_
        | (refine ok_region (i := 21) ?_; refine ok_p rfl rfl rfl (by exact ps_move rfl rfl) ?_; refine ok_p rfl rfl rfl (by exact ps_move rfl rfl) ?_; refine ok_p rfl rfl rfl (by exact ps_int rfl rfl rfl rfl) ?_; refine ok_nil ?_; refine ok_env [(0, _), (14, _), (17, _), (110, _)] ⟨rfl, rfl, rfl, rfl, trivial⟩ ?_)
        | (refine ok_region (i := 22) ?_; refine ok_p rfl rfl rfl (by exact ps_move rfl rfl) ?_; refine ok_p rfl rfl rfl (by exact ps_cast (v' := .int .i64 ((k - 1 : Nat) : Int)) (ps_sub rfl rfl rfl (by omega)) (by congr 1; omega)) ?_; refine ok_p rfl rfl rfl (by exact ps_assign rfl rfl) ?_; refine ok_nil ?_; refine ok_env [(0, _), (14, _), (17, _)] ⟨rfl, rfl, rfl, trivial⟩ ?_)
        | (apply mrg0; (focus (intro hk; refine ok_draw (id := 23) 16 rfl (by kernel_rfl) (by kernel_rfl) rfl (by repeat (first | exact pq_body | refine pq_then ?_ | refine pq_in ?_)) [] (by decide) rfl ?_; refine okT_take (i := 0) rfl (by kernel_rfl) rfl rfl rfl (by exact ps_move rfl rfl) ?_; refine okT_take (i := 1) rfl (by kernel_rfl) rfl rfl rfl (by exact ps_move rfl rfl) ?_; refine okT_take (i := 2) rfl (by kernel_rfl) rfl rfl rfl (by exact ps_move rfl rfl) ?_; refine okT_take (i := 3) rfl (by kernel_rfl) rfl rfl rfl (by exact ps_move rfl rfl) ?_; refine okT_take (i := 4) rfl (by kernel_rfl) rfl rfl rfl (by exact ps_cast (v' := .int .i64 ((k - 1 : Nat) : Int)) (ps_sub rfl rfl rfl (by omega)) (by congr 1; omega)) ?_; refine okT_take (i := 5) rfl (by kernel_rfl) rfl rfl rfl (by exact ps_move rfl rfl) ?_; refine okT_take (i := 6) rfl (by kernel_rfl) rfl rfl rfl (by exact ps_move rfl rfl) ?_; refine okT_take (i := 7) rfl (by kernel_rfl) rfl rfl rfl (by exact ps_cast (v' := .int .i64 ((k - 1 : Nat) : Int)) (ps_sub rfl rfl rfl (by omega)) (by congr 1; omega)) ?_; refine okT_take (i := 8) rfl (by kernel_rfl) rfl rfl rfl (by exact ps_indexN rfl rfl rfl (by omega) (isw_of (hA (by omega)))) ?_; refine okT_take (i := 10) rfl (by kernel_rfl) rfl rfl rfl (by exact ps_move rfl rfl) ?_; refine okT_take (i := 11) rfl (by kernel_rfl) rfl rfl rfl (by exact ps_move rfl rfl) ?_; refine okT_take (i := 12) rfl (by kernel_rfl) rfl rfl rfl (by exact ps_indexN rfl rfl rfl (by omega) (isw_of (hA (by omega)))) ?_; refine okT_many (by kernel_rfl) (all_cons (at_m (i := 9) rfl rfl rfl rfl rfl (by exact ms_ps (by exact ps_loadsF (α := Ent) (l := C) (i := k - 1) rfl rfl (rds_row 0 rfl) rfl rfl (by omega) rfl)) (fun y w _ h => by exact h.sel [] (by decide) rfl (fun _ h => h)) ?_) (all_cons (at_m (i := 13) rfl rfl rfl rfl rfl (by exact ms_ps (by exact ps_loadsF (α := Ent) (l := C) (i := k) rfl rfl (rds_row 0 rfl) rfl rfl (by omega) rfl)) (fun y w _ h => by exact h.sel [] (by decide) rfl (fun _ h => h)) ?_) all_nil)); (focus (rintro y122 hy122; refine okT_one (i := 13) rfl rfl (by kernel_rfl) rfl rfl rfl (by exact ms_ps (by exact ps_loadsF (α := Ent) (l := C) (i := k) rfl rfl (rds_row 0 rfl) rfl rfl (by omega) rfl)) (fun y w _ h => by exact h.sel [] (by decide) rfl (fun _ h => h)) ?_; rintro y126 hy126; refine okT_take (i := 14) rfl (by kernel_rfl) rfl rfl rfl (by exact ps_indexN rfl rfl rfl (by omega) (isw_of (hA (by omega)))) ?_; refine okT_one0 (i := 15) rfl rfl (by kernel_rfl) rfl rfl (by exact ms_setw (α := Ent) 0 k (nth C (k - 1)) rfl rfl rfl rfl rfl rfl rfl rfl rfl (by omega)) (fun y w _ h => by exact h.sel [] (by decide) rfl (fun _ h => h)) ?_; rintro y_ hy_; refine okT_done (by kernel_rfl) ?_; refine ok_p rfl rfl rfl (by exact ps_indexN rfl rfl rfl (by omega) (isw_of (hA (by omega)))) ?_; refine ok_m_ rfl rfl (by exact ms_setw (α := Ent) 0 (k - 1) (nth C k) rfl rfl rfl rfl rfl rfl rfl rfl rfl (by rw [List.length_set]; omega)) ?_; rintro y_ hy_; refine ok_nil ?_; refine ok_env [(0, _), (14, _), (17, _)] ⟨rfl, rfl, rfl, trivial⟩ ?_; exact hk)); (focus (rintro y126 hy126; refine okT_one (i := 9) rfl rfl (by kernel_rfl) rfl rfl rfl (by exact ms_ps (by exact ps_loadsF (α := Ent) (l := C) (i := k - 1) rfl rfl (rds_row 0 rfl) rfl rfl (by omega) rfl)) (fun y w _ h => by exact h.sel [] (by decide) rfl (fun _ h => h)) ?_; rintro y122 hy122; refine okT_take (i := 14) rfl (by kernel_rfl) rfl rfl rfl (by exact ps_indexN rfl rfl rfl (by omega) (isw_of (hA (by omega)))) ?_; refine okT_one0 (i := 15) rfl rfl (by kernel_rfl) rfl rfl (by exact ms_setw (α := Ent) 0 k (nth C (k - 1)) rfl rfl rfl rfl rfl rfl rfl rfl rfl (by omega)) (fun y w _ h => by exact h.sel [] (by decide) rfl (fun _ h => h)) ?_; rintro y_ hy_; refine okT_done (by kernel_rfl) ?_; refine ok_p rfl rfl rfl (by exact ps_indexN rfl rfl rfl (by omega) (isw_of (hA (by omega)))) ?_; refine ok_m_ rfl rfl (by exact ms_setw (α := Ent) 0 (k - 1) (nth C k) rfl rfl rfl rfl rfl rfl rfl rfl rfl (by rw [List.length_set]; omega)) ?_; rintro y_ hy_; refine ok_nil ?_; refine ok_env [(0, _), (14, _), (17, _)] ⟨rfl, rfl, rfl, trivial⟩ ?_; exact hk))))))
      · refine fun ac w' he hw => ⟨⟨k - 1, by omega⟩, by simp only; omega, he.sub ⟨rfl, rfl, rfl, trivial⟩, ?_⟩
        simp only
        rw [← HU.out (by omega) (by omega) (by omega)]
        exact hw
      · obtain rfl : k = i := by omega
        obtain ⟨g1, g2⟩ := ins_right (L := L) (a := a) (i := k) (m := m) (by omega) (by omega) S1.out (fun q q1 q2 => LO.out q q1 q2) (fun q q1 q2 => HI.out q q1 q2)
        rw [hC] at g1 g2
        refine ok_endL (vs := []) rfl trivial (fun w' hw => ⟨yM C w, rfl, ?_, ?_⟩)
        · rw [rM_yM]; exact ⟨g1, g2⟩
        · rw [rM_yM]; exact hw
    · have hmd : 2 * ((a + b) / 2) ≤ a + b ∧ a + b < 2 * ((a + b) / 2) + 2 := by omega
      have h0 : (m > (a + b) / 2 ∧ ((a + b) / 2 + m - b) = (a + b) / 2 + m - b ∧ ((a + b) / 2) = (a + b) / 2) ∨ (¬ m > (a + b) / 2 ∧ ((a + b) / 2 + m - b) = a ∧ ((a + b) / 2) = m) := by omega
      have hsf := fun s => sym_found (L := L) (a := a) (m := m) (b := b) (s0 := (a + b) / 2 + m - b) (r0 := (a + b) / 2) (s := s) ham hmb h0
      have HF := Lib.hid hsf; clear hsf
      have hst := fun s e q => sym_turn (L := L) (a := a) (m := m) (b := b) (s := s) (e := e) (by omega) ⟨by omega, by omega⟩ S1.out S2.out q
      have HT := Lib.hid hst; clear hst
      generalize hmid : (a + b) / 2 = d2 at hmd h0 HF HT ⊢
      generalize hs0 : d2 + m - b = s0 at h0 HF ⊢
      have hb0 : s0 ≤ d2 ∧ d2 ≤ m ∧ a ≤ s0 ∧ d2 + m - 1 < b + s0 ∧ d2 ≤ d2 + m - 1 := by omega
      clear hc hd
      refine ok_loop (ι := BsM L s0 d2 (d2 + m - 1)) (fun q => q.r - q.s) (fun q => ([(0, .slice A n c), (1, .int .i64 a), (2, .int .i64 m), (3, .int .i64 b), (4, cmpV), (18, .int .i64 d2), (19, .int .i64 ((d2 + m : Nat) : Int)), (20, .int .i64 q.s), (21, .int .i64 q.r), (22, .int .i64 ((d2 + m - 1 : Nat) : Int))], rwE A n c L :: H, _)) ⟨s0, d2, by omega, fun h => by omega, fun h => by omega⟩ (fun ac w he hw => ⟨⟨s0, d2, by omega, fun h => by omega, fun h => by omega⟩, he.sub ⟨rfl, rfl, rfl, rfl, rfl, rfl, rfl, rfl, rfl, rfl, trivial⟩, hw⟩) ?_
      rintro ⟨s, r, hsr, lo, hi⟩
      simp only at hsr ⊢
      have LO := Lib.hid lo; clear lo
      have HI := Lib.hid hi; clear hi
      have hend : s = r → SymS L a m b s (d2 + m - s) := fun e => by
        have h1 := LO.out
        have h2 := HI.out
        subst e
        exact HF.out s (by omega) h1 h2
      have hF : s = r → SegE L (rotL L s m (d2 + m - s)) a b ∧ srtIn (rotL L s m (d2 + m - s)) a s ∧ srtIn (rotL L s m (d2 + m - s)) s d2 ∧ srtIn (rotL L s m (d2 + m - s)) d2 (d2 + m - s) ∧ srtIn (rotL L s m (d2 + m - s)) (d2 + m - s) b ∧ ∀ i j, a ≤ i → i < d2 → d2 ≤ j → j < b → leE (nth (rotL L s m (d2 + m - s)) i) (nth (rotL L s m (d2 + m - s)) j) = true := fun e => HT.out s (d2 + m - s) (hend e)
      have F := Lib.hid hF; clear hF
      have F' : s = r → (s = m ∨ m = d2 + m - s) → SegE L L a b ∧ srtIn L a s ∧ srtIn L s d2 ∧ srtIn L d2 (d2 + m - s) ∧ srtIn L (d2 + m - s) b ∧ ∀ i j, a ≤ i → i < d2 → d2 ≤ j → j < b → leE (nth L i) (nth L j) = true := fun e h => by
        have := F.out e
        rwa [rot_triv h (by omega) (by omega)] at this
      have F' := Lib.hid F'
      clear hend
      repeat' (first
        | refine ok_seq ?_
        | refine ok_then ?_
        | refine ok_block ?_
        | refine ok_in_normal ?_
        | (refine ok_cond rfl (fun hc => ?_) (fun hc => ?_) <;> (have hd := hc; (try simp only [decide_eq_true_eq, decide_eq_false_iff_not, Bool.or_eq_true, Bool.or_eq_false_iff, Bool.and_eq_true, Bool.and_eq_false_iff, Bool.not_eq_true', Bool.not_eq_false', bne_iff_ne, beq_iff_eq, bne_eq_false_iff_eq, beq_eq_false_iff_ne, ne_eq, Bool.not_true, Bool.not_false, Bool.false_eq_true, Bool.true_eq_false, inB_true, inB_false] at hd)))
        | refine ok_exit ?_
        | refine ok_skip ?_
        | (refine ok_region (i := 33) ?_; refine ok_p rfl rfl rfl (by exact ps_move rfl rfl) ?_; refine ok_p rfl rfl rfl (by exact ps_move rfl rfl) ?_; refine ok_p rfl rfl rfl (by exact ps_int rfl rfl rfl rfl) ?_; refine ok_nil ?_; refine ok_env [(0, _), (1, _), (2, _), (3, _), (4, _), (18, _), (19, _), (20, _), (21, _), (22, _), (151, _)] ⟨rfl, rfl, rfl, rfl, rfl, rfl, rfl, rfl, rfl, rfl, rfl, trivial⟩ ?_)
        | (refine ok_region (i := 34) ?_; refine ok_p rfl rfl rfl (by exact ps_move rfl rfl) ?_; refine ok_p rfl rfl rfl (by exact ps_move rfl rfl) ?_; refine ok_p rfl rfl rfl (by exact ps_add rfl rfl rfl (by omega)) ?_; refine ok_p rfl rfl rfl (by exact ps_conv_id rfl rfl (IntWalk.u64_in _ (by omega))) ?_; refine ok_p rfl rfl rfl (by exact ps_half rfl rfl) ?_; refine ok_p rfl rfl rfl (by exact ps_conv_id rfl rfl (IntWalk.i64_in _ (by omega))) ?_; refine ok_p rfl rfl rfl (by exact ps_assign rfl rfl) ?_; refine ok_nil ?_; refine ok_env [(0, _), (1, _), (2, _), (3, _), (4, _), (18, _), (19, _), (20, _), (21, _), (22, _), (23, _)] ⟨rfl, rfl, rfl, rfl, rfl, rfl, rfl, rfl, rfl, rfl, rfl, trivial⟩ ?_)
        | (refine ok_draw (id := 35) 14 rfl (by kernel_rfl) (by kernel_rfl) rfl (by repeat (first | exact pq_body | refine pq_then ?_ | refine pq_in ?_)) [0] (by decide) rfl ?_; refine okT_take (i := 0) rfl (by kernel_rfl) rfl rfl rfl (by exact ps_move rfl rfl) ?_; refine okT_take (i := 1) rfl (by kernel_rfl) rfl rfl rfl (by exact ps_move rfl rfl) ?_; refine okT_take (i := 2) rfl (by kernel_rfl) rfl rfl rfl (by exact ps_move rfl rfl) ?_; refine okT_take (i := 3) rfl (by kernel_rfl) rfl rfl rfl (by exact ps_move rfl rfl) ?_; refine okT_take (i := 4) rfl (by kernel_rfl) rfl rfl rfl (by exact ps_cast (v' := .int .i64 ((d2 + m - 1 - (s + r) / 2 : Nat) : Int)) (ps_sub rfl rfl rfl (by omega)) (by congr 1; omega)) ?_; refine okT_take (i := 5) rfl (by kernel_rfl) rfl rfl rfl (by exact ps_indexN rfl rfl rfl (by omega) (by exact isw_row 0 rfl (by omega))) ?_; refine okT_take (i := 6) rfl (by kernel_rfl) rfl rfl rfl (by exact ps_loadsF rfl rfl (by exact rds_row 0 rfl) (by rfl) (by rfl) (by omega) rfl) ?_; refine okT_take (i := 7) rfl (by kernel_rfl) rfl rfl rfl (by exact ps_move rfl rfl) ?_; refine okT_take (i := 8) rfl (by kernel_rfl) rfl rfl rfl (by exact ps_move rfl rfl) ?_; refine okT_take (i := 9) rfl (by kernel_rfl) rfl rfl rfl (by exact ps_indexN rfl rfl rfl (by omega) (by exact isw_row 0 rfl (by omega))) ?_; refine okT_take (i := 10) rfl (by kernel_rfl) rfl rfl rfl (by exact ps_loadsF rfl rfl (by exact rds_row 0 rfl) (by rfl) (by rfl) (by omega) rfl) ?_; refine okT_one (i := 11) rfl rfl (by kernel_rfl) rfl rfl rfl (by exact ms_v2 rfl rfl rfl rfl (fun _ _ w hw => compareEnts_c (nth L (d2 + m - 1 - (s + r) / 2)) (nth L ((s + r) / 2)) w)) (fun y w _ h => by exact h.sel [0] (by decide) rfl (fun _ h => h)) ?_; rintro y169 hy169; refine okT_take (i := 12) rfl (by kernel_rfl) rfl rfl rfl (by exact ps_int rfl rfl rfl rfl) ?_; refine okT_take (i := 13) rfl (by kernel_rfl) rfl rfl rfl (by exact ps_not rfl rfl) ?_; refine okT_done (by kernel_rfl) ?_; refine ok_nil ?_; refine ok_env [(0, _), (1, _), (2, _), (3, _), (4, _), (18, _), (19, _), (20, _), (21, _), (22, _), (23, _), (171, _)] ⟨rfl, rfl, rfl, rfl, rfl, rfl, rfl, rfl, rfl, rfl, rfl, rfl, trivial⟩ ?_)
        | (refine ok_region (i := 36) ?_; refine ok_p rfl rfl rfl (by exact ps_move rfl rfl) ?_; refine ok_p rfl rfl rfl (by exact ps_add rfl rfl rfl (by omega)) ?_; refine ok_p rfl rfl rfl (by exact ps_assign rfl rfl) ?_; refine ok_nil ?_; refine ok_env [(0, _), (1, _), (2, _), (3, _), (4, _), (18, _), (19, _), (20, _), (21, _), (22, _)] ⟨rfl, rfl, rfl, rfl, rfl, rfl, rfl, rfl, rfl, rfl, trivial⟩ ?_)
        | (refine ok_region (i := 37) ?_; refine ok_p rfl rfl rfl (by exact ps_move rfl rfl) ?_; refine ok_p rfl rfl rfl (by exact ps_assign rfl rfl) ?_; refine ok_nil ?_; refine ok_env [(0, _), (1, _), (2, _), (3, _), (4, _), (18, _), (19, _), (20, _), (21, _), (22, _)] ⟨rfl, rfl, rfl, rfl, rfl, rfl, rfl, rfl, rfl, rfl, trivial⟩ ?_)
        | (refine ok_region (i := 38) ?_; refine ok_p rfl rfl rfl (by exact ps_move rfl rfl) ?_; refine ok_p rfl rfl rfl (by exact ps_move rfl rfl) ?_; refine ok_p rfl rfl rfl (by exact ps_cast (v' := .int .i64 ((d2 + m - s : Nat) : Int)) (ps_sub rfl rfl rfl (by omega)) (by congr 1; omega)) ?_; refine ok_p rfl rfl rfl (by exact ps_assign rfl rfl) ?_; refine ok_nil ?_; refine ok_env [(0, _), (1, _), (2, _), (3, _), (4, _), (18, _), (20, _), (24, _)] ⟨rfl, rfl, rfl, rfl, rfl, rfl, rfl, rfl, trivial⟩ ?_)
        | (refine ok_region (i := 39) ?_; refine ok_p rfl rfl rfl (by exact ps_move rfl rfl) ?_; refine ok_p rfl rfl rfl (by exact ps_move rfl rfl) ?_; refine ok_p rfl rfl rfl (by exact ps_int rfl rfl rfl rfl) ?_; refine ok_p rfl rfl rfl (by exact ps_move rfl rfl) ?_; refine ok_pg rfl rfl rfl rfl rfl (gT _) (fun hp => by (have hpd := hp; (try simp only [decide_eq_true_eq, decide_eq_false_iff_not, Bool.or_eq_true, Bool.or_eq_false_iff, Bool.and_eq_true, Bool.and_eq_false_iff, Bool.not_eq_true', Bool.not_eq_false', bne_iff_ne, beq_iff_eq, bne_eq_false_iff_eq, beq_eq_false_iff_ne, ne_eq, Bool.not_true, Bool.not_false, Bool.false_eq_true, Bool.true_eq_false, inB_true, inB_false] at hpd); exact ps_move rfl (by exact rfl))) ?_; refine ok_pg rfl rfl rfl rfl rfl (gT _) (fun hp => by (have hpd := hp; (try simp only [decide_eq_true_eq, decide_eq_false_iff_not, Bool.or_eq_true, Bool.or_eq_false_iff, Bool.and_eq_true, Bool.and_eq_false_iff, Bool.not_eq_true', Bool.not_eq_false', bne_iff_ne, beq_iff_eq, bne_eq_false_iff_eq, beq_eq_false_iff_ne, ne_eq, Bool.not_true, Bool.not_false, Bool.false_eq_true, Bool.true_eq_false, inB_true, inB_false] at hpd); exact ps_move rfl (by exact rfl))) ?_; refine ok_pg rfl rfl rfl rfl rfl (gT _) (fun hp => by (have hpd := hp; (try simp only [decide_eq_true_eq, decide_eq_false_iff_not, Bool.or_eq_true, Bool.or_eq_false_iff, Bool.and_eq_true, Bool.and_eq_false_iff, Bool.not_eq_true', Bool.not_eq_false', bne_iff_ne, beq_iff_eq, bne_eq_false_iff_eq, beq_eq_false_iff_ne, ne_eq, Bool.not_true, Bool.not_false, Bool.false_eq_true, Bool.true_eq_false, inB_true, inB_false] at hpd); exact ps_int rfl (by (refine og rfl ?_; assumption)) (by (refine og rfl ?_; assumption)) rfl)) ?_; refine ok_p rfl rfl rfl (by exact ps_and rfl rfl rfl) ?_; refine ok_nil ?_; refine ok_env [(0, _), (1, _), (2, _), (3, _), (4, _), (18, _), (20, _), (24, _), (185, _)] ⟨rfl, rfl, rfl, rfl, rfl, rfl, rfl, rfl, rfl, trivial⟩ ?_)
        | (refine ok_region (i := 40) ?_; refine ok_p rfl rfl rfl (by exact ps_move rfl rfl) ?_; refine ok_p rfl rfl rfl (by exact ps_move rfl rfl) ?_; refine ok_p rfl rfl rfl (by exact ps_move rfl rfl) ?_; refine ok_p rfl rfl rfl (by exact ps_move rfl rfl) ?_; refine ok_p rfl rfl rfl (by exact ps_move rfl rfl) ?_; refine ok_m rfl rfl rfl (by exact ms_wr 0 rfl rfl rfl rfl (fun _ _ w hw => rotate_c A n c s m (d2 + m - s) L hn hl (by omega) (by omega) (by omega) hw)) ?_; rintro y191 hy191; refine ok_nil ?_; refine ok_env [(0, _), (1, _), (3, _), (4, _), (18, _), (20, _), (24, _)] ⟨rfl, rfl, rfl, rfl, rfl, rfl, rfl, trivial⟩ ?_)
        | (refine ok_region (i := 41) ?_; refine ok_p rfl rfl rfl (by exact ps_move rfl rfl) ?_; refine ok_p rfl rfl rfl (by exact ps_move rfl rfl) ?_; refine ok_p rfl rfl rfl (by exact ps_int rfl rfl rfl rfl) ?_; refine ok_p rfl rfl rfl (by exact ps_move rfl rfl) ?_; refine ok_pg rfl rfl rfl rfl rfl (gT _) (fun hp => by (have hpd := hp; (try simp only [decide_eq_true_eq, decide_eq_false_iff_not, Bool.or_eq_true, Bool.or_eq_false_iff, Bool.and_eq_true, Bool.and_eq_false_iff, Bool.not_eq_true', Bool.not_eq_false', bne_iff_ne, beq_iff_eq, bne_eq_false_iff_eq, beq_eq_false_iff_ne, ne_eq, Bool.not_true, Bool.not_false, Bool.false_eq_true, Bool.true_eq_false, inB_true, inB_false] at hpd); exact ps_move rfl (by exact rfl))) ?_; refine ok_pg rfl rfl rfl rfl rfl (gT _) (fun hp => by (have hpd := hp; (try simp only [decide_eq_true_eq, decide_eq_false_iff_not, Bool.or_eq_true, Bool.or_eq_false_iff, Bool.and_eq_true, Bool.and_eq_false_iff, Bool.not_eq_true', Bool.not_eq_false', bne_iff_ne, beq_iff_eq, bne_eq_false_iff_eq, beq_eq_false_iff_ne, ne_eq, Bool.not_true, Bool.not_false, Bool.false_eq_true, Bool.true_eq_false, inB_true, inB_false] at hpd); exact ps_move rfl (by exact rfl))) ?_; refine ok_pg rfl rfl rfl rfl rfl (gT _) (fun hp => by (have hpd := hp; (try simp only [decide_eq_true_eq, decide_eq_false_iff_not, Bool.or_eq_true, Bool.or_eq_false_iff, Bool.and_eq_true, Bool.and_eq_false_iff, Bool.not_eq_true', Bool.not_eq_false', bne_iff_ne, beq_iff_eq, bne_eq_false_iff_eq, beq_eq_false_iff_ne, ne_eq, Bool.not_true, Bool.not_false, Bool.false_eq_true, Bool.true_eq_false, inB_true, inB_false] at hpd); exact ps_int rfl (by (refine og rfl ?_; assumption)) (by (refine og rfl ?_; assumption)) rfl)) ?_; refine ok_p rfl rfl rfl (by exact ps_and rfl rfl rfl) ?_; refine ok_nil ?_; refine ok_env [(0, _), (1, _), (3, _), (4, _), (18, _), (20, _), (24, _), (199, _)] ⟨rfl, rfl, rfl, rfl, rfl, rfl, rfl, rfl, trivial⟩ ?_)
        | (refine ok_region (i := 42) ?_; refine ok_p rfl rfl rfl (by exact ps_move rfl rfl) ?_; refine ok_p rfl rfl rfl (by exact ps_move rfl rfl) ?_; refine ok_p rfl rfl rfl (by exact ps_move rfl rfl) ?_; refine ok_p rfl rfl rfl (by exact ps_move rfl rfl) ?_; refine ok_p rfl rfl rfl (by exact ps_move rfl rfl) ?_; refine ok_m rfl rfl rfl (by exact ms_wr 0 rfl rfl rfl rfl (fun _ _ w hw => ih.out a s d2 _ (by omega) (by first | exact hn | (rw [rotL_len]; exact hn)) (by omega) (by omega) (by omega) (by first | exact (F.out (by omega)).2.1 | exact (F'.out (by omega) (by omega)).2.1) (by first | exact (F.out (by omega)).2.2.1 | exact (F'.out (by omega) (by omega)).2.2.1) hw)) ?_; rintro y205 hy205; refine ok_nil ?_; refine ok_env [(0, _), (3, _), (4, _), (18, _), (24, _)] ⟨rfl, rfl, rfl, rfl, rfl, trivial⟩ ?_)
        | (refine ok_region (i := 43) ?_; refine ok_p rfl rfl rfl (by exact ps_move rfl rfl) ?_; refine ok_p rfl rfl rfl (by exact ps_move rfl rfl) ?_; refine ok_p rfl rfl rfl (by exact ps_int rfl rfl rfl rfl) ?_; refine ok_p rfl rfl rfl (by exact ps_move rfl rfl) ?_; refine ok_pg rfl rfl rfl rfl rfl (gT _) (fun hp => by (have hpd := hp; (try simp only [decide_eq_true_eq, decide_eq_false_iff_not, Bool.or_eq_true, Bool.or_eq_false_iff, Bool.and_eq_true, Bool.and_eq_false_iff, Bool.not_eq_true', Bool.not_eq_false', bne_iff_ne, beq_iff_eq, bne_eq_false_iff_eq, beq_eq_false_iff_ne, ne_eq, Bool.not_true, Bool.not_false, Bool.false_eq_true, Bool.true_eq_false, inB_true, inB_false] at hpd); exact ps_move rfl (by exact rfl))) ?_; refine ok_pg rfl rfl rfl rfl rfl (gT _) (fun hp => by (have hpd := hp; (try simp only [decide_eq_true_eq, decide_eq_false_iff_not, Bool.or_eq_true, Bool.or_eq_false_iff, Bool.and_eq_true, Bool.and_eq_false_iff, Bool.not_eq_true', Bool.not_eq_false', bne_iff_ne, beq_iff_eq, bne_eq_false_iff_eq, beq_eq_false_iff_ne, ne_eq, Bool.not_true, Bool.not_false, Bool.false_eq_true, Bool.true_eq_false, inB_true, inB_false] at hpd); exact ps_move rfl (by exact rfl))) ?_; refine ok_pg rfl rfl rfl rfl rfl (gT _) (fun hp => by (have hpd := hp; (try simp only [decide_eq_true_eq, decide_eq_false_iff_not, Bool.or_eq_true, Bool.or_eq_false_iff, Bool.and_eq_true, Bool.and_eq_false_iff, Bool.not_eq_true', Bool.not_eq_false', bne_iff_ne, beq_iff_eq, bne_eq_false_iff_eq, beq_eq_false_iff_ne, ne_eq, Bool.not_true, Bool.not_false, Bool.false_eq_true, Bool.true_eq_false, inB_true, inB_false] at hpd); exact ps_int rfl (by (refine og rfl ?_; assumption)) (by (refine og rfl ?_; assumption)) rfl)) ?_; refine ok_p rfl rfl rfl (by exact ps_and rfl rfl rfl) ?_; refine ok_nil ?_; refine ok_env [(0, _), (3, _), (4, _), (18, _), (24, _), (213, _)] ⟨rfl, rfl, rfl, rfl, rfl, rfl, trivial⟩ ?_)
        | (refine ok_region (i := 44) ?_; refine ok_p rfl rfl rfl (by exact ps_move rfl rfl) ?_; refine ok_p rfl rfl rfl (by exact ps_move rfl rfl) ?_; refine ok_p rfl rfl rfl (by exact ps_move rfl rfl) ?_; refine ok_p rfl rfl rfl (by exact ps_move rfl rfl) ?_; refine ok_p rfl rfl rfl (by exact ps_move rfl rfl) ?_; refine ok_m rfl rfl rfl (by exact ms_wr 0 rfl rfl rfl rfl (fun _ _ w hw => ih.out d2 (d2 + m - s) b _ (by omega) (by first | exact hn | (rw [rotL_len]; exact hn) | (rw [hy205.1.len]; exact hn) | (rw [hy205.1.len, rotL_len]; exact hn)) (by omega) (by omega) (by omega) (by first | exact srt_out hy205.1 (F.out (by omega)).2.2.2.1 (.inr (Nat.le_refl _)) | exact srt_out hy205.1 (F'.out (by omega) (by omega)).2.2.2.1 (.inr (Nat.le_refl _)) | exact (F.out (by omega)).2.2.2.1 | exact (F'.out (by omega) (by omega)).2.2.2.1) (by first | exact srt_out hy205.1 (F.out (by omega)).2.2.2.2.1 (.inr (by omega)) | exact srt_out hy205.1 (F'.out (by omega) (by omega)).2.2.2.2.1 (.inr (by omega)) | exact (F.out (by omega)).2.2.2.2.1 | exact (F'.out (by omega) (by omega)).2.2.2.2.1) hw)) ?_; rintro y219 hy219; refine ok_nil ?_; refine ok_env [] trivial ?_))
      all_goals first
        | (rw [cmpE_lt] at hc
           have hc' : aheadE (nth L (d2 + m - 1 - (s + r) / 2)) (nth L ((s + r) / 2)) = false := by simpa using hc
           exact fun ac w' he hw => ⟨⟨(s + r) / 2 + 1, r, by omega, fun _ => nle_of hc', HI.out⟩, by simp only; omega, he.sub ⟨rfl, rfl, rfl, rfl, rfl, rfl, rfl, rfl, rfl, rfl, trivial⟩, hw⟩)
        | (rw [cmpE_lt] at hc
           have hc' : aheadE (nth L (d2 + m - 1 - (s + r) / 2)) (nth L ((s + r) / 2)) = true := by simpa using hc
           exact fun ac w' he hw => ⟨⟨s, (s + r) / 2, by omega, LO.out, fun _ => hc'⟩, by simp only; omega, he.sub ⟨rfl, rfl, rfl, rfl, rfl, rfl, rfl, rfl, rfl, rfl, trivial⟩, hw⟩)
        | (refine ok_endN (K := .normal) (ok_endL (vs := []) rfl trivial (fun w' hw => ⟨yM (rM y219) w, rfl, ?_, ?_⟩))
           · rw [rM_yM]
             first
               | exact sym_fin (F.out (by omega)) (.inl hy205) (.inl hy219)
               | exact sym_fin (F'.out (by omega) (by omega)) (.inl hy205) (.inl hy219)
               | exact sym_fin (F.out (by omega)) (.inr ⟨rfl, by omega, by omega⟩) (.inl hy219)
               | exact sym_fin (F'.out (by omega) (by omega)) (.inr ⟨rfl, by omega, by omega⟩) (.inl hy219)
           · rw [rM_yM]; exact hw)
        | (refine ok_endN (K := .normal) (ok_endL (vs := []) rfl trivial (fun w' hw => ⟨yM (rM y205) w, rfl, ?_, ?_⟩))
           · rw [rM_yM]
             first
               | exact sym_fin (F.out (by omega)) (.inl hy205) (.inr ⟨rfl, by omega, by omega⟩)
               | exact sym_fin (F'.out (by omega) (by omega)) (.inl hy205) (.inr ⟨rfl, by omega, by omega⟩)
           · rw [rM_yM]; exact hw)
        | (refine ok_endN (K := .normal) (ok_endL (vs := []) rfl trivial (fun w' hw => ⟨yM (rotL L s m (d2 + m - s)) w, rfl, ?_, ?_⟩))
           · rw [rM_yM]; exact sym_fin (F.out (by omega)) (.inr ⟨rfl, by omega, by omega⟩) (.inr ⟨rfl, by omega, by omega⟩)
           · rw [rM_yM]; exact hw)
        | (refine ok_endN (K := .normal) (ok_endL (vs := []) rfl trivial (fun w' hw => ⟨yM L w, rfl, ?_, ?_⟩))
           · rw [rM_yM]; exact sym_fin (F'.out (by omega) (by omega)) (.inr ⟨rfl, by omega, by omega⟩) (.inr ⟨rfl, by omega, by omega⟩)
           · rw [rM_yM]; exact hw)
    · have hmd : 2 * ((a + b) / 2) ≤ a + b ∧ a + b < 2 * ((a + b) / 2) + 2 := by omega
      have h0 : (m > (a + b) / 2 ∧ (a) = (a + b) / 2 + m - b ∧ (m) = (a + b) / 2) ∨ (¬ m > (a + b) / 2 ∧ (a) = a ∧ (m) = m) := by omega
      have hsf := fun s => sym_found (L := L) (a := a) (m := m) (b := b) (s0 := a) (r0 := m) (s := s) ham hmb h0
      have HF := Lib.hid hsf; clear hsf
      have hst := fun s e q => sym_turn (L := L) (a := a) (m := m) (b := b) (s := s) (e := e) (by omega) ⟨by omega, by omega⟩ S1.out S2.out q
      have HT := Lib.hid hst; clear hst
      generalize hmid : (a + b) / 2 = d2 at hmd h0 HF HT ⊢
      have hb0 : a ≤ m ∧ m ≤ m ∧ a ≤ a ∧ d2 + m - 1 < b + a ∧ m ≤ d2 + m - 1 := by omega
      clear hc hd
      refine ok_loop (ι := BsM L a m (d2 + m - 1)) (fun q => q.r - q.s) (fun q => ([(0, .slice A n c), (1, .int .i64 a), (2, .int .i64 m), (3, .int .i64 b), (4, cmpV), (18, .int .i64 d2), (19, .int .i64 ((d2 + m : Nat) : Int)), (20, .int .i64 q.s), (21, .int .i64 q.r), (22, .int .i64 ((d2 + m - 1 : Nat) : Int))], rwE A n c L :: H, _)) ⟨a, m, by omega, fun h => by omega, fun h => by omega⟩ (fun ac w he hw => ⟨⟨a, m, by omega, fun h => by omega, fun h => by omega⟩, he.sub ⟨rfl, rfl, rfl, rfl, rfl, rfl, rfl, rfl, rfl, rfl, trivial⟩, hw⟩) ?_
      rintro ⟨s, r, hsr, lo, hi⟩
      simp only at hsr ⊢
      have LO := Lib.hid lo; clear lo
      have HI := Lib.hid hi; clear hi
      have hend : s = r → SymS L a m b s (d2 + m - s) := fun e => by
        have h1 := LO.out
        have h2 := HI.out
        subst e
        exact HF.out s (by omega) h1 h2
      have hF : s = r → SegE L (rotL L s m (d2 + m - s)) a b ∧ srtIn (rotL L s m (d2 + m - s)) a s ∧ srtIn (rotL L s m (d2 + m - s)) s d2 ∧ srtIn (rotL L s m (d2 + m - s)) d2 (d2 + m - s) ∧ srtIn (rotL L s m (d2 + m - s)) (d2 + m - s) b ∧ ∀ i j, a ≤ i → i < d2 → d2 ≤ j → j < b → leE (nth (rotL L s m (d2 + m - s)) i) (nth (rotL L s m (d2 + m - s)) j) = true := fun e => HT.out s (d2 + m - s) (hend e)
      have F := Lib.hid hF; clear hF
      have F' : s = r → (s = m ∨ m = d2 + m - s) → SegE L L a b ∧ srtIn L a s ∧ srtIn L s d2 ∧ srtIn L d2 (d2 + m - s) ∧ srtIn L (d2 + m - s) b ∧ ∀ i j, a ≤ i → i < d2 → d2 ≤ j → j < b → leE (nth L i) (nth L j) = true := fun e h => by
        have := F.out e
        rwa [rot_triv h (by omega) (by omega)] at this
      have F' := Lib.hid F'
      clear hend
      repeat' (first
        | refine ok_seq ?_
        | refine ok_then ?_
        | refine ok_block ?_
        | refine ok_in_normal ?_
        | (refine ok_cond rfl (fun hc => ?_) (fun hc => ?_) <;> (have hd := hc; (try simp only [decide_eq_true_eq, decide_eq_false_iff_not, Bool.or_eq_true, Bool.or_eq_false_iff, Bool.and_eq_true, Bool.and_eq_false_iff, Bool.not_eq_true', Bool.not_eq_false', bne_iff_ne, beq_iff_eq, bne_eq_false_iff_eq, beq_eq_false_iff_ne, ne_eq, Bool.not_true, Bool.not_false, Bool.false_eq_true, Bool.true_eq_false, inB_true, inB_false] at hd)))
        | refine ok_exit ?_
        | refine ok_skip ?_
        | (refine ok_region (i := 33) ?_; refine ok_p rfl rfl rfl (by exact ps_move rfl rfl) ?_; refine ok_p rfl rfl rfl (by exact ps_move rfl rfl) ?_; refine ok_p rfl rfl rfl (by exact ps_int rfl rfl rfl rfl) ?_; refine ok_nil ?_; refine ok_env [(0, _), (1, _), (2, _), (3, _), (4, _), (18, _), (19, _), (20, _), (21, _), (22, _), (151, _)] ⟨rfl, rfl, rfl, rfl, rfl, rfl, rfl, rfl, rfl, rfl, rfl, trivial⟩ ?_)
        | (refine ok_region (i := 34) ?_; refine ok_p rfl rfl rfl (by exact ps_move rfl rfl) ?_; refine ok_p rfl rfl rfl (by exact ps_move rfl rfl) ?_; refine ok_p rfl rfl rfl (by exact ps_add rfl rfl rfl (by omega)) ?_; refine ok_p rfl rfl rfl (by exact ps_conv_id rfl rfl (IntWalk.u64_in _ (by omega))) ?_; refine ok_p rfl rfl rfl (by exact ps_half rfl rfl) ?_; refine ok_p rfl rfl rfl (by exact ps_conv_id rfl rfl (IntWalk.i64_in _ (by omega))) ?_; refine ok_p rfl rfl rfl (by exact ps_assign rfl rfl) ?_; refine ok_nil ?_; refine ok_env [(0, _), (1, _), (2, _), (3, _), (4, _), (18, _), (19, _), (20, _), (21, _), (22, _), (23, _)] ⟨rfl, rfl, rfl, rfl, rfl, rfl, rfl, rfl, rfl, rfl, rfl, trivial⟩ ?_)
        | (refine ok_draw (id := 35) 14 rfl (by kernel_rfl) (by kernel_rfl) rfl (by repeat (first | exact pq_body | refine pq_then ?_ | refine pq_in ?_)) [0] (by decide) rfl ?_; refine okT_take (i := 0) rfl (by kernel_rfl) rfl rfl rfl (by exact ps_move rfl rfl) ?_; refine okT_take (i := 1) rfl (by kernel_rfl) rfl rfl rfl (by exact ps_move rfl rfl) ?_; refine okT_take (i := 2) rfl (by kernel_rfl) rfl rfl rfl (by exact ps_move rfl rfl) ?_; refine okT_take (i := 3) rfl (by kernel_rfl) rfl rfl rfl (by exact ps_move rfl rfl) ?_; refine okT_take (i := 4) rfl (by kernel_rfl) rfl rfl rfl (by exact ps_cast (v' := .int .i64 ((d2 + m - 1 - (s + r) / 2 : Nat) : Int)) (ps_sub rfl rfl rfl (by omega)) (by congr 1; omega)) ?_; refine okT_take (i := 5) rfl (by kernel_rfl) rfl rfl rfl (by exact ps_indexN rfl rfl rfl (by omega) (by exact isw_row 0 rfl (by omega))) ?_; refine okT_take (i := 6) rfl (by kernel_rfl) rfl rfl rfl (by exact ps_loadsF rfl rfl (by exact rds_row 0 rfl) (by rfl) (by rfl) (by omega) rfl) ?_; refine okT_take (i := 7) rfl (by kernel_rfl) rfl rfl rfl (by exact ps_move rfl rfl) ?_; refine okT_take (i := 8) rfl (by kernel_rfl) rfl rfl rfl (by exact ps_move rfl rfl) ?_; refine okT_take (i := 9) rfl (by kernel_rfl) rfl rfl rfl (by exact ps_indexN rfl rfl rfl (by omega) (by exact isw_row 0 rfl (by omega))) ?_; refine okT_take (i := 10) rfl (by kernel_rfl) rfl rfl rfl (by exact ps_loadsF rfl rfl (by exact rds_row 0 rfl) (by rfl) (by rfl) (by omega) rfl) ?_; refine okT_one (i := 11) rfl rfl (by kernel_rfl) rfl rfl rfl (by exact ms_v2 rfl rfl rfl rfl (fun _ _ w hw => compareEnts_c (nth L (d2 + m - 1 - (s + r) / 2)) (nth L ((s + r) / 2)) w)) (fun y w _ h => by exact h.sel [0] (by decide) rfl (fun _ h => h)) ?_; rintro y169 hy169; refine okT_take (i := 12) rfl (by kernel_rfl) rfl rfl rfl (by exact ps_int rfl rfl rfl rfl) ?_; refine okT_take (i := 13) rfl (by kernel_rfl) rfl rfl rfl (by exact ps_not rfl rfl) ?_; refine okT_done (by kernel_rfl) ?_; refine ok_nil ?_; refine ok_env [(0, _), (1, _), (2, _), (3, _), (4, _), (18, _), (19, _), (20, _), (21, _), (22, _), (23, _), (171, _)] ⟨rfl, rfl, rfl, rfl, rfl, rfl, rfl, rfl, rfl, rfl, rfl, rfl, trivial⟩ ?_)
        | (refine ok_region (i := 36) ?_; refine ok_p rfl rfl rfl (by exact ps_move rfl rfl) ?_; refine ok_p rfl rfl rfl (by exact ps_add rfl rfl rfl (by omega)) ?_; refine ok_p rfl rfl rfl (by exact ps_assign rfl rfl) ?_; refine ok_nil ?_; refine ok_env [(0, _), (1, _), (2, _), (3, _), (4, _), (18, _), (19, _), (20, _), (21, _), (22, _)] ⟨rfl, rfl, rfl, rfl, rfl, rfl, rfl, rfl, rfl, rfl, trivial⟩ ?_)
        | (refine ok_region (i := 37) ?_; refine ok_p rfl rfl rfl (by exact ps_move rfl rfl) ?_; refine ok_p rfl rfl rfl (by exact ps_assign rfl rfl) ?_; refine ok_nil ?_; refine ok_env [(0, _), (1, _), (2, _), (3, _), (4, _), (18, _), (19, _), (20, _), (21, _), (22, _)] ⟨rfl, rfl, rfl, rfl, rfl, rfl, rfl, rfl, rfl, rfl, trivial⟩ ?_)
        | (refine ok_region (i := 38) ?_; refine ok_p rfl rfl rfl (by exact ps_move rfl rfl) ?_; refine ok_p rfl rfl rfl (by exact ps_move rfl rfl) ?_; refine ok_p rfl rfl rfl (by exact ps_cast (v' := .int .i64 ((d2 + m - s : Nat) : Int)) (ps_sub rfl rfl rfl (by omega)) (by congr 1; omega)) ?_; refine ok_p rfl rfl rfl (by exact ps_assign rfl rfl) ?_; refine ok_nil ?_; refine ok_env [(0, _), (1, _), (2, _), (3, _), (4, _), (18, _), (20, _), (24, _)] ⟨rfl, rfl, rfl, rfl, rfl, rfl, rfl, rfl, trivial⟩ ?_)
        | (refine ok_region (i := 39) ?_; refine ok_p rfl rfl rfl (by exact ps_move rfl rfl) ?_; refine ok_p rfl rfl rfl (by exact ps_move rfl rfl) ?_; refine ok_p rfl rfl rfl (by exact ps_int rfl rfl rfl rfl) ?_; refine ok_p rfl rfl rfl (by exact ps_move rfl rfl) ?_; refine ok_pg rfl rfl rfl rfl rfl (gT _) (fun hp => by (have hpd := hp; (try simp only [decide_eq_true_eq, decide_eq_false_iff_not, Bool.or_eq_true, Bool.or_eq_false_iff, Bool.and_eq_true, Bool.and_eq_false_iff, Bool.not_eq_true', Bool.not_eq_false', bne_iff_ne, beq_iff_eq, bne_eq_false_iff_eq, beq_eq_false_iff_ne, ne_eq, Bool.not_true, Bool.not_false, Bool.false_eq_true, Bool.true_eq_false, inB_true, inB_false] at hpd); exact ps_move rfl (by exact rfl))) ?_; refine ok_pg rfl rfl rfl rfl rfl (gT _) (fun hp => by (have hpd := hp; (try simp only [decide_eq_true_eq, decide_eq_false_iff_not, Bool.or_eq_true, Bool.or_eq_false_iff, Bool.and_eq_true, Bool.and_eq_false_iff, Bool.not_eq_true', Bool.not_eq_false', bne_iff_ne, beq_iff_eq, bne_eq_false_iff_eq, beq_eq_false_iff_ne, ne_eq, Bool.not_true, Bool.not_false, Bool.false_eq_true, Bool.true_eq_false, inB_true, inB_false] at hpd); exact ps_move rfl (by exact rfl))) ?_; refine ok_pg rfl rfl rfl rfl rfl (gT _) (fun hp => by (have hpd := hp; (try simp only [decide_eq_true_eq, decide_eq_false_iff_not, Bool.or_eq_true, Bool.or_eq_false_iff, Bool.and_eq_true, Bool.and_eq_false_iff, Bool.not_eq_true', Bool.not_eq_false', bne_iff_ne, beq_iff_eq, bne_eq_false_iff_eq, beq_eq_false_iff_ne, ne_eq, Bool.not_true, Bool.not_false, Bool.false_eq_true, Bool.true_eq_false, inB_true, inB_false] at hpd); exact ps_int rfl (by (refine og rfl ?_; assumption)) (by (refine og rfl ?_; assumption)) rfl)) ?_; refine ok_p rfl rfl rfl (by exact ps_and rfl rfl rfl) ?_; refine ok_nil ?_; refine ok_env [(0, _), (1, _), (2, _), (3, _), (4, _), (18, _), (20, _), (24, _), (185, _)] ⟨rfl, rfl, rfl, rfl, rfl, rfl, rfl, rfl, rfl, trivial⟩ ?_)
        | (refine ok_region (i := 40) ?_; refine ok_p rfl rfl rfl (by exact ps_move rfl rfl) ?_; refine ok_p rfl rfl rfl (by exact ps_move rfl rfl) ?_; refine ok_p rfl rfl rfl (by exact ps_move rfl rfl) ?_; refine ok_p rfl rfl rfl (by exact ps_move rfl rfl) ?_; refine ok_p rfl rfl rfl (by exact ps_move rfl rfl) ?_; refine ok_m rfl rfl rfl (by exact ms_wr 0 rfl rfl rfl rfl (fun _ _ w hw => rotate_c A n c s m (d2 + m - s) L hn hl (by omega) (by omega) (by omega) hw)) ?_; rintro y191 hy191; refine ok_nil ?_; refine ok_env [(0, _), (1, _), (3, _), (4, _), (18, _), (20, _), (24, _)] ⟨rfl, rfl, rfl, rfl, rfl, rfl, rfl, trivial⟩ ?_)
        | (refine ok_region (i := 41) ?_; refine ok_p rfl rfl rfl (by exact ps_move rfl rfl) ?_; refine ok_p rfl rfl rfl (by exact ps_move rfl rfl) ?_; refine ok_p rfl rfl rfl (by exact ps_int rfl rfl rfl rfl) ?_; refine ok_p rfl rfl rfl (by exact ps_move rfl rfl) ?_; refine ok_pg rfl rfl rfl rfl rfl (gT _) (fun hp => by (have hpd := hp; (try simp only [decide_eq_true_eq, decide_eq_false_iff_not, Bool.or_eq_true, Bool.or_eq_false_iff, Bool.and_eq_true, Bool.and_eq_false_iff, Bool.not_eq_true', Bool.not_eq_false', bne_iff_ne, beq_iff_eq, bne_eq_false_iff_eq, beq_eq_false_iff_ne, ne_eq, Bool.not_true, Bool.not_false, Bool.false_eq_true, Bool.true_eq_false, inB_true, inB_false] at hpd); exact ps_move rfl (by exact rfl))) ?_; refine ok_pg rfl rfl rfl rfl rfl (gT _) (fun hp => by (have hpd := hp; (try simp only [decide_eq_true_eq, decide_eq_false_iff_not, Bool.or_eq_true, Bool.or_eq_false_iff, Bool.and_eq_true, Bool.and_eq_false_iff, Bool.not_eq_true', Bool.not_eq_false', bne_iff_ne, beq_iff_eq, bne_eq_false_iff_eq, beq_eq_false_iff_ne, ne_eq, Bool.not_true, Bool.not_false, Bool.false_eq_true, Bool.true_eq_false, inB_true, inB_false] at hpd); exact ps_move rfl (by exact rfl))) ?_; refine ok_pg rfl rfl rfl rfl rfl (gT _) (fun hp => by (have hpd := hp; (try simp only [decide_eq_true_eq, decide_eq_false_iff_not, Bool.or_eq_true, Bool.or_eq_false_iff, Bool.and_eq_true, Bool.and_eq_false_iff, Bool.not_eq_true', Bool.not_eq_false', bne_iff_ne, beq_iff_eq, bne_eq_false_iff_eq, beq_eq_false_iff_ne, ne_eq, Bool.not_true, Bool.not_false, Bool.false_eq_true, Bool.true_eq_false, inB_true, inB_false] at hpd); exact ps_int rfl (by (refine og rfl ?_; assumption)) (by (refine og rfl ?_; assumption)) rfl)) ?_; refine ok_p rfl rfl rfl (by exact ps_and rfl rfl rfl) ?_; refine ok_nil ?_; refine ok_env [(0, _), (1, _), (3, _), (4, _), (18, _), (20, _), (24, _), (199, _)] ⟨rfl, rfl, rfl, rfl, rfl, rfl, rfl, rfl, trivial⟩ ?_)
        | (refine ok_region (i := 42) ?_; refine ok_p rfl rfl rfl (by exact ps_move rfl rfl) ?_; refine ok_p rfl rfl rfl (by exact ps_move rfl rfl) ?_; refine ok_p rfl rfl rfl (by exact ps_move rfl rfl) ?_; refine ok_p rfl rfl rfl (by exact ps_move rfl rfl) ?_; refine ok_p rfl rfl rfl (by exact ps_move rfl rfl) ?_; refine ok_m rfl rfl rfl (by exact ms_wr 0 rfl rfl rfl rfl (fun _ _ w hw => ih.out a s d2 _ (by omega) (by first | exact hn | (rw [rotL_len]; exact hn)) (by omega) (by omega) (by omega) (by first | exact (F.out (by omega)).2.1 | exact (F'.out (by omega) (by omega)).2.1) (by first | exact (F.out (by omega)).2.2.1 | exact (F'.out (by omega) (by omega)).2.2.1) hw)) ?_; rintro y205 hy205; refine ok_nil ?_; refine ok_env [(0, _), (3, _), (4, _), (18, _), (24, _)] ⟨rfl, rfl, rfl, rfl, rfl, trivial⟩ ?_)
        | (refine ok_region (i := 43) ?_; refine ok_p rfl rfl rfl (by exact ps_move rfl rfl) ?_; refine ok_p rfl rfl rfl (by exact ps_move rfl rfl) ?_; refine ok_p rfl rfl rfl (by exact ps_int rfl rfl rfl rfl) ?_; refine ok_p rfl rfl rfl (by exact ps_move rfl rfl) ?_; refine ok_pg rfl rfl rfl rfl rfl (gT _) (fun hp => by (have hpd := hp; (try simp only [decide_eq_true_eq, decide_eq_false_iff_not, Bool.or_eq_true, Bool.or_eq_false_iff, Bool.and_eq_true, Bool.and_eq_false_iff, Bool.not_eq_true', Bool.not_eq_false', bne_iff_ne, beq_iff_eq, bne_eq_false_iff_eq, beq_eq_false_iff_ne, ne_eq, Bool.not_true, Bool.not_false, Bool.false_eq_true, Bool.true_eq_false, inB_true, inB_false] at hpd); exact ps_move rfl (by exact rfl))) ?_; refine ok_pg rfl rfl rfl rfl rfl (gT _) (fun hp => by (have hpd := hp; (try simp only [decide_eq_true_eq, decide_eq_false_iff_not, Bool.or_eq_true, Bool.or_eq_false_iff, Bool.and_eq_true, Bool.and_eq_false_iff, Bool.not_eq_true', Bool.not_eq_false', bne_iff_ne, beq_iff_eq, bne_eq_false_iff_eq, beq_eq_false_iff_ne, ne_eq, Bool.not_true, Bool.not_false, Bool.false_eq_true, Bool.true_eq_false, inB_true, inB_false] at hpd); exact ps_move rfl (by exact rfl))) ?_; refine ok_pg rfl rfl rfl rfl rfl (gT _) (fun hp => by (have hpd := hp; (try simp only [decide_eq_true_eq, decide_eq_false_iff_not, Bool.or_eq_true, Bool.or_eq_false_iff, Bool.and_eq_true, Bool.and_eq_false_iff, Bool.not_eq_true', Bool.not_eq_false', bne_iff_ne, beq_iff_eq, bne_eq_false_iff_eq, beq_eq_false_iff_ne, ne_eq, Bool.not_true, Bool.not_false, Bool.false_eq_true, Bool.true_eq_false, inB_true, inB_false] at hpd); exact ps_int rfl (by (refine og rfl ?_; assumption)) (by (refine og rfl ?_; assumption)) rfl)) ?_; refine ok_p rfl rfl rfl (by exact ps_and rfl rfl rfl) ?_; refine ok_nil ?_; refine ok_env [(0, _), (3, _), (4, _), (18, _), (24, _), (213, _)] ⟨rfl, rfl, rfl, rfl, rfl, rfl, trivial⟩ ?_)
        | (refine ok_region (i := 44) ?_; refine ok_p rfl rfl rfl (by exact ps_move rfl rfl) ?_; refine ok_p rfl rfl rfl (by exact ps_move rfl rfl) ?_; refine ok_p rfl rfl rfl (by exact ps_move rfl rfl) ?_; refine ok_p rfl rfl rfl (by exact ps_move rfl rfl) ?_; refine ok_p rfl rfl rfl (by exact ps_move rfl rfl) ?_; refine ok_m rfl rfl rfl (by exact ms_wr 0 rfl rfl rfl rfl (fun _ _ w hw => ih.out d2 (d2 + m - s) b _ (by omega) (by first | exact hn | (rw [rotL_len]; exact hn) | (rw [hy205.1.len]; exact hn) | (rw [hy205.1.len, rotL_len]; exact hn)) (by omega) (by omega) (by omega) (by first | exact srt_out hy205.1 (F.out (by omega)).2.2.2.1 (.inr (Nat.le_refl _)) | exact srt_out hy205.1 (F'.out (by omega) (by omega)).2.2.2.1 (.inr (Nat.le_refl _)) | exact (F.out (by omega)).2.2.2.1 | exact (F'.out (by omega) (by omega)).2.2.2.1) (by first | exact srt_out hy205.1 (F.out (by omega)).2.2.2.2.1 (.inr (by omega)) | exact srt_out hy205.1 (F'.out (by omega) (by omega)).2.2.2.2.1 (.inr (by omega)) | exact (F.out (by omega)).2.2.2.2.1 | exact (F'.out (by omega) (by omega)).2.2.2.2.1) hw)) ?_; rintro y219 hy219; refine ok_nil ?_; refine ok_env [] trivial ?_))
      all_goals first
        | (rw [cmpE_lt] at hc
           have hc' : aheadE (nth L (d2 + m - 1 - (s + r) / 2)) (nth L ((s + r) / 2)) = false := by simpa using hc
           exact fun ac w' he hw => ⟨⟨(s + r) / 2 + 1, r, by omega, fun _ => nle_of hc', HI.out⟩, by simp only; omega, he.sub ⟨rfl, rfl, rfl, rfl, rfl, rfl, rfl, rfl, rfl, rfl, trivial⟩, hw⟩)
        | (rw [cmpE_lt] at hc
           have hc' : aheadE (nth L (d2 + m - 1 - (s + r) / 2)) (nth L ((s + r) / 2)) = true := by simpa using hc
           exact fun ac w' he hw => ⟨⟨s, (s + r) / 2, by omega, LO.out, fun _ => hc'⟩, by simp only; omega, he.sub ⟨rfl, rfl, rfl, rfl, rfl, rfl, rfl, rfl, rfl, rfl, trivial⟩, hw⟩)
        | (refine ok_endN (K := .normal) (ok_endL (vs := []) rfl trivial (fun w' hw => ⟨yM (rM y219) w, rfl, ?_, ?_⟩))
           · rw [rM_yM]
             first
               | exact sym_fin (F.out (by omega)) (.inl hy205) (.inl hy219)
               | exact sym_fin (F'.out (by omega) (by omega)) (.inl hy205) (.inl hy219)
               | exact sym_fin (F.out (by omega)) (.inr ⟨rfl, by omega, by omega⟩) (.inl hy219)
               | exact sym_fin (F'.out (by omega) (by omega)) (.inr ⟨rfl, by omega, by omega⟩) (.inl hy219)
           · rw [rM_yM]; exact hw)
        | (refine ok_endN (K := .normal) (ok_endL (vs := []) rfl trivial (fun w' hw => ⟨yM (rM y205) w, rfl, ?_, ?_⟩))
           · rw [rM_yM]
             first
               | exact sym_fin (F.out (by omega)) (.inl hy205) (.inr ⟨rfl, by omega, by omega⟩)
               | exact sym_fin (F'.out (by omega) (by omega)) (.inl hy205) (.inr ⟨rfl, by omega, by omega⟩)
           · rw [rM_yM]; exact hw)
        | (refine ok_endN (K := .normal) (ok_endL (vs := []) rfl trivial (fun w' hw => ⟨yM (rotL L s m (d2 + m - s)) w, rfl, ?_, ?_⟩))
           · rw [rM_yM]; exact sym_fin (F.out (by omega)) (.inr ⟨rfl, by omega, by omega⟩) (.inr ⟨rfl, by omega, by omega⟩)
           · rw [rM_yM]; exact hw)
        | (refine ok_endN (K := .normal) (ok_endL (vs := []) rfl trivial (fun w' hw => ⟨yM L w, rfl, ?_, ?_⟩))
           · rw [rM_yM]; exact sym_fin (F'.out (by omega) (by omega)) (.inr ⟨rfl, by omega, by omega⟩) (.inr ⟨rfl, by omega, by omega⟩)
           · rw [rM_yM]; exact hw)
end Go.Proofs.Ytbegbdfbfbkflaa
/- Runs of a block size: what the phases of the stable sort leave. In plain Lean. -/
namespace Go.Proofs.Ytbegbdfbfbkflaa
set_option linter.unusedVariables false
/-- Places in one block of s are in order. -/
def Runs (C : List Ent) (s n : Nat) : Prop := ∀ p q, p < q → q < n → p / s = q / s → leE (nth C p) (nth C q) = true
/-- Below a: blocks of u; from a on: blocks of s. -/
def Mix (C : List Ent) (s u a n : Nat) : Prop := ∀ p q, p < q → q < n → (q < a → p / u = q / u → leE (nth C p) (nth C q) = true) ∧ (a ≤ p → p / s = q / s → leE (nth C p) (nth C q) = true)
theorem div_in {s t p : Nat} (h1 : t * s ≤ p) (h2 : p < t * s + s) : p / s = t := Nat.div_eq_of_lt_le h1 (by rw [Nat.succ_mul]; exact h2)
theorem div_apart {u t p q : Nat} (hu : 0 < u) (h1 : p < t * u) (h2 : t * u ≤ q) : p / u ≠ q / u := by
  have h3 : p / u < t := (Nat.div_lt_iff_lt_mul hu).2 h1
  have h4 : t ≤ q / u := (Nat.le_div_iff_mul_le hu).2 h2
  omega
theorem mix_start {C : List Ent} {s u n : Nat} (h : Runs C s n) : Mix C s u 0 n := fun p q h1 h2 => ⟨fun h3 => by omega, fun _ h4 => h p q h1 h2 h4⟩
theorem mix_at {C : List Ent} {s u a n t x y : Nat} (h : Mix C s u a n) (hx : x = t * s) (ha : a ≤ x) (hy : y ≤ x + s ∧ y ≤ n) : srtIn C x y := fun i j hi hij hj => by
  subst hx
  exact (h i j hij (by omega)).2 (by omega) ((div_in hi (by omega)).trans (div_in (by omega) (by omega)).symm)
/-- One more block of u (or the last, shorter one) is put in order. -/
theorem mix_step {C D : List Ent} {s u a n t e : Nat} (hu : 0 < u) (h : Mix C s u a n) (ha : a = t * u) (he : e = a + u ∨ (e = n ∧ n ≤ a + u)) (hs : SegE C D a e) (hd : srtIn D a e) : Mix D s u e n := fun p q h1 h2 => by
  constructor
  · intro h3 h4
    rcases Nat.lt_or_ge q a with h5 | h5
    · rw [hs.out p (by omega), hs.out q (by omega)]
      exact (h p q h1 h2).1 h5 h4
    · rcases Nat.lt_or_ge p a with h6 | h6
      · subst ha; exact absurd h4 (div_apart hu h6 h5)
      · exact hd p q h6 h1 h3
  · intro h3 h4
    rw [hs.out p (by omega), hs.out q (by omega)]
    exact (h p q h1 h2).2 (by have := hs.len; rcases he with h5 | h5 <;> omega) h4
theorem mix_end {C : List Ent} {s u n : Nat} (h : Mix C s u n n) : Runs C u n := fun p q h1 h2 h3 => (h p q h1 h2).1 h2 h3
/-- What is left behind the whole blocks is one block of s already. -/
theorem mix_rest {C : List Ent} {s u a n t k : Nat} (hu : u = 2 * s) (hs : 0 < s) (h : Mix C s u a n) (ha : a = t * u) (h2 : n ≤ a + s) : Mix C s u n n := fun p q h1 h3 => by
  refine ⟨fun _ h4 => ?_, fun h4 => by omega⟩
  rcases Nat.lt_or_ge q a with h5 | h5
  · exact (h p q h1 h3).1 h5 h4
  · rcases Nat.lt_or_ge p a with h6 | h6
    · subst ha; exact absurd h4 (div_apart (by omega) h6 h5)
    · have e : a = (2 * t) * s := by rw [ha, hu, Nat.mul_left_comm, Nat.mul_assoc]
      exact (h p q h1 h3).2 h6 ((div_in (t := 2 * t) (by omega) (by omega)).trans (div_in (t := 2 * t) (by omega) (by omega)).symm)
theorem runs_srt {C : List Ent} {s n : Nat} (h : Runs C s n) (hs : n ≤ s) : srtIn C 0 n := fun i j hi hij hj => h i j hij hj (by rw [Nat.div_eq_of_lt (by omega), Nat.div_eq_of_lt (by omega)])
theorem mul_snoc {t u a : Nat} (h : a = t * u) : a + u = (t + 1) * u := by rw [Nat.succ_mul, h]
theorem two_mul_run {t s a : Nat} (h : a = t * (2 * s)) : a = (2 * t) * s ∧ a + s = (2 * t + 1) * s := by
  have e : a = (2 * t) * s := by rw [h, Nat.mul_left_comm, Nat.mul_assoc]
  exact ⟨e, by rw [Nat.succ_mul, e]⟩
/-- The blocks below a are in order, nothing is known of the rest. -/
theorem mix_none {C : List Ent} {u n : Nat} : Mix C 1 u 0 n := fun p q h1 h2 => ⟨fun h3 => by omega, fun _ h4 => by rw [Nat.div_one, Nat.div_one] at h4; omega⟩
end Go.Proofs.Ytbegbdfbfbkflaa
/- slices.SortStableFunc of entries: blocks of 20 by insertion, then merges. -/
namespace Go.Proofs.Ytbegbdfbfbkflaa
open Go.RowKit
set_option maxHeartbeats 4000000
set_option maxRecDepth 20000
set_option linter.unusedVariables false
set_option linter.unusedSimpArgs false
attribute [local irreducible] Calls
structure StA (L : List Ent) (n : Nat) where
  C : List Ent
  a : Nat
  t : Nat
  ha : a ≤ n ∧ a = t * 20
  seg : SegE L C 0 n
  mix : Mix C 1 20 a n
structure StM (L : List Ent) (n : Nat) where
  C : List Ent
  s : Nat
  hs : 0 < s ∧ s ≤ 2 * n + 20
  seg : SegE L C 0 n
  run : Runs C s n
structure StN (L : List Ent) (n s : Nat) where
  C : List Ent
  a : Nat
  t : Nat
  ha : a ≤ n ∧ a = t * (2 * s)
  seg : SegE L C 0 n
  mix : Mix C s (2 * s) a n
theorem stable_c (A : Option Addr) (n c : Nat) (L : List Ent) (hn : L.length = n) (hl : n ≤ 4194304) {base : Nat} {w0 w : World} {H : List HObj} {G : List World} (hw : WOk base w0 (rwE A n c L :: H) G w) :
    Calls Try.prog 238 #[.slice A n c, .int .i64 n, cmpV] w fun e w' => ∃ y : Ys, e = .returned (.tuple #[]) ∧ (stb L (rM y) ∧ leS' (rM y) ∧ (rM y).length = n) ∧ WOk base w0 (rwE A n c (rM y) :: H) G w' := by
  refine ok_enterW 63 Try.func238 rfl rfl rfl hw ?_
  repeat' (first
    | refine ok_seq ?_
    | refine ok_block ?_
    | (refine ok_region (i := 0) ?_; refine ok_p rfl rfl rfl (by exact ps_assign rfl rfl) ?_; refine ok_nil ?_; refine ok_env [(0, _), (1, _), (2, _), (6, _)] ⟨rfl, rfl, rfl, rfl, trivial⟩ ?_)
    | (refine ok_region (i := 1) ?_; refine ok_p rfl rfl rfl (by exact ps_move rfl rfl) ?_; refine ok_p rfl rfl rfl (by exact ps_assign rfl rfl) ?_; refine ok_p rfl rfl rfl (by exact ps_assign rfl rfl) ?_; refine ok_nil ?_; refine ok_env [(0, _), (1, _), (2, _), (6, _), (7, _), (8, _)] ⟨rfl, rfl, rfl, rfl, rfl, rfl, trivial⟩ ?_))
  refine ok_loop (ι := StA L n) (fun q => n - q.a) (fun q => ([(0, .slice A n c), (1, .int .i64 n), (2, cmpV), (6, .int .i64 20), (7, .int .i64 q.a), (8, .int .i64 ((q.a + 20 : Nat) : Int))], rwE A n c q.C :: H, _)) ⟨L, 0, 0, by omega, SegE.refl _ _ _, mix_none⟩ (fun ac w he hw => ⟨⟨L, 0, 0, by omega, SegE.refl _ _ _, mix_none⟩, he.sub ⟨rfl, rfl, rfl, rfl, rfl, rfl, trivial⟩, hw⟩) ?_
  rintro ⟨C, a, t, ha, seg, mix⟩
  simp only at ha ⊢
  have hcn : C.length = n := by rw [seg.len]; exact hn
  have SEG := Lib.hid seg; clear seg
  have MIX := Lib.hid mix; clear mix
  have HA := Lib.hid ha.2
  replace ha := ha.1
  repeat' (first
    | refine ok_seq ?_
    | refine ok_then ?_
    | refine ok_block ?_
    | refine ok_in_normal ?_
    | (refine ok_cond rfl (fun hc => ?_) (fun hc => ?_) <;> (have hd := hc; (try simp only [decide_eq_true_eq, decide_eq_false_iff_not, Bool.or_eq_true, Bool.or_eq_false_iff, Bool.and_eq_true, Bool.and_eq_false_iff, Bool.not_eq_true', Bool.not_eq_false', bne_iff_ne, beq_iff_eq, bne_eq_false_iff_eq, beq_eq_false_iff_ne, ne_eq, Bool.not_true, Bool.not_false, Bool.false_eq_true, Bool.true_eq_false, inB_true, inB_false] at hd)))
    | refine ok_exit ?_
    | refine ok_skip ?_
    | (refine ok_region (i := 2) ?_; refine ok_p rfl rfl rfl (by exact ps_move rfl rfl) ?_; refine ok_p rfl rfl rfl (by exact ps_move rfl rfl) ?_; refine ok_p rfl rfl rfl (by exact ps_int rfl rfl rfl rfl) ?_; refine ok_nil ?_; refine ok_env [(0, _), (1, _), (2, _), (6, _), (7, _), (8, _), (13, _)] ⟨rfl, rfl, rfl, rfl, rfl, rfl, rfl, trivial⟩ ?_)
    | (refine ok_region (i := 3) ?_; refine ok_p rfl rfl rfl (by exact ps_move rfl rfl) ?_; refine ok_p rfl rfl rfl (by exact ps_move rfl rfl) ?_; refine ok_p rfl rfl rfl (by exact ps_move rfl rfl) ?_; refine ok_p rfl rfl rfl (by exact ps_move rfl rfl) ?_; refine ok_m rfl rfl rfl (by exact ms_w4 (fun _ _ _ h => h) rfl rfl rfl rfl rfl (fun _ _ w hw => insert_c' A n c a (a + 20) C hcn hl (by omega) (by omega) hw)) ?_; rintro y18 hy18; refine ok_nil ?_; refine ok_env [(0, _), (1, _), (2, _), (6, _), (8, _)] ⟨rfl, rfl, rfl, rfl, rfl, trivial⟩ ?_)
    | (refine ok_region (i := 4) ?_; refine ok_p rfl rfl rfl (by exact ps_move rfl rfl) ?_; refine ok_p rfl rfl rfl (by exact ps_assign rfl rfl) ?_; refine ok_nil ?_; refine ok_env [(0, _), (1, _), (2, _), (6, _), (7, _), (8, _)] ⟨rfl, rfl, rfl, rfl, rfl, rfl, trivial⟩ ?_)
    | (refine ok_region (i := 5) ?_; refine ok_p rfl rfl rfl (by exact ps_move rfl rfl) ?_; refine ok_p rfl rfl rfl (by exact ps_move rfl rfl) ?_; refine ok_p rfl rfl rfl (by exact ps_cast (v' := .int .i64 ((a + 20 + 20 : Nat) : Int)) (ps_add rfl rfl rfl (by omega)) (by push_cast; rfl)) ?_; refine ok_p rfl rfl rfl (by exact ps_assign rfl rfl) ?_; refine ok_nil ?_; refine ok_env [(0, _), (1, _), (2, _), (6, _), (7, _), (8, _)] ⟨rfl, rfl, rfl, rfl, rfl, rfl, trivial⟩ ?_)
    | (refine ok_region (i := 6) ?_; refine ok_p rfl rfl rfl (by exact ps_move rfl rfl) ?_; refine ok_p rfl rfl rfl (by exact ps_move rfl rfl) ?_; refine ok_p rfl rfl rfl (by exact ps_move rfl rfl) ?_; refine ok_p rfl rfl rfl (by exact ps_move rfl rfl) ?_; refine ok_m rfl rfl rfl (by exact ms_w4 (fun _ _ _ h => h) rfl rfl rfl rfl rfl (fun _ _ w hw => insert_c' A n c a n C hcn hl (by omega) (by omega) hw)) ?_; rintro y27 hy27; refine ok_nil ?_; refine ok_env [(0, _), (1, _), (2, _), (6, _)] ⟨rfl, rfl, rfl, rfl, trivial⟩ ?_))
  · exact fun ac w' he hw => ⟨⟨rM y18, a + 20, t + 1, ⟨by omega, mul_snoc HA.out⟩, SEG.out.trans (hy18.1.wide (by omega) (by omega)), mix_step (by omega) MIX.out HA.out (.inl rfl) hy18.1 hy18.2⟩, by simp only; omega, he.sub ⟨rfl, rfl, rfl, rfl, rfl, rfl, trivial⟩, hw⟩
  have hrun : Runs (rM y27) 20 n := mix_end (mix_step (by omega) MIX.out HA.out (.inr ⟨rfl, by omega⟩) hy27.1 hy27.2)
  have hseg : SegE L (rM y27) 0 n := SEG.out.trans (hy27.1.wide (by omega) (by omega))
  clear SEG MIX HA hc hd hcn hy27
  refine ok_loop (ι := StM L n) (fun q => 2 * n + 20 - q.s) (fun q => ([(0, .slice A n c), (1, .int .i64 n), (2, cmpV), (6, .int .i64 q.s)], rwE A n c q.C :: H, _)) ⟨rM y27, 20, by omega, hseg, hrun⟩ (fun ac w he hw => ⟨⟨rM y27, 20, by omega, hseg, hrun⟩, he.sub ⟨rfl, rfl, rfl, rfl, trivial⟩, hw⟩) ?_
  rintro ⟨D, s, hs, seg, run⟩
  simp only at hs ⊢
  clear hseg hrun
  have hdn : D.length = n := by rw [seg.len]; exact hn
  have SEG := Lib.hid seg; clear seg
  have RUN := Lib.hid run; clear run
  repeat' (first
    | refine ok_seq ?_
    | refine ok_then ?_
    | refine ok_then_exit ?_
    | refine ok_block ?_
    | refine ok_in_exit ?_
    | (refine ok_cond rfl (fun hc => ?_) (fun hc => ?_) <;> (have hd := hc; (try simp only [decide_eq_true_eq, decide_eq_false_iff_not, Bool.or_eq_true, Bool.or_eq_false_iff, Bool.and_eq_true, Bool.and_eq_false_iff, Bool.not_eq_true', Bool.not_eq_false', bne_iff_ne, beq_iff_eq, bne_eq_false_iff_eq, beq_eq_false_iff_ne, ne_eq, Bool.not_true, Bool.not_false, Bool.false_eq_true, Bool.true_eq_false, inB_true, inB_false] at hd)))
    | refine ok_exit ?_
    | refine ok_skip ?_
    | (refine ok_region (i := 7) ?_; refine ok_p rfl rfl rfl (by exact ps_move rfl rfl) ?_; refine ok_p rfl rfl rfl (by exact ps_move rfl rfl) ?_; refine ok_p rfl rfl rfl (by exact ps_int rfl rfl rfl rfl) ?_; refine ok_nil ?_; refine ok_env [(0, _), (1, _), (2, _), (6, _), (30, _)] ⟨rfl, rfl, rfl, rfl, rfl, trivial⟩ ?_)
    | (refine ok_region (i := 8) ?_; refine ok_p rfl rfl rfl (by exact ps_move rfl rfl) ?_; refine ok_p rfl rfl rfl (by exact ps_cast (v' := .int .i64 ((0 + 2 * s : Nat) : Int)) (ps_mul rfl rfl rfl (by omega)) (by push_cast; congr 1; omega)) ?_; refine ok_p rfl rfl rfl (by exact ps_assign rfl rfl) ?_; refine ok_p rfl rfl rfl (by exact ps_assign rfl rfl) ?_; refine ok_nil ?_; refine ok_env [(0, _), (1, _), (2, _), (6, _), (7, _), (8, _)] ⟨rfl, rfl, rfl, rfl, rfl, rfl, trivial⟩ ?_))
  · refine ok_loop (ι := StN L n s) (fun q => n - q.a) (fun q => ([(0, .slice A n c), (1, .int .i64 n), (2, cmpV), (6, .int .i64 s), (7, .int .i64 q.a), (8, .int .i64 ((q.a + 2 * s : Nat) : Int))], rwE A n c q.C :: H, _)) ⟨D, 0, 0, by omega, SEG.out, mix_start RUN.out⟩ (fun ac w he hw => ⟨⟨D, 0, 0, by omega, SEG.out, mix_start RUN.out⟩, he.sub ⟨rfl, rfl, rfl, rfl, rfl, rfl, trivial⟩, hw⟩) ?_
    rintro ⟨C, a, t, ha, seg, mix⟩
    simp only at ha ⊢
    clear SEG RUN hdn
    have hcn : C.length = n := by rw [seg.len]; exact hn
    have s1 := fun h => mix_at (x := a) (y := a + s) mix (two_mul_run ha.2).1 (Nat.le_refl _) h
    have s2 := fun y h => mix_at (x := a + s) (y := y) mix (two_mul_run ha.2).2 (by omega) h
    have S1 := Lib.hid s1; clear s1
    have S2 := Lib.hid s2; clear s2
    have SEG := Lib.hid seg; clear seg
    have MIX := Lib.hid mix; clear mix
    have HA := Lib.hid ha.2
    replace ha := ha.1
    repeat' (first
      | refine ok_seq ?_
      | refine ok_then ?_
      | refine ok_block ?_
      | refine ok_in_normal ?_
      | (refine ok_cond rfl (fun hc => ?_) (fun hc => ?_) <;> (have hd := hc; (try simp only [decide_eq_true_eq, decide_eq_false_iff_not, Bool.or_eq_true, Bool.or_eq_false_iff, Bool.and_eq_true, Bool.and_eq_false_iff, Bool.not_eq_true', Bool.not_eq_false', bne_iff_ne, beq_iff_eq, bne_eq_false_iff_eq, beq_eq_false_iff_ne, ne_eq, Bool.not_true, Bool.not_false, Bool.false_eq_true, Bool.true_eq_false, inB_true, inB_false] at hd)))
      | refine ok_exit ?_
      | refine ok_skip ?_
      | (refine ok_region (i := 9) ?_; refine ok_p rfl rfl rfl (by exact ps_move rfl rfl) ?_; refine ok_p rfl rfl rfl (by exact ps_move rfl rfl) ?_; refine ok_p rfl rfl rfl (by exact ps_int rfl rfl rfl rfl) ?_; refine ok_nil ?_; refine ok_env [(0, _), (1, _), (2, _), (6, _), (7, _), (8, _), (35, _)] ⟨rfl, rfl, rfl, rfl, rfl, rfl, rfl, trivial⟩ ?_)
      | (refine ok_region (i := 10) ?_; refine ok_p rfl rfl rfl (by exact ps_move rfl rfl) ?_; refine ok_p rfl rfl rfl (by exact ps_move rfl rfl) ?_; refine ok_p rfl rfl rfl (by exact ps_move rfl rfl) ?_; refine ok_p rfl rfl rfl (by exact ps_move rfl rfl) ?_; refine ok_p rfl rfl rfl (by exact ps_cast (v' := .int .i64 ((a + s : Nat) : Int)) (ps_add rfl rfl rfl (by omega)) (by push_cast; rfl)) ?_; refine ok_p rfl rfl rfl (by exact ps_move rfl rfl) ?_; refine ok_p rfl rfl rfl (by exact ps_move rfl rfl) ?_; refine ok_m rfl rfl rfl (by exact ms_w5 (fun _ _ _ h => h) rfl rfl rfl rfl rfl rfl (fun _ _ w hw => symM_c A n c hl (2 * s) a (a + s) (a + 2 * s) C (by omega) hcn (by omega) (by omega) (by omega) (S1.out (by omega)) (S2.out _ (by omega)) hw)) ?_; rintro y43 hy43; refine ok_nil ?_; refine ok_env [(0, _), (1, _), (2, _), (6, _), (8, _)] ⟨rfl, rfl, rfl, rfl, rfl, trivial⟩ ?_)
      | (refine ok_region (i := 11) ?_; refine ok_p rfl rfl rfl (by exact ps_move rfl rfl) ?_; refine ok_p rfl rfl rfl (by exact ps_assign rfl rfl) ?_; refine ok_nil ?_; refine ok_env [(0, _), (1, _), (2, _), (6, _), (7, _), (8, _)] ⟨rfl, rfl, rfl, rfl, rfl, rfl, trivial⟩ ?_)
      | (refine ok_region (i := 12) ?_; refine ok_p rfl rfl rfl (by exact ps_move rfl rfl) ?_; refine ok_p rfl rfl rfl (by exact ps_move rfl rfl) ?_; refine ok_p rfl rfl rfl (by exact ps_cast (v' := .int .i64 ((2 * s : Nat) : Int)) (ps_mul rfl rfl rfl (by omega)) (by push_cast; rfl)) ?_; refine ok_p rfl rfl rfl (by exact ps_cast (v' := .int .i64 ((a + 2 * s + 2 * s : Nat) : Int)) (ps_add rfl rfl rfl (by omega)) (by push_cast; rfl)) ?_; refine ok_p rfl rfl rfl (by exact ps_assign rfl rfl) ?_; refine ok_nil ?_; refine ok_env [(0, _), (1, _), (2, _), (6, _), (7, _), (8, _)] ⟨rfl, rfl, rfl, rfl, rfl, rfl, trivial⟩ ?_)
      | (refine ok_region (i := 13) ?_; refine ok_p rfl rfl rfl (by exact ps_move rfl rfl) ?_; refine ok_p rfl rfl rfl (by exact ps_move rfl rfl) ?_; refine ok_p rfl rfl rfl (by exact ps_cast (v' := .int .i64 ((a + s : Nat) : Int)) (ps_add rfl rfl rfl (by omega)) (by push_cast; rfl)) ?_; refine ok_p rfl rfl rfl (by exact ps_assign rfl rfl) ?_; refine ok_nil ?_; refine ok_env [(0, _), (1, _), (2, _), (6, _), (7, _), (9, _)] ⟨rfl, rfl, rfl, rfl, rfl, rfl, trivial⟩ ?_)
      | (refine ok_region (i := 14) ?_; refine ok_p rfl rfl rfl (by exact ps_move rfl rfl) ?_; refine ok_p rfl rfl rfl (by exact ps_move rfl rfl) ?_; refine ok_p rfl rfl rfl (by exact ps_int rfl rfl rfl rfl) ?_; refine ok_nil ?_; refine ok_env [(0, _), (1, _), (2, _), (6, _), (7, _), (9, _), (54, _)] ⟨rfl, rfl, rfl, rfl, rfl, rfl, rfl, trivial⟩ ?_)
      | (refine ok_region (i := 15) ?_; refine ok_p rfl rfl rfl (by exact ps_move rfl rfl) ?_; refine ok_p rfl rfl rfl (by exact ps_move rfl rfl) ?_; refine ok_p rfl rfl rfl (by exact ps_move rfl rfl) ?_; refine ok_p rfl rfl rfl (by exact ps_move rfl rfl) ?_; refine ok_p rfl rfl rfl (by exact ps_move rfl rfl) ?_; refine ok_m rfl rfl rfl (by exact ms_w5 (fun _ _ _ h => h) rfl rfl rfl rfl rfl rfl (fun _ _ w hw => symM_c A n c hl (2 * s) a (a + s) n C (by omega) hcn (by omega) (by omega) (by omega) (S1.out (by omega)) (S2.out _ (by omega)) hw)) ?_; rintro y60 hy60; refine ok_nil ?_; refine ok_env [(0, _), (1, _), (2, _), (6, _)] ⟨rfl, rfl, rfl, rfl, trivial⟩ ?_)
      | (refine ok_region (i := 16) ?_; refine ok_p rfl rfl rfl (by exact ps_move rfl rfl) ?_; refine ok_p rfl rfl rfl (by exact ps_cast (v' := .int .i64 ((2 * s : Nat) : Int)) (ps_mul rfl rfl rfl (by omega)) (by push_cast; congr 1; omega)) ?_; refine ok_p rfl rfl rfl (by exact ps_assign rfl rfl) ?_; refine ok_nil ?_; refine ok_env [(0, _), (1, _), (2, _), (6, _)] ⟨rfl, rfl, rfl, rfl, trivial⟩ ?_))
    · exact fun ac w' he hw => ⟨⟨rM y43, a + 2 * s, t + 1, ⟨by omega, mul_snoc HA.out⟩, SEG.out.trans (hy43.1.wide (by omega) (by omega)), mix_step (by omega) MIX.out HA.out (.inl rfl) hy43.1 hy43.2⟩, by simp only; omega, he.sub ⟨rfl, rfl, rfl, rfl, rfl, rfl, trivial⟩, hw⟩
    · exact fun ac w' he hw => ⟨⟨rM y60, 2 * s, by omega, SEG.out.trans (hy60.1.wide (by omega) (by omega)), mix_end (mix_step (by omega) MIX.out HA.out (.inr ⟨rfl, by omega⟩) hy60.1 hy60.2)⟩, by simp only; omega, he.sub ⟨rfl, rfl, rfl, rfl, trivial⟩, hw⟩
    · exact fun ac w' he hw => ⟨⟨C, 2 * s, by omega, SEG.out, mix_end (mix_rest (k := 0) rfl hs.1 MIX.out HA.out (by omega))⟩, by simp only; omega, he.sub ⟨rfl, rfl, rfl, rfl, trivial⟩, hw⟩
  · refine ok_endN (K := .normal) (ok_endL (vs := []) rfl trivial (fun w' hw => ⟨yM D w, rfl, ?_, ?_⟩))
    · rw [rM_yM]
      exact ⟨SEG.out.st, srt_le (by rw [hdn]; exact runs_srt RUN.out (by omega)), hdn⟩
    · rw [rM_yM]; exact hw
theorem sortStable_c (A : Option Addr) (n c : Nat) (L : List Ent) (hn : L.length = n) (hl : n ≤ 4194304) {base : Nat} {w0 w : World} {H : List HObj} {G : List World} (hw : WOk base w0 (rwE A n c L :: H) G w) :
    Calls Try.prog 204 #[.slice A n c, cmpV] w fun e w' => ∃ y : Ys, e = .returned (.tuple #[]) ∧ (stb L (rM y) ∧ leS' (rM y) ∧ (rM y).length = n) ∧ WOk base w0 (rwE A n c (rM y) :: H) G w' := by
  refine ok_enterW 9 Try.func204 rfl rfl rfl hw ?_
  repeat' ((refine ok_region (i := 0) ?_; refine ok_p rfl rfl rfl (by exact ps_move rfl rfl) ?_; refine ok_p rfl rfl rfl (by exact ps_move rfl rfl) ?_; refine ok_p rfl rfl rfl (by exact ps_len rfl rfl) ?_; refine ok_p rfl rfl rfl (by exact ps_move rfl rfl) ?_; refine ok_m rfl rfl rfl (by exact ms_w3 (fun _ _ _ h => h) rfl rfl rfl rfl (fun _ _ w hw => stable_c A n c L hn hl hw)) ?_; rintro y8 hy8; refine ok_nil ?_; refine ok_env [] trivial ?_))
  exact ok_endN (K := .normal) (ok_endL (vs := []) rfl trivial (fun w' hw => ⟨y8, rfl, hy8, hw⟩))
end Go.Proofs.Ytbegbdfbfbkflaa
/- What a compaction keeps, step by step. In plain Lean. -/
namespace Go.Proofs.Ytbegbdfbfbkflaa
set_option linter.unusedVariables false
/-- The first of each bunch among the first m. -/
def adjK (L : List Ent) : Nat → List Ent
  | 0 => []
  | m + 1 => adjK L m ++ if m = 0 ∨ sameE (nth L m) (nth L (m - 1)) = false then [nth L m] else []
def cmpA : Ent → List Ent → List Ent
  | _, [] => []
  | p, x :: L => if sameE x p = true then cmpA x L else x :: cmpA x L
theorem same_flip {a b c : Ent} (h : sameE a b = true) : sameE c b = sameE a c := by
  cases h1 : sameE a c with
  | true => rw [same_sym]; exact same_trans h h1
  | false =>
    cases h2 : sameE c b with
    | false => rfl
    | true =>
      have := same_trans (by rw [same_sym]; exact h : sameE b a = true) (by rw [same_sym]; exact h2 : sameE b c = true)
      rw [h1] at this; cases this
theorem cmpct_A : ∀ (L : List Ent) (a b : Ent), sameE a b = true → cmpct (a :: L) = a :: cmpA b L
  | [], a, b, h => by rw [cmpct, cmpA]
  | x :: L, a, b, h => by
    rw [cmpct, cmpA, same_flip h]
    by_cases hx : sameE a x = true
    · rw [if_pos hx, if_pos hx]; exact cmpct_A L a x hx
    · rw [if_neg hx, if_neg hx, cmpct_A L x x (same_refl x)]
theorem adj_tot (L : List Ent) (h0 : 0 < L.length) : ∀ k, k < L.length → adjK L (k + 1) ++ cmpA (nth L k) (L.drop (k + 1)) = cmpct L
  | 0, hk => by
    cases L with
    | nil => cases h0
    | cons a T =>
      rw [cmpct_A T a a (same_refl a)]
      simp [adjK, nth]
  | k + 1, hk => by
    have ih := adj_tot L h0 k (by omega)
    rw [← ih, List.drop_eq_getElem_cons (show k + 1 < L.length from hk), cmpA]
    have e : L[k + 1] = nth L (k + 1) := by simp [nth, hk]
    rw [e, adjK]
    have h1 : ¬ (k + 1 = 0) := by omega
    rw [show k + 1 - 1 = k by omega]
    by_cases hs : sameE (nth L (k + 1)) (nth L k) = true
    · rw [if_pos hs, if_neg (by rw [hs]; simp)]; simp
    · rw [if_neg hs, if_pos (.inr (by simpa using hs))]; simp
theorem adj_end (L : List Ent) : adjK L L.length = cmpct L := by
  cases hL : L.length with
  | zero => rw [List.length_eq_zero_iff.1 hL]; rw [adjK, cmpct]
  | succ k =>
    have := adj_tot L (by omega) k (by omega)
    rw [List.drop_eq_nil_of_le (by omega), cmpA, List.append_nil] at this
    exact this
theorem adj_len (L : List Ent) : ∀ m, (adjK L m).length ≤ m
  | 0 => Nat.le_refl _
  | m + 1 => by
    rw [adjK, List.length_append]
    have := adj_len L m
    split <;> simp <;> omega
theorem adj_same {L : List Ent} {m : Nat} (h0 : 0 < m) (h : sameE (nth L m) (nth L (m - 1)) = true) : adjK L (m + 1) = adjK L m := by
  rw [adjK, if_neg (by rw [h]; simp; omega)]; simp
theorem adj_diff {L : List Ent} {m : Nat} (h : sameE (nth L m) (nth L (m - 1)) = false) : adjK L (m + 1) = adjK L m ++ [nth L m] := by
  rw [adjK, if_pos (.inr h)]
theorem adj_zero (L : List Ent) : adjK L 1 = [nth L 0] := by rw [adjK, adjK, if_pos (.inl rfl)]; rfl
theorem takeE_snoc {L : List Ent} {k : Nat} (h : k < L.length) : L.take (k + 1) = L.take k ++ [nth L k] := by
  rw [List.take_add_one, List.getElem?_eq_getElem h]; simp [nth, h]
/-- A place behind the front that is kept still holds what it held. -/
theorem nth_back {O L : List Ent} {k j : Nat} (ho : O.length = k) (hj : k ≤ j) : nth (O ++ L.drop k) j = nth L j := by
  rw [nth_app, if_neg (by omega), nth_drop]; congr 1; omega
theorem set_front {O L : List Ent} {k : Nat} (ho : O.length = k) (hk : k < L.length) (x : Ent) : (O ++ L.drop k).set k x = (O ++ [x]) ++ L.drop (k + 1) := by
  rw [List.drop_eq_getElem_cons hk, List.set_append, if_neg (by omega), show k - O.length = 0 by omega, List.set_cons_zero, List.append_assoc]
  rfl
end Go.Proofs.Ytbegbdfbfbkflaa
/- The engine: the bytes of a string, in a row of its own. -/
namespace Go.Proofs.Ytbegbdfbfbkflaa
open Go.RowKit
set_option linter.unusedVariables false
set_option linter.unusedSimpArgs false
def mkY2 (g c : Nat) (w : World) : Ys := fun i => if i = 0 then ⟨none, g, w, 0⟩ else ⟨none, c, w, 0⟩
def zcs (L : List UInt8) (c : Nat) : List Value := byteVs L ++ List.replicate (c - L.length) (.int .u8 0)
theorem zcs_len (L : List UInt8) (c : Nat) (h : L.length ≤ c) : (zcs L c).length = c := by simp [zcs, byteVs]; omega
theorem zcs_set (L : List UInt8) (c j : Nat) (v : UInt8) (hj : j < L.length) : (zcs L c).set j (.int .u8 (v.toNat : Int)) = zcs (L.set j v) c := by
  unfold zcs
  rw [List.set_append_left _ _ (by simpa [byteVs] using hj), List.length_set]
  congr 1
  unfold byteVs
  rw [List.map_set]
/-- The zero value is the byte 0. -/
class ZB (P : Program) (e : TypeId) : Prop where h : (P.info? e).bind (·.zero) = some (.int .u8 0)
section
variable {P : Program} {N base : Nat} {w0 : World} {E : Env} {H : List HObj} {G : List World} {Q : Exit → Act → World → Prop} {o : Oper}
theorem rds_zrow {g e : Nat} {cs : List Value} {fz : Nat × Nat} (i : Nat) (hi : H[i]? = some (.zrow g e cs fz)) : Rds H G (ga g) cs := fun base w0 w hw j u hu => by
  have := (hw.own _ (List.mem_of_getElem? hi)).2
  refine ⟨_, rfl, ?_⟩
  rw [ga_add, cell_of_row _ _ j _ _ _ this]
  simpa using hu
theorem rds_zcs {g e c : Nat} {L : List UInt8} {fz : Nat × Nat} (i : Nat) (hi : H[i]? = some (.zrow g e (zcs L c) fz)) : Rds H G (ga g) (byteVs L) := fun base w0 w hw => by
  have h := (rds_zrow i hi base w0 w hw).take L.length
  have e : (zcs L c).take L.length = byteVs L := by
    unfold zcs
    rw [List.take_append_of_le_length (by simp [byteVs]), List.take_of_length_le (by simp [byteVs])]
  rwa [e] at h
theorem ms_bytes {x : Operand} {s t e : TypeId} {b : ByteArray} {sz bytes : Nat} [ht : EL P t e sz bytes] [hk : IK P e .u8] [hs : SS P s] (ho : o.op = .convert s t x) (hx : opd E x = some (.string b)) :
    MStep P E H G o (fun y => b.size ≤ (y 1).c) (fun y => .slice (ga (y 0).c) b.size (y 1).c) (fun y => .zrow (y 0).c e (zcs b.data.toList (y 1).c) ((y 1).c, (y 1).c + 1) :: H) (fun _ => G) := ms_of (v0 := undef) fun N base w0 a w he hw => by
  have hr := run_bytes_of_string (P := P) w s t e b hs.h ht.h.1 hk.h
  have hle : b.size ≤ grownCap w b.size 0 e := grownCap_ge w b.size 0 e
  have hbs : (bytesRow b (grownCap w b.size 0 e)) = (zcs b.data.toList (grownCap w b.size 0 e)).toArray := by
    apply Array.ext'
    simp [bytesRow, zcs, byteVs]
  have hsz : (bytesRow b (grownCap w b.size 0 e)).size = grownCap w b.size 0 e := by
    rw [hbs]; simp only [List.size_toArray]; exact zcs_len _ _ hle
  rw [hsz, hbs] at hr
  refine ⟨mkY2 w.heap.size (grownCap w b.size 0 e) w, w.drew.alloc (.cells (zcs b.data.toList (grownCap w b.size 0 e)).toArray e (grownCap w b.size 0 e, grownCap w b.size 0 e + 1)), hle, ?_, ?_⟩
  · simp only [execOp, ho, he.eval hx, Sem.run_bind, hr, Result.andThen_ok, Sem.run_pure]; rfl
  · exact hw.grow (Hn := [.zrow w.heap.size e _ _]) (Gn := []) (((Below.refl _ _).drew).alloc (Nat.le_refl _) _) (NewOk.one ⟨Nat.le_refl _, heap_alloc_new _ _⟩)
theorem ps_loadZ {x : Operand} {t g e c i : Nat} {L : List UInt8} {fz : Nat × Nat} (q : Nat) [hl : LD P t 1 false] (ho : o.op = .load t x) (hx : opd E x = some (pt (ga g) (i * 1))) (hi : H[q]? = some (.zrow g e (zcs L c) fz)) (hj : i < L.length) : PStep P E H G o (.int .u8 ((L.getD i 0).toNat : Int)) :=
  ps_load ho hx (Rds.cell (rds_zcs q hi) (by simp [byteVs, hj]))
theorem ms_setZ {x y : Operand} {t g e c i n : Nat} {L : List UInt8} {v : UInt8} (q : Nat) [hl : LD P t 1 false] (ho : o.op = .store t x y) (hx : opd E x = some (pt (ga g) (i * 1))) (hy : opd E y = some (.int .u8 (v.toNat : Int))) (hi : H[q]? = some (.zrow g e (zcs L c) (n, n + 1))) (hj : i < L.length) (hn : i < n) :
    MStep P E H G o (fun _ => True) (fun _ => undef) (fun _ => H.set q (.zrow g e (zcs (L.set i v) c) (n, n + 1))) (fun _ => G) := fun N base w0 a w Q K he hw hK => by
  obtain ⟨hb, hh⟩ := hw.own _ (List.mem_of_getElem? hi)
  have hlen : i < (zcs L c).length := by simp [zcs, byteVs]; omega
  have hadd : (⟨g, i * 1, none⟩ : Addr).add 0 = ⟨g, i, none⟩ := by unfold Addr.add; simp
  have hcell : w.cell? ⟨g, i, none⟩ = some (zcs L c)[i] := by simp [World.cell?, hh, hlen]
  have hfro : w.frozen? ⟨g, i, none⟩ = false := by simp [World.frozen?, hh]; omega
  have hst : (storeCells ⟨g, i * 1, none⟩ [.int .u8 (v.toNat : Int)] 0).run P w = .ok () (w.setRow g ((zcs L c).set i (.int .u8 (v.toNat : Int))).toArray) := by
    simp only [storeCells, Sem.run_bind]
    rw [hadd, run_store P w _ _ _ rfl, hcell]
    simp [hfro, setCell_eq_setRow w g i _ e _ _ hh]
  have hsz : (sizeOf t).run P w = .ok 1 w := by
    have h := hl.h
    unfold ldB at h
    split at h <;> first | (injection h with h; injection h with h1 h2; rename_i hi; simp [sizeOf, typeInfo, hi, h1]) | cases h
  have hrun : (execOp a.eval o).run P w = .ok .skip (w.setRow g ((zcs L c).set i (.int .u8 (v.toNat : Int))).toArray) := by
    simp only [Nat.mul_one] at hst
    simp [execOp, ho, he.eval hx, he.eval hy, pt, ga, Instr.storeAt, Instr.sureAddr, storeVar, hsz, Value.cells, ga_add, hst]
  rw [zcs_set L c i v hj] at hrun
  unfold Oper.wp; rw [hrun]
  refine hK (mkY none 0 w) _ trivial (hw.turn (x := .zrow g e _ _) hi (r := some g) ?_ (fun k hk => by cases hk; rfl) ⟨hb, setRow_heap w g _ _ e _ hh⟩ (fun j hj => .inl hj))
  exact ⟨rfl, rfl, rfl, by simp, fun j _ hj => setRow_other w g j _ (fun e => hj (by simp [e]))⟩
/-- Appending a string to bytes. -/
theorem run_appS {t u ty e n c base : Nat} {A : Option Addr} {us : List Value} {w : World} (hT : SlP P t e 1 1) (hz : (P.info? e).bind (·.zero) = some (.int .u8 0)) (hu : P.underlying u = some .string) (hown : Own w base e 1 A n c us) (s : ByteArray) (hb : n + s.size ≤ 140737488355328) (hbase : base ≤ w.heap.size) :
    ∃ A' c' w', (Builtin.append_ #[t, u] ty #[.slice A n c, .string s]).run P w = .ok (.slice A' (n + s.size) c') w' ∧ Own w' base e 1 A' (n + s.size) c' (us ++ byteVs s.data.toList) ∧ w.grownBy w' (blk A) ∧ (blk A' = blk A ∨ blk A' = some w.heap.size) := by
  obtain ⟨ht, _, i, z, hi, hzz, hs, hby, _⟩ := hT
  have hz' : i.zero = some (.int .u8 0) := by simpa [hi] using hz
  obtain ⟨v', w', hr, h2, h3, hiff⟩ := Lib.run_append_own_string (P := P) w base t u ty e i ht hu hi hz' hs hby (.slice A n c) n us hown s (by simp only [maxLen]; omega) hb hbase
  obtain ⟨A', c', rfl⟩ : ∃ A' c', v' = .slice A' (n + s.size) c' := by
    rcases h2.2 with ⟨hv, hn⟩ | ⟨g, cap, cur, hv, _⟩
    · exact ⟨none, 0, by rw [hv, hn]⟩
    · exact ⟨_, _, hv⟩
  rw [ownBlock_slice] at h3
  refine ⟨A', c', w', hr, h2, h3, ?_⟩
  rcases hown.2 with ⟨hv, hn⟩ | ⟨g, cap, cur, hv, hbg, hg, hnc, hcm, hcs, htk⟩
  · cases hv

    by_cases h0 : s.size = 0
    · have := hiff.2 ⟨rfl, h0⟩
      injection this with hA
      rw [hA]; exact .inl rfl
    · have hr2 := run_append_nil_string (P := P) w t u ty e i (.int .u8 0) ht hu hi hz' s (by omega) (by omega) (by rw [hby]; omega)
      simp only [Nat.zero_add] at hr
      rw [hr2] at hr
      injection hr with hr _
      injection hr with hr
      subst hr; exact .inr rfl
  · cases hv
    by_cases hroom : n + s.size ≤ c
    · have hr2 := Lib.run_append_room_string (P := P) w t u ty e i ht hu hi hs g n c cur hg s hroom (by simp at hcs; omega)
      rw [hr2] at hr
      injection hr with hr _
      injection hr with hr
      subst hr; exact .inl rfl
    · have holds : ∀ j v, us[j]? = some v → w.cell? ((⟨g, 0, none⟩ : Addr).add j) = some v := hown.cells (g := g) rfl
      have hl := hown.1
      have hr2 := Lib.run_append_grow_string (P := P) w t u ty e i (.int .u8 0) ht hu hi hz' ⟨g, 0, none⟩ n c us (by rw [hs]; exact hl) holds s (by omega) (by omega) (by rw [hby]; exact growslice_fits (by omega) (by omega))
      rw [hr2] at hr
      injection hr with hr _
      injection hr with hr
      subst hr; exact .inr rfl
theorem ms_appS {t u e n c : Nat} {A : Option Addr} {x y : Operand} {L : List UInt8} {s : ByteArray} (q : Nat) [ht : EL P t e 1 1] [hz : ZB P e] [hu : SS P u] (ho : o.op = .call { callee := .builtin .append, args := #[x, y], argTypes := #[t, u] })
    (hx : opd E x = some (.slice A n c)) (hy : opd E y = some (.string s)) (hi : H[q]? = some (.row e 1 A n c (byteVs L))) (hb : n + s.size ≤ 140737488355328) :
    MStep P E H G o (fun _ => True) (fun y => .slice (y 0).A (n + s.size) (y 0).c) (fun y => H.set q (.row e 1 (y 0).A (n + s.size) (y 0).c (byteVs (L ++ s.data.toList)))) (fun _ => G) := fun N base w0 a w Q K he hw hK => by
  have hzz := hz.h
  obtain ⟨A', c', w', hrun, h2, h3, h4⟩ := run_appS (ty := o.type) ht.h hzz hu.h (hw.own _ (List.mem_of_getElem? hi)) s hb hw.le
  have hr' : (execOp a.eval o).run P w = .ok (.value (.slice A' (n + s.size) c')) w' := by
    unfold execOp
    simp only [ho, resolve, invoke, builtin, Sem.run_bind, Sem.run_pure, Result.andThen_ok, List.map_toArray, List.map_cons, List.map_nil, he.eval hx, he.eval hy, hrun]
  have e2 : byteVs L ++ byteVs s.data.toList = byteVs (L ++ s.data.toList) := by simp [byteVs]
  rw [e2] at h2
  unfold Oper.wp; rw [hr']
  refine hK (mkY A' c' w) _ trivial (hw.turn (x := .row e 1 A n c _) hi h3 (fun k hk => hk) h2 fun k hk => ?_)
  rcases h4 with h4 | h4
  · exact .inl (h4.symm.trans hk)
  · right
    have : some k = some w.heap.size := hk.symm.trans h4
    cases this; exact Nat.le_refl _
end
end Go.Proofs.Ytbegbdfbfbkflaa
/- The engine: rows whose cells are all known, copies into them, rows grown by zeros; slices.overlaps. -/
namespace Go.Proofs.Ytbegbdfbfbkflaa
open Go.RowKit
set_option linter.unusedVariables false
set_option linter.unusedSimpArgs false
section
variable {base : Nat} {w0 w : World} {H : List HObj} {G : List World}
theorem WOk.rowBox {e sz n c : Nat} {A : Option Addr} {us : List Value} (hw : WOk base w0 (.row e sz A n c us :: H) G w) (h0 : 0 < n) : ∃ g cur, A = ga g ∧ cur.length = c * sz ∧ c ≤ maxLen ∧ n ≤ c ∧ cur.take (n * sz) = us ∧ WOk base w0 (.box g e cur :: H) G w := by
  obtain ⟨hlen, ⟨hA, hn0⟩ | ⟨g, cap, cur, hA, hb, hh, hnc, hcm, hcs, htk⟩⟩ := hw.own _ List.mem_cons_self
  · omega
  · injection hA with hA hA2 hA3
    subst hA; subst hA3
    refine ⟨g, cur.toList, rfl, by simpa using hcs, hcm, hnc, htk, ?_⟩
    exact hw.turn (i := 0) (x' := .box g e cur.toList) rfl (r := none) (World.grownBy.refl w _) (fun k hk => by cases hk) ⟨hb, by simpa using hh⟩ (fun k hk => .inl (by cases hk; rfl))
theorem WOk.boxRow {e sz n c g : Nat} {cs us : List Value} (hw : WOk base w0 (.box g e cs :: H) G w) (hcs : cs.length = c * sz) (hcm : c ≤ maxLen) (hn : n ≤ c) (hu : cs.take (n * sz) = us) : WOk base w0 (.row e sz (ga g) n c us :: H) G w := by
  obtain ⟨hb, hh⟩ := hw.own _ List.mem_cons_self
  have hl : n * sz ≤ c * sz := Nat.mul_le_mul_right _ hn
  refine hw.turn (i := 0) (x' := .row e sz (ga g) n c us) rfl (r := none) (World.grownBy.refl w _) (fun k hk => by cases hk) ⟨by rw [← hu, List.length_take, hcs]; omega, .inr ⟨g, c, cs.toArray, rfl, hb, hh, hn, hcm, by simpa using hcs, by simpa using hu⟩⟩ (fun k hk => .inl (by cases hk; rfl))
end
section
variable {P : Program} {N base : Nat} {w0 : World} {E : Env} {H : List HObj} {G : List World} {Q : Exit → Act → World → Prop} {o : Oper}
theorem rds_take {A : Option Addr} {us : List Value} (h : Rds H G A us) (k : Nat) : Rds H G A (us.take k) := fun base w0 w hw j u hu => by
  rw [List.getElem?_take] at hu
  split at hu
  · exact h base w0 w hw j u hu
  · cases hu
theorem first_of {A : Option Addr} {us : List Value} {w : World} {sz i c : Nat} (hr : Rd w A us) (hl : us.length = i * sz) (hs : 0 < sz) : (Builtin.firstCells sz i (.slice A i c)).run P w = .ok us.toArray w := by
  rcases A with _ | ad
  · have hn : us = [] := by
      rcases us with _ | ⟨u, l⟩
      · rfl
      · obtain ⟨ad, e, _⟩ := hr 0 u rfl; cases e
    subst hn; exact run_firstCells_none w sz i i c
  · exact run_firstCells_some w sz i ad i c us hl (fun j v hv => by obtain ⟨ad', e, h⟩ := hr j v hv; cases e; exact h)
theorem first_of' {A : Option Addr} {us : List Value} {w : World} {sz i n c : Nat} (hr : Rd w A us) (hl : us.length = i * sz) (hs : 0 < sz) (h0 : 0 < i) : (Builtin.firstCells sz i (.slice A n c)).run P w = .ok us.toArray w := by
  rcases A with _ | ad
  · have hp := Nat.mul_pos h0 hs
    rcases us with _ | ⟨u, l⟩
    · simp at hl; omega
    · obtain ⟨ad, e, _⟩ := hr 0 u rfl; cases e
  · exact run_firstCells_some w sz i ad n c us hl (fun j v hv => by obtain ⟨ad', e, h⟩ := hr j v hv; cases e; exact h)
def zz (z : List Value) (n : Nat) : List Value := (Builtin.zeroCells z.toArray n).toList
theorem zz_len (z : List Value) (n : Nat) : (zz z n).length = n * z.length := by simp [zz, Builtin.zeroCells]
/-- append of zeros where no room is: a new row, all of it known. -/
theorem ms_appZ {t tn e sz bytes i c n : Nat} {A : Option Addr} {x y' : Operand} {us z : List Value} {k kn : IntKind} [ht : EL P t e sz bytes] [hk : IK P tn kn] [hz : ZV P e z] (ho : o.op = .call { callee := .builtin .append, args := #[x, y'], argTypes := #[t, tn] })
    (hx : opd E x = some (.slice A i c)) (hy : opd E y' = some (.int k (n : Int))) (hr : Rds H G A us) (hl : us.length = i * sz) (h0 : 0 < n) (hg : c < i + n) (hb : (i + n) * bytes ≤ 140737488355328) (hm : i + n ≤ 140737488355328) :
    MStep P E H G o (fun y => i + n ≤ (y 1).c ∧ (y 1).c ≤ maxLen) (fun y => .slice (ga (y 0).c) (i + n) (y 1).c) (fun y => .box (y 0).c e ((us ++ zz z n) ++ zz z ((y 1).c - (i + n))) :: H) (fun _ => G) := fun N base w0 a w Q K he hw hK => by
  obtain ⟨hu, hz0, inf, zv, hi, hzv, hs, hby, hzs⟩ := ht.h
  have hz1 : zv.cells = z.toArray := by
    have := hz.h
    unfold zvB at this
    simpa [hi, hzv] using this
  have hold : (Builtin.firstCells inf.size i (.slice A i c)).run P w.drew = .ok us.toArray w.drew := by
    rw [hs]; exact first_of (hr base w0 w.drew hw.drew) hl hz0
  have hnb : n * inf.bytes ≤ 281474976710656 := by
    rw [hby]
    have : n * bytes ≤ (i + n) * bytes := Nat.mul_le_mul_right _ (by omega)
    omega
  have hrun := Lib.run_append_grow_zeros (P := P) w t tn o.type e inf zv k kn hu hk.h hi hzv A i c us hold n h0 (by omega) hg (by omega) hnb (by rw [hby]; exact growslice_fits hg hb)
  rw [hz1] at hrun
  have hr' : (execOp a.eval o).run P w = .ok (.value (.slice (some ⟨w.heap.size, 0, none⟩) (i + n) (grownCap w (i + n) c e))) (w.drew.alloc (.cells (((us ++ zz z n) ++ zz z (grownCap w (i + n) c e - (i + n))).toArray) e)) := by
    unfold execOp
    simp only [ho, resolve, invoke, builtin, Sem.run_bind, Sem.run_pure, Result.andThen_ok, List.map_toArray, List.map_cons, List.map_nil, he.eval hx, he.eval hy, hrun]
    congr 3
    congr 1
    apply Array.ext'
    simp [zz]
  unfold Oper.wp; rw [hr']
  exact hK (mkY2 w.heap.size (grownCap w (i + n) c e) w) _ ⟨grownCap_ge w _ _ _, grownCap_le_maxLen w _ _ _ (by unfold maxLen; omega)⟩ (wok_new (sz := sz) (n := n) hw.drew e _)
/-- copy into a block whose cells are all known. -/
theorem ms_copyB {t e sz bytes g q m c1 n2 c2 k : Nat} {A2 B : Option Addr} {x y : Operand} {cs us : List Value} (r : Nat) [ht : EL P t e sz bytes] (ho : o.op = .call { callee := .builtin .copy, args := #[x, y], argTypes := #[t, t] })
    (hx : opd E x = some (.slice B m c1)) (hB : B = (ga g).map (·.add (q * sz))) (hy : opd E y = some (.slice A2 n2 c2)) (hi : H[r]? = some (.box g e cs)) (hr : Rds H G A2 us) (hk : Nat.min n2 m = k) (hl : us.length = k * sz) (h1 : ∀ u ∈ us, u.oneCell' = true) (hfit : q * sz + us.length ≤ cs.length) (h0 : 0 < k) :
    MStep P E H G o (fun _ => True) (fun _ => .int .i64 (k : Int)) (fun _ => H.set r (.box g e (putC cs (q * sz) us))) (fun _ => G) := fun N base w0 a w Q K he hw hK => by
  obtain ⟨hb, hh⟩ := hw.own _ (List.mem_of_getElem? hi)
  obtain ⟨hu, hz0, inf, z, hii, hz, hss, hby, hzs⟩ := ht.h
  have hst := run_storeCells_at P g (q * sz) e us 0 cs.toArray w hh (by simpa using hfit) h1
  have hfc := first_of' (P := P) (n := n2) (c := c2) (hr base w0 w hw) hl hz0 h0
  simp only [Nat.add_zero] at hst
  have hBe : B = some ⟨g, q * sz, none⟩ := by
    rw [hB]; show some ((⟨g, 0, none⟩ : Addr).add (q * sz)) = _; rw [ga_add]
  subst hBe
  have hrun : (Builtin.copy_ #[t, t] o.type #[.slice (some ⟨g, q * sz, none⟩) m c1, .slice A2 n2 c2]).run P w = .ok (.int .i64 k) (w.setRow g (putC cs (q * sz) us).toArray) := by
    simp [Builtin.copy_, run_underlying hu, Builtin.lenOf, sizeOf, typeInfo, hii, hss, hk, hfc, hst, putC, goInt]
  have hr' : (execOp a.eval o).run P w = .ok (.value (.int .i64 k)) (w.setRow g (putC cs (q * sz) us).toArray) := by
    unfold execOp
    simp only [ho, resolve, invoke, builtin, Sem.run_bind, Sem.run_pure, Result.andThen_ok, List.map_toArray, List.map_cons, List.map_nil, he.eval hx, he.eval hy, hrun]
  unfold Oper.wp; rw [hr']
  refine hK (mkY none 0 w) _ trivial (hw.turn (x := .box g e cs) hi (r := some g) ?_ (fun k hk => by cases hk; rfl) ⟨hb, setRow_heap w g _ _ e _ hh⟩ (fun j hj => .inl hj))
  exact ⟨rfl, rfl, rfl, by simp, fun j _ hj => setRow_other w g j _ (fun e => hj (by simp [e]))⟩
theorem ps_capS {x : Operand} {t e sz bytes : TypeId} {A : Option Addr} {n c : Nat} [ht : EL P t e sz bytes] (ho : o.op = .call { callee := .builtin .cap, args := #[x], argTypes := #[t] }) (hx : opd E x = some (.slice A n c)) : PStep P E H G o (.int .i64 (c : Int)) := fun N base w0 a w he hw => by
  simp [execOp, ho, resolve, invoke, builtin, Builtin.cap_, he.eval hx, run_underlying ht.h.1, goInt]
end
/-- What an insertion leaves, in cells. -/
theorem putC_app (P Z X : List Value) : putC (P ++ Z) P.length X = P ++ X ++ Z.drop X.length := by
  unfold putC
  rw [List.take_left, List.drop_append, List.drop_of_length_le (by omega), List.nil_append, Nat.add_sub_cancel_left]
theorem ins_grow {P Z X D : List Value} {p x n : Nat} (hp : P.length = p) (hx : X.length = x) (hn : p + x + D.length = n) : (putC (putC (P ++ Z) p X) (p + x) D).take n = P ++ X ++ D := by
  subst hp hx hn
  rw [putC_app, show P.length + X.length = (P ++ X).length by rw [List.length_append], putC_app]
  exact List.take_left' (by rw [List.length_append])
theorem ins_place {C P X D : List Value} {p x n : Nat} (hP : C.take p = P) (hp : p + x + D.length ≤ C.length) (hx : X.length = x) (hn : p + x + D.length = n) : (putC (putC C (p + x) D) p X).take n = P ++ X ++ D := by
  subst hx hn
  have hpl : P.length = p := by rw [← hP, List.length_take]; omega
  have e0 : C = P ++ C.drop p := by rw [← hP, List.take_append_drop]
  have e1 : putC C (p + X.length) D = P ++ ((C.drop p).take X.length ++ D ++ C.drop (p + X.length + D.length)) := by
    unfold putC
    rw [List.take_add, hP]
    simp only [List.append_assoc]
  subst hpl
  rw [e1, putC_app]
  have e2 : ((C.drop P.length).take X.length ++ D ++ C.drop (P.length + X.length + D.length)).drop X.length = D ++ C.drop (P.length + X.length + D.length) := by
    rw [List.append_assoc]
    exact List.drop_left' (by rw [List.length_take, List.length_drop]; omega)
  rw [e2, ← List.append_assoc]
  exact List.take_left' (by simp only [List.length_append])
end Go.Proofs.Ytbegbdfbfbkflaa
/- slices.Grow of nil, slices.Concat of rows of Ent. -/
namespace Go.Proofs.Ytbegbdfbfbkflaa
open Go.RowKit
set_option maxHeartbeats 4000000
set_option maxRecDepth 20000
set_option linter.unusedVariables false
set_option linter.unusedSimpArgs false
attribute [local irreducible] Calls
theorem growEnt_c (n : Nat) (hn : n ≤ 4194304) (w : World) :
    Calls Try.prog 237 #[.slice none 0 0, .int .i64 (n : Int)] w fun e w' => ∃ y : Ys, e = .returned (.slice (y 0).A 0 (y 0).c) ∧ True ∧ Below w.heap.size w w' ∧ NewOk w.heap.size [.row 71 4 (y 0).A 0 (y 0).c []] [] w' := by
  refine ok_enter 27 Try.func237 rfl rfl rfl ?_
  repeat' (first
    | refine ok_seq ?_
    | refine ok_then ?_
    | refine ok_then_ret ?_
    | refine ok_then_exit ?_
    | refine ok_block ?_
    | refine ok_in_normal ?_
    | refine ok_in_ret ?_
    | refine ok_in_exit ?_
    | refine ok_in_other rfl ?_
    | (refine ok_cond rfl (fun hc => ?_) (fun hc => ?_) <;> (have hd := hc; (try simp only [decide_eq_true_eq, decide_eq_false_iff_not, Bool.or_eq_true, Bool.or_eq_false_iff, Bool.and_eq_true, Bool.and_eq_false_iff, Bool.not_eq_true', Bool.not_eq_false', bne_iff_ne, beq_iff_eq, bne_eq_false_iff_eq, beq_eq_false_iff_ne, ne_eq, Bool.not_true, Bool.not_false, Bool.false_eq_true, Bool.true_eq_false, inB_true, inB_false] at hd)))
    | refine ok_ret ?_
    | refine ok_exit ?_
    | refine ok_skip ?_
    | (refine ok_region (i := 0) ?_; refine ok_p rfl rfl rfl (by exact ps_assign rfl rfl) ?_; refine ok_nil ?_; refine ok_env [(0, _), (1, _)] ⟨rfl, rfl, trivial⟩ ?_)
    | (refine ok_region (i := 1) ?_; refine ok_p rfl rfl rfl (by exact ps_move rfl rfl) ?_; refine ok_p rfl rfl rfl (by exact ps_int rfl rfl rfl rfl) ?_; refine ok_nil ?_; refine ok_env [(0, _), (1, _), (6, _)] ⟨rfl, rfl, rfl, trivial⟩ ?_)
    | (refine ok_region (i := 2) ?_; refine ok_p rfl rfl rfl (by fail "no rule makeInterface") ?_; refine ok_p rfl rfl rfl (by fail "no rule panic") ?_; refine ok_nil ?_; refine ok_env [(0, _), (1, _)] ⟨rfl, rfl, trivial⟩ ?_)
    | (refine ok_region (i := 3) ?_; refine ok_p rfl rfl rfl (by exact ps_move rfl rfl) ?_; refine ok_p rfl rfl rfl (by exact ps_move rfl rfl) ?_; refine ok_p rfl rfl rfl (by first | exact ps_capS rfl rfl | exact ps_cap rfl rfl rfl) ?_; refine ok_p rfl rfl rfl (by exact ps_move rfl rfl) ?_; refine ok_p rfl rfl rfl (by exact ps_len rfl rfl) ?_; refine ok_p rfl rfl rfl (by first | exact ps_cast (v' := .int .i64 0) (ps_sub rfl rfl rfl (by omega)) (congrArg (Value.int .i64) (by omega)) | exact ps_sub rfl rfl rfl (by omega)) ?_; refine ok_p rfl rfl rfl (by first | exact ps_cast (v' := .int .i64 (n : Int)) (ps_sub rfl rfl rfl (by omega)) (congrArg (Value.int .i64) (by omega)) | exact ps_sub rfl rfl rfl (by omega)) ?_; refine ok_p rfl rfl rfl (by exact ps_assign rfl rfl) ?_; refine ok_nil ?_; refine ok_env [(0, _), (1, _)] ⟨rfl, rfl, trivial⟩ ?_)
    | (refine ok_region (i := 4) ?_; refine ok_p rfl rfl rfl (by exact ps_move rfl rfl) ?_; refine ok_p rfl rfl rfl (by exact ps_int rfl rfl rfl rfl) ?_; refine ok_nil ?_; refine ok_env [(0, _), (1, _), (16, _)] ⟨rfl, rfl, rfl, trivial⟩ ?_)
    | (refine ok_region (i := 5) ?_; refine ok_p rfl rfl rfl (by exact ps_move rfl rfl) ?_; refine ok_p rfl rfl rfl (by exact ps_move rfl rfl) ?_; refine ok_p rfl rfl rfl (by first | exact ps_capS rfl rfl | exact ps_cap rfl rfl rfl) ?_; refine ok_p rfl rfl rfl (by exact ps_slice0 (h := 0) rfl rfl rfl (by omega) (by omega)) ?_; refine ok_p rfl rfl rfl (by exact ps_move rfl rfl) ?_; refine ok_m rfl rfl rfl (by exact ms_appZ (us := []) (i := 0) (n := n) rfl rfl rfl (fun _ _ w _ => Rd.nil w _) rfl (by omega) (by omega) (by omega) (by omega)) ?_; rintro y22 hy22; refine ok_p rfl rfl rfl (by exact ps_move rfl rfl) ?_; refine ok_p rfl rfl rfl (by exact ps_len rfl rfl) ?_; refine ok_p rfl rfl rfl (by exact ps_slice0 (h := 0) rfl rfl rfl (by omega) (by omega)) ?_; refine ok_p rfl rfl rfl (by exact ps_assign rfl rfl) ?_; refine ok_nil ?_; refine ok_env [(0, _)] ⟨rfl, trivial⟩ ?_)
    | (refine ok_region (i := 6) ?_; refine ok_p rfl rfl rfl (by exact ps_move rfl rfl) ?_; refine ok_p rfl rfl rfl (by exact ps_assign rfl rfl) ?_; refine ok_nil ?_; refine ok_env [(4, _)] ⟨rfl, trivial⟩ ?_))
  · exfalso; omega
  · refine ok_endL (vs := [_]) rfl ⟨rfl, trivial⟩ (fun w' hw => ⟨mkY (ga (y22 0).c) (y22 1).c w', rfl, trivial, hw.below, ?_⟩)
    obtain ⟨q1, q2⟩ := hy22
    refine NewOk.of (G := []) ((hw.boxRow (n := 0) (c := (y22 1).c) (us := []) (sz := 4) ?_ q2 (Nat.zero_le _) (by simp)).sel [0] (by decide) rfl (fun _ h => by cases h))
    simp only [List.length_append, zz_len, List.length_cons, List.length_nil]
    omega
  · exact ok_endL (vs := [_]) rfl ⟨rfl, trivial⟩ (fun w' hw => ⟨mkY none 0 w', rfl, trivial, hw.below, NewOk.one (Own.nil w' _ _ _)⟩)
theorem offEnt_succ (R : List (Lc (List Ent))) (i : Nat) (h : i < R.length) : offR List.length (dats R) (i + 1) = offR List.length (dats R) i + (nth R i).d.length := by
  rw [nthL R i h]
  have hd : i < (dats R).length := by rw [dats_len]; exact h
  unfold offR
  rw [List.take_succ_eq_append_getElem hd, List.map_append, List.sum_append]
  simp [dats]
theorem catEnt_step (R : List (Lc (List Ent))) (i : Nat) (h : i < R.length) : ((dats R).take (i + 1)).flatten = ((dats R).take i).flatten ++ (nth R i).d := by
  rw [nthL R i h]
  have hd : i < (dats R).length := by rw [dats_len]; exact h
  rw [List.take_succ_eq_append_getElem hd, List.flatten_append]
  simp [dats]
theorem catEnt_len (x : List (List Ent)) (i : Nat) : ((x.take i).flatten).length = offR List.length x i := by
  unfold offR; rw [List.length_flatten]
theorem concatEnt_c (A : Option Addr) (c : Nat) (R : List (Lc (List Ent))) (w : World) (h : RdN w A R) (hl : R.length ≤ 4194304) (ht : ∀ k, offR List.length (dats R) k ≤ 4194304) :
    Calls Try.prog 203 #[.slice A R.length c] w fun e w' => ∃ y : Ys, e = .returned (.slice (y 0).A ((dats R).flatten).length (y 0).c) ∧ True ∧ Below w.heap.size w w' ∧ NewOk w.heap.size [.row 71 4 (y 0).A ((dats R).flatten).length (y 0).c (fl (dats R).flatten)] [] w' := by
  obtain ⟨h1, h2⟩ := h
  have H2 := Lib.hid h2; clear h2
  have HT := Lib.hid ht; clear ht
  refine ok_enter 36 Try.func203 rfl rfl rfl ?_
  repeat' (first
    | refine ok_seq ?_
    | refine ok_then ?_
    | refine ok_then_ret ?_
    | refine ok_then_exit ?_
    | refine ok_block ?_
    | refine ok_in_normal ?_
    | refine ok_in_ret ?_
    | refine ok_in_exit ?_
    | refine ok_in_other rfl ?_
    | (refine ok_cond rfl (fun hc => ?_) (fun hc => ?_) <;> (have hd := hc; (try simp only [decide_eq_true_eq, decide_eq_false_iff_not, Bool.or_eq_true, Bool.or_eq_false_iff, Bool.and_eq_true, Bool.and_eq_false_iff, Bool.not_eq_true', Bool.not_eq_false', bne_iff_ne, beq_iff_eq, bne_eq_false_iff_eq, beq_eq_false_iff_ne, ne_eq, Bool.not_true, Bool.not_false, Bool.false_eq_true, Bool.true_eq_false, inB_true, inB_false] at hd)))
    | refine ok_ret ?_
    | refine ok_exit ?_
    | refine ok_skip ?_
    | (refine ok_region (i := 0) ?_; refine ok_p rfl rfl rfl (by exact ps_assign rfl rfl) ?_; refine ok_nil ?_; refine ok_env [(0, _)] ⟨rfl, trivial⟩ ?_)
    | (refine ok_region (i := 1) ?_; refine ok_p rfl rfl rfl (by exact ps_assign rfl rfl) ?_; refine ok_nil ?_; refine ok_env [(0, _), (3, _)] ⟨rfl, rfl, trivial⟩ ?_)
    | (refine ok_region (i := 2) ?_; refine ok_p rfl rfl rfl (by exact ps_move rfl rfl) ?_; refine ok_p rfl rfl rfl (by exact ps_len rfl rfl) ?_; refine ok_p rfl rfl rfl (by exact ps_move rfl rfl) ?_; refine ok_nil ?_; refine ok_env [(0, _), (3, _), (9, _), (10, _), (11, _)] ⟨rfl, rfl, rfl, rfl, rfl, trivial⟩ ?_)
    | (refine ok_region (i := 3) ?_; refine ok_p rfl rfl rfl (by exact ps_int rfl rfl rfl rfl) ?_; refine ok_nil ?_; refine ok_env [(0, _), (3, _), (9, _), (10, _), (11, _), (12, _)] ⟨rfl, rfl, rfl, rfl, rfl, rfl, trivial⟩ ?_)
    | (refine ok_region (i := 4) ?_; refine ok_p rfl rfl rfl (by first | exact ps_indexN rfl rfl rfl (by omega) (by first | exact isw_ga _ | exact isw_some _ | exact isw_row 0 rfl (by omega) | exact isw_row 1 rfl (by omega) | exact isw_row 2 rfl (by omega) | exact isw_row 3 rfl (by omega) | exact isw_row 4 rfl (by omega) | exact isw_row 5 rfl (by omega) | exact isw_row 6 rfl (by omega) | exact isw_row 7 rfl (by omega) | exact isw_row 8 rfl (by omega) | exact isw_of (isS_fl (by assumption) (by omega)) | exact isw_of (by assumption)) | exact ps_index rfl rfl rfl (by omega) (by first | exact isw_ga _ | exact isw_some _ | exact isw_row 0 rfl (by omega) | exact isw_row 1 rfl (by omega) | exact isw_row 2 rfl (by omega) | exact isw_row 3 rfl (by omega) | exact isw_row 4 rfl (by omega) | exact isw_row 5 rfl (by omega) | exact isw_row 6 rfl (by omega) | exact isw_row 7 rfl (by omega) | exact isw_row 8 rfl (by omega) | exact isw_of (isS_fl (by assumption) (by omega)) | exact isw_of (by assumption))) ?_; refine ok_p rfl rfl rfl (by exact ps_load rfl rfl (by first | exact Rds.cell (rds_box 0 rfl) rfl | exact Rds.cell (rds_box 1 rfl) rfl | exact Rds.cell (rds_box 2 rfl) rfl | exact Rds.cell (rds_box 3 rfl) rfl | exact Rds.cell (rds_box 4 rfl) rfl | exact Rds.cell (rds_box 5 rfl) rfl | exact Rds.cell (rds_box 6 rfl) rfl | exact Rds.cell (rds_box 7 rfl) rfl | exact Rds.cell (rds_box 8 rfl) rfl | exact Rds.cell (rds_box 9 rfl) rfl | exact Rds.cell (rds_box 10 rfl) rfl | exact Rds.cell (rds_box 11 rfl) rfl | exact Rds.cell (rds_box 12 rfl) rfl | exact Rds.cell (rds_box 13 rfl) rfl | exact Rds.cell (rds_box 14 rfl) rfl | exact Rds.cell (rds_box 15 rfl) rfl | exact Rds.cell (rds_box 16 rfl) rfl | exact Rds.cell (rds_box 17 rfl) rfl | exact Rds.cell (rds_box 18 rfl) rfl | exact Rds.cell (rds_box 19 rfl) rfl | exact Rds.cell (rds_box 20 rfl) rfl | exact Rds.cell (rds_box 21 rfl) rfl | exact Rds.cell (rds_box 22 rfl) rfl | exact Rds.cell (rds_box 23 rfl) rfl | exact Rds.cell (rds_rf (by assumption) (by first | exact List.mem_cons_self | exact List.mem_cons_of_mem _ List.mem_cons_self | simp)) (by first | exact fl_at0 _ _ (by omega) (by decide) | exact fl_at _ _ _ (by omega) (by decide)) | exact Rds.cell (rds_row 0 rfl) (by first | exact fl_at0 _ _ (by omega) (by decide) | exact fl_at _ _ _ (by omega) (by decide)) | exact Rds.cell (rds_row 1 rfl) (by first | exact fl_at0 _ _ (by omega) (by decide) | exact fl_at _ _ _ (by omega) (by decide)) | exact Rds.cell (rds_row 2 rfl) (by first | exact fl_at0 _ _ (by omega) (by decide) | exact fl_at _ _ _ (by omega) (by decide)) | exact Rds.cell (rds_row 3 rfl) (by first | exact fl_at0 _ _ (by omega) (by decide) | exact fl_at _ _ _ (by omega) (by decide)) | exact Rds.cell (rds_row 4 rfl) (by first | exact fl_at0 _ _ (by omega) (by decide) | exact fl_at _ _ _ (by omega) (by decide)) | exact Rds.cell (rds_row 5 rfl) (by first | exact fl_at0 _ _ (by omega) (by decide) | exact fl_at _ _ _ (by omega) (by decide)) | exact Rds.cell (rds_row 6 rfl) (by first | exact fl_at0 _ _ (by omega) (by decide) | exact fl_at _ _ _ (by omega) (by decide)) | exact Rds.cell (rds_row 7 rfl) (by first | exact fl_at0 _ _ (by omega) (by decide) | exact fl_at _ _ _ (by omega) (by decide)) | exact Rds.cell (rds_row 8 rfl) (by first | exact fl_at0 _ _ (by omega) (by decide) | exact fl_at _ _ _ (by omega) (by decide)) | exact Rds.cell (rds_row 9 rfl) (by first | exact fl_at0 _ _ (by omega) (by decide) | exact fl_at _ _ _ (by omega) (by decide)))) ?_; refine ok_p rfl rfl rfl (by exact ps_assign rfl rfl) ?_; refine ok_nil ?_; refine ok_env [(0, _), (3, _), (5, _), (9, _), (10, _), (11, _)] ⟨rfl, rfl, rfl, rfl, rfl, rfl, trivial⟩ ?_)
    | (refine ok_region (i := 5) ?_; refine ok_p rfl rfl rfl (by exact ps_move rfl rfl) ?_; refine ok_p rfl rfl rfl (by exact ps_move rfl rfl) ?_; refine ok_p rfl rfl rfl (by exact ps_len rfl rfl) ?_; refine ok_p rfl rfl rfl (by exact ps_add rfl rfl rfl (by omega)) ?_; refine ok_p rfl rfl rfl (by exact ps_assign rfl rfl) ?_; refine ok_nil ?_; refine ok_env [(0, _), (3, _), (9, _), (10, _), (11, _)] ⟨rfl, rfl, rfl, rfl, rfl, trivial⟩ ?_)
    | (refine ok_region (i := 6) ?_; refine ok_p rfl rfl rfl (by exact ps_move rfl rfl) ?_; refine ok_p rfl rfl rfl (by exact ps_int rfl rfl rfl rfl) ?_; refine ok_nil ?_; refine ok_env [(0, _), (3, _), (9, _), (10, _), (11, _), (20, _)] ⟨rfl, rfl, rfl, rfl, rfl, rfl, trivial⟩ ?_)
    | (refine ok_region (i := 7) ?_; refine ok_p rfl rfl rfl (by fail "no rule makeInterface") ?_; refine ok_p rfl rfl rfl (by fail "no rule panic") ?_; refine ok_nil ?_; refine ok_env [(0, _), (3, _), (9, _), (10, _), (11, _)] ⟨rfl, rfl, rfl, rfl, rfl, trivial⟩ ?_)
    | (refine ok_region (i := 8) ?_; refine ok_p rfl rfl rfl (by exact ps_add rfl rfl rfl (by omega)) ?_; refine ok_p rfl rfl rfl (by exact ps_move rfl rfl) ?_; refine ok_nil ?_; refine ok_env [(0, _), (3, _), (9, _), (10, _), (11, _)] ⟨rfl, rfl, rfl, rfl, rfl, trivial⟩ ?_)
    | (refine ok_region (i := 9) ?_; refine ok_p rfl rfl rfl (by exact ps_move rfl rfl) ?_; refine ok_m rfl rfl rfl (by fail "no maker call") ?_; rintro y24 hy24; refine ok_p rfl rfl rfl (by exact ps_assign rfl rfl) ?_; refine ok_nil ?_; refine ok_env [(0, _), (6, _)] ⟨rfl, rfl, trivial⟩ ?_)
    | (refine ok_region (i := 10) ?_; refine ok_p rfl rfl rfl (by exact ps_move rfl rfl) ?_; refine ok_p rfl rfl rfl (by exact ps_len rfl rfl) ?_; refine ok_p rfl rfl rfl (by exact ps_move rfl rfl) ?_; refine ok_nil ?_; refine ok_env [(6, _), (25, _), (26, _), (27, _)] ⟨rfl, rfl, rfl, rfl, trivial⟩ ?_)
    | (refine ok_region (i := 11) ?_; refine ok_p rfl rfl rfl (by exact ps_int rfl rfl rfl rfl) ?_; refine ok_nil ?_; refine ok_env [(6, _), (25, _), (26, _), (27, _), (28, _)] ⟨rfl, rfl, rfl, rfl, rfl, trivial⟩ ?_)
    | (refine ok_region (i := 12) ?_; refine ok_p rfl rfl rfl (by first | exact ps_indexN rfl rfl rfl (by omega) (by first | exact isw_ga _ | exact isw_some _ | exact isw_row 0 rfl (by omega) | exact isw_row 1 rfl (by omega) | exact isw_row 2 rfl (by omega) | exact isw_row 3 rfl (by omega) | exact isw_row 4 rfl (by omega) | exact isw_row 5 rfl (by omega) | exact isw_row 6 rfl (by omega) | exact isw_row 7 rfl (by omega) | exact isw_row 8 rfl (by omega) | exact isw_of (isS_fl (by assumption) (by omega)) | exact isw_of (by assumption)) | exact ps_index rfl rfl rfl (by omega) (by first | exact isw_ga _ | exact isw_some _ | exact isw_row 0 rfl (by omega) | exact isw_row 1 rfl (by omega) | exact isw_row 2 rfl (by omega) | exact isw_row 3 rfl (by omega) | exact isw_row 4 rfl (by omega) | exact isw_row 5 rfl (by omega) | exact isw_row 6 rfl (by omega) | exact isw_row 7 rfl (by omega) | exact isw_row 8 rfl (by omega) | exact isw_of (isS_fl (by assumption) (by omega)) | exact isw_of (by assumption))) ?_; refine ok_p rfl rfl rfl (by exact ps_load rfl rfl (by first | exact Rds.cell (rds_box 0 rfl) rfl | exact Rds.cell (rds_box 1 rfl) rfl | exact Rds.cell (rds_box 2 rfl) rfl | exact Rds.cell (rds_box 3 rfl) rfl | exact Rds.cell (rds_box 4 rfl) rfl | exact Rds.cell (rds_box 5 rfl) rfl | exact Rds.cell (rds_box 6 rfl) rfl | exact Rds.cell (rds_box 7 rfl) rfl | exact Rds.cell (rds_box 8 rfl) rfl | exact Rds.cell (rds_box 9 rfl) rfl | exact Rds.cell (rds_box 10 rfl) rfl | exact Rds.cell (rds_box 11 rfl) rfl | exact Rds.cell (rds_box 12 rfl) rfl | exact Rds.cell (rds_box 13 rfl) rfl | exact Rds.cell (rds_box 14 rfl) rfl | exact Rds.cell (rds_box 15 rfl) rfl | exact Rds.cell (rds_box 16 rfl) rfl | exact Rds.cell (rds_box 17 rfl) rfl | exact Rds.cell (rds_box 18 rfl) rfl | exact Rds.cell (rds_box 19 rfl) rfl | exact Rds.cell (rds_box 20 rfl) rfl | exact Rds.cell (rds_box 21 rfl) rfl | exact Rds.cell (rds_box 22 rfl) rfl | exact Rds.cell (rds_box 23 rfl) rfl | exact Rds.cell (rds_rf (by assumption) (by first | exact List.mem_cons_self | exact List.mem_cons_of_mem _ List.mem_cons_self | simp)) (by first | exact fl_at0 _ _ (by omega) (by decide) | exact fl_at _ _ _ (by omega) (by decide)) | exact Rds.cell (rds_row 0 rfl) (by first | exact fl_at0 _ _ (by omega) (by decide) | exact fl_at _ _ _ (by omega) (by decide)) | exact Rds.cell (rds_row 1 rfl) (by first | exact fl_at0 _ _ (by omega) (by decide) | exact fl_at _ _ _ (by omega) (by decide)) | exact Rds.cell (rds_row 2 rfl) (by first | exact fl_at0 _ _ (by omega) (by decide) | exact fl_at _ _ _ (by omega) (by decide)) | exact Rds.cell (rds_row 3 rfl) (by first | exact fl_at0 _ _ (by omega) (by decide) | exact fl_at _ _ _ (by omega) (by decide)) | exact Rds.cell (rds_row 4 rfl) (by first | exact fl_at0 _ _ (by omega) (by decide) | exact fl_at _ _ _ (by omega) (by decide)) | exact Rds.cell (rds_row 5 rfl) (by first | exact fl_at0 _ _ (by omega) (by decide) | exact fl_at _ _ _ (by omega) (by decide)) | exact Rds.cell (rds_row 6 rfl) (by first | exact fl_at0 _ _ (by omega) (by decide) | exact fl_at _ _ _ (by omega) (by decide)) | exact Rds.cell (rds_row 7 rfl) (by first | exact fl_at0 _ _ (by omega) (by decide) | exact fl_at _ _ _ (by omega) (by decide)) | exact Rds.cell (rds_row 8 rfl) (by first | exact fl_at0 _ _ (by omega) (by decide) | exact fl_at _ _ _ (by omega) (by decide)) | exact Rds.cell (rds_row 9 rfl) (by first | exact fl_at0 _ _ (by omega) (by decide) | exact fl_at _ _ _ (by omega) (by decide)))) ?_; refine ok_p rfl rfl rfl (by exact ps_assign rfl rfl) ?_; refine ok_nil ?_; refine ok_env [(6, _), (8, _), (25, _), (26, _), (27, _)] ⟨rfl, rfl, rfl, rfl, rfl, trivial⟩ ?_)
    | (refine ok_region (i := 13) ?_; refine ok_p rfl rfl rfl (by exact ps_move rfl rfl) ?_; refine ok_p rfl rfl rfl (by exact ps_move rfl rfl) ?_; refine ok_m rfl rfl rfl (by fail "no maker call") ?_; rintro y33 hy33; refine ok_p rfl rfl rfl (by exact ps_assign rfl rfl) ?_; refine ok_nil ?_; refine ok_env [(6, _), (25, _), (26, _), (27, _)] ⟨rfl, rfl, rfl, rfl, trivial⟩ ?_)
    | (refine ok_region (i := 14) ?_; refine ok_p rfl rfl rfl (by exact ps_add rfl rfl rfl (by omega)) ?_; refine ok_p rfl rfl rfl (by exact ps_move rfl rfl) ?_; refine ok_nil ?_; refine ok_env [(6, _), (25, _), (26, _), (27, _)] ⟨rfl, rfl, rfl, rfl, trivial⟩ ?_)
    | (refine ok_region (i := 15) ?_; refine ok_p rfl rfl rfl (by exact ps_move rfl rfl) ?_; refine ok_p rfl rfl rfl (by exact ps_assign rfl rfl) ?_; refine ok_nil ?_; refine ok_env [(2, _)] ⟨rfl, trivial⟩ ?_))
  refine ok_loop (ι := { k : Nat // k ≤ R.length }) (fun k => R.length - k.1) (fun k => ([(0, .slice A R.length c), (3, .int .i64 (offR List.length (dats R) k.1 : Int)), (9, .slice A R.length c), (10, .int .i64 R.length), (11, .int .i64 k.1)], [], _)) ⟨0, by omega⟩ (fun a w he hw => ⟨⟨0, by omega⟩, he.sub ⟨rfl, rfl, rfl, rfl, rfl, trivial⟩, hw⟩) ?_
  rintro ⟨k, hk⟩
  simp only at hk ⊢
  have ho := HT.out k
  have ho1 : k < R.length → offR List.length (dats R) k + (nth R k).d.length ≤ 4194304 := fun h => by rw [← offEnt_succ R k h]; exact HT.out (k + 1)
  repeat' (first
    | refine ok_seq ?_
    | refine ok_then ?_
    | refine ok_then_ret ?_
    | refine ok_then_exit ?_
    | refine ok_block ?_
    | refine ok_in_normal ?_
    | refine ok_in_ret ?_
    | refine ok_in_exit ?_
    | refine ok_in_other rfl ?_
    | (refine ok_cond rfl (fun hc => ?_) (fun hc => ?_) <;> (have hd := hc; (try simp only [decide_eq_true_eq, decide_eq_false_iff_not, Bool.or_eq_true, Bool.or_eq_false_iff, Bool.and_eq_true, Bool.and_eq_false_iff, Bool.not_eq_true', Bool.not_eq_false', bne_iff_ne, beq_iff_eq, bne_eq_false_iff_eq, beq_eq_false_iff_ne, ne_eq, Bool.not_true, Bool.not_false, Bool.false_eq_true, Bool.true_eq_false, inB_true, inB_false] at hd)))
    | refine ok_ret ?_
    | refine ok_exit ?_
    | refine ok_skip ?_
    | (refine ok_region (i := 0) ?_; refine ok_p rfl rfl rfl (by exact ps_assign rfl rfl) ?_; refine ok_nil ?_; refine ok_env [(0, _)] ⟨rfl, trivial⟩ ?_)
    | (refine ok_region (i := 1) ?_; refine ok_p rfl rfl rfl (by exact ps_assign rfl rfl) ?_; refine ok_nil ?_; refine ok_env [(0, _), (3, _)] ⟨rfl, rfl, trivial⟩ ?_)
    | (refine ok_region (i := 2) ?_; refine ok_p rfl rfl rfl (by exact ps_move rfl rfl) ?_; refine ok_p rfl rfl rfl (by exact ps_len rfl rfl) ?_; refine ok_p rfl rfl rfl (by exact ps_move rfl rfl) ?_; refine ok_nil ?_; refine ok_env [(0, _), (3, _), (9, _), (10, _), (11, _)] ⟨rfl, rfl, rfl, rfl, rfl, trivial⟩ ?_)
    | (refine ok_region (i := 3) ?_; refine ok_p rfl rfl rfl (by exact ps_int rfl rfl rfl rfl) ?_; refine ok_nil ?_; refine ok_env [(0, _), (3, _), (9, _), (10, _), (11, _), (12, _)] ⟨rfl, rfl, rfl, rfl, rfl, rfl, trivial⟩ ?_)
    | (refine ok_region (i := 4) ?_; refine ok_p rfl rfl rfl (by first | exact ps_indexN rfl rfl rfl (by omega) (by first | exact isw_ga _ | exact isw_some _ | exact isw_row 0 rfl (by omega) | exact isw_row 1 rfl (by omega) | exact isw_row 2 rfl (by omega) | exact isw_row 3 rfl (by omega) | exact isw_row 4 rfl (by omega) | exact isw_row 5 rfl (by omega) | exact isw_row 6 rfl (by omega) | exact isw_row 7 rfl (by omega) | exact isw_row 8 rfl (by omega) | exact isw_of (isS_fl (by assumption) (by omega)) | exact isw_of (by assumption)) | exact ps_index rfl rfl rfl (by omega) (by first | exact isw_ga _ | exact isw_some _ | exact isw_row 0 rfl (by omega) | exact isw_row 1 rfl (by omega) | exact isw_row 2 rfl (by omega) | exact isw_row 3 rfl (by omega) | exact isw_row 4 rfl (by omega) | exact isw_row 5 rfl (by omega) | exact isw_row 6 rfl (by omega) | exact isw_row 7 rfl (by omega) | exact isw_row 8 rfl (by omega) | exact isw_of (isS_fl (by assumption) (by omega)) | exact isw_of (by assumption))) ?_; refine ok_p rfl rfl rfl (by exact ps_load rfl rfl (by first | exact Rds.cell (rds_box 0 rfl) rfl | exact Rds.cell (rds_box 1 rfl) rfl | exact Rds.cell (rds_box 2 rfl) rfl | exact Rds.cell (rds_box 3 rfl) rfl | exact Rds.cell (rds_box 4 rfl) rfl | exact Rds.cell (rds_box 5 rfl) rfl | exact Rds.cell (rds_box 6 rfl) rfl | exact Rds.cell (rds_box 7 rfl) rfl | exact Rds.cell (rds_box 8 rfl) rfl | exact Rds.cell (rds_box 9 rfl) rfl | exact Rds.cell (rds_box 10 rfl) rfl | exact Rds.cell (rds_box 11 rfl) rfl | exact Rds.cell (rds_box 12 rfl) rfl | exact Rds.cell (rds_box 13 rfl) rfl | exact Rds.cell (rds_box 14 rfl) rfl | exact Rds.cell (rds_box 15 rfl) rfl | exact Rds.cell (rds_box 16 rfl) rfl | exact Rds.cell (rds_box 17 rfl) rfl | exact Rds.cell (rds_box 18 rfl) rfl | exact Rds.cell (rds_box 19 rfl) rfl | exact Rds.cell (rds_box 20 rfl) rfl | exact Rds.cell (rds_box 21 rfl) rfl | exact Rds.cell (rds_box 22 rfl) rfl | exact Rds.cell (rds_box 23 rfl) rfl | exact Rds.cell (rds_rf (by assumption) (by first | exact List.mem_cons_self | exact List.mem_cons_of_mem _ List.mem_cons_self | simp)) (by first | exact fl_at0 _ _ (by omega) (by decide) | exact fl_at _ _ _ (by omega) (by decide)) | exact Rds.cell (rds_row 0 rfl) (by first | exact fl_at0 _ _ (by omega) (by decide) | exact fl_at _ _ _ (by omega) (by decide)) | exact Rds.cell (rds_row 1 rfl) (by first | exact fl_at0 _ _ (by omega) (by decide) | exact fl_at _ _ _ (by omega) (by decide)) | exact Rds.cell (rds_row 2 rfl) (by first | exact fl_at0 _ _ (by omega) (by decide) | exact fl_at _ _ _ (by omega) (by decide)) | exact Rds.cell (rds_row 3 rfl) (by first | exact fl_at0 _ _ (by omega) (by decide) | exact fl_at _ _ _ (by omega) (by decide)) | exact Rds.cell (rds_row 4 rfl) (by first | exact fl_at0 _ _ (by omega) (by decide) | exact fl_at _ _ _ (by omega) (by decide)) | exact Rds.cell (rds_row 5 rfl) (by first | exact fl_at0 _ _ (by omega) (by decide) | exact fl_at _ _ _ (by omega) (by decide)) | exact Rds.cell (rds_row 6 rfl) (by first | exact fl_at0 _ _ (by omega) (by decide) | exact fl_at _ _ _ (by omega) (by decide)) | exact Rds.cell (rds_row 7 rfl) (by first | exact fl_at0 _ _ (by omega) (by decide) | exact fl_at _ _ _ (by omega) (by decide)) | exact Rds.cell (rds_row 8 rfl) (by first | exact fl_at0 _ _ (by omega) (by decide) | exact fl_at _ _ _ (by omega) (by decide)) | exact Rds.cell (rds_row 9 rfl) (by first | exact fl_at0 _ _ (by omega) (by decide) | exact fl_at _ _ _ (by omega) (by decide)))) ?_; refine ok_p rfl rfl rfl (by exact ps_assign rfl rfl) ?_; refine ok_nil ?_; refine ok_env [(0, _), (3, _), (5, _), (9, _), (10, _), (11, _)] ⟨rfl, rfl, rfl, rfl, rfl, rfl, trivial⟩ ?_)
    | (refine ok_region (i := 5) ?_; refine ok_p rfl rfl rfl (by exact ps_move rfl rfl) ?_; refine ok_p rfl rfl rfl (by exact ps_move rfl rfl) ?_; refine ok_p rfl rfl rfl (by exact ps_len rfl rfl) ?_; refine ok_p rfl rfl rfl (by first | exact ps_add (n := ((nth R k).d.length : Int)) rfl rfl rfl (by have := ho1 (by omega); omega) | exact ps_add rfl rfl rfl (by omega)) ?_; refine ok_p rfl rfl rfl (by exact ps_assign rfl rfl) ?_; refine ok_nil ?_; refine ok_env [(0, _), (3, _), (9, _), (10, _), (11, _)] ⟨rfl, rfl, rfl, rfl, rfl, trivial⟩ ?_)
    | (refine ok_region (i := 6) ?_; refine ok_p rfl rfl rfl (by exact ps_move rfl rfl) ?_; refine ok_p rfl rfl rfl (by exact ps_int rfl rfl rfl rfl) ?_; refine ok_nil ?_; refine ok_env [(0, _), (3, _), (9, _), (10, _), (11, _), (20, _)] ⟨rfl, rfl, rfl, rfl, rfl, rfl, trivial⟩ ?_)
    | (refine ok_region (i := 7) ?_; refine ok_p rfl rfl rfl (by fail "no rule makeInterface") ?_; refine ok_p rfl rfl rfl (by fail "no rule panic") ?_; refine ok_nil ?_; refine ok_env [(0, _), (3, _), (9, _), (10, _), (11, _)] ⟨rfl, rfl, rfl, rfl, rfl, trivial⟩ ?_)
    | (refine ok_region (i := 8) ?_; refine ok_p rfl rfl rfl (by exact ps_add rfl rfl rfl (by omega)) ?_; refine ok_p rfl rfl rfl (by exact ps_move rfl rfl) ?_; refine ok_nil ?_; refine ok_env [(0, _), (3, _), (9, _), (10, _), (11, _)] ⟨rfl, rfl, rfl, rfl, rfl, trivial⟩ ?_)
    | (refine ok_region (i := 9) ?_; refine ok_p rfl rfl rfl (by exact ps_move rfl rfl) ?_; refine ok_m rfl rfl rfl (by exact ms_c2 rfl rfl rfl (fun _ _ w hw => growEnt_c _ (HT.out k) w)) ?_; rintro y24 hy24; refine ok_p rfl rfl rfl (by exact ps_assign rfl rfl) ?_; refine ok_nil ?_; refine ok_env [(0, _), (6, _)] ⟨rfl, rfl, trivial⟩ ?_)
    | (refine ok_region (i := 10) ?_; refine ok_p rfl rfl rfl (by exact ps_move rfl rfl) ?_; refine ok_p rfl rfl rfl (by exact ps_len rfl rfl) ?_; refine ok_p rfl rfl rfl (by exact ps_move rfl rfl) ?_; refine ok_nil ?_; refine ok_env [(6, _), (25, _), (26, _), (27, _)] ⟨rfl, rfl, rfl, rfl, trivial⟩ ?_)
    | (refine ok_region (i := 11) ?_; refine ok_p rfl rfl rfl (by exact ps_int rfl rfl rfl rfl) ?_; refine ok_nil ?_; refine ok_env [(6, _), (25, _), (26, _), (27, _), (28, _)] ⟨rfl, rfl, rfl, rfl, rfl, trivial⟩ ?_)
    | (refine ok_region (i := 12) ?_; refine ok_p rfl rfl rfl (by first | exact ps_indexN rfl rfl rfl (by omega) (by first | exact isw_ga _ | exact isw_some _ | exact isw_row 0 rfl (by omega) | exact isw_row 1 rfl (by omega) | exact isw_row 2 rfl (by omega) | exact isw_row 3 rfl (by omega) | exact isw_row 4 rfl (by omega) | exact isw_row 5 rfl (by omega) | exact isw_row 6 rfl (by omega) | exact isw_row 7 rfl (by omega) | exact isw_row 8 rfl (by omega) | exact isw_of (isS_fl (by assumption) (by omega)) | exact isw_of (by assumption)) | exact ps_index rfl rfl rfl (by omega) (by first | exact isw_ga _ | exact isw_some _ | exact isw_row 0 rfl (by omega) | exact isw_row 1 rfl (by omega) | exact isw_row 2 rfl (by omega) | exact isw_row 3 rfl (by omega) | exact isw_row 4 rfl (by omega) | exact isw_row 5 rfl (by omega) | exact isw_row 6 rfl (by omega) | exact isw_row 7 rfl (by omega) | exact isw_row 8 rfl (by omega) | exact isw_of (isS_fl (by assumption) (by omega)) | exact isw_of (by assumption))) ?_; refine ok_p rfl rfl rfl (by exact ps_load rfl rfl (by first | exact Rds.cell (rds_box 0 rfl) rfl | exact Rds.cell (rds_box 1 rfl) rfl | exact Rds.cell (rds_box 2 rfl) rfl | exact Rds.cell (rds_box 3 rfl) rfl | exact Rds.cell (rds_box 4 rfl) rfl | exact Rds.cell (rds_box 5 rfl) rfl | exact Rds.cell (rds_box 6 rfl) rfl | exact Rds.cell (rds_box 7 rfl) rfl | exact Rds.cell (rds_box 8 rfl) rfl | exact Rds.cell (rds_box 9 rfl) rfl | exact Rds.cell (rds_box 10 rfl) rfl | exact Rds.cell (rds_box 11 rfl) rfl | exact Rds.cell (rds_box 12 rfl) rfl | exact Rds.cell (rds_box 13 rfl) rfl | exact Rds.cell (rds_box 14 rfl) rfl | exact Rds.cell (rds_box 15 rfl) rfl | exact Rds.cell (rds_box 16 rfl) rfl | exact Rds.cell (rds_box 17 rfl) rfl | exact Rds.cell (rds_box 18 rfl) rfl | exact Rds.cell (rds_box 19 rfl) rfl | exact Rds.cell (rds_box 20 rfl) rfl | exact Rds.cell (rds_box 21 rfl) rfl | exact Rds.cell (rds_box 22 rfl) rfl | exact Rds.cell (rds_box 23 rfl) rfl | exact Rds.cell (rds_rf (by assumption) (by first | exact List.mem_cons_self | exact List.mem_cons_of_mem _ List.mem_cons_self | simp)) (by first | exact fl_at0 _ _ (by omega) (by decide) | exact fl_at _ _ _ (by omega) (by decide)) | exact Rds.cell (rds_row 0 rfl) (by first | exact fl_at0 _ _ (by omega) (by decide) | exact fl_at _ _ _ (by omega) (by decide)) | exact Rds.cell (rds_row 1 rfl) (by first | exact fl_at0 _ _ (by omega) (by decide) | exact fl_at _ _ _ (by omega) (by decide)) | exact Rds.cell (rds_row 2 rfl) (by first | exact fl_at0 _ _ (by omega) (by decide) | exact fl_at _ _ _ (by omega) (by decide)) | exact Rds.cell (rds_row 3 rfl) (by first | exact fl_at0 _ _ (by omega) (by decide) | exact fl_at _ _ _ (by omega) (by decide)) | exact Rds.cell (rds_row 4 rfl) (by first | exact fl_at0 _ _ (by omega) (by decide) | exact fl_at _ _ _ (by omega) (by decide)) | exact Rds.cell (rds_row 5 rfl) (by first | exact fl_at0 _ _ (by omega) (by decide) | exact fl_at _ _ _ (by omega) (by decide)) | exact Rds.cell (rds_row 6 rfl) (by first | exact fl_at0 _ _ (by omega) (by decide) | exact fl_at _ _ _ (by omega) (by decide)) | exact Rds.cell (rds_row 7 rfl) (by first | exact fl_at0 _ _ (by omega) (by decide) | exact fl_at _ _ _ (by omega) (by decide)) | exact Rds.cell (rds_row 8 rfl) (by first | exact fl_at0 _ _ (by omega) (by decide) | exact fl_at _ _ _ (by omega) (by decide)) | exact Rds.cell (rds_row 9 rfl) (by first | exact fl_at0 _ _ (by omega) (by decide) | exact fl_at _ _ _ (by omega) (by decide)))) ?_; refine ok_p rfl rfl rfl (by exact ps_assign rfl rfl) ?_; refine ok_nil ?_; refine ok_env [(6, _), (8, _), (25, _), (26, _), (27, _)] ⟨rfl, rfl, rfl, rfl, rfl, trivial⟩ ?_)
    | (refine ok_region (i := 13) ?_; refine ok_p rfl rfl rfl (by exact ps_move rfl rfl) ?_; refine ok_p rfl rfl rfl (by exact ps_move rfl rfl) ?_; refine ok_m rfl rfl rfl (by fail "no maker call") ?_; rintro y33 hy33; refine ok_p rfl rfl rfl (by exact ps_assign rfl rfl) ?_; refine ok_nil ?_; refine ok_env [(6, _), (25, _), (26, _), (27, _)] ⟨rfl, rfl, rfl, rfl, trivial⟩ ?_)
    | (refine ok_region (i := 14) ?_; refine ok_p rfl rfl rfl (by exact ps_add rfl rfl rfl (by omega)) ?_; refine ok_p rfl rfl rfl (by exact ps_move rfl rfl) ?_; refine ok_nil ?_; refine ok_env [(6, _), (25, _), (26, _), (27, _)] ⟨rfl, rfl, rfl, rfl, trivial⟩ ?_)
    | (refine ok_region (i := 15) ?_; refine ok_p rfl rfl rfl (by exact ps_move rfl rfl) ?_; refine ok_p rfl rfl rfl (by exact ps_assign rfl rfl) ?_; refine ok_nil ?_; refine ok_env [(2, _)] ⟨rfl, trivial⟩ ?_))
  · exfalso; omega
  · refine fun a w' he hw => ⟨⟨k + 1, by omega⟩, by simp only; omega, he.sub ⟨rfl, ?_, rfl, rfl, rfl, trivial⟩, hw⟩
    simp only [look]; congr 2; rw [offEnt_succ R k (by omega)]; simp
  · clear hk ho ho1
    refine ok_loop (ι := { p : Nat × Option Addr × Nat // p.1 ≤ R.length }) (fun p => R.length - p.1.1) (fun p => ([(6, .slice p.1.2.1 (((dats R).take p.1.1).flatten).length p.1.2.2), (25, .slice A R.length c), (26, .int .i64 R.length), (27, .int .i64 p.1.1)], [.row 71 4 p.1.2.1 (((dats R).take p.1.1).flatten).length p.1.2.2 (fl ((dats R).take p.1.1).flatten)], _)) ⟨(0, (y24 0).A, (y24 0).c), by simp⟩ (fun a w he hw => ⟨⟨(0, (y24 0).A, (y24 0).c), by simp⟩, he.sub ⟨rfl, rfl, rfl, rfl, trivial⟩, hw⟩) ?_
    rintro ⟨⟨k, B, d⟩, hk⟩
    simp only at hk ⊢
    have ho1 : k < R.length → (((dats R).take k).flatten).length + (nth R k).d.length ≤ 4194304 := fun h => by rw [catEnt_len, ← offEnt_succ R k h]; exact HT.out (k + 1)
    repeat' (first
      | refine ok_seq ?_
      | refine ok_then ?_
      | refine ok_then_ret ?_
      | refine ok_then_exit ?_
      | refine ok_block ?_
      | refine ok_in_normal ?_
      | refine ok_in_ret ?_
      | refine ok_in_exit ?_
      | refine ok_in_other rfl ?_
      | (refine ok_cond rfl (fun hc => ?_) (fun hc => ?_) <;> (have hd := hc; (try simp only [decide_eq_true_eq, decide_eq_false_iff_not, Bool.or_eq_true, Bool.or_eq_false_iff, Bool.and_eq_true, Bool.and_eq_false_iff, Bool.not_eq_true', Bool.not_eq_false', bne_iff_ne, beq_iff_eq, bne_eq_false_iff_eq, beq_eq_false_iff_ne, ne_eq, Bool.not_true, Bool.not_false, Bool.false_eq_true, Bool.true_eq_false, inB_true, inB_false] at hd)))
      | refine ok_ret ?_
      | refine ok_exit ?_
      | refine ok_skip ?_
      | (refine ok_region (i := 0) ?_; refine ok_p rfl rfl rfl (by exact ps_assign rfl rfl) ?_; refine ok_nil ?_; refine ok_env [(0, _)] ⟨rfl, trivial⟩ ?_)
      | (refine ok_region (i := 1) ?_; refine ok_p rfl rfl rfl (by exact ps_assign rfl rfl) ?_; refine ok_nil ?_; refine ok_env [(0, _), (3, _)] ⟨rfl, rfl, trivial⟩ ?_)
      | (refine ok_region (i := 2) ?_; refine ok_p rfl rfl rfl (by exact ps_move rfl rfl) ?_; refine ok_p rfl rfl rfl (by exact ps_len rfl rfl) ?_; refine ok_p rfl rfl rfl (by exact ps_move rfl rfl) ?_; refine ok_nil ?_; refine ok_env [(0, _), (3, _), (9, _), (10, _), (11, _)] ⟨rfl, rfl, rfl, rfl, rfl, trivial⟩ ?_)
      | (refine ok_region (i := 3) ?_; refine ok_p rfl rfl rfl (by exact ps_int rfl rfl rfl rfl) ?_; refine ok_nil ?_; refine ok_env [(0, _), (3, _), (9, _), (10, _), (11, _), (12, _)] ⟨rfl, rfl, rfl, rfl, rfl, rfl, trivial⟩ ?_)
      | (refine ok_region (i := 4) ?_; refine ok_p rfl rfl rfl (by first | exact ps_indexN rfl rfl rfl (by omega) (by first | exact isw_ga _ | exact isw_some _ | exact isw_row 0 rfl (by omega) | exact isw_row 1 rfl (by omega) | exact isw_row 2 rfl (by omega) | exact isw_row 3 rfl (by omega) | exact isw_row 4 rfl (by omega) | exact isw_row 5 rfl (by omega) | exact isw_row 6 rfl (by omega) | exact isw_row 7 rfl (by omega) | exact isw_row 8 rfl (by omega) | exact isw_of (isS_fl (by assumption) (by omega)) | exact isw_of (by assumption)) | exact ps_index rfl rfl rfl (by omega) (by first | exact isw_ga _ | exact isw_some _ | exact isw_row 0 rfl (by omega) | exact isw_row 1 rfl (by omega) | exact isw_row 2 rfl (by omega) | exact isw_row 3 rfl (by omega) | exact isw_row 4 rfl (by omega) | exact isw_row 5 rfl (by omega) | exact isw_row 6 rfl (by omega) | exact isw_row 7 rfl (by omega) | exact isw_row 8 rfl (by omega) | exact isw_of (isS_fl (by assumption) (by omega)) | exact isw_of (by assumption))) ?_; refine ok_p rfl rfl rfl (by exact ps_load rfl rfl (by first | exact Rds.cell (rds_box 0 rfl) rfl | exact Rds.cell (rds_box 1 rfl) rfl | exact Rds.cell (rds_box 2 rfl) rfl | exact Rds.cell (rds_box 3 rfl) rfl | exact Rds.cell (rds_box 4 rfl) rfl | exact Rds.cell (rds_box 5 rfl) rfl | exact Rds.cell (rds_box 6 rfl) rfl | exact Rds.cell (rds_box 7 rfl) rfl | exact Rds.cell (rds_box 8 rfl) rfl | exact Rds.cell (rds_box 9 rfl) rfl | exact Rds.cell (rds_box 10 rfl) rfl | exact Rds.cell (rds_box 11 rfl) rfl | exact Rds.cell (rds_box 12 rfl) rfl | exact Rds.cell (rds_box 13 rfl) rfl | exact Rds.cell (rds_box 14 rfl) rfl | exact Rds.cell (rds_box 15 rfl) rfl | exact Rds.cell (rds_box 16 rfl) rfl | exact Rds.cell (rds_box 17 rfl) rfl | exact Rds.cell (rds_box 18 rfl) rfl | exact Rds.cell (rds_box 19 rfl) rfl | exact Rds.cell (rds_box 20 rfl) rfl | exact Rds.cell (rds_box 21 rfl) rfl | exact Rds.cell (rds_box 22 rfl) rfl | exact Rds.cell (rds_box 23 rfl) rfl | exact Rds.cell (rds_rf (by assumption) (by first | exact List.mem_cons_self | exact List.mem_cons_of_mem _ List.mem_cons_self | simp)) (by first | exact fl_at0 _ _ (by omega) (by decide) | exact fl_at _ _ _ (by omega) (by decide)) | exact Rds.cell (rds_row 0 rfl) (by first | exact fl_at0 _ _ (by omega) (by decide) | exact fl_at _ _ _ (by omega) (by decide)) | exact Rds.cell (rds_row 1 rfl) (by first | exact fl_at0 _ _ (by omega) (by decide) | exact fl_at _ _ _ (by omega) (by decide)) | exact Rds.cell (rds_row 2 rfl) (by first | exact fl_at0 _ _ (by omega) (by decide) | exact fl_at _ _ _ (by omega) (by decide)) | exact Rds.cell (rds_row 3 rfl) (by first | exact fl_at0 _ _ (by omega) (by decide) | exact fl_at _ _ _ (by omega) (by decide)) | exact Rds.cell (rds_row 4 rfl) (by first | exact fl_at0 _ _ (by omega) (by decide) | exact fl_at _ _ _ (by omega) (by decide)) | exact Rds.cell (rds_row 5 rfl) (by first | exact fl_at0 _ _ (by omega) (by decide) | exact fl_at _ _ _ (by omega) (by decide)) | exact Rds.cell (rds_row 6 rfl) (by first | exact fl_at0 _ _ (by omega) (by decide) | exact fl_at _ _ _ (by omega) (by decide)) | exact Rds.cell (rds_row 7 rfl) (by first | exact fl_at0 _ _ (by omega) (by decide) | exact fl_at _ _ _ (by omega) (by decide)) | exact Rds.cell (rds_row 8 rfl) (by first | exact fl_at0 _ _ (by omega) (by decide) | exact fl_at _ _ _ (by omega) (by decide)) | exact Rds.cell (rds_row 9 rfl) (by first | exact fl_at0 _ _ (by omega) (by decide) | exact fl_at _ _ _ (by omega) (by decide)))) ?_; refine ok_p rfl rfl rfl (by exact ps_assign rfl rfl) ?_; refine ok_nil ?_; refine ok_env [(0, _), (3, _), (5, _), (9, _), (10, _), (11, _)] ⟨rfl, rfl, rfl, rfl, rfl, rfl, trivial⟩ ?_)
      | (refine ok_region (i := 5) ?_; refine ok_p rfl rfl rfl (by exact ps_move rfl rfl) ?_; refine ok_p rfl rfl rfl (by exact ps_move rfl rfl) ?_; refine ok_p rfl rfl rfl (by exact ps_len rfl rfl) ?_; refine ok_p rfl rfl rfl (by exact ps_add rfl rfl rfl (by omega)) ?_; refine ok_p rfl rfl rfl (by exact ps_assign rfl rfl) ?_; refine ok_nil ?_; refine ok_env [(0, _), (3, _), (9, _), (10, _), (11, _)] ⟨rfl, rfl, rfl, rfl, rfl, trivial⟩ ?_)
      | (refine ok_region (i := 6) ?_; refine ok_p rfl rfl rfl (by exact ps_move rfl rfl) ?_; refine ok_p rfl rfl rfl (by exact ps_int rfl rfl rfl rfl) ?_; refine ok_nil ?_; refine ok_env [(0, _), (3, _), (9, _), (10, _), (11, _), (20, _)] ⟨rfl, rfl, rfl, rfl, rfl, rfl, trivial⟩ ?_)
      | (refine ok_region (i := 7) ?_; refine ok_p rfl rfl rfl (by fail "no rule makeInterface") ?_; refine ok_p rfl rfl rfl (by fail "no rule panic") ?_; refine ok_nil ?_; refine ok_env [(0, _), (3, _), (9, _), (10, _), (11, _)] ⟨rfl, rfl, rfl, rfl, rfl, trivial⟩ ?_)
      | (refine ok_region (i := 8) ?_; refine ok_p rfl rfl rfl (by exact ps_add rfl rfl rfl (by omega)) ?_; refine ok_p rfl rfl rfl (by exact ps_move rfl rfl) ?_; refine ok_nil ?_; refine ok_env [(0, _), (3, _), (9, _), (10, _), (11, _)] ⟨rfl, rfl, rfl, rfl, rfl, trivial⟩ ?_)
      | (refine ok_region (i := 9) ?_; refine ok_p rfl rfl rfl (by exact ps_move rfl rfl) ?_; refine ok_m rfl rfl rfl (by fail "no maker call") ?_; rintro y24 hy24; refine ok_p rfl rfl rfl (by exact ps_assign rfl rfl) ?_; refine ok_nil ?_; refine ok_env [(0, _), (6, _)] ⟨rfl, rfl, trivial⟩ ?_)
      | (refine ok_region (i := 10) ?_; refine ok_p rfl rfl rfl (by exact ps_move rfl rfl) ?_; refine ok_p rfl rfl rfl (by exact ps_len rfl rfl) ?_; refine ok_p rfl rfl rfl (by exact ps_move rfl rfl) ?_; refine ok_nil ?_; refine ok_env [(6, _), (25, _), (26, _), (27, _)] ⟨rfl, rfl, rfl, rfl, trivial⟩ ?_)
      | (refine ok_region (i := 11) ?_; refine ok_p rfl rfl rfl (by exact ps_int rfl rfl rfl rfl) ?_; refine ok_nil ?_; refine ok_env [(6, _), (25, _), (26, _), (27, _), (28, _)] ⟨rfl, rfl, rfl, rfl, rfl, trivial⟩ ?_)
      | (refine ok_region (i := 12) ?_; refine ok_p rfl rfl rfl (by first | exact ps_indexN rfl rfl rfl (by omega) (by first | exact isw_ga _ | exact isw_some _ | exact isw_row 0 rfl (by omega) | exact isw_row 1 rfl (by omega) | exact isw_row 2 rfl (by omega) | exact isw_row 3 rfl (by omega) | exact isw_row 4 rfl (by omega) | exact isw_row 5 rfl (by omega) | exact isw_row 6 rfl (by omega) | exact isw_row 7 rfl (by omega) | exact isw_row 8 rfl (by omega) | exact isw_of (isS_fl (by assumption) (by omega)) | exact isw_of (by assumption)) | exact ps_index rfl rfl rfl (by omega) (by first | exact isw_ga _ | exact isw_some _ | exact isw_row 0 rfl (by omega) | exact isw_row 1 rfl (by omega) | exact isw_row 2 rfl (by omega) | exact isw_row 3 rfl (by omega) | exact isw_row 4 rfl (by omega) | exact isw_row 5 rfl (by omega) | exact isw_row 6 rfl (by omega) | exact isw_row 7 rfl (by omega) | exact isw_row 8 rfl (by omega) | exact isw_of (isS_fl (by assumption) (by omega)) | exact isw_of (by assumption))) ?_; refine ok_p rfl rfl rfl (by exact ps_load rfl rfl (by first | exact Rds.cell (rds_box 0 rfl) rfl | exact Rds.cell (rds_box 1 rfl) rfl | exact Rds.cell (rds_box 2 rfl) rfl | exact Rds.cell (rds_box 3 rfl) rfl | exact Rds.cell (rds_box 4 rfl) rfl | exact Rds.cell (rds_box 5 rfl) rfl | exact Rds.cell (rds_box 6 rfl) rfl | exact Rds.cell (rds_box 7 rfl) rfl | exact Rds.cell (rds_box 8 rfl) rfl | exact Rds.cell (rds_box 9 rfl) rfl | exact Rds.cell (rds_box 10 rfl) rfl | exact Rds.cell (rds_box 11 rfl) rfl | exact Rds.cell (rds_box 12 rfl) rfl | exact Rds.cell (rds_box 13 rfl) rfl | exact Rds.cell (rds_box 14 rfl) rfl | exact Rds.cell (rds_box 15 rfl) rfl | exact Rds.cell (rds_box 16 rfl) rfl | exact Rds.cell (rds_box 17 rfl) rfl | exact Rds.cell (rds_box 18 rfl) rfl | exact Rds.cell (rds_box 19 rfl) rfl | exact Rds.cell (rds_box 20 rfl) rfl | exact Rds.cell (rds_box 21 rfl) rfl | exact Rds.cell (rds_box 22 rfl) rfl | exact Rds.cell (rds_box 23 rfl) rfl | exact Rds.cell (rds_rf (by assumption) (by first | exact List.mem_cons_self | exact List.mem_cons_of_mem _ List.mem_cons_self | simp)) (by first | exact fl_at0 _ _ (by omega) (by decide) | exact fl_at _ _ _ (by omega) (by decide)) | exact Rds.cell (rds_row 0 rfl) (by first | exact fl_at0 _ _ (by omega) (by decide) | exact fl_at _ _ _ (by omega) (by decide)) | exact Rds.cell (rds_row 1 rfl) (by first | exact fl_at0 _ _ (by omega) (by decide) | exact fl_at _ _ _ (by omega) (by decide)) | exact Rds.cell (rds_row 2 rfl) (by first | exact fl_at0 _ _ (by omega) (by decide) | exact fl_at _ _ _ (by omega) (by decide)) | exact Rds.cell (rds_row 3 rfl) (by first | exact fl_at0 _ _ (by omega) (by decide) | exact fl_at _ _ _ (by omega) (by decide)) | exact Rds.cell (rds_row 4 rfl) (by first | exact fl_at0 _ _ (by omega) (by decide) | exact fl_at _ _ _ (by omega) (by decide)) | exact Rds.cell (rds_row 5 rfl) (by first | exact fl_at0 _ _ (by omega) (by decide) | exact fl_at _ _ _ (by omega) (by decide)) | exact Rds.cell (rds_row 6 rfl) (by first | exact fl_at0 _ _ (by omega) (by decide) | exact fl_at _ _ _ (by omega) (by decide)) | exact Rds.cell (rds_row 7 rfl) (by first | exact fl_at0 _ _ (by omega) (by decide) | exact fl_at _ _ _ (by omega) (by decide)) | exact Rds.cell (rds_row 8 rfl) (by first | exact fl_at0 _ _ (by omega) (by decide) | exact fl_at _ _ _ (by omega) (by decide)) | exact Rds.cell (rds_row 9 rfl) (by first | exact fl_at0 _ _ (by omega) (by decide) | exact fl_at _ _ _ (by omega) (by decide)))) ?_; refine ok_p rfl rfl rfl (by exact ps_assign rfl rfl) ?_; refine ok_nil ?_; refine ok_env [(6, _), (8, _), (25, _), (26, _), (27, _)] ⟨rfl, rfl, rfl, rfl, rfl, trivial⟩ ?_)
      | (refine ok_region (i := 13) ?_; refine ok_p rfl rfl rfl (by exact ps_move rfl rfl) ?_; refine ok_p rfl rfl rfl (by exact ps_move rfl rfl) ?_; refine ok_m rfl rfl rfl (by exact ms_appF (α := Ent) (L := ((dats R).take k).flatten) (M := (nth R k).d) 0 rfl rfl rfl rfl (rds_rf (H2.out k (by omega)) (by first | exact List.mem_cons_self | exact List.mem_cons_of_mem _ List.mem_cons_self | simp)) rfl (by have := ho1 (by omega); omega) (by have := ho1 (by omega); omega)) ?_; rintro y33 hy33; refine ok_p rfl rfl rfl (by exact ps_assign rfl rfl) ?_; refine ok_nil ?_; refine ok_env [(6, _), (25, _), (26, _), (27, _)] ⟨rfl, rfl, rfl, rfl, trivial⟩ ?_)
      | (refine ok_region (i := 14) ?_; refine ok_p rfl rfl rfl (by exact ps_add rfl rfl rfl (by omega)) ?_; refine ok_p rfl rfl rfl (by exact ps_move rfl rfl) ?_; refine ok_nil ?_; refine ok_env [(6, _), (25, _), (26, _), (27, _)] ⟨rfl, rfl, rfl, rfl, trivial⟩ ?_)
      | (refine ok_region (i := 15) ?_; refine ok_p rfl rfl rfl (by exact ps_move rfl rfl) ?_; refine ok_p rfl rfl rfl (by exact ps_assign rfl rfl) ?_; refine ok_nil ?_; refine ok_env [(2, _)] ⟨rfl, trivial⟩ ?_))
    · refine fun a w' he hw => ⟨⟨(k + 1, (y33 0).A, (y33 0).c), by simp only; omega⟩, by simp only; omega, he.sub ⟨?_, rfl, rfl, rfl, trivial⟩, ?_⟩
      · simp only [look]; rw [catEnt_step R k (by omega), List.length_append]
      · simp only
        rw [catEnt_step R k (by omega), List.length_append]
        exact hw
    · obtain rfl : k = R.length := by omega
      refine ok_endL (vs := [_]) rfl ⟨rfl, trivial⟩ (fun w' hw => ⟨mkY B d w', ?_, trivial, hw.below, ?_⟩)
      · rw [← dats_len, List.take_length]; rfl
      · rw [← dats_len, List.take_length] at hw
        exact NewOk.of (G := []) (hw.sel [0] (by decide) rfl (fun _ h => by cases h))
end Go.Proofs.Ytbegbdfbfbkflaa
/- The engine: a guarded call that writes, or tells a new value: the guard's two cases apart. -/
namespace Go.Proofs.Ytbegbdfbfbkflaa
open Go.RowKit
section
variable {P : Program} {N base : Nat} {w0 : World} {E : Env} {H : List HObj} {G : List World} {ops : Array Oper} {o : Oper} {rest : List Oper} {Q : Exit → Act → World → Prop} {F : Ys → Prop} {v : Ys → Value} {H' : Ys → List HObj} {G' : Ys → List World}
theorem ok_mgs {j d : Nat} {want c : Bool} (hg : o.guard = some (j, want)) (hj : (ops[j]?).bind (·.dst) = some d) (hv : look E d = some (.bool c)) {td : Nat} (hdt : o.dst = some td) (hd : Nat.blt td N = true) (hs : (c == want) = true → MStep P E H G o F v H' G')
    (h1 : (c == want) = true → ∀ y, F y → Ok N base w0 ((td, v y) :: E) (H' y) (G' y) (wpList P ops Q rest)) (h0 : (c == want) = false → Ok N base w0 ((td, undef) :: E) H G (wpList P ops Q rest)) : Ok N base w0 E H G (wpList P ops Q (o :: rest)) := by
  cases h : (c == want) with
  | true => exact ok_m_yes (p := true) hg hj hv (by rw [Bool.true_and]; exact h) hdt hd (hs h) (h1 h)
  | false => exact ok_m_no (p := true) hg hj hv (by rw [Bool.true_and]; exact h) hdt hd (h0 h)
theorem ps_never {u : Value} (h : False) : PStep P E H G o u := h.elim
end
end Go.Proofs.Ytbegbdfbfbkflaa
/- The engine: branches that meet again are told once. -/
namespace Go.Proofs.Ytbegbdfbfbkflaa
open Go.RowKit
set_option linter.unusedVariables false
section
variable {P : Program} {N base : Nat} {w0 : World} {E : Env} {H : List HObj} {G : List World} {Q : Exit → Act → World → Prop}
/-- The first part of a sequence ends in one of a family of states; the second part is walked once, from each of them. -/
theorem ok_join {ι : Type} (X : ι → Env × List HObj × List World) {x y : Code}
    (h1 : Ok N base w0 E H G (x.wp P (Exit.then (fun a w => ∃ j, Sat N base w0 (X j).1 (X j).2.1 (X j).2.2 a w) Q)))
    (h2 : ∀ j, Ok N base w0 (X j).1 (X j).2.1 (X j).2.2 (y.wp P Q)) : Ok N base w0 E H G ((Code.seq x y).wp P Q) := fun a w he hw =>
  wp_seq (Code.wp_mono (fun e a' w' hq => by
    cases e with
    | normal => obtain ⟨j, hs⟩ := hq; exact h2 j a' w' hs.env hs.mem
    | _ => exact hq) (h1 a w he hw))
/-- Stops a walk ahead of block i. -/
theorem at_block (i : Nat) {x y : Code} (h : Ok N base w0 E H G ((Code.seq (Code.block i x) y).wp P Q)) : Ok N base w0 E H G ((Code.seq (Code.block i x) y).wp P Q) := h
/-- Stops a walk ahead of a condition on temporary t that is followed by more. -/
theorem at_cond (t : Nat) {x x' y : Code} (h : Ok N base w0 E H G ((Code.seq (Code.cond (.tmp t) x x') y).wp P Q)) : Ok N base w0 E H G ((Code.seq (Code.cond (.tmp t) x x') y).wp P Q) := h
/-- Stops a walk ahead of a statement that begins with region i and is followed by more. -/
theorem at_reg (i : Nat) {ops : Array Oper} {b : Bool} {z y : Code} (h : Ok N base w0 E H G ((Code.seq (Code.seq (Code.region i ops b) z) y).wp P Q)) : Ok N base w0 E H G ((Code.seq (Code.seq (Code.region i ops b) z) y).wp P Q) := h
/-- A field of a struct value. -/
theorem ps_fieldV {o : Oper} {x : Operand} {t : TypeId} {f : Nat} {u v : Value} (ho : o.op = .field t x f) (hx : opd E x = some u) (hr : ∀ w, (Instr.field t u f).run P w = .ok v w) : PStep P E H G o v := fun N base w0 a w he hw => by
  simp only [execOp, ho, he.eval hx, Sem.run_bind, hr, Result.andThen_ok, Sem.run_pure]
theorem ok_capE {n c e sz : Nat} {A : Option Addr} {us : List Value} {K : Act → World → Prop} (i : Nat) (hi : H[i]? = some (.row e sz A n c us)) (h : n ≤ c → Ok N base w0 E H G K) : Ok N base w0 E H G K := fun a w he hw => h (hw.cap i hi) a w he hw
theorem isw_rdsE {A : Option Addr} {us : List Value} (h : Rds H G A us) (hl : 0 < us.length) : IsSW H G A := fun base w0 w hw => isS_rd (h base w0 w hw) hl
theorem rds_tlE {A : Option Addr} {us : List Value} (x : HObj) (h : Rds H G A us) : Rds (x :: H) G A us := fun base w0 w hw => h base w0 w hw.tl
theorem rds_headE {α : Type} [Dat α] {A : Option Addr} {L : List α} (h : Rds H G A (fl L)) (i : Nat) : Rds H G A (fl (L.take i)) := fun base w0 w hw => by
  rw [← fl_take]; exact (h base w0 w hw).take _
/-- An own object is let go. -/
theorem ok_drop {K : Act → World → Prop} (i : Nat) {x : HObj} (hi : H[i]? = some x) {H' : List HObj} (hH : H.eraseIdx i = H') (h : Ok N base w0 E H' G K) : Ok N base w0 E H G K := fun a w he hw => h a w he (hH ▸ (hw.front i hi).tl)
end
end Go.Proofs.Ytbegbdfbfbkflaa
/- slices.CompactFunc and slices.Clip of entries; merged. -/
namespace Go.Proofs.Ytbegbdfbfbkflaa
open Go.RowKit
set_option maxHeartbeats 4000000
set_option maxRecDepth 20000
set_option linter.unusedVariables false
set_option linter.unusedSimpArgs false
attribute [local irreducible] Calls
def eqV : Value := .func (.func 208) #[] #[]
theorem same_c (a b : Ent) (w : World) : Calls Try.prog 208 #[.agg (Dat.cells a).toArray, .agg (Dat.cells b).toArray] w fun e w' => e = .returned (.bool (sameE a b)) ∧ Below w.heap.size w w' := by
  refine ok_enter 17 Try.func208 rfl rfl rfl ?_
  repeat' (first
    | refine ok_seq ?_
    | refine ok_then ?_
    | refine ok_ret ?_
    | (refine ok_region (i := 0) ?_; refine ok_m rfl rfl rfl (by exact ms_box rfl rfl rfl) ?_; rintro y2 hy2; refine ok_m rfl rfl rfl (by exact ms_box rfl rfl rfl) ?_; rintro y3 hy3; refine ok_p rfl rfl rfl (by exact ps_assign rfl rfl) ?_; refine ok_nil ?_; refine ok_env [(2, _), (3, _)] ⟨rfl, rfl, trivial⟩ ?_)
    | (refine ok_region (i := 1) ?_; refine ok_p rfl rfl rfl (by exact ps_field rfl rfl (by exact isw_ga _)) ?_; refine ok_p rfl rfl rfl (by exact ps_load rfl rfl (by exact Rds.cell (rds_box 1 rfl) rfl)) ?_; refine ok_p rfl rfl rfl (by exact ps_field rfl rfl (by exact isw_ga _)) ?_; refine ok_p rfl rfl rfl (by exact ps_load rfl rfl (by exact Rds.cell (rds_box 0 rfl) rfl)) ?_; refine ok_p rfl rfl rfl (by exact ps_str rfl rfl rfl rfl) ?_; refine ok_p rfl rfl rfl (by exact ps_move rfl rfl) ?_; refine ok_pg rfl rfl rfl rfl rfl (gT _) (fun hp => by (have hpd := hp; (try simp only [decide_eq_true_eq, decide_eq_false_iff_not, Bool.or_eq_true, Bool.or_eq_false_iff, Bool.and_eq_true, Bool.and_eq_false_iff, Bool.not_eq_true', Bool.not_eq_false', bne_iff_ne, beq_iff_eq, bne_eq_false_iff_eq, beq_eq_false_iff_ne, ne_eq, Bool.not_true, Bool.not_false, Bool.false_eq_true, Bool.true_eq_false, inB_true, inB_false] at hpd); exact ps_field rfl (by exact rfl) (by exact isw_ga _))) ?_; refine ok_pg rfl rfl rfl rfl rfl (gT _) (fun hp => by (have hpd := hp; (try simp only [decide_eq_true_eq, decide_eq_false_iff_not, Bool.or_eq_true, Bool.or_eq_false_iff, Bool.and_eq_true, Bool.and_eq_false_iff, Bool.not_eq_true', Bool.not_eq_false', bne_iff_ne, beq_iff_eq, bne_eq_false_iff_eq, beq_eq_false_iff_ne, ne_eq, Bool.not_true, Bool.not_false, Bool.false_eq_true, Bool.true_eq_false, inB_true, inB_false] at hpd); exact ps_load rfl (by (refine og rfl ?_; assumption)) (by exact Rds.cell (rds_box 1 rfl) rfl))) ?_; refine ok_pg rfl rfl rfl rfl rfl (gT _) (fun hp => by (have hpd := hp; (try simp only [decide_eq_true_eq, decide_eq_false_iff_not, Bool.or_eq_true, Bool.or_eq_false_iff, Bool.and_eq_true, Bool.and_eq_false_iff, Bool.not_eq_true', Bool.not_eq_false', bne_iff_ne, beq_iff_eq, bne_eq_false_iff_eq, beq_eq_false_iff_ne, ne_eq, Bool.not_true, Bool.not_false, Bool.false_eq_true, Bool.true_eq_false, inB_true, inB_false] at hpd); exact ps_field rfl (by exact rfl) (by exact isw_ga _))) ?_; refine ok_pg rfl rfl rfl rfl rfl (gT _) (fun hp => by (have hpd := hp; (try simp only [decide_eq_true_eq, decide_eq_false_iff_not, Bool.or_eq_true, Bool.or_eq_false_iff, Bool.and_eq_true, Bool.and_eq_false_iff, Bool.not_eq_true', Bool.not_eq_false', bne_iff_ne, beq_iff_eq, bne_eq_false_iff_eq, beq_eq_false_iff_ne, ne_eq, Bool.not_true, Bool.not_false, Bool.false_eq_true, Bool.true_eq_false, inB_true, inB_false] at hpd); exact ps_load rfl (by (refine og rfl ?_; assumption)) (by exact Rds.cell (rds_box 0 rfl) rfl))) ?_; refine ok_pg rfl rfl rfl rfl rfl (gT _) (fun hp => by (have hpd := hp; (try simp only [decide_eq_true_eq, decide_eq_false_iff_not, Bool.or_eq_true, Bool.or_eq_false_iff, Bool.and_eq_true, Bool.and_eq_false_iff, Bool.not_eq_true', Bool.not_eq_false', bne_iff_ne, beq_iff_eq, bne_eq_false_iff_eq, beq_eq_false_iff_ne, ne_eq, Bool.not_true, Bool.not_false, Bool.false_eq_true, Bool.true_eq_false, inB_true, inB_false] at hpd); exact ps_int rfl (by (refine og rfl ?_; assumption)) (by (refine og rfl ?_; assumption)) rfl)) ?_; refine ok_p rfl rfl rfl (by exact ps_and rfl rfl rfl) ?_; refine ok_p rfl rfl rfl (by exact ps_assign rfl rfl) ?_; refine ok_nil ?_; refine ok_env [(4, _)] ⟨rfl, trivial⟩ ?_))
  exact ok_endL (vs := [_]) rfl ⟨rfl, trivial⟩ (fun w' hw => ⟨rfl, hw.below⟩)
/-- Nothing is the same as its neighbour so far. -/
structure CpA (L : List Ent) where
  k : Nat
  hk : 1 ≤ k ∧ k ≤ L.length
  ad : adjK L k = L.take k
structure CpB (L : List Ent) (k0 : Nat) where
  j : Nat
  k : Nat
  O : List Ent
  hj : 1 ≤ j ∧ k0 + j ≤ L.length ∧ 1 ≤ k ∧ k ≤ k0 + j - 1
  hO : O.length = k
  ad : adjK L (k0 + j) = O
theorem compactE_c (A : Option Addr) (n c : Nat) (L : List Ent) (hn : L.length = n) (hl : n ≤ 4194304) {base : Nat} {w0 w : World} {H : List HObj} {G : List World} (hw : WOk base w0 (rwE A n c L :: H) G w) :
    Calls Try.prog 207 #[.slice A n c, eqV] w fun e w' => ∃ y : Ys, e = .returned (.slice A (cmpct L).length c) ∧ True ∧ WOk base w0 (rwE A (cmpct L).length c (cmpct L) :: H) G w' := by
  have hA : 0 < n → IsS A := fun h => isS_own (hw.own _ List.mem_cons_self) h
  have hcap := hw.cap 0 rfl
  refine ok_enterW 66 Try.func207 rfl rfl rfl hw ?_
  repeat' (first
    | refine ok_seq ?_
    | refine ok_then ?_
    | refine ok_then_ret ?_
    | refine ok_block ?_
    | (refine ok_cond rfl (fun hc => ?_) (fun hc => ?_) <;> (have hd := hc; (try simp only [decide_eq_true_eq, decide_eq_false_iff_not, Bool.or_eq_true, Bool.or_eq_false_iff, Bool.and_eq_true, Bool.and_eq_false_iff, Bool.not_eq_true', Bool.not_eq_false', bne_iff_ne, beq_iff_eq, bne_eq_false_iff_eq, beq_eq_false_iff_ne, ne_eq, Bool.not_true, Bool.not_false, Bool.false_eq_true, Bool.true_eq_false, inB_true, inB_false] at hd)))
    | refine ok_ret ?_
    | refine ok_skip ?_
    | (refine ok_region (i := 0) ?_; refine ok_p rfl rfl rfl (by exact ps_assign rfl rfl) ?_; refine ok_nil ?_; refine ok_env [(0, _), (1, _)] ⟨rfl, rfl, trivial⟩ ?_)
    | (refine ok_region (i := 1) ?_; refine ok_p rfl rfl rfl (by exact ps_move rfl rfl) ?_; refine ok_p rfl rfl rfl (by exact ps_len rfl rfl) ?_; refine ok_p rfl rfl rfl (by exact ps_int rfl rfl rfl rfl) ?_; refine ok_nil ?_; refine ok_env [(0, _), (1, _), (10, _)] ⟨rfl, rfl, rfl, trivial⟩ ?_)
    | (refine ok_region (i := 2) ?_; refine ok_p rfl rfl rfl (by exact ps_move rfl rfl) ?_; refine ok_p rfl rfl rfl (by exact ps_assign rfl rfl) ?_; refine ok_nil ?_; refine ok_env [(4, _)] ⟨rfl, trivial⟩ ?_)
    | (refine ok_region (i := 3) ?_; refine ok_p rfl rfl rfl (by exact ps_assign rfl rfl) ?_; refine ok_nil ?_; refine ok_env [(0, _), (1, _), (5, _)] ⟨rfl, rfl, rfl, trivial⟩ ?_))
  · have e : cmpct L = L := by
      cases L with
      | nil => rw [cmpct]
      | cons a T => cases T with
        | nil => rw [cmpct]
        | cons b T => simp only [List.length_cons] at hn; omega
    refine ok_endL (vs := [_]) rfl ⟨rfl, trivial⟩ (fun w' hw => ⟨yM L w', ?_, trivial, ?_⟩)
    · rw [e, hn]; rfl
    · rw [e, hn]; exact hw
  refine ok_loop (ι := CpA L) (fun q => L.length - q.k) (fun q => ([(0, .slice A n c), (1, eqV), (5, .int .i64 q.k)], rwE A n c L :: H, _)) ⟨1, by omega, by rw [adj_zero, takeE_snoc (by omega)]; rfl⟩ (fun ac w he hw => ⟨⟨1, by omega, by rw [adj_zero, takeE_snoc (by omega)]; rfl⟩, he.sub ⟨rfl, rfl, rfl, trivial⟩, hw⟩) ?_
  rintro ⟨k, hk, ad⟩
  simp only at hk ⊢
  have AD := Lib.hid ad; clear ad
  repeat' (first
    | refine ok_seq ?_
    | refine ok_then ?_
    | refine ok_block ?_
    | refine ok_in_normal ?_
    | (refine ok_cond rfl (fun hc => ?_) (fun hc => ?_) <;> (have hd := hc; (try simp only [decide_eq_true_eq, decide_eq_false_iff_not, Bool.or_eq_true, Bool.or_eq_false_iff, Bool.and_eq_true, Bool.and_eq_false_iff, Bool.not_eq_true', Bool.not_eq_false', bne_iff_ne, beq_iff_eq, bne_eq_false_iff_eq, beq_eq_false_iff_ne, ne_eq, Bool.not_true, Bool.not_false, Bool.false_eq_true, Bool.true_eq_false, inB_true, inB_false] at hd)))
    | refine ok_ret ?_
    | refine ok_exit ?_
    | refine ok_skip ?_
    | (refine ok_region (i := 4) ?_; refine ok_p rfl rfl rfl (by exact ps_move rfl rfl) ?_; refine ok_p rfl rfl rfl (by exact ps_move rfl rfl) ?_; refine ok_p rfl rfl rfl (by exact ps_len rfl rfl) ?_; refine ok_p rfl rfl rfl (by exact ps_int rfl rfl rfl rfl) ?_; refine ok_nil ?_; refine ok_env [(0, _), (1, _), (5, _), (15, _)] ⟨rfl, rfl, rfl, rfl, trivial⟩ ?_)
    | (refine ok_region (i := 5) ?_; refine ok_p rfl rfl rfl (by exact ps_move rfl rfl) ?_; refine ok_p rfl rfl rfl (by exact ps_add rfl rfl rfl (by omega)) ?_; refine ok_p rfl rfl rfl (by exact ps_assign rfl rfl) ?_; refine ok_nil ?_; refine ok_env [(0, _), (1, _), (5, _)] ⟨rfl, rfl, rfl, trivial⟩ ?_)
    | (refine ok_draw (id := 6) 11 rfl (by kernel_rfl) (by kernel_rfl) rfl (by repeat (first | exact pq_body | refine pq_then ?_ | refine pq_in ?_)) [0] (by decide) rfl ?_; refine okT_take (i := 0) rfl (by kernel_rfl) rfl rfl rfl (by exact ps_move rfl rfl) ?_; refine okT_take (i := 1) rfl (by kernel_rfl) rfl rfl rfl (by exact ps_move rfl rfl) ?_; refine okT_take (i := 2) rfl (by kernel_rfl) rfl rfl rfl (by exact ps_move rfl rfl) ?_; refine okT_take (i := 3) rfl (by kernel_rfl) rfl rfl rfl (by exact ps_indexN rfl rfl rfl (by omega) (by exact isw_row 0 rfl (by omega))) ?_; refine okT_take (i := 4) rfl (by kernel_rfl) rfl rfl rfl (by exact ps_loadsF (α := Ent) (l := L) (i := k) rfl rfl (rds_row 0 rfl) rfl rfl (by omega) rfl) ?_; refine okT_take (i := 5) rfl (by kernel_rfl) rfl rfl rfl (by exact ps_move rfl rfl) ?_; refine okT_take (i := 6) rfl (by kernel_rfl) rfl rfl rfl (by exact ps_move rfl rfl) ?_; refine okT_take (i := 7) rfl (by kernel_rfl) rfl rfl rfl (by exact ps_cast (v' := .int .i64 ((k - 1 : Nat) : Int)) (ps_sub rfl rfl rfl (by omega)) (by congr 1; omega)) ?_; refine okT_take (i := 8) rfl (by kernel_rfl) rfl rfl rfl (by exact ps_indexN rfl rfl rfl (by omega) (by exact isw_row 0 rfl (by omega))) ?_; refine okT_take (i := 9) rfl (by kernel_rfl) rfl rfl rfl (by exact ps_loadsF (α := Ent) (l := L) (i := k - 1) rfl rfl (rds_row 0 rfl) rfl rfl (by omega) rfl) ?_; refine okT_one (i := 10) rfl rfl (by kernel_rfl) rfl rfl rfl (by exact ms_v2 rfl rfl rfl rfl (fun _ _ w hw => same_c (nth L k) (nth L (k - 1)) w)) (fun y w _ h => by exact h.sel [0] (by decide) rfl (fun _ h => h)) ?_; rintro y28 hy28; refine okT_done (by kernel_rfl) ?_; refine ok_nil ?_; refine ok_env [(0, _), (1, _), (5, _), (28, _)] ⟨rfl, rfl, rfl, rfl, trivial⟩ ?_)
    | (refine ok_region (i := 7) ?_; refine ok_p rfl rfl rfl (by exact ps_move rfl rfl) ?_; refine ok_p rfl rfl rfl (by exact ps_move rfl rfl) ?_; refine ok_p rfl rfl rfl (by exact ps_sliceE (l := k) rfl rfl rfl rfl (by omega) (by omega)) ?_; refine ok_p rfl rfl rfl (by exact ps_assign rfl rfl) ?_; refine ok_nil ?_; refine ok_env [(0, _), (1, _), (5, _), (6, _)] ⟨rfl, rfl, rfl, rfl, trivial⟩ ?_)
    | (refine ok_region (i := 8) ?_; refine ok_p rfl rfl rfl (by exact ps_assign rfl rfl) ?_; refine ok_nil ?_; refine ok_env [(0, _), (1, _), (5, _), (6, _), (7, _)] ⟨rfl, rfl, rfl, rfl, rfl, trivial⟩ ?_)
    | (refine ok_region (i := 16) ?_; refine ok_p rfl rfl rfl (by exact ps_move rfl rfl) ?_; refine ok_p rfl rfl rfl (by exact ps_assign rfl rfl) ?_; refine ok_nil ?_; refine ok_env [(4, _)] ⟨rfl, trivial⟩ ?_))
  · refine ok_loop (ι := CpB L k) (fun q => L.length - q.j) (fun q => ([(0, .slice A n c), (1, eqV), (5, .int .i64 q.k), (6, .slice (if c = k then A else A.map (·.add (k * 4))) (n - k) (c - k)), (7, .int .i64 q.j)], rwE A n c (q.O ++ L.drop q.k) :: H, _)) ⟨1, k, L.take k, by omega, by rw [List.length_take]; omega, by rw [adj_same (by omega) hd, AD.out]⟩ (fun ac w he hw => ⟨⟨1, k, L.take k, by omega, by rw [List.length_take]; omega, by rw [adj_same (by omega) hd, AD.out]⟩, he.sub ⟨rfl, rfl, rfl, rfl, rfl, trivial⟩, by simp only [List.take_append_drop]; exact hw⟩) ?_
    clear AD hc hd
    rename_i hd0
    rintro ⟨j, m, O, hj, hO, ad⟩
    simp only at hj hO ⊢
    obtain ⟨D, eD⟩ : ∃ D, D = O ++ L.drop m := ⟨_, rfl⟩
    have hD : D.length = n := by rw [eD, List.length_append, List.length_drop]; omega
    have hDk : (D.drop k).length = n - k := by rw [List.length_drop, hD]
    have e1 : nth (D.drop k) j = nth L (k + j) := by rw [nth_drop, eD, nth_back hO (by omega)]
    have e2 : nth (D.drop k) (j - 1) = nth L (k + j - 1) := by rw [nth_drop, eD, nth_back hO (by omega)]; congr 1; omega
    have es : m < n → D.set m (nth L (k + j)) = (O ++ [nth L (k + j)]) ++ L.drop (m + 1) := fun h => by rw [eD, set_front hO (by omega)]
    have et : D.take m = O := by rw [eD, List.take_left' hO]
    rw [← eD]
    have ED := Lib.hid eD; clear eD
    have E1 := Lib.hid e1; clear e1
    have E2 := Lib.hid e2; clear e2
    have ES := Lib.hid es; clear es
    have ET := Lib.hid et; clear et
    have AD := Lib.hid ad; clear ad
    have hsm : 0 < (fl (D.drop k)).length → True := fun _ => trivial
    repeat' (first
      | refine ok_seq ?_
      | refine ok_then ?_
      | refine ok_then_ret ?_
      | refine ok_block ?_
      | refine ok_in_normal ?_
      | refine ok_in_ret ?_
      | (refine ok_cond rfl (fun hc => ?_) (fun hc => ?_) <;> (have hd := hc; (try simp only [decide_eq_true_eq, decide_eq_false_iff_not, Bool.or_eq_true, Bool.or_eq_false_iff, Bool.and_eq_true, Bool.and_eq_false_iff, Bool.not_eq_true', Bool.not_eq_false', bne_iff_ne, beq_iff_eq, bne_eq_false_iff_eq, beq_eq_false_iff_ne, ne_eq, Bool.not_true, Bool.not_false, Bool.false_eq_true, Bool.true_eq_false, inB_true, inB_false] at hd)))
      | refine ok_ret ?_
      | refine ok_exit ?_
      | refine ok_skip ?_
      | (refine ok_region (i := 9) ?_; refine ok_p rfl rfl rfl (by exact ps_move rfl rfl) ?_; refine ok_p rfl rfl rfl (by exact ps_move rfl rfl) ?_; refine ok_p rfl rfl rfl (by exact ps_len rfl rfl) ?_; refine ok_p rfl rfl rfl (by exact ps_int rfl rfl rfl rfl) ?_; refine ok_nil ?_; refine ok_env [(0, _), (1, _), (5, _), (6, _), (7, _), (35, _)] ⟨rfl, rfl, rfl, rfl, rfl, rfl, trivial⟩ ?_)
      | (refine ok_region (i := 10) ?_; refine ok_p rfl rfl rfl (by exact ps_move rfl rfl) ?_; refine ok_p rfl rfl rfl (by exact ps_add rfl rfl rfl (by omega)) ?_; refine ok_p rfl rfl rfl (by exact ps_assign rfl rfl) ?_; refine ok_nil ?_; refine ok_env [(0, _), (1, _), (5, _), (6, _), (7, _)] ⟨rfl, rfl, rfl, rfl, rfl, trivial⟩ ?_)
      | (refine ok_draw (id := 11) 12 rfl (by kernel_rfl) (by kernel_rfl) rfl (by repeat (first | exact pq_body | refine pq_then ?_ | refine pq_in ?_)) [0] (by decide) rfl ?_; refine okT_take (i := 0) rfl (by kernel_rfl) rfl rfl rfl (by exact ps_move rfl rfl) ?_; refine okT_take (i := 1) rfl (by kernel_rfl) rfl rfl rfl (by exact ps_move rfl rfl) ?_; refine okT_take (i := 2) rfl (by kernel_rfl) rfl rfl rfl (by exact ps_move rfl rfl) ?_; refine okT_take (i := 3) rfl (by kernel_rfl) rfl rfl rfl (by exact ps_indexN rfl rfl rfl (by omega) (isw_rdsE (rds_tail (rds_row 0 rfl) rfl (by omega) (by omega)) (by rw [fl_len]; show 0 < _ * 4; omega))) ?_; refine okT_take (i := 4) rfl (by kernel_rfl) rfl rfl rfl (by exact ps_cast (v' := .agg (Dat.cells (nth L (k + j))).toArray) (ps_loadsF (α := Ent) (l := D.drop k) (i := j) rfl rfl (rds_tail (rds_row 0 rfl) rfl (by omega) (by omega)) rfl rfl (by omega) rfl) (congrArg (fun x : Ent => Value.agg (Dat.cells x).toArray) E1.out)) ?_; refine okT_take (i := 5) rfl (by kernel_rfl) rfl rfl rfl (by exact ps_move rfl rfl) ?_; refine okT_take (i := 6) rfl (by kernel_rfl) rfl rfl rfl (by exact ps_move rfl rfl) ?_; refine okT_take (i := 7) rfl (by kernel_rfl) rfl rfl rfl (by exact ps_cast (v' := .int .i64 ((j - 1 : Nat) : Int)) (ps_sub rfl rfl rfl (by omega)) (by congr 1; omega)) ?_; refine okT_take (i := 8) rfl (by kernel_rfl) rfl rfl rfl (by exact ps_indexN rfl rfl rfl (by omega) (isw_rdsE (rds_tail (rds_row 0 rfl) rfl (by omega) (by omega)) (by rw [fl_len]; show 0 < _ * 4; omega))) ?_; refine okT_take (i := 9) rfl (by kernel_rfl) rfl rfl rfl (by exact ps_cast (v' := .agg (Dat.cells (nth L (k + j - 1))).toArray) (ps_loadsF (α := Ent) (l := D.drop k) (i := j - 1) rfl rfl (rds_tail (rds_row 0 rfl) rfl (by omega) (by omega)) rfl rfl (by omega) rfl) (congrArg (fun x : Ent => Value.agg (Dat.cells x).toArray) E2.out)) ?_; refine okT_one (i := 10) rfl rfl (by kernel_rfl) rfl rfl rfl (by exact ms_v2 rfl rfl rfl rfl (fun _ _ w hw => same_c (nth L (k + j)) (nth L (k + j - 1)) w)) (fun y w _ h => by exact h.sel [0] (by decide) rfl (fun _ h => h)) ?_; rintro y48 hy48; refine okT_take (i := 11) rfl (by kernel_rfl) rfl rfl rfl (by exact ps_not rfl rfl) ?_; refine okT_done (by kernel_rfl) ?_; refine ok_nil ?_; refine ok_env [(0, _), (1, _), (5, _), (6, _), (7, _), (49, _)] ⟨rfl, rfl, rfl, rfl, rfl, rfl, trivial⟩ ?_)
      | (refine ok_region (i := 12) ?_; refine ok_p rfl rfl rfl (by exact ps_move rfl rfl) ?_; refine ok_p rfl rfl rfl (by exact ps_move rfl rfl) ?_; refine ok_p rfl rfl rfl (by exact ps_move rfl rfl) ?_; refine ok_p rfl rfl rfl (by exact ps_move rfl rfl) ?_; refine ok_p rfl rfl rfl (by exact ps_indexN rfl rfl rfl (by omega) (isw_rdsE (rds_tail (rds_row 0 rfl) rfl (by omega) (by omega)) (by rw [fl_len]; show 0 < _ * 4; omega))) ?_; refine ok_p rfl rfl rfl (by exact ps_cast (v' := .agg (Dat.cells (nth L (k + j))).toArray) (ps_loadsF (α := Ent) (l := D.drop k) (i := j) rfl rfl (rds_tail (rds_row 0 rfl) rfl (by omega) (by omega)) rfl rfl (by omega) rfl) (congrArg (fun x : Ent => Value.agg (Dat.cells x).toArray) E1.out)) ?_; refine ok_p rfl rfl rfl (by exact ps_indexN rfl rfl rfl (by omega) (by exact isw_row 0 rfl (by omega))) ?_; refine ok_m_ rfl rfl (by exact ms_setw (α := Ent) 0 m (nth L (k + j)) rfl rfl rfl rfl rfl rfl rfl rfl rfl (by omega)) ?_; rintro y_ hy_; refine ok_nil ?_; refine ok_env [(0, _), (1, _), (5, _), (6, _), (7, _)] ⟨rfl, rfl, rfl, rfl, rfl, trivial⟩ ?_)
      | (refine ok_region (i := 13) ?_; refine ok_p rfl rfl rfl (by exact ps_move rfl rfl) ?_; refine ok_p rfl rfl rfl (by exact ps_add rfl rfl rfl (by omega)) ?_; refine ok_p rfl rfl rfl (by exact ps_assign rfl rfl) ?_; refine ok_nil ?_; refine ok_env [(0, _), (1, _), (5, _), (6, _), (7, _)] ⟨rfl, rfl, rfl, rfl, rfl, trivial⟩ ?_)
      | (refine ok_region (i := 14) ?_; refine ok_p rfl rfl rfl (by exact ps_move rfl rfl) ?_; refine ok_p rfl rfl rfl (by exact ps_move rfl rfl) ?_; refine ok_p rfl rfl rfl (by exact ps_sliceE (l := m) rfl rfl rfl rfl (by omega) (by omega)) ?_; refine ok_m_ rfl rfl (by exact ms_clear (α := Ent) (L := D) (q := m) (z := [.string ⟨#[]⟩, .int .i64 0, .bool false, .string ⟨#[]⟩]) 0 rfl rfl (fun h => if_neg (by omega)) rfl rfl (by omega) (by omega) (by decide)) ?_; rintro y_ hy_; refine ok_nil ?_; refine ok_env [(0, _), (5, _)] ⟨rfl, rfl, trivial⟩ ?_)
      | (refine ok_region (i := 15) ?_; refine ok_p rfl rfl rfl (by exact ps_move rfl rfl) ?_; refine ok_p rfl rfl rfl (by exact ps_move rfl rfl) ?_; refine ok_p rfl rfl rfl (by exact ps_slice0 (h := m) rfl rfl rfl rfl (by omega)) ?_; refine ok_p rfl rfl rfl (by exact ps_assign rfl rfl) ?_; refine ok_nil ?_; refine ok_env [(4, _)] ⟨rfl, trivial⟩ ?_))
    · refine fun ac w' he hw => ⟨⟨j + 1, m + 1, O ++ [nth L (k + j)], by omega, by rw [List.length_append, hO]; rfl, by rw [show k + (j + 1) = (k + j) + 1 by omega, adj_diff hd, AD.out]⟩, by simp only; omega, he.sub ⟨rfl, rfl, rfl, rfl, rfl, trivial⟩, ?_⟩
      simp only
      rw [← ES.out (by omega)]
      exact hw
    · refine fun ac w' he hw => ⟨⟨j + 1, m, O, by omega, hO, by rw [show k + (j + 1) = (k + j) + 1 by omega, adj_same (by omega) hd, AD.out]⟩, by simp only; omega, he.sub ⟨rfl, rfl, rfl, rfl, rfl, trivial⟩, ?_⟩
      simp only
      rw [← ED.out]
      exact hw
    · have e : cmpct L = O := by rw [← adj_end, ← AD.out]; congr 1; omega
      refine ok_endL (vs := [_]) rfl ⟨rfl, trivial⟩ (fun w' hw => ⟨yM L w', ?_, trivial, ?_⟩)
      · rw [e, hO]; rfl
      · rw [e, hO]
        have := ET.out
        rw [← this]; exact hw
  · exact fun ac w' he hw => ⟨⟨k + 1, by omega, by rw [adj_diff (by simpa using hd), AD.out, takeE_snoc (by omega)]⟩, by simp only; omega, he.sub ⟨rfl, rfl, rfl, trivial⟩, hw⟩
  · have e : cmpct L = L := by rw [← adj_end, show L.length = k by omega, AD.out, List.take_of_length_le (by omega)]
    refine ok_endL (vs := [_]) rfl ⟨rfl, trivial⟩ (fun w' hw => ⟨yM L w', ?_, trivial, ?_⟩)
    · rw [e, hn]; rfl
    · rw [e, hn]; exact hw
theorem ps_clipE {P : Program} {E : Env} {H : List HObj} {G : List World} {o : Oper} {x hi mx : Operand} {t e sz bytes : TypeId} {A : Option Addr} {n c h : Nat} {k' k'' : IntKind} [ht : EL P t e sz bytes] (ho : o.op = .slice t x none (some hi) (some mx)) (hx : opd E x = some (.slice A n c))
    (hhi : opd E hi = some (.int k' (h : Int))) (hm : opd E mx = some (.int k'' (h : Int))) (h3 : h ≤ c) :
    PStep P E H G o (.slice A h h) := fun N base w0 a w he hw => by
  obtain ⟨hu, _, i, z, hi', hz, hs, _, _⟩ := ht.h
  have hb : ∀ (k : IntKind) (q m : Nat) (cd : BoundsCode), q ≤ m → (Instr.sliceBound (.int k (q : Int)) m cd).run P w = .ok q w := fun k q m cd hq => by
    have : (0 : Int) ≤ q ∧ (q : Int) ≤ m := by omega
    simp [Instr.sliceBound, asIntOf, this]
  simp [execOp, ho, he.eval hx, he.eval hhi, he.eval hm, Instr.sliceAt, Instr.slice, Instr.sliceBounds, run_underlying hu, sizeOf, typeInfo, hi', hs, hb k'' h c _ h3, hb k' h h _ (Nat.le_refl _)]
  exact fun _ => by have := add_zero_all A 0; simpa using this
theorem clipE_c (A : Option Addr) (n c : Nat) (h : n ≤ c) (w : World) :
    Calls Try.prog 206 #[.slice A n c] w fun e w' => e = .returned (.slice A n n) ∧ Below w.heap.size w w' := by
  refine ok_enter 9 Try.func206 rfl rfl rfl ?_
  repeat' (first
    | refine ok_seq ?_
    | refine ok_then ?_
    | refine ok_ret ?_
    | (refine ok_region (i := 0) ?_; refine ok_p rfl rfl rfl (by exact ps_assign rfl rfl) ?_; refine ok_nil ?_; refine ok_env [(0, _)] ⟨rfl, trivial⟩ ?_)
    | (refine ok_region (i := 1) ?_; refine ok_p rfl rfl rfl (by exact ps_move rfl rfl) ?_; refine ok_p rfl rfl rfl (by exact ps_move rfl rfl) ?_; refine ok_p rfl rfl rfl (by exact ps_len rfl rfl) ?_; refine ok_p rfl rfl rfl (by exact ps_move rfl rfl) ?_; refine ok_p rfl rfl rfl (by exact ps_len rfl rfl) ?_; refine ok_p rfl rfl rfl (by exact ps_clipE rfl rfl rfl rfl h) ?_; refine ok_p rfl rfl rfl (by exact ps_assign rfl rfl) ?_; refine ok_nil ?_; refine ok_env [(2, _)] ⟨rfl, trivial⟩ ?_))
  exact ok_endL (vs := [_]) rfl ⟨rfl, trivial⟩ (fun w' hw => ⟨rfl, hw.below⟩)
theorem merge_len : ∀ (rows : List (List Ent)) (acc : List Ent), (rows.foldl mrg acc).length ≤ acc.length + rows.flatten.length
  | [], acc => by simp
  | r :: rows, acc => by
    have h1 := merge_len rows (mrg acc r)
    have h2 := mrg_len acc r
    rw [List.foldl_cons, List.flatten_cons, List.length_append]
    omega
theorem merged_c (A : Option Addr) (c : Nat) (R : List (Lc (List Ent))) (w : World) (h : RdN w A R) (hl : R.length ≤ 4194304) (ht : ∀ k, offR List.length (dats R) k ≤ 4194304) (hs : ∀ l ∈ dats R, strE l) :
    Calls Try.prog 166 #[.slice A R.length c] w fun e w' => ∃ y : Ys, e = .returned (.slice (y 0).A (mergeS (dats R)).length (mergeS (dats R)).length) ∧ True ∧ Below w.heap.size w w' ∧ NewOk w.heap.size [.row 71 4 (y 0).A (mergeS (dats R)).length (y 0).c (fl (mergeS (dats R)))] [] w' := by
  have hf : (dats R).flatten.length ≤ 4194304 := by
    have h1 := catEnt_len (dats R) (dats R).length
    rw [List.take_length] at h1
    rw [h1]; exact ht _
  refine ok_enter 11 Try.func166 rfl rfl rfl ?_
  repeat' (first
    | refine ok_seq ?_
    | refine ok_then ?_
    | refine ok_ret ?_
    | (refine ok_region (i := 0) ?_; refine ok_p rfl rfl rfl (by exact ps_assign rfl rfl) ?_; refine ok_nil ?_; refine ok_env [(0, _)] ⟨rfl, trivial⟩ ?_)
    | (refine ok_region (i := 1) ?_; refine ok_p rfl rfl rfl (by exact ps_move rfl rfl) ?_; refine ok_m rfl rfl rfl (by exact ms_c1 rfl rfl (fun _ _ w hw => concatEnt_c A c R w (h.keep hw (by exact List.mem_cons_self)) hl ht)) ?_; rintro y5 hy5; refine ok_p rfl rfl rfl (by exact ps_assign rfl rfl) ?_; refine ok_nil ?_; refine ok_env [(3, _)] ⟨rfl, trivial⟩ ?_)
    | (refine ok_region (i := 2) ?_; refine ok_p rfl rfl rfl (by exact ps_move rfl rfl) ?_; refine ok_m rfl rfl rfl (by exact ms_w2 (fun _ _ _ h => h) rfl rfl rfl (fun _ _ w hw => sortStable_c (y5 0).A _ (y5 0).c (dats R).flatten rfl hf hw)) ?_; rintro y7 hy7; refine ok_nil ?_; refine ok_env [(3, _)] ⟨rfl, trivial⟩ ?_)
    | (refine ok_region (i := 3) ?_; refine ok_p rfl rfl rfl (by exact ps_move rfl rfl) ?_; refine ok_m rfl rfl rfl (by exact ms_w2 (fun _ _ _ h => h) rfl rfl rfl (fun _ _ w hw => compactE_c (y5 0).A _ (y5 0).c (rM y7) hy7.2.2 hf hw)) ?_; rintro y9 hy9; refine ok_m rfl rfl rfl (by exact ms_s1 rfl rfl (fun _ _ w hw => clipE_c (y5 0).A _ (y5 0).c (hw.cap 0 rfl) w)) ?_; rintro y10 hy10; refine ok_p rfl rfl rfl (by exact ps_assign rfl rfl) ?_; refine ok_nil ?_; refine ok_env [(2, _)] ⟨rfl, trivial⟩ ?_))
  have e : cmpct (rM y7) = mergeS (dats R) := merge_same hs hy7.2.1 hy7.1
  exact ok_endL (vs := [_]) rfl ⟨rfl, trivial⟩ (fun w' hw => ⟨y5, by rw [e]; rfl, trivial, hw.below, by rw [e] at hw; exact NewOk.of hw⟩)
end Go.Proofs.Ytbegbdfbfbkflaa
/- FnWalk in plain Lean: forth, back, and what is found. -/
namespace Go.Proofs.Ytbegbdfbfbkflaa
set_option linter.unusedVariables false
set_option linter.unusedSimpArgs false
def onAt (x : DWalk) (k : ByteArray) : DWalk := { x with key := k, on := true }
theorem on_ok {x : DWalk} (h : fWalkOk x = true) (k : ByteArray) : fWalkOk (onAt x k) = true := by
  unfold fWalkOk at h ⊢
  rw [Bool.and_eq_true, Bool.and_eq_true] at h
  show (decide ((offE x.R x.R.length : Int) ≤ 400) && x.R.all inOrd && (true || sEq k ⟨#[]⟩)) = true
  rw [Bool.true_or, Bool.and_true, Bool.and_eq_true]
  exact h.1
theorem on_map (x : DWalk) (k : ByteArray) : mapW (onAt x k) = mapW x := rfl
/-- The walk behind i steps. -/
def stF (w : DWalk) (i : Nat) : DWalk := if i = 0 then w else onAt w (nth (mapW w) (i - 1)).key
def stW (w : DWalk) (i : Nat) : DWalk := if i = 0 then w else onAt w (nth (mapW w) ((mapW w).length - i)).key
theorem fw_ok {w : DWalk} (h : fWalkOk w = true) (i : Nat) : fWalkOk (stF w i) = true ∧ mapW (stF w i) = mapW w := by
  unfold stF; split
  · exact ⟨h, rfl⟩
  · exact ⟨on_ok h _, rfl⟩
theorem bw_ok {w : DWalk} (h : fWalkOk w = true) (i : Nat) : fWalkOk (stW w i) = true ∧ mapW (stW w i) = mapW w := by
  unfold stW; split
  · exact ⟨h, rfl⟩
  · exact ⟨on_ok h _, rfl⟩
theorem nth_lb {m : List KV} (h : srtK m) {i : Nat} (hi : i < m.length) : lbK m (nth m i).key = i ∧ fndK m (nth m i).key = true := by
  have hl : lbK m (nth m i).key = i := lb_ix m _ i (by omega) (fun j hj => srt_ix h hj hi) (fun _ => sLt_irrefl _)
  refine ⟨hl, ?_⟩
  unfold fndK
  rw [hl, sEq_ref, Bool.and_true, decide_eq_true_eq]; omega
theorem fw_step {w : DWalk} (h : fWalkOk w = true) (h0 : w.on = false) {i : Nat} (hi : i ≤ (mapW w).length) : (i < (mapW w).length → fWalkNext (stF w i) = (stF w (i + 1), nth (mapW w) i, true)) ∧ (i = (mapW w).length → (fWalkNext (stF w i)).2.2 = false) := by
  obtain ⟨h1, h2⟩ := fw_ok h i
  have hs := map_srt h
  have hix : nextI (stF w i) (mapW w) = i := by
    by_cases e : i = 0
    · subst e
      unfold nextI stF
      rw [if_pos rfl, if_neg (by rw [h0]; decide)]; rfl
    · unfold nextI stF
      rw [if_neg e]
      obtain ⟨q1, q2⟩ := nth_lb hs (show i - 1 < (mapW w).length by omega)
      show (if true = true then ((lbK (mapW w) (nth (mapW w) (i - 1)).key : Nat) : Int) + (if fndK (mapW w) (nth (mapW w) (i - 1)).key = true then 1 else 0) else 0) = i
      rw [if_pos rfl, q1, q2, if_pos rfl]; omega
  unfold fWalkNext
  rw [if_pos h1, h2, hix]
  unfold standAt
  constructor
  · intro hlt
    rw [if_pos (by omega), Int.toNat_natCast]
    refine Prod.ext ?_ rfl
    show ({ stF w i with key := (nth (mapW w) i).key, on := true } : DWalk) = stF w (i + 1)
    unfold stF
    rw [if_neg (Nat.succ_ne_zero i), Nat.add_sub_cancel]
    split <;> rfl
  · intro e
    rw [if_neg (by omega)]
theorem bw_step {w : DWalk} (h : fWalkOk w = true) (h0 : w.on = false) {i : Nat} (hi : i ≤ (mapW w).length) : (i < (mapW w).length → fWalkPrev (stW w i) = (stW w (i + 1), nth (mapW w) ((mapW w).length - (i + 1)), true)) ∧ (i = (mapW w).length → (fWalkPrev (stW w i)).2.2 = false) := by
  obtain ⟨h1, h2⟩ := bw_ok h i
  have hs := map_srt h
  have hix : prevI (stW w i) (mapW w) = ((mapW w).length : Int) - (i + 1) := by
    by_cases e : i = 0
    · subst e
      unfold prevI stW
      rw [if_pos rfl, if_neg (by rw [h0]; decide)]; omega
    · unfold prevI stW
      rw [if_neg e]
      obtain ⟨q1, q2⟩ := nth_lb hs (show (mapW w).length - i < (mapW w).length by omega)
      show (if true = true then ((lbK (mapW w) (nth (mapW w) ((mapW w).length - i)).key : Nat) : Int) - 1 else ((mapW w).length : Int) - 1) = _
      rw [if_pos rfl, q1]; omega
  unfold fWalkPrev
  rw [if_pos h1, h2, hix]
  unfold standAt
  constructor
  · intro hlt
    rw [if_pos (by omega), show (((mapW w).length : Int) - (i + 1)).toNat = (mapW w).length - (i + 1) by omega]
    refine Prod.ext ?_ rfl
    show ({ stW w i with key := (nth (mapW w) ((mapW w).length - (i + 1))).key, on := true } : DWalk) = stW w (i + 1)
    unfold stW
    rw [if_neg (Nat.succ_ne_zero i)]
    split <;> rfl
  · intro e
    rw [if_neg (by omega)]
/-- What is met is what is told of its key. -/
theorem met {x : DWalk} (h : fWalkOk x = true) {i : Nat} (hi : i < (mapW x).length) : ∃ e, getE (mergeS x.R) (nth (mapW x) i).key x.seq = some e ∧ e.del = false ∧ e.val = (nth (mapW x) i).val := by
  have hs := (mergeS_str (ok_rows h)).1
  have hm := nth_mem (mapW x) i hi
  unfold mapW at hm
  rw [vis_same hs] at hm
  obtain ⟨y, hy, e⟩ := List.mem_map.1 hm
  have hy2 := (List.mem_filter.1 hy).2
  have hm2 : nth (mapW x) i = kvE y := by unfold mapW; rw [vis_same hs, ← e]
  rw [hm2]
  show ∃ e, getE (mergeS x.R) y.key x.seq = some e ∧ e.del = false ∧ e.val = y.val
  unfold mapPick at hy2
  cases hg : getE (mergeS x.R) y.key x.seq with
  | none => rw [hg] at hy2; cases hy2
  | some z =>
    rw [hg] at hy2
    simp only [Bool.and_eq_true, Bool.not_eq_true', decide_eq_true_eq] at hy2
    refine ⟨z, rfl, hy2.1, ?_⟩
    have hz := List.mem_of_find?_eq_some hg
    have hk := ((isK_iff _ _ _).1 (List.find?_some hg)).1
    have hse : sameE z y = true := by unfold sameE; rw [hk, sEq_ref, hy2.2]; simp
    have e1 := (find_str hs z).2 hz
    have e2 := (find_str hs y).2 (List.mem_filter.1 hy).1
    have : (mergeS x.R).find? (sameE z) = (mergeS x.R).find? (sameE y) := by
      congr 1
      funext q
      cases h6 : sameE y q with
      | true => exact same_trans (by rw [same_sym]; exact hse) h6
      | false =>
        cases h7 : sameE z q with
        | false => rfl
        | true => have := same_trans hse h7; rw [h6] at this; cases this
    rw [e1, e2] at this
    cases this; rfl
theorem map_len (x : DWalk) (h : fWalkOk x = true) : (mapW x).length ≤ (mergeS x.R).length := by
  unfold mapW
  rw [vis_same (mergeS_str (ok_rows h)).1]
  unfold sMap
  rw [List.length_map]
  exact List.length_filter_le _ _
/-- The element behind a front. -/
theorem nth_mid : ∀ (L A D : List KV) (y : KV), A ++ y :: D = L → nth L A.length = y := by
  rintro _ A D y rfl
  unfold nth
  simp [List.getD_eq_getElem?_getD]
/-- What a seek finds is not below. -/
theorem seek_ge {x : DWalk} (h : fWalkOk x = true) (key : ByteArray) : (fWalkSeek x key).2.2 = true → sLt (fWalkSeek x key).2.1.key key = false := by
  have hs := map_srt h
  unfold fWalkSeek standAt
  rw [if_pos h]
  split
  · rename_i c
    intro _
    show sLt (nth (mapW x) ((lbK (mapW x) key : Nat) : Int).toNat).key key = false
    rw [Int.toNat_natCast]
    have hlt : lbK (mapW x) key < (mapW x).length := by omega
    cases ht : tlK (mapW x) key with
    | nil =>
      have := congrArg List.length (hd_tl (mapW x) key)
      rw [ht, List.length_append, lb_len] at this
      simp at this; omega
    | cons y D =>
      have e : nth (mapW x) (lbK (mapW x) key) = y := by
        have h1 := hd_tl (mapW x) key
        rw [ht] at h1
        rw [← lb_len]; exact nth_mid _ _ _ _ h1
      rw [e]
      have h3 : (tlK (mapW x) key).head? = some y := by rw [ht]; rfl
      unfold tlK at h3
      have h4 := List.head?_dropWhile_not (fun x : KV => sLt x.key key) (mapW x)
      rw [h3] at h4
      simpa using h4
  · intro hf; cases hf
end Go.Proofs.Ytbegbdfbfbkflaa
