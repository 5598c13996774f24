/- Plain: the longest match among the last bytes, told twice, is one; the packed text. -/
import Derived.Test.YtfcnimglcialbaaStr
namespace Go.Proofs.Ytfcnimglcialbaa
set_option linter.unusedVariables false
/-- Byte k of a string. -/
def gb (s : ByteArray) (k : Nat) : UInt8 := s[k]!
theorem gb_eq (s : ByteArray) (k : Nat) (h : k < s.size) : gb s k = s[k] := getElem!_pos s k h
theorem gb_data (s : ByteArray) (k : Nat) (h : k < s.size) : s.data.toList[k]? = some (gb s k) := by
  rw [gb_eq s k h]; simp [ByteArray.getElem_eq_getElem_data]
/-- n bytes at a and at c are one. -/
def sameN (s : ByteArray) (a c n : Nat) : Bool := (s.extract a (a + n)).toList == (s.extract c (c + n)).toList
theorem sameN_iff (s : ByteArray) (a c n : Nat) (ha : a + n ≤ s.size) (hc : c + n ≤ s.size) : sameN s a c n = true ↔ ∀ i, i < n → gb s (a + i) = gb s (c + i) := by
  unfold sameN
  rw [beq_iff_eq]
  simp only [ByteArray.toList_eq, ByteArray.data_extract, Array.toList_extract, List.extract_eq_take_drop]
  constructor
  · intro h i hi
    have h2 := congrArg (fun l => l[i]?) h
    simp only [List.getElem?_take, List.getElem?_drop, show i < a + n - a by omega, show i < c + n - c by omega, if_true] at h2
    rw [gb_data s _ (by omega), gb_data s _ (by omega)] at h2
    exact Option.some.inj h2
  · intro h
    apply List.ext_getElem?
    intro i
    simp only [List.getElem?_take, List.getElem?_drop]
    by_cases hi : i < n
    · rw [if_pos (by omega), if_pos (by omega), gb_data s _ (by omega), gb_data s _ (by omega), h i hi]
    · rw [if_neg (by omega), if_neg (by omega)]
/-- One more byte of the match at distance d. -/
def mGo (s : ByteArray) (at' d n : Nat) : Bool := decide (n < 18) && decide (n < d) && decide (at' + n < s.size) && (gb s (at' - d + n) == gb s (at' + n))
def mFrom (s : ByteArray) (at' d : Nat) : Nat → Nat → Nat
  | 0, n => n
  | f + 1, n => if mGo s at' d n then mFrom s at' d f (n + 1) else n
def mLen (s : ByteArray) (at' d : Nat) : Nat := mFrom s at' d 18 0
def bFrom (s : ByteArray) (at' : Nat) : Nat → Nat → Nat → Nat → Nat × Nat
  | 0, _, best, far => (best, far)
  | f + 1, d, best, far => if d ≤ 60 ∧ d ≤ at' then (if 3 ≤ mLen s at' d ∧ best < mLen s at' d then bFrom s at' f (d + 1) (mLen s at' d) d else bFrom s at' f (d + 1) best far) else (best, far)
def best (s : ByteArray) (at' : Nat) : Nat × Nat := bFrom s at' 60 1 0 0
def iFrom (s : ByteArray) (at' n : Nat) : Nat → Nat → Nat
  | 0, _ => 0
  | f + 1, back => if back ≤ 60 ∧ back ≤ at' then (if sameN s (at' - back) at' n then back else iFrom s at' n f (back + 1)) else 0
def oFrom (s : ByteArray) (at' : Nat) : Nat → Nat × Nat
  | 0 => (0, 0)
  | n + 1 => if n < 2 then (0, 0) else if iFrom s at' (n + 1) 61 (n + 1) = 0 then oFrom s at' n else (n + 1, iFrom s at' (n + 1) 61 (n + 1))
def matchP (s : ByteArray) (at' : Nat) : Nat × Nat := oFrom s at' (min 18 (s.size - at'))

/-- mFrom stops where it says: all before go, the last does not. -/
theorem mFrom_spec (s : ByteArray) (at' d : Nat) : ∀ f n, n + f = 18 → (∀ i, i < n → mGo s at' d i = true) → let m := mFrom s at' d f n; n ≤ m ∧ (∀ i, i < m → mGo s at' d i = true) ∧ mGo s at' d m = false := by
  intro f
  induction f with
  | zero => intro n hn h; exact ⟨Nat.le_refl _, h, by (obtain rfl : n = 18 := by omega); simp [mFrom, mGo]⟩
  | succ f ih =>
    intro n hn h
    simp only [mFrom]
    split
    · rename_i hg
      have := ih (n + 1) (by omega) (fun i hi => by rcases Nat.lt_succ_iff_lt_or_eq.1 hi with h1 | h1; exact h i h1; exact h1 ▸ hg)
      exact ⟨by have := this.1; omega, this.2⟩
    · rename_i hg; exact ⟨Nat.le_refl _, h, by simpa using hg⟩
theorem mLen_spec (s : ByteArray) (at' d : Nat) : (∀ i, i < mLen s at' d → mGo s at' d i = true) ∧ mGo s at' d (mLen s at' d) = false :=
  (mFrom_spec s at' d 18 0 rfl (fun i hi => by omega)).2
theorem mLen_le (s : ByteArray) (at' d : Nat) : mLen s at' d ≤ 18 ∧ mLen s at' d ≤ d ∧ (at' ≤ s.size → at' + mLen s at' d ≤ s.size) := by
  have h := (mLen_spec s at' d).1
  rcases Nat.eq_zero_or_pos (mLen s at' d) with h0 | h0
  · rw [h0]; omega
  · have := h (mLen s at' d - 1) (by omega)
    simp [mGo] at this
    omega
theorem le_mLen (s : ByteArray) (at' d n : Nat) (hn : n ≤ 18) (hd : n ≤ d) (hda : d ≤ at') (hs : at' + n ≤ s.size) : n ≤ mLen s at' d ↔ sameN s (at' - d) at' n = true := by
  rw [sameN_iff s _ _ _ (by omega) hs]
  constructor
  · intro h i hi
    have := (mLen_spec s at' d).1 i (by omega)
    simp [mGo] at this
    exact this.2
  · intro h
    rcases Nat.lt_or_ge (mLen s at' d) n with hlt | hge
    · have := (mLen_spec s at' d).2
      simp [mGo] at this
      exact absurd (h _ hlt) (this (by omega) (by omega) (by omega))
    · exact hge
theorem mFrom_go {s : ByteArray} {at' d f n X : Nat} (h : mFrom s at' d f n = X) (hn : n + f = 18) (hg : mGo s at' d n = true) : ∃ f', f = f' + 1 ∧ mFrom s at' d f' (n + 1) = X := by
  rcases f with _ | f
  · simp [mGo] at hg; omega
  · exact ⟨f, rfl, by rw [← h, mFrom, if_pos hg]⟩
theorem mFrom_stop {s : ByteArray} {at' d f n X : Nat} (h : mFrom s at' d f n = X) (hg : mGo s at' d n = false) : X = n := by
  rcases f with _ | f
  · exact h.symm
  · rw [← h, mFrom, if_neg (by rw [hg]; exact Bool.false_ne_true)]
theorem mGo_true {s : ByteArray} {at' d n : Nat} (hg : mGo s at' d n = true) (hd : d ≤ at') : n < 18 ∧ n < d ∧ ∃ (h1 : at' + n < s.size) (h2 : at' - d + n < s.size), (((s[at' - d + n].toNat : Nat) : Int) == ((s[at' + n].toNat : Nat) : Int)) = true := by
  simp [mGo] at hg
  obtain ⟨⟨⟨a, b⟩, c⟩, e⟩ := hg
  refine ⟨a, b, c, by omega, ?_⟩
  rw [gb_eq s _ (by omega), gb_eq s _ c] at e
  rw [e]; simp
theorem mGo_false {s : ByteArray} {at' d n : Nat} (hg : mGo s at' d n = false) (hd : d ≤ at') (a : n < 18) (b : n < d) (h1 : at' + n < s.size) (h2 : at' - d + n < s.size) : (((s[at' - d + n].toNat : Nat) : Int) == ((s[at' + n].toNat : Nat) : Int)) = false := by
  simp only [mGo, a, b, h1, decide_true, Bool.true_and] at hg
  rw [gb_eq s _ h2, gb_eq s _ h1] at hg
  rw [beq_eq_false_iff_ne] at hg ⊢
  intro e
  exact hg (UInt8.toNat_inj.1 (by omega))
theorem bFrom_step {s : ByteArray} {at' f d b r : Nat} {X : Nat × Nat} (h : bFrom s at' f d b r = X) (h1 : d + f = 61) (h2 : d ≤ 60) (h3 : d ≤ at') : ∃ f', f = f' + 1 ∧
    ((3 ≤ mLen s at' d ∧ b < mLen s at' d) → bFrom s at' f' (d + 1) (mLen s at' d) d = X) ∧ (¬ (3 ≤ mLen s at' d ∧ b < mLen s at' d) → bFrom s at' f' (d + 1) b r = X) := by
  rcases f with _ | f
  · omega
  · refine ⟨f, rfl, fun h4 => ?_, fun h4 => ?_⟩
    · rw [← h, bFrom, if_pos ⟨h2, h3⟩, if_pos h4]
    · rw [← h, bFrom, if_pos ⟨h2, h3⟩, if_neg h4]
theorem bFrom_stop {s : ByteArray} {at' f d b r : Nat} {X : Nat × Nat} (h : bFrom s at' f d b r = X) (h2 : ¬ (d ≤ 60 ∧ d ≤ at')) : X = (b, r) := by
  rcases f with _ | f
  · exact h.symm
  · rw [← h, bFrom, if_neg h2]
theorem iFrom_step {s : ByteArray} {at' n f b X : Nat} (h : iFrom s at' n f b = X) (hb : b ≤ 60 ∧ b ≤ at') (hf : 0 < f) : ∃ f', f = f' + 1 ∧
    (sameN s (at' - b) at' n = true → X = b) ∧ (sameN s (at' - b) at' n = false → iFrom s at' n f' (b + 1) = X) := by
  rcases f with _ | f
  · omega
  · refine ⟨f, rfl, fun h4 => ?_, fun h4 => ?_⟩
    · rw [← h, iFrom, if_pos hb, if_pos h4]
    · rw [← h, iFrom, if_pos hb, if_neg (by rw [h4]; exact Bool.false_ne_true)]
theorem iFrom_stop {s : ByteArray} {at' n f b X : Nat} (h : iFrom s at' n f b = X) (hb : ¬ (b ≤ 60 ∧ b ≤ at')) : X = 0 := by
  rcases f with _ | f
  · exact h.symm
  · rw [← h, iFrom, if_neg hb]
theorem oFrom_found {s : ByteArray} {at' m b : Nat} {B : Nat × Nat} (h : oFrom s at' (m + 1) = B) (h3 : 3 ≤ m + 1) (hx : iFrom s at' (m + 1) 61 (m + 1) = b) (hb : 0 < b) : B = (m + 1, b) := by
  rw [← h, oFrom, if_neg (by omega), hx, if_neg (by omega)]
theorem oFrom_next {s : ByteArray} {at' m : Nat} {B : Nat × Nat} (h : oFrom s at' (m + 1) = B) (h3 : 3 ≤ m + 1) (hx : iFrom s at' (m + 1) 61 (m + 1) = 0) : oFrom s at' m = B := by
  rw [← h, oFrom, if_neg (by omega), if_pos hx]
theorem oFrom_found' {s : ByteArray} {at' m b : Nat} {B : Nat × Nat} (h : oFrom s at' m = B) (h3 : 3 ≤ m) (hx : iFrom s at' m 61 m = b) (hb : 0 < b) : B = (m, b) := by
  obtain ⟨m, rfl⟩ : ∃ m', m = m' + 1 := ⟨m - 1, by omega⟩
  exact oFrom_found h h3 hx hb
theorem oFrom_next' {s : ByteArray} {at' m : Nat} {B : Nat × Nat} (h : oFrom s at' m = B) (h3 : 3 ≤ m) (hx : iFrom s at' m 61 m = 0) : oFrom s at' (m - 1) = B := by
  obtain ⟨m, rfl⟩ : ∃ m', m = m' + 1 := ⟨m - 1, by omega⟩
  exact oFrom_next h h3 hx
theorem oFrom_stop {s : ByteArray} {at' m : Nat} {B : Nat × Nat} (h : oFrom s at' m = B) (h3 : ¬ 3 ≤ m) : B = (0, 0) := by
  rw [← h]
  rcases m with _ | m
  · rfl
  · rw [oFrom, if_pos (by omega)]
/-- What the best is. -/
def IsBest (s : ByteArray) (at' : Nat) (D : Nat) (r : Nat × Nat) : Prop :=
  (r = (0, 0) ∧ ∀ d, 1 ≤ d → d < D → mLen s at' d < 3) ∨
  (3 ≤ r.1 ∧ 1 ≤ r.2 ∧ r.2 < D ∧ mLen s at' r.2 = r.1 ∧ (∀ d, 1 ≤ d → d < D → mLen s at' d ≤ r.1) ∧ ∀ d, 1 ≤ d → d < r.2 → mLen s at' d < r.1)
theorem IsBest.unique {s : ByteArray} {at' D : Nat} {r q : Nat × Nat} (h : IsBest s at' D r) (k : IsBest s at' D q) : r = q := by
  rcases h with ⟨h1, h2⟩ | ⟨h1, h2, h3, h4, h5, h6⟩ <;> rcases k with ⟨k1, k2⟩ | ⟨k1, k2, k3, k4, k5, k6⟩
  · rw [h1, k1]
  · have := h2 _ k2 k3; omega
  · have := k2 _ h2 h3; omega
  · have e1 : r.1 = q.1 := by have := h5 _ k2 k3; have := k5 _ h2 h3; omega
    have e2 : r.2 = q.2 := by
      rcases Nat.lt_trichotomy r.2 q.2 with h | h | h
      · have := k6 _ h2 h; omega
      · exact h
      · have := h6 _ k2 h; omega
    exact Prod.ext e1 e2
theorem bFrom_best (s : ByteArray) (at' : Nat) : ∀ f d b r, 1 ≤ d → d ≤ 61 → d ≤ at' + 1 → d + f = 61 → IsBest s at' d (b, r) → IsBest s at' (min 60 at' + 1) (bFrom s at' f d b r) := by
  intro f
  induction f with
  | zero => intro d b r h1 h2 h3 h4 h; simp only [bFrom]; have : min 60 at' + 1 = d := by omega
            rw [this]; exact h
  | succ f ih =>
    intro d b r h1 h2 h3 h4 h
    simp only [bFrom]
    split
    · rename_i hd
      split
      · rename_i hm
        refine ih (d + 1) _ _ (by omega) (by omega) (by omega) (by omega) (.inr ⟨hm.1, h1, by simp, rfl, ?_, ?_⟩)
        · intro d' h1' h2'
          rcases Nat.lt_succ_iff_lt_or_eq.1 h2' with hlt | heq
          · rcases h with ⟨he, hh⟩ | ⟨_, _, _, _, hh, _⟩
            · have := hh d' h1' hlt; simp; omega
            · have := hh d' h1' hlt; simp at this ⊢; omega
          · subst heq; simp
        · intro d' h1' h2'
          simp at h2' ⊢
          rcases h with ⟨he, hh⟩ | ⟨_, _, _, _, hh, _⟩
          · have := hh d' h1' h2'; omega
          · have := hh d' h1' h2'; simp at this; omega
      · rename_i hm
        refine ih (d + 1) _ _ (by omega) (by omega) (by omega) (by omega) ?_
        rcases h with ⟨he, hh⟩ | ⟨a1, a2, a3, a4, a5, a6⟩
        · refine .inl ⟨he, fun d' h1' h2' => ?_⟩
          rcases Nat.lt_succ_iff_lt_or_eq.1 h2' with hlt | heq
          · exact hh d' h1' hlt
          · subst heq; cases he; omega
        · refine .inr ⟨a1, a2, by omega, a4, fun d' h1' h2' => ?_, a6⟩
          rcases Nat.lt_succ_iff_lt_or_eq.1 h2' with hlt | heq
          · exact a5 d' h1' hlt
          · subst heq; simp at a1 ⊢; omega
    · have : min 60 at' + 1 = d := by omega
      rw [this]; exact h
theorem best_best (s : ByteArray) (at' : Nat) : IsBest s at' (min 60 at' + 1) (best s at') :=
  bFrom_best s at' 60 1 0 0 (by omega) (by omega) (by omega) rfl (.inl ⟨rfl, fun d h1 h2 => by omega⟩)
theorem iFrom_spec (s : ByteArray) (at' n : Nat) (hn : 1 ≤ n) : ∀ f back, back + f ≥ 61 → 1 ≤ back → let r := iFrom s at' n f back; (r = 0 ∧ ∀ d, back ≤ d → d ≤ min 60 at' → sameN s (at' - d) at' n = false) ∨ (back ≤ r ∧ r ≤ min 60 at' ∧ sameN s (at' - r) at' n = true ∧ ∀ d, back ≤ d → d < r → sameN s (at' - d) at' n = false) := by
  intro f
  induction f with
  | zero => intro back h1 h2; exact .inl ⟨rfl, fun d a b => by omega⟩
  | succ f ih =>
    intro back h1 h2
    simp only [iFrom]
    split
    · rename_i hb
      split
      · rename_i hs; exact .inr ⟨Nat.le_refl _, by omega, hs, fun d a b => by omega⟩
      · rename_i hs
        have hs' : sameN s (at' - back) at' n = false := by simpa using hs
        rcases ih (back + 1) (by omega) (by omega) with ⟨a, b⟩ | ⟨a, b, c, e⟩
        · refine .inl ⟨a, fun d h3 h4 => ?_⟩
          rcases Nat.eq_or_lt_of_le h3 with h5 | h5
          · subst h5; exact hs'
          · exact b d h5 h4
        · refine .inr ⟨by omega, b, c, fun d h3 h4 => ?_⟩
          rcases Nat.eq_or_lt_of_le h3 with h5 | h5
          · subst h5; exact hs'
          · exact e d h5 h4
    · exact .inl ⟨rfl, fun d a b => by omega⟩
theorem oFrom_best (s : ByteArray) (at' : Nat) (hs : at' ≤ s.size) : ∀ n, n ≤ min 18 (s.size - at') → (∀ d, 1 ≤ d → d < min 60 at' + 1 → mLen s at' d ≤ n) → IsBest s at' (min 60 at' + 1) (oFrom s at' n) := by
  intro n
  induction n with
  | zero => intro hn h; exact .inl ⟨rfl, fun d a b => by have := h d a b; omega⟩
  | succ n ih =>
    intro hn h
    simp only [oFrom]
    split
    · exact .inl ⟨rfl, fun d a b => by have := h d a b; omega⟩
    · rename_i h2
      have key := fun d (h1 : n + 1 ≤ d) (h3 : d ≤ min 60 at') => le_mLen s at' d (n + 1) (by omega) h1 (by omega) (by omega)
      rcases iFrom_spec s at' (n + 1) (by omega) 61 (n + 1) (by omega) (by omega) with ⟨a, b⟩ | ⟨a, b, c, e⟩
      · rw [if_pos a]
        refine ih (by omega) fun d h1 h3 => ?_
        have h4 := h d h1 h3
        rcases Nat.lt_or_ge (mLen s at' d) (n + 1) with h5 | h5
        · omega
        · have h6 := (mLen_le s at' d).2.1
          have h7 := (key d (by omega) (by omega)).1 h5
          rw [b d (by omega) (by omega)] at h7; cases h7
      · rw [if_neg (by omega)]
        have h7 := (key _ a b).2 c
        refine .inr ⟨by simp; omega, by simp; omega, by simp; omega, ?_, h, fun d h1 h3 => ?_⟩
        · have := h _ (show 1 ≤ iFrom s at' (n + 1) 61 (n + 1) by omega) (by omega)
          simp; omega
        · simp at h3 ⊢
          rcases Nat.lt_or_ge (mLen s at' d) (n + 1) with h5 | h5
          · exact h5
          · have h6 := (mLen_le s at' d).2.1
            have h8 := (key d (by omega) (by omega)).1 h5
            rw [e d (by omega) h3] at h8; cases h8
theorem matchP_eq (s : ByteArray) (at' : Nat) (hs : at' ≤ s.size) : matchP s at' = best s at' :=
  (oFrom_best s at' hs _ (Nat.le_refl _) fun d h1 h2 => by have := mLen_le s at' d; have := this.2.2 hs; omega).unique (best_best s at')
theorem best_le (s : ByteArray) (at' : Nat) (hs : at' ≤ s.size) : (best s at').1 ≤ 18 ∧ (best s at').2 ≤ 60 ∧ at' + (best s at').1 ≤ s.size ∧ (best s at').1 ≤ (best s at').2 ∧ (best s at').2 ≤ at' ∧ ((best s at').1 = 0 ∨ 3 ≤ (best s at').1) := by
  rcases best_best s at' with ⟨h, _⟩ | ⟨h1, h2, h3, h4, _⟩
  · rw [h]; simp; omega
  · have := mLen_le s at' (best s at').2
    rw [h4] at this
    have := this.2.2 hs
    omega
/-- The packed text from a place on. -/
def pkStep (s : ByteArray) (at' : Nat) : List UInt8 := if (best s at').1 = 0 then [0, gb s at'] else [1, UInt8.ofNat (best s at').2, UInt8.ofNat (best s at').1]
def pkNext (s : ByteArray) (at' : Nat) : Nat := if (best s at').1 = 0 then at' + 1 else at' + (best s at').1
def pkFrom (s : ByteArray) : Nat → Nat → List UInt8
  | 0, _ => []
  | f + 1, at' => if at' < s.size then pkStep s at' ++ pkFrom s f (pkNext s at') else []
def pkL (s : ByteArray) : List UInt8 := if 200 < s.size then [] else pkFrom s s.size 0
theorem best_zero {s : ByteArray} {k : Nat} (h : (best s k).1 = 0) : best s k = (0, 0) := by
  rcases best_best s k with ⟨h1, _⟩ | ⟨h1, _⟩
  · exact h1
  · omega
theorem pk_zero {s : ByteArray} {k f : Nat} {l X : List UInt8} (h : l ++ pkFrom s f k = X) (hk : k < s.size) (hf : 0 < f) (hz : (best s k).1 = 0) : ∃ f', f = f' + 1 ∧ (l ++ [0, gb s k]) ++ pkFrom s f' (k + 1) = X := by
  rcases f with _ | f
  · omega
  · refine ⟨f, rfl, ?_⟩
    rw [← h, pkFrom, if_pos hk, pkStep, if_pos hz, pkNext, if_pos hz, List.append_assoc]
theorem pk_more {s : ByteArray} {k f n d : Nat} {l X : List UInt8} (h : l ++ pkFrom s f k = X) (hk : k < s.size) (hf : 0 < f) (hb : best s k = (n, d)) (hz : n ≠ 0) : ∃ f', f = f' + 1 ∧ (l ++ [1, UInt8.ofNat d, UInt8.ofNat n]) ++ pkFrom s f' (k + n) = X := by
  rcases f with _ | f
  · omega
  · refine ⟨f, rfl, ?_⟩
    rw [← h, pkFrom, if_pos hk, pkStep, pkNext, hb]
    simp [hz]
theorem pk_end {s : ByteArray} {k f : Nat} {l X : List UInt8} (h : l ++ pkFrom s f k = X) (hk : ¬ k < s.size) : X = l := by
  rcases f with _ | f
  · rw [← h]; simp [pkFrom]
  · rw [← h, pkFrom, if_neg hk]; simp
theorem pkFrom_len (s : ByteArray) : ∀ f a, (pkFrom s f a).length ≤ 3 * f := by
  intro f; induction f with
  | zero => intro a; simp [pkFrom]
  | succ f ih =>
    intro a
    simp only [pkFrom]
    split
    · have := ih (pkNext s a)
      have h2 : (pkStep s a).length ≤ 3 := by unfold pkStep; split <;> simp
      simp; omega
    · simp
end Go.Proofs.Ytfcnimglcialbaa
