/- Maps with a key put or dropped, in plain Lean. -/
import Derived.Test.YtbegbdfbfbkflaaDfm
namespace Go.Proofs.Ytbegbdfbfbkflaa
set_option linter.unusedVariables false
def ltK (x y : KV) : Prop := sLt x.key y.key = true
def srtK (R : List KV) : Prop := R.Pairwise ltK
theorem keyAt_eq (l : List KV) (i : Nat) (h : i < l.length) : keyAt l i = l[i].key := by
  unfold keyAt nth; rw [List.getD_eq_getElem?_getD, List.getElem?_eq_getElem h]; rfl
theorem srtK_iff {R : List KV} : sortedK R ↔ srtK R := by
  unfold sortedK srtK
  rw [List.pairwise_iff_getElem]
  constructor
  · intro h i j hi hj hij
    have := h i j hij hj
    rw [keyAt_eq _ _ hi, keyAt_eq _ _ hj] at this
    exact this
  · intro h i j hij hj
    have := h i j (by omega) hj hij
    rw [keyAt_eq _ _ (by omega), keyAt_eq _ _ hj]
    exact this
def neK (k : ByteArray) (x : KV) : Bool := !sEq x.key k
theorem sEq_irr {a b : ByteArray} (h : sLt a b = true) : sEq a b = false := by
  cases he : sEq a b
  · rfl
  · rw [sEq_eq he, sLt_irrefl] at h; cases h
theorem sEq_irr' {a b : ByteArray} (h : sLt b a = true) : sEq a b = false := by
  cases he : sEq a b
  · rfl
  · rw [sEq_eq he, sLt_irrefl] at h; cases h
theorem lt_of_not {a b : ByteArray} (h1 : sLt a b = false) (h2 : sEq a b = false) : sLt b a = true := by
  have := sLt_or_eq a b
  rw [h1, h2] at this
  simpa using this.symm
/-- What is ahead of a key, what is not. -/
def hdK (R : List KV) (k : ByteArray) : List KV := R.takeWhile (fun x => sLt x.key k)
def tlK (R : List KV) (k : ByteArray) : List KV := R.dropWhile (fun x => sLt x.key k)
theorem hd_tl (R : List KV) (k : ByteArray) : hdK R k ++ tlK R k = R := List.takeWhile_append_dropWhile
theorem lb_len (R : List KV) (k : ByteArray) : (hdK R k).length = lbK R k := rfl
theorem take_lb (R : List KV) (k : ByteArray) : R.take (lbK R k) = hdK R k := by
  have h : (hdK R k ++ tlK R k).take (lbK R k) = hdK R k := List.take_left' (lb_len R k)
  rwa [hd_tl] at h
theorem drop_lb (R : List KV) (k : ByteArray) : R.drop (lbK R k) = tlK R k := by
  have h : (hdK R k ++ tlK R k).drop (lbK R k) = tlK R k := List.drop_left' (lb_len R k)
  rwa [hd_tl] at h
theorem hd_lt (R : List KV) (k : ByteArray) : ∀ x ∈ hdK R k, sLt x.key k = true := by
  unfold hdK
  induction R with
  | nil => intro x h; simp at h
  | cons a R ih =>
    intro x h
    rw [List.takeWhile_cons] at h
    split at h
    · rcases List.mem_cons.1 h with rfl | h
      · assumption
      · exact ih x h
    · simp at h
theorem tl_ge {R : List KV} {k : ByteArray} {x : KV} {D : List KV} (h : tlK R k = x :: D) : sLt x.key k = false := by
  unfold tlK at h
  induction R with
  | nil => simp at h
  | cons a R ih =>
    rw [List.dropWhile_cons] at h
    split at h
    · exact ih h
    · rename_i hn; cases h; simpa using hn
theorem tl_gt {R : List KV} (hs : srtK R) {k : ByteArray} {x : KV} {D : List KV} (h : tlK R k = x :: D) : ∀ y ∈ D, sLt k y.key = true := by
  have h1 := tl_ge h
  have h2 : srtK (x :: D) := by rw [← h]; exact List.Pairwise.sublist (List.dropWhile_sublist _) hs
  intro y hy
  have h3 : sLt x.key y.key = true := (List.pairwise_cons.1 h2).1 y hy
  cases he : sEq x.key k
  · exact sLt_trans (lt_of_not h1 he) h3
  · rw [sEq_eq he] at h3; exact h3
theorem fnd_iff (R : List KV) (k : ByteArray) : fndK R k = true ↔ ∃ x D, tlK R k = x :: D ∧ sEq x.key k = true := by
  unfold fndK
  have hl := congrArg List.length (hd_tl R k)
  rw [List.length_append, lb_len] at hl
  have hn : ∀ x D, tlK R k = x :: D → nth R (lbK R k) = x := fun x D h => by
    unfold nth
    rw [List.getD_eq_getElem?_getD]
    have : R[lbK R k]? = (R.drop (lbK R k))[0]? := by rw [List.getElem?_drop, Nat.add_zero]
    rw [this, drop_lb, h]; rfl
  rw [Bool.and_eq_true]
  constructor
  · rintro ⟨h1, h2⟩
    cases hd : tlK R k with
    | nil => rw [hd] at hl; simp at hl h1; omega
    | cons x D => exact ⟨x, D, rfl, by rw [hn x D hd] at h2; exact h2⟩
  · rintro ⟨x, D, hd, he⟩
    rw [hd] at hl
    refine ⟨by simp at hl ⊢; omega, by rw [hn x D hd]; exact he⟩
theorem filt_hd (R : List KV) (k : ByteArray) : (hdK R k).filter (neK k) = hdK R k := List.filter_eq_self.2 fun x hx => by
  unfold neK; rw [sEq_irr (hd_lt R k x hx)]; rfl
theorem filt_gt {D : List KV} {k : ByteArray} (h : ∀ y ∈ D, sLt k y.key = true) : D.filter (neK k) = D := List.filter_eq_self.2 fun x hx => by
  unfold neK; rw [sEq_irr' (h x hx)]; rfl
/-- Without a key; with a key put. -/
def drpF (R : List KV) (k : ByteArray) : List KV := R.filter (neK k)
def putF (R : List KV) (k v : ByteArray) : List KV := (hdK R k ++ [⟨k, v⟩]) ++ (tlK R k).filter (neK k)
theorem drp_split (R : List KV) (k : ByteArray) : drpF R k = hdK R k ++ (tlK R k).filter (neK k) := by
  unfold drpF
  conv => lhs; rw [← hd_tl R k, List.filter_append, filt_hd]
theorem tl_filt {R : List KV} (hs : srtK R) (k : ByteArray) : (tlK R k).filter (neK k) = if fndK R k = true then (tlK R k).drop 1 else tlK R k := by
  cases hd : tlK R k with
  | nil =>
    have : ¬ fndK R k = true := fun h => by obtain ⟨x, D, e, _⟩ := (fnd_iff R k).1 h; rw [hd] at e; cases e
    rw [if_neg this]; rfl
  | cons x D =>
    have hg := filt_gt (tl_gt hs hd)
    rw [List.filter_cons, hg]
    cases he : sEq x.key k
    · have : ¬ fndK R k = true := fun h => by obtain ⟨x', D', e, e2⟩ := (fnd_iff R k).1 h; rw [hd] at e; cases e; rw [he] at e2; cases e2
      rw [if_neg this, if_pos (by unfold neK; rw [he]; rfl)]
    · rw [if_pos ((fnd_iff R k).2 ⟨x, D, hd, he⟩), if_neg (by unfold neK; rw [he]; decide)]; rfl
theorem drop1 (R : List KV) (k : ByteArray) : R.drop (lbK R k + 1) = (tlK R k).drop 1 := by rw [← List.drop_drop, drop_lb]
theorem drp_yes {R : List KV} (hs : srtK R) {k : ByteArray} (h : fndK R k = true) : drpF R k = R.take (lbK R k) ++ R.drop (lbK R k + 1) := by
  rw [drp_split, tl_filt hs, if_pos h, take_lb, drop1]
theorem drp_no {R : List KV} (hs : srtK R) {k : ByteArray} (h : fndK R k = false) : drpF R k = R := by
  rw [drp_split, tl_filt hs, if_neg (by rw [h]; decide), hd_tl]
theorem put_yes {R : List KV} (hs : srtK R) {k : ByteArray} (v : ByteArray) (h : fndK R k = true) : putF R k v = R.set (lbK R k) ⟨(nth R (lbK R k)).key, v⟩ := by
  obtain ⟨x, D, hd, he⟩ := (fnd_iff R k).1 h
  unfold putF
  rw [tl_filt hs, if_pos h, hd]
  have hl := lb_len R k
  have e0 : R = hdK R k ++ x :: D := by rw [← hd, hd_tl]
  have en : nth R (lbK R k) = x := by
    unfold nth
    rw [List.getD_eq_getElem?_getD]
    have : R[lbK R k]? = (R.drop (lbK R k))[0]? := by rw [List.getElem?_drop, Nat.add_zero]
    rw [this, drop_lb, hd]; rfl
  rw [en, sEq_eq he]
  have e2 : (hdK R k ++ x :: D).set (lbK R k) ⟨k, v⟩ = hdK R k ++ ⟨k, v⟩ :: D := by
    rw [List.set_append_right _ _ (by omega), hl, Nat.sub_self, List.set_cons_zero]
  rw [← e0] at e2
  rw [e2]
  simp
theorem put_no' {R : List KV} (hs : srtK R) {k : ByteArray} (v : ByteArray) (h : fndK R k = false) : putF R k v = R.take (lbK R k) ++ [⟨k, v⟩] ++ R.drop (lbK R k) := by
  unfold putF
  rw [tl_filt hs, if_neg (by rw [h]; decide), take_lb, drop_lb]
theorem drp_srt {R : List KV} (hs : srtK R) (k : ByteArray) : srtK (drpF R k) := List.Pairwise.sublist List.filter_sublist hs
theorem put_srt {R : List KV} (hs : srtK R) (k v : ByteArray) : srtK (putF R k v) := by
  unfold putF srtK
  rw [List.append_assoc, List.pairwise_append]
  have h0 : srtK (hdK R k) := List.Pairwise.sublist (List.takeWhile_sublist _) hs
  have ht : ∀ y ∈ (tlK R k).filter (neK k), sLt k y.key = true := fun y hy => by
    rw [List.mem_filter] at hy
    cases hd : tlK R k with
    | nil => rw [hd] at hy; simp at hy
    | cons x D =>
      rw [hd] at hy
      rcases List.mem_cons.1 hy.1 with rfl | h
      · have h1 := tl_ge hd
        have h2 := hy.2
        unfold neK at h2
        exact lt_of_not h1 (by simpa using h2)
      · exact tl_gt hs hd y h
  refine ⟨h0, ?_, ?_⟩
  · rw [List.singleton_append, List.pairwise_cons]
    exact ⟨fun y hy => ht y hy, List.Pairwise.sublist (List.filter_sublist.trans (List.dropWhile_sublist _)) hs⟩
  · intro a ha b hb
    have hak := hd_lt R k a ha
    rcases List.mem_append.1 hb with hb | hb
    · rw [List.mem_singleton] at hb; subst hb; exact hak
    · exact sLt_trans hak (ht b hb)
theorem drp_len (R : List KV) (k : ByteArray) : (drpF R k).length ≤ R.length := List.length_filter_le _ _
theorem put_len' (R : List KV) (k v : ByteArray) : (putF R k v).length ≤ R.length + 1 := by
  unfold putF
  have h1 := List.length_filter_le (neK k) (tlK R k)
  have hl := congrArg List.length (hd_tl R k)
  simp only [List.length_append, List.length_cons, List.length_nil] at hl ⊢
  omega
/-- All of a change. -/
def dropsF (D : List ByteArray) (R : List KV) : List KV := D.foldl drpF R
def putsF (U : List KV) (R : List KV) : List KV := U.foldl (fun R x => putF R x.key x.val) R
theorem foldl_snoc {α β : Type} (f : β → α → β) (l : List α) (b : β) (x : α) : (l ++ [x]).foldl f b = f (l.foldl f b) x := by rw [List.foldl_append]; rfl
theorem takeG {α : Type} [Dat α] {R : List α} {j : Nat} (h : j < R.length) : R.take (j + 1) = R.take j ++ [nth R j] := by
  rw [List.take_succ_eq_append_getElem h]; simp [nth, List.getD_eq_getElem?_getD, List.getElem?_eq_getElem h]
theorem drops_step {D : List ByteArray} {k : Nat} (h : k < D.length) (R : List KV) : dropsF (D.take (k + 1)) R = drpF (dropsF (D.take k) R) (nth D k) := by
  unfold dropsF; rw [takeG h, foldl_snoc]
theorem puts_step {U : List KV} {k : Nat} (h : k < U.length) (R : List KV) : putsF (U.take (k + 1)) R = putF (putsF (U.take k) R) (nth U k).key (nth U k).val := by
  unfold putsF; rw [takeG h, foldl_snoc]
theorem drops_srt (D : List ByteArray) {R : List KV} (hs : srtK R) : srtK (dropsF D R) := by
  unfold dropsF
  induction D generalizing R with
  | nil => exact hs
  | cons d D ih => exact ih (drp_srt hs d)
theorem puts_srt (U : List KV) {R : List KV} (hs : srtK R) : srtK (putsF U R) := by
  unfold putsF
  induction U generalizing R with
  | nil => exact hs
  | cons d U ih => exact ih (put_srt hs _ _)
theorem drops_len (D : List ByteArray) (R : List KV) : (dropsF D R).length ≤ R.length := by
  unfold dropsF
  induction D generalizing R with
  | nil => exact Nat.le_refl _
  | cons d D ih => exact Nat.le_trans (ih (drpF R d)) (drp_len R d)
theorem puts_len (U : List KV) (R : List KV) : (putsF U R).length ≤ R.length + U.length := by
  unfold putsF
  induction U generalizing R with
  | nil => simp
  | cons d U ih =>
    have h1 := ih (putF R d.key d.val)
    have h2 := put_len' R d.key d.val
    simp only [List.foldl_cons, List.length_cons]; omega
end Go.Proofs.Ytbegbdfbfbkflaa
