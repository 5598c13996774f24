/- What a good cache is, in plain Lean; getting and wiping keep it good (for FnCache). -/
import Derived.Test.YtfcnimglcialbaaCge
namespace Go.Proofs.Ytfcnimglcialbaa
set_option linter.unusedVariables false
def sameK (a b : CRow) : Prop := a.tenant = b.tenant ∧ a.no = b.no
theorem isRow_iff (t no : Int) (x : CRow) : isRow t no x = true ↔ x.tenant = t ∧ x.no = no := by
  unfold isRow; simp
theorem ixP_self {R : List CRow} {i : Nat} (hi : i < R.length) : ixP (isRow (nth R i).tenant (nth R i).no) R = i ↔ ∀ j, j < i → ¬ sameK (nth R j) (nth R i) := by
  have hs : isRow (nth R i).tenant (nth R i).no (nth R i) = true := (isRow_iff _ _ _).2 ⟨rfl, rfl⟩
  rcases ixP_or (isRow (nth R i).tenant (nth R i).no) R with ⟨_, hn⟩ | ⟨q, e, hq, hp, hn⟩
  · rw [hn i hi] at hs; cases hs
  · constructor
    · intro h j hj hk
      have : q = i := by omega
      subst this
      have h2 := hn j hj
      rw [(isRow_iff _ _ _).2 hk] at h2
      cases h2
    · intro h
      have h1 : i ≤ q := by
        rcases Nat.lt_or_ge q i with h2 | h2
        · exact absurd ((isRow_iff _ _ _).1 hp) (h q h2)
        · exact h2
      rcases Nat.eq_or_lt_of_le h1 with h2 | h2
      · omega
      · have := hn i h2
        rw [hs] at this; cases this
structure Good (x : DCache) : Prop where
  cap : 1 ≤ x.cap ∧ x.cap ≤ 8
  len : (x.R.length : Int) ≤ x.cap
  txt : ∀ r ∈ x.R, r.text.size ≤ 100
  key : x.R.Pairwise (fun a b => ¬ sameK a b)
theorem nthR {R : List CRow} {i : Nat} (h : i < R.length) : nth R i = R[i] := by simp [nth, h]
theorem goodC_iff (x : DCache) : fCacheOk x = true ↔ Good x := by
  unfold fCacheOk
  rw [Bool.and_eq_true, List.all_eq_true]
  unfold okC0 okCi
  constructor
  · rintro ⟨h0, h1⟩
    simp only [Bool.not_eq_true', Bool.or_eq_false_iff, Bool.not_eq_false', inB_true, decide_eq_false_iff_not] at h0
    have h2 : ∀ k, k < x.R.length → (nth x.R k).text.size ≤ 100 ∧ ixP (isRow (nth x.R k).tenant (nth x.R k).no) x.R = k := fun k hk => by
      have := h1 k (by simpa using hk)
      simp only [Bool.not_eq_true', Bool.or_eq_false_iff, decide_eq_false_iff_not, bne_eq_false_iff_eq] at this
      exact ⟨by omega, this.2⟩
    refine ⟨h0.1, by omega, fun r hr => ?_, List.pairwise_iff_getElem.2 fun i j hi hj hij => ?_⟩
    · obtain ⟨i, hi, rfl⟩ := List.getElem_of_mem hr
      rw [← nthR hi]; exact (h2 i hi).1
    · rw [← nthR hi, ← nthR hj]
      exact (ixP_self hj).1 (h2 j hj).2 i hij
  · rintro ⟨⟨a1, a2⟩, b, c, d⟩
    refine ⟨?_, fun k hk => ?_⟩
    · simp only [Bool.not_eq_true', Bool.or_eq_false_iff, Bool.not_eq_false', inB_true, decide_eq_false_iff_not]
      exact ⟨⟨a1, a2⟩, by omega⟩
    · have hk' : k < x.R.length := by simpa using hk
      simp only [Bool.not_eq_true', Bool.or_eq_false_iff, decide_eq_false_iff_not, bne_eq_false_iff_eq]
      refine ⟨?_, (ixP_self hk').2 fun j hj => ?_⟩
      · have := c (nth x.R k) (by rw [nthR hk']; exact List.getElem_mem hk')
        omega
      · rw [nthR (show j < x.R.length by omega), nthR hk']
        exact List.pairwise_iff_getElem.1 d j k (by omega) hk' hj
theorem sameK_symm {a b : CRow} (h : ¬ sameK a b) : ¬ sameK b a := fun h2 => h ⟨h2.1.symm, h2.2.symm⟩
/-- A row found stands at its place; taken out and put behind, the rows are the same but for the order. -/
theorem hit_perm (R : List CRow) {i : Nat} (h : i < R.length) : ((R.take i ++ R.drop (i + 1)) ++ [nth R i]).Perm R := by
  have e : R = R.take i ++ (nth R i :: R.drop (i + 1)) := by rw [← dropN h, List.take_append_drop]
  conv => rhs; rw [e]
  rw [List.append_assoc]
  exact List.Perm.append_left _ (List.perm_append_comm (l₁ := R.drop (i + 1)) (l₂ := [nth R i]))
theorem get_good {x : DCache} {t no : Int} {load : ByteArray} (hx : Good x) (hl : load.size ≤ 100) : Good (fCacheGet x t no load).1 := by
  have hok := (goodC_iff x).2 hx
  unfold fCacheGet
  rw [hok]
  simp only [cond_true]
  rcases ixP_or (isRow t no) x.R with ⟨e0, hn⟩ | ⟨i, e0, hi, hp, hn⟩
  · rw [e0, if_neg (by omega), if_neg (by omega)]
    have hfresh : ∀ r ∈ x.R, ¬ sameK r ⟨t, no, load⟩ := fun r hr hk => by
      obtain ⟨j, hj, rfl⟩ := List.getElem_of_mem hr
      have := hn j hj
      rw [nthR hj, (isRow_iff _ _ _).2 hk] at this
      cases this
    have hc := hx.cap
    have hlen := hx.len
    refine ⟨hc, ?_, fun r hr => ?_, ?_⟩
    · show ((putR x.R x.cap ⟨t, no, load⟩).length : Int) ≤ x.cap
      unfold putR
      split <;> simp <;> omega
    · simp only [putR, List.mem_append, List.mem_singleton] at hr
      rcases hr with hr | rfl
      · split at hr
        · exact hx.txt r (List.mem_of_mem_drop hr)
        · exact hx.txt r hr
      · exact hl
    · show (putR x.R x.cap ⟨t, no, load⟩).Pairwise _
      unfold putR
      refine List.pairwise_append.2 ⟨?_, List.pairwise_singleton _ _, fun a ha b hb => ?_⟩
      · split
        · exact hx.key.sublist (List.drop_sublist _ _)
        · exact hx.key
      · rw [List.mem_singleton] at hb
        subst hb
        split at ha
        · exact hfresh a (List.mem_of_mem_drop ha)
        · exact hfresh a ha
  · rw [e0, if_pos (by omega)]
    simp only [Int.toNat_natCast]
    have hpm := hit_perm x.R hi
    have hc := hx.cap
    have hlen := hx.len
    refine ⟨hc, ?_, fun r hr => hx.txt r (hpm.mem_iff.1 hr), (hpm.pairwise_iff (fun h => sameK_symm h)).2 hx.key⟩
    show ((((x.R.take i ++ x.R.drop (i + 1)) ++ [nth x.R i]).length : Nat) : Int) ≤ x.cap
    rw [hpm.length_eq]; exact hlen
theorem wipe_good {x : DCache} {t : Int} (hx : Good x) : Good (fCacheWipe x t).1 := by
  have hok := (goodC_iff x).2 hx
  unfold fCacheWipe
  rw [hok]
  have hk := keep_le x.R t
  have hc := hx.cap
  have hl := hx.len
  refine ⟨hc, by show ((keepR x.R t).length : Int) ≤ x.cap; omega, fun r hr => hx.txt r (List.mem_filter.1 (show r ∈ x.R.filter (fun u => !ofT t u) from hr)).1, hx.key.sublist List.filter_sublist⟩
/-- The texts of FnCache. -/
def txt (t n : Int) : ByteArray := ⟨[UInt8.ofNat t.toNat, UInt8.ofNat n.toNat].toArray⟩
def Texts (R : List CRow) : Prop := ∀ r ∈ R, r.text = txt r.tenant r.no
theorem txt_size (t n : Int) : (txt t n).size = 2 := rfl
structure GetF (x : DCache) (t n : Int) : Prop where
  good : Good (fCacheGet x t n (txt t n)).1
  load : (fCacheGet x t n (txt t n)).2.1 = txt t n
  texts : Texts (fCacheGet x t n (txt t n)).1.R
  same : (fCacheGet x t n (txt t n)).2.2 = true → (fCacheGet x t n (txt t n)).1.R.length = x.R.length
  there : ∃ r ∈ (fCacheGet x t n (txt t n)).1.R, r.tenant = t
theorem get_f {x : DCache} (t n : Int) (hx : Good x) (ht : Texts x.R) : GetF x t n := by
  have hg := get_good (t := t) (no := n) hx (show (txt t n).size ≤ 100 by rw [txt_size]; omega)
  have hok := (goodC_iff x).2 hx
  rcases ixP_or (isRow t n) x.R with ⟨e0, hn⟩ | ⟨i, e0, hi, hp, hn⟩
  · have e : fCacheGet x t n (txt t n) = (⟨x.cap, putR x.R x.cap ⟨t, n, txt t n⟩⟩, txt t n, false) := by
      unfold fCacheGet; rw [hok]; simp only [cond_true]
      rw [e0, if_neg (by omega), if_neg (by rw [txt_size]; omega)]
    rw [e] at hg
    refine ⟨by rw [e]; exact hg, by rw [e], ?_, (by rw [e]; intro h; exact absurd h (by simp)), by rw [e]; exact ⟨⟨t, n, txt t n⟩, by simp [putR], rfl⟩⟩
    rw [e]
    intro r hr
    simp only [putR, List.mem_append, List.mem_singleton] at hr
    rcases hr with hr | rfl
    · split at hr
      · exact ht r (List.mem_of_mem_drop hr)
      · exact ht r hr
    · rfl
  · have e : fCacheGet x t n (txt t n) = (⟨x.cap, (x.R.take i ++ x.R.drop (i + 1)) ++ [nth x.R i]⟩, (nth x.R i).text, true) := by
      unfold fCacheGet; rw [hok]; simp only [cond_true]
      rw [e0, if_pos (by omega)]; rfl
    have hpm := hit_perm x.R hi
    have hk := (isRow_iff _ _ _).1 hp
    have hm : nth x.R i ∈ x.R := by rw [nthR hi]; exact List.getElem_mem hi
    rw [e] at hg
    refine ⟨by rw [e]; exact hg, ?_, by rw [e]; intro r hr; exact ht r (hpm.mem_iff.1 hr), by rw [e]; intro _; exact hpm.length_eq, by rw [e]; exact ⟨nth x.R i, by simp, hk.1⟩⟩
    rw [e]
    show (nth x.R i).text = _
    rw [ht _ hm, hk.1, hk.2]
structure WipF (x : DCache) (t : Int) : Prop where
  good : Good (fCacheWipe x t).1
  texts : Texts (fCacheWipe x t).1.R
  k : 1 ≤ (fCacheWipe x t).2
  len : ((fCacheWipe x t).1.R.length : Int) = x.R.length - (fCacheWipe x t).2
  gone : ∀ n load, (fCacheGet (fCacheWipe x t).1 t n load).2.2 = false
theorem wipe_f {x : DCache} {t : Int} (hx : Good x) (ht : Texts x.R) (hr : ∃ r ∈ x.R, r.tenant = t) : WipF x t := by
  have hok := (goodC_iff x).2 hx
  have hg := wipe_good (t := t) hx
  have e : fCacheWipe x t = (⟨x.cap, keepR x.R t⟩, (x.R.length : Int) - ((keepR x.R t).length : Int)) := by unfold fCacheWipe; rw [hok]; rfl
  have hlt : (keepR x.R t).length < x.R.length := by
    obtain ⟨r, h1, h2⟩ := hr
    rcases Nat.lt_or_ge (keepR x.R t).length x.R.length with h | h
    · exact h
    · have h3 := (List.filter_eq_self (p := fun u => !ofT t u) (l := x.R)).1 (List.filter_sublist.eq_of_length_le h)
      have h4 := h3 r h1
      unfold ofT at h4
      simp [h2] at h4
  refine ⟨hg, by rw [e]; intro r h; exact ht r (List.mem_filter.1 (show r ∈ x.R.filter (fun u => !ofT t u) from h)).1, by rw [e]; show (1 : Int) ≤ _; omega, by rw [e]; show ((keepR x.R t).length : Int) = _; omega, fun n load => ?_⟩
  have hok2 := (goodC_iff _).2 hg
  unfold fCacheGet
  rw [hok2]
  simp only [cond_true]
  rcases ixP_or (isRow t n) (fCacheWipe x t).1.R with ⟨e0, _⟩ | ⟨i, e0, hi, hp, _⟩
  · rw [e0, if_neg (by omega)]
    split <;> rfl
  · exfalso
    have hm : nth (fCacheWipe x t).1.R i ∈ (fCacheWipe x t).1.R := by rw [nthR hi]; exact List.getElem_mem hi
    have hk := (isRow_iff _ _ _).1 hp
    rw [e] at hm hk
    have h5 := (List.mem_filter.1 (show nth (keepR x.R t) i ∈ x.R.filter (fun u => !ofT t u) from hm)).2
    have h6 : (nth (keepR x.R t) i).tenant = t := hk.1
    unfold ofT at h5
    simp [h6] at h5
end Go.Proofs.Ytfcnimglcialbaa
