/- Stores of files in plain Lean: text put behind a file. -/
import Derived.Test.YtojgphgfhapacaaFsS
namespace Go.Proofs.Ytojgphgfhapacaa
set_option linter.unusedVariables false
set_option linter.unusedSimpArgs false
theorem nodup_len : ∀ (n : Nat) (l : List Nat), l.Nodup → (∀ x ∈ l, x < n) → l.length ≤ n
  | 0, l, h, hl => by
    cases l with
    | nil => exact Nat.le_refl _
    | cons a l => exact absurd (hl a List.mem_cons_self) (Nat.not_lt_zero _)
  | n + 1, l, h, hl => by
    have h1 := nodup_len n (l.erase n) (h.erase n) (fun x hx => by
      have h2 := (List.Nodup.mem_erase_iff h).1 hx
      have := hl x h2.2
      have := h2.1
      omega)
    rw [List.length_erase] at h1
    split at h1 <;> omega
theorem int_len {l : List Int} (h : l.Nodup) (hr : ∀ b ∈ l, 0 ≤ b ∧ b ≤ 23) : l.length ≤ 24 := by
  have := nodup_len 24 (l.map Int.toNat) (List.pairwise_map.2 (List.Pairwise.imp_of_mem (fun {a b} ha hb hne e => hne (toNat_inj (hr a ha).1 (hr b hb).1 e)) h)) (fun x hx => by
    obtain ⟨b, hb, rfl⟩ := List.mem_map.1 hx
    have := hr b hb; omega)
  simpa using this
theorem put_len : ∀ (bl : List Int) (B : List ByteArray) (t : List UInt8), (putB B bl t).length = B.length
  | [], B, t => rfl
  | b :: l, B, t => by rw [putB, put_len l, List.length_set]
theorem put_other : ∀ (bl : List Int) (B : List ByteArray) (t : List UInt8) (j : Nat), (∀ b ∈ bl, b.toNat ≠ j) → nth (putB B bl t) j = nth B j
  | [], B, t, j, h => rfl
  | b :: l, B, t, j, h => by
    rw [putB, put_other l _ _ j fun c hc => h c (List.mem_cons_of_mem _ hc)]
    have := h b List.mem_cons_self
    simp [nth, List.getD_eq_getElem?_getD, this]
theorem put_at : ∀ (bl : List Int) (B : List ByteArray) (t : List UInt8), bl.Nodup → (∀ b ∈ bl, 0 ≤ b ∧ b.toNat < B.length) → ∀ k (hk : k < bl.length), blkOf (putB B bl t) bl[k] = ⟨((t.drop (8 * k)).take 8).toArray⟩
  | [], B, t, hn, hr, k, hk => by simp at hk
  | b :: l, B, t, hn, hr, k, hk => by
    have hn := List.nodup_cons.1 hn
    have hb := hr b List.mem_cons_self
    cases k with
    | zero =>
      rw [putB]
      simp only [List.getElem_cons_zero, Nat.mul_zero, List.drop_zero]
      unfold blkOf
      rw [put_other l _ _ _ (fun c hc e => hn.1 (by
        have := hr c (List.mem_cons_of_mem _ hc)
        have := toNat_inj this.1 hb.1 e
        subst this; exact hc))]
      exact nth_set B _ _ hb.2
    | succ k =>
      rw [putB]
      simp only [List.getElem_cons_succ]
      rw [put_at l _ _ hn.2 (fun c hc => by rw [List.length_set]; exact hr c (List.mem_cons_of_mem _ hc)) k (by simpa using hk), List.drop_drop, show 8 + 8 * k = 8 * (k + 1) by omega]
theorem chunks : ∀ (n : Nat) (t : List UInt8), t.length = 8 * n → (List.range n).flatMap (fun k => (t.drop (8 * k)).take 8) = t
  | 0, t, h => by
    have : t = [] := List.eq_nil_of_length_eq_zero (by omega)
    subst this; rfl
  | n + 1, t, h => by
    rw [List.range_succ_eq_map, List.flatMap_cons, List.flatMap_map]
    have e : (List.range n).flatMap (fun k => (t.drop (8 * (k + 1))).take 8) = (List.range n).flatMap (fun k => ((t.drop 8).drop (8 * k)).take 8) := by
      congr 1; funext k; rw [List.drop_drop, show 8 + 8 * k = 8 * (k + 1) by omega]
    show (t.drop (8 * 0)).take 8 ++ (List.range n).flatMap (fun k => (t.drop (8 * (k + 1))).take 8) = t
    rw [e, chunks n (t.drop 8) (by rw [List.length_drop]; omega), Nat.mul_zero, List.drop_zero, List.take_append_drop]
theorem bytes_put {bl : List Int} {B : List ByteArray} {t : List UInt8} (hn : bl.Nodup) (hr : ∀ b ∈ bl, 0 ≤ b ∧ b.toNat < B.length) (ht : t.length = 8 * bl.length) : bytesOf (putB B bl t) bl = t := by
  have h1 : bytesOf (putB B bl t) bl = (List.range bl.length).flatMap (fun k => (t.drop (8 * k)).take 8) := by
    unfold bytesOf
    rw [List.flatMap_def, List.flatMap_def]
    congr 1
    apply List.ext_getElem
    · simp
    · intro k h1 h2
      simp only [List.getElem_map, List.getElem_range]
      have hk : k < bl.length := by simpa using h1
      rw [put_at bl B t hn hr k hk]
  rw [h1, chunks _ _ ht]
theorem bytes_len {x : DFStore} (g : GoodFs x) : ∀ (bl : List Int), (∀ b ∈ bl, 0 ≤ b ∧ b ≤ 23) → (bytesOf x.B bl).length = 8 * bl.length
  | [], h => rfl
  | b :: l, h => by
    have ih := bytes_len g l (fun c hc => h c (List.mem_cons_of_mem _ hc))
    unfold bytesOf at ih ⊢
    rw [List.flatMap_cons, List.length_append, ih, List.length_cons]
    have : (blkOf x.B b).size = 8 := g.h8 _ (nth_mem _ _ (g.len (h b List.mem_cons_self)))
    have e : (blkOf x.B b).data.toList.length = 8 := this
    omega
theorem text_len {x : DFStore} (g : GoodFs x) {f : FFile} (hf : f ∈ x.F) : ((fText x.B f).size : Int) = f.ln := by
  have h0 := g.hf f hf
  unfold fileOk0 ceil8 at h0
  simp only [Bool.and_eq_true, inB_true, decide_eq_true_eq] at h0
  have hl := bytes_len g f.bl (g.hr f hf)
  show ((((bytesOf x.B f.bl).take f.ln.toNat).toArray.size : Nat) : Int) = f.ln
  rw [List.size_toArray, List.length_take, hl]
  omega
/-- The blocks of no file. -/
theorem used_iff (F : List FFile) (b : Nat) : usedF F b = true ↔ ∃ f ∈ F, (b : Int) ∈ f.bl := by
  unfold usedF
  rw [List.any_eq_true]
  constructor
  · rintro ⟨f, hf, h⟩
    rw [List.any_eq_true] at h
    obtain ⟨c, hc, e⟩ := h
    rw [decide_eq_true_eq] at e
    subst e
    exact ⟨f, hf, hc⟩
  · rintro ⟨f, hf, h⟩
    exact ⟨f, hf, by rw [List.any_eq_true]; exact ⟨_, h, by simp⟩⟩
theorem free_mem (F : List FFile) (c : Int) : c ∈ freeF F ↔ (0 ≤ c ∧ c ≤ 23) ∧ ∀ f ∈ F, c ∉ f.bl := by
  unfold freeF
  rw [List.mem_map]
  constructor
  · rintro ⟨b, hb, rfl⟩
    rw [List.mem_filter, List.mem_range] at hb
    refine ⟨by omega, fun f hf hm => ?_⟩
    have := (used_iff F b).2 ⟨f, hf, hm⟩
    rw [this] at hb; simp at hb
  · rintro ⟨h1, h2⟩
    refine ⟨c.toNat, List.mem_filter.2 ⟨List.mem_range.2 (by omega), ?_⟩, by omega⟩
    cases h : usedF F c.toNat with
    | false => rfl
    | true =>
      obtain ⟨f, hf, hm⟩ := (used_iff F c.toNat).1 h
      rw [show ((c.toNat : Nat) : Int) = c by omega] at hm
      exact absurd hm (h2 f hf)
theorem free_nodup (F : List FFile) : (freeF F).Nodup := by
  unfold freeF
  refine List.pairwise_map.2 ?_
  exact List.Pairwise.imp (fun {a b} hne e => hne (by omega)) (List.Nodup.sublist List.filter_sublist List.nodup_range)
/-- The data of an appended file. -/
structure AppS (x : DFStore) (i : Nat) (text : ByteArray) where
  f : FFile
  s : ByteArray
  bl : List Int
  t : List UInt8
def appS (x : DFStore) (i : Nat) (text : ByteArray) : AppS x i text :=
  let f := fileAt x.F i
  let s := fText x.B f ++ text
  let bl := f.bl ++ (freeF x.F).take ((ceil8 s.size).toNat - f.bl.length)
  ⟨f, s, bl, s.data.toList ++ List.replicate (bl.length * 8 - s.size) 0⟩
def appX (x : DFStore) (i : Nat) (text : ByteArray) : DFStore := ⟨putB x.B (appS x i text).bl (appS x i text).t, x.F.set i ⟨(appS x i text).f.no, (appS x i text).f.ow, (appS x i text).bl, (appS x i text).s.size, (appS x i text).f.sl⟩⟩
theorem mem_nodup : ∀ {F : List FFile}, (F.flatMap FFile.bl).Nodup → ∀ {f : FFile}, f ∈ F → f.bl.Nodup
  | x :: F, h, f, hf => by
    rw [List.flatMap_cons] at h
    have h := List.nodup_append.1 h
    rcases List.mem_cons.1 hf with rfl | hf
    · exact h.1
    · exact mem_nodup h.2.1 hf
theorem append_good {x : DFStore} (g : GoodFs x) {no : Int} {i : Nat} (hi : atF x.F no = some i) {text : ByteArray} (hfit : (text.size : Int) ≤ (((fileAt x.F i).bl.length + (freeF x.F).length : Nat) : Int) * 8 - (fileAt x.F i).ln) :
    GoodFs (appX x i text) ∧ ∀ m, rdF (appX x i text) m = if m = no then some (fText x.B (fileAt x.F i) ++ text) else rdF x m := by
  obtain ⟨hil, hno⟩ := at_some hi
  have hfm := fileAt_mem hil
  have h0 := g.hf _ hfm
  have h0' := h0
  unfold fileOk0 ceil8 at h0
  simp only [Bool.and_eq_true, inB_true, decide_eq_true_eq] at h0
  have htl := text_len g hfm
  unfold appX appS
  simp only
  generalize hf : fileAt x.F i = f at *
  generalize hs : fText x.B f ++ text = s
  have hss : (s.size : Int) = f.ln + text.size := by rw [← hs, ByteArray.size_append]; omega
  have hfr := free_mem x.F
  have hfn := free_nodup x.F
  have hfl := (List.take_sublist ((ceil8 s.size).toNat - f.bl.length) (freeF x.F))
  have hftl : ((freeF x.F).take ((ceil8 s.size).toNat - f.bl.length)).length = (ceil8 s.size).toNat - f.bl.length := by rw [List.length_take]; unfold ceil8; omega
  generalize hE : (freeF x.F).take ((ceil8 s.size).toNat - f.bl.length) = E at *
  have hEm : ∀ c ∈ E, (0 ≤ c ∧ c ≤ 23) ∧ ∀ f ∈ x.F, c ∉ f.bl := fun c hc => (hfr c).1 (hfl.subset hc)
  have hEn : E.Nodup := hfn.sublist hfl
  have hbn : f.bl.Nodup := mem_nodup g.hd hfm
  have hnd : (f.bl ++ E).Nodup := List.nodup_append.2 ⟨hbn, hEn, fun a ha b hb e => (hEm b hb).2 f hfm (e ▸ ha)⟩
  have hrng : ∀ b ∈ f.bl ++ E, 0 ≤ b ∧ b ≤ 23 := fun b hb => by
    rcases List.mem_append.1 hb with hb | hb
    · exact g.hr f hfm b hb
    · exact (hEm b hb).1
  have hlen : ((f.bl ++ E).length : Int) = ceil8 s.size := by rw [List.length_append, hftl]; unfold ceil8; omega
  have h24 := int_len hnd hrng
  generalize hbl : f.bl ++ E = bl at *
  have hc8 : (s.size : Int) ≤ 8 * bl.length ∧ 8 * (bl.length : Int) < s.size + 8 := by unfold ceil8 at hlen; omega
  generalize ht : s.data.toList ++ List.replicate (bl.length * 8 - s.size) (0 : UInt8) = t
  have htlen : t.length = 8 * bl.length := by
    rw [← ht, List.length_append, List.length_replicate]
    have : s.data.toList.length = s.size := rfl
    omega
  have hrl : ∀ b ∈ bl, 0 ≤ b ∧ b.toNat < x.B.length := fun b hb => ⟨(hrng b hb).1, g.len (hrng b hb)⟩
  have hmem := set_file (f' := ⟨f.no, f.ow, bl, (s.size : Int), f.sl⟩) hil
  have hp := set_sorted (f' := ⟨f.no, f.ow, bl, (s.size : Int), f.sl⟩) hil g.hi (by rw [hf])
  -- other files keep their blocks
  have hoth : ∀ j, j < x.F.length → j ≠ i → ∀ b ∈ (fileAt x.F j).bl, b ∉ bl := fun j hj hne b hb hm => by
    rw [← hbl] at hm
    rcases List.mem_append.1 hm with hm | hm
    · rw [← hf] at hm; exact nodup_apart g.hd hj hil hne b hb hm
    · exact (hEm b hm).2 _ (fileAt_mem hj) hb
  have hkeep : ∀ j, j < x.F.length → j ≠ i → ∀ b ∈ (fileAt x.F j).bl, blkOf (putB x.B bl t) b = blkOf x.B b := fun j hj hne b hb => by
    unfold blkOf
    refine put_other _ _ _ _ fun c hc e => ?_
    have := toNat_inj (hrng c hc).1 (g.hr _ (fileAt_mem hj) b hb).1 e
    subst this
    exact hoth j hj hne c hb hc
  have htext : fText (putB x.B bl t) ⟨f.no, f.ow, bl, (s.size : Int), f.sl⟩ = s := by
    unfold fText
    simp only
    rw [bytes_put (List.Nodup.sublist (List.Sublist.refl _) hnd) hrl htlen, ← ht, Int.toNat_natCast, List.take_left' (by rfl)]
  refine ⟨⟨by simp only; rw [put_len]; exact g.hB, by simp only [List.length_set]; exact g.hF, fun u hu => ?_, fun q hq => ?_, fun q hq => ?_, hp, ?_, fun q hq => ?_, fun b hb hnb => ?_⟩, fun m => ?_⟩
  · obtain ⟨j, hj, rfl⟩ := List.getElem_of_mem hu
    have hj' : j < x.B.length := by rw [put_len] at hj; exact hj
    have e : (putB x.B bl t)[j] = nth (putB x.B bl t) j := by simp [nth, hj]
    rw [e]
    by_cases h : ∃ b ∈ bl, b.toNat = j
    · obtain ⟨b, hb, h1⟩ := h
      obtain ⟨k, hk, rfl⟩ := List.getElem_of_mem hb
      have := put_at bl x.B t hnd hrl k hk
      unfold blkOf at this
      rw [h1] at this
      rw [this]
      show ((t.drop (8 * k)).take 8).toArray.size = 8
      rw [List.size_toArray, List.length_take, List.length_drop]
      omega
    · rw [put_other _ _ _ _ fun b hb e => h ⟨b, hb, e⟩]
      exact g.h8 _ (nth_mem _ _ hj')
  · rcases hmem q hq with rfl | ⟨j, hj, _, rfl⟩
    · unfold fileOk0
      simp only [Bool.and_eq_true, inB_true, decide_eq_true_eq]
      exact ⟨⟨⟨h0.1.1.1, h0.1.1.2⟩, by omega⟩, hlen⟩
    · exact g.hf _ (fileAt_mem hj)
  · rcases hmem q hq with rfl | ⟨j, hj, _, rfl⟩
    · exact hrng
    · exact g.hr _ (fileAt_mem hj)
  · simp only
    have e1 : x.F = x.F.take i ++ x.F[i] :: x.F.drop (i + 1) := by rw [← List.drop_eq_getElem_cons hil, List.take_append_drop]
    have e2 : x.F[i] = f := by rw [← hf, fileAt_get hil]
    have hd := g.hd
    rw [List.set_eq_take_append_cons_drop, if_pos hil]
    rw [e1, e2, List.flatMap_append, List.flatMap_cons] at hd
    rw [List.flatMap_append, List.flatMap_cons, ← hbl]
    simp only
    have hper : (List.flatMap FFile.bl (x.F.take i) ++ (f.bl ++ E ++ List.flatMap FFile.bl (x.F.drop (i + 1)))).Perm ((List.flatMap FFile.bl (x.F.take i) ++ (f.bl ++ List.flatMap FFile.bl (x.F.drop (i + 1)))) ++ E) := by
      simp only [List.append_assoc]
      refine List.Perm.append_left _ (List.Perm.append_left _ ?_)
      exact List.perm_append_comm
    rw [hper.nodup_iff]
    refine List.nodup_append.2 ⟨hd, hEn, fun a ha b hb e => ?_⟩
    subst e
    have hm2 := (hEm a hb).2
    rw [← List.flatMap_cons, ← List.flatMap_append, ← e2, ← e1] at ha
    obtain ⟨q, hq, hqb⟩ := List.mem_flatMap.1 ha
    exact hm2 q hq hqb
  · rcases hmem q hq with rfl | ⟨j, hj, hne, rfl⟩
    · unfold tailI
      simp only
      split
      · rename_i hlt
        have hn0 : 0 < bl.length := by omega
        have hkk : nth bl (bl.length - 1) = bl[bl.length - 1] := by
          have h9 : bl.length - 1 < bl.length := by omega
          simp [nth, h9]
        rw [hkk, put_at bl x.B t hnd hrl (bl.length - 1) (by omega)]
        have hr8 : ((s.size : Int) % 8).toNat + 8 * (bl.length - 1) = s.size := by omega
        have e3 : (⟨((t.drop (8 * (bl.length - 1))).take 8).toArray⟩ : ByteArray).extract ((s.size : Int) % 8).toNat (⟨((t.drop (8 * (bl.length - 1))).take 8).toArray⟩ : ByteArray).size = zrs (8 - ((s.size : Int) % 8).toNat) := by
          have hsz : (⟨((t.drop (8 * (bl.length - 1))).take 8).toArray⟩ : ByteArray).size = 8 := by
            show ((t.drop (8 * (bl.length - 1))).take 8).toArray.size = 8
            rw [List.size_toArray, List.length_take, List.length_drop]; omega
          rw [hsz]
          apply ByteArray.ext
          unfold zrs
          rw [ByteArray.data_extract]
          simp only [List.extract_toArray, List.extract_eq_take_drop]
          congr 1
          rw [List.drop_take, List.drop_drop, show 8 * (bl.length - 1) + ((s.size : Int) % 8).toNat = s.size by omega, ← ht, List.drop_left' (show s.data.toList.length = s.size from rfl), List.take_take, List.take_replicate]
          congr 1
          omega
        rw [e3]
        unfold sEq; simp
      · rfl
    · rw [tail_same (hkeep j hj hne) (g.hf _ (fileAt_mem hj))]
      exact g.ht _ (fileAt_mem hj)
  · simp only at hnb ⊢
    have hnbl : (b : Int) ∉ bl := hnb ⟨f.no, f.ow, bl, (s.size : Int), f.sl⟩ (List.mem_iff_getElem.2 ⟨i, by rw [List.length_set]; exact hil, by rw [List.getElem_set, if_pos rfl]⟩)
    rw [put_other _ _ _ _ fun c hc e => hnbl (by
      have := hrng c hc
      rw [show (b : Int) = c by omega]; exact hc)]
    refine g.hz b hb fun q hq hqb => ?_
    obtain ⟨j, hj, rfl⟩ := List.getElem_of_mem hq
    by_cases e : j = i
    · subst e
      rw [← fileAt_get hj, hf] at hqb
      exact hnbl (by rw [← hbl]; exact List.mem_append_left _ hqb)
    · exact hnb x.F[j] (List.mem_iff_getElem.2 ⟨j, by rw [List.length_set]; exact hj, by rw [List.getElem_set, if_neg (Ne.symm e)]⟩) hqb
  · have hset : (⟨f.no, f.ow, bl, (s.size : Int), f.sl⟩ : FFile) ∈ x.F.set i ⟨f.no, f.ow, bl, (s.size : Int), f.sl⟩ := List.mem_iff_getElem.2 ⟨i, by rw [List.length_set]; exact hil, by rw [List.getElem_set, if_pos rfl]⟩
    by_cases e : m = no
    · rw [if_pos e, e, ← hno]
      have := rd_mem (x := ⟨putB x.B bl t, x.F.set i ⟨f.no, f.ow, bl, (s.size : Int), f.sl⟩⟩) hp hset
      rw [this]
      simp only
      rw [htext]
    · rw [if_neg e]
      rcases rd_case g.hi m with ⟨q, hq, hm, hr⟩ | ⟨hn, hr⟩
      · obtain ⟨j, hj, rfl⟩ := List.getElem_of_mem hq
        have hne : j ≠ i := fun h => by
          subst h
          rw [← fileAt_get hj, hf] at hm
          exact e (by rw [← hm, hno])
        have hmj : x.F[j] ∈ x.F.set i ⟨f.no, f.ow, bl, (s.size : Int), f.sl⟩ := List.mem_iff_getElem.2 ⟨j, by rw [List.length_set]; exact hj, by rw [List.getElem_set, if_neg (Ne.symm hne)]⟩
        rw [hr, ← hm]
        have := rd_mem (x := ⟨putB x.B bl t, x.F.set i ⟨f.no, f.ow, bl, (s.size : Int), f.sl⟩⟩) hp hmj
        rw [this]
        congr 1
        exact text_same (by have := hkeep j hj hne; rw [fileAt_get hj] at this; exact this)
      · rw [hr]
        refine rd_none fun q hq => ?_
        rcases hmem q hq with rfl | ⟨j, hj, _, rfl⟩
        · exact fun e => hn _ hfm e
        · exact hn _ (fileAt_mem hj)
end Go.Proofs.Ytojgphgfhapacaa
