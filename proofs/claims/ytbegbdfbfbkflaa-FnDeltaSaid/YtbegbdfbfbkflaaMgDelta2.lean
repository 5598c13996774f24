/- Texts of this claim, one behind the other: JoP, BkP, Nst, CatStr, Sho, SrtE, BdC, Jd, Shf, Bld, Shd, BkF, BkL, SldP, BtSlot, Sld, SltP, DlP, Eng17. -/
import Derived.Test.YtbegbdfbfbkflaaMgDelta1
import Derived.Test.YtbegbdfbfbkflaaMt
import Derived.Test.YtbegbdfbfbkflaaFgt0
import Derived.Test.YtbegbdfbfbkflaaEng13
import Derived.Shelf.Sort.Plain
import Derived.Shelf.Slices.CompactS
import Derived.Shelf.Slices.Cells
import Derived.Shelf.Slices.In.SortNone
import Derived.Test.YtbegbdfbfbkflaaProg
import Derived.Test.YtbegbdfbfbkflaaBtDelta
import Derived.Shelf.Strings.Repeat
import Derived.Test.YtbegbdfbfbkflaaEng12
import Derived.Test.YtbegbdfbfbkflaaTab
import Derived.Test.YtbegbdfbfbkflaaCgt
import Derived.Test.YtbegbdfbfbkflaaDfm
import Derived.Test.YtbegbdfbfbkflaaEng11
/- Joined changes, in plain Lean. -/
namespace Go.Proofs.Ytbegbdfbfbkflaa
set_option linter.unusedVariables false
/-- Keys of a map after drops and puts. -/
def hasK (R : List KV) (k : ByteArray) : Prop := ∃ x ∈ R, x.key = k
theorem fnd_has {R : List KV} (hs : srtK R) (k : ByteArray) : fndK R k = true ↔ hasK R k := by
  rw [fnd_iff]
  constructor
  · rintro ⟨x, D, hd, he⟩
    exact ⟨x, by rw [← hd_tl R k, hd]; simp, sEq_eq he⟩
  · rintro ⟨x, hx, rfl⟩
    rw [← hd_tl R x.key] at hx
    rcases List.mem_append.1 hx with hx | hx
    · have := hd_lt R x.key x hx; rw [sLt_irrefl] at this; cases this
    · cases hd : tlK R x.key with
      | nil => rw [hd] at hx; simp at hx
      | cons y D =>
        refine ⟨y, D, rfl, ?_⟩
        rw [hd] at hx
        rcases List.mem_cons.1 hx with rfl | hx
        · exact sEq_iff.2 rfl
        · have := tl_gt hs hd x hx; rw [sLt_irrefl] at this; cases this
theorem has_drp (R : List KV) (d k : ByteArray) : hasK (drpF R d) k ↔ hasK R k ∧ k ≠ d := by
  unfold hasK drpF
  constructor
  · rintro ⟨x, hx, rfl⟩
    rw [List.mem_filter] at hx
    refine ⟨⟨x, hx.1, rfl⟩, fun e => ?_⟩
    have := hx.2
    unfold neK at this
    rw [sEq_iff.2 e] at this; cases this
  · rintro ⟨⟨x, hx, rfl⟩, hn⟩
    refine ⟨x, List.mem_filter.2 ⟨hx, ?_⟩, rfl⟩
    unfold neK
    cases h : sEq x.key d
    · rfl
    · exact absurd (sEq_eq h) hn
theorem has_put (R : List KV) (d v k : ByteArray) : hasK (putF R d v) k ↔ hasK R k ∨ k = d := by
  unfold hasK putF
  constructor
  · rintro ⟨x, hx, rfl⟩
    simp only [List.mem_append, List.mem_singleton, List.mem_filter] at hx
    rcases hx with (hx | rfl) | hx
    · exact .inl ⟨x, by rw [← hd_tl R d]; exact List.mem_append_left _ hx, rfl⟩
    · exact .inr rfl
    · exact .inl ⟨x, by rw [← hd_tl R d]; exact List.mem_append_right _ hx.1, rfl⟩
  · rintro (⟨x, hx, rfl⟩ | rfl)
    · by_cases hn : x.key = d
      · exact ⟨⟨d, v⟩, by simp, hn.symm⟩
      · rw [← hd_tl R d] at hx
        refine ⟨x, ?_, rfl⟩
        simp only [List.mem_append, List.mem_singleton, List.mem_filter]
        rcases List.mem_append.1 hx with hx | hx
        · exact .inl (.inl hx)
        · refine .inr ⟨hx, ?_⟩
          unfold neK
          cases h : sEq x.key d
          · rfl
          · exact absurd (sEq_eq h) hn
    · exact ⟨⟨k, v⟩, by simp, rfl⟩
theorem has_drops : ∀ (D : List ByteArray) (R : List KV) (k : ByteArray), hasK (dropsF D R) k ↔ hasK R k ∧ k ∉ D
  | [], R, k => by simp [dropsF]
  | d :: D, R, k => by
    show hasK (dropsF D (drpF R d)) k ↔ _
    rw [has_drops D, has_drp, List.mem_cons]
    constructor
    · rintro ⟨⟨h1, h2⟩, h3⟩; exact ⟨h1, fun h => h.elim h2 h3⟩
    · rintro ⟨h1, h2⟩; exact ⟨⟨h1, fun h => h2 (.inl h)⟩, fun h => h2 (.inr h)⟩
theorem has_puts : ∀ (U R : List KV) (k : ByteArray), hasK (putsF U R) k ↔ hasK R k ∨ hasK U k
  | [], R, k => by simp [putsF, hasK]
  | d :: U, R, k => by
    show hasK (putsF U (putF R d.key d.val)) k ↔ _
    rw [has_puts U, has_put]
    have : hasK (d :: U) k ↔ k = d.key ∨ hasK U k := by
      unfold hasK
      simp only [List.mem_cons, exists_eq_or_imp]
      constructor
      · rintro (h | h); exact .inl h.symm; exact .inr h
      · rintro (h | h); exact .inl h.symm; exact .inr h
    rw [this]
    constructor
    · rintro ((h | h) | h); exact .inl h; exact .inr (.inl h); exact .inr (.inr h)
    · rintro (h | h | h); exact .inl (.inl h); exact .inl (.inr h); exact .inr h
/-- What a good change says of its texts. -/
theorem delta_srt {U : List KV} {D : List ByteArray} (h : deltaOk U D = true) : srtK U ∧ sSrt D ∧ ∀ x ∈ D, ¬ hasK U x := by
  have hm := deltaOk_map h
  have hsK := srtK_iff.1 (sortedK_of hm)
  unfold deltaOk at h
  rw [Bool.and_eq_true, List.all_eq_true] at h
  have hD : ∀ i, i < D.length → okD U D i = true := fun i hi => h.2 i (by simpa using hi)
  have hadj : ∀ i, 0 < i → i < D.length → sLt (nth D (i - 1)) (nth D i) = true := fun i h0 hi => by
    have := hD i hi
    unfold okD at this
    simp only [Bool.not_eq_true', Bool.or_eq_false_iff, Bool.and_eq_false_iff, decide_eq_false_iff_not, Bool.not_eq_false'] at this
    rcases this.1.2 with h | h
    · omega
    · exact h
  have hlt : ∀ (j i : Nat), i < j → j < D.length → sLt (nth D i) (nth D j) = true := by
    intro j
    induction j with
    | zero => intro i h1; omega
    | succ j ih =>
      intro i h1 h2
      have h3 := hadj (j + 1) (by omega) h2
      rw [Nat.add_sub_cancel] at h3
      rcases Nat.lt_succ_iff_lt_or_eq.1 h1 with h4 | rfl
      · exact sLt_trans (ih i h4 (by omega)) h3
      · exact h3
  have en : ∀ i (hi : i < D.length), nth D i = D[i] := fun i hi => by unfold nth; rw [List.getD_eq_getElem?_getD, List.getElem?_eq_getElem hi]; rfl
  refine ⟨hsK, ?_, ?_⟩
  · unfold sSrt
    rw [List.pairwise_iff_getElem]
    intro i j hi hj hij
    have := hlt j i hij hj
    rw [en i hi, en j hj] at this
    exact this
  · intro x hx
    obtain ⟨i, hi, rfl⟩ := List.getElem_of_mem hx
    have := hD i hi
    unfold okD at this
    simp only [Bool.not_eq_true', Bool.or_eq_false_iff] at this
    rw [← fnd_has hsK, ← en i hi, this.2]
    simp
/-- Joined: what is dropped, as the reference has it. -/
def delF (bU : List KV) (aD bD : List ByteArray) : List ByteArray := aD.foldl (fun L x => if fndK bU x = true then L else insS L x) bD
theorem delF_step {bU : List KV} {aD bD : List ByteArray} {k : Nat} (h : k < aD.length) : delF bU (aD.take (k + 1)) bD = if fndK bU (nth aD k) = true then delF bU (aD.take k) bD else insS (delF bU (aD.take k) bD) (nth aD k) := by
  unfold delF; rw [takeG h, foldl_snoc]
theorem delF_srt (bU : List KV) : ∀ (aD bD : List ByteArray), sSrt bD → sSrt (delF bU aD bD)
  | [], bD, h => h
  | d :: aD, bD, h => by
    show sSrt (delF bU aD (if fndK bU d = true then bD else insS bD d))
    refine delF_srt bU aD _ ?_
    split
    · exact h
    · exact insS_srt h d
theorem delF_mem {bU : List KV} (hs : srtK bU) : ∀ (aD bD : List ByteArray) (x : ByteArray), x ∈ delF bU aD bD ↔ x ∈ bD ∨ (x ∈ aD ∧ ¬ hasK bU x)
  | [], bD, x => by simp [delF]
  | d :: aD, bD, x => by
    show x ∈ delF bU aD (if fndK bU d = true then bD else insS bD d) ↔ _
    rw [delF_mem hs aD]
    by_cases hf : fndK bU d = true
    · rw [if_pos hf]
      have hh := (fnd_has hs d).1 hf
      rw [List.mem_cons]
      constructor
      · rintro (h | ⟨h1, h2⟩)
        · exact .inl h
        · exact .inr ⟨.inr h1, h2⟩
      · rintro (h | ⟨h1 | h1, h2⟩)
        · exact .inl h
        · subst h1; exact absurd hh h2
        · exact .inr ⟨h1, h2⟩
    · rw [if_neg hf, insS_mem, List.mem_cons]
      have hh : ¬ hasK bU d := fun h => hf ((fnd_has hs d).2 h)
      constructor
      · rintro ((h | h) | ⟨h1, h2⟩)
        · subst h; exact .inr ⟨.inl rfl, hh⟩
        · exact .inl h
        · exact .inr ⟨.inr h1, h2⟩
      · rintro (h | ⟨h1 | h1, h2⟩)
        · exact .inl (.inr h)
        · exact .inl (.inl h1)
        · exact .inr ⟨h1, h2⟩
theorem delF_len (bU : List KV) : ∀ (aD bD : List ByteArray), (delF bU aD bD).length ≤ bD.length + aD.length
  | [], bD => by simp [delF]
  | d :: aD, bD => by
    show (delF bU aD (if fndK bU d = true then bD else insS bD d)).length ≤ _
    have h2 := insS_len bD d
    rw [List.length_cons]
    by_cases hh : fndK bU d = true
    · rw [if_pos hh]; have := delF_len bU aD bD; omega
    · rw [if_neg hh]; have := delF_len bU aD (insS bD d); omega
def joinU (a b : DDelta) : List KV := putsF b.U (dropsF b.D a.U)
def fJoinDelta (a b : DDelta) : DDelta := if deltaOk a.U a.D = true ∧ deltaOk b.U b.D = true then ⟨joinU a b, delF b.U a.D b.D⟩ else ⟨[], []⟩
/-- Joined: what is dropped, as the program has it: all drops that are no keys, in order, once. -/
def joinE (a b : DDelta) : List ByteArray := (a.D ++ b.D).filter (fun x => !fndK (joinU a b) x)
theorem joinE_mem {a b : DDelta} (ha : deltaOk a.U a.D = true) (hb : deltaOk b.U b.D = true) (x : ByteArray) : x ∈ joinE a b ↔ x ∈ delF b.U a.D b.D := by
  obtain ⟨a1, a2, a3⟩ := delta_srt ha
  obtain ⟨b1, b2, b3⟩ := delta_srt hb
  have hs : srtK (joinU a b) := puts_srt _ (drops_srt _ a1)
  have hf : (!fndK (joinU a b) x) = true ↔ ¬ (hasK a.U x ∧ x ∉ b.D ∨ hasK b.U x) := by
    rw [Bool.not_eq_true', ← Bool.not_eq_true, fnd_has hs]
    unfold joinU
    rw [has_puts, has_drops]
  unfold joinE
  rw [List.mem_filter, hf, delF_mem b1, List.mem_append]
  constructor
  · rintro ⟨h1 | h1, h2⟩
    · exact .inr ⟨h1, fun h => h2 (.inr h)⟩
    · exact .inl h1
  · rintro (h | ⟨h1, h2⟩)
    · exact ⟨.inr h, fun h3 => h3.elim (fun h4 => h4.2 h) (b3 x h)⟩
    · exact ⟨.inl h1, fun h3 => h3.elim (fun h4 => a3 x h1 h4.1) h2⟩
/-- A row that rises, not strictly; each text of it once. -/
def leS (L : List ByteArray) : Prop := L.Pairwise (fun x y => sLt y x = false)
def onceS : List ByteArray → List ByteArray
  | [] => []
  | [x] => [x]
  | x :: y :: L => if sEq x y = true then onceS (y :: L) else x :: onceS (y :: L)
theorem onceS_mem : ∀ (L : List ByteArray) (x : ByteArray), x ∈ onceS L ↔ x ∈ L
  | [], x => by simp [onceS]
  | [a], x => by simp [onceS]
  | a :: b :: L, x => by
    rw [onceS]
    split
    · rename_i h
      rw [onceS_mem (b :: L), List.mem_cons, List.mem_cons, List.mem_cons, sEq_eq h]
      simp
    · rw [List.mem_cons, onceS_mem (b :: L), List.mem_cons (a := x) (b := a)]
theorem onceS_srt : ∀ (L : List ByteArray), leS L → sSrt (onceS L)
  | [], _ => List.Pairwise.nil
  | [a], _ => by simp [onceS, sSrt]
  | a :: b :: L, h => by
    have h1 := List.pairwise_cons.1 h
    rw [onceS]
    split
    · exact onceS_srt (b :: L) h1.2
    · rename_i hn
      refine List.pairwise_cons.2 ⟨fun x hx => ?_, onceS_srt (b :: L) h1.2⟩
      rw [onceS_mem] at hx
      have hab : sLt a b = true := by
        have := h1.1 b (List.mem_cons_self ..)
        refine lt_of_not this ?_
        cases he : sEq b a
        · rfl
        · exact absurd (sEq_iff.2 (sEq_eq he).symm) hn
      rcases List.mem_cons.1 hx with rfl | hx
      · exact hab
      · have h2 := (List.pairwise_cons.1 h1.2).1 x hx
        cases he : sEq b x
        · refine sLt_trans hab (lt_of_not h2 ?_)
          cases he2 : sEq x b
          · rfl
          · rw [sEq_iff.2 (sEq_eq he2).symm] at he; cases he
        · rw [← sEq_eq he]; exact hab
theorem join_once {a b : DDelta} (ha : deltaOk a.U a.D = true) (hb : deltaOk b.U b.D = true) {S : List ByteArray} (hl : leS S) (hm : ∀ x, x ∈ S ↔ x ∈ joinE a b) : onceS S = delF b.U a.D b.D :=
  sSrt_ext _ _ (onceS_srt S hl) (delF_srt _ _ _ (delta_srt hb).2.1) fun x => by rw [onceS_mem, hm, joinE_mem ha hb]
theorem JoinDelta_lim (a b : DDelta) (ha : Delta_sm a) (hb : Delta_sm b) : Delta_lim (fJoinDelta a b) := by
  have h1 := ha.1.1
  have h2 := ha.2.1
  have h3 := hb.1.1
  have h4 := hb.2.1
  unfold fJoinDelta Delta_lim
  split
  · have q1 := puts_len b.U (dropsF b.D a.U)
    have q2 := drops_len b.D a.U
    have q3 := delF_len b.U a.D b.D
    simp only [joinU]
    omega
  · simp
end Go.Proofs.Ytbegbdfbfbkflaa
/- Differences lead from one map to the other; joined they do both. In plain Lean (for FnBackup, FnDelta). -/
namespace Go.Proofs.Ytbegbdfbfbkflaa
set_option linter.unusedVariables false
theorem srtK_ext : ∀ (L M : List KV), srtK L → srtK M → (∀ x, x ∈ L ↔ x ∈ M) → L = M
  | [], [], _, _, _ => rfl
  | [], b :: M, _, _, h => by have := (h b).2 (List.mem_cons_self ..); simp at this
  | a :: L, [], _, _, h => by have := (h a).1 (List.mem_cons_self ..); simp at this
  | a :: L, b :: M, h1, h2, h => by
    have p1 := List.pairwise_cons.1 h1
    have p2 := List.pairwise_cons.1 h2
    have e : a = b := by
      rcases List.mem_cons.1 ((h a).1 (List.mem_cons_self ..)) with e | e
      · exact e
      · rcases List.mem_cons.1 ((h b).2 (List.mem_cons_self ..)) with e2 | e2
        · exact e2.symm
        · have q := sLt_asymm (p2.1 a e); have q2 : sLt a.key b.key = true := p1.1 b e2; rw [q2] at q; cases q
    subst e
    congr 1
    refine srtK_ext L M p1.2 p2.2 fun x => ⟨fun hx => ?_, fun hx => ?_⟩
    · rcases List.mem_cons.1 ((h x).1 (List.mem_cons_of_mem _ hx)) with e | e
      · subst e; have q2 : sLt x.key x.key = true := p1.1 x hx; rw [sLt_irrefl] at q2; cases q2
      · exact e
    · rcases List.mem_cons.1 ((h x).2 (List.mem_cons_of_mem _ hx)) with e | e
      · subst e; have q2 : sLt x.key x.key = true := p2.1 x hx; rw [sLt_irrefl] at q2; cases q2
      · exact e
theorem srtK_one {L : List KV} (hs : srtK L) {x y : KV} (hx : x ∈ L) (hy : y ∈ L) (he : x.key = y.key) : x = y := by
  induction L with
  | nil => cases hx
  | cons a L ih =>
    have p := List.pairwise_cons.1 hs
    rcases List.mem_cons.1 hx with e1 | h1
    · rcases List.mem_cons.1 hy with e2 | h2
      · rw [e1, e2]
      · have : sLt a.key y.key = true := p.1 y h2
        rw [← e1, he, sLt_irrefl] at this; cases this
    · rcases List.mem_cons.1 hy with e2 | h2
      · have : sLt a.key x.key = true := p.1 x h1
        rw [← e2, he, sLt_irrefl] at this; cases this
      · exact ih p.2 h1 h2
theorem mem_drp (R : List KV) (d : ByteArray) (x : KV) : x ∈ drpF R d ↔ x ∈ R ∧ x.key ≠ d := by
  unfold drpF neK
  rw [List.mem_filter, Bool.not_eq_true', ← Bool.not_eq_true, sEq_iff]
theorem mem_put (R : List KV) (d v : ByteArray) (hs : srtK R) (x : KV) : x ∈ putF R d v ↔ x = ⟨d, v⟩ ∨ (x ∈ R ∧ x.key ≠ d) := by
  unfold putF
  simp only [List.mem_append, List.mem_singleton, List.mem_filter]
  have hn : neK d x = true ↔ x.key ≠ d := by unfold neK; rw [Bool.not_eq_true', ← Bool.not_eq_true, sEq_iff]
  have hh : x ∈ hdK R d → x.key ≠ d := fun h e => by have := hd_lt R d x h; rw [e, sLt_irrefl] at this; cases this
  have hr : x ∈ R ↔ x ∈ hdK R d ∨ x ∈ tlK R d := by conv => lhs; rw [← hd_tl R d, List.mem_append]
  rw [hn, hr]
  constructor
  · rintro ((h | h) | h)
    · exact .inr ⟨.inl h, hh h⟩
    · exact .inl h
    · exact .inr ⟨.inr h.1, h.2⟩
  · rintro (h | ⟨h1 | h1, h2⟩)
    · exact .inl (.inr h)
    · exact .inl (.inl h1)
    · exact .inr ⟨h1, h2⟩
theorem mem_drops : ∀ (D : List ByteArray) (R : List KV) (x : KV), x ∈ dropsF D R ↔ x ∈ R ∧ x.key ∉ D
  | [], R, x => by simp [dropsF]
  | d :: D, R, x => by
    show x ∈ dropsF D (drpF R d) ↔ _
    rw [mem_drops D, mem_drp, List.mem_cons]
    constructor
    · rintro ⟨⟨h1, h2⟩, h3⟩; exact ⟨h1, fun h => h.elim h2 h3⟩
    · rintro ⟨h1, h2⟩; exact ⟨⟨h1, fun h => h2 (.inl h)⟩, fun h => h2 (.inr h)⟩
theorem has_cons (d : KV) (U : List KV) (k : ByteArray) : hasK (d :: U) k ↔ k = d.key ∨ hasK U k := by
  unfold hasK
  simp only [List.mem_cons, exists_eq_or_imp]
  constructor
  · rintro (h | h); exact .inl h.symm; exact .inr h
  · rintro (h | h); exact .inl h.symm; exact .inr h
theorem mem_puts : ∀ (U R : List KV), srtK U → srtK R → ∀ (x : KV), x ∈ putsF U R ↔ x ∈ U ∨ (x ∈ R ∧ ¬ hasK U x.key)
  | [], R, _, _, x => by simp [putsF, hasK]
  | d :: U, R, hU, hR, x => by
    have p := List.pairwise_cons.1 hU
    show x ∈ putsF U (putF R d.key d.val) ↔ _
    rw [mem_puts U _ p.2 (put_srt hR _ _), mem_put R _ _ hR, has_cons, List.mem_cons]
    have hd : ¬ hasK U d.key := by
      rintro ⟨y, hy, e⟩
      have : sLt d.key y.key = true := p.1 y hy
      rw [e, sLt_irrefl] at this; cases this
    constructor
    · rintro (h | ⟨h1 | ⟨h1, h2⟩, h3⟩)
      · exact .inl (.inr h)
      · exact .inl (.inl h1)
      · exact .inr ⟨h1, fun h => h.elim h2 h3⟩
    · rintro ((h | h) | ⟨h1, h2⟩)
      · subst h; exact .inr ⟨.inl rfl, hd⟩
      · exact .inl h
      · exact .inr ⟨.inr ⟨h1, fun e => h2 (.inl e)⟩, fun e => h2 (.inr e)⟩
/-- A change's effect. -/
def appF (a : List KV) (d : DDelta) : List KV := putsF d.U (dropsF d.D a)
theorem mem_app {a : List KV} {d : DDelta} (ha : srtK a) (hd : srtK d.U) (x : KV) : x ∈ appF a d ↔ x ∈ d.U ∨ ((x ∈ a ∧ x.key ∉ d.D) ∧ ¬ hasK d.U x.key) := by
  unfold appF; rw [mem_puts _ _ hd (drops_srt _ ha), mem_drops]
theorem app_srt {a : List KV} (d : DDelta) (ha : srtK a) : srtK (appF a d) := puts_srt _ (drops_srt _ ha)
theorem mem_has {R : List KV} {x : KV} (h : x ∈ R) : hasK R x.key := ⟨x, h, rfl⟩
theorem srtK_sub {L M : List KV} (h : L.Sublist M) (hs : srtK M) : srtK L := List.Pairwise.sublist h hs
theorem putQ_iff {a : List KV} (hs : srtK a) (x : KV) : putQ a x = true ↔ x ∉ a := by
  unfold putQ
  by_cases hf : fndK a x.key = true
  · obtain ⟨y, D, hd, he⟩ := (fnd_iff a x.key).1 hf
    have hn : nth a (lbK a x.key) = y := by
      unfold nth
      rw [List.getD_eq_getElem?_getD]
      have : a[lbK a x.key]? = (a.drop (lbK a x.key))[0]? := by rw [List.getElem?_drop, Nat.add_zero]
      rw [this, drop_lb, hd]; rfl
    have hy : y ∈ a := by rw [← hd_tl a x.key, hd]; simp
    rw [hf, hn, Bool.not_true, Bool.false_or, Bool.not_eq_true', ← Bool.not_eq_true, sEq_iff]
    have hk := sEq_eq he
    constructor
    · intro h hx
      exact h (by rw [srtK_one hs hy hx hk])
    · intro h e
      refine h ?_
      have : y = x := by cases y; cases x; simp only at hk e; subst hk e; rfl
      rwa [← this]
  · have : fndK a x.key = false := by simpa using hf
    rw [this, Bool.not_false, Bool.true_or]
    simp only [true_iff]
    intro hx
    exact hf ((fnd_has hs x.key).2 (mem_has hx))
theorem delQ_iff {b : List KV} (hs : srtK b) (x : KV) : delQ b x = true ↔ ¬ hasK b x.key := by
  unfold delQ; rw [Bool.not_eq_true', ← Bool.not_eq_true, fnd_has hs]
/-- The difference of two maps. -/
theorem diff_eq {a b : List KV} (ha : mapOk a = true) (hb : mapOk b = true) : fDiffMap a b = ⟨b.filter (putQ a), (a.filter (delQ b)).map (·.key)⟩ := by
  unfold fDiffMap; rw [ha, hb]; rfl
theorem app_diff {a b : List KV} (ha : mapOk a = true) (hb : mapOk b = true) : appF a (fDiffMap a b) = b := by
  have sa := srtK_iff.1 (sortedK_of ha)
  have sb := srtK_iff.1 (sortedK_of hb)
  rw [diff_eq ha hb]
  have su : srtK (b.filter (putQ a)) := srtK_sub List.filter_sublist sb
  refine srtK_ext _ _ (app_srt _ sa) sb fun x => ?_
  rw [mem_app sa su]
  simp only [List.mem_filter, putQ_iff sa, List.mem_map, delQ_iff sb, not_exists, not_and]
  have hU : hasK (b.filter (putQ a)) x.key ↔ ∃ y, y ∈ b ∧ y ∉ a ∧ y.key = x.key := by
    unfold hasK
    simp only [List.mem_filter, putQ_iff sa]
    exact ⟨fun ⟨y, h, e⟩ => ⟨y, h.1, h.2, e⟩, fun ⟨y, h1, h2, e⟩ => ⟨y, ⟨h1, h2⟩, e⟩⟩
  rw [hU]
  constructor
  · rintro (h | ⟨⟨h1, h2⟩, h3⟩)
    · exact h.1
    · have hk : hasK b x.key := by
        refine Classical.byContradiction fun hn => ?_
        exact h2 x ⟨h1, hn⟩ rfl
      obtain ⟨y, hy, e⟩ := hk
      have : y ∈ a := Classical.byContradiction fun hn => h3 ⟨y, hy, hn, e⟩
      rwa [← srtK_one sa this h1 e]
  · intro h
    by_cases hx : x ∈ a
    · refine .inr ⟨⟨hx, fun y hy e => ?_⟩, ?_⟩
      · rw [e] at hy; exact hy.2 (mem_has h)
      · rintro ⟨y, h1, h2, e⟩
        exact h2 (by rwa [srtK_one sb h1 h e])
    · exact .inl ⟨h, hx⟩
/-- Sorted texts make a good row of keys. -/
theorem okM_of {U : List KV} (hs : srtK U) (hz : ∀ x ∈ U, kk x.key = true ∧ x.val.size ≤ 16) : mapOk U = true := by
  have h2 := srtK_iff.2 hs
  refine all_true fun i hi => ?_
  have hm := hz _ (nth_mem U i hi)
  unfold okM
  rw [hm.1]
  have h3 : decide (16 < ((nth U i).val.size : Int)) = false := by simp; omega
  rw [h3]
  by_cases h0 : 0 < i
  · have : sLt (nth U (i - 1)).key (nth U i).key = true := h2 (i - 1) i (by omega) hi
    rw [this]; simp
  · simp; omega
theorem okD_of {U : List KV} {D : List ByteArray} (hm : mapOk U = true) (hs : sSrt D) (hk : ∀ x ∈ D, kk x = true) (hn : ∀ x ∈ D, ¬ hasK U x) : deltaOk U D = true := by
  have hsU := srtK_iff.1 (sortedK_of hm)
  unfold deltaOk
  rw [hm, Bool.true_and]
  refine all_true fun i hi => ?_
  have hmem : nth D i ∈ D := nth_mem D i hi
  have en : ∀ j (hj : j < D.length), nth D j = D[j] := fun j hj => by unfold nth; rw [List.getD_eq_getElem?_getD, List.getElem?_eq_getElem hj]; rfl
  unfold okD
  rw [hk _ hmem]
  have hf : fndK U (nth D i) = false := by
    rw [← Bool.not_eq_true, fnd_has hsU]; exact hn _ hmem
  rw [hf]
  by_cases h0 : 0 < i
  · have : sLt (nth D (i - 1)) (nth D i) = true := by
      rw [en _ (by omega), en _ hi]
      exact List.pairwise_iff_getElem.1 hs (i - 1) i (by omega) hi (by omega)
    rw [this]; simp
  · simp; omega
theorem mapOk_kk {U : List KV} (h : mapOk U = true) : ∀ x ∈ U, kk x.key = true ∧ x.val.size ≤ 16 := fun x hx => by
  obtain ⟨k, hk, e⟩ := List.getElem_of_mem hx
  have e2 : nth U k = x := by unfold nth; rw [List.getD_eq_getElem?_getD, List.getElem?_eq_getElem hk, e]; rfl
  have hz := (mapOk_mem h x hx).2
  unfold mapOk at h
  rw [List.all_eq_true] at h
  have := h k (by simpa using hk)
  unfold okM at this
  simp only [Bool.not_eq_true', Bool.or_eq_false_iff, Bool.not_eq_false'] at this
  rw [e2] at this
  exact ⟨this.1.1, hz⟩
theorem deltaOk_kk {U : List KV} {D : List ByteArray} (h : deltaOk U D = true) : ∀ x ∈ D, kk x = true := fun x hx => by
  obtain ⟨k, hk, e⟩ := List.getElem_of_mem hx
  have e2 : nth D k = x := by unfold nth; rw [List.getD_eq_getElem?_getD, List.getElem?_eq_getElem hk, e]; rfl
  unfold deltaOk at h
  rw [Bool.and_eq_true, List.all_eq_true] at h
  have := h.2 k (by simpa using hk)
  unfold okD at this
  simp only [Bool.not_eq_true', Bool.or_eq_false_iff, Bool.not_eq_false'] at this
  rw [e2] at this
  exact this.1.1
theorem keys_srt {L : List KV} (h : srtK L) : sSrt (L.map (·.key)) := by
  unfold sSrt
  rw [List.pairwise_map]; exact h
theorem diff_ok {a b : List KV} (ha : mapOk a = true) (hb : mapOk b = true) : deltaOk (fDiffMap a b).U (fDiffMap a b).D = true := by
  have sa := srtK_iff.1 (sortedK_of ha)
  have sb := srtK_iff.1 (sortedK_of hb)
  rw [diff_eq ha hb]
  refine okD_of (okM_of (srtK_sub List.filter_sublist sb) fun x hx => mapOk_kk hb x (List.mem_filter.1 hx).1) (keys_srt (srtK_sub List.filter_sublist sa)) ?_ ?_
  · intro x hx
    obtain ⟨y, hy, rfl⟩ := List.mem_map.1 hx
    exact (mapOk_kk ha y (List.mem_filter.1 hy).1).1
  · intro x hx
    obtain ⟨y, hy, rfl⟩ := List.mem_map.1 hx
    have hy2 := (delQ_iff sb y).1 (List.mem_filter.1 hy).2
    rintro ⟨z, hz, e⟩
    exact hy2 ⟨z, (List.mem_filter.1 hz).1, e⟩
/-- Joining. -/
theorem join_eq {a b : DDelta} (ha : deltaOk a.U a.D = true) (hb : deltaOk b.U b.D = true) : fJoinDelta a b = ⟨joinU a b, delF b.U a.D b.D⟩ := by
  unfold fJoinDelta; rw [if_pos ⟨ha, hb⟩]
theorem joinU_mem {a b : DDelta} (ha : deltaOk a.U a.D = true) (hb : deltaOk b.U b.D = true) (x : KV) : x ∈ joinU a b ↔ x ∈ b.U ∨ ((x ∈ a.U ∧ x.key ∉ b.D) ∧ ¬ hasK b.U x.key) :=
  mem_app (d := b) (delta_srt ha).1 (delta_srt hb).1 x
theorem joinU_has {a b : DDelta} (k : ByteArray) : hasK (joinU a b) k ↔ (hasK a.U k ∧ k ∉ b.D) ∨ hasK b.U k := by
  unfold joinU; rw [has_puts, has_drops]
theorem joinU_srt {a b : DDelta} (ha : deltaOk a.U a.D = true) : srtK (joinU a b) := app_srt b (delta_srt ha).1
theorem join_ok {a b : DDelta} (ha : deltaOk a.U a.D = true) (hb : deltaOk b.U b.D = true) : deltaOk (fJoinDelta a b).U (fJoinDelta a b).D = true := by
  obtain ⟨a1, a2, a3⟩ := delta_srt ha
  obtain ⟨b1, b2, b3⟩ := delta_srt hb
  rw [join_eq ha hb]
  refine okD_of (okM_of (joinU_srt ha) fun x hx => ?_) (delF_srt _ _ _ b2) ?_ ?_
  · rcases (joinU_mem ha hb x).1 hx with h | h
    · exact mapOk_kk (deltaOk_map hb) x h
    · exact mapOk_kk (deltaOk_map ha) x h.1.1
  · intro x hx
    rcases (delF_mem b1 _ _ x).1 hx with h | h
    · exact deltaOk_kk hb x h
    · exact deltaOk_kk ha x h.1
  · intro x hx
    rw [joinU_has]
    rcases (delF_mem b1 _ _ x).1 hx with h | h
    · exact fun h2 => h2.elim (fun h3 => h3.2 h) (b3 x h)
    · exact fun h2 => h2.elim (fun h3 => a3 x h.1 h3.1) h.2
theorem app_join {m : List KV} {a b : DDelta} (hm : srtK m) (ha : deltaOk a.U a.D = true) (hb : deltaOk b.U b.D = true) : appF m (fJoinDelta a b) = appF (appF m a) b := by
  obtain ⟨a1, a2, a3⟩ := delta_srt ha
  obtain ⟨b1, b2, b3⟩ := delta_srt hb
  rw [join_eq ha hb]
  refine srtK_ext _ _ (app_srt _ hm) (app_srt _ (app_srt _ hm)) fun x => ?_
  rw [mem_app hm (joinU_srt ha), mem_app (app_srt a hm) b1, mem_app hm a1, joinU_mem ha hb]
  simp only
  rw [delF_mem b1, joinU_has]
  by_cases q1 : x ∈ b.U <;> by_cases q2 : x ∈ a.U <;> by_cases q3 : x.key ∈ b.D <;> by_cases q4 : hasK b.U x.key <;> by_cases q5 : x.key ∈ a.D <;> by_cases q6 : hasK a.U x.key <;> simp [q1, q2, q3, q4, q5, q6]
theorem join_assoc {a b c : DDelta} (ha : deltaOk a.U a.D = true) (hb : deltaOk b.U b.D = true) (hc : deltaOk c.U c.D = true) : fJoinDelta (fJoinDelta a b) c = fJoinDelta a (fJoinDelta b c) := by
  obtain ⟨a1, a2, a3⟩ := delta_srt ha
  obtain ⟨b1, b2, b3⟩ := delta_srt hb
  obtain ⟨c1, c2, c3⟩ := delta_srt hc
  have hab := join_ok ha hb
  have hbc := join_ok hb hc
  have eab := join_eq ha hb
  have ebc := join_eq hb hc
  rw [join_eq hab hc, join_eq ha hbc]
  have eU : joinU (fJoinDelta a b) c = joinU a (fJoinDelta b c) := by
    refine srtK_ext _ _ (joinU_srt hab) (joinU_srt ha) fun x => ?_
    rw [joinU_mem hab hc, joinU_mem ha hbc, eab, ebc]
    simp only
    rw [joinU_mem ha hb, joinU_mem hb hc, delF_mem c1, joinU_has]
    by_cases q1 : x ∈ b.U <;> by_cases q2 : x ∈ a.U <;> by_cases q3 : x.key ∈ b.D <;> by_cases q4 : hasK b.U x.key <;> by_cases q5 : x ∈ c.U <;> by_cases q6 : x.key ∈ c.D <;> by_cases q7 : hasK c.U x.key <;> simp [q1, q2, q3, q4, q5, q6, q7]
    all_goals first
      | exact q4 (mem_has q1)
      | exact q7 (mem_has q5)
      | (exfalso; exact q4 (mem_has q1))
      | (exfalso; exact q7 (mem_has q5))
      | (exfalso; exact b3 _ q3 q4)
      | (exfalso; exact c3 _ q6 q7)
  have eD : delF c.U (fJoinDelta a b).D c.D = delF (fJoinDelta b c).U a.D (fJoinDelta b c).D := by
    refine sSrt_ext _ _ (delF_srt _ _ _ c2) (delF_srt _ _ _ (delta_srt hbc).2.1) fun x => ?_
    rw [delF_mem c1, delF_mem (delta_srt hbc).1, eab, ebc]
    simp only
    rw [delF_mem b1, delF_mem c1, joinU_has]
    by_cases q1 : x ∈ c.D <;> by_cases q2 : x ∈ b.D <;> by_cases q3 : x ∈ a.D <;> by_cases q4 : hasK b.U x <;> by_cases q5 : hasK c.U x <;> simp [q1, q2, q3, q4, q5]
  rw [eU, eD]
end Go.Proofs.Ytbegbdfbfbkflaa
/- Rows of records that hold a row each: where the inner rows lie stands beside the data; the inner rows are a bag. -/
namespace Go.Proofs.Ytbegbdfbfbkflaa
open Go.RowKit
set_option linter.unusedVariables false
set_option linter.unusedSimpArgs false
/-- A record with one row in it. -/
class In (α : Type) (β : outParam Type) [Dat β] where
  sz : Nat
  cells : α → Value → List Value
  len : ∀ x v, (cells x v).length = sz
  inn : α → List β
  dflt : α
  one : ∀ x (A : Option Addr) (n c : Nat), ∀ u ∈ cells x (.slice A n c), u.oneCell' = true
structure Lc (α : Type) where
  d : α
  A : Option Addr
  c : Nat
section
variable {α β : Type} [Dat β] [In α β]
@[reducible] def inL (l : Lc α) : List β := In.inn l.d
@[reducible] instance : Dat (Lc α) := ⟨In.sz α, fun l => In.cells l.d (.slice l.A (In.inn l.d).length l.c), fun _ => In.len _ _, ⟨In.dflt, none, 0⟩⟩
instance : OneC (Lc α) := ⟨fun x u hu => In.one _ _ _ _ u hu⟩
def Lc.row (l : Lc α) : RowD := ⟨l.A, (In.inn l.d).length, l.c, fl (In.inn l.d)⟩
def rowsOf (R : List (Lc α)) : List RowD := R.map Lc.row
def dats (R : List (Lc α)) : List α := R.map Lc.d
/-- The inner rows of a result stand behind the k-th place. -/
def locs (k : Nat) (x : List α) (y : Ys) : List (Lc α) := x.mapIdx fun i d => ⟨d, (y (k + i)).A, (y (k + i)).c⟩
def mkR (p : List Ya) (R : List (Lc α)) (w : World) : Ys := fun i => if i < p.length then p.getD i ⟨none, 0, w, 0⟩ else ⟨(nth R (i - p.length)).A, (nth R (i - p.length)).c, w, 0⟩
theorem dats_len (R : List (Lc α)) : (dats R).length = R.length := List.length_map ..
theorem locs_len (k : Nat) (x : List α) (y : Ys) : (locs k x y).length = x.length := by simp [locs]
theorem dats_locs (k : Nat) (x : List α) (y : Ys) : dats (locs k x y) = x := by
  apply List.ext_getElem?
  intro i
  simp only [dats, locs, List.getElem?_map, List.getElem?_mapIdx, Option.map_map]
  cases x[i]? <;> rfl
theorem nthL (R : List (Lc α)) (i : Nat) (h : i < R.length) : nth R i = R[i] := by simp [nth, h]
theorem locs_mkR (p : List Ya) (R : List (Lc α)) (w : World) (k : Nat) (h : p.length = k) : locs k (dats R) (mkR p R w) = R := by
  subst h
  apply List.ext_getElem?
  intro i
  simp only [locs, dats, List.getElem?_mapIdx, List.getElem?_map]
  by_cases hi : i < R.length
  · rw [List.getElem?_eq_getElem hi]
    simp only [Option.map_some, mkR, show ¬ p.length + i < p.length from by omega, if_false, show p.length + i - p.length = i from by omega, nthL R i hi]
  · rw [List.getElem?_eq_none (by omega)]; rfl
theorem mkR_at (p : List Ya) (R : List (Lc α)) (w : World) (i : Nat) (h : i < p.length) : mkR p R w i = p[i] := by simp [mkR, h]
theorem rows_snoc (R : List (Lc α)) (l : Lc α) : rowsOf (R ++ [l]) = rowsOf R ++ [l.row] := by simp [rowsOf]
theorem dats_snoc (R : List (Lc α)) (l : Lc α) : dats (R ++ [l]) = dats R ++ [l.d] := by simp [dats]
theorem rows_at (R : List (Lc α)) (k : Nat) (h : k < R.length) : rowsOf R = rowsOf (R.take k) ++ (nth R k).row :: rowsOf (R.drop (k + 1)) := by
  rw [nthL R k h]
  have e : R = R.take k ++ R[k] :: R.drop (k + 1) := by rw [← List.drop_eq_getElem_cons h, List.take_append_drop]
  have e2 := congrArg rowsOf e
  rw [e2]
  show List.map Lc.row (R.take k ++ R[k] :: R.drop (k + 1)) = List.map Lc.row (R.take k) ++ R[k].row :: List.map Lc.row (R.drop (k + 1))
  rw [List.map_append, List.map_cons]
theorem rows_set (R : List (Lc α)) (k : Nat) (l : Lc α) (h : k < R.length) : rowsOf (R.set k l) = rowsOf (R.take k) ++ l.row :: rowsOf (R.drop (k + 1)) := by
  rw [List.set_eq_take_append_cons_drop, if_pos h]
  simp [rowsOf]
section
variable {base : Nat} {w0 w : World} {H : List HObj} {G : List World} {e sz : Nat}
theorem WOk.bagPull {R : List (Lc α)} (k : Nat) (hk : k < R.length) (hw : WOk base w0 (.bag e sz (rowsOf R) :: H) G w) : WOk base w0 (.row e sz (nth R k).A (In.inn (nth R k).d).length (nth R k).c (fl (In.inn (nth R k).d)) :: .bag e sz (rowsOf (R.take k) ++ rowsOf (R.drop (k + 1))) :: H) G w := by
  rw [rows_at R k hk] at hw
  exact WOk.pull hw
theorem WOk.bagPush {R : List (Lc α)} (k : Nat) (l : Lc α) (hk : k < R.length) (hw : WOk base w0 (.row e sz l.A (In.inn l.d).length l.c (fl (In.inn l.d)) :: .bag e sz (rowsOf (R.take k) ++ rowsOf (R.drop (k + 1))) :: H) G w) : WOk base w0 (.bag e sz (rowsOf (R.set k l)) :: H) G w := by
  rw [rows_set R k l hk]
  exact WOk.push (r := l.row) hw
theorem WOk.bagAdd {R : List (Lc α)} (l : Lc α) {n : Nat} {us : List Value} (hn : n = (In.inn l.d).length) (hu : us = fl (In.inn l.d)) (hw : WOk base w0 (.row e sz l.A n l.c us :: .bag e sz (rowsOf R) :: H) G w) : WOk base w0 (.bag e sz (rowsOf (R ++ [l])) :: H) G w := by
  subst hn; subst hu
  rw [rows_snoc]
  exact hw.absorb
theorem bag_call {P : Program} {f : FuncId} {args : Array Value} {v : Ys → Value} {F : Ys → Prop} {R : List (Lc α)} (k : Nat) (l : Lc α) (hk : k < R.length)
    (hc : ∀ H, WOk base w0 (.row e sz (nth R k).A (In.inn (nth R k).d).length (nth R k).c (fl (In.inn (nth R k).d)) :: H) G w → Calls P f args w (fun e' w' => ∃ y : Ys, e' = .returned (v y) ∧ F y ∧ WOk base w0 (.row e sz l.A (In.inn l.d).length l.c (fl (In.inn l.d)) :: H) G w'))
    (hw : WOk base w0 (.bag e sz (rowsOf R) :: H) G w) : Calls P f args w (fun e' w' => ∃ y : Ys, e' = .returned (v y) ∧ F y ∧ WOk base w0 (.bag e sz (rowsOf (R.set k l)) :: H) G w') :=
  (hc _ (hw.bagPull k hk)).mono fun e' w' ⟨y, h1, h2, h3⟩ => ⟨y, h1, h2, WOk.bagPush k l hk h3⟩
end
theorem rds_bag {H : List HObj} {G : List World} {e sz : Nat} {R : List (Lc α)} (i k : Nat) (hi : H[i]? = some (.bag e sz (rowsOf R))) (hk : k < R.length) : Rds H G (nth R k).A (fl (In.inn (nth R k).d)) := fun base w0 w hw => by
  have h := (hw.own _ (List.mem_of_getElem? hi)).1 (nth R k).row (List.mem_map.2 ⟨_, nth_mem R k hk, rfl⟩)
  exact Rd.of_own h
theorem cap_bag {base : Nat} {w0 w : World} {H : List HObj} {G : List World} {e sz : Nat} {R : List (Lc α)} (hw : WOk base w0 H G w) (i k : Nat) (hi : H[i]? = some (.bag e sz (rowsOf R))) (hk : k < R.length) : (In.inn (nth R k).d).length ≤ (nth R k).c := by
  have h := (hw.own _ (List.mem_of_getElem? hi)).1 (nth R k).row (List.mem_map.2 ⟨_, nth_mem R k hk, rfl⟩)
  rcases h.2 with ⟨h1, h2⟩ | ⟨g, cap, cur, h1, h2, h3, h4, _⟩
  · have : (In.inn (nth R k).d).length = 0 := h2
    omega
  · have e1 := h1
    simp only [Lc.row] at e1 h4
    injection e1 with _ _ e2
    omega
/-- Readable in depth. -/
def RdN (w : World) (A : Option Addr) (R : List (Lc α)) : Prop := Rd w A (fl R) ∧ ∀ k, k < R.length → Rd w (nth R k).A (fl (In.inn (nth R k).d))
theorem RdN.keep {base : Nat} {w0 w m : World} {H : List HObj} {G : List World} {A : Option Addr} {R : List (Lc α)} (hw : WOk base w0 H G w) (h : RdN m A R) (hm : m ∈ G) : RdN w A R := ⟨hw.keep h.1 hm, fun k hk => hw.keep (h.2 k hk) hm⟩
theorem RdN.own {base : Nat} {w0 w : World} {H : List HObj} {G : List World} {A : Option Addr} {R : List (Lc α)} {e sz n c e' sz' : Nat} (hw : WOk base w0 H G w) (i j : Nat) (hi : H[i]? = some (.row e sz A n c (fl R))) (hj : H[j]? = some (.bag e' sz' (rowsOf R))) : RdN w A R := ⟨hw.row i hi, fun k hk => rds_bag j k hj hk _ _ _ hw⟩
theorem RdN.below {w w' : World} {A : Option Addr} {R : List (Lc α)} (hr : ∀ A us, Rd w A us → Rd w' A us) (h : RdN w A R) : RdN w' A R := ⟨hr _ _ h.1, fun k hk => hr _ _ (h.2 k hk)⟩
/-- Rows of such records by their type. -/
def NestAt (e : GT) (f : e.den → α) (big : α → Prop) : Prop := ∀ (w : World) x c, RdT w e x c → ∃ (A : Option Addr) (k : Nat), c = In.cells (f x) (.slice A (In.inn (f x)).length k) ∧ Rd w A (fl (In.inn (f x))) ∧ big (f x)
theorem nest_rows {e : GT} {f : e.den → α} {big : α → Prop} (hf : NestAt e f big) {w : World} : ∀ (xs : List e.den) (us : List Value), RdTs w e xs us → ∃ R : List (Lc α), us = fl R ∧ R.length = xs.length ∧ (∀ l ∈ R, Rd w l.A (fl (In.inn l.d))) ∧ ∀ l ∈ R, big l.d
  | [], us, h => by
    rw [RdTs.nil] at h; subst h; exact ⟨[], rfl, rfl, fun x h => (by cases h), fun x h => (by cases h)⟩
  | x :: xs, us, h => by
    obtain ⟨c1, c2, rfl, h1, h2⟩ := RdTs.cons.1 h
    obtain ⟨A, k, rfl, hr, hb⟩ := hf w x c1 h1
    obtain ⟨R, rfl, hl, hrs, hbs⟩ := nest_rows hf xs c2 h2
    refine ⟨⟨f x, A, k⟩ :: R, rfl, by simp [hl], fun y hy => ?_, fun y hy => ?_⟩
    · cases hy with
      | head => exact hr
      | tail _ hy => exact hrs y hy
    · cases hy with
      | head => exact hb
      | tail _ hy => exact hbs y hy
theorem nest_sl {E : TypeId} {e : GT} {f : e.den → α} {big : α → Prop} (hf : NestAt e f big) {w : World} {xs : GT.den (.sl E e)} {cs : List Value} (h : RdT w (.sl E e) xs cs) : ∃ (A : Option Addr) (c : Nat) (R : List (Lc α)), cs = [.slice A R.length c] ∧ R.length ≤ maxLen ∧ RdN w A R ∧ (∀ x ∈ dats R, big x) := by
  obtain ⟨A, c, us, rfl, h1, h2, h3, h4⟩ := RdT.sl.1 h
  obtain ⟨R, rfl, hl, hrs, hb⟩ := nest_rows hf _ _ h4
  refine ⟨A, c, R, congrArg (fun n => [Value.slice A n c]) hl.symm, ?_, ⟨h3, fun k hk => hrs _ (nth_mem R k hk)⟩, fun x hx => ?_⟩
  · have : R.length = List.length xs := hl
    omega
  · obtain ⟨l, hl, rfl⟩ := List.mem_map.1 hx
    exact hb l hl
end
/-- Lists as records. -/
@[reducible] instance {β : Type} [Dat β] : In (List β) β := ⟨1, fun _ v => [v], fun _ _ => rfl, id, [], fun _ _ _ _ u hu => by
  cases hu with
  | head => rfl
  | tail _ h => cases h⟩
theorem flat_nest {E : TypeId} {e : GT} {β : Type} [Dat β] {f : e.den → β} {big : β → Prop} (hf : FlatAt e f big) : NestAt (α := List β) (.sl E e) (fun xs => List.map f (show List e.den from xs)) (fun l => l.length ≤ maxLen ∧ ∀ x ∈ l, big x) := fun w xs cs h => by
  obtain ⟨A, c, us, rfl, h1, h2, h3, h4⟩ := RdT.sl.1 h
  obtain ⟨rfl, hb⟩ := flat_rows hf _ _ h4
  have hl : (List.map f (show List e.den from xs)).length = List.length xs := List.length_map ..
  exact ⟨A, c, congrArg (fun n => [Value.slice A n c]) hl.symm, h3, Nat.le_trans (Nat.le_of_eq hl) (Nat.le_trans h1 h2), hb⟩
/-- Marks one behind the other. -/
def offR {α : Type} (cnt : α → Nat) (x : List α) (i : Nat) : Nat := ((x.take i).map cnt).sum
theorem offR_zero {α : Type} (cnt : α → Nat) (x : List α) : offR cnt x 0 = 0 := rfl
theorem offR_le {α : Type} (cnt : α → Nat) (x : List α) (m : Nat) (hm : ∀ u ∈ x, cnt u ≤ m) : ∀ i, offR cnt x i ≤ x.length * m := by
  intro i
  unfold offR
  induction x generalizing i with
  | nil => simp
  | cons a x ih =>
    cases i with
    | zero => simp
    | succ i =>
      have h1 := ih (fun u hu => hm u (List.mem_cons_of_mem _ hu)) i
      have h2 := hm a List.mem_cons_self
      simp only [List.take_succ_cons, List.map_cons, List.sum_cons, List.length_cons, Nat.add_mul, Nat.one_mul]
      omega
/-- The first k are marked. -/
def mixR {α : Type} (mk : Nat → α → α) (k : Nat) (R : List α) : List α := R.mapIdx fun i l => if i < k then mk i l else l
theorem mixR_len {α : Type} (mk : Nat → α → α) (k : Nat) (R : List α) : (mixR mk k R).length = R.length := by simp [mixR]
theorem mixR_zero {α : Type} (mk : Nat → α → α) (R : List α) : mixR mk 0 R = R := by
  apply List.ext_getElem?
  intro i
  simp only [mixR, List.getElem?_mapIdx]
  cases R[i]? <;> simp
theorem mixR_nth {α : Type} [Dat α] (mk : Nat → α → α) (k : Nat) (R : List α) (i : Nat) (h : i < R.length) : nth (mixR mk k R) i = if i < k then mk i (nth R i) else nth R i := by
  simp [nth, mixR, h]
theorem mixR_step {α : Type} [Dat α] (mk : Nat → α → α) (k : Nat) (R : List α) (h : k < R.length) : (mixR mk k R).set k (mk k (nth R k)) = mixR mk (k + 1) R := by
  apply List.ext_getElem?
  intro i
  have e : nth R k = R[k] := by simp [nth, h]
  rw [e]
  simp only [mixR, List.getElem?_set, List.getElem?_mapIdx, List.length_mapIdx]
  by_cases hi : k = i
  · subst hi
    simp [h]
  · rw [if_neg hi]
    cases R[i]? with
    | none => rfl
    | some l =>
      simp only [Option.map_some, Option.some.injEq]
      by_cases h2 : i < k
      · rw [if_pos h2, if_pos (by omega)]
      · rw [if_neg h2, if_neg (by omega)]
end Go.Proofs.Ytbegbdfbfbkflaa
/- slices.Grow of nil, slices.Concat of rows of Str. -/
namespace Go.Proofs.Ytbegbdfbfbkflaa
open Go.RowKit
set_option maxHeartbeats 4000000
set_option maxRecDepth 20000
set_option linter.unusedVariables false
set_option linter.unusedSimpArgs false
attribute [local irreducible] Calls
theorem growStr_c (n : Nat) (hn : n ≤ 4194304) (w : World) :
    Calls Try.prog 187 #[.slice none 0 0, .int .i64 (n : Int)] w fun e w' => ∃ y : Ys, e = .returned (.slice (y 0).A 0 (y 0).c) ∧ True ∧ Below w.heap.size w w' ∧ NewOk w.heap.size [.row 9 1 (y 0).A 0 (y 0).c []] [] w' := by
  refine ok_enter 27 Try.func187 rfl rfl rfl ?_
  repeat' (first
    | refine ok_seq ?_
    | refine ok_then ?_
    | refine ok_then_ret ?_
    | refine ok_then_exit ?_
    | refine ok_block ?_
    | refine ok_in_normal ?_
    | refine ok_in_ret ?_
    | refine ok_in_exit ?_
    | refine ok_in_other rfl ?_
    | (refine ok_cond rfl (fun hc => ?_) (fun hc => ?_) <;> (have hd := hc; (try simp only [decide_eq_true_eq, decide_eq_false_iff_not, Bool.or_eq_true, Bool.or_eq_false_iff, Bool.and_eq_true, Bool.and_eq_false_iff, Bool.not_eq_true', Bool.not_eq_false', bne_iff_ne, beq_iff_eq, bne_eq_false_iff_eq, beq_eq_false_iff_ne, ne_eq, Bool.not_true, Bool.not_false, Bool.false_eq_true, Bool.true_eq_false, inB_true, inB_false] at hd)))
    | refine ok_ret ?_
    | refine ok_exit ?_
    | refine ok_skip ?_
    | (refine ok_region (i := 0) ?_; refine ok_p rfl rfl rfl (by exact ps_assign rfl rfl) ?_; refine ok_nil ?_; refine ok_env [(0, _), (1, _)] ⟨rfl, rfl, trivial⟩ ?_)
    | (refine ok_region (i := 1) ?_; refine ok_p rfl rfl rfl (by exact ps_move rfl rfl) ?_; refine ok_p rfl rfl rfl (by exact ps_int rfl rfl rfl rfl) ?_; refine ok_nil ?_; refine ok_env [(0, _), (1, _), (6, _)] ⟨rfl, rfl, rfl, trivial⟩ ?_)
    | (refine ok_region (i := 2) ?_; refine ok_p rfl rfl rfl (by fail "no rule makeInterface") ?_; refine ok_p rfl rfl rfl (by fail "no rule panic") ?_; refine ok_nil ?_; refine ok_env [(0, _), (1, _)] ⟨rfl, rfl, trivial⟩ ?_)
    | (refine ok_region (i := 3) ?_; refine ok_p rfl rfl rfl (by exact ps_move rfl rfl) ?_; refine ok_p rfl rfl rfl (by exact ps_move rfl rfl) ?_; refine ok_p rfl rfl rfl (by first | exact ps_capS rfl rfl | exact ps_cap rfl rfl rfl) ?_; refine ok_p rfl rfl rfl (by exact ps_move rfl rfl) ?_; refine ok_p rfl rfl rfl (by exact ps_len rfl rfl) ?_; refine ok_p rfl rfl rfl (by first | exact ps_cast (v' := .int .i64 0) (ps_sub rfl rfl rfl (by omega)) (congrArg (Value.int .i64) (by omega)) | exact ps_sub rfl rfl rfl (by omega)) ?_; refine ok_p rfl rfl rfl (by first | exact ps_cast (v' := .int .i64 (n : Int)) (ps_sub rfl rfl rfl (by omega)) (congrArg (Value.int .i64) (by omega)) | exact ps_sub rfl rfl rfl (by omega)) ?_; refine ok_p rfl rfl rfl (by exact ps_assign rfl rfl) ?_; refine ok_nil ?_; refine ok_env [(0, _), (1, _)] ⟨rfl, rfl, trivial⟩ ?_)
    | (refine ok_region (i := 4) ?_; refine ok_p rfl rfl rfl (by exact ps_move rfl rfl) ?_; refine ok_p rfl rfl rfl (by exact ps_int rfl rfl rfl rfl) ?_; refine ok_nil ?_; refine ok_env [(0, _), (1, _), (16, _)] ⟨rfl, rfl, rfl, trivial⟩ ?_)
    | (refine ok_region (i := 5) ?_; refine ok_p rfl rfl rfl (by exact ps_move rfl rfl) ?_; refine ok_p rfl rfl rfl (by exact ps_move rfl rfl) ?_; refine ok_p rfl rfl rfl (by first | exact ps_capS rfl rfl | exact ps_cap rfl rfl rfl) ?_; refine ok_p rfl rfl rfl (by exact ps_slice0 (h := 0) rfl rfl rfl (by omega) (by omega)) ?_; refine ok_p rfl rfl rfl (by exact ps_move rfl rfl) ?_; refine ok_m rfl rfl rfl (by exact ms_appZ (us := []) (i := 0) (n := n) rfl rfl rfl (fun _ _ w _ => Rd.nil w _) rfl (by omega) (by omega) (by omega) (by omega)) ?_; rintro y22 hy22; refine ok_p rfl rfl rfl (by exact ps_move rfl rfl) ?_; refine ok_p rfl rfl rfl (by exact ps_len rfl rfl) ?_; refine ok_p rfl rfl rfl (by exact ps_slice0 (h := 0) rfl rfl rfl (by omega) (by omega)) ?_; refine ok_p rfl rfl rfl (by exact ps_assign rfl rfl) ?_; refine ok_nil ?_; refine ok_env [(0, _)] ⟨rfl, trivial⟩ ?_)
    | (refine ok_region (i := 6) ?_; refine ok_p rfl rfl rfl (by exact ps_move rfl rfl) ?_; refine ok_p rfl rfl rfl (by exact ps_assign rfl rfl) ?_; refine ok_nil ?_; refine ok_env [(4, _)] ⟨rfl, trivial⟩ ?_))
  · exfalso; omega
  · refine ok_endL (vs := [_]) rfl ⟨rfl, trivial⟩ (fun w' hw => ⟨mkY (ga (y22 0).c) (y22 1).c w', rfl, trivial, hw.below, ?_⟩)
    obtain ⟨q1, q2⟩ := hy22
    refine NewOk.of (G := []) ((hw.boxRow (n := 0) (c := (y22 1).c) (us := []) (sz := 1) ?_ q2 (Nat.zero_le _) (by simp)).sel [0] (by decide) rfl (fun _ h => by cases h))
    simp only [List.length_append, zz_len, List.length_cons, List.length_nil]
    omega
  · exact ok_endL (vs := [_]) rfl ⟨rfl, trivial⟩ (fun w' hw => ⟨mkY none 0 w', rfl, trivial, hw.below, NewOk.one (Own.nil w' _ _ _)⟩)
theorem offStr_succ (R : List (Lc (List ByteArray))) (i : Nat) (h : i < R.length) : offR List.length (dats R) (i + 1) = offR List.length (dats R) i + (nth R i).d.length := by
  rw [nthL R i h]
  have hd : i < (dats R).length := by rw [dats_len]; exact h
  unfold offR
  rw [List.take_succ_eq_append_getElem hd, List.map_append, List.sum_append]
  simp [dats]
theorem catStr_step (R : List (Lc (List ByteArray))) (i : Nat) (h : i < R.length) : ((dats R).take (i + 1)).flatten = ((dats R).take i).flatten ++ (nth R i).d := by
  rw [nthL R i h]
  have hd : i < (dats R).length := by rw [dats_len]; exact h
  rw [List.take_succ_eq_append_getElem hd, List.flatten_append]
  simp [dats]
theorem catStr_len (x : List (List ByteArray)) (i : Nat) : ((x.take i).flatten).length = offR List.length x i := by
  unfold offR; rw [List.length_flatten]
theorem concatStr_c (A : Option Addr) (c : Nat) (R : List (Lc (List ByteArray))) (w : World) (h : RdN w A R) (hl : R.length ≤ 4194304) (ht : ∀ k, offR List.length (dats R) k ≤ 4194304) :
    Calls Try.prog 136 #[.slice A R.length c] w fun e w' => ∃ y : Ys, e = .returned (.slice (y 0).A ((dats R).flatten).length (y 0).c) ∧ True ∧ Below w.heap.size w w' ∧ NewOk w.heap.size [.row 9 1 (y 0).A ((dats R).flatten).length (y 0).c (fl (dats R).flatten)] [] w' := by
  obtain ⟨h1, h2⟩ := h
  have H2 := Lib.hid h2; clear h2
  have HT := Lib.hid ht; clear ht
  refine ok_enter 36 Try.func136 rfl rfl rfl ?_
  repeat' (first
    | refine ok_seq ?_
    | refine ok_then ?_
    | refine ok_then_ret ?_
    | refine ok_then_exit ?_
    | refine ok_block ?_
    | refine ok_in_normal ?_
    | refine ok_in_ret ?_
    | refine ok_in_exit ?_
    | refine ok_in_other rfl ?_
    | (refine ok_cond rfl (fun hc => ?_) (fun hc => ?_) <;> (have hd := hc; (try simp only [decide_eq_true_eq, decide_eq_false_iff_not, Bool.or_eq_true, Bool.or_eq_false_iff, Bool.and_eq_true, Bool.and_eq_false_iff, Bool.not_eq_true', Bool.not_eq_false', bne_iff_ne, beq_iff_eq, bne_eq_false_iff_eq, beq_eq_false_iff_ne, ne_eq, Bool.not_true, Bool.not_false, Bool.false_eq_true, Bool.true_eq_false, inB_true, inB_false] at hd)))
    | refine ok_ret ?_
    | refine ok_exit ?_
    | refine ok_skip ?_
    | (refine ok_region (i := 0) ?_; refine ok_p rfl rfl rfl (by exact ps_assign rfl rfl) ?_; refine ok_nil ?_; refine ok_env [(0, _)] ⟨rfl, trivial⟩ ?_)
    | (refine ok_region (i := 1) ?_; refine ok_p rfl rfl rfl (by exact ps_assign rfl rfl) ?_; refine ok_nil ?_; refine ok_env [(0, _), (3, _)] ⟨rfl, rfl, trivial⟩ ?_)
    | (refine ok_region (i := 2) ?_; refine ok_p rfl rfl rfl (by exact ps_move rfl rfl) ?_; refine ok_p rfl rfl rfl (by exact ps_len rfl rfl) ?_; refine ok_p rfl rfl rfl (by exact ps_move rfl rfl) ?_; refine ok_nil ?_; refine ok_env [(0, _), (3, _), (9, _), (10, _), (11, _)] ⟨rfl, rfl, rfl, rfl, rfl, trivial⟩ ?_)
    | (refine ok_region (i := 3) ?_; refine ok_p rfl rfl rfl (by exact ps_int rfl rfl rfl rfl) ?_; refine ok_nil ?_; refine ok_env [(0, _), (3, _), (9, _), (10, _), (11, _), (12, _)] ⟨rfl, rfl, rfl, rfl, rfl, rfl, trivial⟩ ?_)
    | (refine ok_region (i := 4) ?_; refine ok_p rfl rfl rfl (by first | exact ps_indexN rfl rfl rfl (by omega) (by first | exact isw_ga _ | exact isw_some _ | exact isw_row 0 rfl (by omega) | exact isw_row 1 rfl (by omega) | exact isw_row 2 rfl (by omega) | exact isw_row 3 rfl (by omega) | exact isw_row 4 rfl (by omega) | exact isw_row 5 rfl (by omega) | exact isw_row 6 rfl (by omega) | exact isw_row 7 rfl (by omega) | exact isw_row 8 rfl (by omega) | exact isw_of (isS_fl (by assumption) (by omega)) | exact isw_of (by assumption)) | exact ps_index rfl rfl rfl (by omega) (by first | exact isw_ga _ | exact isw_some _ | exact isw_row 0 rfl (by omega) | exact isw_row 1 rfl (by omega) | exact isw_row 2 rfl (by omega) | exact isw_row 3 rfl (by omega) | exact isw_row 4 rfl (by omega) | exact isw_row 5 rfl (by omega) | exact isw_row 6 rfl (by omega) | exact isw_row 7 rfl (by omega) | exact isw_row 8 rfl (by omega) | exact isw_of (isS_fl (by assumption) (by omega)) | exact isw_of (by assumption))) ?_; refine ok_p rfl rfl rfl (by exact ps_load rfl rfl (by first | exact Rds.cell (rds_box 0 rfl) rfl | exact Rds.cell (rds_box 1 rfl) rfl | exact Rds.cell (rds_box 2 rfl) rfl | exact Rds.cell (rds_box 3 rfl) rfl | exact Rds.cell (rds_box 4 rfl) rfl | exact Rds.cell (rds_box 5 rfl) rfl | exact Rds.cell (rds_box 6 rfl) rfl | exact Rds.cell (rds_box 7 rfl) rfl | exact Rds.cell (rds_box 8 rfl) rfl | exact Rds.cell (rds_box 9 rfl) rfl | exact Rds.cell (rds_box 10 rfl) rfl | exact Rds.cell (rds_box 11 rfl) rfl | exact Rds.cell (rds_box 12 rfl) rfl | exact Rds.cell (rds_box 13 rfl) rfl | exact Rds.cell (rds_box 14 rfl) rfl | exact Rds.cell (rds_box 15 rfl) rfl | exact Rds.cell (rds_box 16 rfl) rfl | exact Rds.cell (rds_box 17 rfl) rfl | exact Rds.cell (rds_box 18 rfl) rfl | exact Rds.cell (rds_box 19 rfl) rfl | exact Rds.cell (rds_box 20 rfl) rfl | exact Rds.cell (rds_box 21 rfl) rfl | exact Rds.cell (rds_box 22 rfl) rfl | exact Rds.cell (rds_box 23 rfl) rfl | exact Rds.cell (rds_rf (by assumption) (by first | exact List.mem_cons_self | exact List.mem_cons_of_mem _ List.mem_cons_self | simp)) (by first | exact fl_at0 _ _ (by omega) (by decide) | exact fl_at _ _ _ (by omega) (by decide)) | exact Rds.cell (rds_row 0 rfl) (by first | exact fl_at0 _ _ (by omega) (by decide) | exact fl_at _ _ _ (by omega) (by decide)) | exact Rds.cell (rds_row 1 rfl) (by first | exact fl_at0 _ _ (by omega) (by decide) | exact fl_at _ _ _ (by omega) (by decide)) | exact Rds.cell (rds_row 2 rfl) (by first | exact fl_at0 _ _ (by omega) (by decide) | exact fl_at _ _ _ (by omega) (by decide)) | exact Rds.cell (rds_row 3 rfl) (by first | exact fl_at0 _ _ (by omega) (by decide) | exact fl_at _ _ _ (by omega) (by decide)) | exact Rds.cell (rds_row 4 rfl) (by first | exact fl_at0 _ _ (by omega) (by decide) | exact fl_at _ _ _ (by omega) (by decide)) | exact Rds.cell (rds_row 5 rfl) (by first | exact fl_at0 _ _ (by omega) (by decide) | exact fl_at _ _ _ (by omega) (by decide)) | exact Rds.cell (rds_row 6 rfl) (by first | exact fl_at0 _ _ (by omega) (by decide) | exact fl_at _ _ _ (by omega) (by decide)) | exact Rds.cell (rds_row 7 rfl) (by first | exact fl_at0 _ _ (by omega) (by decide) | exact fl_at _ _ _ (by omega) (by decide)) | exact Rds.cell (rds_row 8 rfl) (by first | exact fl_at0 _ _ (by omega) (by decide) | exact fl_at _ _ _ (by omega) (by decide)) | exact Rds.cell (rds_row 9 rfl) (by first | exact fl_at0 _ _ (by omega) (by decide) | exact fl_at _ _ _ (by omega) (by decide)))) ?_; refine ok_p rfl rfl rfl (by exact ps_assign rfl rfl) ?_; refine ok_nil ?_; refine ok_env [(0, _), (3, _), (5, _), (9, _), (10, _), (11, _)] ⟨rfl, rfl, rfl, rfl, rfl, rfl, trivial⟩ ?_)
    | (refine ok_region (i := 5) ?_; refine ok_p rfl rfl rfl (by exact ps_move rfl rfl) ?_; refine ok_p rfl rfl rfl (by exact ps_move rfl rfl) ?_; refine ok_p rfl rfl rfl (by exact ps_len rfl rfl) ?_; refine ok_p rfl rfl rfl (by exact ps_add rfl rfl rfl (by omega)) ?_; refine ok_p rfl rfl rfl (by exact ps_assign rfl rfl) ?_; refine ok_nil ?_; refine ok_env [(0, _), (3, _), (9, _), (10, _), (11, _)] ⟨rfl, rfl, rfl, rfl, rfl, trivial⟩ ?_)
    | (refine ok_region (i := 6) ?_; refine ok_p rfl rfl rfl (by exact ps_move rfl rfl) ?_; refine ok_p rfl rfl rfl (by exact ps_int rfl rfl rfl rfl) ?_; refine ok_nil ?_; refine ok_env [(0, _), (3, _), (9, _), (10, _), (11, _), (20, _)] ⟨rfl, rfl, rfl, rfl, rfl, rfl, trivial⟩ ?_)
    | (refine ok_region (i := 7) ?_; refine ok_p rfl rfl rfl (by fail "no rule makeInterface") ?_; refine ok_p rfl rfl rfl (by fail "no rule panic") ?_; refine ok_nil ?_; refine ok_env [(0, _), (3, _), (9, _), (10, _), (11, _)] ⟨rfl, rfl, rfl, rfl, rfl, trivial⟩ ?_)
    | (refine ok_region (i := 8) ?_; refine ok_p rfl rfl rfl (by exact ps_add rfl rfl rfl (by omega)) ?_; refine ok_p rfl rfl rfl (by exact ps_move rfl rfl) ?_; refine ok_nil ?_; refine ok_env [(0, _), (3, _), (9, _), (10, _), (11, _)] ⟨rfl, rfl, rfl, rfl, rfl, trivial⟩ ?_)
    | (refine ok_region (i := 9) ?_; refine ok_p rfl rfl rfl (by exact ps_move rfl rfl) ?_; refine ok_m rfl rfl rfl (by fail "no maker call") ?_; rintro y24 hy24; refine ok_p rfl rfl rfl (by exact ps_assign rfl rfl) ?_; refine ok_nil ?_; refine ok_env [(0, _), (6, _)] ⟨rfl, rfl, trivial⟩ ?_)
    | (refine ok_region (i := 10) ?_; refine ok_p rfl rfl rfl (by exact ps_move rfl rfl) ?_; refine ok_p rfl rfl rfl (by exact ps_len rfl rfl) ?_; refine ok_p rfl rfl rfl (by exact ps_move rfl rfl) ?_; refine ok_nil ?_; refine ok_env [(6, _), (25, _), (26, _), (27, _)] ⟨rfl, rfl, rfl, rfl, trivial⟩ ?_)
    | (refine ok_region (i := 11) ?_; refine ok_p rfl rfl rfl (by exact ps_int rfl rfl rfl rfl) ?_; refine ok_nil ?_; refine ok_env [(6, _), (25, _), (26, _), (27, _), (28, _)] ⟨rfl, rfl, rfl, rfl, rfl, trivial⟩ ?_)
    | (refine ok_region (i := 12) ?_; refine ok_p rfl rfl rfl (by first | exact ps_indexN rfl rfl rfl (by omega) (by first | exact isw_ga _ | exact isw_some _ | exact isw_row 0 rfl (by omega) | exact isw_row 1 rfl (by omega) | exact isw_row 2 rfl (by omega) | exact isw_row 3 rfl (by omega) | exact isw_row 4 rfl (by omega) | exact isw_row 5 rfl (by omega) | exact isw_row 6 rfl (by omega) | exact isw_row 7 rfl (by omega) | exact isw_row 8 rfl (by omega) | exact isw_of (isS_fl (by assumption) (by omega)) | exact isw_of (by assumption)) | exact ps_index rfl rfl rfl (by omega) (by first | exact isw_ga _ | exact isw_some _ | exact isw_row 0 rfl (by omega) | exact isw_row 1 rfl (by omega) | exact isw_row 2 rfl (by omega) | exact isw_row 3 rfl (by omega) | exact isw_row 4 rfl (by omega) | exact isw_row 5 rfl (by omega) | exact isw_row 6 rfl (by omega) | exact isw_row 7 rfl (by omega) | exact isw_row 8 rfl (by omega) | exact isw_of (isS_fl (by assumption) (by omega)) | exact isw_of (by assumption))) ?_; refine ok_p rfl rfl rfl (by exact ps_load rfl rfl (by first | exact Rds.cell (rds_box 0 rfl) rfl | exact Rds.cell (rds_box 1 rfl) rfl | exact Rds.cell (rds_box 2 rfl) rfl | exact Rds.cell (rds_box 3 rfl) rfl | exact Rds.cell (rds_box 4 rfl) rfl | exact Rds.cell (rds_box 5 rfl) rfl | exact Rds.cell (rds_box 6 rfl) rfl | exact Rds.cell (rds_box 7 rfl) rfl | exact Rds.cell (rds_box 8 rfl) rfl | exact Rds.cell (rds_box 9 rfl) rfl | exact Rds.cell (rds_box 10 rfl) rfl | exact Rds.cell (rds_box 11 rfl) rfl | exact Rds.cell (rds_box 12 rfl) rfl | exact Rds.cell (rds_box 13 rfl) rfl | exact Rds.cell (rds_box 14 rfl) rfl | exact Rds.cell (rds_box 15 rfl) rfl | exact Rds.cell (rds_box 16 rfl) rfl | exact Rds.cell (rds_box 17 rfl) rfl | exact Rds.cell (rds_box 18 rfl) rfl | exact Rds.cell (rds_box 19 rfl) rfl | exact Rds.cell (rds_box 20 rfl) rfl | exact Rds.cell (rds_box 21 rfl) rfl | exact Rds.cell (rds_box 22 rfl) rfl | exact Rds.cell (rds_box 23 rfl) rfl | exact Rds.cell (rds_rf (by assumption) (by first | exact List.mem_cons_self | exact List.mem_cons_of_mem _ List.mem_cons_self | simp)) (by first | exact fl_at0 _ _ (by omega) (by decide) | exact fl_at _ _ _ (by omega) (by decide)) | exact Rds.cell (rds_row 0 rfl) (by first | exact fl_at0 _ _ (by omega) (by decide) | exact fl_at _ _ _ (by omega) (by decide)) | exact Rds.cell (rds_row 1 rfl) (by first | exact fl_at0 _ _ (by omega) (by decide) | exact fl_at _ _ _ (by omega) (by decide)) | exact Rds.cell (rds_row 2 rfl) (by first | exact fl_at0 _ _ (by omega) (by decide) | exact fl_at _ _ _ (by omega) (by decide)) | exact Rds.cell (rds_row 3 rfl) (by first | exact fl_at0 _ _ (by omega) (by decide) | exact fl_at _ _ _ (by omega) (by decide)) | exact Rds.cell (rds_row 4 rfl) (by first | exact fl_at0 _ _ (by omega) (by decide) | exact fl_at _ _ _ (by omega) (by decide)) | exact Rds.cell (rds_row 5 rfl) (by first | exact fl_at0 _ _ (by omega) (by decide) | exact fl_at _ _ _ (by omega) (by decide)) | exact Rds.cell (rds_row 6 rfl) (by first | exact fl_at0 _ _ (by omega) (by decide) | exact fl_at _ _ _ (by omega) (by decide)) | exact Rds.cell (rds_row 7 rfl) (by first | exact fl_at0 _ _ (by omega) (by decide) | exact fl_at _ _ _ (by omega) (by decide)) | exact Rds.cell (rds_row 8 rfl) (by first | exact fl_at0 _ _ (by omega) (by decide) | exact fl_at _ _ _ (by omega) (by decide)) | exact Rds.cell (rds_row 9 rfl) (by first | exact fl_at0 _ _ (by omega) (by decide) | exact fl_at _ _ _ (by omega) (by decide)))) ?_; refine ok_p rfl rfl rfl (by exact ps_assign rfl rfl) ?_; refine ok_nil ?_; refine ok_env [(6, _), (8, _), (25, _), (26, _), (27, _)] ⟨rfl, rfl, rfl, rfl, rfl, trivial⟩ ?_)
    | (refine ok_region (i := 13) ?_; refine ok_p rfl rfl rfl (by exact ps_move rfl rfl) ?_; refine ok_p rfl rfl rfl (by exact ps_move rfl rfl) ?_; refine ok_m rfl rfl rfl (by fail "no maker call") ?_; rintro y33 hy33; refine ok_p rfl rfl rfl (by exact ps_assign rfl rfl) ?_; refine ok_nil ?_; refine ok_env [(6, _), (25, _), (26, _), (27, _)] ⟨rfl, rfl, rfl, rfl, trivial⟩ ?_)
    | (refine ok_region (i := 14) ?_; refine ok_p rfl rfl rfl (by exact ps_add rfl rfl rfl (by omega)) ?_; refine ok_p rfl rfl rfl (by exact ps_move rfl rfl) ?_; refine ok_nil ?_; refine ok_env [(6, _), (25, _), (26, _), (27, _)] ⟨rfl, rfl, rfl, rfl, trivial⟩ ?_)
    | (refine ok_region (i := 15) ?_; refine ok_p rfl rfl rfl (by exact ps_move rfl rfl) ?_; refine ok_p rfl rfl rfl (by exact ps_assign rfl rfl) ?_; refine ok_nil ?_; refine ok_env [(2, _)] ⟨rfl, trivial⟩ ?_))
  refine ok_loop (ι := { k : Nat // k ≤ R.length }) (fun k => R.length - k.1) (fun k => ([(0, .slice A R.length c), (3, .int .i64 (offR List.length (dats R) k.1 : Int)), (9, .slice A R.length c), (10, .int .i64 R.length), (11, .int .i64 k.1)], [], _)) ⟨0, by omega⟩ (fun a w he hw => ⟨⟨0, by omega⟩, he.sub ⟨rfl, rfl, rfl, rfl, rfl, trivial⟩, hw⟩) ?_
  rintro ⟨k, hk⟩
  simp only at hk ⊢
  have ho := HT.out k
  have ho1 : k < R.length → offR List.length (dats R) k + (nth R k).d.length ≤ 4194304 := fun h => by rw [← offStr_succ R k h]; exact HT.out (k + 1)
  repeat' (first
    | refine ok_seq ?_
    | refine ok_then ?_
    | refine ok_then_ret ?_
    | refine ok_then_exit ?_
    | refine ok_block ?_
    | refine ok_in_normal ?_
    | refine ok_in_ret ?_
    | refine ok_in_exit ?_
    | refine ok_in_other rfl ?_
    | (refine ok_cond rfl (fun hc => ?_) (fun hc => ?_) <;> (have hd := hc; (try simp only [decide_eq_true_eq, decide_eq_false_iff_not, Bool.or_eq_true, Bool.or_eq_false_iff, Bool.and_eq_true, Bool.and_eq_false_iff, Bool.not_eq_true', Bool.not_eq_false', bne_iff_ne, beq_iff_eq, bne_eq_false_iff_eq, beq_eq_false_iff_ne, ne_eq, Bool.not_true, Bool.not_false, Bool.false_eq_true, Bool.true_eq_false, inB_true, inB_false] at hd)))
    | refine ok_ret ?_
    | refine ok_exit ?_
    | refine ok_skip ?_
    | (refine ok_region (i := 0) ?_; refine ok_p rfl rfl rfl (by exact ps_assign rfl rfl) ?_; refine ok_nil ?_; refine ok_env [(0, _)] ⟨rfl, trivial⟩ ?_)
    | (refine ok_region (i := 1) ?_; refine ok_p rfl rfl rfl (by exact ps_assign rfl rfl) ?_; refine ok_nil ?_; refine ok_env [(0, _), (3, _)] ⟨rfl, rfl, trivial⟩ ?_)
    | (refine ok_region (i := 2) ?_; refine ok_p rfl rfl rfl (by exact ps_move rfl rfl) ?_; refine ok_p rfl rfl rfl (by exact ps_len rfl rfl) ?_; refine ok_p rfl rfl rfl (by exact ps_move rfl rfl) ?_; refine ok_nil ?_; refine ok_env [(0, _), (3, _), (9, _), (10, _), (11, _)] ⟨rfl, rfl, rfl, rfl, rfl, trivial⟩ ?_)
    | (refine ok_region (i := 3) ?_; refine ok_p rfl rfl rfl (by exact ps_int rfl rfl rfl rfl) ?_; refine ok_nil ?_; refine ok_env [(0, _), (3, _), (9, _), (10, _), (11, _), (12, _)] ⟨rfl, rfl, rfl, rfl, rfl, rfl, trivial⟩ ?_)
    | (refine ok_region (i := 4) ?_; refine ok_p rfl rfl rfl (by first | exact ps_indexN rfl rfl rfl (by omega) (by first | exact isw_ga _ | exact isw_some _ | exact isw_row 0 rfl (by omega) | exact isw_row 1 rfl (by omega) | exact isw_row 2 rfl (by omega) | exact isw_row 3 rfl (by omega) | exact isw_row 4 rfl (by omega) | exact isw_row 5 rfl (by omega) | exact isw_row 6 rfl (by omega) | exact isw_row 7 rfl (by omega) | exact isw_row 8 rfl (by omega) | exact isw_of (isS_fl (by assumption) (by omega)) | exact isw_of (by assumption)) | exact ps_index rfl rfl rfl (by omega) (by first | exact isw_ga _ | exact isw_some _ | exact isw_row 0 rfl (by omega) | exact isw_row 1 rfl (by omega) | exact isw_row 2 rfl (by omega) | exact isw_row 3 rfl (by omega) | exact isw_row 4 rfl (by omega) | exact isw_row 5 rfl (by omega) | exact isw_row 6 rfl (by omega) | exact isw_row 7 rfl (by omega) | exact isw_row 8 rfl (by omega) | exact isw_of (isS_fl (by assumption) (by omega)) | exact isw_of (by assumption))) ?_; refine ok_p rfl rfl rfl (by exact ps_load rfl rfl (by first | exact Rds.cell (rds_box 0 rfl) rfl | exact Rds.cell (rds_box 1 rfl) rfl | exact Rds.cell (rds_box 2 rfl) rfl | exact Rds.cell (rds_box 3 rfl) rfl | exact Rds.cell (rds_box 4 rfl) rfl | exact Rds.cell (rds_box 5 rfl) rfl | exact Rds.cell (rds_box 6 rfl) rfl | exact Rds.cell (rds_box 7 rfl) rfl | exact Rds.cell (rds_box 8 rfl) rfl | exact Rds.cell (rds_box 9 rfl) rfl | exact Rds.cell (rds_box 10 rfl) rfl | exact Rds.cell (rds_box 11 rfl) rfl | exact Rds.cell (rds_box 12 rfl) rfl | exact Rds.cell (rds_box 13 rfl) rfl | exact Rds.cell (rds_box 14 rfl) rfl | exact Rds.cell (rds_box 15 rfl) rfl | exact Rds.cell (rds_box 16 rfl) rfl | exact Rds.cell (rds_box 17 rfl) rfl | exact Rds.cell (rds_box 18 rfl) rfl | exact Rds.cell (rds_box 19 rfl) rfl | exact Rds.cell (rds_box 20 rfl) rfl | exact Rds.cell (rds_box 21 rfl) rfl | exact Rds.cell (rds_box 22 rfl) rfl | exact Rds.cell (rds_box 23 rfl) rfl | exact Rds.cell (rds_rf (by assumption) (by first | exact List.mem_cons_self | exact List.mem_cons_of_mem _ List.mem_cons_self | simp)) (by first | exact fl_at0 _ _ (by omega) (by decide) | exact fl_at _ _ _ (by omega) (by decide)) | exact Rds.cell (rds_row 0 rfl) (by first | exact fl_at0 _ _ (by omega) (by decide) | exact fl_at _ _ _ (by omega) (by decide)) | exact Rds.cell (rds_row 1 rfl) (by first | exact fl_at0 _ _ (by omega) (by decide) | exact fl_at _ _ _ (by omega) (by decide)) | exact Rds.cell (rds_row 2 rfl) (by first | exact fl_at0 _ _ (by omega) (by decide) | exact fl_at _ _ _ (by omega) (by decide)) | exact Rds.cell (rds_row 3 rfl) (by first | exact fl_at0 _ _ (by omega) (by decide) | exact fl_at _ _ _ (by omega) (by decide)) | exact Rds.cell (rds_row 4 rfl) (by first | exact fl_at0 _ _ (by omega) (by decide) | exact fl_at _ _ _ (by omega) (by decide)) | exact Rds.cell (rds_row 5 rfl) (by first | exact fl_at0 _ _ (by omega) (by decide) | exact fl_at _ _ _ (by omega) (by decide)) | exact Rds.cell (rds_row 6 rfl) (by first | exact fl_at0 _ _ (by omega) (by decide) | exact fl_at _ _ _ (by omega) (by decide)) | exact Rds.cell (rds_row 7 rfl) (by first | exact fl_at0 _ _ (by omega) (by decide) | exact fl_at _ _ _ (by omega) (by decide)) | exact Rds.cell (rds_row 8 rfl) (by first | exact fl_at0 _ _ (by omega) (by decide) | exact fl_at _ _ _ (by omega) (by decide)) | exact Rds.cell (rds_row 9 rfl) (by first | exact fl_at0 _ _ (by omega) (by decide) | exact fl_at _ _ _ (by omega) (by decide)))) ?_; refine ok_p rfl rfl rfl (by exact ps_assign rfl rfl) ?_; refine ok_nil ?_; refine ok_env [(0, _), (3, _), (5, _), (9, _), (10, _), (11, _)] ⟨rfl, rfl, rfl, rfl, rfl, rfl, trivial⟩ ?_)
    | (refine ok_region (i := 5) ?_; refine ok_p rfl rfl rfl (by exact ps_move rfl rfl) ?_; refine ok_p rfl rfl rfl (by exact ps_move rfl rfl) ?_; refine ok_p rfl rfl rfl (by exact ps_len rfl rfl) ?_; refine ok_p rfl rfl rfl (by first | exact ps_add (n := ((nth R k).d.length : Int)) rfl rfl rfl (by have := ho1 (by omega); omega) | exact ps_add rfl rfl rfl (by omega)) ?_; refine ok_p rfl rfl rfl (by exact ps_assign rfl rfl) ?_; refine ok_nil ?_; refine ok_env [(0, _), (3, _), (9, _), (10, _), (11, _)] ⟨rfl, rfl, rfl, rfl, rfl, trivial⟩ ?_)
    | (refine ok_region (i := 6) ?_; refine ok_p rfl rfl rfl (by exact ps_move rfl rfl) ?_; refine ok_p rfl rfl rfl (by exact ps_int rfl rfl rfl rfl) ?_; refine ok_nil ?_; refine ok_env [(0, _), (3, _), (9, _), (10, _), (11, _), (20, _)] ⟨rfl, rfl, rfl, rfl, rfl, rfl, trivial⟩ ?_)
    | (refine ok_region (i := 7) ?_; refine ok_p rfl rfl rfl (by fail "no rule makeInterface") ?_; refine ok_p rfl rfl rfl (by fail "no rule panic") ?_; refine ok_nil ?_; refine ok_env [(0, _), (3, _), (9, _), (10, _), (11, _)] ⟨rfl, rfl, rfl, rfl, rfl, trivial⟩ ?_)
    | (refine ok_region (i := 8) ?_; refine ok_p rfl rfl rfl (by exact ps_add rfl rfl rfl (by omega)) ?_; refine ok_p rfl rfl rfl (by exact ps_move rfl rfl) ?_; refine ok_nil ?_; refine ok_env [(0, _), (3, _), (9, _), (10, _), (11, _)] ⟨rfl, rfl, rfl, rfl, rfl, trivial⟩ ?_)
    | (refine ok_region (i := 9) ?_; refine ok_p rfl rfl rfl (by exact ps_move rfl rfl) ?_; refine ok_m rfl rfl rfl (by exact ms_c2 rfl rfl rfl (fun _ _ w hw => growStr_c _ (HT.out k) w)) ?_; rintro y24 hy24; refine ok_p rfl rfl rfl (by exact ps_assign rfl rfl) ?_; refine ok_nil ?_; refine ok_env [(0, _), (6, _)] ⟨rfl, rfl, trivial⟩ ?_)
    | (refine ok_region (i := 10) ?_; refine ok_p rfl rfl rfl (by exact ps_move rfl rfl) ?_; refine ok_p rfl rfl rfl (by exact ps_len rfl rfl) ?_; refine ok_p rfl rfl rfl (by exact ps_move rfl rfl) ?_; refine ok_nil ?_; refine ok_env [(6, _), (25, _), (26, _), (27, _)] ⟨rfl, rfl, rfl, rfl, trivial⟩ ?_)
    | (refine ok_region (i := 11) ?_; refine ok_p rfl rfl rfl (by exact ps_int rfl rfl rfl rfl) ?_; refine ok_nil ?_; refine ok_env [(6, _), (25, _), (26, _), (27, _), (28, _)] ⟨rfl, rfl, rfl, rfl, rfl, trivial⟩ ?_)
    | (refine ok_region (i := 12) ?_; refine ok_p rfl rfl rfl (by first | exact ps_indexN rfl rfl rfl (by omega) (by first | exact isw_ga _ | exact isw_some _ | exact isw_row 0 rfl (by omega) | exact isw_row 1 rfl (by omega) | exact isw_row 2 rfl (by omega) | exact isw_row 3 rfl (by omega) | exact isw_row 4 rfl (by omega) | exact isw_row 5 rfl (by omega) | exact isw_row 6 rfl (by omega) | exact isw_row 7 rfl (by omega) | exact isw_row 8 rfl (by omega) | exact isw_of (isS_fl (by assumption) (by omega)) | exact isw_of (by assumption)) | exact ps_index rfl rfl rfl (by omega) (by first | exact isw_ga _ | exact isw_some _ | exact isw_row 0 rfl (by omega) | exact isw_row 1 rfl (by omega) | exact isw_row 2 rfl (by omega) | exact isw_row 3 rfl (by omega) | exact isw_row 4 rfl (by omega) | exact isw_row 5 rfl (by omega) | exact isw_row 6 rfl (by omega) | exact isw_row 7 rfl (by omega) | exact isw_row 8 rfl (by omega) | exact isw_of (isS_fl (by assumption) (by omega)) | exact isw_of (by assumption))) ?_; refine ok_p rfl rfl rfl (by exact ps_load rfl rfl (by first | exact Rds.cell (rds_box 0 rfl) rfl | exact Rds.cell (rds_box 1 rfl) rfl | exact Rds.cell (rds_box 2 rfl) rfl | exact Rds.cell (rds_box 3 rfl) rfl | exact Rds.cell (rds_box 4 rfl) rfl | exact Rds.cell (rds_box 5 rfl) rfl | exact Rds.cell (rds_box 6 rfl) rfl | exact Rds.cell (rds_box 7 rfl) rfl | exact Rds.cell (rds_box 8 rfl) rfl | exact Rds.cell (rds_box 9 rfl) rfl | exact Rds.cell (rds_box 10 rfl) rfl | exact Rds.cell (rds_box 11 rfl) rfl | exact Rds.cell (rds_box 12 rfl) rfl | exact Rds.cell (rds_box 13 rfl) rfl | exact Rds.cell (rds_box 14 rfl) rfl | exact Rds.cell (rds_box 15 rfl) rfl | exact Rds.cell (rds_box 16 rfl) rfl | exact Rds.cell (rds_box 17 rfl) rfl | exact Rds.cell (rds_box 18 rfl) rfl | exact Rds.cell (rds_box 19 rfl) rfl | exact Rds.cell (rds_box 20 rfl) rfl | exact Rds.cell (rds_box 21 rfl) rfl | exact Rds.cell (rds_box 22 rfl) rfl | exact Rds.cell (rds_box 23 rfl) rfl | exact Rds.cell (rds_rf (by assumption) (by first | exact List.mem_cons_self | exact List.mem_cons_of_mem _ List.mem_cons_self | simp)) (by first | exact fl_at0 _ _ (by omega) (by decide) | exact fl_at _ _ _ (by omega) (by decide)) | exact Rds.cell (rds_row 0 rfl) (by first | exact fl_at0 _ _ (by omega) (by decide) | exact fl_at _ _ _ (by omega) (by decide)) | exact Rds.cell (rds_row 1 rfl) (by first | exact fl_at0 _ _ (by omega) (by decide) | exact fl_at _ _ _ (by omega) (by decide)) | exact Rds.cell (rds_row 2 rfl) (by first | exact fl_at0 _ _ (by omega) (by decide) | exact fl_at _ _ _ (by omega) (by decide)) | exact Rds.cell (rds_row 3 rfl) (by first | exact fl_at0 _ _ (by omega) (by decide) | exact fl_at _ _ _ (by omega) (by decide)) | exact Rds.cell (rds_row 4 rfl) (by first | exact fl_at0 _ _ (by omega) (by decide) | exact fl_at _ _ _ (by omega) (by decide)) | exact Rds.cell (rds_row 5 rfl) (by first | exact fl_at0 _ _ (by omega) (by decide) | exact fl_at _ _ _ (by omega) (by decide)) | exact Rds.cell (rds_row 6 rfl) (by first | exact fl_at0 _ _ (by omega) (by decide) | exact fl_at _ _ _ (by omega) (by decide)) | exact Rds.cell (rds_row 7 rfl) (by first | exact fl_at0 _ _ (by omega) (by decide) | exact fl_at _ _ _ (by omega) (by decide)) | exact Rds.cell (rds_row 8 rfl) (by first | exact fl_at0 _ _ (by omega) (by decide) | exact fl_at _ _ _ (by omega) (by decide)) | exact Rds.cell (rds_row 9 rfl) (by first | exact fl_at0 _ _ (by omega) (by decide) | exact fl_at _ _ _ (by omega) (by decide)))) ?_; refine ok_p rfl rfl rfl (by exact ps_assign rfl rfl) ?_; refine ok_nil ?_; refine ok_env [(6, _), (8, _), (25, _), (26, _), (27, _)] ⟨rfl, rfl, rfl, rfl, rfl, trivial⟩ ?_)
    | (refine ok_region (i := 13) ?_; refine ok_p rfl rfl rfl (by exact ps_move rfl rfl) ?_; refine ok_p rfl rfl rfl (by exact ps_move rfl rfl) ?_; refine ok_m rfl rfl rfl (by fail "no maker call") ?_; rintro y33 hy33; refine ok_p rfl rfl rfl (by exact ps_assign rfl rfl) ?_; refine ok_nil ?_; refine ok_env [(6, _), (25, _), (26, _), (27, _)] ⟨rfl, rfl, rfl, rfl, trivial⟩ ?_)
    | (refine ok_region (i := 14) ?_; refine ok_p rfl rfl rfl (by exact ps_add rfl rfl rfl (by omega)) ?_; refine ok_p rfl rfl rfl (by exact ps_move rfl rfl) ?_; refine ok_nil ?_; refine ok_env [(6, _), (25, _), (26, _), (27, _)] ⟨rfl, rfl, rfl, rfl, trivial⟩ ?_)
    | (refine ok_region (i := 15) ?_; refine ok_p rfl rfl rfl (by exact ps_move rfl rfl) ?_; refine ok_p rfl rfl rfl (by exact ps_assign rfl rfl) ?_; refine ok_nil ?_; refine ok_env [(2, _)] ⟨rfl, trivial⟩ ?_))
  · exfalso; omega
  · refine fun a w' he hw => ⟨⟨k + 1, by omega⟩, by simp only; omega, he.sub ⟨rfl, ?_, rfl, rfl, rfl, trivial⟩, hw⟩
    simp only [look]; congr 2; rw [offStr_succ R k (by omega)]; simp
  · clear hk ho ho1
    refine ok_loop (ι := { p : Nat × Option Addr × Nat // p.1 ≤ R.length }) (fun p => R.length - p.1.1) (fun p => ([(6, .slice p.1.2.1 (((dats R).take p.1.1).flatten).length p.1.2.2), (25, .slice A R.length c), (26, .int .i64 R.length), (27, .int .i64 p.1.1)], [.row 9 1 p.1.2.1 (((dats R).take p.1.1).flatten).length p.1.2.2 (fl ((dats R).take p.1.1).flatten)], _)) ⟨(0, (y24 0).A, (y24 0).c), by simp⟩ (fun a w he hw => ⟨⟨(0, (y24 0).A, (y24 0).c), by simp⟩, he.sub ⟨rfl, rfl, rfl, rfl, trivial⟩, hw⟩) ?_
    rintro ⟨⟨k, B, d⟩, hk⟩
    simp only at hk ⊢
    have ho1 : k < R.length → (((dats R).take k).flatten).length + (nth R k).d.length ≤ 4194304 := fun h => by rw [catStr_len, ← offStr_succ R k h]; exact HT.out (k + 1)
    repeat' (first
      | refine ok_seq ?_
      | refine ok_then ?_
      | refine ok_then_ret ?_
      | refine ok_then_exit ?_
      | refine ok_block ?_
      | refine ok_in_normal ?_
      | refine ok_in_ret ?_
      | refine ok_in_exit ?_
      | refine ok_in_other rfl ?_
      | (refine ok_cond rfl (fun hc => ?_) (fun hc => ?_) <;> (have hd := hc; (try simp only [decide_eq_true_eq, decide_eq_false_iff_not, Bool.or_eq_true, Bool.or_eq_false_iff, Bool.and_eq_true, Bool.and_eq_false_iff, Bool.not_eq_true', Bool.not_eq_false', bne_iff_ne, beq_iff_eq, bne_eq_false_iff_eq, beq_eq_false_iff_ne, ne_eq, Bool.not_true, Bool.not_false, Bool.false_eq_true, Bool.true_eq_false, inB_true, inB_false] at hd)))
      | refine ok_ret ?_
      | refine ok_exit ?_
      | refine ok_skip ?_
      | (refine ok_region (i := 0) ?_; refine ok_p rfl rfl rfl (by exact ps_assign rfl rfl) ?_; refine ok_nil ?_; refine ok_env [(0, _)] ⟨rfl, trivial⟩ ?_)
      | (refine ok_region (i := 1) ?_; refine ok_p rfl rfl rfl (by exact ps_assign rfl rfl) ?_; refine ok_nil ?_; refine ok_env [(0, _), (3, _)] ⟨rfl, rfl, trivial⟩ ?_)
      | (refine ok_region (i := 2) ?_; refine ok_p rfl rfl rfl (by exact ps_move rfl rfl) ?_; refine ok_p rfl rfl rfl (by exact ps_len rfl rfl) ?_; refine ok_p rfl rfl rfl (by exact ps_move rfl rfl) ?_; refine ok_nil ?_; refine ok_env [(0, _), (3, _), (9, _), (10, _), (11, _)] ⟨rfl, rfl, rfl, rfl, rfl, trivial⟩ ?_)
      | (refine ok_region (i := 3) ?_; refine ok_p rfl rfl rfl (by exact ps_int rfl rfl rfl rfl) ?_; refine ok_nil ?_; refine ok_env [(0, _), (3, _), (9, _), (10, _), (11, _), (12, _)] ⟨rfl, rfl, rfl, rfl, rfl, rfl, trivial⟩ ?_)
      | (refine ok_region (i := 4) ?_; refine ok_p rfl rfl rfl (by first | exact ps_indexN rfl rfl rfl (by omega) (by first | exact isw_ga _ | exact isw_some _ | exact isw_row 0 rfl (by omega) | exact isw_row 1 rfl (by omega) | exact isw_row 2 rfl (by omega) | exact isw_row 3 rfl (by omega) | exact isw_row 4 rfl (by omega) | exact isw_row 5 rfl (by omega) | exact isw_row 6 rfl (by omega) | exact isw_row 7 rfl (by omega) | exact isw_row 8 rfl (by omega) | exact isw_of (isS_fl (by assumption) (by omega)) | exact isw_of (by assumption)) | exact ps_index rfl rfl rfl (by omega) (by first | exact isw_ga _ | exact isw_some _ | exact isw_row 0 rfl (by omega) | exact isw_row 1 rfl (by omega) | exact isw_row 2 rfl (by omega) | exact isw_row 3 rfl (by omega) | exact isw_row 4 rfl (by omega) | exact isw_row 5 rfl (by omega) | exact isw_row 6 rfl (by omega) | exact isw_row 7 rfl (by omega) | exact isw_row 8 rfl (by omega) | exact isw_of (isS_fl (by assumption) (by omega)) | exact isw_of (by assumption))) ?_; refine ok_p rfl rfl rfl (by exact ps_load rfl rfl (by first | exact Rds.cell (rds_box 0 rfl) rfl | exact Rds.cell (rds_box 1 rfl) rfl | exact Rds.cell (rds_box 2 rfl) rfl | exact Rds.cell (rds_box 3 rfl) rfl | exact Rds.cell (rds_box 4 rfl) rfl | exact Rds.cell (rds_box 5 rfl) rfl | exact Rds.cell (rds_box 6 rfl) rfl | exact Rds.cell (rds_box 7 rfl) rfl | exact Rds.cell (rds_box 8 rfl) rfl | exact Rds.cell (rds_box 9 rfl) rfl | exact Rds.cell (rds_box 10 rfl) rfl | exact Rds.cell (rds_box 11 rfl) rfl | exact Rds.cell (rds_box 12 rfl) rfl | exact Rds.cell (rds_box 13 rfl) rfl | exact Rds.cell (rds_box 14 rfl) rfl | exact Rds.cell (rds_box 15 rfl) rfl | exact Rds.cell (rds_box 16 rfl) rfl | exact Rds.cell (rds_box 17 rfl) rfl | exact Rds.cell (rds_box 18 rfl) rfl | exact Rds.cell (rds_box 19 rfl) rfl | exact Rds.cell (rds_box 20 rfl) rfl | exact Rds.cell (rds_box 21 rfl) rfl | exact Rds.cell (rds_box 22 rfl) rfl | exact Rds.cell (rds_box 23 rfl) rfl | exact Rds.cell (rds_rf (by assumption) (by first | exact List.mem_cons_self | exact List.mem_cons_of_mem _ List.mem_cons_self | simp)) (by first | exact fl_at0 _ _ (by omega) (by decide) | exact fl_at _ _ _ (by omega) (by decide)) | exact Rds.cell (rds_row 0 rfl) (by first | exact fl_at0 _ _ (by omega) (by decide) | exact fl_at _ _ _ (by omega) (by decide)) | exact Rds.cell (rds_row 1 rfl) (by first | exact fl_at0 _ _ (by omega) (by decide) | exact fl_at _ _ _ (by omega) (by decide)) | exact Rds.cell (rds_row 2 rfl) (by first | exact fl_at0 _ _ (by omega) (by decide) | exact fl_at _ _ _ (by omega) (by decide)) | exact Rds.cell (rds_row 3 rfl) (by first | exact fl_at0 _ _ (by omega) (by decide) | exact fl_at _ _ _ (by omega) (by decide)) | exact Rds.cell (rds_row 4 rfl) (by first | exact fl_at0 _ _ (by omega) (by decide) | exact fl_at _ _ _ (by omega) (by decide)) | exact Rds.cell (rds_row 5 rfl) (by first | exact fl_at0 _ _ (by omega) (by decide) | exact fl_at _ _ _ (by omega) (by decide)) | exact Rds.cell (rds_row 6 rfl) (by first | exact fl_at0 _ _ (by omega) (by decide) | exact fl_at _ _ _ (by omega) (by decide)) | exact Rds.cell (rds_row 7 rfl) (by first | exact fl_at0 _ _ (by omega) (by decide) | exact fl_at _ _ _ (by omega) (by decide)) | exact Rds.cell (rds_row 8 rfl) (by first | exact fl_at0 _ _ (by omega) (by decide) | exact fl_at _ _ _ (by omega) (by decide)) | exact Rds.cell (rds_row 9 rfl) (by first | exact fl_at0 _ _ (by omega) (by decide) | exact fl_at _ _ _ (by omega) (by decide)))) ?_; refine ok_p rfl rfl rfl (by exact ps_assign rfl rfl) ?_; refine ok_nil ?_; refine ok_env [(0, _), (3, _), (5, _), (9, _), (10, _), (11, _)] ⟨rfl, rfl, rfl, rfl, rfl, rfl, trivial⟩ ?_)
      | (refine ok_region (i := 5) ?_; refine ok_p rfl rfl rfl (by exact ps_move rfl rfl) ?_; refine ok_p rfl rfl rfl (by exact ps_move rfl rfl) ?_; refine ok_p rfl rfl rfl (by exact ps_len rfl rfl) ?_; refine ok_p rfl rfl rfl (by exact ps_add rfl rfl rfl (by omega)) ?_; refine ok_p rfl rfl rfl (by exact ps_assign rfl rfl) ?_; refine ok_nil ?_; refine ok_env [(0, _), (3, _), (9, _), (10, _), (11, _)] ⟨rfl, rfl, rfl, rfl, rfl, trivial⟩ ?_)
      | (refine ok_region (i := 6) ?_; refine ok_p rfl rfl rfl (by exact ps_move rfl rfl) ?_; refine ok_p rfl rfl rfl (by exact ps_int rfl rfl rfl rfl) ?_; refine ok_nil ?_; refine ok_env [(0, _), (3, _), (9, _), (10, _), (11, _), (20, _)] ⟨rfl, rfl, rfl, rfl, rfl, rfl, trivial⟩ ?_)
      | (refine ok_region (i := 7) ?_; refine ok_p rfl rfl rfl (by fail "no rule makeInterface") ?_; refine ok_p rfl rfl rfl (by fail "no rule panic") ?_; refine ok_nil ?_; refine ok_env [(0, _), (3, _), (9, _), (10, _), (11, _)] ⟨rfl, rfl, rfl, rfl, rfl, trivial⟩ ?_)
      | (refine ok_region (i := 8) ?_; refine ok_p rfl rfl rfl (by exact ps_add rfl rfl rfl (by omega)) ?_; refine ok_p rfl rfl rfl (by exact ps_move rfl rfl) ?_; refine ok_nil ?_; refine ok_env [(0, _), (3, _), (9, _), (10, _), (11, _)] ⟨rfl, rfl, rfl, rfl, rfl, trivial⟩ ?_)
      | (refine ok_region (i := 9) ?_; refine ok_p rfl rfl rfl (by exact ps_move rfl rfl) ?_; refine ok_m rfl rfl rfl (by fail "no maker call") ?_; rintro y24 hy24; refine ok_p rfl rfl rfl (by exact ps_assign rfl rfl) ?_; refine ok_nil ?_; refine ok_env [(0, _), (6, _)] ⟨rfl, rfl, trivial⟩ ?_)
      | (refine ok_region (i := 10) ?_; refine ok_p rfl rfl rfl (by exact ps_move rfl rfl) ?_; refine ok_p rfl rfl rfl (by exact ps_len rfl rfl) ?_; refine ok_p rfl rfl rfl (by exact ps_move rfl rfl) ?_; refine ok_nil ?_; refine ok_env [(6, _), (25, _), (26, _), (27, _)] ⟨rfl, rfl, rfl, rfl, trivial⟩ ?_)
      | (refine ok_region (i := 11) ?_; refine ok_p rfl rfl rfl (by exact ps_int rfl rfl rfl rfl) ?_; refine ok_nil ?_; refine ok_env [(6, _), (25, _), (26, _), (27, _), (28, _)] ⟨rfl, rfl, rfl, rfl, rfl, trivial⟩ ?_)
      | (refine ok_region (i := 12) ?_; refine ok_p rfl rfl rfl (by first | exact ps_indexN rfl rfl rfl (by omega) (by first | exact isw_ga _ | exact isw_some _ | exact isw_row 0 rfl (by omega) | exact isw_row 1 rfl (by omega) | exact isw_row 2 rfl (by omega) | exact isw_row 3 rfl (by omega) | exact isw_row 4 rfl (by omega) | exact isw_row 5 rfl (by omega) | exact isw_row 6 rfl (by omega) | exact isw_row 7 rfl (by omega) | exact isw_row 8 rfl (by omega) | exact isw_of (isS_fl (by assumption) (by omega)) | exact isw_of (by assumption)) | exact ps_index rfl rfl rfl (by omega) (by first | exact isw_ga _ | exact isw_some _ | exact isw_row 0 rfl (by omega) | exact isw_row 1 rfl (by omega) | exact isw_row 2 rfl (by omega) | exact isw_row 3 rfl (by omega) | exact isw_row 4 rfl (by omega) | exact isw_row 5 rfl (by omega) | exact isw_row 6 rfl (by omega) | exact isw_row 7 rfl (by omega) | exact isw_row 8 rfl (by omega) | exact isw_of (isS_fl (by assumption) (by omega)) | exact isw_of (by assumption))) ?_; refine ok_p rfl rfl rfl (by exact ps_load rfl rfl (by first | exact Rds.cell (rds_box 0 rfl) rfl | exact Rds.cell (rds_box 1 rfl) rfl | exact Rds.cell (rds_box 2 rfl) rfl | exact Rds.cell (rds_box 3 rfl) rfl | exact Rds.cell (rds_box 4 rfl) rfl | exact Rds.cell (rds_box 5 rfl) rfl | exact Rds.cell (rds_box 6 rfl) rfl | exact Rds.cell (rds_box 7 rfl) rfl | exact Rds.cell (rds_box 8 rfl) rfl | exact Rds.cell (rds_box 9 rfl) rfl | exact Rds.cell (rds_box 10 rfl) rfl | exact Rds.cell (rds_box 11 rfl) rfl | exact Rds.cell (rds_box 12 rfl) rfl | exact Rds.cell (rds_box 13 rfl) rfl | exact Rds.cell (rds_box 14 rfl) rfl | exact Rds.cell (rds_box 15 rfl) rfl | exact Rds.cell (rds_box 16 rfl) rfl | exact Rds.cell (rds_box 17 rfl) rfl | exact Rds.cell (rds_box 18 rfl) rfl | exact Rds.cell (rds_box 19 rfl) rfl | exact Rds.cell (rds_box 20 rfl) rfl | exact Rds.cell (rds_box 21 rfl) rfl | exact Rds.cell (rds_box 22 rfl) rfl | exact Rds.cell (rds_box 23 rfl) rfl | exact Rds.cell (rds_rf (by assumption) (by first | exact List.mem_cons_self | exact List.mem_cons_of_mem _ List.mem_cons_self | simp)) (by first | exact fl_at0 _ _ (by omega) (by decide) | exact fl_at _ _ _ (by omega) (by decide)) | exact Rds.cell (rds_row 0 rfl) (by first | exact fl_at0 _ _ (by omega) (by decide) | exact fl_at _ _ _ (by omega) (by decide)) | exact Rds.cell (rds_row 1 rfl) (by first | exact fl_at0 _ _ (by omega) (by decide) | exact fl_at _ _ _ (by omega) (by decide)) | exact Rds.cell (rds_row 2 rfl) (by first | exact fl_at0 _ _ (by omega) (by decide) | exact fl_at _ _ _ (by omega) (by decide)) | exact Rds.cell (rds_row 3 rfl) (by first | exact fl_at0 _ _ (by omega) (by decide) | exact fl_at _ _ _ (by omega) (by decide)) | exact Rds.cell (rds_row 4 rfl) (by first | exact fl_at0 _ _ (by omega) (by decide) | exact fl_at _ _ _ (by omega) (by decide)) | exact Rds.cell (rds_row 5 rfl) (by first | exact fl_at0 _ _ (by omega) (by decide) | exact fl_at _ _ _ (by omega) (by decide)) | exact Rds.cell (rds_row 6 rfl) (by first | exact fl_at0 _ _ (by omega) (by decide) | exact fl_at _ _ _ (by omega) (by decide)) | exact Rds.cell (rds_row 7 rfl) (by first | exact fl_at0 _ _ (by omega) (by decide) | exact fl_at _ _ _ (by omega) (by decide)) | exact Rds.cell (rds_row 8 rfl) (by first | exact fl_at0 _ _ (by omega) (by decide) | exact fl_at _ _ _ (by omega) (by decide)) | exact Rds.cell (rds_row 9 rfl) (by first | exact fl_at0 _ _ (by omega) (by decide) | exact fl_at _ _ _ (by omega) (by decide)))) ?_; refine ok_p rfl rfl rfl (by exact ps_assign rfl rfl) ?_; refine ok_nil ?_; refine ok_env [(6, _), (8, _), (25, _), (26, _), (27, _)] ⟨rfl, rfl, rfl, rfl, rfl, trivial⟩ ?_)
      | (refine ok_region (i := 13) ?_; refine ok_p rfl rfl rfl (by exact ps_move rfl rfl) ?_; refine ok_p rfl rfl rfl (by exact ps_move rfl rfl) ?_; refine ok_m rfl rfl rfl (by exact ms_appF (α := ByteArray) (L := ((dats R).take k).flatten) (M := (nth R k).d) 0 rfl rfl rfl rfl (rds_rf (H2.out k (by omega)) (by first | exact List.mem_cons_self | exact List.mem_cons_of_mem _ List.mem_cons_self | simp)) rfl (by have := ho1 (by omega); omega) (by have := ho1 (by omega); omega)) ?_; rintro y33 hy33; refine ok_p rfl rfl rfl (by exact ps_assign rfl rfl) ?_; refine ok_nil ?_; refine ok_env [(6, _), (25, _), (26, _), (27, _)] ⟨rfl, rfl, rfl, rfl, trivial⟩ ?_)
      | (refine ok_region (i := 14) ?_; refine ok_p rfl rfl rfl (by exact ps_add rfl rfl rfl (by omega)) ?_; refine ok_p rfl rfl rfl (by exact ps_move rfl rfl) ?_; refine ok_nil ?_; refine ok_env [(6, _), (25, _), (26, _), (27, _)] ⟨rfl, rfl, rfl, rfl, trivial⟩ ?_)
      | (refine ok_region (i := 15) ?_; refine ok_p rfl rfl rfl (by exact ps_move rfl rfl) ?_; refine ok_p rfl rfl rfl (by exact ps_assign rfl rfl) ?_; refine ok_nil ?_; refine ok_env [(2, _)] ⟨rfl, trivial⟩ ?_))
    · refine fun a w' he hw => ⟨⟨(k + 1, (y33 0).A, (y33 0).c), by simp only; omega⟩, by simp only; omega, he.sub ⟨?_, rfl, rfl, rfl, trivial⟩, ?_⟩
      · simp only [look]; rw [catStr_step R k (by omega), List.length_append]
      · simp only
        rw [catStr_step R k (by omega), List.length_append]
        exact hw
    · obtain rfl : k = R.length := by omega
      refine ok_endL (vs := [_]) rfl ⟨rfl, trivial⟩ (fun w' hw => ⟨mkY B d w', ?_, trivial, hw.below, ?_⟩)
      · rw [← dats_len, List.take_length]; rfl
      · rw [← dats_len, List.take_length] at hw
        exact NewOk.of (G := []) (hw.sel [0] (by decide) rfl (fun _ h => by cases h))
end Go.Proofs.Ytbegbdfbfbkflaa
/-
  DERIVED: THE SHELF's CONTRACTS AT THIS DUMP, IN PLAIN WORDS (tools/lay-plain.mjs out of 'TryShelf.lean', which tools/lay-shelf.mjs wrote): THE SAME DECLARATIONS UNDER THE SAME NAMES: 'import', 'namespace', 'open', 'def', 'theorem' AND NOTHING ELSE: no command of the shelf's: FOR A HAND-IN. Each laying: the table of numbers ('.._ren') and one theorem, a field a fact of the dump's own or the kernel's comparison; each contract: ONE APPLICATION.
-/
namespace Go.Proofs.Ytbegbdfbfbkflaa
open Go.Shelf
def so_lays190_ren : Go.Shelf.Ren := ⟨fun | 190 => 137 | 125 => 189 | 258 => 188 | 128 => 228 | 129 => 229 | 302 => 219 | 303 => 220 | 304 => 221 | 305 => 222 | 306 => 223 | 307 => 224 | 308 => 225 | 309 => 226 | 310 => 227 | 333 => 245 | 329 => 246 | 330 => 247 | 334 => 248 | 335 => 249 | 336 => 250 | 344 => 260 | n => n, fun | 31 => 36 | 9 => 9 | 3 => 3 | 46 => 179 | 0 => 0 | 51 => 178 | 53 => 248 | 4 => 4 | 183 => 241 | 182 => 240 | 131 => 132 | 5 => 5 | 218 => 261 | 222 => 265 | 228 => 273 | 229 => 205 | n => n, fun | n => n⟩
theorem so_lays190 : Go.Proofs.Lays.n190 Try.prog so_lays190_ren := {
  mixed := by kernel_rfl
  f125 := Try.func189.trans (congrArg some (by kernel_rfl))
  f128 := Try.func228.trans (congrArg some (by kernel_rfl))
  f129 := Try.func229.trans (congrArg some (by kernel_rfl))
  f190 := Try.func137.trans (congrArg some (by kernel_rfl))
  f258 := Try.func188.trans (congrArg some (by kernel_rfl))
  f302 := Try.func219.trans (congrArg some (by kernel_rfl))
  f303 := Try.func220.trans (congrArg some (by kernel_rfl))
  f304 := Try.func221.trans (congrArg some (by kernel_rfl))
  f305 := Try.func222.trans (congrArg some (by kernel_rfl))
  f306 := Try.func223.trans (congrArg some (by kernel_rfl))
  f307 := Try.func224.trans (congrArg some (by kernel_rfl))
  f308 := Try.func225.trans (congrArg some (by kernel_rfl))
  f309 := Try.func226.trans (congrArg some (by kernel_rfl))
  f310 := Try.func227.trans (congrArg some (by kernel_rfl))
  f329 := Try.func246.trans (congrArg some (by kernel_rfl))
  f330 := Try.func247.trans (congrArg some (by kernel_rfl))
  f333 := Try.func245.trans (congrArg some (by kernel_rfl))
  f334 := Try.func248.trans (congrArg some (by kernel_rfl))
  f335 := Try.func249.trans (congrArg some (by kernel_rfl))
  f336 := Try.func250.trans (congrArg some (by kernel_rfl))
  f344 := Try.func260.trans (congrArg some (by kernel_rfl))
  t0 := Try.underlying0
  a0 := Try.isAgg0
  z0 := Try.sizeOf0
  v0 := Try.zeroValue0
  t3 := Try.underlying3
  a3 := Try.isAgg3
  z3 := Try.sizeOf3
  v3 := Try.zeroValue3
  t4 := Try.underlying4
  a4 := Try.isAgg4
  z4 := Try.sizeOf4
  v4 := Try.zeroValue4
  t5 := Try.underlying5
  a5 := Try.isAgg5
  z5 := Try.sizeOf5
  v5 := Try.zeroValue5
  t9 := Try.underlying9
  a9 := Try.isAgg9
  z9 := Try.sizeOf9
  v9 := Try.zeroValue9
  t31 := Try.underlying36
  a31 := Try.isAgg36
  z31 := Try.sizeOf36
  v31 := Try.zeroValue36
  t46 := Try.underlying179
  a46 := Try.isAgg179
  z46 := Try.sizeOf179
  v46 := Try.zeroValue179
  t51 := Try.underlying178
  a51 := Try.isAgg178
  z51 := Try.sizeOf178
  v51 := Try.zeroValue178
  t53 := Try.underlying248
  a53 := Try.isAgg248
  z53 := Try.sizeOf248
  v53 := Try.zeroValue248
  t131 := Try.underlying132
  a131 := Try.isAgg132
  z131 := Try.sizeOf132
  v131 := Try.zeroValue132
  t182 := Try.underlying240
  a182 := Try.isAgg240
  z182 := Try.sizeOf240
  v182 := Try.zeroValue240
  t183 := Try.underlying241
  a183 := Try.isAgg241
  z183 := Try.sizeOf241
  v183 := Try.zeroValue241
  t218 := Try.underlying261
  a218 := Try.isAgg261
  z218 := Try.sizeOf261
  v218 := Try.zeroValue261
  t222 := Try.underlying265
  a222 := Try.isAgg265
  z222 := Try.sizeOf265
  v222 := Try.zeroValue265
  t228 := Try.underlying273
  a228 := Try.isAgg273
  z228 := Try.sizeOf273
  v228 := Try.zeroValue273
  t229 := Try.underlying205
  a229 := Try.isAgg205
  z229 := Try.sizeOf205
  v229 := Try.zeroValue205 }
open Go.Sort Go.RowKit in
theorem so_slices_Sort_string (blk off cap : Nat) (ss : List (List UInt8)) (w : World) (hH : Holds encStr w blk off ss.toArray) (hblk : blk < w.heap.size) (hsz : ss.length < 4611686018427387904) :
    Calls Try.prog 137 #[.slice (some ⟨blk, off, none⟩) ss.length cap] w fun e w' =>
      e = .returned (.tuple #[]) ∧ ∃ n os, w' = grow (putRow encStr (Sort.ahead w n) blk off (ss.mergeSort fun x y => decide (x ≤ y)).toArray) os := Any.slices_Sort_string so_lays190 blk off cap ss w hH hblk hsz
def so_lays194_ren : Go.Shelf.Ren := ⟨fun | 194 => 139 | n => n, fun | 31 => 36 | 9 => 9 | 3 => 3 | 4 => 4 | 0 => 0 | n => n, fun | n => n⟩
theorem so_lays194 : Go.Proofs.Lays.n194 Try.prog so_lays194_ren := {
  mixed := by kernel_rfl
  f194 := Try.func139.trans (congrArg some (by kernel_rfl))
  t0 := Try.underlying0
  a0 := Try.isAgg0
  z0 := Try.sizeOf0
  v0 := Try.zeroValue0
  t3 := Try.underlying3
  a3 := Try.isAgg3
  z3 := Try.sizeOf3
  v3 := Try.zeroValue3
  t4 := Try.underlying4
  a4 := Try.isAgg4
  z4 := Try.sizeOf4
  v4 := Try.zeroValue4
  t9 := Try.underlying9
  a9 := Try.isAgg9
  z9 := Try.sizeOf9
  v9 := Try.zeroValue9
  t31 := Try.underlying36
  a31 := Try.isAgg36
  z31 := Try.sizeOf36
  v31 := Try.zeroValue36 }
open Go.RowKit Go.Lib Go.Sort in
/-- slices.Compact at []string, over an array: the library's two loops are walked. (LAID: no walk: one application.) -/
theorem so_slices_Compact_string_arr (blk off cap : Nat) (d : Array (List UInt8)) (w : World) (hH : Holds encStr w blk off d) (hsz : d.size ≤ 9223372036854775807) (hcap : d.size ≤ cap) :
    Calls Try.prog 139 #[.slice (some ⟨blk, off, none⟩) d.size cap] w fun e w' => e = .returned (.slice (some ⟨blk, off, none⟩) (compactUpTo d d.size).length cap) ∧ ∃ q, w' = putRow encStr (Sort.ahead w q) blk off (compactUpTo d d.size ++ List.replicate (d.size - (compactUpTo d d.size).length) []).toArray := Any.slices_Compact_string_arr so_lays194 blk off cap d w hH hsz hcap
open Go.RowKit Go.Lib Go.Sort in
/-- slices.Compact at []string: "Compact replaces consecutive runs of equal elements with a single copy. This is like the uniq command found on Unix. Compact modifies the contents of the slice s and returns the modified slice, which may have a smaller length. Compact zeroes the elements between the new length and the original length. The result preserves the nilness of s.": IT RETURNS THE SLICE CUT TO 'Lib.compact zs'; ITS CELLS HOLD 'Lib.compact zs', THEN ZERO VALUES up to the old length; all else is as it was, but for the count of draws. IN THE WORDS OF slices.Sort's CONTRACT ('Holds', 'putRow'): so the everyday 'slices.Sort(xs); xs = slices.Compact(xs)' goes from the one contract to the other. It asks 'zs.length ≤ cap' (every slice's: the reslicing 's[:k]' looks at it). Length 0, nil: '.._empty'. (LAID: no walk: one application.) -/
theorem so_slices_Compact_string (blk off cap : Nat) (zs : List (List UInt8)) (w : World) (hH : Holds encStr w blk off zs.toArray) (hsz : zs.length ≤ 9223372036854775807) (hcap : zs.length ≤ cap) :
    Calls Try.prog 139 #[.slice (some ⟨blk, off, none⟩) zs.length cap] w fun e w' => e = .returned (.slice (some ⟨blk, off, none⟩) (Lib.compact zs).length cap) ∧ ∃ q, w' = putRow encStr (Sort.ahead w q) blk off (Lib.compact zs ++ List.replicate (zs.length - (Lib.compact zs).length) []).toArray := Any.slices_Compact_string so_lays194 blk off cap zs w hH hsz hcap
open Go.RowKit Go.Lib Go.Sort in
/-- The same at a slice of length 0, a nil one too: it comes back as it is. (LAID: no walk: one application.) -/
theorem so_slices_Compact_string_empty (a : Option Addr) (cap : Nat) (w : World) :
    Calls Try.prog 139 #[.slice a 0 cap] w fun e w' => e = .returned (.slice a 0 cap) ∧ w' = w := Any.slices_Compact_string_empty so_lays194 a cap w
open Go.RowKit Go.Lib Go.Sort in
/-- slices.Compact at []string, of an argument. (LAID: no walk: one application.) -/
theorem so_slices_Compact_string_cells (b off n c : Nat) (Sx : Nat → ByteArray) (w : World) (hbig : n ≤ 9223372036854775807) (hcap : n ≤ c) (hc : ∀ i, i < n → w.cell? ⟨b, off + i, none⟩ = some (.string (Sx i))) (hf : ∀ j, j < n → w.frozen? ⟨b, off + j, none⟩ = false) :
    Calls Try.prog 139 #[.slice (some ⟨b, off, none⟩) n c] w fun e w' => e = .returned (.slice (some ⟨b, off, none⟩) (Lib.compact (Lib.strsOf Sx n)).length c) ∧ ∃ q, w' = (w.drewN q).setCells b off ((Lib.compact (Lib.strsOf Sx n) ++ List.replicate (n - (Lib.compact (Lib.strsOf Sx n)).length) []).map encStr) := Any.slices_Compact_string_cells so_lays194 b off n c Sx w hbig hcap hc hf
open Go.RowKit Go.Sort in
/-- .. and plain. (LAID: no walk: one application.) -/
theorem so_slices_Sort_string_none (p : Option Addr) (cap : Nat) (w : World) :
    Calls Try.prog 137 #[.slice p 0 cap] w fun e w' => e = .returned (.tuple #[]) ∧ w' = w := Any.slices_Sort_string_none so_lays190 p cap w
end Go.Proofs.Ytbegbdfbfbkflaa
/- slices.Sort and slices.Compact of strings on an own row, by the kit's contracts. -/
namespace Go.Proofs.Ytbegbdfbfbkflaa
open Go.RowKit Go.Sort
set_option maxHeartbeats 4000000
set_option maxRecDepth 20000
set_option linter.unusedVariables false
set_option linter.unusedSimpArgs false
attribute [local irreducible] Calls
def toB (l : List UInt8) : ByteArray := ⟨l.toArray⟩
def ofB (s : ByteArray) : List UInt8 := s.data.toList
theorem toB_of (s : ByteArray) : toB (ofB s) = s := rfl
theorem fl_str (L : List ByteArray) : fl L = L.map Value.string := by
  induction L with
  | nil => rfl
  | cons a L ih => rw [fl_cons, ih]; rfl
/-- A block of strings is put anew. -/
theorem put_heap {w : World} {g c e : Nat} {cur : Array Value} (d : Array (List UInt8)) (os : Array Obj) (k : Nat) (hg : w.heap[g]? = some (.cells cur e (0, 0))) :
    (grow (putRow encStr (Go.Sort.ahead w k) g 0 d) os).heap[g]? = some (.cells (putCells encStr 0 d cur) e (0, 0)) ∧ w.grownBy (grow (putRow encStr (Go.Sort.ahead w k) g 0 d) os) (some g) := by
  have hlt : g < w.heap.size := (Array.getElem?_eq_some_iff.1 hg).1
  refine ⟨?_, rfl, rfl, rfl, ?_, ?_⟩
  · show ((w.heap.modify g (onCells (putCells encStr 0 d))) ++ os)[g]? = _
    rw [Array.getElem?_append_left (by simpa using hlt), Array.getElem?_modify, if_pos rfl, hg]
    rfl
  · show w.heap.size ≤ ((w.heap.modify g (onCells (putCells encStr 0 d))) ++ os).size
    simp
  · intro j hj hne
    show ((w.heap.modify g (onCells (putCells encStr 0 d))) ++ os)[j]? = _
    rw [Array.getElem?_append_left (by simpa using hj), Array.getElem?_modify, if_neg (fun e => hne (by rw [e]))]
theorem putCells_take (d : Array (List UInt8)) (cur : Array Value) (h : d.size ≤ cur.size) : (putCells encStr 0 d cur).toList.take d.size = fl (d.toList.map toB) := by
  rw [fl_str]
  apply List.ext_getElem?
  intro i
  rw [List.getElem?_take]
  by_cases hi : i < d.size
  · have h2 : i < cur.size := by omega
    simp [putCells, hi, h2, toB, encStr]
  · simp [hi]
theorem Own.put {base : Nat} {w : World} {g n c e : Nat} {us : List Value} (h : Own w base e 1 (some ⟨g, 0, none⟩) n c us) (d : Array (List UInt8)) (hd : d.size = n) (os : Array Obj) (k : Nat) :
    Own (grow (putRow encStr (Go.Sort.ahead w k) g 0 d) os) base e 1 (some ⟨g, 0, none⟩) n c (fl (d.toList.map toB)) ∧ w.grownBy (grow (putRow encStr (Go.Sort.ahead w k) g 0 d) os) (some g) := by
  obtain ⟨hl, ⟨hA, h0⟩ | ⟨g', cap, cur, hA, hb, hh, hnc, hcm, hcs, htk⟩⟩ := h
  · cases hA
  · cases hA
    obtain ⟨p1, p2⟩ := put_heap (c := c) d os k hh
    refine ⟨⟨by rw [fl_len]; simp only [List.length_map, Array.length_toList, hd]; rfl, .inr ⟨g, c, _, rfl, hb, p1, hnc, hcm, by simpa [putCells] using hcs, ?_⟩⟩, p2⟩
    rw [Nat.mul_one, ← hd]
    exact putCells_take d cur (by omega)
theorem holds_own {base : Nat} {w : World} {g c e : Nat} {L : List ByteArray} (h : Own w base e 1 (some ⟨g, 0, none⟩) L.length c (fl L)) : Holds encStr w g 0 (L.map ofB).toArray ∧ g < w.heap.size ∧ L.length ≤ c := by
  have h' := h
  obtain ⟨hl, ⟨hA, h0⟩ | ⟨g', cap, cur, hA, hb, hh, hnc, hcm, hcs, htk⟩⟩ := h
  · cases hA
  · cases hA
    have hr := Rd.of_own h'
    refine ⟨fun j hj => ⟨?_, ?_⟩, (Array.getElem?_eq_some_iff.1 hh).1, hnc⟩
    · have hj' : j < L.length := by simpa using hj
      obtain ⟨ad, e1, e2⟩ := hr j (.string L[j]) (by rw [fl_str]; simp [hj'])
      cases e1
      rw [ga_add] at e2
      rw [Nat.zero_add, e2]
      simp [encStr, ofB, hj']
    · rw [Nat.zero_add]; exact frozen_of_row w g j cur e hh
def srtB (L : List ByteArray) : List ByteArray := ((L.map ofB).mergeSort fun x y => decide (x ≤ y)).map toB
theorem sort_c (A : Option Addr) (c : Nat) (L : List ByteArray) (hl : L.length ≤ 8388608) {base : Nat} {w0 w : World} {H : List HObj} {G : List World} (hw : WOk base w0 (.row 9 1 A L.length c (fl L) :: H) G w) :
    Calls Try.prog 137 #[.slice A L.length c] w fun e w' => ∃ y : Ys, e = .returned (.tuple #[]) ∧ True ∧ WOk base w0 (.row 9 1 A L.length c (fl (srtB L)) :: H) G w' := by
  have ho : Own w base 9 1 A L.length c (fl L) := hw.own _ List.mem_cons_self
  rcases A with _ | ⟨g, off, sub⟩
  · have hL : L = [] := by
      obtain ⟨_, ⟨_, h0⟩ | ⟨g', cap, cur, hA, _⟩⟩ := ho
      · exact List.eq_nil_of_length_eq_zero h0
      · cases hA
    subst hL
    have e0 : srtB [] = [] := by simp [srtB]
    rw [e0]
    refine (so_slices_Sort_string_none none c w).mono ?_
    rintro e w' ⟨rfl, rfl⟩
    exact ⟨mkY none 0 w', rfl, trivial, hw⟩
  · have hA : off = 0 ∧ sub = none := by
      obtain ⟨_, ⟨hA, h0⟩ | ⟨g', cap, cur, hA, _⟩⟩ := ho
      · cases hA
      · cases hA; exact ⟨rfl, rfl⟩
    obtain ⟨rfl, rfl⟩ := hA
    obtain ⟨hH, hg, hc⟩ := holds_own ho
    have hs := so_slices_Sort_string g 0 c (L.map ofB) w hH hg (by simp; omega)
    rw [List.length_map] at hs
    refine hs.mono ?_
    rintro e w' ⟨rfl, k, os, rfl⟩
    obtain ⟨q1, q2⟩ := Own.put ho ((L.map ofB).mergeSort fun x y => decide (x ≤ y)).toArray (by simp) os k
    refine ⟨mkY none 0 w, rfl, trivial, ?_⟩
    exact hw.turn (i := 0) (r := some g) rfl q2 (fun j hj => by cases hj; rfl) q1 (fun j hj => .inl hj)
/-- The own row made shorter. -/
theorem WOk.cutRow {e sz n c k : Nat} {A : Option Addr} {us : List Value} {base : Nat} {w0 w : World} {H : List HObj} {G : List World} (hw : WOk base w0 (.row e sz A n c us :: H) G w) (hk : k ≤ n) : WOk base w0 (.row e sz A k c (us.take (k * sz)) :: H) G w := by
  refine hw.turn (i := 0) (x' := .row e sz A k c (us.take (k * sz))) rfl (r := none) (World.grownBy.refl w _) (fun k hk => by cases hk) ?_ (fun j hj => .inl hj)
  have ho : Own w base e sz A n c us := hw.own _ List.mem_cons_self
  have hle : k * sz ≤ n * sz := Nat.mul_le_mul_right _ hk
  obtain ⟨hl, ⟨hA, h0⟩ | ⟨g', cap, cur, hA, hb, hh, hnc, hcm, hcs, htk⟩⟩ := ho
  · refine ⟨by rw [List.length_take, hl]; omega, .inl ⟨?_, by omega⟩⟩
    injection hA with h1 h2 h3
    obtain rfl : k = 0 := by omega
    rw [h1, h3]
  · injection hA with h1 h2 h3
    refine ⟨by rw [List.length_take, hl]; omega, .inr ⟨g', cap, cur, by rw [h1, h3], hb, hh, by omega, hcm, hcs, ?_⟩⟩
    rw [← htk, List.take_take, Nat.min_eq_left hle]
/-- slices.Compact. -/
def ctL (x : List UInt8) : List (List UInt8) → List (List UInt8)
  | [] => []
  | b :: L => if b ≠ x then b :: ctL b L else ctL b L
theorem ct_eq : ∀ (L : List (List UInt8)) (a : List UInt8), ((List.range L.length).filter (fun j => decide (L[j]! ≠ (a :: L)[j]!))).map (fun j => L[j]!) = ctL a L
  | [], a => rfl
  | b :: L, a => by
    have ih := ct_eq L b
    have e : List.range (L.length + 1) = 0 :: (List.range L.length).map (· + 1) := List.range_succ_eq_map
    rw [List.length_cons, e, List.filter_cons, List.filter_map, ctL]
    have e2 : ((List.range L.length).filter ((fun j => decide ((b :: L)[j]! ≠ (a :: b :: L)[j]!)) ∘ (· + 1))) = (List.range L.length).filter (fun j => decide (L[j]! ≠ (b :: L)[j]!)) := rfl
    rw [e2]
    by_cases h : b ≠ a
    · rw [if_pos h, if_pos (by simpa using h), List.map_cons, List.map_map]
      congr 1
    · rw [if_neg h, if_neg (by simpa using h), List.map_map]
      exact ih
theorem compact_ct (a : List UInt8) (L : List (List UInt8)) : Lib.compact (a :: L) = a :: ctL a L := by
  rw [← ct_eq L a]
  unfold Lib.compact Lib.compactUpTo
  have e : List.range (a :: L).length = 0 :: (List.range L.length).map (· + 1) := by rw [List.length_cons]; exact List.range_succ_eq_map
  rw [e, List.filter_cons, List.filter_map, if_pos (by simp [Lib.keeps]), List.map_cons, List.map_map]
  have e2 : ((List.range L.length).filter (Lib.keeps (a :: L).toArray ∘ (· + 1))) = (List.range L.length).filter (fun j => decide (L[j]! ≠ (a :: L)[j]!)) := by
    congr 1
    funext j
    simp [Lib.keeps]
  rw [e2]
  congr 1
  exact List.map_congr_left fun j _ => by simp
theorem ct_once : ∀ (L : List ByteArray) (a : ByteArray), onceS (a :: L) = a :: (ctL (ofB a) (L.map ofB)).map toB
  | [], a => rfl
  | b :: L, a => by
    rw [onceS, List.map_cons, ctL]
    have ih := ct_once L b
    by_cases h : sEq a b = true
    · have e := sEq_eq h
      subst e
      rw [if_pos h, if_neg (by simp), ih]
    · rw [if_neg h, if_pos (fun e => h (by
        have : a = b := by rw [← toB_of a, ← toB_of b, e]
        subst this; unfold sEq; simp)), List.map_cons, ih]
      rfl
theorem compact_once (L : List ByteArray) : (Lib.compact (L.map ofB)).map toB = onceS L := by
  cases L with
  | nil => rfl
  | cons a L => rw [List.map_cons, compact_ct, ct_once]; rfl
theorem once_len : ∀ L : List ByteArray, (onceS L).length ≤ L.length
  | [] => Nat.le_refl _
  | [a] => Nat.le_refl _
  | a :: b :: L => by
    have := once_len (b :: L)
    rw [onceS]
    split
    · simp only [List.length_cons] at this ⊢; omega
    · simp only [List.length_cons] at this ⊢; omega
theorem compact_c (A : Option Addr) (c : Nat) (L : List ByteArray) (hl : L.length ≤ 8388608) {base : Nat} {w0 w : World} {H : List HObj} {G : List World} (hw : WOk base w0 (.row 9 1 A L.length c (fl L) :: H) G w) :
    Calls Try.prog 139 #[.slice A L.length c] w fun e w' => ∃ y : Ys, e = .returned (.slice A (onceS L).length c) ∧ True ∧ WOk base w0 (.row 9 1 A (onceS L).length c (fl (onceS L)) :: H) G w' := by
  have ho : Own w base 9 1 A L.length c (fl L) := hw.own _ List.mem_cons_self
  rcases A with _ | ⟨g, off, sub⟩
  · have hL : L = [] := by
      obtain ⟨_, ⟨_, h0⟩ | ⟨g', cap, cur, hA, _⟩⟩ := ho
      · exact List.eq_nil_of_length_eq_zero h0
      · cases hA
    subst hL
    refine (so_slices_Compact_string_empty none c w).mono ?_
    rintro e w' ⟨rfl, rfl⟩
    exact ⟨mkY none 0 w', rfl, trivial, hw⟩
  · have hA : off = 0 ∧ sub = none := by
      obtain ⟨_, ⟨hA, h0⟩ | ⟨g', cap, cur, hA, _⟩⟩ := ho
      · cases hA
      · cases hA; exact ⟨rfl, rfl⟩
    obtain ⟨rfl, rfl⟩ := hA
    obtain ⟨hH, hg, hc⟩ := holds_own ho
    have hs := so_slices_Compact_string g 0 c (L.map ofB) w hH (by simp; omega) (by simpa using hc)
    have hcl : (Lib.compact (L.map ofB)).length = (onceS L).length := by rw [← compact_once, List.length_map]
    have hle := once_len L
    rw [List.length_map, hcl] at hs
    refine hs.mono ?_
    rintro e w' ⟨rfl, k, rfl⟩
    obtain ⟨q1, q2⟩ := Own.put ho (Lib.compact (L.map ofB) ++ List.replicate (L.length - (onceS L).length) []).toArray (by simp [hcl]; omega) #[] k
    have e0 : ∀ w : World, grow w #[] = w := fun w => by unfold grow; simp
    rw [e0] at q1 q2
    refine ⟨mkY none 0 w, rfl, trivial, ?_⟩
    have h1 := hw.turn (i := 0) (x' := .row 9 1 (some ⟨g, 0, none⟩) L.length c _) (r := some g) rfl q2 (fun j hj => by cases hj; rfl) q1 (fun j hj => .inl hj)
    have h2 := WOk.cutRow (k := (onceS L).length) h1 hle
    rw [List.map_append, compact_once] at h2
    have e3 : (fl (onceS L ++ (List.replicate (L.length - (onceS L).length) ([] : List UInt8)).map toB)).take ((onceS L).length * 1) = fl (onceS L) := by
      rw [← fl_app]; exact List.take_left' (by rw [fl_len]; rfl)
    rw [e3] at h2
    exact h2
end Go.Proofs.Ytbegbdfbfbkflaa
/- Delta whose row of texts is clipped: the block has more room than the value says. -/
namespace Go.Proofs.Ytbegbdfbfbkflaa
open Go.RowKit
set_option maxHeartbeats 4000000
set_option maxRecDepth 20000
set_option linter.unusedVariables false
set_option linter.unusedSimpArgs false
attribute [local irreducible] Calls
def DeltaC_obj (x : DDelta) (y : Ys) : List HObj := [.row 67 2 (y 0).A x.U.length (y 0).c (fl x.U), .row 9 1 (y 1).A x.D.length (y 2).c (fl x.D)]
theorem DeltaC_of {w w0 : World} {base : Nat} {H : List HObj} {G : List World} {x : DDelta} {y : Ys} (hw : WOk base w0 (DeltaC_obj x y ++ H) G w) : Delta_rd w x y := ⟨hw.row 0 rfl, hw.row 1 rfl⟩
end Go.Proofs.Ytbegbdfbfbkflaa
/- JoinDelta of both programs. -/
namespace Go.Proofs.Ytbegbdfbfbkflaa
open Go.RowKit
set_option maxHeartbeats 4000000
set_option maxRecDepth 20000
set_option linter.unusedVariables false
set_option linter.unusedSimpArgs false
attribute [local irreducible] Calls
theorem WOk.rowNilJ {base : Nat} {w0 w : World} {H : List HObj} {G : List World} (e sz : Nat) (hw : WOk base w0 H G w) : WOk base w0 (.row e sz none 0 0 [] :: H) G w :=
  hw.grow (Hn := [.row e sz none 0 0 []]) (Gn := []) (Below.refl _ _) (NewOk.one (x := .row e sz none 0 0 []) (Own.nil w _ e sz))
theorem ps_clip {P : Program} {E : Env} {H : List HObj} {G : List World} {o : Oper} {x hi mx : Operand} {t e sz bytes : TypeId} {A : Option Addr} {n c h : Nat} {k' k'' : IntKind} [ht : EL P t e sz bytes] (ho : o.op = .slice t x none (some hi) (some mx)) (hx : opd E x = some (.slice A n c))
    (hhi : opd E hi = some (.int k' (h : Int))) (hm : opd E mx = some (.int k'' (h : Int))) (h3 : h ≤ c) :
    PStep P E H G o (.slice A h h) := fun N base w0 a w he hw => by
  obtain ⟨hu, _, i, z, hi', hz, hs, _, _⟩ := ht.h
  have hb : ∀ (k : IntKind) (q m : Nat) (cd : BoundsCode), q ≤ m → (Instr.sliceBound (.int k (q : Int)) m cd).run P w = .ok q w := fun k q m cd hq => by
    have : (0 : Int) ≤ q ∧ (q : Int) ≤ m := by omega
    simp [Instr.sliceBound, asIntOf, this]
  simp [execOp, ho, he.eval hx, he.eval hhi, he.eval hm, Instr.sliceAt, Instr.slice, Instr.sliceBounds, run_underlying hu, sizeOf, typeInfo, hi', hs, hb k'' h c _ h3, hb k' h h _ (Nat.le_refl _)]
  exact fun _ => by have := add_zero_all A 0; simpa using this
theorem clip_c (A : Option Addr) (n c : Nat) (h : n ≤ c) (w : World) :
    Calls Try.prog 138 #[.slice A n c] w fun e w' => e = .returned (.slice A n n) ∧ Below w.heap.size w w' := by
  refine ok_enter 9 Try.func138 rfl rfl rfl ?_
  repeat' (first
    | refine ok_seq ?_
    | refine ok_then ?_
    | refine ok_ret ?_
    | (refine ok_region (i := 0) ?_; refine ok_p rfl rfl rfl (by exact ps_assign rfl rfl) ?_; refine ok_nil ?_; refine ok_env [(0, _)] ⟨rfl, trivial⟩ ?_)
    | (refine ok_region (i := 1) ?_; refine ok_p rfl rfl rfl (by exact ps_move rfl rfl) ?_; refine ok_p rfl rfl rfl (by exact ps_move rfl rfl) ?_; refine ok_p rfl rfl rfl (by exact ps_len rfl rfl) ?_; refine ok_p rfl rfl rfl (by exact ps_move rfl rfl) ?_; refine ok_p rfl rfl rfl (by exact ps_len rfl rfl) ?_; refine ok_p rfl rfl rfl (by exact ps_clip rfl rfl rfl rfl h) ?_; refine ok_p rfl rfl rfl (by exact ps_assign rfl rfl) ?_; refine ok_nil ?_; refine ok_env [(2, _)] ⟨rfl, trivial⟩ ?_))
  exact ok_endL (vs := [_]) rfl ⟨rfl, trivial⟩ (fun w' hw => ⟨rfl, hw.below⟩)
/-- Two rows one behind the other. -/
theorem cat2_c (A A1 A2 : Option Addr) (c c1 c2 : Nat) (D1 D2 : List ByteArray) (w : World) (h : Rd w A [.slice A1 D1.length c1, .slice A2 D2.length c2]) (h1 : Rd w A1 (fl D1)) (h2 : Rd w A2 (fl D2)) (m1 : D1.length ≤ 1048576) (m2 : D2.length ≤ 1048576) :
    Calls Try.prog 136 #[.slice A 2 c] w fun e w' => ∃ y : Ys, e = .returned (.slice (y 0).A (D1 ++ D2).length (y 0).c) ∧ True ∧ Below w.heap.size w w' ∧ NewOk w.heap.size [.row 9 1 (y 0).A (D1 ++ D2).length (y 0).c (fl (D1 ++ D2))] [] w' := by
  have hc := concatStr_c A c [(⟨D1, A1, c1⟩ : Lc (List ByteArray)), ⟨D2, A2, c2⟩] w ⟨h, fun k hk => by
    have : k = 0 ∨ k = 1 := by simp at hk; omega
    rcases this with rfl | rfl
    · exact h1
    · exact h2⟩ (by simp) (fun k => by
      have := offR_le List.length (dats [(⟨D1, A1, c1⟩ : Lc (List ByteArray)), ⟨D2, A2, c2⟩]) 1048576 (fun u hu => by
        simp only [dats, List.map_cons, List.map_nil, List.mem_cons, List.mem_nil_iff, or_false] at hu
        rcases hu with rfl | rfl
        · exact m1
        · exact m2) k
      simp only [dats_len, List.length_cons, List.length_nil] at this
      omega)
  have e : (dats [(⟨D1, A1, c1⟩ : Lc (List ByteArray)), ⟨D2, A2, c2⟩]).flatten = D1 ++ D2 := by simp [dats]
  rw [e] at hc
  exact hc
/-- A text in a row. -/
theorem hasS_all {L : List ByteArray} {x : ByteArray} (h : ∀ j, j < L.length → sEq (nth L j) x = false) : hasS L x = false := by
  unfold hasS
  rw [List.any_eq_false]
  intro y hy
  obtain ⟨i, hi, rfl⟩ := List.getElem_of_mem hy
  have := h i hi
  simp only [nth, List.getD_eq_getElem?_getD, List.getElem?_eq_getElem hi, Option.getD_some] at this
  simp [this]
theorem hasS_one {L : List ByteArray} {x : ByteArray} {i : Nat} (hi : i < L.length) (h : sEq (nth L i) x = true) : hasS L x = true := by
  unfold hasS
  rw [List.any_eq_true]
  exact ⟨_, nth_mem L i hi, h⟩
theorem s_l35Has_c (A : Option Addr) (c : Nat) (L : List ByteArray) (x : ByteArray) (w : World) (h : Rd w A (fl L)) (hl : L.length ≤ 8388608) :
    Calls Try.prog 190 #[.slice A L.length c, .string x] w fun e w' => e = .returned (.bool (hasS L x)) ∧ Below w.heap.size w w' := by
  refine ok_enter 18 Try.func190 rfl rfl rfl ?_
  repeat' (first
    | refine ok_seq ?_
    | refine ok_then ?_
    | refine ok_block ?_
    | (refine ok_region (i := 0) ?_; refine ok_p rfl rfl rfl (by exact ps_assign rfl rfl) ?_; refine ok_nil ?_; refine ok_env [(0, _), (1, _)] ⟨rfl, rfl, trivial⟩ ?_)
    | (refine ok_region (i := 1) ?_; refine ok_p rfl rfl rfl (by exact ps_assign rfl rfl) ?_; refine ok_nil ?_; refine ok_env [(0, _), (1, _), (5, _)] ⟨rfl, rfl, rfl, trivial⟩ ?_))
  refine ok_loop (ι := { k : Nat // k ≤ L.length ∧ ∀ j, j < k → sEq (nth L j) x = false }) (fun k => L.length - k.1) (fun k => ([(0, .slice A L.length c), (1, .string x), (5, .int .i64 k.1)], _, _)) ⟨0, by omega, fun j h => absurd h (Nat.not_lt_zero j)⟩ (fun a w he hw => ⟨⟨0, by omega, fun j h => absurd h (Nat.not_lt_zero j)⟩, he.sub ⟨rfl, rfl, rfl, trivial⟩, hw⟩) ?_
  rintro ⟨k, hk, hok⟩
  simp only at hk hok ⊢
  have HO := Lib.hid hok; clear hok
  repeat' (first
    | refine ok_seq ?_
    | refine ok_then ?_
    | refine ok_then_ret ?_
    | refine ok_block ?_
    | refine ok_in_normal ?_
    | refine ok_in_ret ?_
    | (refine ok_cond rfl (fun hc => ?_) (fun hc => ?_) <;> (have hd := hc; (try simp only [decide_eq_true_eq, decide_eq_false_iff_not, Bool.or_eq_true, Bool.or_eq_false_iff, Bool.and_eq_true, Bool.and_eq_false_iff, Bool.not_eq_true', Bool.not_eq_false', bne_iff_ne, beq_iff_eq, bne_eq_false_iff_eq, beq_eq_false_iff_ne, ne_eq, Bool.not_true, Bool.not_false, Bool.false_eq_true, Bool.true_eq_false, inB_true, inB_false] at hd)))
    | refine ok_ret ?_
    | refine ok_exit ?_
    | refine ok_skip ?_
    | (refine ok_region (i := 2) ?_; refine ok_p rfl rfl rfl (by exact ps_move rfl rfl) ?_; refine ok_p rfl rfl rfl (by exact ps_move rfl rfl) ?_; refine ok_p rfl rfl rfl (by exact ps_len rfl rfl) ?_; refine ok_p rfl rfl rfl (by exact ps_int rfl rfl rfl rfl) ?_; refine ok_nil ?_; refine ok_env [(0, _), (1, _), (5, _), (9, _)] ⟨rfl, rfl, rfl, rfl, trivial⟩ ?_)
    | (refine ok_region (i := 3) ?_; refine ok_p rfl rfl rfl (by exact ps_move rfl rfl) ?_; refine ok_p rfl rfl rfl (by exact ps_add rfl rfl rfl (by omega)) ?_; refine ok_p rfl rfl rfl (by exact ps_assign rfl rfl) ?_; refine ok_nil ?_; refine ok_env [(0, _), (1, _), (5, _)] ⟨rfl, rfl, rfl, trivial⟩ ?_)
    | (refine ok_region (i := 4) ?_; refine ok_p rfl rfl rfl (by exact ps_move rfl rfl) ?_; refine ok_p rfl rfl rfl (by exact ps_move rfl rfl) ?_; refine ok_p rfl rfl rfl (by exact ps_indexN rfl rfl rfl (by omega) (by exact isw_of (isS_fl (by assumption) (by omega)))) ?_; refine ok_p rfl rfl rfl (by exact ps_load rfl rfl (by exact Rds.cell (rds_rf (by assumption) (by exact List.mem_cons_self)) (by exact fl_at0 _ _ (by omega) (by decide)))) ?_; refine ok_p rfl rfl rfl (by exact ps_move rfl rfl) ?_; refine ok_p rfl rfl rfl (by exact ps_str rfl rfl rfl rfl) ?_; refine ok_nil ?_; refine ok_env [(0, _), (1, _), (5, _), (17, _)] ⟨rfl, rfl, rfl, rfl, trivial⟩ ?_)
    | (refine ok_region (i := 5) ?_; refine ok_p rfl rfl rfl (by exact ps_assign rfl rfl) ?_; refine ok_nil ?_; refine ok_env [(4, _)] ⟨rfl, trivial⟩ ?_)
    | (refine ok_region (i := 6) ?_; refine ok_p rfl rfl rfl (by exact ps_assign rfl rfl) ?_; refine ok_nil ?_; refine ok_env [(4, _)] ⟨rfl, trivial⟩ ?_))
  · rw [hasS_one (show k < L.length by omega) hc]
    exact ok_endL (vs := [_]) rfl ⟨rfl, trivial⟩ (fun w' hw => ⟨rfl, hw.below⟩)
  · have e : sEq (nth L k) x = false := hc
    exact fun a w' he hw => ⟨⟨k + 1, by omega, fun j hj => by
      rcases Nat.lt_succ_iff_lt_or_eq.1 hj with h' | h'
      · exact HO.out j h'
      · subst h'; exact e⟩, by simp only; omega, he.sub ⟨rfl, rfl, rfl, trivial⟩, hw⟩
  · obtain rfl : k = L.length := by omega
    rw [hasS_all (fun j hj => HO.out j hj)]
    exact ok_endL (vs := [_]) rfl ⟨rfl, trivial⟩ (fun w' hw => ⟨rfl, hw.below⟩)
/-- What the reference does with the rest of a row. -/
def finS (x : ByteArray) : List ByteArray → Bool → List ByteArray → List ByteArray
  | [], b, O => if b = true then O else O ++ [x]
  | y :: D, b, O => if b = false ∧ sLt x y = true then finS x D true ((O ++ [x]) ++ [y]) else finS x D b (O ++ [y])
theorem finS_true (x : ByteArray) : ∀ (D O : List ByteArray), finS x D true O = O ++ D
  | [], O => by simp [finS]
  | y :: D, O => by rw [finS, if_neg (by simp), finS_true x D, List.append_assoc]; rfl
theorem finS_false (x : ByteArray) : ∀ (D O : List ByteArray), finS x D false O = O ++ (hdS D x ++ [x]) ++ tlS D x
  | [], O => by simp [finS, hdS, tlS]
  | y :: D, O => by
    rw [finS]
    cases h : sLt x y
    · rw [if_neg (by simp)]
      have e1 : hdS (y :: D) x = y :: hdS D x := by unfold hdS; rw [List.takeWhile_cons, h]; rfl
      have e2 : tlS (y :: D) x = tlS D x := by unfold tlS; rw [List.dropWhile_cons, h]; rfl
      rw [e1, e2, finS_false x D]
      simp only [List.append_assoc, List.cons_append, List.nil_append]
    · rw [if_pos ⟨rfl, rfl⟩]
      have e1 : hdS (y :: D) x = [] := by unfold hdS; rw [List.takeWhile_cons, h]; rfl
      have e2 : tlS (y :: D) x = y :: D := by unfold tlS; rw [List.dropWhile_cons, h]; rfl
      rw [e1, e2, finS_true]
      simp only [List.append_assoc, List.nil_append]; rfl
theorem finS_ins (L : List ByteArray) (x : ByteArray) : finS x L (hasS L x) [] = insS L x := by
  unfold insS
  cases h : hasS L x
  · rw [if_neg (by simp), finS_false]; rfl
  · rw [if_pos rfl, finS_true]; rfl
theorem dropS {L : List ByteArray} {j : Nat} (h : j < L.length) : L.drop j = nth L j :: L.drop (j + 1) := by
  rw [List.drop_eq_getElem_cons h]
  simp [nth, h]
structure PutS (L : List ByteArray) (x : ByteArray) where
  i : Nat
  b : Bool
  O : List ByteArray
  A : Option Addr
  c : Nat
  hi : i ≤ L.length ∧ O.length ≤ i + 1 ∧ (b = false → O.length ≤ i)
  ok : finS x (L.drop i) b O = insS L x
theorem s_l35Put_c (A : Option Addr) (c : Nat) (L : List ByteArray) (x : ByteArray) (w : World) (h : Rd w A (fl L)) (hl : L.length ≤ 4194304) :
    Calls Try.prog 143 #[.slice A L.length c, .string x] w fun e w' => ∃ y : Ys, e = .returned (.slice (y 0).A (insS L x).length (y 0).c) ∧ True ∧ Below w.heap.size w w' ∧ NewOk w.heap.size [.row 9 1 (y 0).A (insS L x).length (y 0).c (fl (insS L x))] [] w' := by
  refine ok_enter 46 Try.func143 rfl rfl rfl ?_
  repeat' (first
    | refine ok_seq ?_
    | refine ok_then ?_
    | refine ok_block ?_
    | (refine ok_region (i := 0) ?_; refine ok_p rfl rfl rfl (by exact ps_assign rfl rfl) ?_; refine ok_nil ?_; refine ok_env [(0, _), (1, _)] ⟨rfl, rfl, trivial⟩ ?_)
    | (refine ok_region (i := 1) ?_; refine ok_m rfl rfl rfl (by exact ms_lit rfl parts_nil rfl rfl rfl) ?_; rintro y8 hy8; refine ok_p rfl rfl rfl (by exact ps_assign rfl rfl) ?_; refine ok_nil ?_; refine ok_env [(0, _), (1, _), (5, _)] ⟨rfl, rfl, rfl, trivial⟩ ?_)
    | (refine ok_region (i := 2) ?_; refine ok_p rfl rfl rfl (by exact ps_move rfl rfl) ?_; refine ok_p rfl rfl rfl (by exact ps_move rfl rfl) ?_; refine ok_m rfl rfl rfl (by exact ms_s2 rfl rfl rfl (fun _ _ w hw => s_l35Has_c A c L x w (rds_rf h (by exact List.mem_cons_self) _ _ w hw) (by omega))) ?_; rintro y11 hy11; refine ok_p rfl rfl rfl (by exact ps_assign rfl rfl) ?_; refine ok_nil ?_; refine ok_env [(0, _), (1, _), (5, _), (6, _)] ⟨rfl, rfl, rfl, rfl, trivial⟩ ?_)
    | (refine ok_region (i := 3) ?_; refine ok_p rfl rfl rfl (by exact ps_assign rfl rfl) ?_; refine ok_nil ?_; refine ok_env [(0, _), (1, _), (5, _), (6, _), (7, _)] ⟨rfl, rfl, rfl, rfl, rfl, trivial⟩ ?_))
  refine ok_loop (ι := PutS L x) (fun q => L.length - q.i) (fun q => ([(0, .slice A L.length c), (1, .string x), (5, .slice q.A q.O.length q.c), (6, .bool q.b), (7, .int .i64 q.i)], [.row 9 1 q.A q.O.length q.c (fl q.O)], _)) ⟨0, hasS L x, [], none, 0, by simp, finS_ins L x⟩ (fun a w he hw => ⟨⟨0, hasS L x, [], ga (y8 0).c, 0, by simp, finS_ins L x⟩, he.sub ⟨rfl, rfl, rfl, rfl, rfl, trivial⟩, hw⟩) ?_
  rintro ⟨i, b, O, B, e, hi, ok⟩
  simp only at hi ok ⊢
  have OK := Lib.hid ok; clear ok
  repeat' (first
    | refine ok_seq ?_
    | refine ok_then ?_
    | refine ok_block ?_
    | refine ok_in_normal ?_
    | (refine ok_cond rfl (fun hc => ?_) (fun hc => ?_) <;> (have hd := hc; (try simp only [decide_eq_true_eq, decide_eq_false_iff_not, Bool.or_eq_true, Bool.or_eq_false_iff, Bool.and_eq_true, Bool.and_eq_false_iff, Bool.not_eq_true', Bool.not_eq_false', bne_iff_ne, beq_iff_eq, bne_eq_false_iff_eq, beq_eq_false_iff_ne, ne_eq, Bool.not_true, Bool.not_false, Bool.false_eq_true, Bool.true_eq_false, inB_true, inB_false] at hd)))
    | refine ok_ret ?_
    | refine ok_exit ?_
    | refine ok_skip ?_
    | (refine ok_region (i := 4) ?_; refine ok_p rfl rfl rfl (by exact ps_move rfl rfl) ?_; refine ok_p rfl rfl rfl (by exact ps_move rfl rfl) ?_; refine ok_p rfl rfl rfl (by exact ps_len rfl rfl) ?_; refine ok_p rfl rfl rfl (by exact ps_int rfl rfl rfl rfl) ?_; refine ok_nil ?_; refine ok_env [(0, _), (1, _), (5, _), (6, _), (7, _), (15, _)] ⟨rfl, rfl, rfl, rfl, rfl, rfl, trivial⟩ ?_)
    | (refine ok_region (i := 5) ?_; refine ok_p rfl rfl rfl (by exact ps_move rfl rfl) ?_; refine ok_p rfl rfl rfl (by exact ps_add rfl rfl rfl (by omega)) ?_; refine ok_p rfl rfl rfl (by exact ps_assign rfl rfl) ?_; refine ok_nil ?_; refine ok_env [(0, _), (1, _), (5, _), (6, _), (7, _)] ⟨rfl, rfl, rfl, rfl, rfl, trivial⟩ ?_)
    | (refine ok_region (i := 6) ?_; refine ok_p rfl rfl rfl (by exact ps_move rfl rfl) ?_; refine ok_p rfl rfl rfl (by exact ps_not rfl rfl) ?_; refine ok_p rfl rfl rfl (by exact ps_move rfl rfl) ?_; refine ok_pg rfl rfl rfl rfl rfl (gT _) (fun hp => by (have hpd := hp; (try simp only [decide_eq_true_eq, decide_eq_false_iff_not, Bool.or_eq_true, Bool.or_eq_false_iff, Bool.and_eq_true, Bool.and_eq_false_iff, Bool.not_eq_true', Bool.not_eq_false', bne_iff_ne, beq_iff_eq, bne_eq_false_iff_eq, beq_eq_false_iff_ne, ne_eq, Bool.not_true, Bool.not_false, Bool.false_eq_true, Bool.true_eq_false, inB_true, inB_false] at hpd); exact ps_move rfl (by exact rfl))) ?_; refine ok_pg rfl rfl rfl rfl rfl (gT _) (fun hp => by (have hpd := hp; (try simp only [decide_eq_true_eq, decide_eq_false_iff_not, Bool.or_eq_true, Bool.or_eq_false_iff, Bool.and_eq_true, Bool.and_eq_false_iff, Bool.not_eq_true', Bool.not_eq_false', bne_iff_ne, beq_iff_eq, bne_eq_false_iff_eq, beq_eq_false_iff_ne, ne_eq, Bool.not_true, Bool.not_false, Bool.false_eq_true, Bool.true_eq_false, inB_true, inB_false] at hpd); exact ps_move rfl (by exact rfl))) ?_; refine ok_pg rfl rfl rfl rfl rfl (gT _) (fun hp => by (have hpd := hp; (try simp only [decide_eq_true_eq, decide_eq_false_iff_not, Bool.or_eq_true, Bool.or_eq_false_iff, Bool.and_eq_true, Bool.and_eq_false_iff, Bool.not_eq_true', Bool.not_eq_false', bne_iff_ne, beq_iff_eq, bne_eq_false_iff_eq, beq_eq_false_iff_ne, ne_eq, Bool.not_true, Bool.not_false, Bool.false_eq_true, Bool.true_eq_false, inB_true, inB_false] at hpd); exact ps_indexN rfl (by (refine og rfl ?_; assumption)) (by (refine og rfl ?_; assumption)) (by omega) (by exact isw_of (isS_fl (by assumption) (by omega))))) ?_; refine ok_pg rfl rfl rfl rfl rfl (gT _) (fun hp => by (have hpd := hp; (try simp only [decide_eq_true_eq, decide_eq_false_iff_not, Bool.or_eq_true, Bool.or_eq_false_iff, Bool.and_eq_true, Bool.and_eq_false_iff, Bool.not_eq_true', Bool.not_eq_false', bne_iff_ne, beq_iff_eq, bne_eq_false_iff_eq, beq_eq_false_iff_ne, ne_eq, Bool.not_true, Bool.not_false, Bool.false_eq_true, Bool.true_eq_false, inB_true, inB_false] at hpd); exact ps_load rfl (by (refine og rfl ?_; assumption)) (by exact Rds.cell (rds_rf (by assumption) (by exact List.mem_cons_self)) (by exact fl_at0 _ _ (by omega) (by decide))))) ?_; refine ok_pg rfl rfl rfl rfl rfl (gT _) (fun hp => by (have hpd := hp; (try simp only [decide_eq_true_eq, decide_eq_false_iff_not, Bool.or_eq_true, Bool.or_eq_false_iff, Bool.and_eq_true, Bool.and_eq_false_iff, Bool.not_eq_true', Bool.not_eq_false', bne_iff_ne, beq_iff_eq, bne_eq_false_iff_eq, beq_eq_false_iff_ne, ne_eq, Bool.not_true, Bool.not_false, Bool.false_eq_true, Bool.true_eq_false, inB_true, inB_false] at hpd); exact ps_move rfl (by exact rfl))) ?_; refine ok_pg rfl rfl rfl rfl rfl (gT _) (fun hp => by (have hpd := hp; (try simp only [decide_eq_true_eq, decide_eq_false_iff_not, Bool.or_eq_true, Bool.or_eq_false_iff, Bool.and_eq_true, Bool.and_eq_false_iff, Bool.not_eq_true', Bool.not_eq_false', bne_iff_ne, beq_iff_eq, bne_eq_false_iff_eq, beq_eq_false_iff_ne, ne_eq, Bool.not_true, Bool.not_false, Bool.false_eq_true, Bool.true_eq_false, inB_true, inB_false] at hpd); exact ps_str rfl (by (refine og rfl ?_; assumption)) (by (refine og rfl ?_; assumption)) rfl)) ?_; refine ok_p rfl rfl rfl (by exact ps_and rfl rfl rfl) ?_; refine ok_nil ?_; refine ok_env [(0, _), (1, _), (5, _), (6, _), (7, _), (27, _)] ⟨rfl, rfl, rfl, rfl, rfl, rfl, trivial⟩ ?_)
    | (refine ok_region (i := 7) ?_; refine ok_p rfl rfl rfl (by exact ps_move rfl rfl) ?_; refine ok_p rfl rfl rfl (by exact ps_move rfl rfl) ?_; refine ok_m rfl rfl rfl (by exact ms_lit rfl (parts_cons rfl parts_nil) rfl rfl rfl) ?_; rintro y30 hy30; refine ok_m rfl rfl rfl (by exact ms_appF (α := ByteArray) (L := O) (M := [x]) 1 rfl rfl rfl rfl (rds_row 0 rfl) rfl (by simp; omega) (by simp; omega)) ?_; rintro y31 hy31; refine ok_p rfl rfl rfl (by exact ps_assign rfl rfl) ?_; refine ok_nil ?_; refine ok_env [(0, _), (1, _), (5, _), (7, _)] ⟨rfl, rfl, rfl, rfl, trivial⟩ ?_)
    | (refine ok_region (i := 8) ?_; refine ok_p rfl rfl rfl (by exact ps_assign rfl rfl) ?_; refine ok_nil ?_; refine ok_env [(0, _), (1, _), (5, _), (6, _), (7, _)] ⟨rfl, rfl, rfl, rfl, rfl, trivial⟩ ?_)
    | (refine ok_region (i := 9) ?_; refine ok_p rfl rfl rfl (by exact ps_move rfl rfl) ?_; refine ok_p rfl rfl rfl (by exact ps_move rfl rfl) ?_; refine ok_p rfl rfl rfl (by exact ps_move rfl rfl) ?_; refine ok_p rfl rfl rfl (by exact ps_indexN rfl rfl rfl (by omega) (by exact isw_of (isS_fl (by assumption) (by omega)))) ?_; refine ok_p rfl rfl rfl (by exact ps_load rfl rfl (by exact Rds.cell (rds_rf (by assumption) (by exact List.mem_cons_self)) (by exact fl_at0 _ _ (by omega) (by decide)))) ?_; refine ok_m rfl rfl rfl (by exact ms_lit rfl (parts_cons rfl parts_nil) rfl rfl rfl) ?_; rintro y37 hy37; refine ok_m rfl rfl rfl (by first | exact ms_appF (α := ByteArray) (L := O) (M := [nth L i]) 1 rfl rfl rfl rfl (rds_row 0 rfl) rfl (by simp; omega) (by simp; omega) | exact ms_appN (α := ByteArray) (O ++ [x]) [nth L i] 2 rfl rfl rfl rfl (rds_row 0 rfl) rfl (by simp) rfl (by simp; omega) (by simp; omega)) ?_; rintro y38 hy38; refine ok_p rfl rfl rfl (by exact ps_assign rfl rfl) ?_; refine ok_nil ?_; refine ok_env [(0, _), (1, _), (5, _), (6, _), (7, _)] ⟨rfl, rfl, rfl, rfl, rfl, trivial⟩ ?_)
    | (refine ok_region (i := 10) ?_; refine ok_p rfl rfl rfl (by exact ps_move rfl rfl) ?_; refine ok_p rfl rfl rfl (by exact ps_not rfl rfl) ?_; refine ok_nil ?_; refine ok_env [(1, _), (5, _), (40, _)] ⟨rfl, rfl, rfl, trivial⟩ ?_)
    | (refine ok_region (i := 11) ?_; refine ok_p rfl rfl rfl (by exact ps_move rfl rfl) ?_; refine ok_p rfl rfl rfl (by exact ps_move rfl rfl) ?_; refine ok_m rfl rfl rfl (by exact ms_lit rfl (parts_cons rfl parts_nil) rfl rfl rfl) ?_; rintro y43 hy43; refine ok_m rfl rfl rfl (by exact ms_appF (α := ByteArray) (L := O) (M := [x]) 1 rfl rfl rfl rfl (rds_row 0 rfl) rfl (by simp; omega) (by simp; omega)) ?_; rintro y44 hy44; refine ok_p rfl rfl rfl (by exact ps_assign rfl rfl) ?_; refine ok_nil ?_; refine ok_env [(5, _)] ⟨rfl, trivial⟩ ?_)
    | (refine ok_region (i := 12) ?_; refine ok_p rfl rfl rfl (by exact ps_move rfl rfl) ?_; refine ok_p rfl rfl rfl (by exact ps_assign rfl rfl) ?_; refine ok_nil ?_; refine ok_env [(4, _)] ⟨rfl, trivial⟩ ?_))
  · have hb := hd
    have e1 : finS x (L.drop (i + 1)) true ((O ++ [x]) ++ [nth L i]) = insS L x := by
      have q := OK.out
      rw [dropS (j := i) (by omega), finS, if_pos hb] at q
      exact q
    refine fun a w' he hw => ⟨⟨i + 1, true, (O ++ [x]) ++ [nth L i], (y38 0).A, (y38 0).c, by have := hi.2.2 hb.1; simp; omega, e1⟩, by simp only; omega, he.sub ⟨rfl, rfl, by simp only [List.length_append]; rfl, rfl, rfl, trivial⟩, ?_⟩
    have := hw.tl.tl
    simp only [List.length_append] at this ⊢
    exact this
  · have hb : ¬ (b = false ∧ sLt x (nth L i) = true) := by
      rcases hd with h1 | h1
      · rw [h1]; simp
      · rw [h1]; simp
    have e1 : finS x (L.drop (i + 1)) b (O ++ [nth L i]) = insS L x := by
      have q := OK.out
      rw [dropS (j := i) (by omega), finS, if_neg hb] at q
      exact q
    refine fun a w' he hw => ⟨⟨i + 1, b, O ++ [nth L i], (y38 0).A, (y38 0).c, ⟨by omega, by simp; omega, fun h => by have := hi.2.2 h; simp; omega⟩, e1⟩, by simp only; omega, he.sub ⟨rfl, rfl, by simp only [List.length_append]; rfl, rfl, rfl, trivial⟩, ?_⟩
    have := hw.tl
    simp only [List.length_append] at this ⊢
    exact this
  all_goals
    have eD : L.drop i = [] := List.drop_of_length_le (by omega)
    have e2 := OK.out
    rw [eD, finS] at e2
  · rw [if_neg (by rw [hd]; decide)] at e2
    rw [← e2]
    refine ok_endL (vs := [_]) rfl ⟨rfl, trivial⟩ (fun w' hw => ⟨y44, by simp only [List.length_append]; rfl, trivial, hw.below, ?_⟩)
    have := NewOk.of (hw.sel [1] (by decide) rfl (G' := []) (fun _ h => by cases h))
    simp only [List.length_append] at this ⊢
    exact this
  · rw [if_pos hd] at e2
    rw [← e2]
    exact ok_endL (vs := [_]) rfl ⟨rfl, trivial⟩ (fun w' hw => ⟨mkY B e w', rfl, trivial, hw.below, NewOk.of (hw.sel [0] (by decide) rfl (G' := []) (fun _ h => by cases h))⟩)
/-- What is dropped, step by step. -/
def delK (bU : List KV) (aD bD : List ByteArray) (k : Nat) : List ByteArray := delF bU (aD.take k) bD
structure JdS (n : Nat) where
  k : Nat
  A : Option Addr
  c : Nat
  B : Option Addr
  d : Nat
  hk : k ≤ n
theorem delta_sorted {U : List KV} {D : List ByteArray} (h : deltaOk U D = true) : sortedK U := srtK_iff.2 (delta_srt h).1
theorem fnd_val {U : List KV} (hs : sortedK U) (k : ByteArray) : fndK U k = !decide (atK U k U.length 0 < 0) := by
  rw [fnd_dec hs]
  by_cases h : 0 ≤ atK U k U.length 0
  · simp [h]
  · simp [h]; omega
theorem joinD_yes {a b : DDelta} (ha : deltaOk a.U a.D = true) (hb : deltaOk b.U b.D = true) : fJoinDelta a b = ⟨joinU a b, delF b.U a.D b.D⟩ := by unfold fJoinDelta; rw [if_pos ⟨ha, hb⟩]
theorem joinD_no {a b : DDelta} (h : ¬ (deltaOk a.U a.D = true ∧ deltaOk b.U b.D = true)) : fJoinDelta a b = ⟨[], []⟩ := by unfold fJoinDelta; rw [if_neg h]
theorem delta_nil (n : Nat) (w : World) : NewOk n (Delta_obj ⟨[], []⟩ (mkY none 0 w)) [] w := by
  refine ⟨fun x hx => ?_, ?_, fun m h => (by cases h)⟩
  · simp only [Delta_obj, List.mem_cons, List.mem_nil_iff, or_false] at hx
    rcases hx with rfl | rfl
    · exact Own.nil w n _ _
    · exact Own.nil w n _ _
  · simp only [Delta_obj, List.pairwise_cons, List.mem_cons, List.mem_nil_iff, or_false, List.Pairwise.nil, and_true]
    refine ⟨fun y hy => ?_, fun y hy => (by cases hy)⟩
    subst hy
    intro k hk
    cases hk
attribute [local irreducible] deltaOk mapOk dropsF putsF delF
theorem s_JoinDelta (a : DDelta) (Y0 : Ys) (b : DDelta) (Y1 : Ys) (w : World) (h0 : Delta_rd w a Y0) (h1 : Delta_rd w b Y1) (s0 : Delta_sm a) (s1 : Delta_sm b) :
    Calls Try.prog 62 #[Delta_val a Y0, Delta_val b Y1] w fun e w' => ∃ y : Ys, e = .returned (Delta_val (fJoinDelta a b) y) ∧ True ∧ Below w.heap.size w w' ∧ NewOk w.heap.size (Delta_obj (fJoinDelta a b) y) [] w' := by
  obtain ⟨aU, aD⟩ := a
  obtain ⟨bU, bD⟩ := b
  have m0 := s0.1.1
  have m1 := s0.2.1
  have m2 := s1.1.1
  have m3 := s1.2.1
  obtain ⟨hU, hD⟩ := h0
  obtain ⟨gU, gD⟩ := h1
  simp only at m0 m1 m2 m3 hU hD gU gD
  clear s0 s1
  refine ok_enter 90 Try.func62 rfl rfl rfl ?_
  repeat' (first
    | refine ok_seq ?_
    | refine ok_then ?_
    | refine ok_then_ret ?_
    | refine ok_block ?_
    | (refine ok_cond rfl (fun hc => ?_) (fun hc => ?_) <;> (have hd := hc; (try simp only [decide_eq_true_eq, decide_eq_false_iff_not, Bool.or_eq_true, Bool.or_eq_false_iff, Bool.and_eq_true, Bool.and_eq_false_iff, Bool.not_eq_true', Bool.not_eq_false', bne_iff_ne, beq_iff_eq, bne_eq_false_iff_eq, beq_eq_false_iff_ne, ne_eq, Bool.not_true, Bool.not_false, Bool.false_eq_true, Bool.true_eq_false, inB_true, inB_false] at hd)))
    | refine ok_ret ?_
    | refine ok_skip ?_
    | (refine ok_region (i := 0) ?_; refine ok_m rfl rfl rfl (by exact ms_box rfl rfl rfl) ?_; rintro y2 hy2; refine ok_m rfl rfl rfl (by exact ms_box rfl rfl rfl) ?_; rintro y3 hy3; refine ok_m rfl rfl rfl (by exact ms_alloc rfl) ?_; rintro y4 hy4; refine ok_nil ?_; refine ok_env [(2, _), (3, _), (4, _)] ⟨rfl, rfl, rfl, trivial⟩ ?_)
    | (refine ok_region (i := 1) ?_; refine ok_p rfl rfl rfl (by exact ps_loads rfl rfl (by exact rds_box 2 rfl) rfl rfl (by decide)) ?_; refine ok_m rfl rfl rfl (by exact ms_s1 rfl rfl (fun _ _ w hw => s_DeltaOk _ _ _ _ aU aD w (rds_rf hU (by exact List.mem_cons_self) _ _ w hw) (rds_rf hD (by exact List.mem_cons_self) _ _ w hw) m0 m1)) ?_; rintro y11 hy11; refine ok_p rfl rfl rfl (by exact ps_not rfl rfl) ?_; refine ok_p rfl rfl rfl (by exact ps_move rfl rfl) ?_; refine ok_pg rfl rfl rfl rfl rfl (gF _) (fun hp => by (have hpd := hp; (try simp only [decide_eq_true_eq, decide_eq_false_iff_not, Bool.or_eq_true, Bool.or_eq_false_iff, Bool.and_eq_true, Bool.and_eq_false_iff, Bool.not_eq_true', Bool.not_eq_false', bne_iff_ne, beq_iff_eq, bne_eq_false_iff_eq, beq_eq_false_iff_ne, ne_eq, Bool.not_true, Bool.not_false, Bool.false_eq_true, Bool.true_eq_false, inB_true, inB_false] at hpd); exact ps_loads rfl (by exact rfl) (by exact rds_box 1 rfl) rfl rfl (by decide))) ?_; refine ok_mg rfl rfl rfl rfl rfl (gF _) (fun hp => by (have hpd := hp; (try simp only [decide_eq_true_eq, decide_eq_false_iff_not, Bool.or_eq_true, Bool.or_eq_false_iff, Bool.and_eq_true, Bool.and_eq_false_iff, Bool.not_eq_true', Bool.not_eq_false', bne_iff_ne, beq_iff_eq, bne_eq_false_iff_eq, beq_eq_false_iff_ne, ne_eq, Bool.not_true, Bool.not_false, Bool.false_eq_true, Bool.true_eq_false, inB_true, inB_false] at hpd); exact ms_s1 rfl (by (refine og rfl ?_; assumption)) (fun _ _ w hw => s_DeltaOk _ _ _ _ bU bD w (rds_rf gU (by exact List.mem_cons_self) _ _ w hw) (rds_rf gD (by exact List.mem_cons_self) _ _ w hw) m2 m3))) ?_; refine ok_pg rfl rfl rfl rfl rfl (gF _) (fun hp => by (have hpd := hp; (try simp only [decide_eq_true_eq, decide_eq_false_iff_not, Bool.or_eq_true, Bool.or_eq_false_iff, Bool.and_eq_true, Bool.and_eq_false_iff, Bool.not_eq_true', Bool.not_eq_false', bne_iff_ne, beq_iff_eq, bne_eq_false_iff_eq, beq_eq_false_iff_ne, ne_eq, Bool.not_true, Bool.not_false, Bool.false_eq_true, Bool.true_eq_false, inB_true, inB_false] at hpd); exact ps_not rfl (by (refine og rfl ?_; assumption)))) ?_; refine ok_p rfl rfl rfl (by exact ps_or rfl rfl rfl) ?_; refine ok_nil ?_; refine ok_env [(2, _), (3, _), (4, _), (17, _)] ⟨rfl, rfl, rfl, rfl, trivial⟩ ?_)
    | (refine ok_region (i := 2) ?_; refine ok_p rfl rfl rfl (by exact ps_bld rfl parts_nil rfl) ?_; refine ok_m_ rfl rfl (by exact ms_store 0 rfl rfl rfl rfl rfl rfl rfl rfl) ?_; rintro y_ hy_; refine ok_nil ?_; refine ok_env [(4, _)] ⟨rfl, trivial⟩ ?_)
    | (refine ok_region (i := 3) ?_; refine ok_m rfl rfl rfl (by exact ms_lit rfl parts_nil rfl rfl rfl) ?_; rintro y19 hy19; refine ok_p rfl rfl rfl (by exact ps_field rfl rfl (by exact isw_ga _)) ?_; refine ok_p rfl rfl rfl (by exact ps_load rfl rfl (by exact Rds.cell (rds_box 3 rfl) rfl)) ?_; refine ok_m rfl rfl rfl (by exact ms_app0 (M := aU) 0 rfl rfl rfl rfl (rds_rf hU (by exact List.mem_cons_self)) rfl (by omega) (by omega)) ?_; rintro y22 hy22; refine ok_p rfl rfl rfl (by exact ps_assign rfl rfl) ?_; refine ok_nil ?_; refine ok_env [(2, _), (3, _), (4, _), (5, _)] ⟨rfl, rfl, rfl, rfl, trivial⟩ ?_)
    | (refine ok_region (i := 4) ?_; refine ok_p rfl rfl rfl (by exact ps_assign rfl rfl) ?_; refine ok_nil ?_; refine ok_env [(2, _), (3, _), (4, _), (5, _), (6, _)] ⟨rfl, rfl, rfl, rfl, rfl, trivial⟩ ?_))
  · rw [joinD_no (by rintro ⟨q1, q2⟩; rcases hd with h | h <;> simp [h] at q1 q2)]
    refine ok_endL (vs := [_]) rfl ⟨⟨_, 0, _, _, _, rfl, rfl, inferInstance, rfl, rfl⟩, trivial⟩ (fun w' hw => ?_)
    exact ⟨mkY none 0 w', rfl, trivial, hw.below, delta_nil _ _⟩
  have hda : deltaOk aU aD = true := hd.1
  have hdb : deltaOk bU bD = true := hd.2
  rw [joinD_yes hda hdb]
  have hsb := delta_sorted hdb
  clear hc hd
  have e0 : dropsF (bD.take 0) aU = aU := by unfold dropsF; rw [List.take_zero]; rfl
  refine ok_loop (ι := ApI bD.length) (fun q => bD.length - q.k) (fun q => ([(2, pt (ga (y2 0).c) 0), (3, pt (ga (y3 0).c) 0), (4, pt (ga (y4 0).c) 0), (5, .slice q.A (dropsF (bD.take q.k) aU).length q.c), (6, .int .i64 q.k)], [.row 67 2 q.A (dropsF (bD.take q.k) aU).length q.c (fl (dropsF (bD.take q.k) aU)), _, _, _], _)) ⟨0, none, 0, by omega⟩ (fun a' w he hw => ⟨⟨0, _, _, by omega⟩, he.sub ⟨rfl, rfl, rfl, by rw [e0]; rfl, rfl, trivial⟩, by rw [e0]; exact hw⟩) ?_
  rintro ⟨k, A, c, hk⟩
  simp only at hk ⊢
  have hlk := drops_len (bD.take k) aU
  repeat' (first
    | refine ok_seq ?_
    | refine ok_then ?_
    | refine ok_block ?_
    | refine ok_in_normal ?_
    | (refine ok_cond rfl (fun hc => ?_) (fun hc => ?_) <;> (have hd := hc; (try simp only [decide_eq_true_eq, decide_eq_false_iff_not, Bool.or_eq_true, Bool.or_eq_false_iff, Bool.and_eq_true, Bool.and_eq_false_iff, Bool.not_eq_true', Bool.not_eq_false', bne_iff_ne, beq_iff_eq, bne_eq_false_iff_eq, beq_eq_false_iff_ne, ne_eq, Bool.not_true, Bool.not_false, Bool.false_eq_true, Bool.true_eq_false, inB_true, inB_false] at hd)))
    | refine ok_exit ?_
    | refine ok_skip ?_
    | (refine ok_region (i := 5) ?_; refine ok_p rfl rfl rfl (by exact ps_move rfl rfl) ?_; refine ok_p rfl rfl rfl (by exact ps_field rfl rfl (by exact isw_ga _)) ?_; refine ok_p rfl rfl rfl (by exact ps_load rfl rfl (by exact Rds.cell (rds_box 2 rfl) rfl)) ?_; refine ok_p rfl rfl rfl (by exact ps_len rfl rfl) ?_; refine ok_p rfl rfl rfl (by exact ps_int rfl rfl rfl rfl) ?_; refine ok_nil ?_; refine ok_env [(2, _), (3, _), (4, _), (5, _), (6, _), (27, _)] ⟨rfl, rfl, rfl, rfl, rfl, rfl, trivial⟩ ?_)
    | (refine ok_region (i := 6) ?_; refine ok_p rfl rfl rfl (by exact ps_move rfl rfl) ?_; refine ok_p rfl rfl rfl (by exact ps_add rfl rfl rfl (by omega)) ?_; refine ok_p rfl rfl rfl (by exact ps_assign rfl rfl) ?_; refine ok_nil ?_; refine ok_env [(2, _), (3, _), (4, _), (5, _), (6, _)] ⟨rfl, rfl, rfl, rfl, rfl, trivial⟩ ?_)
    | (refine ok_region (i := 7) ?_; refine ok_p rfl rfl rfl (by exact ps_move rfl rfl) ?_; refine ok_p rfl rfl rfl (by exact ps_field rfl rfl (by exact isw_ga _)) ?_; refine ok_p rfl rfl rfl (by exact ps_load rfl rfl (by exact Rds.cell (rds_box 2 rfl) rfl)) ?_; refine ok_p rfl rfl rfl (by exact ps_move rfl rfl) ?_; refine ok_p rfl rfl rfl (by exact ps_indexN rfl rfl rfl (by omega) (by exact isw_of (isS_fl (by assumption) (by omega)))) ?_; refine ok_p rfl rfl rfl (by exact ps_load rfl rfl (by exact Rds.cell (rds_rf (by assumption) (by exact List.mem_cons_self)) (by exact fl_at0 _ _ (by omega) (by decide)))) ?_; refine ok_p rfl rfl rfl (by exact ps_bld rfl (parts_cons rfl (parts_cons rfl parts_nil)) rfl) ?_; refine ok_m rfl rfl rfl (by exact ms_c2 rfl rfl rfl (fun _ _ w hw => s_put_del A c (dropsF (bD.take k) aU) (nth bD k) w (rds_row 0 rfl _ _ w hw) (by omega))) ?_; rintro y37 hy37; refine ok_p rfl rfl rfl (by exact ps_assign rfl rfl) ?_; refine ok_nil ?_; refine ok_env [(2, _), (3, _), (4, _), (5, _), (6, _)] ⟨rfl, rfl, rfl, rfl, rfl, trivial⟩ ?_)
    | (refine ok_region (i := 8) ?_; refine ok_p rfl rfl rfl (by exact ps_assign rfl rfl) ?_; refine ok_nil ?_; refine ok_env [(2, _), (3, _), (4, _), (5, _), (7, _)] ⟨rfl, rfl, rfl, rfl, rfl, trivial⟩ ?_))
  · rw [← drops_step (by omega)]
    exact fun a' w' he hw => ⟨⟨k + 1, _, _, by omega⟩, by simp only; omega, he.sub ⟨rfl, rfl, rfl, rfl, rfl, trivial⟩, hw.sel [0, 2, 3, 4] (by decide) rfl (fun _ h => h)⟩
  obtain rfl : k = bD.length := by omega
  rw [drops_all] at hlk ⊢
  generalize hM : dropsF bD aU = M at hlk ⊢
  have e1 : putsF (bU.take 0) M = M := by unfold putsF; rw [List.take_zero]; rfl
  refine ok_loop (ι := ApI bU.length) (fun q => bU.length - q.k) (fun q => ([(2, pt (ga (y2 0).c) 0), (3, pt (ga (y3 0).c) 0), (4, pt (ga (y4 0).c) 0), (5, .slice q.A (putsF (bU.take q.k) M).length q.c), (7, .int .i64 q.k)], [.row 67 2 q.A (putsF (bU.take q.k) M).length q.c (fl (putsF (bU.take q.k) M)), _, _, _], _)) ⟨0, none, 0, by omega⟩ (fun a' w he hw => ⟨⟨0, _, _, by omega⟩, he.sub ⟨rfl, rfl, rfl, by rw [e1]; rfl, rfl, trivial⟩, by rw [e1]; exact hw⟩) ?_
  rintro ⟨k, A, c, hk2⟩
  simp only at hk2 ⊢
  have hlu := puts_len (bU.take k) M
  have hlt : (bU.take k).length ≤ bU.length := by rw [List.length_take]; omega
  repeat' (first
    | refine ok_seq ?_
    | refine ok_then ?_
    | refine ok_block ?_
    | refine ok_in_normal ?_
    | (refine ok_cond rfl (fun hc => ?_) (fun hc => ?_) <;> (have hd := hc; (try simp only [decide_eq_true_eq, decide_eq_false_iff_not, Bool.or_eq_true, Bool.or_eq_false_iff, Bool.and_eq_true, Bool.and_eq_false_iff, Bool.not_eq_true', Bool.not_eq_false', bne_iff_ne, beq_iff_eq, bne_eq_false_iff_eq, beq_eq_false_iff_ne, ne_eq, Bool.not_true, Bool.not_false, Bool.false_eq_true, Bool.true_eq_false, inB_true, inB_false] at hd)))
    | refine ok_exit ?_
    | refine ok_skip ?_
    | (refine ok_region (i := 9) ?_; refine ok_p rfl rfl rfl (by exact ps_move rfl rfl) ?_; refine ok_p rfl rfl rfl (by exact ps_field rfl rfl (by exact isw_ga _)) ?_; refine ok_p rfl rfl rfl (by exact ps_load rfl rfl (by exact Rds.cell (rds_box 2 rfl) rfl)) ?_; refine ok_p rfl rfl rfl (by exact ps_len rfl rfl) ?_; refine ok_p rfl rfl rfl (by exact ps_int rfl rfl rfl rfl) ?_; refine ok_nil ?_; refine ok_env [(2, _), (3, _), (4, _), (5, _), (7, _), (42, _)] ⟨rfl, rfl, rfl, rfl, rfl, rfl, trivial⟩ ?_)
    | (refine ok_region (i := 10) ?_; refine ok_p rfl rfl rfl (by exact ps_move rfl rfl) ?_; refine ok_p rfl rfl rfl (by exact ps_add rfl rfl rfl (by omega)) ?_; refine ok_p rfl rfl rfl (by exact ps_assign rfl rfl) ?_; refine ok_nil ?_; refine ok_env [(2, _), (3, _), (4, _), (5, _), (7, _)] ⟨rfl, rfl, rfl, rfl, rfl, trivial⟩ ?_)
    | (refine ok_draw (id := 11) 16 rfl (by kernel_rfl) (by kernel_rfl) rfl (by repeat (first | exact pq_body | refine pq_then ?_ | refine pq_in ?_)) [0, 1, 2, 3, 4, 5, 6, 7, 8, 9, 10, 11, 12, 13, 14, 15, 16, 17, 18, 19, 20, 21, 22, 23] (by decide) rfl ?_; refine okT_take (i := 0) rfl (by kernel_rfl) rfl rfl rfl (by exact ps_move rfl rfl) ?_; refine okT_take (i := 1) rfl (by kernel_rfl) rfl rfl rfl (by exact ps_field rfl rfl (by exact isw_ga _)) ?_; refine okT_take (i := 2) rfl (by kernel_rfl) rfl rfl rfl (by exact ps_load rfl rfl (by exact Rds.cell (rds_box 2 rfl) rfl)) ?_; refine okT_take (i := 3) rfl (by kernel_rfl) rfl rfl rfl (by exact ps_move rfl rfl) ?_; refine okT_take (i := 4) rfl (by kernel_rfl) rfl rfl rfl (by exact ps_indexN rfl rfl rfl (by omega) (by exact isw_of (isS_fl (by assumption) (by omega)))) ?_; refine okT_take (i := 5) rfl (by kernel_rfl) rfl rfl rfl (by exact ps_field rfl rfl (by exact isw_of (isS_fl (by assumption) (by omega)))) ?_; refine okT_take (i := 6) rfl (by kernel_rfl) rfl rfl rfl (by exact ps_load rfl rfl (by exact Rds.cell (rds_rf (by assumption) (by exact List.mem_cons_self)) (by exact fl_at0 _ _ (by omega) (by decide)))) ?_; refine okT_take (i := 7) rfl (by kernel_rfl) rfl rfl rfl (by exact ps_field rfl rfl (by exact isw_ga _)) ?_; refine okT_take (i := 8) rfl (by kernel_rfl) rfl rfl rfl (by exact ps_load rfl rfl (by exact Rds.cell (rds_box 2 rfl) rfl)) ?_; refine okT_take (i := 9) rfl (by kernel_rfl) rfl rfl rfl (by exact ps_move rfl rfl) ?_; refine okT_take (i := 10) rfl (by kernel_rfl) rfl rfl rfl (by exact ps_indexN rfl rfl rfl (by omega) (by exact isw_of (isS_fl (by assumption) (by omega)))) ?_; refine okT_take (i := 11) rfl (by kernel_rfl) rfl rfl rfl (by exact ps_field rfl rfl (by exact isw_of (isS_fl (by assumption) (by omega)))) ?_; refine okT_take (i := 12) rfl (by kernel_rfl) rfl rfl rfl (by exact ps_load rfl rfl (by exact Rds.cell (rds_rf (by assumption) (by exact List.mem_cons_self)) (by exact fl_at _ _ _ (by omega) (by decide)))) ?_; refine okT_take (i := 13) rfl (by kernel_rfl) rfl rfl rfl (by exact ps_bld rfl (parts_cons rfl (parts_cons rfl parts_nil)) rfl) ?_; refine okT_one (i := 14) rfl rfl (by kernel_rfl) rfl rfl rfl (by exact ms_c2 rfl rfl rfl (fun _ _ w hw => s_put_put A c (putsF (bU.take k) M) (nth bU k).key (nth bU k).val w (rds_row 0 rfl _ _ w hw) (by omega))) (fun y w _ h => by exact h.tl) ?_; rintro y59 hy59; refine okT_take (i := 15) rfl (by kernel_rfl) rfl rfl rfl (by exact ps_assign rfl rfl) ?_; refine okT_done (by kernel_rfl) ?_; refine ok_nil ?_; refine ok_env [(2, _), (3, _), (4, _), (5, _), (7, _)] ⟨rfl, rfl, rfl, rfl, rfl, trivial⟩ ?_)
    | (refine ok_region (i := 12) ?_; refine ok_m rfl rfl rfl (by exact ms_lit rfl parts_nil rfl rfl rfl) ?_; rintro y60 hy60; refine ok_p rfl rfl rfl (by exact ps_field rfl rfl (by exact isw_ga _)) ?_; refine ok_p rfl rfl rfl (by exact ps_load rfl rfl (by exact Rds.cell (rds_box 3 rfl) rfl)) ?_; refine ok_m rfl rfl rfl (by exact ms_app0 (M := bD) 0 rfl rfl rfl rfl (rds_rf gD (by exact List.mem_cons_self)) rfl (by omega) (by omega)) ?_; rintro y63 hy63; refine ok_p rfl rfl rfl (by exact ps_assign rfl rfl) ?_; refine ok_nil ?_; refine ok_env [(2, _), (3, _), (4, _), (5, _), (8, _)] ⟨rfl, rfl, rfl, rfl, rfl, trivial⟩ ?_)
    | (refine ok_region (i := 13) ?_; refine ok_p rfl rfl rfl (by exact ps_assign rfl rfl) ?_; refine ok_nil ?_; refine ok_env [(2, _), (3, _), (4, _), (5, _), (8, _), (9, _)] ⟨rfl, rfl, rfl, rfl, rfl, rfl, trivial⟩ ?_))
  · rw [← puts_step (by omega)]
    exact fun a' w' he hw => ⟨⟨k + 1, _, _, by omega⟩, by simp only; omega, he.sub ⟨rfl, rfl, rfl, rfl, rfl, trivial⟩, hw.sel [0, 2, 3, 4] (by decide) rfl (fun _ h => h)⟩
  obtain rfl : k = bU.length := by omega
  rw [puts_all, ← hM]
  rw [show putsF bU (dropsF bD aU) = joinU ⟨aU, aD⟩ ⟨bU, bD⟩ from rfl]
  generalize hJ : joinU ⟨aU, aD⟩ ⟨bU, bD⟩ = J
  have e2 : delF bU (aD.take 0) bD = bD := by unfold delF; rw [List.take_zero]; rfl
  refine ok_loop (ι := ApI aD.length) (fun q => aD.length - q.k) (fun q => ([(2, pt (ga (y2 0).c) 0), (3, pt (ga (y3 0).c) 0), (4, pt (ga (y4 0).c) 0), (5, .slice A J.length c), (8, .slice q.A (delF bU (aD.take q.k) bD).length q.c), (9, .int .i64 q.k)], [.row 9 1 q.A (delF bU (aD.take q.k) bD).length q.c (fl (delF bU (aD.take q.k) bD)), _, _, _, _], _)) ⟨0, none, 0, by omega⟩ (fun a' w he hw => ⟨⟨0, _, _, by omega⟩, he.sub ⟨rfl, rfl, rfl, rfl, by rw [e2]; rfl, rfl, trivial⟩, by rw [e2]; exact hw⟩) ?_
  rintro ⟨k, B, d, hk3⟩
  simp only at hk3 ⊢
  have hld := delF_len bU (aD.take k) bD
  have hlt2 : (aD.take k).length ≤ aD.length := by rw [List.length_take]; omega
  repeat' (first
    | refine ok_seq ?_
    | refine ok_then ?_
    | refine ok_block ?_
    | refine ok_in_normal ?_
    | (refine ok_cond rfl (fun hc => ?_) (fun hc => ?_) <;> (have hd := hc; (try simp only [decide_eq_true_eq, decide_eq_false_iff_not, Bool.or_eq_true, Bool.or_eq_false_iff, Bool.and_eq_true, Bool.and_eq_false_iff, Bool.not_eq_true', Bool.not_eq_false', bne_iff_ne, beq_iff_eq, bne_eq_false_iff_eq, beq_eq_false_iff_ne, ne_eq, Bool.not_true, Bool.not_false, Bool.false_eq_true, Bool.true_eq_false, inB_true, inB_false] at hd)))
    | refine ok_ret ?_
    | refine ok_exit ?_
    | refine ok_skip ?_
    | (refine ok_region (i := 14) ?_; refine ok_p rfl rfl rfl (by exact ps_move rfl rfl) ?_; refine ok_p rfl rfl rfl (by exact ps_field rfl rfl (by exact isw_ga _)) ?_; refine ok_p rfl rfl rfl (by exact ps_load rfl rfl (by exact Rds.cell (rds_box 4 rfl) rfl)) ?_; refine ok_p rfl rfl rfl (by exact ps_len rfl rfl) ?_; refine ok_p rfl rfl rfl (by exact ps_int rfl rfl rfl rfl) ?_; refine ok_nil ?_; refine ok_env [(2, _), (3, _), (4, _), (5, _), (8, _), (9, _), (68, _)] ⟨rfl, rfl, rfl, rfl, rfl, rfl, rfl, trivial⟩ ?_)
    | (refine ok_region (i := 15) ?_; refine ok_p rfl rfl rfl (by exact ps_move rfl rfl) ?_; refine ok_p rfl rfl rfl (by exact ps_add rfl rfl rfl (by omega)) ?_; refine ok_p rfl rfl rfl (by exact ps_assign rfl rfl) ?_; refine ok_nil ?_; refine ok_env [(2, _), (3, _), (4, _), (5, _), (8, _), (9, _)] ⟨rfl, rfl, rfl, rfl, rfl, rfl, trivial⟩ ?_)
    | (refine ok_draw (id := 16) 9 rfl (by kernel_rfl) (by kernel_rfl) rfl (by repeat (first | exact pq_body | refine pq_then ?_ | refine pq_in ?_)) [0, 1, 2, 3, 4, 5, 6, 7, 8, 9, 10, 11, 12, 13, 14, 15, 16, 17, 18, 19, 20, 21, 22, 23] (by decide) rfl ?_; refine okT_take (i := 0) rfl (by kernel_rfl) rfl rfl rfl (by exact ps_field rfl rfl (by exact isw_ga _)) ?_; refine okT_take (i := 1) rfl (by kernel_rfl) rfl rfl rfl (by exact ps_load rfl rfl (by exact Rds.cell (rds_box 3 rfl) rfl)) ?_; refine okT_take (i := 2) rfl (by kernel_rfl) rfl rfl rfl (by exact ps_field rfl rfl (by exact isw_ga _)) ?_; refine okT_take (i := 3) rfl (by kernel_rfl) rfl rfl rfl (by exact ps_load rfl rfl (by exact Rds.cell (rds_box 4 rfl) rfl)) ?_; refine okT_take (i := 4) rfl (by kernel_rfl) rfl rfl rfl (by exact ps_move rfl rfl) ?_; refine okT_take (i := 5) rfl (by kernel_rfl) rfl rfl rfl (by exact ps_indexN rfl rfl rfl (by omega) (by exact isw_of (isS_fl (by assumption) (by omega)))) ?_; refine okT_take (i := 6) rfl (by kernel_rfl) rfl rfl rfl (by exact ps_load rfl rfl (by exact Rds.cell (rds_rf (by assumption) (by exact List.mem_cons_self)) (by exact fl_at0 _ _ (by omega) (by decide)))) ?_; refine okT_one (i := 7) rfl rfl (by kernel_rfl) rfl rfl rfl (by exact ms_s2 rfl rfl rfl (fun _ _ w hw => s_l35Val _ _ bU (nth aD k) w (rds_rf gU (by exact List.mem_cons_self) _ _ w hw) m2)) (fun y w _ h => by exact h) ?_; rintro y78 hy78; refine okT_take (i := 8) rfl (by kernel_rfl) rfl rfl rfl (by exact ps_int rfl rfl rfl rfl) ?_; refine okT_done (by kernel_rfl) ?_; refine ok_nil ?_; refine ok_env [(2, _), (3, _), (4, _), (5, _), (8, _), (9, _), (79, _)] ⟨rfl, rfl, rfl, rfl, rfl, rfl, rfl, trivial⟩ ?_)
    | (refine ok_region (i := 17) ?_; refine ok_p rfl rfl rfl (by exact ps_move rfl rfl) ?_; refine ok_p rfl rfl rfl (by exact ps_field rfl rfl (by exact isw_ga _)) ?_; refine ok_p rfl rfl rfl (by exact ps_load rfl rfl (by exact Rds.cell (rds_box 4 rfl) rfl)) ?_; refine ok_p rfl rfl rfl (by exact ps_move rfl rfl) ?_; refine ok_p rfl rfl rfl (by exact ps_indexN rfl rfl rfl (by omega) (by exact isw_of (isS_fl (by assumption) (by omega)))) ?_; refine ok_p rfl rfl rfl (by exact ps_load rfl rfl (by exact Rds.cell (rds_rf (by assumption) (by exact List.mem_cons_self)) (by exact fl_at0 _ _ (by omega) (by decide)))) ?_; refine ok_m rfl rfl rfl (by exact ms_c2 rfl rfl rfl (fun _ _ w hw => s_l35Put_c B d (delF bU (aD.take k) bD) (nth aD k) w (rds_row 0 rfl _ _ w hw) (by omega))) ?_; rintro y86 hy86; refine ok_p rfl rfl rfl (by exact ps_assign rfl rfl) ?_; refine ok_nil ?_; refine ok_env [(2, _), (3, _), (4, _), (5, _), (8, _), (9, _)] ⟨rfl, rfl, rfl, rfl, rfl, rfl, trivial⟩ ?_)
    | (refine ok_region (i := 18) ?_; refine ok_p rfl rfl rfl (by exact ps_move rfl rfl) ?_; refine ok_p rfl rfl rfl (by exact ps_move rfl rfl) ?_; refine ok_p rfl rfl rfl (by exact ps_bld rfl (parts_cons rfl (parts_cons rfl parts_nil)) rfl) ?_; refine ok_m_ rfl rfl (by exact ms_store 2 rfl rfl rfl rfl rfl rfl rfl rfl) ?_; rintro y_ hy_; refine ok_nil ?_; refine ok_env [(4, _)] ⟨rfl, trivial⟩ ?_))
  · have e3 := delF_step (bU := bU) (bD := bD) (show k < aD.length by omega)
    rw [if_neg (by rw [fnd_val hsb, hc]; decide)] at e3
    rw [← e3]
    exact fun a' w' he hw => ⟨⟨k + 1, _, _, by omega⟩, by simp only; omega, he.sub ⟨rfl, rfl, rfl, rfl, rfl, rfl, trivial⟩, hw.sel [0, 2, 3, 4, 5] (by decide) rfl (fun _ h => h)⟩
  · have e3 := delF_step (bU := bU) (bD := bD) (show k < aD.length by omega)
    rw [if_pos (by rw [fnd_val hsb, hc]; decide)] at e3
    rw [← e3]
    exact fun a' w' he hw => ⟨⟨k + 1, _, _, by omega⟩, by simp only; omega, he.sub ⟨rfl, rfl, rfl, rfl, rfl, rfl, trivial⟩, hw⟩
  · obtain rfl : k = aD.length := by omega
    rw [List.take_length] at *
    refine ok_endL (vs := [_]) rfl ⟨⟨_, 2, _, _, _, rfl, rfl, inferInstance, rfl, rfl⟩, trivial⟩ (fun w' hw => ?_)
    exact ⟨yl [⟨A, c, w', 0⟩, ⟨B, d, w', 0⟩] ⟨A, c, w', 0⟩, rfl, trivial, hw.below, NewOk.of (hw.sel [1, 0] (by decide) rfl (G' := []) (fun _ h => by cases h))⟩
theorem deltaC_nil (n : Nat) (w : World) : NewOk n (DeltaC_obj ⟨[], []⟩ (mkY none 0 w)) [] w := delta_nil n w
theorem two_rd {w w0 : World} {base : Nat} {H : List HObj} {G : List World} {A A1 A2 : Option Addr} {n1 c1 n2 c2 e n c : Nat} {us : List Value} (hw : WOk base w0 H G w) (i : Nat) (hi : H[i]? = some (.row e 1 A n c us)) (hu : us = [.slice A1 n1 c1, .slice A2 n2 c2]) : Rd w A [.slice A1 n1 c1, .slice A2 n2 c2] := by
  have := hw.row i hi
  rwa [hu] at this
theorem srtB_mem (L : List ByteArray) (x : ByteArray) : x ∈ srtB L ↔ x ∈ L := by
  unfold srtB
  rw [List.mem_map]
  constructor
  · rintro ⟨l, hl, rfl⟩
    rw [List.mem_mergeSort, List.mem_map] at hl
    obtain ⟨y, hy, rfl⟩ := hl
    exact hy
  · intro hx
    exact ⟨ofB x, by rw [List.mem_mergeSort]; exact List.mem_map.2 ⟨x, hx, rfl⟩, rfl⟩
theorem srtB_len (L : List ByteArray) : (srtB L).length = L.length := by simp [srtB]
theorem srtB_le (L : List ByteArray) : leS (srtB L) := by
  unfold leS srtB
  rw [List.pairwise_map]
  have h := List.pairwise_mergeSort (le := fun x y : List UInt8 => decide (x ≤ y)) (fun a b c h1 h2 => by
    simp only [decide_eq_true_eq] at h1 h2 ⊢
    exact List.le_trans h1 h2) (fun a b => by
    simp only [Bool.or_eq_true, decide_eq_true_eq]
    exact List.le_total a b) (L.map ofB)
  refine h.imp fun {a b} hab => ?_
  have hab : a ≤ b := by simpa using hab
  cases hs : sLt (toB b) (toB a) with
  | false => rfl
  | true =>
    rw [sLt_iff] at hs
    have e1 : (toB b).toList = b := by simp [toB, ByteArray.toList_eq]
    have e2 : (toB a).toList = a := by simp [toB, ByteArray.toList_eq]
    rw [e1, e2] at hs
    exact absurd hs (List.not_lt.2 hab)
theorem compact_n (A : Option Addr) (c : Nat) (L : List ByteArray) (n : Nat) (hn : n = L.length) (hl : n ≤ 8388608) {base : Nat} {w0 w : World} {H : List HObj} {G : List World} (hw : WOk base w0 (.row 9 1 A n c (fl L) :: H) G w) :
    Calls Try.prog 139 #[.slice A n c] w fun e w' => ∃ y : Ys, e = .returned (.slice A (onceS L).length c) ∧ True ∧ WOk base w0 (.row 9 1 A (onceS L).length c (fl (onceS L)) :: H) G w' := by
  subst hn; exact compact_c A c L hl hw
def keepJ (J : List KV) (x : ByteArray) : Bool := !fndK J x
theorem filt_step {E : List ByteArray} {J : List KV} {k : Nat} (h : k < E.length) : (E.take (k + 1)).filter (keepJ J) = if keepJ J (nth E k) = true then (E.take k).filter (keepJ J) ++ [nth E k] else (E.take k).filter (keepJ J) := by
  rw [takeG h, List.filter_append, List.filter_cons]
  split
  · rfl
  · simp
theorem i_JoinDelta (a : DDelta) (Y0 : Ys) (b : DDelta) (Y1 : Ys) (w : World) (h0 : Delta_rd w a Y0) (h1 : Delta_rd w b Y1) (s0 : Delta_sm a) (s1 : Delta_sm b) :
    Calls Try.prog 60 #[Delta_val a Y0, Delta_val b Y1] w fun e w' => ∃ y : Ys, e = .returned (Delta_val (fJoinDelta a b) y) ∧ True ∧ Below w.heap.size w w' ∧ NewOk w.heap.size (DeltaC_obj (fJoinDelta a b) y) [] w' := by
  obtain ⟨aU, aD⟩ := a
  obtain ⟨bU, bD⟩ := b
  have m0 := s0.1.1
  have m1 := s0.2.1
  have m2 := s1.1.1
  have m3 := s1.2.1
  obtain ⟨hU, hD⟩ := h0
  obtain ⟨gU, gD⟩ := h1
  simp only at m0 m1 m2 m3 hU hD gU gD
  clear s0 s1
  refine ok_enter 92 Try.func60 rfl rfl rfl ?_
  repeat' (first
    | refine ok_seq ?_
    | refine ok_then ?_
    | refine ok_then_ret ?_
    | refine ok_block ?_
    | (refine ok_cond rfl (fun hc => ?_) (fun hc => ?_) <;> (have hd := hc; (try simp only [decide_eq_true_eq, decide_eq_false_iff_not, Bool.or_eq_true, Bool.or_eq_false_iff, Bool.and_eq_true, Bool.and_eq_false_iff, Bool.not_eq_true', Bool.not_eq_false', bne_iff_ne, beq_iff_eq, bne_eq_false_iff_eq, beq_eq_false_iff_ne, ne_eq, Bool.not_true, Bool.not_false, Bool.false_eq_true, Bool.true_eq_false, inB_true, inB_false] at hd)))
    | refine ok_ret ?_
    | refine ok_skip ?_
    | (refine ok_region (i := 0) ?_; refine ok_m rfl rfl rfl (by exact ms_box rfl rfl rfl) ?_; rintro y2 hy2; refine ok_m rfl rfl rfl (by exact ms_box rfl rfl rfl) ?_; rintro y3 hy3; refine ok_m rfl rfl rfl (by exact ms_alloc rfl) ?_; rintro y4 hy4; refine ok_nil ?_; refine ok_env [(2, _), (3, _), (4, _)] ⟨rfl, rfl, rfl, trivial⟩ ?_)
    | (refine ok_region (i := 1) ?_; refine ok_p rfl rfl rfl (by exact ps_loads rfl rfl (by exact rds_box 2 rfl) rfl rfl (by decide)) ?_; refine ok_m rfl rfl rfl (by exact ms_s1 rfl rfl (fun _ _ w hw => i_DeltaOk _ _ _ _ aU aD w (rds_rf hU (by exact List.mem_cons_self) _ _ w hw) (rds_rf hD (by exact List.mem_cons_self) _ _ w hw) m0 m1)) ?_; rintro y15 hy15; refine ok_p rfl rfl rfl (by exact ps_not rfl rfl) ?_; refine ok_p rfl rfl rfl (by exact ps_move rfl rfl) ?_; refine ok_pg rfl rfl rfl rfl rfl (gF _) (fun hp => by (have hpd := hp; (try simp only [decide_eq_true_eq, decide_eq_false_iff_not, Bool.or_eq_true, Bool.or_eq_false_iff, Bool.and_eq_true, Bool.and_eq_false_iff, Bool.not_eq_true', Bool.not_eq_false', bne_iff_ne, beq_iff_eq, bne_eq_false_iff_eq, beq_eq_false_iff_ne, ne_eq, Bool.not_true, Bool.not_false, Bool.false_eq_true, Bool.true_eq_false, inB_true, inB_false] at hpd); exact ps_loads rfl (by exact rfl) (by exact rds_box 1 rfl) rfl rfl (by decide))) ?_; refine ok_mg rfl rfl rfl rfl rfl (gF _) (fun hp => by (have hpd := hp; (try simp only [decide_eq_true_eq, decide_eq_false_iff_not, Bool.or_eq_true, Bool.or_eq_false_iff, Bool.and_eq_true, Bool.and_eq_false_iff, Bool.not_eq_true', Bool.not_eq_false', bne_iff_ne, beq_iff_eq, bne_eq_false_iff_eq, beq_eq_false_iff_ne, ne_eq, Bool.not_true, Bool.not_false, Bool.false_eq_true, Bool.true_eq_false, inB_true, inB_false] at hpd); exact ms_s1 rfl (by (refine og rfl ?_; assumption)) (fun _ _ w hw => i_DeltaOk _ _ _ _ bU bD w (rds_rf gU (by exact List.mem_cons_self) _ _ w hw) (rds_rf gD (by exact List.mem_cons_self) _ _ w hw) m2 m3))) ?_; refine ok_pg rfl rfl rfl rfl rfl (gF _) (fun hp => by (have hpd := hp; (try simp only [decide_eq_true_eq, decide_eq_false_iff_not, Bool.or_eq_true, Bool.or_eq_false_iff, Bool.and_eq_true, Bool.and_eq_false_iff, Bool.not_eq_true', Bool.not_eq_false', bne_iff_ne, beq_iff_eq, bne_eq_false_iff_eq, beq_eq_false_iff_ne, ne_eq, Bool.not_true, Bool.not_false, Bool.false_eq_true, Bool.true_eq_false, inB_true, inB_false] at hpd); exact ps_not rfl (by (refine og rfl ?_; assumption)))) ?_; refine ok_p rfl rfl rfl (by exact ps_or rfl rfl rfl) ?_; refine ok_nil ?_; refine ok_env [(2, _), (3, _), (4, _), (21, _)] ⟨rfl, rfl, rfl, rfl, trivial⟩ ?_)
    | (refine ok_region (i := 2) ?_; refine ok_p rfl rfl rfl (by exact ps_bld rfl parts_nil rfl) ?_; refine ok_m_ rfl rfl (by exact ms_store 0 rfl rfl rfl rfl rfl rfl rfl rfl) ?_; rintro y_ hy_; refine ok_nil ?_; refine ok_env [(4, _)] ⟨rfl, trivial⟩ ?_)
    | (refine ok_region (i := 3) ?_; refine ok_p rfl rfl rfl (by exact ps_field rfl rfl (by exact isw_ga _)) ?_; refine ok_p rfl rfl rfl (by exact ps_load rfl rfl (by exact Rds.cell (rds_box 2 rfl) rfl)) ?_; refine ok_m rfl rfl rfl (by exact ms_c1 rfl rfl (fun _ _ w hw => cloneV_c _ _ aU w (rds_rf hU (by exact List.mem_cons_self) _ _ w hw) (by omega))) ?_; rintro y25 hy25; refine ok_p rfl rfl rfl (by exact ps_bld rfl (parts_cons rfl parts_nil) rfl) ?_; refine ok_m rfl rfl rfl (by exact ms_alloc rfl) ?_; rintro y5 hy5; refine ok_m_ rfl rfl (by exact ms_store 0 rfl rfl rfl rfl rfl rfl rfl rfl) ?_; rintro y_ hy_; refine ok_nil ?_; refine ok_env [(2, _), (3, _), (4, _), (5, _)] ⟨rfl, rfl, rfl, rfl, trivial⟩ ?_)
    | (refine ok_region (i := 4) ?_; refine ok_p rfl rfl rfl (by exact ps_field rfl rfl (by exact isw_ga _)) ?_; refine ok_p rfl rfl rfl (by exact ps_load rfl rfl (by exact Rds.cell (rds_box 3 rfl) rfl)) ?_; refine ok_p rfl rfl rfl (by exact ps_len rfl rfl) ?_; refine ok_p rfl rfl rfl (by exact ps_move rfl rfl) ?_; refine ok_nil ?_; refine ok_env [(2, _), (3, _), (4, _), (5, _), (28, _), (29, _), (30, _)] ⟨rfl, rfl, rfl, rfl, rfl, rfl, rfl, trivial⟩ ?_))
  · rw [joinD_no (by rintro ⟨q1, q2⟩; rcases hd with h | h <;> simp [h] at q1 q2)]
    refine ok_endL (vs := [_]) rfl ⟨⟨_, 0, _, _, _, rfl, rfl, inferInstance, rfl, rfl⟩, trivial⟩ (fun w' hw => ?_)
    exact ⟨mkY none 0 w', rfl, trivial, hw.below, deltaC_nil _ _⟩
  have hda : deltaOk aU aD = true := hd.1
  have hdb : deltaOk bU bD = true := hd.2
  rw [joinD_yes hda hdb]
  have hsa := (delta_srt hda).1
  clear hc hd
  have e0 : dropsF (bD.take 0) aU = aU := by unfold dropsF; rw [List.take_zero]; rfl
  refine ok_loop (ι := { k : Nat // k ≤ bD.length }) (fun q => bD.length - q.1) (fun q => ([(2, pt (ga (y2 0).c) 0), (3, pt (ga (y3 0).c) 0), (4, pt (ga (y4 0).c) 0), (5, pt (ga (y5 0).c) 0), (28, .slice (Y1 1).A bD.length (Y1 1).c), (29, .int .i64 bD.length), (30, .int .i64 q.1)], [.box (y5 0).c 89 [.slice (y25 0).A (dropsF (bD.take q.1) aU).length (y25 0).c, .slice none 0 0], .row 67 2 (y25 0).A (dropsF (bD.take q.1) aU).length (y25 0).c (fl (dropsF (bD.take q.1) aU)), _, _, _], _)) ⟨0, by omega⟩ (fun a' w he hw => ⟨⟨0, by omega⟩, he.sub ⟨rfl, rfl, rfl, rfl, rfl, rfl, rfl, trivial⟩, by rw [e0]; exact hw⟩) ?_
  rintro ⟨k, hk⟩
  simp only at hk ⊢
  have hsk := drops_srt (bD.take k) hsa
  have hlk := drops_len (bD.take k) aU
  repeat' (first
    | refine ok_seq ?_
    | refine ok_then ?_
    | refine ok_block ?_
    | refine ok_in_normal ?_
    | (refine ok_cond rfl (fun hc => ?_) (fun hc => ?_) <;> (have hd := hc; (try simp only [decide_eq_true_eq, decide_eq_false_iff_not, Bool.or_eq_true, Bool.or_eq_false_iff, Bool.and_eq_true, Bool.and_eq_false_iff, Bool.not_eq_true', Bool.not_eq_false', bne_iff_ne, beq_iff_eq, bne_eq_false_iff_eq, beq_eq_false_iff_ne, ne_eq, Bool.not_true, Bool.not_false, Bool.false_eq_true, Bool.true_eq_false, inB_true, inB_false] at hd)))
    | refine ok_exit ?_
    | refine ok_skip ?_
    | (refine ok_region (i := 5) ?_; refine ok_p rfl rfl rfl (by exact ps_int rfl rfl rfl rfl) ?_; refine ok_nil ?_; refine ok_env [(2, _), (3, _), (4, _), (5, _), (28, _), (29, _), (30, _), (31, _)] ⟨rfl, rfl, rfl, rfl, rfl, rfl, rfl, rfl, trivial⟩ ?_)
    | (refine ok_region (i := 6) ?_; refine ok_p rfl rfl rfl (by exact ps_indexN rfl rfl rfl (by omega) (by exact isw_of (isS_fl (by assumption) (by omega)))) ?_; refine ok_p rfl rfl rfl (by exact ps_load rfl rfl (by exact Rds.cell (rds_rf (by assumption) (by exact List.mem_cons_self)) (by exact fl_at0 _ _ (by omega) (by decide)))) ?_; refine ok_p rfl rfl rfl (by exact ps_assign rfl rfl) ?_; refine ok_nil ?_; refine ok_env [(2, _), (3, _), (4, _), (5, _), (7, _), (28, _), (29, _), (30, _)] ⟨rfl, rfl, rfl, rfl, rfl, rfl, rfl, rfl, trivial⟩ ?_)
    | (refine ok_region (i := 7) ?_; refine ok_p rfl rfl rfl (by exact ps_field rfl rfl (by exact isw_ga _)) ?_; refine ok_p rfl rfl rfl (by exact ps_load rfl rfl (by exact Rds.cell (rds_box 0 rfl) rfl)) ?_; refine ok_p rfl rfl rfl (by exact ps_move rfl rfl) ?_; refine ok_m rfl rfl rfl (by exact ms_wr 1 rfl rfl rfl rfl (fun _ _ w hw => dropKey_c _ _ (dropsF (bD.take k) aU) (nth bD k) hsk (by omega) hw)) ?_; rintro y37 hy37; refine ok_p rfl rfl rfl (by exact ps_field rfl rfl (by exact isw_ga _)) ?_; refine ok_m_ rfl rfl (by exact ms_store 0 rfl rfl rfl rfl rfl rfl rfl rfl) ?_; rintro y_ hy_; refine ok_nil ?_; refine ok_env [(2, _), (3, _), (4, _), (5, _), (28, _), (29, _), (30, _)] ⟨rfl, rfl, rfl, rfl, rfl, rfl, rfl, trivial⟩ ?_)
    | (refine ok_region (i := 8) ?_; refine ok_p rfl rfl rfl (by exact ps_add rfl rfl rfl (by omega)) ?_; refine ok_p rfl rfl rfl (by exact ps_move rfl rfl) ?_; refine ok_nil ?_; refine ok_env [(2, _), (3, _), (4, _), (5, _), (28, _), (29, _), (30, _)] ⟨rfl, rfl, rfl, rfl, rfl, rfl, rfl, trivial⟩ ?_)
    | (refine ok_region (i := 9) ?_; refine ok_p rfl rfl rfl (by exact ps_field rfl rfl (by exact isw_ga _)) ?_; refine ok_p rfl rfl rfl (by exact ps_load rfl rfl (by exact Rds.cell (rds_box 3 rfl) rfl)) ?_; refine ok_p rfl rfl rfl (by exact ps_len rfl rfl) ?_; refine ok_p rfl rfl rfl (by exact ps_move rfl rfl) ?_; refine ok_nil ?_; refine ok_env [(2, _), (3, _), (4, _), (5, _), (41, _), (42, _), (43, _)] ⟨rfl, rfl, rfl, rfl, rfl, rfl, rfl, trivial⟩ ?_))
  · rw [← drops_step (by omega)]
    exact fun a' w' he hw => ⟨⟨k + 1, by omega⟩, by simp only; omega, he.sub ⟨rfl, rfl, rfl, rfl, rfl, rfl, rfl, trivial⟩, hw⟩
  obtain rfl : k = bD.length := by omega
  rw [drops_all] at hsk hlk ⊢
  generalize hM : dropsF bD aU = M at hsk hlk ⊢
  have e1 : putsF (bU.take 0) M = M := by unfold putsF; rw [List.take_zero]; rfl
  refine ok_loop (ι := ApI bU.length) (fun q => bU.length - q.k) (fun q => ([(2, pt (ga (y2 0).c) 0), (3, pt (ga (y3 0).c) 0), (4, pt (ga (y4 0).c) 0), (5, pt (ga (y5 0).c) 0), (41, .slice (Y1 0).A bU.length (Y1 0).c), (42, .int .i64 bU.length), (43, .int .i64 q.k)], [.box (y5 0).c 89 [.slice q.A (putsF (bU.take q.k) M).length q.c, .slice none 0 0], .row 67 2 q.A (putsF (bU.take q.k) M).length q.c (fl (putsF (bU.take q.k) M)), _, _, _], _)) ⟨0, (y25 0).A, (y25 0).c, by omega⟩ (fun a' w he hw => ⟨⟨0, (y25 0).A, (y25 0).c, by omega⟩, he.sub ⟨rfl, rfl, rfl, rfl, rfl, rfl, rfl, trivial⟩, by rw [e1]; exact hw⟩) ?_
  rintro ⟨k, A, c, hk2⟩
  simp only at hk2 ⊢
  have hsu := puts_srt (bU.take k) hsk
  have hlu := puts_len (bU.take k) M
  have hlt : (bU.take k).length ≤ bU.length := by rw [List.length_take]; omega
  repeat' (first
    | refine ok_seq ?_
    | refine ok_then ?_
    | refine ok_block ?_
    | refine ok_in_normal ?_
    | (refine ok_cond rfl (fun hc => ?_) (fun hc => ?_) <;> (have hd := hc; (try simp only [decide_eq_true_eq, decide_eq_false_iff_not, Bool.or_eq_true, Bool.or_eq_false_iff, Bool.and_eq_true, Bool.and_eq_false_iff, Bool.not_eq_true', Bool.not_eq_false', bne_iff_ne, beq_iff_eq, bne_eq_false_iff_eq, beq_eq_false_iff_ne, ne_eq, Bool.not_true, Bool.not_false, Bool.false_eq_true, Bool.true_eq_false, inB_true, inB_false] at hd)))
    | refine ok_exit ?_
    | refine ok_skip ?_
    | (refine ok_region (i := 10) ?_; refine ok_p rfl rfl rfl (by exact ps_int rfl rfl rfl rfl) ?_; refine ok_nil ?_; refine ok_env [(2, _), (3, _), (4, _), (5, _), (41, _), (42, _), (43, _), (44, _)] ⟨rfl, rfl, rfl, rfl, rfl, rfl, rfl, rfl, trivial⟩ ?_)
    | (refine ok_region (i := 11) ?_; refine ok_p rfl rfl rfl (by exact ps_indexN rfl rfl rfl (by omega) (by exact isw_of (isS_fl (by assumption) (by omega)))) ?_; refine ok_p rfl rfl rfl (by exact ps_loadsF rfl rfl (by exact rds_rf (by assumption) (by exact List.mem_cons_self)) (by rfl) (by rfl) (by omega) rfl) ?_; refine ok_m rfl rfl rfl (by exact ms_alloc rfl) ?_; rintro y9 hy9; refine ok_m_ rfl rfl (by exact ms_store 0 rfl rfl rfl rfl rfl rfl rfl rfl) ?_; rintro y_ hy_; refine ok_nil ?_; refine ok_env [(2, _), (3, _), (4, _), (5, _), (9, _), (41, _), (42, _), (43, _)] ⟨rfl, rfl, rfl, rfl, rfl, rfl, rfl, rfl, trivial⟩ ?_)
    | (refine ok_region (i := 12) ?_; refine ok_p rfl rfl rfl (by exact ps_field rfl rfl (by exact isw_ga _)) ?_; refine ok_p rfl rfl rfl (by exact ps_load rfl rfl (by exact Rds.cell (rds_box 1 rfl) rfl)) ?_; refine ok_p rfl rfl rfl (by exact ps_field rfl rfl (by exact isw_ga _)) ?_; refine ok_p rfl rfl rfl (by exact ps_load rfl rfl (by exact Rds.cell (rds_box 0 rfl) rfl)) ?_; refine ok_p rfl rfl rfl (by exact ps_field rfl rfl (by exact isw_ga _)) ?_; refine ok_p rfl rfl rfl (by exact ps_load rfl rfl (by exact Rds.cell (rds_box 0 rfl) rfl)) ?_; refine ok_m rfl rfl rfl (by exact ms_wr 2 rfl rfl rfl rfl (fun _ _ w hw => setKey_c _ _ (putsF (bU.take k) M) _ _ hsu (by omega) hw)) ?_; rintro y53 hy53; refine ok_p rfl rfl rfl (by exact ps_field rfl rfl (by exact isw_ga _)) ?_; refine ok_m_ rfl rfl (by exact ms_store 1 rfl rfl rfl rfl rfl rfl rfl rfl) ?_; rintro y_ hy_; refine ok_nil ?_; refine ok_env [(2, _), (3, _), (4, _), (5, _), (41, _), (42, _), (43, _)] ⟨rfl, rfl, rfl, rfl, rfl, rfl, rfl, trivial⟩ ?_)
    | (refine ok_region (i := 13) ?_; refine ok_p rfl rfl rfl (by exact ps_add rfl rfl rfl (by omega)) ?_; refine ok_p rfl rfl rfl (by exact ps_move rfl rfl) ?_; refine ok_nil ?_; refine ok_env [(2, _), (3, _), (4, _), (5, _), (41, _), (42, _), (43, _)] ⟨rfl, rfl, rfl, rfl, rfl, rfl, rfl, trivial⟩ ?_)
    | (refine ok_region (i := 14) ?_; refine ok_p rfl rfl rfl (by exact ps_field rfl rfl (by exact isw_ga _)) ?_; refine ok_p rfl rfl rfl (by exact ps_load rfl rfl (by exact Rds.cell (rds_box 4 rfl) rfl)) ?_; refine ok_p rfl rfl rfl (by exact ps_field rfl rfl (by exact isw_ga _)) ?_; refine ok_p rfl rfl rfl (by exact ps_load rfl rfl (by exact Rds.cell (rds_box 3 rfl) rfl)) ?_; refine ok_m rfl rfl rfl (by exact ms_lit rfl (parts_cons rfl (parts_cons rfl parts_nil)) rfl rfl rfl) ?_; rintro y60 hy60; refine ok_m rfl rfl rfl (by exact ms_c1 rfl rfl (fun _ _ w hw => cat2_c _ _ _ _ _ _ aD bD w (two_rd hw 0 rfl rfl) (rds_rf hD (by exact List.mem_cons_self) _ _ w hw) (rds_rf gD (by exact List.mem_cons_self) _ _ w hw) m1 m3)) ?_; rintro y61 hy61; refine ok_p rfl rfl rfl (by exact ps_len rfl rfl) ?_; refine ok_p rfl rfl rfl (by exact ps_move rfl rfl) ?_; refine ok_nil ?_; refine ok_env [(4, _), (5, _), (61, _), (62, _), (63, _)] ⟨rfl, rfl, rfl, rfl, rfl, trivial⟩ ?_))
  · rw [← puts_step (by omega)]
    exact fun a' w' he hw => ⟨⟨k + 1, _, _, by omega⟩, by simp only; omega, he.sub ⟨rfl, rfl, rfl, rfl, rfl, rfl, rfl, trivial⟩, hw.tl⟩
  obtain rfl : k = bU.length := by omega
  rw [puts_all] at hsu ⊢
  have hJl : (putsF bU M).length ≤ 4194304 := by rw [puts_all] at hlu; omega
  rw [← hM] at hsu hJl ⊢
  rw [show putsF bU (dropsF bD aU) = joinU ⟨aU, aD⟩ ⟨bU, bD⟩ from rfl] at hsu hJl ⊢
  generalize hJ : joinU ⟨aU, aD⟩ ⟨bU, bD⟩ = J at hsu hJl ⊢
  generalize hE : aD ++ bD = E
  have hEl : E.length ≤ 2097152 := by rw [← hE, List.length_append]; omega
  refine ok_loop (ι := ApI E.length) (fun q => E.length - q.k) (fun q => ([(4, pt (ga (y4 0).c) 0), (5, pt (ga (y5 0).c) 0), (61, .slice (y61 0).A E.length (y61 0).c), (62, .int .i64 E.length), (63, .int .i64 q.k)], [.row 9 1 q.A ((E.take q.k).filter (keepJ J)).length q.c (fl ((E.take q.k).filter (keepJ J))), .row 9 1 (y61 0).A E.length (y61 0).c (fl E), _, .box (y5 0).c 89 [.slice A J.length c, .slice q.A ((E.take q.k).filter (keepJ J)).length q.c], .row 67 2 A J.length c (fl J), _, _, _], _)) ⟨0, none, 0, by omega⟩ (fun a' w he hw => ⟨⟨0, none, 0, by omega⟩, he.sub ⟨rfl, rfl, rfl, rfl, rfl, trivial⟩, hw.rowNilJ 9 1⟩) ?_
  rintro ⟨k, B, d, hk3⟩
  simp only at hk3 ⊢
  have hfl := List.length_filter_le (keepJ J) (E.take k)
  have htk : (E.take k).length ≤ E.length := by rw [List.length_take]; omega
  repeat' (first
    | refine ok_seq ?_
    | refine ok_then ?_
    | refine ok_block ?_
    | refine ok_in_normal ?_
    | (refine ok_cond rfl (fun hc => ?_) (fun hc => ?_) <;> (have hd := hc; (try simp only [decide_eq_true_eq, decide_eq_false_iff_not, Bool.or_eq_true, Bool.or_eq_false_iff, Bool.and_eq_true, Bool.and_eq_false_iff, Bool.not_eq_true', Bool.not_eq_false', bne_iff_ne, beq_iff_eq, bne_eq_false_iff_eq, beq_eq_false_iff_ne, ne_eq, Bool.not_true, Bool.not_false, Bool.false_eq_true, Bool.true_eq_false, inB_true, inB_false] at hd)))
    | refine ok_ret ?_
    | refine ok_exit ?_
    | refine ok_skip ?_
    | (refine ok_region (i := 15) ?_; refine ok_p rfl rfl rfl (by exact ps_int rfl rfl rfl rfl) ?_; refine ok_nil ?_; refine ok_env [(4, _), (5, _), (61, _), (62, _), (63, _), (64, _)] ⟨rfl, rfl, rfl, rfl, rfl, rfl, trivial⟩ ?_)
    | (refine ok_region (i := 16) ?_; refine ok_p rfl rfl rfl (by exact ps_indexN rfl rfl rfl (by omega) (isw_row 1 rfl (by omega))) ?_; refine ok_p rfl rfl rfl (by exact ps_load rfl rfl (Rds.cell (rds_row 1 rfl) (fl_at0 E k (by omega) (by decide)))) ?_; refine ok_p rfl rfl rfl (by exact ps_assign rfl rfl) ?_; refine ok_nil ?_; refine ok_env [(4, _), (5, _), (11, _), (61, _), (62, _), (63, _)] ⟨rfl, rfl, rfl, rfl, rfl, rfl, trivial⟩ ?_)
    | (refine ok_region (i := 17) ?_; refine ok_p rfl rfl rfl (by exact ps_field rfl rfl (by exact isw_ga _)) ?_; refine ok_p rfl rfl rfl (by exact ps_load rfl rfl (by exact Rds.cell (rds_box 3 rfl) rfl)) ?_; refine ok_p rfl rfl rfl (by exact ps_move rfl rfl) ?_; refine ok_m rfl rfl rfl (by exact ms_s2 rfl rfl rfl (fun _ _ w hw => findKey_c A c J (nth E k) w (rds_row 4 rfl _ _ w hw) hJl (srtK_iff.2 hsu))) ?_; rintro y71 hy71; refine ok_p rfl rfl rfl (by exact ps_move rfl rfl) ?_; refine ok_p rfl rfl rfl (by exact ps_extract rfl rfl rfl) ?_; refine ok_p rfl rfl rfl (by exact ps_extract rfl rfl rfl) ?_; refine ok_p rfl rfl rfl (by exact ps_assign rfl rfl) ?_; refine ok_p rfl rfl rfl (by exact ps_assign rfl rfl) ?_; refine ok_nil ?_; refine ok_env [(4, _), (5, _), (11, _), (13, _), (61, _), (62, _), (63, _)] ⟨rfl, rfl, rfl, rfl, rfl, rfl, rfl, trivial⟩ ?_)
    | (refine ok_region (i := 18) ?_; refine ok_p rfl rfl rfl (by exact ps_move rfl rfl) ?_; refine ok_p rfl rfl rfl (by exact ps_not rfl rfl) ?_; refine ok_nil ?_; refine ok_env [(4, _), (5, _), (11, _), (61, _), (62, _), (63, _), (75, _)] ⟨rfl, rfl, rfl, rfl, rfl, rfl, rfl, trivial⟩ ?_)
    | (refine ok_region (i := 19) ?_; refine ok_p rfl rfl rfl (by exact ps_field rfl rfl (by exact isw_ga _)) ?_; refine ok_p rfl rfl rfl (by exact ps_load rfl rfl (by exact Rds.cell (rds_box 3 rfl) rfl)) ?_; refine ok_p rfl rfl rfl (by exact ps_move rfl rfl) ?_; refine ok_m rfl rfl rfl (by exact ms_lit rfl (parts_cons rfl parts_nil) rfl rfl rfl) ?_; rintro y79 hy79; refine ok_m rfl rfl rfl (by exact ms_appF (α := ByteArray) (L := (E.take k).filter (keepJ J)) (M := [nth E k]) 1 rfl rfl rfl rfl (rds_row 0 rfl) rfl (by simp; omega) (by simp; omega)) ?_; rintro y80 hy80; refine ok_p rfl rfl rfl (by exact ps_field rfl rfl (by exact isw_ga _)) ?_; refine ok_m_ rfl rfl (by exact ms_store 4 rfl rfl rfl rfl rfl rfl rfl rfl) ?_; rintro y_ hy_; refine ok_nil ?_; refine ok_env [(4, _), (5, _), (61, _), (62, _), (63, _)] ⟨rfl, rfl, rfl, rfl, rfl, trivial⟩ ?_)
    | (refine ok_region (i := 20) ?_; refine ok_p rfl rfl rfl (by exact ps_add rfl rfl rfl (by omega)) ?_; refine ok_p rfl rfl rfl (by exact ps_move rfl rfl) ?_; refine ok_nil ?_; refine ok_env [(4, _), (5, _), (61, _), (62, _), (63, _)] ⟨rfl, rfl, rfl, rfl, rfl, trivial⟩ ?_)
    | (refine ok_region (i := 21) ?_; refine ok_p rfl rfl rfl (by exact ps_field rfl rfl (by exact isw_ga _)) ?_; refine ok_p rfl rfl rfl (by exact ps_load rfl rfl (by exact Rds.cell (rds_box 3 rfl) rfl)) ?_; refine ok_m rfl rfl rfl (by exact ms_wr 0 rfl rfl rfl rfl (fun _ _ w hw => sort_c B d ((E.take k).filter (keepJ J)) (by omega) hw)) ?_; rintro y85 hy85; refine ok_nil ?_; refine ok_env [(4, _), (5, _)] ⟨rfl, rfl, trivial⟩ ?_)
    | (refine ok_region (i := 22) ?_; refine ok_p rfl rfl rfl (by exact ps_field rfl rfl (by exact isw_ga _)) ?_; refine ok_p rfl rfl rfl (by exact ps_load rfl rfl (by exact Rds.cell (rds_box 3 rfl) rfl)) ?_; refine ok_m rfl rfl rfl (by exact ms_wr 0 rfl rfl rfl rfl (fun _ _ w hw => compact_n B d (srtB ((E.take k).filter (keepJ J))) _ (srtB_len _).symm (by omega) hw)) ?_; rintro y88 hy88; refine ok_m rfl rfl rfl (by exact ms_s1 rfl rfl (fun _ _ w hw => clip_c _ _ _ (hw.cap 0 rfl) w)) ?_; rintro y89 hy89; refine ok_p rfl rfl rfl (by exact ps_field rfl rfl (by exact isw_ga _)) ?_; refine ok_m_ rfl rfl (by exact ms_store 3 rfl rfl rfl rfl rfl rfl rfl rfl) ?_; rintro y_ hy_; refine ok_nil ?_; refine ok_env [(4, _), (5, _)] ⟨rfl, rfl, trivial⟩ ?_)
    | (refine ok_region (i := 23) ?_; refine ok_p rfl rfl rfl (by exact ps_loads rfl rfl (by exact rds_box 3 rfl) rfl rfl (by decide)) ?_; refine ok_m_ rfl rfl (by exact ms_store 5 rfl rfl rfl rfl rfl rfl rfl rfl) ?_; rintro y_ hy_; refine ok_nil ?_; refine ok_env [(4, _)] ⟨rfl, trivial⟩ ?_))
  · have e := filt_step (J := J) (show k < E.length by omega)
    rw [if_pos (by unfold keepJ; rw [hd]; rfl)] at e
    refine fun a' w' he hw => ⟨⟨k + 1, (y80 0).A, (y80 0).c, by omega⟩, by simp only; omega, he.sub ⟨rfl, rfl, rfl, rfl, rfl, trivial⟩, ?_⟩
    simp only
    rw [e, List.length_append]
    exact hw.tl
  · have e := filt_step (J := J) (show k < E.length by omega)
    rw [if_neg (by unfold keepJ; rw [hd]; decide)] at e
    refine fun a' w' he hw => ⟨⟨k + 1, B, d, by omega⟩, by simp only; omega, he.sub ⟨rfl, rfl, rfl, rfl, rfl, trivial⟩, ?_⟩
    simp only
    rw [e]
    exact hw
  · obtain rfl : k = E.length := by omega
    have ej : onceS (srtB ((E.take E.length).filter (keepJ J))) = delF bU aD bD := by
      rw [List.take_length, ← hE, ← hJ]
      exact join_once (a := ⟨aU, aD⟩) (b := ⟨bU, bD⟩) hda hdb (srtB_le _) (fun x => by rw [srtB_mem]; rfl)
    rw [ej]
    refine ok_endL (vs := [_]) rfl ⟨⟨_, 5, _, _, _, rfl, rfl, inferInstance, rfl, rfl⟩, trivial⟩ (fun w' hw => ?_)
    exact ⟨yl [⟨A, c, w', 0⟩, ⟨B, (delF bU aD bD).length, w', 0⟩, ⟨B, d, w', 0⟩] ⟨A, c, w', 0⟩, rfl, trivial, hw.below, NewOk.of (hw.sel [4, 0] (by decide) rfl (G' := []) (fun _ h => by cases h))⟩
end Go.Proofs.Ytbegbdfbfbkflaa
/-
  DERIVED: THE SHELF's CONTRACTS AT THIS DUMP, IN PLAIN WORDS (tools/lay-plain.mjs out of 'TryShelf.lean', which tools/lay-shelf.mjs wrote): THE SAME DECLARATIONS UNDER THE SAME NAMES: 'import', 'namespace', 'open', 'def', 'theorem' AND NOTHING ELSE: no command of the shelf's: FOR A HAND-IN. Each laying: the table of numbers ('.._ren') and one theorem, a field a fact of the dump's own or the kernel's comparison; each contract: ONE APPLICATION.
-/
namespace Go.Proofs.Ytbegbdfbfbkflaa
open Go.Shelf
def sh_lays105_ren : Go.Shelf.Ren := ⟨fun | 105 => 147 | 212 => 194 | 99 => 195 | 165 => 196 | 166 => 120 | 170 => 197 | 169 => 123 | 263 => 231 | 264 => 232 | 206 => 233 | 240 => 180 | 241 => 234 | 276 => 216 | 277 => 251 | n => n, fun | 9 => 9 | 3 => 3 | 4 => 4 | 20 => 20 | 0 => 0 | 46 => 179 | 109 => 217 | 5 => 5 | 72 => 145 | 76 => 148 | 51 => 178 | 146 => 250 | 53 => 248 | 148 => 252 | 70 => 143 | 37 => 22 | 75 => 147 | 127 => 203 | 164 => 235 | 80 => 151 | n => n, fun | n => n⟩
theorem sh_lays105 : Go.Proofs.Lays.n105 Try.prog sh_lays105_ren := {
  mixed := by kernel_rfl
  f99 := Try.func195.trans (congrArg some (by kernel_rfl))
  f105 := Try.func147.trans (congrArg some (by kernel_rfl))
  f165 := Try.func196.trans (congrArg some (by kernel_rfl))
  f166 := Try.func120.trans (congrArg some (by kernel_rfl))
  f169 := Try.func123.trans (congrArg some (by kernel_rfl))
  f170 := Try.func197.trans (congrArg some (by kernel_rfl))
  f206 := Try.func233.trans (congrArg some (by kernel_rfl))
  f212 := Try.func194.trans (congrArg some (by kernel_rfl))
  f240 := Try.func180.trans (congrArg some (by kernel_rfl))
  f241 := Try.func234.trans (congrArg some (by kernel_rfl))
  f263 := Try.func231.trans (congrArg some (by kernel_rfl))
  f264 := Try.func232.trans (congrArg some (by kernel_rfl))
  f276 := Try.func216.trans (congrArg some (by kernel_rfl))
  f277 := Try.func251.trans (congrArg some (by kernel_rfl))
  t0 := Try.underlying0
  a0 := Try.isAgg0
  z0 := Try.sizeOf0
  v0 := Try.zeroValue0
  t3 := Try.underlying3
  a3 := Try.isAgg3
  z3 := Try.sizeOf3
  v3 := Try.zeroValue3
  t4 := Try.underlying4
  a4 := Try.isAgg4
  z4 := Try.sizeOf4
  v4 := Try.zeroValue4
  t5 := Try.underlying5
  a5 := Try.isAgg5
  z5 := Try.sizeOf5
  v5 := Try.zeroValue5
  t9 := Try.underlying9
  a9 := Try.isAgg9
  z9 := Try.sizeOf9
  v9 := Try.zeroValue9
  t20 := Try.underlying20
  a20 := Try.isAgg20
  z20 := Try.sizeOf20
  v20 := Try.zeroValue20
  t37 := Try.underlying22
  a37 := Try.isAgg22
  z37 := Try.sizeOf22
  v37 := Try.zeroValue22
  t46 := Try.underlying179
  a46 := Try.isAgg179
  z46 := Try.sizeOf179
  v46 := Try.zeroValue179
  t51 := Try.underlying178
  a51 := Try.isAgg178
  z51 := Try.sizeOf178
  v51 := Try.zeroValue178
  t53 := Try.underlying248
  a53 := Try.isAgg248
  z53 := Try.sizeOf248
  v53 := Try.zeroValue248
  t70 := Try.underlying143
  a70 := Try.isAgg143
  z70 := Try.sizeOf143
  v70 := Try.zeroValue143
  t72 := Try.underlying145
  a72 := Try.isAgg145
  z72 := Try.sizeOf145
  v72 := Try.zeroValue145
  t75 := Try.underlying147
  a75 := Try.isAgg147
  z75 := Try.sizeOf147
  v75 := Try.zeroValue147
  t76 := Try.underlying148
  a76 := Try.isAgg148
  z76 := Try.sizeOf148
  v76 := Try.zeroValue148
  t109 := Try.underlying217
  a109 := Try.isAgg217
  z109 := Try.sizeOf217
  v109 := Try.zeroValue217
  t127 := Try.underlying203
  a127 := Try.isAgg203
  z127 := Try.sizeOf203
  v127 := Try.zeroValue203
  t146 := Try.underlying250
  a146 := Try.isAgg250
  z146 := Try.sizeOf250
  v146 := Try.zeroValue250
  t148 := Try.underlying252
  a148 := Try.isAgg252
  z148 := Try.sizeOf252
  v148 := Try.zeroValue252
  t164 := Try.underlying235
  a164 := Try.isAgg235
  z164 := Try.sizeOf235
  v164 := Try.zeroValue235 }
theorem sh_Builder_Extra_105 : Builder.Extra Try.prog sh_lays105_ren := {
  sizeBuilder := by kernel_rfl
  liesBuilder := by kernel_rfl
  t5 := Try.underlying5
  a5 := Try.isAgg5
  z5 := Try.sizeOf5
  v5 := Try.zeroValue5
  infoByte := by kernel_rfl
  cellsByte := by kernel_rfl
  sizeByte := by kernel_rfl
  neB5 := by decide }
open Go.RowKit Go.Lib in
/-- THE MAIN CASE: at least two copies of a string that is not empty. (LAID: no walk: one application.) -/
theorem sh_strings_Repeat_main (s : ByteArray) (c : Nat) (w : World) (hc2 : 2 ≤ c) (hc : c ≤ 9223372036854775807) (hlen : s.size * c ≤ 140737488355328) (h0 : 0 < s.size) :
    Calls Try.prog 147 #[.string s, .int .i64 c] w fun e w' => e = .returned (.string ⟨(Lib.repeatL s.data.toList c).toArray⟩) ∧ Below w.heap.size w w' := Any.strings_Repeat_main sh_lays105 sh_Builder_Extra_105 s c w hc2 hc hlen h0
open Go.RowKit Go.Lib in
theorem sh_strings_Repeat_zero (s : ByteArray) (w : World) :
    Calls Try.prog 147 #[.string s, .int .i64 0] w fun e w' => e = .returned (.string ⟨#[]⟩) ∧ w' = w := Any.strings_Repeat_zero sh_lays105 s w
open Go.RowKit Go.Lib in
theorem sh_strings_Repeat_one (s : ByteArray) (w : World) :
    Calls Try.prog 147 #[.string s, .int .i64 1] w fun e w' => e = .returned (.string s) ∧ w' = w := Any.strings_Repeat_one sh_lays105 s w
open Go.RowKit Go.Lib in
/-- Copies of the empty string. (LAID: no walk: one application.) -/
theorem sh_strings_Repeat_empty (s : ByteArray) (c : Nat) (w : World) (hc2 : 2 ≤ c) (hc : c ≤ 9223372036854775807) (h0 : s.size = 0) :
    Calls Try.prog 147 #[.string s, .int .i64 c] w fun e w' => e = .returned (.string ⟨#[]⟩) ∧ w' = w := Any.strings_Repeat_empty sh_lays105 s c w hc2 hc h0
open Go.RowKit Go.Lib in
/-- count < 0: "It panics if count is negative". (LAID: no walk: one application.) -/
theorem sh_strings_Repeat_negative (s : ByteArray) (c : Int) (w : World) (hc : c < 0) :
    Calls Try.prog 147 #[.string s, .int .i64 c] w fun e w' => e = .panicked [{ v := repeatPanic sh_lays105_ren "strings: negative Repeat count", recovered := false }] ∧ w' = w := Any.strings_Repeat_negative sh_lays105 s c w hc
open Go.RowKit Go.Lib in
/-- len(s) * count is no int: ".. or if the result of (len(s) * count) overflows". (LAID: no walk: one application.) -/
theorem sh_strings_Repeat_overflow (s : ByteArray) (c : Nat) (w : World) (hc : c ≤ 9223372036854775807) (hs : s.size ≤ 9223372036854775807) (hbig : 9223372036854775807 < s.size * c) :
    Calls Try.prog 147 #[.string s, .int .i64 c] w fun e w' => e = .panicked [{ v := repeatPanic sh_lays105_ren "strings: Repeat output length overflow", recovered := false }] ∧ w' = w := Any.strings_Repeat_overflow sh_lays105 s c w hc hs hbig
open Go.RowKit Go.Lib in
/-- **strings.Repeat: count ≥ 0, the result within one allocation: count copies of s.** (LAID: no walk: one application.) -/
theorem sh_strings_Repeat (s : ByteArray) (c : Nat) (w : World) (hc : c ≤ 9223372036854775807) (hlen : s.size * c ≤ 140737488355328) :
    Calls Try.prog 147 #[.string s, .int .i64 c] w fun e w' => e = .returned (.string ⟨(Lib.repeatL s.data.toList c).toArray⟩) ∧ Below w.heap.size w w' := Any.strings_Repeat sh_lays105 sh_Builder_Extra_105 s c w hc hlen
end Go.Proofs.Ytbegbdfbfbkflaa
/- strings.Builder in memory of the call's own, with the engine: written on, read at the end. -/
namespace Go.Proofs.Ytbegbdfbfbkflaa
open Go.RowKit
set_option maxHeartbeats 4000000
set_option maxRecDepth 20000
set_option linter.unusedVariables false
set_option linter.unusedSimpArgs false
attribute [local irreducible] Calls
theorem pt_ga (g : Nat) : pt (ga g) 0 = .pointer (some ⟨g, 0, none⟩) := by
  unfold pt ga
  rw [Option.map_some, ga_add]
instance zbB : ZB Try.prog 5 := ⟨by kernel_rfl⟩
/-- A builder: its box, its bytes. -/
abbrev bldO (g : Nat) (p : Value) (A : Option Addr) (n c : Nat) : HObj := .box g 145 [p, .slice A n c]
theorem copyCheck_c (g : Nat) (p v : Value) (hp : p = .pointer none ∨ p = .pointer (some ⟨g, 0, none⟩)) {base : Nat} {w0 w : World} {H : List HObj} {G : List World} (hw : WOk base w0 (.box g 145 [p, v] :: H) G w) :
    Calls Try.prog 180 #[pt (ga g) 0] w fun e w' => ∃ y : Ys, e = .returned (.tuple #[]) ∧ True ∧ WOk base w0 (.box g 145 [.pointer (some ⟨g, 0, none⟩), v] :: H) G w' := by
  obtain ⟨hb, hh⟩ := hw.own _ List.mem_cons_self
  have hc : w.cell? ⟨g, 0, none⟩ = some p := by rw [Lib.cell_of_heap hh]; rfl
  rw [pt_ga]
  rcases hp with rfl | rfl
  · refine (Any.Builder_copyCheck_fresh (ρ := sh_lays105_ren) { sh_lays105 with } sh_Builder_Extra_105.toX72 g w hc (by simp [World.shape?, hh]; rfl) (Lib.frozen_of_heap hh 0)).mono ?_
    rintro e w' ⟨rfl, rfl⟩
    refine ⟨mkY none 0 w, rfl, trivial, ?_⟩
    refine hw.turn (i := 0) (x' := .box g 145 [.pointer (some ⟨g, 0, none⟩), v]) rfl (r := some g) ⟨rfl, rfl, rfl, by simp, fun j _ hj => ?_⟩ (fun k hk => by cases hk; rfl) ⟨hb, ?_⟩ (fun j hj => .inl hj)
    · exact heap_setCell_other w ⟨g, 0, none⟩ j _ (fun e => hj (by simp [e]))
    · rw [heap_setCell_same w g 0 _ _ _ hh]; rfl
  · refine (Any.Builder_copyCheck_used (ρ := sh_lays105_ren) { sh_lays105 with } sh_Builder_Extra_105.toX72 g w hc).mono ?_
    rintro e w' ⟨rfl, rfl⟩
    exact ⟨mkY none 0 w', rfl, trivial, hw⟩
/-- A string is written behind. -/
theorem bldW_c (g : Nat) (p : Value) (A : Option Addr) (c : Nat) (t s : ByteArray) (hp : p = .pointer none ∨ p = .pointer (some ⟨g, 0, none⟩)) (hz : t.size + s.size ≤ 140737488355328) {base : Nat} {w0 w : World} {H : List HObj} {G : List World}
    (hw : WOk base w0 (bldO g p A t.size c :: .row 5 1 A t.size c (byteVs (bl t)) :: H) G w) :
    Calls Try.prog 120 #[pt (ga g) 0, .string s] w fun e w' => ∃ y : Ys, e = .returned (.tuple #[.int .i64 s.size, .nilIface]) ∧ True ∧ WOk base w0 (bldO g (.pointer (some ⟨g, 0, none⟩)) (y 0).A (t ++ s).size (y 0).c :: .row 5 1 (y 0).A (t ++ s).size (y 0).c (byteVs (bl (t ++ s))) :: H) G w' := by
  rw [bl_app, ByteArray.size_append]
  refine ok_enterW 19 Try.func120 rfl rfl rfl hw ?_
  repeat' (first
    | refine ok_seq ?_
    | refine ok_then ?_
    | refine ok_then_ret ?_
    | refine ok_then_exit ?_
    | refine ok_block ?_
    | refine ok_in_normal ?_
    | refine ok_in_ret ?_
    | refine ok_in_exit ?_
    | refine ok_in_other rfl ?_
    | (refine ok_cond rfl (fun hc => ?_) (fun hc => ?_) <;> (have hd := hc; (try simp only [decide_eq_true_eq, decide_eq_false_iff_not, Bool.or_eq_true, Bool.or_eq_false_iff, Bool.and_eq_true, Bool.and_eq_false_iff, Bool.not_eq_true', Bool.not_eq_false', bne_iff_ne, beq_iff_eq, bne_eq_false_iff_eq, beq_eq_false_iff_ne, ne_eq, Bool.not_true, Bool.not_false, Bool.false_eq_true, Bool.true_eq_false, inB_true, inB_false] at hd)))
    | refine ok_ret ?_
    | refine ok_exit ?_
    | refine ok_skip ?_
    | (refine ok_region (i := 0) ?_; refine ok_p rfl rfl rfl (by exact ps_assign rfl rfl) ?_; refine ok_p rfl rfl rfl (by exact ps_assign rfl rfl) ?_; refine ok_nil ?_; refine ok_env [(0, _), (1, _)] ⟨rfl, rfl, trivial⟩ ?_)
    | (refine ok_region (i := 1) ?_; refine ok_p rfl rfl rfl (by exact ps_move rfl rfl) ?_; refine ok_m rfl rfl rfl (by exact ms_w1 (fun _ _ _ h => h) rfl rfl (fun _ _ w hw => copyCheck_c g p _ hp hw)) ?_; rintro y7 hy7; refine ok_nil ?_; refine ok_env [(0, _), (1, _)] ⟨rfl, rfl, trivial⟩ ?_)
    | (refine ok_region (i := 2) ?_; refine ok_p rfl rfl rfl (by exact ps_move rfl rfl) ?_; refine ok_p rfl rfl rfl (by exact ps_move rfl rfl) ?_; refine ok_p rfl rfl rfl (by first | exact ps_nil rfl rfl (by first | exact isw_ga _ | exact isw_some _ | exact isw_row 0 rfl (by omega) | exact isw_row 1 rfl (by omega) | exact isw_row 2 rfl (by omega) | exact isw_row 3 rfl (by omega) | exact isw_row 4 rfl (by omega) | exact isw_row 5 rfl (by omega) | exact isw_row 6 rfl (by omega) | exact isw_row 7 rfl (by omega) | exact isw_row 8 rfl (by omega) | exact isw_of (isS_fl (by assumption) (by omega)) | exact isw_of (by assumption)) | exact ps_nil_func rfl rfl) ?_; refine ok_p rfl rfl rfl (by exact ps_field rfl rfl (by first | exact isw_ga _ | exact isw_some _ | exact isw_row 0 rfl (by omega) | exact isw_row 1 rfl (by omega) | exact isw_row 2 rfl (by omega) | exact isw_row 3 rfl (by omega) | exact isw_row 4 rfl (by omega) | exact isw_row 5 rfl (by omega) | exact isw_row 6 rfl (by omega) | exact isw_row 7 rfl (by omega) | exact isw_row 8 rfl (by omega) | exact isw_of (isS_fl (by assumption) (by omega)) | exact isw_of (by assumption))) ?_; refine ok_p rfl rfl rfl (by exact ps_load rfl rfl (by first | exact Rds.cell (rds_box 0 rfl) rfl | exact Rds.cell (rds_box 1 rfl) rfl | exact Rds.cell (rds_box 2 rfl) rfl | exact Rds.cell (rds_box 3 rfl) rfl | exact Rds.cell (rds_box 4 rfl) rfl | exact Rds.cell (rds_box 5 rfl) rfl | exact Rds.cell (rds_box 6 rfl) rfl | exact Rds.cell (rds_box 7 rfl) rfl | exact Rds.cell (rds_box 8 rfl) rfl | exact Rds.cell (rds_box 9 rfl) rfl | exact Rds.cell (rds_box 10 rfl) rfl | exact Rds.cell (rds_box 11 rfl) rfl | exact Rds.cell (rds_box 12 rfl) rfl | exact Rds.cell (rds_box 13 rfl) rfl | exact Rds.cell (rds_box 14 rfl) rfl | exact Rds.cell (rds_box 15 rfl) rfl | exact Rds.cell (rds_box 16 rfl) rfl | exact Rds.cell (rds_box 17 rfl) rfl | exact Rds.cell (rds_box 18 rfl) rfl | exact Rds.cell (rds_box 19 rfl) rfl | exact Rds.cell (rds_box 20 rfl) rfl | exact Rds.cell (rds_box 21 rfl) rfl | exact Rds.cell (rds_box 22 rfl) rfl | exact Rds.cell (rds_box 23 rfl) rfl | exact Rds.cell (rds_rf (by assumption) (by first | exact List.mem_cons_self | exact List.mem_cons_of_mem _ List.mem_cons_self | simp)) (by first | exact fl_at0 _ _ (by omega) (by decide) | exact fl_at _ _ _ (by omega) (by decide)) | exact Rds.cell (rds_row 0 rfl) (by first | exact fl_at0 _ _ (by omega) (by decide) | exact fl_at _ _ _ (by omega) (by decide)) | exact Rds.cell (rds_row 1 rfl) (by first | exact fl_at0 _ _ (by omega) (by decide) | exact fl_at _ _ _ (by omega) (by decide)) | exact Rds.cell (rds_row 2 rfl) (by first | exact fl_at0 _ _ (by omega) (by decide) | exact fl_at _ _ _ (by omega) (by decide)) | exact Rds.cell (rds_row 3 rfl) (by first | exact fl_at0 _ _ (by omega) (by decide) | exact fl_at _ _ _ (by omega) (by decide)) | exact Rds.cell (rds_row 4 rfl) (by first | exact fl_at0 _ _ (by omega) (by decide) | exact fl_at _ _ _ (by omega) (by decide)) | exact Rds.cell (rds_row 5 rfl) (by first | exact fl_at0 _ _ (by omega) (by decide) | exact fl_at _ _ _ (by omega) (by decide)) | exact Rds.cell (rds_row 6 rfl) (by first | exact fl_at0 _ _ (by omega) (by decide) | exact fl_at _ _ _ (by omega) (by decide)) | exact Rds.cell (rds_row 7 rfl) (by first | exact fl_at0 _ _ (by omega) (by decide) | exact fl_at _ _ _ (by omega) (by decide)) | exact Rds.cell (rds_row 8 rfl) (by first | exact fl_at0 _ _ (by omega) (by decide) | exact fl_at _ _ _ (by omega) (by decide)) | exact Rds.cell (rds_row 9 rfl) (by first | exact fl_at0 _ _ (by omega) (by decide) | exact fl_at _ _ _ (by omega) (by decide)))) ?_; refine ok_p rfl rfl rfl (by exact ps_move rfl rfl) ?_; refine ok_m rfl rfl rfl (by exact ms_appS 1 rfl rfl rfl rfl hz) ?_; rintro y14 hy14; refine ok_p rfl rfl rfl (by first | exact ps_nil rfl rfl (by first | exact isw_ga _ | exact isw_some _ | exact isw_row 0 rfl (by omega) | exact isw_row 1 rfl (by omega) | exact isw_row 2 rfl (by omega) | exact isw_row 3 rfl (by omega) | exact isw_row 4 rfl (by omega) | exact isw_row 5 rfl (by omega) | exact isw_row 6 rfl (by omega) | exact isw_row 7 rfl (by omega) | exact isw_row 8 rfl (by omega) | exact isw_of (isS_fl (by assumption) (by omega)) | exact isw_of (by assumption)) | exact ps_nil_func rfl rfl) ?_; refine ok_p rfl rfl rfl (by exact ps_field rfl rfl (by first | exact isw_ga _ | exact isw_some _ | exact isw_row 0 rfl (by omega) | exact isw_row 1 rfl (by omega) | exact isw_row 2 rfl (by omega) | exact isw_row 3 rfl (by omega) | exact isw_row 4 rfl (by omega) | exact isw_row 5 rfl (by omega) | exact isw_row 6 rfl (by omega) | exact isw_row 7 rfl (by omega) | exact isw_row 8 rfl (by omega) | exact isw_of (isS_fl (by assumption) (by omega)) | exact isw_of (by assumption))) ?_; refine ok_m_ rfl rfl (by first | exact ms_store 0 rfl rfl rfl rfl rfl rfl rfl rfl | exact ms_store 1 rfl rfl rfl rfl rfl rfl rfl rfl | exact ms_store 2 rfl rfl rfl rfl rfl rfl rfl rfl | exact ms_store 3 rfl rfl rfl rfl rfl rfl rfl rfl | exact ms_store 4 rfl rfl rfl rfl rfl rfl rfl rfl | exact ms_store 5 rfl rfl rfl rfl rfl rfl rfl rfl | exact ms_store 6 rfl rfl rfl rfl rfl rfl rfl rfl | exact ms_store 7 rfl rfl rfl rfl rfl rfl rfl rfl) ?_; rintro y_ hy_; refine ok_nil ?_; refine ok_env [(1, _)] ⟨rfl, trivial⟩ ?_)
    | (refine ok_region (i := 3) ?_; refine ok_p rfl rfl rfl (by exact ps_move rfl rfl) ?_; refine ok_p rfl rfl rfl (by exact ps_slen rfl rfl) ?_; refine ok_p rfl rfl rfl (by exact ps_assign rfl rfl) ?_; refine ok_p rfl rfl rfl (by exact ps_assign rfl rfl) ?_; refine ok_nil ?_; refine ok_env [(4, _), (5, _)] ⟨rfl, rfl, trivial⟩ ?_))
  exact ok_endL (vs := [_, _]) rfl ⟨rfl, rfl, trivial⟩ (fun w' hw => ⟨y14, rfl, trivial, hw⟩)
/-- A builder of no bytes yet. -/
theorem WOk.bld0 {base : Nat} {w0 w : World} {H : List HObj} {G : List World} {g : Nat} (hw : WOk base w0 (.box g 145 [.pointer none, .slice none 0 0] :: H) G w) : WOk base w0 (bldO g (.pointer none) none (⟨#[]⟩ : ByteArray).size 0 :: .row 5 1 none (⟨#[]⟩ : ByteArray).size 0 (byteVs (bl ⟨#[]⟩)) :: H) G w := (hw.rowNil 5 1).front 1 rfl
/-- What a call that leaves nothing behind may forget. -/
theorem ms_noG {P : Program} {E : Env} {H : List HObj} {G : List World} {o : Oper} {F : Ys → Prop} {v : Ys → Value} {H' : Ys → List HObj} {G' : Ys → List World} (h : MStep P E H [] o F v H' G') : MStep P E H G o F v H' G' := fun N base w0 a w Q K he hw hK =>
  h N base w0 a w Q K he ⟨hw.below, hw.le, hw.own, hw.apart, fun m hm => by cases hm⟩ hK
theorem ba_bl (s : ByteArray) : (⟨(bl s).toArray⟩ : ByteArray) = s := by apply ByteArray.ext; simp
/-- The bytes are read, and the builder is let go. -/
theorem bldS_c (g : Nat) (p : Value) (A : Option Addr) (c : Nat) (t : ByteArray) (hp : p = .pointer none ∨ p = .pointer (some ⟨g, 0, none⟩)) (h0 : 0 < t.size) {base : Nat} {w0 w : World} {H : List HObj}
    (hw : WOk base w0 (bldO g p A t.size c :: .row 5 1 A t.size c (byteVs (bl t)) :: H) [] w) :
    Calls Try.prog 123 #[pt (ga g) 0] w fun e w' => ∃ y : Ys, e = .returned (.string t) ∧ True ∧ WOk base w0 [] [] w' := by
  obtain ⟨hb, hh⟩ := hw.own _ List.mem_cons_self
  have hr := hw.own (.row 5 1 A t.size c (byteVs (bl t))) (by simp)
  have hga : ¬ blk A = some g := (List.pairwise_cons.1 hw.apart).1 (.row 5 1 A t.size c (byteVs (bl t))) (by simp) g rfl
  rw [pt_ga]
  have hat : Lib.BuilderAt 145 5 base g p (Lib.byteCells (bl t)) w := ⟨hb, _, hh, by rw [Lib.byteCells_length, bl_len]; exact hr, by rw [ownBlock_slice]; exact hga⟩
  refine (Any.Builder_String (ρ := sh_lays105_ren) { sh_lays105 with } sh_Builder_Extra_105 base g (bl t) w (by rcases hp with rfl | rfl; exact .inl hat; exact .inr hat) (fun e => by have := bl_len t; rw [e] at this; simp at this; omega)).mono ?_
  rintro e w' ⟨rfl, hbel⟩
  rw [ba_bl]
  exact ⟨mkY none 0 w, rfl, trivial, hw.below.trans hbel, Nat.le_trans hw.le hbel.size, (fun _ h => by cases h), List.Pairwise.nil, (fun m hm => by cases hm)⟩
end Go.Proofs.Ytbegbdfbfbkflaa
/- ShowDelta of both programs. -/
namespace Go.Proofs.Ytbegbdfbfbkflaa
open Go.RowKit
set_option maxHeartbeats 4000000
set_option maxRecDepth 20000
set_option linter.unusedVariables false
set_option linter.unusedSimpArgs false
attribute [local irreducible] Calls
theorem vS_pos (n : Nat) : 0 < (vS n).size := by
  show 0 < (varL n).toArray.size
  rw [List.size_toArray]
  unfold varL varF
  split <;> simp
attribute [local irreducible] rawU rawD pieceS vS fShowDelta deltaOk
theorem show_no {U : List KV} {D : List ByteArray} (h : deltaOk U D = false) : fShowDelta ⟨U, D⟩ = ⟨#[]⟩ := by unfold fShowDelta; rw [if_neg (by rw [h]; decide)]
theorem show_yes {U : List KV} {D : List ByteArray} (h : deltaOk U D = true) : fShowDelta ⟨U, D⟩ = rawD U D D.length := by unfold fShowDelta; rw [if_pos h]; rfl
theorem s_ShowDelta0 (A0 A1 : Option Addr) (c0 c1 : Nat) (U : List KV) (D : List ByteArray) (w : World) (h0 : Rd w A0 (fl U)) (h1 : Rd w A1 (fl D)) (m0 : U.length ≤ 1048576) (m1 : D.length ≤ 1048576) :
    Calls Try.prog 61 #[.agg #[.slice A0 U.length c0, .slice A1 D.length c1]] w fun e w' => e = .returned (.string (fShowDelta ⟨U, D⟩)) ∧ Below w.heap.size w w' := by
  refine ok_enter 59 Try.func61 rfl rfl rfl ?_
  repeat' (first
    | refine ok_seq ?_
    | refine ok_then ?_
    | refine ok_then_ret ?_
    | refine ok_block ?_
    | (refine ok_cond rfl (fun hc => ?_) (fun hc => ?_) <;> (have hd := hc; (try simp only [decide_eq_true_eq, decide_eq_false_iff_not, Bool.or_eq_true, Bool.or_eq_false_iff, Bool.and_eq_true, Bool.and_eq_false_iff, Bool.not_eq_true', Bool.not_eq_false', bne_iff_ne, beq_iff_eq, bne_eq_false_iff_eq, beq_eq_false_iff_ne, ne_eq, Bool.not_true, Bool.not_false, Bool.false_eq_true, Bool.true_eq_false, inB_true, inB_false] at hd)))
    | refine ok_ret ?_
    | refine ok_skip ?_
    | (refine ok_region (i := 0) ?_; refine ok_m rfl rfl rfl (by exact ms_box rfl rfl rfl) ?_; rintro y1 hy1; refine ok_p rfl rfl rfl (by exact ps_assign rfl rfl) ?_; refine ok_nil ?_; refine ok_env [(1, _)] ⟨rfl, trivial⟩ ?_)
    | (refine ok_region (i := 1) ?_; refine ok_p rfl rfl rfl (by exact ps_loads rfl rfl (by exact rds_box 0 rfl) rfl rfl (by decide)) ?_; refine ok_m rfl rfl rfl (by exact ms_s1 rfl rfl (fun _ _ w hw => s_DeltaOk A0 _ A1 _ U D w (rds_rf h0 (by exact List.mem_cons_self) _ _ w hw) (rds_rf h1 (by exact List.mem_cons_self) _ _ w hw) m0 m1)) ?_; rintro y7 hy7; refine ok_p rfl rfl rfl (by exact ps_not rfl rfl) ?_; refine ok_nil ?_; refine ok_env [(1, _), (8, _)] ⟨rfl, rfl, trivial⟩ ?_)
    | (refine ok_region (i := 2) ?_; refine ok_p rfl rfl rfl (by exact ps_assign rfl rfl) ?_; refine ok_nil ?_; refine ok_env [(2, _)] ⟨rfl, trivial⟩ ?_)
    | (refine ok_region (i := 3) ?_; refine ok_p rfl rfl rfl (by exact ps_field rfl rfl (by exact isw_ga _)) ?_; refine ok_p rfl rfl rfl (by exact ps_load rfl rfl (by exact Rds.cell (rds_box 0 rfl) rfl)) ?_; refine ok_p rfl rfl rfl (by exact ps_len rfl rfl) ?_; refine ok_m rfl rfl rfl (by exact ms_s1 rfl rfl (fun _ _ w hw => xs_Var_v U.length (by omega) w)) ?_; rintro y12 hy12; refine ok_p rfl rfl rfl (by exact ps_assign rfl rfl) ?_; refine ok_nil ?_; refine ok_env [(1, _), (3, _)] ⟨rfl, rfl, trivial⟩ ?_)
    | (refine ok_region (i := 4) ?_; refine ok_p rfl rfl rfl (by exact ps_assign rfl rfl) ?_; refine ok_nil ?_; refine ok_env [(1, _), (3, _), (4, _)] ⟨rfl, rfl, rfl, trivial⟩ ?_))
  · rw [show_no hd]
    exact ok_endL (vs := [_]) rfl ⟨rfl, trivial⟩ (fun w' hw => ⟨rfl, hw.below⟩)
  have HK := Lib.hid hd
  rw [show_yes hd]
  clear hc hd
  refine ok_loop (ι := { k : Nat // k ≤ U.length }) (fun q => U.length - q.1) (fun q => ([(1, pt (ga (y1 0).c) 0), (3, .string (rawU U q.1)), (4, .int .i64 q.1)], [_], _)) ⟨0, by omega⟩ (fun a w he hw => ⟨⟨0, by omega⟩, he.sub ⟨rfl, by rw [rawU_zero]; rfl, rfl, trivial⟩, hw⟩) ?_
  rintro ⟨k, hk⟩
  simp only at hk ⊢
  repeat' (first
    | refine ok_seq ?_
    | refine ok_then ?_
    | refine ok_block ?_
    | refine ok_in_normal ?_
    | (refine ok_cond rfl (fun hc => ?_) (fun hc => ?_) <;> (have hd := hc; (try simp only [decide_eq_true_eq, decide_eq_false_iff_not, Bool.or_eq_true, Bool.or_eq_false_iff, Bool.and_eq_true, Bool.and_eq_false_iff, Bool.not_eq_true', Bool.not_eq_false', bne_iff_ne, beq_iff_eq, bne_eq_false_iff_eq, beq_eq_false_iff_ne, ne_eq, Bool.not_true, Bool.not_false, Bool.false_eq_true, Bool.true_eq_false, inB_true, inB_false] at hd)))
    | refine ok_exit ?_
    | refine ok_skip ?_
    | (refine ok_region (i := 5) ?_; refine ok_p rfl rfl rfl (by exact ps_move rfl rfl) ?_; refine ok_p rfl rfl rfl (by exact ps_field rfl rfl (by exact isw_ga _)) ?_; refine ok_p rfl rfl rfl (by exact ps_load rfl rfl (by exact Rds.cell (rds_box 0 rfl) rfl)) ?_; refine ok_p rfl rfl rfl (by exact ps_len rfl rfl) ?_; refine ok_p rfl rfl rfl (by exact ps_int rfl rfl rfl rfl) ?_; refine ok_nil ?_; refine ok_env [(1, _), (3, _), (4, _), (17, _)] ⟨rfl, rfl, rfl, rfl, trivial⟩ ?_)
    | (refine ok_region (i := 6) ?_; refine ok_p rfl rfl rfl (by exact ps_move rfl rfl) ?_; refine ok_p rfl rfl rfl (by exact ps_add rfl rfl rfl (by omega)) ?_; refine ok_p rfl rfl rfl (by exact ps_assign rfl rfl) ?_; refine ok_nil ?_; refine ok_env [(1, _), (3, _), (4, _)] ⟨rfl, rfl, rfl, trivial⟩ ?_)
    | (refine ok_draw (id := 7) 18 rfl (by kernel_rfl) (by kernel_rfl) rfl (by repeat (first | exact pq_body | refine pq_then ?_ | refine pq_in ?_)) [0, 1, 2, 3, 4, 5, 6, 7, 8, 9, 10, 11, 12, 13, 14, 15, 16, 17, 18, 19, 20, 21, 22, 23] (by decide) rfl ?_; refine okT_take (i := 0) rfl (by kernel_rfl) rfl rfl rfl (by exact ps_move rfl rfl) ?_; refine okT_take (i := 1) rfl (by kernel_rfl) rfl rfl rfl (by exact ps_field rfl rfl (by exact isw_ga _)) ?_; refine okT_take (i := 2) rfl (by kernel_rfl) rfl rfl rfl (by exact ps_load rfl rfl (by exact Rds.cell (rds_box 0 rfl) rfl)) ?_; refine okT_take (i := 3) rfl (by kernel_rfl) rfl rfl rfl (by exact ps_move rfl rfl) ?_; refine okT_take (i := 4) rfl (by kernel_rfl) rfl rfl rfl (by exact ps_indexN rfl rfl rfl (by omega) (by exact isw_of (isS_fl (by assumption) (by omega)))) ?_; refine okT_take (i := 5) rfl (by kernel_rfl) rfl rfl rfl (by exact ps_field rfl rfl (by exact isw_of (isS_fl (by assumption) (by omega)))) ?_; refine okT_take (i := 6) rfl (by kernel_rfl) rfl rfl rfl (by exact ps_load rfl rfl (by exact Rds.cell (rds_rf (by assumption) (by exact List.mem_cons_self)) (by exact fl_at0 _ _ (by omega) (by decide)))) ?_; refine okT_take (i := 9) rfl (by kernel_rfl) rfl rfl rfl (by exact ps_field rfl rfl (by exact isw_ga _)) ?_; refine okT_take (i := 10) rfl (by kernel_rfl) rfl rfl rfl (by exact ps_load rfl rfl (by exact Rds.cell (rds_box 0 rfl) rfl)) ?_; refine okT_take (i := 11) rfl (by kernel_rfl) rfl rfl rfl (by exact ps_move rfl rfl) ?_; refine okT_take (i := 12) rfl (by kernel_rfl) rfl rfl rfl (by exact ps_indexN rfl rfl rfl (by omega) (by exact isw_of (isS_fl (by assumption) (by omega)))) ?_; refine okT_take (i := 13) rfl (by kernel_rfl) rfl rfl rfl (by exact ps_field rfl rfl (by exact isw_of (isS_fl (by assumption) (by omega)))) ?_; refine okT_take (i := 14) rfl (by kernel_rfl) rfl rfl rfl (by exact ps_load rfl rfl (by exact Rds.cell (rds_rf (by assumption) (by exact List.mem_cons_self)) (by exact fl_at _ _ _ (by omega) (by decide)))) ?_; refine okT_one (i := 7) rfl rfl (by kernel_rfl) rfl rfl rfl (by exact ms_s1 rfl (by exact rfl) (fun _ _ w hw => sPiece_any _ (by have := mapOk_sz (deltaOk_map HK.out) k (by omega); omega) w)) (fun y w _ h => by exact h) ?_; rintro y27 hy27; refine okT_take (i := 8) rfl (by kernel_rfl) rfl rfl rfl (by exact ps_sadd rfl (by exact rfl) (by exact rfl) (by have := mapOk_sz (deltaOk_map HK.out) k (by omega); have := rawU_size (deltaOk_map HK.out) k hk; have := pieceS_size (nth U k).key; omega)) ?_; refine okT_one (i := 15) rfl rfl (by kernel_rfl) rfl rfl rfl (by exact ms_s1 rfl (by exact rfl) (fun _ _ w hw => sPiece_any _ (by have := mapOk_sz (deltaOk_map HK.out) k (by omega); omega) w)) (fun y w _ h => by exact h) ?_; rintro y35 hy35; refine okT_take (i := 16) rfl (by kernel_rfl) rfl rfl rfl (by exact ps_sadd rfl (by exact rfl) (by exact rfl) (by have := mapOk_sz (deltaOk_map HK.out) k (by omega); have := rawU_size (deltaOk_map HK.out) k hk; have := pieceS_size (nth U k).key; have := pieceS_size (nth U k).val; simp only [ByteArray.size_append]; omega)) ?_; refine okT_take (i := 17) rfl (by kernel_rfl) rfl rfl rfl (by exact ps_assign rfl rfl) ?_; refine okT_done (by kernel_rfl) ?_; refine ok_nil ?_; refine ok_env [(1, _), (3, _), (4, _)] ⟨rfl, rfl, rfl, trivial⟩ ?_)
    | (refine ok_region (i := 8) ?_; refine ok_p rfl rfl rfl (by exact ps_move rfl rfl) ?_; refine ok_p rfl rfl rfl (by exact ps_field rfl rfl (by exact isw_ga _)) ?_; refine ok_p rfl rfl rfl (by exact ps_load rfl rfl (by exact Rds.cell (rds_box 0 rfl) rfl)) ?_; refine ok_p rfl rfl rfl (by exact ps_len rfl rfl) ?_; refine ok_m rfl rfl rfl (by exact ms_s1 rfl rfl (fun _ _ w hw => xs_Var_v D.length (by omega) w)) ?_; rintro y41 hy41; refine ok_p rfl rfl rfl (by exact ps_sadd rfl (by exact rfl) (by exact rfl) (by have := rawU_size (deltaOk_map HK.out) k hk; have := vS_size D.length; omega)) ?_; refine ok_p rfl rfl rfl (by exact ps_assign rfl rfl) ?_; refine ok_nil ?_; refine ok_env [(1, _), (3, _)] ⟨rfl, rfl, trivial⟩ ?_)
    | (refine ok_region (i := 9) ?_; refine ok_p rfl rfl rfl (by exact ps_assign rfl rfl) ?_; refine ok_nil ?_; refine ok_env [(1, _), (3, _), (5, _)] ⟨rfl, rfl, rfl, trivial⟩ ?_))
  · have e : rawU U (k + 1) = rawU U k ++ pieceS (nth U k).key ++ pieceS (nth U k).val := by rw [rawU_step (by omega), ByteArray.append_assoc]
    rw [← e]
    exact fun a w' he hw => ⟨⟨k + 1, by omega⟩, by simp only; omega, he.sub ⟨rfl, rfl, rfl, trivial⟩, hw⟩
  obtain rfl : k = U.length := by omega
  refine ok_loop (ι := { k : Nat // k ≤ D.length }) (fun q => D.length - q.1) (fun q => ([(1, pt (ga (y1 0).c) 0), (3, .string (rawD U D q.1)), (5, .int .i64 q.1)], [_], _)) ⟨0, by omega⟩ (fun a w he hw => ⟨⟨0, by omega⟩, he.sub ⟨rfl, by rw [rawD_zero]; rfl, rfl, trivial⟩, hw⟩) ?_
  rintro ⟨k, hk⟩
  simp only at hk ⊢
  repeat' (first
    | refine ok_seq ?_
    | refine ok_then ?_
    | refine ok_block ?_
    | refine ok_in_normal ?_
    | (refine ok_cond rfl (fun hc => ?_) (fun hc => ?_) <;> (have hd := hc; (try simp only [decide_eq_true_eq, decide_eq_false_iff_not, Bool.or_eq_true, Bool.or_eq_false_iff, Bool.and_eq_true, Bool.and_eq_false_iff, Bool.not_eq_true', Bool.not_eq_false', bne_iff_ne, beq_iff_eq, bne_eq_false_iff_eq, beq_eq_false_iff_ne, ne_eq, Bool.not_true, Bool.not_false, Bool.false_eq_true, Bool.true_eq_false, inB_true, inB_false] at hd)))
    | refine ok_ret ?_
    | refine ok_exit ?_
    | refine ok_skip ?_
    | (refine ok_region (i := 10) ?_; refine ok_p rfl rfl rfl (by exact ps_move rfl rfl) ?_; refine ok_p rfl rfl rfl (by exact ps_field rfl rfl (by exact isw_ga _)) ?_; refine ok_p rfl rfl rfl (by exact ps_load rfl rfl (by exact Rds.cell (rds_box 0 rfl) rfl)) ?_; refine ok_p rfl rfl rfl (by exact ps_len rfl rfl) ?_; refine ok_p rfl rfl rfl (by exact ps_int rfl rfl rfl rfl) ?_; refine ok_nil ?_; refine ok_env [(1, _), (3, _), (5, _), (47, _)] ⟨rfl, rfl, rfl, rfl, trivial⟩ ?_)
    | (refine ok_region (i := 11) ?_; refine ok_p rfl rfl rfl (by exact ps_move rfl rfl) ?_; refine ok_p rfl rfl rfl (by exact ps_add rfl rfl rfl (by omega)) ?_; refine ok_p rfl rfl rfl (by exact ps_assign rfl rfl) ?_; refine ok_nil ?_; refine ok_env [(1, _), (3, _), (5, _)] ⟨rfl, rfl, rfl, trivial⟩ ?_)
    | (refine ok_region (i := 12) ?_; refine ok_p rfl rfl rfl (by exact ps_move rfl rfl) ?_; refine ok_p rfl rfl rfl (by exact ps_field rfl rfl (by exact isw_ga _)) ?_; refine ok_p rfl rfl rfl (by exact ps_load rfl rfl (by exact Rds.cell (rds_box 0 rfl) rfl)) ?_; refine ok_p rfl rfl rfl (by exact ps_move rfl rfl) ?_; refine ok_p rfl rfl rfl (by exact ps_indexN rfl rfl rfl (by omega) (by exact isw_of (isS_fl (by assumption) (by omega)))) ?_; refine ok_p rfl rfl rfl (by exact ps_load rfl rfl (by exact Rds.cell (rds_rf (by assumption) (by exact List.mem_cons_self)) (by exact fl_at0 _ _ (by omega) (by decide)))) ?_; refine ok_m rfl rfl rfl (by exact ms_s1 rfl rfl (fun _ _ w hw => sPiece_any _ (by have := deltaOk_szD HK.out k (by omega); omega) w)) ?_; rintro y56 hy56; refine ok_p rfl rfl rfl (by exact ps_sadd rfl rfl rfl (by have := deltaOk_szD HK.out k (by omega); have := rawD_size HK.out k hk; have := pieceS_size (nth D k); omega)) ?_; refine ok_p rfl rfl rfl (by exact ps_assign rfl rfl) ?_; refine ok_nil ?_; refine ok_env [(1, _), (3, _), (5, _)] ⟨rfl, rfl, rfl, trivial⟩ ?_)
    | (refine ok_region (i := 13) ?_; refine ok_p rfl rfl rfl (by exact ps_move rfl rfl) ?_; refine ok_p rfl rfl rfl (by exact ps_assign rfl rfl) ?_; refine ok_nil ?_; refine ok_env [(2, _)] ⟨rfl, trivial⟩ ?_))
  · rw [← rawD_step (by omega)]
    exact fun a w' he hw => ⟨⟨k + 1, by omega⟩, by simp only; omega, he.sub ⟨rfl, rfl, rfl, trivial⟩, hw⟩
  · obtain rfl : k = D.length := by omega
    exact ok_endL (vs := [_]) rfl ⟨rfl, trivial⟩ (fun w' hw => ⟨rfl, hw.below⟩)
structure ShI (n : Nat) where
  k : Nat
  A : Option Addr
  c : Nat
  hk : k ≤ n
theorem i_ShowDelta0 (A0 A1 : Option Addr) (c0 c1 : Nat) (U : List KV) (D : List ByteArray) (w : World) (h0 : Rd w A0 (fl U)) (h1 : Rd w A1 (fl D)) (m0 : U.length ≤ 1048576) (m1 : D.length ≤ 1048576) :
    Calls Try.prog 53 #[.agg #[.slice A0 U.length c0, .slice A1 D.length c1]] w fun e w' => e = .returned (.string (fShowDelta ⟨U, D⟩)) ∧ Below w.heap.size w w' := by
  refine ok_enter 49 Try.func53 rfl rfl rfl ?_
  repeat' (first
    | refine ok_seq ?_
    | refine ok_then ?_
    | refine ok_then_ret ?_
    | refine ok_block ?_
    | (refine ok_cond rfl (fun hc => ?_) (fun hc => ?_) <;> (have hd := hc; (try simp only [decide_eq_true_eq, decide_eq_false_iff_not, Bool.or_eq_true, Bool.or_eq_false_iff, Bool.and_eq_true, Bool.and_eq_false_iff, Bool.not_eq_true', Bool.not_eq_false', bne_iff_ne, beq_iff_eq, bne_eq_false_iff_eq, beq_eq_false_iff_ne, ne_eq, Bool.not_true, Bool.not_false, Bool.false_eq_true, Bool.true_eq_false, inB_true, inB_false] at hd)))
    | refine ok_ret ?_
    | refine ok_skip ?_
    | (refine ok_region (i := 0) ?_; refine ok_m rfl rfl rfl (by exact ms_box rfl rfl rfl) ?_; rintro y1 hy1; refine ok_p rfl rfl rfl (by exact ps_assign rfl rfl) ?_; refine ok_nil ?_; refine ok_env [(1, _)] ⟨rfl, trivial⟩ ?_)
    | (refine ok_region (i := 1) ?_; refine ok_p rfl rfl rfl (by exact ps_loads rfl rfl (by exact rds_box 0 rfl) rfl rfl (by decide)) ?_; refine ok_m rfl rfl rfl (by exact ms_s1 rfl rfl (fun _ _ w hw => i_DeltaOk A0 _ A1 _ U D w (rds_rf h0 (by exact List.mem_cons_self) _ _ w hw) (rds_rf h1 (by exact List.mem_cons_self) _ _ w hw) m0 m1)) ?_; rintro y9 hy9; refine ok_p rfl rfl rfl (by exact ps_not rfl rfl) ?_; refine ok_nil ?_; refine ok_env [(1, _), (10, _)] ⟨rfl, rfl, trivial⟩ ?_)
    | (refine ok_region (i := 2) ?_; refine ok_p rfl rfl rfl (by exact ps_assign rfl rfl) ?_; refine ok_nil ?_; refine ok_env [(2, _)] ⟨rfl, trivial⟩ ?_)
    | (refine ok_region (i := 3) ?_; refine ok_m rfl rfl rfl (by exact ms_alloc rfl) ?_; rintro y3 hy3; refine ok_nil ?_; refine ok_env [(1, _), (3, _)] ⟨rfl, rfl, trivial⟩ ?_)
    | (refine ok_region (i := 4) ?_; refine ok_p rfl rfl rfl (by exact ps_field rfl rfl (by exact isw_ga _)) ?_; refine ok_p rfl rfl rfl (by exact ps_load rfl rfl (by exact Rds.cell (rds_box 1 rfl) rfl)) ?_; refine ok_p rfl rfl rfl (by exact ps_len rfl rfl) ?_; refine ok_m rfl rfl rfl (by exact ms_s1 rfl rfl (fun _ _ w hw => xi_Var_v U.length (by omega) w)) ?_; rintro y14 hy14; refine ok_m rfl rfl rfl (by exact ms_w2 (fun _ _ _ h => h.bld0) rfl rfl rfl (fun _ _ w hw => bldW_c (y3 0).c _ _ _ _ (vS U.length) (.inl rfl) (by have := vS_size U.length; show 0 + _ ≤ _; omega) hw)) ?_; rintro y15 hy15; refine ok_nil ?_; refine ok_env [(1, _), (3, _)] ⟨rfl, rfl, trivial⟩ ?_)
    | (refine ok_region (i := 5) ?_; refine ok_p rfl rfl rfl (by exact ps_field rfl rfl (by exact isw_ga _)) ?_; refine ok_p rfl rfl rfl (by exact ps_load rfl rfl (by exact Rds.cell (rds_box 2 rfl) rfl)) ?_; refine ok_p rfl rfl rfl (by exact ps_len rfl rfl) ?_; refine ok_p rfl rfl rfl (by exact ps_move rfl rfl) ?_; refine ok_nil ?_; refine ok_env [(1, _), (3, _), (17, _), (18, _), (19, _)] ⟨rfl, rfl, rfl, rfl, rfl, trivial⟩ ?_))
  · rw [show_no hd]
    exact ok_endL (vs := [_]) rfl ⟨rfl, trivial⟩ (fun w' hw => ⟨rfl, hw.below⟩)
  have HK := Lib.hid hd
  rw [show_yes hd]
  clear hc hd
  have e0 : (⟨#[]⟩ : ByteArray) ++ vS U.length = rawU U 0 := by rw [rawU_zero]; exact ByteArray.empty_append
  rw [e0]
  refine ok_loop (ι := ShI U.length) (fun q => U.length - q.k) (fun q => ([(1, pt (ga (y1 0).c) 0), (3, pt (ga (y3 0).c) 0), (17, .slice A0 U.length c0), (18, .int .i64 U.length), (19, .int .i64 q.k)], [bldO (y3 0).c (.pointer (some ⟨(y3 0).c, 0, none⟩)) q.A (rawU U q.k).size q.c, .row 5 1 q.A (rawU U q.k).size q.c (byteVs (bl (rawU U q.k))), _], _)) ⟨0, none, 0, by omega⟩ (fun a w he hw => ⟨⟨0, _, _, by omega⟩, he.sub ⟨rfl, rfl, rfl, rfl, rfl, trivial⟩, hw⟩) ?_
  rintro ⟨k, A, c, hk⟩
  simp only at hk ⊢
  repeat' (first
    | refine ok_seq ?_
    | refine ok_then ?_
    | refine ok_block ?_
    | refine ok_in_normal ?_
    | (refine ok_cond rfl (fun hc => ?_) (fun hc => ?_) <;> (have hd := hc; (try simp only [decide_eq_true_eq, decide_eq_false_iff_not, Bool.or_eq_true, Bool.or_eq_false_iff, Bool.and_eq_true, Bool.and_eq_false_iff, Bool.not_eq_true', Bool.not_eq_false', bne_iff_ne, beq_iff_eq, bne_eq_false_iff_eq, beq_eq_false_iff_ne, ne_eq, Bool.not_true, Bool.not_false, Bool.false_eq_true, Bool.true_eq_false, inB_true, inB_false] at hd)))
    | refine ok_exit ?_
    | refine ok_skip ?_
    | (refine ok_region (i := 6) ?_; refine ok_p rfl rfl rfl (by exact ps_int rfl rfl rfl rfl) ?_; refine ok_nil ?_; refine ok_env [(1, _), (3, _), (17, _), (18, _), (19, _), (20, _)] ⟨rfl, rfl, rfl, rfl, rfl, rfl, trivial⟩ ?_)
    | (refine ok_region (i := 7) ?_; refine ok_p rfl rfl rfl (by exact ps_indexN rfl rfl rfl (by omega) (by exact isw_of (isS_fl (by assumption) (by omega)))) ?_; refine ok_p rfl rfl rfl (by exact ps_loadsF rfl rfl (by exact rds_rf (by assumption) (by exact List.mem_cons_self)) (by rfl) (by rfl) (by omega) rfl) ?_; refine ok_m rfl rfl rfl (by exact ms_alloc rfl) ?_; rintro y5 hy5; refine ok_m_ rfl rfl (by exact ms_store 0 rfl rfl rfl rfl rfl rfl rfl rfl) ?_; rintro y_ hy_; refine ok_nil ?_; refine ok_env [(1, _), (3, _), (5, _), (17, _), (18, _), (19, _)] ⟨rfl, rfl, rfl, rfl, rfl, rfl, trivial⟩ ?_)
    | (refine ok_draw (id := 8) 8 rfl (by kernel_rfl) (by kernel_rfl) rfl (by repeat (first | exact pq_body | refine pq_then ?_ | refine pq_in ?_)) [0] (by decide) rfl ?_; refine okT_take (i := 0) rfl (by kernel_rfl) rfl rfl rfl (by exact ps_field rfl rfl (by exact isw_ga _)) ?_; refine okT_take (i := 1) rfl (by kernel_rfl) rfl rfl rfl (by exact ps_load rfl rfl (by exact Rds.cell (rds_box 0 rfl) rfl)) ?_; refine okT_take (i := 3) rfl (by kernel_rfl) rfl rfl rfl (by exact ps_field rfl rfl (by exact isw_ga _)) ?_; refine okT_take (i := 4) rfl (by kernel_rfl) rfl rfl rfl (by exact ps_load rfl rfl (by exact Rds.cell (rds_box 0 rfl) rfl)) ?_; refine okT_one (i := 2) rfl rfl (by kernel_rfl) rfl rfl rfl (by exact ms_s1 rfl (by exact rfl) (fun _ _ w hw => iPiece_any _ (by have := mapOk_sz (deltaOk_map HK.out) k (by omega); omega) w)) (fun y w _ h => by exact h.sel [0] (by decide) rfl (fun _ h => h)) ?_; rintro y25 hy25; refine okT_one (i := 5) rfl rfl (by kernel_rfl) rfl rfl rfl (by exact ms_s1 rfl (by exact rfl) (fun _ _ w hw => iPiece_any _ (by have := mapOk_sz (deltaOk_map HK.out) k (by omega); omega) w)) (fun y w _ h => by exact h.sel [0] (by decide) rfl (fun _ h => h)) ?_; rintro y28 hy28; refine okT_take (i := 6) rfl (by kernel_rfl) rfl rfl rfl (by exact ps_sadd rfl (by exact rfl) (by exact rfl) (by have := mapOk_sz (deltaOk_map HK.out) k (by omega); have := pieceS_size (nth U k).key; have := pieceS_size (nth U k).val; omega)) ?_; refine okT_one (i := 7) rfl rfl (by kernel_rfl) rfl rfl rfl (by exact ms_w2 (fun _ _ _ h => (h.front 2 rfl).front 2 rfl) rfl rfl rfl (fun _ _ w hw => bldW_c (y3 0).c _ _ _ _ _ (.inr rfl) (by have := mapOk_sz (deltaOk_map HK.out) k (by omega); have := rawU_size (deltaOk_map HK.out) k hk; have := pieceS_size (nth U k).key; have := pieceS_size (nth U k).val; simp only [ByteArray.size_append]; omega) hw)) (fun y w _ h => by exact h.tl.tl.sel [0] (by decide) rfl (fun _ h => h)) ?_; rintro y30 hy30; refine okT_done (by kernel_rfl) ?_; refine ok_nil ?_; refine ok_env [(1, _), (3, _), (17, _), (18, _), (19, _)] ⟨rfl, rfl, rfl, rfl, rfl, trivial⟩ ?_)
    | (refine ok_region (i := 9) ?_; refine ok_p rfl rfl rfl (by exact ps_add rfl rfl rfl (by omega)) ?_; refine ok_p rfl rfl rfl (by exact ps_move rfl rfl) ?_; refine ok_nil ?_; refine ok_env [(1, _), (3, _), (17, _), (18, _), (19, _)] ⟨rfl, rfl, rfl, rfl, rfl, trivial⟩ ?_)
    | (refine ok_region (i := 10) ?_; refine ok_p rfl rfl rfl (by exact ps_field rfl rfl (by exact isw_ga _)) ?_; refine ok_p rfl rfl rfl (by exact ps_load rfl rfl (by exact Rds.cell (rds_box 2 rfl) rfl)) ?_; refine ok_p rfl rfl rfl (by exact ps_len rfl rfl) ?_; refine ok_m rfl rfl rfl (by exact ms_s1 rfl rfl (fun _ _ w hw => xi_Var_v D.length (by omega) w)) ?_; rintro y35 hy35; refine ok_m rfl rfl rfl (by exact ms_w2 (fun _ _ _ h => h) rfl rfl rfl (fun _ _ w hw => bldW_c (y3 0).c _ _ _ _ (vS D.length) (.inr rfl) (by have := vS_size D.length; have := rawU_size (deltaOk_map HK.out) k hk; omega) hw)) ?_; rintro y36 hy36; refine ok_nil ?_; refine ok_env [(1, _), (3, _)] ⟨rfl, rfl, trivial⟩ ?_)
    | (refine ok_region (i := 11) ?_; refine ok_p rfl rfl rfl (by exact ps_field rfl rfl (by exact isw_ga _)) ?_; refine ok_p rfl rfl rfl (by exact ps_load rfl rfl (by exact Rds.cell (rds_box 2 rfl) rfl)) ?_; refine ok_p rfl rfl rfl (by exact ps_len rfl rfl) ?_; refine ok_p rfl rfl rfl (by exact ps_move rfl rfl) ?_; refine ok_nil ?_; refine ok_env [(3, _), (38, _), (39, _), (40, _)] ⟨rfl, rfl, rfl, rfl, trivial⟩ ?_))
  · rw [← rawU_step (by omega)]
    exact fun a w' he hw => ⟨⟨k + 1, _, _, by omega⟩, by simp only; omega, he.sub ⟨rfl, rfl, rfl, rfl, rfl, trivial⟩, hw.sel [0, 1, 3] (by decide) rfl (fun _ h => h)⟩
  obtain rfl : k = U.length := by omega
  rw [← rawD_zero]
  have hne : 0 < (rawD U D D.length).size := by
    have := vS_pos U.length
    unfold rawD rawU
    simp only [ByteArray.size_append]
    omega
  refine ok_loop (ι := ShI D.length) (fun q => D.length - q.k) (fun q => ([(3, pt (ga (y3 0).c) 0), (38, .slice A1 D.length c1), (39, .int .i64 D.length), (40, .int .i64 q.k)], [bldO (y3 0).c (.pointer (some ⟨(y3 0).c, 0, none⟩)) q.A (rawD U D q.k).size q.c, .row 5 1 q.A (rawD U D q.k).size q.c (byteVs (bl (rawD U D q.k))), _], _)) ⟨0, none, 0, by omega⟩ (fun a w he hw => ⟨⟨0, _, _, by omega⟩, he.sub ⟨rfl, rfl, rfl, rfl, trivial⟩, hw⟩) ?_
  rintro ⟨k, A', c', hk⟩
  simp only at hk ⊢
  repeat' (first
    | refine ok_seq ?_
    | refine ok_then ?_
    | refine ok_block ?_
    | refine ok_in_normal ?_
    | (refine ok_cond rfl (fun hc => ?_) (fun hc => ?_) <;> (have hd := hc; (try simp only [decide_eq_true_eq, decide_eq_false_iff_not, Bool.or_eq_true, Bool.or_eq_false_iff, Bool.and_eq_true, Bool.and_eq_false_iff, Bool.not_eq_true', Bool.not_eq_false', bne_iff_ne, beq_iff_eq, bne_eq_false_iff_eq, beq_eq_false_iff_ne, ne_eq, Bool.not_true, Bool.not_false, Bool.false_eq_true, Bool.true_eq_false, inB_true, inB_false] at hd)))
    | refine ok_ret ?_
    | refine ok_exit ?_
    | refine ok_skip ?_
    | (refine ok_region (i := 12) ?_; refine ok_p rfl rfl rfl (by exact ps_int rfl rfl rfl rfl) ?_; refine ok_nil ?_; refine ok_env [(3, _), (38, _), (39, _), (40, _), (41, _)] ⟨rfl, rfl, rfl, rfl, rfl, trivial⟩ ?_)
    | (refine ok_region (i := 13) ?_; refine ok_p rfl rfl rfl (by exact ps_indexN rfl rfl rfl (by omega) (by exact isw_of (isS_fl (by assumption) (by omega)))) ?_; refine ok_p rfl rfl rfl (by exact ps_load rfl rfl (by exact Rds.cell (rds_rf (by assumption) (by exact List.mem_cons_self)) (by exact fl_at0 _ _ (by omega) (by decide)))) ?_; refine ok_p rfl rfl rfl (by exact ps_assign rfl rfl) ?_; refine ok_nil ?_; refine ok_env [(3, _), (7, _), (38, _), (39, _), (40, _)] ⟨rfl, rfl, rfl, rfl, rfl, trivial⟩ ?_)
    | (refine ok_region (i := 14) ?_; refine ok_p rfl rfl rfl (by exact ps_move rfl rfl) ?_; refine ok_m rfl rfl rfl (by exact ms_s1 rfl rfl (fun _ _ w hw => iPiece_any _ (by have := deltaOk_szD HK.out k (by omega); omega) w)) ?_; rintro y45 hy45; refine ok_m rfl rfl rfl (by exact ms_w2 (fun _ _ _ h => h) rfl rfl rfl (fun _ _ w hw => bldW_c (y3 0).c _ _ _ _ _ (.inr rfl) (by have := deltaOk_szD HK.out k (by omega); have := rawD_size HK.out k hk; have := pieceS_size (nth D k); omega) hw)) ?_; rintro y46 hy46; refine ok_nil ?_; refine ok_env [(3, _), (38, _), (39, _), (40, _)] ⟨rfl, rfl, rfl, rfl, trivial⟩ ?_)
    | (refine ok_region (i := 15) ?_; refine ok_p rfl rfl rfl (by exact ps_add rfl rfl rfl (by omega)) ?_; refine ok_p rfl rfl rfl (by exact ps_move rfl rfl) ?_; refine ok_nil ?_; refine ok_env [(3, _), (38, _), (39, _), (40, _)] ⟨rfl, rfl, rfl, rfl, trivial⟩ ?_)
    | (refine ok_region (i := 16) ?_; refine ok_m rfl rfl rfl (by exact ms_noG (ms_w1 (fun _ _ _ h => h) rfl rfl (fun _ _ w hw => bldS_c (y3 0).c _ _ _ (rawD U D k) (.inr rfl) (by (have e : k = D.length := by omega); rw [e]; exact hne) hw))) ?_; rintro y48 hy48; refine ok_p rfl rfl rfl (by exact ps_assign rfl rfl) ?_; refine ok_nil ?_; refine ok_env [(2, _)] ⟨rfl, trivial⟩ ?_))
  · rw [← rawD_step (by omega)]
    exact fun a w' he hw => ⟨⟨k + 1, _, _, by omega⟩, by simp only; omega, he.sub ⟨rfl, rfl, rfl, rfl, trivial⟩, hw⟩
  · obtain rfl : k = D.length := by omega
    exact ok_endL (vs := [_]) rfl ⟨rfl, trivial⟩ (fun w' hw => ⟨rfl, hw.below⟩)
theorem i_ShowDelta (x : DDelta) (y : Ys) (w : World) (h : Delta_rd w x y) (hs : Delta_sm x) :
    Calls Try.prog 53 #[Delta_val x y] w fun e w' => e = .returned (.string (fShowDelta x)) ∧ Below w.heap.size w w' := i_ShowDelta0 _ _ _ _ x.U x.D w h.1 h.2 hs.1.1 hs.2.1
theorem s_ShowDelta (x : DDelta) (y : Ys) (w : World) (h : Delta_rd w x y) (hs : Delta_sm x) :
    Calls Try.prog 61 #[Delta_val x y] w fun e w' => e = .returned (.string (fShowDelta x)) ∧ Below w.heap.size w w' := s_ShowDelta0 _ _ _ _ x.U x.D w h.1 h.2 hs.1.1 hs.2.1
end Go.Proofs.Ytbegbdfbfbkflaa
/- FnBackup: its draws and its walk. -/
namespace Go.Proofs.Ytbegbdfbfbkflaa
open Go.RowKit
set_option maxHeartbeats 4000000
set_option maxRecDepth 20000
set_option linter.unusedVariables false
set_option linter.unusedSimpArgs false
attribute [local irreducible] Calls
instance : Enc (DKVS × DKVS) := inferInstance
theorem eqKVv (a b : ByteArray) (w : World) : (Op.equalIn 10000 67 (.agg #[.string a, .string b]) (.agg #[.string a, .string b])).run Try.prog w = .ok true w := by
  have u9 := Try.underlying9
  have a9 := Try.isAgg9
  have z9 := Try.sizeOf9
  have hS : Try.prog.underlying 67 = some (.struct (Try.prog.fieldsOf 67)) := by kernel_rfl
  have hp : Try.prog.stoodInHeld 67 = false := by kernel_rfl
  rw [show (10000 : Nat) = 9999 + 1 from rfl, run_equalIn_agg w 9999 67 _ _ hS hp]
  simp only [Program.fieldsOf, Try.underlying67]
  go_simp
  try simp
theorem ps_neKV {E : Env} {H : List HObj} {G : List World} {o : Oper} {x y : Operand} {t' : TypeId} {a b : ByteArray} (ho : o.op = .binOp .neq 67 x y t') (hx : opd E x = some (.agg #[.string a, .string b])) (hy : opd E y = some (.agg #[.string a, .string b])) : PStep Try.prog E H G o (.bool false) := fun N base w0 a w he hw => by
  simp only [execOp, ho, he.eval hx, he.eval hy, Sem.run_bind, run_eqGuard_agg w _ _ _ _ _ _ (show Try.prog.eqGuardType Try.prog.depth 67 = false by kernel_rfl), Result.andThen_ok, run_neq_struct, eqKVv, Sem.run_pure, Bool.not_true]
/-- Bytes that follow from others. -/
structure FsB (n : Nat) where
  k : Nat
  L : List UInt8
  B : Option Addr
  d : Nat
  hk : k ≤ n ∧ L.length = k + 1 ∧ k ≤ 600
theorem fresh_c (A : Option Addr) (c : Nat) (bs : List UInt8) (salt : Int) (hs : 0 ≤ salt ∧ salt ≤ 100) (w : World) (h : Rd w A (fl bs)) (hl : bs.length ≤ 1048576) :
    Calls Try.prog 26 #[.slice A bs.length c, .int .i64 salt] w fun e w' => ∃ y : Ys, e = .returned (.slice (y 0).A (bl (yS (y 1))).length (y 0).c) ∧ (bl (yS (y 1))).length ≤ 601 ∧ Below w.heap.size w w' ∧ NewOk w.heap.size [.row 5 1 (y 0).A (bl (yS (y 1))).length (y 0).c (fl (bl (yS (y 1))))] [] w' := by
  refine ok_enter 37 Try.func26 rfl rfl rfl ?_
  repeat' (first
    | refine ok_seq ?_
    | refine ok_then ?_
    | refine ok_block ?_
    | (refine ok_region (i := 0) ?_; refine ok_p rfl rfl rfl (by exact ps_assign rfl rfl) ?_; refine ok_nil ?_; refine ok_env [(0, _), (1, _)] ⟨rfl, rfl, trivial⟩ ?_)
    | (refine ok_region (i := 1) ?_; refine ok_p rfl rfl rfl (by exact ps_move rfl rfl) ?_; refine ok_p rfl rfl rfl (by exact ps_convI rfl rfl (by omega)) ?_; refine ok_m rfl rfl rfl (by exact ms_lit rfl (parts_cons rfl parts_nil) rfl rfl rfl) ?_; rintro y9 hy9; refine ok_p rfl rfl rfl (by exact ps_assign rfl rfl) ?_; refine ok_nil ?_; refine ok_env [(0, _), (1, _), (5, _)] ⟨rfl, rfl, rfl, trivial⟩ ?_)
    | (refine ok_region (i := 2) ?_; refine ok_p rfl rfl rfl (by exact ps_assign rfl rfl) ?_; refine ok_nil ?_; refine ok_env [(0, _), (1, _), (5, _), (6, _)] ⟨rfl, rfl, rfl, rfl, trivial⟩ ?_))
  refine ok_loop (ι := FsB bs.length) (fun q => bs.length - q.k) (fun q => ([(0, .slice A bs.length c), (1, .int .i64 salt), (5, .slice q.B q.L.length q.d), (6, .int .i64 q.k)], [.row 5 1 q.B q.L.length q.d (fl q.L)], _)) ⟨0, [UInt8.ofNat salt.toNat], ga (y9 0).c, 1, by simp⟩ (fun a w he hw => ⟨⟨0, [UInt8.ofNat salt.toNat], ga (y9 0).c, 1, by simp⟩, he.sub ⟨rfl, rfl, rfl, rfl, trivial⟩, hw⟩) ?_
  rintro ⟨k, L, B, d, hk⟩
  simp only at hk ⊢
  have hbt := UInt8.toNat_lt (nth bs k)
  have h7 : 0 ≤ (k : Int) % 7 ∧ (k : Int) % 7 < 7 := by omega
  have hm0 : 0 ≤ salt * ((k : Int) % 7 + 1) := Int.mul_nonneg hs.1 (by omega)
  have hm1 : salt * ((k : Int) % 7 + 1) ≤ 100 * 7 := Int.mul_le_mul hs.2 (by omega) (by omega) (by omega)
  repeat' (first
    | refine ok_seq ?_
    | refine ok_then ?_
    | refine ok_block ?_
    | refine ok_in_normal ?_
    | (refine ok_cond rfl (fun hc => ?_) (fun hc => ?_) <;> (have hd := hc; (try simp only [decide_eq_true_eq, decide_eq_false_iff_not, Bool.or_eq_true, Bool.or_eq_false_iff, Bool.and_eq_true, Bool.and_eq_false_iff, Bool.not_eq_true', Bool.not_eq_false', bne_iff_ne, beq_iff_eq, bne_eq_false_iff_eq, beq_eq_false_iff_ne, ne_eq, Bool.not_true, Bool.not_false, Bool.false_eq_true, Bool.true_eq_false, inB_true, inB_false] at hd)))
    | refine ok_ret ?_
    | refine ok_exit ?_
    | refine ok_skip ?_
    | (refine ok_region (i := 3) ?_; refine ok_p rfl rfl rfl (by exact ps_move rfl rfl) ?_; refine ok_p rfl rfl rfl (by exact ps_move rfl rfl) ?_; refine ok_p rfl rfl rfl (by exact ps_len rfl rfl) ?_; refine ok_p rfl rfl rfl (by exact ps_int rfl rfl rfl rfl) ?_; refine ok_p rfl rfl rfl (by exact ps_move rfl rfl) ?_; refine ok_pg rfl rfl rfl rfl rfl (gT _) (fun hp => by (have hpd := hp; (try simp only [decide_eq_true_eq, decide_eq_false_iff_not, Bool.or_eq_true, Bool.or_eq_false_iff, Bool.and_eq_true, Bool.and_eq_false_iff, Bool.not_eq_true', Bool.not_eq_false', bne_iff_ne, beq_iff_eq, bne_eq_false_iff_eq, beq_eq_false_iff_ne, ne_eq, Bool.not_true, Bool.not_false, Bool.false_eq_true, Bool.true_eq_false, inB_true, inB_false] at hpd); exact ps_move rfl (by exact rfl))) ?_; refine ok_pg rfl rfl rfl rfl rfl (gT _) (fun hp => by (have hpd := hp; (try simp only [decide_eq_true_eq, decide_eq_false_iff_not, Bool.or_eq_true, Bool.or_eq_false_iff, Bool.and_eq_true, Bool.and_eq_false_iff, Bool.not_eq_true', Bool.not_eq_false', bne_iff_ne, beq_iff_eq, bne_eq_false_iff_eq, beq_eq_false_iff_ne, ne_eq, Bool.not_true, Bool.not_false, Bool.false_eq_true, Bool.true_eq_false, inB_true, inB_false] at hpd); exact ps_int rfl (by (refine og rfl ?_; assumption)) (by exact rfl) rfl)) ?_; refine ok_p rfl rfl rfl (by exact ps_and rfl rfl rfl) ?_; refine ok_nil ?_; refine ok_env [(0, _), (1, _), (5, _), (6, _), (17, _)] ⟨rfl, rfl, rfl, rfl, rfl, trivial⟩ ?_)
    | (refine ok_region (i := 4) ?_; refine ok_p rfl rfl rfl (by exact ps_move rfl rfl) ?_; refine ok_p rfl rfl rfl (by exact ps_add rfl rfl rfl (by omega)) ?_; refine ok_p rfl rfl rfl (by exact ps_assign rfl rfl) ?_; refine ok_nil ?_; refine ok_env [(0, _), (1, _), (5, _), (6, _)] ⟨rfl, rfl, rfl, rfl, trivial⟩ ?_)
    | (refine ok_region (i := 5) ?_; refine ok_p rfl rfl rfl (by exact ps_move rfl rfl) ?_; refine ok_p rfl rfl rfl (by exact ps_move rfl rfl) ?_; refine ok_p rfl rfl rfl (by exact ps_move rfl rfl) ?_; refine ok_p rfl rfl rfl (by exact ps_indexN rfl rfl rfl (by omega) (by exact isw_of (isS_fl (by assumption) (by omega)))) ?_; refine ok_p rfl rfl rfl (by exact ps_load rfl rfl (Rds.cell (rds_rf h (by exact List.mem_cons_self)) (fl_at0 bs k (by omega) (by decide)))) ?_; refine ok_p rfl rfl rfl (by exact ps_conv_id rfl rfl (IntWalk.i64_in _ (by omega))) ?_; refine ok_p rfl rfl rfl (by exact ps_mul rfl rfl rfl (by omega)) ?_; refine ok_p rfl rfl rfl (by exact ps_move rfl rfl) ?_; refine ok_p rfl rfl rfl (by exact ps_move rfl rfl) ?_; refine ok_p rfl rfl rfl (by exact ps_rem rfl rfl rfl (by omega) (by omega)) ?_; refine ok_p rfl rfl rfl (by exact ps_add rfl rfl rfl (by omega)) ?_; refine ok_p rfl rfl rfl (by exact ps_mul rfl rfl rfl (by omega)) ?_; refine ok_p rfl rfl rfl (by exact ps_add rfl rfl rfl (by omega)) ?_; refine ok_p rfl rfl rfl (by exact ps_convI rfl rfl (by omega)) ?_; refine ok_m rfl rfl rfl (by exact ms_lit rfl (parts_cons rfl parts_nil) rfl rfl rfl) ?_; rintro y34 hy34; refine ok_m rfl rfl rfl (by exact ms_appF (α := UInt8) (L := L) (M := [UInt8.ofNat (((nth bs k).toNat : Int) * 3 + salt * ((k : Int) % 7 + 1)).toNat]) 1 rfl rfl rfl rfl (rds_row 0 rfl) rfl (by simp; omega) (by simp; omega)) ?_; rintro y35 hy35; refine ok_p rfl rfl rfl (by exact ps_assign rfl rfl) ?_; refine ok_nil ?_; refine ok_env [(0, _), (1, _), (5, _), (6, _)] ⟨rfl, rfl, rfl, rfl, trivial⟩ ?_)
    | (refine ok_region (i := 6) ?_; refine ok_p rfl rfl rfl (by exact ps_move rfl rfl) ?_; refine ok_p rfl rfl rfl (by exact ps_assign rfl rfl) ?_; refine ok_nil ?_; refine ok_env [(4, _)] ⟨rfl, trivial⟩ ?_))
  · exact fun a w' he hw => ⟨⟨k + 1, L ++ [UInt8.ofNat (((nth bs k).toNat : Int) * 3 + salt * ((k : Int) % 7 + 1)).toNat], (y35 0).A, (y35 0).c, by rw [List.length_append, List.length_singleton]; omega⟩, by simp only; omega, he.sub ⟨rfl, rfl, by simp only [List.length_append]; rfl, rfl, trivial⟩, by
      have := hw.tl
      simp only [List.length_append]
      exact this⟩
  · exact ok_endL (vs := [_]) rfl ⟨rfl, trivial⟩ (fun w' hw => ⟨yl [⟨B, d, w, 0⟩, mkS ⟨L.toArray⟩ 0 0 w 0] ⟨B, d, w, 0⟩, rfl, by show L.length ≤ 601; omega, hw.below, NewOk.of (hw.sel [0] (by decide) rfl (G' := []) (fun _ h => by cases h))⟩)
end Go.Proofs.Ytbegbdfbfbkflaa
/- FnBackup: its walk. -/
namespace Go.Proofs.Ytbegbdfbfbkflaa
open Go.RowKit
set_option maxHeartbeats 4000000
set_option maxRecDepth 20000
set_option linter.unusedVariables false
set_option linter.unusedSimpArgs false
attribute [local irreducible] Calls
theorem s_dok_e (A0 A1 : Option Addr) (c0 c1 : Nat) (U : List KV) (D : List ByteArray) (he : deltaOk U D = true) (w : World) (h0 : Rd w A0 (fl U)) (h1 : Rd w A1 (fl D)) (m0 : U.length ≤ 1048576) (m1 : D.length ≤ 1048576) :
    Calls Try.prog 57 #[.agg #[.slice A0 U.length c0, .slice A1 D.length c1]] w fun e w' => e = .returned (.bool true) ∧ Below w.heap.size w w' := by
  have := s_DeltaOk A0 c0 A1 c1 U D w h0 h1 m0 m1
  rw [he] at this; exact this
theorem i_join_o (A0 A1 B0 B1 : Option Addr) (c0 c1 d0 d1 : Nat) (a b : DDelta) (sa : Delta_sm a) (sb : Delta_sm b) (w : World) (h0 : Rd w A0 (fl a.U)) (h1 : Rd w A1 (fl a.D)) (k0 : Rd w B0 (fl b.U)) (k1 : Rd w B1 (fl b.D)) :
    Calls Try.prog 60 #[.agg #[.slice A0 a.U.length c0, .slice A1 a.D.length c1], .agg #[.slice B0 b.U.length d0, .slice B1 b.D.length d1]] w fun e w' => ∃ y : Ys, e = .returned (.agg #[.slice (y 0).A (fJoinDelta a b).U.length (y 0).c, .slice (y 1).A (fJoinDelta a b).D.length (y 1).c]) ∧ True ∧ Below w.heap.size w w' ∧ NewOk w.heap.size [.row 67 2 (y 0).A (fJoinDelta a b).U.length (y 0).c (fl (fJoinDelta a b).U), .row 9 1 (y 1).A (fJoinDelta a b).D.length (y 2).c (fl (fJoinDelta a b).D)] [] w' :=
  i_JoinDelta a (yl [⟨A0, c0, w, 0⟩, ⟨A1, c1, w, 0⟩] ⟨A0, c0, w, 0⟩) b (yl [⟨B0, d0, w, 0⟩, ⟨B1, d1, w, 0⟩] ⟨B0, d0, w, 0⟩) w ⟨h0, h1⟩ ⟨k0, k1⟩ sa sb
theorem s_diff_o (A0 A1 : Option Addr) (c0 c1 : Nat) (a b : List KV) (w : World) (h0 : Rd w A0 (fl a)) (h1 : Rd w A1 (fl b)) (m0 : a.length ≤ 1048576) (m1 : b.length ≤ 1048576) :
    Calls Try.prog 177 #[.slice A0 a.length c0, .slice A1 b.length c1] w fun e w' => ∃ y : Ys, e = .returned (.agg #[.slice (y 0).A (fDiffMap a b).U.length (y 0).c, .slice (y 1).A (fDiffMap a b).D.length (y 1).c]) ∧ True ∧ Below w.heap.size w w' ∧ NewOk w.heap.size [.row 67 2 (y 0).A (fDiffMap a b).U.length (y 0).c (fl (fDiffMap a b).U), .row 9 1 (y 1).A (fDiffMap a b).D.length (y 1).c (fl (fDiffMap a b).D)] [] w' := s_DiffMap0 A0 A1 c0 c1 a b w h0 h1 m0 m1
theorem diff_sm {a b : List KV} (ha : kvFew a 32 20) (hb : kvFew b 32 20) : Delta_sm (fDiffMap a b) := by
  by_cases hm : mapOk a = true ∧ mapOk b = true
  · rw [diff_eq hm.1 hm.2]
    refine ⟨⟨?_, fun u hu => ?_⟩, ?_, fun u hu => ?_⟩
    · exact Nat.le_trans (List.length_filter_le _ _) (by have := hb.1; omega)
    · have := hb.2 u (List.mem_filter.1 hu).1
      exact ⟨by omega, by omega⟩
    · simp only [List.length_map]
      exact Nat.le_trans (List.length_filter_le _ _) (by have := ha.1; omega)
    · obtain ⟨x, hx, rfl⟩ := List.mem_map.1 hu
      have := ha.2 x (List.mem_filter.1 hx).1
      show x.key.size ≤ 1048576
      omega
  · have e : fDiffMap a b = ⟨[], []⟩ := by
      unfold fDiffMap
      cases h1 : mapOk a <;> cases h2 : mapOk b <;> simp_all
    rw [e]
    exact ⟨⟨Nat.zero_le _, fun u hu => (by cases hu)⟩, Nat.zero_le _, fun u hu => (by cases hu)⟩
theorem diff_n {a b : List KV} (ha : kvFew a 32 20) (hb : kvFew b 32 20) : (fDiffMap a b).U.length ≤ 32 ∧ (fDiffMap a b).D.length ≤ 32 := by
  by_cases hm : mapOk a = true ∧ mapOk b = true
  · rw [diff_eq hm.1 hm.2]
    exact ⟨Nat.le_trans (List.length_filter_le _ _) hb.1, by simp only [List.length_map]; exact Nat.le_trans (List.length_filter_le _ _) ha.1⟩
  · have e : fDiffMap a b = ⟨[], []⟩ := by
      unfold fDiffMap
      cases h1 : mapOk a <;> cases h2 : mapOk b <;> simp_all
    rw [e]
    exact ⟨Nat.zero_le _, Nat.zero_le _⟩
theorem join_sm {a b c : List KV} (ha : kvFew a 32 20) (hb : kvFew b 32 20) (hc : kvFew c 32 20) (ma : mapOk a = true) (mb : mapOk b = true) (mc : mapOk c = true) : Delta_sm (fJoinDelta (fDiffMap a b) (fDiffMap b c)) := by
  have k1 := diff_ok ma mb
  have k2 := diff_ok mb mc
  have s1 := diff_sm ha hb
  have s2 := diff_sm hb hc
  have n1 := diff_n ha hb
  have n2 := diff_n hb hc
  have hj := join_eq k1 k2
  have hln : (joinU (fDiffMap a b) (fDiffMap b c)).length ≤ 1048576 := by
    have q1 := puts_len (fDiffMap b c).U (dropsF (fDiffMap b c).D (fDiffMap a b).U)
    have q2 := drops_len (fDiffMap b c).D (fDiffMap a b).U
    unfold joinU
    omega
  rw [hj]
  refine ⟨⟨hln, fun u hu => ?_⟩, ?_, fun u hu => ?_⟩
  · rcases (joinU_mem k1 k2 u).1 hu with h | h
    · exact s2.1.2 u h
    · exact s1.1.2 u h.1.1
  · have := delF_len (fDiffMap b c).U (fDiffMap a b).D (fDiffMap b c).D
    simp only
    omega
  · rcases (delF_mem (delta_srt k2).1 _ _ u).1 hu with h | h
    · exact s2.2.2 u h
    · exact s1.2.2 u h.1
theorem app_de {a b : List KV} (ma : mapOk a = true) (mb : mapOk b = true) : fApplyDelta a (fDiffMap a b) = (b, true) := by
  rw [app_yes ma (diff_ok ma mb)]
  exact congrArg (fun x => (x, true)) (app_diff ma mb)
theorem app_je {a b c : List KV} (ma : mapOk a = true) (mb : mapOk b = true) (mc : mapOk c = true) : fApplyDelta a (fJoinDelta (fDiffMap a b) (fDiffMap b c)) = (c, true) := by
  have k1 := diff_ok ma mb
  have k2 := diff_ok mb mc
  rw [app_yes ma (join_ok k1 k2)]
  have e : appF a (fJoinDelta (fDiffMap a b) (fDiffMap b c)) = c := by
    rw [app_join (srtK_iff.1 (sortedK_of ma)) k1 k2, app_diff ma mb, app_diff mb mc]
  exact congrArg (fun x => (x, true)) e
attribute [local irreducible] fShowDelta fDiffMap fJoinDelta mapOk deltaOk
end Go.Proofs.Ytbegbdfbfbkflaa
/- The slot of a text, in plain Lean: both ways of reading it agree. -/
namespace Go.Proofs.Ytbegbdfbfbkflaa
set_option linter.unusedVariables false
def one0 (s : ByteArray) : Option (Nat × ByteArray) := (tkV s 4).bind fun p => (tkW s p.2).map fun q => (p.1, q.1)
def one (s : ByteArray) : Option (Nat × ByteArray) := (one0 s).bind fun p => if showS p.1 p.2 = s then some p else none
abbrev tl4 (s : ByteArray) : ByteArray := s.extract 4 s.size
def unF (s : ByteArray) : ByteArray × Bool := if 4 ≤ s.size ∧ fS (crcF (tl4 s)) = s.extract 0 4 then (tl4 s, true) else (⟨#[]⟩, false)
theorem tl4_size (s : ByteArray) : (tl4 s).size = s.size - 4 := by rw [ByteArray.size_extract]; omega
theorem tl4_bl (s : ByteArray) : bl (tl4 s) = (bl s).drop 4 := by
  rw [bl_extract, List.take_of_length_le (by rw [bl_len]; omega)]
theorem tl4_N (s : ByteArray) (k : Nat) : tkN (tl4 s) k = (tkN s (4 + k)).map fun p => (p.1, p.2 - 4) := by
  unfold tkN
  rw [tl4_bl, List.drop_drop]
  cases rv ((bl s).drop (4 + k)) with
  | none => rfl
  | some p => simp; omega
theorem tl4_S (s : ByteArray) (k : Nat) (h4 : 4 ≤ s.size) : tkS (tl4 s) k = (tkS s (4 + k)).map fun p => (p.1, p.2 - 4) := by
  unfold tkS
  rw [tl4_N]
  cases hn : tkN s (4 + k) with
  | none => rfl
  | some p =>
    obtain ⟨n, e⟩ := p
    have := (tkN_some hn).1
    simp only [Option.map_some, Option.bind_some, tl4_size]
    by_cases hle : e + n ≤ s.size
    · rw [if_pos (by omega), if_pos hle]
      simp only [Option.map_some, Option.some.injEq, Prod.mk.injEq]
      refine ⟨?_, by omega⟩
      apply bl_ext
      rw [bl_extract (tl4 s) (e - 4) (e - 4 + n), tl4_bl, bl_extract s e (e + n), List.drop_take, List.drop_take, List.drop_drop, show 4 + (e - 4) = e by omega]
      congr 1; omega
    · rw [if_neg (by omega), if_neg hle]; rfl
theorem showS_eq {n : Nat} {r s : ByteArray} (h : showS n r = s) (h4 : 0 < s.size) : s = sumS (vS n ++ pieceS r) := by
  unfold showS at h
  split at h
  · rw [← h, Int.toNat_natCast]
  · subst h; exact absurd h4 (by decide)
theorem sumS_parts (t : ByteArray) : (sumS t).extract 0 4 = fS (crcF t) ∧ tl4 (sumS t) = t ∧ 4 ≤ (sumS t).size := by
  have hz := fS_size (crcF t)
  have hl : (bl (fS (crcF t))).length = 4 := by rw [bl_len, hz]
  refine ⟨?_, ?_, ?_⟩
  · apply bl_ext
    rw [bl_extract, sumS, bl_app, List.drop_zero, List.take_left' hl]
  · apply bl_ext
    rw [tl4_bl, sumS, bl_app, List.drop_left' hl]
  · rw [sumS, ByteArray.size_append, hz]; omega
/-- The two readers. -/
abbrev rN (s : ByteArray) := rdN (tl4 s) 0 false
abbrev rS (s : ByteArray) := rdS (tl4 s) (rN s).2.1 (rN s).2.2
theorem rdD_true {s : ByteArray} {k : Nat} {b : Bool} : rdD s k b = true ↔ b = false ∧ k = s.size := by
  unfold rdD
  simp
  intro _
  omega
theorem one_iff (s : ByteArray) (n : Nat) (r : ByteArray) : one s = some (n, r) ↔ (4 ≤ s.size ∧ fS (crcF (tl4 s)) = s.extract 0 4) ∧ rdD (tl4 s) (rS s).2.1 (rS s).2.2 = true ∧ showS (rN s).1 (rS s).1 = s ∧ (rN s).1 = n ∧ (rS s).1 = r := by
  constructor
  · intro h
    unfold one one0 at h
    cases hv : tkV s 4 with
    | none => rw [hv] at h; cases h
    | some p =>
      obtain ⟨n', q⟩ := p
      have hq := tkV_le hv
      rw [hv] at h
      simp only [Option.bind_some] at h
      unfold tkV at hv
      split at hv
      case isFalse => cases hv
      rename_i h4
      have h4' : 4 ≤ s.size := by omega
      cases hw : tkW s q with
      | none => rw [hw] at h; cases h
      | some p2 =>
        obtain ⟨r', e⟩ := p2
        rw [hw] at h
        simp only [Option.map_some, Option.bind_some] at h
        split at h
        case isFalse => cases h
        rename_i hs
        cases h
        unfold tkW at hw
        rw [if_pos (by omega), Int.toNat_natCast] at hw
        have hN : tkN s 4 = some (n, q) := hv
        have es := showS_eq hs (by omega)
        have hp := sumS_parts (vS n ++ pieceS r)
        rw [← es] at hp
        obtain ⟨p1, p2, p3⟩ := hp
        obtain ⟨a1, a2, a3, a4, a5⟩ := tkN_some hN
        obtain ⟨b1, b2, b3⟩ := tkS_some hw
        have eN : rN s = (n, q - 4, false) := by
          unfold rN rdN
          rw [if_neg (by simp), tl4_N, Nat.add_zero, hN]; rfl
        have eS : rS s = (r, e - 4, false) := by
          unfold rS
          rw [eN]
          refine (rdS_tk (tl4 s) (q - 4)).2 r (e - 4) ?_
          rw [tl4_S s (q - 4) h4', show 4 + (q - 4) = q by omega, hw]; rfl
        have hend : e = s.size := by
          have e1 : (bl s).drop 4 = varL n ++ bl (pieceS r) := by
            rw [← tl4_bl, p2, bl_app]; rfl
          rw [a5, b3, List.append_cancel_left_eq] at e1
          have := congrArg List.length e1
          simp only [List.length_append, List.length_drop, bl_len] at this
          omega
        rw [eN, eS]
        refine ⟨⟨h4', by rw [p2]; exact p1.symm⟩, rdD_true.2 ⟨rfl, by simp only [tl4_size]; omega⟩, hs, rfl, rfl⟩
  · rintro ⟨⟨h4, hc⟩, hd, hs, rfl, rfl⟩
    obtain ⟨hb, hk⟩ := rdD_true.1 hd
    have hNb : (rN s).2.2 = false := by
      cases h : (rN s).2.2 with
      | false => rfl
      | true => rw [show rS s = rdS (tl4 s) (rN s).2.1 (rN s).2.2 from rfl, h, rdS_bad] at hb; cases hb
    unfold rN rdN at hNb
    rw [if_neg (by simp)] at hNb
    cases hN : tkN s 4 with
    | none => rw [tl4_N, Nat.add_zero, hN] at hNb; cases hNb
    | some p =>
      obtain ⟨n, q⟩ := p
      have eN : rN s = (n, q - 4, false) := by
        unfold rN rdN
        rw [if_neg (by simp), tl4_N, Nat.add_zero, hN]; rfl
      obtain ⟨a1, a2, a3, a4, a5⟩ := tkN_some hN
      have hb2 : (rdS (tl4 s) (q - 4) false).2.2 = false := by
        have := hb
        rw [show rS s = rdS (tl4 s) (rN s).2.1 (rN s).2.2 from rfl, eN] at this
        exact this
      rw [(rdS_tk _ _).1, tl4_S s (q - 4) h4, show 4 + (q - 4) = q by omega] at hb2
      cases hS : tkS s q with
      | none => rw [hS] at hb2; cases hb2
      | some p2 =>
        obtain ⟨r, e⟩ := p2
        have eS : rS s = (r, e - 4, false) := by
          unfold rS
          rw [eN]
          refine (rdS_tk (tl4 s) (q - 4)).2 r (e - 4) ?_
          rw [tl4_S s (q - 4) h4, show 4 + (q - 4) = q by omega, hS]; rfl
        rw [eN, eS] at hs ⊢
        unfold one one0 tkV
        rw [if_pos (by omega)]
        have : tkN s (Int.toNat 4) = some (n, q) := hN
        rw [this]
        simp only [Option.bind_some]
        unfold tkW
        rw [if_pos (by omega), Int.toNat_natCast, hS]
        simp only [Option.map_some, Option.bind_some]
        rw [if_pos hs]
end Go.Proofs.Ytbegbdfbfbkflaa
/- Slot in the uniform style: size, copy, comparison, marks. -/
namespace Go.Proofs.Ytbegbdfbfbkflaa
open Go.RowKit
set_option maxHeartbeats 4000000
set_option maxRecDepth 20000
set_option linter.unusedVariables false
set_option linter.unusedSimpArgs false
attribute [local irreducible] Calls
structure DSlot where
  seq : Int
  root : ByteArray
  deriving DecidableEq
def Slot_val (x : DSlot) (y : Ys) : Value := .agg #[.int .i64 x.seq, .string x.root]
def Slot_obj (x : DSlot) (y : Ys) : List HObj := []
def Slot_rd (w : World) (x : DSlot) (y : Ys) : Prop := True
def Slot_big (x : DSlot) : Prop := x.root.size ≤ maxLen
def Slot_sm (x : DSlot) : Prop := x.root.size ≤ 1048576
def Slot_lim (x : DSlot) : Prop := True
def Slot_cnt (x : DSlot) (k : Int) : Int := k
def Slot_mk (k : Int) (x : DSlot) : DSlot := x
abbrev gSlot : GT := .st [.int, .str]
theorem Slot_open {w : World} {cs : Array Value} {x : gSlot.den} (hx : RdT w gSlot x cs.toList) : ∃ (d : DSlot) (y : Ys), Value.agg cs = Slot_val d y ∧ Slot_rd w d y ∧ Slot_big d := by
  obtain ⟨cs⟩ := cs
  simp only at hx
  obtain ⟨a0, a1, u⟩ := x
  obtain ⟨c0, d0, rfl, h0, e0⟩ := RdTL.cons.1 (RdT.st.1 hx)
  obtain ⟨c1, d1, rfl, h1, e1⟩ := RdTL.cons.1 e0
  rw [RdTL.nil] at e1; subst e1
  obtain ⟨rfl, b0⟩ := RdT.int.1 h0
  obtain ⟨rfl, b1⟩ := RdT.str.1 h1
  exact ⟨⟨a0, a1⟩, ya [] w, rfl, trivial, b1⟩
end Go.Proofs.Ytbegbdfbfbkflaa
/- Slots of both programs: reading and putting. -/
namespace Go.Proofs.Ytbegbdfbfbkflaa
open Go.RowKit
set_option maxHeartbeats 4000000
set_option maxRecDepth 20000
set_option linter.unusedVariables false
set_option linter.unusedSimpArgs false
theorem rdB_size (s : ByteArray) (n k : Nat) (b : Bool) : (rdB s n k b).1.size ≤ s.size := by
  unfold rdB
  split
  · exact Nat.zero_le _
  · simp only [ByteArray.size_extract]; omega
theorem rdS_size (s : ByteArray) (k : Nat) (b : Bool) : (rdS s k b).1.size ≤ s.size := rdB_size _ _ _ _
theorem tkS_size {s r : ByteArray} {k e : Nat} (h : tkS s k = some (r, e)) : r.size ≤ s.size := by
  unfold tkS at h
  cases hn : tkN s k with
  | none => rw [hn] at h; cases h
  | some p =>
    rw [hn] at h
    simp only [Option.bind_some] at h
    split at h
    · cases h; rw [ByteArray.size_extract]; omega
    · cases h
theorem tkW_size {s : ByteArray} {z : Int} : (tkT (tkW s z)).size ≤ s.size := by
  unfold tkW
  split
  · cases h : tkS s z.toNat with
    | none => exact Nat.zero_le _
    | some p => obtain ⟨r, e⟩ := p; exact tkS_size h
  · exact Nat.zero_le _
def fSl (s : ByteArray) : DSlot := match one s with
  | none => ⟨0, ⟨#[]⟩⟩
  | some p => ⟨p.1, p.2⟩
def slV (x : DSlot) : Value := .agg #[.int .i64 x.seq, .string x.root]
theorem one_pos {s : ByteArray} {n : Nat} {r : ByteArray} (h : one s = some (n, r)) : 1 ≤ n ∧ n ≤ 1000000 ∧ r.size ≤ 40 := by
  obtain ⟨⟨h4, _⟩, _, hs, rfl, rfl⟩ := (one_iff s n r).1 h
  unfold showS at hs
  split at hs
  · rename_i hc
    have := hc.1
    unfold inR at this
    simp at this
    exact ⟨by omega, by omega, hc.2⟩
  · subst hs; exact absurd h4 (by decide)
theorem fSl_seq (s : ByteArray) : 0 ≤ (fSl s).seq ∧ (fSl s).seq ≤ 1000000 ∧ (fSl s).root.size ≤ 40 ∧ ((one s).isSome = true ↔ 0 < (fSl s).seq) := by
  unfold fSl
  cases h : one s with
  | none => exact ⟨by simp, by simp, Nat.zero_le _, by simp⟩
  | some p =>
    obtain ⟨n, r⟩ := p
    have := one_pos h
    simp; omega
attribute [local irreducible] Calls
theorem iCrc_b (s : ByteArray) (hs : s.size ≤ maxLen) (w : World) :
    Calls Try.prog 80 #[.string s] w fun e w' => e = .returned (.int .i64 (crcF s)) ∧ Below w.heap.size w w' :=
  (iCrc_any s hs w).mono fun e w' ⟨a, b⟩ => ⟨a, by subst b; exact Below.refl _ _⟩
def selF (a b : ByteArray) : DSlot × Bool × Bool := if ((one b).isSome && (!(one a).isSome || decide ((fSl a).seq < (fSl b).seq))) = true then (fSl b, true, true) else (fSl a, false, (one a).isSome)
def fSlotRead (a b : ByteArray) : DSlot × Bool := ((selF a b).1, (selF a b).2.2)
theorem sel_s (a b : ByteArray) : fSlotRead a b = if (fSl a).seq < (fSl b).seq then (fSl b, true) else (fSl a, decide (0 < (fSl a).seq)) := by
  have pa := fSl_seq a
  have pb := fSl_seq b
  have ea : (one a).isSome = decide (0 < (fSl a).seq) := by rw [Bool.eq_iff_iff, decide_eq_true_eq]; exact pa.2.2.2
  have eb : (one b).isSome = decide (0 < (fSl b).seq) := by rw [Bool.eq_iff_iff, decide_eq_true_eq]; exact pb.2.2.2
  unfold fSlotRead selF
  rw [ea, eb]
  by_cases h : (fSl a).seq < (fSl b).seq
  · rw [if_pos h, if_pos (by simp; omega)]
  · rw [if_neg h]
    split
    · rename_i h2
      simp at h2
      omega
    · rfl
/-- Putting a slot. -/
def fSlotPut (a b r : ByteArray) : ByteArray × ByteArray × Bool :=
  if showS ((selF a b).1.seq + 1) r = ⟨#[]⟩ then (a, b, false) else if ((selF a b).2.1 || !(selF a b).2.2) = true then (showS ((selF a b).1.seq + 1) r, b, true) else (a, showS ((selF a b).1.seq + 1) r, true)
theorem selF_seq (a b : ByteArray) : 0 ≤ (selF a b).1.seq ∧ (selF a b).1.seq ≤ 1000000 := by
  have pa := fSl_seq a
  have pb := fSl_seq b
  unfold selF
  split
  · exact ⟨pb.1, pb.2.1⟩
  · exact ⟨pa.1, pa.2.1⟩
theorem sel_eq (a b : ByteArray) : selF a b = if (fSl a).seq < (fSl b).seq then (fSl b, true, true) else (fSl a, false, decide (0 < (fSl a).seq)) := by
  have pa := fSl_seq a
  have pb := fSl_seq b
  have ea : (one a).isSome = decide (0 < (fSl a).seq) := by rw [Bool.eq_iff_iff, decide_eq_true_eq]; exact pa.2.2.2
  have eb : (one b).isSome = decide (0 < (fSl b).seq) := by rw [Bool.eq_iff_iff, decide_eq_true_eq]; exact pb.2.2.2
  unfold selF
  rw [ea, eb]
  by_cases h : (fSl a).seq < (fSl b).seq
  · rw [if_pos h, if_pos (by simp; omega)]
  · rw [if_neg h]
    split
    · rename_i h2
      simp at h2
      omega
    · rfl
theorem put_s (a b r : ByteArray) (q : Int) (hq : q = if (fSl a).seq < (fSl b).seq then (fSl b).seq else (fSl a).seq) : fSlotPut a b r = if showS (q + 1) r = ⟨#[]⟩ then (a, b, false) else if 0 < (fSl a).seq ∧ (fSl b).seq ≤ (fSl a).seq then (a, showS (q + 1) r, true) else (showS (q + 1) r, b, true) := by
  have pa := fSl_seq a
  have pb := fSl_seq b
  unfold fSlotPut
  rw [sel_eq]
  by_cases h : (fSl a).seq < (fSl b).seq
  · rw [if_pos h] at hq
    subst hq
    rw [if_pos h, if_neg (show ¬ (0 < (fSl a).seq ∧ (fSl b).seq ≤ (fSl a).seq) by omega)]
    simp only [Bool.true_or, if_true]
  · rw [if_neg h] at hq
    subst hq
    rw [if_neg h]
    by_cases h2 : 0 < (fSl a).seq
    · rw [if_pos (show 0 < (fSl a).seq ∧ (fSl b).seq ≤ (fSl a).seq by omega)]
      simp [h2]
    · rw [if_neg (show ¬ (0 < (fSl a).seq ∧ (fSl b).seq ≤ (fSl a).seq) by omega)]
      simp [h2]
end Go.Proofs.Ytbegbdfbfbkflaa
/- Slots written and read, in plain Lean (for FnSlots). -/
namespace Go.Proofs.Ytbegbdfbfbkflaa
set_option linter.unusedVariables false
theorem u8_n (n : Nat) (h : n < 256) : (UInt8.ofNat n).toNat = n := by rw [UInt8.toNat_ofNat']; exact Nat.mod_eq_of_lt (by omega)
/-- A number that is written is read again. -/
theorem rvT_var : ∀ (k f n : Nat) (t : Bool) (rest : List UInt8), n < 128 ^ k → k ≤ f + 1 → 1 ≤ k → (t = true → 0 < n) → rvT t k (varF f n ++ rest) = some (n, (varF f n).length)
  | 0, f, n, t, rest, h, h1, h2, h3 => by omega
  | k + 1, f, n, t, rest, h, h1, h2, h3 => by
    by_cases hn : n < 128
    · have e : varF f n = [UInt8.ofNat n] := by cases f <;> simp [varF, hn]
      rw [e]
      simp only [List.cons_append, List.nil_append, List.length_cons, List.length_nil, rvT, u8_n n (by omega)]
      rw [if_neg (by omega), if_neg (fun hh => by have := h3 hh.1; omega)]
    · have hk : 1 ≤ k := by
        rcases k with _ | k
        · simp at h; omega
        · omega
      obtain ⟨f', rfl⟩ : ∃ f', f = f' + 1 := ⟨f - 1, by omega⟩
      have e : varF (f' + 1) n = UInt8.ofNat (128 + n % 128) :: varF f' (n / 128) := by rw [varF, if_neg hn]
      have ih := rvT_var k f' (n / 128) true rest (by rw [Nat.pow_succ] at h; exact Nat.div_lt_of_lt_mul (by omega)) (by omega) hk (fun _ => by omega)
      rw [e]
      simp only [List.cons_append, List.length_cons, rvT, u8_n (128 + n % 128) (by omega)]
      rw [if_pos (by omega), ih]
      simp only [Option.map_some, Option.some.injEq, Prod.mk.injEq, and_true]
      omega
theorem rv_var (n : Nat) (rest : List UInt8) (h : n < 562949953421312) : rv (varL n ++ rest) = some (n, (varL n).length) := by
  have e : (128 : Nat) ^ 7 = 562949953421312 := by decide
  exact rvT_var 7 9 n false rest (by omega) (by omega) (by omega) (fun h => by cases h)
theorem varL_pos (n : Nat) : 0 < (varL n).length := by
  show 0 < (varF (8 + 1) n).length
  rw [varF]; split <;> simp
theorem tkN_var {s : ByteArray} {k n : Nat} {rest : List UInt8} (h : (bl s).drop k = varL n ++ rest) (hn : n < 562949953421312) : tkN s k = some (n, k + (varL n).length) := by
  unfold tkN
  rw [h, rv_var n rest hn]; rfl
theorem tkS_piece {s r : ByteArray} {k : Nat} {rest : List UInt8} (h : (bl s).drop k = bl (pieceS r) ++ rest) (hr : r.size < 562949953421312) : tkS s k = some (r, k + (bl (pieceS r)).length) := by
  have e1 : bl (pieceS r) = varL r.size ++ bl r := by unfold pieceS; rw [bl_app]; rfl
  rw [e1, List.append_assoc] at h
  unfold tkS
  rw [tkN_var h hr]
  simp only [Option.bind_some]
  have h2 : (bl s).drop (k + (varL r.size).length) = bl r ++ rest := by
    rw [← List.drop_drop, h, List.drop_left]
  have h3 := congrArg List.length h2
  rw [List.length_drop, List.length_append, bl_len, bl_len] at h3
  have h4 : k + (varL r.size).length + r.size ≤ s.size := by
    rcases Nat.eq_zero_or_pos r.size with h0 | h0
    · have h5 := congrArg List.length h
      rw [List.length_drop, List.length_append, List.length_append, bl_len, bl_len] at h5
      have : 0 < (varL r.size).length := varL_pos _
      omega
    · omega
  rw [if_pos h4, e1, List.length_append, bl_len]
  simp only [Option.some.injEq, Prod.mk.injEq]
  refine ⟨?_, by omega⟩
  apply bl_ext
  rw [bl_extract, List.drop_take, h2, show k + (varL r.size).length + r.size - (k + (varL r.size).length) = r.size by omega]
  rw [List.take_append_of_le_length (by rw [bl_len]; omega), List.take_of_length_le (by rw [bl_len]; omega)]
theorem one_show {n : Nat} {r : ByteArray} (hn : 1 ≤ n ∧ n ≤ 1000000) (hr : r.size ≤ 40) : one (showS n r) = some (n, r) := by
  have es : showS n r = sumS (vS n ++ pieceS r) := by
    unfold showS
    rw [if_pos ⟨by unfold inR; simp; omega, hr⟩, Int.toNat_natCast]
  obtain ⟨p1, p2, p3⟩ := sumS_parts (vS n ++ pieceS r)
  rw [← es] at p1 p2 p3
  have e4 : (bl (showS n r)).drop 4 = varL n ++ bl (pieceS r) := by rw [← tl4_bl, p2, bl_app]; rfl
  have hN := tkN_var e4 (by omega)
  have e5 : (bl (showS n r)).drop (4 + (varL n).length) = bl (pieceS r) ++ [] := by rw [← List.drop_drop, e4, List.drop_left, List.append_nil]
  have hS := tkS_piece e5 (by omega)
  have hle := tkS_some hS
  unfold one one0 tkV
  rw [if_pos (by omega), show ((4 : Int)).toNat = 4 from rfl, hN]
  simp only [Option.bind_some]
  unfold tkW
  rw [if_pos (by omega), Int.toNat_natCast, hS]
  simp only [Option.map_some, Option.bind_some, if_true]
theorem fSl_show {n : Int} {r : ByteArray} (h : ¬ showS n r = ⟨#[]⟩) (hn : 1 ≤ n) : fSl (showS n r) = ⟨n, r⟩ := by
  have hc : n ≤ 1000000 ∧ r.size ≤ 40 := by
    unfold showS at h
    split at h
    · rename_i hc
      have := hc.1
      unfold inR at this
      simp at this
      exact ⟨by omega, hc.2⟩
    · exact absurd rfl h
  obtain ⟨m, rfl⟩ : ∃ m : Nat, n = m := ⟨n.toNat, by omega⟩
  unfold fSl
  rw [one_show (by omega) hc.2]
theorem showS_size (q : Int) (r : ByteArray) : (showS q r).size ≤ 100 := by
  unfold showS
  split
  · rename_i h
    have h1 := vS_size q.toNat
    have h2 := pieceS_size r
    have h3 := fS_size (crcF (vS q.toNat ++ pieceS r))
    unfold sumS
    rw [ByteArray.size_append, ByteArray.size_append, h3]; omega
  · exact Nat.zero_le _
def torn : ByteArray := ⟨#[116, 111, 114, 110]⟩
theorem fSl_torn : fSl torn = ⟨0, ⟨#[]⟩⟩ := by
  have h : one torn = none := by
    have h0 : tkV torn 4 = none := by decide +kernel
    unfold one one0
    rw [h0]; rfl
  unfold fSl; rw [h]
/-- What putting a slot leads to. -/
inductive SlotF (a b r : ByteArray) : Prop
  | no (h : fSlotPut a b r = (a, b, false))
  | back (t : ByteArray) (n : Int) (hz : t.size ≤ 100) (hb : 0 ≤ n ∧ n ≤ 1000000) (h : fSlotPut a b r = (a, t, true)) (ho : fSlotRead a b = (⟨n, (fSl a).root⟩, true)) (hn : fSlotRead a t = (⟨n + 1, r⟩, true)) (ht : fSlotRead a torn = (⟨n, (fSl a).root⟩, true))
  | front (t : ByteArray) (n : Int) (hz : t.size ≤ 100) (hb : 0 ≤ n ∧ n ≤ 1000000) (h : fSlotPut a b r = (t, b, true)) (hne : t ≠ a) (ho : fSlotRead a b = (⟨n, (fSl b).root⟩, true)) (hn : fSlotRead t b = (⟨n + 1, r⟩, true)) (ht : fSlotRead torn b = (⟨n, (fSl b).root⟩, true))
  | first (t : ByteArray) (n : Int) (x : DSlot) (z : DSlot) (hz : t.size ≤ 100) (hb : 0 ≤ x.seq ∧ x.seq ≤ 1000000) (h : fSlotPut a b r = (t, b, true)) (hne : t ≠ a) (ho : fSlotRead a b = (x, false)) (hn : fSlotRead t b = (⟨n, r⟩, true)) (ht : fSlotRead torn b = (z, false))
theorem slot_f (a b r : ByteArray) : SlotF a b r := by
  have pa := fSl_seq a
  have pb := fSl_seq b
  have hp := put_s a b r _ rfl
  by_cases h : (fSl a).seq < (fSl b).seq
  · rw [if_pos h] at hp
    by_cases hs : showS ((fSl b).seq + 1) r = ⟨#[]⟩
    · rw [if_pos hs] at hp; exact .no hp
    · have hf := fSl_show hs (by omega)
      rw [if_neg hs, if_neg (by omega)] at hp
      refine .front _ (fSl b).seq (showS_size _ _) ⟨pb.1, pb.2.1⟩ hp (fun e => ?_) ?_ ?_ ?_
      · rw [e] at hf; rw [hf] at h; simp only at h; omega
      · rw [sel_s, if_pos h]
      · rw [sel_s, hf, if_neg (by simp only; omega)]; simp only [Prod.mk.injEq, true_and, decide_eq_true_eq]; omega
      · rw [sel_s, fSl_torn, if_pos (by simp only; omega)]
  · rw [if_neg h] at hp
    by_cases hs : showS ((fSl a).seq + 1) r = ⟨#[]⟩
    · rw [if_pos hs] at hp; exact .no hp
    · have hf := fSl_show hs (by omega)
      rw [if_neg hs] at hp
      by_cases h2 : 0 < (fSl a).seq
      · rw [if_pos ⟨h2, by omega⟩] at hp
        refine .back _ (fSl a).seq (showS_size _ _) ⟨pa.1, pa.2.1⟩ hp ?_ ?_ ?_
        · rw [sel_s, if_neg h]; simp only [Prod.mk.injEq, true_and, decide_eq_true_eq]; exact h2
        · rw [sel_s, hf, if_pos (by simp only; omega)]
        · rw [sel_s, fSl_torn, if_neg (by simp only; omega)]; simp only [Prod.mk.injEq, true_and, decide_eq_true_eq]; exact h2
      · rw [if_neg (by omega)] at hp
        refine .first _ ((fSl a).seq + 1) (fSl a) (fSl torn) (showS_size _ _) ⟨pa.1, pa.2.1⟩ hp (fun e => ?_) ?_ ?_ ?_
        · rw [e] at hf
          have := congrArg DSlot.seq hf
          simp only at this; omega
        · rw [sel_s, if_neg h]; simp only [Prod.mk.injEq, true_and, decide_eq_false_iff_not]; exact h2
        · rw [sel_s, hf, if_neg (by simp only; omega)]; simp only [Prod.mk.injEq, true_and, decide_eq_true_eq]; omega
        · rw [sel_s, if_neg (by rw [fSl_torn]; simp only; omega), fSl_torn]; simp
end Go.Proofs.Ytbegbdfbfbkflaa
/- FnDelta in plain Lean: what is shown is read back. -/
namespace Go.Proofs.Ytbegbdfbfbkflaa
set_option linter.unusedVariables false
theorem drop_more {α : Type} {l A rest : List α} {k : Nat} (h : l.drop k = A ++ rest) : l.drop (k + A.length) = rest := by
  rw [← List.drop_drop, h, List.drop_left]
theorem pKV_of (s : ByteArray) : ∀ (N : List KV) (k : Nat) (L : List KV) (rest : List UInt8), (∀ x ∈ N, x.key.size ≤ 1000 ∧ x.val.size ≤ 1000) → (bl s).drop k = N.flatMap (fun x => bl (kvS x)) ++ rest → pKV s N.length k L = some (L ++ N, k + (N.flatMap (fun x => bl (kvS x))).length)
  | [], k, L, rest, hz, h => by simp [pKV]
  | x :: N, k, L, rest, hz, h => by
    have hx := hz x List.mem_cons_self
    have h0 : (bl s).drop k = bl (pieceS x.key) ++ (bl (pieceS x.val) ++ (N.flatMap (fun x => bl (kvS x)) ++ rest)) := by
      rw [h, List.flatMap_cons]; unfold kvS; rw [bl_app]; simp only [List.append_assoc]
    have h1 := tkS_piece h0 (by omega)
    have h2 := drop_more h0
    have h3 := tkS_piece h2 (by omega)
    have h4 := drop_more h2
    rw [List.length_cons, pKV, h1]
    simp only [Option.bind_some]
    rw [h3]
    simp only [Option.bind_some]
    rw [pKV_of s N _ _ rest (fun y hy => hz y (List.mem_cons_of_mem _ hy)) h4, List.flatMap_cons]
    unfold kvS
    rw [bl_app]
    simp only [List.append_assoc, List.length_append, List.cons_append, List.nil_append, Option.some.injEq, Prod.mk.injEq, true_and]
    omega
theorem pST_of (s : ByteArray) : ∀ (N : List ByteArray) (k : Nat) (L : List ByteArray) (rest : List UInt8), (∀ x ∈ N, x.size ≤ 1000) → (bl s).drop k = N.flatMap (fun x => bl (pieceS x)) ++ rest → pST s N.length k L = some (L ++ N, k + (N.flatMap (fun x => bl (pieceS x))).length)
  | [], k, L, rest, hz, h => by simp [pST]
  | x :: N, k, L, rest, hz, h => by
    have hx := hz x List.mem_cons_self
    have h0 : (bl s).drop k = bl (pieceS x) ++ (N.flatMap (fun x => bl (pieceS x)) ++ rest) := by
      rw [h, List.flatMap_cons]; simp only [List.append_assoc]
    have h1 := tkS_piece h0 (by omega)
    have h2 := drop_more h0
    rw [List.length_cons, pST, h1]
    simp only [Option.bind_some]
    rw [pST_of s N _ _ rest (fun y hy => hz y (List.mem_cons_of_mem _ hy)) h2, List.flatMap_cons]
    simp only [List.append_assoc, List.length_append, List.cons_append, List.nil_append, Option.some.injEq, Prod.mk.injEq, true_and]
    omega
theorem bl_vS (n : Nat) : bl (vS n) = varL n := rfl
theorem bl_rawX (x : DDelta) : bl (rawX x) = varL x.U.length ++ (x.U.flatMap (fun x => bl (kvS x)) ++ (varL x.D.length ++ (x.D.flatMap (fun x => bl (pieceS x)) ++ []))) := by
  unfold rawX rawD rawU
  rw [bl_app, bl_app, bl_app, bl_cat, bl_cat, List.take_length, List.take_length, bl_vS, bl_vS]
  simp only [List.append_assoc, List.append_nil]
theorem pX_of {x : DDelta} (hU : x.U.length ≤ 1000 ∧ ∀ u ∈ x.U, u.key.size ≤ 1000 ∧ u.val.size ≤ 1000) (hD : x.D.length ≤ 1000 ∧ ∀ u ∈ x.D, u.size ≤ 1000) : ∃ e, pX (rawX x) = some (x, e) := by
  have h0 : (bl (rawX x)).drop 0 = varL x.U.length ++ (x.U.flatMap (fun x => bl (kvS x)) ++ (varL x.D.length ++ (x.D.flatMap (fun x => bl (pieceS x)) ++ []))) := bl_rawX x
  have h1 := tkN_var h0 (by omega)
  have h2 := drop_more h0
  have h3 := pKV_of (rawX x) x.U _ [] _ hU.2 h2
  have h4 := drop_more h2
  have h5 := tkN_var h4 (by omega)
  have h6 := drop_more h4
  have h7 := pST_of (rawX x) x.D _ [] _ hD.2 h6
  refine ⟨0 + (varL x.U.length).length + (List.flatMap (fun x => bl (kvS x)) x.U).length + (varL x.D.length).length + (List.flatMap (fun x => bl (pieceS x)) x.D).length, ?_⟩
  unfold pX pU
  rw [h1]
  simp only [Option.bind_some]
  rw [h3]
  simp only [Option.bind_some, List.nil_append]
  unfold pD
  rw [h5]
  simp only [Option.bind_some]
  rw [h7]
  rfl
theorem show_read {x : DDelta} (hU : x.U.length ≤ 1000 ∧ ∀ u ∈ x.U, u.key.size ≤ 1000 ∧ u.val.size ≤ 1000) (hD : x.D.length ≤ 1000 ∧ ∀ u ∈ x.D, u.size ≤ 1000) : fReadDelta (fShowDelta x) = if deltaOk x.U x.D = true then (x, true) else (⟨[], []⟩, false) := by
  by_cases h : deltaOk x.U x.D = true
  · rw [if_pos h]
    have hs : fShowDelta x = rawX x := by unfold fShowDelta; rw [if_pos h]
    obtain ⟨e, he⟩ := pX_of hU hD
    rw [hs]
    exact read_yes he hs
  · rw [if_neg h]
    have hs : fShowDelta x = ⟨#[]⟩ := by unfold fShowDelta; rw [if_neg h]
    rw [hs]
    refine read_none (pU_none ?_)
    unfold pU
    cases h1 : tkN (⟨#[]⟩ : ByteArray) 0 with
    | none => rfl
    | some p =>
      obtain ⟨n, e⟩ := p
      have := tkN_some h1
      have h0 : (⟨#[]⟩ : ByteArray).size = 0 := rfl
      omega
/-- What is read shows as the text that it was read from. -/
theorem read_show {s : ByteArray} (h : (fReadDelta s).2 = true) : fShowDelta (fReadDelta s).1 = s := by
  cases hp : pX s with
  | none => rw [read_none hp] at h; cases h
  | some p =>
    obtain ⟨x, e⟩ := p
    by_cases hs : fShowDelta x = s
    · rw [read_yes hp hs]; exact hs
    · rw [read_no hp hs] at h; cases h
theorem read_len {s : ByteArray} (h : (fReadDelta s).2 = true) : (fReadDelta s).1.U.length ≤ s.size ∧ (fReadDelta s).1.D.length ≤ s.size := by
  cases hp : pX s with
  | none => rw [read_none hp] at h; cases h
  | some p =>
    obtain ⟨x, e⟩ := p
    obtain ⟨_, _, h3, h4, _⟩ := pX_some hp
    by_cases hs : fShowDelta x = s
    · rw [read_yes hp hs]; exact ⟨h3, h4⟩
    · rw [read_no hp hs] at h; cases h
end Go.Proofs.Ytbegbdfbfbkflaa
/- The engine: branches that meet again are told once. -/
namespace Go.Proofs.Ytbegbdfbfbkflaa
open Go.RowKit
set_option linter.unusedVariables false
section
variable {P : Program} {N base : Nat} {w0 : World} {E : Env} {H : List HObj} {G : List World} {Q : Exit → Act → World → Prop}
/-- The first part of a sequence ends in one of a family of states; the second part is walked once, from each of them. -/
theorem ok_join {ι : Type} (X : ι → Env × List HObj × List World) {x y : Code}
    (h1 : Ok N base w0 E H G (x.wp P (Exit.then (fun a w => ∃ j, Sat N base w0 (X j).1 (X j).2.1 (X j).2.2 a w) Q)))
    (h2 : ∀ j, Ok N base w0 (X j).1 (X j).2.1 (X j).2.2 (y.wp P Q)) : Ok N base w0 E H G ((Code.seq x y).wp P Q) := fun a w he hw =>
  wp_seq (Code.wp_mono (fun e a' w' hq => by
    cases e with
    | normal => obtain ⟨j, hs⟩ := hq; exact h2 j a' w' hs.env hs.mem
    | _ => exact hq) (h1 a w he hw))
/-- Stops a walk ahead of block i. -/
theorem at_block (i : Nat) {x y : Code} (h : Ok N base w0 E H G ((Code.seq (Code.block i x) y).wp P Q)) : Ok N base w0 E H G ((Code.seq (Code.block i x) y).wp P Q) := h
/-- Stops a walk ahead of a condition on temporary t that is followed by more. -/
theorem at_cond (t : Nat) {x x' y : Code} (h : Ok N base w0 E H G ((Code.seq (Code.cond (.tmp t) x x') y).wp P Q)) : Ok N base w0 E H G ((Code.seq (Code.cond (.tmp t) x x') y).wp P Q) := h
/-- Stops a walk ahead of a statement that begins with region i and is followed by more. -/
theorem at_reg (i : Nat) {ops : Array Oper} {b : Bool} {z y : Code} (h : Ok N base w0 E H G ((Code.seq (Code.seq (Code.region i ops b) z) y).wp P Q)) : Ok N base w0 E H G ((Code.seq (Code.seq (Code.region i ops b) z) y).wp P Q) := h
/-- A field of a struct value. -/
theorem ps_fieldV {o : Oper} {x : Operand} {t : TypeId} {f : Nat} {u v : Value} (ho : o.op = .field t x f) (hx : opd E x = some u) (hr : ∀ w, (Instr.field t u f).run P w = .ok v w) : PStep P E H G o v := fun N base w0 a w he hw => by
  simp only [execOp, ho, he.eval hx, Sem.run_bind, hr, Result.andThen_ok, Sem.run_pure]
theorem ok_capE {n c e sz : Nat} {A : Option Addr} {us : List Value} {K : Act → World → Prop} (i : Nat) (hi : H[i]? = some (.row e sz A n c us)) (h : n ≤ c → Ok N base w0 E H G K) : Ok N base w0 E H G K := fun a w he hw => h (hw.cap i hi) a w he hw
theorem isw_rdsE {A : Option Addr} {us : List Value} (h : Rds H G A us) (hl : 0 < us.length) : IsSW H G A := fun base w0 w hw => isS_rd (h base w0 w hw) hl
theorem rds_tlE {A : Option Addr} {us : List Value} (x : HObj) (h : Rds H G A us) : Rds (x :: H) G A us := fun base w0 w hw => h base w0 w hw.tl
theorem rds_headE {α : Type} [Dat α] {A : Option Addr} {L : List α} (h : Rds H G A (fl L)) (i : Nat) : Rds H G A (fl (L.take i)) := fun base w0 w hw => by
  rw [← fl_take]; exact (h base w0 w hw).take _
/-- An own object is let go. -/
theorem ok_drop {K : Act → World → Prop} (i : Nat) {x : HObj} (hi : H[i]? = some x) {H' : List HObj} (hH : H.eraseIdx i = H') (h : Ok N base w0 E H' G K) : Ok N base w0 E H G K := fun a w he hw => h a w he (hH ▸ (hw.front i hi).tl)
end
end Go.Proofs.Ytbegbdfbfbkflaa
