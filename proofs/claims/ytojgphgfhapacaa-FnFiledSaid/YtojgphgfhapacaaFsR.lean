/- Stores of files in plain Lean: what the operations do, and what a file reads as behind them. -/
import Derived.Test.YtojgphgfhapacaaFsQ
namespace Go.Proofs.Ytojgphgfhapacaa
set_option linter.unusedVariables false
set_option linter.unusedSimpArgs false
def bytesOf (B : List ByteArray) (bl : List Int) : List UInt8 := bl.flatMap (fun b => (blkOf B b).data.toList)
def fText (B : List ByteArray) (f : FFile) : ByteArray := ⟨((bytesOf B f.bl).take f.ln.toNat).toArray⟩
def atF (F : List FFile) (no : Int) : Option Nat := F.findIdx? (fun f => decide (f.no = no))
def fileAt (F : List FFile) (i : Nat) : FFile := F.getD i ⟨0, 0, [], 0, false⟩
def noFs : DFStore := ⟨[], []⟩
def fFsNew : DFStore := ⟨List.replicate 24 (zrs 8), []⟩
def nextNo (F : List FFile) : Int := if F.length = 0 then 1 else (fileAt F (F.length - 1)).no + 1
def fFsCreate (x : DFStore) (ow : Int) : DFStore × Int × Bool :=
  if fFsOk x = true then
    if inB ow 1 99 = true ∧ x.F.length < 6 ∧ nextNo x.F ≤ 1000000 then (⟨x.B, x.F ++ [⟨nextNo x.F, ow, [], 0, false⟩]⟩, nextNo x.F, true) else (x, 0, false)
  else (noFs, 0, false)
def fFsRead (x : DFStore) (no : Int) : ByteArray × Bool :=
  if fFsOk x = true then
    match atF x.F no with
    | some i => (fText x.B (fileAt x.F i), true)
    | none => (⟨#[]⟩, false)
  else (⟨#[]⟩, false)
def shutF (f : FFile) : FFile := ⟨f.no, f.ow, f.bl, f.ln, true⟩
def fFsSeal (x : DFStore) (no : Int) : DFStore × Bool :=
  if fFsOk x = true then
    match atF x.F no with
    | some i => if (fileAt x.F i).sl = true then (x, false) else (⟨x.B, x.F.set i (shutF (fileAt x.F i))⟩, true)
    | none => (x, false)
  else (noFs, false)
def zeroB (B : List ByteArray) (bl : List Int) : List ByteArray := bl.foldl (fun B b => B.set b.toNat (zrs 8)) B
def fFsDrop (x : DFStore) (no : Int) : DFStore × Bool :=
  if fFsOk x = true then
    match atF x.F no with
    | some i => (⟨zeroB x.B (fileAt x.F i).bl, x.F.eraseIdx i⟩, true)
    | none => (x, false)
  else (noFs, false)
def usedF (F : List FFile) (b : Nat) : Bool := F.any fun f => f.bl.any fun c => decide (c = (b : Int))
def freeF (F : List FFile) : List Int := ((List.range 24).filter fun b => !usedF F b).map fun b : Nat => (b : Int)
def putB (B : List ByteArray) : List Int → List UInt8 → List ByteArray
  | [], _ => B
  | b :: bl, t => putB (B.set b.toNat ⟨(t.take 8).toArray⟩) bl (t.drop 8)
def fFsAppend (x : DFStore) (no : Int) (text : ByteArray) : DFStore × Bool :=
  if fFsOk x = true then
    match atF x.F no with
    | some i =>
      let f := fileAt x.F i
      if f.sl = true ∨ ((f.bl.length + (freeF x.F).length : Nat) : Int) * 8 - f.ln < text.size then (x, false) else
      let s := fText x.B f ++ text
      let bl := f.bl ++ (freeF x.F).take ((ceil8 s.size).toNat - f.bl.length)
      (⟨putB x.B bl (s.data.toList ++ List.replicate (bl.length * 8 - s.size) 0), x.F.set i ⟨f.no, f.ow, bl, s.size, f.sl⟩⟩, true)
    | none => (x, false)
  else (noFs, false)
def fFsUsed (x : DFStore) (ow : Int) : Int := if fFsOk x = true then (((x.F.filter fun f => decide (f.ow = ow)).map fun f => f.bl.length).sum : Int) else 0
/-- What is read. -/
def rdF (x : DFStore) (n : Int) : Option ByteArray := (x.F.find? fun f => decide (f.no = n)).map (fText x.B)
theorem at_find (F : List FFile) (n : Int) : F.find? (fun f => decide (f.no = n)) = (atF F n).map (fileAt F) := by
  unfold atF
  induction F with
  | nil => rfl
  | cons x F ih =>
    rw [List.find?_cons, List.findIdx?_cons]
    by_cases h : x.no = n
    · simp [h, fileAt]
    · simp only [h, decide_false, ih]
      cases List.findIdx? (fun f => decide (f.no = n)) F with
      | none => rfl
      | some i => simp [fileAt]
theorem read_rd {x : DFStore} (h : fFsOk x = true) (n : Int) : fFsRead x n = match rdF x n with
    | some t => (t, true)
    | none => (⟨#[]⟩, false) := by
  unfold fFsRead rdF
  rw [if_pos h, at_find]
  cases atF x.F n <;> rfl
theorem at_some {F : List FFile} {n : Int} {i : Nat} (h : atF F n = some i) : i < F.length ∧ (fileAt F i).no = n := by
  unfold atF at h
  have h1 := (List.findIdx?_eq_some_iff_getElem.1 h)
  obtain ⟨h2, h3, _⟩ := h1
  refine ⟨h2, ?_⟩
  simp only [decide_eq_true_eq] at h3
  simp [fileAt, h2, h3]
theorem at_none {F : List FFile} {n : Int} (h : atF F n = none) : ∀ f ∈ F, f.no ≠ n := by
  unfold atF at h
  rw [List.findIdx?_eq_none_iff] at h
  intro f hf
  have := h f hf
  simpa using this
theorem fileAt_mem {F : List FFile} {i : Nat} (h : i < F.length) : fileAt F i ∈ F := by simp [fileAt, h]
theorem fileAt_get {F : List FFile} {i : Nat} (h : i < F.length) : fileAt F i = F[i] := by simp [fileAt, h]
/-- Blocks that stay make the same text. -/
theorem bytes_same {B B' : List ByteArray} {bl : List Int} (h : ∀ b ∈ bl, blkOf B' b = blkOf B b) : bytesOf B' bl = bytesOf B bl := by
  unfold bytesOf
  induction bl with
  | nil => rfl
  | cons b l ih => rw [List.flatMap_cons, List.flatMap_cons, h b List.mem_cons_self, ih fun c hc => h c (List.mem_cons_of_mem _ hc)]
theorem text_same {B B' : List ByteArray} {f : FFile} (h : ∀ b ∈ f.bl, blkOf B' b = blkOf B b) : fText B' f = fText B f := by
  unfold fText; rw [bytes_same h]
theorem tail_same {B B' : List ByteArray} {f : FFile} (h : ∀ b ∈ f.bl, blkOf B' b = blkOf B b) (h0 : fileOk0 f = true) : tailI B' f = tailI B f := by
  unfold tailI
  split
  · rename_i hl
    have : blkOf B' (nth f.bl (f.bl.length - 1)) = blkOf B (nth f.bl (f.bl.length - 1)) := by
      refine h _ (nth_mem _ _ ?_)
      unfold fileOk0 at h0
      simp only [Bool.and_eq_true, inB_true, decide_eq_true_eq] at h0
      have := h0.2
      have := h0.1.2
      unfold ceil8 at *
      omega
    rw [this]
  · rfl
theorem zero_len (bl : List Int) : ∀ B : List ByteArray, (zeroB B bl).length = B.length := by
  unfold zeroB
  induction bl with
  | nil => intro B; rfl
  | cons b l ih => intro B; rw [List.foldl_cons, ih, List.length_set]
theorem zero_nth : ∀ (bl : List Int) (B : List ByteArray) (j : Nat), j < B.length → nth (zeroB B bl) j = if (∃ b ∈ bl, b.toNat = j) then zrs 8 else nth B j
  | [], B, j, h => by simp [zeroB]
  | b :: l, B, j, h => by
    have e : zeroB B (b :: l) = zeroB (B.set b.toNat (zrs 8)) l := rfl
    rw [e, zero_nth l _ j (by rw [List.length_set]; exact h)]
    by_cases h1 : ∃ c ∈ l, c.toNat = j
    · rw [if_pos h1]
      obtain ⟨c, hc, h2⟩ := h1
      rw [if_pos ⟨c, List.mem_cons_of_mem _ hc, h2⟩]
    · rw [if_neg h1]
      by_cases h3 : b.toNat = j
      · rw [if_pos ⟨b, List.mem_cons_self, h3⟩, h3]
        exact nth_set B j _ h
      · rw [if_neg (by
          rintro ⟨c, hc, h4⟩
          rcases List.mem_cons.1 hc with rfl | hc
          · exact h3 h4
          · exact h1 ⟨c, hc, h4⟩)]
        simp [nth, List.getD_eq_getElem?_getD, h3]
theorem GoodFs.len {x : DFStore} (g : GoodFs x) {b : Int} (h : 0 ≤ b ∧ b ≤ 23) : b.toNat < x.B.length := by rw [g.hB]; omega
/-- Blocks of two files are apart. -/
theorem nodup_apart : ∀ {F : List FFile} {i j : Nat}, (F.flatMap FFile.bl).Nodup → i < F.length → j < F.length → i ≠ j → ∀ b ∈ (fileAt F i).bl, b ∉ (fileAt F j).bl
  | [], i, j, h, hi, hj, hne => by simp at hi
  | x :: F, i, j, h, hi, hj, hne => by
    rw [List.flatMap_cons] at h
    have h := List.nodup_append.1 h
    intro b hb hb2
    cases i with
    | zero =>
      cases j with
      | zero => exact hne rfl
      | succ j =>
        have hj' : j < F.length := by simpa using hj
        have e : fileAt (x :: F) (j + 1) = fileAt F j := by simp [fileAt]
        rw [e] at hb2
        exact h.2.2 b hb b (List.mem_flatMap.2 ⟨_, fileAt_mem hj', hb2⟩) rfl
    | succ i =>
      have hi' : i < F.length := by simpa using hi
      have e1 : fileAt (x :: F) (i + 1) = fileAt F i := by simp [fileAt]
      rw [e1] at hb
      cases j with
      | zero => exact h.2.2 b hb2 b (List.mem_flatMap.2 ⟨_, fileAt_mem hi', hb⟩) rfl
      | succ j =>
        have hj' : j < F.length := by simpa using hj
        have e : fileAt (x :: F) (j + 1) = fileAt F j := by simp [fileAt]
        rw [e] at hb2
        exact nodup_apart h.2.1 hi' hj' (by omega) b hb hb2
end Go.Proofs.Ytojgphgfhapacaa
