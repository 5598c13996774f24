/- FnFiled in plain Lean: what an append leaves, and how many blocks the owners hold. -/
import Derived.Test.YtojgphgfhapacaaFsL
namespace Go.Proofs.Ytojgphgfhapacaa
set_option linter.unusedVariables false
set_option linter.unusedSimpArgs false
theorem fil_cases {x : DFStore} (h : fFsOk x = true) (no : Int) (t : ByteArray) :
    fFsAppend x no t = (x, false) ∨ ∃ y, fFsAppend x no t = (y, true) ∧ GoodFs y ∧ ∀ m, m ≠ no → rdF y m = rdF x m := by
  rw [app_eq x no t h]
  cases ha : atF x.F no with
  | none => exact .inl rfl
  | some i =>
    simp only
    split
    · exact .inl rfl
    · rename_i hc
      obtain ⟨g', hm⟩ := append_good ((fs_good x).1 h) ha (text := t) (by have := fun q => hc (.inr q); omega)
      exact .inr ⟨_, rfl, g', fun m hm' => by rw [hm, if_neg hm']⟩
theorem fil_ok {x : DFStore} (h : fFsOk x = true) (no : Int) (t : ByteArray) : fFsOk (fFsAppend x no t).1 = true := by
  rcases fil_cases h no t with e | ⟨y, e, g, _⟩
  · rw [e]; exact h
  · rw [e]; exact (fs_good y).2 g
theorem fil_read {x : DFStore} (h : fFsOk x = true) (no : Int) (t : ByteArray) (m : Int) (hm : (fFsAppend x no t).2 = true → m ≠ no) : fFsRead (fFsAppend x no t).1 m = fFsRead x m := by
  rcases fil_cases h no t with e | ⟨y, e, g, hr⟩
  · rw [e]
  · rw [e] at hm ⊢
    rw [read_rd h, read_rd ((fs_good y).2 g), hr m (hm rfl)]
theorem fil_bad {x : DFStore} (h : fFsOk x = false) (no : Int) (t : ByteArray) : fFsAppend x no t = (noFs, false) := by
  unfold fFsAppend
  rw [if_neg (by rw [h]; exact Bool.false_ne_true)]
def lenF (F : List FFile) : Nat := (F.map fun f => f.bl.length).sum
def ownF (F : List FFile) (o : Int) : Nat := lenF (F.filter fun f => decide (f.ow = o))
theorem lenF_cons (f : FFile) (F : List FFile) : lenF (f :: F) = f.bl.length + lenF F := by simp [lenF]
theorem ownF_cons (f : FFile) (F : List FFile) (o : Int) : ownF (f :: F) o = (if f.ow = o then f.bl.length else 0) + ownF F o := by
  unfold ownF
  rw [List.filter_cons]
  by_cases h : f.ow = o
  · rw [if_pos (by rw [h]; exact decide_eq_true rfl), if_pos h, lenF_cons]
  · rw [if_neg (by rw [decide_eq_true_eq]; exact h), if_neg h]; omega
theorem cast_sum : ∀ F : List FFile, (F.map fun f => (f.bl.length : Int)).sum = (lenF F : Int)
  | [] => rfl
  | f :: F => by rw [List.map_cons, List.sum_cons, lenF_cons, cast_sum F]; omega
theorem used_own {x : DFStore} (h : fFsOk x = true) (o : Int) : fFsUsed x o = (ownF x.F o : Int) := by
  unfold fFsUsed
  rw [if_pos h]
  first | exact cast_sum _ | rfl
theorem own_le : ∀ F : List FFile, ownF F 1 + ownF F 2 + ownF F 3 + ownF F 4 ≤ lenF F
  | [] => by simp [ownF, lenF]
  | f :: F => by
    have ih := own_le F
    rw [ownF_cons, ownF_cons, ownF_cons, ownF_cons, lenF_cons]
    split <;> split <;> split <;> split <;> omega
/-- No file has more than 24 blocks. -/
theorem good_24 {x : DFStore} (g : GoodFs x) {f : FFile} (hf : f ∈ x.F) : f.bl.length ≤ 24 := by
  have h0 := g.hf f hf
  unfold fileOk0 ceil8 at h0
  simp only [Bool.and_eq_true, inB_true, decide_eq_true_eq] at h0
  omega
theorem lenF_take : ∀ (F : List FFile) (_ : ∀ f ∈ F, f.bl.length ≤ 24) (k : Nat), lenF (F.take k) ≤ 24 * k
  | [], _, k => by rw [List.take_nil]; exact Nat.zero_le _
  | f :: F, h, 0 => Nat.zero_le _
  | f :: F, h, k + 1 => by
    rw [List.take_succ_cons, lenF_cons]
    have := lenF_take F (fun g hg => h g (List.mem_cons_of_mem _ hg)) k
    have := h f List.mem_cons_self
    omega
theorem lenF_step (F : List FFile) (k : Nat) (h : k < F.length) : lenF (F.take (k + 1)) = lenF (F.take k) + (fileAt F k).bl.length := by
  have e : F.take (k + 1) = F.take k ++ [F[k]] := by rw [List.take_add_one, List.getElem?_eq_getElem h]; simp
  rw [e, fileAt_get h]
  unfold lenF
  rw [List.map_append, List.sum_append]
  simp
end Go.Proofs.Ytojgphgfhapacaa
