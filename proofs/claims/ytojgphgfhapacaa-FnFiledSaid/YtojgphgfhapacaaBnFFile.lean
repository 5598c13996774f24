/- Rows of FFile, each with its row of blocks: size, copy, comparison, marks. -/
import Derived.Test.YtojgphgfhapacaaFsD
import Derived.Test.YtojgphgfhapacaaEng11
namespace Go.Proofs.Ytojgphgfhapacaa
open Go.RowKit
set_option maxHeartbeats 4000000
set_option maxRecDepth 20000
set_option linter.unusedVariables false
set_option linter.unusedSimpArgs false
attribute [local irreducible] Calls
abbrev LF := Lc FFile
theorem lens_in {R : List LF} {m : Nat} (hs : ∀ x ∈ dats R, x.bl.length ≤ m) : ∀ k, k < R.length → (nth R k).d.bl.length ≤ m := fun k hk => hs _ (List.mem_map.2 ⟨_, nth_mem R k hk, rfl⟩)
theorem fillPF {α : Type} (p : List α) (m : Nat) (z v : α) : (p ++ List.replicate (m + 1) z).set p.length v = (p ++ [v]) ++ List.replicate m z := by
  rw [List.replicate_succ, List.set_append_right _ _ (Nat.le_refl _), Nat.sub_self, List.set_cons_zero]; simp
theorem datsF_nth {R S : List LF} (e : dats S = dats R) (k : Nat) (h : k < R.length) : (nth S k).d = (nth R k).d := by
  have hl : S.length = R.length := by rw [← dats_len, e, dats_len]
  have h1 := congrArg (fun l => l[k]?) e
  simp only [dats, List.getElem?_map] at h1
  rw [List.getElem?_eq_getElem (by omega), List.getElem?_eq_getElem h] at h1
  rw [nthL S k (by omega), nthL R k h]
  simpa using h1
/-- The marks. -/
def offF (x : List FFile) (i : Nat) : Nat := offR (fun u => 4 + u.bl.length) x i
def mkF1 (k0 : Int) (x : List FFile) (i : Nat) (l : FFile) : FFile := ⟨k0 + (offF x i : Int), k0 + (offF x i : Int) + 1, mkL (k0 + (offF x i : Int) + 1 + 1) l.bl.length, k0 + (offF x i : Int) + 1 + 1 + 1 * (l.bl.length : Int), (k0 + (offF x i : Int) + 1 + 1 + 1 * (l.bl.length : Int) + 1) % 3 == 0⟩
def mkFL (k0 : Int) (x : List FFile) (i : Nat) (l : LF) : LF := ⟨mkF1 k0 x i l.d, l.A, l.c⟩
def mkFS (k0 : Int) (x : List FFile) : List FFile := mixR (mkF1 k0 x) x.length x
theorem datsF_mix (k0 : Int) (x : List FFile) (k : Nat) (R : List LF) : dats (mixR (mkFL k0 x) k R) = mixR (mkF1 k0 x) k (dats R) := by
  apply List.ext_getElem?
  intro i
  simp only [dats, mixR, List.getElem?_map, List.getElem?_mapIdx, Option.map_map]
  cases R[i]? with
  | none => rfl
  | some l =>
    simp only [Option.map_some, Function.comp]
    split <;> rfl
theorem locsF_mk (k0 : Int) (x : List FFile) (k q : Nat) (y : Ys) : locs q (mixR (mkF1 k0 x) k x) y = mixR (mkFL k0 x) k (locs q x y) := by
  apply List.ext_getElem?
  intro i
  simp only [locs, mixR, List.getElem?_mapIdx, Option.map_map]
  cases x[i]? with
  | none => rfl
  | some l =>
    simp only [Option.map_some, Function.comp]
    split <;> rfl
theorem offF_le (x : List FFile) (hx : x.length ≤ 4194304) (hs : ∀ l ∈ x, l.bl.length ≤ 4194304) (i : Nat) : offF x i ≤ 17592202821632 := by
  have := offR_le (fun u : FFile => 4 + u.bl.length) x 4194308 (fun u hu => by have := hs u hu; show 4 + u.bl.length ≤ _; omega) i
  have h2 : x.length * 4194308 ≤ 4194304 * 4194308 := Nat.mul_le_mul_right _ hx
  unfold offF; omega
theorem offF_succ (R : List LF) (i : Nat) (h : i < R.length) : offF (dats R) (i + 1) = offF (dats R) i + (4 + (nth R i).d.bl.length) := by
  rw [nthL R i h]
  have hd : i < (dats R).length := by rw [dats_len]; exact h
  unfold offF offR
  rw [List.take_succ_eq_append_getElem hd, List.map_append, List.sum_append]
  simp [dats]
theorem fl_set_eq {α : Type} [Dat α] (L : List α) (k : Nat) {a b : α} (h : Dat.cells a = Dat.cells b) : fl (L.set k a) = fl (L.set k b) := by
  unfold fl
  rw [List.flatMap_def, List.flatMap_def, List.map_set, List.map_set, h]
theorem rows_set_eq {α β : Type} [Dat β] [In α β] (L : List (Lc α)) (k : Nat) {a b : Lc α} (h : a.row = b.row) : rowsOf (L.set k a) = rowsOf (L.set k b) := by
  unfold rowsOf
  rw [List.map_set, List.map_set, h]
end Go.Proofs.Ytojgphgfhapacaa
