/- FStore in the uniform style: size, copy, comparison, marks. -/
import Derived.Test.YtojgphgfhapacaaBnFFile
import Derived.Test.YtojgphgfhapacaaBfStr
import Derived.Test.YtojgphgfhapacaaFlStr
namespace Go.Proofs.Ytojgphgfhapacaa
open Go.RowKit
set_option maxHeartbeats 4000000
set_option maxRecDepth 20000
set_option linter.unusedVariables false
set_option linter.unusedSimpArgs false
attribute [local irreducible] Calls
@[reducible] def FS_loc (x : DFStore) (y : Ys) : List LF := locs 2 x.F y
def FStore_val (x : DFStore) (y : Ys) : Value := .agg #[.slice (y 0).A x.B.length (y 0).c, .slice (y 1).A x.F.length (y 1).c]
def FStore_obj (x : DFStore) (y : Ys) : List HObj := [.row 9 1 (y 0).A x.B.length (y 0).c (fl x.B), .row 36 5 (y 1).A x.F.length (y 1).c (fl (FS_loc x y)), .bag 3 1 (rowsOf (FS_loc x y))]
def FStore_rd (w : World) (x : DFStore) (y : Ys) : Prop := Rd w (y 0).A (fl x.B) ∧ RdN w (y 1).A (FS_loc x y)
def FStore_big (x : DFStore) : Prop := (x.B.length ≤ maxLen ∧ ∀ u ∈ x.B, bigStr u) ∧ x.F.length ≤ maxLen ∧ ∀ f ∈ x.F, f.bl.length ≤ maxLen
def FStore_sm (x : DFStore) : Prop := (x.B.length ≤ 1048576 ∧ ∀ u ∈ x.B, wtStr u) ∧ x.F.length ≤ 1048576 ∧ ∀ f ∈ x.F, f.bl.length ≤ 1048576
def FStore_lim (x : DFStore) : Prop := x.B.length ≤ 4194304 ∧ x.F.length ≤ 4194304 ∧ ∀ f ∈ x.F, f.bl.length ≤ 4194304
def FStore_cnt (x : DFStore) (k : Int) : Int := (k + 1 * (x.B.length : Int)) + (offF x.F x.F.length : Int)
def FStore_mk (k : Int) (x : DFStore) : DFStore := ⟨mkL k x.B.length, mkFS (k + 1 * (x.B.length : Int)) x.F⟩
theorem FStore_sm_lim {x : DFStore} (h : FStore_sm x) : FStore_lim x := ⟨by have := h.1.1; omega, by have := h.2.1; omega, fun l hl => by have := h.2.2 l hl; omega⟩
theorem FStore_cnt_le (x : DFStore) (k : Int) (h : FStore_lim x) : k ≤ FStore_cnt x k ∧ FStore_cnt x k ≤ k + 17592207015936 := by
  have := offF_le x.F h.2.1 h.2.2 x.F.length
  have h1 := h.1
  unfold FStore_cnt; omega
/-- One place more ahead of the others. -/
def shY (a : Ya) (y : Ys) : Ys := fun i => if i = 0 then a else y (i - 1)
theorem locs_sh {α β : Type} [Dat β] [In α β] (k : Nat) (x : List α) (a : Ya) (y : Ys) : locs (k + 1) x (shY a y) = locs k x y := by
  unfold locs
  congr 1
  funext i d
  simp [shY, show k + 1 + i ≠ 0 by omega, show k + 1 + i - 1 = k + i by omega]
/-- The places behind the first. -/
def unY (y : Ys) : Ys := fun i => y (i + 1)
theorem locs_un {α β : Type} [Dat β] [In α β] (k : Nat) (x : List α) (y : Ys) : locs (k + 1) x y = locs k x (unY y) := by
  unfold locs
  congr 1
  funext i d
  simp [unY, show k + i + 1 = k + 1 + i by omega]
theorem FS_mk_loc (k : Int) (x : DFStore) (y : Ys) : FS_loc (FStore_mk k x) y = mixR (mkFL (k + 1 * (x.B.length : Int)) x.F) x.F.length (FS_loc x y) := by
  unfold FS_loc FStore_mk mkFS
  rw [locsF_mk]
theorem FS_mk_len (k : Int) (x : DFStore) : (FStore_mk k x).F.length = x.F.length := mixR_len _ _ _
theorem offF_mk (k : Int) (x : List FFile) (i : Nat) : offF (mkFS k x) i = offF x i := by
  unfold offF offR mkFS mixR
  congr 1
  apply List.ext_getElem?
  intro j
  simp only [List.getElem?_map, List.getElem?_take, List.getElem?_mapIdx]
  by_cases hj : j < i
  · simp only [hj, if_true]
    cases hx : x[j]? with
    | none => rfl
    | some l =>
      simp only [Option.map_some, Option.some.injEq]
      split
      · simp [mkF1, mkL_len]
      · rfl
  · simp only [hj, if_false]
theorem mkF1_mk (k0 : Int) (x : List FFile) (i : Nat) (l : FFile) : mkF1 k0 (mkFS k0 x) i (mkF1 k0 x i l) = mkF1 k0 x i l := by
  unfold mkF1
  rw [offF_mk]
  simp only [mkL_len]
theorem FStore_rf {m w w0 : World} {base : Nat} {H : List HObj} {G : List World} {x : DFStore} {y : Ys} (h : FStore_rd m x y) (hm : m ∈ G) (hw : WOk base w0 H G w) : FStore_rd w x y := ⟨hw.keep h.1 hm, RdN.keep hw h.2 hm⟩
theorem FStore_of {w w0 : World} {base : Nat} {H : List HObj} {G : List World} {x : DFStore} {y : Ys} (hw : WOk base w0 (FStore_obj x y ++ H) G w) : FStore_rd w x y := ⟨hw.row 0 rfl, RdN.own hw 1 2 rfl rfl⟩
abbrev gFFile : GT := .st [.int, .int, .sl 3 .int, .int, .bool]
theorem nestFFile : NestAt (α := FFile) gFFile (fun x => ⟨x.1, x.2.1, List.map (fun x => x) (show List Int from x.2.2.1), x.2.2.2.1, x.2.2.2.2.1⟩) (fun f => f.bl.length ≤ maxLen) := fun w x c h => by
  obtain ⟨a0, a1, a2, a3, a4, u⟩ := x
  obtain ⟨c0, d0, rfl, h0, e0⟩ := RdTL.cons.1 (RdT.st.1 h)
  obtain ⟨c1, d1, rfl, h1, e1⟩ := RdTL.cons.1 e0
  obtain ⟨c2, d2, rfl, h2, e2⟩ := RdTL.cons.1 e1
  obtain ⟨c3, d3, rfl, h3, e3⟩ := RdTL.cons.1 e2
  obtain ⟨c4, d4, rfl, h4, e4⟩ := RdTL.cons.1 e3
  rw [RdTL.nil] at e4; subst e4
  obtain ⟨rfl, b0⟩ := RdT.int.1 h0
  obtain ⟨rfl, b1⟩ := RdT.int.1 h1
  obtain ⟨A, k, us, rfl, q1, q2, q3, q4⟩ := RdT.sl.1 h2
  obtain ⟨rfl, b⟩ := flat_rows flatInt _ _ q4
  obtain ⟨rfl, b3⟩ := RdT.int.1 h3
  obtain rfl := RdT.bool.1 h4
  have hl : (List.map (fun x => x) (show List Int from a2)).length = List.length a2 := List.length_map ..
  exact ⟨A, k, congrArg (fun n => [Value.int .i64 a0, Value.int .i64 a1, Value.slice A n k, Value.int .i64 a3, Value.bool a4]) hl.symm, q3, Nat.le_trans (Nat.le_of_eq hl) (Nat.le_trans q1 q2)⟩
end Go.Proofs.Ytojgphgfhapacaa
