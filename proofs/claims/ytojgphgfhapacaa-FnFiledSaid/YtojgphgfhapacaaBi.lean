/- Rows of ints: size, copy, comparison, marks, by the engine. -/
import Derived.Test.YtojgphgfhapacaaEng8
import Derived.Test.YtojgphgfhapacaaTab
namespace Go.Proofs.Ytojgphgfhapacaa
open Go.RowKit
set_option maxHeartbeats 1000000
set_option maxRecDepth 20000
set_option linter.unusedVariables false
set_option linter.unusedSimpArgs false
/-- What a mark writes: k, k + 1, .. -/
class Mk (α : Type) where
  cnt : Int
  mkv : Int → α
def mkL {α : Type} [Mk α] (k : Int) (n : Nat) : List α := (List.range n).map fun (j : Nat) => Mk.mkv (k + Mk.cnt α * (j : Int))
theorem mkL_len {α : Type} [Mk α] (k : Int) (n : Nat) : (mkL k n : List α).length = n := by simp [mkL]
theorem mkL_nth {α : Type} [Mk α] [Dat α] (k : Int) (n j : Nat) (h : j < n) : nth (mkL k n : List α) j = Mk.mkv (k + Mk.cnt α * j) := by simp [nth, mkL, h]
theorem mk_step {α : Type} [Mk α] [Dat α] (l : List α) (k : Int) (i : Nat) (h : i < l.length) : (mkL k i ++ l.drop i).set i (Mk.mkv (k + Mk.cnt α * i)) = mkL k (i + 1) ++ l.drop (i + 1) := by
  have h1 : (mkL k i : List α).length = i := mkL_len k i
  rw [List.set_append_right _ _ (by omega), h1, Nat.sub_self, List.drop_eq_getElem_cons h, List.set_cons_zero]
  simp [mkL, List.range_succ]
theorem mk_nth {α : Type} [Mk α] [Dat α] (l : List α) (k : Int) (i : Nat) (h : i < l.length) : nth (mkL k i ++ l.drop i) i = nth l i := by
  have h1 : (mkL k i : List α).length = i := mkL_len k i
  have h2 : (mkL k i ++ l.drop i)[i]? = l[i]? := by
    rw [List.getElem?_append_right (by omega), h1, Nat.sub_self, List.getElem?_drop]; simp
  simp [nth, h2]
theorem nth_set {α : Type} [Dat α] (l : List α) (i : Nat) (x : α) (h : i < l.length) : nth (l.set i x) i = x := by simp [nth, h]
theorem nth_mem {α : Type} [Dat α] (l : List α) (k : Nat) (h : k < l.length) : nth l k ∈ l := by
  have : nth l k = l[k] := by simp [nth, h]
  rw [this]; exact List.getElem_mem h
theorem mem_nth {α : Type} [Dat α] {l : List α} {p : α → Prop} (h : ∀ j, j < l.length → p (nth l j)) : ∀ x ∈ l, p x := fun x hx => by
  obtain ⟨j, hj, rfl⟩ := List.getElem_of_mem hx
  have := h j hj
  rwa [show nth l j = l[j] by simp [nth, hj]] at this
theorem WOk.same {base : Nat} {w0 w : World} {H H' : List HObj} {G : List World} (e : H = H') (h : WOk base w0 H G w) : WOk base w0 H' G w := e ▸ h
instance : Mk Int := ⟨1, fun k => k⟩
/-- A contract of the pure kind as one of the kind that tells the lists. -/
theorem toW {P : Program} {f : FuncId} {vs : Array Value} {base : Nat} {w0 w : World} {H : List HObj} {G : List World} {F : Ys → Prop} {v : Ys → Value} {Hn : Ys → List HObj} {Gn : Ys → List World}
    (hw : WOk base w0 H G w) (h : Calls P f vs w (fun e w' => ∃ y, e = .returned (v y) ∧ F y ∧ Below w.heap.size w w' ∧ NewOk w.heap.size (Hn y) (Gn y) w')) :
    Calls P f vs w (fun e w' => ∃ y, e = .returned (v y) ∧ F y ∧ WOk base w0 (Hn y ++ H) (Gn y ++ G) w') :=
  h.mono fun e w' ⟨y, a, b, c, d⟩ => ⟨y, a, b, hw.grow c d⟩
end Go.Proofs.Ytojgphgfhapacaa
