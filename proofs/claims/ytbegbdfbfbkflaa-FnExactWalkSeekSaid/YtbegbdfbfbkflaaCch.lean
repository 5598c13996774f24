/- Finding and deleting in a row by a function; cache rows. -/
import Derived.Test.YtbegbdfbfbkflaaEng10
import Derived.Test.YtbegbdfbfbkflaaCln
import Derived.Test.YtbegbdfbfbkflaaBtCache
import Derived.Test.YtbegbdfbfbkflaaDlt
namespace Go.Proofs.Ytbegbdfbfbkflaa
open Go.RowKit
set_option maxHeartbeats 4000000
set_option maxRecDepth 20000
set_option linter.unusedVariables false
set_option linter.unusedSimpArgs false
/-- The first index at which a test holds; -1 where none does. -/
def ixF {α : Type} [Dat α] (p : α → Bool) (l : List α) : Nat → Nat → Int
  | 0, _ => -1
  | f + 1, k => bif p (nth l k) then (k : Int) else ixF p l f (k + 1)
def ixP {α : Type} [Dat α] (p : α → Bool) (l : List α) : Int := ixF p l l.length 0
theorem ixF_or {α : Type} [Dat α] (p : α → Bool) (l : List α) : ∀ f k, (ixF p l f k = -1 ∧ ∀ j, k ≤ j → j < k + f → p (nth l j) = false) ∨ (∃ i : Nat, ixF p l f k = i ∧ k ≤ i ∧ i < k + f ∧ p (nth l i) = true ∧ ∀ j, k ≤ j → j < i → p (nth l j) = false)
  | 0, k => .inl ⟨rfl, fun j a b => by omega⟩
  | f + 1, k => by
    unfold ixF
    cases h : p (nth l k) with
    | true => exact .inr ⟨k, rfl, by omega, by omega, h, fun j a b => by omega⟩
    | false =>
      rcases ixF_or p l f (k + 1) with ⟨a, b⟩ | ⟨i, a, b, c, d, e⟩
      · refine .inl ⟨a, fun j h1 h2 => ?_⟩
        rcases Nat.eq_or_lt_of_le h1 with rfl | h3
        · exact h
        · exact b j h3 (by omega)
      · refine .inr ⟨i, a, by omega, by omega, d, fun j h1 h2 => ?_⟩
        rcases Nat.eq_or_lt_of_le h1 with rfl | h3
        · exact h
        · exact e j h3 h2
theorem ixP_or {α : Type} [Dat α] (p : α → Bool) (l : List α) : (ixP p l = -1 ∧ ∀ j, j < l.length → p (nth l j) = false) ∨ (∃ i : Nat, ixP p l = i ∧ i < l.length ∧ p (nth l i) = true ∧ ∀ j, j < i → p (nth l j) = false) := by
  rcases ixF_or p l l.length 0 with ⟨a, b⟩ | ⟨i, a, b, c, d, e⟩
  · exact .inl ⟨a, fun j h => b j (by omega) (by omega)⟩
  · exact .inr ⟨i, a, by omega, d, fun j h => e j (by omega) h⟩
theorem ixF_step {α : Type} [Dat α] {p : α → Bool} {l : List α} {k : Nat} (h : k < l.length) : ixF p l (l.length - k) k = bif p (nth l k) then (k : Int) else ixF p l (l.length - (k + 1)) (k + 1) := by
  rw [show l.length - k = (l.length - (k + 1)) + 1 by omega, ixF]
section
variable {P : Program} {E : Env} {H : List HObj} {G : List World} {o : Oper}
theorem add_zero_all (A : Option Addr) (k : Nat) : A.map (·.add (0 * k)) = A := by
  cases A <;> simp [Addr.add]
theorem ps_slice0 {x : Operand} {hi : Operand} {t e sz bytes : TypeId} {A : Option Addr} {n c : Nat} {h : Nat} {z : Int} {k : IntKind} [ht : EL P t e sz bytes] (ho : o.op = .slice t x none (some hi) none) (hx : opd E x = some (.slice A n c))
    (hhi : opd E hi = some (.int k z)) (hz : z = (h : Int)) (h2 : h ≤ c) : PStep P E H G o (.slice A h c) := by
  subst hz
  have := ps_slice (P := P) (E := E) (H := H) (G := G) (l := 0) (h := h) ho hx rfl ⟨k, hhi⟩ (by omega) h2
  rw [add_zero_all] at this
  simpa using this
theorem ps_sliceE {x : Operand} {lo : Operand} {t e sz bytes : TypeId} {A : Option Addr} {n c : Nat} {l : Nat} {z : Int} {k : IntKind} [ht : EL P t e sz bytes] (ho : o.op = .slice t x (some lo) none none) (hx : opd E x = some (.slice A n c))
    (hlo : opd E lo = some (.int k z)) (hz : z = (l : Int)) (h1 : l ≤ n) (h2 : n ≤ c) : PStep P E H G o (.slice (if c = l then A else A.map (·.add (l * sz))) (n - l) (c - l)) := by
  subst hz
  exact ps_slice (l := l) (h := n) ho hx ⟨k, hlo⟩ rfl h1 h2
theorem ps_sliceEE {x : Operand} {lo hi : Operand} {t e sz bytes : TypeId} {A : Option Addr} {n c : Nat} {l h : Nat} {z z' : Int} {k k' : IntKind} [ht : EL P t e sz bytes] (ho : o.op = .slice t x (some lo) (some hi) none) (hx : opd E x = some (.slice A n c))
    (hlo : opd E lo = some (.int k z)) (hhi : opd E hi = some (.int k' z')) (hz : z = (l : Int)) (hz' : z' = (h : Int)) (h1 : l ≤ h) (h2 : h ≤ c) : PStep P E H G o (.slice (if c = l then A else A.map (·.add (l * sz))) (h - l) (c - l)) := by
  subst hz hz'
  exact ps_slice (l := l) (h := h) ho hx ⟨k, hlo⟩ ⟨k', hhi⟩ h1 h2
theorem fl_drop {α : Type} [Dat α] : ∀ (l : List α) (i : Nat), (fl l).drop (i * Dat.sz α) = fl (l.drop i)
  | [], i => by simp [fl]
  | x :: l, 0 => by simp [fl]
  | x :: l, i + 1 => by
    have ih := fl_drop l i
    rw [List.drop_succ_cons, fl_cons, ← ih]
    have : (i + 1) * Dat.sz α = (Dat.cells x).length + i * Dat.sz α := by rw [Dat.len, Nat.add_mul]; omega
    rw [this, List.drop_length_add_append]
theorem rds_tail {α : Type} [Dat α] {A : Option Addr} {c j sz : Nat} {L : List α} (h : Rds H G A (fl L)) (hs : Dat.sz α = sz) (hc : L.length ≤ c) (hj : j ≤ L.length) : Rds H G (if c = j then A else A.map (·.add (j * sz))) (fl (L.drop j)) := by
  by_cases h0 : c = j
  · rw [if_pos h0, List.drop_of_length_le (by omega)]
    exact fun _ _ w _ => Rd.nil w A
  · rw [if_neg h0]
    have := h.sub (i := j * sz) (n := (fl L).length)
    rw [← hs, fl_drop, List.take_of_length_le (by rw [fl_len, fl_len, List.length_drop]; exact Nat.mul_le_mul_right _ (by omega)), hs] at this
    exact this
end
theorem own_cap {w : World} {base e sz n c : Nat} {A : Option Addr} {us : List Value} (h : Own w base e sz A n c us) : n ≤ c := by
  obtain ⟨_, ⟨hA, hn⟩ | ⟨g, cap, cur, hA, _, _, hnc, _⟩⟩ := h
  · omega
  · injection hA with _ _ h3; omega
def Keeps (m w : World) : Prop := ∀ p u, m.cell? p = some u → w.cell? p = some u
theorem Rd.keeps {m w : World} {A : Option Addr} {us : List Value} (h : Rd m A us) (hk : Keeps m w) : Rd w A us := fun j u hu => by
  obtain ⟨ad, e, hc⟩ := h j u hu
  exact ⟨ad, e, hk _ _ hc⟩
theorem WOk.keeps {m w w0 : World} {base : Nat} {H : List HObj} {G : List World} (hw : WOk base w0 H G w) (hm : m ∈ G) : Keeps m w := fun p u hp => (hw.ref m hm p u hp).1
attribute [local irreducible] Calls
instance : OneC CRow := ⟨fun x u hu => by
  have : u = .int .i64 x.tenant ∨ u = .int .i64 x.no ∨ u = .string x.text := by simpa [Dat.cells] using hu
  rcases this with rfl | rfl | rfl <;> rfl⟩
/-- slices.DeleteFunc in an own row. -/
structure DelI (R : List CRow) (p : CRow → Bool) where
  i : Nat
  j : Nat
  L : List CRow
  hl : L.length = R.length
  hi : L.take i = (R.take j).filter (fun x => !p x)
  hil : i = ((R.take j).filter (fun x => !p x)).length
  hd : L.drop j = R.drop j
  hj : j ≤ R.length
theorem DelI.le {R : List CRow} {p : CRow → Bool} (q : DelI R p) : q.i ≤ q.j := by
  have h1 := q.hil
  have h2 := List.length_filter_le (fun x => !p x) (R.take q.j)
  rw [List.length_take] at h2
  omega
theorem takeN {R : List CRow} {j : Nat} (h : j < R.length) : R.take (j + 1) = R.take j ++ [nth R j] := by
  rw [List.take_add_one, List.getElem?_eq_getElem h]
  simp [nth, h]
theorem dropN {R : List CRow} {j : Nat} (h : j < R.length) : R.drop j = nth R j :: R.drop (j + 1) := by
  rw [List.drop_eq_getElem_cons h]
  simp [nth, h]
def DelI.keep {R : List CRow} {p : CRow → Bool} (q : DelI R p) (h : q.j < R.length) (hp : p (nth R q.j) = false) : DelI R p :=
  ⟨q.i + 1, q.j + 1, q.L.set q.i (nth R q.j), by rw [List.length_set]; exact q.hl, by
    have hle := q.le
    have hlt : q.i < q.L.length := by rw [q.hl]; omega
    rw [takeN h, List.filter_append, ← q.hi]
    simp only [List.filter_cons, hp, Bool.not_false, if_true, List.filter_nil]
    rw [List.take_add_one, List.take_set_of_le (Nat.le_refl _), List.getElem?_set_self hlt]; rfl, by
    rw [takeN h, List.filter_append, List.length_append, ← q.hil]
    simp [hp], by
    have hle := q.le
    rw [List.drop_set_of_lt (by omega)]
    have := congrArg (List.drop 1) q.hd
    simpa [List.drop_drop] using this, by omega⟩
def DelI.skip {R : List CRow} {p : CRow → Bool} (q : DelI R p) (h : q.j < R.length) (hp : p (nth R q.j) = true) : DelI R p :=
  ⟨q.i, q.j + 1, q.L, q.hl, by
    rw [takeN h, List.filter_append, ← q.hi]
    simp [hp], by
    rw [takeN h, List.filter_append, List.length_append, ← q.hil]
    simp [hp], by
    have := congrArg (List.drop 1) q.hd
    simpa [List.drop_drop] using this, by omega⟩
theorem DelI.at_ {R : List CRow} {p : CRow → Bool} (q : DelI R p) (h : q.j < R.length) : nth q.L q.j = nth R q.j := by
  have e := q.hd
  have hl := q.hl
  rw [dropN h, dropN (show q.j < q.L.length by omega)] at e
  exact (List.cons.inj e).1
theorem take_keep {R : List CRow} {p : CRow → Bool} {i : Nat} (h : i ≤ R.length) (hn : ∀ j, j < i → p (nth R j) = false) : (R.take i).filter (fun x => !p x) = R.take i := by
  rw [List.filter_eq_self]
  intro x hx
  obtain ⟨j, hj, rfl⟩ := List.getElem_of_mem hx
  rw [List.length_take] at hj
  have := hn j (by omega)
  rw [show nth R j = R[j]'(by omega) by simp [nth, show j < R.length by omega]] at this
  rw [List.getElem_take, this]; rfl
def DelI.start {R : List CRow} {p : CRow → Bool} {i : Nat} (h : i < R.length) (hp : p (nth R i) = true) (hn : ∀ j, j < i → p (nth R j) = false) : DelI R p :=
  ⟨i, i + 1, R, rfl, by
    rw [takeN h, List.filter_append, take_keep (by omega) hn]
    simp [hp], by
    rw [takeN h, List.filter_append, take_keep (by omega) hn]
    simp [hp]; omega, rfl, by omega⟩
end Go.Proofs.Ytbegbdfbfbkflaa
