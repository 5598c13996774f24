/- Rows of records that hold a row each: where the inner rows lie stands beside the data; the inner rows are a bag. -/
import Derived.Test.YtojgphgfhapacaaMt
import Derived.Test.YtojgphgfhapacaaFgt0
namespace Go.Proofs.Ytojgphgfhapacaa
open Go.RowKit
set_option linter.unusedVariables false
set_option linter.unusedSimpArgs false
/-- A record with one row in it. -/
class In (α : Type) (β : outParam Type) [Dat β] where
  sz : Nat
  cells : α → Value → List Value
  len : ∀ x v, (cells x v).length = sz
  inn : α → List β
  dflt : α
  one : ∀ x (A : Option Addr) (n c : Nat), ∀ u ∈ cells x (.slice A n c), u.oneCell' = true
structure Lc (α : Type) where
  d : α
  A : Option Addr
  c : Nat
section
variable {α β : Type} [Dat β] [In α β]
@[reducible] def inL (l : Lc α) : List β := In.inn l.d
@[reducible] instance : Dat (Lc α) := ⟨In.sz α, fun l => In.cells l.d (.slice l.A (In.inn l.d).length l.c), fun _ => In.len _ _, ⟨In.dflt, none, 0⟩⟩
instance : OneC (Lc α) := ⟨fun x u hu => In.one _ _ _ _ u hu⟩
def Lc.row (l : Lc α) : RowD := ⟨l.A, (In.inn l.d).length, l.c, fl (In.inn l.d)⟩
def rowsOf (R : List (Lc α)) : List RowD := R.map Lc.row
def dats (R : List (Lc α)) : List α := R.map Lc.d
/-- The inner rows of a result stand behind the k-th place. -/
def locs (k : Nat) (x : List α) (y : Ys) : List (Lc α) := x.mapIdx fun i d => ⟨d, (y (k + i)).A, (y (k + i)).c⟩
def mkR (p : List Ya) (R : List (Lc α)) (w : World) : Ys := fun i => if i < p.length then p.getD i ⟨none, 0, w, 0⟩ else ⟨(nth R (i - p.length)).A, (nth R (i - p.length)).c, w, 0⟩
theorem dats_len (R : List (Lc α)) : (dats R).length = R.length := List.length_map ..
theorem locs_len (k : Nat) (x : List α) (y : Ys) : (locs k x y).length = x.length := by simp [locs]
theorem dats_locs (k : Nat) (x : List α) (y : Ys) : dats (locs k x y) = x := by
  apply List.ext_getElem?
  intro i
  simp only [dats, locs, List.getElem?_map, List.getElem?_mapIdx, Option.map_map]
  cases x[i]? <;> rfl
theorem nthL (R : List (Lc α)) (i : Nat) (h : i < R.length) : nth R i = R[i] := by simp [nth, h]
theorem locs_mkR (p : List Ya) (R : List (Lc α)) (w : World) (k : Nat) (h : p.length = k) : locs k (dats R) (mkR p R w) = R := by
  subst h
  apply List.ext_getElem?
  intro i
  simp only [locs, dats, List.getElem?_mapIdx, List.getElem?_map]
  by_cases hi : i < R.length
  · rw [List.getElem?_eq_getElem hi]
    simp only [Option.map_some, mkR, show ¬ p.length + i < p.length from by omega, if_false, show p.length + i - p.length = i from by omega, nthL R i hi]
  · rw [List.getElem?_eq_none (by omega)]; rfl
theorem mkR_at (p : List Ya) (R : List (Lc α)) (w : World) (i : Nat) (h : i < p.length) : mkR p R w i = p[i] := by simp [mkR, h]
theorem rows_snoc (R : List (Lc α)) (l : Lc α) : rowsOf (R ++ [l]) = rowsOf R ++ [l.row] := by simp [rowsOf]
theorem dats_snoc (R : List (Lc α)) (l : Lc α) : dats (R ++ [l]) = dats R ++ [l.d] := by simp [dats]
theorem rows_at (R : List (Lc α)) (k : Nat) (h : k < R.length) : rowsOf R = rowsOf (R.take k) ++ (nth R k).row :: rowsOf (R.drop (k + 1)) := by
  rw [nthL R k h]
  have e : R = R.take k ++ R[k] :: R.drop (k + 1) := by rw [← List.drop_eq_getElem_cons h, List.take_append_drop]
  have e2 := congrArg rowsOf e
  rw [e2]
  show List.map Lc.row (R.take k ++ R[k] :: R.drop (k + 1)) = List.map Lc.row (R.take k) ++ R[k].row :: List.map Lc.row (R.drop (k + 1))
  rw [List.map_append, List.map_cons]
theorem rows_set (R : List (Lc α)) (k : Nat) (l : Lc α) (h : k < R.length) : rowsOf (R.set k l) = rowsOf (R.take k) ++ l.row :: rowsOf (R.drop (k + 1)) := by
  rw [List.set_eq_take_append_cons_drop, if_pos h]
  simp [rowsOf]
section
variable {base : Nat} {w0 w : World} {H : List HObj} {G : List World} {e sz : Nat}
theorem WOk.bagPull {R : List (Lc α)} (k : Nat) (hk : k < R.length) (hw : WOk base w0 (.bag e sz (rowsOf R) :: H) G w) : WOk base w0 (.row e sz (nth R k).A (In.inn (nth R k).d).length (nth R k).c (fl (In.inn (nth R k).d)) :: .bag e sz (rowsOf (R.take k) ++ rowsOf (R.drop (k + 1))) :: H) G w := by
  rw [rows_at R k hk] at hw
  exact WOk.pull hw
theorem WOk.bagPush {R : List (Lc α)} (k : Nat) (l : Lc α) (hk : k < R.length) (hw : WOk base w0 (.row e sz l.A (In.inn l.d).length l.c (fl (In.inn l.d)) :: .bag e sz (rowsOf (R.take k) ++ rowsOf (R.drop (k + 1))) :: H) G w) : WOk base w0 (.bag e sz (rowsOf (R.set k l)) :: H) G w := by
  rw [rows_set R k l hk]
  exact WOk.push (r := l.row) hw
theorem WOk.bagAdd {R : List (Lc α)} (l : Lc α) {n : Nat} {us : List Value} (hn : n = (In.inn l.d).length) (hu : us = fl (In.inn l.d)) (hw : WOk base w0 (.row e sz l.A n l.c us :: .bag e sz (rowsOf R) :: H) G w) : WOk base w0 (.bag e sz (rowsOf (R ++ [l])) :: H) G w := by
  subst hn; subst hu
  rw [rows_snoc]
  exact hw.absorb
theorem bag_call {P : Program} {f : FuncId} {args : Array Value} {v : Ys → Value} {F : Ys → Prop} {R : List (Lc α)} (k : Nat) (l : Lc α) (hk : k < R.length)
    (hc : ∀ H, WOk base w0 (.row e sz (nth R k).A (In.inn (nth R k).d).length (nth R k).c (fl (In.inn (nth R k).d)) :: H) G w → Calls P f args w (fun e' w' => ∃ y : Ys, e' = .returned (v y) ∧ F y ∧ WOk base w0 (.row e sz l.A (In.inn l.d).length l.c (fl (In.inn l.d)) :: H) G w'))
    (hw : WOk base w0 (.bag e sz (rowsOf R) :: H) G w) : Calls P f args w (fun e' w' => ∃ y : Ys, e' = .returned (v y) ∧ F y ∧ WOk base w0 (.bag e sz (rowsOf (R.set k l)) :: H) G w') :=
  (hc _ (hw.bagPull k hk)).mono fun e' w' ⟨y, h1, h2, h3⟩ => ⟨y, h1, h2, WOk.bagPush k l hk h3⟩
end
theorem rds_bag {H : List HObj} {G : List World} {e sz : Nat} {R : List (Lc α)} (i k : Nat) (hi : H[i]? = some (.bag e sz (rowsOf R))) (hk : k < R.length) : Rds H G (nth R k).A (fl (In.inn (nth R k).d)) := fun base w0 w hw => by
  have h := (hw.own _ (List.mem_of_getElem? hi)).1 (nth R k).row (List.mem_map.2 ⟨_, nth_mem R k hk, rfl⟩)
  exact Rd.of_own h
theorem cap_bag {base : Nat} {w0 w : World} {H : List HObj} {G : List World} {e sz : Nat} {R : List (Lc α)} (hw : WOk base w0 H G w) (i k : Nat) (hi : H[i]? = some (.bag e sz (rowsOf R))) (hk : k < R.length) : (In.inn (nth R k).d).length ≤ (nth R k).c := by
  have h := (hw.own _ (List.mem_of_getElem? hi)).1 (nth R k).row (List.mem_map.2 ⟨_, nth_mem R k hk, rfl⟩)
  rcases h.2 with ⟨h1, h2⟩ | ⟨g, cap, cur, h1, h2, h3, h4, _⟩
  · have : (In.inn (nth R k).d).length = 0 := h2
    omega
  · have e1 := h1
    simp only [Lc.row] at e1 h4
    injection e1 with _ _ e2
    omega
/-- Readable in depth. -/
def RdN (w : World) (A : Option Addr) (R : List (Lc α)) : Prop := Rd w A (fl R) ∧ ∀ k, k < R.length → Rd w (nth R k).A (fl (In.inn (nth R k).d))
theorem RdN.keep {base : Nat} {w0 w m : World} {H : List HObj} {G : List World} {A : Option Addr} {R : List (Lc α)} (hw : WOk base w0 H G w) (h : RdN m A R) (hm : m ∈ G) : RdN w A R := ⟨hw.keep h.1 hm, fun k hk => hw.keep (h.2 k hk) hm⟩
theorem RdN.own {base : Nat} {w0 w : World} {H : List HObj} {G : List World} {A : Option Addr} {R : List (Lc α)} {e sz n c e' sz' : Nat} (hw : WOk base w0 H G w) (i j : Nat) (hi : H[i]? = some (.row e sz A n c (fl R))) (hj : H[j]? = some (.bag e' sz' (rowsOf R))) : RdN w A R := ⟨hw.row i hi, fun k hk => rds_bag j k hj hk _ _ _ hw⟩
theorem RdN.below {w w' : World} {A : Option Addr} {R : List (Lc α)} (hr : ∀ A us, Rd w A us → Rd w' A us) (h : RdN w A R) : RdN w' A R := ⟨hr _ _ h.1, fun k hk => hr _ _ (h.2 k hk)⟩
/-- Rows of such records by their type. -/
def NestAt (e : GT) (f : e.den → α) (big : α → Prop) : Prop := ∀ (w : World) x c, RdT w e x c → ∃ (A : Option Addr) (k : Nat), c = In.cells (f x) (.slice A (In.inn (f x)).length k) ∧ Rd w A (fl (In.inn (f x))) ∧ big (f x)
theorem nest_rows {e : GT} {f : e.den → α} {big : α → Prop} (hf : NestAt e f big) {w : World} : ∀ (xs : List e.den) (us : List Value), RdTs w e xs us → ∃ R : List (Lc α), us = fl R ∧ R.length = xs.length ∧ (∀ l ∈ R, Rd w l.A (fl (In.inn l.d))) ∧ ∀ l ∈ R, big l.d
  | [], us, h => by
    rw [RdTs.nil] at h; subst h; exact ⟨[], rfl, rfl, fun x h => (by cases h), fun x h => (by cases h)⟩
  | x :: xs, us, h => by
    obtain ⟨c1, c2, rfl, h1, h2⟩ := RdTs.cons.1 h
    obtain ⟨A, k, rfl, hr, hb⟩ := hf w x c1 h1
    obtain ⟨R, rfl, hl, hrs, hbs⟩ := nest_rows hf xs c2 h2
    refine ⟨⟨f x, A, k⟩ :: R, rfl, by simp [hl], fun y hy => ?_, fun y hy => ?_⟩
    · cases hy with
      | head => exact hr
      | tail _ hy => exact hrs y hy
    · cases hy with
      | head => exact hb
      | tail _ hy => exact hbs y hy
theorem nest_sl {E : TypeId} {e : GT} {f : e.den → α} {big : α → Prop} (hf : NestAt e f big) {w : World} {xs : GT.den (.sl E e)} {cs : List Value} (h : RdT w (.sl E e) xs cs) : ∃ (A : Option Addr) (c : Nat) (R : List (Lc α)), cs = [.slice A R.length c] ∧ R.length ≤ maxLen ∧ RdN w A R ∧ (∀ x ∈ dats R, big x) := by
  obtain ⟨A, c, us, rfl, h1, h2, h3, h4⟩ := RdT.sl.1 h
  obtain ⟨R, rfl, hl, hrs, hb⟩ := nest_rows hf _ _ h4
  refine ⟨A, c, R, congrArg (fun n => [Value.slice A n c]) hl.symm, ?_, ⟨h3, fun k hk => hrs _ (nth_mem R k hk)⟩, fun x hx => ?_⟩
  · have : R.length = List.length xs := hl
    omega
  · obtain ⟨l, hl, rfl⟩ := List.mem_map.1 hx
    exact hb l hl
end
/-- Lists as records. -/
@[reducible] instance {β : Type} [Dat β] : In (List β) β := ⟨1, fun _ v => [v], fun _ _ => rfl, id, [], fun _ _ _ _ u hu => by
  cases hu with
  | head => rfl
  | tail _ h => cases h⟩
theorem flat_nest {E : TypeId} {e : GT} {β : Type} [Dat β] {f : e.den → β} {big : β → Prop} (hf : FlatAt e f big) : NestAt (α := List β) (.sl E e) (fun xs => List.map f (show List e.den from xs)) (fun l => l.length ≤ maxLen ∧ ∀ x ∈ l, big x) := fun w xs cs h => by
  obtain ⟨A, c, us, rfl, h1, h2, h3, h4⟩ := RdT.sl.1 h
  obtain ⟨rfl, hb⟩ := flat_rows hf _ _ h4
  have hl : (List.map f (show List e.den from xs)).length = List.length xs := List.length_map ..
  exact ⟨A, c, congrArg (fun n => [Value.slice A n c]) hl.symm, h3, Nat.le_trans (Nat.le_of_eq hl) (Nat.le_trans h1 h2), hb⟩
/-- Marks one behind the other. -/
def offR {α : Type} (cnt : α → Nat) (x : List α) (i : Nat) : Nat := ((x.take i).map cnt).sum
theorem offR_zero {α : Type} (cnt : α → Nat) (x : List α) : offR cnt x 0 = 0 := rfl
theorem offR_le {α : Type} (cnt : α → Nat) (x : List α) (m : Nat) (hm : ∀ u ∈ x, cnt u ≤ m) : ∀ i, offR cnt x i ≤ x.length * m := by
  intro i
  unfold offR
  induction x generalizing i with
  | nil => simp
  | cons a x ih =>
    cases i with
    | zero => simp
    | succ i =>
      have h1 := ih (fun u hu => hm u (List.mem_cons_of_mem _ hu)) i
      have h2 := hm a List.mem_cons_self
      simp only [List.take_succ_cons, List.map_cons, List.sum_cons, List.length_cons, Nat.add_mul, Nat.one_mul]
      omega
/-- The first k are marked. -/
def mixR {α : Type} (mk : Nat → α → α) (k : Nat) (R : List α) : List α := R.mapIdx fun i l => if i < k then mk i l else l
theorem mixR_len {α : Type} (mk : Nat → α → α) (k : Nat) (R : List α) : (mixR mk k R).length = R.length := by simp [mixR]
theorem mixR_zero {α : Type} (mk : Nat → α → α) (R : List α) : mixR mk 0 R = R := by
  apply List.ext_getElem?
  intro i
  simp only [mixR, List.getElem?_mapIdx]
  cases R[i]? <;> simp
theorem mixR_nth {α : Type} [Dat α] (mk : Nat → α → α) (k : Nat) (R : List α) (i : Nat) (h : i < R.length) : nth (mixR mk k R) i = if i < k then mk i (nth R i) else nth R i := by
  simp [nth, mixR, h]
theorem mixR_step {α : Type} [Dat α] (mk : Nat → α → α) (k : Nat) (R : List α) (h : k < R.length) : (mixR mk k R).set k (mk k (nth R k)) = mixR mk (k + 1) R := by
  apply List.ext_getElem?
  intro i
  have e : nth R k = R[k] := by simp [nth, h]
  rw [e]
  simp only [mixR, List.getElem?_set, List.getElem?_mapIdx, List.length_mapIdx]
  by_cases hi : k = i
  · subst hi
    simp [h]
  · rw [if_neg hi]
    cases R[i]? with
    | none => rfl
    | some l =>
      simp only [Option.map_some, Option.some.injEq]
      by_cases h2 : i < k
      · rw [if_pos h2, if_pos (by omega)]
      · rw [if_neg h2, if_neg (by omega)]
end Go.Proofs.Ytojgphgfhapacaa
