/- The engine: a walk over a state that is told by lists: what the temporaries hold, which blocks are the call's own, which worlds still read as they did. -/
import Derived.Test.YtecabfcgjkhigaaMem
namespace Go.Proofs.Ytecabfcgjkhigaa
open Go.RowKit
set_option linter.unusedVariables false
set_option linter.unusedSimpArgs false

structure Ya where
  A : Option Addr
  c : Nat
  w : World
  n : Int
abbrev Ys := Nat → Ya
abbrev Env := List (Nat × Value)
def look : Env → Nat → Option Value
  | [], _ => none
  | (s, v) :: E, t => match Nat.beq s t with
    | true => some v
    | false => look E t
abbrev Env.put (E : Env) (d : Option Tmp) (v : Value) : Env := match d with
  | some t => (t, v) :: E
  | none => E
def dOk (N : Nat) : Option Tmp → Bool
  | some t => Nat.blt t N
  | none => true
structure EnvOk (N : Nat) (E : Env) (a : Act) : Prop where
  defers : a.defers = []
  size : a.tmps.size = N
  at_ : ∀ t v, look E t = some v → a.tmps[t]? = some v
def opd (E : Env) : Operand → Option Value
  | .tmp t => look E t
  | .const v => some v
  | .global g => some (.pointer (some ⟨g, 0, none⟩))
  | .func f => some (.func (.func f) #[] #[])
section
variable {N : Nat} {E : Env} {a : Act}
theorem EnvOk.eval (h : EnvOk N E a) {x : Operand} {v : Value} (hx : opd E x = some v) : a.eval x = v := by
  cases x with
  | tmp t => simp only [opd] at hx; have := h.at_ t v hx; simp [Act.eval, Array.getD_eq_getD_getElem?, this]
  | const u => simp only [opd] at hx; cases hx; rfl
  | global g => simp only [opd] at hx; cases hx; rfl
  | func f => simp only [opd] at hx; cases hx; rfl
theorem EnvOk.put (h : EnvOk N E a) {d : Option Tmp} (hd : dOk N d = true) (v : Value) : EnvOk N (Env.put E d v) (a.put d v) := by
  cases d with
  | none => exact h
  | some t =>
    have ht : t < a.tmps.size := by rw [h.size]; simpa [dOk, Nat.blt_eq] using hd
    refine ⟨h.defers, by simp [Act.put, h.size], fun s u hs => ?_⟩
    simp only [Env.put, look] at hs
    show (a.tmps.setIfInBounds t v)[s]? = some u
    split at hs
    · rename_i hb
      have : t = s := Nat.eq_of_beq_eq_true hb
      subst this
      cases hs
      simp [ht]
    · rename_i hb
      have : t ≠ s := fun e => by subst e; simp [Nat.beq_refl] at hb
      rw [Array.getElem?_setIfInBounds_ne this]
      exact h.at_ _ _ hs
theorem EnvOk.put' (h : EnvOk N E a) {d : Option Tmp} {t : Nat} (hdt : d = some t) (hd : Nat.blt t N = true) (v : Value) : EnvOk N ((t, v) :: E) (a.put d v) := by
  subst hdt; exact h.put (d := some t) hd v
theorem EnvOk.put0 (h : EnvOk N E a) {d : Option Tmp} (hdt : d = none) (v : Value) : EnvOk N E (a.put d v) := by
  subst hdt; exact h
theorem EnvOk.forget (h : EnvOk N E a) {d : Option Tmp} (v : Value) (hd : ∀ t, d = some t → look E t = none) : EnvOk N E (a.put d v) := by
  cases d with
  | none => exact h
  | some t =>
    refine ⟨h.defers, by simp [Act.put, h.size], fun s u hs => ?_⟩
    show (a.tmps.setIfInBounds t v)[s]? = some u
    have : t ≠ s := fun e => by subst e; rw [hd t rfl] at hs; cases hs
    rw [Array.getElem?_setIfInBounds_ne this]
    exact h.at_ _ _ hs
end

inductive HObj
  | box (g : Nat) (e : TypeId) (cs : List Value)
  | row (e sz : Nat) (A : Option Addr) (n c : Nat) (us : List Value)
def HObj.blk : HObj → Option Nat
  | .box g _ _ => some g
  | .row _ _ A _ _ _ => Go.Proofs.Ytecabfcgjkhigaa.blk A
def HObj.holds (base : Nat) (w : World) : HObj → Prop
  | .box g e cs => base ≤ g ∧ w.heap[g]? = some (.cells cs.toArray e (0, 0))
  | .row e sz A n c us => Own w base e sz A n c us
def HObj.apart (x y : HObj) : Prop := ∀ k, x.blk = some k → y.blk ≠ some k
theorem HObj.apart.symm {x y : HObj} (h : x.apart y) : y.apart x := fun k hy hx => h k hx hy
theorem HObj.lt {base : Nat} {w : World} {x : HObj} (h : x.holds base w) : ∀ k, x.blk = some k → base ≤ k ∧ k < w.heap.size := by
  cases x with
  | box g e cs => intro k hk; cases hk; exact ⟨h.1, (Array.getElem?_eq_some_iff.1 h.2).1⟩
  | row e sz A n c us => exact Own.lt h
theorem HObj.holds.grown {base : Nat} {w w' : World} {x : HObj} {r : Option Nat} (h : x.holds base w) (hg : w.grownBy w' r) (hr : ∀ k, x.blk = some k → r ≠ some k) : x.holds base w' := by
  cases x with
  | box g e cs => exact ⟨h.1, by rw [hg.block g (Array.getElem?_eq_some_iff.1 h.2).1 (fun e => hr g rfl e.symm)]; exact h.2⟩
  | row e sz A n c us =>
    refine Own.kept h hg ?_
    cases hA : Go.Proofs.Ytecabfcgjkhigaa.blk A with
    | none => exact .inl rfl
    | some k => exact .inr (fun e => hr k hA e.symm)
theorem HObj.holds.base {base base' : Nat} {w : World} {x : HObj} (h : x.holds base w) (hb : base' ≤ base) : x.holds base' w := by
  cases x with
  | box g e cs => exact ⟨Nat.le_trans hb h.1, h.2⟩
  | row e sz A n c us =>
    refine ⟨h.1, ?_⟩
    rcases h.2 with h | ⟨g, cap, cur, hv, hbg, r⟩
    · exact .inl h
    · exact .inr ⟨g, cap, cur, hv, Nat.le_trans hb hbg, r⟩

/-- The world reads as the lists say: own blocks from base on, each by itself; every world of G reads on as it did, and apart from the own blocks. -/
structure WOk (base : Nat) (w0 : World) (H : List HObj) (G : List World) (w : World) : Prop where
  below : Below base w0 w
  le : base ≤ w.heap.size
  own : ∀ h ∈ H, h.holds base w
  apart : H.Pairwise HObj.apart
  ref : ∀ m ∈ G, ∀ p u, m.cell? p = some u → w.cell? p = some u ∧ ∀ h ∈ H, h.blk ≠ some p.block
structure NewOk (L : Nat) (H : List HObj) (G : List World) (w : World) : Prop where
  own : ∀ h ∈ H, h.holds L w
  apart : H.Pairwise HObj.apart
  ref : ∀ m ∈ G, ∀ p u, m.cell? p = some u → L ≤ p.block ∧ w.cell? p = some u ∧ ∀ h ∈ H, h.blk ≠ some p.block
theorem NewOk.nil (L : Nat) (w : World) : NewOk L [] [] w := ⟨(fun x h => (by cases h)), List.Pairwise.nil, (fun m h => (by cases h))⟩
theorem Below.gb {w w' : World} (h : Below w.heap.size w w') (r : Option Nat) : w.grownBy w' r := ⟨h.os, h.tape, h.output, h.size, fun i hi _ => h.block i hi⟩
section
variable {base : Nat} {w0 w w' : World} {H : List HObj} {G : List World}
theorem WOk.grow (h : WOk base w0 H G w) (hb : Below w.heap.size w w') {Hn : List HObj} {Gn : List World} (hn : NewOk w.heap.size Hn Gn w') : WOk base w0 (Hn ++ H) (Gn ++ G) w' := by
  refine ⟨h.below.trans (hb.mono h.le), Nat.le_trans h.le hb.size, ?_, ?_, ?_⟩
  · intro x hx
    rcases List.mem_append.1 hx with hx | hx
    · exact (hn.own x hx).base h.le
    · exact (h.own x hx).grown (Below.gb hb none) (fun _ _ => by simp)
  · refine List.pairwise_append.2 ⟨hn.apart, h.apart, fun x hx y hy k hk hy' => ?_⟩
    have h1 := (HObj.lt (hn.own x hx) k hk).1
    have h2 := (HObj.lt (h.own y hy) k hy').2
    omega
  · intro m hm p u hp
    rcases List.mem_append.1 hm with hm | hm
    · obtain ⟨h1, h2, h3⟩ := hn.ref m hm p u hp
      refine ⟨h2, fun x hx => ?_⟩
      rcases List.mem_append.1 hx with hx | hx
      · exact h3 x hx
      · intro e; have := (HObj.lt (h.own x hx) _ e).2; omega
    · obtain ⟨h1, h2⟩ := h.ref m hm p u hp
      have hlt := World.block_lt_of_cell? w p h1
      refine ⟨(hb.cell (p := p) hlt).trans h1, fun x hx => ?_⟩
      rcases List.mem_append.1 hx with hx | hx
      · intro e; have := (HObj.lt (hn.own x hx) _ e).1; omega
      · exact h2 x hx
theorem WOk.drew (h : WOk base w0 H G w) : WOk base w0 H G w.drew :=
  ⟨h.below.drew, h.le, fun x hx => by
    have := h.own x hx
    cases x <;> exact this, h.apart, h.ref⟩
/-- One own object is turned, the others stay. -/
theorem WOk.turn (h : WOk base w0 H G w) {i : Nat} {x x' : HObj} (hi : H[i]? = some x) (hg : w.grownBy w' x.blk) (hx' : x'.holds base w')
    (hb : ∀ k, x'.blk = some k → x.blk = some k ∨ w.heap.size ≤ k) : WOk base w0 (H.set i x') G w' := by
  have hix : i < H.length := (List.getElem?_eq_some_iff.1 hi).1
  have hxi : H[i] = x := (List.getElem?_eq_some_iff.1 hi).2
  have hxm : x ∈ H := List.mem_of_getElem? hi
  have hxlt := HObj.lt (h.own x hxm)
  have key : ∀ j (hj : j < H.length), j ≠ i → (H[j]).apart x ∧ x.apart (H[j]) := fun j hj hne => by
    have hp := List.pairwise_iff_getElem.1 h.apart
    rcases Nat.lt_or_gt_of_ne hne with hlt | hgt
    · have := hp j i hj hix hlt; rw [hxi] at this; exact ⟨this, this.symm⟩
    · have := hp i j hix hj hgt; rw [hxi] at this; exact ⟨this.symm, this⟩
  have old : ∀ j (hj : j < H.length), j ≠ i → (H[j]).apart x' := fun j hj hne k hk hk' => by
    rcases hb k hk' with h1 | h1
    · exact (key j hj hne).1 k hk h1
    · have := (HObj.lt (h.own _ (List.getElem_mem hj)) k hk).2; omega
  refine ⟨h.below.grown hg h.le (fun k hk => (hxlt k hk).1), Nat.le_trans h.le hg.size, ?_, ?_, ?_⟩
  · intro y hy
    obtain ⟨j, hj, rfl⟩ := List.getElem_of_mem hy
    rw [List.getElem_set]
    split
    · exact hx'
    · rename_i hne
      rw [List.length_set] at hj
      exact (h.own _ (List.getElem_mem hj)).grown hg (fun k hk e => (key j hj (Ne.symm hne)).1 k hk e)
  · refine List.pairwise_iff_getElem.2 fun j k hj hk hjk => ?_
    rw [List.length_set] at hj hk
    rw [List.getElem_set, List.getElem_set]
    by_cases e1 : i = j
    · subst e1
      rw [if_pos rfl, if_neg (by omega)]
      exact (old k hk (by omega)).symm
    · rw [if_neg e1]
      by_cases e2 : i = k
      · subst e2; rw [if_pos rfl]; exact old j hj (by omega)
      · rw [if_neg e2]; exact List.pairwise_iff_getElem.1 h.apart j k hj hk hjk
  · intro m hm p u hp
    obtain ⟨h1, h2⟩ := h.ref m hm p u hp
    refine ⟨hg.cell h1 (fun e => h2 x hxm e.symm), fun y hy e => ?_⟩
    obtain ⟨j, hj, rfl⟩ := List.getElem_of_mem hy
    rw [List.length_set] at hj
    rw [List.getElem_set] at e
    split at e
    · rcases hb _ e with h3 | h3
      · exact h2 x hxm h3
      · have := World.block_lt_of_cell? w p h1; omega
    · exact h2 _ (List.getElem_mem hj) e
theorem WOk.front (h : WOk base w0 H G w) (i : Nat) {x : HObj} (hi : H[i]? = some x) : WOk base w0 (x :: H.eraseIdx i) G w := by
  have hmem : ∀ y ∈ H.eraseIdx i, y ∈ H := fun y hy => List.mem_of_mem_eraseIdx hy
  have hx : x ∈ H := List.mem_of_getElem? hi
  have hall : ∀ y ∈ x :: H.eraseIdx i, y ∈ H := fun y hy => by
    rcases List.mem_cons.1 hy with rfl | hy
    · exact hx
    · exact hmem y hy
  refine ⟨h.below, h.le, fun y hy => h.own y (hall y hy), List.pairwise_cons.2 ⟨fun y hy => ?_, h.apart.sublist (List.eraseIdx_sublist H i)⟩, fun m hm p u hp => ⟨(h.ref m hm p u hp).1, fun y hy => (h.ref m hm p u hp).2 y (hall y hy)⟩⟩
  obtain ⟨hil, hix⟩ := List.getElem?_eq_some_iff.1 hi
  obtain ⟨j, hj, rfl⟩ := List.getElem_of_mem hy
  rw [List.getElem_eraseIdx]
  rw [List.length_eraseIdx_of_lt hil] at hj
  have hp := List.pairwise_iff_getElem.1 h.apart
  split
  · rename_i hlt
    have := hp j i (by omega) hil hlt
    rw [hix] at this; exact this.symm
  · rename_i hge
    have := hp i (j + 1) hil (by omega) (by omega)
    rw [hix] at this; exact this
/-- Some of the own objects, some of the worlds. -/
theorem WOk.sel (h : WOk base w0 H G w) (is : List Nat) (hn : is.Nodup) {H' : List HObj} (hs : H' = is.filterMap (fun i => H[i]?)) {G' : List World} (hG : ∀ m ∈ G', m ∈ G) : WOk base w0 H' G' w := by
  subst hs
  have hmem : ∀ x ∈ is.filterMap (fun i => H[i]?), x ∈ H := fun x hx => by
    obtain ⟨i, _, hi⟩ := List.mem_filterMap.1 hx
    exact List.mem_of_getElem? hi
  refine ⟨h.below, h.le, fun x hx => h.own x (hmem x hx), ?_, fun m hm p u hp => ⟨(h.ref m (hG m hm) p u hp).1, fun x hx => (h.ref m (hG m hm) p u hp).2 x (hmem x hx)⟩⟩
  refine List.Pairwise.filterMap _ ?_ (List.nodup_iff_pairwise_ne.1 hn)
  intro i j hij x hx y hy
  obtain ⟨hi, rfl⟩ := List.getElem?_eq_some_iff.1 hx
  obtain ⟨hj, rfl⟩ := List.getElem?_eq_some_iff.1 hy
  rcases Nat.lt_or_gt_of_ne hij with hlt | hgt
  · exact List.pairwise_iff_getElem.1 h.apart i j hi hj hlt
  · exact (List.pairwise_iff_getElem.1 h.apart j i hj hi hgt).symm
end
def Ok (N base : Nat) (w0 : World) (E : Env) (H : List HObj) (G : List World) (K : Act → World → Prop) : Prop := ∀ a w, EnvOk N E a → WOk base w0 H G w → K a w
end Go.Proofs.Ytecabfcgjkhigaa
