/- The engine: a walk over a state that is told by lists: what the temporaries hold, which blocks are the call's own, which worlds still read as they did. -/
import Derived.Test.YtojgphgfhapacaaMem
namespace Go.Proofs.Ytojgphgfhapacaa
open Go.RowKit
set_option linter.unusedVariables false
set_option linter.unusedSimpArgs false

structure Ya where
  A : Option Addr
  c : Nat
  w : World
  n : Int
abbrev Ys := Nat → Ya
abbrev Env := List (Nat × Value)
def look : Env → Nat → Option Value
  | [], _ => none
  | (s, v) :: E, t => match Nat.beq s t with
    | true => some v
    | false => look E t
abbrev Env.put (E : Env) (d : Option Tmp) (v : Value) : Env := match d with
  | some t => (t, v) :: E
  | none => E
def dOk (N : Nat) : Option Tmp → Bool
  | some t => Nat.blt t N
  | none => true
structure EnvOk (N : Nat) (E : Env) (a : Act) : Prop where
  defers : a.defers = []
  size : a.tmps.size = N
  at_ : ∀ t v, look E t = some v → a.tmps[t]? = some v
def opd (E : Env) : Operand → Option Value
  | .tmp t => look E t
  | .const v => some v
  | .global g => some (.pointer (some ⟨g, 0, none⟩))
  | .func f => some (.func (.func f) #[] #[])
section
variable {N : Nat} {E : Env} {a : Act}
theorem EnvOk.eval (h : EnvOk N E a) {x : Operand} {v : Value} (hx : opd E x = some v) : a.eval x = v := by
  cases x with
  | tmp t => simp only [opd] at hx; have := h.at_ t v hx; simp [Act.eval, Array.getD_eq_getD_getElem?, this]
  | const u => simp only [opd] at hx; cases hx; rfl
  | global g => simp only [opd] at hx; cases hx; rfl
  | func f => simp only [opd] at hx; cases hx; rfl
theorem EnvOk.put (h : EnvOk N E a) {d : Option Tmp} (hd : dOk N d = true) (v : Value) : EnvOk N (Env.put E d v) (a.put d v) := by
  cases d with
  | none => exact h
  | some t =>
    have ht : t < a.tmps.size := by rw [h.size]; simpa [dOk, Nat.blt_eq] using hd
    refine ⟨h.defers, by simp [Act.put, h.size], fun s u hs => ?_⟩
    simp only [Env.put, look] at hs
    show (a.tmps.setIfInBounds t v)[s]? = some u
    split at hs
    · rename_i hb
      have : t = s := Nat.eq_of_beq_eq_true hb
      subst this
      cases hs
      simp [ht]
    · rename_i hb
      have : t ≠ s := fun e => by subst e; simp [Nat.beq_refl] at hb
      rw [Array.getElem?_setIfInBounds_ne this]
      exact h.at_ _ _ hs
theorem EnvOk.put' (h : EnvOk N E a) {d : Option Tmp} {t : Nat} (hdt : d = some t) (hd : Nat.blt t N = true) (v : Value) : EnvOk N ((t, v) :: E) (a.put d v) := by
  subst hdt; exact h.put (d := some t) hd v
theorem EnvOk.put0 (h : EnvOk N E a) {d : Option Tmp} (hdt : d = none) (v : Value) : EnvOk N E (a.put d v) := by
  subst hdt; exact h
theorem EnvOk.forget (h : EnvOk N E a) {d : Option Tmp} (v : Value) (hd : ∀ t, d = some t → look E t = none) : EnvOk N E (a.put d v) := by
  cases d with
  | none => exact h
  | some t =>
    refine ⟨h.defers, by simp [Act.put, h.size], fun s u hs => ?_⟩
    show (a.tmps.setIfInBounds t v)[s]? = some u
    have : t ≠ s := fun e => by subst e; rw [hd t rfl] at hs; cases hs
    rw [Array.getElem?_setIfInBounds_ne this]
    exact h.at_ _ _ hs
end

structure RowD where
  A : Option Addr
  n : Nat
  c : Nat
  us : List Value
inductive HObj
  | box (g : Nat) (e : TypeId) (cs : List Value)
  | row (e sz : Nat) (A : Option Addr) (n c : Nat) (us : List Value)
  | bag (e sz : Nat) (l : List RowD)
  | zrow (g : Nat) (e : TypeId) (cs : List Value) (fz : Nat × Nat)
def HObj.has : HObj → Nat → Prop
  | .box g _ _, k => g = k
  | .row _ _ A _ _ _, k => Go.Proofs.Ytojgphgfhapacaa.blk A = some k
  | .bag _ _ l, k => ∃ r ∈ l, Go.Proofs.Ytojgphgfhapacaa.blk r.A = some k
  | .zrow g _ _ _, k => g = k
def RowD.apart (a b : RowD) : Prop := ∀ k, Go.Proofs.Ytojgphgfhapacaa.blk a.A = some k → Go.Proofs.Ytojgphgfhapacaa.blk b.A ≠ some k
def HObj.holds (base : Nat) (w : World) : HObj → Prop
  | .box g e cs => base ≤ g ∧ w.heap[g]? = some (.cells cs.toArray e (0, 0))
  | .row e sz A n c us => Own w base e sz A n c us
  | .bag e sz l => (∀ r ∈ l, Own w base e sz r.A r.n r.c r.us) ∧ l.Pairwise RowD.apart
  | .zrow g e cs fz => base ≤ g ∧ w.heap[g]? = some (.cells cs.toArray e fz)
def HObj.apart (x y : HObj) : Prop := ∀ k, x.has k → ¬ y.has k
theorem HObj.apart.symm {x y : HObj} (h : x.apart y) : y.apart x := fun k hy hx => h k hx hy
theorem HObj.lt {base : Nat} {w : World} {x : HObj} (h : x.holds base w) : ∀ k, x.has k → base ≤ k ∧ k < w.heap.size := by
  cases x with
  | box g e cs => intro k hk; cases hk; exact ⟨h.1, (Array.getElem?_eq_some_iff.1 h.2).1⟩
  | row e sz A n c us => exact Own.lt h
  | bag e sz l => rintro k ⟨r, hr, hk⟩; exact Own.lt (h.1 r hr) k hk
  | zrow g e cs fz => intro k hk; cases hk; exact ⟨h.1, (Array.getElem?_eq_some_iff.1 h.2).1⟩
theorem HObj.holds.grown {base : Nat} {w w' : World} {x : HObj} {r : Option Nat} (h : x.holds base w) (hg : w.grownBy w' r) (hr : ∀ k, x.has k → r ≠ some k) : x.holds base w' := by
  cases x with
  | box g e cs => exact ⟨h.1, by rw [hg.block g (Array.getElem?_eq_some_iff.1 h.2).1 (fun e => hr g rfl e.symm)]; exact h.2⟩
  | row e sz A n c us =>
    refine Own.kept h hg ?_
    cases hA : Go.Proofs.Ytojgphgfhapacaa.blk A with
    | none => exact .inl rfl
    | some k => exact .inr (fun e => hr k hA e.symm)
  | bag e sz l =>
    refine ⟨fun q hq => Own.kept (h.1 q hq) hg ?_, h.2⟩
    cases hA : Go.Proofs.Ytojgphgfhapacaa.blk q.A with
    | none => exact .inl rfl
    | some k => exact .inr (fun e => hr k ⟨q, hq, hA⟩ e.symm)
  | zrow g e cs fz => exact ⟨h.1, by rw [hg.block g (Array.getElem?_eq_some_iff.1 h.2).1 (fun e => hr g rfl e.symm)]; exact h.2⟩
theorem Own.base {base base' e sz n c : Nat} {A : Option Addr} {us : List Value} {w : World} (h : Own w base e sz A n c us) (hb : base' ≤ base) : Own w base' e sz A n c us := by
  refine ⟨h.1, ?_⟩
  rcases h.2 with h | ⟨g, cap, cur, hv, hbg, r⟩
  · exact .inl h
  · exact .inr ⟨g, cap, cur, hv, Nat.le_trans hb hbg, r⟩
theorem HObj.holds.base {base base' : Nat} {w : World} {x : HObj} (h : x.holds base w) (hb : base' ≤ base) : x.holds base' w := by
  cases x with
  | box g e cs => exact ⟨Nat.le_trans hb h.1, h.2⟩
  | row e sz A n c us => exact Own.base h hb
  | bag e sz l => exact ⟨fun r hr => Own.base (h.1 r hr) hb, h.2⟩
  | zrow g e cs fz => exact ⟨Nat.le_trans hb h.1, h.2⟩

/-- The world reads as the lists say: own blocks from base on, each by itself; every world of G reads on as it did, and apart from the own blocks. -/
structure WOk (base : Nat) (w0 : World) (H : List HObj) (G : List World) (w : World) : Prop where
  below : Below base w0 w
  le : base ≤ w.heap.size
  own : ∀ h ∈ H, h.holds base w
  apart : H.Pairwise HObj.apart
  ref : ∀ m ∈ G, ∀ p u, m.cell? p = some u → w.cell? p = some u ∧ ∀ h ∈ H, ¬ h.has p.block
structure NewOk (L : Nat) (H : List HObj) (G : List World) (w : World) : Prop where
  own : ∀ h ∈ H, h.holds L w
  apart : H.Pairwise HObj.apart
  ref : ∀ m ∈ G, ∀ p u, m.cell? p = some u → L ≤ p.block ∧ w.cell? p = some u ∧ ∀ h ∈ H, ¬ h.has p.block
theorem NewOk.nil (L : Nat) (w : World) : NewOk L [] [] w := ⟨(fun x h => (by cases h)), List.Pairwise.nil, (fun m h => (by cases h))⟩
theorem Below.gb {w w' : World} (h : Below w.heap.size w w') (r : Option Nat) : w.grownBy w' r := ⟨h.os, h.tape, h.output, h.size, fun i hi _ => h.block i hi⟩
section
variable {base : Nat} {w0 w w' : World} {H : List HObj} {G : List World}
theorem WOk.grow (h : WOk base w0 H G w) (hb : Below w.heap.size w w') {Hn : List HObj} {Gn : List World} (hn : NewOk w.heap.size Hn Gn w') : WOk base w0 (Hn ++ H) (Gn ++ G) w' := by
  refine ⟨h.below.trans (hb.mono h.le), Nat.le_trans h.le hb.size, ?_, ?_, ?_⟩
  · intro x hx
    rcases List.mem_append.1 hx with hx | hx
    · exact (hn.own x hx).base h.le
    · exact (h.own x hx).grown (Below.gb hb none) (fun _ _ => by simp)
  · refine List.pairwise_append.2 ⟨hn.apart, h.apart, fun x hx y hy k hk hy' => ?_⟩
    have h1 := (HObj.lt (hn.own x hx) k hk).1
    have h2 := (HObj.lt (h.own y hy) k hy').2
    omega
  · intro m hm p u hp
    rcases List.mem_append.1 hm with hm | hm
    · obtain ⟨h1, h2, h3⟩ := hn.ref m hm p u hp
      refine ⟨h2, fun x hx => ?_⟩
      rcases List.mem_append.1 hx with hx | hx
      · exact h3 x hx
      · intro e; have := (HObj.lt (h.own x hx) _ e).2; omega
    · obtain ⟨h1, h2⟩ := h.ref m hm p u hp
      have hlt := World.block_lt_of_cell? w p h1
      refine ⟨(hb.cell (p := p) hlt).trans h1, fun x hx => ?_⟩
      rcases List.mem_append.1 hx with hx | hx
      · intro e; have := (HObj.lt (hn.own x hx) _ e).1; omega
      · exact h2 x hx
theorem WOk.drew (h : WOk base w0 H G w) : WOk base w0 H G w.drew :=
  ⟨h.below.drew, h.le, fun x hx => by
    have := h.own x hx
    cases x <;> exact this, h.apart, h.ref⟩
/-- One own object is turned, the others stay. -/
theorem WOk.turn (h : WOk base w0 H G w) {i : Nat} {x x' : HObj} (hi : H[i]? = some x) {r : Option Nat} (hg : w.grownBy w' r) (hrr : ∀ k, r = some k → x.has k) (hx' : x'.holds base w')
    (hb : ∀ k, x'.has k → x.has k ∨ w.heap.size ≤ k) : WOk base w0 (H.set i x') G w' := by
  have hix : i < H.length := (List.getElem?_eq_some_iff.1 hi).1
  have hxi : H[i] = x := (List.getElem?_eq_some_iff.1 hi).2
  have hxm : x ∈ H := List.mem_of_getElem? hi
  have hxlt := HObj.lt (h.own x hxm)
  have key : ∀ j (hj : j < H.length), j ≠ i → (H[j]).apart x ∧ x.apart (H[j]) := fun j hj hne => by
    have hp := List.pairwise_iff_getElem.1 h.apart
    rcases Nat.lt_or_gt_of_ne hne with hlt | hgt
    · have := hp j i hj hix hlt; rw [hxi] at this; exact ⟨this, this.symm⟩
    · have := hp i j hix hj hgt; rw [hxi] at this; exact ⟨this.symm, this⟩
  have old : ∀ j (hj : j < H.length), j ≠ i → (H[j]).apart x' := fun j hj hne k hk hk' => by
    rcases hb k hk' with h1 | h1
    · exact (key j hj hne).1 k hk h1
    · have := (HObj.lt (h.own _ (List.getElem_mem hj)) k hk).2; omega
  refine ⟨h.below.grown hg h.le (fun k hk => (hxlt k (hrr k hk)).1), Nat.le_trans h.le hg.size, ?_, ?_, ?_⟩
  · intro y hy
    obtain ⟨j, hj, rfl⟩ := List.getElem_of_mem hy
    rw [List.getElem_set]
    split
    · exact hx'
    · rename_i hne
      rw [List.length_set] at hj
      exact (h.own _ (List.getElem_mem hj)).grown hg (fun k hk e => (key j hj (Ne.symm hne)).1 k hk (hrr k e))
  · refine List.pairwise_iff_getElem.2 fun j k hj hk hjk => ?_
    rw [List.length_set] at hj hk
    rw [List.getElem_set, List.getElem_set]
    by_cases e1 : i = j
    · subst e1
      rw [if_pos rfl, if_neg (by omega)]
      exact (old k hk (by omega)).symm
    · rw [if_neg e1]
      by_cases e2 : i = k
      · subst e2; rw [if_pos rfl]; exact old j hj (by omega)
      · rw [if_neg e2]; exact List.pairwise_iff_getElem.1 h.apart j k hj hk hjk
  · intro m hm p u hp
    obtain ⟨h1, h2⟩ := h.ref m hm p u hp
    refine ⟨hg.cell h1 (fun e => h2 x hxm (hrr _ e.symm)), fun y hy e => ?_⟩
    obtain ⟨j, hj, rfl⟩ := List.getElem_of_mem hy
    rw [List.length_set] at hj
    rw [List.getElem_set] at e
    split at e
    · rcases hb _ e with h3 | h3
      · exact h2 x hxm h3
      · have := World.block_lt_of_cell? w p h1; omega
    · exact h2 _ (List.getElem_mem hj) e
theorem WOk.front (h : WOk base w0 H G w) (i : Nat) {x : HObj} (hi : H[i]? = some x) : WOk base w0 (x :: H.eraseIdx i) G w := by
  have hmem : ∀ y ∈ H.eraseIdx i, y ∈ H := fun y hy => List.mem_of_mem_eraseIdx hy
  have hx : x ∈ H := List.mem_of_getElem? hi
  have hall : ∀ y ∈ x :: H.eraseIdx i, y ∈ H := fun y hy => by
    rcases List.mem_cons.1 hy with rfl | hy
    · exact hx
    · exact hmem y hy
  refine ⟨h.below, h.le, fun y hy => h.own y (hall y hy), List.pairwise_cons.2 ⟨fun y hy => ?_, h.apart.sublist (List.eraseIdx_sublist H i)⟩, fun m hm p u hp => ⟨(h.ref m hm p u hp).1, fun y hy => (h.ref m hm p u hp).2 y (hall y hy)⟩⟩
  obtain ⟨hil, hix⟩ := List.getElem?_eq_some_iff.1 hi
  obtain ⟨j, hj, rfl⟩ := List.getElem_of_mem hy
  rw [List.getElem_eraseIdx]
  rw [List.length_eraseIdx_of_lt hil] at hj
  have hp := List.pairwise_iff_getElem.1 h.apart
  split
  · rename_i hlt
    have := hp j i (by omega) hil hlt
    rw [hix] at this; exact this.symm
  · rename_i hge
    have := hp i (j + 1) hil (by omega) (by omega)
    rw [hix] at this; exact this
/-- Some of the own objects, some of the worlds. -/
theorem WOk.sel (h : WOk base w0 H G w) (is : List Nat) (hn : is.Nodup) {H' : List HObj} (hs : H' = is.filterMap (fun i => H[i]?)) {G' : List World} (hG : ∀ m ∈ G', m ∈ G) : WOk base w0 H' G' w := by
  subst hs
  have hmem : ∀ x ∈ is.filterMap (fun i => H[i]?), x ∈ H := fun x hx => by
    obtain ⟨i, _, hi⟩ := List.mem_filterMap.1 hx
    exact List.mem_of_getElem? hi
  refine ⟨h.below, h.le, fun x hx => h.own x (hmem x hx), ?_, fun m hm p u hp => ⟨(h.ref m (hG m hm) p u hp).1, fun x hx => (h.ref m (hG m hm) p u hp).2 x (hmem x hx)⟩⟩
  refine List.Pairwise.filterMap _ ?_ (List.nodup_iff_pairwise_ne.1 hn)
  intro i j hij x hx y hy
  obtain ⟨hi, rfl⟩ := List.getElem?_eq_some_iff.1 hx
  obtain ⟨hj, rfl⟩ := List.getElem?_eq_some_iff.1 hy
  rcases Nat.lt_or_gt_of_ne hij with hlt | hgt
  · exact List.pairwise_iff_getElem.1 h.apart i j hi hj hlt
  · exact (List.pairwise_iff_getElem.1 h.apart j i hj hi hgt).symm
end
theorem WOk.perm {base : Nat} {w0 w : World} {H H' : List HObj} {G : List World} (h : WOk base w0 H G w) (hp : H.Perm H') : WOk base w0 H' G w :=
  ⟨h.below, h.le, fun x hx => h.own x (hp.mem_iff.2 hx), (hp.pairwise_iff (fun h => HObj.apart.symm h)).1 h.apart, fun m hm p u hu => ⟨(h.ref m hm p u hu).1, fun x hx => (h.ref m hm p u hu).2 x (hp.mem_iff.2 hx)⟩⟩
def RowD.obj (e sz : Nat) (r : RowD) : HObj := .row e sz r.A r.n r.c r.us
/-- A bag is its rows. -/
theorem WOk.bag_iff {base : Nat} {w0 w : World} {H : List HObj} {G : List World} {e sz : Nat} {l : List RowD} : WOk base w0 (.bag e sz l :: H) G w ↔ WOk base w0 (l.map (RowD.obj e sz) ++ H) G w := by
  constructor
  · intro h
    refine ⟨h.below, h.le, fun x hx => ?_, ?_, fun m hm p u hu => ⟨(h.ref m hm p u hu).1, fun x hx hk => ?_⟩⟩
    · rcases List.mem_append.1 hx with hx | hx
      · obtain ⟨r, hr, rfl⟩ := List.mem_map.1 hx
        exact (h.own _ List.mem_cons_self).1 r hr
      · exact h.own x (List.mem_cons_of_mem _ hx)
    · refine List.pairwise_append.2 ⟨List.pairwise_map.2 ((h.own _ List.mem_cons_self).2), (List.pairwise_cons.1 h.apart).2, fun x hx y hy => ?_⟩
      obtain ⟨r, hr, rfl⟩ := List.mem_map.1 hx
      exact fun k hk hy' => (List.pairwise_cons.1 h.apart).1 y hy k ⟨r, hr, hk⟩ hy'
    · rcases List.mem_append.1 hx with hx | hx
      · obtain ⟨r, hr, rfl⟩ := List.mem_map.1 hx
        exact (h.ref m hm p u hu).2 _ List.mem_cons_self ⟨r, hr, hk⟩
      · exact (h.ref m hm p u hu).2 x (List.mem_cons_of_mem _ hx) hk
  · intro h
    have hp := List.pairwise_append.1 h.apart
    refine ⟨h.below, h.le, fun x hx => ?_, List.pairwise_cons.2 ⟨fun y hy => ?_, hp.2.1⟩, fun m hm p u hu => ⟨(h.ref m hm p u hu).1, fun x hx hk => ?_⟩⟩
    · rcases List.mem_cons.1 hx with rfl | hx
      · exact ⟨fun r hr => h.own (r.obj e sz) (List.mem_append_left _ (List.mem_map.2 ⟨r, hr, rfl⟩)), (List.pairwise_map (f := RowD.obj e sz) (R := HObj.apart)).1 hp.1⟩
      · exact h.own x (List.mem_append_right _ hx)
    · rintro k ⟨r, hr, hk⟩ hy'
      exact hp.2.2 _ (List.mem_map.2 ⟨r, hr, rfl⟩) y hy k hk hy'
    · rcases List.mem_cons.1 hx with rfl | hx
      · obtain ⟨r, hr, hk⟩ := hk
        exact (h.ref m hm p u hu).2 _ (List.mem_append_left _ (List.mem_map.2 ⟨r, hr, rfl⟩)) hk
      · exact (h.ref m hm p u hu).2 x (List.mem_append_right _ hx) hk
theorem WOk.bag_nil {base : Nat} {w0 w : World} {H : List HObj} {G : List World} (e sz : Nat) (h : WOk base w0 H G w) : WOk base w0 (.bag e sz [] :: H) G w := WOk.bag_iff.2 h
theorem WOk.absorb {base : Nat} {w0 w : World} {H : List HObj} {G : List World} {e sz n c : Nat} {A : Option Addr} {us : List Value} {l : List RowD} (h : WOk base w0 (.row e sz A n c us :: .bag e sz l :: H) G w) : WOk base w0 (.bag e sz (l ++ [⟨A, n, c, us⟩]) :: H) G w := by
  refine WOk.bag_iff.2 ?_
  have h1 : WOk base w0 (.bag e sz l :: .row e sz A n c us :: H) G w := h.perm (List.Perm.swap _ _ _)
  have h2 := WOk.bag_iff.1 h1
  simpa [RowD.obj] using h2
theorem WOk.pull {base : Nat} {w0 w : World} {H : List HObj} {G : List World} {e sz : Nat} {r : RowD} {l1 l2 : List RowD} (h : WOk base w0 (.bag e sz (l1 ++ r :: l2) :: H) G w) : WOk base w0 (.row e sz r.A r.n r.c r.us :: .bag e sz (l1 ++ l2) :: H) G w := by
  have h1 := WOk.bag_iff.1 h
  have h2 : WOk base w0 ((l1 ++ l2).map (RowD.obj e sz) ++ (.row e sz r.A r.n r.c r.us :: H)) G w := h1.perm (by
    simp only [List.map_append, List.map_cons, List.append_assoc, List.cons_append]
    refine List.Perm.append_left _ ?_
    exact (List.perm_middle (l₁ := l2.map (RowD.obj e sz))).symm)
  exact (WOk.bag_iff.2 h2).perm (List.Perm.swap _ _ _)
theorem WOk.push {base : Nat} {w0 w : World} {H : List HObj} {G : List World} {e sz : Nat} {r : RowD} {l1 l2 : List RowD} (h : WOk base w0 (.row e sz r.A r.n r.c r.us :: .bag e sz (l1 ++ l2) :: H) G w) : WOk base w0 (.bag e sz (l1 ++ r :: l2) :: H) G w := by
  have h1 : WOk base w0 (.bag e sz (l1 ++ l2) :: .row e sz r.A r.n r.c r.us :: H) G w := h.perm (List.Perm.swap _ _ _)
  refine WOk.bag_iff.2 ((WOk.bag_iff.1 h1).perm ?_)
  simp only [List.map_append, List.map_cons, List.append_assoc, List.cons_append]
  exact List.Perm.append_left _ (List.perm_middle (l₁ := l2.map (RowD.obj e sz)))
def Ok (N base : Nat) (w0 : World) (E : Env) (H : List HObj) (G : List World) (K : Act → World → Prop) : Prop := ∀ a w, EnvOk N E a → WOk base w0 H G w → K a w
end Go.Proofs.Ytojgphgfhapacaa
