/- Words for memory: a slice that reads as a list of cells; a row of the call's own; append and make as steps of the walk. -/
import Derived.Test.YtojgphgfhapacaaKit
namespace Go.Proofs.Ytojgphgfhapacaa
open Go.RowKit
set_option linter.unusedVariables false
set_option linter.unusedSimpArgs false

theorem blk_add (a : Addr) (n : Nat) : (a.add n).block = a.block := by unfold Addr.add; split <;> rfl
theorem add_add' (a : Addr) (i j : Nat) : (a.add i).add j = a.add (i + j) := by
  unfold Addr.add
  by_cases hi : i = 0 <;> by_cases hj : j = 0 <;> simp [hi, hj, Nat.add_assoc]

/-- The slice that begins at A reads as the cells us. -/
def Rd (w : World) (A : Option Addr) (us : List Value) : Prop := ∀ j u, us[j]? = some u → ∃ ad, A = some ad ∧ w.cell? (ad.add j) = some u

section
variable {w w' : World} {A : Option Addr} {us : List Value}
theorem Rd.nil (w : World) (A : Option Addr) : Rd w A [] := fun j u h => by simp at h
theorem Rd.at_ (h : Rd w A us) {j : Nat} (hj : j < us.length) : ∃ ad, A = some ad ∧ w.cell? (ad.add j) = some us[j] := h j _ (List.getElem?_eq_getElem hj)
theorem Rd.below {B : Nat} (h : Rd w A us) (hb : Below B w w') (hB : us ≠ [] → ∀ ad, A = some ad → ad.block < B) : Rd w' A us := fun j u hu => by
  obtain ⟨ad, e, hc⟩ := h j u hu
  refine ⟨ad, e, (hb.cell (p := ad.add j) ?_).trans hc⟩
  rw [blk_add]
  exact hB (by rintro rfl; simp at hu) ad e
theorem Rd.lt (h : Rd w A us) (hne : us ≠ []) : ∀ ad, A = some ad → ad.block < w.heap.size := fun ad e => by
  have hl : 0 < us.length := List.length_pos_iff.2 hne
  obtain ⟨ad', e', hc⟩ := h.at_ hl
  rw [e'] at e
  cases e
  have := World.block_lt_of_cell? w _ hc
  rwa [blk_add] at this
theorem Rd.ext (h : Rd w A us) (hb : Below w.heap.size w w') : Rd w' A us := h.below hb h.lt
theorem Rd.drew (h : Rd w A us) : Rd w.drew A us := h
theorem Rd.drewN (h : Rd w A us) (n : Nat) : Rd (w.drewN n) A us := h
theorem Rd.alloc (h : Rd w A us) (o : Obj) : Rd (w.alloc o) A us := h.ext ((Below.refl _ _).alloc (Nat.le_refl _) o)
theorem Rd.grown {row : Option Nat} (h : Rd w A us) (hg : w.grownBy w' row) (hr : us ≠ [] → A.map (·.block) ≠ row) : Rd w' A us := fun j u hu => by
  obtain ⟨ad, e, hc⟩ := h j u hu
  refine ⟨ad, e, hg.cell hc ?_⟩
  rw [blk_add]
  have := hr (by rintro rfl; simp at hu)
  rwa [e] at this
theorem Rd.of_own {base e size n c : Nat} (h : w.ownsRow base e size (.slice A n c) n us) : Rd w A us := fun j u hu => by
  rcases h.2 with ⟨hv, hn⟩ | ⟨g, cap, cur, hv, _⟩
  · have := h.1; subst hn; have h0 : us = [] := List.eq_nil_of_length_eq_zero (by simpa using this)
    subst h0; simp at hu
  · have hA : A = some ⟨g, 0, none⟩ := by injection hv
    subst hA
    exact ⟨_, rfl, h.cells (g := g) rfl j u hu⟩
theorem Rd.take (h : Rd w A us) (k : Nat) : Rd w A (us.take k) := fun j u hu => h j u (by
  rw [List.getElem?_take] at hu; split at hu
  · exact hu
  · cases hu)
theorem Rd.drop {ad : Addr} (h : Rd w (some ad) us) (k : Nat) : Rd w (some (ad.add k)) (us.drop k) := fun j u hu => by
  obtain ⟨ad', e, hc⟩ := h (k + j) u (by rwa [List.getElem?_drop] at hu)
  cases e
  exact ⟨_, rfl, by rw [add_add']; exact hc⟩
end

theorem Rd.new (w : World) (l : List Value) (e : TypeId) : Rd (w.alloc (.cells l.toArray e)) (some ⟨w.heap.size, 0, none⟩) l := fun j u hu => by
  refine ⟨_, rfl, ?_⟩
  have : (⟨w.heap.size, 0, none⟩ : Addr).add j = ⟨w.heap.size, j, none⟩ := by unfold Addr.add; split <;> simp_all
  rw [this, cell_of_row _ _ j l.toArray e (0, 0) (heap_alloc_new w _)]
  simpa using hu
theorem below_drewN {B : Nat} {a w : World} (h : Below B a w) (n : Nat) : Below B a (w.drewN n) := ⟨h.os, h.tape, h.output, h.size, h.block⟩
/-- What is asked of a slice type t of elements e of so many cells and bytes. -/
def SlT (t e size bytes : Nat) : Prop := Try.prog.underlying t = some (.slice e) ∧ 0 < size ∧ ∃ i z, Try.prog.info? e = some i ∧ i.zero = some z ∧ i.size = size ∧ i.bytes = bytes ∧ z.cells.size = size
theorem SlT.mk' {t e size bytes : Nat} {z : Value} (h1 : Try.prog.underlying t = some (.slice e)) (h2 : (Try.prog.info? e).map (fun i => (i.zero, i.size, i.bytes)) = some (some z, size, bytes)) (h3 : z.cells.size = size) (h4 : 0 < size) : SlT t e size bytes := by
  obtain ⟨i, hi, a, b, c⟩ := info_parts h2
  exact ⟨h1, h4, i, z, hi, a, b, c, h3⟩
abbrev Own (w : World) (base e size : Nat) (A : Option Addr) (n c : Nat) (us : List Value) : Prop := w.ownsRow base e size (.slice A n c) n us
def blk (A : Option Addr) : Option Nat := A.map (·.block)
theorem ownBlock_slice (A : Option Addr) (n c : Nat) : (Value.slice A n c).ownBlock = blk A := by cases A <;> rfl
theorem Own.nil (w : World) (base e size : Nat) : Own w base e size none 0 0 [] := ⟨by simp, .inl ⟨rfl, rfl⟩⟩
theorem Own.lt {w : World} {base e size n c : Nat} {A : Option Addr} {us : List Value} (h : Own w base e size A n c us) : ∀ k, blk A = some k → base ≤ k ∧ k < w.heap.size := by
  have := World.ownsRow.lt h; rwa [ownBlock_slice] at this
theorem Own.kept {w w' : World} {base e size n c : Nat} {A : Option Addr} {us : List Value} {row : Option Nat} (h : Own w base e size A n c us) (hg : w.grownBy w' row) (hne : blk A = none ∨ blk A ≠ row) : Own w' base e size A n c us :=
  World.ownsRow.kept h hg (by rwa [ownBlock_slice])
theorem Own.len {w : World} {base e size n c : Nat} {A : Option Addr} {us : List Value} (h : Own w base e size A n c us) : us.length = n * size := h.1
theorem Own.ext {w w' : World} {base e size n c : Nat} {A : Option Addr} {us : List Value} (h : Own w base e size A n c us) (hb : Below w.heap.size w w') : Own w' base e size A n c us :=
  Own.kept (row := none) h ⟨hb.os, hb.tape, hb.output, hb.size, fun i hi _ => hb.block i hi⟩ (by cases A <;> simp [blk])
theorem Own.drew {w : World} {base e size n c : Nat} {A : Option Addr} {us : List Value} (h : Own w base e size A n c us) : Own w.drew base e size A n c us := h
theorem Own.drewN {w : World} {base e size n c : Nat} {A : Option Addr} {us : List Value} (h : Own w base e size A n c us) (k : Nat) : Own (w.drewN k) base e size A n c us := h
theorem Own.alloc {w : World} {base e size n c : Nat} {A : Option Addr} {us : List Value} (h : Own w base e size A n c us) (o : Obj) : Own (w.alloc o) base e size A n c us := h.ext ((Below.refl _ _).alloc (Nat.le_refl _) o)
theorem Below.grown' {B : Nat} {a w w' : World} {A : Option Addr} (h : Below B a w) (hg : w.grownBy w' (blk A)) (hB : B ≤ w.heap.size) (hr : ∀ k, blk A = some k → B ≤ k) : Below B a w' := h.grown hg hB hr

theorem run_app_nil {t ty e size bytes : Nat} (hT : SlT t e size bytes) {w : World} {base n c : Nat} {A : Option Addr} {us : List Value} (hown : Own w base e size A n c us) (c' : Nat) :
    (Builtin.append_ #[t, t] ty #[.slice A n c, .slice none 0 c']).run Try.prog w = .ok (.slice A n c) w := by
  obtain ⟨ht, _, i, z, hi, hz, _, _, _⟩ := hT
  rcases hown.2 with ⟨hv, rfl⟩ | ⟨g, cap, cur, hv, _, _, hnc, _⟩
  · cases hv
    simp [Builtin.append_, run_underlying ht, sizeOf, typeInfo, hi, Builtin.lenOf, Builtin.firstCells]
  · cases hv
    simp [Builtin.append_, run_underlying ht, sizeOf, typeInfo, hi, Builtin.lenOf, Builtin.firstCells, hnc, storeCells]

theorem run_app {t ty e size bytes : Nat} (hT : SlT t e size bytes) {w : World} {base n c : Nat} {A : Option Addr} {us : List Value} (hown : Own w base e size A n c us)
    {A2 : Option Addr} {m c2 : Nat} {news : List Value} (hl : news.length = m * size) (hr : Rd w A2 news) (h1 : ∀ u ∈ news, u.oneCell' = true)
    (hbytes : (n + m) * bytes ≤ 140737488355328) (h63 : n + m ≤ 140737488355328) (hbase : base ≤ w.heap.size) :
    ∃ A' c' w', (Builtin.append_ #[t, t] ty #[.slice A n c, .slice A2 m c2]).run Try.prog w = .ok (.slice A' (n + m) c') w' ∧ Own w' base e size A' (n + m) c' (us ++ news) ∧ w.grownBy w' (blk A) ∧ (blk A' = blk A ∨ blk A' = some w.heap.size) := by
  rcases A2 with _ | ad
  · have hn : news = [] := by
      rcases news with _ | ⟨u, l⟩
      · rfl
      · obtain ⟨ad, e, _⟩ := hr 0 u rfl; cases e
    have hm : m = 0 := by
      subst hn; have := hT.2.1
      rcases Nat.eq_zero_or_pos m with h | h
      · exact h
      · have := Nat.mul_pos h this; simp at hl; omega
    subst hn; subst hm
    exact ⟨A, c, w, run_app_nil hT hown c2, by simpa using hown, World.grownBy.refl w _, .inl rfl⟩
  · have hcells : ∀ j u, news[j]? = some u → w.cell? (ad.add j) = some u := fun j u hu => by
      obtain ⟨ad', e, hc⟩ := hr j u hu; cases e; exact hc
    obtain ⟨ht, hsz, i, z, hi, hz, hs, hby, hzs⟩ := hT
    obtain ⟨v', w', hrun, h2, h3, _, h5⟩ := run_append_own_at (P := Try.prog) w base t ty e i z size bytes ht hi hz hs hby hzs hsz (.slice A n c) n us hown ad m c2 news hl hcells h1 (by simp only [maxLen]; omega) hbytes hbase
    obtain ⟨A', c', rfl⟩ : ∃ A' c', v' = .slice A' (n + m) c' := by
      rcases h2.2 with ⟨hv, hn⟩ | ⟨g, cap, cur, hv, _⟩
      · exact ⟨none, 0, by rw [hv, hn]⟩
      · exact ⟨_, _, hv⟩
    rw [ownBlock_slice] at h3 h5
    rw [ownBlock_slice] at h5
    exact ⟨A', c', w', hrun, h2, h3, h5⟩

/-- append as a step of a plain region. -/
theorem wpList_app {ops : Array Oper} {rest : List Oper} {o : Oper} {a : Act} {w : World} {Q : Exit → Act → World → Prop} {t e size bytes : Nat} (hT : SlT t e size bytes) (hgd : o.guard = none) (s x : Operand)
    (ho : o.op = .call { callee := .builtin .append, args := #[s, x], argTypes := #[t, t] })
    {base n c : Nat} {A : Option Addr} {us : List Value} (hs : a.eval s = .slice A n c) (hown : Own w base e size A n c us)
    {A2 : Option Addr} {m c2 : Nat} {news : List Value} (hx : a.eval x = .slice A2 m c2) (hl : news.length = m * size)
    (h : ∀ A' c' w', Own w' base e size A' (n + m) c' (us ++ news) → w.grownBy w' (blk A) → (blk A' = blk A ∨ blk A' = some w.heap.size) → wpList Try.prog ops Q rest (a.put o.dst (.slice A' (n + m) c')) w')
    (hr : Rd w A2 news) (h1 : ∀ u ∈ news, u.oneCell' = true)
    (hbytes : (n + m) * bytes ≤ 140737488355328) (h63 : n + m ≤ 140737488355328) (hbase : base ≤ w.heap.size) :
    wpList Try.prog ops Q (o :: rest) a w :=
  wpList_plain hgd fun K hK => by
    obtain ⟨A', c', w', hrun, h2, h3, h4⟩ := run_app (ty := o.type) hT hown hl hr h1 hbytes h63 hbase (c2 := c2)
    unfold Oper.wp execOp
    simp only [ho, resolve, invoke, builtin, Sem.run_bind, Sem.run_pure, Result.andThen_ok, List.map_toArray, List.map_cons, List.map_nil, hs, hx, hrun]
    exact hK _ _ (h A' c' w' h2 h3 h4)

/-- A string made of a slice of bytes. -/
def byteVs (l : List UInt8) : List Value := l.map fun b => .int .u8 (b.toNat : Int)
theorem run_str {w : World} {A : Option Addr} {l : List UInt8} (h : Rd w A (byteVs l)) (n : Nat) (hn : n = l.length) (c : Nat) :
    (convert 22 9 (.slice A n c)).run Try.prog w = .ok (.string ⟨l.toArray⟩) w := by
  subst hn
  rcases A with _ | ad
  · have hl : l = [] := by
      rcases l with _ | ⟨u, l⟩
      · rfl
      · obtain ⟨ad, e, _⟩ := h 0 (.int .u8 u.toNat) (by simp [byteVs]); cases e
    subst hl
    rw [run_convert_bytes_nil w _ _ Try.underlying22 Try.underlying5 _ _ _ Try.underlying9]
    rfl
  · exact run_convert_bytes_back w _ _ _ ad c l Try.underlying22 Try.underlying5 Try.underlying9 (fun j hj => by
      obtain ⟨ad', e, hc⟩ := h j (.int .u8 (l[j].toNat : Int)) (by simp [byteVs, List.getElem?_eq_getElem hj])
      cases e; exact hc)
theorem byteVs_one (l : List UInt8) : ∀ u ∈ byteVs l, u.oneCell' = true := by
  intro u hu
  obtain ⟨b, _, rfl⟩ := List.mem_map.1 hu
  rfl
theorem byteVs_app (a b : List UInt8) : byteVs a ++ byteVs b = byteVs (a ++ b) := by simp [byteVs]
theorem byteVs_len (a : List UInt8) : (byteVs a).length = a.length := by simp [byteVs]
theorem T_bytes : SlT 22 5 1 1 := SlT.mk' (z := .int .u8 0) Try.underlying22 (by kernel_rfl) rfl (by omega)
end Go.Proofs.Ytojgphgfhapacaa
