/- make and store as steps of the walk, over a row of the call's own. -/
import Derived.Test.YtojgphgfhapacaaTy
namespace Go.Proofs.Ytojgphgfhapacaa
open Go.RowKit
set_option linter.unusedVariables false
set_option linter.unusedSimpArgs false
theorem add_zero_ (g i : Nat) : (⟨g, 0, none⟩ : Addr).add i = ⟨g, i, none⟩ := by unfold Addr.add; split <;> simp_all
theorem run_mk {t e size bytes : Nat} (hT : SlT t e size bytes) (n : Nat) (hn : n ≤ 1048576) (hb : bytes ≤ 1048576) :
    ∃ cs : Array Value, cs.size = n * size ∧ ∀ W : World, (Instr.makeSlice t (.int .i64 (n : Int)) (.int .i64 (n : Int))).run Try.prog W = .ok (.slice (some ⟨W.heap.size, 0, none⟩) n n) (W.alloc (.cells cs e)) := by
  obtain ⟨ht, _, i, z, hi, hz, hs, hby, hzs⟩ := hT
  refine ⟨madeCells z.cells (n * i.size), by rw [size_madeCells, hs], fun W => ?_⟩
  have hbn : (bytes : Int) * (n : Int) ≤ 281474976710656 := by
    have h : bytes * n ≤ 1048576 * 1048576 := Nat.mul_le_mul hb hn
    have h2 : ((bytes * n : Nat) : Int) ≤ 281474976710656 := by omega
    rwa [Int.natCast_mul] at h2
  have hr := run_make (P := Try.prog) W t e i z ht hi hz .i64 .i64 n n (by omega) (Int.le_refl _) (by rw [hby]; exact hbn) (by omega)
  simpa only [Int.toNat_natCast] using hr
theorem run_mk1 {t e bytes : Nat} {z : Value} (ht : Try.prog.underlying t = some (.slice e)) (hz : (Try.prog.info? e).map (fun i => (i.zero, i.size, i.bytes)) = some (some z, 1, bytes)) (hc : z.cells = #[z]) (n : Nat) (hn : n ≤ 1048576) (hb : bytes ≤ 1048576) :
    ∀ W : World, (Instr.makeSlice t (.int .i64 (n : Int)) (.int .i64 (n : Int))).run Try.prog W = .ok (.slice (some ⟨W.heap.size, 0, none⟩) n n) (W.alloc (.cells (List.replicate n z).toArray e)) := by
  obtain ⟨i, hi, hz, hs, hby⟩ := info_parts hz
  intro W
  have hbn : (bytes : Int) * (n : Int) ≤ 281474976710656 := by
    have h : bytes * n ≤ 1048576 * 1048576 := Nat.mul_le_mul hb hn
    have h2 : ((bytes * n : Nat) : Int) ≤ 281474976710656 := by omega
    rwa [Int.natCast_mul] at h2
  have hr := run_make (P := Try.prog) W t e i z ht hi hz .i64 .i64 n n (by omega) (Int.le_refl _) (by rw [hby]; exact hbn) (by omega)
  simp only [Int.toNat_natCast, hs, Nat.mul_one, hc] at hr
  rw [hr]
  have := toList_madeCells_one z n
  rw [← this]
theorem run_store_own {T k : Nat} (hs : (Try.prog.info? T).map (·.size) = some k) {w : World} {base e g n c : Nat} {us : List Value} (hown : Own w base e k (some ⟨g, 0, none⟩) n c us) {i : Nat} (hi : i < n)
    {v : Value} (hv : v.cells.size = k) (h1 : ∀ u ∈ v.cells.toList, u.oneCell' = true) :
    ∃ w', (storeVar T ⟨g, i * k, none⟩ v).run Try.prog w = .ok () w' ∧ Own w' base e k (some ⟨g, 0, none⟩) n c (us.take (i * k) ++ v.cells.toList ++ us.drop (i * k + k)) ∧ w.grownBy w' (some g) := by
  rcases hown.2 with ⟨h', _⟩ | ⟨g', cap', cur, h', hb, hg, hnc, hcm, hcs, htake⟩
  · simp at h'
  simp only [Value.slice.injEq, Option.some.injEq, Addr.mk.injEq, and_true, true_and] at h'
  obtain ⟨rfl, rfl⟩ := h'
  have hik : i * k + k ≤ n * k := by rw [← Nat.succ_mul]; exact Nat.mul_le_mul_right k hi
  have hnk : n * k ≤ c * k := Nat.mul_le_mul_right k hnc
  have hst := run_storeCells_at Try.prog g (i * k) e v.cells.toList 0 cur w hg (by simp; omega) h1
  simp only [Nat.add_zero] at hst
  obtain ⟨inf, hinf, hsz⟩ := Option.map_eq_some_iff.1 hs
  let nc : Array Value := (cur.toList.take (i * k) ++ v.cells.toList ++ cur.toList.drop (i * k + v.cells.toList.length)).toArray
  refine ⟨w.setRow g nc, ?_, ⟨?_, .inr ⟨g, c, nc, rfl, hb, ?_, hnc, hcm, ?_, ?_⟩⟩, ?_⟩
  · simp [storeVar, sizeOf, typeInfo, hinf, hsz, hv, hst, nc]
  · have := hown.1
    simp [List.length_take, List.length_drop]
    omega
  · simp only [World.setRow, Array.getElem?_modify, hg, if_true]; rfl
  · simp [nc, hv]; omega
  · show (nc.toList).take (n * k) = _
    simp only [nc]
    have hl : cur.toList.length = c * k := by simpa using hcs
    rw [List.take_append, List.take_append]
    simp only [List.length_append, List.length_take, Array.length_toList, hv, hcs]
    rw [show min (i * k) (c * k) = i * k by omega]
    rw [List.take_take, show min (n * k) (i * k) = i * k by omega, List.take_of_length_le (l := v.cells.toList) (by simp; omega)]
    rw [← htake]
    simp only [List.take_take, show min (i * k) (n * k) = i * k by omega, List.drop_take]
  · refine ⟨rfl, rfl, rfl, by simp [World.setRow], fun j hj hne => ?_⟩
    simp only [World.setRow, Array.getElem?_modify]
    rw [if_neg (by rintro rfl; exact hne rfl)]
/-- A row of the call's own whose first k elements are done. -/
def Done (w : World) (base e size g n : Nat) (k : Nat) (dn : List Value) : Prop := ∃ us, Own w base e size (some ⟨g, 0, none⟩) n n us ∧ us.take (k * size) = dn
theorem Done.start {w : World} {base e size g n : Nat} {us : List Value} (h : Own w base e size (some ⟨g, 0, none⟩) n n us) : Done w base e size g n 0 [] := ⟨us, h, by simp⟩
theorem Done.end_ {w : World} {base e size g n : Nat} {dn : List Value} (h : Done w base e size g n n dn) : Own w base e size (some ⟨g, 0, none⟩) n n dn := by
  obtain ⟨us, h1, h2⟩ := h
  rw [List.take_of_length_le (by rw [h1.1]; exact Nat.le_refl _)] at h2
  rw [← h2]; exact h1
theorem Done.step {w' : World} {base e size g n k : Nat} {us cs dn : List Value} (h : Own w' base e size (some ⟨g, 0, none⟩) n n (us.take (k * size) ++ cs ++ us.drop (k * size + size))) (h2 : us.take (k * size) = dn) (hc : cs.length = size) (hl : us.length = n * size) (hk : k < n) :
    Done w' base e size g n (k + 1) (dn ++ cs) := by
  refine ⟨_, h, ?_⟩
  have : k * size + size ≤ n * size := by rw [← Nat.succ_mul]; exact Nat.mul_le_mul_right size hk
  have hd : (us.take (k * size)).length = k * size := by rw [List.length_take]; omega
  rw [Nat.add_mul, Nat.one_mul, List.take_append, List.take_of_length_le (by rw [List.length_append, hd, hc]; exact Nat.le_refl _), List.length_append, hd, hc, Nat.sub_self, List.take_zero, List.append_nil, h2]
theorem wpList_st {ops : Array Oper} {rest : List Oper} {o : Oper} {a : Act} {w : World} {Q : Exit → Act → World → Prop} {T k : Nat} (hs : (Try.prog.info? T).map (·.size) = some k) (hgd : o.guard = none) (p x : Operand)
    (ho : o.op = .store T p x) {base e g n c : Nat} {us : List Value} (hown : Own w base e k (some ⟨g, 0, none⟩) n c us) {i : Nat} (hi : i < n)
    {ad : Addr} (hp : a.eval p = .pointer (some ad)) (had : ad = ⟨g, i * k, none⟩)
    (h : ∀ w', Own w' base e k (some ⟨g, 0, none⟩) n c (us.take (i * k) ++ (a.eval x).cells.toList ++ us.drop (i * k + k)) → w.grownBy w' (some g) → wpList Try.prog ops Q rest (a.put o.dst undef) w')
    (hv : (a.eval x).cells.size = k) (h1 : ∀ u ∈ (a.eval x).cells.toList, u.oneCell' = true) :
    wpList Try.prog ops Q (o :: rest) a w :=
  wpList_plain hgd fun K hK => by
    obtain ⟨w', hrun, h2, h3⟩ := run_store_own hs hown hi hv h1
    subst had
    unfold Oper.wp execOp
    simp only [ho, Instr.storeAt, hp, Instr.sureAddr, Sem.run_bind, Sem.run_pure, Result.andThen_ok, hrun]
    exact hK _ _ (h w' h2 h3)
theorem Done.ext {w w' : World} {base e size g n k : Nat} {dn : List Value} (h : Done w base e size g n k dn) (hb : Below w.heap.size w w') : Done w' base e size g n k dn := by
  obtain ⟨us, h1, h2⟩ := h
  exact ⟨us, Own.ext h1 hb, h2⟩
theorem Done.lt {w : World} {base e size g n k : Nat} {dn : List Value} (h : Done w base e size g n k dn) : base ≤ g ∧ g < w.heap.size := by
  obtain ⟨us, h1, _⟩ := h
  exact Own.lt h1 g rfl
/-- One more element is stored. -/
theorem wpList_stD {ops : Array Oper} {rest : List Oper} {o : Oper} {a : Act} {w : World} {Q : Exit → Act → World → Prop} {T k : Nat} (hs : (Try.prog.info? T).map (·.size) = some k) (hgd : o.guard = none) (p x : Operand)
    (ho : o.op = .store T p x) {base e g n i : Nat} {dn : List Value} (hd : Done w base e k g n i dn) (hi : i < n)
    {ad : Addr} (hp : a.eval p = .pointer (some ad)) (had : ad = ⟨g, i * k, none⟩) (cs : List Value) (hcs : (a.eval x).cells.toList = cs) (hl : cs.length = k) (h1 : cs.all (·.oneCell') = true)
    (h : ∀ w', Done w' base e k g n (i + 1) (dn ++ cs) → w.grownBy w' (some g) → wpList Try.prog ops Q rest (a.put o.dst undef) w') :
    wpList Try.prog ops Q (o :: rest) a w := by
  obtain ⟨us, hown, hus⟩ := hd
  refine wpList_st hs hgd p x ho hown hi hp had (fun w' h2 h3 => h w' (Done.step ?_ hus hl hown.1 hi) h3) ?_ ?_
  · rw [hcs] at h2; exact h2
  · rw [← hl, ← hcs]; simp
  · rw [hcs]; exact List.all_eq_true.1 h1
theorem flat_snoc {α : Type} (f : α → List Value) (l : List α) (k : Nat) (h : k < l.length) : (l.take (k + 1)).flatMap f = (l.take k).flatMap f ++ f l[k] := by
  rw [List.take_succ_eq_append_getElem h, List.flatMap_append]; simp
theorem below_own {B : Nat} {w w' w1 : World} {g : Nat} (h : Below B w w1) (hg : w1.grownBy w' (some g)) (hB : B ≤ g) (hs : B ≤ w1.heap.size) : Below B w w' :=
  h.grown hg hs (fun q hq => by cases hq; exact hB)
def DoneC (w : World) (base e size g n c : Nat) (k : Nat) (dn : List Value) : Prop := ∃ us, Own w base e size (some ⟨g, 0, none⟩) n c us ∧ us.take (k * size) = dn
theorem DoneC.end_ {w : World} {base e size g n c : Nat} {dn : List Value} (h : DoneC w base e size g n c n dn) : Own w base e size (some ⟨g, 0, none⟩) n c dn := by
  obtain ⟨us, h1, h2⟩ := h
  rw [List.take_of_length_le (by rw [h1.1]; exact Nat.le_refl _)] at h2
  rw [← h2]; exact h1
theorem DoneC.start {w : World} {base e size g n c : Nat} {us : List Value} (h : Own w base e size (some ⟨g, 0, none⟩) n c us) : DoneC w base e size g n c 0 [] := ⟨us, h, by simp⟩
theorem wpList_stC {ops : Array Oper} {rest : List Oper} {o : Oper} {a : Act} {w : World} {Q : Exit → Act → World → Prop} {T k : Nat} (hs : (Try.prog.info? T).map (·.size) = some k) (hgd : o.guard = none) (p x : Operand)
    (ho : o.op = .store T p x) {base e g n c i : Nat} {dn : List Value} (hd : DoneC w base e k g n c i dn) (hi : i < n)
    {ad : Addr} (hp : a.eval p = .pointer (some ad)) (had : ad = ⟨g, i * k, none⟩) (cs : List Value) (hcs : (a.eval x).cells.toList = cs) (hl : cs.length = k) (h1 : cs.all (·.oneCell') = true)
    (h : ∀ w', DoneC w' base e k g n c (i + 1) (dn ++ cs) → w.grownBy w' (some g) → wpList Try.prog ops Q rest (a.put o.dst undef) w') :
    wpList Try.prog ops Q (o :: rest) a w := by
  obtain ⟨us, hown, hus⟩ := hd
  refine wpList_st hs hgd p x ho hown hi hp had (fun w' h2 h3 => h w' ⟨_, h2, ?_⟩ h3) ?_ ?_
  · have hik : i * k + k ≤ n * k := by rw [← Nat.succ_mul]; exact Nat.mul_le_mul_right k hi
    have hlu := hown.1
    have hd : (us.take (i * k)).length = i * k := by rw [List.length_take]; omega
    rw [hcs, Nat.add_mul, Nat.one_mul, List.take_append, List.take_of_length_le (by rw [List.length_append, hd, hl]; exact Nat.le_refl _), List.length_append, hd, hl, Nat.sub_self, List.take_zero, List.append_nil, hus]
  · rw [← hl, ← hcs]; simp
  · rw [hcs]; exact List.all_eq_true.1 h1
/-- A block that holds just these cells. -/
def Box (w : World) (g T : Nat) (cs : List Value) : Prop := w.heap[g]? = some (.cells cs.toArray T (0, 0))
theorem Box.cell {w : World} {g T : Nat} {cs : List Value} (h : Box w g T cs) (j : Nat) : w.cell? ⟨g, j, none⟩ = cs[j]? := by
  rw [cell_of_row w g j _ T (0, 0) h]; simp
theorem Box.frozen {w : World} {g T : Nat} {cs : List Value} (h : Box w g T cs) (j : Nat) : w.frozen? ⟨g, j, none⟩ = false := by
  unfold Box at h; simp [World.frozen?, h]
theorem Box.set_ {w : World} {g T : Nat} {cs : List Value} (h : Box w g T cs) (j : Nat) (u : Value) : Box (w.setCell ⟨g, j, none⟩ u) g T (cs.set j u) := by
  unfold Box at h ⊢; simp [World.setCell, Array.getElem?_modify, h]
theorem Box.lt {w : World} {g T : Nat} {cs : List Value} (h : Box w g T cs) : g < w.heap.size := by
  rcases Nat.lt_or_ge g w.heap.size with hlt | hge
  · exact hlt
  · unfold Box at h; rw [Array.getElem?_eq_none hge] at h; cases h
theorem Box.ext {w w' : World} {g T : Nat} {cs : List Value} (h : Box w g T cs) (hb : Below w.heap.size w w') : Box w' g T cs := (hb.block g h.lt).trans h
theorem Box.new (w : World) (T : Nat) (cs : List Value) : Box (w.alloc (.cells cs.toArray T)) w.heap.size T cs := heap_alloc_new w _
theorem size_al (w : World) (o : Obj) : (w.alloc o).heap.size = w.heap.size + 1 := by simp
theorem Box.new1 (w : World) (o : Obj) (T : Nat) (cs : List Value) : Box ((w.alloc o).alloc (.cells cs.toArray T)) (w.heap.size + 1) T cs := by
  rw [← size_al w o]; exact Box.new _ _ _
theorem Box.drewN {w : World} {g T : Nat} {cs : List Value} (h : Box w g T cs) (n : Nat) : Box (w.drewN n) g T cs := h
theorem Box.drew {w : World} {g T : Nat} {cs : List Value} (h : Box w g T cs) : Box w.drew g T cs := h
theorem Box.far {w : World} {g T : Nat} {cs : List Value} (h : Box w g T cs) {p : Addr} (hp : g ≠ p.block) (u : Value) : Box (w.setCell p u) g T cs := (Below.heap_setCell w p u g hp).trans h
theorem Box.alloc {w : World} {g T : Nat} {cs : List Value} (h : Box w g T cs) (o : Obj) : Box (w.alloc o) g T cs := (Below.heap_alloc w o g h.lt).trans h
theorem Box.cast {w : World} {g T : Nat} {cs ds : List Value} (h : Box w g T cs) (e : cs = ds) : Box w g T ds := e ▸ h
end Go.Proofs.Ytojgphgfhapacaa
