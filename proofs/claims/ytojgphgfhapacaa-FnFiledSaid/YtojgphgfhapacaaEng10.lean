/- The engine: functions with captured variables. -/
import Derived.Test.YtojgphgfhapacaaEng9
import Derived.Laws.CopyRow
import Derived.Laws.Append
namespace Go.Proofs.Ytojgphgfhapacaa
open Go.RowKit
set_option linter.unusedVariables false
set_option linter.unusedSimpArgs false
theorem fl_take {α : Type} [Dat α] : ∀ (l : List α) (i : Nat), (fl l).take (i * Dat.sz α) = fl (l.take i)
  | [], i => by simp [fl]
  | x :: l, 0 => by simp [fl]
  | x :: l, i + 1 => by
    have ih := fl_take l i
    rw [List.take_succ_cons, fl_cons, fl_cons, ← ih]
    have : (i + 1) * Dat.sz α = (Dat.cells x).length + i * Dat.sz α := by rw [Dat.len, Nat.add_mul]; omega
    rw [this, List.take_length_add_append]
section
variable {P : Program} {N base : Nat} {w0 : World} {E : Env} {H : List HObj} {G : List World} {Q : Exit → Act → World → Prop} {o : Oper} {ops : Array Oper} {rest : List Oper} {F : Ys → Prop} {v : Ys → Value} {H' : Ys → List HObj} {G' : Ys → List World}
theorem evs_of {N : Nat} {E : Env} {a : Act} (he : EnvOk N E a) {args : Array Operand} {vs : List Value} (ha : args.toList.mapM (opd E) = some vs) : args.map a.eval = vs.toArray := by
  apply Array.ext'
  rw [Array.toList_map]
  generalize args.toList = l at ha
  induction l generalizing vs with
  | nil => simp at ha; subst ha; rfl
  | cons q l ih =>
    simp only [List.mapM_cons, Option.bind_eq_bind] at ha
    cases hq : opd E q with
    | none => simp [hq] at ha
    | some u =>
      simp only [hq, Option.bind_some] at ha
      cases hr : l.mapM (opd E) with
      | none => simp [hr] at ha
      | some r =>
        simp only [hr, Option.bind_some] at ha
        cases ha
        simp [he.eval hq, ih hr]
theorem ps_mkf {f : FuncId} {cap : Array Operand} {vs : List Value} (ho : o.op = .makeFunc (.func f) #[] cap) (ha : cap.toList.mapM (opd E) = some vs) : PStep P E H G o (.func (.func f) #[] vs.toArray) := fun N base w0 a w he hw => by
  simp [execOp, ho, Instr.makeFunc, evs_of he ha]
/-- A call of a function with captured variables. -/
theorem ms_k {f : FuncId} {cl : Operand} {args : Array Operand} {tys : Array TypeId} {vs cs : List Value} {H1 : List HObj} (hsel : ∀ base w0 w, WOk base w0 H G w → WOk base w0 H1 G w) [hf : FN P f] (ho : o.op = .call { callee := .value cl, args := args, argTypes := tys }) (hcl : opd E cl = some (.func (.func f) #[] cs.toArray)) (ha : args.toList.mapM (opd E) = some vs)
    (hc : ∀ base w0 w, WOk base w0 H1 G w → Calls P f (vs ++ cs).toArray w (fun e w' => ∃ y, e = .returned (v y) ∧ F y ∧ WOk base w0 (H' y) (G' y) w')) :
    MStep P E H G o F v H' G' := fun N base w0 a w Q K he hw hK => by
  obtain ⟨fn, c, h1, h2, h3⟩ := hf.h
  have hev := evs_of he ha
  have hr : (execOp a.eval o).run P w = .ok (.enter f (vs ++ cs).toArray) w := by
    have hfe : a.eval cl = .func (.func f) #[] cs.toArray := he.eval hcl
    have hname : fn.name ≠ "runtime.NumGoroutine" := by simpa using h2
    simp [execOp, ho, resolve, hev, hfe, Deferred.ofValue, invoke, callFunc, h1, hname, h3]
  unfold Oper.wp; rw [hr]
  refine (hc base w0 w (hsel base w0 w hw)).mono fun e w' ⟨y, he', hF, hw'⟩ => ?_
  subst he'
  exact hK y w' hF hw'
/-- With one argument, one scalar result. -/
theorem ms_k1 {f : FuncId} {cl x0 : Operand} {u0 : Value} {tys : Array TypeId} {cs : List Value} {u : Value} [hf : FN P f] (ho : o.op = .call { callee := .value cl, args := #[x0], argTypes := tys }) (hcl : opd E cl = some (.func (.func f) #[] cs.toArray)) (h0 : opd E x0 = some u0)
    (hc : ∀ base w0 w, WOk base w0 H G w → Calls P f (u0 :: cs).toArray w (fun e w' => e = .returned u ∧ Below w.heap.size w w')) :
    MStep P E H G o (fun _ => True) (fun _ => u) (fun _ => H) (fun _ => G) :=
  ms_k (H1 := H) (fun _ _ _ h => h) ho hcl (vs := [u0]) (by simp [List.mapM_cons, h0]) (fun base w0 w hw => (hc base w0 w hw).mono fun e w' ⟨he, hb⟩ => ⟨mkY none 0 w, he, trivial, hw.grow (Hn := []) (Gn := []) hb (NewOk.nil _ _)⟩)
theorem ps_slice3 {x lo hi mx : Operand} {t e sz bytes : TypeId} {A : Option Addr} {n c : Nat} {l h m : Nat} {k k' k'' : IntKind} [ht : EL P t e sz bytes] (ho : o.op = .slice t x (some lo) (some hi) (some mx)) (hx : opd E x = some (.slice A n c))
    (hlo : opd E lo = some (.int k (l : Int))) (hhi : opd E hi = some (.int k' (h : Int))) (hm : opd E mx = some (.int k'' (m : Int))) (h1 : l ≤ h) (h2 : h ≤ m) (h3 : m ≤ c) :
    PStep P E H G o (.slice (if m = l then A else A.map (·.add (l * sz))) (h - l) (m - l)) := fun N base w0 a w he hw => by
  obtain ⟨hu, _, i, z, hi', hz, hs, _, _⟩ := ht.h
  have hb : ∀ (k : IntKind) (q m : Nat) (cd : BoundsCode), q ≤ m → (Instr.sliceBound (.int k (q : Int)) m cd).run P w = .ok q w := fun k q m cd hq => by
    have : (0 : Int) ≤ q ∧ (q : Int) ≤ m := by omega
    simp [Instr.sliceBound, asIntOf, this]
  simp [execOp, ho, he.eval hx, he.eval hlo, he.eval hhi, he.eval hm, Instr.sliceAt, Instr.slice, Instr.sliceBounds, run_underlying hu, sizeOf, typeInfo, hi', hs, hb k'' m c _ h3, hb k' h m _ h2, hb k l h _ h1]
/-- Cells of an own row are written over, and the row is seen with another length. -/
theorem own_over {w : World} {base e sz c g q m : Nat} {cur : Array Value} {vs : List Value} (hb : base ≤ g) (hg : w.heap[g]? = some (.cells cur e (0, 0))) (hc : c ≤ maxLen) (hcs : cur.size = c * sz) (hk : q * sz + vs.length ≤ cur.size) (hm : m ≤ c) :
    Own (w.setRow g (putC cur.toList (q * sz) vs).toArray) base e sz (some ⟨g, 0, none⟩) m c ((putC cur.toList (q * sz) vs).take (m * sz)) ∧ w.grownBy (w.setRow g (putC cur.toList (q * sz) vs).toArray) (some g) := by
  have hl : (putC cur.toList (q * sz) vs).length = c * sz := by rw [putC_len _ _ _ (by simpa using hk)]; simpa using hcs
  have hms : m * sz ≤ c * sz := Nat.mul_le_mul_right _ hm
  refine ⟨⟨by rw [List.length_take, hl]; omega, .inr ⟨g, c, _, rfl, hb, setRow_heap w g _ _ e _ hg, hm, hc, by simpa using hl, by simp⟩⟩, ?_⟩
  exact ⟨rfl, rfl, rfl, by simp, fun j _ hj => setRow_other w g j _ (fun e => hj (by simp [e]))⟩
theorem putC_take {cs vs : List Value} {k m : Nat} (h : k + vs.length = m) (hm : m ≤ cs.length) : (putC cs k vs).take m = cs.take k ++ vs := by
  unfold putC
  rw [List.take_append_of_le_length (by simp; omega), List.take_of_length_le (by simp; omega)]
theorem putC_take0 {cs vs : List Value} {k m : Nat} (h : m ≤ k) (hk : k ≤ cs.length) : (putC cs k vs).take m = cs.take m := by
  unfold putC
  rw [List.append_assoc, List.take_append_of_le_length (by simp; omega), List.take_take]
  congr 1; omega
/-- append to a beginning of an own row, with room behind: in place. -/
theorem run_appin {t ty e sz bytes : Nat} (hT : SlP P t e sz bytes) {w : World} {c i m c2 g : Nat} {A2 : Option Addr} {news : List Value} {cur : Array Value} (hg : w.heap[g]? = some (.cells cur e (0, 0))) (hcs : cur.size = c * sz) (him : i + m ≤ c)
    (hl : news.length = m * sz) (hr : Rd w A2 news) (h1 : ∀ u ∈ news, u.oneCell' = true) :
    (Builtin.append_ #[t, t] ty #[.slice (some ⟨g, 0, none⟩) i c, .slice A2 m c2]).run P w = .ok (.slice (some ⟨g, 0, none⟩) (i + m) c) (w.setRow g (putC cur.toList (i * sz) news).toArray) := by
  obtain ⟨hu, hz0, inf, z, hi, hz, hs, hby, hzs⟩ := hT
  have hfit : i * sz + news.length ≤ cur.size := by rw [hl, hcs, ← Nat.add_mul]; exact Nat.mul_le_mul_right _ him
  have hst := run_storeCells_at P g (i * sz) e news 0 cur w hg (by simpa using hfit) h1
  have hfc : (Builtin.firstCells sz m (.slice A2 m c2)).run P w = .ok news.toArray w := by
    rcases A2 with _ | ad
    · have hn : news = [] := by
        rcases news with _ | ⟨u, l⟩
        · rfl
        · obtain ⟨ad, e, _⟩ := hr 0 u rfl; cases e
      subst hn; exact run_firstCells_none w sz m m c2
    · exact run_firstCells_some w sz m ad m c2 news hl (fun j v hv => by obtain ⟨ad', e, h⟩ := hr j v hv; cases e; exact h)
  simp only [Nat.add_zero] at hst
  simp [Builtin.append_, run_underlying hu, Builtin.lenOf, sizeOf, typeInfo, hi, hs, hfc, him, ga_add, hst, putC]
theorem ms_appin {α : Type} [Dat α] [OneC α] {t e sz bytes n c c2 i m : Nat} {A A2 : Option Addr} {x y : Operand} {L M : List α} (r : Nat) [ht : EL P t e sz bytes] (ho : o.op = .call { callee := .builtin .append, args := #[x, y], argTypes := #[t, t] })
    (hx : opd E x = some (.slice A i c)) (hy : opd E y = some (.slice A2 m c2)) (hi : H[r]? = some (.row e sz A n c (fl L))) (hr : Rds H G A2 (fl M)) (hs : Dat.sz α = sz) (hm : M.length = m) (hin : i ≤ L.length) (h0 : 0 < L.length) (him : i + m ≤ L.length) :
    MStep P E H G o (fun _ => True) (fun _ => .slice A (i + m) c) (fun _ => H.set r (.row e sz A (i + m) c (fl (L.take i ++ M)))) (fun _ => G) := fun N base w0 a w Q K he hw hK => by
  have hsz : 0 < sz := ht.h.2.1
  have hown := hw.own _ (List.mem_of_getElem? hi)
  obtain ⟨hlen, ⟨hA, hn0⟩ | ⟨g, cap, cur, hA, hb, hh, hnc, hcm, hcs, htk⟩⟩ := hown
  · subst hn0; rw [fl_len, hs, Nat.zero_mul] at hlen
    have := Nat.mul_pos h0 hsz; omega
  injection hA with hA hA2 hA3
  subst hA; subst hA3
  have hLn : L.length = n := by rw [fl_len, hs] at hlen; exact Nat.eq_of_mul_eq_mul_right hsz hlen
  have hrun := run_appin (ty := o.type) (c2 := c2) ht.h hh hcs (show i + m ≤ c by omega) (by rw [fl_len, hs, hm]) (hr base w0 w hw) (fl_oneC M)
  have hr' : (execOp a.eval o).run P w = .ok (.value (.slice (some ⟨g, 0, none⟩) (i + m) c)) (w.setRow g (putC cur.toList (i * sz) (fl M)).toArray) := by
    unfold execOp
    simp only [ho, resolve, invoke, builtin, Sem.run_bind, Sem.run_pure, Result.andThen_ok, List.map_toArray, List.map_cons, List.map_nil, he.eval hx, he.eval hy, hrun]
  unfold Oper.wp; rw [hr']
  have hfit : i * sz + (fl M).length ≤ cur.size := by rw [fl_len, hs, hm, hcs, ← Nat.add_mul]; exact Nat.mul_le_mul_right _ (by omega)
  obtain ⟨o1, o2⟩ := own_over (m := i + m) hb hh hcm hcs hfit (by omega)
  have e1 : (putC cur.toList (i * sz) (fl M)).take ((i + m) * sz) = fl (L.take i ++ M) := by
    rw [putC_take (by rw [fl_len, hs, hm, Nat.add_mul]) (by rw [Array.length_toList, hcs]; exact Nat.mul_le_mul_right _ (by omega)), ← fl_app]
    congr 1
    have h5 : cur.toList.take (i * sz) = (fl L).take (i * sz) := by
      rw [← htk, List.take_take]; congr 1
      have : i * sz ≤ n * sz := Nat.mul_le_mul_right _ (by omega)
      omega
    rw [h5, ← hs, fl_take]
  rw [e1] at o1
  refine hK (mkY none 0 w) _ trivial (hw.turn (x := .row e sz (some ⟨g, 0, none⟩) n c (fl L)) hi (r := some g) o2 (fun k hk => by cases hk; rfl) o1 (fun k hk => .inl hk))
theorem run_clear {t ty e sz bytes : Nat} (hT : SlP P t e sz bytes) {z : List Value} [hz : ZV P e z] {w : World} {c q m c2 g : Nat} {cur : Array Value} (hg : w.heap[g]? = some (.cells cur e (0, 0))) (hcs : cur.size = c * sz) (hqm : q + m ≤ c) (h1 : ∀ u ∈ z, u.oneCell' = true) (hm : 0 < m) :
    ∃ vs : List Value, vs.length = m * sz ∧ (Builtin.clear_ #[t] ty #[.slice (some ⟨g, q * sz, none⟩) m c2]).run P w = .ok (.tuple #[]) (w.setRow g (putC cur.toList (q * sz) vs).toArray) := by
  obtain ⟨hu, hz0, inf, zz, hi, hzz, hs, hby, hzs⟩ := hT
  have hz1 : zz.cells = z.toArray := by
    have := hz.h
    unfold zvB at this
    simpa [hi, hzz] using this
  have hzl : z.length = sz := by rw [← hzs, hz1]; simp
  refine ⟨(Builtin.zeroCells z.toArray m).toList, by simp [Builtin.zeroCells, hzl], ?_⟩
  have hvl : (Builtin.zeroCells z.toArray m).toList.length = m * sz := by simp [Builtin.zeroCells, hzl]
  have hfit : q * sz + (Builtin.zeroCells z.toArray m).toList.length ≤ cur.size := by rw [hvl, hcs, ← Nat.add_mul]; exact Nat.mul_le_mul_right _ hqm
  have hone : ∀ v ∈ (Builtin.zeroCells z.toArray m).toList, v.oneCell' = true := fun v hv => by
    simp only [Builtin.zeroCells, Array.toList_map, List.mem_map] at hv
    obtain ⟨i, hi, rfl⟩ := hv
    simp only [Array.toList_range, List.mem_range, List.size_toArray, hzl] at hi
    have hlt : i % z.toArray.size < z.toArray.size := Nat.mod_lt _ (by simp [hzl]; exact hz0)
    have hlt' : i % z.length < z.length := by simpa using hlt
    have e2 : z.toArray[i % z.toArray.size]! = z[i % z.length] := by simp [hlt']
    rw [e2]
    exact h1 _ (List.getElem_mem _)
  have hst := run_storeCells_at P g (q * sz) e (Builtin.zeroCells z.toArray m).toList 0 cur w hg (by simpa using hfit) hone
  simp only [Nat.add_zero] at hst
  obtain ⟨m', rfl⟩ : ∃ m', m = m' + 1 := ⟨m - 1, by omega⟩
  simp only [Builtin.clear_]
  simp [run_underlying hu, zeroValue, typeInfo, hi, hzz, hz1, hst, putC]
theorem ms_clear {α : Type} [Dat α] {t e sz bytes n c c2 q m : Nat} {A B : Option Addr} {x : Operand} {L : List α} {z : List Value} (r : Nat) [ht : EL P t e sz bytes] [hz : ZV P e z] (ho : o.op = .call { callee := .builtin .clear, args := #[x], argTypes := #[t] })
    (hx : opd E x = some (.slice B m c2)) (hB : 0 < m → B = A.map (·.add (q * sz))) (hi : H[r]? = some (.row e sz A n c (fl L))) (hs : Dat.sz α = sz) (hq : q ≤ L.length) (hqm : q + m ≤ c) (h1 : ∀ u ∈ z, u.oneCell' = true) :
    MStep P E H G o (fun _ => True) (fun _ => .tuple #[]) (fun _ => H.set r (.row e sz A q c (fl (L.take q)))) (fun _ => G) := fun N base w0 a w Q K he hw hK => by
  have hsz : 0 < sz := ht.h.2.1
  have hown := hw.own _ (List.mem_of_getElem? hi)
  have hown2 := hown
  have hLn : L.length = n := by have := hown.1; rw [fl_len, hs] at this; exact Nat.eq_of_mul_eq_mul_right hsz this
  have hexec : ∀ v w', (Builtin.clear_ #[t] o.type #[.slice B m c2]).run P w = .ok v w' → (execOp a.eval o).run P w = .ok (.value v) w' := fun v w' h => by
    unfold execOp
    simp only [ho, resolve, invoke, builtin, Sem.run_bind, Sem.run_pure, Result.andThen_ok, List.map_toArray, List.map_cons, List.map_nil, he.eval hx, h]
  obtain ⟨hlen, ⟨hA, hn0⟩ | ⟨g, cap, cur, hA, hb, hh, hnc, hcm, hcs, htk⟩⟩ := hown
  · injection hA with hA hA2 hA3
    subst hA; subst hA2; subst hA3
    have hq0 : q = 0 := by omega
    have hm0 : m = 0 := by omega
    subst hq0; subst hm0
    have hL : L = [] := List.eq_nil_of_length_eq_zero hLn
    subst hL
    have hrun : (Builtin.clear_ #[t] o.type #[.slice B 0 c2]).run P w = .ok (.tuple #[]) w := by
      obtain ⟨hu, _⟩ := ht.h
      simp only [Builtin.clear_]
      cases B <;> simp [run_underlying hu]
    unfold Oper.wp; rw [hexec _ _ hrun]
    exact hK (mkY none 0 w) _ trivial (hw.turn hi (r := none) (World.grownBy.refl w _) (fun k hk => by cases hk) (by simpa using hown2) (fun k hk => .inl hk))
  · injection hA with hA hA2 hA3
    subst hA; subst hA3
    have etake : ∀ cs : List Value, cs = cur.toList → cs.take (q * sz) = fl (L.take q) := fun cs e => by
      rw [e, ← fl_take, hs, ← htk, List.take_take]; congr 1
      have : q * sz ≤ n * sz := Nat.mul_le_mul_right _ (by omega)
      omega
    rcases Nat.eq_zero_or_pos m with hm | hm
    · subst hm
      have hrun : (Builtin.clear_ #[t] o.type #[.slice B 0 c2]).run P w = .ok (.tuple #[]) w := by
        obtain ⟨hu, _⟩ := ht.h
        simp only [Builtin.clear_]
        cases B <;> simp [run_underlying hu]
      unfold Oper.wp; rw [hexec _ _ hrun]
      refine hK (mkY none 0 w) _ trivial (hw.turn hi (r := none) (World.grownBy.refl w _) (fun k hk => by cases hk) (x' := .row e sz (some ⟨g, 0, none⟩) q c (fl (L.take q))) ?_ (fun k hk => .inl hk))
      refine ⟨by rw [fl_len, hs, List.length_take, Nat.min_eq_left hq], .inr ⟨g, c, cur, rfl, hb, hh, by omega, hcm, hcs, ?_⟩⟩
      exact etake _ rfl
    · have hB' := hB hm
      have e0 : B = some ⟨g, q * sz, none⟩ := by rw [hB']; simp [ga_add]
      subst e0
      obtain ⟨vs, hvl, hrun⟩ := run_clear (P := P) (ty := o.type) (c2 := c2) ht.h (z := z) hh hcs hqm h1 hm
      unfold Oper.wp; rw [hexec _ _ hrun]
      have hfit : q * sz + vs.length ≤ cur.size := by rw [hvl, hcs, ← Nat.add_mul]; exact Nat.mul_le_mul_right _ hqm
      obtain ⟨o1, o2⟩ := own_over (m := q) hb hh hcm hcs hfit (by omega)
      rw [putC_take0 (Nat.le_refl _) (by rw [Array.length_toList, hcs]; exact Nat.mul_le_mul_right _ (by omega)), etake _ rfl] at o1
      exact hK (mkY none 0 w) _ trivial (hw.turn (x := .row e sz (some ⟨g, 0, none⟩) n c (fl L)) hi (r := some g) o2 (fun k hk => by cases hk; rfl) o1 (fun k hk => .inl hk))
/-- copy of a row of equal length. -/
theorem ms_copy {α : Type} [Dat α] [OneC α] {t e sz bytes n n2 c c2 : Nat} {A A2 : Option Addr} {x y : Operand} {L M : List α} (r : Nat) [ht : EL P t e sz bytes] (ho : o.op = .call { callee := .builtin .copy, args := #[x, y], argTypes := #[t, t] })
    (hx : opd E x = some (.slice A n c)) (hy : opd E y = some (.slice A2 n2 c2)) (hi : H[r]? = some (.row e sz A n c (fl L))) (hr : Rds H G A2 (fl M)) (hs : Dat.sz α = sz) (hm : M.length = n) (h0 : 0 < n) (hn2 : n2 = n) :
    MStep P E H G o (fun _ => True) (fun _ => .int .i64 n) (fun _ => H.set r (.row e sz A n c (fl M))) (fun _ => G) := fun N base w0 a w Q K he hw hK => by
  have hn3 := hn2.symm
  subst hn3
  have hsz : 0 < sz := ht.h.2.1
  have hown := hw.own _ (List.mem_of_getElem? hi)
  obtain ⟨hlen, ⟨hA, hn0⟩ | ⟨g, cap, cur, hA, hb, hh, hnc, hcm, hcs, htk⟩⟩ := hown
  · omega
  injection hA with hA hA2 hA3
  subst hA; subst hA3
  obtain ⟨hu, hz0, inf, z, hii, hz, hss, hby, hzs⟩ := ht.h
  have hml : (fl M).length = n * sz := by rw [fl_len, hs, hm]
  have hfit : 0 * sz + (fl M).length ≤ cur.size := by rw [hml, hcs, Nat.zero_mul, Nat.zero_add]; exact Nat.mul_le_mul_right _ hnc
  have hst := run_storeCells_at P g 0 e (fl M) 0 cur w hh (by simpa using hfit) (fl_oneC M)
  have hRd := hr base w0 w hw
  have hfc : (Builtin.firstCells sz n (.slice A2 n c2)).run P w = .ok (fl M).toArray w := by
    rcases A2 with _ | ad
    · obtain ⟨u, l, e⟩ : ∃ u l, fl M = u :: l := by
        rcases h : fl M with _ | ⟨u, l⟩
        · rw [h] at hml; have := Nat.mul_pos h0 hsz; simp at hml; omega
        · exact ⟨u, l, rfl⟩
      obtain ⟨ad, e2, _⟩ := hRd 0 u (by rw [e]; rfl)
      cases e2
    · exact run_firstCells_some w sz n ad n c2 (fl M) hml (fun j v hv => by obtain ⟨ad', e, h⟩ := hRd j v hv; cases e; exact h)
  simp only [Nat.add_zero, Nat.zero_add] at hst
  have hmin : Nat.min n n = n := Nat.min_self n
  have hrun : (Builtin.copy_ #[t, t] o.type #[.slice (some ⟨g, 0, none⟩) n c, .slice A2 n c2]).run P w = .ok (.int .i64 n) (w.setRow g (putC cur.toList (0 * sz) (fl M)).toArray) := by
    simp [Builtin.copy_, run_underlying hu, Builtin.lenOf, sizeOf, typeInfo, hii, hss, hmin, hfc, hst, putC, goInt]
  have hr' : (execOp a.eval o).run P w = .ok (.value (.int .i64 n)) (w.setRow g (putC cur.toList (0 * sz) (fl M)).toArray) := by
    unfold execOp
    simp only [ho, resolve, invoke, builtin, Sem.run_bind, Sem.run_pure, Result.andThen_ok, List.map_toArray, List.map_cons, List.map_nil, he.eval hx, he.eval hy, hrun]
  unfold Oper.wp; rw [hr']
  obtain ⟨o1, o2⟩ := own_over (m := n) hb hh hcm hcs hfit hnc
  have e1 : (putC cur.toList (0 * sz) (fl M)).take (n * sz) = fl M := by
    rw [putC_take (by rw [hml]; omega) (by rw [Array.length_toList, hcs]; exact Nat.mul_le_mul_right _ hnc)]; simp
  rw [e1] at o1
  exact hK (mkY none 0 w) _ trivial (hw.turn (x := .row e sz (some ⟨g, 0, none⟩) n c (fl L)) hi (r := some g) o2 (fun k hk => by cases hk; rfl) o1 (fun k hk => .inl hk))
end
section
variable {P : Program} {N base : Nat} {w0 : World} {E : Env} {H HS : List HObj} {G GS : List World} {Q : Exit → Act → World → Prop} {ops : Array Oper} {tl : List Oper} {n f : Nat} {listed : Array Bool}
/-- A store within the open part of a region. -/
theorem okT_one0 {i : Nat} {o : Oper} {F : Ys → Prop} {v : Ys → Value} {H' : Ys → List HObj} {G' : Ys → List World} (hi : ops[i]? = some o) (hin : Nat.blt i n = true) (hr : Region.ready .any ops listed = [i]) (hdt : o.dst = none) (hg : o.guard = none) (hs : MStep P E H G o F v H' G')
    (hS : ∀ y w, F y → WOk base w0 (H' y) (G' y) w → WOk base w0 HS GS w)
    (h : ∀ y, F y → OkT P ops Q tl n N base w0 HS GS f (listed.setIfInBounds i true) E (H' y) (G' y)) : OkT P ops Q tl n N base w0 HS GS (f + 1) listed E H G := fun a w hB hQ he hw hSw inv => by
  have hin' : i < n := by simpa [Nat.blt_eq] using hin
  refine ⟨by rw [hr]; simp, fun j hj => ?_⟩
  have hji : j = i := by rw [hr] at hj; simpa using hj
  subst hji
  refine ⟨hin', ?_⟩
  unfold wpOp
  simp only [hi]
  rw [if_pos (by simp [Region.wanted, hg])]
  refine .inl (hs N base w0 a w Q _ he hw fun y w' hF hw' => ?_)
  have h1 := hS y w' hF hw'
  exact ⟨h1, h y hF _ _ hB hQ (he.put0 hdt _) hw' h1 (inv.set hj hin')⟩
end
end Go.Proofs.Ytojgphgfhapacaa
