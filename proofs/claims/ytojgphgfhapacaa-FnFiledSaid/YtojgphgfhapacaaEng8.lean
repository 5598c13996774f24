/- The engine: results, calls that write to what they are handed, rows that are filled. -/
import Derived.Test.YtojgphgfhapacaaEng7
namespace Go.Proofs.Ytojgphgfhapacaa
open Go.RowKit
set_option linter.unusedVariables false
set_option linter.unusedSimpArgs false
def ResL (P : Program) (E : Env) (H : List HObj) : List ResultVar → List Value → Prop
  | [], [] => True
  | .tmp t :: rs, v :: vs => look E t = some v ∧ ResL P E H rs vs
  | .cell a t :: rs, v :: vs => (∃ (g i e sz : Nat) (cs : List Value), look E a = some (pt (ga g) 0) ∧ H[i]? = some (.box g e cs) ∧ LD P t sz true ∧ cs.length = sz ∧ v = .agg cs.toArray) ∧ ResL P E H rs vs
  | _, _ => False
def retV : List Value → Value
  | [v] => v
  | vs => .tuple vs.toArray
section
variable {P : Program} {N base : Nat} {w0 : World} {E : Env} {H : List HObj} {G : List World} {Q : Exit → Act → World → Prop} {o : Oper} {ops : Array Oper} {rest : List Oper} {F : Ys → Prop} {v : Ys → Value} {H' : Ys → List HObj} {G' : Ys → List World}
theorem run_cell {a : Act} {w : World} {g e sz t : Nat} {cs : List Value} (hw : w.heap[g]? = some (.cells cs.toArray e (0, 0))) (hl : LD P t sz true) (hn : cs.length = sz) : (loadVar t ⟨g, 0, none⟩).run P w = .ok (.agg cs.toArray) w := by
  have h := hl.h
  have hi' : (P.info? t).map (·.size) = some cs.toArray.size := by
    unfold ldB at h
    split at h <;> first | (injection h with h; injection h with h1 h2; rename_i hi; simp [hi, h1, hn]) | cases h
  unfold ldB at h
  split at h
  · rename_i hu hi; exact run_loadVar_row w g e t cs.toArray (0, 0) _ hw hu rfl hi'
  · rename_i hu hi; exact run_loadVar_row w g e t cs.toArray (0, 0) _ hw hu rfl hi'
  · injection h with h; injection h with h1 h2; cases h2
  · cases h
def resF (tmps : Array Value) : ResultVar → Sem Value
  | .tmp t => pure (tmps.getD t undef)
  | .cell c t => do loadVar t (← asAddr (tmps.getD c undef))
theorem run_res {a : Act} {w : World} (he : EnvOk N E a) (hw : WOk base w0 H G w) : ∀ (rs : List ResultVar) (vs : List Value), ResL P E H rs vs → (rs.mapM (resF a.tmps)).run P w = .ok vs w
  | [], [], _ => by simp
  | .tmp t :: rs, v :: vs, h => by
    have h1 := he.at_ t v h.1
    have ih := run_res he hw rs vs h.2
    simp only [List.mapM_cons, Sem.run_bind, resF, Sem.run_pure, Result.andThen_ok, ih, Array.getD_eq_getD_getElem?, h1, Option.getD_some]
  | .cell c t :: rs, v :: vs, h => by
    obtain ⟨⟨g, i, e, sz, cs, h1, h2, h3, h4, rfl⟩, h5⟩ := h
    have h1 := he.at_ c _ h1
    have ih := run_res he hw rs vs h5
    have hh := (hw.own _ (List.mem_of_getElem? h2)).2
    have hl := run_cell (a := a) hh h3 h4
    simp only [List.mapM_cons, Sem.run_bind, resF, Sem.run_pure, Result.andThen_ok, ih, Array.getD_eq_getD_getElem?, h1, Option.getD_some, pt, ga, Option.map_some, asAddr, ga_add, hl]
theorem ok_endL {fn : Func} {R : Ending → World → Prop} {rs : List ResultVar} {vs : List Value} (hr : fn.results = rs.toArray) (hv : ResL P E H rs vs) (h : ∀ w, WOk base w0 H G w → R (.returned (retV vs)) w) : Ok N base w0 E H G (bodyPost P fn R .ret) := fun a w he hw => by
  have h1 := run_res (P := P) he hw rs vs hv
  refine ⟨he.defers, retV vs, ?_, h w hw⟩
  have h2 : (fn.results.mapM (resF a.tmps)).run P w = .ok vs.toArray w := by
    rw [hr, List.mapM_toArray]
    simp only [map_eq_pure_bind, Sem.run_bind, h1, Result.andThen_ok, Sem.run_pure]
  have h3 : results fn a.tmps = (do let vs ← fn.results.mapM (resF a.tmps); pure (if h : vs.size = 1 then vs[0] else .tuple vs)) := by
    unfold results
    congr 2
  rw [h3]
  simp only [Sem.run_bind, h2, Result.andThen_ok, Sem.run_pure]
  rcases vs with _ | ⟨u, _ | ⟨u', l⟩⟩
  · simp [retV]
  · simp [retV]
  · simp [retV]
theorem ok_enterW {f : FuncId} {fn : Func} {c : Code} {args : List Value} {w : World} {R : Ending → World → Prop} (N : Nat) (hf : P.funcs[f]? = some fn) (hb : fn.body = some c) (hn : fn.ntmps = N) (hl : Nat.ble args.length N = true)
    (hw : WOk base w0 H G w) (h : Ok N base w0 (initE 0 args) H G (c.wp P (bodyPost P fn R))) : Calls P f args.toArray w R := by
  have hl' : args.length ≤ N := Nat.le_of_ble_eq_true hl
  refine calls_of_wp hf hb (h _ _ ⟨rfl, ?_, ?_⟩ hw)
  · simp [hn]; omega
  · intro t v hv
    obtain ⟨_, h2⟩ := look_initE args 0 t v hv
    have hlt := (List.getElem?_eq_some_iff.1 h2).1
    simp only [Nat.sub_zero] at h2 hlt
    rw [Array.getElem?_append_left (by simpa using hlt)]
    simpa using h2
theorem ok_endN {fn : Func} {R : Ending → World → Prop} {K : Exit} (h : Ok N base w0 E H G (bodyPost P fn R .ret)) : Ok N base w0 E H G (bodyPost P fn R .normal) := h
theorem NewOk.of {w w' : World} (hw : WOk w.heap.size w0 H G w') : NewOk w.heap.size H [] w' := ⟨hw.own, hw.apart, fun m h => by cases h⟩
/-- A call that may write to some of the own objects: the contract tells the lists behind it. -/
theorem ms_callW {f : FuncId} {cl : Operand} {args : Array Operand} {tys : Array TypeId} {vs : List Value} {H1 : List HObj} (hsel : ∀ base w0 w, WOk base w0 H G w → WOk base w0 H1 G w) [hf : FN P f] (ho : o.op = .call { callee := .value cl, args := args, argTypes := tys }) (hcl : opd E cl = some (.func (.func f) #[] #[])) (ha : args.toList.mapM (opd E) = some vs)
    (hc : ∀ base w0 w, WOk base w0 H1 G w → Calls P f vs.toArray w (fun e w' => ∃ y, e = .returned (v y) ∧ F y ∧ WOk base w0 (H' y) (G' y) w')) :
    MStep P E H G o F v H' G' := fun N base w0 a w Q K he hw hK => by
  obtain ⟨fn, c, h1, h2, h3⟩ := hf.h
  have hev : args.map a.eval = vs.toArray := by
    apply Array.ext'
    rw [Array.toList_map]
    generalize args.toList = l at ha
    clear hc ho
    induction l generalizing vs with
    | nil => simp at ha; subst ha; rfl
    | cons q l ih =>
      simp only [List.mapM_cons, Option.bind_eq_bind] at ha
      cases hq : opd E q with
      | none => simp [hq] at ha
      | some u =>
        simp only [hq, Option.bind_some] at ha
        cases hr : l.mapM (opd E) with
        | none => simp [hr] at ha
        | some r =>
          simp only [hr, Option.bind_some] at ha
          cases ha
          simp [he.eval hq, ih hr]
  have hr : (execOp a.eval o).run P w = .ok (.enter f vs.toArray) w := by
    have hfe : a.eval cl = .func (.func f) #[] #[] := he.eval hcl
    have hname : fn.name ≠ "runtime.NumGoroutine" := by simpa using h2
    simp [execOp, ho, resolve, hev, hfe, Deferred.ofValue, invoke, callFunc, h1, hname, h3]
  unfold Oper.wp; rw [hr]
  refine (hc base w0 w (hsel base w0 w hw)).mono fun e w' ⟨y, he', hF, hw'⟩ => ?_
  subst he'
  exact hK y w' hF hw'
theorem ms_w0 {f : FuncId} {tys : Array TypeId} {H1 : List HObj} (hsel : ∀ base w0 w, WOk base w0 H G w → WOk base w0 H1 G w) [hf : FN P f] (ho : o.op = .call { callee := .value (.func f), args := #[], argTypes := tys }) 
    (hc : ∀ base w0 w, WOk base w0 H1 G w → Calls P f #[] w (fun e w' => ∃ y, e = .returned (v y) ∧ F y ∧ WOk base w0 (H' y) (G' y) w')) :
    MStep P E H G o F v H' G' := ms_callW hsel ho rfl rfl hc
theorem ms_w1 {f : FuncId} {tys : Array TypeId} {x0 : Operand} {u0 : Value} {H1 : List HObj} (hsel : ∀ base w0 w, WOk base w0 H G w → WOk base w0 H1 G w) [hf : FN P f] (ho : o.op = .call { callee := .value (.func f), args := #[x0], argTypes := tys }) (h0 : opd E x0 = some u0)
    (hc : ∀ base w0 w, WOk base w0 H1 G w → Calls P f #[u0] w (fun e w' => ∃ y, e = .returned (v y) ∧ F y ∧ WOk base w0 (H' y) (G' y) w')) :
    MStep P E H G o F v H' G' := ms_callW hsel ho rfl (by simp [List.mapM_cons, h0]) hc
theorem ms_w2 {f : FuncId} {tys : Array TypeId} {x0 x1 : Operand} {u0 u1 : Value} {H1 : List HObj} (hsel : ∀ base w0 w, WOk base w0 H G w → WOk base w0 H1 G w) [hf : FN P f] (ho : o.op = .call { callee := .value (.func f), args := #[x0, x1], argTypes := tys }) (h0 : opd E x0 = some u0) (h1 : opd E x1 = some u1)
    (hc : ∀ base w0 w, WOk base w0 H1 G w → Calls P f #[u0, u1] w (fun e w' => ∃ y, e = .returned (v y) ∧ F y ∧ WOk base w0 (H' y) (G' y) w')) :
    MStep P E H G o F v H' G' := ms_callW hsel ho rfl (by simp [List.mapM_cons, h0, h1]) hc
theorem ms_w3 {f : FuncId} {tys : Array TypeId} {x0 x1 x2 : Operand} {u0 u1 u2 : Value} {H1 : List HObj} (hsel : ∀ base w0 w, WOk base w0 H G w → WOk base w0 H1 G w) [hf : FN P f] (ho : o.op = .call { callee := .value (.func f), args := #[x0, x1, x2], argTypes := tys }) (h0 : opd E x0 = some u0) (h1 : opd E x1 = some u1) (h2 : opd E x2 = some u2)
    (hc : ∀ base w0 w, WOk base w0 H1 G w → Calls P f #[u0, u1, u2] w (fun e w' => ∃ y, e = .returned (v y) ∧ F y ∧ WOk base w0 (H' y) (G' y) w')) :
    MStep P E H G o F v H' G' := ms_callW hsel ho rfl (by simp [List.mapM_cons, h0, h1, h2]) hc
theorem ms_w4 {f : FuncId} {tys : Array TypeId} {x0 x1 x2 x3 : Operand} {u0 u1 u2 u3 : Value} {H1 : List HObj} (hsel : ∀ base w0 w, WOk base w0 H G w → WOk base w0 H1 G w) [hf : FN P f] (ho : o.op = .call { callee := .value (.func f), args := #[x0, x1, x2, x3], argTypes := tys }) (h0 : opd E x0 = some u0) (h1 : opd E x1 = some u1) (h2 : opd E x2 = some u2) (h3 : opd E x3 = some u3)
    (hc : ∀ base w0 w, WOk base w0 H1 G w → Calls P f #[u0, u1, u2, u3] w (fun e w' => ∃ y, e = .returned (v y) ∧ F y ∧ WOk base w0 (H' y) (G' y) w')) :
    MStep P E H G o F v H' G' := ms_callW hsel ho rfl (by simp [List.mapM_cons, h0, h1, h2, h3]) hc
theorem ms_w5 {f : FuncId} {tys : Array TypeId} {x0 x1 x2 x3 x4 : Operand} {u0 u1 u2 u3 u4 : Value} {H1 : List HObj} (hsel : ∀ base w0 w, WOk base w0 H G w → WOk base w0 H1 G w) [hf : FN P f] (ho : o.op = .call { callee := .value (.func f), args := #[x0, x1, x2, x3, x4], argTypes := tys }) (h0 : opd E x0 = some u0) (h1 : opd E x1 = some u1) (h2 : opd E x2 = some u2) (h3 : opd E x3 = some u3) (h4 : opd E x4 = some u4)
    (hc : ∀ base w0 w, WOk base w0 H1 G w → Calls P f #[u0, u1, u2, u3, u4] w (fun e w' => ∃ y, e = .returned (v y) ∧ F y ∧ WOk base w0 (H' y) (G' y) w')) :
    MStep P E H G o F v H' G' := ms_callW hsel ho rfl (by simp [List.mapM_cons, h0, h1, h2, h3, h4]) hc
end
/-- A row that is filled element by element. -/
theorem putC_len (cs : List Value) (k : Nat) (vs : List Value) (h : k + vs.length ≤ cs.length) : (putC cs k vs).length = cs.length := by simp [putC]; omega
theorem putC_fl {α : Type} [Dat α] : ∀ (l : List α) (i : Nat) (x : α), i < l.length → putC (fl l) (i * Dat.sz α) (Dat.cells x) = fl (l.set i x)
  | [], i, x, h => by simp at h
  | y :: l, 0, x, _ => by
    simp only [putC, Nat.zero_mul, List.take_zero, List.nil_append, Nat.zero_add, List.set_cons_zero, fl_cons]
    rw [List.drop_left' (by rw [Dat.len, Dat.len])]
  | y :: l, i + 1, x, h => by
    have ih := putC_fl l i x (by simpa using h)
    simp only [putC, List.set_cons_succ, fl_cons] at ih ⊢
    have e1 : (i + 1) * Dat.sz α = (Dat.cells y).length + i * Dat.sz α := by rw [Dat.len, Nat.add_mul]; omega
    rw [e1, List.take_length_add_append, Nat.add_assoc, List.drop_append, List.append_assoc, List.append_assoc, ← ih]
    simp
theorem putC_at {α : Type} [Dat α] (l : List α) (i off : Nat) (u : Value) (x : α) (h : i < l.length) (ho : off < Dat.sz α) (hx : (Dat.cells (nth l i)).set off u = Dat.cells x) : putC (fl l) (i * Dat.sz α + off) [u] = fl (l.set i x) := by
  rw [← putC_fl l i x h, ← hx]
  have hl := fl_len l
  have hlt : i * Dat.sz α + off < (fl l).length := by
    rw [hl]
    have : (i + 1) * Dat.sz α ≤ l.length * Dat.sz α := Nat.mul_le_mul_right _ h
    rw [Nat.add_mul] at this; omega
  have hle : i * Dat.sz α + Dat.sz α ≤ (fl l).length := by
    rw [hl]
    have : (i + 1) * Dat.sz α ≤ l.length * Dat.sz α := Nat.mul_le_mul_right _ h
    rw [Nat.add_mul] at this; omega
  have hcl : (Dat.cells (nth l i)).length = Dat.sz α := Dat.len _
  apply List.ext_getElem?
  intro j
  have hs := fl_sub l i h
  have hg : ∀ q, q < Dat.sz α → (Dat.cells (nth l i))[q]? = (fl l)[i * Dat.sz α + q]? := fun q hq => (fl_at l i q h hq).symm
  simp only [putC, List.getElem?_append, List.getElem?_take, List.getElem?_drop, List.length_append, List.length_take, List.length_set, List.length_cons, List.length_nil, hcl, List.getElem?_set]
  by_cases h1 : j < i * Dat.sz α
  · have a1 : j < min (i * Dat.sz α + off) (fl l).length := by omega
    have a2 : j < min (i * Dat.sz α) (fl l).length := by omega
    simp only [a1, a2, if_true, show j < min (i * Dat.sz α + off) (fl l).length + (0 + 1) from by omega, show j < min (i * Dat.sz α) (fl l).length + Dat.sz α from by omega, show j < i * Dat.sz α + off from by omega, h1]
  · by_cases h2 : j < i * Dat.sz α + Dat.sz α
    · have b2 : ¬ j < min (i * Dat.sz α) (fl l).length := by omega
      have b3 : j < min (i * Dat.sz α) (fl l).length + Dat.sz α := by omega
      simp only [b2, b3, if_true, if_false]
      have e : j - min (i * Dat.sz α) (fl l).length = j - i * Dat.sz α := by omega
      rw [e, hg (j - i * Dat.sz α) (by omega), show i * Dat.sz α + (j - i * Dat.sz α) = j from by omega]
      by_cases h3 : j < i * Dat.sz α + off
      · have c1 : j < min (i * Dat.sz α + off) (fl l).length := by omega
        simp only [c1, if_true, show j < min (i * Dat.sz α + off) (fl l).length + (0 + 1) from by omega, h3, show ¬ off = j - i * Dat.sz α from by omega, if_false]
      · by_cases h4 : j = i * Dat.sz α + off
        · subst h4
          have c1 : ¬ i * Dat.sz α + off < min (i * Dat.sz α + off) (fl l).length := by omega
          have c2 : i * Dat.sz α + off < min (i * Dat.sz α + off) (fl l).length + (0 + 1) := by omega
          have c3 : i * Dat.sz α + off - min (i * Dat.sz α + off) (fl l).length = 0 := by omega
          have c4 : off = i * Dat.sz α + off - i * Dat.sz α := by omega
          rw [if_pos c2, if_neg c1, c3, if_pos c4, if_pos ho]; rfl
        · have c1 : ¬ j < min (i * Dat.sz α + off) (fl l).length + (0 + 1) := by omega
          simp only [c1, if_false, show ¬ off = j - i * Dat.sz α from by omega]
          congr 1; omega
    · have b3 : ¬ j < min (i * Dat.sz α) (fl l).length + Dat.sz α := by omega
      have c1 : ¬ j < min (i * Dat.sz α + off) (fl l).length + (0 + 1) := by omega
      simp only [b3, c1, if_false]
      congr 1; omega
theorem made_fl {α : Type} [Dat α] (z : α) (n : Nat) : (madeCells (Dat.cells z).toArray (n * Dat.sz α)).toList = fl (List.replicate n z) := by
  have h := range_zrow (Dat.cells z) n
  rw [Dat.len] at h
  have e : madeCells (Dat.cells z).toArray (n * Dat.sz α) = (zrow (Dat.cells z) n).toArray := h
  rw [e]
  induction n with
  | zero => rfl
  | succ n ih => simp only [zrow, List.replicate_succ, fl_cons]; congr 1; exact ih (by have := range_zrow (Dat.cells z) n; rwa [Dat.len] at this) (by have := range_zrow (Dat.cells z) n; rwa [Dat.len] at this)
theorem fill_step {α : Type} [Dat α] (l : List α) (z : α) (i : Nat) (h : i < l.length) : (l.take i ++ List.replicate (l.length - i) z).set i (nth l i) = l.take (i + 1) ++ List.replicate (l.length - (i + 1)) z := by
  have h1 : (l.take i).length = i := by simp; omega
  obtain ⟨d, hd⟩ : ∃ d, l.length - i = d + 1 := ⟨l.length - i - 1, by omega⟩
  rw [hd, List.replicate_succ, List.set_append_right _ _ (by omega), h1, Nat.sub_self, List.set_cons_zero, List.take_succ_eq_append_getElem h, show l.length - (i + 1) = d from by omega, List.append_assoc]
  simp [nth, h]
section
variable {P : Program} {E : Env} {H : List HObj} {G : List World} {o : Oper}
theorem ps_loadsF {α : Type} [Dat α] {x : Operand} {t sz k i : Nat} {A : Option Addr} {l : List α} [hl : LD P t sz true] (ho : o.op = .load t x) (hx : opd E x = some (pt A k)) (hc : Rds H G A (fl l)) (hs : Dat.sz α = sz) (hk : k = i * sz) (hi : i < l.length) (hz : Nat.blt 0 sz = true) : PStep P E H G o (.agg (Dat.cells (nth l i)).toArray) := by
  subst hs; subst hk
  exact ps_loads ho hx hc (fl_sub l i hi) (Dat.len _) (by simpa [Nat.blt_eq] using hz)
theorem ms_setw {α : Type} [Dat α] {t e k sz rsz n c : Nat} {ag : Bool} {A : Option Addr} {x y : Operand} {u : Value} {L : List α} (i j : Nat) (v : α) [hl : LD P t sz ag] (ho : o.op = .store t x y) (hx : opd E x = some (pt A k)) (hy : opd E y = some u) (hi : H[i]? = some (.row e rsz A n c (fl L)))
    (hk : k = j * Dat.sz α) (hsz : Dat.sz α = sz) (h0 : Nat.blt 0 sz = true) (hv : u.cells = (Dat.cells v).toArray) (h1 : (Dat.cells v).all (·.oneCell') = true) (hj : j < L.length) :
    MStep P E H G o (fun _ => True) (fun _ => undef) (fun _ => H.set i (.row e rsz A n c (fl (L.set j v)))) (fun _ => G) := by
  have hle : j * Dat.sz α + Dat.sz α ≤ (fl L).length := by
    rw [fl_len]
    have : (j + 1) * Dat.sz α ≤ L.length * Dat.sz α := Nat.mul_le_mul_right _ hj
    rw [Nat.add_mul] at this; omega
  have := ms_store_row (g := 0) (P := P) (hl := hl) (G := G) (k := k) i ho hx hy hv (by rw [Dat.len, hsz]) h1 (by simpa [Nat.blt_eq] using h0) hi (by rw [Dat.len, hk]; exact hle)
  rwa [hk, putC_fl L j v hj] at this
theorem ms_setc {α : Type} [Dat α] {t e k rsz n c : Nat} {A : Option Addr} {x y : Operand} {u : Value} {L : List α} (i j off : Nat) (v : α) [hl : LD P t 1 false] (ho : o.op = .store t x y) (hx : opd E x = some (pt A k)) (hy : opd E y = some u) (hi : H[i]? = some (.row e rsz A n c (fl L)))
    (hk : k = j * Dat.sz α + off) (hoff : Nat.blt off (Dat.sz α) = true) (hv : u.cells = #[u]) (h1 : u.oneCell' = true) (hv2 : (Dat.cells (nth L j)).set off u = Dat.cells v) (hj : j < L.length) :
    MStep P E H G o (fun _ => True) (fun _ => undef) (fun _ => H.set i (.row e rsz A n c (fl (L.set j v)))) (fun _ => G) := by
  have ho' : off < Dat.sz α := by simpa [Nat.blt_eq] using hoff
  have hle : j * Dat.sz α + off + 1 ≤ (fl L).length := by
    rw [fl_len]
    have : (j + 1) * Dat.sz α ≤ L.length * Dat.sz α := Nat.mul_le_mul_right _ hj
    rw [Nat.add_mul] at this; omega
  have := ms_store_row (g := 0) (P := P) (hl := hl) (G := G) (k := k) (vs := [u]) i ho hx hy (by rw [hv]) rfl (by simpa using h1) (by omega) hi (by rw [hk]; exact hle)
  rwa [hk, putC_at L j off u v hj ho' hv2] at this
end
end Go.Proofs.Ytojgphgfhapacaa
