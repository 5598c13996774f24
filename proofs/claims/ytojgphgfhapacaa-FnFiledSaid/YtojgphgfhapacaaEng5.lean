/- The engine: append, strings of bytes, calls; statements whose order is open. -/
import Derived.Test.YtojgphgfhapacaaEng4
import Derived.OrdersHeld
import Derived.StillTail
namespace Go.Proofs.Ytojgphgfhapacaa
open Go.RowKit
set_option linter.unusedVariables false
set_option linter.unusedSimpArgs false
section
variable {P : Program} {N base : Nat} {w0 : World} {E : Env} {H : List HObj} {G : List World} {Q : Exit → Act → World → Prop} {o : Oper} {rest : List Oper} {ops : Array Oper} {F : Ys → Prop} {v : Ys → Value} {H' : Ys → List HObj} {G' : Ys → List World}
theorem run_appP {t ty e size bytes : Nat} (hT : SlP P t e size bytes) {w : World} {base n c : Nat} {A : Option Addr} {us : List Value} (hown : Own w base e size A n c us)
    {A2 : Option Addr} {m c2 : Nat} {news : List Value} (hl : news.length = m * size) (hr : Rd w A2 news) (h1 : ∀ u ∈ news, u.oneCell' = true)
    (hbytes : (n + m) * bytes ≤ 140737488355328) (h63 : n + m ≤ 140737488355328) (hbase : base ≤ w.heap.size) :
    ∃ A' c' w', (Builtin.append_ #[t, t] ty #[.slice A n c, .slice A2 m c2]).run P w = .ok (.slice A' (n + m) c') w' ∧ Own w' base e size A' (n + m) c' (us ++ news) ∧ w.grownBy w' (blk A) ∧ (blk A' = blk A ∨ blk A' = some w.heap.size) := by
  rcases A2 with _ | ad
  · have hn : news = [] := by
      rcases news with _ | ⟨u, l⟩
      · rfl
      · obtain ⟨ad, e, _⟩ := hr 0 u rfl; cases e
    have hm : m = 0 := by
      subst hn; have := hT.2.1
      rcases Nat.eq_zero_or_pos m with h | h
      · exact h
      · have := Nat.mul_pos h this; simp at hl; omega
    subst hn; subst hm
    refine ⟨A, c, w, ?_, by simpa using hown, World.grownBy.refl w _, .inl rfl⟩
    obtain ⟨ht, _, i, z, hi, hz, _, _, _⟩ := hT
    rcases hown.2 with ⟨hv, rfl⟩ | ⟨g, cap, cur, hv, _, _, hnc, _⟩
    · cases hv
      simp [Builtin.append_, run_underlying ht, sizeOf, typeInfo, hi, Builtin.lenOf, Builtin.firstCells]
    · cases hv
      simp [Builtin.append_, run_underlying ht, sizeOf, typeInfo, hi, Builtin.lenOf, Builtin.firstCells, hnc, storeCells]
  · have hcells : ∀ j u, news[j]? = some u → w.cell? (ad.add j) = some u := fun j u hu => by
      obtain ⟨ad', e, hc⟩ := hr j u hu; cases e; exact hc
    obtain ⟨ht, hsz, i, z, hi, hz, hs, hby, hzs⟩ := hT
    obtain ⟨v', w', hrun, h2, h3, _, h5⟩ := run_append_own_at (P := P) w base t ty e i z size bytes ht hi hz hs hby hzs hsz (.slice A n c) n us hown ad m c2 news hl hcells h1 (by simp only [maxLen]; omega) hbytes hbase
    obtain ⟨A', c', rfl⟩ : ∃ A' c', v' = .slice A' (n + m) c' := by
      rcases h2.2 with ⟨hv, hn⟩ | ⟨g, cap, cur, hv, _⟩
      · exact ⟨none, 0, by rw [hv, hn]⟩
      · exact ⟨_, _, hv⟩
    rw [ownBlock_slice] at h3 h5
    rw [ownBlock_slice] at h5
    exact ⟨A', c', w', hrun, h2, h3, h5⟩
theorem ms_app {t e sz bytes n c m c2 : Nat} {A A2 : Option Addr} {x y : Operand} {us news : List Value} (i : Nat) [ht : EL P t e sz bytes] (ho : o.op = .call { callee := .builtin .append, args := #[x, y], argTypes := #[t, t] })
    (hx : opd E x = some (.slice A n c)) (hy : opd E y = some (.slice A2 m c2)) (hi : H[i]? = some (.row e sz A n c us)) (hr : Rds H G A2 news) (hl : news.length = m * sz) (h1 : ∀ u ∈ news, u.oneCell' = true)
    (hb : (n + m) * bytes ≤ 140737488355328) (hm : n + m ≤ 140737488355328) :
    MStep P E H G o (fun _ => True) (fun y => .slice (y 0).A (n + m) (y 0).c) (fun y => H.set i (.row e sz (y 0).A (n + m) (y 0).c (us ++ news))) (fun _ => G) := fun N base w0 a w Q K he hw hK => by
  obtain ⟨A', c', w', hrun, h2, h3, h4⟩ := run_appP (ty := o.type) ht.h (hw.own _ (List.mem_of_getElem? hi)) hl (hr base w0 w hw) h1 hb hm hw.le (c2 := c2)
  have hr' : (execOp a.eval o).run P w = .ok (.value (.slice A' (n + m) c')) w' := by
    unfold execOp
    simp only [ho, resolve, invoke, builtin, Sem.run_bind, Sem.run_pure, Result.andThen_ok, List.map_toArray, List.map_cons, List.map_nil, he.eval hx, he.eval hy, hrun]
  unfold Oper.wp; rw [hr']
  refine hK (mkY A' c' w) _ trivial (hw.turn (x := .row e sz A n c us) hi h3 (fun k hk => hk) h2 fun k hk => ?_)
  rcases h4 with h4 | h4
  · exact .inl (h4.symm.trans hk)
  · right
    have : some k = some w.heap.size := hk.symm.trans h4
    cases this; exact Nat.le_refl _
theorem ms_app_nil {t e sz bytes m c2 : Nat} {A2 : Option Addr} {x y : Operand} {news : List Value} [ht : EL P t e sz bytes] (ho : o.op = .call { callee := .builtin .append, args := #[x, y], argTypes := #[t, t] })
    (hx : opd E x = some (.slice none 0 0)) (hy : opd E y = some (.slice A2 m c2)) (hr : Rds H G A2 news) (hl : news.length = m * sz) (h1 : ∀ u ∈ news, u.oneCell' = true)
    (hb : m * bytes ≤ 140737488355328) (hm : m ≤ 140737488355328) :
    MStep P E H G o (fun _ => True) (fun y => .slice (y 0).A m (y 0).c) (fun y => .row e sz (y 0).A m (y 0).c news :: H) (fun _ => G) := fun N base w0 a w Q K he hw hK => by
  obtain ⟨A', c', w', hrun, h2, h3, h4⟩ := run_appP (ty := o.type) (w := w) ht.h (Own.nil w w.heap.size e sz) hl (hr base w0 w hw) h1 (by simpa using hb) (by simpa using hm) (Nat.le_refl _) (c2 := c2)
  have hr' : (execOp a.eval o).run P w = .ok (.value (.slice A' m c')) w' := by
    unfold execOp
    simp only [Nat.zero_add] at hrun
    simp only [ho, resolve, invoke, builtin, Sem.run_bind, Sem.run_pure, Result.andThen_ok, List.map_toArray, List.map_cons, List.map_nil, he.eval hx, he.eval hy, hrun]
  unfold Oper.wp; rw [hr']
  simp only [Nat.zero_add, List.nil_append] at h2
  exact hK (mkY A' c' w) _ trivial (hw.grow (Hn := [.row e sz A' m c' news]) (Gn := []) ⟨h3.os, h3.tape, h3.output, h3.size, fun j hj => h3.block j hj (by simp [blk])⟩ (NewOk.one h2))
/-- A string made of bytes. -/
theorem ps_str_of {x : Operand} {s t e : TypeId} {A : Option Addr} {n c : Nat} {l : List UInt8} {sz bytes : Nat} [hs' : EL P s e sz bytes] [he'' : IK P e .u8] [ht' : SS P t] (ho : o.op = .convert s t x) (hx : opd E x = some (.slice A n c)) (hr : Rds H G A (byteVs l)) (hn : n = l.length) : PStep P E H G o (.string ⟨l.toArray⟩) := fun N base w0 a w he hw => by
  have h := hr base w0 w hw
  have hs := hs'.h.1
  have he' := he''.h
  have ht := ht'.h
  subst hn
  have hrun : (convert s t (.slice A l.length c)).run P w = .ok (.string ⟨l.toArray⟩) w := by
    rcases A with _ | ad
    · have hl : l = [] := by
        rcases l with _ | ⟨u, l⟩
        · rfl
        · obtain ⟨ad, e, _⟩ := h 0 (.int .u8 u.toNat) (by simp [byteVs]); cases e
      subst hl
      rw [run_convert_bytes_nil w _ _ hs he' _ _ _ ht]
      rfl
    · exact run_convert_bytes_back w _ _ _ ad c l hs he' ht (fun j hj => by
        obtain ⟨ad', e, hc⟩ := h j (.int .u8 (l[j].toNat : Int)) (by simp [byteVs, List.getElem?_eq_getElem hj])
        cases e; exact hc)
  simp [execOp, ho, he.eval hx, hrun]
/-- A slice of a slice, a slice of a string. -/
theorem ps_slice {x : Operand} {lo hi : Option Operand} {t e sz bytes : TypeId} {A : Option Addr} {n c : Nat} {l h : Nat} [ht : EL P t e sz bytes] (ho : o.op = .slice t x lo hi none) (hx : opd E x = some (.slice A n c))
    (hlo : (match lo with | none => some l = some 0 | some y => ∃ k, opd E y = some (.int k (l : Int)))) (hhi : (match hi with | none => h = n | some y => ∃ k, opd E y = some (.int k (h : Int)))) (h1 : l ≤ h) (h2 : h ≤ c) :
    PStep P E H G o (.slice (if c = l then A else A.map (·.add (l * sz))) (h - l) (c - l)) := fun N base w0 a w he hw => by
  obtain ⟨hu, _, i, z, hi', hz, hs, _, _⟩ := ht.h
  have hb : ∀ (k : IntKind) (q m : Nat) (cd : BoundsCode), q ≤ m → (Instr.sliceBound (.int k (q : Int)) m cd).run P w = .ok q w := fun k q m cd hq => by
    have : (0 : Int) ≤ q ∧ (q : Int) ≤ m := by omega
    simp [Instr.sliceBound, asIntOf, this]
  cases lo with
  | none =>
    cases hlo
    cases hi with
    | none => subst hhi; simp [execOp, ho, he.eval hx, Instr.sliceAt, Instr.slice, Instr.sliceBounds, run_underlying hu, sizeOf, typeInfo, hi', hs]
    | some y =>
      obtain ⟨k, hy⟩ := hhi
      simp [execOp, ho, he.eval hx, he.eval hy, Instr.sliceAt, Instr.slice, Instr.sliceBounds, run_underlying hu, sizeOf, typeInfo, hi', hs, hb k h c _ h2]
  | some q =>
    obtain ⟨k', hq⟩ := hlo
    cases hi with
    | none => subst hhi; simp [execOp, ho, he.eval hx, he.eval hq, Instr.sliceAt, Instr.slice, Instr.sliceBounds, run_underlying hu, sizeOf, typeInfo, hi', hs, hb k' l h _ h1]
    | some y =>
      obtain ⟨k, hy⟩ := hhi
      simp [execOp, ho, he.eval hx, he.eval hy, he.eval hq, Instr.sliceAt, Instr.slice, Instr.sliceBounds, run_underlying hu, sizeOf, typeInfo, hi', hs, hb k h c _ h2, hb k' l h _ h1]
theorem ps_sslice {x : Operand} {lo hi : Option Operand} {t : TypeId} {s : ByteArray} {l h : Nat} [ht : SS P t] (ho : o.op = .slice t x lo hi none) (hx : opd E x = some (.string s))
    (hlo : (match lo with | none => some l = some 0 | some y => ∃ k, opd E y = some (.int k (l : Int)))) (hhi : (match hi with | none => h = s.size | some y => ∃ k, opd E y = some (.int k (h : Int)))) (h1 : l ≤ h) (h2 : h ≤ s.size) :
    PStep P E H G o (.string (s.extract l h)) := fun N base w0 a w he hw => by
  have hb : ∀ (k : IntKind) (q m : Nat) (cd : BoundsCode), q ≤ m → (Instr.sliceBound (.int k (q : Int)) m cd).run P w = .ok q w := fun k q m cd hq => by
    have : (0 : Int) ≤ q ∧ (q : Int) ≤ m := by omega
    simp [Instr.sliceBound, asIntOf, this]
  cases lo with
  | none =>
    cases hlo
    cases hi with
    | none => subst hhi; simp [execOp, ho, he.eval hx, Instr.sliceAt, Instr.slice, Instr.sliceBounds, run_underlying ht.h]
    | some y =>
      obtain ⟨k, hy⟩ := hhi
      simp [execOp, ho, he.eval hx, he.eval hy, Instr.sliceAt, Instr.slice, Instr.sliceBounds, run_underlying ht.h, hb k h _ _ h2]
  | some q =>
    obtain ⟨k', hq⟩ := hlo
    cases hi with
    | none => subst hhi; simp [execOp, ho, he.eval hx, he.eval hq, Instr.sliceAt, Instr.slice, Instr.sliceBounds, run_underlying ht.h, hb k' l _ _ h1]
    | some y =>
      obtain ⟨k, hy⟩ := hhi
      simp [execOp, ho, he.eval hx, he.eval hy, he.eval hq, Instr.sliceAt, Instr.slice, Instr.sliceBounds, run_underlying ht.h, hb k h _ _ h2, hb k' l h _ h1]
/-- Calls: the contract tells the ending, what is new and what it is known to be; old memory stays. -/
theorem ms_call {f : FuncId} {cl : Operand} {args : Array Operand} {tys : Array TypeId} {vs : List Value} {Hn : Ys → List HObj} {Gn : Ys → List World} [hf : FN P f] (ho : o.op = .call { callee := .value cl, args := args, argTypes := tys }) (hcl : opd E cl = some (.func (.func f) #[] #[])) (ha : args.toList.mapM (opd E) = some vs)
    (hc : ∀ base w0 w, WOk base w0 H G w → Calls P f vs.toArray w (fun e w' => ∃ y, e = .returned (v y) ∧ F y ∧ Below w.heap.size w w' ∧ NewOk w.heap.size (Hn y) (Gn y) w')) :
    MStep P E H G o F v (fun y => Hn y ++ H) (fun y => Gn y ++ G) := fun N base w0 a w Q K he hw hK => by
  obtain ⟨fn, c, h1, h2, h3⟩ := hf.h
  have hev : args.map a.eval = vs.toArray := by
    apply Array.ext'
    rw [Array.toList_map]
    generalize args.toList = l at ha
    clear hc ho
    induction l generalizing vs with
    | nil => simp at ha; subst ha; rfl
    | cons q l ih =>
      simp only [List.mapM_cons, Option.bind_eq_bind] at ha
      cases hq : opd E q with
      | none => simp [hq] at ha
      | some u =>
        simp only [hq, Option.bind_some] at ha
        cases hr : l.mapM (opd E) with
        | none => simp [hr] at ha
        | some r =>
          simp only [hr, Option.bind_some] at ha
          cases ha
          simp [he.eval hq, ih hr]
  have hr : (execOp a.eval o).run P w = .ok (.enter f vs.toArray) w := by
    have hfe : a.eval cl = .func (.func f) #[] #[] := he.eval hcl
    have hname : fn.name ≠ "runtime.NumGoroutine" := by simpa using h2
    simp [execOp, ho, resolve, hev, hfe, Deferred.ofValue, invoke, callFunc, h1, hname, h3]
  unfold Oper.wp; rw [hr]
  refine (hc base w0 w hw).mono fun e w' ⟨y, he', hF, hb, hn⟩ => ?_
  subst he'
  exact hK y w' hF (hw.grow hb hn)
theorem ms_ps {u : Value} (h : PStep P E H G o u) : MStep P E H G o (fun _ => True) (fun _ => u) (fun _ => H) (fun _ => G) := ms_of (v0 := undef) fun N base w0 a w he hw => ⟨mkY none 0 w, w, trivial, h N base w0 a w he hw, hw⟩
/-- A guarded operation that leaves the lists as they are. -/
theorem ok_m0g {u : Value} {p : Bool} (hw' : ∀ a, EnvOk N E a → Region.wanted o (yielded ops a.tmps) = p) {td : Nat} (hdt : o.dst = some td) (hd : Nat.blt td N = true) (hs : p = true → MStep P E H G o (fun _ => True) (fun _ => u) (fun _ => H) (fun _ => G))
    (h : Ok N base w0 ((td, (gv p u)) :: E) H G (wpList P ops Q rest)) : Ok N base w0 E H G (wpList P ops Q (o :: rest)) := fun a w he hw => by
  refine wpList_step fun K hK => ?_
  rw [hw' a he]
  cases p with
  | true =>
    rw [if_pos rfl]
    exact hs rfl N base w0 a w Q K he hw fun y w' _ hw2 => hK _ _ (h _ _ (he.put' hdt hd u) hw2)
  | false => rw [if_neg (by simp)]; exact hK _ _ (h _ _ (he.put' hdt hd undef) hw)
theorem ok_mg {u : Value} {j d : Nat} {want c : Bool} (hg : o.guard = some (j, want)) (hj : (ops[j]?).bind (·.dst) = some d) (hv : look E d = some (.bool c)) {td : Nat} (hdt : o.dst = some td) (hd : Nat.blt td N = true)
    {p : Bool} (hp : (c == want) = p) (hs : p = true → MStep P E H G o (fun _ => True) (fun _ => u) (fun _ => H) (fun _ => G))
    (h : Ok N base w0 ((td, (gv p u)) :: E) H G (wpList P ops Q rest)) : Ok N base w0 E H G (wpList P ops Q (o :: rest)) :=
  ok_m0g (fun a he => by rw [wanted_of (p := true) he hg hj hv, Bool.true_and, hp]) hdt hd hs h
theorem ok_mgg {u : Value} {j d : Nat} {want c q : Bool} (hg : o.guard = some (j, want)) (hj : (ops[j]?).bind (·.dst) = some d) (hv : look E d = some (gv q (.bool c))) {td : Nat} (hdt : o.dst = some td) (hd : Nat.blt td N = true)
    {p : Bool} (hp : (c == want) = p) (hs : q = true → p = true → (q && p) = true → MStep P E H G o (fun _ => True) (fun _ => u) (fun _ => H) (fun _ => G))
    (h : Ok N base w0 ((td, (gv (q && p) u)) :: E) H G (wpList P ops Q rest)) : Ok N base w0 E H G (wpList P ops Q (o :: rest)) :=
  ok_m0g (fun a he => by rw [wanted_of (p := q) he hg hj hv, hp]) hdt hd (fun hqp => by
    have := (Bool.and_eq_true _ _).mp hqp
    exact hs this.1 this.2 hqp) h
theorem ms_call0 {f : FuncId} {cl : Operand} {args : Array Operand} {tys : Array TypeId} {vs : List Value} {u : Value} [hf : FN P f] (ho : o.op = .call { callee := .value cl, args := args, argTypes := tys }) (hcl : opd E cl = some (.func (.func f) #[] #[])) (ha : args.toList.mapM (opd E) = some vs)
    (hc : ∀ base w0 w, WOk base w0 H G w → Calls P f vs.toArray w (fun e w' => e = .returned u ∧ Below w.heap.size w w')) :
    MStep P E H G o (fun _ => True) (fun _ => u) (fun _ => H) (fun _ => G) :=
  ms_call (Hn := fun _ => []) (Gn := fun _ => []) ho hcl ha fun base w0 w hw => (hc base w0 w hw).mono fun e w' ⟨h1, h2⟩ => ⟨mkY none 0 w, h1, trivial, h2, NewOk.nil _ _⟩
end
end Go.Proofs.Ytojgphgfhapacaa
