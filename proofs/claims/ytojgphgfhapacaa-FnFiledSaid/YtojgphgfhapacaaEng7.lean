/- The engine: structs and rows that are built part by part; calls by their number of arguments. -/
import Derived.Test.YtojgphgfhapacaaEng6
namespace Go.Proofs.Ytojgphgfhapacaa
open Go.RowKit
set_option linter.unusedVariables false
set_option linter.unusedSimpArgs false
def Parts (E : Env) : List (Nat × Operand) → List (Nat × Value) → Prop
  | [], [] => True
  | q :: l, r :: m => q.1 = r.1 ∧ opd E q.2 = some r.2 ∧ Parts E l m
  | _, _ => False
theorem parts_nil {E : Env} : Parts E [] [] := trivial
theorem parts_cons {E : Env} {i : Nat} {x : Operand} {v : Value} {l : List (Nat × Operand)} {m : List (Nat × Value)} (h : opd E x = some v) (hm : Parts E l m) : Parts E ((i, x) :: l) ((i, v) :: m) := ⟨rfl, h, hm⟩
theorem parts_eval {N : Nat} {E : Env} {a : Act} (he : EnvOk N E a) : ∀ {l : List (Nat × Operand)} {vs : List (Nat × Value)}, Parts E l vs → l.map (fun q => (q.1, a.eval q.2)) = vs
  | [], [], _ => rfl
  | q :: l, r :: m, h => by
    rw [List.map_cons, parts_eval he h.2.2, he.eval h.2.1, h.1]
def bldL (pl : Nat → Option (Nat × Nat)) : List Value → List (Nat × Value) → Option (List Value)
  | cs, [] => some cs
  | cs, (i, v) :: rest => match pl i with
    | none => none
    | some (off, sz) => if v.cells.toList.length = sz ∧ off + sz ≤ cs.length then bldL pl (putC cs off v.cells.toList) rest else none
theorem foldl_put (vs : List Value) : ∀ (cs : List Value) (off k : Nat), off + k + vs.length ≤ cs.length → (vs.zipIdx k).foldl (fun (cs : Array Value) (p : Value × Nat) => cs.setIfInBounds (off + p.2) p.1) cs.toArray = (putC cs (off + k) vs).toArray := by
  induction vs with
  | nil => intro cs off k _; simp [putC]
  | cons v vs ih =>
    intro cs off k h
    simp only [List.zipIdx_cons, List.foldl_cons, List.length_cons] at h ⊢
    have h1 : (cs.toArray.setIfInBounds (off + k) v) = (cs.set (off + k) v).toArray := by simp
    rw [h1, ih _ _ _ (by simp; omega)]
    congr 1
    simp only [putC]
    apply List.ext_getElem?
    intro j
    simp only [List.getElem?_append, List.getElem?_take, List.getElem?_drop, List.length_append, List.length_take, List.length_set, List.length_cons, List.getElem?_set, List.getElem?_cons]
    repeat' split
    all_goals first | rfl | omega | (congr 1; omega) | skip
    all_goals simp_all <;> omega
theorem fill_bld (pl : Nat → Option (Nat × Nat)) : ∀ (vs : List (Nat × Value)) (cs r : List Value), bldL pl cs vs = some r → Instr.fill pl cs.toArray vs = some r.toArray
  | [], cs, r, h => by cases h; rfl
  | (i, v) :: rest, cs, r, h => by
    unfold bldL at h
    unfold Instr.fill
    cases hp : pl i with
    | none => simp [hp] at h
    | some p =>
      obtain ⟨off, sz⟩ := p
      simp only [hp] at h ⊢
      split at h
      case isFalse => cases h
      rename_i hc
      have hl : v.cells.size = sz := by simpa using hc.1
      have hle : off + v.cells.size ≤ cs.length := by omega
      rw [if_neg (by simp [hl]; omega)]
      have := foldl_put v.cells.toList cs off 0 (by simpa using hle)
      simp only [Nat.add_zero] at this
      have e : v.cells.zipIdx.foldl (fun cs x => match x with | (c, j) => cs.setIfInBounds (off + j) c) cs.toArray = (putC cs off v.cells.toList).toArray := by
        rw [← this, ← Array.foldl_toList, Array.toList_zipIdx]
      rw [e]
      exact fill_bld pl rest _ r h
def stB (P : Program) (t : TypeId) : Option (Array Value × List (Nat × Nat)) := match P.info? t, P.underlying t with
  | some it, some (.struct fields) => match it.zero, fields.toList.mapM (fun f => (P.info? f.type).map fun i => (f.offset, i.size)) with
    | some z, some pl => some (z.cells, pl)
    | _, _ => none
  | _, _ => none
class ST (P : Program) (t : TypeId) (zs : outParam (List Value)) (pl : outParam (List (Nat × Nat))) : Prop where h : stB P t = some (zs.toArray, pl)
section
variable {P : Program} {N base : Nat} {w0 : World} {E : Env} {H : List HObj} {G : List World} {Q : Exit → Act → World → Prop} {o : Oper} {F : Ys → Prop} {v : Ys → Value}
theorem ps_bld {t : TypeId} {parts : Array (Nat × Operand)} {vs : List (Nat × Value)} {zs cs : List Value} {pl : List (Nat × Nat)} [hst : ST P t zs pl] (ho : o.op = .build t parts) (hp : Parts E parts.toList vs) (hb : bldL (fun i => pl[i]?) zs vs = some cs) : PStep P E H G o (.agg cs.toArray) := fun N base w0 a w he hw => by
  have h := hst.h
  unfold stB at h
  split at h
  case h_2 => cases h
  rename_i it fields hit hu
  split at h
  case h_2 => cases h
  rename_i z pl' hz hpl
  injection h with h
  injection h with h1 h2
  have hf := fill_bld _ vs zs cs hb
  have hbt : P.built t vs = some cs.toArray := by
    simp only [Program.built, hit, hu, hz, hpl, h1, h2]
    rw [← hf]
    simp
  have hm : (parts.map fun q => (q.1, a.eval q.2)).toList = vs := by rw [Array.toList_map]; exact parts_eval he hp
  have := run_build (P := P) w t (parts.map fun q => (q.1, a.eval q.2)) cs.toArray (by rw [hm]; exact hbt)
  simp only [execOp, ho, Sem.run_bind, this, Result.andThen_ok, Sem.run_pure]
def zrow (zs : List Value) : Nat → List Value
  | 0 => []
  | n + 1 => zs ++ zrow zs n
theorem zrow_len (zs : List Value) (n : Nat) : (zrow zs n).length = n * zs.length := by
  induction n with
  | zero => simp [zrow]
  | succ n ih => simp only [zrow, List.length_append, ih, Nat.add_mul]; omega
theorem zrow_get (zs : List Value) : ∀ (n j : Nat), j < n * zs.length → (zrow zs n)[j]? = zs[j % zs.length]?
  | 0, j, h => by simp at h
  | n + 1, j, h => by
    simp only [zrow]
    by_cases hj : j < zs.length
    · rw [List.getElem?_append_left hj, Nat.mod_eq_of_lt hj]
    · have h2 : (n + 1) * zs.length = n * zs.length + zs.length := Nat.succ_mul _ _
      have h3 : j % zs.length = (j - zs.length) % zs.length := Nat.mod_eq_sub_mod (by omega)
      rw [List.getElem?_append_right (by omega), zrow_get zs n _ (by omega), h3]
theorem range_zrow (zs : List Value) (n : Nat) : ((Array.range (n * zs.length)).map (zs.toArray[· % zs.toArray.size]!)) = (zrow zs n).toArray := by
  apply Array.ext'
  apply List.ext_getElem?
  intro j
  simp only [Array.toList_map, Array.toList_range, List.getElem?_map]
  by_cases hj : j < n * zs.length
  · have hpos : 0 < zs.length := by
      rcases Nat.eq_zero_or_pos zs.length with h | h
      · rw [h] at hj; simp at hj
      · exact h
    have hlt : j % zs.length < zs.length := Nat.mod_lt _ hpos
    rw [zrow_get zs n j hj, List.getElem?_range hj]
    simp [hlt]
  · rw [List.getElem?_eq_none (by simp; omega), List.getElem?_eq_none (by rw [zrow_len]; omega)]
    rfl
theorem ms_lit {t e sz bytes len : Nat} {parts : Array (Nat × Operand)} {vs : List (Nat × Value)} {zs us : List Value} [ht : EL P t e sz bytes] [hz : ZV P e zs] (ho : o.op = .buildSlice t len parts) (hp : Parts E parts.toList vs)
    (hb : bldL (fun i => some (i * sz, sz)) (zrow zs len) vs = some us) (hl : us.length = len * sz) (hm : Nat.ble (len * sz) 16777216 = true) : MStep P E H G o (fun _ => True) (fun y => .slice (ga (y 0).c) len len) (fun y => .row e sz (ga (y 0).c) len len us :: H) (fun _ => G) := ms_of (v0 := undef) fun N base w0 a w he hw => by
  have hm' : len * sz ≤ 16777216 := Nat.le_of_ble_eq_true hm
  obtain ⟨hu, hpos, i, z, hi, hzz, hs, hby, hzs⟩ := ht.h
  have hlen : len ≤ len * sz := Nat.le_mul_of_pos_right _ hpos
  refine ⟨mkY none w.heap.size w, w.alloc (.cells us.toArray e), trivial, ?_, wok_new_row hw e sz len us hl (by simp only [maxLen]; omega)⟩
  have hm2 : (parts.map fun q => (q.1, a.eval q.2)).toList = vs := by rw [Array.toList_map]; exact parts_eval he hp
  have hz1 : z.cells = zs.toArray := by
    have := hz.h
    unfold zvB at this
    simpa [hi, hzz] using this
  have hzl : zs.length = sz := by rw [← hzs, hz1]; simp
  have hf := fill_bld _ vs _ us hb
  have hle : ¬ 2 ^ 24 < len * i.size := by rw [hs]; omega
  have hrz := range_zrow zs len
  rw [hzl] at hrz
  have hle' : ¬ len * i.size > 2 ^ 24 := hle
  simp only [execOp, ho, Instr.buildSlice, Sem.run_bind, run_underlying hu, Result.andThen_ok, sizeOf, typeInfo, run_program, hi, Sem.run_pure, if_neg hle', hm2]
  rw [hs]
  by_cases h0 : len * sz = 0
  · have hl0 : len = 0 := by
      rcases Nat.mul_eq_zero.1 h0 with h | h
      · exact h
      · omega
    subst hl0
    have hf' : Instr.fill (fun i => some (i * sz, sz)) #[] vs = some us.toArray := by simpa [zrow] using hf
    have hr0 : Array.range 0 = #[] := rfl
    simp [h0, hr0, hf', newRow, newObj, Sem.run, ga, mkY]
  · have hf' : Instr.fill (fun i => some (i * sz, sz)) (Array.map (fun x => zs.toArray[x % zs.toArray.size]!) (Array.range (len * sz))) vs = some us.toArray := by rw [hrz]; exact hf
    simp only [h0, if_false, zeroValue, typeInfo, Sem.run_bind, run_program, Result.andThen_ok, hi, hzz, Sem.run_pure, hz1, hf']
    simp [newRow, newObj, Sem.run, ga, mkY]
theorem ms_c0 {f : FuncId} {tys : Array TypeId} {Hn : Ys → List HObj} {Gn : Ys → List World} [hf : FN P f] (ho : o.op = .call { callee := .value (.func f), args := #[], argTypes := tys }) 
    (hc : ∀ base w0 w, WOk base w0 H G w → Calls P f #[] w (fun e w' => ∃ y, e = .returned (v y) ∧ F y ∧ Below w.heap.size w w' ∧ NewOk w.heap.size (Hn y) (Gn y) w')) :
    MStep P E H G o F v (fun y => Hn y ++ H) (fun y => Gn y ++ G)   := ms_call ho rfl rfl hc
theorem ms_s0 {f : FuncId} {tys : Array TypeId} {u : Value} [hf : FN P f] (ho : o.op = .call { callee := .value (.func f), args := #[], argTypes := tys }) 
    (hc : ∀ base w0 w, WOk base w0 H G w → Calls P f #[] w (fun e w' => e = .returned u ∧ Below w.heap.size w w')) :
    MStep P E H G o (fun _ => True) (fun _ => u) (fun _ => H) (fun _ => G) := ms_call0 ho rfl rfl hc
theorem ms_v0 {f : FuncId} {cl : Operand} {tys : Array TypeId} {u : Value} [hf : FN P f] (ho : o.op = .call { callee := .value cl, args := #[], argTypes := tys }) (hcl : opd E cl = some (.func (.func f) #[] #[])) 
    (hc : ∀ base w0 w, WOk base w0 H G w → Calls P f #[] w (fun e w' => e = .returned u ∧ Below w.heap.size w w')) :
    MStep P E H G o (fun _ => True) (fun _ => u) (fun _ => H) (fun _ => G) := ms_call0 ho hcl rfl hc
theorem ms_c1 {f : FuncId} {tys : Array TypeId} {x0 : Operand} {u0 : Value} {Hn : Ys → List HObj} {Gn : Ys → List World} [hf : FN P f] (ho : o.op = .call { callee := .value (.func f), args := #[x0], argTypes := tys }) (h0 : opd E x0 = some u0)
    (hc : ∀ base w0 w, WOk base w0 H G w → Calls P f #[u0] w (fun e w' => ∃ y, e = .returned (v y) ∧ F y ∧ Below w.heap.size w w' ∧ NewOk w.heap.size (Hn y) (Gn y) w')) :
    MStep P E H G o F v (fun y => Hn y ++ H) (fun y => Gn y ++ G)   := ms_call ho rfl (by simp [List.mapM_cons, h0]) hc
theorem ms_s1 {f : FuncId} {tys : Array TypeId} {x0 : Operand} {u0 : Value} {u : Value} [hf : FN P f] (ho : o.op = .call { callee := .value (.func f), args := #[x0], argTypes := tys }) (h0 : opd E x0 = some u0)
    (hc : ∀ base w0 w, WOk base w0 H G w → Calls P f #[u0] w (fun e w' => e = .returned u ∧ Below w.heap.size w w')) :
    MStep P E H G o (fun _ => True) (fun _ => u) (fun _ => H) (fun _ => G) := ms_call0 ho rfl (by simp [List.mapM_cons, h0]) hc
theorem ms_v1 {f : FuncId} {cl : Operand} {tys : Array TypeId} {x0 : Operand} {u0 : Value} {u : Value} [hf : FN P f] (ho : o.op = .call { callee := .value cl, args := #[x0], argTypes := tys }) (hcl : opd E cl = some (.func (.func f) #[] #[])) (h0 : opd E x0 = some u0)
    (hc : ∀ base w0 w, WOk base w0 H G w → Calls P f #[u0] w (fun e w' => e = .returned u ∧ Below w.heap.size w w')) :
    MStep P E H G o (fun _ => True) (fun _ => u) (fun _ => H) (fun _ => G) := ms_call0 ho hcl (by simp [List.mapM_cons, h0]) hc
theorem ms_c2 {f : FuncId} {tys : Array TypeId} {x0 x1 : Operand} {u0 u1 : Value} {Hn : Ys → List HObj} {Gn : Ys → List World} [hf : FN P f] (ho : o.op = .call { callee := .value (.func f), args := #[x0, x1], argTypes := tys }) (h0 : opd E x0 = some u0) (h1 : opd E x1 = some u1)
    (hc : ∀ base w0 w, WOk base w0 H G w → Calls P f #[u0, u1] w (fun e w' => ∃ y, e = .returned (v y) ∧ F y ∧ Below w.heap.size w w' ∧ NewOk w.heap.size (Hn y) (Gn y) w')) :
    MStep P E H G o F v (fun y => Hn y ++ H) (fun y => Gn y ++ G)   := ms_call ho rfl (by simp [List.mapM_cons, h0, h1]) hc
theorem ms_s2 {f : FuncId} {tys : Array TypeId} {x0 x1 : Operand} {u0 u1 : Value} {u : Value} [hf : FN P f] (ho : o.op = .call { callee := .value (.func f), args := #[x0, x1], argTypes := tys }) (h0 : opd E x0 = some u0) (h1 : opd E x1 = some u1)
    (hc : ∀ base w0 w, WOk base w0 H G w → Calls P f #[u0, u1] w (fun e w' => e = .returned u ∧ Below w.heap.size w w')) :
    MStep P E H G o (fun _ => True) (fun _ => u) (fun _ => H) (fun _ => G) := ms_call0 ho rfl (by simp [List.mapM_cons, h0, h1]) hc
theorem ms_v2 {f : FuncId} {cl : Operand} {tys : Array TypeId} {x0 x1 : Operand} {u0 u1 : Value} {u : Value} [hf : FN P f] (ho : o.op = .call { callee := .value cl, args := #[x0, x1], argTypes := tys }) (hcl : opd E cl = some (.func (.func f) #[] #[])) (h0 : opd E x0 = some u0) (h1 : opd E x1 = some u1)
    (hc : ∀ base w0 w, WOk base w0 H G w → Calls P f #[u0, u1] w (fun e w' => e = .returned u ∧ Below w.heap.size w w')) :
    MStep P E H G o (fun _ => True) (fun _ => u) (fun _ => H) (fun _ => G) := ms_call0 ho hcl (by simp [List.mapM_cons, h0, h1]) hc
theorem ms_c3 {f : FuncId} {tys : Array TypeId} {x0 x1 x2 : Operand} {u0 u1 u2 : Value} {Hn : Ys → List HObj} {Gn : Ys → List World} [hf : FN P f] (ho : o.op = .call { callee := .value (.func f), args := #[x0, x1, x2], argTypes := tys }) (h0 : opd E x0 = some u0) (h1 : opd E x1 = some u1) (h2 : opd E x2 = some u2)
    (hc : ∀ base w0 w, WOk base w0 H G w → Calls P f #[u0, u1, u2] w (fun e w' => ∃ y, e = .returned (v y) ∧ F y ∧ Below w.heap.size w w' ∧ NewOk w.heap.size (Hn y) (Gn y) w')) :
    MStep P E H G o F v (fun y => Hn y ++ H) (fun y => Gn y ++ G)   := ms_call ho rfl (by simp [List.mapM_cons, h0, h1, h2]) hc
theorem ms_s3 {f : FuncId} {tys : Array TypeId} {x0 x1 x2 : Operand} {u0 u1 u2 : Value} {u : Value} [hf : FN P f] (ho : o.op = .call { callee := .value (.func f), args := #[x0, x1, x2], argTypes := tys }) (h0 : opd E x0 = some u0) (h1 : opd E x1 = some u1) (h2 : opd E x2 = some u2)
    (hc : ∀ base w0 w, WOk base w0 H G w → Calls P f #[u0, u1, u2] w (fun e w' => e = .returned u ∧ Below w.heap.size w w')) :
    MStep P E H G o (fun _ => True) (fun _ => u) (fun _ => H) (fun _ => G) := ms_call0 ho rfl (by simp [List.mapM_cons, h0, h1, h2]) hc
theorem ms_v3 {f : FuncId} {cl : Operand} {tys : Array TypeId} {x0 x1 x2 : Operand} {u0 u1 u2 : Value} {u : Value} [hf : FN P f] (ho : o.op = .call { callee := .value cl, args := #[x0, x1, x2], argTypes := tys }) (hcl : opd E cl = some (.func (.func f) #[] #[])) (h0 : opd E x0 = some u0) (h1 : opd E x1 = some u1) (h2 : opd E x2 = some u2)
    (hc : ∀ base w0 w, WOk base w0 H G w → Calls P f #[u0, u1, u2] w (fun e w' => e = .returned u ∧ Below w.heap.size w w')) :
    MStep P E H G o (fun _ => True) (fun _ => u) (fun _ => H) (fun _ => G) := ms_call0 ho hcl (by simp [List.mapM_cons, h0, h1, h2]) hc
theorem ms_c4 {f : FuncId} {tys : Array TypeId} {x0 x1 x2 x3 : Operand} {u0 u1 u2 u3 : Value} {Hn : Ys → List HObj} {Gn : Ys → List World} [hf : FN P f] (ho : o.op = .call { callee := .value (.func f), args := #[x0, x1, x2, x3], argTypes := tys }) (h0 : opd E x0 = some u0) (h1 : opd E x1 = some u1) (h2 : opd E x2 = some u2) (h3 : opd E x3 = some u3)
    (hc : ∀ base w0 w, WOk base w0 H G w → Calls P f #[u0, u1, u2, u3] w (fun e w' => ∃ y, e = .returned (v y) ∧ F y ∧ Below w.heap.size w w' ∧ NewOk w.heap.size (Hn y) (Gn y) w')) :
    MStep P E H G o F v (fun y => Hn y ++ H) (fun y => Gn y ++ G)   := ms_call ho rfl (by simp [List.mapM_cons, h0, h1, h2, h3]) hc
theorem ms_s4 {f : FuncId} {tys : Array TypeId} {x0 x1 x2 x3 : Operand} {u0 u1 u2 u3 : Value} {u : Value} [hf : FN P f] (ho : o.op = .call { callee := .value (.func f), args := #[x0, x1, x2, x3], argTypes := tys }) (h0 : opd E x0 = some u0) (h1 : opd E x1 = some u1) (h2 : opd E x2 = some u2) (h3 : opd E x3 = some u3)
    (hc : ∀ base w0 w, WOk base w0 H G w → Calls P f #[u0, u1, u2, u3] w (fun e w' => e = .returned u ∧ Below w.heap.size w w')) :
    MStep P E H G o (fun _ => True) (fun _ => u) (fun _ => H) (fun _ => G) := ms_call0 ho rfl (by simp [List.mapM_cons, h0, h1, h2, h3]) hc
theorem ms_v4 {f : FuncId} {cl : Operand} {tys : Array TypeId} {x0 x1 x2 x3 : Operand} {u0 u1 u2 u3 : Value} {u : Value} [hf : FN P f] (ho : o.op = .call { callee := .value cl, args := #[x0, x1, x2, x3], argTypes := tys }) (hcl : opd E cl = some (.func (.func f) #[] #[])) (h0 : opd E x0 = some u0) (h1 : opd E x1 = some u1) (h2 : opd E x2 = some u2) (h3 : opd E x3 = some u3)
    (hc : ∀ base w0 w, WOk base w0 H G w → Calls P f #[u0, u1, u2, u3] w (fun e w' => e = .returned u ∧ Below w.heap.size w w')) :
    MStep P E H G o (fun _ => True) (fun _ => u) (fun _ => H) (fun _ => G) := ms_call0 ho hcl (by simp [List.mapM_cons, h0, h1, h2, h3]) hc
theorem ms_c5 {f : FuncId} {tys : Array TypeId} {x0 x1 x2 x3 x4 : Operand} {u0 u1 u2 u3 u4 : Value} {Hn : Ys → List HObj} {Gn : Ys → List World} [hf : FN P f] (ho : o.op = .call { callee := .value (.func f), args := #[x0, x1, x2, x3, x4], argTypes := tys }) (h0 : opd E x0 = some u0) (h1 : opd E x1 = some u1) (h2 : opd E x2 = some u2) (h3 : opd E x3 = some u3) (h4 : opd E x4 = some u4)
    (hc : ∀ base w0 w, WOk base w0 H G w → Calls P f #[u0, u1, u2, u3, u4] w (fun e w' => ∃ y, e = .returned (v y) ∧ F y ∧ Below w.heap.size w w' ∧ NewOk w.heap.size (Hn y) (Gn y) w')) :
    MStep P E H G o F v (fun y => Hn y ++ H) (fun y => Gn y ++ G)   := ms_call ho rfl (by simp [List.mapM_cons, h0, h1, h2, h3, h4]) hc
theorem ms_s5 {f : FuncId} {tys : Array TypeId} {x0 x1 x2 x3 x4 : Operand} {u0 u1 u2 u3 u4 : Value} {u : Value} [hf : FN P f] (ho : o.op = .call { callee := .value (.func f), args := #[x0, x1, x2, x3, x4], argTypes := tys }) (h0 : opd E x0 = some u0) (h1 : opd E x1 = some u1) (h2 : opd E x2 = some u2) (h3 : opd E x3 = some u3) (h4 : opd E x4 = some u4)
    (hc : ∀ base w0 w, WOk base w0 H G w → Calls P f #[u0, u1, u2, u3, u4] w (fun e w' => e = .returned u ∧ Below w.heap.size w w')) :
    MStep P E H G o (fun _ => True) (fun _ => u) (fun _ => H) (fun _ => G) := ms_call0 ho rfl (by simp [List.mapM_cons, h0, h1, h2, h3, h4]) hc
theorem ms_v5 {f : FuncId} {cl : Operand} {tys : Array TypeId} {x0 x1 x2 x3 x4 : Operand} {u0 u1 u2 u3 u4 : Value} {u : Value} [hf : FN P f] (ho : o.op = .call { callee := .value cl, args := #[x0, x1, x2, x3, x4], argTypes := tys }) (hcl : opd E cl = some (.func (.func f) #[] #[])) (h0 : opd E x0 = some u0) (h1 : opd E x1 = some u1) (h2 : opd E x2 = some u2) (h3 : opd E x3 = some u3) (h4 : opd E x4 = some u4)
    (hc : ∀ base w0 w, WOk base w0 H G w → Calls P f #[u0, u1, u2, u3, u4] w (fun e w' => e = .returned u ∧ Below w.heap.size w w')) :
    MStep P E H G o (fun _ => True) (fun _ => u) (fun _ => H) (fun _ => G) := ms_call0 ho hcl (by simp [List.mapM_cons, h0, h1, h2, h3, h4]) hc
theorem ms_c6 {f : FuncId} {tys : Array TypeId} {x0 x1 x2 x3 x4 x5 : Operand} {u0 u1 u2 u3 u4 u5 : Value} {Hn : Ys → List HObj} {Gn : Ys → List World} [hf : FN P f] (ho : o.op = .call { callee := .value (.func f), args := #[x0, x1, x2, x3, x4, x5], argTypes := tys }) (h0 : opd E x0 = some u0) (h1 : opd E x1 = some u1) (h2 : opd E x2 = some u2) (h3 : opd E x3 = some u3) (h4 : opd E x4 = some u4) (h5 : opd E x5 = some u5)
    (hc : ∀ base w0 w, WOk base w0 H G w → Calls P f #[u0, u1, u2, u3, u4, u5] w (fun e w' => ∃ y, e = .returned (v y) ∧ F y ∧ Below w.heap.size w w' ∧ NewOk w.heap.size (Hn y) (Gn y) w')) :
    MStep P E H G o F v (fun y => Hn y ++ H) (fun y => Gn y ++ G)   := ms_call ho rfl (by simp [List.mapM_cons, h0, h1, h2, h3, h4, h5]) hc
theorem ms_s6 {f : FuncId} {tys : Array TypeId} {x0 x1 x2 x3 x4 x5 : Operand} {u0 u1 u2 u3 u4 u5 : Value} {u : Value} [hf : FN P f] (ho : o.op = .call { callee := .value (.func f), args := #[x0, x1, x2, x3, x4, x5], argTypes := tys }) (h0 : opd E x0 = some u0) (h1 : opd E x1 = some u1) (h2 : opd E x2 = some u2) (h3 : opd E x3 = some u3) (h4 : opd E x4 = some u4) (h5 : opd E x5 = some u5)
    (hc : ∀ base w0 w, WOk base w0 H G w → Calls P f #[u0, u1, u2, u3, u4, u5] w (fun e w' => e = .returned u ∧ Below w.heap.size w w')) :
    MStep P E H G o (fun _ => True) (fun _ => u) (fun _ => H) (fun _ => G) := ms_call0 ho rfl (by simp [List.mapM_cons, h0, h1, h2, h3, h4, h5]) hc
theorem ms_v6 {f : FuncId} {cl : Operand} {tys : Array TypeId} {x0 x1 x2 x3 x4 x5 : Operand} {u0 u1 u2 u3 u4 u5 : Value} {u : Value} [hf : FN P f] (ho : o.op = .call { callee := .value cl, args := #[x0, x1, x2, x3, x4, x5], argTypes := tys }) (hcl : opd E cl = some (.func (.func f) #[] #[])) (h0 : opd E x0 = some u0) (h1 : opd E x1 = some u1) (h2 : opd E x2 = some u2) (h3 : opd E x3 = some u3) (h4 : opd E x4 = some u4) (h5 : opd E x5 = some u5)
    (hc : ∀ base w0 w, WOk base w0 H G w → Calls P f #[u0, u1, u2, u3, u4, u5] w (fun e w' => e = .returned u ∧ Below w.heap.size w w')) :
    MStep P E H G o (fun _ => True) (fun _ => u) (fun _ => H) (fun _ => G) := ms_call0 ho hcl (by simp [List.mapM_cons, h0, h1, h2, h3, h4, h5]) hc
theorem ms_c7 {f : FuncId} {tys : Array TypeId} {x0 x1 x2 x3 x4 x5 x6 : Operand} {u0 u1 u2 u3 u4 u5 u6 : Value} {Hn : Ys → List HObj} {Gn : Ys → List World} [hf : FN P f] (ho : o.op = .call { callee := .value (.func f), args := #[x0, x1, x2, x3, x4, x5, x6], argTypes := tys }) (h0 : opd E x0 = some u0) (h1 : opd E x1 = some u1) (h2 : opd E x2 = some u2) (h3 : opd E x3 = some u3) (h4 : opd E x4 = some u4) (h5 : opd E x5 = some u5) (h6 : opd E x6 = some u6)
    (hc : ∀ base w0 w, WOk base w0 H G w → Calls P f #[u0, u1, u2, u3, u4, u5, u6] w (fun e w' => ∃ y, e = .returned (v y) ∧ F y ∧ Below w.heap.size w w' ∧ NewOk w.heap.size (Hn y) (Gn y) w')) :
    MStep P E H G o F v (fun y => Hn y ++ H) (fun y => Gn y ++ G)   := ms_call ho rfl (by simp [List.mapM_cons, h0, h1, h2, h3, h4, h5, h6]) hc
theorem ms_s7 {f : FuncId} {tys : Array TypeId} {x0 x1 x2 x3 x4 x5 x6 : Operand} {u0 u1 u2 u3 u4 u5 u6 : Value} {u : Value} [hf : FN P f] (ho : o.op = .call { callee := .value (.func f), args := #[x0, x1, x2, x3, x4, x5, x6], argTypes := tys }) (h0 : opd E x0 = some u0) (h1 : opd E x1 = some u1) (h2 : opd E x2 = some u2) (h3 : opd E x3 = some u3) (h4 : opd E x4 = some u4) (h5 : opd E x5 = some u5) (h6 : opd E x6 = some u6)
    (hc : ∀ base w0 w, WOk base w0 H G w → Calls P f #[u0, u1, u2, u3, u4, u5, u6] w (fun e w' => e = .returned u ∧ Below w.heap.size w w')) :
    MStep P E H G o (fun _ => True) (fun _ => u) (fun _ => H) (fun _ => G) := ms_call0 ho rfl (by simp [List.mapM_cons, h0, h1, h2, h3, h4, h5, h6]) hc
theorem ms_v7 {f : FuncId} {cl : Operand} {tys : Array TypeId} {x0 x1 x2 x3 x4 x5 x6 : Operand} {u0 u1 u2 u3 u4 u5 u6 : Value} {u : Value} [hf : FN P f] (ho : o.op = .call { callee := .value cl, args := #[x0, x1, x2, x3, x4, x5, x6], argTypes := tys }) (hcl : opd E cl = some (.func (.func f) #[] #[])) (h0 : opd E x0 = some u0) (h1 : opd E x1 = some u1) (h2 : opd E x2 = some u2) (h3 : opd E x3 = some u3) (h4 : opd E x4 = some u4) (h5 : opd E x5 = some u5) (h6 : opd E x6 = some u6)
    (hc : ∀ base w0 w, WOk base w0 H G w → Calls P f #[u0, u1, u2, u3, u4, u5, u6] w (fun e w' => e = .returned u ∧ Below w.heap.size w w')) :
    MStep P E H G o (fun _ => True) (fun _ => u) (fun _ => H) (fun _ => G) := ms_call0 ho hcl (by simp [List.mapM_cons, h0, h1, h2, h3, h4, h5, h6]) hc
end
def inB (x a b : Int) : Bool := decide (a ≤ x) && decide (x ≤ b)
theorem inB_true (x a b : Int) : (inB x a b = true) = (a ≤ x ∧ x ≤ b) := by simp [inB]
theorem inB_false (x a b : Int) : (inB x a b = false) = (x < a ∨ b < x) := by simp [inB]; constructor <;> omega
theorem rds_rf {H : List HObj} {G : List World} {A : Option Addr} {us : List Value} {m : World} (h : Rd m A us) (hm : m ∈ G) : Rds H G A us := rds_ref hm h
theorem ps_indexN {P : Program} {E : Env} {H : List HObj} {G : List World} {o : Oper} {x y : Operand} {t e sz bytes : TypeId} {A : Option Addr} {n c i : Nat} {k : IntKind} [ht : EL P t e sz bytes] (ho : o.op = .indexAddr t x y) (hx : opd E x = some (.slice A n c)) (hy : opd E y = some (.int k (i : Int))) (h : i < n) (hA : IsSW H G A) : PStep P E H G o (pt A (i * sz)) := by
  have := ps_index (P := P) (H := H) (G := G) ho hx hy (by omega) hA
  rwa [Int.toNat_natCast] at this
theorem isS_fl {α : Type} [Dat α] {m : World} {A : Option Addr} {l : List α} (h : Rd m A (fl l)) (hl : 0 < l.length) (hz : 0 < Dat.sz α := by decide) : IsS A := isS_rd h (by rw [fl_len]; exact Nat.mul_pos hl hz)

end Go.Proofs.Ytojgphgfhapacaa
