/- The engine: operations that make or write memory, and calls. -/
import Derived.Test.YtojgphgfhapacaaEng3
import Derived.Laws.OwnMore
namespace Go.Proofs.Ytojgphgfhapacaa
open Go.RowKit
set_option linter.unusedVariables false
set_option linter.unusedSimpArgs false
def MStep (P : Program) (E : Env) (H : List HObj) (G : List World) (o : Oper) (F : Ys → Prop) (v : Ys → Value) (H' : Ys → List HObj) (G' : Ys → List World) : Prop :=
  ∀ N base w0 a w Q (K : Act → World → Prop), EnvOk N E a → WOk base w0 H G w → (∀ y w', F y → WOk base w0 (H' y) (G' y) w' → K (a.put o.dst (v y)) w') → o.wp P a w K Q
def mkY (A : Option Addr) (c : Nat) (w : World) : Ys := fun _ => ⟨A, c, w, 0⟩
def mkN (n : Int) (w : World) : Ys := fun _ => ⟨none, 0, w, n⟩
def yl (l : List Ya) (d : Ya) : Ys := fun i => l.getD i d
theorem NewOk.one {L : Nat} {x : HObj} {w : World} (h : x.holds L w) : NewOk L [x] [] w := ⟨fun y hy => by
  rcases List.mem_singleton.1 hy with rfl
  exact h, by simp, (fun m h => (by cases h))⟩
section
variable {P : Program} {N base : Nat} {w0 : World} {E : Env} {H : List HObj} {G : List World} {Q : Exit → Act → World → Prop} {o : Oper} {rest : List Oper} {ops : Array Oper} {F : Ys → Prop} {v : Ys → Value} {H' : Ys → List HObj} {G' : Ys → List World}
theorem ok_m (hg : o.guard = none) {td : Nat} (hdt : o.dst = some td) (hd : Nat.blt td N = true) (hs : MStep P E H G o F v H' G') (h : ∀ y, F y → Ok N base w0 ((td, v y) :: E) (H' y) (G' y) (wpList P ops Q rest)) :
    Ok N base w0 E H G (wpList P ops Q (o :: rest)) := fun a w he hw => by
  refine wpList_plain hg fun K hK => ?_
  exact hs N base w0 a w Q K he hw fun y w' hF hw' => hK _ _ (h y hF _ _ (he.put' hdt hd _) hw')
theorem ok_m_ (hg : o.guard = none) (hd : o.dst = none) (hs : MStep P E H G o F v H' G') (h : ∀ y, F y → Ok N base w0 E (H' y) (G' y) (wpList P ops Q rest)) :
    Ok N base w0 E H G (wpList P ops Q (o :: rest)) := fun a w he hw => by
  refine wpList_plain hg fun K hK => ?_
  exact hs N base w0 a w Q K he hw fun y w' hF hw' => hK _ _ (h y hF _ _ (he.put0 hd _) hw')
/-- A guard that is known. -/
theorem ok_m_yes {j d : Nat} {want c p : Bool} (hg : o.guard = some (j, want)) (hj : (ops[j]?).bind (·.dst) = some d) (hv : look E d = some (gv p (.bool c))) (hp : (p && (c == want)) = true) {td : Nat} (hdt : o.dst = some td) (hd : Nat.blt td N = true) (hs : MStep P E H G o F v H' G')
    (h : ∀ y, F y → Ok N base w0 ((td, v y) :: E) (H' y) (G' y) (wpList P ops Q rest)) : Ok N base w0 E H G (wpList P ops Q (o :: rest)) := fun a w he hw => by
  refine wpList_step fun K hK => ?_
  rw [wanted_of he hg hj hv, hp, if_pos rfl]
  exact hs N base w0 a w Q K he hw fun y w' hF hw' => hK _ _ (h y hF _ _ (he.put' hdt hd _) hw')
theorem ok_m_no {j d : Nat} {want c p : Bool} (hg : o.guard = some (j, want)) (hj : (ops[j]?).bind (·.dst) = some d) (hv : look E d = some (gv p (.bool c))) (hp : (p && (c == want)) = false) {td : Nat} (hdt : o.dst = some td) (hd : Nat.blt td N = true)
    (h : Ok N base w0 ((td, undef) :: E) H G (wpList P ops Q rest)) : Ok N base w0 E H G (wpList P ops Q (o :: rest)) := fun a w he hw => by
  refine wpList_step fun K hK => ?_
  rw [wanted_of he hg hj hv, hp, if_neg (by simp)]
  exact hK _ _ (h _ _ (he.put' hdt hd _) hw)
theorem ms_of {v0 : Value} (h : ∀ N base w0 a w, EnvOk N E a → WOk base w0 H G w → ∃ y w', F y ∧ (execOp a.eval o).run P w = .ok (.value (v y)) w' ∧ WOk base w0 (H' y) (G' y) w') : MStep P E H G o F v H' G' := fun N base w0 a w Q K he hw hK => by
  obtain ⟨y, w', hF, hr, hw'⟩ := h N base w0 a w he hw
  unfold Oper.wp; rw [hr]; exact hK y w' hF hw'
theorem wok_new {w : World} (hw : WOk base w0 H G w) (e : TypeId) (cs : List Value) {sz n : Nat} : WOk base w0 (.box w.heap.size e cs :: H) G (w.alloc (.cells cs.toArray e)) :=
  hw.grow (Hn := [.box w.heap.size e cs]) (Gn := []) ((Below.refl _ _).alloc (Nat.le_refl _) _)
    (NewOk.one ⟨Nat.le_refl _, heap_alloc_new w _⟩)
theorem wok_new_row {w : World} (hw : WOk base w0 H G w) (e sz n : Nat) (us : List Value) (hl : us.length = n * sz) (hm : n ≤ maxLen) : WOk base w0 (.row e sz (ga w.heap.size) n n us :: H) G (w.alloc (.cells us.toArray e)) :=
  hw.grow (Hn := [.row e sz (ga w.heap.size) n n us]) (Gn := []) ((Below.refl _ _).alloc (Nat.le_refl _) _)
    (NewOk.one ⟨hl, .inr ⟨_, n, us.toArray, rfl, Nat.le_refl _, heap_alloc_new w _, Nat.le_refl _, hm, by simpa using hl, by simp [← hl]⟩⟩)
theorem ms_alloc {t : TypeId} {cs : List Value} [hz : ZV P t cs] (ho : o.op = .alloc t) : MStep P E H G o (fun _ => True) (fun y => pt (ga (y 0).c) 0) (fun y => .box (y 0).c t cs :: H) (fun _ => G) := ms_of (v0 := undef) fun N base w0 a w he hw => by
  refine ⟨mkY none w.heap.size w, w.alloc (.cells cs.toArray t), trivial, ?_, wok_new hw t cs (sz := 0) (n := 0)⟩
  have h := hz.h
  unfold zvB at h
  cases hi : P.info? t with
  | none => simp [hi] at h
  | some i =>
    simp only [hi] at h
    cases hzz : i.zero with
    | none => simp [hzz] at h
    | some z =>
      simp only [hzz, Option.map_some, Option.some.injEq] at h
      simp [execOp, ho, Instr.alloc, zeroValue, typeInfo, hi, hzz, newVar, newRow, newObj, Sem.run, h, pt, ga, mkY, Addr.add]
theorem ms_box {t : TypeId} {x : Operand} {u : Value} {cs : List Value} (ho : o.op = .box t x) (hx : opd E x = some u) (hc : u.cells = cs.toArray) : MStep P E H G o (fun _ => True) (fun y => pt (ga (y 0).c) 0) (fun y => .box (y 0).c t cs :: H) (fun _ => G) := ms_of (v0 := undef) fun N base w0 a w he hw => by
  refine ⟨mkY none w.heap.size w, w.alloc (.cells cs.toArray t), trivial, ?_, wok_new hw t cs (sz := 0) (n := 0)⟩
  simp [execOp, ho, he.eval hx, Instr.box, newVar, newRow, newObj, Sem.run, hc, pt, ga, mkY, Addr.add]
def bsCells (P : Program) (t len : Nat) (vs : List (Nat × Value)) : Option (Array Value) := match P.underlying t with
  | some (.slice e) => match P.info? e with
    | some i => if len * i.size > 2 ^ 24 then none else match (if len * i.size = 0 then some #[] else i.zero.map (·.cells)) with
      | some z => Instr.fill (fun j => some (j * i.size, i.size)) ((Array.range (len * i.size)).map (z[· % z.size]!)) vs
      | none => none
    | none => none
  | _ => none
theorem eval_parts {a : Act} (he : EnvOk N E a) {parts : Array (Nat × Operand)} {vs : List (Nat × Value)} (hp : parts.toList.mapM (fun q => (opd E q.2).map fun v => (q.1, v)) = some vs) : (parts.map fun q => (q.1, a.eval q.2)).toList = vs := by
  rw [Array.toList_map]
  generalize parts.toList = l at hp
  induction l generalizing vs with
  | nil => simp at hp; subst hp; rfl
  | cons q l ih =>
    simp only [List.mapM_cons, Option.bind_eq_bind] at hp
    cases hq : opd E q.2 with
    | none => simp [hq] at hp
    | some v =>
      simp only [hq, Option.map_some, Option.bind_some] at hp
      cases hr : l.mapM (fun q => (opd E q.2).map fun v => (q.1, v)) with
      | none => simp [hr] at hp
      | some r =>
        simp only [hr, Option.bind_some] at hp
        cases hp
        rw [List.map_cons, he.eval hq, ih hr]
theorem ms_bslice {t e sz bytes len : Nat} {parts : Array (Nat × Operand)} {vs : List (Nat × Value)} {us : List Value} [ht : EL P t e sz bytes] (ho : o.op = .buildSlice t len parts) (hp : parts.toList.mapM (fun q => (opd E q.2).map fun v => (q.1, v)) = some vs)
    (hb : bsCells P t len vs = some us.toArray) (hl : us.length = len * sz) (hm : len ≤ 16777216) : MStep P E H G o (fun _ => True) (fun y => .slice (ga (y 0).c) len len) (fun y => .row e sz (ga (y 0).c) len len us :: H) (fun _ => G) := ms_of (v0 := undef) fun N base w0 a w he hw => by
  refine ⟨mkY none w.heap.size w, w.alloc (.cells us.toArray e), trivial, ?_, wok_new_row hw e sz len us hl (by simp only [maxLen]; omega)⟩
  have hpp := eval_parts he hp
  obtain ⟨hu, _, i, z, hi, hz, hs, _, _⟩ := ht.h
  unfold bsCells at hb
  simp only [hu, hi] at hb
  split at hb
  · cases hb
  rename_i hle
  simp only [execOp, ho, Instr.buildSlice, Sem.run_bind, run_underlying hu, Result.andThen_ok, sizeOf, typeInfo, run_program, hi, Sem.run_pure, if_neg hle, hpp]
  by_cases h0 : len * i.size = 0
  · simp only [h0, if_true] at hb
    simp at hb
    simp [h0, hb, newRow, newObj, Sem.run, ga, mkY]
  · simp only [h0, if_false, hz, Option.map_some] at hb
    simp [h0, zeroValue, typeInfo, hi, hz, hb, newRow, newObj, Sem.run, ga, mkY]
theorem ms_make {t e sz bytes : Nat} {x y : Operand} {n : Nat} {k k' : IntKind} {z : List Value} [ht : EL P t e sz bytes] [hz : ZV P e z] (ho : o.op = .makeSlice t x y) (hx : opd E x = some (.int k (n : Int))) (hy : opd E y = some (.int k' (n : Int))) (hb : bytes * n ≤ 140737488355328) (hn : n ≤ 140737488355328) :
    MStep P E H G o (fun _ => True) (fun y => .slice (ga (y 0).c) n n) (fun y => .row e sz (ga (y 0).c) n n (madeCells z.toArray (n * sz)).toList :: H) (fun _ => G) := ms_of (v0 := undef) fun N base w0 a w he hw => by
  obtain ⟨hu, _, i, zz, hi, hzz, hs, hby, _⟩ := ht.h
  have hz1 : zz.cells = z.toArray := by
    have := hz.h
    unfold zvB at this
    simpa [hi, hzz] using this
  obtain ⟨w', hr, hown, hgr⟩ := run_make_full (P := P) w w.heap.size t e i zz sz hu hi hzz hs k k' n (by rw [hby]; omega) (by simp only [maxLen]; omega) (Nat.le_refl _)
  rw [hz1] at hown
  refine ⟨mkY none w.heap.size w, w', trivial, ?_, ?_⟩
  · simp only [execOp, ho, he.eval hx, he.eval hy, Sem.run_bind, hr, Result.andThen_ok, Sem.run_pure]; rfl
  · exact hw.grow (Hn := [.row e sz (ga w.heap.size) n n _]) (Gn := []) ⟨hgr.os, hgr.tape, hgr.output, hgr.size, fun j hj => hgr.block j hj (by simp)⟩ (NewOk.one hown)
def putC (cs : List Value) (k : Nat) (vs : List Value) : List Value := cs.take k ++ vs ++ cs.drop (k + vs.length)
theorem ms_store {t g e k sz : Nat} {ag : Bool} {x y : Operand} {u : Value} {cs vs : List Value} (i : Nat) [hl : LD P t sz ag] (ho : o.op = .store t x y) (hx : opd E x = some (pt (ga g) k)) (hy : opd E y = some u) (hv : u.cells = vs.toArray) (hn : vs.length = sz) (h1 : vs.all (·.oneCell') = true)
    (hi : H[i]? = some (.box g e cs)) (hkb : Nat.ble (k + vs.length) cs.length = true) : MStep P E H G o (fun _ => True) (fun _ => undef) (fun _ => H.set i (.box g e (putC cs k vs))) (fun _ => G) := fun N base w0 a w Q K he hw hK => by
  have hk := Nat.le_of_ble_eq_true hkb
  obtain ⟨hb, hh⟩ := hw.own _ (List.mem_of_getElem? hi)
  have hst := run_storeCells_at P g k e vs 0 cs.toArray w hh (by simpa using hk) (by simpa using h1)
  have hsz : (sizeOf t).run P w = .ok sz w := by
    have h := hl.h
    unfold ldB at h
    split at h <;> first | (injection h with h; injection h with h1 h2; rename_i hi; simp [sizeOf, typeInfo, hi, h1]) | cases h
  have hlen : u.cells.size = sz := by rw [hv]; simpa using hn
  have hrun : (execOp a.eval o).run P w = .ok .skip (w.setRow g (putC cs k vs).toArray) := by
    simp only [Nat.add_zero] at hst
    simp [execOp, ho, he.eval hx, he.eval hy, pt, ga, Instr.storeAt, Instr.sureAddr, storeVar, hsz, hlen, hn, ga_add, hv, hst, putC]
  unfold Oper.wp; rw [hrun]
  refine hK (mkY none 0 w) _ trivial (hw.turn (x := .box g e cs) hi (r := some g) ?_ (fun k hk => by cases hk; rfl) ⟨hb, setRow_heap w g _ _ e _ hh⟩ (fun j hj => .inl hj))
  exact ⟨rfl, rfl, rfl, by simp, fun j _ hj => setRow_other w g j _ (fun e => hj (by simp [e]))⟩
theorem ms_store_row {t g e k sz rsz n c : Nat} {ag : Bool} {A : Option Addr} {x y : Operand} {u : Value} {us vs : List Value} (i : Nat) [hl : LD P t sz ag] (ho : o.op = .store t x y) (hx : opd E x = some (pt A k)) (hy : opd E y = some u) (hv : u.cells = vs.toArray) (hn : vs.length = sz) (h1 : vs.all (·.oneCell') = true) (h0 : 0 < sz)
    (hi : H[i]? = some (.row e rsz A n c us)) (hk : k + vs.length ≤ us.length) : MStep P E H G o (fun _ => True) (fun _ => undef) (fun _ => H.set i (.row e rsz A n c (putC us k vs))) (fun _ => G) := fun N base w0 a w Q K he hw hK => by
  have hown := hw.own _ (List.mem_of_getElem? hi)
  obtain ⟨hlen, ⟨hA, hn0⟩ | ⟨g, cap, cur, hA, hb, hh, hnc, hcm, hcs, htk⟩⟩ := hown
  · subst hn0; have h3 : us.length = 0 := by rw [hlen, Nat.zero_mul]
    omega
  injection hA with hA hA2 hA3
  subst hA; subst hA3
  have hcl : n * rsz ≤ cur.size := by rw [hcs]; exact Nat.mul_le_mul_right _ hnc
  have hst := run_storeCells_at P g k e vs 0 cur w hh (by simp; omega) (by simpa using h1)
  have hsz : (sizeOf t).run P w = .ok sz w := by
    have h := hl.h
    unfold ldB at h
    split at h <;> first | (injection h with h; injection h with h1 h2; rename_i hi; simp [sizeOf, typeInfo, hi, h1]) | cases h
  have hlen2 : u.cells.size = sz := by rw [hv]; simpa using hn
  have hrun : (execOp a.eval o).run P w = .ok .skip (w.setRow g (putC cur.toList k vs).toArray) := by
    simp only [Nat.add_zero] at hst
    simp [execOp, ho, he.eval hx, he.eval hy, pt, Instr.storeAt, Instr.sureAddr, storeVar, hsz, hlen2, hn, ga_add, hv, hst, putC]
  unfold Oper.wp; rw [hrun]
  have hpl : ∀ (l : List Value), k + vs.length ≤ l.length → (putC l k vs).length = l.length := fun l hl => by simp [putC]; omega
  have hcur : k + vs.length ≤ cur.toList.length := by simp; omega
  refine hK (mkY none 0 w) _ trivial (hw.turn (x := .row e rsz (some ⟨g, 0, none⟩) n c us) hi (r := some g) ?_ (fun k hk => by cases hk; rfl) ⟨by rw [hpl us hk, hlen], .inr ⟨g, c, _, rfl, hb, setRow_heap w g _ _ e _ hh, hnc, hcm, ?_, ?_⟩⟩ (fun j hj => .inl hj))
  · exact ⟨rfl, rfl, rfl, by simp, fun j _ hj => setRow_other w g j _ (fun e => hj (by simp [e]))⟩
  · simp only [List.size_toArray]; rw [hpl _ hcur]; simpa using hcs
  · rw [← htk]
    simp only [putC]
    rw [← htk] at hk
    simp only [List.length_take] at hk
    apply List.ext_getElem?
    intro j
    simp only [List.getElem?_take, List.getElem?_append, List.length_append, List.length_take, List.getElem?_drop]
    repeat' split
    all_goals first | rfl | omega | (congr 1; omega) | skip
    all_goals simp_all <;> omega
end
end Go.Proofs.Ytojgphgfhapacaa
