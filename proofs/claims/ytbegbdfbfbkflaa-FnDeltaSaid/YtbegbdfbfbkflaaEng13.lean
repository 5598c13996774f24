/- The engine: rows whose cells are all known, copies into them, rows grown by zeros; slices.overlaps. -/
import Derived.Test.YtbegbdfbfbkflaaEng12
import Derived.Test.YtbegbdfbfbkflaaCch
import Derived.Lib.AppendZerosOnto
import Derived.Lib.Overlaps
namespace Go.Proofs.Ytbegbdfbfbkflaa
open Go.RowKit
set_option linter.unusedVariables false
set_option linter.unusedSimpArgs false
section
variable {base : Nat} {w0 w : World} {H : List HObj} {G : List World}
theorem WOk.rowBox {e sz n c : Nat} {A : Option Addr} {us : List Value} (hw : WOk base w0 (.row e sz A n c us :: H) G w) (h0 : 0 < n) : ∃ g cur, A = ga g ∧ cur.length = c * sz ∧ c ≤ maxLen ∧ n ≤ c ∧ cur.take (n * sz) = us ∧ WOk base w0 (.box g e cur :: H) G w := by
  obtain ⟨hlen, ⟨hA, hn0⟩ | ⟨g, cap, cur, hA, hb, hh, hnc, hcm, hcs, htk⟩⟩ := hw.own _ List.mem_cons_self
  · omega
  · injection hA with hA hA2 hA3
    subst hA; subst hA3
    refine ⟨g, cur.toList, rfl, by simpa using hcs, hcm, hnc, htk, ?_⟩
    exact hw.turn (i := 0) (x' := .box g e cur.toList) rfl (r := none) (World.grownBy.refl w _) (fun k hk => by cases hk) ⟨hb, by simpa using hh⟩ (fun k hk => .inl (by cases hk; rfl))
theorem WOk.boxRow {e sz n c g : Nat} {cs us : List Value} (hw : WOk base w0 (.box g e cs :: H) G w) (hcs : cs.length = c * sz) (hcm : c ≤ maxLen) (hn : n ≤ c) (hu : cs.take (n * sz) = us) : WOk base w0 (.row e sz (ga g) n c us :: H) G w := by
  obtain ⟨hb, hh⟩ := hw.own _ List.mem_cons_self
  have hl : n * sz ≤ c * sz := Nat.mul_le_mul_right _ hn
  refine hw.turn (i := 0) (x' := .row e sz (ga g) n c us) rfl (r := none) (World.grownBy.refl w _) (fun k hk => by cases hk) ⟨by rw [← hu, List.length_take, hcs]; omega, .inr ⟨g, c, cs.toArray, rfl, hb, hh, hn, hcm, by simpa using hcs, by simpa using hu⟩⟩ (fun k hk => .inl (by cases hk; rfl))
end
section
variable {P : Program} {N base : Nat} {w0 : World} {E : Env} {H : List HObj} {G : List World} {Q : Exit → Act → World → Prop} {o : Oper}
theorem rds_take {A : Option Addr} {us : List Value} (h : Rds H G A us) (k : Nat) : Rds H G A (us.take k) := fun base w0 w hw j u hu => by
  rw [List.getElem?_take] at hu
  split at hu
  · exact h base w0 w hw j u hu
  · cases hu
theorem first_of {A : Option Addr} {us : List Value} {w : World} {sz i c : Nat} (hr : Rd w A us) (hl : us.length = i * sz) (hs : 0 < sz) : (Builtin.firstCells sz i (.slice A i c)).run P w = .ok us.toArray w := by
  rcases A with _ | ad
  · have hn : us = [] := by
      rcases us with _ | ⟨u, l⟩
      · rfl
      · obtain ⟨ad, e, _⟩ := hr 0 u rfl; cases e
    subst hn; exact run_firstCells_none w sz i i c
  · exact run_firstCells_some w sz i ad i c us hl (fun j v hv => by obtain ⟨ad', e, h⟩ := hr j v hv; cases e; exact h)
theorem first_of' {A : Option Addr} {us : List Value} {w : World} {sz i n c : Nat} (hr : Rd w A us) (hl : us.length = i * sz) (hs : 0 < sz) (h0 : 0 < i) : (Builtin.firstCells sz i (.slice A n c)).run P w = .ok us.toArray w := by
  rcases A with _ | ad
  · have hp := Nat.mul_pos h0 hs
    rcases us with _ | ⟨u, l⟩
    · simp at hl; omega
    · obtain ⟨ad, e, _⟩ := hr 0 u rfl; cases e
  · exact run_firstCells_some w sz i ad n c us hl (fun j v hv => by obtain ⟨ad', e, h⟩ := hr j v hv; cases e; exact h)
def zz (z : List Value) (n : Nat) : List Value := (Builtin.zeroCells z.toArray n).toList
theorem zz_len (z : List Value) (n : Nat) : (zz z n).length = n * z.length := by simp [zz, Builtin.zeroCells]
/-- append of zeros where no room is: a new row, all of it known. -/
theorem ms_appZ {t tn e sz bytes i c n : Nat} {A : Option Addr} {x y' : Operand} {us z : List Value} {k kn : IntKind} [ht : EL P t e sz bytes] [hk : IK P tn kn] [hz : ZV P e z] (ho : o.op = .call { callee := .builtin .append, args := #[x, y'], argTypes := #[t, tn] })
    (hx : opd E x = some (.slice A i c)) (hy : opd E y' = some (.int k (n : Int))) (hr : Rds H G A us) (hl : us.length = i * sz) (h0 : 0 < n) (hg : c < i + n) (hb : (i + n) * bytes ≤ 140737488355328) (hm : i + n ≤ 140737488355328) :
    MStep P E H G o (fun y => i + n ≤ (y 1).c ∧ (y 1).c ≤ maxLen) (fun y => .slice (ga (y 0).c) (i + n) (y 1).c) (fun y => .box (y 0).c e ((us ++ zz z n) ++ zz z ((y 1).c - (i + n))) :: H) (fun _ => G) := fun N base w0 a w Q K he hw hK => by
  obtain ⟨hu, hz0, inf, zv, hi, hzv, hs, hby, hzs⟩ := ht.h
  have hz1 : zv.cells = z.toArray := by
    have := hz.h
    unfold zvB at this
    simpa [hi, hzv] using this
  have hold : (Builtin.firstCells inf.size i (.slice A i c)).run P w.drew = .ok us.toArray w.drew := by
    rw [hs]; exact first_of (hr base w0 w.drew hw.drew) hl hz0
  have hnb : n * inf.bytes ≤ 281474976710656 := by
    rw [hby]
    have : n * bytes ≤ (i + n) * bytes := Nat.mul_le_mul_right _ (by omega)
    omega
  have hrun := Lib.run_append_grow_zeros (P := P) w t tn o.type e inf zv k kn hu hk.h hi hzv A i c us hold n h0 (by omega) hg (by omega) hnb (by rw [hby]; exact growslice_fits hg hb)
  rw [hz1] at hrun
  have hr' : (execOp a.eval o).run P w = .ok (.value (.slice (some ⟨w.heap.size, 0, none⟩) (i + n) (grownCap w (i + n) c e))) (w.drew.alloc (.cells (((us ++ zz z n) ++ zz z (grownCap w (i + n) c e - (i + n))).toArray) e)) := by
    unfold execOp
    simp only [ho, resolve, invoke, builtin, Sem.run_bind, Sem.run_pure, Result.andThen_ok, List.map_toArray, List.map_cons, List.map_nil, he.eval hx, he.eval hy, hrun]
    congr 3
    congr 1
    apply Array.ext'
    simp [zz]
  unfold Oper.wp; rw [hr']
  exact hK (mkY2 w.heap.size (grownCap w (i + n) c e) w) _ ⟨grownCap_ge w _ _ _, grownCap_le_maxLen w _ _ _ (by unfold maxLen; omega)⟩ (wok_new (sz := sz) (n := n) hw.drew e _)
/-- copy into a block whose cells are all known. -/
theorem ms_copyB {t e sz bytes g q m c1 n2 c2 k : Nat} {A2 B : Option Addr} {x y : Operand} {cs us : List Value} (r : Nat) [ht : EL P t e sz bytes] (ho : o.op = .call { callee := .builtin .copy, args := #[x, y], argTypes := #[t, t] })
    (hx : opd E x = some (.slice B m c1)) (hB : B = (ga g).map (·.add (q * sz))) (hy : opd E y = some (.slice A2 n2 c2)) (hi : H[r]? = some (.box g e cs)) (hr : Rds H G A2 us) (hk : Nat.min n2 m = k) (hl : us.length = k * sz) (h1 : ∀ u ∈ us, u.oneCell' = true) (hfit : q * sz + us.length ≤ cs.length) (h0 : 0 < k) :
    MStep P E H G o (fun _ => True) (fun _ => .int .i64 (k : Int)) (fun _ => H.set r (.box g e (putC cs (q * sz) us))) (fun _ => G) := fun N base w0 a w Q K he hw hK => by
  obtain ⟨hb, hh⟩ := hw.own _ (List.mem_of_getElem? hi)
  obtain ⟨hu, hz0, inf, z, hii, hz, hss, hby, hzs⟩ := ht.h
  have hst := run_storeCells_at P g (q * sz) e us 0 cs.toArray w hh (by simpa using hfit) h1
  have hfc := first_of' (P := P) (n := n2) (c := c2) (hr base w0 w hw) hl hz0 h0
  simp only [Nat.add_zero] at hst
  have hBe : B = some ⟨g, q * sz, none⟩ := by
    rw [hB]; show some ((⟨g, 0, none⟩ : Addr).add (q * sz)) = _; rw [ga_add]
  subst hBe
  have hrun : (Builtin.copy_ #[t, t] o.type #[.slice (some ⟨g, q * sz, none⟩) m c1, .slice A2 n2 c2]).run P w = .ok (.int .i64 k) (w.setRow g (putC cs (q * sz) us).toArray) := by
    simp [Builtin.copy_, run_underlying hu, Builtin.lenOf, sizeOf, typeInfo, hii, hss, hk, hfc, hst, putC, goInt]
  have hr' : (execOp a.eval o).run P w = .ok (.value (.int .i64 k)) (w.setRow g (putC cs (q * sz) us).toArray) := by
    unfold execOp
    simp only [ho, resolve, invoke, builtin, Sem.run_bind, Sem.run_pure, Result.andThen_ok, List.map_toArray, List.map_cons, List.map_nil, he.eval hx, he.eval hy, hrun]
  unfold Oper.wp; rw [hr']
  refine hK (mkY none 0 w) _ trivial (hw.turn (x := .box g e cs) hi (r := some g) ?_ (fun k hk => by cases hk; rfl) ⟨hb, setRow_heap w g _ _ e _ hh⟩ (fun j hj => .inl hj))
  exact ⟨rfl, rfl, rfl, by simp, fun j _ hj => setRow_other w g j _ (fun e => hj (by simp [e]))⟩
theorem ps_capS {x : Operand} {t e sz bytes : TypeId} {A : Option Addr} {n c : Nat} [ht : EL P t e sz bytes] (ho : o.op = .call { callee := .builtin .cap, args := #[x], argTypes := #[t] }) (hx : opd E x = some (.slice A n c)) : PStep P E H G o (.int .i64 (c : Int)) := fun N base w0 a w he hw => by
  simp [execOp, ho, resolve, invoke, builtin, Builtin.cap_, he.eval hx, run_underlying ht.h.1, goInt]
end
/-- What an insertion leaves, in cells. -/
theorem putC_app (P Z X : List Value) : putC (P ++ Z) P.length X = P ++ X ++ Z.drop X.length := by
  unfold putC
  rw [List.take_left, List.drop_append, List.drop_of_length_le (by omega), List.nil_append, Nat.add_sub_cancel_left]
theorem ins_grow {P Z X D : List Value} {p x n : Nat} (hp : P.length = p) (hx : X.length = x) (hn : p + x + D.length = n) : (putC (putC (P ++ Z) p X) (p + x) D).take n = P ++ X ++ D := by
  subst hp hx hn
  rw [putC_app, show P.length + X.length = (P ++ X).length by rw [List.length_append], putC_app]
  exact List.take_left' (by rw [List.length_append])
theorem ins_place {C P X D : List Value} {p x n : Nat} (hP : C.take p = P) (hp : p + x + D.length ≤ C.length) (hx : X.length = x) (hn : p + x + D.length = n) : (putC (putC C (p + x) D) p X).take n = P ++ X ++ D := by
  subst hx hn
  have hpl : P.length = p := by rw [← hP, List.length_take]; omega
  have e0 : C = P ++ C.drop p := by rw [← hP, List.take_append_drop]
  have e1 : putC C (p + X.length) D = P ++ ((C.drop p).take X.length ++ D ++ C.drop (p + X.length + D.length)) := by
    unfold putC
    rw [List.take_add, hP]
    simp only [List.append_assoc]
  subst hpl
  rw [e1, putC_app]
  have e2 : ((C.drop P.length).take X.length ++ D ++ C.drop (P.length + X.length + D.length)).drop X.length = D ++ C.drop (P.length + X.length + D.length) := by
    rw [List.append_assoc]
    exact List.drop_left' (by rw [List.length_take, List.length_drop]; omega)
  rw [e2, ← List.append_assoc]
  exact List.take_left' (by simp only [List.length_append])
end Go.Proofs.Ytbegbdfbfbkflaa
