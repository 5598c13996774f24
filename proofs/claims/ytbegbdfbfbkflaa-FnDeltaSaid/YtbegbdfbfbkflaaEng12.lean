/- The engine: the bytes of a string, in a row of its own. -/
import Derived.Test.YtbegbdfbfbkflaaEng11
import Derived.Laws.IdiomStrings
import Derived.Lib.AppendStr
namespace Go.Proofs.Ytbegbdfbfbkflaa
open Go.RowKit
set_option linter.unusedVariables false
set_option linter.unusedSimpArgs false
def mkY2 (g c : Nat) (w : World) : Ys := fun i => if i = 0 then ⟨none, g, w, 0⟩ else ⟨none, c, w, 0⟩
def zcs (L : List UInt8) (c : Nat) : List Value := byteVs L ++ List.replicate (c - L.length) (.int .u8 0)
theorem zcs_len (L : List UInt8) (c : Nat) (h : L.length ≤ c) : (zcs L c).length = c := by simp [zcs, byteVs]; omega
theorem zcs_set (L : List UInt8) (c j : Nat) (v : UInt8) (hj : j < L.length) : (zcs L c).set j (.int .u8 (v.toNat : Int)) = zcs (L.set j v) c := by
  unfold zcs
  rw [List.set_append_left _ _ (by simpa [byteVs] using hj), List.length_set]
  congr 1
  unfold byteVs
  rw [List.map_set]
/-- The zero value is the byte 0. -/
class ZB (P : Program) (e : TypeId) : Prop where h : (P.info? e).bind (·.zero) = some (.int .u8 0)
section
variable {P : Program} {N base : Nat} {w0 : World} {E : Env} {H : List HObj} {G : List World} {Q : Exit → Act → World → Prop} {o : Oper}
theorem rds_zrow {g e : Nat} {cs : List Value} {fz : Nat × Nat} (i : Nat) (hi : H[i]? = some (.zrow g e cs fz)) : Rds H G (ga g) cs := fun base w0 w hw j u hu => by
  have := (hw.own _ (List.mem_of_getElem? hi)).2
  refine ⟨_, rfl, ?_⟩
  rw [ga_add, cell_of_row _ _ j _ _ _ this]
  simpa using hu
theorem rds_zcs {g e c : Nat} {L : List UInt8} {fz : Nat × Nat} (i : Nat) (hi : H[i]? = some (.zrow g e (zcs L c) fz)) : Rds H G (ga g) (byteVs L) := fun base w0 w hw => by
  have h := (rds_zrow i hi base w0 w hw).take L.length
  have e : (zcs L c).take L.length = byteVs L := by
    unfold zcs
    rw [List.take_append_of_le_length (by simp [byteVs]), List.take_of_length_le (by simp [byteVs])]
  rwa [e] at h
theorem ms_bytes {x : Operand} {s t e : TypeId} {b : ByteArray} {sz bytes : Nat} [ht : EL P t e sz bytes] [hk : IK P e .u8] [hs : SS P s] (ho : o.op = .convert s t x) (hx : opd E x = some (.string b)) :
    MStep P E H G o (fun y => b.size ≤ (y 1).c) (fun y => .slice (ga (y 0).c) b.size (y 1).c) (fun y => .zrow (y 0).c e (zcs b.data.toList (y 1).c) ((y 1).c, (y 1).c + 1) :: H) (fun _ => G) := ms_of (v0 := undef) fun N base w0 a w he hw => by
  have hr := run_bytes_of_string (P := P) w s t e b hs.h ht.h.1 hk.h
  have hle : b.size ≤ grownCap w b.size 0 e := grownCap_ge w b.size 0 e
  have hbs : (bytesRow b (grownCap w b.size 0 e)) = (zcs b.data.toList (grownCap w b.size 0 e)).toArray := by
    apply Array.ext'
    simp [bytesRow, zcs, byteVs]
  have hsz : (bytesRow b (grownCap w b.size 0 e)).size = grownCap w b.size 0 e := by
    rw [hbs]; simp only [List.size_toArray]; exact zcs_len _ _ hle
  rw [hsz, hbs] at hr
  refine ⟨mkY2 w.heap.size (grownCap w b.size 0 e) w, w.drew.alloc (.cells (zcs b.data.toList (grownCap w b.size 0 e)).toArray e (grownCap w b.size 0 e, grownCap w b.size 0 e + 1)), hle, ?_, ?_⟩
  · simp only [execOp, ho, he.eval hx, Sem.run_bind, hr, Result.andThen_ok, Sem.run_pure]; rfl
  · exact hw.grow (Hn := [.zrow w.heap.size e _ _]) (Gn := []) (((Below.refl _ _).drew).alloc (Nat.le_refl _) _) (NewOk.one ⟨Nat.le_refl _, heap_alloc_new _ _⟩)
theorem ps_loadZ {x : Operand} {t g e c i : Nat} {L : List UInt8} {fz : Nat × Nat} (q : Nat) [hl : LD P t 1 false] (ho : o.op = .load t x) (hx : opd E x = some (pt (ga g) (i * 1))) (hi : H[q]? = some (.zrow g e (zcs L c) fz)) (hj : i < L.length) : PStep P E H G o (.int .u8 ((L.getD i 0).toNat : Int)) :=
  ps_load ho hx (Rds.cell (rds_zcs q hi) (by simp [byteVs, hj]))
theorem ms_setZ {x y : Operand} {t g e c i n : Nat} {L : List UInt8} {v : UInt8} (q : Nat) [hl : LD P t 1 false] (ho : o.op = .store t x y) (hx : opd E x = some (pt (ga g) (i * 1))) (hy : opd E y = some (.int .u8 (v.toNat : Int))) (hi : H[q]? = some (.zrow g e (zcs L c) (n, n + 1))) (hj : i < L.length) (hn : i < n) :
    MStep P E H G o (fun _ => True) (fun _ => undef) (fun _ => H.set q (.zrow g e (zcs (L.set i v) c) (n, n + 1))) (fun _ => G) := fun N base w0 a w Q K he hw hK => by
  obtain ⟨hb, hh⟩ := hw.own _ (List.mem_of_getElem? hi)
  have hlen : i < (zcs L c).length := by simp [zcs, byteVs]; omega
  have hadd : (⟨g, i * 1, none⟩ : Addr).add 0 = ⟨g, i, none⟩ := by unfold Addr.add; simp
  have hcell : w.cell? ⟨g, i, none⟩ = some (zcs L c)[i] := by simp [World.cell?, hh, hlen]
  have hfro : w.frozen? ⟨g, i, none⟩ = false := by simp [World.frozen?, hh]; omega
  have hst : (storeCells ⟨g, i * 1, none⟩ [.int .u8 (v.toNat : Int)] 0).run P w = .ok () (w.setRow g ((zcs L c).set i (.int .u8 (v.toNat : Int))).toArray) := by
    simp only [storeCells, Sem.run_bind]
    rw [hadd, run_store P w _ _ _ rfl, hcell]
    simp [hfro, setCell_eq_setRow w g i _ e _ _ hh]
  have hsz : (sizeOf t).run P w = .ok 1 w := by
    have h := hl.h
    unfold ldB at h
    split at h <;> first | (injection h with h; injection h with h1 h2; rename_i hi; simp [sizeOf, typeInfo, hi, h1]) | cases h
  have hrun : (execOp a.eval o).run P w = .ok .skip (w.setRow g ((zcs L c).set i (.int .u8 (v.toNat : Int))).toArray) := by
    simp only [Nat.mul_one] at hst
    simp [execOp, ho, he.eval hx, he.eval hy, pt, ga, Instr.storeAt, Instr.sureAddr, storeVar, hsz, Value.cells, ga_add, hst]
  rw [zcs_set L c i v hj] at hrun
  unfold Oper.wp; rw [hrun]
  refine hK (mkY none 0 w) _ trivial (hw.turn (x := .zrow g e _ _) hi (r := some g) ?_ (fun k hk => by cases hk; rfl) ⟨hb, setRow_heap w g _ _ e _ hh⟩ (fun j hj => .inl hj))
  exact ⟨rfl, rfl, rfl, by simp, fun j _ hj => setRow_other w g j _ (fun e => hj (by simp [e]))⟩
/-- Appending a string to bytes. -/
theorem run_appS {t u ty e n c base : Nat} {A : Option Addr} {us : List Value} {w : World} (hT : SlP P t e 1 1) (hz : (P.info? e).bind (·.zero) = some (.int .u8 0)) (hu : P.underlying u = some .string) (hown : Own w base e 1 A n c us) (s : ByteArray) (hb : n + s.size ≤ 140737488355328) (hbase : base ≤ w.heap.size) :
    ∃ A' c' w', (Builtin.append_ #[t, u] ty #[.slice A n c, .string s]).run P w = .ok (.slice A' (n + s.size) c') w' ∧ Own w' base e 1 A' (n + s.size) c' (us ++ byteVs s.data.toList) ∧ w.grownBy w' (blk A) ∧ (blk A' = blk A ∨ blk A' = some w.heap.size) := by
  obtain ⟨ht, _, i, z, hi, hzz, hs, hby, _⟩ := hT
  have hz' : i.zero = some (.int .u8 0) := by simpa [hi] using hz
  obtain ⟨v', w', hr, h2, h3, hiff⟩ := Lib.run_append_own_string (P := P) w base t u ty e i ht hu hi hz' hs hby (.slice A n c) n us hown s (by simp only [maxLen]; omega) hb hbase
  obtain ⟨A', c', rfl⟩ : ∃ A' c', v' = .slice A' (n + s.size) c' := by
    rcases h2.2 with ⟨hv, hn⟩ | ⟨g, cap, cur, hv, _⟩
    · exact ⟨none, 0, by rw [hv, hn]⟩
    · exact ⟨_, _, hv⟩
  rw [ownBlock_slice] at h3
  refine ⟨A', c', w', hr, h2, h3, ?_⟩
  rcases hown.2 with ⟨hv, hn⟩ | ⟨g, cap, cur, hv, hbg, hg, hnc, hcm, hcs, htk⟩
  · cases hv

    by_cases h0 : s.size = 0
    · have := hiff.2 ⟨rfl, h0⟩
      injection this with hA
      rw [hA]; exact .inl rfl
    · have hr2 := run_append_nil_string (P := P) w t u ty e i (.int .u8 0) ht hu hi hz' s (by omega) (by omega) (by rw [hby]; omega)
      simp only [Nat.zero_add] at hr
      rw [hr2] at hr
      injection hr with hr _
      injection hr with hr
      subst hr; exact .inr rfl
  · cases hv
    by_cases hroom : n + s.size ≤ c
    · have hr2 := Lib.run_append_room_string (P := P) w t u ty e i ht hu hi hs g n c cur hg s hroom (by simp at hcs; omega)
      rw [hr2] at hr
      injection hr with hr _
      injection hr with hr
      subst hr; exact .inl rfl
    · have holds : ∀ j v, us[j]? = some v → w.cell? ((⟨g, 0, none⟩ : Addr).add j) = some v := hown.cells (g := g) rfl
      have hl := hown.1
      have hr2 := Lib.run_append_grow_string (P := P) w t u ty e i (.int .u8 0) ht hu hi hz' ⟨g, 0, none⟩ n c us (by rw [hs]; exact hl) holds s (by omega) (by omega) (by rw [hby]; exact growslice_fits (by omega) (by omega))
      rw [hr2] at hr
      injection hr with hr _
      injection hr with hr
      subst hr; exact .inr rfl
theorem ms_appS {t u e n c : Nat} {A : Option Addr} {x y : Operand} {L : List UInt8} {s : ByteArray} (q : Nat) [ht : EL P t e 1 1] [hz : ZB P e] [hu : SS P u] (ho : o.op = .call { callee := .builtin .append, args := #[x, y], argTypes := #[t, u] })
    (hx : opd E x = some (.slice A n c)) (hy : opd E y = some (.string s)) (hi : H[q]? = some (.row e 1 A n c (byteVs L))) (hb : n + s.size ≤ 140737488355328) :
    MStep P E H G o (fun _ => True) (fun y => .slice (y 0).A (n + s.size) (y 0).c) (fun y => H.set q (.row e 1 (y 0).A (n + s.size) (y 0).c (byteVs (L ++ s.data.toList)))) (fun _ => G) := fun N base w0 a w Q K he hw hK => by
  have hzz := hz.h
  obtain ⟨A', c', w', hrun, h2, h3, h4⟩ := run_appS (ty := o.type) ht.h hzz hu.h (hw.own _ (List.mem_of_getElem? hi)) s hb hw.le
  have hr' : (execOp a.eval o).run P w = .ok (.value (.slice A' (n + s.size) c')) w' := by
    unfold execOp
    simp only [ho, resolve, invoke, builtin, Sem.run_bind, Sem.run_pure, Result.andThen_ok, List.map_toArray, List.map_cons, List.map_nil, he.eval hx, he.eval hy, hrun]
  have e2 : byteVs L ++ byteVs s.data.toList = byteVs (L ++ s.data.toList) := by simp [byteVs]
  rw [e2] at h2
  unfold Oper.wp; rw [hr']
  refine hK (mkY A' c' w) _ trivial (hw.turn (x := .row e 1 A n c _) hi h3 (fun k hk => hk) h2 fun k hk => ?_)
  rcases h4 with h4 | h4
  · exact .inl (h4.symm.trans hk)
  · right
    have : some k = some w.heap.size := hk.symm.trans h4
    cases this; exact Nat.le_refl _
end
end Go.Proofs.Ytbegbdfbfbkflaa
