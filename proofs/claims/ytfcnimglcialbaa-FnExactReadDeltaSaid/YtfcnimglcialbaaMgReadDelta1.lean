/- Texts of this claim, one behind the other: Eng12, Bld, Shd, SldP, Rdl, WFnExactReadDelta, Jn. -/
import Derived.Test.YtfcnimglcialbaaEng11
import Derived.Laws.IdiomStrings
import Derived.Lib.AppendStr
import Derived.Test.YtfcnimglcialbaaShf
import Derived.Test.YtfcnimglcialbaaTab
import Derived.Test.YtfcnimglcialbaaMt
import Derived.Test.YtfcnimglcialbaaRv
import Derived.Test.YtfcnimglcialbaaCgt
import Derived.Test.YtfcnimglcialbaaDtP
import Derived.Test.YtfcnimglcialbaaDfm
import Derived.Test.YtfcnimglcialbaaShs
import Derived.Test.YtfcnimglcialbaaRds
import Derived.Test.YtfcnimglcialbaaRows
import Derived.ProofKit
import Derived.JoinedOf
/- The engine: the bytes of a string, in a row of its own. -/
namespace Go.Proofs.Ytfcnimglcialbaa
open Go.RowKit
set_option linter.unusedVariables false
set_option linter.unusedSimpArgs false
def mkY2 (g c : Nat) (w : World) : Ys := fun i => if i = 0 then ⟨none, g, w, 0⟩ else ⟨none, c, w, 0⟩
def zcs (L : List UInt8) (c : Nat) : List Value := byteVs L ++ List.replicate (c - L.length) (.int .u8 0)
theorem zcs_len (L : List UInt8) (c : Nat) (h : L.length ≤ c) : (zcs L c).length = c := by simp [zcs, byteVs]; omega
theorem zcs_set (L : List UInt8) (c j : Nat) (v : UInt8) (hj : j < L.length) : (zcs L c).set j (.int .u8 (v.toNat : Int)) = zcs (L.set j v) c := by
  unfold zcs
  rw [List.set_append_left _ _ (by simpa [byteVs] using hj), List.length_set]
  congr 1
  unfold byteVs
  rw [List.map_set]
/-- The zero value is the byte 0. -/
class ZB (P : Program) (e : TypeId) : Prop where h : (P.info? e).bind (·.zero) = some (.int .u8 0)
section
variable {P : Program} {N base : Nat} {w0 : World} {E : Env} {H : List HObj} {G : List World} {Q : Exit → Act → World → Prop} {o : Oper}
theorem rds_zrow {g e : Nat} {cs : List Value} {fz : Nat × Nat} (i : Nat) (hi : H[i]? = some (.zrow g e cs fz)) : Rds H G (ga g) cs := fun base w0 w hw j u hu => by
  have := (hw.own _ (List.mem_of_getElem? hi)).2
  refine ⟨_, rfl, ?_⟩
  rw [ga_add, cell_of_row _ _ j _ _ _ this]
  simpa using hu
theorem rds_zcs {g e c : Nat} {L : List UInt8} {fz : Nat × Nat} (i : Nat) (hi : H[i]? = some (.zrow g e (zcs L c) fz)) : Rds H G (ga g) (byteVs L) := fun base w0 w hw => by
  have h := (rds_zrow i hi base w0 w hw).take L.length
  have e : (zcs L c).take L.length = byteVs L := by
    unfold zcs
    rw [List.take_append_of_le_length (by simp [byteVs]), List.take_of_length_le (by simp [byteVs])]
  rwa [e] at h
theorem ms_bytes {x : Operand} {s t e : TypeId} {b : ByteArray} {sz bytes : Nat} [ht : EL P t e sz bytes] [hk : IK P e .u8] [hs : SS P s] (ho : o.op = .convert s t x) (hx : opd E x = some (.string b)) :
    MStep P E H G o (fun y => b.size ≤ (y 1).c) (fun y => .slice (ga (y 0).c) b.size (y 1).c) (fun y => .zrow (y 0).c e (zcs b.data.toList (y 1).c) ((y 1).c, (y 1).c + 1) :: H) (fun _ => G) := ms_of (v0 := undef) fun N base w0 a w he hw => by
  have hr := run_bytes_of_string (P := P) w s t e b hs.h ht.h.1 hk.h
  have hle : b.size ≤ grownCap w b.size 0 e := grownCap_ge w b.size 0 e
  have hbs : (bytesRow b (grownCap w b.size 0 e)) = (zcs b.data.toList (grownCap w b.size 0 e)).toArray := by
    apply Array.ext'
    simp [bytesRow, zcs, byteVs]
  have hsz : (bytesRow b (grownCap w b.size 0 e)).size = grownCap w b.size 0 e := by
    rw [hbs]; simp only [List.size_toArray]; exact zcs_len _ _ hle
  rw [hsz, hbs] at hr
  refine ⟨mkY2 w.heap.size (grownCap w b.size 0 e) w, w.drew.alloc (.cells (zcs b.data.toList (grownCap w b.size 0 e)).toArray e (grownCap w b.size 0 e, grownCap w b.size 0 e + 1)), hle, ?_, ?_⟩
  · simp only [execOp, ho, he.eval hx, Sem.run_bind, hr, Result.andThen_ok, Sem.run_pure]; rfl
  · exact hw.grow (Hn := [.zrow w.heap.size e _ _]) (Gn := []) (((Below.refl _ _).drew).alloc (Nat.le_refl _) _) (NewOk.one ⟨Nat.le_refl _, heap_alloc_new _ _⟩)
theorem ps_loadZ {x : Operand} {t g e c i : Nat} {L : List UInt8} {fz : Nat × Nat} (q : Nat) [hl : LD P t 1 false] (ho : o.op = .load t x) (hx : opd E x = some (pt (ga g) (i * 1))) (hi : H[q]? = some (.zrow g e (zcs L c) fz)) (hj : i < L.length) : PStep P E H G o (.int .u8 ((L.getD i 0).toNat : Int)) :=
  ps_load ho hx (Rds.cell (rds_zcs q hi) (by simp [byteVs, hj]))
theorem ms_setZ {x y : Operand} {t g e c i n : Nat} {L : List UInt8} {v : UInt8} (q : Nat) [hl : LD P t 1 false] (ho : o.op = .store t x y) (hx : opd E x = some (pt (ga g) (i * 1))) (hy : opd E y = some (.int .u8 (v.toNat : Int))) (hi : H[q]? = some (.zrow g e (zcs L c) (n, n + 1))) (hj : i < L.length) (hn : i < n) :
    MStep P E H G o (fun _ => True) (fun _ => undef) (fun _ => H.set q (.zrow g e (zcs (L.set i v) c) (n, n + 1))) (fun _ => G) := fun N base w0 a w Q K he hw hK => by
  obtain ⟨hb, hh⟩ := hw.own _ (List.mem_of_getElem? hi)
  have hlen : i < (zcs L c).length := by simp [zcs, byteVs]; omega
  have hadd : (⟨g, i * 1, none⟩ : Addr).add 0 = ⟨g, i, none⟩ := by unfold Addr.add; simp
  have hcell : w.cell? ⟨g, i, none⟩ = some (zcs L c)[i] := by simp [World.cell?, hh, hlen]
  have hfro : w.frozen? ⟨g, i, none⟩ = false := by simp [World.frozen?, hh]; omega
  have hst : (storeCells ⟨g, i * 1, none⟩ [.int .u8 (v.toNat : Int)] 0).run P w = .ok () (w.setRow g ((zcs L c).set i (.int .u8 (v.toNat : Int))).toArray) := by
    simp only [storeCells, Sem.run_bind]
    rw [hadd, run_store P w _ _ _ rfl, hcell]
    simp [hfro, setCell_eq_setRow w g i _ e _ _ hh]
  have hsz : (sizeOf t).run P w = .ok 1 w := by
    have h := hl.h
    unfold ldB at h
    split at h <;> first | (injection h with h; injection h with h1 h2; rename_i hi; simp [sizeOf, typeInfo, hi, h1]) | cases h
  have hrun : (execOp a.eval o).run P w = .ok .skip (w.setRow g ((zcs L c).set i (.int .u8 (v.toNat : Int))).toArray) := by
    simp only [Nat.mul_one] at hst
    simp [execOp, ho, he.eval hx, he.eval hy, pt, ga, Instr.storeAt, Instr.sureAddr, storeVar, hsz, Value.cells, ga_add, hst]
  rw [zcs_set L c i v hj] at hrun
  unfold Oper.wp; rw [hrun]
  refine hK (mkY none 0 w) _ trivial (hw.turn (x := .zrow g e _ _) hi (r := some g) ?_ (fun k hk => by cases hk; rfl) ⟨hb, setRow_heap w g _ _ e _ hh⟩ (fun j hj => .inl hj))
  exact ⟨rfl, rfl, rfl, by simp, fun j _ hj => setRow_other w g j _ (fun e => hj (by simp [e]))⟩
/-- Appending a string to bytes. -/
theorem run_appS {t u ty e n c base : Nat} {A : Option Addr} {us : List Value} {w : World} (hT : SlP P t e 1 1) (hz : (P.info? e).bind (·.zero) = some (.int .u8 0)) (hu : P.underlying u = some .string) (hown : Own w base e 1 A n c us) (s : ByteArray) (hb : n + s.size ≤ 140737488355328) (hbase : base ≤ w.heap.size) :
    ∃ A' c' w', (Builtin.append_ #[t, u] ty #[.slice A n c, .string s]).run P w = .ok (.slice A' (n + s.size) c') w' ∧ Own w' base e 1 A' (n + s.size) c' (us ++ byteVs s.data.toList) ∧ w.grownBy w' (blk A) ∧ (blk A' = blk A ∨ blk A' = some w.heap.size) := by
  obtain ⟨ht, _, i, z, hi, hzz, hs, hby, _⟩ := hT
  have hz' : i.zero = some (.int .u8 0) := by simpa [hi] using hz
  obtain ⟨v', w', hr, h2, h3, hiff⟩ := Lib.run_append_own_string (P := P) w base t u ty e i ht hu hi hz' hs hby (.slice A n c) n us hown s (by simp only [maxLen]; omega) hb hbase
  obtain ⟨A', c', rfl⟩ : ∃ A' c', v' = .slice A' (n + s.size) c' := by
    rcases h2.2 with ⟨hv, hn⟩ | ⟨g, cap, cur, hv, _⟩
    · exact ⟨none, 0, by rw [hv, hn]⟩
    · exact ⟨_, _, hv⟩
  rw [ownBlock_slice] at h3
  refine ⟨A', c', w', hr, h2, h3, ?_⟩
  rcases hown.2 with ⟨hv, hn⟩ | ⟨g, cap, cur, hv, hbg, hg, hnc, hcm, hcs, htk⟩
  · cases hv

    by_cases h0 : s.size = 0
    · have := hiff.2 ⟨rfl, h0⟩
      injection this with hA
      rw [hA]; exact .inl rfl
    · have hr2 := run_append_nil_string (P := P) w t u ty e i (.int .u8 0) ht hu hi hz' s (by omega) (by omega) (by rw [hby]; omega)
      simp only [Nat.zero_add] at hr
      rw [hr2] at hr
      injection hr with hr _
      injection hr with hr
      subst hr; exact .inr rfl
  · cases hv
    by_cases hroom : n + s.size ≤ c
    · have hr2 := Lib.run_append_room_string (P := P) w t u ty e i ht hu hi hs g n c cur hg s hroom (by simp at hcs; omega)
      rw [hr2] at hr
      injection hr with hr _
      injection hr with hr
      subst hr; exact .inl rfl
    · have holds : ∀ j v, us[j]? = some v → w.cell? ((⟨g, 0, none⟩ : Addr).add j) = some v := hown.cells (g := g) rfl
      have hl := hown.1
      have hr2 := Lib.run_append_grow_string (P := P) w t u ty e i (.int .u8 0) ht hu hi hz' ⟨g, 0, none⟩ n c us (by rw [hs]; exact hl) holds s (by omega) (by omega) (by rw [hby]; exact growslice_fits (by omega) (by omega))
      rw [hr2] at hr
      injection hr with hr _
      injection hr with hr
      subst hr; exact .inr rfl
theorem ms_appS {t u e n c : Nat} {A : Option Addr} {x y : Operand} {L : List UInt8} {s : ByteArray} (q : Nat) [ht : EL P t e 1 1] [hz : ZB P e] [hu : SS P u] (ho : o.op = .call { callee := .builtin .append, args := #[x, y], argTypes := #[t, u] })
    (hx : opd E x = some (.slice A n c)) (hy : opd E y = some (.string s)) (hi : H[q]? = some (.row e 1 A n c (byteVs L))) (hb : n + s.size ≤ 140737488355328) :
    MStep P E H G o (fun _ => True) (fun y => .slice (y 0).A (n + s.size) (y 0).c) (fun y => H.set q (.row e 1 (y 0).A (n + s.size) (y 0).c (byteVs (L ++ s.data.toList)))) (fun _ => G) := fun N base w0 a w Q K he hw hK => by
  have hzz := hz.h
  obtain ⟨A', c', w', hrun, h2, h3, h4⟩ := run_appS (ty := o.type) ht.h hzz hu.h (hw.own _ (List.mem_of_getElem? hi)) s hb hw.le
  have hr' : (execOp a.eval o).run P w = .ok (.value (.slice A' (n + s.size) c')) w' := by
    unfold execOp
    simp only [ho, resolve, invoke, builtin, Sem.run_bind, Sem.run_pure, Result.andThen_ok, List.map_toArray, List.map_cons, List.map_nil, he.eval hx, he.eval hy, hrun]
  have e2 : byteVs L ++ byteVs s.data.toList = byteVs (L ++ s.data.toList) := by simp [byteVs]
  rw [e2] at h2
  unfold Oper.wp; rw [hr']
  refine hK (mkY A' c' w) _ trivial (hw.turn (x := .row e 1 A n c _) hi h3 (fun k hk => hk) h2 fun k hk => ?_)
  rcases h4 with h4 | h4
  · exact .inl (h4.symm.trans hk)
  · right
    have : some k = some w.heap.size := hk.symm.trans h4
    cases this; exact Nat.le_refl _
end
end Go.Proofs.Ytfcnimglcialbaa
/- strings.Builder in memory of the call's own, with the engine: written on, read at the end. -/
namespace Go.Proofs.Ytfcnimglcialbaa
open Go.RowKit
set_option maxHeartbeats 4000000
set_option maxRecDepth 20000
set_option linter.unusedVariables false
set_option linter.unusedSimpArgs false
attribute [local irreducible] Calls
theorem pt_ga (g : Nat) : pt (ga g) 0 = .pointer (some ⟨g, 0, none⟩) := by
  unfold pt ga
  rw [Option.map_some, ga_add]
instance zbB : ZB Try.prog 5 := ⟨by kernel_rfl⟩
/-- A builder: its box, its bytes. -/
abbrev bldO (g : Nat) (p : Value) (A : Option Addr) (n c : Nat) : HObj := .box g 166 [p, .slice A n c]
theorem copyCheck_c (g : Nat) (p v : Value) (hp : p = .pointer none ∨ p = .pointer (some ⟨g, 0, none⟩)) {base : Nat} {w0 w : World} {H : List HObj} {G : List World} (hw : WOk base w0 (.box g 166 [p, v] :: H) G w) :
    Calls Try.prog 215 #[pt (ga g) 0] w fun e w' => ∃ y : Ys, e = .returned (.tuple #[]) ∧ True ∧ WOk base w0 (.box g 166 [.pointer (some ⟨g, 0, none⟩), v] :: H) G w' := by
  obtain ⟨hb, hh⟩ := hw.own _ List.mem_cons_self
  have hc : w.cell? ⟨g, 0, none⟩ = some p := by rw [Lib.cell_of_heap hh]; rfl
  rw [pt_ga]
  rcases hp with rfl | rfl
  · refine (Any.Builder_copyCheck_fresh (ρ := sh_lays105_ren) { sh_lays105 with } sh_Builder_Extra_105.toX72 g w hc (by simp [World.shape?, hh]; rfl) (Lib.frozen_of_heap hh 0)).mono ?_
    rintro e w' ⟨rfl, rfl⟩
    refine ⟨mkY none 0 w, rfl, trivial, ?_⟩
    refine hw.turn (i := 0) (x' := .box g 166 [.pointer (some ⟨g, 0, none⟩), v]) rfl (r := some g) ⟨rfl, rfl, rfl, by simp, fun j _ hj => ?_⟩ (fun k hk => by cases hk; rfl) ⟨hb, ?_⟩ (fun j hj => .inl hj)
    · exact heap_setCell_other w ⟨g, 0, none⟩ j _ (fun e => hj (by simp [e]))
    · rw [heap_setCell_same w g 0 _ _ _ hh]; rfl
  · refine (Any.Builder_copyCheck_used (ρ := sh_lays105_ren) { sh_lays105 with } sh_Builder_Extra_105.toX72 g w hc).mono ?_
    rintro e w' ⟨rfl, rfl⟩
    exact ⟨mkY none 0 w', rfl, trivial, hw⟩
/-- A string is written behind. -/
theorem bldW_c (g : Nat) (p : Value) (A : Option Addr) (c : Nat) (t s : ByteArray) (hp : p = .pointer none ∨ p = .pointer (some ⟨g, 0, none⟩)) (hz : t.size + s.size ≤ 140737488355328) {base : Nat} {w0 w : World} {H : List HObj} {G : List World}
    (hw : WOk base w0 (bldO g p A t.size c :: .row 5 1 A t.size c (byteVs (bl t)) :: H) G w) :
    Calls Try.prog 135 #[pt (ga g) 0, .string s] w fun e w' => ∃ y : Ys, e = .returned (.tuple #[.int .i64 s.size, .nilIface]) ∧ True ∧ WOk base w0 (bldO g (.pointer (some ⟨g, 0, none⟩)) (y 0).A (t ++ s).size (y 0).c :: .row 5 1 (y 0).A (t ++ s).size (y 0).c (byteVs (bl (t ++ s))) :: H) G w' := by
  rw [bl_app, ByteArray.size_append]
  refine ok_enterW 19 Try.func135 rfl rfl rfl hw ?_
  repeat' (first
    | refine ok_seq ?_
    | refine ok_then ?_
    | refine ok_then_ret ?_
    | refine ok_then_exit ?_
    | refine ok_block ?_
    | refine ok_in_normal ?_
    | refine ok_in_ret ?_
    | refine ok_in_exit ?_
    | refine ok_in_other rfl ?_
    | (refine ok_cond rfl (fun hc => ?_) (fun hc => ?_) <;> (have hd := hc; (try simp only [decide_eq_true_eq, decide_eq_false_iff_not, Bool.or_eq_true, Bool.or_eq_false_iff, Bool.and_eq_true, Bool.and_eq_false_iff, Bool.not_eq_true', Bool.not_eq_false', bne_iff_ne, beq_iff_eq, bne_eq_false_iff_eq, beq_eq_false_iff_ne, ne_eq, Bool.not_true, Bool.not_false, Bool.false_eq_true, Bool.true_eq_false, inB_true, inB_false] at hd)))
    | refine ok_ret ?_
    | refine ok_exit ?_
    | refine ok_skip ?_
    | (refine ok_region (i := 0) ?_; refine ok_p rfl rfl rfl (by exact ps_assign rfl rfl) ?_; refine ok_p rfl rfl rfl (by exact ps_assign rfl rfl) ?_; refine ok_nil ?_; refine ok_env [(0, _), (1, _)] ⟨rfl, rfl, trivial⟩ ?_)
    | (refine ok_region (i := 1) ?_; refine ok_p rfl rfl rfl (by exact ps_move rfl rfl) ?_; refine ok_m rfl rfl rfl (by exact ms_w1 (fun _ _ _ h => h) rfl rfl (fun _ _ w hw => copyCheck_c g p _ hp hw)) ?_; rintro y7 hy7; refine ok_nil ?_; refine ok_env [(0, _), (1, _)] ⟨rfl, rfl, trivial⟩ ?_)
    | (refine ok_region (i := 2) ?_; refine ok_p rfl rfl rfl (by exact ps_move rfl rfl) ?_; refine ok_p rfl rfl rfl (by exact ps_move rfl rfl) ?_; refine ok_p rfl rfl rfl (by first | exact ps_nil rfl rfl (by first | exact isw_ga _ | exact isw_some _ | exact isw_row 0 rfl (by omega) | exact isw_row 1 rfl (by omega) | exact isw_row 2 rfl (by omega) | exact isw_row 3 rfl (by omega) | exact isw_row 4 rfl (by omega) | exact isw_row 5 rfl (by omega) | exact isw_row 6 rfl (by omega) | exact isw_row 7 rfl (by omega) | exact isw_row 8 rfl (by omega) | exact isw_of (isS_fl (by assumption) (by omega)) | exact isw_of (by assumption)) | exact ps_nil_func rfl rfl) ?_; refine ok_p rfl rfl rfl (by exact ps_field rfl rfl (by first | exact isw_ga _ | exact isw_some _ | exact isw_row 0 rfl (by omega) | exact isw_row 1 rfl (by omega) | exact isw_row 2 rfl (by omega) | exact isw_row 3 rfl (by omega) | exact isw_row 4 rfl (by omega) | exact isw_row 5 rfl (by omega) | exact isw_row 6 rfl (by omega) | exact isw_row 7 rfl (by omega) | exact isw_row 8 rfl (by omega) | exact isw_of (isS_fl (by assumption) (by omega)) | exact isw_of (by assumption))) ?_; refine ok_p rfl rfl rfl (by exact ps_load rfl rfl (by first | exact Rds.cell (rds_box 0 rfl) rfl | exact Rds.cell (rds_box 1 rfl) rfl | exact Rds.cell (rds_box 2 rfl) rfl | exact Rds.cell (rds_box 3 rfl) rfl | exact Rds.cell (rds_box 4 rfl) rfl | exact Rds.cell (rds_box 5 rfl) rfl | exact Rds.cell (rds_box 6 rfl) rfl | exact Rds.cell (rds_box 7 rfl) rfl | exact Rds.cell (rds_box 8 rfl) rfl | exact Rds.cell (rds_box 9 rfl) rfl | exact Rds.cell (rds_box 10 rfl) rfl | exact Rds.cell (rds_box 11 rfl) rfl | exact Rds.cell (rds_box 12 rfl) rfl | exact Rds.cell (rds_box 13 rfl) rfl | exact Rds.cell (rds_box 14 rfl) rfl | exact Rds.cell (rds_box 15 rfl) rfl | exact Rds.cell (rds_box 16 rfl) rfl | exact Rds.cell (rds_box 17 rfl) rfl | exact Rds.cell (rds_box 18 rfl) rfl | exact Rds.cell (rds_box 19 rfl) rfl | exact Rds.cell (rds_box 20 rfl) rfl | exact Rds.cell (rds_box 21 rfl) rfl | exact Rds.cell (rds_box 22 rfl) rfl | exact Rds.cell (rds_box 23 rfl) rfl | exact Rds.cell (rds_rf (by assumption) (by first | exact List.mem_cons_self | exact List.mem_cons_of_mem _ List.mem_cons_self | simp)) (by first | exact fl_at0 _ _ (by omega) (by decide) | exact fl_at _ _ _ (by omega) (by decide)) | exact Rds.cell (rds_row 0 rfl) (by first | exact fl_at0 _ _ (by omega) (by decide) | exact fl_at _ _ _ (by omega) (by decide)) | exact Rds.cell (rds_row 1 rfl) (by first | exact fl_at0 _ _ (by omega) (by decide) | exact fl_at _ _ _ (by omega) (by decide)) | exact Rds.cell (rds_row 2 rfl) (by first | exact fl_at0 _ _ (by omega) (by decide) | exact fl_at _ _ _ (by omega) (by decide)) | exact Rds.cell (rds_row 3 rfl) (by first | exact fl_at0 _ _ (by omega) (by decide) | exact fl_at _ _ _ (by omega) (by decide)) | exact Rds.cell (rds_row 4 rfl) (by first | exact fl_at0 _ _ (by omega) (by decide) | exact fl_at _ _ _ (by omega) (by decide)) | exact Rds.cell (rds_row 5 rfl) (by first | exact fl_at0 _ _ (by omega) (by decide) | exact fl_at _ _ _ (by omega) (by decide)) | exact Rds.cell (rds_row 6 rfl) (by first | exact fl_at0 _ _ (by omega) (by decide) | exact fl_at _ _ _ (by omega) (by decide)) | exact Rds.cell (rds_row 7 rfl) (by first | exact fl_at0 _ _ (by omega) (by decide) | exact fl_at _ _ _ (by omega) (by decide)) | exact Rds.cell (rds_row 8 rfl) (by first | exact fl_at0 _ _ (by omega) (by decide) | exact fl_at _ _ _ (by omega) (by decide)) | exact Rds.cell (rds_row 9 rfl) (by first | exact fl_at0 _ _ (by omega) (by decide) | exact fl_at _ _ _ (by omega) (by decide)))) ?_; refine ok_p rfl rfl rfl (by exact ps_move rfl rfl) ?_; refine ok_m rfl rfl rfl (by exact ms_appS 1 rfl rfl rfl rfl hz) ?_; rintro y14 hy14; refine ok_p rfl rfl rfl (by first | exact ps_nil rfl rfl (by first | exact isw_ga _ | exact isw_some _ | exact isw_row 0 rfl (by omega) | exact isw_row 1 rfl (by omega) | exact isw_row 2 rfl (by omega) | exact isw_row 3 rfl (by omega) | exact isw_row 4 rfl (by omega) | exact isw_row 5 rfl (by omega) | exact isw_row 6 rfl (by omega) | exact isw_row 7 rfl (by omega) | exact isw_row 8 rfl (by omega) | exact isw_of (isS_fl (by assumption) (by omega)) | exact isw_of (by assumption)) | exact ps_nil_func rfl rfl) ?_; refine ok_p rfl rfl rfl (by exact ps_field rfl rfl (by first | exact isw_ga _ | exact isw_some _ | exact isw_row 0 rfl (by omega) | exact isw_row 1 rfl (by omega) | exact isw_row 2 rfl (by omega) | exact isw_row 3 rfl (by omega) | exact isw_row 4 rfl (by omega) | exact isw_row 5 rfl (by omega) | exact isw_row 6 rfl (by omega) | exact isw_row 7 rfl (by omega) | exact isw_row 8 rfl (by omega) | exact isw_of (isS_fl (by assumption) (by omega)) | exact isw_of (by assumption))) ?_; refine ok_m_ rfl rfl (by first | exact ms_store 0 rfl rfl rfl rfl rfl rfl rfl rfl | exact ms_store 1 rfl rfl rfl rfl rfl rfl rfl rfl | exact ms_store 2 rfl rfl rfl rfl rfl rfl rfl rfl | exact ms_store 3 rfl rfl rfl rfl rfl rfl rfl rfl | exact ms_store 4 rfl rfl rfl rfl rfl rfl rfl rfl | exact ms_store 5 rfl rfl rfl rfl rfl rfl rfl rfl | exact ms_store 6 rfl rfl rfl rfl rfl rfl rfl rfl | exact ms_store 7 rfl rfl rfl rfl rfl rfl rfl rfl) ?_; rintro y_ hy_; refine ok_nil ?_; refine ok_env [(1, _)] ⟨rfl, trivial⟩ ?_)
    | (refine ok_region (i := 3) ?_; refine ok_p rfl rfl rfl (by exact ps_move rfl rfl) ?_; refine ok_p rfl rfl rfl (by exact ps_slen rfl rfl) ?_; refine ok_p rfl rfl rfl (by exact ps_assign rfl rfl) ?_; refine ok_p rfl rfl rfl (by exact ps_assign rfl rfl) ?_; refine ok_nil ?_; refine ok_env [(4, _), (5, _)] ⟨rfl, rfl, trivial⟩ ?_))
  exact ok_endL (vs := [_, _]) rfl ⟨rfl, rfl, trivial⟩ (fun w' hw => ⟨y14, rfl, trivial, hw⟩)
/-- A builder of no bytes yet. -/
theorem WOk.bld0 {base : Nat} {w0 w : World} {H : List HObj} {G : List World} {g : Nat} (hw : WOk base w0 (.box g 166 [.pointer none, .slice none 0 0] :: H) G w) : WOk base w0 (bldO g (.pointer none) none (⟨#[]⟩ : ByteArray).size 0 :: .row 5 1 none (⟨#[]⟩ : ByteArray).size 0 (byteVs (bl ⟨#[]⟩)) :: H) G w := (hw.rowNil 5 1).front 1 rfl
/-- What a call that leaves nothing behind may forget. -/
theorem ms_noG {P : Program} {E : Env} {H : List HObj} {G : List World} {o : Oper} {F : Ys → Prop} {v : Ys → Value} {H' : Ys → List HObj} {G' : Ys → List World} (h : MStep P E H [] o F v H' G') : MStep P E H G o F v H' G' := fun N base w0 a w Q K he hw hK =>
  h N base w0 a w Q K he ⟨hw.below, hw.le, hw.own, hw.apart, fun m hm => by cases hm⟩ hK
theorem ba_bl (s : ByteArray) : (⟨(bl s).toArray⟩ : ByteArray) = s := by apply ByteArray.ext; simp
/-- The bytes are read, and the builder is let go. -/
theorem bldS_c (g : Nat) (p : Value) (A : Option Addr) (c : Nat) (t : ByteArray) (hp : p = .pointer none ∨ p = .pointer (some ⟨g, 0, none⟩)) (h0 : 0 < t.size) {base : Nat} {w0 w : World} {H : List HObj}
    (hw : WOk base w0 (bldO g p A t.size c :: .row 5 1 A t.size c (byteVs (bl t)) :: H) [] w) :
    Calls Try.prog 138 #[pt (ga g) 0] w fun e w' => ∃ y : Ys, e = .returned (.string t) ∧ True ∧ WOk base w0 [] [] w' := by
  obtain ⟨hb, hh⟩ := hw.own _ List.mem_cons_self
  have hr := hw.own (.row 5 1 A t.size c (byteVs (bl t))) (by simp)
  have hga : ¬ blk A = some g := (List.pairwise_cons.1 hw.apart).1 (.row 5 1 A t.size c (byteVs (bl t))) (by simp) g rfl
  rw [pt_ga]
  have hat : Lib.BuilderAt 166 5 base g p (Lib.byteCells (bl t)) w := ⟨hb, _, hh, by rw [Lib.byteCells_length, bl_len]; exact hr, by rw [ownBlock_slice]; exact hga⟩
  refine (Any.Builder_String (ρ := sh_lays105_ren) { sh_lays105 with } sh_Builder_Extra_105 base g (bl t) w (by rcases hp with rfl | rfl; exact .inl hat; exact .inr hat) (fun e => by have := bl_len t; rw [e] at this; simp at this; omega)).mono ?_
  rintro e w' ⟨rfl, hbel⟩
  rw [ba_bl]
  exact ⟨mkY none 0 w, rfl, trivial, hw.below.trans hbel, Nat.le_trans hw.le hbel.size, (fun _ h => by cases h), List.Pairwise.nil, (fun m hm => by cases hm)⟩
end Go.Proofs.Ytfcnimglcialbaa
/- ShowDelta of both programs. -/
namespace Go.Proofs.Ytfcnimglcialbaa
open Go.RowKit
set_option maxHeartbeats 4000000
set_option maxRecDepth 20000
set_option linter.unusedVariables false
set_option linter.unusedSimpArgs false
attribute [local irreducible] Calls
theorem vS_pos (n : Nat) : 0 < (vS n).size := by
  show 0 < (varL n).toArray.size
  rw [List.size_toArray]
  unfold varL varF
  split <;> simp
attribute [local irreducible] rawU rawD pieceS vS fShowDelta deltaOk
theorem show_no {U : List KV} {D : List ByteArray} (h : deltaOk U D = false) : fShowDelta ⟨U, D⟩ = ⟨#[]⟩ := by unfold fShowDelta; rw [if_neg (by rw [h]; decide)]
theorem show_yes {U : List KV} {D : List ByteArray} (h : deltaOk U D = true) : fShowDelta ⟨U, D⟩ = rawD U D D.length := by unfold fShowDelta; rw [if_pos h]; rfl
theorem s_ShowDelta0 (A0 A1 : Option Addr) (c0 c1 : Nat) (U : List KV) (D : List ByteArray) (w : World) (h0 : Rd w A0 (fl U)) (h1 : Rd w A1 (fl D)) (m0 : U.length ≤ 1048576) (m1 : D.length ≤ 1048576) :
    Calls Try.prog 48 #[.agg #[.slice A0 U.length c0, .slice A1 D.length c1]] w fun e w' => e = .returned (.string (fShowDelta ⟨U, D⟩)) ∧ Below w.heap.size w w' := by
  refine ok_enter 59 Try.func48 rfl rfl rfl ?_
  repeat' (first
    | refine ok_seq ?_
    | refine ok_then ?_
    | refine ok_then_ret ?_
    | refine ok_block ?_
    | (refine ok_cond rfl (fun hc => ?_) (fun hc => ?_) <;> (have hd := hc; (try simp only [decide_eq_true_eq, decide_eq_false_iff_not, Bool.or_eq_true, Bool.or_eq_false_iff, Bool.and_eq_true, Bool.and_eq_false_iff, Bool.not_eq_true', Bool.not_eq_false', bne_iff_ne, beq_iff_eq, bne_eq_false_iff_eq, beq_eq_false_iff_ne, ne_eq, Bool.not_true, Bool.not_false, Bool.false_eq_true, Bool.true_eq_false, inB_true, inB_false] at hd)))
    | refine ok_ret ?_
    | refine ok_skip ?_
    | (refine ok_region (i := 0) ?_; refine ok_m rfl rfl rfl (by exact ms_box rfl rfl rfl) ?_; rintro y1 hy1; refine ok_p rfl rfl rfl (by exact ps_assign rfl rfl) ?_; refine ok_nil ?_; refine ok_env [(1, _)] ⟨rfl, trivial⟩ ?_)
    | (refine ok_region (i := 1) ?_; refine ok_p rfl rfl rfl (by exact ps_loads rfl rfl (by exact rds_box 0 rfl) rfl rfl (by decide)) ?_; refine ok_m rfl rfl rfl (by exact ms_s1 rfl rfl (fun _ _ w hw => s_DeltaOk A0 _ A1 _ U D w (rds_rf h0 (by exact List.mem_cons_self) _ _ w hw) (rds_rf h1 (by exact List.mem_cons_self) _ _ w hw) m0 m1)) ?_; rintro y7 hy7; refine ok_p rfl rfl rfl (by exact ps_not rfl rfl) ?_; refine ok_nil ?_; refine ok_env [(1, _), (8, _)] ⟨rfl, rfl, trivial⟩ ?_)
    | (refine ok_region (i := 2) ?_; refine ok_p rfl rfl rfl (by exact ps_assign rfl rfl) ?_; refine ok_nil ?_; refine ok_env [(2, _)] ⟨rfl, trivial⟩ ?_)
    | (refine ok_region (i := 3) ?_; refine ok_p rfl rfl rfl (by exact ps_field rfl rfl (by exact isw_ga _)) ?_; refine ok_p rfl rfl rfl (by exact ps_load rfl rfl (by exact Rds.cell (rds_box 0 rfl) rfl)) ?_; refine ok_p rfl rfl rfl (by exact ps_len rfl rfl) ?_; refine ok_m rfl rfl rfl (by exact ms_s1 rfl rfl (fun _ _ w hw => xs_Var_v U.length (by omega) w)) ?_; rintro y12 hy12; refine ok_p rfl rfl rfl (by exact ps_assign rfl rfl) ?_; refine ok_nil ?_; refine ok_env [(1, _), (3, _)] ⟨rfl, rfl, trivial⟩ ?_)
    | (refine ok_region (i := 4) ?_; refine ok_p rfl rfl rfl (by exact ps_assign rfl rfl) ?_; refine ok_nil ?_; refine ok_env [(1, _), (3, _), (4, _)] ⟨rfl, rfl, rfl, trivial⟩ ?_))
  · rw [show_no hd]
    exact ok_endL (vs := [_]) rfl ⟨rfl, trivial⟩ (fun w' hw => ⟨rfl, hw.below⟩)
  have HK := Lib.hid hd
  rw [show_yes hd]
  clear hc hd
  refine ok_loop (ι := { k : Nat // k ≤ U.length }) (fun q => U.length - q.1) (fun q => ([(1, pt (ga (y1 0).c) 0), (3, .string (rawU U q.1)), (4, .int .i64 q.1)], [_], _)) ⟨0, by omega⟩ (fun a w he hw => ⟨⟨0, by omega⟩, he.sub ⟨rfl, by rw [rawU_zero]; rfl, rfl, trivial⟩, hw⟩) ?_
  rintro ⟨k, hk⟩
  simp only at hk ⊢
  repeat' (first
    | refine ok_seq ?_
    | refine ok_then ?_
    | refine ok_block ?_
    | refine ok_in_normal ?_
    | (refine ok_cond rfl (fun hc => ?_) (fun hc => ?_) <;> (have hd := hc; (try simp only [decide_eq_true_eq, decide_eq_false_iff_not, Bool.or_eq_true, Bool.or_eq_false_iff, Bool.and_eq_true, Bool.and_eq_false_iff, Bool.not_eq_true', Bool.not_eq_false', bne_iff_ne, beq_iff_eq, bne_eq_false_iff_eq, beq_eq_false_iff_ne, ne_eq, Bool.not_true, Bool.not_false, Bool.false_eq_true, Bool.true_eq_false, inB_true, inB_false] at hd)))
    | refine ok_exit ?_
    | refine ok_skip ?_
    | (refine ok_region (i := 5) ?_; refine ok_p rfl rfl rfl (by exact ps_move rfl rfl) ?_; refine ok_p rfl rfl rfl (by exact ps_field rfl rfl (by exact isw_ga _)) ?_; refine ok_p rfl rfl rfl (by exact ps_load rfl rfl (by exact Rds.cell (rds_box 0 rfl) rfl)) ?_; refine ok_p rfl rfl rfl (by exact ps_len rfl rfl) ?_; refine ok_p rfl rfl rfl (by exact ps_int rfl rfl rfl rfl) ?_; refine ok_nil ?_; refine ok_env [(1, _), (3, _), (4, _), (17, _)] ⟨rfl, rfl, rfl, rfl, trivial⟩ ?_)
    | (refine ok_region (i := 6) ?_; refine ok_p rfl rfl rfl (by exact ps_move rfl rfl) ?_; refine ok_p rfl rfl rfl (by exact ps_add rfl rfl rfl (by omega)) ?_; refine ok_p rfl rfl rfl (by exact ps_assign rfl rfl) ?_; refine ok_nil ?_; refine ok_env [(1, _), (3, _), (4, _)] ⟨rfl, rfl, rfl, trivial⟩ ?_)
    | (refine ok_draw (id := 7) 18 rfl (by kernel_rfl) (by kernel_rfl) rfl (by repeat (first | exact pq_body | refine pq_then ?_ | refine pq_in ?_)) [0, 1, 2, 3, 4, 5, 6, 7, 8, 9, 10, 11, 12, 13, 14, 15, 16, 17, 18, 19, 20, 21, 22, 23] (by decide) rfl ?_; refine okT_take (i := 0) rfl (by kernel_rfl) rfl rfl rfl (by exact ps_move rfl rfl) ?_; refine okT_take (i := 1) rfl (by kernel_rfl) rfl rfl rfl (by exact ps_field rfl rfl (by exact isw_ga _)) ?_; refine okT_take (i := 2) rfl (by kernel_rfl) rfl rfl rfl (by exact ps_load rfl rfl (by exact Rds.cell (rds_box 0 rfl) rfl)) ?_; refine okT_take (i := 3) rfl (by kernel_rfl) rfl rfl rfl (by exact ps_move rfl rfl) ?_; refine okT_take (i := 4) rfl (by kernel_rfl) rfl rfl rfl (by exact ps_indexN rfl rfl rfl (by omega) (by exact isw_of (isS_fl (by assumption) (by omega)))) ?_; refine okT_take (i := 5) rfl (by kernel_rfl) rfl rfl rfl (by exact ps_field rfl rfl (by exact isw_of (isS_fl (by assumption) (by omega)))) ?_; refine okT_take (i := 6) rfl (by kernel_rfl) rfl rfl rfl (by exact ps_load rfl rfl (by exact Rds.cell (rds_rf (by assumption) (by exact List.mem_cons_self)) (by exact fl_at0 _ _ (by omega) (by decide)))) ?_; refine okT_take (i := 9) rfl (by kernel_rfl) rfl rfl rfl (by exact ps_field rfl rfl (by exact isw_ga _)) ?_; refine okT_take (i := 10) rfl (by kernel_rfl) rfl rfl rfl (by exact ps_load rfl rfl (by exact Rds.cell (rds_box 0 rfl) rfl)) ?_; refine okT_take (i := 11) rfl (by kernel_rfl) rfl rfl rfl (by exact ps_move rfl rfl) ?_; refine okT_take (i := 12) rfl (by kernel_rfl) rfl rfl rfl (by exact ps_indexN rfl rfl rfl (by omega) (by exact isw_of (isS_fl (by assumption) (by omega)))) ?_; refine okT_take (i := 13) rfl (by kernel_rfl) rfl rfl rfl (by exact ps_field rfl rfl (by exact isw_of (isS_fl (by assumption) (by omega)))) ?_; refine okT_take (i := 14) rfl (by kernel_rfl) rfl rfl rfl (by exact ps_load rfl rfl (by exact Rds.cell (rds_rf (by assumption) (by exact List.mem_cons_self)) (by exact fl_at _ _ _ (by omega) (by decide)))) ?_; refine okT_one (i := 7) rfl rfl (by kernel_rfl) rfl rfl rfl (by exact ms_s1 rfl (by exact rfl) (fun _ _ w hw => sPiece_any _ (by have := mapOk_sz (deltaOk_map HK.out) k (by omega); omega) w)) (fun y w _ h => by exact h) ?_; rintro y27 hy27; refine okT_take (i := 8) rfl (by kernel_rfl) rfl rfl rfl (by exact ps_sadd rfl (by exact rfl) (by exact rfl) (by have := mapOk_sz (deltaOk_map HK.out) k (by omega); have := rawU_size (deltaOk_map HK.out) k hk; have := pieceS_size (nth U k).key; omega)) ?_; refine okT_one (i := 15) rfl rfl (by kernel_rfl) rfl rfl rfl (by exact ms_s1 rfl (by exact rfl) (fun _ _ w hw => sPiece_any _ (by have := mapOk_sz (deltaOk_map HK.out) k (by omega); omega) w)) (fun y w _ h => by exact h) ?_; rintro y35 hy35; refine okT_take (i := 16) rfl (by kernel_rfl) rfl rfl rfl (by exact ps_sadd rfl (by exact rfl) (by exact rfl) (by have := mapOk_sz (deltaOk_map HK.out) k (by omega); have := rawU_size (deltaOk_map HK.out) k hk; have := pieceS_size (nth U k).key; have := pieceS_size (nth U k).val; simp only [ByteArray.size_append]; omega)) ?_; refine okT_take (i := 17) rfl (by kernel_rfl) rfl rfl rfl (by exact ps_assign rfl rfl) ?_; refine okT_done (by kernel_rfl) ?_; refine ok_nil ?_; refine ok_env [(1, _), (3, _), (4, _)] ⟨rfl, rfl, rfl, trivial⟩ ?_)
    | (refine ok_region (i := 8) ?_; refine ok_p rfl rfl rfl (by exact ps_move rfl rfl) ?_; refine ok_p rfl rfl rfl (by exact ps_field rfl rfl (by exact isw_ga _)) ?_; refine ok_p rfl rfl rfl (by exact ps_load rfl rfl (by exact Rds.cell (rds_box 0 rfl) rfl)) ?_; refine ok_p rfl rfl rfl (by exact ps_len rfl rfl) ?_; refine ok_m rfl rfl rfl (by exact ms_s1 rfl rfl (fun _ _ w hw => xs_Var_v D.length (by omega) w)) ?_; rintro y41 hy41; refine ok_p rfl rfl rfl (by exact ps_sadd rfl (by exact rfl) (by exact rfl) (by have := rawU_size (deltaOk_map HK.out) k hk; have := vS_size D.length; omega)) ?_; refine ok_p rfl rfl rfl (by exact ps_assign rfl rfl) ?_; refine ok_nil ?_; refine ok_env [(1, _), (3, _)] ⟨rfl, rfl, trivial⟩ ?_)
    | (refine ok_region (i := 9) ?_; refine ok_p rfl rfl rfl (by exact ps_assign rfl rfl) ?_; refine ok_nil ?_; refine ok_env [(1, _), (3, _), (5, _)] ⟨rfl, rfl, rfl, trivial⟩ ?_))
  · have e : rawU U (k + 1) = rawU U k ++ pieceS (nth U k).key ++ pieceS (nth U k).val := by rw [rawU_step (by omega), ByteArray.append_assoc]
    rw [← e]
    exact fun a w' he hw => ⟨⟨k + 1, by omega⟩, by simp only; omega, he.sub ⟨rfl, rfl, rfl, trivial⟩, hw⟩
  obtain rfl : k = U.length := by omega
  refine ok_loop (ι := { k : Nat // k ≤ D.length }) (fun q => D.length - q.1) (fun q => ([(1, pt (ga (y1 0).c) 0), (3, .string (rawD U D q.1)), (5, .int .i64 q.1)], [_], _)) ⟨0, by omega⟩ (fun a w he hw => ⟨⟨0, by omega⟩, he.sub ⟨rfl, by rw [rawD_zero]; rfl, rfl, trivial⟩, hw⟩) ?_
  rintro ⟨k, hk⟩
  simp only at hk ⊢
  repeat' (first
    | refine ok_seq ?_
    | refine ok_then ?_
    | refine ok_block ?_
    | refine ok_in_normal ?_
    | (refine ok_cond rfl (fun hc => ?_) (fun hc => ?_) <;> (have hd := hc; (try simp only [decide_eq_true_eq, decide_eq_false_iff_not, Bool.or_eq_true, Bool.or_eq_false_iff, Bool.and_eq_true, Bool.and_eq_false_iff, Bool.not_eq_true', Bool.not_eq_false', bne_iff_ne, beq_iff_eq, bne_eq_false_iff_eq, beq_eq_false_iff_ne, ne_eq, Bool.not_true, Bool.not_false, Bool.false_eq_true, Bool.true_eq_false, inB_true, inB_false] at hd)))
    | refine ok_ret ?_
    | refine ok_exit ?_
    | refine ok_skip ?_
    | (refine ok_region (i := 10) ?_; refine ok_p rfl rfl rfl (by exact ps_move rfl rfl) ?_; refine ok_p rfl rfl rfl (by exact ps_field rfl rfl (by exact isw_ga _)) ?_; refine ok_p rfl rfl rfl (by exact ps_load rfl rfl (by exact Rds.cell (rds_box 0 rfl) rfl)) ?_; refine ok_p rfl rfl rfl (by exact ps_len rfl rfl) ?_; refine ok_p rfl rfl rfl (by exact ps_int rfl rfl rfl rfl) ?_; refine ok_nil ?_; refine ok_env [(1, _), (3, _), (5, _), (47, _)] ⟨rfl, rfl, rfl, rfl, trivial⟩ ?_)
    | (refine ok_region (i := 11) ?_; refine ok_p rfl rfl rfl (by exact ps_move rfl rfl) ?_; refine ok_p rfl rfl rfl (by exact ps_add rfl rfl rfl (by omega)) ?_; refine ok_p rfl rfl rfl (by exact ps_assign rfl rfl) ?_; refine ok_nil ?_; refine ok_env [(1, _), (3, _), (5, _)] ⟨rfl, rfl, rfl, trivial⟩ ?_)
    | (refine ok_region (i := 12) ?_; refine ok_p rfl rfl rfl (by exact ps_move rfl rfl) ?_; refine ok_p rfl rfl rfl (by exact ps_field rfl rfl (by exact isw_ga _)) ?_; refine ok_p rfl rfl rfl (by exact ps_load rfl rfl (by exact Rds.cell (rds_box 0 rfl) rfl)) ?_; refine ok_p rfl rfl rfl (by exact ps_move rfl rfl) ?_; refine ok_p rfl rfl rfl (by exact ps_indexN rfl rfl rfl (by omega) (by exact isw_of (isS_fl (by assumption) (by omega)))) ?_; refine ok_p rfl rfl rfl (by exact ps_load rfl rfl (by exact Rds.cell (rds_rf (by assumption) (by exact List.mem_cons_self)) (by exact fl_at0 _ _ (by omega) (by decide)))) ?_; refine ok_m rfl rfl rfl (by exact ms_s1 rfl rfl (fun _ _ w hw => sPiece_any _ (by have := deltaOk_szD HK.out k (by omega); omega) w)) ?_; rintro y56 hy56; refine ok_p rfl rfl rfl (by exact ps_sadd rfl rfl rfl (by have := deltaOk_szD HK.out k (by omega); have := rawD_size HK.out k hk; have := pieceS_size (nth D k); omega)) ?_; refine ok_p rfl rfl rfl (by exact ps_assign rfl rfl) ?_; refine ok_nil ?_; refine ok_env [(1, _), (3, _), (5, _)] ⟨rfl, rfl, rfl, trivial⟩ ?_)
    | (refine ok_region (i := 13) ?_; refine ok_p rfl rfl rfl (by exact ps_move rfl rfl) ?_; refine ok_p rfl rfl rfl (by exact ps_assign rfl rfl) ?_; refine ok_nil ?_; refine ok_env [(2, _)] ⟨rfl, trivial⟩ ?_))
  · rw [← rawD_step (by omega)]
    exact fun a w' he hw => ⟨⟨k + 1, by omega⟩, by simp only; omega, he.sub ⟨rfl, rfl, rfl, trivial⟩, hw⟩
  · obtain rfl : k = D.length := by omega
    exact ok_endL (vs := [_]) rfl ⟨rfl, trivial⟩ (fun w' hw => ⟨rfl, hw.below⟩)
structure ShI (n : Nat) where
  k : Nat
  A : Option Addr
  c : Nat
  hk : k ≤ n
theorem i_ShowDelta0 (A0 A1 : Option Addr) (c0 c1 : Nat) (U : List KV) (D : List ByteArray) (w : World) (h0 : Rd w A0 (fl U)) (h1 : Rd w A1 (fl D)) (m0 : U.length ≤ 1048576) (m1 : D.length ≤ 1048576) :
    Calls Try.prog 50 #[.agg #[.slice A0 U.length c0, .slice A1 D.length c1]] w fun e w' => e = .returned (.string (fShowDelta ⟨U, D⟩)) ∧ Below w.heap.size w w' := by
  refine ok_enter 49 Try.func50 rfl rfl rfl ?_
  repeat' (first
    | refine ok_seq ?_
    | refine ok_then ?_
    | refine ok_then_ret ?_
    | refine ok_block ?_
    | (refine ok_cond rfl (fun hc => ?_) (fun hc => ?_) <;> (have hd := hc; (try simp only [decide_eq_true_eq, decide_eq_false_iff_not, Bool.or_eq_true, Bool.or_eq_false_iff, Bool.and_eq_true, Bool.and_eq_false_iff, Bool.not_eq_true', Bool.not_eq_false', bne_iff_ne, beq_iff_eq, bne_eq_false_iff_eq, beq_eq_false_iff_ne, ne_eq, Bool.not_true, Bool.not_false, Bool.false_eq_true, Bool.true_eq_false, inB_true, inB_false] at hd)))
    | refine ok_ret ?_
    | refine ok_skip ?_
    | (refine ok_region (i := 0) ?_; refine ok_m rfl rfl rfl (by exact ms_box rfl rfl rfl) ?_; rintro y1 hy1; refine ok_p rfl rfl rfl (by exact ps_assign rfl rfl) ?_; refine ok_nil ?_; refine ok_env [(1, _)] ⟨rfl, trivial⟩ ?_)
    | (refine ok_region (i := 1) ?_; refine ok_p rfl rfl rfl (by exact ps_loads rfl rfl (by exact rds_box 0 rfl) rfl rfl (by decide)) ?_; refine ok_m rfl rfl rfl (by exact ms_s1 rfl rfl (fun _ _ w hw => i_DeltaOk A0 _ A1 _ U D w (rds_rf h0 (by exact List.mem_cons_self) _ _ w hw) (rds_rf h1 (by exact List.mem_cons_self) _ _ w hw) m0 m1)) ?_; rintro y9 hy9; refine ok_p rfl rfl rfl (by exact ps_not rfl rfl) ?_; refine ok_nil ?_; refine ok_env [(1, _), (10, _)] ⟨rfl, rfl, trivial⟩ ?_)
    | (refine ok_region (i := 2) ?_; refine ok_p rfl rfl rfl (by exact ps_assign rfl rfl) ?_; refine ok_nil ?_; refine ok_env [(2, _)] ⟨rfl, trivial⟩ ?_)
    | (refine ok_region (i := 3) ?_; refine ok_m rfl rfl rfl (by exact ms_alloc rfl) ?_; rintro y3 hy3; refine ok_nil ?_; refine ok_env [(1, _), (3, _)] ⟨rfl, rfl, trivial⟩ ?_)
    | (refine ok_region (i := 4) ?_; refine ok_p rfl rfl rfl (by exact ps_field rfl rfl (by exact isw_ga _)) ?_; refine ok_p rfl rfl rfl (by exact ps_load rfl rfl (by exact Rds.cell (rds_box 1 rfl) rfl)) ?_; refine ok_p rfl rfl rfl (by exact ps_len rfl rfl) ?_; refine ok_m rfl rfl rfl (by exact ms_s1 rfl rfl (fun _ _ w hw => xi_Var_v U.length (by omega) w)) ?_; rintro y14 hy14; refine ok_m rfl rfl rfl (by exact ms_w2 (fun _ _ _ h => h.bld0) rfl rfl rfl (fun _ _ w hw => bldW_c (y3 0).c _ _ _ _ (vS U.length) (.inl rfl) (by have := vS_size U.length; show 0 + _ ≤ _; omega) hw)) ?_; rintro y15 hy15; refine ok_nil ?_; refine ok_env [(1, _), (3, _)] ⟨rfl, rfl, trivial⟩ ?_)
    | (refine ok_region (i := 5) ?_; refine ok_p rfl rfl rfl (by exact ps_field rfl rfl (by exact isw_ga _)) ?_; refine ok_p rfl rfl rfl (by exact ps_load rfl rfl (by exact Rds.cell (rds_box 2 rfl) rfl)) ?_; refine ok_p rfl rfl rfl (by exact ps_len rfl rfl) ?_; refine ok_p rfl rfl rfl (by exact ps_move rfl rfl) ?_; refine ok_nil ?_; refine ok_env [(1, _), (3, _), (17, _), (18, _), (19, _)] ⟨rfl, rfl, rfl, rfl, rfl, trivial⟩ ?_))
  · rw [show_no hd]
    exact ok_endL (vs := [_]) rfl ⟨rfl, trivial⟩ (fun w' hw => ⟨rfl, hw.below⟩)
  have HK := Lib.hid hd
  rw [show_yes hd]
  clear hc hd
  have e0 : (⟨#[]⟩ : ByteArray) ++ vS U.length = rawU U 0 := by rw [rawU_zero]; exact ByteArray.empty_append
  rw [e0]
  refine ok_loop (ι := ShI U.length) (fun q => U.length - q.k) (fun q => ([(1, pt (ga (y1 0).c) 0), (3, pt (ga (y3 0).c) 0), (17, .slice A0 U.length c0), (18, .int .i64 U.length), (19, .int .i64 q.k)], [bldO (y3 0).c (.pointer (some ⟨(y3 0).c, 0, none⟩)) q.A (rawU U q.k).size q.c, .row 5 1 q.A (rawU U q.k).size q.c (byteVs (bl (rawU U q.k))), _], _)) ⟨0, none, 0, by omega⟩ (fun a w he hw => ⟨⟨0, _, _, by omega⟩, he.sub ⟨rfl, rfl, rfl, rfl, rfl, trivial⟩, hw⟩) ?_
  rintro ⟨k, A, c, hk⟩
  simp only at hk ⊢
  repeat' (first
    | refine ok_seq ?_
    | refine ok_then ?_
    | refine ok_block ?_
    | refine ok_in_normal ?_
    | (refine ok_cond rfl (fun hc => ?_) (fun hc => ?_) <;> (have hd := hc; (try simp only [decide_eq_true_eq, decide_eq_false_iff_not, Bool.or_eq_true, Bool.or_eq_false_iff, Bool.and_eq_true, Bool.and_eq_false_iff, Bool.not_eq_true', Bool.not_eq_false', bne_iff_ne, beq_iff_eq, bne_eq_false_iff_eq, beq_eq_false_iff_ne, ne_eq, Bool.not_true, Bool.not_false, Bool.false_eq_true, Bool.true_eq_false, inB_true, inB_false] at hd)))
    | refine ok_exit ?_
    | refine ok_skip ?_
    | (refine ok_region (i := 6) ?_; refine ok_p rfl rfl rfl (by exact ps_int rfl rfl rfl rfl) ?_; refine ok_nil ?_; refine ok_env [(1, _), (3, _), (17, _), (18, _), (19, _), (20, _)] ⟨rfl, rfl, rfl, rfl, rfl, rfl, trivial⟩ ?_)
    | (refine ok_region (i := 7) ?_; refine ok_p rfl rfl rfl (by exact ps_indexN rfl rfl rfl (by omega) (by exact isw_of (isS_fl (by assumption) (by omega)))) ?_; refine ok_p rfl rfl rfl (by exact ps_loadsF rfl rfl (by exact rds_rf (by assumption) (by exact List.mem_cons_self)) (by rfl) (by rfl) (by omega) rfl) ?_; refine ok_m rfl rfl rfl (by exact ms_alloc rfl) ?_; rintro y5 hy5; refine ok_m_ rfl rfl (by exact ms_store 0 rfl rfl rfl rfl rfl rfl rfl rfl) ?_; rintro y_ hy_; refine ok_nil ?_; refine ok_env [(1, _), (3, _), (5, _), (17, _), (18, _), (19, _)] ⟨rfl, rfl, rfl, rfl, rfl, rfl, trivial⟩ ?_)
    | (refine ok_draw (id := 8) 8 rfl (by kernel_rfl) (by kernel_rfl) rfl (by repeat (first | exact pq_body | refine pq_then ?_ | refine pq_in ?_)) [0] (by decide) rfl ?_; refine okT_take (i := 0) rfl (by kernel_rfl) rfl rfl rfl (by exact ps_field rfl rfl (by exact isw_ga _)) ?_; refine okT_take (i := 1) rfl (by kernel_rfl) rfl rfl rfl (by exact ps_load rfl rfl (by exact Rds.cell (rds_box 0 rfl) rfl)) ?_; refine okT_take (i := 3) rfl (by kernel_rfl) rfl rfl rfl (by exact ps_field rfl rfl (by exact isw_ga _)) ?_; refine okT_take (i := 4) rfl (by kernel_rfl) rfl rfl rfl (by exact ps_load rfl rfl (by exact Rds.cell (rds_box 0 rfl) rfl)) ?_; refine okT_one (i := 2) rfl rfl (by kernel_rfl) rfl rfl rfl (by exact ms_s1 rfl (by exact rfl) (fun _ _ w hw => iPiece_any _ (by have := mapOk_sz (deltaOk_map HK.out) k (by omega); omega) w)) (fun y w _ h => by exact h.sel [0] (by decide) rfl (fun _ h => h)) ?_; rintro y25 hy25; refine okT_one (i := 5) rfl rfl (by kernel_rfl) rfl rfl rfl (by exact ms_s1 rfl (by exact rfl) (fun _ _ w hw => iPiece_any _ (by have := mapOk_sz (deltaOk_map HK.out) k (by omega); omega) w)) (fun y w _ h => by exact h.sel [0] (by decide) rfl (fun _ h => h)) ?_; rintro y28 hy28; refine okT_take (i := 6) rfl (by kernel_rfl) rfl rfl rfl (by exact ps_sadd rfl (by exact rfl) (by exact rfl) (by have := mapOk_sz (deltaOk_map HK.out) k (by omega); have := pieceS_size (nth U k).key; have := pieceS_size (nth U k).val; omega)) ?_; refine okT_one (i := 7) rfl rfl (by kernel_rfl) rfl rfl rfl (by exact ms_w2 (fun _ _ _ h => (h.front 2 rfl).front 2 rfl) rfl rfl rfl (fun _ _ w hw => bldW_c (y3 0).c _ _ _ _ _ (.inr rfl) (by have := mapOk_sz (deltaOk_map HK.out) k (by omega); have := rawU_size (deltaOk_map HK.out) k hk; have := pieceS_size (nth U k).key; have := pieceS_size (nth U k).val; simp only [ByteArray.size_append]; omega) hw)) (fun y w _ h => by exact h.tl.tl.sel [0] (by decide) rfl (fun _ h => h)) ?_; rintro y30 hy30; refine okT_done (by kernel_rfl) ?_; refine ok_nil ?_; refine ok_env [(1, _), (3, _), (17, _), (18, _), (19, _)] ⟨rfl, rfl, rfl, rfl, rfl, trivial⟩ ?_)
    | (refine ok_region (i := 9) ?_; refine ok_p rfl rfl rfl (by exact ps_add rfl rfl rfl (by omega)) ?_; refine ok_p rfl rfl rfl (by exact ps_move rfl rfl) ?_; refine ok_nil ?_; refine ok_env [(1, _), (3, _), (17, _), (18, _), (19, _)] ⟨rfl, rfl, rfl, rfl, rfl, trivial⟩ ?_)
    | (refine ok_region (i := 10) ?_; refine ok_p rfl rfl rfl (by exact ps_field rfl rfl (by exact isw_ga _)) ?_; refine ok_p rfl rfl rfl (by exact ps_load rfl rfl (by exact Rds.cell (rds_box 2 rfl) rfl)) ?_; refine ok_p rfl rfl rfl (by exact ps_len rfl rfl) ?_; refine ok_m rfl rfl rfl (by exact ms_s1 rfl rfl (fun _ _ w hw => xi_Var_v D.length (by omega) w)) ?_; rintro y35 hy35; refine ok_m rfl rfl rfl (by exact ms_w2 (fun _ _ _ h => h) rfl rfl rfl (fun _ _ w hw => bldW_c (y3 0).c _ _ _ _ (vS D.length) (.inr rfl) (by have := vS_size D.length; have := rawU_size (deltaOk_map HK.out) k hk; omega) hw)) ?_; rintro y36 hy36; refine ok_nil ?_; refine ok_env [(1, _), (3, _)] ⟨rfl, rfl, trivial⟩ ?_)
    | (refine ok_region (i := 11) ?_; refine ok_p rfl rfl rfl (by exact ps_field rfl rfl (by exact isw_ga _)) ?_; refine ok_p rfl rfl rfl (by exact ps_load rfl rfl (by exact Rds.cell (rds_box 2 rfl) rfl)) ?_; refine ok_p rfl rfl rfl (by exact ps_len rfl rfl) ?_; refine ok_p rfl rfl rfl (by exact ps_move rfl rfl) ?_; refine ok_nil ?_; refine ok_env [(3, _), (38, _), (39, _), (40, _)] ⟨rfl, rfl, rfl, rfl, trivial⟩ ?_))
  · rw [← rawU_step (by omega)]
    exact fun a w' he hw => ⟨⟨k + 1, _, _, by omega⟩, by simp only; omega, he.sub ⟨rfl, rfl, rfl, rfl, rfl, trivial⟩, hw.sel [0, 1, 3] (by decide) rfl (fun _ h => h)⟩
  obtain rfl : k = U.length := by omega
  rw [← rawD_zero]
  have hne : 0 < (rawD U D D.length).size := by
    have := vS_pos U.length
    unfold rawD rawU
    simp only [ByteArray.size_append]
    omega
  refine ok_loop (ι := ShI D.length) (fun q => D.length - q.k) (fun q => ([(3, pt (ga (y3 0).c) 0), (38, .slice A1 D.length c1), (39, .int .i64 D.length), (40, .int .i64 q.k)], [bldO (y3 0).c (.pointer (some ⟨(y3 0).c, 0, none⟩)) q.A (rawD U D q.k).size q.c, .row 5 1 q.A (rawD U D q.k).size q.c (byteVs (bl (rawD U D q.k))), _], _)) ⟨0, none, 0, by omega⟩ (fun a w he hw => ⟨⟨0, _, _, by omega⟩, he.sub ⟨rfl, rfl, rfl, rfl, trivial⟩, hw⟩) ?_
  rintro ⟨k, A', c', hk⟩
  simp only at hk ⊢
  repeat' (first
    | refine ok_seq ?_
    | refine ok_then ?_
    | refine ok_block ?_
    | refine ok_in_normal ?_
    | (refine ok_cond rfl (fun hc => ?_) (fun hc => ?_) <;> (have hd := hc; (try simp only [decide_eq_true_eq, decide_eq_false_iff_not, Bool.or_eq_true, Bool.or_eq_false_iff, Bool.and_eq_true, Bool.and_eq_false_iff, Bool.not_eq_true', Bool.not_eq_false', bne_iff_ne, beq_iff_eq, bne_eq_false_iff_eq, beq_eq_false_iff_ne, ne_eq, Bool.not_true, Bool.not_false, Bool.false_eq_true, Bool.true_eq_false, inB_true, inB_false] at hd)))
    | refine ok_ret ?_
    | refine ok_exit ?_
    | refine ok_skip ?_
    | (refine ok_region (i := 12) ?_; refine ok_p rfl rfl rfl (by exact ps_int rfl rfl rfl rfl) ?_; refine ok_nil ?_; refine ok_env [(3, _), (38, _), (39, _), (40, _), (41, _)] ⟨rfl, rfl, rfl, rfl, rfl, trivial⟩ ?_)
    | (refine ok_region (i := 13) ?_; refine ok_p rfl rfl rfl (by exact ps_indexN rfl rfl rfl (by omega) (by exact isw_of (isS_fl (by assumption) (by omega)))) ?_; refine ok_p rfl rfl rfl (by exact ps_load rfl rfl (by exact Rds.cell (rds_rf (by assumption) (by exact List.mem_cons_self)) (by exact fl_at0 _ _ (by omega) (by decide)))) ?_; refine ok_p rfl rfl rfl (by exact ps_assign rfl rfl) ?_; refine ok_nil ?_; refine ok_env [(3, _), (7, _), (38, _), (39, _), (40, _)] ⟨rfl, rfl, rfl, rfl, rfl, trivial⟩ ?_)
    | (refine ok_region (i := 14) ?_; refine ok_p rfl rfl rfl (by exact ps_move rfl rfl) ?_; refine ok_m rfl rfl rfl (by exact ms_s1 rfl rfl (fun _ _ w hw => iPiece_any _ (by have := deltaOk_szD HK.out k (by omega); omega) w)) ?_; rintro y45 hy45; refine ok_m rfl rfl rfl (by exact ms_w2 (fun _ _ _ h => h) rfl rfl rfl (fun _ _ w hw => bldW_c (y3 0).c _ _ _ _ _ (.inr rfl) (by have := deltaOk_szD HK.out k (by omega); have := rawD_size HK.out k hk; have := pieceS_size (nth D k); omega) hw)) ?_; rintro y46 hy46; refine ok_nil ?_; refine ok_env [(3, _), (38, _), (39, _), (40, _)] ⟨rfl, rfl, rfl, rfl, trivial⟩ ?_)
    | (refine ok_region (i := 15) ?_; refine ok_p rfl rfl rfl (by exact ps_add rfl rfl rfl (by omega)) ?_; refine ok_p rfl rfl rfl (by exact ps_move rfl rfl) ?_; refine ok_nil ?_; refine ok_env [(3, _), (38, _), (39, _), (40, _)] ⟨rfl, rfl, rfl, rfl, trivial⟩ ?_)
    | (refine ok_region (i := 16) ?_; refine ok_m rfl rfl rfl (by exact ms_noG (ms_w1 (fun _ _ _ h => h) rfl rfl (fun _ _ w hw => bldS_c (y3 0).c _ _ _ (rawD U D k) (.inr rfl) (by (have e : k = D.length := by omega); rw [e]; exact hne) hw))) ?_; rintro y48 hy48; refine ok_p rfl rfl rfl (by exact ps_assign rfl rfl) ?_; refine ok_nil ?_; refine ok_env [(2, _)] ⟨rfl, trivial⟩ ?_))
  · rw [← rawD_step (by omega)]
    exact fun a w' he hw => ⟨⟨k + 1, _, _, by omega⟩, by simp only; omega, he.sub ⟨rfl, rfl, rfl, rfl, trivial⟩, hw⟩
  · obtain rfl : k = D.length := by omega
    exact ok_endL (vs := [_]) rfl ⟨rfl, trivial⟩ (fun w' hw => ⟨rfl, hw.below⟩)
theorem i_ShowDelta (x : DDelta) (y : Ys) (w : World) (h : Delta_rd w x y) (hs : Delta_sm x) :
    Calls Try.prog 50 #[Delta_val x y] w fun e w' => e = .returned (.string (fShowDelta x)) ∧ Below w.heap.size w w' := i_ShowDelta0 _ _ _ _ x.U x.D w h.1 h.2 hs.1.1 hs.2.1
theorem s_ShowDelta (x : DDelta) (y : Ys) (w : World) (h : Delta_rd w x y) (hs : Delta_sm x) :
    Calls Try.prog 48 #[Delta_val x y] w fun e w' => e = .returned (.string (fShowDelta x)) ∧ Below w.heap.size w w' := s_ShowDelta0 _ _ _ _ x.U x.D w h.1 h.2 hs.1.1 hs.2.1
end Go.Proofs.Ytfcnimglcialbaa
/- The slot of a text, in plain Lean: both ways of reading it agree. -/
namespace Go.Proofs.Ytfcnimglcialbaa
set_option linter.unusedVariables false
def one0 (s : ByteArray) : Option (Nat × ByteArray) := (tkV s 4).bind fun p => (tkW s p.2).map fun q => (p.1, q.1)
def one (s : ByteArray) : Option (Nat × ByteArray) := (one0 s).bind fun p => if showS p.1 p.2 = s then some p else none
abbrev tl4 (s : ByteArray) : ByteArray := s.extract 4 s.size
def unF (s : ByteArray) : ByteArray × Bool := if 4 ≤ s.size ∧ fS (crcF (tl4 s)) = s.extract 0 4 then (tl4 s, true) else (⟨#[]⟩, false)
theorem tl4_size (s : ByteArray) : (tl4 s).size = s.size - 4 := by rw [ByteArray.size_extract]; omega
theorem tl4_bl (s : ByteArray) : bl (tl4 s) = (bl s).drop 4 := by
  rw [bl_extract, List.take_of_length_le (by rw [bl_len]; omega)]
theorem tl4_N (s : ByteArray) (k : Nat) : tkN (tl4 s) k = (tkN s (4 + k)).map fun p => (p.1, p.2 - 4) := by
  unfold tkN
  rw [tl4_bl, List.drop_drop]
  cases rv ((bl s).drop (4 + k)) with
  | none => rfl
  | some p => simp; omega
theorem tl4_S (s : ByteArray) (k : Nat) (h4 : 4 ≤ s.size) : tkS (tl4 s) k = (tkS s (4 + k)).map fun p => (p.1, p.2 - 4) := by
  unfold tkS
  rw [tl4_N]
  cases hn : tkN s (4 + k) with
  | none => rfl
  | some p =>
    obtain ⟨n, e⟩ := p
    have := (tkN_some hn).1
    simp only [Option.map_some, Option.bind_some, tl4_size]
    by_cases hle : e + n ≤ s.size
    · rw [if_pos (by omega), if_pos hle]
      simp only [Option.map_some, Option.some.injEq, Prod.mk.injEq]
      refine ⟨?_, by omega⟩
      apply bl_ext
      rw [bl_extract (tl4 s) (e - 4) (e - 4 + n), tl4_bl, bl_extract s e (e + n), List.drop_take, List.drop_take, List.drop_drop, show 4 + (e - 4) = e by omega]
      congr 1; omega
    · rw [if_neg (by omega), if_neg hle]; rfl
theorem showS_eq {n : Nat} {r s : ByteArray} (h : showS n r = s) (h4 : 0 < s.size) : s = sumS (vS n ++ pieceS r) := by
  unfold showS at h
  split at h
  · rw [← h, Int.toNat_natCast]
  · subst h; exact absurd h4 (by decide)
theorem sumS_parts (t : ByteArray) : (sumS t).extract 0 4 = fS (crcF t) ∧ tl4 (sumS t) = t ∧ 4 ≤ (sumS t).size := by
  have hz := fS_size (crcF t)
  have hl : (bl (fS (crcF t))).length = 4 := by rw [bl_len, hz]
  refine ⟨?_, ?_, ?_⟩
  · apply bl_ext
    rw [bl_extract, sumS, bl_app, List.drop_zero, List.take_left' hl]
  · apply bl_ext
    rw [tl4_bl, sumS, bl_app, List.drop_left' hl]
  · rw [sumS, ByteArray.size_append, hz]; omega
/-- The two readers. -/
abbrev rN (s : ByteArray) := rdN (tl4 s) 0 false
abbrev rS (s : ByteArray) := rdS (tl4 s) (rN s).2.1 (rN s).2.2
theorem rdD_true {s : ByteArray} {k : Nat} {b : Bool} : rdD s k b = true ↔ b = false ∧ k = s.size := by
  unfold rdD
  simp
  intro _
  omega
theorem one_iff (s : ByteArray) (n : Nat) (r : ByteArray) : one s = some (n, r) ↔ (4 ≤ s.size ∧ fS (crcF (tl4 s)) = s.extract 0 4) ∧ rdD (tl4 s) (rS s).2.1 (rS s).2.2 = true ∧ showS (rN s).1 (rS s).1 = s ∧ (rN s).1 = n ∧ (rS s).1 = r := by
  constructor
  · intro h
    unfold one one0 at h
    cases hv : tkV s 4 with
    | none => rw [hv] at h; cases h
    | some p =>
      obtain ⟨n', q⟩ := p
      have hq := tkV_le hv
      rw [hv] at h
      simp only [Option.bind_some] at h
      unfold tkV at hv
      split at hv
      case isFalse => cases hv
      rename_i h4
      have h4' : 4 ≤ s.size := by omega
      cases hw : tkW s q with
      | none => rw [hw] at h; cases h
      | some p2 =>
        obtain ⟨r', e⟩ := p2
        rw [hw] at h
        simp only [Option.map_some, Option.bind_some] at h
        split at h
        case isFalse => cases h
        rename_i hs
        cases h
        unfold tkW at hw
        rw [if_pos (by omega), Int.toNat_natCast] at hw
        have hN : tkN s 4 = some (n, q) := hv
        have es := showS_eq hs (by omega)
        have hp := sumS_parts (vS n ++ pieceS r)
        rw [← es] at hp
        obtain ⟨p1, p2, p3⟩ := hp
        obtain ⟨a1, a2, a3, a4, a5⟩ := tkN_some hN
        obtain ⟨b1, b2, b3⟩ := tkS_some hw
        have eN : rN s = (n, q - 4, false) := by
          unfold rN rdN
          rw [if_neg (by simp), tl4_N, Nat.add_zero, hN]; rfl
        have eS : rS s = (r, e - 4, false) := by
          unfold rS
          rw [eN]
          refine (rdS_tk (tl4 s) (q - 4)).2 r (e - 4) ?_
          rw [tl4_S s (q - 4) h4', show 4 + (q - 4) = q by omega, hw]; rfl
        have hend : e = s.size := by
          have e1 : (bl s).drop 4 = varL n ++ bl (pieceS r) := by
            rw [← tl4_bl, p2, bl_app]; rfl
          rw [a5, b3, List.append_cancel_left_eq] at e1
          have := congrArg List.length e1
          simp only [List.length_append, List.length_drop, bl_len] at this
          omega
        rw [eN, eS]
        refine ⟨⟨h4', by rw [p2]; exact p1.symm⟩, rdD_true.2 ⟨rfl, by simp only [tl4_size]; omega⟩, hs, rfl, rfl⟩
  · rintro ⟨⟨h4, hc⟩, hd, hs, rfl, rfl⟩
    obtain ⟨hb, hk⟩ := rdD_true.1 hd
    have hNb : (rN s).2.2 = false := by
      cases h : (rN s).2.2 with
      | false => rfl
      | true => rw [show rS s = rdS (tl4 s) (rN s).2.1 (rN s).2.2 from rfl, h, rdS_bad] at hb; cases hb
    unfold rN rdN at hNb
    rw [if_neg (by simp)] at hNb
    cases hN : tkN s 4 with
    | none => rw [tl4_N, Nat.add_zero, hN] at hNb; cases hNb
    | some p =>
      obtain ⟨n, q⟩ := p
      have eN : rN s = (n, q - 4, false) := by
        unfold rN rdN
        rw [if_neg (by simp), tl4_N, Nat.add_zero, hN]; rfl
      obtain ⟨a1, a2, a3, a4, a5⟩ := tkN_some hN
      have hb2 : (rdS (tl4 s) (q - 4) false).2.2 = false := by
        have := hb
        rw [show rS s = rdS (tl4 s) (rN s).2.1 (rN s).2.2 from rfl, eN] at this
        exact this
      rw [(rdS_tk _ _).1, tl4_S s (q - 4) h4, show 4 + (q - 4) = q by omega] at hb2
      cases hS : tkS s q with
      | none => rw [hS] at hb2; cases hb2
      | some p2 =>
        obtain ⟨r, e⟩ := p2
        have eS : rS s = (r, e - 4, false) := by
          unfold rS
          rw [eN]
          refine (rdS_tk (tl4 s) (q - 4)).2 r (e - 4) ?_
          rw [tl4_S s (q - 4) h4, show 4 + (q - 4) = q by omega, hS]; rfl
        rw [eN, eS] at hs ⊢
        unfold one one0 tkV
        rw [if_pos (by omega)]
        have : tkN s (Int.toNat 4) = some (n, q) := hN
        rw [this]
        simp only [Option.bind_some]
        unfold tkW
        rw [if_pos (by omega), Int.toNat_natCast, hS]
        simp only [Option.map_some, Option.bind_some]
        rw [if_pos hs]
end Go.Proofs.Ytfcnimglcialbaa
/- ReadDelta of both programs. -/
namespace Go.Proofs.Ytfcnimglcialbaa
open Go.RowKit
set_option maxHeartbeats 4000000
set_option maxRecDepth 20000
set_option linter.unusedVariables false
set_option linter.unusedSimpArgs false
attribute [local irreducible] Calls
theorem tkE_le (s : ByteArray) (z : Int) : -1 ≤ tkE (tkW s z) ∧ tkE (tkW s z) ≤ s.size := by
  unfold tkW
  split
  · cases h : tkS s z.toNat with
    | none => simp only [tkE]; omega
    | some p => obtain ⟨r, e⟩ := p; have := tkS_some h; simp only [tkE]; omega
  · simp only [tkE]; omega
theorem tkW_nat {s : ByteArray} {k : Nat} (h : k ≤ s.size) : tkW s (k : Int) = tkS s k := by
  unfold tkW; rw [if_pos ⟨by omega, by omega⟩, Int.toNat_natCast]
theorem tkV_nat {s : ByteArray} {k : Nat} (h : k ≤ s.size) : tkV s (k : Int) = tkN s k := by
  unfold tkV; rw [if_pos ⟨by omega, by omega⟩, Int.toNat_natCast]
theorem tkW_neg {s : ByteArray} : tkE (tkW s (-1)) = -1 := by unfold tkW; rw [if_neg (by omega)]; rfl
/-- Two pieces, one behind the other. -/
theorem tk2_no {s : ByteArray} {k n : Nat} {L : List KV} (hk : k ≤ s.size) (h : tkE (tkW s (tkE (tkW s k))) < 0) : pKV s (n + 1) k L = none := by
  rw [pKV]
  rw [tkW_nat hk] at h
  cases h1 : tkS s k with
  | none => rfl
  | some p =>
    obtain ⟨r, e⟩ := p
    have h2 := tkS_some h1
    rw [h1] at h
    simp only [tkE] at h
    rw [tkW_nat h2.2.1] at h
    simp only [Option.bind_some]
    cases h3 : tkS s e with
    | none => rfl
    | some q => rw [h3] at h; simp only [tkE] at h; omega
theorem tk2_yes {s : ByteArray} {k n : Nat} {L : List KV} (hk : k ≤ s.size) (h : ¬ tkE (tkW s (tkE (tkW s k))) < 0) : ∃ e : Nat, tkE (tkW s (tkE (tkW s k))) = e ∧ k + 2 ≤ e ∧ e ≤ s.size ∧ pKV s (n + 1) k L = pKV s n e (L ++ [⟨tkT (tkW s k), tkT (tkW s (tkE (tkW s k)))⟩]) := by
  rw [pKV]
  rw [tkW_nat hk] at h ⊢
  cases h1 : tkS s k with
  | none => rw [h1] at h; simp only [tkE] at h; exact absurd (show tkE (tkW s (-1)) < 0 by rw [tkW_neg]; decide) h
  | some p =>
    obtain ⟨r, e⟩ := p
    have h2 := tkS_some h1
    rw [h1] at h
    simp only [tkE] at h ⊢
    rw [tkW_nat h2.2.1] at h ⊢
    simp only [Option.bind_some]
    cases h3 : tkS s e with
    | none => rw [h3] at h; exact absurd (show (-1 : Int) < 0 by decide) h
    | some q =>
      obtain ⟨t, b⟩ := q
      have h4 := tkS_some h3
      exact ⟨b, rfl, by omega, h4.2.1, rfl⟩
theorem tk1_no {s : ByteArray} {k n : Nat} {L : List ByteArray} (hk : k ≤ s.size) (h : tkE (tkW s k) < 0) : pST s (n + 1) k L = none := by
  rw [pST]
  rw [tkW_nat hk] at h
  cases h1 : tkS s k with
  | none => rfl
  | some p => rw [h1] at h; simp only [tkE] at h; omega
theorem tk1_yes {s : ByteArray} {k n : Nat} {L : List ByteArray} (hk : k ≤ s.size) (h : ¬ tkE (tkW s k) < 0) : ∃ e : Nat, tkE (tkW s k) = e ∧ k + 1 ≤ e ∧ e ≤ s.size ∧ pST s (n + 1) k L = pST s n e (L ++ [tkT (tkW s k)]) := by
  rw [pST]
  rw [tkW_nat hk] at h ⊢
  cases h1 : tkS s k with
  | none => rw [h1] at h; exact absurd (show (-1 : Int) < 0 by decide) h
  | some p =>
    obtain ⟨r, e⟩ := p
    have h2 := tkS_some h1
    exact ⟨e, rfl, by omega, h2.2.1, rfl⟩
structure RdA (s : ByteArray) (n : Nat) where
  i : Nat
  k : Nat
  L : List KV
  A : Option Addr
  c : Nat
  hi : L.length = i ∧ i ≤ n
  hk : k ≤ s.size ∧ L.length ≤ k
  ok : pKV s (n - i) k L = pU s
structure RdB (s : ByteArray) (n : Nat) (P : Option (List ByteArray × Nat)) where
  i : Nat
  k : Nat
  L : List ByteArray
  A : Option Addr
  c : Nat
  hi : L.length = i ∧ i ≤ n
  hk : k ≤ s.size ∧ L.length ≤ k
  ok : pST s (n - i) k L = P
attribute [local irreducible] fShowDelta
theorem s_ReadDelta (s : ByteArray) (w : World) (hs : s.size ≤ 1048576) :
    Calls Try.prog 65 #[.string s] w fun e w' => ∃ y : Ys, e = .returned (.tuple #[Delta_val (fReadDelta s).1 y, .bool (fReadDelta s).2]) ∧ True ∧ Below w.heap.size w w' ∧ NewOk w.heap.size (Delta_obj (fReadDelta s).1 y) [] w' := by
  have v0 : tkV s 0 = tkN s 0 := tkV_nat (k := 0) (Nat.zero_le _)
  cases h0 : tkN s 0 with
  | none =>
    have eU : pU s = none := by unfold pU; rw [h0]; rfl
    rw [read_none (pU_none eU)]
    refine ok_enter 93 Try.func65 rfl rfl rfl ?_
    repeat' (first
      | refine ok_seq ?_
      | refine ok_then ?_
      | refine ok_then_ret ?_
      | refine ok_block ?_
      | (refine ok_cond rfl (fun hc => ?_) (fun hc => ?_) <;> (have hd := hc; (try simp only [decide_eq_true_eq, decide_eq_false_iff_not, Bool.or_eq_true, Bool.or_eq_false_iff, Bool.and_eq_true, Bool.and_eq_false_iff, Bool.not_eq_true', Bool.not_eq_false', bne_iff_ne, beq_iff_eq, bne_eq_false_iff_eq, beq_eq_false_iff_ne, ne_eq, Bool.not_true, Bool.not_false, Bool.false_eq_true, Bool.true_eq_false, inB_true, inB_false] at hd)))
      | refine ok_ret ?_
      | refine ok_skip ?_
      | (refine ok_region (i := 0) ?_; refine ok_m rfl rfl rfl (by exact ms_alloc rfl) ?_; rintro y2 hy2; refine ok_p rfl rfl rfl (by exact ps_assign rfl rfl) ?_; refine ok_nil ?_; refine ok_env [(0, _), (2, _)] ⟨rfl, rfl, trivial⟩ ?_)
      | (refine ok_region (i := 1) ?_; refine ok_p rfl rfl rfl (by exact ps_bld rfl parts_nil rfl) ?_; refine ok_m rfl rfl rfl (by exact ms_alloc rfl) ?_; rintro y4 hy4; refine ok_m_ rfl rfl (by exact ms_store 0 rfl rfl rfl rfl rfl rfl rfl rfl) ?_; rintro y_ hy_; refine ok_nil ?_; refine ok_env [(0, _), (2, _), (4, _)] ⟨rfl, rfl, rfl, trivial⟩ ?_)
      | (refine ok_region (i := 2) ?_; refine ok_p rfl rfl rfl (by exact ps_move rfl rfl) ?_; refine ok_m rfl rfl rfl (by exact ms_c3 rfl rfl rfl rfl (fun _ _ w hw => s_l6Vars_no s 0 (by omega) (by omega) (v0.trans h0) w)) ?_; rintro y18 hy18; refine ok_p rfl rfl rfl (by exact ps_move rfl rfl) ?_; refine ok_p rfl rfl rfl (by exact ps_extract rfl rfl rfl) ?_; refine ok_p rfl rfl rfl (by exact ps_extract rfl rfl rfl) ?_; refine ok_p rfl rfl rfl (by exact ps_assign rfl rfl) ?_; refine ok_p rfl rfl rfl (by exact ps_assign rfl rfl) ?_; refine ok_nil ?_; refine ok_env [(0, _), (2, _), (4, _), (5, _), (6, _)] ⟨rfl, rfl, rfl, rfl, rfl, trivial⟩ ?_)
      | (refine ok_region (i := 3) ?_; refine ok_p rfl rfl rfl (by exact ps_move rfl rfl) ?_; refine ok_p rfl rfl rfl (by exact ps_int rfl rfl rfl rfl) ?_; refine ok_nil ?_; refine ok_env [(0, _), (2, _), (4, _), (5, _), (6, _), (22, _)] ⟨rfl, rfl, rfl, rfl, rfl, rfl, trivial⟩ ?_)
      | (refine ok_region (i := 4) ?_; refine ok_p rfl rfl rfl (by exact ps_loads rfl rfl (by exact rds_box 1 rfl) rfl rfl (by decide)) ?_; refine ok_m_ rfl rfl (by exact ms_store 2 rfl rfl rfl rfl rfl rfl rfl rfl) ?_; rintro y_ hy_; refine ok_p rfl rfl rfl (by exact ps_assign rfl rfl) ?_; refine ok_nil ?_; refine ok_env [(2, _), (3, _)] ⟨rfl, rfl, trivial⟩ ?_)
      | (refine ok_region (i := 5) ?_; refine ok_p rfl rfl rfl (by exact ps_assign rfl rfl) ?_; refine ok_nil ?_; refine ok_env [(0, _), (2, _), (4, _), (5, _), (6, _), (7, _)] ⟨rfl, rfl, rfl, rfl, rfl, rfl, trivial⟩ ?_))
    · refine ok_endL (vs := [_, _]) rfl ⟨⟨_, 2, _, _, _, rfl, rfl, inferInstance, rfl, rfl⟩, rfl, trivial⟩ (fun w' hw => ?_)
      exact ⟨mkY none 0 w', rfl, trivial, hw.below, own_nilD _ _⟩
    · exfalso; omega
  | some p =>
    obtain ⟨n, a⟩ := p
    have hn := tkN_some h0
    have e0 : pKV s n a [] = pU s := by unfold pU; rw [h0]; rfl
    obtain ⟨LN, hLN⟩ : ∃ L, L = [(n : Int)] := ⟨_, rfl⟩
    have hLN1 : LN.length = 1 := by rw [hLN]; rfl
    have hLN2 : nth LN (Int.toNat 0) = n := by rw [hLN]; rfl
    refine ok_enter 93 Try.func65 rfl rfl rfl ?_
    repeat' (first
      | refine ok_seq ?_
      | refine ok_then ?_
      | refine ok_then_ret ?_
      | refine ok_block ?_
      | (refine ok_cond rfl (fun hc => ?_) (fun hc => ?_) <;> (have hd := hc; (try simp only [decide_eq_true_eq, decide_eq_false_iff_not, Bool.or_eq_true, Bool.or_eq_false_iff, Bool.and_eq_true, Bool.and_eq_false_iff, Bool.not_eq_true', Bool.not_eq_false', bne_iff_ne, beq_iff_eq, bne_eq_false_iff_eq, beq_eq_false_iff_ne, ne_eq, Bool.not_true, Bool.not_false, Bool.false_eq_true, Bool.true_eq_false, inB_true, inB_false] at hd)))
      | refine ok_ret ?_
      | refine ok_skip ?_
      | (refine ok_region (i := 0) ?_; refine ok_m rfl rfl rfl (by exact ms_alloc rfl) ?_; rintro y2 hy2; refine ok_p rfl rfl rfl (by exact ps_assign rfl rfl) ?_; refine ok_nil ?_; refine ok_env [(0, _), (2, _)] ⟨rfl, rfl, trivial⟩ ?_)
      | (refine ok_region (i := 1) ?_; refine ok_p rfl rfl rfl (by exact ps_bld rfl parts_nil rfl) ?_; refine ok_m rfl rfl rfl (by exact ms_alloc rfl) ?_; rintro y4 hy4; refine ok_m_ rfl rfl (by exact ms_store 0 rfl rfl rfl rfl rfl rfl rfl rfl) ?_; rintro y_ hy_; refine ok_nil ?_; refine ok_env [(0, _), (2, _), (4, _)] ⟨rfl, rfl, rfl, trivial⟩ ?_)
      | (refine ok_region (i := 2) ?_; refine ok_p rfl rfl rfl (by exact ps_move rfl rfl) ?_; refine ok_m rfl rfl rfl (by exact ms_c3 rfl rfl rfl rfl (fun _ _ w hw => s_l6Vars_yes s 0 n a LN hLN (by omega) (by omega) (v0.trans h0) w)) ?_; rintro y18 hy18; refine ok_p rfl rfl rfl (by exact ps_move rfl rfl) ?_; refine ok_p rfl rfl rfl (by exact ps_extract rfl rfl rfl) ?_; refine ok_p rfl rfl rfl (by exact ps_extract rfl rfl rfl) ?_; refine ok_p rfl rfl rfl (by exact ps_assign rfl rfl) ?_; refine ok_p rfl rfl rfl (by exact ps_assign rfl rfl) ?_; refine ok_nil ?_; refine ok_env [(0, _), (2, _), (4, _), (5, _), (6, _)] ⟨rfl, rfl, rfl, rfl, rfl, trivial⟩ ?_)
      | (refine ok_region (i := 3) ?_; refine ok_p rfl rfl rfl (by exact ps_move rfl rfl) ?_; refine ok_p rfl rfl rfl (by exact ps_int rfl rfl rfl rfl) ?_; refine ok_nil ?_; refine ok_env [(0, _), (2, _), (4, _), (5, _), (6, _), (22, _)] ⟨rfl, rfl, rfl, rfl, rfl, rfl, trivial⟩ ?_)
      | (refine ok_region (i := 4) ?_; refine ok_p rfl rfl rfl (by exact ps_loads rfl rfl (by exact rds_box 1 rfl) rfl rfl (by decide)) ?_; refine ok_m_ rfl rfl (by exact ms_store 2 rfl rfl rfl rfl rfl rfl rfl rfl) ?_; rintro y_ hy_; refine ok_p rfl rfl rfl (by exact ps_assign rfl rfl) ?_; refine ok_nil ?_; refine ok_env [(2, _), (3, _)] ⟨rfl, rfl, trivial⟩ ?_)
      | (refine ok_region (i := 5) ?_; refine ok_p rfl rfl rfl (by exact ps_assign rfl rfl) ?_; refine ok_nil ?_; refine ok_env [(0, _), (2, _), (4, _), (5, _), (6, _), (7, _)] ⟨rfl, rfl, rfl, rfl, rfl, rfl, trivial⟩ ?_))
    · exfalso; omega
    refine ok_loop (ι := RdA s n) (fun q => s.size - q.k) (fun q => ([(0, .string s), (2, pt (ga (y2 0).c) 0), (4, pt (ga (y4 0).c) 0), (5, .slice (y18 0).A 1 (y18 0).c), (6, .int .i64 q.k), (7, .int .i64 q.i)], [.row 162 2 q.A q.L.length q.c (fl q.L), .box (y4 0).c 69 [.slice q.A q.L.length q.c, .slice none 0 0], _, _], _)) ⟨0, a, [], none, 0, by simp, by simp; omega, e0⟩ (fun a' w he hw => ⟨⟨0, a, [], none, 0, by simp, by simp; omega, e0⟩, he.sub ⟨rfl, rfl, rfl, rfl, rfl, rfl, trivial⟩, (hw.front 1 rfl).rowNil 162 2⟩) ?_
    rintro ⟨i, k, L, A, c, hi, hk, ok⟩
    simp only at hi hk ok ⊢
    have OK := Lib.hid ok; clear ok
    have t1 := tkE_le s k
    repeat' (first
      | refine ok_seq ?_
      | refine ok_then ?_
      | refine ok_then_ret ?_
      | refine ok_block ?_
      | refine ok_in_normal ?_
      | refine ok_in_ret ?_
      | (refine ok_cond rfl (fun hc => ?_) (fun hc => ?_) <;> (have hd := hc; (try simp only [decide_eq_true_eq, decide_eq_false_iff_not, Bool.or_eq_true, Bool.or_eq_false_iff, Bool.and_eq_true, Bool.and_eq_false_iff, Bool.not_eq_true', Bool.not_eq_false', bne_iff_ne, beq_iff_eq, bne_eq_false_iff_eq, beq_eq_false_iff_ne, ne_eq, Bool.not_true, Bool.not_false, Bool.false_eq_true, Bool.true_eq_false, inB_true, inB_false] at hd)))
      | refine ok_ret ?_
      | refine ok_exit ?_
      | refine ok_skip ?_
      | (refine ok_region (i := 6) ?_; refine ok_p rfl rfl rfl (by exact ps_move rfl rfl) ?_; refine ok_p rfl rfl rfl (by exact ps_move rfl rfl) ?_; refine ok_p rfl rfl rfl (by exact ps_index rfl rfl rfl (by omega) (by exact isw_row 2 rfl (by omega))) ?_; refine ok_p rfl rfl rfl (by exact ps_load rfl rfl (by exact Rds.cell (rds_row 2 rfl) (by exact fl_at0 _ _ (by omega) (by decide)))) ?_; refine ok_p rfl rfl rfl (by exact ps_int rfl rfl rfl rfl) ?_; refine ok_nil ?_; refine ok_env [(0, _), (2, _), (4, _), (5, _), (6, _), (7, _), (28, _)] ⟨rfl, rfl, rfl, rfl, rfl, rfl, rfl, trivial⟩ ?_)
      | (refine ok_region (i := 7) ?_; refine ok_p rfl rfl rfl (by exact ps_move rfl rfl) ?_; refine ok_p rfl rfl rfl (by exact ps_add rfl rfl rfl (by omega)) ?_; refine ok_p rfl rfl rfl (by exact ps_assign rfl rfl) ?_; refine ok_nil ?_; refine ok_env [(0, _), (2, _), (4, _), (5, _), (6, _), (7, _)] ⟨rfl, rfl, rfl, rfl, rfl, rfl, trivial⟩ ?_)
      | (refine ok_region (i := 8) ?_; refine ok_p rfl rfl rfl (by exact ps_move rfl rfl) ?_; refine ok_p rfl rfl rfl (by exact ps_move rfl rfl) ?_; refine ok_m rfl rfl rfl (by exact ms_s2 rfl rfl rfl (fun _ _ w hw => s_l6Take_c s k (by omega) (by omega) w)) ?_; rintro y34 hy34; refine ok_p rfl rfl rfl (by exact ps_move rfl rfl) ?_; refine ok_p rfl rfl rfl (by exact ps_extract rfl rfl rfl) ?_; refine ok_p rfl rfl rfl (by exact ps_extract rfl rfl rfl) ?_; refine ok_p rfl rfl rfl (by exact ps_assign rfl rfl) ?_; refine ok_p rfl rfl rfl (by exact ps_assign rfl rfl) ?_; refine ok_nil ?_; refine ok_env [(0, _), (2, _), (4, _), (5, _), (7, _), (8, _), (9, _)] ⟨rfl, rfl, rfl, rfl, rfl, rfl, rfl, trivial⟩ ?_)
      | (refine ok_region (i := 9) ?_; refine ok_p rfl rfl rfl (by exact ps_move rfl rfl) ?_; refine ok_p rfl rfl rfl (by exact ps_move rfl rfl) ?_; refine ok_m rfl rfl rfl (by exact ms_s2 rfl rfl rfl (fun _ _ w hw => s_l6Take_c s _ (by omega) (by omega) w)) ?_; rintro y40 hy40; refine ok_p rfl rfl rfl (by exact ps_move rfl rfl) ?_; refine ok_p rfl rfl rfl (by exact ps_extract rfl rfl rfl) ?_; refine ok_p rfl rfl rfl (by exact ps_extract rfl rfl rfl) ?_; refine ok_p rfl rfl rfl (by exact ps_assign rfl rfl) ?_; refine ok_p rfl rfl rfl (by exact ps_assign rfl rfl) ?_; refine ok_nil ?_; refine ok_env [(0, _), (2, _), (4, _), (5, _), (7, _), (8, _), (9, _), (10, _)] ⟨rfl, rfl, rfl, rfl, rfl, rfl, rfl, rfl, trivial⟩ ?_)
      | (refine ok_region (i := 10) ?_; refine ok_p rfl rfl rfl (by exact ps_move rfl rfl) ?_; refine ok_p rfl rfl rfl (by exact ps_int rfl rfl rfl rfl) ?_; refine ok_nil ?_; refine ok_env [(0, _), (2, _), (4, _), (5, _), (7, _), (8, _), (9, _), (10, _), (44, _)] ⟨rfl, rfl, rfl, rfl, rfl, rfl, rfl, rfl, rfl, trivial⟩ ?_)
      | (refine ok_region (i := 11) ?_; refine ok_p rfl rfl rfl (by exact ps_bld rfl parts_nil rfl) ?_; refine ok_m_ rfl rfl (by exact ms_store 3 rfl rfl rfl rfl rfl rfl rfl rfl) ?_; rintro y_ hy_; refine ok_p rfl rfl rfl (by exact ps_assign rfl rfl) ?_; refine ok_nil ?_; refine ok_env [(2, _), (3, _)] ⟨rfl, rfl, trivial⟩ ?_)
      | (refine ok_region (i := 12) ?_; refine ok_p rfl rfl rfl (by exact ps_field rfl rfl (by exact isw_ga _)) ?_; refine ok_p rfl rfl rfl (by exact ps_load rfl rfl (by exact Rds.cell (rds_box 1 rfl) rfl)) ?_; refine ok_p rfl rfl rfl (by exact ps_move rfl rfl) ?_; refine ok_p rfl rfl rfl (by exact ps_move rfl rfl) ?_; refine ok_p rfl rfl rfl (by exact ps_bld rfl (parts_cons rfl (parts_cons rfl parts_nil)) rfl) ?_; refine ok_m rfl rfl rfl (by exact ms_lit rfl (parts_cons rfl parts_nil) rfl rfl rfl) ?_; rintro y51 hy51; refine ok_m rfl rfl rfl (by exact ms_appF (α := KV) (L := L) (M := [(⟨tkT (tkW s k), tkT (tkW s (tkE (tkW s k)))⟩ : KV)]) 1 rfl rfl rfl rfl (rds_row 0 rfl) rfl (by simp; omega) (by simp; omega)) ?_; rintro y52 hy52; refine ok_p rfl rfl rfl (by exact ps_field rfl rfl (by exact isw_ga _)) ?_; refine ok_m_ rfl rfl (by exact ms_store 2 rfl rfl rfl rfl rfl rfl rfl rfl) ?_; rintro y_ hy_; refine ok_nil ?_; refine ok_env [(0, _), (2, _), (4, _), (5, _), (7, _), (9, _)] ⟨rfl, rfl, rfl, rfl, rfl, rfl, trivial⟩ ?_)
      | (refine ok_region (i := 13) ?_; refine ok_p rfl rfl rfl (by exact ps_move rfl rfl) ?_; refine ok_p rfl rfl rfl (by exact ps_assign rfl rfl) ?_; refine ok_nil ?_; refine ok_env [(0, _), (2, _), (4, _), (5, _), (6, _), (7, _)] ⟨rfl, rfl, rfl, rfl, rfl, rfl, trivial⟩ ?_))
    · have eU : pU s = none := by rw [← OK.out, show n - i = (n - i - 1) + 1 by omega]; exact tk2_no hk.1 hd
      rw [read_none (pU_none eU)]
      refine ok_endL (vs := [_, _]) rfl ⟨⟨_, 3, _, _, _, rfl, rfl, inferInstance, rfl, rfl⟩, rfl, trivial⟩ (fun w' hw => ?_)
      exact ⟨mkY none 0 w', rfl, trivial, hw.below, own_nilD _ _⟩
    · obtain ⟨e, e1, e2, e3, e4⟩ := tk2_yes (n := n - i - 1) (L := L) hk.1 hd
      rw [e1]
      refine fun a' w' he hw => ⟨⟨i + 1, e, L ++ [⟨tkT (tkW s k), tkT (tkW s (tkE (tkW s k)))⟩], (y52 0).A, (y52 0).c, by simp; omega, by simp; omega, ?_⟩, by simp only; omega, he.sub ⟨rfl, rfl, rfl, rfl, rfl, rfl, trivial⟩, ?_⟩
      · rw [← OK.out, show n - i = (n - i - 1) + 1 by omega, e4, show n - (i + 1) = n - i - 1 by omega]
      · simp only [List.length_append]; exact hw.tl
    have eU : pU s = some (L, k) := by rw [← OK.out, show n - i = 0 by omega]; rfl
    cases h3 : tkN s k with
    | none =>
      have eD : pD s k = none := by unfold pD; rw [h3]; rfl
      rw [read_none (pD_none eU eD)]
      repeat' (first
        | refine ok_seq ?_
        | refine ok_then ?_
        | refine ok_then_ret ?_
        | refine ok_block ?_
        | (refine ok_cond rfl (fun hc => ?_) (fun hc => ?_) <;> (have hd := hc; (try simp only [decide_eq_true_eq, decide_eq_false_iff_not, Bool.or_eq_true, Bool.or_eq_false_iff, Bool.and_eq_true, Bool.and_eq_false_iff, Bool.not_eq_true', Bool.not_eq_false', bne_iff_ne, beq_iff_eq, bne_eq_false_iff_eq, beq_eq_false_iff_ne, ne_eq, Bool.not_true, Bool.not_false, Bool.false_eq_true, Bool.true_eq_false, inB_true, inB_false] at hd)))
        | refine ok_ret ?_
        | refine ok_skip ?_
        | (refine ok_region (i := 14) ?_; refine ok_p rfl rfl rfl (by exact ps_move rfl rfl) ?_; refine ok_p rfl rfl rfl (by exact ps_move rfl rfl) ?_; refine ok_m rfl rfl rfl (by exact ms_c3 rfl rfl rfl rfl (fun _ _ w hw => s_l6Vars_no s k (by omega) (by omega) ((tkV_nat hk.1).trans h3) w)) ?_; rintro y58 hy58; refine ok_p rfl rfl rfl (by exact ps_move rfl rfl) ?_; refine ok_p rfl rfl rfl (by exact ps_extract rfl rfl rfl) ?_; refine ok_p rfl rfl rfl (by exact ps_extract rfl rfl rfl) ?_; refine ok_p rfl rfl rfl (by exact ps_assign rfl rfl) ?_; refine ok_p rfl rfl rfl (by exact ps_assign rfl rfl) ?_; refine ok_nil ?_; refine ok_env [(0, _), (2, _), (4, _), (6, _), (11, _)] ⟨rfl, rfl, rfl, rfl, rfl, trivial⟩ ?_)
        | (refine ok_region (i := 15) ?_; refine ok_p rfl rfl rfl (by exact ps_move rfl rfl) ?_; refine ok_p rfl rfl rfl (by exact ps_int rfl rfl rfl rfl) ?_; refine ok_nil ?_; refine ok_env [(0, _), (2, _), (4, _), (6, _), (11, _), (62, _)] ⟨rfl, rfl, rfl, rfl, rfl, rfl, trivial⟩ ?_)
        | (refine ok_region (i := 16) ?_; refine ok_p rfl rfl rfl (by exact ps_bld rfl parts_nil rfl) ?_; refine ok_m_ rfl rfl (by exact ms_store 4 rfl rfl rfl rfl rfl rfl rfl rfl) ?_; rintro y_ hy_; refine ok_p rfl rfl rfl (by exact ps_assign rfl rfl) ?_; refine ok_nil ?_; refine ok_env [(2, _), (3, _)] ⟨rfl, rfl, trivial⟩ ?_)
        | (refine ok_region (i := 17) ?_; refine ok_p rfl rfl rfl (by exact ps_assign rfl rfl) ?_; refine ok_nil ?_; refine ok_env [(0, _), (2, _), (4, _), (6, _), (11, _), (12, _)] ⟨rfl, rfl, rfl, rfl, rfl, rfl, trivial⟩ ?_))
      · refine ok_endL (vs := [_, _]) rfl ⟨⟨_, 4, _, _, _, rfl, rfl, inferInstance, rfl, rfl⟩, rfl, trivial⟩ (fun w' hw => ?_)
        exact ⟨mkY none 0 w', rfl, trivial, hw.below, own_nilD _ _⟩
      · exfalso; omega
    | some p =>
      obtain ⟨m, b⟩ := p
      have hm := tkN_some h3
      have e0 : pST s m b [] = pD s k := by unfold pD; rw [h3]; rfl
      obtain ⟨LM, hLM⟩ : ∃ L, L = [(m : Int)] := ⟨_, rfl⟩
      have hLM1 : LM.length = 1 := by rw [hLM]; rfl
      have hLM2 : nth LM (Int.toNat 0) = m := by rw [hLM]; rfl
      repeat' (first
        | refine ok_seq ?_
        | refine ok_then ?_
        | refine ok_then_ret ?_
        | refine ok_block ?_
        | (refine ok_cond rfl (fun hc => ?_) (fun hc => ?_) <;> (have hd := hc; (try simp only [decide_eq_true_eq, decide_eq_false_iff_not, Bool.or_eq_true, Bool.or_eq_false_iff, Bool.and_eq_true, Bool.and_eq_false_iff, Bool.not_eq_true', Bool.not_eq_false', bne_iff_ne, beq_iff_eq, bne_eq_false_iff_eq, beq_eq_false_iff_ne, ne_eq, Bool.not_true, Bool.not_false, Bool.false_eq_true, Bool.true_eq_false, inB_true, inB_false] at hd)))
        | refine ok_ret ?_
        | refine ok_skip ?_
        | (refine ok_region (i := 14) ?_; refine ok_p rfl rfl rfl (by exact ps_move rfl rfl) ?_; refine ok_p rfl rfl rfl (by exact ps_move rfl rfl) ?_; refine ok_m rfl rfl rfl (by exact ms_c3 rfl rfl rfl rfl (fun _ _ w hw => s_l6Vars_yes s k m b LM hLM (by omega) (by omega) ((tkV_nat hk.1).trans h3) w)) ?_; rintro y58 hy58; refine ok_p rfl rfl rfl (by exact ps_move rfl rfl) ?_; refine ok_p rfl rfl rfl (by exact ps_extract rfl rfl rfl) ?_; refine ok_p rfl rfl rfl (by exact ps_extract rfl rfl rfl) ?_; refine ok_p rfl rfl rfl (by exact ps_assign rfl rfl) ?_; refine ok_p rfl rfl rfl (by exact ps_assign rfl rfl) ?_; refine ok_nil ?_; refine ok_env [(0, _), (2, _), (4, _), (6, _), (11, _)] ⟨rfl, rfl, rfl, rfl, rfl, trivial⟩ ?_)
        | (refine ok_region (i := 15) ?_; refine ok_p rfl rfl rfl (by exact ps_move rfl rfl) ?_; refine ok_p rfl rfl rfl (by exact ps_int rfl rfl rfl rfl) ?_; refine ok_nil ?_; refine ok_env [(0, _), (2, _), (4, _), (6, _), (11, _), (62, _)] ⟨rfl, rfl, rfl, rfl, rfl, rfl, trivial⟩ ?_)
        | (refine ok_region (i := 16) ?_; refine ok_p rfl rfl rfl (by exact ps_bld rfl parts_nil rfl) ?_; refine ok_m_ rfl rfl (by exact ms_store 4 rfl rfl rfl rfl rfl rfl rfl rfl) ?_; rintro y_ hy_; refine ok_p rfl rfl rfl (by exact ps_assign rfl rfl) ?_; refine ok_nil ?_; refine ok_env [(2, _), (3, _)] ⟨rfl, rfl, trivial⟩ ?_)
        | (refine ok_region (i := 17) ?_; refine ok_p rfl rfl rfl (by exact ps_assign rfl rfl) ?_; refine ok_nil ?_; refine ok_env [(0, _), (2, _), (4, _), (6, _), (11, _), (12, _)] ⟨rfl, rfl, rfl, rfl, rfl, rfl, trivial⟩ ?_))
      · exfalso; omega
      refine ok_loop (ι := RdB s m (pD s k)) (fun q => s.size - q.k) (fun q => ([(0, .string s), (2, pt (ga (y2 0).c) 0), (4, pt (ga (y4 0).c) 0), (11, .slice (y58 0).A 1 (y58 0).c), (6, .int .i64 q.k), (12, .int .i64 q.i)], [.row 9 1 q.A q.L.length q.c (fl q.L), .row 162 2 A L.length c (fl L), .box (y4 0).c 69 [.slice A L.length c, .slice q.A q.L.length q.c], .row 3 1 (y58 0).A 1 (y58 0).c (fl LM), .box (y2 0).c 69 [.slice none 0 0, .slice none 0 0]], [w])) ⟨0, b, [], none, 0, by simp, by simp; omega, e0⟩ (fun a' w he hw => ⟨⟨0, b, [], none, 0, by simp, by simp; omega, e0⟩, he.sub ⟨rfl, rfl, rfl, rfl, rfl, rfl, trivial⟩, (hw.sel [1, 2, 0, 4] (by decide) rfl (fun _ h => h)).rowNil 9 1⟩) ?_
      rintro ⟨j, q, M, B, d, hj, hq, ok⟩
      simp only at hj hq ok ⊢
      have OK2 := Lib.hid ok; clear ok
      have t2 := tkE_le s q
      repeat' (first
        | refine ok_seq ?_
        | refine ok_then ?_
        | refine ok_then_ret ?_
        | refine ok_block ?_
        | refine ok_in_normal ?_
        | refine ok_in_ret ?_
        | (refine ok_cond rfl (fun hc => ?_) (fun hc => ?_) <;> (have hd := hc; (try simp only [decide_eq_true_eq, decide_eq_false_iff_not, Bool.or_eq_true, Bool.or_eq_false_iff, Bool.and_eq_true, Bool.and_eq_false_iff, Bool.not_eq_true', Bool.not_eq_false', bne_iff_ne, beq_iff_eq, bne_eq_false_iff_eq, beq_eq_false_iff_ne, ne_eq, Bool.not_true, Bool.not_false, Bool.false_eq_true, Bool.true_eq_false, inB_true, inB_false] at hd)))
        | refine ok_ret ?_
        | refine ok_exit ?_
        | refine ok_skip ?_
        | (refine ok_region (i := 18) ?_; refine ok_p rfl rfl rfl (by exact ps_move rfl rfl) ?_; refine ok_p rfl rfl rfl (by exact ps_move rfl rfl) ?_; refine ok_p rfl rfl rfl (by exact ps_index rfl rfl rfl (by omega) (by exact isw_row 3 rfl (by omega))) ?_; refine ok_p rfl rfl rfl (by exact ps_load rfl rfl (by exact Rds.cell (rds_row 3 rfl) (by exact fl_at0 _ _ (by omega) (by decide)))) ?_; refine ok_p rfl rfl rfl (by exact ps_int rfl rfl rfl rfl) ?_; refine ok_nil ?_; refine ok_env [(0, _), (2, _), (4, _), (6, _), (11, _), (12, _), (68, _)] ⟨rfl, rfl, rfl, rfl, rfl, rfl, rfl, trivial⟩ ?_)
        | (refine ok_region (i := 19) ?_; refine ok_p rfl rfl rfl (by exact ps_move rfl rfl) ?_; refine ok_p rfl rfl rfl (by exact ps_add rfl rfl rfl (by omega)) ?_; refine ok_p rfl rfl rfl (by exact ps_assign rfl rfl) ?_; refine ok_nil ?_; refine ok_env [(0, _), (2, _), (4, _), (6, _), (11, _), (12, _)] ⟨rfl, rfl, rfl, rfl, rfl, rfl, trivial⟩ ?_)
        | (refine ok_region (i := 20) ?_; refine ok_p rfl rfl rfl (by exact ps_move rfl rfl) ?_; refine ok_p rfl rfl rfl (by exact ps_move rfl rfl) ?_; refine ok_m rfl rfl rfl (by exact ms_s2 rfl rfl rfl (fun _ _ w hw => s_l6Take_c s q (by omega) (by omega) w)) ?_; rintro y74 hy74; refine ok_p rfl rfl rfl (by exact ps_move rfl rfl) ?_; refine ok_p rfl rfl rfl (by exact ps_extract rfl rfl rfl) ?_; refine ok_p rfl rfl rfl (by exact ps_extract rfl rfl rfl) ?_; refine ok_p rfl rfl rfl (by exact ps_assign rfl rfl) ?_; refine ok_p rfl rfl rfl (by exact ps_assign rfl rfl) ?_; refine ok_nil ?_; refine ok_env [(0, _), (2, _), (4, _), (11, _), (12, _), (13, _), (14, _)] ⟨rfl, rfl, rfl, rfl, rfl, rfl, rfl, trivial⟩ ?_)
        | (refine ok_region (i := 21) ?_; refine ok_p rfl rfl rfl (by exact ps_move rfl rfl) ?_; refine ok_p rfl rfl rfl (by exact ps_int rfl rfl rfl rfl) ?_; refine ok_nil ?_; refine ok_env [(0, _), (2, _), (4, _), (11, _), (12, _), (13, _), (14, _), (78, _)] ⟨rfl, rfl, rfl, rfl, rfl, rfl, rfl, rfl, trivial⟩ ?_)
        | (refine ok_region (i := 22) ?_; refine ok_p rfl rfl rfl (by exact ps_bld rfl parts_nil rfl) ?_; refine ok_m_ rfl rfl (by exact ms_store 4 rfl rfl rfl rfl rfl rfl rfl rfl) ?_; rintro y_ hy_; refine ok_p rfl rfl rfl (by exact ps_assign rfl rfl) ?_; refine ok_nil ?_; refine ok_env [(2, _), (3, _)] ⟨rfl, rfl, trivial⟩ ?_)
        | (refine ok_region (i := 23) ?_; refine ok_p rfl rfl rfl (by exact ps_field rfl rfl (by exact isw_ga _)) ?_; refine ok_p rfl rfl rfl (by exact ps_load rfl rfl (by exact Rds.cell (rds_box 2 rfl) rfl)) ?_; refine ok_p rfl rfl rfl (by exact ps_move rfl rfl) ?_; refine ok_m rfl rfl rfl (by exact ms_lit rfl (parts_cons rfl parts_nil) rfl rfl rfl) ?_; rintro y83 hy83; refine ok_m rfl rfl rfl (by exact ms_appF (α := ByteArray) (L := M) (M := [tkT (tkW s q)]) 1 rfl rfl rfl rfl (rds_row 0 rfl) rfl (by simp; omega) (by simp; omega)) ?_; rintro y84 hy84; refine ok_p rfl rfl rfl (by exact ps_field rfl rfl (by exact isw_ga _)) ?_; refine ok_m_ rfl rfl (by exact ms_store 3 rfl rfl rfl rfl rfl rfl rfl rfl) ?_; rintro y_ hy_; refine ok_nil ?_; refine ok_env [(0, _), (2, _), (4, _), (11, _), (12, _), (14, _)] ⟨rfl, rfl, rfl, rfl, rfl, rfl, trivial⟩ ?_)
        | (refine ok_region (i := 24) ?_; refine ok_p rfl rfl rfl (by exact ps_move rfl rfl) ?_; refine ok_p rfl rfl rfl (by exact ps_assign rfl rfl) ?_; refine ok_nil ?_; refine ok_env [(0, _), (2, _), (4, _), (6, _), (11, _), (12, _)] ⟨rfl, rfl, rfl, rfl, rfl, rfl, trivial⟩ ?_)
        | (refine ok_region (i := 25) ?_; refine ok_p rfl rfl rfl (by exact ps_loads rfl rfl (by exact rds_box 2 rfl) rfl rfl (by decide)) ?_; refine ok_m rfl rfl rfl (by exact ms_s1 rfl rfl (fun _ _ w hw => s_ShowDelta0 A B c d L M w (rds_row 1 rfl _ _ w hw) (rds_row 0 rfl _ _ w hw) (by omega) (by omega))) ?_; rintro y88 hy88; refine ok_p rfl rfl rfl (by exact ps_move rfl rfl) ?_; refine ok_p rfl rfl rfl (by exact ps_str rfl rfl rfl rfl) ?_; refine ok_nil ?_; refine ok_env [(2, _), (4, _), (90, _)] ⟨rfl, rfl, rfl, trivial⟩ ?_)
        | (refine ok_region (i := 26) ?_; refine ok_p rfl rfl rfl (by exact ps_bld rfl parts_nil rfl) ?_; refine ok_m_ rfl rfl (by exact ms_store 4 rfl rfl rfl rfl rfl rfl rfl rfl) ?_; rintro y_ hy_; refine ok_p rfl rfl rfl (by exact ps_assign rfl rfl) ?_; refine ok_nil ?_; refine ok_env [(2, _), (3, _)] ⟨rfl, rfl, trivial⟩ ?_)
        | (refine ok_region (i := 27) ?_; refine ok_p rfl rfl rfl (by exact ps_loads rfl rfl (by exact rds_box 2 rfl) rfl rfl (by decide)) ?_; refine ok_m_ rfl rfl (by exact ms_store 4 rfl rfl rfl rfl rfl rfl rfl rfl) ?_; rintro y_ hy_; refine ok_p rfl rfl rfl (by exact ps_assign rfl rfl) ?_; refine ok_nil ?_; refine ok_env [(2, _), (3, _)] ⟨rfl, rfl, trivial⟩ ?_))
      · have eD : pD s k = none := by rw [← OK2.out, show m - j = (m - j - 1) + 1 by omega]; exact tk1_no hq.1 hd
        rw [read_none (pD_none eU eD)]
        refine ok_endL (vs := [_, _]) rfl ⟨⟨_, 4, _, _, _, rfl, rfl, inferInstance, rfl, rfl⟩, rfl, trivial⟩ (fun w' hw => ?_)
        exact ⟨mkY none 0 w', rfl, trivial, hw.below, own_nilD _ _⟩
      · obtain ⟨e, e1, e2, e3, e4⟩ := tk1_yes (n := m - j - 1) (L := M) hq.1 hd
        rw [e1]
        refine fun a' w' he hw => ⟨⟨j + 1, e, M ++ [tkT (tkW s q)], (y84 0).A, (y84 0).c, by simp; omega, by simp; omega, ?_⟩, by simp only; omega, he.sub ⟨rfl, rfl, rfl, rfl, rfl, rfl, trivial⟩, ?_⟩
        · rw [← OK2.out, show m - j = (m - j - 1) + 1 by omega, e4, show m - (j + 1) = m - j - 1 by omega]
        · simp only [List.length_append]; exact hw.tl
      all_goals
        have eD : pD s k = some (M, q) := by rw [← OK2.out, show m - j = 0 by omega]; rfl
      · rw [read_no (pX_yes eU eD) (sEq_f hd)]
        refine ok_endL (vs := [_, _]) rfl ⟨⟨_, 4, _, _, _, rfl, rfl, inferInstance, rfl, rfl⟩, rfl, trivial⟩ (fun w' hw => ?_)
        exact ⟨mkY none 0 w', rfl, trivial, hw.below, own_nilD _ _⟩
      · rw [read_yes (pX_yes eU eD) (sEq_t hd)]
        refine ok_endL (vs := [_, _]) rfl ⟨⟨_, 4, _, _, _, rfl, rfl, inferInstance, rfl, rfl⟩, rfl, trivial⟩ (fun w' hw => ?_)
        exact ⟨yl [mkY A c w 0, mkY B d w 0] (mkY none 0 w 0), rfl, trivial, hw.below, NewOk.of (hw.sel [1, 0] (by decide) rfl (G' := []) (fun _ h => by cases h))⟩
/-- The reader, piece by piece. -/
theorem rdN_or (s : ByteArray) (k : Nat) : (tkN s k = none ∧ rdN s k false = (0, k, true)) ∨ ∃ n e, tkN s k = some (n, e) ∧ rdN s k false = (n, e, false) := by
  unfold rdN
  rw [if_neg (by simp)]
  cases h : tkN s k with
  | none => exact .inl ⟨rfl, rfl⟩
  | some p => obtain ⟨n, e⟩ := p; exact .inr ⟨n, e, rfl, rfl⟩
theorem rdN_true (s : ByteArray) (k : Nat) : rdN s k true = (0, k, true) := by unfold rdN; rw [if_pos rfl]
theorem rdS_or (s : ByteArray) (k : Nat) : (tkS s k = none ∧ (rdS s k false).2.2 = true) ∨ ∃ r e, tkS s k = some (r, e) ∧ rdS s k false = (r, e, false) := by
  have h := rdS_tk s k
  cases h1 : tkS s k with
  | none => exact .inl ⟨rfl, by rw [h.1, h1]; rfl⟩
  | some p => obtain ⟨r, e⟩ := p; exact .inr ⟨r, e, rfl, h.2 r e h1⟩
theorem rdN_ge (s : ByteArray) (k : Nat) (b : Bool) : k ≤ (rdN s k b).2.1 := by
  cases b
  · rcases rdN_or s k with ⟨_, h⟩ | ⟨n, e, h1, h⟩
    · rw [h]; exact Nat.le_refl _
    · rw [h]; have := tkN_some h1; simp only; omega
  · rw [rdN_true]; exact Nat.le_refl _
theorem rdS_ge (s : ByteArray) (k : Nat) (b : Bool) : k ≤ (rdS s k b).2.1 := by
  have h := rdN_ge s k b
  unfold rdS rdB
  split
  · exact h
  · simp only; omega
theorem rd2_no {s : ByteArray} {k n : Nat} {L : List KV} (h : (rdS s (rdS s k false).2.1 (rdS s k false).2.2).2.2 = true) : pKV s (n + 1) k L = none := by
  rw [pKV]
  rcases rdS_or s k with ⟨h1, _⟩ | ⟨r, e, h1, h2⟩
  · rw [h1]; rfl
  · rw [h2] at h
    simp only at h
    rw [h1]
    simp only [Option.bind_some]
    rcases rdS_or s e with ⟨h3, _⟩ | ⟨t, b, h3, h4⟩
    · rw [h3]; rfl
    · rw [h4] at h; cases h
theorem rd2_yes {s : ByteArray} {k n : Nat} {L : List KV} (h : (rdS s (rdS s k false).2.1 (rdS s k false).2.2).2.2 = false) : pKV s (n + 1) k L = pKV s n (rdS s (rdS s k false).2.1 (rdS s k false).2.2).2.1 (L ++ [⟨(rdS s k false).1, (rdS s (rdS s k false).2.1 (rdS s k false).2.2).1⟩]) ∧ k + 2 ≤ (rdS s (rdS s k false).2.1 (rdS s k false).2.2).2.1 := by
  rw [pKV]
  rcases rdS_or s k with ⟨_, h1⟩ | ⟨r, e, h1, h2⟩
  · rw [h1, rdS_bad] at h; cases h
  · have q1 := tkS_some h1
    rw [h2] at h ⊢
    simp only at h ⊢
    rw [h1]
    simp only [Option.bind_some]
    rcases rdS_or s e with ⟨_, h3⟩ | ⟨t, b, h3, h4⟩
    · rw [h3] at h; cases h
    · have q2 := tkS_some h3
      rw [h4, h3]
      exact ⟨rfl, by simp only; omega⟩
theorem rd1_no {s : ByteArray} {k n : Nat} {L : List ByteArray} (h : (rdS s k false).2.2 = true) : pST s (n + 1) k L = none := by
  rw [pST]
  rcases rdS_or s k with ⟨h1, _⟩ | ⟨r, e, h1, h2⟩
  · rw [h1]; rfl
  · rw [h2] at h; cases h
theorem rd1_yes {s : ByteArray} {k n : Nat} {L : List ByteArray} (h : (rdS s k false).2.2 = false) : pST s (n + 1) k L = pST s n (rdS s k false).2.1 (L ++ [(rdS s k false).1]) ∧ k + 1 ≤ (rdS s k false).2.1 := by
  rw [pST]
  rcases rdS_or s k with ⟨_, h1⟩ | ⟨r, e, h1, h2⟩
  · rw [h1] at h; cases h
  · have q1 := tkS_some h1
    rw [h2, h1]
    exact ⟨rfl, by simp only; omega⟩
theorem msr {n k k2 : Nat} {b : Bool} (h : b = false → k < k2) (h2 : k2 ≤ n) : (if b = true then 0 else n - k2 + 1) < (if false = true then 0 else n - k + 1) := by
  cases b
  · have := h rfl
    rw [if_neg (by simp), if_neg (by simp)]; omega
  · rw [if_pos rfl, if_neg (by simp)]; omega
structure RdC (s : ByteArray) where
  z : Nat
  k : Nat
  bad : Bool
  L : List KV
  A : Option Addr
  c : Nat
  hk : k ≤ s.size ∧ L.length ≤ k ∧ z < 562949953421312
  ok : bad = false → L.length + 1 ≤ k ∧ pKV s z k L = pU s
  no : bad = true → pU s = none
def joinX (U : List KV) (r : Option (List ByteArray × Nat)) : Option (DDelta × Nat) := r.map fun q => (⟨U, q.1⟩, q.2)
structure RdE (s : ByteArray) (U : List KV) where
  z : Nat
  k : Nat
  bad : Bool
  L : List ByteArray
  A : Option Addr
  c : Nat
  hk : k ≤ s.size ∧ L.length ≤ k ∧ z < 562949953421312
  ok : bad = false → L.length + 1 ≤ k ∧ joinX U (pST s z k L) = pX s
  no : bad = true → pX s = none
def RdC.start (s : ByteArray) (A : Option Addr) (c : Nat) : RdC s := ⟨(rdN s 0 false).1, (rdN s 0 false).2.1, (rdN s 0 false).2.2, [], A, c, ⟨(rdN_le s 0 false (Nat.zero_le _)).1, Nat.zero_le _, (rdN_le s 0 false (Nat.zero_le _)).2⟩, fun h => by
  rcases rdN_or s 0 with ⟨_, h2⟩ | ⟨n, e, h1, h2⟩
  · rw [h2] at h; cases h
  · rw [h2]
    have := tkN_some h1
    refine ⟨by simp only [List.length_nil]; omega, ?_⟩
    unfold pU; rw [h1]; exact rfl, fun h => by
  rcases rdN_or s 0 with ⟨h1, _⟩ | ⟨n, e, h1, h2⟩
  · unfold pU; rw [h1]; rfl
  · rw [h2] at h; cases h⟩
def RdE.start (s : ByteArray) (U : List KV) (k : Nat) (bad : Bool) (hk : k ≤ s.size) (ok : bad = false → pU s = some (U, k)) (no : bad = true → pU s = none) (A : Option Addr) (c : Nat) : RdE s U := ⟨(rdN s k bad).1, (rdN s k bad).2.1, (rdN s k bad).2.2, [], A, c, ⟨(rdN_le s k bad hk).1, Nat.zero_le _, (rdN_le s k bad hk).2⟩, fun h => by
  cases bad
  · rcases rdN_or s k with ⟨_, h2⟩ | ⟨n, e, h1, h2⟩
    · rw [h2] at h; cases h
    · rw [h2]
      have := tkN_some h1
      refine ⟨by simp only [List.length_nil]; omega, ?_⟩
      unfold pX
      rw [ok rfl]
      simp only [Option.bind_some]
      unfold pD; rw [h1]; rfl
  · rw [rdN_true] at h
    exact absurd h (by simp), fun h => by
  cases bad
  · rcases rdN_or s k with ⟨h1, _⟩ | ⟨n, e, h1, h2⟩
    · exact pD_none (ok rfl) (by unfold pD; rw [h1]; rfl)
    · rw [h2] at h; cases h
  · exact pU_none (no rfl)⟩
theorem i_ReadDelta (s : ByteArray) (w : World) (hs : s.size ≤ 1048576) :
    Calls Try.prog 66 #[.string s] w fun e w' => ∃ y : Ys, e = .returned (.tuple #[Delta_val (fReadDelta s).1 y, .bool (fReadDelta s).2]) ∧ True ∧ Below w.heap.size w w' ∧ NewOk w.heap.size (Delta_obj (fReadDelta s).1 y) [] w' := by
  refine ok_enter 59 Try.func66 rfl rfl rfl ?_
  repeat' (first
    | refine ok_seq ?_
    | refine ok_then ?_
    | refine ok_block ?_
    | (refine ok_region (i := 0) ?_; refine ok_m rfl rfl rfl (by exact ms_alloc rfl) ?_; rintro y2 hy2; refine ok_p rfl rfl rfl (by exact ps_assign rfl rfl) ?_; refine ok_nil ?_; refine ok_env [(0, _), (2, _)] ⟨rfl, rfl, trivial⟩ ?_)
    | (refine ok_region (i := 1) ?_; refine ok_p rfl rfl rfl (by exact ps_move rfl rfl) ?_; refine ok_p rfl rfl rfl (by exact ps_bld rfl (parts_cons rfl parts_nil) rfl) ?_; refine ok_m rfl rfl rfl (by exact ms_alloc rfl) ?_; rintro y4 hy4; refine ok_m_ rfl rfl (by exact ms_store 0 rfl rfl rfl rfl rfl rfl rfl rfl) ?_; rintro y_ hy_; refine ok_nil ?_; refine ok_env [(0, _), (2, _), (4, _)] ⟨rfl, rfl, rfl, trivial⟩ ?_)
    | (refine ok_region (i := 2) ?_; refine ok_m rfl rfl rfl (by exact ms_alloc rfl) ?_; rintro y5 hy5; refine ok_nil ?_; refine ok_env [(0, _), (2, _), (4, _), (5, _)] ⟨rfl, rfl, rfl, rfl, trivial⟩ ?_)
    | (refine ok_region (i := 3) ?_; refine ok_m rfl rfl rfl (by exact ms_wr 1 rfl rfl rfl rfl (fun _ _ w hw => rdN_c _ s 0 false (by omega) (by omega) hw)) ?_; rintro y12 hy12; refine ok_p rfl rfl rfl (by exact ps_assign rfl rfl) ?_; refine ok_nil ?_; refine ok_env [(0, _), (2, _), (4, _), (5, _), (6, _)] ⟨rfl, rfl, rfl, rfl, rfl, trivial⟩ ?_))
  refine ok_loop (ι := RdC s) (fun q => if q.bad = true then 0 else s.size - q.k + 1) (fun q => ([(0, .string s), (2, pt (ga (y2 0).c) 0), (4, pt (ga (y4 0).c) 0), (5, pt (ga (y5 0).c) 0), (6, .int .i64 q.z)], [.row 162 2 q.A q.L.length q.c (fl q.L), .box (y5 0).c 69 [.slice q.A q.L.length q.c, .slice none 0 0], rdr (y4 0).c s q.k q.bad, _], _)) (RdC.start s none 0) (fun a' w he hw => ⟨RdC.start s none 0, he.sub ⟨rfl, rfl, rfl, rfl, rfl, trivial⟩, hw.rowNil 162 2⟩) ?_
  rintro ⟨z, k, bad, L, A, c, hk, ok, no⟩
  simp only at hk ok no ⊢
  have OK := Lib.hid ok; clear ok
  have NO := Lib.hid no; clear no
  have k1 := rdS_le s k bad hk.1
  have k2 := rdS_le s (rdS s k bad).2.1 (rdS s k bad).2.2 k1
  repeat' (first
    | refine ok_seq ?_
    | refine ok_then ?_
    | refine ok_block ?_
    | refine ok_in_normal ?_
    | (refine ok_cond rfl (fun hc => ?_) (fun hc => ?_) <;> (have hd := hc; (try simp only [decide_eq_true_eq, decide_eq_false_iff_not, Bool.or_eq_true, Bool.or_eq_false_iff, Bool.and_eq_true, Bool.and_eq_false_iff, Bool.not_eq_true', Bool.not_eq_false', bne_iff_ne, beq_iff_eq, bne_eq_false_iff_eq, beq_eq_false_iff_ne, ne_eq, Bool.not_true, Bool.not_false, Bool.false_eq_true, Bool.true_eq_false, inB_true, inB_false] at hd)))
    | refine ok_exit ?_
    | refine ok_skip ?_
    | (refine ok_region (i := 4) ?_; refine ok_p rfl rfl rfl (by exact ps_move rfl rfl) ?_; refine ok_p rfl rfl rfl (by exact ps_int rfl rfl rfl rfl) ?_; refine ok_p rfl rfl rfl (by exact ps_move rfl rfl) ?_; refine ok_pg rfl rfl rfl rfl rfl (gT _) (fun hp => by (have hpd := hp; (try simp only [decide_eq_true_eq, decide_eq_false_iff_not, Bool.or_eq_true, Bool.or_eq_false_iff, Bool.and_eq_true, Bool.and_eq_false_iff, Bool.not_eq_true', Bool.not_eq_false', bne_iff_ne, beq_iff_eq, bne_eq_false_iff_eq, beq_eq_false_iff_ne, ne_eq, Bool.not_true, Bool.not_false, Bool.false_eq_true, Bool.true_eq_false, inB_true, inB_false] at hpd); exact ps_field rfl (by exact rfl) (by exact isw_ga _))) ?_; refine ok_pg rfl rfl rfl rfl rfl (gT _) (fun hp => by (have hpd := hp; (try simp only [decide_eq_true_eq, decide_eq_false_iff_not, Bool.or_eq_true, Bool.or_eq_false_iff, Bool.and_eq_true, Bool.and_eq_false_iff, Bool.not_eq_true', Bool.not_eq_false', bne_iff_ne, beq_iff_eq, bne_eq_false_iff_eq, beq_eq_false_iff_ne, ne_eq, Bool.not_true, Bool.not_false, Bool.false_eq_true, Bool.true_eq_false, inB_true, inB_false] at hpd); exact ps_load rfl (by (refine og rfl ?_; assumption)) (by exact Rds.cell (rds_box 2 rfl) rfl))) ?_; refine ok_pg rfl rfl rfl rfl rfl (gT _) (fun hp => by (have hpd := hp; (try simp only [decide_eq_true_eq, decide_eq_false_iff_not, Bool.or_eq_true, Bool.or_eq_false_iff, Bool.and_eq_true, Bool.and_eq_false_iff, Bool.not_eq_true', Bool.not_eq_false', bne_iff_ne, beq_iff_eq, bne_eq_false_iff_eq, beq_eq_false_iff_ne, ne_eq, Bool.not_true, Bool.not_false, Bool.false_eq_true, Bool.true_eq_false, inB_true, inB_false] at hpd); exact ps_not rfl (by (refine og rfl ?_; assumption)))) ?_; refine ok_p rfl rfl rfl (by exact ps_and rfl rfl rfl) ?_; refine ok_nil ?_; refine ok_env [(0, _), (2, _), (4, _), (5, _), (6, _), (19, _)] ⟨rfl, rfl, rfl, rfl, rfl, rfl, trivial⟩ ?_)
    | (refine ok_region (i := 5) ?_; refine ok_p rfl rfl rfl (by exact ps_move rfl rfl) ?_; refine ok_p rfl rfl rfl (by exact ps_cast (v' := .int .i64 ((z - 1 : Nat) : Int)) (ps_sub rfl rfl rfl (by omega)) (by rw [show (z : Int) - 1 = ((z - 1 : Nat) : Int) by omega])) ?_; refine ok_p rfl rfl rfl (by exact ps_assign rfl rfl) ?_; refine ok_nil ?_; refine ok_env [(0, _), (2, _), (4, _), (5, _), (6, _)] ⟨rfl, rfl, rfl, rfl, rfl, trivial⟩ ?_)
    | (refine ok_region (i := 6) ?_; refine ok_m rfl rfl rfl (by exact ms_wr 2 rfl rfl rfl rfl (fun _ _ w hw => rdS_c _ s k bad (by omega) (by omega) hw)) ?_; rintro y22 hy22; refine ok_p rfl rfl rfl (by exact ps_bld rfl (parts_cons rfl parts_nil) rfl) ?_; refine ok_m rfl rfl rfl (by exact ms_alloc rfl) ?_; rintro y7 hy7; refine ok_m_ rfl rfl (by exact ms_store 0 rfl rfl rfl rfl rfl rfl rfl rfl) ?_; rintro y_ hy_; refine ok_nil ?_; refine ok_env [(0, _), (2, _), (4, _), (5, _), (6, _), (7, _)] ⟨rfl, rfl, rfl, rfl, rfl, rfl, trivial⟩ ?_)
    | (refine ok_region (i := 7) ?_; refine ok_m rfl rfl rfl (by exact ms_wr 3 rfl rfl rfl rfl (fun _ _ w hw => rdS_c _ s _ _ (by omega) (by omega) hw)) ?_; rintro y24 hy24; refine ok_p rfl rfl rfl (by exact ps_field rfl rfl (by exact isw_ga _)) ?_; refine ok_m_ rfl rfl (by exact ms_store 0 rfl rfl rfl rfl rfl rfl rfl rfl) ?_; rintro y_ hy_; refine ok_nil ?_; refine ok_env [(0, _), (2, _), (4, _), (5, _), (6, _), (7, _)] ⟨rfl, rfl, rfl, rfl, rfl, rfl, trivial⟩ ?_)
    | (refine ok_region (i := 8) ?_; refine ok_p rfl rfl rfl (by exact ps_field rfl rfl (by exact isw_ga _)) ?_; refine ok_p rfl rfl rfl (by exact ps_load rfl rfl (by exact Rds.cell (rds_box 2 rfl) rfl)) ?_; refine ok_p rfl rfl rfl (by exact ps_loads rfl rfl (by exact rds_box 0 rfl) rfl rfl (by decide)) ?_; refine ok_m rfl rfl rfl (by exact ms_lit rfl (parts_cons rfl parts_nil) rfl rfl rfl) ?_; rintro y29 hy29; refine ok_m rfl rfl rfl (by exact ms_appF (α := KV) (L := L) (M := [(⟨(rdS s k bad).1, (rdS s (rdS s k bad).2.1 (rdS s k bad).2.2).1⟩ : KV)]) 2 rfl rfl rfl rfl (rds_row 0 rfl) rfl (by simp; omega) (by simp; omega)) ?_; rintro y30 hy30; refine ok_p rfl rfl rfl (by exact ps_field rfl rfl (by exact isw_ga _)) ?_; refine ok_m_ rfl rfl (by exact ms_store 3 rfl rfl rfl rfl rfl rfl rfl rfl) ?_; rintro y_ hy_; refine ok_nil ?_; refine ok_env [(0, _), (2, _), (4, _), (5, _), (6, _)] ⟨rfl, rfl, rfl, rfl, rfl, trivial⟩ ?_)
    | (refine ok_region (i := 9) ?_; refine ok_m rfl rfl rfl (by exact ms_wr 2 rfl rfl rfl rfl (fun _ _ w hw => rdN_c _ s k bad (by omega) (by omega) hw)) ?_; rintro y32 hy32; refine ok_p rfl rfl rfl (by exact ps_assign rfl rfl) ?_; refine ok_nil ?_; refine ok_env [(0, _), (2, _), (4, _), (5, _), (8, _)] ⟨rfl, rfl, rfl, rfl, rfl, trivial⟩ ?_))
  · have hb := hd.2
    subst hb
    obtain ⟨o1, o2⟩ := OK.out rfl
    have g1 := rdS_ge s k false
    have g2 := rdS_ge s (rdS s k false).2.1 (rdS s k false).2.2
    have hz : z = (z - 1) + 1 := by omega
    refine fun a' w' he hw => ⟨⟨z - 1, (rdS s (rdS s k false).2.1 (rdS s k false).2.2).2.1, (rdS s (rdS s k false).2.1 (rdS s k false).2.2).2.2, L ++ [⟨(rdS s k false).1, (rdS s (rdS s k false).2.1 (rdS s k false).2.2).1⟩], (y30 0).A, (y30 0).c, ⟨k2, by rw [List.length_append, List.length_singleton]; omega, by omega⟩, fun h => ?_, fun h => ?_⟩, ?_, he.sub ⟨rfl, rfl, rfl, rfl, rfl, trivial⟩, ?_⟩
    · have h2 := rd2_yes (n := z - 1) (L := L) h
      have h3 := h2.2
      refine ⟨by rw [List.length_append, List.length_singleton]; omega, ?_⟩
      rw [← h2.1, ← hz]; exact o2
    · rw [← o2, hz]; exact rd2_no h
    · show (if _ = true then 0 else s.size - _ + 1) < _
      dsimp only
      exact msr (fun h => by have h2 := rd2_yes (n := z - 1) (L := L) h; omega) k2
    · have := hw.sel [2, 3, 4, 5] (by decide) rfl (fun _ h => h)
      simp only [List.length_append]
      exact this
  have oU : bad = false → pU s = some (L, k) := fun h => by
    have hz : z = 0 := by
      rcases hd with hd | hd
      · omega
      · rw [h] at hd; cases hd
    have := (OK.out h).2
    rw [hz] at this
    exact this.symm
  refine ok_loop (ι := RdE s L) (fun q => if q.bad = true then 0 else s.size - q.k + 1) (fun q => ([(0, .string s), (2, pt (ga (y2 0).c) 0), (4, pt (ga (y4 0).c) 0), (5, pt (ga (y5 0).c) 0), (8, .int .i64 q.z)], [.row 9 1 q.A q.L.length q.c (fl q.L), .row 162 2 A L.length c (fl L), .box (y5 0).c 69 [.slice A L.length c, .slice q.A q.L.length q.c], rdr (y4 0).c s q.k q.bad, _], _)) (RdE.start s L k bad hk.1 oU NO.out none 0) (fun a' w he hw => ⟨RdE.start s L k bad hk.1 oU NO.out none 0, he.sub ⟨rfl, rfl, rfl, rfl, rfl, trivial⟩, hw.rowNil 9 1⟩) ?_
  rintro ⟨z2, q, bad2, M, B, d, hq, ok2, no2⟩
  simp only at hq ok2 no2 ⊢
  have OK2 := Lib.hid ok2; clear ok2
  have NO2 := Lib.hid no2; clear no2
  have q1 := rdS_le s q bad2 hq.1
  repeat' (first
    | refine ok_seq ?_
    | refine ok_then ?_
    | refine ok_then_ret ?_
    | refine ok_block ?_
    | refine ok_in_normal ?_
    | (refine ok_cond rfl (fun hc => ?_) (fun hc => ?_) <;> (have hd := hc; (try simp only [decide_eq_true_eq, decide_eq_false_iff_not, Bool.or_eq_true, Bool.or_eq_false_iff, Bool.and_eq_true, Bool.and_eq_false_iff, Bool.not_eq_true', Bool.not_eq_false', bne_iff_ne, beq_iff_eq, bne_eq_false_iff_eq, beq_eq_false_iff_ne, ne_eq, Bool.not_true, Bool.not_false, Bool.false_eq_true, Bool.true_eq_false, inB_true, inB_false] at hd)))
    | refine ok_ret ?_
    | refine ok_exit ?_
    | refine ok_skip ?_
    | (refine ok_region (i := 10) ?_; refine ok_p rfl rfl rfl (by exact ps_move rfl rfl) ?_; refine ok_p rfl rfl rfl (by exact ps_int rfl rfl rfl rfl) ?_; refine ok_p rfl rfl rfl (by exact ps_move rfl rfl) ?_; refine ok_pg rfl rfl rfl rfl rfl (gT _) (fun hp => by (have hpd := hp; (try simp only [decide_eq_true_eq, decide_eq_false_iff_not, Bool.or_eq_true, Bool.or_eq_false_iff, Bool.and_eq_true, Bool.and_eq_false_iff, Bool.not_eq_true', Bool.not_eq_false', bne_iff_ne, beq_iff_eq, bne_eq_false_iff_eq, beq_eq_false_iff_ne, ne_eq, Bool.not_true, Bool.not_false, Bool.false_eq_true, Bool.true_eq_false, inB_true, inB_false] at hpd); exact ps_field rfl (by exact rfl) (by exact isw_ga _))) ?_; refine ok_pg rfl rfl rfl rfl rfl (gT _) (fun hp => by (have hpd := hp; (try simp only [decide_eq_true_eq, decide_eq_false_iff_not, Bool.or_eq_true, Bool.or_eq_false_iff, Bool.and_eq_true, Bool.and_eq_false_iff, Bool.not_eq_true', Bool.not_eq_false', bne_iff_ne, beq_iff_eq, bne_eq_false_iff_eq, beq_eq_false_iff_ne, ne_eq, Bool.not_true, Bool.not_false, Bool.false_eq_true, Bool.true_eq_false, inB_true, inB_false] at hpd); exact ps_load rfl (by (refine og rfl ?_; assumption)) (by exact Rds.cell (rds_box 3 rfl) rfl))) ?_; refine ok_pg rfl rfl rfl rfl rfl (gT _) (fun hp => by (have hpd := hp; (try simp only [decide_eq_true_eq, decide_eq_false_iff_not, Bool.or_eq_true, Bool.or_eq_false_iff, Bool.and_eq_true, Bool.and_eq_false_iff, Bool.not_eq_true', Bool.not_eq_false', bne_iff_ne, beq_iff_eq, bne_eq_false_iff_eq, beq_eq_false_iff_ne, ne_eq, Bool.not_true, Bool.not_false, Bool.false_eq_true, Bool.true_eq_false, inB_true, inB_false] at hpd); exact ps_not rfl (by (refine og rfl ?_; assumption)))) ?_; refine ok_p rfl rfl rfl (by exact ps_and rfl rfl rfl) ?_; refine ok_nil ?_; refine ok_env [(0, _), (2, _), (4, _), (5, _), (8, _), (39, _)] ⟨rfl, rfl, rfl, rfl, rfl, rfl, trivial⟩ ?_)
    | (refine ok_region (i := 11) ?_; refine ok_p rfl rfl rfl (by exact ps_move rfl rfl) ?_; refine ok_p rfl rfl rfl (by exact ps_cast (v' := .int .i64 ((z2 - 1 : Nat) : Int)) (ps_sub rfl rfl rfl (by omega)) (by rw [show (z2 : Int) - 1 = ((z2 - 1 : Nat) : Int) by omega])) ?_; refine ok_p rfl rfl rfl (by exact ps_assign rfl rfl) ?_; refine ok_nil ?_; refine ok_env [(0, _), (2, _), (4, _), (5, _), (8, _)] ⟨rfl, rfl, rfl, rfl, rfl, trivial⟩ ?_)
    | (refine ok_region (i := 12) ?_; refine ok_m rfl rfl rfl (by exact ms_wr 3 rfl rfl rfl rfl (fun _ _ w hw => rdS_c _ s q bad2 (by omega) (by omega) hw)) ?_; rintro y42 hy42; refine ok_p rfl rfl rfl (by exact ps_assign rfl rfl) ?_; refine ok_nil ?_; refine ok_env [(0, _), (2, _), (4, _), (5, _), (8, _), (9, _)] ⟨rfl, rfl, rfl, rfl, rfl, rfl, trivial⟩ ?_)
    | (refine ok_region (i := 13) ?_; refine ok_p rfl rfl rfl (by exact ps_field rfl rfl (by exact isw_ga _)) ?_; refine ok_p rfl rfl rfl (by exact ps_load rfl rfl (by exact Rds.cell (rds_box 2 rfl) rfl)) ?_; refine ok_p rfl rfl rfl (by exact ps_move rfl rfl) ?_; refine ok_m rfl rfl rfl (by exact ms_lit rfl (parts_cons rfl parts_nil) rfl rfl rfl) ?_; rintro y46 hy46; refine ok_m rfl rfl rfl (by exact ms_appF (α := ByteArray) (L := M) (M := [(rdS s q bad2).1]) 1 rfl rfl rfl rfl (rds_row 0 rfl) rfl (by simp; omega) (by simp; omega)) ?_; rintro y47 hy47; refine ok_p rfl rfl rfl (by exact ps_field rfl rfl (by exact isw_ga _)) ?_; refine ok_m_ rfl rfl (by exact ms_store 3 rfl rfl rfl rfl rfl rfl rfl rfl) ?_; rintro y_ hy_; refine ok_nil ?_; refine ok_env [(0, _), (2, _), (4, _), (5, _), (8, _)] ⟨rfl, rfl, rfl, rfl, rfl, trivial⟩ ?_)
    | (refine ok_region (i := 14) ?_; refine ok_m rfl rfl rfl (by exact ms_wr 3 rfl rfl rfl rfl (fun _ _ w hw => rdD_c _ s q bad2 hw)) ?_; rintro y49 hy49; refine ok_p rfl rfl rfl (by exact ps_not rfl rfl) ?_; refine ok_p rfl rfl rfl (by exact ps_move rfl rfl) ?_; refine ok_pg rfl rfl rfl rfl rfl (gF _) (fun hp => by (have hpd := hp; (try simp only [decide_eq_true_eq, decide_eq_false_iff_not, Bool.or_eq_true, Bool.or_eq_false_iff, Bool.and_eq_true, Bool.and_eq_false_iff, Bool.not_eq_true', Bool.not_eq_false', bne_iff_ne, beq_iff_eq, bne_eq_false_iff_eq, beq_eq_false_iff_ne, ne_eq, Bool.not_true, Bool.not_false, Bool.false_eq_true, Bool.true_eq_false, inB_true, inB_false] at hpd); exact ps_loads rfl (by exact rfl) (by exact rds_box 2 rfl) rfl rfl (by decide))) ?_; refine ok_mg rfl rfl rfl rfl rfl (gF _) (fun hp => by (have hpd := hp; (try simp only [decide_eq_true_eq, decide_eq_false_iff_not, Bool.or_eq_true, Bool.or_eq_false_iff, Bool.and_eq_true, Bool.and_eq_false_iff, Bool.not_eq_true', Bool.not_eq_false', bne_iff_ne, beq_iff_eq, bne_eq_false_iff_eq, beq_eq_false_iff_ne, ne_eq, Bool.not_true, Bool.not_false, Bool.false_eq_true, Bool.true_eq_false, inB_true, inB_false] at hpd); exact ms_s1 rfl (by (refine og rfl ?_; assumption)) (fun _ _ w hw => i_ShowDelta0 A B c d L M w (rds_row 1 rfl _ _ w hw) (rds_row 0 rfl _ _ w hw) (by omega) (by omega)))) ?_; refine ok_pg rfl rfl rfl rfl rfl (gF _) (fun hp => by (have hpd := hp; (try simp only [decide_eq_true_eq, decide_eq_false_iff_not, Bool.or_eq_true, Bool.or_eq_false_iff, Bool.and_eq_true, Bool.and_eq_false_iff, Bool.not_eq_true', Bool.not_eq_false', bne_iff_ne, beq_iff_eq, bne_eq_false_iff_eq, beq_eq_false_iff_ne, ne_eq, Bool.not_true, Bool.not_false, Bool.false_eq_true, Bool.true_eq_false, inB_true, inB_false] at hpd); exact ps_move rfl (by exact rfl))) ?_; refine ok_pg rfl rfl rfl rfl rfl (gF _) (fun hp => by (have hpd := hp; (try simp only [decide_eq_true_eq, decide_eq_false_iff_not, Bool.or_eq_true, Bool.or_eq_false_iff, Bool.and_eq_true, Bool.and_eq_false_iff, Bool.not_eq_true', Bool.not_eq_false', bne_iff_ne, beq_iff_eq, bne_eq_false_iff_eq, beq_eq_false_iff_ne, ne_eq, Bool.not_true, Bool.not_false, Bool.false_eq_true, Bool.true_eq_false, inB_true, inB_false] at hpd); exact ps_str rfl (by (refine og rfl ?_; assumption)) (by (refine og rfl ?_; assumption)) rfl)) ?_; refine ok_p rfl rfl rfl (by exact ps_or rfl rfl rfl) ?_; refine ok_nil ?_; refine ok_env [(2, _), (5, _), (56, _)] ⟨rfl, rfl, rfl, trivial⟩ ?_)
    | (refine ok_region (i := 15) ?_; refine ok_p rfl rfl rfl (by exact ps_bld rfl parts_nil rfl) ?_; refine ok_m_ rfl rfl (by exact ms_store 4 rfl rfl rfl rfl rfl rfl rfl rfl) ?_; rintro y_ hy_; refine ok_p rfl rfl rfl (by exact ps_assign rfl rfl) ?_; refine ok_nil ?_; refine ok_env [(2, _), (3, _)] ⟨rfl, rfl, trivial⟩ ?_)
    | (refine ok_region (i := 16) ?_; refine ok_p rfl rfl rfl (by exact ps_loads rfl rfl (by exact rds_box 2 rfl) rfl rfl (by decide)) ?_; refine ok_m_ rfl rfl (by exact ms_store 4 rfl rfl rfl rfl rfl rfl rfl rfl) ?_; rintro y_ hy_; refine ok_p rfl rfl rfl (by exact ps_assign rfl rfl) ?_; refine ok_nil ?_; refine ok_env [(2, _), (3, _)] ⟨rfl, rfl, trivial⟩ ?_))
  · have hb := hd.2
    subst hb
    obtain ⟨o1, o2⟩ := OK2.out rfl
    have g1 := rdS_ge s q false
    have hz : z2 = (z2 - 1) + 1 := by omega
    refine fun a' w' he hw => ⟨⟨z2 - 1, (rdS s q false).2.1, (rdS s q false).2.2, M ++ [(rdS s q false).1], (y47 0).A, (y47 0).c, ⟨q1, by rw [List.length_append, List.length_singleton]; omega, by omega⟩, fun h => ?_, fun h => ?_⟩, ?_, he.sub ⟨rfl, rfl, rfl, rfl, rfl, trivial⟩, ?_⟩
    · have h2 := rd1_yes (n := z2 - 1) (L := M) h
      have h3 := h2.2
      refine ⟨by rw [List.length_append, List.length_singleton]; omega, ?_⟩
      rw [← h2.1, ← hz]; exact o2
    · rw [← o2, hz, rd1_no h]; rfl
    · show (if _ = true then 0 else s.size - _ + 1) < _
      dsimp only
      exact msr (fun h => by have h2 := rd1_yes (n := z2 - 1) (L := M) h; omega) q1
    · simp only [List.length_append]
      exact hw.tl
  all_goals
    have oX : bad2 = false → pX s = some (⟨L, M⟩, q) := fun h => by
      have hz : z2 = 0 := by
        rcases ‹¬ 0 < (z2 : Int) ∨ bad2 = true› with h3 | h3
        · omega
        · rw [h] at h3; cases h3
      have := (OK2.out h).2
      rw [hz] at this
      exact this.symm
  · have e : fReadDelta s = (⟨[], []⟩, false) := by
      cases hb : bad2
      · rcases hd with hd | hd
        · refine read_no (oX hb) (fun e => ?_)
          have := pX_end (oX hb) e
          rw [rdD_true.2 ⟨hb, this⟩] at hd; cases hd
        · exact read_no (oX hb) (sEq_f hd)
      · exact read_none (NO2.out hb)
    rw [e]
    refine ok_endL (vs := [_, _]) rfl ⟨⟨_, 4, _, _, _, rfl, rfl, inferInstance, rfl, rfl⟩, rfl, trivial⟩ (fun w' hw => ?_)
    exact ⟨mkY none 0 w', rfl, trivial, hw.below, own_nilD _ _⟩
  · rw [read_yes (oX (rdD_true.1 hd.1).1) (sEq_t hd.2)]
    refine ok_endL (vs := [_, _]) rfl ⟨⟨_, 4, _, _, _, rfl, rfl, inferInstance, rfl, rfl⟩, rfl, trivial⟩ (fun w' hw => ?_)
    exact ⟨yl [mkY A c w 0, mkY B d w 0] (mkY none 0 w 0), rfl, trivial, hw.below, NewOk.of (hw.sel [1, 0] (by decide) rfl (G' := []) (fun _ h => by cases h))⟩
theorem ReadDelta_lim (s : ByteArray) (hs : s.size ≤ 1048576) : Delta_lim (fReadDelta s).1 := by
  unfold fReadDelta
  split
  · exact ⟨by simp, by simp⟩
  · rename_i p hp
    obtain ⟨x, e⟩ := p
    have := pX_some hp
    split
    · exact ⟨by show x.U.length ≤ _; omega, by show x.D.length ≤ _; omega⟩
    · exact ⟨by simp, by simp⟩
end Go.Proofs.Ytfcnimglcialbaa
/- The walk of FnExactReadDelta. -/
namespace Go.Proofs.Ytfcnimglcialbaa
open Go.RowKit
set_option maxHeartbeats 4000000
set_option maxRecDepth 20000
set_option linter.unusedVariables false
set_option linter.unusedSimpArgs false
attribute [local irreducible] Calls
theorem FnExactReadDelta_e (a0 : ByteArray) (w : World) (n0 : a0.size ≤ maxLen) :
    Calls Try.prog 13 #[.string a0] w fun e w' => e = .returned (.bool true) ∧ Below w.heap.size w w' := by
  have m0 := n0
  unfold maxLen at m0
  refine ok_enter 66 Try.func13 rfl rfl rfl ?_
  repeat' (first
    | refine ok_seq ?_
    | refine ok_then ?_
    | refine ok_then_ret ?_
    | refine ok_then_exit ?_
    | refine ok_block ?_
    | refine ok_in_normal ?_
    | refine ok_in_ret ?_
    | refine ok_in_exit ?_
    | refine ok_in_other rfl ?_
    | (refine ok_cond rfl (fun hc => ?_) (fun hc => ?_) <;> (have hd := hc; (try simp only [decide_eq_true_eq, decide_eq_false_iff_not, Bool.or_eq_true, Bool.or_eq_false_iff, Bool.and_eq_true, Bool.and_eq_false_iff, Bool.not_eq_true', Bool.not_eq_false', bne_iff_ne, beq_iff_eq, bne_eq_false_iff_eq, beq_eq_false_iff_ne, ne_eq, Bool.not_true, Bool.not_false, Bool.false_eq_true, Bool.true_eq_false, inB_true, inB_false] at hd)))
    | refine ok_ret ?_
    | refine ok_exit ?_
    | refine ok_skip ?_
    | (refine ok_region (i := 0) ?_; refine ok_p rfl rfl rfl (by exact ps_assign rfl rfl) ?_; refine ok_nil ?_; refine ok_env [(0, _)] ⟨rfl, trivial⟩ ?_)
    | (refine ok_region (i := 1) ?_; refine ok_p rfl rfl rfl (by exact ps_move rfl rfl) ?_; refine ok_p rfl rfl rfl (by exact ps_slen rfl rfl) ?_; refine ok_p rfl rfl rfl (by exact ps_int rfl rfl rfl rfl) ?_; refine ok_nil ?_; refine ok_env [(0, _), (13, _)] ⟨rfl, rfl, trivial⟩ ?_)
    | (refine ok_region (i := 2) ?_; refine ok_p rfl rfl rfl (by exact ps_assign rfl rfl) ?_; refine ok_nil ?_; refine ok_env [(2, _)] ⟨rfl, trivial⟩ ?_)
    | (refine ok_region (i := 3) ?_; refine ok_p rfl rfl rfl (by exact ps_move rfl rfl) ?_; refine ok_m rfl rfl rfl (by exact ms_c1 rfl rfl (fun _ _ w hw => s_ReadDelta a0 w (by omega))) ?_; rintro y16 hy16; refine ok_p rfl rfl rfl (by exact ps_move rfl rfl) ?_; refine ok_p rfl rfl rfl (by exact ps_extract rfl rfl rfl) ?_; refine ok_p rfl rfl rfl (by exact ps_extract rfl rfl rfl) ?_; refine ok_m rfl rfl rfl (by exact ms_alloc rfl) ?_; rintro y3 hy3; refine ok_m_ rfl rfl (by first | exact ms_store 0 rfl rfl rfl rfl rfl rfl rfl rfl | exact ms_store 1 rfl rfl rfl rfl rfl rfl rfl rfl | exact ms_store 2 rfl rfl rfl rfl rfl rfl rfl rfl | exact ms_store 3 rfl rfl rfl rfl rfl rfl rfl rfl | exact ms_store 4 rfl rfl rfl rfl rfl rfl rfl rfl | exact ms_store 5 rfl rfl rfl rfl rfl rfl rfl rfl | exact ms_store 6 rfl rfl rfl rfl rfl rfl rfl rfl | exact ms_store 7 rfl rfl rfl rfl rfl rfl rfl rfl) ?_; rintro y_ hy_; refine ok_p rfl rfl rfl (by exact ps_assign rfl rfl) ?_; refine ok_nil ?_; refine ok_env [(0, _), (3, _), (4, _)] ⟨rfl, rfl, rfl, trivial⟩ ?_)
    | (refine ok_region (i := 4) ?_; refine ok_p rfl rfl rfl (by exact ps_move rfl rfl) ?_; refine ok_m rfl rfl rfl (by exact ms_c1 rfl rfl (fun _ _ w hw => i_ReadDelta a0 w (by omega))) ?_; rintro y21 hy21; refine ok_p rfl rfl rfl (by exact ps_move rfl rfl) ?_; refine ok_p rfl rfl rfl (by exact ps_extract rfl rfl rfl) ?_; refine ok_p rfl rfl rfl (by exact ps_extract rfl rfl rfl) ?_; refine ok_m rfl rfl rfl (by exact ms_alloc rfl) ?_; rintro y5 hy5; refine ok_m_ rfl rfl (by first | exact ms_store 0 rfl rfl rfl rfl rfl rfl rfl rfl | exact ms_store 1 rfl rfl rfl rfl rfl rfl rfl rfl | exact ms_store 2 rfl rfl rfl rfl rfl rfl rfl rfl | exact ms_store 3 rfl rfl rfl rfl rfl rfl rfl rfl | exact ms_store 4 rfl rfl rfl rfl rfl rfl rfl rfl | exact ms_store 5 rfl rfl rfl rfl rfl rfl rfl rfl | exact ms_store 6 rfl rfl rfl rfl rfl rfl rfl rfl | exact ms_store 7 rfl rfl rfl rfl rfl rfl rfl rfl) ?_; rintro y_ hy_; refine ok_p rfl rfl rfl (by exact ps_assign rfl rfl) ?_; refine ok_nil ?_; refine ok_env [(0, _), (3, _), (4, _), (5, _), (6, _)] ⟨rfl, rfl, rfl, rfl, rfl, trivial⟩ ?_)
    | (refine ok_region (i := 5) ?_; refine ok_p rfl rfl rfl (by first | exact ps_loads rfl rfl (by first | exact rds_box 0 rfl | exact rds_box 1 rfl | exact rds_box 2 rfl | exact rds_box 3 rfl | exact rds_box 4 rfl | exact rds_box 5 rfl | exact rds_box 6 rfl | exact rds_box 7 rfl | exact rds_box 8 rfl | exact rds_box 9 rfl | exact rds_box 10 rfl | exact rds_box 11 rfl | exact rds_box 12 rfl | exact rds_box 13 rfl | exact rds_box 14 rfl | exact rds_box 15 rfl | exact rds_box 16 rfl | exact rds_box 17 rfl | exact rds_box 18 rfl | exact rds_box 19 rfl | exact rds_box 20 rfl | exact rds_box 21 rfl | exact rds_box 22 rfl | exact rds_box 23 rfl) rfl rfl (by decide) | exact ps_loadsF rfl rfl (by first | exact rds_row 0 rfl | exact rds_row 1 rfl | exact rds_row 2 rfl | exact rds_row 3 rfl | exact rds_row 4 rfl | exact rds_row 5 rfl | exact rds_row 6 rfl | exact rds_row 7 rfl | exact rds_row 8 rfl | exact rds_row 9 rfl | exact rds_row 10 rfl | exact rds_row 11 rfl | exact rds_row 12 rfl | exact rds_row 13 rfl | exact rds_row 14 rfl | exact rds_row 15 rfl | exact rds_row 16 rfl | exact rds_row 17 rfl | exact rds_row 18 rfl | exact rds_row 19 rfl | exact rds_row 20 rfl | exact rds_row 21 rfl | exact rds_row 22 rfl | exact rds_row 23 rfl | exact rds_rf (by assumption) (by first | exact List.mem_cons_self | exact List.mem_cons_of_mem _ List.mem_cons_self | simp)) (by rfl) (by rfl) (by omega) rfl) ?_; refine ok_p rfl rfl rfl (by first | exact ps_loads rfl rfl (by first | exact rds_box 0 rfl | exact rds_box 1 rfl | exact rds_box 2 rfl | exact rds_box 3 rfl | exact rds_box 4 rfl | exact rds_box 5 rfl | exact rds_box 6 rfl | exact rds_box 7 rfl | exact rds_box 8 rfl | exact rds_box 9 rfl | exact rds_box 10 rfl | exact rds_box 11 rfl | exact rds_box 12 rfl | exact rds_box 13 rfl | exact rds_box 14 rfl | exact rds_box 15 rfl | exact rds_box 16 rfl | exact rds_box 17 rfl | exact rds_box 18 rfl | exact rds_box 19 rfl | exact rds_box 20 rfl | exact rds_box 21 rfl | exact rds_box 22 rfl | exact rds_box 23 rfl) rfl rfl (by decide) | exact ps_loadsF rfl rfl (by first | exact rds_row 0 rfl | exact rds_row 1 rfl | exact rds_row 2 rfl | exact rds_row 3 rfl | exact rds_row 4 rfl | exact rds_row 5 rfl | exact rds_row 6 rfl | exact rds_row 7 rfl | exact rds_row 8 rfl | exact rds_row 9 rfl | exact rds_row 10 rfl | exact rds_row 11 rfl | exact rds_row 12 rfl | exact rds_row 13 rfl | exact rds_row 14 rfl | exact rds_row 15 rfl | exact rds_row 16 rfl | exact rds_row 17 rfl | exact rds_row 18 rfl | exact rds_row 19 rfl | exact rds_row 20 rfl | exact rds_row 21 rfl | exact rds_row 22 rfl | exact rds_row 23 rfl | exact rds_rf (by assumption) (by first | exact List.mem_cons_self | exact List.mem_cons_of_mem _ List.mem_cons_self | simp)) (by rfl) (by rfl) (by omega) rfl) ?_; refine ok_m rfl rfl rfl (by exact ms_s2 rfl rfl rfl (fun _ _ w hw => eqDelta_c (fReadDelta a0).1 y21 y16 w (Delta_of (hw.drop 1 rfl)) (Delta_of (hw.drop 4 rfl)) (ReadDelta_lim a0 (by omega)))) ?_; rintro y26 hy26; refine ok_p rfl rfl rfl (by exact ps_not rfl rfl) ?_; refine ok_p rfl rfl rfl (by exact ps_move rfl rfl) ?_; refine ok_pg rfl rfl rfl rfl rfl (gF _) (fun hp => by (have hpd := hp; (try simp only [decide_eq_true_eq, decide_eq_false_iff_not, Bool.or_eq_true, Bool.or_eq_false_iff, Bool.and_eq_true, Bool.and_eq_false_iff, Bool.not_eq_true', Bool.not_eq_false', bne_iff_ne, beq_iff_eq, bne_eq_false_iff_eq, beq_eq_false_iff_ne, ne_eq, Bool.not_true, Bool.not_false, Bool.false_eq_true, Bool.true_eq_false, inB_true, inB_false] at hpd); exact ps_move rfl (by first | (refine og rfl ?_; assumption) | exact rfl))) ?_; refine ok_pg rfl rfl rfl rfl rfl (gF _) (fun hp => by (have hpd := hp; (try simp only [decide_eq_true_eq, decide_eq_false_iff_not, Bool.or_eq_true, Bool.or_eq_false_iff, Bool.and_eq_true, Bool.and_eq_false_iff, Bool.not_eq_true', Bool.not_eq_false', bne_iff_ne, beq_iff_eq, bne_eq_false_iff_eq, beq_eq_false_iff_ne, ne_eq, Bool.not_true, Bool.not_false, Bool.false_eq_true, Bool.true_eq_false, inB_true, inB_false] at hpd); exact ps_move rfl (by first | (refine og rfl ?_; assumption) | exact rfl))) ?_; refine ok_pg rfl rfl rfl rfl rfl (gF _) (fun hp => by (have hpd := hp; (try simp only [decide_eq_true_eq, decide_eq_false_iff_not, Bool.or_eq_true, Bool.or_eq_false_iff, Bool.and_eq_true, Bool.and_eq_false_iff, Bool.not_eq_true', Bool.not_eq_false', bne_iff_ne, beq_iff_eq, bne_eq_false_iff_eq, beq_eq_false_iff_ne, ne_eq, Bool.not_true, Bool.not_false, Bool.false_eq_true, Bool.true_eq_false, inB_true, inB_false] at hpd); exact ps_bool_neq Try.underlying4 rfl (by first | (refine og rfl ?_; assumption) | exact rfl) (by first | (refine og rfl ?_; assumption) | exact rfl))) ?_; refine ok_p rfl rfl rfl (by first | exact ps_or rfl rfl rfl | exact ps_or_in (by assumption) rfl rfl rfl | exact ps_pick_t rfl rfl (by simp_all; done) rfl | exact ps_pick_f rfl rfl (by simp_all; done) rfl) ?_; refine ok_nil ?_; refine ok_env [(0, _), (3, _), (4, _), (5, _), (32, _)] ⟨rfl, rfl, rfl, rfl, rfl, trivial⟩ ?_)
    | (refine ok_region (i := 6) ?_; refine ok_p rfl rfl rfl (by exact ps_assign rfl rfl) ?_; refine ok_nil ?_; refine ok_env [(2, _)] ⟨rfl, trivial⟩ ?_)
    | (refine ok_region (i := 7) ?_; refine ok_p rfl rfl rfl (by exact ps_assign rfl rfl) ?_; refine ok_nil ?_; refine ok_env [(0, _), (3, _), (4, _), (5, _), (7, _)] ⟨rfl, rfl, rfl, rfl, rfl, trivial⟩ ?_)
    | (refine ok_region (i := 8) ?_; refine ok_p rfl rfl rfl (by first | exact ps_loads rfl rfl (by first | exact rds_box 0 rfl | exact rds_box 1 rfl | exact rds_box 2 rfl | exact rds_box 3 rfl | exact rds_box 4 rfl | exact rds_box 5 rfl | exact rds_box 6 rfl | exact rds_box 7 rfl | exact rds_box 8 rfl | exact rds_box 9 rfl | exact rds_box 10 rfl | exact rds_box 11 rfl | exact rds_box 12 rfl | exact rds_box 13 rfl | exact rds_box 14 rfl | exact rds_box 15 rfl | exact rds_box 16 rfl | exact rds_box 17 rfl | exact rds_box 18 rfl | exact rds_box 19 rfl | exact rds_box 20 rfl | exact rds_box 21 rfl | exact rds_box 22 rfl | exact rds_box 23 rfl) rfl rfl (by decide) | exact ps_loadsF rfl rfl (by first | exact rds_row 0 rfl | exact rds_row 1 rfl | exact rds_row 2 rfl | exact rds_row 3 rfl | exact rds_row 4 rfl | exact rds_row 5 rfl | exact rds_row 6 rfl | exact rds_row 7 rfl | exact rds_row 8 rfl | exact rds_row 9 rfl | exact rds_row 10 rfl | exact rds_row 11 rfl | exact rds_row 12 rfl | exact rds_row 13 rfl | exact rds_row 14 rfl | exact rds_row 15 rfl | exact rds_row 16 rfl | exact rds_row 17 rfl | exact rds_row 18 rfl | exact rds_row 19 rfl | exact rds_row 20 rfl | exact rds_row 21 rfl | exact rds_row 22 rfl | exact rds_row 23 rfl | exact rds_rf (by assumption) (by first | exact List.mem_cons_self | exact List.mem_cons_of_mem _ List.mem_cons_self | simp)) (by rfl) (by rfl) (by omega) rfl) ?_; refine ok_p rfl rfl rfl (by exact ps_move rfl rfl) ?_; refine ok_m rfl rfl rfl (by exact ms_w2 (H1 := (Delta_obj (fReadDelta a0).1 y21 ++ ([_] ++ ([_] ++ (Delta_obj (fReadDelta a0).1 y16 ++ []))))) (fun _ _ _ h => h.rot 1 2 rfl) rfl rfl rfl (fun _ _ w hw => markDelta_c (fReadDelta a0).1 y21 1 ⟨by omega, by omega⟩ (ReadDelta_lim a0 (by omega)) hw)) ?_; rintro y35 hy35; refine ok_p rfl rfl rfl (by exact ps_assign rfl rfl) ?_; refine ok_nil ?_; refine ok_env [(0, _), (3, _), (4, _), (5, _), (7, _)] ⟨rfl, rfl, rfl, rfl, rfl, trivial⟩ ?_)
    | (refine ok_region (i := 9) ?_; refine ok_p rfl rfl rfl (by exact ps_assign rfl rfl) ?_; refine ok_nil ?_; refine ok_env [(0, _), (3, _), (4, _), (5, _), (7, _), (8, _)] ⟨rfl, rfl, rfl, rfl, rfl, rfl, trivial⟩ ?_)
    | (refine ok_region (i := 10) ?_; refine ok_p rfl rfl rfl (by first | exact ps_loads rfl rfl (by first | exact rds_box 0 rfl | exact rds_box 1 rfl | exact rds_box 2 rfl | exact rds_box 3 rfl | exact rds_box 4 rfl | exact rds_box 5 rfl | exact rds_box 6 rfl | exact rds_box 7 rfl | exact rds_box 8 rfl | exact rds_box 9 rfl | exact rds_box 10 rfl | exact rds_box 11 rfl | exact rds_box 12 rfl | exact rds_box 13 rfl | exact rds_box 14 rfl | exact rds_box 15 rfl | exact rds_box 16 rfl | exact rds_box 17 rfl | exact rds_box 18 rfl | exact rds_box 19 rfl | exact rds_box 20 rfl | exact rds_box 21 rfl | exact rds_box 22 rfl | exact rds_box 23 rfl) rfl rfl (by decide) | exact ps_loadsF rfl rfl (by first | exact rds_row 0 rfl | exact rds_row 1 rfl | exact rds_row 2 rfl | exact rds_row 3 rfl | exact rds_row 4 rfl | exact rds_row 5 rfl | exact rds_row 6 rfl | exact rds_row 7 rfl | exact rds_row 8 rfl | exact rds_row 9 rfl | exact rds_row 10 rfl | exact rds_row 11 rfl | exact rds_row 12 rfl | exact rds_row 13 rfl | exact rds_row 14 rfl | exact rds_row 15 rfl | exact rds_row 16 rfl | exact rds_row 17 rfl | exact rds_row 18 rfl | exact rds_row 19 rfl | exact rds_row 20 rfl | exact rds_row 21 rfl | exact rds_row 22 rfl | exact rds_row 23 rfl | exact rds_rf (by assumption) (by first | exact List.mem_cons_self | exact List.mem_cons_of_mem _ List.mem_cons_self | simp)) (by rfl) (by rfl) (by omega) rfl) ?_; refine ok_p rfl rfl rfl (by exact ps_move rfl rfl) ?_; refine ok_m rfl rfl rfl (by exact ms_s2 rfl rfl rfl (fun _ _ w hw => heldDelta_c (fReadDelta a0).1 y21 1 ⟨by omega, by omega⟩ (ReadDelta_lim a0 (by omega)) w (Delta_of (hw.drop 0 rfl)))) ?_; rintro y38 hy38; refine ok_p rfl rfl rfl (by exact ps_assign rfl rfl) ?_; refine ok_nil ?_; refine ok_env [(0, _), (3, _), (4, _), (5, _), (7, _), (8, _)] ⟨rfl, rfl, rfl, rfl, rfl, rfl, trivial⟩ ?_)
    | (refine ok_region (i := 11) ?_; refine ok_p rfl rfl rfl (by exact ps_move rfl rfl) ?_; refine ok_p rfl rfl rfl (by exact ps_int rfl rfl rfl rfl) ?_; refine ok_nil ?_; refine ok_env [(0, _), (3, _), (4, _), (5, _), (7, _), (8, _), (40, _)] ⟨rfl, rfl, rfl, rfl, rfl, rfl, rfl, trivial⟩ ?_)
    | (refine ok_region (i := 12) ?_; refine ok_p rfl rfl rfl (by exact ps_assign rfl rfl) ?_; refine ok_nil ?_; refine ok_env [(2, _)] ⟨rfl, trivial⟩ ?_)
    | (refine ok_region (i := 13) ?_; refine ok_p rfl rfl rfl (by exact ps_move rfl rfl) ?_; refine ok_p rfl rfl rfl (by exact ps_move rfl rfl) ?_; refine ok_p rfl rfl rfl (by exact ps_int rfl rfl rfl rfl) ?_; refine ok_nil ?_; refine ok_env [(0, _), (3, _), (4, _), (5, _), (7, _), (43, _)] ⟨rfl, rfl, rfl, rfl, rfl, rfl, trivial⟩ ?_)
    | (refine ok_region (i := 14) ?_; refine ok_p rfl rfl rfl (by exact ps_assign rfl rfl) ?_; refine ok_nil ?_; refine ok_env [(2, _)] ⟨rfl, trivial⟩ ?_)
    | (refine ok_region (i := 15) ?_; refine ok_p rfl rfl rfl (by exact ps_move rfl rfl) ?_; refine ok_m rfl rfl rfl (by exact ms_c1 rfl rfl (fun _ _ w hw => i_ReadDelta a0 w (by omega))) ?_; rintro y46 hy46; refine ok_p rfl rfl rfl (by exact ps_move rfl rfl) ?_; refine ok_p rfl rfl rfl (by exact ps_extract rfl rfl rfl) ?_; refine ok_p rfl rfl rfl (by exact ps_extract rfl rfl rfl) ?_; refine ok_m rfl rfl rfl (by exact ms_alloc rfl) ?_; rintro y9 hy9; refine ok_m_ rfl rfl (by first | exact ms_store 0 rfl rfl rfl rfl rfl rfl rfl rfl | exact ms_store 1 rfl rfl rfl rfl rfl rfl rfl rfl | exact ms_store 2 rfl rfl rfl rfl rfl rfl rfl rfl | exact ms_store 3 rfl rfl rfl rfl rfl rfl rfl rfl | exact ms_store 4 rfl rfl rfl rfl rfl rfl rfl rfl | exact ms_store 5 rfl rfl rfl rfl rfl rfl rfl rfl | exact ms_store 6 rfl rfl rfl rfl rfl rfl rfl rfl | exact ms_store 7 rfl rfl rfl rfl rfl rfl rfl rfl) ?_; rintro y_ hy_; refine ok_p rfl rfl rfl (by exact ps_assign rfl rfl) ?_; refine ok_nil ?_; refine ok_env [(3, _), (4, _), (5, _), (7, _), (9, _), (10, _)] ⟨rfl, rfl, rfl, rfl, rfl, rfl, trivial⟩ ?_)
    | (refine ok_region (i := 16) ?_; refine ok_p rfl rfl rfl (by first | exact ps_loads rfl rfl (by first | exact rds_box 0 rfl | exact rds_box 1 rfl | exact rds_box 2 rfl | exact rds_box 3 rfl | exact rds_box 4 rfl | exact rds_box 5 rfl | exact rds_box 6 rfl | exact rds_box 7 rfl | exact rds_box 8 rfl | exact rds_box 9 rfl | exact rds_box 10 rfl | exact rds_box 11 rfl | exact rds_box 12 rfl | exact rds_box 13 rfl | exact rds_box 14 rfl | exact rds_box 15 rfl | exact rds_box 16 rfl | exact rds_box 17 rfl | exact rds_box 18 rfl | exact rds_box 19 rfl | exact rds_box 20 rfl | exact rds_box 21 rfl | exact rds_box 22 rfl | exact rds_box 23 rfl) rfl rfl (by decide) | exact ps_loadsF rfl rfl (by first | exact rds_row 0 rfl | exact rds_row 1 rfl | exact rds_row 2 rfl | exact rds_row 3 rfl | exact rds_row 4 rfl | exact rds_row 5 rfl | exact rds_row 6 rfl | exact rds_row 7 rfl | exact rds_row 8 rfl | exact rds_row 9 rfl | exact rds_row 10 rfl | exact rds_row 11 rfl | exact rds_row 12 rfl | exact rds_row 13 rfl | exact rds_row 14 rfl | exact rds_row 15 rfl | exact rds_row 16 rfl | exact rds_row 17 rfl | exact rds_row 18 rfl | exact rds_row 19 rfl | exact rds_row 20 rfl | exact rds_row 21 rfl | exact rds_row 22 rfl | exact rds_row 23 rfl | exact rds_rf (by assumption) (by first | exact List.mem_cons_self | exact List.mem_cons_of_mem _ List.mem_cons_self | simp)) (by rfl) (by rfl) (by omega) rfl) ?_; refine ok_p rfl rfl rfl (by first | exact ps_loads rfl rfl (by first | exact rds_box 0 rfl | exact rds_box 1 rfl | exact rds_box 2 rfl | exact rds_box 3 rfl | exact rds_box 4 rfl | exact rds_box 5 rfl | exact rds_box 6 rfl | exact rds_box 7 rfl | exact rds_box 8 rfl | exact rds_box 9 rfl | exact rds_box 10 rfl | exact rds_box 11 rfl | exact rds_box 12 rfl | exact rds_box 13 rfl | exact rds_box 14 rfl | exact rds_box 15 rfl | exact rds_box 16 rfl | exact rds_box 17 rfl | exact rds_box 18 rfl | exact rds_box 19 rfl | exact rds_box 20 rfl | exact rds_box 21 rfl | exact rds_box 22 rfl | exact rds_box 23 rfl) rfl rfl (by decide) | exact ps_loadsF rfl rfl (by first | exact rds_row 0 rfl | exact rds_row 1 rfl | exact rds_row 2 rfl | exact rds_row 3 rfl | exact rds_row 4 rfl | exact rds_row 5 rfl | exact rds_row 6 rfl | exact rds_row 7 rfl | exact rds_row 8 rfl | exact rds_row 9 rfl | exact rds_row 10 rfl | exact rds_row 11 rfl | exact rds_row 12 rfl | exact rds_row 13 rfl | exact rds_row 14 rfl | exact rds_row 15 rfl | exact rds_row 16 rfl | exact rds_row 17 rfl | exact rds_row 18 rfl | exact rds_row 19 rfl | exact rds_row 20 rfl | exact rds_row 21 rfl | exact rds_row 22 rfl | exact rds_row 23 rfl | exact rds_rf (by assumption) (by first | exact List.mem_cons_self | exact List.mem_cons_of_mem _ List.mem_cons_self | simp)) (by rfl) (by rfl) (by omega) rfl) ?_; refine ok_m rfl rfl rfl (by exact ms_s2 rfl rfl rfl (fun _ _ w hw => eqDelta_c (fReadDelta a0).1 y46 y16 w (Delta_of (hw.drop 1 rfl)) (Delta_of (hw.drop 7 rfl)) (ReadDelta_lim a0 (by omega)))) ?_; rintro y51 hy51; refine ok_p rfl rfl rfl (by exact ps_not rfl rfl) ?_; refine ok_p rfl rfl rfl (by exact ps_move rfl rfl) ?_; refine ok_pg rfl rfl rfl rfl rfl (gF _) (fun hp => by (have hpd := hp; (try simp only [decide_eq_true_eq, decide_eq_false_iff_not, Bool.or_eq_true, Bool.or_eq_false_iff, Bool.and_eq_true, Bool.and_eq_false_iff, Bool.not_eq_true', Bool.not_eq_false', bne_iff_ne, beq_iff_eq, bne_eq_false_iff_eq, beq_eq_false_iff_ne, ne_eq, Bool.not_true, Bool.not_false, Bool.false_eq_true, Bool.true_eq_false, inB_true, inB_false] at hpd); exact ps_move rfl (by first | (refine og rfl ?_; assumption) | exact rfl))) ?_; refine ok_pg rfl rfl rfl rfl rfl (gF _) (fun hp => by (have hpd := hp; (try simp only [decide_eq_true_eq, decide_eq_false_iff_not, Bool.or_eq_true, Bool.or_eq_false_iff, Bool.and_eq_true, Bool.and_eq_false_iff, Bool.not_eq_true', Bool.not_eq_false', bne_iff_ne, beq_iff_eq, bne_eq_false_iff_eq, beq_eq_false_iff_ne, ne_eq, Bool.not_true, Bool.not_false, Bool.false_eq_true, Bool.true_eq_false, inB_true, inB_false] at hpd); exact ps_move rfl (by first | (refine og rfl ?_; assumption) | exact rfl))) ?_; refine ok_pg rfl rfl rfl rfl rfl (gF _) (fun hp => by (have hpd := hp; (try simp only [decide_eq_true_eq, decide_eq_false_iff_not, Bool.or_eq_true, Bool.or_eq_false_iff, Bool.and_eq_true, Bool.and_eq_false_iff, Bool.not_eq_true', Bool.not_eq_false', bne_iff_ne, beq_iff_eq, bne_eq_false_iff_eq, beq_eq_false_iff_ne, ne_eq, Bool.not_true, Bool.not_false, Bool.false_eq_true, Bool.true_eq_false, inB_true, inB_false] at hpd); exact ps_bool_neq Try.underlying4 rfl (by first | (refine og rfl ?_; assumption) | exact rfl) (by first | (refine og rfl ?_; assumption) | exact rfl))) ?_; refine ok_p rfl rfl rfl (by first | exact ps_or rfl rfl rfl | exact ps_or_in (by assumption) rfl rfl rfl | exact ps_pick_t rfl rfl (by simp_all; done) rfl | exact ps_pick_f rfl rfl (by simp_all; done) rfl) ?_; refine ok_nil ?_; refine ok_env [(5, _), (7, _), (57, _)] ⟨rfl, rfl, rfl, trivial⟩ ?_)
    | (refine ok_region (i := 17) ?_; refine ok_p rfl rfl rfl (by exact ps_assign rfl rfl) ?_; refine ok_nil ?_; refine ok_env [(2, _)] ⟨rfl, trivial⟩ ?_)
    | (refine ok_region (i := 18) ?_; refine ok_p rfl rfl rfl (by exact ps_assign rfl rfl) ?_; refine ok_nil ?_; refine ok_env [(5, _), (7, _), (8, _)] ⟨rfl, rfl, rfl, trivial⟩ ?_)
    | (refine ok_region (i := 19) ?_; refine ok_p rfl rfl rfl (by first | exact ps_loads rfl rfl (by first | exact rds_box 0 rfl | exact rds_box 1 rfl | exact rds_box 2 rfl | exact rds_box 3 rfl | exact rds_box 4 rfl | exact rds_box 5 rfl | exact rds_box 6 rfl | exact rds_box 7 rfl | exact rds_box 8 rfl | exact rds_box 9 rfl | exact rds_box 10 rfl | exact rds_box 11 rfl | exact rds_box 12 rfl | exact rds_box 13 rfl | exact rds_box 14 rfl | exact rds_box 15 rfl | exact rds_box 16 rfl | exact rds_box 17 rfl | exact rds_box 18 rfl | exact rds_box 19 rfl | exact rds_box 20 rfl | exact rds_box 21 rfl | exact rds_box 22 rfl | exact rds_box 23 rfl) rfl rfl (by decide) | exact ps_loadsF rfl rfl (by first | exact rds_row 0 rfl | exact rds_row 1 rfl | exact rds_row 2 rfl | exact rds_row 3 rfl | exact rds_row 4 rfl | exact rds_row 5 rfl | exact rds_row 6 rfl | exact rds_row 7 rfl | exact rds_row 8 rfl | exact rds_row 9 rfl | exact rds_row 10 rfl | exact rds_row 11 rfl | exact rds_row 12 rfl | exact rds_row 13 rfl | exact rds_row 14 rfl | exact rds_row 15 rfl | exact rds_row 16 rfl | exact rds_row 17 rfl | exact rds_row 18 rfl | exact rds_row 19 rfl | exact rds_row 20 rfl | exact rds_row 21 rfl | exact rds_row 22 rfl | exact rds_row 23 rfl | exact rds_rf (by assumption) (by first | exact List.mem_cons_self | exact List.mem_cons_of_mem _ List.mem_cons_self | simp)) (by rfl) (by rfl) (by omega) rfl) ?_; refine ok_p rfl rfl rfl (by exact ps_move rfl rfl) ?_; refine ok_m rfl rfl rfl (by exact ms_s2 rfl rfl rfl (fun _ _ w hw => heldDelta_c (fReadDelta a0).1 y21 1 ⟨by omega, by omega⟩ (ReadDelta_lim a0 (by omega)) w (Delta_of (hw.drop 3 rfl)))) ?_; rintro y60 hy60; refine ok_p rfl rfl rfl (by exact ps_assign rfl rfl) ?_; refine ok_nil ?_; refine ok_env [(7, _), (8, _)] ⟨rfl, rfl, trivial⟩ ?_)
    | (refine ok_region (i := 20) ?_; refine ok_p rfl rfl rfl (by exact ps_move rfl rfl) ?_; refine ok_p rfl rfl rfl (by exact ps_int rfl rfl rfl rfl) ?_; refine ok_nil ?_; refine ok_env [(7, _), (8, _), (62, _)] ⟨rfl, rfl, rfl, trivial⟩ ?_)
    | (refine ok_region (i := 21) ?_; refine ok_p rfl rfl rfl (by exact ps_assign rfl rfl) ?_; refine ok_nil ?_; refine ok_env [(2, _)] ⟨rfl, trivial⟩ ?_)
    | (refine ok_region (i := 22) ?_; refine ok_p rfl rfl rfl (by exact ps_move rfl rfl) ?_; refine ok_p rfl rfl rfl (by exact ps_move rfl rfl) ?_; refine ok_p rfl rfl rfl (by exact ps_int rfl rfl rfl rfl) ?_; refine ok_nil ?_; refine ok_env [(65, _)] ⟨rfl, trivial⟩ ?_)
    | (refine ok_region (i := 23) ?_; refine ok_p rfl rfl rfl (by exact ps_assign rfl rfl) ?_; refine ok_nil ?_; refine ok_env [(2, _)] ⟨rfl, trivial⟩ ?_)
    | (refine ok_region (i := 24) ?_; refine ok_p rfl rfl rfl (by exact ps_assign rfl rfl) ?_; refine ok_nil ?_; refine ok_env [(2, _)] ⟨rfl, trivial⟩ ?_))
  all_goals first
    | (exfalso; simp [sEq] at hd; done)
    | exact ok_endL (vs := [_]) rfl ⟨rfl, trivial⟩ (fun w hw => ⟨rfl, hw.below⟩)
    | (exfalso; omega)
    | (exfalso; have := Delta_cnt_le (fReadDelta a0).1 1 (ReadDelta_lim a0 (by omega)); omega)
    | (exfalso; have := Delta_cnt_le (fReadDelta a0).1 1 (ReadDelta_lim a0 (by omega)); simp at hd; omega)
    | (exfalso; have := Delta_cnt_le (fReadDelta a0).1 1 (ReadDelta_lim a0 (by omega)); simp [sEq] at hd; omega)
theorem FnExactReadDelta_walk (w : World) (a0 : ByteArray) (n0 : a0.size ≤ maxLen) :
    Calls Try.prog 13 #[.string a0] w fun e w' => e = .returned (.bool true) ∧ Below w.heap.size w w' := by
  exact FnExactReadDelta_e a0 w n0
end Go.Proofs.Ytfcnimglcialbaa
/- The head of a cut program, and the facts of a row that hang on it: each by itself, so that the kernel's memory stays small. -/
namespace Go.Proofs.Ytfcnimglcialbaa
open Go.RowKit
set_option maxRecDepth 100000
section
variable (P : Program) (rest : List (List Char)) (h : behindMainWord (wordsSigns P.initOrder.toList) = ['c', 'u', 't'] :: rest)
include h
theorem make_cut : P.make = some .cut := by
  unfold Program.make
  rw [h]
  simp
theorem lifts_cut : P.headLifts = [] := by
  unfold Program.headLifts
  rw [h]
  have : stripLifts liftWords (['c', 'u', 't'] :: rest) = ([], ['c', 'u', 't'] :: rest) := by
    simp [liftWords, stripLifts]
  rw [this]
  simp
theorem final_cut : P.liftsFinal = false := by
  unfold Program.liftsFinal
  rw [lifts_cut P rest h]
  simp [h]
theorem enter_cut (h1 : P.laysLater = false) (h2 : P.bearsReflect = false) (h3 : P.doorFits [] = true) : P.mayEnter = true := by
  unfold Program.mayEnter
  have : stripLifts liftWords (['c', 'u', 't'] :: rest) = ([], ['c', 'u', 't'] :: rest) := by
    simp [liftWords, stripLifts]
  rw [h]
  simp [this, h1, h2, h3]
end
def ioL : List Char := ['h', 'a', 'r', 'n', 'e', 's', 's', ' ', 'a', '4', 'd', '2', 'd', '2', '0', 'a', '6', 'f', 'a', '0', '7', 'd', '6', 'c', '5', '1', '7', '7', 'a', '5', 'e', 'f', '1', '6', '0', 'f', 'd', '7', 'a', '0', '1', 'e', '5', '8', 'b', '9', '4', 'b', '4', 'c', 'f', 'd', '2', '8', '0', '7', '2', 'e', '2', '5', '7', 'a', 'e', 'f', '4', 'a', '0', 'c', 'c', 'd', 'f', 'a', ' ', 'c', 'u', 't', ' ', 'a', 't', ' ', 'l', 'o', 'o', 'p', '.', 'e', 'x', 'a', 'm', 'p', 'l', 'e', '/', 'g', '0', '0', '9', '5', '0', '/', 'l', 'a', 'w', 's', '.', 'F', 'n', 'E', 'x', 'a', 'c', 't', 'U', 'n', 'p', 'a', 'c', 'k', ' ', 'l', 'o', 'o', 'p', '.', 'e', 'x', 'a', 'm', 'p', 'l', 'e', '/', 'g', '0', '0', '9', '5', '0', '/', 'l', 'a', 'w', 's', '.', 'F', 'n', 'C', 'a', 'c', 'h', 'e', ' ', 'l', 'o', 'o', 'p', '.', 'e', 'x', 'a', 'm', 'p', 'l', 'e', '/', 'g', '0', '0', '9', '5', '0', '/', 'l', 'a', 'w', 's', '.', 'F', 'n', 'P', 'a', 'c', 'k', ' ', 'l', 'o', 'o', 'p', '.', 'e', 'x', 'a', 'm', 'p', 'l', 'e', '/', 'g', '0', '0', '9', '5', '0', '/', 'l', 'a', 'w', 's', '.', 'F', 'n', 'E', 'x', 'a', 'c', 't', 'W', 'a', 'l', 'k', 'O', 'k', ' ', 'l', 'o', 'o', 'p', '.', 'e', 'x', 'a', 'm', 'p', 'l', 'e', '/', 'g', '0', '0', '9', '5', '0', '/', 'l', 'a', 'w', 's', '.', 'F', 'n', 'T', 'u', 'r', 'n', 's', ' ', 'l', 'o', 'o', 'p', '.', 'e', 'x', 'a', 'm', 'p', 'l', 'e', '/', 'g', '0', '0', '9', '5', '0', '/', 'l', 'a', 'w', 's', '.', 'F', 'n', 'E', 'x', 'a', 'c', 't', 'S', 'h', 'o', 'w', 'D', 'e', 'l', 't', 'a', ' ', 'l', 'o', 'o', 'p', '.', 'e', 'x', 'a', 'm', 'p', 'l', 'e', '/', 'g', '0', '0', '9', '5', '0', '/', 'l', 'a', 'w', 's', '.', 'F', 'n', 'S', 'l', 'o', 't', 's', ' ', 'l', 'o', 'o', 'p', '.', 'e', 'x', 'a', 'm', 'p', 'l', 'e', '/', 'g', '0', '0', '9', '5', '0', '/', 'l', 'a', 'w', 's', '.', 'F', 'n', 'E', 'x', 'a', 'c', 't', 'L', 'i', 'n', 'k', 'S', 'u', 'm', ' ', 'l', 'o', 'o', 'p', '.', 'e', 'x', 'a', 'm', 'p', 'l', 'e', '/', 'g', '0', '0', '9', '5', '0', '/', 'l', 'a', 'w', 's', '.', 'F', 'n', 'E', 'x', 'a', 'c', 't', 'R', 'e', 'k', 'e', 'y', 'O', 'k', ' ', 'l', 'o', 'o', 'p', '.', 'e', 'x', 'a', 'm', 'p', 'l', 'e', '/', 'g', '0', '0', '9', '5', '0', '/', 'l', 'a', 'w', 's', '.', 'F', 'n', 'E', 'x', 'a', 'c', 't', 'R', 'e', 'k', 'e', 'y', 'K', 'e', 'y', ' ', 'l', 'o', 'o', 'p', '.', 'e', 'x', 'a', 'm', 'p', 'l', 'e', '/', 'g', '0', '0', '9', '5', '0', '/', 'l', 'a', 'w', 's', '.', 'F', 'n', 'E', 'x', 'a', 'c', 't', 'R', 'e', 'a', 'd', 'D', 'e', 'l', 't', 'a', ' ', 'l', 'o', 'o', 'p', '.', 'e', 'x', 'a', 'm', 'p', 'l', 'e', '/', 'g', '0', '0', '9', '5', '0', '/', 'l', 'a', 'w', 's', '.', 'F', 'n', 'E', 'x', 'a', 'c', 't', 'A', 'p', 'p', 'l', 'y', 'D', 'e', 'l', 't', 'a', ' ', 'l', 'o', 'o', 'p', '.', 'e', 'x', 'a', 'm', 'p', 'l', 'e', '/', 'g', '0', '0', '9', '5', '0', '/', 'l', 'a', 'w', 's', '.', 'F', 'n', 'E', 'x', 'a', 'c', 't', 'R', 'e', 'k', 'e', 'y', 'E', 'n', 'd', ' ', 'l', 'o', 'o', 'p', '.', 'e', 'x', 'a', 'm', 'p', 'l', 'e', '/', 'g', '0', '0', '9', '5', '0', '/', 'l', 'a', 'w', 's', '.', 'F', 'n', 'E', 'x', 'a', 'c', 't', 'R', 'e', 'k', 'e', 'y', 'S', 't', 'e', 'p', ' ', 'l', 'o', 'o', 'p', '.', 'e', 'x', 'a', 'm', 'p', 'l', 'e', '/', 'g', '0', '0', '9', '5', '0', '/', 'l', 'a', 'w', 's', '.', 'F', 'n', 'R', 'e', 'k', 'e', 'y', ' ', 'l', 'o', 'o', 'p', '.', 'e', 'x', 'a', 'm', 'p', 'l', 'e', '/', 'g', '0', '0', '9', '5', '0', '/', 'l', 'a', 'w', 's', '.', 'F', 'n', 'E', 'x', 'a', 'c', 't', 'C', 'h', 'a', 'i', 'n', 'A', 'd', 'd', ' ', 'l', 'o', 'o', 'p', '.', 'e', 'x', 'a', 'm', 'p', 'l', 'e', '/', 'g', '0', '0', '9', '5', '0', '/', 'l', 'a', 'w', 's', '.', 'F', 'n', 'E', 'x', 'a', 'c', 't', 'C', 'h', 'a', 'i', 'n', 'S', 'i', 'n', 'c', 'e', ' ', 'l', 'o', 'o', 'p', '.', 'e', 'x', 'a', 'm', 'p', 'l', 'e', '/', 'g', '0', '0', '9', '5', '0', '/', 'l', 'a', 'w', 's', '.', 'F', 'n', 'E', 'x', 'a', 'c', 't', 'J', 'o', 'i', 'n', 'D', 'e', 'l', 't', 'a']
theorem io : Try.prog.initOrder.toList = ioL := by
  show (String.ofList ioL).toList = ioL
  exact String.toList_ofList
def ioR : List (List Char) := [['a', 't'], ['l', 'o', 'o', 'p', '.', 'e', 'x', 'a', 'm', 'p', 'l', 'e', '/', 'g', '0', '0', '9', '5', '0', '/', 'l', 'a', 'w', 's', '.', 'F', 'n', 'E', 'x', 'a', 'c', 't', 'U', 'n', 'p', 'a', 'c', 'k'], ['l', 'o', 'o', 'p', '.', 'e', 'x', 'a', 'm', 'p', 'l', 'e', '/', 'g', '0', '0', '9', '5', '0', '/', 'l', 'a', 'w', 's', '.', 'F', 'n', 'C', 'a', 'c', 'h', 'e'], ['l', 'o', 'o', 'p', '.', 'e', 'x', 'a', 'm', 'p', 'l', 'e', '/', 'g', '0', '0', '9', '5', '0', '/', 'l', 'a', 'w', 's', '.', 'F', 'n', 'P', 'a', 'c', 'k'], ['l', 'o', 'o', 'p', '.', 'e', 'x', 'a', 'm', 'p', 'l', 'e', '/', 'g', '0', '0', '9', '5', '0', '/', 'l', 'a', 'w', 's', '.', 'F', 'n', 'E', 'x', 'a', 'c', 't', 'W', 'a', 'l', 'k', 'O', 'k'], ['l', 'o', 'o', 'p', '.', 'e', 'x', 'a', 'm', 'p', 'l', 'e', '/', 'g', '0', '0', '9', '5', '0', '/', 'l', 'a', 'w', 's', '.', 'F', 'n', 'T', 'u', 'r', 'n', 's'], ['l', 'o', 'o', 'p', '.', 'e', 'x', 'a', 'm', 'p', 'l', 'e', '/', 'g', '0', '0', '9', '5', '0', '/', 'l', 'a', 'w', 's', '.', 'F', 'n', 'E', 'x', 'a', 'c', 't', 'S', 'h', 'o', 'w', 'D', 'e', 'l', 't', 'a'], ['l', 'o', 'o', 'p', '.', 'e', 'x', 'a', 'm', 'p', 'l', 'e', '/', 'g', '0', '0', '9', '5', '0', '/', 'l', 'a', 'w', 's', '.', 'F', 'n', 'S', 'l', 'o', 't', 's'], ['l', 'o', 'o', 'p', '.', 'e', 'x', 'a', 'm', 'p', 'l', 'e', '/', 'g', '0', '0', '9', '5', '0', '/', 'l', 'a', 'w', 's', '.', 'F', 'n', 'E', 'x', 'a', 'c', 't', 'L', 'i', 'n', 'k', 'S', 'u', 'm'], ['l', 'o', 'o', 'p', '.', 'e', 'x', 'a', 'm', 'p', 'l', 'e', '/', 'g', '0', '0', '9', '5', '0', '/', 'l', 'a', 'w', 's', '.', 'F', 'n', 'E', 'x', 'a', 'c', 't', 'R', 'e', 'k', 'e', 'y', 'O', 'k'], ['l', 'o', 'o', 'p', '.', 'e', 'x', 'a', 'm', 'p', 'l', 'e', '/', 'g', '0', '0', '9', '5', '0', '/', 'l', 'a', 'w', 's', '.', 'F', 'n', 'E', 'x', 'a', 'c', 't', 'R', 'e', 'k', 'e', 'y', 'K', 'e', 'y'], ['l', 'o', 'o', 'p', '.', 'e', 'x', 'a', 'm', 'p', 'l', 'e', '/', 'g', '0', '0', '9', '5', '0', '/', 'l', 'a', 'w', 's', '.', 'F', 'n', 'E', 'x', 'a', 'c', 't', 'R', 'e', 'a', 'd', 'D', 'e', 'l', 't', 'a'], ['l', 'o', 'o', 'p', '.', 'e', 'x', 'a', 'm', 'p', 'l', 'e', '/', 'g', '0', '0', '9', '5', '0', '/', 'l', 'a', 'w', 's', '.', 'F', 'n', 'E', 'x', 'a', 'c', 't', 'A', 'p', 'p', 'l', 'y', 'D', 'e', 'l', 't', 'a'], ['l', 'o', 'o', 'p', '.', 'e', 'x', 'a', 'm', 'p', 'l', 'e', '/', 'g', '0', '0', '9', '5', '0', '/', 'l', 'a', 'w', 's', '.', 'F', 'n', 'E', 'x', 'a', 'c', 't', 'R', 'e', 'k', 'e', 'y', 'E', 'n', 'd'], ['l', 'o', 'o', 'p', '.', 'e', 'x', 'a', 'm', 'p', 'l', 'e', '/', 'g', '0', '0', '9', '5', '0', '/', 'l', 'a', 'w', 's', '.', 'F', 'n', 'E', 'x', 'a', 'c', 't', 'R', 'e', 'k', 'e', 'y', 'S', 't', 'e', 'p'], ['l', 'o', 'o', 'p', '.', 'e', 'x', 'a', 'm', 'p', 'l', 'e', '/', 'g', '0', '0', '9', '5', '0', '/', 'l', 'a', 'w', 's', '.', 'F', 'n', 'R', 'e', 'k', 'e', 'y'], ['l', 'o', 'o', 'p', '.', 'e', 'x', 'a', 'm', 'p', 'l', 'e', '/', 'g', '0', '0', '9', '5', '0', '/', 'l', 'a', 'w', 's', '.', 'F', 'n', 'E', 'x', 'a', 'c', 't', 'C', 'h', 'a', 'i', 'n', 'A', 'd', 'd'], ['l', 'o', 'o', 'p', '.', 'e', 'x', 'a', 'm', 'p', 'l', 'e', '/', 'g', '0', '0', '9', '5', '0', '/', 'l', 'a', 'w', 's', '.', 'F', 'n', 'E', 'x', 'a', 'c', 't', 'C', 'h', 'a', 'i', 'n', 'S', 'i', 'n', 'c', 'e'], ['l', 'o', 'o', 'p', '.', 'e', 'x', 'a', 'm', 'p', 'l', 'e', '/', 'g', '0', '0', '9', '5', '0', '/', 'l', 'a', 'w', 's', '.', 'F', 'n', 'E', 'x', 'a', 'c', 't', 'J', 'o', 'i', 'n', 'D', 'e', 'l', 't', 'a']]
theorem words : behindMainWord (wordsSigns Try.prog.initOrder.toList) = ['c', 'u', 't'] :: ioR := by
  rw [io]; kernel_rfl
theorem jLater : Try.prog.laysLater = false := by kernel_rfl
theorem jRefl : Try.prog.bearsReflect = false := by kernel_rfl
theorem jDoor : Try.prog.doorFits [] = true := by kernel_rfl
theorem jEnter : Try.prog.mayEnter = true := enter_cut _ _ words jLater jRefl jDoor
theorem jFinal : Try.prog.liftsFinal = false := final_cut _ _ words
theorem jMake : Try.prog.make = some .cut := make_cut _ _ words
end Go.Proofs.Ytfcnimglcialbaa
