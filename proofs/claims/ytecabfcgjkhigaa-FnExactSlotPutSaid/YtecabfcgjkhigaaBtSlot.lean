/- Slot in the uniform style: size, copy, comparison, marks. -/
import Derived.Test.YtecabfcgjkhigaaMt
import Derived.Test.YtecabfcgjkhigaaFgt0
namespace Go.Proofs.Ytecabfcgjkhigaa
open Go.RowKit
set_option maxHeartbeats 4000000
set_option maxRecDepth 20000
set_option linter.unusedVariables false
set_option linter.unusedSimpArgs false
attribute [local irreducible] Calls
structure DSlot where
  seq : Int
  root : ByteArray
  deriving DecidableEq
def Slot_val (x : DSlot) (y : Ys) : Value := .agg #[.int .i64 x.seq, .string x.root]
def Slot_obj (x : DSlot) (y : Ys) : List HObj := []
def Slot_rd (w : World) (x : DSlot) (y : Ys) : Prop := True
def Slot_big (x : DSlot) : Prop := x.root.size ≤ maxLen
def Slot_sm (x : DSlot) : Prop := x.root.size ≤ 1048576
def Slot_lim (x : DSlot) : Prop := True
def Slot_cnt (x : DSlot) (k : Int) : Int := k
def Slot_mk (k : Int) (x : DSlot) : DSlot := x
theorem eqSlot_c (x : DSlot) (y z : Ys) (w : World) :
    Calls Try.prog 63 #[Slot_val x y, Slot_val x z] w fun e w' => e = .returned (.bool true) ∧ Below w.heap.size w w' := by
  refine ok_enter 15 Try.func63 rfl rfl rfl ?_
  repeat' (first
    | refine ok_seq ?_
    | refine ok_then ?_
    | refine ok_then_ret ?_
    | (refine ok_cond rfl (fun hc => ?_) (fun hc => ?_) <;> (have hd := hc; (try simp only [decide_eq_true_eq, decide_eq_false_iff_not, Bool.or_eq_true, Bool.or_eq_false_iff, Bool.and_eq_true, Bool.and_eq_false_iff, Bool.not_eq_true', Bool.not_eq_false', bne_iff_ne, beq_iff_eq, bne_eq_false_iff_eq, beq_eq_false_iff_ne, ne_eq, Bool.not_true, Bool.not_false, Bool.false_eq_true, Bool.true_eq_false, inB_true, inB_false] at hd)))
    | refine ok_ret ?_
    | refine ok_skip ?_
    | (refine ok_region (i := 0) ?_; refine ok_m rfl rfl rfl (by exact ms_box rfl rfl rfl) ?_; rintro y2 hy2; refine ok_m rfl rfl rfl (by exact ms_box rfl rfl rfl) ?_; rintro y3 hy3; refine ok_p rfl rfl rfl (by exact ps_assign rfl rfl) ?_; refine ok_nil ?_; refine ok_env [(2, _), (3, _)] ⟨rfl, rfl, trivial⟩ ?_)
    | (refine ok_region (i := 1) ?_; refine ok_p rfl rfl rfl (by exact ps_field rfl rfl (by exact isw_ga _)) ?_; refine ok_p rfl rfl rfl (by exact ps_load rfl rfl (by exact Rds.cell (rds_box 1 rfl) rfl)) ?_; refine ok_p rfl rfl rfl (by exact ps_field rfl rfl (by exact isw_ga _)) ?_; refine ok_p rfl rfl rfl (by exact ps_load rfl rfl (by exact Rds.cell (rds_box 0 rfl) rfl)) ?_; refine ok_p rfl rfl rfl (by exact ps_int rfl rfl rfl rfl) ?_; refine ok_nil ?_; refine ok_env [(2, _), (3, _), (9, _)] ⟨rfl, rfl, rfl, trivial⟩ ?_)
    | (refine ok_region (i := 2) ?_; refine ok_p rfl rfl rfl (by exact ps_assign rfl rfl) ?_; refine ok_nil ?_; refine ok_env [(4, _)] ⟨rfl, trivial⟩ ?_)
    | (refine ok_region (i := 3) ?_; refine ok_p rfl rfl rfl (by exact ps_field rfl rfl (by exact isw_ga _)) ?_; refine ok_p rfl rfl rfl (by exact ps_load rfl rfl (by exact Rds.cell (rds_box 1 rfl) rfl)) ?_; refine ok_p rfl rfl rfl (by exact ps_field rfl rfl (by exact isw_ga _)) ?_; refine ok_p rfl rfl rfl (by exact ps_load rfl rfl (by exact Rds.cell (rds_box 0 rfl) rfl)) ?_; refine ok_p rfl rfl rfl (by exact ps_str rfl rfl rfl rfl) ?_; refine ok_nil ?_; refine ok_env [(14, _)] ⟨rfl, trivial⟩ ?_)
    | (refine ok_region (i := 4) ?_; refine ok_p rfl rfl rfl (by exact ps_assign rfl rfl) ?_; refine ok_nil ?_; refine ok_env [(4, _)] ⟨rfl, trivial⟩ ?_)
    | (refine ok_region (i := 5) ?_; refine ok_p rfl rfl rfl (by exact ps_assign rfl rfl) ?_; refine ok_nil ?_; refine ok_env [(4, _)] ⟨rfl, trivial⟩ ?_))
  all_goals first
    | (exfalso; simp [sEq] at hc; done)
    | exact ok_endL (vs := [_]) rfl ⟨rfl, trivial⟩ (fun w' hw => ⟨rfl, hw.below⟩)
abbrev gSlot : GT := .st [.int, .str]
theorem Slot_open {w : World} {cs : Array Value} {x : gSlot.den} (hx : RdT w gSlot x cs.toList) : ∃ (d : DSlot) (y : Ys), Value.agg cs = Slot_val d y ∧ Slot_rd w d y ∧ Slot_big d := by
  obtain ⟨cs⟩ := cs
  simp only at hx
  obtain ⟨a0, a1, u⟩ := x
  obtain ⟨c0, d0, rfl, h0, e0⟩ := RdTL.cons.1 (RdT.st.1 hx)
  obtain ⟨c1, d1, rfl, h1, e1⟩ := RdTL.cons.1 e0
  rw [RdTL.nil] at e1; subst e1
  obtain ⟨rfl, b0⟩ := RdT.int.1 h0
  obtain ⟨rfl, b1⟩ := RdT.str.1 h1
  exact ⟨⟨a0, a1⟩, ya [] w, rfl, trivial, b1⟩
end Go.Proofs.Ytecabfcgjkhigaa
