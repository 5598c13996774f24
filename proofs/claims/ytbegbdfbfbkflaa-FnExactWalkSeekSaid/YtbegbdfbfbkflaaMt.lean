/- The mark's text. -/
import Derived.Test.YtbegbdfbfbkflaaBi
namespace Go.Proofs.Ytbegbdfbfbkflaa
open Go.RowKit
set_option maxHeartbeats 1000000
set_option maxRecDepth 20000
set_option linter.unusedVariables false
set_option linter.unusedSimpArgs false
theorem ps_str1 {P : Program} {E : Env} {H : List HObj} {G : List World} {o : Oper} {x : Operand} {s t e : TypeId} {A : Option Addr} {c : Nat} {n : Int} {sz bytes : Nat} [hs' : EL P s e sz bytes] [he'' : IK P e .u8] [ht' : SS P t] (ho : o.op = .convert s t x) (hx : opd E x = some (.slice A 1 c)) (hr : Rds H G A [.int .u8 n]) : PStep P E H G o (.string (byteStr n)) := fun N base w0 a w he hw => by
  have h := hr base w0 w hw
  obtain ⟨ad, rfl, hc⟩ := h 0 (.int .u8 n) rfl
  have hrun : (convert s t (.slice (some ad) 1 c)).run P w = .ok (.string (byteStr n)) w := by
    rw [run_convert_bytes_string w _ _ e (some ad) 1 c hs'.h.1 he''.h ht'.h]
    rw [run_bytesToString w ad 1 c [n] (by
      have := run_loadCells_list (P := P) w ad [Value.int .u8 n] (fun j v hj => by
        rcases j with _ | j
        · simp at hj; subst hj; simpa [Addr.add] using hc
        · simp at hj)
      simpa using this)]
    simp [byteStr, ByteArray.empty, ByteArray.emptyWithCapacity, ByteArray.push]
    rfl
  simp [execOp, ho, he.eval hx, hrun]
def dig (k : Int) : ByteArray := byteStr (IntKind.u8.wrap (48 + k % 10))
def mtF : Nat → Int → ByteArray → ByteArray
  | 0, _, out => out
  | f + 1, k, out => if 0 < k then mtF f (k / 10) (dig k ++ out) else out
def mT (k : Int) : ByteArray := if 0 < k then ⟨#[109]⟩ ++ mtF k.toNat k ⟨#[]⟩ else ⟨#[109, 48]⟩
theorem mtF_done (f : Nat) (k : Int) (out : ByteArray) (h : ¬ 0 < k) : mtF f k out = out := by cases f <;> simp [mtF, h]
theorem mtF_size : ∀ (f : Nat) (k : Int) (out : ByteArray), (mtF f k out).size ≤ out.size + f
  | 0, k, out => by simp [mtF]
  | f + 1, k, out => by
    unfold mtF
    split
    · have := mtF_size f (k / 10) (dig k ++ out)
      rw [ByteArray.size_append] at this
      have h1 : (dig k).size = 1 := rfl
      omega
    · omega
theorem markText_c (k : Int) (h : k ≤ 4000000000000000000) (w : World) :
    Calls Try.prog 213 #[.int .i64 k] w fun e w' => e = .returned (.string (mT k)) ∧ Below w.heap.size w w' := by
  refine ok_enter 20 Try.func213 rfl rfl rfl ?_
  repeat' (first
    | refine ok_seq ?_
    | refine ok_then ?_
    | refine ok_then_ret ?_
    | refine ok_block ?_
    | (refine ok_cond rfl (fun hc => ?_) (fun hc => ?_) <;> (have hd := hc; (try simp only [decide_eq_true_eq, decide_eq_false_iff_not, Bool.or_eq_true, Bool.or_eq_false_iff, Bool.and_eq_true, Bool.and_eq_false_iff, Bool.not_eq_true', Bool.not_eq_false', bne_iff_ne, beq_iff_eq, bne_eq_false_iff_eq, beq_eq_false_iff_ne, ne_eq, Bool.not_true, Bool.not_false, Bool.false_eq_true, Bool.true_eq_false, inB_true, inB_false] at hd)))
    | refine ok_ret ?_
    | refine ok_skip ?_
    | (refine ok_region (i := 0) ?_; refine ok_p rfl rfl rfl (by exact ps_assign rfl rfl) ?_; refine ok_nil ?_; refine ok_env [(0, _)] ⟨rfl, trivial⟩ ?_)
    | (refine ok_region (i := 1) ?_; refine ok_p rfl rfl rfl (by exact ps_move rfl rfl) ?_; refine ok_p rfl rfl rfl (by exact ps_int rfl rfl rfl rfl) ?_; refine ok_nil ?_; refine ok_env [(0, _), (5, _)] ⟨rfl, rfl, trivial⟩ ?_)
    | (refine ok_region (i := 2) ?_; refine ok_p rfl rfl rfl (by exact ps_assign rfl rfl) ?_; refine ok_nil ?_; refine ok_env [(2, _)] ⟨rfl, trivial⟩ ?_)
    | (refine ok_region (i := 3) ?_; refine ok_p rfl rfl rfl (by exact ps_assign rfl rfl) ?_; refine ok_nil ?_; refine ok_env [(0, _), (3, _)] ⟨rfl, rfl, trivial⟩ ?_))
  · exact ok_endL (vs := [_]) rfl ⟨rfl, trivial⟩ (fun w' hw => ⟨by show Ending.returned (.string _) = _; unfold mT; rw [if_neg (by omega)], hw.below⟩)
  · have hT := Lib.hid (show mT k = ⟨#[109]⟩ ++ mtF k.toNat k ⟨#[]⟩ by unfold mT; rw [if_pos (by omega)])
    refine ok_loop (ι := { p : Int × ByteArray × Nat // p.1 ≤ k ∧ p.1 ≤ p.2.2 ∧ mtF p.2.2 p.1 p.2.1 = mtF k.toNat k ⟨#[]⟩ ∧ p.2.1.size + p.2.2 ≤ k.toNat }) (fun p => p.1.1.toNat) (fun p => ([(0, .int .i64 p.1.1), (3, .string p.1.2.1)], [], _)) ⟨(k, ⟨#[]⟩, k.toNat), Int.le_refl _, by simp only; omega, rfl, by show 0 + k.toNat ≤ _; omega⟩ (fun a w he hw => ⟨⟨(k, ⟨#[]⟩, k.toNat), Int.le_refl _, by simp only; omega, rfl, by show 0 + k.toNat ≤ _; omega⟩, he.sub ⟨rfl, rfl, trivial⟩, hw⟩) ?_
    rintro ⟨⟨q, out, f⟩, hq1, hq2, hq3, hq4⟩
    simp only at hq1 hq2 hq3 hq4 ⊢
    have H3 := Lib.hid hq3; clear hq3
    have hds : (dig q).size = 1 := rfl
    have hms : (⟨#[109]⟩ : ByteArray).size = 1 := rfl
    repeat' (first
      | refine ok_seq ?_
      | refine ok_then ?_
      | refine ok_block ?_
      | refine ok_in_normal ?_
      | (refine ok_cond rfl (fun hc => ?_) (fun hc => ?_) <;> (have hd := hc; (try simp only [decide_eq_true_eq, decide_eq_false_iff_not, Bool.or_eq_true, Bool.or_eq_false_iff, Bool.and_eq_true, Bool.and_eq_false_iff, Bool.not_eq_true', Bool.not_eq_false', bne_iff_ne, beq_iff_eq, bne_eq_false_iff_eq, beq_eq_false_iff_ne, ne_eq, Bool.not_true, Bool.not_false, Bool.false_eq_true, Bool.true_eq_false, inB_true, inB_false] at hd)))
      | refine ok_ret ?_
      | refine ok_exit ?_
      | refine ok_skip ?_
      | (refine ok_region (i := 4) ?_; refine ok_p rfl rfl rfl (by exact ps_move rfl rfl) ?_; refine ok_p rfl rfl rfl (by exact ps_int rfl rfl rfl rfl) ?_; refine ok_nil ?_; refine ok_env [(0, _), (3, _), (7, _)] ⟨rfl, rfl, rfl, trivial⟩ ?_)
      | (refine ok_region (i := 5) ?_; refine ok_p rfl rfl rfl (by exact ps_move rfl rfl) ?_; refine ok_p rfl rfl rfl (by exact ps_rem rfl rfl rfl (by omega) (by omega)) ?_; refine ok_p rfl rfl rfl (by exact ps_add rfl rfl rfl (by omega)) ?_; refine ok_p rfl rfl rfl (by exact ps_conv rfl rfl) ?_; refine ok_m rfl rfl rfl (by exact ms_lit rfl (parts_cons rfl parts_nil) rfl rfl rfl) ?_; rintro y12 hy12; refine ok_p rfl rfl rfl (by exact ps_str1 rfl rfl (rds_row 0 rfl)) ?_; refine ok_p rfl rfl rfl (by exact ps_move rfl rfl) ?_; refine ok_p rfl rfl rfl (by exact ps_sadd (s := dig q) rfl rfl rfl (by omega)) ?_; refine ok_p rfl rfl rfl (by exact ps_assign rfl rfl) ?_; refine ok_nil ?_; refine ok_env [(0, _), (3, _)] ⟨rfl, rfl, trivial⟩ ?_)
      | (refine ok_region (i := 6) ?_; refine ok_p rfl rfl rfl (by exact ps_move rfl rfl) ?_; refine ok_p rfl rfl rfl (by exact ps_quo rfl rfl rfl (by omega) (by omega)) ?_; refine ok_p rfl rfl rfl (by exact ps_assign rfl rfl) ?_; refine ok_nil ?_; refine ok_env [(0, _), (3, _)] ⟨rfl, rfl, trivial⟩ ?_)
      | (refine ok_region (i := 7) ?_; refine ok_p rfl rfl rfl (by exact ps_move rfl rfl) ?_; refine ok_p rfl rfl rfl (by exact ps_sadd rfl rfl rfl (by omega)) ?_; refine ok_p rfl rfl rfl (by exact ps_assign rfl rfl) ?_; refine ok_nil ?_; refine ok_env [(2, _)] ⟨rfl, trivial⟩ ?_))
    · obtain ⟨f', rfl⟩ : ∃ f', f = f' + 1 := ⟨f - 1, by omega⟩
      have e := H3.out
      rw [mtF, if_pos hd] at e
      refine fun a w' he hw => ⟨⟨(q / 10, dig q ++ out, f'), by simp only; omega, by simp only; omega, e, by simp only; rw [ByteArray.size_append]; omega⟩, by simp only; omega, he.sub ⟨rfl, rfl, trivial⟩, hw.tl⟩
    · refine ok_endL (vs := [_]) rfl ⟨rfl, trivial⟩ (fun w' hw => ⟨?_, hw.below⟩)
      rw [hT.out, ← H3.out, mtF_done _ _ _ hd]; rfl
end Go.Proofs.Ytbegbdfbfbkflaa
