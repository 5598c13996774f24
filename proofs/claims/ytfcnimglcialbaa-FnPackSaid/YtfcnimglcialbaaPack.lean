/- Walks of l29Best, matchAt and both Pack. -/
import Derived.Test.YtfcnimglcialbaaSeq
import Derived.Test.YtfcnimglcialbaaPackP
namespace Go.Proofs.Ytfcnimglcialbaa
open Go.RowKit
set_option maxHeartbeats 400000
set_option linter.unusedVariables false
set_option linter.unusedSimpArgs false
theorem best_any (s : ByteArray) (at' : Nat) (hs : at' < s.size) (h200 : s.size ≤ 1048576) (w : World) :
    Calls Try.prog 112 #[.string s, .int .i64 at'] w fun e w' => e = .returned (.tuple #[.int .i64 (best s at').1, .int .i64 (best s at').2]) ∧ ∃ n, w' = w.drewN n := by
  go_enter Try.func112, Try.ntmps112
  go_wp2
  go_loopw [6, 7, 8] (fun b r d wr => ∃ bn rn dn f : Nat, b = .int .i64 bn ∧ r = .int .i64 rn ∧ d = .int .i64 dn ∧ 1 ≤ dn ∧ dn + f = 61 ∧ bFrom s at' f dn bn rn = best s at' ∧ ∃ n, wr = w.drewN n) (fun _ _ d _ => (61 - intOf d).toNat)
  case atStart => exact ⟨0, 0, 1, 60, rfl, rfl, rfl, by omega, rfl, rfl, 0, rfl⟩
  case round =>
    obtain ⟨bn, rn, dn, f, rfl, rfl, rfl, h1, h2, h3, n, rfl⟩ := hrel
    by_cases hg : dn ≤ 60 ∧ dn ≤ at'
    · obtain ⟨hg1, hg2⟩ := hg
      have H := Lib.hid h3; clear h3
      go_wp2
      go_loopw [9] (fun nv wr => ∃ k g : Nat, nv = .int .i64 k ∧ k + g = 18 ∧ mFrom s at' dn g k = mLen s at' dn ∧ ∃ n, wr = w.drewN n) (fun nv _ => (18 - intOf nv).toNat)
      case atStart => exact ⟨0, 18, rfl, rfl, rfl, n, rfl⟩
      case round =>
        obtain ⟨k, g, rfl, i1, i2, n2, rfl⟩ := hrel
        have I := Lib.hid i2; clear i2
        obtain ⟨f', rfl, S1, S2⟩ := bFrom_step H.out h2 hg1 hg2
        have T1 := Lib.hid S1; have T2 := Lib.hid S2; clear S1 S2 H
        cases c : mGo s at' dn k
        · have e := mFrom_stop I.out c
          rw [e] at T1 T2
          clear e
          have cc := Lib.hid c; clear c
          have hb : ∀ (a : k < 18) (b : k < dn) (c3 : at' + k < s.size) (c4 : at' - dn + k < s.size), (((s[at' - dn + k].toNat : Nat) : Int) == ((s[at' + k].toNat : Nat) : Int)) = false := fun a b c3 c4 => mGo_false cc.out hg2 a b c3 c4
          go_wp2
          all_goals refine wp_region_seq (by kernel_rfl) (by kernel_rfl) ?_
          repeat' (refine wpSeq_plain rfl ?_; go_wp2 <;> refine ⟨rfl, ?_⟩)
          all_goals refine wpSeq_nil ?_
          all_goals go_wp2
          all_goals first
            | exact ⟨⟨k, dn, dn + 1, f', rfl, rfl, by go_num, by omega, by omega, T1.out ⟨by omega, by omega⟩, n2 + 1, rfl⟩, by simp [intOf]; omega⟩
            | exact ⟨⟨bn, rn, dn + 1, f', rfl, rfl, by go_num, by omega, by omega, T2.out (by omega), n2 + 1, rfl⟩, by simp [intOf]; omega⟩
            | (rename_i hx; have hy := hb (by omega) (by omega) (by omega) (by omega); rw [hy] at hx; cases hx)
        · obtain ⟨g', rfl, I'⟩ := mFrom_go I.out i1 c
          obtain ⟨c1, c2, c3, c4, hb⟩ := mGo_true c hg2
          have J := Lib.hid I'; clear I' c I
          go_wp2
          all_goals refine wp_region_seq (by kernel_rfl) (by kernel_rfl) ?_
          repeat' (refine wpSeq_plain rfl ?_; go_wp2 <;> refine ⟨rfl, ?_⟩)
          all_goals refine wpSeq_nil ?_
          all_goals go_wp2
          all_goals exact ⟨⟨k + 1, g', by go_num, by omega, J.out, n2 + 1, rfl⟩, by simp [intOf]; omega⟩
    · have e := Lib.hid (bFrom_stop h3 hg); clear h3
      go_wp2
      all_goals (go_ret2; refine ⟨?_, n, rfl⟩; rw [e.out]; rfl)
end Go.Proofs.Ytfcnimglcialbaa
