/- Walks of l29Best, matchAt and both Pack. -/
import Derived.Test.YtfcnimglcialbaaSeq
import Derived.Test.YtfcnimglcialbaaPack
namespace Go.Proofs.Ytfcnimglcialbaa
open Go.RowKit
set_option maxHeartbeats 400000
set_option linter.unusedVariables false
set_option linter.unusedSimpArgs false
theorem matchAt_any (s : ByteArray) (at' : Nat) (hs : at' < s.size) (h200 : s.size ≤ 1048576) (w : World) :
    Calls Try.prog 109 #[.string s, .int .i64 at'] w fun e w' => e = .returned (.tuple #[.int .i64 (best s at').1, .int .i64 (best s at').2]) ∧ ∃ n, w' = w.drewN n := by
  have hm := Lib.hid (matchP_eq s at' (by omega))
  go_enter Try.func109, Try.ntmps109
  go_wp2
  all_goals
    go_loopw [6, 7] (fun nv _ wr => ∃ m : Nat, nv = .int .i64 m ∧ m ≤ 18 ∧ at' + m ≤ s.size ∧ oFrom s at' m = best s at' ∧ ∃ n, wr = w.drewN n) (fun nv _ _ => (intOf nv).toNat)
    case atStart => exact ⟨min 18 (s.size - at'), by rename_i h; congr 1; omega, by omega, by omega, hm.out, 0, rfl⟩
    case round =>
      obtain ⟨m, rfl, h18, hms, ho, n, rfl⟩ := hrel
      by_cases h3 : 3 ≤ m
      · have O := Lib.hid ho; clear ho
        have h3i : (3 : Int) ≤ (m : Int) := by omega
        go_wp2
        go_loopw [7] (fun bv wr => ∃ b f : Nat, bv = .int .i64 b ∧ m ≤ b ∧ b + f = m + 61 ∧ iFrom s at' m f b = iFrom s at' m 61 m ∧ ∃ n, wr = w.drewN n) (fun bv _ => (61 - intOf bv).toNat)
        case atStart => exact ⟨m, 61, rfl, by omega, by omega, rfl, n, rfl⟩
        case round =>
          obtain ⟨b, f, rfl, j1, j2, j3, n2, rfl⟩ := hrel
          have J := Lib.hid j3; clear j3
          by_cases hb : b ≤ 60 ∧ b ≤ at'
          · obtain ⟨f', rfl, S1, S2⟩ := iFrom_step J.out hb (by omega)
            have T1 := Lib.hid S1; have T2 := Lib.hid S2; clear S1 S2
            obtain ⟨hb1, hb2⟩ := hb
            have hbi : (b : Int) ≤ 60 := by omega
            go_wp2
            all_goals refine wp_region_seq (by kernel_rfl) (by kernel_rfl) ?_
            repeat' (refine wpSeq_plain rfl ?_; go_wp2 <;> refine ⟨rfl, ?_⟩)
            all_goals refine wpSeq_nil ?_
            all_goals go_wp2
            all_goals first
              | (rename_i hx; have e := oFrom_found' O.out h3 (T1.out hx) (by omega); go_ret2; refine ⟨?_, n2 + 1, rfl⟩; rw [e]; rfl)
              | (rename_i hx; refine ⟨?_, by simp [intOf]; omega⟩; first | exact ⟨b + 1, f', by go_num, by omega, by omega, T2.out hx, n2 + 1, rfl⟩ | ((repeat apply Exists.intro); exact ⟨⟨b + 1, f', by go_num, by omega, by omega, T2.out hx, n2 + 1, rfl⟩, rfl⟩))
          · have e := Lib.hid (iFrom_stop J.out hb)
            go_wp2
            all_goals exact ⟨⟨m - 1, by go_num, by omega, by omega, oFrom_next' O.out h3 e.out, n2, rfl⟩, by simp [intOf]; omega⟩
      · have e := Lib.hid (oFrom_stop ho h3); clear ho
        go_wp2
        go_ret2
        refine ⟨?_, n, rfl⟩
        rw [e.out]; rfl
end Go.Proofs.Ytfcnimglcialbaa
