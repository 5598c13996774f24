/- The copies and comparisons of accounts. -/
import Derived.Test.YtjmkkncjbnohoaaSl
namespace Go.Proofs.Ytjmkkncjbnohoaa
open Go.RowKit
set_option maxHeartbeats 400000
set_option linter.unusedVariables false
set_option linter.unusedSimpArgs false
def szR (left : Int) (n : Nat) : Int := if (n : Int) ≤ left then left - n else -1
theorem szAccS_any (A : Option Addr) (c n : Nat) (left : Int) (w : World) (hl : 0 ≤ left ∧ left ≤ 1048576) (hn : n ≤ maxLen) :
    Calls Try.prog 25 #[.slice A n c, .int .i64 left] w fun e w' => e = .returned (.int .i64 (szR left n)) ∧ w = w' := by
  unfold maxLen at hn
  obtain ⟨h1, h2⟩ := hl
  go_enter Try.func25, Try.ntmps25
  go_wp2
  all_goals (go_ret; exact ⟨ret_int (by unfold szR; split <;> omega), rfl⟩)
theorem toAcc_any (a b c d f : Int) (w : World) :
    Calls Try.prog 60 #[.agg #[.int .i64 a, .int .i64 b, .int .i64 c, .int .i64 d, .int .i64 f]] w fun e w' => e = .returned (.agg #[.int .i64 a, .int .i64 b, .int .i64 c, .int .i64 d, .int .i64 f]) ∧ Below w.heap.size w w' := by
  go_enter Try.func60, Try.ntmps60
  go_wp2
  exact bodyPost_ret (v := .agg #[.int .i64 a, .int .i64 b, .int .i64 c, .int .i64 d, .int .i64 f]) (by simp [results, Try.results60, go_sem]) rfl ⟨rfl, (by repeat' first | (with_reducible assumption) | (with_reducible exact Below.refl _ _) | (with_reducible refine Below.drew ?_) | (with_reducible refine below_drewN ?_ _) | (with_reducible refine Below.alloc ?_ ?_ _) | (with_reducible refine Below.setCell ?_ ?_ _) | (simp; done) | (simp; omega) | omega)⟩
theorem T_acc : SlT 32 30 5 40 := SlT.mk' (z := .agg #[.int .i64 0, .int .i64 0, .int .i64 0, .int .i64 0, .int .i64 0]) Try.underlying32 (by kernel_rfl) rfl (by omega)
theorem z_acc : (Try.prog.info? 30).map (·.size) = some 5 := by kernel_rfl
theorem toAccS_any (A : Option Addr) (c : Nat) (l : List Acc) (w : World) (h : Rd w A (l.flatMap Acc.cells)) (hl : l.length ≤ 1048576) :
    Calls Try.prog 27 #[.slice A l.length c] w fun e w' => e = .returned (.slice (some ⟨w.heap.size, 0, none⟩) l.length l.length) ∧ Own w' w.heap.size 30 5 (some ⟨w.heap.size, 0, none⟩) l.length l.length (l.flatMap Acc.cells) ∧ Below w.heap.size w w' := by
  obtain ⟨cs, hcs, hmk⟩ := run_mk T_acc l.length hl (by omega)
  go_enter Try.func27, Try.ntmps27
  go_wp2
  have hcz := Lib.hid hcs; clear hcs hmk
  go_loopw [4] (fun i wr => ∃ k : Nat, k ≤ l.length ∧ i = .int .i64 k ∧ Done wr w.heap.size 30 5 w.heap.size l.length k ((l.take k).flatMap Acc.cells) ∧ Below w.heap.size w wr) (fun i _ => l.length - (intOf i).toNat)
  case atStart => exact ⟨0, Nat.zero_le _, rfl, Done.start (World.ownsRow_lit w cs l.length (Nat.le_refl _) (by simp [maxLen]; omega) hcz.out), (by repeat' first | (with_reducible assumption) | (with_reducible exact Below.refl _ _) | (with_reducible refine Below.drew ?_) | (with_reducible refine below_drewN ?_ _) | (with_reducible refine Below.alloc ?_ ?_ _) | (with_reducible refine Below.setCell ?_ ?_ _) | (simp; done) | (simp; omega) | omega)⟩
  case round =>
    obtain ⟨k, hk, rfl, hd, hb⟩ := hrel
    by_cases hlt : k < l.length
    · obtain ⟨ad, rfl, c0, c1, c2, c3, c4⟩ := Acc.at_ (h.ext hb) hlt
      go_wp2_with (first
        | (go_at_call 60; refine (toAcc_any _ _ _ _ _ _).mono ?_; rintro e w1 ⟨rfl, hb1⟩)
        | (refine wpList_stD z_acc rfl (.tmp 21) (.tmp 20) rfl (hd.ext hb1) hlt rfl rfl _ rfl rfl rfl ?_; intro w2 hd2 hg2))
      have hbs := hb1.size
      exact ⟨⟨k + 1, by omega, by go_num, by rw [flat_snoc _ _ _ hlt]; exact hd2, below_own (hb.trans (hb1.mono hb.size)) hg2 (Nat.le_refl _) (by have := hb.size; omega)⟩, by simp [intOf]; omega⟩
    · obtain rfl : k = l.length := by omega
      rw [List.take_length] at hd
      go_wp2
      go_ret
      exact ⟨rfl, hd.end_, hb⟩
theorem eqAcc_any (x y : Acc) (w : World) (hxy : x = y) :
    Calls Try.prog 29 #[.agg x.cells.toArray, .agg y.cells.toArray] w fun e w' => e = .returned (.bool true) ∧ Below w.heap.size w w' := by
  subst hxy
  unfold Acc.cells
  go_enter Try.func29, Try.ntmps29
  go_wp2
  go_ret
  exact ⟨rfl, (by repeat' first | (with_reducible assumption) | (with_reducible exact Below.refl _ _) | (with_reducible refine Below.drew ?_) | (with_reducible refine below_drewN ?_ _) | (with_reducible refine Below.alloc ?_ ?_ _) | (with_reducible refine Below.setCell ?_ ?_ _) | (simp; done) | (simp; omega) | omega)⟩
theorem eqAccS_any (A B : Option Addr) (c d : Nat) (l : List Acc) (w : World) (h : Rd w A (l.flatMap Acc.cells)) (h2 : Rd w B (l.flatMap Acc.cells)) (hl : l.length ≤ 1048576) :
    Calls Try.prog 30 #[.slice A l.length c, .slice B l.length d] w fun e w' => e = .returned (.bool true) ∧ Below w.heap.size w w' := by
  go_enter Try.func30, Try.ntmps30
  go_wp2
  go_loopw [5] (fun i wr => ∃ k : Nat, k ≤ l.length ∧ i = .int .i64 k ∧ Below w.heap.size w wr) (fun i _ => l.length - (intOf i).toNat)
  case atStart => exact ⟨0, Nat.zero_le _, rfl, (by repeat' first | (with_reducible assumption) | (with_reducible exact Below.refl _ _) | (with_reducible refine Below.drew ?_) | (with_reducible refine below_drewN ?_ _) | (with_reducible refine Below.alloc ?_ ?_ _) | (with_reducible refine Below.setCell ?_ ?_ _) | (simp; done) | (simp; omega) | omega)⟩
  case round =>
    obtain ⟨k, hk, rfl, hb⟩ := hrel
    by_cases hlt : k < l.length
    · obtain ⟨ad, rfl, c0, c1, c2, c3, c4⟩ := Acc.at_ (h.ext hb) hlt
      obtain ⟨ad2, rfl, d0, d1, d2, d3, d4⟩ := Acc.at_ (h2.ext hb) hlt
      go_wp2
      all_goals refine wp_region_seq_tail 8 (by kernel_rfl) (by kernel_rfl) ?_
      all_goals simp only [List.take_succ_cons, List.take_zero, List.drop_succ_cons, List.drop_zero]
      repeat' (refine wpSeq_plain rfl ?_; go_wp2 <;> refine ⟨rfl, ?_⟩)
      all_goals refine wpSeq_nil ?_
      all_goals go_wp2_with (go_at_call 29; refine (eqAcc_any l[k] l[k] _ rfl).mono ?_; rintro e w1 ⟨rfl, hb1⟩)
      have hbs := hb.size
      exact ⟨⟨k + 1, by omega, by go_num, (Below.drew hb).trans (hb1.mono (by simpa using hbs))⟩, by simp [intOf]; omega⟩
    · obtain rfl : k = l.length := by omega
      go_wp2
      go_ret
      exact ⟨rfl, hb⟩
end Go.Proofs.Ytjmkkncjbnohoaa
