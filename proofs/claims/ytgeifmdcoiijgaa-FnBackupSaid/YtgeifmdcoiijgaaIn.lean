/- Slices of ints: their size, copy, comparison, marks. -/
import Derived.Test.YtgeifmdcoiijgaaSl
namespace Go.Proofs.Ytgeifmdcoiijgaa
open Go.RowKit
set_option maxHeartbeats 400000
set_option linter.unusedVariables false
set_option linter.unusedSimpArgs false
def ints (xs : List Int) : List Value := xs.map (.int .i64)
theorem ints_len (xs : List Int) : (ints xs).length = xs.length := by simp [ints]
theorem ints_app (a b : List Int) : ints (a ++ b) = ints a ++ ints b := by simp [ints]
theorem ints_at {w : World} {A : Option Addr} {xs : List Int} (h : Rd w A (ints xs)) {i : Nat} (hi : i < xs.length) : ∃ ad, A = some ad ∧ w.cell? (ad.add i) = some (.int .i64 xs[i]) := by
  obtain ⟨ad, e, hc⟩ := h i (.int .i64 xs[i]) (by simp [ints, List.getElem?_eq_getElem hi])
  exact ⟨ad, e, hc⟩
theorem ints_snoc (l : List Int) (k : Nat) (h : k < l.length) : ints (l.take (k + 1)) = ints (l.take k) ++ [.int .i64 l[k]] := by
  rw [List.take_succ_eq_append_getElem h]; unfold ints; rw [List.map_append]; rfl
def szQ (left : Int) (n : Nat) : Int := if (n : Int) ≤ left then left - n else -1
theorem szIntS_any (A : Option Addr) (c n : Nat) (left : Int) (w : World) (hl : 0 ≤ left ∧ left ≤ 1048576) (hn : n ≤ maxLen) :
    Calls Try.prog 239 #[.slice A n c, .int .i64 left] w fun e w' => e = .returned (.int .i64 (szQ left n)) ∧ w = w' := by
  unfold maxLen at hn
  obtain ⟨h1, h2⟩ := hl
  go_enter Try.func239, Try.ntmps239
  go_wp2
  all_goals (go_ret; exact ⟨ret_int (by unfold szQ; split <;> omega), rfl⟩)
theorem z_int : (Try.prog.info? 3).map (·.size) = some 1 := by kernel_rfl
theorem i_int : (Try.prog.info? 3).map (fun i => (i.zero, i.size, i.bytes)) = some (some (.int .i64 0), 1, 8) := by kernel_rfl
theorem T_int : SlT 65 3 1 8 := SlT.mk' (z := .int .i64 0) Try.underlying65 i_int rfl (by omega)
theorem toIntS_any (A : Option Addr) (c : Nat) (l : List Int) (w : World) (h : Rd w A (ints l)) (hl : l.length ≤ 1048576) :
    Calls Try.prog 240 #[.slice A l.length c] w fun e w' => e = .returned (.slice (some ⟨w.heap.size, 0, none⟩) l.length l.length) ∧ Own w' w.heap.size 3 1 (some ⟨w.heap.size, 0, none⟩) l.length l.length (ints l) ∧ Below w.heap.size w w' := by
  obtain ⟨cs, hcs, hmk⟩ := run_mk T_int l.length hl (by omega)
  go_enter Try.func240, Try.ntmps240
  go_wp2
  have hcz := Lib.hid hcs; clear hcs hmk
  go_loopw [4] (fun i wr => ∃ k : Nat, k ≤ l.length ∧ i = .int .i64 k ∧ Done wr w.heap.size 3 1 w.heap.size l.length k (ints (l.take k)) ∧ Below w.heap.size w wr) (fun i _ => l.length - (intOf i).toNat)
  case atStart => exact ⟨0, Nat.zero_le _, rfl, Done.start (World.ownsRow_lit w cs l.length (Nat.le_refl _) (by simp [maxLen]; omega) hcz.out), (by repeat' first | (with_reducible assumption) | (with_reducible exact Below.refl _ _) | (with_reducible refine Below.drew ?_) | (with_reducible refine below_drewN ?_ _) | (with_reducible refine Below.alloc ?_ ?_ _) | (with_reducible refine Below.setCell ?_ ?_ _) | (simp; done) | (simp; omega) | omega)⟩
  case round =>
    obtain ⟨k, hk, rfl, hd, hb⟩ := hrel
    by_cases hlt : k < l.length
    · obtain ⟨ad, rfl, c0⟩ := ints_at (h.ext hb) hlt
      go_wp2_with (refine wpList_stD z_int rfl (.tmp 20) (.tmp 19) rfl hd hlt rfl (by rw [Nat.mul_one]) _ rfl rfl rfl ?_; intro w2 hd2 hg2)
      exact ⟨⟨k + 1, by omega, by go_num, by rw [ints_snoc _ _ hlt]; exact hd2, below_own hb hg2 (Nat.le_refl _) hb.size⟩, by simp [intOf]; omega⟩
    · obtain rfl : k = l.length := by omega
      rw [List.take_length] at hd
      go_wp2
      go_ret
      exact ⟨rfl, hd.end_, hb⟩
theorem eqIntS_any (A B : Option Addr) (c d : Nat) (l : List Int) (w : World) (h : Rd w A (ints l)) (h2 : Rd w B (ints l)) (hl : l.length ≤ 1048576) :
    Calls Try.prog 237 #[.slice A l.length c, .slice B l.length d] w fun e w' => e = .returned (.bool true) ∧ ∃ n, w' = w.drewN n := by
  go_enter Try.func237, Try.ntmps237
  go_wp2
  go_loopw [5] (fun i wr => ∃ k : Nat, k ≤ l.length ∧ i = .int .i64 k ∧ ∃ n, wr = w.drewN n) (fun i _ => l.length - (intOf i).toNat)
  case atStart => exact ⟨0, Nat.zero_le _, rfl, 0, rfl⟩
  case round =>
    obtain ⟨k, hk, rfl, n, rfl⟩ := hrel
    by_cases hlt : k < l.length
    · obtain ⟨ad, rfl, c0⟩ := ints_at h hlt
      obtain ⟨ad2, rfl, d0⟩ := ints_at h2 hlt
      go_wp2
      all_goals refine wp_region_seq (by kernel_rfl) (by kernel_rfl) ?_
      repeat' (refine wpSeq_plain rfl ?_; go_wp2 <;> refine ⟨rfl, ?_⟩)
      all_goals refine wpSeq_nil ?_
      all_goals go_wp2
      exact ⟨⟨k + 1, by omega, by go_num, n + 1, rfl⟩, by simp [intOf]; omega⟩
    · obtain rfl : k = l.length := by omega
      go_wp2
      go_ret
      exact ⟨rfl, n, rfl⟩
/-- n numbers from k on. -/
def upFrom (k : Int) (n : Nat) : List Int := (List.range n).map (fun j : Nat => k + (j : Int))
theorem upFrom_len (k : Int) (n : Nat) : (upFrom k n).length = n := by simp [upFrom]
theorem upFrom_succ (k : Int) (n : Nat) : upFrom k (n + 1) = upFrom k n ++ [k + (n : Int)] := by simp [upFrom, List.range_succ]
theorem upFrom_get (k : Int) (n i : Nat) (h : i < (upFrom k n).length) : (upFrom k n)[i] = k + (i : Int) := by simp [upFrom]
theorem markIntS_any {base n c : Nat} {A : Option Addr} {us : List Value} (k : Int) (w : World) (h : Own w base 3 1 A n c us) (hn : n ≤ 1048576) (hk0 : 0 ≤ k) (hk1 : k ≤ 1099511627776) :
    Calls Try.prog 190 #[.slice A n c, .int .i64 k] w fun e w' => e = .returned (.int .i64 (k + n)) ∧ Own w' base 3 1 A n c (ints (upFrom k n)) ∧ w.grownBy w' (blk A) := by
  rcases h.2 with ⟨hv, rfl⟩ | ⟨g, cap, cur, hv, _⟩
  · cases hv
    go_enter Try.func190, Try.ntmps190
    go_wp2
    refine wp_loop_rounds 1 ?_
    rw [rounds_succ]
    go_wp2
    go_ret
    exact ⟨ret_int (by simp), by simp only [upFrom, ints, List.range_zero, List.map_nil]; exact Own.nil _ _ _ _, World.grownBy.refl _ _⟩
  · cases hv
    go_enter Try.func190, Try.ntmps190
    go_wp2
    go_loopw [1, 5] (fun kv i wr => ∃ j : Nat, j ≤ n ∧ i = .int .i64 j ∧ kv = .int .i64 (k + j) ∧ DoneC wr base 3 1 g n c j (ints (upFrom k j)) ∧ w.grownBy wr (some g)) (fun _ i _ => n - (intOf i).toNat)
    case atStart => exact ⟨0, Nat.zero_le _, rfl, by simp, DoneC.start h, World.grownBy.refl _ _⟩
    case round =>
      obtain ⟨j, hj, rfl, rfl, hd, hg⟩ := hrel
      by_cases hlt : j < n
      · go_wp2_with (refine wpList_stC z_int rfl (.tmp 15) (.tmp 14) rfl hd hlt rfl (by rw [Nat.mul_one]) _ rfl rfl rfl ?_; intro w2 hd2 hg2)
        exact ⟨⟨j + 1, by omega, by go_num, by go_num, by rw [upFrom_succ, ints_app]; exact hd2, World.grownBy.trans hg hg2⟩, by simp [intOf]; omega⟩
      · obtain rfl : j = n := by omega
        go_wp2
        go_ret
        exact ⟨rfl, hd.end_, hg⟩
theorem heldIntS_any {n c : Nat} {A : Option Addr} (k : Int) (w : World) (h : Rd w A (ints (upFrom k n))) (hn : n ≤ 1048576) (hk0 : 0 ≤ k) (hk1 : k ≤ 1099511627776) :
    Calls Try.prog 191 #[.slice A n c, .int .i64 k] w fun e w' => e = .returned (.int .i64 (k + n)) ∧ w = w' := by
  go_enter Try.func191, Try.ntmps191
  go_wp2
  go_loop [1, 5] (fun kv i => ∃ j : Nat, j ≤ n ∧ i = .int .i64 j ∧ kv = .int .i64 (k + j)) (fun _ i => n - (intOf i).toNat)
  case atStart => exact ⟨0, Nat.zero_le _, rfl, by simp⟩
  case round =>
    obtain ⟨j, hj, rfl, rfl⟩ := hrel
    by_cases hlt : j < n
    · obtain ⟨ad, rfl, c0⟩ := ints_at h (i := j) (by rw [upFrom_len]; exact hlt)
      rw [upFrom_get] at c0
      go_wp2
      exact ⟨⟨j + 1, by omega, by go_num, by go_num⟩, by simp [intOf]; omega⟩
    · obtain rfl : j = n := by omega
      go_wp2
      go_ret
      exact ⟨rfl, rfl⟩
end Go.Proofs.Ytgeifmdcoiijgaa
