/- Walks of l29Best, matchAt and both Pack. -/
import Derived.Test.YtfcnimglcialbaaSeq
import Derived.Test.YtfcnimglcialbaaPack2
namespace Go.Proofs.Ytfcnimglcialbaa
open Go.RowKit
set_option maxHeartbeats 400000
set_option linter.unusedVariables false
set_option linter.unusedSimpArgs false
theorem ofNat_val (n : Nat) (h : n < 256) : ((UInt8.ofNat n).toNat : Int) = n := by
  have : (UInt8.ofNat n).toNat = n := by rw [UInt8.toNat_ofNat']; exact Nat.mod_eq_of_lt h
  omega
theorem sPack_any (s : ByteArray) (h200 : s.size ≤ 1048576) (w : World) :
    Calls Try.prog 32 #[.string s] w fun e w' => e = .returned (.string ⟨(pkL s).toArray⟩) ∧ Below w.heap.size w w' := by
  go_enter Try.func32, Try.ntmps32
  by_cases hbig : s.size ≤ 200
  · have hbi : (s.size : Int) ≤ 200 := by omega
    have hbd : decide ((200 : Int) < (s.size : Int)) = false := by simp; omega
    have hL : Hid (pkFrom s s.size 0 = pkL s) := by show _ = _; rw [pkL, if_neg (by omega)]
    go_wp2
    go_loopw [3, 4] (fun bv kv wr => ∃ (A : Option Addr) (c k f : Nat) (l : List UInt8), bv = .slice A l.length c ∧ kv = .int .i64 k ∧ Own wr w.heap.size 5 1 A l.length c (byteVs l) ∧ l ++ pkFrom s f k = pkL s ∧ k ≤ s.size ∧ s.size ≤ k + f ∧ l.length ≤ 3 * k ∧ Below w.heap.size w wr) (fun _ kv _ => (200 - intOf kv).toNat)
    case atStart => exact ⟨some ⟨w.heap.size, 0, none⟩, 0, 0, s.size, [], rfl, rfl, World.ownsRow_lit w #[] 0 (Nat.le_refl _) (by simp [maxLen]) rfl, hL.out, Nat.zero_le _, by omega, by simp, (Below.refl _ _).alloc (Nat.le_refl _) _⟩
    case round =>
      obtain ⟨A, c, k, f, l, rfl, rfl, hown, hl, hk, hf, h3, hbel⟩ := hrel
      have L := Lib.hid hl; clear hl
      by_cases hlt : k < s.size
      · have hle := best_le s k hk
        cases hb : best s k with
        | mk n d =>
        rw [hb] at hle
        simp only at hle
        by_cases hz : n = 0
        · subst hz
          obtain ⟨f', rfl, L'⟩ := pk_zero L.out hlt (by omega) (by rw [hb])
          have L2 := Lib.hid L'; clear L' L
          have hb0 := Lib.hid (best_zero (s := s) (k := k) (by rw [hb])); clear hb
          have hgk := Lib.hid (gb_eq s k hlt)
          go_wp2_with (first
            | (go_at_call 112; refine (best_any _ _ hlt h200 _).mono ?_; rw [hb0.out]; rintro e w' ⟨rfl, n1, rfl⟩)
            | (at_builtin; refine wpList_app T_bytes rfl (.tmp 23) (.tmp 27) rfl rfl (Own.alloc (Own.drewN hown _) _) rfl (m := 2) (news := byteVs [0, gb s k]) rfl ?_ ?h1 (byteVs_one _) ?h2 ?h3 ?h4; intro A' c' w1 hown1 hg1 hat1))
          case h1 => rw [hgk.out]; exact Rd.new _ _ _
          case h2 => omega
          case h3 => omega
          case h4 => have := hbel.size; simp; omega
          rw [byteVs_app] at hown1
          go_roundw
          case rel => exact ⟨A', c', k + 1, f', l ++ [0, gb s k], by simp, by go_num, by simpa using hown1, L2.out, by omega, by omega, by simp; omega, Below.grown' ((below_drewN hbel _).alloc hbel.size _) hg1 (by have := hbel.size; simp; omega) (fun q hq => (Own.lt hown q hq).1)⟩
          case measure => simp [intOf]; omega
        · obtain ⟨f', rfl, L'⟩ := pk_more L.out hlt (by omega) hb hz
          have L2 := Lib.hid L'; clear L' L
          have hb0 := Lib.hid hb; clear hb
          have hd := Lib.hid (ofNat_val d (by omega))
          have hn := Lib.hid (ofNat_val n (by omega))
          have hzb : ((n : Int) == 0) = false := by simpa using hz
          go_wp2_with (first
            | (go_at_call 112; refine (best_any _ _ hlt h200 _).mono ?_; rw [hb0.out]; rintro e w' ⟨rfl, n1, rfl⟩)
            | (at_builtin; refine wpList_app T_bytes rfl (.tmp 31) (.tmp 36) rfl rfl (Own.alloc (Own.drewN hown _) _) rfl (m := 3) (news := byteVs [1, UInt8.ofNat d, UInt8.ofNat n]) rfl ?_ ?h1 (byteVs_one _) ?h2 ?h3 ?h4; intro A' c' w1 hown1 hg1 hat1))
          case h1 => rw [show byteVs [1, UInt8.ofNat d, UInt8.ofNat n] = [Value.int .u8 1, .int .u8 d, .int .u8 n] by simp only [byteVs, List.map_cons, List.map_nil]; rw [hd.out, hn.out]; rfl]; exact Rd.new _ _ _
          case h2 => omega
          case h3 => omega
          case h4 => have := hbel.size; simp; omega
          rw [byteVs_app] at hown1
          go_roundw
          case rel => exact ⟨A', c', k + n, f', l ++ [1, UInt8.ofNat d, UInt8.ofNat n], by simp, by go_num, by simpa using hown1, L2.out, by omega, by omega, by simp; omega, Below.grown' ((below_drewN hbel _).alloc hbel.size _) hg1 (by have := hbel.size; simp; omega) (fun q hq => (Own.lt hown q hq).1)⟩
          case measure => simp [intOf]; omega
      · have e := Lib.hid (pk_end L.out hlt)
        have hc := run_str (Rd.of_own hown) l.length rfl c
        go_wp2
        go_ret
        refine ⟨?_, hbel⟩
        rw [e.out]; rfl
  · have hbi : (200 : Int) < s.size := by omega
    go_wp2
    go_ret
    refine ⟨?_, Below.refl _ _⟩
    rw [pkL, if_pos (by omega)]; rfl
theorem iPack_any (s : ByteArray) (h200 : s.size ≤ 1048576) (w : World) :
    Calls Try.prog 30 #[.string s] w fun e w' => e = .returned (.string ⟨(pkL s).toArray⟩) ∧ Below w.heap.size w w' := by
  go_enter Try.func30, Try.ntmps30
  by_cases hbig : s.size ≤ 200
  · have hbi : (s.size : Int) ≤ 200 := by omega
    have hbd : decide ((200 : Int) < (s.size : Int)) = false := by simp; omega
    have hL : Hid (pkFrom s s.size 0 = pkL s) := by show _ = _; rw [pkL, if_neg (by omega)]
    go_wp2
    go_loopw [3, 4] (fun bv kv wr => ∃ (A : Option Addr) (c k f : Nat) (l : List UInt8), bv = .slice A l.length c ∧ kv = .int .i64 k ∧ Own wr w.heap.size 5 1 A l.length c (byteVs l) ∧ l ++ pkFrom s f k = pkL s ∧ k ≤ s.size ∧ s.size ≤ k + f ∧ l.length ≤ 3 * k ∧ Below w.heap.size w wr) (fun _ kv _ => (200 - intOf kv).toNat)
    case atStart => exact ⟨none, 0, 0, s.size, [], rfl, rfl, Own.nil _ _ _ _, hL.out, Nat.zero_le _, by omega, by simp, Below.refl _ _⟩
    case round =>
      obtain ⟨A, c, k, f, l, rfl, rfl, hown, hl, hk, hf, h3, hbel⟩ := hrel
      have L := Lib.hid hl; clear hl
      by_cases hlt : k < s.size
      · have hle := best_le s k hk
        cases hb : best s k with
        | mk n d =>
        rw [hb] at hle
        simp only at hle
        by_cases hz : n = 0
        · subst hz
          obtain ⟨f', rfl, L'⟩ := pk_zero L.out hlt (by omega) (by rw [hb])
          have L2 := Lib.hid L'; clear L' L
          have hb0 := Lib.hid (best_zero (s := s) (k := k) (by rw [hb])); clear hb
          have hgk := Lib.hid (gb_eq s k hlt)
          go_wp2_with (first
            | (go_at_call 109; refine (matchAt_any _ _ hlt h200 _).mono ?_; rw [hb0.out]; rintro e w' ⟨rfl, n1, rfl⟩)
            | (at_builtin; refine wpList_app T_bytes rfl (.tmp 32) (.tmp 36) rfl rfl (Own.alloc (Own.drewN hown _) _) rfl (m := 2) (news := byteVs [0, gb s k]) rfl ?_ ?h1 (byteVs_one _) ?h2 ?h3 ?h4; intro A' c' w1 hown1 hg1 hat1))
          case h1 => rw [hgk.out]; exact Rd.new _ _ _
          case h2 => omega
          case h3 => omega
          case h4 => have := hbel.size; simp; omega
          rw [byteVs_app] at hown1
          go_roundw
          case rel => exact ⟨A', c', k + 1, f', l ++ [0, gb s k], by simp, by go_num, by simpa using hown1, L2.out, by omega, by omega, by simp; omega, Below.grown' ((below_drewN hbel _).alloc hbel.size _) hg1 (by have := hbel.size; simp; omega) (fun q hq => (Own.lt hown q hq).1)⟩
          case measure => simp [intOf]; omega
        · obtain ⟨f', rfl, L'⟩ := pk_more L.out hlt (by omega) hb hz
          have L2 := Lib.hid L'; clear L' L
          have hb0 := Lib.hid hb; clear hb
          have hd := Lib.hid (ofNat_val d (by omega))
          have hn := Lib.hid (ofNat_val n (by omega))
          have hzb : ((n : Int) == 0) = false := by simpa using hz
          go_wp2_with (first
            | (go_at_call 109; refine (matchAt_any _ _ hlt h200 _).mono ?_; rw [hb0.out]; rintro e w' ⟨rfl, n1, rfl⟩)
            | (at_builtin; refine wpList_app T_bytes rfl (.tmp 22) (.tmp 27) rfl rfl (Own.alloc (Own.drewN hown _) _) rfl (m := 3) (news := byteVs [1, UInt8.ofNat d, UInt8.ofNat n]) rfl ?_ ?h1 (byteVs_one _) ?h2 ?h3 ?h4; intro A' c' w1 hown1 hg1 hat1))
          case h1 => rw [show byteVs [1, UInt8.ofNat d, UInt8.ofNat n] = [Value.int .u8 1, .int .u8 d, .int .u8 n] by simp only [byteVs, List.map_cons, List.map_nil]; rw [hd.out, hn.out]; rfl]; exact Rd.new _ _ _
          case h2 => omega
          case h3 => omega
          case h4 => have := hbel.size; simp; omega
          rw [byteVs_app] at hown1
          go_roundw
          case rel => exact ⟨A', c', k + n, f', l ++ [1, UInt8.ofNat d, UInt8.ofNat n], by simp, by go_num, by simpa using hown1, L2.out, by omega, by omega, by simp; omega, Below.grown' ((below_drewN hbel _).alloc hbel.size _) hg1 (by have := hbel.size; simp; omega) (fun q hq => (Own.lt hown q hq).1)⟩
          case measure => simp [intOf]; omega
      · have e := Lib.hid (pk_end L.out hlt)
        have hc := run_str (Rd.of_own hown) l.length rfl c
        go_wp2
        go_ret
        refine ⟨?_, hbel⟩
        rw [e.out]; rfl
  · have hbi : (200 : Int) < s.size := by omega
    go_wp2
    go_ret
    refine ⟨?_, Below.refl _ _⟩
    rw [pkL, if_pos (by omega)]; rfl
end Go.Proofs.Ytfcnimglcialbaa
