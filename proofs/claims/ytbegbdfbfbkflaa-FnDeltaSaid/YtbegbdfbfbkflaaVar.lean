/- Varints: both programs write one plain list of bytes. -/
import Derived.Test.YtbegbdfbfbkflaaTu
import Derived.Laws.BitsAllLaws
import Derived.Laws.Bits128
namespace Go.Proofs.Ytbegbdfbfbkflaa
open Go.RowKit
set_option maxHeartbeats 1000000
set_option linter.unusedVariables false
set_option linter.unusedSimpArgs false
def varF : Nat → Nat → List UInt8
  | 0, n => [UInt8.ofNat n]
  | f + 1, n => if n < 128 then [UInt8.ofNat n] else UInt8.ofNat (128 + n % 128) :: varF f (n / 128)
def varL (n : Nat) : List UInt8 := varF 9 n
theorem ofNat_val' (n : Nat) (h : n < 256) : ((UInt8.ofNat n).toNat : Int) = n := by
  have : (UInt8.ofNat n).toNat = n := by rw [UInt8.toNat_ofNat']; exact Nat.mod_eq_of_lt h
  omega
theorem varF_len (f n : Nat) : (varF f n).length ≤ f + 1 := by
  induction f generalizing n with
  | zero => simp [varF]
  | succ f ih => rw [varF]; split <;> simp; exact ih _
theorem varF_step {l : List UInt8} {n m f : Nat} (h : l ++ varF f m = varL n) (hm : 128 ≤ m) (hf : m < 128 ^ (f + 1)) : ∃ f', f = f' + 1 ∧ (l ++ [UInt8.ofNat (128 + m % 128)]) ++ varF f' (m / 128) = varL n ∧ m / 128 < 128 ^ (f' + 1) := by
  rcases f with _ | f'
  · omega
  · refine ⟨f', rfl, ?_, ?_⟩
    · rw [varF, if_neg (by omega)] at h
      rw [← h]; simp
    · rw [Nat.pow_succ] at hf
      exact Nat.div_lt_of_lt_mul (by omega)
theorem varF_end {l : List UInt8} {n m f : Nat} (h : l ++ varF f m = varL n) (hm : m < 128) : l ++ [UInt8.ofNat m] = varL n := by
  rcases f with _ | f'
  · exact h
  · rw [varF, if_pos hm] at h; exact h
theorem i64_or128 (r : Int) (h0 : 0 ≤ r) (h1 : r < 128) : bits .or .i64 128 r = 128 + r := by
  obtain ⟨R, rfl⟩ := Int.eq_ofNat_of_zero_le h0
  have hR : R < 128 := by omega
  have key : 128 ||| R = 128 + R := by
    have := Nat.two_pow_add_eq_or_of_lt (i := 7) (b := R) (by omega) 1
    simpa using this.symm
  show IntKind.i64.wrap ((BitVec.ofInt 64 (128 : Nat) ||| BitVec.ofInt 64 (R : Int)).toNat : Int) = _
  rw [BitVec.toNat_or, ofInt_u64 128 (by omega), ofInt_u64 R (by omega), IntKind.wrap_i64, key]
  omega
theorem sVar_any (n : Nat) (hn : n ≤ 562949953421311) (w : World) :
    Calls Try.prog 140 #[.int .i64 n] w fun e w' => e = .returned (.string ⟨(varL n).toArray⟩) ∧ Below w.heap.size w w' := by
  go_enter Try.func140, Try.ntmps140
  have hin : inR (n : Int) 0 562949953421311 = true := by unfold inR; simp; omega
  go_wp2_with (go_at_call 65; refine (xs_l1In_any _ _ _ _).mono ?_; rintro e w' ⟨rfl, rfl⟩; rw [hin])
  go_loopw [0, 3] (fun nv sv wr => ∃ (A : Option Addr) (c m f : Nat) (l : List UInt8), nv = .int .i64 m ∧ sv = .slice A l.length c ∧ Own wr w.heap.size 5 1 A l.length c (byteVs l) ∧ l ++ varF f m = varL n ∧ m < 128 ^ (f + 1) ∧ l.length + f = 9 ∧ m ≤ 562949953421311 ∧ Below w.heap.size w wr) (fun nv _ _ => (intOf nv).toNat)
  case atStart => exact ⟨_, 0, n, 9, [], rfl, rfl, World.ownsRow_lit w #[] 0 (Nat.le_refl _) (by simp [maxLen]) rfl, rfl, by omega, rfl, hn, (by repeat' first | (with_reducible assumption) | (with_reducible exact Below.refl _ _) | (with_reducible refine Below.drew ?_) | (with_reducible refine below_drewN ?_ _) | (with_reducible refine Below.alloc ?_ ?_ _) | (with_reducible refine Below.setCell ?_ ?_ _) | (simp; done) | (simp; omega) | omega)⟩
  case round =>
    obtain ⟨A, c, m, f, l, rfl, rfl, hown, hl, hm, hlf, hmn, hbel⟩ := hrel
    have L := Lib.hid hl; clear hl
    have hml : (m : Int) ≤ 562949953421311 := by omega
    have hm0 : (0 : Int) ≤ (m : Int) := by omega
    have hws := hbel.size

    by_cases h128 : (128 : Int) ≤ m
    · obtain ⟨f', rfl, L', hm'⟩ := varF_step L.out (by omega) hm
      have L2 := Lib.hid L'; clear L' L
      have hv := Lib.hid (ofNat_val' (128 + m % 128) (by omega))
      go_wp2_with (at_builtin; refine wpList_app T_bytes rfl (.tmp 10) (.tmp 15) rfl rfl (Own.alloc hown _) rfl (m := 1) (news := byteVs [UInt8.ofNat (128 + m % 128)]) rfl ?_ ?h1 (byteVs_one _) ?h2 ?h3 ?h4; intro A' c' w1 hown1 hg1 hat1)
      case h1 => rw [show byteVs [UInt8.ofNat (128 + m % 128)] = [Value.int .u8 (128 + (m : Int) % 128)] by simp only [byteVs, List.map_cons, List.map_nil]; rw [hv.out]; rfl]; exact Rd.new _ _ _
      case h2 => omega
      case h3 => omega
      case h4 => first | omega | (simp; omega)
      rw [byteVs_app] at hown1
      go_roundw
      case rel => exact ⟨A', c', m / 128, f', l ++ [UInt8.ofNat (128 + m % 128)], by simp, by simp, by simpa using hown1, L2.out, hm', by simp; omega, by omega, Below.grown' (hbel.alloc hbel.size _) hg1 (by simp; omega) (fun q hq => (Own.lt hown q hq).1)⟩
      case measure => simp [intOf]; omega
    · have hv := Lib.hid (ofNat_val' m (by omega))
      have e := Lib.hid (varF_end L.out (by omega))
      go_wp2_with (at_builtin; refine wpList_app T_bytes rfl (.tmp 19) (.tmp 22) rfl rfl (Own.alloc hown _) rfl (m := 1) (news := byteVs [UInt8.ofNat m]) rfl ?_ ?h1 (byteVs_one _) ?h2 ?h3 ?h4; intro A' c' w1 hown1 hg1 hat1; rw [byteVs_app] at hown1; have hc := run_str (Rd.of_own hown1) (l.length + 1) (by simp) c')
      case h1 => rw [show byteVs [UInt8.ofNat m] = [Value.int .u8 (m : Int)] by simp only [byteVs, List.map_cons, List.map_nil]; rw [hv.out]]; exact Rd.new _ _ _
      case h2 => omega
      case h3 => omega
      case h4 => first | omega | (simp; omega)
      go_ret
      refine ⟨?_, Below.grown' (hbel.alloc hbel.size _) hg1 (by simp; omega) (fun q hq => (Own.lt hown q hq).1)⟩
      rw [← e.out]; rfl
theorem iVar_any (n : Nat) (hn : n ≤ 562949953421311) (w : World) :
    Calls Try.prog 121 #[.int .i64 n] w fun e w' => e = .returned (.string ⟨(varL n).toArray⟩) ∧ Below w.heap.size w w' := by
  go_enter Try.func121, Try.ntmps121
  have hin : inR (n : Int) 0 562949953421311 = true := by unfold inR; simp; omega
  go_wp2_with (go_at_call 78; refine (xi_inRange_any _ _ _ _).mono ?_; rintro e w' ⟨rfl, rfl⟩; rw [hin])
  go_loopw [0, 3] (fun nv sv wr => ∃ (A : Option Addr) (c m f : Nat) (l : List UInt8), nv = .int .i64 m ∧ sv = .slice A l.length c ∧ Own wr w.heap.size 5 1 A l.length c (byteVs l) ∧ l ++ varF f m = varL n ∧ m < 128 ^ (f + 1) ∧ l.length + f = 9 ∧ m ≤ 562949953421311 ∧ Below w.heap.size w wr) (fun nv _ _ => (intOf nv).toNat)
  case atStart => exact ⟨_, 0, n, 9, [], rfl, rfl, Own.nil _ _ _ _, rfl, by omega, rfl, hn, (by repeat' first | (with_reducible assumption) | (with_reducible exact Below.refl _ _) | (with_reducible refine Below.drew ?_) | (with_reducible refine below_drewN ?_ _) | (with_reducible refine Below.alloc ?_ ?_ _) | (with_reducible refine Below.setCell ?_ ?_ _) | (simp; done) | (simp; omega) | omega)⟩
  case round =>
    obtain ⟨A, c, m, f, l, rfl, rfl, hown, hl, hm, hlf, hmn, hbel⟩ := hrel
    have L := Lib.hid hl; clear hl
    have hml : (m : Int) ≤ 562949953421311 := by omega
    have hm0 : (0 : Int) ≤ (m : Int) := by omega
    have hws := hbel.size
    have B1 := i64_and127 (m : Int)
    have B2 := i64_or128 ((m : Int) % 128) (by omega) (by omega)
    by_cases h128 : (128 : Int) ≤ m
    · obtain ⟨f', rfl, L', hm'⟩ := varF_step L.out (by omega) hm
      have L2 := Lib.hid L'; clear L' L
      have hv := Lib.hid (ofNat_val' (128 + m % 128) (by omega))
      go_wp2_with (at_builtin; refine wpList_app T_bytes rfl (.tmp 9) (.tmp 14) rfl rfl (Own.alloc hown _) rfl (m := 1) (news := byteVs [UInt8.ofNat (128 + m % 128)]) rfl ?_ ?h1 (byteVs_one _) ?h2 ?h3 ?h4; intro A' c' w1 hown1 hg1 hat1)
      case h1 => rw [show byteVs [UInt8.ofNat (128 + m % 128)] = [Value.int .u8 (128 + (m : Int) % 128)] by simp only [byteVs, List.map_cons, List.map_nil]; rw [hv.out]; rfl]; exact Rd.new _ _ _
      case h2 => omega
      case h3 => omega
      case h4 => first | omega | (simp; omega)
      rw [byteVs_app] at hown1
      go_roundw
      case rel => exact ⟨A', c', m / 128, f', l ++ [UInt8.ofNat (128 + m % 128)], by simp, by simp, by simpa using hown1, L2.out, hm', by simp; omega, by omega, Below.grown' (hbel.alloc hbel.size _) hg1 (by simp; omega) (fun q hq => (Own.lt hown q hq).1)⟩
      case measure => simp [intOf]; omega
    · have hv := Lib.hid (ofNat_val' m (by omega))
      have e := Lib.hid (varF_end L.out (by omega))
      go_wp2_with (at_builtin; refine wpList_app T_bytes rfl (.tmp 18) (.tmp 21) rfl rfl (Own.alloc hown _) rfl (m := 1) (news := byteVs [UInt8.ofNat m]) rfl ?_ ?h1 (byteVs_one _) ?h2 ?h3 ?h4; intro A' c' w1 hown1 hg1 hat1; rw [byteVs_app] at hown1; have hc := run_str (Rd.of_own hown1) (l.length + 1) (by simp) c')
      case h1 => rw [show byteVs [UInt8.ofNat m] = [Value.int .u8 (m : Int)] by simp only [byteVs, List.map_cons, List.map_nil]; rw [hv.out]]; exact Rd.new _ _ _
      case h2 => omega
      case h3 => omega
      case h4 => first | omega | (simp; omega)
      go_ret
      refine ⟨?_, Below.grown' (hbel.alloc hbel.size _) hg1 (by simp; omega) (fun q hq => (Own.lt hown q hq).1)⟩
      rw [← e.out]; rfl
end Go.Proofs.Ytbegbdfbfbkflaa
