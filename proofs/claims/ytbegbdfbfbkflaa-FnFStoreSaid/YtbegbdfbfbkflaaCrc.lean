/- The checksum: both programs compute one plain function. -/
import Derived.Test.YtbegbdfbfbkflaaKit
import Derived.Laws.BitsAllLaws
import Derived.Laws.Bits128
namespace Go.Proofs.Ytbegbdfbfbkflaa
open Go.RowKit
set_option maxHeartbeats 1000000
set_option linter.unusedVariables false
set_option linter.unusedSimpArgs false
theorem i64_xor_nat (a b : Nat) (ha : a < 9223372036854775808) (hb : b < 9223372036854775808) : bits .xor .i64 (a : Int) (b : Int) = ((a ^^^ b : Nat) : Int) := by
  have hx : a ^^^ b < 2 ^ 63 := Nat.xor_lt_two_pow (by omega) (by omega)
  show IntKind.i64.wrap ((BitVec.ofInt 64 (a : Int) ^^^ BitVec.ofInt 64 (b : Int)).toNat : Int) = _
  rw [BitVec.toNat_xor, ofInt_u64 a (by omega), ofInt_u64 b (by omega), IntKind.wrap_i64]
  omega
theorem u32_and1 (y : Nat) (h : y < 4294967296) : bits .and .u32 (y : Int) 1 = (y : Int) % 2 := by
  have := u32_and_nat y 1 h (by omega)
  rw [Nat.and_one_is_mod] at this
  exact this
def crcBit (c : Nat) : Nat := if c % 2 = 1 then (c / 2) ^^^ 2197175160 else c / 2
def crcIt : Nat → Nat → Nat
  | 0, c => c
  | k + 1, c => crcBit (crcIt k c)
def crcTo (s : ByteArray) : Nat → Nat
  | 0 => 4294967295
  | k + 1 => crcIt 8 (crcTo s k ^^^ s[k]!.toNat)
theorem crcBit_lt {c : Nat} (h : c < 4294967296) : crcBit c < 4294967296 := by
  unfold crcBit
  split
  · exact Nat.xor_lt_two_pow (n := 32) (by omega) (by omega)
  · omega
theorem crcIt_lt (k : Nat) {c : Nat} (h : c < 4294967296) : crcIt k c < 4294967296 := by
  induction k with
  | zero => exact h
  | succ k ih => exact crcBit_lt ih
theorem xor_byte_lt {c : Nat} (h : c < 4294967296) (b : UInt8) : c ^^^ b.toNat < 4294967296 :=
  Nat.xor_lt_two_pow (n := 32) (by omega) (by have := b.toNat_lt; omega)
theorem crcTo_lt (s : ByteArray) (k : Nat) : crcTo s k < 4294967296 := by
  induction k with
  | zero => simp [crcTo]
  | succ k ih => exact crcIt_lt 8 (xor_byte_lt ih _)
def crcF (s : ByteArray) : Nat := 4294967295 - crcTo s s.size
theorem sCrc_any (s : ByteArray) (hs : s.size ≤ maxLen) (w : World) :
    Calls Try.prog 67 #[.string s] w fun e w' => e = .returned (.int .i64 (crcF s)) ∧ w = w' := by
  have hs2 := hs
  unfold maxLen at hs2
  go_enter Try.func67, Try.ntmps67
  go_wp2
  go_loop [3, 4] (fun c i => ∃ k : Nat, k ≤ s.size ∧ i = .int .i64 k ∧ c = .int .i64 (crcTo s k)) (fun _ i => s.size - (intOf i).toNat)
  case atStart => exact ⟨0, Nat.zero_le _, rfl, rfl⟩
  case round =>
    obtain ⟨k, hk, rfl, rfl⟩ := hrel
    have hc := crcTo_lt s k
    by_cases hlt : k < s.size
    · have hstep : crcTo s (k + 1) = crcIt 8 (crcTo s k ^^^ s[k].toNat) := by rw [crcTo, getElem!_pos s k hlt]
      have hx := xor_byte_lt hc s[k]
      have hb := s[k].toNat_lt
      generalize crcTo s k = c at hc hx hstep
      have X := i64_xor_nat c s[k].toNat (by omega) (by omega)
      go_wp2
      go_loop [3, 5] (fun c' j => ∃ m : Nat, m ≤ 8 ∧ j = .int .i64 m ∧ c' = .int .i64 (crcIt m (c ^^^ s[k].toNat))) (fun _ j => 8 - (intOf j).toNat)
      case atStart => exact ⟨0, by omega, rfl, rfl⟩
      case round =>
        obtain ⟨m, hm, rfl, rfl⟩ := hrel
        have hy := crcIt_lt m hx
        by_cases hm8 : m < 8
        · have hst : crcIt (m + 1) (c ^^^ s[k].toNat) = crcBit (crcIt m (c ^^^ s[k].toNat)) := rfl
          generalize crcIt m (c ^^^ s[k].toNat) = y at hy hst
          have Y := i64_xor_nat (y / 2) 2197175160 (by omega) (by omega)
          have hmi : (m : Int) < 8 := by omega
          have hyi : (0 : Int) ≤ (y : Int) := by omega

          by_cases ho : (y : Int) % 2 = 1
          · have hcb : crcBit y = (y / 2) ^^^ 2197175160 := by unfold crcBit; rw [if_pos (by omega)]
            go_wp2
            exact ⟨⟨m + 1, by omega, by go_num, by rw [hst, hcb, ← Y]; rfl⟩, by simp [intOf]; omega⟩
          · have hcb : crcBit y = y / 2 := by unfold crcBit; rw [if_neg (by omega)]
            go_wp2
            exact ⟨⟨m + 1, by omega, by go_num, by rw [hst, hcb]; rfl⟩, by simp [intOf]; omega⟩
        · obtain rfl : m = 8 := by omega
          go_wp2
          exact ⟨⟨k + 1, by omega, by go_num, by rw [hstep]⟩, by simp [intOf]; omega⟩
    · obtain rfl : k = s.size := by omega
      generalize hcc : crcTo s s.size = c at hc
      go_wp2
      go_ret
      exact ⟨ret_int (by unfold crcF; omega), rfl⟩
theorem iCrc_any (s : ByteArray) (hs : s.size ≤ maxLen) (w : World) :
    Calls Try.prog 80 #[.string s] w fun e w' => e = .returned (.int .i64 (crcF s)) ∧ w = w' := by
  have hs2 := hs
  unfold maxLen at hs2
  go_enter Try.func80, Try.ntmps80
  go_wp2
  go_loop [3, 4] (fun c i => ∃ k : Nat, k ≤ s.size ∧ i = .int .i64 k ∧ c = .int .u32 (crcTo s k)) (fun _ i => s.size - (intOf i).toNat)
  case atStart => exact ⟨0, Nat.zero_le _, rfl, rfl⟩
  case round =>
    obtain ⟨k, hk, rfl, rfl⟩ := hrel
    have hc := crcTo_lt s k
    by_cases hlt : k < s.size
    · have hstep : crcTo s (k + 1) = crcIt 8 (crcTo s k ^^^ s[k].toNat) := by rw [crcTo, getElem!_pos s k hlt]
      have hx := xor_byte_lt hc s[k]
      have hb := s[k].toNat_lt
      generalize crcTo s k = c at hc hx hstep
      have X := u32_xor_nat c s[k].toNat (by omega) (by omega)
      go_wp2
      go_loop [3, 18] (fun c' j => ∃ m : Nat, m ≤ 8 ∧ j = .int .i64 m ∧ c' = .int .u32 (crcIt m (c ^^^ s[k].toNat))) (fun _ j => 8 - (intOf j).toNat)
      case atStart => exact ⟨0, by omega, rfl, rfl⟩
      case round =>
        obtain ⟨m, hm, rfl, rfl⟩ := hrel
        have hy := crcIt_lt m hx
        by_cases hm8 : m < 8
        · have hst : crcIt (m + 1) (c ^^^ s[k].toNat) = crcBit (crcIt m (c ^^^ s[k].toNat)) := rfl
          generalize crcIt m (c ^^^ s[k].toNat) = y at hy hst
          have Y := u32_xor_nat (y / 2) 2197175160 (by omega) (by omega)
          have hmi : (m : Int) < 8 := by omega
          have hyi : (0 : Int) ≤ (y : Int) := by omega
          have hone : bits .and .u32 (y : Int) 1 = (y : Int) % 2 := u32_and1 y hy
          by_cases ho : (y : Int) % 2 = 1
          · have hcb : crcBit y = (y / 2) ^^^ 2197175160 := by unfold crcBit; rw [if_pos (by omega)]
            go_wp2
            exact ⟨⟨m + 1, by omega, by go_num, by rw [hst, hcb, ← Y]; rfl⟩, by simp [intOf]; omega⟩
          · have hcb : crcBit y = y / 2 := by unfold crcBit; rw [if_neg (by omega)]
            go_wp2
            exact ⟨⟨m + 1, by omega, by go_num, by rw [hst, hcb]; rfl⟩, by simp [intOf]; omega⟩
        · obtain rfl : m = 8 := by omega
          go_wp2
          exact ⟨⟨k + 1, by omega, by go_num, by rw [hstep]⟩, by simp [intOf]; omega⟩
    · obtain rfl : k = s.size := by omega
      generalize hcc : crcTo s s.size = c at hc
      go_wp2
      go_ret
      exact ⟨ret_int (by unfold crcF; omega), rfl⟩
end Go.Proofs.Ytbegbdfbfbkflaa
