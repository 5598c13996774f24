/- Texts of this claim, one behind the other: Crc, Shs, Eng, Eng2, Eng3, Eng4, Eng5. -/
import Derived.Test.YtfcnimglcialbaaMg1
import Derived.Laws.BitsAllLaws
import Derived.Laws.Bits128
import Derived.Conc.MuLone
import Derived.Laws.OwnMore
import Derived.OrdersHeld
import Derived.StillTail
/- The checksum: both programs compute one plain function. -/
namespace Go.Proofs.Ytfcnimglcialbaa
open Go.RowKit
set_option maxHeartbeats 1000000
set_option linter.unusedVariables false
set_option linter.unusedSimpArgs false
theorem i64_xor_nat (a b : Nat) (ha : a < 9223372036854775808) (hb : b < 9223372036854775808) : bits .xor .i64 (a : Int) (b : Int) = ((a ^^^ b : Nat) : Int) := by
  have hx : a ^^^ b < 2 ^ 63 := Nat.xor_lt_two_pow (by omega) (by omega)
  show IntKind.i64.wrap ((BitVec.ofInt 64 (a : Int) ^^^ BitVec.ofInt 64 (b : Int)).toNat : Int) = _
  rw [BitVec.toNat_xor, ofInt_u64 a (by omega), ofInt_u64 b (by omega), IntKind.wrap_i64]
  omega
theorem u32_and1 (y : Nat) (h : y < 4294967296) : bits .and .u32 (y : Int) 1 = (y : Int) % 2 := by
  have := u32_and_nat y 1 h (by omega)
  rw [Nat.and_one_is_mod] at this
  exact this
def crcBit (c : Nat) : Nat := if c % 2 = 1 then (c / 2) ^^^ 2197175160 else c / 2
def crcIt : Nat → Nat → Nat
  | 0, c => c
  | k + 1, c => crcBit (crcIt k c)
def crcTo (s : ByteArray) : Nat → Nat
  | 0 => 4294967295
  | k + 1 => crcIt 8 (crcTo s k ^^^ s[k]!.toNat)
theorem crcBit_lt {c : Nat} (h : c < 4294967296) : crcBit c < 4294967296 := by
  unfold crcBit
  split
  · exact Nat.xor_lt_two_pow (n := 32) (by omega) (by omega)
  · omega
theorem crcIt_lt (k : Nat) {c : Nat} (h : c < 4294967296) : crcIt k c < 4294967296 := by
  induction k with
  | zero => exact h
  | succ k ih => exact crcBit_lt ih
theorem xor_byte_lt {c : Nat} (h : c < 4294967296) (b : UInt8) : c ^^^ b.toNat < 4294967296 :=
  Nat.xor_lt_two_pow (n := 32) (by omega) (by have := b.toNat_lt; omega)
theorem crcTo_lt (s : ByteArray) (k : Nat) : crcTo s k < 4294967296 := by
  induction k with
  | zero => simp [crcTo]
  | succ k ih => exact crcIt_lt 8 (xor_byte_lt ih _)
def crcF (s : ByteArray) : Nat := 4294967295 - crcTo s s.size
theorem sCrc_any (s : ByteArray) (hs : s.size ≤ maxLen) (w : World) :
    Calls Try.prog 147 #[.string s] w fun e w' => e = .returned (.int .i64 (crcF s)) ∧ w = w' := by
  have hs2 := hs
  unfold maxLen at hs2
  go_enter Try.func147, Try.ntmps147
  go_wp2
  go_loop [3, 4] (fun c i => ∃ k : Nat, k ≤ s.size ∧ i = .int .i64 k ∧ c = .int .i64 (crcTo s k)) (fun _ i => s.size - (intOf i).toNat)
  case atStart => exact ⟨0, Nat.zero_le _, rfl, rfl⟩
  case round =>
    obtain ⟨k, hk, rfl, rfl⟩ := hrel
    have hc := crcTo_lt s k
    by_cases hlt : k < s.size
    · have hstep : crcTo s (k + 1) = crcIt 8 (crcTo s k ^^^ s[k].toNat) := by rw [crcTo, getElem!_pos s k hlt]
      have hx := xor_byte_lt hc s[k]
      have hb := s[k].toNat_lt
      generalize crcTo s k = c at hc hx hstep
      have X := i64_xor_nat c s[k].toNat (by omega) (by omega)
      go_wp2
      go_loop [3, 5] (fun c' j => ∃ m : Nat, m ≤ 8 ∧ j = .int .i64 m ∧ c' = .int .i64 (crcIt m (c ^^^ s[k].toNat))) (fun _ j => 8 - (intOf j).toNat)
      case atStart => exact ⟨0, by omega, rfl, rfl⟩
      case round =>
        obtain ⟨m, hm, rfl, rfl⟩ := hrel
        have hy := crcIt_lt m hx
        by_cases hm8 : m < 8
        · have hst : crcIt (m + 1) (c ^^^ s[k].toNat) = crcBit (crcIt m (c ^^^ s[k].toNat)) := rfl
          generalize crcIt m (c ^^^ s[k].toNat) = y at hy hst
          have Y := i64_xor_nat (y / 2) 2197175160 (by omega) (by omega)
          have hmi : (m : Int) < 8 := by omega
          have hyi : (0 : Int) ≤ (y : Int) := by omega

          by_cases ho : (y : Int) % 2 = 1
          · have hcb : crcBit y = (y / 2) ^^^ 2197175160 := by unfold crcBit; rw [if_pos (by omega)]
            go_wp2
            exact ⟨⟨m + 1, by omega, by go_num, by rw [hst, hcb, ← Y]; rfl⟩, by simp [intOf]; omega⟩
          · have hcb : crcBit y = y / 2 := by unfold crcBit; rw [if_neg (by omega)]
            go_wp2
            exact ⟨⟨m + 1, by omega, by go_num, by rw [hst, hcb]; rfl⟩, by simp [intOf]; omega⟩
        · obtain rfl : m = 8 := by omega
          go_wp2
          exact ⟨⟨k + 1, by omega, by go_num, by rw [hstep]⟩, by simp [intOf]; omega⟩
    · obtain rfl : k = s.size := by omega
      generalize hcc : crcTo s s.size = c at hc
      go_wp2
      go_ret
      exact ⟨ret_int (by unfold crcF; omega), rfl⟩
theorem iCrc_any (s : ByteArray) (hs : s.size ≤ maxLen) (w : World) :
    Calls Try.prog 152 #[.string s] w fun e w' => e = .returned (.int .i64 (crcF s)) ∧ w = w' := by
  have hs2 := hs
  unfold maxLen at hs2
  go_enter Try.func152, Try.ntmps152
  go_wp2
  go_loop [3, 4] (fun c i => ∃ k : Nat, k ≤ s.size ∧ i = .int .i64 k ∧ c = .int .u32 (crcTo s k)) (fun _ i => s.size - (intOf i).toNat)
  case atStart => exact ⟨0, Nat.zero_le _, rfl, rfl⟩
  case round =>
    obtain ⟨k, hk, rfl, rfl⟩ := hrel
    have hc := crcTo_lt s k
    by_cases hlt : k < s.size
    · have hstep : crcTo s (k + 1) = crcIt 8 (crcTo s k ^^^ s[k].toNat) := by rw [crcTo, getElem!_pos s k hlt]
      have hx := xor_byte_lt hc s[k]
      have hb := s[k].toNat_lt
      generalize crcTo s k = c at hc hx hstep
      have X := u32_xor_nat c s[k].toNat (by omega) (by omega)
      go_wp2
      go_loop [3, 18] (fun c' j => ∃ m : Nat, m ≤ 8 ∧ j = .int .i64 m ∧ c' = .int .u32 (crcIt m (c ^^^ s[k].toNat))) (fun _ j => 8 - (intOf j).toNat)
      case atStart => exact ⟨0, by omega, rfl, rfl⟩
      case round =>
        obtain ⟨m, hm, rfl, rfl⟩ := hrel
        have hy := crcIt_lt m hx
        by_cases hm8 : m < 8
        · have hst : crcIt (m + 1) (c ^^^ s[k].toNat) = crcBit (crcIt m (c ^^^ s[k].toNat)) := rfl
          generalize crcIt m (c ^^^ s[k].toNat) = y at hy hst
          have Y := u32_xor_nat (y / 2) 2197175160 (by omega) (by omega)
          have hmi : (m : Int) < 8 := by omega
          have hyi : (0 : Int) ≤ (y : Int) := by omega
          have hone : bits .and .u32 (y : Int) 1 = (y : Int) % 2 := u32_and1 y hy
          by_cases ho : (y : Int) % 2 = 1
          · have hcb : crcBit y = (y / 2) ^^^ 2197175160 := by unfold crcBit; rw [if_pos (by omega)]
            go_wp2
            exact ⟨⟨m + 1, by omega, by go_num, by rw [hst, hcb, ← Y]; rfl⟩, by simp [intOf]; omega⟩
          · have hcb : crcBit y = y / 2 := by unfold crcBit; rw [if_neg (by omega)]
            go_wp2
            exact ⟨⟨m + 1, by omega, by go_num, by rw [hst, hcb]; rfl⟩, by simp [intOf]; omega⟩
        · obtain rfl : m = 8 := by omega
          go_wp2
          exact ⟨⟨k + 1, by omega, by go_num, by rw [hstep]⟩, by simp [intOf]; omega⟩
    · obtain rfl : k = s.size := by omega
      generalize hcc : crcTo s s.size = c at hc
      go_wp2
      go_ret
      exact ⟨ret_int (by unfold crcF; omega), rfl⟩
end Go.Proofs.Ytfcnimglcialbaa
/- ShowSlot of both programs: one plain string. -/
namespace Go.Proofs.Ytfcnimglcialbaa
open Go.RowKit
set_option maxHeartbeats 1000000
set_option linter.unusedVariables false
set_option linter.unusedSimpArgs false
def vS (n : Nat) : ByteArray := ⟨(varL n).toArray⟩
def fS (n : Nat) : ByteArray := ⟨(fixL 4 n).toArray⟩
def pieceS (r : ByteArray) : ByteArray := vS r.size ++ r
def sumS (t : ByteArray) : ByteArray := fS (crcF t) ++ t
theorem vS_size (n : Nat) : (vS n).size ≤ 10 := by
  show (varL n).toArray.size ≤ 10
  have := varF_len 9 n
  simpa [varL] using this
theorem fS_size (n : Nat) : (fS n).size = 4 := by
  show (fixL 4 n).toArray.size = 4
  simp [fixL_len]
theorem crcF_lt (t : ByteArray) : crcF t < 4294967296 := by unfold crcF; omega
theorem pieceS_size (r : ByteArray) : (pieceS r).size ≤ r.size + 10 := by
  have := vS_size r.size
  unfold pieceS; rw [ByteArray.size_append]; omega
theorem xs_Var_v (n : Nat) (hn : n ≤ 562949953421311) (w : World) :
    Calls Try.prog 131 #[.int .i64 n] w fun e w' => e = .returned (.string (vS n)) ∧ Below w.heap.size w w' := (by first | exact sVar_any n hn w | exact iVar_any n hn w)
theorem xi_Var_v (n : Nat) (hn : n ≤ 562949953421311) (w : World) :
    Calls Try.prog 136 #[.int .i64 n] w fun e w' => e = .returned (.string (vS n)) ∧ Below w.heap.size w w' := (by first | exact sVar_any n hn w | exact iVar_any n hn w)
theorem sFix_v (n : Nat) (hn : n < 4294967296) (w : World) :
    Calls Try.prog 146 #[.int .i64 n, .int .i64 4] w fun e w' => e = .returned (.string (fS n)) ∧ Below w.heap.size w w' := sFixed4_any n hn w
theorem iFix_v (n : Nat) (hn : n < 4294967296) (w : World) :
    Calls Try.prog 220 #[.int .i64 n, .int .i64 4] w fun e w' => e = .returned (.string (fS n)) ∧ Below w.heap.size w w' := iFixed4_any n hn w
theorem sPiece_any (s : ByteArray) (hs : s.size ≤ 1048576) (w : World) :
    Calls Try.prog 132 #[.string s] w fun e w' => e = .returned (.string (pieceS s)) ∧ Below w.heap.size w w' := by
  have hz := vS_size s.size
  have hq : ¬ 9223372036854775807 < (vS s.size).size + s.size := by omega
  go_enter Try.func132, Try.ntmps132
  go_wp2_with fail
  refine (xs_Var_v s.size (by omega) _).mono ?_
  rintro e w' ⟨rfl, hb⟩
  go_wp2
  go_ret
  exact ⟨rfl, hb⟩
theorem iPiece_any (s : ByteArray) (hs : s.size ≤ 1048576) (w : World) :
    Calls Try.prog 137 #[.string s] w fun e w' => e = .returned (.string (pieceS s)) ∧ Below w.heap.size w w' := by
  have hz := vS_size s.size
  have hq : ¬ 9223372036854775807 < (vS s.size).size + s.size := by omega
  go_enter Try.func137, Try.ntmps137
  go_wp2_with fail
  refine (xi_Var_v s.size (by omega) _).mono ?_
  rintro e w' ⟨rfl, hb⟩
  go_wp2
  go_ret
  exact ⟨rfl, hb⟩
theorem iSummed_any (s : ByteArray) (hs : s.size ≤ 2097152) (w : World) :
    Calls Try.prog 217 #[.string s] w fun e w' => e = .returned (.string (sumS s)) ∧ Below w.heap.size w w' := by
  have hz := fS_size (crcF s)
  have hq : ¬ 9223372036854775807 < (fS (crcF s)).size + s.size := by omega
  go_enter Try.func217, Try.ntmps217
  go_wp2_with fail
  refine (iCrc_any s (by unfold maxLen; omega) _).mono ?_
  rintro e w' ⟨rfl, rfl⟩
  go_wp2_with fail
  refine (iFix_v _ (crcF_lt s) _).mono ?_
  rintro e w' ⟨rfl, hb⟩
  go_wp2
  go_ret
  exact ⟨rfl, hb⟩
def showS (q : Int) (r : ByteArray) : ByteArray := if inR q 1 1000000 = true ∧ r.size ≤ 40 then sumS (vS q.toNat ++ pieceS r) else ⟨#[]⟩
theorem iShowSlot_any (q : Int) (r : ByteArray) (w : World) (hr : r.size ≤ 1048576) :
    Calls Try.prog 143 #[.agg #[.int .i64 q, .string r]] w fun e w' => e = .returned (.string (showS q r)) ∧ Below w.heap.size w w' := by
  go_enter Try.func143, Try.ntmps143
  by_cases h40 : (r.size : Int) ≤ 40
  · cases hq : inR q 1 1000000
    · go_wp2_with (go_at_call 122; refine (xi_inRange_any _ _ _ _).mono ?_; rintro e w' ⟨rfl, rfl⟩; rw [hq])
      go_ret
      refine ⟨ret_str (by unfold showS; rw [if_neg (by rw [hq]; simp)]), (by repeat' first | (with_reducible assumption) | (with_reducible exact Below.refl _ _) | (with_reducible refine Below.drew ?_) | (with_reducible refine below_drewN ?_ _) | (with_reducible refine Below.alloc ?_ ?_ _) | (with_reducible refine Below.setCell ?_ ?_ _) | (simp; done) | (simp; omega) | omega)⟩
    · have hq' := hq
      unfold inR at hq'
      simp at hq'
      obtain ⟨n, rfl⟩ : ∃ n : Nat, q = n := ⟨q.toNat, by omega⟩
      go_wp2_with (go_at_call 122; refine (xi_inRange_any _ _ _ _).mono ?_; rintro e w' ⟨rfl, rfl⟩; rw [hq])
      have hB : Below w.heap.size w (w.alloc (.cells [.int .i64 (n : Int), .string r].toArray 78)).drew := (by repeat' first | (with_reducible assumption) | (with_reducible exact Below.refl _ _) | (with_reducible refine Below.drew ?_) | (with_reducible refine below_drewN ?_ _) | (with_reducible refine Below.alloc ?_ ?_ _) | (with_reducible refine Below.setCell ?_ ?_ _) | (simp; done) | (simp; omega) | omega)
      have BG : Box (w.alloc (.cells [.int .i64 (n : Int), .string r].toArray 78)).drew w.heap.size 78 [.int .i64 (n : Int), .string r] := Box.new w _ _
      have hz1 := vS_size n
      have hz2 := pieceS_size r
      have hz3 : (vS n ++ pieceS r).size ≤ 2097152 := by rw [ByteArray.size_append]; omega
      have hq1 : ¬ 9223372036854775807 < (vS n).size + (pieceS r).size := by omega
      have q0 := BG.cell 0
      have q1 := BG.cell 1
      have y0 := BG.frozen 0
      have y1 := BG.frozen 1
      simp only [List.getElem?_cons_succ, List.getElem?_cons_zero] at q0 q1
      change Code.wp _ _ _ _ (w.alloc (.cells [.int .i64 (n : Int), .string r].toArray 78))
      generalize hW0 : (w.alloc (.cells [.int .i64 (n : Int), .string r].toArray 78)) = W0 at *
      go_region_with (first
        | (go_at_call 136; refine (xi_Var_v n (by omega) _).mono ?_; rintro e w7 ⟨rfl, hb7⟩; replace BG := BG.ext hb7; replace hB := hB.trans (hb7.mono hB.size); have q0 := BG.cell 0; have q1 := BG.cell 1; have y0 := BG.frozen 0; have y1 := BG.frozen 1; simp only [List.getElem?_cons_succ, List.getElem?_cons_zero] at q0 q1)
        | (go_at_call 137; refine (iPiece_any r (by omega) _).mono ?_; rintro e w7 ⟨rfl, hb7⟩; replace BG := BG.ext hb7; replace hB := hB.trans (hb7.mono hB.size); have q0 := BG.cell 0; have q1 := BG.cell 1; have y0 := BG.frozen 0; have y1 := BG.frozen 1; simp only [List.getElem?_cons_succ, List.getElem?_cons_zero] at q0 q1)
        | (go_at_call 217; refine (iSummed_any _ hz3 _).mono ?_; rintro e w7 ⟨rfl, hb7⟩; replace BG := BG.ext hb7; replace hB := hB.trans (hb7.mono hB.size); have q0 := BG.cell 0; have q1 := BG.cell 1; have y0 := BG.frozen 0; have y1 := BG.frozen 1; simp only [List.getElem?_cons_succ, List.getElem?_cons_zero] at q0 q1))
      all_goals go_wp2
      all_goals go_ret
      all_goals exact ⟨ret_str (by unfold showS; rw [if_pos ⟨hq, by omega⟩, Int.toNat_natCast]), hB⟩
  · have h40i : (40 : Int) < r.size := by omega
    cases hq : inR q 1 1000000
    · go_wp2_with (go_at_call 122; refine (xi_inRange_any _ _ _ _).mono ?_; rintro e w' ⟨rfl, rfl⟩; rw [hq])
      go_ret
      refine ⟨ret_str (by unfold showS; rw [if_neg (by rw [hq]; simp)]), (by repeat' first | (with_reducible assumption) | (with_reducible exact Below.refl _ _) | (with_reducible refine Below.drew ?_) | (with_reducible refine below_drewN ?_ _) | (with_reducible refine Below.alloc ?_ ?_ _) | (with_reducible refine Below.setCell ?_ ?_ _) | (simp; done) | (simp; omega) | omega)⟩
    · go_wp2_with (go_at_call 122; refine (xi_inRange_any _ _ _ _).mono ?_; rintro e w' ⟨rfl, rfl⟩; rw [hq])
      go_ret
      refine ⟨ret_str (by unfold showS; rw [if_neg (by omega)]), (by repeat' first | (with_reducible assumption) | (with_reducible exact Below.refl _ _) | (with_reducible refine Below.drew ?_) | (with_reducible refine below_drewN ?_ _) | (with_reducible refine Below.alloc ?_ ?_ _) | (with_reducible refine Below.setCell ?_ ?_ _) | (simp; done) | (simp; omega) | omega)⟩
theorem sShowSlot_any (q : Int) (r : ByteArray) (w : World) (hr : r.size ≤ 1048576) :
    Calls Try.prog 145 #[.agg #[.int .i64 q, .string r]] w fun e w' => e = .returned (.string (showS q r)) ∧ Below w.heap.size w w' := by
  go_enter Try.func145, Try.ntmps145
  by_cases h40 : (r.size : Int) ≤ 40
  · cases hq : inR q 1 1000000
    · go_wp2_with (go_at_call 104; refine (xs_l1In_any _ _ _ _).mono ?_; rintro e w' ⟨rfl, rfl⟩; rw [hq])
      go_ret
      refine ⟨ret_str (by unfold showS; rw [if_neg (by rw [hq]; simp)]), (by repeat' first | (with_reducible assumption) | (with_reducible exact Below.refl _ _) | (with_reducible refine Below.drew ?_) | (with_reducible refine below_drewN ?_ _) | (with_reducible refine Below.alloc ?_ ?_ _) | (with_reducible refine Below.setCell ?_ ?_ _) | (simp; done) | (simp; omega) | omega)⟩
    · have hq' := hq
      unfold inR at hq'
      simp at hq'
      obtain ⟨n, rfl⟩ : ∃ n : Nat, q = n := ⟨q.toNat, by omega⟩
      go_wp2_with (go_at_call 104; refine (xs_l1In_any _ _ _ _).mono ?_; rintro e w' ⟨rfl, rfl⟩; rw [hq])
      have hB : Below w.heap.size w (w.alloc (.cells [.int .i64 (n : Int), .string r].toArray 78)).drew := (by repeat' first | (with_reducible assumption) | (with_reducible exact Below.refl _ _) | (with_reducible refine Below.drew ?_) | (with_reducible refine below_drewN ?_ _) | (with_reducible refine Below.alloc ?_ ?_ _) | (with_reducible refine Below.setCell ?_ ?_ _) | (simp; done) | (simp; omega) | omega)
      have BG : Box (w.alloc (.cells [.int .i64 (n : Int), .string r].toArray 78)).drew w.heap.size 78 [.int .i64 (n : Int), .string r] := Box.new w _ _
      have hz1 := vS_size n
      have hz2 := pieceS_size r
      have hz3 : (vS n ++ pieceS r).size ≤ 2097152 := by rw [ByteArray.size_append]; omega
      have hz4 := fS_size (crcF (vS n ++ pieceS r))
      have hq2 : ¬ 9223372036854775807 < (fS (crcF (vS n ++ pieceS r))).size + (vS n ++ pieceS r).size := by omega
      have hq3 : ¬ 9223372036854775807 < (fS (crcF (vS n ++ pieceS r))).size + ((vS n).size + (pieceS r).size) := by omega
      have hq1 : ¬ 9223372036854775807 < (vS n).size + (pieceS r).size := by omega
      have q0 := BG.cell 0
      have q1 := BG.cell 1
      have y0 := BG.frozen 0
      have y1 := BG.frozen 1
      simp only [List.getElem?_cons_succ, List.getElem?_cons_zero] at q0 q1
      change Code.wp _ _ _ _ (w.alloc (.cells [.int .i64 (n : Int), .string r].toArray 78))
      generalize hW0 : (w.alloc (.cells [.int .i64 (n : Int), .string r].toArray 78)) = W0 at *
      go_region_with (first
        | (go_at_call 131; refine (xs_Var_v n (by omega) _).mono ?_; rintro e w7 ⟨rfl, hb7⟩; replace BG := BG.ext hb7; replace hB := hB.trans (hb7.mono hB.size); have q0 := BG.cell 0; have q1 := BG.cell 1; have y0 := BG.frozen 0; have y1 := BG.frozen 1; simp only [List.getElem?_cons_succ, List.getElem?_cons_zero] at q0 q1)
        | (go_at_call 132; refine (sPiece_any r (by omega) _).mono ?_; rintro e w7 ⟨rfl, hb7⟩; replace BG := BG.ext hb7; replace hB := hB.trans (hb7.mono hB.size); have q0 := BG.cell 0; have q1 := BG.cell 1; have y0 := BG.frozen 0; have y1 := BG.frozen 1; simp only [List.getElem?_cons_succ, List.getElem?_cons_zero] at q0 q1))
      all_goals go_wp2_with (first
        | (go_at_call 147; refine (sCrc_any _ (by unfold maxLen; omega) _).mono ?_; rintro e w' ⟨rfl, rfl⟩)
        | (go_at_call 146; refine (sFix_v _ (crcF_lt _) _).mono ?_; rintro e w9 ⟨rfl, hb9⟩))
      all_goals go_ret
      all_goals exact ⟨ret_str (by unfold showS sumS; rw [if_pos ⟨hq, by omega⟩, Int.toNat_natCast]), hB.trans (hb9.mono hB.size)⟩
  · have h40i : (40 : Int) < r.size := by omega
    cases hq : inR q 1 1000000
    · go_wp2_with (go_at_call 104; refine (xs_l1In_any _ _ _ _).mono ?_; rintro e w' ⟨rfl, rfl⟩; rw [hq])
      go_ret
      refine ⟨ret_str (by unfold showS; rw [if_neg (by rw [hq]; simp)]), (by repeat' first | (with_reducible assumption) | (with_reducible exact Below.refl _ _) | (with_reducible refine Below.drew ?_) | (with_reducible refine below_drewN ?_ _) | (with_reducible refine Below.alloc ?_ ?_ _) | (with_reducible refine Below.setCell ?_ ?_ _) | (simp; done) | (simp; omega) | omega)⟩
    · go_wp2_with (go_at_call 104; refine (xs_l1In_any _ _ _ _).mono ?_; rintro e w' ⟨rfl, rfl⟩; rw [hq])
      go_ret
      refine ⟨ret_str (by unfold showS; rw [if_neg (by omega)]), (by repeat' first | (with_reducible assumption) | (with_reducible exact Below.refl _ _) | (with_reducible refine Below.drew ?_) | (with_reducible refine below_drewN ?_ _) | (with_reducible refine Below.alloc ?_ ?_ _) | (with_reducible refine Below.setCell ?_ ?_ _) | (simp; done) | (simp; omega) | omega)⟩
end Go.Proofs.Ytfcnimglcialbaa
/- The engine: a walk over a state that is told by lists: what the temporaries hold, which blocks are the call's own, which worlds still read as they did. -/
namespace Go.Proofs.Ytfcnimglcialbaa
open Go.RowKit
set_option linter.unusedVariables false
set_option linter.unusedSimpArgs false

structure Ya where
  A : Option Addr
  c : Nat
  w : World
  n : Int
abbrev Ys := Nat → Ya
abbrev Env := List (Nat × Value)
def look : Env → Nat → Option Value
  | [], _ => none
  | (s, v) :: E, t => match Nat.beq s t with
    | true => some v
    | false => look E t
abbrev Env.put (E : Env) (d : Option Tmp) (v : Value) : Env := match d with
  | some t => (t, v) :: E
  | none => E
def dOk (N : Nat) : Option Tmp → Bool
  | some t => Nat.blt t N
  | none => true
structure EnvOk (N : Nat) (E : Env) (a : Act) : Prop where
  defers : a.defers = []
  size : a.tmps.size = N
  at_ : ∀ t v, look E t = some v → a.tmps[t]? = some v
def opd (E : Env) : Operand → Option Value
  | .tmp t => look E t
  | .const v => some v
  | .global g => some (.pointer (some ⟨g, 0, none⟩))
  | .func f => some (.func (.func f) #[] #[])
section
variable {N : Nat} {E : Env} {a : Act}
theorem EnvOk.eval (h : EnvOk N E a) {x : Operand} {v : Value} (hx : opd E x = some v) : a.eval x = v := by
  cases x with
  | tmp t => simp only [opd] at hx; have := h.at_ t v hx; simp [Act.eval, Array.getD_eq_getD_getElem?, this]
  | const u => simp only [opd] at hx; cases hx; rfl
  | global g => simp only [opd] at hx; cases hx; rfl
  | func f => simp only [opd] at hx; cases hx; rfl
theorem EnvOk.put (h : EnvOk N E a) {d : Option Tmp} (hd : dOk N d = true) (v : Value) : EnvOk N (Env.put E d v) (a.put d v) := by
  cases d with
  | none => exact h
  | some t =>
    have ht : t < a.tmps.size := by rw [h.size]; simpa [dOk, Nat.blt_eq] using hd
    refine ⟨h.defers, by simp [Act.put, h.size], fun s u hs => ?_⟩
    simp only [Env.put, look] at hs
    show (a.tmps.setIfInBounds t v)[s]? = some u
    split at hs
    · rename_i hb
      have : t = s := Nat.eq_of_beq_eq_true hb
      subst this
      cases hs
      simp [ht]
    · rename_i hb
      have : t ≠ s := fun e => by subst e; simp [Nat.beq_refl] at hb
      rw [Array.getElem?_setIfInBounds_ne this]
      exact h.at_ _ _ hs
theorem EnvOk.put' (h : EnvOk N E a) {d : Option Tmp} {t : Nat} (hdt : d = some t) (hd : Nat.blt t N = true) (v : Value) : EnvOk N ((t, v) :: E) (a.put d v) := by
  subst hdt; exact h.put (d := some t) hd v
theorem EnvOk.put0 (h : EnvOk N E a) {d : Option Tmp} (hdt : d = none) (v : Value) : EnvOk N E (a.put d v) := by
  subst hdt; exact h
theorem EnvOk.forget (h : EnvOk N E a) {d : Option Tmp} (v : Value) (hd : ∀ t, d = some t → look E t = none) : EnvOk N E (a.put d v) := by
  cases d with
  | none => exact h
  | some t =>
    refine ⟨h.defers, by simp [Act.put, h.size], fun s u hs => ?_⟩
    show (a.tmps.setIfInBounds t v)[s]? = some u
    have : t ≠ s := fun e => by subst e; rw [hd t rfl] at hs; cases hs
    rw [Array.getElem?_setIfInBounds_ne this]
    exact h.at_ _ _ hs
end

structure RowD where
  A : Option Addr
  n : Nat
  c : Nat
  us : List Value
inductive HObj
  | box (g : Nat) (e : TypeId) (cs : List Value)
  | row (e sz : Nat) (A : Option Addr) (n c : Nat) (us : List Value)
  | bag (e sz : Nat) (l : List RowD)
  | zrow (g : Nat) (e : TypeId) (cs : List Value) (fz : Nat × Nat)
def HObj.has : HObj → Nat → Prop
  | .box g _ _, k => g = k
  | .row _ _ A _ _ _, k => Go.Proofs.Ytfcnimglcialbaa.blk A = some k
  | .bag _ _ l, k => ∃ r ∈ l, Go.Proofs.Ytfcnimglcialbaa.blk r.A = some k
  | .zrow g _ _ _, k => g = k
def RowD.apart (a b : RowD) : Prop := ∀ k, Go.Proofs.Ytfcnimglcialbaa.blk a.A = some k → Go.Proofs.Ytfcnimglcialbaa.blk b.A ≠ some k
def HObj.holds (base : Nat) (w : World) : HObj → Prop
  | .box g e cs => base ≤ g ∧ w.heap[g]? = some (.cells cs.toArray e (0, 0))
  | .row e sz A n c us => Own w base e sz A n c us
  | .bag e sz l => (∀ r ∈ l, Own w base e sz r.A r.n r.c r.us) ∧ l.Pairwise RowD.apart
  | .zrow g e cs fz => base ≤ g ∧ w.heap[g]? = some (.cells cs.toArray e fz)
def HObj.apart (x y : HObj) : Prop := ∀ k, x.has k → ¬ y.has k
theorem HObj.apart.symm {x y : HObj} (h : x.apart y) : y.apart x := fun k hy hx => h k hx hy
theorem HObj.lt {base : Nat} {w : World} {x : HObj} (h : x.holds base w) : ∀ k, x.has k → base ≤ k ∧ k < w.heap.size := by
  cases x with
  | box g e cs => intro k hk; cases hk; exact ⟨h.1, (Array.getElem?_eq_some_iff.1 h.2).1⟩
  | row e sz A n c us => exact Own.lt h
  | bag e sz l => rintro k ⟨r, hr, hk⟩; exact Own.lt (h.1 r hr) k hk
  | zrow g e cs fz => intro k hk; cases hk; exact ⟨h.1, (Array.getElem?_eq_some_iff.1 h.2).1⟩
theorem HObj.holds.grown {base : Nat} {w w' : World} {x : HObj} {r : Option Nat} (h : x.holds base w) (hg : w.grownBy w' r) (hr : ∀ k, x.has k → r ≠ some k) : x.holds base w' := by
  cases x with
  | box g e cs => exact ⟨h.1, by rw [hg.block g (Array.getElem?_eq_some_iff.1 h.2).1 (fun e => hr g rfl e.symm)]; exact h.2⟩
  | row e sz A n c us =>
    refine Own.kept h hg ?_
    cases hA : Go.Proofs.Ytfcnimglcialbaa.blk A with
    | none => exact .inl rfl
    | some k => exact .inr (fun e => hr k hA e.symm)
  | bag e sz l =>
    refine ⟨fun q hq => Own.kept (h.1 q hq) hg ?_, h.2⟩
    cases hA : Go.Proofs.Ytfcnimglcialbaa.blk q.A with
    | none => exact .inl rfl
    | some k => exact .inr (fun e => hr k ⟨q, hq, hA⟩ e.symm)
  | zrow g e cs fz => exact ⟨h.1, by rw [hg.block g (Array.getElem?_eq_some_iff.1 h.2).1 (fun e => hr g rfl e.symm)]; exact h.2⟩
theorem Own.base {base base' e sz n c : Nat} {A : Option Addr} {us : List Value} {w : World} (h : Own w base e sz A n c us) (hb : base' ≤ base) : Own w base' e sz A n c us := by
  refine ⟨h.1, ?_⟩
  rcases h.2 with h | ⟨g, cap, cur, hv, hbg, r⟩
  · exact .inl h
  · exact .inr ⟨g, cap, cur, hv, Nat.le_trans hb hbg, r⟩
theorem HObj.holds.base {base base' : Nat} {w : World} {x : HObj} (h : x.holds base w) (hb : base' ≤ base) : x.holds base' w := by
  cases x with
  | box g e cs => exact ⟨Nat.le_trans hb h.1, h.2⟩
  | row e sz A n c us => exact Own.base h hb
  | bag e sz l => exact ⟨fun r hr => Own.base (h.1 r hr) hb, h.2⟩
  | zrow g e cs fz => exact ⟨Nat.le_trans hb h.1, h.2⟩

/-- The world reads as the lists say: own blocks from base on, each by itself; every world of G reads on as it did, and apart from the own blocks. -/
structure WOk (base : Nat) (w0 : World) (H : List HObj) (G : List World) (w : World) : Prop where
  below : Below base w0 w
  le : base ≤ w.heap.size
  own : ∀ h ∈ H, h.holds base w
  apart : H.Pairwise HObj.apart
  ref : ∀ m ∈ G, ∀ p u, m.cell? p = some u → w.cell? p = some u ∧ ∀ h ∈ H, ¬ h.has p.block
structure NewOk (L : Nat) (H : List HObj) (G : List World) (w : World) : Prop where
  own : ∀ h ∈ H, h.holds L w
  apart : H.Pairwise HObj.apart
  ref : ∀ m ∈ G, ∀ p u, m.cell? p = some u → L ≤ p.block ∧ w.cell? p = some u ∧ ∀ h ∈ H, ¬ h.has p.block
theorem NewOk.nil (L : Nat) (w : World) : NewOk L [] [] w := ⟨(fun x h => (by cases h)), List.Pairwise.nil, (fun m h => (by cases h))⟩
theorem Below.gb {w w' : World} (h : Below w.heap.size w w') (r : Option Nat) : w.grownBy w' r := ⟨h.os, h.tape, h.output, h.size, fun i hi _ => h.block i hi⟩
section
variable {base : Nat} {w0 w w' : World} {H : List HObj} {G : List World}
theorem WOk.grow (h : WOk base w0 H G w) (hb : Below w.heap.size w w') {Hn : List HObj} {Gn : List World} (hn : NewOk w.heap.size Hn Gn w') : WOk base w0 (Hn ++ H) (Gn ++ G) w' := by
  refine ⟨h.below.trans (hb.mono h.le), Nat.le_trans h.le hb.size, ?_, ?_, ?_⟩
  · intro x hx
    rcases List.mem_append.1 hx with hx | hx
    · exact (hn.own x hx).base h.le
    · exact (h.own x hx).grown (Below.gb hb none) (fun _ _ => by simp)
  · refine List.pairwise_append.2 ⟨hn.apart, h.apart, fun x hx y hy k hk hy' => ?_⟩
    have h1 := (HObj.lt (hn.own x hx) k hk).1
    have h2 := (HObj.lt (h.own y hy) k hy').2
    omega
  · intro m hm p u hp
    rcases List.mem_append.1 hm with hm | hm
    · obtain ⟨h1, h2, h3⟩ := hn.ref m hm p u hp
      refine ⟨h2, fun x hx => ?_⟩
      rcases List.mem_append.1 hx with hx | hx
      · exact h3 x hx
      · intro e; have := (HObj.lt (h.own x hx) _ e).2; omega
    · obtain ⟨h1, h2⟩ := h.ref m hm p u hp
      have hlt := World.block_lt_of_cell? w p h1
      refine ⟨(hb.cell (p := p) hlt).trans h1, fun x hx => ?_⟩
      rcases List.mem_append.1 hx with hx | hx
      · intro e; have := (HObj.lt (hn.own x hx) _ e).1; omega
      · exact h2 x hx
theorem WOk.drew (h : WOk base w0 H G w) : WOk base w0 H G w.drew :=
  ⟨h.below.drew, h.le, fun x hx => by
    have := h.own x hx
    cases x <;> exact this, h.apart, h.ref⟩
/-- One own object is turned, the others stay. -/
theorem WOk.turn (h : WOk base w0 H G w) {i : Nat} {x x' : HObj} (hi : H[i]? = some x) {r : Option Nat} (hg : w.grownBy w' r) (hrr : ∀ k, r = some k → x.has k) (hx' : x'.holds base w')
    (hb : ∀ k, x'.has k → x.has k ∨ w.heap.size ≤ k) : WOk base w0 (H.set i x') G w' := by
  have hix : i < H.length := (List.getElem?_eq_some_iff.1 hi).1
  have hxi : H[i] = x := (List.getElem?_eq_some_iff.1 hi).2
  have hxm : x ∈ H := List.mem_of_getElem? hi
  have hxlt := HObj.lt (h.own x hxm)
  have key : ∀ j (hj : j < H.length), j ≠ i → (H[j]).apart x ∧ x.apart (H[j]) := fun j hj hne => by
    have hp := List.pairwise_iff_getElem.1 h.apart
    rcases Nat.lt_or_gt_of_ne hne with hlt | hgt
    · have := hp j i hj hix hlt; rw [hxi] at this; exact ⟨this, this.symm⟩
    · have := hp i j hix hj hgt; rw [hxi] at this; exact ⟨this.symm, this⟩
  have old : ∀ j (hj : j < H.length), j ≠ i → (H[j]).apart x' := fun j hj hne k hk hk' => by
    rcases hb k hk' with h1 | h1
    · exact (key j hj hne).1 k hk h1
    · have := (HObj.lt (h.own _ (List.getElem_mem hj)) k hk).2; omega
  refine ⟨h.below.grown hg h.le (fun k hk => (hxlt k (hrr k hk)).1), Nat.le_trans h.le hg.size, ?_, ?_, ?_⟩
  · intro y hy
    obtain ⟨j, hj, rfl⟩ := List.getElem_of_mem hy
    rw [List.getElem_set]
    split
    · exact hx'
    · rename_i hne
      rw [List.length_set] at hj
      exact (h.own _ (List.getElem_mem hj)).grown hg (fun k hk e => (key j hj (Ne.symm hne)).1 k hk (hrr k e))
  · refine List.pairwise_iff_getElem.2 fun j k hj hk hjk => ?_
    rw [List.length_set] at hj hk
    rw [List.getElem_set, List.getElem_set]
    by_cases e1 : i = j
    · subst e1
      rw [if_pos rfl, if_neg (by omega)]
      exact (old k hk (by omega)).symm
    · rw [if_neg e1]
      by_cases e2 : i = k
      · subst e2; rw [if_pos rfl]; exact old j hj (by omega)
      · rw [if_neg e2]; exact List.pairwise_iff_getElem.1 h.apart j k hj hk hjk
  · intro m hm p u hp
    obtain ⟨h1, h2⟩ := h.ref m hm p u hp
    refine ⟨hg.cell h1 (fun e => h2 x hxm (hrr _ e.symm)), fun y hy e => ?_⟩
    obtain ⟨j, hj, rfl⟩ := List.getElem_of_mem hy
    rw [List.length_set] at hj
    rw [List.getElem_set] at e
    split at e
    · rcases hb _ e with h3 | h3
      · exact h2 x hxm h3
      · have := World.block_lt_of_cell? w p h1; omega
    · exact h2 _ (List.getElem_mem hj) e
theorem WOk.front (h : WOk base w0 H G w) (i : Nat) {x : HObj} (hi : H[i]? = some x) : WOk base w0 (x :: H.eraseIdx i) G w := by
  have hmem : ∀ y ∈ H.eraseIdx i, y ∈ H := fun y hy => List.mem_of_mem_eraseIdx hy
  have hx : x ∈ H := List.mem_of_getElem? hi
  have hall : ∀ y ∈ x :: H.eraseIdx i, y ∈ H := fun y hy => by
    rcases List.mem_cons.1 hy with rfl | hy
    · exact hx
    · exact hmem y hy
  refine ⟨h.below, h.le, fun y hy => h.own y (hall y hy), List.pairwise_cons.2 ⟨fun y hy => ?_, h.apart.sublist (List.eraseIdx_sublist H i)⟩, fun m hm p u hp => ⟨(h.ref m hm p u hp).1, fun y hy => (h.ref m hm p u hp).2 y (hall y hy)⟩⟩
  obtain ⟨hil, hix⟩ := List.getElem?_eq_some_iff.1 hi
  obtain ⟨j, hj, rfl⟩ := List.getElem_of_mem hy
  rw [List.getElem_eraseIdx]
  rw [List.length_eraseIdx_of_lt hil] at hj
  have hp := List.pairwise_iff_getElem.1 h.apart
  split
  · rename_i hlt
    have := hp j i (by omega) hil hlt
    rw [hix] at this; exact this.symm
  · rename_i hge
    have := hp i (j + 1) hil (by omega) (by omega)
    rw [hix] at this; exact this
/-- Some of the own objects, some of the worlds. -/
theorem WOk.sel (h : WOk base w0 H G w) (is : List Nat) (hn : is.Nodup) {H' : List HObj} (hs : H' = is.filterMap (fun i => H[i]?)) {G' : List World} (hG : ∀ m ∈ G', m ∈ G) : WOk base w0 H' G' w := by
  subst hs
  have hmem : ∀ x ∈ is.filterMap (fun i => H[i]?), x ∈ H := fun x hx => by
    obtain ⟨i, _, hi⟩ := List.mem_filterMap.1 hx
    exact List.mem_of_getElem? hi
  refine ⟨h.below, h.le, fun x hx => h.own x (hmem x hx), ?_, fun m hm p u hp => ⟨(h.ref m (hG m hm) p u hp).1, fun x hx => (h.ref m (hG m hm) p u hp).2 x (hmem x hx)⟩⟩
  refine List.Pairwise.filterMap _ ?_ (List.nodup_iff_pairwise_ne.1 hn)
  intro i j hij x hx y hy
  obtain ⟨hi, rfl⟩ := List.getElem?_eq_some_iff.1 hx
  obtain ⟨hj, rfl⟩ := List.getElem?_eq_some_iff.1 hy
  rcases Nat.lt_or_gt_of_ne hij with hlt | hgt
  · exact List.pairwise_iff_getElem.1 h.apart i j hi hj hlt
  · exact (List.pairwise_iff_getElem.1 h.apart j i hj hi hgt).symm
end
theorem WOk.perm {base : Nat} {w0 w : World} {H H' : List HObj} {G : List World} (h : WOk base w0 H G w) (hp : H.Perm H') : WOk base w0 H' G w :=
  ⟨h.below, h.le, fun x hx => h.own x (hp.mem_iff.2 hx), (hp.pairwise_iff (fun h => HObj.apart.symm h)).1 h.apart, fun m hm p u hu => ⟨(h.ref m hm p u hu).1, fun x hx => (h.ref m hm p u hu).2 x (hp.mem_iff.2 hx)⟩⟩
def RowD.obj (e sz : Nat) (r : RowD) : HObj := .row e sz r.A r.n r.c r.us
/-- A bag is its rows. -/
theorem WOk.bag_iff {base : Nat} {w0 w : World} {H : List HObj} {G : List World} {e sz : Nat} {l : List RowD} : WOk base w0 (.bag e sz l :: H) G w ↔ WOk base w0 (l.map (RowD.obj e sz) ++ H) G w := by
  constructor
  · intro h
    refine ⟨h.below, h.le, fun x hx => ?_, ?_, fun m hm p u hu => ⟨(h.ref m hm p u hu).1, fun x hx hk => ?_⟩⟩
    · rcases List.mem_append.1 hx with hx | hx
      · obtain ⟨r, hr, rfl⟩ := List.mem_map.1 hx
        exact (h.own _ List.mem_cons_self).1 r hr
      · exact h.own x (List.mem_cons_of_mem _ hx)
    · refine List.pairwise_append.2 ⟨List.pairwise_map.2 ((h.own _ List.mem_cons_self).2), (List.pairwise_cons.1 h.apart).2, fun x hx y hy => ?_⟩
      obtain ⟨r, hr, rfl⟩ := List.mem_map.1 hx
      exact fun k hk hy' => (List.pairwise_cons.1 h.apart).1 y hy k ⟨r, hr, hk⟩ hy'
    · rcases List.mem_append.1 hx with hx | hx
      · obtain ⟨r, hr, rfl⟩ := List.mem_map.1 hx
        exact (h.ref m hm p u hu).2 _ List.mem_cons_self ⟨r, hr, hk⟩
      · exact (h.ref m hm p u hu).2 x (List.mem_cons_of_mem _ hx) hk
  · intro h
    have hp := List.pairwise_append.1 h.apart
    refine ⟨h.below, h.le, fun x hx => ?_, List.pairwise_cons.2 ⟨fun y hy => ?_, hp.2.1⟩, fun m hm p u hu => ⟨(h.ref m hm p u hu).1, fun x hx hk => ?_⟩⟩
    · rcases List.mem_cons.1 hx with rfl | hx
      · exact ⟨fun r hr => h.own (r.obj e sz) (List.mem_append_left _ (List.mem_map.2 ⟨r, hr, rfl⟩)), (List.pairwise_map (f := RowD.obj e sz) (R := HObj.apart)).1 hp.1⟩
      · exact h.own x (List.mem_append_right _ hx)
    · rintro k ⟨r, hr, hk⟩ hy'
      exact hp.2.2 _ (List.mem_map.2 ⟨r, hr, rfl⟩) y hy k hk hy'
    · rcases List.mem_cons.1 hx with rfl | hx
      · obtain ⟨r, hr, hk⟩ := hk
        exact (h.ref m hm p u hu).2 _ (List.mem_append_left _ (List.mem_map.2 ⟨r, hr, rfl⟩)) hk
      · exact (h.ref m hm p u hu).2 x (List.mem_append_right _ hx) hk
theorem WOk.bag_nil {base : Nat} {w0 w : World} {H : List HObj} {G : List World} (e sz : Nat) (h : WOk base w0 H G w) : WOk base w0 (.bag e sz [] :: H) G w := WOk.bag_iff.2 h
theorem WOk.absorb {base : Nat} {w0 w : World} {H : List HObj} {G : List World} {e sz n c : Nat} {A : Option Addr} {us : List Value} {l : List RowD} (h : WOk base w0 (.row e sz A n c us :: .bag e sz l :: H) G w) : WOk base w0 (.bag e sz (l ++ [⟨A, n, c, us⟩]) :: H) G w := by
  refine WOk.bag_iff.2 ?_
  have h1 : WOk base w0 (.bag e sz l :: .row e sz A n c us :: H) G w := h.perm (List.Perm.swap _ _ _)
  have h2 := WOk.bag_iff.1 h1
  simpa [RowD.obj] using h2
theorem WOk.pull {base : Nat} {w0 w : World} {H : List HObj} {G : List World} {e sz : Nat} {r : RowD} {l1 l2 : List RowD} (h : WOk base w0 (.bag e sz (l1 ++ r :: l2) :: H) G w) : WOk base w0 (.row e sz r.A r.n r.c r.us :: .bag e sz (l1 ++ l2) :: H) G w := by
  have h1 := WOk.bag_iff.1 h
  have h2 : WOk base w0 ((l1 ++ l2).map (RowD.obj e sz) ++ (.row e sz r.A r.n r.c r.us :: H)) G w := h1.perm (by
    simp only [List.map_append, List.map_cons, List.append_assoc, List.cons_append]
    refine List.Perm.append_left _ ?_
    exact (List.perm_middle (l₁ := l2.map (RowD.obj e sz))).symm)
  exact (WOk.bag_iff.2 h2).perm (List.Perm.swap _ _ _)
theorem WOk.push {base : Nat} {w0 w : World} {H : List HObj} {G : List World} {e sz : Nat} {r : RowD} {l1 l2 : List RowD} (h : WOk base w0 (.row e sz r.A r.n r.c r.us :: .bag e sz (l1 ++ l2) :: H) G w) : WOk base w0 (.bag e sz (l1 ++ r :: l2) :: H) G w := by
  have h1 : WOk base w0 (.bag e sz (l1 ++ l2) :: .row e sz r.A r.n r.c r.us :: H) G w := h.perm (List.Perm.swap _ _ _)
  refine WOk.bag_iff.2 ((WOk.bag_iff.1 h1).perm ?_)
  simp only [List.map_append, List.map_cons, List.append_assoc, List.cons_append]
  exact List.Perm.append_left _ (List.perm_middle (l₁ := l2.map (RowD.obj e sz)))
def Ok (N base : Nat) (w0 : World) (E : Env) (H : List HObj) (G : List World) (K : Act → World → Prop) : Prop := ∀ a w, EnvOk N E a → WOk base w0 H G w → K a w
end Go.Proofs.Ytfcnimglcialbaa
/- The engine: the ways of the code. -/
namespace Go.Proofs.Ytfcnimglcialbaa
open Go.RowKit
set_option linter.unusedVariables false
set_option linter.unusedSimpArgs false
section
variable {P : Program} {N base : Nat} {w0 : World} {E : Env} {H : List HObj} {G : List World} {Q : Exit → Act → World → Prop} {K : Act → World → Prop}
theorem ok_seq {x y : Code} (h : Ok N base w0 E H G (x.wp P (Exit.then (y.wp P Q) Q))) : Ok N base w0 E H G ((Code.seq x y).wp P Q) := fun a w he hw => wp_seq (h a w he hw)
theorem ok_then {k : Act → World → Prop} (h : Ok N base w0 E H G k) : Ok N base w0 E H G (Exit.then k Q .normal) := h
theorem ok_then_exit {k : Act → World → Prop} {i : Nat} (h : Ok N base w0 E H G (Q (.exit i))) : Ok N base w0 E H G (Exit.then k Q (.exit i)) := h
theorem ok_then_ret {k : Act → World → Prop} (h : Ok N base w0 E H G (Q .ret)) : Ok N base w0 E H G (Exit.then k Q .ret) := h
theorem ok_block {i : Nat} {x : Code} (h : Ok N base w0 E H G (x.wp P (Exit.inBlock i Q))) : Ok N base w0 E H G ((Code.block i x).wp P Q) := fun a w he hw => wp_block (h a w he hw)
theorem ok_in_normal {i : Nat} (h : Ok N base w0 E H G (Q .normal)) : Ok N base w0 E H G (Exit.inBlock i Q .normal) := h
theorem ok_in_ret {i : Nat} (h : Ok N base w0 E H G (Q .ret)) : Ok N base w0 E H G (Exit.inBlock i Q .ret) := h
theorem ok_in_exit {i : Nat} (h : Ok N base w0 E H G (Q .normal)) : Ok N base w0 E H G (Exit.inBlock i Q (.exit i)) := fun a w he hw => by
  show (if i = i then Q .normal a w else _); rw [if_pos rfl]; exact h a w he hw
theorem ok_in_other {i j : Nat} (hij : Nat.beq j i = false) (h : Ok N base w0 E H G (Q (.exit j))) : Ok N base w0 E H G (Exit.inBlock i Q (.exit j)) := fun a w he hw => by
  have : j ≠ i := fun e => by subst e; simp [Nat.beq_refl] at hij
  show (if j = i then _ else Q (.exit j) a w); rw [if_neg this]; exact h a w he hw
theorem ok_exit {i : Nat} (h : Ok N base w0 E H G (Q (.exit i))) : Ok N base w0 E H G ((Code.exit i).wp P Q) := fun a w he hw => wp_exit (h a w he hw)
theorem ok_ret (h : Ok N base w0 E H G (Q .ret)) : Ok N base w0 E H G (Code.ret.wp P Q) := fun a w he hw => wp_ret (h a w he hw)
theorem ok_skip (h : Ok N base w0 E H G (Q .normal)) : Ok N base w0 E H G (Code.skip.wp P Q) := fun a w he hw => wp_skip (h a w he hw)
theorem ok_region {i : Nat} {l : List Oper} (h : Ok N base w0 E H G (wpList P l.toArray Q l)) : Ok N base w0 E H G ((Code.region i l.toArray false).wp P Q) := fun a w he hw => wp_region_lit (h a w he hw)
theorem ok_nil {ops : Array Oper} (h : Ok N base w0 E H G (Q .normal)) : Ok N base w0 E H G (wpList P ops Q []) := fun a w he hw => wpList_nil (h a w he hw)
theorem ok_cond {c : Operand} {x y : Code} {t : Bool} (hc : opd E c = some (.bool t)) (h1 : t = true → Ok N base w0 E H G (x.wp P Q)) (h2 : t = false → Ok N base w0 E H G (y.wp P Q)) : Ok N base w0 E H G ((Code.cond c x y).wp P Q) := fun a w he hw =>
  wp_cond_split (he.eval hc) (fun h => h1 h a w he hw) (fun h => h2 h a w he hw)
theorem ok_cond_t {c : Operand} {x y : Code} (hc : opd E c = some (.bool true)) (h1 : Ok N base w0 E H G (x.wp P Q)) : Ok N base w0 E H G ((Code.cond c x y).wp P Q) := fun a w he hw => wp_cond_true (he.eval hc) (h1 a w he hw)
theorem ok_cond_f {c : Operand} {x y : Code} (hc : opd E c = some (.bool false)) (h1 : Ok N base w0 E H G (y.wp P Q)) : Ok N base w0 E H G ((Code.cond c x y).wp P Q) := fun a w he hw => wp_cond_false (he.eval hc) (h1 a w he hw)
/-- Only some temporaries are looked at from here on. -/
def Sub : Env → Env → Prop
  | [], _ => True
  | p :: E', E => look E p.1 = some p.2 ∧ Sub E' E
theorem Sub.look : ∀ {E' E : Env}, Sub E' E → ∀ t v, look E' t = some v → Go.Proofs.Ytfcnimglcialbaa.look E t = some v
  | [], _, _, _, _, h => by cases h
  | (s, u) :: E', E, hs, t, v, h => by
    simp only [Go.Proofs.Ytfcnimglcialbaa.look] at h
    split at h
    · rename_i hb
      have : s = t := Nat.eq_of_beq_eq_true hb
      cases h; rw [← this]; exact hs.1
    · exact hs.2.look t v h
theorem EnvOk.sub {E' : Env} {a : Act} (h : EnvOk N E a) (hs : Sub E' E) : EnvOk N E' a := ⟨h.defers, h.size, fun t v hv => h.at_ t v (hs.look t v hv)⟩
theorem ok_env (E' : Env) (hs : Sub E' E) (h : Ok N base w0 E' H G K) : Ok N base w0 E H G K := fun a w he hw => h a w (he.sub hs) hw
theorem ok_sel (is : List Nat) (hn : is.Nodup) {H' : List HObj} (hs : H' = is.filterMap (fun i => H[i]?)) (h : Ok N base w0 E H' G K) : Ok N base w0 E H G K :=
  fun a w he hw => h a w he (hw.sel is hn hs (fun _ h => h))
def keepE (l : List Nat) (E : Env) : Env := l.filterMap fun t => (look E t).map fun v => (t, v)
theorem keepE_sub (E : Env) : ∀ l, Sub (keepE l E) E
  | [] => trivial
  | t :: l => by
    unfold keepE
    rw [List.filterMap_cons]
    split
    · exact keepE_sub E l
    · rename_i p hp
      cases hl : look E t with
      | none => rw [hl] at hp; cases hp
      | some v => rw [hl] at hp; cases hp; exact ⟨hl, keepE_sub E l⟩
theorem ok_keep (l : List Nat) {E' : Env} (hE : keepE l E = E') (h : Ok N base w0 E' H G K) : Ok N base w0 E H G K := ok_env E' (hE ▸ keepE_sub E l) h

theorem least (p : Nat → Prop) : ∀ n, p n → ∃ m, p m ∧ ∀ k, p k → m ≤ k := fun n => by
  induction n using Nat.strongRecOn with
  | _ n ih =>
    intro hn
    by_cases h : ∃ k, k < n ∧ p k
    · obtain ⟨k, hk, hp⟩ := h; exact ih k hk hp
    · exact ⟨n, hn, fun k hk => by
        rcases Nat.lt_or_ge k n with h' | h'
        · exact absurd ⟨k, h', hk⟩ h
        · exact h'⟩
/-- What a loop's head is told by: some state of the family. -/
structure Sat (N base : Nat) (w0 : World) (E : Env) (H : List HObj) (G : List World) (a : Act) (w : World) : Prop where
  env : EnvOk N E a
  mem : WOk base w0 H G w
theorem ok_loop {ι : Type} (μ : ι → Nat) (X : ι → Env × List HObj × List World) {body : Code} (i0 : ι)
    (h0 : ∀ a w, EnvOk N E a → WOk base w0 H G w → ∃ j, Sat N base w0 (X j).1 (X j).2.1 (X j).2.2 a w)
    (h : ∀ i, Ok N base w0 (X i).1 (X i).2.1 (X i).2.2 (body.wp P (Exit.then (fun a w => ∃ j, μ j < μ i ∧ Sat N base w0 (X j).1 (X j).2.1 (X j).2.2 a w) Q))) :
    Ok N base w0 E H G ((Code.loop body).wp P Q) := fun a w he hw => by
  classical
  let I : Act → World → Prop := fun a w => ∃ n, ∃ j, μ j = n ∧ Sat N base w0 (X j).1 (X j).2.1 (X j).2.2 a w
  have hm : ∀ a w, I a w → ∃ n, (∃ j, μ j = n ∧ Sat N base w0 (X j).1 (X j).2.1 (X j).2.2 a w) ∧ ∀ k, (∃ j, μ j = k ∧ Sat N base w0 (X j).1 (X j).2.1 (X j).2.2 a w) → n ≤ k := fun a w hI => by
    obtain ⟨n, hn⟩ := hI
    exact least _ n hn
  refine wp_loop I (fun a w => if hI : I a w then Classical.choose (hm a w hI) else 0) ?_ ?_
  · obtain ⟨j, hj⟩ := h0 a w he hw; exact ⟨_, j, rfl, hj⟩
  · intro a w hI
    obtain ⟨⟨j, hj, hs⟩, _⟩ := Classical.choose_spec (hm a w hI)
    refine Code.wp_mono ?_ (h j a w hs.env hs.mem)
    intro e a' w' hq
    cases e with
    | normal =>
      obtain ⟨j', hlt, hs'⟩ := hq
      have hI' : I a' w' := ⟨_, j', rfl, hs'⟩
      refine ⟨hI', ?_⟩
      simp only [dif_pos hI, dif_pos hI']
      have := (Classical.choose_spec (hm a' w' hI')).2 (μ j') ⟨j', rfl, hs'⟩
      omega
    | _ => exact hq
/-- The beginning of a call. -/
def initE : Nat → List Value → Env
  | _, [] => []
  | i, v :: l => (i, v) :: initE (i + 1) l
theorem look_initE : ∀ (l : List Value) (i t : Nat) (v : Value), look (initE i l) t = some v → i ≤ t ∧ l[t - i]? = some v
  | [], i, t, v, h => by cases h
  | u :: l, i, t, v, h => by
    simp only [initE, look] at h
    split at h
    · rename_i hb
      have : i = t := Nat.eq_of_beq_eq_true hb
      subst this; cases h; simp
    · rename_i hb
      have hne : i ≠ t := fun e => by subst e; simp [Nat.beq_refl] at hb
      obtain ⟨h1, h2⟩ := look_initE l (i + 1) t v h
      refine ⟨by omega, ?_⟩
      obtain ⟨d, hd⟩ : ∃ d, t - i = d + 1 := ⟨t - i - 1, by omega⟩
      rw [hd, List.getElem?_cons_succ, ← h2]; congr 1; omega
theorem ok_enter {f : FuncId} {fn : Func} {c : Code} {args : List Value} {w : World} {R : Ending → World → Prop} (N : Nat) (hf : P.funcs[f]? = some fn) (hb : fn.body = some c) (hn : fn.ntmps = N) (hl : Nat.ble args.length N = true)
    (h : Ok N w.heap.size w (initE 0 args) [] [w] (c.wp P (bodyPost P fn R))) : Calls P f args.toArray w R := by
  have hl' : args.length ≤ N := Nat.le_of_ble_eq_true hl
  refine calls_of_wp hf hb (h _ _ ⟨rfl, ?_, ?_⟩ ⟨Below.refl _ _, Nat.le_refl _, (fun x h => (by cases h)), List.Pairwise.nil, ?_⟩)
  · simp [hn]; omega
  · intro t v hv
    obtain ⟨_, h2⟩ := look_initE args 0 t v hv
    have hlt := (List.getElem?_eq_some_iff.1 h2).1
    simp only [Nat.sub_zero] at h2 hlt
    rw [Array.getElem?_append_left (by simpa using hlt)]
    simpa using h2
  · intro m hm p u hp
    cases hm with
    | head => exact ⟨hp, (fun x h => (by cases h))⟩
    | tail _ h => exact (by cases h)
/-- The end of a call: one result, two, three; a struct in memory. -/
theorem ok_end1 {fn : Func} {R : Ending → World → Prop} {t : Nat} {v : Value} (hr : fn.results = #[.tmp t]) (hv : look E t = some v) (h : ∀ w, WOk base w0 H G w → R (.returned v) w) : Ok N base w0 E H G (bodyPost P fn R .ret) := fun a w he hw => by
  have := he.at_ t v hv
  exact ⟨he.defers, v, by simp [results, hr, Array.getD_eq_getD_getElem?, this], h w hw⟩
theorem ok_end2 {fn : Func} {R : Ending → World → Prop} {t t' : Nat} {v v' : Value} (hr : fn.results = #[.tmp t, .tmp t']) (hv : look E t = some v) (hv' : look E t' = some v') (h : ∀ w, WOk base w0 H G w → R (.returned (.tuple #[v, v'])) w) : Ok N base w0 E H G (bodyPost P fn R .ret) := fun a w he hw => by
  have h1 := he.at_ t v hv
  have h2 := he.at_ t' v' hv'
  exact ⟨he.defers, .tuple #[v, v'], by simp [results, hr, Array.getD_eq_getD_getElem?, h1, h2], h w hw⟩
theorem ok_end3 {fn : Func} {R : Ending → World → Prop} {t t' t'' : Nat} {v v' v'' : Value} (hr : fn.results = #[.tmp t, .tmp t', .tmp t'']) (hv : look E t = some v) (hv' : look E t' = some v') (hv'' : look E t'' = some v'') (h : ∀ w, WOk base w0 H G w → R (.returned (.tuple #[v, v', v''])) w) : Ok N base w0 E H G (bodyPost P fn R .ret) := fun a w he hw => by
  have h1 := he.at_ t v hv
  have h2 := he.at_ t' v' hv'
  have h3 := he.at_ t'' v'' hv''
  exact ⟨he.defers, .tuple #[v, v', v''], by simp [results, hr, Array.getD_eq_getD_getElem?, h1, h2, h3], h w hw⟩
end
end Go.Proofs.Ytfcnimglcialbaa
/- The engine: operations that only look. -/
namespace Go.Proofs.Ytfcnimglcialbaa
open Go.RowKit
set_option linter.unusedVariables false
set_option linter.unusedSimpArgs false
/-- Cells and shape of a type. -/
def ldB (P : Program) (t : TypeId) : Option (Nat × Bool) := match P.underlying t, P.info? t with
  | some (.struct _), some i => some (i.size, true)
  | some (.array _ _), some i => some (i.size, true)
  | some _, some i => some (i.size, false)
  | _, _ => none
def foB (P : Program) (s f : Nat) : Option Nat := match P.underlying s with
  | some (.struct fs) => match fs[f]? with
    | some fd => match P.info? fd.type with
      | some i => if i.size = 0 then none else some fd.offset
      | none => none
    | none => none
  | _ => none
def zvB (P : Program) (t : TypeId) : Option (Array Value) := match P.info? t with
  | some i => i.zero.map (·.cells)
  | none => none
class LD (P : Program) (t : TypeId) (sz : outParam Nat) (ag : outParam Bool) : Prop where h : ldB P t = some (sz, ag)
class FO (P : Program) (s f : Nat) (off : outParam Nat) : Prop where h : foB P s f = some off
class ZV (P : Program) (t : TypeId) (cs : outParam (List Value)) : Prop where h : zvB P t = some cs.toArray
def SlP (P : Program) (t e size bytes : Nat) : Prop := P.underlying t = some (.slice e) ∧ 0 < size ∧ ∃ i z, P.info? e = some i ∧ i.zero = some z ∧ i.size = size ∧ i.bytes = bytes ∧ z.cells.size = size
def elB (P : Program) (t : TypeId) : Option (Nat × Nat × Nat) := match P.underlying t with
  | some (.slice e) => match P.info? e with
    | some i => match i.zero with
      | some z => if z.cells.size = i.size ∧ 0 < i.size then some (e, i.size, i.bytes) else none
      | none => none
    | none => none
  | _ => none
class EL (P : Program) (t : TypeId) (e sz bytes : outParam Nat) : Prop where k : elB P t = some (e, sz, bytes)
theorem EL.h {P : Program} {t e sz bytes : Nat} (h : EL P t e sz bytes) : SlP P t e sz bytes := by
  have h := h.k
  unfold elB at h
  split at h
  case h_2 => cases h
  rename_i e' hu
  split at h
  case h_2 => cases h
  rename_i i hi
  split at h
  case h_2 => cases h
  rename_i z hz
  split at h
  case isFalse => cases h
  rename_i hc
  cases h
  exact ⟨hu, hc.2, i, z, hi, hz, rfl, rfl, hc.1⟩
class IK (P : Program) (t : TypeId) (k : outParam IntKind) : Prop where h : P.underlying t = some (.int k)
class SS (P : Program) (t : TypeId) : Prop where h : P.underlying t = some .string
class FN (P : Program) (f : FuncId) : Prop where h : ∃ fn c, P.funcs[f]? = some fn ∧ (fn.name == "runtime.NumGoroutine") = false ∧ fn.body = some c
@[irreducible] def pt (A : Option Addr) (k : Nat) : Value := .pointer (A.map (·.add k))
def ga (g : Nat) : Option Addr := some ⟨g, 0, none⟩
def IsS (A : Option Addr) : Prop := ∃ ad, A = some ad
theorem isS_ga (g : Nat) : IsS (ga g) := ⟨_, rfl⟩
theorem isS_some (a : Addr) : IsS (some a) := ⟨_, rfl⟩
theorem isS_rd {m : World} {A : Option Addr} {us : List Value} (h : Rd m A us) (hl : 0 < us.length) : IsS A := by
  obtain ⟨ad, e, _⟩ := h.at_ hl; exact ⟨ad, e⟩
theorem ga_add (g k : Nat) : (⟨g, 0, none⟩ : Addr).add k = ⟨g, k, none⟩ := by unfold Addr.add; split <;> simp_all

def IsSW (H : List HObj) (G : List World) (A : Option Addr) : Prop := ∀ base w0 w, WOk base w0 H G w → IsS A
theorem isw_ga {H : List HObj} {G : List World} (g : Nat) : IsSW H G (ga g) := fun _ _ _ _ => isS_ga g
theorem isw_some {H : List HObj} {G : List World} (a : Addr) : IsSW H G (some a) := fun _ _ _ _ => isS_some a
theorem isw_of {H : List HObj} {G : List World} {A : Option Addr} (h : IsS A) : IsSW H G A := fun _ _ _ _ => h
theorem isw_row {H : List HObj} {G : List World} {A : Option Addr} {e sz n c : Nat} {us : List Value} (i : Nat) (hi : H[i]? = some (.row e sz A n c us)) (hn : 0 < n) : IsSW H G A := fun base w0 w hw => by
  obtain ⟨_, ⟨_, h0⟩ | ⟨g, cap, cur, hv, _⟩⟩ := hw.own _ (List.mem_of_getElem? hi)
  · omega
  · injection hv with hA; exact ⟨_, hA⟩
def Cell (H : List HObj) (G : List World) (A : Option Addr) (k : Nat) (u : Value) : Prop := ∀ base w0 w, WOk base w0 H G w → ∃ ad, A = some ad ∧ w.cell? (ad.add k) = some u
def Rds (H : List HObj) (G : List World) (A : Option Addr) (us : List Value) : Prop := ∀ base w0 w, WOk base w0 H G w → Rd w A us
section
variable {H : List HObj} {G : List World} {A : Option Addr} {k : Nat} {u : Value} {us : List Value}
theorem Rds.cell (h : Rds H G A us) (hu : us[k]? = some u) : Cell H G A k u := fun base w0 w hw => h base w0 w hw k u hu
theorem rds_box {g e : Nat} {cs : List Value} (i : Nat) (hi : H[i]? = some (.box g e cs)) : Rds H G (ga g) cs := fun base w0 w hw j u hu => by
  have := (hw.own _ (List.mem_of_getElem? hi)).2
  refine ⟨_, rfl, ?_⟩
  rw [ga_add, cell_of_row _ _ j _ _ _ this]
  simpa using hu
theorem rds_row {e sz n c : Nat} (i : Nat) (hi : H[i]? = some (.row e sz A n c us)) : Rds H G A us := fun base w0 w hw => Rd.of_own (hw.own _ (List.mem_of_getElem? hi))
theorem rds_ref {m : World} (hm : m ∈ G) (h : Rd m A us) : Rds H G A us := fun base w0 w hw j u hu => by
  obtain ⟨ad, e, hc⟩ := h j u hu
  exact ⟨ad, e, (hw.ref m hm _ _ hc).1⟩
theorem Rds.sub {i n : Nat} (h : Rds H G A us) : Rds H G (A.map (·.add i)) ((us.drop i).take n) := fun base w0 w hw => by
  have := h base w0 w hw
  rcases A with _ | ad
  · have h0 : us = [] := by
      rcases us with _ | ⟨u, l⟩
      · rfl
      · obtain ⟨_, e, _⟩ := this 0 u rfl; cases e
    subst h0; simp; exact Rd.nil _ _
  · exact (this.drop i).take n
end

def PStep (P : Program) (E : Env) (H : List HObj) (G : List World) (o : Oper) (v : Value) : Prop := ∀ N base w0 a w, EnvOk N E a → WOk base w0 H G w → (execOp a.eval o).run P w = .ok (.value v) w
/-- A value under a guard. -/
def gv (p : Bool) (v : Value) : Value := match p with
  | true => v
  | false => undef
theorem og {E : Env} {x : Operand} {p : Bool} {v : Value} (h : opd E x = some (gv p v)) (hp : p = true) : opd E x = some v := by subst hp; exact h
section
variable {P : Program} {N base : Nat} {w0 : World} {E : Env} {H : List HObj} {G : List World} {Q : Exit → Act → World → Prop} {o : Oper} {rest : List Oper} {ops : Array Oper}
theorem ok_p {v : Value} (hg : o.guard = none) {td : Nat} (hdt : o.dst = some td) (hd : Nat.blt td N = true) (hs : PStep P E H G o v) (h : Ok N base w0 ((td, v) :: E) H G (wpList P ops Q rest)) :
    Ok N base w0 E H G (wpList P ops Q (o :: rest)) := fun a w he hw => by
  have hr := hs N base w0 a w he hw
  refine wpList_plain hg fun K hK => ?_
  unfold Oper.wp; rw [hr]; exact hK _ _ (h _ _ (he.put' hdt hd v) hw)
theorem yielded_of {a : Act} {j d : Nat} {v : Value} (he : EnvOk N E a) (hj : (ops[j]?).bind (·.dst) = some d) (hv : look E d = some v) : yielded ops a.tmps j = match v with | .bool b => some b | _ => none := by
  have h1 := he.at_ d v hv
  unfold yielded
  rw [hj]
  simp only [Option.bind_some, h1]
  cases v <;> rfl
theorem wanted_of {a : Act} {j d : Nat} {want p c : Bool} (he : EnvOk N E a) (hg : o.guard = some (j, want)) (hj : (ops[j]?).bind (·.dst) = some d) (hv : look E d = some (gv p (.bool c))) :
    Region.wanted o (yielded ops a.tmps) = (p && (c == want)) := by
  unfold Region.wanted
  rw [hg]
  simp only [yielded_of he hj hv]
  cases p <;> cases c <;> cases want <;> rfl
/-- An operation that runs only under a guard: what it yields, under that guard. -/
theorem ok_pg_at {v : Value} {p : Bool} (hw' : ∀ a, EnvOk N E a → Region.wanted o (yielded ops a.tmps) = p) {td : Nat} (hdt : o.dst = some td) (hd : Nat.blt td N = true) (hs : p = true → PStep P E H G o v)
    (h : Ok N base w0 ((td, (gv p v)) :: E) H G (wpList P ops Q rest)) : Ok N base w0 E H G (wpList P ops Q (o :: rest)) := fun a w he hw => by
  refine wpList_step fun K hK => ?_
  rw [hw' a he]
  cases p with
  | true =>
    have hr := hs rfl N base w0 a w he hw
    rw [if_pos rfl]
    unfold Oper.wp; rw [hr]; exact hK _ _ (h _ _ (he.put' hdt hd v) hw)
  | false => rw [if_neg (by simp)]; exact hK _ _ (h _ _ (he.put' hdt hd undef) hw)
theorem ok_pg {v : Value} {j d : Nat} {want c : Bool} (hg : o.guard = some (j, want)) (hj : (ops[j]?).bind (·.dst) = some d) (hv : look E d = some (.bool c)) {td : Nat} (hdt : o.dst = some td) (hd : Nat.blt td N = true)
    {p : Bool} (hp : (c == want) = p) (hs : p = true → PStep P E H G o v)
    (h : Ok N base w0 ((td, (gv p v)) :: E) H G (wpList P ops Q rest)) : Ok N base w0 E H G (wpList P ops Q (o :: rest)) :=
  ok_pg_at (fun a he => by rw [wanted_of (p := true) he hg hj hv, Bool.true_and, hp]) hdt hd hs h
theorem ok_pgg {v : Value} {j d : Nat} {want c q : Bool} (hg : o.guard = some (j, want)) (hj : (ops[j]?).bind (·.dst) = some d) (hv : look E d = some (gv q (.bool c))) {td : Nat} (hdt : o.dst = some td) (hd : Nat.blt td N = true)
    {p : Bool} (hp : (c == want) = p) (hs : q = true → p = true → (q && p) = true → PStep P E H G o v)
    (h : Ok N base w0 ((td, (gv (q && p) v)) :: E) H G (wpList P ops Q rest)) : Ok N base w0 E H G (wpList P ops Q (o :: rest)) :=
  ok_pg_at (fun a he => by rw [wanted_of (p := q) he hg hj hv, hp]) hdt hd (fun hqp => by
    have := (Bool.and_eq_true _ _).mp hqp
    exact hs this.1 this.2 hqp) h
theorem gF (c : Bool) : (c == false) = !c := by cases c <;> rfl
theorem gT (c : Bool) : (c == true) = c := by cases c <;> rfl
end
section
variable {P : Program} {E : Env} {H : List HObj} {G : List World} {o : Oper}
theorem ps_move {x : Operand} {v : Value} (ho : o.op = .move x) (hx : opd E x = some v) : PStep P E H G o v := fun N base w0 a w he hw => by
  simp [execOp, ho, he.eval hx]
theorem ps_assign {x : Operand} {v : Value} (ho : o.op = .assign x) (hx : opd E x = some v) : PStep P E H G o v := fun N base w0 a w he hw => by
  simp [execOp, ho, he.eval hx]
theorem ps_not {x : Operand} {t : TypeId} {b : Bool} (ho : o.op = .unOp .not t x) (hx : opd E x = some (.bool b)) : PStep P E H G o (.bool !b) := fun N base w0 a w he hw => by
  simp [execOp, ho, he.eval hx, Op.unary]
theorem ps_or {c x : Operand} {b y : Bool} (ho : o.op = .pick c (.const (.bool true)) x) (hc : opd E c = some (.bool b)) (hx : opd E x = some (gv (!b) (.bool y))) : PStep P E H G o (.bool (b || y)) := fun N base w0 a w he hw => by
  have : a.eval (.const (.bool true)) = .bool true := rfl
  cases b <;> simp [execOp, ho, he.eval hc, he.eval hx, this, asBool, gv]
theorem ps_or_in {c x : Operand} {q b y : Bool} (hq : q = true) (ho : o.op = .pick c (.const (.bool true)) x) (hc : opd E c = some (gv q (.bool b))) (hx : opd E x = some (gv (q && !b) (.bool y))) : PStep P E H G o (.bool (b || y)) := by
  subst hq; exact ps_or ho hc (by rw [hx, Bool.true_and])
theorem ps_and {c x : Operand} {b y : Bool} (ho : o.op = .pick c x (.const (.bool false))) (hc : opd E c = some (.bool b)) (hx : opd E x = some (gv b (.bool y))) : PStep P E H G o (.bool (b && y)) := fun N base w0 a w he hw => by
  have : a.eval (.const (.bool false)) = .bool false := rfl
  cases b <;> simp [execOp, ho, he.eval hc, he.eval hx, this, asBool, gv]
theorem ps_and_in {c x : Operand} {q b y : Bool} (hq : q = true) (ho : o.op = .pick c x (.const (.bool false))) (hc : opd E c = some (gv q (.bool b))) (hx : opd E x = some (gv (q && b) (.bool y))) : PStep P E H G o (.bool (b && y)) := by
  subst hq; exact ps_and ho hc (by rw [hx, Bool.true_and])
theorem ps_pick_t {c x y : Operand} {b : Bool} {v : Value} (ho : o.op = .pick c x y) (hc : opd E c = some (.bool b)) (hb : b = true) (hx : opd E x = some v) : PStep P E H G o v := fun N base w0 a w he hw => by
  subst hb; simp [execOp, ho, he.eval hc, he.eval hx, asBool]
theorem ps_pick_f {c x y : Operand} {b : Bool} {v : Value} (ho : o.op = .pick c x y) (hc : opd E c = some (.bool b)) (hb : b = false) (hy : opd E y = some v) : PStep P E H G o v := fun N base w0 a w he hw => by
  subst hb; simp [execOp, ho, he.eval hc, he.eval hy, asBool]
/-- Numbers. -/
def intOp : BinOp → IntKind → Int → Int → Option Value
  | .add, k, x, y => some (.int k (k.wrap (x + y)))
  | .sub, k, x, y => some (.int k (k.wrap (x - y)))
  | .mul, k, x, y => some (.int k (k.wrap (x * y)))
  | .eql, k, x, y => some (.bool (x == y))
  | .neq, k, x, y => some (.bool (x != y))
  | .lss, k, x, y => some (.bool (decide (x < y)))
  | .leq, k, x, y => some (.bool (decide (x ≤ y)))
  | .gtr, k, x, y => some (.bool (decide (y < x)))
  | .geq, k, x, y => some (.bool (decide (y ≤ x)))
  | .and, k, x, y => some (.int k (k.wrap (BitVec.ofInt k.bits x &&& BitVec.ofInt k.bits y).toNat))
  | .or, k, x, y => some (.int k (k.wrap (BitVec.ofInt k.bits x ||| BitVec.ofInt k.bits y).toNat))
  | .xor, k, x, y => some (.int k (k.wrap (BitVec.ofInt k.bits x ^^^ BitVec.ofInt k.bits y).toNat))
  | _, _, _, _ => none
theorem ps_int {p : BinOp} {x y : Operand} {t t' : TypeId} {k : IntKind} {m n : Int} {v : Value} (ho : o.op = .binOp p t x y t') (hx : opd E x = some (.int k m)) (hy : opd E y = some (.int k n)) (hv : intOp p k m n = some v) : PStep P E H G o v := fun N base w0 a w he hw => by
  cases p <;> simp only [intOp, Option.some.injEq, reduceCtorEq] at hv <;> subst hv <;>
    simp [execOp, ho, he.eval hx, he.eval hy, eqGuard, binOp, Op.intArith, Op.intCmp, Op.intBits]
theorem ps_add {x y : Operand} {t t' : TypeId} {m n : Int} (ho : o.op = .binOp .add t x y t') (hx : opd E x = some (.int .i64 m)) (hy : opd E y = some (.int .i64 n)) (h : -9223372036854775808 ≤ m + n ∧ m + n ≤ 9223372036854775807) : PStep P E H G o (.int .i64 (m + n)) :=
  ps_int ho hx hy (by rw [intOp, IntWalk.i64_in _ h])
theorem ps_sub {x y : Operand} {t t' : TypeId} {m n : Int} (ho : o.op = .binOp .sub t x y t') (hx : opd E x = some (.int .i64 m)) (hy : opd E y = some (.int .i64 n)) (h : -9223372036854775808 ≤ m - n ∧ m - n ≤ 9223372036854775807) : PStep P E H G o (.int .i64 (m - n)) :=
  ps_int ho hx hy (by rw [intOp, IntWalk.i64_in _ h])
theorem ps_mul {x y : Operand} {t t' : TypeId} {m n : Int} (ho : o.op = .binOp .mul t x y t') (hx : opd E x = some (.int .i64 m)) (hy : opd E y = some (.int .i64 n)) (h : -9223372036854775808 ≤ m * n ∧ m * n ≤ 9223372036854775807) : PStep P E H G o (.int .i64 (m * n)) :=
  ps_int ho hx hy (by rw [intOp, IntWalk.i64_in _ h])
theorem ps_rem {x y : Operand} {t t' : TypeId} {k : IntKind} {m n : Int} (ho : o.op = .binOp .rem t x y t') (hx : opd E x = some (.int k m)) (hy : opd E y = some (.int k n)) (hn : n ≠ 0) (hm : 0 ≤ m) : PStep P E H G o (.int k (m % n)) := fun N base w0 a w he hw => by
  simp [execOp, ho, he.eval hx, he.eval hy, eqGuard, binOp, Op.intDiv, hn, IntWalk.rem_in _ _ hm]
theorem ps_quo {x y : Operand} {t t' : TypeId} {m n : Int} (ho : o.op = .binOp .quo t x y t') (hx : opd E x = some (.int .i64 m)) (hy : opd E y = some (.int .i64 n)) (hn : 0 < n) (hm : 0 ≤ m ∧ m ≤ 9223372036854775807) : PStep P E H G o (.int .i64 (m / n)) := fun N base w0 a w he hw => by
  have h1 : m.tdiv n = m / n := Int.tdiv_eq_ediv_of_nonneg hm.1
  have h2 : 0 ≤ m / n := Int.ediv_nonneg hm.1 (by omega)
  have h3 : m / n ≤ m := Int.ediv_le_self _ hm.1
  have h0 : n ≠ 0 := by omega
  simp [execOp, ho, he.eval hx, he.eval hy, eqGuard, binOp, Op.intDiv, h0, h1, IntWalk.i64_in (m / n) (by omega)]
theorem ps_shr {x y : Operand} {t t' : TypeId} {k k' : IntKind} {m n : Int} (ho : o.op = .binOp .shr t x y t') (hx : opd E x = some (.int k m)) (hy : opd E y = some (.int k' n)) (hn : 0 ≤ n ∧ n < k.bits) : PStep P E H G o (.int k (m.fdiv (2 ^ n.toNat))) := fun N base w0 a w he hw => by
  have h0 : ¬ n < 0 := by omega
  have h1 : min n.toNat k.bits = n.toNat := by omega
  simp [execOp, ho, he.eval hx, he.eval hy, eqGuard, binOp, Op.shift, h0, h1]
theorem ps_shl {x y : Operand} {t t' : TypeId} {k k' : IntKind} {m n : Int} (ho : o.op = .binOp .shl t x y t') (hx : opd E x = some (.int k m)) (hy : opd E y = some (.int k' n)) (hn : 0 ≤ n ∧ n < k.bits) : PStep P E H G o (.int k (k.wrap (m * 2 ^ n.toNat))) := fun N base w0 a w he hw => by
  have h0 : ¬ n < 0 := by omega
  have h1 : min n.toNat k.bits = n.toNat := by omega
  simp [execOp, ho, he.eval hx, he.eval hy, eqGuard, binOp, Op.shift, h0, h1]
theorem ps_conv {x : Operand} {s t : TypeId} {k k' : IntKind} {n : Int} [hk : IK P t k] [hk' : IK P s k'] (ho : o.op = .convert s t x) (hx : opd E x = some (.int k' n)) : PStep P E H G o (.int k (k.wrap n)) := fun N base w0 a w he hw => by
  simp [execOp, ho, he.eval hx, convert, run_underlying hk.h, run_underlying hk'.h, Conv.intToInt]
theorem ps_conv_id {x : Operand} {s t : TypeId} {k k' : IntKind} {n : Int} [hk : IK P t k] [hk' : IK P s k'] (ho : o.op = .convert s t x) (hx : opd E x = some (.int k' n)) (hn : k.wrap n = n) : PStep P E H G o (.int k n) := fun N base w0 a w he hw => by
  rw [ps_conv ho hx N base w0 a w he hw, hn]
theorem run_eqGuard_bool (w : World) (p : BinOp) (t : TypeId) (x y : Operand) (b c : Bool) : (eqGuard p t x y (.bool b) (.bool c)).run P w = .ok () w := by
  unfold eqGuard
  cases p <;> rfl
theorem ps_bool_neq {x y : Operand} {t t' : TypeId} {b c : Bool} (ht : P.underlying t = some .bool) (ho : o.op = .binOp .neq t x y t') (hx : opd E x = some (.bool b)) (hy : opd E y = some (.bool c)) : PStep P E H G o (.bool (!(b == c))) := fun N base w0 a w he hw => by
  unfold execOp
  simp only [ho, he.eval hx, he.eval hy, Sem.run_bind, run_eqGuard_bool, Result.andThen_ok, run_neq_bool w t b c ht, Sem.run_pure]
theorem ps_bool_eql {x y : Operand} {t t' : TypeId} {b c : Bool} (ht : P.underlying t = some .bool) (ho : o.op = .binOp .eql t x y t') (hx : opd E x = some (.bool b)) (hy : opd E y = some (.bool c)) : PStep P E H G o (.bool (b == c)) := fun N base w0 a w he hw => by
  unfold execOp
  simp only [ho, he.eval hx, he.eval hy, Sem.run_bind, run_eqGuard_bool, Result.andThen_ok, run_eql_bool w t b c ht, Sem.run_pure]
/-- Strings. -/
theorem ps_sadd {x y : Operand} {t t' : TypeId} {s r : ByteArray} (ho : o.op = .binOp .add t x y t') (hx : opd E x = some (.string s)) (hy : opd E y = some (.string r)) (h : s.size + r.size ≤ 9223372036854775807) : PStep P E H G o (.string (s ++ r)) := fun N base w0 a w he hw => by
  have : ¬ (9223372036854775807 < (s.size : Int) + (r.size : Int)) := by omega
  simp [execOp, ho, he.eval hx, he.eval hy, eqGuard, binOp, Op.stringOp, IntKind.max, IntKind.bits, IntKind.signed, this]
def strOp : BinOp → ByteArray → ByteArray → Option Value
  | .eql, x, y => some (.bool (sEq x y))
  | .neq, x, y => some (.bool !(sEq x y))
  | .lss, x, y => some (.bool (sLt x y))
  | .leq, x, y => some (.bool !(sLt y x))
  | .gtr, x, y => some (.bool (sLt y x))
  | .geq, x, y => some (.bool !(sLt x y))
  | _, _, _ => none
theorem sLt_or_eq (x y : ByteArray) : (sLt x y || sEq x y) = !sLt y x := by
  rcases sLt_tri x y with h | h | h
  · rw [h, sLt_asymm h]; rfl
  · have := tl_inj h; subst this; simp [sLt_irrefl, sEq]
  · rw [h, sLt_asymm h]
    have : sEq x y = false := by
      cases he : sEq x y with
      | false => rfl
      | true =>
        have : x = y := tl_inj (by simpa [sEq] using he)
        subst this; rw [sLt_irrefl] at h; cases h
    rw [this]; rfl
theorem ps_str {p : BinOp} {x y : Operand} {t t' : TypeId} {s r : ByteArray} {v : Value} (ho : o.op = .binOp p t x y t') (hx : opd E x = some (.string s)) (hy : opd E y = some (.string r)) (hv : strOp p s r = some v) : PStep P E H G o v := fun N base w0 a w he hw => by
  have h1 := sLt_or_eq s r
  have h2 : (!(Op.bytesLess s.toList r.toList || s.toList == r.toList)) = sLt r s := by
    show (!(sLt s r || sEq s r)) = _
    rw [h1]; simp
  have h3 : (Op.bytesLess s.toList r.toList || s.toList == r.toList) = !sLt r s := h1
  cases p <;> simp only [strOp, Option.some.injEq, reduceCtorEq] at hv <;> subst hv <;>
    simp only [execOp, ho, he.eval hx, he.eval hy, eqGuard, binOp, Op.stringOp, Sem.run_bind, Sem.run_pure, Result.andThen_ok, h2, h3] <;> first | rfl | (simp only [Bool.not_not]; rfl)
theorem ps_sidx {x y : Operand} {t : TypeId} {s : ByteArray} {k : IntKind} {i : Int} [ht : SS P t] (ho : o.op = .index t x y) (hx : opd E x = some (.string s)) (hy : opd E y = some (.int k i)) (h : 0 ≤ i ∧ i < s.size) : PStep P E H G o (.int .u8 ((s[i.toNat]!).toNat : Int)) := fun N base w0 a w he hw => by
  have hlt : i.toNat < s.size := by omega
  have h1 : s[i.toNat]? = some s[i.toNat] := getElem?_pos s _ hlt
  have h2 : s[i.toNat]! = s[i.toNat] := getElem!_pos s _ hlt
  simp [execOp, ho, he.eval hx, he.eval hy, Instr.index, asIntOf, run_underlying ht.h, h.1, h1, h2]
theorem ps_slen {x : Operand} {t : TypeId} {s : ByteArray} [ht : SS P t] (ho : o.op = .call { callee := .builtin .len, args := #[x], argTypes := #[t] }) (hx : opd E x = some (.string s)) : PStep P E H G o (.int .i64 (s.size : Int)) := fun N base w0 a w he hw => by
  simp [execOp, ho, resolve, invoke, builtin, Builtin.len_, he.eval hx, run_underlying ht.h, goInt]
theorem ps_len {x : Operand} {t e sz bytes : TypeId} {A : Option Addr} {n c : Nat} [ht : EL P t e sz bytes] (ho : o.op = .call { callee := .builtin .len, args := #[x], argTypes := #[t] }) (hx : opd E x = some (.slice A n c)) : PStep P E H G o (.int .i64 (n : Int)) := fun N base w0 a w he hw => by
  simp [execOp, ho, resolve, invoke, builtin, Builtin.len_, he.eval hx, run_underlying ht.h.1, goInt]
theorem ps_min {x y : Operand} {tys : Array TypeId} {k : IntKind} {m n : Int} (ho : o.op = .call { callee := .builtin .min, args := #[x, y], argTypes := tys }) (hx : opd E x = some (.int k m)) (hy : opd E y = some (.int k n)) : PStep P E H G o (.int k (if n < m then n else m)) := fun N base w0 a w he hw => by
  simp [execOp, ho, resolve, invoke, builtin, Builtin.min_, Builtin.min2, he.eval hx, he.eval hy]
theorem ps_max {x y : Operand} {tys : Array TypeId} {k : IntKind} {m n : Int} (ho : o.op = .call { callee := .builtin .max, args := #[x, y], argTypes := tys }) (hx : opd E x = some (.int k m)) (hy : opd E y = some (.int k n)) : PStep P E H G o (.int k (if m < n then n else m)) := fun N base w0 a w he hw => by
  simp [execOp, ho, resolve, invoke, builtin, Builtin.max_, Builtin.max2, he.eval hx, he.eval hy]
theorem ps_extract {x : Operand} {i : Nat} {vs : List Value} {v : Value} (ho : o.op = .extract x i) (hx : opd E x = some (.tuple vs.toArray)) (hv : vs[i]? = some v) : PStep P E H G o v := fun N base w0 a w he hw => by
  have hv' : vs.toArray[i]? = some v := by simpa using hv
  simp only [execOp, ho, he.eval hx, Instr.extract, hv', Sem.run_bind, Sem.run_pure, Result.andThen_ok]
/-- Addresses and loads. -/
theorem ps_field {x : Operand} {s f off k : Nat} {A : Option Addr} [hf : FO P s f off] (ho : o.op = .fieldAddr s x f) (hx : opd E x = some (pt A k)) (hA : IsSW H G A) : PStep P E H G o (pt A (k + off)) := fun N base w0 a w he hw => by
  obtain ⟨ad, rfl⟩ := hA base w0 w hw
  have h := hf.h
  unfold foB at h
  split at h
  case h_2 => cases h
  rename_i fs hu
  split at h
  case h_2 => cases h
  rename_i fd hfd
  split at h
  case h_2 => cases h
  rename_i i hi
  split at h
  · cases h
  rename_i hsz
  cases h
  simp only [execOp, ho, he.eval hx, pt, Option.map_some, Instr.fieldAt, Sem.run_bind, run_underlying hu, Result.andThen_ok, hfd, Instr.sureAddr, Sem.run_pure, fieldPlace, sizeOf, typeInfo, run_program, hi, if_neg hsz, add_add']
theorem ps_index {x y : Operand} {t e sz bytes : TypeId} {A : Option Addr} {n c : Nat} {k : IntKind} {i : Int} [ht : EL P t e sz bytes] (ho : o.op = .indexAddr t x y) (hx : opd E x = some (.slice A n c)) (hy : opd E y = some (.int k i)) (h : 0 ≤ i ∧ i < n) (hA : IsSW H G A) : PStep P E H G o (pt A (i.toNat * sz)) := fun N base w0 a w he hw => by
  obtain ⟨ad, rfl⟩ := hA base w0 w hw
  obtain ⟨hu, _, inf, z, hi, _, hs, _⟩ := ht.h
  simp [execOp, ho, he.eval hx, he.eval hy, Instr.indexAt, asIntOf, run_underlying hu, h, sizeOf, typeInfo, hi, hs, pt]
theorem ps_load {x : Operand} {t sz k : Nat} {A : Option Addr} {u : Value} [hl : LD P t sz false] (ho : o.op = .load t x) (hx : opd E x = some (pt A k)) (hc : Cell H G A k u) : PStep P E H G o u := fun N base w0 a w he hw => by
  obtain ⟨ad, rfl, hcell⟩ := hc base w0 w hw
  have h := hl.h
  unfold ldB at h
  split at h
  · cases h
  · cases h
  · rename_i d i h1 h2 hu hi
    have : (isAgg t).run P w = .ok false w := by
      simp only [isAgg, Sem.run_bind, run_underlying hu, Result.andThen_ok]
      cases d <;> first | rfl | exact absurd rfl (h1 _) | exact absurd rfl (h2 _ _)
    simp [execOp, ho, he.eval hx, pt, Instr.loadAt, Instr.sureAddr, loadVar, this, load, Sem.run, hcell]
  · cases h
theorem ps_loads {x : Operand} {t sz k : Nat} {A : Option Addr} {us vs : List Value} [hl : LD P t sz true] (ho : o.op = .load t x) (hx : opd E x = some (pt A k)) (hc : Rds H G A us) (hv : (us.drop k).take sz = vs) (hn : vs.length = sz) (hz : 0 < sz) : PStep P E H G o (.agg vs.toArray) := fun N base w0 a w he hw => by
  have hr := hc base w0 w hw
  subst hv
  have hlen : 0 < us.length := by simp at hn; omega
  obtain ⟨ad, rfl, _⟩ := hr.at_ hlen
  have hr' := (hr.drop k).take sz
  have hls : (loadCells (ad.add k) sz).run P w = .ok ((us.drop k).take sz).toArray w := by
    have := run_loadCells_list (P := P) w (ad.add k) ((us.drop k).take sz) (fun j v hj => by
      obtain ⟨_, e, hcc⟩ := hr' j v hj; cases e; exact hcc)
    rwa [hn] at this
  have h := hl.h
  have key : ∀ i, P.info? t = some i → i.size = sz → (sizeOf t).run P w = .ok sz w := fun i hi hs => by
    simp [sizeOf, typeInfo, hi, hs]
  unfold ldB at h
  split at h
  · rename_i fs i hu hi
    injection h with h; injection h with h1 h2
    have : (isAgg t).run P w = .ok true w := by simp [isAgg, run_underlying hu]
    simp [execOp, ho, he.eval hx, pt, Instr.loadAt, Instr.sureAddr, loadVar, this, key i hi h1, hls]
  · rename_i n e i hu hi
    injection h with h; injection h with h1 h2
    have : (isAgg t).run P w = .ok true w := by simp [isAgg, run_underlying hu]
    simp [execOp, ho, he.eval hx, pt, Instr.loadAt, Instr.sureAddr, loadVar, this, key i hi h1, hls]
  · injection h with h; injection h with h1 h2; cases h2
  · cases h
theorem ps_nil {x : Operand} {A : Option Addr} {k : Nat} (ho : o.op = .nilCheck x) (hx : opd E x = some (pt A k)) (hA : IsSW H G A) : PStep P E H G o (pt A k) := fun N base w0 a w he hw => by
  obtain ⟨ad, rfl⟩ := hA base w0 w hw
  simp [execOp, ho, he.eval hx, pt]
theorem ps_nil_func {x : Operand} {f : FuncId} {l1 l2 : Array Value} (ho : o.op = .nilCheck x) (hx : opd E x = some (.func (.func f) l1 l2)) : PStep P E H G o (.func (.func f) l1 l2) := fun N base w0 a w he hw => by
  simp [execOp, ho, he.eval hx]
theorem ps_build {t : TypeId} {parts : Array (Nat × Operand)} {vs : List (Nat × Value)} {cs : List Value} (ho : o.op = .build t parts) (hp : parts.toList.mapM (fun q => (opd E q.2).map fun v => (q.1, v)) = some vs) (hb : P.built t vs = some cs.toArray) : PStep P E H G o (.agg cs.toArray) := fun N base w0 a w he hw => by
  have hm : (parts.map fun q => (q.1, a.eval q.2)).toList = vs := by
    rw [Array.toList_map]
    generalize parts.toList = l at hp
    clear hb ho
    induction l generalizing vs with
    | nil => simp at hp; subst hp; rfl
    | cons q l ih =>
      simp only [List.mapM_cons, Option.bind_eq_bind] at hp
      cases hq : opd E q.2 with
      | none => simp [hq] at hp
      | some v =>
        simp only [hq, Option.map_some, Option.bind_some] at hp
        cases hr : l.mapM (fun q => (opd E q.2).map fun v => (q.1, v)) with
        | none => simp [hr] at hp
        | some r =>
          simp only [hr, Option.bind_some] at hp
          cases hp
          rw [List.map_cons, he.eval hq, ih hr]
  have := run_build (P := P) w t (parts.map fun q => (q.1, a.eval q.2)) cs.toArray (by rw [hm]; exact hb)
  simp only [execOp, ho, Sem.run_bind, this, Result.andThen_ok, Sem.run_pure]
end
end Go.Proofs.Ytfcnimglcialbaa
/- The engine: operations that make or write memory, and calls. -/
namespace Go.Proofs.Ytfcnimglcialbaa
open Go.RowKit
set_option linter.unusedVariables false
set_option linter.unusedSimpArgs false
def MStep (P : Program) (E : Env) (H : List HObj) (G : List World) (o : Oper) (F : Ys → Prop) (v : Ys → Value) (H' : Ys → List HObj) (G' : Ys → List World) : Prop :=
  ∀ N base w0 a w Q (K : Act → World → Prop), EnvOk N E a → WOk base w0 H G w → (∀ y w', F y → WOk base w0 (H' y) (G' y) w' → K (a.put o.dst (v y)) w') → o.wp P a w K Q
def mkY (A : Option Addr) (c : Nat) (w : World) : Ys := fun _ => ⟨A, c, w, 0⟩
def mkN (n : Int) (w : World) : Ys := fun _ => ⟨none, 0, w, n⟩
def yl (l : List Ya) (d : Ya) : Ys := fun i => l.getD i d
theorem NewOk.one {L : Nat} {x : HObj} {w : World} (h : x.holds L w) : NewOk L [x] [] w := ⟨fun y hy => by
  rcases List.mem_singleton.1 hy with rfl
  exact h, by simp, (fun m h => (by cases h))⟩
section
variable {P : Program} {N base : Nat} {w0 : World} {E : Env} {H : List HObj} {G : List World} {Q : Exit → Act → World → Prop} {o : Oper} {rest : List Oper} {ops : Array Oper} {F : Ys → Prop} {v : Ys → Value} {H' : Ys → List HObj} {G' : Ys → List World}
theorem ok_m (hg : o.guard = none) {td : Nat} (hdt : o.dst = some td) (hd : Nat.blt td N = true) (hs : MStep P E H G o F v H' G') (h : ∀ y, F y → Ok N base w0 ((td, v y) :: E) (H' y) (G' y) (wpList P ops Q rest)) :
    Ok N base w0 E H G (wpList P ops Q (o :: rest)) := fun a w he hw => by
  refine wpList_plain hg fun K hK => ?_
  exact hs N base w0 a w Q K he hw fun y w' hF hw' => hK _ _ (h y hF _ _ (he.put' hdt hd _) hw')
theorem ok_m_ (hg : o.guard = none) (hd : o.dst = none) (hs : MStep P E H G o F v H' G') (h : ∀ y, F y → Ok N base w0 E (H' y) (G' y) (wpList P ops Q rest)) :
    Ok N base w0 E H G (wpList P ops Q (o :: rest)) := fun a w he hw => by
  refine wpList_plain hg fun K hK => ?_
  exact hs N base w0 a w Q K he hw fun y w' hF hw' => hK _ _ (h y hF _ _ (he.put0 hd _) hw')
/-- A guard that is known. -/
theorem ok_m_yes {j d : Nat} {want c p : Bool} (hg : o.guard = some (j, want)) (hj : (ops[j]?).bind (·.dst) = some d) (hv : look E d = some (gv p (.bool c))) (hp : (p && (c == want)) = true) {td : Nat} (hdt : o.dst = some td) (hd : Nat.blt td N = true) (hs : MStep P E H G o F v H' G')
    (h : ∀ y, F y → Ok N base w0 ((td, v y) :: E) (H' y) (G' y) (wpList P ops Q rest)) : Ok N base w0 E H G (wpList P ops Q (o :: rest)) := fun a w he hw => by
  refine wpList_step fun K hK => ?_
  rw [wanted_of he hg hj hv, hp, if_pos rfl]
  exact hs N base w0 a w Q K he hw fun y w' hF hw' => hK _ _ (h y hF _ _ (he.put' hdt hd _) hw')
theorem ok_m_no {j d : Nat} {want c p : Bool} (hg : o.guard = some (j, want)) (hj : (ops[j]?).bind (·.dst) = some d) (hv : look E d = some (gv p (.bool c))) (hp : (p && (c == want)) = false) {td : Nat} (hdt : o.dst = some td) (hd : Nat.blt td N = true)
    (h : Ok N base w0 ((td, undef) :: E) H G (wpList P ops Q rest)) : Ok N base w0 E H G (wpList P ops Q (o :: rest)) := fun a w he hw => by
  refine wpList_step fun K hK => ?_
  rw [wanted_of he hg hj hv, hp, if_neg (by simp)]
  exact hK _ _ (h _ _ (he.put' hdt hd _) hw)
theorem ms_of {v0 : Value} (h : ∀ N base w0 a w, EnvOk N E a → WOk base w0 H G w → ∃ y w', F y ∧ (execOp a.eval o).run P w = .ok (.value (v y)) w' ∧ WOk base w0 (H' y) (G' y) w') : MStep P E H G o F v H' G' := fun N base w0 a w Q K he hw hK => by
  obtain ⟨y, w', hF, hr, hw'⟩ := h N base w0 a w he hw
  unfold Oper.wp; rw [hr]; exact hK y w' hF hw'
theorem wok_new {w : World} (hw : WOk base w0 H G w) (e : TypeId) (cs : List Value) {sz n : Nat} : WOk base w0 (.box w.heap.size e cs :: H) G (w.alloc (.cells cs.toArray e)) :=
  hw.grow (Hn := [.box w.heap.size e cs]) (Gn := []) ((Below.refl _ _).alloc (Nat.le_refl _) _)
    (NewOk.one ⟨Nat.le_refl _, heap_alloc_new w _⟩)
theorem wok_new_row {w : World} (hw : WOk base w0 H G w) (e sz n : Nat) (us : List Value) (hl : us.length = n * sz) (hm : n ≤ maxLen) : WOk base w0 (.row e sz (ga w.heap.size) n n us :: H) G (w.alloc (.cells us.toArray e)) :=
  hw.grow (Hn := [.row e sz (ga w.heap.size) n n us]) (Gn := []) ((Below.refl _ _).alloc (Nat.le_refl _) _)
    (NewOk.one ⟨hl, .inr ⟨_, n, us.toArray, rfl, Nat.le_refl _, heap_alloc_new w _, Nat.le_refl _, hm, by simpa using hl, by simp [← hl]⟩⟩)
theorem ms_alloc {t : TypeId} {cs : List Value} [hz : ZV P t cs] (ho : o.op = .alloc t) : MStep P E H G o (fun _ => True) (fun y => pt (ga (y 0).c) 0) (fun y => .box (y 0).c t cs :: H) (fun _ => G) := ms_of (v0 := undef) fun N base w0 a w he hw => by
  refine ⟨mkY none w.heap.size w, w.alloc (.cells cs.toArray t), trivial, ?_, wok_new hw t cs (sz := 0) (n := 0)⟩
  have h := hz.h
  unfold zvB at h
  cases hi : P.info? t with
  | none => simp [hi] at h
  | some i =>
    simp only [hi] at h
    cases hzz : i.zero with
    | none => simp [hzz] at h
    | some z =>
      simp only [hzz, Option.map_some, Option.some.injEq] at h
      simp [execOp, ho, Instr.alloc, zeroValue, typeInfo, hi, hzz, newVar, newRow, newObj, Sem.run, h, pt, ga, mkY, Addr.add]
theorem ms_box {t : TypeId} {x : Operand} {u : Value} {cs : List Value} (ho : o.op = .box t x) (hx : opd E x = some u) (hc : u.cells = cs.toArray) : MStep P E H G o (fun _ => True) (fun y => pt (ga (y 0).c) 0) (fun y => .box (y 0).c t cs :: H) (fun _ => G) := ms_of (v0 := undef) fun N base w0 a w he hw => by
  refine ⟨mkY none w.heap.size w, w.alloc (.cells cs.toArray t), trivial, ?_, wok_new hw t cs (sz := 0) (n := 0)⟩
  simp [execOp, ho, he.eval hx, Instr.box, newVar, newRow, newObj, Sem.run, hc, pt, ga, mkY, Addr.add]
def bsCells (P : Program) (t len : Nat) (vs : List (Nat × Value)) : Option (Array Value) := match P.underlying t with
  | some (.slice e) => match P.info? e with
    | some i => if len * i.size > 2 ^ 24 then none else match (if len * i.size = 0 then some #[] else i.zero.map (·.cells)) with
      | some z => Instr.fill (fun j => some (j * i.size, i.size)) ((Array.range (len * i.size)).map (z[· % z.size]!)) vs
      | none => none
    | none => none
  | _ => none
theorem eval_parts {a : Act} (he : EnvOk N E a) {parts : Array (Nat × Operand)} {vs : List (Nat × Value)} (hp : parts.toList.mapM (fun q => (opd E q.2).map fun v => (q.1, v)) = some vs) : (parts.map fun q => (q.1, a.eval q.2)).toList = vs := by
  rw [Array.toList_map]
  generalize parts.toList = l at hp
  induction l generalizing vs with
  | nil => simp at hp; subst hp; rfl
  | cons q l ih =>
    simp only [List.mapM_cons, Option.bind_eq_bind] at hp
    cases hq : opd E q.2 with
    | none => simp [hq] at hp
    | some v =>
      simp only [hq, Option.map_some, Option.bind_some] at hp
      cases hr : l.mapM (fun q => (opd E q.2).map fun v => (q.1, v)) with
      | none => simp [hr] at hp
      | some r =>
        simp only [hr, Option.bind_some] at hp
        cases hp
        rw [List.map_cons, he.eval hq, ih hr]
theorem ms_bslice {t e sz bytes len : Nat} {parts : Array (Nat × Operand)} {vs : List (Nat × Value)} {us : List Value} [ht : EL P t e sz bytes] (ho : o.op = .buildSlice t len parts) (hp : parts.toList.mapM (fun q => (opd E q.2).map fun v => (q.1, v)) = some vs)
    (hb : bsCells P t len vs = some us.toArray) (hl : us.length = len * sz) (hm : len ≤ 16777216) : MStep P E H G o (fun _ => True) (fun y => .slice (ga (y 0).c) len len) (fun y => .row e sz (ga (y 0).c) len len us :: H) (fun _ => G) := ms_of (v0 := undef) fun N base w0 a w he hw => by
  refine ⟨mkY none w.heap.size w, w.alloc (.cells us.toArray e), trivial, ?_, wok_new_row hw e sz len us hl (by simp only [maxLen]; omega)⟩
  have hpp := eval_parts he hp
  obtain ⟨hu, _, i, z, hi, hz, hs, _, _⟩ := ht.h
  unfold bsCells at hb
  simp only [hu, hi] at hb
  split at hb
  · cases hb
  rename_i hle
  simp only [execOp, ho, Instr.buildSlice, Sem.run_bind, run_underlying hu, Result.andThen_ok, sizeOf, typeInfo, run_program, hi, Sem.run_pure, if_neg hle, hpp]
  by_cases h0 : len * i.size = 0
  · simp only [h0, if_true] at hb
    simp at hb
    simp [h0, hb, newRow, newObj, Sem.run, ga, mkY]
  · simp only [h0, if_false, hz, Option.map_some] at hb
    simp [h0, zeroValue, typeInfo, hi, hz, hb, newRow, newObj, Sem.run, ga, mkY]
theorem ms_make {t e sz bytes : Nat} {x y : Operand} {n : Nat} {k k' : IntKind} {z : List Value} [ht : EL P t e sz bytes] [hz : ZV P e z] (ho : o.op = .makeSlice t x y) (hx : opd E x = some (.int k (n : Int))) (hy : opd E y = some (.int k' (n : Int))) (hb : bytes * n ≤ 140737488355328) (hn : n ≤ 140737488355328) :
    MStep P E H G o (fun _ => True) (fun y => .slice (ga (y 0).c) n n) (fun y => .row e sz (ga (y 0).c) n n (madeCells z.toArray (n * sz)).toList :: H) (fun _ => G) := ms_of (v0 := undef) fun N base w0 a w he hw => by
  obtain ⟨hu, _, i, zz, hi, hzz, hs, hby, _⟩ := ht.h
  have hz1 : zz.cells = z.toArray := by
    have := hz.h
    unfold zvB at this
    simpa [hi, hzz] using this
  obtain ⟨w', hr, hown, hgr⟩ := run_make_full (P := P) w w.heap.size t e i zz sz hu hi hzz hs k k' n (by rw [hby]; omega) (by simp only [maxLen]; omega) (Nat.le_refl _)
  rw [hz1] at hown
  refine ⟨mkY none w.heap.size w, w', trivial, ?_, ?_⟩
  · simp only [execOp, ho, he.eval hx, he.eval hy, Sem.run_bind, hr, Result.andThen_ok, Sem.run_pure]; rfl
  · exact hw.grow (Hn := [.row e sz (ga w.heap.size) n n _]) (Gn := []) ⟨hgr.os, hgr.tape, hgr.output, hgr.size, fun j hj => hgr.block j hj (by simp)⟩ (NewOk.one hown)
def putC (cs : List Value) (k : Nat) (vs : List Value) : List Value := cs.take k ++ vs ++ cs.drop (k + vs.length)
theorem ms_store {t g e k sz : Nat} {ag : Bool} {x y : Operand} {u : Value} {cs vs : List Value} (i : Nat) [hl : LD P t sz ag] (ho : o.op = .store t x y) (hx : opd E x = some (pt (ga g) k)) (hy : opd E y = some u) (hv : u.cells = vs.toArray) (hn : vs.length = sz) (h1 : vs.all (·.oneCell') = true)
    (hi : H[i]? = some (.box g e cs)) (hkb : Nat.ble (k + vs.length) cs.length = true) : MStep P E H G o (fun _ => True) (fun _ => undef) (fun _ => H.set i (.box g e (putC cs k vs))) (fun _ => G) := fun N base w0 a w Q K he hw hK => by
  have hk := Nat.le_of_ble_eq_true hkb
  obtain ⟨hb, hh⟩ := hw.own _ (List.mem_of_getElem? hi)
  have hst := run_storeCells_at P g k e vs 0 cs.toArray w hh (by simpa using hk) (by simpa using h1)
  have hsz : (sizeOf t).run P w = .ok sz w := by
    have h := hl.h
    unfold ldB at h
    split at h <;> first | (injection h with h; injection h with h1 h2; rename_i hi; simp [sizeOf, typeInfo, hi, h1]) | cases h
  have hlen : u.cells.size = sz := by rw [hv]; simpa using hn
  have hrun : (execOp a.eval o).run P w = .ok .skip (w.setRow g (putC cs k vs).toArray) := by
    simp only [Nat.add_zero] at hst
    simp [execOp, ho, he.eval hx, he.eval hy, pt, ga, Instr.storeAt, Instr.sureAddr, storeVar, hsz, hlen, hn, ga_add, hv, hst, putC]
  unfold Oper.wp; rw [hrun]
  refine hK (mkY none 0 w) _ trivial (hw.turn (x := .box g e cs) hi (r := some g) ?_ (fun k hk => by cases hk; rfl) ⟨hb, setRow_heap w g _ _ e _ hh⟩ (fun j hj => .inl hj))
  exact ⟨rfl, rfl, rfl, by simp, fun j _ hj => setRow_other w g j _ (fun e => hj (by simp [e]))⟩
theorem ms_store_row {t g e k sz rsz n c : Nat} {ag : Bool} {A : Option Addr} {x y : Operand} {u : Value} {us vs : List Value} (i : Nat) [hl : LD P t sz ag] (ho : o.op = .store t x y) (hx : opd E x = some (pt A k)) (hy : opd E y = some u) (hv : u.cells = vs.toArray) (hn : vs.length = sz) (h1 : vs.all (·.oneCell') = true) (h0 : 0 < sz)
    (hi : H[i]? = some (.row e rsz A n c us)) (hk : k + vs.length ≤ us.length) : MStep P E H G o (fun _ => True) (fun _ => undef) (fun _ => H.set i (.row e rsz A n c (putC us k vs))) (fun _ => G) := fun N base w0 a w Q K he hw hK => by
  have hown := hw.own _ (List.mem_of_getElem? hi)
  obtain ⟨hlen, ⟨hA, hn0⟩ | ⟨g, cap, cur, hA, hb, hh, hnc, hcm, hcs, htk⟩⟩ := hown
  · subst hn0; have h3 : us.length = 0 := by rw [hlen, Nat.zero_mul]
    omega
  injection hA with hA hA2 hA3
  subst hA; subst hA3
  have hcl : n * rsz ≤ cur.size := by rw [hcs]; exact Nat.mul_le_mul_right _ hnc
  have hst := run_storeCells_at P g k e vs 0 cur w hh (by simp; omega) (by simpa using h1)
  have hsz : (sizeOf t).run P w = .ok sz w := by
    have h := hl.h
    unfold ldB at h
    split at h <;> first | (injection h with h; injection h with h1 h2; rename_i hi; simp [sizeOf, typeInfo, hi, h1]) | cases h
  have hlen2 : u.cells.size = sz := by rw [hv]; simpa using hn
  have hrun : (execOp a.eval o).run P w = .ok .skip (w.setRow g (putC cur.toList k vs).toArray) := by
    simp only [Nat.add_zero] at hst
    simp [execOp, ho, he.eval hx, he.eval hy, pt, Instr.storeAt, Instr.sureAddr, storeVar, hsz, hlen2, hn, ga_add, hv, hst, putC]
  unfold Oper.wp; rw [hrun]
  have hpl : ∀ (l : List Value), k + vs.length ≤ l.length → (putC l k vs).length = l.length := fun l hl => by simp [putC]; omega
  have hcur : k + vs.length ≤ cur.toList.length := by simp; omega
  refine hK (mkY none 0 w) _ trivial (hw.turn (x := .row e rsz (some ⟨g, 0, none⟩) n c us) hi (r := some g) ?_ (fun k hk => by cases hk; rfl) ⟨by rw [hpl us hk, hlen], .inr ⟨g, c, _, rfl, hb, setRow_heap w g _ _ e _ hh, hnc, hcm, ?_, ?_⟩⟩ (fun j hj => .inl hj))
  · exact ⟨rfl, rfl, rfl, by simp, fun j _ hj => setRow_other w g j _ (fun e => hj (by simp [e]))⟩
  · simp only [List.size_toArray]; rw [hpl _ hcur]; simpa using hcs
  · rw [← htk]
    simp only [putC]
    rw [← htk] at hk
    simp only [List.length_take] at hk
    apply List.ext_getElem?
    intro j
    simp only [List.getElem?_take, List.getElem?_append, List.length_append, List.length_take, List.getElem?_drop]
    repeat' split
    all_goals first | rfl | omega | (congr 1; omega) | skip
    all_goals simp_all <;> omega
end
end Go.Proofs.Ytfcnimglcialbaa
/- The engine: append, strings of bytes, calls; statements whose order is open. -/
namespace Go.Proofs.Ytfcnimglcialbaa
open Go.RowKit
set_option linter.unusedVariables false
set_option linter.unusedSimpArgs false
section
variable {P : Program} {N base : Nat} {w0 : World} {E : Env} {H : List HObj} {G : List World} {Q : Exit → Act → World → Prop} {o : Oper} {rest : List Oper} {ops : Array Oper} {F : Ys → Prop} {v : Ys → Value} {H' : Ys → List HObj} {G' : Ys → List World}
theorem run_appP {t ty e size bytes : Nat} (hT : SlP P t e size bytes) {w : World} {base n c : Nat} {A : Option Addr} {us : List Value} (hown : Own w base e size A n c us)
    {A2 : Option Addr} {m c2 : Nat} {news : List Value} (hl : news.length = m * size) (hr : Rd w A2 news) (h1 : ∀ u ∈ news, u.oneCell' = true)
    (hbytes : (n + m) * bytes ≤ 140737488355328) (h63 : n + m ≤ 140737488355328) (hbase : base ≤ w.heap.size) :
    ∃ A' c' w', (Builtin.append_ #[t, t] ty #[.slice A n c, .slice A2 m c2]).run P w = .ok (.slice A' (n + m) c') w' ∧ Own w' base e size A' (n + m) c' (us ++ news) ∧ w.grownBy w' (blk A) ∧ (blk A' = blk A ∨ blk A' = some w.heap.size) := by
  rcases A2 with _ | ad
  · have hn : news = [] := by
      rcases news with _ | ⟨u, l⟩
      · rfl
      · obtain ⟨ad, e, _⟩ := hr 0 u rfl; cases e
    have hm : m = 0 := by
      subst hn; have := hT.2.1
      rcases Nat.eq_zero_or_pos m with h | h
      · exact h
      · have := Nat.mul_pos h this; simp at hl; omega
    subst hn; subst hm
    refine ⟨A, c, w, ?_, by simpa using hown, World.grownBy.refl w _, .inl rfl⟩
    obtain ⟨ht, _, i, z, hi, hz, _, _, _⟩ := hT
    rcases hown.2 with ⟨hv, rfl⟩ | ⟨g, cap, cur, hv, _, _, hnc, _⟩
    · cases hv
      simp [Builtin.append_, run_underlying ht, sizeOf, typeInfo, hi, Builtin.lenOf, Builtin.firstCells]
    · cases hv
      simp [Builtin.append_, run_underlying ht, sizeOf, typeInfo, hi, Builtin.lenOf, Builtin.firstCells, hnc, storeCells]
  · have hcells : ∀ j u, news[j]? = some u → w.cell? (ad.add j) = some u := fun j u hu => by
      obtain ⟨ad', e, hc⟩ := hr j u hu; cases e; exact hc
    obtain ⟨ht, hsz, i, z, hi, hz, hs, hby, hzs⟩ := hT
    obtain ⟨v', w', hrun, h2, h3, _, h5⟩ := run_append_own_at (P := P) w base t ty e i z size bytes ht hi hz hs hby hzs hsz (.slice A n c) n us hown ad m c2 news hl hcells h1 (by simp only [maxLen]; omega) hbytes hbase
    obtain ⟨A', c', rfl⟩ : ∃ A' c', v' = .slice A' (n + m) c' := by
      rcases h2.2 with ⟨hv, hn⟩ | ⟨g, cap, cur, hv, _⟩
      · exact ⟨none, 0, by rw [hv, hn]⟩
      · exact ⟨_, _, hv⟩
    rw [ownBlock_slice] at h3 h5
    rw [ownBlock_slice] at h5
    exact ⟨A', c', w', hrun, h2, h3, h5⟩
theorem ms_app {t e sz bytes n c m c2 : Nat} {A A2 : Option Addr} {x y : Operand} {us news : List Value} (i : Nat) [ht : EL P t e sz bytes] (ho : o.op = .call { callee := .builtin .append, args := #[x, y], argTypes := #[t, t] })
    (hx : opd E x = some (.slice A n c)) (hy : opd E y = some (.slice A2 m c2)) (hi : H[i]? = some (.row e sz A n c us)) (hr : Rds H G A2 news) (hl : news.length = m * sz) (h1 : ∀ u ∈ news, u.oneCell' = true)
    (hb : (n + m) * bytes ≤ 140737488355328) (hm : n + m ≤ 140737488355328) :
    MStep P E H G o (fun _ => True) (fun y => .slice (y 0).A (n + m) (y 0).c) (fun y => H.set i (.row e sz (y 0).A (n + m) (y 0).c (us ++ news))) (fun _ => G) := fun N base w0 a w Q K he hw hK => by
  obtain ⟨A', c', w', hrun, h2, h3, h4⟩ := run_appP (ty := o.type) ht.h (hw.own _ (List.mem_of_getElem? hi)) hl (hr base w0 w hw) h1 hb hm hw.le (c2 := c2)
  have hr' : (execOp a.eval o).run P w = .ok (.value (.slice A' (n + m) c')) w' := by
    unfold execOp
    simp only [ho, resolve, invoke, builtin, Sem.run_bind, Sem.run_pure, Result.andThen_ok, List.map_toArray, List.map_cons, List.map_nil, he.eval hx, he.eval hy, hrun]
  unfold Oper.wp; rw [hr']
  refine hK (mkY A' c' w) _ trivial (hw.turn (x := .row e sz A n c us) hi h3 (fun k hk => hk) h2 fun k hk => ?_)
  rcases h4 with h4 | h4
  · exact .inl (h4.symm.trans hk)
  · right
    have : some k = some w.heap.size := hk.symm.trans h4
    cases this; exact Nat.le_refl _
theorem ms_app_nil {t e sz bytes m c2 : Nat} {A2 : Option Addr} {x y : Operand} {news : List Value} [ht : EL P t e sz bytes] (ho : o.op = .call { callee := .builtin .append, args := #[x, y], argTypes := #[t, t] })
    (hx : opd E x = some (.slice none 0 0)) (hy : opd E y = some (.slice A2 m c2)) (hr : Rds H G A2 news) (hl : news.length = m * sz) (h1 : ∀ u ∈ news, u.oneCell' = true)
    (hb : m * bytes ≤ 140737488355328) (hm : m ≤ 140737488355328) :
    MStep P E H G o (fun _ => True) (fun y => .slice (y 0).A m (y 0).c) (fun y => .row e sz (y 0).A m (y 0).c news :: H) (fun _ => G) := fun N base w0 a w Q K he hw hK => by
  obtain ⟨A', c', w', hrun, h2, h3, h4⟩ := run_appP (ty := o.type) (w := w) ht.h (Own.nil w w.heap.size e sz) hl (hr base w0 w hw) h1 (by simpa using hb) (by simpa using hm) (Nat.le_refl _) (c2 := c2)
  have hr' : (execOp a.eval o).run P w = .ok (.value (.slice A' m c')) w' := by
    unfold execOp
    simp only [Nat.zero_add] at hrun
    simp only [ho, resolve, invoke, builtin, Sem.run_bind, Sem.run_pure, Result.andThen_ok, List.map_toArray, List.map_cons, List.map_nil, he.eval hx, he.eval hy, hrun]
  unfold Oper.wp; rw [hr']
  simp only [Nat.zero_add, List.nil_append] at h2
  exact hK (mkY A' c' w) _ trivial (hw.grow (Hn := [.row e sz A' m c' news]) (Gn := []) ⟨h3.os, h3.tape, h3.output, h3.size, fun j hj => h3.block j hj (by simp [blk])⟩ (NewOk.one h2))
/-- A string made of bytes. -/
theorem ps_str_of {x : Operand} {s t e : TypeId} {A : Option Addr} {n c : Nat} {l : List UInt8} {sz bytes : Nat} [hs' : EL P s e sz bytes] [he'' : IK P e .u8] [ht' : SS P t] (ho : o.op = .convert s t x) (hx : opd E x = some (.slice A n c)) (hr : Rds H G A (byteVs l)) (hn : n = l.length) : PStep P E H G o (.string ⟨l.toArray⟩) := fun N base w0 a w he hw => by
  have h := hr base w0 w hw
  have hs := hs'.h.1
  have he' := he''.h
  have ht := ht'.h
  subst hn
  have hrun : (convert s t (.slice A l.length c)).run P w = .ok (.string ⟨l.toArray⟩) w := by
    rcases A with _ | ad
    · have hl : l = [] := by
        rcases l with _ | ⟨u, l⟩
        · rfl
        · obtain ⟨ad, e, _⟩ := h 0 (.int .u8 u.toNat) (by simp [byteVs]); cases e
      subst hl
      rw [run_convert_bytes_nil w _ _ hs he' _ _ _ ht]
      rfl
    · exact run_convert_bytes_back w _ _ _ ad c l hs he' ht (fun j hj => by
        obtain ⟨ad', e, hc⟩ := h j (.int .u8 (l[j].toNat : Int)) (by simp [byteVs, List.getElem?_eq_getElem hj])
        cases e; exact hc)
  simp [execOp, ho, he.eval hx, hrun]
/-- A slice of a slice, a slice of a string. -/
theorem ps_slice {x : Operand} {lo hi : Option Operand} {t e sz bytes : TypeId} {A : Option Addr} {n c : Nat} {l h : Nat} [ht : EL P t e sz bytes] (ho : o.op = .slice t x lo hi none) (hx : opd E x = some (.slice A n c))
    (hlo : (match lo with | none => some l = some 0 | some y => ∃ k, opd E y = some (.int k (l : Int)))) (hhi : (match hi with | none => h = n | some y => ∃ k, opd E y = some (.int k (h : Int)))) (h1 : l ≤ h) (h2 : h ≤ c) :
    PStep P E H G o (.slice (if c = l then A else A.map (·.add (l * sz))) (h - l) (c - l)) := fun N base w0 a w he hw => by
  obtain ⟨hu, _, i, z, hi', hz, hs, _, _⟩ := ht.h
  have hb : ∀ (k : IntKind) (q m : Nat) (cd : BoundsCode), q ≤ m → (Instr.sliceBound (.int k (q : Int)) m cd).run P w = .ok q w := fun k q m cd hq => by
    have : (0 : Int) ≤ q ∧ (q : Int) ≤ m := by omega
    simp [Instr.sliceBound, asIntOf, this]
  cases lo with
  | none =>
    cases hlo
    cases hi with
    | none => subst hhi; simp [execOp, ho, he.eval hx, Instr.sliceAt, Instr.slice, Instr.sliceBounds, run_underlying hu, sizeOf, typeInfo, hi', hs]
    | some y =>
      obtain ⟨k, hy⟩ := hhi
      simp [execOp, ho, he.eval hx, he.eval hy, Instr.sliceAt, Instr.slice, Instr.sliceBounds, run_underlying hu, sizeOf, typeInfo, hi', hs, hb k h c _ h2]
  | some q =>
    obtain ⟨k', hq⟩ := hlo
    cases hi with
    | none => subst hhi; simp [execOp, ho, he.eval hx, he.eval hq, Instr.sliceAt, Instr.slice, Instr.sliceBounds, run_underlying hu, sizeOf, typeInfo, hi', hs, hb k' l h _ h1]
    | some y =>
      obtain ⟨k, hy⟩ := hhi
      simp [execOp, ho, he.eval hx, he.eval hy, he.eval hq, Instr.sliceAt, Instr.slice, Instr.sliceBounds, run_underlying hu, sizeOf, typeInfo, hi', hs, hb k h c _ h2, hb k' l h _ h1]
theorem ps_sslice {x : Operand} {lo hi : Option Operand} {t : TypeId} {s : ByteArray} {l h : Nat} [ht : SS P t] (ho : o.op = .slice t x lo hi none) (hx : opd E x = some (.string s))
    (hlo : (match lo with | none => some l = some 0 | some y => ∃ k, opd E y = some (.int k (l : Int)))) (hhi : (match hi with | none => h = s.size | some y => ∃ k, opd E y = some (.int k (h : Int)))) (h1 : l ≤ h) (h2 : h ≤ s.size) :
    PStep P E H G o (.string (s.extract l h)) := fun N base w0 a w he hw => by
  have hb : ∀ (k : IntKind) (q m : Nat) (cd : BoundsCode), q ≤ m → (Instr.sliceBound (.int k (q : Int)) m cd).run P w = .ok q w := fun k q m cd hq => by
    have : (0 : Int) ≤ q ∧ (q : Int) ≤ m := by omega
    simp [Instr.sliceBound, asIntOf, this]
  cases lo with
  | none =>
    cases hlo
    cases hi with
    | none => subst hhi; simp [execOp, ho, he.eval hx, Instr.sliceAt, Instr.slice, Instr.sliceBounds, run_underlying ht.h]
    | some y =>
      obtain ⟨k, hy⟩ := hhi
      simp [execOp, ho, he.eval hx, he.eval hy, Instr.sliceAt, Instr.slice, Instr.sliceBounds, run_underlying ht.h, hb k h _ _ h2]
  | some q =>
    obtain ⟨k', hq⟩ := hlo
    cases hi with
    | none => subst hhi; simp [execOp, ho, he.eval hx, he.eval hq, Instr.sliceAt, Instr.slice, Instr.sliceBounds, run_underlying ht.h, hb k' l _ _ h1]
    | some y =>
      obtain ⟨k, hy⟩ := hhi
      simp [execOp, ho, he.eval hx, he.eval hy, he.eval hq, Instr.sliceAt, Instr.slice, Instr.sliceBounds, run_underlying ht.h, hb k h _ _ h2, hb k' l h _ h1]
/-- Calls: the contract tells the ending, what is new and what it is known to be; old memory stays. -/
theorem ms_call {f : FuncId} {cl : Operand} {args : Array Operand} {tys : Array TypeId} {vs : List Value} {Hn : Ys → List HObj} {Gn : Ys → List World} [hf : FN P f] (ho : o.op = .call { callee := .value cl, args := args, argTypes := tys }) (hcl : opd E cl = some (.func (.func f) #[] #[])) (ha : args.toList.mapM (opd E) = some vs)
    (hc : ∀ base w0 w, WOk base w0 H G w → Calls P f vs.toArray w (fun e w' => ∃ y, e = .returned (v y) ∧ F y ∧ Below w.heap.size w w' ∧ NewOk w.heap.size (Hn y) (Gn y) w')) :
    MStep P E H G o F v (fun y => Hn y ++ H) (fun y => Gn y ++ G) := fun N base w0 a w Q K he hw hK => by
  obtain ⟨fn, c, h1, h2, h3⟩ := hf.h
  have hev : args.map a.eval = vs.toArray := by
    apply Array.ext'
    rw [Array.toList_map]
    generalize args.toList = l at ha
    clear hc ho
    induction l generalizing vs with
    | nil => simp at ha; subst ha; rfl
    | cons q l ih =>
      simp only [List.mapM_cons, Option.bind_eq_bind] at ha
      cases hq : opd E q with
      | none => simp [hq] at ha
      | some u =>
        simp only [hq, Option.bind_some] at ha
        cases hr : l.mapM (opd E) with
        | none => simp [hr] at ha
        | some r =>
          simp only [hr, Option.bind_some] at ha
          cases ha
          simp [he.eval hq, ih hr]
  have hr : (execOp a.eval o).run P w = .ok (.enter f vs.toArray) w := by
    have hfe : a.eval cl = .func (.func f) #[] #[] := he.eval hcl
    have hname : fn.name ≠ "runtime.NumGoroutine" := by simpa using h2
    simp [execOp, ho, resolve, hev, hfe, Deferred.ofValue, invoke, callFunc, h1, hname, h3]
  unfold Oper.wp; rw [hr]
  refine (hc base w0 w hw).mono fun e w' ⟨y, he', hF, hb, hn⟩ => ?_
  subst he'
  exact hK y w' hF (hw.grow hb hn)
theorem ms_ps {u : Value} (h : PStep P E H G o u) : MStep P E H G o (fun _ => True) (fun _ => u) (fun _ => H) (fun _ => G) := ms_of (v0 := undef) fun N base w0 a w he hw => ⟨mkY none 0 w, w, trivial, h N base w0 a w he hw, hw⟩
/-- A guarded operation that leaves the lists as they are. -/
theorem ok_m0g {u : Value} {p : Bool} (hw' : ∀ a, EnvOk N E a → Region.wanted o (yielded ops a.tmps) = p) {td : Nat} (hdt : o.dst = some td) (hd : Nat.blt td N = true) (hs : p = true → MStep P E H G o (fun _ => True) (fun _ => u) (fun _ => H) (fun _ => G))
    (h : Ok N base w0 ((td, (gv p u)) :: E) H G (wpList P ops Q rest)) : Ok N base w0 E H G (wpList P ops Q (o :: rest)) := fun a w he hw => by
  refine wpList_step fun K hK => ?_
  rw [hw' a he]
  cases p with
  | true =>
    rw [if_pos rfl]
    exact hs rfl N base w0 a w Q K he hw fun y w' _ hw2 => hK _ _ (h _ _ (he.put' hdt hd u) hw2)
  | false => rw [if_neg (by simp)]; exact hK _ _ (h _ _ (he.put' hdt hd undef) hw)
theorem ok_mg {u : Value} {j d : Nat} {want c : Bool} (hg : o.guard = some (j, want)) (hj : (ops[j]?).bind (·.dst) = some d) (hv : look E d = some (.bool c)) {td : Nat} (hdt : o.dst = some td) (hd : Nat.blt td N = true)
    {p : Bool} (hp : (c == want) = p) (hs : p = true → MStep P E H G o (fun _ => True) (fun _ => u) (fun _ => H) (fun _ => G))
    (h : Ok N base w0 ((td, (gv p u)) :: E) H G (wpList P ops Q rest)) : Ok N base w0 E H G (wpList P ops Q (o :: rest)) :=
  ok_m0g (fun a he => by rw [wanted_of (p := true) he hg hj hv, Bool.true_and, hp]) hdt hd hs h
theorem ok_mgg {u : Value} {j d : Nat} {want c q : Bool} (hg : o.guard = some (j, want)) (hj : (ops[j]?).bind (·.dst) = some d) (hv : look E d = some (gv q (.bool c))) {td : Nat} (hdt : o.dst = some td) (hd : Nat.blt td N = true)
    {p : Bool} (hp : (c == want) = p) (hs : q = true → p = true → (q && p) = true → MStep P E H G o (fun _ => True) (fun _ => u) (fun _ => H) (fun _ => G))
    (h : Ok N base w0 ((td, (gv (q && p) u)) :: E) H G (wpList P ops Q rest)) : Ok N base w0 E H G (wpList P ops Q (o :: rest)) :=
  ok_m0g (fun a he => by rw [wanted_of (p := q) he hg hj hv, hp]) hdt hd (fun hqp => by
    have := (Bool.and_eq_true _ _).mp hqp
    exact hs this.1 this.2 hqp) h
theorem ms_call0 {f : FuncId} {cl : Operand} {args : Array Operand} {tys : Array TypeId} {vs : List Value} {u : Value} [hf : FN P f] (ho : o.op = .call { callee := .value cl, args := args, argTypes := tys }) (hcl : opd E cl = some (.func (.func f) #[] #[])) (ha : args.toList.mapM (opd E) = some vs)
    (hc : ∀ base w0 w, WOk base w0 H G w → Calls P f vs.toArray w (fun e w' => e = .returned u ∧ Below w.heap.size w w')) :
    MStep P E H G o (fun _ => True) (fun _ => u) (fun _ => H) (fun _ => G) :=
  ms_call (Hn := fun _ => []) (Gn := fun _ => []) ho hcl ha fun base w0 w hw => (hc base w0 w hw).mono fun e w' ⟨h1, h2⟩ => ⟨mkY none 0 w, h1, trivial, h2, NewOk.nil _ _⟩
end
end Go.Proofs.Ytfcnimglcialbaa
