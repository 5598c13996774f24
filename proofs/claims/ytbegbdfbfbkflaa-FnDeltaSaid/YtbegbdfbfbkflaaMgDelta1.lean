/- Texts of this claim, one behind the other: Crc, Shs, Rv, Rds, DtP, ApE, DrE, Enc, Byt, EngF, Eng16, BkE, JnP. -/
import Derived.Test.YtbegbdfbfbkflaaKit
import Derived.Laws.BitsAllLaws
import Derived.Laws.Bits128
import Derived.Test.YtbegbdfbfbkflaaFix
import Derived.Test.YtbegbdfbfbkflaaTy
import Derived.Test.YtbegbdfbfbkflaaRvP
import Derived.Test.YtbegbdfbfbkflaaEng10
import Derived.Test.YtbegbdfbfbkflaaTab
import Derived.Test.YtbegbdfbfbkflaaApP
import Derived.Test.YtbegbdfbfbkflaaBtDelta
import Derived.Test.YtbegbdfbfbkflaaIns
import Derived.Test.YtbegbdfbfbkflaaEng11
import Derived.Test.YtbegbdfbfbkflaaMt
import Derived.Test.YtbegbdfbfbkflaaFgt0
import Derived.Test.YtbegbdfbfbkflaaEng9
import Derived.Test.YtbegbdfbfbkflaaEng5
import Derived.Test.YtbegbdfbfbkflaaEng13
/- The checksum: both programs compute one plain function. -/
namespace Go.Proofs.Ytbegbdfbfbkflaa
open Go.RowKit
set_option maxHeartbeats 1000000
set_option linter.unusedVariables false
set_option linter.unusedSimpArgs false
theorem i64_xor_nat (a b : Nat) (ha : a < 9223372036854775808) (hb : b < 9223372036854775808) : bits .xor .i64 (a : Int) (b : Int) = ((a ^^^ b : Nat) : Int) := by
  have hx : a ^^^ b < 2 ^ 63 := Nat.xor_lt_two_pow (by omega) (by omega)
  show IntKind.i64.wrap ((BitVec.ofInt 64 (a : Int) ^^^ BitVec.ofInt 64 (b : Int)).toNat : Int) = _
  rw [BitVec.toNat_xor, ofInt_u64 a (by omega), ofInt_u64 b (by omega), IntKind.wrap_i64]
  omega
theorem u32_and1 (y : Nat) (h : y < 4294967296) : bits .and .u32 (y : Int) 1 = (y : Int) % 2 := by
  have := u32_and_nat y 1 h (by omega)
  rw [Nat.and_one_is_mod] at this
  exact this
def crcBit (c : Nat) : Nat := if c % 2 = 1 then (c / 2) ^^^ 2197175160 else c / 2
def crcIt : Nat → Nat → Nat
  | 0, c => c
  | k + 1, c => crcBit (crcIt k c)
def crcTo (s : ByteArray) : Nat → Nat
  | 0 => 4294967295
  | k + 1 => crcIt 8 (crcTo s k ^^^ s[k]!.toNat)
theorem crcBit_lt {c : Nat} (h : c < 4294967296) : crcBit c < 4294967296 := by
  unfold crcBit
  split
  · exact Nat.xor_lt_two_pow (n := 32) (by omega) (by omega)
  · omega
theorem crcIt_lt (k : Nat) {c : Nat} (h : c < 4294967296) : crcIt k c < 4294967296 := by
  induction k with
  | zero => exact h
  | succ k ih => exact crcBit_lt ih
theorem xor_byte_lt {c : Nat} (h : c < 4294967296) (b : UInt8) : c ^^^ b.toNat < 4294967296 :=
  Nat.xor_lt_two_pow (n := 32) (by omega) (by have := b.toNat_lt; omega)
theorem crcTo_lt (s : ByteArray) (k : Nat) : crcTo s k < 4294967296 := by
  induction k with
  | zero => simp [crcTo]
  | succ k ih => exact crcIt_lt 8 (xor_byte_lt ih _)
def crcF (s : ByteArray) : Nat := 4294967295 - crcTo s s.size
theorem sCrc_any (s : ByteArray) (hs : s.size ≤ maxLen) (w : World) :
    Calls Try.prog 67 #[.string s] w fun e w' => e = .returned (.int .i64 (crcF s)) ∧ w = w' := by
  have hs2 := hs
  unfold maxLen at hs2
  go_enter Try.func67, Try.ntmps67
  go_wp2
  go_loop [3, 4] (fun c i => ∃ k : Nat, k ≤ s.size ∧ i = .int .i64 k ∧ c = .int .i64 (crcTo s k)) (fun _ i => s.size - (intOf i).toNat)
  case atStart => exact ⟨0, Nat.zero_le _, rfl, rfl⟩
  case round =>
    obtain ⟨k, hk, rfl, rfl⟩ := hrel
    have hc := crcTo_lt s k
    by_cases hlt : k < s.size
    · have hstep : crcTo s (k + 1) = crcIt 8 (crcTo s k ^^^ s[k].toNat) := by rw [crcTo, getElem!_pos s k hlt]
      have hx := xor_byte_lt hc s[k]
      have hb := s[k].toNat_lt
      generalize crcTo s k = c at hc hx hstep
      have X := i64_xor_nat c s[k].toNat (by omega) (by omega)
      go_wp2
      go_loop [3, 5] (fun c' j => ∃ m : Nat, m ≤ 8 ∧ j = .int .i64 m ∧ c' = .int .i64 (crcIt m (c ^^^ s[k].toNat))) (fun _ j => 8 - (intOf j).toNat)
      case atStart => exact ⟨0, by omega, rfl, rfl⟩
      case round =>
        obtain ⟨m, hm, rfl, rfl⟩ := hrel
        have hy := crcIt_lt m hx
        by_cases hm8 : m < 8
        · have hst : crcIt (m + 1) (c ^^^ s[k].toNat) = crcBit (crcIt m (c ^^^ s[k].toNat)) := rfl
          generalize crcIt m (c ^^^ s[k].toNat) = y at hy hst
          have Y := i64_xor_nat (y / 2) 2197175160 (by omega) (by omega)
          have hmi : (m : Int) < 8 := by omega
          have hyi : (0 : Int) ≤ (y : Int) := by omega

          by_cases ho : (y : Int) % 2 = 1
          · have hcb : crcBit y = (y / 2) ^^^ 2197175160 := by unfold crcBit; rw [if_pos (by omega)]
            go_wp2
            exact ⟨⟨m + 1, by omega, by go_num, by rw [hst, hcb, ← Y]; rfl⟩, by simp [intOf]; omega⟩
          · have hcb : crcBit y = y / 2 := by unfold crcBit; rw [if_neg (by omega)]
            go_wp2
            exact ⟨⟨m + 1, by omega, by go_num, by rw [hst, hcb]; rfl⟩, by simp [intOf]; omega⟩
        · obtain rfl : m = 8 := by omega
          go_wp2
          exact ⟨⟨k + 1, by omega, by go_num, by rw [hstep]⟩, by simp [intOf]; omega⟩
    · obtain rfl : k = s.size := by omega
      generalize hcc : crcTo s s.size = c at hc
      go_wp2
      go_ret
      exact ⟨ret_int (by unfold crcF; omega), rfl⟩
theorem iCrc_any (s : ByteArray) (hs : s.size ≤ maxLen) (w : World) :
    Calls Try.prog 80 #[.string s] w fun e w' => e = .returned (.int .i64 (crcF s)) ∧ w = w' := by
  have hs2 := hs
  unfold maxLen at hs2
  go_enter Try.func80, Try.ntmps80
  go_wp2
  go_loop [3, 4] (fun c i => ∃ k : Nat, k ≤ s.size ∧ i = .int .i64 k ∧ c = .int .u32 (crcTo s k)) (fun _ i => s.size - (intOf i).toNat)
  case atStart => exact ⟨0, Nat.zero_le _, rfl, rfl⟩
  case round =>
    obtain ⟨k, hk, rfl, rfl⟩ := hrel
    have hc := crcTo_lt s k
    by_cases hlt : k < s.size
    · have hstep : crcTo s (k + 1) = crcIt 8 (crcTo s k ^^^ s[k].toNat) := by rw [crcTo, getElem!_pos s k hlt]
      have hx := xor_byte_lt hc s[k]
      have hb := s[k].toNat_lt
      generalize crcTo s k = c at hc hx hstep
      have X := u32_xor_nat c s[k].toNat (by omega) (by omega)
      go_wp2
      go_loop [3, 18] (fun c' j => ∃ m : Nat, m ≤ 8 ∧ j = .int .i64 m ∧ c' = .int .u32 (crcIt m (c ^^^ s[k].toNat))) (fun _ j => 8 - (intOf j).toNat)
      case atStart => exact ⟨0, by omega, rfl, rfl⟩
      case round =>
        obtain ⟨m, hm, rfl, rfl⟩ := hrel
        have hy := crcIt_lt m hx
        by_cases hm8 : m < 8
        · have hst : crcIt (m + 1) (c ^^^ s[k].toNat) = crcBit (crcIt m (c ^^^ s[k].toNat)) := rfl
          generalize crcIt m (c ^^^ s[k].toNat) = y at hy hst
          have Y := u32_xor_nat (y / 2) 2197175160 (by omega) (by omega)
          have hmi : (m : Int) < 8 := by omega
          have hyi : (0 : Int) ≤ (y : Int) := by omega
          have hone : bits .and .u32 (y : Int) 1 = (y : Int) % 2 := u32_and1 y hy
          by_cases ho : (y : Int) % 2 = 1
          · have hcb : crcBit y = (y / 2) ^^^ 2197175160 := by unfold crcBit; rw [if_pos (by omega)]
            go_wp2
            exact ⟨⟨m + 1, by omega, by go_num, by rw [hst, hcb, ← Y]; rfl⟩, by simp [intOf]; omega⟩
          · have hcb : crcBit y = y / 2 := by unfold crcBit; rw [if_neg (by omega)]
            go_wp2
            exact ⟨⟨m + 1, by omega, by go_num, by rw [hst, hcb]; rfl⟩, by simp [intOf]; omega⟩
        · obtain rfl : m = 8 := by omega
          go_wp2
          exact ⟨⟨k + 1, by omega, by go_num, by rw [hstep]⟩, by simp [intOf]; omega⟩
    · obtain rfl : k = s.size := by omega
      generalize hcc : crcTo s s.size = c at hc
      go_wp2
      go_ret
      exact ⟨ret_int (by unfold crcF; omega), rfl⟩
end Go.Proofs.Ytbegbdfbfbkflaa
/- ShowSlot of both programs: one plain string. -/
namespace Go.Proofs.Ytbegbdfbfbkflaa
open Go.RowKit
set_option maxHeartbeats 1000000
set_option linter.unusedVariables false
set_option linter.unusedSimpArgs false
def vS (n : Nat) : ByteArray := ⟨(varL n).toArray⟩
def fS (n : Nat) : ByteArray := ⟨(fixL 4 n).toArray⟩
def pieceS (r : ByteArray) : ByteArray := vS r.size ++ r
def sumS (t : ByteArray) : ByteArray := fS (crcF t) ++ t
theorem vS_size (n : Nat) : (vS n).size ≤ 10 := by
  show (varL n).toArray.size ≤ 10
  have := varF_len 9 n
  simpa [varL] using this
theorem fS_size (n : Nat) : (fS n).size = 4 := by
  show (fixL 4 n).toArray.size = 4
  simp [fixL_len]
theorem crcF_lt (t : ByteArray) : crcF t < 4294967296 := by unfold crcF; omega
theorem pieceS_size (r : ByteArray) : (pieceS r).size ≤ r.size + 10 := by
  have := vS_size r.size
  unfold pieceS; rw [ByteArray.size_append]; omega
theorem xs_Var_v (n : Nat) (hn : n ≤ 562949953421311) (w : World) :
    Calls Try.prog 140 #[.int .i64 n] w fun e w' => e = .returned (.string (vS n)) ∧ Below w.heap.size w w' := (by first | exact sVar_any n hn w | exact iVar_any n hn w)
theorem xi_Var_v (n : Nat) (hn : n ≤ 562949953421311) (w : World) :
    Calls Try.prog 121 #[.int .i64 n] w fun e w' => e = .returned (.string (vS n)) ∧ Below w.heap.size w w' := (by first | exact sVar_any n hn w | exact iVar_any n hn w)
theorem sFix_v (n : Nat) (hn : n < 4294967296) (w : World) :
    Calls Try.prog 66 #[.int .i64 n, .int .i64 4] w fun e w' => e = .returned (.string (fS n)) ∧ Below w.heap.size w w' := sFixed4_any n hn w
theorem iFix_v (n : Nat) (hn : n < 4294967296) (w : World) :
    Calls Try.prog 148 #[.int .i64 n, .int .i64 4] w fun e w' => e = .returned (.string (fS n)) ∧ Below w.heap.size w w' := iFixed4_any n hn w
theorem sPiece_any (s : ByteArray) (hs : s.size ≤ 1048576) (w : World) :
    Calls Try.prog 141 #[.string s] w fun e w' => e = .returned (.string (pieceS s)) ∧ Below w.heap.size w w' := by
  have hz := vS_size s.size
  have hq : ¬ 9223372036854775807 < (vS s.size).size + s.size := by omega
  go_enter Try.func141, Try.ntmps141
  go_wp2_with fail
  refine (xs_Var_v s.size (by omega) _).mono ?_
  rintro e w' ⟨rfl, hb⟩
  go_wp2
  go_ret
  exact ⟨rfl, hb⟩
theorem iPiece_any (s : ByteArray) (hs : s.size ≤ 1048576) (w : World) :
    Calls Try.prog 122 #[.string s] w fun e w' => e = .returned (.string (pieceS s)) ∧ Below w.heap.size w w' := by
  have hz := vS_size s.size
  have hq : ¬ 9223372036854775807 < (vS s.size).size + s.size := by omega
  go_enter Try.func122, Try.ntmps122
  go_wp2_with fail
  refine (xi_Var_v s.size (by omega) _).mono ?_
  rintro e w' ⟨rfl, hb⟩
  go_wp2
  go_ret
  exact ⟨rfl, hb⟩
def showS (q : Int) (r : ByteArray) : ByteArray := if inR q 1 1000000 = true ∧ r.size ≤ 40 then sumS (vS q.toNat ++ pieceS r) else ⟨#[]⟩
end Go.Proofs.Ytbegbdfbfbkflaa
/- ReadVar of both programs. -/
namespace Go.Proofs.Ytbegbdfbfbkflaa
open Go.RowKit
set_option maxHeartbeats 4000000
set_option maxRecDepth 20000
set_option linter.unusedVariables false
set_option linter.unusedSimpArgs false
/-- A string's bytes. -/
abbrev bl (s : ByteArray) : List UInt8 := s.data.toList
theorem bl_len (s : ByteArray) : (bl s).length = s.size := Array.length_toList
theorem bl_ext {s t : ByteArray} (h : bl s = bl t) : s = t := by
  cases s; cases t; simp only [bl] at h; congr; exact Array.toList_inj.1 h
theorem bl_mk (l : List UInt8) : bl ⟨l.toArray⟩ = l := rfl
theorem bl_extract (s : ByteArray) (i k : Nat) : bl (s.extract i k) = ((bl s).take k).drop i := by
  simp [bl, ByteArray.data_extract, List.extract_eq_take_drop, List.drop_take]
theorem bl_app (s t : ByteArray) : bl (s ++ t) = bl s ++ bl t := by simp [bl]
def bt (s : ByteArray) (i : Nat) : Nat := ((bl s).getD i 0).toNat
theorem bt_lt (s : ByteArray) (i : Nat) : bt s i < 256 := UInt8.toNat_lt _
theorem bt_get {s : ByteArray} {i : Nat} (h : i < s.size) : s[i]! = (bl s).getD i 0 := by
  rw [getElem!_pos s i h]
  have h2 : i < (bl s).length := by rw [bl_len]; exact h
  rw [List.getD_eq_getElem?_getD, List.getElem?_eq_getElem h2]
  simp [bl]; rfl
theorem bl_cons {s : ByteArray} {i : Nat} (h : i < s.size) : (bl s).drop i = (bl s).getD i 0 :: (bl s).drop (i + 1) := by
  have h2 : i < (bl s).length := by rw [bl_len]; exact h
  rw [List.drop_eq_getElem_cons h2, List.getD_eq_getElem?_getD, List.getElem?_eq_getElem h2]; rfl
section
variable {P : Program} {E : Env} {H : List HObj} {G : List World} {o : Oper}
theorem ps_sidxE {x y : Operand} {t : TypeId} {s : ByteArray} {k : IntKind} {z : Int} (i : Nat) [ht : SS P t] (ho : o.op = .index t x y) (hx : opd E x = some (.string s)) (hy : opd E y = some (.int k z)) (hz : z = (i : Int)) (h : i < s.size) : PStep P E H G o (.int .u8 (bt s i : Int)) := by
  subst hz
  have := ps_sidx (P := P) (E := E) (H := H) (G := G) ho hx hy (by omega)
  rw [Int.toNat_natCast, bt_get h] at this
  exact this
theorem ps_and127 {x y : Operand} {t t' : TypeId} {n : Nat} (ho : o.op = .binOp .and t x y t') (hx : opd E x = some (.int .u8 (n : Int))) (hy : opd E y = some (.int .u8 127)) (hn : n < 256) : PStep P E H G o (.int .u8 ((n % 128 : Nat) : Int)) := by
  refine ps_int ho hx hy ?_
  have h : ∀ n : Nat, n < 256 → IntKind.u8.wrap ((BitVec.ofInt IntKind.u8.bits (n : Int) &&& BitVec.ofInt IntKind.u8.bits 127).toNat : Int) = ((n % 128 : Nat) : Int) := by decide +kernel
  simp only [intOp]
  rw [h n hn]
theorem pow7 (i : Nat) : (128 : Nat) ^ i = 2 ^ (7 * i) := by rw [Nat.pow_mul]
theorem ps_shl7 {x y : Operand} {t t' : TypeId} {n i : Nat} {z : Int} {k' : IntKind} (ho : o.op = .binOp .shl t x y t') (hx : opd E x = some (.int .i64 (n : Int))) (hy : opd E y = some (.int k' z)) (hz : z = ((7 * i : Nat) : Int)) (hi : i ≤ 6) (hn : n < 128) : PStep P E H G o (.int .i64 ((n * 128 ^ i : Nat) : Int)) := by
  subst hz
  have h0 := ps_shl (P := P) (E := E) (H := H) (G := G) ho hx hy (by simp only [IntKind.bits]; omega)
  have h1 : n * 128 ^ i ≤ 127 * 128 ^ i := Nat.mul_le_mul_right _ (by omega)
  have h2 := pow_le i (by omega)
  have e : (n : Int) * 2 ^ ((7 * i : Nat) : Int).toNat = ((n * 128 ^ i : Nat) : Int) := by
    rw [Int.toNat_natCast, pow7]; push_cast; rfl
  have h3 : n * 128 ^ i ≤ 127 * 562949953421312 := Nat.le_trans h1 (Nat.mul_le_mul_left _ h2)
  rw [e, IntWalk.i64_in _ (by omega)] at h0
  exact h0
theorem ps_orS {x y : Operand} {t t' : TypeId} {m n i : Nat} (ho : o.op = .binOp .or t x y t') (hx : opd E x = some (.int .i64 (m : Int))) (hy : opd E y = some (.int .i64 ((n * 128 ^ i : Nat) : Int))) (hm : m < 128 ^ i) (hi : i ≤ 6) (hn : n < 128) : PStep P E H G o (.int .i64 ((m + n * 128 ^ i : Nat) : Int)) := by
  refine ps_int ho hx hy ?_
  have h1 : n * 128 ^ i ≤ 127 * 128 ^ i := Nat.mul_le_mul_right _ (by omega)
  have h2 := pow_le i (by omega)
  have h3 : n * 128 ^ i ≤ 127 * 562949953421312 := Nat.le_trans h1 (Nat.mul_le_mul_left _ h2)
  have e : m ||| n * 128 ^ i = m + n * 128 ^ i := by
    have := Nat.two_pow_add_eq_or_of_lt (i := 7 * i) (b := m) (by rw [← pow7]; exact hm) n
    rw [← pow7, Nat.mul_comm] at this
    rw [Nat.or_comm, ← this, Nat.add_comm]
  simp only [intOp]
  congr 2
  show IntKind.i64.wrap ((BitVec.ofInt 64 (m : Int) ||| BitVec.ofInt 64 ((n * 128 ^ i : Nat) : Int)).toNat : Int) = _
  rw [BitVec.toNat_or, ofInt_u64 m (by omega), ofInt_u64 (n * 128 ^ i) (by omega), e, IntWalk.i64_in _ (by omega)]
end
theorem sumL_snoc : ∀ (l : List UInt8) (b : UInt8), sumL (l ++ [b]) = sumL l + b.toNat % 128 * 128 ^ l.length
  | [], b => by simp [sumL]
  | a :: l, b => by
    have ih := sumL_snoc l b
    simp only [List.cons_append, sumL, ih, List.length_cons, Nat.pow_succ, Nat.add_mul, ← Nat.mul_assoc]
    omega
theorem take_snoc {s : ByteArray} {i : Nat} (h : i < s.size) : (bl s).take (i + 1) = (bl s).take i ++ [(bl s).getD i 0] := by
  have h2 : i < (bl s).length := by rw [bl_len]; exact h
  rw [List.take_add_one, List.getElem?_eq_getElem h2, List.getD_eq_getElem?_getD, List.getElem?_eq_getElem h2]; rfl
/-- What is read: the number and how many bytes; both 0 where none is. -/
def rvN (l : List UInt8) : Nat × Nat := (rv l).getD (0, 0)
/-- The state of the reading behind i bytes that are all 128 or more. -/
structure RvI (s : ByteArray) (i : Nat) : Prop where
  le : i ≤ 7
  ls : i ≤ s.size
  eq : rv (bl s) = (rvT (decide (0 < i)) (7 - i) ((bl s).drop i)).map (fun p => (p.1 * 128 ^ i + sumL ((bl s).take i), p.2 + i))
theorem RvI.zero (s : ByteArray) : RvI s 0 := ⟨by omega, by omega, by
  simp only [rv, Nat.lt_irrefl, decide_false, Nat.sub_zero, List.drop_zero, List.take_zero, sumL]
  cases rvT false 7 (bl s) <;> simp⟩
theorem RvI.step {s : ByteArray} {i : Nat} (h : RvI s i) (h7 : i < 7) (hs : i < s.size) (hb : 128 ≤ bt s i) : RvI s (i + 1) := by
  refine ⟨by omega, by omega, ?_⟩
  rw [h.eq, bl_cons hs, show 7 - i = (7 - (i + 1)) + 1 by omega, rvT]
  have hb' : 128 ≤ ((bl s).getD i 0).toNat := hb
  rw [if_pos hb', take_snoc hs, sumL_snoc]
  have hl : ((bl s).take i).length = i := by rw [List.length_take, bl_len]; omega
  rw [hl, show decide (0 < i + 1) = true by simp]
  cases rvT true (7 - (i + 1)) ((bl s).drop (i + 1)) with
  | none => rfl
  | some p =>
    simp only [Option.map_some, Option.some.injEq, Prod.mk.injEq]
    refine ⟨?_, by omega⟩
    rw [Nat.pow_succ, Nat.add_mul, Nat.mul_assoc, Nat.mul_comm 128 (128 ^ i)]
    omega
theorem RvI.none {s : ByteArray} {i : Nat} (h : RvI s i) (hx : i = 7 ∨ i = s.size) : rvN (bl s) = (0, 0) := by
  unfold rvN
  rw [h.eq]
  have : rvT (decide (0 < i)) (7 - i) ((bl s).drop i) = Option.none := by
    rcases hx with rfl | rfl
    · rfl
    · rw [List.drop_of_length_le (by rw [bl_len]; omega)]
      cases 7 - s.size <;> rfl
  rw [this]; rfl
theorem RvI.bad {s : ByteArray} {i : Nat} (h : RvI s i) (h7 : i < 7) (hs : i < s.size) (hb : bt s i = 0) (h0 : 0 < i) : rvN (bl s) = (0, 0) := by
  unfold rvN
  have hb' : ((bl s).getD i 0).toNat = 0 := hb
  rw [h.eq, bl_cons hs, show 7 - i = (7 - (i + 1)) + 1 by omega, rvT, if_neg (by omega), if_pos ⟨by simp [h0], hb'⟩]; rfl
theorem RvI.good {s : ByteArray} {i : Nat} (h : RvI s i) (h7 : i < 7) (hs : i < s.size) (hb : bt s i < 128) (h0 : ¬ (bt s i = 0 ∧ 0 < i)) : rvN (bl s) = (sumL ((bl s).take i) + bt s i * 128 ^ i, i + 1) := by
  unfold rvN
  have hb' : ((bl s).getD i 0).toNat < 128 := hb
  have h0' : ¬ (((bl s).getD i 0).toNat = 0 ∧ 0 < i) := h0
  rw [h.eq, bl_cons hs, show 7 - i = (7 - (i + 1)) + 1 by omega, rvT, if_neg (by omega), if_neg (by simp only [decide_eq_true_eq]; omega)]
  simp only [Option.map_some, Option.getD_some, bt]
  congr 1 <;> omega
theorem sEq_t {a b : ByteArray} (h : sEq a b = true) : a = b := tl_inj (by simpa [sEq] using h)
theorem sEq_f {a b : ByteArray} (h : sEq a b = false) : a ≠ b := fun e => by subst e; simp [sEq] at h
attribute [local irreducible] Calls
theorem i_ReadVar_c (s : ByteArray) (hs : s.size ≤ 4194304) (w : World) :
    Calls Try.prog 181 #[.string s] w fun e w' => e = .returned (.tuple #[.int .i64 (rvN (bl s)).1, .int .i64 (rvN (bl s)).2]) ∧ Below w.heap.size w w' := by
  refine ok_enter 42 Try.func181 rfl rfl rfl ?_
  repeat' (first
    | refine ok_seq ?_
    | refine ok_then ?_
    | refine ok_block ?_
    | (refine ok_region (i := 0) ?_; refine ok_p rfl rfl rfl (by exact ps_assign rfl rfl) ?_; refine ok_p rfl rfl rfl (by exact ps_assign rfl rfl) ?_; refine ok_nil ?_; refine ok_env [(0, _)] ⟨rfl, trivial⟩ ?_)
    | (refine ok_region (i := 1) ?_; refine ok_p rfl rfl rfl (by exact ps_assign rfl rfl) ?_; refine ok_nil ?_; refine ok_env [(0, _), (4, _)] ⟨rfl, rfl, trivial⟩ ?_)
    | (refine ok_region (i := 2) ?_; refine ok_p rfl rfl rfl (by exact ps_assign rfl rfl) ?_; refine ok_nil ?_; refine ok_env [(0, _), (4, _), (5, _)] ⟨rfl, rfl, rfl, trivial⟩ ?_))
  refine ok_loop (ι := { i : Nat // RvI s i }) (fun i => 7 - i.1) (fun i => ([(0, .string s), (4, .int .i64 (sumL ((bl s).take i.1))), (5, .int .i64 i.1)], _, _)) ⟨0, RvI.zero s⟩ (fun a w he hw => ⟨⟨0, RvI.zero s⟩, he.sub ⟨rfl, rfl, rfl, trivial⟩, hw⟩) ?_
  rintro ⟨i, hi⟩
  simp only
  have l1 := hi.le
  have l2 := hi.ls
  have l3 := bt_lt s i
  have l4 : sumL ((bl s).take i) < 128 ^ i := by
    have := sumL_lt ((bl s).take i)
    rwa [show ((bl s).take i).length = i by rw [List.length_take, bl_len]; omega] at this
  repeat' (first
    | refine ok_seq ?_
    | refine ok_then ?_
    | refine ok_then_ret ?_
    | refine ok_then_exit ?_
    | refine ok_block ?_
    | refine ok_in_ret ?_
    | refine ok_in_exit ?_
    | (refine ok_cond rfl (fun hc => ?_) (fun hc => ?_) <;> (have hd := hc; (try simp only [decide_eq_true_eq, decide_eq_false_iff_not, Bool.or_eq_true, Bool.or_eq_false_iff, Bool.and_eq_true, Bool.and_eq_false_iff, Bool.not_eq_true', Bool.not_eq_false', bne_iff_ne, beq_iff_eq, bne_eq_false_iff_eq, beq_eq_false_iff_ne, ne_eq, Bool.not_true, Bool.not_false, Bool.false_eq_true, Bool.true_eq_false, inB_true, inB_false] at hd)))
    | refine ok_ret ?_
    | refine ok_exit ?_
    | refine ok_skip ?_
    | (refine ok_region (i := 3) ?_; refine ok_p rfl rfl rfl (by exact ps_move rfl rfl) ?_; refine ok_p rfl rfl rfl (by exact ps_int rfl rfl rfl rfl) ?_; refine ok_p rfl rfl rfl (by exact ps_move rfl rfl) ?_; refine ok_pg rfl rfl rfl rfl rfl (gT _) (fun hp => by (have hpd := hp; (try simp only [decide_eq_true_eq, decide_eq_false_iff_not, Bool.or_eq_true, Bool.or_eq_false_iff, Bool.and_eq_true, Bool.and_eq_false_iff, Bool.not_eq_true', Bool.not_eq_false', bne_iff_ne, beq_iff_eq, bne_eq_false_iff_eq, beq_eq_false_iff_ne, ne_eq, Bool.not_true, Bool.not_false, Bool.false_eq_true, Bool.true_eq_false, inB_true, inB_false] at hpd); exact ps_move rfl (by exact rfl))) ?_; refine ok_pg rfl rfl rfl rfl rfl (gT _) (fun hp => by (have hpd := hp; (try simp only [decide_eq_true_eq, decide_eq_false_iff_not, Bool.or_eq_true, Bool.or_eq_false_iff, Bool.and_eq_true, Bool.and_eq_false_iff, Bool.not_eq_true', Bool.not_eq_false', bne_iff_ne, beq_iff_eq, bne_eq_false_iff_eq, beq_eq_false_iff_ne, ne_eq, Bool.not_true, Bool.not_false, Bool.false_eq_true, Bool.true_eq_false, inB_true, inB_false] at hpd); exact ps_move rfl (by exact rfl))) ?_; refine ok_pg rfl rfl rfl rfl rfl (gT _) (fun hp => by (have hpd := hp; (try simp only [decide_eq_true_eq, decide_eq_false_iff_not, Bool.or_eq_true, Bool.or_eq_false_iff, Bool.and_eq_true, Bool.and_eq_false_iff, Bool.not_eq_true', Bool.not_eq_false', bne_iff_ne, beq_iff_eq, bne_eq_false_iff_eq, beq_eq_false_iff_ne, ne_eq, Bool.not_true, Bool.not_false, Bool.false_eq_true, Bool.true_eq_false, inB_true, inB_false] at hpd); exact ps_slen rfl (by (refine og rfl ?_; assumption)))) ?_; refine ok_pg rfl rfl rfl rfl rfl (gT _) (fun hp => by (have hpd := hp; (try simp only [decide_eq_true_eq, decide_eq_false_iff_not, Bool.or_eq_true, Bool.or_eq_false_iff, Bool.and_eq_true, Bool.and_eq_false_iff, Bool.not_eq_true', Bool.not_eq_false', bne_iff_ne, beq_iff_eq, bne_eq_false_iff_eq, beq_eq_false_iff_ne, ne_eq, Bool.not_true, Bool.not_false, Bool.false_eq_true, Bool.true_eq_false, inB_true, inB_false] at hpd); exact ps_int rfl (by (refine og rfl ?_; assumption)) (by (refine og rfl ?_; assumption)) rfl)) ?_; refine ok_p rfl rfl rfl (by exact ps_and rfl rfl rfl) ?_; refine ok_nil ?_; refine ok_env [(0, _), (4, _), (5, _), (13, _)] ⟨rfl, rfl, rfl, rfl, trivial⟩ ?_)
    | (refine ok_region (i := 4) ?_; refine ok_p rfl rfl rfl (by exact ps_move rfl rfl) ?_; refine ok_p rfl rfl rfl (by exact ps_add rfl rfl rfl (by omega)) ?_; refine ok_p rfl rfl rfl (by exact ps_assign rfl rfl) ?_; refine ok_nil ?_; refine ok_env [(0, _), (4, _), (5, _)] ⟨rfl, rfl, rfl, trivial⟩ ?_)
    | (refine ok_region (i := 5) ?_; refine ok_p rfl rfl rfl (by exact ps_move rfl rfl) ?_; refine ok_p rfl rfl rfl (by exact ps_move rfl rfl) ?_; refine ok_p rfl rfl rfl (by exact ps_move rfl rfl) ?_; refine ok_p rfl rfl rfl (by exact ps_sidxE i rfl rfl rfl rfl (by omega)) ?_; refine ok_p rfl rfl rfl (by exact ps_and127 rfl rfl rfl l3) ?_; refine ok_p rfl rfl rfl (by exact ps_conv_id rfl rfl (IntWalk.i64_in _ (by omega))) ?_; refine ok_p rfl rfl rfl (by exact ps_move rfl rfl) ?_; refine ok_p rfl rfl rfl (by exact ps_mul rfl rfl rfl (by omega)) ?_; refine ok_p rfl rfl rfl (by exact ps_conv_id rfl rfl (IntWalk.u64_in _ (by omega))) ?_; refine ok_p rfl rfl rfl (by exact ps_shl7 (i := i) rfl rfl rfl (by push_cast; rfl) (by omega) (by omega)) ?_; refine ok_p rfl rfl rfl (by exact ps_orS rfl rfl rfl l4 (by omega) (by omega)) ?_; refine ok_p rfl rfl rfl (by exact ps_assign rfl rfl) ?_; refine ok_nil ?_; refine ok_env [(0, _), (4, _), (5, _)] ⟨rfl, rfl, rfl, trivial⟩ ?_)
    | (refine ok_region (i := 6) ?_; refine ok_p rfl rfl rfl (by exact ps_move rfl rfl) ?_; refine ok_p rfl rfl rfl (by exact ps_move rfl rfl) ?_; refine ok_p rfl rfl rfl (by exact ps_sidxE i rfl rfl rfl rfl (by omega)) ?_; refine ok_p rfl rfl rfl (by exact ps_int rfl rfl rfl rfl) ?_; refine ok_nil ?_; refine ok_env [(0, _), (4, _), (5, _), (30, _)] ⟨rfl, rfl, rfl, rfl, trivial⟩ ?_)
    | (refine ok_region (i := 7) ?_; refine ok_p rfl rfl rfl (by exact ps_move rfl rfl) ?_; refine ok_p rfl rfl rfl (by exact ps_move rfl rfl) ?_; refine ok_p rfl rfl rfl (by exact ps_sidxE i rfl rfl rfl rfl (by omega)) ?_; refine ok_p rfl rfl rfl (by exact ps_int rfl rfl rfl rfl) ?_; refine ok_p rfl rfl rfl (by exact ps_move rfl rfl) ?_; refine ok_pg rfl rfl rfl rfl rfl (gT _) (fun hp => by (have hpd := hp; (try simp only [decide_eq_true_eq, decide_eq_false_iff_not, Bool.or_eq_true, Bool.or_eq_false_iff, Bool.and_eq_true, Bool.and_eq_false_iff, Bool.not_eq_true', Bool.not_eq_false', bne_iff_ne, beq_iff_eq, bne_eq_false_iff_eq, beq_eq_false_iff_ne, ne_eq, Bool.not_true, Bool.not_false, Bool.false_eq_true, Bool.true_eq_false, inB_true, inB_false] at hpd); exact ps_move rfl (by exact rfl))) ?_; refine ok_pg rfl rfl rfl rfl rfl (gT _) (fun hp => by (have hpd := hp; (try simp only [decide_eq_true_eq, decide_eq_false_iff_not, Bool.or_eq_true, Bool.or_eq_false_iff, Bool.and_eq_true, Bool.and_eq_false_iff, Bool.not_eq_true', Bool.not_eq_false', bne_iff_ne, beq_iff_eq, bne_eq_false_iff_eq, beq_eq_false_iff_ne, ne_eq, Bool.not_true, Bool.not_false, Bool.false_eq_true, Bool.true_eq_false, inB_true, inB_false] at hpd); exact ps_int rfl (by (refine og rfl ?_; assumption)) (by exact rfl) rfl)) ?_; refine ok_p rfl rfl rfl (by exact ps_and rfl rfl rfl) ?_; refine ok_nil ?_; refine ok_env [(4, _), (5, _), (38, _)] ⟨rfl, rfl, rfl, trivial⟩ ?_)
    | (refine ok_region (i := 8) ?_; refine ok_p rfl rfl rfl (by exact ps_assign rfl rfl) ?_; refine ok_p rfl rfl rfl (by exact ps_assign rfl rfl) ?_; refine ok_nil ?_; refine ok_env [(2, _), (3, _)] ⟨rfl, rfl, trivial⟩ ?_)
    | (refine ok_region (i := 9) ?_; refine ok_p rfl rfl rfl (by exact ps_move rfl rfl) ?_; refine ok_p rfl rfl rfl (by exact ps_move rfl rfl) ?_; refine ok_p rfl rfl rfl (by exact ps_add rfl rfl rfl (by omega)) ?_; refine ok_p rfl rfl rfl (by exact ps_assign rfl rfl) ?_; refine ok_p rfl rfl rfl (by exact ps_assign rfl rfl) ?_; refine ok_nil ?_; refine ok_env [(2, _), (3, _)] ⟨rfl, rfl, trivial⟩ ?_)
    | (refine ok_region (i := 10) ?_; refine ok_p rfl rfl rfl (by exact ps_assign rfl rfl) ?_; refine ok_p rfl rfl rfl (by exact ps_assign rfl rfl) ?_; refine ok_nil ?_; refine ok_env [(2, _), (3, _)] ⟨rfl, rfl, trivial⟩ ?_))
  · have st := hi.step (by omega) (by omega) (by omega)
    refine fun a w' he hw => ⟨⟨i + 1, st⟩, by simp only; omega, he.sub ⟨rfl, ?_, rfl, trivial⟩, hw⟩
    have hb : ((bl s).getD i 0).toNat % 128 = bt s i % 128 := rfl
    have hl : ((bl s).take i).length = i := by rw [List.length_take, bl_len]; omega
    simp only [take_snoc (show i < s.size by omega), sumL_snoc, hb, hl]; rfl
  · have e := hi.bad (by omega) (by omega) (by omega) (by omega)
    refine ok_endL (vs := [_, _]) rfl ⟨rfl, rfl, trivial⟩ (fun w' hw => ⟨?_, hw.below⟩)
    rw [e]; rfl
  · have e := hi.good (by omega) (by omega) (by omega) (by omega)
    refine ok_endL (vs := [_, _]) rfl ⟨rfl, rfl, trivial⟩ (fun w' hw => ⟨?_, hw.below⟩)
    rw [e, show bt s i % 128 = bt s i by omega]; rfl
  · have e := hi.none (by omega)
    refine ok_endL (vs := [_, _]) rfl ⟨rfl, rfl, trivial⟩ (fun w' hw => ⟨?_, hw.below⟩)
    rw [e]; rfl
theorem str_eq (n k : Nat) (s : ByteArray) : (vS n = s.extract 0 k) ↔ varL n = (bl s).take k := by
  constructor
  · intro h
    have := congrArg bl h
    rw [bl_extract, List.drop_zero] at this
    exact this
  · intro h
    apply bl_ext
    rw [bl_extract, List.drop_zero]
    exact h
theorem sumL_step {s : ByteArray} {j k : Nat} (hj : j < k) (hk : k ≤ s.size) : sumL (((bl s).take k).drop j) = sumL (((bl s).take k).drop (j + 1)) * 128 + bt s j % 128 := by
  have hl : ((bl s).take k).length = k := by rw [List.length_take, bl_len]; omega
  rw [List.drop_eq_getElem_cons (by omega), sumL]
  congr 2
  rw [List.getElem_take]
  unfold bt
  rw [List.getD_eq_getElem?_getD, List.getElem?_eq_getElem (by rw [bl_len]; omega)]; rfl
theorem rvS_no {l : List UInt8} {f k : Nat} (h : l.length < k) : rvS l f k = none := by
  cases f with
  | zero => rfl
  | succ f => unfold rvS; rw [if_neg (by omega)]
theorem s_ReadVar_c (s : ByteArray) (hs : s.size ≤ 4194304) (w : World) :
    Calls Try.prog 183 #[.string s] w fun e w' => e = .returned (.tuple #[.int .i64 (rvN (bl s)).1, .int .i64 (rvN (bl s)).2]) ∧ Below w.heap.size w w' := by
  have l0 := bl_len s
  refine ok_enter 39 Try.func183 rfl rfl rfl ?_
  repeat' (first
    | refine ok_seq ?_
    | refine ok_then ?_
    | refine ok_block ?_
    | (refine ok_region (i := 0) ?_; refine ok_p rfl rfl rfl (by exact ps_assign rfl rfl) ?_; refine ok_p rfl rfl rfl (by exact ps_assign rfl rfl) ?_; refine ok_nil ?_; refine ok_env [(0, _)] ⟨rfl, trivial⟩ ?_)
    | (refine ok_region (i := 1) ?_; refine ok_p rfl rfl rfl (by exact ps_assign rfl rfl) ?_; refine ok_nil ?_; refine ok_env [(0, _), (4, _)] ⟨rfl, rfl, trivial⟩ ?_))
  refine ok_loop (ι := { k : Nat // 1 ≤ k ∧ k ≤ 8 ∧ rvS (bl s) (8 - k) k = rv (bl s) }) (fun k => 8 - k.1) (fun k => ([(0, .string s), (4, .int .i64 k.1)], _, _)) ⟨1, by omega, by omega, rvS_rv _⟩ (fun a w he hw => ⟨⟨1, by omega, by omega, rvS_rv _⟩, he.sub ⟨rfl, rfl, trivial⟩, hw⟩) ?_
  rintro ⟨k, hk1, hk8, hr⟩
  simp only at hk1 hk8 hr ⊢
  have HR := Lib.hid hr; clear hr
  repeat' (first
    | refine ok_seq ?_
    | refine ok_then ?_
    | refine ok_block ?_
    | (refine ok_cond rfl (fun hc => ?_) (fun hc => ?_) <;> (have hd := hc; (try simp only [decide_eq_true_eq, decide_eq_false_iff_not, Bool.or_eq_true, Bool.or_eq_false_iff, Bool.and_eq_true, Bool.and_eq_false_iff, Bool.not_eq_true', Bool.not_eq_false', bne_iff_ne, beq_iff_eq, bne_eq_false_iff_eq, beq_eq_false_iff_ne, ne_eq, Bool.not_true, Bool.not_false, Bool.false_eq_true, Bool.true_eq_false, inB_true, inB_false] at hd)))
    | refine ok_ret ?_
    | refine ok_exit ?_
    | refine ok_skip ?_
    | (refine ok_region (i := 2) ?_; refine ok_p rfl rfl rfl (by exact ps_move rfl rfl) ?_; refine ok_p rfl rfl rfl (by exact ps_int rfl rfl rfl rfl) ?_; refine ok_p rfl rfl rfl (by exact ps_move rfl rfl) ?_; refine ok_pg rfl rfl rfl rfl rfl (gT _) (fun hp => by (have hpd := hp; (try simp only [decide_eq_true_eq, decide_eq_false_iff_not, Bool.or_eq_true, Bool.or_eq_false_iff, Bool.and_eq_true, Bool.and_eq_false_iff, Bool.not_eq_true', Bool.not_eq_false', bne_iff_ne, beq_iff_eq, bne_eq_false_iff_eq, beq_eq_false_iff_ne, ne_eq, Bool.not_true, Bool.not_false, Bool.false_eq_true, Bool.true_eq_false, inB_true, inB_false] at hpd); exact ps_move rfl (by exact rfl))) ?_; refine ok_pg rfl rfl rfl rfl rfl (gT _) (fun hp => by (have hpd := hp; (try simp only [decide_eq_true_eq, decide_eq_false_iff_not, Bool.or_eq_true, Bool.or_eq_false_iff, Bool.and_eq_true, Bool.and_eq_false_iff, Bool.not_eq_true', Bool.not_eq_false', bne_iff_ne, beq_iff_eq, bne_eq_false_iff_eq, beq_eq_false_iff_ne, ne_eq, Bool.not_true, Bool.not_false, Bool.false_eq_true, Bool.true_eq_false, inB_true, inB_false] at hpd); exact ps_move rfl (by exact rfl))) ?_; refine ok_pg rfl rfl rfl rfl rfl (gT _) (fun hp => by (have hpd := hp; (try simp only [decide_eq_true_eq, decide_eq_false_iff_not, Bool.or_eq_true, Bool.or_eq_false_iff, Bool.and_eq_true, Bool.and_eq_false_iff, Bool.not_eq_true', Bool.not_eq_false', bne_iff_ne, beq_iff_eq, bne_eq_false_iff_eq, beq_eq_false_iff_ne, ne_eq, Bool.not_true, Bool.not_false, Bool.false_eq_true, Bool.true_eq_false, inB_true, inB_false] at hpd); exact ps_slen rfl (by (refine og rfl ?_; assumption)))) ?_; refine ok_pg rfl rfl rfl rfl rfl (gT _) (fun hp => by (have hpd := hp; (try simp only [decide_eq_true_eq, decide_eq_false_iff_not, Bool.or_eq_true, Bool.or_eq_false_iff, Bool.and_eq_true, Bool.and_eq_false_iff, Bool.not_eq_true', Bool.not_eq_false', bne_iff_ne, beq_iff_eq, bne_eq_false_iff_eq, beq_eq_false_iff_ne, ne_eq, Bool.not_true, Bool.not_false, Bool.false_eq_true, Bool.true_eq_false, inB_true, inB_false] at hpd); exact ps_int rfl (by (refine og rfl ?_; assumption)) (by (refine og rfl ?_; assumption)) rfl)) ?_; refine ok_p rfl rfl rfl (by exact ps_and rfl rfl rfl) ?_; refine ok_nil ?_; refine ok_env [(0, _), (4, _), (14, _)] ⟨rfl, rfl, rfl, trivial⟩ ?_)
    | (refine ok_region (i := 4) ?_; refine ok_p rfl rfl rfl (by exact ps_assign rfl rfl) ?_; refine ok_nil ?_; refine ok_env [(0, _), (4, _), (5, _)] ⟨rfl, rfl, rfl, trivial⟩ ?_)
    | (refine ok_region (i := 5) ?_; refine ok_p rfl rfl rfl (by exact ps_move rfl rfl) ?_; refine ok_p rfl rfl rfl (by exact ps_sub rfl rfl rfl (by omega)) ?_; refine ok_p rfl rfl rfl (by exact ps_assign rfl rfl) ?_; refine ok_nil ?_; refine ok_env [(0, _), (4, _), (5, _), (6, _)] ⟨rfl, rfl, rfl, rfl, trivial⟩ ?_)
    | (refine ok_region (i := 11) ?_; refine ok_p rfl rfl rfl (by exact ps_assign rfl rfl) ?_; refine ok_p rfl rfl rfl (by exact ps_assign rfl rfl) ?_; refine ok_nil ?_; refine ok_env [(2, _), (3, _)] ⟨rfl, rfl, trivial⟩ ?_))
  · have hl : ((bl s).take k).length = k := by rw [List.length_take, l0]; omega
    refine ok_loop (ι := { j : Nat // j ≤ k }) (fun j => j.1) (fun j => ([(0, .string s), (4, .int .i64 k), (5, .int .i64 (sumL (((bl s).take k).drop j.1))), (6, .int .i64 ((j.1 : Int) - 1))], _, _)) ⟨k, by omega⟩ (fun a w he hw => ⟨⟨k, by omega⟩, he.sub ⟨rfl, rfl, ?_, rfl, trivial⟩, hw⟩) ?_
    · simp only [show ((bl s).take k).drop k = [] from List.drop_of_length_le (by omega)]; rfl
    rintro ⟨j, hj⟩
    simp only at hj ⊢
    have b1 := bt_lt s (j - 1)
    have b2 := sumL_small (((bl s).take k).drop j) (by rw [List.length_drop]; omega)
    have b3 := sumL_small ((bl s).take k) (by omega)
    repeat' (first
      | refine ok_seq ?_
      | refine ok_then ?_
      | refine ok_block ?_
      | refine ok_in_normal ?_
      | (refine ok_cond rfl (fun hc => ?_) (fun hc => ?_) <;> (have hd := hc; (try simp only [decide_eq_true_eq, decide_eq_false_iff_not, Bool.or_eq_true, Bool.or_eq_false_iff, Bool.and_eq_true, Bool.and_eq_false_iff, Bool.not_eq_true', Bool.not_eq_false', bne_iff_ne, beq_iff_eq, bne_eq_false_iff_eq, beq_eq_false_iff_ne, ne_eq, Bool.not_true, Bool.not_false, Bool.false_eq_true, Bool.true_eq_false, inB_true, inB_false] at hd)))
      | refine ok_exit ?_
      | refine ok_skip ?_
      | (refine ok_region (i := 6) ?_; refine ok_p rfl rfl rfl (by exact ps_move rfl rfl) ?_; refine ok_p rfl rfl rfl (by exact ps_int rfl rfl rfl rfl) ?_; refine ok_nil ?_; refine ok_env [(0, _), (4, _), (5, _), (6, _), (20, _)] ⟨rfl, rfl, rfl, rfl, rfl, trivial⟩ ?_)
      | (refine ok_region (i := 7) ?_; refine ok_p rfl rfl rfl (by exact ps_move rfl rfl) ?_; refine ok_p rfl rfl rfl (by exact ps_sub rfl rfl rfl (by omega)) ?_; refine ok_p rfl rfl rfl (by exact ps_assign rfl rfl) ?_; refine ok_nil ?_; refine ok_env [(0, _), (4, _), (5, _), (6, _)] ⟨rfl, rfl, rfl, rfl, trivial⟩ ?_)
      | (refine ok_region (i := 8) ?_; refine ok_p rfl rfl rfl (by exact ps_move rfl rfl) ?_; refine ok_p rfl rfl rfl (by exact ps_mul rfl rfl rfl (by omega)) ?_; refine ok_p rfl rfl rfl (by exact ps_move rfl rfl) ?_; refine ok_p rfl rfl rfl (by exact ps_move rfl rfl) ?_; refine ok_p rfl rfl rfl (by exact ps_sidxE (j - 1) rfl rfl rfl (by omega) (by omega)) ?_; refine ok_p rfl rfl rfl (by exact ps_conv_id rfl rfl (IntWalk.i64_in _ (by omega))) ?_; refine ok_p rfl rfl rfl (by exact ps_rem rfl rfl rfl (by omega) (by omega)) ?_; refine ok_p rfl rfl rfl (by exact ps_add rfl rfl rfl (by omega)) ?_; refine ok_p rfl rfl rfl (by exact ps_assign rfl rfl) ?_; refine ok_nil ?_; refine ok_env [(0, _), (4, _), (5, _), (6, _)] ⟨rfl, rfl, rfl, rfl, trivial⟩ ?_))
    · have e := sumL_step (s := s) (j := j - 1) (k := k) (by omega) (by omega)
      rw [show j - 1 + 1 = j by omega] at e
      refine fun a w' he hw => ⟨⟨j - 1, by omega⟩, by simp only; omega, he.sub ⟨rfl, rfl, ?_, ?_, trivial⟩, hw⟩
      · simp only [e]; rfl
      · simp only [show (((j - 1 : Nat) : Int)) = (j : Int) - 1 by omega]; rfl
    obtain rfl : j = 0 := by omega
    rw [List.drop_zero]
    repeat' (first
      | refine ok_seq ?_
      | refine ok_then ?_
      | refine ok_then_ret ?_
      | refine ok_in_normal ?_
      | refine ok_in_ret ?_
      | (refine ok_cond rfl (fun hc => ?_) (fun hc => ?_) <;> (have hd := hc; (try simp only [decide_eq_true_eq, decide_eq_false_iff_not, Bool.or_eq_true, Bool.or_eq_false_iff, Bool.and_eq_true, Bool.and_eq_false_iff, Bool.not_eq_true', Bool.not_eq_false', bne_iff_ne, beq_iff_eq, bne_eq_false_iff_eq, beq_eq_false_iff_ne, ne_eq, Bool.not_true, Bool.not_false, Bool.false_eq_true, Bool.true_eq_false, inB_true, inB_false] at hd)))
      | refine ok_ret ?_
      | refine ok_skip ?_
      | (refine ok_region (i := 3) ?_; refine ok_p rfl rfl rfl (by exact ps_move rfl rfl) ?_; refine ok_p rfl rfl rfl (by exact ps_add rfl rfl rfl (by omega)) ?_; refine ok_p rfl rfl rfl (by exact ps_assign rfl rfl) ?_; refine ok_nil ?_; refine ok_env [(0, _), (4, _)] ⟨rfl, rfl, trivial⟩ ?_)
      | (refine ok_draw (id := 9) 6 rfl (by kernel_rfl) (by kernel_rfl) rfl (by repeat (first | exact pq_body | refine pq_then ?_ | refine pq_in ?_)) [0, 1, 2, 3, 4, 5, 6, 7, 8, 9, 10, 11, 12, 13, 14, 15, 16, 17, 18, 19, 20, 21, 22, 23] (by decide) rfl ?_; refine okT_take (i := 0) rfl (by kernel_rfl) rfl rfl rfl (by exact ps_move rfl rfl) ?_; refine okT_take (i := 2) rfl (by kernel_rfl) rfl rfl rfl (by exact ps_move rfl rfl) ?_; refine okT_take (i := 3) rfl (by kernel_rfl) rfl rfl rfl (by exact ps_move rfl rfl) ?_; refine okT_take (i := 4) rfl (by kernel_rfl) rfl rfl rfl (by exact ps_sslice rfl rfl rfl ⟨_, rfl⟩ (by omega) (by omega)) ?_; refine okT_one (i := 1) rfl rfl (by kernel_rfl) rfl rfl rfl (by exact ms_s1 rfl rfl (fun _ _ w hw => xs_Var_v _ (by omega) w)) (fun y w _ h => by exact h) ?_; rintro y32 hy32; refine okT_take (i := 5) rfl (by kernel_rfl) rfl rfl rfl (by exact ps_str rfl rfl rfl rfl) ?_; refine okT_done (by kernel_rfl) ?_; refine ok_nil ?_; refine ok_env [(0, _), (4, _), (5, _), (36, _)] ⟨rfl, rfl, rfl, rfl, trivial⟩ ?_)
      | (refine ok_region (i := 10) ?_; refine ok_p rfl rfl rfl (by exact ps_move rfl rfl) ?_; refine ok_p rfl rfl rfl (by exact ps_move rfl rfl) ?_; refine ok_p rfl rfl rfl (by exact ps_assign rfl rfl) ?_; refine ok_p rfl rfl rfl (by exact ps_assign rfl rfl) ?_; refine ok_nil ?_; refine ok_env [(2, _), (3, _)] ⟨rfl, rfl, trivial⟩ ?_))
    · have hg := (str_eq _ _ _).1 (sEq_t hd)
      have e : rvN (bl s) = (sumL ((bl s).take k), k) := by
        unfold rvN
        rw [← HR.out, show 8 - k = (8 - (k + 1)) + 1 by omega, rvS, if_pos (by omega), if_pos hg]; rfl
      refine ok_endL (vs := [_, _]) rfl ⟨rfl, rfl, trivial⟩ (fun w' hw => ⟨?_, hw.below⟩)
      rw [e]; rfl
    · have hg : ¬ varL (sumL ((bl s).take k)) = (bl s).take k := fun h => by
        have := sEq_f hd
        exact this ((str_eq _ _ _).2 h)
      have e : rvS (bl s) (8 - (k + 1)) (k + 1) = rv (bl s) := by
        rw [← HR.out, show 8 - k = (8 - (k + 1)) + 1 by omega, rvS, if_pos (by omega), if_neg hg]
      exact fun a w' he hw => ⟨⟨k + 1, by omega, by omega, e⟩, by simp only; omega, he.sub ⟨rfl, rfl, trivial⟩, hw⟩
  · have e : rv (bl s) = none := by
      rw [← HR.out]
      rcases Nat.lt_or_ge (bl s).length k with h | h
      · exact rvS_no h
      · have : k = 8 := by omega
        subst this; rfl
    have e2 : rvN (bl s) = (0, 0) := by unfold rvN; rw [e]; rfl
    refine ok_endL (vs := [_, _]) rfl ⟨rfl, rfl, trivial⟩ (fun w' hw => ⟨?_, hw.below⟩)
    rw [e2]; rfl
end Go.Proofs.Ytbegbdfbfbkflaa
/- The reader of the program, the pieces that the reference takes. -/
namespace Go.Proofs.Ytbegbdfbfbkflaa
open Go.RowKit
set_option maxHeartbeats 4000000
set_option maxRecDepth 20000
set_option linter.unusedVariables false
set_option linter.unusedSimpArgs false
section
variable {P : Program} {E : Env} {H : List HObj} {G : List World} {o : Oper}
theorem ps_sslE {x : Operand} {lo hi : Option Operand} {t : TypeId} {s : ByteArray} (l h : Nat) [ht : SS P t] (ho : o.op = .slice t x lo hi none) (hx : opd E x = some (.string s))
    (hlo : (match lo with | none => l = 0 | some y => ∃ k z, opd E y = some (.int k z) ∧ z = (l : Int))) (hhi : (match hi with | none => h = s.size | some y => ∃ k z, opd E y = some (.int k z) ∧ z = (h : Int))) (h1 : l ≤ h) (h2 : h ≤ s.size) :
    PStep P E H G o (.string (s.extract l h)) := by
  refine ps_sslice ho hx ?_ ?_ h1 h2
  · cases lo with
    | none => subst hlo; rfl
    | some y => obtain ⟨k, z, a, b⟩ := hlo; subst b; exact ⟨k, a⟩
  · cases hi with
    | none => exact hhi
    | some y => obtain ⟨k, z, a, b⟩ := hhi; subst b; exact ⟨k, a⟩
end
/-- A number that stands at a place, and where it ends; a string with its length ahead. -/
def tkN (s : ByteArray) (k : Nat) : Option (Nat × Nat) := (rv ((bl s).drop k)).map fun p => (p.1, k + p.2)
def tkS (s : ByteArray) (k : Nat) : Option (ByteArray × Nat) := (tkN s k).bind fun p => if p.2 + p.1 ≤ s.size then some (s.extract p.2 (p.2 + p.1), p.2 + p.1) else none
theorem tkN_some {s : ByteArray} {k n e : Nat} (h : tkN s k = some (n, e)) : k < e ∧ e ≤ s.size ∧ e ≤ k + 7 ∧ n < 562949953421312 ∧ (bl s).drop k = varL n ++ (bl s).drop e := by
  unfold tkN at h
  cases hr : rv ((bl s).drop k) with
  | none => rw [hr] at h; cases h
  | some p =>
    obtain ⟨m, z⟩ := p
    rw [hr] at h
    cases h
    obtain ⟨a, b, c, d, f⟩ := rv_some hr
    rw [List.length_drop, bl_len] at c
    refine ⟨by omega, by omega, by omega, d, ?_⟩
    rw [f, ← List.drop_drop]
    exact (List.take_append_drop z _).symm
theorem tkS_some {s r : ByteArray} {k e : Nat} (h : tkS s k = some (r, e)) : k < e ∧ e ≤ s.size ∧ (bl s).drop k = bl (pieceS r) ++ (bl s).drop e := by
  unfold tkS at h
  cases hr : tkN s k with
  | none => rw [hr] at h; cases h
  | some p =>
    obtain ⟨n, q⟩ := p
    rw [hr] at h
    simp only [Option.bind_some] at h
    split at h
    · rename_i hle
      cases h
      obtain ⟨a, b, c, d, f⟩ := tkN_some hr
      have hz : (s.extract q (q + n)).size = n := by rw [ByteArray.size_extract]; omega
      refine ⟨by omega, by omega, ?_⟩
      rw [f]
      unfold pieceS
      rw [bl_app, hz, bl_extract, List.append_assoc]
      have e1 : bl (vS n) = varL n := rfl
      rw [e1]
      congr 1
      rw [← List.drop_drop, List.drop_take, show q + n - q = n by omega]
      exact (List.take_append_drop n _).symm
    · cases h
theorem rvN_tk (s : ByteArray) (k : Nat) (hk : k ≤ s.size) : rvN (bl (s.extract k s.size)) = rvN ((bl s).drop k) := by
  rw [bl_extract, List.take_of_length_le (by rw [bl_len]; omega)]
theorem tkN_z (s : ByteArray) (k : Nat) : tkN s k = if (rvN ((bl s).drop k)).2 = 0 then none else some ((rvN ((bl s).drop k)).1, k + (rvN ((bl s).drop k)).2) := by
  unfold tkN rvN
  cases hr : rv ((bl s).drop k) with
  | none => rfl
  | some p =>
    obtain ⟨m, z⟩ := p
    have := (rv_some hr).1
    simp only [Option.map_some, Option.getD_some]
    rw [if_neg (by omega)]
/-- What the reader does: the place and the flag behind it. -/
def rdN (s : ByteArray) (k : Nat) (bad : Bool) : Nat × Nat × Bool := if bad = true then (0, k, true) else match tkN s k with
  | none => (0, k, true)
  | some (n, e) => (n, e, false)
def rdB (s : ByteArray) (n k : Nat) (bad : Bool) : ByteArray × Nat × Bool := if bad = true ∨ s.size < k + n then (⟨#[]⟩, k, true) else (s.extract k (k + n), k + n, false)
def rdS (s : ByteArray) (k : Nat) (bad : Bool) : ByteArray × Nat × Bool := rdB s (rdN s k bad).1 (rdN s k bad).2.1 (rdN s k bad).2.2
theorem rdN_le (s : ByteArray) (k : Nat) (bad : Bool) (h : k ≤ s.size) : (rdN s k bad).2.1 ≤ s.size ∧ (rdN s k bad).1 < 562949953421312 := by
  unfold rdN
  split
  · exact ⟨h, by omega⟩
  · split
    · exact ⟨h, by omega⟩
    · rename_i n e hn
      have := tkN_some hn
      exact ⟨this.2.1, this.2.2.2.1⟩
theorem rdB_le (s : ByteArray) (n k : Nat) (bad : Bool) (h : k ≤ s.size) : (rdB s n k bad).2.1 ≤ s.size := by
  unfold rdB
  split
  · exact h
  · simp only; omega
theorem rdS_le (s : ByteArray) (k : Nat) (bad : Bool) (h : k ≤ s.size) : (rdS s k bad).2.1 ≤ s.size := rdB_le _ _ _ _ (rdN_le s k bad h).1
theorem rdS_tk (s : ByteArray) (k : Nat) : (rdS s k false).2.2 = (tkS s k).isNone ∧ ∀ r e, tkS s k = some (r, e) → rdS s k false = (r, e, false) := by
  unfold rdS rdN tkS
  cases h : tkN s k with
  | none => simp [rdB]
  | some p =>
    obtain ⟨n, e⟩ := p
    simp only [Option.bind_some, if_neg (show ¬ (false = true) by simp)]
    unfold rdB
    by_cases hle : e + n ≤ s.size
    · rw [if_pos hle, if_neg (by simp; omega)]
      simp
    · rw [if_neg hle, if_pos (by right; omega)]
      simp
theorem rdS_bad (s : ByteArray) (k : Nat) : (rdS s k true).2.2 = true := by simp [rdS, rdN, rdB]
attribute [local irreducible] Calls
abbrev rdr (g : Nat) (s : ByteArray) (k : Nat) (bad : Bool) : HObj := .box g 153 [.string s, .int .i64 k, .bool bad]
theorem rdB_c (g : Nat) (s : ByteArray) (n k : Nat) (bad : Bool) (hs : s.size ≤ 4194304) (hk : k ≤ s.size) (hn : n < 562949953421312) {base : Nat} {w0 w : World} {H : List HObj} {G : List World} (hw : WOk base w0 (rdr g s k bad :: H) G w) :
    Calls Try.prog 182 #[pt (ga g) 0, .int .i64 n] w fun e w' => ∃ y : Ys, e = .returned (.string (rdB s n k bad).1) ∧ True ∧ WOk base w0 (rdr g s (rdB s n k bad).2.1 (rdB s n k bad).2.2 :: H) G w' := by
  refine ok_enterW 49 Try.func182 rfl rfl rfl hw ?_
  repeat' (first
    | refine ok_seq ?_
    | refine ok_then ?_
    | refine ok_then_ret ?_
    | (refine ok_cond rfl (fun hc => ?_) (fun hc => ?_) <;> (have hd := hc; (try simp only [decide_eq_true_eq, decide_eq_false_iff_not, Bool.or_eq_true, Bool.or_eq_false_iff, Bool.and_eq_true, Bool.and_eq_false_iff, Bool.not_eq_true', Bool.not_eq_false', bne_iff_ne, beq_iff_eq, bne_eq_false_iff_eq, beq_eq_false_iff_ne, ne_eq, Bool.not_true, Bool.not_false, Bool.false_eq_true, Bool.true_eq_false, inB_true, inB_false] at hd)))
    | refine ok_ret ?_
    | refine ok_skip ?_
    | (refine ok_region (i := 0) ?_; refine ok_p rfl rfl rfl (by exact ps_assign rfl rfl) ?_; refine ok_nil ?_; refine ok_env [(0, _), (1, _)] ⟨rfl, rfl, trivial⟩ ?_)
    | (refine ok_draw (id := 1) 18 rfl (by kernel_rfl) (by kernel_rfl) rfl (by repeat (first | exact pq_body | refine pq_then ?_ | refine pq_in ?_)) [0, 1, 2, 3, 4, 5, 6, 7, 8, 9, 10, 11, 12, 13, 14, 15, 16, 17, 18, 19, 20, 21, 22, 23] (by decide) rfl ?_; refine okT_take (i := 0) rfl (by kernel_rfl) rfl rfl rfl (by exact ps_move rfl rfl) ?_; refine okT_take (i := 1) rfl (by kernel_rfl) rfl rfl rfl (by exact ps_nil rfl rfl (by exact isw_ga _)) ?_; refine okT_take (i := 2) rfl (by kernel_rfl) rfl rfl rfl (by exact ps_field rfl rfl (by exact isw_ga _)) ?_; refine okT_take (i := 3) rfl (by kernel_rfl) rfl rfl rfl (by exact ps_load rfl rfl (by exact Rds.cell (rds_box 0 rfl) rfl)) ?_; refine okT_take (i := 4) rfl (by kernel_rfl) rfl rfl rfl (by exact ps_move rfl rfl) ?_; refine okT_take_g1 (i := 5) rfl (by kernel_rfl) rfl rfl rfl rfl rfl (gF _) (fun hp => by (have hpd := hp; (try simp only [decide_eq_true_eq, decide_eq_false_iff_not, Bool.or_eq_true, Bool.or_eq_false_iff, Bool.and_eq_true, Bool.and_eq_false_iff, Bool.not_eq_true', Bool.not_eq_false', bne_iff_ne, beq_iff_eq, bne_eq_false_iff_eq, beq_eq_false_iff_ne, ne_eq, Bool.not_true, Bool.not_false, Bool.false_eq_true, Bool.true_eq_false, inB_true, inB_false] at hpd); exact ps_move rfl (by exact rfl))) ?_; refine okT_take_g1 (i := 6) rfl (by kernel_rfl) rfl rfl rfl rfl rfl (gF _) (fun hp => by (have hpd := hp; (try simp only [decide_eq_true_eq, decide_eq_false_iff_not, Bool.or_eq_true, Bool.or_eq_false_iff, Bool.and_eq_true, Bool.and_eq_false_iff, Bool.not_eq_true', Bool.not_eq_false', bne_iff_ne, beq_iff_eq, bne_eq_false_iff_eq, beq_eq_false_iff_ne, ne_eq, Bool.not_true, Bool.not_false, Bool.false_eq_true, Bool.true_eq_false, inB_true, inB_false] at hpd); exact ps_move rfl (by exact rfl))) ?_; refine okT_take_g1 (i := 7) rfl (by kernel_rfl) rfl rfl rfl rfl rfl (gF _) (fun hp => by (have hpd := hp; (try simp only [decide_eq_true_eq, decide_eq_false_iff_not, Bool.or_eq_true, Bool.or_eq_false_iff, Bool.and_eq_true, Bool.and_eq_false_iff, Bool.not_eq_true', Bool.not_eq_false', bne_iff_ne, beq_iff_eq, bne_eq_false_iff_eq, beq_eq_false_iff_ne, ne_eq, Bool.not_true, Bool.not_false, Bool.false_eq_true, Bool.true_eq_false, inB_true, inB_false] at hpd); exact ps_nil rfl (by (refine og rfl ?_; assumption)) (by exact isw_ga _))) ?_; refine okT_take_g1 (i := 8) rfl (by kernel_rfl) rfl rfl rfl rfl rfl (gF _) (fun hp => by (have hpd := hp; (try simp only [decide_eq_true_eq, decide_eq_false_iff_not, Bool.or_eq_true, Bool.or_eq_false_iff, Bool.and_eq_true, Bool.and_eq_false_iff, Bool.not_eq_true', Bool.not_eq_false', bne_iff_ne, beq_iff_eq, bne_eq_false_iff_eq, beq_eq_false_iff_ne, ne_eq, Bool.not_true, Bool.not_false, Bool.false_eq_true, Bool.true_eq_false, inB_true, inB_false] at hpd); exact ps_field rfl (by (refine og rfl ?_; assumption)) (by exact isw_ga _))) ?_; refine okT_take_g1 (i := 9) rfl (by kernel_rfl) rfl rfl rfl rfl rfl (gF _) (fun hp => by (have hpd := hp; (try simp only [decide_eq_true_eq, decide_eq_false_iff_not, Bool.or_eq_true, Bool.or_eq_false_iff, Bool.and_eq_true, Bool.and_eq_false_iff, Bool.not_eq_true', Bool.not_eq_false', bne_iff_ne, beq_iff_eq, bne_eq_false_iff_eq, beq_eq_false_iff_ne, ne_eq, Bool.not_true, Bool.not_false, Bool.false_eq_true, Bool.true_eq_false, inB_true, inB_false] at hpd); exact ps_load rfl (by (refine og rfl ?_; assumption)) (by exact Rds.cell (rds_box 0 rfl) rfl))) ?_; refine okT_take_g1 (i := 10) rfl (by kernel_rfl) rfl rfl rfl rfl rfl (gF _) (fun hp => by (have hpd := hp; (try simp only [decide_eq_true_eq, decide_eq_false_iff_not, Bool.or_eq_true, Bool.or_eq_false_iff, Bool.and_eq_true, Bool.and_eq_false_iff, Bool.not_eq_true', Bool.not_eq_false', bne_iff_ne, beq_iff_eq, bne_eq_false_iff_eq, beq_eq_false_iff_ne, ne_eq, Bool.not_true, Bool.not_false, Bool.false_eq_true, Bool.true_eq_false, inB_true, inB_false] at hpd); exact ps_slen rfl (by (refine og rfl ?_; assumption)))) ?_; refine okT_take_g1 (i := 11) rfl (by kernel_rfl) rfl rfl rfl rfl rfl (gF _) (fun hp => by (have hpd := hp; (try simp only [decide_eq_true_eq, decide_eq_false_iff_not, Bool.or_eq_true, Bool.or_eq_false_iff, Bool.and_eq_true, Bool.and_eq_false_iff, Bool.not_eq_true', Bool.not_eq_false', bne_iff_ne, beq_iff_eq, bne_eq_false_iff_eq, beq_eq_false_iff_ne, ne_eq, Bool.not_true, Bool.not_false, Bool.false_eq_true, Bool.true_eq_false, inB_true, inB_false] at hpd); exact ps_move rfl (by exact rfl))) ?_; refine okT_take_g1 (i := 12) rfl (by kernel_rfl) rfl rfl rfl rfl rfl (gF _) (fun hp => by (have hpd := hp; (try simp only [decide_eq_true_eq, decide_eq_false_iff_not, Bool.or_eq_true, Bool.or_eq_false_iff, Bool.and_eq_true, Bool.and_eq_false_iff, Bool.not_eq_true', Bool.not_eq_false', bne_iff_ne, beq_iff_eq, bne_eq_false_iff_eq, beq_eq_false_iff_ne, ne_eq, Bool.not_true, Bool.not_false, Bool.false_eq_true, Bool.true_eq_false, inB_true, inB_false] at hpd); exact ps_nil rfl (by (refine og rfl ?_; assumption)) (by exact isw_ga _))) ?_; refine okT_take_g1 (i := 13) rfl (by kernel_rfl) rfl rfl rfl rfl rfl (gF _) (fun hp => by (have hpd := hp; (try simp only [decide_eq_true_eq, decide_eq_false_iff_not, Bool.or_eq_true, Bool.or_eq_false_iff, Bool.and_eq_true, Bool.and_eq_false_iff, Bool.not_eq_true', Bool.not_eq_false', bne_iff_ne, beq_iff_eq, bne_eq_false_iff_eq, beq_eq_false_iff_ne, ne_eq, Bool.not_true, Bool.not_false, Bool.false_eq_true, Bool.true_eq_false, inB_true, inB_false] at hpd); exact ps_field rfl (by (refine og rfl ?_; assumption)) (by exact isw_ga _))) ?_; refine okT_take_g1 (i := 14) rfl (by kernel_rfl) rfl rfl rfl rfl rfl (gF _) (fun hp => by (have hpd := hp; (try simp only [decide_eq_true_eq, decide_eq_false_iff_not, Bool.or_eq_true, Bool.or_eq_false_iff, Bool.and_eq_true, Bool.and_eq_false_iff, Bool.not_eq_true', Bool.not_eq_false', bne_iff_ne, beq_iff_eq, bne_eq_false_iff_eq, beq_eq_false_iff_ne, ne_eq, Bool.not_true, Bool.not_false, Bool.false_eq_true, Bool.true_eq_false, inB_true, inB_false] at hpd); exact ps_load rfl (by (refine og rfl ?_; assumption)) (by exact Rds.cell (rds_box 0 rfl) rfl))) ?_; refine okT_take_g1 (i := 15) rfl (by kernel_rfl) rfl rfl rfl rfl rfl (gF _) (fun hp => by (have hpd := hp; (try simp only [decide_eq_true_eq, decide_eq_false_iff_not, Bool.or_eq_true, Bool.or_eq_false_iff, Bool.and_eq_true, Bool.and_eq_false_iff, Bool.not_eq_true', Bool.not_eq_false', bne_iff_ne, beq_iff_eq, bne_eq_false_iff_eq, beq_eq_false_iff_ne, ne_eq, Bool.not_true, Bool.not_false, Bool.false_eq_true, Bool.true_eq_false, inB_true, inB_false] at hpd); exact ps_sub rfl (by (refine og rfl ?_; assumption)) (by (refine og rfl ?_; assumption)) (by omega))) ?_; refine okT_take_g1 (i := 16) rfl (by kernel_rfl) rfl rfl rfl rfl rfl (gF _) (fun hp => by (have hpd := hp; (try simp only [decide_eq_true_eq, decide_eq_false_iff_not, Bool.or_eq_true, Bool.or_eq_false_iff, Bool.and_eq_true, Bool.and_eq_false_iff, Bool.not_eq_true', Bool.not_eq_false', bne_iff_ne, beq_iff_eq, bne_eq_false_iff_eq, beq_eq_false_iff_ne, ne_eq, Bool.not_true, Bool.not_false, Bool.false_eq_true, Bool.true_eq_false, inB_true, inB_false] at hpd); exact ps_int rfl (by (refine og rfl ?_; assumption)) (by (refine og rfl ?_; assumption)) rfl)) ?_; refine okT_take (i := 17) rfl (by kernel_rfl) rfl rfl rfl (by exact ps_or rfl rfl rfl) ?_; refine okT_done (by kernel_rfl) ?_; refine ok_nil ?_; refine ok_env [(0, _), (1, _), (22, _)] ⟨rfl, rfl, rfl, trivial⟩ ?_)
    | (refine ok_region (i := 2) ?_; refine ok_p rfl rfl rfl (by exact ps_move rfl rfl) ?_; refine ok_p rfl rfl rfl (by exact ps_nil rfl rfl (by exact isw_ga _)) ?_; refine ok_p rfl rfl rfl (by exact ps_field rfl rfl (by exact isw_ga _)) ?_; refine ok_m_ rfl rfl (by exact ms_store 0 rfl rfl rfl rfl rfl rfl rfl rfl) ?_; rintro y_ hy_; refine ok_nil ?_; refine ok_env [] trivial ?_)
    | (refine ok_region (i := 3) ?_; refine ok_p rfl rfl rfl (by exact ps_assign rfl rfl) ?_; refine ok_nil ?_; refine ok_env [(4, _)] ⟨rfl, trivial⟩ ?_)
    | (refine ok_region (i := 4) ?_; refine ok_p rfl rfl rfl (by exact ps_move rfl rfl) ?_; refine ok_p rfl rfl rfl (by exact ps_nil rfl rfl (by exact isw_ga _)) ?_; refine ok_p rfl rfl rfl (by exact ps_field rfl rfl (by exact isw_ga _)) ?_; refine ok_p rfl rfl rfl (by exact ps_load rfl rfl (by exact Rds.cell (rds_box 0 rfl) rfl)) ?_; refine ok_p rfl rfl rfl (by exact ps_move rfl rfl) ?_; refine ok_p rfl rfl rfl (by exact ps_add rfl rfl rfl (by omega)) ?_; refine ok_p rfl rfl rfl (by exact ps_nil rfl rfl (by exact isw_ga _)) ?_; refine ok_p rfl rfl rfl (by exact ps_field rfl rfl (by exact isw_ga _)) ?_; refine ok_m_ rfl rfl (by exact ms_store 0 rfl rfl rfl rfl rfl rfl rfl rfl) ?_; rintro y_ hy_; refine ok_nil ?_; refine ok_env [(0, _), (1, _)] ⟨rfl, rfl, trivial⟩ ?_)
    | (refine ok_draw (id := 5) 16 rfl (by kernel_rfl) (by kernel_rfl) rfl (by repeat (first | exact pq_body | refine pq_then ?_ | refine pq_in ?_)) [0, 1, 2, 3, 4, 5, 6, 7, 8, 9, 10, 11, 12, 13, 14, 15, 16, 17, 18, 19, 20, 21, 22, 23] (by decide) rfl ?_; refine okT_take (i := 0) rfl (by kernel_rfl) rfl rfl rfl (by exact ps_move rfl rfl) ?_; refine okT_take (i := 1) rfl (by kernel_rfl) rfl rfl rfl (by exact ps_nil rfl rfl (by exact isw_ga _)) ?_; refine okT_take (i := 2) rfl (by kernel_rfl) rfl rfl rfl (by exact ps_field rfl rfl (by exact isw_ga _)) ?_; refine okT_take (i := 3) rfl (by kernel_rfl) rfl rfl rfl (by exact ps_load rfl rfl (by exact Rds.cell (rds_box 0 rfl) rfl)) ?_; refine okT_take (i := 4) rfl (by kernel_rfl) rfl rfl rfl (by exact ps_move rfl rfl) ?_; refine okT_take (i := 5) rfl (by kernel_rfl) rfl rfl rfl (by exact ps_nil rfl rfl (by exact isw_ga _)) ?_; refine okT_take (i := 6) rfl (by kernel_rfl) rfl rfl rfl (by exact ps_field rfl rfl (by exact isw_ga _)) ?_; refine okT_take (i := 7) rfl (by kernel_rfl) rfl rfl rfl (by exact ps_load rfl rfl (by exact Rds.cell (rds_box 0 rfl) rfl)) ?_; refine okT_take (i := 8) rfl (by kernel_rfl) rfl rfl rfl (by exact ps_move rfl rfl) ?_; refine okT_take (i := 9) rfl (by kernel_rfl) rfl rfl rfl (by exact ps_sub rfl rfl rfl (by omega)) ?_; refine okT_take (i := 10) rfl (by kernel_rfl) rfl rfl rfl (by exact ps_move rfl rfl) ?_; refine okT_take (i := 11) rfl (by kernel_rfl) rfl rfl rfl (by exact ps_nil rfl rfl (by exact isw_ga _)) ?_; refine okT_take (i := 12) rfl (by kernel_rfl) rfl rfl rfl (by exact ps_field rfl rfl (by exact isw_ga _)) ?_; refine okT_take (i := 13) rfl (by kernel_rfl) rfl rfl rfl (by exact ps_load rfl rfl (by exact Rds.cell (rds_box 0 rfl) rfl)) ?_; refine okT_take (i := 14) rfl (by kernel_rfl) rfl rfl rfl (by exact ps_sslE k (k + n) rfl rfl ⟨_, _, rfl, by omega⟩ ⟨_, _, rfl, by omega⟩ (by omega) (by omega)) ?_; refine okT_take (i := 15) rfl (by kernel_rfl) rfl rfl rfl (by exact ps_assign rfl rfl) ?_; refine okT_done (by kernel_rfl) ?_; refine ok_nil ?_; refine ok_env [(4, _)] ⟨rfl, trivial⟩ ?_))
  · have e : rdB s n k bad = (⟨#[]⟩, k, true) := by
      unfold rdB; rw [if_pos (by rcases hd with h | h; exact .inl h; exact .inr (by omega))]
    rw [e]
    exact ok_endL (vs := [_]) rfl ⟨rfl, trivial⟩ (fun w' hw => ⟨mkY none 0 w, rfl, trivial, hw⟩)
  · have e : rdB s n k bad = (s.extract k (k + n), k + n, false) := by
      unfold rdB; rw [if_neg (by rintro (h | h); rw [hd.1] at h; cases h; omega)]
    obtain rfl : bad = false := hd.1
    rw [e]
    exact ok_endL (vs := [_]) rfl ⟨rfl, trivial⟩ (fun w' hw => ⟨mkY none 0 w, rfl, trivial, hw⟩)
theorem rdN_c (g : Nat) (s : ByteArray) (k : Nat) (bad : Bool) (hs : s.size ≤ 4194304) (hk : k ≤ s.size) {base : Nat} {w0 w : World} {H : List HObj} {G : List World} (hw : WOk base w0 (rdr g s k bad :: H) G w) :
    Calls Try.prog 124 #[pt (ga g) 0] w fun e w' => ∃ y : Ys, e = .returned (.int .i64 (rdN s k bad).1) ∧ True ∧ WOk base w0 (rdr g s (rdN s k bad).2.1 (rdN s k bad).2.2 :: H) G w' := by
  have q := rvN_tk s k hk
  have z := tkN_z s k
  have qb : k + (rvN ((bl s).drop k)).2 ≤ s.size ∧ (rvN ((bl s).drop k)).2 ≤ 7 := by
    by_cases h0 : (rvN ((bl s).drop k)).2 = 0
    · omega
    · rw [if_neg h0] at z
      have := tkN_some z
      omega
  refine ok_enterW 36 Try.func124 rfl rfl rfl hw ?_
  repeat' (first
    | refine ok_seq ?_
    | refine ok_then ?_
    | refine ok_then_ret ?_
    | (refine ok_cond rfl (fun hc => ?_) (fun hc => ?_) <;> (have hd := hc; (try simp only [decide_eq_true_eq, decide_eq_false_iff_not, Bool.or_eq_true, Bool.or_eq_false_iff, Bool.and_eq_true, Bool.and_eq_false_iff, Bool.not_eq_true', Bool.not_eq_false', bne_iff_ne, beq_iff_eq, bne_eq_false_iff_eq, beq_eq_false_iff_ne, ne_eq, Bool.not_true, Bool.not_false, Bool.false_eq_true, Bool.true_eq_false, inB_true, inB_false] at hd)))
    | refine ok_ret ?_
    | refine ok_skip ?_
    | (refine ok_region (i := 0) ?_; refine ok_p rfl rfl rfl (by exact ps_assign rfl rfl) ?_; refine ok_nil ?_; refine ok_env [(0, _)] ⟨rfl, trivial⟩ ?_)
    | (refine ok_region (i := 1) ?_; refine ok_p rfl rfl rfl (by exact ps_move rfl rfl) ?_; refine ok_p rfl rfl rfl (by exact ps_nil rfl rfl (by exact isw_ga _)) ?_; refine ok_p rfl rfl rfl (by exact ps_field rfl rfl (by exact isw_ga _)) ?_; refine ok_p rfl rfl rfl (by exact ps_load rfl rfl (by exact Rds.cell (rds_box 0 rfl) rfl)) ?_; refine ok_nil ?_; refine ok_env [(0, _), (8, _)] ⟨rfl, rfl, trivial⟩ ?_)
    | (refine ok_region (i := 2) ?_; refine ok_p rfl rfl rfl (by exact ps_assign rfl rfl) ?_; refine ok_nil ?_; refine ok_env [(2, _)] ⟨rfl, trivial⟩ ?_))
  · have e : rdN s k bad = (0, k, true) := by unfold rdN; rw [if_pos hd]
    rw [e]
    subst hd
    exact ok_endL (vs := [_]) rfl ⟨rfl, trivial⟩ (fun w' hw => ⟨mkY none 0 w, rfl, trivial, hw⟩)
  subst hd
  repeat' (first
    | refine ok_seq ?_
    | refine ok_then ?_
    | refine ok_then_ret ?_
    | (refine ok_cond rfl (fun hc => ?_) (fun hc => ?_) <;> (have hd := hc; (try simp only [decide_eq_true_eq, decide_eq_false_iff_not, Bool.or_eq_true, Bool.or_eq_false_iff, Bool.and_eq_true, Bool.and_eq_false_iff, Bool.not_eq_true', Bool.not_eq_false', bne_iff_ne, beq_iff_eq, bne_eq_false_iff_eq, beq_eq_false_iff_ne, ne_eq, Bool.not_true, Bool.not_false, Bool.false_eq_true, Bool.true_eq_false, inB_true, inB_false] at hd)))
    | refine ok_ret ?_
    | refine ok_skip ?_
    | (refine ok_draw (id := 3) 15 rfl (by kernel_rfl) (by kernel_rfl) rfl (by repeat (first | exact pq_body | refine pq_then ?_ | refine pq_in ?_)) [0] (by decide) rfl ?_; refine okT_take (i := 0) rfl (by kernel_rfl) rfl rfl rfl (by exact ps_move rfl rfl) ?_; refine okT_take (i := 1) rfl (by kernel_rfl) rfl rfl rfl (by exact ps_nil rfl rfl (by exact isw_ga _)) ?_; refine okT_take (i := 2) rfl (by kernel_rfl) rfl rfl rfl (by exact ps_field rfl rfl (by exact isw_ga _)) ?_; refine okT_take (i := 3) rfl (by kernel_rfl) rfl rfl rfl (by exact ps_load rfl rfl (by exact Rds.cell (rds_box 0 rfl) rfl)) ?_; refine okT_take (i := 4) rfl (by kernel_rfl) rfl rfl rfl (by exact ps_move rfl rfl) ?_; refine okT_take (i := 5) rfl (by kernel_rfl) rfl rfl rfl (by exact ps_nil rfl rfl (by exact isw_ga _)) ?_; refine okT_take (i := 6) rfl (by kernel_rfl) rfl rfl rfl (by exact ps_field rfl rfl (by exact isw_ga _)) ?_; refine okT_take (i := 7) rfl (by kernel_rfl) rfl rfl rfl (by exact ps_load rfl rfl (by exact Rds.cell (rds_box 0 rfl) rfl)) ?_; refine okT_take (i := 8) rfl (by kernel_rfl) rfl rfl rfl (by exact ps_sslE k s.size rfl rfl ⟨_, _, rfl, rfl⟩ rfl hk (by omega)) ?_; refine okT_one (i := 9) rfl rfl (by kernel_rfl) rfl rfl rfl (by exact ms_s1 rfl rfl (fun _ _ w hw => by have := i_ReadVar_c (s.extract k s.size) (by rw [ByteArray.size_extract]; omega) w; rw [q] at this; exact this)) (fun y w _ h => by exact h.sel [0] (by decide) rfl (fun _ h => h)) ?_; rintro y19 hy19; refine okT_take (i := 10) rfl (by kernel_rfl) rfl rfl rfl (by exact ps_move rfl rfl) ?_; refine okT_take (i := 11) rfl (by kernel_rfl) rfl rfl rfl (by exact ps_extract rfl rfl rfl) ?_; refine okT_take (i := 12) rfl (by kernel_rfl) rfl rfl rfl (by exact ps_extract rfl rfl rfl) ?_; refine okT_take (i := 13) rfl (by kernel_rfl) rfl rfl rfl (by exact ps_assign rfl rfl) ?_; refine okT_take (i := 14) rfl (by kernel_rfl) rfl rfl rfl (by exact ps_assign rfl rfl) ?_; refine okT_done (by kernel_rfl) ?_; refine ok_nil ?_; refine ok_env [(0, _), (3, _), (4, _)] ⟨rfl, rfl, rfl, trivial⟩ ?_)
    | (refine ok_region (i := 4) ?_; refine ok_p rfl rfl rfl (by exact ps_move rfl rfl) ?_; refine ok_p rfl rfl rfl (by exact ps_int rfl rfl rfl rfl) ?_; refine ok_nil ?_; refine ok_env [(0, _), (3, _), (4, _), (23, _)] ⟨rfl, rfl, rfl, rfl, trivial⟩ ?_)
    | (refine ok_region (i := 5) ?_; refine ok_p rfl rfl rfl (by exact ps_move rfl rfl) ?_; refine ok_p rfl rfl rfl (by exact ps_nil rfl rfl (by exact isw_ga _)) ?_; refine ok_p rfl rfl rfl (by exact ps_field rfl rfl (by exact isw_ga _)) ?_; refine ok_m_ rfl rfl (by exact ms_store 0 rfl rfl rfl rfl rfl rfl rfl rfl) ?_; rintro y_ hy_; refine ok_nil ?_; refine ok_env [] trivial ?_)
    | (refine ok_region (i := 6) ?_; refine ok_p rfl rfl rfl (by exact ps_assign rfl rfl) ?_; refine ok_nil ?_; refine ok_env [(2, _)] ⟨rfl, trivial⟩ ?_)
    | (refine ok_region (i := 7) ?_; refine ok_p rfl rfl rfl (by exact ps_move rfl rfl) ?_; refine ok_p rfl rfl rfl (by exact ps_nil rfl rfl (by exact isw_ga _)) ?_; refine ok_p rfl rfl rfl (by exact ps_field rfl rfl (by exact isw_ga _)) ?_; refine ok_p rfl rfl rfl (by exact ps_load rfl rfl (by exact Rds.cell (rds_box 0 rfl) rfl)) ?_; refine ok_p rfl rfl rfl (by exact ps_move rfl rfl) ?_; refine ok_p rfl rfl rfl (by exact ps_add rfl rfl rfl (by omega)) ?_; refine ok_p rfl rfl rfl (by exact ps_nil rfl rfl (by exact isw_ga _)) ?_; refine ok_p rfl rfl rfl (by exact ps_field rfl rfl (by exact isw_ga _)) ?_; refine ok_m_ rfl rfl (by exact ms_store 0 rfl rfl rfl rfl rfl rfl rfl rfl) ?_; rintro y_ hy_; refine ok_nil ?_; refine ok_env [(3, _)] ⟨rfl, trivial⟩ ?_)
    | (refine ok_region (i := 8) ?_; refine ok_p rfl rfl rfl (by exact ps_move rfl rfl) ?_; refine ok_p rfl rfl rfl (by exact ps_assign rfl rfl) ?_; refine ok_nil ?_; refine ok_env [(2, _)] ⟨rfl, trivial⟩ ?_))
  · have h0 : (rvN ((bl s).drop k)).2 = 0 := by omega
    have e : rdN s k false = (0, k, true) := by unfold rdN; rw [if_neg (by simp), z, if_pos h0]
    rw [e]
    exact ok_endL (vs := [_]) rfl ⟨rfl, trivial⟩ (fun w' hw => ⟨mkY none 0 w, rfl, trivial, hw⟩)
  · have h0 : ¬ (rvN ((bl s).drop k)).2 = 0 := by omega
    have e : rdN s k false = ((rvN ((bl s).drop k)).1, k + (rvN ((bl s).drop k)).2, false) := by unfold rdN; rw [if_neg (by simp), z, if_neg h0]
    rw [e]
    exact ok_endL (vs := [_]) rfl ⟨rfl, trivial⟩ (fun w' hw => ⟨mkY none 0 w, rfl, trivial, hw⟩)
theorem rdS_c (g : Nat) (s : ByteArray) (k : Nat) (bad : Bool) (hs : s.size ≤ 4194304) (hk : k ≤ s.size) {base : Nat} {w0 w : World} {H : List HObj} {G : List World} (hw : WOk base w0 (rdr g s k bad :: H) G w) :
    Calls Try.prog 125 #[pt (ga g) 0] w fun e w' => ∃ y : Ys, e = .returned (.string (rdS s k bad).1) ∧ True ∧ WOk base w0 (rdr g s (rdS s k bad).2.1 (rdS s k bad).2.2 :: H) G w' := by
  have hb := rdN_le s k bad hk
  refine ok_enterW 9 Try.func125 rfl rfl rfl hw ?_
  repeat' (first
    | refine ok_seq ?_
    | refine ok_then ?_
    | refine ok_ret ?_
    | (refine ok_region (i := 0) ?_; refine ok_p rfl rfl rfl (by exact ps_assign rfl rfl) ?_; refine ok_nil ?_; refine ok_env [(0, _)] ⟨rfl, trivial⟩ ?_)
    | (refine ok_region (i := 1) ?_; refine ok_p rfl rfl rfl (by exact ps_move rfl rfl) ?_; refine ok_m rfl rfl rfl (by exact ms_w1 (fun _ _ _ h => h) rfl rfl (fun _ _ w hw => rdN_c g s k bad hs hk hw)) ?_; rintro y5 hy5; refine ok_p rfl rfl rfl (by exact ps_assign rfl rfl) ?_; refine ok_nil ?_; refine ok_env [(0, _), (3, _)] ⟨rfl, rfl, trivial⟩ ?_)
    | (refine ok_region (i := 2) ?_; refine ok_p rfl rfl rfl (by exact ps_move rfl rfl) ?_; refine ok_p rfl rfl rfl (by exact ps_move rfl rfl) ?_; refine ok_m rfl rfl rfl (by exact ms_w2 (fun _ _ _ h => h) rfl rfl rfl (fun _ _ w hw => rdB_c g s (rdN s k bad).1 (rdN s k bad).2.1 (rdN s k bad).2.2 hs hb.1 hb.2 hw)) ?_; rintro y8 hy8; refine ok_p rfl rfl rfl (by exact ps_assign rfl rfl) ?_; refine ok_nil ?_; refine ok_env [(2, _)] ⟨rfl, trivial⟩ ?_))
  exact ok_endL (vs := [_]) rfl ⟨rfl, trivial⟩ (fun w' hw => ⟨mkY none 0 w, rfl, trivial, hw⟩)
def rdD (s : ByteArray) (k : Nat) (bad : Bool) : Bool := !bad && ((k : Int) == (s.size : Int))
theorem rdD_c (g : Nat) (s : ByteArray) (k : Nat) (bad : Bool) {base : Nat} {w0 w : World} {H : List HObj} {G : List World} (hw : WOk base w0 (rdr g s k bad :: H) G w) :
    Calls Try.prog 126 #[pt (ga g) 0] w fun e w' => ∃ y : Ys, e = .returned (.bool (rdD s k bad)) ∧ True ∧ WOk base w0 (rdr g s k bad :: H) G w' := by
  refine ok_enterW 20 Try.func126 rfl rfl rfl hw ?_
  repeat' (first
    | refine ok_seq ?_
    | refine ok_then ?_
    | refine ok_ret ?_
    | (refine ok_region (i := 0) ?_; refine ok_p rfl rfl rfl (by exact ps_assign rfl rfl) ?_; refine ok_nil ?_; refine ok_env [(0, _)] ⟨rfl, trivial⟩ ?_)
    | (refine ok_draw (id := 1) 18 rfl (by kernel_rfl) (by kernel_rfl) rfl (by repeat (first | exact pq_body | refine pq_then ?_ | refine pq_in ?_)) [0, 1, 2, 3, 4, 5, 6, 7, 8, 9, 10, 11, 12, 13, 14, 15, 16, 17, 18, 19, 20, 21, 22, 23] (by decide) rfl ?_; refine okT_take (i := 0) rfl (by kernel_rfl) rfl rfl rfl (by exact ps_move rfl rfl) ?_; refine okT_take (i := 1) rfl (by kernel_rfl) rfl rfl rfl (by exact ps_nil rfl rfl (by exact isw_ga _)) ?_; refine okT_take (i := 2) rfl (by kernel_rfl) rfl rfl rfl (by exact ps_field rfl rfl (by exact isw_ga _)) ?_; refine okT_take (i := 3) rfl (by kernel_rfl) rfl rfl rfl (by exact ps_load rfl rfl (by exact Rds.cell (rds_box 0 rfl) rfl)) ?_; refine okT_take (i := 4) rfl (by kernel_rfl) rfl rfl rfl (by exact ps_not rfl rfl) ?_; refine okT_take (i := 5) rfl (by kernel_rfl) rfl rfl rfl (by exact ps_move rfl rfl) ?_; refine okT_take_g1 (i := 6) rfl (by kernel_rfl) rfl rfl rfl rfl rfl (gT _) (fun hp => by (have hpd := hp; (try simp only [decide_eq_true_eq, decide_eq_false_iff_not, Bool.or_eq_true, Bool.or_eq_false_iff, Bool.and_eq_true, Bool.and_eq_false_iff, Bool.not_eq_true', Bool.not_eq_false', bne_iff_ne, beq_iff_eq, bne_eq_false_iff_eq, beq_eq_false_iff_ne, ne_eq, Bool.not_true, Bool.not_false, Bool.false_eq_true, Bool.true_eq_false, inB_true, inB_false] at hpd); exact ps_move rfl (by exact rfl))) ?_; refine okT_take_g1 (i := 7) rfl (by kernel_rfl) rfl rfl rfl rfl rfl (gT _) (fun hp => by (have hpd := hp; (try simp only [decide_eq_true_eq, decide_eq_false_iff_not, Bool.or_eq_true, Bool.or_eq_false_iff, Bool.and_eq_true, Bool.and_eq_false_iff, Bool.not_eq_true', Bool.not_eq_false', bne_iff_ne, beq_iff_eq, bne_eq_false_iff_eq, beq_eq_false_iff_ne, ne_eq, Bool.not_true, Bool.not_false, Bool.false_eq_true, Bool.true_eq_false, inB_true, inB_false] at hpd); exact ps_nil rfl (by (refine og rfl ?_; assumption)) (by exact isw_ga _))) ?_; refine okT_take_g1 (i := 8) rfl (by kernel_rfl) rfl rfl rfl rfl rfl (gT _) (fun hp => by (have hpd := hp; (try simp only [decide_eq_true_eq, decide_eq_false_iff_not, Bool.or_eq_true, Bool.or_eq_false_iff, Bool.and_eq_true, Bool.and_eq_false_iff, Bool.not_eq_true', Bool.not_eq_false', bne_iff_ne, beq_iff_eq, bne_eq_false_iff_eq, beq_eq_false_iff_ne, ne_eq, Bool.not_true, Bool.not_false, Bool.false_eq_true, Bool.true_eq_false, inB_true, inB_false] at hpd); exact ps_field rfl (by (refine og rfl ?_; assumption)) (by exact isw_ga _))) ?_; refine okT_take_g1 (i := 9) rfl (by kernel_rfl) rfl rfl rfl rfl rfl (gT _) (fun hp => by (have hpd := hp; (try simp only [decide_eq_true_eq, decide_eq_false_iff_not, Bool.or_eq_true, Bool.or_eq_false_iff, Bool.and_eq_true, Bool.and_eq_false_iff, Bool.not_eq_true', Bool.not_eq_false', bne_iff_ne, beq_iff_eq, bne_eq_false_iff_eq, beq_eq_false_iff_ne, ne_eq, Bool.not_true, Bool.not_false, Bool.false_eq_true, Bool.true_eq_false, inB_true, inB_false] at hpd); exact ps_load rfl (by (refine og rfl ?_; assumption)) (by exact Rds.cell (rds_box 0 rfl) rfl))) ?_; refine okT_take_g1 (i := 10) rfl (by kernel_rfl) rfl rfl rfl rfl rfl (gT _) (fun hp => by (have hpd := hp; (try simp only [decide_eq_true_eq, decide_eq_false_iff_not, Bool.or_eq_true, Bool.or_eq_false_iff, Bool.and_eq_true, Bool.and_eq_false_iff, Bool.not_eq_true', Bool.not_eq_false', bne_iff_ne, beq_iff_eq, bne_eq_false_iff_eq, beq_eq_false_iff_ne, ne_eq, Bool.not_true, Bool.not_false, Bool.false_eq_true, Bool.true_eq_false, inB_true, inB_false] at hpd); exact ps_move rfl (by exact rfl))) ?_; refine okT_take_g1 (i := 11) rfl (by kernel_rfl) rfl rfl rfl rfl rfl (gT _) (fun hp => by (have hpd := hp; (try simp only [decide_eq_true_eq, decide_eq_false_iff_not, Bool.or_eq_true, Bool.or_eq_false_iff, Bool.and_eq_true, Bool.and_eq_false_iff, Bool.not_eq_true', Bool.not_eq_false', bne_iff_ne, beq_iff_eq, bne_eq_false_iff_eq, beq_eq_false_iff_ne, ne_eq, Bool.not_true, Bool.not_false, Bool.false_eq_true, Bool.true_eq_false, inB_true, inB_false] at hpd); exact ps_nil rfl (by (refine og rfl ?_; assumption)) (by exact isw_ga _))) ?_; refine okT_take_g1 (i := 12) rfl (by kernel_rfl) rfl rfl rfl rfl rfl (gT _) (fun hp => by (have hpd := hp; (try simp only [decide_eq_true_eq, decide_eq_false_iff_not, Bool.or_eq_true, Bool.or_eq_false_iff, Bool.and_eq_true, Bool.and_eq_false_iff, Bool.not_eq_true', Bool.not_eq_false', bne_iff_ne, beq_iff_eq, bne_eq_false_iff_eq, beq_eq_false_iff_ne, ne_eq, Bool.not_true, Bool.not_false, Bool.false_eq_true, Bool.true_eq_false, inB_true, inB_false] at hpd); exact ps_field rfl (by (refine og rfl ?_; assumption)) (by exact isw_ga _))) ?_; refine okT_take_g1 (i := 13) rfl (by kernel_rfl) rfl rfl rfl rfl rfl (gT _) (fun hp => by (have hpd := hp; (try simp only [decide_eq_true_eq, decide_eq_false_iff_not, Bool.or_eq_true, Bool.or_eq_false_iff, Bool.and_eq_true, Bool.and_eq_false_iff, Bool.not_eq_true', Bool.not_eq_false', bne_iff_ne, beq_iff_eq, bne_eq_false_iff_eq, beq_eq_false_iff_ne, ne_eq, Bool.not_true, Bool.not_false, Bool.false_eq_true, Bool.true_eq_false, inB_true, inB_false] at hpd); exact ps_load rfl (by (refine og rfl ?_; assumption)) (by exact Rds.cell (rds_box 0 rfl) rfl))) ?_; refine okT_take_g1 (i := 14) rfl (by kernel_rfl) rfl rfl rfl rfl rfl (gT _) (fun hp => by (have hpd := hp; (try simp only [decide_eq_true_eq, decide_eq_false_iff_not, Bool.or_eq_true, Bool.or_eq_false_iff, Bool.and_eq_true, Bool.and_eq_false_iff, Bool.not_eq_true', Bool.not_eq_false', bne_iff_ne, beq_iff_eq, bne_eq_false_iff_eq, beq_eq_false_iff_ne, ne_eq, Bool.not_true, Bool.not_false, Bool.false_eq_true, Bool.true_eq_false, inB_true, inB_false] at hpd); exact ps_slen rfl (by (refine og rfl ?_; assumption)))) ?_; refine okT_take_g1 (i := 15) rfl (by kernel_rfl) rfl rfl rfl rfl rfl (gT _) (fun hp => by (have hpd := hp; (try simp only [decide_eq_true_eq, decide_eq_false_iff_not, Bool.or_eq_true, Bool.or_eq_false_iff, Bool.and_eq_true, Bool.and_eq_false_iff, Bool.not_eq_true', Bool.not_eq_false', bne_iff_ne, beq_iff_eq, bne_eq_false_iff_eq, beq_eq_false_iff_ne, ne_eq, Bool.not_true, Bool.not_false, Bool.false_eq_true, Bool.true_eq_false, inB_true, inB_false] at hpd); exact ps_int rfl (by (refine og rfl ?_; assumption)) (by (refine og rfl ?_; assumption)) rfl)) ?_; refine okT_take (i := 16) rfl (by kernel_rfl) rfl rfl rfl (by exact ps_and rfl rfl rfl) ?_; refine okT_take (i := 17) rfl (by kernel_rfl) rfl rfl rfl (by exact ps_assign rfl rfl) ?_; refine okT_done (by kernel_rfl) ?_; refine ok_nil ?_; refine ok_env [(2, _)] ⟨rfl, trivial⟩ ?_))
  exact ok_endL (vs := [_]) rfl ⟨rfl, trivial⟩ (fun w' hw => ⟨mkY none 0 w, rfl, trivial, hw⟩)
/-- The reference takes pieces. -/
def tkV (s : ByteArray) (z : Int) : Option (Nat × Nat) := if 0 ≤ z ∧ z ≤ s.size then tkN s z.toNat else none
def tkW (s : ByteArray) (z : Int) : Option (ByteArray × Nat) := if 0 ≤ z ∧ z ≤ s.size then tkS s z.toNat else none
def tkE {α : Type} (r : Option (α × Nat)) : Int := match r with
  | none => -1
  | some p => p.2
def tkL (r : Option (Nat × Nat)) : List Int := match r with
  | none => []
  | some p => [(p.1 : Int)]
def tkT (r : Option (ByteArray × Nat)) : ByteArray := match r with
  | none => ⟨#[]⟩
  | some p => p.1
structure VarI (s : ByteArray) (z : Int) where
  i : Nat
  at_ : Int
  l : List Int
  A : Option Addr
  c : Nat
  ok : (i = 0 ∧ at_ = z ∧ l = []) ∨ (i = 1 ∧ tkE (tkV s z) = at_ ∧ l = tkL (tkV s z) ∧ l.length = 1 ∧ 0 ≤ at_ ∧ at_ ≤ s.size)
theorem s_l6Vars1 (s : ByteArray) (z : Int) (hs : s.size ≤ 4194304) (hz : -9223372036854775808 ≤ z ∧ z ≤ 9223372036854775807) (w : World) :
    Calls Try.prog 128 #[.string s, .int .i64 z, .int .i64 1] w fun e w' => ∃ y : Ys, e = .returned (.tuple #[.slice (y 0).A (tkL (tkV s z)).length (y 0).c, .int .i64 (tkE (tkV s z))]) ∧ True ∧ Below w.heap.size w w' ∧ NewOk w.heap.size [.row 3 1 (y 0).A (tkL (tkV s z)).length (y 0).c (fl (tkL (tkV s z)))] [] w' := by
  refine ok_enter 46 Try.func128 rfl rfl rfl ?_
  repeat' (first
    | refine ok_seq ?_
    | refine ok_then ?_
    | refine ok_block ?_
    | (refine ok_region (i := 0) ?_; refine ok_p rfl rfl rfl (by exact ps_assign rfl rfl) ?_; refine ok_p rfl rfl rfl (by exact ps_assign rfl rfl) ?_; refine ok_nil ?_; refine ok_env [(0, _), (1, _), (2, _)] ⟨rfl, rfl, rfl, trivial⟩ ?_)
    | (refine ok_region (i := 1) ?_; refine ok_m rfl rfl rfl (by exact ms_lit rfl parts_nil rfl rfl rfl) ?_; rintro y12 hy12; refine ok_p rfl rfl rfl (by exact ps_assign rfl rfl) ?_; refine ok_nil ?_; refine ok_env [(0, _), (1, _), (2, _), (8, _)] ⟨rfl, rfl, rfl, rfl, trivial⟩ ?_)
    | (refine ok_region (i := 2) ?_; refine ok_p rfl rfl rfl (by exact ps_assign rfl rfl) ?_; refine ok_nil ?_; refine ok_env [(0, _), (1, _), (2, _), (8, _), (9, _)] ⟨rfl, rfl, rfl, rfl, rfl, trivial⟩ ?_))
  refine ok_loop (ι := VarI s z) (fun q => 1 - q.i) (fun q => ([(0, .string s), (1, .int .i64 q.at_), (2, .int .i64 1), (8, .slice q.A q.l.length q.c), (9, .int .i64 q.i)], [.row 3 1 q.A q.l.length q.c (fl q.l)], _)) ⟨0, z, [], none, 0, .inl ⟨rfl, rfl, rfl⟩⟩ (fun a w he hw => ⟨⟨0, z, [], ga (y12 0).c, 0, .inl ⟨rfl, rfl, rfl⟩⟩, he.sub ⟨rfl, rfl, rfl, rfl, rfl, trivial⟩, hw⟩) ?_
  rintro ⟨i, at_, l, A, c, ok⟩
  simp only
  rcases ok with ⟨rfl, rfl, rfl⟩ | ⟨rfl, e1, e2, e3, e4, e5⟩
  · have q := fun (h : 0 ≤ at_ ∧ at_ ≤ s.size) => rvN_tk s at_.toNat (by omega)
    have zz := tkN_z s at_.toNat
    have hlt := fun (h : 0 ≤ at_ ∧ at_ ≤ s.size) (h0 : ¬ (rvN ((bl s).drop at_.toNat)).2 = 0) => tkN_some (s := s) (k := at_.toNat) (by rw [zz, if_neg h0])
    have Q := Lib.hid q
    have ZZ := Lib.hid zz
    have HLT := Lib.hid hlt
    clear q zz hlt
    have b7 : (rvN ((bl s).drop at_.toNat)).2 ≤ 7 := by
      unfold rvN
      cases hr : rv ((bl s).drop at_.toNat) with
      | none => simp
      | some p => obtain ⟨m, z⟩ := p; exact (rv_some hr).2.1
    repeat' (first
      | refine ok_seq ?_
      | refine ok_then ?_
      | refine ok_then_ret ?_
      | refine ok_block ?_
      | refine ok_in_normal ?_
      | refine ok_in_ret ?_
      | (refine ok_cond rfl (fun hc => ?_) (fun hc => ?_) <;> (have hd := hc; (try simp only [decide_eq_true_eq, decide_eq_false_iff_not, Bool.or_eq_true, Bool.or_eq_false_iff, Bool.and_eq_true, Bool.and_eq_false_iff, Bool.not_eq_true', Bool.not_eq_false', bne_iff_ne, beq_iff_eq, bne_eq_false_iff_eq, beq_eq_false_iff_ne, ne_eq, Bool.not_true, Bool.not_false, Bool.false_eq_true, Bool.true_eq_false, inB_true, inB_false] at hd)))
      | refine ok_ret ?_
      | refine ok_exit ?_
      | refine ok_skip ?_
      | (refine ok_region (i := 3) ?_; refine ok_p rfl rfl rfl (by exact ps_move rfl rfl) ?_; refine ok_p rfl rfl rfl (by exact ps_move rfl rfl) ?_; refine ok_p rfl rfl rfl (by exact ps_int rfl rfl rfl rfl) ?_; refine ok_nil ?_; refine ok_env [(0, _), (1, _), (2, _), (8, _), (9, _), (15, _)] ⟨rfl, rfl, rfl, rfl, rfl, rfl, trivial⟩ ?_)
      | (refine ok_region (i := 4) ?_; refine ok_p rfl rfl rfl (by exact ps_move rfl rfl) ?_; refine ok_p rfl rfl rfl (by exact ps_add rfl rfl rfl (by omega)) ?_; refine ok_p rfl rfl rfl (by exact ps_assign rfl rfl) ?_; refine ok_nil ?_; refine ok_env [(0, _), (1, _), (2, _), (8, _), (9, _)] ⟨rfl, rfl, rfl, rfl, rfl, trivial⟩ ?_)
      | (refine ok_region (i := 5) ?_; refine ok_p rfl rfl rfl (by exact ps_move rfl rfl) ?_; refine ok_p rfl rfl rfl (by exact ps_int rfl rfl rfl rfl) ?_; refine ok_p rfl rfl rfl (by exact ps_move rfl rfl) ?_; refine ok_pg rfl rfl rfl rfl rfl (gF _) (fun hp => by (have hpd := hp; (try simp only [decide_eq_true_eq, decide_eq_false_iff_not, Bool.or_eq_true, Bool.or_eq_false_iff, Bool.and_eq_true, Bool.and_eq_false_iff, Bool.not_eq_true', Bool.not_eq_false', bne_iff_ne, beq_iff_eq, bne_eq_false_iff_eq, beq_eq_false_iff_ne, ne_eq, Bool.not_true, Bool.not_false, Bool.false_eq_true, Bool.true_eq_false, inB_true, inB_false] at hpd); exact ps_move rfl (by exact rfl))) ?_; refine ok_pg rfl rfl rfl rfl rfl (gF _) (fun hp => by (have hpd := hp; (try simp only [decide_eq_true_eq, decide_eq_false_iff_not, Bool.or_eq_true, Bool.or_eq_false_iff, Bool.and_eq_true, Bool.and_eq_false_iff, Bool.not_eq_true', Bool.not_eq_false', bne_iff_ne, beq_iff_eq, bne_eq_false_iff_eq, beq_eq_false_iff_ne, ne_eq, Bool.not_true, Bool.not_false, Bool.false_eq_true, Bool.true_eq_false, inB_true, inB_false] at hpd); exact ps_move rfl (by exact rfl))) ?_; refine ok_pg rfl rfl rfl rfl rfl (gF _) (fun hp => by (have hpd := hp; (try simp only [decide_eq_true_eq, decide_eq_false_iff_not, Bool.or_eq_true, Bool.or_eq_false_iff, Bool.and_eq_true, Bool.and_eq_false_iff, Bool.not_eq_true', Bool.not_eq_false', bne_iff_ne, beq_iff_eq, bne_eq_false_iff_eq, beq_eq_false_iff_ne, ne_eq, Bool.not_true, Bool.not_false, Bool.false_eq_true, Bool.true_eq_false, inB_true, inB_false] at hpd); exact ps_slen rfl (by (refine og rfl ?_; assumption)))) ?_; refine ok_pg rfl rfl rfl rfl rfl (gF _) (fun hp => by (have hpd := hp; (try simp only [decide_eq_true_eq, decide_eq_false_iff_not, Bool.or_eq_true, Bool.or_eq_false_iff, Bool.and_eq_true, Bool.and_eq_false_iff, Bool.not_eq_true', Bool.not_eq_false', bne_iff_ne, beq_iff_eq, bne_eq_false_iff_eq, beq_eq_false_iff_ne, ne_eq, Bool.not_true, Bool.not_false, Bool.false_eq_true, Bool.true_eq_false, inB_true, inB_false] at hpd); exact ps_int rfl (by (refine og rfl ?_; assumption)) (by (refine og rfl ?_; assumption)) rfl)) ?_; refine ok_p rfl rfl rfl (by exact ps_or rfl rfl rfl) ?_; refine ok_nil ?_; refine ok_env [(0, _), (1, _), (2, _), (8, _), (9, _), (25, _)] ⟨rfl, rfl, rfl, rfl, rfl, rfl, trivial⟩ ?_)
      | (refine ok_region (i := 6) ?_; refine ok_p rfl rfl rfl (by exact ps_move rfl rfl) ?_; refine ok_p rfl rfl rfl (by exact ps_assign rfl rfl) ?_; refine ok_p rfl rfl rfl (by exact ps_assign rfl rfl) ?_; refine ok_nil ?_; refine ok_env [(6, _), (7, _)] ⟨rfl, rfl, trivial⟩ ?_)
      | (refine ok_region (i := 7) ?_; refine ok_p rfl rfl rfl (by exact ps_move rfl rfl) ?_; refine ok_p rfl rfl rfl (by exact ps_move rfl rfl) ?_; refine ok_p rfl rfl rfl (by exact ps_sslE at_.toNat s.size rfl rfl ⟨_, _, rfl, by omega⟩ rfl (by omega) (by omega)) ?_; refine ok_m rfl rfl rfl (by exact ms_s1 rfl rfl (fun _ _ w hw => by have := s_ReadVar_c (s.extract at_.toNat s.size) (by rw [ByteArray.size_extract]; omega) w; rw [Q.out (by omega)] at this; exact this)) ?_; rintro y31 hy31; refine ok_p rfl rfl rfl (by exact ps_move rfl rfl) ?_; refine ok_p rfl rfl rfl (by exact ps_extract rfl rfl rfl) ?_; refine ok_p rfl rfl rfl (by exact ps_extract rfl rfl rfl) ?_; refine ok_p rfl rfl rfl (by exact ps_assign rfl rfl) ?_; refine ok_p rfl rfl rfl (by exact ps_assign rfl rfl) ?_; refine ok_nil ?_; refine ok_env [(0, _), (1, _), (2, _), (8, _), (9, _), (10, _), (11, _)] ⟨rfl, rfl, rfl, rfl, rfl, rfl, rfl, trivial⟩ ?_)
      | (refine ok_region (i := 8) ?_; refine ok_p rfl rfl rfl (by exact ps_move rfl rfl) ?_; refine ok_p rfl rfl rfl (by exact ps_int rfl rfl rfl rfl) ?_; refine ok_nil ?_; refine ok_env [(0, _), (1, _), (2, _), (8, _), (9, _), (10, _), (11, _), (35, _)] ⟨rfl, rfl, rfl, rfl, rfl, rfl, rfl, rfl, trivial⟩ ?_)
      | (refine ok_region (i := 9) ?_; refine ok_p rfl rfl rfl (by exact ps_move rfl rfl) ?_; refine ok_p rfl rfl rfl (by exact ps_assign rfl rfl) ?_; refine ok_p rfl rfl rfl (by exact ps_assign rfl rfl) ?_; refine ok_nil ?_; refine ok_env [(6, _), (7, _)] ⟨rfl, rfl, trivial⟩ ?_)
      | (refine ok_region (i := 10) ?_; refine ok_p rfl rfl rfl (by exact ps_move rfl rfl) ?_; refine ok_p rfl rfl rfl (by exact ps_move rfl rfl) ?_; refine ok_m rfl rfl rfl (by exact ms_lit rfl (parts_cons rfl parts_nil) rfl rfl rfl) ?_; rintro y39 hy39; refine ok_m rfl rfl rfl (by exact ms_appF (α := Int) (L := []) (M := [((rvN ((bl s).drop at_.toNat)).1 : Int)]) 1 rfl rfl rfl rfl (rds_row 0 rfl) rfl (by simp) (by simp)) ?_; rintro y40 hy40; refine ok_p rfl rfl rfl (by exact ps_assign rfl rfl) ?_; refine ok_nil ?_; refine ok_env [(0, _), (1, _), (2, _), (8, _), (9, _), (11, _)] ⟨rfl, rfl, rfl, rfl, rfl, rfl, trivial⟩ ?_)
      | (refine ok_region (i := 11) ?_; refine ok_p rfl rfl rfl (by exact ps_move rfl rfl) ?_; refine ok_p rfl rfl rfl (by exact ps_move rfl rfl) ?_; refine ok_p rfl rfl rfl (by exact ps_add rfl rfl rfl (by omega)) ?_; refine ok_p rfl rfl rfl (by exact ps_assign rfl rfl) ?_; refine ok_nil ?_; refine ok_env [(0, _), (1, _), (2, _), (8, _), (9, _)] ⟨rfl, rfl, rfl, rfl, rfl, trivial⟩ ?_)
      | (refine ok_region (i := 12) ?_; refine ok_p rfl rfl rfl (by exact ps_move rfl rfl) ?_; refine ok_p rfl rfl rfl (by exact ps_move rfl rfl) ?_; refine ok_p rfl rfl rfl (by exact ps_assign rfl rfl) ?_; refine ok_p rfl rfl rfl (by exact ps_assign rfl rfl) ?_; refine ok_nil ?_; refine ok_env [(6, _), (7, _)] ⟨rfl, rfl, trivial⟩ ?_))
    · have e : tkV s at_ = none := by unfold tkV; rw [if_neg (by omega)]
      rw [e]
      refine ok_endL (vs := [_, _]) rfl ⟨rfl, rfl, trivial⟩ (fun w' hw => ⟨mkY A c w, rfl, trivial, hw.below, ?_⟩)
      exact NewOk.of (hw.sel [0] (by decide) rfl (G' := []) (fun _ h => by cases h))
    · have e : tkV s at_ = none := by unfold tkV; rw [if_pos (by omega), ZZ.out, if_pos (by omega)]
      rw [e]
      refine ok_endL (vs := [_, _]) rfl ⟨rfl, rfl, trivial⟩ (fun w' hw => ⟨mkY A c w, rfl, trivial, hw.below, ?_⟩)
      exact NewOk.of (hw.sel [0] (by decide) rfl (G' := []) (fun _ h => by cases h))
    · have e : tkV s at_ = some ((rvN ((bl s).drop at_.toNat)).1, at_.toNat + (rvN ((bl s).drop at_.toNat)).2) := by unfold tkV; rw [if_pos (by omega), ZZ.out, if_neg (by omega)]
      have hh := HLT.out (by omega) (by omega)
      refine fun a w' he hw => ⟨⟨1, at_ + (rvN ((bl s).drop at_.toNat)).2, [((rvN ((bl s).drop at_.toNat)).1 : Int)], (y40 0).A, (y40 0).c, .inr ⟨rfl, ?_, ?_, rfl, by omega, by omega⟩⟩, by simp only; omega, he.sub ⟨rfl, rfl, rfl, rfl, rfl, trivial⟩, hw.tl⟩
      · rw [e]; simp only [tkE]; omega
      · rw [e]; rfl
    · omega
  · skip
    repeat' (first
      | refine ok_seq ?_
      | refine ok_then ?_
      | refine ok_then_ret ?_
      | refine ok_block ?_
      | refine ok_in_ret ?_
      | (refine ok_cond rfl (fun hc => ?_) (fun hc => ?_) <;> (have hd := hc; (try simp only [decide_eq_true_eq, decide_eq_false_iff_not, Bool.or_eq_true, Bool.or_eq_false_iff, Bool.and_eq_true, Bool.and_eq_false_iff, Bool.not_eq_true', Bool.not_eq_false', bne_iff_ne, beq_iff_eq, bne_eq_false_iff_eq, beq_eq_false_iff_ne, ne_eq, Bool.not_true, Bool.not_false, Bool.false_eq_true, Bool.true_eq_false, inB_true, inB_false] at hd)))
      | refine ok_ret ?_
      | refine ok_exit ?_
      | refine ok_skip ?_
      | (refine ok_region (i := 3) ?_; refine ok_p rfl rfl rfl (by exact ps_move rfl rfl) ?_; refine ok_p rfl rfl rfl (by exact ps_move rfl rfl) ?_; refine ok_p rfl rfl rfl (by exact ps_int rfl rfl rfl rfl) ?_; refine ok_nil ?_; refine ok_env [(0, _), (1, _), (2, _), (8, _), (9, _), (15, _)] ⟨rfl, rfl, rfl, rfl, rfl, rfl, trivial⟩ ?_)
      | (refine ok_region (i := 5) ?_; refine ok_p rfl rfl rfl (by exact ps_move rfl rfl) ?_; refine ok_p rfl rfl rfl (by exact ps_int rfl rfl rfl rfl) ?_; refine ok_p rfl rfl rfl (by exact ps_move rfl rfl) ?_; refine ok_pg rfl rfl rfl rfl rfl (gF _) (fun hp => by (have hpd := hp; (try simp only [decide_eq_true_eq, decide_eq_false_iff_not, Bool.or_eq_true, Bool.or_eq_false_iff, Bool.and_eq_true, Bool.and_eq_false_iff, Bool.not_eq_true', Bool.not_eq_false', bne_iff_ne, beq_iff_eq, bne_eq_false_iff_eq, beq_eq_false_iff_ne, ne_eq, Bool.not_true, Bool.not_false, Bool.false_eq_true, Bool.true_eq_false, inB_true, inB_false] at hpd); exact ps_move rfl (by exact rfl))) ?_; refine ok_pg rfl rfl rfl rfl rfl (gF _) (fun hp => by (have hpd := hp; (try simp only [decide_eq_true_eq, decide_eq_false_iff_not, Bool.or_eq_true, Bool.or_eq_false_iff, Bool.and_eq_true, Bool.and_eq_false_iff, Bool.not_eq_true', Bool.not_eq_false', bne_iff_ne, beq_iff_eq, bne_eq_false_iff_eq, beq_eq_false_iff_ne, ne_eq, Bool.not_true, Bool.not_false, Bool.false_eq_true, Bool.true_eq_false, inB_true, inB_false] at hpd); exact ps_move rfl (by exact rfl))) ?_; refine ok_pg rfl rfl rfl rfl rfl (gF _) (fun hp => by (have hpd := hp; (try simp only [decide_eq_true_eq, decide_eq_false_iff_not, Bool.or_eq_true, Bool.or_eq_false_iff, Bool.and_eq_true, Bool.and_eq_false_iff, Bool.not_eq_true', Bool.not_eq_false', bne_iff_ne, beq_iff_eq, bne_eq_false_iff_eq, beq_eq_false_iff_ne, ne_eq, Bool.not_true, Bool.not_false, Bool.false_eq_true, Bool.true_eq_false, inB_true, inB_false] at hpd); exact ps_slen rfl (by (refine og rfl ?_; assumption)))) ?_; refine ok_pg rfl rfl rfl rfl rfl (gF _) (fun hp => by (have hpd := hp; (try simp only [decide_eq_true_eq, decide_eq_false_iff_not, Bool.or_eq_true, Bool.or_eq_false_iff, Bool.and_eq_true, Bool.and_eq_false_iff, Bool.not_eq_true', Bool.not_eq_false', bne_iff_ne, beq_iff_eq, bne_eq_false_iff_eq, beq_eq_false_iff_ne, ne_eq, Bool.not_true, Bool.not_false, Bool.false_eq_true, Bool.true_eq_false, inB_true, inB_false] at hpd); exact ps_int rfl (by (refine og rfl ?_; assumption)) (by (refine og rfl ?_; assumption)) rfl)) ?_; refine ok_p rfl rfl rfl (by exact ps_or rfl rfl rfl) ?_; refine ok_nil ?_; refine ok_env [(0, _), (1, _), (2, _), (8, _), (9, _), (25, _)] ⟨rfl, rfl, rfl, rfl, rfl, rfl, trivial⟩ ?_)
      | (refine ok_region (i := 6) ?_; refine ok_p rfl rfl rfl (by exact ps_move rfl rfl) ?_; refine ok_p rfl rfl rfl (by exact ps_assign rfl rfl) ?_; refine ok_p rfl rfl rfl (by exact ps_assign rfl rfl) ?_; refine ok_nil ?_; refine ok_env [(6, _), (7, _)] ⟨rfl, rfl, trivial⟩ ?_)
      | (refine ok_region (i := 12) ?_; refine ok_p rfl rfl rfl (by exact ps_move rfl rfl) ?_; refine ok_p rfl rfl rfl (by exact ps_move rfl rfl) ?_; refine ok_p rfl rfl rfl (by exact ps_assign rfl rfl) ?_; refine ok_p rfl rfl rfl (by exact ps_assign rfl rfl) ?_; refine ok_nil ?_; refine ok_env [(6, _), (7, _)] ⟨rfl, rfl, trivial⟩ ?_))
    · omega
    · omega
    · rw [e1, ← e2]
      refine ok_endL (vs := [_, _]) rfl ⟨rfl, rfl, trivial⟩ (fun w' hw => ⟨mkY A c w, rfl, trivial, hw.below, ?_⟩)
      exact NewOk.of (hw.sel [0] (by decide) rfl (G' := []) (fun _ h => by cases h))
theorem tkV_le {s : ByteArray} {z : Int} {n e : Nat} (h : tkV s z = some (n, e)) : e ≤ s.size ∧ n < 562949953421312 := by
  unfold tkV at h
  split at h
  · have := tkN_some h; omega
  · cases h
theorem s_l6Vars_no (s : ByteArray) (z : Int) (hs : s.size ≤ 4194304) (hz : -9223372036854775808 ≤ z ∧ z ≤ 9223372036854775807) (hv : tkV s z = none) (w : World) :
    Calls Try.prog 128 #[.string s, .int .i64 z, .int .i64 1] w fun e w' => ∃ y : Ys, e = .returned (.tuple #[.slice (y 0).A 0 (y 0).c, .int .i64 (-1)]) ∧ True ∧ Below w.heap.size w w' ∧ NewOk w.heap.size [.row 3 1 (y 0).A 0 (y 0).c (fl ([] : List Int))] [] w' := by
  have := s_l6Vars1 s z hs hz w
  rw [hv] at this
  exact this
theorem s_l6Vars_yes (s : ByteArray) (z : Int) (n q : Nat) (L : List Int) (hL : L = [(n : Int)]) (hs : s.size ≤ 4194304) (hz : -9223372036854775808 ≤ z ∧ z ≤ 9223372036854775807) (hv : tkV s z = some (n, q)) (w : World) :
    Calls Try.prog 128 #[.string s, .int .i64 z, .int .i64 1] w fun e w' => ∃ y : Ys, e = .returned (.tuple #[.slice (y 0).A 1 (y 0).c, .int .i64 q]) ∧ True ∧ Below w.heap.size w w' ∧ NewOk w.heap.size [.row 3 1 (y 0).A 1 (y 0).c (fl L)] [] w' := by
  subst hL
  have := s_l6Vars1 s z hs hz w
  rw [hv] at this
  exact this
theorem s_l6Take_c (s : ByteArray) (z : Int) (hs : s.size ≤ 4194304) (hz : -9223372036854775808 ≤ z ∧ z ≤ 9223372036854775807) (w : World) :
    Calls Try.prog 129 #[.string s, .int .i64 z] w fun e w' => e = .returned (.tuple #[.string (tkT (tkW s z)), .int .i64 (tkE (tkW s z))]) ∧ Below w.heap.size w w' := by
  cases hv : tkV s z with
  | none =>
    have e : tkW s z = none := by
      unfold tkV at hv
      unfold tkW
      split
      · rename_i h; rw [if_pos h] at hv; unfold tkS; rw [hv]; rfl
      · rfl
    rw [e]
    refine ok_enter 39 Try.func129 rfl rfl rfl ?_
    repeat' (first
      | refine ok_seq ?_
      | refine ok_then ?_
      | refine ok_then_ret ?_
      | (refine ok_cond rfl (fun hc => ?_) (fun hc => ?_) <;> (have hd := hc; (try simp only [decide_eq_true_eq, decide_eq_false_iff_not, Bool.or_eq_true, Bool.or_eq_false_iff, Bool.and_eq_true, Bool.and_eq_false_iff, Bool.not_eq_true', Bool.not_eq_false', bne_iff_ne, beq_iff_eq, bne_eq_false_iff_eq, beq_eq_false_iff_ne, ne_eq, Bool.not_true, Bool.not_false, Bool.false_eq_true, Bool.true_eq_false, inB_true, inB_false] at hd)))
      | refine ok_ret ?_
      | refine ok_skip ?_
      | (refine ok_region (i := 0) ?_; refine ok_p rfl rfl rfl (by exact ps_assign rfl rfl) ?_; refine ok_p rfl rfl rfl (by exact ps_assign rfl rfl) ?_; refine ok_nil ?_; refine ok_env [(0, _), (1, _)] ⟨rfl, rfl, trivial⟩ ?_)
      | (refine ok_region (i := 1) ?_; refine ok_p rfl rfl rfl (by exact ps_move rfl rfl) ?_; refine ok_p rfl rfl rfl (by exact ps_move rfl rfl) ?_; refine ok_m rfl rfl rfl (by exact ms_c3 rfl rfl rfl rfl (fun _ _ w hw => s_l6Vars_no s z hs hz hv w)) ?_; rintro y11 hy11; refine ok_p rfl rfl rfl (by exact ps_move rfl rfl) ?_; refine ok_p rfl rfl rfl (by exact ps_extract rfl rfl rfl) ?_; refine ok_p rfl rfl rfl (by exact ps_extract rfl rfl rfl) ?_; refine ok_p rfl rfl rfl (by exact ps_assign rfl rfl) ?_; refine ok_p rfl rfl rfl (by exact ps_assign rfl rfl) ?_; refine ok_nil ?_; refine ok_env [(0, _), (6, _), (7, _)] ⟨rfl, rfl, rfl, trivial⟩ ?_)
      | (refine ok_region (i := 2) ?_; refine ok_p rfl rfl rfl (by exact ps_move rfl rfl) ?_; refine ok_p rfl rfl rfl (by exact ps_int rfl rfl rfl rfl) ?_; refine ok_p rfl rfl rfl (by exact ps_move rfl rfl) ?_; refine ok_pg rfl rfl rfl rfl rfl (gF _) (fun hp => by (have hpd := hp; (try simp only [decide_eq_true_eq, decide_eq_false_iff_not, Bool.or_eq_true, Bool.or_eq_false_iff, Bool.and_eq_true, Bool.and_eq_false_iff, Bool.not_eq_true', Bool.not_eq_false', bne_iff_ne, beq_iff_eq, bne_eq_false_iff_eq, beq_eq_false_iff_ne, ne_eq, Bool.not_true, Bool.not_false, Bool.false_eq_true, Bool.true_eq_false, inB_true, inB_false] at hpd); exact ps_move rfl (by exact rfl))) ?_; refine ok_pg rfl rfl rfl rfl rfl (gF _) (fun hp => by (have hpd := hp; (try simp only [decide_eq_true_eq, decide_eq_false_iff_not, Bool.or_eq_true, Bool.or_eq_false_iff, Bool.and_eq_true, Bool.and_eq_false_iff, Bool.not_eq_true', Bool.not_eq_false', bne_iff_ne, beq_iff_eq, bne_eq_false_iff_eq, beq_eq_false_iff_ne, ne_eq, Bool.not_true, Bool.not_false, Bool.false_eq_true, Bool.true_eq_false, inB_true, inB_false] at hpd); exact ps_indexN rfl (by (refine og rfl ?_; assumption)) (by exact rfl) (by omega) (by exact isw_row 0 rfl (by omega)))) ?_; refine ok_pg rfl rfl rfl rfl rfl (gF _) (fun hp => by (have hpd := hp; (try simp only [decide_eq_true_eq, decide_eq_false_iff_not, Bool.or_eq_true, Bool.or_eq_false_iff, Bool.and_eq_true, Bool.and_eq_false_iff, Bool.not_eq_true', Bool.not_eq_false', bne_iff_ne, beq_iff_eq, bne_eq_false_iff_eq, beq_eq_false_iff_ne, ne_eq, Bool.not_true, Bool.not_false, Bool.false_eq_true, Bool.true_eq_false, inB_true, inB_false] at hpd); exact ps_load rfl (by (refine og rfl ?_; assumption)) (by exact Rds.cell (rds_row 0 rfl) (by exact fl_at0 _ _ (by omega) (by decide))))) ?_; refine ok_pg rfl rfl rfl rfl rfl (gF _) (fun hp => by (have hpd := hp; (try simp only [decide_eq_true_eq, decide_eq_false_iff_not, Bool.or_eq_true, Bool.or_eq_false_iff, Bool.and_eq_true, Bool.and_eq_false_iff, Bool.not_eq_true', Bool.not_eq_false', bne_iff_ne, beq_iff_eq, bne_eq_false_iff_eq, beq_eq_false_iff_ne, ne_eq, Bool.not_true, Bool.not_false, Bool.false_eq_true, Bool.true_eq_false, inB_true, inB_false] at hpd); exact ps_move rfl (by exact rfl))) ?_; refine ok_pg rfl rfl rfl rfl rfl (gF _) (fun hp => by (have hpd := hp; (try simp only [decide_eq_true_eq, decide_eq_false_iff_not, Bool.or_eq_true, Bool.or_eq_false_iff, Bool.and_eq_true, Bool.and_eq_false_iff, Bool.not_eq_true', Bool.not_eq_false', bne_iff_ne, beq_iff_eq, bne_eq_false_iff_eq, beq_eq_false_iff_ne, ne_eq, Bool.not_true, Bool.not_false, Bool.false_eq_true, Bool.true_eq_false, inB_true, inB_false] at hpd); exact ps_slen rfl (by (refine og rfl ?_; assumption)))) ?_; refine ok_pg rfl rfl rfl rfl rfl (gF _) (fun hp => by (have hpd := hp; (try simp only [decide_eq_true_eq, decide_eq_false_iff_not, Bool.or_eq_true, Bool.or_eq_false_iff, Bool.and_eq_true, Bool.and_eq_false_iff, Bool.not_eq_true', Bool.not_eq_false', bne_iff_ne, beq_iff_eq, bne_eq_false_iff_eq, beq_eq_false_iff_ne, ne_eq, Bool.not_true, Bool.not_false, Bool.false_eq_true, Bool.true_eq_false, inB_true, inB_false] at hpd); exact ps_move rfl (by exact rfl))) ?_; refine ok_pg rfl rfl rfl rfl rfl (gF _) (fun hp => by (have hpd := hp; (try simp only [decide_eq_true_eq, decide_eq_false_iff_not, Bool.or_eq_true, Bool.or_eq_false_iff, Bool.and_eq_true, Bool.and_eq_false_iff, Bool.not_eq_true', Bool.not_eq_false', bne_iff_ne, beq_iff_eq, bne_eq_false_iff_eq, beq_eq_false_iff_ne, ne_eq, Bool.not_true, Bool.not_false, Bool.false_eq_true, Bool.true_eq_false, inB_true, inB_false] at hpd); exact ps_sub rfl (by (refine og rfl ?_; assumption)) (by (refine og rfl ?_; assumption)) (by omega))) ?_; refine ok_pg rfl rfl rfl rfl rfl (gF _) (fun hp => by (have hpd := hp; (try simp only [decide_eq_true_eq, decide_eq_false_iff_not, Bool.or_eq_true, Bool.or_eq_false_iff, Bool.and_eq_true, Bool.and_eq_false_iff, Bool.not_eq_true', Bool.not_eq_false', bne_iff_ne, beq_iff_eq, bne_eq_false_iff_eq, beq_eq_false_iff_ne, ne_eq, Bool.not_true, Bool.not_false, Bool.false_eq_true, Bool.true_eq_false, inB_true, inB_false] at hpd); exact ps_int rfl (by (refine og rfl ?_; assumption)) (by (refine og rfl ?_; assumption)) rfl)) ?_; refine ok_p rfl rfl rfl (by exact ps_or rfl rfl rfl) ?_; refine ok_nil ?_; refine ok_env [(0, _), (6, _), (7, _), (25, _)] ⟨rfl, rfl, rfl, rfl, trivial⟩ ?_)
      | (refine ok_region (i := 3) ?_; refine ok_p rfl rfl rfl (by exact ps_assign rfl rfl) ?_; refine ok_p rfl rfl rfl (by exact ps_assign rfl rfl) ?_; refine ok_nil ?_; refine ok_env [(4, _), (5, _)] ⟨rfl, rfl, trivial⟩ ?_))
    · exact ok_endL (vs := [_, _]) rfl ⟨rfl, rfl, trivial⟩ (fun w' hw => ⟨rfl, hw.below⟩)
    · omega
  | some p =>
    obtain ⟨n, q⟩ := p
    have hl := tkV_le hv
    have e : tkW s z = if q + n ≤ s.size then some (s.extract q (q + n), q + n) else none := by
      unfold tkV at hv
      unfold tkW
      split at hv
      · rename_i h; rw [if_pos h]; unfold tkS; rw [hv]; rfl
      · cases hv
    rw [e]
    obtain ⟨L, hL⟩ : ∃ L, L = [(n : Int)] := ⟨_, rfl⟩
    have h1 : L.length = 1 := by rw [hL]; rfl
    have h2 : nth L (Int.toNat 0) = n := by rw [hL]; rfl
    refine ok_enter 39 Try.func129 rfl rfl rfl ?_
    repeat' (first
      | refine ok_seq ?_
      | refine ok_then ?_
      | refine ok_then_ret ?_
      | (refine ok_cond rfl (fun hc => ?_) (fun hc => ?_) <;> (have hd := hc; (try simp only [decide_eq_true_eq, decide_eq_false_iff_not, Bool.or_eq_true, Bool.or_eq_false_iff, Bool.and_eq_true, Bool.and_eq_false_iff, Bool.not_eq_true', Bool.not_eq_false', bne_iff_ne, beq_iff_eq, bne_eq_false_iff_eq, beq_eq_false_iff_ne, ne_eq, Bool.not_true, Bool.not_false, Bool.false_eq_true, Bool.true_eq_false, inB_true, inB_false] at hd)))
      | refine ok_ret ?_
      | refine ok_skip ?_
      | (refine ok_region (i := 0) ?_; refine ok_p rfl rfl rfl (by exact ps_assign rfl rfl) ?_; refine ok_p rfl rfl rfl (by exact ps_assign rfl rfl) ?_; refine ok_nil ?_; refine ok_env [(0, _), (1, _)] ⟨rfl, rfl, trivial⟩ ?_)
      | (refine ok_region (i := 1) ?_; refine ok_p rfl rfl rfl (by exact ps_move rfl rfl) ?_; refine ok_p rfl rfl rfl (by exact ps_move rfl rfl) ?_; refine ok_m rfl rfl rfl (by exact ms_c3 rfl rfl rfl rfl (fun _ _ w hw => s_l6Vars_yes s z n q L hL hs hz hv w)) ?_; rintro y11 hy11; refine ok_p rfl rfl rfl (by exact ps_move rfl rfl) ?_; refine ok_p rfl rfl rfl (by exact ps_extract rfl rfl rfl) ?_; refine ok_p rfl rfl rfl (by exact ps_extract rfl rfl rfl) ?_; refine ok_p rfl rfl rfl (by exact ps_assign rfl rfl) ?_; refine ok_p rfl rfl rfl (by exact ps_assign rfl rfl) ?_; refine ok_nil ?_; refine ok_env [(0, _), (6, _), (7, _)] ⟨rfl, rfl, rfl, trivial⟩ ?_)
      | (refine ok_region (i := 2) ?_; refine ok_p rfl rfl rfl (by exact ps_move rfl rfl) ?_; refine ok_p rfl rfl rfl (by exact ps_int rfl rfl rfl rfl) ?_; refine ok_p rfl rfl rfl (by exact ps_move rfl rfl) ?_; refine ok_pg rfl rfl rfl rfl rfl (gF _) (fun hp => by (have hpd := hp; (try simp only [decide_eq_true_eq, decide_eq_false_iff_not, Bool.or_eq_true, Bool.or_eq_false_iff, Bool.and_eq_true, Bool.and_eq_false_iff, Bool.not_eq_true', Bool.not_eq_false', bne_iff_ne, beq_iff_eq, bne_eq_false_iff_eq, beq_eq_false_iff_ne, ne_eq, Bool.not_true, Bool.not_false, Bool.false_eq_true, Bool.true_eq_false, inB_true, inB_false] at hpd); exact ps_move rfl (by exact rfl))) ?_; refine ok_pg rfl rfl rfl rfl rfl (gF _) (fun hp => by (have hpd := hp; (try simp only [decide_eq_true_eq, decide_eq_false_iff_not, Bool.or_eq_true, Bool.or_eq_false_iff, Bool.and_eq_true, Bool.and_eq_false_iff, Bool.not_eq_true', Bool.not_eq_false', bne_iff_ne, beq_iff_eq, bne_eq_false_iff_eq, beq_eq_false_iff_ne, ne_eq, Bool.not_true, Bool.not_false, Bool.false_eq_true, Bool.true_eq_false, inB_true, inB_false] at hpd); exact ps_index rfl (by (refine og rfl ?_; assumption)) (by exact rfl) (by omega) (by exact isw_row 0 rfl (by omega)))) ?_; refine ok_pg rfl rfl rfl rfl rfl (gF _) (fun hp => by (have hpd := hp; (try simp only [decide_eq_true_eq, decide_eq_false_iff_not, Bool.or_eq_true, Bool.or_eq_false_iff, Bool.and_eq_true, Bool.and_eq_false_iff, Bool.not_eq_true', Bool.not_eq_false', bne_iff_ne, beq_iff_eq, bne_eq_false_iff_eq, beq_eq_false_iff_ne, ne_eq, Bool.not_true, Bool.not_false, Bool.false_eq_true, Bool.true_eq_false, inB_true, inB_false] at hpd); exact ps_load rfl (by (refine og rfl ?_; assumption)) (by exact Rds.cell (rds_row 0 rfl) (by exact fl_at0 _ _ (by omega) (by decide))))) ?_; refine ok_pg rfl rfl rfl rfl rfl (gF _) (fun hp => by (have hpd := hp; (try simp only [decide_eq_true_eq, decide_eq_false_iff_not, Bool.or_eq_true, Bool.or_eq_false_iff, Bool.and_eq_true, Bool.and_eq_false_iff, Bool.not_eq_true', Bool.not_eq_false', bne_iff_ne, beq_iff_eq, bne_eq_false_iff_eq, beq_eq_false_iff_ne, ne_eq, Bool.not_true, Bool.not_false, Bool.false_eq_true, Bool.true_eq_false, inB_true, inB_false] at hpd); exact ps_move rfl (by exact rfl))) ?_; refine ok_pg rfl rfl rfl rfl rfl (gF _) (fun hp => by (have hpd := hp; (try simp only [decide_eq_true_eq, decide_eq_false_iff_not, Bool.or_eq_true, Bool.or_eq_false_iff, Bool.and_eq_true, Bool.and_eq_false_iff, Bool.not_eq_true', Bool.not_eq_false', bne_iff_ne, beq_iff_eq, bne_eq_false_iff_eq, beq_eq_false_iff_ne, ne_eq, Bool.not_true, Bool.not_false, Bool.false_eq_true, Bool.true_eq_false, inB_true, inB_false] at hpd); exact ps_slen rfl (by (refine og rfl ?_; assumption)))) ?_; refine ok_pg rfl rfl rfl rfl rfl (gF _) (fun hp => by (have hpd := hp; (try simp only [decide_eq_true_eq, decide_eq_false_iff_not, Bool.or_eq_true, Bool.or_eq_false_iff, Bool.and_eq_true, Bool.and_eq_false_iff, Bool.not_eq_true', Bool.not_eq_false', bne_iff_ne, beq_iff_eq, bne_eq_false_iff_eq, beq_eq_false_iff_ne, ne_eq, Bool.not_true, Bool.not_false, Bool.false_eq_true, Bool.true_eq_false, inB_true, inB_false] at hpd); exact ps_move rfl (by exact rfl))) ?_; refine ok_pg rfl rfl rfl rfl rfl (gF _) (fun hp => by (have hpd := hp; (try simp only [decide_eq_true_eq, decide_eq_false_iff_not, Bool.or_eq_true, Bool.or_eq_false_iff, Bool.and_eq_true, Bool.and_eq_false_iff, Bool.not_eq_true', Bool.not_eq_false', bne_iff_ne, beq_iff_eq, bne_eq_false_iff_eq, beq_eq_false_iff_ne, ne_eq, Bool.not_true, Bool.not_false, Bool.false_eq_true, Bool.true_eq_false, inB_true, inB_false] at hpd); exact ps_sub rfl (by (refine og rfl ?_; assumption)) (by (refine og rfl ?_; assumption)) (by omega))) ?_; refine ok_pg rfl rfl rfl rfl rfl (gF _) (fun hp => by (have hpd := hp; (try simp only [decide_eq_true_eq, decide_eq_false_iff_not, Bool.or_eq_true, Bool.or_eq_false_iff, Bool.and_eq_true, Bool.and_eq_false_iff, Bool.not_eq_true', Bool.not_eq_false', bne_iff_ne, beq_iff_eq, bne_eq_false_iff_eq, beq_eq_false_iff_ne, ne_eq, Bool.not_true, Bool.not_false, Bool.false_eq_true, Bool.true_eq_false, inB_true, inB_false] at hpd); exact ps_int rfl (by (refine og rfl ?_; assumption)) (by (refine og rfl ?_; assumption)) rfl)) ?_; refine ok_p rfl rfl rfl (by exact ps_or rfl rfl rfl) ?_; refine ok_nil ?_; refine ok_env [(0, _), (6, _), (7, _), (25, _)] ⟨rfl, rfl, rfl, rfl, trivial⟩ ?_)
      | (refine ok_region (i := 3) ?_; refine ok_p rfl rfl rfl (by exact ps_assign rfl rfl) ?_; refine ok_p rfl rfl rfl (by exact ps_assign rfl rfl) ?_; refine ok_nil ?_; refine ok_env [(4, _), (5, _)] ⟨rfl, rfl, trivial⟩ ?_)
      | (refine ok_draw (id := 4) 15 rfl (by kernel_rfl) (by kernel_rfl) rfl (by repeat (first | exact pq_body | refine pq_then ?_ | refine pq_in ?_)) [0, 1, 2, 3, 4, 5, 6, 7, 8, 9, 10, 11, 12, 13, 14, 15, 16, 17, 18, 19, 20, 21, 22, 23] (by decide) rfl ?_; refine okT_take (i := 0) rfl (by kernel_rfl) rfl rfl rfl (by exact ps_move rfl rfl) ?_; refine okT_take (i := 1) rfl (by kernel_rfl) rfl rfl rfl (by exact ps_move rfl rfl) ?_; refine okT_take (i := 2) rfl (by kernel_rfl) rfl rfl rfl (by exact ps_move rfl rfl) ?_; refine okT_take (i := 3) rfl (by kernel_rfl) rfl rfl rfl (by exact ps_move rfl rfl) ?_; refine okT_take (i := 4) rfl (by kernel_rfl) rfl rfl rfl (by exact ps_index rfl rfl rfl (by omega) (by exact isw_row 0 rfl (by omega))) ?_; refine okT_take (i := 5) rfl (by kernel_rfl) rfl rfl rfl (by exact ps_load rfl rfl (by exact Rds.cell (rds_row 0 rfl) (by exact fl_at0 _ _ (by omega) (by decide)))) ?_; refine okT_take (i := 6) rfl (by kernel_rfl) rfl rfl rfl (by exact ps_add rfl rfl rfl (by omega)) ?_; refine okT_take (i := 7) rfl (by kernel_rfl) rfl rfl rfl (by exact ps_sslE q (q + n) rfl rfl ⟨_, _, rfl, rfl⟩ ⟨_, _, rfl, by omega⟩ (by omega) (by omega)) ?_; refine okT_take (i := 8) rfl (by kernel_rfl) rfl rfl rfl (by exact ps_move rfl rfl) ?_; refine okT_take (i := 9) rfl (by kernel_rfl) rfl rfl rfl (by exact ps_move rfl rfl) ?_; refine okT_take (i := 10) rfl (by kernel_rfl) rfl rfl rfl (by exact ps_index rfl rfl rfl (by omega) (by exact isw_row 0 rfl (by omega))) ?_; refine okT_take (i := 11) rfl (by kernel_rfl) rfl rfl rfl (by exact ps_load rfl rfl (by exact Rds.cell (rds_row 0 rfl) (by exact fl_at0 _ _ (by omega) (by decide)))) ?_; refine okT_take (i := 12) rfl (by kernel_rfl) rfl rfl rfl (by exact ps_add rfl rfl rfl (by omega)) ?_; refine okT_take (i := 13) rfl (by kernel_rfl) rfl rfl rfl (by exact ps_assign rfl rfl) ?_; refine okT_take (i := 14) rfl (by kernel_rfl) rfl rfl rfl (by exact ps_assign rfl rfl) ?_; refine okT_done (by kernel_rfl) ?_; refine ok_nil ?_; refine ok_env [(4, _), (5, _)] ⟨rfl, rfl, trivial⟩ ?_))
    · rw [if_neg (by omega)]
      exact ok_endL (vs := [_, _]) rfl ⟨rfl, rfl, trivial⟩ (fun w' hw => ⟨rfl, hw.below⟩)
    · rw [if_pos (by omega)]
      refine ok_endL (vs := [_, _]) rfl ⟨rfl, rfl, trivial⟩ (fun w' hw => ⟨?_, hw.below⟩)
      rw [h2]
      simp only [tkT, tkE, retV, Int.natCast_add]
end Go.Proofs.Ytbegbdfbfbkflaa
/- Changes as text, in plain Lean. -/
namespace Go.Proofs.Ytbegbdfbfbkflaa
set_option linter.unusedVariables false
/-- Pieces one behind the other. -/
def catS {α : Type} (f : α → ByteArray) (L : List α) : ByteArray := L.foldl (fun s x => s ++ f x) ⟨#[]⟩
theorem catS_nil {α : Type} (f : α → ByteArray) : catS f [] = ⟨#[]⟩ := rfl
theorem catS_snoc {α : Type} (f : α → ByteArray) (L : List α) (x : α) : catS f (L ++ [x]) = catS f L ++ f x := foldl_snoc _ L _ x
theorem catS_step {α : Type} [Dat α] (f : α → ByteArray) {L : List α} {k : Nat} (h : k < L.length) : catS f (L.take (k + 1)) = catS f (L.take k) ++ f (nth L k) := by rw [takeG h, catS_snoc]
theorem catS_size {α : Type} (f : α → ByteArray) (b : Nat) : ∀ (n : Nat) (L : List α), L.length = n → (∀ x ∈ L, (f x).size ≤ b) → (catS f L).size ≤ n * b
  | 0, L, hn, h => by rw [List.length_eq_zero_iff.1 hn]; exact Nat.zero_le _
  | n + 1, L, hn, h => by
    obtain ⟨x, hx⟩ : ∃ x, L = L.dropLast ++ [x] := ⟨L.getLast (by intro e; rw [e] at hn; cases hn), (List.dropLast_concat_getLast _).symm⟩
    have hl : L.dropLast.length = n := by rw [List.length_dropLast]; omega
    have h1 := catS_size f b n L.dropLast hl (fun y hy => h y (List.dropLast_subset _ hy))
    have h2 := h x (by rw [hx]; simp)
    rw [hx, catS_snoc, ByteArray.size_append, Nat.succ_mul]
    omega
theorem bl_cat {α : Type} (f : α → ByteArray) (L : List α) : bl (catS f L) = L.flatMap (fun x => bl (f x)) := by
  unfold catS
  have : ∀ (s : ByteArray), bl (L.foldl (fun s x => s ++ f x) s) = bl s ++ L.flatMap (fun x => bl (f x)) := by
    induction L with
    | nil => intro s; simp
    | cons x L ih => intro s; rw [List.foldl_cons, ih, bl_app, List.flatMap_cons, List.append_assoc]
  rw [this]; rfl
def kvS (x : KV) : ByteArray := pieceS x.key ++ pieceS x.val
def rawU (U : List KV) (k : Nat) : ByteArray := vS U.length ++ catS kvS (U.take k)
def rawD (U : List KV) (D : List ByteArray) (k : Nat) : ByteArray := (rawU U U.length ++ vS D.length) ++ catS pieceS (D.take k)
def rawX (x : DDelta) : ByteArray := rawD x.U x.D x.D.length
theorem rawU_zero (U : List KV) : rawU U 0 = vS U.length := by
  unfold rawU; rw [List.take_zero, catS_nil]; exact ByteArray.append_empty
theorem rawD_zero (U : List KV) (D : List ByteArray) : rawD U D 0 = rawU U U.length ++ vS D.length := by
  unfold rawD; rw [List.take_zero, catS_nil]; exact ByteArray.append_empty
theorem rawU_step {U : List KV} {k : Nat} (h : k < U.length) : rawU U (k + 1) = rawU U k ++ (pieceS (nth U k).key ++ pieceS (nth U k).val) := by
  unfold rawU; rw [catS_step _ h, ByteArray.append_assoc]; rfl
theorem rawD_step {U : List KV} {D : List ByteArray} {k : Nat} (h : k < D.length) : rawD U D (k + 1) = rawD U D k ++ pieceS (nth D k) := by
  unfold rawD; rw [catS_step _ h]; simp only [ByteArray.append_assoc]
def fShowDelta (x : DDelta) : ByteArray := if deltaOk x.U x.D = true then rawX x else ⟨#[]⟩
theorem kk_sz {s : ByteArray} (h : kk s = true) : s.size ≤ 10 := by unfold kk at h; rw [inB_true] at h; omega
theorem mapOk_sz {U : List KV} (h : mapOk U = true) : ∀ k, k < U.length → (nth U k).key.size ≤ 10 ∧ (nth U k).val.size ≤ 16 := fun k hk => by
  unfold mapOk at h
  rw [List.all_eq_true] at h
  have := h k (by simpa using hk)
  unfold okM at this
  simp only [Bool.not_eq_true', Bool.or_eq_false_iff, Bool.not_eq_false'] at this
  have h1 := kk_sz this.1.1
  have h2 := this.1.2
  simp at h2
  omega
theorem mapOk_mem {U : List KV} (h : mapOk U = true) : ∀ x ∈ U, x.key.size ≤ 10 ∧ x.val.size ≤ 16 := fun x hx => by
  obtain ⟨k, hk, e⟩ := List.getElem_of_mem hx
  have := mapOk_sz h k hk
  have e2 : nth U k = x := by unfold nth; rw [List.getD_eq_getElem?_getD, List.getElem?_eq_getElem hk, e]; rfl
  rwa [e2] at this
theorem deltaOk_map {U : List KV} {D : List ByteArray} (h : deltaOk U D = true) : mapOk U = true := by
  unfold deltaOk at h; rw [Bool.and_eq_true] at h; exact h.1
theorem deltaOk_szD {U : List KV} {D : List ByteArray} (h : deltaOk U D = true) : ∀ k, k < D.length → (nth D k).size ≤ 10 := fun k hk => by
  unfold deltaOk at h
  rw [Bool.and_eq_true, List.all_eq_true] at h
  have := h.2 k (by simpa using hk)
  unfold okD at this
  simp only [Bool.not_eq_true', Bool.or_eq_false_iff, Bool.not_eq_false'] at this
  exact kk_sz this.1.1
theorem deltaOk_memD {U : List KV} {D : List ByteArray} (h : deltaOk U D = true) : ∀ x ∈ D, x.size ≤ 10 := fun x hx => by
  obtain ⟨k, hk, e⟩ := List.getElem_of_mem hx
  have := deltaOk_szD h k hk
  have e2 : nth D k = x := by unfold nth; rw [List.getD_eq_getElem?_getD, List.getElem?_eq_getElem hk, e]; rfl
  rwa [e2] at this
theorem kvS_size {x : KV} (h : x.key.size ≤ 10 ∧ x.val.size ≤ 16) : (kvS x).size ≤ 46 := by
  have h1 := pieceS_size x.key
  have h2 := pieceS_size x.val
  unfold kvS; rw [ByteArray.size_append]; omega
theorem rawU_size {U : List KV} (h : mapOk U = true) (k : Nat) (hk : k ≤ U.length) : (rawU U k).size ≤ 10 + k * 46 := by
  have h1 := catS_size kvS 46 k (U.take k) (by rw [List.length_take]; omega) (fun x hx => kvS_size (mapOk_mem h x (List.mem_of_mem_take hx)))
  have h2 := vS_size U.length
  unfold rawU; rw [ByteArray.size_append]; omega
theorem rawD_size {U : List KV} {D : List ByteArray} (h : deltaOk U D = true) (k : Nat) (hk : k ≤ D.length) : (rawD U D k).size ≤ 20 + U.length * 46 + k * 20 := by
  have h1 := catS_size pieceS 20 k (D.take k) (by rw [List.length_take]; omega) (fun x hx => by have := deltaOk_memD h x (List.mem_of_mem_take hx); have := pieceS_size x; omega)
  have h2 := vS_size D.length
  have h3 := rawU_size (deltaOk_map h) U.length (Nat.le_refl _)
  unfold rawD; rw [ByteArray.size_append, ByteArray.size_append]; omega
/-- Reading: pairs, texts. -/
def pKV (s : ByteArray) : Nat → Nat → List KV → Option (List KV × Nat)
  | 0, k, L => some (L, k)
  | n + 1, k, L => (tkS s k).bind fun p => (tkS s p.2).bind fun q => pKV s n q.2 (L ++ [⟨p.1, q.1⟩])
def pST (s : ByteArray) : Nat → Nat → List ByteArray → Option (List ByteArray × Nat)
  | 0, k, L => some (L, k)
  | n + 1, k, L => (tkS s k).bind fun p => pST s n p.2 (L ++ [p.1])
def pU (s : ByteArray) : Option (List KV × Nat) := (tkN s 0).bind fun p => pKV s p.1 p.2 []
def pD (s : ByteArray) (k : Nat) : Option (List ByteArray × Nat) := (tkN s k).bind fun p => pST s p.1 p.2 []
def pX (s : ByteArray) : Option (DDelta × Nat) := (pU s).bind fun p => (pD s p.2).map fun q => (⟨p.1, q.1⟩, q.2)
def fReadDelta (s : ByteArray) : DDelta × Bool := match pX s with
  | none => (⟨[], []⟩, false)
  | some p => if fShowDelta p.1 = s then (p.1, true) else (⟨[], []⟩, false)
theorem pKV_len (s : ByteArray) : ∀ (n k : Nat) (L M : List KV) (e : Nat), k ≤ s.size → pKV s n k L = some (M, e) → k + 2 * n ≤ e ∧ e ≤ s.size ∧ M.length = L.length + n ∧ ∃ N : List KV, N.length = n ∧ M = L ++ N ∧ (bl s).drop k = N.flatMap (fun x => bl (kvS x)) ++ (bl s).drop e
  | 0, k, L, M, e, hk, h => by
    simp only [pKV, Option.some.injEq, Prod.mk.injEq] at h
    obtain ⟨rfl, rfl⟩ := h
    exact ⟨by omega, hk, by omega, [], rfl, by simp, by simp⟩
  | n + 1, k, L, M, e, hk, h => by
    rw [pKV] at h
    cases h1 : tkS s k with
    | none => rw [h1] at h; cases h
    | some p =>
      obtain ⟨r, a⟩ := p
      rw [h1] at h
      simp only [Option.bind_some] at h
      cases h2 : tkS s a with
      | none => rw [h2] at h; cases h
      | some q =>
        obtain ⟨t, b⟩ := q
        rw [h2] at h
        simp only [Option.bind_some] at h
        obtain ⟨a1, a2, a3⟩ := tkS_some h1
        obtain ⟨b1, b2, b3⟩ := tkS_some h2
        obtain ⟨c1, c2, c3, N, d1, d2, d3⟩ := pKV_len s n b (L ++ [⟨r, t⟩]) M e b2 h
        refine ⟨by omega, c2, by rw [c3, List.length_append, List.length_singleton]; omega, ⟨r, t⟩ :: N, by rw [List.length_cons, d1], by rw [d2, List.append_assoc]; rfl, ?_⟩
        rw [a3, b3, d3, List.flatMap_cons]
        unfold kvS
        rw [bl_app]
        simp only [List.append_assoc]
theorem pST_len (s : ByteArray) : ∀ (n k : Nat) (L M : List ByteArray) (e : Nat), k ≤ s.size → pST s n k L = some (M, e) → k + n ≤ e ∧ e ≤ s.size ∧ M.length = L.length + n ∧ ∃ N : List ByteArray, N.length = n ∧ M = L ++ N ∧ (bl s).drop k = N.flatMap (fun x => bl (pieceS x)) ++ (bl s).drop e
  | 0, k, L, M, e, hk, h => by
    simp only [pST, Option.some.injEq, Prod.mk.injEq] at h
    obtain ⟨rfl, rfl⟩ := h
    exact ⟨by omega, hk, by omega, [], rfl, by simp, by simp⟩
  | n + 1, k, L, M, e, hk, h => by
    rw [pST] at h
    cases h1 : tkS s k with
    | none => rw [h1] at h; cases h
    | some p =>
      obtain ⟨r, a⟩ := p
      rw [h1] at h
      simp only [Option.bind_some] at h
      obtain ⟨a1, a2, a3⟩ := tkS_some h1
      obtain ⟨c1, c2, c3, N, d1, d2, d3⟩ := pST_len s n a (L ++ [r]) M e a2 h
      refine ⟨by omega, c2, by rw [c3, List.length_append, List.length_singleton]; omega, r :: N, by rw [List.length_cons, d1], by rw [d2, List.append_assoc]; rfl, ?_⟩
      rw [a3, d3, List.flatMap_cons]
      simp only [List.append_assoc]
theorem pU_some {s : ByteArray} {U : List KV} {e : Nat} (h : pU s = some (U, e)) : e ≤ s.size ∧ 2 * U.length ≤ s.size ∧ bl s = bl (rawU U U.length) ++ (bl s).drop e := by
  unfold pU at h
  cases h1 : tkN s 0 with
  | none => rw [h1] at h; cases h
  | some p =>
    obtain ⟨n, a⟩ := p
    rw [h1] at h
    simp only [Option.bind_some] at h
    obtain ⟨a1, a2, a3, a4, a5⟩ := tkN_some h1
    obtain ⟨c1, c2, c3, N, d1, d2, d3⟩ := pKV_len s n a [] U e a2 h
    simp only [List.length_nil, Nat.zero_add, List.nil_append] at c3 d2
    subst d2
    refine ⟨c2, by omega, ?_⟩
    rw [List.drop_zero] at a5
    have q : bl s = varL n ++ (U.flatMap (fun x => bl (kvS x)) ++ (bl s).drop e) := a5.trans (by rw [d3])
    refine q.trans ?_
    unfold rawU
    rw [List.take_length, bl_app, bl_cat, c3, List.append_assoc]
    rfl
theorem pD_some {s : ByteArray} {D : List ByteArray} {k e : Nat} (h : pD s k = some (D, e)) : k < e ∧ e ≤ s.size ∧ D.length ≤ s.size ∧ (bl s).drop k = bl (vS D.length) ++ bl (catS pieceS D) ++ (bl s).drop e := by
  unfold pD at h
  cases h1 : tkN s k with
  | none => rw [h1] at h; cases h
  | some p =>
    obtain ⟨n, a⟩ := p
    rw [h1] at h
    simp only [Option.bind_some] at h
    obtain ⟨a1, a2, a3, a4, a5⟩ := tkN_some h1
    obtain ⟨c1, c2, c3, N, d1, d2, d3⟩ := pST_len s n a [] D e a2 h
    simp only [List.length_nil, Nat.zero_add, List.nil_append] at c3 d2
    subst d2
    refine ⟨by omega, c2, by omega, ?_⟩
    rw [a5, d3, bl_cat, c3, List.append_assoc]
    rfl
theorem pX_some {s : ByteArray} {x : DDelta} {e : Nat} (h : pX s = some (x, e)) : 0 < e ∧ e ≤ s.size ∧ x.U.length ≤ s.size ∧ x.D.length ≤ s.size ∧ bl s = bl (rawX x) ++ (bl s).drop e := by
  unfold pX at h
  cases h1 : pU s with
  | none => rw [h1] at h; cases h
  | some p =>
    obtain ⟨U, k⟩ := p
    rw [h1] at h
    simp only [Option.bind_some] at h
    cases h2 : pD s k with
    | none => rw [h2] at h; cases h
    | some q =>
      obtain ⟨D, e'⟩ := q
      rw [h2] at h
      simp only [Option.map_some, Option.some.injEq, Prod.mk.injEq] at h
      obtain ⟨rfl, rfl⟩ := h
      obtain ⟨a1, a2, a3⟩ := pU_some h1
      obtain ⟨b1, b2, b3, b4⟩ := pD_some h2
      refine ⟨by omega, b2, by show U.length ≤ _; omega, b3, ?_⟩
      refine a3.trans ((congrArg (fun q => bl (rawU U U.length) ++ q) b4).trans ?_)
      unfold rawX rawD
      simp only [List.take_length, bl_app, List.append_assoc]
/-- What shows as the text was read to its end. -/
theorem pX_end {s : ByteArray} {x : DDelta} {e : Nat} (h : pX s = some (x, e)) (hs : fShowDelta x = s) : e = s.size := by
  obtain ⟨h1, h2, _, _, h3⟩ := pX_some h
  unfold fShowDelta at hs
  split at hs
  · rw [hs] at h3
    have := congrArg List.length h3
    rw [List.length_append, List.length_drop, bl_len] at this
    omega
  · rw [← hs] at h2
    have : (⟨#[]⟩ : ByteArray).size = 0 := rfl
    omega
theorem read_none {s : ByteArray} (h : pX s = none) : fReadDelta s = (⟨[], []⟩, false) := by unfold fReadDelta; rw [h]
theorem read_yes {s : ByteArray} {x : DDelta} {e : Nat} (h : pX s = some (x, e)) (hs : fShowDelta x = s) : fReadDelta s = (x, true) := by unfold fReadDelta; rw [h]; simp only [hs, if_true]
theorem read_no {s : ByteArray} {x : DDelta} {e : Nat} (h : pX s = some (x, e)) (hs : ¬ fShowDelta x = s) : fReadDelta s = (⟨[], []⟩, false) := by unfold fReadDelta; rw [h]; simp only [hs, if_false]
theorem pU_none {s : ByteArray} (h : pU s = none) : pX s = none := by unfold pX; rw [h]; rfl
theorem pD_none {s : ByteArray} {U : List KV} {k : Nat} (h : pU s = some (U, k)) (h2 : pD s k = none) : pX s = none := by unfold pX; rw [h]; simp only [Option.bind_some, h2]; rfl
theorem pX_yes {s : ByteArray} {U : List KV} {D : List ByteArray} {k e : Nat} (h : pU s = some (U, k)) (h2 : pD s k = some (D, e)) : pX s = some (⟨U, D⟩, e) := by unfold pX; rw [h]; simp only [Option.bind_some, h2]; rfl
end Go.Proofs.Ytbegbdfbfbkflaa
/- ApplyDelta of both programs. -/
namespace Go.Proofs.Ytbegbdfbfbkflaa
open Go.RowKit
set_option maxHeartbeats 4000000
set_option maxRecDepth 20000
set_option linter.unusedVariables false
set_option linter.unusedSimpArgs false
attribute [local irreducible] Calls
theorem dropKey_c (A : Option Addr) (c : Nat) (R : List KV) (k : ByteArray) (hs : srtK R) (hl : R.length ≤ 4194304) {base : Nat} {w0 w : World} {H : List HObj} {G : List World} (hw : WOk base w0 (.row 67 2 A R.length c (fl R) :: H) G w) :
    Calls Try.prog 134 #[.slice A R.length c, .string k] w fun e w' => ∃ y : Ys, e = .returned (.slice A (drpF R k).length c) ∧ True ∧ WOk base w0 (.row 67 2 A (drpF R k).length c (fl (drpF R k)) :: H) G w' := by
  have hb : fndK R k = true → lbK R k < R.length := fnd_lt
  refine ok_enterW 20 Try.func134 rfl rfl rfl hw ?_
  repeat' (first
    | refine ok_seq ?_
    | refine ok_then ?_
    | refine ok_then_ret ?_
    | (refine ok_cond rfl (fun hc => ?_) (fun hc => ?_) <;> (have hd := hc; (try simp only [decide_eq_true_eq, decide_eq_false_iff_not, Bool.or_eq_true, Bool.or_eq_false_iff, Bool.and_eq_true, Bool.and_eq_false_iff, Bool.not_eq_true', Bool.not_eq_false', bne_iff_ne, beq_iff_eq, bne_eq_false_iff_eq, beq_eq_false_iff_ne, ne_eq, Bool.not_true, Bool.not_false, Bool.false_eq_true, Bool.true_eq_false, inB_true, inB_false] at hd)))
    | refine ok_ret ?_
    | refine ok_skip ?_
    | (refine ok_region (i := 0) ?_; refine ok_p rfl rfl rfl (by exact ps_assign rfl rfl) ?_; refine ok_nil ?_; refine ok_env [(0, _), (1, _)] ⟨rfl, rfl, trivial⟩ ?_)
    | (refine ok_region (i := 1) ?_; refine ok_p rfl rfl rfl (by exact ps_move rfl rfl) ?_; refine ok_p rfl rfl rfl (by exact ps_move rfl rfl) ?_; refine ok_m rfl rfl rfl (by exact ms_s2 rfl rfl rfl (fun _ _ w hw => findKey_c A c R k w (rds_row 0 rfl _ _ w hw) hl (srtK_iff.2 hs))) ?_; rintro y10 hy10; refine ok_p rfl rfl rfl (by exact ps_move rfl rfl) ?_; refine ok_p rfl rfl rfl (by exact ps_extract rfl rfl rfl) ?_; refine ok_p rfl rfl rfl (by exact ps_extract rfl rfl rfl) ?_; refine ok_p rfl rfl rfl (by exact ps_assign rfl rfl) ?_; refine ok_p rfl rfl rfl (by exact ps_assign rfl rfl) ?_; refine ok_nil ?_; refine ok_env [(0, _), (5, _), (6, _)] ⟨rfl, rfl, rfl, trivial⟩ ?_)
    | (refine ok_region (i := 2) ?_; refine ok_p rfl rfl rfl (by exact ps_move rfl rfl) ?_; refine ok_nil ?_; refine ok_env [(0, _), (5, _), (13, _)] ⟨rfl, rfl, rfl, trivial⟩ ?_)
    | (refine ok_region (i := 3) ?_; refine ok_p rfl rfl rfl (by exact ps_move rfl rfl) ?_; refine ok_p rfl rfl rfl (by exact ps_move rfl rfl) ?_; refine ok_p rfl rfl rfl (by exact ps_move rfl rfl) ?_; refine ok_p rfl rfl rfl (by exact ps_cast (v' := .int .i64 ((lbK R k + 1 : Nat) : Int)) (ps_add rfl rfl rfl (by have := hb (by assumption); omega)) (by rw [show ((lbK R k : Nat) : Int) + 1 = ((lbK R k + 1 : Nat) : Int) by omega])) ?_; refine ok_m rfl rfl rfl (by exact ms_w3 (fun _ _ _ h => h) rfl rfl rfl rfl (fun _ _ w hw => deleteV_c A c (lbK R k) (lbK R k + 1) R (by omega) (by have := hb (by assumption); omega) hl hw)) ?_; rintro y18 hy18; refine ok_p rfl rfl rfl (by exact ps_assign rfl rfl) ?_; refine ok_nil ?_; refine ok_env [(4, _)] ⟨rfl, trivial⟩ ?_)
    | (refine ok_region (i := 4) ?_; refine ok_p rfl rfl rfl (by exact ps_move rfl rfl) ?_; refine ok_p rfl rfl rfl (by exact ps_assign rfl rfl) ?_; refine ok_nil ?_; refine ok_env [(4, _)] ⟨rfl, trivial⟩ ?_))
  · rw [drp_yes hs (by assumption)]
    exact ok_endL (vs := [_]) rfl ⟨rfl, trivial⟩ (fun w' hw => ⟨mkY none 0 w', rfl, trivial, hw⟩)
  · rw [drp_no hs (by assumption)]
    exact ok_endL (vs := [_]) rfl ⟨rfl, trivial⟩ (fun w' hw => ⟨mkY none 0 w', rfl, trivial, hw⟩)
theorem setKey_c (A : Option Addr) (c : Nat) (R : List KV) (k v : ByteArray) (hs : srtK R) (hl : R.length ≤ 4194304) {base : Nat} {w0 w : World} {H : List HObj} {G : List World} (hw : WOk base w0 (.row 67 2 A R.length c (fl R) :: H) G w) :
    Calls Try.prog 135 #[.slice A R.length c, .string k, .string v] w fun e w' => ∃ y : Ys, e = .returned (.slice (y 0).A (putF R k v).length (y 0).c) ∧ True ∧ WOk base w0 (.row 67 2 (y 0).A (putF R k v).length (y 0).c (fl (putF R k v)) :: H) G w' := by
  have hb : fndK R k = true → lbK R k < R.length := fnd_lt
  have hle : lbK R k ≤ R.length := by have := congrArg List.length (hd_tl R k); rw [List.length_append, lb_len] at this; omega
  refine ok_enterW 29 Try.func135 rfl rfl rfl hw ?_
  repeat' (first
    | refine ok_seq ?_
    | refine ok_then ?_
    | refine ok_then_ret ?_
    | (refine ok_cond rfl (fun hc => ?_) (fun hc => ?_) <;> (have hd := hc; (try simp only [decide_eq_true_eq, decide_eq_false_iff_not, Bool.or_eq_true, Bool.or_eq_false_iff, Bool.and_eq_true, Bool.and_eq_false_iff, Bool.not_eq_true', Bool.not_eq_false', bne_iff_ne, beq_iff_eq, bne_eq_false_iff_eq, beq_eq_false_iff_ne, ne_eq, Bool.not_true, Bool.not_false, Bool.false_eq_true, Bool.true_eq_false, inB_true, inB_false] at hd)))
    | refine ok_ret ?_
    | refine ok_skip ?_
    | (refine ok_region (i := 0) ?_; refine ok_p rfl rfl rfl (by exact ps_assign rfl rfl) ?_; refine ok_nil ?_; refine ok_env [(0, _), (1, _), (2, _)] ⟨rfl, rfl, rfl, trivial⟩ ?_)
    | (refine ok_region (i := 1) ?_; refine ok_p rfl rfl rfl (by exact ps_move rfl rfl) ?_; refine ok_p rfl rfl rfl (by exact ps_move rfl rfl) ?_; refine ok_m rfl rfl rfl (by exact ms_s2 rfl rfl rfl (fun _ _ w hw => findKey_c A c R k w (rds_row 0 rfl _ _ w hw) hl (srtK_iff.2 hs))) ?_; rintro y12 hy12; refine ok_p rfl rfl rfl (by exact ps_move rfl rfl) ?_; refine ok_p rfl rfl rfl (by exact ps_extract rfl rfl rfl) ?_; refine ok_p rfl rfl rfl (by exact ps_extract rfl rfl rfl) ?_; refine ok_p rfl rfl rfl (by exact ps_assign rfl rfl) ?_; refine ok_p rfl rfl rfl (by exact ps_assign rfl rfl) ?_; refine ok_nil ?_; refine ok_env [(0, _), (1, _), (2, _), (7, _), (8, _)] ⟨rfl, rfl, rfl, rfl, rfl, trivial⟩ ?_)
    | (refine ok_region (i := 2) ?_; refine ok_p rfl rfl rfl (by exact ps_move rfl rfl) ?_; refine ok_nil ?_; refine ok_env [(0, _), (1, _), (2, _), (7, _), (15, _)] ⟨rfl, rfl, rfl, rfl, rfl, trivial⟩ ?_)
    | (refine ok_region (i := 3) ?_; refine ok_p rfl rfl rfl (by exact ps_move rfl rfl) ?_; refine ok_p rfl rfl rfl (by exact ps_move rfl rfl) ?_; refine ok_p rfl rfl rfl (by exact ps_move rfl rfl) ?_; refine ok_p rfl rfl rfl (by exact ps_indexN (i := lbK R k) rfl rfl rfl (hb (by assumption)) (isw_row 0 rfl (by have := hb (by assumption); omega))) ?_; refine ok_p rfl rfl rfl (by exact ps_field rfl rfl (isw_row 0 rfl (by have := hb (by assumption); omega))) ?_; refine ok_m_ rfl rfl (by exact ms_setc (α := KV) 0 (lbK R k) 1 ⟨(nth R (lbK R k)).key, v⟩ rfl rfl rfl rfl rfl rfl rfl rfl rfl (hb (by assumption))) ?_; rintro y_ hy_; refine ok_nil ?_; refine ok_env [(0, _)] ⟨rfl, trivial⟩ ?_)
    | (refine ok_region (i := 4) ?_; refine ok_p rfl rfl rfl (by exact ps_move rfl rfl) ?_; refine ok_p rfl rfl rfl (by exact ps_assign rfl rfl) ?_; refine ok_nil ?_; refine ok_env [(6, _)] ⟨rfl, trivial⟩ ?_)
    | (refine ok_region (i := 5) ?_; refine ok_p rfl rfl rfl (by exact ps_move rfl rfl) ?_; refine ok_p rfl rfl rfl (by exact ps_move rfl rfl) ?_; refine ok_p rfl rfl rfl (by exact ps_move rfl rfl) ?_; refine ok_p rfl rfl rfl (by exact ps_move rfl rfl) ?_; refine ok_p rfl rfl rfl (by exact ps_bld rfl (parts_cons rfl (parts_cons rfl parts_nil)) rfl) ?_; refine ok_m rfl rfl rfl (by exact ms_lit rfl (parts_cons rfl parts_nil) rfl rfl rfl) ?_; rintro y27 hy27; refine ok_m rfl rfl rfl (by exact ms_w3 (fun _ _ _ h => h.front 1 rfl) rfl rfl rfl rfl (fun _ _ w hw => insert_c A c (y27 0).c (lbK R k) R ⟨k, v⟩ hle hl hw)) ?_; rintro y28 hy28; refine ok_p rfl rfl rfl (by exact ps_assign rfl rfl) ?_; refine ok_nil ?_; refine ok_env [(6, _)] ⟨rfl, trivial⟩ ?_))
  · rw [put_yes hs v (by assumption)]
    exact ok_endL (vs := [_]) rfl ⟨rfl, trivial⟩ (fun w' hw => ⟨mkY A c w', by simp only [List.length_set]; rfl, trivial, by simp only [List.length_set]; exact hw⟩)
  · rw [put_no' hs v (by assumption)]
    exact ok_endL (vs := [_]) rfl ⟨rfl, trivial⟩ (fun w' hw => ⟨y28, rfl, trivial, hw⟩)
/-- What the reference does with the rest of a map. -/
def finP (k v : ByteArray) : List KV → Bool → List KV → List KV
  | [], b, O => if b = true then O else O ++ [⟨k, v⟩]
  | x :: D, b, O => if b = false ∧ sLt x.key k = false then (if neK k x = true then finP k v D true ((O ++ [⟨k, v⟩]) ++ [x]) else finP k v D true (O ++ [⟨k, v⟩])) else (if neK k x = true then finP k v D b (O ++ [x]) else finP k v D b O)
theorem finP_true (k v : ByteArray) : ∀ (D O : List KV), finP k v D true O = O ++ D.filter (neK k)
  | [], O => by simp [finP]
  | x :: D, O => by
    rw [finP, if_neg (by simp), List.filter_cons]
    split
    · rw [finP_true k v D, List.append_assoc]; rfl
    · rw [finP_true k v D]
theorem finP_false (k v : ByteArray) : ∀ (D O : List KV), finP k v D false O = O ++ (hdK D k ++ [⟨k, v⟩]) ++ (tlK D k).filter (neK k)
  | [], O => by simp [finP, hdK, tlK]
  | x :: D, O => by
    rw [finP]
    cases h : sLt x.key k
    · rw [if_pos ⟨rfl, rfl⟩]
      have e1 : hdK (x :: D) k = [] := by unfold hdK; rw [List.takeWhile_cons, h]; rfl
      have e2 : tlK (x :: D) k = x :: D := by unfold tlK; rw [List.dropWhile_cons, h]; rfl
      rw [e1, e2, List.filter_cons]
      split
      · rw [finP_true]; simp only [List.append_assoc]; rfl
      · rw [finP_true]; simp
    · rw [if_neg (by simp)]
      have e1 : hdK (x :: D) k = x :: hdK D k := by unfold hdK; rw [List.takeWhile_cons, h]; rfl
      have e2 : tlK (x :: D) k = tlK D k := by unfold tlK; rw [List.dropWhile_cons, h]; rfl
      have e3 : neK k x = true := by unfold neK; rw [sEq_irr h]; rfl
      rw [e1, e2, if_pos e3, finP_false k v D]
      simp only [List.append_assoc, List.cons_append, List.nil_append]
def opF (R : List KV) (k v : ByteArray) (d : Bool) : List KV := finP k v R d []
theorem opF_del (R : List KV) (k v : ByteArray) : opF R k v true = drpF R k := by unfold opF; rw [finP_true]; rfl
theorem opF_put (R : List KV) (k v : ByteArray) : opF R k v false = putF R k v := by unfold opF; rw [finP_false]; rfl
structure PutI (R : List KV) (k v : ByteArray) (d : Bool) where
  i : Nat
  b : Bool
  O : List KV
  A : Option Addr
  c : Nat
  hi : i ≤ R.length ∧ O.length ≤ i + 1 ∧ (b = false → O.length ≤ i)
  ok : finP k v (R.drop i) b O = opF R k v d
theorem dropG {R : List KV} {j : Nat} (h : j < R.length) : R.drop j = nth R j :: R.drop (j + 1) := by
  rw [List.drop_eq_getElem_cons h]
  simp [nth, h]
theorem s_l7Put_c (A : Option Addr) (c : Nat) (R : List KV) (k v : ByteArray) (d : Bool) (w : World) (h : Rd w A (fl R)) (hl : R.length ≤ 4194304) :
    Calls Try.prog 142 #[.slice A R.length c, .agg #[.string k, .bool d, .string v]] w fun e w' => ∃ y : Ys, e = .returned (.slice (y 0).A (opF R k v d).length (y 0).c) ∧ True ∧ Below w.heap.size w w' ∧ NewOk w.heap.size [.row 67 2 (y 0).A (opF R k v d).length (y 0).c (fl (opF R k v d))] [] w' := by
  refine ok_enter 63 Try.func142 rfl rfl rfl ?_
  repeat' (first
    | refine ok_seq ?_
    | refine ok_then ?_
    | refine ok_block ?_
    | (refine ok_region (i := 0) ?_; refine ok_m rfl rfl rfl (by exact ms_box rfl rfl rfl) ?_; rintro y3 hy3; refine ok_p rfl rfl rfl (by exact ps_assign rfl rfl) ?_; refine ok_nil ?_; refine ok_env [(0, _), (3, _)] ⟨rfl, rfl, trivial⟩ ?_)
    | (refine ok_region (i := 1) ?_; refine ok_m rfl rfl rfl (by exact ms_lit rfl parts_nil rfl rfl rfl) ?_; rintro y8 hy8; refine ok_p rfl rfl rfl (by exact ps_assign rfl rfl) ?_; refine ok_nil ?_; refine ok_env [(0, _), (3, _), (5, _)] ⟨rfl, rfl, rfl, trivial⟩ ?_)
    | (refine ok_region (i := 2) ?_; refine ok_p rfl rfl rfl (by exact ps_field rfl rfl (by exact isw_ga _)) ?_; refine ok_p rfl rfl rfl (by exact ps_load rfl rfl (by exact Rds.cell (rds_box 1 rfl) rfl)) ?_; refine ok_p rfl rfl rfl (by exact ps_assign rfl rfl) ?_; refine ok_nil ?_; refine ok_env [(0, _), (3, _), (5, _), (6, _)] ⟨rfl, rfl, rfl, rfl, trivial⟩ ?_)
    | (refine ok_region (i := 3) ?_; refine ok_p rfl rfl rfl (by exact ps_assign rfl rfl) ?_; refine ok_nil ?_; refine ok_env [(0, _), (3, _), (5, _), (6, _), (7, _)] ⟨rfl, rfl, rfl, rfl, rfl, trivial⟩ ?_))
  refine ok_loop (ι := PutI R k v d) (fun q => R.length - q.i) (fun q => ([(0, .slice A R.length c), (3, pt (ga (y3 0).c) 0), (5, .slice q.A q.O.length q.c), (6, .bool q.b), (7, .int .i64 q.i)], [.row 67 2 q.A q.O.length q.c (fl q.O), _], _)) ⟨0, d, [], none, 0, by simp, rfl⟩ (fun a w he hw => ⟨⟨0, d, [], ga (y8 0).c, 0, by simp, rfl⟩, he.sub ⟨rfl, rfl, rfl, rfl, rfl, trivial⟩, hw⟩) ?_
  rintro ⟨i, b, O, B, e, hi, ok⟩
  simp only at hi ok ⊢
  have OK := Lib.hid ok; clear ok
  repeat' (first
    | refine ok_seq ?_
    | refine ok_then ?_
    | refine ok_block ?_
    | refine ok_in_normal ?_
    | (refine ok_cond rfl (fun hc => ?_) (fun hc => ?_) <;> (have hd := hc; (try simp only [decide_eq_true_eq, decide_eq_false_iff_not, Bool.or_eq_true, Bool.or_eq_false_iff, Bool.and_eq_true, Bool.and_eq_false_iff, Bool.not_eq_true', Bool.not_eq_false', bne_iff_ne, beq_iff_eq, bne_eq_false_iff_eq, beq_eq_false_iff_ne, ne_eq, Bool.not_true, Bool.not_false, Bool.false_eq_true, Bool.true_eq_false, inB_true, inB_false] at hd)))
    | refine ok_ret ?_
    | refine ok_exit ?_
    | refine ok_skip ?_
    | (refine ok_region (i := 4) ?_; refine ok_p rfl rfl rfl (by exact ps_move rfl rfl) ?_; refine ok_p rfl rfl rfl (by exact ps_move rfl rfl) ?_; refine ok_p rfl rfl rfl (by exact ps_len rfl rfl) ?_; refine ok_p rfl rfl rfl (by exact ps_int rfl rfl rfl rfl) ?_; refine ok_nil ?_; refine ok_env [(0, _), (3, _), (5, _), (6, _), (7, _), (14, _)] ⟨rfl, rfl, rfl, rfl, rfl, rfl, trivial⟩ ?_)
    | (refine ok_region (i := 5) ?_; refine ok_p rfl rfl rfl (by exact ps_move rfl rfl) ?_; refine ok_p rfl rfl rfl (by exact ps_add rfl rfl rfl (by omega)) ?_; refine ok_p rfl rfl rfl (by exact ps_assign rfl rfl) ?_; refine ok_nil ?_; refine ok_env [(0, _), (3, _), (5, _), (6, _), (7, _)] ⟨rfl, rfl, rfl, rfl, rfl, trivial⟩ ?_)
    | (refine ok_draw (id := 6) 12 rfl (by kernel_rfl) (by kernel_rfl) rfl (by repeat (first | exact pq_body | refine pq_then ?_ | refine pq_in ?_)) [0, 1, 2, 3, 4, 5, 6, 7, 8, 9, 10, 11, 12, 13, 14, 15, 16, 17, 18, 19, 20, 21, 22, 23] (by decide) rfl ?_; refine okT_take (i := 0) rfl (by kernel_rfl) rfl rfl rfl (by exact ps_move rfl rfl) ?_; refine okT_take (i := 1) rfl (by kernel_rfl) rfl rfl rfl (by exact ps_not rfl rfl) ?_; refine okT_take (i := 2) rfl (by kernel_rfl) rfl rfl rfl (by exact ps_move rfl rfl) ?_; refine okT_take_g1 (i := 3) rfl (by kernel_rfl) rfl rfl rfl rfl rfl (gT _) (fun hp => by (have hpd := hp; (try simp only [decide_eq_true_eq, decide_eq_false_iff_not, Bool.or_eq_true, Bool.or_eq_false_iff, Bool.and_eq_true, Bool.and_eq_false_iff, Bool.not_eq_true', Bool.not_eq_false', bne_iff_ne, beq_iff_eq, bne_eq_false_iff_eq, beq_eq_false_iff_ne, ne_eq, Bool.not_true, Bool.not_false, Bool.false_eq_true, Bool.true_eq_false, inB_true, inB_false] at hpd); exact ps_move rfl (by exact rfl))) ?_; refine okT_take_g1 (i := 4) rfl (by kernel_rfl) rfl rfl rfl rfl rfl (gT _) (fun hp => by (have hpd := hp; (try simp only [decide_eq_true_eq, decide_eq_false_iff_not, Bool.or_eq_true, Bool.or_eq_false_iff, Bool.and_eq_true, Bool.and_eq_false_iff, Bool.not_eq_true', Bool.not_eq_false', bne_iff_ne, beq_iff_eq, bne_eq_false_iff_eq, beq_eq_false_iff_ne, ne_eq, Bool.not_true, Bool.not_false, Bool.false_eq_true, Bool.true_eq_false, inB_true, inB_false] at hpd); exact ps_move rfl (by exact rfl))) ?_; refine okT_take_g1 (i := 5) rfl (by kernel_rfl) rfl rfl rfl rfl rfl (gT _) (fun hp => by (have hpd := hp; (try simp only [decide_eq_true_eq, decide_eq_false_iff_not, Bool.or_eq_true, Bool.or_eq_false_iff, Bool.and_eq_true, Bool.and_eq_false_iff, Bool.not_eq_true', Bool.not_eq_false', bne_iff_ne, beq_iff_eq, bne_eq_false_iff_eq, beq_eq_false_iff_ne, ne_eq, Bool.not_true, Bool.not_false, Bool.false_eq_true, Bool.true_eq_false, inB_true, inB_false] at hpd); exact ps_indexN rfl (by (refine og rfl ?_; assumption)) (by (refine og rfl ?_; assumption)) (by omega) (by exact isw_of (isS_fl (by assumption) (by omega))))) ?_; refine okT_take_g1 (i := 6) rfl (by kernel_rfl) rfl rfl rfl rfl rfl (gT _) (fun hp => by (have hpd := hp; (try simp only [decide_eq_true_eq, decide_eq_false_iff_not, Bool.or_eq_true, Bool.or_eq_false_iff, Bool.and_eq_true, Bool.and_eq_false_iff, Bool.not_eq_true', Bool.not_eq_false', bne_iff_ne, beq_iff_eq, bne_eq_false_iff_eq, beq_eq_false_iff_ne, ne_eq, Bool.not_true, Bool.not_false, Bool.false_eq_true, Bool.true_eq_false, inB_true, inB_false] at hpd); exact ps_field rfl (by (refine og rfl ?_; assumption)) (by exact isw_of (isS_fl (by assumption) (by omega))))) ?_; refine okT_take_g1 (i := 7) rfl (by kernel_rfl) rfl rfl rfl rfl rfl (gT _) (fun hp => by (have hpd := hp; (try simp only [decide_eq_true_eq, decide_eq_false_iff_not, Bool.or_eq_true, Bool.or_eq_false_iff, Bool.and_eq_true, Bool.and_eq_false_iff, Bool.not_eq_true', Bool.not_eq_false', bne_iff_ne, beq_iff_eq, bne_eq_false_iff_eq, beq_eq_false_iff_ne, ne_eq, Bool.not_true, Bool.not_false, Bool.false_eq_true, Bool.true_eq_false, inB_true, inB_false] at hpd); exact ps_load rfl (by (refine og rfl ?_; assumption)) (by exact Rds.cell (rds_rf (by assumption) (by exact List.mem_cons_self)) (by exact fl_at0 _ _ (by omega) (by decide))))) ?_; refine okT_take_g1 (i := 8) rfl (by kernel_rfl) rfl rfl rfl rfl rfl (gT _) (fun hp => by (have hpd := hp; (try simp only [decide_eq_true_eq, decide_eq_false_iff_not, Bool.or_eq_true, Bool.or_eq_false_iff, Bool.and_eq_true, Bool.and_eq_false_iff, Bool.not_eq_true', Bool.not_eq_false', bne_iff_ne, beq_iff_eq, bne_eq_false_iff_eq, beq_eq_false_iff_ne, ne_eq, Bool.not_true, Bool.not_false, Bool.false_eq_true, Bool.true_eq_false, inB_true, inB_false] at hpd); exact ps_field rfl (by exact rfl) (by exact isw_ga _))) ?_; refine okT_take_g1 (i := 9) rfl (by kernel_rfl) rfl rfl rfl rfl rfl (gT _) (fun hp => by (have hpd := hp; (try simp only [decide_eq_true_eq, decide_eq_false_iff_not, Bool.or_eq_true, Bool.or_eq_false_iff, Bool.and_eq_true, Bool.and_eq_false_iff, Bool.not_eq_true', Bool.not_eq_false', bne_iff_ne, beq_iff_eq, bne_eq_false_iff_eq, beq_eq_false_iff_ne, ne_eq, Bool.not_true, Bool.not_false, Bool.false_eq_true, Bool.true_eq_false, inB_true, inB_false] at hpd); exact ps_load rfl (by (refine og rfl ?_; assumption)) (by exact Rds.cell (rds_box 1 rfl) rfl))) ?_; refine okT_take_g1 (i := 10) rfl (by kernel_rfl) rfl rfl rfl rfl rfl (gT _) (fun hp => by (have hpd := hp; (try simp only [decide_eq_true_eq, decide_eq_false_iff_not, Bool.or_eq_true, Bool.or_eq_false_iff, Bool.and_eq_true, Bool.and_eq_false_iff, Bool.not_eq_true', Bool.not_eq_false', bne_iff_ne, beq_iff_eq, bne_eq_false_iff_eq, beq_eq_false_iff_ne, ne_eq, Bool.not_true, Bool.not_false, Bool.false_eq_true, Bool.true_eq_false, inB_true, inB_false] at hpd); exact ps_str rfl (by (refine og rfl ?_; assumption)) (by (refine og rfl ?_; assumption)) rfl)) ?_; refine okT_take (i := 11) rfl (by kernel_rfl) rfl rfl rfl (by exact ps_and rfl rfl rfl) ?_; refine okT_done (by kernel_rfl) ?_; refine ok_nil ?_; refine ok_env [(0, _), (3, _), (5, _), (6, _), (7, _), (28, _)] ⟨rfl, rfl, rfl, rfl, rfl, rfl, trivial⟩ ?_)
    | (refine ok_region (i := 7) ?_; refine ok_p rfl rfl rfl (by exact ps_move rfl rfl) ?_; refine ok_p rfl rfl rfl (by exact ps_field rfl rfl (by exact isw_ga _)) ?_; refine ok_p rfl rfl rfl (by exact ps_load rfl rfl (by exact Rds.cell (rds_box 1 rfl) rfl)) ?_; refine ok_p rfl rfl rfl (by exact ps_field rfl rfl (by exact isw_ga _)) ?_; refine ok_p rfl rfl rfl (by exact ps_load rfl rfl (by exact Rds.cell (rds_box 1 rfl) rfl)) ?_; refine ok_p rfl rfl rfl (by exact ps_bld rfl (parts_cons rfl (parts_cons rfl parts_nil)) rfl) ?_; refine ok_m rfl rfl rfl (by exact ms_lit rfl (parts_cons rfl parts_nil) rfl rfl rfl) ?_; rintro y35 hy35; refine ok_m rfl rfl rfl (by exact ms_appF (α := KV) (L := O) (M := [(⟨k, v⟩ : KV)]) 1 rfl rfl rfl rfl (rds_row 0 rfl) rfl (by simp; omega) (by simp; omega)) ?_; rintro y36 hy36; refine ok_p rfl rfl rfl (by exact ps_assign rfl rfl) ?_; refine ok_nil ?_; refine ok_env [(0, _), (3, _), (5, _), (7, _)] ⟨rfl, rfl, rfl, rfl, trivial⟩ ?_)
    | (refine ok_region (i := 8) ?_; refine ok_p rfl rfl rfl (by exact ps_assign rfl rfl) ?_; refine ok_nil ?_; refine ok_env [(0, _), (3, _), (5, _), (6, _), (7, _)] ⟨rfl, rfl, rfl, rfl, rfl, trivial⟩ ?_)
    | (refine ok_draw (id := 9) 8 rfl (by kernel_rfl) (by kernel_rfl) rfl (by repeat (first | exact pq_body | refine pq_then ?_ | refine pq_in ?_)) [0, 1, 2, 3, 4, 5, 6, 7, 8, 9, 10, 11, 12, 13, 14, 15, 16, 17, 18, 19, 20, 21, 22, 23] (by decide) rfl ?_; refine okT_take (i := 0) rfl (by kernel_rfl) rfl rfl rfl (by exact ps_move rfl rfl) ?_; refine okT_take (i := 1) rfl (by kernel_rfl) rfl rfl rfl (by exact ps_move rfl rfl) ?_; refine okT_take (i := 2) rfl (by kernel_rfl) rfl rfl rfl (by exact ps_indexN rfl rfl rfl (by omega) (by exact isw_of (isS_fl (by assumption) (by omega)))) ?_; refine okT_take (i := 3) rfl (by kernel_rfl) rfl rfl rfl (by exact ps_field rfl rfl (by exact isw_of (isS_fl (by assumption) (by omega)))) ?_; refine okT_take (i := 4) rfl (by kernel_rfl) rfl rfl rfl (by exact ps_load rfl rfl (by exact Rds.cell (rds_rf (by assumption) (by exact List.mem_cons_self)) (by exact fl_at0 _ _ (by omega) (by decide)))) ?_; refine okT_take (i := 5) rfl (by kernel_rfl) rfl rfl rfl (by exact ps_field rfl rfl (by exact isw_ga _)) ?_; refine okT_take (i := 6) rfl (by kernel_rfl) rfl rfl rfl (by exact ps_load rfl rfl (by first | exact Rds.cell (rds_box 1 rfl) rfl | exact Rds.cell (rds_box 2 rfl) rfl)) ?_; refine okT_take (i := 7) rfl (by kernel_rfl) rfl rfl rfl (by exact ps_str rfl rfl rfl rfl) ?_; refine okT_done (by kernel_rfl) ?_; refine ok_nil ?_; refine ok_env [(0, _), (3, _), (5, _), (6, _), (7, _), (44, _)] ⟨rfl, rfl, rfl, rfl, rfl, rfl, trivial⟩ ?_)
    | (refine ok_region (i := 10) ?_; refine ok_p rfl rfl rfl (by exact ps_move rfl rfl) ?_; refine ok_p rfl rfl rfl (by exact ps_move rfl rfl) ?_; refine ok_p rfl rfl rfl (by exact ps_move rfl rfl) ?_; refine ok_p rfl rfl rfl (by exact ps_indexN rfl rfl rfl (by omega) (by exact isw_of (isS_fl (by assumption) (by omega)))) ?_; refine ok_p rfl rfl rfl (by exact ps_loadsF rfl rfl (by exact rds_rf (by assumption) (by exact List.mem_cons_self)) (by rfl) (by rfl) (by omega) rfl) ?_; refine ok_m rfl rfl rfl (by exact ms_lit rfl (parts_cons rfl parts_nil) rfl rfl rfl) ?_; rintro y50 hy50; refine ok_m rfl rfl rfl (by first | exact ms_appF (α := KV) (L := O) (M := [nth R i]) 1 rfl rfl rfl rfl (rds_row 0 rfl) rfl (by simp; omega) (by simp; omega) | exact ms_appN (α := KV) (O ++ [(⟨k, v⟩ : KV)]) [nth R i] 2 rfl rfl rfl rfl (rds_row 0 rfl) rfl (by simp) rfl (by simp; omega) (by simp; omega)) ?_; rintro y51 hy51; refine ok_p rfl rfl rfl (by exact ps_assign rfl rfl) ?_; refine ok_nil ?_; refine ok_env [(0, _), (3, _), (5, _), (6, _), (7, _)] ⟨rfl, rfl, rfl, rfl, rfl, trivial⟩ ?_)
    | (refine ok_region (i := 11) ?_; refine ok_p rfl rfl rfl (by exact ps_move rfl rfl) ?_; refine ok_p rfl rfl rfl (by exact ps_not rfl rfl) ?_; refine ok_nil ?_; refine ok_env [(3, _), (5, _), (53, _)] ⟨rfl, rfl, rfl, trivial⟩ ?_)
    | (refine ok_region (i := 12) ?_; refine ok_p rfl rfl rfl (by exact ps_move rfl rfl) ?_; refine ok_p rfl rfl rfl (by exact ps_field rfl rfl (by exact isw_ga _)) ?_; refine ok_p rfl rfl rfl (by exact ps_load rfl rfl (by exact Rds.cell (rds_box 1 rfl) rfl)) ?_; refine ok_p rfl rfl rfl (by exact ps_field rfl rfl (by exact isw_ga _)) ?_; refine ok_p rfl rfl rfl (by exact ps_load rfl rfl (by exact Rds.cell (rds_box 1 rfl) rfl)) ?_; refine ok_p rfl rfl rfl (by exact ps_bld rfl (parts_cons rfl (parts_cons rfl parts_nil)) rfl) ?_; refine ok_m rfl rfl rfl (by exact ms_lit rfl (parts_cons rfl parts_nil) rfl rfl rfl) ?_; rintro y60 hy60; refine ok_m rfl rfl rfl (by exact ms_appF (α := KV) (L := O) (M := [(⟨k, v⟩ : KV)]) 1 rfl rfl rfl rfl (rds_row 0 rfl) rfl (by simp; omega) (by simp; omega)) ?_; rintro y61 hy61; refine ok_p rfl rfl rfl (by exact ps_assign rfl rfl) ?_; refine ok_nil ?_; refine ok_env [(5, _)] ⟨rfl, trivial⟩ ?_)
    | (refine ok_region (i := 13) ?_; refine ok_p rfl rfl rfl (by exact ps_move rfl rfl) ?_; refine ok_p rfl rfl rfl (by exact ps_assign rfl rfl) ?_; refine ok_nil ?_; refine ok_env [(4, _)] ⟨rfl, trivial⟩ ?_))
  · have hb := ‹b = false ∧ sLt (nth R i).key k = false›
    have e1 : finP k v (R.drop (i + 1)) true ((O ++ [⟨k, v⟩]) ++ [nth R i]) = opF R k v d := by
      have q := OK.out
      rw [dropG (j := i) (by omega), finP, if_pos hb, if_pos (by unfold neK; rw [hd]; rfl)] at q
      exact q
    refine fun a w' he hw => ⟨⟨i + 1, true, (O ++ [⟨k, v⟩]) ++ [nth R i], (y51 0).A, (y51 0).c, by have := hi.2.2 hb.1; simp; omega, e1⟩, by simp only; omega, he.sub ⟨rfl, rfl, by simp only [List.length_append]; rfl, rfl, rfl, trivial⟩, ?_⟩
    have := hw.tl.tl
    simp only [List.length_append] at this ⊢
    exact this
  · have hb := ‹b = false ∧ sLt (nth R i).key k = false›
    have e1 : finP k v (R.drop (i + 1)) true (O ++ [⟨k, v⟩]) = opF R k v d := by
      have q := OK.out
      rw [dropG (j := i) (by omega), finP, if_pos hb, if_neg (by unfold neK; rw [hd]; decide)] at q
      exact q
    refine fun a w' he hw => ⟨⟨i + 1, true, O ++ [⟨k, v⟩], (y36 0).A, (y36 0).c, by have := hi.2.2 hb.1; simp; omega, e1⟩, by simp only; omega, he.sub ⟨rfl, rfl, by simp only [List.length_append]; rfl, rfl, rfl, trivial⟩, ?_⟩
    have := hw.tl
    simp only [List.length_append] at this ⊢
    exact this
  · have hb : ¬ (b = false ∧ sLt (nth R i).key k = false) := by
      rcases ‹b = true ∨ sLt (nth R i).key k = true› with h1 | h1
      · rw [h1]; simp
      · rw [h1]; simp
    have e1 : finP k v (R.drop (i + 1)) b (O ++ [nth R i]) = opF R k v d := by
      have q := OK.out
      rw [dropG (j := i) (by omega), finP, if_neg hb, if_pos (by unfold neK; rw [hd]; rfl)] at q
      exact q
    refine fun a w' he hw => ⟨⟨i + 1, b, O ++ [nth R i], (y51 0).A, (y51 0).c, ⟨by omega, by simp; omega, fun h => by have := hi.2.2 h; simp; omega⟩, e1⟩, by simp only; omega, he.sub ⟨rfl, rfl, by simp only [List.length_append]; rfl, rfl, rfl, trivial⟩, ?_⟩
    have := hw.tl
    simp only [List.length_append] at this ⊢
    exact this
  · have hb : ¬ (b = false ∧ sLt (nth R i).key k = false) := by
      rcases ‹b = true ∨ sLt (nth R i).key k = true› with h1 | h1
      · rw [h1]; simp
      · rw [h1]; simp
    have e1 : finP k v (R.drop (i + 1)) b O = opF R k v d := by
      have q := OK.out
      rw [dropG (j := i) (by omega), finP, if_neg hb, if_neg (by unfold neK; rw [hd]; decide)] at q
      exact q
    exact fun a w' he hw => ⟨⟨i + 1, b, O, B, e, ⟨by omega, by omega, fun h => by have := hi.2.2 h; omega⟩, e1⟩, by simp only; omega, he.sub ⟨rfl, rfl, rfl, rfl, rfl, trivial⟩, hw⟩
  all_goals
    have eD : R.drop i = [] := List.drop_of_length_le (by omega)
    have e2 := OK.out
    rw [eD, finP] at e2
  · rw [if_neg (by rw [hd]; decide)] at e2
    rw [← e2]
    refine ok_endL (vs := [_]) rfl ⟨rfl, trivial⟩ (fun w' hw => ⟨y61, by simp only [List.length_append]; rfl, trivial, hw.below, ?_⟩)
    have := NewOk.of (hw.sel [1] (by decide) rfl (G' := []) (fun _ h => by cases h))
    simp only [List.length_append] at this ⊢
    exact this
  · rw [if_pos hd] at e2
    rw [← e2]
    exact ok_endL (vs := [_]) rfl ⟨rfl, trivial⟩ (fun w' hw => ⟨mkY B e w', rfl, trivial, hw.below, NewOk.of (hw.sel [0] (by decide) rfl (G' := []) (fun _ h => by cases h))⟩)
theorem s_put_del (A : Option Addr) (c : Nat) (R : List KV) (k : ByteArray) (w : World) (h : Rd w A (fl R)) (hl : R.length ≤ 4194304) :
    Calls Try.prog 142 #[.slice A R.length c, .agg #[.string k, .bool true, .string ⟨#[]⟩]] w fun e w' => ∃ y : Ys, e = .returned (.slice (y 0).A (drpF R k).length (y 0).c) ∧ True ∧ Below w.heap.size w w' ∧ NewOk w.heap.size [.row 67 2 (y 0).A (drpF R k).length (y 0).c (fl (drpF R k))] [] w' := by
  have q := s_l7Put_c A c R k ⟨#[]⟩ true w h hl
  rw [opF_del] at q; exact q
theorem s_put_put (A : Option Addr) (c : Nat) (R : List KV) (k v : ByteArray) (w : World) (h : Rd w A (fl R)) (hl : R.length ≤ 4194304) :
    Calls Try.prog 142 #[.slice A R.length c, .agg #[.string k, .bool false, .string v]] w fun e w' => ∃ y : Ys, e = .returned (.slice (y 0).A (putF R k v).length (y 0).c) ∧ True ∧ Below w.heap.size w w' ∧ NewOk w.heap.size [.row 67 2 (y 0).A (putF R k v).length (y 0).c (fl (putF R k v))] [] w' := by
  have q := s_l7Put_c A c R k v false w h hl
  rw [opF_put] at q; exact q
def fApplyDelta (a : DKVS) (d : DDelta) : DKVS × Bool := if mapOk a = true then (if deltaOk d.U d.D = true then (putsF d.U (dropsF d.D a), true) else (a, false)) else ([], false)
theorem app_no {a : DKVS} {d : DDelta} (h : mapOk a = false) : fApplyDelta a d = ([], false) := by unfold fApplyDelta; rw [if_neg (by rw [h]; decide)]
theorem app_half {a : DKVS} {d : DDelta} (h : mapOk a = true) (h2 : deltaOk d.U d.D = false) : fApplyDelta a d = (a, false) := by unfold fApplyDelta; rw [if_pos h, if_neg (by rw [h2]; decide)]
theorem app_yes {a : DKVS} {d : DDelta} (h : mapOk a = true) (h2 : deltaOk d.U d.D = true) : fApplyDelta a d = (putsF d.U (dropsF d.D a), true) := by unfold fApplyDelta; rw [if_pos h, if_pos h2]
theorem drops_all (D : List ByteArray) (R : List KV) : dropsF (D.take D.length) R = dropsF D R := by rw [List.take_length]
theorem puts_all (U R : List KV) : putsF (U.take U.length) R = putsF U R := by rw [List.take_length]
theorem kvs_nil (n : Nat) (w : World) : NewOk n (KVS_obj [] (mkY none 0 w)) [] w := NewOk.one (x := .row 67 2 none 0 0 (fl ([] : List KV))) (Own.nil w n 67 2)
structure ApI (n : Nat) where
  k : Nat
  A : Option Addr
  c : Nat
  hk : k ≤ n
attribute [local irreducible] deltaOk mapOk dropsF putsF
theorem ApplyDelta_lim (a : DKVS) (d : DDelta) (s0 : KVS_sm a) (s1 : Delta_sm d) : KVS_lim (fApplyDelta a d).1 := by
  have m0 := s0.1
  have m1 := s1.1.1
  have q1 := puts_len d.U (dropsF d.D a)
  have q2 := drops_len d.D a
  unfold fApplyDelta KVS_lim
  split
  · split
    · simp only; omega
    · simp only; omega
  · simp
end Go.Proofs.Ytbegbdfbfbkflaa
/- Drawing, with the engine: the cursor is an own box. -/
namespace Go.Proofs.Ytbegbdfbfbkflaa
open Go.RowKit
set_option maxHeartbeats 4000000
set_option maxRecDepth 20000
set_option linter.unusedVariables false
set_option linter.unusedSimpArgs false
attribute [local irreducible] Calls
/-- The cursor: the code's bytes, a place in them, a state. -/
abbrev cur (g : Nat) (A : Option Addr) (n c : Nat) (i : Nat) (h : Int) : HObj := .box g 175 [.slice A n c, .int .i64 i, .int .i64 h]
/-- What a draw gives: a number (or a string), the cursor's place and state. -/
def mkC (x : Int) (i : Nat) (h : Int) (w : World) : Ys := fun k => if k = 0 then ⟨none, i, w, x⟩ else ⟨none, 0, w, h⟩
def sW (s : ByteArray) (w : World) : World := { w with heap := #[.cells #[.string s] 0 (0, 0)] }
def yS (y : Ya) : ByteArray := match (y.w.heap[0]? : Option Obj) with
  | some (.cells cs _ _) => (match (cs[0]? : Option Value) with | some (.string s) => s | _ => ⟨#[]⟩)
  | _ => ⟨#[]⟩
def mkS (s : ByteArray) (i : Nat) (h : Int) (w : World) : Ys := fun k => if k = 0 then ⟨none, i, sW s w, 0⟩ else ⟨none, 0, w, h⟩
theorem yS_mk (s : ByteArray) (i : Nat) (h : Int) (w : World) : yS (mkS s i h w 0) = s := rfl
theorem and255' (y : Int) : 0 ≤ (IntKind.i64.wrap ((BitVec.ofInt IntKind.i64.bits y &&& BitVec.ofInt IntKind.i64.bits 255).toNat : Int)) ∧ (IntKind.i64.wrap ((BitVec.ofInt IntKind.i64.bits y &&& BitVec.ofInt IntKind.i64.bits 255).toNat : Int)) ≤ 255 := by
  have h : (BitVec.ofInt IntKind.i64.bits y &&& BitVec.ofInt IntKind.i64.bits 255).toNat ≤ 255 := by
    rw [BitVec.toNat_and]
    exact Nat.le_trans Nat.and_le_right (by decide)
  generalize (BitVec.ofInt IntKind.i64.bits y &&& BitVec.ofInt IntKind.i64.bits 255).toNat = n at *
  rw [IntWalk.i64_in _ (by omega)]
  omega
theorem ps_convI {P : Program} {E : Env} {H : List HObj} {G : List World} {o : Oper} {x : Operand} {s t : TypeId} {k' : IntKind} {z : Int} [hk : IK P t .u8] [hk' : IK P s k'] (ho : o.op = .convert s t x) (hx : opd E x = some (.int k' z)) (h : 0 ≤ z) : PStep P E H G o (.int .u8 ((UInt8.ofNat z.toNat).toNat : Int)) := by
  obtain ⟨n, rfl⟩ := Int.eq_ofNat_of_zero_le h
  rw [Int.toNat_natCast]; exact ps_convB ho hx
theorem bvs1 (L : List UInt8) (x : UInt8) : byteVs (L ++ [x]) = byteVs L ++ [.int .u8 (x.toNat : Int)] := by simp [byteVs]
theorem sz_one (x : UInt8) : (⟨[x].toArray⟩ : ByteArray).size = 1 := rfl
theorem bt_lt' (s : ByteArray) (k : Nat) : bt s k < 256 := by unfold bt; exact UInt8.toNat_lt _
theorem one1 {v : Value} (h : v.oneCell' = true) : ∀ u ∈ [v], u.oneCell' = true := fun u hu => by
  cases hu with
  | head => exact h
  | tail _ h => cases h
theorem emod_in (z : Int) {n : Int} (h : 0 < n) : 0 ≤ z % n ∧ z % n < n := ⟨Int.emod_nonneg _ (by omega), Int.emod_lt_of_pos _ h⟩
/-- Code that is read while drawing. -/
structure CodeR (A : Option Addr) (bs : List UInt8) (G : List World) : Prop where
  rd : ∃ m ∈ G, Rd m A (fl bs)
  le : bs.length ≤ 1048576
theorem new_c (A : Option Addr) (c : Nat) (bs : List UInt8) (w : World) (h : Rd w A (fl bs)) (hl : bs.length ≤ 1048576) :
    Calls Try.prog 72 #[.slice A bs.length c] w fun e w' => ∃ y : Ys, e = .returned (pt (ga (y 0).c) 0) ∧ True ∧ Below w.heap.size w w' ∧ NewOk w.heap.size [cur (y 0).c A bs.length c 0 (y 1).n] [] w' := by
  refine ok_enter 32 Try.func72 rfl rfl rfl ?_
  repeat' (first
    | refine ok_seq ?_
    | refine ok_then ?_
    | refine ok_block ?_
    | (refine ok_region (i := 0) ?_; refine ok_p rfl rfl rfl (by exact ps_assign rfl rfl) ?_; refine ok_nil ?_; refine ok_env [(0, _)] ⟨rfl, trivial⟩ ?_)
    | (refine ok_region (i := 1) ?_; refine ok_p rfl rfl rfl (by exact ps_move rfl rfl) ?_; refine ok_p rfl rfl rfl (by exact ps_len rfl rfl) ?_; refine ok_p rfl rfl rfl (by exact ps_add rfl rfl rfl (by omega)) ?_; refine ok_p rfl rfl rfl (by exact ps_assign rfl rfl) ?_; refine ok_nil ?_; refine ok_env [(0, _), (3, _)] ⟨rfl, rfl, trivial⟩ ?_)
    | (refine ok_region (i := 2) ?_; refine ok_p rfl rfl rfl (by exact ps_assign rfl rfl) ?_; refine ok_nil ?_; refine ok_env [(0, _), (3, _), (4, _)] ⟨rfl, rfl, rfl, trivial⟩ ?_))
  refine ok_loop (ι := { q : Nat × Int // q.1 ≤ bs.length }) (fun q => bs.length - q.1.1) (fun q => ([(0, .slice A bs.length c), (3, .int .i64 q.1.2), (4, .int .i64 q.1.1)], [], _)) ⟨(0, 10101 + bs.length), by simp⟩ (fun a w he hw => ⟨⟨(0, 10101 + bs.length), by simp⟩, he.sub ⟨rfl, rfl, rfl, trivial⟩, hw⟩) ?_
  rintro ⟨⟨k, hh⟩, hk⟩
  simp only at hk ⊢
  repeat' (first
    | refine ok_seq ?_
    | refine ok_then ?_
    | refine ok_block ?_
    | refine ok_in_normal ?_
    | (refine ok_cond rfl (fun hc => ?_) (fun hc => ?_) <;> (have hd := hc; (try simp only [decide_eq_true_eq, decide_eq_false_iff_not, Bool.or_eq_true, Bool.or_eq_false_iff, Bool.and_eq_true, Bool.and_eq_false_iff, Bool.not_eq_true', Bool.not_eq_false', bne_iff_ne, beq_iff_eq, bne_eq_false_iff_eq, beq_eq_false_iff_ne, ne_eq, Bool.not_true, Bool.not_false, Bool.false_eq_true, Bool.true_eq_false, inB_true, inB_false] at hd)))
    | refine ok_ret ?_
    | refine ok_exit ?_
    | refine ok_skip ?_
    | (refine ok_region (i := 3) ?_; refine ok_p rfl rfl rfl (by exact ps_move rfl rfl) ?_; refine ok_p rfl rfl rfl (by exact ps_move rfl rfl) ?_; refine ok_p rfl rfl rfl (by exact ps_len rfl rfl) ?_; refine ok_p rfl rfl rfl (by exact ps_int rfl rfl rfl rfl) ?_; refine ok_p rfl rfl rfl (by exact ps_move rfl rfl) ?_; refine ok_pg rfl rfl rfl rfl rfl (gT _) (fun hp => by (have hpd := hp; (try simp only [decide_eq_true_eq, decide_eq_false_iff_not, Bool.or_eq_true, Bool.or_eq_false_iff, Bool.and_eq_true, Bool.and_eq_false_iff, Bool.not_eq_true', Bool.not_eq_false', bne_iff_ne, beq_iff_eq, bne_eq_false_iff_eq, beq_eq_false_iff_ne, ne_eq, Bool.not_true, Bool.not_false, Bool.false_eq_true, Bool.true_eq_false, inB_true, inB_false] at hpd); exact ps_move rfl (by exact rfl))) ?_; refine ok_pg rfl rfl rfl rfl rfl (gT _) (fun hp => by (have hpd := hp; (try simp only [decide_eq_true_eq, decide_eq_false_iff_not, Bool.or_eq_true, Bool.or_eq_false_iff, Bool.and_eq_true, Bool.and_eq_false_iff, Bool.not_eq_true', Bool.not_eq_false', bne_iff_ne, beq_iff_eq, bne_eq_false_iff_eq, beq_eq_false_iff_ne, ne_eq, Bool.not_true, Bool.not_false, Bool.false_eq_true, Bool.true_eq_false, inB_true, inB_false] at hpd); exact ps_int rfl (by (refine og rfl ?_; assumption)) (by exact rfl) rfl)) ?_; refine ok_p rfl rfl rfl (by exact ps_and rfl rfl rfl) ?_; refine ok_nil ?_; refine ok_env [(0, _), (3, _), (4, _), (15, _)] ⟨rfl, rfl, rfl, rfl, trivial⟩ ?_)
    | (refine ok_region (i := 4) ?_; refine ok_p rfl rfl rfl (by exact ps_move rfl rfl) ?_; refine ok_p rfl rfl rfl (by exact ps_add rfl rfl rfl (by omega)) ?_; refine ok_p rfl rfl rfl (by exact ps_assign rfl rfl) ?_; refine ok_nil ?_; refine ok_env [(0, _), (3, _), (4, _)] ⟨rfl, rfl, rfl, trivial⟩ ?_)
    | (refine ok_region (i := 5) ?_; refine ok_p rfl rfl rfl (by exact ps_move rfl rfl) ?_; refine ok_p rfl rfl rfl (by exact ps_int rfl rfl rfl rfl) ?_; refine ok_p rfl rfl rfl (by exact ps_move rfl rfl) ?_; refine ok_p rfl rfl rfl (by exact ps_move rfl rfl) ?_; refine ok_p rfl rfl rfl (by exact ps_indexN rfl rfl rfl (by omega) (by exact isw_of (isS_fl (by assumption) (by omega)))) ?_; refine ok_p rfl rfl rfl (by exact ps_load rfl rfl (by exact Rds.cell (rds_rf (by assumption) (by exact List.mem_cons_self)) (by exact fl_at0 _ _ (by omega) (by decide)))) ?_; refine ok_p rfl rfl rfl (by exact ps_conv rfl rfl) ?_; refine ok_p rfl rfl rfl (by exact ps_int rfl rfl rfl rfl) ?_; refine ok_p rfl rfl rfl (by exact ps_int rfl rfl rfl rfl) ?_; refine ok_p rfl rfl rfl (by exact ps_int rfl rfl rfl rfl) ?_; refine ok_p rfl rfl rfl (by exact ps_assign rfl rfl) ?_; refine ok_nil ?_; refine ok_env [(0, _), (3, _), (4, _)] ⟨rfl, rfl, rfl, trivial⟩ ?_)
    | (refine ok_region (i := 6) ?_; refine ok_p rfl rfl rfl (by exact ps_move rfl rfl) ?_; refine ok_p rfl rfl rfl (by exact ps_move rfl rfl) ?_; refine ok_p rfl rfl rfl (by exact ps_bld rfl (parts_cons rfl (parts_cons rfl parts_nil)) rfl) ?_; refine ok_m rfl rfl rfl (by exact ms_box rfl rfl rfl) ?_; rintro y31 hy31; refine ok_p rfl rfl rfl (by exact ps_assign rfl rfl) ?_; refine ok_nil ?_; refine ok_env [(2, _)] ⟨rfl, trivial⟩ ?_))
  · exact fun a w' he hw => ⟨⟨(k + 1, _), by simp; omega⟩, by simp only; omega, he.sub ⟨rfl, rfl, rfl, trivial⟩, hw⟩
  all_goals
    refine ok_endL (vs := [_]) rfl ⟨rfl, trivial⟩ (fun w' hw => ?_)
    exact ⟨mkC 0 (y31 0).c hh w', rfl, trivial, hw.below, NewOk.of hw⟩
theorem byte_c (g : Nat) (A : Option Addr) (c : Nat) (bs : List UInt8) (i : Nat) (h : Int) (hi : i ≤ bs.length) {base : Nat} {w0 w : World} {H : List HObj} {G : List World} (hr : CodeR A bs G) (hw : WOk base w0 (cur g A bs.length c i h :: H) G w) :
    Calls Try.prog 146 #[pt (ga g) 0] w fun e w' => ∃ y : Ys, e = .returned (.int .i64 (y 0).n) ∧ ((0 ≤ (y 0).n ∧ (y 0).n ≤ 255) ∧ (y 0).c ≤ bs.length) ∧ WOk base w0 (cur g A bs.length c (y 0).c (y 1).n :: H) G w' := by
  obtain ⟨⟨m, hm, hr⟩, hl⟩ := hr
  refine ok_enterW 58 Try.func146 rfl rfl rfl hw ?_
  repeat' (first
    | refine ok_seq ?_
    | refine ok_then ?_
    | (refine ok_cond rfl (fun hc => ?_) (fun hc => ?_) <;> (have hd := hc; (try simp only [decide_eq_true_eq, decide_eq_false_iff_not, Bool.or_eq_true, Bool.or_eq_false_iff, Bool.and_eq_true, Bool.and_eq_false_iff, Bool.not_eq_true', Bool.not_eq_false', bne_iff_ne, beq_iff_eq, bne_eq_false_iff_eq, beq_eq_false_iff_ne, ne_eq, Bool.not_true, Bool.not_false, Bool.false_eq_true, Bool.true_eq_false, inB_true, inB_false] at hd)))
    | refine ok_ret ?_
    | refine ok_skip ?_
    | (refine ok_region (i := 0) ?_; refine ok_p rfl rfl rfl (by exact ps_assign rfl rfl) ?_; refine ok_nil ?_; refine ok_env [(0, _)] ⟨rfl, trivial⟩ ?_)
    | (refine ok_region (i := 1) ?_; refine ok_p rfl rfl rfl (by exact ps_move rfl rfl) ?_; refine ok_p rfl rfl rfl (by exact ps_move rfl rfl) ?_; refine ok_p rfl rfl rfl (by exact ps_nil rfl rfl (by exact isw_ga _)) ?_; refine ok_p rfl rfl rfl (by exact ps_field rfl rfl (by exact isw_ga _)) ?_; refine ok_p rfl rfl rfl (by exact ps_load rfl rfl (by exact Rds.cell (rds_box 0 rfl) rfl)) ?_; refine ok_p rfl rfl rfl (by exact ps_int rfl rfl rfl rfl) ?_; refine ok_p rfl rfl rfl (by exact ps_int rfl rfl rfl rfl) ?_; refine ok_p rfl rfl rfl (by exact ps_nil rfl rfl (by exact isw_ga _)) ?_; refine ok_p rfl rfl rfl (by exact ps_field rfl rfl (by exact isw_ga _)) ?_; refine ok_m_ rfl rfl (by exact ms_store 0 rfl rfl rfl rfl rfl rfl rfl rfl) ?_; rintro y_ hy_; refine ok_nil ?_; refine ok_env [(0, _)] ⟨rfl, trivial⟩ ?_)
    | (refine ok_draw (id := 2) 13 rfl (by kernel_rfl) (by kernel_rfl) rfl (by repeat (first | exact pq_body | refine pq_then ?_ | refine pq_in ?_)) [0, 1, 2, 3, 4, 5, 6, 7, 8, 9, 10, 11, 12, 13, 14, 15, 16, 17, 18, 19, 20, 21, 22, 23] (by decide) rfl ?_; refine okT_take (i := 0) rfl (by kernel_rfl) rfl rfl rfl (by exact ps_move rfl rfl) ?_; refine okT_take (i := 1) rfl (by kernel_rfl) rfl rfl rfl (by exact ps_nil rfl rfl (by exact isw_ga _)) ?_; refine okT_take (i := 2) rfl (by kernel_rfl) rfl rfl rfl (by exact ps_field rfl rfl (by exact isw_ga _)) ?_; refine okT_take (i := 3) rfl (by kernel_rfl) rfl rfl rfl (by exact ps_load rfl rfl (by exact Rds.cell (rds_box 0 rfl) rfl)) ?_; refine okT_take (i := 4) rfl (by kernel_rfl) rfl rfl rfl (by exact ps_shr rfl (by exact rfl) rfl ⟨by decide, by decide⟩) ?_; refine okT_take (i := 5) rfl (by kernel_rfl) rfl rfl rfl (by exact ps_move rfl rfl) ?_; refine okT_take (i := 6) rfl (by kernel_rfl) rfl rfl rfl (by exact ps_nil rfl rfl (by exact isw_ga _)) ?_; refine okT_take (i := 7) rfl (by kernel_rfl) rfl rfl rfl (by exact ps_field rfl rfl (by exact isw_ga _)) ?_; refine okT_take (i := 8) rfl (by kernel_rfl) rfl rfl rfl (by exact ps_load rfl rfl (by exact Rds.cell (rds_box 0 rfl) rfl)) ?_; refine okT_take (i := 9) rfl (by kernel_rfl) rfl rfl rfl (by exact ps_shr rfl (by exact rfl) rfl ⟨by decide, by decide⟩) ?_; refine okT_take (i := 10) rfl (by kernel_rfl) rfl rfl rfl (by exact ps_int rfl rfl rfl rfl) ?_; refine okT_take (i := 11) rfl (by kernel_rfl) rfl rfl rfl (by exact ps_int rfl rfl rfl rfl) ?_; refine okT_take (i := 12) rfl (by kernel_rfl) rfl rfl rfl (by exact ps_assign rfl rfl) ?_; refine okT_done (by kernel_rfl) ?_; refine ok_nil ?_; refine ok_env [(0, _), (3, _)] ⟨rfl, rfl, trivial⟩ ?_)
    | (refine ok_draw (id := 3) 10 rfl (by kernel_rfl) (by kernel_rfl) rfl (by repeat (first | exact pq_body | refine pq_then ?_ | refine pq_in ?_)) [0, 1, 2, 3, 4, 5, 6, 7, 8, 9, 10, 11, 12, 13, 14, 15, 16, 17, 18, 19, 20, 21, 22, 23] (by decide) rfl ?_; refine okT_take (i := 0) rfl (by kernel_rfl) rfl rfl rfl (by exact ps_move rfl rfl) ?_; refine okT_take (i := 1) rfl (by kernel_rfl) rfl rfl rfl (by exact ps_nil rfl rfl (by exact isw_ga _)) ?_; refine okT_take (i := 2) rfl (by kernel_rfl) rfl rfl rfl (by exact ps_field rfl rfl (by exact isw_ga _)) ?_; refine okT_take (i := 3) rfl (by kernel_rfl) rfl rfl rfl (by exact ps_load rfl rfl (by exact Rds.cell (rds_box 0 rfl) rfl)) ?_; refine okT_take (i := 4) rfl (by kernel_rfl) rfl rfl rfl (by exact ps_move rfl rfl) ?_; refine okT_take (i := 5) rfl (by kernel_rfl) rfl rfl rfl (by exact ps_nil rfl rfl (by exact isw_ga _)) ?_; refine okT_take (i := 6) rfl (by kernel_rfl) rfl rfl rfl (by exact ps_field rfl rfl (by exact isw_ga _)) ?_; refine okT_take (i := 7) rfl (by kernel_rfl) rfl rfl rfl (by exact ps_load rfl rfl (by exact Rds.cell (rds_box 0 rfl) rfl)) ?_; refine okT_take (i := 8) rfl (by kernel_rfl) rfl rfl rfl (by exact ps_len rfl rfl) ?_; refine okT_take (i := 9) rfl (by kernel_rfl) rfl rfl rfl (by exact ps_int rfl rfl rfl rfl) ?_; refine okT_done (by kernel_rfl) ?_; refine ok_nil ?_; refine ok_env [(0, _), (3, _), (34, _)] ⟨rfl, rfl, rfl, trivial⟩ ?_)
    | (refine ok_draw (id := 4) 15 rfl (by kernel_rfl) (by kernel_rfl) rfl (by repeat (first | exact pq_body | refine pq_then ?_ | refine pq_in ?_)) [0, 1, 2, 3, 4, 5, 6, 7, 8, 9, 10, 11, 12, 13, 14, 15, 16, 17, 18, 19, 20, 21, 22, 23] (by decide) rfl ?_; refine okT_take (i := 0) rfl (by kernel_rfl) rfl rfl rfl (by exact ps_move rfl rfl) ?_; refine okT_take (i := 1) rfl (by kernel_rfl) rfl rfl rfl (by exact ps_move rfl rfl) ?_; refine okT_take (i := 2) rfl (by kernel_rfl) rfl rfl rfl (by exact ps_nil rfl rfl (by exact isw_ga _)) ?_; refine okT_take (i := 3) rfl (by kernel_rfl) rfl rfl rfl (by exact ps_field rfl rfl (by exact isw_ga _)) ?_; refine okT_take (i := 4) rfl (by kernel_rfl) rfl rfl rfl (by exact ps_load rfl rfl (by exact Rds.cell (rds_box 0 rfl) rfl)) ?_; refine okT_take (i := 5) rfl (by kernel_rfl) rfl rfl rfl (by exact ps_move rfl rfl) ?_; refine okT_take (i := 6) rfl (by kernel_rfl) rfl rfl rfl (by exact ps_nil rfl rfl (by exact isw_ga _)) ?_; refine okT_take (i := 7) rfl (by kernel_rfl) rfl rfl rfl (by exact ps_field rfl rfl (by exact isw_ga _)) ?_; refine okT_take (i := 8) rfl (by kernel_rfl) rfl rfl rfl (by exact ps_load rfl rfl (by exact Rds.cell (rds_box 0 rfl) rfl)) ?_; refine okT_take (i := 9) rfl (by kernel_rfl) rfl rfl rfl (by exact ps_indexN rfl rfl rfl (by omega) (by exact isw_of (isS_fl (by assumption) (by omega)))) ?_; refine okT_take (i := 10) rfl (by kernel_rfl) rfl rfl rfl (by exact ps_load rfl (by exact rfl) (Rds.cell (rds_rf hr hm) (fl_at0 bs i (by omega) (by decide)))) ?_; refine okT_take (i := 11) rfl (by kernel_rfl) rfl rfl rfl (by exact ps_conv rfl rfl) ?_; refine okT_take (i := 12) rfl (by kernel_rfl) rfl rfl rfl (by exact ps_int rfl rfl rfl rfl) ?_; refine okT_take (i := 13) rfl (by kernel_rfl) rfl rfl rfl (by exact ps_int rfl rfl rfl rfl) ?_; refine okT_take (i := 14) rfl (by kernel_rfl) rfl rfl rfl (by exact ps_assign rfl rfl) ?_; refine okT_done (by kernel_rfl) ?_; refine ok_nil ?_; refine ok_env [(0, _), (3, _)] ⟨rfl, rfl, trivial⟩ ?_)
    | (refine ok_region (i := 5) ?_; refine ok_p rfl rfl rfl (by exact ps_move rfl rfl) ?_; refine ok_p rfl rfl rfl (by exact ps_move rfl rfl) ?_; refine ok_p rfl rfl rfl (by exact ps_nil rfl rfl (by exact isw_ga _)) ?_; refine ok_p rfl rfl rfl (by exact ps_field rfl rfl (by exact isw_ga _)) ?_; refine ok_p rfl rfl rfl (by exact ps_load rfl rfl (by exact Rds.cell (rds_box 0 rfl) rfl)) ?_; refine ok_p rfl rfl rfl (by exact ps_add rfl rfl rfl (by omega)) ?_; refine ok_p rfl rfl rfl (by exact ps_nil rfl rfl (by exact isw_ga _)) ?_; refine ok_p rfl rfl rfl (by exact ps_field rfl rfl (by exact isw_ga _)) ?_; refine ok_m_ rfl rfl (by exact ms_store 0 rfl rfl rfl rfl rfl rfl rfl rfl) ?_; rintro y_ hy_; refine ok_nil ?_; refine ok_env [(3, _)] ⟨rfl, trivial⟩ ?_)
    | (refine ok_region (i := 6) ?_; refine ok_p rfl rfl rfl (by exact ps_move rfl rfl) ?_; refine ok_p rfl rfl rfl (by exact ps_assign rfl rfl) ?_; refine ok_nil ?_; refine ok_env [(2, _)] ⟨rfl, trivial⟩ ?_))
  · refine ok_endL (vs := [_]) rfl ⟨rfl, trivial⟩ (fun w' hw => ?_)
    exact ⟨mkC _ (i + 1) _ w', rfl, ⟨and255' _, by show i + 1 ≤ bs.length; omega⟩, hw⟩
  · refine ok_endL (vs := [_]) rfl ⟨rfl, trivial⟩ (fun w' hw => ?_)
    exact ⟨mkC _ i _ w', rfl, ⟨and255' _, hi⟩, hw⟩
theorem below_c (g : Nat) (A : Option Addr) (c : Nat) (bs : List UInt8) (i : Nat) (h : Int) (n : Int) (hn : 0 < n ∧ n ≤ 9223372036854775807) (hi : i ≤ bs.length) {base : Nat} {w0 w : World} {H : List HObj} {G : List World} (hr : CodeR A bs G) (hw : WOk base w0 (cur g A bs.length c i h :: H) G w) :
    Calls Try.prog 75 #[pt (ga g) 0, .int .i64 n] w fun e w' => ∃ y : Ys, e = .returned (.int .i64 (y 0).n) ∧ ((0 ≤ (y 0).n ∧ (y 0).n < n) ∧ (y 0).c ≤ bs.length) ∧ WOk base w0 (cur g A bs.length c (y 0).c (y 1).n :: H) G w' := by
  refine ok_enterW 37 Try.func75 rfl rfl rfl hw ?_
  repeat' (first
    | refine ok_seq ?_
    | refine ok_then ?_
    | refine ok_then_ret ?_
    | (refine ok_cond rfl (fun hc => ?_) (fun hc => ?_) <;> (have hd := hc; (try simp only [decide_eq_true_eq, decide_eq_false_iff_not, Bool.or_eq_true, Bool.or_eq_false_iff, Bool.and_eq_true, Bool.and_eq_false_iff, Bool.not_eq_true', Bool.not_eq_false', bne_iff_ne, beq_iff_eq, bne_eq_false_iff_eq, beq_eq_false_iff_ne, ne_eq, Bool.not_true, Bool.not_false, Bool.false_eq_true, Bool.true_eq_false, inB_true, inB_false] at hd)))
    | refine ok_ret ?_
    | refine ok_skip ?_
    | (refine ok_region (i := 0) ?_; refine ok_p rfl rfl rfl (by exact ps_assign rfl rfl) ?_; refine ok_nil ?_; refine ok_env [(0, _), (1, _)] ⟨rfl, rfl, trivial⟩ ?_)
    | (refine ok_region (i := 1) ?_; refine ok_p rfl rfl rfl (by exact ps_move rfl rfl) ?_; refine ok_p rfl rfl rfl (by exact ps_int rfl rfl rfl rfl) ?_; refine ok_nil ?_; refine ok_env [(0, _), (1, _), (10, _)] ⟨rfl, rfl, rfl, trivial⟩ ?_)
    | (refine ok_region (i := 2) ?_; refine ok_p rfl rfl rfl (by exact ps_assign rfl rfl) ?_; refine ok_nil ?_; refine ok_env [(4, _)] ⟨rfl, trivial⟩ ?_)
    | (refine ok_region (i := 3) ?_; refine ok_p rfl rfl rfl (by exact ps_move rfl rfl) ?_; refine ok_p rfl rfl rfl (by exact ps_int rfl rfl rfl rfl) ?_; refine ok_nil ?_; refine ok_env [(0, _), (1, _), (12, _)] ⟨rfl, rfl, rfl, trivial⟩ ?_)
    | (refine ok_region (i := 4) ?_; refine ok_p rfl rfl rfl (by exact ps_move rfl rfl) ?_; refine ok_m rfl rfl rfl (by exact ms_w1 (fun _ _ _ h => h) rfl rfl (fun _ _ w hw => byte_c g A c bs _ _ (by omega) hr hw)) ?_; rintro y14 hy14; refine ok_p rfl rfl rfl (by exact ps_move rfl rfl) ?_; refine ok_p rfl rfl rfl (by exact ps_rem rfl rfl rfl (by omega) (by omega)) ?_; refine ok_p rfl rfl rfl (by exact ps_assign rfl rfl) ?_; refine ok_nil ?_; refine ok_env [(4, _)] ⟨rfl, trivial⟩ ?_)
    | (refine ok_region (i := 5) ?_; refine ok_p rfl rfl rfl (by exact ps_move rfl rfl) ?_; refine ok_m rfl rfl rfl (by exact ms_w1 (fun _ _ _ h => h) rfl rfl (fun _ _ w hw => byte_c g A c bs _ _ (by omega) hr hw)) ?_; rintro y18 hy18; refine ok_p rfl rfl rfl (by exact ps_assign rfl rfl) ?_; refine ok_nil ?_; refine ok_env [(0, _), (1, _), (5, _)] ⟨rfl, rfl, rfl, trivial⟩ ?_)
    | (refine ok_region (i := 6) ?_; refine ok_p rfl rfl rfl (by exact ps_move rfl rfl) ?_; refine ok_m rfl rfl rfl (by exact ms_w1 (fun _ _ _ h => h) rfl rfl (fun _ _ w hw => byte_c g A c bs _ _ (by omega) hr hw)) ?_; rintro y20 hy20; refine ok_p rfl rfl rfl (by exact ps_assign rfl rfl) ?_; refine ok_nil ?_; refine ok_env [(0, _), (1, _), (5, _), (6, _)] ⟨rfl, rfl, rfl, rfl, trivial⟩ ?_)
    | (refine ok_region (i := 7) ?_; refine ok_p rfl rfl rfl (by exact ps_move rfl rfl) ?_; refine ok_m rfl rfl rfl (by exact ms_w1 (fun _ _ _ h => h) rfl rfl (fun _ _ w hw => byte_c g A c bs _ _ (by omega) hr hw)) ?_; rintro y22 hy22; refine ok_p rfl rfl rfl (by exact ps_assign rfl rfl) ?_; refine ok_nil ?_; refine ok_env [(0, _), (1, _), (5, _), (6, _), (7, _)] ⟨rfl, rfl, rfl, rfl, rfl, trivial⟩ ?_)
    | (refine ok_region (i := 8) ?_; refine ok_p rfl rfl rfl (by exact ps_move rfl rfl) ?_; refine ok_m rfl rfl rfl (by exact ms_w1 (fun _ _ _ h => h) rfl rfl (fun _ _ w hw => byte_c g A c bs _ _ (by omega) hr hw)) ?_; rintro y24 hy24; refine ok_p rfl rfl rfl (by exact ps_assign rfl rfl) ?_; refine ok_nil ?_; refine ok_env [(1, _), (5, _), (6, _), (7, _), (8, _)] ⟨rfl, rfl, rfl, rfl, rfl, trivial⟩ ?_)
    | (refine ok_region (i := 9) ?_; refine ok_p rfl rfl rfl (by exact ps_move rfl rfl) ?_; refine ok_p rfl rfl rfl (by exact ps_mul rfl rfl rfl (by omega)) ?_; refine ok_p rfl rfl rfl (by exact ps_move rfl rfl) ?_; refine ok_p rfl rfl rfl (by exact ps_mul rfl rfl rfl (by omega)) ?_; refine ok_p rfl rfl rfl (by exact ps_add rfl rfl rfl (by omega)) ?_; refine ok_p rfl rfl rfl (by exact ps_move rfl rfl) ?_; refine ok_p rfl rfl rfl (by exact ps_mul rfl rfl rfl (by omega)) ?_; refine ok_p rfl rfl rfl (by exact ps_add rfl rfl rfl (by omega)) ?_; refine ok_p rfl rfl rfl (by exact ps_move rfl rfl) ?_; refine ok_p rfl rfl rfl (by exact ps_add rfl rfl rfl (by omega)) ?_; refine ok_p rfl rfl rfl (by exact ps_move rfl rfl) ?_; refine ok_p rfl rfl rfl (by exact ps_rem rfl rfl rfl (by omega) (by omega)) ?_; refine ok_p rfl rfl rfl (by exact ps_assign rfl rfl) ?_; refine ok_nil ?_; refine ok_env [(4, _)] ⟨rfl, trivial⟩ ?_))
  · exfalso; omega
  · refine ok_endL (vs := [_]) rfl ⟨rfl, trivial⟩ (fun w' hw => ?_)
    exact ⟨mkC _ (y14 0).c _ w', rfl, ⟨emod_in _ hn.1, hy14.2⟩, hw⟩
  · refine ok_endL (vs := [_]) rfl ⟨rfl, trivial⟩ (fun w' hw => ?_)
    exact ⟨mkC _ (y24 0).c _ w', rfl, ⟨emod_in _ hn.1, hy24.2⟩, hw⟩
theorem once_c (g : Nat) (A : Option Addr) (c : Nat) (bs : List UInt8) (i : Nat) (h : Int) (n : Int) (hn : 0 < n ∧ n ≤ 9223372036854775807) (hi : i ≤ bs.length) {base : Nat} {w0 w : World} {H : List HObj} {G : List World} (hr : CodeR A bs G) (hw : WOk base w0 (cur g A bs.length c i h :: H) G w) :
    Calls Try.prog 74 #[pt (ga g) 0, .int .i64 n] w fun e w' => ∃ y : Ys, e = .returned (.bool (decide ((y 0).n = 0))) ∧ (y 0).c ≤ bs.length ∧ WOk base w0 (cur g A bs.length c (y 0).c (y 1).n :: H) G w' := by
  refine ok_enterW 9 Try.func74 rfl rfl rfl hw ?_
  repeat' (first
    | refine ok_seq ?_
    | refine ok_then ?_
    | refine ok_ret ?_
    | (refine ok_region (i := 0) ?_; refine ok_p rfl rfl rfl (by exact ps_assign rfl rfl) ?_; refine ok_nil ?_; refine ok_env [(0, _), (1, _)] ⟨rfl, rfl, trivial⟩ ?_)
    | (refine ok_region (i := 1) ?_; refine ok_p rfl rfl rfl (by exact ps_move rfl rfl) ?_; refine ok_p rfl rfl rfl (by exact ps_move rfl rfl) ?_; refine ok_m rfl rfl rfl (by exact ms_w2 (fun _ _ _ h => h) rfl rfl rfl (fun _ _ w hw => below_c g A c bs _ _ n hn (by omega) hr hw)) ?_; rintro y7 hy7; refine ok_p rfl rfl rfl (by exact ps_int rfl rfl rfl rfl) ?_; refine ok_p rfl rfl rfl (by exact ps_assign rfl rfl) ?_; refine ok_nil ?_; refine ok_env [(4, _)] ⟨rfl, trivial⟩ ?_))
  refine ok_endL (vs := [_]) rfl ⟨rfl, trivial⟩ (fun w' hw => ?_)
  exact ⟨mkC (y7 0).n (y7 0).c (y7 1).n w', rfl, hy7.2, hw⟩
/-- The state of a text that is drawn. -/
structure TxI (most : Nat) (m : Nat) where
  k : Int
  n : Nat
  L : List UInt8
  B : Option Addr
  d : Nat
  i : Nat
  h : Int
  hn : n = L.length
  hk : (n : Int) + k ≤ most ∧ 0 ≤ k
  hi : i ≤ m
theorem text_c (g : Nat) (A : Option Addr) (c : Nat) (bs : List UInt8) (i : Nat) (h : Int) (most : Nat) (hn : most ≤ 1000) (hi : i ≤ bs.length) {base : Nat} {w0 w : World} {H : List HObj} {G : List World} (hr : CodeR A bs G) (hw : WOk base w0 (cur g A bs.length c i h :: H) G w) :
    Calls Try.prog 92 #[pt (ga g) 0, .int .i64 most] w fun e w' => ∃ y : Ys, e = .returned (.string (yS (y 0))) ∧ ((yS (y 0)).size ≤ most ∧ (y 0).c ≤ bs.length) ∧ WOk base w0 (cur g A bs.length c (y 0).c (y 1).n :: H) G w' := by
  refine ok_enterW 38 Try.func92 rfl rfl rfl hw ?_
  repeat' (first
    | refine ok_seq ?_
    | refine ok_then ?_
    | refine ok_block ?_
    | (refine ok_region (i := 0) ?_; refine ok_p rfl rfl rfl (by exact ps_assign rfl rfl) ?_; refine ok_nil ?_; refine ok_env [(0, _), (1, _)] ⟨rfl, rfl, trivial⟩ ?_)
    | (refine ok_region (i := 1) ?_; refine ok_m rfl rfl rfl (by exact ms_lit rfl parts_nil rfl rfl rfl) ?_; rintro y9 hy9; refine ok_p rfl rfl rfl (by exact ps_assign rfl rfl) ?_; refine ok_nil ?_; refine ok_env [(0, _), (1, _), (5, _)] ⟨rfl, rfl, rfl, trivial⟩ ?_)
    | (refine ok_region (i := 2) ?_; refine ok_p rfl rfl rfl (by exact ps_move rfl rfl) ?_; refine ok_m rfl rfl rfl (by exact ms_wr 1 rfl rfl rfl rfl (fun _ _ w hw => below_c g A c bs _ _ 4 (by omega) (by omega) hr hw)) ?_; rintro y11 hy11; refine ok_p rfl rfl rfl (by exact ps_assign rfl rfl) ?_; refine ok_nil ?_; refine ok_env [(0, _), (1, _), (5, _), (6, _)] ⟨rfl, rfl, rfl, rfl, trivial⟩ ?_)
    | (refine ok_region (i := 3) ?_; refine ok_p rfl rfl rfl (by exact ps_move rfl rfl) ?_; refine ok_p rfl rfl rfl (by exact ps_move rfl rfl) ?_; refine ok_p rfl rfl rfl (by exact ps_add rfl rfl rfl (by omega)) ?_; refine ok_m rfl rfl rfl (by exact ms_wr 1 rfl rfl rfl rfl (fun _ _ w hw => below_c g A c bs _ _ ((most : Int) + 1) (by omega) (by omega) hr hw)) ?_; rintro y15 hy15; refine ok_p rfl rfl rfl (by exact ps_assign rfl rfl) ?_; refine ok_nil ?_; refine ok_env [(0, _), (5, _), (6, _), (7, _)] ⟨rfl, rfl, rfl, rfl, trivial⟩ ?_))
  refine ok_loop (ι := TxI most bs.length) (fun q => q.k.toNat) (fun q => ([(0, pt (ga g) 0), (5, .slice q.B q.n q.d), (6, .int .i64 (y11 0).n), (7, .int .i64 q.k)], .row 5 1 q.B q.n q.d (byteVs q.L) :: cur g A bs.length c q.i q.h :: H, _)) ⟨(y15 0).n, 0, [], none, 0, (y15 0).c, (y15 1).n, rfl, by omega, by omega⟩ (fun a w he hw => ⟨⟨(y15 0).n, 0, [], _, _, (y15 0).c, (y15 1).n, rfl, by omega, by omega⟩, he.sub ⟨rfl, rfl, rfl, rfl, trivial⟩, hw⟩) ?_
  rintro ⟨k, n, L, B, d, i2, h2, hnL, hk, hi2⟩
  simp only at hnL hk hi2 ⊢
  repeat' (first
    | refine ok_seq ?_
    | refine ok_then ?_
    | refine ok_block ?_
    | refine ok_in_normal ?_
    | (refine ok_cond rfl (fun hc => ?_) (fun hc => ?_) <;> (have hd := hc; (try simp only [decide_eq_true_eq, decide_eq_false_iff_not, Bool.or_eq_true, Bool.or_eq_false_iff, Bool.and_eq_true, Bool.and_eq_false_iff, Bool.not_eq_true', Bool.not_eq_false', bne_iff_ne, beq_iff_eq, bne_eq_false_iff_eq, beq_eq_false_iff_ne, ne_eq, Bool.not_true, Bool.not_false, Bool.false_eq_true, Bool.true_eq_false, inB_true, inB_false] at hd)))
    | refine ok_ret ?_
    | refine ok_exit ?_
    | refine ok_skip ?_
    | (refine ok_region (i := 4) ?_; refine ok_p rfl rfl rfl (by exact ps_move rfl rfl) ?_; refine ok_p rfl rfl rfl (by exact ps_int rfl rfl rfl rfl) ?_; refine ok_nil ?_; refine ok_env [(0, _), (5, _), (6, _), (7, _), (17, _)] ⟨rfl, rfl, rfl, rfl, rfl, trivial⟩ ?_)
    | (refine ok_region (i := 5) ?_; refine ok_p rfl rfl rfl (by exact ps_move rfl rfl) ?_; refine ok_p rfl rfl rfl (by exact ps_sub rfl rfl rfl (by omega)) ?_; refine ok_p rfl rfl rfl (by exact ps_assign rfl rfl) ?_; refine ok_nil ?_; refine ok_env [(0, _), (5, _), (6, _), (7, _)] ⟨rfl, rfl, rfl, rfl, trivial⟩ ?_)
    | (refine ok_region (i := 6) ?_; refine ok_p rfl rfl rfl (by exact ps_move rfl rfl) ?_; refine ok_m rfl rfl rfl (by exact ms_wr 1 rfl rfl rfl rfl (fun _ _ w hw => byte_c g A c bs _ _ (by omega) hr hw)) ?_; rintro y21 hy21; refine ok_p rfl rfl rfl (by exact ps_assign rfl rfl) ?_; refine ok_nil ?_; refine ok_env [(0, _), (5, _), (6, _), (7, _), (8, _)] ⟨rfl, rfl, rfl, rfl, rfl, trivial⟩ ?_)
    | (refine ok_region (i := 7) ?_; refine ok_p rfl rfl rfl (by exact ps_move rfl rfl) ?_; refine ok_p rfl rfl rfl (by exact ps_int rfl rfl rfl rfl) ?_; refine ok_nil ?_; refine ok_env [(0, _), (5, _), (6, _), (7, _), (8, _), (23, _)] ⟨rfl, rfl, rfl, rfl, rfl, rfl, trivial⟩ ?_)
    | (refine ok_region (i := 8) ?_; refine ok_p rfl rfl rfl (by exact ps_move rfl rfl) ?_; refine ok_p rfl rfl rfl (by exact ps_rem rfl rfl rfl (by omega) (by omega)) ?_; refine ok_p rfl rfl rfl (by exact ps_assign rfl rfl) ?_; refine ok_nil ?_; refine ok_env [(0, _), (5, _), (6, _), (7, _), (8, _)] ⟨rfl, rfl, rfl, rfl, rfl, trivial⟩ ?_)
    | (refine ok_region (i := 9) ?_; refine ok_p rfl rfl rfl (by exact ps_move rfl rfl) ?_; refine ok_p rfl rfl rfl (by exact ps_int rfl rfl rfl rfl) ?_; refine ok_nil ?_; refine ok_env [(0, _), (5, _), (6, _), (7, _), (8, _), (27, _)] ⟨rfl, rfl, rfl, rfl, rfl, rfl, trivial⟩ ?_)
    | (refine ok_region (i := 10) ?_; refine ok_p rfl rfl rfl (by exact ps_move rfl rfl) ?_; refine ok_p rfl rfl rfl (by exact ps_rem rfl rfl rfl (by omega) (by omega)) ?_; refine ok_p rfl rfl rfl (by exact ps_add rfl rfl rfl (by omega)) ?_; refine ok_p rfl rfl rfl (by exact ps_assign rfl rfl) ?_; refine ok_nil ?_; refine ok_env [(0, _), (5, _), (6, _), (7, _), (8, _)] ⟨rfl, rfl, rfl, rfl, rfl, trivial⟩ ?_)
    | (refine ok_region (i := 11) ?_; refine ok_p rfl rfl rfl (by exact ps_move rfl rfl) ?_; refine ok_p rfl rfl rfl (by exact ps_move rfl rfl) ?_; refine ok_p rfl rfl rfl (by exact ps_convI rfl rfl (by omega)) ?_; refine ok_m rfl rfl rfl (by exact ms_lit rfl (parts_cons rfl parts_nil) rfl rfl rfl) ?_; rintro y34 hy34; refine ok_m rfl rfl rfl (by exact ms_app (m := 1) 1 rfl rfl rfl rfl (rds_row 0 rfl) rfl (one1 rfl) (by omega) (by omega)) ?_; rintro y35 hy35; refine ok_p rfl rfl rfl (by exact ps_assign rfl rfl) ?_; refine ok_nil ?_; refine ok_env [(0, _), (5, _), (6, _), (7, _)] ⟨rfl, rfl, rfl, rfl, trivial⟩ ?_)
    | (refine ok_region (i := 12) ?_; refine ok_p rfl rfl rfl (by exact ps_move rfl rfl) ?_; refine ok_p rfl rfl rfl (by exact ps_str_of rfl rfl (rds_row 0 rfl) hnL) ?_; refine ok_p rfl rfl rfl (by exact ps_assign rfl rfl) ?_; refine ok_nil ?_; refine ok_env [(4, _)] ⟨rfl, trivial⟩ ?_))
  all_goals first
    | (refine ok_endL (vs := [_]) rfl ⟨rfl, trivial⟩ (fun w' hw => ?_)
       exact ⟨mkS ⟨L.toArray⟩ i2 h2 w', rfl, ⟨by show L.toArray.size ≤ most; simp; omega, hi2⟩, hw.tl⟩)
    | (refine fun a w' he hw => ⟨⟨k - 1, n + 1, L ++ [UInt8.ofNat ((y21 0).n).toNat], (y35 0).A, (y35 0).c, (y21 0).c, (y21 1).n, by simp; omega, by omega, by omega⟩, by simp only; omega, he.sub ⟨rfl, rfl, rfl, rfl, trivial⟩, ?_⟩
       simp only [bvs1]
       exact hw.tl)
    | (refine fun a w' he hw => ⟨⟨k - 1, n + 1, L ++ [UInt8.ofNat ((y21 0).n % 2).toNat], (y35 0).A, (y35 0).c, (y21 0).c, (y21 1).n, by simp; omega, by omega, by omega⟩, by simp only; omega, he.sub ⟨rfl, rfl, rfl, rfl, trivial⟩, ?_⟩
       simp only [bvs1]
       exact hw.tl)
    | (refine fun a w' he hw => ⟨⟨k - 1, n + 1, L ++ [UInt8.ofNat (97 + (y21 0).n % 4).toNat], (y35 0).A, (y35 0).c, (y21 0).c, (y21 1).n, by simp; omega, by omega, by omega⟩, by simp only; omega, he.sub ⟨rfl, rfl, rfl, rfl, trivial⟩, ?_⟩
       simp only [bvs1]
       exact hw.tl)
    | (refine fun a w' he hw => ⟨⟨k - 1, n + 1, L ++ [UInt8.ofNat (97 + (y21 0).n % 2 % 4).toNat], (y35 0).A, (y35 0).c, (y21 0).c, (y21 1).n, by simp; omega, by omega, by omega⟩, by simp only; omega, he.sub ⟨rfl, rfl, rfl, rfl, trivial⟩, ?_⟩
       simp only [bvs1]
       exact hw.tl)
theorem spoil_c (g : Nat) (A : Option Addr) (c : Nat) (bs : List UInt8) (i : Nat) (h : Int) (s : ByteArray) (hs : s.size ≤ 1048576) (hi : i ≤ bs.length) {base : Nat} {w0 w : World} {H : List HObj} {G : List World} (hr : CodeR A bs G) (hw : WOk base w0 (cur g A bs.length c i h :: H) G w) :
    Calls Try.prog 127 #[pt (ga g) 0, .string s] w fun e w' => ∃ y : Ys, e = .returned (.string (yS (y 0))) ∧ ((yS (y 0)).size ≤ s.size + 3 ∧ (y 0).c ≤ bs.length) ∧ WOk base w0 (cur g A bs.length c (y 0).c (y 1).n :: H) G w' := by
  refine ok_enterW 67 Try.func127 rfl rfl rfl hw ?_
  repeat' (first
    | refine ok_seq ?_
    | refine ok_then ?_
    | refine ok_then_ret ?_
    | refine ok_block ?_
    | refine ok_in_ret ?_
    | (refine ok_cond rfl (fun hc => ?_) (fun hc => ?_) <;> (have hd := hc; (try simp only [decide_eq_true_eq, decide_eq_false_iff_not, Bool.or_eq_true, Bool.or_eq_false_iff, Bool.and_eq_true, Bool.and_eq_false_iff, Bool.not_eq_true', Bool.not_eq_false', bne_iff_ne, beq_iff_eq, bne_eq_false_iff_eq, beq_eq_false_iff_ne, ne_eq, Bool.not_true, Bool.not_false, Bool.false_eq_true, Bool.true_eq_false, inB_true, inB_false] at hd)))
    | refine ok_ret ?_
    | refine ok_skip ?_
    | (refine ok_region (i := 0) ?_; refine ok_p rfl rfl rfl (by exact ps_assign rfl rfl) ?_; refine ok_nil ?_; refine ok_env [(0, _), (1, _)] ⟨rfl, rfl, trivial⟩ ?_)
    | (refine ok_region (i := 1) ?_; refine ok_p rfl rfl rfl (by exact ps_move rfl rfl) ?_; refine ok_p rfl rfl rfl (by exact ps_slen rfl rfl) ?_; refine ok_p rfl rfl rfl (by exact ps_int rfl rfl rfl rfl) ?_; refine ok_nil ?_; refine ok_env [(0, _), (1, _), (8, _)] ⟨rfl, rfl, rfl, trivial⟩ ?_)
    | (refine ok_region (i := 2) ?_; refine ok_p rfl rfl rfl (by exact ps_move rfl rfl) ?_; refine ok_m rfl rfl rfl (by exact ms_wr 0 rfl rfl rfl rfl (fun _ _ w hw => text_c g A c bs _ _ 3 (by omega) (by omega) hr hw)) ?_; rintro y10 hy10; refine ok_p rfl rfl rfl (by exact ps_assign rfl rfl) ?_; refine ok_nil ?_; refine ok_env [(4, _)] ⟨rfl, trivial⟩ ?_)
    | (refine ok_region (i := 3) ?_; refine ok_p rfl rfl rfl (by exact ps_move rfl rfl) ?_; refine ok_p rfl rfl rfl (by exact ps_move rfl rfl) ?_; refine ok_p rfl rfl rfl (by exact ps_slen rfl rfl) ?_; refine ok_m rfl rfl rfl (by exact ms_wr 0 rfl rfl rfl rfl (fun _ _ w hw => below_c g A c bs _ _ (s.size : Int) (by omega) (by omega) hr hw)) ?_; rintro y14 hy14; refine ok_p rfl rfl rfl (by exact ps_assign rfl rfl) ?_; refine ok_nil ?_; refine ok_env [(0, _), (1, _), (5, _)] ⟨rfl, rfl, rfl, trivial⟩ ?_)
    | (refine ok_region (i := 4) ?_; refine ok_p rfl rfl rfl (by exact ps_move rfl rfl) ?_; refine ok_m rfl rfl rfl (by exact ms_wr 0 rfl rfl rfl rfl (fun _ _ w hw => below_c g A c bs _ _ 4 (by omega) (by omega) hr hw)) ?_; rintro y16 hy16; refine ok_nil ?_; refine ok_env [(0, _), (1, _), (5, _), (16, _)] ⟨rfl, rfl, rfl, rfl, trivial⟩ ?_)
    | (refine ok_region (i := 5) ?_; refine ok_p rfl rfl rfl (by exact ps_int rfl rfl rfl rfl) ?_; refine ok_p rfl rfl rfl (by exact ps_assign rfl rfl) ?_; refine ok_nil ?_; refine ok_env [(0, _), (1, _), (5, _), (16, _), (17, _)] ⟨rfl, rfl, rfl, rfl, rfl, trivial⟩ ?_)
    | (refine ok_draw (id := 6) 9 rfl (by kernel_rfl) (by kernel_rfl) rfl (by repeat (first | exact pq_body | refine pq_then ?_ | refine pq_in ?_)) [0] (by decide) rfl ?_; refine okT_take (i := 0) rfl (by kernel_rfl) rfl rfl rfl (by exact ps_move rfl rfl) ?_; refine okT_take (i := 1) rfl (by kernel_rfl) rfl rfl rfl (by exact ps_move rfl rfl) ?_; refine okT_take (i := 2) rfl (by kernel_rfl) rfl rfl rfl (by exact ps_sslE 0 (y14 0).n.toNat rfl rfl rfl ⟨_, _, rfl, by omega⟩ (by omega) (by omega)) ?_; refine okT_take (i := 3) rfl (by kernel_rfl) rfl rfl rfl (by exact ps_move rfl rfl) ?_; refine okT_take (i := 4) rfl (by kernel_rfl) rfl rfl rfl (by exact ps_move rfl rfl) ?_; refine okT_take (i := 5) rfl (by kernel_rfl) rfl rfl rfl (by exact ps_add rfl rfl rfl (by omega)) ?_; refine okT_take (i := 6) rfl (by kernel_rfl) rfl rfl rfl (by exact ps_sslE ((y14 0).n.toNat + 1) s.size rfl rfl ⟨_, _, rfl, by omega⟩ rfl (by omega) (by omega)) ?_; refine okT_take (i := 7) rfl (by kernel_rfl) rfl rfl rfl (by exact ps_sadd rfl rfl rfl (by simp only [ByteArray.size_extract, ByteArray.size_append, sz_one]; omega)) ?_; refine okT_take (i := 8) rfl (by kernel_rfl) rfl rfl rfl (by exact ps_assign rfl rfl) ?_; refine okT_done (by kernel_rfl) ?_; refine ok_nil ?_; refine ok_env [(4, _)] ⟨rfl, trivial⟩ ?_)
    | (refine ok_region (i := 7) ?_; refine ok_p rfl rfl rfl (by exact ps_int rfl rfl rfl rfl) ?_; refine ok_p rfl rfl rfl (by exact ps_assign rfl rfl) ?_; refine ok_nil ?_; refine ok_env [(0, _), (1, _), (5, _), (16, _), (27, _)] ⟨rfl, rfl, rfl, rfl, rfl, trivial⟩ ?_)
    | (refine ok_draw (id := 8) 14 rfl (by kernel_rfl) (by kernel_rfl) rfl (by repeat (first | exact pq_body | refine pq_then ?_ | refine pq_in ?_)) [] (by decide) rfl ?_; refine okT_take (i := 0) rfl (by kernel_rfl) rfl rfl rfl (by exact ps_move rfl rfl) ?_; refine okT_take (i := 1) rfl (by kernel_rfl) rfl rfl rfl (by exact ps_move rfl rfl) ?_; refine okT_take (i := 2) rfl (by kernel_rfl) rfl rfl rfl (by exact ps_sslE 0 (y14 0).n.toNat rfl rfl rfl ⟨_, _, rfl, by omega⟩ (by omega) (by omega)) ?_; refine okT_take (i := 3) rfl (by kernel_rfl) rfl rfl rfl (by exact ps_move rfl rfl) ?_; refine okT_take (i := 9) rfl (by kernel_rfl) rfl rfl rfl (by exact ps_move rfl rfl) ?_; refine okT_take (i := 10) rfl (by kernel_rfl) rfl rfl rfl (by exact ps_move rfl rfl) ?_; refine okT_take (i := 11) rfl (by kernel_rfl) rfl rfl rfl (by exact ps_sslE (y14 0).n.toNat s.size rfl rfl ⟨_, _, rfl, by omega⟩ rfl (by omega) (by omega)) ?_; refine okT_one (i := 4) rfl rfl (by kernel_rfl) rfl rfl rfl (by exact ms_wr 0 rfl rfl rfl rfl (fun _ _ w hw => byte_c g A c bs _ _ (by omega) hr hw)) (fun y w _ h => by exact h.sel [] (by decide) rfl (fun _ h => h)) ?_; rintro y33 hy33; refine okT_one (i := 5) rfl rfl (by kernel_rfl) rfl rfl rfl (by exact ms_ps (by exact ps_convI rfl rfl (by omega))) (fun y w _ h => by exact h.sel [] (by decide) rfl (fun _ h => h)) ?_; rintro y34 hy34; refine okT_one (i := 6) rfl rfl (by kernel_rfl) rfl rfl rfl (by exact ms_lit rfl (parts_cons rfl parts_nil) rfl rfl rfl) (fun y w _ h => by exact h.sel [] (by decide) rfl (fun _ h => h)) ?_; rintro y35 hy35; refine okT_one (i := 7) rfl rfl (by kernel_rfl) rfl rfl rfl (by exact ms_ps (by exact ps_str_of (l := [_]) rfl rfl (rds_row 0 rfl) rfl)) (fun y w _ h => by exact h.sel [] (by decide) rfl (fun _ h => h)) ?_; rintro y36 hy36; refine okT_take (i := 8) rfl (by kernel_rfl) rfl rfl rfl (by exact ps_sadd rfl rfl rfl (by simp only [ByteArray.size_extract, ByteArray.size_append, sz_one]; omega)) ?_; refine okT_take (i := 12) rfl (by kernel_rfl) rfl rfl rfl (by exact ps_sadd rfl rfl rfl (by simp only [ByteArray.size_extract, ByteArray.size_append, sz_one]; omega)) ?_; refine okT_take (i := 13) rfl (by kernel_rfl) rfl rfl rfl (by exact ps_assign rfl rfl) ?_; refine okT_done (by kernel_rfl) ?_; refine ok_nil ?_; refine ok_env [(4, _)] ⟨rfl, trivial⟩ ?_)
    | (refine ok_region (i := 9) ?_; refine ok_p rfl rfl rfl (by exact ps_int rfl rfl rfl rfl) ?_; refine ok_p rfl rfl rfl (by exact ps_assign rfl rfl) ?_; refine ok_nil ?_; refine ok_env [(0, _), (1, _), (5, _), (42, _)] ⟨rfl, rfl, rfl, rfl, trivial⟩ ?_)
    | (refine ok_region (i := 10) ?_; refine ok_p rfl rfl rfl (by exact ps_move rfl rfl) ?_; refine ok_p rfl rfl rfl (by exact ps_move rfl rfl) ?_; refine ok_p rfl rfl rfl (by exact ps_sslE 0 (y14 0).n.toNat rfl rfl rfl ⟨_, _, rfl, by omega⟩ (by omega) (by omega)) ?_; refine ok_p rfl rfl rfl (by exact ps_assign rfl rfl) ?_; refine ok_nil ?_; refine ok_env [(4, _)] ⟨rfl, trivial⟩ ?_)
    | (refine ok_draw (id := 11) 21 rfl (by kernel_rfl) (by kernel_rfl) rfl (by repeat (first | exact pq_body | refine pq_then ?_ | refine pq_in ?_)) [] (by decide) rfl ?_; refine okT_take (i := 0) rfl (by kernel_rfl) rfl rfl rfl (by exact ps_move rfl rfl) ?_; refine okT_take (i := 1) rfl (by kernel_rfl) rfl rfl rfl (by exact ps_move rfl rfl) ?_; refine okT_take (i := 2) rfl (by kernel_rfl) rfl rfl rfl (by exact ps_sslE 0 (y14 0).n.toNat rfl rfl rfl ⟨_, _, rfl, by omega⟩ (by omega) (by omega)) ?_; refine okT_take (i := 3) rfl (by kernel_rfl) rfl rfl rfl (by exact ps_move rfl rfl) ?_; refine okT_take (i := 4) rfl (by kernel_rfl) rfl rfl rfl (by exact ps_move rfl rfl) ?_; refine okT_take (i := 5) rfl (by kernel_rfl) rfl rfl rfl (by exact ps_sidxE (y14 0).n.toNat rfl rfl rfl (by omega) (by omega)) ?_; refine okT_take (i := 6) rfl (by kernel_rfl) rfl rfl rfl (by exact ps_conv_id rfl rfl (IntWalk.i64_in _ (by have := bt_lt' s (y14 0).n.toNat; omega))) ?_; refine okT_take (i := 7) rfl (by kernel_rfl) rfl rfl rfl (by exact ps_move rfl rfl) ?_; refine okT_take (i := 15) rfl (by kernel_rfl) rfl rfl rfl (by exact ps_move rfl rfl) ?_; refine okT_take (i := 16) rfl (by kernel_rfl) rfl rfl rfl (by exact ps_move rfl rfl) ?_; refine okT_take (i := 17) rfl (by kernel_rfl) rfl rfl rfl (by exact ps_add rfl rfl rfl (by omega)) ?_; refine okT_take (i := 18) rfl (by kernel_rfl) rfl rfl rfl (by exact ps_sslE ((y14 0).n.toNat + 1) s.size rfl rfl ⟨_, _, rfl, by omega⟩ rfl (by omega) (by omega)) ?_; refine okT_one (i := 8) rfl rfl (by kernel_rfl) rfl rfl rfl (by exact ms_wr 0 rfl rfl rfl rfl (fun _ _ w hw => below_c g A c bs _ _ 255 (by omega) (by omega) hr hw)) (fun y w _ h => by exact h.sel [] (by decide) rfl (fun _ h => h)) ?_; rintro y55 hy55; refine okT_take (i := 9) rfl (by kernel_rfl) rfl rfl rfl (by exact ps_cast (v' := .int .i64 ((1 + (y55 0).n.toNat : Nat) : Int)) (ps_add rfl rfl rfl (by omega)) (by rw [show (1 + (y55 0).n : Int) = ((1 + (y55 0).n.toNat : Nat) : Int) by omega])) ?_; refine okT_take (i := 10) rfl (by kernel_rfl) rfl rfl rfl (by exact ps_xorN rfl rfl rfl (.inr (.inl ⟨rfl, Nat.lt_trans (bt_lt' _ _) (by decide)⟩)) (.inr (.inl ⟨rfl, by omega⟩))) ?_; refine okT_one (i := 11) rfl rfl (by kernel_rfl) rfl rfl rfl (by exact ms_ps (by exact ps_convB rfl rfl)) (fun y w _ h => by exact h.sel [] (by decide) rfl (fun _ h => h)) ?_; rintro y58 hy58; refine okT_one (i := 12) rfl rfl (by kernel_rfl) rfl rfl rfl (by exact ms_lit rfl (parts_cons rfl parts_nil) rfl rfl rfl) (fun y w _ h => by exact h.sel [] (by decide) rfl (fun _ h => h)) ?_; rintro y59 hy59; refine okT_one (i := 13) rfl rfl (by kernel_rfl) rfl rfl rfl (by exact ms_ps (by exact ps_str_of (l := [_]) rfl rfl (rds_row 0 rfl) rfl)) (fun y w _ h => by exact h.sel [] (by decide) rfl (fun _ h => h)) ?_; rintro y60 hy60; refine okT_take (i := 14) rfl (by kernel_rfl) rfl rfl rfl (by exact ps_sadd rfl rfl rfl (by simp only [ByteArray.size_extract, ByteArray.size_append, sz_one]; omega)) ?_; refine okT_take (i := 19) rfl (by kernel_rfl) rfl rfl rfl (by exact ps_sadd rfl rfl rfl (by simp only [ByteArray.size_extract, ByteArray.size_append, sz_one]; omega)) ?_; refine okT_take (i := 20) rfl (by kernel_rfl) rfl rfl rfl (by exact ps_assign rfl rfl) ?_; refine okT_done (by kernel_rfl) ?_; refine ok_nil ?_; refine ok_env [(4, _)] ⟨rfl, trivial⟩ ?_))
  · refine ok_endL (vs := [_]) rfl ⟨rfl, trivial⟩ (fun w' hw => ?_)
    exact ⟨mkS (yS (y10 0)) (y10 0).c (y10 1).n w', rfl, ⟨Nat.le_trans hy10.1 (by omega), hy10.2⟩, hw⟩
  · refine ok_endL (vs := [_]) rfl ⟨rfl, trivial⟩ (fun w' hw => ?_)
    exact ⟨mkS (s.extract 0 (y14 0).n.toNat ++ s.extract ((y14 0).n.toNat + 1) s.size) (y16 0).c (y16 1).n w', rfl, ⟨by simp only [yS_mk, ByteArray.size_extract, ByteArray.size_append]; omega, hy16.2⟩, hw⟩
  · refine ok_endL (vs := [_]) rfl ⟨rfl, trivial⟩ (fun w' hw => ?_)
    exact ⟨mkS (s.extract 0 (y14 0).n.toNat ++ ⟨[UInt8.ofNat (y33 0).n.toNat].toArray⟩ ++ s.extract (y14 0).n.toNat s.size) (y33 0).c (y33 1).n w', rfl, ⟨by simp only [yS_mk, ByteArray.size_extract, ByteArray.size_append, sz_one]; omega, hy33.2⟩, hw.tl⟩
  · refine ok_endL (vs := [_]) rfl ⟨rfl, trivial⟩ (fun w' hw => ?_)
    exact ⟨mkS (s.extract 0 (y14 0).n.toNat) (y16 0).c (y16 1).n w', rfl, ⟨by simp only [yS_mk, ByteArray.size_extract]; omega, hy16.2⟩, hw⟩
  · refine ok_endL (vs := [_]) rfl ⟨rfl, trivial⟩ (fun w' hw => ?_)
    exact ⟨mkS (s.extract 0 (y14 0).n.toNat ++ ⟨[UInt8.ofNat (bt s (y14 0).n.toNat ^^^ (1 + (y55 0).n.toNat))].toArray⟩ ++ s.extract ((y14 0).n.toNat + 1) s.size) (y55 0).c (y55 1).n w', rfl, ⟨by simp only [yS_mk, ByteArray.size_extract, ByteArray.size_append, sz_one]; omega, hy55.2⟩, hw.tl⟩
end Go.Proofs.Ytbegbdfbfbkflaa
/- Data as the unknown results of calls: kept in a world of the result. -/
namespace Go.Proofs.Ytbegbdfbfbkflaa
set_option linter.unusedVariables false
class Enc (α : Type) where
  toV : α → Value
  ofV : Value → α
  rt : ∀ x, ofV (toV x) = x
@[reducible] def asI : Value → Int
  | .int _ n => n
  | _ => 0
@[reducible] def asS : Value → ByteArray
  | .string s => s
  | _ => ⟨#[]⟩
@[reducible] def asB : Value → Bool
  | .bool b => b
  | _ => false
def asL : Value → List Value
  | .agg cs => cs.toList
  | _ => []
instance : Enc Int := ⟨fun n => .int .i64 n, asI, fun _ => rfl⟩
instance : Enc ByteArray := ⟨fun s => .string s, asS, fun _ => rfl⟩
instance : Enc Bool := ⟨fun b => .bool b, asB, fun _ => rfl⟩
instance {α : Type} [Enc α] : Enc (List α) := ⟨fun l => .agg (l.map Enc.toV).toArray, fun v => (asL v).map Enc.ofV, fun l => by
  show ((l.map Enc.toV).toArray.toList).map Enc.ofV = l
  rw [List.toList_toArray, List.map_map]
  exact (List.map_congr_left (fun a _ => Enc.rt a)).trans (List.map_id l)⟩
instance {α β : Type} [Enc α] [Enc β] : Enc (α × β) := ⟨fun x => .agg #[Enc.toV x.1, Enc.toV x.2], fun v => (Enc.ofV ((asL v).getD 0 (.bool false)), Enc.ofV ((asL v).getD 1 (.bool false))), fun x => by
  show (Enc.ofV (Enc.toV x.1), Enc.ofV (Enc.toV x.2)) = x
  rw [Enc.rt, Enc.rt]⟩
def eW {α : Type} [Enc α] (x : α) (w : World) : World := { w with heap := #[.cells #[Enc.toV x] 0 (0, 0)] }
def yE {α : Type} [Enc α] (y : Ya) : α := match (y.w.heap[0]? : Option Obj) with
  | some (.cells cs _ _) => Enc.ofV ((cs[0]? : Option Value).getD (.bool false))
  | _ => Enc.ofV (.bool false)
theorem yE_mk {α : Type} [Enc α] (A : Option Addr) (c : Nat) (x : α) (w : World) (n : Int) : yE ⟨A, c, eW x w, n⟩ = x := Enc.rt x
/-- Results with data: places as they are, the data with a number and a place behind them. -/
def mkE {α : Type} [Enc α] (k : Nat) (y : Ys) (x : α) (i : Nat) (h : Int) (w : World) : Ys := fun j => if j = k then ⟨none, i, eW x w, h⟩ else y j
end Go.Proofs.Ytbegbdfbfbkflaa
/- The laws over a code of bytes: what they begin with. -/
namespace Go.Proofs.Ytbegbdfbfbkflaa
open Go.RowKit
set_option maxHeartbeats 4000000
set_option maxRecDepth 20000
set_option linter.unusedVariables false
set_option linter.unusedSimpArgs false
attribute [local irreducible] Calls
theorem flatU8 : FlatAt .u8 (α := UInt8) (fun x => x) (fun _ => True) := fun w x c h => ⟨RdT.u8.1 h, trivial⟩
abbrev gCode : GT := .sl 5 .u8
theorem code_open {w : World} {v : Value} {x : gCode.den} (hx : RdT w gCode x [v]) : ∃ (A : Option Addr) (c : Nat) (l : List UInt8), v = .slice A l.length c ∧ Rd w A (fl l) := by
  obtain ⟨A, c, l, e, _, h, _⟩ := flat_sl flatU8 hx
  exact ⟨A, c, l, by simpa using e, h⟩
theorem big_c (A : Option Addr) (c n : Nat) (w : World) : Calls Try.prog 11 #[.slice A n c] w fun e w' => e = .returned (.bool (decide (1048576 < (n : Int)))) ∧ Below w.heap.size w w' := by
  refine ok_enter 6 Try.func11 rfl rfl rfl ?_
  repeat' (first
    | refine ok_seq ?_
    | refine ok_then ?_
    | refine ok_then_ret ?_
    | refine ok_then_exit ?_
    | refine ok_block ?_
    | refine ok_in_normal ?_
    | refine ok_in_ret ?_
    | refine ok_in_exit ?_
    | refine ok_in_other rfl ?_
    | (refine ok_cond rfl (fun hc => ?_) (fun hc => ?_) <;> (have hd := hc; (try simp only [decide_eq_true_eq, decide_eq_false_iff_not, Bool.or_eq_true, Bool.or_eq_false_iff, Bool.and_eq_true, Bool.and_eq_false_iff, Bool.not_eq_true', Bool.not_eq_false', bne_iff_ne, beq_iff_eq, bne_eq_false_iff_eq, beq_eq_false_iff_ne, ne_eq, Bool.not_true, Bool.not_false, Bool.false_eq_true, Bool.true_eq_false, inB_true, inB_false] at hd)))
    | refine ok_ret ?_
    | refine ok_exit ?_
    | refine ok_skip ?_
    | (refine ok_region (i := 0) ?_; refine ok_p rfl rfl rfl (by exact ps_assign rfl rfl) ?_; refine ok_nil ?_; refine ok_env [(0, _)] ⟨rfl, trivial⟩ ?_)
    | (refine ok_region (i := 1) ?_; refine ok_p rfl rfl rfl (by exact ps_move rfl rfl) ?_; refine ok_p rfl rfl rfl (by exact ps_len rfl rfl) ?_; refine ok_p rfl rfl rfl (by exact ps_int rfl rfl rfl rfl) ?_; refine ok_p rfl rfl rfl (by exact ps_assign rfl rfl) ?_; refine ok_nil ?_; refine ok_env [(2, _)] ⟨rfl, trivial⟩ ?_))
  exact ok_endL (vs := [_]) rfl ⟨rfl, trivial⟩ (fun w' hw => ⟨rfl, hw.below⟩)
def atV (l : List UInt8) (i : Nat) : Nat := if i < l.length then (nth l i).toNat else (i * 37 + l.length * 11) % 256
theorem atV_lt (l : List UInt8) (i : Nat) : atV l i < 256 := by
  unfold atV
  split
  · exact UInt8.toNat_lt _
  · omega
theorem at_c (A : Option Addr) (c : Nat) (l : List UInt8) (i : Nat) (w : World) (h : Rd w A (fl l)) (hl : l.length ≤ 1048576) (hi : i ≤ 1000) : Calls Try.prog 13 #[.slice A l.length c, .int .i64 i] w fun e w' => e = .returned (.int .i64 (atV l i)) ∧ Below w.heap.size w w' := by
  have hb := UInt8.toNat_lt (nth l i)
  refine ok_enter 21 Try.func13 rfl rfl rfl ?_
  repeat' (first
    | refine ok_seq ?_
    | refine ok_then ?_
    | refine ok_then_ret ?_
    | refine ok_then_exit ?_
    | refine ok_block ?_
    | refine ok_in_normal ?_
    | refine ok_in_ret ?_
    | refine ok_in_exit ?_
    | refine ok_in_other rfl ?_
    | (refine ok_cond rfl (fun hc => ?_) (fun hc => ?_) <;> (have hd := hc; (try simp only [decide_eq_true_eq, decide_eq_false_iff_not, Bool.or_eq_true, Bool.or_eq_false_iff, Bool.and_eq_true, Bool.and_eq_false_iff, Bool.not_eq_true', Bool.not_eq_false', bne_iff_ne, beq_iff_eq, bne_eq_false_iff_eq, beq_eq_false_iff_ne, ne_eq, Bool.not_true, Bool.not_false, Bool.false_eq_true, Bool.true_eq_false, inB_true, inB_false] at hd)))
    | refine ok_ret ?_
    | refine ok_exit ?_
    | refine ok_skip ?_
    | (refine ok_region (i := 0) ?_; refine ok_p rfl rfl rfl (by exact ps_assign rfl rfl) ?_; refine ok_nil ?_; refine ok_env [(0, _), (1, _)] ⟨rfl, rfl, trivial⟩ ?_)
    | (refine ok_region (i := 1) ?_; refine ok_p rfl rfl rfl (by exact ps_move rfl rfl) ?_; refine ok_p rfl rfl rfl (by exact ps_move rfl rfl) ?_; refine ok_p rfl rfl rfl (by exact ps_len rfl rfl) ?_; refine ok_p rfl rfl rfl (by exact ps_int rfl rfl rfl rfl) ?_; refine ok_nil ?_; refine ok_env [(0, _), (1, _), (8, _)] ⟨rfl, rfl, rfl, trivial⟩ ?_)
    | (refine ok_region (i := 2) ?_; refine ok_p rfl rfl rfl (by exact ps_move rfl rfl) ?_; refine ok_p rfl rfl rfl (by exact ps_move rfl rfl) ?_; refine ok_p rfl rfl rfl (by first | exact ps_indexN rfl rfl rfl (by omega) (by first | exact isw_ga _ | exact isw_some _ | exact isw_row 0 rfl (by omega) | exact isw_row 1 rfl (by omega) | exact isw_row 2 rfl (by omega) | exact isw_row 3 rfl (by omega) | exact isw_row 4 rfl (by omega) | exact isw_row 5 rfl (by omega) | exact isw_row 6 rfl (by omega) | exact isw_row 7 rfl (by omega) | exact isw_row 8 rfl (by omega) | exact isw_of (isS_fl (by assumption) (by omega)) | exact isw_of (by assumption)) | exact ps_index rfl rfl rfl (by omega) (by first | exact isw_ga _ | exact isw_some _ | exact isw_row 0 rfl (by omega) | exact isw_row 1 rfl (by omega) | exact isw_row 2 rfl (by omega) | exact isw_row 3 rfl (by omega) | exact isw_row 4 rfl (by omega) | exact isw_row 5 rfl (by omega) | exact isw_row 6 rfl (by omega) | exact isw_row 7 rfl (by omega) | exact isw_row 8 rfl (by omega) | exact isw_of (isS_fl (by assumption) (by omega)) | exact isw_of (by assumption))) ?_; refine ok_p rfl rfl rfl (by exact ps_load rfl rfl (by first | exact Rds.cell (rds_box 0 rfl) rfl | exact Rds.cell (rds_box 1 rfl) rfl | exact Rds.cell (rds_box 2 rfl) rfl | exact Rds.cell (rds_box 3 rfl) rfl | exact Rds.cell (rds_box 4 rfl) rfl | exact Rds.cell (rds_box 5 rfl) rfl | exact Rds.cell (rds_box 6 rfl) rfl | exact Rds.cell (rds_box 7 rfl) rfl | exact Rds.cell (rds_box 8 rfl) rfl | exact Rds.cell (rds_box 9 rfl) rfl | exact Rds.cell (rds_box 10 rfl) rfl | exact Rds.cell (rds_box 11 rfl) rfl | exact Rds.cell (rds_box 12 rfl) rfl | exact Rds.cell (rds_box 13 rfl) rfl | exact Rds.cell (rds_box 14 rfl) rfl | exact Rds.cell (rds_box 15 rfl) rfl | exact Rds.cell (rds_box 16 rfl) rfl | exact Rds.cell (rds_box 17 rfl) rfl | exact Rds.cell (rds_box 18 rfl) rfl | exact Rds.cell (rds_box 19 rfl) rfl | exact Rds.cell (rds_box 20 rfl) rfl | exact Rds.cell (rds_box 21 rfl) rfl | exact Rds.cell (rds_box 22 rfl) rfl | exact Rds.cell (rds_box 23 rfl) rfl | exact Rds.cell (rds_rf (by assumption) (by first | exact List.mem_cons_self | exact List.mem_cons_of_mem _ List.mem_cons_self | simp)) (by first | exact fl_at0 _ _ (by omega) (by decide) | exact fl_at _ _ _ (by omega) (by decide)) | exact Rds.cell (rds_row 0 rfl) (by first | exact fl_at0 _ _ (by omega) (by decide) | exact fl_at _ _ _ (by omega) (by decide)) | exact Rds.cell (rds_row 1 rfl) (by first | exact fl_at0 _ _ (by omega) (by decide) | exact fl_at _ _ _ (by omega) (by decide)) | exact Rds.cell (rds_row 2 rfl) (by first | exact fl_at0 _ _ (by omega) (by decide) | exact fl_at _ _ _ (by omega) (by decide)) | exact Rds.cell (rds_row 3 rfl) (by first | exact fl_at0 _ _ (by omega) (by decide) | exact fl_at _ _ _ (by omega) (by decide)) | exact Rds.cell (rds_row 4 rfl) (by first | exact fl_at0 _ _ (by omega) (by decide) | exact fl_at _ _ _ (by omega) (by decide)) | exact Rds.cell (rds_row 5 rfl) (by first | exact fl_at0 _ _ (by omega) (by decide) | exact fl_at _ _ _ (by omega) (by decide)) | exact Rds.cell (rds_row 6 rfl) (by first | exact fl_at0 _ _ (by omega) (by decide) | exact fl_at _ _ _ (by omega) (by decide)) | exact Rds.cell (rds_row 7 rfl) (by first | exact fl_at0 _ _ (by omega) (by decide) | exact fl_at _ _ _ (by omega) (by decide)) | exact Rds.cell (rds_row 8 rfl) (by first | exact fl_at0 _ _ (by omega) (by decide) | exact fl_at _ _ _ (by omega) (by decide)) | exact Rds.cell (rds_row 9 rfl) (by first | exact fl_at0 _ _ (by omega) (by decide) | exact fl_at _ _ _ (by omega) (by decide)))) ?_; refine ok_p rfl rfl rfl (by first | exact ps_conv_id rfl rfl (IntWalk.i64_in _ (by omega)) | exact ps_conv_id rfl rfl (IntWalk.i64_in _ (by omega))) ?_; refine ok_p rfl rfl rfl (by exact ps_assign rfl rfl) ?_; refine ok_nil ?_; refine ok_env [(4, _)] ⟨rfl, trivial⟩ ?_)
    | (refine ok_region (i := 3) ?_; refine ok_p rfl rfl rfl (by exact ps_move rfl rfl) ?_; refine ok_p rfl rfl rfl (by exact ps_mul rfl rfl rfl (by omega)) ?_; refine ok_p rfl rfl rfl (by exact ps_move rfl rfl) ?_; refine ok_p rfl rfl rfl (by exact ps_len rfl rfl) ?_; refine ok_p rfl rfl rfl (by exact ps_mul rfl rfl rfl (by omega)) ?_; refine ok_p rfl rfl rfl (by exact ps_add rfl rfl rfl (by omega)) ?_; refine ok_p rfl rfl rfl (by exact ps_rem rfl rfl rfl (by omega) (by omega)) ?_; refine ok_p rfl rfl rfl (by exact ps_assign rfl rfl) ?_; refine ok_nil ?_; refine ok_env [(4, _)] ⟨rfl, trivial⟩ ?_))
  · have e : atV l i = (nth l i).toNat := by unfold atV; rw [if_pos (by omega)]
    rw [e]
    exact ok_endL (vs := [_]) rfl ⟨rfl, trivial⟩ (fun w' hw => ⟨rfl, hw.below⟩)
  · have e : atV l i = (i * 37 + l.length * 11) % 256 := by unfold atV; rw [if_neg (by omega)]
    rw [e]
    exact ok_endL (vs := [_]) rfl ⟨rfl, trivial⟩ (fun w' hw => ⟨rfl, hw.below⟩)
end Go.Proofs.Ytbegbdfbfbkflaa
/- Regions that meet again, with the facts on what was made; objects one by one to the front. -/
namespace Go.Proofs.Ytbegbdfbfbkflaa
open Go.RowKit
set_option linter.unusedVariables false
section
variable {P : Program} {N base : Nat} {w0 : World} {E : Env} {H : List HObj} {G : List World} {K : Act → World → Prop}
theorem mrgf1 {F : Ys → Prop} {XE : Ys → Env} {XH : Ys → List HObj} {G' : List World} {K' : Act → World → Prop} (h1 : (∀ y0, F y0 → Ok N base w0 (XE y0) (XH y0) G' K') → Ok N base w0 E H G K) (h2 : ∀ y0, F y0 → Ok N base w0 (XE y0) (XH y0) G' K') : Ok N base w0 E H G K := h1 h2
theorem mrgf2 {F : Ys → Ys → Prop} {XE : Ys → Ys → Env} {XH : Ys → Ys → List HObj} {G' : List World} {K' : Act → World → Prop} (h1 : (∀ y0 y1, F y0 y1 → Ok N base w0 (XE y0 y1) (XH y0 y1) G' K') → Ok N base w0 E H G K) (h2 : ∀ y0 y1, F y0 y1 → Ok N base w0 (XE y0 y1) (XH y0 y1) G' K') : Ok N base w0 E H G K := h1 h2
theorem mrgf3 {F : Ys → Ys → Ys → Prop} {XE : Ys → Ys → Ys → Env} {XH : Ys → Ys → Ys → List HObj} {G' : List World} {K' : Act → World → Prop} (h1 : (∀ y0 y1 y2, F y0 y1 y2 → Ok N base w0 (XE y0 y1 y2) (XH y0 y1 y2) G' K') → Ok N base w0 E H G K) (h2 : ∀ y0 y1 y2, F y0 y1 y2 → Ok N base w0 (XE y0 y1 y2) (XH y0 y1 y2) G' K') : Ok N base w0 E H G K := h1 h2
theorem mrgf4 {F : Ys → Ys → Ys → Ys → Prop} {XE : Ys → Ys → Ys → Ys → Env} {XH : Ys → Ys → Ys → Ys → List HObj} {G' : List World} {K' : Act → World → Prop} (h1 : (∀ y0 y1 y2 y3, F y0 y1 y2 y3 → Ok N base w0 (XE y0 y1 y2 y3) (XH y0 y1 y2 y3) G' K') → Ok N base w0 E H G K) (h2 : ∀ y0 y1 y2 y3, F y0 y1 y2 y3 → Ok N base w0 (XE y0 y1 y2 y3) (XH y0 y1 y2 y3) G' K') : Ok N base w0 E H G K := h1 h2
theorem mrgf5 {F : Ys → Ys → Ys → Ys → Ys → Prop} {XE : Ys → Ys → Ys → Ys → Ys → Env} {XH : Ys → Ys → Ys → Ys → Ys → List HObj} {G' : List World} {K' : Act → World → Prop} (h1 : (∀ y0 y1 y2 y3 y4, F y0 y1 y2 y3 y4 → Ok N base w0 (XE y0 y1 y2 y3 y4) (XH y0 y1 y2 y3 y4) G' K') → Ok N base w0 E H G K) (h2 : ∀ y0 y1 y2 y3 y4, F y0 y1 y2 y3 y4 → Ok N base w0 (XE y0 y1 y2 y3 y4) (XH y0 y1 y2 y3 y4) G' K') : Ok N base w0 E H G K := h1 h2
theorem mrgf6 {F : Ys → Ys → Ys → Ys → Ys → Ys → Prop} {XE : Ys → Ys → Ys → Ys → Ys → Ys → Env} {XH : Ys → Ys → Ys → Ys → Ys → Ys → List HObj} {G' : List World} {K' : Act → World → Prop} (h1 : (∀ y0 y1 y2 y3 y4 y5, F y0 y1 y2 y3 y4 y5 → Ok N base w0 (XE y0 y1 y2 y3 y4 y5) (XH y0 y1 y2 y3 y4 y5) G' K') → Ok N base w0 E H G K) (h2 : ∀ y0 y1 y2 y3 y4 y5, F y0 y1 y2 y3 y4 y5 → Ok N base w0 (XE y0 y1 y2 y3 y4 y5) (XH y0 y1 y2 y3 y4 y5) G' K') : Ok N base w0 E H G K := h1 h2
theorem mrgf7 {F : Ys → Ys → Ys → Ys → Ys → Ys → Ys → Prop} {XE : Ys → Ys → Ys → Ys → Ys → Ys → Ys → Env} {XH : Ys → Ys → Ys → Ys → Ys → Ys → Ys → List HObj} {G' : List World} {K' : Act → World → Prop} (h1 : (∀ y0 y1 y2 y3 y4 y5 y6, F y0 y1 y2 y3 y4 y5 y6 → Ok N base w0 (XE y0 y1 y2 y3 y4 y5 y6) (XH y0 y1 y2 y3 y4 y5 y6) G' K') → Ok N base w0 E H G K) (h2 : ∀ y0 y1 y2 y3 y4 y5 y6, F y0 y1 y2 y3 y4 y5 y6 → Ok N base w0 (XE y0 y1 y2 y3 y4 y5 y6) (XH y0 y1 y2 y3 y4 y5 y6) G' K') : Ok N base w0 E H G K := h1 h2
theorem mrgf8 {F : Ys → Ys → Ys → Ys → Ys → Ys → Ys → Ys → Prop} {XE : Ys → Ys → Ys → Ys → Ys → Ys → Ys → Ys → Env} {XH : Ys → Ys → Ys → Ys → Ys → Ys → Ys → Ys → List HObj} {G' : List World} {K' : Act → World → Prop} (h1 : (∀ y0 y1 y2 y3 y4 y5 y6 y7, F y0 y1 y2 y3 y4 y5 y6 y7 → Ok N base w0 (XE y0 y1 y2 y3 y4 y5 y6 y7) (XH y0 y1 y2 y3 y4 y5 y6 y7) G' K') → Ok N base w0 E H G K) (h2 : ∀ y0 y1 y2 y3 y4 y5 y6 y7, F y0 y1 y2 y3 y4 y5 y6 y7 → Ok N base w0 (XE y0 y1 y2 y3 y4 y5 y6 y7) (XH y0 y1 y2 y3 y4 y5 y6 y7) G' K') : Ok N base w0 E H G K := h1 h2
theorem ok_front (i : Nat) {x : HObj} (hi : H[i]? = some x) (h : Ok N base w0 E (x :: H.eraseIdx i) G K) : Ok N base w0 E H G K := fun a w he hw => h a w he (hw.front i hi)
end
end Go.Proofs.Ytbegbdfbfbkflaa
/- The engine: a guarded call that writes, or tells a new value: the guard's two cases apart. -/
namespace Go.Proofs.Ytbegbdfbfbkflaa
open Go.RowKit
section
variable {P : Program} {N base : Nat} {w0 : World} {E : Env} {H : List HObj} {G : List World} {ops : Array Oper} {o : Oper} {rest : List Oper} {Q : Exit → Act → World → Prop} {F : Ys → Prop} {v : Ys → Value} {H' : Ys → List HObj} {G' : Ys → List World}
theorem ok_mgs {j d : Nat} {want c : Bool} (hg : o.guard = some (j, want)) (hj : (ops[j]?).bind (·.dst) = some d) (hv : look E d = some (.bool c)) {td : Nat} (hdt : o.dst = some td) (hd : Nat.blt td N = true) (hs : (c == want) = true → MStep P E H G o F v H' G')
    (h1 : (c == want) = true → ∀ y, F y → Ok N base w0 ((td, v y) :: E) (H' y) (G' y) (wpList P ops Q rest)) (h0 : (c == want) = false → Ok N base w0 ((td, undef) :: E) H G (wpList P ops Q rest)) : Ok N base w0 E H G (wpList P ops Q (o :: rest)) := by
  cases h : (c == want) with
  | true => exact ok_m_yes (p := true) hg hj hv (by rw [Bool.true_and]; exact h) hdt hd (hs h) (h1 h)
  | false => exact ok_m_no (p := true) hg hj hv (by rw [Bool.true_and]; exact h) hdt hd (h0 h)
theorem ps_never {u : Value} (h : False) : PStep P E H G o u := h.elim
end
end Go.Proofs.Ytbegbdfbfbkflaa
/- Maps and their changes drawn. -/
namespace Go.Proofs.Ytbegbdfbfbkflaa
open Go.RowKit
set_option maxHeartbeats 4000000
set_option maxRecDepth 20000
set_option linter.unusedVariables false
set_option linter.unusedSimpArgs false
attribute [local irreducible] Calls
structure Opp where
  key : ByteArray
  del : Bool
  val : ByteArray
  deriving DecidableEq
instance : Dat Opp := ⟨3, fun x => [.string x.key, .bool x.del, .string x.val], fun _ => rfl, ⟨⟨#[]⟩, false, ⟨#[]⟩⟩⟩
instance : OneC Opp := ⟨fun x u hu => by
  have : u = .string x.key ∨ u = .bool x.del ∨ u = .string x.val := by simpa [Dat.cells] using hu
  rcases this with rfl | rfl | rfl <;> rfl⟩
instance : Enc Opp := ⟨fun x => .agg #[.string x.key, .bool x.del, .string x.val], fun v => ⟨asS ((asL v).getD 0 (.bool false)), asB ((asL v).getD 1 (.bool false)), asS ((asL v).getD 2 (.bool false))⟩, fun _ => rfl⟩
instance : Enc KV := ⟨fun x => .agg #[.string x.key, .string x.val], fun v => ⟨asS ((asL v).getD 0 (.bool false)), asS ((asL v).getD 1 (.bool false))⟩, fun _ => rfl⟩
theorem isw_rdsK {H : List HObj} {G : List World} {A : Option Addr} {us : List Value} (h : Rds H G A us) (hl : 0 < us.length) : IsSW H G A := fun base w0 w hw => isS_rd (h base w0 w hw) hl
theorem rds_tlK {H : List HObj} {G : List World} {A : Option Addr} {us : List Value} (x : HObj) (h : Rds H G A us) : Rds (x :: H) G A us := fun base w0 w hw => h base w0 w hw.tl
theorem ok_capK {N base n c e sz : Nat} {w0 : World} {A : Option Addr} {us : List Value} {E : Env} {H : List HObj} {G : List World} {K : Act → World → Prop} (i : Nat) (hi : H[i]? = some (.row e sz A n c us)) (h : n ≤ c → Ok N base w0 E H G K) : Ok N base w0 E H G K := fun a w he hw => h (hw.cap i hi) a w he hw
/-- Small texts. -/
def tFew (L : List ByteArray) (m : Nat) : Prop := ∀ u ∈ L, u.size ≤ m
def opFew (L : List Opp) (n m : Nat) : Prop := L.length ≤ n ∧ ∀ u ∈ L, u.key.size ≤ m ∧ u.val.size ≤ m
def kvFew (L : List KV) (n m : Nat) : Prop := L.length ≤ n ∧ ∀ u ∈ L, u.key.size ≤ m ∧ u.val.size ≤ m
theorem kv_up {L : List KV} {n m n' m' : Nat} (h : kvFew L n m) (hn : n ≤ n' ∧ m ≤ m') : kvFew L n' m' := ⟨Nat.le_trans h.1 hn.1, fun u hu => ⟨Nat.le_trans (h.2 u hu).1 hn.2, Nat.le_trans (h.2 u hu).2 hn.2⟩⟩
theorem kv_nil (n m : Nat) : kvFew [] n m := ⟨Nat.zero_le _, fun u hu => (by cases hu)⟩
theorem kv_sm {L : List KV} {n m : Nat} (h : kvFew L n m) (hn : n ≤ 1000 ∧ m ≤ 1000) : KVS_sm L := ⟨by have := h.1; omega, fun u hu => ⟨by have := (h.2 u hu).1; omega, by have := (h.2 u hu).2; omega⟩⟩
theorem kv_drp {L : List KV} {n m : Nat} (h : kvFew L n m) (k : ByteArray) : kvFew (drpF L k) n m := ⟨Nat.le_trans (List.length_filter_le _ _) h.1, fun u hu => h.2 u (List.mem_filter.1 hu).1⟩
theorem kv_put {L : List KV} {n m : Nat} (h : kvFew L n m) {k v : ByteArray} (hk : k.size ≤ m ∧ v.size ≤ m) : kvFew (putF L k v) (n + 1) m := by
  refine ⟨?_, fun u hu => ?_⟩
  · have e := congrArg List.length (hd_tl L k)
    rw [List.length_append] at e
    have h1 := h.1
    have h2 := List.length_filter_le (neK k) (tlK L k)
    unfold putF
    simp only [List.length_append, List.length_singleton]
    omega
  · have hm : ∀ x, x ∈ hdK L k ∨ x ∈ tlK L k → x ∈ L := fun x hx => by rw [← hd_tl L k]; exact List.mem_append.2 hx
    unfold putF at hu
    simp only [List.mem_append, List.mem_singleton, List.mem_filter] at hu
    rcases hu with (hu | hu) | hu
    · exact h.2 u (hm u (.inl hu))
    · subst hu; exact hk
    · exact h.2 u (hm u (.inr hu.1))
theorem kv_op {L : List KV} {n m : Nat} (h : kvFew L n m) {k v : ByteArray} (d : Bool) (hk : k.size ≤ m ∧ v.size ≤ m) : kvFew (opF L k v d) (n + 1) m := by
  cases d with
  | true => 
    have e : opF L k v true = drpF L k := by rw [← opF_del L k]
    rw [e]; exact kv_up (kv_drp h k) ⟨by omega, Nat.le_refl _⟩
  | false => rw [opF_put]; exact kv_put h hk
theorem kv_set {L : List KV} {n m : Nat} (h : kvFew L n m) (k : Nat) {u : KV} (hu : u.key.size ≤ m ∧ u.val.size ≤ m) : kvFew (L.set k u) n m := ⟨by rw [List.length_set]; exact h.1, fun v hv => by
  rcases List.mem_or_eq_of_mem_set hv with h1 | h1
  · exact h.2 v h1
  · subst h1; exact hu⟩
theorem op_set {L : List Opp} {n m : Nat} (h : opFew L n m) (k : Nat) {u : Opp} (hu : u.key.size ≤ m ∧ u.val.size ≤ m) : opFew (L.set k u) n m := ⟨by rw [List.length_set]; exact h.1, fun v hv => by
  rcases List.mem_or_eq_of_mem_set hv with h1 | h1
  · exact h.2 v h1
  · subst h1; exact hu⟩
theorem op_app {L M : List Opp} {n k m : Nat} (h : opFew L n m) (h2 : opFew M k m) : opFew (L ++ M) (n + k) m := ⟨by rw [List.length_append]; have := h.1; have := h2.1; omega, fun u hu => (List.mem_append.1 hu).elim (h.2 u) (h2.2 u)⟩
theorem op_up {L : List Opp} {n m n' m' : Nat} (h : opFew L n m) (hn : n ≤ n' ∧ m ≤ m') : opFew L n' m' := ⟨Nat.le_trans h.1 hn.1, fun u hu => ⟨Nat.le_trans (h.2 u hu).1 hn.2, Nat.le_trans (h.2 u hu).2 hn.2⟩⟩
theorem op_nil (n m : Nat) : opFew [] n m := ⟨Nat.zero_le _, fun u hu => (by cases hu)⟩
theorem op_one {u : Opp} {m : Nat} (h : u.key.size ≤ m ∧ u.val.size ≤ m) : opFew [u] 1 m := ⟨Nat.le_refl _, fun v hv => by rw [List.mem_singleton] at hv; subst hv; exact h⟩
theorem pickS_c (g : Nat) (A : Option Addr) (c : Nat) (bs : List UInt8) (i : Nat) (h : Int) (L : List ByteArray) (B : Option Addr) (d : Nat) (h0 : 0 < L.length ∧ L.length ≤ 1048576) (hi : i ≤ bs.length) {base : Nat} {w0 w : World} {H : List HObj} {G : List World} (hr : CodeR A bs G) (hL : Rds H G B (fl L)) (hw : WOk base w0 (cur g A bs.length c i h :: H) G w) :
    Calls Try.prog 76 #[pt (ga g) 0, .slice B L.length d] w fun e w' => ∃ y : Ys, e = .returned (.string (nth L (y 0).n.toNat)) ∧ ((0 ≤ (y 0).n ∧ (y 0).n < L.length) ∧ (y 0).c ≤ bs.length) ∧ WOk base w0 (cur g A bs.length c (y 0).c (y 1).n :: H) G w' := by
  have hz : 0 < (fl L).length := by rw [fl_len]; show 0 < L.length * 1; omega
  refine ok_enterW 12 Try.func76 rfl rfl rfl hw ?_
  repeat' (first
    | refine ok_seq ?_
    | refine ok_then ?_
    | refine ok_ret ?_
    | (refine ok_region (i := 0) ?_; refine ok_p rfl rfl rfl (by exact ps_assign rfl rfl) ?_; refine ok_nil ?_; refine ok_env [(0, _), (1, _)] ⟨rfl, rfl, trivial⟩ ?_)
    | (refine ok_region (i := 1) ?_; refine ok_p rfl rfl rfl (by exact ps_move rfl rfl) ?_; refine ok_p rfl rfl rfl (by exact ps_move rfl rfl) ?_; refine ok_p rfl rfl rfl (by exact ps_move rfl rfl) ?_; refine ok_p rfl rfl rfl (by exact ps_len rfl rfl) ?_; refine ok_m rfl rfl rfl (by exact ms_wr 0 rfl rfl rfl rfl (fun _ _ w hw => below_c g A c bs _ _ (L.length : Int) (by omega) (by omega) hr hw)) ?_; rintro y9 hy9; refine ok_p rfl rfl rfl (by exact ps_index rfl rfl rfl (by omega) (isw_rdsK (rds_tlK _ hL) hz)) ?_; refine ok_p rfl rfl rfl (by exact ps_load rfl rfl (Rds.cell (rds_tlK _ hL) (fl_at0 L (y9 0).n.toNat (by omega) (by decide)))) ?_; refine ok_p rfl rfl rfl (by exact ps_assign rfl rfl) ?_; refine ok_nil ?_; refine ok_env [(4, _)] ⟨rfl, trivial⟩ ?_))
  refine ok_endL (vs := [_]) rfl ⟨rfl, trivial⟩ (fun w' hw => ?_)
  exact ⟨y9, rfl, hy9, hw⟩
theorem pick_le {L : List ByteArray} {m : Nat} (h : tFew L m) {i : Nat} (hi : i < L.length) : (nth L i).size ≤ m := h _ (nth_mem L i hi)
theorem l7Key_c (g : Nat) (A : Option Addr) (c : Nat) (bs : List UInt8) (i : Nat) (h : Int) (hi : i ≤ bs.length) {base : Nat} {w0 w : World} {H : List HObj} {G : List World} (hr : CodeR A bs G) (hw : WOk base w0 (cur g A bs.length c i h :: H) G w) :
    Calls Try.prog 109 #[pt (ga g) 0] w fun e w' => ∃ y : Ys, e = .returned (.string (yS (y 0))) ∧ ((yS (y 0)).size ≤ 3 ∧ (y 0).c ≤ bs.length) ∧ WOk base w0 (cur g A bs.length c (y 0).c (y 1).n :: H) G w' := by
  have ht : tFew [⟨#[97]⟩, ⟨#[98]⟩, ⟨#[97, 98]⟩, ⟨#[97, 98, 99]⟩, ⟨#[98, 48]⟩, ⟨#[99]⟩, ⟨#[0]⟩, ⟨#[122, 122]⟩] 3 := by intro u hu; revert u; decide
  have HT := Lib.hid ht; clear ht
  refine ok_enterW 6 Try.func109 rfl rfl rfl hw ?_
  repeat' (first
    | refine ok_seq ?_
    | refine ok_then ?_
    | refine ok_ret ?_
    | (refine ok_region (i := 0) ?_; refine ok_p rfl rfl rfl (by exact ps_assign rfl rfl) ?_; refine ok_nil ?_; refine ok_env [(0, _)] ⟨rfl, trivial⟩ ?_)
    | (refine ok_region (i := 1) ?_; refine ok_p rfl rfl rfl (by exact ps_move rfl rfl) ?_; refine ok_m rfl rfl rfl (by exact ms_lit rfl (parts_cons rfl (parts_cons rfl (parts_cons rfl (parts_cons rfl (parts_cons rfl (parts_cons rfl (parts_cons rfl (parts_cons rfl parts_nil)))))))) rfl rfl rfl) ?_; rintro y4 hy4; refine ok_m rfl rfl rfl (by exact ms_wr 1 rfl rfl rfl rfl (fun _ _ w hw => pickS_c g A c bs _ _ [⟨#[97]⟩, ⟨#[98]⟩, ⟨#[97, 98]⟩, ⟨#[97, 98, 99]⟩, ⟨#[98, 48]⟩, ⟨#[99]⟩, ⟨#[0]⟩, ⟨#[122, 122]⟩] _ _ (by simp) (by omega) hr (rds_row 0 rfl) hw)) ?_; rintro y5 hy5; refine ok_p rfl rfl rfl (by exact ps_assign rfl rfl) ?_; refine ok_nil ?_; refine ok_env [(2, _)] ⟨rfl, trivial⟩ ?_))
  refine ok_endL (vs := [_]) rfl ⟨rfl, trivial⟩ (fun w' hw => ?_)
  refine ⟨mkS (nth [⟨#[97]⟩, ⟨#[98]⟩, ⟨#[97, 98]⟩, ⟨#[97, 98, 99]⟩, ⟨#[98, 48]⟩, ⟨#[99]⟩, ⟨#[0]⟩, ⟨#[122, 122]⟩] (y5 0).n.toNat) (y5 0).c (y5 1).n w', rfl, ⟨?_, hy5.2⟩, hw.tl⟩
  rw [yS_mk]
  exact pick_le HT.out (by have := hy5.1; simp only [List.length_cons, List.length_nil] at this ⊢; omega)
/-- One batch. -/
structure BtA (m : Nat) where
  n : Nat
  L : List Opp
  B : Option Addr
  d : Nat
  i : Nat
  h : Int
  hi : i ≤ m ∧ n + L.length ≤ 4 ∧ 1 ≤ n + L.length
  hf : opFew L 4 20
theorem fin_O {base : Nat} {w0 w : World} {H : List HObj} {G : List World} {g n c m : Nat} {A : Option Addr} (B : Option Addr) (d : Nat) (L : List Opp) (i : Nat) (h : Int) {e : Ending} (he : e = .returned (.slice B L.length d)) (hf : opFew L 8 20) (hi : i ≤ m) (hw : WOk base w0 (.row 172 3 B L.length d (fl L) :: cur g A n c i h :: H) G w) :
    ∃ y : Ys, e = .returned (.slice (y 0).A (yE (y 2) : List Opp).length (y 0).c) ∧ (opFew (yE (y 2)) 8 20 ∧ (y 1).c ≤ m) ∧ WOk base w0 (.row 172 3 (y 0).A (yE (y 2) : List Opp).length (y 0).c (fl (yE (y 2) : List Opp)) :: cur g A n c (y 1).c (y 1).n :: H) G w := by
  have e2 : (yE (⟨none, 0, eW L w, 0⟩ : Ya) : List Opp) = L := yE_mk none 0 L w 0
  refine ⟨yl [⟨B, d, w, 0⟩, ⟨none, i, w, h⟩, ⟨none, 0, eW L w, 0⟩] ⟨none, 0, w, 0⟩, ?_, ?_, ?_⟩
  · show e = .returned (.slice B (yE (⟨none, 0, eW L w, 0⟩ : Ya) : List Opp).length d)
    rw [e2]; exact he
  · show opFew (yE (⟨none, 0, eW L w, 0⟩ : Ya) : List Opp) 8 20 ∧ i ≤ m
    rw [e2]; exact ⟨hf, hi⟩
  · show WOk base w0 (.row 172 3 B (yE (⟨none, 0, eW L w, 0⟩ : Ya) : List Opp).length d (fl (yE (⟨none, 0, eW L w, 0⟩ : Ya) : List Opp)) :: cur g A n c i h :: H) G w
    rw [e2]; exact hw
theorem l7Batch_c (g : Nat) (A : Option Addr) (c : Nat) (bs : List UInt8) (i : Nat) (h : Int) (hi : i ≤ bs.length) {base : Nat} {w0 w : World} {H : List HObj} {G : List World} (hr : CodeR A bs G) (hw : WOk base w0 (cur g A bs.length c i h :: H) G w) :
    Calls Try.prog 215 #[pt (ga g) 0] w fun e w' => ∃ y : Ys, e = .returned (.slice (y 0).A (yE (y 2) : List Opp).length (y 0).c) ∧ (opFew (yE (y 2)) 8 20 ∧ (y 1).c ≤ bs.length) ∧ WOk base w0 (.row 172 3 (y 0).A (yE (y 2) : List Opp).length (y 0).c (fl (yE (y 2) : List Opp)) :: cur g A bs.length c (y 1).c (y 1).n :: H) G w' := by
  refine ok_enterW 61 Try.func215 rfl rfl rfl hw ?_
  repeat' (first
    | refine ok_seq ?_
    | refine ok_then ?_
    | refine ok_block ?_
    | (refine ok_region (i := 0) ?_; refine ok_p rfl rfl rfl (by exact ps_assign rfl rfl) ?_; refine ok_nil ?_; refine ok_env [(0, _)] ⟨rfl, trivial⟩ ?_)
    | (refine ok_region (i := 1) ?_; refine ok_m rfl rfl rfl (by exact ms_lit rfl parts_nil rfl rfl rfl) ?_; rintro y7 hy7; refine ok_p rfl rfl rfl (by exact ps_assign rfl rfl) ?_; refine ok_nil ?_; refine ok_env [(0, _), (3, _)] ⟨rfl, rfl, trivial⟩ ?_)
    | (refine ok_region (i := 2) ?_; refine ok_p rfl rfl rfl (by exact ps_move rfl rfl) ?_; refine ok_m rfl rfl rfl (by exact ms_wr 1 rfl rfl rfl rfl (fun _ _ w hw => below_c g A c bs _ _ 4 (by omega) (by omega) hr hw)) ?_; rintro y9 hy9; refine ok_p rfl rfl rfl (by exact ps_add rfl rfl rfl (by omega)) ?_; refine ok_p rfl rfl rfl (by exact ps_assign rfl rfl) ?_; refine ok_nil ?_; refine ok_env [(0, _), (3, _), (4, _)] ⟨rfl, rfl, rfl, trivial⟩ ?_))
  refine ok_loop (ι := BtA bs.length) (fun q => q.n) (fun q => ([(0, pt (ga g) 0), (3, .slice q.B q.L.length q.d), (4, .int .i64 q.n)], .row 172 3 q.B q.L.length q.d (fl q.L) :: cur g A bs.length c q.i q.h :: H, _)) ⟨(1 + (y9 0).n).toNat, [], ga (y7 0).c, 0, (y9 0).c, (y9 1).n, by simp; omega, op_nil _ _⟩ (fun a w he hw => ⟨⟨(1 + (y9 0).n).toNat, [], ga (y7 0).c, 0, (y9 0).c, (y9 1).n, by simp; omega, op_nil _ _⟩, he.sub ⟨rfl, rfl, by show some (Value.int .i64 (1 + (y9 0).n)) = some (.int .i64 (((1 + (y9 0).n).toNat : Nat) : Int)); rw [show (((1 + (y9 0).n).toNat : Nat) : Int) = 1 + (y9 0).n by omega], trivial⟩, hw⟩) ?_
  rintro ⟨n, L, B, d, i2, h2, hi2, hf⟩
  simp only at hi2 hf ⊢
  have hlen := hf.1
  have HF := Lib.hid hf; clear hf
  have n0 : ¬ (0 < (n : Int)) → 1 ≤ L.length := fun h => by omega
  repeat' (first
    | refine ok_seq ?_
    | refine ok_then ?_
    | refine ok_block ?_
    | refine ok_in_normal ?_
    | (refine ok_cond rfl (fun hc => ?_) (fun hc => ?_) <;> (have hd := hc; (try simp only [decide_eq_true_eq, decide_eq_false_iff_not, Bool.or_eq_true, Bool.or_eq_false_iff, Bool.and_eq_true, Bool.and_eq_false_iff, Bool.not_eq_true', Bool.not_eq_false', bne_iff_ne, beq_iff_eq, bne_eq_false_iff_eq, beq_eq_false_iff_ne, ne_eq, Bool.not_true, Bool.not_false, Bool.false_eq_true, Bool.true_eq_false, inB_true, inB_false] at hd)))
    | refine ok_ret ?_
    | refine ok_exit ?_
    | refine ok_skip ?_
    | (refine ok_region (i := 3) ?_; refine ok_p rfl rfl rfl (by exact ps_move rfl rfl) ?_; refine ok_p rfl rfl rfl (by exact ps_int rfl rfl rfl rfl) ?_; refine ok_nil ?_; refine ok_env [(0, _), (3, _), (4, _), (12, _)] ⟨rfl, rfl, rfl, rfl, trivial⟩ ?_)
    | (refine ok_region (i := 4) ?_; refine ok_p rfl rfl rfl (by exact ps_move rfl rfl) ?_; refine ok_p rfl rfl rfl (by exact ps_cast (v' := .int .i64 ((n - 1 : Nat) : Int)) (ps_sub rfl rfl rfl (by omega)) (by rw [show (n : Int) - 1 = ((n - 1 : Nat) : Int) by omega])) ?_; refine ok_p rfl rfl rfl (by exact ps_assign rfl rfl) ?_; refine ok_nil ?_; refine ok_env [(0, _), (3, _), (4, _)] ⟨rfl, rfl, rfl, trivial⟩ ?_)
    | (refine ok_region (i := 5) ?_; refine ok_p rfl rfl rfl (by exact ps_move rfl rfl) ?_; refine ok_m rfl rfl rfl (by exact ms_wr 1 rfl rfl rfl rfl (fun _ _ w hw => l7Key_c g A c bs _ _ (by omega) hr hw)) ?_; rintro y16 hy16; refine ok_p rfl rfl rfl (by exact ps_bld rfl (parts_cons rfl parts_nil) rfl) ?_; refine ok_m rfl rfl rfl (by exact ms_alloc rfl) ?_; rintro y5 hy5; refine ok_m_ rfl rfl (by exact ms_store 0 rfl rfl rfl rfl rfl rfl rfl rfl) ?_; rintro y_ hy_; refine ok_nil ?_; refine ok_env [(0, _), (3, _), (4, _), (5, _)] ⟨rfl, rfl, rfl, rfl, trivial⟩ ?_)
    | (refine ok_region (i := 6) ?_; refine ok_p rfl rfl rfl (by exact ps_move rfl rfl) ?_; refine ok_m rfl rfl rfl (by exact ms_wr 2 rfl rfl rfl rfl (fun _ _ w hw => once_c g A c bs _ _ 3 (by omega) (by omega) hr hw)) ?_; rintro y19 hy19; refine ok_nil ?_; refine ok_env [(0, _), (3, _), (4, _), (5, _), (19, _)] ⟨rfl, rfl, rfl, rfl, rfl, trivial⟩ ?_)
    | (refine ok_region (i := 7) ?_; refine ok_p rfl rfl rfl (by exact ps_field rfl rfl (by exact isw_ga _)) ?_; refine ok_m_ rfl rfl (by exact ms_store 0 rfl rfl rfl rfl rfl rfl rfl rfl) ?_; rintro y_ hy_; refine ok_nil ?_; refine ok_env [(0, _), (3, _), (4, _), (5, _)] ⟨rfl, rfl, rfl, rfl, trivial⟩ ?_)
    | (refine ok_region (i := 8) ?_; refine ok_p rfl rfl rfl (by exact ps_move rfl rfl) ?_; refine ok_m rfl rfl rfl (by exact ms_wr 2 rfl rfl rfl rfl (fun _ _ w hw => text_c g A c bs _ _ 5 (by omega) (by omega) hr hw)) ?_; rintro y22 hy22; refine ok_p rfl rfl rfl (by exact ps_field rfl rfl (by exact isw_ga _)) ?_; refine ok_m_ rfl rfl (by exact ms_store 0 rfl rfl rfl rfl rfl rfl rfl rfl) ?_; rintro y_ hy_; refine ok_nil ?_; refine ok_env [(0, _), (3, _), (4, _), (5, _)] ⟨rfl, rfl, rfl, rfl, trivial⟩ ?_)
    | (refine ok_region (i := 9) ?_; refine ok_p rfl rfl rfl (by exact ps_move rfl rfl) ?_; refine ok_p rfl rfl rfl (by exact ps_loads rfl rfl (by exact rds_box 0 rfl) rfl rfl (by decide)) ?_; refine ok_m rfl rfl rfl (by exact ms_lit rfl (parts_cons rfl parts_nil) rfl rfl rfl) ?_; rintro y26 hy26; refine ok_m rfl rfl rfl (by first | exact ms_appF (α := Opp) (L := L) (M := [⟨yS (y16 0), true, ⟨#[]⟩⟩]) 2 rfl rfl rfl rfl (rds_row 0 rfl) rfl (by simp; omega) (by simp; omega) | exact ms_appF (α := Opp) (L := L) (M := [⟨yS (y16 0), false, yS (y22 0)⟩]) 2 rfl rfl rfl rfl (rds_row 0 rfl) rfl (by simp; omega) (by simp; omega)) ?_; rintro y27 hy27; refine ok_p rfl rfl rfl (by exact ps_assign rfl rfl) ?_; refine ok_nil ?_; refine ok_env [(0, _), (3, _), (4, _)] ⟨rfl, rfl, rfl, trivial⟩ ?_)
    | (refine ok_region (i := 10) ?_; refine ok_p rfl rfl rfl (by exact ps_move rfl rfl) ?_; refine ok_m rfl rfl rfl (by exact ms_wr 1 rfl rfl rfl rfl (fun _ _ w hw => once_c g A c bs _ _ 10 (by omega) (by omega) hr hw)) ?_; rintro y29 hy29; refine ok_nil ?_; refine ok_env [(0, _), (3, _), (29, _)] ⟨rfl, rfl, rfl, trivial⟩ ?_)
    | (refine ok_region (i := 11) ?_; refine ok_p rfl rfl rfl (by exact ps_move rfl rfl) ?_; refine ok_p rfl rfl rfl (by exact ps_move rfl rfl) ?_; refine ok_p rfl rfl rfl (by exact ps_len rfl rfl) ?_; refine ok_m rfl rfl rfl (by exact ms_wr 1 rfl rfl rfl rfl (fun _ _ w hw => below_c g A c bs _ _ (L.length : Int) (by omega) (by omega) hr hw)) ?_; rintro y33 hy33; refine ok_p rfl rfl rfl (by exact ps_assign rfl rfl) ?_; refine ok_nil ?_; refine ok_env [(0, _), (3, _), (6, _)] ⟨rfl, rfl, rfl, trivial⟩ ?_)
    | (refine ok_region (i := 12) ?_; refine ok_p rfl rfl rfl (by exact ps_move rfl rfl) ?_; refine ok_m rfl rfl rfl (by exact ms_wr 1 rfl rfl rfl rfl (fun _ _ w hw => below_c g A c bs _ _ 4 (by omega) (by omega) hr hw)) ?_; rintro y35 hy35; refine ok_nil ?_; refine ok_env [(0, _), (3, _), (6, _), (35, _)] ⟨rfl, rfl, rfl, rfl, trivial⟩ ?_)
    | (refine ok_region (i := 13) ?_; refine ok_m rfl rfl rfl (by exact ms_lit rfl parts_nil rfl rfl rfl) ?_; rintro y36 hy36; refine ok_p rfl rfl rfl (by exact ps_assign rfl rfl) ?_; refine ok_nil ?_; refine ok_env [(3, _)] ⟨rfl, trivial⟩ ?_)
    | (refine ok_region (i := 14) ?_; refine ok_p rfl rfl rfl (by exact ps_int rfl rfl rfl rfl) ?_; refine ok_p rfl rfl rfl (by exact ps_assign rfl rfl) ?_; refine ok_nil ?_; refine ok_env [(0, _), (3, _), (6, _), (35, _), (37, _)] ⟨rfl, rfl, rfl, rfl, rfl, trivial⟩ ?_)
    | (refine ok_region (i := 15) ?_; refine ok_p rfl rfl rfl (by exact ps_move rfl rfl) ?_; refine ok_p rfl rfl rfl (by exact ps_move rfl rfl) ?_; refine ok_p rfl rfl rfl (by exact ps_move rfl rfl) ?_; refine ok_m rfl rfl rfl (by exact ms_lit rfl (parts_cons rfl (parts_cons rfl (parts_cons rfl parts_nil))) rfl rfl rfl) ?_; rintro y42 hy42; refine ok_m rfl rfl rfl (by exact ms_wr 2 rfl rfl rfl rfl (fun _ _ w hw => pickS_c g A c bs _ _ [⟨#[]⟩, ⟨#[97, 97, 97, 97, 97, 97, 97, 97, 97, 97]⟩, ⟨#[97, 97, 97, 97, 97, 97, 97, 97, 97, 97, 97]⟩] _ _ (by simp) (by omega) hr (rds_row 0 rfl) hw)) ?_; rintro y43 hy43; refine ok_p rfl rfl rfl (by exact ps_index rfl rfl rfl (by omega) (isw_row 1 rfl (by omega))) ?_; refine ok_p rfl rfl rfl (by exact ps_field rfl rfl (by exact isw_row 1 rfl (by omega))) ?_; refine ok_m_ rfl rfl (by exact ms_setc 1 (y33 0).n.toNat 0 (⟨nth [⟨#[]⟩, ⟨#[97, 97, 97, 97, 97, 97, 97, 97, 97, 97]⟩, ⟨#[97, 97, 97, 97, 97, 97, 97, 97, 97, 97, 97]⟩] (y43 0).n.toNat, (nth L (y33 0).n.toNat).del, (nth L (y33 0).n.toNat).val⟩ : Opp) rfl rfl rfl rfl rfl rfl rfl rfl rfl (by omega)) ?_; rintro y_ hy_; refine ok_nil ?_; refine ok_env [(3, _)] ⟨rfl, trivial⟩ ?_)
    | (refine ok_region (i := 16) ?_; refine ok_p rfl rfl rfl (by exact ps_int rfl rfl rfl rfl) ?_; refine ok_p rfl rfl rfl (by exact ps_assign rfl rfl) ?_; refine ok_nil ?_; refine ok_env [(0, _), (3, _), (6, _), (35, _), (46, _)] ⟨rfl, rfl, rfl, rfl, rfl, trivial⟩ ?_)
    | (refine ok_region (i := 17) ?_; refine ok_p rfl rfl rfl (by exact ps_move rfl rfl) ?_; refine ok_p rfl rfl rfl (by exact ps_move rfl rfl) ?_; refine ok_p rfl rfl rfl (by exact ps_move rfl rfl) ?_; refine ok_m rfl rfl rfl (by exact ms_wr 1 rfl rfl rfl rfl (fun _ _ w hw => text_c g A c bs _ _ 1 (by omega) (by omega) hr hw)) ?_; rintro y51 hy51; refine ok_p rfl rfl rfl (by exact ps_sadd rfl rfl rfl (by show (16 : Nat) + _ ≤ _; omega)) ?_; refine ok_p rfl rfl rfl (by exact ps_index rfl rfl rfl (by omega) (isw_row 0 rfl (by omega))) ?_; refine ok_p rfl rfl rfl (by exact ps_field rfl rfl (by exact isw_row 0 rfl (by omega))) ?_; refine ok_m_ rfl rfl (by exact ms_setc 0 (y33 0).n.toNat 2 (⟨(nth L (y33 0).n.toNat).key, (nth L (y33 0).n.toNat).del, ⟨#[97, 97, 97, 97, 97, 97, 97, 97, 97, 97, 97, 97, 97, 97, 97, 97]⟩ ++ yS (y51 0)⟩ : Opp) rfl rfl rfl rfl rfl rfl rfl rfl rfl (by omega)) ?_; rintro y_ hy_; refine ok_nil ?_; refine ok_env [(3, _)] ⟨rfl, trivial⟩ ?_)
    | (refine ok_region (i := 18) ?_; refine ok_p rfl rfl rfl (by exact ps_int rfl rfl rfl rfl) ?_; refine ok_p rfl rfl rfl (by exact ps_assign rfl rfl) ?_; refine ok_nil ?_; refine ok_env [(3, _), (55, _)] ⟨rfl, rfl, trivial⟩ ?_)
    | (refine ok_region (i := 19) ?_; refine ok_p rfl rfl rfl (by exact ps_move rfl rfl) ?_; refine ok_p rfl rfl rfl (by exact ps_move rfl rfl) ?_; refine ok_m rfl rfl rfl (by exact ms_appF (α := Opp) (L := L) (M := L) 0 rfl rfl rfl rfl (rds_row 0 rfl) rfl (by omega) (by omega)) ?_; rintro y59 hy59; refine ok_p rfl rfl rfl (by exact ps_assign rfl rfl) ?_; refine ok_nil ?_; refine ok_env [(3, _)] ⟨rfl, trivial⟩ ?_)
    | (refine ok_region (i := 20) ?_; refine ok_p rfl rfl rfl (by exact ps_move rfl rfl) ?_; refine ok_p rfl rfl rfl (by exact ps_assign rfl rfl) ?_; refine ok_nil ?_; refine ok_env [(2, _)] ⟨rfl, trivial⟩ ?_))
  · exact fun a w' he hw => ⟨⟨n - 1, L ++ [⟨yS (y16 0), true, ⟨#[]⟩⟩], (y27 0).A, (y27 0).c, (y19 0).c, (y19 1).n, by simp only [List.length_append, List.length_singleton]; omega, ⟨by simp only [List.length_append, List.length_singleton]; omega, (op_app HF.out (op_one (u := ⟨yS (y16 0), true, ⟨#[]⟩⟩) ⟨by show (yS (y16 0)).size ≤ 20; omega, Nat.zero_le _⟩)).2⟩⟩, by simp only; omega, he.sub ⟨rfl, by simp only [List.length_append, List.length_singleton]; rfl, rfl, trivial⟩, by
      have := hw.tl.tl
      simp only [List.length_append, List.length_singleton] at this ⊢
      exact this⟩
  · exact fun a w' he hw => ⟨⟨n - 1, L ++ [⟨yS (y16 0), false, yS (y22 0)⟩], (y27 0).A, (y27 0).c, (y22 0).c, (y22 1).n, by simp only [List.length_append, List.length_singleton]; omega, ⟨by simp only [List.length_append, List.length_singleton]; omega, (op_app HF.out (op_one (u := ⟨yS (y16 0), false, yS (y22 0)⟩) ⟨by show (yS (y16 0)).size ≤ 20; omega, by show (yS (y22 0)).size ≤ 20; omega⟩)).2⟩⟩, by simp only; omega, he.sub ⟨rfl, by simp only [List.length_append, List.length_singleton]; rfl, rfl, trivial⟩, by
      have := hw.tl.tl
      simp only [List.length_append, List.length_singleton] at this ⊢
      exact this⟩
  · refine ok_endL (vs := [_]) rfl ⟨rfl, trivial⟩ (fun w' hw => ?_)
    have hk := pick_le (L := [⟨#[]⟩, ⟨#[97, 97, 97, 97, 97, 97, 97, 97, 97, 97]⟩, ⟨#[97, 97, 97, 97, 97, 97, 97, 97, 97, 97, 97]⟩]) (m := 20) (by intro u hu; revert u; decide) (i := (y43 0).n.toNat) (by have := hy43.1; simp only [List.length_cons, List.length_nil] at this ⊢; omega)
    have hv := (HF.out.2 _ (nth_mem L (y33 0).n.toNat (by omega))).2
    refine fin_O B d (L.set (y33 0).n.toNat ⟨nth [⟨#[]⟩, ⟨#[97, 97, 97, 97, 97, 97, 97, 97, 97, 97]⟩, ⟨#[97, 97, 97, 97, 97, 97, 97, 97, 97, 97, 97]⟩] (y43 0).n.toNat, (nth L (y33 0).n.toNat).del, (nth L (y33 0).n.toNat).val⟩) (y43 0).c (y43 1).n (by rw [List.length_set]; rfl) (op_set (op_up HF.out ⟨by omega, Nat.le_refl _⟩) _ ⟨hk, hv⟩) hy43.2 ?_
    rw [List.length_set]
    exact hw.tl
  · refine ok_endL (vs := [_]) rfl ⟨rfl, trivial⟩ (fun w' hw => ?_)
    have hk := (HF.out.2 _ (nth_mem L (y33 0).n.toNat (by omega))).1
    refine fin_O B d (L.set (y33 0).n.toNat ⟨(nth L (y33 0).n.toNat).key, (nth L (y33 0).n.toNat).del, ⟨#[97, 97, 97, 97, 97, 97, 97, 97, 97, 97, 97, 97, 97, 97, 97, 97]⟩ ++ yS (y51 0)⟩) (y51 0).c (y51 1).n (by rw [List.length_set]; rfl) (op_set (op_up HF.out ⟨by omega, Nat.le_refl _⟩) _ ⟨hk, by simp only [ByteArray.size_append]; show 16 + _ ≤ 20; omega⟩) hy51.2 ?_
    rw [List.length_set]
    exact hw
  · refine ok_endL (vs := [_]) rfl ⟨rfl, trivial⟩ (fun w' hw => ?_)
    refine fin_O (y59 0).A (y59 0).c (L ++ L) (y35 0).c (y35 1).n (by rw [List.length_append]; rfl) ⟨by rw [List.length_append]; omega, (op_app HF.out HF.out).2⟩ hy35.2 ?_
    rw [List.length_append]
    exact hw
  · refine ok_endL (vs := [_]) rfl ⟨rfl, trivial⟩ (fun w' hw => ?_)
    exact fin_O (ga (y36 0).c) 0 [] (y35 0).c (y35 1).n rfl (op_nil _ _) hy35.2 (hw.front 1 rfl).tl
  · refine ok_endL (vs := [_]) rfl ⟨rfl, trivial⟩ (fun w' hw => ?_)
    exact fin_O B d L (y29 0).c (y29 1).n rfl (op_up HF.out ⟨by omega, Nat.le_refl _⟩) hy29 hw
theorem s_BatchOk_c (A : Option Addr) (c : Nat) (L : List Opp) (w : World) (h : Rd w A (fl L)) (hl : L.length ≤ 1048576) :
    Calls Try.prog 243 #[.slice A L.length c] w fun e w' => ∃ y : Ys, e = .returned (.bool (decide ((y 0).n = 0))) ∧ True ∧ Below w.heap.size w w' ∧ NewOk w.heap.size [] [] w' := by
  refine ok_enter 20 Try.func243 rfl rfl rfl ?_
  repeat' (first
    | refine ok_seq ?_
    | refine ok_then ?_
    | refine ok_then_ret ?_
    | refine ok_block ?_
    | (refine ok_cond rfl (fun hc => ?_) (fun hc => ?_) <;> (have hd := hc; (try simp only [decide_eq_true_eq, decide_eq_false_iff_not, Bool.or_eq_true, Bool.or_eq_false_iff, Bool.and_eq_true, Bool.and_eq_false_iff, Bool.not_eq_true', Bool.not_eq_false', bne_iff_ne, beq_iff_eq, bne_eq_false_iff_eq, beq_eq_false_iff_ne, ne_eq, Bool.not_true, Bool.not_false, Bool.false_eq_true, Bool.true_eq_false, inB_true, inB_false] at hd)))
    | refine ok_ret ?_
    | refine ok_skip ?_
    | (refine ok_region (i := 0) ?_; refine ok_p rfl rfl rfl (by exact ps_assign rfl rfl) ?_; refine ok_nil ?_; refine ok_env [(0, _)] ⟨rfl, trivial⟩ ?_)
    | (refine ok_region (i := 1) ?_; refine ok_p rfl rfl rfl (by exact ps_move rfl rfl) ?_; refine ok_p rfl rfl rfl (by exact ps_len rfl rfl) ?_; refine ok_m rfl rfl rfl (by exact ms_s3 rfl rfl rfl rfl (fun _ _ w hw => xs_in _ _ _ w)) ?_; rintro y6 hy6; refine ok_p rfl rfl rfl (by exact ps_not rfl rfl) ?_; refine ok_nil ?_; refine ok_env [(0, _), (7, _)] ⟨rfl, rfl, trivial⟩ ?_)
    | (refine ok_region (i := 2) ?_; refine ok_p rfl rfl rfl (by exact ps_assign rfl rfl) ?_; refine ok_nil ?_; refine ok_env [(2, _)] ⟨rfl, trivial⟩ ?_)
    | (refine ok_region (i := 3) ?_; refine ok_p rfl rfl rfl (by exact ps_assign rfl rfl) ?_; refine ok_nil ?_; refine ok_env [(0, _), (3, _)] ⟨rfl, rfl, trivial⟩ ?_))
  · exact ok_endL (vs := [_]) rfl ⟨rfl, trivial⟩ (fun w' hw => ⟨mkN 1 w, rfl, trivial, hw.below, NewOk.nil _ _⟩)
  refine ok_loop (ι := { k : Nat // k ≤ L.length }) (fun k => L.length - k.1) (fun k => ([(0, .slice A L.length c), (3, .int .i64 k.1)], [], _)) ⟨0, Nat.zero_le _⟩ (fun a w he hw => ⟨⟨0, Nat.zero_le _⟩, he.sub ⟨rfl, rfl, trivial⟩, hw⟩) ?_
  rintro ⟨k, hk⟩
  simp only at hk ⊢
  repeat' (first
    | refine ok_seq ?_
    | refine ok_then ?_
    | refine ok_then_ret ?_
    | refine ok_block ?_
    | refine ok_in_normal ?_
    | refine ok_in_ret ?_
    | (refine ok_cond rfl (fun hc => ?_) (fun hc => ?_) <;> (have hd := hc; (try simp only [decide_eq_true_eq, decide_eq_false_iff_not, Bool.or_eq_true, Bool.or_eq_false_iff, Bool.and_eq_true, Bool.and_eq_false_iff, Bool.not_eq_true', Bool.not_eq_false', bne_iff_ne, beq_iff_eq, bne_eq_false_iff_eq, beq_eq_false_iff_ne, ne_eq, Bool.not_true, Bool.not_false, Bool.false_eq_true, Bool.true_eq_false, inB_true, inB_false] at hd)))
    | refine ok_ret ?_
    | refine ok_exit ?_
    | refine ok_skip ?_
    | (refine ok_region (i := 4) ?_; refine ok_p rfl rfl rfl (by exact ps_move rfl rfl) ?_; refine ok_p rfl rfl rfl (by exact ps_move rfl rfl) ?_; refine ok_p rfl rfl rfl (by exact ps_len rfl rfl) ?_; refine ok_p rfl rfl rfl (by exact ps_int rfl rfl rfl rfl) ?_; refine ok_nil ?_; refine ok_env [(0, _), (3, _), (11, _)] ⟨rfl, rfl, rfl, trivial⟩ ?_)
    | (refine ok_region (i := 5) ?_; refine ok_p rfl rfl rfl (by exact ps_move rfl rfl) ?_; refine ok_p rfl rfl rfl (by exact ps_add rfl rfl rfl (by omega)) ?_; refine ok_p rfl rfl rfl (by exact ps_assign rfl rfl) ?_; refine ok_nil ?_; refine ok_env [(0, _), (3, _)] ⟨rfl, rfl, trivial⟩ ?_)
    | (refine ok_region (i := 6) ?_; refine ok_p rfl rfl rfl (by exact ps_move rfl rfl) ?_; refine ok_p rfl rfl rfl (by exact ps_move rfl rfl) ?_; refine ok_p rfl rfl rfl (by exact ps_indexN rfl rfl rfl (by omega) (by exact isw_of (isS_fl (by assumption) (by omega)))) ?_; refine ok_p rfl rfl rfl (by exact ps_loadsF rfl rfl (by exact rds_rf (by assumption) (by exact List.mem_cons_self)) (by rfl) (by rfl) (by omega) rfl) ?_; refine ok_m rfl rfl rfl (by exact ms_s1 rfl rfl (fun _ _ w hw => l7Op_c (nth L k).key (nth L k).val (nth L k).del w)) ?_; rintro y18 hy18; refine ok_p rfl rfl rfl (by exact ps_not rfl rfl) ?_; refine ok_nil ?_; refine ok_env [(0, _), (3, _), (19, _)] ⟨rfl, rfl, rfl, trivial⟩ ?_)
    | (refine ok_region (i := 7) ?_; refine ok_p rfl rfl rfl (by exact ps_assign rfl rfl) ?_; refine ok_nil ?_; refine ok_env [(2, _)] ⟨rfl, trivial⟩ ?_)
    | (refine ok_region (i := 8) ?_; refine ok_p rfl rfl rfl (by exact ps_assign rfl rfl) ?_; refine ok_nil ?_; refine ok_env [(2, _)] ⟨rfl, trivial⟩ ?_))
  · exact ok_endL (vs := [_]) rfl ⟨rfl, trivial⟩ (fun w' hw => ⟨mkN 1 w, rfl, trivial, hw.below, NewOk.nil _ _⟩)
  · exact fun a w' he hw => ⟨⟨k + 1, by omega⟩, by simp only; omega, he.sub ⟨rfl, rfl, trivial⟩, hw⟩
  · exact ok_endL (vs := [_]) rfl ⟨rfl, trivial⟩ (fun w' hw => ⟨mkN 0 w, rfl, trivial, hw.below, NewOk.nil _ _⟩)
structure ApA (n m : Nat) where
  k : Nat
  L : List KV
  B : Option Addr
  d : Nat
  hk : k ≤ m
  hf : kvFew L (n + k) 20
theorem fin_A {n : Nat} {w w' : World} {base : Nat} (B : Option Addr) (d : Nat) (L : List KV) (f : Int) {e : Ending} (he : e = .returned (.tuple #[.slice B L.length d, .bool (decide (f = 0))])) (hf : kvFew L n 20) (hb : Below base w w') (hw : NewOk base [.row 67 2 B L.length d (fl L)] [] w') :
    ∃ y : Ys, e = .returned (.tuple #[.slice (y 0).A (yE (y 1) : List KV).length (y 0).c, .bool (decide ((y 0).n = 0))]) ∧ kvFew (yE (y 1)) n 20 ∧ Below base w w' ∧ NewOk base [.row 67 2 (y 0).A (yE (y 1) : List KV).length (y 0).c (fl (yE (y 1) : List KV))] [] w' := by
  have e2 : (yE (⟨none, 0, eW L w, 0⟩ : Ya) : List KV) = L := yE_mk none 0 L w 0
  refine ⟨yl [⟨B, d, w, f⟩, ⟨none, 0, eW L w, 0⟩] ⟨none, 0, w, 0⟩, ?_, ?_, hb, ?_⟩
  · show e = .returned (.tuple #[.slice B (yE (⟨none, 0, eW L w, 0⟩ : Ya) : List KV).length d, .bool (decide (f = 0))])
    rw [e2]; exact he
  · show kvFew (yE (⟨none, 0, eW L w, 0⟩ : Ya) : List KV) n 20
    rw [e2]; exact hf
  · show NewOk base [.row 67 2 B (yE (⟨none, 0, eW L w, 0⟩ : Ya) : List KV).length d (fl (yE (⟨none, 0, eW L w, 0⟩ : Ya) : List KV))] [] w'
    rw [e2]; exact hw
theorem s_ApplyBatch_c (A : Option Addr) (c : Nat) (R : List KV) (A' : Option Addr) (c' : Nat) (L : List Opp) (n : Nat) (w : World) (h : Rd w A (fl R)) (h' : Rd w A' (fl L)) (hf : kvFew R n 20) (hn : n ≤ 1000) (hl : opFew L 8 20) :
    Calls Try.prog 214 #[.slice A R.length c, .slice A' L.length c'] w fun e w' => ∃ y : Ys, e = .returned (.tuple #[.slice (y 0).A (yE (y 1) : List KV).length (y 0).c, .bool (decide ((y 0).n = 0))]) ∧ kvFew (yE (y 1)) (n + 8) 20 ∧ Below w.heap.size w w' ∧ NewOk w.heap.size [.row 67 2 (y 0).A (yE (y 1) : List KV).length (y 0).c (fl (yE (y 1) : List KV))] [] w' := by
  have hR := hf.1
  have hL := hl.1
  have HF := Lib.hid hf; clear hf
  have HL := Lib.hid hl; clear hl
  refine ok_enter 32 Try.func214 rfl rfl rfl ?_
  repeat' (first
    | refine ok_seq ?_
    | refine ok_then ?_
    | refine ok_then_ret ?_
    | refine ok_block ?_
    | (refine ok_cond rfl (fun hc => ?_) (fun hc => ?_) <;> (have hd := hc; (try simp only [decide_eq_true_eq, decide_eq_false_iff_not, Bool.or_eq_true, Bool.or_eq_false_iff, Bool.and_eq_true, Bool.and_eq_false_iff, Bool.not_eq_true', Bool.not_eq_false', bne_iff_ne, beq_iff_eq, bne_eq_false_iff_eq, beq_eq_false_iff_ne, ne_eq, Bool.not_true, Bool.not_false, Bool.false_eq_true, Bool.true_eq_false, inB_true, inB_false] at hd)))
    | refine ok_ret ?_
    | refine ok_skip ?_
    | (refine ok_region (i := 0) ?_; refine ok_p rfl rfl rfl (by exact ps_assign rfl rfl) ?_; refine ok_p rfl rfl rfl (by exact ps_assign rfl rfl) ?_; refine ok_nil ?_; refine ok_env [(0, _), (1, _)] ⟨rfl, rfl, trivial⟩ ?_)
    | (refine ok_region (i := 1) ?_; refine ok_p rfl rfl rfl (by exact ps_move rfl rfl) ?_; refine ok_m rfl rfl rfl (by exact ms_s1 rfl rfl (fun _ _ w hw => s_MapOk A c R w (rds_rf h (by exact List.mem_cons_self) _ _ w hw) (by omega))) ?_; rintro y9 hy9; refine ok_p rfl rfl rfl (by exact ps_not rfl rfl) ?_; refine ok_nil ?_; refine ok_env [(0, _), (1, _), (10, _)] ⟨rfl, rfl, rfl, trivial⟩ ?_)
    | (refine ok_region (i := 2) ?_; refine ok_m rfl rfl rfl (by exact ms_lit rfl parts_nil rfl rfl rfl) ?_; rintro y11 hy11; refine ok_p rfl rfl rfl (by exact ps_assign rfl rfl) ?_; refine ok_p rfl rfl rfl (by exact ps_assign rfl rfl) ?_; refine ok_nil ?_; refine ok_env [(4, _), (5, _)] ⟨rfl, rfl, trivial⟩ ?_)
    | (refine ok_region (i := 3) ?_; refine ok_m rfl rfl rfl (by exact ms_lit rfl parts_nil rfl rfl rfl) ?_; rintro y12 hy12; refine ok_p rfl rfl rfl (by exact ps_move rfl rfl) ?_; refine ok_m rfl rfl rfl (by exact ms_app0 (M := R) 0 rfl rfl rfl rfl (rds_rf h (by exact List.mem_cons_self)) rfl (by omega) (by omega)) ?_; rintro y14 hy14; refine ok_p rfl rfl rfl (by exact ps_assign rfl rfl) ?_; refine ok_nil ?_; refine ok_env [(1, _), (6, _)] ⟨rfl, rfl, trivial⟩ ?_)
    | (refine ok_region (i := 4) ?_; refine ok_p rfl rfl rfl (by exact ps_move rfl rfl) ?_; refine ok_m rfl rfl rfl (by exact ms_c1 rfl rfl (fun _ _ w hw => s_BatchOk_c A' c' L w (rds_rf h' (by exact List.mem_cons_self) _ _ w hw) (by omega))) ?_; rintro y16 hy16; refine ok_p rfl rfl rfl (by exact ps_not rfl rfl) ?_; refine ok_nil ?_; refine ok_env [(1, _), (6, _), (17, _)] ⟨rfl, rfl, rfl, trivial⟩ ?_)
    | (refine ok_region (i := 5) ?_; refine ok_p rfl rfl rfl (by exact ps_move rfl rfl) ?_; refine ok_p rfl rfl rfl (by exact ps_assign rfl rfl) ?_; refine ok_p rfl rfl rfl (by exact ps_assign rfl rfl) ?_; refine ok_nil ?_; refine ok_env [(4, _), (5, _)] ⟨rfl, rfl, trivial⟩ ?_)
    | (refine ok_region (i := 6) ?_; refine ok_p rfl rfl rfl (by exact ps_assign rfl rfl) ?_; refine ok_nil ?_; refine ok_env [(1, _), (6, _), (7, _)] ⟨rfl, rfl, rfl, trivial⟩ ?_))
  · exact ok_endL (vs := [_, _]) rfl ⟨rfl, rfl, trivial⟩ (fun w' hw => fin_A (ga (y11 0).c) 0 [] 1 rfl (kv_nil _ _) hw.below (NewOk.of (hw.sel [0] (by decide) rfl (G' := []) (fun _ h => by cases h))))
  · exact ok_endL (vs := [_, _]) rfl ⟨rfl, rfl, trivial⟩ (fun w' hw => fin_A (y14 0).A (y14 0).c R 1 rfl (kv_up HF.out ⟨by omega, Nat.le_refl _⟩) hw.below (NewOk.of (hw.sel [0] (by decide) rfl (G' := []) (fun _ h => by cases h))))
  refine ok_loop (ι := ApA n L.length) (fun q => L.length - q.k) (fun q => ([(1, .slice A' L.length c'), (6, .slice q.B q.L.length q.d), (7, .int .i64 q.k)], [.row 67 2 q.B q.L.length q.d (fl q.L)], _)) ⟨0, R, (y14 0).A, (y14 0).c, Nat.zero_le _, by simpa using HF.out⟩ (fun a w he hw => ⟨⟨0, R, (y14 0).A, (y14 0).c, Nat.zero_le _, by simpa using HF.out⟩, he.sub ⟨rfl, rfl, rfl, trivial⟩, hw⟩) ?_
  rintro ⟨k, M, B, d, hk, hf⟩
  simp only at hk hf ⊢
  have hM := hf.1
  have HM := Lib.hid hf; clear hf
  repeat' (first
    | refine ok_seq ?_
    | refine ok_then ?_
    | refine ok_block ?_
    | refine ok_in_normal ?_
    | (refine ok_cond rfl (fun hc => ?_) (fun hc => ?_) <;> (have hd := hc; (try simp only [decide_eq_true_eq, decide_eq_false_iff_not, Bool.or_eq_true, Bool.or_eq_false_iff, Bool.and_eq_true, Bool.and_eq_false_iff, Bool.not_eq_true', Bool.not_eq_false', bne_iff_ne, beq_iff_eq, bne_eq_false_iff_eq, beq_eq_false_iff_ne, ne_eq, Bool.not_true, Bool.not_false, Bool.false_eq_true, Bool.true_eq_false, inB_true, inB_false] at hd)))
    | refine ok_ret ?_
    | refine ok_exit ?_
    | refine ok_skip ?_
    | (refine ok_region (i := 7) ?_; refine ok_p rfl rfl rfl (by exact ps_move rfl rfl) ?_; refine ok_p rfl rfl rfl (by exact ps_move rfl rfl) ?_; refine ok_p rfl rfl rfl (by exact ps_len rfl rfl) ?_; refine ok_p rfl rfl rfl (by exact ps_int rfl rfl rfl rfl) ?_; refine ok_nil ?_; refine ok_env [(1, _), (6, _), (7, _), (22, _)] ⟨rfl, rfl, rfl, rfl, trivial⟩ ?_)
    | (refine ok_region (i := 8) ?_; refine ok_p rfl rfl rfl (by exact ps_move rfl rfl) ?_; refine ok_p rfl rfl rfl (by exact ps_add rfl rfl rfl (by omega)) ?_; refine ok_p rfl rfl rfl (by exact ps_assign rfl rfl) ?_; refine ok_nil ?_; refine ok_env [(1, _), (6, _), (7, _)] ⟨rfl, rfl, rfl, trivial⟩ ?_)
    | (refine ok_region (i := 9) ?_; refine ok_p rfl rfl rfl (by exact ps_move rfl rfl) ?_; refine ok_p rfl rfl rfl (by exact ps_move rfl rfl) ?_; refine ok_p rfl rfl rfl (by exact ps_move rfl rfl) ?_; refine ok_p rfl rfl rfl (by exact ps_indexN rfl rfl rfl (by omega) (by exact isw_of (isS_fl (by assumption) (by omega)))) ?_; refine ok_p rfl rfl rfl (by exact ps_loadsF rfl rfl (by exact rds_rf (by assumption) (by exact List.mem_cons_self)) (by rfl) (by rfl) (by omega) rfl) ?_; refine ok_m rfl rfl rfl (by exact ms_c2 rfl rfl rfl (fun _ _ w hw => s_l7Put_c B d M (nth L k).key (nth L k).val (nth L k).del w (rds_row 0 rfl _ _ w hw) (by omega))) ?_; rintro y30 hy30; refine ok_p rfl rfl rfl (by exact ps_assign rfl rfl) ?_; refine ok_nil ?_; refine ok_env [(1, _), (6, _), (7, _)] ⟨rfl, rfl, rfl, trivial⟩ ?_)
    | (refine ok_region (i := 10) ?_; refine ok_p rfl rfl rfl (by exact ps_move rfl rfl) ?_; refine ok_p rfl rfl rfl (by exact ps_assign rfl rfl) ?_; refine ok_p rfl rfl rfl (by exact ps_assign rfl rfl) ?_; refine ok_nil ?_; refine ok_env [(4, _), (5, _)] ⟨rfl, rfl, trivial⟩ ?_))
  · exact fun a w' he hw => ⟨⟨k + 1, opF M (nth L k).key (nth L k).val (nth L k).del, (y30 0).A, (y30 0).c, by omega, kv_op HM.out (nth L k).del (HL.out.2 _ (nth_mem L k (by omega)))⟩, by simp only; omega, he.sub ⟨rfl, rfl, rfl, trivial⟩, hw.sel [0] (by decide) rfl (fun _ h => h)⟩
  · exact ok_endL (vs := [_, _]) rfl ⟨rfl, rfl, trivial⟩ (fun w' hw => fin_A B d M 0 rfl (kv_up HM.out ⟨by omega, Nat.le_refl _⟩) hw.below (NewOk.of (hw.sel [0] (by decide) rfl (G' := []) (fun _ h => by cases h))))
structure MpA (m : Nat) where
  n : Nat
  L : List KV
  B : Option Addr
  d : Nat
  i : Nat
  h : Int
  hi : i ≤ m ∧ n ≤ 4
  hf : kvFew L (8 * (4 - n)) 20
theorem fin_M {base : Nat} {w0 w : World} {H : List HObj} {G : List World} {g n c m : Nat} {A : Option Addr} (B : Option Addr) (d : Nat) (L : List KV) (i : Nat) (h : Int) {e : Ending} (he : e = .returned (.slice B L.length d)) (hf : kvFew L 32 20) (hi : i ≤ m) (hw : WOk base w0 (.row 67 2 B L.length d (fl L) :: cur g A n c i h :: H) G w) :
    ∃ y : Ys, e = .returned (.slice (y 0).A (yE (y 2) : List KV).length (y 0).c) ∧ (kvFew (yE (y 2)) 32 20 ∧ (y 1).c ≤ m) ∧ WOk base w0 (.row 67 2 (y 0).A (yE (y 2) : List KV).length (y 0).c (fl (yE (y 2) : List KV)) :: cur g A n c (y 1).c (y 1).n :: H) G w := by
  have e2 : (yE (⟨none, 0, eW L w, 0⟩ : Ya) : List KV) = L := yE_mk none 0 L w 0
  refine ⟨yl [⟨B, d, w, 0⟩, ⟨none, i, w, h⟩, ⟨none, 0, eW L w, 0⟩] ⟨none, 0, w, 0⟩, ?_, ?_, ?_⟩
  · show e = .returned (.slice B (yE (⟨none, 0, eW L w, 0⟩ : Ya) : List KV).length d)
    rw [e2]; exact he
  · show kvFew (yE (⟨none, 0, eW L w, 0⟩ : Ya) : List KV) 32 20 ∧ i ≤ m
    rw [e2]; exact ⟨hf, hi⟩
  · show WOk base w0 (.row 67 2 B (yE (⟨none, 0, eW L w, 0⟩ : Ya) : List KV).length d (fl (yE (⟨none, 0, eW L w, 0⟩ : Ya) : List KV)) :: cur g A n c i h :: H) G w
    rw [e2]; exact hw
theorem l7Map_c (g : Nat) (A : Option Addr) (c : Nat) (bs : List UInt8) (i : Nat) (h : Int) (hi : i ≤ bs.length) {base : Nat} {w0 w : World} {H : List HObj} {G : List World} (hr : CodeR A bs G) (hw : WOk base w0 (cur g A bs.length c i h :: H) G w) :
    Calls Try.prog 176 #[pt (ga g) 0] w fun e w' => ∃ y : Ys, e = .returned (.slice (y 0).A (yE (y 2) : List KV).length (y 0).c) ∧ (kvFew (yE (y 2)) 32 20 ∧ (y 1).c ≤ bs.length) ∧ WOk base w0 (.row 67 2 (y 0).A (yE (y 2) : List KV).length (y 0).c (fl (yE (y 2) : List KV)) :: cur g A bs.length c (y 1).c (y 1).n :: H) G w' := by
  refine ok_enterW 37 Try.func176 rfl rfl rfl hw ?_
  repeat' (first
    | refine ok_seq ?_
    | refine ok_then ?_
    | refine ok_block ?_
    | (refine ok_region (i := 0) ?_; refine ok_p rfl rfl rfl (by exact ps_assign rfl rfl) ?_; refine ok_nil ?_; refine ok_env [(0, _)] ⟨rfl, trivial⟩ ?_)
    | (refine ok_region (i := 1) ?_; refine ok_m rfl rfl rfl (by exact ms_lit rfl parts_nil rfl rfl rfl) ?_; rintro y7 hy7; refine ok_p rfl rfl rfl (by exact ps_assign rfl rfl) ?_; refine ok_nil ?_; refine ok_env [(0, _), (3, _)] ⟨rfl, rfl, trivial⟩ ?_)
    | (refine ok_region (i := 2) ?_; refine ok_p rfl rfl rfl (by exact ps_move rfl rfl) ?_; refine ok_m rfl rfl rfl (by exact ms_wr 1 rfl rfl rfl rfl (fun _ _ w hw => below_c g A c bs _ _ 5 (by omega) (by omega) hr hw)) ?_; rintro y9 hy9; refine ok_p rfl rfl rfl (by exact ps_assign rfl rfl) ?_; refine ok_nil ?_; refine ok_env [(0, _), (3, _), (4, _)] ⟨rfl, rfl, rfl, trivial⟩ ?_))
  refine ok_loop (ι := MpA bs.length) (fun q => q.n) (fun q => ([(0, pt (ga g) 0), (3, .slice q.B q.L.length q.d), (4, .int .i64 q.n)], .row 67 2 q.B q.L.length q.d (fl q.L) :: cur g A bs.length c q.i q.h :: H, _)) ⟨(y9 0).n.toNat, [], ga (y7 0).c, 0, (y9 0).c, (y9 1).n, by omega, kv_nil _ _⟩ (fun a w he hw => ⟨⟨(y9 0).n.toNat, [], ga (y7 0).c, 0, (y9 0).c, (y9 1).n, by omega, kv_nil _ _⟩, he.sub ⟨rfl, rfl, by show some (Value.int .i64 (y9 0).n) = some (.int .i64 (((y9 0).n.toNat : Nat) : Int)); rw [show (((y9 0).n.toNat : Nat) : Int) = (y9 0).n by omega], trivial⟩, hw⟩) ?_
  rintro ⟨n, L, B, d, i2, h2, hi2, hf⟩
  simp only at hi2 hf ⊢
  have hlen := hf.1
  have HF := Lib.hid hf; clear hf
  repeat' (first
    | refine ok_seq ?_
    | refine ok_then ?_
    | refine ok_block ?_
    | refine ok_in_normal ?_
    | (refine ok_cond rfl (fun hc => ?_) (fun hc => ?_) <;> (have hd := hc; (try simp only [decide_eq_true_eq, decide_eq_false_iff_not, Bool.or_eq_true, Bool.or_eq_false_iff, Bool.and_eq_true, Bool.and_eq_false_iff, Bool.not_eq_true', Bool.not_eq_false', bne_iff_ne, beq_iff_eq, bne_eq_false_iff_eq, beq_eq_false_iff_ne, ne_eq, Bool.not_true, Bool.not_false, Bool.false_eq_true, Bool.true_eq_false, inB_true, inB_false] at hd)))
    | refine ok_ret ?_
    | refine ok_exit ?_
    | refine ok_skip ?_
    | (refine ok_region (i := 3) ?_; refine ok_p rfl rfl rfl (by exact ps_move rfl rfl) ?_; refine ok_p rfl rfl rfl (by exact ps_int rfl rfl rfl rfl) ?_; refine ok_nil ?_; refine ok_env [(0, _), (3, _), (4, _), (11, _)] ⟨rfl, rfl, rfl, rfl, trivial⟩ ?_)
    | (refine ok_region (i := 4) ?_; refine ok_p rfl rfl rfl (by exact ps_move rfl rfl) ?_; refine ok_p rfl rfl rfl (by exact ps_cast (v' := .int .i64 ((n - 1 : Nat) : Int)) (ps_sub rfl rfl rfl (by omega)) (by rw [show (n : Int) - 1 = ((n - 1 : Nat) : Int) by omega])) ?_; refine ok_p rfl rfl rfl (by exact ps_assign rfl rfl) ?_; refine ok_nil ?_; refine ok_env [(0, _), (3, _), (4, _)] ⟨rfl, rfl, rfl, trivial⟩ ?_)
    | (refine ok_region (i := 5) ?_; refine ok_p rfl rfl rfl (by exact ps_move rfl rfl) ?_; refine ok_p rfl rfl rfl (by exact ps_move rfl rfl) ?_; refine ok_m rfl rfl rfl (by exact ms_w1 (fun _ _ _ h => h.front 1 rfl) rfl rfl (fun _ _ w hw => l7Batch_c g A c bs _ _ (by omega) hr hw)) ?_; rintro y17 hy17; refine ok_m rfl rfl rfl (by exact ms_c2 rfl rfl rfl (fun _ _ w hw => s_ApplyBatch_c B d L (y17 0).A (y17 0).c (yE (y17 2)) (8 * (4 - n)) w (rds_row 2 rfl _ _ w hw) (rds_row 0 rfl _ _ w hw) HF.out (by omega) hy17.1)) ?_; rintro y18 hy18; refine ok_p rfl rfl rfl (by exact ps_move rfl rfl) ?_; refine ok_p rfl rfl rfl (by exact ps_extract rfl rfl rfl) ?_; refine ok_p rfl rfl rfl (by exact ps_extract rfl rfl rfl) ?_; refine ok_p rfl rfl rfl (by exact ps_assign rfl rfl) ?_; refine ok_p rfl rfl rfl (by exact ps_assign rfl rfl) ?_; refine ok_nil ?_; refine ok_env [(0, _), (3, _), (4, _), (5, _), (6, _)] ⟨rfl, rfl, rfl, rfl, rfl, trivial⟩ ?_)
    | (refine ok_region (i := 6) ?_; refine ok_p rfl rfl rfl (by exact ps_move rfl rfl) ?_; refine ok_nil ?_; refine ok_env [(0, _), (3, _), (4, _), (5, _), (21, _)] ⟨rfl, rfl, rfl, rfl, rfl, trivial⟩ ?_)
    | (refine ok_region (i := 7) ?_; refine ok_p rfl rfl rfl (by exact ps_move rfl rfl) ?_; refine ok_p rfl rfl rfl (by exact ps_assign rfl rfl) ?_; refine ok_nil ?_; refine ok_env [(0, _), (3, _), (4, _)] ⟨rfl, rfl, rfl, trivial⟩ ?_)
    | (refine ok_region (i := 8) ?_; refine ok_p rfl rfl rfl (by exact ps_move rfl rfl) ?_; refine ok_p rfl rfl rfl (by exact ps_len rfl rfl) ?_; refine ok_p rfl rfl rfl (by exact ps_int rfl rfl rfl rfl) ?_; refine ok_p rfl rfl rfl (by exact ps_move rfl rfl) ?_; refine ok_pg rfl rfl rfl rfl rfl (gT _) (fun hp => by (have hpd := hp; (try simp only [decide_eq_true_eq, decide_eq_false_iff_not, Bool.or_eq_true, Bool.or_eq_false_iff, Bool.and_eq_true, Bool.and_eq_false_iff, Bool.not_eq_true', Bool.not_eq_false', bne_iff_ne, beq_iff_eq, bne_eq_false_iff_eq, beq_eq_false_iff_ne, ne_eq, Bool.not_true, Bool.not_false, Bool.false_eq_true, Bool.true_eq_false, inB_true, inB_false] at hpd); exact ps_move rfl (by exact rfl))) ?_; refine ok_mgs rfl rfl rfl rfl rfl (fun hp => by (have hpd := hp; (try simp only [decide_eq_true_eq, decide_eq_false_iff_not, Bool.or_eq_true, Bool.or_eq_false_iff, Bool.and_eq_true, Bool.and_eq_false_iff, Bool.not_eq_true', Bool.not_eq_false', bne_iff_ne, beq_iff_eq, bne_eq_false_iff_eq, beq_eq_false_iff_ne, ne_eq, Bool.not_true, Bool.not_false, Bool.false_eq_true, Bool.true_eq_false, inB_true, inB_false] at hpd); /-S-/ exact ms_wr 1 rfl rfl rfl (by rw [show decide (0 < (L.length : Int)) = true by simpa using hp]; rfl) (fun _ _ w hw => once_c g A c bs _ _ 12 (by omega) (by omega) hr hw))) ?_ ?_; (focus (intro hp y28 hy28; have hpd := hp; (try simp only [decide_eq_true_eq, decide_eq_false_iff_not, Bool.or_eq_true, Bool.or_eq_false_iff, Bool.and_eq_true, Bool.and_eq_false_iff, Bool.not_eq_true', Bool.not_eq_false', bne_iff_ne, beq_iff_eq, bne_eq_false_iff_eq, beq_eq_false_iff_ne, ne_eq, Bool.not_true, Bool.not_false, Bool.false_eq_true, Bool.true_eq_false, inB_true, inB_false] at hpd); refine ok_p rfl rfl rfl (by exact ps_pick_t rfl rfl (by simpa using hp) rfl) ?_; refine ok_nil ?_; refine ok_env [(0, _), (3, _), (29, _)] ⟨rfl, rfl, rfl, trivial⟩ ?_)); rotate_left 1; (focus (intro hp; have hpd := hp; (try simp only [decide_eq_true_eq, decide_eq_false_iff_not, Bool.or_eq_true, Bool.or_eq_false_iff, Bool.and_eq_true, Bool.and_eq_false_iff, Bool.not_eq_true', Bool.not_eq_false', bne_iff_ne, beq_iff_eq, bne_eq_false_iff_eq, beq_eq_false_iff_ne, ne_eq, Bool.not_true, Bool.not_false, Bool.false_eq_true, Bool.true_eq_false, inB_true, inB_false] at hpd); refine ok_p rfl rfl rfl (by exact ps_pick_f rfl rfl (by simpa using hp) rfl) ?_; refine ok_nil ?_; refine ok_env [(0, _), (3, _), (29, _)] ⟨rfl, rfl, rfl, trivial⟩ ?_)))
    | (refine ok_region (i := 9) ?_; refine ok_p rfl rfl rfl (by exact ps_move rfl rfl) ?_; refine ok_p rfl rfl rfl (by exact ps_move rfl rfl) ?_; refine ok_m rfl rfl rfl (by exact ms_lit rfl (parts_cons rfl (parts_cons rfl (parts_cons rfl parts_nil))) rfl rfl rfl) ?_; rintro y32 hy32; refine ok_m rfl rfl rfl (by exact ms_wr 2 rfl rfl rfl rfl (fun _ _ w hw => pickS_c g A c bs _ _ [⟨#[]⟩, ⟨#[122, 122, 122]⟩, ⟨#[97, 97, 97, 97, 97, 97, 97, 97, 97, 97, 97]⟩] _ _ (by simp) (by omega) hr (rds_row 0 rfl) hw)) ?_; rintro y33 hy33; refine ok_p rfl rfl rfl (by exact ps_index rfl rfl rfl (by omega) (by exact isw_row 1 rfl (by omega))) ?_; refine ok_p rfl rfl rfl (by exact ps_field rfl rfl (by exact isw_row 1 rfl (by omega))) ?_; refine ok_m_ rfl rfl (by exact ms_setc 1 0 0 (⟨nth [⟨#[]⟩, ⟨#[122, 122, 122]⟩, ⟨#[97, 97, 97, 97, 97, 97, 97, 97, 97, 97, 97]⟩] (y33 0).n.toNat, (nth L 0).val⟩ : KV) rfl rfl rfl rfl rfl rfl rfl rfl rfl (by omega)) ?_; rintro y_ hy_; refine ok_nil ?_; refine ok_env [(3, _)] ⟨rfl, trivial⟩ ?_)
    | (refine ok_region (i := 10) ?_; refine ok_p rfl rfl rfl (by exact ps_move rfl rfl) ?_; refine ok_p rfl rfl rfl (by exact ps_assign rfl rfl) ?_; refine ok_nil ?_; refine ok_env [(2, _)] ⟨rfl, trivial⟩ ?_))
  · exact fun a w' he hw => ⟨⟨n - 1, yE (y18 1), (y18 0).A, (y18 0).c, (y17 1).c, (y17 1).n, by omega, kv_up hy18 ⟨by omega, Nat.le_refl _⟩⟩, by simp only; omega, he.sub ⟨rfl, rfl, rfl, trivial⟩, ((hw.front 1 rfl).tl.front 2 rfl).tl⟩
  · exact fun a w' he hw => ⟨⟨n - 1, L, B, d, (y17 1).c, (y17 1).n, by omega, kv_up HF.out ⟨by omega, Nat.le_refl _⟩⟩, by simp only; omega, he.sub ⟨rfl, rfl, rfl, trivial⟩, hw.tl.tl.front 1 rfl⟩
  · refine ok_endL (vs := [_]) rfl ⟨rfl, trivial⟩ (fun w' hw => ?_)
    exact fin_M B d L i2 h2 rfl (kv_up HF.out ⟨by omega, Nat.le_refl _⟩) hi2.1 hw
  · refine ok_endL (vs := [_]) rfl ⟨rfl, trivial⟩ (fun w' hw => ?_)
    have hL0 : 0 < L.length := by omega
    have hk := pick_le (L := [⟨#[]⟩, ⟨#[122, 122, 122]⟩, ⟨#[97, 97, 97, 97, 97, 97, 97, 97, 97, 97, 97]⟩]) (m := 20) (by intro u hu; revert u; decide) (i := (y33 0).n.toNat) (by have := hy33.1; simp only [List.length_cons, List.length_nil] at this ⊢; omega)
    have hv := (HF.out.2 _ (nth_mem L 0 hL0)).2
    refine fin_M B d (L.set 0 ⟨nth [⟨#[]⟩, ⟨#[122, 122, 122]⟩, ⟨#[97, 97, 97, 97, 97, 97, 97, 97, 97, 97, 97]⟩] (y33 0).n.toNat, (nth L 0).val⟩) (y33 0).c (y33 1).n (by rw [List.length_set]; rfl) (kv_set (kv_up HF.out ⟨by omega, Nat.le_refl _⟩) _ ⟨hk, hv⟩) hy33.2 ?_
    rw [List.length_set]
    exact hw.tl
  · refine ok_endL (vs := [_]) rfl ⟨rfl, trivial⟩ (fun w' hw => ?_)
    exact fin_M B d L (y28 0).c (y28 1).n rfl (kv_up HF.out ⟨by omega, Nat.le_refl _⟩) hy28 hw
end Go.Proofs.Ytbegbdfbfbkflaa
/- Texts that rise, with one more; two such rows with the same texts are one. In plain Lean. -/
namespace Go.Proofs.Ytbegbdfbfbkflaa
set_option linter.unusedVariables false
def sSrt (L : List ByteArray) : Prop := L.Pairwise (fun x y => sLt x y = true)
theorem sSrt_ext : ∀ (L M : List ByteArray), sSrt L → sSrt M → (∀ x, x ∈ L ↔ x ∈ M) → L = M
  | [], [], _, _, _ => rfl
  | [], b :: M, _, _, h => by have := (h b).2 (List.mem_cons_self ..); simp at this
  | a :: L, [], _, _, h => by have := (h a).1 (List.mem_cons_self ..); simp at this
  | a :: L, b :: M, h1, h2, h => by
    have p1 := List.pairwise_cons.1 h1
    have p2 := List.pairwise_cons.1 h2
    have e : a = b := by
      rcases List.mem_cons.1 ((h a).1 (List.mem_cons_self ..)) with e | e
      · exact e
      · rcases List.mem_cons.1 ((h b).2 (List.mem_cons_self ..)) with e2 | e2
        · exact e2.symm
        · have q := sLt_asymm (p2.1 a e); rw [p1.1 b e2] at q; cases q
    subst e
    congr 1
    refine sSrt_ext L M p1.2 p2.2 fun x => ⟨fun hx => ?_, fun hx => ?_⟩
    · rcases List.mem_cons.1 ((h x).1 (List.mem_cons_of_mem _ hx)) with e | e
      · subst e; have := p1.1 x hx; rw [sLt_irrefl] at this; cases this
      · exact e
    · rcases List.mem_cons.1 ((h x).2 (List.mem_cons_of_mem _ hx)) with e | e
      · subst e; have := p2.1 x hx; rw [sLt_irrefl] at this; cases this
      · exact e
/-- A text in a row; a text put into a row. -/
def hasS (L : List ByteArray) (x : ByteArray) : Bool := L.any (fun y => sEq y x)
def hdS (L : List ByteArray) (x : ByteArray) : List ByteArray := L.takeWhile (fun y => !sLt x y)
def tlS (L : List ByteArray) (x : ByteArray) : List ByteArray := L.dropWhile (fun y => !sLt x y)
def insS (L : List ByteArray) (x : ByteArray) : List ByteArray := if hasS L x = true then L else (hdS L x ++ [x]) ++ tlS L x
theorem hdS_tlS (L : List ByteArray) (x : ByteArray) : hdS L x ++ tlS L x = L := List.takeWhile_append_dropWhile
theorem sEq_iff {a b : ByteArray} : sEq a b = true ↔ a = b := ⟨sEq_eq, fun h => by subst h; unfold sEq; simp⟩
theorem hasS_iff (L : List ByteArray) (x : ByteArray) : hasS L x = true ↔ x ∈ L := by
  unfold hasS
  rw [List.any_eq_true]
  constructor
  · rintro ⟨y, hy, he⟩; rw [sEq_iff] at he; subst he; exact hy
  · intro h; exact ⟨x, h, sEq_iff.2 rfl⟩
theorem insS_mem (L : List ByteArray) (x y : ByteArray) : y ∈ insS L x ↔ y = x ∨ y ∈ L := by
  unfold insS
  split
  · rename_i h
    rw [hasS_iff] at h
    exact ⟨.inr, fun h2 => by rcases h2 with rfl | h2 <;> assumption⟩
  · conv => rhs; rw [← hdS_tlS L x]
    simp only [List.mem_append, List.mem_singleton]
    constructor
    · rintro ((h | h) | h)
      · exact .inr (.inl h)
      · exact .inl h
      · exact .inr (.inr h)
    · rintro (h | h | h)
      · exact .inl (.inr h)
      · exact .inl (.inl h)
      · exact .inr h
theorem hdS_le (L : List ByteArray) (x : ByteArray) : ∀ y ∈ hdS L x, sLt x y = false := by
  unfold hdS
  induction L with
  | nil => intro y h; simp at h
  | cons a L ih =>
    intro y h
    rw [List.takeWhile_cons] at h
    split at h
    · rename_i hn
      rcases List.mem_cons.1 h with rfl | h
      · simpa using hn
      · exact ih y h
    · simp at h
theorem tlS_gt {L : List ByteArray} (hs : sSrt L) (x : ByteArray) : ∀ y ∈ tlS L x, sLt x y = true := by
  unfold tlS
  induction L with
  | nil => intro y h; simp at h
  | cons a L ih =>
    intro y h
    rw [List.dropWhile_cons] at h
    split at h
    · exact ih (List.pairwise_cons.1 hs).2 y h
    · rename_i hn
      have hn : sLt x a = true := by simpa using hn
      rcases List.mem_cons.1 h with rfl | h
      · exact hn
      · exact sLt_trans hn ((List.pairwise_cons.1 hs).1 y h)
theorem insS_srt {L : List ByteArray} (hs : sSrt L) (x : ByteArray) : sSrt (insS L x) := by
  unfold insS
  split
  · exact hs
  · rename_i h
    have hx : x ∉ L := fun e => h ((hasS_iff L x).2 e)
    unfold sSrt
    have h1 : sSrt (hdS L x) := List.Pairwise.sublist (List.takeWhile_sublist _) hs
    have h2 : sSrt (tlS L x) := List.Pairwise.sublist (List.dropWhile_sublist _) hs
    have lt : ∀ y ∈ hdS L x, sLt y x = true := fun y hy => by
      rcases sLt_tri y x with e | e | e
      · exact e
      · exact absurd (List.takeWhile_subset _ hy) (by rw [tl_inj e]; exact hx)
      · rw [hdS_le L x y hy] at e; cases e
    rw [List.append_assoc, List.pairwise_append]
    refine ⟨h1, ?_, ?_⟩
    · rw [List.singleton_append, List.pairwise_cons]
      exact ⟨fun y hy => tlS_gt hs x y hy, h2⟩
    · intro a ha b hb
      have := lt a ha
      rcases List.mem_append.1 hb with hb | hb
      · rw [List.mem_singleton] at hb; subst hb; exact this
      · exact sLt_trans this (tlS_gt hs x b hb)
theorem insS_len (L : List ByteArray) (x : ByteArray) : (insS L x).length ≤ L.length + 1 := by
  unfold insS
  split
  · omega
  · have := congrArg List.length (hdS_tlS L x)
    simp only [List.length_append, List.length_cons, List.length_nil] at this ⊢
    omega
end Go.Proofs.Ytbegbdfbfbkflaa
