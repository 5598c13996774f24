/- ReadVar of both programs. -/
import Derived.Test.YtojgphgfhapacaaRvP
import Derived.Test.YtojgphgfhapacaaShs
import Derived.Test.YtojgphgfhapacaaEng10
import Derived.Test.YtojgphgfhapacaaTab
namespace Go.Proofs.Ytojgphgfhapacaa
open Go.RowKit
set_option maxHeartbeats 4000000
set_option maxRecDepth 20000
set_option linter.unusedVariables false
set_option linter.unusedSimpArgs false
/-- A string's bytes. -/
abbrev bl (s : ByteArray) : List UInt8 := s.data.toList
theorem bl_len (s : ByteArray) : (bl s).length = s.size := Array.length_toList
theorem bl_ext {s t : ByteArray} (h : bl s = bl t) : s = t := by
  cases s; cases t; simp only [bl] at h; congr; exact Array.toList_inj.1 h
theorem bl_mk (l : List UInt8) : bl ⟨l.toArray⟩ = l := rfl
theorem bl_extract (s : ByteArray) (i k : Nat) : bl (s.extract i k) = ((bl s).take k).drop i := by
  simp [bl, ByteArray.data_extract, List.extract_eq_take_drop, List.drop_take]
theorem bl_app (s t : ByteArray) : bl (s ++ t) = bl s ++ bl t := by simp [bl]
def bt (s : ByteArray) (i : Nat) : Nat := ((bl s).getD i 0).toNat
theorem bt_lt (s : ByteArray) (i : Nat) : bt s i < 256 := UInt8.toNat_lt _
theorem bt_get {s : ByteArray} {i : Nat} (h : i < s.size) : s[i]! = (bl s).getD i 0 := by
  rw [getElem!_pos s i h]
  have h2 : i < (bl s).length := by rw [bl_len]; exact h
  rw [List.getD_eq_getElem?_getD, List.getElem?_eq_getElem h2]
  simp [bl]; rfl
theorem bl_cons {s : ByteArray} {i : Nat} (h : i < s.size) : (bl s).drop i = (bl s).getD i 0 :: (bl s).drop (i + 1) := by
  have h2 : i < (bl s).length := by rw [bl_len]; exact h
  rw [List.drop_eq_getElem_cons h2, List.getD_eq_getElem?_getD, List.getElem?_eq_getElem h2]; rfl
section
variable {P : Program} {E : Env} {H : List HObj} {G : List World} {o : Oper}
theorem ps_sidxE {x y : Operand} {t : TypeId} {s : ByteArray} {k : IntKind} {z : Int} (i : Nat) [ht : SS P t] (ho : o.op = .index t x y) (hx : opd E x = some (.string s)) (hy : opd E y = some (.int k z)) (hz : z = (i : Int)) (h : i < s.size) : PStep P E H G o (.int .u8 (bt s i : Int)) := by
  subst hz
  have := ps_sidx (P := P) (E := E) (H := H) (G := G) ho hx hy (by omega)
  rw [Int.toNat_natCast, bt_get h] at this
  exact this
theorem ps_and127 {x y : Operand} {t t' : TypeId} {n : Nat} (ho : o.op = .binOp .and t x y t') (hx : opd E x = some (.int .u8 (n : Int))) (hy : opd E y = some (.int .u8 127)) (hn : n < 256) : PStep P E H G o (.int .u8 ((n % 128 : Nat) : Int)) := by
  refine ps_int ho hx hy ?_
  have h : ∀ n : Nat, n < 256 → IntKind.u8.wrap ((BitVec.ofInt IntKind.u8.bits (n : Int) &&& BitVec.ofInt IntKind.u8.bits 127).toNat : Int) = ((n % 128 : Nat) : Int) := by decide +kernel
  simp only [intOp]
  rw [h n hn]
theorem pow7 (i : Nat) : (128 : Nat) ^ i = 2 ^ (7 * i) := by rw [Nat.pow_mul]
theorem ps_shl7 {x y : Operand} {t t' : TypeId} {n i : Nat} {z : Int} {k' : IntKind} (ho : o.op = .binOp .shl t x y t') (hx : opd E x = some (.int .i64 (n : Int))) (hy : opd E y = some (.int k' z)) (hz : z = ((7 * i : Nat) : Int)) (hi : i ≤ 6) (hn : n < 128) : PStep P E H G o (.int .i64 ((n * 128 ^ i : Nat) : Int)) := by
  subst hz
  have h0 := ps_shl (P := P) (E := E) (H := H) (G := G) ho hx hy (by simp only [IntKind.bits]; omega)
  have h1 : n * 128 ^ i ≤ 127 * 128 ^ i := Nat.mul_le_mul_right _ (by omega)
  have h2 := pow_le i (by omega)
  have e : (n : Int) * 2 ^ ((7 * i : Nat) : Int).toNat = ((n * 128 ^ i : Nat) : Int) := by
    rw [Int.toNat_natCast, pow7]; push_cast; rfl
  have h3 : n * 128 ^ i ≤ 127 * 562949953421312 := Nat.le_trans h1 (Nat.mul_le_mul_left _ h2)
  rw [e, IntWalk.i64_in _ (by omega)] at h0
  exact h0
theorem ps_orS {x y : Operand} {t t' : TypeId} {m n i : Nat} (ho : o.op = .binOp .or t x y t') (hx : opd E x = some (.int .i64 (m : Int))) (hy : opd E y = some (.int .i64 ((n * 128 ^ i : Nat) : Int))) (hm : m < 128 ^ i) (hi : i ≤ 6) (hn : n < 128) : PStep P E H G o (.int .i64 ((m + n * 128 ^ i : Nat) : Int)) := by
  refine ps_int ho hx hy ?_
  have h1 : n * 128 ^ i ≤ 127 * 128 ^ i := Nat.mul_le_mul_right _ (by omega)
  have h2 := pow_le i (by omega)
  have h3 : n * 128 ^ i ≤ 127 * 562949953421312 := Nat.le_trans h1 (Nat.mul_le_mul_left _ h2)
  have e : m ||| n * 128 ^ i = m + n * 128 ^ i := by
    have := Nat.two_pow_add_eq_or_of_lt (i := 7 * i) (b := m) (by rw [← pow7]; exact hm) n
    rw [← pow7, Nat.mul_comm] at this
    rw [Nat.or_comm, ← this, Nat.add_comm]
  simp only [intOp]
  congr 2
  show IntKind.i64.wrap ((BitVec.ofInt 64 (m : Int) ||| BitVec.ofInt 64 ((n * 128 ^ i : Nat) : Int)).toNat : Int) = _
  rw [BitVec.toNat_or, ofInt_u64 m (by omega), ofInt_u64 (n * 128 ^ i) (by omega), e, IntWalk.i64_in _ (by omega)]
end
theorem sumL_snoc : ∀ (l : List UInt8) (b : UInt8), sumL (l ++ [b]) = sumL l + b.toNat % 128 * 128 ^ l.length
  | [], b => by simp [sumL]
  | a :: l, b => by
    have ih := sumL_snoc l b
    simp only [List.cons_append, sumL, ih, List.length_cons, Nat.pow_succ, Nat.add_mul, ← Nat.mul_assoc]
    omega
theorem take_snoc {s : ByteArray} {i : Nat} (h : i < s.size) : (bl s).take (i + 1) = (bl s).take i ++ [(bl s).getD i 0] := by
  have h2 : i < (bl s).length := by rw [bl_len]; exact h
  rw [List.take_add_one, List.getElem?_eq_getElem h2, List.getD_eq_getElem?_getD, List.getElem?_eq_getElem h2]; rfl
/-- What is read: the number and how many bytes; both 0 where none is. -/
def rvN (l : List UInt8) : Nat × Nat := (rv l).getD (0, 0)
/-- The state of the reading behind i bytes that are all 128 or more. -/
structure RvI (s : ByteArray) (i : Nat) : Prop where
  le : i ≤ 7
  ls : i ≤ s.size
  eq : rv (bl s) = (rvT (decide (0 < i)) (7 - i) ((bl s).drop i)).map (fun p => (p.1 * 128 ^ i + sumL ((bl s).take i), p.2 + i))
theorem RvI.zero (s : ByteArray) : RvI s 0 := ⟨by omega, by omega, by
  simp only [rv, Nat.lt_irrefl, decide_false, Nat.sub_zero, List.drop_zero, List.take_zero, sumL]
  cases rvT false 7 (bl s) <;> simp⟩
theorem RvI.step {s : ByteArray} {i : Nat} (h : RvI s i) (h7 : i < 7) (hs : i < s.size) (hb : 128 ≤ bt s i) : RvI s (i + 1) := by
  refine ⟨by omega, by omega, ?_⟩
  rw [h.eq, bl_cons hs, show 7 - i = (7 - (i + 1)) + 1 by omega, rvT]
  have hb' : 128 ≤ ((bl s).getD i 0).toNat := hb
  rw [if_pos hb', take_snoc hs, sumL_snoc]
  have hl : ((bl s).take i).length = i := by rw [List.length_take, bl_len]; omega
  rw [hl, show decide (0 < i + 1) = true by simp]
  cases rvT true (7 - (i + 1)) ((bl s).drop (i + 1)) with
  | none => rfl
  | some p =>
    simp only [Option.map_some, Option.some.injEq, Prod.mk.injEq]
    refine ⟨?_, by omega⟩
    rw [Nat.pow_succ, Nat.add_mul, Nat.mul_assoc, Nat.mul_comm 128 (128 ^ i)]
    omega
theorem RvI.none {s : ByteArray} {i : Nat} (h : RvI s i) (hx : i = 7 ∨ i = s.size) : rvN (bl s) = (0, 0) := by
  unfold rvN
  rw [h.eq]
  have : rvT (decide (0 < i)) (7 - i) ((bl s).drop i) = Option.none := by
    rcases hx with rfl | rfl
    · rfl
    · rw [List.drop_of_length_le (by rw [bl_len]; omega)]
      cases 7 - s.size <;> rfl
  rw [this]; rfl
theorem RvI.bad {s : ByteArray} {i : Nat} (h : RvI s i) (h7 : i < 7) (hs : i < s.size) (hb : bt s i = 0) (h0 : 0 < i) : rvN (bl s) = (0, 0) := by
  unfold rvN
  have hb' : ((bl s).getD i 0).toNat = 0 := hb
  rw [h.eq, bl_cons hs, show 7 - i = (7 - (i + 1)) + 1 by omega, rvT, if_neg (by omega), if_pos ⟨by simp [h0], hb'⟩]; rfl
theorem RvI.good {s : ByteArray} {i : Nat} (h : RvI s i) (h7 : i < 7) (hs : i < s.size) (hb : bt s i < 128) (h0 : ¬ (bt s i = 0 ∧ 0 < i)) : rvN (bl s) = (sumL ((bl s).take i) + bt s i * 128 ^ i, i + 1) := by
  unfold rvN
  have hb' : ((bl s).getD i 0).toNat < 128 := hb
  have h0' : ¬ (((bl s).getD i 0).toNat = 0 ∧ 0 < i) := h0
  rw [h.eq, bl_cons hs, show 7 - i = (7 - (i + 1)) + 1 by omega, rvT, if_neg (by omega), if_neg (by simp only [decide_eq_true_eq]; omega)]
  simp only [Option.map_some, Option.getD_some, bt]
  congr 1 <;> omega
theorem sEq_t {a b : ByteArray} (h : sEq a b = true) : a = b := tl_inj (by simpa [sEq] using h)
theorem sEq_f {a b : ByteArray} (h : sEq a b = false) : a ≠ b := fun e => by subst e; simp [sEq] at h
attribute [local irreducible] Calls
theorem str_eq (n k : Nat) (s : ByteArray) : (vS n = s.extract 0 k) ↔ varL n = (bl s).take k := by
  constructor
  · intro h
    have := congrArg bl h
    rw [bl_extract, List.drop_zero] at this
    exact this
  · intro h
    apply bl_ext
    rw [bl_extract, List.drop_zero]
    exact h
theorem sumL_step {s : ByteArray} {j k : Nat} (hj : j < k) (hk : k ≤ s.size) : sumL (((bl s).take k).drop j) = sumL (((bl s).take k).drop (j + 1)) * 128 + bt s j % 128 := by
  have hl : ((bl s).take k).length = k := by rw [List.length_take, bl_len]; omega
  rw [List.drop_eq_getElem_cons (by omega), sumL]
  congr 2
  rw [List.getElem_take]
  unfold bt
  rw [List.getD_eq_getElem?_getD, List.getElem?_eq_getElem (by rw [bl_len]; omega)]; rfl
theorem rvS_no {l : List UInt8} {f k : Nat} (h : l.length < k) : rvS l f k = none := by
  cases f with
  | zero => rfl
  | succ f => unfold rvS; rw [if_neg (by omega)]
end Go.Proofs.Ytojgphgfhapacaa
