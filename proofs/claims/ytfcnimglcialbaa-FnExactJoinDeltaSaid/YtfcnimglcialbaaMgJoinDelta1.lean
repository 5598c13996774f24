/- Texts of this claim, one behind the other: Shs, Rv, Rds, DtP, ApE, Nst, CatStr, Sho, JnP, JoP, SrtE. -/
import Derived.Test.YtfcnimglcialbaaFix
import Derived.Test.YtfcnimglcialbaaCrc
import Derived.Test.YtfcnimglcialbaaTy
import Derived.Test.YtfcnimglcialbaaRvP
import Derived.Test.YtfcnimglcialbaaEng10
import Derived.Test.YtfcnimglcialbaaTab
import Derived.Test.YtfcnimglcialbaaApP
import Derived.Test.YtfcnimglcialbaaBtDelta
import Derived.Test.YtfcnimglcialbaaIns
import Derived.Test.YtfcnimglcialbaaMt
import Derived.Test.YtfcnimglcialbaaFgt0
import Derived.Test.YtfcnimglcialbaaEng13
import Derived.Shelf.Sort.Plain
import Derived.Shelf.Slices.CompactS
import Derived.Ground.Names2Prog
import Derived.Shelf.Slices.SearchI
import Derived.Shelf.Slices.Cells
import Derived.Shelf.Slices.In.SortNone
import Derived.Test.YtfcnimglcialbaaProg
/- ShowSlot of both programs: one plain string. -/
namespace Go.Proofs.Ytfcnimglcialbaa
open Go.RowKit
set_option maxHeartbeats 1000000
set_option linter.unusedVariables false
set_option linter.unusedSimpArgs false
def vS (n : Nat) : ByteArray := ⟨(varL n).toArray⟩
def fS (n : Nat) : ByteArray := ⟨(fixL 4 n).toArray⟩
def pieceS (r : ByteArray) : ByteArray := vS r.size ++ r
def sumS (t : ByteArray) : ByteArray := fS (crcF t) ++ t
theorem vS_size (n : Nat) : (vS n).size ≤ 10 := by
  show (varL n).toArray.size ≤ 10
  have := varF_len 9 n
  simpa [varL] using this
theorem fS_size (n : Nat) : (fS n).size = 4 := by
  show (fixL 4 n).toArray.size = 4
  simp [fixL_len]
theorem crcF_lt (t : ByteArray) : crcF t < 4294967296 := by unfold crcF; omega
theorem pieceS_size (r : ByteArray) : (pieceS r).size ≤ r.size + 10 := by
  have := vS_size r.size
  unfold pieceS; rw [ByteArray.size_append]; omega
theorem xs_Var_v (n : Nat) (hn : n ≤ 562949953421311) (w : World) :
    Calls Try.prog 131 #[.int .i64 n] w fun e w' => e = .returned (.string (vS n)) ∧ Below w.heap.size w w' := (by first | exact sVar_any n hn w | exact iVar_any n hn w)
theorem xi_Var_v (n : Nat) (hn : n ≤ 562949953421311) (w : World) :
    Calls Try.prog 136 #[.int .i64 n] w fun e w' => e = .returned (.string (vS n)) ∧ Below w.heap.size w w' := (by first | exact sVar_any n hn w | exact iVar_any n hn w)
theorem sFix_v (n : Nat) (hn : n < 4294967296) (w : World) :
    Calls Try.prog 146 #[.int .i64 n, .int .i64 4] w fun e w' => e = .returned (.string (fS n)) ∧ Below w.heap.size w w' := sFixed4_any n hn w
theorem iFix_v (n : Nat) (hn : n < 4294967296) (w : World) :
    Calls Try.prog 220 #[.int .i64 n, .int .i64 4] w fun e w' => e = .returned (.string (fS n)) ∧ Below w.heap.size w w' := iFixed4_any n hn w
theorem sPiece_any (s : ByteArray) (hs : s.size ≤ 1048576) (w : World) :
    Calls Try.prog 132 #[.string s] w fun e w' => e = .returned (.string (pieceS s)) ∧ Below w.heap.size w w' := by
  have hz := vS_size s.size
  have hq : ¬ 9223372036854775807 < (vS s.size).size + s.size := by omega
  go_enter Try.func132, Try.ntmps132
  go_wp2_with fail
  refine (xs_Var_v s.size (by omega) _).mono ?_
  rintro e w' ⟨rfl, hb⟩
  go_wp2
  go_ret
  exact ⟨rfl, hb⟩
theorem iPiece_any (s : ByteArray) (hs : s.size ≤ 1048576) (w : World) :
    Calls Try.prog 137 #[.string s] w fun e w' => e = .returned (.string (pieceS s)) ∧ Below w.heap.size w w' := by
  have hz := vS_size s.size
  have hq : ¬ 9223372036854775807 < (vS s.size).size + s.size := by omega
  go_enter Try.func137, Try.ntmps137
  go_wp2_with fail
  refine (xi_Var_v s.size (by omega) _).mono ?_
  rintro e w' ⟨rfl, hb⟩
  go_wp2
  go_ret
  exact ⟨rfl, hb⟩
theorem iSummed_any (s : ByteArray) (hs : s.size ≤ 2097152) (w : World) :
    Calls Try.prog 217 #[.string s] w fun e w' => e = .returned (.string (sumS s)) ∧ Below w.heap.size w w' := by
  have hz := fS_size (crcF s)
  have hq : ¬ 9223372036854775807 < (fS (crcF s)).size + s.size := by omega
  go_enter Try.func217, Try.ntmps217
  go_wp2_with fail
  refine (iCrc_any s (by unfold maxLen; omega) _).mono ?_
  rintro e w' ⟨rfl, rfl⟩
  go_wp2_with fail
  refine (iFix_v _ (crcF_lt s) _).mono ?_
  rintro e w' ⟨rfl, hb⟩
  go_wp2
  go_ret
  exact ⟨rfl, hb⟩
def showS (q : Int) (r : ByteArray) : ByteArray := if inR q 1 1000000 = true ∧ r.size ≤ 40 then sumS (vS q.toNat ++ pieceS r) else ⟨#[]⟩
theorem iShowSlot_any (q : Int) (r : ByteArray) (w : World) (hr : r.size ≤ 1048576) :
    Calls Try.prog 143 #[.agg #[.int .i64 q, .string r]] w fun e w' => e = .returned (.string (showS q r)) ∧ Below w.heap.size w w' := by
  go_enter Try.func143, Try.ntmps143
  by_cases h40 : (r.size : Int) ≤ 40
  · cases hq : inR q 1 1000000
    · go_wp2_with (go_at_call 122; refine (xi_inRange_any _ _ _ _).mono ?_; rintro e w' ⟨rfl, rfl⟩; rw [hq])
      go_ret
      refine ⟨ret_str (by unfold showS; rw [if_neg (by rw [hq]; simp)]), (by repeat' first | (with_reducible assumption) | (with_reducible exact Below.refl _ _) | (with_reducible refine Below.drew ?_) | (with_reducible refine below_drewN ?_ _) | (with_reducible refine Below.alloc ?_ ?_ _) | (with_reducible refine Below.setCell ?_ ?_ _) | (simp; done) | (simp; omega) | omega)⟩
    · have hq' := hq
      unfold inR at hq'
      simp at hq'
      obtain ⟨n, rfl⟩ : ∃ n : Nat, q = n := ⟨q.toNat, by omega⟩
      go_wp2_with (go_at_call 122; refine (xi_inRange_any _ _ _ _).mono ?_; rintro e w' ⟨rfl, rfl⟩; rw [hq])
      have hB : Below w.heap.size w (w.alloc (.cells [.int .i64 (n : Int), .string r].toArray 78)).drew := (by repeat' first | (with_reducible assumption) | (with_reducible exact Below.refl _ _) | (with_reducible refine Below.drew ?_) | (with_reducible refine below_drewN ?_ _) | (with_reducible refine Below.alloc ?_ ?_ _) | (with_reducible refine Below.setCell ?_ ?_ _) | (simp; done) | (simp; omega) | omega)
      have BG : Box (w.alloc (.cells [.int .i64 (n : Int), .string r].toArray 78)).drew w.heap.size 78 [.int .i64 (n : Int), .string r] := Box.new w _ _
      have hz1 := vS_size n
      have hz2 := pieceS_size r
      have hz3 : (vS n ++ pieceS r).size ≤ 2097152 := by rw [ByteArray.size_append]; omega
      have hq1 : ¬ 9223372036854775807 < (vS n).size + (pieceS r).size := by omega
      have q0 := BG.cell 0
      have q1 := BG.cell 1
      have y0 := BG.frozen 0
      have y1 := BG.frozen 1
      simp only [List.getElem?_cons_succ, List.getElem?_cons_zero] at q0 q1
      change Code.wp _ _ _ _ (w.alloc (.cells [.int .i64 (n : Int), .string r].toArray 78))
      generalize hW0 : (w.alloc (.cells [.int .i64 (n : Int), .string r].toArray 78)) = W0 at *
      go_region_with (first
        | (go_at_call 136; refine (xi_Var_v n (by omega) _).mono ?_; rintro e w7 ⟨rfl, hb7⟩; replace BG := BG.ext hb7; replace hB := hB.trans (hb7.mono hB.size); have q0 := BG.cell 0; have q1 := BG.cell 1; have y0 := BG.frozen 0; have y1 := BG.frozen 1; simp only [List.getElem?_cons_succ, List.getElem?_cons_zero] at q0 q1)
        | (go_at_call 137; refine (iPiece_any r (by omega) _).mono ?_; rintro e w7 ⟨rfl, hb7⟩; replace BG := BG.ext hb7; replace hB := hB.trans (hb7.mono hB.size); have q0 := BG.cell 0; have q1 := BG.cell 1; have y0 := BG.frozen 0; have y1 := BG.frozen 1; simp only [List.getElem?_cons_succ, List.getElem?_cons_zero] at q0 q1)
        | (go_at_call 217; refine (iSummed_any _ hz3 _).mono ?_; rintro e w7 ⟨rfl, hb7⟩; replace BG := BG.ext hb7; replace hB := hB.trans (hb7.mono hB.size); have q0 := BG.cell 0; have q1 := BG.cell 1; have y0 := BG.frozen 0; have y1 := BG.frozen 1; simp only [List.getElem?_cons_succ, List.getElem?_cons_zero] at q0 q1))
      all_goals go_wp2
      all_goals go_ret
      all_goals exact ⟨ret_str (by unfold showS; rw [if_pos ⟨hq, by omega⟩, Int.toNat_natCast]), hB⟩
  · have h40i : (40 : Int) < r.size := by omega
    cases hq : inR q 1 1000000
    · go_wp2_with (go_at_call 122; refine (xi_inRange_any _ _ _ _).mono ?_; rintro e w' ⟨rfl, rfl⟩; rw [hq])
      go_ret
      refine ⟨ret_str (by unfold showS; rw [if_neg (by rw [hq]; simp)]), (by repeat' first | (with_reducible assumption) | (with_reducible exact Below.refl _ _) | (with_reducible refine Below.drew ?_) | (with_reducible refine below_drewN ?_ _) | (with_reducible refine Below.alloc ?_ ?_ _) | (with_reducible refine Below.setCell ?_ ?_ _) | (simp; done) | (simp; omega) | omega)⟩
    · go_wp2_with (go_at_call 122; refine (xi_inRange_any _ _ _ _).mono ?_; rintro e w' ⟨rfl, rfl⟩; rw [hq])
      go_ret
      refine ⟨ret_str (by unfold showS; rw [if_neg (by omega)]), (by repeat' first | (with_reducible assumption) | (with_reducible exact Below.refl _ _) | (with_reducible refine Below.drew ?_) | (with_reducible refine below_drewN ?_ _) | (with_reducible refine Below.alloc ?_ ?_ _) | (with_reducible refine Below.setCell ?_ ?_ _) | (simp; done) | (simp; omega) | omega)⟩
theorem sShowSlot_any (q : Int) (r : ByteArray) (w : World) (hr : r.size ≤ 1048576) :
    Calls Try.prog 145 #[.agg #[.int .i64 q, .string r]] w fun e w' => e = .returned (.string (showS q r)) ∧ Below w.heap.size w w' := by
  go_enter Try.func145, Try.ntmps145
  by_cases h40 : (r.size : Int) ≤ 40
  · cases hq : inR q 1 1000000
    · go_wp2_with (go_at_call 104; refine (xs_l1In_any _ _ _ _).mono ?_; rintro e w' ⟨rfl, rfl⟩; rw [hq])
      go_ret
      refine ⟨ret_str (by unfold showS; rw [if_neg (by rw [hq]; simp)]), (by repeat' first | (with_reducible assumption) | (with_reducible exact Below.refl _ _) | (with_reducible refine Below.drew ?_) | (with_reducible refine below_drewN ?_ _) | (with_reducible refine Below.alloc ?_ ?_ _) | (with_reducible refine Below.setCell ?_ ?_ _) | (simp; done) | (simp; omega) | omega)⟩
    · have hq' := hq
      unfold inR at hq'
      simp at hq'
      obtain ⟨n, rfl⟩ : ∃ n : Nat, q = n := ⟨q.toNat, by omega⟩
      go_wp2_with (go_at_call 104; refine (xs_l1In_any _ _ _ _).mono ?_; rintro e w' ⟨rfl, rfl⟩; rw [hq])
      have hB : Below w.heap.size w (w.alloc (.cells [.int .i64 (n : Int), .string r].toArray 78)).drew := (by repeat' first | (with_reducible assumption) | (with_reducible exact Below.refl _ _) | (with_reducible refine Below.drew ?_) | (with_reducible refine below_drewN ?_ _) | (with_reducible refine Below.alloc ?_ ?_ _) | (with_reducible refine Below.setCell ?_ ?_ _) | (simp; done) | (simp; omega) | omega)
      have BG : Box (w.alloc (.cells [.int .i64 (n : Int), .string r].toArray 78)).drew w.heap.size 78 [.int .i64 (n : Int), .string r] := Box.new w _ _
      have hz1 := vS_size n
      have hz2 := pieceS_size r
      have hz3 : (vS n ++ pieceS r).size ≤ 2097152 := by rw [ByteArray.size_append]; omega
      have hz4 := fS_size (crcF (vS n ++ pieceS r))
      have hq2 : ¬ 9223372036854775807 < (fS (crcF (vS n ++ pieceS r))).size + (vS n ++ pieceS r).size := by omega
      have hq3 : ¬ 9223372036854775807 < (fS (crcF (vS n ++ pieceS r))).size + ((vS n).size + (pieceS r).size) := by omega
      have hq1 : ¬ 9223372036854775807 < (vS n).size + (pieceS r).size := by omega
      have q0 := BG.cell 0
      have q1 := BG.cell 1
      have y0 := BG.frozen 0
      have y1 := BG.frozen 1
      simp only [List.getElem?_cons_succ, List.getElem?_cons_zero] at q0 q1
      change Code.wp _ _ _ _ (w.alloc (.cells [.int .i64 (n : Int), .string r].toArray 78))
      generalize hW0 : (w.alloc (.cells [.int .i64 (n : Int), .string r].toArray 78)) = W0 at *
      go_region_with (first
        | (go_at_call 131; refine (xs_Var_v n (by omega) _).mono ?_; rintro e w7 ⟨rfl, hb7⟩; replace BG := BG.ext hb7; replace hB := hB.trans (hb7.mono hB.size); have q0 := BG.cell 0; have q1 := BG.cell 1; have y0 := BG.frozen 0; have y1 := BG.frozen 1; simp only [List.getElem?_cons_succ, List.getElem?_cons_zero] at q0 q1)
        | (go_at_call 132; refine (sPiece_any r (by omega) _).mono ?_; rintro e w7 ⟨rfl, hb7⟩; replace BG := BG.ext hb7; replace hB := hB.trans (hb7.mono hB.size); have q0 := BG.cell 0; have q1 := BG.cell 1; have y0 := BG.frozen 0; have y1 := BG.frozen 1; simp only [List.getElem?_cons_succ, List.getElem?_cons_zero] at q0 q1))
      all_goals go_wp2_with (first
        | (go_at_call 147; refine (sCrc_any _ (by unfold maxLen; omega) _).mono ?_; rintro e w' ⟨rfl, rfl⟩)
        | (go_at_call 146; refine (sFix_v _ (crcF_lt _) _).mono ?_; rintro e w9 ⟨rfl, hb9⟩))
      all_goals go_ret
      all_goals exact ⟨ret_str (by unfold showS sumS; rw [if_pos ⟨hq, by omega⟩, Int.toNat_natCast]), hB.trans (hb9.mono hB.size)⟩
  · have h40i : (40 : Int) < r.size := by omega
    cases hq : inR q 1 1000000
    · go_wp2_with (go_at_call 104; refine (xs_l1In_any _ _ _ _).mono ?_; rintro e w' ⟨rfl, rfl⟩; rw [hq])
      go_ret
      refine ⟨ret_str (by unfold showS; rw [if_neg (by rw [hq]; simp)]), (by repeat' first | (with_reducible assumption) | (with_reducible exact Below.refl _ _) | (with_reducible refine Below.drew ?_) | (with_reducible refine below_drewN ?_ _) | (with_reducible refine Below.alloc ?_ ?_ _) | (with_reducible refine Below.setCell ?_ ?_ _) | (simp; done) | (simp; omega) | omega)⟩
    · go_wp2_with (go_at_call 104; refine (xs_l1In_any _ _ _ _).mono ?_; rintro e w' ⟨rfl, rfl⟩; rw [hq])
      go_ret
      refine ⟨ret_str (by unfold showS; rw [if_neg (by omega)]), (by repeat' first | (with_reducible assumption) | (with_reducible exact Below.refl _ _) | (with_reducible refine Below.drew ?_) | (with_reducible refine below_drewN ?_ _) | (with_reducible refine Below.alloc ?_ ?_ _) | (with_reducible refine Below.setCell ?_ ?_ _) | (simp; done) | (simp; omega) | omega)⟩
end Go.Proofs.Ytfcnimglcialbaa
/- ReadVar of both programs. -/
namespace Go.Proofs.Ytfcnimglcialbaa
open Go.RowKit
set_option maxHeartbeats 4000000
set_option maxRecDepth 20000
set_option linter.unusedVariables false
set_option linter.unusedSimpArgs false
/-- A string's bytes. -/
abbrev bl (s : ByteArray) : List UInt8 := s.data.toList
theorem bl_len (s : ByteArray) : (bl s).length = s.size := Array.length_toList
theorem bl_ext {s t : ByteArray} (h : bl s = bl t) : s = t := by
  cases s; cases t; simp only [bl] at h; congr; exact Array.toList_inj.1 h
theorem bl_mk (l : List UInt8) : bl ⟨l.toArray⟩ = l := rfl
theorem bl_extract (s : ByteArray) (i k : Nat) : bl (s.extract i k) = ((bl s).take k).drop i := by
  simp [bl, ByteArray.data_extract, List.extract_eq_take_drop, List.drop_take]
theorem bl_app (s t : ByteArray) : bl (s ++ t) = bl s ++ bl t := by simp [bl]
def bt (s : ByteArray) (i : Nat) : Nat := ((bl s).getD i 0).toNat
theorem bt_lt (s : ByteArray) (i : Nat) : bt s i < 256 := UInt8.toNat_lt _
theorem bt_get {s : ByteArray} {i : Nat} (h : i < s.size) : s[i]! = (bl s).getD i 0 := by
  rw [getElem!_pos s i h]
  have h2 : i < (bl s).length := by rw [bl_len]; exact h
  rw [List.getD_eq_getElem?_getD, List.getElem?_eq_getElem h2]
  simp [bl]; rfl
theorem bl_cons {s : ByteArray} {i : Nat} (h : i < s.size) : (bl s).drop i = (bl s).getD i 0 :: (bl s).drop (i + 1) := by
  have h2 : i < (bl s).length := by rw [bl_len]; exact h
  rw [List.drop_eq_getElem_cons h2, List.getD_eq_getElem?_getD, List.getElem?_eq_getElem h2]; rfl
section
variable {P : Program} {E : Env} {H : List HObj} {G : List World} {o : Oper}
theorem ps_sidxE {x y : Operand} {t : TypeId} {s : ByteArray} {k : IntKind} {z : Int} (i : Nat) [ht : SS P t] (ho : o.op = .index t x y) (hx : opd E x = some (.string s)) (hy : opd E y = some (.int k z)) (hz : z = (i : Int)) (h : i < s.size) : PStep P E H G o (.int .u8 (bt s i : Int)) := by
  subst hz
  have := ps_sidx (P := P) (E := E) (H := H) (G := G) ho hx hy (by omega)
  rw [Int.toNat_natCast, bt_get h] at this
  exact this
theorem ps_and127 {x y : Operand} {t t' : TypeId} {n : Nat} (ho : o.op = .binOp .and t x y t') (hx : opd E x = some (.int .u8 (n : Int))) (hy : opd E y = some (.int .u8 127)) (hn : n < 256) : PStep P E H G o (.int .u8 ((n % 128 : Nat) : Int)) := by
  refine ps_int ho hx hy ?_
  have h : ∀ n : Nat, n < 256 → IntKind.u8.wrap ((BitVec.ofInt IntKind.u8.bits (n : Int) &&& BitVec.ofInt IntKind.u8.bits 127).toNat : Int) = ((n % 128 : Nat) : Int) := by decide +kernel
  simp only [intOp]
  rw [h n hn]
theorem pow7 (i : Nat) : (128 : Nat) ^ i = 2 ^ (7 * i) := by rw [Nat.pow_mul]
theorem ps_shl7 {x y : Operand} {t t' : TypeId} {n i : Nat} {z : Int} {k' : IntKind} (ho : o.op = .binOp .shl t x y t') (hx : opd E x = some (.int .i64 (n : Int))) (hy : opd E y = some (.int k' z)) (hz : z = ((7 * i : Nat) : Int)) (hi : i ≤ 6) (hn : n < 128) : PStep P E H G o (.int .i64 ((n * 128 ^ i : Nat) : Int)) := by
  subst hz
  have h0 := ps_shl (P := P) (E := E) (H := H) (G := G) ho hx hy (by simp only [IntKind.bits]; omega)
  have h1 : n * 128 ^ i ≤ 127 * 128 ^ i := Nat.mul_le_mul_right _ (by omega)
  have h2 := pow_le i (by omega)
  have e : (n : Int) * 2 ^ ((7 * i : Nat) : Int).toNat = ((n * 128 ^ i : Nat) : Int) := by
    rw [Int.toNat_natCast, pow7]; push_cast; rfl
  have h3 : n * 128 ^ i ≤ 127 * 562949953421312 := Nat.le_trans h1 (Nat.mul_le_mul_left _ h2)
  rw [e, IntWalk.i64_in _ (by omega)] at h0
  exact h0
theorem ps_orS {x y : Operand} {t t' : TypeId} {m n i : Nat} (ho : o.op = .binOp .or t x y t') (hx : opd E x = some (.int .i64 (m : Int))) (hy : opd E y = some (.int .i64 ((n * 128 ^ i : Nat) : Int))) (hm : m < 128 ^ i) (hi : i ≤ 6) (hn : n < 128) : PStep P E H G o (.int .i64 ((m + n * 128 ^ i : Nat) : Int)) := by
  refine ps_int ho hx hy ?_
  have h1 : n * 128 ^ i ≤ 127 * 128 ^ i := Nat.mul_le_mul_right _ (by omega)
  have h2 := pow_le i (by omega)
  have h3 : n * 128 ^ i ≤ 127 * 562949953421312 := Nat.le_trans h1 (Nat.mul_le_mul_left _ h2)
  have e : m ||| n * 128 ^ i = m + n * 128 ^ i := by
    have := Nat.two_pow_add_eq_or_of_lt (i := 7 * i) (b := m) (by rw [← pow7]; exact hm) n
    rw [← pow7, Nat.mul_comm] at this
    rw [Nat.or_comm, ← this, Nat.add_comm]
  simp only [intOp]
  congr 2
  show IntKind.i64.wrap ((BitVec.ofInt 64 (m : Int) ||| BitVec.ofInt 64 ((n * 128 ^ i : Nat) : Int)).toNat : Int) = _
  rw [BitVec.toNat_or, ofInt_u64 m (by omega), ofInt_u64 (n * 128 ^ i) (by omega), e, IntWalk.i64_in _ (by omega)]
end
theorem sumL_snoc : ∀ (l : List UInt8) (b : UInt8), sumL (l ++ [b]) = sumL l + b.toNat % 128 * 128 ^ l.length
  | [], b => by simp [sumL]
  | a :: l, b => by
    have ih := sumL_snoc l b
    simp only [List.cons_append, sumL, ih, List.length_cons, Nat.pow_succ, Nat.add_mul, ← Nat.mul_assoc]
    omega
theorem take_snoc {s : ByteArray} {i : Nat} (h : i < s.size) : (bl s).take (i + 1) = (bl s).take i ++ [(bl s).getD i 0] := by
  have h2 : i < (bl s).length := by rw [bl_len]; exact h
  rw [List.take_add_one, List.getElem?_eq_getElem h2, List.getD_eq_getElem?_getD, List.getElem?_eq_getElem h2]; rfl
/-- What is read: the number and how many bytes; both 0 where none is. -/
def rvN (l : List UInt8) : Nat × Nat := (rv l).getD (0, 0)
/-- The state of the reading behind i bytes that are all 128 or more. -/
structure RvI (s : ByteArray) (i : Nat) : Prop where
  le : i ≤ 7
  ls : i ≤ s.size
  eq : rv (bl s) = (rvT (decide (0 < i)) (7 - i) ((bl s).drop i)).map (fun p => (p.1 * 128 ^ i + sumL ((bl s).take i), p.2 + i))
theorem RvI.zero (s : ByteArray) : RvI s 0 := ⟨by omega, by omega, by
  simp only [rv, Nat.lt_irrefl, decide_false, Nat.sub_zero, List.drop_zero, List.take_zero, sumL]
  cases rvT false 7 (bl s) <;> simp⟩
theorem RvI.step {s : ByteArray} {i : Nat} (h : RvI s i) (h7 : i < 7) (hs : i < s.size) (hb : 128 ≤ bt s i) : RvI s (i + 1) := by
  refine ⟨by omega, by omega, ?_⟩
  rw [h.eq, bl_cons hs, show 7 - i = (7 - (i + 1)) + 1 by omega, rvT]
  have hb' : 128 ≤ ((bl s).getD i 0).toNat := hb
  rw [if_pos hb', take_snoc hs, sumL_snoc]
  have hl : ((bl s).take i).length = i := by rw [List.length_take, bl_len]; omega
  rw [hl, show decide (0 < i + 1) = true by simp]
  cases rvT true (7 - (i + 1)) ((bl s).drop (i + 1)) with
  | none => rfl
  | some p =>
    simp only [Option.map_some, Option.some.injEq, Prod.mk.injEq]
    refine ⟨?_, by omega⟩
    rw [Nat.pow_succ, Nat.add_mul, Nat.mul_assoc, Nat.mul_comm 128 (128 ^ i)]
    omega
theorem RvI.none {s : ByteArray} {i : Nat} (h : RvI s i) (hx : i = 7 ∨ i = s.size) : rvN (bl s) = (0, 0) := by
  unfold rvN
  rw [h.eq]
  have : rvT (decide (0 < i)) (7 - i) ((bl s).drop i) = Option.none := by
    rcases hx with rfl | rfl
    · rfl
    · rw [List.drop_of_length_le (by rw [bl_len]; omega)]
      cases 7 - s.size <;> rfl
  rw [this]; rfl
theorem RvI.bad {s : ByteArray} {i : Nat} (h : RvI s i) (h7 : i < 7) (hs : i < s.size) (hb : bt s i = 0) (h0 : 0 < i) : rvN (bl s) = (0, 0) := by
  unfold rvN
  have hb' : ((bl s).getD i 0).toNat = 0 := hb
  rw [h.eq, bl_cons hs, show 7 - i = (7 - (i + 1)) + 1 by omega, rvT, if_neg (by omega), if_pos ⟨by simp [h0], hb'⟩]; rfl
theorem RvI.good {s : ByteArray} {i : Nat} (h : RvI s i) (h7 : i < 7) (hs : i < s.size) (hb : bt s i < 128) (h0 : ¬ (bt s i = 0 ∧ 0 < i)) : rvN (bl s) = (sumL ((bl s).take i) + bt s i * 128 ^ i, i + 1) := by
  unfold rvN
  have hb' : ((bl s).getD i 0).toNat < 128 := hb
  have h0' : ¬ (((bl s).getD i 0).toNat = 0 ∧ 0 < i) := h0
  rw [h.eq, bl_cons hs, show 7 - i = (7 - (i + 1)) + 1 by omega, rvT, if_neg (by omega), if_neg (by simp only [decide_eq_true_eq]; omega)]
  simp only [Option.map_some, Option.getD_some, bt]
  congr 1 <;> omega
theorem sEq_t {a b : ByteArray} (h : sEq a b = true) : a = b := tl_inj (by simpa [sEq] using h)
theorem sEq_f {a b : ByteArray} (h : sEq a b = false) : a ≠ b := fun e => by subst e; simp [sEq] at h
attribute [local irreducible] Calls
theorem i_ReadVar_c (s : ByteArray) (hs : s.size ≤ 4194304) (w : World) :
    Calls Try.prog 229 #[.string s] w fun e w' => e = .returned (.tuple #[.int .i64 (rvN (bl s)).1, .int .i64 (rvN (bl s)).2]) ∧ Below w.heap.size w w' := by
  refine ok_enter 42 Try.func229 rfl rfl rfl ?_
  repeat' (first
    | refine ok_seq ?_
    | refine ok_then ?_
    | refine ok_block ?_
    | (refine ok_region (i := 0) ?_; refine ok_p rfl rfl rfl (by exact ps_assign rfl rfl) ?_; refine ok_p rfl rfl rfl (by exact ps_assign rfl rfl) ?_; refine ok_nil ?_; refine ok_env [(0, _)] ⟨rfl, trivial⟩ ?_)
    | (refine ok_region (i := 1) ?_; refine ok_p rfl rfl rfl (by exact ps_assign rfl rfl) ?_; refine ok_nil ?_; refine ok_env [(0, _), (4, _)] ⟨rfl, rfl, trivial⟩ ?_)
    | (refine ok_region (i := 2) ?_; refine ok_p rfl rfl rfl (by exact ps_assign rfl rfl) ?_; refine ok_nil ?_; refine ok_env [(0, _), (4, _), (5, _)] ⟨rfl, rfl, rfl, trivial⟩ ?_))
  refine ok_loop (ι := { i : Nat // RvI s i }) (fun i => 7 - i.1) (fun i => ([(0, .string s), (4, .int .i64 (sumL ((bl s).take i.1))), (5, .int .i64 i.1)], _, _)) ⟨0, RvI.zero s⟩ (fun a w he hw => ⟨⟨0, RvI.zero s⟩, he.sub ⟨rfl, rfl, rfl, trivial⟩, hw⟩) ?_
  rintro ⟨i, hi⟩
  simp only
  have l1 := hi.le
  have l2 := hi.ls
  have l3 := bt_lt s i
  have l4 : sumL ((bl s).take i) < 128 ^ i := by
    have := sumL_lt ((bl s).take i)
    rwa [show ((bl s).take i).length = i by rw [List.length_take, bl_len]; omega] at this
  repeat' (first
    | refine ok_seq ?_
    | refine ok_then ?_
    | refine ok_then_ret ?_
    | refine ok_then_exit ?_
    | refine ok_block ?_
    | refine ok_in_ret ?_
    | refine ok_in_exit ?_
    | (refine ok_cond rfl (fun hc => ?_) (fun hc => ?_) <;> (have hd := hc; (try simp only [decide_eq_true_eq, decide_eq_false_iff_not, Bool.or_eq_true, Bool.or_eq_false_iff, Bool.and_eq_true, Bool.and_eq_false_iff, Bool.not_eq_true', Bool.not_eq_false', bne_iff_ne, beq_iff_eq, bne_eq_false_iff_eq, beq_eq_false_iff_ne, ne_eq, Bool.not_true, Bool.not_false, Bool.false_eq_true, Bool.true_eq_false, inB_true, inB_false] at hd)))
    | refine ok_ret ?_
    | refine ok_exit ?_
    | refine ok_skip ?_
    | (refine ok_region (i := 3) ?_; refine ok_p rfl rfl rfl (by exact ps_move rfl rfl) ?_; refine ok_p rfl rfl rfl (by exact ps_int rfl rfl rfl rfl) ?_; refine ok_p rfl rfl rfl (by exact ps_move rfl rfl) ?_; refine ok_pg rfl rfl rfl rfl rfl (gT _) (fun hp => by (have hpd := hp; (try simp only [decide_eq_true_eq, decide_eq_false_iff_not, Bool.or_eq_true, Bool.or_eq_false_iff, Bool.and_eq_true, Bool.and_eq_false_iff, Bool.not_eq_true', Bool.not_eq_false', bne_iff_ne, beq_iff_eq, bne_eq_false_iff_eq, beq_eq_false_iff_ne, ne_eq, Bool.not_true, Bool.not_false, Bool.false_eq_true, Bool.true_eq_false, inB_true, inB_false] at hpd); exact ps_move rfl (by exact rfl))) ?_; refine ok_pg rfl rfl rfl rfl rfl (gT _) (fun hp => by (have hpd := hp; (try simp only [decide_eq_true_eq, decide_eq_false_iff_not, Bool.or_eq_true, Bool.or_eq_false_iff, Bool.and_eq_true, Bool.and_eq_false_iff, Bool.not_eq_true', Bool.not_eq_false', bne_iff_ne, beq_iff_eq, bne_eq_false_iff_eq, beq_eq_false_iff_ne, ne_eq, Bool.not_true, Bool.not_false, Bool.false_eq_true, Bool.true_eq_false, inB_true, inB_false] at hpd); exact ps_move rfl (by exact rfl))) ?_; refine ok_pg rfl rfl rfl rfl rfl (gT _) (fun hp => by (have hpd := hp; (try simp only [decide_eq_true_eq, decide_eq_false_iff_not, Bool.or_eq_true, Bool.or_eq_false_iff, Bool.and_eq_true, Bool.and_eq_false_iff, Bool.not_eq_true', Bool.not_eq_false', bne_iff_ne, beq_iff_eq, bne_eq_false_iff_eq, beq_eq_false_iff_ne, ne_eq, Bool.not_true, Bool.not_false, Bool.false_eq_true, Bool.true_eq_false, inB_true, inB_false] at hpd); exact ps_slen rfl (by (refine og rfl ?_; assumption)))) ?_; refine ok_pg rfl rfl rfl rfl rfl (gT _) (fun hp => by (have hpd := hp; (try simp only [decide_eq_true_eq, decide_eq_false_iff_not, Bool.or_eq_true, Bool.or_eq_false_iff, Bool.and_eq_true, Bool.and_eq_false_iff, Bool.not_eq_true', Bool.not_eq_false', bne_iff_ne, beq_iff_eq, bne_eq_false_iff_eq, beq_eq_false_iff_ne, ne_eq, Bool.not_true, Bool.not_false, Bool.false_eq_true, Bool.true_eq_false, inB_true, inB_false] at hpd); exact ps_int rfl (by (refine og rfl ?_; assumption)) (by (refine og rfl ?_; assumption)) rfl)) ?_; refine ok_p rfl rfl rfl (by exact ps_and rfl rfl rfl) ?_; refine ok_nil ?_; refine ok_env [(0, _), (4, _), (5, _), (13, _)] ⟨rfl, rfl, rfl, rfl, trivial⟩ ?_)
    | (refine ok_region (i := 4) ?_; refine ok_p rfl rfl rfl (by exact ps_move rfl rfl) ?_; refine ok_p rfl rfl rfl (by exact ps_add rfl rfl rfl (by omega)) ?_; refine ok_p rfl rfl rfl (by exact ps_assign rfl rfl) ?_; refine ok_nil ?_; refine ok_env [(0, _), (4, _), (5, _)] ⟨rfl, rfl, rfl, trivial⟩ ?_)
    | (refine ok_region (i := 5) ?_; refine ok_p rfl rfl rfl (by exact ps_move rfl rfl) ?_; refine ok_p rfl rfl rfl (by exact ps_move rfl rfl) ?_; refine ok_p rfl rfl rfl (by exact ps_move rfl rfl) ?_; refine ok_p rfl rfl rfl (by exact ps_sidxE i rfl rfl rfl rfl (by omega)) ?_; refine ok_p rfl rfl rfl (by exact ps_and127 rfl rfl rfl l3) ?_; refine ok_p rfl rfl rfl (by exact ps_conv_id rfl rfl (IntWalk.i64_in _ (by omega))) ?_; refine ok_p rfl rfl rfl (by exact ps_move rfl rfl) ?_; refine ok_p rfl rfl rfl (by exact ps_mul rfl rfl rfl (by omega)) ?_; refine ok_p rfl rfl rfl (by exact ps_conv_id rfl rfl (IntWalk.u64_in _ (by omega))) ?_; refine ok_p rfl rfl rfl (by exact ps_shl7 (i := i) rfl rfl rfl (by push_cast; rfl) (by omega) (by omega)) ?_; refine ok_p rfl rfl rfl (by exact ps_orS rfl rfl rfl l4 (by omega) (by omega)) ?_; refine ok_p rfl rfl rfl (by exact ps_assign rfl rfl) ?_; refine ok_nil ?_; refine ok_env [(0, _), (4, _), (5, _)] ⟨rfl, rfl, rfl, trivial⟩ ?_)
    | (refine ok_region (i := 6) ?_; refine ok_p rfl rfl rfl (by exact ps_move rfl rfl) ?_; refine ok_p rfl rfl rfl (by exact ps_move rfl rfl) ?_; refine ok_p rfl rfl rfl (by exact ps_sidxE i rfl rfl rfl rfl (by omega)) ?_; refine ok_p rfl rfl rfl (by exact ps_int rfl rfl rfl rfl) ?_; refine ok_nil ?_; refine ok_env [(0, _), (4, _), (5, _), (30, _)] ⟨rfl, rfl, rfl, rfl, trivial⟩ ?_)
    | (refine ok_region (i := 7) ?_; refine ok_p rfl rfl rfl (by exact ps_move rfl rfl) ?_; refine ok_p rfl rfl rfl (by exact ps_move rfl rfl) ?_; refine ok_p rfl rfl rfl (by exact ps_sidxE i rfl rfl rfl rfl (by omega)) ?_; refine ok_p rfl rfl rfl (by exact ps_int rfl rfl rfl rfl) ?_; refine ok_p rfl rfl rfl (by exact ps_move rfl rfl) ?_; refine ok_pg rfl rfl rfl rfl rfl (gT _) (fun hp => by (have hpd := hp; (try simp only [decide_eq_true_eq, decide_eq_false_iff_not, Bool.or_eq_true, Bool.or_eq_false_iff, Bool.and_eq_true, Bool.and_eq_false_iff, Bool.not_eq_true', Bool.not_eq_false', bne_iff_ne, beq_iff_eq, bne_eq_false_iff_eq, beq_eq_false_iff_ne, ne_eq, Bool.not_true, Bool.not_false, Bool.false_eq_true, Bool.true_eq_false, inB_true, inB_false] at hpd); exact ps_move rfl (by exact rfl))) ?_; refine ok_pg rfl rfl rfl rfl rfl (gT _) (fun hp => by (have hpd := hp; (try simp only [decide_eq_true_eq, decide_eq_false_iff_not, Bool.or_eq_true, Bool.or_eq_false_iff, Bool.and_eq_true, Bool.and_eq_false_iff, Bool.not_eq_true', Bool.not_eq_false', bne_iff_ne, beq_iff_eq, bne_eq_false_iff_eq, beq_eq_false_iff_ne, ne_eq, Bool.not_true, Bool.not_false, Bool.false_eq_true, Bool.true_eq_false, inB_true, inB_false] at hpd); exact ps_int rfl (by (refine og rfl ?_; assumption)) (by exact rfl) rfl)) ?_; refine ok_p rfl rfl rfl (by exact ps_and rfl rfl rfl) ?_; refine ok_nil ?_; refine ok_env [(4, _), (5, _), (38, _)] ⟨rfl, rfl, rfl, trivial⟩ ?_)
    | (refine ok_region (i := 8) ?_; refine ok_p rfl rfl rfl (by exact ps_assign rfl rfl) ?_; refine ok_p rfl rfl rfl (by exact ps_assign rfl rfl) ?_; refine ok_nil ?_; refine ok_env [(2, _), (3, _)] ⟨rfl, rfl, trivial⟩ ?_)
    | (refine ok_region (i := 9) ?_; refine ok_p rfl rfl rfl (by exact ps_move rfl rfl) ?_; refine ok_p rfl rfl rfl (by exact ps_move rfl rfl) ?_; refine ok_p rfl rfl rfl (by exact ps_add rfl rfl rfl (by omega)) ?_; refine ok_p rfl rfl rfl (by exact ps_assign rfl rfl) ?_; refine ok_p rfl rfl rfl (by exact ps_assign rfl rfl) ?_; refine ok_nil ?_; refine ok_env [(2, _), (3, _)] ⟨rfl, rfl, trivial⟩ ?_)
    | (refine ok_region (i := 10) ?_; refine ok_p rfl rfl rfl (by exact ps_assign rfl rfl) ?_; refine ok_p rfl rfl rfl (by exact ps_assign rfl rfl) ?_; refine ok_nil ?_; refine ok_env [(2, _), (3, _)] ⟨rfl, rfl, trivial⟩ ?_))
  · have st := hi.step (by omega) (by omega) (by omega)
    refine fun a w' he hw => ⟨⟨i + 1, st⟩, by simp only; omega, he.sub ⟨rfl, ?_, rfl, trivial⟩, hw⟩
    have hb : ((bl s).getD i 0).toNat % 128 = bt s i % 128 := rfl
    have hl : ((bl s).take i).length = i := by rw [List.length_take, bl_len]; omega
    simp only [take_snoc (show i < s.size by omega), sumL_snoc, hb, hl]; rfl
  · have e := hi.bad (by omega) (by omega) (by omega) (by omega)
    refine ok_endL (vs := [_, _]) rfl ⟨rfl, rfl, trivial⟩ (fun w' hw => ⟨?_, hw.below⟩)
    rw [e]; rfl
  · have e := hi.good (by omega) (by omega) (by omega) (by omega)
    refine ok_endL (vs := [_, _]) rfl ⟨rfl, rfl, trivial⟩ (fun w' hw => ⟨?_, hw.below⟩)
    rw [e, show bt s i % 128 = bt s i by omega]; rfl
  · have e := hi.none (by omega)
    refine ok_endL (vs := [_, _]) rfl ⟨rfl, rfl, trivial⟩ (fun w' hw => ⟨?_, hw.below⟩)
    rw [e]; rfl
theorem str_eq (n k : Nat) (s : ByteArray) : (vS n = s.extract 0 k) ↔ varL n = (bl s).take k := by
  constructor
  · intro h
    have := congrArg bl h
    rw [bl_extract, List.drop_zero] at this
    exact this
  · intro h
    apply bl_ext
    rw [bl_extract, List.drop_zero]
    exact h
theorem sumL_step {s : ByteArray} {j k : Nat} (hj : j < k) (hk : k ≤ s.size) : sumL (((bl s).take k).drop j) = sumL (((bl s).take k).drop (j + 1)) * 128 + bt s j % 128 := by
  have hl : ((bl s).take k).length = k := by rw [List.length_take, bl_len]; omega
  rw [List.drop_eq_getElem_cons (by omega), sumL]
  congr 2
  rw [List.getElem_take]
  unfold bt
  rw [List.getD_eq_getElem?_getD, List.getElem?_eq_getElem (by rw [bl_len]; omega)]; rfl
theorem rvS_no {l : List UInt8} {f k : Nat} (h : l.length < k) : rvS l f k = none := by
  cases f with
  | zero => rfl
  | succ f => unfold rvS; rw [if_neg (by omega)]
theorem s_ReadVar_c (s : ByteArray) (hs : s.size ≤ 4194304) (w : World) :
    Calls Try.prog 228 #[.string s] w fun e w' => e = .returned (.tuple #[.int .i64 (rvN (bl s)).1, .int .i64 (rvN (bl s)).2]) ∧ Below w.heap.size w w' := by
  have l0 := bl_len s
  refine ok_enter 39 Try.func228 rfl rfl rfl ?_
  repeat' (first
    | refine ok_seq ?_
    | refine ok_then ?_
    | refine ok_block ?_
    | (refine ok_region (i := 0) ?_; refine ok_p rfl rfl rfl (by exact ps_assign rfl rfl) ?_; refine ok_p rfl rfl rfl (by exact ps_assign rfl rfl) ?_; refine ok_nil ?_; refine ok_env [(0, _)] ⟨rfl, trivial⟩ ?_)
    | (refine ok_region (i := 1) ?_; refine ok_p rfl rfl rfl (by exact ps_assign rfl rfl) ?_; refine ok_nil ?_; refine ok_env [(0, _), (4, _)] ⟨rfl, rfl, trivial⟩ ?_))
  refine ok_loop (ι := { k : Nat // 1 ≤ k ∧ k ≤ 8 ∧ rvS (bl s) (8 - k) k = rv (bl s) }) (fun k => 8 - k.1) (fun k => ([(0, .string s), (4, .int .i64 k.1)], _, _)) ⟨1, by omega, by omega, rvS_rv _⟩ (fun a w he hw => ⟨⟨1, by omega, by omega, rvS_rv _⟩, he.sub ⟨rfl, rfl, trivial⟩, hw⟩) ?_
  rintro ⟨k, hk1, hk8, hr⟩
  simp only at hk1 hk8 hr ⊢
  have HR := Lib.hid hr; clear hr
  repeat' (first
    | refine ok_seq ?_
    | refine ok_then ?_
    | refine ok_block ?_
    | (refine ok_cond rfl (fun hc => ?_) (fun hc => ?_) <;> (have hd := hc; (try simp only [decide_eq_true_eq, decide_eq_false_iff_not, Bool.or_eq_true, Bool.or_eq_false_iff, Bool.and_eq_true, Bool.and_eq_false_iff, Bool.not_eq_true', Bool.not_eq_false', bne_iff_ne, beq_iff_eq, bne_eq_false_iff_eq, beq_eq_false_iff_ne, ne_eq, Bool.not_true, Bool.not_false, Bool.false_eq_true, Bool.true_eq_false, inB_true, inB_false] at hd)))
    | refine ok_ret ?_
    | refine ok_exit ?_
    | refine ok_skip ?_
    | (refine ok_region (i := 2) ?_; refine ok_p rfl rfl rfl (by exact ps_move rfl rfl) ?_; refine ok_p rfl rfl rfl (by exact ps_int rfl rfl rfl rfl) ?_; refine ok_p rfl rfl rfl (by exact ps_move rfl rfl) ?_; refine ok_pg rfl rfl rfl rfl rfl (gT _) (fun hp => by (have hpd := hp; (try simp only [decide_eq_true_eq, decide_eq_false_iff_not, Bool.or_eq_true, Bool.or_eq_false_iff, Bool.and_eq_true, Bool.and_eq_false_iff, Bool.not_eq_true', Bool.not_eq_false', bne_iff_ne, beq_iff_eq, bne_eq_false_iff_eq, beq_eq_false_iff_ne, ne_eq, Bool.not_true, Bool.not_false, Bool.false_eq_true, Bool.true_eq_false, inB_true, inB_false] at hpd); exact ps_move rfl (by exact rfl))) ?_; refine ok_pg rfl rfl rfl rfl rfl (gT _) (fun hp => by (have hpd := hp; (try simp only [decide_eq_true_eq, decide_eq_false_iff_not, Bool.or_eq_true, Bool.or_eq_false_iff, Bool.and_eq_true, Bool.and_eq_false_iff, Bool.not_eq_true', Bool.not_eq_false', bne_iff_ne, beq_iff_eq, bne_eq_false_iff_eq, beq_eq_false_iff_ne, ne_eq, Bool.not_true, Bool.not_false, Bool.false_eq_true, Bool.true_eq_false, inB_true, inB_false] at hpd); exact ps_move rfl (by exact rfl))) ?_; refine ok_pg rfl rfl rfl rfl rfl (gT _) (fun hp => by (have hpd := hp; (try simp only [decide_eq_true_eq, decide_eq_false_iff_not, Bool.or_eq_true, Bool.or_eq_false_iff, Bool.and_eq_true, Bool.and_eq_false_iff, Bool.not_eq_true', Bool.not_eq_false', bne_iff_ne, beq_iff_eq, bne_eq_false_iff_eq, beq_eq_false_iff_ne, ne_eq, Bool.not_true, Bool.not_false, Bool.false_eq_true, Bool.true_eq_false, inB_true, inB_false] at hpd); exact ps_slen rfl (by (refine og rfl ?_; assumption)))) ?_; refine ok_pg rfl rfl rfl rfl rfl (gT _) (fun hp => by (have hpd := hp; (try simp only [decide_eq_true_eq, decide_eq_false_iff_not, Bool.or_eq_true, Bool.or_eq_false_iff, Bool.and_eq_true, Bool.and_eq_false_iff, Bool.not_eq_true', Bool.not_eq_false', bne_iff_ne, beq_iff_eq, bne_eq_false_iff_eq, beq_eq_false_iff_ne, ne_eq, Bool.not_true, Bool.not_false, Bool.false_eq_true, Bool.true_eq_false, inB_true, inB_false] at hpd); exact ps_int rfl (by (refine og rfl ?_; assumption)) (by (refine og rfl ?_; assumption)) rfl)) ?_; refine ok_p rfl rfl rfl (by exact ps_and rfl rfl rfl) ?_; refine ok_nil ?_; refine ok_env [(0, _), (4, _), (14, _)] ⟨rfl, rfl, rfl, trivial⟩ ?_)
    | (refine ok_region (i := 4) ?_; refine ok_p rfl rfl rfl (by exact ps_assign rfl rfl) ?_; refine ok_nil ?_; refine ok_env [(0, _), (4, _), (5, _)] ⟨rfl, rfl, rfl, trivial⟩ ?_)
    | (refine ok_region (i := 5) ?_; refine ok_p rfl rfl rfl (by exact ps_move rfl rfl) ?_; refine ok_p rfl rfl rfl (by exact ps_sub rfl rfl rfl (by omega)) ?_; refine ok_p rfl rfl rfl (by exact ps_assign rfl rfl) ?_; refine ok_nil ?_; refine ok_env [(0, _), (4, _), (5, _), (6, _)] ⟨rfl, rfl, rfl, rfl, trivial⟩ ?_)
    | (refine ok_region (i := 11) ?_; refine ok_p rfl rfl rfl (by exact ps_assign rfl rfl) ?_; refine ok_p rfl rfl rfl (by exact ps_assign rfl rfl) ?_; refine ok_nil ?_; refine ok_env [(2, _), (3, _)] ⟨rfl, rfl, trivial⟩ ?_))
  · have hl : ((bl s).take k).length = k := by rw [List.length_take, l0]; omega
    refine ok_loop (ι := { j : Nat // j ≤ k }) (fun j => j.1) (fun j => ([(0, .string s), (4, .int .i64 k), (5, .int .i64 (sumL (((bl s).take k).drop j.1))), (6, .int .i64 ((j.1 : Int) - 1))], _, _)) ⟨k, by omega⟩ (fun a w he hw => ⟨⟨k, by omega⟩, he.sub ⟨rfl, rfl, ?_, rfl, trivial⟩, hw⟩) ?_
    · simp only [show ((bl s).take k).drop k = [] from List.drop_of_length_le (by omega)]; rfl
    rintro ⟨j, hj⟩
    simp only at hj ⊢
    have b1 := bt_lt s (j - 1)
    have b2 := sumL_small (((bl s).take k).drop j) (by rw [List.length_drop]; omega)
    have b3 := sumL_small ((bl s).take k) (by omega)
    repeat' (first
      | refine ok_seq ?_
      | refine ok_then ?_
      | refine ok_block ?_
      | refine ok_in_normal ?_
      | (refine ok_cond rfl (fun hc => ?_) (fun hc => ?_) <;> (have hd := hc; (try simp only [decide_eq_true_eq, decide_eq_false_iff_not, Bool.or_eq_true, Bool.or_eq_false_iff, Bool.and_eq_true, Bool.and_eq_false_iff, Bool.not_eq_true', Bool.not_eq_false', bne_iff_ne, beq_iff_eq, bne_eq_false_iff_eq, beq_eq_false_iff_ne, ne_eq, Bool.not_true, Bool.not_false, Bool.false_eq_true, Bool.true_eq_false, inB_true, inB_false] at hd)))
      | refine ok_exit ?_
      | refine ok_skip ?_
      | (refine ok_region (i := 6) ?_; refine ok_p rfl rfl rfl (by exact ps_move rfl rfl) ?_; refine ok_p rfl rfl rfl (by exact ps_int rfl rfl rfl rfl) ?_; refine ok_nil ?_; refine ok_env [(0, _), (4, _), (5, _), (6, _), (20, _)] ⟨rfl, rfl, rfl, rfl, rfl, trivial⟩ ?_)
      | (refine ok_region (i := 7) ?_; refine ok_p rfl rfl rfl (by exact ps_move rfl rfl) ?_; refine ok_p rfl rfl rfl (by exact ps_sub rfl rfl rfl (by omega)) ?_; refine ok_p rfl rfl rfl (by exact ps_assign rfl rfl) ?_; refine ok_nil ?_; refine ok_env [(0, _), (4, _), (5, _), (6, _)] ⟨rfl, rfl, rfl, rfl, trivial⟩ ?_)
      | (refine ok_region (i := 8) ?_; refine ok_p rfl rfl rfl (by exact ps_move rfl rfl) ?_; refine ok_p rfl rfl rfl (by exact ps_mul rfl rfl rfl (by omega)) ?_; refine ok_p rfl rfl rfl (by exact ps_move rfl rfl) ?_; refine ok_p rfl rfl rfl (by exact ps_move rfl rfl) ?_; refine ok_p rfl rfl rfl (by exact ps_sidxE (j - 1) rfl rfl rfl (by omega) (by omega)) ?_; refine ok_p rfl rfl rfl (by exact ps_conv_id rfl rfl (IntWalk.i64_in _ (by omega))) ?_; refine ok_p rfl rfl rfl (by exact ps_rem rfl rfl rfl (by omega) (by omega)) ?_; refine ok_p rfl rfl rfl (by exact ps_add rfl rfl rfl (by omega)) ?_; refine ok_p rfl rfl rfl (by exact ps_assign rfl rfl) ?_; refine ok_nil ?_; refine ok_env [(0, _), (4, _), (5, _), (6, _)] ⟨rfl, rfl, rfl, rfl, trivial⟩ ?_))
    · have e := sumL_step (s := s) (j := j - 1) (k := k) (by omega) (by omega)
      rw [show j - 1 + 1 = j by omega] at e
      refine fun a w' he hw => ⟨⟨j - 1, by omega⟩, by simp only; omega, he.sub ⟨rfl, rfl, ?_, ?_, trivial⟩, hw⟩
      · simp only [e]; rfl
      · simp only [show (((j - 1 : Nat) : Int)) = (j : Int) - 1 by omega]; rfl
    obtain rfl : j = 0 := by omega
    rw [List.drop_zero]
    repeat' (first
      | refine ok_seq ?_
      | refine ok_then ?_
      | refine ok_then_ret ?_
      | refine ok_in_normal ?_
      | refine ok_in_ret ?_
      | (refine ok_cond rfl (fun hc => ?_) (fun hc => ?_) <;> (have hd := hc; (try simp only [decide_eq_true_eq, decide_eq_false_iff_not, Bool.or_eq_true, Bool.or_eq_false_iff, Bool.and_eq_true, Bool.and_eq_false_iff, Bool.not_eq_true', Bool.not_eq_false', bne_iff_ne, beq_iff_eq, bne_eq_false_iff_eq, beq_eq_false_iff_ne, ne_eq, Bool.not_true, Bool.not_false, Bool.false_eq_true, Bool.true_eq_false, inB_true, inB_false] at hd)))
      | refine ok_ret ?_
      | refine ok_skip ?_
      | (refine ok_region (i := 3) ?_; refine ok_p rfl rfl rfl (by exact ps_move rfl rfl) ?_; refine ok_p rfl rfl rfl (by exact ps_add rfl rfl rfl (by omega)) ?_; refine ok_p rfl rfl rfl (by exact ps_assign rfl rfl) ?_; refine ok_nil ?_; refine ok_env [(0, _), (4, _)] ⟨rfl, rfl, trivial⟩ ?_)
      | (refine ok_draw (id := 9) 6 rfl (by kernel_rfl) (by kernel_rfl) rfl (by repeat (first | exact pq_body | refine pq_then ?_ | refine pq_in ?_)) [0, 1, 2, 3, 4, 5, 6, 7, 8, 9, 10, 11, 12, 13, 14, 15, 16, 17, 18, 19, 20, 21, 22, 23] (by decide) rfl ?_; refine okT_take (i := 0) rfl (by kernel_rfl) rfl rfl rfl (by exact ps_move rfl rfl) ?_; refine okT_take (i := 2) rfl (by kernel_rfl) rfl rfl rfl (by exact ps_move rfl rfl) ?_; refine okT_take (i := 3) rfl (by kernel_rfl) rfl rfl rfl (by exact ps_move rfl rfl) ?_; refine okT_take (i := 4) rfl (by kernel_rfl) rfl rfl rfl (by exact ps_sslice rfl rfl rfl ⟨_, rfl⟩ (by omega) (by omega)) ?_; refine okT_one (i := 1) rfl rfl (by kernel_rfl) rfl rfl rfl (by exact ms_s1 rfl rfl (fun _ _ w hw => xs_Var_v _ (by omega) w)) (fun y w _ h => by exact h) ?_; rintro y32 hy32; refine okT_take (i := 5) rfl (by kernel_rfl) rfl rfl rfl (by exact ps_str rfl rfl rfl rfl) ?_; refine okT_done (by kernel_rfl) ?_; refine ok_nil ?_; refine ok_env [(0, _), (4, _), (5, _), (36, _)] ⟨rfl, rfl, rfl, rfl, trivial⟩ ?_)
      | (refine ok_region (i := 10) ?_; refine ok_p rfl rfl rfl (by exact ps_move rfl rfl) ?_; refine ok_p rfl rfl rfl (by exact ps_move rfl rfl) ?_; refine ok_p rfl rfl rfl (by exact ps_assign rfl rfl) ?_; refine ok_p rfl rfl rfl (by exact ps_assign rfl rfl) ?_; refine ok_nil ?_; refine ok_env [(2, _), (3, _)] ⟨rfl, rfl, trivial⟩ ?_))
    · have hg := (str_eq _ _ _).1 (sEq_t hd)
      have e : rvN (bl s) = (sumL ((bl s).take k), k) := by
        unfold rvN
        rw [← HR.out, show 8 - k = (8 - (k + 1)) + 1 by omega, rvS, if_pos (by omega), if_pos hg]; rfl
      refine ok_endL (vs := [_, _]) rfl ⟨rfl, rfl, trivial⟩ (fun w' hw => ⟨?_, hw.below⟩)
      rw [e]; rfl
    · have hg : ¬ varL (sumL ((bl s).take k)) = (bl s).take k := fun h => by
        have := sEq_f hd
        exact this ((str_eq _ _ _).2 h)
      have e : rvS (bl s) (8 - (k + 1)) (k + 1) = rv (bl s) := by
        rw [← HR.out, show 8 - k = (8 - (k + 1)) + 1 by omega, rvS, if_pos (by omega), if_neg hg]
      exact fun a w' he hw => ⟨⟨k + 1, by omega, by omega, e⟩, by simp only; omega, he.sub ⟨rfl, rfl, trivial⟩, hw⟩
  · have e : rv (bl s) = none := by
      rw [← HR.out]
      rcases Nat.lt_or_ge (bl s).length k with h | h
      · exact rvS_no h
      · have : k = 8 := by omega
        subst this; rfl
    have e2 : rvN (bl s) = (0, 0) := by unfold rvN; rw [e]; rfl
    refine ok_endL (vs := [_, _]) rfl ⟨rfl, rfl, trivial⟩ (fun w' hw => ⟨?_, hw.below⟩)
    rw [e2]; rfl
end Go.Proofs.Ytfcnimglcialbaa
/- The reader of the program, the pieces that the reference takes. -/
namespace Go.Proofs.Ytfcnimglcialbaa
open Go.RowKit
set_option maxHeartbeats 4000000
set_option maxRecDepth 20000
set_option linter.unusedVariables false
set_option linter.unusedSimpArgs false
section
variable {P : Program} {E : Env} {H : List HObj} {G : List World} {o : Oper}
theorem ps_sslE {x : Operand} {lo hi : Option Operand} {t : TypeId} {s : ByteArray} (l h : Nat) [ht : SS P t] (ho : o.op = .slice t x lo hi none) (hx : opd E x = some (.string s))
    (hlo : (match lo with | none => l = 0 | some y => ∃ k z, opd E y = some (.int k z) ∧ z = (l : Int))) (hhi : (match hi with | none => h = s.size | some y => ∃ k z, opd E y = some (.int k z) ∧ z = (h : Int))) (h1 : l ≤ h) (h2 : h ≤ s.size) :
    PStep P E H G o (.string (s.extract l h)) := by
  refine ps_sslice ho hx ?_ ?_ h1 h2
  · cases lo with
    | none => subst hlo; rfl
    | some y => obtain ⟨k, z, a, b⟩ := hlo; subst b; exact ⟨k, a⟩
  · cases hi with
    | none => exact hhi
    | some y => obtain ⟨k, z, a, b⟩ := hhi; subst b; exact ⟨k, a⟩
end
/-- A number that stands at a place, and where it ends; a string with its length ahead. -/
def tkN (s : ByteArray) (k : Nat) : Option (Nat × Nat) := (rv ((bl s).drop k)).map fun p => (p.1, k + p.2)
def tkS (s : ByteArray) (k : Nat) : Option (ByteArray × Nat) := (tkN s k).bind fun p => if p.2 + p.1 ≤ s.size then some (s.extract p.2 (p.2 + p.1), p.2 + p.1) else none
theorem tkN_some {s : ByteArray} {k n e : Nat} (h : tkN s k = some (n, e)) : k < e ∧ e ≤ s.size ∧ e ≤ k + 7 ∧ n < 562949953421312 ∧ (bl s).drop k = varL n ++ (bl s).drop e := by
  unfold tkN at h
  cases hr : rv ((bl s).drop k) with
  | none => rw [hr] at h; cases h
  | some p =>
    obtain ⟨m, z⟩ := p
    rw [hr] at h
    cases h
    obtain ⟨a, b, c, d, f⟩ := rv_some hr
    rw [List.length_drop, bl_len] at c
    refine ⟨by omega, by omega, by omega, d, ?_⟩
    rw [f, ← List.drop_drop]
    exact (List.take_append_drop z _).symm
theorem tkS_some {s r : ByteArray} {k e : Nat} (h : tkS s k = some (r, e)) : k < e ∧ e ≤ s.size ∧ (bl s).drop k = bl (pieceS r) ++ (bl s).drop e := by
  unfold tkS at h
  cases hr : tkN s k with
  | none => rw [hr] at h; cases h
  | some p =>
    obtain ⟨n, q⟩ := p
    rw [hr] at h
    simp only [Option.bind_some] at h
    split at h
    · rename_i hle
      cases h
      obtain ⟨a, b, c, d, f⟩ := tkN_some hr
      have hz : (s.extract q (q + n)).size = n := by rw [ByteArray.size_extract]; omega
      refine ⟨by omega, by omega, ?_⟩
      rw [f]
      unfold pieceS
      rw [bl_app, hz, bl_extract, List.append_assoc]
      have e1 : bl (vS n) = varL n := rfl
      rw [e1]
      congr 1
      rw [← List.drop_drop, List.drop_take, show q + n - q = n by omega]
      exact (List.take_append_drop n _).symm
    · cases h
theorem rvN_tk (s : ByteArray) (k : Nat) (hk : k ≤ s.size) : rvN (bl (s.extract k s.size)) = rvN ((bl s).drop k) := by
  rw [bl_extract, List.take_of_length_le (by rw [bl_len]; omega)]
theorem tkN_z (s : ByteArray) (k : Nat) : tkN s k = if (rvN ((bl s).drop k)).2 = 0 then none else some ((rvN ((bl s).drop k)).1, k + (rvN ((bl s).drop k)).2) := by
  unfold tkN rvN
  cases hr : rv ((bl s).drop k) with
  | none => rfl
  | some p =>
    obtain ⟨m, z⟩ := p
    have := (rv_some hr).1
    simp only [Option.map_some, Option.getD_some]
    rw [if_neg (by omega)]
/-- What the reader does: the place and the flag behind it. -/
def rdN (s : ByteArray) (k : Nat) (bad : Bool) : Nat × Nat × Bool := if bad = true then (0, k, true) else match tkN s k with
  | none => (0, k, true)
  | some (n, e) => (n, e, false)
def rdB (s : ByteArray) (n k : Nat) (bad : Bool) : ByteArray × Nat × Bool := if bad = true ∨ s.size < k + n then (⟨#[]⟩, k, true) else (s.extract k (k + n), k + n, false)
def rdS (s : ByteArray) (k : Nat) (bad : Bool) : ByteArray × Nat × Bool := rdB s (rdN s k bad).1 (rdN s k bad).2.1 (rdN s k bad).2.2
theorem rdN_le (s : ByteArray) (k : Nat) (bad : Bool) (h : k ≤ s.size) : (rdN s k bad).2.1 ≤ s.size ∧ (rdN s k bad).1 < 562949953421312 := by
  unfold rdN
  split
  · exact ⟨h, by omega⟩
  · split
    · exact ⟨h, by omega⟩
    · rename_i n e hn
      have := tkN_some hn
      exact ⟨this.2.1, this.2.2.2.1⟩
theorem rdB_le (s : ByteArray) (n k : Nat) (bad : Bool) (h : k ≤ s.size) : (rdB s n k bad).2.1 ≤ s.size := by
  unfold rdB
  split
  · exact h
  · simp only; omega
theorem rdS_le (s : ByteArray) (k : Nat) (bad : Bool) (h : k ≤ s.size) : (rdS s k bad).2.1 ≤ s.size := rdB_le _ _ _ _ (rdN_le s k bad h).1
theorem rdS_tk (s : ByteArray) (k : Nat) : (rdS s k false).2.2 = (tkS s k).isNone ∧ ∀ r e, tkS s k = some (r, e) → rdS s k false = (r, e, false) := by
  unfold rdS rdN tkS
  cases h : tkN s k with
  | none => simp [rdB]
  | some p =>
    obtain ⟨n, e⟩ := p
    simp only [Option.bind_some, if_neg (show ¬ (false = true) by simp)]
    unfold rdB
    by_cases hle : e + n ≤ s.size
    · rw [if_pos hle, if_neg (by simp; omega)]
      simp
    · rw [if_neg hle, if_pos (by right; omega)]
      simp
theorem rdS_bad (s : ByteArray) (k : Nat) : (rdS s k true).2.2 = true := by simp [rdS, rdN, rdB]
attribute [local irreducible] Calls
abbrev rdr (g : Nat) (s : ByteArray) (k : Nat) (bad : Bool) : HObj := .box g 126 [.string s, .int .i64 k, .bool bad]
theorem rdB_c (g : Nat) (s : ByteArray) (n k : Nat) (bad : Bool) (hs : s.size ≤ 4194304) (hk : k ≤ s.size) (hn : n < 562949953421312) {base : Nat} {w0 w : World} {H : List HObj} {G : List World} (hw : WOk base w0 (rdr g s k bad :: H) G w) :
    Calls Try.prog 96 #[pt (ga g) 0, .int .i64 n] w fun e w' => ∃ y : Ys, e = .returned (.string (rdB s n k bad).1) ∧ True ∧ WOk base w0 (rdr g s (rdB s n k bad).2.1 (rdB s n k bad).2.2 :: H) G w' := by
  refine ok_enterW 49 Try.func96 rfl rfl rfl hw ?_
  repeat' (first
    | refine ok_seq ?_
    | refine ok_then ?_
    | refine ok_then_ret ?_
    | (refine ok_cond rfl (fun hc => ?_) (fun hc => ?_) <;> (have hd := hc; (try simp only [decide_eq_true_eq, decide_eq_false_iff_not, Bool.or_eq_true, Bool.or_eq_false_iff, Bool.and_eq_true, Bool.and_eq_false_iff, Bool.not_eq_true', Bool.not_eq_false', bne_iff_ne, beq_iff_eq, bne_eq_false_iff_eq, beq_eq_false_iff_ne, ne_eq, Bool.not_true, Bool.not_false, Bool.false_eq_true, Bool.true_eq_false, inB_true, inB_false] at hd)))
    | refine ok_ret ?_
    | refine ok_skip ?_
    | (refine ok_region (i := 0) ?_; refine ok_p rfl rfl rfl (by exact ps_assign rfl rfl) ?_; refine ok_nil ?_; refine ok_env [(0, _), (1, _)] ⟨rfl, rfl, trivial⟩ ?_)
    | (refine ok_draw (id := 1) 18 rfl (by kernel_rfl) (by kernel_rfl) rfl (by repeat (first | exact pq_body | refine pq_then ?_ | refine pq_in ?_)) [0, 1, 2, 3, 4, 5, 6, 7, 8, 9, 10, 11, 12, 13, 14, 15, 16, 17, 18, 19, 20, 21, 22, 23] (by decide) rfl ?_; refine okT_take (i := 0) rfl (by kernel_rfl) rfl rfl rfl (by exact ps_move rfl rfl) ?_; refine okT_take (i := 1) rfl (by kernel_rfl) rfl rfl rfl (by exact ps_nil rfl rfl (by exact isw_ga _)) ?_; refine okT_take (i := 2) rfl (by kernel_rfl) rfl rfl rfl (by exact ps_field rfl rfl (by exact isw_ga _)) ?_; refine okT_take (i := 3) rfl (by kernel_rfl) rfl rfl rfl (by exact ps_load rfl rfl (by exact Rds.cell (rds_box 0 rfl) rfl)) ?_; refine okT_take (i := 4) rfl (by kernel_rfl) rfl rfl rfl (by exact ps_move rfl rfl) ?_; refine okT_take_g1 (i := 5) rfl (by kernel_rfl) rfl rfl rfl rfl rfl (gF _) (fun hp => by (have hpd := hp; (try simp only [decide_eq_true_eq, decide_eq_false_iff_not, Bool.or_eq_true, Bool.or_eq_false_iff, Bool.and_eq_true, Bool.and_eq_false_iff, Bool.not_eq_true', Bool.not_eq_false', bne_iff_ne, beq_iff_eq, bne_eq_false_iff_eq, beq_eq_false_iff_ne, ne_eq, Bool.not_true, Bool.not_false, Bool.false_eq_true, Bool.true_eq_false, inB_true, inB_false] at hpd); exact ps_move rfl (by exact rfl))) ?_; refine okT_take_g1 (i := 6) rfl (by kernel_rfl) rfl rfl rfl rfl rfl (gF _) (fun hp => by (have hpd := hp; (try simp only [decide_eq_true_eq, decide_eq_false_iff_not, Bool.or_eq_true, Bool.or_eq_false_iff, Bool.and_eq_true, Bool.and_eq_false_iff, Bool.not_eq_true', Bool.not_eq_false', bne_iff_ne, beq_iff_eq, bne_eq_false_iff_eq, beq_eq_false_iff_ne, ne_eq, Bool.not_true, Bool.not_false, Bool.false_eq_true, Bool.true_eq_false, inB_true, inB_false] at hpd); exact ps_move rfl (by exact rfl))) ?_; refine okT_take_g1 (i := 7) rfl (by kernel_rfl) rfl rfl rfl rfl rfl (gF _) (fun hp => by (have hpd := hp; (try simp only [decide_eq_true_eq, decide_eq_false_iff_not, Bool.or_eq_true, Bool.or_eq_false_iff, Bool.and_eq_true, Bool.and_eq_false_iff, Bool.not_eq_true', Bool.not_eq_false', bne_iff_ne, beq_iff_eq, bne_eq_false_iff_eq, beq_eq_false_iff_ne, ne_eq, Bool.not_true, Bool.not_false, Bool.false_eq_true, Bool.true_eq_false, inB_true, inB_false] at hpd); exact ps_nil rfl (by (refine og rfl ?_; assumption)) (by exact isw_ga _))) ?_; refine okT_take_g1 (i := 8) rfl (by kernel_rfl) rfl rfl rfl rfl rfl (gF _) (fun hp => by (have hpd := hp; (try simp only [decide_eq_true_eq, decide_eq_false_iff_not, Bool.or_eq_true, Bool.or_eq_false_iff, Bool.and_eq_true, Bool.and_eq_false_iff, Bool.not_eq_true', Bool.not_eq_false', bne_iff_ne, beq_iff_eq, bne_eq_false_iff_eq, beq_eq_false_iff_ne, ne_eq, Bool.not_true, Bool.not_false, Bool.false_eq_true, Bool.true_eq_false, inB_true, inB_false] at hpd); exact ps_field rfl (by (refine og rfl ?_; assumption)) (by exact isw_ga _))) ?_; refine okT_take_g1 (i := 9) rfl (by kernel_rfl) rfl rfl rfl rfl rfl (gF _) (fun hp => by (have hpd := hp; (try simp only [decide_eq_true_eq, decide_eq_false_iff_not, Bool.or_eq_true, Bool.or_eq_false_iff, Bool.and_eq_true, Bool.and_eq_false_iff, Bool.not_eq_true', Bool.not_eq_false', bne_iff_ne, beq_iff_eq, bne_eq_false_iff_eq, beq_eq_false_iff_ne, ne_eq, Bool.not_true, Bool.not_false, Bool.false_eq_true, Bool.true_eq_false, inB_true, inB_false] at hpd); exact ps_load rfl (by (refine og rfl ?_; assumption)) (by exact Rds.cell (rds_box 0 rfl) rfl))) ?_; refine okT_take_g1 (i := 10) rfl (by kernel_rfl) rfl rfl rfl rfl rfl (gF _) (fun hp => by (have hpd := hp; (try simp only [decide_eq_true_eq, decide_eq_false_iff_not, Bool.or_eq_true, Bool.or_eq_false_iff, Bool.and_eq_true, Bool.and_eq_false_iff, Bool.not_eq_true', Bool.not_eq_false', bne_iff_ne, beq_iff_eq, bne_eq_false_iff_eq, beq_eq_false_iff_ne, ne_eq, Bool.not_true, Bool.not_false, Bool.false_eq_true, Bool.true_eq_false, inB_true, inB_false] at hpd); exact ps_slen rfl (by (refine og rfl ?_; assumption)))) ?_; refine okT_take_g1 (i := 11) rfl (by kernel_rfl) rfl rfl rfl rfl rfl (gF _) (fun hp => by (have hpd := hp; (try simp only [decide_eq_true_eq, decide_eq_false_iff_not, Bool.or_eq_true, Bool.or_eq_false_iff, Bool.and_eq_true, Bool.and_eq_false_iff, Bool.not_eq_true', Bool.not_eq_false', bne_iff_ne, beq_iff_eq, bne_eq_false_iff_eq, beq_eq_false_iff_ne, ne_eq, Bool.not_true, Bool.not_false, Bool.false_eq_true, Bool.true_eq_false, inB_true, inB_false] at hpd); exact ps_move rfl (by exact rfl))) ?_; refine okT_take_g1 (i := 12) rfl (by kernel_rfl) rfl rfl rfl rfl rfl (gF _) (fun hp => by (have hpd := hp; (try simp only [decide_eq_true_eq, decide_eq_false_iff_not, Bool.or_eq_true, Bool.or_eq_false_iff, Bool.and_eq_true, Bool.and_eq_false_iff, Bool.not_eq_true', Bool.not_eq_false', bne_iff_ne, beq_iff_eq, bne_eq_false_iff_eq, beq_eq_false_iff_ne, ne_eq, Bool.not_true, Bool.not_false, Bool.false_eq_true, Bool.true_eq_false, inB_true, inB_false] at hpd); exact ps_nil rfl (by (refine og rfl ?_; assumption)) (by exact isw_ga _))) ?_; refine okT_take_g1 (i := 13) rfl (by kernel_rfl) rfl rfl rfl rfl rfl (gF _) (fun hp => by (have hpd := hp; (try simp only [decide_eq_true_eq, decide_eq_false_iff_not, Bool.or_eq_true, Bool.or_eq_false_iff, Bool.and_eq_true, Bool.and_eq_false_iff, Bool.not_eq_true', Bool.not_eq_false', bne_iff_ne, beq_iff_eq, bne_eq_false_iff_eq, beq_eq_false_iff_ne, ne_eq, Bool.not_true, Bool.not_false, Bool.false_eq_true, Bool.true_eq_false, inB_true, inB_false] at hpd); exact ps_field rfl (by (refine og rfl ?_; assumption)) (by exact isw_ga _))) ?_; refine okT_take_g1 (i := 14) rfl (by kernel_rfl) rfl rfl rfl rfl rfl (gF _) (fun hp => by (have hpd := hp; (try simp only [decide_eq_true_eq, decide_eq_false_iff_not, Bool.or_eq_true, Bool.or_eq_false_iff, Bool.and_eq_true, Bool.and_eq_false_iff, Bool.not_eq_true', Bool.not_eq_false', bne_iff_ne, beq_iff_eq, bne_eq_false_iff_eq, beq_eq_false_iff_ne, ne_eq, Bool.not_true, Bool.not_false, Bool.false_eq_true, Bool.true_eq_false, inB_true, inB_false] at hpd); exact ps_load rfl (by (refine og rfl ?_; assumption)) (by exact Rds.cell (rds_box 0 rfl) rfl))) ?_; refine okT_take_g1 (i := 15) rfl (by kernel_rfl) rfl rfl rfl rfl rfl (gF _) (fun hp => by (have hpd := hp; (try simp only [decide_eq_true_eq, decide_eq_false_iff_not, Bool.or_eq_true, Bool.or_eq_false_iff, Bool.and_eq_true, Bool.and_eq_false_iff, Bool.not_eq_true', Bool.not_eq_false', bne_iff_ne, beq_iff_eq, bne_eq_false_iff_eq, beq_eq_false_iff_ne, ne_eq, Bool.not_true, Bool.not_false, Bool.false_eq_true, Bool.true_eq_false, inB_true, inB_false] at hpd); exact ps_sub rfl (by (refine og rfl ?_; assumption)) (by (refine og rfl ?_; assumption)) (by omega))) ?_; refine okT_take_g1 (i := 16) rfl (by kernel_rfl) rfl rfl rfl rfl rfl (gF _) (fun hp => by (have hpd := hp; (try simp only [decide_eq_true_eq, decide_eq_false_iff_not, Bool.or_eq_true, Bool.or_eq_false_iff, Bool.and_eq_true, Bool.and_eq_false_iff, Bool.not_eq_true', Bool.not_eq_false', bne_iff_ne, beq_iff_eq, bne_eq_false_iff_eq, beq_eq_false_iff_ne, ne_eq, Bool.not_true, Bool.not_false, Bool.false_eq_true, Bool.true_eq_false, inB_true, inB_false] at hpd); exact ps_int rfl (by (refine og rfl ?_; assumption)) (by (refine og rfl ?_; assumption)) rfl)) ?_; refine okT_take (i := 17) rfl (by kernel_rfl) rfl rfl rfl (by exact ps_or rfl rfl rfl) ?_; refine okT_done (by kernel_rfl) ?_; refine ok_nil ?_; refine ok_env [(0, _), (1, _), (22, _)] ⟨rfl, rfl, rfl, trivial⟩ ?_)
    | (refine ok_region (i := 2) ?_; refine ok_p rfl rfl rfl (by exact ps_move rfl rfl) ?_; refine ok_p rfl rfl rfl (by exact ps_nil rfl rfl (by exact isw_ga _)) ?_; refine ok_p rfl rfl rfl (by exact ps_field rfl rfl (by exact isw_ga _)) ?_; refine ok_m_ rfl rfl (by exact ms_store 0 rfl rfl rfl rfl rfl rfl rfl rfl) ?_; rintro y_ hy_; refine ok_nil ?_; refine ok_env [] trivial ?_)
    | (refine ok_region (i := 3) ?_; refine ok_p rfl rfl rfl (by exact ps_assign rfl rfl) ?_; refine ok_nil ?_; refine ok_env [(4, _)] ⟨rfl, trivial⟩ ?_)
    | (refine ok_region (i := 4) ?_; refine ok_p rfl rfl rfl (by exact ps_move rfl rfl) ?_; refine ok_p rfl rfl rfl (by exact ps_nil rfl rfl (by exact isw_ga _)) ?_; refine ok_p rfl rfl rfl (by exact ps_field rfl rfl (by exact isw_ga _)) ?_; refine ok_p rfl rfl rfl (by exact ps_load rfl rfl (by exact Rds.cell (rds_box 0 rfl) rfl)) ?_; refine ok_p rfl rfl rfl (by exact ps_move rfl rfl) ?_; refine ok_p rfl rfl rfl (by exact ps_add rfl rfl rfl (by omega)) ?_; refine ok_p rfl rfl rfl (by exact ps_nil rfl rfl (by exact isw_ga _)) ?_; refine ok_p rfl rfl rfl (by exact ps_field rfl rfl (by exact isw_ga _)) ?_; refine ok_m_ rfl rfl (by exact ms_store 0 rfl rfl rfl rfl rfl rfl rfl rfl) ?_; rintro y_ hy_; refine ok_nil ?_; refine ok_env [(0, _), (1, _)] ⟨rfl, rfl, trivial⟩ ?_)
    | (refine ok_draw (id := 5) 16 rfl (by kernel_rfl) (by kernel_rfl) rfl (by repeat (first | exact pq_body | refine pq_then ?_ | refine pq_in ?_)) [0, 1, 2, 3, 4, 5, 6, 7, 8, 9, 10, 11, 12, 13, 14, 15, 16, 17, 18, 19, 20, 21, 22, 23] (by decide) rfl ?_; refine okT_take (i := 0) rfl (by kernel_rfl) rfl rfl rfl (by exact ps_move rfl rfl) ?_; refine okT_take (i := 1) rfl (by kernel_rfl) rfl rfl rfl (by exact ps_nil rfl rfl (by exact isw_ga _)) ?_; refine okT_take (i := 2) rfl (by kernel_rfl) rfl rfl rfl (by exact ps_field rfl rfl (by exact isw_ga _)) ?_; refine okT_take (i := 3) rfl (by kernel_rfl) rfl rfl rfl (by exact ps_load rfl rfl (by exact Rds.cell (rds_box 0 rfl) rfl)) ?_; refine okT_take (i := 4) rfl (by kernel_rfl) rfl rfl rfl (by exact ps_move rfl rfl) ?_; refine okT_take (i := 5) rfl (by kernel_rfl) rfl rfl rfl (by exact ps_nil rfl rfl (by exact isw_ga _)) ?_; refine okT_take (i := 6) rfl (by kernel_rfl) rfl rfl rfl (by exact ps_field rfl rfl (by exact isw_ga _)) ?_; refine okT_take (i := 7) rfl (by kernel_rfl) rfl rfl rfl (by exact ps_load rfl rfl (by exact Rds.cell (rds_box 0 rfl) rfl)) ?_; refine okT_take (i := 8) rfl (by kernel_rfl) rfl rfl rfl (by exact ps_move rfl rfl) ?_; refine okT_take (i := 9) rfl (by kernel_rfl) rfl rfl rfl (by exact ps_sub rfl rfl rfl (by omega)) ?_; refine okT_take (i := 10) rfl (by kernel_rfl) rfl rfl rfl (by exact ps_move rfl rfl) ?_; refine okT_take (i := 11) rfl (by kernel_rfl) rfl rfl rfl (by exact ps_nil rfl rfl (by exact isw_ga _)) ?_; refine okT_take (i := 12) rfl (by kernel_rfl) rfl rfl rfl (by exact ps_field rfl rfl (by exact isw_ga _)) ?_; refine okT_take (i := 13) rfl (by kernel_rfl) rfl rfl rfl (by exact ps_load rfl rfl (by exact Rds.cell (rds_box 0 rfl) rfl)) ?_; refine okT_take (i := 14) rfl (by kernel_rfl) rfl rfl rfl (by exact ps_sslE k (k + n) rfl rfl ⟨_, _, rfl, by omega⟩ ⟨_, _, rfl, by omega⟩ (by omega) (by omega)) ?_; refine okT_take (i := 15) rfl (by kernel_rfl) rfl rfl rfl (by exact ps_assign rfl rfl) ?_; refine okT_done (by kernel_rfl) ?_; refine ok_nil ?_; refine ok_env [(4, _)] ⟨rfl, trivial⟩ ?_))
  · have e : rdB s n k bad = (⟨#[]⟩, k, true) := by
      unfold rdB; rw [if_pos (by rcases hd with h | h; exact .inl h; exact .inr (by omega))]
    rw [e]
    exact ok_endL (vs := [_]) rfl ⟨rfl, trivial⟩ (fun w' hw => ⟨mkY none 0 w, rfl, trivial, hw⟩)
  · have e : rdB s n k bad = (s.extract k (k + n), k + n, false) := by
      unfold rdB; rw [if_neg (by rintro (h | h); rw [hd.1] at h; cases h; omega)]
    obtain rfl : bad = false := hd.1
    rw [e]
    exact ok_endL (vs := [_]) rfl ⟨rfl, trivial⟩ (fun w' hw => ⟨mkY none 0 w, rfl, trivial, hw⟩)
theorem rdN_c (g : Nat) (s : ByteArray) (k : Nat) (bad : Bool) (hs : s.size ≤ 4194304) (hk : k ≤ s.size) {base : Nat} {w0 w : World} {H : List HObj} {G : List World} (hw : WOk base w0 (rdr g s k bad :: H) G w) :
    Calls Try.prog 164 #[pt (ga g) 0] w fun e w' => ∃ y : Ys, e = .returned (.int .i64 (rdN s k bad).1) ∧ True ∧ WOk base w0 (rdr g s (rdN s k bad).2.1 (rdN s k bad).2.2 :: H) G w' := by
  have q := rvN_tk s k hk
  have z := tkN_z s k
  have qb : k + (rvN ((bl s).drop k)).2 ≤ s.size ∧ (rvN ((bl s).drop k)).2 ≤ 7 := by
    by_cases h0 : (rvN ((bl s).drop k)).2 = 0
    · omega
    · rw [if_neg h0] at z
      have := tkN_some z
      omega
  refine ok_enterW 36 Try.func164 rfl rfl rfl hw ?_
  repeat' (first
    | refine ok_seq ?_
    | refine ok_then ?_
    | refine ok_then_ret ?_
    | (refine ok_cond rfl (fun hc => ?_) (fun hc => ?_) <;> (have hd := hc; (try simp only [decide_eq_true_eq, decide_eq_false_iff_not, Bool.or_eq_true, Bool.or_eq_false_iff, Bool.and_eq_true, Bool.and_eq_false_iff, Bool.not_eq_true', Bool.not_eq_false', bne_iff_ne, beq_iff_eq, bne_eq_false_iff_eq, beq_eq_false_iff_ne, ne_eq, Bool.not_true, Bool.not_false, Bool.false_eq_true, Bool.true_eq_false, inB_true, inB_false] at hd)))
    | refine ok_ret ?_
    | refine ok_skip ?_
    | (refine ok_region (i := 0) ?_; refine ok_p rfl rfl rfl (by exact ps_assign rfl rfl) ?_; refine ok_nil ?_; refine ok_env [(0, _)] ⟨rfl, trivial⟩ ?_)
    | (refine ok_region (i := 1) ?_; refine ok_p rfl rfl rfl (by exact ps_move rfl rfl) ?_; refine ok_p rfl rfl rfl (by exact ps_nil rfl rfl (by exact isw_ga _)) ?_; refine ok_p rfl rfl rfl (by exact ps_field rfl rfl (by exact isw_ga _)) ?_; refine ok_p rfl rfl rfl (by exact ps_load rfl rfl (by exact Rds.cell (rds_box 0 rfl) rfl)) ?_; refine ok_nil ?_; refine ok_env [(0, _), (8, _)] ⟨rfl, rfl, trivial⟩ ?_)
    | (refine ok_region (i := 2) ?_; refine ok_p rfl rfl rfl (by exact ps_assign rfl rfl) ?_; refine ok_nil ?_; refine ok_env [(2, _)] ⟨rfl, trivial⟩ ?_))
  · have e : rdN s k bad = (0, k, true) := by unfold rdN; rw [if_pos hd]
    rw [e]
    subst hd
    exact ok_endL (vs := [_]) rfl ⟨rfl, trivial⟩ (fun w' hw => ⟨mkY none 0 w, rfl, trivial, hw⟩)
  subst hd
  repeat' (first
    | refine ok_seq ?_
    | refine ok_then ?_
    | refine ok_then_ret ?_
    | (refine ok_cond rfl (fun hc => ?_) (fun hc => ?_) <;> (have hd := hc; (try simp only [decide_eq_true_eq, decide_eq_false_iff_not, Bool.or_eq_true, Bool.or_eq_false_iff, Bool.and_eq_true, Bool.and_eq_false_iff, Bool.not_eq_true', Bool.not_eq_false', bne_iff_ne, beq_iff_eq, bne_eq_false_iff_eq, beq_eq_false_iff_ne, ne_eq, Bool.not_true, Bool.not_false, Bool.false_eq_true, Bool.true_eq_false, inB_true, inB_false] at hd)))
    | refine ok_ret ?_
    | refine ok_skip ?_
    | (refine ok_draw (id := 3) 15 rfl (by kernel_rfl) (by kernel_rfl) rfl (by repeat (first | exact pq_body | refine pq_then ?_ | refine pq_in ?_)) [0] (by decide) rfl ?_; refine okT_take (i := 0) rfl (by kernel_rfl) rfl rfl rfl (by exact ps_move rfl rfl) ?_; refine okT_take (i := 1) rfl (by kernel_rfl) rfl rfl rfl (by exact ps_nil rfl rfl (by exact isw_ga _)) ?_; refine okT_take (i := 2) rfl (by kernel_rfl) rfl rfl rfl (by exact ps_field rfl rfl (by exact isw_ga _)) ?_; refine okT_take (i := 3) rfl (by kernel_rfl) rfl rfl rfl (by exact ps_load rfl rfl (by exact Rds.cell (rds_box 0 rfl) rfl)) ?_; refine okT_take (i := 4) rfl (by kernel_rfl) rfl rfl rfl (by exact ps_move rfl rfl) ?_; refine okT_take (i := 5) rfl (by kernel_rfl) rfl rfl rfl (by exact ps_nil rfl rfl (by exact isw_ga _)) ?_; refine okT_take (i := 6) rfl (by kernel_rfl) rfl rfl rfl (by exact ps_field rfl rfl (by exact isw_ga _)) ?_; refine okT_take (i := 7) rfl (by kernel_rfl) rfl rfl rfl (by exact ps_load rfl rfl (by exact Rds.cell (rds_box 0 rfl) rfl)) ?_; refine okT_take (i := 8) rfl (by kernel_rfl) rfl rfl rfl (by exact ps_sslE k s.size rfl rfl ⟨_, _, rfl, rfl⟩ rfl hk (by omega)) ?_; refine okT_one (i := 9) rfl rfl (by kernel_rfl) rfl rfl rfl (by exact ms_s1 rfl rfl (fun _ _ w hw => by have := i_ReadVar_c (s.extract k s.size) (by rw [ByteArray.size_extract]; omega) w; rw [q] at this; exact this)) (fun y w _ h => by exact h.sel [0] (by decide) rfl (fun _ h => h)) ?_; rintro y19 hy19; refine okT_take (i := 10) rfl (by kernel_rfl) rfl rfl rfl (by exact ps_move rfl rfl) ?_; refine okT_take (i := 11) rfl (by kernel_rfl) rfl rfl rfl (by exact ps_extract rfl rfl rfl) ?_; refine okT_take (i := 12) rfl (by kernel_rfl) rfl rfl rfl (by exact ps_extract rfl rfl rfl) ?_; refine okT_take (i := 13) rfl (by kernel_rfl) rfl rfl rfl (by exact ps_assign rfl rfl) ?_; refine okT_take (i := 14) rfl (by kernel_rfl) rfl rfl rfl (by exact ps_assign rfl rfl) ?_; refine okT_done (by kernel_rfl) ?_; refine ok_nil ?_; refine ok_env [(0, _), (3, _), (4, _)] ⟨rfl, rfl, rfl, trivial⟩ ?_)
    | (refine ok_region (i := 4) ?_; refine ok_p rfl rfl rfl (by exact ps_move rfl rfl) ?_; refine ok_p rfl rfl rfl (by exact ps_int rfl rfl rfl rfl) ?_; refine ok_nil ?_; refine ok_env [(0, _), (3, _), (4, _), (23, _)] ⟨rfl, rfl, rfl, rfl, trivial⟩ ?_)
    | (refine ok_region (i := 5) ?_; refine ok_p rfl rfl rfl (by exact ps_move rfl rfl) ?_; refine ok_p rfl rfl rfl (by exact ps_nil rfl rfl (by exact isw_ga _)) ?_; refine ok_p rfl rfl rfl (by exact ps_field rfl rfl (by exact isw_ga _)) ?_; refine ok_m_ rfl rfl (by exact ms_store 0 rfl rfl rfl rfl rfl rfl rfl rfl) ?_; rintro y_ hy_; refine ok_nil ?_; refine ok_env [] trivial ?_)
    | (refine ok_region (i := 6) ?_; refine ok_p rfl rfl rfl (by exact ps_assign rfl rfl) ?_; refine ok_nil ?_; refine ok_env [(2, _)] ⟨rfl, trivial⟩ ?_)
    | (refine ok_region (i := 7) ?_; refine ok_p rfl rfl rfl (by exact ps_move rfl rfl) ?_; refine ok_p rfl rfl rfl (by exact ps_nil rfl rfl (by exact isw_ga _)) ?_; refine ok_p rfl rfl rfl (by exact ps_field rfl rfl (by exact isw_ga _)) ?_; refine ok_p rfl rfl rfl (by exact ps_load rfl rfl (by exact Rds.cell (rds_box 0 rfl) rfl)) ?_; refine ok_p rfl rfl rfl (by exact ps_move rfl rfl) ?_; refine ok_p rfl rfl rfl (by exact ps_add rfl rfl rfl (by omega)) ?_; refine ok_p rfl rfl rfl (by exact ps_nil rfl rfl (by exact isw_ga _)) ?_; refine ok_p rfl rfl rfl (by exact ps_field rfl rfl (by exact isw_ga _)) ?_; refine ok_m_ rfl rfl (by exact ms_store 0 rfl rfl rfl rfl rfl rfl rfl rfl) ?_; rintro y_ hy_; refine ok_nil ?_; refine ok_env [(3, _)] ⟨rfl, trivial⟩ ?_)
    | (refine ok_region (i := 8) ?_; refine ok_p rfl rfl rfl (by exact ps_move rfl rfl) ?_; refine ok_p rfl rfl rfl (by exact ps_assign rfl rfl) ?_; refine ok_nil ?_; refine ok_env [(2, _)] ⟨rfl, trivial⟩ ?_))
  · have h0 : (rvN ((bl s).drop k)).2 = 0 := by omega
    have e : rdN s k false = (0, k, true) := by unfold rdN; rw [if_neg (by simp), z, if_pos h0]
    rw [e]
    exact ok_endL (vs := [_]) rfl ⟨rfl, trivial⟩ (fun w' hw => ⟨mkY none 0 w, rfl, trivial, hw⟩)
  · have h0 : ¬ (rvN ((bl s).drop k)).2 = 0 := by omega
    have e : rdN s k false = ((rvN ((bl s).drop k)).1, k + (rvN ((bl s).drop k)).2, false) := by unfold rdN; rw [if_neg (by simp), z, if_neg h0]
    rw [e]
    exact ok_endL (vs := [_]) rfl ⟨rfl, trivial⟩ (fun w' hw => ⟨mkY none 0 w, rfl, trivial, hw⟩)
theorem rdS_c (g : Nat) (s : ByteArray) (k : Nat) (bad : Bool) (hs : s.size ≤ 4194304) (hk : k ≤ s.size) {base : Nat} {w0 w : World} {H : List HObj} {G : List World} (hw : WOk base w0 (rdr g s k bad :: H) G w) :
    Calls Try.prog 165 #[pt (ga g) 0] w fun e w' => ∃ y : Ys, e = .returned (.string (rdS s k bad).1) ∧ True ∧ WOk base w0 (rdr g s (rdS s k bad).2.1 (rdS s k bad).2.2 :: H) G w' := by
  have hb := rdN_le s k bad hk
  refine ok_enterW 9 Try.func165 rfl rfl rfl hw ?_
  repeat' (first
    | refine ok_seq ?_
    | refine ok_then ?_
    | refine ok_ret ?_
    | (refine ok_region (i := 0) ?_; refine ok_p rfl rfl rfl (by exact ps_assign rfl rfl) ?_; refine ok_nil ?_; refine ok_env [(0, _)] ⟨rfl, trivial⟩ ?_)
    | (refine ok_region (i := 1) ?_; refine ok_p rfl rfl rfl (by exact ps_move rfl rfl) ?_; refine ok_m rfl rfl rfl (by exact ms_w1 (fun _ _ _ h => h) rfl rfl (fun _ _ w hw => rdN_c g s k bad hs hk hw)) ?_; rintro y5 hy5; refine ok_p rfl rfl rfl (by exact ps_assign rfl rfl) ?_; refine ok_nil ?_; refine ok_env [(0, _), (3, _)] ⟨rfl, rfl, trivial⟩ ?_)
    | (refine ok_region (i := 2) ?_; refine ok_p rfl rfl rfl (by exact ps_move rfl rfl) ?_; refine ok_p rfl rfl rfl (by exact ps_move rfl rfl) ?_; refine ok_m rfl rfl rfl (by exact ms_w2 (fun _ _ _ h => h) rfl rfl rfl (fun _ _ w hw => rdB_c g s (rdN s k bad).1 (rdN s k bad).2.1 (rdN s k bad).2.2 hs hb.1 hb.2 hw)) ?_; rintro y8 hy8; refine ok_p rfl rfl rfl (by exact ps_assign rfl rfl) ?_; refine ok_nil ?_; refine ok_env [(2, _)] ⟨rfl, trivial⟩ ?_))
  exact ok_endL (vs := [_]) rfl ⟨rfl, trivial⟩ (fun w' hw => ⟨mkY none 0 w, rfl, trivial, hw⟩)
def rdD (s : ByteArray) (k : Nat) (bad : Bool) : Bool := !bad && ((k : Int) == (s.size : Int))
theorem rdD_c (g : Nat) (s : ByteArray) (k : Nat) (bad : Bool) {base : Nat} {w0 w : World} {H : List HObj} {G : List World} (hw : WOk base w0 (rdr g s k bad :: H) G w) :
    Calls Try.prog 97 #[pt (ga g) 0] w fun e w' => ∃ y : Ys, e = .returned (.bool (rdD s k bad)) ∧ True ∧ WOk base w0 (rdr g s k bad :: H) G w' := by
  refine ok_enterW 20 Try.func97 rfl rfl rfl hw ?_
  repeat' (first
    | refine ok_seq ?_
    | refine ok_then ?_
    | refine ok_ret ?_
    | (refine ok_region (i := 0) ?_; refine ok_p rfl rfl rfl (by exact ps_assign rfl rfl) ?_; refine ok_nil ?_; refine ok_env [(0, _)] ⟨rfl, trivial⟩ ?_)
    | (refine ok_draw (id := 1) 18 rfl (by kernel_rfl) (by kernel_rfl) rfl (by repeat (first | exact pq_body | refine pq_then ?_ | refine pq_in ?_)) [0, 1, 2, 3, 4, 5, 6, 7, 8, 9, 10, 11, 12, 13, 14, 15, 16, 17, 18, 19, 20, 21, 22, 23] (by decide) rfl ?_; refine okT_take (i := 0) rfl (by kernel_rfl) rfl rfl rfl (by exact ps_move rfl rfl) ?_; refine okT_take (i := 1) rfl (by kernel_rfl) rfl rfl rfl (by exact ps_nil rfl rfl (by exact isw_ga _)) ?_; refine okT_take (i := 2) rfl (by kernel_rfl) rfl rfl rfl (by exact ps_field rfl rfl (by exact isw_ga _)) ?_; refine okT_take (i := 3) rfl (by kernel_rfl) rfl rfl rfl (by exact ps_load rfl rfl (by exact Rds.cell (rds_box 0 rfl) rfl)) ?_; refine okT_take (i := 4) rfl (by kernel_rfl) rfl rfl rfl (by exact ps_not rfl rfl) ?_; refine okT_take (i := 5) rfl (by kernel_rfl) rfl rfl rfl (by exact ps_move rfl rfl) ?_; refine okT_take_g1 (i := 6) rfl (by kernel_rfl) rfl rfl rfl rfl rfl (gT _) (fun hp => by (have hpd := hp; (try simp only [decide_eq_true_eq, decide_eq_false_iff_not, Bool.or_eq_true, Bool.or_eq_false_iff, Bool.and_eq_true, Bool.and_eq_false_iff, Bool.not_eq_true', Bool.not_eq_false', bne_iff_ne, beq_iff_eq, bne_eq_false_iff_eq, beq_eq_false_iff_ne, ne_eq, Bool.not_true, Bool.not_false, Bool.false_eq_true, Bool.true_eq_false, inB_true, inB_false] at hpd); exact ps_move rfl (by exact rfl))) ?_; refine okT_take_g1 (i := 7) rfl (by kernel_rfl) rfl rfl rfl rfl rfl (gT _) (fun hp => by (have hpd := hp; (try simp only [decide_eq_true_eq, decide_eq_false_iff_not, Bool.or_eq_true, Bool.or_eq_false_iff, Bool.and_eq_true, Bool.and_eq_false_iff, Bool.not_eq_true', Bool.not_eq_false', bne_iff_ne, beq_iff_eq, bne_eq_false_iff_eq, beq_eq_false_iff_ne, ne_eq, Bool.not_true, Bool.not_false, Bool.false_eq_true, Bool.true_eq_false, inB_true, inB_false] at hpd); exact ps_nil rfl (by (refine og rfl ?_; assumption)) (by exact isw_ga _))) ?_; refine okT_take_g1 (i := 8) rfl (by kernel_rfl) rfl rfl rfl rfl rfl (gT _) (fun hp => by (have hpd := hp; (try simp only [decide_eq_true_eq, decide_eq_false_iff_not, Bool.or_eq_true, Bool.or_eq_false_iff, Bool.and_eq_true, Bool.and_eq_false_iff, Bool.not_eq_true', Bool.not_eq_false', bne_iff_ne, beq_iff_eq, bne_eq_false_iff_eq, beq_eq_false_iff_ne, ne_eq, Bool.not_true, Bool.not_false, Bool.false_eq_true, Bool.true_eq_false, inB_true, inB_false] at hpd); exact ps_field rfl (by (refine og rfl ?_; assumption)) (by exact isw_ga _))) ?_; refine okT_take_g1 (i := 9) rfl (by kernel_rfl) rfl rfl rfl rfl rfl (gT _) (fun hp => by (have hpd := hp; (try simp only [decide_eq_true_eq, decide_eq_false_iff_not, Bool.or_eq_true, Bool.or_eq_false_iff, Bool.and_eq_true, Bool.and_eq_false_iff, Bool.not_eq_true', Bool.not_eq_false', bne_iff_ne, beq_iff_eq, bne_eq_false_iff_eq, beq_eq_false_iff_ne, ne_eq, Bool.not_true, Bool.not_false, Bool.false_eq_true, Bool.true_eq_false, inB_true, inB_false] at hpd); exact ps_load rfl (by (refine og rfl ?_; assumption)) (by exact Rds.cell (rds_box 0 rfl) rfl))) ?_; refine okT_take_g1 (i := 10) rfl (by kernel_rfl) rfl rfl rfl rfl rfl (gT _) (fun hp => by (have hpd := hp; (try simp only [decide_eq_true_eq, decide_eq_false_iff_not, Bool.or_eq_true, Bool.or_eq_false_iff, Bool.and_eq_true, Bool.and_eq_false_iff, Bool.not_eq_true', Bool.not_eq_false', bne_iff_ne, beq_iff_eq, bne_eq_false_iff_eq, beq_eq_false_iff_ne, ne_eq, Bool.not_true, Bool.not_false, Bool.false_eq_true, Bool.true_eq_false, inB_true, inB_false] at hpd); exact ps_move rfl (by exact rfl))) ?_; refine okT_take_g1 (i := 11) rfl (by kernel_rfl) rfl rfl rfl rfl rfl (gT _) (fun hp => by (have hpd := hp; (try simp only [decide_eq_true_eq, decide_eq_false_iff_not, Bool.or_eq_true, Bool.or_eq_false_iff, Bool.and_eq_true, Bool.and_eq_false_iff, Bool.not_eq_true', Bool.not_eq_false', bne_iff_ne, beq_iff_eq, bne_eq_false_iff_eq, beq_eq_false_iff_ne, ne_eq, Bool.not_true, Bool.not_false, Bool.false_eq_true, Bool.true_eq_false, inB_true, inB_false] at hpd); exact ps_nil rfl (by (refine og rfl ?_; assumption)) (by exact isw_ga _))) ?_; refine okT_take_g1 (i := 12) rfl (by kernel_rfl) rfl rfl rfl rfl rfl (gT _) (fun hp => by (have hpd := hp; (try simp only [decide_eq_true_eq, decide_eq_false_iff_not, Bool.or_eq_true, Bool.or_eq_false_iff, Bool.and_eq_true, Bool.and_eq_false_iff, Bool.not_eq_true', Bool.not_eq_false', bne_iff_ne, beq_iff_eq, bne_eq_false_iff_eq, beq_eq_false_iff_ne, ne_eq, Bool.not_true, Bool.not_false, Bool.false_eq_true, Bool.true_eq_false, inB_true, inB_false] at hpd); exact ps_field rfl (by (refine og rfl ?_; assumption)) (by exact isw_ga _))) ?_; refine okT_take_g1 (i := 13) rfl (by kernel_rfl) rfl rfl rfl rfl rfl (gT _) (fun hp => by (have hpd := hp; (try simp only [decide_eq_true_eq, decide_eq_false_iff_not, Bool.or_eq_true, Bool.or_eq_false_iff, Bool.and_eq_true, Bool.and_eq_false_iff, Bool.not_eq_true', Bool.not_eq_false', bne_iff_ne, beq_iff_eq, bne_eq_false_iff_eq, beq_eq_false_iff_ne, ne_eq, Bool.not_true, Bool.not_false, Bool.false_eq_true, Bool.true_eq_false, inB_true, inB_false] at hpd); exact ps_load rfl (by (refine og rfl ?_; assumption)) (by exact Rds.cell (rds_box 0 rfl) rfl))) ?_; refine okT_take_g1 (i := 14) rfl (by kernel_rfl) rfl rfl rfl rfl rfl (gT _) (fun hp => by (have hpd := hp; (try simp only [decide_eq_true_eq, decide_eq_false_iff_not, Bool.or_eq_true, Bool.or_eq_false_iff, Bool.and_eq_true, Bool.and_eq_false_iff, Bool.not_eq_true', Bool.not_eq_false', bne_iff_ne, beq_iff_eq, bne_eq_false_iff_eq, beq_eq_false_iff_ne, ne_eq, Bool.not_true, Bool.not_false, Bool.false_eq_true, Bool.true_eq_false, inB_true, inB_false] at hpd); exact ps_slen rfl (by (refine og rfl ?_; assumption)))) ?_; refine okT_take_g1 (i := 15) rfl (by kernel_rfl) rfl rfl rfl rfl rfl (gT _) (fun hp => by (have hpd := hp; (try simp only [decide_eq_true_eq, decide_eq_false_iff_not, Bool.or_eq_true, Bool.or_eq_false_iff, Bool.and_eq_true, Bool.and_eq_false_iff, Bool.not_eq_true', Bool.not_eq_false', bne_iff_ne, beq_iff_eq, bne_eq_false_iff_eq, beq_eq_false_iff_ne, ne_eq, Bool.not_true, Bool.not_false, Bool.false_eq_true, Bool.true_eq_false, inB_true, inB_false] at hpd); exact ps_int rfl (by (refine og rfl ?_; assumption)) (by (refine og rfl ?_; assumption)) rfl)) ?_; refine okT_take (i := 16) rfl (by kernel_rfl) rfl rfl rfl (by exact ps_and rfl rfl rfl) ?_; refine okT_take (i := 17) rfl (by kernel_rfl) rfl rfl rfl (by exact ps_assign rfl rfl) ?_; refine okT_done (by kernel_rfl) ?_; refine ok_nil ?_; refine ok_env [(2, _)] ⟨rfl, trivial⟩ ?_))
  exact ok_endL (vs := [_]) rfl ⟨rfl, trivial⟩ (fun w' hw => ⟨mkY none 0 w, rfl, trivial, hw⟩)
/-- The reference takes pieces. -/
def tkV (s : ByteArray) (z : Int) : Option (Nat × Nat) := if 0 ≤ z ∧ z ≤ s.size then tkN s z.toNat else none
def tkW (s : ByteArray) (z : Int) : Option (ByteArray × Nat) := if 0 ≤ z ∧ z ≤ s.size then tkS s z.toNat else none
def tkE {α : Type} (r : Option (α × Nat)) : Int := match r with
  | none => -1
  | some p => p.2
def tkL (r : Option (Nat × Nat)) : List Int := match r with
  | none => []
  | some p => [(p.1 : Int)]
def tkT (r : Option (ByteArray × Nat)) : ByteArray := match r with
  | none => ⟨#[]⟩
  | some p => p.1
structure VarI (s : ByteArray) (z : Int) where
  i : Nat
  at_ : Int
  l : List Int
  A : Option Addr
  c : Nat
  ok : (i = 0 ∧ at_ = z ∧ l = []) ∨ (i = 1 ∧ tkE (tkV s z) = at_ ∧ l = tkL (tkV s z) ∧ l.length = 1 ∧ 0 ≤ at_ ∧ at_ ≤ s.size)
theorem s_l6Vars1 (s : ByteArray) (z : Int) (hs : s.size ≤ 4194304) (hz : -9223372036854775808 ≤ z ∧ z ≤ 9223372036854775807) (w : World) :
    Calls Try.prog 162 #[.string s, .int .i64 z, .int .i64 1] w fun e w' => ∃ y : Ys, e = .returned (.tuple #[.slice (y 0).A (tkL (tkV s z)).length (y 0).c, .int .i64 (tkE (tkV s z))]) ∧ True ∧ Below w.heap.size w w' ∧ NewOk w.heap.size [.row 3 1 (y 0).A (tkL (tkV s z)).length (y 0).c (fl (tkL (tkV s z)))] [] w' := by
  refine ok_enter 46 Try.func162 rfl rfl rfl ?_
  repeat' (first
    | refine ok_seq ?_
    | refine ok_then ?_
    | refine ok_block ?_
    | (refine ok_region (i := 0) ?_; refine ok_p rfl rfl rfl (by exact ps_assign rfl rfl) ?_; refine ok_p rfl rfl rfl (by exact ps_assign rfl rfl) ?_; refine ok_nil ?_; refine ok_env [(0, _), (1, _), (2, _)] ⟨rfl, rfl, rfl, trivial⟩ ?_)
    | (refine ok_region (i := 1) ?_; refine ok_m rfl rfl rfl (by exact ms_lit rfl parts_nil rfl rfl rfl) ?_; rintro y12 hy12; refine ok_p rfl rfl rfl (by exact ps_assign rfl rfl) ?_; refine ok_nil ?_; refine ok_env [(0, _), (1, _), (2, _), (8, _)] ⟨rfl, rfl, rfl, rfl, trivial⟩ ?_)
    | (refine ok_region (i := 2) ?_; refine ok_p rfl rfl rfl (by exact ps_assign rfl rfl) ?_; refine ok_nil ?_; refine ok_env [(0, _), (1, _), (2, _), (8, _), (9, _)] ⟨rfl, rfl, rfl, rfl, rfl, trivial⟩ ?_))
  refine ok_loop (ι := VarI s z) (fun q => 1 - q.i) (fun q => ([(0, .string s), (1, .int .i64 q.at_), (2, .int .i64 1), (8, .slice q.A q.l.length q.c), (9, .int .i64 q.i)], [.row 3 1 q.A q.l.length q.c (fl q.l)], _)) ⟨0, z, [], none, 0, .inl ⟨rfl, rfl, rfl⟩⟩ (fun a w he hw => ⟨⟨0, z, [], ga (y12 0).c, 0, .inl ⟨rfl, rfl, rfl⟩⟩, he.sub ⟨rfl, rfl, rfl, rfl, rfl, trivial⟩, hw⟩) ?_
  rintro ⟨i, at_, l, A, c, ok⟩
  simp only
  rcases ok with ⟨rfl, rfl, rfl⟩ | ⟨rfl, e1, e2, e3, e4, e5⟩
  · have q := fun (h : 0 ≤ at_ ∧ at_ ≤ s.size) => rvN_tk s at_.toNat (by omega)
    have zz := tkN_z s at_.toNat
    have hlt := fun (h : 0 ≤ at_ ∧ at_ ≤ s.size) (h0 : ¬ (rvN ((bl s).drop at_.toNat)).2 = 0) => tkN_some (s := s) (k := at_.toNat) (by rw [zz, if_neg h0])
    have Q := Lib.hid q
    have ZZ := Lib.hid zz
    have HLT := Lib.hid hlt
    clear q zz hlt
    have b7 : (rvN ((bl s).drop at_.toNat)).2 ≤ 7 := by
      unfold rvN
      cases hr : rv ((bl s).drop at_.toNat) with
      | none => simp
      | some p => obtain ⟨m, z⟩ := p; exact (rv_some hr).2.1
    repeat' (first
      | refine ok_seq ?_
      | refine ok_then ?_
      | refine ok_then_ret ?_
      | refine ok_block ?_
      | refine ok_in_normal ?_
      | refine ok_in_ret ?_
      | (refine ok_cond rfl (fun hc => ?_) (fun hc => ?_) <;> (have hd := hc; (try simp only [decide_eq_true_eq, decide_eq_false_iff_not, Bool.or_eq_true, Bool.or_eq_false_iff, Bool.and_eq_true, Bool.and_eq_false_iff, Bool.not_eq_true', Bool.not_eq_false', bne_iff_ne, beq_iff_eq, bne_eq_false_iff_eq, beq_eq_false_iff_ne, ne_eq, Bool.not_true, Bool.not_false, Bool.false_eq_true, Bool.true_eq_false, inB_true, inB_false] at hd)))
      | refine ok_ret ?_
      | refine ok_exit ?_
      | refine ok_skip ?_
      | (refine ok_region (i := 3) ?_; refine ok_p rfl rfl rfl (by exact ps_move rfl rfl) ?_; refine ok_p rfl rfl rfl (by exact ps_move rfl rfl) ?_; refine ok_p rfl rfl rfl (by exact ps_int rfl rfl rfl rfl) ?_; refine ok_nil ?_; refine ok_env [(0, _), (1, _), (2, _), (8, _), (9, _), (15, _)] ⟨rfl, rfl, rfl, rfl, rfl, rfl, trivial⟩ ?_)
      | (refine ok_region (i := 4) ?_; refine ok_p rfl rfl rfl (by exact ps_move rfl rfl) ?_; refine ok_p rfl rfl rfl (by exact ps_add rfl rfl rfl (by omega)) ?_; refine ok_p rfl rfl rfl (by exact ps_assign rfl rfl) ?_; refine ok_nil ?_; refine ok_env [(0, _), (1, _), (2, _), (8, _), (9, _)] ⟨rfl, rfl, rfl, rfl, rfl, trivial⟩ ?_)
      | (refine ok_region (i := 5) ?_; refine ok_p rfl rfl rfl (by exact ps_move rfl rfl) ?_; refine ok_p rfl rfl rfl (by exact ps_int rfl rfl rfl rfl) ?_; refine ok_p rfl rfl rfl (by exact ps_move rfl rfl) ?_; refine ok_pg rfl rfl rfl rfl rfl (gF _) (fun hp => by (have hpd := hp; (try simp only [decide_eq_true_eq, decide_eq_false_iff_not, Bool.or_eq_true, Bool.or_eq_false_iff, Bool.and_eq_true, Bool.and_eq_false_iff, Bool.not_eq_true', Bool.not_eq_false', bne_iff_ne, beq_iff_eq, bne_eq_false_iff_eq, beq_eq_false_iff_ne, ne_eq, Bool.not_true, Bool.not_false, Bool.false_eq_true, Bool.true_eq_false, inB_true, inB_false] at hpd); exact ps_move rfl (by exact rfl))) ?_; refine ok_pg rfl rfl rfl rfl rfl (gF _) (fun hp => by (have hpd := hp; (try simp only [decide_eq_true_eq, decide_eq_false_iff_not, Bool.or_eq_true, Bool.or_eq_false_iff, Bool.and_eq_true, Bool.and_eq_false_iff, Bool.not_eq_true', Bool.not_eq_false', bne_iff_ne, beq_iff_eq, bne_eq_false_iff_eq, beq_eq_false_iff_ne, ne_eq, Bool.not_true, Bool.not_false, Bool.false_eq_true, Bool.true_eq_false, inB_true, inB_false] at hpd); exact ps_move rfl (by exact rfl))) ?_; refine ok_pg rfl rfl rfl rfl rfl (gF _) (fun hp => by (have hpd := hp; (try simp only [decide_eq_true_eq, decide_eq_false_iff_not, Bool.or_eq_true, Bool.or_eq_false_iff, Bool.and_eq_true, Bool.and_eq_false_iff, Bool.not_eq_true', Bool.not_eq_false', bne_iff_ne, beq_iff_eq, bne_eq_false_iff_eq, beq_eq_false_iff_ne, ne_eq, Bool.not_true, Bool.not_false, Bool.false_eq_true, Bool.true_eq_false, inB_true, inB_false] at hpd); exact ps_slen rfl (by (refine og rfl ?_; assumption)))) ?_; refine ok_pg rfl rfl rfl rfl rfl (gF _) (fun hp => by (have hpd := hp; (try simp only [decide_eq_true_eq, decide_eq_false_iff_not, Bool.or_eq_true, Bool.or_eq_false_iff, Bool.and_eq_true, Bool.and_eq_false_iff, Bool.not_eq_true', Bool.not_eq_false', bne_iff_ne, beq_iff_eq, bne_eq_false_iff_eq, beq_eq_false_iff_ne, ne_eq, Bool.not_true, Bool.not_false, Bool.false_eq_true, Bool.true_eq_false, inB_true, inB_false] at hpd); exact ps_int rfl (by (refine og rfl ?_; assumption)) (by (refine og rfl ?_; assumption)) rfl)) ?_; refine ok_p rfl rfl rfl (by exact ps_or rfl rfl rfl) ?_; refine ok_nil ?_; refine ok_env [(0, _), (1, _), (2, _), (8, _), (9, _), (25, _)] ⟨rfl, rfl, rfl, rfl, rfl, rfl, trivial⟩ ?_)
      | (refine ok_region (i := 6) ?_; refine ok_p rfl rfl rfl (by exact ps_move rfl rfl) ?_; refine ok_p rfl rfl rfl (by exact ps_assign rfl rfl) ?_; refine ok_p rfl rfl rfl (by exact ps_assign rfl rfl) ?_; refine ok_nil ?_; refine ok_env [(6, _), (7, _)] ⟨rfl, rfl, trivial⟩ ?_)
      | (refine ok_region (i := 7) ?_; refine ok_p rfl rfl rfl (by exact ps_move rfl rfl) ?_; refine ok_p rfl rfl rfl (by exact ps_move rfl rfl) ?_; refine ok_p rfl rfl rfl (by exact ps_sslE at_.toNat s.size rfl rfl ⟨_, _, rfl, by omega⟩ rfl (by omega) (by omega)) ?_; refine ok_m rfl rfl rfl (by exact ms_s1 rfl rfl (fun _ _ w hw => by have := s_ReadVar_c (s.extract at_.toNat s.size) (by rw [ByteArray.size_extract]; omega) w; rw [Q.out (by omega)] at this; exact this)) ?_; rintro y31 hy31; refine ok_p rfl rfl rfl (by exact ps_move rfl rfl) ?_; refine ok_p rfl rfl rfl (by exact ps_extract rfl rfl rfl) ?_; refine ok_p rfl rfl rfl (by exact ps_extract rfl rfl rfl) ?_; refine ok_p rfl rfl rfl (by exact ps_assign rfl rfl) ?_; refine ok_p rfl rfl rfl (by exact ps_assign rfl rfl) ?_; refine ok_nil ?_; refine ok_env [(0, _), (1, _), (2, _), (8, _), (9, _), (10, _), (11, _)] ⟨rfl, rfl, rfl, rfl, rfl, rfl, rfl, trivial⟩ ?_)
      | (refine ok_region (i := 8) ?_; refine ok_p rfl rfl rfl (by exact ps_move rfl rfl) ?_; refine ok_p rfl rfl rfl (by exact ps_int rfl rfl rfl rfl) ?_; refine ok_nil ?_; refine ok_env [(0, _), (1, _), (2, _), (8, _), (9, _), (10, _), (11, _), (35, _)] ⟨rfl, rfl, rfl, rfl, rfl, rfl, rfl, rfl, trivial⟩ ?_)
      | (refine ok_region (i := 9) ?_; refine ok_p rfl rfl rfl (by exact ps_move rfl rfl) ?_; refine ok_p rfl rfl rfl (by exact ps_assign rfl rfl) ?_; refine ok_p rfl rfl rfl (by exact ps_assign rfl rfl) ?_; refine ok_nil ?_; refine ok_env [(6, _), (7, _)] ⟨rfl, rfl, trivial⟩ ?_)
      | (refine ok_region (i := 10) ?_; refine ok_p rfl rfl rfl (by exact ps_move rfl rfl) ?_; refine ok_p rfl rfl rfl (by exact ps_move rfl rfl) ?_; refine ok_m rfl rfl rfl (by exact ms_lit rfl (parts_cons rfl parts_nil) rfl rfl rfl) ?_; rintro y39 hy39; refine ok_m rfl rfl rfl (by exact ms_appF (α := Int) (L := []) (M := [((rvN ((bl s).drop at_.toNat)).1 : Int)]) 1 rfl rfl rfl rfl (rds_row 0 rfl) rfl (by simp) (by simp)) ?_; rintro y40 hy40; refine ok_p rfl rfl rfl (by exact ps_assign rfl rfl) ?_; refine ok_nil ?_; refine ok_env [(0, _), (1, _), (2, _), (8, _), (9, _), (11, _)] ⟨rfl, rfl, rfl, rfl, rfl, rfl, trivial⟩ ?_)
      | (refine ok_region (i := 11) ?_; refine ok_p rfl rfl rfl (by exact ps_move rfl rfl) ?_; refine ok_p rfl rfl rfl (by exact ps_move rfl rfl) ?_; refine ok_p rfl rfl rfl (by exact ps_add rfl rfl rfl (by omega)) ?_; refine ok_p rfl rfl rfl (by exact ps_assign rfl rfl) ?_; refine ok_nil ?_; refine ok_env [(0, _), (1, _), (2, _), (8, _), (9, _)] ⟨rfl, rfl, rfl, rfl, rfl, trivial⟩ ?_)
      | (refine ok_region (i := 12) ?_; refine ok_p rfl rfl rfl (by exact ps_move rfl rfl) ?_; refine ok_p rfl rfl rfl (by exact ps_move rfl rfl) ?_; refine ok_p rfl rfl rfl (by exact ps_assign rfl rfl) ?_; refine ok_p rfl rfl rfl (by exact ps_assign rfl rfl) ?_; refine ok_nil ?_; refine ok_env [(6, _), (7, _)] ⟨rfl, rfl, trivial⟩ ?_))
    · have e : tkV s at_ = none := by unfold tkV; rw [if_neg (by omega)]
      rw [e]
      refine ok_endL (vs := [_, _]) rfl ⟨rfl, rfl, trivial⟩ (fun w' hw => ⟨mkY A c w, rfl, trivial, hw.below, ?_⟩)
      exact NewOk.of (hw.sel [0] (by decide) rfl (G' := []) (fun _ h => by cases h))
    · have e : tkV s at_ = none := by unfold tkV; rw [if_pos (by omega), ZZ.out, if_pos (by omega)]
      rw [e]
      refine ok_endL (vs := [_, _]) rfl ⟨rfl, rfl, trivial⟩ (fun w' hw => ⟨mkY A c w, rfl, trivial, hw.below, ?_⟩)
      exact NewOk.of (hw.sel [0] (by decide) rfl (G' := []) (fun _ h => by cases h))
    · have e : tkV s at_ = some ((rvN ((bl s).drop at_.toNat)).1, at_.toNat + (rvN ((bl s).drop at_.toNat)).2) := by unfold tkV; rw [if_pos (by omega), ZZ.out, if_neg (by omega)]
      have hh := HLT.out (by omega) (by omega)
      refine fun a w' he hw => ⟨⟨1, at_ + (rvN ((bl s).drop at_.toNat)).2, [((rvN ((bl s).drop at_.toNat)).1 : Int)], (y40 0).A, (y40 0).c, .inr ⟨rfl, ?_, ?_, rfl, by omega, by omega⟩⟩, by simp only; omega, he.sub ⟨rfl, rfl, rfl, rfl, rfl, trivial⟩, hw.tl⟩
      · rw [e]; simp only [tkE]; omega
      · rw [e]; rfl
    · omega
  · skip
    repeat' (first
      | refine ok_seq ?_
      | refine ok_then ?_
      | refine ok_then_ret ?_
      | refine ok_block ?_
      | refine ok_in_ret ?_
      | (refine ok_cond rfl (fun hc => ?_) (fun hc => ?_) <;> (have hd := hc; (try simp only [decide_eq_true_eq, decide_eq_false_iff_not, Bool.or_eq_true, Bool.or_eq_false_iff, Bool.and_eq_true, Bool.and_eq_false_iff, Bool.not_eq_true', Bool.not_eq_false', bne_iff_ne, beq_iff_eq, bne_eq_false_iff_eq, beq_eq_false_iff_ne, ne_eq, Bool.not_true, Bool.not_false, Bool.false_eq_true, Bool.true_eq_false, inB_true, inB_false] at hd)))
      | refine ok_ret ?_
      | refine ok_exit ?_
      | refine ok_skip ?_
      | (refine ok_region (i := 3) ?_; refine ok_p rfl rfl rfl (by exact ps_move rfl rfl) ?_; refine ok_p rfl rfl rfl (by exact ps_move rfl rfl) ?_; refine ok_p rfl rfl rfl (by exact ps_int rfl rfl rfl rfl) ?_; refine ok_nil ?_; refine ok_env [(0, _), (1, _), (2, _), (8, _), (9, _), (15, _)] ⟨rfl, rfl, rfl, rfl, rfl, rfl, trivial⟩ ?_)
      | (refine ok_region (i := 5) ?_; refine ok_p rfl rfl rfl (by exact ps_move rfl rfl) ?_; refine ok_p rfl rfl rfl (by exact ps_int rfl rfl rfl rfl) ?_; refine ok_p rfl rfl rfl (by exact ps_move rfl rfl) ?_; refine ok_pg rfl rfl rfl rfl rfl (gF _) (fun hp => by (have hpd := hp; (try simp only [decide_eq_true_eq, decide_eq_false_iff_not, Bool.or_eq_true, Bool.or_eq_false_iff, Bool.and_eq_true, Bool.and_eq_false_iff, Bool.not_eq_true', Bool.not_eq_false', bne_iff_ne, beq_iff_eq, bne_eq_false_iff_eq, beq_eq_false_iff_ne, ne_eq, Bool.not_true, Bool.not_false, Bool.false_eq_true, Bool.true_eq_false, inB_true, inB_false] at hpd); exact ps_move rfl (by exact rfl))) ?_; refine ok_pg rfl rfl rfl rfl rfl (gF _) (fun hp => by (have hpd := hp; (try simp only [decide_eq_true_eq, decide_eq_false_iff_not, Bool.or_eq_true, Bool.or_eq_false_iff, Bool.and_eq_true, Bool.and_eq_false_iff, Bool.not_eq_true', Bool.not_eq_false', bne_iff_ne, beq_iff_eq, bne_eq_false_iff_eq, beq_eq_false_iff_ne, ne_eq, Bool.not_true, Bool.not_false, Bool.false_eq_true, Bool.true_eq_false, inB_true, inB_false] at hpd); exact ps_move rfl (by exact rfl))) ?_; refine ok_pg rfl rfl rfl rfl rfl (gF _) (fun hp => by (have hpd := hp; (try simp only [decide_eq_true_eq, decide_eq_false_iff_not, Bool.or_eq_true, Bool.or_eq_false_iff, Bool.and_eq_true, Bool.and_eq_false_iff, Bool.not_eq_true', Bool.not_eq_false', bne_iff_ne, beq_iff_eq, bne_eq_false_iff_eq, beq_eq_false_iff_ne, ne_eq, Bool.not_true, Bool.not_false, Bool.false_eq_true, Bool.true_eq_false, inB_true, inB_false] at hpd); exact ps_slen rfl (by (refine og rfl ?_; assumption)))) ?_; refine ok_pg rfl rfl rfl rfl rfl (gF _) (fun hp => by (have hpd := hp; (try simp only [decide_eq_true_eq, decide_eq_false_iff_not, Bool.or_eq_true, Bool.or_eq_false_iff, Bool.and_eq_true, Bool.and_eq_false_iff, Bool.not_eq_true', Bool.not_eq_false', bne_iff_ne, beq_iff_eq, bne_eq_false_iff_eq, beq_eq_false_iff_ne, ne_eq, Bool.not_true, Bool.not_false, Bool.false_eq_true, Bool.true_eq_false, inB_true, inB_false] at hpd); exact ps_int rfl (by (refine og rfl ?_; assumption)) (by (refine og rfl ?_; assumption)) rfl)) ?_; refine ok_p rfl rfl rfl (by exact ps_or rfl rfl rfl) ?_; refine ok_nil ?_; refine ok_env [(0, _), (1, _), (2, _), (8, _), (9, _), (25, _)] ⟨rfl, rfl, rfl, rfl, rfl, rfl, trivial⟩ ?_)
      | (refine ok_region (i := 6) ?_; refine ok_p rfl rfl rfl (by exact ps_move rfl rfl) ?_; refine ok_p rfl rfl rfl (by exact ps_assign rfl rfl) ?_; refine ok_p rfl rfl rfl (by exact ps_assign rfl rfl) ?_; refine ok_nil ?_; refine ok_env [(6, _), (7, _)] ⟨rfl, rfl, trivial⟩ ?_)
      | (refine ok_region (i := 12) ?_; refine ok_p rfl rfl rfl (by exact ps_move rfl rfl) ?_; refine ok_p rfl rfl rfl (by exact ps_move rfl rfl) ?_; refine ok_p rfl rfl rfl (by exact ps_assign rfl rfl) ?_; refine ok_p rfl rfl rfl (by exact ps_assign rfl rfl) ?_; refine ok_nil ?_; refine ok_env [(6, _), (7, _)] ⟨rfl, rfl, trivial⟩ ?_))
    · omega
    · omega
    · rw [e1, ← e2]
      refine ok_endL (vs := [_, _]) rfl ⟨rfl, rfl, trivial⟩ (fun w' hw => ⟨mkY A c w, rfl, trivial, hw.below, ?_⟩)
      exact NewOk.of (hw.sel [0] (by decide) rfl (G' := []) (fun _ h => by cases h))
theorem tkV_le {s : ByteArray} {z : Int} {n e : Nat} (h : tkV s z = some (n, e)) : e ≤ s.size ∧ n < 562949953421312 := by
  unfold tkV at h
  split at h
  · have := tkN_some h; omega
  · cases h
theorem s_l6Vars_no (s : ByteArray) (z : Int) (hs : s.size ≤ 4194304) (hz : -9223372036854775808 ≤ z ∧ z ≤ 9223372036854775807) (hv : tkV s z = none) (w : World) :
    Calls Try.prog 162 #[.string s, .int .i64 z, .int .i64 1] w fun e w' => ∃ y : Ys, e = .returned (.tuple #[.slice (y 0).A 0 (y 0).c, .int .i64 (-1)]) ∧ True ∧ Below w.heap.size w w' ∧ NewOk w.heap.size [.row 3 1 (y 0).A 0 (y 0).c (fl ([] : List Int))] [] w' := by
  have := s_l6Vars1 s z hs hz w
  rw [hv] at this
  exact this
theorem s_l6Vars_yes (s : ByteArray) (z : Int) (n q : Nat) (L : List Int) (hL : L = [(n : Int)]) (hs : s.size ≤ 4194304) (hz : -9223372036854775808 ≤ z ∧ z ≤ 9223372036854775807) (hv : tkV s z = some (n, q)) (w : World) :
    Calls Try.prog 162 #[.string s, .int .i64 z, .int .i64 1] w fun e w' => ∃ y : Ys, e = .returned (.tuple #[.slice (y 0).A 1 (y 0).c, .int .i64 q]) ∧ True ∧ Below w.heap.size w w' ∧ NewOk w.heap.size [.row 3 1 (y 0).A 1 (y 0).c (fl L)] [] w' := by
  subst hL
  have := s_l6Vars1 s z hs hz w
  rw [hv] at this
  exact this
theorem s_l6Take_c (s : ByteArray) (z : Int) (hs : s.size ≤ 4194304) (hz : -9223372036854775808 ≤ z ∧ z ≤ 9223372036854775807) (w : World) :
    Calls Try.prog 163 #[.string s, .int .i64 z] w fun e w' => e = .returned (.tuple #[.string (tkT (tkW s z)), .int .i64 (tkE (tkW s z))]) ∧ Below w.heap.size w w' := by
  cases hv : tkV s z with
  | none =>
    have e : tkW s z = none := by
      unfold tkV at hv
      unfold tkW
      split
      · rename_i h; rw [if_pos h] at hv; unfold tkS; rw [hv]; rfl
      · rfl
    rw [e]
    refine ok_enter 39 Try.func163 rfl rfl rfl ?_
    repeat' (first
      | refine ok_seq ?_
      | refine ok_then ?_
      | refine ok_then_ret ?_
      | (refine ok_cond rfl (fun hc => ?_) (fun hc => ?_) <;> (have hd := hc; (try simp only [decide_eq_true_eq, decide_eq_false_iff_not, Bool.or_eq_true, Bool.or_eq_false_iff, Bool.and_eq_true, Bool.and_eq_false_iff, Bool.not_eq_true', Bool.not_eq_false', bne_iff_ne, beq_iff_eq, bne_eq_false_iff_eq, beq_eq_false_iff_ne, ne_eq, Bool.not_true, Bool.not_false, Bool.false_eq_true, Bool.true_eq_false, inB_true, inB_false] at hd)))
      | refine ok_ret ?_
      | refine ok_skip ?_
      | (refine ok_region (i := 0) ?_; refine ok_p rfl rfl rfl (by exact ps_assign rfl rfl) ?_; refine ok_p rfl rfl rfl (by exact ps_assign rfl rfl) ?_; refine ok_nil ?_; refine ok_env [(0, _), (1, _)] ⟨rfl, rfl, trivial⟩ ?_)
      | (refine ok_region (i := 1) ?_; refine ok_p rfl rfl rfl (by exact ps_move rfl rfl) ?_; refine ok_p rfl rfl rfl (by exact ps_move rfl rfl) ?_; refine ok_m rfl rfl rfl (by exact ms_c3 rfl rfl rfl rfl (fun _ _ w hw => s_l6Vars_no s z hs hz hv w)) ?_; rintro y11 hy11; refine ok_p rfl rfl rfl (by exact ps_move rfl rfl) ?_; refine ok_p rfl rfl rfl (by exact ps_extract rfl rfl rfl) ?_; refine ok_p rfl rfl rfl (by exact ps_extract rfl rfl rfl) ?_; refine ok_p rfl rfl rfl (by exact ps_assign rfl rfl) ?_; refine ok_p rfl rfl rfl (by exact ps_assign rfl rfl) ?_; refine ok_nil ?_; refine ok_env [(0, _), (6, _), (7, _)] ⟨rfl, rfl, rfl, trivial⟩ ?_)
      | (refine ok_region (i := 2) ?_; refine ok_p rfl rfl rfl (by exact ps_move rfl rfl) ?_; refine ok_p rfl rfl rfl (by exact ps_int rfl rfl rfl rfl) ?_; refine ok_p rfl rfl rfl (by exact ps_move rfl rfl) ?_; refine ok_pg rfl rfl rfl rfl rfl (gF _) (fun hp => by (have hpd := hp; (try simp only [decide_eq_true_eq, decide_eq_false_iff_not, Bool.or_eq_true, Bool.or_eq_false_iff, Bool.and_eq_true, Bool.and_eq_false_iff, Bool.not_eq_true', Bool.not_eq_false', bne_iff_ne, beq_iff_eq, bne_eq_false_iff_eq, beq_eq_false_iff_ne, ne_eq, Bool.not_true, Bool.not_false, Bool.false_eq_true, Bool.true_eq_false, inB_true, inB_false] at hpd); exact ps_move rfl (by exact rfl))) ?_; refine ok_pg rfl rfl rfl rfl rfl (gF _) (fun hp => by (have hpd := hp; (try simp only [decide_eq_true_eq, decide_eq_false_iff_not, Bool.or_eq_true, Bool.or_eq_false_iff, Bool.and_eq_true, Bool.and_eq_false_iff, Bool.not_eq_true', Bool.not_eq_false', bne_iff_ne, beq_iff_eq, bne_eq_false_iff_eq, beq_eq_false_iff_ne, ne_eq, Bool.not_true, Bool.not_false, Bool.false_eq_true, Bool.true_eq_false, inB_true, inB_false] at hpd); exact ps_indexN rfl (by (refine og rfl ?_; assumption)) (by exact rfl) (by omega) (by exact isw_row 0 rfl (by omega)))) ?_; refine ok_pg rfl rfl rfl rfl rfl (gF _) (fun hp => by (have hpd := hp; (try simp only [decide_eq_true_eq, decide_eq_false_iff_not, Bool.or_eq_true, Bool.or_eq_false_iff, Bool.and_eq_true, Bool.and_eq_false_iff, Bool.not_eq_true', Bool.not_eq_false', bne_iff_ne, beq_iff_eq, bne_eq_false_iff_eq, beq_eq_false_iff_ne, ne_eq, Bool.not_true, Bool.not_false, Bool.false_eq_true, Bool.true_eq_false, inB_true, inB_false] at hpd); exact ps_load rfl (by (refine og rfl ?_; assumption)) (by exact Rds.cell (rds_row 0 rfl) (by exact fl_at0 _ _ (by omega) (by decide))))) ?_; refine ok_pg rfl rfl rfl rfl rfl (gF _) (fun hp => by (have hpd := hp; (try simp only [decide_eq_true_eq, decide_eq_false_iff_not, Bool.or_eq_true, Bool.or_eq_false_iff, Bool.and_eq_true, Bool.and_eq_false_iff, Bool.not_eq_true', Bool.not_eq_false', bne_iff_ne, beq_iff_eq, bne_eq_false_iff_eq, beq_eq_false_iff_ne, ne_eq, Bool.not_true, Bool.not_false, Bool.false_eq_true, Bool.true_eq_false, inB_true, inB_false] at hpd); exact ps_move rfl (by exact rfl))) ?_; refine ok_pg rfl rfl rfl rfl rfl (gF _) (fun hp => by (have hpd := hp; (try simp only [decide_eq_true_eq, decide_eq_false_iff_not, Bool.or_eq_true, Bool.or_eq_false_iff, Bool.and_eq_true, Bool.and_eq_false_iff, Bool.not_eq_true', Bool.not_eq_false', bne_iff_ne, beq_iff_eq, bne_eq_false_iff_eq, beq_eq_false_iff_ne, ne_eq, Bool.not_true, Bool.not_false, Bool.false_eq_true, Bool.true_eq_false, inB_true, inB_false] at hpd); exact ps_slen rfl (by (refine og rfl ?_; assumption)))) ?_; refine ok_pg rfl rfl rfl rfl rfl (gF _) (fun hp => by (have hpd := hp; (try simp only [decide_eq_true_eq, decide_eq_false_iff_not, Bool.or_eq_true, Bool.or_eq_false_iff, Bool.and_eq_true, Bool.and_eq_false_iff, Bool.not_eq_true', Bool.not_eq_false', bne_iff_ne, beq_iff_eq, bne_eq_false_iff_eq, beq_eq_false_iff_ne, ne_eq, Bool.not_true, Bool.not_false, Bool.false_eq_true, Bool.true_eq_false, inB_true, inB_false] at hpd); exact ps_move rfl (by exact rfl))) ?_; refine ok_pg rfl rfl rfl rfl rfl (gF _) (fun hp => by (have hpd := hp; (try simp only [decide_eq_true_eq, decide_eq_false_iff_not, Bool.or_eq_true, Bool.or_eq_false_iff, Bool.and_eq_true, Bool.and_eq_false_iff, Bool.not_eq_true', Bool.not_eq_false', bne_iff_ne, beq_iff_eq, bne_eq_false_iff_eq, beq_eq_false_iff_ne, ne_eq, Bool.not_true, Bool.not_false, Bool.false_eq_true, Bool.true_eq_false, inB_true, inB_false] at hpd); exact ps_sub rfl (by (refine og rfl ?_; assumption)) (by (refine og rfl ?_; assumption)) (by omega))) ?_; refine ok_pg rfl rfl rfl rfl rfl (gF _) (fun hp => by (have hpd := hp; (try simp only [decide_eq_true_eq, decide_eq_false_iff_not, Bool.or_eq_true, Bool.or_eq_false_iff, Bool.and_eq_true, Bool.and_eq_false_iff, Bool.not_eq_true', Bool.not_eq_false', bne_iff_ne, beq_iff_eq, bne_eq_false_iff_eq, beq_eq_false_iff_ne, ne_eq, Bool.not_true, Bool.not_false, Bool.false_eq_true, Bool.true_eq_false, inB_true, inB_false] at hpd); exact ps_int rfl (by (refine og rfl ?_; assumption)) (by (refine og rfl ?_; assumption)) rfl)) ?_; refine ok_p rfl rfl rfl (by exact ps_or rfl rfl rfl) ?_; refine ok_nil ?_; refine ok_env [(0, _), (6, _), (7, _), (25, _)] ⟨rfl, rfl, rfl, rfl, trivial⟩ ?_)
      | (refine ok_region (i := 3) ?_; refine ok_p rfl rfl rfl (by exact ps_assign rfl rfl) ?_; refine ok_p rfl rfl rfl (by exact ps_assign rfl rfl) ?_; refine ok_nil ?_; refine ok_env [(4, _), (5, _)] ⟨rfl, rfl, trivial⟩ ?_))
    · exact ok_endL (vs := [_, _]) rfl ⟨rfl, rfl, trivial⟩ (fun w' hw => ⟨rfl, hw.below⟩)
    · omega
  | some p =>
    obtain ⟨n, q⟩ := p
    have hl := tkV_le hv
    have e : tkW s z = if q + n ≤ s.size then some (s.extract q (q + n), q + n) else none := by
      unfold tkV at hv
      unfold tkW
      split at hv
      · rename_i h; rw [if_pos h]; unfold tkS; rw [hv]; rfl
      · cases hv
    rw [e]
    obtain ⟨L, hL⟩ : ∃ L, L = [(n : Int)] := ⟨_, rfl⟩
    have h1 : L.length = 1 := by rw [hL]; rfl
    have h2 : nth L (Int.toNat 0) = n := by rw [hL]; rfl
    refine ok_enter 39 Try.func163 rfl rfl rfl ?_
    repeat' (first
      | refine ok_seq ?_
      | refine ok_then ?_
      | refine ok_then_ret ?_
      | (refine ok_cond rfl (fun hc => ?_) (fun hc => ?_) <;> (have hd := hc; (try simp only [decide_eq_true_eq, decide_eq_false_iff_not, Bool.or_eq_true, Bool.or_eq_false_iff, Bool.and_eq_true, Bool.and_eq_false_iff, Bool.not_eq_true', Bool.not_eq_false', bne_iff_ne, beq_iff_eq, bne_eq_false_iff_eq, beq_eq_false_iff_ne, ne_eq, Bool.not_true, Bool.not_false, Bool.false_eq_true, Bool.true_eq_false, inB_true, inB_false] at hd)))
      | refine ok_ret ?_
      | refine ok_skip ?_
      | (refine ok_region (i := 0) ?_; refine ok_p rfl rfl rfl (by exact ps_assign rfl rfl) ?_; refine ok_p rfl rfl rfl (by exact ps_assign rfl rfl) ?_; refine ok_nil ?_; refine ok_env [(0, _), (1, _)] ⟨rfl, rfl, trivial⟩ ?_)
      | (refine ok_region (i := 1) ?_; refine ok_p rfl rfl rfl (by exact ps_move rfl rfl) ?_; refine ok_p rfl rfl rfl (by exact ps_move rfl rfl) ?_; refine ok_m rfl rfl rfl (by exact ms_c3 rfl rfl rfl rfl (fun _ _ w hw => s_l6Vars_yes s z n q L hL hs hz hv w)) ?_; rintro y11 hy11; refine ok_p rfl rfl rfl (by exact ps_move rfl rfl) ?_; refine ok_p rfl rfl rfl (by exact ps_extract rfl rfl rfl) ?_; refine ok_p rfl rfl rfl (by exact ps_extract rfl rfl rfl) ?_; refine ok_p rfl rfl rfl (by exact ps_assign rfl rfl) ?_; refine ok_p rfl rfl rfl (by exact ps_assign rfl rfl) ?_; refine ok_nil ?_; refine ok_env [(0, _), (6, _), (7, _)] ⟨rfl, rfl, rfl, trivial⟩ ?_)
      | (refine ok_region (i := 2) ?_; refine ok_p rfl rfl rfl (by exact ps_move rfl rfl) ?_; refine ok_p rfl rfl rfl (by exact ps_int rfl rfl rfl rfl) ?_; refine ok_p rfl rfl rfl (by exact ps_move rfl rfl) ?_; refine ok_pg rfl rfl rfl rfl rfl (gF _) (fun hp => by (have hpd := hp; (try simp only [decide_eq_true_eq, decide_eq_false_iff_not, Bool.or_eq_true, Bool.or_eq_false_iff, Bool.and_eq_true, Bool.and_eq_false_iff, Bool.not_eq_true', Bool.not_eq_false', bne_iff_ne, beq_iff_eq, bne_eq_false_iff_eq, beq_eq_false_iff_ne, ne_eq, Bool.not_true, Bool.not_false, Bool.false_eq_true, Bool.true_eq_false, inB_true, inB_false] at hpd); exact ps_move rfl (by exact rfl))) ?_; refine ok_pg rfl rfl rfl rfl rfl (gF _) (fun hp => by (have hpd := hp; (try simp only [decide_eq_true_eq, decide_eq_false_iff_not, Bool.or_eq_true, Bool.or_eq_false_iff, Bool.and_eq_true, Bool.and_eq_false_iff, Bool.not_eq_true', Bool.not_eq_false', bne_iff_ne, beq_iff_eq, bne_eq_false_iff_eq, beq_eq_false_iff_ne, ne_eq, Bool.not_true, Bool.not_false, Bool.false_eq_true, Bool.true_eq_false, inB_true, inB_false] at hpd); exact ps_index rfl (by (refine og rfl ?_; assumption)) (by exact rfl) (by omega) (by exact isw_row 0 rfl (by omega)))) ?_; refine ok_pg rfl rfl rfl rfl rfl (gF _) (fun hp => by (have hpd := hp; (try simp only [decide_eq_true_eq, decide_eq_false_iff_not, Bool.or_eq_true, Bool.or_eq_false_iff, Bool.and_eq_true, Bool.and_eq_false_iff, Bool.not_eq_true', Bool.not_eq_false', bne_iff_ne, beq_iff_eq, bne_eq_false_iff_eq, beq_eq_false_iff_ne, ne_eq, Bool.not_true, Bool.not_false, Bool.false_eq_true, Bool.true_eq_false, inB_true, inB_false] at hpd); exact ps_load rfl (by (refine og rfl ?_; assumption)) (by exact Rds.cell (rds_row 0 rfl) (by exact fl_at0 _ _ (by omega) (by decide))))) ?_; refine ok_pg rfl rfl rfl rfl rfl (gF _) (fun hp => by (have hpd := hp; (try simp only [decide_eq_true_eq, decide_eq_false_iff_not, Bool.or_eq_true, Bool.or_eq_false_iff, Bool.and_eq_true, Bool.and_eq_false_iff, Bool.not_eq_true', Bool.not_eq_false', bne_iff_ne, beq_iff_eq, bne_eq_false_iff_eq, beq_eq_false_iff_ne, ne_eq, Bool.not_true, Bool.not_false, Bool.false_eq_true, Bool.true_eq_false, inB_true, inB_false] at hpd); exact ps_move rfl (by exact rfl))) ?_; refine ok_pg rfl rfl rfl rfl rfl (gF _) (fun hp => by (have hpd := hp; (try simp only [decide_eq_true_eq, decide_eq_false_iff_not, Bool.or_eq_true, Bool.or_eq_false_iff, Bool.and_eq_true, Bool.and_eq_false_iff, Bool.not_eq_true', Bool.not_eq_false', bne_iff_ne, beq_iff_eq, bne_eq_false_iff_eq, beq_eq_false_iff_ne, ne_eq, Bool.not_true, Bool.not_false, Bool.false_eq_true, Bool.true_eq_false, inB_true, inB_false] at hpd); exact ps_slen rfl (by (refine og rfl ?_; assumption)))) ?_; refine ok_pg rfl rfl rfl rfl rfl (gF _) (fun hp => by (have hpd := hp; (try simp only [decide_eq_true_eq, decide_eq_false_iff_not, Bool.or_eq_true, Bool.or_eq_false_iff, Bool.and_eq_true, Bool.and_eq_false_iff, Bool.not_eq_true', Bool.not_eq_false', bne_iff_ne, beq_iff_eq, bne_eq_false_iff_eq, beq_eq_false_iff_ne, ne_eq, Bool.not_true, Bool.not_false, Bool.false_eq_true, Bool.true_eq_false, inB_true, inB_false] at hpd); exact ps_move rfl (by exact rfl))) ?_; refine ok_pg rfl rfl rfl rfl rfl (gF _) (fun hp => by (have hpd := hp; (try simp only [decide_eq_true_eq, decide_eq_false_iff_not, Bool.or_eq_true, Bool.or_eq_false_iff, Bool.and_eq_true, Bool.and_eq_false_iff, Bool.not_eq_true', Bool.not_eq_false', bne_iff_ne, beq_iff_eq, bne_eq_false_iff_eq, beq_eq_false_iff_ne, ne_eq, Bool.not_true, Bool.not_false, Bool.false_eq_true, Bool.true_eq_false, inB_true, inB_false] at hpd); exact ps_sub rfl (by (refine og rfl ?_; assumption)) (by (refine og rfl ?_; assumption)) (by omega))) ?_; refine ok_pg rfl rfl rfl rfl rfl (gF _) (fun hp => by (have hpd := hp; (try simp only [decide_eq_true_eq, decide_eq_false_iff_not, Bool.or_eq_true, Bool.or_eq_false_iff, Bool.and_eq_true, Bool.and_eq_false_iff, Bool.not_eq_true', Bool.not_eq_false', bne_iff_ne, beq_iff_eq, bne_eq_false_iff_eq, beq_eq_false_iff_ne, ne_eq, Bool.not_true, Bool.not_false, Bool.false_eq_true, Bool.true_eq_false, inB_true, inB_false] at hpd); exact ps_int rfl (by (refine og rfl ?_; assumption)) (by (refine og rfl ?_; assumption)) rfl)) ?_; refine ok_p rfl rfl rfl (by exact ps_or rfl rfl rfl) ?_; refine ok_nil ?_; refine ok_env [(0, _), (6, _), (7, _), (25, _)] ⟨rfl, rfl, rfl, rfl, trivial⟩ ?_)
      | (refine ok_region (i := 3) ?_; refine ok_p rfl rfl rfl (by exact ps_assign rfl rfl) ?_; refine ok_p rfl rfl rfl (by exact ps_assign rfl rfl) ?_; refine ok_nil ?_; refine ok_env [(4, _), (5, _)] ⟨rfl, rfl, trivial⟩ ?_)
      | (refine ok_draw (id := 4) 15 rfl (by kernel_rfl) (by kernel_rfl) rfl (by repeat (first | exact pq_body | refine pq_then ?_ | refine pq_in ?_)) [0, 1, 2, 3, 4, 5, 6, 7, 8, 9, 10, 11, 12, 13, 14, 15, 16, 17, 18, 19, 20, 21, 22, 23] (by decide) rfl ?_; refine okT_take (i := 0) rfl (by kernel_rfl) rfl rfl rfl (by exact ps_move rfl rfl) ?_; refine okT_take (i := 1) rfl (by kernel_rfl) rfl rfl rfl (by exact ps_move rfl rfl) ?_; refine okT_take (i := 2) rfl (by kernel_rfl) rfl rfl rfl (by exact ps_move rfl rfl) ?_; refine okT_take (i := 3) rfl (by kernel_rfl) rfl rfl rfl (by exact ps_move rfl rfl) ?_; refine okT_take (i := 4) rfl (by kernel_rfl) rfl rfl rfl (by exact ps_index rfl rfl rfl (by omega) (by exact isw_row 0 rfl (by omega))) ?_; refine okT_take (i := 5) rfl (by kernel_rfl) rfl rfl rfl (by exact ps_load rfl rfl (by exact Rds.cell (rds_row 0 rfl) (by exact fl_at0 _ _ (by omega) (by decide)))) ?_; refine okT_take (i := 6) rfl (by kernel_rfl) rfl rfl rfl (by exact ps_add rfl rfl rfl (by omega)) ?_; refine okT_take (i := 7) rfl (by kernel_rfl) rfl rfl rfl (by exact ps_sslE q (q + n) rfl rfl ⟨_, _, rfl, rfl⟩ ⟨_, _, rfl, by omega⟩ (by omega) (by omega)) ?_; refine okT_take (i := 8) rfl (by kernel_rfl) rfl rfl rfl (by exact ps_move rfl rfl) ?_; refine okT_take (i := 9) rfl (by kernel_rfl) rfl rfl rfl (by exact ps_move rfl rfl) ?_; refine okT_take (i := 10) rfl (by kernel_rfl) rfl rfl rfl (by exact ps_index rfl rfl rfl (by omega) (by exact isw_row 0 rfl (by omega))) ?_; refine okT_take (i := 11) rfl (by kernel_rfl) rfl rfl rfl (by exact ps_load rfl rfl (by exact Rds.cell (rds_row 0 rfl) (by exact fl_at0 _ _ (by omega) (by decide)))) ?_; refine okT_take (i := 12) rfl (by kernel_rfl) rfl rfl rfl (by exact ps_add rfl rfl rfl (by omega)) ?_; refine okT_take (i := 13) rfl (by kernel_rfl) rfl rfl rfl (by exact ps_assign rfl rfl) ?_; refine okT_take (i := 14) rfl (by kernel_rfl) rfl rfl rfl (by exact ps_assign rfl rfl) ?_; refine okT_done (by kernel_rfl) ?_; refine ok_nil ?_; refine ok_env [(4, _), (5, _)] ⟨rfl, rfl, trivial⟩ ?_))
    · rw [if_neg (by omega)]
      exact ok_endL (vs := [_, _]) rfl ⟨rfl, rfl, trivial⟩ (fun w' hw => ⟨rfl, hw.below⟩)
    · rw [if_pos (by omega)]
      refine ok_endL (vs := [_, _]) rfl ⟨rfl, rfl, trivial⟩ (fun w' hw => ⟨?_, hw.below⟩)
      rw [h2]
      simp only [tkT, tkE, retV, Int.natCast_add]
end Go.Proofs.Ytfcnimglcialbaa
/- Changes as text, in plain Lean. -/
namespace Go.Proofs.Ytfcnimglcialbaa
set_option linter.unusedVariables false
/-- Pieces one behind the other. -/
def catS {α : Type} (f : α → ByteArray) (L : List α) : ByteArray := L.foldl (fun s x => s ++ f x) ⟨#[]⟩
theorem catS_nil {α : Type} (f : α → ByteArray) : catS f [] = ⟨#[]⟩ := rfl
theorem catS_snoc {α : Type} (f : α → ByteArray) (L : List α) (x : α) : catS f (L ++ [x]) = catS f L ++ f x := foldl_snoc _ L _ x
theorem catS_step {α : Type} [Dat α] (f : α → ByteArray) {L : List α} {k : Nat} (h : k < L.length) : catS f (L.take (k + 1)) = catS f (L.take k) ++ f (nth L k) := by rw [takeG h, catS_snoc]
theorem catS_size {α : Type} (f : α → ByteArray) (b : Nat) : ∀ (n : Nat) (L : List α), L.length = n → (∀ x ∈ L, (f x).size ≤ b) → (catS f L).size ≤ n * b
  | 0, L, hn, h => by rw [List.length_eq_zero_iff.1 hn]; exact Nat.zero_le _
  | n + 1, L, hn, h => by
    obtain ⟨x, hx⟩ : ∃ x, L = L.dropLast ++ [x] := ⟨L.getLast (by intro e; rw [e] at hn; cases hn), (List.dropLast_concat_getLast _).symm⟩
    have hl : L.dropLast.length = n := by rw [List.length_dropLast]; omega
    have h1 := catS_size f b n L.dropLast hl (fun y hy => h y (List.dropLast_subset _ hy))
    have h2 := h x (by rw [hx]; simp)
    rw [hx, catS_snoc, ByteArray.size_append, Nat.succ_mul]
    omega
theorem bl_cat {α : Type} (f : α → ByteArray) (L : List α) : bl (catS f L) = L.flatMap (fun x => bl (f x)) := by
  unfold catS
  have : ∀ (s : ByteArray), bl (L.foldl (fun s x => s ++ f x) s) = bl s ++ L.flatMap (fun x => bl (f x)) := by
    induction L with
    | nil => intro s; simp
    | cons x L ih => intro s; rw [List.foldl_cons, ih, bl_app, List.flatMap_cons, List.append_assoc]
  rw [this]; rfl
def kvS (x : KV) : ByteArray := pieceS x.key ++ pieceS x.val
def rawU (U : List KV) (k : Nat) : ByteArray := vS U.length ++ catS kvS (U.take k)
def rawD (U : List KV) (D : List ByteArray) (k : Nat) : ByteArray := (rawU U U.length ++ vS D.length) ++ catS pieceS (D.take k)
def rawX (x : DDelta) : ByteArray := rawD x.U x.D x.D.length
theorem rawU_zero (U : List KV) : rawU U 0 = vS U.length := by
  unfold rawU; rw [List.take_zero, catS_nil]; exact ByteArray.append_empty
theorem rawD_zero (U : List KV) (D : List ByteArray) : rawD U D 0 = rawU U U.length ++ vS D.length := by
  unfold rawD; rw [List.take_zero, catS_nil]; exact ByteArray.append_empty
theorem rawU_step {U : List KV} {k : Nat} (h : k < U.length) : rawU U (k + 1) = rawU U k ++ (pieceS (nth U k).key ++ pieceS (nth U k).val) := by
  unfold rawU; rw [catS_step _ h, ByteArray.append_assoc]; rfl
theorem rawD_step {U : List KV} {D : List ByteArray} {k : Nat} (h : k < D.length) : rawD U D (k + 1) = rawD U D k ++ pieceS (nth D k) := by
  unfold rawD; rw [catS_step _ h]; simp only [ByteArray.append_assoc]
def fShowDelta (x : DDelta) : ByteArray := if deltaOk x.U x.D = true then rawX x else ⟨#[]⟩
theorem kk_sz {s : ByteArray} (h : kk s = true) : s.size ≤ 10 := by unfold kk at h; rw [inB_true] at h; omega
theorem mapOk_sz {U : List KV} (h : mapOk U = true) : ∀ k, k < U.length → (nth U k).key.size ≤ 10 ∧ (nth U k).val.size ≤ 16 := fun k hk => by
  unfold mapOk at h
  rw [List.all_eq_true] at h
  have := h k (by simpa using hk)
  unfold okM at this
  simp only [Bool.not_eq_true', Bool.or_eq_false_iff, Bool.not_eq_false'] at this
  have h1 := kk_sz this.1.1
  have h2 := this.1.2
  simp at h2
  omega
theorem mapOk_mem {U : List KV} (h : mapOk U = true) : ∀ x ∈ U, x.key.size ≤ 10 ∧ x.val.size ≤ 16 := fun x hx => by
  obtain ⟨k, hk, e⟩ := List.getElem_of_mem hx
  have := mapOk_sz h k hk
  have e2 : nth U k = x := by unfold nth; rw [List.getD_eq_getElem?_getD, List.getElem?_eq_getElem hk, e]; rfl
  rwa [e2] at this
theorem deltaOk_map {U : List KV} {D : List ByteArray} (h : deltaOk U D = true) : mapOk U = true := by
  unfold deltaOk at h; rw [Bool.and_eq_true] at h; exact h.1
theorem deltaOk_szD {U : List KV} {D : List ByteArray} (h : deltaOk U D = true) : ∀ k, k < D.length → (nth D k).size ≤ 10 := fun k hk => by
  unfold deltaOk at h
  rw [Bool.and_eq_true, List.all_eq_true] at h
  have := h.2 k (by simpa using hk)
  unfold okD at this
  simp only [Bool.not_eq_true', Bool.or_eq_false_iff, Bool.not_eq_false'] at this
  exact kk_sz this.1.1
theorem deltaOk_memD {U : List KV} {D : List ByteArray} (h : deltaOk U D = true) : ∀ x ∈ D, x.size ≤ 10 := fun x hx => by
  obtain ⟨k, hk, e⟩ := List.getElem_of_mem hx
  have := deltaOk_szD h k hk
  have e2 : nth D k = x := by unfold nth; rw [List.getD_eq_getElem?_getD, List.getElem?_eq_getElem hk, e]; rfl
  rwa [e2] at this
theorem kvS_size {x : KV} (h : x.key.size ≤ 10 ∧ x.val.size ≤ 16) : (kvS x).size ≤ 46 := by
  have h1 := pieceS_size x.key
  have h2 := pieceS_size x.val
  unfold kvS; rw [ByteArray.size_append]; omega
theorem rawU_size {U : List KV} (h : mapOk U = true) (k : Nat) (hk : k ≤ U.length) : (rawU U k).size ≤ 10 + k * 46 := by
  have h1 := catS_size kvS 46 k (U.take k) (by rw [List.length_take]; omega) (fun x hx => kvS_size (mapOk_mem h x (List.mem_of_mem_take hx)))
  have h2 := vS_size U.length
  unfold rawU; rw [ByteArray.size_append]; omega
theorem rawD_size {U : List KV} {D : List ByteArray} (h : deltaOk U D = true) (k : Nat) (hk : k ≤ D.length) : (rawD U D k).size ≤ 20 + U.length * 46 + k * 20 := by
  have h1 := catS_size pieceS 20 k (D.take k) (by rw [List.length_take]; omega) (fun x hx => by have := deltaOk_memD h x (List.mem_of_mem_take hx); have := pieceS_size x; omega)
  have h2 := vS_size D.length
  have h3 := rawU_size (deltaOk_map h) U.length (Nat.le_refl _)
  unfold rawD; rw [ByteArray.size_append, ByteArray.size_append]; omega
/-- Reading: pairs, texts. -/
def pKV (s : ByteArray) : Nat → Nat → List KV → Option (List KV × Nat)
  | 0, k, L => some (L, k)
  | n + 1, k, L => (tkS s k).bind fun p => (tkS s p.2).bind fun q => pKV s n q.2 (L ++ [⟨p.1, q.1⟩])
def pST (s : ByteArray) : Nat → Nat → List ByteArray → Option (List ByteArray × Nat)
  | 0, k, L => some (L, k)
  | n + 1, k, L => (tkS s k).bind fun p => pST s n p.2 (L ++ [p.1])
def pU (s : ByteArray) : Option (List KV × Nat) := (tkN s 0).bind fun p => pKV s p.1 p.2 []
def pD (s : ByteArray) (k : Nat) : Option (List ByteArray × Nat) := (tkN s k).bind fun p => pST s p.1 p.2 []
def pX (s : ByteArray) : Option (DDelta × Nat) := (pU s).bind fun p => (pD s p.2).map fun q => (⟨p.1, q.1⟩, q.2)
def fReadDelta (s : ByteArray) : DDelta × Bool := match pX s with
  | none => (⟨[], []⟩, false)
  | some p => if fShowDelta p.1 = s then (p.1, true) else (⟨[], []⟩, false)
theorem pKV_len (s : ByteArray) : ∀ (n k : Nat) (L M : List KV) (e : Nat), k ≤ s.size → pKV s n k L = some (M, e) → k + 2 * n ≤ e ∧ e ≤ s.size ∧ M.length = L.length + n ∧ ∃ N : List KV, N.length = n ∧ M = L ++ N ∧ (bl s).drop k = N.flatMap (fun x => bl (kvS x)) ++ (bl s).drop e
  | 0, k, L, M, e, hk, h => by
    simp only [pKV, Option.some.injEq, Prod.mk.injEq] at h
    obtain ⟨rfl, rfl⟩ := h
    exact ⟨by omega, hk, by omega, [], rfl, by simp, by simp⟩
  | n + 1, k, L, M, e, hk, h => by
    rw [pKV] at h
    cases h1 : tkS s k with
    | none => rw [h1] at h; cases h
    | some p =>
      obtain ⟨r, a⟩ := p
      rw [h1] at h
      simp only [Option.bind_some] at h
      cases h2 : tkS s a with
      | none => rw [h2] at h; cases h
      | some q =>
        obtain ⟨t, b⟩ := q
        rw [h2] at h
        simp only [Option.bind_some] at h
        obtain ⟨a1, a2, a3⟩ := tkS_some h1
        obtain ⟨b1, b2, b3⟩ := tkS_some h2
        obtain ⟨c1, c2, c3, N, d1, d2, d3⟩ := pKV_len s n b (L ++ [⟨r, t⟩]) M e b2 h
        refine ⟨by omega, c2, by rw [c3, List.length_append, List.length_singleton]; omega, ⟨r, t⟩ :: N, by rw [List.length_cons, d1], by rw [d2, List.append_assoc]; rfl, ?_⟩
        rw [a3, b3, d3, List.flatMap_cons]
        unfold kvS
        rw [bl_app]
        simp only [List.append_assoc]
theorem pST_len (s : ByteArray) : ∀ (n k : Nat) (L M : List ByteArray) (e : Nat), k ≤ s.size → pST s n k L = some (M, e) → k + n ≤ e ∧ e ≤ s.size ∧ M.length = L.length + n ∧ ∃ N : List ByteArray, N.length = n ∧ M = L ++ N ∧ (bl s).drop k = N.flatMap (fun x => bl (pieceS x)) ++ (bl s).drop e
  | 0, k, L, M, e, hk, h => by
    simp only [pST, Option.some.injEq, Prod.mk.injEq] at h
    obtain ⟨rfl, rfl⟩ := h
    exact ⟨by omega, hk, by omega, [], rfl, by simp, by simp⟩
  | n + 1, k, L, M, e, hk, h => by
    rw [pST] at h
    cases h1 : tkS s k with
    | none => rw [h1] at h; cases h
    | some p =>
      obtain ⟨r, a⟩ := p
      rw [h1] at h
      simp only [Option.bind_some] at h
      obtain ⟨a1, a2, a3⟩ := tkS_some h1
      obtain ⟨c1, c2, c3, N, d1, d2, d3⟩ := pST_len s n a (L ++ [r]) M e a2 h
      refine ⟨by omega, c2, by rw [c3, List.length_append, List.length_singleton]; omega, r :: N, by rw [List.length_cons, d1], by rw [d2, List.append_assoc]; rfl, ?_⟩
      rw [a3, d3, List.flatMap_cons]
      simp only [List.append_assoc]
theorem pU_some {s : ByteArray} {U : List KV} {e : Nat} (h : pU s = some (U, e)) : e ≤ s.size ∧ 2 * U.length ≤ s.size ∧ bl s = bl (rawU U U.length) ++ (bl s).drop e := by
  unfold pU at h
  cases h1 : tkN s 0 with
  | none => rw [h1] at h; cases h
  | some p =>
    obtain ⟨n, a⟩ := p
    rw [h1] at h
    simp only [Option.bind_some] at h
    obtain ⟨a1, a2, a3, a4, a5⟩ := tkN_some h1
    obtain ⟨c1, c2, c3, N, d1, d2, d3⟩ := pKV_len s n a [] U e a2 h
    simp only [List.length_nil, Nat.zero_add, List.nil_append] at c3 d2
    subst d2
    refine ⟨c2, by omega, ?_⟩
    rw [List.drop_zero] at a5
    have q : bl s = varL n ++ (U.flatMap (fun x => bl (kvS x)) ++ (bl s).drop e) := a5.trans (by rw [d3])
    refine q.trans ?_
    unfold rawU
    rw [List.take_length, bl_app, bl_cat, c3, List.append_assoc]
    rfl
theorem pD_some {s : ByteArray} {D : List ByteArray} {k e : Nat} (h : pD s k = some (D, e)) : k < e ∧ e ≤ s.size ∧ D.length ≤ s.size ∧ (bl s).drop k = bl (vS D.length) ++ bl (catS pieceS D) ++ (bl s).drop e := by
  unfold pD at h
  cases h1 : tkN s k with
  | none => rw [h1] at h; cases h
  | some p =>
    obtain ⟨n, a⟩ := p
    rw [h1] at h
    simp only [Option.bind_some] at h
    obtain ⟨a1, a2, a3, a4, a5⟩ := tkN_some h1
    obtain ⟨c1, c2, c3, N, d1, d2, d3⟩ := pST_len s n a [] D e a2 h
    simp only [List.length_nil, Nat.zero_add, List.nil_append] at c3 d2
    subst d2
    refine ⟨by omega, c2, by omega, ?_⟩
    rw [a5, d3, bl_cat, c3, List.append_assoc]
    rfl
theorem pX_some {s : ByteArray} {x : DDelta} {e : Nat} (h : pX s = some (x, e)) : 0 < e ∧ e ≤ s.size ∧ x.U.length ≤ s.size ∧ x.D.length ≤ s.size ∧ bl s = bl (rawX x) ++ (bl s).drop e := by
  unfold pX at h
  cases h1 : pU s with
  | none => rw [h1] at h; cases h
  | some p =>
    obtain ⟨U, k⟩ := p
    rw [h1] at h
    simp only [Option.bind_some] at h
    cases h2 : pD s k with
    | none => rw [h2] at h; cases h
    | some q =>
      obtain ⟨D, e'⟩ := q
      rw [h2] at h
      simp only [Option.map_some, Option.some.injEq, Prod.mk.injEq] at h
      obtain ⟨rfl, rfl⟩ := h
      obtain ⟨a1, a2, a3⟩ := pU_some h1
      obtain ⟨b1, b2, b3, b4⟩ := pD_some h2
      refine ⟨by omega, b2, by show U.length ≤ _; omega, b3, ?_⟩
      refine a3.trans ((congrArg (fun q => bl (rawU U U.length) ++ q) b4).trans ?_)
      unfold rawX rawD
      simp only [List.take_length, bl_app, List.append_assoc]
/-- What shows as the text was read to its end. -/
theorem pX_end {s : ByteArray} {x : DDelta} {e : Nat} (h : pX s = some (x, e)) (hs : fShowDelta x = s) : e = s.size := by
  obtain ⟨h1, h2, _, _, h3⟩ := pX_some h
  unfold fShowDelta at hs
  split at hs
  · rw [hs] at h3
    have := congrArg List.length h3
    rw [List.length_append, List.length_drop, bl_len] at this
    omega
  · rw [← hs] at h2
    have : (⟨#[]⟩ : ByteArray).size = 0 := rfl
    omega
theorem read_none {s : ByteArray} (h : pX s = none) : fReadDelta s = (⟨[], []⟩, false) := by unfold fReadDelta; rw [h]
theorem read_yes {s : ByteArray} {x : DDelta} {e : Nat} (h : pX s = some (x, e)) (hs : fShowDelta x = s) : fReadDelta s = (x, true) := by unfold fReadDelta; rw [h]; simp only [hs, if_true]
theorem read_no {s : ByteArray} {x : DDelta} {e : Nat} (h : pX s = some (x, e)) (hs : ¬ fShowDelta x = s) : fReadDelta s = (⟨[], []⟩, false) := by unfold fReadDelta; rw [h]; simp only [hs, if_false]
theorem pU_none {s : ByteArray} (h : pU s = none) : pX s = none := by unfold pX; rw [h]; rfl
theorem pD_none {s : ByteArray} {U : List KV} {k : Nat} (h : pU s = some (U, k)) (h2 : pD s k = none) : pX s = none := by unfold pX; rw [h]; simp only [Option.bind_some, h2]; rfl
theorem pX_yes {s : ByteArray} {U : List KV} {D : List ByteArray} {k e : Nat} (h : pU s = some (U, k)) (h2 : pD s k = some (D, e)) : pX s = some (⟨U, D⟩, e) := by unfold pX; rw [h]; simp only [Option.bind_some, h2]; rfl
end Go.Proofs.Ytfcnimglcialbaa
/- ApplyDelta of both programs. -/
namespace Go.Proofs.Ytfcnimglcialbaa
open Go.RowKit
set_option maxHeartbeats 4000000
set_option maxRecDepth 20000
set_option linter.unusedVariables false
set_option linter.unusedSimpArgs false
attribute [local irreducible] Calls
theorem dropKey_c (A : Option Addr) (c : Nat) (R : List KV) (k : ByteArray) (hs : srtK R) (hl : R.length ≤ 4194304) {base : Nat} {w0 w : World} {H : List HObj} {G : List World} (hw : WOk base w0 (.row 162 2 A R.length c (fl R) :: H) G w) :
    Calls Try.prog 174 #[.slice A R.length c, .string k] w fun e w' => ∃ y : Ys, e = .returned (.slice A (drpF R k).length c) ∧ True ∧ WOk base w0 (.row 162 2 A (drpF R k).length c (fl (drpF R k)) :: H) G w' := by
  have hb : fndK R k = true → lbK R k < R.length := fnd_lt
  refine ok_enterW 20 Try.func174 rfl rfl rfl hw ?_
  repeat' (first
    | refine ok_seq ?_
    | refine ok_then ?_
    | refine ok_then_ret ?_
    | (refine ok_cond rfl (fun hc => ?_) (fun hc => ?_) <;> (have hd := hc; (try simp only [decide_eq_true_eq, decide_eq_false_iff_not, Bool.or_eq_true, Bool.or_eq_false_iff, Bool.and_eq_true, Bool.and_eq_false_iff, Bool.not_eq_true', Bool.not_eq_false', bne_iff_ne, beq_iff_eq, bne_eq_false_iff_eq, beq_eq_false_iff_ne, ne_eq, Bool.not_true, Bool.not_false, Bool.false_eq_true, Bool.true_eq_false, inB_true, inB_false] at hd)))
    | refine ok_ret ?_
    | refine ok_skip ?_
    | (refine ok_region (i := 0) ?_; refine ok_p rfl rfl rfl (by exact ps_assign rfl rfl) ?_; refine ok_nil ?_; refine ok_env [(0, _), (1, _)] ⟨rfl, rfl, trivial⟩ ?_)
    | (refine ok_region (i := 1) ?_; refine ok_p rfl rfl rfl (by exact ps_move rfl rfl) ?_; refine ok_p rfl rfl rfl (by exact ps_move rfl rfl) ?_; refine ok_m rfl rfl rfl (by exact ms_s2 rfl rfl rfl (fun _ _ w hw => findKey_c A c R k w (rds_row 0 rfl _ _ w hw) hl (srtK_iff.2 hs))) ?_; rintro y10 hy10; refine ok_p rfl rfl rfl (by exact ps_move rfl rfl) ?_; refine ok_p rfl rfl rfl (by exact ps_extract rfl rfl rfl) ?_; refine ok_p rfl rfl rfl (by exact ps_extract rfl rfl rfl) ?_; refine ok_p rfl rfl rfl (by exact ps_assign rfl rfl) ?_; refine ok_p rfl rfl rfl (by exact ps_assign rfl rfl) ?_; refine ok_nil ?_; refine ok_env [(0, _), (5, _), (6, _)] ⟨rfl, rfl, rfl, trivial⟩ ?_)
    | (refine ok_region (i := 2) ?_; refine ok_p rfl rfl rfl (by exact ps_move rfl rfl) ?_; refine ok_nil ?_; refine ok_env [(0, _), (5, _), (13, _)] ⟨rfl, rfl, rfl, trivial⟩ ?_)
    | (refine ok_region (i := 3) ?_; refine ok_p rfl rfl rfl (by exact ps_move rfl rfl) ?_; refine ok_p rfl rfl rfl (by exact ps_move rfl rfl) ?_; refine ok_p rfl rfl rfl (by exact ps_move rfl rfl) ?_; refine ok_p rfl rfl rfl (by exact ps_cast (v' := .int .i64 ((lbK R k + 1 : Nat) : Int)) (ps_add rfl rfl rfl (by have := hb (by assumption); omega)) (by rw [show ((lbK R k : Nat) : Int) + 1 = ((lbK R k + 1 : Nat) : Int) by omega])) ?_; refine ok_m rfl rfl rfl (by exact ms_w3 (fun _ _ _ h => h) rfl rfl rfl rfl (fun _ _ w hw => deleteV_c A c (lbK R k) (lbK R k + 1) R (by omega) (by have := hb (by assumption); omega) hl hw)) ?_; rintro y18 hy18; refine ok_p rfl rfl rfl (by exact ps_assign rfl rfl) ?_; refine ok_nil ?_; refine ok_env [(4, _)] ⟨rfl, trivial⟩ ?_)
    | (refine ok_region (i := 4) ?_; refine ok_p rfl rfl rfl (by exact ps_move rfl rfl) ?_; refine ok_p rfl rfl rfl (by exact ps_assign rfl rfl) ?_; refine ok_nil ?_; refine ok_env [(4, _)] ⟨rfl, trivial⟩ ?_))
  · rw [drp_yes hs (by assumption)]
    exact ok_endL (vs := [_]) rfl ⟨rfl, trivial⟩ (fun w' hw => ⟨mkY none 0 w', rfl, trivial, hw⟩)
  · rw [drp_no hs (by assumption)]
    exact ok_endL (vs := [_]) rfl ⟨rfl, trivial⟩ (fun w' hw => ⟨mkY none 0 w', rfl, trivial, hw⟩)
theorem setKey_c (A : Option Addr) (c : Nat) (R : List KV) (k v : ByteArray) (hs : srtK R) (hl : R.length ≤ 4194304) {base : Nat} {w0 w : World} {H : List HObj} {G : List World} (hw : WOk base w0 (.row 162 2 A R.length c (fl R) :: H) G w) :
    Calls Try.prog 175 #[.slice A R.length c, .string k, .string v] w fun e w' => ∃ y : Ys, e = .returned (.slice (y 0).A (putF R k v).length (y 0).c) ∧ True ∧ WOk base w0 (.row 162 2 (y 0).A (putF R k v).length (y 0).c (fl (putF R k v)) :: H) G w' := by
  have hb : fndK R k = true → lbK R k < R.length := fnd_lt
  have hle : lbK R k ≤ R.length := by have := congrArg List.length (hd_tl R k); rw [List.length_append, lb_len] at this; omega
  refine ok_enterW 29 Try.func175 rfl rfl rfl hw ?_
  repeat' (first
    | refine ok_seq ?_
    | refine ok_then ?_
    | refine ok_then_ret ?_
    | (refine ok_cond rfl (fun hc => ?_) (fun hc => ?_) <;> (have hd := hc; (try simp only [decide_eq_true_eq, decide_eq_false_iff_not, Bool.or_eq_true, Bool.or_eq_false_iff, Bool.and_eq_true, Bool.and_eq_false_iff, Bool.not_eq_true', Bool.not_eq_false', bne_iff_ne, beq_iff_eq, bne_eq_false_iff_eq, beq_eq_false_iff_ne, ne_eq, Bool.not_true, Bool.not_false, Bool.false_eq_true, Bool.true_eq_false, inB_true, inB_false] at hd)))
    | refine ok_ret ?_
    | refine ok_skip ?_
    | (refine ok_region (i := 0) ?_; refine ok_p rfl rfl rfl (by exact ps_assign rfl rfl) ?_; refine ok_nil ?_; refine ok_env [(0, _), (1, _), (2, _)] ⟨rfl, rfl, rfl, trivial⟩ ?_)
    | (refine ok_region (i := 1) ?_; refine ok_p rfl rfl rfl (by exact ps_move rfl rfl) ?_; refine ok_p rfl rfl rfl (by exact ps_move rfl rfl) ?_; refine ok_m rfl rfl rfl (by exact ms_s2 rfl rfl rfl (fun _ _ w hw => findKey_c A c R k w (rds_row 0 rfl _ _ w hw) hl (srtK_iff.2 hs))) ?_; rintro y12 hy12; refine ok_p rfl rfl rfl (by exact ps_move rfl rfl) ?_; refine ok_p rfl rfl rfl (by exact ps_extract rfl rfl rfl) ?_; refine ok_p rfl rfl rfl (by exact ps_extract rfl rfl rfl) ?_; refine ok_p rfl rfl rfl (by exact ps_assign rfl rfl) ?_; refine ok_p rfl rfl rfl (by exact ps_assign rfl rfl) ?_; refine ok_nil ?_; refine ok_env [(0, _), (1, _), (2, _), (7, _), (8, _)] ⟨rfl, rfl, rfl, rfl, rfl, trivial⟩ ?_)
    | (refine ok_region (i := 2) ?_; refine ok_p rfl rfl rfl (by exact ps_move rfl rfl) ?_; refine ok_nil ?_; refine ok_env [(0, _), (1, _), (2, _), (7, _), (15, _)] ⟨rfl, rfl, rfl, rfl, rfl, trivial⟩ ?_)
    | (refine ok_region (i := 3) ?_; refine ok_p rfl rfl rfl (by exact ps_move rfl rfl) ?_; refine ok_p rfl rfl rfl (by exact ps_move rfl rfl) ?_; refine ok_p rfl rfl rfl (by exact ps_move rfl rfl) ?_; refine ok_p rfl rfl rfl (by exact ps_indexN (i := lbK R k) rfl rfl rfl (hb (by assumption)) (isw_row 0 rfl (by have := hb (by assumption); omega))) ?_; refine ok_p rfl rfl rfl (by exact ps_field rfl rfl (isw_row 0 rfl (by have := hb (by assumption); omega))) ?_; refine ok_m_ rfl rfl (by exact ms_setc (α := KV) 0 (lbK R k) 1 ⟨(nth R (lbK R k)).key, v⟩ rfl rfl rfl rfl rfl rfl rfl rfl rfl (hb (by assumption))) ?_; rintro y_ hy_; refine ok_nil ?_; refine ok_env [(0, _)] ⟨rfl, trivial⟩ ?_)
    | (refine ok_region (i := 4) ?_; refine ok_p rfl rfl rfl (by exact ps_move rfl rfl) ?_; refine ok_p rfl rfl rfl (by exact ps_assign rfl rfl) ?_; refine ok_nil ?_; refine ok_env [(6, _)] ⟨rfl, trivial⟩ ?_)
    | (refine ok_region (i := 5) ?_; refine ok_p rfl rfl rfl (by exact ps_move rfl rfl) ?_; refine ok_p rfl rfl rfl (by exact ps_move rfl rfl) ?_; refine ok_p rfl rfl rfl (by exact ps_move rfl rfl) ?_; refine ok_p rfl rfl rfl (by exact ps_move rfl rfl) ?_; refine ok_p rfl rfl rfl (by exact ps_bld rfl (parts_cons rfl (parts_cons rfl parts_nil)) rfl) ?_; refine ok_m rfl rfl rfl (by exact ms_lit rfl (parts_cons rfl parts_nil) rfl rfl rfl) ?_; rintro y27 hy27; refine ok_m rfl rfl rfl (by exact ms_w3 (fun _ _ _ h => h.front 1 rfl) rfl rfl rfl rfl (fun _ _ w hw => insert_c A c (y27 0).c (lbK R k) R ⟨k, v⟩ hle hl hw)) ?_; rintro y28 hy28; refine ok_p rfl rfl rfl (by exact ps_assign rfl rfl) ?_; refine ok_nil ?_; refine ok_env [(6, _)] ⟨rfl, trivial⟩ ?_))
  · rw [put_yes hs v (by assumption)]
    exact ok_endL (vs := [_]) rfl ⟨rfl, trivial⟩ (fun w' hw => ⟨mkY A c w', by simp only [List.length_set]; rfl, trivial, by simp only [List.length_set]; exact hw⟩)
  · rw [put_no' hs v (by assumption)]
    exact ok_endL (vs := [_]) rfl ⟨rfl, trivial⟩ (fun w' hw => ⟨y28, rfl, trivial, hw⟩)
/-- What the reference does with the rest of a map. -/
def finP (k v : ByteArray) : List KV → Bool → List KV → List KV
  | [], b, O => if b = true then O else O ++ [⟨k, v⟩]
  | x :: D, b, O => if b = false ∧ sLt x.key k = false then (if neK k x = true then finP k v D true ((O ++ [⟨k, v⟩]) ++ [x]) else finP k v D true (O ++ [⟨k, v⟩])) else (if neK k x = true then finP k v D b (O ++ [x]) else finP k v D b O)
theorem finP_true (k v : ByteArray) : ∀ (D O : List KV), finP k v D true O = O ++ D.filter (neK k)
  | [], O => by simp [finP]
  | x :: D, O => by
    rw [finP, if_neg (by simp), List.filter_cons]
    split
    · rw [finP_true k v D, List.append_assoc]; rfl
    · rw [finP_true k v D]
theorem finP_false (k v : ByteArray) : ∀ (D O : List KV), finP k v D false O = O ++ (hdK D k ++ [⟨k, v⟩]) ++ (tlK D k).filter (neK k)
  | [], O => by simp [finP, hdK, tlK]
  | x :: D, O => by
    rw [finP]
    cases h : sLt x.key k
    · rw [if_pos ⟨rfl, rfl⟩]
      have e1 : hdK (x :: D) k = [] := by unfold hdK; rw [List.takeWhile_cons, h]; rfl
      have e2 : tlK (x :: D) k = x :: D := by unfold tlK; rw [List.dropWhile_cons, h]; rfl
      rw [e1, e2, List.filter_cons]
      split
      · rw [finP_true]; simp only [List.append_assoc]; rfl
      · rw [finP_true]; simp
    · rw [if_neg (by simp)]
      have e1 : hdK (x :: D) k = x :: hdK D k := by unfold hdK; rw [List.takeWhile_cons, h]; rfl
      have e2 : tlK (x :: D) k = tlK D k := by unfold tlK; rw [List.dropWhile_cons, h]; rfl
      have e3 : neK k x = true := by unfold neK; rw [sEq_irr h]; rfl
      rw [e1, e2, if_pos e3, finP_false k v D]
      simp only [List.append_assoc, List.cons_append, List.nil_append]
def opF (R : List KV) (k v : ByteArray) (d : Bool) : List KV := finP k v R d []
theorem opF_del (R : List KV) (k v : ByteArray) : opF R k v true = drpF R k := by unfold opF; rw [finP_true]; rfl
theorem opF_put (R : List KV) (k v : ByteArray) : opF R k v false = putF R k v := by unfold opF; rw [finP_false]; rfl
structure PutI (R : List KV) (k v : ByteArray) (d : Bool) where
  i : Nat
  b : Bool
  O : List KV
  A : Option Addr
  c : Nat
  hi : i ≤ R.length ∧ O.length ≤ i + 1 ∧ (b = false → O.length ≤ i)
  ok : finP k v (R.drop i) b O = opF R k v d
theorem dropG {R : List KV} {j : Nat} (h : j < R.length) : R.drop j = nth R j :: R.drop (j + 1) := by
  rw [List.drop_eq_getElem_cons h]
  simp [nth, h]
theorem s_l7Put_c (A : Option Addr) (c : Nat) (R : List KV) (k v : ByteArray) (d : Bool) (w : World) (h : Rd w A (fl R)) (hl : R.length ≤ 4194304) :
    Calls Try.prog 170 #[.slice A R.length c, .agg #[.string k, .bool d, .string v]] w fun e w' => ∃ y : Ys, e = .returned (.slice (y 0).A (opF R k v d).length (y 0).c) ∧ True ∧ Below w.heap.size w w' ∧ NewOk w.heap.size [.row 162 2 (y 0).A (opF R k v d).length (y 0).c (fl (opF R k v d))] [] w' := by
  refine ok_enter 63 Try.func170 rfl rfl rfl ?_
  repeat' (first
    | refine ok_seq ?_
    | refine ok_then ?_
    | refine ok_block ?_
    | (refine ok_region (i := 0) ?_; refine ok_m rfl rfl rfl (by exact ms_box rfl rfl rfl) ?_; rintro y3 hy3; refine ok_p rfl rfl rfl (by exact ps_assign rfl rfl) ?_; refine ok_nil ?_; refine ok_env [(0, _), (3, _)] ⟨rfl, rfl, trivial⟩ ?_)
    | (refine ok_region (i := 1) ?_; refine ok_m rfl rfl rfl (by exact ms_lit rfl parts_nil rfl rfl rfl) ?_; rintro y8 hy8; refine ok_p rfl rfl rfl (by exact ps_assign rfl rfl) ?_; refine ok_nil ?_; refine ok_env [(0, _), (3, _), (5, _)] ⟨rfl, rfl, rfl, trivial⟩ ?_)
    | (refine ok_region (i := 2) ?_; refine ok_p rfl rfl rfl (by exact ps_field rfl rfl (by exact isw_ga _)) ?_; refine ok_p rfl rfl rfl (by exact ps_load rfl rfl (by exact Rds.cell (rds_box 1 rfl) rfl)) ?_; refine ok_p rfl rfl rfl (by exact ps_assign rfl rfl) ?_; refine ok_nil ?_; refine ok_env [(0, _), (3, _), (5, _), (6, _)] ⟨rfl, rfl, rfl, rfl, trivial⟩ ?_)
    | (refine ok_region (i := 3) ?_; refine ok_p rfl rfl rfl (by exact ps_assign rfl rfl) ?_; refine ok_nil ?_; refine ok_env [(0, _), (3, _), (5, _), (6, _), (7, _)] ⟨rfl, rfl, rfl, rfl, rfl, trivial⟩ ?_))
  refine ok_loop (ι := PutI R k v d) (fun q => R.length - q.i) (fun q => ([(0, .slice A R.length c), (3, pt (ga (y3 0).c) 0), (5, .slice q.A q.O.length q.c), (6, .bool q.b), (7, .int .i64 q.i)], [.row 162 2 q.A q.O.length q.c (fl q.O), _], _)) ⟨0, d, [], none, 0, by simp, rfl⟩ (fun a w he hw => ⟨⟨0, d, [], ga (y8 0).c, 0, by simp, rfl⟩, he.sub ⟨rfl, rfl, rfl, rfl, rfl, trivial⟩, hw⟩) ?_
  rintro ⟨i, b, O, B, e, hi, ok⟩
  simp only at hi ok ⊢
  have OK := Lib.hid ok; clear ok
  repeat' (first
    | refine ok_seq ?_
    | refine ok_then ?_
    | refine ok_block ?_
    | refine ok_in_normal ?_
    | (refine ok_cond rfl (fun hc => ?_) (fun hc => ?_) <;> (have hd := hc; (try simp only [decide_eq_true_eq, decide_eq_false_iff_not, Bool.or_eq_true, Bool.or_eq_false_iff, Bool.and_eq_true, Bool.and_eq_false_iff, Bool.not_eq_true', Bool.not_eq_false', bne_iff_ne, beq_iff_eq, bne_eq_false_iff_eq, beq_eq_false_iff_ne, ne_eq, Bool.not_true, Bool.not_false, Bool.false_eq_true, Bool.true_eq_false, inB_true, inB_false] at hd)))
    | refine ok_ret ?_
    | refine ok_exit ?_
    | refine ok_skip ?_
    | (refine ok_region (i := 4) ?_; refine ok_p rfl rfl rfl (by exact ps_move rfl rfl) ?_; refine ok_p rfl rfl rfl (by exact ps_move rfl rfl) ?_; refine ok_p rfl rfl rfl (by exact ps_len rfl rfl) ?_; refine ok_p rfl rfl rfl (by exact ps_int rfl rfl rfl rfl) ?_; refine ok_nil ?_; refine ok_env [(0, _), (3, _), (5, _), (6, _), (7, _), (14, _)] ⟨rfl, rfl, rfl, rfl, rfl, rfl, trivial⟩ ?_)
    | (refine ok_region (i := 5) ?_; refine ok_p rfl rfl rfl (by exact ps_move rfl rfl) ?_; refine ok_p rfl rfl rfl (by exact ps_add rfl rfl rfl (by omega)) ?_; refine ok_p rfl rfl rfl (by exact ps_assign rfl rfl) ?_; refine ok_nil ?_; refine ok_env [(0, _), (3, _), (5, _), (6, _), (7, _)] ⟨rfl, rfl, rfl, rfl, rfl, trivial⟩ ?_)
    | (refine ok_draw (id := 6) 12 rfl (by kernel_rfl) (by kernel_rfl) rfl (by repeat (first | exact pq_body | refine pq_then ?_ | refine pq_in ?_)) [0, 1, 2, 3, 4, 5, 6, 7, 8, 9, 10, 11, 12, 13, 14, 15, 16, 17, 18, 19, 20, 21, 22, 23] (by decide) rfl ?_; refine okT_take (i := 0) rfl (by kernel_rfl) rfl rfl rfl (by exact ps_move rfl rfl) ?_; refine okT_take (i := 1) rfl (by kernel_rfl) rfl rfl rfl (by exact ps_not rfl rfl) ?_; refine okT_take (i := 2) rfl (by kernel_rfl) rfl rfl rfl (by exact ps_move rfl rfl) ?_; refine okT_take_g1 (i := 3) rfl (by kernel_rfl) rfl rfl rfl rfl rfl (gT _) (fun hp => by (have hpd := hp; (try simp only [decide_eq_true_eq, decide_eq_false_iff_not, Bool.or_eq_true, Bool.or_eq_false_iff, Bool.and_eq_true, Bool.and_eq_false_iff, Bool.not_eq_true', Bool.not_eq_false', bne_iff_ne, beq_iff_eq, bne_eq_false_iff_eq, beq_eq_false_iff_ne, ne_eq, Bool.not_true, Bool.not_false, Bool.false_eq_true, Bool.true_eq_false, inB_true, inB_false] at hpd); exact ps_move rfl (by exact rfl))) ?_; refine okT_take_g1 (i := 4) rfl (by kernel_rfl) rfl rfl rfl rfl rfl (gT _) (fun hp => by (have hpd := hp; (try simp only [decide_eq_true_eq, decide_eq_false_iff_not, Bool.or_eq_true, Bool.or_eq_false_iff, Bool.and_eq_true, Bool.and_eq_false_iff, Bool.not_eq_true', Bool.not_eq_false', bne_iff_ne, beq_iff_eq, bne_eq_false_iff_eq, beq_eq_false_iff_ne, ne_eq, Bool.not_true, Bool.not_false, Bool.false_eq_true, Bool.true_eq_false, inB_true, inB_false] at hpd); exact ps_move rfl (by exact rfl))) ?_; refine okT_take_g1 (i := 5) rfl (by kernel_rfl) rfl rfl rfl rfl rfl (gT _) (fun hp => by (have hpd := hp; (try simp only [decide_eq_true_eq, decide_eq_false_iff_not, Bool.or_eq_true, Bool.or_eq_false_iff, Bool.and_eq_true, Bool.and_eq_false_iff, Bool.not_eq_true', Bool.not_eq_false', bne_iff_ne, beq_iff_eq, bne_eq_false_iff_eq, beq_eq_false_iff_ne, ne_eq, Bool.not_true, Bool.not_false, Bool.false_eq_true, Bool.true_eq_false, inB_true, inB_false] at hpd); exact ps_indexN rfl (by (refine og rfl ?_; assumption)) (by (refine og rfl ?_; assumption)) (by omega) (by exact isw_of (isS_fl (by assumption) (by omega))))) ?_; refine okT_take_g1 (i := 6) rfl (by kernel_rfl) rfl rfl rfl rfl rfl (gT _) (fun hp => by (have hpd := hp; (try simp only [decide_eq_true_eq, decide_eq_false_iff_not, Bool.or_eq_true, Bool.or_eq_false_iff, Bool.and_eq_true, Bool.and_eq_false_iff, Bool.not_eq_true', Bool.not_eq_false', bne_iff_ne, beq_iff_eq, bne_eq_false_iff_eq, beq_eq_false_iff_ne, ne_eq, Bool.not_true, Bool.not_false, Bool.false_eq_true, Bool.true_eq_false, inB_true, inB_false] at hpd); exact ps_field rfl (by (refine og rfl ?_; assumption)) (by exact isw_of (isS_fl (by assumption) (by omega))))) ?_; refine okT_take_g1 (i := 7) rfl (by kernel_rfl) rfl rfl rfl rfl rfl (gT _) (fun hp => by (have hpd := hp; (try simp only [decide_eq_true_eq, decide_eq_false_iff_not, Bool.or_eq_true, Bool.or_eq_false_iff, Bool.and_eq_true, Bool.and_eq_false_iff, Bool.not_eq_true', Bool.not_eq_false', bne_iff_ne, beq_iff_eq, bne_eq_false_iff_eq, beq_eq_false_iff_ne, ne_eq, Bool.not_true, Bool.not_false, Bool.false_eq_true, Bool.true_eq_false, inB_true, inB_false] at hpd); exact ps_load rfl (by (refine og rfl ?_; assumption)) (by exact Rds.cell (rds_rf (by assumption) (by exact List.mem_cons_self)) (by exact fl_at0 _ _ (by omega) (by decide))))) ?_; refine okT_take_g1 (i := 8) rfl (by kernel_rfl) rfl rfl rfl rfl rfl (gT _) (fun hp => by (have hpd := hp; (try simp only [decide_eq_true_eq, decide_eq_false_iff_not, Bool.or_eq_true, Bool.or_eq_false_iff, Bool.and_eq_true, Bool.and_eq_false_iff, Bool.not_eq_true', Bool.not_eq_false', bne_iff_ne, beq_iff_eq, bne_eq_false_iff_eq, beq_eq_false_iff_ne, ne_eq, Bool.not_true, Bool.not_false, Bool.false_eq_true, Bool.true_eq_false, inB_true, inB_false] at hpd); exact ps_field rfl (by exact rfl) (by exact isw_ga _))) ?_; refine okT_take_g1 (i := 9) rfl (by kernel_rfl) rfl rfl rfl rfl rfl (gT _) (fun hp => by (have hpd := hp; (try simp only [decide_eq_true_eq, decide_eq_false_iff_not, Bool.or_eq_true, Bool.or_eq_false_iff, Bool.and_eq_true, Bool.and_eq_false_iff, Bool.not_eq_true', Bool.not_eq_false', bne_iff_ne, beq_iff_eq, bne_eq_false_iff_eq, beq_eq_false_iff_ne, ne_eq, Bool.not_true, Bool.not_false, Bool.false_eq_true, Bool.true_eq_false, inB_true, inB_false] at hpd); exact ps_load rfl (by (refine og rfl ?_; assumption)) (by exact Rds.cell (rds_box 1 rfl) rfl))) ?_; refine okT_take_g1 (i := 10) rfl (by kernel_rfl) rfl rfl rfl rfl rfl (gT _) (fun hp => by (have hpd := hp; (try simp only [decide_eq_true_eq, decide_eq_false_iff_not, Bool.or_eq_true, Bool.or_eq_false_iff, Bool.and_eq_true, Bool.and_eq_false_iff, Bool.not_eq_true', Bool.not_eq_false', bne_iff_ne, beq_iff_eq, bne_eq_false_iff_eq, beq_eq_false_iff_ne, ne_eq, Bool.not_true, Bool.not_false, Bool.false_eq_true, Bool.true_eq_false, inB_true, inB_false] at hpd); exact ps_str rfl (by (refine og rfl ?_; assumption)) (by (refine og rfl ?_; assumption)) rfl)) ?_; refine okT_take (i := 11) rfl (by kernel_rfl) rfl rfl rfl (by exact ps_and rfl rfl rfl) ?_; refine okT_done (by kernel_rfl) ?_; refine ok_nil ?_; refine ok_env [(0, _), (3, _), (5, _), (6, _), (7, _), (28, _)] ⟨rfl, rfl, rfl, rfl, rfl, rfl, trivial⟩ ?_)
    | (refine ok_region (i := 7) ?_; refine ok_p rfl rfl rfl (by exact ps_move rfl rfl) ?_; refine ok_p rfl rfl rfl (by exact ps_field rfl rfl (by exact isw_ga _)) ?_; refine ok_p rfl rfl rfl (by exact ps_load rfl rfl (by exact Rds.cell (rds_box 1 rfl) rfl)) ?_; refine ok_p rfl rfl rfl (by exact ps_field rfl rfl (by exact isw_ga _)) ?_; refine ok_p rfl rfl rfl (by exact ps_load rfl rfl (by exact Rds.cell (rds_box 1 rfl) rfl)) ?_; refine ok_p rfl rfl rfl (by exact ps_bld rfl (parts_cons rfl (parts_cons rfl parts_nil)) rfl) ?_; refine ok_m rfl rfl rfl (by exact ms_lit rfl (parts_cons rfl parts_nil) rfl rfl rfl) ?_; rintro y35 hy35; refine ok_m rfl rfl rfl (by exact ms_appF (α := KV) (L := O) (M := [(⟨k, v⟩ : KV)]) 1 rfl rfl rfl rfl (rds_row 0 rfl) rfl (by simp; omega) (by simp; omega)) ?_; rintro y36 hy36; refine ok_p rfl rfl rfl (by exact ps_assign rfl rfl) ?_; refine ok_nil ?_; refine ok_env [(0, _), (3, _), (5, _), (7, _)] ⟨rfl, rfl, rfl, rfl, trivial⟩ ?_)
    | (refine ok_region (i := 8) ?_; refine ok_p rfl rfl rfl (by exact ps_assign rfl rfl) ?_; refine ok_nil ?_; refine ok_env [(0, _), (3, _), (5, _), (6, _), (7, _)] ⟨rfl, rfl, rfl, rfl, rfl, trivial⟩ ?_)
    | (refine ok_draw (id := 9) 8 rfl (by kernel_rfl) (by kernel_rfl) rfl (by repeat (first | exact pq_body | refine pq_then ?_ | refine pq_in ?_)) [0, 1, 2, 3, 4, 5, 6, 7, 8, 9, 10, 11, 12, 13, 14, 15, 16, 17, 18, 19, 20, 21, 22, 23] (by decide) rfl ?_; refine okT_take (i := 0) rfl (by kernel_rfl) rfl rfl rfl (by exact ps_move rfl rfl) ?_; refine okT_take (i := 1) rfl (by kernel_rfl) rfl rfl rfl (by exact ps_move rfl rfl) ?_; refine okT_take (i := 2) rfl (by kernel_rfl) rfl rfl rfl (by exact ps_indexN rfl rfl rfl (by omega) (by exact isw_of (isS_fl (by assumption) (by omega)))) ?_; refine okT_take (i := 3) rfl (by kernel_rfl) rfl rfl rfl (by exact ps_field rfl rfl (by exact isw_of (isS_fl (by assumption) (by omega)))) ?_; refine okT_take (i := 4) rfl (by kernel_rfl) rfl rfl rfl (by exact ps_load rfl rfl (by exact Rds.cell (rds_rf (by assumption) (by exact List.mem_cons_self)) (by exact fl_at0 _ _ (by omega) (by decide)))) ?_; refine okT_take (i := 5) rfl (by kernel_rfl) rfl rfl rfl (by exact ps_field rfl rfl (by exact isw_ga _)) ?_; refine okT_take (i := 6) rfl (by kernel_rfl) rfl rfl rfl (by exact ps_load rfl rfl (by first | exact Rds.cell (rds_box 1 rfl) rfl | exact Rds.cell (rds_box 2 rfl) rfl)) ?_; refine okT_take (i := 7) rfl (by kernel_rfl) rfl rfl rfl (by exact ps_str rfl rfl rfl rfl) ?_; refine okT_done (by kernel_rfl) ?_; refine ok_nil ?_; refine ok_env [(0, _), (3, _), (5, _), (6, _), (7, _), (44, _)] ⟨rfl, rfl, rfl, rfl, rfl, rfl, trivial⟩ ?_)
    | (refine ok_region (i := 10) ?_; refine ok_p rfl rfl rfl (by exact ps_move rfl rfl) ?_; refine ok_p rfl rfl rfl (by exact ps_move rfl rfl) ?_; refine ok_p rfl rfl rfl (by exact ps_move rfl rfl) ?_; refine ok_p rfl rfl rfl (by exact ps_indexN rfl rfl rfl (by omega) (by exact isw_of (isS_fl (by assumption) (by omega)))) ?_; refine ok_p rfl rfl rfl (by exact ps_loadsF rfl rfl (by exact rds_rf (by assumption) (by exact List.mem_cons_self)) (by rfl) (by rfl) (by omega) rfl) ?_; refine ok_m rfl rfl rfl (by exact ms_lit rfl (parts_cons rfl parts_nil) rfl rfl rfl) ?_; rintro y50 hy50; refine ok_m rfl rfl rfl (by first | exact ms_appF (α := KV) (L := O) (M := [nth R i]) 1 rfl rfl rfl rfl (rds_row 0 rfl) rfl (by simp; omega) (by simp; omega) | exact ms_appN (α := KV) (O ++ [(⟨k, v⟩ : KV)]) [nth R i] 2 rfl rfl rfl rfl (rds_row 0 rfl) rfl (by simp) rfl (by simp; omega) (by simp; omega)) ?_; rintro y51 hy51; refine ok_p rfl rfl rfl (by exact ps_assign rfl rfl) ?_; refine ok_nil ?_; refine ok_env [(0, _), (3, _), (5, _), (6, _), (7, _)] ⟨rfl, rfl, rfl, rfl, rfl, trivial⟩ ?_)
    | (refine ok_region (i := 11) ?_; refine ok_p rfl rfl rfl (by exact ps_move rfl rfl) ?_; refine ok_p rfl rfl rfl (by exact ps_not rfl rfl) ?_; refine ok_nil ?_; refine ok_env [(3, _), (5, _), (53, _)] ⟨rfl, rfl, rfl, trivial⟩ ?_)
    | (refine ok_region (i := 12) ?_; refine ok_p rfl rfl rfl (by exact ps_move rfl rfl) ?_; refine ok_p rfl rfl rfl (by exact ps_field rfl rfl (by exact isw_ga _)) ?_; refine ok_p rfl rfl rfl (by exact ps_load rfl rfl (by exact Rds.cell (rds_box 1 rfl) rfl)) ?_; refine ok_p rfl rfl rfl (by exact ps_field rfl rfl (by exact isw_ga _)) ?_; refine ok_p rfl rfl rfl (by exact ps_load rfl rfl (by exact Rds.cell (rds_box 1 rfl) rfl)) ?_; refine ok_p rfl rfl rfl (by exact ps_bld rfl (parts_cons rfl (parts_cons rfl parts_nil)) rfl) ?_; refine ok_m rfl rfl rfl (by exact ms_lit rfl (parts_cons rfl parts_nil) rfl rfl rfl) ?_; rintro y60 hy60; refine ok_m rfl rfl rfl (by exact ms_appF (α := KV) (L := O) (M := [(⟨k, v⟩ : KV)]) 1 rfl rfl rfl rfl (rds_row 0 rfl) rfl (by simp; omega) (by simp; omega)) ?_; rintro y61 hy61; refine ok_p rfl rfl rfl (by exact ps_assign rfl rfl) ?_; refine ok_nil ?_; refine ok_env [(5, _)] ⟨rfl, trivial⟩ ?_)
    | (refine ok_region (i := 13) ?_; refine ok_p rfl rfl rfl (by exact ps_move rfl rfl) ?_; refine ok_p rfl rfl rfl (by exact ps_assign rfl rfl) ?_; refine ok_nil ?_; refine ok_env [(4, _)] ⟨rfl, trivial⟩ ?_))
  · have hb := ‹b = false ∧ sLt (nth R i).key k = false›
    have e1 : finP k v (R.drop (i + 1)) true ((O ++ [⟨k, v⟩]) ++ [nth R i]) = opF R k v d := by
      have q := OK.out
      rw [dropG (j := i) (by omega), finP, if_pos hb, if_pos (by unfold neK; rw [hd]; rfl)] at q
      exact q
    refine fun a w' he hw => ⟨⟨i + 1, true, (O ++ [⟨k, v⟩]) ++ [nth R i], (y51 0).A, (y51 0).c, by have := hi.2.2 hb.1; simp; omega, e1⟩, by simp only; omega, he.sub ⟨rfl, rfl, by simp only [List.length_append]; rfl, rfl, rfl, trivial⟩, ?_⟩
    have := hw.tl.tl
    simp only [List.length_append] at this ⊢
    exact this
  · have hb := ‹b = false ∧ sLt (nth R i).key k = false›
    have e1 : finP k v (R.drop (i + 1)) true (O ++ [⟨k, v⟩]) = opF R k v d := by
      have q := OK.out
      rw [dropG (j := i) (by omega), finP, if_pos hb, if_neg (by unfold neK; rw [hd]; decide)] at q
      exact q
    refine fun a w' he hw => ⟨⟨i + 1, true, O ++ [⟨k, v⟩], (y36 0).A, (y36 0).c, by have := hi.2.2 hb.1; simp; omega, e1⟩, by simp only; omega, he.sub ⟨rfl, rfl, by simp only [List.length_append]; rfl, rfl, rfl, trivial⟩, ?_⟩
    have := hw.tl
    simp only [List.length_append] at this ⊢
    exact this
  · have hb : ¬ (b = false ∧ sLt (nth R i).key k = false) := by
      rcases ‹b = true ∨ sLt (nth R i).key k = true› with h1 | h1
      · rw [h1]; simp
      · rw [h1]; simp
    have e1 : finP k v (R.drop (i + 1)) b (O ++ [nth R i]) = opF R k v d := by
      have q := OK.out
      rw [dropG (j := i) (by omega), finP, if_neg hb, if_pos (by unfold neK; rw [hd]; rfl)] at q
      exact q
    refine fun a w' he hw => ⟨⟨i + 1, b, O ++ [nth R i], (y51 0).A, (y51 0).c, ⟨by omega, by simp; omega, fun h => by have := hi.2.2 h; simp; omega⟩, e1⟩, by simp only; omega, he.sub ⟨rfl, rfl, by simp only [List.length_append]; rfl, rfl, rfl, trivial⟩, ?_⟩
    have := hw.tl
    simp only [List.length_append] at this ⊢
    exact this
  · have hb : ¬ (b = false ∧ sLt (nth R i).key k = false) := by
      rcases ‹b = true ∨ sLt (nth R i).key k = true› with h1 | h1
      · rw [h1]; simp
      · rw [h1]; simp
    have e1 : finP k v (R.drop (i + 1)) b O = opF R k v d := by
      have q := OK.out
      rw [dropG (j := i) (by omega), finP, if_neg hb, if_neg (by unfold neK; rw [hd]; decide)] at q
      exact q
    exact fun a w' he hw => ⟨⟨i + 1, b, O, B, e, ⟨by omega, by omega, fun h => by have := hi.2.2 h; omega⟩, e1⟩, by simp only; omega, he.sub ⟨rfl, rfl, rfl, rfl, rfl, trivial⟩, hw⟩
  all_goals
    have eD : R.drop i = [] := List.drop_of_length_le (by omega)
    have e2 := OK.out
    rw [eD, finP] at e2
  · rw [if_neg (by rw [hd]; decide)] at e2
    rw [← e2]
    refine ok_endL (vs := [_]) rfl ⟨rfl, trivial⟩ (fun w' hw => ⟨y61, by simp only [List.length_append]; rfl, trivial, hw.below, ?_⟩)
    have := NewOk.of (hw.sel [1] (by decide) rfl (G' := []) (fun _ h => by cases h))
    simp only [List.length_append] at this ⊢
    exact this
  · rw [if_pos hd] at e2
    rw [← e2]
    exact ok_endL (vs := [_]) rfl ⟨rfl, trivial⟩ (fun w' hw => ⟨mkY B e w', rfl, trivial, hw.below, NewOk.of (hw.sel [0] (by decide) rfl (G' := []) (fun _ h => by cases h))⟩)
theorem s_put_del (A : Option Addr) (c : Nat) (R : List KV) (k : ByteArray) (w : World) (h : Rd w A (fl R)) (hl : R.length ≤ 4194304) :
    Calls Try.prog 170 #[.slice A R.length c, .agg #[.string k, .bool true, .string ⟨#[]⟩]] w fun e w' => ∃ y : Ys, e = .returned (.slice (y 0).A (drpF R k).length (y 0).c) ∧ True ∧ Below w.heap.size w w' ∧ NewOk w.heap.size [.row 162 2 (y 0).A (drpF R k).length (y 0).c (fl (drpF R k))] [] w' := by
  have q := s_l7Put_c A c R k ⟨#[]⟩ true w h hl
  rw [opF_del] at q; exact q
theorem s_put_put (A : Option Addr) (c : Nat) (R : List KV) (k v : ByteArray) (w : World) (h : Rd w A (fl R)) (hl : R.length ≤ 4194304) :
    Calls Try.prog 170 #[.slice A R.length c, .agg #[.string k, .bool false, .string v]] w fun e w' => ∃ y : Ys, e = .returned (.slice (y 0).A (putF R k v).length (y 0).c) ∧ True ∧ Below w.heap.size w w' ∧ NewOk w.heap.size [.row 162 2 (y 0).A (putF R k v).length (y 0).c (fl (putF R k v))] [] w' := by
  have q := s_l7Put_c A c R k v false w h hl
  rw [opF_put] at q; exact q
def fApplyDelta (a : DKVS) (d : DDelta) : DKVS × Bool := if mapOk a = true then (if deltaOk d.U d.D = true then (putsF d.U (dropsF d.D a), true) else (a, false)) else ([], false)
theorem app_no {a : DKVS} {d : DDelta} (h : mapOk a = false) : fApplyDelta a d = ([], false) := by unfold fApplyDelta; rw [if_neg (by rw [h]; decide)]
theorem app_half {a : DKVS} {d : DDelta} (h : mapOk a = true) (h2 : deltaOk d.U d.D = false) : fApplyDelta a d = (a, false) := by unfold fApplyDelta; rw [if_pos h, if_neg (by rw [h2]; decide)]
theorem app_yes {a : DKVS} {d : DDelta} (h : mapOk a = true) (h2 : deltaOk d.U d.D = true) : fApplyDelta a d = (putsF d.U (dropsF d.D a), true) := by unfold fApplyDelta; rw [if_pos h, if_pos h2]
theorem drops_all (D : List ByteArray) (R : List KV) : dropsF (D.take D.length) R = dropsF D R := by rw [List.take_length]
theorem puts_all (U R : List KV) : putsF (U.take U.length) R = putsF U R := by rw [List.take_length]
theorem kvs_nil (n : Nat) (w : World) : NewOk n (KVS_obj [] (mkY none 0 w)) [] w := NewOk.one (x := .row 162 2 none 0 0 (fl ([] : List KV))) (Own.nil w n 162 2)
structure ApI (n : Nat) where
  k : Nat
  A : Option Addr
  c : Nat
  hk : k ≤ n
attribute [local irreducible] deltaOk mapOk dropsF putsF
theorem i_ApplyDelta (a : DKVS) (Y0 : Ys) (d : DDelta) (Y1 : Ys) (w : World) (h0 : KVS_rd w a Y0) (h1 : Delta_rd w d Y1) (s0 : KVS_sm a) (s1 : Delta_sm d) :
    Calls Try.prog 72 #[KVS_val a Y0, Delta_val d Y1] w fun e w' => ∃ y : Ys, e = .returned (.tuple #[KVS_val (fApplyDelta a d).1 y, .bool (fApplyDelta a d).2]) ∧ True ∧ Below w.heap.size w w' ∧ NewOk w.heap.size (KVS_obj (fApplyDelta a d).1 y) [] w' := by
  obtain ⟨U, D⟩ := d
  have m0 := s0.1
  have m1 := s1.1.1
  have m2 := s1.2.1
  obtain ⟨hU, hD⟩ := h1
  simp only at m1 m2 hU hD
  unfold KVS_rd at h0
  clear s0 s1
  refine ok_enter 46 Try.func72 rfl rfl rfl ?_
  repeat' (first
    | refine ok_seq ?_
    | refine ok_then ?_
    | refine ok_then_ret ?_
    | refine ok_block ?_
    | (refine ok_cond rfl (fun hc => ?_) (fun hc => ?_) <;> (have hd := hc; (try simp only [decide_eq_true_eq, decide_eq_false_iff_not, Bool.or_eq_true, Bool.or_eq_false_iff, Bool.and_eq_true, Bool.and_eq_false_iff, Bool.not_eq_true', Bool.not_eq_false', bne_iff_ne, beq_iff_eq, bne_eq_false_iff_eq, beq_eq_false_iff_ne, ne_eq, Bool.not_true, Bool.not_false, Bool.false_eq_true, Bool.true_eq_false, inB_true, inB_false] at hd)))
    | refine ok_ret ?_
    | refine ok_skip ?_
    | (refine ok_region (i := 0) ?_; refine ok_m rfl rfl rfl (by exact ms_box rfl rfl rfl) ?_; rintro y3 hy3; refine ok_p rfl rfl rfl (by exact ps_assign rfl rfl) ?_; refine ok_p rfl rfl rfl (by exact ps_assign rfl rfl) ?_; refine ok_nil ?_; refine ok_env [(0, _), (3, _)] ⟨rfl, rfl, trivial⟩ ?_)
    | (refine ok_region (i := 1) ?_; refine ok_p rfl rfl rfl (by exact ps_move rfl rfl) ?_; refine ok_m rfl rfl rfl (by exact ms_s1 rfl rfl (fun _ _ w hw => i_MapOk _ _ a w (rds_rf h0 (by exact List.mem_cons_self) _ _ w hw) m0)) ?_; rintro y12 hy12; refine ok_p rfl rfl rfl (by exact ps_not rfl rfl) ?_; refine ok_nil ?_; refine ok_env [(0, _), (3, _), (13, _)] ⟨rfl, rfl, rfl, trivial⟩ ?_)
    | (refine ok_region (i := 2) ?_; refine ok_p rfl rfl rfl (by exact ps_assign rfl rfl) ?_; refine ok_p rfl rfl rfl (by exact ps_assign rfl rfl) ?_; refine ok_nil ?_; refine ok_env [(4, _), (5, _)] ⟨rfl, rfl, trivial⟩ ?_)
    | (refine ok_region (i := 3) ?_; refine ok_p rfl rfl rfl (by exact ps_move rfl rfl) ?_; refine ok_m rfl rfl rfl (by exact ms_c1 rfl rfl (fun _ _ w hw => cloneV_c _ _ a w (rds_rf h0 (by exact List.mem_cons_self) _ _ w hw) (by omega))) ?_; rintro y15 hy15; refine ok_p rfl rfl rfl (by exact ps_assign rfl rfl) ?_; refine ok_nil ?_; refine ok_env [(3, _), (6, _)] ⟨rfl, rfl, trivial⟩ ?_)
    | (refine ok_region (i := 4) ?_; refine ok_p rfl rfl rfl (by exact ps_loads rfl rfl (by exact rds_box 1 rfl) rfl rfl (by decide)) ?_; refine ok_m rfl rfl rfl (by exact ms_s1 rfl rfl (fun _ _ w hw => i_DeltaOk _ _ _ _ U D w (rds_rf hU (by exact List.mem_cons_self) _ _ w hw) (rds_rf hD (by exact List.mem_cons_self) _ _ w hw) m1 m2)) ?_; rintro y17 hy17; refine ok_p rfl rfl rfl (by exact ps_not rfl rfl) ?_; refine ok_nil ?_; refine ok_env [(3, _), (6, _), (18, _)] ⟨rfl, rfl, rfl, trivial⟩ ?_)
    | (refine ok_region (i := 5) ?_; refine ok_p rfl rfl rfl (by exact ps_move rfl rfl) ?_; refine ok_p rfl rfl rfl (by exact ps_assign rfl rfl) ?_; refine ok_p rfl rfl rfl (by exact ps_assign rfl rfl) ?_; refine ok_nil ?_; refine ok_env [(4, _), (5, _)] ⟨rfl, rfl, trivial⟩ ?_)
    | (refine ok_region (i := 6) ?_; refine ok_p rfl rfl rfl (by exact ps_field rfl rfl (by exact isw_ga _)) ?_; refine ok_p rfl rfl rfl (by exact ps_load rfl rfl (by exact Rds.cell (rds_box 1 rfl) rfl)) ?_; refine ok_p rfl rfl rfl (by exact ps_len rfl rfl) ?_; refine ok_p rfl rfl rfl (by exact ps_move rfl rfl) ?_; refine ok_nil ?_; refine ok_env [(3, _), (6, _), (21, _), (22, _), (23, _)] ⟨rfl, rfl, rfl, rfl, rfl, trivial⟩ ?_))
  · rw [app_no hd]
    refine ok_endL (vs := [_, _]) rfl ⟨rfl, rfl, trivial⟩ (fun w' hw => ?_)
    exact ⟨mkY none 0 w', rfl, trivial, hw.below, kvs_nil _ _⟩
  · rw [app_half (by assumption) hd]
    refine ok_endL (vs := [_, _]) rfl ⟨rfl, rfl, trivial⟩ (fun w' hw => ?_)
    exact ⟨y15, rfl, trivial, hw.below, NewOk.of (hw.sel [0] (by decide) rfl (G' := []) (fun _ h => by cases h))⟩
  have hm : mapOk a = true := by assumption
  have hs := srtK_iff.1 (sortedK_of hm)
  rw [app_yes hm hd]
  clear hc hd
  have e0 : dropsF (D.take 0) a = a := by unfold dropsF; rw [List.take_zero]; rfl
  refine ok_loop (ι := { k : Nat // k ≤ D.length }) (fun q => D.length - q.1) (fun q => ([(3, pt (ga (y3 0).c) 0), (6, .slice (y15 0).A (dropsF (D.take q.1) a).length (y15 0).c), (21, .slice (Y1 1).A D.length (Y1 1).c), (22, .int .i64 D.length), (23, .int .i64 q.1)], [.row 162 2 (y15 0).A (dropsF (D.take q.1) a).length (y15 0).c (fl (dropsF (D.take q.1) a)), _], _)) ⟨0, by omega⟩ (fun a' w he hw => ⟨⟨0, by omega⟩, he.sub ⟨rfl, by rw [e0]; rfl, rfl, rfl, rfl, trivial⟩, by rw [e0]; exact hw⟩) ?_
  rintro ⟨k, hk⟩
  simp only at hk ⊢
  have hsk := drops_srt (D.take k) hs
  have hlk := drops_len (D.take k) a
  repeat' (first
    | refine ok_seq ?_
    | refine ok_then ?_
    | refine ok_block ?_
    | refine ok_in_normal ?_
    | (refine ok_cond rfl (fun hc => ?_) (fun hc => ?_) <;> (have hd := hc; (try simp only [decide_eq_true_eq, decide_eq_false_iff_not, Bool.or_eq_true, Bool.or_eq_false_iff, Bool.and_eq_true, Bool.and_eq_false_iff, Bool.not_eq_true', Bool.not_eq_false', bne_iff_ne, beq_iff_eq, bne_eq_false_iff_eq, beq_eq_false_iff_ne, ne_eq, Bool.not_true, Bool.not_false, Bool.false_eq_true, Bool.true_eq_false, inB_true, inB_false] at hd)))
    | refine ok_exit ?_
    | refine ok_skip ?_
    | (refine ok_region (i := 7) ?_; refine ok_p rfl rfl rfl (by exact ps_int rfl rfl rfl rfl) ?_; refine ok_nil ?_; refine ok_env [(3, _), (6, _), (21, _), (22, _), (23, _), (24, _)] ⟨rfl, rfl, rfl, rfl, rfl, rfl, trivial⟩ ?_)
    | (refine ok_region (i := 8) ?_; refine ok_p rfl rfl rfl (by exact ps_indexN rfl rfl rfl (by omega) (by exact isw_of (isS_fl (by assumption) (by omega)))) ?_; refine ok_p rfl rfl rfl (by exact ps_load rfl rfl (by exact Rds.cell (rds_rf (by assumption) (by exact List.mem_cons_self)) (by exact fl_at0 _ _ (by omega) (by decide)))) ?_; refine ok_p rfl rfl rfl (by exact ps_assign rfl rfl) ?_; refine ok_nil ?_; refine ok_env [(3, _), (6, _), (8, _), (21, _), (22, _), (23, _)] ⟨rfl, rfl, rfl, rfl, rfl, rfl, trivial⟩ ?_)
    | (refine ok_region (i := 9) ?_; refine ok_p rfl rfl rfl (by exact ps_move rfl rfl) ?_; refine ok_p rfl rfl rfl (by exact ps_move rfl rfl) ?_; refine ok_m rfl rfl rfl (by exact ms_w2 (fun _ _ _ h => h) rfl rfl rfl (fun _ _ w hw => dropKey_c _ _ (dropsF (D.take k) a) (nth D k) hsk (by omega) hw)) ?_; rintro y29 hy29; refine ok_p rfl rfl rfl (by exact ps_assign rfl rfl) ?_; refine ok_nil ?_; refine ok_env [(3, _), (6, _), (21, _), (22, _), (23, _)] ⟨rfl, rfl, rfl, rfl, rfl, trivial⟩ ?_)
    | (refine ok_region (i := 10) ?_; refine ok_p rfl rfl rfl (by exact ps_add rfl rfl rfl (by omega)) ?_; refine ok_p rfl rfl rfl (by exact ps_move rfl rfl) ?_; refine ok_nil ?_; refine ok_env [(3, _), (6, _), (21, _), (22, _), (23, _)] ⟨rfl, rfl, rfl, rfl, rfl, trivial⟩ ?_)
    | (refine ok_region (i := 11) ?_; refine ok_p rfl rfl rfl (by exact ps_field rfl rfl (by exact isw_ga _)) ?_; refine ok_p rfl rfl rfl (by exact ps_load rfl rfl (by exact Rds.cell (rds_box 1 rfl) rfl)) ?_; refine ok_p rfl rfl rfl (by exact ps_len rfl rfl) ?_; refine ok_p rfl rfl rfl (by exact ps_move rfl rfl) ?_; refine ok_nil ?_; refine ok_env [(6, _), (32, _), (33, _), (34, _)] ⟨rfl, rfl, rfl, rfl, trivial⟩ ?_))
  · rw [← drops_step (by omega)]
    exact fun a' w' he hw => ⟨⟨k + 1, by omega⟩, by simp only; omega, he.sub ⟨rfl, rfl, rfl, rfl, rfl, trivial⟩, hw⟩
  obtain rfl : k = D.length := by omega
  rw [drops_all] at hsk hlk ⊢
  generalize hM : dropsF D a = M at hsk hlk ⊢
  have e1 : putsF (U.take 0) M = M := by unfold putsF; rw [List.take_zero]; rfl
  refine ok_loop (ι := ApI U.length) (fun q => U.length - q.k) (fun q => ([(6, .slice q.A (putsF (U.take q.k) M).length q.c), (32, .slice (Y1 0).A U.length (Y1 0).c), (33, .int .i64 U.length), (34, .int .i64 q.k)], [.row 162 2 q.A (putsF (U.take q.k) M).length q.c (fl (putsF (U.take q.k) M)), _], _)) ⟨0, none, 0, by omega⟩ (fun a' w he hw => ⟨⟨0, _, _, by omega⟩, he.sub ⟨by rw [e1]; rfl, rfl, rfl, rfl, trivial⟩, by rw [e1]; exact hw⟩) ?_
  rintro ⟨k, A, c, hk2⟩
  simp only at hk2 ⊢
  have hsu := puts_srt (U.take k) hsk
  have hlu := puts_len (U.take k) M
  have hlt : (U.take k).length ≤ U.length := by rw [List.length_take]; omega
  repeat' (first
    | refine ok_seq ?_
    | refine ok_then ?_
    | refine ok_block ?_
    | refine ok_in_normal ?_
    | (refine ok_cond rfl (fun hc => ?_) (fun hc => ?_) <;> (have hd := hc; (try simp only [decide_eq_true_eq, decide_eq_false_iff_not, Bool.or_eq_true, Bool.or_eq_false_iff, Bool.and_eq_true, Bool.and_eq_false_iff, Bool.not_eq_true', Bool.not_eq_false', bne_iff_ne, beq_iff_eq, bne_eq_false_iff_eq, beq_eq_false_iff_ne, ne_eq, Bool.not_true, Bool.not_false, Bool.false_eq_true, Bool.true_eq_false, inB_true, inB_false] at hd)))
    | refine ok_ret ?_
    | refine ok_exit ?_
    | refine ok_skip ?_
    | (refine ok_region (i := 12) ?_; refine ok_p rfl rfl rfl (by exact ps_int rfl rfl rfl rfl) ?_; refine ok_nil ?_; refine ok_env [(6, _), (32, _), (33, _), (34, _), (35, _)] ⟨rfl, rfl, rfl, rfl, rfl, trivial⟩ ?_)
    | (refine ok_region (i := 13) ?_; refine ok_p rfl rfl rfl (by exact ps_indexN rfl rfl rfl (by omega) (by exact isw_of (isS_fl (by assumption) (by omega)))) ?_; refine ok_p rfl rfl rfl (by exact ps_loadsF rfl rfl (by exact rds_rf (by assumption) (by exact List.mem_cons_self)) (by rfl) (by rfl) (by omega) rfl) ?_; refine ok_m rfl rfl rfl (by exact ms_alloc rfl) ?_; rintro y10 hy10; refine ok_m_ rfl rfl (by exact ms_store 0 rfl rfl rfl rfl rfl rfl rfl rfl) ?_; rintro y_ hy_; refine ok_nil ?_; refine ok_env [(6, _), (10, _), (32, _), (33, _), (34, _)] ⟨rfl, rfl, rfl, rfl, rfl, trivial⟩ ?_)
    | (refine ok_region (i := 14) ?_; refine ok_p rfl rfl rfl (by exact ps_move rfl rfl) ?_; refine ok_p rfl rfl rfl (by exact ps_field rfl rfl (by exact isw_ga _)) ?_; refine ok_p rfl rfl rfl (by exact ps_load rfl rfl (by exact Rds.cell (rds_box 0 rfl) rfl)) ?_; refine ok_p rfl rfl rfl (by exact ps_field rfl rfl (by exact isw_ga _)) ?_; refine ok_p rfl rfl rfl (by exact ps_load rfl rfl (by exact Rds.cell (rds_box 0 rfl) rfl)) ?_; refine ok_m rfl rfl rfl (by exact ms_w3 (fun _ _ _ h => h.front 1 rfl) rfl rfl rfl rfl (fun _ _ w hw => setKey_c _ _ (putsF (U.take k) M) _ _ hsu (by omega) hw)) ?_; rintro y43 hy43; refine ok_p rfl rfl rfl (by exact ps_assign rfl rfl) ?_; refine ok_nil ?_; refine ok_env [(6, _), (32, _), (33, _), (34, _)] ⟨rfl, rfl, rfl, rfl, trivial⟩ ?_)
    | (refine ok_region (i := 15) ?_; refine ok_p rfl rfl rfl (by exact ps_add rfl rfl rfl (by omega)) ?_; refine ok_p rfl rfl rfl (by exact ps_move rfl rfl) ?_; refine ok_nil ?_; refine ok_env [(6, _), (32, _), (33, _), (34, _)] ⟨rfl, rfl, rfl, rfl, trivial⟩ ?_)
    | (refine ok_region (i := 16) ?_; refine ok_p rfl rfl rfl (by exact ps_move rfl rfl) ?_; refine ok_p rfl rfl rfl (by exact ps_assign rfl rfl) ?_; refine ok_p rfl rfl rfl (by exact ps_assign rfl rfl) ?_; refine ok_nil ?_; refine ok_env [(4, _), (5, _)] ⟨rfl, rfl, trivial⟩ ?_))
  · rw [← puts_step (by omega)]
    exact fun a' w' he hw => ⟨⟨k + 1, _, _, by omega⟩, by simp only; omega, he.sub ⟨rfl, rfl, rfl, rfl, trivial⟩, (hw.front 1 rfl).tl⟩
  · obtain rfl : k = U.length := by omega
    rw [puts_all]
    refine ok_endL (vs := [_, _]) rfl ⟨rfl, rfl, trivial⟩ (fun w' hw => ?_)
    exact ⟨mkY A c w', rfl, trivial, hw.below, NewOk.of (hw.sel [0] (by decide) rfl (G' := []) (fun _ h => by cases h))⟩
theorem s_ApplyDelta (a : DKVS) (Y0 : Ys) (d : DDelta) (Y1 : Ys) (w : World) (h0 : KVS_rd w a Y0) (h1 : Delta_rd w d Y1) (s0 : KVS_sm a) (s1 : Delta_sm d) :
    Calls Try.prog 70 #[KVS_val a Y0, Delta_val d Y1] w fun e w' => ∃ y : Ys, e = .returned (.tuple #[KVS_val (fApplyDelta a d).1 y, .bool (fApplyDelta a d).2]) ∧ True ∧ Below w.heap.size w w' ∧ NewOk w.heap.size (KVS_obj (fApplyDelta a d).1 y) [] w' := by
  obtain ⟨U, D⟩ := d
  have m0 := s0.1
  have m1 := s1.1.1
  have m2 := s1.2.1
  obtain ⟨hU, hD⟩ := h1
  simp only at m1 m2 hU hD
  unfold KVS_rd at h0
  clear s0 s1
  refine ok_enter 58 Try.func70 rfl rfl rfl ?_
  repeat' (first
    | refine ok_seq ?_
    | refine ok_then ?_
    | refine ok_then_ret ?_
    | refine ok_block ?_
    | (refine ok_cond rfl (fun hc => ?_) (fun hc => ?_) <;> (have hd := hc; (try simp only [decide_eq_true_eq, decide_eq_false_iff_not, Bool.or_eq_true, Bool.or_eq_false_iff, Bool.and_eq_true, Bool.and_eq_false_iff, Bool.not_eq_true', Bool.not_eq_false', bne_iff_ne, beq_iff_eq, bne_eq_false_iff_eq, beq_eq_false_iff_ne, ne_eq, Bool.not_true, Bool.not_false, Bool.false_eq_true, Bool.true_eq_false, inB_true, inB_false] at hd)))
    | refine ok_ret ?_
    | refine ok_skip ?_
    | (refine ok_region (i := 0) ?_; refine ok_m rfl rfl rfl (by exact ms_box rfl rfl rfl) ?_; rintro y3 hy3; refine ok_p rfl rfl rfl (by exact ps_assign rfl rfl) ?_; refine ok_p rfl rfl rfl (by exact ps_assign rfl rfl) ?_; refine ok_nil ?_; refine ok_env [(0, _), (3, _)] ⟨rfl, rfl, trivial⟩ ?_)
    | (refine ok_region (i := 1) ?_; refine ok_p rfl rfl rfl (by exact ps_move rfl rfl) ?_; refine ok_m rfl rfl rfl (by exact ms_s1 rfl rfl (fun _ _ w hw => s_MapOk _ _ a w (rds_rf h0 (by exact List.mem_cons_self) _ _ w hw) m0)) ?_; rintro y10 hy10; refine ok_p rfl rfl rfl (by exact ps_not rfl rfl) ?_; refine ok_nil ?_; refine ok_env [(0, _), (3, _), (11, _)] ⟨rfl, rfl, rfl, trivial⟩ ?_)
    | (refine ok_region (i := 2) ?_; refine ok_m rfl rfl rfl (by exact ms_lit rfl parts_nil rfl rfl rfl) ?_; rintro y12 hy12; refine ok_p rfl rfl rfl (by exact ps_assign rfl rfl) ?_; refine ok_p rfl rfl rfl (by exact ps_assign rfl rfl) ?_; refine ok_nil ?_; refine ok_env [(4, _), (5, _)] ⟨rfl, rfl, trivial⟩ ?_)
    | (refine ok_region (i := 3) ?_; refine ok_m rfl rfl rfl (by exact ms_lit rfl parts_nil rfl rfl rfl) ?_; rintro y13 hy13; refine ok_p rfl rfl rfl (by exact ps_move rfl rfl) ?_; refine ok_m rfl rfl rfl (by exact ms_app0 (M := a) 0 rfl rfl rfl rfl (rds_rf h0 (by exact List.mem_cons_self)) rfl (by omega) (by omega)) ?_; rintro y15 hy15; refine ok_p rfl rfl rfl (by exact ps_assign rfl rfl) ?_; refine ok_nil ?_; refine ok_env [(3, _), (6, _)] ⟨rfl, rfl, trivial⟩ ?_)
    | (refine ok_region (i := 4) ?_; refine ok_p rfl rfl rfl (by exact ps_loads rfl rfl (by exact rds_box 1 rfl) rfl rfl (by decide)) ?_; refine ok_m rfl rfl rfl (by exact ms_s1 rfl rfl (fun _ _ w hw => s_DeltaOk _ _ _ _ U D w (rds_rf hU (by exact List.mem_cons_self) _ _ w hw) (rds_rf hD (by exact List.mem_cons_self) _ _ w hw) m1 m2)) ?_; rintro y17 hy17; refine ok_p rfl rfl rfl (by exact ps_not rfl rfl) ?_; refine ok_nil ?_; refine ok_env [(3, _), (6, _), (18, _)] ⟨rfl, rfl, rfl, trivial⟩ ?_)
    | (refine ok_region (i := 5) ?_; refine ok_p rfl rfl rfl (by exact ps_move rfl rfl) ?_; refine ok_p rfl rfl rfl (by exact ps_assign rfl rfl) ?_; refine ok_p rfl rfl rfl (by exact ps_assign rfl rfl) ?_; refine ok_nil ?_; refine ok_env [(4, _), (5, _)] ⟨rfl, rfl, trivial⟩ ?_)
    | (refine ok_region (i := 6) ?_; refine ok_p rfl rfl rfl (by exact ps_assign rfl rfl) ?_; refine ok_nil ?_; refine ok_env [(3, _), (6, _), (7, _)] ⟨rfl, rfl, rfl, trivial⟩ ?_))
  · rw [app_no hd]
    refine ok_endL (vs := [_, _]) rfl ⟨rfl, rfl, trivial⟩ (fun w' hw => ?_)
    exact ⟨mkY (ga (y12 0).c) 0 w', rfl, trivial, hw.below, NewOk.of (hw.sel [0] (by decide) rfl (G' := []) (fun _ h => by cases h))⟩
  · rw [app_half (by assumption) hd]
    refine ok_endL (vs := [_, _]) rfl ⟨rfl, rfl, trivial⟩ (fun w' hw => ?_)
    exact ⟨y15, rfl, trivial, hw.below, NewOk.of (hw.sel [0] (by decide) rfl (G' := []) (fun _ h => by cases h))⟩
  have hm : mapOk a = true := by assumption
  have hs := srtK_iff.1 (sortedK_of hm)
  rw [app_yes hm hd]
  clear hc hd
  have e0 : dropsF (D.take 0) a = a := by unfold dropsF; rw [List.take_zero]; rfl
  refine ok_loop (ι := ApI D.length) (fun q => D.length - q.k) (fun q => ([(3, pt (ga (y3 0).c) 0), (6, .slice q.A (dropsF (D.take q.k) a).length q.c), (7, .int .i64 q.k)], [.row 162 2 q.A (dropsF (D.take q.k) a).length q.c (fl (dropsF (D.take q.k) a)), _], _)) ⟨0, none, 0, by omega⟩ (fun a' w he hw => ⟨⟨0, _, _, by omega⟩, he.sub ⟨rfl, by rw [e0]; rfl, rfl, trivial⟩, by rw [e0]; exact hw⟩) ?_
  rintro ⟨k, A, c, hk⟩
  simp only at hk ⊢
  have hlk := drops_len (D.take k) a
  repeat' (first
    | refine ok_seq ?_
    | refine ok_then ?_
    | refine ok_block ?_
    | refine ok_in_normal ?_
    | (refine ok_cond rfl (fun hc => ?_) (fun hc => ?_) <;> (have hd := hc; (try simp only [decide_eq_true_eq, decide_eq_false_iff_not, Bool.or_eq_true, Bool.or_eq_false_iff, Bool.and_eq_true, Bool.and_eq_false_iff, Bool.not_eq_true', Bool.not_eq_false', bne_iff_ne, beq_iff_eq, bne_eq_false_iff_eq, beq_eq_false_iff_ne, ne_eq, Bool.not_true, Bool.not_false, Bool.false_eq_true, Bool.true_eq_false, inB_true, inB_false] at hd)))
    | refine ok_exit ?_
    | refine ok_skip ?_
    | (refine ok_region (i := 7) ?_; refine ok_p rfl rfl rfl (by exact ps_move rfl rfl) ?_; refine ok_p rfl rfl rfl (by exact ps_field rfl rfl (by exact isw_ga _)) ?_; refine ok_p rfl rfl rfl (by exact ps_load rfl rfl (by exact Rds.cell (rds_box 1 rfl) rfl)) ?_; refine ok_p rfl rfl rfl (by exact ps_len rfl rfl) ?_; refine ok_p rfl rfl rfl (by exact ps_int rfl rfl rfl rfl) ?_; refine ok_nil ?_; refine ok_env [(3, _), (6, _), (7, _), (24, _)] ⟨rfl, rfl, rfl, rfl, trivial⟩ ?_)
    | (refine ok_region (i := 8) ?_; refine ok_p rfl rfl rfl (by exact ps_move rfl rfl) ?_; refine ok_p rfl rfl rfl (by exact ps_add rfl rfl rfl (by omega)) ?_; refine ok_p rfl rfl rfl (by exact ps_assign rfl rfl) ?_; refine ok_nil ?_; refine ok_env [(3, _), (6, _), (7, _)] ⟨rfl, rfl, rfl, trivial⟩ ?_)
    | (refine ok_region (i := 9) ?_; refine ok_p rfl rfl rfl (by exact ps_move rfl rfl) ?_; refine ok_p rfl rfl rfl (by exact ps_field rfl rfl (by exact isw_ga _)) ?_; refine ok_p rfl rfl rfl (by exact ps_load rfl rfl (by exact Rds.cell (rds_box 1 rfl) rfl)) ?_; refine ok_p rfl rfl rfl (by exact ps_move rfl rfl) ?_; refine ok_p rfl rfl rfl (by exact ps_indexN rfl rfl rfl (by omega) (by exact isw_of (isS_fl (by assumption) (by omega)))) ?_; refine ok_p rfl rfl rfl (by exact ps_load rfl rfl (by exact Rds.cell (rds_rf (by assumption) (by exact List.mem_cons_self)) (by exact fl_at0 _ _ (by omega) (by decide)))) ?_; refine ok_p rfl rfl rfl (by exact ps_bld rfl (parts_cons rfl (parts_cons rfl parts_nil)) rfl) ?_; refine ok_m rfl rfl rfl (by exact ms_c2 rfl rfl rfl (fun _ _ w hw => s_put_del A c (dropsF (D.take k) a) (nth D k) w (rds_row 0 rfl _ _ w hw) (by omega))) ?_; rintro y34 hy34; refine ok_p rfl rfl rfl (by exact ps_assign rfl rfl) ?_; refine ok_nil ?_; refine ok_env [(3, _), (6, _), (7, _)] ⟨rfl, rfl, rfl, trivial⟩ ?_)
    | (refine ok_region (i := 10) ?_; refine ok_p rfl rfl rfl (by exact ps_assign rfl rfl) ?_; refine ok_nil ?_; refine ok_env [(3, _), (6, _), (8, _)] ⟨rfl, rfl, rfl, trivial⟩ ?_))
  · rw [← drops_step (by omega)]
    exact fun a' w' he hw => ⟨⟨k + 1, _, _, by omega⟩, by simp only; omega, he.sub ⟨rfl, rfl, rfl, trivial⟩, hw.sel [0, 2] (by decide) rfl (fun _ h => h)⟩
  obtain rfl : k = D.length := by omega
  rw [drops_all] at hlk ⊢
  generalize hM : dropsF D a = M at hlk ⊢
  have e1 : putsF (U.take 0) M = M := by unfold putsF; rw [List.take_zero]; rfl
  refine ok_loop (ι := ApI U.length) (fun q => U.length - q.k) (fun q => ([(3, pt (ga (y3 0).c) 0), (6, .slice q.A (putsF (U.take q.k) M).length q.c), (8, .int .i64 q.k)], [.row 162 2 q.A (putsF (U.take q.k) M).length q.c (fl (putsF (U.take q.k) M)), _], _)) ⟨0, none, 0, by omega⟩ (fun a' w he hw => ⟨⟨0, _, _, by omega⟩, he.sub ⟨rfl, by rw [e1]; rfl, rfl, trivial⟩, by rw [e1]; exact hw⟩) ?_
  rintro ⟨k, A, c, hk2⟩
  simp only at hk2 ⊢
  have hlu := puts_len (U.take k) M
  have hlt : (U.take k).length ≤ U.length := by rw [List.length_take]; omega
  repeat' (first
    | refine ok_seq ?_
    | refine ok_then ?_
    | refine ok_block ?_
    | refine ok_in_normal ?_
    | (refine ok_cond rfl (fun hc => ?_) (fun hc => ?_) <;> (have hd := hc; (try simp only [decide_eq_true_eq, decide_eq_false_iff_not, Bool.or_eq_true, Bool.or_eq_false_iff, Bool.and_eq_true, Bool.and_eq_false_iff, Bool.not_eq_true', Bool.not_eq_false', bne_iff_ne, beq_iff_eq, bne_eq_false_iff_eq, beq_eq_false_iff_ne, ne_eq, Bool.not_true, Bool.not_false, Bool.false_eq_true, Bool.true_eq_false, inB_true, inB_false] at hd)))
    | refine ok_ret ?_
    | refine ok_exit ?_
    | refine ok_skip ?_
    | (refine ok_region (i := 11) ?_; refine ok_p rfl rfl rfl (by exact ps_move rfl rfl) ?_; refine ok_p rfl rfl rfl (by exact ps_field rfl rfl (by exact isw_ga _)) ?_; refine ok_p rfl rfl rfl (by exact ps_load rfl rfl (by exact Rds.cell (rds_box 1 rfl) rfl)) ?_; refine ok_p rfl rfl rfl (by exact ps_len rfl rfl) ?_; refine ok_p rfl rfl rfl (by exact ps_int rfl rfl rfl rfl) ?_; refine ok_nil ?_; refine ok_env [(3, _), (6, _), (8, _), (39, _)] ⟨rfl, rfl, rfl, rfl, trivial⟩ ?_)
    | (refine ok_region (i := 12) ?_; refine ok_p rfl rfl rfl (by exact ps_move rfl rfl) ?_; refine ok_p rfl rfl rfl (by exact ps_add rfl rfl rfl (by omega)) ?_; refine ok_p rfl rfl rfl (by exact ps_assign rfl rfl) ?_; refine ok_nil ?_; refine ok_env [(3, _), (6, _), (8, _)] ⟨rfl, rfl, rfl, trivial⟩ ?_)
    | (refine ok_draw (id := 13) 16 rfl (by kernel_rfl) (by kernel_rfl) rfl (by repeat (first | exact pq_body | refine pq_then ?_ | refine pq_in ?_)) [0, 1, 2, 3, 4, 5, 6, 7, 8, 9, 10, 11, 12, 13, 14, 15, 16, 17, 18, 19, 20, 21, 22, 23] (by decide) rfl ?_; refine okT_take (i := 0) rfl (by kernel_rfl) rfl rfl rfl (by exact ps_move rfl rfl) ?_; refine okT_take (i := 1) rfl (by kernel_rfl) rfl rfl rfl (by exact ps_field rfl rfl (by exact isw_ga _)) ?_; refine okT_take (i := 2) rfl (by kernel_rfl) rfl rfl rfl (by exact ps_load rfl rfl (by exact Rds.cell (rds_box 1 rfl) rfl)) ?_; refine okT_take (i := 3) rfl (by kernel_rfl) rfl rfl rfl (by exact ps_move rfl rfl) ?_; refine okT_take (i := 4) rfl (by kernel_rfl) rfl rfl rfl (by exact ps_indexN rfl rfl rfl (by omega) (by exact isw_of (isS_fl (by assumption) (by omega)))) ?_; refine okT_take (i := 5) rfl (by kernel_rfl) rfl rfl rfl (by exact ps_field rfl rfl (by exact isw_of (isS_fl (by assumption) (by omega)))) ?_; refine okT_take (i := 6) rfl (by kernel_rfl) rfl rfl rfl (by exact ps_load rfl rfl (by exact Rds.cell (rds_rf (by assumption) (by exact List.mem_cons_self)) (by exact fl_at0 _ _ (by omega) (by decide)))) ?_; refine okT_take (i := 7) rfl (by kernel_rfl) rfl rfl rfl (by exact ps_field rfl rfl (by exact isw_ga _)) ?_; refine okT_take (i := 8) rfl (by kernel_rfl) rfl rfl rfl (by exact ps_load rfl rfl (by exact Rds.cell (rds_box 1 rfl) rfl)) ?_; refine okT_take (i := 9) rfl (by kernel_rfl) rfl rfl rfl (by exact ps_move rfl rfl) ?_; refine okT_take (i := 10) rfl (by kernel_rfl) rfl rfl rfl (by exact ps_indexN rfl rfl rfl (by omega) (by exact isw_of (isS_fl (by assumption) (by omega)))) ?_; refine okT_take (i := 11) rfl (by kernel_rfl) rfl rfl rfl (by exact ps_field rfl rfl (by exact isw_of (isS_fl (by assumption) (by omega)))) ?_; refine okT_take (i := 12) rfl (by kernel_rfl) rfl rfl rfl (by exact ps_load rfl rfl (by exact Rds.cell (rds_rf (by assumption) (by exact List.mem_cons_self)) (by exact fl_at _ _ _ (by omega) (by decide)))) ?_; refine okT_take (i := 13) rfl (by kernel_rfl) rfl rfl rfl (by exact ps_bld rfl (parts_cons rfl (parts_cons rfl parts_nil)) rfl) ?_; refine okT_one (i := 14) rfl rfl (by kernel_rfl) rfl rfl rfl (by exact ms_c2 rfl rfl rfl (fun _ _ w hw => s_put_put A c (putsF (U.take k) M) (nth U k).key (nth U k).val w (rds_row 0 rfl _ _ w hw) (by omega))) (fun y w _ h => by exact h.tl) ?_; rintro y56 hy56; refine okT_take (i := 15) rfl (by kernel_rfl) rfl rfl rfl (by exact ps_assign rfl rfl) ?_; refine okT_done (by kernel_rfl) ?_; refine ok_nil ?_; refine ok_env [(3, _), (6, _), (8, _)] ⟨rfl, rfl, rfl, trivial⟩ ?_)
    | (refine ok_region (i := 14) ?_; refine ok_p rfl rfl rfl (by exact ps_move rfl rfl) ?_; refine ok_p rfl rfl rfl (by exact ps_assign rfl rfl) ?_; refine ok_p rfl rfl rfl (by exact ps_assign rfl rfl) ?_; refine ok_nil ?_; refine ok_env [(4, _), (5, _)] ⟨rfl, rfl, trivial⟩ ?_))
  · rw [← puts_step (by omega)]
    exact fun a' w' he hw => ⟨⟨k + 1, _, _, by omega⟩, by simp only; omega, he.sub ⟨rfl, rfl, rfl, trivial⟩, hw.sel [0, 2] (by decide) rfl (fun _ h => h)⟩
  · obtain rfl : k = U.length := by omega
    rw [puts_all]
    refine ok_endL (vs := [_, _]) rfl ⟨rfl, rfl, trivial⟩ (fun w' hw => ?_)
    exact ⟨mkY A c w', rfl, trivial, hw.below, NewOk.of (hw.sel [0] (by decide) rfl (G' := []) (fun _ h => by cases h))⟩
theorem ApplyDelta_lim (a : DKVS) (d : DDelta) (s0 : KVS_sm a) (s1 : Delta_sm d) : KVS_lim (fApplyDelta a d).1 := by
  have m0 := s0.1
  have m1 := s1.1.1
  have q1 := puts_len d.U (dropsF d.D a)
  have q2 := drops_len d.D a
  unfold fApplyDelta KVS_lim
  split
  · split
    · simp only; omega
    · simp only; omega
  · simp
end Go.Proofs.Ytfcnimglcialbaa
/- Rows of records that hold a row each: where the inner rows lie stands beside the data; the inner rows are a bag. -/
namespace Go.Proofs.Ytfcnimglcialbaa
open Go.RowKit
set_option linter.unusedVariables false
set_option linter.unusedSimpArgs false
/-- A record with one row in it. -/
class In (α : Type) (β : outParam Type) [Dat β] where
  sz : Nat
  cells : α → Value → List Value
  len : ∀ x v, (cells x v).length = sz
  inn : α → List β
  dflt : α
  one : ∀ x (A : Option Addr) (n c : Nat), ∀ u ∈ cells x (.slice A n c), u.oneCell' = true
structure Lc (α : Type) where
  d : α
  A : Option Addr
  c : Nat
section
variable {α β : Type} [Dat β] [In α β]
@[reducible] def inL (l : Lc α) : List β := In.inn l.d
@[reducible] instance : Dat (Lc α) := ⟨In.sz α, fun l => In.cells l.d (.slice l.A (In.inn l.d).length l.c), fun _ => In.len _ _, ⟨In.dflt, none, 0⟩⟩
instance : OneC (Lc α) := ⟨fun x u hu => In.one _ _ _ _ u hu⟩
def Lc.row (l : Lc α) : RowD := ⟨l.A, (In.inn l.d).length, l.c, fl (In.inn l.d)⟩
def rowsOf (R : List (Lc α)) : List RowD := R.map Lc.row
def dats (R : List (Lc α)) : List α := R.map Lc.d
/-- The inner rows of a result stand behind the k-th place. -/
def locs (k : Nat) (x : List α) (y : Ys) : List (Lc α) := x.mapIdx fun i d => ⟨d, (y (k + i)).A, (y (k + i)).c⟩
def mkR (p : List Ya) (R : List (Lc α)) (w : World) : Ys := fun i => if i < p.length then p.getD i ⟨none, 0, w, 0⟩ else ⟨(nth R (i - p.length)).A, (nth R (i - p.length)).c, w, 0⟩
theorem dats_len (R : List (Lc α)) : (dats R).length = R.length := List.length_map ..
theorem locs_len (k : Nat) (x : List α) (y : Ys) : (locs k x y).length = x.length := by simp [locs]
theorem dats_locs (k : Nat) (x : List α) (y : Ys) : dats (locs k x y) = x := by
  apply List.ext_getElem?
  intro i
  simp only [dats, locs, List.getElem?_map, List.getElem?_mapIdx, Option.map_map]
  cases x[i]? <;> rfl
theorem nthL (R : List (Lc α)) (i : Nat) (h : i < R.length) : nth R i = R[i] := by simp [nth, h]
theorem locs_mkR (p : List Ya) (R : List (Lc α)) (w : World) (k : Nat) (h : p.length = k) : locs k (dats R) (mkR p R w) = R := by
  subst h
  apply List.ext_getElem?
  intro i
  simp only [locs, dats, List.getElem?_mapIdx, List.getElem?_map]
  by_cases hi : i < R.length
  · rw [List.getElem?_eq_getElem hi]
    simp only [Option.map_some, mkR, show ¬ p.length + i < p.length from by omega, if_false, show p.length + i - p.length = i from by omega, nthL R i hi]
  · rw [List.getElem?_eq_none (by omega)]; rfl
theorem mkR_at (p : List Ya) (R : List (Lc α)) (w : World) (i : Nat) (h : i < p.length) : mkR p R w i = p[i] := by simp [mkR, h]
theorem rows_snoc (R : List (Lc α)) (l : Lc α) : rowsOf (R ++ [l]) = rowsOf R ++ [l.row] := by simp [rowsOf]
theorem dats_snoc (R : List (Lc α)) (l : Lc α) : dats (R ++ [l]) = dats R ++ [l.d] := by simp [dats]
theorem rows_at (R : List (Lc α)) (k : Nat) (h : k < R.length) : rowsOf R = rowsOf (R.take k) ++ (nth R k).row :: rowsOf (R.drop (k + 1)) := by
  rw [nthL R k h]
  have e : R = R.take k ++ R[k] :: R.drop (k + 1) := by rw [← List.drop_eq_getElem_cons h, List.take_append_drop]
  have e2 := congrArg rowsOf e
  rw [e2]
  show List.map Lc.row (R.take k ++ R[k] :: R.drop (k + 1)) = List.map Lc.row (R.take k) ++ R[k].row :: List.map Lc.row (R.drop (k + 1))
  rw [List.map_append, List.map_cons]
theorem rows_set (R : List (Lc α)) (k : Nat) (l : Lc α) (h : k < R.length) : rowsOf (R.set k l) = rowsOf (R.take k) ++ l.row :: rowsOf (R.drop (k + 1)) := by
  rw [List.set_eq_take_append_cons_drop, if_pos h]
  simp [rowsOf]
section
variable {base : Nat} {w0 w : World} {H : List HObj} {G : List World} {e sz : Nat}
theorem WOk.bagPull {R : List (Lc α)} (k : Nat) (hk : k < R.length) (hw : WOk base w0 (.bag e sz (rowsOf R) :: H) G w) : WOk base w0 (.row e sz (nth R k).A (In.inn (nth R k).d).length (nth R k).c (fl (In.inn (nth R k).d)) :: .bag e sz (rowsOf (R.take k) ++ rowsOf (R.drop (k + 1))) :: H) G w := by
  rw [rows_at R k hk] at hw
  exact WOk.pull hw
theorem WOk.bagPush {R : List (Lc α)} (k : Nat) (l : Lc α) (hk : k < R.length) (hw : WOk base w0 (.row e sz l.A (In.inn l.d).length l.c (fl (In.inn l.d)) :: .bag e sz (rowsOf (R.take k) ++ rowsOf (R.drop (k + 1))) :: H) G w) : WOk base w0 (.bag e sz (rowsOf (R.set k l)) :: H) G w := by
  rw [rows_set R k l hk]
  exact WOk.push (r := l.row) hw
theorem WOk.bagAdd {R : List (Lc α)} (l : Lc α) {n : Nat} {us : List Value} (hn : n = (In.inn l.d).length) (hu : us = fl (In.inn l.d)) (hw : WOk base w0 (.row e sz l.A n l.c us :: .bag e sz (rowsOf R) :: H) G w) : WOk base w0 (.bag e sz (rowsOf (R ++ [l])) :: H) G w := by
  subst hn; subst hu
  rw [rows_snoc]
  exact hw.absorb
theorem bag_call {P : Program} {f : FuncId} {args : Array Value} {v : Ys → Value} {F : Ys → Prop} {R : List (Lc α)} (k : Nat) (l : Lc α) (hk : k < R.length)
    (hc : ∀ H, WOk base w0 (.row e sz (nth R k).A (In.inn (nth R k).d).length (nth R k).c (fl (In.inn (nth R k).d)) :: H) G w → Calls P f args w (fun e' w' => ∃ y : Ys, e' = .returned (v y) ∧ F y ∧ WOk base w0 (.row e sz l.A (In.inn l.d).length l.c (fl (In.inn l.d)) :: H) G w'))
    (hw : WOk base w0 (.bag e sz (rowsOf R) :: H) G w) : Calls P f args w (fun e' w' => ∃ y : Ys, e' = .returned (v y) ∧ F y ∧ WOk base w0 (.bag e sz (rowsOf (R.set k l)) :: H) G w') :=
  (hc _ (hw.bagPull k hk)).mono fun e' w' ⟨y, h1, h2, h3⟩ => ⟨y, h1, h2, WOk.bagPush k l hk h3⟩
end
theorem rds_bag {H : List HObj} {G : List World} {e sz : Nat} {R : List (Lc α)} (i k : Nat) (hi : H[i]? = some (.bag e sz (rowsOf R))) (hk : k < R.length) : Rds H G (nth R k).A (fl (In.inn (nth R k).d)) := fun base w0 w hw => by
  have h := (hw.own _ (List.mem_of_getElem? hi)).1 (nth R k).row (List.mem_map.2 ⟨_, nth_mem R k hk, rfl⟩)
  exact Rd.of_own h
theorem cap_bag {base : Nat} {w0 w : World} {H : List HObj} {G : List World} {e sz : Nat} {R : List (Lc α)} (hw : WOk base w0 H G w) (i k : Nat) (hi : H[i]? = some (.bag e sz (rowsOf R))) (hk : k < R.length) : (In.inn (nth R k).d).length ≤ (nth R k).c := by
  have h := (hw.own _ (List.mem_of_getElem? hi)).1 (nth R k).row (List.mem_map.2 ⟨_, nth_mem R k hk, rfl⟩)
  rcases h.2 with ⟨h1, h2⟩ | ⟨g, cap, cur, h1, h2, h3, h4, _⟩
  · have : (In.inn (nth R k).d).length = 0 := h2
    omega
  · have e1 := h1
    simp only [Lc.row] at e1 h4
    injection e1 with _ _ e2
    omega
/-- Readable in depth. -/
def RdN (w : World) (A : Option Addr) (R : List (Lc α)) : Prop := Rd w A (fl R) ∧ ∀ k, k < R.length → Rd w (nth R k).A (fl (In.inn (nth R k).d))
theorem RdN.keep {base : Nat} {w0 w m : World} {H : List HObj} {G : List World} {A : Option Addr} {R : List (Lc α)} (hw : WOk base w0 H G w) (h : RdN m A R) (hm : m ∈ G) : RdN w A R := ⟨hw.keep h.1 hm, fun k hk => hw.keep (h.2 k hk) hm⟩
theorem RdN.own {base : Nat} {w0 w : World} {H : List HObj} {G : List World} {A : Option Addr} {R : List (Lc α)} {e sz n c e' sz' : Nat} (hw : WOk base w0 H G w) (i j : Nat) (hi : H[i]? = some (.row e sz A n c (fl R))) (hj : H[j]? = some (.bag e' sz' (rowsOf R))) : RdN w A R := ⟨hw.row i hi, fun k hk => rds_bag j k hj hk _ _ _ hw⟩
theorem RdN.below {w w' : World} {A : Option Addr} {R : List (Lc α)} (hr : ∀ A us, Rd w A us → Rd w' A us) (h : RdN w A R) : RdN w' A R := ⟨hr _ _ h.1, fun k hk => hr _ _ (h.2 k hk)⟩
/-- Rows of such records by their type. -/
def NestAt (e : GT) (f : e.den → α) (big : α → Prop) : Prop := ∀ (w : World) x c, RdT w e x c → ∃ (A : Option Addr) (k : Nat), c = In.cells (f x) (.slice A (In.inn (f x)).length k) ∧ Rd w A (fl (In.inn (f x))) ∧ big (f x)
theorem nest_rows {e : GT} {f : e.den → α} {big : α → Prop} (hf : NestAt e f big) {w : World} : ∀ (xs : List e.den) (us : List Value), RdTs w e xs us → ∃ R : List (Lc α), us = fl R ∧ R.length = xs.length ∧ (∀ l ∈ R, Rd w l.A (fl (In.inn l.d))) ∧ ∀ l ∈ R, big l.d
  | [], us, h => by
    rw [RdTs.nil] at h; subst h; exact ⟨[], rfl, rfl, fun x h => (by cases h), fun x h => (by cases h)⟩
  | x :: xs, us, h => by
    obtain ⟨c1, c2, rfl, h1, h2⟩ := RdTs.cons.1 h
    obtain ⟨A, k, rfl, hr, hb⟩ := hf w x c1 h1
    obtain ⟨R, rfl, hl, hrs, hbs⟩ := nest_rows hf xs c2 h2
    refine ⟨⟨f x, A, k⟩ :: R, rfl, by simp [hl], fun y hy => ?_, fun y hy => ?_⟩
    · cases hy with
      | head => exact hr
      | tail _ hy => exact hrs y hy
    · cases hy with
      | head => exact hb
      | tail _ hy => exact hbs y hy
theorem nest_sl {E : TypeId} {e : GT} {f : e.den → α} {big : α → Prop} (hf : NestAt e f big) {w : World} {xs : GT.den (.sl E e)} {cs : List Value} (h : RdT w (.sl E e) xs cs) : ∃ (A : Option Addr) (c : Nat) (R : List (Lc α)), cs = [.slice A R.length c] ∧ R.length ≤ maxLen ∧ RdN w A R ∧ (∀ x ∈ dats R, big x) := by
  obtain ⟨A, c, us, rfl, h1, h2, h3, h4⟩ := RdT.sl.1 h
  obtain ⟨R, rfl, hl, hrs, hb⟩ := nest_rows hf _ _ h4
  refine ⟨A, c, R, congrArg (fun n => [Value.slice A n c]) hl.symm, ?_, ⟨h3, fun k hk => hrs _ (nth_mem R k hk)⟩, fun x hx => ?_⟩
  · have : R.length = List.length xs := hl
    omega
  · obtain ⟨l, hl, rfl⟩ := List.mem_map.1 hx
    exact hb l hl
end
/-- Lists as records. -/
@[reducible] instance {β : Type} [Dat β] : In (List β) β := ⟨1, fun _ v => [v], fun _ _ => rfl, id, [], fun _ _ _ _ u hu => by
  cases hu with
  | head => rfl
  | tail _ h => cases h⟩
theorem flat_nest {E : TypeId} {e : GT} {β : Type} [Dat β] {f : e.den → β} {big : β → Prop} (hf : FlatAt e f big) : NestAt (α := List β) (.sl E e) (fun xs => List.map f (show List e.den from xs)) (fun l => l.length ≤ maxLen ∧ ∀ x ∈ l, big x) := fun w xs cs h => by
  obtain ⟨A, c, us, rfl, h1, h2, h3, h4⟩ := RdT.sl.1 h
  obtain ⟨rfl, hb⟩ := flat_rows hf _ _ h4
  have hl : (List.map f (show List e.den from xs)).length = List.length xs := List.length_map ..
  exact ⟨A, c, congrArg (fun n => [Value.slice A n c]) hl.symm, h3, Nat.le_trans (Nat.le_of_eq hl) (Nat.le_trans h1 h2), hb⟩
/-- Marks one behind the other. -/
def offR {α : Type} (cnt : α → Nat) (x : List α) (i : Nat) : Nat := ((x.take i).map cnt).sum
theorem offR_zero {α : Type} (cnt : α → Nat) (x : List α) : offR cnt x 0 = 0 := rfl
theorem offR_le {α : Type} (cnt : α → Nat) (x : List α) (m : Nat) (hm : ∀ u ∈ x, cnt u ≤ m) : ∀ i, offR cnt x i ≤ x.length * m := by
  intro i
  unfold offR
  induction x generalizing i with
  | nil => simp
  | cons a x ih =>
    cases i with
    | zero => simp
    | succ i =>
      have h1 := ih (fun u hu => hm u (List.mem_cons_of_mem _ hu)) i
      have h2 := hm a List.mem_cons_self
      simp only [List.take_succ_cons, List.map_cons, List.sum_cons, List.length_cons, Nat.add_mul, Nat.one_mul]
      omega
/-- The first k are marked. -/
def mixR {α : Type} (mk : Nat → α → α) (k : Nat) (R : List α) : List α := R.mapIdx fun i l => if i < k then mk i l else l
theorem mixR_len {α : Type} (mk : Nat → α → α) (k : Nat) (R : List α) : (mixR mk k R).length = R.length := by simp [mixR]
theorem mixR_zero {α : Type} (mk : Nat → α → α) (R : List α) : mixR mk 0 R = R := by
  apply List.ext_getElem?
  intro i
  simp only [mixR, List.getElem?_mapIdx]
  cases R[i]? <;> simp
theorem mixR_nth {α : Type} [Dat α] (mk : Nat → α → α) (k : Nat) (R : List α) (i : Nat) (h : i < R.length) : nth (mixR mk k R) i = if i < k then mk i (nth R i) else nth R i := by
  simp [nth, mixR, h]
theorem mixR_step {α : Type} [Dat α] (mk : Nat → α → α) (k : Nat) (R : List α) (h : k < R.length) : (mixR mk k R).set k (mk k (nth R k)) = mixR mk (k + 1) R := by
  apply List.ext_getElem?
  intro i
  have e : nth R k = R[k] := by simp [nth, h]
  rw [e]
  simp only [mixR, List.getElem?_set, List.getElem?_mapIdx, List.length_mapIdx]
  by_cases hi : k = i
  · subst hi
    simp [h]
  · rw [if_neg hi]
    cases R[i]? with
    | none => rfl
    | some l =>
      simp only [Option.map_some, Option.some.injEq]
      by_cases h2 : i < k
      · rw [if_pos h2, if_pos (by omega)]
      · rw [if_neg h2, if_neg (by omega)]
end Go.Proofs.Ytfcnimglcialbaa
/- slices.Grow of nil, slices.Concat of rows of Str. -/
namespace Go.Proofs.Ytfcnimglcialbaa
open Go.RowKit
set_option maxHeartbeats 4000000
set_option maxRecDepth 20000
set_option linter.unusedVariables false
set_option linter.unusedSimpArgs false
attribute [local irreducible] Calls
theorem growStr_c (n : Nat) (hn : n ≤ 4194304) (w : World) :
    Calls Try.prog 237 #[.slice none 0 0, .int .i64 (n : Int)] w fun e w' => ∃ y : Ys, e = .returned (.slice (y 0).A 0 (y 0).c) ∧ True ∧ Below w.heap.size w w' ∧ NewOk w.heap.size [.row 9 1 (y 0).A 0 (y 0).c []] [] w' := by
  refine ok_enter 27 Try.func237 rfl rfl rfl ?_
  repeat' (first
    | refine ok_seq ?_
    | refine ok_then ?_
    | refine ok_then_ret ?_
    | refine ok_then_exit ?_
    | refine ok_block ?_
    | refine ok_in_normal ?_
    | refine ok_in_ret ?_
    | refine ok_in_exit ?_
    | refine ok_in_other rfl ?_
    | (refine ok_cond rfl (fun hc => ?_) (fun hc => ?_) <;> (have hd := hc; (try simp only [decide_eq_true_eq, decide_eq_false_iff_not, Bool.or_eq_true, Bool.or_eq_false_iff, Bool.and_eq_true, Bool.and_eq_false_iff, Bool.not_eq_true', Bool.not_eq_false', bne_iff_ne, beq_iff_eq, bne_eq_false_iff_eq, beq_eq_false_iff_ne, ne_eq, Bool.not_true, Bool.not_false, Bool.false_eq_true, Bool.true_eq_false, inB_true, inB_false] at hd)))
    | refine ok_ret ?_
    | refine ok_exit ?_
    | refine ok_skip ?_
    | (refine ok_region (i := 0) ?_; refine ok_p rfl rfl rfl (by exact ps_assign rfl rfl) ?_; refine ok_nil ?_; refine ok_env [(0, _), (1, _)] ⟨rfl, rfl, trivial⟩ ?_)
    | (refine ok_region (i := 1) ?_; refine ok_p rfl rfl rfl (by exact ps_move rfl rfl) ?_; refine ok_p rfl rfl rfl (by exact ps_int rfl rfl rfl rfl) ?_; refine ok_nil ?_; refine ok_env [(0, _), (1, _), (6, _)] ⟨rfl, rfl, rfl, trivial⟩ ?_)
    | (refine ok_region (i := 2) ?_; refine ok_p rfl rfl rfl (by fail "no rule makeInterface") ?_; refine ok_p rfl rfl rfl (by fail "no rule panic") ?_; refine ok_nil ?_; refine ok_env [(0, _), (1, _)] ⟨rfl, rfl, trivial⟩ ?_)
    | (refine ok_region (i := 3) ?_; refine ok_p rfl rfl rfl (by exact ps_move rfl rfl) ?_; refine ok_p rfl rfl rfl (by exact ps_move rfl rfl) ?_; refine ok_p rfl rfl rfl (by first | exact ps_capS rfl rfl | exact ps_cap rfl rfl rfl) ?_; refine ok_p rfl rfl rfl (by exact ps_move rfl rfl) ?_; refine ok_p rfl rfl rfl (by exact ps_len rfl rfl) ?_; refine ok_p rfl rfl rfl (by first | exact ps_cast (v' := .int .i64 0) (ps_sub rfl rfl rfl (by omega)) (congrArg (Value.int .i64) (by omega)) | exact ps_sub rfl rfl rfl (by omega)) ?_; refine ok_p rfl rfl rfl (by first | exact ps_cast (v' := .int .i64 (n : Int)) (ps_sub rfl rfl rfl (by omega)) (congrArg (Value.int .i64) (by omega)) | exact ps_sub rfl rfl rfl (by omega)) ?_; refine ok_p rfl rfl rfl (by exact ps_assign rfl rfl) ?_; refine ok_nil ?_; refine ok_env [(0, _), (1, _)] ⟨rfl, rfl, trivial⟩ ?_)
    | (refine ok_region (i := 4) ?_; refine ok_p rfl rfl rfl (by exact ps_move rfl rfl) ?_; refine ok_p rfl rfl rfl (by exact ps_int rfl rfl rfl rfl) ?_; refine ok_nil ?_; refine ok_env [(0, _), (1, _), (16, _)] ⟨rfl, rfl, rfl, trivial⟩ ?_)
    | (refine ok_region (i := 5) ?_; refine ok_p rfl rfl rfl (by exact ps_move rfl rfl) ?_; refine ok_p rfl rfl rfl (by exact ps_move rfl rfl) ?_; refine ok_p rfl rfl rfl (by first | exact ps_capS rfl rfl | exact ps_cap rfl rfl rfl) ?_; refine ok_p rfl rfl rfl (by exact ps_slice0 (h := 0) rfl rfl rfl (by omega) (by omega)) ?_; refine ok_p rfl rfl rfl (by exact ps_move rfl rfl) ?_; refine ok_m rfl rfl rfl (by exact ms_appZ (us := []) (i := 0) (n := n) rfl rfl rfl (fun _ _ w _ => Rd.nil w _) rfl (by omega) (by omega) (by omega) (by omega)) ?_; rintro y22 hy22; refine ok_p rfl rfl rfl (by exact ps_move rfl rfl) ?_; refine ok_p rfl rfl rfl (by exact ps_len rfl rfl) ?_; refine ok_p rfl rfl rfl (by exact ps_slice0 (h := 0) rfl rfl rfl (by omega) (by omega)) ?_; refine ok_p rfl rfl rfl (by exact ps_assign rfl rfl) ?_; refine ok_nil ?_; refine ok_env [(0, _)] ⟨rfl, trivial⟩ ?_)
    | (refine ok_region (i := 6) ?_; refine ok_p rfl rfl rfl (by exact ps_move rfl rfl) ?_; refine ok_p rfl rfl rfl (by exact ps_assign rfl rfl) ?_; refine ok_nil ?_; refine ok_env [(4, _)] ⟨rfl, trivial⟩ ?_))
  · exfalso; omega
  · refine ok_endL (vs := [_]) rfl ⟨rfl, trivial⟩ (fun w' hw => ⟨mkY (ga (y22 0).c) (y22 1).c w', rfl, trivial, hw.below, ?_⟩)
    obtain ⟨q1, q2⟩ := hy22
    refine NewOk.of (G := []) ((hw.boxRow (n := 0) (c := (y22 1).c) (us := []) (sz := 1) ?_ q2 (Nat.zero_le _) (by simp)).sel [0] (by decide) rfl (fun _ h => by cases h))
    simp only [List.length_append, zz_len, List.length_cons, List.length_nil]
    omega
  · exact ok_endL (vs := [_]) rfl ⟨rfl, trivial⟩ (fun w' hw => ⟨mkY none 0 w', rfl, trivial, hw.below, NewOk.one (Own.nil w' _ _ _)⟩)
theorem offStr_succ (R : List (Lc (List ByteArray))) (i : Nat) (h : i < R.length) : offR List.length (dats R) (i + 1) = offR List.length (dats R) i + (nth R i).d.length := by
  rw [nthL R i h]
  have hd : i < (dats R).length := by rw [dats_len]; exact h
  unfold offR
  rw [List.take_succ_eq_append_getElem hd, List.map_append, List.sum_append]
  simp [dats]
theorem catStr_step (R : List (Lc (List ByteArray))) (i : Nat) (h : i < R.length) : ((dats R).take (i + 1)).flatten = ((dats R).take i).flatten ++ (nth R i).d := by
  rw [nthL R i h]
  have hd : i < (dats R).length := by rw [dats_len]; exact h
  rw [List.take_succ_eq_append_getElem hd, List.flatten_append]
  simp [dats]
theorem catStr_len (x : List (List ByteArray)) (i : Nat) : ((x.take i).flatten).length = offR List.length x i := by
  unfold offR; rw [List.length_flatten]
theorem concatStr_c (A : Option Addr) (c : Nat) (R : List (Lc (List ByteArray))) (w : World) (h : RdN w A R) (hl : R.length ≤ 4194304) (ht : ∀ k, offR List.length (dats R) k ≤ 4194304) :
    Calls Try.prog 196 #[.slice A R.length c] w fun e w' => ∃ y : Ys, e = .returned (.slice (y 0).A ((dats R).flatten).length (y 0).c) ∧ True ∧ Below w.heap.size w w' ∧ NewOk w.heap.size [.row 9 1 (y 0).A ((dats R).flatten).length (y 0).c (fl (dats R).flatten)] [] w' := by
  obtain ⟨h1, h2⟩ := h
  have H2 := Lib.hid h2; clear h2
  have HT := Lib.hid ht; clear ht
  refine ok_enter 36 Try.func196 rfl rfl rfl ?_
  repeat' (first
    | refine ok_seq ?_
    | refine ok_then ?_
    | refine ok_then_ret ?_
    | refine ok_then_exit ?_
    | refine ok_block ?_
    | refine ok_in_normal ?_
    | refine ok_in_ret ?_
    | refine ok_in_exit ?_
    | refine ok_in_other rfl ?_
    | (refine ok_cond rfl (fun hc => ?_) (fun hc => ?_) <;> (have hd := hc; (try simp only [decide_eq_true_eq, decide_eq_false_iff_not, Bool.or_eq_true, Bool.or_eq_false_iff, Bool.and_eq_true, Bool.and_eq_false_iff, Bool.not_eq_true', Bool.not_eq_false', bne_iff_ne, beq_iff_eq, bne_eq_false_iff_eq, beq_eq_false_iff_ne, ne_eq, Bool.not_true, Bool.not_false, Bool.false_eq_true, Bool.true_eq_false, inB_true, inB_false] at hd)))
    | refine ok_ret ?_
    | refine ok_exit ?_
    | refine ok_skip ?_
    | (refine ok_region (i := 0) ?_; refine ok_p rfl rfl rfl (by exact ps_assign rfl rfl) ?_; refine ok_nil ?_; refine ok_env [(0, _)] ⟨rfl, trivial⟩ ?_)
    | (refine ok_region (i := 1) ?_; refine ok_p rfl rfl rfl (by exact ps_assign rfl rfl) ?_; refine ok_nil ?_; refine ok_env [(0, _), (3, _)] ⟨rfl, rfl, trivial⟩ ?_)
    | (refine ok_region (i := 2) ?_; refine ok_p rfl rfl rfl (by exact ps_move rfl rfl) ?_; refine ok_p rfl rfl rfl (by exact ps_len rfl rfl) ?_; refine ok_p rfl rfl rfl (by exact ps_move rfl rfl) ?_; refine ok_nil ?_; refine ok_env [(0, _), (3, _), (9, _), (10, _), (11, _)] ⟨rfl, rfl, rfl, rfl, rfl, trivial⟩ ?_)
    | (refine ok_region (i := 3) ?_; refine ok_p rfl rfl rfl (by exact ps_int rfl rfl rfl rfl) ?_; refine ok_nil ?_; refine ok_env [(0, _), (3, _), (9, _), (10, _), (11, _), (12, _)] ⟨rfl, rfl, rfl, rfl, rfl, rfl, trivial⟩ ?_)
    | (refine ok_region (i := 4) ?_; refine ok_p rfl rfl rfl (by first | exact ps_indexN rfl rfl rfl (by omega) (by first | exact isw_ga _ | exact isw_some _ | exact isw_row 0 rfl (by omega) | exact isw_row 1 rfl (by omega) | exact isw_row 2 rfl (by omega) | exact isw_row 3 rfl (by omega) | exact isw_row 4 rfl (by omega) | exact isw_row 5 rfl (by omega) | exact isw_row 6 rfl (by omega) | exact isw_row 7 rfl (by omega) | exact isw_row 8 rfl (by omega) | exact isw_of (isS_fl (by assumption) (by omega)) | exact isw_of (by assumption)) | exact ps_index rfl rfl rfl (by omega) (by first | exact isw_ga _ | exact isw_some _ | exact isw_row 0 rfl (by omega) | exact isw_row 1 rfl (by omega) | exact isw_row 2 rfl (by omega) | exact isw_row 3 rfl (by omega) | exact isw_row 4 rfl (by omega) | exact isw_row 5 rfl (by omega) | exact isw_row 6 rfl (by omega) | exact isw_row 7 rfl (by omega) | exact isw_row 8 rfl (by omega) | exact isw_of (isS_fl (by assumption) (by omega)) | exact isw_of (by assumption))) ?_; refine ok_p rfl rfl rfl (by exact ps_load rfl rfl (by first | exact Rds.cell (rds_box 0 rfl) rfl | exact Rds.cell (rds_box 1 rfl) rfl | exact Rds.cell (rds_box 2 rfl) rfl | exact Rds.cell (rds_box 3 rfl) rfl | exact Rds.cell (rds_box 4 rfl) rfl | exact Rds.cell (rds_box 5 rfl) rfl | exact Rds.cell (rds_box 6 rfl) rfl | exact Rds.cell (rds_box 7 rfl) rfl | exact Rds.cell (rds_box 8 rfl) rfl | exact Rds.cell (rds_box 9 rfl) rfl | exact Rds.cell (rds_box 10 rfl) rfl | exact Rds.cell (rds_box 11 rfl) rfl | exact Rds.cell (rds_box 12 rfl) rfl | exact Rds.cell (rds_box 13 rfl) rfl | exact Rds.cell (rds_box 14 rfl) rfl | exact Rds.cell (rds_box 15 rfl) rfl | exact Rds.cell (rds_box 16 rfl) rfl | exact Rds.cell (rds_box 17 rfl) rfl | exact Rds.cell (rds_box 18 rfl) rfl | exact Rds.cell (rds_box 19 rfl) rfl | exact Rds.cell (rds_box 20 rfl) rfl | exact Rds.cell (rds_box 21 rfl) rfl | exact Rds.cell (rds_box 22 rfl) rfl | exact Rds.cell (rds_box 23 rfl) rfl | exact Rds.cell (rds_rf (by assumption) (by first | exact List.mem_cons_self | exact List.mem_cons_of_mem _ List.mem_cons_self | simp)) (by first | exact fl_at0 _ _ (by omega) (by decide) | exact fl_at _ _ _ (by omega) (by decide)) | exact Rds.cell (rds_row 0 rfl) (by first | exact fl_at0 _ _ (by omega) (by decide) | exact fl_at _ _ _ (by omega) (by decide)) | exact Rds.cell (rds_row 1 rfl) (by first | exact fl_at0 _ _ (by omega) (by decide) | exact fl_at _ _ _ (by omega) (by decide)) | exact Rds.cell (rds_row 2 rfl) (by first | exact fl_at0 _ _ (by omega) (by decide) | exact fl_at _ _ _ (by omega) (by decide)) | exact Rds.cell (rds_row 3 rfl) (by first | exact fl_at0 _ _ (by omega) (by decide) | exact fl_at _ _ _ (by omega) (by decide)) | exact Rds.cell (rds_row 4 rfl) (by first | exact fl_at0 _ _ (by omega) (by decide) | exact fl_at _ _ _ (by omega) (by decide)) | exact Rds.cell (rds_row 5 rfl) (by first | exact fl_at0 _ _ (by omega) (by decide) | exact fl_at _ _ _ (by omega) (by decide)) | exact Rds.cell (rds_row 6 rfl) (by first | exact fl_at0 _ _ (by omega) (by decide) | exact fl_at _ _ _ (by omega) (by decide)) | exact Rds.cell (rds_row 7 rfl) (by first | exact fl_at0 _ _ (by omega) (by decide) | exact fl_at _ _ _ (by omega) (by decide)) | exact Rds.cell (rds_row 8 rfl) (by first | exact fl_at0 _ _ (by omega) (by decide) | exact fl_at _ _ _ (by omega) (by decide)) | exact Rds.cell (rds_row 9 rfl) (by first | exact fl_at0 _ _ (by omega) (by decide) | exact fl_at _ _ _ (by omega) (by decide)))) ?_; refine ok_p rfl rfl rfl (by exact ps_assign rfl rfl) ?_; refine ok_nil ?_; refine ok_env [(0, _), (3, _), (5, _), (9, _), (10, _), (11, _)] ⟨rfl, rfl, rfl, rfl, rfl, rfl, trivial⟩ ?_)
    | (refine ok_region (i := 5) ?_; refine ok_p rfl rfl rfl (by exact ps_move rfl rfl) ?_; refine ok_p rfl rfl rfl (by exact ps_move rfl rfl) ?_; refine ok_p rfl rfl rfl (by exact ps_len rfl rfl) ?_; refine ok_p rfl rfl rfl (by exact ps_add rfl rfl rfl (by omega)) ?_; refine ok_p rfl rfl rfl (by exact ps_assign rfl rfl) ?_; refine ok_nil ?_; refine ok_env [(0, _), (3, _), (9, _), (10, _), (11, _)] ⟨rfl, rfl, rfl, rfl, rfl, trivial⟩ ?_)
    | (refine ok_region (i := 6) ?_; refine ok_p rfl rfl rfl (by exact ps_move rfl rfl) ?_; refine ok_p rfl rfl rfl (by exact ps_int rfl rfl rfl rfl) ?_; refine ok_nil ?_; refine ok_env [(0, _), (3, _), (9, _), (10, _), (11, _), (20, _)] ⟨rfl, rfl, rfl, rfl, rfl, rfl, trivial⟩ ?_)
    | (refine ok_region (i := 7) ?_; refine ok_p rfl rfl rfl (by fail "no rule makeInterface") ?_; refine ok_p rfl rfl rfl (by fail "no rule panic") ?_; refine ok_nil ?_; refine ok_env [(0, _), (3, _), (9, _), (10, _), (11, _)] ⟨rfl, rfl, rfl, rfl, rfl, trivial⟩ ?_)
    | (refine ok_region (i := 8) ?_; refine ok_p rfl rfl rfl (by exact ps_add rfl rfl rfl (by omega)) ?_; refine ok_p rfl rfl rfl (by exact ps_move rfl rfl) ?_; refine ok_nil ?_; refine ok_env [(0, _), (3, _), (9, _), (10, _), (11, _)] ⟨rfl, rfl, rfl, rfl, rfl, trivial⟩ ?_)
    | (refine ok_region (i := 9) ?_; refine ok_p rfl rfl rfl (by exact ps_move rfl rfl) ?_; refine ok_m rfl rfl rfl (by fail "no maker call") ?_; rintro y24 hy24; refine ok_p rfl rfl rfl (by exact ps_assign rfl rfl) ?_; refine ok_nil ?_; refine ok_env [(0, _), (6, _)] ⟨rfl, rfl, trivial⟩ ?_)
    | (refine ok_region (i := 10) ?_; refine ok_p rfl rfl rfl (by exact ps_move rfl rfl) ?_; refine ok_p rfl rfl rfl (by exact ps_len rfl rfl) ?_; refine ok_p rfl rfl rfl (by exact ps_move rfl rfl) ?_; refine ok_nil ?_; refine ok_env [(6, _), (25, _), (26, _), (27, _)] ⟨rfl, rfl, rfl, rfl, trivial⟩ ?_)
    | (refine ok_region (i := 11) ?_; refine ok_p rfl rfl rfl (by exact ps_int rfl rfl rfl rfl) ?_; refine ok_nil ?_; refine ok_env [(6, _), (25, _), (26, _), (27, _), (28, _)] ⟨rfl, rfl, rfl, rfl, rfl, trivial⟩ ?_)
    | (refine ok_region (i := 12) ?_; refine ok_p rfl rfl rfl (by first | exact ps_indexN rfl rfl rfl (by omega) (by first | exact isw_ga _ | exact isw_some _ | exact isw_row 0 rfl (by omega) | exact isw_row 1 rfl (by omega) | exact isw_row 2 rfl (by omega) | exact isw_row 3 rfl (by omega) | exact isw_row 4 rfl (by omega) | exact isw_row 5 rfl (by omega) | exact isw_row 6 rfl (by omega) | exact isw_row 7 rfl (by omega) | exact isw_row 8 rfl (by omega) | exact isw_of (isS_fl (by assumption) (by omega)) | exact isw_of (by assumption)) | exact ps_index rfl rfl rfl (by omega) (by first | exact isw_ga _ | exact isw_some _ | exact isw_row 0 rfl (by omega) | exact isw_row 1 rfl (by omega) | exact isw_row 2 rfl (by omega) | exact isw_row 3 rfl (by omega) | exact isw_row 4 rfl (by omega) | exact isw_row 5 rfl (by omega) | exact isw_row 6 rfl (by omega) | exact isw_row 7 rfl (by omega) | exact isw_row 8 rfl (by omega) | exact isw_of (isS_fl (by assumption) (by omega)) | exact isw_of (by assumption))) ?_; refine ok_p rfl rfl rfl (by exact ps_load rfl rfl (by first | exact Rds.cell (rds_box 0 rfl) rfl | exact Rds.cell (rds_box 1 rfl) rfl | exact Rds.cell (rds_box 2 rfl) rfl | exact Rds.cell (rds_box 3 rfl) rfl | exact Rds.cell (rds_box 4 rfl) rfl | exact Rds.cell (rds_box 5 rfl) rfl | exact Rds.cell (rds_box 6 rfl) rfl | exact Rds.cell (rds_box 7 rfl) rfl | exact Rds.cell (rds_box 8 rfl) rfl | exact Rds.cell (rds_box 9 rfl) rfl | exact Rds.cell (rds_box 10 rfl) rfl | exact Rds.cell (rds_box 11 rfl) rfl | exact Rds.cell (rds_box 12 rfl) rfl | exact Rds.cell (rds_box 13 rfl) rfl | exact Rds.cell (rds_box 14 rfl) rfl | exact Rds.cell (rds_box 15 rfl) rfl | exact Rds.cell (rds_box 16 rfl) rfl | exact Rds.cell (rds_box 17 rfl) rfl | exact Rds.cell (rds_box 18 rfl) rfl | exact Rds.cell (rds_box 19 rfl) rfl | exact Rds.cell (rds_box 20 rfl) rfl | exact Rds.cell (rds_box 21 rfl) rfl | exact Rds.cell (rds_box 22 rfl) rfl | exact Rds.cell (rds_box 23 rfl) rfl | exact Rds.cell (rds_rf (by assumption) (by first | exact List.mem_cons_self | exact List.mem_cons_of_mem _ List.mem_cons_self | simp)) (by first | exact fl_at0 _ _ (by omega) (by decide) | exact fl_at _ _ _ (by omega) (by decide)) | exact Rds.cell (rds_row 0 rfl) (by first | exact fl_at0 _ _ (by omega) (by decide) | exact fl_at _ _ _ (by omega) (by decide)) | exact Rds.cell (rds_row 1 rfl) (by first | exact fl_at0 _ _ (by omega) (by decide) | exact fl_at _ _ _ (by omega) (by decide)) | exact Rds.cell (rds_row 2 rfl) (by first | exact fl_at0 _ _ (by omega) (by decide) | exact fl_at _ _ _ (by omega) (by decide)) | exact Rds.cell (rds_row 3 rfl) (by first | exact fl_at0 _ _ (by omega) (by decide) | exact fl_at _ _ _ (by omega) (by decide)) | exact Rds.cell (rds_row 4 rfl) (by first | exact fl_at0 _ _ (by omega) (by decide) | exact fl_at _ _ _ (by omega) (by decide)) | exact Rds.cell (rds_row 5 rfl) (by first | exact fl_at0 _ _ (by omega) (by decide) | exact fl_at _ _ _ (by omega) (by decide)) | exact Rds.cell (rds_row 6 rfl) (by first | exact fl_at0 _ _ (by omega) (by decide) | exact fl_at _ _ _ (by omega) (by decide)) | exact Rds.cell (rds_row 7 rfl) (by first | exact fl_at0 _ _ (by omega) (by decide) | exact fl_at _ _ _ (by omega) (by decide)) | exact Rds.cell (rds_row 8 rfl) (by first | exact fl_at0 _ _ (by omega) (by decide) | exact fl_at _ _ _ (by omega) (by decide)) | exact Rds.cell (rds_row 9 rfl) (by first | exact fl_at0 _ _ (by omega) (by decide) | exact fl_at _ _ _ (by omega) (by decide)))) ?_; refine ok_p rfl rfl rfl (by exact ps_assign rfl rfl) ?_; refine ok_nil ?_; refine ok_env [(6, _), (8, _), (25, _), (26, _), (27, _)] ⟨rfl, rfl, rfl, rfl, rfl, trivial⟩ ?_)
    | (refine ok_region (i := 13) ?_; refine ok_p rfl rfl rfl (by exact ps_move rfl rfl) ?_; refine ok_p rfl rfl rfl (by exact ps_move rfl rfl) ?_; refine ok_m rfl rfl rfl (by fail "no maker call") ?_; rintro y33 hy33; refine ok_p rfl rfl rfl (by exact ps_assign rfl rfl) ?_; refine ok_nil ?_; refine ok_env [(6, _), (25, _), (26, _), (27, _)] ⟨rfl, rfl, rfl, rfl, trivial⟩ ?_)
    | (refine ok_region (i := 14) ?_; refine ok_p rfl rfl rfl (by exact ps_add rfl rfl rfl (by omega)) ?_; refine ok_p rfl rfl rfl (by exact ps_move rfl rfl) ?_; refine ok_nil ?_; refine ok_env [(6, _), (25, _), (26, _), (27, _)] ⟨rfl, rfl, rfl, rfl, trivial⟩ ?_)
    | (refine ok_region (i := 15) ?_; refine ok_p rfl rfl rfl (by exact ps_move rfl rfl) ?_; refine ok_p rfl rfl rfl (by exact ps_assign rfl rfl) ?_; refine ok_nil ?_; refine ok_env [(2, _)] ⟨rfl, trivial⟩ ?_))
  refine ok_loop (ι := { k : Nat // k ≤ R.length }) (fun k => R.length - k.1) (fun k => ([(0, .slice A R.length c), (3, .int .i64 (offR List.length (dats R) k.1 : Int)), (9, .slice A R.length c), (10, .int .i64 R.length), (11, .int .i64 k.1)], [], _)) ⟨0, by omega⟩ (fun a w he hw => ⟨⟨0, by omega⟩, he.sub ⟨rfl, rfl, rfl, rfl, rfl, trivial⟩, hw⟩) ?_
  rintro ⟨k, hk⟩
  simp only at hk ⊢
  have ho := HT.out k
  have ho1 : k < R.length → offR List.length (dats R) k + (nth R k).d.length ≤ 4194304 := fun h => by rw [← offStr_succ R k h]; exact HT.out (k + 1)
  repeat' (first
    | refine ok_seq ?_
    | refine ok_then ?_
    | refine ok_then_ret ?_
    | refine ok_then_exit ?_
    | refine ok_block ?_
    | refine ok_in_normal ?_
    | refine ok_in_ret ?_
    | refine ok_in_exit ?_
    | refine ok_in_other rfl ?_
    | (refine ok_cond rfl (fun hc => ?_) (fun hc => ?_) <;> (have hd := hc; (try simp only [decide_eq_true_eq, decide_eq_false_iff_not, Bool.or_eq_true, Bool.or_eq_false_iff, Bool.and_eq_true, Bool.and_eq_false_iff, Bool.not_eq_true', Bool.not_eq_false', bne_iff_ne, beq_iff_eq, bne_eq_false_iff_eq, beq_eq_false_iff_ne, ne_eq, Bool.not_true, Bool.not_false, Bool.false_eq_true, Bool.true_eq_false, inB_true, inB_false] at hd)))
    | refine ok_ret ?_
    | refine ok_exit ?_
    | refine ok_skip ?_
    | (refine ok_region (i := 0) ?_; refine ok_p rfl rfl rfl (by exact ps_assign rfl rfl) ?_; refine ok_nil ?_; refine ok_env [(0, _)] ⟨rfl, trivial⟩ ?_)
    | (refine ok_region (i := 1) ?_; refine ok_p rfl rfl rfl (by exact ps_assign rfl rfl) ?_; refine ok_nil ?_; refine ok_env [(0, _), (3, _)] ⟨rfl, rfl, trivial⟩ ?_)
    | (refine ok_region (i := 2) ?_; refine ok_p rfl rfl rfl (by exact ps_move rfl rfl) ?_; refine ok_p rfl rfl rfl (by exact ps_len rfl rfl) ?_; refine ok_p rfl rfl rfl (by exact ps_move rfl rfl) ?_; refine ok_nil ?_; refine ok_env [(0, _), (3, _), (9, _), (10, _), (11, _)] ⟨rfl, rfl, rfl, rfl, rfl, trivial⟩ ?_)
    | (refine ok_region (i := 3) ?_; refine ok_p rfl rfl rfl (by exact ps_int rfl rfl rfl rfl) ?_; refine ok_nil ?_; refine ok_env [(0, _), (3, _), (9, _), (10, _), (11, _), (12, _)] ⟨rfl, rfl, rfl, rfl, rfl, rfl, trivial⟩ ?_)
    | (refine ok_region (i := 4) ?_; refine ok_p rfl rfl rfl (by first | exact ps_indexN rfl rfl rfl (by omega) (by first | exact isw_ga _ | exact isw_some _ | exact isw_row 0 rfl (by omega) | exact isw_row 1 rfl (by omega) | exact isw_row 2 rfl (by omega) | exact isw_row 3 rfl (by omega) | exact isw_row 4 rfl (by omega) | exact isw_row 5 rfl (by omega) | exact isw_row 6 rfl (by omega) | exact isw_row 7 rfl (by omega) | exact isw_row 8 rfl (by omega) | exact isw_of (isS_fl (by assumption) (by omega)) | exact isw_of (by assumption)) | exact ps_index rfl rfl rfl (by omega) (by first | exact isw_ga _ | exact isw_some _ | exact isw_row 0 rfl (by omega) | exact isw_row 1 rfl (by omega) | exact isw_row 2 rfl (by omega) | exact isw_row 3 rfl (by omega) | exact isw_row 4 rfl (by omega) | exact isw_row 5 rfl (by omega) | exact isw_row 6 rfl (by omega) | exact isw_row 7 rfl (by omega) | exact isw_row 8 rfl (by omega) | exact isw_of (isS_fl (by assumption) (by omega)) | exact isw_of (by assumption))) ?_; refine ok_p rfl rfl rfl (by exact ps_load rfl rfl (by first | exact Rds.cell (rds_box 0 rfl) rfl | exact Rds.cell (rds_box 1 rfl) rfl | exact Rds.cell (rds_box 2 rfl) rfl | exact Rds.cell (rds_box 3 rfl) rfl | exact Rds.cell (rds_box 4 rfl) rfl | exact Rds.cell (rds_box 5 rfl) rfl | exact Rds.cell (rds_box 6 rfl) rfl | exact Rds.cell (rds_box 7 rfl) rfl | exact Rds.cell (rds_box 8 rfl) rfl | exact Rds.cell (rds_box 9 rfl) rfl | exact Rds.cell (rds_box 10 rfl) rfl | exact Rds.cell (rds_box 11 rfl) rfl | exact Rds.cell (rds_box 12 rfl) rfl | exact Rds.cell (rds_box 13 rfl) rfl | exact Rds.cell (rds_box 14 rfl) rfl | exact Rds.cell (rds_box 15 rfl) rfl | exact Rds.cell (rds_box 16 rfl) rfl | exact Rds.cell (rds_box 17 rfl) rfl | exact Rds.cell (rds_box 18 rfl) rfl | exact Rds.cell (rds_box 19 rfl) rfl | exact Rds.cell (rds_box 20 rfl) rfl | exact Rds.cell (rds_box 21 rfl) rfl | exact Rds.cell (rds_box 22 rfl) rfl | exact Rds.cell (rds_box 23 rfl) rfl | exact Rds.cell (rds_rf (by assumption) (by first | exact List.mem_cons_self | exact List.mem_cons_of_mem _ List.mem_cons_self | simp)) (by first | exact fl_at0 _ _ (by omega) (by decide) | exact fl_at _ _ _ (by omega) (by decide)) | exact Rds.cell (rds_row 0 rfl) (by first | exact fl_at0 _ _ (by omega) (by decide) | exact fl_at _ _ _ (by omega) (by decide)) | exact Rds.cell (rds_row 1 rfl) (by first | exact fl_at0 _ _ (by omega) (by decide) | exact fl_at _ _ _ (by omega) (by decide)) | exact Rds.cell (rds_row 2 rfl) (by first | exact fl_at0 _ _ (by omega) (by decide) | exact fl_at _ _ _ (by omega) (by decide)) | exact Rds.cell (rds_row 3 rfl) (by first | exact fl_at0 _ _ (by omega) (by decide) | exact fl_at _ _ _ (by omega) (by decide)) | exact Rds.cell (rds_row 4 rfl) (by first | exact fl_at0 _ _ (by omega) (by decide) | exact fl_at _ _ _ (by omega) (by decide)) | exact Rds.cell (rds_row 5 rfl) (by first | exact fl_at0 _ _ (by omega) (by decide) | exact fl_at _ _ _ (by omega) (by decide)) | exact Rds.cell (rds_row 6 rfl) (by first | exact fl_at0 _ _ (by omega) (by decide) | exact fl_at _ _ _ (by omega) (by decide)) | exact Rds.cell (rds_row 7 rfl) (by first | exact fl_at0 _ _ (by omega) (by decide) | exact fl_at _ _ _ (by omega) (by decide)) | exact Rds.cell (rds_row 8 rfl) (by first | exact fl_at0 _ _ (by omega) (by decide) | exact fl_at _ _ _ (by omega) (by decide)) | exact Rds.cell (rds_row 9 rfl) (by first | exact fl_at0 _ _ (by omega) (by decide) | exact fl_at _ _ _ (by omega) (by decide)))) ?_; refine ok_p rfl rfl rfl (by exact ps_assign rfl rfl) ?_; refine ok_nil ?_; refine ok_env [(0, _), (3, _), (5, _), (9, _), (10, _), (11, _)] ⟨rfl, rfl, rfl, rfl, rfl, rfl, trivial⟩ ?_)
    | (refine ok_region (i := 5) ?_; refine ok_p rfl rfl rfl (by exact ps_move rfl rfl) ?_; refine ok_p rfl rfl rfl (by exact ps_move rfl rfl) ?_; refine ok_p rfl rfl rfl (by exact ps_len rfl rfl) ?_; refine ok_p rfl rfl rfl (by first | exact ps_add (n := ((nth R k).d.length : Int)) rfl rfl rfl (by have := ho1 (by omega); omega) | exact ps_add rfl rfl rfl (by omega)) ?_; refine ok_p rfl rfl rfl (by exact ps_assign rfl rfl) ?_; refine ok_nil ?_; refine ok_env [(0, _), (3, _), (9, _), (10, _), (11, _)] ⟨rfl, rfl, rfl, rfl, rfl, trivial⟩ ?_)
    | (refine ok_region (i := 6) ?_; refine ok_p rfl rfl rfl (by exact ps_move rfl rfl) ?_; refine ok_p rfl rfl rfl (by exact ps_int rfl rfl rfl rfl) ?_; refine ok_nil ?_; refine ok_env [(0, _), (3, _), (9, _), (10, _), (11, _), (20, _)] ⟨rfl, rfl, rfl, rfl, rfl, rfl, trivial⟩ ?_)
    | (refine ok_region (i := 7) ?_; refine ok_p rfl rfl rfl (by fail "no rule makeInterface") ?_; refine ok_p rfl rfl rfl (by fail "no rule panic") ?_; refine ok_nil ?_; refine ok_env [(0, _), (3, _), (9, _), (10, _), (11, _)] ⟨rfl, rfl, rfl, rfl, rfl, trivial⟩ ?_)
    | (refine ok_region (i := 8) ?_; refine ok_p rfl rfl rfl (by exact ps_add rfl rfl rfl (by omega)) ?_; refine ok_p rfl rfl rfl (by exact ps_move rfl rfl) ?_; refine ok_nil ?_; refine ok_env [(0, _), (3, _), (9, _), (10, _), (11, _)] ⟨rfl, rfl, rfl, rfl, rfl, trivial⟩ ?_)
    | (refine ok_region (i := 9) ?_; refine ok_p rfl rfl rfl (by exact ps_move rfl rfl) ?_; refine ok_m rfl rfl rfl (by exact ms_c2 rfl rfl rfl (fun _ _ w hw => growStr_c _ (HT.out k) w)) ?_; rintro y24 hy24; refine ok_p rfl rfl rfl (by exact ps_assign rfl rfl) ?_; refine ok_nil ?_; refine ok_env [(0, _), (6, _)] ⟨rfl, rfl, trivial⟩ ?_)
    | (refine ok_region (i := 10) ?_; refine ok_p rfl rfl rfl (by exact ps_move rfl rfl) ?_; refine ok_p rfl rfl rfl (by exact ps_len rfl rfl) ?_; refine ok_p rfl rfl rfl (by exact ps_move rfl rfl) ?_; refine ok_nil ?_; refine ok_env [(6, _), (25, _), (26, _), (27, _)] ⟨rfl, rfl, rfl, rfl, trivial⟩ ?_)
    | (refine ok_region (i := 11) ?_; refine ok_p rfl rfl rfl (by exact ps_int rfl rfl rfl rfl) ?_; refine ok_nil ?_; refine ok_env [(6, _), (25, _), (26, _), (27, _), (28, _)] ⟨rfl, rfl, rfl, rfl, rfl, trivial⟩ ?_)
    | (refine ok_region (i := 12) ?_; refine ok_p rfl rfl rfl (by first | exact ps_indexN rfl rfl rfl (by omega) (by first | exact isw_ga _ | exact isw_some _ | exact isw_row 0 rfl (by omega) | exact isw_row 1 rfl (by omega) | exact isw_row 2 rfl (by omega) | exact isw_row 3 rfl (by omega) | exact isw_row 4 rfl (by omega) | exact isw_row 5 rfl (by omega) | exact isw_row 6 rfl (by omega) | exact isw_row 7 rfl (by omega) | exact isw_row 8 rfl (by omega) | exact isw_of (isS_fl (by assumption) (by omega)) | exact isw_of (by assumption)) | exact ps_index rfl rfl rfl (by omega) (by first | exact isw_ga _ | exact isw_some _ | exact isw_row 0 rfl (by omega) | exact isw_row 1 rfl (by omega) | exact isw_row 2 rfl (by omega) | exact isw_row 3 rfl (by omega) | exact isw_row 4 rfl (by omega) | exact isw_row 5 rfl (by omega) | exact isw_row 6 rfl (by omega) | exact isw_row 7 rfl (by omega) | exact isw_row 8 rfl (by omega) | exact isw_of (isS_fl (by assumption) (by omega)) | exact isw_of (by assumption))) ?_; refine ok_p rfl rfl rfl (by exact ps_load rfl rfl (by first | exact Rds.cell (rds_box 0 rfl) rfl | exact Rds.cell (rds_box 1 rfl) rfl | exact Rds.cell (rds_box 2 rfl) rfl | exact Rds.cell (rds_box 3 rfl) rfl | exact Rds.cell (rds_box 4 rfl) rfl | exact Rds.cell (rds_box 5 rfl) rfl | exact Rds.cell (rds_box 6 rfl) rfl | exact Rds.cell (rds_box 7 rfl) rfl | exact Rds.cell (rds_box 8 rfl) rfl | exact Rds.cell (rds_box 9 rfl) rfl | exact Rds.cell (rds_box 10 rfl) rfl | exact Rds.cell (rds_box 11 rfl) rfl | exact Rds.cell (rds_box 12 rfl) rfl | exact Rds.cell (rds_box 13 rfl) rfl | exact Rds.cell (rds_box 14 rfl) rfl | exact Rds.cell (rds_box 15 rfl) rfl | exact Rds.cell (rds_box 16 rfl) rfl | exact Rds.cell (rds_box 17 rfl) rfl | exact Rds.cell (rds_box 18 rfl) rfl | exact Rds.cell (rds_box 19 rfl) rfl | exact Rds.cell (rds_box 20 rfl) rfl | exact Rds.cell (rds_box 21 rfl) rfl | exact Rds.cell (rds_box 22 rfl) rfl | exact Rds.cell (rds_box 23 rfl) rfl | exact Rds.cell (rds_rf (by assumption) (by first | exact List.mem_cons_self | exact List.mem_cons_of_mem _ List.mem_cons_self | simp)) (by first | exact fl_at0 _ _ (by omega) (by decide) | exact fl_at _ _ _ (by omega) (by decide)) | exact Rds.cell (rds_row 0 rfl) (by first | exact fl_at0 _ _ (by omega) (by decide) | exact fl_at _ _ _ (by omega) (by decide)) | exact Rds.cell (rds_row 1 rfl) (by first | exact fl_at0 _ _ (by omega) (by decide) | exact fl_at _ _ _ (by omega) (by decide)) | exact Rds.cell (rds_row 2 rfl) (by first | exact fl_at0 _ _ (by omega) (by decide) | exact fl_at _ _ _ (by omega) (by decide)) | exact Rds.cell (rds_row 3 rfl) (by first | exact fl_at0 _ _ (by omega) (by decide) | exact fl_at _ _ _ (by omega) (by decide)) | exact Rds.cell (rds_row 4 rfl) (by first | exact fl_at0 _ _ (by omega) (by decide) | exact fl_at _ _ _ (by omega) (by decide)) | exact Rds.cell (rds_row 5 rfl) (by first | exact fl_at0 _ _ (by omega) (by decide) | exact fl_at _ _ _ (by omega) (by decide)) | exact Rds.cell (rds_row 6 rfl) (by first | exact fl_at0 _ _ (by omega) (by decide) | exact fl_at _ _ _ (by omega) (by decide)) | exact Rds.cell (rds_row 7 rfl) (by first | exact fl_at0 _ _ (by omega) (by decide) | exact fl_at _ _ _ (by omega) (by decide)) | exact Rds.cell (rds_row 8 rfl) (by first | exact fl_at0 _ _ (by omega) (by decide) | exact fl_at _ _ _ (by omega) (by decide)) | exact Rds.cell (rds_row 9 rfl) (by first | exact fl_at0 _ _ (by omega) (by decide) | exact fl_at _ _ _ (by omega) (by decide)))) ?_; refine ok_p rfl rfl rfl (by exact ps_assign rfl rfl) ?_; refine ok_nil ?_; refine ok_env [(6, _), (8, _), (25, _), (26, _), (27, _)] ⟨rfl, rfl, rfl, rfl, rfl, trivial⟩ ?_)
    | (refine ok_region (i := 13) ?_; refine ok_p rfl rfl rfl (by exact ps_move rfl rfl) ?_; refine ok_p rfl rfl rfl (by exact ps_move rfl rfl) ?_; refine ok_m rfl rfl rfl (by fail "no maker call") ?_; rintro y33 hy33; refine ok_p rfl rfl rfl (by exact ps_assign rfl rfl) ?_; refine ok_nil ?_; refine ok_env [(6, _), (25, _), (26, _), (27, _)] ⟨rfl, rfl, rfl, rfl, trivial⟩ ?_)
    | (refine ok_region (i := 14) ?_; refine ok_p rfl rfl rfl (by exact ps_add rfl rfl rfl (by omega)) ?_; refine ok_p rfl rfl rfl (by exact ps_move rfl rfl) ?_; refine ok_nil ?_; refine ok_env [(6, _), (25, _), (26, _), (27, _)] ⟨rfl, rfl, rfl, rfl, trivial⟩ ?_)
    | (refine ok_region (i := 15) ?_; refine ok_p rfl rfl rfl (by exact ps_move rfl rfl) ?_; refine ok_p rfl rfl rfl (by exact ps_assign rfl rfl) ?_; refine ok_nil ?_; refine ok_env [(2, _)] ⟨rfl, trivial⟩ ?_))
  · exfalso; omega
  · refine fun a w' he hw => ⟨⟨k + 1, by omega⟩, by simp only; omega, he.sub ⟨rfl, ?_, rfl, rfl, rfl, trivial⟩, hw⟩
    simp only [look]; congr 2; rw [offStr_succ R k (by omega)]; simp
  · clear hk ho ho1
    refine ok_loop (ι := { p : Nat × Option Addr × Nat // p.1 ≤ R.length }) (fun p => R.length - p.1.1) (fun p => ([(6, .slice p.1.2.1 (((dats R).take p.1.1).flatten).length p.1.2.2), (25, .slice A R.length c), (26, .int .i64 R.length), (27, .int .i64 p.1.1)], [.row 9 1 p.1.2.1 (((dats R).take p.1.1).flatten).length p.1.2.2 (fl ((dats R).take p.1.1).flatten)], _)) ⟨(0, (y24 0).A, (y24 0).c), by simp⟩ (fun a w he hw => ⟨⟨(0, (y24 0).A, (y24 0).c), by simp⟩, he.sub ⟨rfl, rfl, rfl, rfl, trivial⟩, hw⟩) ?_
    rintro ⟨⟨k, B, d⟩, hk⟩
    simp only at hk ⊢
    have ho1 : k < R.length → (((dats R).take k).flatten).length + (nth R k).d.length ≤ 4194304 := fun h => by rw [catStr_len, ← offStr_succ R k h]; exact HT.out (k + 1)
    repeat' (first
      | refine ok_seq ?_
      | refine ok_then ?_
      | refine ok_then_ret ?_
      | refine ok_then_exit ?_
      | refine ok_block ?_
      | refine ok_in_normal ?_
      | refine ok_in_ret ?_
      | refine ok_in_exit ?_
      | refine ok_in_other rfl ?_
      | (refine ok_cond rfl (fun hc => ?_) (fun hc => ?_) <;> (have hd := hc; (try simp only [decide_eq_true_eq, decide_eq_false_iff_not, Bool.or_eq_true, Bool.or_eq_false_iff, Bool.and_eq_true, Bool.and_eq_false_iff, Bool.not_eq_true', Bool.not_eq_false', bne_iff_ne, beq_iff_eq, bne_eq_false_iff_eq, beq_eq_false_iff_ne, ne_eq, Bool.not_true, Bool.not_false, Bool.false_eq_true, Bool.true_eq_false, inB_true, inB_false] at hd)))
      | refine ok_ret ?_
      | refine ok_exit ?_
      | refine ok_skip ?_
      | (refine ok_region (i := 0) ?_; refine ok_p rfl rfl rfl (by exact ps_assign rfl rfl) ?_; refine ok_nil ?_; refine ok_env [(0, _)] ⟨rfl, trivial⟩ ?_)
      | (refine ok_region (i := 1) ?_; refine ok_p rfl rfl rfl (by exact ps_assign rfl rfl) ?_; refine ok_nil ?_; refine ok_env [(0, _), (3, _)] ⟨rfl, rfl, trivial⟩ ?_)
      | (refine ok_region (i := 2) ?_; refine ok_p rfl rfl rfl (by exact ps_move rfl rfl) ?_; refine ok_p rfl rfl rfl (by exact ps_len rfl rfl) ?_; refine ok_p rfl rfl rfl (by exact ps_move rfl rfl) ?_; refine ok_nil ?_; refine ok_env [(0, _), (3, _), (9, _), (10, _), (11, _)] ⟨rfl, rfl, rfl, rfl, rfl, trivial⟩ ?_)
      | (refine ok_region (i := 3) ?_; refine ok_p rfl rfl rfl (by exact ps_int rfl rfl rfl rfl) ?_; refine ok_nil ?_; refine ok_env [(0, _), (3, _), (9, _), (10, _), (11, _), (12, _)] ⟨rfl, rfl, rfl, rfl, rfl, rfl, trivial⟩ ?_)
      | (refine ok_region (i := 4) ?_; refine ok_p rfl rfl rfl (by first | exact ps_indexN rfl rfl rfl (by omega) (by first | exact isw_ga _ | exact isw_some _ | exact isw_row 0 rfl (by omega) | exact isw_row 1 rfl (by omega) | exact isw_row 2 rfl (by omega) | exact isw_row 3 rfl (by omega) | exact isw_row 4 rfl (by omega) | exact isw_row 5 rfl (by omega) | exact isw_row 6 rfl (by omega) | exact isw_row 7 rfl (by omega) | exact isw_row 8 rfl (by omega) | exact isw_of (isS_fl (by assumption) (by omega)) | exact isw_of (by assumption)) | exact ps_index rfl rfl rfl (by omega) (by first | exact isw_ga _ | exact isw_some _ | exact isw_row 0 rfl (by omega) | exact isw_row 1 rfl (by omega) | exact isw_row 2 rfl (by omega) | exact isw_row 3 rfl (by omega) | exact isw_row 4 rfl (by omega) | exact isw_row 5 rfl (by omega) | exact isw_row 6 rfl (by omega) | exact isw_row 7 rfl (by omega) | exact isw_row 8 rfl (by omega) | exact isw_of (isS_fl (by assumption) (by omega)) | exact isw_of (by assumption))) ?_; refine ok_p rfl rfl rfl (by exact ps_load rfl rfl (by first | exact Rds.cell (rds_box 0 rfl) rfl | exact Rds.cell (rds_box 1 rfl) rfl | exact Rds.cell (rds_box 2 rfl) rfl | exact Rds.cell (rds_box 3 rfl) rfl | exact Rds.cell (rds_box 4 rfl) rfl | exact Rds.cell (rds_box 5 rfl) rfl | exact Rds.cell (rds_box 6 rfl) rfl | exact Rds.cell (rds_box 7 rfl) rfl | exact Rds.cell (rds_box 8 rfl) rfl | exact Rds.cell (rds_box 9 rfl) rfl | exact Rds.cell (rds_box 10 rfl) rfl | exact Rds.cell (rds_box 11 rfl) rfl | exact Rds.cell (rds_box 12 rfl) rfl | exact Rds.cell (rds_box 13 rfl) rfl | exact Rds.cell (rds_box 14 rfl) rfl | exact Rds.cell (rds_box 15 rfl) rfl | exact Rds.cell (rds_box 16 rfl) rfl | exact Rds.cell (rds_box 17 rfl) rfl | exact Rds.cell (rds_box 18 rfl) rfl | exact Rds.cell (rds_box 19 rfl) rfl | exact Rds.cell (rds_box 20 rfl) rfl | exact Rds.cell (rds_box 21 rfl) rfl | exact Rds.cell (rds_box 22 rfl) rfl | exact Rds.cell (rds_box 23 rfl) rfl | exact Rds.cell (rds_rf (by assumption) (by first | exact List.mem_cons_self | exact List.mem_cons_of_mem _ List.mem_cons_self | simp)) (by first | exact fl_at0 _ _ (by omega) (by decide) | exact fl_at _ _ _ (by omega) (by decide)) | exact Rds.cell (rds_row 0 rfl) (by first | exact fl_at0 _ _ (by omega) (by decide) | exact fl_at _ _ _ (by omega) (by decide)) | exact Rds.cell (rds_row 1 rfl) (by first | exact fl_at0 _ _ (by omega) (by decide) | exact fl_at _ _ _ (by omega) (by decide)) | exact Rds.cell (rds_row 2 rfl) (by first | exact fl_at0 _ _ (by omega) (by decide) | exact fl_at _ _ _ (by omega) (by decide)) | exact Rds.cell (rds_row 3 rfl) (by first | exact fl_at0 _ _ (by omega) (by decide) | exact fl_at _ _ _ (by omega) (by decide)) | exact Rds.cell (rds_row 4 rfl) (by first | exact fl_at0 _ _ (by omega) (by decide) | exact fl_at _ _ _ (by omega) (by decide)) | exact Rds.cell (rds_row 5 rfl) (by first | exact fl_at0 _ _ (by omega) (by decide) | exact fl_at _ _ _ (by omega) (by decide)) | exact Rds.cell (rds_row 6 rfl) (by first | exact fl_at0 _ _ (by omega) (by decide) | exact fl_at _ _ _ (by omega) (by decide)) | exact Rds.cell (rds_row 7 rfl) (by first | exact fl_at0 _ _ (by omega) (by decide) | exact fl_at _ _ _ (by omega) (by decide)) | exact Rds.cell (rds_row 8 rfl) (by first | exact fl_at0 _ _ (by omega) (by decide) | exact fl_at _ _ _ (by omega) (by decide)) | exact Rds.cell (rds_row 9 rfl) (by first | exact fl_at0 _ _ (by omega) (by decide) | exact fl_at _ _ _ (by omega) (by decide)))) ?_; refine ok_p rfl rfl rfl (by exact ps_assign rfl rfl) ?_; refine ok_nil ?_; refine ok_env [(0, _), (3, _), (5, _), (9, _), (10, _), (11, _)] ⟨rfl, rfl, rfl, rfl, rfl, rfl, trivial⟩ ?_)
      | (refine ok_region (i := 5) ?_; refine ok_p rfl rfl rfl (by exact ps_move rfl rfl) ?_; refine ok_p rfl rfl rfl (by exact ps_move rfl rfl) ?_; refine ok_p rfl rfl rfl (by exact ps_len rfl rfl) ?_; refine ok_p rfl rfl rfl (by exact ps_add rfl rfl rfl (by omega)) ?_; refine ok_p rfl rfl rfl (by exact ps_assign rfl rfl) ?_; refine ok_nil ?_; refine ok_env [(0, _), (3, _), (9, _), (10, _), (11, _)] ⟨rfl, rfl, rfl, rfl, rfl, trivial⟩ ?_)
      | (refine ok_region (i := 6) ?_; refine ok_p rfl rfl rfl (by exact ps_move rfl rfl) ?_; refine ok_p rfl rfl rfl (by exact ps_int rfl rfl rfl rfl) ?_; refine ok_nil ?_; refine ok_env [(0, _), (3, _), (9, _), (10, _), (11, _), (20, _)] ⟨rfl, rfl, rfl, rfl, rfl, rfl, trivial⟩ ?_)
      | (refine ok_region (i := 7) ?_; refine ok_p rfl rfl rfl (by fail "no rule makeInterface") ?_; refine ok_p rfl rfl rfl (by fail "no rule panic") ?_; refine ok_nil ?_; refine ok_env [(0, _), (3, _), (9, _), (10, _), (11, _)] ⟨rfl, rfl, rfl, rfl, rfl, trivial⟩ ?_)
      | (refine ok_region (i := 8) ?_; refine ok_p rfl rfl rfl (by exact ps_add rfl rfl rfl (by omega)) ?_; refine ok_p rfl rfl rfl (by exact ps_move rfl rfl) ?_; refine ok_nil ?_; refine ok_env [(0, _), (3, _), (9, _), (10, _), (11, _)] ⟨rfl, rfl, rfl, rfl, rfl, trivial⟩ ?_)
      | (refine ok_region (i := 9) ?_; refine ok_p rfl rfl rfl (by exact ps_move rfl rfl) ?_; refine ok_m rfl rfl rfl (by fail "no maker call") ?_; rintro y24 hy24; refine ok_p rfl rfl rfl (by exact ps_assign rfl rfl) ?_; refine ok_nil ?_; refine ok_env [(0, _), (6, _)] ⟨rfl, rfl, trivial⟩ ?_)
      | (refine ok_region (i := 10) ?_; refine ok_p rfl rfl rfl (by exact ps_move rfl rfl) ?_; refine ok_p rfl rfl rfl (by exact ps_len rfl rfl) ?_; refine ok_p rfl rfl rfl (by exact ps_move rfl rfl) ?_; refine ok_nil ?_; refine ok_env [(6, _), (25, _), (26, _), (27, _)] ⟨rfl, rfl, rfl, rfl, trivial⟩ ?_)
      | (refine ok_region (i := 11) ?_; refine ok_p rfl rfl rfl (by exact ps_int rfl rfl rfl rfl) ?_; refine ok_nil ?_; refine ok_env [(6, _), (25, _), (26, _), (27, _), (28, _)] ⟨rfl, rfl, rfl, rfl, rfl, trivial⟩ ?_)
      | (refine ok_region (i := 12) ?_; refine ok_p rfl rfl rfl (by first | exact ps_indexN rfl rfl rfl (by omega) (by first | exact isw_ga _ | exact isw_some _ | exact isw_row 0 rfl (by omega) | exact isw_row 1 rfl (by omega) | exact isw_row 2 rfl (by omega) | exact isw_row 3 rfl (by omega) | exact isw_row 4 rfl (by omega) | exact isw_row 5 rfl (by omega) | exact isw_row 6 rfl (by omega) | exact isw_row 7 rfl (by omega) | exact isw_row 8 rfl (by omega) | exact isw_of (isS_fl (by assumption) (by omega)) | exact isw_of (by assumption)) | exact ps_index rfl rfl rfl (by omega) (by first | exact isw_ga _ | exact isw_some _ | exact isw_row 0 rfl (by omega) | exact isw_row 1 rfl (by omega) | exact isw_row 2 rfl (by omega) | exact isw_row 3 rfl (by omega) | exact isw_row 4 rfl (by omega) | exact isw_row 5 rfl (by omega) | exact isw_row 6 rfl (by omega) | exact isw_row 7 rfl (by omega) | exact isw_row 8 rfl (by omega) | exact isw_of (isS_fl (by assumption) (by omega)) | exact isw_of (by assumption))) ?_; refine ok_p rfl rfl rfl (by exact ps_load rfl rfl (by first | exact Rds.cell (rds_box 0 rfl) rfl | exact Rds.cell (rds_box 1 rfl) rfl | exact Rds.cell (rds_box 2 rfl) rfl | exact Rds.cell (rds_box 3 rfl) rfl | exact Rds.cell (rds_box 4 rfl) rfl | exact Rds.cell (rds_box 5 rfl) rfl | exact Rds.cell (rds_box 6 rfl) rfl | exact Rds.cell (rds_box 7 rfl) rfl | exact Rds.cell (rds_box 8 rfl) rfl | exact Rds.cell (rds_box 9 rfl) rfl | exact Rds.cell (rds_box 10 rfl) rfl | exact Rds.cell (rds_box 11 rfl) rfl | exact Rds.cell (rds_box 12 rfl) rfl | exact Rds.cell (rds_box 13 rfl) rfl | exact Rds.cell (rds_box 14 rfl) rfl | exact Rds.cell (rds_box 15 rfl) rfl | exact Rds.cell (rds_box 16 rfl) rfl | exact Rds.cell (rds_box 17 rfl) rfl | exact Rds.cell (rds_box 18 rfl) rfl | exact Rds.cell (rds_box 19 rfl) rfl | exact Rds.cell (rds_box 20 rfl) rfl | exact Rds.cell (rds_box 21 rfl) rfl | exact Rds.cell (rds_box 22 rfl) rfl | exact Rds.cell (rds_box 23 rfl) rfl | exact Rds.cell (rds_rf (by assumption) (by first | exact List.mem_cons_self | exact List.mem_cons_of_mem _ List.mem_cons_self | simp)) (by first | exact fl_at0 _ _ (by omega) (by decide) | exact fl_at _ _ _ (by omega) (by decide)) | exact Rds.cell (rds_row 0 rfl) (by first | exact fl_at0 _ _ (by omega) (by decide) | exact fl_at _ _ _ (by omega) (by decide)) | exact Rds.cell (rds_row 1 rfl) (by first | exact fl_at0 _ _ (by omega) (by decide) | exact fl_at _ _ _ (by omega) (by decide)) | exact Rds.cell (rds_row 2 rfl) (by first | exact fl_at0 _ _ (by omega) (by decide) | exact fl_at _ _ _ (by omega) (by decide)) | exact Rds.cell (rds_row 3 rfl) (by first | exact fl_at0 _ _ (by omega) (by decide) | exact fl_at _ _ _ (by omega) (by decide)) | exact Rds.cell (rds_row 4 rfl) (by first | exact fl_at0 _ _ (by omega) (by decide) | exact fl_at _ _ _ (by omega) (by decide)) | exact Rds.cell (rds_row 5 rfl) (by first | exact fl_at0 _ _ (by omega) (by decide) | exact fl_at _ _ _ (by omega) (by decide)) | exact Rds.cell (rds_row 6 rfl) (by first | exact fl_at0 _ _ (by omega) (by decide) | exact fl_at _ _ _ (by omega) (by decide)) | exact Rds.cell (rds_row 7 rfl) (by first | exact fl_at0 _ _ (by omega) (by decide) | exact fl_at _ _ _ (by omega) (by decide)) | exact Rds.cell (rds_row 8 rfl) (by first | exact fl_at0 _ _ (by omega) (by decide) | exact fl_at _ _ _ (by omega) (by decide)) | exact Rds.cell (rds_row 9 rfl) (by first | exact fl_at0 _ _ (by omega) (by decide) | exact fl_at _ _ _ (by omega) (by decide)))) ?_; refine ok_p rfl rfl rfl (by exact ps_assign rfl rfl) ?_; refine ok_nil ?_; refine ok_env [(6, _), (8, _), (25, _), (26, _), (27, _)] ⟨rfl, rfl, rfl, rfl, rfl, trivial⟩ ?_)
      | (refine ok_region (i := 13) ?_; refine ok_p rfl rfl rfl (by exact ps_move rfl rfl) ?_; refine ok_p rfl rfl rfl (by exact ps_move rfl rfl) ?_; refine ok_m rfl rfl rfl (by exact ms_appF (α := ByteArray) (L := ((dats R).take k).flatten) (M := (nth R k).d) 0 rfl rfl rfl rfl (rds_rf (H2.out k (by omega)) (by first | exact List.mem_cons_self | exact List.mem_cons_of_mem _ List.mem_cons_self | simp)) rfl (by have := ho1 (by omega); omega) (by have := ho1 (by omega); omega)) ?_; rintro y33 hy33; refine ok_p rfl rfl rfl (by exact ps_assign rfl rfl) ?_; refine ok_nil ?_; refine ok_env [(6, _), (25, _), (26, _), (27, _)] ⟨rfl, rfl, rfl, rfl, trivial⟩ ?_)
      | (refine ok_region (i := 14) ?_; refine ok_p rfl rfl rfl (by exact ps_add rfl rfl rfl (by omega)) ?_; refine ok_p rfl rfl rfl (by exact ps_move rfl rfl) ?_; refine ok_nil ?_; refine ok_env [(6, _), (25, _), (26, _), (27, _)] ⟨rfl, rfl, rfl, rfl, trivial⟩ ?_)
      | (refine ok_region (i := 15) ?_; refine ok_p rfl rfl rfl (by exact ps_move rfl rfl) ?_; refine ok_p rfl rfl rfl (by exact ps_assign rfl rfl) ?_; refine ok_nil ?_; refine ok_env [(2, _)] ⟨rfl, trivial⟩ ?_))
    · refine fun a w' he hw => ⟨⟨(k + 1, (y33 0).A, (y33 0).c), by simp only; omega⟩, by simp only; omega, he.sub ⟨?_, rfl, rfl, rfl, trivial⟩, ?_⟩
      · simp only [look]; rw [catStr_step R k (by omega), List.length_append]
      · simp only
        rw [catStr_step R k (by omega), List.length_append]
        exact hw
    · obtain rfl : k = R.length := by omega
      refine ok_endL (vs := [_]) rfl ⟨rfl, trivial⟩ (fun w' hw => ⟨mkY B d w', ?_, trivial, hw.below, ?_⟩)
      · rw [← dats_len, List.take_length]; rfl
      · rw [← dats_len, List.take_length] at hw
        exact NewOk.of (G := []) (hw.sel [0] (by decide) rfl (fun _ h => by cases h))
end Go.Proofs.Ytfcnimglcialbaa
/-
  DERIVED: THE SHELF's CONTRACTS AT THIS DUMP, IN PLAIN WORDS (tools/lay-plain.mjs out of 'TryShelf.lean', which tools/lay-shelf.mjs wrote): THE SAME DECLARATIONS UNDER THE SAME NAMES: 'import', 'namespace', 'open', 'def', 'theorem' AND NOTHING ELSE: no command of the shelf's: FOR A HAND-IN. Each laying: the table of numbers ('.._ren') and one theorem, a field a fact of the dump's own or the kernel's comparison; each contract: ONE APPLICATION.
-/
namespace Go.Proofs.Ytfcnimglcialbaa
open Go.Shelf
def so_lays190_ren : Go.Shelf.Ren := ⟨fun | 190 => 198 | 125 => 242 | 258 => 241 | 128 => 271 | 129 => 272 | 302 => 262 | 303 => 263 | 304 => 264 | 305 => 265 | 306 => 266 | 307 => 267 | 308 => 268 | 309 => 269 | 310 => 270 | 333 => 284 | 329 => 285 | 330 => 286 | 334 => 287 | 335 => 288 | 336 => 289 | 344 => 293 | n => n, fun | 31 => 62 | 9 => 9 | 3 => 3 | 46 => 240 | 0 => 0 | 51 => 244 | 53 => 291 | 4 => 4 | 183 => 284 | 182 => 283 | 131 => 221 | 5 => 5 | 218 => 299 | 222 => 303 | 228 => 307 | 229 => 141 | n => n, fun | n => n⟩
theorem so_lays190 : Go.Proofs.Lays.n190 Try.prog so_lays190_ren := {
  mixed := by kernel_rfl
  f125 := Try.func242.trans (congrArg some (by kernel_rfl))
  f128 := Try.func271.trans (congrArg some (by kernel_rfl))
  f129 := Try.func272.trans (congrArg some (by kernel_rfl))
  f190 := Try.func198.trans (congrArg some (by kernel_rfl))
  f258 := Try.func241.trans (congrArg some (by kernel_rfl))
  f302 := Try.func262.trans (congrArg some (by kernel_rfl))
  f303 := Try.func263.trans (congrArg some (by kernel_rfl))
  f304 := Try.func264.trans (congrArg some (by kernel_rfl))
  f305 := Try.func265.trans (congrArg some (by kernel_rfl))
  f306 := Try.func266.trans (congrArg some (by kernel_rfl))
  f307 := Try.func267.trans (congrArg some (by kernel_rfl))
  f308 := Try.func268.trans (congrArg some (by kernel_rfl))
  f309 := Try.func269.trans (congrArg some (by kernel_rfl))
  f310 := Try.func270.trans (congrArg some (by kernel_rfl))
  f329 := Try.func285.trans (congrArg some (by kernel_rfl))
  f330 := Try.func286.trans (congrArg some (by kernel_rfl))
  f333 := Try.func284.trans (congrArg some (by kernel_rfl))
  f334 := Try.func287.trans (congrArg some (by kernel_rfl))
  f335 := Try.func288.trans (congrArg some (by kernel_rfl))
  f336 := Try.func289.trans (congrArg some (by kernel_rfl))
  f344 := Try.func293.trans (congrArg some (by kernel_rfl))
  t0 := Try.underlying0
  a0 := Try.isAgg0
  z0 := Try.sizeOf0
  v0 := Try.zeroValue0
  t3 := Try.underlying3
  a3 := Try.isAgg3
  z3 := Try.sizeOf3
  v3 := Try.zeroValue3
  t4 := Try.underlying4
  a4 := Try.isAgg4
  z4 := Try.sizeOf4
  v4 := Try.zeroValue4
  t5 := Try.underlying5
  a5 := Try.isAgg5
  z5 := Try.sizeOf5
  v5 := Try.zeroValue5
  t9 := Try.underlying9
  a9 := Try.isAgg9
  z9 := Try.sizeOf9
  v9 := Try.zeroValue9
  t31 := Try.underlying62
  a31 := Try.isAgg62
  z31 := Try.sizeOf62
  v31 := Try.zeroValue62
  t46 := Try.underlying240
  a46 := Try.isAgg240
  z46 := Try.sizeOf240
  v46 := Try.zeroValue240
  t51 := Try.underlying244
  a51 := Try.isAgg244
  z51 := Try.sizeOf244
  v51 := Try.zeroValue244
  t53 := Try.underlying291
  a53 := Try.isAgg291
  z53 := Try.sizeOf291
  v53 := Try.zeroValue291
  t131 := Try.underlying221
  a131 := Try.isAgg221
  z131 := Try.sizeOf221
  v131 := Try.zeroValue221
  t182 := Try.underlying283
  a182 := Try.isAgg283
  z182 := Try.sizeOf283
  v182 := Try.zeroValue283
  t183 := Try.underlying284
  a183 := Try.isAgg284
  z183 := Try.sizeOf284
  v183 := Try.zeroValue284
  t218 := Try.underlying299
  a218 := Try.isAgg299
  z218 := Try.sizeOf299
  v218 := Try.zeroValue299
  t222 := Try.underlying303
  a222 := Try.isAgg303
  z222 := Try.sizeOf303
  v222 := Try.zeroValue303
  t228 := Try.underlying307
  a228 := Try.isAgg307
  z228 := Try.sizeOf307
  v228 := Try.zeroValue307
  t229 := Try.underlying141
  a229 := Try.isAgg141
  z229 := Try.sizeOf141
  v229 := Try.zeroValue141 }
open Go.Sort Go.RowKit in
theorem so_slices_Sort_string (blk off cap : Nat) (ss : List (List UInt8)) (w : World) (hH : Holds encStr w blk off ss.toArray) (hblk : blk < w.heap.size) (hsz : ss.length < 4611686018427387904) :
    Calls Try.prog 198 #[.slice (some ⟨blk, off, none⟩) ss.length cap] w fun e w' =>
      e = .returned (.tuple #[]) ∧ ∃ n os, w' = grow (putRow encStr (Sort.ahead w n) blk off (ss.mergeSort fun x y => decide (x ≤ y)).toArray) os := Any.slices_Sort_string so_lays190 blk off cap ss w hH hblk hsz
def so_lays194_ren : Go.Shelf.Ren := ⟨fun | 194 => 200 | n => n, fun | 31 => 62 | 9 => 9 | 3 => 3 | 4 => 4 | 0 => 0 | n => n, fun | n => n⟩
theorem so_lays194 : Go.Proofs.Lays.n194 Try.prog so_lays194_ren := {
  mixed := by kernel_rfl
  f194 := Try.func200.trans (congrArg some (by kernel_rfl))
  t0 := Try.underlying0
  a0 := Try.isAgg0
  z0 := Try.sizeOf0
  v0 := Try.zeroValue0
  t3 := Try.underlying3
  a3 := Try.isAgg3
  z3 := Try.sizeOf3
  v3 := Try.zeroValue3
  t4 := Try.underlying4
  a4 := Try.isAgg4
  z4 := Try.sizeOf4
  v4 := Try.zeroValue4
  t9 := Try.underlying9
  a9 := Try.isAgg9
  z9 := Try.sizeOf9
  v9 := Try.zeroValue9
  t31 := Try.underlying62
  a31 := Try.isAgg62
  z31 := Try.sizeOf62
  v31 := Try.zeroValue62 }
open Go.RowKit Go.Lib Go.Sort in
/-- slices.Compact at []string, over an array: the library's two loops are walked. (LAID: no walk: one application.) -/
theorem so_slices_Compact_string_arr (blk off cap : Nat) (d : Array (List UInt8)) (w : World) (hH : Holds encStr w blk off d) (hsz : d.size ≤ 9223372036854775807) (hcap : d.size ≤ cap) :
    Calls Try.prog 200 #[.slice (some ⟨blk, off, none⟩) d.size cap] w fun e w' => e = .returned (.slice (some ⟨blk, off, none⟩) (compactUpTo d d.size).length cap) ∧ ∃ q, w' = putRow encStr (Sort.ahead w q) blk off (compactUpTo d d.size ++ List.replicate (d.size - (compactUpTo d d.size).length) []).toArray := Any.slices_Compact_string_arr so_lays194 blk off cap d w hH hsz hcap
open Go.RowKit Go.Lib Go.Sort in
/-- slices.Compact at []string: "Compact replaces consecutive runs of equal elements with a single copy. This is like the uniq command found on Unix. Compact modifies the contents of the slice s and returns the modified slice, which may have a smaller length. Compact zeroes the elements between the new length and the original length. The result preserves the nilness of s.": IT RETURNS THE SLICE CUT TO 'Lib.compact zs'; ITS CELLS HOLD 'Lib.compact zs', THEN ZERO VALUES up to the old length; all else is as it was, but for the count of draws. IN THE WORDS OF slices.Sort's CONTRACT ('Holds', 'putRow'): so the everyday 'slices.Sort(xs); xs = slices.Compact(xs)' goes from the one contract to the other. It asks 'zs.length ≤ cap' (every slice's: the reslicing 's[:k]' looks at it). Length 0, nil: '.._empty'. (LAID: no walk: one application.) -/
theorem so_slices_Compact_string (blk off cap : Nat) (zs : List (List UInt8)) (w : World) (hH : Holds encStr w blk off zs.toArray) (hsz : zs.length ≤ 9223372036854775807) (hcap : zs.length ≤ cap) :
    Calls Try.prog 200 #[.slice (some ⟨blk, off, none⟩) zs.length cap] w fun e w' => e = .returned (.slice (some ⟨blk, off, none⟩) (Lib.compact zs).length cap) ∧ ∃ q, w' = putRow encStr (Sort.ahead w q) blk off (Lib.compact zs ++ List.replicate (zs.length - (Lib.compact zs).length) []).toArray := Any.slices_Compact_string so_lays194 blk off cap zs w hH hsz hcap
open Go.RowKit Go.Lib Go.Sort in
/-- The same at a slice of length 0, a nil one too: it comes back as it is. (LAID: no walk: one application.) -/
theorem so_slices_Compact_string_empty (a : Option Addr) (cap : Nat) (w : World) :
    Calls Try.prog 200 #[.slice a 0 cap] w fun e w' => e = .returned (.slice a 0 cap) ∧ w' = w := Any.slices_Compact_string_empty so_lays194 a cap w
def so_laysNm237_ren : Go.Shelf.Ren := ⟨fun | 37 => 290 | n => n, fun | 3 => 3 | 4 => 4 | n => n, fun | n => n⟩
theorem so_laysNm237 : Go.Proofs.Lays2.n37 Try.prog so_laysNm237_ren := {
  mixed := by kernel_rfl
  f37 := Try.func290.trans (congrArg some (by kernel_rfl))
  t3 := Try.underlying3
  a3 := Try.isAgg3
  z3 := Try.sizeOf3
  v3 := Try.zeroValue3
  t4 := Try.underlying4
  a4 := Try.isAgg4
  z4 := Try.sizeOf4
  v4 := Try.zeroValue4 }
open Go.RowKit Go.Lib in
/-- cmp.isNaN[int]: 'x != x': false. (LAID: no walk: one application.) -/
theorem so_cmp_isNaN_int2 (x : Int) (w : World) :
    Calls Try.prog 290 #[.int .i64 x] w fun e w' => e = .returned (.bool false) ∧ w' = w := Any.cmp_isNaN_int2 so_laysNm237 x w
open Go.RowKit Go.Lib Go.Sort in
/-- slices.Compact at []string, of an argument. (LAID: no walk: one application.) -/
theorem so_slices_Compact_string_cells (b off n c : Nat) (Sx : Nat → ByteArray) (w : World) (hbig : n ≤ 9223372036854775807) (hcap : n ≤ c) (hc : ∀ i, i < n → w.cell? ⟨b, off + i, none⟩ = some (.string (Sx i))) (hf : ∀ j, j < n → w.frozen? ⟨b, off + j, none⟩ = false) :
    Calls Try.prog 200 #[.slice (some ⟨b, off, none⟩) n c] w fun e w' => e = .returned (.slice (some ⟨b, off, none⟩) (Lib.compact (Lib.strsOf Sx n)).length c) ∧ ∃ q, w' = (w.drewN q).setCells b off ((Lib.compact (Lib.strsOf Sx n) ++ List.replicate (n - (Lib.compact (Lib.strsOf Sx n)).length) []).map encStr) := Any.slices_Compact_string_cells so_lays194 b off n c Sx w hbig hcap hc hf
open Go.RowKit Go.Sort in
/-- .. and plain. (LAID: no walk: one application.) -/
theorem so_slices_Sort_string_none (p : Option Addr) (cap : Nat) (w : World) :
    Calls Try.prog 198 #[.slice p 0 cap] w fun e w' => e = .returned (.tuple #[]) ∧ w' = w := Any.slices_Sort_string_none so_lays190 p cap w
end Go.Proofs.Ytfcnimglcialbaa
/- Texts that rise, with one more; two such rows with the same texts are one. In plain Lean. -/
namespace Go.Proofs.Ytfcnimglcialbaa
set_option linter.unusedVariables false
def sSrt (L : List ByteArray) : Prop := L.Pairwise (fun x y => sLt x y = true)
theorem sSrt_ext : ∀ (L M : List ByteArray), sSrt L → sSrt M → (∀ x, x ∈ L ↔ x ∈ M) → L = M
  | [], [], _, _, _ => rfl
  | [], b :: M, _, _, h => by have := (h b).2 (List.mem_cons_self ..); simp at this
  | a :: L, [], _, _, h => by have := (h a).1 (List.mem_cons_self ..); simp at this
  | a :: L, b :: M, h1, h2, h => by
    have p1 := List.pairwise_cons.1 h1
    have p2 := List.pairwise_cons.1 h2
    have e : a = b := by
      rcases List.mem_cons.1 ((h a).1 (List.mem_cons_self ..)) with e | e
      · exact e
      · rcases List.mem_cons.1 ((h b).2 (List.mem_cons_self ..)) with e2 | e2
        · exact e2.symm
        · have q := sLt_asymm (p2.1 a e); rw [p1.1 b e2] at q; cases q
    subst e
    congr 1
    refine sSrt_ext L M p1.2 p2.2 fun x => ⟨fun hx => ?_, fun hx => ?_⟩
    · rcases List.mem_cons.1 ((h x).1 (List.mem_cons_of_mem _ hx)) with e | e
      · subst e; have := p1.1 x hx; rw [sLt_irrefl] at this; cases this
      · exact e
    · rcases List.mem_cons.1 ((h x).2 (List.mem_cons_of_mem _ hx)) with e | e
      · subst e; have := p2.1 x hx; rw [sLt_irrefl] at this; cases this
      · exact e
/-- A text in a row; a text put into a row. -/
def hasS (L : List ByteArray) (x : ByteArray) : Bool := L.any (fun y => sEq y x)
def hdS (L : List ByteArray) (x : ByteArray) : List ByteArray := L.takeWhile (fun y => !sLt x y)
def tlS (L : List ByteArray) (x : ByteArray) : List ByteArray := L.dropWhile (fun y => !sLt x y)
def insS (L : List ByteArray) (x : ByteArray) : List ByteArray := if hasS L x = true then L else (hdS L x ++ [x]) ++ tlS L x
theorem hdS_tlS (L : List ByteArray) (x : ByteArray) : hdS L x ++ tlS L x = L := List.takeWhile_append_dropWhile
theorem sEq_iff {a b : ByteArray} : sEq a b = true ↔ a = b := ⟨sEq_eq, fun h => by subst h; unfold sEq; simp⟩
theorem hasS_iff (L : List ByteArray) (x : ByteArray) : hasS L x = true ↔ x ∈ L := by
  unfold hasS
  rw [List.any_eq_true]
  constructor
  · rintro ⟨y, hy, he⟩; rw [sEq_iff] at he; subst he; exact hy
  · intro h; exact ⟨x, h, sEq_iff.2 rfl⟩
theorem insS_mem (L : List ByteArray) (x y : ByteArray) : y ∈ insS L x ↔ y = x ∨ y ∈ L := by
  unfold insS
  split
  · rename_i h
    rw [hasS_iff] at h
    exact ⟨.inr, fun h2 => by rcases h2 with rfl | h2 <;> assumption⟩
  · conv => rhs; rw [← hdS_tlS L x]
    simp only [List.mem_append, List.mem_singleton]
    constructor
    · rintro ((h | h) | h)
      · exact .inr (.inl h)
      · exact .inl h
      · exact .inr (.inr h)
    · rintro (h | h | h)
      · exact .inl (.inr h)
      · exact .inl (.inl h)
      · exact .inr h
theorem hdS_le (L : List ByteArray) (x : ByteArray) : ∀ y ∈ hdS L x, sLt x y = false := by
  unfold hdS
  induction L with
  | nil => intro y h; simp at h
  | cons a L ih =>
    intro y h
    rw [List.takeWhile_cons] at h
    split at h
    · rename_i hn
      rcases List.mem_cons.1 h with rfl | h
      · simpa using hn
      · exact ih y h
    · simp at h
theorem tlS_gt {L : List ByteArray} (hs : sSrt L) (x : ByteArray) : ∀ y ∈ tlS L x, sLt x y = true := by
  unfold tlS
  induction L with
  | nil => intro y h; simp at h
  | cons a L ih =>
    intro y h
    rw [List.dropWhile_cons] at h
    split at h
    · exact ih (List.pairwise_cons.1 hs).2 y h
    · rename_i hn
      have hn : sLt x a = true := by simpa using hn
      rcases List.mem_cons.1 h with rfl | h
      · exact hn
      · exact sLt_trans hn ((List.pairwise_cons.1 hs).1 y h)
theorem insS_srt {L : List ByteArray} (hs : sSrt L) (x : ByteArray) : sSrt (insS L x) := by
  unfold insS
  split
  · exact hs
  · rename_i h
    have hx : x ∉ L := fun e => h ((hasS_iff L x).2 e)
    unfold sSrt
    have h1 : sSrt (hdS L x) := List.Pairwise.sublist (List.takeWhile_sublist _) hs
    have h2 : sSrt (tlS L x) := List.Pairwise.sublist (List.dropWhile_sublist _) hs
    have lt : ∀ y ∈ hdS L x, sLt y x = true := fun y hy => by
      rcases sLt_tri y x with e | e | e
      · exact e
      · exact absurd (List.takeWhile_subset _ hy) (by rw [tl_inj e]; exact hx)
      · rw [hdS_le L x y hy] at e; cases e
    rw [List.append_assoc, List.pairwise_append]
    refine ⟨h1, ?_, ?_⟩
    · rw [List.singleton_append, List.pairwise_cons]
      exact ⟨fun y hy => tlS_gt hs x y hy, h2⟩
    · intro a ha b hb
      have := lt a ha
      rcases List.mem_append.1 hb with hb | hb
      · rw [List.mem_singleton] at hb; subst hb; exact this
      · exact sLt_trans this (tlS_gt hs x b hb)
theorem insS_len (L : List ByteArray) (x : ByteArray) : (insS L x).length ≤ L.length + 1 := by
  unfold insS
  split
  · omega
  · have := congrArg List.length (hdS_tlS L x)
    simp only [List.length_append, List.length_cons, List.length_nil] at this ⊢
    omega
end Go.Proofs.Ytfcnimglcialbaa
/- Joined changes, in plain Lean. -/
namespace Go.Proofs.Ytfcnimglcialbaa
set_option linter.unusedVariables false
/-- Keys of a map after drops and puts. -/
def hasK (R : List KV) (k : ByteArray) : Prop := ∃ x ∈ R, x.key = k
theorem fnd_has {R : List KV} (hs : srtK R) (k : ByteArray) : fndK R k = true ↔ hasK R k := by
  rw [fnd_iff]
  constructor
  · rintro ⟨x, D, hd, he⟩
    exact ⟨x, by rw [← hd_tl R k, hd]; simp, sEq_eq he⟩
  · rintro ⟨x, hx, rfl⟩
    rw [← hd_tl R x.key] at hx
    rcases List.mem_append.1 hx with hx | hx
    · have := hd_lt R x.key x hx; rw [sLt_irrefl] at this; cases this
    · cases hd : tlK R x.key with
      | nil => rw [hd] at hx; simp at hx
      | cons y D =>
        refine ⟨y, D, rfl, ?_⟩
        rw [hd] at hx
        rcases List.mem_cons.1 hx with rfl | hx
        · exact sEq_iff.2 rfl
        · have := tl_gt hs hd x hx; rw [sLt_irrefl] at this; cases this
theorem has_drp (R : List KV) (d k : ByteArray) : hasK (drpF R d) k ↔ hasK R k ∧ k ≠ d := by
  unfold hasK drpF
  constructor
  · rintro ⟨x, hx, rfl⟩
    rw [List.mem_filter] at hx
    refine ⟨⟨x, hx.1, rfl⟩, fun e => ?_⟩
    have := hx.2
    unfold neK at this
    rw [sEq_iff.2 e] at this; cases this
  · rintro ⟨⟨x, hx, rfl⟩, hn⟩
    refine ⟨x, List.mem_filter.2 ⟨hx, ?_⟩, rfl⟩
    unfold neK
    cases h : sEq x.key d
    · rfl
    · exact absurd (sEq_eq h) hn
theorem has_put (R : List KV) (d v k : ByteArray) : hasK (putF R d v) k ↔ hasK R k ∨ k = d := by
  unfold hasK putF
  constructor
  · rintro ⟨x, hx, rfl⟩
    simp only [List.mem_append, List.mem_singleton, List.mem_filter] at hx
    rcases hx with (hx | rfl) | hx
    · exact .inl ⟨x, by rw [← hd_tl R d]; exact List.mem_append_left _ hx, rfl⟩
    · exact .inr rfl
    · exact .inl ⟨x, by rw [← hd_tl R d]; exact List.mem_append_right _ hx.1, rfl⟩
  · rintro (⟨x, hx, rfl⟩ | rfl)
    · by_cases hn : x.key = d
      · exact ⟨⟨d, v⟩, by simp, hn.symm⟩
      · rw [← hd_tl R d] at hx
        refine ⟨x, ?_, rfl⟩
        simp only [List.mem_append, List.mem_singleton, List.mem_filter]
        rcases List.mem_append.1 hx with hx | hx
        · exact .inl (.inl hx)
        · refine .inr ⟨hx, ?_⟩
          unfold neK
          cases h : sEq x.key d
          · rfl
          · exact absurd (sEq_eq h) hn
    · exact ⟨⟨k, v⟩, by simp, rfl⟩
theorem has_drops : ∀ (D : List ByteArray) (R : List KV) (k : ByteArray), hasK (dropsF D R) k ↔ hasK R k ∧ k ∉ D
  | [], R, k => by simp [dropsF]
  | d :: D, R, k => by
    show hasK (dropsF D (drpF R d)) k ↔ _
    rw [has_drops D, has_drp, List.mem_cons]
    constructor
    · rintro ⟨⟨h1, h2⟩, h3⟩; exact ⟨h1, fun h => h.elim h2 h3⟩
    · rintro ⟨h1, h2⟩; exact ⟨⟨h1, fun h => h2 (.inl h)⟩, fun h => h2 (.inr h)⟩
theorem has_puts : ∀ (U R : List KV) (k : ByteArray), hasK (putsF U R) k ↔ hasK R k ∨ hasK U k
  | [], R, k => by simp [putsF, hasK]
  | d :: U, R, k => by
    show hasK (putsF U (putF R d.key d.val)) k ↔ _
    rw [has_puts U, has_put]
    have : hasK (d :: U) k ↔ k = d.key ∨ hasK U k := by
      unfold hasK
      simp only [List.mem_cons, exists_eq_or_imp]
      constructor
      · rintro (h | h); exact .inl h.symm; exact .inr h
      · rintro (h | h); exact .inl h.symm; exact .inr h
    rw [this]
    constructor
    · rintro ((h | h) | h); exact .inl h; exact .inr (.inl h); exact .inr (.inr h)
    · rintro (h | h | h); exact .inl (.inl h); exact .inl (.inr h); exact .inr h
/-- What a good change says of its texts. -/
theorem delta_srt {U : List KV} {D : List ByteArray} (h : deltaOk U D = true) : srtK U ∧ sSrt D ∧ ∀ x ∈ D, ¬ hasK U x := by
  have hm := deltaOk_map h
  have hsK := srtK_iff.1 (sortedK_of hm)
  unfold deltaOk at h
  rw [Bool.and_eq_true, List.all_eq_true] at h
  have hD : ∀ i, i < D.length → okD U D i = true := fun i hi => h.2 i (by simpa using hi)
  have hadj : ∀ i, 0 < i → i < D.length → sLt (nth D (i - 1)) (nth D i) = true := fun i h0 hi => by
    have := hD i hi
    unfold okD at this
    simp only [Bool.not_eq_true', Bool.or_eq_false_iff, Bool.and_eq_false_iff, decide_eq_false_iff_not, Bool.not_eq_false'] at this
    rcases this.1.2 with h | h
    · omega
    · exact h
  have hlt : ∀ (j i : Nat), i < j → j < D.length → sLt (nth D i) (nth D j) = true := by
    intro j
    induction j with
    | zero => intro i h1; omega
    | succ j ih =>
      intro i h1 h2
      have h3 := hadj (j + 1) (by omega) h2
      rw [Nat.add_sub_cancel] at h3
      rcases Nat.lt_succ_iff_lt_or_eq.1 h1 with h4 | rfl
      · exact sLt_trans (ih i h4 (by omega)) h3
      · exact h3
  have en : ∀ i (hi : i < D.length), nth D i = D[i] := fun i hi => by unfold nth; rw [List.getD_eq_getElem?_getD, List.getElem?_eq_getElem hi]; rfl
  refine ⟨hsK, ?_, ?_⟩
  · unfold sSrt
    rw [List.pairwise_iff_getElem]
    intro i j hi hj hij
    have := hlt j i hij hj
    rw [en i hi, en j hj] at this
    exact this
  · intro x hx
    obtain ⟨i, hi, rfl⟩ := List.getElem_of_mem hx
    have := hD i hi
    unfold okD at this
    simp only [Bool.not_eq_true', Bool.or_eq_false_iff] at this
    rw [← fnd_has hsK, ← en i hi, this.2]
    simp
/-- Joined: what is dropped, as the reference has it. -/
def delF (bU : List KV) (aD bD : List ByteArray) : List ByteArray := aD.foldl (fun L x => if fndK bU x = true then L else insS L x) bD
theorem delF_step {bU : List KV} {aD bD : List ByteArray} {k : Nat} (h : k < aD.length) : delF bU (aD.take (k + 1)) bD = if fndK bU (nth aD k) = true then delF bU (aD.take k) bD else insS (delF bU (aD.take k) bD) (nth aD k) := by
  unfold delF; rw [takeG h, foldl_snoc]
theorem delF_srt (bU : List KV) : ∀ (aD bD : List ByteArray), sSrt bD → sSrt (delF bU aD bD)
  | [], bD, h => h
  | d :: aD, bD, h => by
    show sSrt (delF bU aD (if fndK bU d = true then bD else insS bD d))
    refine delF_srt bU aD _ ?_
    split
    · exact h
    · exact insS_srt h d
theorem delF_mem {bU : List KV} (hs : srtK bU) : ∀ (aD bD : List ByteArray) (x : ByteArray), x ∈ delF bU aD bD ↔ x ∈ bD ∨ (x ∈ aD ∧ ¬ hasK bU x)
  | [], bD, x => by simp [delF]
  | d :: aD, bD, x => by
    show x ∈ delF bU aD (if fndK bU d = true then bD else insS bD d) ↔ _
    rw [delF_mem hs aD]
    by_cases hf : fndK bU d = true
    · rw [if_pos hf]
      have hh := (fnd_has hs d).1 hf
      rw [List.mem_cons]
      constructor
      · rintro (h | ⟨h1, h2⟩)
        · exact .inl h
        · exact .inr ⟨.inr h1, h2⟩
      · rintro (h | ⟨h1 | h1, h2⟩)
        · exact .inl h
        · subst h1; exact absurd hh h2
        · exact .inr ⟨h1, h2⟩
    · rw [if_neg hf, insS_mem, List.mem_cons]
      have hh : ¬ hasK bU d := fun h => hf ((fnd_has hs d).2 h)
      constructor
      · rintro ((h | h) | ⟨h1, h2⟩)
        · subst h; exact .inr ⟨.inl rfl, hh⟩
        · exact .inl h
        · exact .inr ⟨.inr h1, h2⟩
      · rintro (h | ⟨h1 | h1, h2⟩)
        · exact .inl (.inr h)
        · exact .inl (.inl h1)
        · exact .inr ⟨h1, h2⟩
theorem delF_len (bU : List KV) : ∀ (aD bD : List ByteArray), (delF bU aD bD).length ≤ bD.length + aD.length
  | [], bD => by simp [delF]
  | d :: aD, bD => by
    show (delF bU aD (if fndK bU d = true then bD else insS bD d)).length ≤ _
    have h2 := insS_len bD d
    rw [List.length_cons]
    by_cases hh : fndK bU d = true
    · rw [if_pos hh]; have := delF_len bU aD bD; omega
    · rw [if_neg hh]; have := delF_len bU aD (insS bD d); omega
def joinU (a b : DDelta) : List KV := putsF b.U (dropsF b.D a.U)
def fJoinDelta (a b : DDelta) : DDelta := if deltaOk a.U a.D = true ∧ deltaOk b.U b.D = true then ⟨joinU a b, delF b.U a.D b.D⟩ else ⟨[], []⟩
/-- Joined: what is dropped, as the program has it: all drops that are no keys, in order, once. -/
def joinE (a b : DDelta) : List ByteArray := (a.D ++ b.D).filter (fun x => !fndK (joinU a b) x)
theorem joinE_mem {a b : DDelta} (ha : deltaOk a.U a.D = true) (hb : deltaOk b.U b.D = true) (x : ByteArray) : x ∈ joinE a b ↔ x ∈ delF b.U a.D b.D := by
  obtain ⟨a1, a2, a3⟩ := delta_srt ha
  obtain ⟨b1, b2, b3⟩ := delta_srt hb
  have hs : srtK (joinU a b) := puts_srt _ (drops_srt _ a1)
  have hf : (!fndK (joinU a b) x) = true ↔ ¬ (hasK a.U x ∧ x ∉ b.D ∨ hasK b.U x) := by
    rw [Bool.not_eq_true', ← Bool.not_eq_true, fnd_has hs]
    unfold joinU
    rw [has_puts, has_drops]
  unfold joinE
  rw [List.mem_filter, hf, delF_mem b1, List.mem_append]
  constructor
  · rintro ⟨h1 | h1, h2⟩
    · exact .inr ⟨h1, fun h => h2 (.inr h)⟩
    · exact .inl h1
  · rintro (h | ⟨h1, h2⟩)
    · exact ⟨.inr h, fun h3 => h3.elim (fun h4 => h4.2 h) (b3 x h)⟩
    · exact ⟨.inl h1, fun h3 => h3.elim (fun h4 => a3 x h1 h4.1) h2⟩
/-- A row that rises, not strictly; each text of it once. -/
def leS (L : List ByteArray) : Prop := L.Pairwise (fun x y => sLt y x = false)
def onceS : List ByteArray → List ByteArray
  | [] => []
  | [x] => [x]
  | x :: y :: L => if sEq x y = true then onceS (y :: L) else x :: onceS (y :: L)
theorem onceS_mem : ∀ (L : List ByteArray) (x : ByteArray), x ∈ onceS L ↔ x ∈ L
  | [], x => by simp [onceS]
  | [a], x => by simp [onceS]
  | a :: b :: L, x => by
    rw [onceS]
    split
    · rename_i h
      rw [onceS_mem (b :: L), List.mem_cons, List.mem_cons, List.mem_cons, sEq_eq h]
      simp
    · rw [List.mem_cons, onceS_mem (b :: L), List.mem_cons (a := x) (b := a)]
theorem onceS_srt : ∀ (L : List ByteArray), leS L → sSrt (onceS L)
  | [], _ => List.Pairwise.nil
  | [a], _ => by simp [onceS, sSrt]
  | a :: b :: L, h => by
    have h1 := List.pairwise_cons.1 h
    rw [onceS]
    split
    · exact onceS_srt (b :: L) h1.2
    · rename_i hn
      refine List.pairwise_cons.2 ⟨fun x hx => ?_, onceS_srt (b :: L) h1.2⟩
      rw [onceS_mem] at hx
      have hab : sLt a b = true := by
        have := h1.1 b (List.mem_cons_self ..)
        refine lt_of_not this ?_
        cases he : sEq b a
        · rfl
        · exact absurd (sEq_iff.2 (sEq_eq he).symm) hn
      rcases List.mem_cons.1 hx with rfl | hx
      · exact hab
      · have h2 := (List.pairwise_cons.1 h1.2).1 x hx
        cases he : sEq b x
        · refine sLt_trans hab (lt_of_not h2 ?_)
          cases he2 : sEq x b
          · rfl
          · rw [sEq_iff.2 (sEq_eq he2).symm] at he; cases he
        · rw [← sEq_eq he]; exact hab
theorem join_once {a b : DDelta} (ha : deltaOk a.U a.D = true) (hb : deltaOk b.U b.D = true) {S : List ByteArray} (hl : leS S) (hm : ∀ x, x ∈ S ↔ x ∈ joinE a b) : onceS S = delF b.U a.D b.D :=
  sSrt_ext _ _ (onceS_srt S hl) (delF_srt _ _ _ (delta_srt hb).2.1) fun x => by rw [onceS_mem, hm, joinE_mem ha hb]
theorem JoinDelta_lim (a b : DDelta) (ha : Delta_sm a) (hb : Delta_sm b) : Delta_lim (fJoinDelta a b) := by
  have h1 := ha.1.1
  have h2 := ha.2.1
  have h3 := hb.1.1
  have h4 := hb.2.1
  unfold fJoinDelta Delta_lim
  split
  · have q1 := puts_len b.U (dropsF b.D a.U)
    have q2 := drops_len b.D a.U
    have q3 := delF_len b.U a.D b.D
    simp only [joinU]
    omega
  · simp
end Go.Proofs.Ytfcnimglcialbaa
/- slices.Sort and slices.Compact of strings on an own row, by the kit's contracts. -/
namespace Go.Proofs.Ytfcnimglcialbaa
open Go.RowKit Go.Sort
set_option maxHeartbeats 4000000
set_option maxRecDepth 20000
set_option linter.unusedVariables false
set_option linter.unusedSimpArgs false
attribute [local irreducible] Calls
def toB (l : List UInt8) : ByteArray := ⟨l.toArray⟩
def ofB (s : ByteArray) : List UInt8 := s.data.toList
theorem toB_of (s : ByteArray) : toB (ofB s) = s := rfl
theorem fl_str (L : List ByteArray) : fl L = L.map Value.string := by
  induction L with
  | nil => rfl
  | cons a L ih => rw [fl_cons, ih]; rfl
/-- A block of strings is put anew. -/
theorem put_heap {w : World} {g c e : Nat} {cur : Array Value} (d : Array (List UInt8)) (os : Array Obj) (k : Nat) (hg : w.heap[g]? = some (.cells cur e (0, 0))) :
    (grow (putRow encStr (Go.Sort.ahead w k) g 0 d) os).heap[g]? = some (.cells (putCells encStr 0 d cur) e (0, 0)) ∧ w.grownBy (grow (putRow encStr (Go.Sort.ahead w k) g 0 d) os) (some g) := by
  have hlt : g < w.heap.size := (Array.getElem?_eq_some_iff.1 hg).1
  refine ⟨?_, rfl, rfl, rfl, ?_, ?_⟩
  · show ((w.heap.modify g (onCells (putCells encStr 0 d))) ++ os)[g]? = _
    rw [Array.getElem?_append_left (by simpa using hlt), Array.getElem?_modify, if_pos rfl, hg]
    rfl
  · show w.heap.size ≤ ((w.heap.modify g (onCells (putCells encStr 0 d))) ++ os).size
    simp
  · intro j hj hne
    show ((w.heap.modify g (onCells (putCells encStr 0 d))) ++ os)[j]? = _
    rw [Array.getElem?_append_left (by simpa using hj), Array.getElem?_modify, if_neg (fun e => hne (by rw [e]))]
theorem putCells_take (d : Array (List UInt8)) (cur : Array Value) (h : d.size ≤ cur.size) : (putCells encStr 0 d cur).toList.take d.size = fl (d.toList.map toB) := by
  rw [fl_str]
  apply List.ext_getElem?
  intro i
  rw [List.getElem?_take]
  by_cases hi : i < d.size
  · have h2 : i < cur.size := by omega
    simp [putCells, hi, h2, toB, encStr]
  · simp [hi]
theorem Own.put {base : Nat} {w : World} {g n c e : Nat} {us : List Value} (h : Own w base e 1 (some ⟨g, 0, none⟩) n c us) (d : Array (List UInt8)) (hd : d.size = n) (os : Array Obj) (k : Nat) :
    Own (grow (putRow encStr (Go.Sort.ahead w k) g 0 d) os) base e 1 (some ⟨g, 0, none⟩) n c (fl (d.toList.map toB)) ∧ w.grownBy (grow (putRow encStr (Go.Sort.ahead w k) g 0 d) os) (some g) := by
  obtain ⟨hl, ⟨hA, h0⟩ | ⟨g', cap, cur, hA, hb, hh, hnc, hcm, hcs, htk⟩⟩ := h
  · cases hA
  · cases hA
    obtain ⟨p1, p2⟩ := put_heap (c := c) d os k hh
    refine ⟨⟨by rw [fl_len]; simp only [List.length_map, Array.length_toList, hd]; rfl, .inr ⟨g, c, _, rfl, hb, p1, hnc, hcm, by simpa [putCells] using hcs, ?_⟩⟩, p2⟩
    rw [Nat.mul_one, ← hd]
    exact putCells_take d cur (by omega)
theorem holds_own {base : Nat} {w : World} {g c e : Nat} {L : List ByteArray} (h : Own w base e 1 (some ⟨g, 0, none⟩) L.length c (fl L)) : Holds encStr w g 0 (L.map ofB).toArray ∧ g < w.heap.size ∧ L.length ≤ c := by
  have h' := h
  obtain ⟨hl, ⟨hA, h0⟩ | ⟨g', cap, cur, hA, hb, hh, hnc, hcm, hcs, htk⟩⟩ := h
  · cases hA
  · cases hA
    have hr := Rd.of_own h'
    refine ⟨fun j hj => ⟨?_, ?_⟩, (Array.getElem?_eq_some_iff.1 hh).1, hnc⟩
    · have hj' : j < L.length := by simpa using hj
      obtain ⟨ad, e1, e2⟩ := hr j (.string L[j]) (by rw [fl_str]; simp [hj'])
      cases e1
      rw [ga_add] at e2
      rw [Nat.zero_add, e2]
      simp [encStr, ofB, hj']
    · rw [Nat.zero_add]; exact frozen_of_row w g j cur e hh
def srtB (L : List ByteArray) : List ByteArray := ((L.map ofB).mergeSort fun x y => decide (x ≤ y)).map toB
theorem sort_c (A : Option Addr) (c : Nat) (L : List ByteArray) (hl : L.length ≤ 8388608) {base : Nat} {w0 w : World} {H : List HObj} {G : List World} (hw : WOk base w0 (.row 9 1 A L.length c (fl L) :: H) G w) :
    Calls Try.prog 198 #[.slice A L.length c] w fun e w' => ∃ y : Ys, e = .returned (.tuple #[]) ∧ True ∧ WOk base w0 (.row 9 1 A L.length c (fl (srtB L)) :: H) G w' := by
  have ho : Own w base 9 1 A L.length c (fl L) := hw.own _ List.mem_cons_self
  rcases A with _ | ⟨g, off, sub⟩
  · have hL : L = [] := by
      obtain ⟨_, ⟨_, h0⟩ | ⟨g', cap, cur, hA, _⟩⟩ := ho
      · exact List.eq_nil_of_length_eq_zero h0
      · cases hA
    subst hL
    have e0 : srtB [] = [] := by simp [srtB]
    rw [e0]
    refine (so_slices_Sort_string_none none c w).mono ?_
    rintro e w' ⟨rfl, rfl⟩
    exact ⟨mkY none 0 w', rfl, trivial, hw⟩
  · have hA : off = 0 ∧ sub = none := by
      obtain ⟨_, ⟨hA, h0⟩ | ⟨g', cap, cur, hA, _⟩⟩ := ho
      · cases hA
      · cases hA; exact ⟨rfl, rfl⟩
    obtain ⟨rfl, rfl⟩ := hA
    obtain ⟨hH, hg, hc⟩ := holds_own ho
    have hs := so_slices_Sort_string g 0 c (L.map ofB) w hH hg (by simp; omega)
    rw [List.length_map] at hs
    refine hs.mono ?_
    rintro e w' ⟨rfl, k, os, rfl⟩
    obtain ⟨q1, q2⟩ := Own.put ho ((L.map ofB).mergeSort fun x y => decide (x ≤ y)).toArray (by simp) os k
    refine ⟨mkY none 0 w, rfl, trivial, ?_⟩
    exact hw.turn (i := 0) (r := some g) rfl q2 (fun j hj => by cases hj; rfl) q1 (fun j hj => .inl hj)
/-- The own row made shorter. -/
theorem WOk.cutRow {e sz n c k : Nat} {A : Option Addr} {us : List Value} {base : Nat} {w0 w : World} {H : List HObj} {G : List World} (hw : WOk base w0 (.row e sz A n c us :: H) G w) (hk : k ≤ n) : WOk base w0 (.row e sz A k c (us.take (k * sz)) :: H) G w := by
  refine hw.turn (i := 0) (x' := .row e sz A k c (us.take (k * sz))) rfl (r := none) (World.grownBy.refl w _) (fun k hk => by cases hk) ?_ (fun j hj => .inl hj)
  have ho : Own w base e sz A n c us := hw.own _ List.mem_cons_self
  have hle : k * sz ≤ n * sz := Nat.mul_le_mul_right _ hk
  obtain ⟨hl, ⟨hA, h0⟩ | ⟨g', cap, cur, hA, hb, hh, hnc, hcm, hcs, htk⟩⟩ := ho
  · refine ⟨by rw [List.length_take, hl]; omega, .inl ⟨?_, by omega⟩⟩
    injection hA with h1 h2 h3
    obtain rfl : k = 0 := by omega
    rw [h1, h3]
  · injection hA with h1 h2 h3
    refine ⟨by rw [List.length_take, hl]; omega, .inr ⟨g', cap, cur, by rw [h1, h3], hb, hh, by omega, hcm, hcs, ?_⟩⟩
    rw [← htk, List.take_take, Nat.min_eq_left hle]
/-- slices.Compact. -/
def ctL (x : List UInt8) : List (List UInt8) → List (List UInt8)
  | [] => []
  | b :: L => if b ≠ x then b :: ctL b L else ctL b L
theorem ct_eq : ∀ (L : List (List UInt8)) (a : List UInt8), ((List.range L.length).filter (fun j => decide (L[j]! ≠ (a :: L)[j]!))).map (fun j => L[j]!) = ctL a L
  | [], a => rfl
  | b :: L, a => by
    have ih := ct_eq L b
    have e : List.range (L.length + 1) = 0 :: (List.range L.length).map (· + 1) := List.range_succ_eq_map
    rw [List.length_cons, e, List.filter_cons, List.filter_map, ctL]
    have e2 : ((List.range L.length).filter ((fun j => decide ((b :: L)[j]! ≠ (a :: b :: L)[j]!)) ∘ (· + 1))) = (List.range L.length).filter (fun j => decide (L[j]! ≠ (b :: L)[j]!)) := rfl
    rw [e2]
    by_cases h : b ≠ a
    · rw [if_pos h, if_pos (by simpa using h), List.map_cons, List.map_map]
      congr 1
    · rw [if_neg h, if_neg (by simpa using h), List.map_map]
      exact ih
theorem compact_ct (a : List UInt8) (L : List (List UInt8)) : Lib.compact (a :: L) = a :: ctL a L := by
  rw [← ct_eq L a]
  unfold Lib.compact Lib.compactUpTo
  have e : List.range (a :: L).length = 0 :: (List.range L.length).map (· + 1) := by rw [List.length_cons]; exact List.range_succ_eq_map
  rw [e, List.filter_cons, List.filter_map, if_pos (by simp [Lib.keeps]), List.map_cons, List.map_map]
  have e2 : ((List.range L.length).filter (Lib.keeps (a :: L).toArray ∘ (· + 1))) = (List.range L.length).filter (fun j => decide (L[j]! ≠ (a :: L)[j]!)) := by
    congr 1
    funext j
    simp [Lib.keeps]
  rw [e2]
  congr 1
  exact List.map_congr_left fun j _ => by simp
theorem ct_once : ∀ (L : List ByteArray) (a : ByteArray), onceS (a :: L) = a :: (ctL (ofB a) (L.map ofB)).map toB
  | [], a => rfl
  | b :: L, a => by
    rw [onceS, List.map_cons, ctL]
    have ih := ct_once L b
    by_cases h : sEq a b = true
    · have e := sEq_eq h
      subst e
      rw [if_pos h, if_neg (by simp), ih]
    · rw [if_neg h, if_pos (fun e => h (by
        have : a = b := by rw [← toB_of a, ← toB_of b, e]
        subst this; unfold sEq; simp)), List.map_cons, ih]
      rfl
theorem compact_once (L : List ByteArray) : (Lib.compact (L.map ofB)).map toB = onceS L := by
  cases L with
  | nil => rfl
  | cons a L => rw [List.map_cons, compact_ct, ct_once]; rfl
theorem once_len : ∀ L : List ByteArray, (onceS L).length ≤ L.length
  | [] => Nat.le_refl _
  | [a] => Nat.le_refl _
  | a :: b :: L => by
    have := once_len (b :: L)
    rw [onceS]
    split
    · simp only [List.length_cons] at this ⊢; omega
    · simp only [List.length_cons] at this ⊢; omega
theorem compact_c (A : Option Addr) (c : Nat) (L : List ByteArray) (hl : L.length ≤ 8388608) {base : Nat} {w0 w : World} {H : List HObj} {G : List World} (hw : WOk base w0 (.row 9 1 A L.length c (fl L) :: H) G w) :
    Calls Try.prog 200 #[.slice A L.length c] w fun e w' => ∃ y : Ys, e = .returned (.slice A (onceS L).length c) ∧ True ∧ WOk base w0 (.row 9 1 A (onceS L).length c (fl (onceS L)) :: H) G w' := by
  have ho : Own w base 9 1 A L.length c (fl L) := hw.own _ List.mem_cons_self
  rcases A with _ | ⟨g, off, sub⟩
  · have hL : L = [] := by
      obtain ⟨_, ⟨_, h0⟩ | ⟨g', cap, cur, hA, _⟩⟩ := ho
      · exact List.eq_nil_of_length_eq_zero h0
      · cases hA
    subst hL
    refine (so_slices_Compact_string_empty none c w).mono ?_
    rintro e w' ⟨rfl, rfl⟩
    exact ⟨mkY none 0 w', rfl, trivial, hw⟩
  · have hA : off = 0 ∧ sub = none := by
      obtain ⟨_, ⟨hA, h0⟩ | ⟨g', cap, cur, hA, _⟩⟩ := ho
      · cases hA
      · cases hA; exact ⟨rfl, rfl⟩
    obtain ⟨rfl, rfl⟩ := hA
    obtain ⟨hH, hg, hc⟩ := holds_own ho
    have hs := so_slices_Compact_string g 0 c (L.map ofB) w hH (by simp; omega) (by simpa using hc)
    have hcl : (Lib.compact (L.map ofB)).length = (onceS L).length := by rw [← compact_once, List.length_map]
    have hle := once_len L
    rw [List.length_map, hcl] at hs
    refine hs.mono ?_
    rintro e w' ⟨rfl, k, rfl⟩
    obtain ⟨q1, q2⟩ := Own.put ho (Lib.compact (L.map ofB) ++ List.replicate (L.length - (onceS L).length) []).toArray (by simp [hcl]; omega) #[] k
    have e0 : ∀ w : World, grow w #[] = w := fun w => by unfold grow; simp
    rw [e0] at q1 q2
    refine ⟨mkY none 0 w, rfl, trivial, ?_⟩
    have h1 := hw.turn (i := 0) (x' := .row 9 1 (some ⟨g, 0, none⟩) L.length c _) (r := some g) rfl q2 (fun j hj => by cases hj; rfl) q1 (fun j hj => .inl hj)
    have h2 := WOk.cutRow (k := (onceS L).length) h1 hle
    rw [List.map_append, compact_once] at h2
    have e3 : (fl (onceS L ++ (List.replicate (L.length - (onceS L).length) ([] : List UInt8)).map toB)).take ((onceS L).length * 1) = fl (onceS L) := by
      rw [← fl_app]; exact List.take_left' (by rw [fl_len]; rfl)
    rw [e3] at h2
    exact h2
end Go.Proofs.Ytfcnimglcialbaa
