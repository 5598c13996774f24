/- ShowSlot of both programs: one plain string. -/
import Derived.Test.YtfcnimglcialbaaFix
import Derived.Test.YtfcnimglcialbaaCrc
import Derived.Test.YtfcnimglcialbaaTy
namespace Go.Proofs.Ytfcnimglcialbaa
open Go.RowKit
set_option maxHeartbeats 1000000
set_option linter.unusedVariables false
set_option linter.unusedSimpArgs false
def vS (n : Nat) : ByteArray := ⟨(varL n).toArray⟩
def fS (n : Nat) : ByteArray := ⟨(fixL 4 n).toArray⟩
def pieceS (r : ByteArray) : ByteArray := vS r.size ++ r
def sumS (t : ByteArray) : ByteArray := fS (crcF t) ++ t
theorem vS_size (n : Nat) : (vS n).size ≤ 10 := by
  show (varL n).toArray.size ≤ 10
  have := varF_len 9 n
  simpa [varL] using this
theorem fS_size (n : Nat) : (fS n).size = 4 := by
  show (fixL 4 n).toArray.size = 4
  simp [fixL_len]
theorem crcF_lt (t : ByteArray) : crcF t < 4294967296 := by unfold crcF; omega
theorem pieceS_size (r : ByteArray) : (pieceS r).size ≤ r.size + 10 := by
  have := vS_size r.size
  unfold pieceS; rw [ByteArray.size_append]; omega
theorem xs_Var_v (n : Nat) (hn : n ≤ 562949953421311) (w : World) :
    Calls Try.prog 131 #[.int .i64 n] w fun e w' => e = .returned (.string (vS n)) ∧ Below w.heap.size w w' := (by first | exact sVar_any n hn w | exact iVar_any n hn w)
theorem xi_Var_v (n : Nat) (hn : n ≤ 562949953421311) (w : World) :
    Calls Try.prog 136 #[.int .i64 n] w fun e w' => e = .returned (.string (vS n)) ∧ Below w.heap.size w w' := (by first | exact sVar_any n hn w | exact iVar_any n hn w)
theorem sFix_v (n : Nat) (hn : n < 4294967296) (w : World) :
    Calls Try.prog 146 #[.int .i64 n, .int .i64 4] w fun e w' => e = .returned (.string (fS n)) ∧ Below w.heap.size w w' := sFixed4_any n hn w
theorem iFix_v (n : Nat) (hn : n < 4294967296) (w : World) :
    Calls Try.prog 220 #[.int .i64 n, .int .i64 4] w fun e w' => e = .returned (.string (fS n)) ∧ Below w.heap.size w w' := iFixed4_any n hn w
theorem sPiece_any (s : ByteArray) (hs : s.size ≤ 1048576) (w : World) :
    Calls Try.prog 132 #[.string s] w fun e w' => e = .returned (.string (pieceS s)) ∧ Below w.heap.size w w' := by
  have hz := vS_size s.size
  have hq : ¬ 9223372036854775807 < (vS s.size).size + s.size := by omega
  go_enter Try.func132, Try.ntmps132
  go_wp2_with fail
  refine (xs_Var_v s.size (by omega) _).mono ?_
  rintro e w' ⟨rfl, hb⟩
  go_wp2
  go_ret
  exact ⟨rfl, hb⟩
theorem iPiece_any (s : ByteArray) (hs : s.size ≤ 1048576) (w : World) :
    Calls Try.prog 137 #[.string s] w fun e w' => e = .returned (.string (pieceS s)) ∧ Below w.heap.size w w' := by
  have hz := vS_size s.size
  have hq : ¬ 9223372036854775807 < (vS s.size).size + s.size := by omega
  go_enter Try.func137, Try.ntmps137
  go_wp2_with fail
  refine (xi_Var_v s.size (by omega) _).mono ?_
  rintro e w' ⟨rfl, hb⟩
  go_wp2
  go_ret
  exact ⟨rfl, hb⟩
theorem iSummed_any (s : ByteArray) (hs : s.size ≤ 2097152) (w : World) :
    Calls Try.prog 217 #[.string s] w fun e w' => e = .returned (.string (sumS s)) ∧ Below w.heap.size w w' := by
  have hz := fS_size (crcF s)
  have hq : ¬ 9223372036854775807 < (fS (crcF s)).size + s.size := by omega
  go_enter Try.func217, Try.ntmps217
  go_wp2_with fail
  refine (iCrc_any s (by unfold maxLen; omega) _).mono ?_
  rintro e w' ⟨rfl, rfl⟩
  go_wp2_with fail
  refine (iFix_v _ (crcF_lt s) _).mono ?_
  rintro e w' ⟨rfl, hb⟩
  go_wp2
  go_ret
  exact ⟨rfl, hb⟩
def showS (q : Int) (r : ByteArray) : ByteArray := if inR q 1 1000000 = true ∧ r.size ≤ 40 then sumS (vS q.toNat ++ pieceS r) else ⟨#[]⟩
theorem iShowSlot_any (q : Int) (r : ByteArray) (w : World) (hr : r.size ≤ 1048576) :
    Calls Try.prog 143 #[.agg #[.int .i64 q, .string r]] w fun e w' => e = .returned (.string (showS q r)) ∧ Below w.heap.size w w' := by
  go_enter Try.func143, Try.ntmps143
  by_cases h40 : (r.size : Int) ≤ 40
  · cases hq : inR q 1 1000000
    · go_wp2_with (go_at_call 122; refine (xi_inRange_any _ _ _ _).mono ?_; rintro e w' ⟨rfl, rfl⟩; rw [hq])
      go_ret
      refine ⟨ret_str (by unfold showS; rw [if_neg (by rw [hq]; simp)]), (by repeat' first | (with_reducible assumption) | (with_reducible exact Below.refl _ _) | (with_reducible refine Below.drew ?_) | (with_reducible refine below_drewN ?_ _) | (with_reducible refine Below.alloc ?_ ?_ _) | (with_reducible refine Below.setCell ?_ ?_ _) | (simp; done) | (simp; omega) | omega)⟩
    · have hq' := hq
      unfold inR at hq'
      simp at hq'
      obtain ⟨n, rfl⟩ : ∃ n : Nat, q = n := ⟨q.toNat, by omega⟩
      go_wp2_with (go_at_call 122; refine (xi_inRange_any _ _ _ _).mono ?_; rintro e w' ⟨rfl, rfl⟩; rw [hq])
      have hB : Below w.heap.size w (w.alloc (.cells [.int .i64 (n : Int), .string r].toArray 78)).drew := (by repeat' first | (with_reducible assumption) | (with_reducible exact Below.refl _ _) | (with_reducible refine Below.drew ?_) | (with_reducible refine below_drewN ?_ _) | (with_reducible refine Below.alloc ?_ ?_ _) | (with_reducible refine Below.setCell ?_ ?_ _) | (simp; done) | (simp; omega) | omega)
      have BG : Box (w.alloc (.cells [.int .i64 (n : Int), .string r].toArray 78)).drew w.heap.size 78 [.int .i64 (n : Int), .string r] := Box.new w _ _
      have hz1 := vS_size n
      have hz2 := pieceS_size r
      have hz3 : (vS n ++ pieceS r).size ≤ 2097152 := by rw [ByteArray.size_append]; omega
      have hq1 : ¬ 9223372036854775807 < (vS n).size + (pieceS r).size := by omega
      have q0 := BG.cell 0
      have q1 := BG.cell 1
      have y0 := BG.frozen 0
      have y1 := BG.frozen 1
      simp only [List.getElem?_cons_succ, List.getElem?_cons_zero] at q0 q1
      change Code.wp _ _ _ _ (w.alloc (.cells [.int .i64 (n : Int), .string r].toArray 78))
      generalize hW0 : (w.alloc (.cells [.int .i64 (n : Int), .string r].toArray 78)) = W0 at *
      go_region_with (first
        | (go_at_call 136; refine (xi_Var_v n (by omega) _).mono ?_; rintro e w7 ⟨rfl, hb7⟩; replace BG := BG.ext hb7; replace hB := hB.trans (hb7.mono hB.size); have q0 := BG.cell 0; have q1 := BG.cell 1; have y0 := BG.frozen 0; have y1 := BG.frozen 1; simp only [List.getElem?_cons_succ, List.getElem?_cons_zero] at q0 q1)
        | (go_at_call 137; refine (iPiece_any r (by omega) _).mono ?_; rintro e w7 ⟨rfl, hb7⟩; replace BG := BG.ext hb7; replace hB := hB.trans (hb7.mono hB.size); have q0 := BG.cell 0; have q1 := BG.cell 1; have y0 := BG.frozen 0; have y1 := BG.frozen 1; simp only [List.getElem?_cons_succ, List.getElem?_cons_zero] at q0 q1)
        | (go_at_call 217; refine (iSummed_any _ hz3 _).mono ?_; rintro e w7 ⟨rfl, hb7⟩; replace BG := BG.ext hb7; replace hB := hB.trans (hb7.mono hB.size); have q0 := BG.cell 0; have q1 := BG.cell 1; have y0 := BG.frozen 0; have y1 := BG.frozen 1; simp only [List.getElem?_cons_succ, List.getElem?_cons_zero] at q0 q1))
      all_goals go_wp2
      all_goals go_ret
      all_goals exact ⟨ret_str (by unfold showS; rw [if_pos ⟨hq, by omega⟩, Int.toNat_natCast]), hB⟩
  · have h40i : (40 : Int) < r.size := by omega
    cases hq : inR q 1 1000000
    · go_wp2_with (go_at_call 122; refine (xi_inRange_any _ _ _ _).mono ?_; rintro e w' ⟨rfl, rfl⟩; rw [hq])
      go_ret
      refine ⟨ret_str (by unfold showS; rw [if_neg (by rw [hq]; simp)]), (by repeat' first | (with_reducible assumption) | (with_reducible exact Below.refl _ _) | (with_reducible refine Below.drew ?_) | (with_reducible refine below_drewN ?_ _) | (with_reducible refine Below.alloc ?_ ?_ _) | (with_reducible refine Below.setCell ?_ ?_ _) | (simp; done) | (simp; omega) | omega)⟩
    · go_wp2_with (go_at_call 122; refine (xi_inRange_any _ _ _ _).mono ?_; rintro e w' ⟨rfl, rfl⟩; rw [hq])
      go_ret
      refine ⟨ret_str (by unfold showS; rw [if_neg (by omega)]), (by repeat' first | (with_reducible assumption) | (with_reducible exact Below.refl _ _) | (with_reducible refine Below.drew ?_) | (with_reducible refine below_drewN ?_ _) | (with_reducible refine Below.alloc ?_ ?_ _) | (with_reducible refine Below.setCell ?_ ?_ _) | (simp; done) | (simp; omega) | omega)⟩
theorem sShowSlot_any (q : Int) (r : ByteArray) (w : World) (hr : r.size ≤ 1048576) :
    Calls Try.prog 145 #[.agg #[.int .i64 q, .string r]] w fun e w' => e = .returned (.string (showS q r)) ∧ Below w.heap.size w w' := by
  go_enter Try.func145, Try.ntmps145
  by_cases h40 : (r.size : Int) ≤ 40
  · cases hq : inR q 1 1000000
    · go_wp2_with (go_at_call 104; refine (xs_l1In_any _ _ _ _).mono ?_; rintro e w' ⟨rfl, rfl⟩; rw [hq])
      go_ret
      refine ⟨ret_str (by unfold showS; rw [if_neg (by rw [hq]; simp)]), (by repeat' first | (with_reducible assumption) | (with_reducible exact Below.refl _ _) | (with_reducible refine Below.drew ?_) | (with_reducible refine below_drewN ?_ _) | (with_reducible refine Below.alloc ?_ ?_ _) | (with_reducible refine Below.setCell ?_ ?_ _) | (simp; done) | (simp; omega) | omega)⟩
    · have hq' := hq
      unfold inR at hq'
      simp at hq'
      obtain ⟨n, rfl⟩ : ∃ n : Nat, q = n := ⟨q.toNat, by omega⟩
      go_wp2_with (go_at_call 104; refine (xs_l1In_any _ _ _ _).mono ?_; rintro e w' ⟨rfl, rfl⟩; rw [hq])
      have hB : Below w.heap.size w (w.alloc (.cells [.int .i64 (n : Int), .string r].toArray 78)).drew := (by repeat' first | (with_reducible assumption) | (with_reducible exact Below.refl _ _) | (with_reducible refine Below.drew ?_) | (with_reducible refine below_drewN ?_ _) | (with_reducible refine Below.alloc ?_ ?_ _) | (with_reducible refine Below.setCell ?_ ?_ _) | (simp; done) | (simp; omega) | omega)
      have BG : Box (w.alloc (.cells [.int .i64 (n : Int), .string r].toArray 78)).drew w.heap.size 78 [.int .i64 (n : Int), .string r] := Box.new w _ _
      have hz1 := vS_size n
      have hz2 := pieceS_size r
      have hz3 : (vS n ++ pieceS r).size ≤ 2097152 := by rw [ByteArray.size_append]; omega
      have hz4 := fS_size (crcF (vS n ++ pieceS r))
      have hq2 : ¬ 9223372036854775807 < (fS (crcF (vS n ++ pieceS r))).size + (vS n ++ pieceS r).size := by omega
      have hq3 : ¬ 9223372036854775807 < (fS (crcF (vS n ++ pieceS r))).size + ((vS n).size + (pieceS r).size) := by omega
      have hq1 : ¬ 9223372036854775807 < (vS n).size + (pieceS r).size := by omega
      have q0 := BG.cell 0
      have q1 := BG.cell 1
      have y0 := BG.frozen 0
      have y1 := BG.frozen 1
      simp only [List.getElem?_cons_succ, List.getElem?_cons_zero] at q0 q1
      change Code.wp _ _ _ _ (w.alloc (.cells [.int .i64 (n : Int), .string r].toArray 78))
      generalize hW0 : (w.alloc (.cells [.int .i64 (n : Int), .string r].toArray 78)) = W0 at *
      go_region_with (first
        | (go_at_call 131; refine (xs_Var_v n (by omega) _).mono ?_; rintro e w7 ⟨rfl, hb7⟩; replace BG := BG.ext hb7; replace hB := hB.trans (hb7.mono hB.size); have q0 := BG.cell 0; have q1 := BG.cell 1; have y0 := BG.frozen 0; have y1 := BG.frozen 1; simp only [List.getElem?_cons_succ, List.getElem?_cons_zero] at q0 q1)
        | (go_at_call 132; refine (sPiece_any r (by omega) _).mono ?_; rintro e w7 ⟨rfl, hb7⟩; replace BG := BG.ext hb7; replace hB := hB.trans (hb7.mono hB.size); have q0 := BG.cell 0; have q1 := BG.cell 1; have y0 := BG.frozen 0; have y1 := BG.frozen 1; simp only [List.getElem?_cons_succ, List.getElem?_cons_zero] at q0 q1))
      all_goals go_wp2_with (first
        | (go_at_call 147; refine (sCrc_any _ (by unfold maxLen; omega) _).mono ?_; rintro e w' ⟨rfl, rfl⟩)
        | (go_at_call 146; refine (sFix_v _ (crcF_lt _) _).mono ?_; rintro e w9 ⟨rfl, hb9⟩))
      all_goals go_ret
      all_goals exact ⟨ret_str (by unfold showS sumS; rw [if_pos ⟨hq, by omega⟩, Int.toNat_natCast]), hB.trans (hb9.mono hB.size)⟩
  · have h40i : (40 : Int) < r.size := by omega
    cases hq : inR q 1 1000000
    · go_wp2_with (go_at_call 104; refine (xs_l1In_any _ _ _ _).mono ?_; rintro e w' ⟨rfl, rfl⟩; rw [hq])
      go_ret
      refine ⟨ret_str (by unfold showS; rw [if_neg (by rw [hq]; simp)]), (by repeat' first | (with_reducible assumption) | (with_reducible exact Below.refl _ _) | (with_reducible refine Below.drew ?_) | (with_reducible refine below_drewN ?_ _) | (with_reducible refine Below.alloc ?_ ?_ _) | (with_reducible refine Below.setCell ?_ ?_ _) | (simp; done) | (simp; omega) | omega)⟩
    · go_wp2_with (go_at_call 104; refine (xs_l1In_any _ _ _ _).mono ?_; rintro e w' ⟨rfl, rfl⟩; rw [hq])
      go_ret
      refine ⟨ret_str (by unfold showS; rw [if_neg (by omega)]), (by repeat' first | (with_reducible assumption) | (with_reducible exact Below.refl _ _) | (with_reducible refine Below.drew ?_) | (with_reducible refine below_drewN ?_ _) | (with_reducible refine Below.alloc ?_ ?_ _) | (with_reducible refine Below.setCell ?_ ?_ _) | (simp; done) | (simp; omega) | omega)⟩
end Go.Proofs.Ytfcnimglcialbaa
