/- Fixed: both programs write the same bytes, for the widths in use. -/
import Derived.Test.YtbegbdfbfbkflaaVar
namespace Go.Proofs.Ytbegbdfbfbkflaa
open Go.RowKit
set_option maxHeartbeats 1000000
set_option linter.unusedVariables false
set_option linter.unusedSimpArgs false
def fixL : Nat → Nat → List UInt8
  | 0, n => []
  | k + 1, n => fixL k (n / 256) ++ [UInt8.ofNat (n % 256)]
theorem fixL_len (k n : Nat) : (fixL k n).length = k := by
  induction k generalizing n with
  | zero => rfl
  | succ k ih => simp [fixL, ih]
theorem fixL_step {j m : Nat} {o t : List UInt8} (h : fixL (j + 1) m ++ o = t) : fixL j (m / 256) ++ (UInt8.ofNat (m % 256) :: o) = t := by
  rw [fixL, List.append_assoc] at h
  simpa using h
theorem byteStr_app (n : Nat) (o : List UInt8) : byteStr (n : Int) ++ (⟨o.toArray⟩ : ByteArray) = ⟨(UInt8.ofNat n :: o).toArray⟩ := by
  apply ByteArray.ext
  simp [byteStr]
theorem z_u8 : (Try.prog.info? 5).map (·.size) = some 1 := by kernel_rfl
theorem sFixed4_any (n : Nat) (hn : n < 4294967296) (w : World) :
    Calls Try.prog 66 #[.int .i64 n, .int .i64 4] w fun e w' => e = .returned (.string ⟨(fixL 4 n).toArray⟩) ∧ Below w.heap.size w w' := by
  go_enter Try.func66, Try.ntmps66
  have hin : inR 4 1 7 = true := rfl
  have hn0 : (0 : Int) ≤ (n : Int) := by omega
  go_wp2_with (go_at_call 65; refine (xs_l1In_any _ _ _ _).mono ?_; rintro e w' ⟨rfl, rfl⟩; rw [hin])
  go_loopw [0, 5, 6] (fun nv ov iv wr => ∃ (i m j : Nat) (o : List UInt8), iv = .int .i64 i ∧ nv = .int .i64 m ∧ ov = .string ⟨o.toArray⟩ ∧ o.length = i ∧ i + j = 4 ∧ fixL j m ++ o = fixL 4 n ∧ m < 256 ^ j ∧ m < 4294967296 ∧ Below w.heap.size w wr) (fun _ _ iv _ => 4 - (intOf iv).toNat)
  case atStart => exact ⟨0, n, 4, [], rfl, rfl, rfl, rfl, rfl, by simp, by omega, hn, (by repeat' first | (with_reducible assumption) | (with_reducible exact Below.refl _ _) | (with_reducible refine Below.drew ?_) | (with_reducible refine below_drewN ?_ _) | (with_reducible refine Below.alloc ?_ ?_ _) | (with_reducible refine Below.setCell ?_ ?_ _) | (simp; done) | (simp; omega) | omega)⟩
  case round =>
    obtain ⟨i, m, j, o, rfl, rfl, rfl, hol, hij, hf, hm, hmb, hbel⟩ := hrel
    have L := Lib.hid hf; clear hf
    have hm0 : (0 : Int) ≤ (m : Int) := by omega
    have hi0 : (0 : Int) ≤ (i : Int) := by omega
    have hws := hbel.size
    rcases j with _ | j
    · obtain rfl : i = 4 := by omega
      obtain rfl : m = 0 := by omega
      have L2 := Lib.hid (show o = fixL 4 n from L.out)
      go_wp2
      go_ret
      refine ⟨?_, hbel⟩
      rw [← L2.out]; rfl
    · have hlt : (i : Int) < 4 := by omega
      have L2 := Lib.hid (fixL_step L.out)
      have hsz : ¬ 9223372036854775807 < 1 + o.length := by omega
      have hsz2 : ¬ 9223372036854775807 < 1 + (⟨o.toArray⟩ : ByteArray).size := by show ¬ _ < 1 + o.toArray.size; simpa using hsz
      have hm' : m / 256 < 256 ^ j := Nat.div_lt_of_lt_mul (by rw [Nat.pow_succ] at hm; omega)
      have hmi : (m : Int) < 4294967296 := by omega
      go_wp2
      exact ⟨⟨i + 1, m / 256, j, UInt8.ofNat (m % 256) :: o, by go_num, by simp, by rw [← byteStr_app]; rfl, by simp [hol], by omega, L2.out, hm', by omega, hbel.alloc hbel.size _⟩, by simp [intOf]; omega⟩
theorem iFixed4_any (n : Nat) (hn : n < 4294967296) (w : World) :
    Calls Try.prog 148 #[.int .i64 n, .int .i64 4] w fun e w' => e = .returned (.string ⟨(fixL 4 n).toArray⟩) ∧ Below w.heap.size w w' := by
  obtain ⟨cs, hcs, hmk⟩ := run_mk T_bytes 4 (by omega) (by omega)
  replace hmk : ∀ W : World, (Instr.makeSlice 22 (.int .i64 4) (.int .i64 4)).run Try.prog W = .ok (.slice (some ⟨W.heap.size, 0, none⟩) 4 4) (W.alloc (.cells cs 5)) := hmk
  go_enter Try.func148, Try.ntmps148
  have hin : inR 4 1 7 = true := rfl
  have hn0 : (0 : Int) ≤ (n : Int) := by omega
  have hz : (n : Int) / 4294967296 = 0 := by omega
  go_wp2_with (go_at_call 78; refine (xi_inRange_any _ _ _ _).mono ?_; rintro e w' ⟨rfl, rfl⟩; rw [hin])
  have hcz := Lib.hid hcs; clear hcs hmk
  go_loopw [0, 6] (fun nv iv wr => ∃ (m j : Nat) (o : List UInt8) (us : List Value), iv = .int .i64 ((j : Int) - 1) ∧ nv = .int .i64 m ∧ Own wr w.heap.size 5 1 (some ⟨w.heap.size, 0, none⟩) 4 4 us ∧ us.drop j = byteVs o ∧ fixL j m ++ o = fixL 4 n ∧ m < 4294967296 ∧ j ≤ 4 ∧ Below w.heap.size w wr) (fun _ iv _ => (intOf iv + 1).toNat)
  case atStart => exact ⟨n, 4, [], cs.toList, rfl, rfl, World.ownsRow_lit w cs 4 (Nat.le_refl _) (by simp [maxLen]) hcz.out, by rw [List.drop_of_length_le (by have := hcz.out; simp; omega)]; rfl, by simp, hn, Nat.le_refl _, (by repeat' first | (with_reducible assumption) | (with_reducible exact Below.refl _ _) | (with_reducible refine Below.drew ?_) | (with_reducible refine below_drewN ?_ _) | (with_reducible refine Below.alloc ?_ ?_ _) | (with_reducible refine Below.setCell ?_ ?_ _) | (simp; done) | (simp; omega) | omega)⟩
  case round =>
    obtain ⟨m, j, o, us, rfl, rfl, hown, hd, hf, hmb, hjK, hbel⟩ := hrel
    have L := Lib.hid hf; clear hf
    have D := Lib.hid hd; clear hd
    have hm0 : (0 : Int) ≤ (m : Int) := by omega
    have hws := hbel.size
    rcases j with _ | j
    · have L2 := Lib.hid (show o = fixL 4 n from L.out)
      have hus : us = byteVs o := by have := D.out; simpa using this
      subst hus
      have hol : o.length = 4 := by rw [L2.out, fixL_len]
      have hc := run_str (Rd.of_own hown) 4 hol.symm 4
      go_wp2
      go_ret
      refine ⟨?_, hbel⟩
      rw [← L2.out]; rfl
    · have hji : ((j + 1 : Nat) : Int) - 1 = (j : Int) := by omega
      rw [hji]
      have hj0 : (0 : Int) ≤ (j : Int) := by omega
      have hjk : (j : Int) < 4 := by omega
      have hmi : (m : Int) < 4294967296 := by omega
      have hv := Lib.hid (ofNat_val' (m % 256) (by omega))
      have L2 := Lib.hid (fixL_step L.out)
      have hlu : us.length = 4 * 1 := hown.1
      go_wp2_with (refine wpList_st z_u8 rfl (.tmp 34) (.tmp 33) rfl hown (i := j) (by omega) rfl (by rw [Nat.mul_one]) ?_ rfl ?_; intro w2 hown2 hg2)
      · change Own w2 w.heap.size 5 1 (some ⟨w.heap.size, 0, none⟩) 4 4 (us.take (j * 1) ++ [Value.int .u8 ((m : Int) % 256)] ++ us.drop (j * 1 + 1)) at hown2
        have ht : (us.take j).length = j := by rw [List.length_take]; omega
        refine ⟨⟨m / 256, j, UInt8.ofNat (m % 256) :: o, _, rfl, by simp, hown2, ?_, L2.out, by omega, by omega, below_own hbel hg2 (Nat.le_refl _) hws⟩, by simp [intOf]⟩
        rw [Nat.mul_one, List.append_assoc, List.drop_left' ht, D.out]
        simp only [byteVs, List.map_cons, List.singleton_append]
        rw [hv.out]
        rfl
      · change ∀ u ∈ [Value.int .u8 ((m : Int) % 256)], _
        intro u hu
        simp only [List.mem_singleton] at hu
        subst hu
        rfl
theorem sFixed7_any (n : Nat) (hn : n < 72057594037927936) (w : World) :
    Calls Try.prog 66 #[.int .i64 n, .int .i64 7] w fun e w' => e = .returned (.string ⟨(fixL 7 n).toArray⟩) ∧ Below w.heap.size w w' := by
  go_enter Try.func66, Try.ntmps66
  have hin : inR 7 1 7 = true := rfl
  have hn0 : (0 : Int) ≤ (n : Int) := by omega
  go_wp2_with (go_at_call 65; refine (xs_l1In_any _ _ _ _).mono ?_; rintro e w' ⟨rfl, rfl⟩; rw [hin])
  go_loopw [0, 5, 6] (fun nv ov iv wr => ∃ (i m j : Nat) (o : List UInt8), iv = .int .i64 i ∧ nv = .int .i64 m ∧ ov = .string ⟨o.toArray⟩ ∧ o.length = i ∧ i + j = 7 ∧ fixL j m ++ o = fixL 7 n ∧ m < 256 ^ j ∧ m < 72057594037927936 ∧ Below w.heap.size w wr) (fun _ _ iv _ => 7 - (intOf iv).toNat)
  case atStart => exact ⟨0, n, 7, [], rfl, rfl, rfl, rfl, rfl, by simp, by omega, hn, (by repeat' first | (with_reducible assumption) | (with_reducible exact Below.refl _ _) | (with_reducible refine Below.drew ?_) | (with_reducible refine below_drewN ?_ _) | (with_reducible refine Below.alloc ?_ ?_ _) | (with_reducible refine Below.setCell ?_ ?_ _) | (simp; done) | (simp; omega) | omega)⟩
  case round =>
    obtain ⟨i, m, j, o, rfl, rfl, rfl, hol, hij, hf, hm, hmb, hbel⟩ := hrel
    have L := Lib.hid hf; clear hf
    have hm0 : (0 : Int) ≤ (m : Int) := by omega
    have hi0 : (0 : Int) ≤ (i : Int) := by omega
    have hws := hbel.size
    rcases j with _ | j
    · obtain rfl : i = 7 := by omega
      obtain rfl : m = 0 := by omega
      have L2 := Lib.hid (show o = fixL 7 n from L.out)
      go_wp2
      go_ret
      refine ⟨?_, hbel⟩
      rw [← L2.out]; rfl
    · have hlt : (i : Int) < 7 := by omega
      have L2 := Lib.hid (fixL_step L.out)
      have hsz : ¬ 9223372036854775807 < 1 + o.length := by omega
      have hsz2 : ¬ 9223372036854775807 < 1 + (⟨o.toArray⟩ : ByteArray).size := by show ¬ _ < 1 + o.toArray.size; simpa using hsz
      have hm' : m / 256 < 256 ^ j := Nat.div_lt_of_lt_mul (by rw [Nat.pow_succ] at hm; omega)
      have hmi : (m : Int) < 72057594037927936 := by omega
      go_wp2
      exact ⟨⟨i + 1, m / 256, j, UInt8.ofNat (m % 256) :: o, by go_num, by simp, by rw [← byteStr_app]; rfl, by simp [hol], by omega, L2.out, hm', by omega, hbel.alloc hbel.size _⟩, by simp [intOf]; omega⟩
theorem iFixed7_any (n : Nat) (hn : n < 72057594037927936) (w : World) :
    Calls Try.prog 148 #[.int .i64 n, .int .i64 7] w fun e w' => e = .returned (.string ⟨(fixL 7 n).toArray⟩) ∧ Below w.heap.size w w' := by
  obtain ⟨cs, hcs, hmk⟩ := run_mk T_bytes 7 (by omega) (by omega)
  replace hmk : ∀ W : World, (Instr.makeSlice 22 (.int .i64 7) (.int .i64 7)).run Try.prog W = .ok (.slice (some ⟨W.heap.size, 0, none⟩) 7 7) (W.alloc (.cells cs 5)) := hmk
  go_enter Try.func148, Try.ntmps148
  have hin : inR 7 1 7 = true := rfl
  have hn0 : (0 : Int) ≤ (n : Int) := by omega
  have hz : (n : Int) / 72057594037927936 = 0 := by omega
  go_wp2_with (go_at_call 78; refine (xi_inRange_any _ _ _ _).mono ?_; rintro e w' ⟨rfl, rfl⟩; rw [hin])
  have hcz := Lib.hid hcs; clear hcs hmk
  go_loopw [0, 6] (fun nv iv wr => ∃ (m j : Nat) (o : List UInt8) (us : List Value), iv = .int .i64 ((j : Int) - 1) ∧ nv = .int .i64 m ∧ Own wr w.heap.size 5 1 (some ⟨w.heap.size, 0, none⟩) 7 7 us ∧ us.drop j = byteVs o ∧ fixL j m ++ o = fixL 7 n ∧ m < 72057594037927936 ∧ j ≤ 7 ∧ Below w.heap.size w wr) (fun _ iv _ => (intOf iv + 1).toNat)
  case atStart => exact ⟨n, 7, [], cs.toList, rfl, rfl, World.ownsRow_lit w cs 7 (Nat.le_refl _) (by simp [maxLen]) hcz.out, by rw [List.drop_of_length_le (by have := hcz.out; simp; omega)]; rfl, by simp, hn, Nat.le_refl _, (by repeat' first | (with_reducible assumption) | (with_reducible exact Below.refl _ _) | (with_reducible refine Below.drew ?_) | (with_reducible refine below_drewN ?_ _) | (with_reducible refine Below.alloc ?_ ?_ _) | (with_reducible refine Below.setCell ?_ ?_ _) | (simp; done) | (simp; omega) | omega)⟩
  case round =>
    obtain ⟨m, j, o, us, rfl, rfl, hown, hd, hf, hmb, hjK, hbel⟩ := hrel
    have L := Lib.hid hf; clear hf
    have D := Lib.hid hd; clear hd
    have hm0 : (0 : Int) ≤ (m : Int) := by omega
    have hws := hbel.size
    rcases j with _ | j
    · have L2 := Lib.hid (show o = fixL 7 n from L.out)
      have hus : us = byteVs o := by have := D.out; simpa using this
      subst hus
      have hol : o.length = 7 := by rw [L2.out, fixL_len]
      have hc := run_str (Rd.of_own hown) 7 hol.symm 7
      go_wp2
      go_ret
      refine ⟨?_, hbel⟩
      rw [← L2.out]; rfl
    · have hji : ((j + 1 : Nat) : Int) - 1 = (j : Int) := by omega
      rw [hji]
      have hj0 : (0 : Int) ≤ (j : Int) := by omega
      have hjk : (j : Int) < 7 := by omega
      have hmi : (m : Int) < 72057594037927936 := by omega
      have hv := Lib.hid (ofNat_val' (m % 256) (by omega))
      have L2 := Lib.hid (fixL_step L.out)
      have hlu : us.length = 7 * 1 := hown.1
      go_wp2_with (refine wpList_st z_u8 rfl (.tmp 34) (.tmp 33) rfl hown (i := j) (by omega) rfl (by rw [Nat.mul_one]) ?_ rfl ?_; intro w2 hown2 hg2)
      · change Own w2 w.heap.size 5 1 (some ⟨w.heap.size, 0, none⟩) 7 7 (us.take (j * 1) ++ [Value.int .u8 ((m : Int) % 256)] ++ us.drop (j * 1 + 1)) at hown2
        have ht : (us.take j).length = j := by rw [List.length_take]; omega
        refine ⟨⟨m / 256, j, UInt8.ofNat (m % 256) :: o, _, rfl, by simp, hown2, ?_, L2.out, by omega, by omega, below_own hbel hg2 (Nat.le_refl _) hws⟩, by simp [intOf]⟩
        rw [Nat.mul_one, List.append_assoc, List.drop_left' ht, D.out]
        simp only [byteVs, List.map_cons, List.singleton_append]
        rw [hv.out]
        rfl
      · change ∀ u ∈ [Value.int .u8 ((m : Int) % 256)], _
        intro u hu
        simp only [List.mem_singleton] at hu
        subst hu
        rfl
end Go.Proofs.Ytbegbdfbfbkflaa
