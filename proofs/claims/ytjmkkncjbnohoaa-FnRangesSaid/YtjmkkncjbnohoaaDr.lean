/- The drawing functions of the reference: l1New, l1Byte, l1Below, l1Pick, l26Key. -/
import Derived.Test.YtjmkkncjbnohoaaSl
import Derived.Deep.QuietTactic
import Derived.BigQuiet
import Derived.Lib.BufferOwn
import Derived.Lib.HexFns2
namespace Go.Proofs.Ytjmkkncjbnohoaa
open Go.RowKit Go.Lib
set_option maxHeartbeats 1000000
set_option linter.unusedVariables false
set_option linter.unusedSimpArgs false
/-- The cursor in its box: the code's bytes, a place in them, a state. -/
def Cur (w : World) (g : Nat) (A : Option Addr) (n c : Nat) : Prop := ∃ (i : Nat) (h : Int), i ≤ n ∧ Box w g 87 [.slice A n c, .int .i64 i, .int .i64 h]
theorem bytes_at {w : World} {A : Option Addr} {bs : List UInt8} (h : Rd w A (byteVs bs)) {i : Nat} (hi : i < bs.length) : ∃ ad, A = some ad ∧ w.cell? (ad.add i) = some (.int .u8 ((bs[i].toNat : Nat) : Int)) := by
  obtain ⟨ad, e, hc⟩ := h.at_ (j := i) (by rw [byteVs_len]; exact hi)
  exact ⟨ad, e, by rw [hc]; simp [byteVs]⟩
theorem and255 (y : Int) : 0 ≤ bits .and .i64 y 255 ∧ bits .and .i64 y 255 ≤ 255 := by
  unfold bits
  have h : (BitVec.ofInt IntKind.i64.bits y &&& BitVec.ofInt IntKind.i64.bits 255).toNat ≤ 255 := by
    rw [BitVec.toNat_and]
    exact Nat.le_trans Nat.and_le_right (by decide)
  generalize hn : (BitVec.ofInt IntKind.i64.bits y &&& BitVec.ofInt IntKind.i64.bits 255).toNat = n at *
  simp only [hn]
  have : IntKind.i64.wrap (n : Int) = n := by
    show (if (true && decide ((n : Int) % 18446744073709551616 ≥ 9223372036854775808)) = true then (n : Int) % 18446744073709551616 - 18446744073709551616 else (n : Int) % 18446744073709551616) = n
    split
    · rename_i hh
      simp at hh
      omega
    · omega
  rw [this]
  omega
theorem l1Byte_any {w : World} {g c : Nat} {A : Option Addr} {bs : List UInt8} (hr : Rd w A (byteVs bs)) (hn : bs.length ≤ maxLen) (hB : Cur w g A bs.length c) (hA : bs ≠ [] → A.map (·.block) ≠ some g) :
    Calls Try.prog 82 #[.pointer (some ⟨g, 0, none⟩)] w fun e w' => (∃ x : Int, e = .returned (.int .i64 x) ∧ 0 ≤ x ∧ x ≤ 255) ∧ Cur w' g A bs.length c ∧ w.grownBy w' (some g) := by
  obtain ⟨i, h, hi, B⟩ := hB
  have hn2 := hn
  unfold maxLen at hn2
  have a0 := B.cell 0
  have f0 := B.frozen 0
  have a1 := B.cell 1
  have f1 := B.frozen 1
  have a2 := B.cell 2
  have f2 := B.frozen 2
  simp only [List.getElem?_cons_succ, List.getElem?_cons_zero] at a0 a1 a2
  go_enter Try.func82, Try.ntmps82
  go_wp2_with fail
  generalize wrap64 (wrap64 (h * 6364136223846793005) + 1442695040888963407) = h1
  clear a0 a1 a2 f0 f1 f2
  have G1 : w.grownBy (w.setCell ⟨g, 2, none⟩ (.int .i64 h1)) (some g) := grownBy_setB (World.grownBy.refl w (some g)) 2 (.int .i64 h1)
  replace B := B.set_ 2 (.int .i64 h1)
  have R1 : Rd (w.setCell ⟨g, 2, none⟩ (.int .i64 h1)) A (byteVs bs) := hr.grown G1 (fun hne => hA (by rintro rfl; exact hne rfl))
  generalize w.setCell ⟨g, 2, none⟩ (.int .i64 h1) = W1 at B G1 R1 ⊢
  have a0 := B.cell 0
  have f0 := B.frozen 0
  have a1 := B.cell 1
  have f1 := B.frozen 1
  have a2 := B.cell 2
  have f2 := B.frozen 2
  simp only [List.set_cons_succ, List.set_cons_zero, List.getElem?_cons_succ, List.getElem?_cons_zero] at a0 a1 a2
  go_quiet (fail)
  by_cases hlt : i < bs.length
  · have hlt' : (i : Int) < (bs.length : Int) := by omega
    obtain ⟨ad, rfl, c0⟩ := bytes_at R1 hlt
    go_wp2_with fail
    go_quiet (fail)
    go_wp2_with fail
    go_quiet (fail)
    go_wp2
    go_ret
    exact ⟨⟨_, rfl, (and255 _).1, (and255 _).2⟩, ⟨i + 1, h1, hlt, by exact (Box.set_ (w := World.drewN W1 _) B 1 _).cast rfl⟩, grownBy_setB (w := World.drewN W1 _) ⟨G1.os, G1.tape, G1.output, G1.size, G1.block⟩ 1 _⟩
  · go_wp2_with fail
    go_quiet (fail)
    go_wp2
    go_ret
    exact ⟨⟨_, rfl, (and255 _).1, (and255 _).2⟩, ⟨i, h1, hi, B⟩, ⟨G1.os, G1.tape, G1.output, G1.size, G1.block⟩⟩
theorem l1Below_any {w : World} {g c : Nat} {A : Option Addr} {bs : List UInt8} (m : Int) (h0 : 0 < m) (h1 : m ≤ 256) (hr : Rd w A (byteVs bs)) (hn : bs.length ≤ maxLen) (hB : Cur w g A bs.length c) (hA : bs ≠ [] → A.map (·.block) ≠ some g) :
    Calls Try.prog 81 #[.pointer (some ⟨g, 0, none⟩), .int .i64 m] w fun e w' => (∃ x : Int, e = .returned (.int .i64 x) ∧ 0 ≤ x ∧ x < m) ∧ Cur w' g A bs.length c ∧ w.grownBy w' (some g) := by
  go_enter Try.func81, Try.ntmps81
  go_wp2_with fail
  refine (l1Byte_any hr hn hB hA).mono ?_
  rintro e w1 ⟨⟨x, rfl, x0, x1⟩, hB1, hG1⟩
  go_wp2
  go_ret
  exact ⟨⟨x % m, rfl, Int.emod_nonneg _ (by omega), Int.emod_lt_of_pos _ h0⟩, hB1, hG1⟩
theorem Cur.ext {w w' : World} {g n c : Nat} {A : Option Addr} (h : Cur w g A n c) (hb : Below w.heap.size w w') : Cur w' g A n c := by
  obtain ⟨i, x, hi, B⟩ := h
  exact ⟨i, x, hi, B.ext hb⟩
theorem Cur.lt {w : World} {g n c : Nat} {A : Option Addr} (h : Cur w g A n c) : g < w.heap.size := by
  obtain ⟨i, x, hi, B⟩ := h
  exact B.lt
def keys11 : List ByteArray := [⟨#[]⟩, ⟨#[97]⟩, ⟨#[98]⟩, ⟨#[97, 98]⟩, ⟨#[97, 98, 99]⟩, ⟨#[98, 0]⟩, ⟨#[99]⟩, ⟨#[255]⟩, ⟨#[97, 255]⟩, ⟨#[97, 255, 255]⟩, ⟨#[122, 122]⟩]
theorem l1Pick_any {w : World} {g c k : Nat} {A : Option Addr} {bs : List UInt8} (ks : List ByteArray) (hk0 : 0 < ks.length) (hk1 : ks.length ≤ 256) (hL : Box w k 9 (ks.map .string)) (hk : k ≠ g) (hr : Rd w A (byteVs bs)) (hn : bs.length ≤ maxLen) (hB : Cur w g A bs.length c) (hA : bs ≠ [] → A.map (·.block) ≠ some g) :
    Calls Try.prog 78 #[.pointer (some ⟨g, 0, none⟩), .slice (some ⟨k, 0, none⟩) ks.length ks.length] w fun e w' => (∃ s, e = .returned (.string s) ∧ s ∈ ks) ∧ Cur w' g A bs.length c ∧ w.grownBy w' (some g) := by
  go_enter Try.func78, Try.ntmps78
  go_wp2_with fail
  refine (l1Below_any _ (by omega) (by omega) hr hn hB hA).mono ?_
  rintro e w1 ⟨⟨x, rfl, x0, x1⟩, hB1, hG1⟩
  obtain ⟨j, rfl⟩ : ∃ j : Nat, x = j := ⟨x.toNat, by omega⟩
  have hj : j < ks.length := by omega
  have hc : w1.cell? ⟨k, j, none⟩ = some (.string ks[j]) := by
    refine hG1.cell (a := ⟨k, j, none⟩) ?_ (by simp; exact hk)
    rw [hL.cell, List.getElem?_map, List.getElem?_eq_getElem hj]; rfl
  have hm : ks[j] ∈ ks := List.getElem_mem hj
  generalize ks[j] = s at hc hm
  go_wp2
  go_ret
  exact ⟨⟨_, rfl, hm⟩, hB1, hG1⟩
theorem l26Key_any {w : World} {g c : Nat} {A : Option Addr} {bs : List UInt8} (hr : Rd w A (byteVs bs)) (hn : bs.length ≤ maxLen) (hB : Cur w g A bs.length c) (hA : bs ≠ [] → A.map (·.block) ≠ some g) :
    Calls Try.prog 65 #[.pointer (some ⟨g, 0, none⟩)] w fun e w' => (∃ s, e = .returned (.string s) ∧ s ∈ keys11) ∧ Cur w' g A bs.length c ∧ w.grownBy w' (some g) := by
  go_enter Try.func65, Try.ntmps65
  go_wp2_with fail
  have hL : Box (w.alloc (.cells (keys11.map Value.string).toArray 9)) w.heap.size 9 (keys11.map Value.string) := Box.new w _ _
  have hb : Below w.heap.size w (w.alloc (.cells (keys11.map Value.string).toArray 9)) := (by repeat' first | (with_reducible assumption) | (with_reducible exact Below.refl _ _) | (with_reducible refine Below.drew ?_) | (with_reducible refine below_drewN ?_ _) | (with_reducible refine Below.alloc ?_ ?_ _) | (with_reducible refine Below.setCell ?_ ?_ _) | (simp; done) | (simp; omega) | omega)
  have hg := hB.lt
  have hG : w.grownBy (w.alloc (.cells (keys11.map Value.string).toArray 9)) (some g) := World.grownBy_alloc _ _ _
  refine (l1Pick_any (w := w.alloc (.cells (keys11.map Value.string).toArray 9)) (k := w.heap.size) keys11 (by decide) (by decide) hL (by omega) (hr.ext hb) hn (hB.ext hb) hA).mono ?_
  rintro e w1 ⟨⟨s, rfl, hs⟩, hB1, hG1⟩
  go_wp2
  go_ret
  exact ⟨⟨s, rfl, hs⟩, hB1, grownBy_trans hG hG1⟩
theorem l1New_any {w : World} {c : Nat} {A : Option Addr} {bs : List UInt8} (hr : Rd w A (byteVs bs)) (hn : bs.length ≤ maxLen) :
    Calls Try.prog 64 #[.slice A bs.length c] w fun e w' => e = .returned (.pointer (some ⟨w.heap.size, 0, none⟩)) ∧ Cur w' w.heap.size A bs.length c ∧ Below w.heap.size w w' := by
  have hn2 := hn
  unfold maxLen at hn2
  go_enter Try.func64, Try.ntmps64
  go_wp2
  go_loop [3, 4] (fun h i => ∃ k : Nat, k ≤ bs.length ∧ i = .int .i64 k ∧ ∃ z : Int, h = .int .i64 z) (fun _ i => bs.length - (intOf i).toNat)
  case atStart => exact ⟨0, Nat.zero_le _, rfl, _, rfl⟩
  case round =>
    obtain ⟨k, hk, rfl, z, rfl⟩ := hrel
    by_cases hlt : k < bs.length
    · by_cases hl2 : k < 4000
      · obtain ⟨ad, rfl, c0⟩ := bytes_at hr hlt
        generalize ((bs[k].toNat : Nat) : Int) = y at c0
        have q1 : (k : Int) < 4000 := by omega
        have q2 : (k : Int) < (bs.length : Int) := by omega
        go_wp2
        exact ⟨⟨k + 1, by omega, by go_num, _, rfl⟩, by simp [intOf]; omega⟩
      · have q1 : ¬ (k : Int) < 4000 := by omega
        have q2 : (k : Int) < (bs.length : Int) := by omega
        go_wp2
        go_ret
        exact ⟨rfl, ⟨0, z, Nat.zero_le _, Box.new w _ _⟩, (by repeat' first | (with_reducible assumption) | (with_reducible exact Below.refl _ _) | (with_reducible refine Below.drew ?_) | (with_reducible refine below_drewN ?_ _) | (with_reducible refine Below.alloc ?_ ?_ _) | (with_reducible refine Below.setCell ?_ ?_ _) | (simp; done) | (simp; omega) | omega)⟩
    · obtain rfl : k = bs.length := by omega
      go_wp2
      go_ret
      exact ⟨rfl, ⟨0, z, Nat.zero_le _, Box.new w _ _⟩, (by repeat' first | (with_reducible assumption) | (with_reducible exact Below.refl _ _) | (with_reducible refine Below.drew ?_) | (with_reducible refine below_drewN ?_ _) | (with_reducible refine Below.alloc ?_ ?_ _) | (with_reducible refine Below.setCell ?_ ?_ _) | (simp; done) | (simp; omega) | omega)⟩
theorem DrawClip_any {w : World} {c : Nat} {A : Option Addr} {bs : List UInt8} (hr : Rd w A (byteVs bs)) (hn : bs.length ≤ maxLen) :
    Calls Try.prog 39 #[.slice A bs.length c] w fun e w' => (∃ s1 s2 s3 s4, e = .returned (.tuple #[.string s1, .string s2, .string s3, .string s4]) ∧ s1 ∈ keys11 ∧ s2 ∈ keys11 ∧ s3 ∈ keys11 ∧ s4 ∈ keys11) ∧ Below w.heap.size w w' := by
  have hA : bs ≠ [] → A.map (·.block) ≠ some w.heap.size := fun hne he => by
    cases A with
    | none => cases he
    | some ad => have := hr.lt (by intro h; apply hne; simpa [byteVs] using h) ad rfl; simp at he; omega
  go_enter Try.func39, Try.ntmps39
  go_wp2_with fail
  refine (l1New_any hr hn).mono ?_
  rintro e w0 ⟨rfl, hB, hb⟩
  have hz := hb.size
  go_wp2_with fail
  refine (l26Key_any (hr.ext hb) hn hB hA).mono ?_
  rintro e w1 ⟨⟨s1, rfl, m1⟩, hB1, hG1⟩
  replace hb := below_own hb hG1 (Nat.le_refl _) hz
  replace hz := hb.size
  go_wp2_with fail
  refine (l26Key_any (hr.ext hb) hn hB1 hA).mono ?_
  rintro e w2 ⟨⟨s2, rfl, m2⟩, hB2, hG2⟩
  replace hb := below_own hb hG2 (Nat.le_refl _) hz
  replace hz := hb.size
  go_wp2_with fail
  refine (l26Key_any (hr.ext hb) hn hB2 hA).mono ?_
  rintro e w3 ⟨⟨s3, rfl, m3⟩, hB3, hG3⟩
  replace hb := below_own hb hG3 (Nat.le_refl _) hz
  replace hz := hb.size
  go_wp2_with fail
  refine (l26Key_any (hr.ext hb) hn hB3 hA).mono ?_
  rintro e w4 ⟨⟨s4, rfl, m4⟩, hB4, hG4⟩
  replace hb := below_own hb hG4 (Nat.le_refl _) hz
  go_wp2
  refine bodyPost_ret (v := .tuple #[.string s1, .string s2, .string s3, .string s4]) (by simp [results, Try.results39, go_sem]) rfl ?_
  exact ⟨⟨s1, s2, s3, s4, rfl, m1, m2, m3, m4⟩, hb⟩
end Go.Proofs.Ytjmkkncjbnohoaa
