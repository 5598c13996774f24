/- Slots written and read, in plain Lean (for FnSlots). -/
import Derived.Test.YtfcnimglcialbaaSld
namespace Go.Proofs.Ytfcnimglcialbaa
set_option linter.unusedVariables false
theorem u8_n (n : Nat) (h : n < 256) : (UInt8.ofNat n).toNat = n := by rw [UInt8.toNat_ofNat']; exact Nat.mod_eq_of_lt (by omega)
/-- A number that is written is read again. -/
theorem rvT_var : ∀ (k f n : Nat) (t : Bool) (rest : List UInt8), n < 128 ^ k → k ≤ f + 1 → 1 ≤ k → (t = true → 0 < n) → rvT t k (varF f n ++ rest) = some (n, (varF f n).length)
  | 0, f, n, t, rest, h, h1, h2, h3 => by omega
  | k + 1, f, n, t, rest, h, h1, h2, h3 => by
    by_cases hn : n < 128
    · have e : varF f n = [UInt8.ofNat n] := by cases f <;> simp [varF, hn]
      rw [e]
      simp only [List.cons_append, List.nil_append, List.length_cons, List.length_nil, rvT, u8_n n (by omega)]
      rw [if_neg (by omega), if_neg (fun hh => by have := h3 hh.1; omega)]
    · have hk : 1 ≤ k := by
        rcases k with _ | k
        · simp at h; omega
        · omega
      obtain ⟨f', rfl⟩ : ∃ f', f = f' + 1 := ⟨f - 1, by omega⟩
      have e : varF (f' + 1) n = UInt8.ofNat (128 + n % 128) :: varF f' (n / 128) := by rw [varF, if_neg hn]
      have ih := rvT_var k f' (n / 128) true rest (by rw [Nat.pow_succ] at h; exact Nat.div_lt_of_lt_mul (by omega)) (by omega) hk (fun _ => by omega)
      rw [e]
      simp only [List.cons_append, List.length_cons, rvT, u8_n (128 + n % 128) (by omega)]
      rw [if_pos (by omega), ih]
      simp only [Option.map_some, Option.some.injEq, Prod.mk.injEq, and_true]
      omega
theorem rv_var (n : Nat) (rest : List UInt8) (h : n < 562949953421312) : rv (varL n ++ rest) = some (n, (varL n).length) := by
  have e : (128 : Nat) ^ 7 = 562949953421312 := by decide
  exact rvT_var 7 9 n false rest (by omega) (by omega) (by omega) (fun h => by cases h)
theorem varL_pos (n : Nat) : 0 < (varL n).length := by
  show 0 < (varF (8 + 1) n).length
  rw [varF]; split <;> simp
theorem tkN_var {s : ByteArray} {k n : Nat} {rest : List UInt8} (h : (bl s).drop k = varL n ++ rest) (hn : n < 562949953421312) : tkN s k = some (n, k + (varL n).length) := by
  unfold tkN
  rw [h, rv_var n rest hn]; rfl
theorem tkS_piece {s r : ByteArray} {k : Nat} {rest : List UInt8} (h : (bl s).drop k = bl (pieceS r) ++ rest) (hr : r.size < 562949953421312) : tkS s k = some (r, k + (bl (pieceS r)).length) := by
  have e1 : bl (pieceS r) = varL r.size ++ bl r := by unfold pieceS; rw [bl_app]; rfl
  rw [e1, List.append_assoc] at h
  unfold tkS
  rw [tkN_var h hr]
  simp only [Option.bind_some]
  have h2 : (bl s).drop (k + (varL r.size).length) = bl r ++ rest := by
    rw [← List.drop_drop, h, List.drop_left]
  have h3 := congrArg List.length h2
  rw [List.length_drop, List.length_append, bl_len, bl_len] at h3
  have h4 : k + (varL r.size).length + r.size ≤ s.size := by
    rcases Nat.eq_zero_or_pos r.size with h0 | h0
    · have h5 := congrArg List.length h
      rw [List.length_drop, List.length_append, List.length_append, bl_len, bl_len] at h5
      have : 0 < (varL r.size).length := varL_pos _
      omega
    · omega
  rw [if_pos h4, e1, List.length_append, bl_len]
  simp only [Option.some.injEq, Prod.mk.injEq]
  refine ⟨?_, by omega⟩
  apply bl_ext
  rw [bl_extract, List.drop_take, h2, show k + (varL r.size).length + r.size - (k + (varL r.size).length) = r.size by omega]
  rw [List.take_append_of_le_length (by rw [bl_len]; omega), List.take_of_length_le (by rw [bl_len]; omega)]
theorem one_show {n : Nat} {r : ByteArray} (hn : 1 ≤ n ∧ n ≤ 1000000) (hr : r.size ≤ 40) : one (showS n r) = some (n, r) := by
  have es : showS n r = sumS (vS n ++ pieceS r) := by
    unfold showS
    rw [if_pos ⟨by unfold inR; simp; omega, hr⟩, Int.toNat_natCast]
  obtain ⟨p1, p2, p3⟩ := sumS_parts (vS n ++ pieceS r)
  rw [← es] at p1 p2 p3
  have e4 : (bl (showS n r)).drop 4 = varL n ++ bl (pieceS r) := by rw [← tl4_bl, p2, bl_app]; rfl
  have hN := tkN_var e4 (by omega)
  have e5 : (bl (showS n r)).drop (4 + (varL n).length) = bl (pieceS r) ++ [] := by rw [← List.drop_drop, e4, List.drop_left, List.append_nil]
  have hS := tkS_piece e5 (by omega)
  have hle := tkS_some hS
  unfold one one0 tkV
  rw [if_pos (by omega), show ((4 : Int)).toNat = 4 from rfl, hN]
  simp only [Option.bind_some]
  unfold tkW
  rw [if_pos (by omega), Int.toNat_natCast, hS]
  simp only [Option.map_some, Option.bind_some, if_true]
theorem fSl_show {n : Int} {r : ByteArray} (h : ¬ showS n r = ⟨#[]⟩) (hn : 1 ≤ n) : fSl (showS n r) = ⟨n, r⟩ := by
  have hc : n ≤ 1000000 ∧ r.size ≤ 40 := by
    unfold showS at h
    split at h
    · rename_i hc
      have := hc.1
      unfold inR at this
      simp at this
      exact ⟨by omega, hc.2⟩
    · exact absurd rfl h
  obtain ⟨m, rfl⟩ : ∃ m : Nat, n = m := ⟨n.toNat, by omega⟩
  unfold fSl
  rw [one_show (by omega) hc.2]
theorem showS_size (q : Int) (r : ByteArray) : (showS q r).size ≤ 100 := by
  unfold showS
  split
  · rename_i h
    have h1 := vS_size q.toNat
    have h2 := pieceS_size r
    have h3 := fS_size (crcF (vS q.toNat ++ pieceS r))
    unfold sumS
    rw [ByteArray.size_append, ByteArray.size_append, h3]; omega
  · exact Nat.zero_le _
def torn : ByteArray := ⟨#[116, 111, 114, 110]⟩
theorem fSl_torn : fSl torn = ⟨0, ⟨#[]⟩⟩ := by
  have h : one torn = none := by
    have h0 : tkV torn 4 = none := by decide +kernel
    unfold one one0
    rw [h0]; rfl
  unfold fSl; rw [h]
/-- What putting a slot leads to. -/
inductive SlotF (a b r : ByteArray) : Prop
  | no (h : fSlotPut a b r = (a, b, false))
  | back (t : ByteArray) (n : Int) (hz : t.size ≤ 100) (hb : 0 ≤ n ∧ n ≤ 1000000) (h : fSlotPut a b r = (a, t, true)) (ho : fSlotRead a b = (⟨n, (fSl a).root⟩, true)) (hn : fSlotRead a t = (⟨n + 1, r⟩, true)) (ht : fSlotRead a torn = (⟨n, (fSl a).root⟩, true))
  | front (t : ByteArray) (n : Int) (hz : t.size ≤ 100) (hb : 0 ≤ n ∧ n ≤ 1000000) (h : fSlotPut a b r = (t, b, true)) (hne : t ≠ a) (ho : fSlotRead a b = (⟨n, (fSl b).root⟩, true)) (hn : fSlotRead t b = (⟨n + 1, r⟩, true)) (ht : fSlotRead torn b = (⟨n, (fSl b).root⟩, true))
  | first (t : ByteArray) (n : Int) (x : DSlot) (z : DSlot) (hz : t.size ≤ 100) (hb : 0 ≤ x.seq ∧ x.seq ≤ 1000000) (h : fSlotPut a b r = (t, b, true)) (hne : t ≠ a) (ho : fSlotRead a b = (x, false)) (hn : fSlotRead t b = (⟨n, r⟩, true)) (ht : fSlotRead torn b = (z, false))
theorem slot_f (a b r : ByteArray) : SlotF a b r := by
  have pa := fSl_seq a
  have pb := fSl_seq b
  have hp := put_s a b r _ rfl
  by_cases h : (fSl a).seq < (fSl b).seq
  · rw [if_pos h] at hp
    by_cases hs : showS ((fSl b).seq + 1) r = ⟨#[]⟩
    · rw [if_pos hs] at hp; exact .no hp
    · have hf := fSl_show hs (by omega)
      rw [if_neg hs, if_neg (by omega)] at hp
      refine .front _ (fSl b).seq (showS_size _ _) ⟨pb.1, pb.2.1⟩ hp (fun e => ?_) ?_ ?_ ?_
      · rw [e] at hf; rw [hf] at h; simp only at h; omega
      · rw [sel_s, if_pos h]
      · rw [sel_s, hf, if_neg (by simp only; omega)]; simp only [Prod.mk.injEq, true_and, decide_eq_true_eq]; omega
      · rw [sel_s, fSl_torn, if_pos (by simp only; omega)]
  · rw [if_neg h] at hp
    by_cases hs : showS ((fSl a).seq + 1) r = ⟨#[]⟩
    · rw [if_pos hs] at hp; exact .no hp
    · have hf := fSl_show hs (by omega)
      rw [if_neg hs] at hp
      by_cases h2 : 0 < (fSl a).seq
      · rw [if_pos ⟨h2, by omega⟩] at hp
        refine .back _ (fSl a).seq (showS_size _ _) ⟨pa.1, pa.2.1⟩ hp ?_ ?_ ?_
        · rw [sel_s, if_neg h]; simp only [Prod.mk.injEq, true_and, decide_eq_true_eq]; exact h2
        · rw [sel_s, hf, if_pos (by simp only; omega)]
        · rw [sel_s, fSl_torn, if_neg (by simp only; omega)]; simp only [Prod.mk.injEq, true_and, decide_eq_true_eq]; exact h2
      · rw [if_neg (by omega)] at hp
        refine .first _ ((fSl a).seq + 1) (fSl a) (fSl torn) (showS_size _ _) ⟨pa.1, pa.2.1⟩ hp (fun e => ?_) ?_ ?_ ?_
        · rw [e] at hf
          have := congrArg DSlot.seq hf
          simp only at this; omega
        · rw [sel_s, if_neg h]; simp only [Prod.mk.injEq, true_and, decide_eq_false_iff_not]; exact h2
        · rw [sel_s, hf, if_neg (by simp only; omega)]; simp only [Prod.mk.injEq, true_and, decide_eq_true_eq]; omega
        · rw [sel_s, if_neg (by rw [fSl_torn]; simp only; omega), fSl_torn]; simp
end Go.Proofs.Ytfcnimglcialbaa
