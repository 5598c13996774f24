/- The slot of a text, in plain Lean: both ways of reading it agree. -/
import Derived.Test.YtfcnimglcialbaaRds
namespace Go.Proofs.Ytfcnimglcialbaa
set_option linter.unusedVariables false
def one0 (s : ByteArray) : Option (Nat × ByteArray) := (tkV s 4).bind fun p => (tkW s p.2).map fun q => (p.1, q.1)
def one (s : ByteArray) : Option (Nat × ByteArray) := (one0 s).bind fun p => if showS p.1 p.2 = s then some p else none
abbrev tl4 (s : ByteArray) : ByteArray := s.extract 4 s.size
def unF (s : ByteArray) : ByteArray × Bool := if 4 ≤ s.size ∧ fS (crcF (tl4 s)) = s.extract 0 4 then (tl4 s, true) else (⟨#[]⟩, false)
theorem tl4_size (s : ByteArray) : (tl4 s).size = s.size - 4 := by rw [ByteArray.size_extract]; omega
theorem tl4_bl (s : ByteArray) : bl (tl4 s) = (bl s).drop 4 := by
  rw [bl_extract, List.take_of_length_le (by rw [bl_len]; omega)]
theorem tl4_N (s : ByteArray) (k : Nat) : tkN (tl4 s) k = (tkN s (4 + k)).map fun p => (p.1, p.2 - 4) := by
  unfold tkN
  rw [tl4_bl, List.drop_drop]
  cases rv ((bl s).drop (4 + k)) with
  | none => rfl
  | some p => simp; omega
theorem tl4_S (s : ByteArray) (k : Nat) (h4 : 4 ≤ s.size) : tkS (tl4 s) k = (tkS s (4 + k)).map fun p => (p.1, p.2 - 4) := by
  unfold tkS
  rw [tl4_N]
  cases hn : tkN s (4 + k) with
  | none => rfl
  | some p =>
    obtain ⟨n, e⟩ := p
    have := (tkN_some hn).1
    simp only [Option.map_some, Option.bind_some, tl4_size]
    by_cases hle : e + n ≤ s.size
    · rw [if_pos (by omega), if_pos hle]
      simp only [Option.map_some, Option.some.injEq, Prod.mk.injEq]
      refine ⟨?_, by omega⟩
      apply bl_ext
      rw [bl_extract (tl4 s) (e - 4) (e - 4 + n), tl4_bl, bl_extract s e (e + n), List.drop_take, List.drop_take, List.drop_drop, show 4 + (e - 4) = e by omega]
      congr 1; omega
    · rw [if_neg (by omega), if_neg hle]; rfl
theorem showS_eq {n : Nat} {r s : ByteArray} (h : showS n r = s) (h4 : 0 < s.size) : s = sumS (vS n ++ pieceS r) := by
  unfold showS at h
  split at h
  · rw [← h, Int.toNat_natCast]
  · subst h; exact absurd h4 (by decide)
theorem sumS_parts (t : ByteArray) : (sumS t).extract 0 4 = fS (crcF t) ∧ tl4 (sumS t) = t ∧ 4 ≤ (sumS t).size := by
  have hz := fS_size (crcF t)
  have hl : (bl (fS (crcF t))).length = 4 := by rw [bl_len, hz]
  refine ⟨?_, ?_, ?_⟩
  · apply bl_ext
    rw [bl_extract, sumS, bl_app, List.drop_zero, List.take_left' hl]
  · apply bl_ext
    rw [tl4_bl, sumS, bl_app, List.drop_left' hl]
  · rw [sumS, ByteArray.size_append, hz]; omega
/-- The two readers. -/
abbrev rN (s : ByteArray) := rdN (tl4 s) 0 false
abbrev rS (s : ByteArray) := rdS (tl4 s) (rN s).2.1 (rN s).2.2
theorem rdD_true {s : ByteArray} {k : Nat} {b : Bool} : rdD s k b = true ↔ b = false ∧ k = s.size := by
  unfold rdD
  simp
  intro _
  omega
theorem one_iff (s : ByteArray) (n : Nat) (r : ByteArray) : one s = some (n, r) ↔ (4 ≤ s.size ∧ fS (crcF (tl4 s)) = s.extract 0 4) ∧ rdD (tl4 s) (rS s).2.1 (rS s).2.2 = true ∧ showS (rN s).1 (rS s).1 = s ∧ (rN s).1 = n ∧ (rS s).1 = r := by
  constructor
  · intro h
    unfold one one0 at h
    cases hv : tkV s 4 with
    | none => rw [hv] at h; cases h
    | some p =>
      obtain ⟨n', q⟩ := p
      have hq := tkV_le hv
      rw [hv] at h
      simp only [Option.bind_some] at h
      unfold tkV at hv
      split at hv
      case isFalse => cases hv
      rename_i h4
      have h4' : 4 ≤ s.size := by omega
      cases hw : tkW s q with
      | none => rw [hw] at h; cases h
      | some p2 =>
        obtain ⟨r', e⟩ := p2
        rw [hw] at h
        simp only [Option.map_some, Option.bind_some] at h
        split at h
        case isFalse => cases h
        rename_i hs
        cases h
        unfold tkW at hw
        rw [if_pos (by omega), Int.toNat_natCast] at hw
        have hN : tkN s 4 = some (n, q) := hv
        have es := showS_eq hs (by omega)
        have hp := sumS_parts (vS n ++ pieceS r)
        rw [← es] at hp
        obtain ⟨p1, p2, p3⟩ := hp
        obtain ⟨a1, a2, a3, a4, a5⟩ := tkN_some hN
        obtain ⟨b1, b2, b3⟩ := tkS_some hw
        have eN : rN s = (n, q - 4, false) := by
          unfold rN rdN
          rw [if_neg (by simp), tl4_N, Nat.add_zero, hN]; rfl
        have eS : rS s = (r, e - 4, false) := by
          unfold rS
          rw [eN]
          refine (rdS_tk (tl4 s) (q - 4)).2 r (e - 4) ?_
          rw [tl4_S s (q - 4) h4', show 4 + (q - 4) = q by omega, hw]; rfl
        have hend : e = s.size := by
          have e1 : (bl s).drop 4 = varL n ++ bl (pieceS r) := by
            rw [← tl4_bl, p2, bl_app]; rfl
          rw [a5, b3, List.append_cancel_left_eq] at e1
          have := congrArg List.length e1
          simp only [List.length_append, List.length_drop, bl_len] at this
          omega
        rw [eN, eS]
        refine ⟨⟨h4', by rw [p2]; exact p1.symm⟩, rdD_true.2 ⟨rfl, by simp only [tl4_size]; omega⟩, hs, rfl, rfl⟩
  · rintro ⟨⟨h4, hc⟩, hd, hs, rfl, rfl⟩
    obtain ⟨hb, hk⟩ := rdD_true.1 hd
    have hNb : (rN s).2.2 = false := by
      cases h : (rN s).2.2 with
      | false => rfl
      | true => rw [show rS s = rdS (tl4 s) (rN s).2.1 (rN s).2.2 from rfl, h, rdS_bad] at hb; cases hb
    unfold rN rdN at hNb
    rw [if_neg (by simp)] at hNb
    cases hN : tkN s 4 with
    | none => rw [tl4_N, Nat.add_zero, hN] at hNb; cases hNb
    | some p =>
      obtain ⟨n, q⟩ := p
      have eN : rN s = (n, q - 4, false) := by
        unfold rN rdN
        rw [if_neg (by simp), tl4_N, Nat.add_zero, hN]; rfl
      obtain ⟨a1, a2, a3, a4, a5⟩ := tkN_some hN
      have hb2 : (rdS (tl4 s) (q - 4) false).2.2 = false := by
        have := hb
        rw [show rS s = rdS (tl4 s) (rN s).2.1 (rN s).2.2 from rfl, eN] at this
        exact this
      rw [(rdS_tk _ _).1, tl4_S s (q - 4) h4, show 4 + (q - 4) = q by omega] at hb2
      cases hS : tkS s q with
      | none => rw [hS] at hb2; cases hb2
      | some p2 =>
        obtain ⟨r, e⟩ := p2
        have eS : rS s = (r, e - 4, false) := by
          unfold rS
          rw [eN]
          refine (rdS_tk (tl4 s) (q - 4)).2 r (e - 4) ?_
          rw [tl4_S s (q - 4) h4, show 4 + (q - 4) = q by omega, hS]; rfl
        rw [eN, eS] at hs ⊢
        unfold one one0 tkV
        rw [if_pos (by omega)]
        have : tkN s (Int.toNat 4) = some (n, q) := hN
        rw [this]
        simp only [Option.bind_some]
        unfold tkW
        rw [if_pos (by omega), Int.toNat_natCast, hS]
        simp only [Option.map_some, Option.bind_some]
        rw [if_pos hs]
end Go.Proofs.Ytfcnimglcialbaa
