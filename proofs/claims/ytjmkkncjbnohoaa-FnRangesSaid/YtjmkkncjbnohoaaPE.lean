/- Contracts of both PrefixEnd. -/
import Derived.Test.YtjmkkncjbnohoaaKit
namespace Go.Proofs.Ytjmkkncjbnohoaa
open Go.RowKit
set_option maxHeartbeats 400000
set_option linter.unusedVariables false
set_option linter.unusedSimpArgs false

/-- How much is left of the first k bytes when the bytes 255 at their end are taken away. -/
def peLen (p : ByteArray) : Nat → Nat
  | 0 => 0
  | k + 1 => if p[k]! = 255 then peLen p k else k + 1
def pe (p : ByteArray) : ByteArray := if peLen p p.size = 0 then ⟨#[]⟩ else p.extract 0 (peLen p p.size - 1) ++ byteStr (((p[peLen p p.size - 1]!.toNat : Int) + 1) % 256)
theorem pe_zero {p : ByteArray} (h : peLen p 0 = peLen p p.size) : (⟨#[]⟩ : ByteArray) = pe p := by unfold pe; rw [← h, peLen, if_pos rfl]
theorem pe_yes {p : ByteArray} {k : Nat} {h : k < p.size} (hb : ((p[k].toNat : Int) == 255) = true) : p[k]! = 255 := by
  rw [getElem!_pos p k h]
  have : p[k].toNat = 255 := by have := eq_of_beq hb; omega
  exact UInt8.toNat_inj.1 this
theorem pe_no {p : ByteArray} {k : Nat} {h : k < p.size} (hb : ((p[k].toNat : Int) == 255) = false) : ¬ p[k]! = 255 := by
  rw [getElem!_pos p k h]
  intro e
  rw [e] at hb
  simp at hb
theorem pe_succ {p : ByteArray} {k : Nat} (hk : k + 1 ≤ p.size) (hb : ((p[k].toNat : Int) == 255) = false) (h : peLen p (k + 1) = peLen p p.size) :
    pe p = p.extract 0 k ++ byteStr (((p[k].toNat : Int) + 1) % 256) := by
  have e : peLen p p.size = k + 1 := by rw [← h, peLen, if_neg (pe_no hb)]
  unfold pe
  rw [e, if_neg (by omega), Nat.add_sub_cancel, getElem!_pos p k (by omega)]
theorem xs_PrefixEnd_any (p : ByteArray) (hp : p.size ≤ 1048576) (w : World) :
    Calls Try.prog 17 #[.string p] w fun e w' => e = .returned (.string (pe p)) ∧ Below w.heap.size w w' := by
  go_enter Try.func17, Try.ntmps17
  go_wp2
  go_loop [3] (fun n => ∃ k : Nat, k ≤ p.size ∧ peLen p k = peLen p p.size ∧ n = .int .i64 k) (fun n => (intOf n).toNat)
  case atStart => exact ⟨p.size, Nat.le_refl _, rfl, rfl⟩
  case round =>
    obtain ⟨k, hk, hpe, rfl⟩ := hrel
    have H := Lib.hid hpe; clear hpe
    rcases k with _ | k
    · go_wp2
      go_ret
      exact ⟨ret_str (pe_zero H.out), Below.refl _ _⟩
    · go_wp2
      · have hb : ((p[k].toNat : Int) == 255) = true := by assumption
        go_round
        case rel => exact ⟨k, by omega, by rw [← H.out, peLen, if_pos (pe_yes hb)], rfl⟩
        case measure => simp [intOf]
      · have hb : ((p[k].toNat : Int) == 255) = false := by assumption
        have hx := extract_size_le p 0 k
        go_region
        go_wp2
        go_ret
        exact ⟨ret_str (pe_succ hk hb H.out).symm, ((Below.refl _ _).alloc (Nat.le_refl _) _).drew⟩
theorem xi_PrefixEnd_any (p : ByteArray) (hp : p.size ≤ 1048576) (w : World) :
    Calls Try.prog 18 #[.string p] w fun e w' => e = .returned (.string (pe p)) ∧ Below w.heap.size w w' := by
  go_enter Try.func18, Try.ntmps18
  go_wp2
  go_loop [3] (fun n => ∃ k : Nat, k ≤ p.size ∧ peLen p k = peLen p p.size ∧ n = .int .i64 k) (fun n => (intOf n).toNat)
  case atStart => exact ⟨p.size, Nat.le_refl _, rfl, rfl⟩
  case round =>
    obtain ⟨k, hk, hpe, rfl⟩ := hrel
    have H := Lib.hid hpe; clear hpe
    rcases k with _ | k
    · go_wp2
      go_ret
      exact ⟨ret_str (pe_zero H.out), Below.refl _ _⟩
    · go_wp2
      · have hb : ((p[k].toNat : Int) == 255) = true := by assumption
        go_round
        case rel => exact ⟨k, by omega, by rw [← H.out, peLen, if_pos (pe_yes hb)], rfl⟩
        case measure => simp [intOf]
      · have hb : ((p[k].toNat : Int) == 255) = false := by assumption
        have hx := extract_size_le p 0 k
        go_region
        go_wp2
        go_ret
        exact ⟨ret_str (pe_succ hk hb H.out).symm, ((Below.refl _ _).alloc (Nat.le_refl _) _).drew⟩
end Go.Proofs.Ytjmkkncjbnohoaa
