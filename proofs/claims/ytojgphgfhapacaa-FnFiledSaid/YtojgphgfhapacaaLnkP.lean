/- LinkSum in plain Lean. -/
import Derived.Test.YtojgphgfhapacaaChaP
import Derived.Test.YtojgphgfhapacaaShs
namespace Go.Proofs.Ytojgphgfhapacaa
set_option linter.unusedVariables false
def zrs (n : Nat) : ByteArray := ⟨(List.replicate n 0).toArray⟩
theorem zrs_size (n : Nat) : (zrs n).size = n := by show (List.replicate n (0 : UInt8)).toArray.size = n; simp
def f7 (n : Nat) : ByteArray := ⟨(fixL 7 n).toArray⟩
theorem f7_size (n : Nat) : (f7 n).size = 7 := by show (fixL 7 n).toArray.size = 7; simp [fixL_len]
def z1 : ByteArray := ⟨#[0]⟩
def padF (n : Nat) : ByteArray := z1 ++ f7 n
theorem padF_size (n : Nat) : (padF n).size = 8 := by unfold padF; rw [ByteArray.size_append, f7_size]; rfl
def nonF (k n : Nat) : ByteArray := (⟨[UInt8.ofNat k, 0, 0, 0, 0].toArray⟩ : ByteArray) ++ f7 n
theorem nonF_size (k n : Nat) : (nonF k n).size = 12 := by unfold nonF; rw [ByteArray.size_append, f7_size]; rfl
def lstF (last : ByteArray) : ByteArray := if sEq last ⟨#[]⟩ = true then zrs 8 else last
def lnkOk (last : ByteArray) (who : Int) (text : ByteArray) : Prop := (lstF last).size = 8 ∧ (0 ≤ who ∧ who ≤ 99) ∧ text.size ≤ 60
def lnkKey (last : ByteArray) (who : Int) (text : ByteArray) : ByteArray := lstF last ++ padF who.toNat ++ padF (crcF text) ++ padF text.size
instance (last : ByteArray) (who : Int) (text : ByteArray) : Decidable (lnkOk last who text) := by unfold lnkOk; infer_instance
def lnkF (last : ByteArray) (who : Int) (text : ByteArray) : ByteArray := if lnkOk last who text then (chaF (lnkKey last who text) 0 (nonF 6 0)).extract 0 8 else ⟨#[]⟩
theorem lnkKey_size {last : ByteArray} {who : Int} {text : ByteArray} (h : lnkOk last who text) : (lnkKey last who text).size = 32 := by
  unfold lnkKey
  simp only [ByteArray.size_append, padF_size, h.1]
theorem chaF_size {key nonce : ByteArray} {c : Int} (h : isChaF key c nonce = true) : (chaF key c nonce).size = 64 := by
  unfold chaF; rw [if_pos h]
  show (blockL key c.toNat nonce).toArray.size = 64
  simp [blockL_len]
theorem lnk_cha {last : ByteArray} {who : Int} {text : ByteArray} (h : lnkOk last who text) : (chaF (lnkKey last who text) 0 (nonF 6 0)).size = 64 :=
  chaF_size (isCha_iff.2 ⟨lnkKey_size h, by omega, nonF_size _ _⟩)
theorem lnkF_size {last : ByteArray} {who : Int} {text : ByteArray} (h : lnkOk last who text) : (lnkF last who text).size = 8 := by
  unfold lnkF; rw [if_pos h, ByteArray.size_extract, lnk_cha h]; rfl
theorem lnkF_le (last : ByteArray) (who : Int) (text : ByteArray) : (lnkF last who text).size ≤ 8 := by
  by_cases h : lnkOk last who text
  · rw [lnkF_size h]; omega
  · unfold lnkF; rw [if_neg h]; decide
end Go.Proofs.Ytojgphgfhapacaa
