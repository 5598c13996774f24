/- ChaCha's block in plain Lean: words are naturals below 2^32. -/
import Derived.Test.YtojgphgfhapacaaRv
import Derived.Test.YtojgphgfhapacaaEng11
namespace Go.Proofs.Ytojgphgfhapacaa
set_option linter.unusedVariables false
def wd (l : List Nat) (i : Nat) : Nat := l.getD i 0
def rotN (x n : Nat) : Nat := x * 2 ^ n % 4294967296 ||| x / 2 ^ (32 - n)
theorem rotN_lt {x n : Nat} (hx : x < 4294967296) : rotN x n < 4294967296 := by
  unfold rotN
  exact Nat.or_lt_two_pow (n := 32) (Nat.mod_lt _ (by decide)) (Nat.lt_of_le_of_lt (Nat.div_le_self _ _) hx)
theorem rotN_mask {x n : Nat} (hx : x < 4294967296) : (x * 2 ^ n ||| x / 2 ^ (32 - n)) % 4294967296 = rotN x n := by
  have h := @Nat.or_mod_two_pow (x * 2 ^ n) (x / 2 ^ (32 - n)) 32
  have h2 : x / 2 ^ (32 - n) < 2 ^ 32 := Nat.lt_of_le_of_lt (Nat.div_le_self _ _) hx
  rw [Nat.mod_eq_of_lt h2] at h
  exact h
def adN (l : List Nat) (a b : Nat) : Nat := (wd l a + wd l b) % 4294967296
def sA (l : List Nat) (a b : Nat) : List Nat := l.set a ((wd l a + wd l b) % 4294967296)
def sR (l : List Nat) (d a n : Nat) : List Nat := l.set d (rotN (wd l d ^^^ wd l a) n)
def qr (l : List Nat) (a b c d : Nat) : List Nat := sR (sA (sR (sA (sR (sA (sR (sA l a b) d a 16) c d) b c 12) a b) d a 8) c d) b c 7
/-- Sixteen words below 2^32. -/
structure W16 (l : List Nat) : Prop where
  len : l.length = 16
  lt : ∀ i, wd l i < 4294967296
theorem wd_set (l : List Nat) (a v i : Nat) (ha : a < l.length) : wd (l.set a v) i = if a = i then v else wd l i := by
  unfold wd
  rw [List.getD_eq_getElem?_getD, List.getElem?_set, List.getD_eq_getElem?_getD]
  split <;> rfl
theorem W16.set {l : List Nat} (h : W16 l) (a : Nat) {v : Nat} (hv : v < 4294967296) : W16 (l.set a v) := by
  refine ⟨by rw [List.length_set]; exact h.len, fun i => ?_⟩
  rcases Nat.lt_or_ge a l.length with ha | ha
  · rw [wd_set l a v i ha]
    split
    · exact hv
    · exact h.lt i
  · rw [List.set_eq_of_length_le ha]; exact h.lt i
theorem W16.sA {l : List Nat} (h : W16 l) (a b : Nat) : W16 (sA l a b) := h.set a (Nat.mod_lt _ (by decide))
theorem add_lt63 {a b : Nat} (ha : a < 4294967296) (hb : b < 4294967296) : a + b < 9223372036854775808 := by omega
theorem W16.xor {l : List Nat} (h : W16 l) (d a : Nat) : wd l d ^^^ wd l a < 4294967296 := Nat.xor_lt_two_pow (n := 32) (h.lt d) (h.lt a)
theorem W16.sR {l : List Nat} (h : W16 l) (d a n : Nat) : W16 (sR l d a n) := h.set d (rotN_lt (h.xor d a))
theorem W16.qr {l : List Nat} (h : W16 l) (a b c d : Nat) : W16 (qr l a b c d) := (((((((h.sA a b).sR d a 16).sA c d).sR b c 12).sA a b).sR d a 8).sA c d).sR b c 7
def colTo (l : List Nat) : Nat → List Nat
  | 0 => l
  | i + 1 => qr (colTo l i) i (4 + i) (8 + i) (12 + i)
def diaTo (l : List Nat) : Nat → List Nat
  | 0 => l
  | i + 1 => qr (diaTo l i) i (4 + (i + 1) % 4) (8 + (i + 2) % 4) (12 + (i + 3) % 4)
def dbl (l : List Nat) : List Nat := diaTo (colTo l 4) 4
def rnd (l : List Nat) : Nat → List Nat
  | 0 => l
  | k + 1 => dbl (rnd l k)
theorem W16.col {l : List Nat} (h : W16 l) : ∀ i, W16 (colTo l i)
  | 0 => h
  | i + 1 => (W16.col h i).qr _ _ _ _
theorem W16.dia {l : List Nat} (h : W16 l) : ∀ i, W16 (diaTo l i)
  | 0 => h
  | i + 1 => (W16.dia h i).qr _ _ _ _
theorem W16.rnd {l : List Nat} (h : W16 l) : ∀ k, W16 (rnd l k)
  | 0 => h
  | k + 1 => ((W16.rnd h k).col 4).dia 4
theorem dbl_eq (l : List Nat) : dbl l = qr (qr (qr (qr (qr (qr (qr (qr l 0 4 8 12) 1 5 9 13) 2 6 10 14) 3 7 11 15) 0 5 10 15) 1 6 11 12) 2 7 8 13) 3 4 9 14 := rfl
/-- The word of four bytes. -/
def le4 (s : ByteArray) (a : Nat) : Nat := bt s a ||| bt s (a + 1) * 2 ^ 8 ||| bt s (a + 2) * 2 ^ 16 ||| bt s (a + 3) * 2 ^ 24
theorem or_lt32 {a b : Nat} (ha : a < 4294967296) (hb : b < 4294967296) : a ||| b < 4294967296 := Nat.or_lt_two_pow (n := 32) ha hb
theorem le4_lt (s : ByteArray) (a : Nat) : le4 s a < 4294967296 := by
  have h0 := bt_lt s a
  have h1 := bt_lt s (a + 1)
  have h2 := bt_lt s (a + 2)
  have h3 := bt_lt s (a + 3)
  unfold le4
  exact or_lt32 (or_lt32 (or_lt32 (by omega) (by omega)) (by omega)) (by omega)
def keyTo (s : ByteArray) : Nat → List Nat
  | 0 => []
  | k + 1 => keyTo s k ++ [le4 s (4 * k)]
def firstW (key : ByteArray) (c : Nat) (nonce : ByteArray) : List Nat := [0x61707865, 0x3320646e, 0x79622d32, 0x6b206574] ++ keyTo key 8 ++ [c] ++ keyTo nonce 3
theorem keyTo_len (s : ByteArray) (k : Nat) : (keyTo s k).length = k := by
  induction k with
  | zero => rfl
  | succ k ih => simp [keyTo, ih]
theorem keyTo_lt (s : ByteArray) (k : Nat) : ∀ x ∈ keyTo s k, x < 4294967296 := by
  induction k with
  | zero => intro x h; cases h
  | succ k ih =>
    intro x h
    simp only [keyTo, List.mem_append, List.mem_singleton] at h
    rcases h with h | rfl
    · exact ih x h
    · exact le4_lt s _
theorem wd_lt {l : List Nat} (h : ∀ x ∈ l, x < 4294967296) (i : Nat) : wd l i < 4294967296 := by
  unfold wd
  rw [List.getD_eq_getElem?_getD]
  cases e : l[i]? with
  | none => decide
  | some x => exact h x (List.mem_of_getElem? e)
theorem firstW_ok (key : ByteArray) {c : Nat} (hc : c < 4294967296) (nonce : ByteArray) : W16 (firstW key c nonce) := by
  refine ⟨by simp [firstW, keyTo_len], fun i => wd_lt (fun x h => ?_) i⟩
  simp only [firstW, List.mem_append] at h
  rcases h with ((h | h) | h) | h
  · revert x; decide
  · exact keyTo_lt _ _ x h
  · rw [List.mem_singleton] at h; omega
  · exact keyTo_lt _ _ x h
def wsum (w f : List Nat) (i : Nat) : Nat := (wd w i + wd f i) % 4294967296
def b4 (x : Nat) : List UInt8 := [UInt8.ofNat x, UInt8.ofNat (x / 2 ^ 8), UInt8.ofNat (x / 2 ^ 16), UInt8.ofNat (x / 2 ^ 24)]
def outTo (w f : List Nat) : Nat → List UInt8
  | 0 => []
  | k + 1 => outTo w f k ++ b4 (wsum w f k)
theorem outTo_len (w f : List Nat) (k : Nat) : (outTo w f k).length = 4 * k := by
  induction k with
  | zero => rfl
  | succ k ih => simp [outTo, ih, b4]; omega
def blockL (key : ByteArray) (c : Nat) (nonce : ByteArray) : List UInt8 := outTo (rnd (firstW key c nonce) 10) (firstW key c nonce) 16
def isChaF (key : ByteArray) (c : Int) (nonce : ByteArray) : Bool := decide ((key.size : Int) = 32) && inB c 0 4294967295 && decide ((nonce.size : Int) = 12)
def chaF (key : ByteArray) (c : Int) (nonce : ByteArray) : ByteArray := if isChaF key c nonce = true then ⟨(blockL key c.toNat nonce).toArray⟩ else ⟨#[]⟩
theorem isCha_iff {key nonce : ByteArray} {c : Int} : isChaF key c nonce = true ↔ key.size = 32 ∧ (0 ≤ c ∧ c ≤ 4294967295) ∧ nonce.size = 12 := by
  unfold isChaF
  simp only [Bool.and_eq_true, decide_eq_true_eq, inB_true]
  omega
theorem blockL_len (key : ByteArray) (c : Nat) (nonce : ByteArray) : (blockL key c nonce).length = 64 := outTo_len _ _ 16
theorem set_fill (A : List Nat) (n v : Nat) (a : Nat) (ha : a = A.length) : (A ++ List.replicate (n + 1) 0).set a v = A ++ [v] ++ List.replicate n 0 := by
  subst ha
  rw [List.replicate_succ, List.set_append_right _ _ (Nat.le_refl _), Nat.sub_self, List.set_cons_zero, List.append_assoc]; rfl
def hdrW : List Nat := [0x61707865, 0x3320646e, 0x79622d32, 0x6b206574]
/-- What stands after some words of the key, of the nonce. -/
def fw1 (key : ByteArray) (i : Nat) : List Nat := (hdrW ++ keyTo key i) ++ List.replicate (12 - i) 0
def fw2 (key : ByteArray) (c : Nat) (nonce : ByteArray) (i : Nat) : List Nat := (hdrW ++ keyTo key 8 ++ [c] ++ keyTo nonce i) ++ List.replicate (3 - i) 0
theorem fw1_len (key : ByteArray) (i : Nat) (h : i ≤ 8) : (fw1 key i).length = 16 := by simp [fw1, hdrW, keyTo_len]; omega
theorem fw2_len (key : ByteArray) (c : Nat) (nonce : ByteArray) (i : Nat) (h : i ≤ 3) : (fw2 key c nonce i).length = 16 := by simp [fw2, hdrW, keyTo_len]; omega
theorem fw1_step (key : ByteArray) (i : Nat) (h : i < 8) : (fw1 key i).set (4 + i) (le4 key (4 * i)) = fw1 key (i + 1) := by
  unfold fw1
  rw [show 12 - i = (12 - (i + 1)) + 1 by omega, set_fill _ _ _ _ (by simp [hdrW, keyTo_len]; omega), keyTo, List.append_assoc hdrW]
theorem fw1_c (key : ByteArray) (c : Nat) (nonce : ByteArray) : (fw1 key 8).set 12 c = fw2 key c nonce 0 := by
  unfold fw1 fw2
  rw [show 12 - 8 = 3 + 1 by rfl, set_fill _ _ _ _ (by simp [hdrW, keyTo_len]), keyTo, List.append_nil]
theorem fw2_step (key : ByteArray) (c : Nat) (nonce : ByteArray) (i : Nat) (h : i < 3) : (fw2 key c nonce i).set (13 + i) (le4 nonce (4 * i)) = fw2 key c nonce (i + 1) := by
  unfold fw2
  rw [show 3 - i = (3 - (i + 1)) + 1 by omega, set_fill _ _ _ _ (by simp [hdrW, keyTo_len]; omega), show keyTo nonce (i + 1) = keyTo nonce i ++ [le4 nonce (4 * i)] from rfl]
  simp only [List.append_assoc]
theorem fw2_end (key : ByteArray) (c : Nat) (nonce : ByteArray) : fw2 key c nonce 3 = firstW key c nonce := by
  unfold fw2 firstW hdrW
  simp
theorem one4 {a b c d : Value} (ha : a.oneCell' = true) (hb : b.oneCell' = true) (hc : c.oneCell' = true) (hd : d.oneCell' = true) : ∀ u ∈ [a, b, c, d], u.oneCell' = true := fun u hu => by
  simp only [List.mem_cons, List.not_mem_nil, or_false] at hu
  rcases hu with rfl | rfl | rfl | rfl <;> assumption
end Go.Proofs.Ytojgphgfhapacaa
