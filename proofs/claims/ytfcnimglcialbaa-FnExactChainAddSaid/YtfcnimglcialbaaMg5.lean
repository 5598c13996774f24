/- Texts of this claim, one behind the other: ChaP, LnkP, Cln, Bi, Mt, BfCRow, Fgt0, FlCRow, BtCache, BfKV, BfStr, FlKV, FlStr. -/
import Derived.Test.YtfcnimglcialbaaMg4
import Derived.Test.YtfcnimglcialbaaMg2
import Derived.Test.YtfcnimglcialbaaMg3
import Derived.Lib.SliceRun
import Derived.Test.YtfcnimglcialbaaMg1
/- ChaCha's block in plain Lean: words are naturals below 2^32. -/
namespace Go.Proofs.Ytfcnimglcialbaa
set_option linter.unusedVariables false
def wd (l : List Nat) (i : Nat) : Nat := l.getD i 0
def rotN (x n : Nat) : Nat := x * 2 ^ n % 4294967296 ||| x / 2 ^ (32 - n)
theorem rotN_lt {x n : Nat} (hx : x < 4294967296) : rotN x n < 4294967296 := by
  unfold rotN
  exact Nat.or_lt_two_pow (n := 32) (Nat.mod_lt _ (by decide)) (Nat.lt_of_le_of_lt (Nat.div_le_self _ _) hx)
theorem rotN_mask {x n : Nat} (hx : x < 4294967296) : (x * 2 ^ n ||| x / 2 ^ (32 - n)) % 4294967296 = rotN x n := by
  have h := @Nat.or_mod_two_pow (x * 2 ^ n) (x / 2 ^ (32 - n)) 32
  have h2 : x / 2 ^ (32 - n) < 2 ^ 32 := Nat.lt_of_le_of_lt (Nat.div_le_self _ _) hx
  rw [Nat.mod_eq_of_lt h2] at h
  exact h
def adN (l : List Nat) (a b : Nat) : Nat := (wd l a + wd l b) % 4294967296
def sA (l : List Nat) (a b : Nat) : List Nat := l.set a ((wd l a + wd l b) % 4294967296)
def sR (l : List Nat) (d a n : Nat) : List Nat := l.set d (rotN (wd l d ^^^ wd l a) n)
def qr (l : List Nat) (a b c d : Nat) : List Nat := sR (sA (sR (sA (sR (sA (sR (sA l a b) d a 16) c d) b c 12) a b) d a 8) c d) b c 7
/-- Sixteen words below 2^32. -/
structure W16 (l : List Nat) : Prop where
  len : l.length = 16
  lt : ∀ i, wd l i < 4294967296
theorem wd_set (l : List Nat) (a v i : Nat) (ha : a < l.length) : wd (l.set a v) i = if a = i then v else wd l i := by
  unfold wd
  rw [List.getD_eq_getElem?_getD, List.getElem?_set, List.getD_eq_getElem?_getD]
  split <;> rfl
theorem W16.set {l : List Nat} (h : W16 l) (a : Nat) {v : Nat} (hv : v < 4294967296) : W16 (l.set a v) := by
  refine ⟨by rw [List.length_set]; exact h.len, fun i => ?_⟩
  rcases Nat.lt_or_ge a l.length with ha | ha
  · rw [wd_set l a v i ha]
    split
    · exact hv
    · exact h.lt i
  · rw [List.set_eq_of_length_le ha]; exact h.lt i
theorem W16.sA {l : List Nat} (h : W16 l) (a b : Nat) : W16 (sA l a b) := h.set a (Nat.mod_lt _ (by decide))
theorem add_lt63 {a b : Nat} (ha : a < 4294967296) (hb : b < 4294967296) : a + b < 9223372036854775808 := by omega
theorem W16.xor {l : List Nat} (h : W16 l) (d a : Nat) : wd l d ^^^ wd l a < 4294967296 := Nat.xor_lt_two_pow (n := 32) (h.lt d) (h.lt a)
theorem W16.sR {l : List Nat} (h : W16 l) (d a n : Nat) : W16 (sR l d a n) := h.set d (rotN_lt (h.xor d a))
theorem W16.qr {l : List Nat} (h : W16 l) (a b c d : Nat) : W16 (qr l a b c d) := (((((((h.sA a b).sR d a 16).sA c d).sR b c 12).sA a b).sR d a 8).sA c d).sR b c 7
def colTo (l : List Nat) : Nat → List Nat
  | 0 => l
  | i + 1 => qr (colTo l i) i (4 + i) (8 + i) (12 + i)
def diaTo (l : List Nat) : Nat → List Nat
  | 0 => l
  | i + 1 => qr (diaTo l i) i (4 + (i + 1) % 4) (8 + (i + 2) % 4) (12 + (i + 3) % 4)
def dbl (l : List Nat) : List Nat := diaTo (colTo l 4) 4
def rnd (l : List Nat) : Nat → List Nat
  | 0 => l
  | k + 1 => dbl (rnd l k)
theorem W16.col {l : List Nat} (h : W16 l) : ∀ i, W16 (colTo l i)
  | 0 => h
  | i + 1 => (W16.col h i).qr _ _ _ _
theorem W16.dia {l : List Nat} (h : W16 l) : ∀ i, W16 (diaTo l i)
  | 0 => h
  | i + 1 => (W16.dia h i).qr _ _ _ _
theorem W16.rnd {l : List Nat} (h : W16 l) : ∀ k, W16 (rnd l k)
  | 0 => h
  | k + 1 => ((W16.rnd h k).col 4).dia 4
theorem dbl_eq (l : List Nat) : dbl l = qr (qr (qr (qr (qr (qr (qr (qr l 0 4 8 12) 1 5 9 13) 2 6 10 14) 3 7 11 15) 0 5 10 15) 1 6 11 12) 2 7 8 13) 3 4 9 14 := rfl
/-- The word of four bytes. -/
def le4 (s : ByteArray) (a : Nat) : Nat := bt s a ||| bt s (a + 1) * 2 ^ 8 ||| bt s (a + 2) * 2 ^ 16 ||| bt s (a + 3) * 2 ^ 24
theorem or_lt32 {a b : Nat} (ha : a < 4294967296) (hb : b < 4294967296) : a ||| b < 4294967296 := Nat.or_lt_two_pow (n := 32) ha hb
theorem le4_lt (s : ByteArray) (a : Nat) : le4 s a < 4294967296 := by
  have h0 := bt_lt s a
  have h1 := bt_lt s (a + 1)
  have h2 := bt_lt s (a + 2)
  have h3 := bt_lt s (a + 3)
  unfold le4
  exact or_lt32 (or_lt32 (or_lt32 (by omega) (by omega)) (by omega)) (by omega)
def keyTo (s : ByteArray) : Nat → List Nat
  | 0 => []
  | k + 1 => keyTo s k ++ [le4 s (4 * k)]
def firstW (key : ByteArray) (c : Nat) (nonce : ByteArray) : List Nat := [0x61707865, 0x3320646e, 0x79622d32, 0x6b206574] ++ keyTo key 8 ++ [c] ++ keyTo nonce 3
theorem keyTo_len (s : ByteArray) (k : Nat) : (keyTo s k).length = k := by
  induction k with
  | zero => rfl
  | succ k ih => simp [keyTo, ih]
theorem keyTo_lt (s : ByteArray) (k : Nat) : ∀ x ∈ keyTo s k, x < 4294967296 := by
  induction k with
  | zero => intro x h; cases h
  | succ k ih =>
    intro x h
    simp only [keyTo, List.mem_append, List.mem_singleton] at h
    rcases h with h | rfl
    · exact ih x h
    · exact le4_lt s _
theorem wd_lt {l : List Nat} (h : ∀ x ∈ l, x < 4294967296) (i : Nat) : wd l i < 4294967296 := by
  unfold wd
  rw [List.getD_eq_getElem?_getD]
  cases e : l[i]? with
  | none => decide
  | some x => exact h x (List.mem_of_getElem? e)
theorem firstW_ok (key : ByteArray) {c : Nat} (hc : c < 4294967296) (nonce : ByteArray) : W16 (firstW key c nonce) := by
  refine ⟨by simp [firstW, keyTo_len], fun i => wd_lt (fun x h => ?_) i⟩
  simp only [firstW, List.mem_append] at h
  rcases h with ((h | h) | h) | h
  · revert x; decide
  · exact keyTo_lt _ _ x h
  · rw [List.mem_singleton] at h; omega
  · exact keyTo_lt _ _ x h
def wsum (w f : List Nat) (i : Nat) : Nat := (wd w i + wd f i) % 4294967296
def b4 (x : Nat) : List UInt8 := [UInt8.ofNat x, UInt8.ofNat (x / 2 ^ 8), UInt8.ofNat (x / 2 ^ 16), UInt8.ofNat (x / 2 ^ 24)]
def outTo (w f : List Nat) : Nat → List UInt8
  | 0 => []
  | k + 1 => outTo w f k ++ b4 (wsum w f k)
theorem outTo_len (w f : List Nat) (k : Nat) : (outTo w f k).length = 4 * k := by
  induction k with
  | zero => rfl
  | succ k ih => simp [outTo, ih, b4]; omega
def blockL (key : ByteArray) (c : Nat) (nonce : ByteArray) : List UInt8 := outTo (rnd (firstW key c nonce) 10) (firstW key c nonce) 16
def isChaF (key : ByteArray) (c : Int) (nonce : ByteArray) : Bool := decide ((key.size : Int) = 32) && inB c 0 4294967295 && decide ((nonce.size : Int) = 12)
def chaF (key : ByteArray) (c : Int) (nonce : ByteArray) : ByteArray := if isChaF key c nonce = true then ⟨(blockL key c.toNat nonce).toArray⟩ else ⟨#[]⟩
theorem isCha_iff {key nonce : ByteArray} {c : Int} : isChaF key c nonce = true ↔ key.size = 32 ∧ (0 ≤ c ∧ c ≤ 4294967295) ∧ nonce.size = 12 := by
  unfold isChaF
  simp only [Bool.and_eq_true, decide_eq_true_eq, inB_true]
  omega
theorem blockL_len (key : ByteArray) (c : Nat) (nonce : ByteArray) : (blockL key c nonce).length = 64 := outTo_len _ _ 16
theorem set_fill (A : List Nat) (n v : Nat) (a : Nat) (ha : a = A.length) : (A ++ List.replicate (n + 1) 0).set a v = A ++ [v] ++ List.replicate n 0 := by
  subst ha
  rw [List.replicate_succ, List.set_append_right _ _ (Nat.le_refl _), Nat.sub_self, List.set_cons_zero, List.append_assoc]; rfl
def hdrW : List Nat := [0x61707865, 0x3320646e, 0x79622d32, 0x6b206574]
/-- What stands after some words of the key, of the nonce. -/
def fw1 (key : ByteArray) (i : Nat) : List Nat := (hdrW ++ keyTo key i) ++ List.replicate (12 - i) 0
def fw2 (key : ByteArray) (c : Nat) (nonce : ByteArray) (i : Nat) : List Nat := (hdrW ++ keyTo key 8 ++ [c] ++ keyTo nonce i) ++ List.replicate (3 - i) 0
theorem fw1_len (key : ByteArray) (i : Nat) (h : i ≤ 8) : (fw1 key i).length = 16 := by simp [fw1, hdrW, keyTo_len]; omega
theorem fw2_len (key : ByteArray) (c : Nat) (nonce : ByteArray) (i : Nat) (h : i ≤ 3) : (fw2 key c nonce i).length = 16 := by simp [fw2, hdrW, keyTo_len]; omega
theorem fw1_step (key : ByteArray) (i : Nat) (h : i < 8) : (fw1 key i).set (4 + i) (le4 key (4 * i)) = fw1 key (i + 1) := by
  unfold fw1
  rw [show 12 - i = (12 - (i + 1)) + 1 by omega, set_fill _ _ _ _ (by simp [hdrW, keyTo_len]; omega), keyTo, List.append_assoc hdrW]
theorem fw1_c (key : ByteArray) (c : Nat) (nonce : ByteArray) : (fw1 key 8).set 12 c = fw2 key c nonce 0 := by
  unfold fw1 fw2
  rw [show 12 - 8 = 3 + 1 by rfl, set_fill _ _ _ _ (by simp [hdrW, keyTo_len]), keyTo, List.append_nil]
theorem fw2_step (key : ByteArray) (c : Nat) (nonce : ByteArray) (i : Nat) (h : i < 3) : (fw2 key c nonce i).set (13 + i) (le4 nonce (4 * i)) = fw2 key c nonce (i + 1) := by
  unfold fw2
  rw [show 3 - i = (3 - (i + 1)) + 1 by omega, set_fill _ _ _ _ (by simp [hdrW, keyTo_len]; omega), show keyTo nonce (i + 1) = keyTo nonce i ++ [le4 nonce (4 * i)] from rfl]
  simp only [List.append_assoc]
theorem fw2_end (key : ByteArray) (c : Nat) (nonce : ByteArray) : fw2 key c nonce 3 = firstW key c nonce := by
  unfold fw2 firstW hdrW
  simp
theorem one4 {a b c d : Value} (ha : a.oneCell' = true) (hb : b.oneCell' = true) (hc : c.oneCell' = true) (hd : d.oneCell' = true) : ∀ u ∈ [a, b, c, d], u.oneCell' = true := fun u hu => by
  simp only [List.mem_cons, List.not_mem_nil, or_false] at hu
  rcases hu with rfl | rfl | rfl | rfl <;> assumption
end Go.Proofs.Ytfcnimglcialbaa
/- LinkSum in plain Lean. -/
namespace Go.Proofs.Ytfcnimglcialbaa
set_option linter.unusedVariables false
def zrs (n : Nat) : ByteArray := ⟨(List.replicate n 0).toArray⟩
theorem zrs_size (n : Nat) : (zrs n).size = n := by show (List.replicate n (0 : UInt8)).toArray.size = n; simp
def f7 (n : Nat) : ByteArray := ⟨(fixL 7 n).toArray⟩
theorem f7_size (n : Nat) : (f7 n).size = 7 := by show (fixL 7 n).toArray.size = 7; simp [fixL_len]
def z1 : ByteArray := ⟨#[0]⟩
def padF (n : Nat) : ByteArray := z1 ++ f7 n
theorem padF_size (n : Nat) : (padF n).size = 8 := by unfold padF; rw [ByteArray.size_append, f7_size]; rfl
def nonF (k n : Nat) : ByteArray := (⟨[UInt8.ofNat k, 0, 0, 0, 0].toArray⟩ : ByteArray) ++ f7 n
theorem nonF_size (k n : Nat) : (nonF k n).size = 12 := by unfold nonF; rw [ByteArray.size_append, f7_size]; rfl
def lstF (last : ByteArray) : ByteArray := if sEq last ⟨#[]⟩ = true then zrs 8 else last
def lnkOk (last : ByteArray) (who : Int) (text : ByteArray) : Prop := (lstF last).size = 8 ∧ (0 ≤ who ∧ who ≤ 99) ∧ text.size ≤ 60
def lnkKey (last : ByteArray) (who : Int) (text : ByteArray) : ByteArray := lstF last ++ padF who.toNat ++ padF (crcF text) ++ padF text.size
instance (last : ByteArray) (who : Int) (text : ByteArray) : Decidable (lnkOk last who text) := by unfold lnkOk; infer_instance
def lnkF (last : ByteArray) (who : Int) (text : ByteArray) : ByteArray := if lnkOk last who text then (chaF (lnkKey last who text) 0 (nonF 6 0)).extract 0 8 else ⟨#[]⟩
theorem lnkKey_size {last : ByteArray} {who : Int} {text : ByteArray} (h : lnkOk last who text) : (lnkKey last who text).size = 32 := by
  unfold lnkKey
  simp only [ByteArray.size_append, padF_size, h.1]
theorem chaF_size {key nonce : ByteArray} {c : Int} (h : isChaF key c nonce = true) : (chaF key c nonce).size = 64 := by
  unfold chaF; rw [if_pos h]
  show (blockL key c.toNat nonce).toArray.size = 64
  simp [blockL_len]
theorem lnk_cha {last : ByteArray} {who : Int} {text : ByteArray} (h : lnkOk last who text) : (chaF (lnkKey last who text) 0 (nonF 6 0)).size = 64 :=
  chaF_size (isCha_iff.2 ⟨lnkKey_size h, by omega, nonF_size _ _⟩)
theorem lnkF_size {last : ByteArray} {who : Int} {text : ByteArray} (h : lnkOk last who text) : (lnkF last who text).size = 8 := by
  unfold lnkF; rw [if_pos h, ByteArray.size_extract, lnk_cha h]; rfl
theorem lnkF_le (last : ByteArray) (who : Int) (text : ByteArray) : (lnkF last who text).size ≤ 8 := by
  by_cases h : lnkOk last who text
  · rw [lnkF_size h]; omega
  · unfold lnkF; rw [if_neg h]; decide
end Go.Proofs.Ytfcnimglcialbaa
/- slices.Clone of ints; a slice against nil. -/
namespace Go.Proofs.Ytfcnimglcialbaa
open Go.RowKit
set_option maxHeartbeats 4000000
set_option maxRecDepth 20000
set_option linter.unusedVariables false
set_option linter.unusedSimpArgs false
theorem run_eqGuard_slice {P : Program} (w : World) (p : BinOp) (t : TypeId) (x y : Operand) (A B : Option Addr) (n c n' c' : Nat) : (eqGuard p t x y (.slice A n c) (.slice B n' c')).run P w = .ok () w := by
  unfold eqGuard
  cases p <;> rfl
theorem ps_eql_nil {P : Program} {E : Env} {H : List HObj} {G : List World} {o : Oper} {x : Operand} {t t' e sz bytes : TypeId} {A : Option Addr} {n c : Nat} [ht : EL P t e sz bytes] (ho : o.op = .binOp .eql t x (.const (.slice none 0 0)) t') (hx : opd E x = some (.slice A n c)) : PStep P E H G o (.bool A.isNone) := fun N base w0 a w he hw => by
  have h := Lib.run_eql_slice_nil (P := P) w t e A n c 0 0 ht.h.1
  have hy : a.eval (.const (.slice none 0 0)) = .slice none 0 0 := rfl
  simp [execOp, ho, he.eval hx, hy, run_eqGuard_slice, h]
attribute [local irreducible] Calls
theorem clone_c (A : Option Addr) (c : Nat) (L : List Int) (w : World) (h : Rd w A (fl L)) (m : L.length ≤ 4194304) :
    Calls Try.prog 119 #[.slice A L.length c] w fun e w' => ∃ y : Ys, e = .returned (.slice (y 0).A L.length (y 0).c) ∧ True ∧ Below w.heap.size w w' ∧ NewOk w.heap.size [.row 3 1 (y 0).A L.length (y 0).c (fl L)] [] w' := by
  refine ok_enter 8 Try.func119 rfl rfl rfl ?_
  repeat' (first
    | refine ok_seq ?_
    | refine ok_then ?_
    | refine ok_then_ret ?_
    | (refine ok_cond rfl (fun hc => ?_) (fun hc => ?_) <;> (have hd := hc; (try simp only [decide_eq_true_eq, decide_eq_false_iff_not, Bool.or_eq_true, Bool.or_eq_false_iff, Bool.and_eq_true, Bool.and_eq_false_iff, Bool.not_eq_true', Bool.not_eq_false', bne_iff_ne, beq_iff_eq, bne_eq_false_iff_eq, beq_eq_false_iff_ne, ne_eq, Bool.not_true, Bool.not_false, Bool.false_eq_true, Bool.true_eq_false, inB_true, inB_false] at hd)))
    | refine ok_ret ?_
    | refine ok_skip ?_
    | (refine ok_region (i := 0) ?_; refine ok_p rfl rfl rfl (by exact ps_assign rfl rfl) ?_; refine ok_nil ?_; refine ok_env [(0, _)] ⟨rfl, trivial⟩ ?_)
    | (refine ok_region (i := 1) ?_; refine ok_p rfl rfl rfl (by exact ps_move rfl rfl) ?_; refine ok_p rfl rfl rfl (by exact ps_eql_nil rfl rfl) ?_; refine ok_nil ?_; refine ok_env [(0, _), (4, _)] ⟨rfl, rfl, trivial⟩ ?_)
    | (refine ok_region (i := 2) ?_; refine ok_p rfl rfl rfl (by exact ps_assign rfl rfl) ?_; refine ok_nil ?_; refine ok_env [(2, _)] ⟨rfl, trivial⟩ ?_)
    | (refine ok_region (i := 3) ?_; refine ok_m rfl rfl rfl (by exact ms_lit rfl parts_nil rfl rfl rfl) ?_; rintro y5 hy5; refine ok_p rfl rfl rfl (by exact ps_move rfl rfl) ?_; refine ok_m rfl rfl rfl (by exact ms_app0 (M := L) 0 rfl rfl rfl rfl (rds_rf h (by exact List.mem_cons_self)) rfl (by omega) (by omega)) ?_; rintro y7 hy7; refine ok_p rfl rfl rfl (by exact ps_assign rfl rfl) ?_; refine ok_nil ?_; refine ok_env [(2, _)] ⟨rfl, trivial⟩ ?_))
  · have h0 : L = [] := by
      cases A with
      | some a => cases hc
      | none =>
        rcases L with _ | ⟨x, l⟩
        · rfl
        · have := isS_fl h (by simp); obtain ⟨ad, e⟩ := this; cases e
    subst h0
    refine ok_endL (vs := [_]) rfl ⟨rfl, trivial⟩ (fun w' hw => ?_)
    refine ⟨mkY none 0 w, ?_, trivial, hw.below, ?_⟩
    · rfl
    · exact NewOk.one (x := .row 3 1 none 0 0 (fl ([] : List Int))) (Own.nil w' w.heap.size 3 1)
  · refine ok_endL (vs := [_]) rfl ⟨rfl, trivial⟩ (fun w' hw => ?_)
    refine ⟨yl [y7 0] (y7 0), ?_, trivial, hw.below, ?_⟩
    · rfl
    · have := NewOk.of (hw.sel [0] (by decide) rfl (fun _ h => h))
      exact this
end Go.Proofs.Ytfcnimglcialbaa
/- Rows of ints: size, copy, comparison, marks, by the engine. -/
namespace Go.Proofs.Ytfcnimglcialbaa
open Go.RowKit
set_option maxHeartbeats 1000000
set_option maxRecDepth 20000
set_option linter.unusedVariables false
set_option linter.unusedSimpArgs false
/-- What a mark writes: k, k + 1, .. -/
class Mk (α : Type) where
  cnt : Int
  mkv : Int → α
def mkL {α : Type} [Mk α] (k : Int) (n : Nat) : List α := (List.range n).map fun (j : Nat) => Mk.mkv (k + Mk.cnt α * (j : Int))
theorem mkL_len {α : Type} [Mk α] (k : Int) (n : Nat) : (mkL k n : List α).length = n := by simp [mkL]
theorem mkL_nth {α : Type} [Mk α] [Dat α] (k : Int) (n j : Nat) (h : j < n) : nth (mkL k n : List α) j = Mk.mkv (k + Mk.cnt α * j) := by simp [nth, mkL, h]
theorem mk_step {α : Type} [Mk α] [Dat α] (l : List α) (k : Int) (i : Nat) (h : i < l.length) : (mkL k i ++ l.drop i).set i (Mk.mkv (k + Mk.cnt α * i)) = mkL k (i + 1) ++ l.drop (i + 1) := by
  have h1 : (mkL k i : List α).length = i := mkL_len k i
  rw [List.set_append_right _ _ (by omega), h1, Nat.sub_self, List.drop_eq_getElem_cons h, List.set_cons_zero]
  simp [mkL, List.range_succ]
theorem mk_nth {α : Type} [Mk α] [Dat α] (l : List α) (k : Int) (i : Nat) (h : i < l.length) : nth (mkL k i ++ l.drop i) i = nth l i := by
  have h1 : (mkL k i : List α).length = i := mkL_len k i
  have h2 : (mkL k i ++ l.drop i)[i]? = l[i]? := by
    rw [List.getElem?_append_right (by omega), h1, Nat.sub_self, List.getElem?_drop]; simp
  simp [nth, h2]
theorem nth_set {α : Type} [Dat α] (l : List α) (i : Nat) (x : α) (h : i < l.length) : nth (l.set i x) i = x := by simp [nth, h]
theorem nth_mem {α : Type} [Dat α] (l : List α) (k : Nat) (h : k < l.length) : nth l k ∈ l := by
  have : nth l k = l[k] := by simp [nth, h]
  rw [this]; exact List.getElem_mem h
theorem mem_nth {α : Type} [Dat α] {l : List α} {p : α → Prop} (h : ∀ j, j < l.length → p (nth l j)) : ∀ x ∈ l, p x := fun x hx => by
  obtain ⟨j, hj, rfl⟩ := List.getElem_of_mem hx
  have := h j hj
  rwa [show nth l j = l[j] by simp [nth, hj]] at this
theorem WOk.same {base : Nat} {w0 w : World} {H H' : List HObj} {G : List World} (e : H = H') (h : WOk base w0 H G w) : WOk base w0 H' G w := e ▸ h
instance : Mk Int := ⟨1, fun k => k⟩
/-- A contract of the pure kind as one of the kind that tells the lists. -/
theorem toW {P : Program} {f : FuncId} {vs : Array Value} {base : Nat} {w0 w : World} {H : List HObj} {G : List World} {F : Ys → Prop} {v : Ys → Value} {Hn : Ys → List HObj} {Gn : Ys → List World}
    (hw : WOk base w0 H G w) (h : Calls P f vs w (fun e w' => ∃ y, e = .returned (v y) ∧ F y ∧ Below w.heap.size w w' ∧ NewOk w.heap.size (Hn y) (Gn y) w')) :
    Calls P f vs w (fun e w' => ∃ y, e = .returned (v y) ∧ F y ∧ WOk base w0 (Hn y ++ H) (Gn y ++ G) w') :=
  h.mono fun e w' ⟨y, a, b, c, d⟩ => ⟨y, a, b, hw.grow c d⟩
end Go.Proofs.Ytfcnimglcialbaa
/- The mark's text. -/
namespace Go.Proofs.Ytfcnimglcialbaa
open Go.RowKit
set_option maxHeartbeats 1000000
set_option maxRecDepth 20000
set_option linter.unusedVariables false
set_option linter.unusedSimpArgs false
theorem ps_str1 {P : Program} {E : Env} {H : List HObj} {G : List World} {o : Oper} {x : Operand} {s t e : TypeId} {A : Option Addr} {c : Nat} {n : Int} {sz bytes : Nat} [hs' : EL P s e sz bytes] [he'' : IK P e .u8] [ht' : SS P t] (ho : o.op = .convert s t x) (hx : opd E x = some (.slice A 1 c)) (hr : Rds H G A [.int .u8 n]) : PStep P E H G o (.string (byteStr n)) := fun N base w0 a w he hw => by
  have h := hr base w0 w hw
  obtain ⟨ad, rfl, hc⟩ := h 0 (.int .u8 n) rfl
  have hrun : (convert s t (.slice (some ad) 1 c)).run P w = .ok (.string (byteStr n)) w := by
    rw [run_convert_bytes_string w _ _ e (some ad) 1 c hs'.h.1 he''.h ht'.h]
    rw [run_bytesToString w ad 1 c [n] (by
      have := run_loadCells_list (P := P) w ad [Value.int .u8 n] (fun j v hj => by
        rcases j with _ | j
        · simp at hj; subst hj; simpa [Addr.add] using hc
        · simp at hj)
      simpa using this)]
    simp [byteStr, ByteArray.empty, ByteArray.emptyWithCapacity, ByteArray.push]
    rfl
  simp [execOp, ho, he.eval hx, hrun]
def dig (k : Int) : ByteArray := byteStr (IntKind.u8.wrap (48 + k % 10))
def mtF : Nat → Int → ByteArray → ByteArray
  | 0, _, out => out
  | f + 1, k, out => if 0 < k then mtF f (k / 10) (dig k ++ out) else out
def mT (k : Int) : ByteArray := if 0 < k then ⟨#[109]⟩ ++ mtF k.toNat k ⟨#[]⟩ else ⟨#[109, 48]⟩
theorem mtF_done (f : Nat) (k : Int) (out : ByteArray) (h : ¬ 0 < k) : mtF f k out = out := by cases f <;> simp [mtF, h]
theorem mtF_size : ∀ (f : Nat) (k : Int) (out : ByteArray), (mtF f k out).size ≤ out.size + f
  | 0, k, out => by simp [mtF]
  | f + 1, k, out => by
    unfold mtF
    split
    · have := mtF_size f (k / 10) (dig k ++ out)
      rw [ByteArray.size_append] at this
      have h1 : (dig k).size = 1 := rfl
      omega
    · omega
theorem markText_c (k : Int) (h : k ≤ 4000000000000000000) (w : World) :
    Calls Try.prog 177 #[.int .i64 k] w fun e w' => e = .returned (.string (mT k)) ∧ Below w.heap.size w w' := by
  refine ok_enter 20 Try.func177 rfl rfl rfl ?_
  repeat' (first
    | refine ok_seq ?_
    | refine ok_then ?_
    | refine ok_then_ret ?_
    | refine ok_block ?_
    | (refine ok_cond rfl (fun hc => ?_) (fun hc => ?_) <;> (have hd := hc; (try simp only [decide_eq_true_eq, decide_eq_false_iff_not, Bool.or_eq_true, Bool.or_eq_false_iff, Bool.and_eq_true, Bool.and_eq_false_iff, Bool.not_eq_true', Bool.not_eq_false', bne_iff_ne, beq_iff_eq, bne_eq_false_iff_eq, beq_eq_false_iff_ne, ne_eq, Bool.not_true, Bool.not_false, Bool.false_eq_true, Bool.true_eq_false, inB_true, inB_false] at hd)))
    | refine ok_ret ?_
    | refine ok_skip ?_
    | (refine ok_region (i := 0) ?_; refine ok_p rfl rfl rfl (by exact ps_assign rfl rfl) ?_; refine ok_nil ?_; refine ok_env [(0, _)] ⟨rfl, trivial⟩ ?_)
    | (refine ok_region (i := 1) ?_; refine ok_p rfl rfl rfl (by exact ps_move rfl rfl) ?_; refine ok_p rfl rfl rfl (by exact ps_int rfl rfl rfl rfl) ?_; refine ok_nil ?_; refine ok_env [(0, _), (5, _)] ⟨rfl, rfl, trivial⟩ ?_)
    | (refine ok_region (i := 2) ?_; refine ok_p rfl rfl rfl (by exact ps_assign rfl rfl) ?_; refine ok_nil ?_; refine ok_env [(2, _)] ⟨rfl, trivial⟩ ?_)
    | (refine ok_region (i := 3) ?_; refine ok_p rfl rfl rfl (by exact ps_assign rfl rfl) ?_; refine ok_nil ?_; refine ok_env [(0, _), (3, _)] ⟨rfl, rfl, trivial⟩ ?_))
  · exact ok_endL (vs := [_]) rfl ⟨rfl, trivial⟩ (fun w' hw => ⟨by show Ending.returned (.string _) = _; unfold mT; rw [if_neg (by omega)], hw.below⟩)
  · have hT := Lib.hid (show mT k = ⟨#[109]⟩ ++ mtF k.toNat k ⟨#[]⟩ by unfold mT; rw [if_pos (by omega)])
    refine ok_loop (ι := { p : Int × ByteArray × Nat // p.1 ≤ k ∧ p.1 ≤ p.2.2 ∧ mtF p.2.2 p.1 p.2.1 = mtF k.toNat k ⟨#[]⟩ ∧ p.2.1.size + p.2.2 ≤ k.toNat }) (fun p => p.1.1.toNat) (fun p => ([(0, .int .i64 p.1.1), (3, .string p.1.2.1)], [], _)) ⟨(k, ⟨#[]⟩, k.toNat), Int.le_refl _, by simp only; omega, rfl, by show 0 + k.toNat ≤ _; omega⟩ (fun a w he hw => ⟨⟨(k, ⟨#[]⟩, k.toNat), Int.le_refl _, by simp only; omega, rfl, by show 0 + k.toNat ≤ _; omega⟩, he.sub ⟨rfl, rfl, trivial⟩, hw⟩) ?_
    rintro ⟨⟨q, out, f⟩, hq1, hq2, hq3, hq4⟩
    simp only at hq1 hq2 hq3 hq4 ⊢
    have H3 := Lib.hid hq3; clear hq3
    have hds : (dig q).size = 1 := rfl
    have hms : (⟨#[109]⟩ : ByteArray).size = 1 := rfl
    repeat' (first
      | refine ok_seq ?_
      | refine ok_then ?_
      | refine ok_block ?_
      | refine ok_in_normal ?_
      | (refine ok_cond rfl (fun hc => ?_) (fun hc => ?_) <;> (have hd := hc; (try simp only [decide_eq_true_eq, decide_eq_false_iff_not, Bool.or_eq_true, Bool.or_eq_false_iff, Bool.and_eq_true, Bool.and_eq_false_iff, Bool.not_eq_true', Bool.not_eq_false', bne_iff_ne, beq_iff_eq, bne_eq_false_iff_eq, beq_eq_false_iff_ne, ne_eq, Bool.not_true, Bool.not_false, Bool.false_eq_true, Bool.true_eq_false, inB_true, inB_false] at hd)))
      | refine ok_ret ?_
      | refine ok_exit ?_
      | refine ok_skip ?_
      | (refine ok_region (i := 4) ?_; refine ok_p rfl rfl rfl (by exact ps_move rfl rfl) ?_; refine ok_p rfl rfl rfl (by exact ps_int rfl rfl rfl rfl) ?_; refine ok_nil ?_; refine ok_env [(0, _), (3, _), (7, _)] ⟨rfl, rfl, rfl, trivial⟩ ?_)
      | (refine ok_region (i := 5) ?_; refine ok_p rfl rfl rfl (by exact ps_move rfl rfl) ?_; refine ok_p rfl rfl rfl (by exact ps_rem rfl rfl rfl (by omega) (by omega)) ?_; refine ok_p rfl rfl rfl (by exact ps_add rfl rfl rfl (by omega)) ?_; refine ok_p rfl rfl rfl (by exact ps_conv rfl rfl) ?_; refine ok_m rfl rfl rfl (by exact ms_lit rfl (parts_cons rfl parts_nil) rfl rfl rfl) ?_; rintro y12 hy12; refine ok_p rfl rfl rfl (by exact ps_str1 rfl rfl (rds_row 0 rfl)) ?_; refine ok_p rfl rfl rfl (by exact ps_move rfl rfl) ?_; refine ok_p rfl rfl rfl (by exact ps_sadd (s := dig q) rfl rfl rfl (by omega)) ?_; refine ok_p rfl rfl rfl (by exact ps_assign rfl rfl) ?_; refine ok_nil ?_; refine ok_env [(0, _), (3, _)] ⟨rfl, rfl, trivial⟩ ?_)
      | (refine ok_region (i := 6) ?_; refine ok_p rfl rfl rfl (by exact ps_move rfl rfl) ?_; refine ok_p rfl rfl rfl (by exact ps_quo rfl rfl rfl (by omega) (by omega)) ?_; refine ok_p rfl rfl rfl (by exact ps_assign rfl rfl) ?_; refine ok_nil ?_; refine ok_env [(0, _), (3, _)] ⟨rfl, rfl, trivial⟩ ?_)
      | (refine ok_region (i := 7) ?_; refine ok_p rfl rfl rfl (by exact ps_move rfl rfl) ?_; refine ok_p rfl rfl rfl (by exact ps_sadd rfl rfl rfl (by omega)) ?_; refine ok_p rfl rfl rfl (by exact ps_assign rfl rfl) ?_; refine ok_nil ?_; refine ok_env [(2, _)] ⟨rfl, trivial⟩ ?_))
    · obtain ⟨f', rfl⟩ : ∃ f', f = f' + 1 := ⟨f - 1, by omega⟩
      have e := H3.out
      rw [mtF, if_pos hd] at e
      refine fun a w' he hw => ⟨⟨(q / 10, dig q ++ out, f'), by simp only; omega, by simp only; omega, e, by simp only; rw [ByteArray.size_append]; omega⟩, by simp only; omega, he.sub ⟨rfl, rfl, trivial⟩, hw.tl⟩
    · refine ok_endL (vs := [_]) rfl ⟨rfl, trivial⟩ (fun w' hw => ⟨?_, hw.below⟩)
      rw [hT.out, ← H3.out, mtF_done _ _ _ hd]; rfl
end Go.Proofs.Ytfcnimglcialbaa
/- CRow: rows of it: size, copy, comparison, marks. -/
namespace Go.Proofs.Ytfcnimglcialbaa
open Go.RowKit
set_option maxHeartbeats 2000000
set_option maxRecDepth 20000
set_option linter.unusedVariables false
set_option linter.unusedSimpArgs false
attribute [local irreducible] Calls
structure CRow where
  tenant : Int
  no : Int
  text : ByteArray
  deriving DecidableEq
instance : Dat CRow := ⟨3, fun x => [.int .i64 x.tenant, .int .i64 x.no, .string x.text], fun _ => rfl, ⟨0, 0, ⟨#[]⟩⟩⟩
instance : Mk CRow := ⟨3, fun q => ⟨q, q + 1, mT (q + 1 + 1)⟩⟩
def wtCRow (x : CRow) : Prop := x.text.size ≤ 1048576
def bigCRow (x : CRow) : Prop := x.text.size ≤ maxLen
end Go.Proofs.Ytfcnimglcialbaa
/- Data by their type as rows of records: what serves every record. -/
namespace Go.Proofs.Ytfcnimglcialbaa
open Go.RowKit
set_option linter.unusedVariables false
set_option linter.unusedSimpArgs false
/-- A record by its type. -/
def FlatAt (e : GT) {α : Type} [Dat α] (f : e.den → α) (big : α → Prop) : Prop := ∀ (w : World) x c, RdT w e x c → c = Dat.cells (f x) ∧ big (f x)
theorem flat_rows {e : GT} {α : Type} [Dat α] {f : e.den → α} {big : α → Prop} (hf : FlatAt e f big) {w : World} : ∀ (xs : List e.den) (us : List Value), RdTs w e xs us → us = fl (xs.map f) ∧ ∀ x ∈ xs.map f, big x
  | [], us, h => by
    rw [RdTs.nil] at h; subst h; exact ⟨rfl, fun x h => by cases h⟩
  | x :: xs, us, h => by
    obtain ⟨c1, c2, rfl, h1, h2⟩ := RdTs.cons.1 h
    obtain ⟨rfl, hb⟩ := hf w x c1 h1
    obtain ⟨rfl, hbs⟩ := flat_rows hf xs c2 h2
    exact ⟨rfl, fun y hy => by
      rw [List.map_cons] at hy
      cases hy with
      | head => exact hb
      | tail _ hy => exact hbs y hy⟩
theorem flat_sl {E : TypeId} {e : GT} {α : Type} [Dat α] {f : e.den → α} {big : α → Prop} (hf : FlatAt e f big) {w : World} {xs : GT.den (.sl E e)} {cs : List Value} (h : RdT w (.sl E e) xs cs) : ∃ (A : Option Addr) (c : Nat) (l : List α), cs = [.slice A l.length c] ∧ l.length ≤ maxLen ∧ Rd w A (fl l) ∧ (∀ x ∈ l, big x) := by
  obtain ⟨A, c, us, rfl, h1, h2, h3, h4⟩ := RdT.sl.1 h
  obtain ⟨rfl, hb⟩ := flat_rows hf _ _ h4
  have hl : (List.map f (show List e.den from xs)).length = List.length xs := List.length_map ..
  exact ⟨A, c, List.map f (show List e.den from xs), congrArg (fun n => [Value.slice A n c]) hl.symm, Nat.le_trans (Nat.le_of_eq hl) (Nat.le_trans h1 h2), h3, hb⟩
theorem flatInt : FlatAt .int (α := Int) (fun x => x) inI64 := fun w x c h => RdT.int.1 h
def ya (l : List (Option Addr × Nat)) (w : World) : Ys := fun i => ⟨(l.getD i (none, 0)).1, (l.getD i (none, 0)).2, w, 0⟩
/-- Objects moved to the front. -/
theorem WOk.rot {base : Nat} {w0 w : World} {H H' : List HObj} {G : List World} (p n : Nat) (e : List.take n (List.drop p H) ++ (List.take p H ++ List.drop n (List.drop p H)) = H') (h : WOk base w0 H G w) : WOk base w0 H' G w := by
  subst e
  refine h.perm ?_
  have h1 : H.Perm (List.take p H ++ (List.take n (List.drop p H) ++ List.drop n (List.drop p H))) := by
    rw [List.take_append_drop, List.take_append_drop]
  refine h1.trans ?_
  rw [← List.append_assoc, ← List.append_assoc]
  exact List.Perm.append_right _ List.perm_append_comm
theorem WOk.drop {base : Nat} {w0 w : World} {H H' : List HObj} {G : List World} (p : Nat) (e : List.drop p H = H') (h : WOk base w0 H G w) : WOk base w0 H' G w := by
  subst e
  have hm : ∀ x ∈ List.drop p H, x ∈ H := fun x hx => List.mem_of_mem_drop hx
  exact ⟨h.below, h.le, fun x hx => h.own x (hm x hx), h.apart.sublist (List.drop_sublist p H), fun m hmm q u hq => ⟨(h.ref m hmm q u hq).1, fun x hx => (h.ref m hmm q u hq).2 x (hm x hx)⟩⟩
theorem WOk.keep {base : Nat} {w0 w m : World} {H : List HObj} {G : List World} {A : Option Addr} {us : List Value} (h : WOk base w0 H G w) (hr : Rd m A us) (hm : m ∈ G) : Rd w A us := rds_rf hr hm _ _ _ h
theorem WOk.row {base : Nat} {w0 w : World} {H : List HObj} {G : List World} {A : Option Addr} {e sz n c : Nat} {us : List Value} (h : WOk base w0 H G w) (i : Nat) (hi : H[i]? = some (.row e sz A n c us)) : Rd w A us := rds_row i hi _ _ _ h
end Go.Proofs.Ytfcnimglcialbaa
/- The record CRow by its type. -/
namespace Go.Proofs.Ytfcnimglcialbaa
open Go.RowKit
set_option linter.unusedVariables false
set_option linter.unusedSimpArgs false
abbrev gCRow : GT := .st [.int, .int, .str]
theorem flatCRow : FlatAt gCRow (α := CRow) (fun x => ⟨x.1, x.2.1, x.2.2.1⟩) bigCRow := fun w x c h => by
  obtain ⟨a0, a1, a2, u⟩ := x
  obtain ⟨c0, d0, rfl, h0, e0⟩ := RdTL.cons.1 (RdT.st.1 h)
  obtain ⟨c1, d1, rfl, h1, e1⟩ := RdTL.cons.1 e0
  obtain ⟨c2, d2, rfl, h2, e2⟩ := RdTL.cons.1 e1
  rw [RdTL.nil] at e2; subst e2
  obtain ⟨rfl, b0⟩ := RdT.int.1 h0
  obtain ⟨rfl, b1⟩ := RdT.int.1 h1
  obtain ⟨rfl, b2⟩ := RdT.str.1 h2
  exact ⟨rfl, b2⟩
end Go.Proofs.Ytfcnimglcialbaa
/- Cache in the uniform style: size, copy, comparison, marks. -/
namespace Go.Proofs.Ytfcnimglcialbaa
open Go.RowKit
set_option maxHeartbeats 4000000
set_option maxRecDepth 20000
set_option linter.unusedVariables false
set_option linter.unusedSimpArgs false
attribute [local irreducible] Calls
structure DCache where
  cap : Int
  R : List CRow
  deriving DecidableEq
def Cache_val (x : DCache) (y : Ys) : Value := .agg #[.int .i64 x.cap, .slice (y 0).A x.R.length (y 0).c]
def Cache_obj (x : DCache) (y : Ys) : List HObj := [.row 132 3 (y 0).A x.R.length (y 0).c (fl x.R)]
def Cache_rd (w : World) (x : DCache) (y : Ys) : Prop := Rd w (y 0).A (fl x.R)
def Cache_big (x : DCache) : Prop := (x.R.length ≤ maxLen ∧ ∀ u ∈ x.R, bigCRow u)
def Cache_sm (x : DCache) : Prop := (x.R.length ≤ 1048576 ∧ ∀ u ∈ x.R, wtCRow u)
def Cache_lim (x : DCache) : Prop := x.R.length ≤ 4194304
def Cache_cnt (x : DCache) (k : Int) : Int := (k + 3 * (x.R.length : Int))
def Cache_mk (k : Int) (x : DCache) : DCache := { x with R := mkL k x.R.length }
theorem Cache_cnt_le (x : DCache) (k : Int) (h : Cache_lim x) : k ≤ Cache_cnt x k ∧ Cache_cnt x k ≤ k + 12582912 := by
  unfold Cache_lim at h; unfold Cache_cnt; omega
theorem Cache_sm_lim {x : DCache} (h : Cache_sm x) : Cache_lim x := by
  unfold Cache_sm at h; unfold Cache_lim; have := h.1; omega
theorem Cache_rf {m w w0 : World} {base : Nat} {H : List HObj} {G : List World} {x : DCache} {y : Ys} (h : Cache_rd m x y) (hm : m ∈ G) (hw : WOk base w0 H G w) : Cache_rd w x y := hw.keep h hm
theorem Cache_of {w w0 : World} {base : Nat} {H : List HObj} {G : List World} {x : DCache} {y : Ys} (hw : WOk base w0 (Cache_obj x y ++ H) G w) : Cache_rd w x y := hw.row 0 rfl
end Go.Proofs.Ytfcnimglcialbaa
/- KV: rows of it: size, copy, comparison, marks. -/
namespace Go.Proofs.Ytfcnimglcialbaa
open Go.RowKit
set_option maxHeartbeats 2000000
set_option maxRecDepth 20000
set_option linter.unusedVariables false
set_option linter.unusedSimpArgs false
attribute [local irreducible] Calls
structure KV where
  key : ByteArray
  val : ByteArray
  deriving DecidableEq
instance : Dat KV := ⟨2, fun x => [.string x.key, .string x.val], fun _ => rfl, ⟨⟨#[]⟩, ⟨#[]⟩⟩⟩
instance : Mk KV := ⟨2, fun q => ⟨mT (q), mT (q + 1)⟩⟩
def wtKV (x : KV) : Prop := x.key.size ≤ 1048576 ∧ x.val.size ≤ 1048576
def bigKV (x : KV) : Prop := x.key.size ≤ maxLen ∧ x.val.size ≤ maxLen
theorem szKV_c (x : KV) (left : Int) (hl : 0 ≤ left ∧ left ≤ 1048576) (hx : bigKV x) (w : World) :
    Calls Try.prog 168 #[.agg (Dat.cells x).toArray, .int .i64 left] w fun e w' => ∃ y : Ys, e = .returned (.int .i64 (y 0).n) ∧ (-1 ≤ (y 0).n ∧ (y 0).n ≤ left ∧ (0 ≤ (y 0).n → wtKV x)) ∧ Below w.heap.size w w' ∧ NewOk w.heap.size [] [] w' := by
  unfold bigKV maxLen at hx
  refine ok_enter 20 Try.func168 rfl rfl rfl ?_
  repeat' (first
    | refine ok_seq ?_
    | refine ok_then ?_
    | refine ok_then_ret ?_
    | (refine ok_cond rfl (fun hc => ?_) (fun hc => ?_) <;> (have hd := hc; (try simp only [decide_eq_true_eq, decide_eq_false_iff_not, Bool.or_eq_true, Bool.or_eq_false_iff, Bool.and_eq_true, Bool.and_eq_false_iff, Bool.not_eq_true', Bool.not_eq_false', bne_iff_ne, beq_iff_eq, bne_eq_false_iff_eq, beq_eq_false_iff_ne, ne_eq, Bool.not_true, Bool.not_false, Bool.false_eq_true, Bool.true_eq_false, inB_true, inB_false] at hd)))
    | refine ok_ret ?_
    | refine ok_skip ?_
    | (refine ok_region (i := 0) ?_; refine ok_m rfl rfl rfl (by exact ms_box rfl rfl rfl) ?_; rintro y2 hy2; refine ok_p rfl rfl rfl (by exact ps_assign rfl rfl) ?_; refine ok_nil ?_; refine ok_env [(1, _), (2, _)] ⟨rfl, rfl, trivial⟩ ?_)
    | (refine ok_region (i := 1) ?_; refine ok_p rfl rfl rfl (by exact ps_move rfl rfl) ?_; refine ok_p rfl rfl rfl (by exact ps_field rfl rfl (by exact isw_ga _)) ?_; refine ok_p rfl rfl rfl (by exact ps_load rfl rfl (by exact Rds.cell (rds_box 0 rfl) rfl)) ?_; refine ok_p rfl rfl rfl (by exact ps_slen rfl rfl) ?_; refine ok_p rfl rfl rfl (by exact ps_sub rfl rfl rfl (by omega)) ?_; refine ok_p rfl rfl rfl (by exact ps_assign rfl rfl) ?_; refine ok_nil ?_; refine ok_env [(1, _), (2, _)] ⟨rfl, rfl, trivial⟩ ?_)
    | (refine ok_region (i := 2) ?_; refine ok_p rfl rfl rfl (by exact ps_move rfl rfl) ?_; refine ok_p rfl rfl rfl (by exact ps_int rfl rfl rfl rfl) ?_; refine ok_nil ?_; refine ok_env [(1, _), (2, _), (11, _)] ⟨rfl, rfl, rfl, trivial⟩ ?_)
    | (refine ok_region (i := 3) ?_; refine ok_p rfl rfl rfl (by exact ps_assign rfl rfl) ?_; refine ok_nil ?_; refine ok_env [(4, _)] ⟨rfl, trivial⟩ ?_)
    | (refine ok_region (i := 4) ?_; refine ok_p rfl rfl rfl (by exact ps_move rfl rfl) ?_; refine ok_p rfl rfl rfl (by exact ps_field rfl rfl (by exact isw_ga _)) ?_; refine ok_p rfl rfl rfl (by exact ps_load rfl rfl (by exact Rds.cell (rds_box 0 rfl) rfl)) ?_; refine ok_p rfl rfl rfl (by exact ps_slen rfl rfl) ?_; refine ok_p rfl rfl rfl (by exact ps_sub rfl rfl rfl (by omega)) ?_; refine ok_p rfl rfl rfl (by exact ps_assign rfl rfl) ?_; refine ok_nil ?_; refine ok_env [(1, _)] ⟨rfl, trivial⟩ ?_)
    | (refine ok_region (i := 5) ?_; refine ok_p rfl rfl rfl (by exact ps_move rfl rfl) ?_; refine ok_p rfl rfl rfl (by exact ps_int rfl rfl rfl rfl) ?_; refine ok_nil ?_; refine ok_env [(1, _), (18, _)] ⟨rfl, rfl, trivial⟩ ?_)
    | (refine ok_region (i := 6) ?_; refine ok_p rfl rfl rfl (by exact ps_assign rfl rfl) ?_; refine ok_nil ?_; refine ok_env [(4, _)] ⟨rfl, trivial⟩ ?_)
    | (refine ok_region (i := 7) ?_; refine ok_p rfl rfl rfl (by exact ps_move rfl rfl) ?_; refine ok_p rfl rfl rfl (by exact ps_assign rfl rfl) ?_; refine ok_nil ?_; refine ok_env [(4, _)] ⟨rfl, trivial⟩ ?_))
  all_goals first
    | exact ok_endL (vs := [_]) rfl ⟨rfl, trivial⟩ (fun w' hw => ⟨mkN (-1) w, rfl, ⟨by show (-1 : Int) ≤ -1; decide, by show (-1 : Int) ≤ left; omega, fun h => absurd h (by show ¬ (0 : Int) ≤ -1; decide)⟩, hw.below, NewOk.nil _ _⟩)
    | exact ok_endL (vs := [_]) rfl ⟨rfl, trivial⟩ (fun w' hw => ⟨mkN (left - (x.key.size : Int) - (x.val.size : Int)) w, rfl, ⟨by show -1 ≤ left - (x.key.size : Int) - (x.val.size : Int); omega, by show left - (x.key.size : Int) - (x.val.size : Int) ≤ left; omega, fun _ => by unfold wtKV; omega⟩, hw.below, NewOk.nil _ _⟩)
theorem toKV_c (x : KV) (w : World) :
    Calls Try.prog 171 #[.agg (Dat.cells x).toArray] w fun e w' => e = .returned (.agg (Dat.cells x).toArray) ∧ Below w.heap.size w w' := by
  refine ok_enter 11 Try.func171 rfl rfl rfl ?_
  repeat' (first
    | refine ok_seq ?_
    | refine ok_then ?_
    | refine ok_ret ?_
    | (refine ok_region (i := 0) ?_; refine ok_m rfl rfl rfl (by exact ms_box rfl rfl rfl) ?_; rintro y1 hy1; refine ok_m rfl rfl rfl (by exact ms_alloc rfl) ?_; rintro y2 hy2; refine ok_nil ?_; refine ok_env [(1, _), (2, _)] ⟨rfl, rfl, trivial⟩ ?_)
    | (refine ok_region (i := 1) ?_; refine ok_m rfl rfl rfl (by exact ms_alloc rfl) ?_; rintro y3 hy3; refine ok_nil ?_; refine ok_env [(1, _), (2, _), (3, _)] ⟨rfl, rfl, rfl, trivial⟩ ?_)
    | (refine ok_region (i := 2) ?_; refine ok_p rfl rfl rfl (by exact ps_field rfl rfl (by exact isw_ga _)) ?_; refine ok_p rfl rfl rfl (by exact ps_load rfl rfl (by exact Rds.cell (rds_box 2 rfl) rfl)) ?_; refine ok_p rfl rfl rfl (by exact ps_field rfl rfl (by exact isw_ga _)) ?_; refine ok_m_ rfl rfl (by exact ms_store 0 rfl rfl rfl rfl rfl rfl rfl rfl) ?_; rintro y_ hy_; refine ok_nil ?_; refine ok_env [(1, _), (2, _), (3, _)] ⟨rfl, rfl, rfl, trivial⟩ ?_)
    | (refine ok_region (i := 3) ?_; refine ok_p rfl rfl rfl (by exact ps_field rfl rfl (by exact isw_ga _)) ?_; refine ok_p rfl rfl rfl (by exact ps_load rfl rfl (by exact Rds.cell (rds_box 2 rfl) rfl)) ?_; refine ok_p rfl rfl rfl (by exact ps_field rfl rfl (by exact isw_ga _)) ?_; refine ok_m_ rfl rfl (by exact ms_store 0 rfl rfl rfl rfl rfl rfl rfl rfl) ?_; rintro y_ hy_; refine ok_nil ?_; refine ok_env [(2, _), (3, _)] ⟨rfl, rfl, trivial⟩ ?_)
    | (refine ok_region (i := 4) ?_; refine ok_p rfl rfl rfl (by exact ps_loads rfl rfl (by exact rds_box 0 rfl) rfl rfl (by decide)) ?_; refine ok_m_ rfl rfl (by exact ms_store 1 rfl rfl rfl rfl rfl rfl rfl rfl) ?_; rintro y_ hy_; refine ok_nil ?_; refine ok_env [(2, _)] ⟨rfl, trivial⟩ ?_))
  exact ok_endL (vs := [.agg (Dat.cells x).toArray]) rfl ⟨⟨_, 1, _, _, _, rfl, rfl, inferInstance, rfl, rfl⟩, trivial⟩ (fun w' hw => ⟨rfl, hw.below⟩)
theorem eqKV_c (x : KV) (w : World) :
    Calls Try.prog 176 #[.agg (Dat.cells x).toArray, .agg (Dat.cells x).toArray] w fun e w' => e = .returned (.bool true) ∧ Below w.heap.size w w' := by
  refine ok_enter 15 Try.func176 rfl rfl rfl ?_
  repeat' (first
    | refine ok_seq ?_
    | refine ok_then ?_
    | refine ok_then_ret ?_
    | (refine ok_cond rfl (fun hc => ?_) (fun hc => ?_) <;> (have hd := hc; (try simp only [decide_eq_true_eq, decide_eq_false_iff_not, Bool.or_eq_true, Bool.or_eq_false_iff, Bool.and_eq_true, Bool.and_eq_false_iff, Bool.not_eq_true', Bool.not_eq_false', bne_iff_ne, beq_iff_eq, bne_eq_false_iff_eq, beq_eq_false_iff_ne, ne_eq, Bool.not_true, Bool.not_false, Bool.false_eq_true, Bool.true_eq_false, inB_true, inB_false] at hd)))
    | refine ok_ret ?_
    | refine ok_skip ?_
    | (refine ok_region (i := 0) ?_; refine ok_m rfl rfl rfl (by exact ms_box rfl rfl rfl) ?_; rintro y2 hy2; refine ok_m rfl rfl rfl (by exact ms_box rfl rfl rfl) ?_; rintro y3 hy3; refine ok_p rfl rfl rfl (by exact ps_assign rfl rfl) ?_; refine ok_nil ?_; refine ok_env [(2, _), (3, _)] ⟨rfl, rfl, trivial⟩ ?_)
    | (refine ok_region (i := 1) ?_; refine ok_p rfl rfl rfl (by exact ps_field rfl rfl (by exact isw_ga _)) ?_; refine ok_p rfl rfl rfl (by exact ps_load rfl rfl (by exact Rds.cell (rds_box 1 rfl) rfl)) ?_; refine ok_p rfl rfl rfl (by exact ps_field rfl rfl (by exact isw_ga _)) ?_; refine ok_p rfl rfl rfl (by exact ps_load rfl rfl (by exact Rds.cell (rds_box 0 rfl) rfl)) ?_; refine ok_p rfl rfl rfl (by exact ps_str rfl rfl rfl rfl) ?_; refine ok_nil ?_; refine ok_env [(2, _), (3, _), (9, _)] ⟨rfl, rfl, rfl, trivial⟩ ?_)
    | (refine ok_region (i := 2) ?_; refine ok_p rfl rfl rfl (by exact ps_assign rfl rfl) ?_; refine ok_nil ?_; refine ok_env [(4, _)] ⟨rfl, trivial⟩ ?_)
    | (refine ok_region (i := 3) ?_; refine ok_p rfl rfl rfl (by exact ps_field rfl rfl (by exact isw_ga _)) ?_; refine ok_p rfl rfl rfl (by exact ps_load rfl rfl (by exact Rds.cell (rds_box 1 rfl) rfl)) ?_; refine ok_p rfl rfl rfl (by exact ps_field rfl rfl (by exact isw_ga _)) ?_; refine ok_p rfl rfl rfl (by exact ps_load rfl rfl (by exact Rds.cell (rds_box 0 rfl) rfl)) ?_; refine ok_p rfl rfl rfl (by exact ps_str rfl rfl rfl rfl) ?_; refine ok_nil ?_; refine ok_env [(14, _)] ⟨rfl, trivial⟩ ?_)
    | (refine ok_region (i := 4) ?_; refine ok_p rfl rfl rfl (by exact ps_assign rfl rfl) ?_; refine ok_nil ?_; refine ok_env [(4, _)] ⟨rfl, trivial⟩ ?_)
    | (refine ok_region (i := 5) ?_; refine ok_p rfl rfl rfl (by exact ps_assign rfl rfl) ?_; refine ok_nil ?_; refine ok_env [(4, _)] ⟨rfl, trivial⟩ ?_))
  all_goals first
    | (exfalso; simp [sEq] at hc; done)
    | exact ok_endL (vs := [_]) rfl ⟨rfl, trivial⟩ (fun w' hw => ⟨rfl, hw.below⟩)
theorem szKVS_c (A : Option Addr) (c : Nat) (l : List KV) (left : Int) (hl : 0 ≤ left ∧ left ≤ 1048576) (hn : l.length ≤ maxLen) (hx : ∀ x ∈ l, bigKV x) (w : World) (h : Rd w A (fl l)) :
    Calls Try.prog 69 #[.slice A l.length c, .int .i64 left] w fun e w' => ∃ y : Ys, e = .returned (.int .i64 (y 0).n) ∧ (-1 ≤ (y 0).n ∧ (y 0).n ≤ left ∧ (0 ≤ (y 0).n → (l.length : Int) ≤ left ∧ ∀ x ∈ l, wtKV x)) ∧ Below w.heap.size w w' ∧ NewOk w.heap.size [] [] w' := by
  unfold maxLen at hn
  refine ok_enter 27 Try.func69 rfl rfl rfl ?_
  repeat' (first
    | refine ok_seq ?_
    | refine ok_then ?_
    | refine ok_then_ret ?_
    | refine ok_block ?_
    | (refine ok_cond rfl (fun hc => ?_) (fun hc => ?_) <;> (have hd := hc; (try simp only [decide_eq_true_eq, decide_eq_false_iff_not, Bool.or_eq_true, Bool.or_eq_false_iff, Bool.and_eq_true, Bool.and_eq_false_iff, Bool.not_eq_true', Bool.not_eq_false', bne_iff_ne, beq_iff_eq, bne_eq_false_iff_eq, beq_eq_false_iff_ne, ne_eq, Bool.not_true, Bool.not_false, Bool.false_eq_true, Bool.true_eq_false, inB_true, inB_false] at hd)))
    | refine ok_ret ?_
    | refine ok_skip ?_
    | (refine ok_region (i := 0) ?_; refine ok_p rfl rfl rfl (by exact ps_assign rfl rfl) ?_; refine ok_nil ?_; refine ok_env [(0, _), (1, _)] ⟨rfl, rfl, trivial⟩ ?_)
    | (refine ok_region (i := 1) ?_; refine ok_p rfl rfl rfl (by exact ps_move rfl rfl) ?_; refine ok_p rfl rfl rfl (by exact ps_move rfl rfl) ?_; refine ok_p rfl rfl rfl (by exact ps_len rfl rfl) ?_; refine ok_p rfl rfl rfl (by exact ps_sub rfl rfl rfl (by omega)) ?_; refine ok_p rfl rfl rfl (by exact ps_assign rfl rfl) ?_; refine ok_nil ?_; refine ok_env [(0, _), (1, _)] ⟨rfl, rfl, trivial⟩ ?_)
    | (refine ok_region (i := 2) ?_; refine ok_p rfl rfl rfl (by exact ps_move rfl rfl) ?_; refine ok_p rfl rfl rfl (by exact ps_int rfl rfl rfl rfl) ?_; refine ok_nil ?_; refine ok_env [(0, _), (1, _), (11, _)] ⟨rfl, rfl, rfl, trivial⟩ ?_)
    | (refine ok_region (i := 3) ?_; refine ok_p rfl rfl rfl (by exact ps_assign rfl rfl) ?_; refine ok_nil ?_; refine ok_env [(4, _)] ⟨rfl, trivial⟩ ?_)
    | (refine ok_region (i := 4) ?_; refine ok_p rfl rfl rfl (by exact ps_assign rfl rfl) ?_; refine ok_nil ?_; refine ok_env [(0, _), (1, _), (5, _)] ⟨rfl, rfl, rfl, trivial⟩ ?_))
  · exact ok_endL (vs := [_]) rfl ⟨rfl, trivial⟩ (fun w' hw => ⟨mkN (-1) w, rfl, ⟨by show (-1 : Int) ≤ -1; decide, by show (-1 : Int) ≤ left; omega, fun h => absurd h (by show ¬ (0 : Int) ≤ -1; decide)⟩, hw.below, NewOk.nil _ _⟩)
  · refine ok_loop (ι := { p : Nat × Int // p.1 ≤ l.length ∧ 0 ≤ p.2 ∧ p.2 ≤ left - l.length ∧ ∀ j, j < p.1 → wtKV (nth l j) }) (fun p => l.length - p.1.1) (fun p => ([(0, .slice A l.length c), (1, .int .i64 p.1.2), (5, .int .i64 p.1.1)], _, _)) ⟨(0, left - l.length), by simp only; omega, by simp only; omega, by simp only; omega, fun j h => absurd h (Nat.not_lt_zero j)⟩ (fun a w he hw => ⟨⟨(0, left - l.length), by simp only; omega, by simp only; omega, by simp only; omega, fun j h => absurd h (Nat.not_lt_zero j)⟩, he.sub ⟨rfl, rfl, rfl, trivial⟩, hw⟩) ?_
    rintro ⟨⟨k, r⟩, hk, hr0, hr1, hwt⟩
    simp only at hk hr0 hr1 hwt ⊢
    have HW := Lib.hid hwt; clear hwt
    repeat' (first
      | refine ok_seq ?_
      | refine ok_then ?_
      | refine ok_then_ret ?_
      | refine ok_block ?_
      | refine ok_in_normal ?_
      | refine ok_in_ret ?_
      | (refine ok_cond rfl (fun hc => ?_) (fun hc => ?_) <;> (have hd := hc; (try simp only [decide_eq_true_eq, decide_eq_false_iff_not, Bool.or_eq_true, Bool.or_eq_false_iff, Bool.and_eq_true, Bool.and_eq_false_iff, Bool.not_eq_true', Bool.not_eq_false', bne_iff_ne, beq_iff_eq, bne_eq_false_iff_eq, beq_eq_false_iff_ne, ne_eq, Bool.not_true, Bool.not_false, Bool.false_eq_true, Bool.true_eq_false, inB_true, inB_false] at hd)))
      | refine ok_ret ?_
      | refine ok_exit ?_
      | refine ok_skip ?_
      | (refine ok_region (i := 5) ?_; refine ok_p rfl rfl rfl (by exact ps_move rfl rfl) ?_; refine ok_p rfl rfl rfl (by exact ps_move rfl rfl) ?_; refine ok_p rfl rfl rfl (by exact ps_len rfl rfl) ?_; refine ok_p rfl rfl rfl (by exact ps_int rfl rfl rfl rfl) ?_; refine ok_nil ?_; refine ok_env [(0, _), (1, _), (5, _), (15, _)] ⟨rfl, rfl, rfl, rfl, trivial⟩ ?_)
      | (refine ok_region (i := 6) ?_; refine ok_p rfl rfl rfl (by exact ps_move rfl rfl) ?_; refine ok_p rfl rfl rfl (by exact ps_add rfl rfl rfl (by omega)) ?_; refine ok_p rfl rfl rfl (by exact ps_assign rfl rfl) ?_; refine ok_nil ?_; refine ok_env [(0, _), (1, _), (5, _)] ⟨rfl, rfl, rfl, trivial⟩ ?_)
      | (refine ok_region (i := 7) ?_; refine ok_p rfl rfl rfl (by exact ps_move rfl rfl) ?_; refine ok_p rfl rfl rfl (by exact ps_move rfl rfl) ?_; refine ok_p rfl rfl rfl (by exact ps_indexN rfl rfl rfl (by omega) (by exact isw_of (isS_fl (by assumption) (by omega)))) ?_; refine ok_p rfl rfl rfl (by exact ps_loadsF rfl rfl (by exact rds_rf (by assumption) (by exact List.mem_cons_self)) (by rfl) (by rfl) (by omega) rfl) ?_; refine ok_p rfl rfl rfl (by exact ps_move rfl rfl) ?_; refine ok_m rfl rfl rfl (by exact ms_c2 rfl rfl rfl (fun _ _ w hw => szKV_c _ _ ⟨by omega, by omega⟩ (hx _ (nth_mem l k (by omega))) w)) ?_; rintro y23 hy23; refine ok_p rfl rfl rfl (by exact ps_assign rfl rfl) ?_; refine ok_nil ?_; refine ok_env [(0, _), (1, _), (5, _)] ⟨rfl, rfl, rfl, trivial⟩ ?_)
      | (refine ok_region (i := 8) ?_; refine ok_p rfl rfl rfl (by exact ps_move rfl rfl) ?_; refine ok_p rfl rfl rfl (by exact ps_int rfl rfl rfl rfl) ?_; refine ok_nil ?_; refine ok_env [(0, _), (1, _), (5, _), (25, _)] ⟨rfl, rfl, rfl, rfl, trivial⟩ ?_)
      | (refine ok_region (i := 9) ?_; refine ok_p rfl rfl rfl (by exact ps_assign rfl rfl) ?_; refine ok_nil ?_; refine ok_env [(4, _)] ⟨rfl, trivial⟩ ?_)
      | (refine ok_region (i := 10) ?_; refine ok_p rfl rfl rfl (by exact ps_move rfl rfl) ?_; refine ok_p rfl rfl rfl (by exact ps_assign rfl rfl) ?_; refine ok_nil ?_; refine ok_env [(4, _)] ⟨rfl, trivial⟩ ?_))
    · exact ok_endL (vs := [_]) rfl ⟨rfl, trivial⟩ (fun w' hw => ⟨mkN (-1) w, rfl, ⟨by show (-1 : Int) ≤ -1; decide, by show (-1 : Int) ≤ left; omega, fun h => absurd h (by show ¬ (0 : Int) ≤ -1; decide)⟩, hw.below, NewOk.nil _ _⟩)
    · obtain ⟨g1, g2, g3⟩ := hy23
      refine fun a w' he hw => ⟨⟨(k + 1, (y23 0).n), by simp only; omega, by simp only; omega, by simp only; omega, fun j hj => ?_⟩, by simp only; omega, he.sub ⟨rfl, rfl, rfl, trivial⟩, hw⟩
      rcases Nat.lt_succ_iff_lt_or_eq.1 hj with h' | h'
      · exact HW.out j h'
      · subst h'; exact g3 (by omega)
    · obtain rfl : k = l.length := by omega
      exact ok_endL (vs := [_]) rfl ⟨rfl, trivial⟩ (fun w' hw => ⟨mkN r w, rfl, ⟨by show -1 ≤ r; omega, by show r ≤ left; omega, fun _ => ⟨by omega, mem_nth (fun j hj => HW.out j hj)⟩⟩, hw.below, NewOk.nil _ _⟩)
theorem toKVS_c (A : Option Addr) (c : Nat) (l : List KV) (w : World) (h : Rd w A (fl l)) (hl : l.length ≤ 1048576) :
    Calls Try.prog 71 #[.slice A l.length c] w fun e w' => ∃ y : Ys, e = .returned (.slice (y 0).A l.length (y 0).c) ∧ True ∧ Below w.heap.size w w' ∧ NewOk w.heap.size [.row 162 2 (y 0).A l.length (y 0).c (fl l)] [] w' := by
  refine ok_enter 23 Try.func71 rfl rfl rfl ?_
  repeat' (first
    | refine ok_seq ?_
    | refine ok_then ?_
    | refine ok_block ?_
    | (refine ok_region (i := 0) ?_; refine ok_p rfl rfl rfl (by exact ps_assign rfl rfl) ?_; refine ok_nil ?_; refine ok_env [(0, _)] ⟨rfl, trivial⟩ ?_)
    | (refine ok_region (i := 1) ?_; refine ok_p rfl rfl rfl (by exact ps_move rfl rfl) ?_; refine ok_p rfl rfl rfl (by exact ps_len rfl rfl) ?_; refine ok_m rfl rfl rfl (by exact ms_make (z := Dat.cells (Dat.dflt : KV)) rfl rfl rfl (by omega) (by omega)) ?_; rintro y7 hy7; refine ok_p rfl rfl rfl (by exact ps_assign rfl rfl) ?_; refine ok_nil ?_; refine ok_env [(0, _), (3, _)] ⟨rfl, rfl, trivial⟩ ?_)
    | (refine ok_region (i := 2) ?_; refine ok_p rfl rfl rfl (by exact ps_assign rfl rfl) ?_; refine ok_nil ?_; refine ok_env [(0, _), (3, _), (4, _)] ⟨rfl, rfl, rfl, trivial⟩ ?_))
  rw [show (madeCells (Dat.cells (Dat.dflt : KV)).toArray (l.length * 2)).toList = fl (List.replicate l.length (Dat.dflt : KV)) from made_fl (Dat.dflt : KV) l.length]
  refine ok_loop (ι := { k : Nat // k ≤ l.length }) (fun k => l.length - k.1) (fun k => ([(0, .slice A l.length c), (3, .slice (ga (y7 0).c) l.length l.length), (4, .int .i64 k.1)], [.row 162 2 (ga (y7 0).c) l.length l.length (fl (l.take k.1 ++ List.replicate (l.length - k.1) (Dat.dflt : KV)))], _)) ⟨0, by omega⟩ (fun a w he hw => ⟨⟨0, by omega⟩, he.sub ⟨rfl, rfl, rfl, trivial⟩, by simpa using hw⟩) ?_
  rintro ⟨k, hk⟩
  simp only at hk ⊢
  repeat' (first
    | refine ok_seq ?_
    | refine ok_then ?_
    | refine ok_block ?_
    | refine ok_in_normal ?_
    | (refine ok_cond rfl (fun hc => ?_) (fun hc => ?_) <;> (have hd := hc; (try simp only [decide_eq_true_eq, decide_eq_false_iff_not, Bool.or_eq_true, Bool.or_eq_false_iff, Bool.and_eq_true, Bool.and_eq_false_iff, Bool.not_eq_true', Bool.not_eq_false', bne_iff_ne, beq_iff_eq, bne_eq_false_iff_eq, beq_eq_false_iff_ne, ne_eq, Bool.not_true, Bool.not_false, Bool.false_eq_true, Bool.true_eq_false, inB_true, inB_false] at hd)))
    | refine ok_ret ?_
    | refine ok_exit ?_
    | refine ok_skip ?_
    | (refine ok_region (i := 3) ?_; refine ok_p rfl rfl rfl (by exact ps_move rfl rfl) ?_; refine ok_p rfl rfl rfl (by exact ps_move rfl rfl) ?_; refine ok_p rfl rfl rfl (by exact ps_len rfl rfl) ?_; refine ok_p rfl rfl rfl (by exact ps_int rfl rfl rfl rfl) ?_; refine ok_nil ?_; refine ok_env [(0, _), (3, _), (4, _), (11, _)] ⟨rfl, rfl, rfl, rfl, trivial⟩ ?_)
    | (refine ok_region (i := 4) ?_; refine ok_p rfl rfl rfl (by exact ps_move rfl rfl) ?_; refine ok_p rfl rfl rfl (by exact ps_add rfl rfl rfl (by omega)) ?_; refine ok_p rfl rfl rfl (by exact ps_assign rfl rfl) ?_; refine ok_nil ?_; refine ok_env [(0, _), (3, _), (4, _)] ⟨rfl, rfl, rfl, trivial⟩ ?_)
    | (refine ok_region (i := 5) ?_; refine ok_p rfl rfl rfl (by exact ps_move rfl rfl) ?_; refine ok_p rfl rfl rfl (by exact ps_move rfl rfl) ?_; refine ok_p rfl rfl rfl (by exact ps_move rfl rfl) ?_; refine ok_p rfl rfl rfl (by exact ps_move rfl rfl) ?_; refine ok_p rfl rfl rfl (by exact ps_indexN rfl rfl rfl (by omega) (by exact isw_of (isS_fl (by assumption) (by omega)))) ?_; refine ok_p rfl rfl rfl (by exact ps_loadsF rfl rfl (by exact rds_rf (by assumption) (by exact List.mem_cons_self)) (by rfl) (by rfl) (by omega) rfl) ?_; refine ok_m rfl rfl rfl (by exact ms_s1 rfl rfl (fun _ _ w hw => toKV_c _ w)) ?_; rintro y20 hy20; refine ok_p rfl rfl rfl (by exact ps_indexN rfl rfl rfl (by omega) (by exact isw_ga _)) ?_; refine ok_m_ rfl rfl (by exact ms_setw 0 k (nth l k) rfl rfl rfl rfl rfl rfl rfl rfl rfl (by simp; omega)) ?_; rintro y_ hy_; refine ok_nil ?_; refine ok_env [(0, _), (3, _), (4, _)] ⟨rfl, rfl, rfl, trivial⟩ ?_)
    | (refine ok_region (i := 6) ?_; refine ok_p rfl rfl rfl (by exact ps_move rfl rfl) ?_; refine ok_p rfl rfl rfl (by exact ps_assign rfl rfl) ?_; refine ok_nil ?_; refine ok_env [(2, _)] ⟨rfl, trivial⟩ ?_))
  · refine fun a w' he hw => ⟨⟨k + 1, by omega⟩, by simp only; omega, he.sub ⟨rfl, rfl, rfl, trivial⟩, ?_⟩
    simp only
    rw [← fill_step l Dat.dflt k (by omega)]
    exact hw
  · obtain rfl : k = l.length := by omega
    refine ok_endL (vs := [_]) rfl ⟨rfl, trivial⟩ (fun w' hw => ⟨mkY (ga (y7 0).c) l.length w, rfl, trivial, hw.below, ?_⟩)
    have := NewOk.of hw
    simpa [mkY] using this
theorem eqKVS_c (A B : Option Addr) (c d : Nat) (l : List KV) (w : World) (h : Rd w A (fl l)) (h2 : Rd w B (fl l)) (hl : l.length ≤ 140737488355328) :
    Calls Try.prog 73 #[.slice A l.length c, .slice B l.length d] w fun e w' => e = .returned (.bool true) ∧ Below w.heap.size w w' := by
  refine ok_enter 27 Try.func73 rfl rfl rfl ?_
  repeat' (first
    | refine ok_seq ?_
    | refine ok_then ?_
    | refine ok_then_ret ?_
    | refine ok_block ?_
    | (refine ok_cond rfl (fun hc => ?_) (fun hc => ?_) <;> (have hd := hc; (try simp only [decide_eq_true_eq, decide_eq_false_iff_not, Bool.or_eq_true, Bool.or_eq_false_iff, Bool.and_eq_true, Bool.and_eq_false_iff, Bool.not_eq_true', Bool.not_eq_false', bne_iff_ne, beq_iff_eq, bne_eq_false_iff_eq, beq_eq_false_iff_ne, ne_eq, Bool.not_true, Bool.not_false, Bool.false_eq_true, Bool.true_eq_false, inB_true, inB_false] at hd)))
    | refine ok_ret ?_
    | refine ok_skip ?_
    | (refine ok_region (i := 0) ?_; refine ok_p rfl rfl rfl (by exact ps_assign rfl rfl) ?_; refine ok_nil ?_; refine ok_env [(0, _), (1, _)] ⟨rfl, rfl, trivial⟩ ?_)
    | (refine ok_region (i := 1) ?_; refine ok_p rfl rfl rfl (by exact ps_move rfl rfl) ?_; refine ok_p rfl rfl rfl (by exact ps_len rfl rfl) ?_; refine ok_p rfl rfl rfl (by exact ps_move rfl rfl) ?_; refine ok_p rfl rfl rfl (by exact ps_len rfl rfl) ?_; refine ok_p rfl rfl rfl (by exact ps_int rfl rfl rfl rfl) ?_; refine ok_nil ?_; refine ok_env [(0, _), (1, _), (10, _)] ⟨rfl, rfl, rfl, trivial⟩ ?_)
    | (refine ok_region (i := 2) ?_; refine ok_p rfl rfl rfl (by exact ps_assign rfl rfl) ?_; refine ok_nil ?_; refine ok_env [(4, _)] ⟨rfl, trivial⟩ ?_)
    | (refine ok_region (i := 3) ?_; refine ok_p rfl rfl rfl (by exact ps_assign rfl rfl) ?_; refine ok_nil ?_; refine ok_env [(0, _), (1, _), (5, _)] ⟨rfl, rfl, rfl, trivial⟩ ?_))
  · exact absurd hc (by simp)
  · refine ok_loop (ι := { k : Nat // k ≤ l.length }) (fun k => l.length - k.1) (fun k => ([(0, .slice A l.length c), (1, .slice B l.length d), (5, .int .i64 k.1)], _, _)) ⟨0, by omega⟩ (fun a w he hw => ⟨⟨0, by omega⟩, he.sub ⟨rfl, rfl, rfl, trivial⟩, hw⟩) ?_
    rintro ⟨k, hk⟩
    simp only at hk ⊢
    repeat' (first
      | refine ok_seq ?_
      | refine ok_then ?_
      | refine ok_block ?_
      | refine ok_in_normal ?_
      | (refine ok_cond rfl (fun hc => ?_) (fun hc => ?_) <;> (have hd := hc; (try simp only [decide_eq_true_eq, decide_eq_false_iff_not, Bool.or_eq_true, Bool.or_eq_false_iff, Bool.and_eq_true, Bool.and_eq_false_iff, Bool.not_eq_true', Bool.not_eq_false', bne_iff_ne, beq_iff_eq, bne_eq_false_iff_eq, beq_eq_false_iff_ne, ne_eq, Bool.not_true, Bool.not_false, Bool.false_eq_true, Bool.true_eq_false, inB_true, inB_false] at hd)))
      | refine ok_ret ?_
      | refine ok_exit ?_
      | refine ok_skip ?_
      | (refine ok_region (i := 4) ?_; refine ok_p rfl rfl rfl (by exact ps_move rfl rfl) ?_; refine ok_p rfl rfl rfl (by exact ps_move rfl rfl) ?_; refine ok_p rfl rfl rfl (by exact ps_len rfl rfl) ?_; refine ok_p rfl rfl rfl (by exact ps_int rfl rfl rfl rfl) ?_; refine ok_nil ?_; refine ok_env [(0, _), (1, _), (5, _), (14, _)] ⟨rfl, rfl, rfl, rfl, trivial⟩ ?_)
      | (refine ok_region (i := 5) ?_; refine ok_p rfl rfl rfl (by exact ps_move rfl rfl) ?_; refine ok_p rfl rfl rfl (by exact ps_add rfl rfl rfl (by omega)) ?_; refine ok_p rfl rfl rfl (by exact ps_assign rfl rfl) ?_; refine ok_nil ?_; refine ok_env [(0, _), (1, _), (5, _)] ⟨rfl, rfl, rfl, trivial⟩ ?_)
      | (refine ok_draw (id := 6) 10 rfl (by kernel_rfl) (by kernel_rfl) rfl (by repeat (first | exact pq_body | refine pq_then ?_ | refine pq_in ?_)) [0, 1, 2, 3, 4, 5, 6, 7, 8, 9, 10, 11, 12, 13, 14, 15, 16, 17, 18, 19, 20, 21, 22, 23] (by decide) rfl ?_; refine okT_take (i := 0) rfl (by kernel_rfl) rfl rfl rfl (by exact ps_move rfl rfl) ?_; refine okT_take (i := 1) rfl (by kernel_rfl) rfl rfl rfl (by exact ps_move rfl rfl) ?_; refine okT_take (i := 2) rfl (by kernel_rfl) rfl rfl rfl (by exact ps_indexN rfl rfl rfl (by omega) (by exact isw_of (isS_fl (by assumption) (by omega)))) ?_; refine okT_take (i := 3) rfl (by kernel_rfl) rfl rfl rfl (by exact ps_loadsF rfl rfl (by exact rds_rf (by assumption) (by exact List.mem_cons_self)) (by rfl) (by rfl) (by omega) rfl) ?_; refine okT_take (i := 4) rfl (by kernel_rfl) rfl rfl rfl (by exact ps_move rfl rfl) ?_; refine okT_take (i := 5) rfl (by kernel_rfl) rfl rfl rfl (by exact ps_move rfl rfl) ?_; refine okT_take (i := 6) rfl (by kernel_rfl) rfl rfl rfl (by exact ps_indexN rfl rfl rfl (by omega) (by exact isw_of (isS_fl (by assumption) (by omega)))) ?_; refine okT_take (i := 7) rfl (by kernel_rfl) rfl rfl rfl (by exact ps_loadsF rfl rfl (by exact rds_rf (by assumption) (by exact List.mem_cons_self)) (by rfl) (by rfl) (by omega) rfl) ?_; refine okT_one (i := 8) rfl rfl (by kernel_rfl) rfl rfl rfl (by exact ms_s2 rfl rfl rfl (fun _ _ w hw => eqKV_c _ w)) (fun y w _ h => by exact h) ?_; rintro y25 hy25; refine okT_take (i := 9) rfl (by kernel_rfl) rfl rfl rfl (by exact ps_not rfl rfl) ?_; refine okT_done (by kernel_rfl) ?_; refine ok_nil ?_; refine ok_env [(0, _), (1, _), (5, _), (26, _)] ⟨rfl, rfl, rfl, rfl, trivial⟩ ?_)
      | (refine ok_region (i := 8) ?_; refine ok_p rfl rfl rfl (by exact ps_assign rfl rfl) ?_; refine ok_nil ?_; refine ok_env [(4, _)] ⟨rfl, trivial⟩ ?_))
    all_goals first
      | (exfalso; simp [sEq] at hc; done)
      | exact fun a w' he hw => ⟨⟨k + 1, by omega⟩, by simp only; omega, he.sub ⟨rfl, rfl, rfl, trivial⟩, hw⟩
      | exact ok_endL (vs := [_]) rfl ⟨rfl, trivial⟩ (fun w' hw => ⟨rfl, hw.below⟩)
theorem markKVS_c (A : Option Addr) (c : Nat) (l : List KV) (k0 : Int) (hk0 : 0 ≤ k0 ∧ k0 ≤ 1000000000000000) (hl : l.length ≤ 140737488355328) {base : Nat} {w0 w : World} {H : List HObj} {G : List World}
    (hw : WOk base w0 (.row 162 2 A l.length c (fl l) :: H) G w) :
    Calls Try.prog 74 #[.slice A l.length c, .int .i64 k0] w fun e w' => ∃ y : Ys, e = .returned (.int .i64 (k0 + 2 * (l.length : Int))) ∧ True ∧ WOk base w0 (.row 162 2 A l.length c (fl (mkL k0 l.length : List KV)) :: H) G w' := by
  refine ok_enterW 29 Try.func74 rfl rfl rfl hw ?_
  repeat' (first
    | refine ok_seq ?_
    | refine ok_then ?_
    | refine ok_block ?_
    | (refine ok_region (i := 0) ?_; refine ok_p rfl rfl rfl (by exact ps_assign rfl rfl) ?_; refine ok_nil ?_; refine ok_env [(0, _), (1, _)] ⟨rfl, rfl, trivial⟩ ?_)
    | (refine ok_region (i := 1) ?_; refine ok_p rfl rfl rfl (by exact ps_assign rfl rfl) ?_; refine ok_nil ?_; refine ok_env [(0, _), (1, _), (5, _)] ⟨rfl, rfl, rfl, trivial⟩ ?_))
  refine ok_loop (ι := { k : Nat // k ≤ l.length }) (fun k => l.length - k.1) (fun k => ([(0, .slice A l.length c), (1, .int .i64 (k0 + 2 * (k.1 : Int))), (5, .int .i64 k.1)], .row 162 2 A l.length c (fl (mkL k0 k.1 ++ l.drop k.1)) :: H, _)) ⟨0, by omega⟩ (fun a w he hw => ⟨⟨0, by omega⟩, he.sub ⟨rfl, by simp [look, initE], rfl, trivial⟩, by simpa [mkL] using hw⟩) ?_
  rintro ⟨k, hk⟩
  simp only at hk ⊢
  repeat' (first
    | refine ok_seq ?_
    | refine ok_then ?_
    | refine ok_block ?_
    | refine ok_in_normal ?_
    | (refine ok_cond rfl (fun hc => ?_) (fun hc => ?_) <;> (have hd := hc; (try simp only [decide_eq_true_eq, decide_eq_false_iff_not, Bool.or_eq_true, Bool.or_eq_false_iff, Bool.and_eq_true, Bool.and_eq_false_iff, Bool.not_eq_true', Bool.not_eq_false', bne_iff_ne, beq_iff_eq, bne_eq_false_iff_eq, beq_eq_false_iff_ne, ne_eq, Bool.not_true, Bool.not_false, Bool.false_eq_true, Bool.true_eq_false, inB_true, inB_false] at hd)))
    | refine ok_ret ?_
    | refine ok_exit ?_
    | refine ok_skip ?_
    | (refine ok_region (i := 2) ?_; refine ok_p rfl rfl rfl (by exact ps_move rfl rfl) ?_; refine ok_p rfl rfl rfl (by exact ps_move rfl rfl) ?_; refine ok_p rfl rfl rfl (by exact ps_len rfl rfl) ?_; refine ok_p rfl rfl rfl (by exact ps_int rfl rfl rfl rfl) ?_; refine ok_nil ?_; refine ok_env [(0, _), (1, _), (5, _), (9, _)] ⟨rfl, rfl, rfl, rfl, trivial⟩ ?_)
    | (refine ok_region (i := 3) ?_; refine ok_p rfl rfl rfl (by exact ps_move rfl rfl) ?_; refine ok_p rfl rfl rfl (by exact ps_add rfl rfl rfl (by omega)) ?_; refine ok_p rfl rfl rfl (by exact ps_assign rfl rfl) ?_; refine ok_nil ?_; refine ok_env [(0, _), (1, _), (5, _)] ⟨rfl, rfl, rfl, trivial⟩ ?_)
    | (refine ok_region (i := 4) ?_; refine ok_p rfl rfl rfl (by exact ps_move rfl rfl) ?_; refine ok_p rfl rfl rfl (by exact ps_move rfl rfl) ?_; refine ok_p rfl rfl rfl (by exact ps_move rfl rfl) ?_; refine ok_m rfl rfl rfl (by exact ms_s1 rfl rfl (fun _ _ w hw => markText_c _ (by omega) w)) ?_; rintro y15 hy15; refine ok_p rfl rfl rfl (by exact ps_indexN rfl rfl rfl (by omega) (by exact isw_row 0 rfl (by omega))) ?_; refine ok_p rfl rfl rfl (by exact ps_field rfl rfl (by exact isw_row 0 rfl (by omega))) ?_; refine ok_m_ rfl rfl (by exact ms_setc 0 k 0 (⟨mT ((k0 + 2 * (k : Int))), (nth l k).val⟩ : KV) rfl rfl rfl rfl rfl rfl rfl rfl (by rw [mk_nth _ _ _ (by omega)]; rfl) (by simp [mkL_len]; omega)) ?_; rintro y_ hy_; refine ok_nil ?_; refine ok_env [(0, _), (1, _), (5, _)] ⟨rfl, rfl, rfl, trivial⟩ ?_)
    | (refine ok_region (i := 5) ?_; refine ok_p rfl rfl rfl (by exact ps_move rfl rfl) ?_; refine ok_p rfl rfl rfl (by exact ps_add rfl rfl rfl (by omega)) ?_; refine ok_p rfl rfl rfl (by exact ps_assign rfl rfl) ?_; refine ok_nil ?_; refine ok_env [(0, _), (1, _), (5, _)] ⟨rfl, rfl, rfl, trivial⟩ ?_)
    | (refine ok_region (i := 6) ?_; refine ok_p rfl rfl rfl (by exact ps_move rfl rfl) ?_; refine ok_p rfl rfl rfl (by exact ps_move rfl rfl) ?_; refine ok_p rfl rfl rfl (by exact ps_move rfl rfl) ?_; refine ok_m rfl rfl rfl (by exact ms_s1 rfl rfl (fun _ _ w hw => markText_c _ (by omega) w)) ?_; rintro y23 hy23; refine ok_p rfl rfl rfl (by exact ps_indexN rfl rfl rfl (by omega) (by exact isw_row 0 rfl (by omega))) ?_; refine ok_p rfl rfl rfl (by exact ps_field rfl rfl (by exact isw_row 0 rfl (by omega))) ?_; refine ok_m_ rfl rfl (by exact ms_setc 0 k 1 (⟨mT ((k0 + 2 * (k : Int))), mT ((k0 + 2 * (k : Int)) + 1)⟩ : KV) rfl rfl rfl rfl rfl rfl rfl rfl (by rw [nth_set _ _ _ (by simp [mkL_len]; omega)]; rfl) (by simp [mkL_len]; omega)) ?_; rintro y_ hy_; refine ok_nil ?_; refine ok_env [(0, _), (1, _), (5, _)] ⟨rfl, rfl, rfl, trivial⟩ ?_)
    | (refine ok_region (i := 7) ?_; refine ok_p rfl rfl rfl (by exact ps_move rfl rfl) ?_; refine ok_p rfl rfl rfl (by exact ps_add rfl rfl rfl (by omega)) ?_; refine ok_p rfl rfl rfl (by exact ps_assign rfl rfl) ?_; refine ok_nil ?_; refine ok_env [(0, _), (1, _), (5, _)] ⟨rfl, rfl, rfl, trivial⟩ ?_)
    | (refine ok_region (i := 8) ?_; refine ok_p rfl rfl rfl (by exact ps_move rfl rfl) ?_; refine ok_p rfl rfl rfl (by exact ps_assign rfl rfl) ?_; refine ok_nil ?_; refine ok_env [(4, _)] ⟨rfl, trivial⟩ ?_))
  · refine fun a w' he hw => ⟨⟨k + 1, by omega⟩, by simp only; omega, he.sub ⟨rfl, ?_, rfl, trivial⟩, ?_⟩
    · simp only [look]; congr 2; simp; omega
    · have e := mk_step l k0 k (by omega)
      simp only
      rw [← e]
      refine WOk.same ?_ hw
      simp only [List.set_cons_zero, List.set_set]
      rfl
  · obtain rfl : k = l.length := by omega
    refine ok_endL (vs := [_]) rfl ⟨rfl, trivial⟩ (fun w' hw => ⟨mkY none 0 w, rfl, trivial, ?_⟩)
    simpa using hw
theorem heldKVS_c (A : Option Addr) (c : Nat) (n : Nat) (k0 : Int) (hk0 : 0 ≤ k0 ∧ k0 ≤ 1000000000000000) (hl : n ≤ 140737488355328) (w : World) (h : Rd w A (fl (mkL k0 n : List KV))) :
    Calls Try.prog 75 #[.slice A n c, .int .i64 k0] w fun e w' => e = .returned (.int .i64 (k0 + 2 * (n : Int))) ∧ Below w.heap.size w w' := by
  have hln : (mkL k0 n : List KV).length = n := mkL_len k0 n
  refine ok_enter 33 Try.func75 rfl rfl rfl ?_
  repeat' (first
    | refine ok_seq ?_
    | refine ok_then ?_
    | refine ok_block ?_
    | (refine ok_region (i := 0) ?_; refine ok_p rfl rfl rfl (by exact ps_assign rfl rfl) ?_; refine ok_nil ?_; refine ok_env [(0, _), (1, _)] ⟨rfl, rfl, trivial⟩ ?_)
    | (refine ok_region (i := 1) ?_; refine ok_p rfl rfl rfl (by exact ps_assign rfl rfl) ?_; refine ok_nil ?_; refine ok_env [(0, _), (1, _), (5, _)] ⟨rfl, rfl, rfl, trivial⟩ ?_))
  refine ok_loop (ι := { k : Nat // k ≤ n }) (fun k => n - k.1) (fun k => ([(0, .slice A n c), (1, .int .i64 (k0 + 2 * (k.1 : Int))), (5, .int .i64 k.1)], _, _)) ⟨0, by omega⟩ (fun a w he hw => ⟨⟨0, by omega⟩, he.sub ⟨rfl, by simp [look, initE], rfl, trivial⟩, hw⟩) ?_
  rintro ⟨k, hk⟩
  simp only at hk ⊢
  repeat' (first
    | refine ok_seq ?_
    | refine ok_then ?_
    | refine ok_then_ret ?_
    | refine ok_block ?_
    | refine ok_in_normal ?_
    | refine ok_in_ret ?_
    | (refine ok_cond rfl (fun hc => ?_) (fun hc => ?_) <;> (have hd := hc; (try simp only [decide_eq_true_eq, decide_eq_false_iff_not, Bool.or_eq_true, Bool.or_eq_false_iff, Bool.and_eq_true, Bool.and_eq_false_iff, Bool.not_eq_true', Bool.not_eq_false', bne_iff_ne, beq_iff_eq, bne_eq_false_iff_eq, beq_eq_false_iff_ne, ne_eq, Bool.not_true, Bool.not_false, Bool.false_eq_true, Bool.true_eq_false, inB_true, inB_false] at hd)))
    | refine ok_ret ?_
    | refine ok_exit ?_
    | refine ok_skip ?_
    | (refine ok_region (i := 2) ?_; refine ok_p rfl rfl rfl (by exact ps_move rfl rfl) ?_; refine ok_p rfl rfl rfl (by exact ps_move rfl rfl) ?_; refine ok_p rfl rfl rfl (by exact ps_len rfl rfl) ?_; refine ok_p rfl rfl rfl (by exact ps_int rfl rfl rfl rfl) ?_; refine ok_nil ?_; refine ok_env [(0, _), (1, _), (5, _), (9, _)] ⟨rfl, rfl, rfl, rfl, trivial⟩ ?_)
    | (refine ok_region (i := 3) ?_; refine ok_p rfl rfl rfl (by exact ps_move rfl rfl) ?_; refine ok_p rfl rfl rfl (by exact ps_add rfl rfl rfl (by omega)) ?_; refine ok_p rfl rfl rfl (by exact ps_assign rfl rfl) ?_; refine ok_nil ?_; refine ok_env [(0, _), (1, _), (5, _)] ⟨rfl, rfl, rfl, trivial⟩ ?_)
    | (refine ok_draw (id := 4) 8 rfl (by kernel_rfl) (by kernel_rfl) rfl (by repeat (first | exact pq_body | refine pq_then ?_ | refine pq_in ?_)) [0, 1, 2, 3, 4, 5, 6, 7, 8, 9, 10, 11, 12, 13, 14, 15, 16, 17, 18, 19, 20, 21, 22, 23] (by decide) rfl ?_; refine okT_take (i := 0) rfl (by kernel_rfl) rfl rfl rfl (by exact ps_move rfl rfl) ?_; refine okT_take (i := 1) rfl (by kernel_rfl) rfl rfl rfl (by exact ps_move rfl rfl) ?_; refine okT_take (i := 2) rfl (by kernel_rfl) rfl rfl rfl (by exact ps_indexN rfl rfl rfl (by omega) (by exact isw_of (isS_fl (by assumption) (by omega)))) ?_; refine okT_take (i := 3) rfl (by kernel_rfl) rfl rfl rfl (by exact ps_field rfl rfl (by exact isw_of (isS_fl (by assumption) (by omega)))) ?_; refine okT_take (i := 4) rfl (by kernel_rfl) rfl rfl rfl (by exact ps_load rfl rfl (by exact Rds.cell (rds_rf (by assumption) (by exact List.mem_cons_self)) (by exact fl_at0 _ _ (by omega) (by decide)))) ?_; refine okT_take (i := 5) rfl (by kernel_rfl) rfl rfl rfl (by exact ps_move rfl rfl) ?_; refine okT_one (i := 6) rfl rfl (by kernel_rfl) rfl rfl rfl (by exact ms_s1 rfl rfl (fun _ _ w hw => markText_c _ (by omega) w)) (fun y w _ h => by exact h) ?_; rintro y18 hy18; refine okT_take (i := 7) rfl (by kernel_rfl) rfl rfl rfl (by exact ps_str rfl rfl rfl rfl) ?_; refine okT_done (by kernel_rfl) ?_; refine ok_nil ?_; refine ok_env [(0, _), (1, _), (5, _), (19, _)] ⟨rfl, rfl, rfl, rfl, trivial⟩ ?_)
    | (refine ok_region (i := 5) ?_; refine ok_p rfl rfl rfl (by exact ps_assign rfl rfl) ?_; refine ok_nil ?_; refine ok_env [(4, _)] ⟨rfl, trivial⟩ ?_)
    | (refine ok_region (i := 6) ?_; refine ok_p rfl rfl rfl (by exact ps_move rfl rfl) ?_; refine ok_p rfl rfl rfl (by exact ps_add rfl rfl rfl (by omega)) ?_; refine ok_p rfl rfl rfl (by exact ps_assign rfl rfl) ?_; refine ok_nil ?_; refine ok_env [(0, _), (1, _), (5, _)] ⟨rfl, rfl, rfl, trivial⟩ ?_)
    | (refine ok_draw (id := 7) 8 rfl (by kernel_rfl) (by kernel_rfl) rfl (by repeat (first | exact pq_body | refine pq_then ?_ | refine pq_in ?_)) [0, 1, 2, 3, 4, 5, 6, 7, 8, 9, 10, 11, 12, 13, 14, 15, 16, 17, 18, 19, 20, 21, 22, 23] (by decide) rfl ?_; refine okT_take (i := 0) rfl (by kernel_rfl) rfl rfl rfl (by exact ps_move rfl rfl) ?_; refine okT_take (i := 1) rfl (by kernel_rfl) rfl rfl rfl (by exact ps_move rfl rfl) ?_; refine okT_take (i := 2) rfl (by kernel_rfl) rfl rfl rfl (by exact ps_indexN rfl rfl rfl (by omega) (by exact isw_of (isS_fl (by assumption) (by omega)))) ?_; refine okT_take (i := 3) rfl (by kernel_rfl) rfl rfl rfl (by exact ps_field rfl rfl (by exact isw_of (isS_fl (by assumption) (by omega)))) ?_; refine okT_take (i := 4) rfl (by kernel_rfl) rfl rfl rfl (by exact ps_load rfl rfl (by exact Rds.cell (rds_rf (by assumption) (by exact List.mem_cons_self)) (by exact fl_at _ _ _ (by omega) (by decide)))) ?_; refine okT_take (i := 5) rfl (by kernel_rfl) rfl rfl rfl (by exact ps_move rfl rfl) ?_; refine okT_one (i := 6) rfl rfl (by kernel_rfl) rfl rfl rfl (by exact ms_s1 rfl rfl (fun _ _ w hw => markText_c _ (by omega) w)) (fun y w _ h => by exact h) ?_; rintro y28 hy28; refine okT_take (i := 7) rfl (by kernel_rfl) rfl rfl rfl (by exact ps_str rfl rfl rfl rfl) ?_; refine okT_done (by kernel_rfl) ?_; refine ok_nil ?_; refine ok_env [(0, _), (1, _), (5, _), (29, _)] ⟨rfl, rfl, rfl, rfl, trivial⟩ ?_)
    | (refine ok_region (i := 8) ?_; refine ok_p rfl rfl rfl (by exact ps_assign rfl rfl) ?_; refine ok_nil ?_; refine ok_env [(4, _)] ⟨rfl, trivial⟩ ?_)
    | (refine ok_region (i := 9) ?_; refine ok_p rfl rfl rfl (by exact ps_move rfl rfl) ?_; refine ok_p rfl rfl rfl (by exact ps_add rfl rfl rfl (by omega)) ?_; refine ok_p rfl rfl rfl (by exact ps_assign rfl rfl) ?_; refine ok_nil ?_; refine ok_env [(0, _), (1, _), (5, _)] ⟨rfl, rfl, rfl, trivial⟩ ?_)
    | (refine ok_region (i := 10) ?_; refine ok_p rfl rfl rfl (by exact ps_move rfl rfl) ?_; refine ok_p rfl rfl rfl (by exact ps_assign rfl rfl) ?_; refine ok_nil ?_; refine ok_env [(4, _)] ⟨rfl, trivial⟩ ?_))
  all_goals try (have hnth := mkL_nth (α := KV) k0 n k (by omega))
  all_goals first
    | (exfalso; rw [hnth] at hc; simp [Mk.mkv, Mk.cnt, sEq] at hc; done)
    | (refine fun a w' he hw => ⟨⟨k + 1, by omega⟩, by simp only; omega, he.sub ⟨rfl, ?_, rfl, trivial⟩, hw⟩
       simp only [look]; congr 2; simp; omega)
    | (obtain rfl : k = n := by omega
       exact ok_endL (vs := [_]) rfl ⟨rfl, trivial⟩ (fun w' hw => ⟨rfl, hw.below⟩))
end Go.Proofs.Ytfcnimglcialbaa
/- Rows of strings: size, copy, comparison, marks. -/
namespace Go.Proofs.Ytfcnimglcialbaa
open Go.RowKit
set_option maxHeartbeats 2000000
set_option maxRecDepth 20000
set_option linter.unusedVariables false
set_option linter.unusedSimpArgs false
instance : Mk ByteArray := ⟨1, fun q => mT q⟩
def wtStr (x : ByteArray) : Prop := x.size ≤ 1048576
def bigStr (x : ByteArray) : Prop := x.size ≤ maxLen
theorem szStringS_c (A : Option Addr) (c : Nat) (l : List ByteArray) (left : Int) (hl : 0 ≤ left ∧ left ≤ 1048576) (hn : l.length ≤ maxLen) (hx : ∀ x ∈ l, bigStr x) (w : World) (h : Rd w A (fl l)) :
    Calls Try.prog 129 #[.slice A l.length c, .int .i64 left] w fun e w' => ∃ y : Ys, e = .returned (.int .i64 (y 0).n) ∧ (-1 ≤ (y 0).n ∧ (y 0).n ≤ left ∧ (0 ≤ (y 0).n → (l.length : Int) ≤ left ∧ ∀ x ∈ l, wtStr x)) ∧ Below w.heap.size w w' ∧ NewOk w.heap.size [] [] w' := by
  unfold maxLen at hn
  refine ok_enter 28 Try.func129 rfl rfl rfl ?_
  repeat' (first
    | refine ok_seq ?_
    | refine ok_then ?_
    | refine ok_then_ret ?_
    | refine ok_block ?_
    | (refine ok_cond rfl (fun hc => ?_) (fun hc => ?_) <;> (have hd := hc; (try simp only [decide_eq_true_eq, decide_eq_false_iff_not, Bool.or_eq_true, Bool.or_eq_false_iff, Bool.and_eq_true, Bool.and_eq_false_iff, Bool.not_eq_true', Bool.not_eq_false', bne_iff_ne, beq_iff_eq, bne_eq_false_iff_eq, beq_eq_false_iff_ne, ne_eq, Bool.not_true, Bool.not_false, Bool.false_eq_true, Bool.true_eq_false, inB_true, inB_false] at hd)))
    | refine ok_ret ?_
    | refine ok_skip ?_
    | (refine ok_region (i := 0) ?_; refine ok_p rfl rfl rfl (by exact ps_assign rfl rfl) ?_; refine ok_nil ?_; refine ok_env [(0, _), (1, _)] ⟨rfl, rfl, trivial⟩ ?_)
    | (refine ok_region (i := 1) ?_; refine ok_p rfl rfl rfl (by exact ps_move rfl rfl) ?_; refine ok_p rfl rfl rfl (by exact ps_move rfl rfl) ?_; refine ok_p rfl rfl rfl (by exact ps_len rfl rfl) ?_; refine ok_p rfl rfl rfl (by exact ps_sub rfl rfl rfl (by omega)) ?_; refine ok_p rfl rfl rfl (by exact ps_assign rfl rfl) ?_; refine ok_nil ?_; refine ok_env [(0, _), (1, _)] ⟨rfl, rfl, trivial⟩ ?_)
    | (refine ok_region (i := 2) ?_; refine ok_p rfl rfl rfl (by exact ps_move rfl rfl) ?_; refine ok_p rfl rfl rfl (by exact ps_int rfl rfl rfl rfl) ?_; refine ok_nil ?_; refine ok_env [(0, _), (1, _), (11, _)] ⟨rfl, rfl, rfl, trivial⟩ ?_)
    | (refine ok_region (i := 3) ?_; refine ok_p rfl rfl rfl (by exact ps_assign rfl rfl) ?_; refine ok_nil ?_; refine ok_env [(4, _)] ⟨rfl, trivial⟩ ?_)
    | (refine ok_region (i := 4) ?_; refine ok_p rfl rfl rfl (by exact ps_assign rfl rfl) ?_; refine ok_nil ?_; refine ok_env [(0, _), (1, _), (5, _)] ⟨rfl, rfl, rfl, trivial⟩ ?_))
  · exact ok_endL (vs := [_]) rfl ⟨rfl, trivial⟩ (fun w' hw => ⟨mkN (-1) w, rfl, ⟨by show (-1 : Int) ≤ -1; decide, by show (-1 : Int) ≤ left; omega, fun h => absurd h (by show ¬ (0 : Int) ≤ -1; decide)⟩, hw.below, NewOk.nil _ _⟩)
  · refine ok_loop (ι := { p : Nat × Int // p.1 ≤ l.length ∧ 0 ≤ p.2 ∧ p.2 ≤ left - l.length ∧ ∀ j, j < p.1 → wtStr (nth l j) }) (fun p => l.length - p.1.1) (fun p => ([(0, .slice A l.length c), (1, .int .i64 p.1.2), (5, .int .i64 p.1.1)], _, _)) ⟨(0, left - l.length), by simp only; omega, by simp only; omega, by simp only; omega, fun j h => absurd h (Nat.not_lt_zero j)⟩ (fun a w he hw => ⟨⟨(0, left - l.length), by simp only; omega, by simp only; omega, by simp only; omega, fun j h => absurd h (Nat.not_lt_zero j)⟩, he.sub ⟨rfl, rfl, rfl, trivial⟩, hw⟩) ?_
    rintro ⟨⟨k, r⟩, hk, hr0, hr1, hwt⟩
    simp only at hk hr0 hr1 hwt ⊢
    have HW := Lib.hid hwt; clear hwt
    have hbg : k < l.length → (nth l k).size ≤ maxLen := fun h => hx _ (nth_mem l k h)
    unfold maxLen at hbg
    repeat' (first
      | refine ok_seq ?_
      | refine ok_then ?_
      | refine ok_then_ret ?_
      | refine ok_block ?_
      | refine ok_in_normal ?_
      | refine ok_in_ret ?_
      | (refine ok_cond rfl (fun hc => ?_) (fun hc => ?_) <;> (have hd := hc; (try simp only [decide_eq_true_eq, decide_eq_false_iff_not, Bool.or_eq_true, Bool.or_eq_false_iff, Bool.and_eq_true, Bool.and_eq_false_iff, Bool.not_eq_true', Bool.not_eq_false', bne_iff_ne, beq_iff_eq, bne_eq_false_iff_eq, beq_eq_false_iff_ne, ne_eq, Bool.not_true, Bool.not_false, Bool.false_eq_true, Bool.true_eq_false, inB_true, inB_false] at hd)))
      | refine ok_ret ?_
      | refine ok_exit ?_
      | refine ok_skip ?_
      | (refine ok_region (i := 5) ?_; refine ok_p rfl rfl rfl (by exact ps_move rfl rfl) ?_; refine ok_p rfl rfl rfl (by exact ps_move rfl rfl) ?_; refine ok_p rfl rfl rfl (by exact ps_len rfl rfl) ?_; refine ok_p rfl rfl rfl (by exact ps_int rfl rfl rfl rfl) ?_; refine ok_nil ?_; refine ok_env [(0, _), (1, _), (5, _), (15, _)] ⟨rfl, rfl, rfl, rfl, trivial⟩ ?_)
      | (refine ok_region (i := 6) ?_; refine ok_p rfl rfl rfl (by exact ps_move rfl rfl) ?_; refine ok_p rfl rfl rfl (by exact ps_add rfl rfl rfl (by omega)) ?_; refine ok_p rfl rfl rfl (by exact ps_assign rfl rfl) ?_; refine ok_nil ?_; refine ok_env [(0, _), (1, _), (5, _)] ⟨rfl, rfl, rfl, trivial⟩ ?_)
      | (refine ok_region (i := 7) ?_; refine ok_p rfl rfl rfl (by exact ps_move rfl rfl) ?_; refine ok_p rfl rfl rfl (by exact ps_move rfl rfl) ?_; refine ok_p rfl rfl rfl (by exact ps_move rfl rfl) ?_; refine ok_p rfl rfl rfl (by exact ps_indexN rfl rfl rfl (by omega) (by exact isw_of (isS_fl (by assumption) (by omega)))) ?_; refine ok_p rfl rfl rfl (by exact ps_load rfl rfl (by exact Rds.cell (rds_rf (by assumption) (by exact List.mem_cons_self)) (by exact fl_at0 _ _ (by omega) (by decide)))) ?_; refine ok_p rfl rfl rfl (by exact ps_slen rfl rfl) ?_; refine ok_p rfl rfl rfl (by exact ps_sub rfl rfl rfl (by omega)) ?_; refine ok_p rfl rfl rfl (by exact ps_assign rfl rfl) ?_; refine ok_nil ?_; refine ok_env [(0, _), (1, _), (5, _)] ⟨rfl, rfl, rfl, trivial⟩ ?_)
      | (refine ok_region (i := 8) ?_; refine ok_p rfl rfl rfl (by exact ps_move rfl rfl) ?_; refine ok_p rfl rfl rfl (by exact ps_int rfl rfl rfl rfl) ?_; refine ok_nil ?_; refine ok_env [(0, _), (1, _), (5, _), (26, _)] ⟨rfl, rfl, rfl, rfl, trivial⟩ ?_)
      | (refine ok_region (i := 9) ?_; refine ok_p rfl rfl rfl (by exact ps_assign rfl rfl) ?_; refine ok_nil ?_; refine ok_env [(4, _)] ⟨rfl, trivial⟩ ?_)
      | (refine ok_region (i := 10) ?_; refine ok_p rfl rfl rfl (by exact ps_move rfl rfl) ?_; refine ok_p rfl rfl rfl (by exact ps_assign rfl rfl) ?_; refine ok_nil ?_; refine ok_env [(4, _)] ⟨rfl, trivial⟩ ?_))
    · exact ok_endL (vs := [_]) rfl ⟨rfl, trivial⟩ (fun w' hw => ⟨mkN (-1) w, rfl, ⟨by show (-1 : Int) ≤ -1; decide, by show (-1 : Int) ≤ left; omega, fun h => absurd h (by show ¬ (0 : Int) ≤ -1; decide)⟩, hw.below, NewOk.nil _ _⟩)
    · refine fun a w' he hw => ⟨⟨(k + 1, r - ((nth l k).size : Int)), by simp only; omega, by simp only; omega, by simp only; omega, fun j hj => ?_⟩, by simp only; omega, he.sub ⟨rfl, rfl, rfl, trivial⟩, hw⟩
      rcases Nat.lt_succ_iff_lt_or_eq.1 hj with h' | h'
      · exact HW.out j h'
      · subst h'; show (nth l j).size ≤ 1048576; omega
    · obtain rfl : k = l.length := by omega
      exact ok_endL (vs := [_]) rfl ⟨rfl, trivial⟩ (fun w' hw => ⟨mkN r w, rfl, ⟨by show -1 ≤ r; omega, by show r ≤ left; omega, fun _ => ⟨by omega, mem_nth (fun j hj => HW.out j hj)⟩⟩, hw.below, NewOk.nil _ _⟩)
theorem toStringS_c (A : Option Addr) (c : Nat) (l : List ByteArray) (w : World) (h : Rd w A (fl l)) (hl : l.length ≤ 1048576) :
    Calls Try.prog 133 #[.slice A l.length c] w fun e w' => ∃ y : Ys, e = .returned (.slice (y 0).A l.length (y 0).c) ∧ True ∧ Below w.heap.size w w' ∧ NewOk w.heap.size [.row 9 1 (y 0).A l.length (y 0).c (fl l)] [] w' := by
  refine ok_enter 22 Try.func133 rfl rfl rfl ?_
  repeat' (first
    | refine ok_seq ?_
    | refine ok_then ?_
    | refine ok_block ?_
    | (refine ok_region (i := 0) ?_; refine ok_p rfl rfl rfl (by exact ps_assign rfl rfl) ?_; refine ok_nil ?_; refine ok_env [(0, _)] ⟨rfl, trivial⟩ ?_)
    | (refine ok_region (i := 1) ?_; refine ok_p rfl rfl rfl (by exact ps_move rfl rfl) ?_; refine ok_p rfl rfl rfl (by exact ps_len rfl rfl) ?_; refine ok_m rfl rfl rfl (by exact ms_make (z := Dat.cells (Dat.dflt : ByteArray)) rfl rfl rfl (by omega) (by omega)) ?_; rintro y7 hy7; refine ok_p rfl rfl rfl (by exact ps_assign rfl rfl) ?_; refine ok_nil ?_; refine ok_env [(0, _), (3, _)] ⟨rfl, rfl, trivial⟩ ?_)
    | (refine ok_region (i := 2) ?_; refine ok_p rfl rfl rfl (by exact ps_assign rfl rfl) ?_; refine ok_nil ?_; refine ok_env [(0, _), (3, _), (4, _)] ⟨rfl, rfl, rfl, trivial⟩ ?_))
  rw [show (madeCells (Dat.cells (Dat.dflt : ByteArray)).toArray (l.length * 1)).toList = fl (List.replicate l.length (Dat.dflt : ByteArray)) from made_fl (Dat.dflt : ByteArray) l.length]
  refine ok_loop (ι := { k : Nat // k ≤ l.length }) (fun k => l.length - k.1) (fun k => ([(0, .slice A l.length c), (3, .slice (ga (y7 0).c) l.length l.length), (4, .int .i64 k.1)], [.row 9 1 (ga (y7 0).c) l.length l.length (fl (l.take k.1 ++ List.replicate (l.length - k.1) (Dat.dflt : ByteArray)))], _)) ⟨0, by omega⟩ (fun a w he hw => ⟨⟨0, by omega⟩, he.sub ⟨rfl, rfl, rfl, trivial⟩, by simpa using hw⟩) ?_
  rintro ⟨k, hk⟩
  simp only at hk ⊢
  repeat' (first
    | refine ok_seq ?_
    | refine ok_then ?_
    | refine ok_block ?_
    | refine ok_in_normal ?_
    | (refine ok_cond rfl (fun hc => ?_) (fun hc => ?_) <;> (have hd := hc; (try simp only [decide_eq_true_eq, decide_eq_false_iff_not, Bool.or_eq_true, Bool.or_eq_false_iff, Bool.and_eq_true, Bool.and_eq_false_iff, Bool.not_eq_true', Bool.not_eq_false', bne_iff_ne, beq_iff_eq, bne_eq_false_iff_eq, beq_eq_false_iff_ne, ne_eq, Bool.not_true, Bool.not_false, Bool.false_eq_true, Bool.true_eq_false, inB_true, inB_false] at hd)))
    | refine ok_ret ?_
    | refine ok_exit ?_
    | refine ok_skip ?_
    | (refine ok_region (i := 3) ?_; refine ok_p rfl rfl rfl (by exact ps_move rfl rfl) ?_; refine ok_p rfl rfl rfl (by exact ps_move rfl rfl) ?_; refine ok_p rfl rfl rfl (by exact ps_len rfl rfl) ?_; refine ok_p rfl rfl rfl (by exact ps_int rfl rfl rfl rfl) ?_; refine ok_nil ?_; refine ok_env [(0, _), (3, _), (4, _), (11, _)] ⟨rfl, rfl, rfl, rfl, trivial⟩ ?_)
    | (refine ok_region (i := 4) ?_; refine ok_p rfl rfl rfl (by exact ps_move rfl rfl) ?_; refine ok_p rfl rfl rfl (by exact ps_add rfl rfl rfl (by omega)) ?_; refine ok_p rfl rfl rfl (by exact ps_assign rfl rfl) ?_; refine ok_nil ?_; refine ok_env [(0, _), (3, _), (4, _)] ⟨rfl, rfl, rfl, trivial⟩ ?_)
    | (refine ok_region (i := 5) ?_; refine ok_p rfl rfl rfl (by exact ps_move rfl rfl) ?_; refine ok_p rfl rfl rfl (by exact ps_move rfl rfl) ?_; refine ok_p rfl rfl rfl (by exact ps_move rfl rfl) ?_; refine ok_p rfl rfl rfl (by exact ps_move rfl rfl) ?_; refine ok_p rfl rfl rfl (by exact ps_indexN rfl rfl rfl (by omega) (by exact isw_of (isS_fl (by assumption) (by omega)))) ?_; refine ok_p rfl rfl rfl (by exact ps_load rfl rfl (by exact Rds.cell (rds_rf (by assumption) (by exact List.mem_cons_self)) (by exact fl_at0 _ _ (by omega) (by decide)))) ?_; refine ok_p rfl rfl rfl (by exact ps_indexN rfl rfl rfl (by omega) (by exact isw_ga _)) ?_; refine ok_m_ rfl rfl (by exact ms_setw 0 k (nth l k) rfl rfl rfl rfl rfl rfl rfl rfl rfl (by simp; omega)) ?_; rintro y_ hy_; refine ok_nil ?_; refine ok_env [(0, _), (3, _), (4, _)] ⟨rfl, rfl, rfl, trivial⟩ ?_)
    | (refine ok_region (i := 6) ?_; refine ok_p rfl rfl rfl (by exact ps_move rfl rfl) ?_; refine ok_p rfl rfl rfl (by exact ps_assign rfl rfl) ?_; refine ok_nil ?_; refine ok_env [(2, _)] ⟨rfl, trivial⟩ ?_))
  · refine fun a w' he hw => ⟨⟨k + 1, by omega⟩, by simp only; omega, he.sub ⟨rfl, rfl, rfl, trivial⟩, ?_⟩
    simp only
    rw [← fill_step l Dat.dflt k (by omega)]
    exact hw
  · obtain rfl : k = l.length := by omega
    refine ok_endL (vs := [_]) rfl ⟨rfl, trivial⟩ (fun w' hw => ⟨mkY (ga (y7 0).c) l.length w, rfl, trivial, hw.below, ?_⟩)
    have := NewOk.of hw
    simpa [mkY] using this
theorem eqStringS_c (A B : Option Addr) (c d : Nat) (l : List ByteArray) (w : World) (h : Rd w A (fl l)) (h2 : Rd w B (fl l)) (hl : l.length ≤ 140737488355328) :
    Calls Try.prog 139 #[.slice A l.length c, .slice B l.length d] w fun e w' => e = .returned (.bool true) ∧ Below w.heap.size w w' := by
  refine ok_enter 26 Try.func139 rfl rfl rfl ?_
  repeat' (first
    | refine ok_seq ?_
    | refine ok_then ?_
    | refine ok_then_ret ?_
    | refine ok_block ?_
    | (refine ok_cond rfl (fun hc => ?_) (fun hc => ?_) <;> (have hd := hc; (try simp only [decide_eq_true_eq, decide_eq_false_iff_not, Bool.or_eq_true, Bool.or_eq_false_iff, Bool.and_eq_true, Bool.and_eq_false_iff, Bool.not_eq_true', Bool.not_eq_false', bne_iff_ne, beq_iff_eq, bne_eq_false_iff_eq, beq_eq_false_iff_ne, ne_eq, Bool.not_true, Bool.not_false, Bool.false_eq_true, Bool.true_eq_false, inB_true, inB_false] at hd)))
    | refine ok_ret ?_
    | refine ok_skip ?_
    | (refine ok_region (i := 0) ?_; refine ok_p rfl rfl rfl (by exact ps_assign rfl rfl) ?_; refine ok_nil ?_; refine ok_env [(0, _), (1, _)] ⟨rfl, rfl, trivial⟩ ?_)
    | (refine ok_region (i := 1) ?_; refine ok_p rfl rfl rfl (by exact ps_move rfl rfl) ?_; refine ok_p rfl rfl rfl (by exact ps_len rfl rfl) ?_; refine ok_p rfl rfl rfl (by exact ps_move rfl rfl) ?_; refine ok_p rfl rfl rfl (by exact ps_len rfl rfl) ?_; refine ok_p rfl rfl rfl (by exact ps_int rfl rfl rfl rfl) ?_; refine ok_nil ?_; refine ok_env [(0, _), (1, _), (10, _)] ⟨rfl, rfl, rfl, trivial⟩ ?_)
    | (refine ok_region (i := 2) ?_; refine ok_p rfl rfl rfl (by exact ps_assign rfl rfl) ?_; refine ok_nil ?_; refine ok_env [(4, _)] ⟨rfl, trivial⟩ ?_)
    | (refine ok_region (i := 3) ?_; refine ok_p rfl rfl rfl (by exact ps_assign rfl rfl) ?_; refine ok_nil ?_; refine ok_env [(0, _), (1, _), (5, _)] ⟨rfl, rfl, rfl, trivial⟩ ?_))
  · exact absurd hc (by simp)
  · refine ok_loop (ι := { k : Nat // k ≤ l.length }) (fun k => l.length - k.1) (fun k => ([(0, .slice A l.length c), (1, .slice B l.length d), (5, .int .i64 k.1)], _, _)) ⟨0, by omega⟩ (fun a w he hw => ⟨⟨0, by omega⟩, he.sub ⟨rfl, rfl, rfl, trivial⟩, hw⟩) ?_
    rintro ⟨k, hk⟩
    simp only at hk ⊢
    repeat' (first
      | refine ok_seq ?_
      | refine ok_then ?_
      | refine ok_then_ret ?_
      | refine ok_block ?_
      | refine ok_in_normal ?_
      | refine ok_in_ret ?_
      | (refine ok_cond rfl (fun hc => ?_) (fun hc => ?_) <;> (have hd := hc; (try simp only [decide_eq_true_eq, decide_eq_false_iff_not, Bool.or_eq_true, Bool.or_eq_false_iff, Bool.and_eq_true, Bool.and_eq_false_iff, Bool.not_eq_true', Bool.not_eq_false', bne_iff_ne, beq_iff_eq, bne_eq_false_iff_eq, beq_eq_false_iff_ne, ne_eq, Bool.not_true, Bool.not_false, Bool.false_eq_true, Bool.true_eq_false, inB_true, inB_false] at hd)))
      | refine ok_ret ?_
      | refine ok_exit ?_
      | refine ok_skip ?_
      | (refine ok_region (i := 4) ?_; refine ok_p rfl rfl rfl (by exact ps_move rfl rfl) ?_; refine ok_p rfl rfl rfl (by exact ps_move rfl rfl) ?_; refine ok_p rfl rfl rfl (by exact ps_len rfl rfl) ?_; refine ok_p rfl rfl rfl (by exact ps_int rfl rfl rfl rfl) ?_; refine ok_nil ?_; refine ok_env [(0, _), (1, _), (5, _), (14, _)] ⟨rfl, rfl, rfl, rfl, trivial⟩ ?_)
      | (refine ok_region (i := 5) ?_; refine ok_p rfl rfl rfl (by exact ps_move rfl rfl) ?_; refine ok_p rfl rfl rfl (by exact ps_add rfl rfl rfl (by omega)) ?_; refine ok_p rfl rfl rfl (by exact ps_assign rfl rfl) ?_; refine ok_nil ?_; refine ok_env [(0, _), (1, _), (5, _)] ⟨rfl, rfl, rfl, trivial⟩ ?_)
      | (refine ok_draw (id := 6) 9 rfl (by kernel_rfl) (by kernel_rfl) rfl (by repeat (first | exact pq_body | refine pq_then ?_ | refine pq_in ?_)) [0, 1, 2, 3, 4, 5, 6, 7, 8, 9, 10, 11, 12, 13, 14, 15, 16, 17, 18, 19, 20, 21, 22, 23] (by decide) rfl ?_; refine okT_take (i := 0) rfl (by kernel_rfl) rfl rfl rfl (by exact ps_move rfl rfl) ?_; refine okT_take (i := 1) rfl (by kernel_rfl) rfl rfl rfl (by exact ps_move rfl rfl) ?_; refine okT_take (i := 2) rfl (by kernel_rfl) rfl rfl rfl (by exact ps_indexN rfl rfl rfl (by omega) (by exact isw_of (isS_fl (by assumption) (by omega)))) ?_; refine okT_take (i := 3) rfl (by kernel_rfl) rfl rfl rfl (by exact ps_load rfl rfl (by exact Rds.cell (rds_rf (by assumption) (by exact List.mem_cons_self)) (by exact fl_at0 _ _ (by omega) (by decide)))) ?_; refine okT_take (i := 4) rfl (by kernel_rfl) rfl rfl rfl (by exact ps_move rfl rfl) ?_; refine okT_take (i := 5) rfl (by kernel_rfl) rfl rfl rfl (by exact ps_move rfl rfl) ?_; refine okT_take (i := 6) rfl (by kernel_rfl) rfl rfl rfl (by exact ps_indexN rfl rfl rfl (by omega) (by exact isw_of (isS_fl (by assumption) (by omega)))) ?_; refine okT_take (i := 7) rfl (by kernel_rfl) rfl rfl rfl (by exact ps_load rfl rfl (by exact Rds.cell (rds_rf (by assumption) (by exact List.mem_cons_self)) (by exact fl_at0 _ _ (by omega) (by decide)))) ?_; refine okT_take (i := 8) rfl (by kernel_rfl) rfl rfl rfl (by exact ps_str rfl rfl rfl rfl) ?_; refine okT_done (by kernel_rfl) ?_; refine ok_nil ?_; refine ok_env [(0, _), (1, _), (5, _), (25, _)] ⟨rfl, rfl, rfl, rfl, trivial⟩ ?_)
      | (refine ok_region (i := 7) ?_; refine ok_p rfl rfl rfl (by exact ps_assign rfl rfl) ?_; refine ok_nil ?_; refine ok_env [(4, _)] ⟨rfl, trivial⟩ ?_)
      | (refine ok_region (i := 8) ?_; refine ok_p rfl rfl rfl (by exact ps_assign rfl rfl) ?_; refine ok_nil ?_; refine ok_env [(4, _)] ⟨rfl, trivial⟩ ?_))
    all_goals first
      | (exfalso; simp [sEq] at hc; done)
      | exact fun a w' he hw => ⟨⟨k + 1, by omega⟩, by simp only; omega, he.sub ⟨rfl, rfl, rfl, trivial⟩, hw⟩
      | exact ok_endL (vs := [_]) rfl ⟨rfl, trivial⟩ (fun w' hw => ⟨rfl, hw.below⟩)
theorem markStringS_c (A : Option Addr) (c : Nat) (l : List ByteArray) (k0 : Int) (hk0 : 0 ≤ k0 ∧ k0 ≤ 1000000000000000) (hl : l.length ≤ 140737488355328) {base : Nat} {w0 w : World} {H : List HObj} {G : List World}
    (hw : WOk base w0 (.row 9 1 A l.length c (fl l) :: H) G w) :
    Calls Try.prog 166 #[.slice A l.length c, .int .i64 k0] w fun e w' => ∃ y : Ys, e = .returned (.int .i64 (k0 + 1 * (l.length : Int))) ∧ True ∧ WOk base w0 (.row 9 1 A l.length c (fl (mkL k0 l.length : List ByteArray)) :: H) G w' := by
  refine ok_enterW 20 Try.func166 rfl rfl rfl hw ?_
  repeat' (first
    | refine ok_seq ?_
    | refine ok_then ?_
    | refine ok_block ?_
    | (refine ok_region (i := 0) ?_; refine ok_p rfl rfl rfl (by exact ps_assign rfl rfl) ?_; refine ok_nil ?_; refine ok_env [(0, _), (1, _)] ⟨rfl, rfl, trivial⟩ ?_)
    | (refine ok_region (i := 1) ?_; refine ok_p rfl rfl rfl (by exact ps_assign rfl rfl) ?_; refine ok_nil ?_; refine ok_env [(0, _), (1, _), (5, _)] ⟨rfl, rfl, rfl, trivial⟩ ?_))
  refine ok_loop (ι := { k : Nat // k ≤ l.length }) (fun k => l.length - k.1) (fun k => ([(0, .slice A l.length c), (1, .int .i64 (k0 + 1 * (k.1 : Int))), (5, .int .i64 k.1)], .row 9 1 A l.length c (fl (mkL k0 k.1 ++ l.drop k.1)) :: H, _)) ⟨0, by omega⟩ (fun a w he hw => ⟨⟨0, by omega⟩, he.sub ⟨rfl, by simp [look, initE], rfl, trivial⟩, by simpa [mkL] using hw⟩) ?_
  rintro ⟨k, hk⟩
  simp only at hk ⊢
  repeat' (first
    | refine ok_seq ?_
    | refine ok_then ?_
    | refine ok_block ?_
    | refine ok_in_normal ?_
    | (refine ok_cond rfl (fun hc => ?_) (fun hc => ?_) <;> (have hd := hc; (try simp only [decide_eq_true_eq, decide_eq_false_iff_not, Bool.or_eq_true, Bool.or_eq_false_iff, Bool.and_eq_true, Bool.and_eq_false_iff, Bool.not_eq_true', Bool.not_eq_false', bne_iff_ne, beq_iff_eq, bne_eq_false_iff_eq, beq_eq_false_iff_ne, ne_eq, Bool.not_true, Bool.not_false, Bool.false_eq_true, Bool.true_eq_false, inB_true, inB_false] at hd)))
    | refine ok_ret ?_
    | refine ok_exit ?_
    | refine ok_skip ?_
    | (refine ok_region (i := 2) ?_; refine ok_p rfl rfl rfl (by exact ps_move rfl rfl) ?_; refine ok_p rfl rfl rfl (by exact ps_move rfl rfl) ?_; refine ok_p rfl rfl rfl (by exact ps_len rfl rfl) ?_; refine ok_p rfl rfl rfl (by exact ps_int rfl rfl rfl rfl) ?_; refine ok_nil ?_; refine ok_env [(0, _), (1, _), (5, _), (9, _)] ⟨rfl, rfl, rfl, rfl, trivial⟩ ?_)
    | (refine ok_region (i := 3) ?_; refine ok_p rfl rfl rfl (by exact ps_move rfl rfl) ?_; refine ok_p rfl rfl rfl (by exact ps_add rfl rfl rfl (by omega)) ?_; refine ok_p rfl rfl rfl (by exact ps_assign rfl rfl) ?_; refine ok_nil ?_; refine ok_env [(0, _), (1, _), (5, _)] ⟨rfl, rfl, rfl, trivial⟩ ?_)
    | (refine ok_region (i := 4) ?_; refine ok_p rfl rfl rfl (by exact ps_move rfl rfl) ?_; refine ok_p rfl rfl rfl (by exact ps_move rfl rfl) ?_; refine ok_p rfl rfl rfl (by exact ps_move rfl rfl) ?_; refine ok_m rfl rfl rfl (by exact ms_s1 rfl rfl (fun _ _ w hw => markText_c _ (by omega) w)) ?_; rintro y15 hy15; refine ok_p rfl rfl rfl (by exact ps_indexN rfl rfl rfl (by omega) (by exact isw_row 0 rfl (by omega))) ?_; refine ok_m_ rfl rfl (by exact ms_setw 0 k (mT (k0 + 1 * (k : Int))) rfl rfl rfl rfl rfl rfl rfl rfl rfl (by simp [mkL_len]; omega)) ?_; rintro y_ hy_; refine ok_nil ?_; refine ok_env [(0, _), (1, _), (5, _)] ⟨rfl, rfl, rfl, trivial⟩ ?_)
    | (refine ok_region (i := 5) ?_; refine ok_p rfl rfl rfl (by exact ps_move rfl rfl) ?_; refine ok_p rfl rfl rfl (by exact ps_add rfl rfl rfl (by omega)) ?_; refine ok_p rfl rfl rfl (by exact ps_assign rfl rfl) ?_; refine ok_nil ?_; refine ok_env [(0, _), (1, _), (5, _)] ⟨rfl, rfl, rfl, trivial⟩ ?_)
    | (refine ok_region (i := 6) ?_; refine ok_p rfl rfl rfl (by exact ps_move rfl rfl) ?_; refine ok_p rfl rfl rfl (by exact ps_assign rfl rfl) ?_; refine ok_nil ?_; refine ok_env [(4, _)] ⟨rfl, trivial⟩ ?_))
  · refine fun a w' he hw => ⟨⟨k + 1, by omega⟩, by simp only; omega, he.sub ⟨rfl, ?_, rfl, trivial⟩, ?_⟩
    · simp only [look]; congr 2; simp; omega
    · have e := mk_step l k0 k (by omega)
      simp only
      rw [← e]
      refine WOk.same ?_ hw
      simp only [List.set_cons_zero, List.set_set]
      rfl
  · obtain rfl : k = l.length := by omega
    refine ok_endL (vs := [_]) rfl ⟨rfl, trivial⟩ (fun w' hw => ⟨mkY none 0 w, rfl, trivial, ?_⟩)
    simpa using hw
theorem heldStringS_c (A : Option Addr) (c : Nat) (n : Nat) (k0 : Int) (hk0 : 0 ≤ k0 ∧ k0 ≤ 1000000000000000) (hl : n ≤ 140737488355328) (w : World) (h : Rd w A (fl (mkL k0 n : List ByteArray))) :
    Calls Try.prog 167 #[.slice A n c, .int .i64 k0] w fun e w' => e = .returned (.int .i64 (k0 + 1 * (n : Int))) ∧ Below w.heap.size w w' := by
  have hln : (mkL k0 n : List ByteArray).length = n := mkL_len k0 n
  refine ok_enter 22 Try.func167 rfl rfl rfl ?_
  repeat' (first
    | refine ok_seq ?_
    | refine ok_then ?_
    | refine ok_block ?_
    | (refine ok_region (i := 0) ?_; refine ok_p rfl rfl rfl (by exact ps_assign rfl rfl) ?_; refine ok_nil ?_; refine ok_env [(0, _), (1, _)] ⟨rfl, rfl, trivial⟩ ?_)
    | (refine ok_region (i := 1) ?_; refine ok_p rfl rfl rfl (by exact ps_assign rfl rfl) ?_; refine ok_nil ?_; refine ok_env [(0, _), (1, _), (5, _)] ⟨rfl, rfl, rfl, trivial⟩ ?_))
  refine ok_loop (ι := { k : Nat // k ≤ n }) (fun k => n - k.1) (fun k => ([(0, .slice A n c), (1, .int .i64 (k0 + 1 * (k.1 : Int))), (5, .int .i64 k.1)], _, _)) ⟨0, by omega⟩ (fun a w he hw => ⟨⟨0, by omega⟩, he.sub ⟨rfl, by simp [look, initE], rfl, trivial⟩, hw⟩) ?_
  rintro ⟨k, hk⟩
  simp only at hk ⊢
  repeat' (first
    | refine ok_seq ?_
    | refine ok_then ?_
    | refine ok_then_ret ?_
    | refine ok_block ?_
    | refine ok_in_normal ?_
    | refine ok_in_ret ?_
    | (refine ok_cond rfl (fun hc => ?_) (fun hc => ?_) <;> (have hd := hc; (try simp only [decide_eq_true_eq, decide_eq_false_iff_not, Bool.or_eq_true, Bool.or_eq_false_iff, Bool.and_eq_true, Bool.and_eq_false_iff, Bool.not_eq_true', Bool.not_eq_false', bne_iff_ne, beq_iff_eq, bne_eq_false_iff_eq, beq_eq_false_iff_ne, ne_eq, Bool.not_true, Bool.not_false, Bool.false_eq_true, Bool.true_eq_false, inB_true, inB_false] at hd)))
    | refine ok_ret ?_
    | refine ok_exit ?_
    | refine ok_skip ?_
    | (refine ok_region (i := 2) ?_; refine ok_p rfl rfl rfl (by exact ps_move rfl rfl) ?_; refine ok_p rfl rfl rfl (by exact ps_move rfl rfl) ?_; refine ok_p rfl rfl rfl (by exact ps_len rfl rfl) ?_; refine ok_p rfl rfl rfl (by exact ps_int rfl rfl rfl rfl) ?_; refine ok_nil ?_; refine ok_env [(0, _), (1, _), (5, _), (9, _)] ⟨rfl, rfl, rfl, rfl, trivial⟩ ?_)
    | (refine ok_region (i := 3) ?_; refine ok_p rfl rfl rfl (by exact ps_move rfl rfl) ?_; refine ok_p rfl rfl rfl (by exact ps_add rfl rfl rfl (by omega)) ?_; refine ok_p rfl rfl rfl (by exact ps_assign rfl rfl) ?_; refine ok_nil ?_; refine ok_env [(0, _), (1, _), (5, _)] ⟨rfl, rfl, rfl, trivial⟩ ?_)
    | (refine ok_draw (id := 4) 7 rfl (by kernel_rfl) (by kernel_rfl) rfl (by repeat (first | exact pq_body | refine pq_then ?_ | refine pq_in ?_)) [0, 1, 2, 3, 4, 5, 6, 7, 8, 9, 10, 11, 12, 13, 14, 15, 16, 17, 18, 19, 20, 21, 22, 23] (by decide) rfl ?_; refine okT_take (i := 0) rfl (by kernel_rfl) rfl rfl rfl (by exact ps_move rfl rfl) ?_; refine okT_take (i := 1) rfl (by kernel_rfl) rfl rfl rfl (by exact ps_move rfl rfl) ?_; refine okT_take (i := 2) rfl (by kernel_rfl) rfl rfl rfl (by exact ps_indexN rfl rfl rfl (by omega) (by exact isw_of (isS_fl (by assumption) (by omega)))) ?_; refine okT_take (i := 3) rfl (by kernel_rfl) rfl rfl rfl (by exact ps_load rfl rfl (by exact Rds.cell (rds_rf (by assumption) (by exact List.mem_cons_self)) (by exact fl_at0 _ _ (by omega) (by decide)))) ?_; refine okT_take (i := 4) rfl (by kernel_rfl) rfl rfl rfl (by exact ps_move rfl rfl) ?_; refine okT_one (i := 5) rfl rfl (by kernel_rfl) rfl rfl rfl (by exact ms_s1 rfl rfl (fun _ _ w hw => markText_c _ (by omega) w)) (fun y w _ h => by exact h) ?_; rintro y17 hy17; refine okT_take (i := 6) rfl (by kernel_rfl) rfl rfl rfl (by exact ps_str rfl rfl rfl rfl) ?_; refine okT_done (by kernel_rfl) ?_; refine ok_nil ?_; refine ok_env [(0, _), (1, _), (5, _), (18, _)] ⟨rfl, rfl, rfl, rfl, trivial⟩ ?_)
    | (refine ok_region (i := 5) ?_; refine ok_p rfl rfl rfl (by exact ps_assign rfl rfl) ?_; refine ok_nil ?_; refine ok_env [(4, _)] ⟨rfl, trivial⟩ ?_)
    | (refine ok_region (i := 6) ?_; refine ok_p rfl rfl rfl (by exact ps_move rfl rfl) ?_; refine ok_p rfl rfl rfl (by exact ps_add rfl rfl rfl (by omega)) ?_; refine ok_p rfl rfl rfl (by exact ps_assign rfl rfl) ?_; refine ok_nil ?_; refine ok_env [(0, _), (1, _), (5, _)] ⟨rfl, rfl, rfl, trivial⟩ ?_)
    | (refine ok_region (i := 7) ?_; refine ok_p rfl rfl rfl (by exact ps_move rfl rfl) ?_; refine ok_p rfl rfl rfl (by exact ps_assign rfl rfl) ?_; refine ok_nil ?_; refine ok_env [(4, _)] ⟨rfl, trivial⟩ ?_))
  all_goals try (have hnth := mkL_nth (α := ByteArray) k0 n k (by omega))
  all_goals first
    | (exfalso; rw [hnth] at hc; simp [Mk.mkv, Mk.cnt, sEq] at hc; done)
    | (refine fun a w' he hw => ⟨⟨k + 1, by omega⟩, by simp only; omega, he.sub ⟨rfl, ?_, rfl, trivial⟩, hw⟩
       simp only [look]; congr 2; simp; omega)
    | (obtain rfl : k = n := by omega
       exact ok_endL (vs := [_]) rfl ⟨rfl, trivial⟩ (fun w' hw => ⟨rfl, hw.below⟩))
end Go.Proofs.Ytfcnimglcialbaa
/- The record KV by its type. -/
namespace Go.Proofs.Ytfcnimglcialbaa
open Go.RowKit
set_option linter.unusedVariables false
set_option linter.unusedSimpArgs false
abbrev gKV : GT := .st [.str, .str]
theorem flatKV : FlatAt gKV (α := KV) (fun x => ⟨x.1, x.2.1⟩) bigKV := fun w x c h => by
  obtain ⟨a0, a1, u⟩ := x
  obtain ⟨c0, d0, rfl, h0, e0⟩ := RdTL.cons.1 (RdT.st.1 h)
  obtain ⟨c1, d1, rfl, h1, e1⟩ := RdTL.cons.1 e0
  rw [RdTL.nil] at e1; subst e1
  obtain ⟨rfl, b0⟩ := RdT.str.1 h0
  obtain ⟨rfl, b1⟩ := RdT.str.1 h1
  exact ⟨rfl, b0, b1⟩
end Go.Proofs.Ytfcnimglcialbaa
/- Strings by their type. -/
namespace Go.Proofs.Ytfcnimglcialbaa
open Go.RowKit
set_option linter.unusedVariables false
theorem flatStr : FlatAt .str (α := ByteArray) (fun x => x) bigStr := fun w x c h => RdT.str.1 h
end Go.Proofs.Ytfcnimglcialbaa
