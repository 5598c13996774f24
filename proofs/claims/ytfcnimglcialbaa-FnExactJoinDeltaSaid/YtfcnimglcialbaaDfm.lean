/- DiffMap of both programs. -/
import Derived.Test.YtfcnimglcialbaaDlt2
import Derived.Test.YtfcnimglcialbaaBtKVS
import Derived.Test.YtfcnimglcialbaaCgs
namespace Go.Proofs.Ytfcnimglcialbaa
open Go.RowKit
set_option maxHeartbeats 4000000
set_option maxRecDepth 20000
set_option linter.unusedVariables false
set_option linter.unusedSimpArgs false
theorem fnd_lt {l : List KV} {k : ByteArray} (h : fndK l k = true) : lbK l k < l.length := by
  unfold fndK at h
  simp at h
  omega
theorem atK_lt (l : List KV) (k : ByteArray) : ∀ f i, i + f = l.length → atK l k f i < l.length ∧ -1 ≤ atK l k f i
  | 0, i, h => by simp only [atK]; omega
  | f + 1, i, h => by
    unfold atK
    split
    · omega
    · exact atK_lt l k f (i + 1) (by omega)
theorem atK_at (l : List KV) (k : ByteArray) (q : Nat) (hq : q < l.length) (he : sEq (keyAt l q) k = true) : ∀ f i, i + f = l.length → i ≤ q → (∀ j, i ≤ j → j < q → sEq (keyAt l j) k = false) → atK l k f i = q
  | 0, i, h, hi, hn => by omega
  | f + 1, i, h, hi, hn => by
    unfold atK
    rcases Nat.eq_or_lt_of_le hi with rfl | h2
    · rw [if_pos (show sEq (nth l i).key k = true from he)]
    · have := hn i (Nat.le_refl _) h2
      rw [if_neg (by rw [show (nth l i).key = keyAt l i from rfl, this]; simp)]
      exact atK_at l k q hq he f (i + 1) (by omega) (by omega) (fun j a b => hn j (by omega) b)
theorem lb_at {l : List KV} {k : ByteArray} (hf : fndK l k = true) : atK l k l.length 0 = lbK l k := by
  have hlt := fnd_lt hf
  have he : sEq (keyAt l (lbK l k)) k = true := by
    unfold fndK at hf
    rw [Bool.and_eq_true] at hf
    exact hf.2
  refine atK_at l k (lbK l k) hlt he l.length 0 (by omega) (Nat.zero_le _) (fun j _ hj => ?_)
  have h1 := tw_nth (fun x => sLt x.key k) l j hj
  cases h2 : sEq (keyAt l j) k with
  | false => rfl
  | true =>
    have := sEq_eq h2
    have h3 : sLt (keyAt l j) k = true := h1
    rw [this, sLt_irrefl] at h3
    cases h3
def putQ (a : List KV) (x : KV) : Bool := !fndK a x.key || !sEq (nth a (lbK a x.key)).val x.val
def delQ (b : List KV) (x : KV) : Bool := !fndK b x.key
def fDiffMap (a b : List KV) : DDelta := bif mapOk a && mapOk b then ⟨b.filter (putQ a), (a.filter (delQ b)).map (·.key)⟩ else ⟨[], []⟩
theorem takeK {R : List KV} {j : Nat} (h : j < R.length) : R.take (j + 1) = R.take j ++ [nth R j] := by
  rw [List.take_add_one, List.getElem?_eq_getElem h]
  simp [nth, h]
theorem put_step {a b : List KV} {k : Nat} (h : k < b.length) : (b.take (k + 1)).filter (putQ a) = if putQ a (nth b k) = true then (b.take k).filter (putQ a) ++ [nth b k] else (b.take k).filter (putQ a) := by
  rw [takeK h, List.filter_append]
  cases hh : putQ a (nth b k) <;> simp [hh]
theorem fnd_dec {l : List KV} (hs : sortedK l) (k : ByteArray) : fndK l k = decide (0 ≤ atK l k l.length 0) := fndK_at hs k
theorem put_eq {a : List KV} (hs : sortedK a) (x : KV) : putQ a x = (decide (atK a x.key a.length 0 < 0) || !sEq (nth a (atK a x.key a.length 0).toNat).val x.val) := by
  unfold putQ
  cases hf : fndK a x.key with
  | true =>
    have h1 := lb_at hf
    rw [h1, Int.toNat_natCast, show decide (((lbK a x.key : Nat) : Int) < 0) = false by simp]; rfl
  | false =>
    have := fnd_dec hs x.key
    rw [hf] at this
    have h2 : atK a x.key a.length 0 < 0 := by
      have := of_decide_eq_false this.symm
      omega
    rw [show decide (atK a x.key a.length 0 < 0) = true by simp; exact h2]; rfl
theorem put_iff {a : List KV} (hs : sortedK a) {x : KV} (h : (decide (atK a x.key a.length 0 < 0) || !sEq (nth a (atK a x.key a.length 0).toNat).val x.val) = true ∨ False) : putQ a x = true := by
  rw [put_eq hs]; exact h.resolve_right id
theorem put_no {a : List KV} (hs : sortedK a) {x : KV} (h : (decide (atK a x.key a.length 0 < 0) || !sEq (nth a (atK a x.key a.length 0).toNat).val x.val) = false) : putQ a x = false := by
  rw [put_eq hs]; exact h
theorem del_eq {b : List KV} (hs : sortedK b) (x : KV) : delQ b x = decide (atK b x.key b.length 0 < 0) := by
  unfold delQ
  rw [fnd_dec hs]
  rw [Bool.eq_iff_iff]
  simp
def delL (b a : List KV) : List ByteArray := (a.filter (delQ b)).map (·.key)
theorem del_step {a b : List KV} {k : Nat} (h : k < a.length) : delL b (a.take (k + 1)) = if delQ b (nth a k) = true then delL b (a.take k) ++ [(nth a k).key] else delL b (a.take k) := by
  unfold delL
  rw [takeK h, List.filter_append]
  cases hh : delQ b (nth a k) <;> simp [hh]
instance : OneC KV := ⟨fun x u hu => by
  have : u = .string x.key ∨ u = .string x.val := by simpa [Dat.cells] using hu
  rcases this with rfl | rfl <;> rfl⟩
instance : OneC ByteArray := ⟨fun x u hu => by
  have : u = .string x := by simpa [Dat.cells] using hu
  subst this; rfl⟩
theorem put_len (a b : List KV) (k : Nat) : ((b.take k).filter (putQ a)).length ≤ b.length := by
  have := List.length_filter_le (putQ a) (b.take k)
  rw [List.length_take] at this; omega
theorem del_len (a b : List KV) (k : Nat) : (delL b (a.take k)).length ≤ a.length := by
  unfold delL
  have := List.length_filter_le (delQ b) (a.take k)
  rw [List.length_take] at this; rw [List.length_map]; omega
structure DfI (n : Nat) where
  k : Nat
  A : Option Addr
  c : Nat
  hk : k ≤ n
attribute [local irreducible] Calls
theorem own_nilD (n : Nat) (w : World) : NewOk n (Delta_obj ⟨[], []⟩ (mkY none 0 w)) [] w :=
  ⟨fun x hx => by
    simp only [Delta_obj, mkY, List.mem_cons, List.not_mem_nil, or_false] at hx
    rcases hx with rfl | rfl
    · exact Own.nil w n 162 2
    · exact Own.nil w n 9 1, by simp [Delta_obj, HObj.apart, HObj.has, blk, mkY], fun m h => by cases h⟩
theorem DiffMap_lim (a b : DKVS) (ha : KVS_sm a) (hb : KVS_sm b) : Delta_lim (fDiffMap a b) := by
  have h1 := ha.1
  have h2 := hb.1
  unfold fDiffMap
  cases mapOk a && mapOk b
  · exact ⟨by simp, by simp⟩
  · have h3 := List.length_filter_le (putQ a) b
    have h4 := List.length_filter_le (delQ b) a
    exact ⟨by show (b.filter (putQ a)).length ≤ _; omega, by show ((a.filter (delQ b)).map (·.key)).length ≤ _; rw [List.length_map]; omega⟩
end Go.Proofs.Ytfcnimglcialbaa
