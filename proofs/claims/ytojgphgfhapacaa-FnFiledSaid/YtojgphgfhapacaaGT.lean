/- Data by their type: what a list of cells reads as. -/
import Derived.Test.YtojgphgfhapacaaMem
import Derived.ChangeArms
import Derived.DataReads
import Derived.Deep.Slices
namespace Go.Proofs.Ytojgphgfhapacaa
open Go.RowKit
set_option linter.unusedVariables false
set_option linter.unusedSimpArgs false

/-- The types: int, byte, bool, string, slice of elements (with the element type's number), struct. -/
inductive GT where
  | int | u8 | bool | str
  | sl (E : TypeId) (e : GT)
  | st (fs : List GT)
mutual
def GT.den : GT → Type
  | .int => Int
  | .u8 => UInt8
  | .bool => Bool
  | .str => ByteArray
  | .sl _ e => List e.den
  | .st fs => GT.denL fs
def GT.denL : List GT → Type
  | [] => Unit
  | t :: ts => t.den × GT.denL ts
end
mutual
def GT.size : GT → Nat
  | .st fs => GT.sizeL fs
  | _ => 1
def GT.sizeL : List GT → Nat
  | [] => 0
  | t :: ts => t.size + GT.sizeL ts
end
def inI64 (n : Int) : Prop := -9223372036854775808 ≤ n ∧ n ≤ 9223372036854775807
mutual
def RdT (w : World) : (T : GT) → T.den → List Value → Prop
  | .int, n, cs => cs = [.int .i64 n] ∧ inI64 n
  | .u8, b, cs => cs = [.int .u8 (b.toNat : Int)]
  | .bool, b, cs => cs = [.bool b]
  | .str, s, cs => cs = [.string s] ∧ s.size ≤ maxLen
  | .sl _ e, xs, cs => ∃ (A : Option Addr) (c : Nat) (us : List Value), cs = [.slice A xs.length c] ∧ xs.length ≤ c ∧ c ≤ maxLen ∧ Rd w A us ∧ RdTs w e xs us
  | .st fs, x, cs => RdTL w fs x cs
def RdTs (w : World) (e : GT) : List e.den → List Value → Prop
  | [], us => us = []
  | x :: xs, us => ∃ c1 c2, us = c1 ++ c2 ∧ RdT w e x c1 ∧ RdTs w e xs c2
def RdTL (w : World) : (fs : List GT) → GT.denL fs → List Value → Prop
  | [], _, cs => cs = []
  | t :: ts, (x, xs), cs => ∃ c1 c2, cs = c1 ++ c2 ∧ RdT w t x c1 ∧ RdTL w ts xs c2
end
theorem RdT.int {w : World} {n : GT.den .int} {cs : List Value} : RdT w .int n cs ↔ cs = [.int .i64 n] ∧ inI64 n := by simp only [RdT]
theorem RdT.u8 {w : World} {n : GT.den .u8} {cs : List Value} : RdT w .u8 n cs ↔ cs = [.int .u8 (UInt8.toNat n : Int)] := by simp only [RdT]
theorem RdT.bool {w : World} {n : GT.den .bool} {cs : List Value} : RdT w .bool n cs ↔ cs = [.bool n] := by simp only [RdT]
theorem RdT.str {w : World} {n : GT.den .str} {cs : List Value} : RdT w .str n cs ↔ cs = [.string n] ∧ ByteArray.size n ≤ maxLen := by simp only [RdT]
theorem RdT.sl {w : World} {E : TypeId} {e : GT} {xs : GT.den (.sl E e)} {cs : List Value} : RdT w (.sl E e) xs cs ↔ ∃ (A : Option Addr) (c : Nat) (us : List Value), cs = [.slice A (List.length xs) c] ∧ List.length xs ≤ c ∧ c ≤ maxLen ∧ Rd w A us ∧ RdTs w e xs us := by simp only [RdT]
theorem RdT.st {w : World} {fs : List GT} {x : GT.den (.st fs)} {cs : List Value} : RdT w (.st fs) x cs ↔ RdTL w fs x cs := by simp only [RdT]
theorem RdTL.nil {w : World} {x : GT.denL []} {cs : List Value} : RdTL w [] x cs ↔ cs = [] := by simp only [RdTL]
theorem RdTL.cons {w : World} {t : GT} {ts : List GT} {x : t.den} {xs : GT.denL ts} {cs : List Value} : RdTL w (t :: ts) (x, xs) cs ↔ ∃ c1 c2, cs = c1 ++ c2 ∧ RdT w t x c1 ∧ RdTL w ts xs c2 := by simp only [RdTL]
theorem RdTs.nil {w : World} {e : GT} {us : List Value} : RdTs w e [] us ↔ us = [] := by simp only [RdTs]
theorem RdTs.cons {w : World} {e : GT} {x : e.den} {xs : List e.den} {us : List Value} : RdTs w e (x :: xs) us ↔ ∃ c1 c2, us = c1 ++ c2 ∧ RdT w e x c1 ∧ RdTs w e xs c2 := by simp only [RdTs]
theorem RdTs_snoc {w : World} {e : GT} {x : e.den} {c : List Value} (hx : RdT w e x c) : ∀ {xs : List e.den} {us : List Value}, RdTs w e xs us → RdTs w e (xs ++ [x]) (us ++ c)
  | [], us, h => by
    simp only [RdTs] at h
    subst h
    exact (by simp only [List.nil_append, RdTs]; exact ⟨c, [], by simp, hx, rfl⟩)
  | y :: ys, us, h => by
    simp only [RdTs] at h
    obtain ⟨c1, c2, rfl, h1, h2⟩ := h
    simp only [List.cons_append, RdTs]
    exact ⟨c1, c2 ++ c, by simp, h1, RdTs_snoc hx h2⟩
mutual
theorem RdT_len {w : World} : ∀ (T : GT) (x : T.den) (cs : List Value), RdT w T x cs → cs.length = T.size
  | .int, n, cs, h => by simp only [RdT] at h; rw [h.1]; rfl
  | .u8, n, cs, h => by simp only [RdT] at h; rw [h]; rfl
  | .bool, n, cs, h => by simp only [RdT] at h; rw [h]; rfl
  | .str, n, cs, h => by simp only [RdT] at h; rw [h.1]; rfl
  | .sl _ e, xs, cs, h => by simp only [RdT] at h; obtain ⟨A, c, us, rfl, _⟩ := h; rfl
  | .st fs, x, cs, h => by simp only [RdT] at h; simpa [GT.size] using RdTL_len fs x cs h
theorem RdTL_len {w : World} : ∀ (fs : List GT) (x : GT.denL fs) (cs : List Value), RdTL w fs x cs → cs.length = GT.sizeL fs
  | [], _, cs, h => by simp only [RdTL] at h; subst h; rfl
  | t :: ts, (x, xs), cs, h => by
    simp only [RdTL] at h
    obtain ⟨c1, c2, rfl, h1, h2⟩ := h
    simp only [List.length_append, GT.sizeL, RdT_len t x c1 h1, RdTL_len ts xs c2 h2]
end
theorem RdTs_len {w : World} {e : GT} : ∀ (xs : List e.den) (us : List Value), RdTs w e xs us → us.length = xs.length * e.size
  | [], us, h => by simp only [RdTs] at h; subst h; simp
  | x :: xs, us, h => by
    simp only [RdTs] at h
    obtain ⟨c1, c2, rfl, h1, h2⟩ := h
    simp only [List.length_append, List.length_cons, RdT_len e x c1 h1, RdTs_len xs c2 h2, Nat.add_mul, Nat.one_mul]
    omega
mutual
theorem RdT_ext {w w' : World} (hb : Below w.heap.size w w') : ∀ (T : GT) (x : T.den) (cs : List Value), RdT w T x cs → RdT w' T x cs
  | .int, n, cs, h => by simp only [RdT] at h ⊢; exact h
  | .u8, n, cs, h => by simp only [RdT] at h ⊢; exact h
  | .bool, n, cs, h => by simp only [RdT] at h ⊢; exact h
  | .str, n, cs, h => by simp only [RdT] at h ⊢; exact h
  | .sl _ e, xs, cs, h => by
    simp only [RdT] at h ⊢
    obtain ⟨A, c, us, h1, h2, h3, h4, h5⟩ := h
    exact ⟨A, c, us, h1, h2, h3, h4.ext hb, RdTs_ext hb e xs us h5⟩
  | .st fs, x, cs, h => by simp only [RdT] at h ⊢; exact RdTL_ext hb fs x cs h
theorem RdTs_ext {w w' : World} (hb : Below w.heap.size w w') : ∀ (e : GT) (xs : List e.den) (us : List Value), RdTs w e xs us → RdTs w' e xs us
  | e, [], us, h => by simp only [RdTs] at h ⊢; exact h
  | e, x :: xs, us, h => by
    simp only [RdTs] at h ⊢
    obtain ⟨c1, c2, h1, h2, h3⟩ := h
    exact ⟨c1, c2, h1, RdT_ext hb e x c1 h2, RdTs_ext hb e xs c2 h3⟩
theorem RdTL_ext {w w' : World} (hb : Below w.heap.size w w') : ∀ (fs : List GT) (x : GT.denL fs) (cs : List Value), RdTL w fs x cs → RdTL w' fs x cs
  | [], _, cs, h => by simp only [RdTL] at h ⊢; exact h
  | t :: ts, (x, xs), cs, h => by
    simp only [RdTL] at h ⊢
    obtain ⟨c1, c2, h1, h2, h3⟩ := h
    exact ⟨c1, c2, h1, RdT_ext hb t x c1 h2, RdTL_ext hb ts xs c2 h3⟩
end

/-- Does type number t of the program have this form? -/
def isInt64 (P : Program) (t : TypeId) : Bool := match P.underlying t with
  | some (.int .i64) => true
  | _ => false
def isU8 (P : Program) (t : TypeId) : Bool := match P.underlying t with
  | some (.int .u8) => true
  | _ => false
def isBool (P : Program) (t : TypeId) : Bool := match P.underlying t with
  | some .bool => true
  | _ => false
def isStr (P : Program) (t : TypeId) : Bool := match P.underlying t with
  | some .string => true
  | _ => false
def slElem (P : Program) (t : TypeId) : Option TypeId := match P.underlying t with
  | some (.slice e) => some e
  | _ => none
def stFields (P : Program) (t : TypeId) : Option (List Field) := match P.underlying t with
  | some (.struct F) => some F.toList
  | _ => none
mutual
def gtOk (P : Program) : GT → TypeId → Bool
  | .int, t => isInt64 P t
  | .u8, t => isU8 P t
  | .bool, t => isBool P t
  | .str, t => isStr P t
  | .sl E e, t => slElem P t == some E && gtOk P e E && P.cellsOf E == e.size
  | .st fs, t => match stFields P t with
    | some F => gtOkL P fs F 0 && P.cellsOf t == GT.sizeL fs
    | none => false
def gtOkL (P : Program) : List GT → List Field → Nat → Bool
  | [], [], _ => true
  | t :: ts, f :: F, off => f.offset == off && gtOk P t f.type && P.cellsOf f.type == t.size && gtOkL P ts F (off + t.size)
  | _, _, _ => false
end
section
variable {H : Type} {enc : TypeId × Value → H} {P : Program} {w : World} {base : Nat} {spare : Nat → Bool} {held : Bool}
theorem open_fields {n : Nat} (ih : ∀ (T : GT) (t : TypeId) (cs : List Value) (r : DataW H × List MemPlace), gtOk P T t = true → DataW.trod enc P w base spare held n t cs = some r → ∃ x : T.den, RdT w T x cs) (cs : List Value) :
    ∀ (fs : List GT) (F : List Field) (off : Nat), gtOkL P fs F off = true → cs.length = off + GT.sizeL fs →
      (∀ (i : Nat) (f : Field), F[i]? = some f → ∃ r, DataW.trod enc P w base spare held n f.type ((cs.drop f.offset).take (P.cellsOf f.type)) = some r) → ∃ x : GT.denL fs, RdTL w fs x (cs.drop off)
  | [], [], off, h, hl, hf => ⟨(), RdTL.nil.2 (List.drop_eq_nil_of_le (by simp [GT.sizeL] at hl; omega))⟩
  | [], _ :: _, off, h, hl, hf => by simp [gtOkL] at h
  | _ :: _, [], off, h, hl, hf => by simp [gtOkL] at h
  | t :: ts, f :: F, off, h, hl, hf => by
    simp only [gtOkL, Bool.and_eq_true, beq_iff_eq] at h
    obtain ⟨⟨⟨h1, h2⟩, h3⟩, h4⟩ := h
    obtain ⟨r, hr⟩ := hf 0 f rfl
    obtain ⟨x, hx⟩ := ih t f.type _ r h2 hr
    obtain ⟨xs, hxs⟩ := open_fields ih cs ts F (off + t.size) h4 (by simp only [GT.sizeL] at hl; omega) (fun i f' hf' => hf (i + 1) f' (by simpa using hf'))
    refine ⟨(x, xs), ?_⟩
    simp only [RdTL]
    refine ⟨_, _, ?_, hx, hxs⟩
    rw [h1, h3, ← List.drop_drop, List.take_append_drop]
theorem open_elems {n : Nat} (ih : ∀ (T : GT) (t : TypeId) (cs : List Value) (r : DataW H × List MemPlace), gtOk P T t = true → DataW.trod enc P w base spare held n t cs = some r → ∃ x : T.den, RdT w T x cs)
    (e : GT) (E : TypeId) (hE : gtOk P e E = true) (a : Addr) :
    ∀ m : Nat, (∀ i, i < m → ∃ cs', w.cells? base (a.add (i * e.size)) e.size = some cs' ∧ ∃ r, DataW.trod enc P w base spare held n E cs' = some r) →
      ∃ (xs : List e.den) (us : List Value), xs.length = m ∧ RdTs w e xs us ∧ ∀ j u, us[j]? = some u → w.cell? (a.add j) = some u
  | 0, _ => ⟨[], [], rfl, by simp only [RdTs], fun j u h => by simp at h⟩
  | m + 1, h => by
    obtain ⟨xs, us, hl, hr, hc⟩ := open_elems ih e E hE a m (fun i hi => h i (by omega))
    obtain ⟨cs', hcs, r, htr⟩ := h m (by omega)
    obtain ⟨x, hx⟩ := ih e E cs' r hE htr
    obtain ⟨_, hlen, hcell⟩ := World.cells?_some hcs
    refine ⟨xs ++ [x], us ++ cs', by simp [hl], RdTs_snoc hx hr, fun j u hu => ?_⟩
    have hul := RdTs_len xs us hr
    rcases Nat.lt_or_ge j us.length with hj | hj
    · exact hc j u (by rwa [List.getElem?_append_left hj] at hu)
    · rw [List.getElem?_append_right hj] at hu
      have hjl : j - us.length < cs'.length := (List.getElem?_eq_some_iff.1 hu).1
      have := hcell (j - us.length) (by omega)
      rw [add_add', hu] at this
      rw [← this]
      congr 2
      rw [hul, hl] at hj ⊢
      omega
theorem open_gt : ∀ (fuel : Nat) (T : GT) (t : TypeId) (cs : List Value) (r : DataW H × List MemPlace), gtOk P T t = true → DataW.trod enc P w base spare held fuel t cs = some r → ∃ x : T.den, RdT w T x cs
  | 0, T, t, cs, r, hT, h => by simp [DataW.trod] at h
  | n + 1, .int, t, cs, r, hT, h => by
    have ht : P.underlying t = some (.int .i64) := by simp only [gtOk, isInt64] at hT; split at hT <;> simp_all
    obtain ⟨z, rfl, _, hw⟩ := DataW.trod_int ht h
    exact ⟨z, RdT.int.2 ⟨rfl, by
      have := hw
      simp [Lit.wf, IntKind.min, IntKind.max, IntKind.signed, IntKind.bits] at this
      unfold inI64
      omega⟩⟩
  | n + 1, .u8, t, cs, r, hT, h => by
    have ht : P.underlying t = some (.int .u8) := by simp only [gtOk, isU8] at hT; split at hT <;> simp_all
    obtain ⟨z, rfl, _, hw⟩ := DataW.trod_int ht h
    have : 0 ≤ z ∧ z ≤ 255 := by
      have := hw
      simp [Lit.wf, IntKind.min, IntKind.max, IntKind.signed, IntKind.bits] at this
      omega
    refine ⟨UInt8.ofNat z.toNat, RdT.u8.2 ?_⟩
    have e : (UInt8.ofNat z.toNat).toNat = z.toNat := by rw [UInt8.toNat_ofNat']; exact Nat.mod_eq_of_lt (by omega)
    rw [e, Int.toNat_of_nonneg this.1]
  | n + 1, .bool, t, cs, r, hT, h => by
    have ht : P.underlying t = some .bool := by simp only [gtOk, isBool] at hT; split at hT <;> simp_all
    obtain ⟨z, rfl, _⟩ := DataW.trod_bool ht h
    exact ⟨z, RdT.bool.2 rfl⟩
  | n + 1, .str, t, cs, r, hT, h => by
    have ht : P.underlying t = some .string := by simp only [gtOk, isStr] at hT; split at hT <;> simp_all
    obtain ⟨z, rfl, _, hw⟩ := DataW.trod_string ht h
    exact ⟨z, RdT.str.2 ⟨rfl, hw⟩⟩
  | n + 1, .sl E e, t, cs, r, hT, h => by
    simp only [gtOk, Bool.and_eq_true, beq_iff_eq] at hT
    obtain ⟨⟨h1, h2⟩, h3⟩ := hT
    have ht : P.underlying t = some (.slice E) := by simp only [slElem] at h1; split at h1 <;> simp_all
    rcases DataW.trod_slice ht h with ⟨rfl, _⟩ | ⟨a, len, cap, elems, rest, n', hn, rfl, _, hb, hlc, hcm, hel, hi, _⟩
    · exact ⟨[], RdT.sl.2 ⟨none, 0, [], rfl, Nat.le_refl _, by simp [maxLen], Rd.nil _ _, RdTs.nil.2 rfl⟩⟩
    · cases hn
      obtain ⟨xs, us, hl, hr, hc⟩ := open_elems (fun T t cs r => open_gt n T t cs r) e E h2 a len (fun i hil => by
        have := hi i hil
        rw [h3] at this
        have hlt : i < elems.length := by omega
        rw [List.getElem?_eq_getElem hlt] at this
        cases hcs : w.cells? base (a.add (i * e.size)) e.size with
        | none => rw [hcs] at this; simp at this
        | some cs' => rw [hcs] at this; exact ⟨cs', rfl, _, this⟩)
      exact ⟨xs, RdT.sl.2 ⟨some a, cap, us, by rw [hl], by omega, hcm, fun j u hu => ⟨a, rfl, hc j u hu⟩, hr⟩⟩
  | n + 1, .st fs, t, cs, r, hT, h => by
    simp only [gtOk] at hT
    split at hT
    · rename_i F hF
      simp only [Bool.and_eq_true, beq_iff_eq] at hT
      have ht : ∃ F', P.underlying t = some (.struct F') ∧ F'.toList = F := by simp only [stFields] at hF; split at hF <;> simp_all
      obtain ⟨F', ht, rfl⟩ := ht
      obtain ⟨xs, n', hn, _, hcl, hxl, hf⟩ := DataW.trod_struct ht h
      cases hn
      obtain ⟨x, hx⟩ := open_fields (fun T t cs r => open_gt n T t cs r) cs fs F'.toList 0 hT.1 (by rw [hcl, hT.2]; omega) (fun i f hfi => by
        have := hf i f (by simpa using hfi)
        have hlt : i < xs.length := by
          have := (List.getElem?_eq_some_iff.1 hfi).1
          simp at this; omega
        rw [List.getElem?_eq_getElem hlt] at this
        exact ⟨_, this⟩)
      exact ⟨x, RdT.st.2 (by simpa using hx)⟩
    · cases hT
end
end Go.Proofs.Ytojgphgfhapacaa
