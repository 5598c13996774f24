/- Texts of this claim, one behind the other: Str, Base, Kit, Mem, GT, Seq, GT2, Ty, Sl, In, Tu, Var, RvP, Fix. -/
import Derived.WalkKit
import Derived.WalkLawsBesides
import Derived.Test.YtfcnimglcialbaaRows
import Derived.WalkSpells
import Derived.Lib.Hide
import Derived.Outline
import Derived.IntWalk
import Derived.Deep.Quiet
import Derived.Deep.QuietTactic
import Derived.BigQuiet
import Derived.RegionTactic
import Derived.ChangeAlike
import Derived.StillTailTactics
import Derived.Deep.RegionHeld3
import Derived.Deep.RegionLaw
import Derived.Deep.RegionLawGrows
import Derived.Deep.RegionWith
import Derived.Deep.AppendLies
import Derived.Deep.Draws
import Derived.Deep.LoopGhost
import Derived.Deep.DeepFit
import Derived.Deep.DeepMust
import Derived.Deep.DeepCutAuto
import Derived.Deep.Cut
import Derived.Deep.CutRange
import Derived.Deep.CutBlock
import Derived.Laws.OwnMore
import Derived.Laws.MakeOwn
import Derived.Laws.Rows
import Derived.Laws.AppendOwn
import Derived.Laws.Bits64
import Derived.Laws.BitsAllLaws
import Derived.Maps.AppendAt
import Derived.OwnWalk
import Derived.Handy
import Derived.PlainAid
import Derived.Laws.BytesArg
import Derived.Laws.IdiomStrings
import Derived.ChangeArms
import Derived.DataReads
import Derived.Deep.Slices
import Derived.Laws.Bits128
/- Plain facts on strings as lists of bytes: their order is total. -/
namespace Go.Proofs.Ytfcnimglcialbaa
theorem bl_eq : ∀ x y : List UInt8, Op.bytesLess x y = decide (x < y)
  | [], [] => by simp [Op.bytesLess]
  | [], _ :: _ => by simp [Op.bytesLess]
  | _ :: _, [] => by simp [Op.bytesLess]
  | a :: x, b :: y => by
    have ih := bl_eq x y
    simp only [Op.bytesLess, List.cons_lt_cons_iff, ih]
    by_cases h : a < b
    · simp [h]
    · by_cases h2 : a = b
      · subst h2; simp
      · simp [h, h2]
theorem tl_inj {a b : ByteArray} (h : a.toList = b.toList) : a = b := by
  have h2 : a.data.toList = b.data.toList := by simpa [ByteArray.toList_eq] using h
  cases a; cases b; simp at h2; simp [h2]
def sLt (a b : ByteArray) : Bool := Op.bytesLess a.toList b.toList
def sEmp (a : ByteArray) : Bool := a.toList.isEmpty
def sEq (a b : ByteArray) : Bool := a.toList == b.toList
theorem sLt_iff (a b : ByteArray) : sLt a b = true ↔ a.toList < b.toList := by simp [sLt, bl_eq]
theorem sLt_irrefl (a : ByteArray) : sLt a a = false := by
  cases h : sLt a a with
  | false => rfl
  | true => exact absurd ((sLt_iff _ _).1 h) (List.lt_irrefl _)
theorem sLt_trans {a b c : ByteArray} (h : sLt a b = true) (h2 : sLt b c = true) : sLt a c = true :=
  (sLt_iff _ _).2 (List.lt_trans ((sLt_iff _ _).1 h) ((sLt_iff _ _).1 h2))
theorem sLt_tri (a b : ByteArray) : sLt a b = true ∨ a.toList = b.toList ∨ sLt b a = true := by
  rcases Classical.em (a.toList < b.toList) with h | h
  · exact .inl ((sLt_iff _ _).2 h)
  · rcases Classical.em (b.toList < a.toList) with h2 | h2
    · exact .inr (.inr ((sLt_iff _ _).2 h2))
    · exact .inr (.inl (List.le_antisymm h2 h))
theorem sLt_asymm {a b : ByteArray} (h : sLt a b = true) : sLt b a = false := by
  cases h2 : sLt b a with
  | false => rfl
  | true => exact absurd (sLt_trans h h2) (by simp [sLt_irrefl])
theorem not_sLt_nil (a b : ByteArray) (h : b.toList = []) : sLt a b = false := by
  cases h2 : sLt a b with
  | false => rfl
  | true => have := (sLt_iff _ _).1 h2; rw [h] at this; exact absurd this (List.not_lt_nil _)
end Go.Proofs.Ytfcnimglcialbaa
/- What all walks import. -/

/- Small laws that the walks use: one byte made to a string. -/
namespace Go.Proofs.Ytfcnimglcialbaa
open Go.RowKit
set_option linter.unusedVariables false
theorem ret_str {a b : ByteArray} (h : a = b) : Ending.returned (.string a) = .returned (.string b) := by rw [h]
theorem ret_int {k : IntKind} {a b : Int} (h : a = b) : Ending.returned (.int k a) = .returned (.int k b) := by rw [h]
theorem ret_bool {a b : Bool} (h : a = b) : Ending.returned (.bool a) = .returned (.bool b) := by rw [h]
def byteStr (n : Int) : ByteArray := ⟨#[UInt8.ofNat n.toNat]⟩
@[simp, go_sem] theorem byteStr_size (n : Int) : (byteStr n).size = 1 := rfl
theorem extract_size_le (p : ByteArray) (i k : Nat) : (p.extract i k).size ≤ p.size := by simp; omega
theorem run_conv_one (w : World) (a : Addr) (c : Nat) (n : Int) (h : w.cell? a = some (.int .u8 n)) :
    (convert 25 9 (.slice (some a) 1 c)).run Try.prog w = .ok (.string (byteStr n)) w := by
  rw [run_convert_bytes_string w _ _ 5 (some a) 1 c Try.underlying25 Try.underlying5 Try.underlying9]
  rw [run_bytesToString w a 1 c [n] (by
    have := run_loadCells_list (P := Try.prog) w a [Value.int .u8 n] (fun j v hj => by
      rcases j with _ | j
      · simp at hj; subst hj; simpa [Addr.add] using h
      · simp at hj)
    simpa using this)]
  simp [byteStr, ByteArray.empty, ByteArray.emptyWithCapacity, ByteArray.push]
  rfl
@[go_sem] theorem conv_one_new (w : World) (n : Int) (e : TypeId) :
    (convert 25 9 (.slice (some ⟨w.heap.size, 0, none⟩) 1 1)).run Try.prog (w.alloc (.cells #[.int .u8 n] e)) = .ok (.string (byteStr n)) (w.alloc (.cells #[.int .u8 n] e)) :=
  run_conv_one _ _ _ _ (by simp only [go_sem]; simp)
@[go_sem] theorem conv_one_new_drew (w : World) (n : Int) (e : TypeId) :
    (convert 25 9 (.slice (some ⟨w.heap.size, 0, none⟩) 1 1)).run Try.prog (w.alloc (.cells #[.int .u8 n] e)).drew = .ok (.string (byteStr n)) (w.alloc (.cells #[.int .u8 n] e)).drew :=
  run_conv_one _ _ _ _ (by show (w.alloc (.cells #[.int .u8 n] e)).cell? _ = _; simp only [go_sem]; simp)
end Go.Proofs.Ytfcnimglcialbaa
/- Words for memory: a slice that reads as a list of cells; a row of the call's own; append and make as steps of the walk. -/
namespace Go.Proofs.Ytfcnimglcialbaa
open Go.RowKit
set_option linter.unusedVariables false
set_option linter.unusedSimpArgs false

theorem blk_add (a : Addr) (n : Nat) : (a.add n).block = a.block := by unfold Addr.add; split <;> rfl
theorem add_add' (a : Addr) (i j : Nat) : (a.add i).add j = a.add (i + j) := by
  unfold Addr.add
  by_cases hi : i = 0 <;> by_cases hj : j = 0 <;> simp [hi, hj, Nat.add_assoc]

/-- The slice that begins at A reads as the cells us. -/
def Rd (w : World) (A : Option Addr) (us : List Value) : Prop := ∀ j u, us[j]? = some u → ∃ ad, A = some ad ∧ w.cell? (ad.add j) = some u

section
variable {w w' : World} {A : Option Addr} {us : List Value}
theorem Rd.nil (w : World) (A : Option Addr) : Rd w A [] := fun j u h => by simp at h
theorem Rd.at_ (h : Rd w A us) {j : Nat} (hj : j < us.length) : ∃ ad, A = some ad ∧ w.cell? (ad.add j) = some us[j] := h j _ (List.getElem?_eq_getElem hj)
theorem Rd.below {B : Nat} (h : Rd w A us) (hb : Below B w w') (hB : us ≠ [] → ∀ ad, A = some ad → ad.block < B) : Rd w' A us := fun j u hu => by
  obtain ⟨ad, e, hc⟩ := h j u hu
  refine ⟨ad, e, (hb.cell (p := ad.add j) ?_).trans hc⟩
  rw [blk_add]
  exact hB (by rintro rfl; simp at hu) ad e
theorem Rd.lt (h : Rd w A us) (hne : us ≠ []) : ∀ ad, A = some ad → ad.block < w.heap.size := fun ad e => by
  have hl : 0 < us.length := List.length_pos_iff.2 hne
  obtain ⟨ad', e', hc⟩ := h.at_ hl
  rw [e'] at e
  cases e
  have := World.block_lt_of_cell? w _ hc
  rwa [blk_add] at this
theorem Rd.ext (h : Rd w A us) (hb : Below w.heap.size w w') : Rd w' A us := h.below hb h.lt
theorem Rd.drew (h : Rd w A us) : Rd w.drew A us := h
theorem Rd.drewN (h : Rd w A us) (n : Nat) : Rd (w.drewN n) A us := h
theorem Rd.alloc (h : Rd w A us) (o : Obj) : Rd (w.alloc o) A us := h.ext ((Below.refl _ _).alloc (Nat.le_refl _) o)
theorem Rd.grown {row : Option Nat} (h : Rd w A us) (hg : w.grownBy w' row) (hr : us ≠ [] → A.map (·.block) ≠ row) : Rd w' A us := fun j u hu => by
  obtain ⟨ad, e, hc⟩ := h j u hu
  refine ⟨ad, e, hg.cell hc ?_⟩
  rw [blk_add]
  have := hr (by rintro rfl; simp at hu)
  rwa [e] at this
theorem Rd.of_own {base e size n c : Nat} (h : w.ownsRow base e size (.slice A n c) n us) : Rd w A us := fun j u hu => by
  rcases h.2 with ⟨hv, hn⟩ | ⟨g, cap, cur, hv, _⟩
  · have := h.1; subst hn; have h0 : us = [] := List.eq_nil_of_length_eq_zero (by simpa using this)
    subst h0; simp at hu
  · have hA : A = some ⟨g, 0, none⟩ := by injection hv
    subst hA
    exact ⟨_, rfl, h.cells (g := g) rfl j u hu⟩
theorem Rd.take (h : Rd w A us) (k : Nat) : Rd w A (us.take k) := fun j u hu => h j u (by
  rw [List.getElem?_take] at hu; split at hu
  · exact hu
  · cases hu)
theorem Rd.drop {ad : Addr} (h : Rd w (some ad) us) (k : Nat) : Rd w (some (ad.add k)) (us.drop k) := fun j u hu => by
  obtain ⟨ad', e, hc⟩ := h (k + j) u (by rwa [List.getElem?_drop] at hu)
  cases e
  exact ⟨_, rfl, by rw [add_add']; exact hc⟩
end

theorem Rd.new (w : World) (l : List Value) (e : TypeId) : Rd (w.alloc (.cells l.toArray e)) (some ⟨w.heap.size, 0, none⟩) l := fun j u hu => by
  refine ⟨_, rfl, ?_⟩
  have : (⟨w.heap.size, 0, none⟩ : Addr).add j = ⟨w.heap.size, j, none⟩ := by unfold Addr.add; split <;> simp_all
  rw [this, cell_of_row _ _ j l.toArray e (0, 0) (heap_alloc_new w _)]
  simpa using hu
theorem below_drewN {B : Nat} {a w : World} (h : Below B a w) (n : Nat) : Below B a (w.drewN n) := ⟨h.os, h.tape, h.output, h.size, h.block⟩
/-- What is asked of a slice type t of elements e of so many cells and bytes. -/
def SlT (t e size bytes : Nat) : Prop := Try.prog.underlying t = some (.slice e) ∧ 0 < size ∧ ∃ i z, Try.prog.info? e = some i ∧ i.zero = some z ∧ i.size = size ∧ i.bytes = bytes ∧ z.cells.size = size
theorem SlT.mk' {t e size bytes : Nat} {z : Value} (h1 : Try.prog.underlying t = some (.slice e)) (h2 : (Try.prog.info? e).map (fun i => (i.zero, i.size, i.bytes)) = some (some z, size, bytes)) (h3 : z.cells.size = size) (h4 : 0 < size) : SlT t e size bytes := by
  obtain ⟨i, hi, a, b, c⟩ := info_parts h2
  exact ⟨h1, h4, i, z, hi, a, b, c, h3⟩
abbrev Own (w : World) (base e size : Nat) (A : Option Addr) (n c : Nat) (us : List Value) : Prop := w.ownsRow base e size (.slice A n c) n us
def blk (A : Option Addr) : Option Nat := A.map (·.block)
theorem ownBlock_slice (A : Option Addr) (n c : Nat) : (Value.slice A n c).ownBlock = blk A := by cases A <;> rfl
theorem Own.nil (w : World) (base e size : Nat) : Own w base e size none 0 0 [] := ⟨by simp, .inl ⟨rfl, rfl⟩⟩
theorem Own.lt {w : World} {base e size n c : Nat} {A : Option Addr} {us : List Value} (h : Own w base e size A n c us) : ∀ k, blk A = some k → base ≤ k ∧ k < w.heap.size := by
  have := World.ownsRow.lt h; rwa [ownBlock_slice] at this
theorem Own.kept {w w' : World} {base e size n c : Nat} {A : Option Addr} {us : List Value} {row : Option Nat} (h : Own w base e size A n c us) (hg : w.grownBy w' row) (hne : blk A = none ∨ blk A ≠ row) : Own w' base e size A n c us :=
  World.ownsRow.kept h hg (by rwa [ownBlock_slice])
theorem Own.len {w : World} {base e size n c : Nat} {A : Option Addr} {us : List Value} (h : Own w base e size A n c us) : us.length = n * size := h.1
theorem Own.ext {w w' : World} {base e size n c : Nat} {A : Option Addr} {us : List Value} (h : Own w base e size A n c us) (hb : Below w.heap.size w w') : Own w' base e size A n c us :=
  Own.kept (row := none) h ⟨hb.os, hb.tape, hb.output, hb.size, fun i hi _ => hb.block i hi⟩ (by cases A <;> simp [blk])
theorem Own.drew {w : World} {base e size n c : Nat} {A : Option Addr} {us : List Value} (h : Own w base e size A n c us) : Own w.drew base e size A n c us := h
theorem Own.drewN {w : World} {base e size n c : Nat} {A : Option Addr} {us : List Value} (h : Own w base e size A n c us) (k : Nat) : Own (w.drewN k) base e size A n c us := h
theorem Own.alloc {w : World} {base e size n c : Nat} {A : Option Addr} {us : List Value} (h : Own w base e size A n c us) (o : Obj) : Own (w.alloc o) base e size A n c us := h.ext ((Below.refl _ _).alloc (Nat.le_refl _) o)
theorem Below.grown' {B : Nat} {a w w' : World} {A : Option Addr} (h : Below B a w) (hg : w.grownBy w' (blk A)) (hB : B ≤ w.heap.size) (hr : ∀ k, blk A = some k → B ≤ k) : Below B a w' := h.grown hg hB hr

theorem run_app_nil {t ty e size bytes : Nat} (hT : SlT t e size bytes) {w : World} {base n c : Nat} {A : Option Addr} {us : List Value} (hown : Own w base e size A n c us) (c' : Nat) :
    (Builtin.append_ #[t, t] ty #[.slice A n c, .slice none 0 c']).run Try.prog w = .ok (.slice A n c) w := by
  obtain ⟨ht, _, i, z, hi, hz, _, _, _⟩ := hT
  rcases hown.2 with ⟨hv, rfl⟩ | ⟨g, cap, cur, hv, _, _, hnc, _⟩
  · cases hv
    simp [Builtin.append_, run_underlying ht, sizeOf, typeInfo, hi, Builtin.lenOf, Builtin.firstCells]
  · cases hv
    simp [Builtin.append_, run_underlying ht, sizeOf, typeInfo, hi, Builtin.lenOf, Builtin.firstCells, hnc, storeCells]

theorem run_app {t ty e size bytes : Nat} (hT : SlT t e size bytes) {w : World} {base n c : Nat} {A : Option Addr} {us : List Value} (hown : Own w base e size A n c us)
    {A2 : Option Addr} {m c2 : Nat} {news : List Value} (hl : news.length = m * size) (hr : Rd w A2 news) (h1 : ∀ u ∈ news, u.oneCell' = true)
    (hbytes : (n + m) * bytes ≤ 140737488355328) (h63 : n + m ≤ 140737488355328) (hbase : base ≤ w.heap.size) :
    ∃ A' c' w', (Builtin.append_ #[t, t] ty #[.slice A n c, .slice A2 m c2]).run Try.prog w = .ok (.slice A' (n + m) c') w' ∧ Own w' base e size A' (n + m) c' (us ++ news) ∧ w.grownBy w' (blk A) ∧ (blk A' = blk A ∨ blk A' = some w.heap.size) := by
  rcases A2 with _ | ad
  · have hn : news = [] := by
      rcases news with _ | ⟨u, l⟩
      · rfl
      · obtain ⟨ad, e, _⟩ := hr 0 u rfl; cases e
    have hm : m = 0 := by
      subst hn; have := hT.2.1
      rcases Nat.eq_zero_or_pos m with h | h
      · exact h
      · have := Nat.mul_pos h this; simp at hl; omega
    subst hn; subst hm
    exact ⟨A, c, w, run_app_nil hT hown c2, by simpa using hown, World.grownBy.refl w _, .inl rfl⟩
  · have hcells : ∀ j u, news[j]? = some u → w.cell? (ad.add j) = some u := fun j u hu => by
      obtain ⟨ad', e, hc⟩ := hr j u hu; cases e; exact hc
    obtain ⟨ht, hsz, i, z, hi, hz, hs, hby, hzs⟩ := hT
    obtain ⟨v', w', hrun, h2, h3, _, h5⟩ := run_append_own_at (P := Try.prog) w base t ty e i z size bytes ht hi hz hs hby hzs hsz (.slice A n c) n us hown ad m c2 news hl hcells h1 (by simp only [maxLen]; omega) hbytes hbase
    obtain ⟨A', c', rfl⟩ : ∃ A' c', v' = .slice A' (n + m) c' := by
      rcases h2.2 with ⟨hv, hn⟩ | ⟨g, cap, cur, hv, _⟩
      · exact ⟨none, 0, by rw [hv, hn]⟩
      · exact ⟨_, _, hv⟩
    rw [ownBlock_slice] at h3 h5
    rw [ownBlock_slice] at h5
    exact ⟨A', c', w', hrun, h2, h3, h5⟩

/-- append as a step of a plain region. -/
theorem wpList_app {ops : Array Oper} {rest : List Oper} {o : Oper} {a : Act} {w : World} {Q : Exit → Act → World → Prop} {t e size bytes : Nat} (hT : SlT t e size bytes) (hgd : o.guard = none) (s x : Operand)
    (ho : o.op = .call { callee := .builtin .append, args := #[s, x], argTypes := #[t, t] })
    {base n c : Nat} {A : Option Addr} {us : List Value} (hs : a.eval s = .slice A n c) (hown : Own w base e size A n c us)
    {A2 : Option Addr} {m c2 : Nat} {news : List Value} (hx : a.eval x = .slice A2 m c2) (hl : news.length = m * size)
    (h : ∀ A' c' w', Own w' base e size A' (n + m) c' (us ++ news) → w.grownBy w' (blk A) → (blk A' = blk A ∨ blk A' = some w.heap.size) → wpList Try.prog ops Q rest (a.put o.dst (.slice A' (n + m) c')) w')
    (hr : Rd w A2 news) (h1 : ∀ u ∈ news, u.oneCell' = true)
    (hbytes : (n + m) * bytes ≤ 140737488355328) (h63 : n + m ≤ 140737488355328) (hbase : base ≤ w.heap.size) :
    wpList Try.prog ops Q (o :: rest) a w :=
  wpList_plain hgd fun K hK => by
    obtain ⟨A', c', w', hrun, h2, h3, h4⟩ := run_app (ty := o.type) hT hown hl hr h1 hbytes h63 hbase (c2 := c2)
    unfold Oper.wp execOp
    simp only [ho, resolve, invoke, builtin, Sem.run_bind, Sem.run_pure, Result.andThen_ok, List.map_toArray, List.map_cons, List.map_nil, hs, hx, hrun]
    exact hK _ _ (h A' c' w' h2 h3 h4)

/-- A string made of a slice of bytes. -/
def byteVs (l : List UInt8) : List Value := l.map fun b => .int .u8 (b.toNat : Int)
theorem run_str {w : World} {A : Option Addr} {l : List UInt8} (h : Rd w A (byteVs l)) (n : Nat) (hn : n = l.length) (c : Nat) :
    (convert 25 9 (.slice A n c)).run Try.prog w = .ok (.string ⟨l.toArray⟩) w := by
  subst hn
  rcases A with _ | ad
  · have hl : l = [] := by
      rcases l with _ | ⟨u, l⟩
      · rfl
      · obtain ⟨ad, e, _⟩ := h 0 (.int .u8 u.toNat) (by simp [byteVs]); cases e
    subst hl
    rw [run_convert_bytes_nil w _ _ Try.underlying25 Try.underlying5 _ _ _ Try.underlying9]
    rfl
  · exact run_convert_bytes_back w _ _ _ ad c l Try.underlying25 Try.underlying5 Try.underlying9 (fun j hj => by
      obtain ⟨ad', e, hc⟩ := h j (.int .u8 (l[j].toNat : Int)) (by simp [byteVs, List.getElem?_eq_getElem hj])
      cases e; exact hc)
theorem byteVs_one (l : List UInt8) : ∀ u ∈ byteVs l, u.oneCell' = true := by
  intro u hu
  obtain ⟨b, _, rfl⟩ := List.mem_map.1 hu
  rfl
theorem byteVs_app (a b : List UInt8) : byteVs a ++ byteVs b = byteVs (a ++ b) := by simp [byteVs]
theorem byteVs_len (a : List UInt8) : (byteVs a).length = a.length := by simp [byteVs]
theorem T_bytes : SlT 25 5 1 1 := SlT.mk' (z := .int .u8 0) Try.underlying25 (by kernel_rfl) rfl (by omega)
end Go.Proofs.Ytfcnimglcialbaa
/- Data by their type: what a list of cells reads as. -/
namespace Go.Proofs.Ytfcnimglcialbaa
open Go.RowKit
set_option linter.unusedVariables false
set_option linter.unusedSimpArgs false

/-- The types: int, byte, bool, string, slice of elements (with the element type's number), struct. -/
inductive GT where
  | int | u8 | bool | str
  | sl (E : TypeId) (e : GT)
  | st (fs : List GT)
mutual
def GT.den : GT → Type
  | .int => Int
  | .u8 => UInt8
  | .bool => Bool
  | .str => ByteArray
  | .sl _ e => List e.den
  | .st fs => GT.denL fs
def GT.denL : List GT → Type
  | [] => Unit
  | t :: ts => t.den × GT.denL ts
end
mutual
def GT.size : GT → Nat
  | .st fs => GT.sizeL fs
  | _ => 1
def GT.sizeL : List GT → Nat
  | [] => 0
  | t :: ts => t.size + GT.sizeL ts
end
def inI64 (n : Int) : Prop := -9223372036854775808 ≤ n ∧ n ≤ 9223372036854775807
mutual
def RdT (w : World) : (T : GT) → T.den → List Value → Prop
  | .int, n, cs => cs = [.int .i64 n] ∧ inI64 n
  | .u8, b, cs => cs = [.int .u8 (b.toNat : Int)]
  | .bool, b, cs => cs = [.bool b]
  | .str, s, cs => cs = [.string s] ∧ s.size ≤ maxLen
  | .sl _ e, xs, cs => ∃ (A : Option Addr) (c : Nat) (us : List Value), cs = [.slice A xs.length c] ∧ xs.length ≤ c ∧ c ≤ maxLen ∧ Rd w A us ∧ RdTs w e xs us
  | .st fs, x, cs => RdTL w fs x cs
def RdTs (w : World) (e : GT) : List e.den → List Value → Prop
  | [], us => us = []
  | x :: xs, us => ∃ c1 c2, us = c1 ++ c2 ∧ RdT w e x c1 ∧ RdTs w e xs c2
def RdTL (w : World) : (fs : List GT) → GT.denL fs → List Value → Prop
  | [], _, cs => cs = []
  | t :: ts, (x, xs), cs => ∃ c1 c2, cs = c1 ++ c2 ∧ RdT w t x c1 ∧ RdTL w ts xs c2
end
theorem RdT.int {w : World} {n : GT.den .int} {cs : List Value} : RdT w .int n cs ↔ cs = [.int .i64 n] ∧ inI64 n := by simp only [RdT]
theorem RdT.u8 {w : World} {n : GT.den .u8} {cs : List Value} : RdT w .u8 n cs ↔ cs = [.int .u8 (UInt8.toNat n : Int)] := by simp only [RdT]
theorem RdT.bool {w : World} {n : GT.den .bool} {cs : List Value} : RdT w .bool n cs ↔ cs = [.bool n] := by simp only [RdT]
theorem RdT.str {w : World} {n : GT.den .str} {cs : List Value} : RdT w .str n cs ↔ cs = [.string n] ∧ ByteArray.size n ≤ maxLen := by simp only [RdT]
theorem RdT.sl {w : World} {E : TypeId} {e : GT} {xs : GT.den (.sl E e)} {cs : List Value} : RdT w (.sl E e) xs cs ↔ ∃ (A : Option Addr) (c : Nat) (us : List Value), cs = [.slice A (List.length xs) c] ∧ List.length xs ≤ c ∧ c ≤ maxLen ∧ Rd w A us ∧ RdTs w e xs us := by simp only [RdT]
theorem RdT.st {w : World} {fs : List GT} {x : GT.den (.st fs)} {cs : List Value} : RdT w (.st fs) x cs ↔ RdTL w fs x cs := by simp only [RdT]
theorem RdTL.nil {w : World} {x : GT.denL []} {cs : List Value} : RdTL w [] x cs ↔ cs = [] := by simp only [RdTL]
theorem RdTL.cons {w : World} {t : GT} {ts : List GT} {x : t.den} {xs : GT.denL ts} {cs : List Value} : RdTL w (t :: ts) (x, xs) cs ↔ ∃ c1 c2, cs = c1 ++ c2 ∧ RdT w t x c1 ∧ RdTL w ts xs c2 := by simp only [RdTL]
theorem RdTs.nil {w : World} {e : GT} {us : List Value} : RdTs w e [] us ↔ us = [] := by simp only [RdTs]
theorem RdTs.cons {w : World} {e : GT} {x : e.den} {xs : List e.den} {us : List Value} : RdTs w e (x :: xs) us ↔ ∃ c1 c2, us = c1 ++ c2 ∧ RdT w e x c1 ∧ RdTs w e xs c2 := by simp only [RdTs]
theorem RdTs_snoc {w : World} {e : GT} {x : e.den} {c : List Value} (hx : RdT w e x c) : ∀ {xs : List e.den} {us : List Value}, RdTs w e xs us → RdTs w e (xs ++ [x]) (us ++ c)
  | [], us, h => by
    simp only [RdTs] at h
    subst h
    exact (by simp only [List.nil_append, RdTs]; exact ⟨c, [], by simp, hx, rfl⟩)
  | y :: ys, us, h => by
    simp only [RdTs] at h
    obtain ⟨c1, c2, rfl, h1, h2⟩ := h
    simp only [List.cons_append, RdTs]
    exact ⟨c1, c2 ++ c, by simp, h1, RdTs_snoc hx h2⟩
mutual
theorem RdT_len {w : World} : ∀ (T : GT) (x : T.den) (cs : List Value), RdT w T x cs → cs.length = T.size
  | .int, n, cs, h => by simp only [RdT] at h; rw [h.1]; rfl
  | .u8, n, cs, h => by simp only [RdT] at h; rw [h]; rfl
  | .bool, n, cs, h => by simp only [RdT] at h; rw [h]; rfl
  | .str, n, cs, h => by simp only [RdT] at h; rw [h.1]; rfl
  | .sl _ e, xs, cs, h => by simp only [RdT] at h; obtain ⟨A, c, us, rfl, _⟩ := h; rfl
  | .st fs, x, cs, h => by simp only [RdT] at h; simpa [GT.size] using RdTL_len fs x cs h
theorem RdTL_len {w : World} : ∀ (fs : List GT) (x : GT.denL fs) (cs : List Value), RdTL w fs x cs → cs.length = GT.sizeL fs
  | [], _, cs, h => by simp only [RdTL] at h; subst h; rfl
  | t :: ts, (x, xs), cs, h => by
    simp only [RdTL] at h
    obtain ⟨c1, c2, rfl, h1, h2⟩ := h
    simp only [List.length_append, GT.sizeL, RdT_len t x c1 h1, RdTL_len ts xs c2 h2]
end
theorem RdTs_len {w : World} {e : GT} : ∀ (xs : List e.den) (us : List Value), RdTs w e xs us → us.length = xs.length * e.size
  | [], us, h => by simp only [RdTs] at h; subst h; simp
  | x :: xs, us, h => by
    simp only [RdTs] at h
    obtain ⟨c1, c2, rfl, h1, h2⟩ := h
    simp only [List.length_append, List.length_cons, RdT_len e x c1 h1, RdTs_len xs c2 h2, Nat.add_mul, Nat.one_mul]
    omega
mutual
theorem RdT_ext {w w' : World} (hb : Below w.heap.size w w') : ∀ (T : GT) (x : T.den) (cs : List Value), RdT w T x cs → RdT w' T x cs
  | .int, n, cs, h => by simp only [RdT] at h ⊢; exact h
  | .u8, n, cs, h => by simp only [RdT] at h ⊢; exact h
  | .bool, n, cs, h => by simp only [RdT] at h ⊢; exact h
  | .str, n, cs, h => by simp only [RdT] at h ⊢; exact h
  | .sl _ e, xs, cs, h => by
    simp only [RdT] at h ⊢
    obtain ⟨A, c, us, h1, h2, h3, h4, h5⟩ := h
    exact ⟨A, c, us, h1, h2, h3, h4.ext hb, RdTs_ext hb e xs us h5⟩
  | .st fs, x, cs, h => by simp only [RdT] at h ⊢; exact RdTL_ext hb fs x cs h
theorem RdTs_ext {w w' : World} (hb : Below w.heap.size w w') : ∀ (e : GT) (xs : List e.den) (us : List Value), RdTs w e xs us → RdTs w' e xs us
  | e, [], us, h => by simp only [RdTs] at h ⊢; exact h
  | e, x :: xs, us, h => by
    simp only [RdTs] at h ⊢
    obtain ⟨c1, c2, h1, h2, h3⟩ := h
    exact ⟨c1, c2, h1, RdT_ext hb e x c1 h2, RdTs_ext hb e xs c2 h3⟩
theorem RdTL_ext {w w' : World} (hb : Below w.heap.size w w') : ∀ (fs : List GT) (x : GT.denL fs) (cs : List Value), RdTL w fs x cs → RdTL w' fs x cs
  | [], _, cs, h => by simp only [RdTL] at h ⊢; exact h
  | t :: ts, (x, xs), cs, h => by
    simp only [RdTL] at h ⊢
    obtain ⟨c1, c2, h1, h2, h3⟩ := h
    exact ⟨c1, c2, h1, RdT_ext hb t x c1 h2, RdTL_ext hb ts xs c2 h3⟩
end

/-- Does type number t of the program have this form? -/
def isInt64 (P : Program) (t : TypeId) : Bool := match P.underlying t with
  | some (.int .i64) => true
  | _ => false
def isU8 (P : Program) (t : TypeId) : Bool := match P.underlying t with
  | some (.int .u8) => true
  | _ => false
def isBool (P : Program) (t : TypeId) : Bool := match P.underlying t with
  | some .bool => true
  | _ => false
def isStr (P : Program) (t : TypeId) : Bool := match P.underlying t with
  | some .string => true
  | _ => false
def slElem (P : Program) (t : TypeId) : Option TypeId := match P.underlying t with
  | some (.slice e) => some e
  | _ => none
def stFields (P : Program) (t : TypeId) : Option (List Field) := match P.underlying t with
  | some (.struct F) => some F.toList
  | _ => none
mutual
def gtOk (P : Program) : GT → TypeId → Bool
  | .int, t => isInt64 P t
  | .u8, t => isU8 P t
  | .bool, t => isBool P t
  | .str, t => isStr P t
  | .sl E e, t => slElem P t == some E && gtOk P e E && P.cellsOf E == e.size
  | .st fs, t => match stFields P t with
    | some F => gtOkL P fs F 0 && P.cellsOf t == GT.sizeL fs
    | none => false
def gtOkL (P : Program) : List GT → List Field → Nat → Bool
  | [], [], _ => true
  | t :: ts, f :: F, off => f.offset == off && gtOk P t f.type && P.cellsOf f.type == t.size && gtOkL P ts F (off + t.size)
  | _, _, _ => false
end
section
variable {H : Type} {enc : TypeId × Value → H} {P : Program} {w : World} {base : Nat} {spare : Nat → Bool} {held : Bool}
theorem open_fields {n : Nat} (ih : ∀ (T : GT) (t : TypeId) (cs : List Value) (r : DataW H × List MemPlace), gtOk P T t = true → DataW.trod enc P w base spare held n t cs = some r → ∃ x : T.den, RdT w T x cs) (cs : List Value) :
    ∀ (fs : List GT) (F : List Field) (off : Nat), gtOkL P fs F off = true → cs.length = off + GT.sizeL fs →
      (∀ (i : Nat) (f : Field), F[i]? = some f → ∃ r, DataW.trod enc P w base spare held n f.type ((cs.drop f.offset).take (P.cellsOf f.type)) = some r) → ∃ x : GT.denL fs, RdTL w fs x (cs.drop off)
  | [], [], off, h, hl, hf => ⟨(), RdTL.nil.2 (List.drop_eq_nil_of_le (by simp [GT.sizeL] at hl; omega))⟩
  | [], _ :: _, off, h, hl, hf => by simp [gtOkL] at h
  | _ :: _, [], off, h, hl, hf => by simp [gtOkL] at h
  | t :: ts, f :: F, off, h, hl, hf => by
    simp only [gtOkL, Bool.and_eq_true, beq_iff_eq] at h
    obtain ⟨⟨⟨h1, h2⟩, h3⟩, h4⟩ := h
    obtain ⟨r, hr⟩ := hf 0 f rfl
    obtain ⟨x, hx⟩ := ih t f.type _ r h2 hr
    obtain ⟨xs, hxs⟩ := open_fields ih cs ts F (off + t.size) h4 (by simp only [GT.sizeL] at hl; omega) (fun i f' hf' => hf (i + 1) f' (by simpa using hf'))
    refine ⟨(x, xs), ?_⟩
    simp only [RdTL]
    refine ⟨_, _, ?_, hx, hxs⟩
    rw [h1, h3, ← List.drop_drop, List.take_append_drop]
theorem open_elems {n : Nat} (ih : ∀ (T : GT) (t : TypeId) (cs : List Value) (r : DataW H × List MemPlace), gtOk P T t = true → DataW.trod enc P w base spare held n t cs = some r → ∃ x : T.den, RdT w T x cs)
    (e : GT) (E : TypeId) (hE : gtOk P e E = true) (a : Addr) :
    ∀ m : Nat, (∀ i, i < m → ∃ cs', w.cells? base (a.add (i * e.size)) e.size = some cs' ∧ ∃ r, DataW.trod enc P w base spare held n E cs' = some r) →
      ∃ (xs : List e.den) (us : List Value), xs.length = m ∧ RdTs w e xs us ∧ ∀ j u, us[j]? = some u → w.cell? (a.add j) = some u
  | 0, _ => ⟨[], [], rfl, by simp only [RdTs], fun j u h => by simp at h⟩
  | m + 1, h => by
    obtain ⟨xs, us, hl, hr, hc⟩ := open_elems ih e E hE a m (fun i hi => h i (by omega))
    obtain ⟨cs', hcs, r, htr⟩ := h m (by omega)
    obtain ⟨x, hx⟩ := ih e E cs' r hE htr
    obtain ⟨_, hlen, hcell⟩ := World.cells?_some hcs
    refine ⟨xs ++ [x], us ++ cs', by simp [hl], RdTs_snoc hx hr, fun j u hu => ?_⟩
    have hul := RdTs_len xs us hr
    rcases Nat.lt_or_ge j us.length with hj | hj
    · exact hc j u (by rwa [List.getElem?_append_left hj] at hu)
    · rw [List.getElem?_append_right hj] at hu
      have hjl : j - us.length < cs'.length := (List.getElem?_eq_some_iff.1 hu).1
      have := hcell (j - us.length) (by omega)
      rw [add_add', hu] at this
      rw [← this]
      congr 2
      rw [hul, hl] at hj ⊢
      omega
theorem open_gt : ∀ (fuel : Nat) (T : GT) (t : TypeId) (cs : List Value) (r : DataW H × List MemPlace), gtOk P T t = true → DataW.trod enc P w base spare held fuel t cs = some r → ∃ x : T.den, RdT w T x cs
  | 0, T, t, cs, r, hT, h => by simp [DataW.trod] at h
  | n + 1, .int, t, cs, r, hT, h => by
    have ht : P.underlying t = some (.int .i64) := by simp only [gtOk, isInt64] at hT; split at hT <;> simp_all
    obtain ⟨z, rfl, _, hw⟩ := DataW.trod_int ht h
    exact ⟨z, RdT.int.2 ⟨rfl, by
      have := hw
      simp [Lit.wf, IntKind.min, IntKind.max, IntKind.signed, IntKind.bits] at this
      unfold inI64
      omega⟩⟩
  | n + 1, .u8, t, cs, r, hT, h => by
    have ht : P.underlying t = some (.int .u8) := by simp only [gtOk, isU8] at hT; split at hT <;> simp_all
    obtain ⟨z, rfl, _, hw⟩ := DataW.trod_int ht h
    have : 0 ≤ z ∧ z ≤ 255 := by
      have := hw
      simp [Lit.wf, IntKind.min, IntKind.max, IntKind.signed, IntKind.bits] at this
      omega
    refine ⟨UInt8.ofNat z.toNat, RdT.u8.2 ?_⟩
    have e : (UInt8.ofNat z.toNat).toNat = z.toNat := by rw [UInt8.toNat_ofNat']; exact Nat.mod_eq_of_lt (by omega)
    rw [e, Int.toNat_of_nonneg this.1]
  | n + 1, .bool, t, cs, r, hT, h => by
    have ht : P.underlying t = some .bool := by simp only [gtOk, isBool] at hT; split at hT <;> simp_all
    obtain ⟨z, rfl, _⟩ := DataW.trod_bool ht h
    exact ⟨z, RdT.bool.2 rfl⟩
  | n + 1, .str, t, cs, r, hT, h => by
    have ht : P.underlying t = some .string := by simp only [gtOk, isStr] at hT; split at hT <;> simp_all
    obtain ⟨z, rfl, _, hw⟩ := DataW.trod_string ht h
    exact ⟨z, RdT.str.2 ⟨rfl, hw⟩⟩
  | n + 1, .sl E e, t, cs, r, hT, h => by
    simp only [gtOk, Bool.and_eq_true, beq_iff_eq] at hT
    obtain ⟨⟨h1, h2⟩, h3⟩ := hT
    have ht : P.underlying t = some (.slice E) := by simp only [slElem] at h1; split at h1 <;> simp_all
    rcases DataW.trod_slice ht h with ⟨rfl, _⟩ | ⟨a, len, cap, elems, rest, n', hn, rfl, _, hb, hlc, hcm, hel, hi, _⟩
    · exact ⟨[], RdT.sl.2 ⟨none, 0, [], rfl, Nat.le_refl _, by simp [maxLen], Rd.nil _ _, RdTs.nil.2 rfl⟩⟩
    · cases hn
      obtain ⟨xs, us, hl, hr, hc⟩ := open_elems (fun T t cs r => open_gt n T t cs r) e E h2 a len (fun i hil => by
        have := hi i hil
        rw [h3] at this
        have hlt : i < elems.length := by omega
        rw [List.getElem?_eq_getElem hlt] at this
        cases hcs : w.cells? base (a.add (i * e.size)) e.size with
        | none => rw [hcs] at this; simp at this
        | some cs' => rw [hcs] at this; exact ⟨cs', rfl, _, this⟩)
      exact ⟨xs, RdT.sl.2 ⟨some a, cap, us, by rw [hl], by omega, hcm, fun j u hu => ⟨a, rfl, hc j u hu⟩, hr⟩⟩
  | n + 1, .st fs, t, cs, r, hT, h => by
    simp only [gtOk] at hT
    split at hT
    · rename_i F hF
      simp only [Bool.and_eq_true, beq_iff_eq] at hT
      have ht : ∃ F', P.underlying t = some (.struct F') ∧ F'.toList = F := by simp only [stFields] at hF; split at hF <;> simp_all
      obtain ⟨F', ht, rfl⟩ := ht
      obtain ⟨xs, n', hn, _, hcl, hxl, hf⟩ := DataW.trod_struct ht h
      cases hn
      obtain ⟨x, hx⟩ := open_fields (fun T t cs r => open_gt n T t cs r) cs fs F'.toList 0 hT.1 (by rw [hcl, hT.2]; omega) (fun i f hfi => by
        have := hf i f (by simpa using hfi)
        have hlt : i < xs.length := by
          have := (List.getElem?_eq_some_iff.1 hfi).1
          simp at this; omega
        rw [List.getElem?_eq_getElem hlt] at this
        exact ⟨_, this⟩)
      exact ⟨x, RdT.st.2 (by simpa using hx)⟩
    · cases hT
end
end Go.Proofs.Ytfcnimglcialbaa
/- A region that draws its order and whose operations leave the world alone: walked in the order of the text, one operation at a time, by the plain walk. -/
namespace Go.Proofs.Ytfcnimglcialbaa
open Go.RowKit
set_option linter.unusedVariables false
set_option linter.unusedSimpArgs false

/-- Operations that hand back a value or nothing, and no call of a Go function. -/
def pk : Op → Bool
  | .move _ | .assign _ | .pick .. | .load .. | .binOp .. | .unOp .. | .convert .. | .slice .. | .fieldAddr .. | .field .. | .indexAddr .. | .index .. | .extract .. => true
  | .call { callee := .builtin b, .. } => match b with
    | .len | .cap | .min | .max => true
    | _ => false
  | _ => false
def isVal : Next → Prop
  | .value _ => True
  | _ => False
theorem vrun {P : Program} {s : Sem Value} {w w' : World} {n : Next} (h : (do let x ← s; pure (Next.value x) : Sem Next).run P w = .ok n w') : isVal n := by
  rw [Sem.run_bind] at h
  cases hr : s.run P w with
  | ok x w1 => rw [hr] at h; simp [Result.andThen] at h; rw [← h.1]; trivial
  | halt x w1 => rw [hr] at h; simp [Result.andThen] at h
theorem vrun' {s : Result Value} {w' : World} {n : Next} (h : (s.andThen fun a w' => Result.ok (Next.value a) w') = .ok n w') : isVal n := by
  cases s with
  | ok x w1 => simp [Result.andThen] at h; rw [← h.1]; trivial
  | halt x w1 => simp [Result.andThen] at h
theorem pk_val {P : Program} {ev : Operand → Value} {o : Oper} {w w' : World} {n : Next} (hp : pk o.op = true) (h : (execOp ev o).run P w = .ok n w') : isVal n := by
  unfold execOp at h
  cases ho : o.op with
  | call c =>
    rw [ho] at hp h
    rcases c with ⟨callee, args, tys⟩
    cases callee with
    | builtin b =>
      cases b <;> simp [pk] at hp
      all_goals
        simp only [resolve, invoke, builtin, Sem.run_bind, Sem.run_pure, Result.andThen_ok] at h
        exact vrun' h
    | value f => simp [pk] at hp
    | invoke r m => simp [pk] at hp
  | move x => rw [ho] at h; simp only [Sem.run_pure] at h; cases h; trivial
  | assign x => rw [ho] at h; simp only [Sem.run_pure] at h; cases h; trivial
  | pick c a b => rw [ho] at h; exact vrun (s := do pure (if ← asBool (ev c) then ev a else ev b)) (by simpa [Sem.run_bind] using h)
  | _ =>
    rw [ho] at hp h
    first
      | exact vrun h
      | simp [pk] at hp

def SeqQ (w : World) (Q : Act → Prop) : Exit → Act → World → Prop
  | .normal, a, w' => w' = w ∧ Q a
  | _, _, _ => False
/-- The walk in the order of the text: a plain operation by the plain walk, another as it stands. -/
def wpSeq (P : Program) (ops : Array Oper) (w : World) (Q : Act → Prop) : List Oper → Act → Prop
  | [], a => Q a
  | o :: rest, a => if pk o.op = true then wpList P ops (SeqQ w (wpSeq P ops w Q rest)) [o] a w else (if Region.wanted o (yielded ops a.tmps) then o.still P a w (wpSeq P ops w Q rest) else wpSeq P ops w Q rest (a.put o.dst undef))
section
variable {P : Program} {ops : Array Oper} {w : World} {Q : Act → Prop}
theorem wpSeq_nil {a : Act} (h : Q a) : wpSeq P ops w Q [] a := h
theorem wpSeq_plain {o : Oper} {rest : List Oper} {a : Act} (hp : pk o.op = true) (h : wpList P ops (SeqQ w (wpSeq P ops w Q rest)) [o] a w) : wpSeq P ops w Q (o :: rest) a := by
  unfold wpSeq; rw [if_pos hp]; exact h
theorem wpSeq_call {o : Oper} {rest : List Oper} {a : Act} (hp : pk o.op = false) (h : ∀ K : Act → Prop, (∀ a, wpSeq P ops w Q rest a → K a) → if Region.wanted o (yielded ops a.tmps) then o.still P a w K else K (a.put o.dst undef)) : wpSeq P ops w Q (o :: rest) a := by
  unfold wpSeq; rw [if_neg (by rw [hp]; exact Bool.false_ne_true)]; exact h _ fun _ h => h
theorem wpSeq_still : ∀ (l : List Oper) (a : Act), wpSeq P ops w Q l a → wpStill P ops w Q l a
  | [], a, h => h
  | o :: rest, a, h => by
    simp only [wpSeq] at h
    split at h
    case isFalse hp =>
      unfold wpStill
      split
      · rename_i hw; rw [if_pos hw] at h; exact Oper.still_mono (wpSeq_still rest) h
      · rename_i hw; rw [if_neg hw] at h; exact wpSeq_still rest _ h
    rename_i hp
    unfold wpList at h
    unfold wpStill
    have key : ∀ a' w', wpList P ops (SeqQ w (wpSeq P ops w Q rest)) [] a' w' → w' = w ∧ wpStill P ops w Q rest a' := fun a' w' h' => by
      unfold wpList at h'
      exact ⟨h'.1, wpSeq_still rest a' h'.2⟩
    split at h
    · rename_i hw
      rw [if_pos hw]
      rcases h with h | ⟨_, a0, w0, h⟩
      · unfold Oper.wp at h
        unfold Oper.still
        have hv := fun n w' => pk_val (P := P) (ev := a.eval) (w := w) (w' := w') (n := n) hp
        generalize (execOp a.eval o).run P w = r at *
        rcases r with ⟨n, w'⟩ | ⟨x, w'⟩
        · have hv' := hv n w' rfl
          cases n <;> simp only [Oper.upon] at h <;> simp only [Oper.stillUpon]
          case value v => exact key _ _ h
          all_goals exact hv'.elim
        · cases x <;> simp only [Oper.upon, SeqQ] at h
      · exact h.elim
    · rename_i hw
      rw [if_neg hw]
      exact (key _ _ h).2
/-- The whole region only reads. -/
theorem wp_region_seq {id : Nat} {Q : Exit → Act → World → Prop} {a : Act} {l : List Oper} (hm : P.follows .mixedOrders = true) (hB : Region.lexB .any l.toArray = true)
    (h : wpSeq P l.toArray w.drew (fun a' => Q .normal a' w.drew) l a) : (Code.region id l.toArray true).wp P Q a w :=
  wp_region_still_lit hm hB (wpSeq_still _ _ h)
/-- The first n operations only read; the rest is a chain. -/
theorem wp_region_seq_tail {id : Nat} {Q : Exit → Act → World → Prop} {a : Act} {l : List Oper} (n : Nat) (hm : P.follows .mixedOrders = true) (hB : Region.lexTailB .any l.toArray n = true)
    (h : wpSeq P l.toArray w.drew (fun a' => wpList P l.toArray Q (l.drop n) a' w.drew) (l.take n) a) : (Code.region id l.toArray true).wp P Q a w :=
  wp_region_still_tail n hm hB (wpSeq_still _ _ h)
end
end Go.Proofs.Ytfcnimglcialbaa
/- Elements of a slice that is read; named types. -/
namespace Go.Proofs.Ytfcnimglcialbaa
open Go.RowKit
set_option linter.unusedVariables false
theorem RdTs_at {w : World} {e : GT} : ∀ {xs : List e.den} {us : List Value}, RdTs w e xs us → ∀ {i : Nat} (hi : i < xs.length), ∃ c, RdT w e xs[i] c ∧ ∀ j u, c[j]? = some u → us[i * e.size + j]? = some u
  | [], us, h, i, hi => by simp at hi
  | x :: xs, us, h, i, hi => by
    obtain ⟨c1, c2, rfl, h1, h2⟩ := RdTs.cons.1 h
    have hl := RdT_len e x c1 h1
    rcases i with _ | i
    · exact ⟨c1, h1, fun j u hu => by
        have : j < c1.length := (List.getElem?_eq_some_iff.1 hu).1
        rw [Nat.zero_mul, Nat.zero_add, List.getElem?_append_left this]; exact hu⟩
    · obtain ⟨c, hc, hj⟩ := RdTs_at h2 (i := i) (by simpa using hi)
      refine ⟨c, hc, fun j u hu => ?_⟩
      have e1 : (i + 1) * e.size + j = c1.length + (i * e.size + j) := by rw [hl, Nat.add_mul, Nat.one_mul]; omega
      rw [e1, List.getElem?_append_right (by omega), Nat.add_sub_cancel_left]
      exact hj j u hu
theorem sl_at {w : World} {e : GT} {A : Option Addr} {us : List Value} {xs : List e.den} (hr : Rd w A us) (ht : RdTs w e xs us) {i : Nat} (hi : i < xs.length) (hs : 0 < e.size) :
    ∃ ad c, A = some ad ∧ RdT w e xs[i] c ∧ ∀ j u, c[j]? = some u → w.cell? (ad.add (i * e.size + j)) = some u := by
  obtain ⟨c, hc, hj⟩ := RdTs_at ht hi
  have hl := RdT_len e _ c hc
  obtain ⟨ad, e1, _⟩ := hr _ _ (hj 0 c[0] (List.getElem?_eq_getElem (by omega)))
  refine ⟨ad, c, e1, hc, fun j u hu => ?_⟩
  obtain ⟨ad', e2, h⟩ := hr _ _ (hj j u hu)
  rw [e1] at e2
  cases e2
  exact h
theorem RdTs_int {w : World} : ∀ {xs : List (GT.den .int)} {us : List Value}, RdTs w .int xs us → us = List.map (fun n : Int => Value.int .i64 n) xs ∧ ∀ n ∈ xs, inI64 n
  | [], us, h => ⟨by rw [RdTs.nil.1 h]; rfl, fun n h => by simp at h⟩
  | x :: xs, us, h => by
    obtain ⟨c1, c2, rfl, h1, h2⟩ := RdTs.cons.1 h
    obtain ⟨rfl, b⟩ := RdT.int.1 h1
    obtain ⟨rfl, bs⟩ := RdTs_int h2
    refine ⟨rfl, fun n hn => ?_⟩
    rcases List.mem_cons.1 hn with rfl | hn
    · exact b
    · exact bs n hn
theorem RdTs_str {w : World} : ∀ {xs : List (GT.den .str)} {us : List Value}, RdTs w .str xs us → us = List.map (fun n : ByteArray => Value.string n) xs ∧ ∀ n ∈ xs, ByteArray.size n ≤ maxLen
  | [], us, h => ⟨by rw [RdTs.nil.1 h]; rfl, fun n h => by simp at h⟩
  | x :: xs, us, h => by
    obtain ⟨c1, c2, rfl, h1, h2⟩ := RdTs.cons.1 h
    obtain ⟨rfl, b⟩ := RdT.str.1 h1
    obtain ⟨rfl, bs⟩ := RdTs_str h2
    refine ⟨rfl, fun n hn => ?_⟩
    rcases List.mem_cons.1 hn with rfl | hn
    · exact b
    · exact bs n hn
theorem RdTs_u8 {w : World} : ∀ {xs : List (GT.den .u8)} {us : List Value}, RdTs w .u8 xs us → us = byteVs xs
  | [], us, h => by rw [RdTs.nil.1 h]; rfl
  | x :: xs, us, h => by
    obtain ⟨c1, c2, rfl, h1, h2⟩ := RdTs.cons.1 h
    rw [RdT.u8.1 h1, RdTs_u8 h2]; rfl
theorem flat_get {α : Type} (f : α → List Value) (k : Nat) (hk : ∀ x, (f x).length = k) : ∀ (l : List α) (i : Nat) (hi : i < l.length) (j : Nat) (u : Value), (f l[i])[j]? = some u → (l.flatMap f)[i * k + j]? = some u
  | [], i, hi, _, _, _ => by simp at hi
  | x :: l, 0, hi, j, u, h => by
    have : j < (f x).length := (List.getElem?_eq_some_iff.1 h).1
    rw [List.flatMap_cons, Nat.zero_mul, Nat.zero_add, List.getElem?_append_left this]; exact h
  | x :: l, i + 1, hi, j, u, h => by
    have e1 : (i + 1) * k + j = (f x).length + (i * k + j) := by rw [hk, Nat.add_mul, Nat.one_mul]; omega
    rw [List.flatMap_cons, e1, List.getElem?_append_right (by omega), Nat.add_sub_cancel_left]
    exact flat_get f k hk l i (by simpa using hi) j u h
theorem flat_at {α : Type} {f : α → List Value} {k : Nat} (hk : ∀ x, (f x).length = k) (h0 : 0 < k) {w : World} {A : Option Addr} {l : List α} (hr : Rd w A (l.flatMap f)) {i : Nat} (hi : i < l.length) :
    ∃ ad, A = some ad ∧ ∀ j u, (f l[i])[j]? = some u → w.cell? (ad.add (i * k + j)) = some u := by
  have hl : 0 < (f l[i]).length := by rw [hk]; exact h0
  obtain ⟨ad, e1, _⟩ := hr _ _ (flat_get f k hk l i hi 0 _ (List.getElem?_eq_getElem hl))
  refine ⟨ad, e1, fun j u hu => ?_⟩
  obtain ⟨ad', e2, h⟩ := hr _ _ (flat_get f k hk l i hi j u hu)
  rw [e1] at e2; cases e2; exact h
theorem flat_len {α : Type} {f : α → List Value} {k : Nat} (hk : ∀ x, (f x).length = k) : ∀ l : List α, (l.flatMap f).length = l.length * k
  | [] => by simp
  | x :: l => by rw [List.flatMap_cons, List.length_append, hk, flat_len hk l, List.length_cons, Nat.add_mul, Nat.one_mul]; omega
end Go.Proofs.Ytfcnimglcialbaa
/- The named types of the program, and what their cells are. Written by gentypes.py. -/
namespace Go.Proofs.Ytfcnimglcialbaa
open Go.RowKit
set_option linter.unusedVariables false
abbrev gAcc : GT := .st [.int, .int, .int, .int, .int]
structure Acc where
  tenant : Int
  quota : Int
  bytes : Int
  keys : Int
  rows : Int
def Acc.of (x : gAcc.den) : Acc := match x with
  | (a0, a1, a2, a3, a4, _) => ⟨a0, a1, a2, a3, a4⟩
def Acc.cells (x : Acc) : List Value := [.int .i64 x.tenant, .int .i64 x.quota, .int .i64 x.bytes, .int .i64 x.keys, .int .i64 x.rows]
theorem gAcc_cells {w : World} {x : gAcc.den} {c : List Value} (h : RdT w gAcc x c) : c = (Acc.of x).cells ∧ inI64 (Acc.of x).tenant ∧ inI64 (Acc.of x).quota ∧ inI64 (Acc.of x).bytes ∧ inI64 (Acc.of x).keys ∧ inI64 (Acc.of x).rows := by
  obtain ⟨a0, a1, a2, a3, a4, u⟩ := x
  obtain ⟨_, _, rfl, h0, t0⟩ := RdTL.cons.1 (RdT.st.1 h)
  obtain ⟨rfl, b0⟩ := RdT.int.1 h0
  obtain ⟨_, _, rfl, h1, t1⟩ := RdTL.cons.1 (t0)
  obtain ⟨rfl, b1⟩ := RdT.int.1 h1
  obtain ⟨_, _, rfl, h2, t2⟩ := RdTL.cons.1 (t1)
  obtain ⟨rfl, b2⟩ := RdT.int.1 h2
  obtain ⟨_, _, rfl, h3, t3⟩ := RdTL.cons.1 (t2)
  obtain ⟨rfl, b3⟩ := RdT.int.1 h3
  obtain ⟨_, _, rfl, h4, t4⟩ := RdTL.cons.1 (t3)
  obtain ⟨rfl, b4⟩ := RdT.int.1 h4
  obtain rfl := RdTL.nil.1 t4
  exact ⟨rfl, b0, b1, b2, b3, b4⟩
abbrev gSlt : GT := .st [.int, .str]
structure Slt where
  seq : Int
  root : ByteArray
def Slt.of (x : gSlt.den) : Slt := match x with
  | (a0, a1, _) => ⟨a0, a1⟩
def Slt.cells (x : Slt) : List Value := [.int .i64 x.seq, .string x.root]
theorem gSlt_cells {w : World} {x : gSlt.den} {c : List Value} (h : RdT w gSlt x c) : c = (Slt.of x).cells ∧ inI64 (Slt.of x).seq ∧ (Slt.of x).root.size ≤ maxLen := by
  obtain ⟨a0, a1, u⟩ := x
  obtain ⟨_, _, rfl, h0, t0⟩ := RdTL.cons.1 (RdT.st.1 h)
  obtain ⟨rfl, b0⟩ := RdT.int.1 h0
  obtain ⟨_, _, rfl, h1, t1⟩ := RdTL.cons.1 (t0)
  obtain ⟨rfl, b1⟩ := RdT.str.1 h1
  obtain rfl := RdTL.nil.1 t1
  exact ⟨rfl, b0, b1⟩
abbrev gCRw : GT := .st [.int, .int, .str]
structure CRw where
  tenant : Int
  no : Int
  text : ByteArray
def CRw.of (x : gCRw.den) : CRw := match x with
  | (a0, a1, a2, _) => ⟨a0, a1, a2⟩
def CRw.cells (x : CRw) : List Value := [.int .i64 x.tenant, .int .i64 x.no, .string x.text]
theorem gCRw_cells {w : World} {x : gCRw.den} {c : List Value} (h : RdT w gCRw x c) : c = (CRw.of x).cells ∧ inI64 (CRw.of x).tenant ∧ inI64 (CRw.of x).no ∧ (CRw.of x).text.size ≤ maxLen := by
  obtain ⟨a0, a1, a2, u⟩ := x
  obtain ⟨_, _, rfl, h0, t0⟩ := RdTL.cons.1 (RdT.st.1 h)
  obtain ⟨rfl, b0⟩ := RdT.int.1 h0
  obtain ⟨_, _, rfl, h1, t1⟩ := RdTL.cons.1 (t0)
  obtain ⟨rfl, b1⟩ := RdT.int.1 h1
  obtain ⟨_, _, rfl, h2, t2⟩ := RdTL.cons.1 (t1)
  obtain ⟨rfl, b2⟩ := RdT.str.1 h2
  obtain rfl := RdTL.nil.1 t2
  exact ⟨rfl, b0, b1, b2⟩
abbrev gKVt : GT := .st [.str, .str]
structure KVt where
  key : ByteArray
  val : ByteArray
def KVt.of (x : gKVt.den) : KVt := match x with
  | (a0, a1, _) => ⟨a0, a1⟩
def KVt.cells (x : KVt) : List Value := [.string x.key, .string x.val]
theorem gKVt_cells {w : World} {x : gKVt.den} {c : List Value} (h : RdT w gKVt x c) : c = (KVt.of x).cells ∧ (KVt.of x).key.size ≤ maxLen ∧ (KVt.of x).val.size ≤ maxLen := by
  obtain ⟨a0, a1, u⟩ := x
  obtain ⟨_, _, rfl, h0, t0⟩ := RdTL.cons.1 (RdT.st.1 h)
  obtain ⟨rfl, b0⟩ := RdT.str.1 h0
  obtain ⟨_, _, rfl, h1, t1⟩ := RdTL.cons.1 (t0)
  obtain ⟨rfl, b1⟩ := RdT.str.1 h1
  obtain rfl := RdTL.nil.1 t1
  exact ⟨rfl, b0, b1⟩
abbrev gEntt : GT := .st [.str, .int, .bool, .str]
structure Entt where
  key : ByteArray
  seq : Int
  del : Bool
  val : ByteArray
def Entt.of (x : gEntt.den) : Entt := match x with
  | (a0, a1, a2, a3, _) => ⟨a0, a1, a2, a3⟩
def Entt.cells (x : Entt) : List Value := [.string x.key, .int .i64 x.seq, .bool x.del, .string x.val]
theorem gEntt_cells {w : World} {x : gEntt.den} {c : List Value} (h : RdT w gEntt x c) : c = (Entt.of x).cells ∧ (Entt.of x).key.size ≤ maxLen ∧ inI64 (Entt.of x).seq ∧ True ∧ (Entt.of x).val.size ≤ maxLen := by
  obtain ⟨a0, a1, a2, a3, u⟩ := x
  obtain ⟨_, _, rfl, h0, t0⟩ := RdTL.cons.1 (RdT.st.1 h)
  obtain ⟨rfl, b0⟩ := RdT.str.1 h0
  obtain ⟨_, _, rfl, h1, t1⟩ := RdTL.cons.1 (t0)
  obtain ⟨rfl, b1⟩ := RdT.int.1 h1
  obtain ⟨_, _, rfl, h2, t2⟩ := RdTL.cons.1 (t1)
  have b2 := trivial
  obtain rfl := RdT.bool.1 h2
  obtain ⟨_, _, rfl, h3, t3⟩ := RdTL.cons.1 (t2)
  obtain ⟨rfl, b3⟩ := RdT.str.1 h3
  obtain rfl := RdTL.nil.1 t3
  exact ⟨rfl, b0, b1, b2, b3⟩
abbrev gLnk : GT := .st [.int, .str, .str]
structure Lnk where
  who : Int
  text : ByteArray
  sum : ByteArray
def Lnk.of (x : gLnk.den) : Lnk := match x with
  | (a0, a1, a2, _) => ⟨a0, a1, a2⟩
def Lnk.cells (x : Lnk) : List Value := [.int .i64 x.who, .string x.text, .string x.sum]
theorem gLnk_cells {w : World} {x : gLnk.den} {c : List Value} (h : RdT w gLnk x c) : c = (Lnk.of x).cells ∧ inI64 (Lnk.of x).who ∧ (Lnk.of x).text.size ≤ maxLen ∧ (Lnk.of x).sum.size ≤ maxLen := by
  obtain ⟨a0, a1, a2, u⟩ := x
  obtain ⟨_, _, rfl, h0, t0⟩ := RdTL.cons.1 (RdT.st.1 h)
  obtain ⟨rfl, b0⟩ := RdT.int.1 h0
  obtain ⟨_, _, rfl, h1, t1⟩ := RdTL.cons.1 (t0)
  obtain ⟨rfl, b1⟩ := RdT.str.1 h1
  obtain ⟨_, _, rfl, h2, t2⟩ := RdTL.cons.1 (t1)
  obtain ⟨rfl, b2⟩ := RdT.str.1 h2
  obtain rfl := RdTL.nil.1 t2
  exact ⟨rfl, b0, b1, b2⟩
abbrev gFKy : GT := .st [.int, .str]
structure FKy where
  no : Int
  text : ByteArray
def FKy.of (x : gFKy.den) : FKy := match x with
  | (a0, a1, _) => ⟨a0, a1⟩
def FKy.cells (x : FKy) : List Value := [.int .i64 x.no, .string x.text]
theorem gFKy_cells {w : World} {x : gFKy.den} {c : List Value} (h : RdT w gFKy x c) : c = (FKy.of x).cells ∧ inI64 (FKy.of x).no ∧ (FKy.of x).text.size ≤ maxLen := by
  obtain ⟨a0, a1, u⟩ := x
  obtain ⟨_, _, rfl, h0, t0⟩ := RdTL.cons.1 (RdT.st.1 h)
  obtain ⟨rfl, b0⟩ := RdT.int.1 h0
  obtain ⟨_, _, rfl, h1, t1⟩ := RdTL.cons.1 (t0)
  obtain ⟨rfl, b1⟩ := RdT.str.1 h1
  obtain rfl := RdTL.nil.1 t1
  exact ⟨rfl, b0, b1⟩
theorem Acc.cells_len (x : Acc) : x.cells.length = 5 := rfl
theorem gAcc_flat {w : World} : ∀ {xs : List (gAcc.den)} {us : List Value}, RdTs w gAcc xs us → us = (xs.map Acc.of).flatMap Acc.cells
  | [], us, h => by rw [RdTs.nil.1 h]; rfl
  | x :: xs, us, h => by
    obtain ⟨c1, c2, rfl, h1, h2⟩ := RdTs.cons.1 h
    rw [(gAcc_cells h1).1, gAcc_flat h2]; rfl
theorem gAcc_open {w : World} {v : Value} {E : TypeId} {x : (GT.sl E gAcc).den} (hx : RdT w (GT.sl E gAcc) x [v]) : ∃ (A : Option Addr) (c : Nat) (l : List Acc), v = .slice A l.length c ∧ l.length ≤ c ∧ c ≤ maxLen ∧ Rd w A (l.flatMap Acc.cells) := by
  obtain ⟨A, c, us, e, hlc, hcm, hr, ht⟩ := RdT.sl.1 hx
  have hl : (List.map Acc.of x).length = List.length x := List.length_map Acc.of
  refine ⟨A, c, List.map Acc.of x, ?_, by rw [hl]; exact hlc, hcm, by rw [← gAcc_flat ht]; exact hr⟩
  rw [hl]; injection e
theorem Acc.at_ {w : World} {A : Option Addr} {l : List Acc} (hr : Rd w A (l.flatMap Acc.cells)) {i : Nat} (hi : i < l.length) : ∃ ad, A = some ad ∧ w.cell? (ad.add (i * 5)) = some (.int .i64 l[i].tenant) ∧ w.cell? ⟨(ad.add (i * 5)).block, (ad.add (i * 5)).off + 1, none⟩ = some (.int .i64 l[i].quota) ∧ w.cell? ⟨(ad.add (i * 5)).block, (ad.add (i * 5)).off + 2, none⟩ = some (.int .i64 l[i].bytes) ∧ w.cell? ⟨(ad.add (i * 5)).block, (ad.add (i * 5)).off + 3, none⟩ = some (.int .i64 l[i].keys) ∧ w.cell? ⟨(ad.add (i * 5)).block, (ad.add (i * 5)).off + 4, none⟩ = some (.int .i64 l[i].rows) := by
  obtain ⟨ad, e, h⟩ := flat_at Acc.cells_len (by omega) hr hi
  exact ⟨ad, e, h 0 _ rfl, (congrArg w.cell? (add_add' ad (i * 5) 1)).trans (h 1 _ rfl), (congrArg w.cell? (add_add' ad (i * 5) 2)).trans (h 2 _ rfl), (congrArg w.cell? (add_add' ad (i * 5) 3)).trans (h 3 _ rfl), (congrArg w.cell? (add_add' ad (i * 5) 4)).trans (h 4 _ rfl)⟩
theorem Slt.cells_len (x : Slt) : x.cells.length = 2 := rfl
theorem gSlt_flat {w : World} : ∀ {xs : List (gSlt.den)} {us : List Value}, RdTs w gSlt xs us → us = (xs.map Slt.of).flatMap Slt.cells
  | [], us, h => by rw [RdTs.nil.1 h]; rfl
  | x :: xs, us, h => by
    obtain ⟨c1, c2, rfl, h1, h2⟩ := RdTs.cons.1 h
    rw [(gSlt_cells h1).1, gSlt_flat h2]; rfl
theorem gSlt_open {w : World} {v : Value} {E : TypeId} {x : (GT.sl E gSlt).den} (hx : RdT w (GT.sl E gSlt) x [v]) : ∃ (A : Option Addr) (c : Nat) (l : List Slt), v = .slice A l.length c ∧ l.length ≤ c ∧ c ≤ maxLen ∧ Rd w A (l.flatMap Slt.cells) := by
  obtain ⟨A, c, us, e, hlc, hcm, hr, ht⟩ := RdT.sl.1 hx
  have hl : (List.map Slt.of x).length = List.length x := List.length_map Slt.of
  refine ⟨A, c, List.map Slt.of x, ?_, by rw [hl]; exact hlc, hcm, by rw [← gSlt_flat ht]; exact hr⟩
  rw [hl]; injection e
theorem Slt.at_ {w : World} {A : Option Addr} {l : List Slt} (hr : Rd w A (l.flatMap Slt.cells)) {i : Nat} (hi : i < l.length) : ∃ ad, A = some ad ∧ w.cell? (ad.add (i * 2)) = some (.int .i64 l[i].seq) ∧ w.cell? ⟨(ad.add (i * 2)).block, (ad.add (i * 2)).off + 1, none⟩ = some (.string l[i].root) := by
  obtain ⟨ad, e, h⟩ := flat_at Slt.cells_len (by omega) hr hi
  exact ⟨ad, e, h 0 _ rfl, (congrArg w.cell? (add_add' ad (i * 2) 1)).trans (h 1 _ rfl)⟩
theorem CRw.cells_len (x : CRw) : x.cells.length = 3 := rfl
theorem gCRw_flat {w : World} : ∀ {xs : List (gCRw.den)} {us : List Value}, RdTs w gCRw xs us → us = (xs.map CRw.of).flatMap CRw.cells
  | [], us, h => by rw [RdTs.nil.1 h]; rfl
  | x :: xs, us, h => by
    obtain ⟨c1, c2, rfl, h1, h2⟩ := RdTs.cons.1 h
    rw [(gCRw_cells h1).1, gCRw_flat h2]; rfl
theorem gCRw_open {w : World} {v : Value} {E : TypeId} {x : (GT.sl E gCRw).den} (hx : RdT w (GT.sl E gCRw) x [v]) : ∃ (A : Option Addr) (c : Nat) (l : List CRw), v = .slice A l.length c ∧ l.length ≤ c ∧ c ≤ maxLen ∧ Rd w A (l.flatMap CRw.cells) := by
  obtain ⟨A, c, us, e, hlc, hcm, hr, ht⟩ := RdT.sl.1 hx
  have hl : (List.map CRw.of x).length = List.length x := List.length_map CRw.of
  refine ⟨A, c, List.map CRw.of x, ?_, by rw [hl]; exact hlc, hcm, by rw [← gCRw_flat ht]; exact hr⟩
  rw [hl]; injection e
theorem CRw.at_ {w : World} {A : Option Addr} {l : List CRw} (hr : Rd w A (l.flatMap CRw.cells)) {i : Nat} (hi : i < l.length) : ∃ ad, A = some ad ∧ w.cell? (ad.add (i * 3)) = some (.int .i64 l[i].tenant) ∧ w.cell? ⟨(ad.add (i * 3)).block, (ad.add (i * 3)).off + 1, none⟩ = some (.int .i64 l[i].no) ∧ w.cell? ⟨(ad.add (i * 3)).block, (ad.add (i * 3)).off + 2, none⟩ = some (.string l[i].text) := by
  obtain ⟨ad, e, h⟩ := flat_at CRw.cells_len (by omega) hr hi
  exact ⟨ad, e, h 0 _ rfl, (congrArg w.cell? (add_add' ad (i * 3) 1)).trans (h 1 _ rfl), (congrArg w.cell? (add_add' ad (i * 3) 2)).trans (h 2 _ rfl)⟩
theorem KVt.cells_len (x : KVt) : x.cells.length = 2 := rfl
theorem gKVt_flat {w : World} : ∀ {xs : List (gKVt.den)} {us : List Value}, RdTs w gKVt xs us → us = (xs.map KVt.of).flatMap KVt.cells
  | [], us, h => by rw [RdTs.nil.1 h]; rfl
  | x :: xs, us, h => by
    obtain ⟨c1, c2, rfl, h1, h2⟩ := RdTs.cons.1 h
    rw [(gKVt_cells h1).1, gKVt_flat h2]; rfl
theorem gKVt_open {w : World} {v : Value} {E : TypeId} {x : (GT.sl E gKVt).den} (hx : RdT w (GT.sl E gKVt) x [v]) : ∃ (A : Option Addr) (c : Nat) (l : List KVt), v = .slice A l.length c ∧ l.length ≤ c ∧ c ≤ maxLen ∧ Rd w A (l.flatMap KVt.cells) := by
  obtain ⟨A, c, us, e, hlc, hcm, hr, ht⟩ := RdT.sl.1 hx
  have hl : (List.map KVt.of x).length = List.length x := List.length_map KVt.of
  refine ⟨A, c, List.map KVt.of x, ?_, by rw [hl]; exact hlc, hcm, by rw [← gKVt_flat ht]; exact hr⟩
  rw [hl]; injection e
theorem KVt.at_ {w : World} {A : Option Addr} {l : List KVt} (hr : Rd w A (l.flatMap KVt.cells)) {i : Nat} (hi : i < l.length) : ∃ ad, A = some ad ∧ w.cell? (ad.add (i * 2)) = some (.string l[i].key) ∧ w.cell? ⟨(ad.add (i * 2)).block, (ad.add (i * 2)).off + 1, none⟩ = some (.string l[i].val) := by
  obtain ⟨ad, e, h⟩ := flat_at KVt.cells_len (by omega) hr hi
  exact ⟨ad, e, h 0 _ rfl, (congrArg w.cell? (add_add' ad (i * 2) 1)).trans (h 1 _ rfl)⟩
theorem Entt.cells_len (x : Entt) : x.cells.length = 4 := rfl
theorem gEntt_flat {w : World} : ∀ {xs : List (gEntt.den)} {us : List Value}, RdTs w gEntt xs us → us = (xs.map Entt.of).flatMap Entt.cells
  | [], us, h => by rw [RdTs.nil.1 h]; rfl
  | x :: xs, us, h => by
    obtain ⟨c1, c2, rfl, h1, h2⟩ := RdTs.cons.1 h
    rw [(gEntt_cells h1).1, gEntt_flat h2]; rfl
theorem gEntt_open {w : World} {v : Value} {E : TypeId} {x : (GT.sl E gEntt).den} (hx : RdT w (GT.sl E gEntt) x [v]) : ∃ (A : Option Addr) (c : Nat) (l : List Entt), v = .slice A l.length c ∧ l.length ≤ c ∧ c ≤ maxLen ∧ Rd w A (l.flatMap Entt.cells) := by
  obtain ⟨A, c, us, e, hlc, hcm, hr, ht⟩ := RdT.sl.1 hx
  have hl : (List.map Entt.of x).length = List.length x := List.length_map Entt.of
  refine ⟨A, c, List.map Entt.of x, ?_, by rw [hl]; exact hlc, hcm, by rw [← gEntt_flat ht]; exact hr⟩
  rw [hl]; injection e
theorem Entt.at_ {w : World} {A : Option Addr} {l : List Entt} (hr : Rd w A (l.flatMap Entt.cells)) {i : Nat} (hi : i < l.length) : ∃ ad, A = some ad ∧ w.cell? (ad.add (i * 4)) = some (.string l[i].key) ∧ w.cell? ⟨(ad.add (i * 4)).block, (ad.add (i * 4)).off + 1, none⟩ = some (.int .i64 l[i].seq) ∧ w.cell? ⟨(ad.add (i * 4)).block, (ad.add (i * 4)).off + 2, none⟩ = some (.bool l[i].del) ∧ w.cell? ⟨(ad.add (i * 4)).block, (ad.add (i * 4)).off + 3, none⟩ = some (.string l[i].val) := by
  obtain ⟨ad, e, h⟩ := flat_at Entt.cells_len (by omega) hr hi
  exact ⟨ad, e, h 0 _ rfl, (congrArg w.cell? (add_add' ad (i * 4) 1)).trans (h 1 _ rfl), (congrArg w.cell? (add_add' ad (i * 4) 2)).trans (h 2 _ rfl), (congrArg w.cell? (add_add' ad (i * 4) 3)).trans (h 3 _ rfl)⟩
theorem Lnk.cells_len (x : Lnk) : x.cells.length = 3 := rfl
theorem gLnk_flat {w : World} : ∀ {xs : List (gLnk.den)} {us : List Value}, RdTs w gLnk xs us → us = (xs.map Lnk.of).flatMap Lnk.cells
  | [], us, h => by rw [RdTs.nil.1 h]; rfl
  | x :: xs, us, h => by
    obtain ⟨c1, c2, rfl, h1, h2⟩ := RdTs.cons.1 h
    rw [(gLnk_cells h1).1, gLnk_flat h2]; rfl
theorem gLnk_open {w : World} {v : Value} {E : TypeId} {x : (GT.sl E gLnk).den} (hx : RdT w (GT.sl E gLnk) x [v]) : ∃ (A : Option Addr) (c : Nat) (l : List Lnk), v = .slice A l.length c ∧ l.length ≤ c ∧ c ≤ maxLen ∧ Rd w A (l.flatMap Lnk.cells) := by
  obtain ⟨A, c, us, e, hlc, hcm, hr, ht⟩ := RdT.sl.1 hx
  have hl : (List.map Lnk.of x).length = List.length x := List.length_map Lnk.of
  refine ⟨A, c, List.map Lnk.of x, ?_, by rw [hl]; exact hlc, hcm, by rw [← gLnk_flat ht]; exact hr⟩
  rw [hl]; injection e
theorem Lnk.at_ {w : World} {A : Option Addr} {l : List Lnk} (hr : Rd w A (l.flatMap Lnk.cells)) {i : Nat} (hi : i < l.length) : ∃ ad, A = some ad ∧ w.cell? (ad.add (i * 3)) = some (.int .i64 l[i].who) ∧ w.cell? ⟨(ad.add (i * 3)).block, (ad.add (i * 3)).off + 1, none⟩ = some (.string l[i].text) ∧ w.cell? ⟨(ad.add (i * 3)).block, (ad.add (i * 3)).off + 2, none⟩ = some (.string l[i].sum) := by
  obtain ⟨ad, e, h⟩ := flat_at Lnk.cells_len (by omega) hr hi
  exact ⟨ad, e, h 0 _ rfl, (congrArg w.cell? (add_add' ad (i * 3) 1)).trans (h 1 _ rfl), (congrArg w.cell? (add_add' ad (i * 3) 2)).trans (h 2 _ rfl)⟩
theorem FKy.cells_len (x : FKy) : x.cells.length = 2 := rfl
theorem gFKy_flat {w : World} : ∀ {xs : List (gFKy.den)} {us : List Value}, RdTs w gFKy xs us → us = (xs.map FKy.of).flatMap FKy.cells
  | [], us, h => by rw [RdTs.nil.1 h]; rfl
  | x :: xs, us, h => by
    obtain ⟨c1, c2, rfl, h1, h2⟩ := RdTs.cons.1 h
    rw [(gFKy_cells h1).1, gFKy_flat h2]; rfl
theorem gFKy_open {w : World} {v : Value} {E : TypeId} {x : (GT.sl E gFKy).den} (hx : RdT w (GT.sl E gFKy) x [v]) : ∃ (A : Option Addr) (c : Nat) (l : List FKy), v = .slice A l.length c ∧ l.length ≤ c ∧ c ≤ maxLen ∧ Rd w A (l.flatMap FKy.cells) := by
  obtain ⟨A, c, us, e, hlc, hcm, hr, ht⟩ := RdT.sl.1 hx
  have hl : (List.map FKy.of x).length = List.length x := List.length_map FKy.of
  refine ⟨A, c, List.map FKy.of x, ?_, by rw [hl]; exact hlc, hcm, by rw [← gFKy_flat ht]; exact hr⟩
  rw [hl]; injection e
theorem FKy.at_ {w : World} {A : Option Addr} {l : List FKy} (hr : Rd w A (l.flatMap FKy.cells)) {i : Nat} (hi : i < l.length) : ∃ ad, A = some ad ∧ w.cell? (ad.add (i * 2)) = some (.int .i64 l[i].no) ∧ w.cell? ⟨(ad.add (i * 2)).block, (ad.add (i * 2)).off + 1, none⟩ = some (.string l[i].text) := by
  obtain ⟨ad, e, h⟩ := flat_at FKy.cells_len (by omega) hr hi
  exact ⟨ad, e, h 0 _ rfl, (congrArg w.cell? (add_add' ad (i * 2) 1)).trans (h 1 _ rfl)⟩
end Go.Proofs.Ytfcnimglcialbaa
/- make and store as steps of the walk, over a row of the call's own. -/
namespace Go.Proofs.Ytfcnimglcialbaa
open Go.RowKit
set_option linter.unusedVariables false
set_option linter.unusedSimpArgs false
theorem add_zero_ (g i : Nat) : (⟨g, 0, none⟩ : Addr).add i = ⟨g, i, none⟩ := by unfold Addr.add; split <;> simp_all
theorem run_mk {t e size bytes : Nat} (hT : SlT t e size bytes) (n : Nat) (hn : n ≤ 1048576) (hb : bytes ≤ 1048576) :
    ∃ cs : Array Value, cs.size = n * size ∧ ∀ W : World, (Instr.makeSlice t (.int .i64 (n : Int)) (.int .i64 (n : Int))).run Try.prog W = .ok (.slice (some ⟨W.heap.size, 0, none⟩) n n) (W.alloc (.cells cs e)) := by
  obtain ⟨ht, _, i, z, hi, hz, hs, hby, hzs⟩ := hT
  refine ⟨madeCells z.cells (n * i.size), by rw [size_madeCells, hs], fun W => ?_⟩
  have hbn : (bytes : Int) * (n : Int) ≤ 281474976710656 := by
    have h : bytes * n ≤ 1048576 * 1048576 := Nat.mul_le_mul hb hn
    have h2 : ((bytes * n : Nat) : Int) ≤ 281474976710656 := by omega
    rwa [Int.natCast_mul] at h2
  have hr := run_make (P := Try.prog) W t e i z ht hi hz .i64 .i64 n n (by omega) (Int.le_refl _) (by rw [hby]; exact hbn) (by omega)
  simpa only [Int.toNat_natCast] using hr
theorem run_mk1 {t e bytes : Nat} {z : Value} (ht : Try.prog.underlying t = some (.slice e)) (hz : (Try.prog.info? e).map (fun i => (i.zero, i.size, i.bytes)) = some (some z, 1, bytes)) (hc : z.cells = #[z]) (n : Nat) (hn : n ≤ 1048576) (hb : bytes ≤ 1048576) :
    ∀ W : World, (Instr.makeSlice t (.int .i64 (n : Int)) (.int .i64 (n : Int))).run Try.prog W = .ok (.slice (some ⟨W.heap.size, 0, none⟩) n n) (W.alloc (.cells (List.replicate n z).toArray e)) := by
  obtain ⟨i, hi, hz, hs, hby⟩ := info_parts hz
  intro W
  have hbn : (bytes : Int) * (n : Int) ≤ 281474976710656 := by
    have h : bytes * n ≤ 1048576 * 1048576 := Nat.mul_le_mul hb hn
    have h2 : ((bytes * n : Nat) : Int) ≤ 281474976710656 := by omega
    rwa [Int.natCast_mul] at h2
  have hr := run_make (P := Try.prog) W t e i z ht hi hz .i64 .i64 n n (by omega) (Int.le_refl _) (by rw [hby]; exact hbn) (by omega)
  simp only [Int.toNat_natCast, hs, Nat.mul_one, hc] at hr
  rw [hr]
  have := toList_madeCells_one z n
  rw [← this]
theorem run_store_own {T k : Nat} (hs : (Try.prog.info? T).map (·.size) = some k) {w : World} {base e g n c : Nat} {us : List Value} (hown : Own w base e k (some ⟨g, 0, none⟩) n c us) {i : Nat} (hi : i < n)
    {v : Value} (hv : v.cells.size = k) (h1 : ∀ u ∈ v.cells.toList, u.oneCell' = true) :
    ∃ w', (storeVar T ⟨g, i * k, none⟩ v).run Try.prog w = .ok () w' ∧ Own w' base e k (some ⟨g, 0, none⟩) n c (us.take (i * k) ++ v.cells.toList ++ us.drop (i * k + k)) ∧ w.grownBy w' (some g) := by
  rcases hown.2 with ⟨h', _⟩ | ⟨g', cap', cur, h', hb, hg, hnc, hcm, hcs, htake⟩
  · simp at h'
  simp only [Value.slice.injEq, Option.some.injEq, Addr.mk.injEq, and_true, true_and] at h'
  obtain ⟨rfl, rfl⟩ := h'
  have hik : i * k + k ≤ n * k := by rw [← Nat.succ_mul]; exact Nat.mul_le_mul_right k hi
  have hnk : n * k ≤ c * k := Nat.mul_le_mul_right k hnc
  have hst := run_storeCells_at Try.prog g (i * k) e v.cells.toList 0 cur w hg (by simp; omega) h1
  simp only [Nat.add_zero] at hst
  obtain ⟨inf, hinf, hsz⟩ := Option.map_eq_some_iff.1 hs
  let nc : Array Value := (cur.toList.take (i * k) ++ v.cells.toList ++ cur.toList.drop (i * k + v.cells.toList.length)).toArray
  refine ⟨w.setRow g nc, ?_, ⟨?_, .inr ⟨g, c, nc, rfl, hb, ?_, hnc, hcm, ?_, ?_⟩⟩, ?_⟩
  · simp [storeVar, sizeOf, typeInfo, hinf, hsz, hv, hst, nc]
  · have := hown.1
    simp [List.length_take, List.length_drop]
    omega
  · simp only [World.setRow, Array.getElem?_modify, hg, if_true]; rfl
  · simp [nc, hv]; omega
  · show (nc.toList).take (n * k) = _
    simp only [nc]
    have hl : cur.toList.length = c * k := by simpa using hcs
    rw [List.take_append, List.take_append]
    simp only [List.length_append, List.length_take, Array.length_toList, hv, hcs]
    rw [show min (i * k) (c * k) = i * k by omega]
    rw [List.take_take, show min (n * k) (i * k) = i * k by omega, List.take_of_length_le (l := v.cells.toList) (by simp; omega)]
    rw [← htake]
    simp only [List.take_take, show min (i * k) (n * k) = i * k by omega, List.drop_take]
  · refine ⟨rfl, rfl, rfl, by simp [World.setRow], fun j hj hne => ?_⟩
    simp only [World.setRow, Array.getElem?_modify]
    rw [if_neg (by rintro rfl; exact hne rfl)]
/-- A row of the call's own whose first k elements are done. -/
def Done (w : World) (base e size g n : Nat) (k : Nat) (dn : List Value) : Prop := ∃ us, Own w base e size (some ⟨g, 0, none⟩) n n us ∧ us.take (k * size) = dn
theorem Done.start {w : World} {base e size g n : Nat} {us : List Value} (h : Own w base e size (some ⟨g, 0, none⟩) n n us) : Done w base e size g n 0 [] := ⟨us, h, by simp⟩
theorem Done.end_ {w : World} {base e size g n : Nat} {dn : List Value} (h : Done w base e size g n n dn) : Own w base e size (some ⟨g, 0, none⟩) n n dn := by
  obtain ⟨us, h1, h2⟩ := h
  rw [List.take_of_length_le (by rw [h1.1]; exact Nat.le_refl _)] at h2
  rw [← h2]; exact h1
theorem Done.step {w' : World} {base e size g n k : Nat} {us cs dn : List Value} (h : Own w' base e size (some ⟨g, 0, none⟩) n n (us.take (k * size) ++ cs ++ us.drop (k * size + size))) (h2 : us.take (k * size) = dn) (hc : cs.length = size) (hl : us.length = n * size) (hk : k < n) :
    Done w' base e size g n (k + 1) (dn ++ cs) := by
  refine ⟨_, h, ?_⟩
  have : k * size + size ≤ n * size := by rw [← Nat.succ_mul]; exact Nat.mul_le_mul_right size hk
  have hd : (us.take (k * size)).length = k * size := by rw [List.length_take]; omega
  rw [Nat.add_mul, Nat.one_mul, List.take_append, List.take_of_length_le (by rw [List.length_append, hd, hc]; exact Nat.le_refl _), List.length_append, hd, hc, Nat.sub_self, List.take_zero, List.append_nil, h2]
theorem wpList_st {ops : Array Oper} {rest : List Oper} {o : Oper} {a : Act} {w : World} {Q : Exit → Act → World → Prop} {T k : Nat} (hs : (Try.prog.info? T).map (·.size) = some k) (hgd : o.guard = none) (p x : Operand)
    (ho : o.op = .store T p x) {base e g n c : Nat} {us : List Value} (hown : Own w base e k (some ⟨g, 0, none⟩) n c us) {i : Nat} (hi : i < n)
    {ad : Addr} (hp : a.eval p = .pointer (some ad)) (had : ad = ⟨g, i * k, none⟩)
    (h : ∀ w', Own w' base e k (some ⟨g, 0, none⟩) n c (us.take (i * k) ++ (a.eval x).cells.toList ++ us.drop (i * k + k)) → w.grownBy w' (some g) → wpList Try.prog ops Q rest (a.put o.dst undef) w')
    (hv : (a.eval x).cells.size = k) (h1 : ∀ u ∈ (a.eval x).cells.toList, u.oneCell' = true) :
    wpList Try.prog ops Q (o :: rest) a w :=
  wpList_plain hgd fun K hK => by
    obtain ⟨w', hrun, h2, h3⟩ := run_store_own hs hown hi hv h1
    subst had
    unfold Oper.wp execOp
    simp only [ho, Instr.storeAt, hp, Instr.sureAddr, Sem.run_bind, Sem.run_pure, Result.andThen_ok, hrun]
    exact hK _ _ (h w' h2 h3)
theorem Done.ext {w w' : World} {base e size g n k : Nat} {dn : List Value} (h : Done w base e size g n k dn) (hb : Below w.heap.size w w') : Done w' base e size g n k dn := by
  obtain ⟨us, h1, h2⟩ := h
  exact ⟨us, Own.ext h1 hb, h2⟩
theorem Done.lt {w : World} {base e size g n k : Nat} {dn : List Value} (h : Done w base e size g n k dn) : base ≤ g ∧ g < w.heap.size := by
  obtain ⟨us, h1, _⟩ := h
  exact Own.lt h1 g rfl
/-- One more element is stored. -/
theorem wpList_stD {ops : Array Oper} {rest : List Oper} {o : Oper} {a : Act} {w : World} {Q : Exit → Act → World → Prop} {T k : Nat} (hs : (Try.prog.info? T).map (·.size) = some k) (hgd : o.guard = none) (p x : Operand)
    (ho : o.op = .store T p x) {base e g n i : Nat} {dn : List Value} (hd : Done w base e k g n i dn) (hi : i < n)
    {ad : Addr} (hp : a.eval p = .pointer (some ad)) (had : ad = ⟨g, i * k, none⟩) (cs : List Value) (hcs : (a.eval x).cells.toList = cs) (hl : cs.length = k) (h1 : cs.all (·.oneCell') = true)
    (h : ∀ w', Done w' base e k g n (i + 1) (dn ++ cs) → w.grownBy w' (some g) → wpList Try.prog ops Q rest (a.put o.dst undef) w') :
    wpList Try.prog ops Q (o :: rest) a w := by
  obtain ⟨us, hown, hus⟩ := hd
  refine wpList_st hs hgd p x ho hown hi hp had (fun w' h2 h3 => h w' (Done.step ?_ hus hl hown.1 hi) h3) ?_ ?_
  · rw [hcs] at h2; exact h2
  · rw [← hl, ← hcs]; simp
  · rw [hcs]; exact List.all_eq_true.1 h1
theorem flat_snoc {α : Type} (f : α → List Value) (l : List α) (k : Nat) (h : k < l.length) : (l.take (k + 1)).flatMap f = (l.take k).flatMap f ++ f l[k] := by
  rw [List.take_succ_eq_append_getElem h, List.flatMap_append]; simp
theorem below_own {B : Nat} {w w' w1 : World} {g : Nat} (h : Below B w w1) (hg : w1.grownBy w' (some g)) (hB : B ≤ g) (hs : B ≤ w1.heap.size) : Below B w w' :=
  h.grown hg hs (fun q hq => by cases hq; exact hB)
def DoneC (w : World) (base e size g n c : Nat) (k : Nat) (dn : List Value) : Prop := ∃ us, Own w base e size (some ⟨g, 0, none⟩) n c us ∧ us.take (k * size) = dn
theorem DoneC.end_ {w : World} {base e size g n c : Nat} {dn : List Value} (h : DoneC w base e size g n c n dn) : Own w base e size (some ⟨g, 0, none⟩) n c dn := by
  obtain ⟨us, h1, h2⟩ := h
  rw [List.take_of_length_le (by rw [h1.1]; exact Nat.le_refl _)] at h2
  rw [← h2]; exact h1
theorem DoneC.start {w : World} {base e size g n c : Nat} {us : List Value} (h : Own w base e size (some ⟨g, 0, none⟩) n c us) : DoneC w base e size g n c 0 [] := ⟨us, h, by simp⟩
theorem wpList_stC {ops : Array Oper} {rest : List Oper} {o : Oper} {a : Act} {w : World} {Q : Exit → Act → World → Prop} {T k : Nat} (hs : (Try.prog.info? T).map (·.size) = some k) (hgd : o.guard = none) (p x : Operand)
    (ho : o.op = .store T p x) {base e g n c i : Nat} {dn : List Value} (hd : DoneC w base e k g n c i dn) (hi : i < n)
    {ad : Addr} (hp : a.eval p = .pointer (some ad)) (had : ad = ⟨g, i * k, none⟩) (cs : List Value) (hcs : (a.eval x).cells.toList = cs) (hl : cs.length = k) (h1 : cs.all (·.oneCell') = true)
    (h : ∀ w', DoneC w' base e k g n c (i + 1) (dn ++ cs) → w.grownBy w' (some g) → wpList Try.prog ops Q rest (a.put o.dst undef) w') :
    wpList Try.prog ops Q (o :: rest) a w := by
  obtain ⟨us, hown, hus⟩ := hd
  refine wpList_st hs hgd p x ho hown hi hp had (fun w' h2 h3 => h w' ⟨_, h2, ?_⟩ h3) ?_ ?_
  · have hik : i * k + k ≤ n * k := by rw [← Nat.succ_mul]; exact Nat.mul_le_mul_right k hi
    have hlu := hown.1
    have hd : (us.take (i * k)).length = i * k := by rw [List.length_take]; omega
    rw [hcs, Nat.add_mul, Nat.one_mul, List.take_append, List.take_of_length_le (by rw [List.length_append, hd, hl]; exact Nat.le_refl _), List.length_append, hd, hl, Nat.sub_self, List.take_zero, List.append_nil, hus]
  · rw [← hl, ← hcs]; simp
  · rw [hcs]; exact List.all_eq_true.1 h1
/-- A block that holds just these cells. -/
def Box (w : World) (g T : Nat) (cs : List Value) : Prop := w.heap[g]? = some (.cells cs.toArray T (0, 0))
theorem Box.cell {w : World} {g T : Nat} {cs : List Value} (h : Box w g T cs) (j : Nat) : w.cell? ⟨g, j, none⟩ = cs[j]? := by
  rw [cell_of_row w g j _ T (0, 0) h]; simp
theorem Box.frozen {w : World} {g T : Nat} {cs : List Value} (h : Box w g T cs) (j : Nat) : w.frozen? ⟨g, j, none⟩ = false := by
  unfold Box at h; simp [World.frozen?, h]
theorem Box.set_ {w : World} {g T : Nat} {cs : List Value} (h : Box w g T cs) (j : Nat) (u : Value) : Box (w.setCell ⟨g, j, none⟩ u) g T (cs.set j u) := by
  unfold Box at h ⊢; simp [World.setCell, Array.getElem?_modify, h]
theorem Box.lt {w : World} {g T : Nat} {cs : List Value} (h : Box w g T cs) : g < w.heap.size := by
  rcases Nat.lt_or_ge g w.heap.size with hlt | hge
  · exact hlt
  · unfold Box at h; rw [Array.getElem?_eq_none hge] at h; cases h
theorem Box.ext {w w' : World} {g T : Nat} {cs : List Value} (h : Box w g T cs) (hb : Below w.heap.size w w') : Box w' g T cs := (hb.block g h.lt).trans h
theorem Box.new (w : World) (T : Nat) (cs : List Value) : Box (w.alloc (.cells cs.toArray T)) w.heap.size T cs := heap_alloc_new w _
theorem size_al (w : World) (o : Obj) : (w.alloc o).heap.size = w.heap.size + 1 := by simp
theorem Box.new1 (w : World) (o : Obj) (T : Nat) (cs : List Value) : Box ((w.alloc o).alloc (.cells cs.toArray T)) (w.heap.size + 1) T cs := by
  rw [← size_al w o]; exact Box.new _ _ _
theorem Box.drewN {w : World} {g T : Nat} {cs : List Value} (h : Box w g T cs) (n : Nat) : Box (w.drewN n) g T cs := h
theorem Box.drew {w : World} {g T : Nat} {cs : List Value} (h : Box w g T cs) : Box w.drew g T cs := h
theorem Box.far {w : World} {g T : Nat} {cs : List Value} (h : Box w g T cs) {p : Addr} (hp : g ≠ p.block) (u : Value) : Box (w.setCell p u) g T cs := (Below.heap_setCell w p u g hp).trans h
theorem Box.alloc {w : World} {g T : Nat} {cs : List Value} (h : Box w g T cs) (o : Obj) : Box (w.alloc o) g T cs := (Below.heap_alloc w o g h.lt).trans h
theorem Box.cast {w : World} {g T : Nat} {cs ds : List Value} (h : Box w g T cs) (e : cs = ds) : Box w g T ds := e ▸ h
end Go.Proofs.Ytfcnimglcialbaa
/- Slices of ints: their size, copy, comparison, marks. -/
namespace Go.Proofs.Ytfcnimglcialbaa
open Go.RowKit
set_option maxHeartbeats 400000
set_option linter.unusedVariables false
set_option linter.unusedSimpArgs false
def ints (xs : List Int) : List Value := xs.map (.int .i64)
theorem ints_len (xs : List Int) : (ints xs).length = xs.length := by simp [ints]
theorem ints_app (a b : List Int) : ints (a ++ b) = ints a ++ ints b := by simp [ints]
theorem ints_at {w : World} {A : Option Addr} {xs : List Int} (h : Rd w A (ints xs)) {i : Nat} (hi : i < xs.length) : ∃ ad, A = some ad ∧ w.cell? (ad.add i) = some (.int .i64 xs[i]) := by
  obtain ⟨ad, e, hc⟩ := h i (.int .i64 xs[i]) (by simp [ints, List.getElem?_eq_getElem hi])
  exact ⟨ad, e, hc⟩
theorem ints_snoc (l : List Int) (k : Nat) (h : k < l.length) : ints (l.take (k + 1)) = ints (l.take k) ++ [.int .i64 l[k]] := by
  rw [List.take_succ_eq_append_getElem h]; unfold ints; rw [List.map_append]; rfl
def szQ (left : Int) (n : Nat) : Int := if (n : Int) ≤ left then left - n else -1
theorem z_int : (Try.prog.info? 3).map (·.size) = some 1 := by kernel_rfl
theorem i_int : (Try.prog.info? 3).map (fun i => (i.zero, i.size, i.bytes)) = some (some (.int .i64 0), 1, 8) := by kernel_rfl
theorem T_int : SlT 49 3 1 8 := SlT.mk' (z := .int .i64 0) Try.underlying49 i_int rfl (by omega)
/-- n numbers from k on. -/
def upFrom (k : Int) (n : Nat) : List Int := (List.range n).map (fun j : Nat => k + (j : Int))
theorem upFrom_len (k : Int) (n : Nat) : (upFrom k n).length = n := by simp [upFrom]
theorem upFrom_succ (k : Int) (n : Nat) : upFrom k (n + 1) = upFrom k n ++ [k + (n : Int)] := by simp [upFrom, List.range_succ]
theorem upFrom_get (k : Int) (n i : Nat) (h : i < (upFrom k n).length) : (upFrom k n)[i] = k + (i : Int) := by simp [upFrom]
end Go.Proofs.Ytfcnimglcialbaa
/- Turns: what is right; both TurnsOk. -/
namespace Go.Proofs.Ytfcnimglcialbaa
open Go.RowKit
set_option maxHeartbeats 400000
set_option linter.unusedVariables false
set_option linter.unusedSimpArgs false
def inR (n a b : Int) : Bool := decide (a ≤ n) && decide (n ≤ b)
theorem inR_iff (n a b : Int) : inR n a b = true ↔ a ≤ n ∧ n ≤ b := by simp [inR]
theorem same_r {P : Program} {f : FuncId} {args : Array Value} {w : World} {v : Value} (h : Calls P f args w fun e w' => e = .returned v ∧ w = w') : Calls P f args w fun e w' => e = .returned v ∧ w' = w :=
  h.mono fun _ _ ⟨a, b⟩ => ⟨a, b.symm⟩
theorem xs_l1In_any (n a b : Int) (w : World) :
    Calls Try.prog 104 #[.int .i64 n, .int .i64 a, .int .i64 b] w fun e w' => e = .returned (.bool (inR n a b)) ∧ w = w' := by
  go_enter Try.func104, Try.ntmps104
  by_cases h : a ≤ n <;> by_cases h2 : n ≤ b <;> go_wp2 <;> go_ret <;> exact ⟨by simp [inR, h, h2], rfl⟩
theorem xi_inRange_any (n a b : Int) (w : World) :
    Calls Try.prog 122 #[.int .i64 n, .int .i64 a, .int .i64 b] w fun e w' => e = .returned (.bool (inR n a b)) ∧ w = w' := by
  go_enter Try.func122, Try.ntmps122
  by_cases h : a ≤ n <;> by_cases h2 : n ≤ b <;> go_wp2 <;> go_ret <;> exact ⟨by simp [inR, h, h2], rfl⟩
structure Tn where
  W : List Int
  L : List Int
  T : List Int
  pos : Int
def TnV (w : World) (cs : List Value) (t : Tn) : Prop := ∃ (A1 A2 A3 : Option Addr) (c1 c2 c3 : Nat), cs = [.slice A1 t.W.length c1, .slice A2 t.L.length c2, .slice A3 t.T.length c3, .int .i64 t.pos] ∧ Rd w A1 (ints t.W) ∧ Rd w A2 (ints t.L) ∧ Rd w A3 (ints t.T)
theorem TnV.ext {w w' : World} {cs : List Value} {t : Tn} (h : TnV w cs t) (hb : Below w.heap.size w w') : TnV w' cs t := by
  obtain ⟨A1, A2, A3, c1, c2, c3, e, h1, h2, h3⟩ := h
  exact ⟨A1, A2, A3, c1, c2, c3, e, h1.ext hb, h2.ext hb, h3.ext hb⟩
def Tn.small (t : Tn) : Prop := t.W.length ≤ 1048576 ∧ t.L.length ≤ 1048576 ∧ t.T.length ≤ 1048576
def okAt (t : Tn) (i : Nat) : Bool := inR (t.W.getD i 0) 1 9 && inR (t.L.getD i 0) 0 (t.W.getD i 0) && inR (t.T.getD i 0) 0 99
def turnsOk (t : Tn) : Bool := inR t.W.length 1 5 && (t.L.length == t.W.length) && (t.T.length == t.W.length) && inR t.pos 0 (t.W.length - 1) && (List.range t.W.length).all (okAt t)
theorem turnsOk_false {t : Tn} {i : Nat} (hi : i < t.W.length) (h : okAt t i = false) : turnsOk t = false := by
  have : (List.range t.W.length).all (okAt t) = false := by
    rw [List.all_eq_false]; exact ⟨i, List.mem_range.2 hi, by rw [h]; simp⟩
  unfold turnsOk; rw [this]; simp
theorem turnsOk_true {t : Tn} (h1 : inR t.W.length 1 5 = true) (h2 : t.L.length = t.W.length) (h3 : t.T.length = t.W.length) (h4 : inR t.pos 0 (t.W.length - 1) = true) (h : ∀ i, i < t.W.length → okAt t i = true) : turnsOk t = true := by
  have : (List.range t.W.length).all (okAt t) = true := by
    rw [List.all_eq_true]; exact fun i hi => h i (List.mem_range.1 hi)
  unfold turnsOk; rw [this]; simp [h1, h2, h3, h4]
theorem turnsOk_head {t : Tn} (h : inR t.W.length 1 5 = false ∨ ¬ t.L.length = t.W.length ∨ ¬ t.T.length = t.W.length ∨ inR t.pos 0 (t.W.length - 1) = false) : turnsOk t = false := by
  unfold turnsOk
  rcases h with h | h | h | h
  · simp [h]
  · simp [h]
  · simp [h]
  · simp [h]
theorem ints_at3 {w : World} {A : Option Addr} {xs : List Int} (h : Rd w A (ints xs)) {i : Nat} (hi : i < xs.length) : ∃ ad, A = some ad ∧ w.cell? (ad.add i) = some (.int .i64 (xs.getD i 0)) ∧ (ad.add i).block < w.heap.size := by
  obtain ⟨ad, e, hc⟩ := ints_at h hi
  refine ⟨ad, e, ?_, World.block_lt_of_cell? w _ hc⟩
  rw [hc]; simp [List.getD, List.getElem?_eq_getElem hi]
theorem getD_eq {l : List Int} {i : Nat} (h : i < l.length) : l.getD i 0 = l[i] := by simp [List.getD, List.getElem?_eq_getElem h]
theorem iTurnsOk_any (cs : List Value) (t : Tn) (w : World) (h : TnV w cs t) (hs : t.small) :
    Calls Try.prog 120 #[.agg cs.toArray] w fun e w' => e = .returned (.bool (turnsOk t)) ∧ Below w.heap.size w w' := by
  obtain ⟨A1, A2, A3, c1, c2, c3, rfl, h1, h2, h3⟩ := h
  obtain ⟨s1, s2, s3⟩ := hs
  go_enter Try.func120, Try.ntmps120
  cases ha : inR t.W.length 1 5
  · go_wp2_with (go_at_call 122; refine (xi_inRange_any _ _ _ _).mono ?_; rintro e w' ⟨rfl, rfl⟩)
    go_ret
    exact ⟨ret_bool (turnsOk_head (.inl ha)).symm, (by repeat' first | (with_reducible assumption) | (with_reducible exact Below.refl _ _) | (with_reducible refine Below.drew ?_) | (with_reducible refine below_drewN ?_ _) | (with_reducible refine Below.alloc ?_ ?_ _) | (with_reducible refine Below.setCell ?_ ?_ _) | (simp; done) | (simp; omega) | omega)⟩
  · cases hd : inR t.pos 0 (t.W.length - 1)
    · go_wp2_with (go_at_call 122; refine (xi_inRange_any _ _ _ _).mono ?_; rintro e w' ⟨rfl, rfl⟩)
      all_goals (go_ret; exact ⟨ret_bool (turnsOk_head (by first | exact .inr (.inr (.inr hd)))).symm, (by repeat' first | (with_reducible assumption) | (with_reducible exact Below.refl _ _) | (with_reducible refine Below.drew ?_) | (with_reducible refine below_drewN ?_ _) | (with_reducible refine Below.alloc ?_ ?_ _) | (with_reducible refine Below.setCell ?_ ?_ _) | (simp; done) | (simp; omega) | omega)⟩)
    · by_cases hl : t.L.length = t.W.length ∧ t.T.length = t.W.length
      · obtain ⟨l1, l2⟩ := hl
        go_wp2_with (go_at_call 122; refine (xi_inRange_any _ _ _ _).mono ?_; rintro e w' ⟨rfl, rfl⟩)
        have L1 := Lib.hid l1; have L2 := Lib.hid l2; clear l1 l2
        go_loop [37] (fun i => ∃ k : Nat, k ≤ t.W.length ∧ i = .int .i64 k ∧ ∀ j, j < k → okAt t j = true) (fun i => t.W.length - (intOf i).toNat)
        case atStart => exact ⟨0, Nat.zero_le _, rfl, fun j hj => by omega⟩
        case round =>
          obtain ⟨k, hk, rfl, hok⟩ := hrel
          have OK := Lib.hid hok; clear hok
          by_cases hlt : k < t.W.length
          · obtain ⟨ad1, rfl, d1, e1⟩ := ints_at3 h1 hlt
            obtain ⟨ad2, rfl, d2, e2⟩ := ints_at3 h2 (i := k) (by rw [L1.out]; exact hlt)
            obtain ⟨ad3, rfl, d3, e3⟩ := ints_at3 h3 (i := k) (by rw [L2.out]; exact hlt)
            have hok : okAt t k = (inR (t.W.getD k 0) 1 9 && inR (t.L.getD k 0) 0 (t.W.getD k 0) && inR (t.T.getD k 0) 0 99) := rfl
            generalize t.W.getD k 0 = x at d1 hok
            generalize t.L.getD k 0 = y at d2 hok
            generalize t.T.getD k 0 = z at d3 hok
            cases q1 : inR x 1 9 <;> cases q2 : inR y 0 x <;> cases q3 : inR z 0 99
            all_goals
              rw [q1, q2, q3] at hok
              simp only [Bool.false_and, Bool.and_false, Bool.true_and, Bool.and_true] at hok
              have HK := Lib.hid hok; clear hok
              go_wp2_with (go_at_call 122; refine (xi_inRange_any _ _ _ _).mono ?_; rintro e w' ⟨rfl, rfl⟩)
              first
                | (go_ret; exact ⟨ret_bool (turnsOk_false hlt HK.out).symm, (by repeat' first | (with_reducible assumption) | (with_reducible exact Below.refl _ _) | (with_reducible refine Below.drew ?_) | (with_reducible refine below_drewN ?_ _) | (with_reducible refine Below.alloc ?_ ?_ _) | (with_reducible refine Below.setCell ?_ ?_ _) | (simp; done) | (simp; omega) | omega)⟩)
                | exact ⟨⟨k + 1, by omega, by go_num, fun j hj => by rcases Nat.lt_succ_iff_lt_or_eq.1 hj with h | h; exact OK.out j h; exact h ▸ HK.out⟩, by simp [intOf]; omega⟩
          · obtain hkk : k = t.W.length := by omega
            have hT := Lib.hid (turnsOk_true ha L1.out L2.out hd (fun i hi => OK.out i (by omega)))
            go_wp2
            go_ret
            exact ⟨ret_bool hT.out.symm, (by repeat' first | (with_reducible assumption) | (with_reducible exact Below.refl _ _) | (with_reducible refine Below.drew ?_) | (with_reducible refine below_drewN ?_ _) | (with_reducible refine Below.alloc ?_ ?_ _) | (with_reducible refine Below.setCell ?_ ?_ _) | (simp; done) | (simp; omega) | omega)⟩
      · have hF := Lib.hid (turnsOk_head (t := t) (by by_cases q : t.L.length = t.W.length; exact .inr (.inr (.inl (fun h => hl ⟨q, h⟩))); exact .inr (.inl q)))
        go_wp2_with (go_at_call 122; refine (xi_inRange_any _ _ _ _).mono ?_; rintro e w' ⟨rfl, rfl⟩)
        all_goals (go_ret; exact ⟨ret_bool hF.out.symm, (by repeat' first | (with_reducible assumption) | (with_reducible exact Below.refl _ _) | (with_reducible refine Below.drew ?_) | (with_reducible refine below_drewN ?_ _) | (with_reducible refine Below.alloc ?_ ?_ _) | (with_reducible refine Below.setCell ?_ ?_ _) | (simp; done) | (simp; omega) | omega)⟩)
end Go.Proofs.Ytfcnimglcialbaa
/- Varints: both programs write one plain list of bytes. -/
namespace Go.Proofs.Ytfcnimglcialbaa
open Go.RowKit
set_option maxHeartbeats 1000000
set_option linter.unusedVariables false
set_option linter.unusedSimpArgs false
def varF : Nat → Nat → List UInt8
  | 0, n => [UInt8.ofNat n]
  | f + 1, n => if n < 128 then [UInt8.ofNat n] else UInt8.ofNat (128 + n % 128) :: varF f (n / 128)
def varL (n : Nat) : List UInt8 := varF 9 n
theorem ofNat_val' (n : Nat) (h : n < 256) : ((UInt8.ofNat n).toNat : Int) = n := by
  have : (UInt8.ofNat n).toNat = n := by rw [UInt8.toNat_ofNat']; exact Nat.mod_eq_of_lt h
  omega
theorem varF_len (f n : Nat) : (varF f n).length ≤ f + 1 := by
  induction f generalizing n with
  | zero => simp [varF]
  | succ f ih => rw [varF]; split <;> simp; exact ih _
theorem varF_step {l : List UInt8} {n m f : Nat} (h : l ++ varF f m = varL n) (hm : 128 ≤ m) (hf : m < 128 ^ (f + 1)) : ∃ f', f = f' + 1 ∧ (l ++ [UInt8.ofNat (128 + m % 128)]) ++ varF f' (m / 128) = varL n ∧ m / 128 < 128 ^ (f' + 1) := by
  rcases f with _ | f'
  · omega
  · refine ⟨f', rfl, ?_, ?_⟩
    · rw [varF, if_neg (by omega)] at h
      rw [← h]; simp
    · rw [Nat.pow_succ] at hf
      exact Nat.div_lt_of_lt_mul (by omega)
theorem varF_end {l : List UInt8} {n m f : Nat} (h : l ++ varF f m = varL n) (hm : m < 128) : l ++ [UInt8.ofNat m] = varL n := by
  rcases f with _ | f'
  · exact h
  · rw [varF, if_pos hm] at h; exact h
theorem i64_or128 (r : Int) (h0 : 0 ≤ r) (h1 : r < 128) : bits .or .i64 128 r = 128 + r := by
  obtain ⟨R, rfl⟩ := Int.eq_ofNat_of_zero_le h0
  have hR : R < 128 := by omega
  have key : 128 ||| R = 128 + R := by
    have := Nat.two_pow_add_eq_or_of_lt (i := 7) (b := R) (by omega) 1
    simpa using this.symm
  show IntKind.i64.wrap ((BitVec.ofInt 64 (128 : Nat) ||| BitVec.ofInt 64 (R : Int)).toNat : Int) = _
  rw [BitVec.toNat_or, ofInt_u64 128 (by omega), ofInt_u64 R (by omega), IntKind.wrap_i64, key]
  omega
theorem sVar_any (n : Nat) (hn : n ≤ 562949953421311) (w : World) :
    Calls Try.prog 131 #[.int .i64 n] w fun e w' => e = .returned (.string ⟨(varL n).toArray⟩) ∧ Below w.heap.size w w' := by
  go_enter Try.func131, Try.ntmps131
  have hin : inR (n : Int) 0 562949953421311 = true := by unfold inR; simp; omega
  go_wp2_with (go_at_call 104; refine (xs_l1In_any _ _ _ _).mono ?_; rintro e w' ⟨rfl, rfl⟩; rw [hin])
  go_loopw [0, 3] (fun nv sv wr => ∃ (A : Option Addr) (c m f : Nat) (l : List UInt8), nv = .int .i64 m ∧ sv = .slice A l.length c ∧ Own wr w.heap.size 5 1 A l.length c (byteVs l) ∧ l ++ varF f m = varL n ∧ m < 128 ^ (f + 1) ∧ l.length + f = 9 ∧ m ≤ 562949953421311 ∧ Below w.heap.size w wr) (fun nv _ _ => (intOf nv).toNat)
  case atStart => exact ⟨_, 0, n, 9, [], rfl, rfl, World.ownsRow_lit w #[] 0 (Nat.le_refl _) (by simp [maxLen]) rfl, rfl, by omega, rfl, hn, (by repeat' first | (with_reducible assumption) | (with_reducible exact Below.refl _ _) | (with_reducible refine Below.drew ?_) | (with_reducible refine below_drewN ?_ _) | (with_reducible refine Below.alloc ?_ ?_ _) | (with_reducible refine Below.setCell ?_ ?_ _) | (simp; done) | (simp; omega) | omega)⟩
  case round =>
    obtain ⟨A, c, m, f, l, rfl, rfl, hown, hl, hm, hlf, hmn, hbel⟩ := hrel
    have L := Lib.hid hl; clear hl
    have hml : (m : Int) ≤ 562949953421311 := by omega
    have hm0 : (0 : Int) ≤ (m : Int) := by omega
    have hws := hbel.size

    by_cases h128 : (128 : Int) ≤ m
    · obtain ⟨f', rfl, L', hm'⟩ := varF_step L.out (by omega) hm
      have L2 := Lib.hid L'; clear L' L
      have hv := Lib.hid (ofNat_val' (128 + m % 128) (by omega))
      go_wp2_with (at_builtin; refine wpList_app T_bytes rfl (.tmp 10) (.tmp 15) rfl rfl (Own.alloc hown _) rfl (m := 1) (news := byteVs [UInt8.ofNat (128 + m % 128)]) rfl ?_ ?h1 (byteVs_one _) ?h2 ?h3 ?h4; intro A' c' w1 hown1 hg1 hat1)
      case h1 => rw [show byteVs [UInt8.ofNat (128 + m % 128)] = [Value.int .u8 (128 + (m : Int) % 128)] by simp only [byteVs, List.map_cons, List.map_nil]; rw [hv.out]; rfl]; exact Rd.new _ _ _
      case h2 => omega
      case h3 => omega
      case h4 => first | omega | (simp; omega)
      rw [byteVs_app] at hown1
      go_roundw
      case rel => exact ⟨A', c', m / 128, f', l ++ [UInt8.ofNat (128 + m % 128)], by simp, by simp, by simpa using hown1, L2.out, hm', by simp; omega, by omega, Below.grown' (hbel.alloc hbel.size _) hg1 (by simp; omega) (fun q hq => (Own.lt hown q hq).1)⟩
      case measure => simp [intOf]; omega
    · have hv := Lib.hid (ofNat_val' m (by omega))
      have e := Lib.hid (varF_end L.out (by omega))
      go_wp2_with (at_builtin; refine wpList_app T_bytes rfl (.tmp 19) (.tmp 22) rfl rfl (Own.alloc hown _) rfl (m := 1) (news := byteVs [UInt8.ofNat m]) rfl ?_ ?h1 (byteVs_one _) ?h2 ?h3 ?h4; intro A' c' w1 hown1 hg1 hat1; rw [byteVs_app] at hown1; have hc := run_str (Rd.of_own hown1) (l.length + 1) (by simp) c')
      case h1 => rw [show byteVs [UInt8.ofNat m] = [Value.int .u8 (m : Int)] by simp only [byteVs, List.map_cons, List.map_nil]; rw [hv.out]]; exact Rd.new _ _ _
      case h2 => omega
      case h3 => omega
      case h4 => first | omega | (simp; omega)
      go_ret
      refine ⟨?_, Below.grown' (hbel.alloc hbel.size _) hg1 (by simp; omega) (fun q hq => (Own.lt hown q hq).1)⟩
      rw [← e.out]; rfl
theorem iVar_any (n : Nat) (hn : n ≤ 562949953421311) (w : World) :
    Calls Try.prog 136 #[.int .i64 n] w fun e w' => e = .returned (.string ⟨(varL n).toArray⟩) ∧ Below w.heap.size w w' := by
  go_enter Try.func136, Try.ntmps136
  have hin : inR (n : Int) 0 562949953421311 = true := by unfold inR; simp; omega
  go_wp2_with (go_at_call 122; refine (xi_inRange_any _ _ _ _).mono ?_; rintro e w' ⟨rfl, rfl⟩; rw [hin])
  go_loopw [0, 3] (fun nv sv wr => ∃ (A : Option Addr) (c m f : Nat) (l : List UInt8), nv = .int .i64 m ∧ sv = .slice A l.length c ∧ Own wr w.heap.size 5 1 A l.length c (byteVs l) ∧ l ++ varF f m = varL n ∧ m < 128 ^ (f + 1) ∧ l.length + f = 9 ∧ m ≤ 562949953421311 ∧ Below w.heap.size w wr) (fun nv _ _ => (intOf nv).toNat)
  case atStart => exact ⟨_, 0, n, 9, [], rfl, rfl, Own.nil _ _ _ _, rfl, by omega, rfl, hn, (by repeat' first | (with_reducible assumption) | (with_reducible exact Below.refl _ _) | (with_reducible refine Below.drew ?_) | (with_reducible refine below_drewN ?_ _) | (with_reducible refine Below.alloc ?_ ?_ _) | (with_reducible refine Below.setCell ?_ ?_ _) | (simp; done) | (simp; omega) | omega)⟩
  case round =>
    obtain ⟨A, c, m, f, l, rfl, rfl, hown, hl, hm, hlf, hmn, hbel⟩ := hrel
    have L := Lib.hid hl; clear hl
    have hml : (m : Int) ≤ 562949953421311 := by omega
    have hm0 : (0 : Int) ≤ (m : Int) := by omega
    have hws := hbel.size
    have B1 := i64_and127 (m : Int)
    have B2 := i64_or128 ((m : Int) % 128) (by omega) (by omega)
    by_cases h128 : (128 : Int) ≤ m
    · obtain ⟨f', rfl, L', hm'⟩ := varF_step L.out (by omega) hm
      have L2 := Lib.hid L'; clear L' L
      have hv := Lib.hid (ofNat_val' (128 + m % 128) (by omega))
      go_wp2_with (at_builtin; refine wpList_app T_bytes rfl (.tmp 9) (.tmp 14) rfl rfl (Own.alloc hown _) rfl (m := 1) (news := byteVs [UInt8.ofNat (128 + m % 128)]) rfl ?_ ?h1 (byteVs_one _) ?h2 ?h3 ?h4; intro A' c' w1 hown1 hg1 hat1)
      case h1 => rw [show byteVs [UInt8.ofNat (128 + m % 128)] = [Value.int .u8 (128 + (m : Int) % 128)] by simp only [byteVs, List.map_cons, List.map_nil]; rw [hv.out]; rfl]; exact Rd.new _ _ _
      case h2 => omega
      case h3 => omega
      case h4 => first | omega | (simp; omega)
      rw [byteVs_app] at hown1
      go_roundw
      case rel => exact ⟨A', c', m / 128, f', l ++ [UInt8.ofNat (128 + m % 128)], by simp, by simp, by simpa using hown1, L2.out, hm', by simp; omega, by omega, Below.grown' (hbel.alloc hbel.size _) hg1 (by simp; omega) (fun q hq => (Own.lt hown q hq).1)⟩
      case measure => simp [intOf]; omega
    · have hv := Lib.hid (ofNat_val' m (by omega))
      have e := Lib.hid (varF_end L.out (by omega))
      go_wp2_with (at_builtin; refine wpList_app T_bytes rfl (.tmp 18) (.tmp 21) rfl rfl (Own.alloc hown _) rfl (m := 1) (news := byteVs [UInt8.ofNat m]) rfl ?_ ?h1 (byteVs_one _) ?h2 ?h3 ?h4; intro A' c' w1 hown1 hg1 hat1; rw [byteVs_app] at hown1; have hc := run_str (Rd.of_own hown1) (l.length + 1) (by simp) c')
      case h1 => rw [show byteVs [UInt8.ofNat m] = [Value.int .u8 (m : Int)] by simp only [byteVs, List.map_cons, List.map_nil]; rw [hv.out]]; exact Rd.new _ _ _
      case h2 => omega
      case h3 => omega
      case h4 => first | omega | (simp; omega)
      go_ret
      refine ⟨?_, Below.grown' (hbel.alloc hbel.size _) hg1 (by simp; omega) (fun q hq => (Own.lt hown q hq).1)⟩
      rw [← e.out]; rfl
end Go.Proofs.Ytfcnimglcialbaa
/- Reading a varint, in plain Lean: the first terminator, and the shortest beginning that is its own writing, are one. -/
namespace Go.Proofs.Ytfcnimglcialbaa
set_option linter.unusedVariables false
/-- What the bytes say, the last one the greatest. -/
def sumL : List UInt8 → Nat
  | [] => 0
  | b :: l => sumL l * 128 + b.toNat % 128
/-- Reading by the first byte below 128; t: a byte stood ahead. -/
def rvT : Bool → Nat → List UInt8 → Option (Nat × Nat)
  | _, 0, _ => none
  | _, _ + 1, [] => none
  | t, f + 1, b :: l => if 128 ≤ b.toNat then (rvT true f l).map (fun p => (p.1 * 128 + b.toNat % 128, p.2 + 1)) else if t = true ∧ b.toNat = 0 then none else some (b.toNat, 1)
/-- The same by beginnings. -/
def rvS (l : List UInt8) : Nat → Nat → Option (Nat × Nat)
  | 0, _ => none
  | f + 1, k => if k ≤ l.length then if varL (sumL (l.take k)) = l.take k then some (sumL (l.take k), k) else rvS l f (k + 1) else none
def canT0 : Bool → List UInt8 → Prop
  | _, [] => False
  | t, b :: l => if 128 ≤ b.toNat then canT0 true l else l = [] ∧ ¬ (t = true ∧ b.toNat = 0)
theorem rvT_can : ∀ (f : Nat) (t : Bool) (l : List UInt8) (n k : Nat), rvT t f l = some (n, k) → 1 ≤ k ∧ k ≤ f ∧ k ≤ l.length ∧ canT0 t (l.take k) ∧ n = sumL (l.take k)
  | 0, t, l, n, k, h => by simp [rvT] at h
  | f + 1, t, [], n, k, h => by simp [rvT] at h
  | f + 1, t, b :: l, n, k, h => by
    unfold rvT at h
    split at h
    · rename_i hb
      cases hr : rvT true f l with
      | none => rw [hr] at h; cases h
      | some p =>
        rw [hr] at h
        obtain ⟨n', k'⟩ := p
        simp only [Option.map_some, Option.some.injEq, Prod.mk.injEq] at h
        obtain ⟨rfl, rfl⟩ := h
        obtain ⟨h1, h2, h3, h4, h5⟩ := rvT_can f true l n' k' hr
        refine ⟨by omega, by omega, by simp; omega, ?_, ?_⟩
        · rw [List.take_succ_cons]; unfold canT0; rw [if_pos hb]; exact h4
        · rw [List.take_succ_cons]; simp only [sumL]; rw [← h5]
    · rename_i hb
      split at h
      · cases h
      · rename_i h0
        cases h
        refine ⟨by omega, by omega, by simp, ?_, ?_⟩
        · simp only [List.take_succ_cons, List.take_zero]; unfold canT0; rw [if_neg hb]; exact ⟨rfl, h0⟩
        · simp only [List.take_succ_cons, List.take_zero, sumL]; omega
theorem can_rvT : ∀ (f : Nat) (t : Bool) (l : List UInt8) (k : Nat), k ≤ f → k ≤ l.length → canT0 t (l.take k) → rvT t f l = some (sumL (l.take k), k)
  | f, t, l, 0, h1, h2, h => by simp [canT0] at h
  | 0, t, l, k + 1, h1, h2, h => by omega
  | f + 1, t, [], k + 1, h1, h2, h => by simp at h2
  | f + 1, t, b :: l, k + 1, h1, h2, h => by
    rw [List.take_succ_cons] at h
    unfold canT0 at h
    unfold rvT
    split at h
    · rename_i hb
      rw [if_pos hb, can_rvT f true l k (by omega) (by simp at h2; omega) h]
      simp [sumL]
    · rename_i hb
      rw [if_neg hb, if_neg h.2]
      have : (l.take k).length = 0 := by rw [h.1]; rfl
      have hk : k = 0 := by simp at this h2; rcases this with h | h; exact h; subst h; simp at h2; omega
      subst hk
      simp [sumL]; omega
theorem can_pos : ∀ (l : List UInt8), canT0 true l → 0 < sumL l
  | [], h => by simp [canT0] at h
  | b :: l, h => by
    unfold canT0 at h
    simp only [sumL]
    split at h
    · have := can_pos l h; omega
    · rename_i hb
      have : b.toNat ≠ 0 := fun e => h.2 ⟨rfl, e⟩
      omega
theorem u8_of (b : UInt8) (n : Nat) (h : n = b.toNat) : UInt8.ofNat n = b := by subst h; exact UInt8.ofNat_toNat
theorem can_varF : ∀ (l : List UInt8) (t : Bool) (f : Nat), canT0 t l → l.length ≤ f + 1 → varF f (sumL l) = l
  | [], t, f, h, hl => by simp [canT0] at h
  | b :: l, t, f, h, hl => by
    unfold canT0 at h
    have hb2 := b.toNat_lt
    split at h
    · rename_i hb
      have hp := can_pos l h
      have hl0 : l ≠ [] := fun e => by subst e; simp [canT0] at h
      have hl1 : 0 < l.length := List.length_pos_iff.2 hl0
      simp at hl
      obtain ⟨f', rfl⟩ : ∃ f', f = f' + 1 := ⟨f - 1, by omega⟩
      simp only [sumL]
      rw [varF, if_neg (by omega)]
      have e1 : (sumL l * 128 + b.toNat % 128) / 128 = sumL l := by omega
      rw [e1, can_varF l true f' h (by omega)]
      congr 1
      exact u8_of b _ (by omega)
    · rename_i hb
      obtain ⟨rfl, h0⟩ := h
      simp only [sumL]
      have e : 0 * 128 + b.toNat % 128 = b.toNat := by omega
      rw [e]
      cases f with
      | zero => rw [varF]; rw [u8_of b _ rfl]
      | succ f => rw [varF, if_pos (by omega)]; rw [u8_of b _ rfl]
theorem varF_can : ∀ (f n : Nat) (t : Bool), n < 128 ^ (f + 1) → (t = true → 0 < n) → canT0 t (varF f n)
  | 0, n, t, h, ht => by
    have hn : n < 128 := by simpa using h
    have e : (UInt8.ofNat n).toNat = n := by rw [UInt8.toNat_ofNat']; exact Nat.mod_eq_of_lt (by omega)
    rw [varF]; unfold canT0; rw [e, if_neg (by omega)]
    exact ⟨rfl, fun h0 => by have := ht h0.1; omega⟩
  | f + 1, n, t, h, ht => by
    rw [varF]
    split
    · rename_i hn
      have e : (UInt8.ofNat n).toNat = n := by rw [UInt8.toNat_ofNat']; exact Nat.mod_eq_of_lt (by omega)
      unfold canT0; rw [e, if_neg (by omega)]
      exact ⟨rfl, fun h0 => by have := ht h0.1; omega⟩
    · rename_i hn
      have e : (UInt8.ofNat (128 + n % 128)).toNat = 128 + n % 128 := by rw [UInt8.toNat_ofNat']; exact Nat.mod_eq_of_lt (by omega)
      unfold canT0; rw [e, if_pos (by omega)]
      exact varF_can f (n / 128) true (by rw [Nat.pow_succ] at h; exact Nat.div_lt_of_lt_mul (by omega)) (fun _ => by omega)
theorem sumL_lt : ∀ (l : List UInt8), sumL l < 128 ^ l.length
  | [] => by simp [sumL]
  | b :: l => by
    have := sumL_lt l
    simp only [sumL, List.length_cons, Nat.pow_succ]
    omega
theorem pow_le (k : Nat) (h : k ≤ 7) : 128 ^ k ≤ 562949953421312 := by
  have := Nat.pow_le_pow_right (n := 128) (by omega) h
  have e : (128 : Nat) ^ 7 = 562949953421312 := by decide
  omega
theorem sumL_small (l : List UInt8) (h : l.length ≤ 7) : sumL l < 562949953421312 := by
  have := sumL_lt l
  have := pow_le l.length h
  omega
theorem good_iff (l : List UInt8) (k : Nat) (hk : k ≤ l.length) (h7 : k ≤ 7) : varL (sumL (l.take k)) = l.take k ↔ canT0 false (l.take k) := by
  have hl : (l.take k).length = k := by simp; omega
  constructor
  · intro h
    rw [← h]
    have := sumL_small (l.take k) (by omega)
    exact varF_can 9 _ false (by have : (128 : Nat) ^ (9 + 1) = 1180591620717411303424 := by decide
                                 omega) (fun h => by cases h)
  · intro h
    exact can_varF _ false 9 h (by omega)
theorem rvS_eq (l : List UInt8) : ∀ (f k : Nat), f + k = 8 → 1 ≤ k → (∀ j, 1 ≤ j → j < k → j ≤ l.length → ¬ canT0 false (l.take j)) → rvS l f k = rvT false 7 l
  | 0, k, h, h1, hn => by
    cases hr : rvT false 7 l with
    | none => rfl
    | some p =>
      obtain ⟨n, j⟩ := p
      obtain ⟨a, b, c, d, e⟩ := rvT_can 7 false l n j hr
      exact absurd d (hn j a (by omega) c)
  | f + 1, k, h, h1, hn => by
    unfold rvS
    split
    · rename_i hk
      split
      · rename_i hg
        have := (good_iff l k hk (by omega)).1 hg
        rw [can_rvT 7 false l k (by omega) hk this]
      · rename_i hg
        have hng : ¬ canT0 false (l.take k) := fun h => hg ((good_iff l k hk (by omega)).2 h)
        refine rvS_eq l f (k + 1) (by omega) (by omega) (fun j a b c => ?_)
        rcases Nat.lt_succ_iff_lt_or_eq.1 b with h2 | rfl
        · exact hn j a h2 c
        · exact hng
    · rename_i hk
      cases hr : rvT false 7 l with
      | none => rfl
      | some p =>
        obtain ⟨n, j⟩ := p
        obtain ⟨a, b, c, d, e⟩ := rvT_can 7 false l n j hr
        exact absurd d (hn j a (by omega) c)
/-- What both programs read. -/
def rv (l : List UInt8) : Option (Nat × Nat) := rvT false 7 l
theorem rvS_rv (l : List UInt8) : rvS l 7 1 = rv l := rvS_eq l 7 1 rfl (by omega) (fun j a b => by omega)
theorem rv_some {l : List UInt8} {n k : Nat} (h : rv l = some (n, k)) : 1 ≤ k ∧ k ≤ 7 ∧ k ≤ l.length ∧ n < 562949953421312 ∧ varL n = l.take k := by
  obtain ⟨a, b, c, d, e⟩ := rvT_can 7 false l n k h
  have hl : (l.take k).length = k := by simp; omega
  refine ⟨a, b, c, ?_, ?_⟩
  · rw [e]; exact sumL_small _ (by omega)
  · rw [e]; exact (good_iff l k c b).2 d
end Go.Proofs.Ytfcnimglcialbaa
/- Fixed: both programs write the same bytes, for the widths in use. -/
namespace Go.Proofs.Ytfcnimglcialbaa
open Go.RowKit
set_option maxHeartbeats 1000000
set_option linter.unusedVariables false
set_option linter.unusedSimpArgs false
def fixL : Nat → Nat → List UInt8
  | 0, n => []
  | k + 1, n => fixL k (n / 256) ++ [UInt8.ofNat (n % 256)]
theorem fixL_len (k n : Nat) : (fixL k n).length = k := by
  induction k generalizing n with
  | zero => rfl
  | succ k ih => simp [fixL, ih]
theorem fixL_step {j m : Nat} {o t : List UInt8} (h : fixL (j + 1) m ++ o = t) : fixL j (m / 256) ++ (UInt8.ofNat (m % 256) :: o) = t := by
  rw [fixL, List.append_assoc] at h
  simpa using h
theorem byteStr_app (n : Nat) (o : List UInt8) : byteStr (n : Int) ++ (⟨o.toArray⟩ : ByteArray) = ⟨(UInt8.ofNat n :: o).toArray⟩ := by
  apply ByteArray.ext
  simp [byteStr]
theorem z_u8 : (Try.prog.info? 5).map (·.size) = some 1 := by kernel_rfl
theorem sFixed4_any (n : Nat) (hn : n < 4294967296) (w : World) :
    Calls Try.prog 146 #[.int .i64 n, .int .i64 4] w fun e w' => e = .returned (.string ⟨(fixL 4 n).toArray⟩) ∧ Below w.heap.size w w' := by
  go_enter Try.func146, Try.ntmps146
  have hin : inR 4 1 7 = true := rfl
  have hn0 : (0 : Int) ≤ (n : Int) := by omega
  go_wp2_with (go_at_call 104; refine (xs_l1In_any _ _ _ _).mono ?_; rintro e w' ⟨rfl, rfl⟩; rw [hin])
  go_loopw [0, 5, 6] (fun nv ov iv wr => ∃ (i m j : Nat) (o : List UInt8), iv = .int .i64 i ∧ nv = .int .i64 m ∧ ov = .string ⟨o.toArray⟩ ∧ o.length = i ∧ i + j = 4 ∧ fixL j m ++ o = fixL 4 n ∧ m < 256 ^ j ∧ m < 4294967296 ∧ Below w.heap.size w wr) (fun _ _ iv _ => 4 - (intOf iv).toNat)
  case atStart => exact ⟨0, n, 4, [], rfl, rfl, rfl, rfl, rfl, by simp, by omega, hn, (by repeat' first | (with_reducible assumption) | (with_reducible exact Below.refl _ _) | (with_reducible refine Below.drew ?_) | (with_reducible refine below_drewN ?_ _) | (with_reducible refine Below.alloc ?_ ?_ _) | (with_reducible refine Below.setCell ?_ ?_ _) | (simp; done) | (simp; omega) | omega)⟩
  case round =>
    obtain ⟨i, m, j, o, rfl, rfl, rfl, hol, hij, hf, hm, hmb, hbel⟩ := hrel
    have L := Lib.hid hf; clear hf
    have hm0 : (0 : Int) ≤ (m : Int) := by omega
    have hi0 : (0 : Int) ≤ (i : Int) := by omega
    have hws := hbel.size
    rcases j with _ | j
    · obtain rfl : i = 4 := by omega
      obtain rfl : m = 0 := by omega
      have L2 := Lib.hid (show o = fixL 4 n from L.out)
      go_wp2
      go_ret
      refine ⟨?_, hbel⟩
      rw [← L2.out]; rfl
    · have hlt : (i : Int) < 4 := by omega
      have L2 := Lib.hid (fixL_step L.out)
      have hsz : ¬ 9223372036854775807 < 1 + o.length := by omega
      have hsz2 : ¬ 9223372036854775807 < 1 + (⟨o.toArray⟩ : ByteArray).size := by show ¬ _ < 1 + o.toArray.size; simpa using hsz
      have hm' : m / 256 < 256 ^ j := Nat.div_lt_of_lt_mul (by rw [Nat.pow_succ] at hm; omega)
      have hmi : (m : Int) < 4294967296 := by omega
      go_wp2
      exact ⟨⟨i + 1, m / 256, j, UInt8.ofNat (m % 256) :: o, by go_num, by simp, by rw [← byteStr_app]; rfl, by simp [hol], by omega, L2.out, hm', by omega, hbel.alloc hbel.size _⟩, by simp [intOf]; omega⟩
theorem iFixed4_any (n : Nat) (hn : n < 4294967296) (w : World) :
    Calls Try.prog 220 #[.int .i64 n, .int .i64 4] w fun e w' => e = .returned (.string ⟨(fixL 4 n).toArray⟩) ∧ Below w.heap.size w w' := by
  obtain ⟨cs, hcs, hmk⟩ := run_mk T_bytes 4 (by omega) (by omega)
  replace hmk : ∀ W : World, (Instr.makeSlice 25 (.int .i64 4) (.int .i64 4)).run Try.prog W = .ok (.slice (some ⟨W.heap.size, 0, none⟩) 4 4) (W.alloc (.cells cs 5)) := hmk
  go_enter Try.func220, Try.ntmps220
  have hin : inR 4 1 7 = true := rfl
  have hn0 : (0 : Int) ≤ (n : Int) := by omega
  have hz : (n : Int) / 4294967296 = 0 := by omega
  go_wp2_with (go_at_call 122; refine (xi_inRange_any _ _ _ _).mono ?_; rintro e w' ⟨rfl, rfl⟩; rw [hin])
  have hcz := Lib.hid hcs; clear hcs hmk
  go_loopw [0, 6] (fun nv iv wr => ∃ (m j : Nat) (o : List UInt8) (us : List Value), iv = .int .i64 ((j : Int) - 1) ∧ nv = .int .i64 m ∧ Own wr w.heap.size 5 1 (some ⟨w.heap.size, 0, none⟩) 4 4 us ∧ us.drop j = byteVs o ∧ fixL j m ++ o = fixL 4 n ∧ m < 4294967296 ∧ j ≤ 4 ∧ Below w.heap.size w wr) (fun _ iv _ => (intOf iv + 1).toNat)
  case atStart => exact ⟨n, 4, [], cs.toList, rfl, rfl, World.ownsRow_lit w cs 4 (Nat.le_refl _) (by simp [maxLen]) hcz.out, by rw [List.drop_of_length_le (by have := hcz.out; simp; omega)]; rfl, by simp, hn, Nat.le_refl _, (by repeat' first | (with_reducible assumption) | (with_reducible exact Below.refl _ _) | (with_reducible refine Below.drew ?_) | (with_reducible refine below_drewN ?_ _) | (with_reducible refine Below.alloc ?_ ?_ _) | (with_reducible refine Below.setCell ?_ ?_ _) | (simp; done) | (simp; omega) | omega)⟩
  case round =>
    obtain ⟨m, j, o, us, rfl, rfl, hown, hd, hf, hmb, hjK, hbel⟩ := hrel
    have L := Lib.hid hf; clear hf
    have D := Lib.hid hd; clear hd
    have hm0 : (0 : Int) ≤ (m : Int) := by omega
    have hws := hbel.size
    rcases j with _ | j
    · have L2 := Lib.hid (show o = fixL 4 n from L.out)
      have hus : us = byteVs o := by have := D.out; simpa using this
      subst hus
      have hol : o.length = 4 := by rw [L2.out, fixL_len]
      have hc := run_str (Rd.of_own hown) 4 hol.symm 4
      go_wp2
      go_ret
      refine ⟨?_, hbel⟩
      rw [← L2.out]; rfl
    · have hji : ((j + 1 : Nat) : Int) - 1 = (j : Int) := by omega
      rw [hji]
      have hj0 : (0 : Int) ≤ (j : Int) := by omega
      have hjk : (j : Int) < 4 := by omega
      have hmi : (m : Int) < 4294967296 := by omega
      have hv := Lib.hid (ofNat_val' (m % 256) (by omega))
      have L2 := Lib.hid (fixL_step L.out)
      have hlu : us.length = 4 * 1 := hown.1
      go_wp2_with (refine wpList_st z_u8 rfl (.tmp 34) (.tmp 33) rfl hown (i := j) (by omega) rfl (by rw [Nat.mul_one]) ?_ rfl ?_; intro w2 hown2 hg2)
      · change Own w2 w.heap.size 5 1 (some ⟨w.heap.size, 0, none⟩) 4 4 (us.take (j * 1) ++ [Value.int .u8 ((m : Int) % 256)] ++ us.drop (j * 1 + 1)) at hown2
        have ht : (us.take j).length = j := by rw [List.length_take]; omega
        refine ⟨⟨m / 256, j, UInt8.ofNat (m % 256) :: o, _, rfl, by simp, hown2, ?_, L2.out, by omega, by omega, below_own hbel hg2 (Nat.le_refl _) hws⟩, by simp [intOf]⟩
        rw [Nat.mul_one, List.append_assoc, List.drop_left' ht, D.out]
        simp only [byteVs, List.map_cons, List.singleton_append]
        rw [hv.out]
        rfl
      · change ∀ u ∈ [Value.int .u8 ((m : Int) % 256)], _
        intro u hu
        simp only [List.mem_singleton] at hu
        subst hu
        rfl
theorem sFixed7_any (n : Nat) (hn : n < 72057594037927936) (w : World) :
    Calls Try.prog 146 #[.int .i64 n, .int .i64 7] w fun e w' => e = .returned (.string ⟨(fixL 7 n).toArray⟩) ∧ Below w.heap.size w w' := by
  go_enter Try.func146, Try.ntmps146
  have hin : inR 7 1 7 = true := rfl
  have hn0 : (0 : Int) ≤ (n : Int) := by omega
  go_wp2_with (go_at_call 104; refine (xs_l1In_any _ _ _ _).mono ?_; rintro e w' ⟨rfl, rfl⟩; rw [hin])
  go_loopw [0, 5, 6] (fun nv ov iv wr => ∃ (i m j : Nat) (o : List UInt8), iv = .int .i64 i ∧ nv = .int .i64 m ∧ ov = .string ⟨o.toArray⟩ ∧ o.length = i ∧ i + j = 7 ∧ fixL j m ++ o = fixL 7 n ∧ m < 256 ^ j ∧ m < 72057594037927936 ∧ Below w.heap.size w wr) (fun _ _ iv _ => 7 - (intOf iv).toNat)
  case atStart => exact ⟨0, n, 7, [], rfl, rfl, rfl, rfl, rfl, by simp, by omega, hn, (by repeat' first | (with_reducible assumption) | (with_reducible exact Below.refl _ _) | (with_reducible refine Below.drew ?_) | (with_reducible refine below_drewN ?_ _) | (with_reducible refine Below.alloc ?_ ?_ _) | (with_reducible refine Below.setCell ?_ ?_ _) | (simp; done) | (simp; omega) | omega)⟩
  case round =>
    obtain ⟨i, m, j, o, rfl, rfl, rfl, hol, hij, hf, hm, hmb, hbel⟩ := hrel
    have L := Lib.hid hf; clear hf
    have hm0 : (0 : Int) ≤ (m : Int) := by omega
    have hi0 : (0 : Int) ≤ (i : Int) := by omega
    have hws := hbel.size
    rcases j with _ | j
    · obtain rfl : i = 7 := by omega
      obtain rfl : m = 0 := by omega
      have L2 := Lib.hid (show o = fixL 7 n from L.out)
      go_wp2
      go_ret
      refine ⟨?_, hbel⟩
      rw [← L2.out]; rfl
    · have hlt : (i : Int) < 7 := by omega
      have L2 := Lib.hid (fixL_step L.out)
      have hsz : ¬ 9223372036854775807 < 1 + o.length := by omega
      have hsz2 : ¬ 9223372036854775807 < 1 + (⟨o.toArray⟩ : ByteArray).size := by show ¬ _ < 1 + o.toArray.size; simpa using hsz
      have hm' : m / 256 < 256 ^ j := Nat.div_lt_of_lt_mul (by rw [Nat.pow_succ] at hm; omega)
      have hmi : (m : Int) < 72057594037927936 := by omega
      go_wp2
      exact ⟨⟨i + 1, m / 256, j, UInt8.ofNat (m % 256) :: o, by go_num, by simp, by rw [← byteStr_app]; rfl, by simp [hol], by omega, L2.out, hm', by omega, hbel.alloc hbel.size _⟩, by simp [intOf]; omega⟩
theorem iFixed7_any (n : Nat) (hn : n < 72057594037927936) (w : World) :
    Calls Try.prog 220 #[.int .i64 n, .int .i64 7] w fun e w' => e = .returned (.string ⟨(fixL 7 n).toArray⟩) ∧ Below w.heap.size w w' := by
  obtain ⟨cs, hcs, hmk⟩ := run_mk T_bytes 7 (by omega) (by omega)
  replace hmk : ∀ W : World, (Instr.makeSlice 25 (.int .i64 7) (.int .i64 7)).run Try.prog W = .ok (.slice (some ⟨W.heap.size, 0, none⟩) 7 7) (W.alloc (.cells cs 5)) := hmk
  go_enter Try.func220, Try.ntmps220
  have hin : inR 7 1 7 = true := rfl
  have hn0 : (0 : Int) ≤ (n : Int) := by omega
  have hz : (n : Int) / 72057594037927936 = 0 := by omega
  go_wp2_with (go_at_call 122; refine (xi_inRange_any _ _ _ _).mono ?_; rintro e w' ⟨rfl, rfl⟩; rw [hin])
  have hcz := Lib.hid hcs; clear hcs hmk
  go_loopw [0, 6] (fun nv iv wr => ∃ (m j : Nat) (o : List UInt8) (us : List Value), iv = .int .i64 ((j : Int) - 1) ∧ nv = .int .i64 m ∧ Own wr w.heap.size 5 1 (some ⟨w.heap.size, 0, none⟩) 7 7 us ∧ us.drop j = byteVs o ∧ fixL j m ++ o = fixL 7 n ∧ m < 72057594037927936 ∧ j ≤ 7 ∧ Below w.heap.size w wr) (fun _ iv _ => (intOf iv + 1).toNat)
  case atStart => exact ⟨n, 7, [], cs.toList, rfl, rfl, World.ownsRow_lit w cs 7 (Nat.le_refl _) (by simp [maxLen]) hcz.out, by rw [List.drop_of_length_le (by have := hcz.out; simp; omega)]; rfl, by simp, hn, Nat.le_refl _, (by repeat' first | (with_reducible assumption) | (with_reducible exact Below.refl _ _) | (with_reducible refine Below.drew ?_) | (with_reducible refine below_drewN ?_ _) | (with_reducible refine Below.alloc ?_ ?_ _) | (with_reducible refine Below.setCell ?_ ?_ _) | (simp; done) | (simp; omega) | omega)⟩
  case round =>
    obtain ⟨m, j, o, us, rfl, rfl, hown, hd, hf, hmb, hjK, hbel⟩ := hrel
    have L := Lib.hid hf; clear hf
    have D := Lib.hid hd; clear hd
    have hm0 : (0 : Int) ≤ (m : Int) := by omega
    have hws := hbel.size
    rcases j with _ | j
    · have L2 := Lib.hid (show o = fixL 7 n from L.out)
      have hus : us = byteVs o := by have := D.out; simpa using this
      subst hus
      have hol : o.length = 7 := by rw [L2.out, fixL_len]
      have hc := run_str (Rd.of_own hown) 7 hol.symm 7
      go_wp2
      go_ret
      refine ⟨?_, hbel⟩
      rw [← L2.out]; rfl
    · have hji : ((j + 1 : Nat) : Int) - 1 = (j : Int) := by omega
      rw [hji]
      have hj0 : (0 : Int) ≤ (j : Int) := by omega
      have hjk : (j : Int) < 7 := by omega
      have hmi : (m : Int) < 72057594037927936 := by omega
      have hv := Lib.hid (ofNat_val' (m % 256) (by omega))
      have L2 := Lib.hid (fixL_step L.out)
      have hlu : us.length = 7 * 1 := hown.1
      go_wp2_with (refine wpList_st z_u8 rfl (.tmp 34) (.tmp 33) rfl hown (i := j) (by omega) rfl (by rw [Nat.mul_one]) ?_ rfl ?_; intro w2 hown2 hg2)
      · change Own w2 w.heap.size 5 1 (some ⟨w.heap.size, 0, none⟩) 7 7 (us.take (j * 1) ++ [Value.int .u8 ((m : Int) % 256)] ++ us.drop (j * 1 + 1)) at hown2
        have ht : (us.take j).length = j := by rw [List.length_take]; omega
        refine ⟨⟨m / 256, j, UInt8.ofNat (m % 256) :: o, _, rfl, by simp, hown2, ?_, L2.out, by omega, by omega, below_own hbel hg2 (Nat.le_refl _) hws⟩, by simp [intOf]⟩
        rw [Nat.mul_one, List.append_assoc, List.drop_left' ht, D.out]
        simp only [byteVs, List.map_cons, List.singleton_append]
        rw [hv.out]
        rfl
      · change ∀ u ∈ [Value.int .u8 ((m : Int) % 256)], _
        intro u hu
        simp only [List.mem_singleton] at hu
        subst hu
        rfl
end Go.Proofs.Ytfcnimglcialbaa
