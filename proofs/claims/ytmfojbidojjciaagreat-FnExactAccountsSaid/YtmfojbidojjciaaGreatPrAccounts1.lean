/- Texts of this claim, one behind the other: Str, Base, Kit, Mem, GT, Eng, Eng2, Eng3, Eng4, Eng5, Eng6, Eng7, Sqz, Eng8, Eng9, Fgt0, Tab, Bi, Mt, Nst, Eng19, Enc, BfKV, BfStr, FlKV, FlStr, BtDelta, Dlt, OpD. -/
import Derived.WalkKit
import Derived.WalkLawsBesides
import Derived.Test.YtmfojbidojjciaaGreatRows
import Derived.WalkSpells
import Derived.Lib.Hide
import Derived.Outline
import Derived.IntWalk
import Derived.Deep.Quiet
import Derived.Deep.QuietTactic
import Derived.BigQuiet
import Derived.RegionTactic
import Derived.ChangeAlike
import Derived.StillTailTactics
import Derived.Deep.RegionHeld3
import Derived.Deep.RegionLaw
import Derived.Deep.RegionLawGrows
import Derived.Deep.RegionWith
import Derived.Deep.AppendLies
import Derived.Deep.Draws
import Derived.Deep.LoopGhost
import Derived.Deep.DeepFit
import Derived.Deep.DeepMust
import Derived.Deep.DeepCutAuto
import Derived.Deep.Cut
import Derived.Deep.CutRange
import Derived.Deep.CutBlock
import Derived.Laws.OwnMore
import Derived.Laws.MakeOwn
import Derived.Laws.Rows
import Derived.Laws.AppendOwn
import Derived.Laws.Bits64
import Derived.Laws.BitsAllLaws
import Derived.Maps.AppendAt
import Derived.OwnWalk
import Derived.Handy
import Derived.PlainAid
import Derived.Laws.BytesArg
import Derived.Laws.IdiomStrings
import Derived.ChangeArms
import Derived.DataReads
import Derived.Deep.Slices
import Derived.Conc.MuLone
import Derived.OrdersHeld
import Derived.StillTail
import Derived.Lib.Bytealg
import Derived.Laws.Externs
set_option linter.unusedVariables false
set_option linter.unusedSimpArgs false
set_option maxRecDepth 20000
set_option maxHeartbeats 4000000
namespace Go.Proofs.YtmfojbidojjciaaGreat
theorem bl_eq : ∀ x y : List UInt8, Op.bytesLess x y = decide (x < y)
  | [], [] => by simp [Op.bytesLess]
  | [], _ :: _ => by simp [Op.bytesLess]
  | _ :: _, [] => by simp [Op.bytesLess]
  | a :: x, b :: y => by
    have ih := bl_eq x y
    simp only [Op.bytesLess, List.cons_lt_cons_iff, ih]
    by_cases h : a < b
    · simp [h]
    · by_cases h2 : a = b
      · subst h2; simp
      · simp [h, h2]
theorem tl_inj {a b : ByteArray} (h : a.toList = b.toList) : a = b := by
  have h2 : a.data.toList = b.data.toList := by simpa [ByteArray.toList_eq] using h
  cases a; cases b; simp at h2; simp [h2]
def sLt (a b : ByteArray) : Bool := Op.bytesLess a.toList b.toList
def sEq (a b : ByteArray) : Bool := a.toList == b.toList
theorem sLt_iff (a b : ByteArray) : sLt a b = true ↔ a.toList < b.toList := by simp [sLt, bl_eq]
theorem sLt_irrefl (a : ByteArray) : sLt a a = false := by
  cases h : sLt a a with
  | false => rfl
  | true => exact absurd ((sLt_iff _ _).1 h) (List.lt_irrefl _)
theorem sLt_trans {a b c : ByteArray} (h : sLt a b = true) (h2 : sLt b c = true) : sLt a c = true :=
  (sLt_iff _ _).2 (List.lt_trans ((sLt_iff _ _).1 h) ((sLt_iff _ _).1 h2))
theorem sLt_tri (a b : ByteArray) : sLt a b = true ∨ a.toList = b.toList ∨ sLt b a = true := by
  rcases Classical.em (a.toList < b.toList) with h | h
  · exact .inl ((sLt_iff _ _).2 h)
  · rcases Classical.em (b.toList < a.toList) with h2 | h2
    · exact .inr (.inr ((sLt_iff _ _).2 h2))
    · exact .inr (.inl (List.le_antisymm h2 h))
theorem sLt_asymm {a b : ByteArray} (h : sLt a b = true) : sLt b a = false := by
  cases h2 : sLt b a with
  | false => rfl
  | true => exact absurd (sLt_trans h h2) (by simp [sLt_irrefl])
end Go.Proofs.YtmfojbidojjciaaGreat

namespace Go.Proofs.YtmfojbidojjciaaGreat
open Go.RowKit
def byteStr (n : Int) : ByteArray := ⟨#[UInt8.ofNat n.toNat]⟩
@[simp, go_sem] theorem byteStr_size (n : Int) : (byteStr n).size = 1 := rfl
theorem run_conv_one (w : World) (a : Addr) (c : Nat) (n : Int) (h : w.cell? a = some (.int .u8 n)) :
    (convert 52 9 (.slice (some a) 1 c)).run Tryz.prog w = .ok (.string (byteStr n)) w := by
  rw [run_convert_bytes_string w _ _ 5 (some a) 1 c Tryz.underlying52 Tryz.underlying5 Tryz.underlying9]
  rw [run_bytesToString w a 1 c [n] (by
    have := run_loadCells_list (P := Tryz.prog) w a [Value.int .u8 n] (fun j v hj => by
      rcases j with _ | j
      · simp at hj; subst hj; simpa [Addr.add] using h
      · simp at hj)
    simpa using this)]
  simp [byteStr, ByteArray.empty, ByteArray.emptyWithCapacity, ByteArray.push]
  rfl
@[go_sem] theorem conv_one_new (w : World) (n : Int) (e : TypeId) :
    (convert 52 9 (.slice (some ⟨w.heap.size, 0, none⟩) 1 1)).run Tryz.prog (w.alloc (.cells #[.int .u8 n] e)) = .ok (.string (byteStr n)) (w.alloc (.cells #[.int .u8 n] e)) :=
  run_conv_one _ _ _ _ (by simp only [go_sem]; simp)
@[go_sem] theorem conv_one_new_drew (w : World) (n : Int) (e : TypeId) :
    (convert 52 9 (.slice (some ⟨w.heap.size, 0, none⟩) 1 1)).run Tryz.prog (w.alloc (.cells #[.int .u8 n] e)).drew = .ok (.string (byteStr n)) (w.alloc (.cells #[.int .u8 n] e)).drew :=
  run_conv_one _ _ _ _ (by show (w.alloc (.cells #[.int .u8 n] e)).cell? _ = _; simp only [go_sem]; simp)
end Go.Proofs.YtmfojbidojjciaaGreat
namespace Go.Proofs.YtmfojbidojjciaaGreat
open Go.RowKit

theorem blk_add (a : Addr) (n : Nat) : (a.add n).block = a.block := by unfold Addr.add; split <;> rfl
theorem add_add' (a : Addr) (i j : Nat) : (a.add i).add j = a.add (i + j) := by
  unfold Addr.add
  by_cases hi : i = 0 <;> by_cases hj : j = 0 <;> simp [hi, hj, Nat.add_assoc]

def Rd (w : World) (A : Option Addr) (us : List Value) : Prop := ∀ j u, us[j]? = some u → ∃ ad, A = some ad ∧ w.cell? (ad.add j) = some u

section
variable {w w' : World} {A : Option Addr} {us : List Value}
theorem Rd.nil (w : World) (A : Option Addr) : Rd w A [] := fun j u h => by simp at h
theorem Rd.at_ (h : Rd w A us) {j : Nat} (hj : j < us.length) : ∃ ad, A = some ad ∧ w.cell? (ad.add j) = some us[j] := h j _ (List.getElem?_eq_getElem hj)
theorem Rd.below {B : Nat} (h : Rd w A us) (hb : Below B w w') (hB : us ≠ [] → ∀ ad, A = some ad → ad.block < B) : Rd w' A us := fun j u hu => by
  obtain ⟨ad, e, hc⟩ := h j u hu
  refine ⟨ad, e, (hb.cell (p := ad.add j) ?_).trans hc⟩
  rw [blk_add]
  exact hB (by rintro rfl; simp at hu) ad e
theorem Rd.lt (h : Rd w A us) (hne : us ≠ []) : ∀ ad, A = some ad → ad.block < w.heap.size := fun ad e => by
  have hl : 0 < us.length := List.length_pos_iff.2 hne
  obtain ⟨ad', e', hc⟩ := h.at_ hl
  rw [e'] at e
  cases e
  have := World.block_lt_of_cell? w _ hc
  rwa [blk_add] at this
theorem Rd.ext (h : Rd w A us) (hb : Below w.heap.size w w') : Rd w' A us := h.below hb h.lt
theorem Rd.drew (h : Rd w A us) : Rd w.drew A us := h
theorem Rd.drewN (h : Rd w A us) (n : Nat) : Rd (w.drewN n) A us := h
theorem Rd.alloc (h : Rd w A us) (o : Obj) : Rd (w.alloc o) A us := h.ext ((Below.refl _ _).alloc (Nat.le_refl _) o)
theorem Rd.grown {row : Option Nat} (h : Rd w A us) (hg : w.grownBy w' row) (hr : us ≠ [] → A.map (·.block) ≠ row) : Rd w' A us := fun j u hu => by
  obtain ⟨ad, e, hc⟩ := h j u hu
  refine ⟨ad, e, hg.cell hc ?_⟩
  rw [blk_add]
  have := hr (by rintro rfl; simp at hu)
  rwa [e] at this
theorem Rd.of_own {base e size n c : Nat} (h : w.ownsRow base e size (.slice A n c) n us) : Rd w A us := fun j u hu => by
  rcases h.2 with ⟨hv, hn⟩ | ⟨g, cap, cur, hv, _⟩
  · have := h.1; subst hn; have h0 : us = [] := List.eq_nil_of_length_eq_zero (by simpa using this)
    subst h0; simp at hu
  · have hA : A = some ⟨g, 0, none⟩ := by injection hv
    subst hA
    exact ⟨_, rfl, h.cells (g := g) rfl j u hu⟩
theorem Rd.take (h : Rd w A us) (k : Nat) : Rd w A (us.take k) := fun j u hu => h j u (by
  rw [List.getElem?_take] at hu; split at hu
  · exact hu
  · cases hu)
theorem Rd.drop {ad : Addr} (h : Rd w (some ad) us) (k : Nat) : Rd w (some (ad.add k)) (us.drop k) := fun j u hu => by
  obtain ⟨ad', e, hc⟩ := h (k + j) u (by rwa [List.getElem?_drop] at hu)
  cases e
  exact ⟨_, rfl, by rw [add_add']; exact hc⟩
end

theorem Rd.new (w : World) (l : List Value) (e : TypeId) : Rd (w.alloc (.cells l.toArray e)) (some ⟨w.heap.size, 0, none⟩) l := fun j u hu => by
  refine ⟨_, rfl, ?_⟩
  have : (⟨w.heap.size, 0, none⟩ : Addr).add j = ⟨w.heap.size, j, none⟩ := by unfold Addr.add; split <;> simp_all
  rw [this, cell_of_row _ _ j l.toArray e (0, 0) (heap_alloc_new w _)]
  simpa using hu
theorem below_drewN {B : Nat} {a w : World} (h : Below B a w) (n : Nat) : Below B a (w.drewN n) := ⟨h.os, h.tape, h.output, h.size, h.block⟩
def SlT (t e size bytes : Nat) : Prop := Tryz.prog.underlying t = some (.slice e) ∧ 0 < size ∧ ∃ i z, Tryz.prog.info? e = some i ∧ i.zero = some z ∧ i.size = size ∧ i.bytes = bytes ∧ z.cells.size = size
theorem SlT.mk' {t e size bytes : Nat} {z : Value} (h1 : Tryz.prog.underlying t = some (.slice e)) (h2 : (Tryz.prog.info? e).map (fun i => (i.zero, i.size, i.bytes)) = some (some z, size, bytes)) (h3 : z.cells.size = size) (h4 : 0 < size) : SlT t e size bytes := by
  obtain ⟨i, hi, a, b, c⟩ := info_parts h2
  exact ⟨h1, h4, i, z, hi, a, b, c, h3⟩
abbrev Own (w : World) (base e size : Nat) (A : Option Addr) (n c : Nat) (us : List Value) : Prop := w.ownsRow base e size (.slice A n c) n us
def blk (A : Option Addr) : Option Nat := A.map (·.block)
theorem ownBlock_slice (A : Option Addr) (n c : Nat) : (Value.slice A n c).ownBlock = blk A := by cases A <;> rfl
theorem Own.nil (w : World) (base e size : Nat) : Own w base e size none 0 0 [] := ⟨by simp, .inl ⟨rfl, rfl⟩⟩
theorem Own.lt {w : World} {base e size n c : Nat} {A : Option Addr} {us : List Value} (h : Own w base e size A n c us) : ∀ k, blk A = some k → base ≤ k ∧ k < w.heap.size := by
  have := World.ownsRow.lt h; rwa [ownBlock_slice] at this
theorem Own.kept {w w' : World} {base e size n c : Nat} {A : Option Addr} {us : List Value} {row : Option Nat} (h : Own w base e size A n c us) (hg : w.grownBy w' row) (hne : blk A = none ∨ blk A ≠ row) : Own w' base e size A n c us :=
  World.ownsRow.kept h hg (by rwa [ownBlock_slice])
theorem Own.len {w : World} {base e size n c : Nat} {A : Option Addr} {us : List Value} (h : Own w base e size A n c us) : us.length = n * size := h.1
theorem Own.ext {w w' : World} {base e size n c : Nat} {A : Option Addr} {us : List Value} (h : Own w base e size A n c us) (hb : Below w.heap.size w w') : Own w' base e size A n c us :=
  Own.kept (row := none) h ⟨hb.os, hb.tape, hb.output, hb.size, fun i hi _ => hb.block i hi⟩ (by cases A <;> simp [blk])
theorem Own.drew {w : World} {base e size n c : Nat} {A : Option Addr} {us : List Value} (h : Own w base e size A n c us) : Own w.drew base e size A n c us := h
theorem Own.drewN {w : World} {base e size n c : Nat} {A : Option Addr} {us : List Value} (h : Own w base e size A n c us) (k : Nat) : Own (w.drewN k) base e size A n c us := h
theorem Own.alloc {w : World} {base e size n c : Nat} {A : Option Addr} {us : List Value} (h : Own w base e size A n c us) (o : Obj) : Own (w.alloc o) base e size A n c us := h.ext ((Below.refl _ _).alloc (Nat.le_refl _) o)
theorem Below.grown' {B : Nat} {a w w' : World} {A : Option Addr} (h : Below B a w) (hg : w.grownBy w' (blk A)) (hB : B ≤ w.heap.size) (hr : ∀ k, blk A = some k → B ≤ k) : Below B a w' := h.grown hg hB hr

theorem run_app_nil {t ty e size bytes : Nat} (hT : SlT t e size bytes) {w : World} {base n c : Nat} {A : Option Addr} {us : List Value} (hown : Own w base e size A n c us) (c' : Nat) :
    (Builtin.append_ #[t, t] ty #[.slice A n c, .slice none 0 c']).run Tryz.prog w = .ok (.slice A n c) w := by
  obtain ⟨ht, _, i, z, hi, hz, _, _, _⟩ := hT
  rcases hown.2 with ⟨hv, rfl⟩ | ⟨g, cap, cur, hv, _, _, hnc, _⟩
  · cases hv
    simp [Builtin.append_, run_underlying ht, sizeOf, typeInfo, hi, Builtin.lenOf, Builtin.firstCells]
  · cases hv
    simp [Builtin.append_, run_underlying ht, sizeOf, typeInfo, hi, Builtin.lenOf, Builtin.firstCells, hnc, storeCells]

theorem run_app {t ty e size bytes : Nat} (hT : SlT t e size bytes) {w : World} {base n c : Nat} {A : Option Addr} {us : List Value} (hown : Own w base e size A n c us)
    {A2 : Option Addr} {m c2 : Nat} {news : List Value} (hl : news.length = m * size) (hr : Rd w A2 news) (h1 : ∀ u ∈ news, u.oneCell' = true)
    (hbytes : (n + m) * bytes ≤ 140737488355328) (h63 : n + m ≤ 140737488355328) (hbase : base ≤ w.heap.size) :
    ∃ A' c' w', (Builtin.append_ #[t, t] ty #[.slice A n c, .slice A2 m c2]).run Tryz.prog w = .ok (.slice A' (n + m) c') w' ∧ Own w' base e size A' (n + m) c' (us ++ news) ∧ w.grownBy w' (blk A) ∧ (blk A' = blk A ∨ blk A' = some w.heap.size) := by
  rcases A2 with _ | ad
  · have hn : news = [] := by
      rcases news with _ | ⟨u, l⟩
      · rfl
      · obtain ⟨ad, e, _⟩ := hr 0 u rfl; cases e
    have hm : m = 0 := by
      subst hn; have := hT.2.1
      rcases Nat.eq_zero_or_pos m with h | h
      · exact h
      · have := Nat.mul_pos h this; simp at hl; omega
    subst hn; subst hm
    exact ⟨A, c, w, run_app_nil hT hown c2, by simpa using hown, World.grownBy.refl w _, .inl rfl⟩
  · have hcells : ∀ j u, news[j]? = some u → w.cell? (ad.add j) = some u := fun j u hu => by
      obtain ⟨ad', e, hc⟩ := hr j u hu; cases e; exact hc
    obtain ⟨ht, hsz, i, z, hi, hz, hs, hby, hzs⟩ := hT
    obtain ⟨v', w', hrun, h2, h3, _, h5⟩ := run_append_own_at (P := Tryz.prog) w base t ty e i z size bytes ht hi hz hs hby hzs hsz (.slice A n c) n us hown ad m c2 news hl hcells h1 (by simp only [maxLen]; omega) hbytes hbase
    obtain ⟨A', c', rfl⟩ : ∃ A' c', v' = .slice A' (n + m) c' := by
      rcases h2.2 with ⟨hv, hn⟩ | ⟨g, cap, cur, hv, _⟩
      · exact ⟨none, 0, by rw [hv, hn]⟩
      · exact ⟨_, _, hv⟩
    rw [ownBlock_slice] at h3 h5
    rw [ownBlock_slice] at h5
    exact ⟨A', c', w', hrun, h2, h3, h5⟩

theorem wpList_app {ops : Array Oper} {rest : List Oper} {o : Oper} {a : Act} {w : World} {Q : Exit → Act → World → Prop} {t e size bytes : Nat} (hT : SlT t e size bytes) (hgd : o.guard = none) (s x : Operand)
    (ho : o.op = .call { callee := .builtin .append, args := #[s, x], argTypes := #[t, t] })
    {base n c : Nat} {A : Option Addr} {us : List Value} (hs : a.eval s = .slice A n c) (hown : Own w base e size A n c us)
    {A2 : Option Addr} {m c2 : Nat} {news : List Value} (hx : a.eval x = .slice A2 m c2) (hl : news.length = m * size)
    (h : ∀ A' c' w', Own w' base e size A' (n + m) c' (us ++ news) → w.grownBy w' (blk A) → (blk A' = blk A ∨ blk A' = some w.heap.size) → wpList Tryz.prog ops Q rest (a.put o.dst (.slice A' (n + m) c')) w')
    (hr : Rd w A2 news) (h1 : ∀ u ∈ news, u.oneCell' = true)
    (hbytes : (n + m) * bytes ≤ 140737488355328) (h63 : n + m ≤ 140737488355328) (hbase : base ≤ w.heap.size) :
    wpList Tryz.prog ops Q (o :: rest) a w :=
  wpList_plain hgd fun K hK => by
    obtain ⟨A', c', w', hrun, h2, h3, h4⟩ := run_app (ty := o.type) hT hown hl hr h1 hbytes h63 hbase (c2 := c2)
    unfold Oper.wp execOp
    simp only [ho, resolve, invoke, builtin, Sem.run_bind, Sem.run_pure, Result.andThen_ok, List.map_toArray, List.map_cons, List.map_nil, hs, hx, hrun]
    exact hK _ _ (h A' c' w' h2 h3 h4)

def byteVs (l : List UInt8) : List Value := l.map fun b => .int .u8 (b.toNat : Int)
theorem run_str {w : World} {A : Option Addr} {l : List UInt8} (h : Rd w A (byteVs l)) (n : Nat) (hn : n = l.length) (c : Nat) :
    (convert 52 9 (.slice A n c)).run Tryz.prog w = .ok (.string ⟨l.toArray⟩) w := by
  subst hn
  rcases A with _ | ad
  · have hl : l = [] := by
      rcases l with _ | ⟨u, l⟩
      · rfl
      · obtain ⟨ad, e, _⟩ := h 0 (.int .u8 u.toNat) (by simp [byteVs]); cases e
    subst hl
    rw [run_convert_bytes_nil w _ _ Tryz.underlying52 Tryz.underlying5 _ _ _ Tryz.underlying9]
    rfl
  · exact run_convert_bytes_back w _ _ _ ad c l Tryz.underlying52 Tryz.underlying5 Tryz.underlying9 (fun j hj => by
      obtain ⟨ad', e, hc⟩ := h j (.int .u8 (l[j].toNat : Int)) (by simp [byteVs, List.getElem?_eq_getElem hj])
      cases e; exact hc)
theorem byteVs_one (l : List UInt8) : ∀ u ∈ byteVs l, u.oneCell' = true := by
  intro u hu
  obtain ⟨b, _, rfl⟩ := List.mem_map.1 hu
  rfl
theorem byteVs_app (a b : List UInt8) : byteVs a ++ byteVs b = byteVs (a ++ b) := by simp [byteVs]
theorem T_bytes : SlT 52 5 1 1 := SlT.mk' (z := .int .u8 0) Tryz.underlying52 (by kernel_rfl) rfl (by omega)
end Go.Proofs.YtmfojbidojjciaaGreat
namespace Go.Proofs.YtmfojbidojjciaaGreat
open Go.RowKit

inductive GT where
  | int | u8 | bool | str
  | sl (E : TypeId) (e : GT)
  | st (fs : List GT)
mutual
def GT.den : GT → Type
  | .int => Int
  | .u8 => UInt8
  | .bool => Bool
  | .str => ByteArray
  | .sl _ e => List e.den
  | .st fs => GT.denL fs
def GT.denL : List GT → Type
  | [] => Unit
  | t :: ts => t.den × GT.denL ts
end
mutual
def GT.size : GT → Nat
  | .st fs => GT.sizeL fs
  | _ => 1
def GT.sizeL : List GT → Nat
  | [] => 0
  | t :: ts => t.size + GT.sizeL ts
end
def inI64 (n : Int) : Prop := -9223372036854775808 ≤ n ∧ n ≤ 9223372036854775807
mutual
def RdT (w : World) : (T : GT) → T.den → List Value → Prop
  | .int, n, cs => cs = [.int .i64 n] ∧ inI64 n
  | .u8, b, cs => cs = [.int .u8 (b.toNat : Int)]
  | .bool, b, cs => cs = [.bool b]
  | .str, s, cs => cs = [.string s] ∧ s.size ≤ maxLen
  | .sl _ e, xs, cs => ∃ (A : Option Addr) (c : Nat) (us : List Value), cs = [.slice A xs.length c] ∧ xs.length ≤ c ∧ c ≤ maxLen ∧ Rd w A us ∧ RdTs w e xs us
  | .st fs, x, cs => RdTL w fs x cs
def RdTs (w : World) (e : GT) : List e.den → List Value → Prop
  | [], us => us = []
  | x :: xs, us => ∃ c1 c2, us = c1 ++ c2 ∧ RdT w e x c1 ∧ RdTs w e xs c2
def RdTL (w : World) : (fs : List GT) → GT.denL fs → List Value → Prop
  | [], _, cs => cs = []
  | t :: ts, (x, xs), cs => ∃ c1 c2, cs = c1 ++ c2 ∧ RdT w t x c1 ∧ RdTL w ts xs c2
end
theorem RdT.int {w : World} {n : GT.den .int} {cs : List Value} : RdT w .int n cs ↔ cs = [.int .i64 n] ∧ inI64 n := by simp only [RdT]
theorem RdT.u8 {w : World} {n : GT.den .u8} {cs : List Value} : RdT w .u8 n cs ↔ cs = [.int .u8 (UInt8.toNat n : Int)] := by simp only [RdT]
theorem RdT.bool {w : World} {n : GT.den .bool} {cs : List Value} : RdT w .bool n cs ↔ cs = [.bool n] := by simp only [RdT]
theorem RdT.str {w : World} {n : GT.den .str} {cs : List Value} : RdT w .str n cs ↔ cs = [.string n] ∧ ByteArray.size n ≤ maxLen := by simp only [RdT]
theorem RdT.sl {w : World} {E : TypeId} {e : GT} {xs : GT.den (.sl E e)} {cs : List Value} : RdT w (.sl E e) xs cs ↔ ∃ (A : Option Addr) (c : Nat) (us : List Value), cs = [.slice A (List.length xs) c] ∧ List.length xs ≤ c ∧ c ≤ maxLen ∧ Rd w A us ∧ RdTs w e xs us := by simp only [RdT]
theorem RdT.st {w : World} {fs : List GT} {x : GT.den (.st fs)} {cs : List Value} : RdT w (.st fs) x cs ↔ RdTL w fs x cs := by simp only [RdT]
theorem RdTL.nil {w : World} {x : GT.denL []} {cs : List Value} : RdTL w [] x cs ↔ cs = [] := by simp only [RdTL]
theorem RdTL.cons {w : World} {t : GT} {ts : List GT} {x : t.den} {xs : GT.denL ts} {cs : List Value} : RdTL w (t :: ts) (x, xs) cs ↔ ∃ c1 c2, cs = c1 ++ c2 ∧ RdT w t x c1 ∧ RdTL w ts xs c2 := by simp only [RdTL]
theorem RdTs.nil {w : World} {e : GT} {us : List Value} : RdTs w e [] us ↔ us = [] := by simp only [RdTs]
theorem RdTs.cons {w : World} {e : GT} {x : e.den} {xs : List e.den} {us : List Value} : RdTs w e (x :: xs) us ↔ ∃ c1 c2, us = c1 ++ c2 ∧ RdT w e x c1 ∧ RdTs w e xs c2 := by simp only [RdTs]
theorem RdTs_snoc {w : World} {e : GT} {x : e.den} {c : List Value} (hx : RdT w e x c) : ∀ {xs : List e.den} {us : List Value}, RdTs w e xs us → RdTs w e (xs ++ [x]) (us ++ c)
  | [], us, h => by
    simp only [RdTs] at h
    subst h
    exact (by simp only [List.nil_append, RdTs]; exact ⟨c, [], by simp, hx, rfl⟩)
  | y :: ys, us, h => by
    simp only [RdTs] at h
    obtain ⟨c1, c2, rfl, h1, h2⟩ := h
    simp only [List.cons_append, RdTs]
    exact ⟨c1, c2 ++ c, by simp, h1, RdTs_snoc hx h2⟩
mutual
theorem RdT_len {w : World} : ∀ (T : GT) (x : T.den) (cs : List Value), RdT w T x cs → cs.length = T.size
  | .int, n, cs, h => by simp only [RdT] at h; rw [h.1]; rfl
  | .u8, n, cs, h => by simp only [RdT] at h; rw [h]; rfl
  | .bool, n, cs, h => by simp only [RdT] at h; rw [h]; rfl
  | .str, n, cs, h => by simp only [RdT] at h; rw [h.1]; rfl
  | .sl _ e, xs, cs, h => by simp only [RdT] at h; obtain ⟨A, c, us, rfl, _⟩ := h; rfl
  | .st fs, x, cs, h => by simp only [RdT] at h; simpa [GT.size] using RdTL_len fs x cs h
theorem RdTL_len {w : World} : ∀ (fs : List GT) (x : GT.denL fs) (cs : List Value), RdTL w fs x cs → cs.length = GT.sizeL fs
  | [], _, cs, h => by simp only [RdTL] at h; subst h; rfl
  | t :: ts, (x, xs), cs, h => by
    simp only [RdTL] at h
    obtain ⟨c1, c2, rfl, h1, h2⟩ := h
    simp only [List.length_append, GT.sizeL, RdT_len t x c1 h1, RdTL_len ts xs c2 h2]
end
theorem RdTs_len {w : World} {e : GT} : ∀ (xs : List e.den) (us : List Value), RdTs w e xs us → us.length = xs.length * e.size
  | [], us, h => by simp only [RdTs] at h; subst h; simp
  | x :: xs, us, h => by
    simp only [RdTs] at h
    obtain ⟨c1, c2, rfl, h1, h2⟩ := h
    simp only [List.length_append, List.length_cons, RdT_len e x c1 h1, RdTs_len xs c2 h2, Nat.add_mul, Nat.one_mul]
    omega

def isInt64 (P : Program) (t : TypeId) : Bool := match P.underlying t with
  | some (.int .i64) => true
  | _ => false
def isU8 (P : Program) (t : TypeId) : Bool := match P.underlying t with
  | some (.int .u8) => true
  | _ => false
def isBool (P : Program) (t : TypeId) : Bool := match P.underlying t with
  | some .bool => true
  | _ => false
def isStr (P : Program) (t : TypeId) : Bool := match P.underlying t with
  | some .string => true
  | _ => false
def slElem (P : Program) (t : TypeId) : Option TypeId := match P.underlying t with
  | some (.slice e) => some e
  | _ => none
def stFields (P : Program) (t : TypeId) : Option (List Field) := match P.underlying t with
  | some (.struct F) => some F.toList
  | _ => none
mutual
def gtOk (P : Program) : GT → TypeId → Bool
  | .int, t => isInt64 P t
  | .u8, t => isU8 P t
  | .bool, t => isBool P t
  | .str, t => isStr P t
  | .sl E e, t => slElem P t == some E && gtOk P e E && P.cellsOf E == e.size
  | .st fs, t => match stFields P t with
    | some F => gtOkL P fs F 0 && P.cellsOf t == GT.sizeL fs
    | none => false
def gtOkL (P : Program) : List GT → List Field → Nat → Bool
  | [], [], _ => true
  | t :: ts, f :: F, off => f.offset == off && gtOk P t f.type && P.cellsOf f.type == t.size && gtOkL P ts F (off + t.size)
  | _, _, _ => false
end
section
variable {H : Type} {enc : TypeId × Value → H} {P : Program} {w : World} {base : Nat} {spare : Nat → Bool} {held : Bool}
theorem open_fields {n : Nat} (ih : ∀ (T : GT) (t : TypeId) (cs : List Value) (r : DataW H × List MemPlace), gtOk P T t = true → DataW.trod enc P w base spare held n t cs = some r → ∃ x : T.den, RdT w T x cs) (cs : List Value) :
    ∀ (fs : List GT) (F : List Field) (off : Nat), gtOkL P fs F off = true → cs.length = off + GT.sizeL fs →
      (∀ (i : Nat) (f : Field), F[i]? = some f → ∃ r, DataW.trod enc P w base spare held n f.type ((cs.drop f.offset).take (P.cellsOf f.type)) = some r) → ∃ x : GT.denL fs, RdTL w fs x (cs.drop off)
  | [], [], off, h, hl, hf => ⟨(), RdTL.nil.2 (List.drop_eq_nil_of_le (by simp [GT.sizeL] at hl; omega))⟩
  | [], _ :: _, off, h, hl, hf => by simp [gtOkL] at h
  | _ :: _, [], off, h, hl, hf => by simp [gtOkL] at h
  | t :: ts, f :: F, off, h, hl, hf => by
    simp only [gtOkL, Bool.and_eq_true, beq_iff_eq] at h
    obtain ⟨⟨⟨h1, h2⟩, h3⟩, h4⟩ := h
    obtain ⟨r, hr⟩ := hf 0 f rfl
    obtain ⟨x, hx⟩ := ih t f.type _ r h2 hr
    obtain ⟨xs, hxs⟩ := open_fields ih cs ts F (off + t.size) h4 (by simp only [GT.sizeL] at hl; omega) (fun i f' hf' => hf (i + 1) f' (by simpa using hf'))
    refine ⟨(x, xs), ?_⟩
    simp only [RdTL]
    refine ⟨_, _, ?_, hx, hxs⟩
    rw [h1, h3, ← List.drop_drop, List.take_append_drop]
theorem open_elems {n : Nat} (ih : ∀ (T : GT) (t : TypeId) (cs : List Value) (r : DataW H × List MemPlace), gtOk P T t = true → DataW.trod enc P w base spare held n t cs = some r → ∃ x : T.den, RdT w T x cs)
    (e : GT) (E : TypeId) (hE : gtOk P e E = true) (a : Addr) :
    ∀ m : Nat, (∀ i, i < m → ∃ cs', w.cells? base (a.add (i * e.size)) e.size = some cs' ∧ ∃ r, DataW.trod enc P w base spare held n E cs' = some r) →
      ∃ (xs : List e.den) (us : List Value), xs.length = m ∧ RdTs w e xs us ∧ ∀ j u, us[j]? = some u → w.cell? (a.add j) = some u
  | 0, _ => ⟨[], [], rfl, by simp only [RdTs], fun j u h => by simp at h⟩
  | m + 1, h => by
    obtain ⟨xs, us, hl, hr, hc⟩ := open_elems ih e E hE a m (fun i hi => h i (by omega))
    obtain ⟨cs', hcs, r, htr⟩ := h m (by omega)
    obtain ⟨x, hx⟩ := ih e E cs' r hE htr
    obtain ⟨_, hlen, hcell⟩ := World.cells?_some hcs
    refine ⟨xs ++ [x], us ++ cs', by simp [hl], RdTs_snoc hx hr, fun j u hu => ?_⟩
    have hul := RdTs_len xs us hr
    rcases Nat.lt_or_ge j us.length with hj | hj
    · exact hc j u (by rwa [List.getElem?_append_left hj] at hu)
    · rw [List.getElem?_append_right hj] at hu
      have hjl : j - us.length < cs'.length := (List.getElem?_eq_some_iff.1 hu).1
      have := hcell (j - us.length) (by omega)
      rw [add_add', hu] at this
      rw [← this]
      congr 2
      rw [hul, hl] at hj ⊢
      omega
theorem open_gt : ∀ (fuel : Nat) (T : GT) (t : TypeId) (cs : List Value) (r : DataW H × List MemPlace), gtOk P T t = true → DataW.trod enc P w base spare held fuel t cs = some r → ∃ x : T.den, RdT w T x cs
  | 0, T, t, cs, r, hT, h => by simp [DataW.trod] at h
  | n + 1, .int, t, cs, r, hT, h => by
    have ht : P.underlying t = some (.int .i64) := by simp only [gtOk, isInt64] at hT; split at hT <;> simp_all
    obtain ⟨z, rfl, _, hw⟩ := DataW.trod_int ht h
    exact ⟨z, RdT.int.2 ⟨rfl, by
      have := hw
      simp [Lit.wf, IntKind.min, IntKind.max, IntKind.signed, IntKind.bits] at this
      unfold inI64
      omega⟩⟩
  | n + 1, .u8, t, cs, r, hT, h => by
    have ht : P.underlying t = some (.int .u8) := by simp only [gtOk, isU8] at hT; split at hT <;> simp_all
    obtain ⟨z, rfl, _, hw⟩ := DataW.trod_int ht h
    have : 0 ≤ z ∧ z ≤ 255 := by
      have := hw
      simp [Lit.wf, IntKind.min, IntKind.max, IntKind.signed, IntKind.bits] at this
      omega
    refine ⟨UInt8.ofNat z.toNat, RdT.u8.2 ?_⟩
    have e : (UInt8.ofNat z.toNat).toNat = z.toNat := by rw [UInt8.toNat_ofNat']; exact Nat.mod_eq_of_lt (by omega)
    rw [e, Int.toNat_of_nonneg this.1]
  | n + 1, .bool, t, cs, r, hT, h => by
    have ht : P.underlying t = some .bool := by simp only [gtOk, isBool] at hT; split at hT <;> simp_all
    obtain ⟨z, rfl, _⟩ := DataW.trod_bool ht h
    exact ⟨z, RdT.bool.2 rfl⟩
  | n + 1, .str, t, cs, r, hT, h => by
    have ht : P.underlying t = some .string := by simp only [gtOk, isStr] at hT; split at hT <;> simp_all
    obtain ⟨z, rfl, _, hw⟩ := DataW.trod_string ht h
    exact ⟨z, RdT.str.2 ⟨rfl, hw⟩⟩
  | n + 1, .sl E e, t, cs, r, hT, h => by
    simp only [gtOk, Bool.and_eq_true, beq_iff_eq] at hT
    obtain ⟨⟨h1, h2⟩, h3⟩ := hT
    have ht : P.underlying t = some (.slice E) := by simp only [slElem] at h1; split at h1 <;> simp_all
    rcases DataW.trod_slice ht h with ⟨rfl, _⟩ | ⟨a, len, cap, elems, rest, n', hn, rfl, _, hb, hlc, hcm, hel, hi, _⟩
    · exact ⟨[], RdT.sl.2 ⟨none, 0, [], rfl, Nat.le_refl _, by simp [maxLen], Rd.nil _ _, RdTs.nil.2 rfl⟩⟩
    · cases hn
      obtain ⟨xs, us, hl, hr, hc⟩ := open_elems (fun T t cs r => open_gt n T t cs r) e E h2 a len (fun i hil => by
        have := hi i hil
        rw [h3] at this
        have hlt : i < elems.length := by omega
        rw [List.getElem?_eq_getElem hlt] at this
        cases hcs : w.cells? base (a.add (i * e.size)) e.size with
        | none => rw [hcs] at this; simp at this
        | some cs' => rw [hcs] at this; exact ⟨cs', rfl, _, this⟩)
      exact ⟨xs, RdT.sl.2 ⟨some a, cap, us, by rw [hl], by omega, hcm, fun j u hu => ⟨a, rfl, hc j u hu⟩, hr⟩⟩
  | n + 1, .st fs, t, cs, r, hT, h => by
    simp only [gtOk] at hT
    split at hT
    · rename_i F hF
      simp only [Bool.and_eq_true, beq_iff_eq] at hT
      have ht : ∃ F', P.underlying t = some (.struct F') ∧ F'.toList = F := by simp only [stFields] at hF; split at hF <;> simp_all
      obtain ⟨F', ht, rfl⟩ := ht
      obtain ⟨xs, n', hn, _, hcl, hxl, hf⟩ := DataW.trod_struct ht h
      cases hn
      obtain ⟨x, hx⟩ := open_fields (fun T t cs r => open_gt n T t cs r) cs fs F'.toList 0 hT.1 (by rw [hcl, hT.2]; omega) (fun i f hfi => by
        have := hf i f (by simpa using hfi)
        have hlt : i < xs.length := by
          have := (List.getElem?_eq_some_iff.1 hfi).1
          simp at this; omega
        rw [List.getElem?_eq_getElem hlt] at this
        exact ⟨_, this⟩)
      exact ⟨x, RdT.st.2 (by simpa using hx)⟩
    · cases hT
end
end Go.Proofs.YtmfojbidojjciaaGreat
namespace Go.Proofs.YtmfojbidojjciaaGreat
open Go.RowKit

structure Ya where
  A : Option Addr
  c : Nat
  w : World
  n : Int
abbrev Ys := Nat → Ya
abbrev Env := List (Nat × Value)
def look : Env → Nat → Option Value
  | [], _ => none
  | (s, v) :: E, t => match Nat.beq s t with
    | true => some v
    | false => look E t
abbrev Env.put (E : Env) (d : Option Tmp) (v : Value) : Env := match d with
  | some t => (t, v) :: E
  | none => E
def dOk (N : Nat) : Option Tmp → Bool
  | some t => Nat.blt t N
  | none => true
structure EnvOk (N : Nat) (E : Env) (a : Act) : Prop where
  defers : a.defers = []
  size : a.tmps.size = N
  at_ : ∀ t v, look E t = some v → a.tmps[t]? = some v
def opd (E : Env) : Operand → Option Value
  | .tmp t => look E t
  | .const v => some v
  | .global g => some (.pointer (some ⟨g, 0, none⟩))
  | .func f => some (.func (.func f) #[] #[])
section
variable {N : Nat} {E : Env} {a : Act}
theorem EnvOk.eval (h : EnvOk N E a) {x : Operand} {v : Value} (hx : opd E x = some v) : a.eval x = v := by
  cases x with
  | tmp t => simp only [opd] at hx; have := h.at_ t v hx; simp [Act.eval, Array.getD_eq_getD_getElem?, this]
  | const u => simp only [opd] at hx; cases hx; rfl
  | global g => simp only [opd] at hx; cases hx; rfl
  | func f => simp only [opd] at hx; cases hx; rfl
theorem EnvOk.put (h : EnvOk N E a) {d : Option Tmp} (hd : dOk N d = true) (v : Value) : EnvOk N (Env.put E d v) (a.put d v) := by
  cases d with
  | none => exact h
  | some t =>
    have ht : t < a.tmps.size := by rw [h.size]; simpa [dOk, Nat.blt_eq] using hd
    refine ⟨h.defers, by simp [Act.put, h.size], fun s u hs => ?_⟩
    simp only [Env.put, look] at hs
    show (a.tmps.setIfInBounds t v)[s]? = some u
    split at hs
    · rename_i hb
      have : t = s := Nat.eq_of_beq_eq_true hb
      subst this
      cases hs
      simp [ht]
    · rename_i hb
      have : t ≠ s := fun e => by subst e; simp [Nat.beq_refl] at hb
      rw [Array.getElem?_setIfInBounds_ne this]
      exact h.at_ _ _ hs
theorem EnvOk.put' (h : EnvOk N E a) {d : Option Tmp} {t : Nat} (hdt : d = some t) (hd : Nat.blt t N = true) (v : Value) : EnvOk N ((t, v) :: E) (a.put d v) := by
  subst hdt; exact h.put (d := some t) hd v
theorem EnvOk.put0 (h : EnvOk N E a) {d : Option Tmp} (hdt : d = none) (v : Value) : EnvOk N E (a.put d v) := by
  subst hdt; exact h
end

structure RowD where
  A : Option Addr
  n : Nat
  c : Nat
  us : List Value
inductive HObj
  | box (g : Nat) (e : TypeId) (cs : List Value)
  | row (e sz : Nat) (A : Option Addr) (n c : Nat) (us : List Value)
  | bag (e sz : Nat) (l : List RowD)
  | zrow (g : Nat) (e : TypeId) (cs : List Value) (fz : Nat × Nat)
def HObj.has : HObj → Nat → Prop
  | .box g _ _, k => g = k
  | .row _ _ A _ _ _, k => Go.Proofs.YtmfojbidojjciaaGreat.blk A = some k
  | .bag _ _ l, k => ∃ r ∈ l, Go.Proofs.YtmfojbidojjciaaGreat.blk r.A = some k
  | .zrow g _ _ _, k => g = k
def RowD.apart (a b : RowD) : Prop := ∀ k, Go.Proofs.YtmfojbidojjciaaGreat.blk a.A = some k → Go.Proofs.YtmfojbidojjciaaGreat.blk b.A ≠ some k
def HObj.holds (base : Nat) (w : World) : HObj → Prop
  | .box g e cs => base ≤ g ∧ w.heap[g]? = some (.cells cs.toArray e (0, 0))
  | .row e sz A n c us => Own w base e sz A n c us
  | .bag e sz l => (∀ r ∈ l, Own w base e sz r.A r.n r.c r.us) ∧ l.Pairwise RowD.apart
  | .zrow g e cs fz => base ≤ g ∧ w.heap[g]? = some (.cells cs.toArray e fz)
def HObj.apart (x y : HObj) : Prop := ∀ k, x.has k → ¬ y.has k
theorem HObj.apart.symm {x y : HObj} (h : x.apart y) : y.apart x := fun k hy hx => h k hx hy
theorem HObj.lt {base : Nat} {w : World} {x : HObj} (h : x.holds base w) : ∀ k, x.has k → base ≤ k ∧ k < w.heap.size := by
  cases x with
  | box g e cs => intro k hk; cases hk; exact ⟨h.1, (Array.getElem?_eq_some_iff.1 h.2).1⟩
  | row e sz A n c us => exact Own.lt h
  | bag e sz l => rintro k ⟨r, hr, hk⟩; exact Own.lt (h.1 r hr) k hk
  | zrow g e cs fz => intro k hk; cases hk; exact ⟨h.1, (Array.getElem?_eq_some_iff.1 h.2).1⟩
theorem HObj.holds.grown {base : Nat} {w w' : World} {x : HObj} {r : Option Nat} (h : x.holds base w) (hg : w.grownBy w' r) (hr : ∀ k, x.has k → r ≠ some k) : x.holds base w' := by
  cases x with
  | box g e cs => exact ⟨h.1, by rw [hg.block g (Array.getElem?_eq_some_iff.1 h.2).1 (fun e => hr g rfl e.symm)]; exact h.2⟩
  | row e sz A n c us =>
    refine Own.kept h hg ?_
    cases hA : Go.Proofs.YtmfojbidojjciaaGreat.blk A with
    | none => exact .inl rfl
    | some k => exact .inr (fun e => hr k hA e.symm)
  | bag e sz l =>
    refine ⟨fun q hq => Own.kept (h.1 q hq) hg ?_, h.2⟩
    cases hA : Go.Proofs.YtmfojbidojjciaaGreat.blk q.A with
    | none => exact .inl rfl
    | some k => exact .inr (fun e => hr k ⟨q, hq, hA⟩ e.symm)
  | zrow g e cs fz => exact ⟨h.1, by rw [hg.block g (Array.getElem?_eq_some_iff.1 h.2).1 (fun e => hr g rfl e.symm)]; exact h.2⟩
theorem Own.base {base base' e sz n c : Nat} {A : Option Addr} {us : List Value} {w : World} (h : Own w base e sz A n c us) (hb : base' ≤ base) : Own w base' e sz A n c us := by
  refine ⟨h.1, ?_⟩
  rcases h.2 with h | ⟨g, cap, cur, hv, hbg, r⟩
  · exact .inl h
  · exact .inr ⟨g, cap, cur, hv, Nat.le_trans hb hbg, r⟩
theorem HObj.holds.base {base base' : Nat} {w : World} {x : HObj} (h : x.holds base w) (hb : base' ≤ base) : x.holds base' w := by
  cases x with
  | box g e cs => exact ⟨Nat.le_trans hb h.1, h.2⟩
  | row e sz A n c us => exact Own.base h hb
  | bag e sz l => exact ⟨fun r hr => Own.base (h.1 r hr) hb, h.2⟩
  | zrow g e cs fz => exact ⟨Nat.le_trans hb h.1, h.2⟩

structure WOk (base : Nat) (w0 : World) (H : List HObj) (G : List World) (w : World) : Prop where
  below : Below base w0 w
  le : base ≤ w.heap.size
  own : ∀ h ∈ H, h.holds base w
  apart : H.Pairwise HObj.apart
  ref : ∀ m ∈ G, ∀ p u, m.cell? p = some u → w.cell? p = some u ∧ ∀ h ∈ H, ¬ h.has p.block
structure NewOk (L : Nat) (H : List HObj) (G : List World) (w : World) : Prop where
  own : ∀ h ∈ H, h.holds L w
  apart : H.Pairwise HObj.apart
  ref : ∀ m ∈ G, ∀ p u, m.cell? p = some u → L ≤ p.block ∧ w.cell? p = some u ∧ ∀ h ∈ H, ¬ h.has p.block
theorem NewOk.nil (L : Nat) (w : World) : NewOk L [] [] w := ⟨(fun x h => (by cases h)), List.Pairwise.nil, (fun m h => (by cases h))⟩
theorem Below.gb {w w' : World} (h : Below w.heap.size w w') (r : Option Nat) : w.grownBy w' r := ⟨h.os, h.tape, h.output, h.size, fun i hi _ => h.block i hi⟩
section
variable {base : Nat} {w0 w w' : World} {H : List HObj} {G : List World}
theorem WOk.grow (h : WOk base w0 H G w) (hb : Below w.heap.size w w') {Hn : List HObj} {Gn : List World} (hn : NewOk w.heap.size Hn Gn w') : WOk base w0 (Hn ++ H) (Gn ++ G) w' := by
  refine ⟨h.below.trans (hb.mono h.le), Nat.le_trans h.le hb.size, ?_, ?_, ?_⟩
  · intro x hx
    rcases List.mem_append.1 hx with hx | hx
    · exact (hn.own x hx).base h.le
    · exact (h.own x hx).grown (Below.gb hb none) (fun _ _ => by simp)
  · refine List.pairwise_append.2 ⟨hn.apart, h.apart, fun x hx y hy k hk hy' => ?_⟩
    have h1 := (HObj.lt (hn.own x hx) k hk).1
    have h2 := (HObj.lt (h.own y hy) k hy').2
    omega
  · intro m hm p u hp
    rcases List.mem_append.1 hm with hm | hm
    · obtain ⟨h1, h2, h3⟩ := hn.ref m hm p u hp
      refine ⟨h2, fun x hx => ?_⟩
      rcases List.mem_append.1 hx with hx | hx
      · exact h3 x hx
      · intro e; have := (HObj.lt (h.own x hx) _ e).2; omega
    · obtain ⟨h1, h2⟩ := h.ref m hm p u hp
      have hlt := World.block_lt_of_cell? w p h1
      refine ⟨(hb.cell (p := p) hlt).trans h1, fun x hx => ?_⟩
      rcases List.mem_append.1 hx with hx | hx
      · intro e; have := (HObj.lt (hn.own x hx) _ e).1; omega
      · exact h2 x hx
theorem WOk.drew (h : WOk base w0 H G w) : WOk base w0 H G w.drew :=
  ⟨h.below.drew, h.le, fun x hx => by
    have := h.own x hx
    cases x <;> exact this, h.apart, h.ref⟩
theorem WOk.turn (h : WOk base w0 H G w) {i : Nat} {x x' : HObj} (hi : H[i]? = some x) {r : Option Nat} (hg : w.grownBy w' r) (hrr : ∀ k, r = some k → x.has k) (hx' : x'.holds base w')
    (hb : ∀ k, x'.has k → x.has k ∨ w.heap.size ≤ k) : WOk base w0 (H.set i x') G w' := by
  have hix : i < H.length := (List.getElem?_eq_some_iff.1 hi).1
  have hxi : H[i] = x := (List.getElem?_eq_some_iff.1 hi).2
  have hxm : x ∈ H := List.mem_of_getElem? hi
  have hxlt := HObj.lt (h.own x hxm)
  have key : ∀ j (hj : j < H.length), j ≠ i → (H[j]).apart x ∧ x.apart (H[j]) := fun j hj hne => by
    have hp := List.pairwise_iff_getElem.1 h.apart
    rcases Nat.lt_or_gt_of_ne hne with hlt | hgt
    · have := hp j i hj hix hlt; rw [hxi] at this; exact ⟨this, this.symm⟩
    · have := hp i j hix hj hgt; rw [hxi] at this; exact ⟨this.symm, this⟩
  have old : ∀ j (hj : j < H.length), j ≠ i → (H[j]).apart x' := fun j hj hne k hk hk' => by
    rcases hb k hk' with h1 | h1
    · exact (key j hj hne).1 k hk h1
    · have := (HObj.lt (h.own _ (List.getElem_mem hj)) k hk).2; omega
  refine ⟨h.below.grown hg h.le (fun k hk => (hxlt k (hrr k hk)).1), Nat.le_trans h.le hg.size, ?_, ?_, ?_⟩
  · intro y hy
    obtain ⟨j, hj, rfl⟩ := List.getElem_of_mem hy
    rw [List.getElem_set]
    split
    · exact hx'
    · rename_i hne
      rw [List.length_set] at hj
      exact (h.own _ (List.getElem_mem hj)).grown hg (fun k hk e => (key j hj (Ne.symm hne)).1 k hk (hrr k e))
  · refine List.pairwise_iff_getElem.2 fun j k hj hk hjk => ?_
    rw [List.length_set] at hj hk
    rw [List.getElem_set, List.getElem_set]
    by_cases e1 : i = j
    · subst e1
      rw [if_pos rfl, if_neg (by omega)]
      exact (old k hk (by omega)).symm
    · rw [if_neg e1]
      by_cases e2 : i = k
      · subst e2; rw [if_pos rfl]; exact old j hj (by omega)
      · rw [if_neg e2]; exact List.pairwise_iff_getElem.1 h.apart j k hj hk hjk
  · intro m hm p u hp
    obtain ⟨h1, h2⟩ := h.ref m hm p u hp
    refine ⟨hg.cell h1 (fun e => h2 x hxm (hrr _ e.symm)), fun y hy e => ?_⟩
    obtain ⟨j, hj, rfl⟩ := List.getElem_of_mem hy
    rw [List.length_set] at hj
    rw [List.getElem_set] at e
    split at e
    · rcases hb _ e with h3 | h3
      · exact h2 x hxm h3
      · have := World.block_lt_of_cell? w p h1; omega
    · exact h2 _ (List.getElem_mem hj) e
theorem WOk.front (h : WOk base w0 H G w) (i : Nat) {x : HObj} (hi : H[i]? = some x) : WOk base w0 (x :: H.eraseIdx i) G w := by
  have hmem : ∀ y ∈ H.eraseIdx i, y ∈ H := fun y hy => List.mem_of_mem_eraseIdx hy
  have hx : x ∈ H := List.mem_of_getElem? hi
  have hall : ∀ y ∈ x :: H.eraseIdx i, y ∈ H := fun y hy => by
    rcases List.mem_cons.1 hy with rfl | hy
    · exact hx
    · exact hmem y hy
  refine ⟨h.below, h.le, fun y hy => h.own y (hall y hy), List.pairwise_cons.2 ⟨fun y hy => ?_, h.apart.sublist (List.eraseIdx_sublist H i)⟩, fun m hm p u hp => ⟨(h.ref m hm p u hp).1, fun y hy => (h.ref m hm p u hp).2 y (hall y hy)⟩⟩
  obtain ⟨hil, hix⟩ := List.getElem?_eq_some_iff.1 hi
  obtain ⟨j, hj, rfl⟩ := List.getElem_of_mem hy
  rw [List.getElem_eraseIdx]
  rw [List.length_eraseIdx_of_lt hil] at hj
  have hp := List.pairwise_iff_getElem.1 h.apart
  split
  · rename_i hlt
    have := hp j i (by omega) hil hlt
    rw [hix] at this; exact this.symm
  · rename_i hge
    have := hp i (j + 1) hil (by omega) (by omega)
    rw [hix] at this; exact this
theorem WOk.sel (h : WOk base w0 H G w) (is : List Nat) (hn : is.Nodup) {H' : List HObj} (hs : H' = is.filterMap (fun i => H[i]?)) {G' : List World} (hG : ∀ m ∈ G', m ∈ G) : WOk base w0 H' G' w := by
  subst hs
  have hmem : ∀ x ∈ is.filterMap (fun i => H[i]?), x ∈ H := fun x hx => by
    obtain ⟨i, _, hi⟩ := List.mem_filterMap.1 hx
    exact List.mem_of_getElem? hi
  refine ⟨h.below, h.le, fun x hx => h.own x (hmem x hx), ?_, fun m hm p u hp => ⟨(h.ref m (hG m hm) p u hp).1, fun x hx => (h.ref m (hG m hm) p u hp).2 x (hmem x hx)⟩⟩
  refine List.Pairwise.filterMap _ ?_ (List.nodup_iff_pairwise_ne.1 hn)
  intro i j hij x hx y hy
  obtain ⟨hi, rfl⟩ := List.getElem?_eq_some_iff.1 hx
  obtain ⟨hj, rfl⟩ := List.getElem?_eq_some_iff.1 hy
  rcases Nat.lt_or_gt_of_ne hij with hlt | hgt
  · exact List.pairwise_iff_getElem.1 h.apart i j hi hj hlt
  · exact (List.pairwise_iff_getElem.1 h.apart j i hj hi hgt).symm
end
theorem WOk.perm {base : Nat} {w0 w : World} {H H' : List HObj} {G : List World} (h : WOk base w0 H G w) (hp : H.Perm H') : WOk base w0 H' G w :=
  ⟨h.below, h.le, fun x hx => h.own x (hp.mem_iff.2 hx), (hp.pairwise_iff (fun h => HObj.apart.symm h)).1 h.apart, fun m hm p u hu => ⟨(h.ref m hm p u hu).1, fun x hx => (h.ref m hm p u hu).2 x (hp.mem_iff.2 hx)⟩⟩
def RowD.obj (e sz : Nat) (r : RowD) : HObj := .row e sz r.A r.n r.c r.us
theorem WOk.bag_iff {base : Nat} {w0 w : World} {H : List HObj} {G : List World} {e sz : Nat} {l : List RowD} : WOk base w0 (.bag e sz l :: H) G w ↔ WOk base w0 (l.map (RowD.obj e sz) ++ H) G w := by
  constructor
  · intro h
    refine ⟨h.below, h.le, fun x hx => ?_, ?_, fun m hm p u hu => ⟨(h.ref m hm p u hu).1, fun x hx hk => ?_⟩⟩
    · rcases List.mem_append.1 hx with hx | hx
      · obtain ⟨r, hr, rfl⟩ := List.mem_map.1 hx
        exact (h.own _ List.mem_cons_self).1 r hr
      · exact h.own x (List.mem_cons_of_mem _ hx)
    · refine List.pairwise_append.2 ⟨List.pairwise_map.2 ((h.own _ List.mem_cons_self).2), (List.pairwise_cons.1 h.apart).2, fun x hx y hy => ?_⟩
      obtain ⟨r, hr, rfl⟩ := List.mem_map.1 hx
      exact fun k hk hy' => (List.pairwise_cons.1 h.apart).1 y hy k ⟨r, hr, hk⟩ hy'
    · rcases List.mem_append.1 hx with hx | hx
      · obtain ⟨r, hr, rfl⟩ := List.mem_map.1 hx
        exact (h.ref m hm p u hu).2 _ List.mem_cons_self ⟨r, hr, hk⟩
      · exact (h.ref m hm p u hu).2 x (List.mem_cons_of_mem _ hx) hk
  · intro h
    have hp := List.pairwise_append.1 h.apart
    refine ⟨h.below, h.le, fun x hx => ?_, List.pairwise_cons.2 ⟨fun y hy => ?_, hp.2.1⟩, fun m hm p u hu => ⟨(h.ref m hm p u hu).1, fun x hx hk => ?_⟩⟩
    · rcases List.mem_cons.1 hx with rfl | hx
      · exact ⟨fun r hr => h.own (r.obj e sz) (List.mem_append_left _ (List.mem_map.2 ⟨r, hr, rfl⟩)), (List.pairwise_map (f := RowD.obj e sz) (R := HObj.apart)).1 hp.1⟩
      · exact h.own x (List.mem_append_right _ hx)
    · rintro k ⟨r, hr, hk⟩ hy'
      exact hp.2.2 _ (List.mem_map.2 ⟨r, hr, rfl⟩) y hy k hk hy'
    · rcases List.mem_cons.1 hx with rfl | hx
      · obtain ⟨r, hr, hk⟩ := hk
        exact (h.ref m hm p u hu).2 _ (List.mem_append_left _ (List.mem_map.2 ⟨r, hr, rfl⟩)) hk
      · exact (h.ref m hm p u hu).2 x (List.mem_append_right _ hx) hk
theorem WOk.bag_nil {base : Nat} {w0 w : World} {H : List HObj} {G : List World} (e sz : Nat) (h : WOk base w0 H G w) : WOk base w0 (.bag e sz [] :: H) G w := WOk.bag_iff.2 h
theorem WOk.absorb {base : Nat} {w0 w : World} {H : List HObj} {G : List World} {e sz n c : Nat} {A : Option Addr} {us : List Value} {l : List RowD} (h : WOk base w0 (.row e sz A n c us :: .bag e sz l :: H) G w) : WOk base w0 (.bag e sz (l ++ [⟨A, n, c, us⟩]) :: H) G w := by
  refine WOk.bag_iff.2 ?_
  have h1 : WOk base w0 (.bag e sz l :: .row e sz A n c us :: H) G w := h.perm (List.Perm.swap _ _ _)
  have h2 := WOk.bag_iff.1 h1
  simpa [RowD.obj] using h2
theorem WOk.pull {base : Nat} {w0 w : World} {H : List HObj} {G : List World} {e sz : Nat} {r : RowD} {l1 l2 : List RowD} (h : WOk base w0 (.bag e sz (l1 ++ r :: l2) :: H) G w) : WOk base w0 (.row e sz r.A r.n r.c r.us :: .bag e sz (l1 ++ l2) :: H) G w := by
  have h1 := WOk.bag_iff.1 h
  have h2 : WOk base w0 ((l1 ++ l2).map (RowD.obj e sz) ++ (.row e sz r.A r.n r.c r.us :: H)) G w := h1.perm (by
    simp only [List.map_append, List.map_cons, List.append_assoc, List.cons_append]
    refine List.Perm.append_left _ ?_
    exact (List.perm_middle (l₁ := l2.map (RowD.obj e sz))).symm)
  exact (WOk.bag_iff.2 h2).perm (List.Perm.swap _ _ _)
theorem WOk.push {base : Nat} {w0 w : World} {H : List HObj} {G : List World} {e sz : Nat} {r : RowD} {l1 l2 : List RowD} (h : WOk base w0 (.row e sz r.A r.n r.c r.us :: .bag e sz (l1 ++ l2) :: H) G w) : WOk base w0 (.bag e sz (l1 ++ r :: l2) :: H) G w := by
  have h1 : WOk base w0 (.bag e sz (l1 ++ l2) :: .row e sz r.A r.n r.c r.us :: H) G w := h.perm (List.Perm.swap _ _ _)
  refine WOk.bag_iff.2 ((WOk.bag_iff.1 h1).perm ?_)
  simp only [List.map_append, List.map_cons, List.append_assoc, List.cons_append]
  exact List.Perm.append_left _ (List.perm_middle (l₁ := l2.map (RowD.obj e sz)))
def Ok (N base : Nat) (w0 : World) (E : Env) (H : List HObj) (G : List World) (K : Act → World → Prop) : Prop := ∀ a w, EnvOk N E a → WOk base w0 H G w → K a w
end Go.Proofs.YtmfojbidojjciaaGreat
namespace Go.Proofs.YtmfojbidojjciaaGreat
open Go.RowKit
section
variable {P : Program} {N base : Nat} {w0 : World} {E : Env} {H : List HObj} {G : List World} {Q : Exit → Act → World → Prop} {K : Act → World → Prop}
theorem ok_seq {x y : Code} (h : Ok N base w0 E H G (x.wp P (Exit.then (y.wp P Q) Q))) : Ok N base w0 E H G ((Code.seq x y).wp P Q) := fun a w he hw => wp_seq (h a w he hw)
theorem ok_then {k : Act → World → Prop} (h : Ok N base w0 E H G k) : Ok N base w0 E H G (Exit.then k Q .normal) := h
theorem ok_then_exit {k : Act → World → Prop} {i : Nat} (h : Ok N base w0 E H G (Q (.exit i))) : Ok N base w0 E H G (Exit.then k Q (.exit i)) := h
theorem ok_then_ret {k : Act → World → Prop} (h : Ok N base w0 E H G (Q .ret)) : Ok N base w0 E H G (Exit.then k Q .ret) := h
theorem ok_block {i : Nat} {x : Code} (h : Ok N base w0 E H G (x.wp P (Exit.inBlock i Q))) : Ok N base w0 E H G ((Code.block i x).wp P Q) := fun a w he hw => wp_block (h a w he hw)
theorem ok_in_normal {i : Nat} (h : Ok N base w0 E H G (Q .normal)) : Ok N base w0 E H G (Exit.inBlock i Q .normal) := h
theorem ok_in_ret {i : Nat} (h : Ok N base w0 E H G (Q .ret)) : Ok N base w0 E H G (Exit.inBlock i Q .ret) := h
theorem ok_in_exit {i : Nat} (h : Ok N base w0 E H G (Q .normal)) : Ok N base w0 E H G (Exit.inBlock i Q (.exit i)) := fun a w he hw => by
  show (if i = i then Q .normal a w else _); rw [if_pos rfl]; exact h a w he hw
theorem ok_in_other {i j : Nat} (hij : Nat.beq j i = false) (h : Ok N base w0 E H G (Q (.exit j))) : Ok N base w0 E H G (Exit.inBlock i Q (.exit j)) := fun a w he hw => by
  have : j ≠ i := fun e => by subst e; simp [Nat.beq_refl] at hij
  show (if j = i then _ else Q (.exit j) a w); rw [if_neg this]; exact h a w he hw
theorem ok_exit {i : Nat} (h : Ok N base w0 E H G (Q (.exit i))) : Ok N base w0 E H G ((Code.exit i).wp P Q) := fun a w he hw => wp_exit (h a w he hw)
theorem ok_ret (h : Ok N base w0 E H G (Q .ret)) : Ok N base w0 E H G (Code.ret.wp P Q) := fun a w he hw => wp_ret (h a w he hw)
theorem ok_skip (h : Ok N base w0 E H G (Q .normal)) : Ok N base w0 E H G (Code.skip.wp P Q) := fun a w he hw => wp_skip (h a w he hw)
theorem ok_region {i : Nat} {l : List Oper} (h : Ok N base w0 E H G (wpList P l.toArray Q l)) : Ok N base w0 E H G ((Code.region i l.toArray false).wp P Q) := fun a w he hw => wp_region_lit (h a w he hw)
theorem ok_nil {ops : Array Oper} (h : Ok N base w0 E H G (Q .normal)) : Ok N base w0 E H G (wpList P ops Q []) := fun a w he hw => wpList_nil (h a w he hw)
theorem ok_cond {c : Operand} {x y : Code} {t : Bool} (hc : opd E c = some (.bool t)) (h1 : t = true → Ok N base w0 E H G (x.wp P Q)) (h2 : t = false → Ok N base w0 E H G (y.wp P Q)) : Ok N base w0 E H G ((Code.cond c x y).wp P Q) := fun a w he hw =>
  wp_cond_split (he.eval hc) (fun h => h1 h a w he hw) (fun h => h2 h a w he hw)
def Sub : Env → Env → Prop
  | [], _ => True
  | p :: E', E => look E p.1 = some p.2 ∧ Sub E' E
theorem Sub.look : ∀ {E' E : Env}, Sub E' E → ∀ t v, look E' t = some v → Go.Proofs.YtmfojbidojjciaaGreat.look E t = some v
  | [], _, _, _, _, h => by cases h
  | (s, u) :: E', E, hs, t, v, h => by
    simp only [Go.Proofs.YtmfojbidojjciaaGreat.look] at h
    split at h
    · rename_i hb
      have : s = t := Nat.eq_of_beq_eq_true hb
      cases h; rw [← this]; exact hs.1
    · exact hs.2.look t v h
theorem EnvOk.sub {E' : Env} {a : Act} (h : EnvOk N E a) (hs : Sub E' E) : EnvOk N E' a := ⟨h.defers, h.size, fun t v hv => h.at_ t v (hs.look t v hv)⟩
theorem ok_env (E' : Env) (hs : Sub E' E) (h : Ok N base w0 E' H G K) : Ok N base w0 E H G K := fun a w he hw => h a w (he.sub hs) hw
theorem ok_sel (is : List Nat) (hn : is.Nodup) {H' : List HObj} (hs : H' = is.filterMap (fun i => H[i]?)) (h : Ok N base w0 E H' G K) : Ok N base w0 E H G K :=
  fun a w he hw => h a w he (hw.sel is hn hs (fun _ h => h))
theorem least (p : Nat → Prop) : ∀ n, p n → ∃ m, p m ∧ ∀ k, p k → m ≤ k := fun n => by
  induction n using Nat.strongRecOn with
  | _ n ih =>
    intro hn
    by_cases h : ∃ k, k < n ∧ p k
    · obtain ⟨k, hk, hp⟩ := h; exact ih k hk hp
    · exact ⟨n, hn, fun k hk => by
        rcases Nat.lt_or_ge k n with h' | h'
        · exact absurd ⟨k, h', hk⟩ h
        · exact h'⟩
structure Sat (N base : Nat) (w0 : World) (E : Env) (H : List HObj) (G : List World) (a : Act) (w : World) : Prop where
  env : EnvOk N E a
  mem : WOk base w0 H G w
theorem ok_loop {ι : Type} (μ : ι → Nat) (X : ι → Env × List HObj × List World) {body : Code} (i0 : ι)
    (h0 : ∀ a w, EnvOk N E a → WOk base w0 H G w → ∃ j, Sat N base w0 (X j).1 (X j).2.1 (X j).2.2 a w)
    (h : ∀ i, Ok N base w0 (X i).1 (X i).2.1 (X i).2.2 (body.wp P (Exit.then (fun a w => ∃ j, μ j < μ i ∧ Sat N base w0 (X j).1 (X j).2.1 (X j).2.2 a w) Q))) :
    Ok N base w0 E H G ((Code.loop body).wp P Q) := fun a w he hw => by
  classical
  let I : Act → World → Prop := fun a w => ∃ n, ∃ j, μ j = n ∧ Sat N base w0 (X j).1 (X j).2.1 (X j).2.2 a w
  have hm : ∀ a w, I a w → ∃ n, (∃ j, μ j = n ∧ Sat N base w0 (X j).1 (X j).2.1 (X j).2.2 a w) ∧ ∀ k, (∃ j, μ j = k ∧ Sat N base w0 (X j).1 (X j).2.1 (X j).2.2 a w) → n ≤ k := fun a w hI => by
    obtain ⟨n, hn⟩ := hI
    exact least _ n hn
  refine wp_loop I (fun a w => if hI : I a w then Classical.choose (hm a w hI) else 0) ?_ ?_
  · obtain ⟨j, hj⟩ := h0 a w he hw; exact ⟨_, j, rfl, hj⟩
  · intro a w hI
    obtain ⟨⟨j, hj, hs⟩, _⟩ := Classical.choose_spec (hm a w hI)
    refine Code.wp_mono ?_ (h j a w hs.env hs.mem)
    intro e a' w' hq
    cases e with
    | normal =>
      obtain ⟨j', hlt, hs'⟩ := hq
      have hI' : I a' w' := ⟨_, j', rfl, hs'⟩
      refine ⟨hI', ?_⟩
      simp only [dif_pos hI, dif_pos hI']
      have := (Classical.choose_spec (hm a' w' hI')).2 (μ j') ⟨j', rfl, hs'⟩
      omega
    | _ => exact hq
def initE : Nat → List Value → Env
  | _, [] => []
  | i, v :: l => (i, v) :: initE (i + 1) l
theorem look_initE : ∀ (l : List Value) (i t : Nat) (v : Value), look (initE i l) t = some v → i ≤ t ∧ l[t - i]? = some v
  | [], i, t, v, h => by cases h
  | u :: l, i, t, v, h => by
    simp only [initE, look] at h
    split at h
    · rename_i hb
      have : i = t := Nat.eq_of_beq_eq_true hb
      subst this; cases h; simp
    · rename_i hb
      have hne : i ≠ t := fun e => by subst e; simp [Nat.beq_refl] at hb
      obtain ⟨h1, h2⟩ := look_initE l (i + 1) t v h
      refine ⟨by omega, ?_⟩
      obtain ⟨d, hd⟩ : ∃ d, t - i = d + 1 := ⟨t - i - 1, by omega⟩
      rw [hd, List.getElem?_cons_succ, ← h2]; congr 1; omega
theorem ok_enter {f : FuncId} {fn : Func} {c : Code} {args : List Value} {w : World} {R : Ending → World → Prop} (N : Nat) (hf : P.funcs[f]? = some fn) (hb : fn.body = some c) (hn : fn.ntmps = N) (hl : Nat.ble args.length N = true)
    (h : Ok N w.heap.size w (initE 0 args) [] [w] (c.wp P (bodyPost P fn R))) : Calls P f args.toArray w R := by
  have hl' : args.length ≤ N := Nat.le_of_ble_eq_true hl
  refine calls_of_wp hf hb (h _ _ ⟨rfl, ?_, ?_⟩ ⟨Below.refl _ _, Nat.le_refl _, (fun x h => (by cases h)), List.Pairwise.nil, ?_⟩)
  · simp [hn]; omega
  · intro t v hv
    obtain ⟨_, h2⟩ := look_initE args 0 t v hv
    have hlt := (List.getElem?_eq_some_iff.1 h2).1
    simp only [Nat.sub_zero] at h2 hlt
    rw [Array.getElem?_append_left (by simpa using hlt)]
    simpa using h2
  · intro m hm p u hp
    cases hm with
    | head => exact ⟨hp, (fun x h => (by cases h))⟩
    | tail _ h => exact (by cases h)
end
end Go.Proofs.YtmfojbidojjciaaGreat
namespace Go.Proofs.YtmfojbidojjciaaGreat
open Go.RowKit
def ldB (P : Program) (t : TypeId) : Option (Nat × Bool) := match P.underlying t, P.info? t with
  | some (.struct _), some i => some (i.size, true)
  | some (.array _ _), some i => some (i.size, true)
  | some _, some i => some (i.size, false)
  | _, _ => none
def foB (P : Program) (s f : Nat) : Option Nat := match P.underlying s with
  | some (.struct fs) => match fs[f]? with
    | some fd => match P.info? fd.type with
      | some i => if i.size = 0 then none else some fd.offset
      | none => none
    | none => none
  | _ => none
def zvB (P : Program) (t : TypeId) : Option (Array Value) := match P.info? t with
  | some i => i.zero.map (·.cells)
  | none => none
class LD (P : Program) (t : TypeId) (sz : outParam Nat) (ag : outParam Bool) : Prop where h : ldB P t = some (sz, ag)
class FO (P : Program) (s f : Nat) (off : outParam Nat) : Prop where h : foB P s f = some off
class ZV (P : Program) (t : TypeId) (cs : outParam (List Value)) : Prop where h : zvB P t = some cs.toArray
def SlP (P : Program) (t e size bytes : Nat) : Prop := P.underlying t = some (.slice e) ∧ 0 < size ∧ ∃ i z, P.info? e = some i ∧ i.zero = some z ∧ i.size = size ∧ i.bytes = bytes ∧ z.cells.size = size
def elB (P : Program) (t : TypeId) : Option (Nat × Nat × Nat) := match P.underlying t with
  | some (.slice e) => match P.info? e with
    | some i => match i.zero with
      | some z => if z.cells.size = i.size ∧ 0 < i.size then some (e, i.size, i.bytes) else none
      | none => none
    | none => none
  | _ => none
class EL (P : Program) (t : TypeId) (e sz bytes : outParam Nat) : Prop where k : elB P t = some (e, sz, bytes)
theorem EL.h {P : Program} {t e sz bytes : Nat} (h : EL P t e sz bytes) : SlP P t e sz bytes := by
  have h := h.k
  unfold elB at h
  split at h
  case h_2 => cases h
  rename_i e' hu
  split at h
  case h_2 => cases h
  rename_i i hi
  split at h
  case h_2 => cases h
  rename_i z hz
  split at h
  case isFalse => cases h
  rename_i hc
  cases h
  exact ⟨hu, hc.2, i, z, hi, hz, rfl, rfl, hc.1⟩
class IK (P : Program) (t : TypeId) (k : outParam IntKind) : Prop where h : P.underlying t = some (.int k)
class SS (P : Program) (t : TypeId) : Prop where h : P.underlying t = some .string
class FN (P : Program) (f : FuncId) : Prop where h : ∃ fn c, P.funcs[f]? = some fn ∧ (fn.name == "runtime.NumGoroutine") = false ∧ fn.body = some c
@[irreducible] def pt (A : Option Addr) (k : Nat) : Value := .pointer (A.map (·.add k))
def ga (g : Nat) : Option Addr := some ⟨g, 0, none⟩
def IsS (A : Option Addr) : Prop := ∃ ad, A = some ad
theorem isS_ga (g : Nat) : IsS (ga g) := ⟨_, rfl⟩
theorem isS_some (a : Addr) : IsS (some a) := ⟨_, rfl⟩
theorem isS_rd {m : World} {A : Option Addr} {us : List Value} (h : Rd m A us) (hl : 0 < us.length) : IsS A := by
  obtain ⟨ad, e, _⟩ := h.at_ hl; exact ⟨ad, e⟩
theorem ga_add (g k : Nat) : (⟨g, 0, none⟩ : Addr).add k = ⟨g, k, none⟩ := by unfold Addr.add; split <;> simp_all

def IsSW (H : List HObj) (G : List World) (A : Option Addr) : Prop := ∀ base w0 w, WOk base w0 H G w → IsS A
theorem isw_ga {H : List HObj} {G : List World} (g : Nat) : IsSW H G (ga g) := fun _ _ _ _ => isS_ga g
theorem isw_some {H : List HObj} {G : List World} (a : Addr) : IsSW H G (some a) := fun _ _ _ _ => isS_some a
theorem isw_of {H : List HObj} {G : List World} {A : Option Addr} (h : IsS A) : IsSW H G A := fun _ _ _ _ => h
theorem isw_row {H : List HObj} {G : List World} {A : Option Addr} {e sz n c : Nat} {us : List Value} (i : Nat) (hi : H[i]? = some (.row e sz A n c us)) (hn : 0 < n) : IsSW H G A := fun base w0 w hw => by
  obtain ⟨_, ⟨_, h0⟩ | ⟨g, cap, cur, hv, _⟩⟩ := hw.own _ (List.mem_of_getElem? hi)
  · omega
  · injection hv with hA; exact ⟨_, hA⟩
def Cell (H : List HObj) (G : List World) (A : Option Addr) (k : Nat) (u : Value) : Prop := ∀ base w0 w, WOk base w0 H G w → ∃ ad, A = some ad ∧ w.cell? (ad.add k) = some u
def Rds (H : List HObj) (G : List World) (A : Option Addr) (us : List Value) : Prop := ∀ base w0 w, WOk base w0 H G w → Rd w A us
section
variable {H : List HObj} {G : List World} {A : Option Addr} {k : Nat} {u : Value} {us : List Value}
theorem Rds.cell (h : Rds H G A us) (hu : us[k]? = some u) : Cell H G A k u := fun base w0 w hw => h base w0 w hw k u hu
theorem rds_box {g e : Nat} {cs : List Value} (i : Nat) (hi : H[i]? = some (.box g e cs)) : Rds H G (ga g) cs := fun base w0 w hw j u hu => by
  have := (hw.own _ (List.mem_of_getElem? hi)).2
  refine ⟨_, rfl, ?_⟩
  rw [ga_add, cell_of_row _ _ j _ _ _ this]
  simpa using hu
theorem rds_row {e sz n c : Nat} (i : Nat) (hi : H[i]? = some (.row e sz A n c us)) : Rds H G A us := fun base w0 w hw => Rd.of_own (hw.own _ (List.mem_of_getElem? hi))
theorem rds_ref {m : World} (hm : m ∈ G) (h : Rd m A us) : Rds H G A us := fun base w0 w hw j u hu => by
  obtain ⟨ad, e, hc⟩ := h j u hu
  exact ⟨ad, e, (hw.ref m hm _ _ hc).1⟩
theorem Rds.sub {i n : Nat} (h : Rds H G A us) : Rds H G (A.map (·.add i)) ((us.drop i).take n) := fun base w0 w hw => by
  have := h base w0 w hw
  rcases A with _ | ad
  · have h0 : us = [] := by
      rcases us with _ | ⟨u, l⟩
      · rfl
      · obtain ⟨_, e, _⟩ := this 0 u rfl; cases e
    subst h0; simp; exact Rd.nil _ _
  · exact (this.drop i).take n
end

def PStep (P : Program) (E : Env) (H : List HObj) (G : List World) (o : Oper) (v : Value) : Prop := ∀ N base w0 a w, EnvOk N E a → WOk base w0 H G w → (execOp a.eval o).run P w = .ok (.value v) w
def gv (p : Bool) (v : Value) : Value := match p with
  | true => v
  | false => undef
theorem og {E : Env} {x : Operand} {p : Bool} {v : Value} (h : opd E x = some (gv p v)) (hp : p = true) : opd E x = some v := by subst hp; exact h
section
variable {P : Program} {N base : Nat} {w0 : World} {E : Env} {H : List HObj} {G : List World} {Q : Exit → Act → World → Prop} {o : Oper} {rest : List Oper} {ops : Array Oper}
theorem ok_p {v : Value} (hg : o.guard = none) {td : Nat} (hdt : o.dst = some td) (hd : Nat.blt td N = true) (hs : PStep P E H G o v) (h : Ok N base w0 ((td, v) :: E) H G (wpList P ops Q rest)) :
    Ok N base w0 E H G (wpList P ops Q (o :: rest)) := fun a w he hw => by
  have hr := hs N base w0 a w he hw
  refine wpList_plain hg fun K hK => ?_
  unfold Oper.wp; rw [hr]; exact hK _ _ (h _ _ (he.put' hdt hd v) hw)
theorem yielded_of {a : Act} {j d : Nat} {v : Value} (he : EnvOk N E a) (hj : (ops[j]?).bind (·.dst) = some d) (hv : look E d = some v) : yielded ops a.tmps j = match v with | .bool b => some b | _ => none := by
  have h1 := he.at_ d v hv
  unfold yielded
  rw [hj]
  simp only [Option.bind_some, h1]
  cases v <;> rfl
theorem wanted_of {a : Act} {j d : Nat} {want p c : Bool} (he : EnvOk N E a) (hg : o.guard = some (j, want)) (hj : (ops[j]?).bind (·.dst) = some d) (hv : look E d = some (gv p (.bool c))) :
    Region.wanted o (yielded ops a.tmps) = (p && (c == want)) := by
  unfold Region.wanted
  rw [hg]
  simp only [yielded_of he hj hv]
  cases p <;> cases c <;> cases want <;> rfl
theorem ok_pg_at {v : Value} {p : Bool} (hw' : ∀ a, EnvOk N E a → Region.wanted o (yielded ops a.tmps) = p) {td : Nat} (hdt : o.dst = some td) (hd : Nat.blt td N = true) (hs : p = true → PStep P E H G o v)
    (h : Ok N base w0 ((td, (gv p v)) :: E) H G (wpList P ops Q rest)) : Ok N base w0 E H G (wpList P ops Q (o :: rest)) := fun a w he hw => by
  refine wpList_step fun K hK => ?_
  rw [hw' a he]
  cases p with
  | true =>
    have hr := hs rfl N base w0 a w he hw
    rw [if_pos rfl]
    unfold Oper.wp; rw [hr]; exact hK _ _ (h _ _ (he.put' hdt hd v) hw)
  | false => rw [if_neg (by simp)]; exact hK _ _ (h _ _ (he.put' hdt hd undef) hw)
theorem ok_pg {v : Value} {j d : Nat} {want c : Bool} (hg : o.guard = some (j, want)) (hj : (ops[j]?).bind (·.dst) = some d) (hv : look E d = some (.bool c)) {td : Nat} (hdt : o.dst = some td) (hd : Nat.blt td N = true)
    {p : Bool} (hp : (c == want) = p) (hs : p = true → PStep P E H G o v)
    (h : Ok N base w0 ((td, (gv p v)) :: E) H G (wpList P ops Q rest)) : Ok N base w0 E H G (wpList P ops Q (o :: rest)) :=
  ok_pg_at (fun a he => by rw [wanted_of (p := true) he hg hj hv, Bool.true_and, hp]) hdt hd hs h
theorem ok_pgg {v : Value} {j d : Nat} {want c q : Bool} (hg : o.guard = some (j, want)) (hj : (ops[j]?).bind (·.dst) = some d) (hv : look E d = some (gv q (.bool c))) {td : Nat} (hdt : o.dst = some td) (hd : Nat.blt td N = true)
    {p : Bool} (hp : (c == want) = p) (hs : q = true → p = true → (q && p) = true → PStep P E H G o v)
    (h : Ok N base w0 ((td, (gv (q && p) v)) :: E) H G (wpList P ops Q rest)) : Ok N base w0 E H G (wpList P ops Q (o :: rest)) :=
  ok_pg_at (fun a he => by rw [wanted_of (p := q) he hg hj hv, hp]) hdt hd (fun hqp => by
    have := (Bool.and_eq_true _ _).mp hqp
    exact hs this.1 this.2 hqp) h
theorem gF (c : Bool) : (c == false) = !c := by cases c <;> rfl
theorem gT (c : Bool) : (c == true) = c := by cases c <;> rfl
end
section
variable {P : Program} {E : Env} {H : List HObj} {G : List World} {o : Oper}
theorem ps_move {x : Operand} {v : Value} (ho : o.op = .move x) (hx : opd E x = some v) : PStep P E H G o v := fun N base w0 a w he hw => by
  simp [execOp, ho, he.eval hx]
theorem ps_assign {x : Operand} {v : Value} (ho : o.op = .assign x) (hx : opd E x = some v) : PStep P E H G o v := fun N base w0 a w he hw => by
  simp [execOp, ho, he.eval hx]
theorem ps_not {x : Operand} {t : TypeId} {b : Bool} (ho : o.op = .unOp .not t x) (hx : opd E x = some (.bool b)) : PStep P E H G o (.bool !b) := fun N base w0 a w he hw => by
  simp [execOp, ho, he.eval hx, Op.unary]
theorem ps_or {c x : Operand} {b y : Bool} (ho : o.op = .pick c (.const (.bool true)) x) (hc : opd E c = some (.bool b)) (hx : opd E x = some (gv (!b) (.bool y))) : PStep P E H G o (.bool (b || y)) := fun N base w0 a w he hw => by
  have : a.eval (.const (.bool true)) = .bool true := rfl
  cases b <;> simp [execOp, ho, he.eval hc, he.eval hx, this, asBool, gv]
theorem ps_or_in {c x : Operand} {q b y : Bool} (hq : q = true) (ho : o.op = .pick c (.const (.bool true)) x) (hc : opd E c = some (gv q (.bool b))) (hx : opd E x = some (gv (q && !b) (.bool y))) : PStep P E H G o (.bool (b || y)) := by
  subst hq; exact ps_or ho hc (by rw [hx, Bool.true_and])
theorem ps_and {c x : Operand} {b y : Bool} (ho : o.op = .pick c x (.const (.bool false))) (hc : opd E c = some (.bool b)) (hx : opd E x = some (gv b (.bool y))) : PStep P E H G o (.bool (b && y)) := fun N base w0 a w he hw => by
  have : a.eval (.const (.bool false)) = .bool false := rfl
  cases b <;> simp [execOp, ho, he.eval hc, he.eval hx, this, asBool, gv]
theorem ps_and_in {c x : Operand} {q b y : Bool} (hq : q = true) (ho : o.op = .pick c x (.const (.bool false))) (hc : opd E c = some (gv q (.bool b))) (hx : opd E x = some (gv (q && b) (.bool y))) : PStep P E H G o (.bool (b && y)) := by
  subst hq; exact ps_and ho hc (by rw [hx, Bool.true_and])
theorem ps_pick_t {c x y : Operand} {b : Bool} {v : Value} (ho : o.op = .pick c x y) (hc : opd E c = some (.bool b)) (hb : b = true) (hx : opd E x = some v) : PStep P E H G o v := fun N base w0 a w he hw => by
  subst hb; simp [execOp, ho, he.eval hc, he.eval hx, asBool]
theorem ps_pick_f {c x y : Operand} {b : Bool} {v : Value} (ho : o.op = .pick c x y) (hc : opd E c = some (.bool b)) (hb : b = false) (hy : opd E y = some v) : PStep P E H G o v := fun N base w0 a w he hw => by
  subst hb; simp [execOp, ho, he.eval hc, he.eval hy, asBool]
def intOp : BinOp → IntKind → Int → Int → Option Value
  | .add, k, x, y => some (.int k (k.wrap (x + y)))
  | .sub, k, x, y => some (.int k (k.wrap (x - y)))
  | .mul, k, x, y => some (.int k (k.wrap (x * y)))
  | .eql, k, x, y => some (.bool (x == y))
  | .neq, k, x, y => some (.bool (x != y))
  | .lss, k, x, y => some (.bool (decide (x < y)))
  | .leq, k, x, y => some (.bool (decide (x ≤ y)))
  | .gtr, k, x, y => some (.bool (decide (y < x)))
  | .geq, k, x, y => some (.bool (decide (y ≤ x)))
  | .and, k, x, y => some (.int k (k.wrap (BitVec.ofInt k.bits x &&& BitVec.ofInt k.bits y).toNat))
  | .or, k, x, y => some (.int k (k.wrap (BitVec.ofInt k.bits x ||| BitVec.ofInt k.bits y).toNat))
  | .xor, k, x, y => some (.int k (k.wrap (BitVec.ofInt k.bits x ^^^ BitVec.ofInt k.bits y).toNat))
  | _, _, _, _ => none
theorem ps_int {p : BinOp} {x y : Operand} {t t' : TypeId} {k : IntKind} {m n : Int} {v : Value} (ho : o.op = .binOp p t x y t') (hx : opd E x = some (.int k m)) (hy : opd E y = some (.int k n)) (hv : intOp p k m n = some v) : PStep P E H G o v := fun N base w0 a w he hw => by
  cases p <;> simp only [intOp, Option.some.injEq, reduceCtorEq] at hv <;> subst hv <;>
    simp [execOp, ho, he.eval hx, he.eval hy, eqGuard, binOp, Op.intArith, Op.intCmp, Op.intBits]
theorem ps_add {x y : Operand} {t t' : TypeId} {m n : Int} (ho : o.op = .binOp .add t x y t') (hx : opd E x = some (.int .i64 m)) (hy : opd E y = some (.int .i64 n)) (h : -9223372036854775808 ≤ m + n ∧ m + n ≤ 9223372036854775807) : PStep P E H G o (.int .i64 (m + n)) :=
  ps_int ho hx hy (by rw [intOp, IntWalk.i64_in _ h])
theorem ps_sub {x y : Operand} {t t' : TypeId} {m n : Int} (ho : o.op = .binOp .sub t x y t') (hx : opd E x = some (.int .i64 m)) (hy : opd E y = some (.int .i64 n)) (h : -9223372036854775808 ≤ m - n ∧ m - n ≤ 9223372036854775807) : PStep P E H G o (.int .i64 (m - n)) :=
  ps_int ho hx hy (by rw [intOp, IntWalk.i64_in _ h])
theorem ps_mul {x y : Operand} {t t' : TypeId} {m n : Int} (ho : o.op = .binOp .mul t x y t') (hx : opd E x = some (.int .i64 m)) (hy : opd E y = some (.int .i64 n)) (h : -9223372036854775808 ≤ m * n ∧ m * n ≤ 9223372036854775807) : PStep P E H G o (.int .i64 (m * n)) :=
  ps_int ho hx hy (by rw [intOp, IntWalk.i64_in _ h])
theorem ps_rem {x y : Operand} {t t' : TypeId} {k : IntKind} {m n : Int} (ho : o.op = .binOp .rem t x y t') (hx : opd E x = some (.int k m)) (hy : opd E y = some (.int k n)) (hn : n ≠ 0) (hm : 0 ≤ m) : PStep P E H G o (.int k (m % n)) := fun N base w0 a w he hw => by
  simp [execOp, ho, he.eval hx, he.eval hy, eqGuard, binOp, Op.intDiv, hn, IntWalk.rem_in _ _ hm]
theorem ps_quo {x y : Operand} {t t' : TypeId} {m n : Int} (ho : o.op = .binOp .quo t x y t') (hx : opd E x = some (.int .i64 m)) (hy : opd E y = some (.int .i64 n)) (hn : 0 < n) (hm : 0 ≤ m ∧ m ≤ 9223372036854775807) : PStep P E H G o (.int .i64 (m / n)) := fun N base w0 a w he hw => by
  have h1 : m.tdiv n = m / n := Int.tdiv_eq_ediv_of_nonneg hm.1
  have h2 : 0 ≤ m / n := Int.ediv_nonneg hm.1 (by omega)
  have h3 : m / n ≤ m := Int.ediv_le_self _ hm.1
  have h0 : n ≠ 0 := by omega
  simp [execOp, ho, he.eval hx, he.eval hy, eqGuard, binOp, Op.intDiv, h0, h1, IntWalk.i64_in (m / n) (by omega)]
theorem ps_shr {x y : Operand} {t t' : TypeId} {k k' : IntKind} {m n : Int} (ho : o.op = .binOp .shr t x y t') (hx : opd E x = some (.int k m)) (hy : opd E y = some (.int k' n)) (hn : 0 ≤ n ∧ n < k.bits) : PStep P E H G o (.int k (m.fdiv (2 ^ n.toNat))) := fun N base w0 a w he hw => by
  have h0 : ¬ n < 0 := by omega
  have h1 : min n.toNat k.bits = n.toNat := by omega
  simp [execOp, ho, he.eval hx, he.eval hy, eqGuard, binOp, Op.shift, h0, h1]
theorem ps_shl {x y : Operand} {t t' : TypeId} {k k' : IntKind} {m n : Int} (ho : o.op = .binOp .shl t x y t') (hx : opd E x = some (.int k m)) (hy : opd E y = some (.int k' n)) (hn : 0 ≤ n ∧ n < k.bits) : PStep P E H G o (.int k (k.wrap (m * 2 ^ n.toNat))) := fun N base w0 a w he hw => by
  have h0 : ¬ n < 0 := by omega
  have h1 : min n.toNat k.bits = n.toNat := by omega
  simp [execOp, ho, he.eval hx, he.eval hy, eqGuard, binOp, Op.shift, h0, h1]
theorem ps_conv {x : Operand} {s t : TypeId} {k k' : IntKind} {n : Int} [hk : IK P t k] [hk' : IK P s k'] (ho : o.op = .convert s t x) (hx : opd E x = some (.int k' n)) : PStep P E H G o (.int k (k.wrap n)) := fun N base w0 a w he hw => by
  simp [execOp, ho, he.eval hx, convert, run_underlying hk.h, run_underlying hk'.h, Conv.intToInt]
theorem ps_conv_id {x : Operand} {s t : TypeId} {k k' : IntKind} {n : Int} [hk : IK P t k] [hk' : IK P s k'] (ho : o.op = .convert s t x) (hx : opd E x = some (.int k' n)) (hn : k.wrap n = n) : PStep P E H G o (.int k n) := fun N base w0 a w he hw => by
  rw [ps_conv ho hx N base w0 a w he hw, hn]
theorem run_eqGuard_bool (w : World) (p : BinOp) (t : TypeId) (x y : Operand) (b c : Bool) : (eqGuard p t x y (.bool b) (.bool c)).run P w = .ok () w := by
  unfold eqGuard
  cases p <;> rfl
theorem ps_bool_neq {x y : Operand} {t t' : TypeId} {b c : Bool} (ht : P.underlying t = some .bool) (ho : o.op = .binOp .neq t x y t') (hx : opd E x = some (.bool b)) (hy : opd E y = some (.bool c)) : PStep P E H G o (.bool (!(b == c))) := fun N base w0 a w he hw => by
  unfold execOp
  simp only [ho, he.eval hx, he.eval hy, Sem.run_bind, run_eqGuard_bool, Result.andThen_ok, run_neq_bool w t b c ht, Sem.run_pure]
theorem ps_sadd {x y : Operand} {t t' : TypeId} {s r : ByteArray} (ho : o.op = .binOp .add t x y t') (hx : opd E x = some (.string s)) (hy : opd E y = some (.string r)) (h : s.size + r.size ≤ 9223372036854775807) : PStep P E H G o (.string (s ++ r)) := fun N base w0 a w he hw => by
  have : ¬ (9223372036854775807 < (s.size : Int) + (r.size : Int)) := by omega
  simp [execOp, ho, he.eval hx, he.eval hy, eqGuard, binOp, Op.stringOp, IntKind.max, IntKind.bits, IntKind.signed, this]
def strOp : BinOp → ByteArray → ByteArray → Option Value
  | .eql, x, y => some (.bool (sEq x y))
  | .neq, x, y => some (.bool !(sEq x y))
  | .lss, x, y => some (.bool (sLt x y))
  | .leq, x, y => some (.bool !(sLt y x))
  | .gtr, x, y => some (.bool (sLt y x))
  | .geq, x, y => some (.bool !(sLt x y))
  | _, _, _ => none
theorem sLt_or_eq (x y : ByteArray) : (sLt x y || sEq x y) = !sLt y x := by
  rcases sLt_tri x y with h | h | h
  · rw [h, sLt_asymm h]; rfl
  · have := tl_inj h; subst this; simp [sLt_irrefl, sEq]
  · rw [h, sLt_asymm h]
    have : sEq x y = false := by
      cases he : sEq x y with
      | false => rfl
      | true =>
        have : x = y := tl_inj (by simpa [sEq] using he)
        subst this; rw [sLt_irrefl] at h; cases h
    rw [this]; rfl
theorem ps_str {p : BinOp} {x y : Operand} {t t' : TypeId} {s r : ByteArray} {v : Value} (ho : o.op = .binOp p t x y t') (hx : opd E x = some (.string s)) (hy : opd E y = some (.string r)) (hv : strOp p s r = some v) : PStep P E H G o v := fun N base w0 a w he hw => by
  have h1 := sLt_or_eq s r
  have h2 : (!(Op.bytesLess s.toList r.toList || s.toList == r.toList)) = sLt r s := by
    show (!(sLt s r || sEq s r)) = _
    rw [h1]; simp
  have h3 : (Op.bytesLess s.toList r.toList || s.toList == r.toList) = !sLt r s := h1
  cases p <;> simp only [strOp, Option.some.injEq, reduceCtorEq] at hv <;> subst hv <;>
    simp only [execOp, ho, he.eval hx, he.eval hy, eqGuard, binOp, Op.stringOp, Sem.run_bind, Sem.run_pure, Result.andThen_ok, h2, h3] <;> first | rfl | (simp only [Bool.not_not]; rfl)
theorem ps_sidx {x y : Operand} {t : TypeId} {s : ByteArray} {k : IntKind} {i : Int} [ht : SS P t] (ho : o.op = .index t x y) (hx : opd E x = some (.string s)) (hy : opd E y = some (.int k i)) (h : 0 ≤ i ∧ i < s.size) : PStep P E H G o (.int .u8 ((s[i.toNat]!).toNat : Int)) := fun N base w0 a w he hw => by
  have hlt : i.toNat < s.size := by omega
  have h1 : s[i.toNat]? = some s[i.toNat] := getElem?_pos s _ hlt
  have h2 : s[i.toNat]! = s[i.toNat] := getElem!_pos s _ hlt
  simp [execOp, ho, he.eval hx, he.eval hy, Instr.index, asIntOf, run_underlying ht.h, h.1, h1, h2]
theorem ps_slen {x : Operand} {t : TypeId} {s : ByteArray} [ht : SS P t] (ho : o.op = .call { callee := .builtin .len, args := #[x], argTypes := #[t] }) (hx : opd E x = some (.string s)) : PStep P E H G o (.int .i64 (s.size : Int)) := fun N base w0 a w he hw => by
  simp [execOp, ho, resolve, invoke, builtin, Builtin.len_, he.eval hx, run_underlying ht.h, goInt]
theorem ps_len {x : Operand} {t e sz bytes : TypeId} {A : Option Addr} {n c : Nat} [ht : EL P t e sz bytes] (ho : o.op = .call { callee := .builtin .len, args := #[x], argTypes := #[t] }) (hx : opd E x = some (.slice A n c)) : PStep P E H G o (.int .i64 (n : Int)) := fun N base w0 a w he hw => by
  simp [execOp, ho, resolve, invoke, builtin, Builtin.len_, he.eval hx, run_underlying ht.h.1, goInt]
theorem ps_min {x y : Operand} {tys : Array TypeId} {k : IntKind} {m n : Int} (ho : o.op = .call { callee := .builtin .min, args := #[x, y], argTypes := tys }) (hx : opd E x = some (.int k m)) (hy : opd E y = some (.int k n)) : PStep P E H G o (.int k (if n < m then n else m)) := fun N base w0 a w he hw => by
  simp [execOp, ho, resolve, invoke, builtin, Builtin.min_, Builtin.min2, he.eval hx, he.eval hy]
theorem ps_max {x y : Operand} {tys : Array TypeId} {k : IntKind} {m n : Int} (ho : o.op = .call { callee := .builtin .max, args := #[x, y], argTypes := tys }) (hx : opd E x = some (.int k m)) (hy : opd E y = some (.int k n)) : PStep P E H G o (.int k (if m < n then n else m)) := fun N base w0 a w he hw => by
  simp [execOp, ho, resolve, invoke, builtin, Builtin.max_, Builtin.max2, he.eval hx, he.eval hy]
theorem ps_extract {x : Operand} {i : Nat} {vs : List Value} {v : Value} (ho : o.op = .extract x i) (hx : opd E x = some (.tuple vs.toArray)) (hv : vs[i]? = some v) : PStep P E H G o v := fun N base w0 a w he hw => by
  have hv' : vs.toArray[i]? = some v := by simpa using hv
  simp only [execOp, ho, he.eval hx, Instr.extract, hv', Sem.run_bind, Sem.run_pure, Result.andThen_ok]
theorem ps_field {x : Operand} {s f off k : Nat} {A : Option Addr} [hf : FO P s f off] (ho : o.op = .fieldAddr s x f) (hx : opd E x = some (pt A k)) (hA : IsSW H G A) : PStep P E H G o (pt A (k + off)) := fun N base w0 a w he hw => by
  obtain ⟨ad, rfl⟩ := hA base w0 w hw
  have h := hf.h
  unfold foB at h
  split at h
  case h_2 => cases h
  rename_i fs hu
  split at h
  case h_2 => cases h
  rename_i fd hfd
  split at h
  case h_2 => cases h
  rename_i i hi
  split at h
  · cases h
  rename_i hsz
  cases h
  simp only [execOp, ho, he.eval hx, pt, Option.map_some, Instr.fieldAt, Sem.run_bind, run_underlying hu, Result.andThen_ok, hfd, Instr.sureAddr, Sem.run_pure, fieldPlace, sizeOf, typeInfo, run_program, hi, if_neg hsz, add_add']
theorem ps_index {x y : Operand} {t e sz bytes : TypeId} {A : Option Addr} {n c : Nat} {k : IntKind} {i : Int} [ht : EL P t e sz bytes] (ho : o.op = .indexAddr t x y) (hx : opd E x = some (.slice A n c)) (hy : opd E y = some (.int k i)) (h : 0 ≤ i ∧ i < n) (hA : IsSW H G A) : PStep P E H G o (pt A (i.toNat * sz)) := fun N base w0 a w he hw => by
  obtain ⟨ad, rfl⟩ := hA base w0 w hw
  obtain ⟨hu, _, inf, z, hi, _, hs, _⟩ := ht.h
  simp [execOp, ho, he.eval hx, he.eval hy, Instr.indexAt, asIntOf, run_underlying hu, h, sizeOf, typeInfo, hi, hs, pt]
theorem ps_load {x : Operand} {t sz k : Nat} {A : Option Addr} {u : Value} [hl : LD P t sz false] (ho : o.op = .load t x) (hx : opd E x = some (pt A k)) (hc : Cell H G A k u) : PStep P E H G o u := fun N base w0 a w he hw => by
  obtain ⟨ad, rfl, hcell⟩ := hc base w0 w hw
  have h := hl.h
  unfold ldB at h
  split at h
  · cases h
  · cases h
  · rename_i d i h1 h2 hu hi
    have : (isAgg t).run P w = .ok false w := by
      simp only [isAgg, Sem.run_bind, run_underlying hu, Result.andThen_ok]
      cases d <;> first | rfl | exact absurd rfl (h1 _) | exact absurd rfl (h2 _ _)
    simp [execOp, ho, he.eval hx, pt, Instr.loadAt, Instr.sureAddr, loadVar, this, load, Sem.run, hcell]
  · cases h
theorem ps_loads {x : Operand} {t sz k : Nat} {A : Option Addr} {us vs : List Value} [hl : LD P t sz true] (ho : o.op = .load t x) (hx : opd E x = some (pt A k)) (hc : Rds H G A us) (hv : (us.drop k).take sz = vs) (hn : vs.length = sz) (hz : 0 < sz) : PStep P E H G o (.agg vs.toArray) := fun N base w0 a w he hw => by
  have hr := hc base w0 w hw
  subst hv
  have hlen : 0 < us.length := by simp at hn; omega
  obtain ⟨ad, rfl, _⟩ := hr.at_ hlen
  have hr' := (hr.drop k).take sz
  have hls : (loadCells (ad.add k) sz).run P w = .ok ((us.drop k).take sz).toArray w := by
    have := run_loadCells_list (P := P) w (ad.add k) ((us.drop k).take sz) (fun j v hj => by
      obtain ⟨_, e, hcc⟩ := hr' j v hj; cases e; exact hcc)
    rwa [hn] at this
  have h := hl.h
  have key : ∀ i, P.info? t = some i → i.size = sz → (sizeOf t).run P w = .ok sz w := fun i hi hs => by
    simp [sizeOf, typeInfo, hi, hs]
  unfold ldB at h
  split at h
  · rename_i fs i hu hi
    injection h with h; injection h with h1 h2
    have : (isAgg t).run P w = .ok true w := by simp [isAgg, run_underlying hu]
    simp [execOp, ho, he.eval hx, pt, Instr.loadAt, Instr.sureAddr, loadVar, this, key i hi h1, hls]
  · rename_i n e i hu hi
    injection h with h; injection h with h1 h2
    have : (isAgg t).run P w = .ok true w := by simp [isAgg, run_underlying hu]
    simp [execOp, ho, he.eval hx, pt, Instr.loadAt, Instr.sureAddr, loadVar, this, key i hi h1, hls]
  · injection h with h; injection h with h1 h2; cases h2
  · cases h
theorem ps_nil {x : Operand} {A : Option Addr} {k : Nat} (ho : o.op = .nilCheck x) (hx : opd E x = some (pt A k)) (hA : IsSW H G A) : PStep P E H G o (pt A k) := fun N base w0 a w he hw => by
  obtain ⟨ad, rfl⟩ := hA base w0 w hw
  simp [execOp, ho, he.eval hx, pt]
end
end Go.Proofs.YtmfojbidojjciaaGreat
namespace Go.Proofs.YtmfojbidojjciaaGreat
open Go.RowKit
def MStep (P : Program) (E : Env) (H : List HObj) (G : List World) (o : Oper) (F : Ys → Prop) (v : Ys → Value) (H' : Ys → List HObj) (G' : Ys → List World) : Prop :=
  ∀ N base w0 a w Q (K : Act → World → Prop), EnvOk N E a → WOk base w0 H G w → (∀ y w', F y → WOk base w0 (H' y) (G' y) w' → K (a.put o.dst (v y)) w') → o.wp P a w K Q
def mkY (A : Option Addr) (c : Nat) (w : World) : Ys := fun _ => ⟨A, c, w, 0⟩
def mkN (n : Int) (w : World) : Ys := fun _ => ⟨none, 0, w, n⟩
def yl (l : List Ya) (d : Ya) : Ys := fun i => l.getD i d
theorem NewOk.one {L : Nat} {x : HObj} {w : World} (h : x.holds L w) : NewOk L [x] [] w := ⟨fun y hy => by
  rcases List.mem_singleton.1 hy with rfl
  exact h, by simp, (fun m h => (by cases h))⟩
section
variable {P : Program} {N base : Nat} {w0 : World} {E : Env} {H : List HObj} {G : List World} {Q : Exit → Act → World → Prop} {o : Oper} {rest : List Oper} {ops : Array Oper} {F : Ys → Prop} {v : Ys → Value} {H' : Ys → List HObj} {G' : Ys → List World}
theorem ok_m (hg : o.guard = none) {td : Nat} (hdt : o.dst = some td) (hd : Nat.blt td N = true) (hs : MStep P E H G o F v H' G') (h : ∀ y, F y → Ok N base w0 ((td, v y) :: E) (H' y) (G' y) (wpList P ops Q rest)) :
    Ok N base w0 E H G (wpList P ops Q (o :: rest)) := fun a w he hw => by
  refine wpList_plain hg fun K hK => ?_
  exact hs N base w0 a w Q K he hw fun y w' hF hw' => hK _ _ (h y hF _ _ (he.put' hdt hd _) hw')
theorem ok_m_ (hg : o.guard = none) (hd : o.dst = none) (hs : MStep P E H G o F v H' G') (h : ∀ y, F y → Ok N base w0 E (H' y) (G' y) (wpList P ops Q rest)) :
    Ok N base w0 E H G (wpList P ops Q (o :: rest)) := fun a w he hw => by
  refine wpList_plain hg fun K hK => ?_
  exact hs N base w0 a w Q K he hw fun y w' hF hw' => hK _ _ (h y hF _ _ (he.put0 hd _) hw')
theorem ok_m_yes {j d : Nat} {want c p : Bool} (hg : o.guard = some (j, want)) (hj : (ops[j]?).bind (·.dst) = some d) (hv : look E d = some (gv p (.bool c))) (hp : (p && (c == want)) = true) {td : Nat} (hdt : o.dst = some td) (hd : Nat.blt td N = true) (hs : MStep P E H G o F v H' G')
    (h : ∀ y, F y → Ok N base w0 ((td, v y) :: E) (H' y) (G' y) (wpList P ops Q rest)) : Ok N base w0 E H G (wpList P ops Q (o :: rest)) := fun a w he hw => by
  refine wpList_step fun K hK => ?_
  rw [wanted_of he hg hj hv, hp, if_pos rfl]
  exact hs N base w0 a w Q K he hw fun y w' hF hw' => hK _ _ (h y hF _ _ (he.put' hdt hd _) hw')
theorem ok_m_no {j d : Nat} {want c p : Bool} (hg : o.guard = some (j, want)) (hj : (ops[j]?).bind (·.dst) = some d) (hv : look E d = some (gv p (.bool c))) (hp : (p && (c == want)) = false) {td : Nat} (hdt : o.dst = some td) (hd : Nat.blt td N = true)
    (h : Ok N base w0 ((td, undef) :: E) H G (wpList P ops Q rest)) : Ok N base w0 E H G (wpList P ops Q (o :: rest)) := fun a w he hw => by
  refine wpList_step fun K hK => ?_
  rw [wanted_of he hg hj hv, hp, if_neg (by simp)]
  exact hK _ _ (h _ _ (he.put' hdt hd _) hw)
theorem ms_of {v0 : Value} (h : ∀ N base w0 a w, EnvOk N E a → WOk base w0 H G w → ∃ y w', F y ∧ (execOp a.eval o).run P w = .ok (.value (v y)) w' ∧ WOk base w0 (H' y) (G' y) w') : MStep P E H G o F v H' G' := fun N base w0 a w Q K he hw hK => by
  obtain ⟨y, w', hF, hr, hw'⟩ := h N base w0 a w he hw
  unfold Oper.wp; rw [hr]; exact hK y w' hF hw'
theorem wok_new {w : World} (hw : WOk base w0 H G w) (e : TypeId) (cs : List Value) {sz n : Nat} : WOk base w0 (.box w.heap.size e cs :: H) G (w.alloc (.cells cs.toArray e)) :=
  hw.grow (Hn := [.box w.heap.size e cs]) (Gn := []) ((Below.refl _ _).alloc (Nat.le_refl _) _)
    (NewOk.one ⟨Nat.le_refl _, heap_alloc_new w _⟩)
theorem wok_new_row {w : World} (hw : WOk base w0 H G w) (e sz n : Nat) (us : List Value) (hl : us.length = n * sz) (hm : n ≤ maxLen) : WOk base w0 (.row e sz (ga w.heap.size) n n us :: H) G (w.alloc (.cells us.toArray e)) :=
  hw.grow (Hn := [.row e sz (ga w.heap.size) n n us]) (Gn := []) ((Below.refl _ _).alloc (Nat.le_refl _) _)
    (NewOk.one ⟨hl, .inr ⟨_, n, us.toArray, rfl, Nat.le_refl _, heap_alloc_new w _, Nat.le_refl _, hm, by simpa using hl, by simp [← hl]⟩⟩)
theorem ms_alloc {t : TypeId} {cs : List Value} [hz : ZV P t cs] (ho : o.op = .alloc t) : MStep P E H G o (fun _ => True) (fun y => pt (ga (y 0).c) 0) (fun y => .box (y 0).c t cs :: H) (fun _ => G) := ms_of (v0 := undef) fun N base w0 a w he hw => by
  refine ⟨mkY none w.heap.size w, w.alloc (.cells cs.toArray t), trivial, ?_, wok_new hw t cs (sz := 0) (n := 0)⟩
  have h := hz.h
  unfold zvB at h
  cases hi : P.info? t with
  | none => simp [hi] at h
  | some i =>
    simp only [hi] at h
    cases hzz : i.zero with
    | none => simp [hzz] at h
    | some z =>
      simp only [hzz, Option.map_some, Option.some.injEq] at h
      simp [execOp, ho, Instr.alloc, zeroValue, typeInfo, hi, hzz, newVar, newRow, newObj, Sem.run, h, pt, ga, mkY, Addr.add]
theorem ms_box {t : TypeId} {x : Operand} {u : Value} {cs : List Value} (ho : o.op = .box t x) (hx : opd E x = some u) (hc : u.cells = cs.toArray) : MStep P E H G o (fun _ => True) (fun y => pt (ga (y 0).c) 0) (fun y => .box (y 0).c t cs :: H) (fun _ => G) := ms_of (v0 := undef) fun N base w0 a w he hw => by
  refine ⟨mkY none w.heap.size w, w.alloc (.cells cs.toArray t), trivial, ?_, wok_new hw t cs (sz := 0) (n := 0)⟩
  simp [execOp, ho, he.eval hx, Instr.box, newVar, newRow, newObj, Sem.run, hc, pt, ga, mkY, Addr.add]
theorem ms_make {t e sz bytes : Nat} {x y : Operand} {n : Nat} {k k' : IntKind} {z : List Value} [ht : EL P t e sz bytes] [hz : ZV P e z] (ho : o.op = .makeSlice t x y) (hx : opd E x = some (.int k (n : Int))) (hy : opd E y = some (.int k' (n : Int))) (hb : bytes * n ≤ 140737488355328) (hn : n ≤ 140737488355328) :
    MStep P E H G o (fun _ => True) (fun y => .slice (ga (y 0).c) n n) (fun y => .row e sz (ga (y 0).c) n n (madeCells z.toArray (n * sz)).toList :: H) (fun _ => G) := ms_of (v0 := undef) fun N base w0 a w he hw => by
  obtain ⟨hu, _, i, zz, hi, hzz, hs, hby, _⟩ := ht.h
  have hz1 : zz.cells = z.toArray := by
    have := hz.h
    unfold zvB at this
    simpa [hi, hzz] using this
  obtain ⟨w', hr, hown, hgr⟩ := run_make_full (P := P) w w.heap.size t e i zz sz hu hi hzz hs k k' n (by rw [hby]; omega) (by simp only [maxLen]; omega) (Nat.le_refl _)
  rw [hz1] at hown
  refine ⟨mkY none w.heap.size w, w', trivial, ?_, ?_⟩
  · simp only [execOp, ho, he.eval hx, he.eval hy, Sem.run_bind, hr, Result.andThen_ok, Sem.run_pure]; rfl
  · exact hw.grow (Hn := [.row e sz (ga w.heap.size) n n _]) (Gn := []) ⟨hgr.os, hgr.tape, hgr.output, hgr.size, fun j hj => hgr.block j hj (by simp)⟩ (NewOk.one hown)
def putC (cs : List Value) (k : Nat) (vs : List Value) : List Value := cs.take k ++ vs ++ cs.drop (k + vs.length)
theorem ms_store {t g e k sz : Nat} {ag : Bool} {x y : Operand} {u : Value} {cs vs : List Value} (i : Nat) [hl : LD P t sz ag] (ho : o.op = .store t x y) (hx : opd E x = some (pt (ga g) k)) (hy : opd E y = some u) (hv : u.cells = vs.toArray) (hn : vs.length = sz) (h1 : vs.all (·.oneCell') = true)
    (hi : H[i]? = some (.box g e cs)) (hkb : Nat.ble (k + vs.length) cs.length = true) : MStep P E H G o (fun _ => True) (fun _ => undef) (fun _ => H.set i (.box g e (putC cs k vs))) (fun _ => G) := fun N base w0 a w Q K he hw hK => by
  have hk := Nat.le_of_ble_eq_true hkb
  obtain ⟨hb, hh⟩ := hw.own _ (List.mem_of_getElem? hi)
  have hst := run_storeCells_at P g k e vs 0 cs.toArray w hh (by simpa using hk) (by simpa using h1)
  have hsz : (sizeOf t).run P w = .ok sz w := by
    have h := hl.h
    unfold ldB at h
    split at h <;> first | (injection h with h; injection h with h1 h2; rename_i hi; simp [sizeOf, typeInfo, hi, h1]) | cases h
  have hlen : u.cells.size = sz := by rw [hv]; simpa using hn
  have hrun : (execOp a.eval o).run P w = .ok .skip (w.setRow g (putC cs k vs).toArray) := by
    simp only [Nat.add_zero] at hst
    simp [execOp, ho, he.eval hx, he.eval hy, pt, ga, Instr.storeAt, Instr.sureAddr, storeVar, hsz, hlen, hn, ga_add, hv, hst, putC]
  unfold Oper.wp; rw [hrun]
  refine hK (mkY none 0 w) _ trivial (hw.turn (x := .box g e cs) hi (r := some g) ?_ (fun k hk => by cases hk; rfl) ⟨hb, setRow_heap w g _ _ e _ hh⟩ (fun j hj => .inl hj))
  exact ⟨rfl, rfl, rfl, by simp, fun j _ hj => setRow_other w g j _ (fun e => hj (by simp [e]))⟩
theorem ms_store_row {t g e k sz rsz n c : Nat} {ag : Bool} {A : Option Addr} {x y : Operand} {u : Value} {us vs : List Value} (i : Nat) [hl : LD P t sz ag] (ho : o.op = .store t x y) (hx : opd E x = some (pt A k)) (hy : opd E y = some u) (hv : u.cells = vs.toArray) (hn : vs.length = sz) (h1 : vs.all (·.oneCell') = true) (h0 : 0 < sz)
    (hi : H[i]? = some (.row e rsz A n c us)) (hk : k + vs.length ≤ us.length) : MStep P E H G o (fun _ => True) (fun _ => undef) (fun _ => H.set i (.row e rsz A n c (putC us k vs))) (fun _ => G) := fun N base w0 a w Q K he hw hK => by
  have hown := hw.own _ (List.mem_of_getElem? hi)
  obtain ⟨hlen, ⟨hA, hn0⟩ | ⟨g, cap, cur, hA, hb, hh, hnc, hcm, hcs, htk⟩⟩ := hown
  · subst hn0; have h3 : us.length = 0 := by rw [hlen, Nat.zero_mul]
    omega
  injection hA with hA hA2 hA3
  subst hA; subst hA3
  have hcl : n * rsz ≤ cur.size := by rw [hcs]; exact Nat.mul_le_mul_right _ hnc
  have hst := run_storeCells_at P g k e vs 0 cur w hh (by simp; omega) (by simpa using h1)
  have hsz : (sizeOf t).run P w = .ok sz w := by
    have h := hl.h
    unfold ldB at h
    split at h <;> first | (injection h with h; injection h with h1 h2; rename_i hi; simp [sizeOf, typeInfo, hi, h1]) | cases h
  have hlen2 : u.cells.size = sz := by rw [hv]; simpa using hn
  have hrun : (execOp a.eval o).run P w = .ok .skip (w.setRow g (putC cur.toList k vs).toArray) := by
    simp only [Nat.add_zero] at hst
    simp [execOp, ho, he.eval hx, he.eval hy, pt, Instr.storeAt, Instr.sureAddr, storeVar, hsz, hlen2, hn, ga_add, hv, hst, putC]
  unfold Oper.wp; rw [hrun]
  have hpl : ∀ (l : List Value), k + vs.length ≤ l.length → (putC l k vs).length = l.length := fun l hl => by simp [putC]; omega
  have hcur : k + vs.length ≤ cur.toList.length := by simp; omega
  refine hK (mkY none 0 w) _ trivial (hw.turn (x := .row e rsz (some ⟨g, 0, none⟩) n c us) hi (r := some g) ?_ (fun k hk => by cases hk; rfl) ⟨by rw [hpl us hk, hlen], .inr ⟨g, c, _, rfl, hb, setRow_heap w g _ _ e _ hh, hnc, hcm, ?_, ?_⟩⟩ (fun j hj => .inl hj))
  · exact ⟨rfl, rfl, rfl, by simp, fun j _ hj => setRow_other w g j _ (fun e => hj (by simp [e]))⟩
  · simp only [List.size_toArray]; rw [hpl _ hcur]; simpa using hcs
  · rw [← htk]
    simp only [putC]
    rw [← htk] at hk
    simp only [List.length_take] at hk
    apply List.ext_getElem?
    intro j
    simp only [List.getElem?_take, List.getElem?_append, List.length_append, List.length_take, List.getElem?_drop]
    repeat' split
    all_goals first | rfl | omega | (congr 1; omega) | skip
    all_goals simp_all <;> omega
end
end Go.Proofs.YtmfojbidojjciaaGreat
namespace Go.Proofs.YtmfojbidojjciaaGreat
open Go.RowKit
section
variable {P : Program} {N base : Nat} {w0 : World} {E : Env} {H : List HObj} {G : List World} {Q : Exit → Act → World → Prop} {o : Oper} {rest : List Oper} {ops : Array Oper} {F : Ys → Prop} {v : Ys → Value} {H' : Ys → List HObj} {G' : Ys → List World}
theorem run_appP {t ty e size bytes : Nat} (hT : SlP P t e size bytes) {w : World} {base n c : Nat} {A : Option Addr} {us : List Value} (hown : Own w base e size A n c us)
    {A2 : Option Addr} {m c2 : Nat} {news : List Value} (hl : news.length = m * size) (hr : Rd w A2 news) (h1 : ∀ u ∈ news, u.oneCell' = true)
    (hbytes : (n + m) * bytes ≤ 140737488355328) (h63 : n + m ≤ 140737488355328) (hbase : base ≤ w.heap.size) :
    ∃ A' c' w', (Builtin.append_ #[t, t] ty #[.slice A n c, .slice A2 m c2]).run P w = .ok (.slice A' (n + m) c') w' ∧ Own w' base e size A' (n + m) c' (us ++ news) ∧ w.grownBy w' (blk A) ∧ (blk A' = blk A ∨ blk A' = some w.heap.size) := by
  rcases A2 with _ | ad
  · have hn : news = [] := by
      rcases news with _ | ⟨u, l⟩
      · rfl
      · obtain ⟨ad, e, _⟩ := hr 0 u rfl; cases e
    have hm : m = 0 := by
      subst hn; have := hT.2.1
      rcases Nat.eq_zero_or_pos m with h | h
      · exact h
      · have := Nat.mul_pos h this; simp at hl; omega
    subst hn; subst hm
    refine ⟨A, c, w, ?_, by simpa using hown, World.grownBy.refl w _, .inl rfl⟩
    obtain ⟨ht, _, i, z, hi, hz, _, _, _⟩ := hT
    rcases hown.2 with ⟨hv, rfl⟩ | ⟨g, cap, cur, hv, _, _, hnc, _⟩
    · cases hv
      simp [Builtin.append_, run_underlying ht, sizeOf, typeInfo, hi, Builtin.lenOf, Builtin.firstCells]
    · cases hv
      simp [Builtin.append_, run_underlying ht, sizeOf, typeInfo, hi, Builtin.lenOf, Builtin.firstCells, hnc, storeCells]
  · have hcells : ∀ j u, news[j]? = some u → w.cell? (ad.add j) = some u := fun j u hu => by
      obtain ⟨ad', e, hc⟩ := hr j u hu; cases e; exact hc
    obtain ⟨ht, hsz, i, z, hi, hz, hs, hby, hzs⟩ := hT
    obtain ⟨v', w', hrun, h2, h3, _, h5⟩ := run_append_own_at (P := P) w base t ty e i z size bytes ht hi hz hs hby hzs hsz (.slice A n c) n us hown ad m c2 news hl hcells h1 (by simp only [maxLen]; omega) hbytes hbase
    obtain ⟨A', c', rfl⟩ : ∃ A' c', v' = .slice A' (n + m) c' := by
      rcases h2.2 with ⟨hv, hn⟩ | ⟨g, cap, cur, hv, _⟩
      · exact ⟨none, 0, by rw [hv, hn]⟩
      · exact ⟨_, _, hv⟩
    rw [ownBlock_slice] at h3 h5
    rw [ownBlock_slice] at h5
    exact ⟨A', c', w', hrun, h2, h3, h5⟩
theorem ms_app {t e sz bytes n c m c2 : Nat} {A A2 : Option Addr} {x y : Operand} {us news : List Value} (i : Nat) [ht : EL P t e sz bytes] (ho : o.op = .call { callee := .builtin .append, args := #[x, y], argTypes := #[t, t] })
    (hx : opd E x = some (.slice A n c)) (hy : opd E y = some (.slice A2 m c2)) (hi : H[i]? = some (.row e sz A n c us)) (hr : Rds H G A2 news) (hl : news.length = m * sz) (h1 : ∀ u ∈ news, u.oneCell' = true)
    (hb : (n + m) * bytes ≤ 140737488355328) (hm : n + m ≤ 140737488355328) :
    MStep P E H G o (fun _ => True) (fun y => .slice (y 0).A (n + m) (y 0).c) (fun y => H.set i (.row e sz (y 0).A (n + m) (y 0).c (us ++ news))) (fun _ => G) := fun N base w0 a w Q K he hw hK => by
  obtain ⟨A', c', w', hrun, h2, h3, h4⟩ := run_appP (ty := o.type) ht.h (hw.own _ (List.mem_of_getElem? hi)) hl (hr base w0 w hw) h1 hb hm hw.le (c2 := c2)
  have hr' : (execOp a.eval o).run P w = .ok (.value (.slice A' (n + m) c')) w' := by
    unfold execOp
    simp only [ho, resolve, invoke, builtin, Sem.run_bind, Sem.run_pure, Result.andThen_ok, List.map_toArray, List.map_cons, List.map_nil, he.eval hx, he.eval hy, hrun]
  unfold Oper.wp; rw [hr']
  refine hK (mkY A' c' w) _ trivial (hw.turn (x := .row e sz A n c us) hi h3 (fun k hk => hk) h2 fun k hk => ?_)
  rcases h4 with h4 | h4
  · exact .inl (h4.symm.trans hk)
  · right
    have : some k = some w.heap.size := hk.symm.trans h4
    cases this; exact Nat.le_refl _
theorem ps_str_of {x : Operand} {s t e : TypeId} {A : Option Addr} {n c : Nat} {l : List UInt8} {sz bytes : Nat} [hs' : EL P s e sz bytes] [he'' : IK P e .u8] [ht' : SS P t] (ho : o.op = .convert s t x) (hx : opd E x = some (.slice A n c)) (hr : Rds H G A (byteVs l)) (hn : n = l.length) : PStep P E H G o (.string ⟨l.toArray⟩) := fun N base w0 a w he hw => by
  have h := hr base w0 w hw
  have hs := hs'.h.1
  have he' := he''.h
  have ht := ht'.h
  subst hn
  have hrun : (convert s t (.slice A l.length c)).run P w = .ok (.string ⟨l.toArray⟩) w := by
    rcases A with _ | ad
    · have hl : l = [] := by
        rcases l with _ | ⟨u, l⟩
        · rfl
        · obtain ⟨ad, e, _⟩ := h 0 (.int .u8 u.toNat) (by simp [byteVs]); cases e
      subst hl
      rw [run_convert_bytes_nil w _ _ hs he' _ _ _ ht]
      rfl
    · exact run_convert_bytes_back w _ _ _ ad c l hs he' ht (fun j hj => by
        obtain ⟨ad', e, hc⟩ := h j (.int .u8 (l[j].toNat : Int)) (by simp [byteVs, List.getElem?_eq_getElem hj])
        cases e; exact hc)
  simp [execOp, ho, he.eval hx, hrun]
theorem ps_slice {x : Operand} {lo hi : Option Operand} {t e sz bytes : TypeId} {A : Option Addr} {n c : Nat} {l h : Nat} [ht : EL P t e sz bytes] (ho : o.op = .slice t x lo hi none) (hx : opd E x = some (.slice A n c))
    (hlo : (match lo with | none => some l = some 0 | some y => ∃ k, opd E y = some (.int k (l : Int)))) (hhi : (match hi with | none => h = n | some y => ∃ k, opd E y = some (.int k (h : Int)))) (h1 : l ≤ h) (h2 : h ≤ c) :
    PStep P E H G o (.slice (if c = l then A else A.map (·.add (l * sz))) (h - l) (c - l)) := fun N base w0 a w he hw => by
  obtain ⟨hu, _, i, z, hi', hz, hs, _, _⟩ := ht.h
  have hb : ∀ (k : IntKind) (q m : Nat) (cd : BoundsCode), q ≤ m → (Instr.sliceBound (.int k (q : Int)) m cd).run P w = .ok q w := fun k q m cd hq => by
    have : (0 : Int) ≤ q ∧ (q : Int) ≤ m := by omega
    simp [Instr.sliceBound, asIntOf, this]
  cases lo with
  | none =>
    cases hlo
    cases hi with
    | none => subst hhi; simp [execOp, ho, he.eval hx, Instr.sliceAt, Instr.slice, Instr.sliceBounds, run_underlying hu, sizeOf, typeInfo, hi', hs]
    | some y =>
      obtain ⟨k, hy⟩ := hhi
      simp [execOp, ho, he.eval hx, he.eval hy, Instr.sliceAt, Instr.slice, Instr.sliceBounds, run_underlying hu, sizeOf, typeInfo, hi', hs, hb k h c _ h2]
  | some q =>
    obtain ⟨k', hq⟩ := hlo
    cases hi with
    | none => subst hhi; simp [execOp, ho, he.eval hx, he.eval hq, Instr.sliceAt, Instr.slice, Instr.sliceBounds, run_underlying hu, sizeOf, typeInfo, hi', hs, hb k' l h _ h1]
    | some y =>
      obtain ⟨k, hy⟩ := hhi
      simp [execOp, ho, he.eval hx, he.eval hy, he.eval hq, Instr.sliceAt, Instr.slice, Instr.sliceBounds, run_underlying hu, sizeOf, typeInfo, hi', hs, hb k h c _ h2, hb k' l h _ h1]
theorem ps_sslice {x : Operand} {lo hi : Option Operand} {t : TypeId} {s : ByteArray} {l h : Nat} [ht : SS P t] (ho : o.op = .slice t x lo hi none) (hx : opd E x = some (.string s))
    (hlo : (match lo with | none => some l = some 0 | some y => ∃ k, opd E y = some (.int k (l : Int)))) (hhi : (match hi with | none => h = s.size | some y => ∃ k, opd E y = some (.int k (h : Int)))) (h1 : l ≤ h) (h2 : h ≤ s.size) :
    PStep P E H G o (.string (s.extract l h)) := fun N base w0 a w he hw => by
  have hb : ∀ (k : IntKind) (q m : Nat) (cd : BoundsCode), q ≤ m → (Instr.sliceBound (.int k (q : Int)) m cd).run P w = .ok q w := fun k q m cd hq => by
    have : (0 : Int) ≤ q ∧ (q : Int) ≤ m := by omega
    simp [Instr.sliceBound, asIntOf, this]
  cases lo with
  | none =>
    cases hlo
    cases hi with
    | none => subst hhi; simp [execOp, ho, he.eval hx, Instr.sliceAt, Instr.slice, Instr.sliceBounds, run_underlying ht.h]
    | some y =>
      obtain ⟨k, hy⟩ := hhi
      simp [execOp, ho, he.eval hx, he.eval hy, Instr.sliceAt, Instr.slice, Instr.sliceBounds, run_underlying ht.h, hb k h _ _ h2]
  | some q =>
    obtain ⟨k', hq⟩ := hlo
    cases hi with
    | none => subst hhi; simp [execOp, ho, he.eval hx, he.eval hq, Instr.sliceAt, Instr.slice, Instr.sliceBounds, run_underlying ht.h, hb k' l _ _ h1]
    | some y =>
      obtain ⟨k, hy⟩ := hhi
      simp [execOp, ho, he.eval hx, he.eval hy, he.eval hq, Instr.sliceAt, Instr.slice, Instr.sliceBounds, run_underlying ht.h, hb k h _ _ h2, hb k' l h _ h1]
theorem ms_call {f : FuncId} {cl : Operand} {args : Array Operand} {tys : Array TypeId} {vs : List Value} {Hn : Ys → List HObj} {Gn : Ys → List World} [hf : FN P f] (ho : o.op = .call { callee := .value cl, args := args, argTypes := tys }) (hcl : opd E cl = some (.func (.func f) #[] #[])) (ha : args.toList.mapM (opd E) = some vs)
    (hc : ∀ base w0 w, WOk base w0 H G w → Calls P f vs.toArray w (fun e w' => ∃ y, e = .returned (v y) ∧ F y ∧ Below w.heap.size w w' ∧ NewOk w.heap.size (Hn y) (Gn y) w')) :
    MStep P E H G o F v (fun y => Hn y ++ H) (fun y => Gn y ++ G) := fun N base w0 a w Q K he hw hK => by
  obtain ⟨fn, c, h1, h2, h3⟩ := hf.h
  have hev : args.map a.eval = vs.toArray := by
    apply Array.ext'
    rw [Array.toList_map]
    generalize args.toList = l at ha
    clear hc ho
    induction l generalizing vs with
    | nil => simp at ha; subst ha; rfl
    | cons q l ih =>
      simp only [List.mapM_cons, Option.bind_eq_bind] at ha
      cases hq : opd E q with
      | none => simp [hq] at ha
      | some u =>
        simp only [hq, Option.bind_some] at ha
        cases hr : l.mapM (opd E) with
        | none => simp [hr] at ha
        | some r =>
          simp only [hr, Option.bind_some] at ha
          cases ha
          simp [he.eval hq, ih hr]
  have hr : (execOp a.eval o).run P w = .ok (.enter f vs.toArray) w := by
    have hfe : a.eval cl = .func (.func f) #[] #[] := he.eval hcl
    have hname : fn.name ≠ "runtime.NumGoroutine" := by simpa using h2
    simp [execOp, ho, resolve, hev, hfe, Deferred.ofValue, invoke, callFunc, h1, hname, h3]
  unfold Oper.wp; rw [hr]
  refine (hc base w0 w hw).mono fun e w' ⟨y, he', hF, hb, hn⟩ => ?_
  subst he'
  exact hK y w' hF (hw.grow hb hn)
theorem ms_ps {u : Value} (h : PStep P E H G o u) : MStep P E H G o (fun _ => True) (fun _ => u) (fun _ => H) (fun _ => G) := ms_of (v0 := undef) fun N base w0 a w he hw => ⟨mkY none 0 w, w, trivial, h N base w0 a w he hw, hw⟩
theorem ok_m0g {u : Value} {p : Bool} (hw' : ∀ a, EnvOk N E a → Region.wanted o (yielded ops a.tmps) = p) {td : Nat} (hdt : o.dst = some td) (hd : Nat.blt td N = true) (hs : p = true → MStep P E H G o (fun _ => True) (fun _ => u) (fun _ => H) (fun _ => G))
    (h : Ok N base w0 ((td, (gv p u)) :: E) H G (wpList P ops Q rest)) : Ok N base w0 E H G (wpList P ops Q (o :: rest)) := fun a w he hw => by
  refine wpList_step fun K hK => ?_
  rw [hw' a he]
  cases p with
  | true =>
    rw [if_pos rfl]
    exact hs rfl N base w0 a w Q K he hw fun y w' _ hw2 => hK _ _ (h _ _ (he.put' hdt hd u) hw2)
  | false => rw [if_neg (by simp)]; exact hK _ _ (h _ _ (he.put' hdt hd undef) hw)
theorem ok_mg {u : Value} {j d : Nat} {want c : Bool} (hg : o.guard = some (j, want)) (hj : (ops[j]?).bind (·.dst) = some d) (hv : look E d = some (.bool c)) {td : Nat} (hdt : o.dst = some td) (hd : Nat.blt td N = true)
    {p : Bool} (hp : (c == want) = p) (hs : p = true → MStep P E H G o (fun _ => True) (fun _ => u) (fun _ => H) (fun _ => G))
    (h : Ok N base w0 ((td, (gv p u)) :: E) H G (wpList P ops Q rest)) : Ok N base w0 E H G (wpList P ops Q (o :: rest)) :=
  ok_m0g (fun a he => by rw [wanted_of (p := true) he hg hj hv, Bool.true_and, hp]) hdt hd hs h
theorem ms_call0 {f : FuncId} {cl : Operand} {args : Array Operand} {tys : Array TypeId} {vs : List Value} {u : Value} [hf : FN P f] (ho : o.op = .call { callee := .value cl, args := args, argTypes := tys }) (hcl : opd E cl = some (.func (.func f) #[] #[])) (ha : args.toList.mapM (opd E) = some vs)
    (hc : ∀ base w0 w, WOk base w0 H G w → Calls P f vs.toArray w (fun e w' => e = .returned u ∧ Below w.heap.size w w')) :
    MStep P E H G o (fun _ => True) (fun _ => u) (fun _ => H) (fun _ => G) :=
  ms_call (Hn := fun _ => []) (Gn := fun _ => []) ho hcl ha fun base w0 w hw => (hc base w0 w hw).mono fun e w' ⟨h1, h2⟩ => ⟨mkY none 0 w, h1, trivial, h2, NewOk.nil _ _⟩
end
end Go.Proofs.YtmfojbidojjciaaGreat
namespace Go.Proofs.YtmfojbidojjciaaGreat
open Go.RowKit
def wpT (P : Program) (md : Region.Mode) (ops : Array Oper) (Q : Exit → Act → World → Prop) (S : World → Prop) (n : Nat) (L : Array Bool → Act → World → Prop) : Nat → Array Bool → Act → World → Prop
  | 0, listed, a, w => L listed a w
  | f + 1, listed, a, w => Region.ready md ops listed ≠ [] ∧ ∀ i ∈ Region.ready md ops listed, i < n ∧ wpOp P ops Q i (fun a' w' => S w' ∧ wpT P md ops Q S n L f (listed.setIfInBounds i true) a' w') a w
section
variable {P : Program} {ops : Array Oper} {Q : Exit → Act → World → Prop} {md : Region.Mode} {S : World → Prop}
theorem wpAny_of_T {n g : Nat} {L : Array Bool → Act → World → Prop} (hL : ∀ listed a w, L listed a w → wpAny P md ops Q g listed a w) :
    ∀ (f : Nat) (listed : Array Bool) (a : Act) (w : World), wpT P md ops Q S n L f listed a w → wpAny P md ops Q (f + g) listed a w
  | 0, listed, a, w, h => by rw [Nat.zero_add]; exact hL _ _ _ h
  | f + 1, listed, a, w, h => by
    rw [show f + 1 + g = (f + g) + 1 by omega]
    exact ⟨fun h0 => absurd h0 h.1, fun i hi => wpOp_mono (fun a' w' h' => wpAny_of_T hL f _ a' w' h'.2) (h.2 i hi).2⟩
def HeadB (md : Region.Mode) (ops : Array Oper) (n : Nat) : Bool := Region.noSelect ops && (decide (ops.size = n) || (decide (n < ops.size) && Region.sinkB md ops n && Region.chainB md ops n))
theorem head_lt {n i : Nat} {listed : Array Bool} (hB : HeadB md ops n = true) (inv : HeadInv md ops n listed) (hin : i < n) (hun : listed.getD i true = false) : ∀ j ∈ Region.ready md ops listed, j < n := fun j hj => by
  simp only [HeadB, Bool.and_eq_true, Bool.or_eq_true, decide_eq_true_eq] at hB
  rcases Nat.lt_or_ge j n with h | h
  · exact h
  · rcases hB.2 with h1 | ⟨⟨hn, hs⟩, hc⟩
    · obtain ⟨_, oj, hoj, _⟩ := mem_ready.1 hj
      have := (Array.getElem?_eq_some_iff.1 hoj).1; omega
    · exact absurd hj (tail_waits hs hc hn inv _ i rfl hin hun j h)
theorem wpT_first {n i : Nat} {oi : Oper} {v : Value} {L : Array Bool → Act → World → Prop} (hi : ops[i]? = some oi) (hB : HeadB md ops n = true) (hin : i < n)
    (hQ : ∀ c a w, Q (.panic c) (a.put oi.dst v) w → Q (.panic c) a w)
    (hdone : ∀ listed a w, L listed a w → ∀ j ∈ Region.ready md ops listed, n ≤ j) :
    ∀ (f : Nat) (listed : Array Bool) (a : Act) (w : World), HeadInv md ops n listed →
      (∀ j oj, ops[j]? = some oj → j ≠ i → listed.getD j true = false → (∀ e ∈ oj.after, Region.binds md e = true → e.on ≠ i) → oi.apart ops oj = true) →
      i ∈ Region.ready md ops listed → YieldsIf P ops S oi v a → S w →
      wpT P md ops Q S n L f (listed.setIfInBounds i true) (a.put oi.dst v) w → wpT P md ops Q S n L (f + 1) listed a w := by
  have hsel : ∀ (j : Nat) (o : Oper) cs b, ops[j]? = some o → o.op ≠ .select cs b := by
    simp only [HeadB, Bool.and_eq_true] at hB
    exact Region.noSelect_spec hB.1
  intro f
  induction f with
  | zero =>
    intro listed a w inv _ hr hy hS H
    have hun := (mem_ready.1 hr).1
    refine ⟨fun h => (by rw [h] at hr; cases hr), fun j hj => ?_⟩
    have hjn := head_lt hB inv hin hun j hj
    refine ⟨hjn, ?_⟩
    by_cases hji : j = i
    · subst hji; exact hy.wpOp hi hS ⟨hS, H⟩
    · have := hdone _ _ _ H j (ready_mono hj hji)
      omega
  | succ f ih =>
    intro listed a w inv hfree hr hy hS H
    have hun := (mem_ready.1 hr).1
    refine ⟨fun h => (by rw [h] at hr; cases hr), fun j hj => ?_⟩
    have hjn := head_lt hB inv hin hun j hj
    refine ⟨hjn, ?_⟩
    by_cases hji : j = i
    · subst hji; exact hy.wpOp hi hS ⟨hS, H⟩
    · have h1 := (H.2 j (ready_mono hj hji)).2
      obtain ⟨hjun, oj, hoj, hall⟩ := mem_ready.1 hj
      have hnot : ∀ e ∈ oj.after, Region.binds md e = true → e.on ≠ i := fun e he hb heq => by
        have h1 := hall e he hb
        rw [heq, getD_both hun] at h1
        cases h1
      have h2 := wpOp_putIf hoj (hfree j oj hoj hji hjun hnot) (fun cs b => hsel i oi cs b hi) (fun cs b => hsel j oj cs b hoj) hQ hy h1
      have hfree' : ∀ k ok, ops[k]? = some ok → k ≠ i → (listed.setIfInBounds j true).getD k true = false →
          (∀ e ∈ ok.after, Region.binds md e = true → e.on ≠ i) → oi.apart ops ok = true := fun k ok hk hki hun hno => by
        refine hfree k ok hk hki ?_ hno
        by_cases hjk : j = k
        · subst hjk; exact hjun
        · rw [getD_set_ne true hjk] at hun; exact hun
      refine wpOp_mono (fun a' w' h3 => ⟨h3.2.1, ih (listed.setIfInBounds j true) a' w' (inv.set hj hjn) hfree' (ready_mono hr (Ne.symm hji)) h3.1 h3.2.1 ?_⟩) h2
      rw [Array.setIfInBounds_comm _ _ hji]
      exact h3.2.2
end
def PQ (Q : Exit → Act → World → Prop) : Prop := ∀ (d : Option Tmp) c a w v, Q (.panic c) (a.put d v) w → Q (.panic c) a w
theorem pq_then {k : Act → World → Prop} {Q : Exit → Act → World → Prop} (h : PQ Q) : PQ (Exit.then k Q) := h
theorem pq_in {i : Nat} {Q : Exit → Act → World → Prop} (h : PQ Q) : PQ (Exit.inBlock i Q) := h
theorem pq_body {P : Program} {fn : Func} {R : Ending → World → Prop} : PQ (bodyPost P fn R) := fun d c a w v h => by
  cases d <;> exact h
def takeB (ops : Array Oper) (n : Nat) (listed : Array Bool) (i : Nat) : Bool := Nat.blt i n && (Region.ready .any ops listed).contains i && Region.free .any ops listed i
def OkT (P : Program) (ops : Array Oper) (Q : Exit → Act → World → Prop) (tl : List Oper) (n : Nat) (N base : Nat) (w0 : World) (HS : List HObj) (GS : List World) (f : Nat) (listed : Array Bool) (E : Env) (H : List HObj) (G : List World) : Prop :=
  ∀ a w, HeadB .any ops n = true → PQ Q → EnvOk N E a → WOk base w0 H G w → WOk base w0 HS GS w → HeadInv .any ops n listed →
    wpT P .any ops Q (fun w => WOk base w0 HS GS w) n (fun listed a w => Region.seqB .any ops tl.length n listed = true ∧ wpList P ops Q tl a w) f listed a w
section
variable {P : Program} {N base : Nat} {w0 : World} {E : Env} {H HS : List HObj} {G GS : List World} {Q : Exit → Act → World → Prop} {ops : Array Oper} {tl : List Oper} {n f : Nat} {listed : Array Bool}
theorem ok_draw {id : Nat} {l : List Oper} (n : Nat) {tl : List Oper} (htl : l.drop n = tl) (hm : P.follows .mixedOrders = true) (hB : HeadB .any l.toArray n = true) (hn : Nat.ble n l.length = true) (hQ : PQ Q)
    (is : List Nat) (hnd : is.Nodup) {HS : List HObj} (hHS : HS = is.filterMap fun i => H[i]?) (h : OkT P l.toArray Q tl n N base w0 HS G n (Array.replicate l.length false) E H G) : Ok N base w0 E H G ((Code.region id l.toArray true).wp P Q) := fun a w he hw => by
  have hn' : n ≤ l.length := Nat.le_of_ble_eq_true hn
  have hdl : tl.length = l.toArray.size - n := by subst htl; simp
  have inv0 : HeadInv .any l.toArray n (Array.replicate l.length false) :=
    ⟨by simp, fun j oj _ hl => (by rw [getD_replicate_false] at hl; cases hl), fun t _ ht => getD_in (by simpa using ht) (getD_replicate_false _ _)⟩
  have H0 := h a w.drew hB hQ he hw.drew (hw.drew.sel is hnd hHS (fun _ h => h)) inv0
  refine wp_region_any hm ?_
  have := wpAny_of_T (Q := Q) (g := l.toArray.size - n) (fun listed a' w' hL => by
    have := wpAny_of_seq (md := .any) (Q' := Q) tl n listed a' w' (fun j => by subst htl; simp [List.getElem?_drop]) hL.1 hL.2
    rwa [hdl] at this) _ _ _ _ H0
  rw [show n + (l.toArray.size - n) = l.toArray.size by simp; omega] at this
  simpa using this
theorem okT_done (hs : Region.seqB .any ops tl.length n listed = true) (h : Ok N base w0 E H G (wpList P ops Q tl)) : OkT P ops Q tl n N base w0 HS GS 0 listed E H G := fun a w _ _ he hw _ _ => ⟨hs, h a w he hw⟩
theorem okT_take {i : Nat} {o : Oper} {v : Value} (hi : ops[i]? = some o) (ht : takeB ops n listed i = true) {td : Nat} (hdt : o.dst = some td) (hd : Nat.blt td N = true) (hg : o.guard = none) (hs : PStep P E HS GS o v)
    (h : OkT P ops Q tl n N base w0 HS GS f (listed.setIfInBounds i true) ((td, v) :: E) H G) : OkT P ops Q tl n N base w0 HS GS (f + 1) listed E H G := fun a w hB hQ he hw hS inv => by
  simp only [takeB, Bool.and_eq_true] at ht
  have hr' : i ∈ Region.ready .any ops listed := by simpa using ht.1.2
  have hin' : i < n := by simpa [Nat.blt_eq] using ht.1.1
  have hf := ht.2
  refine wpT_first hi hB hin' (fun c a w hh => hQ _ c a w _ hh) (fun listed a w hL => seqB_ready hL.1) f listed a w inv (Region.free_spec hi hf) hr' (.inl ⟨by simp [Region.wanted, hg], fun w' hS' => hs N base w0 a w' he hS'⟩) hS ?_
  exact h _ _ hB hQ (he.put' hdt hd v) hw hS (inv.set hr' hin')
theorem okT_take_g {i j d : Nat} {o : Oper} {v : Value} {want c q : Bool} {p : Bool} (hi : ops[i]? = some o) (ht : takeB ops n listed i = true) {td : Nat} (hdt : o.dst = some td) (hd : Nat.blt td N = true) (hg : o.guard = some (j, want)) (hj : (ops[j]?).bind (·.dst) = some d) (hv : look E d = some (gv q (.bool c))) (hp : (c == want) = p)
    (hs : q = true → p = true → (q && p) = true → PStep P E HS GS o v)
    (h : OkT P ops Q tl n N base w0 HS GS f (listed.setIfInBounds i true) ((td, (gv (q && p) v)) :: E) H G) : OkT P ops Q tl n N base w0 HS GS (f + 1) listed E H G := fun a w hB hQ he hw hS inv => by
  simp only [takeB, Bool.and_eq_true] at ht
  have hr' : i ∈ Region.ready .any ops listed := by simpa using ht.1.2
  have hin' : i < n := by simpa [Nat.blt_eq] using ht.1.1
  have hf := ht.2
  refine wpT_first hi hB hin' (v := gv (q && p) v) (fun c a w hh => hQ _ c a w _ hh) (fun listed a w hL => seqB_ready hL.1) f listed a w inv (Region.free_spec hi hf) hr' ?_ hS ?_
  · have hw1 := wanted_of he hg hj hv
    rw [hp] at hw1
    cases hqp : (q && p) with
    | true =>
      have h2 := (Bool.and_eq_true _ _).mp hqp
      exact .inl ⟨by rw [hw1]; exact hqp, fun w' hS' => hs h2.1 h2.2 hqp N base w0 a w' he hS'⟩
    | false => exact .inr ⟨by rw [hw1]; exact hqp, rfl⟩
  · exact h _ _ hB hQ (he.put' hdt hd _) hw hS (inv.set hr' hin')
theorem okT_take_g1 {i j d : Nat} {o : Oper} {v : Value} {want c : Bool} {p : Bool} (hi : ops[i]? = some o) (ht : takeB ops n listed i = true) {td : Nat} (hdt : o.dst = some td) (hd : Nat.blt td N = true) (hg : o.guard = some (j, want)) (hj : (ops[j]?).bind (·.dst) = some d) (hv : look E d = some (.bool c)) (hp : (c == want) = p)
    (hs : p = true → PStep P E HS GS o v)
    (h : OkT P ops Q tl n N base w0 HS GS f (listed.setIfInBounds i true) ((td, (gv p v)) :: E) H G) : OkT P ops Q tl n N base w0 HS GS (f + 1) listed E H G :=
  okT_take_g (q := true) hi ht hdt hd hg hj hv hp (fun _ h _ => hs h) (by rw [Bool.true_and]; exact h)
theorem okT_one {i : Nat} {o : Oper} {F : Ys → Prop} {v : Ys → Value} {H' : Ys → List HObj} {G' : Ys → List World} (hi : ops[i]? = some o) (hin : Nat.blt i n = true) (hr : Region.ready .any ops listed = [i]) {td : Nat} (hdt : o.dst = some td) (hd : Nat.blt td N = true) (hg : o.guard = none) (hs : MStep P E H G o F v H' G')
    (hS : ∀ y w, F y → WOk base w0 (H' y) (G' y) w → WOk base w0 HS GS w)
    (h : ∀ y, F y → OkT P ops Q tl n N base w0 HS GS f (listed.setIfInBounds i true) ((td, v y) :: E) (H' y) (G' y)) : OkT P ops Q tl n N base w0 HS GS (f + 1) listed E H G := fun a w hB hQ he hw hSw inv => by
  have hin' : i < n := by simpa [Nat.blt_eq] using hin
  refine ⟨by rw [hr]; simp, fun j hj => ?_⟩
  have hji : j = i := by rw [hr] at hj; simpa using hj
  subst hji
  refine ⟨hin', ?_⟩
  unfold wpOp
  simp only [hi]
  rw [if_pos (by simp [Region.wanted, hg])]
  refine .inl (hs N base w0 a w Q _ he hw fun y w' hF hw' => ?_)
  have h1 := hS y w' hF hw'
  exact ⟨h1, h y hF _ _ hB hQ (he.put' hdt hd _) hw' h1 (inv.set hj hin')⟩
theorem okT_one_g {i j d : Nat} {o : Oper} {want c q p : Bool} {u : Value} (hi : ops[i]? = some o) (hin : Nat.blt i n = true) (hr : Region.ready .any ops listed = [i]) {td : Nat} (hdt : o.dst = some td) (hd : Nat.blt td N = true)
    (hg : o.guard = some (j, want)) (hj : (ops[j]?).bind (·.dst) = some d) (hv : look E d = some (gv q (.bool c))) (hp : (c == want) = p) (hs : q = true → p = true → (q && p) = true → MStep P E H G o (fun _ => True) (fun _ => u) (fun _ => H) (fun _ => G))
    (hS : ∀ w, WOk base w0 H G w → WOk base w0 HS GS w)
    (h : OkT P ops Q tl n N base w0 HS GS f (listed.setIfInBounds i true) ((td, (gv (q && p) u)) :: E) H G) : OkT P ops Q tl n N base w0 HS GS (f + 1) listed E H G := fun a w hB hQ he hw hSw inv => by
  have hin' : i < n := by simpa [Nat.blt_eq] using hin
  refine ⟨by rw [hr]; simp, fun k hk => ?_⟩
  have hki : k = i := by rw [hr] at hk; simpa using hk
  subst hki
  refine ⟨hin', ?_⟩
  unfold wpOp
  simp only [hi]
  rw [wanted_of he hg hj hv, hp]
  cases hqp : (q && p) with
  | true =>
    have h2 := (Bool.and_eq_true _ _).mp hqp
    rw [if_pos rfl]
    refine .inl (hs h2.1 h2.2 hqp N base w0 a w Q _ he hw fun y w' _ hw' => ?_)
    rw [hqp] at h
    exact ⟨hS w' hw', h _ _ hB hQ (he.put' hdt hd _) hw' (hS w' hw') (inv.set hk hin')⟩
  | false =>
    rw [if_neg (by simp)]
    rw [hqp] at h
    exact ⟨hSw, h _ _ hB hQ (he.put' hdt hd undef) hw hSw (inv.set hk hin')⟩
theorem okT_one_g1 {i j d : Nat} {o : Oper} {want c p : Bool} {u : Value} (hi : ops[i]? = some o) (hin : Nat.blt i n = true) (hr : Region.ready .any ops listed = [i]) {td : Nat} (hdt : o.dst = some td) (hd : Nat.blt td N = true)
    (hg : o.guard = some (j, want)) (hj : (ops[j]?).bind (·.dst) = some d) (hv : look E d = some (.bool c)) (hp : (c == want) = p) (hs : p = true → MStep P E H G o (fun _ => True) (fun _ => u) (fun _ => H) (fun _ => G))
    (hS : ∀ w, WOk base w0 H G w → WOk base w0 HS GS w)
    (h : OkT P ops Q tl n N base w0 HS GS f (listed.setIfInBounds i true) ((td, (gv p u)) :: E) H G) : OkT P ops Q tl n N base w0 HS GS (f + 1) listed E H G :=
  okT_one_g (q := true) hi hin hr hdt hd hg hj hv hp (fun _ h _ => hs h) hS (by rw [Bool.true_and]; exact h)
end
theorem WOk.tl {base : Nat} {w0 w : World} {x : HObj} {H : List HObj} {G : List World} (h : WOk base w0 (x :: H) G w) : WOk base w0 H G w :=
  ⟨h.below, h.le, fun y hy => h.own y (List.mem_cons_of_mem _ hy), (List.pairwise_cons.1 h.apart).2, fun m hm p u hp => ⟨(h.ref m hm p u hp).1, fun y hy => (h.ref m hm p u hp).2 y (List.mem_cons_of_mem _ hy)⟩⟩
theorem WOk.gtl {base : Nat} {w0 w m : World} {H : List HObj} {G : List World} (h : WOk base w0 H (m :: G) w) : WOk base w0 H G w :=
  ⟨h.below, h.le, h.own, h.apart, fun m' hm => h.ref m' (List.mem_cons_of_mem _ hm)⟩
class Dat (α : Type) where
  sz : Nat
  cells : α → List Value
  len : ∀ x, (cells x).length = sz
  dflt : α
def fl {α : Type} [Dat α] (l : List α) : List Value := l.flatMap Dat.cells
section
variable {α : Type} [Dat α]
def nth (l : List α) (i : Nat) : α := l.getD i Dat.dflt
theorem fl_len (l : List α) : (fl l).length = l.length * Dat.sz α := by
  induction l with
  | nil => simp [fl]
  | cons x l ih => simp only [fl, List.flatMap_cons, List.length_append, Dat.len, List.length_cons, Nat.add_mul] at *; omega
theorem fl_cons (x : α) (l : List α) : fl (x :: l) = Dat.cells x ++ fl l := rfl
theorem fl_app (a b : List α) : fl a ++ fl b = fl (a ++ b) := by simp [fl]
theorem fl_at : ∀ (l : List α) (i off : Nat), i < l.length → off < Dat.sz α → (fl l)[i * Dat.sz α + off]? = (Dat.cells (nth l i))[off]?
  | [], i, off, h, _ => by simp at h
  | x :: l, 0, off, _, ho => by
    rw [fl_cons, Nat.zero_mul, Nat.zero_add, List.getElem?_append_left (by rw [Dat.len]; exact ho)]
    simp [nth]
  | x :: l, i + 1, off, h, ho => by
    rw [fl_cons, List.getElem?_append_right (by rw [Dat.len, Nat.add_mul]; omega), Dat.len]
    have := fl_at l i off (by simpa using h) ho
    rw [show (i + 1) * Dat.sz α + off - Dat.sz α = i * Dat.sz α + off by rw [Nat.add_mul]; omega, this]
    simp [nth]
theorem fl_at0 (l : List α) (i : Nat) (h : i < l.length) (ho : 0 < Dat.sz α) : (fl l)[i * Dat.sz α]? = (Dat.cells (nth l i))[0]? := fl_at l i 0 h ho
theorem fl_sub : ∀ (l : List α) (i : Nat), i < l.length → ((fl l).drop (i * Dat.sz α)).take (Dat.sz α) = Dat.cells (nth l i)
  | [], i, h => by simp at h
  | x :: l, 0, _ => by
    rw [fl_cons, Nat.zero_mul, List.drop_zero, List.take_append_of_le_length (by rw [Dat.len]; exact Nat.le_refl _), List.take_of_length_le (by rw [Dat.len]; exact Nat.le_refl _)]
    simp [nth]
  | x :: l, i + 1, h => by
    rw [fl_cons, show (i + 1) * Dat.sz α = (Dat.cells x).length + i * Dat.sz α by rw [Dat.len, Nat.add_mul]; omega, ← List.drop_drop, List.drop_left]
    have := fl_sub l i (by simpa using h)
    rw [this]; simp [nth]
end
instance : Dat Int := ⟨1, fun x => [.int .i64 x], fun _ => rfl, 0⟩
instance : Dat ByteArray := ⟨1, fun x => [.string x], fun _ => rfl, ⟨#[]⟩⟩
instance : Dat UInt8 := ⟨1, fun x => [.int .u8 (x.toNat : Int)], fun _ => rfl, 0⟩
instance : Dat Bool := ⟨1, fun x => [.bool x], fun _ => rfl, false⟩
end Go.Proofs.YtmfojbidojjciaaGreat
namespace Go.Proofs.YtmfojbidojjciaaGreat
open Go.RowKit
def Parts (E : Env) : List (Nat × Operand) → List (Nat × Value) → Prop
  | [], [] => True
  | q :: l, r :: m => q.1 = r.1 ∧ opd E q.2 = some r.2 ∧ Parts E l m
  | _, _ => False
theorem parts_nil {E : Env} : Parts E [] [] := trivial
theorem parts_cons {E : Env} {i : Nat} {x : Operand} {v : Value} {l : List (Nat × Operand)} {m : List (Nat × Value)} (h : opd E x = some v) (hm : Parts E l m) : Parts E ((i, x) :: l) ((i, v) :: m) := ⟨rfl, h, hm⟩
theorem parts_eval {N : Nat} {E : Env} {a : Act} (he : EnvOk N E a) : ∀ {l : List (Nat × Operand)} {vs : List (Nat × Value)}, Parts E l vs → l.map (fun q => (q.1, a.eval q.2)) = vs
  | [], [], _ => rfl
  | q :: l, r :: m, h => by
    rw [List.map_cons, parts_eval he h.2.2, he.eval h.2.1, h.1]
def bldL (pl : Nat → Option (Nat × Nat)) : List Value → List (Nat × Value) → Option (List Value)
  | cs, [] => some cs
  | cs, (i, v) :: rest => match pl i with
    | none => none
    | some (off, sz) => if v.cells.toList.length = sz ∧ off + sz ≤ cs.length then bldL pl (putC cs off v.cells.toList) rest else none
theorem foldl_put (vs : List Value) : ∀ (cs : List Value) (off k : Nat), off + k + vs.length ≤ cs.length → (vs.zipIdx k).foldl (fun (cs : Array Value) (p : Value × Nat) => cs.setIfInBounds (off + p.2) p.1) cs.toArray = (putC cs (off + k) vs).toArray := by
  induction vs with
  | nil => intro cs off k _; simp [putC]
  | cons v vs ih =>
    intro cs off k h
    simp only [List.zipIdx_cons, List.foldl_cons, List.length_cons] at h ⊢
    have h1 : (cs.toArray.setIfInBounds (off + k) v) = (cs.set (off + k) v).toArray := by simp
    rw [h1, ih _ _ _ (by simp; omega)]
    congr 1
    simp only [putC]
    apply List.ext_getElem?
    intro j
    simp only [List.getElem?_append, List.getElem?_take, List.getElem?_drop, List.length_append, List.length_take, List.length_set, List.length_cons, List.getElem?_set, List.getElem?_cons]
    repeat' split
    all_goals first | rfl | omega | (congr 1; omega) | skip
    all_goals simp_all <;> omega
theorem fill_bld (pl : Nat → Option (Nat × Nat)) : ∀ (vs : List (Nat × Value)) (cs r : List Value), bldL pl cs vs = some r → Instr.fill pl cs.toArray vs = some r.toArray
  | [], cs, r, h => by cases h; rfl
  | (i, v) :: rest, cs, r, h => by
    unfold bldL at h
    unfold Instr.fill
    cases hp : pl i with
    | none => simp [hp] at h
    | some p =>
      obtain ⟨off, sz⟩ := p
      simp only [hp] at h ⊢
      split at h
      case isFalse => cases h
      rename_i hc
      have hl : v.cells.size = sz := by simpa using hc.1
      have hle : off + v.cells.size ≤ cs.length := by omega
      rw [if_neg (by simp [hl]; omega)]
      have := foldl_put v.cells.toList cs off 0 (by simpa using hle)
      simp only [Nat.add_zero] at this
      have e : v.cells.zipIdx.foldl (fun cs x => match x with | (c, j) => cs.setIfInBounds (off + j) c) cs.toArray = (putC cs off v.cells.toList).toArray := by
        rw [← this, ← Array.foldl_toList, Array.toList_zipIdx]
      rw [e]
      exact fill_bld pl rest _ r h
def stB (P : Program) (t : TypeId) : Option (Array Value × List (Nat × Nat)) := match P.info? t, P.underlying t with
  | some it, some (.struct fields) => match it.zero, fields.toList.mapM (fun f => (P.info? f.type).map fun i => (f.offset, i.size)) with
    | some z, some pl => some (z.cells, pl)
    | _, _ => none
  | _, _ => none
class ST (P : Program) (t : TypeId) (zs : outParam (List Value)) (pl : outParam (List (Nat × Nat))) : Prop where h : stB P t = some (zs.toArray, pl)
section
variable {P : Program} {N base : Nat} {w0 : World} {E : Env} {H : List HObj} {G : List World} {Q : Exit → Act → World → Prop} {o : Oper} {F : Ys → Prop} {v : Ys → Value}
theorem ps_bld {t : TypeId} {parts : Array (Nat × Operand)} {vs : List (Nat × Value)} {zs cs : List Value} {pl : List (Nat × Nat)} [hst : ST P t zs pl] (ho : o.op = .build t parts) (hp : Parts E parts.toList vs) (hb : bldL (fun i => pl[i]?) zs vs = some cs) : PStep P E H G o (.agg cs.toArray) := fun N base w0 a w he hw => by
  have h := hst.h
  unfold stB at h
  split at h
  case h_2 => cases h
  rename_i it fields hit hu
  split at h
  case h_2 => cases h
  rename_i z pl' hz hpl
  injection h with h
  injection h with h1 h2
  have hf := fill_bld _ vs zs cs hb
  have hbt : P.built t vs = some cs.toArray := by
    simp only [Program.built, hit, hu, hz, hpl, h1, h2]
    rw [← hf]
    simp
  have hm : (parts.map fun q => (q.1, a.eval q.2)).toList = vs := by rw [Array.toList_map]; exact parts_eval he hp
  have := run_build (P := P) w t (parts.map fun q => (q.1, a.eval q.2)) cs.toArray (by rw [hm]; exact hbt)
  simp only [execOp, ho, Sem.run_bind, this, Result.andThen_ok, Sem.run_pure]
def zrow (zs : List Value) : Nat → List Value
  | 0 => []
  | n + 1 => zs ++ zrow zs n
theorem zrow_len (zs : List Value) (n : Nat) : (zrow zs n).length = n * zs.length := by
  induction n with
  | zero => simp [zrow]
  | succ n ih => simp only [zrow, List.length_append, ih, Nat.add_mul]; omega
theorem zrow_get (zs : List Value) : ∀ (n j : Nat), j < n * zs.length → (zrow zs n)[j]? = zs[j % zs.length]?
  | 0, j, h => by simp at h
  | n + 1, j, h => by
    simp only [zrow]
    by_cases hj : j < zs.length
    · rw [List.getElem?_append_left hj, Nat.mod_eq_of_lt hj]
    · have h2 : (n + 1) * zs.length = n * zs.length + zs.length := Nat.succ_mul _ _
      have h3 : j % zs.length = (j - zs.length) % zs.length := Nat.mod_eq_sub_mod (by omega)
      rw [List.getElem?_append_right (by omega), zrow_get zs n _ (by omega), h3]
theorem range_zrow (zs : List Value) (n : Nat) : ((Array.range (n * zs.length)).map (zs.toArray[· % zs.toArray.size]!)) = (zrow zs n).toArray := by
  apply Array.ext'
  apply List.ext_getElem?
  intro j
  simp only [Array.toList_map, Array.toList_range, List.getElem?_map]
  by_cases hj : j < n * zs.length
  · have hpos : 0 < zs.length := by
      rcases Nat.eq_zero_or_pos zs.length with h | h
      · rw [h] at hj; simp at hj
      · exact h
    have hlt : j % zs.length < zs.length := Nat.mod_lt _ hpos
    rw [zrow_get zs n j hj, List.getElem?_range hj]
    simp [hlt]
  · rw [List.getElem?_eq_none (by simp; omega), List.getElem?_eq_none (by rw [zrow_len]; omega)]
    rfl
theorem ms_lit {t e sz bytes len : Nat} {parts : Array (Nat × Operand)} {vs : List (Nat × Value)} {zs us : List Value} [ht : EL P t e sz bytes] [hz : ZV P e zs] (ho : o.op = .buildSlice t len parts) (hp : Parts E parts.toList vs)
    (hb : bldL (fun i => some (i * sz, sz)) (zrow zs len) vs = some us) (hl : us.length = len * sz) (hm : Nat.ble (len * sz) 16777216 = true) : MStep P E H G o (fun _ => True) (fun y => .slice (ga (y 0).c) len len) (fun y => .row e sz (ga (y 0).c) len len us :: H) (fun _ => G) := ms_of (v0 := undef) fun N base w0 a w he hw => by
  have hm' : len * sz ≤ 16777216 := Nat.le_of_ble_eq_true hm
  obtain ⟨hu, hpos, i, z, hi, hzz, hs, hby, hzs⟩ := ht.h
  have hlen : len ≤ len * sz := Nat.le_mul_of_pos_right _ hpos
  refine ⟨mkY none w.heap.size w, w.alloc (.cells us.toArray e), trivial, ?_, wok_new_row hw e sz len us hl (by simp only [maxLen]; omega)⟩
  have hm2 : (parts.map fun q => (q.1, a.eval q.2)).toList = vs := by rw [Array.toList_map]; exact parts_eval he hp
  have hz1 : z.cells = zs.toArray := by
    have := hz.h
    unfold zvB at this
    simpa [hi, hzz] using this
  have hzl : zs.length = sz := by rw [← hzs, hz1]; simp
  have hf := fill_bld _ vs _ us hb
  have hle : ¬ 2 ^ 24 < len * i.size := by rw [hs]; omega
  have hrz := range_zrow zs len
  rw [hzl] at hrz
  have hle' : ¬ len * i.size > 2 ^ 24 := hle
  simp only [execOp, ho, Instr.buildSlice, Sem.run_bind, run_underlying hu, Result.andThen_ok, sizeOf, typeInfo, run_program, hi, Sem.run_pure, if_neg hle', hm2]
  rw [hs]
  by_cases h0 : len * sz = 0
  · have hl0 : len = 0 := by
      rcases Nat.mul_eq_zero.1 h0 with h | h
      · exact h
      · omega
    subst hl0
    have hf' : Instr.fill (fun i => some (i * sz, sz)) #[] vs = some us.toArray := by simpa [zrow] using hf
    have hr0 : Array.range 0 = #[] := rfl
    simp [h0, hr0, hf', newRow, newObj, Sem.run, ga, mkY]
  · have hf' : Instr.fill (fun i => some (i * sz, sz)) (Array.map (fun x => zs.toArray[x % zs.toArray.size]!) (Array.range (len * sz))) vs = some us.toArray := by rw [hrz]; exact hf
    simp only [h0, if_false, zeroValue, typeInfo, Sem.run_bind, run_program, Result.andThen_ok, hi, hzz, Sem.run_pure, hz1, hf']
    simp [newRow, newObj, Sem.run, ga, mkY]
theorem ms_c1 {f : FuncId} {tys : Array TypeId} {x0 : Operand} {u0 : Value} {Hn : Ys → List HObj} {Gn : Ys → List World} [hf : FN P f] (ho : o.op = .call { callee := .value (.func f), args := #[x0], argTypes := tys }) (h0 : opd E x0 = some u0)
    (hc : ∀ base w0 w, WOk base w0 H G w → Calls P f #[u0] w (fun e w' => ∃ y, e = .returned (v y) ∧ F y ∧ Below w.heap.size w w' ∧ NewOk w.heap.size (Hn y) (Gn y) w')) :
    MStep P E H G o F v (fun y => Hn y ++ H) (fun y => Gn y ++ G)   := ms_call ho rfl (by simp [List.mapM_cons, h0]) hc
theorem ms_s1 {f : FuncId} {tys : Array TypeId} {x0 : Operand} {u0 : Value} {u : Value} [hf : FN P f] (ho : o.op = .call { callee := .value (.func f), args := #[x0], argTypes := tys }) (h0 : opd E x0 = some u0)
    (hc : ∀ base w0 w, WOk base w0 H G w → Calls P f #[u0] w (fun e w' => e = .returned u ∧ Below w.heap.size w w')) :
    MStep P E H G o (fun _ => True) (fun _ => u) (fun _ => H) (fun _ => G) := ms_call0 ho rfl (by simp [List.mapM_cons, h0]) hc
theorem ms_c2 {f : FuncId} {tys : Array TypeId} {x0 x1 : Operand} {u0 u1 : Value} {Hn : Ys → List HObj} {Gn : Ys → List World} [hf : FN P f] (ho : o.op = .call { callee := .value (.func f), args := #[x0, x1], argTypes := tys }) (h0 : opd E x0 = some u0) (h1 : opd E x1 = some u1)
    (hc : ∀ base w0 w, WOk base w0 H G w → Calls P f #[u0, u1] w (fun e w' => ∃ y, e = .returned (v y) ∧ F y ∧ Below w.heap.size w w' ∧ NewOk w.heap.size (Hn y) (Gn y) w')) :
    MStep P E H G o F v (fun y => Hn y ++ H) (fun y => Gn y ++ G)   := ms_call ho rfl (by simp [List.mapM_cons, h0, h1]) hc
theorem ms_s2 {f : FuncId} {tys : Array TypeId} {x0 x1 : Operand} {u0 u1 : Value} {u : Value} [hf : FN P f] (ho : o.op = .call { callee := .value (.func f), args := #[x0, x1], argTypes := tys }) (h0 : opd E x0 = some u0) (h1 : opd E x1 = some u1)
    (hc : ∀ base w0 w, WOk base w0 H G w → Calls P f #[u0, u1] w (fun e w' => e = .returned u ∧ Below w.heap.size w w')) :
    MStep P E H G o (fun _ => True) (fun _ => u) (fun _ => H) (fun _ => G) := ms_call0 ho rfl (by simp [List.mapM_cons, h0, h1]) hc
theorem ms_v2 {f : FuncId} {cl : Operand} {tys : Array TypeId} {x0 x1 : Operand} {u0 u1 : Value} {u : Value} [hf : FN P f] (ho : o.op = .call { callee := .value cl, args := #[x0, x1], argTypes := tys }) (hcl : opd E cl = some (.func (.func f) #[] #[])) (h0 : opd E x0 = some u0) (h1 : opd E x1 = some u1)
    (hc : ∀ base w0 w, WOk base w0 H G w → Calls P f #[u0, u1] w (fun e w' => e = .returned u ∧ Below w.heap.size w w')) :
    MStep P E H G o (fun _ => True) (fun _ => u) (fun _ => H) (fun _ => G) := ms_call0 ho hcl (by simp [List.mapM_cons, h0, h1]) hc
theorem ms_c3 {f : FuncId} {tys : Array TypeId} {x0 x1 x2 : Operand} {u0 u1 u2 : Value} {Hn : Ys → List HObj} {Gn : Ys → List World} [hf : FN P f] (ho : o.op = .call { callee := .value (.func f), args := #[x0, x1, x2], argTypes := tys }) (h0 : opd E x0 = some u0) (h1 : opd E x1 = some u1) (h2 : opd E x2 = some u2)
    (hc : ∀ base w0 w, WOk base w0 H G w → Calls P f #[u0, u1, u2] w (fun e w' => ∃ y, e = .returned (v y) ∧ F y ∧ Below w.heap.size w w' ∧ NewOk w.heap.size (Hn y) (Gn y) w')) :
    MStep P E H G o F v (fun y => Hn y ++ H) (fun y => Gn y ++ G)   := ms_call ho rfl (by simp [List.mapM_cons, h0, h1, h2]) hc
theorem ms_s3 {f : FuncId} {tys : Array TypeId} {x0 x1 x2 : Operand} {u0 u1 u2 : Value} {u : Value} [hf : FN P f] (ho : o.op = .call { callee := .value (.func f), args := #[x0, x1, x2], argTypes := tys }) (h0 : opd E x0 = some u0) (h1 : opd E x1 = some u1) (h2 : opd E x2 = some u2)
    (hc : ∀ base w0 w, WOk base w0 H G w → Calls P f #[u0, u1, u2] w (fun e w' => e = .returned u ∧ Below w.heap.size w w')) :
    MStep P E H G o (fun _ => True) (fun _ => u) (fun _ => H) (fun _ => G) := ms_call0 ho rfl (by simp [List.mapM_cons, h0, h1, h2]) hc
theorem ms_c4 {f : FuncId} {tys : Array TypeId} {x0 x1 x2 x3 : Operand} {u0 u1 u2 u3 : Value} {Hn : Ys → List HObj} {Gn : Ys → List World} [hf : FN P f] (ho : o.op = .call { callee := .value (.func f), args := #[x0, x1, x2, x3], argTypes := tys }) (h0 : opd E x0 = some u0) (h1 : opd E x1 = some u1) (h2 : opd E x2 = some u2) (h3 : opd E x3 = some u3)
    (hc : ∀ base w0 w, WOk base w0 H G w → Calls P f #[u0, u1, u2, u3] w (fun e w' => ∃ y, e = .returned (v y) ∧ F y ∧ Below w.heap.size w w' ∧ NewOk w.heap.size (Hn y) (Gn y) w')) :
    MStep P E H G o F v (fun y => Hn y ++ H) (fun y => Gn y ++ G)   := ms_call ho rfl (by simp [List.mapM_cons, h0, h1, h2, h3]) hc
theorem ms_s4 {f : FuncId} {tys : Array TypeId} {x0 x1 x2 x3 : Operand} {u0 u1 u2 u3 : Value} {u : Value} [hf : FN P f] (ho : o.op = .call { callee := .value (.func f), args := #[x0, x1, x2, x3], argTypes := tys }) (h0 : opd E x0 = some u0) (h1 : opd E x1 = some u1) (h2 : opd E x2 = some u2) (h3 : opd E x3 = some u3)
    (hc : ∀ base w0 w, WOk base w0 H G w → Calls P f #[u0, u1, u2, u3] w (fun e w' => e = .returned u ∧ Below w.heap.size w w')) :
    MStep P E H G o (fun _ => True) (fun _ => u) (fun _ => H) (fun _ => G) := ms_call0 ho rfl (by simp [List.mapM_cons, h0, h1, h2, h3]) hc
end
def inB (x a b : Int) : Bool := decide (a ≤ x) && decide (x ≤ b)
theorem inB_true (x a b : Int) : (inB x a b = true) = (a ≤ x ∧ x ≤ b) := by simp [inB]
theorem inB_false (x a b : Int) : (inB x a b = false) = (x < a ∨ b < x) := by simp [inB]; constructor <;> omega
theorem rds_rf {H : List HObj} {G : List World} {A : Option Addr} {us : List Value} {m : World} (h : Rd m A us) (hm : m ∈ G) : Rds H G A us := rds_ref hm h
theorem ps_indexN {P : Program} {E : Env} {H : List HObj} {G : List World} {o : Oper} {x y : Operand} {t e sz bytes : TypeId} {A : Option Addr} {n c i : Nat} {k : IntKind} [ht : EL P t e sz bytes] (ho : o.op = .indexAddr t x y) (hx : opd E x = some (.slice A n c)) (hy : opd E y = some (.int k (i : Int))) (h : i < n) (hA : IsSW H G A) : PStep P E H G o (pt A (i * sz)) := by
  have := ps_index (P := P) (H := H) (G := G) ho hx hy (by omega) hA
  rwa [Int.toNat_natCast] at this
theorem isS_fl {α : Type} [Dat α] {m : World} {A : Option Addr} {l : List α} (h : Rd m A (fl l)) (hl : 0 < l.length) (hz : 0 < Dat.sz α := by decide) : IsS A := isS_rd h (by rw [fl_len]; exact Nat.mul_pos hl hz)

end Go.Proofs.YtmfojbidojjciaaGreat
namespace Go.Proofs.YtmfojbidojjciaaGreat
theorem jA {p : Prop} [Decidable p] : (decide p = true) = p := decide_eq_true_eq
theorem jB {p : Prop} [Decidable p] : (decide p = false) ↔ ¬ p := decide_eq_false_iff_not
theorem jC (a b : Bool) : ((a || b) = true) = (a = true ∨ b = true) := Bool.or_eq_true a b
theorem jD {a b : Bool} : (a || b) = false ↔ a = false ∧ b = false := Bool.or_eq_false_iff
theorem jE (a b : Bool) : ((a && b) = true) = (a = true ∧ b = true) := Bool.and_eq_true a b
theorem jF {a b : Bool} : (a && b) = false ↔ a = false ∨ b = false := Bool.and_eq_false_iff
theorem jG (b : Bool) : ((!b) = true) = (b = false) := Bool.not_eq_true' b
theorem jH (b : Bool) : ((!b) = false) = (b = true) := Bool.not_eq_false' b
theorem jI {α : Type} [BEq α] [LawfulBEq α] {a b : α} : (a != b) = true ↔ a ≠ b := bne_iff_ne
theorem jJ {α : Type} [BEq α] [LawfulBEq α] {a b : α} : (a == b) = true ↔ a = b := beq_iff_eq
theorem jK {α : Type} [BEq α] [LawfulBEq α] {a b : α} : (a != b) = false ↔ a = b := bne_eq_false_iff_eq
theorem jL {α : Type} [BEq α] [LawfulBEq α] {a b : α} : (a == b) = false ↔ a ≠ b := beq_eq_false_iff_ne
theorem jM {α : Type} (a b : α) : (a ≠ b) = ¬(a = b) := ne_eq a b
theorem jN : (!true) = false := Bool.not_true
theorem jO : (!false) = true := Bool.not_false
theorem jP : (false = true) = False := Bool.false_eq_true
theorem jQ : (true = false) = False := Bool.true_eq_false
theorem jR (x a b : Int) : (inB x a b = true) = (a ≤ x ∧ x ≤ b) := inB_true x a b
theorem jS (x a b : Int) : (inB x a b = false) = (x < a ∨ b < x) := inB_false x a b
theorem jj : (∀ {p : Prop} [Decidable p], (decide p = true) = p) ∧ (∀ {p : Prop} [Decidable p], (decide p = false) ↔ ¬ p) ∧ (∀ (a b : Bool), ((a || b) = true) = (a = true ∨ b = true)) ∧ (∀ {a b : Bool}, (a || b) = false ↔ a = false ∧ b = false) ∧ (∀ (a b : Bool), ((a && b) = true) = (a = true ∧ b = true)) ∧ (∀ {a b : Bool}, (a && b) = false ↔ a = false ∨ b = false) ∧ (∀ (b : Bool), ((!b) = true) = (b = false)) ∧ (∀ (b : Bool), ((!b) = false) = (b = true)) ∧ (∀ {α : Type} [BEq α] [LawfulBEq α] {a b : α}, (a != b) = true ↔ a ≠ b) ∧ (∀ {α : Type} [BEq α] [LawfulBEq α] {a b : α}, (a == b) = true ↔ a = b) ∧ (∀ {α : Type} [BEq α] [LawfulBEq α] {a b : α}, (a != b) = false ↔ a = b) ∧ (∀ {α : Type} [BEq α] [LawfulBEq α] {a b : α}, (a == b) = false ↔ a ≠ b) ∧ (∀ {α : Type} (a b : α), (a ≠ b) = ¬(a = b)) ∧ ((!true) = false) ∧ ((!false) = true) ∧ ((false = true) = False) ∧ ((true = false) = False) ∧ (∀ (x a b : Int), (inB x a b = true) = (a ≤ x ∧ x ≤ b)) ∧ (∀ (x a b : Int), (inB x a b = false) = (x < a ∨ b < x)) := ⟨@jA, @jB, @jC, @jD, @jE, @jF, @jG, @jH, @jI, @jJ, @jK, @jL, @jM, @jN, @jO, @jP, @jQ, @jR, @jS⟩
theorem Og {E : Env} {x : Operand} {p : Bool} {v : Value} (h : opd E x = some (gv p v)) (hp : p = true := by assumption) : opd E x = some v := og h hp
section
variable {P : Program} {N base : Nat} {w0 : World} {E : Env} {H : List HObj} {G : List World} {ops : Array Oper} {Q : Exit → Act → World → Prop} {o : Oper} {rest : List Oper}
theorem ok_ne (E' : Env) (hs : Sub E' E) (h : Ok N base w0 E' H G (Q .normal)) : Ok N base w0 E H G (wpList P ops Q []) := ok_nil (ok_env E' hs h)
theorem Ze0 (h : Ok N base w0 [] H G (Q .normal)) : Ok N base w0 E H G (wpList P ops Q []) := ok_ne [] trivial h
theorem Ze1 (a0 : Nat) {u0 : Value} (h : Ok N base w0 [(a0, u0)] H G (Q .normal)) (h0 : look E a0 = some u0 := by exact rfl) : Ok N base w0 E H G (wpList P ops Q []) := ok_ne [(a0, u0)] ⟨h0, trivial⟩ h
theorem Ze2 (a0 a1 : Nat) {u0 u1 : Value} (h : Ok N base w0 [(a0, u0), (a1, u1)] H G (Q .normal)) (h0 : look E a0 = some u0 := by exact rfl) (h1 : look E a1 = some u1 := by exact rfl) : Ok N base w0 E H G (wpList P ops Q []) := ok_ne [(a0, u0), (a1, u1)] ⟨h0, h1, trivial⟩ h
theorem Ze3 (a0 a1 a2 : Nat) {u0 u1 u2 : Value} (h : Ok N base w0 [(a0, u0), (a1, u1), (a2, u2)] H G (Q .normal)) (h0 : look E a0 = some u0 := by exact rfl) (h1 : look E a1 = some u1 := by exact rfl) (h2 : look E a2 = some u2 := by exact rfl) : Ok N base w0 E H G (wpList P ops Q []) := ok_ne [(a0, u0), (a1, u1), (a2, u2)] ⟨h0, h1, h2, trivial⟩ h
theorem Ze4 (a0 a1 a2 a3 : Nat) {u0 u1 u2 u3 : Value} (h : Ok N base w0 [(a0, u0), (a1, u1), (a2, u2), (a3, u3)] H G (Q .normal)) (h0 : look E a0 = some u0 := by exact rfl) (h1 : look E a1 = some u1 := by exact rfl) (h2 : look E a2 = some u2 := by exact rfl) (h3 : look E a3 = some u3 := by exact rfl) : Ok N base w0 E H G (wpList P ops Q []) := ok_ne [(a0, u0), (a1, u1), (a2, u2), (a3, u3)] ⟨h0, h1, h2, h3, trivial⟩ h
theorem Ze5 (a0 a1 a2 a3 a4 : Nat) {u0 u1 u2 u3 u4 : Value} (h : Ok N base w0 [(a0, u0), (a1, u1), (a2, u2), (a3, u3), (a4, u4)] H G (Q .normal)) (h0 : look E a0 = some u0 := by exact rfl) (h1 : look E a1 = some u1 := by exact rfl) (h2 : look E a2 = some u2 := by exact rfl) (h3 : look E a3 = some u3 := by exact rfl) (h4 : look E a4 = some u4 := by exact rfl) : Ok N base w0 E H G (wpList P ops Q []) := ok_ne [(a0, u0), (a1, u1), (a2, u2), (a3, u3), (a4, u4)] ⟨h0, h1, h2, h3, h4, trivial⟩ h
theorem Ze6 (a0 a1 a2 a3 a4 a5 : Nat) {u0 u1 u2 u3 u4 u5 : Value} (h : Ok N base w0 [(a0, u0), (a1, u1), (a2, u2), (a3, u3), (a4, u4), (a5, u5)] H G (Q .normal)) (h0 : look E a0 = some u0 := by exact rfl) (h1 : look E a1 = some u1 := by exact rfl) (h2 : look E a2 = some u2 := by exact rfl) (h3 : look E a3 = some u3 := by exact rfl) (h4 : look E a4 = some u4 := by exact rfl) (h5 : look E a5 = some u5 := by exact rfl) : Ok N base w0 E H G (wpList P ops Q []) := ok_ne [(a0, u0), (a1, u1), (a2, u2), (a3, u3), (a4, u4), (a5, u5)] ⟨h0, h1, h2, h3, h4, h5, trivial⟩ h
theorem Ze7 (a0 a1 a2 a3 a4 a5 a6 : Nat) {u0 u1 u2 u3 u4 u5 u6 : Value} (h : Ok N base w0 [(a0, u0), (a1, u1), (a2, u2), (a3, u3), (a4, u4), (a5, u5), (a6, u6)] H G (Q .normal)) (h0 : look E a0 = some u0 := by exact rfl) (h1 : look E a1 = some u1 := by exact rfl) (h2 : look E a2 = some u2 := by exact rfl) (h3 : look E a3 = some u3 := by exact rfl) (h4 : look E a4 = some u4 := by exact rfl) (h5 : look E a5 = some u5 := by exact rfl) (h6 : look E a6 = some u6 := by exact rfl) : Ok N base w0 E H G (wpList P ops Q []) := ok_ne [(a0, u0), (a1, u1), (a2, u2), (a3, u3), (a4, u4), (a5, u5), (a6, u6)] ⟨h0, h1, h2, h3, h4, h5, h6, trivial⟩ h
theorem Ze8 (a0 a1 a2 a3 a4 a5 a6 a7 : Nat) {u0 u1 u2 u3 u4 u5 u6 u7 : Value} (h : Ok N base w0 [(a0, u0), (a1, u1), (a2, u2), (a3, u3), (a4, u4), (a5, u5), (a6, u6), (a7, u7)] H G (Q .normal)) (h0 : look E a0 = some u0 := by exact rfl) (h1 : look E a1 = some u1 := by exact rfl) (h2 : look E a2 = some u2 := by exact rfl) (h3 : look E a3 = some u3 := by exact rfl) (h4 : look E a4 = some u4 := by exact rfl) (h5 : look E a5 = some u5 := by exact rfl) (h6 : look E a6 = some u6 := by exact rfl) (h7 : look E a7 = some u7 := by exact rfl) : Ok N base w0 E H G (wpList P ops Q []) := ok_ne [(a0, u0), (a1, u1), (a2, u2), (a3, u3), (a4, u4), (a5, u5), (a6, u6), (a7, u7)] ⟨h0, h1, h2, h3, h4, h5, h6, h7, trivial⟩ h
theorem Ze9 (a0 a1 a2 a3 a4 a5 a6 a7 a8 : Nat) {u0 u1 u2 u3 u4 u5 u6 u7 u8 : Value} (h : Ok N base w0 [(a0, u0), (a1, u1), (a2, u2), (a3, u3), (a4, u4), (a5, u5), (a6, u6), (a7, u7), (a8, u8)] H G (Q .normal)) (h0 : look E a0 = some u0 := by exact rfl) (h1 : look E a1 = some u1 := by exact rfl) (h2 : look E a2 = some u2 := by exact rfl) (h3 : look E a3 = some u3 := by exact rfl) (h4 : look E a4 = some u4 := by exact rfl) (h5 : look E a5 = some u5 := by exact rfl) (h6 : look E a6 = some u6 := by exact rfl) (h7 : look E a7 = some u7 := by exact rfl) (h8 : look E a8 = some u8 := by exact rfl) : Ok N base w0 E H G (wpList P ops Q []) := ok_ne [(a0, u0), (a1, u1), (a2, u2), (a3, u3), (a4, u4), (a5, u5), (a6, u6), (a7, u7), (a8, u8)] ⟨h0, h1, h2, h3, h4, h5, h6, h7, h8, trivial⟩ h
theorem Ze10 (a0 a1 a2 a3 a4 a5 a6 a7 a8 a9 : Nat) {u0 u1 u2 u3 u4 u5 u6 u7 u8 u9 : Value} (h : Ok N base w0 [(a0, u0), (a1, u1), (a2, u2), (a3, u3), (a4, u4), (a5, u5), (a6, u6), (a7, u7), (a8, u8), (a9, u9)] H G (Q .normal)) (h0 : look E a0 = some u0 := by exact rfl) (h1 : look E a1 = some u1 := by exact rfl) (h2 : look E a2 = some u2 := by exact rfl) (h3 : look E a3 = some u3 := by exact rfl) (h4 : look E a4 = some u4 := by exact rfl) (h5 : look E a5 = some u5 := by exact rfl) (h6 : look E a6 = some u6 := by exact rfl) (h7 : look E a7 = some u7 := by exact rfl) (h8 : look E a8 = some u8 := by exact rfl) (h9 : look E a9 = some u9 := by exact rfl) : Ok N base w0 E H G (wpList P ops Q []) := ok_ne [(a0, u0), (a1, u1), (a2, u2), (a3, u3), (a4, u4), (a5, u5), (a6, u6), (a7, u7), (a8, u8), (a9, u9)] ⟨h0, h1, h2, h3, h4, h5, h6, h7, h8, h9, trivial⟩ h
theorem Ze11 (a0 a1 a2 a3 a4 a5 a6 a7 a8 a9 a10 : Nat) {u0 u1 u2 u3 u4 u5 u6 u7 u8 u9 u10 : Value} (h : Ok N base w0 [(a0, u0), (a1, u1), (a2, u2), (a3, u3), (a4, u4), (a5, u5), (a6, u6), (a7, u7), (a8, u8), (a9, u9), (a10, u10)] H G (Q .normal)) (h0 : look E a0 = some u0 := by exact rfl) (h1 : look E a1 = some u1 := by exact rfl) (h2 : look E a2 = some u2 := by exact rfl) (h3 : look E a3 = some u3 := by exact rfl) (h4 : look E a4 = some u4 := by exact rfl) (h5 : look E a5 = some u5 := by exact rfl) (h6 : look E a6 = some u6 := by exact rfl) (h7 : look E a7 = some u7 := by exact rfl) (h8 : look E a8 = some u8 := by exact rfl) (h9 : look E a9 = some u9 := by exact rfl) (h10 : look E a10 = some u10 := by exact rfl) : Ok N base w0 E H G (wpList P ops Q []) := ok_ne [(a0, u0), (a1, u1), (a2, u2), (a3, u3), (a4, u4), (a5, u5), (a6, u6), (a7, u7), (a8, u8), (a9, u9), (a10, u10)] ⟨h0, h1, h2, h3, h4, h5, h6, h7, h8, h9, h10, trivial⟩ h
theorem Ze12 (a0 a1 a2 a3 a4 a5 a6 a7 a8 a9 a10 a11 : Nat) {u0 u1 u2 u3 u4 u5 u6 u7 u8 u9 u10 u11 : Value} (h : Ok N base w0 [(a0, u0), (a1, u1), (a2, u2), (a3, u3), (a4, u4), (a5, u5), (a6, u6), (a7, u7), (a8, u8), (a9, u9), (a10, u10), (a11, u11)] H G (Q .normal)) (h0 : look E a0 = some u0 := by exact rfl) (h1 : look E a1 = some u1 := by exact rfl) (h2 : look E a2 = some u2 := by exact rfl) (h3 : look E a3 = some u3 := by exact rfl) (h4 : look E a4 = some u4 := by exact rfl) (h5 : look E a5 = some u5 := by exact rfl) (h6 : look E a6 = some u6 := by exact rfl) (h7 : look E a7 = some u7 := by exact rfl) (h8 : look E a8 = some u8 := by exact rfl) (h9 : look E a9 = some u9 := by exact rfl) (h10 : look E a10 = some u10 := by exact rfl) (h11 : look E a11 = some u11 := by exact rfl) : Ok N base w0 E H G (wpList P ops Q []) := ok_ne [(a0, u0), (a1, u1), (a2, u2), (a3, u3), (a4, u4), (a5, u5), (a6, u6), (a7, u7), (a8, u8), (a9, u9), (a10, u10), (a11, u11)] ⟨h0, h1, h2, h3, h4, h5, h6, h7, h8, h9, h10, h11, trivial⟩ h
theorem Ze13 (a0 a1 a2 a3 a4 a5 a6 a7 a8 a9 a10 a11 a12 : Nat) {u0 u1 u2 u3 u4 u5 u6 u7 u8 u9 u10 u11 u12 : Value} (h : Ok N base w0 [(a0, u0), (a1, u1), (a2, u2), (a3, u3), (a4, u4), (a5, u5), (a6, u6), (a7, u7), (a8, u8), (a9, u9), (a10, u10), (a11, u11), (a12, u12)] H G (Q .normal)) (h0 : look E a0 = some u0 := by exact rfl) (h1 : look E a1 = some u1 := by exact rfl) (h2 : look E a2 = some u2 := by exact rfl) (h3 : look E a3 = some u3 := by exact rfl) (h4 : look E a4 = some u4 := by exact rfl) (h5 : look E a5 = some u5 := by exact rfl) (h6 : look E a6 = some u6 := by exact rfl) (h7 : look E a7 = some u7 := by exact rfl) (h8 : look E a8 = some u8 := by exact rfl) (h9 : look E a9 = some u9 := by exact rfl) (h10 : look E a10 = some u10 := by exact rfl) (h11 : look E a11 = some u11 := by exact rfl) (h12 : look E a12 = some u12 := by exact rfl) : Ok N base w0 E H G (wpList P ops Q []) := ok_ne [(a0, u0), (a1, u1), (a2, u2), (a3, u3), (a4, u4), (a5, u5), (a6, u6), (a7, u7), (a8, u8), (a9, u9), (a10, u10), (a11, u11), (a12, u12)] ⟨h0, h1, h2, h3, h4, h5, h6, h7, h8, h9, h10, h11, h12, trivial⟩ h
theorem Ze14 (a0 a1 a2 a3 a4 a5 a6 a7 a8 a9 a10 a11 a12 a13 : Nat) {u0 u1 u2 u3 u4 u5 u6 u7 u8 u9 u10 u11 u12 u13 : Value} (h : Ok N base w0 [(a0, u0), (a1, u1), (a2, u2), (a3, u3), (a4, u4), (a5, u5), (a6, u6), (a7, u7), (a8, u8), (a9, u9), (a10, u10), (a11, u11), (a12, u12), (a13, u13)] H G (Q .normal)) (h0 : look E a0 = some u0 := by exact rfl) (h1 : look E a1 = some u1 := by exact rfl) (h2 : look E a2 = some u2 := by exact rfl) (h3 : look E a3 = some u3 := by exact rfl) (h4 : look E a4 = some u4 := by exact rfl) (h5 : look E a5 = some u5 := by exact rfl) (h6 : look E a6 = some u6 := by exact rfl) (h7 : look E a7 = some u7 := by exact rfl) (h8 : look E a8 = some u8 := by exact rfl) (h9 : look E a9 = some u9 := by exact rfl) (h10 : look E a10 = some u10 := by exact rfl) (h11 : look E a11 = some u11 := by exact rfl) (h12 : look E a12 = some u12 := by exact rfl) (h13 : look E a13 = some u13 := by exact rfl) : Ok N base w0 E H G (wpList P ops Q []) := ok_ne [(a0, u0), (a1, u1), (a2, u2), (a3, u3), (a4, u4), (a5, u5), (a6, u6), (a7, u7), (a8, u8), (a9, u9), (a10, u10), (a11, u11), (a12, u12), (a13, u13)] ⟨h0, h1, h2, h3, h4, h5, h6, h7, h8, h9, h10, h11, h12, h13, trivial⟩ h
theorem Zq {v : Value} {td : Nat} (hs : PStep P E H G o v) (h : Ok N base w0 ((td, v) :: E) H G (wpList P ops Q rest)) (hg : o.guard = none := by exact rfl) (hdt : o.dst = some td := by exact rfl) (hd : Nat.blt td N = true := by exact rfl) : Ok N base w0 E H G (wpList P ops Q (o :: rest)) := ok_p hg hdt hd hs h
theorem Zm {td : Nat} {x : Operand} {v : Value} (h : Ok N base w0 ((td, v) :: E) H G (wpList P ops Q rest)) (hg : o.guard = none := by exact rfl) (hdt : o.dst = some td := by exact rfl) (hd : Nat.blt td N = true := by exact rfl) (ho : o.op = .move x := by exact rfl) (hx : opd E x = some v := by exact rfl) : Ok N base w0 E H G (wpList P ops Q (o :: rest)) := ok_p hg hdt hd (ps_move ho hx) h
theorem Za {td : Nat} {x : Operand} {v : Value} (h : Ok N base w0 ((td, v) :: E) H G (wpList P ops Q rest)) (hg : o.guard = none := by exact rfl) (hdt : o.dst = some td := by exact rfl) (hd : Nat.blt td N = true := by exact rfl) (ho : o.op = .assign x := by exact rfl) (hx : opd E x = some v := by exact rfl) : Ok N base w0 E H G (wpList P ops Q (o :: rest)) := ok_p hg hdt hd (ps_assign ho hx) h
theorem Zf {td : Nat} {x : Operand} {s f off k g : Nat} [hf : FO P s f off] (h : Ok N base w0 ((td, pt (ga g) (k + off)) :: E) H G (wpList P ops Q rest)) (hg : o.guard = none := by exact rfl) (hdt : o.dst = some td := by exact rfl) (hd : Nat.blt td N = true := by exact rfl) (ho : o.op = .fieldAddr s x f := by exact rfl) (hx : opd E x = some (pt (ga g) k) := by exact rfl) : Ok N base w0 E H G (wpList P ops Q (o :: rest)) := ok_p hg hdt hd (ps_field ho hx (isw_ga _)) h
theorem Zl (i : Nat) {td : Nat} {x : Operand} {s sz g k e : Nat} {cs : List Value} {u : Value} [hl : LD P s sz false] (h : Ok N base w0 ((td, u) :: E) H G (wpList P ops Q rest)) (hg : o.guard = none := by exact rfl) (hdt : o.dst = some td := by exact rfl) (hd : Nat.blt td N = true := by exact rfl) (ho : o.op = .load s x := by exact rfl) (hx : opd E x = some (pt (ga g) k) := by exact rfl) (hi : H[i]? = some (.box g e cs) := by exact rfl) (hu : cs[k]? = some u := by exact rfl) : Ok N base w0 E H G (wpList P ops Q (o :: rest)) := ok_p hg hdt hd (ps_load ho hx (Rds.cell (rds_box i hi) hu)) h
theorem Zi {td : Nat} {p : BinOp} {x y : Operand} {s s2 : TypeId} {k : IntKind} {m n : Int} {v : Value} (h : Ok N base w0 ((td, v) :: E) H G (wpList P ops Q rest)) (hg : o.guard = none := by exact rfl) (hdt : o.dst = some td := by exact rfl) (hd : Nat.blt td N = true := by exact rfl) (ho : o.op = .binOp p s x y s2 := by exact rfl) (hx : opd E x = some (.int k m) := by exact rfl) (hy : opd E y = some (.int k n) := by exact rfl) (hv : intOp p k m n = some v := by exact rfl) : Ok N base w0 E H G (wpList P ops Q (o :: rest)) := ok_p hg hdt hd (ps_int ho hx hy hv) h
theorem Zg {v : Value} {j d : Nat} {want c : Bool} {p : Bool} {td : Nat} (hg : o.guard = some (j, want)) (hj : (ops[j]?).bind (·.dst) = some d) (hv : look E d = some (.bool c)) (hp : (c == want) = p) (hs : p = true → PStep P E H G o v) (h : Ok N base w0 ((td, (gv p v)) :: E) H G (wpList P ops Q rest)) (hdt : o.dst = some td := by exact rfl) (hd : Nat.blt td N = true := by exact rfl) : Ok N base w0 E H G (wpList P ops Q (o :: rest)) := ok_pg hg hj hv hdt hd hp hs h
theorem Zh {u : Value} {j d : Nat} {want c : Bool} {p : Bool} {td : Nat} (hg : o.guard = some (j, want)) (hj : (ops[j]?).bind (·.dst) = some d) (hv : look E d = some (.bool c)) (hp : (c == want) = p) (hs : p = true → MStep P E H G o (fun _ => True) (fun _ => u) (fun _ => H) (fun _ => G)) (h : Ok N base w0 ((td, (gv p u)) :: E) H G (wpList P ops Q rest)) (hdt : o.dst = some td := by exact rfl) (hd : Nat.blt td N = true := by exact rfl) : Ok N base w0 E H G (wpList P ops Q (o :: rest)) := ok_mg hg hj hv hdt hd hp hs h
theorem Zn {F : Ys → Prop} {v : Ys → Value} {H' : Ys → List HObj} {G' : Ys → List World} {td : Nat} (hs : MStep P E H G o F v H' G') (h : ∀ y, F y → Ok N base w0 ((td, v y) :: E) (H' y) (G' y) (wpList P ops Q rest)) (hg : o.guard = none := by exact rfl) (hdt : o.dst = some td := by exact rfl) (hd : Nat.blt td N = true := by exact rfl) : Ok N base w0 E H G (wpList P ops Q (o :: rest)) := ok_m hg hdt hd hs h
theorem Zo {F : Ys → Prop} {v : Ys → Value} {H' : Ys → List HObj} {G' : Ys → List World} (hs : MStep P E H G o F v H' G') (h : ∀ y, F y → Ok N base w0 E (H' y) (G' y) (wpList P ops Q rest)) (hg : o.guard = none := by exact rfl) (hd : o.dst = none := by exact rfl) : Ok N base w0 E H G (wpList P ops Q (o :: rest)) := ok_m_ hg hd hs h
theorem Zr (i : Nat) {l : List Oper} (h : Ok N base w0 E H G (wpList P l.toArray Q l)) : Ok N base w0 E H G ((Code.region i l.toArray false).wp P Q) := ok_region h
end
section
variable {P : Program} {N base : Nat} {w0 : World} {E : Env} {H HS : List HObj} {G GS : List World} {Q : Exit → Act → World → Prop} {ops : Array Oper} {tl : List Oper} {n f : Nat} {listed : Array Bool} {o : Oper} {td : Nat}
theorem Xt (i : Nat) {v : Value} (hi : ops[i]? = some o) (hs : PStep P E HS GS o v) (h : OkT P ops Q tl n N base w0 HS GS f (listed.setIfInBounds i true) ((td, v) :: E) H G) (ht : takeB ops n listed i = true := by kernel_rfl) (hdt : o.dst = some td := by exact rfl) (hd : Nat.blt td N = true := by exact rfl) (hg : o.guard = none := by exact rfl) : OkT P ops Q tl n N base w0 HS GS (f + 1) listed E H G := okT_take hi ht hdt hd hg hs h
theorem Xm (i : Nat) {x : Operand} {v : Value} (h : OkT P ops Q tl n N base w0 HS GS f (listed.setIfInBounds i true) ((td, v) :: E) H G) (hi : ops[i]? = some o := by exact rfl) (ht : takeB ops n listed i = true := by kernel_rfl) (hdt : o.dst = some td := by exact rfl) (hd : Nat.blt td N = true := by exact rfl) (hg : o.guard = none := by exact rfl) (ho : o.op = .move x := by exact rfl) (hx : opd E x = some v := by exact rfl) : OkT P ops Q tl n N base w0 HS GS (f + 1) listed E H G := okT_take hi ht hdt hd hg (ps_move ho hx) h
theorem Xf (i : Nat) {x : Operand} {s fi off k g : Nat} [hf : FO P s fi off] (h : OkT P ops Q tl n N base w0 HS GS f (listed.setIfInBounds i true) ((td, pt (ga g) (k + off)) :: E) H G) (hi : ops[i]? = some o := by exact rfl) (ht : takeB ops n listed i = true := by kernel_rfl) (hdt : o.dst = some td := by exact rfl) (hd : Nat.blt td N = true := by exact rfl) (hg : o.guard = none := by exact rfl) (ho : o.op = .fieldAddr s x fi := by exact rfl) (hx : opd E x = some (pt (ga g) k) := by exact rfl) : OkT P ops Q tl n N base w0 HS GS (f + 1) listed E H G := okT_take hi ht hdt hd hg (ps_field ho hx (isw_ga _)) h
theorem Xl (i q : Nat) {x : Operand} {s sz g k e : Nat} {cs : List Value} {u : Value} [hl : LD P s sz false] (h : OkT P ops Q tl n N base w0 HS GS f (listed.setIfInBounds i true) ((td, u) :: E) H G) (hi : ops[i]? = some o := by exact rfl) (ht : takeB ops n listed i = true := by kernel_rfl) (hdt : o.dst = some td := by exact rfl) (hd : Nat.blt td N = true := by exact rfl) (hg : o.guard = none := by exact rfl) (ho : o.op = .load s x := by exact rfl) (hx : opd E x = some (pt (ga g) k) := by exact rfl) (hq : HS[q]? = some (.box g e cs) := by exact rfl) (hu : cs[k]? = some u := by exact rfl) : OkT P ops Q tl n N base w0 HS GS (f + 1) listed E H G := okT_take hi ht hdt hd hg (ps_load ho hx (Rds.cell (rds_box q hq) hu)) h
theorem Xg (i : Nat) {j d : Nat} {v : Value} {want c : Bool} {p : Bool} (hi : ops[i]? = some o) (hg : o.guard = some (j, want)) (hj : (ops[j]?).bind (·.dst) = some d) (hv : look E d = some (.bool c)) (hp : (c == want) = p) (hs : p = true → PStep P E HS GS o v) (h : OkT P ops Q tl n N base w0 HS GS f (listed.setIfInBounds i true) ((td, gv p v) :: E) H G) (ht : takeB ops n listed i = true := by kernel_rfl) (hdt : o.dst = some td := by exact rfl) (hd : Nat.blt td N = true := by exact rfl) : OkT P ops Q tl n N base w0 HS GS (f + 1) listed E H G := okT_take_g1 hi ht hdt hd hg hj hv hp hs h
theorem Xh (i : Nat) {j d : Nat} {v : Value} {want c q : Bool} {p : Bool} (hi : ops[i]? = some o) (hg : o.guard = some (j, want)) (hj : (ops[j]?).bind (·.dst) = some d) (hv : look E d = some (gv q (.bool c))) (hp : (c == want) = p) (hs : q = true → p = true → (q && p) = true → PStep P E HS GS o v) (h : OkT P ops Q tl n N base w0 HS GS f (listed.setIfInBounds i true) ((td, gv (q && p) v) :: E) H G) (ht : takeB ops n listed i = true := by kernel_rfl) (hdt : o.dst = some td := by exact rfl) (hd : Nat.blt td N = true := by exact rfl) : OkT P ops Q tl n N base w0 HS GS (f + 1) listed E H G := okT_take_g hi ht hdt hd hg hj hv hp hs h
theorem Xo (i : Nat) {F : Ys → Prop} {v : Ys → Value} {H' : Ys → List HObj} {G' : Ys → List World} (hi : ops[i]? = some o) (hs : MStep P E H G o F v H' G') (hS : ∀ y w, F y → WOk base w0 (H' y) (G' y) w → WOk base w0 HS GS w) (h : ∀ y, F y → OkT P ops Q tl n N base w0 HS GS f (listed.setIfInBounds i true) ((td, v y) :: E) (H' y) (G' y)) (hin : Nat.blt i n = true := by exact rfl) (hr : Region.ready .any ops listed = [i] := by kernel_rfl) (hdt : o.dst = some td := by exact rfl) (hd : Nat.blt td N = true := by exact rfl) (hg : o.guard = none := by exact rfl) : OkT P ops Q tl n N base w0 HS GS (f + 1) listed E H G := okT_one hi hin hr hdt hd hg hs hS h
theorem Xd (id n : Nat) {l : List Oper} (h : OkT P l.toArray Q tl n N base w0 HS G n (Array.replicate l.length false) E H G) (htl : l.drop n = tl := by exact rfl) (hm : P.follows .mixedOrders = true := by kernel_rfl) (hB : HeadB .any l.toArray n = true := by kernel_rfl) (hn : Nat.ble n l.length = true := by exact rfl) (hQ : PQ Q := by repeat (first | exact pq_body | refine pq_then ?_ | refine pq_in ?_)) (hHS : HS = [0, 1, 2, 3, 4, 5, 6, 7, 8, 9, 10, 11, 12, 13, 14, 15, 16, 17, 18, 19, 20, 21, 22, 23].filterMap (fun i => H[i]?) := by exact rfl) : Ok N base w0 E H G ((Code.region id l.toArray true).wp P Q) := ok_draw n htl hm hB hn hQ _ (by decide) hHS h
end
section
variable {P : Program} {N base : Nat} {w0 : World} {E : Env} {H : List HObj} {G : List World} {Q : Exit → Act → World → Prop} {K : Act → World → Prop}
theorem Wa {x y : Code} (h : Ok N base w0 E H G (x.wp P (Exit.then (y.wp P Q) Q))) : Ok N base w0 E H G ((Code.seq x y).wp P Q) := ok_seq h
theorem Wb {k : Act → World → Prop} (h : Ok N base w0 E H G k) : Ok N base w0 E H G (Exit.then k Q .normal) := h
theorem Wc {k : Act → World → Prop} (h : Ok N base w0 E H G (Q .ret)) : Ok N base w0 E H G (Exit.then k Q .ret) := h
theorem Wd {i : Nat} {x : Code} (h : Ok N base w0 E H G (x.wp P (Exit.inBlock i Q))) : Ok N base w0 E H G ((Code.block i x).wp P Q) := ok_block h
theorem We {i : Nat} (h : Ok N base w0 E H G (Q .normal)) : Ok N base w0 E H G (Exit.inBlock i Q .normal) := h
theorem Wf {i : Nat} (h : Ok N base w0 E H G (Q .ret)) : Ok N base w0 E H G (Exit.inBlock i Q .ret) := h
theorem Wg (h : Ok N base w0 E H G (Q .ret)) : Ok N base w0 E H G (Code.ret.wp P Q) := ok_ret h
theorem Wh {i : Nat} (h : Ok N base w0 E H G (Q (.exit i))) : Ok N base w0 E H G ((Code.exit i).wp P Q) := ok_exit h
theorem Wi (h : Ok N base w0 E H G (Q .normal)) : Ok N base w0 E H G (Code.skip.wp P Q) := ok_skip h
end
end Go.Proofs.YtmfojbidojjciaaGreat
namespace Go.Proofs.YtmfojbidojjciaaGreat
open Go.RowKit
def ResL (P : Program) (E : Env) (H : List HObj) : List ResultVar → List Value → Prop
  | [],[] => True
  | .tmp t :: rs,v :: vs => look E t = some v ∧ ResL P E H rs vs
  | .cell a t :: rs,v :: vs => (∃ (g i e sz : Nat) (cs : List Value),look E a = some (pt (ga g) 0) ∧ H[i]? = some (.box g e cs) ∧ LD P t sz true ∧ cs.length = sz ∧ v = .agg cs.toArray) ∧ ResL P E H rs vs
  | _,_ => False
def retV : List Value → Value
  | [v] => v
  | vs => .tuple vs.toArray
section
variable {P : Program} {N base : Nat} {w0 : World} {E : Env} {H : List HObj} {G : List World} {Q : Exit → Act → World → Prop} {o : Oper} {ops : Array Oper} {rest : List Oper} {F : Ys → Prop} {v : Ys → Value} {H' : Ys → List HObj} {G' : Ys → List World}
theorem run_cell {a : Act} {w : World} {g e sz t : Nat} {cs : List Value} (hw : w.heap[g]? = some (.cells cs.toArray e (0,0))) (hl : LD P t sz true) (hn : cs.length = sz) : (loadVar t ⟨g,0,none⟩).run P w = .ok (.agg cs.toArray) w := by
  have h := hl.h
  have hi' : (P.info? t).map (·.size) = some cs.toArray.size := by
    unfold ldB at h
    split at h <;> first | (injection h with h;injection h with h1 h2;rename_i hi;simp [hi,h1,hn]) | cases h
  unfold ldB at h
  split at h
  · rename_i hu hi;exact run_loadVar_row w g e t cs.toArray (0,0) _ hw hu rfl hi'
  · rename_i hu hi;exact run_loadVar_row w g e t cs.toArray (0,0) _ hw hu rfl hi'
  · injection h with h;injection h with h1 h2;cases h2
  · cases h
def resF (tmps : Array Value) : ResultVar → Sem Value
  | .tmp t => pure (tmps.getD t undef)
  | .cell c t => do loadVar t (← asAddr (tmps.getD c undef))
theorem run_res {a : Act} {w : World} (he : EnvOk N E a) (hw : WOk base w0 H G w) : ∀ (rs : List ResultVar) (vs : List Value),ResL P E H rs vs → (rs.mapM (resF a.tmps)).run P w = .ok vs w
  | [],[],_ => by simp
  | .tmp t :: rs,v :: vs,h => by
    have h1 := he.at_ t v h.1
    have ih := run_res he hw rs vs h.2
    simp only [List.mapM_cons,Sem.run_bind,resF,Sem.run_pure,Result.andThen_ok,ih,Array.getD_eq_getD_getElem?,h1,Option.getD_some]
  | .cell c t :: rs,v :: vs,h => by
    obtain ⟨⟨g,i,e,sz,cs,h1,h2,h3,h4,rfl⟩,h5⟩ := h
    have h1 := he.at_ c _ h1
    have ih := run_res he hw rs vs h5
    have hh := (hw.own _ (List.mem_of_getElem? h2)).2
    have hl := run_cell (a := a) hh h3 h4
    simp only [List.mapM_cons,Sem.run_bind,resF,Sem.run_pure,Result.andThen_ok,ih,Array.getD_eq_getD_getElem?,h1,Option.getD_some,pt,ga,Option.map_some,asAddr,ga_add,hl]
theorem ok_endL {fn : Func} {R : Ending → World → Prop} {rs : List ResultVar} {vs : List Value} (hr : fn.results = rs.toArray) (hv : ResL P E H rs vs) (h : ∀ w,WOk base w0 H G w → R (.returned (retV vs)) w) : Ok N base w0 E H G (bodyPost P fn R .ret) := fun a w he hw => by
  have h1 := run_res (P := P) he hw rs vs hv
  refine ⟨he.defers,retV vs,?_,h w hw⟩
  have h2 : (fn.results.mapM (resF a.tmps)).run P w = .ok vs.toArray w := by
    rw [hr,List.mapM_toArray]
    simp only [map_eq_pure_bind,Sem.run_bind,h1,Result.andThen_ok,Sem.run_pure]
  have h3 : results fn a.tmps = (do let vs ← fn.results.mapM (resF a.tmps);pure (if h : vs.size = 1 then vs[0] else .tuple vs)) := by
    unfold results
    congr 2
  rw [h3]
  simp only [Sem.run_bind,h2,Result.andThen_ok,Sem.run_pure]
  rcases vs with _ | ⟨u,_ | ⟨u',l⟩⟩
  · simp [retV]
  · simp [retV]
  · simp [retV]
theorem ok_enterW {f : FuncId} {fn : Func} {c : Code} {args : List Value} {w : World} {R : Ending → World → Prop} (N : Nat) (hf : P.funcs[f]? = some fn) (hb : fn.body = some c) (hn : fn.ntmps = N) (hl : Nat.ble args.length N = true)
    (hw : WOk base w0 H G w) (h : Ok N base w0 (initE 0 args) H G (c.wp P (bodyPost P fn R))) : Calls P f args.toArray w R := by
  have hl' : args.length ≤ N := Nat.le_of_ble_eq_true hl
  refine calls_of_wp hf hb (h _ _ ⟨rfl,?_,?_⟩ hw)
  · simp [hn];omega
  · intro t v hv
    obtain ⟨_,h2⟩ := look_initE args 0 t v hv
    have hlt := (List.getElem?_eq_some_iff.1 h2).1
    simp only [Nat.sub_zero] at h2 hlt
    rw [Array.getElem?_append_left (by simpa using hlt)]
    simpa using h2
theorem ok_endN {fn : Func} {R : Ending → World → Prop} {K : Exit} (h : Ok N base w0 E H G (bodyPost P fn R .ret)) : Ok N base w0 E H G (bodyPost P fn R .normal) := h
theorem NewOk.of {w w' : World} (hw : WOk w.heap.size w0 H G w') : NewOk w.heap.size H [] w' := ⟨hw.own,hw.apart,fun m h => by cases h⟩
theorem ms_callW {f : FuncId} {cl : Operand} {args : Array Operand} {tys : Array TypeId} {vs : List Value} {H1 : List HObj} (hsel : ∀ base w0 w,WOk base w0 H G w → WOk base w0 H1 G w) [hf : FN P f] (ho : o.op = .call { callee := .value cl,args := args,argTypes := tys }) (hcl : opd E cl = some (.func (.func f) #[] #[])) (ha : args.toList.mapM (opd E) = some vs)
    (hc : ∀ base w0 w,WOk base w0 H1 G w → Calls P f vs.toArray w (fun e w' => ∃ y,e = .returned (v y) ∧ F y ∧ WOk base w0 (H' y) (G' y) w')) :
    MStep P E H G o F v H' G' := fun N base w0 a w Q K he hw hK => by
  obtain ⟨fn,c,h1,h2,h3⟩ := hf.h
  have hev : args.map a.eval = vs.toArray := by
    apply Array.ext'
    rw [Array.toList_map]
    generalize args.toList = l at ha
    clear hc ho
    induction l generalizing vs with
    | nil => simp at ha;subst ha;rfl
    | cons q l ih =>
      simp only [List.mapM_cons,Option.bind_eq_bind] at ha
      cases hq : opd E q with
      | none => simp [hq] at ha
      | some u =>
        simp only [hq,Option.bind_some] at ha
        cases hr : l.mapM (opd E) with
        | none => simp [hr] at ha
        | some r =>
          simp only [hr,Option.bind_some] at ha
          cases ha
          simp [he.eval hq,ih hr]
  have hr : (execOp a.eval o).run P w = .ok (.enter f vs.toArray) w := by
    have hfe : a.eval cl = .func (.func f) #[] #[] := he.eval hcl
    have hname : fn.name ≠ "runtime.NumGoroutine" := by simpa using h2
    simp [execOp,ho,resolve,hev,hfe,Deferred.ofValue,invoke,callFunc,h1,hname,h3]
  unfold Oper.wp;rw [hr]
  refine (hc base w0 w (hsel base w0 w hw)).mono fun e w' ⟨y,he',hF,hw'⟩ => ?_
  subst he'
  exact hK y w' hF hw'
theorem ms_w1 {f : FuncId} {tys : Array TypeId} {x0 : Operand} {u0 : Value} {H1 : List HObj} (hsel : ∀ base w0 w,WOk base w0 H G w → WOk base w0 H1 G w) [hf : FN P f] (ho : o.op = .call { callee := .value (.func f),args := #[x0],argTypes := tys }) (h0 : opd E x0 = some u0)
    (hc : ∀ base w0 w,WOk base w0 H1 G w → Calls P f #[u0] w (fun e w' => ∃ y,e = .returned (v y) ∧ F y ∧ WOk base w0 (H' y) (G' y) w')) :
    MStep P E H G o F v H' G' := ms_callW hsel ho rfl (by simp [List.mapM_cons,h0]) hc
theorem ms_w2 {f : FuncId} {tys : Array TypeId} {x0 x1 : Operand} {u0 u1 : Value} {H1 : List HObj} (hsel : ∀ base w0 w,WOk base w0 H G w → WOk base w0 H1 G w) [hf : FN P f] (ho : o.op = .call { callee := .value (.func f),args := #[x0,x1],argTypes := tys }) (h0 : opd E x0 = some u0) (h1 : opd E x1 = some u1)
    (hc : ∀ base w0 w,WOk base w0 H1 G w → Calls P f #[u0,u1] w (fun e w' => ∃ y,e = .returned (v y) ∧ F y ∧ WOk base w0 (H' y) (G' y) w')) :
    MStep P E H G o F v H' G' := ms_callW hsel ho rfl (by simp [List.mapM_cons,h0,h1]) hc
theorem ms_w3 {f : FuncId} {tys : Array TypeId} {x0 x1 x2 : Operand} {u0 u1 u2 : Value} {H1 : List HObj} (hsel : ∀ base w0 w,WOk base w0 H G w → WOk base w0 H1 G w) [hf : FN P f] (ho : o.op = .call { callee := .value (.func f),args := #[x0,x1,x2],argTypes := tys }) (h0 : opd E x0 = some u0) (h1 : opd E x1 = some u1) (h2 : opd E x2 = some u2)
    (hc : ∀ base w0 w,WOk base w0 H1 G w → Calls P f #[u0,u1,u2] w (fun e w' => ∃ y,e = .returned (v y) ∧ F y ∧ WOk base w0 (H' y) (G' y) w')) :
    MStep P E H G o F v H' G' := ms_callW hsel ho rfl (by simp [List.mapM_cons,h0,h1,h2]) hc
theorem ms_w4 {f : FuncId} {tys : Array TypeId} {x0 x1 x2 x3 : Operand} {u0 u1 u2 u3 : Value} {H1 : List HObj} (hsel : ∀ base w0 w,WOk base w0 H G w → WOk base w0 H1 G w) [hf : FN P f] (ho : o.op = .call { callee := .value (.func f),args := #[x0,x1,x2,x3],argTypes := tys }) (h0 : opd E x0 = some u0) (h1 : opd E x1 = some u1) (h2 : opd E x2 = some u2) (h3 : opd E x3 = some u3)
    (hc : ∀ base w0 w,WOk base w0 H1 G w → Calls P f #[u0,u1,u2,u3] w (fun e w' => ∃ y,e = .returned (v y) ∧ F y ∧ WOk base w0 (H' y) (G' y) w')) :
    MStep P E H G o F v H' G' := ms_callW hsel ho rfl (by simp [List.mapM_cons,h0,h1,h2,h3]) hc
theorem ms_w5 {f : FuncId} {tys : Array TypeId} {x0 x1 x2 x3 x4 : Operand} {u0 u1 u2 u3 u4 : Value} {H1 : List HObj} (hsel : ∀ base w0 w,WOk base w0 H G w → WOk base w0 H1 G w) [hf : FN P f] (ho : o.op = .call { callee := .value (.func f),args := #[x0,x1,x2,x3,x4],argTypes := tys }) (h0 : opd E x0 = some u0) (h1 : opd E x1 = some u1) (h2 : opd E x2 = some u2) (h3 : opd E x3 = some u3) (h4 : opd E x4 = some u4)
    (hc : ∀ base w0 w,WOk base w0 H1 G w → Calls P f #[u0,u1,u2,u3,u4] w (fun e w' => ∃ y,e = .returned (v y) ∧ F y ∧ WOk base w0 (H' y) (G' y) w')) :
    MStep P E H G o F v H' G' := ms_callW hsel ho rfl (by simp [List.mapM_cons,h0,h1,h2,h3,h4]) hc
end
theorem putC_len (cs : List Value) (k : Nat) (vs : List Value) (h : k + vs.length ≤ cs.length) : (putC cs k vs).length = cs.length := by simp [putC];omega
theorem putC_fl {α : Type} [Dat α] : ∀ (l : List α) (i : Nat) (x : α),i < l.length → putC (fl l) (i * Dat.sz α) (Dat.cells x) = fl (l.set i x)
  | [],i,x,h => by simp at h
  | y :: l,0,x,_ => by
    simp only [putC,Nat.zero_mul,List.take_zero,List.nil_append,Nat.zero_add,List.set_cons_zero,fl_cons]
    rw [List.drop_left' (by rw [Dat.len,Dat.len])]
  | y :: l,i + 1,x,h => by
    have ih := putC_fl l i x (by simpa using h)
    simp only [putC,List.set_cons_succ,fl_cons] at ih ⊢
    have e1 : (i + 1) * Dat.sz α = (Dat.cells y).length + i * Dat.sz α := by rw [Dat.len,Nat.add_mul];omega
    rw [e1,List.take_length_add_append,Nat.add_assoc,List.drop_append,List.append_assoc,List.append_assoc,← ih]
    simp
theorem putC_at {α : Type} [Dat α] (l : List α) (i off : Nat) (u : Value) (x : α) (h : i < l.length) (ho : off < Dat.sz α) (hx : (Dat.cells (nth l i)).set off u = Dat.cells x) : putC (fl l) (i * Dat.sz α + off) [u] = fl (l.set i x) := by
  rw [← putC_fl l i x h,← hx]
  have hl := fl_len l
  have hlt : i * Dat.sz α + off < (fl l).length := by
    rw [hl]
    have : (i + 1) * Dat.sz α ≤ l.length * Dat.sz α := Nat.mul_le_mul_right _ h
    rw [Nat.add_mul] at this;omega
  have hle : i * Dat.sz α + Dat.sz α ≤ (fl l).length := by
    rw [hl]
    have : (i + 1) * Dat.sz α ≤ l.length * Dat.sz α := Nat.mul_le_mul_right _ h
    rw [Nat.add_mul] at this;omega
  have hcl : (Dat.cells (nth l i)).length = Dat.sz α := Dat.len _
  apply List.ext_getElem?
  intro j
  have hs := fl_sub l i h
  have hg : ∀ q,q < Dat.sz α → (Dat.cells (nth l i))[q]? = (fl l)[i * Dat.sz α + q]? := fun q hq => (fl_at l i q h hq).symm
  simp only [putC,List.getElem?_append,List.getElem?_take,List.getElem?_drop,List.length_append,List.length_take,List.length_set,List.length_cons,List.length_nil,hcl,List.getElem?_set]
  by_cases h1 : j < i * Dat.sz α
  · have a1 : j < min (i * Dat.sz α + off) (fl l).length := by omega
    have a2 : j < min (i * Dat.sz α) (fl l).length := by omega
    simp only [a1,a2,if_true,show j < min (i * Dat.sz α + off) (fl l).length + (0 + 1) from by omega,show j < min (i * Dat.sz α) (fl l).length + Dat.sz α from by omega,show j < i * Dat.sz α + off from by omega,h1]
  · by_cases h2 : j < i * Dat.sz α + Dat.sz α
    · have b2 : ¬ j < min (i * Dat.sz α) (fl l).length := by omega
      have b3 : j < min (i * Dat.sz α) (fl l).length + Dat.sz α := by omega
      simp only [b2,b3,if_true,if_false]
      have e : j - min (i * Dat.sz α) (fl l).length = j - i * Dat.sz α := by omega
      rw [e,hg (j - i * Dat.sz α) (by omega),show i * Dat.sz α + (j - i * Dat.sz α) = j from by omega]
      by_cases h3 : j < i * Dat.sz α + off
      · have c1 : j < min (i * Dat.sz α + off) (fl l).length := by omega
        simp only [c1,if_true,show j < min (i * Dat.sz α + off) (fl l).length + (0 + 1) from by omega,h3,show ¬ off = j - i * Dat.sz α from by omega,if_false]
      · by_cases h4 : j = i * Dat.sz α + off
        · subst h4
          have c1 : ¬ i * Dat.sz α + off < min (i * Dat.sz α + off) (fl l).length := by omega
          have c2 : i * Dat.sz α + off < min (i * Dat.sz α + off) (fl l).length + (0 + 1) := by omega
          have c3 : i * Dat.sz α + off - min (i * Dat.sz α + off) (fl l).length = 0 := by omega
          have c4 : off = i * Dat.sz α + off - i * Dat.sz α := by omega
          rw [if_pos c2,if_neg c1,c3,if_pos c4,if_pos ho];rfl
        · have c1 : ¬ j < min (i * Dat.sz α + off) (fl l).length + (0 + 1) := by omega
          simp only [c1,if_false,show ¬ off = j - i * Dat.sz α from by omega]
          congr 1;omega
    · have b3 : ¬ j < min (i * Dat.sz α) (fl l).length + Dat.sz α := by omega
      have c1 : ¬ j < min (i * Dat.sz α + off) (fl l).length + (0 + 1) := by omega
      simp only [b3,c1,if_false]
      congr 1;omega
theorem made_fl {α : Type} [Dat α] (z : α) (n : Nat) : (madeCells (Dat.cells z).toArray (n * Dat.sz α)).toList = fl (List.replicate n z) := by
  have h := range_zrow (Dat.cells z) n
  rw [Dat.len] at h
  have e : madeCells (Dat.cells z).toArray (n * Dat.sz α) = (zrow (Dat.cells z) n).toArray := h
  rw [e]
  induction n with
  | zero => rfl
  | succ n ih => simp only [zrow,List.replicate_succ,fl_cons];congr 1;exact ih (by have := range_zrow (Dat.cells z) n;rwa [Dat.len] at this) (by have := range_zrow (Dat.cells z) n;rwa [Dat.len] at this)
theorem fill_step {α : Type} [Dat α] (l : List α) (z : α) (i : Nat) (h : i < l.length) : (l.take i ++ List.replicate (l.length - i) z).set i (nth l i) = l.take (i + 1) ++ List.replicate (l.length - (i + 1)) z := by
  have h1 : (l.take i).length = i := by simp;omega
  obtain ⟨d,hd⟩ : ∃ d,l.length - i = d + 1 := ⟨l.length - i - 1,by omega⟩
  rw [hd,List.replicate_succ,List.set_append_right _ _ (by omega),h1,Nat.sub_self,List.set_cons_zero,List.take_succ_eq_append_getElem h,show l.length - (i + 1) = d from by omega,List.append_assoc]
  simp [nth,h]
section
variable {P : Program} {E : Env} {H : List HObj} {G : List World} {o : Oper}
theorem ps_loadsF {α : Type} [Dat α] {x : Operand} {t sz k i : Nat} {A : Option Addr} {l : List α} [hl : LD P t sz true] (ho : o.op = .load t x) (hx : opd E x = some (pt A k)) (hc : Rds H G A (fl l)) (hs : Dat.sz α = sz) (hk : k = i * sz) (hi : i < l.length) (hz : Nat.blt 0 sz = true) : PStep P E H G o (.agg (Dat.cells (nth l i)).toArray) := by
  subst hs;subst hk
  exact ps_loads ho hx hc (fl_sub l i hi) (Dat.len _) (by simpa [Nat.blt_eq] using hz)
theorem ms_setw {α : Type} [Dat α] {t e k sz rsz n c : Nat} {ag : Bool} {A : Option Addr} {x y : Operand} {u : Value} {L : List α} (i j : Nat) (v : α) [hl : LD P t sz ag] (ho : o.op = .store t x y) (hx : opd E x = some (pt A k)) (hy : opd E y = some u) (hi : H[i]? = some (.row e rsz A n c (fl L)))
    (hk : k = j * Dat.sz α) (hsz : Dat.sz α = sz) (h0 : Nat.blt 0 sz = true) (hv : u.cells = (Dat.cells v).toArray) (h1 : (Dat.cells v).all (·.oneCell') = true) (hj : j < L.length) :
    MStep P E H G o (fun _ => True) (fun _ => undef) (fun _ => H.set i (.row e rsz A n c (fl (L.set j v)))) (fun _ => G) := by
  have hle : j * Dat.sz α + Dat.sz α ≤ (fl L).length := by
    rw [fl_len]
    have : (j + 1) * Dat.sz α ≤ L.length * Dat.sz α := Nat.mul_le_mul_right _ hj
    rw [Nat.add_mul] at this;omega
  have := ms_store_row (g := 0) (P := P) (hl := hl) (G := G) (k := k) i ho hx hy hv (by rw [Dat.len,hsz]) h1 (by simpa [Nat.blt_eq] using h0) hi (by rw [Dat.len,hk];exact hle)
  rwa [hk,putC_fl L j v hj] at this
theorem ms_setc {α : Type} [Dat α] {t e k rsz n c : Nat} {A : Option Addr} {x y : Operand} {u : Value} {L : List α} (i j off : Nat) (v : α) [hl : LD P t 1 false] (ho : o.op = .store t x y) (hx : opd E x = some (pt A k)) (hy : opd E y = some u) (hi : H[i]? = some (.row e rsz A n c (fl L)))
    (hk : k = j * Dat.sz α + off) (hoff : Nat.blt off (Dat.sz α) = true) (hv : u.cells = #[u]) (h1 : u.oneCell' = true) (hv2 : (Dat.cells (nth L j)).set off u = Dat.cells v) (hj : j < L.length) :
    MStep P E H G o (fun _ => True) (fun _ => undef) (fun _ => H.set i (.row e rsz A n c (fl (L.set j v)))) (fun _ => G) := by
  have ho' : off < Dat.sz α := by simpa [Nat.blt_eq] using hoff
  have hle : j * Dat.sz α + off + 1 ≤ (fl L).length := by
    rw [fl_len]
    have : (j + 1) * Dat.sz α ≤ L.length * Dat.sz α := Nat.mul_le_mul_right _ hj
    rw [Nat.add_mul] at this;omega
  have := ms_store_row (g := 0) (P := P) (hl := hl) (G := G) (k := k) (vs := [u]) i ho hx hy (by rw [hv]) rfl (by simpa using h1) (by omega) hi (by rw [hk];exact hle)
  rwa [hk,putC_at L j off u v hj ho' hv2] at this
end
end Go.Proofs.YtmfojbidojjciaaGreat
namespace Go.Proofs.YtmfojbidojjciaaGreat
open Go.RowKit
def AtT (P : Program) (ops : Array Oper) (Q : Exit → Act → World → Prop) (tl : List Oper) (n : Nat) (N base : Nat) (w0 : World) (HS : List HObj) (GS : List World) (f : Nat) (listed : Array Bool) (E : Env) (H : List HObj) (G : List World) (i : Nat) : Prop :=
  ∀ a w,HeadB .any ops n = true → PQ Q → EnvOk N E a → WOk base w0 H G w → WOk base w0 HS GS w → HeadInv .any ops n listed → i ∈ Region.ready .any ops listed →
    i < n ∧ wpOp P ops Q i (fun a' w' => WOk base w0 HS GS w' ∧ wpT P .any ops Q (fun w => WOk base w0 HS GS w) n (fun listed a w => Region.seqB .any ops tl.length n listed = true ∧ wpList P ops Q tl a w) f (listed.setIfInBounds i true) a' w') a w
def AllT (P : Program) (ops : Array Oper) (Q : Exit → Act → World → Prop) (tl : List Oper) (n : Nat) (N base : Nat) (w0 : World) (HS : List HObj) (GS : List World) (f : Nat) (listed : Array Bool) (E : Env) (H : List HObj) (G : List World) : List Nat → Prop
  | [] => True
  | i :: is => AtT P ops Q tl n N base w0 HS GS f listed E H G i ∧ AllT P ops Q tl n N base w0 HS GS f listed E H G is
section
variable {P : Program} {N base : Nat} {w0 : World} {E : Env} {H HS : List HObj} {G GS : List World} {Q : Exit → Act → World → Prop} {K : Act → World → Prop} {ops : Array Oper} {tl : List Oper} {n f : Nat} {listed : Array Bool}
theorem all_nil : AllT P ops Q tl n N base w0 HS GS f listed E H G [] := trivial
theorem all_cons {i : Nat} {is : List Nat} (h : AtT P ops Q tl n N base w0 HS GS f listed E H G i) (hs : AllT P ops Q tl n N base w0 HS GS f listed E H G is) : AllT P ops Q tl n N base w0 HS GS f listed E H G (i :: is) := ⟨h,hs⟩
theorem AllT.mem : ∀ {is : List Nat},AllT P ops Q tl n N base w0 HS GS f listed E H G is → ∀ i ∈ is,AtT P ops Q tl n N base w0 HS GS f listed E H G i
  | i :: is,h,j,hj => by
    cases hj with
    | head => exact h.1
    | tail _ hj => exact AllT.mem h.2 j hj
theorem okT_many {i : Nat} {is : List Nat} (hr : Region.ready .any ops listed = i :: is) (h : AllT P ops Q tl n N base w0 HS GS f listed E H G (i :: is)) : OkT P ops Q tl n N base w0 HS GS (f + 1) listed E H G := fun a w hB hQ he hw hSw inv =>
  ⟨by rw [hr];simp,fun j hj => AllT.mem h j (hr ▸ hj) a w hB hQ he hw hSw inv hj⟩
theorem at_m {i : Nat} {o : Oper} {F : Ys → Prop} {v : Ys → Value} {H' : Ys → List HObj} {G' : Ys → List World} (hi : ops[i]? = some o) (hin : Nat.blt i n = true) {td : Nat} (hdt : o.dst = some td) (hd : Nat.blt td N = true) (hg : o.guard = none) (hs : MStep P E H G o F v H' G')
    (hS : ∀ y w,F y → WOk base w0 (H' y) (G' y) w → WOk base w0 HS GS w)
    (h : ∀ y,F y → OkT P ops Q tl n N base w0 HS GS f (listed.setIfInBounds i true) ((td,v y) :: E) (H' y) (G' y)) : AtT P ops Q tl n N base w0 HS GS f listed E H G i := fun a w hB hQ he hw hSw inv hr => by
  have hin' : i < n := by simpa [Nat.blt_eq] using hin
  refine ⟨hin',?_⟩
  unfold wpOp
  simp only [hi]
  rw [if_pos (by simp [Region.wanted,hg])]
  refine .inl (hs N base w0 a w Q _ he hw fun y w' hF hw' => ?_)
  have h1 := hS y w' hF hw'
  exact ⟨h1,h y hF _ _ hB hQ (he.put' hdt hd _) hw' h1 (inv.set hr hin')⟩
theorem mrg1 {XE : Ys → Env} {XH : Ys → List HObj} {G' : List World} {K' : Act → World → Prop} (h1 : (∀ y0,Ok N base w0 (XE y0) (XH y0) G' K') → Ok N base w0 E H G K) (h2 : ∀ y0,Ok N base w0 (XE y0) (XH y0) G' K') : Ok N base w0 E H G K := h1 h2
theorem mrg2 {XE : Ys → Ys → Env} {XH : Ys → Ys → List HObj} {G' : List World} {K' : Act → World → Prop} (h1 : (∀ y0 y1,Ok N base w0 (XE y0 y1) (XH y0 y1) G' K') → Ok N base w0 E H G K) (h2 : ∀ y0 y1,Ok N base w0 (XE y0 y1) (XH y0 y1) G' K') : Ok N base w0 E H G K := h1 h2
theorem mrg3 {XE : Ys → Ys → Ys → Env} {XH : Ys → Ys → Ys → List HObj} {G' : List World} {K' : Act → World → Prop} (h1 : (∀ y0 y1 y2,Ok N base w0 (XE y0 y1 y2) (XH y0 y1 y2) G' K') → Ok N base w0 E H G K) (h2 : ∀ y0 y1 y2,Ok N base w0 (XE y0 y1 y2) (XH y0 y1 y2) G' K') : Ok N base w0 E H G K := h1 h2
theorem mrg5 {XE : Ys → Ys → Ys → Ys → Ys → Env} {XH : Ys → Ys → Ys → Ys → Ys → List HObj} {G' : List World} {K' : Act → World → Prop} (h1 : (∀ y0 y1 y2 y3 y4,Ok N base w0 (XE y0 y1 y2 y3 y4) (XH y0 y1 y2 y3 y4) G' K') → Ok N base w0 E H G K) (h2 : ∀ y0 y1 y2 y3 y4,Ok N base w0 (XE y0 y1 y2 y3 y4) (XH y0 y1 y2 y3 y4) G' K') : Ok N base w0 E H G K := h1 h2
end
class OneC (α : Type) [Dat α] : Prop where h : ∀ x : α,∀ u ∈ Dat.cells x,u.oneCell' = true
instance : OneC Int := ⟨fun x u hu => by cases hu with | head => rfl | tail _ h => cases h⟩
instance : OneC ByteArray := ⟨fun x u hu => by cases hu with | head => rfl | tail _ h => cases h⟩
instance : OneC UInt8 := ⟨fun x u hu => by cases hu with | head => rfl | tail _ h => cases h⟩
instance : OneC Bool := ⟨fun x u hu => by cases hu with | head => rfl | tail _ h => cases h⟩
theorem fl_oneC {α : Type} [Dat α] [OneC α] (l : List α) : ∀ u ∈ fl l,u.oneCell' = true := fun u hu => by
  obtain ⟨x,_,hx⟩ := List.mem_flatMap.1 hu
  exact OneC.h x u hx
section
variable {P : Program} {E : Env} {H : List HObj} {G : List World} {o : Oper} {α : Type} [Dat α] [OneC α]
theorem ms_appF {t e sz bytes c c2 : Nat} {A A2 : Option Addr} {x y : Operand} {L M : List α} (i : Nat) [ht : EL P t e sz bytes] (ho : o.op = .call { callee := .builtin .append,args := #[x,y],argTypes := #[t,t] })
    (hx : opd E x = some (.slice A L.length c)) (hy : opd E y = some (.slice A2 M.length c2)) (hi : H[i]? = some (.row e sz A L.length c (fl L))) (hr : Rds H G A2 (fl M)) (hs : Dat.sz α = sz)
    (hb : (L.length + M.length) * bytes ≤ 140737488355328) (hm : L.length + M.length ≤ 140737488355328) :
    MStep P E H G o (fun _ => True) (fun y => .slice (y 0).A (L.length + M.length) (y 0).c) (fun y => H.set i (.row e sz (y 0).A (L.length + M.length) (y 0).c (fl (L ++ M)))) (fun _ => G) := by
  have := ms_app (P := P) i ho hx hy hi hr (by rw [fl_len,hs]) (fl_oneC M) hb hm
  simpa only [fl_app] using this
theorem ms_app0 {t e sz bytes c c2 : Nat} {A A2 : Option Addr} {x y : Operand} {M : List α} (i : Nat) [ht : EL P t e sz bytes] (ho : o.op = .call { callee := .builtin .append,args := #[x,y],argTypes := #[t,t] })
    (hx : opd E x = some (.slice A 0 c)) (hy : opd E y = some (.slice A2 M.length c2)) (hi : H[i]? = some (.row e sz A 0 c [])) (hr : Rds H G A2 (fl M)) (hs : Dat.sz α = sz)
    (hb : M.length * bytes ≤ 140737488355328) (hm : M.length ≤ 140737488355328) :
    MStep P E H G o (fun _ => True) (fun y => .slice (y 0).A M.length (y 0).c) (fun y => H.set i (.row e sz (y 0).A M.length (y 0).c (fl M))) (fun _ => G) := by
  have := ms_app (P := P) i ho hx hy hi hr (by rw [fl_len,hs]) (fl_oneC M) (by simpa using hb) (by simpa using hm)
  simpa only [Nat.zero_add,List.nil_append] using this
end
end Go.Proofs.YtmfojbidojjciaaGreat
namespace Go.Proofs.YtmfojbidojjciaaGreat
open Go.RowKit
def FlatAt (e : GT) {α : Type} [Dat α] (f : e.den → α) (big : α → Prop) : Prop := ∀ (w : World) x c,RdT w e x c → c = Dat.cells (f x) ∧ big (f x)
theorem flat_rows {e : GT} {α : Type} [Dat α] {f : e.den → α} {big : α → Prop} (hf : FlatAt e f big) {w : World} : ∀ (xs : List e.den) (us : List Value),RdTs w e xs us → us = fl (xs.map f) ∧ ∀ x ∈ xs.map f,big x
  | [],us,h => by
    rw [RdTs.nil] at h;subst h;exact ⟨rfl,fun x h => by cases h⟩
  | x :: xs,us,h => by
    obtain ⟨c1,c2,rfl,h1,h2⟩ := RdTs.cons.1 h
    obtain ⟨rfl,hb⟩ := hf w x c1 h1
    obtain ⟨rfl,hbs⟩ := flat_rows hf xs c2 h2
    exact ⟨rfl,fun y hy => by
      rw [List.map_cons] at hy
      cases hy with
      | head => exact hb
      | tail _ hy => exact hbs y hy⟩
theorem flat_sl {E : TypeId} {e : GT} {α : Type} [Dat α] {f : e.den → α} {big : α → Prop} (hf : FlatAt e f big) {w : World} {xs : GT.den (.sl E e)} {cs : List Value} (h : RdT w (.sl E e) xs cs) : ∃ (A : Option Addr) (c : Nat) (l : List α),cs = [.slice A l.length c] ∧ l.length ≤ maxLen ∧ Rd w A (fl l) ∧ (∀ x ∈ l,big x) := by
  obtain ⟨A,c,us,rfl,h1,h2,h3,h4⟩ := RdT.sl.1 h
  obtain ⟨rfl,hb⟩ := flat_rows hf _ _ h4
  have hl : (List.map f (show List e.den from xs)).length = List.length xs := List.length_map ..
  exact ⟨A,c,List.map f (show List e.den from xs),congrArg (fun n => [Value.slice A n c]) hl.symm,Nat.le_trans (Nat.le_of_eq hl) (Nat.le_trans h1 h2),h3,hb⟩
theorem WOk.drop {base : Nat} {w0 w : World} {H H' : List HObj} {G : List World} (p : Nat) (e : List.drop p H = H') (h : WOk base w0 H G w) : WOk base w0 H' G w := by
  subst e
  have hm : ∀ x ∈ List.drop p H,x ∈ H := fun x hx => List.mem_of_mem_drop hx
  exact ⟨h.below,h.le,fun x hx => h.own x (hm x hx),h.apart.sublist (List.drop_sublist p H),fun m hmm q u hq => ⟨(h.ref m hmm q u hq).1,fun x hx => (h.ref m hmm q u hq).2 x (hm x hx)⟩⟩
theorem WOk.keep {base : Nat} {w0 w m : World} {H : List HObj} {G : List World} {A : Option Addr} {us : List Value} (h : WOk base w0 H G w) (hr : Rd m A us) (hm : m ∈ G) : Rd w A us := rds_rf hr hm _ _ _ h
theorem WOk.row {base : Nat} {w0 w : World} {H : List HObj} {G : List World} {A : Option Addr} {e sz n c : Nat} {us : List Value} (h : WOk base w0 H G w) (i : Nat) (hi : H[i]? = some (.row e sz A n c us)) : Rd w A us := rds_row i hi _ _ _ h
end Go.Proofs.YtmfojbidojjciaaGreat
namespace Go.Proofs.YtmfojbidojjciaaGreat
instance : LD Tryz.prog 3 1 false := ⟨by kernel_rfl⟩
instance : IK Tryz.prog 3 .i64 := ⟨by kernel_rfl⟩
instance : ZV Tryz.prog 3 [.int .i64 0] := ⟨by kernel_rfl⟩
instance : LD Tryz.prog 4 1 false := ⟨by kernel_rfl⟩
instance : ZV Tryz.prog 4 [.bool false] := ⟨by kernel_rfl⟩
instance : LD Tryz.prog 5 1 false := ⟨by kernel_rfl⟩
instance : IK Tryz.prog 5 .u8 := ⟨by kernel_rfl⟩
instance : ZV Tryz.prog 5 [.int .u8 0] := ⟨by kernel_rfl⟩
instance : LD Tryz.prog 9 1 false := ⟨by kernel_rfl⟩
instance : SS Tryz.prog 9 := ⟨by kernel_rfl⟩
instance : ZV Tryz.prog 9 [.string ⟨#[]⟩] := ⟨by kernel_rfl⟩
instance : LD Tryz.prog 22 1 false := ⟨by kernel_rfl⟩
instance : EL Tryz.prog 22 192 2 24 := ⟨by kernel_rfl⟩
instance : ZV Tryz.prog 22 [.slice none 0 0] := ⟨by kernel_rfl⟩
instance : LD Tryz.prog 24 3 true := ⟨by kernel_rfl⟩
instance : FO Tryz.prog 24 0 0 := ⟨by kernel_rfl⟩
instance : FO Tryz.prog 24 1 1 := ⟨by kernel_rfl⟩
instance : FO Tryz.prog 24 2 2 := ⟨by kernel_rfl⟩
instance : ST Tryz.prog 24 [.string ⟨#[]⟩,.slice none 0 0,.int .i64 0] [(0,1),(1,1),(2,1)] := ⟨by kernel_rfl⟩
instance : ZV Tryz.prog 24 [.string ⟨#[]⟩,.slice none 0 0,.int .i64 0] := ⟨by kernel_rfl⟩
instance : LD Tryz.prog 25 1 false := ⟨by kernel_rfl⟩
instance : EL Tryz.prog 25 207 2 16 := ⟨by kernel_rfl⟩
instance : ZV Tryz.prog 25 [.slice none 0 0] := ⟨by kernel_rfl⟩
instance : LD Tryz.prog 27 2 true := ⟨by kernel_rfl⟩
instance : FO Tryz.prog 27 0 0 := ⟨by kernel_rfl⟩
instance : FO Tryz.prog 27 1 1 := ⟨by kernel_rfl⟩
instance : ST Tryz.prog 27 [.int .i64 0,.slice none 0 0] [(0,1),(1,1)] := ⟨by kernel_rfl⟩
instance : ZV Tryz.prog 27 [.int .i64 0,.slice none 0 0] := ⟨by kernel_rfl⟩
instance : LD Tryz.prog 28 1 false := ⟨by kernel_rfl⟩
instance : EL Tryz.prog 28 146 7 104 := ⟨by kernel_rfl⟩
instance : ZV Tryz.prog 28 [.slice none 0 0] := ⟨by kernel_rfl⟩
instance : LD Tryz.prog 29 1 false := ⟨by kernel_rfl⟩
instance : EL Tryz.prog 29 148 5 48 := ⟨by kernel_rfl⟩
instance : ZV Tryz.prog 29 [.slice none 0 0] := ⟨by kernel_rfl⟩
instance : LD Tryz.prog 31 10 true := ⟨by kernel_rfl⟩
instance : FO Tryz.prog 31 0 0 := ⟨by kernel_rfl⟩
instance : FO Tryz.prog 31 1 1 := ⟨by kernel_rfl⟩
instance : FO Tryz.prog 31 2 4 := ⟨by kernel_rfl⟩
instance : FO Tryz.prog 31 3 6 := ⟨by kernel_rfl⟩
instance : FO Tryz.prog 31 4 7 := ⟨by kernel_rfl⟩
instance : FO Tryz.prog 31 5 8 := ⟨by kernel_rfl⟩
instance : FO Tryz.prog 31 6 9 := ⟨by kernel_rfl⟩
instance : ST Tryz.prog 31 [.string ⟨#[]⟩,.string ⟨#[]⟩,.slice none 0 0,.int .i64 0,.int .i64 0,.slice none 0 0,.slice none 0 0,.slice none 0 0,.slice none 0 0,.int .i64 0] [(0,1),(1,3),(4,2),(6,1),(7,1),(8,1),(9,1)] := ⟨by kernel_rfl⟩
instance : ZV Tryz.prog 31 [.string ⟨#[]⟩,.string ⟨#[]⟩,.slice none 0 0,.int .i64 0,.int .i64 0,.slice none 0 0,.slice none 0 0,.slice none 0 0,.slice none 0 0,.int .i64 0] := ⟨by kernel_rfl⟩
instance : LD Tryz.prog 34 1 false := ⟨by kernel_rfl⟩
instance : EL Tryz.prog 34 99 2 24 := ⟨by kernel_rfl⟩
instance : ZV Tryz.prog 34 [.slice none 0 0] := ⟨by kernel_rfl⟩
instance : LD Tryz.prog 36 3 true := ⟨by kernel_rfl⟩
instance : FO Tryz.prog 36 0 0 := ⟨by kernel_rfl⟩
instance : FO Tryz.prog 36 1 1 := ⟨by kernel_rfl⟩
instance : FO Tryz.prog 36 2 2 := ⟨by kernel_rfl⟩
instance : ST Tryz.prog 36 [.string ⟨#[]⟩,.slice none 0 0,.int .i64 0] [(0,1),(1,1),(2,1)] := ⟨by kernel_rfl⟩
instance : ZV Tryz.prog 36 [.string ⟨#[]⟩,.slice none 0 0,.int .i64 0] := ⟨by kernel_rfl⟩
instance : LD Tryz.prog 37 1 false := ⟨by kernel_rfl⟩
instance : EL Tryz.prog 37 101 2 16 := ⟨by kernel_rfl⟩
instance : ZV Tryz.prog 37 [.slice none 0 0] := ⟨by kernel_rfl⟩
instance : LD Tryz.prog 39 2 true := ⟨by kernel_rfl⟩
instance : FO Tryz.prog 39 0 0 := ⟨by kernel_rfl⟩
instance : FO Tryz.prog 39 1 1 := ⟨by kernel_rfl⟩
instance : ST Tryz.prog 39 [.int .i64 0,.slice none 0 0] [(0,1),(1,1)] := ⟨by kernel_rfl⟩
instance : ZV Tryz.prog 39 [.int .i64 0,.slice none 0 0] := ⟨by kernel_rfl⟩
instance : LD Tryz.prog 40 1 false := ⟨by kernel_rfl⟩
instance : EL Tryz.prog 40 90 7 104 := ⟨by kernel_rfl⟩
instance : ZV Tryz.prog 40 [.slice none 0 0] := ⟨by kernel_rfl⟩
instance : LD Tryz.prog 41 1 false := ⟨by kernel_rfl⟩
instance : EL Tryz.prog 41 92 5 48 := ⟨by kernel_rfl⟩
instance : ZV Tryz.prog 41 [.slice none 0 0] := ⟨by kernel_rfl⟩
instance : LD Tryz.prog 43 10 true := ⟨by kernel_rfl⟩
instance : FO Tryz.prog 43 0 0 := ⟨by kernel_rfl⟩
instance : FO Tryz.prog 43 1 1 := ⟨by kernel_rfl⟩
instance : FO Tryz.prog 43 2 4 := ⟨by kernel_rfl⟩
instance : FO Tryz.prog 43 3 6 := ⟨by kernel_rfl⟩
instance : FO Tryz.prog 43 4 7 := ⟨by kernel_rfl⟩
instance : FO Tryz.prog 43 5 8 := ⟨by kernel_rfl⟩
instance : FO Tryz.prog 43 6 9 := ⟨by kernel_rfl⟩
instance : ST Tryz.prog 43 [.string ⟨#[]⟩,.string ⟨#[]⟩,.slice none 0 0,.int .i64 0,.int .i64 0,.slice none 0 0,.slice none 0 0,.slice none 0 0,.slice none 0 0,.int .i64 0] [(0,1),(1,3),(4,2),(6,1),(7,1),(8,1),(9,1)] := ⟨by kernel_rfl⟩
instance : ZV Tryz.prog 43 [.string ⟨#[]⟩,.string ⟨#[]⟩,.slice none 0 0,.int .i64 0,.int .i64 0,.slice none 0 0,.slice none 0 0,.slice none 0 0,.slice none 0 0,.int .i64 0] := ⟨by kernel_rfl⟩
instance : LD Tryz.prog 47 1 false := ⟨by kernel_rfl⟩
instance : EL Tryz.prog 47 56 5 40 := ⟨by kernel_rfl⟩
instance : ZV Tryz.prog 47 [.slice none 0 0] := ⟨by kernel_rfl⟩
instance : LD Tryz.prog 52 1 false := ⟨by kernel_rfl⟩
instance : EL Tryz.prog 52 5 1 1 := ⟨by kernel_rfl⟩
instance : ZV Tryz.prog 52 [.slice none 0 0] := ⟨by kernel_rfl⟩
instance : LD Tryz.prog 56 5 true := ⟨by kernel_rfl⟩
instance : FO Tryz.prog 56 0 0 := ⟨by kernel_rfl⟩
instance : FO Tryz.prog 56 1 1 := ⟨by kernel_rfl⟩
instance : FO Tryz.prog 56 2 2 := ⟨by kernel_rfl⟩
instance : FO Tryz.prog 56 3 3 := ⟨by kernel_rfl⟩
instance : FO Tryz.prog 56 4 4 := ⟨by kernel_rfl⟩
instance : ST Tryz.prog 56 [.int .i64 0,.int .i64 0,.int .i64 0,.int .i64 0,.int .i64 0] [(0,1),(1,1),(2,1),(3,1),(4,1)] := ⟨by kernel_rfl⟩
instance : ZV Tryz.prog 56 [.int .i64 0,.int .i64 0,.int .i64 0,.int .i64 0,.int .i64 0] := ⟨by kernel_rfl⟩
instance : LD Tryz.prog 60 1 false := ⟨by kernel_rfl⟩
instance : EL Tryz.prog 60 68 7 96 := ⟨by kernel_rfl⟩
instance : ZV Tryz.prog 60 [.slice none 0 0] := ⟨by kernel_rfl⟩
instance : LD Tryz.prog 63 1 false := ⟨by kernel_rfl⟩
instance : EL Tryz.prog 63 71 4 56 := ⟨by kernel_rfl⟩
instance : ZV Tryz.prog 63 [.slice none 0 0] := ⟨by kernel_rfl⟩
instance : LD Tryz.prog 66 1 false := ⟨by kernel_rfl⟩
instance : EL Tryz.prog 66 76 3 40 := ⟨by kernel_rfl⟩
instance : ZV Tryz.prog 66 [.slice none 0 0] := ⟨by kernel_rfl⟩
instance : LD Tryz.prog 68 7 true := ⟨by kernel_rfl⟩
instance : FO Tryz.prog 68 0 0 := ⟨by kernel_rfl⟩
instance : FO Tryz.prog 68 1 1 := ⟨by kernel_rfl⟩
instance : FO Tryz.prog 68 2 2 := ⟨by kernel_rfl⟩
instance : FO Tryz.prog 68 3 3 := ⟨by kernel_rfl⟩
instance : FO Tryz.prog 68 4 4 := ⟨by kernel_rfl⟩
instance : FO Tryz.prog 68 5 5 := ⟨by kernel_rfl⟩
instance : FO Tryz.prog 68 6 6 := ⟨by kernel_rfl⟩
instance : ST Tryz.prog 68 [.int .i64 0,.string ⟨#[]⟩,.int .i64 0,.int .i64 0,.string ⟨#[]⟩,.string ⟨#[]⟩,.slice none 0 0] [(0,1),(1,1),(2,1),(3,1),(4,1),(5,1),(6,1)] := ⟨by kernel_rfl⟩
instance : ZV Tryz.prog 68 [.int .i64 0,.string ⟨#[]⟩,.int .i64 0,.int .i64 0,.string ⟨#[]⟩,.string ⟨#[]⟩,.slice none 0 0] := ⟨by kernel_rfl⟩
instance : LD Tryz.prog 69 1 false := ⟨by kernel_rfl⟩
instance : EL Tryz.prog 69 168 2 32 := ⟨by kernel_rfl⟩
instance : ZV Tryz.prog 69 [.slice none 0 0] := ⟨by kernel_rfl⟩
instance : LD Tryz.prog 71 4 true := ⟨by kernel_rfl⟩
instance : FO Tryz.prog 71 0 0 := ⟨by kernel_rfl⟩
instance : FO Tryz.prog 71 1 1 := ⟨by kernel_rfl⟩
instance : FO Tryz.prog 71 2 2 := ⟨by kernel_rfl⟩
instance : FO Tryz.prog 71 3 3 := ⟨by kernel_rfl⟩
instance : ST Tryz.prog 71 [.int .i64 0,.int .i64 0,.string ⟨#[]⟩,.slice none 0 0] [(0,1),(1,1),(2,1),(3,1)] := ⟨by kernel_rfl⟩
instance : ZV Tryz.prog 71 [.int .i64 0,.int .i64 0,.string ⟨#[]⟩,.slice none 0 0] := ⟨by kernel_rfl⟩
instance : LD Tryz.prog 76 3 true := ⟨by kernel_rfl⟩
instance : FO Tryz.prog 76 0 0 := ⟨by kernel_rfl⟩
instance : FO Tryz.prog 76 1 1 := ⟨by kernel_rfl⟩
instance : FO Tryz.prog 76 2 2 := ⟨by kernel_rfl⟩
instance : ST Tryz.prog 76 [.string ⟨#[]⟩,.bool false,.string ⟨#[]⟩] [(0,1),(1,1),(2,1)] := ⟨by kernel_rfl⟩
instance : ZV Tryz.prog 76 [.string ⟨#[]⟩,.bool false,.string ⟨#[]⟩] := ⟨by kernel_rfl⟩
instance : LD Tryz.prog 78 1 false := ⟨by kernel_rfl⟩
instance : EL Tryz.prog 78 3 1 8 := ⟨by kernel_rfl⟩
instance : ZV Tryz.prog 78 [.slice none 0 0] := ⟨by kernel_rfl⟩
instance : LD Tryz.prog 85 1 false := ⟨by kernel_rfl⟩
instance : EL Tryz.prog 85 204 4 48 := ⟨by kernel_rfl⟩
instance : ZV Tryz.prog 85 [.slice none 0 0] := ⟨by kernel_rfl⟩
instance : LD Tryz.prog 86 1 false := ⟨by kernel_rfl⟩
instance : EL Tryz.prog 86 85 1 24 := ⟨by kernel_rfl⟩
instance : ZV Tryz.prog 86 [.slice none 0 0] := ⟨by kernel_rfl⟩
instance : LD Tryz.prog 88 4 true := ⟨by kernel_rfl⟩
instance : FO Tryz.prog 88 0 0 := ⟨by kernel_rfl⟩
instance : FO Tryz.prog 88 1 1 := ⟨by kernel_rfl⟩
instance : FO Tryz.prog 88 2 2 := ⟨by kernel_rfl⟩
instance : FO Tryz.prog 88 3 3 := ⟨by kernel_rfl⟩
instance : ST Tryz.prog 88 [.slice none 0 0,.slice none 0 0,.int .i64 0,.slice none 0 0] [(0,1),(1,1),(2,1),(3,1)] := ⟨by kernel_rfl⟩
instance : ZV Tryz.prog 88 [.slice none 0 0,.slice none 0 0,.int .i64 0,.slice none 0 0] := ⟨by kernel_rfl⟩
instance : LD Tryz.prog 90 7 true := ⟨by kernel_rfl⟩
instance : FO Tryz.prog 90 0 0 := ⟨by kernel_rfl⟩
instance : FO Tryz.prog 90 1 1 := ⟨by kernel_rfl⟩
instance : FO Tryz.prog 90 2 2 := ⟨by kernel_rfl⟩
instance : FO Tryz.prog 90 3 3 := ⟨by kernel_rfl⟩
instance : ST Tryz.prog 90 [.int .i64 0,.int .i64 0,.int .i64 0,.slice none 0 0,.slice none 0 0,.int .i64 0,.slice none 0 0] [(0,1),(1,1),(2,1),(3,4)] := ⟨by kernel_rfl⟩
instance : ZV Tryz.prog 90 [.int .i64 0,.int .i64 0,.int .i64 0,.slice none 0 0,.slice none 0 0,.int .i64 0,.slice none 0 0] := ⟨by kernel_rfl⟩
instance : LD Tryz.prog 92 5 true := ⟨by kernel_rfl⟩
instance : FO Tryz.prog 92 0 0 := ⟨by kernel_rfl⟩
instance : FO Tryz.prog 92 1 1 := ⟨by kernel_rfl⟩
instance : FO Tryz.prog 92 2 2 := ⟨by kernel_rfl⟩
instance : FO Tryz.prog 92 3 3 := ⟨by kernel_rfl⟩
instance : FO Tryz.prog 92 4 4 := ⟨by kernel_rfl⟩
instance : ST Tryz.prog 92 [.int .i64 0,.int .i64 0,.int .i64 0,.string ⟨#[]⟩,.bool false] [(0,1),(1,1),(2,1),(3,1),(4,1)] := ⟨by kernel_rfl⟩
instance : ZV Tryz.prog 92 [.int .i64 0,.int .i64 0,.int .i64 0,.string ⟨#[]⟩,.bool false] := ⟨by kernel_rfl⟩
instance : LD Tryz.prog 99 2 true := ⟨by kernel_rfl⟩
instance : FO Tryz.prog 99 0 0 := ⟨by kernel_rfl⟩
instance : FO Tryz.prog 99 1 1 := ⟨by kernel_rfl⟩
instance : ST Tryz.prog 99 [.int .i64 0,.string ⟨#[]⟩] [(0,1),(1,1)] := ⟨by kernel_rfl⟩
instance : ZV Tryz.prog 99 [.int .i64 0,.string ⟨#[]⟩] := ⟨by kernel_rfl⟩
instance : LD Tryz.prog 101 2 true := ⟨by kernel_rfl⟩
instance : FO Tryz.prog 101 0 0 := ⟨by kernel_rfl⟩
instance : FO Tryz.prog 101 1 1 := ⟨by kernel_rfl⟩
instance : ST Tryz.prog 101 [.int .i64 0,.int .i64 0] [(0,1),(1,1)] := ⟨by kernel_rfl⟩
instance : ZV Tryz.prog 101 [.int .i64 0,.int .i64 0] := ⟨by kernel_rfl⟩
instance : LD Tryz.prog 109 1 false := ⟨by kernel_rfl⟩
instance : ZV Tryz.prog 109 [.pointer none] := ⟨by kernel_rfl⟩
instance : LD Tryz.prog 115 1 false := ⟨by kernel_rfl⟩
instance : ZV Tryz.prog 115 [.pointer none] := ⟨by kernel_rfl⟩
instance : LD Tryz.prog 132 3 true := ⟨by kernel_rfl⟩
instance : FO Tryz.prog 132 0 0 := ⟨by kernel_rfl⟩
instance : FO Tryz.prog 132 1 1 := ⟨by kernel_rfl⟩
instance : FO Tryz.prog 132 2 2 := ⟨by kernel_rfl⟩
instance : ST Tryz.prog 132 [.int .i64 0,.int .i64 0,.int .i64 0] [(0,1),(1,1),(2,1)] := ⟨by kernel_rfl⟩
instance : ZV Tryz.prog 132 [.int .i64 0,.int .i64 0,.int .i64 0] := ⟨by kernel_rfl⟩
instance : LD Tryz.prog 141 1 false := ⟨by kernel_rfl⟩
instance : EL Tryz.prog 141 286 4 48 := ⟨by kernel_rfl⟩
instance : ZV Tryz.prog 141 [.slice none 0 0] := ⟨by kernel_rfl⟩
instance : LD Tryz.prog 142 1 false := ⟨by kernel_rfl⟩
instance : EL Tryz.prog 142 141 1 24 := ⟨by kernel_rfl⟩
instance : ZV Tryz.prog 142 [.slice none 0 0] := ⟨by kernel_rfl⟩
instance : LD Tryz.prog 144 4 true := ⟨by kernel_rfl⟩
instance : FO Tryz.prog 144 0 0 := ⟨by kernel_rfl⟩
instance : FO Tryz.prog 144 1 1 := ⟨by kernel_rfl⟩
instance : FO Tryz.prog 144 2 2 := ⟨by kernel_rfl⟩
instance : FO Tryz.prog 144 3 3 := ⟨by kernel_rfl⟩
instance : ST Tryz.prog 144 [.slice none 0 0,.slice none 0 0,.int .i64 0,.slice none 0 0] [(0,1),(1,1),(2,1),(3,1)] := ⟨by kernel_rfl⟩
instance : ZV Tryz.prog 144 [.slice none 0 0,.slice none 0 0,.int .i64 0,.slice none 0 0] := ⟨by kernel_rfl⟩
instance : LD Tryz.prog 146 7 true := ⟨by kernel_rfl⟩
instance : FO Tryz.prog 146 0 0 := ⟨by kernel_rfl⟩
instance : FO Tryz.prog 146 1 1 := ⟨by kernel_rfl⟩
instance : FO Tryz.prog 146 2 2 := ⟨by kernel_rfl⟩
instance : FO Tryz.prog 146 3 3 := ⟨by kernel_rfl⟩
instance : ST Tryz.prog 146 [.int .i64 0,.int .i64 0,.int .i64 0,.slice none 0 0,.slice none 0 0,.int .i64 0,.slice none 0 0] [(0,1),(1,1),(2,1),(3,4)] := ⟨by kernel_rfl⟩
instance : ZV Tryz.prog 146 [.int .i64 0,.int .i64 0,.int .i64 0,.slice none 0 0,.slice none 0 0,.int .i64 0,.slice none 0 0] := ⟨by kernel_rfl⟩
instance : LD Tryz.prog 148 5 true := ⟨by kernel_rfl⟩
instance : FO Tryz.prog 148 0 0 := ⟨by kernel_rfl⟩
instance : FO Tryz.prog 148 1 1 := ⟨by kernel_rfl⟩
instance : FO Tryz.prog 148 2 2 := ⟨by kernel_rfl⟩
instance : FO Tryz.prog 148 3 3 := ⟨by kernel_rfl⟩
instance : FO Tryz.prog 148 4 4 := ⟨by kernel_rfl⟩
instance : ST Tryz.prog 148 [.int .i64 0,.int .i64 0,.int .i64 0,.string ⟨#[]⟩,.bool false] [(0,1),(1,1),(2,1),(3,1),(4,1)] := ⟨by kernel_rfl⟩
instance : ZV Tryz.prog 148 [.int .i64 0,.int .i64 0,.int .i64 0,.string ⟨#[]⟩,.bool false] := ⟨by kernel_rfl⟩
instance : LD Tryz.prog 159 1 false := ⟨by kernel_rfl⟩
instance : ZV Tryz.prog 159 [.pointer none] := ⟨by kernel_rfl⟩
instance : LD Tryz.prog 168 2 true := ⟨by kernel_rfl⟩
instance : FO Tryz.prog 168 0 0 := ⟨by kernel_rfl⟩
instance : FO Tryz.prog 168 1 1 := ⟨by kernel_rfl⟩
instance : ST Tryz.prog 168 [.string ⟨#[]⟩,.string ⟨#[]⟩] [(0,1),(1,1)] := ⟨by kernel_rfl⟩
instance : ZV Tryz.prog 168 [.string ⟨#[]⟩,.string ⟨#[]⟩] := ⟨by kernel_rfl⟩
instance : LD Tryz.prog 177 3 true := ⟨by kernel_rfl⟩
instance : FO Tryz.prog 177 0 0 := ⟨by kernel_rfl⟩
instance : FO Tryz.prog 177 1 1 := ⟨by kernel_rfl⟩
instance : FO Tryz.prog 177 2 2 := ⟨by kernel_rfl⟩
instance : ST Tryz.prog 177 [.slice none 0 0,.int .i64 0,.int .i64 0] [(0,1),(1,1),(2,1)] := ⟨by kernel_rfl⟩
instance : ZV Tryz.prog 177 [.slice none 0 0,.int .i64 0,.int .i64 0] := ⟨by kernel_rfl⟩
instance : LD Tryz.prog 192 2 true := ⟨by kernel_rfl⟩
instance : FO Tryz.prog 192 0 0 := ⟨by kernel_rfl⟩
instance : FO Tryz.prog 192 1 1 := ⟨by kernel_rfl⟩
instance : ST Tryz.prog 192 [.int .i64 0,.string ⟨#[]⟩] [(0,1),(1,1)] := ⟨by kernel_rfl⟩
instance : ZV Tryz.prog 192 [.int .i64 0,.string ⟨#[]⟩] := ⟨by kernel_rfl⟩
instance : LD Tryz.prog 204 4 true := ⟨by kernel_rfl⟩
instance : FO Tryz.prog 204 0 0 := ⟨by kernel_rfl⟩
instance : FO Tryz.prog 204 1 1 := ⟨by kernel_rfl⟩
instance : FO Tryz.prog 204 2 2 := ⟨by kernel_rfl⟩
instance : FO Tryz.prog 204 3 3 := ⟨by kernel_rfl⟩
instance : ST Tryz.prog 204 [.string ⟨#[]⟩,.int .i64 0,.bool false,.string ⟨#[]⟩] [(0,1),(1,1),(2,1),(3,1)] := ⟨by kernel_rfl⟩
instance : ZV Tryz.prog 204 [.string ⟨#[]⟩,.int .i64 0,.bool false,.string ⟨#[]⟩] := ⟨by kernel_rfl⟩
instance : LD Tryz.prog 207 2 true := ⟨by kernel_rfl⟩
instance : FO Tryz.prog 207 0 0 := ⟨by kernel_rfl⟩
instance : FO Tryz.prog 207 1 1 := ⟨by kernel_rfl⟩
instance : ST Tryz.prog 207 [.int .i64 0,.int .i64 0] [(0,1),(1,1)] := ⟨by kernel_rfl⟩
instance : ZV Tryz.prog 207 [.int .i64 0,.int .i64 0] := ⟨by kernel_rfl⟩
instance : LD Tryz.prog 218 1 false := ⟨by kernel_rfl⟩
instance : ZV Tryz.prog 218 [.pointer none] := ⟨by kernel_rfl⟩
instance : LD Tryz.prog 219 1 false := ⟨by kernel_rfl⟩
instance : IK Tryz.prog 219 .u64 := ⟨by kernel_rfl⟩
instance : ZV Tryz.prog 219 [.int .u64 0] := ⟨by kernel_rfl⟩
instance : LD Tryz.prog 221 1 false := ⟨by kernel_rfl⟩
instance : EL Tryz.prog 221 9 1 16 := ⟨by kernel_rfl⟩
instance : ZV Tryz.prog 221 [.slice none 0 0] := ⟨by kernel_rfl⟩
instance : LD Tryz.prog 271 3 true := ⟨by kernel_rfl⟩
instance : FO Tryz.prog 271 0 0 := ⟨by kernel_rfl⟩
instance : FO Tryz.prog 271 1 1 := ⟨by kernel_rfl⟩
instance : FO Tryz.prog 271 2 2 := ⟨by kernel_rfl⟩
instance : ST Tryz.prog 271 [.string ⟨#[]⟩,.int .i64 0,.bool false] [(0,1),(1,1),(2,1)] := ⟨by kernel_rfl⟩
instance : ZV Tryz.prog 271 [.string ⟨#[]⟩,.int .i64 0,.bool false] := ⟨by kernel_rfl⟩
instance : LD Tryz.prog 286 4 true := ⟨by kernel_rfl⟩
instance : FO Tryz.prog 286 0 0 := ⟨by kernel_rfl⟩
instance : FO Tryz.prog 286 1 1 := ⟨by kernel_rfl⟩
instance : FO Tryz.prog 286 2 2 := ⟨by kernel_rfl⟩
instance : FO Tryz.prog 286 3 3 := ⟨by kernel_rfl⟩
instance : ST Tryz.prog 286 [.string ⟨#[]⟩,.int .i64 0,.bool false,.string ⟨#[]⟩] [(0,1),(1,1),(2,1),(3,1)] := ⟨by kernel_rfl⟩
instance : ZV Tryz.prog 286 [.string ⟨#[]⟩,.int .i64 0,.bool false,.string ⟨#[]⟩] := ⟨by kernel_rfl⟩
instance : LD Tryz.prog 307 1 false := ⟨by kernel_rfl⟩
instance : IK Tryz.prog 307 .u32 := ⟨by kernel_rfl⟩
instance : ZV Tryz.prog 307 [.int .u32 0] := ⟨by kernel_rfl⟩
instance : LD Tryz.prog 308 16 true := ⟨by kernel_rfl⟩
instance : ZV Tryz.prog 308 [.int .u32 0,.int .u32 0,.int .u32 0,.int .u32 0,.int .u32 0,.int .u32 0,.int .u32 0,.int .u32 0,.int .u32 0,.int .u32 0,.int .u32 0,.int .u32 0,.int .u32 0,.int .u32 0,.int .u32 0,.int .u32 0] := ⟨by kernel_rfl⟩
instance : LD Tryz.prog 311 1 false := ⟨by kernel_rfl⟩
instance : ZV Tryz.prog 311 [.pointer none] := ⟨by kernel_rfl⟩
instance : LD Tryz.prog 318 1 false := ⟨by kernel_rfl⟩
instance : ZV Tryz.prog 318 [.pointer none] := ⟨by kernel_rfl⟩
instance : LD Tryz.prog 343 1 false := ⟨by kernel_rfl⟩
instance : ZV Tryz.prog 343 [.pointer none] := ⟨by kernel_rfl⟩
instance : LD Tryz.prog 345 2 true := ⟨by kernel_rfl⟩
instance : FO Tryz.prog 345 0 0 := ⟨by kernel_rfl⟩
instance : FO Tryz.prog 345 1 1 := ⟨by kernel_rfl⟩
instance : ST Tryz.prog 345 [.pointer none,.slice none 0 0] [(0,1),(1,1)] := ⟨by kernel_rfl⟩
instance : ZV Tryz.prog 345 [.pointer none,.slice none 0 0] := ⟨by kernel_rfl⟩
instance : LD Tryz.prog 359 1 false := ⟨by kernel_rfl⟩
instance : ZV Tryz.prog 359 [.pointer none] := ⟨by kernel_rfl⟩
instance : LD Tryz.prog 361 1 false := ⟨by kernel_rfl⟩
instance : ZV Tryz.prog 361 [.pointer none] := ⟨by kernel_rfl⟩
instance : FN Tryz.prog 2 := ⟨⟨_,_,Tryz.func2,by kernel_rfl,rfl⟩⟩
instance : FN Tryz.prog 3 := ⟨⟨_,_,Tryz.func3,by kernel_rfl,rfl⟩⟩
instance : FN Tryz.prog 4 := ⟨⟨_,_,Tryz.func4,by kernel_rfl,rfl⟩⟩
instance : FN Tryz.prog 5 := ⟨⟨_,_,Tryz.func5,by kernel_rfl,rfl⟩⟩
instance : FN Tryz.prog 6 := ⟨⟨_,_,Tryz.func6,by kernel_rfl,rfl⟩⟩
instance : FN Tryz.prog 7 := ⟨⟨_,_,Tryz.func7,by kernel_rfl,rfl⟩⟩
instance : FN Tryz.prog 8 := ⟨⟨_,_,Tryz.func8,by kernel_rfl,rfl⟩⟩
instance : FN Tryz.prog 9 := ⟨⟨_,_,Tryz.func9,by kernel_rfl,rfl⟩⟩
instance : FN Tryz.prog 10 := ⟨⟨_,_,Tryz.func10,by kernel_rfl,rfl⟩⟩
instance : FN Tryz.prog 11 := ⟨⟨_,_,Tryz.func11,by kernel_rfl,rfl⟩⟩
instance : FN Tryz.prog 12 := ⟨⟨_,_,Tryz.func12,by kernel_rfl,rfl⟩⟩
instance : FN Tryz.prog 13 := ⟨⟨_,_,Tryz.func13,by kernel_rfl,rfl⟩⟩
instance : FN Tryz.prog 14 := ⟨⟨_,_,Tryz.func14,by kernel_rfl,rfl⟩⟩
instance : FN Tryz.prog 15 := ⟨⟨_,_,Tryz.func15,by kernel_rfl,rfl⟩⟩
instance : FN Tryz.prog 16 := ⟨⟨_,_,Tryz.func16,by kernel_rfl,rfl⟩⟩
instance : FN Tryz.prog 17 := ⟨⟨_,_,Tryz.func17,by kernel_rfl,rfl⟩⟩
instance : FN Tryz.prog 18 := ⟨⟨_,_,Tryz.func18,by kernel_rfl,rfl⟩⟩
instance : FN Tryz.prog 19 := ⟨⟨_,_,Tryz.func19,by kernel_rfl,rfl⟩⟩
instance : FN Tryz.prog 20 := ⟨⟨_,_,Tryz.func20,by kernel_rfl,rfl⟩⟩
instance : FN Tryz.prog 21 := ⟨⟨_,_,Tryz.func21,by kernel_rfl,rfl⟩⟩
instance : FN Tryz.prog 22 := ⟨⟨_,_,Tryz.func22,by kernel_rfl,rfl⟩⟩
instance : FN Tryz.prog 23 := ⟨⟨_,_,Tryz.func23,by kernel_rfl,rfl⟩⟩
instance : FN Tryz.prog 24 := ⟨⟨_,_,Tryz.func24,by kernel_rfl,rfl⟩⟩
instance : FN Tryz.prog 25 := ⟨⟨_,_,Tryz.func25,by kernel_rfl,rfl⟩⟩
instance : FN Tryz.prog 26 := ⟨⟨_,_,Tryz.func26,by kernel_rfl,rfl⟩⟩
instance : FN Tryz.prog 27 := ⟨⟨_,_,Tryz.func27,by kernel_rfl,rfl⟩⟩
instance : FN Tryz.prog 28 := ⟨⟨_,_,Tryz.func28,by kernel_rfl,rfl⟩⟩
instance : FN Tryz.prog 29 := ⟨⟨_,_,Tryz.func29,by kernel_rfl,rfl⟩⟩
instance : FN Tryz.prog 30 := ⟨⟨_,_,Tryz.func30,by kernel_rfl,rfl⟩⟩
instance : FN Tryz.prog 31 := ⟨⟨_,_,Tryz.func31,by kernel_rfl,rfl⟩⟩
instance : FN Tryz.prog 32 := ⟨⟨_,_,Tryz.func32,by kernel_rfl,rfl⟩⟩
instance : FN Tryz.prog 33 := ⟨⟨_,_,Tryz.func33,by kernel_rfl,rfl⟩⟩
instance : FN Tryz.prog 34 := ⟨⟨_,_,Tryz.func34,by kernel_rfl,rfl⟩⟩
instance : FN Tryz.prog 35 := ⟨⟨_,_,Tryz.func35,by kernel_rfl,rfl⟩⟩
instance : FN Tryz.prog 36 := ⟨⟨_,_,Tryz.func36,by kernel_rfl,rfl⟩⟩
instance : FN Tryz.prog 37 := ⟨⟨_,_,Tryz.func37,by kernel_rfl,rfl⟩⟩
instance : FN Tryz.prog 38 := ⟨⟨_,_,Tryz.func38,by kernel_rfl,rfl⟩⟩
instance : FN Tryz.prog 39 := ⟨⟨_,_,Tryz.func39,by kernel_rfl,rfl⟩⟩
instance : FN Tryz.prog 40 := ⟨⟨_,_,Tryz.func40,by kernel_rfl,rfl⟩⟩
instance : FN Tryz.prog 41 := ⟨⟨_,_,Tryz.func41,by kernel_rfl,rfl⟩⟩
instance : FN Tryz.prog 42 := ⟨⟨_,_,Tryz.func42,by kernel_rfl,rfl⟩⟩
instance : FN Tryz.prog 43 := ⟨⟨_,_,Tryz.func43,by kernel_rfl,rfl⟩⟩
instance : FN Tryz.prog 44 := ⟨⟨_,_,Tryz.func44,by kernel_rfl,rfl⟩⟩
instance : FN Tryz.prog 45 := ⟨⟨_,_,Tryz.func45,by kernel_rfl,rfl⟩⟩
instance : FN Tryz.prog 46 := ⟨⟨_,_,Tryz.func46,by kernel_rfl,rfl⟩⟩
instance : FN Tryz.prog 47 := ⟨⟨_,_,Tryz.func47,by kernel_rfl,rfl⟩⟩
instance : FN Tryz.prog 48 := ⟨⟨_,_,Tryz.func48,by kernel_rfl,rfl⟩⟩
instance : FN Tryz.prog 49 := ⟨⟨_,_,Tryz.func49,by kernel_rfl,rfl⟩⟩
instance : FN Tryz.prog 50 := ⟨⟨_,_,Tryz.func50,by kernel_rfl,rfl⟩⟩
instance : FN Tryz.prog 51 := ⟨⟨_,_,Tryz.func51,by kernel_rfl,rfl⟩⟩
instance : FN Tryz.prog 52 := ⟨⟨_,_,Tryz.func52,by kernel_rfl,rfl⟩⟩
instance : FN Tryz.prog 53 := ⟨⟨_,_,Tryz.func53,by kernel_rfl,rfl⟩⟩
instance : FN Tryz.prog 54 := ⟨⟨_,_,Tryz.func54,by kernel_rfl,rfl⟩⟩
instance : FN Tryz.prog 55 := ⟨⟨_,_,Tryz.func55,by kernel_rfl,rfl⟩⟩
instance : FN Tryz.prog 56 := ⟨⟨_,_,Tryz.func56,by kernel_rfl,rfl⟩⟩
instance : FN Tryz.prog 57 := ⟨⟨_,_,Tryz.func57,by kernel_rfl,rfl⟩⟩
instance : FN Tryz.prog 58 := ⟨⟨_,_,Tryz.func58,by kernel_rfl,rfl⟩⟩
instance : FN Tryz.prog 59 := ⟨⟨_,_,Tryz.func59,by kernel_rfl,rfl⟩⟩
instance : FN Tryz.prog 60 := ⟨⟨_,_,Tryz.func60,by kernel_rfl,rfl⟩⟩
instance : FN Tryz.prog 61 := ⟨⟨_,_,Tryz.func61,by kernel_rfl,rfl⟩⟩
instance : FN Tryz.prog 63 := ⟨⟨_,_,Tryz.func63,by kernel_rfl,rfl⟩⟩
instance : FN Tryz.prog 64 := ⟨⟨_,_,Tryz.func64,by kernel_rfl,rfl⟩⟩
instance : FN Tryz.prog 65 := ⟨⟨_,_,Tryz.func65,by kernel_rfl,rfl⟩⟩
instance : FN Tryz.prog 66 := ⟨⟨_,_,Tryz.func66,by kernel_rfl,rfl⟩⟩
instance : FN Tryz.prog 68 := ⟨⟨_,_,Tryz.func68,by kernel_rfl,rfl⟩⟩
instance : FN Tryz.prog 69 := ⟨⟨_,_,Tryz.func69,by kernel_rfl,rfl⟩⟩
instance : FN Tryz.prog 71 := ⟨⟨_,_,Tryz.func71,by kernel_rfl,rfl⟩⟩
instance : FN Tryz.prog 72 := ⟨⟨_,_,Tryz.func72,by kernel_rfl,rfl⟩⟩
instance : FN Tryz.prog 76 := ⟨⟨_,_,Tryz.func76,by kernel_rfl,rfl⟩⟩
instance : FN Tryz.prog 77 := ⟨⟨_,_,Tryz.func77,by kernel_rfl,rfl⟩⟩
instance : FN Tryz.prog 80 := ⟨⟨_,_,Tryz.func80,by kernel_rfl,rfl⟩⟩
instance : FN Tryz.prog 81 := ⟨⟨_,_,Tryz.func81,by kernel_rfl,rfl⟩⟩
instance : FN Tryz.prog 82 := ⟨⟨_,_,Tryz.func82,by kernel_rfl,rfl⟩⟩
instance : FN Tryz.prog 83 := ⟨⟨_,_,Tryz.func83,by kernel_rfl,rfl⟩⟩
instance : FN Tryz.prog 84 := ⟨⟨_,_,Tryz.func84,by kernel_rfl,rfl⟩⟩
instance : FN Tryz.prog 85 := ⟨⟨_,_,Tryz.func85,by kernel_rfl,rfl⟩⟩
instance : FN Tryz.prog 86 := ⟨⟨_,_,Tryz.func86,by kernel_rfl,rfl⟩⟩
instance : FN Tryz.prog 87 := ⟨⟨_,_,Tryz.func87,by kernel_rfl,rfl⟩⟩
instance : FN Tryz.prog 88 := ⟨⟨_,_,Tryz.func88,by kernel_rfl,rfl⟩⟩
instance : FN Tryz.prog 89 := ⟨⟨_,_,Tryz.func89,by kernel_rfl,rfl⟩⟩
instance : FN Tryz.prog 90 := ⟨⟨_,_,Tryz.func90,by kernel_rfl,rfl⟩⟩
instance : FN Tryz.prog 91 := ⟨⟨_,_,Tryz.func91,by kernel_rfl,rfl⟩⟩
instance : FN Tryz.prog 92 := ⟨⟨_,_,Tryz.func92,by kernel_rfl,rfl⟩⟩
instance : FN Tryz.prog 93 := ⟨⟨_,_,Tryz.func93,by kernel_rfl,rfl⟩⟩
instance : FN Tryz.prog 94 := ⟨⟨_,_,Tryz.func94,by kernel_rfl,rfl⟩⟩
instance : FN Tryz.prog 95 := ⟨⟨_,_,Tryz.func95,by kernel_rfl,rfl⟩⟩
instance : FN Tryz.prog 96 := ⟨⟨_,_,Tryz.func96,by kernel_rfl,rfl⟩⟩
instance : FN Tryz.prog 97 := ⟨⟨_,_,Tryz.func97,by kernel_rfl,rfl⟩⟩
instance : FN Tryz.prog 98 := ⟨⟨_,_,Tryz.func98,by kernel_rfl,rfl⟩⟩
instance : FN Tryz.prog 99 := ⟨⟨_,_,Tryz.func99,by kernel_rfl,rfl⟩⟩
instance : FN Tryz.prog 100 := ⟨⟨_,_,Tryz.func100,by kernel_rfl,rfl⟩⟩
instance : FN Tryz.prog 101 := ⟨⟨_,_,Tryz.func101,by kernel_rfl,rfl⟩⟩
instance : FN Tryz.prog 102 := ⟨⟨_,_,Tryz.func102,by kernel_rfl,rfl⟩⟩
instance : FN Tryz.prog 103 := ⟨⟨_,_,Tryz.func103,by kernel_rfl,rfl⟩⟩
instance : FN Tryz.prog 104 := ⟨⟨_,_,Tryz.func104,by kernel_rfl,rfl⟩⟩
instance : FN Tryz.prog 105 := ⟨⟨_,_,Tryz.func105,by kernel_rfl,rfl⟩⟩
instance : FN Tryz.prog 106 := ⟨⟨_,_,Tryz.func106,by kernel_rfl,rfl⟩⟩
instance : FN Tryz.prog 107 := ⟨⟨_,_,Tryz.func107,by kernel_rfl,rfl⟩⟩
instance : FN Tryz.prog 108 := ⟨⟨_,_,Tryz.func108,by kernel_rfl,rfl⟩⟩
instance : FN Tryz.prog 109 := ⟨⟨_,_,Tryz.func109,by kernel_rfl,rfl⟩⟩
instance : FN Tryz.prog 110 := ⟨⟨_,_,Tryz.func110,by kernel_rfl,rfl⟩⟩
instance : FN Tryz.prog 111 := ⟨⟨_,_,Tryz.func111,by kernel_rfl,rfl⟩⟩
instance : FN Tryz.prog 112 := ⟨⟨_,_,Tryz.func112,by kernel_rfl,rfl⟩⟩
instance : FN Tryz.prog 113 := ⟨⟨_,_,Tryz.func113,by kernel_rfl,rfl⟩⟩
instance : FN Tryz.prog 114 := ⟨⟨_,_,Tryz.func114,by kernel_rfl,rfl⟩⟩
instance : FN Tryz.prog 116 := ⟨⟨_,_,Tryz.func116,by kernel_rfl,rfl⟩⟩
instance : FN Tryz.prog 118 := ⟨⟨_,_,Tryz.func118,by kernel_rfl,rfl⟩⟩
instance : FN Tryz.prog 119 := ⟨⟨_,_,Tryz.func119,by kernel_rfl,rfl⟩⟩
instance : FN Tryz.prog 120 := ⟨⟨_,_,Tryz.func120,by kernel_rfl,rfl⟩⟩
instance : FN Tryz.prog 122 := ⟨⟨_,_,Tryz.func122,by kernel_rfl,rfl⟩⟩
instance : FN Tryz.prog 123 := ⟨⟨_,_,Tryz.func123,by kernel_rfl,rfl⟩⟩
instance : FN Tryz.prog 124 := ⟨⟨_,_,Tryz.func124,by kernel_rfl,rfl⟩⟩
instance : FN Tryz.prog 126 := ⟨⟨_,_,Tryz.func126,by kernel_rfl,rfl⟩⟩
instance : FN Tryz.prog 127 := ⟨⟨_,_,Tryz.func127,by kernel_rfl,rfl⟩⟩
instance : FN Tryz.prog 128 := ⟨⟨_,_,Tryz.func128,by kernel_rfl,rfl⟩⟩
instance : FN Tryz.prog 129 := ⟨⟨_,_,Tryz.func129,by kernel_rfl,rfl⟩⟩
instance : FN Tryz.prog 132 := ⟨⟨_,_,Tryz.func132,by kernel_rfl,rfl⟩⟩
instance : FN Tryz.prog 133 := ⟨⟨_,_,Tryz.func133,by kernel_rfl,rfl⟩⟩
instance : FN Tryz.prog 134 := ⟨⟨_,_,Tryz.func134,by kernel_rfl,rfl⟩⟩
instance : FN Tryz.prog 135 := ⟨⟨_,_,Tryz.func135,by kernel_rfl,rfl⟩⟩
instance : FN Tryz.prog 136 := ⟨⟨_,_,Tryz.func136,by kernel_rfl,rfl⟩⟩
instance : FN Tryz.prog 137 := ⟨⟨_,_,Tryz.func137,by kernel_rfl,rfl⟩⟩
instance : FN Tryz.prog 138 := ⟨⟨_,_,Tryz.func138,by kernel_rfl,rfl⟩⟩
instance : FN Tryz.prog 139 := ⟨⟨_,_,Tryz.func139,by kernel_rfl,rfl⟩⟩
instance : FN Tryz.prog 140 := ⟨⟨_,_,Tryz.func140,by kernel_rfl,rfl⟩⟩
instance : FN Tryz.prog 141 := ⟨⟨_,_,Tryz.func141,by kernel_rfl,rfl⟩⟩
instance : FN Tryz.prog 142 := ⟨⟨_,_,Tryz.func142,by kernel_rfl,rfl⟩⟩
instance : FN Tryz.prog 143 := ⟨⟨_,_,Tryz.func143,by kernel_rfl,rfl⟩⟩
instance : FN Tryz.prog 144 := ⟨⟨_,_,Tryz.func144,by kernel_rfl,rfl⟩⟩
instance : FN Tryz.prog 145 := ⟨⟨_,_,Tryz.func145,by kernel_rfl,rfl⟩⟩
instance : FN Tryz.prog 146 := ⟨⟨_,_,Tryz.func146,by kernel_rfl,rfl⟩⟩
instance : FN Tryz.prog 147 := ⟨⟨_,_,Tryz.func147,by kernel_rfl,rfl⟩⟩
instance : FN Tryz.prog 148 := ⟨⟨_,_,Tryz.func148,by kernel_rfl,rfl⟩⟩
instance : FN Tryz.prog 149 := ⟨⟨_,_,Tryz.func149,by kernel_rfl,rfl⟩⟩
instance : FN Tryz.prog 150 := ⟨⟨_,_,Tryz.func150,by kernel_rfl,rfl⟩⟩
instance : FN Tryz.prog 151 := ⟨⟨_,_,Tryz.func151,by kernel_rfl,rfl⟩⟩
instance : FN Tryz.prog 152 := ⟨⟨_,_,Tryz.func152,by kernel_rfl,rfl⟩⟩
instance : FN Tryz.prog 153 := ⟨⟨_,_,Tryz.func153,by kernel_rfl,rfl⟩⟩
instance : FN Tryz.prog 154 := ⟨⟨_,_,Tryz.func154,by kernel_rfl,rfl⟩⟩
instance : FN Tryz.prog 155 := ⟨⟨_,_,Tryz.func155,by kernel_rfl,rfl⟩⟩
instance : FN Tryz.prog 156 := ⟨⟨_,_,Tryz.func156,by kernel_rfl,rfl⟩⟩
instance : FN Tryz.prog 157 := ⟨⟨_,_,Tryz.func157,by kernel_rfl,rfl⟩⟩
instance : FN Tryz.prog 158 := ⟨⟨_,_,Tryz.func158,by kernel_rfl,rfl⟩⟩
instance : FN Tryz.prog 168 := ⟨⟨_,_,Tryz.func168,by kernel_rfl,rfl⟩⟩
instance : FN Tryz.prog 171 := ⟨⟨_,_,Tryz.func171,by kernel_rfl,rfl⟩⟩
instance : FN Tryz.prog 177 := ⟨⟨_,_,Tryz.func177,by kernel_rfl,rfl⟩⟩
instance : FN Tryz.prog 185 := ⟨⟨_,_,Tryz.func185,by kernel_rfl,rfl⟩⟩
instance : FN Tryz.prog 188 := ⟨⟨_,_,Tryz.func188,by kernel_rfl,rfl⟩⟩
instance : FN Tryz.prog 189 := ⟨⟨_,_,Tryz.func189,by kernel_rfl,rfl⟩⟩
instance : FN Tryz.prog 190 := ⟨⟨_,_,Tryz.func190,by kernel_rfl,rfl⟩⟩
instance : FN Tryz.prog 191 := ⟨⟨_,_,Tryz.func191,by kernel_rfl,rfl⟩⟩
instance : FN Tryz.prog 192 := ⟨⟨_,_,Tryz.func192,by kernel_rfl,rfl⟩⟩
instance : FN Tryz.prog 193 := ⟨⟨_,_,Tryz.func193,by kernel_rfl,rfl⟩⟩
instance : FN Tryz.prog 194 := ⟨⟨_,_,Tryz.func194,by kernel_rfl,rfl⟩⟩
instance : FN Tryz.prog 195 := ⟨⟨_,_,Tryz.func195,by kernel_rfl,rfl⟩⟩
instance : FN Tryz.prog 196 := ⟨⟨_,_,Tryz.func196,by kernel_rfl,rfl⟩⟩
instance : FN Tryz.prog 197 := ⟨⟨_,_,Tryz.func197,by kernel_rfl,rfl⟩⟩
instance : FN Tryz.prog 198 := ⟨⟨_,_,Tryz.func198,by kernel_rfl,rfl⟩⟩
instance : FN Tryz.prog 199 := ⟨⟨_,_,Tryz.func199,by kernel_rfl,rfl⟩⟩
instance : FN Tryz.prog 200 := ⟨⟨_,_,Tryz.func200,by kernel_rfl,rfl⟩⟩
instance : FN Tryz.prog 201 := ⟨⟨_,_,Tryz.func201,by kernel_rfl,rfl⟩⟩
instance : FN Tryz.prog 202 := ⟨⟨_,_,Tryz.func202,by kernel_rfl,rfl⟩⟩
instance : FN Tryz.prog 203 := ⟨⟨_,_,Tryz.func203,by kernel_rfl,rfl⟩⟩
instance : FN Tryz.prog 204 := ⟨⟨_,_,Tryz.func204,by kernel_rfl,rfl⟩⟩
instance : FN Tryz.prog 205 := ⟨⟨_,_,Tryz.func205,by kernel_rfl,rfl⟩⟩
instance : FN Tryz.prog 206 := ⟨⟨_,_,Tryz.func206,by kernel_rfl,rfl⟩⟩
instance : FN Tryz.prog 207 := ⟨⟨_,_,Tryz.func207,by kernel_rfl,rfl⟩⟩
instance : FN Tryz.prog 208 := ⟨⟨_,_,Tryz.func208,by kernel_rfl,rfl⟩⟩
instance : FN Tryz.prog 209 := ⟨⟨_,_,Tryz.func209,by kernel_rfl,rfl⟩⟩
instance : FN Tryz.prog 210 := ⟨⟨_,_,Tryz.func210,by kernel_rfl,rfl⟩⟩
instance : FN Tryz.prog 211 := ⟨⟨_,_,Tryz.func211,by kernel_rfl,rfl⟩⟩
instance : FN Tryz.prog 212 := ⟨⟨_,_,Tryz.func212,by kernel_rfl,rfl⟩⟩
instance : FN Tryz.prog 213 := ⟨⟨_,_,Tryz.func213,by kernel_rfl,rfl⟩⟩
instance : FN Tryz.prog 214 := ⟨⟨_,_,Tryz.func214,by kernel_rfl,rfl⟩⟩
instance : FN Tryz.prog 215 := ⟨⟨_,_,Tryz.func215,by kernel_rfl,rfl⟩⟩
instance : FN Tryz.prog 216 := ⟨⟨_,_,Tryz.func216,by kernel_rfl,rfl⟩⟩
instance : FN Tryz.prog 217 := ⟨⟨_,_,Tryz.func217,by kernel_rfl,rfl⟩⟩
instance : FN Tryz.prog 218 := ⟨⟨_,_,Tryz.func218,by kernel_rfl,rfl⟩⟩
instance : FN Tryz.prog 219 := ⟨⟨_,_,Tryz.func219,by kernel_rfl,rfl⟩⟩
instance : FN Tryz.prog 220 := ⟨⟨_,_,Tryz.func220,by kernel_rfl,rfl⟩⟩
instance : FN Tryz.prog 226 := ⟨⟨_,_,Tryz.func226,by kernel_rfl,rfl⟩⟩
instance : FN Tryz.prog 231 := ⟨⟨_,_,Tryz.func231,by kernel_rfl,rfl⟩⟩
instance : FN Tryz.prog 232 := ⟨⟨_,_,Tryz.func232,by kernel_rfl,rfl⟩⟩
instance : FN Tryz.prog 233 := ⟨⟨_,_,Tryz.func233,by kernel_rfl,rfl⟩⟩
instance : FN Tryz.prog 241 := ⟨⟨_,_,Tryz.func241,by kernel_rfl,rfl⟩⟩
instance : FN Tryz.prog 242 := ⟨⟨_,_,Tryz.func242,by kernel_rfl,rfl⟩⟩
instance : FN Tryz.prog 243 := ⟨⟨_,_,Tryz.func243,by kernel_rfl,rfl⟩⟩
instance : FN Tryz.prog 244 := ⟨⟨_,_,Tryz.func244,by kernel_rfl,rfl⟩⟩
instance : FN Tryz.prog 255 := ⟨⟨_,_,Tryz.func255,by kernel_rfl,rfl⟩⟩
instance : FN Tryz.prog 256 := ⟨⟨_,_,Tryz.func256,by kernel_rfl,rfl⟩⟩
instance : FN Tryz.prog 261 := ⟨⟨_,_,Tryz.func261,by kernel_rfl,rfl⟩⟩
instance : FN Tryz.prog 262 := ⟨⟨_,_,Tryz.func262,by kernel_rfl,rfl⟩⟩
instance : FN Tryz.prog 263 := ⟨⟨_,_,Tryz.func263,by kernel_rfl,rfl⟩⟩
instance : FN Tryz.prog 264 := ⟨⟨_,_,Tryz.func264,by kernel_rfl,rfl⟩⟩
instance : FN Tryz.prog 265 := ⟨⟨_,_,Tryz.func265,by kernel_rfl,rfl⟩⟩
instance : FN Tryz.prog 266 := ⟨⟨_,_,Tryz.func266,by kernel_rfl,rfl⟩⟩
instance : FN Tryz.prog 267 := ⟨⟨_,_,Tryz.func267,by kernel_rfl,rfl⟩⟩
instance : FN Tryz.prog 268 := ⟨⟨_,_,Tryz.func268,by kernel_rfl,rfl⟩⟩
instance : FN Tryz.prog 269 := ⟨⟨_,_,Tryz.func269,by kernel_rfl,rfl⟩⟩
instance : FN Tryz.prog 270 := ⟨⟨_,_,Tryz.func270,by kernel_rfl,rfl⟩⟩
instance : FN Tryz.prog 271 := ⟨⟨_,_,Tryz.func271,by kernel_rfl,rfl⟩⟩
instance : FN Tryz.prog 272 := ⟨⟨_,_,Tryz.func272,by kernel_rfl,rfl⟩⟩
instance : FN Tryz.prog 273 := ⟨⟨_,_,Tryz.func273,by kernel_rfl,rfl⟩⟩
instance : FN Tryz.prog 274 := ⟨⟨_,_,Tryz.func274,by kernel_rfl,rfl⟩⟩
instance : FN Tryz.prog 275 := ⟨⟨_,_,Tryz.func275,by kernel_rfl,rfl⟩⟩
instance : FN Tryz.prog 276 := ⟨⟨_,_,Tryz.func276,by kernel_rfl,rfl⟩⟩
instance : FN Tryz.prog 277 := ⟨⟨_,_,Tryz.func277,by kernel_rfl,rfl⟩⟩
instance : FN Tryz.prog 278 := ⟨⟨_,_,Tryz.func278,by kernel_rfl,rfl⟩⟩
instance : FN Tryz.prog 279 := ⟨⟨_,_,Tryz.func279,by kernel_rfl,rfl⟩⟩
instance : FN Tryz.prog 280 := ⟨⟨_,_,Tryz.func280,by kernel_rfl,rfl⟩⟩
instance : FN Tryz.prog 281 := ⟨⟨_,_,Tryz.func281,by kernel_rfl,rfl⟩⟩
instance : FN Tryz.prog 282 := ⟨⟨_,_,Tryz.func282,by kernel_rfl,rfl⟩⟩
instance : FN Tryz.prog 283 := ⟨⟨_,_,Tryz.func283,by kernel_rfl,rfl⟩⟩
instance : FN Tryz.prog 284 := ⟨⟨_,_,Tryz.func284,by kernel_rfl,rfl⟩⟩
instance : FN Tryz.prog 285 := ⟨⟨_,_,Tryz.func285,by kernel_rfl,rfl⟩⟩
instance : FN Tryz.prog 286 := ⟨⟨_,_,Tryz.func286,by kernel_rfl,rfl⟩⟩
instance : FN Tryz.prog 290 := ⟨⟨_,_,Tryz.func290,by kernel_rfl,rfl⟩⟩
instance : FN Tryz.prog 291 := ⟨⟨_,_,Tryz.func291,by kernel_rfl,rfl⟩⟩
instance : FN Tryz.prog 296 := ⟨⟨_,_,Tryz.func296,by kernel_rfl,rfl⟩⟩
instance : FN Tryz.prog 297 := ⟨⟨_,_,Tryz.func297,by kernel_rfl,rfl⟩⟩
instance : FN Tryz.prog 298 := ⟨⟨_,_,Tryz.func298,by kernel_rfl,rfl⟩⟩
instance : FN Tryz.prog 299 := ⟨⟨_,_,Tryz.func299,by kernel_rfl,rfl⟩⟩
instance : FN Tryz.prog 300 := ⟨⟨_,_,Tryz.func300,by kernel_rfl,rfl⟩⟩
instance : FN Tryz.prog 306 := ⟨⟨_,_,Tryz.func306,by kernel_rfl,rfl⟩⟩
instance : FN Tryz.prog 307 := ⟨⟨_,_,Tryz.func307,by kernel_rfl,rfl⟩⟩
instance : FN Tryz.prog 308 := ⟨⟨_,_,Tryz.func308,by kernel_rfl,rfl⟩⟩
instance : FN Tryz.prog 316 := ⟨⟨_,_,Tryz.func316,by kernel_rfl,rfl⟩⟩
instance : FN Tryz.prog 317 := ⟨⟨_,_,Tryz.func317,by kernel_rfl,rfl⟩⟩
instance : FN Tryz.prog 318 := ⟨⟨_,_,Tryz.func318,by kernel_rfl,rfl⟩⟩
instance : FN Tryz.prog 319 := ⟨⟨_,_,Tryz.func319,by kernel_rfl,rfl⟩⟩
instance : FN Tryz.prog 320 := ⟨⟨_,_,Tryz.func320,by kernel_rfl,rfl⟩⟩
instance : FN Tryz.prog 321 := ⟨⟨_,_,Tryz.func321,by kernel_rfl,rfl⟩⟩
instance : FN Tryz.prog 322 := ⟨⟨_,_,Tryz.func322,by kernel_rfl,rfl⟩⟩
instance : FN Tryz.prog 323 := ⟨⟨_,_,Tryz.func323,by kernel_rfl,rfl⟩⟩
instance : FN Tryz.prog 324 := ⟨⟨_,_,Tryz.func324,by kernel_rfl,rfl⟩⟩
instance : FN Tryz.prog 325 := ⟨⟨_,_,Tryz.func325,by kernel_rfl,rfl⟩⟩
instance : FN Tryz.prog 326 := ⟨⟨_,_,Tryz.func326,by kernel_rfl,rfl⟩⟩
instance : FN Tryz.prog 327 := ⟨⟨_,_,Tryz.func327,by kernel_rfl,rfl⟩⟩
instance : FN Tryz.prog 328 := ⟨⟨_,_,Tryz.func328,by kernel_rfl,rfl⟩⟩
instance : FN Tryz.prog 329 := ⟨⟨_,_,Tryz.func329,by kernel_rfl,rfl⟩⟩
instance : FN Tryz.prog 333 := ⟨⟨_,_,Tryz.func333,by kernel_rfl,rfl⟩⟩
instance : FN Tryz.prog 334 := ⟨⟨_,_,Tryz.func334,by kernel_rfl,rfl⟩⟩
instance : FN Tryz.prog 349 := ⟨⟨_,_,Tryz.func349,by kernel_rfl,rfl⟩⟩
instance : FN Tryz.prog 352 := ⟨⟨_,_,Tryz.func352,by kernel_rfl,rfl⟩⟩
instance : FN Tryz.prog 363 := ⟨⟨_,_,Tryz.func363,by kernel_rfl,rfl⟩⟩
end Go.Proofs.YtmfojbidojjciaaGreat
namespace Go.Proofs.YtmfojbidojjciaaGreat
open Go.RowKit
set_option maxHeartbeats 1000000
class Mk (α : Type) where
  cnt : Int
  mkv : Int → α
def mkL {α : Type} [Mk α] (k : Int) (n : Nat) : List α := (List.range n).map fun (j : Nat) => Mk.mkv (k + Mk.cnt α * (j : Int))
theorem mkL_len {α : Type} [Mk α] (k : Int) (n : Nat) : (mkL k n : List α).length = n := by simp [mkL]
theorem mkL_nth {α : Type} [Mk α] [Dat α] (k : Int) (n j : Nat) (h : j < n) : nth (mkL k n : List α) j = Mk.mkv (k + Mk.cnt α * j) := by simp [nth,mkL,h]
theorem mk_step {α : Type} [Mk α] [Dat α] (l : List α) (k : Int) (i : Nat) (h : i < l.length) : (mkL k i ++ l.drop i).set i (Mk.mkv (k + Mk.cnt α * i)) = mkL k (i + 1) ++ l.drop (i + 1) := by
  have h1 : (mkL k i : List α).length = i := mkL_len k i
  rw [List.set_append_right _ _ (by omega),h1,Nat.sub_self,List.drop_eq_getElem_cons h,List.set_cons_zero]
  simp [mkL,List.range_succ]
theorem mk_nth {α : Type} [Mk α] [Dat α] (l : List α) (k : Int) (i : Nat) (h : i < l.length) : nth (mkL k i ++ l.drop i) i = nth l i := by
  have h1 : (mkL k i : List α).length = i := mkL_len k i
  have h2 : (mkL k i ++ l.drop i)[i]? = l[i]? := by
    rw [List.getElem?_append_right (by omega),h1,Nat.sub_self,List.getElem?_drop];simp
  simp [nth,h2]
theorem nth_set {α : Type} [Dat α] (l : List α) (i : Nat) (x : α) (h : i < l.length) : nth (l.set i x) i = x := by simp [nth,h]
theorem nth_mem {α : Type} [Dat α] (l : List α) (k : Nat) (h : k < l.length) : nth l k ∈ l := by
  have : nth l k = l[k] := by simp [nth,h]
  rw [this];exact List.getElem_mem h
theorem mem_nth {α : Type} [Dat α] {l : List α} {p : α → Prop} (h : ∀ j,j < l.length → p (nth l j)) : ∀ x ∈ l,p x := fun x hx => by
  obtain ⟨j,hj,rfl⟩ := List.getElem_of_mem hx
  have := h j hj
  rwa [show nth l j = l[j] by simp [nth,hj]] at this
theorem WOk.same {base : Nat} {w0 w : World} {H H' : List HObj} {G : List World} (e : H = H') (h : WOk base w0 H G w) : WOk base w0 H' G w := e ▸ h
instance : Mk Int := ⟨1,fun k => k⟩
theorem toIntS_c (A : Option Addr) (c : Nat) (l : List Int) (w : World) (h : Rd w A (fl l)) (hl : l.length ≤ 1048576) :
    Calls Tryz.prog 205 #[.slice A l.length c] w fun e w' => ∃ y : Ys,e = .returned (.slice (y 0).A l.length (y 0).c) ∧ True ∧ Below w.heap.size w w' ∧ NewOk w.heap.size [.row 3 1 (y 0).A l.length (y 0).c (fl l)] [] w' := by
  refine ok_enter 22 Tryz.func205 rfl rfl rfl ?_
  repeat' (first|refine Wa ?_|refine Wb ?_|refine Wd ?_|(refine Zr 0 ?_;refine Za ?_;refine Ze1 0 ?_)|(refine Zr 1 ?_;refine Zm ?_;refine Zq (ps_len rfl rfl) ?_;refine Zn (by exact ms_make (z := [.int .i64 0]) rfl rfl rfl (by omega) (by omega)) ?_;rintro y7 hy7;refine Za ?_;refine Ze2 0 3 ?_)|(refine Zr 2 ?_;refine Za ?_;refine Ze3 0 3 4 ?_))
  rw [show (madeCells [Value.int IntKind.i64 0].toArray (l.length * 1)).toList = fl (List.replicate l.length (0 : Int)) from made_fl (0 : Int) l.length]
  refine ok_loop (ι := { k : Nat // k ≤ l.length }) (fun k => l.length - k.1) (fun k => ([(0,.slice A l.length c),(3,.slice (ga (y7 0).c) l.length l.length),(4,.int .i64 k.1)],[.row 3 1 (ga (y7 0).c) l.length l.length (fl (l.take k.1 ++ List.replicate (l.length - k.1) (0 : Int)))],_)) ⟨0,by omega⟩ (fun a w he hw => ⟨⟨0,by omega⟩,he.sub ⟨rfl,rfl,rfl,trivial⟩,by simpa using hw⟩) ?_
  rintro ⟨k,hk⟩
  simp only at hk ⊢
  repeat' (first|refine Wa ?_|refine Wb ?_|refine Wd ?_|refine We ?_|(refine ok_cond rfl (fun hc => ?_) (fun hc => ?_) <;> (have hd := hc;try simp only [jj] at hd))|refine Wg ?_|refine Wh ?_|refine Wi ?_|(refine Zr 3 ?_;refine Zm ?_;refine Zm ?_;refine Zq (ps_len rfl rfl) ?_;refine Zi ?_;refine Ze4 0 3 4 11 ?_)|(refine Zr 4 ?_;refine Zm ?_;refine Zq (by exact ps_add rfl rfl rfl (by omega)) ?_;refine Za ?_;refine Ze3 0 3 4 ?_)|(refine Zr 5 ?_;refine Zm ?_;refine Zm ?_;refine Zm ?_;refine Zm ?_;refine Zq (by exact ps_indexN rfl rfl rfl (by omega) (by exact isw_of (isS_fl (by assumption) (by omega)))) ?_;refine Zq (by exact ps_load rfl rfl (by exact Rds.cell (rds_rf (by assumption) List.mem_cons_self) (by exact fl_at0 _ _ (by omega) (by decide)))) ?_;refine Zq (by exact ps_indexN rfl rfl rfl (by omega) (isw_ga _)) ?_;refine Zo (by exact ms_setw 0 k (nth l k) rfl rfl rfl rfl rfl rfl rfl rfl rfl (by simp;omega)) ?_;rintro y_ hy_;refine Ze3 0 3 4 ?_)|(refine Zr 6 ?_;refine Zm ?_;refine Za ?_;refine Ze1 2 ?_))
  · refine fun a w' he hw => ⟨⟨k + 1,by omega⟩,by simp only;omega,he.sub ⟨rfl,rfl,rfl,trivial⟩,?_⟩
    simp only
    rw [← fill_step l 0 k (by omega)]
    exact hw
  · obtain rfl : k = l.length := by omega
    refine ok_endL (vs := [_]) rfl ⟨rfl,trivial⟩ (fun w' hw => ⟨mkY (ga (y7 0).c) l.length w,rfl,trivial,hw.below,?_⟩)
    have := NewOk.of hw
    simpa [mkY] using this
theorem eqIntS_c (A B : Option Addr) (c d : Nat) (l : List Int) (w : World) (h : Rd w A (fl l)) (h2 : Rd w B (fl l)) (hl : l.length ≤ 140737488355328) :
    Calls Tryz.prog 214 #[.slice A l.length c,.slice B l.length d] w fun e w' => e = .returned (.bool true) ∧ Below w.heap.size w w' := by
  refine ok_enter 26 Tryz.func214 rfl rfl rfl ?_
  repeat' (first|refine Wa ?_|refine Wb ?_|refine Wc ?_|refine Wd ?_|(refine ok_cond rfl (fun hc => ?_) (fun hc => ?_) <;> (have hd := hc;try simp only [jj] at hd))|refine Wg ?_|refine Wi ?_|(refine Zr 0 ?_;refine Za ?_;refine Ze2 0 1 ?_)|(refine Zr 1 ?_;refine Zm ?_;refine Zq (ps_len rfl rfl) ?_;refine Zm ?_;refine Zq (ps_len rfl rfl) ?_;refine Zi ?_;refine Ze3 0 1 10 ?_)|(refine Zr 2 ?_;refine Za ?_;refine Ze1 4 ?_)|(refine Zr 3 ?_;refine Za ?_;refine Ze3 0 1 5 ?_))
  · exact absurd hc (by simp)
  · refine ok_loop (ι := { k : Nat // k ≤ l.length }) (fun k => l.length - k.1) (fun k => ([(0,.slice A l.length c),(1,.slice B l.length d),(5,.int .i64 k.1)],_,_)) ⟨0,by omega⟩ (fun a w he hw => ⟨⟨0,by omega⟩,he.sub ⟨rfl,rfl,rfl,trivial⟩,hw⟩) ?_
    rintro ⟨k,hk⟩
    simp only at hk ⊢
    repeat' (first|refine Wa ?_|refine Wb ?_|refine Wc ?_|refine Wd ?_|refine We ?_|refine Wf ?_|(refine ok_cond rfl (fun hc => ?_) (fun hc => ?_) <;> (have hd := hc;try simp only [jj] at hd))|refine Wg ?_|refine Wh ?_|refine Wi ?_|(refine Zr 4 ?_;refine Zm ?_;refine Zm ?_;refine Zq (ps_len rfl rfl) ?_;refine Zi ?_;refine Ze4 0 1 5 14 ?_)|(refine Zr 5 ?_;refine Zm ?_;refine Zq (by exact ps_add rfl rfl rfl (by omega)) ?_;refine Za ?_;refine Ze3 0 1 5 ?_)|(refine Xd 6 9 ?_;refine Xm 0 ?_;refine Xm 1 ?_;refine Xt 2 rfl (by exact ps_indexN rfl rfl rfl (by omega) (by exact isw_of (isS_fl (by assumption) (by omega)))) ?_;refine Xt 3 rfl (by exact ps_load rfl rfl (by exact Rds.cell (rds_rf (by assumption) List.mem_cons_self) (by exact fl_at0 _ _ (by omega) (by decide)))) ?_;refine Xm 4 ?_;refine Xm 5 ?_;refine Xt 6 rfl (by exact ps_indexN rfl rfl rfl (by omega) (by exact isw_of (isS_fl (by assumption) (by omega)))) ?_;refine Xt 7 rfl (by exact ps_load rfl rfl (by exact Rds.cell (rds_rf (by assumption) List.mem_cons_self) (by exact fl_at0 _ _ (by omega) (by decide)))) ?_;refine Xt 8 rfl (ps_int rfl rfl rfl rfl) ?_;refine okT_done (by kernel_rfl) ?_;refine Ze4 0 1 5 25 ?_)|(refine Zr 7 ?_;refine Za ?_;refine Ze1 4 ?_)|(refine Zr 8 ?_;refine Za ?_;refine Ze1 4 ?_))
    · exact absurd hc (by simp)
    · exact fun a w' he hw => ⟨⟨k + 1,by omega⟩,by simp only;omega,he.sub ⟨rfl,rfl,rfl,trivial⟩,hw⟩
    · exact ok_endL (vs := [_]) rfl ⟨rfl,trivial⟩ (fun w' hw => ⟨rfl,hw.below⟩)
theorem markIntS_c0 (A : Option Addr) (c : Nat) (l : List Int) (k0 : Int) (hk0 : 0 ≤ k0 ∧ k0 ≤ 1000000000000000) (hl : l.length ≤ 140737488355328) {base : Nat} {w0 w : World} {H : List HObj} {G : List World}
    (hw : WOk base w0 (.row 3 1 A l.length c (fl l) :: H) G w) :
    Calls Tryz.prog 112 #[.slice A l.length c,.int .i64 k0] w fun e w' => ∃ y : Ys,e = .returned (.int .i64 (k0 + l.length)) ∧ True ∧ WOk base w0 (.row 3 1 A l.length c (fl (mkL k0 l.length : List Int)) :: H) G w' := by
  refine ok_enterW 19 Tryz.func112 rfl rfl rfl hw ?_
  repeat' (first|refine Wa ?_|refine Wb ?_|refine Wd ?_|(refine Zr 0 ?_;refine Za ?_;refine Ze2 0 1 ?_)|(refine Zr 1 ?_;refine Za ?_;refine Ze3 0 1 5 ?_))
  refine ok_loop (ι := { k : Nat // k ≤ l.length }) (fun k => l.length - k.1) (fun k => ([(0,.slice A l.length c),(1,.int .i64 (k0 + k.1)),(5,.int .i64 k.1)],.row 3 1 A l.length c (fl (mkL k0 k.1 ++ l.drop k.1)) :: H,_)) ⟨0,by omega⟩ (fun a w he hw => ⟨⟨0,by omega⟩,he.sub ⟨rfl,by simp [look,initE],rfl,trivial⟩,by simpa [mkL] using hw⟩) ?_
  rintro ⟨k,hk⟩
  simp only at hk ⊢
  repeat' (first|refine Wa ?_|refine Wb ?_|refine Wd ?_|refine We ?_|(refine ok_cond rfl (fun hc => ?_) (fun hc => ?_) <;> (have hd := hc;try simp only [jj] at hd))|refine Wg ?_|refine Wh ?_|refine Wi ?_|(refine Zr 2 ?_;refine Zm ?_;refine Zm ?_;refine Zq (ps_len rfl rfl) ?_;refine Zi ?_;refine Ze4 0 1 5 9 ?_)|(refine Zr 3 ?_;refine Zm ?_;refine Zq (by exact ps_add rfl rfl rfl (by omega)) ?_;refine Za ?_;refine Ze3 0 1 5 ?_)|(refine Zr 4 ?_;refine Zm ?_;refine Zm ?_;refine Zm ?_;refine Zq (by exact ps_indexN rfl rfl rfl (by omega) (by exact isw_row 0 rfl (by omega))) ?_;refine Zo (by exact ms_setw 0 k (k0 + k) rfl rfl rfl rfl rfl rfl rfl rfl rfl (by simp [mkL_len];omega)) ?_;rintro y_ hy_;refine Ze3 0 1 5 ?_)|(refine Zr 5 ?_;refine Zm ?_;refine Zq (by exact ps_add rfl rfl rfl (by omega)) ?_;refine Za ?_;refine Ze3 0 1 5 ?_)|(refine Zr 6 ?_;refine Zm ?_;refine Za ?_;refine Ze1 4 ?_))
  · refine fun a w' he hw => ⟨⟨k + 1,by omega⟩,by simp only;omega,he.sub ⟨rfl,?_,rfl,trivial⟩,?_⟩
    · simp only [look];congr 2;simp;omega
    · have e := mk_step l k0 k (by omega)
      rw [show (Mk.mkv (k0 + Mk.cnt Int * (k : Int)) : Int) = k0 + k from by show k0 + 1 * (k : Int) = _;omega] at e
      simp only
      rw [← e]
      exact hw
  · obtain rfl : k = l.length := by omega
    refine ok_endL (vs := [_]) rfl ⟨rfl,trivial⟩ (fun w' hw => ⟨mkY none 0 w,rfl,trivial,?_⟩)
    simpa using hw
theorem markIntS_c (A : Option Addr) (c : Nat) (l : List Int) (k0 : Int) (hk0 : 0 ≤ k0 ∧ k0 ≤ 1000000000000000) (hl : l.length ≤ 140737488355328) {base : Nat} {w0 w : World} {H : List HObj} {G : List World}
    (hw : WOk base w0 (.row 3 1 A l.length c (fl l) :: H) G w) :
    Calls Tryz.prog 112 #[.slice A l.length c,.int .i64 k0] w fun e w' => ∃ y : Ys,e = .returned (.int .i64 (k0 + 1 * (l.length : Int))) ∧ True ∧ WOk base w0 (.row 3 1 A l.length c (fl (mkL k0 l.length : List Int)) :: H) G w' := by
  rw [Int.one_mul];exact markIntS_c0 A c l k0 hk0 hl hw
end Go.Proofs.YtmfojbidojjciaaGreat
namespace Go.Proofs.YtmfojbidojjciaaGreat
open Go.RowKit
set_option maxHeartbeats 1000000
theorem ps_str1 {P : Program} {E : Env} {H : List HObj} {G : List World} {o : Oper} {x : Operand} {s t e : TypeId} {A : Option Addr} {c : Nat} {n : Int} {sz bytes : Nat} [hs' : EL P s e sz bytes] [he'' : IK P e .u8] [ht' : SS P t] (ho : o.op = .convert s t x) (hx : opd E x = some (.slice A 1 c)) (hr : Rds H G A [.int .u8 n]) : PStep P E H G o (.string (byteStr n)) := fun N base w0 a w he hw => by
  have h := hr base w0 w hw
  obtain ⟨ad,rfl,hc⟩ := h 0 (.int .u8 n) rfl
  have hrun : (convert s t (.slice (some ad) 1 c)).run P w = .ok (.string (byteStr n)) w := by
    rw [run_convert_bytes_string w _ _ e (some ad) 1 c hs'.h.1 he''.h ht'.h]
    rw [run_bytesToString w ad 1 c [n] (by
      have := run_loadCells_list (P := P) w ad [Value.int .u8 n] (fun j v hj => by
        rcases j with _ | j
        · simp at hj;subst hj;simpa [Addr.add] using hc
        · simp at hj)
      simpa using this)]
    simp [byteStr,ByteArray.empty,ByteArray.emptyWithCapacity,ByteArray.push]
    rfl
  simp [execOp,ho,he.eval hx,hrun]
def dig (k : Int) : ByteArray := byteStr (IntKind.u8.wrap (48 + k % 10))
def mtF : Nat → Int → ByteArray → ByteArray
  | 0,_,out => out
  | f + 1,k,out => if 0 < k then mtF f (k / 10) (dig k ++ out) else out
def mT (k : Int) : ByteArray := if 0 < k then ⟨#[109]⟩ ++ mtF k.toNat k ⟨#[]⟩ else ⟨#[109,48]⟩
theorem mtF_done (f : Nat) (k : Int) (out : ByteArray) (h : ¬ 0 < k) : mtF f k out = out := by cases f <;> simp [mtF,h]
theorem markText_c (k : Int) (h : k ≤ 4000000000000000000) (w : World) :
    Calls Tryz.prog 113 #[.int .i64 k] w fun e w' => e = .returned (.string (mT k)) ∧ Below w.heap.size w w' := by
  refine ok_enter 20 Tryz.func113 rfl rfl rfl ?_
  repeat' (first|refine Wa ?_|refine Wb ?_|refine Wc ?_|refine Wd ?_|(refine ok_cond rfl (fun hc => ?_) (fun hc => ?_) <;> (have hd := hc;try simp only [jj] at hd))|refine Wg ?_|refine Wi ?_|(refine Zr 0 ?_;refine Za ?_;refine Ze1 0 ?_)|(refine Zr 1 ?_;refine Zm ?_;refine Zi ?_;refine Ze2 0 5 ?_)|(refine Zr 2 ?_;refine Za ?_;refine Ze1 2 ?_)|(refine Zr 3 ?_;refine Za ?_;refine Ze2 0 3 ?_))
  · exact ok_endL (vs := [_]) rfl ⟨rfl,trivial⟩ (fun w' hw => ⟨by show Ending.returned (.string _) = _;unfold mT;rw [if_neg (by omega)],hw.below⟩)
  · have hT := Lib.hid (show mT k = ⟨#[109]⟩ ++ mtF k.toNat k ⟨#[]⟩ by unfold mT;rw [if_pos (by omega)])
    refine ok_loop (ι := { p : Int × ByteArray × Nat // p.1 ≤ k ∧ p.1 ≤ p.2.2 ∧ mtF p.2.2 p.1 p.2.1 = mtF k.toNat k ⟨#[]⟩ ∧ p.2.1.size + p.2.2 ≤ k.toNat }) (fun p => p.1.1.toNat) (fun p => ([(0,.int .i64 p.1.1),(3,.string p.1.2.1)],[],_)) ⟨(k,⟨#[]⟩,k.toNat),Int.le_refl _,by simp only;omega,rfl,by show 0 + k.toNat ≤ _;omega⟩ (fun a w he hw => ⟨⟨(k,⟨#[]⟩,k.toNat),Int.le_refl _,by simp only;omega,rfl,by show 0 + k.toNat ≤ _;omega⟩,he.sub ⟨rfl,rfl,trivial⟩,hw⟩) ?_
    rintro ⟨⟨q,out,f⟩,hq1,hq2,hq3,hq4⟩
    simp only at hq1 hq2 hq3 hq4 ⊢
    have H3 := Lib.hid hq3;clear hq3
    have hds : (dig q).size = 1 := rfl
    have hms : (⟨#[109]⟩ : ByteArray).size = 1 := rfl
    repeat' (first|refine Wa ?_|refine Wb ?_|refine Wd ?_|refine We ?_|(refine ok_cond rfl (fun hc => ?_) (fun hc => ?_) <;> (have hd := hc;try simp only [jj] at hd))|refine Wg ?_|refine Wh ?_|refine Wi ?_|(refine Zr 4 ?_;refine Zm ?_;refine Zi ?_;refine Ze3 0 3 7 ?_)|(refine Zr 5 ?_;refine Zm ?_;refine Zq (by exact ps_rem rfl rfl rfl (by omega) (by omega)) ?_;refine Zq (by exact ps_add rfl rfl rfl (by omega)) ?_;refine Zq (ps_conv rfl rfl) ?_;refine Zn (by exact ms_lit rfl (parts_cons rfl parts_nil) rfl rfl rfl) ?_;rintro y12 hy12;refine Zq (by exact ps_str1 rfl rfl (rds_row 0 rfl)) ?_;refine Zm ?_;refine Zq (by exact ps_sadd (s := dig q) rfl rfl rfl (by omega)) ?_;refine Za ?_;refine Ze2 0 3 ?_)|(refine Zr 6 ?_;refine Zm ?_;refine Zq (by exact ps_quo rfl rfl rfl (by omega) (by omega)) ?_;refine Za ?_;refine Ze2 0 3 ?_)|(refine Zr 7 ?_;refine Zm ?_;refine Zq (by exact ps_sadd rfl rfl rfl (by omega)) ?_;refine Za ?_;refine Ze1 2 ?_))
    · obtain ⟨f',rfl⟩ : ∃ f',f = f' + 1 := ⟨f - 1,by omega⟩
      have e := H3.out
      rw [mtF,if_pos hd] at e
      refine fun a w' he hw => ⟨⟨(q / 10,dig q ++ out,f'),by simp only;omega,by simp only;omega,e,by simp only;rw [ByteArray.size_append];omega⟩,by simp only;omega,he.sub ⟨rfl,rfl,trivial⟩,hw.tl⟩
    · refine ok_endL (vs := [_]) rfl ⟨rfl,trivial⟩ (fun w' hw => ⟨?_,hw.below⟩)
      rw [hT.out,← H3.out,mtF_done _ _ _ hd];rfl
end Go.Proofs.YtmfojbidojjciaaGreat
namespace Go.Proofs.YtmfojbidojjciaaGreat
open Go.RowKit
class In (α : Type) (β : outParam Type) [Dat β] where
  sz : Nat
  cells : α → Value → List Value
  len : ∀ x v,(cells x v).length = sz
  inn : α → List β
  dflt : α
  one : ∀ x (A : Option Addr) (n c : Nat),∀ u ∈ cells x (.slice A n c),u.oneCell' = true
structure Lc (α : Type) where
  d : α
  A : Option Addr
  c : Nat
section
variable {α β : Type} [Dat β] [In α β]
@[reducible] instance : Dat (Lc α) := ⟨In.sz α,fun l => In.cells l.d (.slice l.A (In.inn l.d).length l.c),fun _ => In.len _ _,⟨In.dflt,none,0⟩⟩
instance : OneC (Lc α) := ⟨fun x u hu => In.one _ _ _ _ u hu⟩
def Lc.row (l : Lc α) : RowD := ⟨l.A,(In.inn l.d).length,l.c,fl (In.inn l.d)⟩
def rowsOf (R : List (Lc α)) : List RowD := R.map Lc.row
def dats (R : List (Lc α)) : List α := R.map Lc.d
def locs (k : Nat) (x : List α) (y : Ys) : List (Lc α) := x.mapIdx fun i d => ⟨d,(y (k + i)).A,(y (k + i)).c⟩
def mkR (p : List Ya) (R : List (Lc α)) (w : World) : Ys := fun i => if i < p.length then p.getD i ⟨none,0,w,0⟩ else ⟨(nth R (i - p.length)).A,(nth R (i - p.length)).c,w,0⟩
theorem dats_len (R : List (Lc α)) : (dats R).length = R.length := List.length_map ..
theorem locs_len (k : Nat) (x : List α) (y : Ys) : (locs k x y).length = x.length := by simp [locs]
theorem dats_locs (k : Nat) (x : List α) (y : Ys) : dats (locs k x y) = x := by
  apply List.ext_getElem?
  intro i
  simp only [dats,locs,List.getElem?_map,List.getElem?_mapIdx,Option.map_map]
  cases x[i]? <;> rfl
theorem nthL (R : List (Lc α)) (i : Nat) (h : i < R.length) : nth R i = R[i] := by simp [nth,h]
theorem locs_mkR (p : List Ya) (R : List (Lc α)) (w : World) (k : Nat) (h : p.length = k) : locs k (dats R) (mkR p R w) = R := by
  subst h
  apply List.ext_getElem?
  intro i
  simp only [locs,dats,List.getElem?_mapIdx,List.getElem?_map]
  by_cases hi : i < R.length
  · rw [List.getElem?_eq_getElem hi]
    simp only [Option.map_some,mkR,show ¬ p.length + i < p.length from by omega,if_false,show p.length + i - p.length = i from by omega,nthL R i hi]
  · rw [List.getElem?_eq_none (by omega)];rfl
theorem rows_snoc (R : List (Lc α)) (l : Lc α) : rowsOf (R ++ [l]) = rowsOf R ++ [l.row] := by simp [rowsOf]
theorem dats_snoc (R : List (Lc α)) (l : Lc α) : dats (R ++ [l]) = dats R ++ [l.d] := by simp [dats]
theorem rows_at (R : List (Lc α)) (k : Nat) (h : k < R.length) : rowsOf R = rowsOf (R.take k) ++ (nth R k).row :: rowsOf (R.drop (k + 1)) := by
  rw [nthL R k h]
  have e : R = R.take k ++ R[k] :: R.drop (k + 1) := by rw [← List.drop_eq_getElem_cons h,List.take_append_drop]
  have e2 := congrArg rowsOf e
  rw [e2]
  show List.map Lc.row (R.take k ++ R[k] :: R.drop (k + 1)) = List.map Lc.row (R.take k) ++ R[k].row :: List.map Lc.row (R.drop (k + 1))
  rw [List.map_append,List.map_cons]
theorem rows_set (R : List (Lc α)) (k : Nat) (l : Lc α) (h : k < R.length) : rowsOf (R.set k l) = rowsOf (R.take k) ++ l.row :: rowsOf (R.drop (k + 1)) := by
  rw [List.set_eq_take_append_cons_drop,if_pos h]
  simp [rowsOf]
section
variable {base : Nat} {w0 w : World} {H : List HObj} {G : List World} {e sz : Nat}
theorem WOk.bagPull {R : List (Lc α)} (k : Nat) (hk : k < R.length) (hw : WOk base w0 (.bag e sz (rowsOf R) :: H) G w) : WOk base w0 (.row e sz (nth R k).A (In.inn (nth R k).d).length (nth R k).c (fl (In.inn (nth R k).d)) :: .bag e sz (rowsOf (R.take k) ++ rowsOf (R.drop (k + 1))) :: H) G w := by
  rw [rows_at R k hk] at hw
  exact WOk.pull hw
theorem WOk.bagPush {R : List (Lc α)} (k : Nat) (l : Lc α) (hk : k < R.length) (hw : WOk base w0 (.row e sz l.A (In.inn l.d).length l.c (fl (In.inn l.d)) :: .bag e sz (rowsOf (R.take k) ++ rowsOf (R.drop (k + 1))) :: H) G w) : WOk base w0 (.bag e sz (rowsOf (R.set k l)) :: H) G w := by
  rw [rows_set R k l hk]
  exact WOk.push (r := l.row) hw
theorem WOk.bagAdd {R : List (Lc α)} (l : Lc α) {n : Nat} {us : List Value} (hn : n = (In.inn l.d).length) (hu : us = fl (In.inn l.d)) (hw : WOk base w0 (.row e sz l.A n l.c us :: .bag e sz (rowsOf R) :: H) G w) : WOk base w0 (.bag e sz (rowsOf (R ++ [l])) :: H) G w := by
  subst hn;subst hu
  rw [rows_snoc]
  exact hw.absorb
theorem bag_call {P : Program} {f : FuncId} {args : Array Value} {v : Ys → Value} {F : Ys → Prop} {R : List (Lc α)} (k : Nat) (l : Lc α) (hk : k < R.length)
    (hc : ∀ H,WOk base w0 (.row e sz (nth R k).A (In.inn (nth R k).d).length (nth R k).c (fl (In.inn (nth R k).d)) :: H) G w → Calls P f args w (fun e' w' => ∃ y : Ys,e' = .returned (v y) ∧ F y ∧ WOk base w0 (.row e sz l.A (In.inn l.d).length l.c (fl (In.inn l.d)) :: H) G w'))
    (hw : WOk base w0 (.bag e sz (rowsOf R) :: H) G w) : Calls P f args w (fun e' w' => ∃ y : Ys,e' = .returned (v y) ∧ F y ∧ WOk base w0 (.bag e sz (rowsOf (R.set k l)) :: H) G w') :=
  (hc _ (hw.bagPull k hk)).mono fun e' w' ⟨y,h1,h2,h3⟩ => ⟨y,h1,h2,WOk.bagPush k l hk h3⟩
end
theorem rds_bag {H : List HObj} {G : List World} {e sz : Nat} {R : List (Lc α)} (i k : Nat) (hi : H[i]? = some (.bag e sz (rowsOf R))) (hk : k < R.length) : Rds H G (nth R k).A (fl (In.inn (nth R k).d)) := fun base w0 w hw => by
  have h := (hw.own _ (List.mem_of_getElem? hi)).1 (nth R k).row (List.mem_map.2 ⟨_,nth_mem R k hk,rfl⟩)
  exact Rd.of_own h
def RdN (w : World) (A : Option Addr) (R : List (Lc α)) : Prop := Rd w A (fl R) ∧ ∀ k,k < R.length → Rd w (nth R k).A (fl (In.inn (nth R k).d))
theorem RdN.keep {base : Nat} {w0 w m : World} {H : List HObj} {G : List World} {A : Option Addr} {R : List (Lc α)} (hw : WOk base w0 H G w) (h : RdN m A R) (hm : m ∈ G) : RdN w A R := ⟨hw.keep h.1 hm,fun k hk => hw.keep (h.2 k hk) hm⟩
theorem RdN.own {base : Nat} {w0 w : World} {H : List HObj} {G : List World} {A : Option Addr} {R : List (Lc α)} {e sz n c e' sz' : Nat} (hw : WOk base w0 H G w) (i j : Nat) (hi : H[i]? = some (.row e sz A n c (fl R))) (hj : H[j]? = some (.bag e' sz' (rowsOf R))) : RdN w A R := ⟨hw.row i hi,fun k hk => rds_bag j k hj hk _ _ _ hw⟩
theorem RdN.below {w w' : World} {A : Option Addr} {R : List (Lc α)} (hr : ∀ A us,Rd w A us → Rd w' A us) (h : RdN w A R) : RdN w' A R := ⟨hr _ _ h.1,fun k hk => hr _ _ (h.2 k hk)⟩
def NestAt (e : GT) (f : e.den → α) (big : α → Prop) : Prop := ∀ (w : World) x c,RdT w e x c → ∃ (A : Option Addr) (k : Nat),c = In.cells (f x) (.slice A (In.inn (f x)).length k) ∧ Rd w A (fl (In.inn (f x))) ∧ big (f x)
theorem nest_rows {e : GT} {f : e.den → α} {big : α → Prop} (hf : NestAt e f big) {w : World} : ∀ (xs : List e.den) (us : List Value),RdTs w e xs us → ∃ R : List (Lc α),us = fl R ∧ R.length = xs.length ∧ (∀ l ∈ R,Rd w l.A (fl (In.inn l.d))) ∧ ∀ l ∈ R,big l.d
  | [],us,h => by
    rw [RdTs.nil] at h;subst h;exact ⟨[],rfl,rfl,fun x h => (by cases h),fun x h => (by cases h)⟩
  | x :: xs,us,h => by
    obtain ⟨c1,c2,rfl,h1,h2⟩ := RdTs.cons.1 h
    obtain ⟨A,k,rfl,hr,hb⟩ := hf w x c1 h1
    obtain ⟨R,rfl,hl,hrs,hbs⟩ := nest_rows hf xs c2 h2
    refine ⟨⟨f x,A,k⟩ :: R,rfl,by simp [hl],fun y hy => ?_,fun y hy => ?_⟩
    · cases hy with
      | head => exact hr
      | tail _ hy => exact hrs y hy
    · cases hy with
      | head => exact hb
      | tail _ hy => exact hbs y hy
theorem nest_sl {E : TypeId} {e : GT} {f : e.den → α} {big : α → Prop} (hf : NestAt e f big) {w : World} {xs : GT.den (.sl E e)} {cs : List Value} (h : RdT w (.sl E e) xs cs) : ∃ (A : Option Addr) (c : Nat) (R : List (Lc α)),cs = [.slice A R.length c] ∧ R.length ≤ maxLen ∧ RdN w A R ∧ (∀ x ∈ dats R,big x) := by
  obtain ⟨A,c,us,rfl,h1,h2,h3,h4⟩ := RdT.sl.1 h
  obtain ⟨R,rfl,hl,hrs,hb⟩ := nest_rows hf _ _ h4
  refine ⟨A,c,R,congrArg (fun n => [Value.slice A n c]) hl.symm,?_,⟨h3,fun k hk => hrs _ (nth_mem R k hk)⟩,fun x hx => ?_⟩
  · have : R.length = List.length xs := hl
    omega
  · obtain ⟨l,hl,rfl⟩ := List.mem_map.1 hx
    exact hb l hl
end
@[reducible] instance {β : Type} [Dat β] : In (List β) β := ⟨1,fun _ v => [v],fun _ _ => rfl,id,[],fun _ _ _ _ u hu => by
  cases hu with
  | head => rfl
  | tail _ h => cases h⟩
theorem flat_nest {E : TypeId} {e : GT} {β : Type} [Dat β] {f : e.den → β} {big : β → Prop} (hf : FlatAt e f big) : NestAt (α := List β) (.sl E e) (fun xs => List.map f (show List e.den from xs)) (fun l => l.length ≤ maxLen ∧ ∀ x ∈ l,big x) := fun w xs cs h => by
  obtain ⟨A,c,us,rfl,h1,h2,h3,h4⟩ := RdT.sl.1 h
  obtain ⟨rfl,hb⟩ := flat_rows hf _ _ h4
  have hl : (List.map f (show List e.den from xs)).length = List.length xs := List.length_map ..
  exact ⟨A,c,congrArg (fun n => [Value.slice A n c]) hl.symm,h3,Nat.le_trans (Nat.le_of_eq hl) (Nat.le_trans h1 h2),hb⟩
def offR {α : Type} (cnt : α → Nat) (x : List α) (i : Nat) : Nat := ((x.take i).map cnt).sum
theorem offR_zero {α : Type} (cnt : α → Nat) (x : List α) : offR cnt x 0 = 0 := rfl
theorem offR_le {α : Type} (cnt : α → Nat) (x : List α) (m : Nat) (hm : ∀ u ∈ x,cnt u ≤ m) : ∀ i,offR cnt x i ≤ x.length * m := by
  intro i
  unfold offR
  induction x generalizing i with
  | nil => simp
  | cons a x ih =>
    cases i with
    | zero => simp
    | succ i =>
      have h1 := ih (fun u hu => hm u (List.mem_cons_of_mem _ hu)) i
      have h2 := hm a List.mem_cons_self
      simp only [List.take_succ_cons,List.map_cons,List.sum_cons,List.length_cons,Nat.add_mul,Nat.one_mul]
      omega
def mixR {α : Type} (mk : Nat → α → α) (k : Nat) (R : List α) : List α := R.mapIdx fun i l => if i < k then mk i l else l
theorem mixR_len {α : Type} (mk : Nat → α → α) (k : Nat) (R : List α) : (mixR mk k R).length = R.length := by simp [mixR]
theorem mixR_zero {α : Type} (mk : Nat → α → α) (R : List α) : mixR mk 0 R = R := by
  apply List.ext_getElem?
  intro i
  simp only [mixR,List.getElem?_mapIdx]
  cases R[i]? <;> simp
theorem mixR_nth {α : Type} [Dat α] (mk : Nat → α → α) (k : Nat) (R : List α) (i : Nat) (h : i < R.length) : nth (mixR mk k R) i = if i < k then mk i (nth R i) else nth R i := by
  simp [nth,mixR,h]
theorem mixR_step {α : Type} [Dat α] (mk : Nat → α → α) (k : Nat) (R : List α) (h : k < R.length) : (mixR mk k R).set k (mk k (nth R k)) = mixR mk (k + 1) R := by
  apply List.ext_getElem?
  intro i
  have e : nth R k = R[k] := by simp [nth,h]
  rw [e]
  simp only [mixR,List.getElem?_set,List.getElem?_mapIdx,List.length_mapIdx]
  by_cases hi : k = i
  · subst hi
    simp [h]
  · rw [if_neg hi]
    cases R[i]? with
    | none => rfl
    | some l =>
      simp only [Option.map_some,Option.some.injEq]
      by_cases h2 : i < k
      · rw [if_pos h2,if_pos (by omega)]
      · rw [if_neg h2,if_neg (by omega)]
end Go.Proofs.YtmfojbidojjciaaGreat
namespace Go.Proofs.YtmfojbidojjciaaGreat
open Go.RowKit
def WLe (m w : World) : Prop := ∀ p u,m.cell? p = some u → w.cell? p = some u
theorem WLe.refl (w : World) : WLe w w := fun _ _ h => h
theorem WLe.trans {a b c : World} (h : WLe a b) (h2 : WLe b c) : WLe a c := fun p u e => h2 p u (h p u e)
theorem Rd.le {m w : World} {A : Option Addr} {us : List Value} (h : Rd m A us) (hl : WLe m w) : Rd w A us := fun j u hu => by
  obtain ⟨ad,e,hc⟩ := h j u hu
  exact ⟨ad,e,hl _ _ hc⟩
theorem WOk.wle {base : Nat} {w0 w m : World} {H : List HObj} {G : List World} (hw : WOk base w0 H G w) (hm : m ∈ G) : WLe m w := fun p u h => (hw.ref m hm p u h).1
noncomputable def cutW (w : World) (S : Nat → Prop) : World := { w with heap := w.heap.mapIdx fun i o => @ite _ (S i) (Classical.propDecidable _) (.cells #[] 0 (0,0)) o }
theorem cutW_cell {w : World} {S : Nat → Prop} {p : Addr} {u : Value} : (cutW w S).cell? p = some u ↔ w.cell? p = some u ∧ ¬ S p.block := by
  unfold World.cell? cutW
  simp only [Array.getElem?_mapIdx]
  cases hb : w.heap[p.block]? with
  | none => simp
  | some o =>
    simp only [Option.map_some]
    by_cases hS : S p.block
    · rw [if_pos hS]
      simp [hS]
    · rw [if_neg hS]
      simp [hS]
def HObj.reads : HObj → World → Prop
  | .box g e cs,m => Rd m (ga g) cs
  | .row e sz A n c us,m => Rd m A us
  | .bag e sz l,m => ∀ r ∈ l,Rd m r.A r.us
  | .zrow g e cs fz,m => Rd m (ga g) cs
theorem rd_cut {w : World} {S : Nat → Prop} {A : Option Addr} {us : List Value} (h : Rd w A us) (hS : ∀ k,blk A = some k → ¬ S k) : Rd (cutW w S) A us := fun j u hu => by
  obtain ⟨ad,rfl,hc⟩ := h j u hu
  refine ⟨ad,rfl,cutW_cell.2 ⟨hc,?_⟩⟩
  have : (ad.add j).block = ad.block := by unfold Addr.add;split <;> rfl
  rw [this]
  exact hS _ rfl
theorem HObj.reads_cut {base : Nat} {w : World} {x : HObj} (h : x.holds base w) {S : Nat → Prop} (hS : ∀ k,x.has k → ¬ S k) : x.reads (cutW w S) := by
  cases x with
  | box g e cs =>
    refine rd_cut (S := S) (A := ga g) ?_ (fun k hk => hS k (by cases hk;rfl))
    intro j u hu
    refine ⟨_,rfl,?_⟩
    show World.cell? w (Addr.add ⟨g,0,none⟩ j) = some u
    rw [ga_add]
    unfold World.cell?
    simp only [h.2]
    simpa using hu
  | row e sz A n c us => exact rd_cut (Rd.of_own h) (fun k hk => hS k hk)
  | bag e sz l => exact fun r hr => rd_cut (Rd.of_own (h.1 r hr)) (fun k hk => hS k ⟨r,hr,hk⟩)
  | zrow g e cs fz =>
    refine rd_cut (S := S) (A := ga g) ?_ (fun k hk => hS k (by cases hk;rfl))
    intro j u hu
    refine ⟨_,rfl,?_⟩
    show World.cell? w (Addr.add ⟨g,0,none⟩ j) = some u
    rw [ga_add]
    unfold World.cell?
    simp only [h.2]
    simpa using hu
theorem WOk.frz {base : Nat} {w0 w : World} {X H : List HObj} {G : List World} (hw : WOk base w0 (X ++ H) G w) : ∃ m,WOk base w0 H [m] w ∧ (∀ g ∈ G,WLe g m) ∧ ∀ x ∈ X,x.reads m := by
  refine ⟨cutW w fun k => ∃ h ∈ H,h.has k,⟨hw.below,hw.le,fun h hh => hw.own h (List.mem_append_right _ hh),(List.pairwise_append.1 hw.apart).2.1,fun m hm p u hp => ?_⟩,fun g hg p u hp => ?_,fun x hx => ?_⟩
  · rw [List.mem_singleton] at hm
    subst hm
    obtain ⟨h1,h2⟩ := cutW_cell.1 hp
    exact ⟨h1,fun h hh e => h2 ⟨h,hh,e⟩⟩
  · obtain ⟨h1,h2⟩ := hw.ref g hg p u hp
    exact cutW_cell.2 ⟨h1,fun ⟨h,hh,e⟩ => h2 h (List.mem_append_right _ hh) e⟩
  · refine (HObj.reads_cut (hw.own x (List.mem_append_left _ hx))) fun k hk => ?_
    rintro ⟨h,hh,e⟩
    exact (List.pairwise_append.1 hw.apart).2.2 x hx h hh k hk e
section
variable {N base : Nat} {w0 : World} {E : Env} {H : List HObj} {G : List World} {K : Act → World → Prop}
theorem ok_frz (X : List HObj) {H' : List HObj} (hsel : ∀ w,WOk base w0 H' G w → WOk base w0 (X ++ H) G w) (h : ∀ m,(∀ g ∈ G,WLe g m) → (∀ x ∈ X,x.reads m) → Ok N base w0 E H [m] K) : Ok N base w0 E H' G K := fun a w he hw => by
  obtain ⟨m,hw',h1,h2⟩ := (hsel w hw).frz
  exact h m h1 h2 a w he hw'
end
structure Pl (α : Type) where
  A : Option Addr
  c : Nat
  l : List α
section
variable {α : Type} [Dat α]
@[reducible] def Pl.v (p : Pl α) : Value := .slice p.A p.l.length p.c
def Pl.rd (w : World) (p : Pl α) : Prop := Rd w p.A (fl p.l)
@[reducible] def Pl.o (p : Pl α) (e sz : Nat) : HObj := .row e sz p.A p.l.length p.c (fl p.l)
theorem Pl.rd.le {p : Pl α} {m w : World} (h : p.rd m) (hl : WLe m w) : p.rd w := Rd.le h hl
end
theorem RdN.le {α β : Type} [Dat β] [In α β] {m w : World} {A : Option Addr} {R : List (Lc α)} (h : RdN m A R) (hl : WLe m w) : RdN w A R := ⟨h.1.le hl,fun k hk => (h.2 k hk).le hl⟩
end Go.Proofs.YtmfojbidojjciaaGreat
namespace Go.Proofs.YtmfojbidojjciaaGreat
class Enc (α : Type) where
  toV : α → Value
  ofV : Value → α
  rt : ∀ x,ofV (toV x) = x
@[reducible] def asI : Value → Int
  | .int _ n => n
  | _ => 0
@[reducible] def asS : Value → ByteArray
  | .string s => s
  | _ => ⟨#[]⟩
@[reducible] def asB : Value → Bool
  | .bool b => b
  | _ => false
def asL : Value → List Value
  | .agg cs => cs.toList
  | _ => []
instance : Enc Int := ⟨fun n => .int .i64 n,asI,fun _ => rfl⟩
instance : Enc ByteArray := ⟨fun s => .string s,asS,fun _ => rfl⟩
instance : Enc Bool := ⟨fun b => .bool b,asB,fun _ => rfl⟩
instance {α : Type} [Enc α] : Enc (List α) := ⟨fun l => .agg (l.map Enc.toV).toArray,fun v => (asL v).map Enc.ofV,fun l => by
  show ((l.map Enc.toV).toArray.toList).map Enc.ofV = l
  rw [List.toList_toArray,List.map_map]
  exact (List.map_congr_left (fun a _ => Enc.rt a)).trans (List.map_id l)⟩
instance {α β : Type} [Enc α] [Enc β] : Enc (α × β) := ⟨fun x => .agg #[Enc.toV x.1,Enc.toV x.2],fun v => (Enc.ofV ((asL v).getD 0 (.bool false)),Enc.ofV ((asL v).getD 1 (.bool false))),fun x => by
  show (Enc.ofV (Enc.toV x.1),Enc.ofV (Enc.toV x.2)) = x
  rw [Enc.rt,Enc.rt]⟩
def eW {α : Type} [Enc α] (x : α) (w : World) : World := { w with heap := #[.cells #[Enc.toV x] 0 (0,0)] }
def yE {α : Type} [Enc α] (y : Ya) : α := match (y.w.heap[0]? : Option Obj) with
  | some (.cells cs _ _) => Enc.ofV ((cs[0]? : Option Value).getD (.bool false))
  | _ => Enc.ofV (.bool false)
theorem yE_mk {α : Type} [Enc α] (A : Option Addr) (c : Nat) (x : α) (w : World) (n : Int) : yE ⟨A,c,eW x w,n⟩ = x := Enc.rt x
end Go.Proofs.YtmfojbidojjciaaGreat
namespace Go.Proofs.YtmfojbidojjciaaGreat
open Go.RowKit
set_option maxHeartbeats 2000000
attribute [local irreducible] Calls
structure KV where
  key : ByteArray
  val : ByteArray
  deriving DecidableEq
instance : Dat KV := ⟨2,fun x => [.string x.key,.string x.val],fun _ => rfl,⟨⟨#[]⟩,⟨#[]⟩⟩⟩
instance : Mk KV := ⟨2,fun q => ⟨mT (q),mT (q + 1)⟩⟩
end Go.Proofs.YtmfojbidojjciaaGreat
namespace Go.Proofs.YtmfojbidojjciaaGreat
open Go.RowKit
set_option maxHeartbeats 2000000
instance : Mk ByteArray := ⟨1,fun q => mT q⟩
end Go.Proofs.YtmfojbidojjciaaGreat
namespace Go.Proofs.YtmfojbidojjciaaGreat
open Go.RowKit
end Go.Proofs.YtmfojbidojjciaaGreat
namespace Go.Proofs.YtmfojbidojjciaaGreat
open Go.RowKit
end Go.Proofs.YtmfojbidojjciaaGreat
namespace Go.Proofs.YtmfojbidojjciaaGreat
open Go.RowKit
attribute [local irreducible] Calls
structure DDelta where
  U : List KV
  D : List ByteArray
  deriving DecidableEq
end Go.Proofs.YtmfojbidojjciaaGreat
namespace Go.Proofs.YtmfojbidojjciaaGreat
open Go.RowKit
theorem xs_in (x a b : Int) (w : World) : Calls Tryz.prog 77 #[.int .i64 x,.int .i64 a,.int .i64 b] w fun e w' => e = .returned (.bool (inB x a b)) ∧ Below w.heap.size w w' := by
  refine ok_enter 15 Tryz.func77 rfl rfl rfl ?_
  repeat' (first|refine Wa ?_|refine Wb ?_|refine Wg ?_|(refine Zr 0 ?_;refine Za ?_;refine Ze3 0 1 2 ?_)|(refine Zr 1 ?_;refine Zm ?_;refine Zm ?_;refine Zi ?_;refine Zm ?_;refine Zg rfl rfl rfl (gT _) (fun hp => by exact ps_move rfl rfl) ?_;refine Zg rfl rfl rfl (gT _) (fun hp => by exact ps_move rfl rfl) ?_;refine Zg rfl rfl rfl (gT _) (fun hp => by (exact ps_int rfl (Og rfl) (Og rfl) rfl)) ?_;refine Zq (ps_and rfl rfl rfl) ?_;refine Za ?_;refine Ze1 6 ?_))
  exact ok_endL (vs := [_]) rfl ⟨rfl,trivial⟩ (fun w hw => ⟨rfl,hw.below⟩)
theorem xi_in (x a b : Int) (w : World) : Calls Tryz.prog 96 #[.int .i64 x,.int .i64 a,.int .i64 b] w fun e w' => e = .returned (.bool (inB x a b)) ∧ Below w.heap.size w w' := by
  refine ok_enter 15 Tryz.func96 rfl rfl rfl ?_
  repeat' (first|refine Wa ?_|refine Wb ?_|refine Wg ?_|(refine Zr 0 ?_;refine Za ?_;refine Ze3 0 1 2 ?_)|(refine Zr 1 ?_;refine Zm ?_;refine Zm ?_;refine Zi ?_;refine Zm ?_;refine Zg rfl rfl rfl (gT _) (fun hp => by exact ps_move rfl rfl) ?_;refine Zg rfl rfl rfl (gT _) (fun hp => by exact ps_move rfl rfl) ?_;refine Zg rfl rfl rfl (gT _) (fun hp => by (exact ps_int rfl (Og rfl) (Og rfl) rfl)) ?_;refine Zq (ps_and rfl rfl rfl) ?_;refine Za ?_;refine Ze1 6 ?_))
  exact ok_endL (vs := [_]) rfl ⟨rfl,trivial⟩ (fun w hw => ⟨rfl,hw.below⟩)
def kk (s : ByteArray) : Bool := inB s.size 1 10
theorem isKey_c (s : ByteArray) (w : World) : Calls Tryz.prog 307 #[.string s] w fun e w' => e = .returned (.bool (kk s)) ∧ Below w.heap.size w w' := by
  refine ok_enter 6 Tryz.func307 rfl rfl rfl ?_
  repeat' (first|refine Wa ?_|refine Wb ?_|refine Wg ?_|(refine Zr 0 ?_;refine Za ?_;refine Ze1 0 ?_)|(refine Zr 1 ?_;refine Zm ?_;refine Zq (ps_slen rfl rfl) ?_;refine Zn (by exact ms_s3 rfl rfl rfl rfl (fun _ _ w hw => xi_in _ _ _ w)) ?_;rintro y5 hy5;refine Za ?_;refine Ze1 2 ?_))
  exact ok_endL (vs := [_]) rfl ⟨rfl,trivial⟩ (fun w hw => ⟨rfl,hw.below⟩)
theorem l7Op_c (k v : ByteArray) (d : Bool) (w : World) : Calls Tryz.prog 157 #[.agg #[.string k,.bool d,.string v]] w fun e w' => e = .returned (.bool (kk k && decide ((v.size : Int) ≤ 16) && (!d || sEq v ⟨#[]⟩))) ∧ Below w.heap.size w w' := by
  refine ok_enter 23 Tryz.func157 rfl rfl rfl ?_
  repeat' (first|refine Wa ?_|refine Wb ?_|refine Wg ?_|(refine Zr 0 ?_;refine Zn (ms_box rfl rfl rfl) ?_;rintro y1 hy1;refine Za ?_;refine Ze1 1 ?_)|(refine Zr 1 ?_;refine Zf ?_;refine Zl 0 ?_;refine Zq (ps_slen rfl rfl) ?_;refine Zn (by exact ms_s3 rfl rfl rfl rfl (fun _ _ w hw => xs_in _ _ _ w)) ?_;rintro y6 hy6;refine Zm ?_;refine Zg rfl rfl rfl (gT _) (fun hp => by exact ps_field rfl rfl (isw_ga _)) ?_;refine Zg rfl rfl rfl (gT _) (fun hp => by (exact ps_load rfl (Og rfl) (by exact Rds.cell (rds_box 0 rfl) rfl))) ?_;refine Zg rfl rfl rfl (gT _) (fun hp => by (exact ps_slen rfl (Og rfl))) ?_;refine Zg rfl rfl rfl (gT _) (fun hp => by (exact ps_int rfl (Og rfl) rfl rfl)) ?_;refine Zq (ps_and rfl rfl rfl) ?_;refine Zm ?_;refine Zg rfl rfl rfl (gT _) (fun hp => by exact ps_field rfl rfl (isw_ga _)) ?_;refine Zg rfl rfl rfl (gT _) (fun hp => by (exact ps_load rfl (Og rfl) (by exact Rds.cell (rds_box 0 rfl) rfl))) ?_;refine Zg rfl rfl rfl (gT _) (fun hp => by (exact ps_not rfl (Og rfl))) ?_;refine Zg rfl rfl rfl (gT _) (fun hp => by (exact ps_move rfl (Og rfl))) ?_;refine ok_pgg rfl rfl rfl rfl rfl (gF _) (fun hq hp hqp => by exact ps_field rfl rfl (isw_ga _)) ?_;refine ok_pgg rfl rfl rfl rfl rfl (gF _) (fun hq hp hqp => by (exact ps_load rfl (Og rfl) (by exact Rds.cell (rds_box 0 rfl) rfl))) ?_;refine ok_pgg rfl rfl rfl rfl rfl (gF _) (fun hq hp hqp => by (exact ps_str rfl (Og rfl) rfl rfl)) ?_;refine Zg rfl rfl rfl (gT _) (fun hp => by exact ps_or_in (by assumption) rfl rfl rfl) ?_;refine Zq (ps_and rfl rfl rfl) ?_;refine Za ?_;refine Ze1 2 ?_))
  exact ok_endL (vs := [_]) rfl ⟨rfl,trivial⟩ (fun w hw => ⟨rfl,hw.below⟩)
def okM (l : List KV) (i : Nat) : Bool := !(!kk (nth l i).key || decide (16 < ((nth l i).val.size : Int)) || (decide (0 < (i : Int)) && !sLt (nth l (i - 1)).key (nth l i).key))
theorem tn1 (k : Nat) : ((k : Int) - 1).toNat = k - 1 := by omega
def mapOk (l : List KV) : Bool := (List.range l.length).all (okM l)
theorem all_false {p : Nat → Bool} {n i : Nat} (h : i < n) (hp : p i = false) : (List.range n).all p = false := by
  rw [List.all_eq_false];exact ⟨i,by simpa using h,by simp [hp]⟩
theorem all_true {p : Nat → Bool} {n : Nat} (h : ∀ i,i < n → p i = true) : (List.range n).all p = true := by
  rw [List.all_eq_true];intro i hi;exact h i (by simpa using hi)
theorem okM_spec (l : List KV) (k : Nat) : okM l k = !(!(kk (nth l k).key && decide (((nth l k).val.size : Int) ≤ 16) && (!false || sEq (nth l k).val ⟨#[]⟩)) || decide (0 < (k : Int)) && !sLt (nth l (k - 1)).key (nth l k).key) := by
  unfold okM
  have e : decide (16 < ((nth l k).val.size : Int)) = !decide (((nth l k).val.size : Int) ≤ 16) := by
    rw [← decide_not];congr 1;simp
  rw [e]
  cases kk (nth l k).key <;> cases decide (((nth l k).val.size : Int) ≤ 16) <;> simp
theorem s_MapOk (A : Option Addr) (c : Nat) (l : List KV) (w : World) (h : Rd w A (fl l)) (hl : l.length ≤ 1048576) : Calls Tryz.prog 105 #[.slice A l.length c] w fun e w' => e = .returned (.bool (mapOk l)) ∧ Below w.heap.size w w' := by
  refine ok_enter 41 Tryz.func105 rfl rfl rfl ?_
  repeat' (first|refine Wa ?_|refine Wb ?_|refine Wd ?_|(refine Zr 0 ?_;refine Za ?_;refine Ze1 0 ?_)|(refine Zr 1 ?_;refine Za ?_;refine Ze2 0 3 ?_))
  refine ok_loop (ι := { k : Nat // k ≤ l.length ∧ ∀ j,j < k → okM l j = true }) (fun k => l.length - k.1) (fun k => ([(0,.slice A l.length c),(3,.int .i64 k.1)],[],_)) ⟨0,by omega,fun j h => absurd h (Nat.not_lt_zero j)⟩ (fun a w he hw => ⟨⟨0,by omega,fun j h => absurd h (Nat.not_lt_zero j)⟩,he.sub ⟨rfl,rfl,trivial⟩,hw⟩) ?_
  rintro ⟨k,hk,hok⟩
  simp only at hk hok ⊢
  have HO := Lib.hid hok;clear hok
  repeat' (first|refine Wa ?_|refine Wb ?_|refine Wc ?_|refine Wd ?_|refine We ?_|refine Wf ?_|(refine ok_cond rfl (fun hc => ?_) (fun hc => ?_) <;> (have hd := hc;try simp only [jj] at hd))|refine Wg ?_|refine Wh ?_|refine Wi ?_|(refine Zr 2 ?_;refine Zm ?_;refine Zm ?_;refine Zq (ps_len rfl rfl) ?_;refine Zi ?_;refine Ze3 0 3 7 ?_)|(refine Zr 3 ?_;refine Zm ?_;refine Zq (by exact ps_add rfl rfl rfl (by omega)) ?_;refine Za ?_;refine Ze2 0 3 ?_)|(refine Xd 4 31 ?_;refine Xm 0 ?_;refine Xm 1 ?_;refine Xt 2 rfl (by exact ps_indexN rfl rfl rfl (by omega) (by exact isw_of (isS_fl (by assumption) (by omega)))) ?_;refine Xt 3 rfl (by exact ps_field rfl rfl (by exact isw_of (isS_fl (by assumption) (by omega)))) ?_;refine Xt 4 rfl (by exact ps_load rfl rfl (by exact Rds.cell (rds_rf (by assumption) List.mem_cons_self) (by exact fl_at0 _ _ (by omega) (by decide)))) ?_;refine Xm 5 ?_;refine Xm 6 ?_;refine Xt 7 rfl (by exact ps_indexN rfl rfl rfl (by omega) (by exact isw_of (isS_fl (by assumption) (by omega)))) ?_;refine Xt 8 rfl (by exact ps_field rfl rfl (by exact isw_of (isS_fl (by assumption) (by omega)))) ?_;refine Xt 9 rfl (by exact ps_load rfl rfl (by exact Rds.cell (rds_rf (by assumption) List.mem_cons_self) (by exact fl_at _ _ _ (by omega) (by decide)))) ?_;refine Xt 10 rfl (by exact ps_bld rfl (parts_cons rfl (parts_cons rfl parts_nil)) rfl) ?_;refine Xo 11 rfl (by exact ms_s1 rfl rfl (fun _ _ w hw => l7Op_c (nth l k).key (nth l k).val false w)) (fun y w _ h => by exact h) ?_;rintro y21 hy21;refine Xt 12 rfl (ps_not rfl rfl) ?_;refine Xm 13 ?_;refine Xg 14 rfl rfl rfl rfl (gF _) (fun hp => by exact ps_move rfl rfl) ?_;refine Xg 15 rfl rfl rfl rfl (gF _) (fun hp => by (exact ps_int rfl (Og rfl) rfl rfl)) ?_;refine Xg 16 rfl rfl rfl rfl (gF _) (fun hp => by (exact ps_move rfl (Og rfl))) ?_;refine Xh 17 rfl rfl rfl rfl (gT _) (fun hq hp hqp => by exact ps_move rfl rfl) ?_;refine Xh 18 rfl rfl rfl rfl (gT _) (fun hq hp hqp => by exact ps_move rfl rfl) ?_;refine Xh 19 rfl rfl rfl rfl (gT _) (fun hq hp hqp => by (have hqd := hq;have hpd := hp;(try simp only [jj] at hqd hpd);exact ps_sub rfl (Og rfl) rfl (by omega))) ?_;refine Xh 20 rfl rfl rfl rfl (gT _) (fun hq hp hqp => by (have hqd := hq;have hpd := hp;(try simp only [jj] at hqd hpd);exact ps_index rfl (Og rfl) (Og rfl) (by omega) (by exact isw_of (isS_fl (by assumption) (by omega))))) ?_;refine Xh 21 rfl rfl rfl rfl (gT _) (fun hq hp hqp => by (have hqd := hq;have hpd := hp;(try simp only [jj] at hqd hpd);exact ps_field rfl (Og rfl) (by exact isw_of (isS_fl (by assumption) (by omega))))) ?_;refine Xh 22 rfl rfl rfl rfl (gT _) (fun hq hp hqp => by (have hqd := hq;have hpd := hp;(try simp only [jj] at hqd hpd);exact ps_load rfl (Og rfl) (by exact Rds.cell (rds_rf (by assumption) List.mem_cons_self) (by exact fl_at0 _ _ (by omega) (by decide))))) ?_;refine Xh 23 rfl rfl rfl rfl (gT _) (fun hq hp hqp => by exact ps_move rfl rfl) ?_;refine Xh 24 rfl rfl rfl rfl (gT _) (fun hq hp hqp => by exact ps_move rfl rfl) ?_;refine Xh 25 rfl rfl rfl rfl (gT _) (fun hq hp hqp => by (have hqd := hq;have hpd := hp;(try simp only [jj] at hqd hpd);exact ps_indexN rfl (Og rfl) (Og rfl) (by omega) (by exact isw_of (isS_fl (by assumption) (by omega))))) ?_;refine Xh 26 rfl rfl rfl rfl (gT _) (fun hq hp hqp => by (have hqd := hq;have hpd := hp;(try simp only [jj] at hqd hpd);exact ps_field rfl (Og rfl) (by exact isw_of (isS_fl (by assumption) (by omega))))) ?_;refine Xh 27 rfl rfl rfl rfl (gT _) (fun hq hp hqp => by (have hqd := hq;have hpd := hp;(try simp only [jj] at hqd hpd);exact ps_load rfl (Og rfl) (by exact Rds.cell (rds_rf (by assumption) List.mem_cons_self) (by exact fl_at0 _ _ (by omega) (by decide))))) ?_;refine Xh 28 rfl rfl rfl rfl (gT _) (fun hq hp hqp => by (exact ps_str rfl (Og rfl) (Og rfl) rfl)) ?_;refine Xg 29 rfl rfl rfl rfl (gF _) (fun hp => by exact ps_and_in (by assumption) rfl rfl rfl) ?_;refine Xt 30 rfl (ps_or rfl rfl rfl) ?_;refine okT_done (by kernel_rfl) ?_;refine Ze3 0 3 40 ?_)|(refine Zr 5 ?_;refine Za ?_;refine Ze1 2 ?_)|(refine Zr 6 ?_;refine Za ?_;refine Ze1 2 ?_))
  all_goals try rw [tn1] at hc
  all_goals try have hok := okM_spec l k
  · rw [hc] at hok
    have e := all_false (p := okM l) (show k < l.length by omega) hok
    exact ok_endL (vs := [_]) rfl ⟨rfl,trivial⟩ (fun w' hw => ⟨by rw [mapOk,e];rfl,hw.below⟩)
  · rw [hc] at hok
    exact fun a w' he hw => ⟨⟨k + 1,by omega,fun j hj => by
      rcases Nat.lt_succ_iff_lt_or_eq.1 hj with h' | h'
      · exact HO.out j h'
      · subst h';exact hok⟩,by simp only;omega,he.sub ⟨rfl,rfl,trivial⟩,hw⟩
  · obtain rfl : k = l.length := by omega
    have e := all_true (p := okM l) (n := l.length) (fun i hi => HO.out i hi)
    exact ok_endL (vs := [_]) rfl ⟨rfl,trivial⟩ (fun w' hw => ⟨by rw [mapOk,e];rfl,hw.below⟩)
end Go.Proofs.YtmfojbidojjciaaGreat
namespace Go.Proofs.YtmfojbidojjciaaGreat
open Go.RowKit
structure Opp where
  key : ByteArray
  del : Bool
  val : ByteArray
  deriving DecidableEq
instance : Dat Opp := ⟨3,fun x => [.string x.key,.bool x.del,.string x.val],fun _ => rfl,⟨⟨#[]⟩,false,⟨#[]⟩⟩⟩
instance : OneC Opp := ⟨fun x u hu => by
  have : u = .string x.key ∨ u = .bool x.del ∨ u = .string x.val := by simpa [Dat.cells] using hu
  rcases this with rfl | rfl | rfl <;> rfl⟩
instance : Enc Opp := ⟨fun x => .agg #[.string x.key,.bool x.del,.string x.val],fun v => ⟨asS ((asL v).getD 0 (.bool false)),asB ((asL v).getD 1 (.bool false)),asS ((asL v).getD 2 (.bool false))⟩,fun _ => rfl⟩
instance : Enc KV := ⟨fun x => .agg #[.string x.key,.string x.val],fun v => ⟨asS ((asL v).getD 0 (.bool false)),asS ((asL v).getD 1 (.bool false))⟩,fun _ => rfl⟩
end Go.Proofs.YtmfojbidojjciaaGreat
