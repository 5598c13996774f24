/- The named types of the program, and what their cells are. Written by gentypes.py. -/
import Derived.Test.YtojgphgfhapacaaGT2
namespace Go.Proofs.Ytojgphgfhapacaa
open Go.RowKit
set_option linter.unusedVariables false
abbrev gAcc : GT := .st [.int, .int, .int, .int, .int]
structure Acc where
  tenant : Int
  quota : Int
  bytes : Int
  keys : Int
  rows : Int
def Acc.of (x : gAcc.den) : Acc := match x with
  | (a0, a1, a2, a3, a4, _) => ⟨a0, a1, a2, a3, a4⟩
def Acc.cells (x : Acc) : List Value := [.int .i64 x.tenant, .int .i64 x.quota, .int .i64 x.bytes, .int .i64 x.keys, .int .i64 x.rows]
theorem gAcc_cells {w : World} {x : gAcc.den} {c : List Value} (h : RdT w gAcc x c) : c = (Acc.of x).cells ∧ inI64 (Acc.of x).tenant ∧ inI64 (Acc.of x).quota ∧ inI64 (Acc.of x).bytes ∧ inI64 (Acc.of x).keys ∧ inI64 (Acc.of x).rows := by
  obtain ⟨a0, a1, a2, a3, a4, u⟩ := x
  obtain ⟨_, _, rfl, h0, t0⟩ := RdTL.cons.1 (RdT.st.1 h)
  obtain ⟨rfl, b0⟩ := RdT.int.1 h0
  obtain ⟨_, _, rfl, h1, t1⟩ := RdTL.cons.1 (t0)
  obtain ⟨rfl, b1⟩ := RdT.int.1 h1
  obtain ⟨_, _, rfl, h2, t2⟩ := RdTL.cons.1 (t1)
  obtain ⟨rfl, b2⟩ := RdT.int.1 h2
  obtain ⟨_, _, rfl, h3, t3⟩ := RdTL.cons.1 (t2)
  obtain ⟨rfl, b3⟩ := RdT.int.1 h3
  obtain ⟨_, _, rfl, h4, t4⟩ := RdTL.cons.1 (t3)
  obtain ⟨rfl, b4⟩ := RdT.int.1 h4
  obtain rfl := RdTL.nil.1 t4
  exact ⟨rfl, b0, b1, b2, b3, b4⟩
abbrev gSlt : GT := .st [.int, .str]
structure Slt where
  seq : Int
  root : ByteArray
def Slt.of (x : gSlt.den) : Slt := match x with
  | (a0, a1, _) => ⟨a0, a1⟩
def Slt.cells (x : Slt) : List Value := [.int .i64 x.seq, .string x.root]
theorem gSlt_cells {w : World} {x : gSlt.den} {c : List Value} (h : RdT w gSlt x c) : c = (Slt.of x).cells ∧ inI64 (Slt.of x).seq ∧ (Slt.of x).root.size ≤ maxLen := by
  obtain ⟨a0, a1, u⟩ := x
  obtain ⟨_, _, rfl, h0, t0⟩ := RdTL.cons.1 (RdT.st.1 h)
  obtain ⟨rfl, b0⟩ := RdT.int.1 h0
  obtain ⟨_, _, rfl, h1, t1⟩ := RdTL.cons.1 (t0)
  obtain ⟨rfl, b1⟩ := RdT.str.1 h1
  obtain rfl := RdTL.nil.1 t1
  exact ⟨rfl, b0, b1⟩
abbrev gCRw : GT := .st [.int, .int, .str]
structure CRw where
  tenant : Int
  no : Int
  text : ByteArray
def CRw.of (x : gCRw.den) : CRw := match x with
  | (a0, a1, a2, _) => ⟨a0, a1, a2⟩
def CRw.cells (x : CRw) : List Value := [.int .i64 x.tenant, .int .i64 x.no, .string x.text]
theorem gCRw_cells {w : World} {x : gCRw.den} {c : List Value} (h : RdT w gCRw x c) : c = (CRw.of x).cells ∧ inI64 (CRw.of x).tenant ∧ inI64 (CRw.of x).no ∧ (CRw.of x).text.size ≤ maxLen := by
  obtain ⟨a0, a1, a2, u⟩ := x
  obtain ⟨_, _, rfl, h0, t0⟩ := RdTL.cons.1 (RdT.st.1 h)
  obtain ⟨rfl, b0⟩ := RdT.int.1 h0
  obtain ⟨_, _, rfl, h1, t1⟩ := RdTL.cons.1 (t0)
  obtain ⟨rfl, b1⟩ := RdT.int.1 h1
  obtain ⟨_, _, rfl, h2, t2⟩ := RdTL.cons.1 (t1)
  obtain ⟨rfl, b2⟩ := RdT.str.1 h2
  obtain rfl := RdTL.nil.1 t2
  exact ⟨rfl, b0, b1, b2⟩
abbrev gKVt : GT := .st [.str, .str]
structure KVt where
  key : ByteArray
  val : ByteArray
def KVt.of (x : gKVt.den) : KVt := match x with
  | (a0, a1, _) => ⟨a0, a1⟩
def KVt.cells (x : KVt) : List Value := [.string x.key, .string x.val]
theorem gKVt_cells {w : World} {x : gKVt.den} {c : List Value} (h : RdT w gKVt x c) : c = (KVt.of x).cells ∧ (KVt.of x).key.size ≤ maxLen ∧ (KVt.of x).val.size ≤ maxLen := by
  obtain ⟨a0, a1, u⟩ := x
  obtain ⟨_, _, rfl, h0, t0⟩ := RdTL.cons.1 (RdT.st.1 h)
  obtain ⟨rfl, b0⟩ := RdT.str.1 h0
  obtain ⟨_, _, rfl, h1, t1⟩ := RdTL.cons.1 (t0)
  obtain ⟨rfl, b1⟩ := RdT.str.1 h1
  obtain rfl := RdTL.nil.1 t1
  exact ⟨rfl, b0, b1⟩
abbrev gEntt : GT := .st [.str, .int, .bool, .str]
structure Entt where
  key : ByteArray
  seq : Int
  del : Bool
  val : ByteArray
def Entt.of (x : gEntt.den) : Entt := match x with
  | (a0, a1, a2, a3, _) => ⟨a0, a1, a2, a3⟩
def Entt.cells (x : Entt) : List Value := [.string x.key, .int .i64 x.seq, .bool x.del, .string x.val]
theorem gEntt_cells {w : World} {x : gEntt.den} {c : List Value} (h : RdT w gEntt x c) : c = (Entt.of x).cells ∧ (Entt.of x).key.size ≤ maxLen ∧ inI64 (Entt.of x).seq ∧ True ∧ (Entt.of x).val.size ≤ maxLen := by
  obtain ⟨a0, a1, a2, a3, u⟩ := x
  obtain ⟨_, _, rfl, h0, t0⟩ := RdTL.cons.1 (RdT.st.1 h)
  obtain ⟨rfl, b0⟩ := RdT.str.1 h0
  obtain ⟨_, _, rfl, h1, t1⟩ := RdTL.cons.1 (t0)
  obtain ⟨rfl, b1⟩ := RdT.int.1 h1
  obtain ⟨_, _, rfl, h2, t2⟩ := RdTL.cons.1 (t1)
  have b2 := trivial
  obtain rfl := RdT.bool.1 h2
  obtain ⟨_, _, rfl, h3, t3⟩ := RdTL.cons.1 (t2)
  obtain ⟨rfl, b3⟩ := RdT.str.1 h3
  obtain rfl := RdTL.nil.1 t3
  exact ⟨rfl, b0, b1, b2, b3⟩
abbrev gLnk : GT := .st [.int, .str, .str]
structure Lnk where
  who : Int
  text : ByteArray
  sum : ByteArray
def Lnk.of (x : gLnk.den) : Lnk := match x with
  | (a0, a1, a2, _) => ⟨a0, a1, a2⟩
def Lnk.cells (x : Lnk) : List Value := [.int .i64 x.who, .string x.text, .string x.sum]
theorem gLnk_cells {w : World} {x : gLnk.den} {c : List Value} (h : RdT w gLnk x c) : c = (Lnk.of x).cells ∧ inI64 (Lnk.of x).who ∧ (Lnk.of x).text.size ≤ maxLen ∧ (Lnk.of x).sum.size ≤ maxLen := by
  obtain ⟨a0, a1, a2, u⟩ := x
  obtain ⟨_, _, rfl, h0, t0⟩ := RdTL.cons.1 (RdT.st.1 h)
  obtain ⟨rfl, b0⟩ := RdT.int.1 h0
  obtain ⟨_, _, rfl, h1, t1⟩ := RdTL.cons.1 (t0)
  obtain ⟨rfl, b1⟩ := RdT.str.1 h1
  obtain ⟨_, _, rfl, h2, t2⟩ := RdTL.cons.1 (t1)
  obtain ⟨rfl, b2⟩ := RdT.str.1 h2
  obtain rfl := RdTL.nil.1 t2
  exact ⟨rfl, b0, b1, b2⟩
abbrev gFKy : GT := .st [.int, .str]
structure FKy where
  no : Int
  text : ByteArray
def FKy.of (x : gFKy.den) : FKy := match x with
  | (a0, a1, _) => ⟨a0, a1⟩
def FKy.cells (x : FKy) : List Value := [.int .i64 x.no, .string x.text]
theorem gFKy_cells {w : World} {x : gFKy.den} {c : List Value} (h : RdT w gFKy x c) : c = (FKy.of x).cells ∧ inI64 (FKy.of x).no ∧ (FKy.of x).text.size ≤ maxLen := by
  obtain ⟨a0, a1, u⟩ := x
  obtain ⟨_, _, rfl, h0, t0⟩ := RdTL.cons.1 (RdT.st.1 h)
  obtain ⟨rfl, b0⟩ := RdT.int.1 h0
  obtain ⟨_, _, rfl, h1, t1⟩ := RdTL.cons.1 (t0)
  obtain ⟨rfl, b1⟩ := RdT.str.1 h1
  obtain rfl := RdTL.nil.1 t1
  exact ⟨rfl, b0, b1⟩
theorem Acc.cells_len (x : Acc) : x.cells.length = 5 := rfl
theorem gAcc_flat {w : World} : ∀ {xs : List (gAcc.den)} {us : List Value}, RdTs w gAcc xs us → us = (xs.map Acc.of).flatMap Acc.cells
  | [], us, h => by rw [RdTs.nil.1 h]; rfl
  | x :: xs, us, h => by
    obtain ⟨c1, c2, rfl, h1, h2⟩ := RdTs.cons.1 h
    rw [(gAcc_cells h1).1, gAcc_flat h2]; rfl
theorem gAcc_open {w : World} {v : Value} {E : TypeId} {x : (GT.sl E gAcc).den} (hx : RdT w (GT.sl E gAcc) x [v]) : ∃ (A : Option Addr) (c : Nat) (l : List Acc), v = .slice A l.length c ∧ l.length ≤ c ∧ c ≤ maxLen ∧ Rd w A (l.flatMap Acc.cells) := by
  obtain ⟨A, c, us, e, hlc, hcm, hr, ht⟩ := RdT.sl.1 hx
  have hl : (List.map Acc.of x).length = List.length x := List.length_map Acc.of
  refine ⟨A, c, List.map Acc.of x, ?_, by rw [hl]; exact hlc, hcm, by rw [← gAcc_flat ht]; exact hr⟩
  rw [hl]; injection e
theorem Acc.at_ {w : World} {A : Option Addr} {l : List Acc} (hr : Rd w A (l.flatMap Acc.cells)) {i : Nat} (hi : i < l.length) : ∃ ad, A = some ad ∧ w.cell? (ad.add (i * 5)) = some (.int .i64 l[i].tenant) ∧ w.cell? ⟨(ad.add (i * 5)).block, (ad.add (i * 5)).off + 1, none⟩ = some (.int .i64 l[i].quota) ∧ w.cell? ⟨(ad.add (i * 5)).block, (ad.add (i * 5)).off + 2, none⟩ = some (.int .i64 l[i].bytes) ∧ w.cell? ⟨(ad.add (i * 5)).block, (ad.add (i * 5)).off + 3, none⟩ = some (.int .i64 l[i].keys) ∧ w.cell? ⟨(ad.add (i * 5)).block, (ad.add (i * 5)).off + 4, none⟩ = some (.int .i64 l[i].rows) := by
  obtain ⟨ad, e, h⟩ := flat_at Acc.cells_len (by omega) hr hi
  exact ⟨ad, e, h 0 _ rfl, (congrArg w.cell? (add_add' ad (i * 5) 1)).trans (h 1 _ rfl), (congrArg w.cell? (add_add' ad (i * 5) 2)).trans (h 2 _ rfl), (congrArg w.cell? (add_add' ad (i * 5) 3)).trans (h 3 _ rfl), (congrArg w.cell? (add_add' ad (i * 5) 4)).trans (h 4 _ rfl)⟩
theorem Slt.cells_len (x : Slt) : x.cells.length = 2 := rfl
theorem gSlt_flat {w : World} : ∀ {xs : List (gSlt.den)} {us : List Value}, RdTs w gSlt xs us → us = (xs.map Slt.of).flatMap Slt.cells
  | [], us, h => by rw [RdTs.nil.1 h]; rfl
  | x :: xs, us, h => by
    obtain ⟨c1, c2, rfl, h1, h2⟩ := RdTs.cons.1 h
    rw [(gSlt_cells h1).1, gSlt_flat h2]; rfl
theorem gSlt_open {w : World} {v : Value} {E : TypeId} {x : (GT.sl E gSlt).den} (hx : RdT w (GT.sl E gSlt) x [v]) : ∃ (A : Option Addr) (c : Nat) (l : List Slt), v = .slice A l.length c ∧ l.length ≤ c ∧ c ≤ maxLen ∧ Rd w A (l.flatMap Slt.cells) := by
  obtain ⟨A, c, us, e, hlc, hcm, hr, ht⟩ := RdT.sl.1 hx
  have hl : (List.map Slt.of x).length = List.length x := List.length_map Slt.of
  refine ⟨A, c, List.map Slt.of x, ?_, by rw [hl]; exact hlc, hcm, by rw [← gSlt_flat ht]; exact hr⟩
  rw [hl]; injection e
theorem Slt.at_ {w : World} {A : Option Addr} {l : List Slt} (hr : Rd w A (l.flatMap Slt.cells)) {i : Nat} (hi : i < l.length) : ∃ ad, A = some ad ∧ w.cell? (ad.add (i * 2)) = some (.int .i64 l[i].seq) ∧ w.cell? ⟨(ad.add (i * 2)).block, (ad.add (i * 2)).off + 1, none⟩ = some (.string l[i].root) := by
  obtain ⟨ad, e, h⟩ := flat_at Slt.cells_len (by omega) hr hi
  exact ⟨ad, e, h 0 _ rfl, (congrArg w.cell? (add_add' ad (i * 2) 1)).trans (h 1 _ rfl)⟩
theorem CRw.cells_len (x : CRw) : x.cells.length = 3 := rfl
theorem gCRw_flat {w : World} : ∀ {xs : List (gCRw.den)} {us : List Value}, RdTs w gCRw xs us → us = (xs.map CRw.of).flatMap CRw.cells
  | [], us, h => by rw [RdTs.nil.1 h]; rfl
  | x :: xs, us, h => by
    obtain ⟨c1, c2, rfl, h1, h2⟩ := RdTs.cons.1 h
    rw [(gCRw_cells h1).1, gCRw_flat h2]; rfl
theorem gCRw_open {w : World} {v : Value} {E : TypeId} {x : (GT.sl E gCRw).den} (hx : RdT w (GT.sl E gCRw) x [v]) : ∃ (A : Option Addr) (c : Nat) (l : List CRw), v = .slice A l.length c ∧ l.length ≤ c ∧ c ≤ maxLen ∧ Rd w A (l.flatMap CRw.cells) := by
  obtain ⟨A, c, us, e, hlc, hcm, hr, ht⟩ := RdT.sl.1 hx
  have hl : (List.map CRw.of x).length = List.length x := List.length_map CRw.of
  refine ⟨A, c, List.map CRw.of x, ?_, by rw [hl]; exact hlc, hcm, by rw [← gCRw_flat ht]; exact hr⟩
  rw [hl]; injection e
theorem CRw.at_ {w : World} {A : Option Addr} {l : List CRw} (hr : Rd w A (l.flatMap CRw.cells)) {i : Nat} (hi : i < l.length) : ∃ ad, A = some ad ∧ w.cell? (ad.add (i * 3)) = some (.int .i64 l[i].tenant) ∧ w.cell? ⟨(ad.add (i * 3)).block, (ad.add (i * 3)).off + 1, none⟩ = some (.int .i64 l[i].no) ∧ w.cell? ⟨(ad.add (i * 3)).block, (ad.add (i * 3)).off + 2, none⟩ = some (.string l[i].text) := by
  obtain ⟨ad, e, h⟩ := flat_at CRw.cells_len (by omega) hr hi
  exact ⟨ad, e, h 0 _ rfl, (congrArg w.cell? (add_add' ad (i * 3) 1)).trans (h 1 _ rfl), (congrArg w.cell? (add_add' ad (i * 3) 2)).trans (h 2 _ rfl)⟩
theorem KVt.cells_len (x : KVt) : x.cells.length = 2 := rfl
theorem gKVt_flat {w : World} : ∀ {xs : List (gKVt.den)} {us : List Value}, RdTs w gKVt xs us → us = (xs.map KVt.of).flatMap KVt.cells
  | [], us, h => by rw [RdTs.nil.1 h]; rfl
  | x :: xs, us, h => by
    obtain ⟨c1, c2, rfl, h1, h2⟩ := RdTs.cons.1 h
    rw [(gKVt_cells h1).1, gKVt_flat h2]; rfl
theorem gKVt_open {w : World} {v : Value} {E : TypeId} {x : (GT.sl E gKVt).den} (hx : RdT w (GT.sl E gKVt) x [v]) : ∃ (A : Option Addr) (c : Nat) (l : List KVt), v = .slice A l.length c ∧ l.length ≤ c ∧ c ≤ maxLen ∧ Rd w A (l.flatMap KVt.cells) := by
  obtain ⟨A, c, us, e, hlc, hcm, hr, ht⟩ := RdT.sl.1 hx
  have hl : (List.map KVt.of x).length = List.length x := List.length_map KVt.of
  refine ⟨A, c, List.map KVt.of x, ?_, by rw [hl]; exact hlc, hcm, by rw [← gKVt_flat ht]; exact hr⟩
  rw [hl]; injection e
theorem KVt.at_ {w : World} {A : Option Addr} {l : List KVt} (hr : Rd w A (l.flatMap KVt.cells)) {i : Nat} (hi : i < l.length) : ∃ ad, A = some ad ∧ w.cell? (ad.add (i * 2)) = some (.string l[i].key) ∧ w.cell? ⟨(ad.add (i * 2)).block, (ad.add (i * 2)).off + 1, none⟩ = some (.string l[i].val) := by
  obtain ⟨ad, e, h⟩ := flat_at KVt.cells_len (by omega) hr hi
  exact ⟨ad, e, h 0 _ rfl, (congrArg w.cell? (add_add' ad (i * 2) 1)).trans (h 1 _ rfl)⟩
theorem Entt.cells_len (x : Entt) : x.cells.length = 4 := rfl
theorem gEntt_flat {w : World} : ∀ {xs : List (gEntt.den)} {us : List Value}, RdTs w gEntt xs us → us = (xs.map Entt.of).flatMap Entt.cells
  | [], us, h => by rw [RdTs.nil.1 h]; rfl
  | x :: xs, us, h => by
    obtain ⟨c1, c2, rfl, h1, h2⟩ := RdTs.cons.1 h
    rw [(gEntt_cells h1).1, gEntt_flat h2]; rfl
theorem gEntt_open {w : World} {v : Value} {E : TypeId} {x : (GT.sl E gEntt).den} (hx : RdT w (GT.sl E gEntt) x [v]) : ∃ (A : Option Addr) (c : Nat) (l : List Entt), v = .slice A l.length c ∧ l.length ≤ c ∧ c ≤ maxLen ∧ Rd w A (l.flatMap Entt.cells) := by
  obtain ⟨A, c, us, e, hlc, hcm, hr, ht⟩ := RdT.sl.1 hx
  have hl : (List.map Entt.of x).length = List.length x := List.length_map Entt.of
  refine ⟨A, c, List.map Entt.of x, ?_, by rw [hl]; exact hlc, hcm, by rw [← gEntt_flat ht]; exact hr⟩
  rw [hl]; injection e
theorem Entt.at_ {w : World} {A : Option Addr} {l : List Entt} (hr : Rd w A (l.flatMap Entt.cells)) {i : Nat} (hi : i < l.length) : ∃ ad, A = some ad ∧ w.cell? (ad.add (i * 4)) = some (.string l[i].key) ∧ w.cell? ⟨(ad.add (i * 4)).block, (ad.add (i * 4)).off + 1, none⟩ = some (.int .i64 l[i].seq) ∧ w.cell? ⟨(ad.add (i * 4)).block, (ad.add (i * 4)).off + 2, none⟩ = some (.bool l[i].del) ∧ w.cell? ⟨(ad.add (i * 4)).block, (ad.add (i * 4)).off + 3, none⟩ = some (.string l[i].val) := by
  obtain ⟨ad, e, h⟩ := flat_at Entt.cells_len (by omega) hr hi
  exact ⟨ad, e, h 0 _ rfl, (congrArg w.cell? (add_add' ad (i * 4) 1)).trans (h 1 _ rfl), (congrArg w.cell? (add_add' ad (i * 4) 2)).trans (h 2 _ rfl), (congrArg w.cell? (add_add' ad (i * 4) 3)).trans (h 3 _ rfl)⟩
theorem Lnk.cells_len (x : Lnk) : x.cells.length = 3 := rfl
theorem gLnk_flat {w : World} : ∀ {xs : List (gLnk.den)} {us : List Value}, RdTs w gLnk xs us → us = (xs.map Lnk.of).flatMap Lnk.cells
  | [], us, h => by rw [RdTs.nil.1 h]; rfl
  | x :: xs, us, h => by
    obtain ⟨c1, c2, rfl, h1, h2⟩ := RdTs.cons.1 h
    rw [(gLnk_cells h1).1, gLnk_flat h2]; rfl
theorem gLnk_open {w : World} {v : Value} {E : TypeId} {x : (GT.sl E gLnk).den} (hx : RdT w (GT.sl E gLnk) x [v]) : ∃ (A : Option Addr) (c : Nat) (l : List Lnk), v = .slice A l.length c ∧ l.length ≤ c ∧ c ≤ maxLen ∧ Rd w A (l.flatMap Lnk.cells) := by
  obtain ⟨A, c, us, e, hlc, hcm, hr, ht⟩ := RdT.sl.1 hx
  have hl : (List.map Lnk.of x).length = List.length x := List.length_map Lnk.of
  refine ⟨A, c, List.map Lnk.of x, ?_, by rw [hl]; exact hlc, hcm, by rw [← gLnk_flat ht]; exact hr⟩
  rw [hl]; injection e
theorem Lnk.at_ {w : World} {A : Option Addr} {l : List Lnk} (hr : Rd w A (l.flatMap Lnk.cells)) {i : Nat} (hi : i < l.length) : ∃ ad, A = some ad ∧ w.cell? (ad.add (i * 3)) = some (.int .i64 l[i].who) ∧ w.cell? ⟨(ad.add (i * 3)).block, (ad.add (i * 3)).off + 1, none⟩ = some (.string l[i].text) ∧ w.cell? ⟨(ad.add (i * 3)).block, (ad.add (i * 3)).off + 2, none⟩ = some (.string l[i].sum) := by
  obtain ⟨ad, e, h⟩ := flat_at Lnk.cells_len (by omega) hr hi
  exact ⟨ad, e, h 0 _ rfl, (congrArg w.cell? (add_add' ad (i * 3) 1)).trans (h 1 _ rfl), (congrArg w.cell? (add_add' ad (i * 3) 2)).trans (h 2 _ rfl)⟩
theorem FKy.cells_len (x : FKy) : x.cells.length = 2 := rfl
theorem gFKy_flat {w : World} : ∀ {xs : List (gFKy.den)} {us : List Value}, RdTs w gFKy xs us → us = (xs.map FKy.of).flatMap FKy.cells
  | [], us, h => by rw [RdTs.nil.1 h]; rfl
  | x :: xs, us, h => by
    obtain ⟨c1, c2, rfl, h1, h2⟩ := RdTs.cons.1 h
    rw [(gFKy_cells h1).1, gFKy_flat h2]; rfl
theorem gFKy_open {w : World} {v : Value} {E : TypeId} {x : (GT.sl E gFKy).den} (hx : RdT w (GT.sl E gFKy) x [v]) : ∃ (A : Option Addr) (c : Nat) (l : List FKy), v = .slice A l.length c ∧ l.length ≤ c ∧ c ≤ maxLen ∧ Rd w A (l.flatMap FKy.cells) := by
  obtain ⟨A, c, us, e, hlc, hcm, hr, ht⟩ := RdT.sl.1 hx
  have hl : (List.map FKy.of x).length = List.length x := List.length_map FKy.of
  refine ⟨A, c, List.map FKy.of x, ?_, by rw [hl]; exact hlc, hcm, by rw [← gFKy_flat ht]; exact hr⟩
  rw [hl]; injection e
theorem FKy.at_ {w : World} {A : Option Addr} {l : List FKy} (hr : Rd w A (l.flatMap FKy.cells)) {i : Nat} (hi : i < l.length) : ∃ ad, A = some ad ∧ w.cell? (ad.add (i * 2)) = some (.int .i64 l[i].no) ∧ w.cell? ⟨(ad.add (i * 2)).block, (ad.add (i * 2)).off + 1, none⟩ = some (.string l[i].text) := by
  obtain ⟨ad, e, h⟩ := flat_at FKy.cells_len (by omega) hr hi
  exact ⟨ad, e, h 0 _ rfl, (congrArg w.cell? (add_add' ad (i * 2) 1)).trans (h 1 _ rfl)⟩
end Go.Proofs.Ytojgphgfhapacaa
