/- TurnsAsk, TurnsOk of both programs in the uniform style. -/
import Derived.Test.YtfcnimglcialbaaAsk
namespace Go.Proofs.Ytfcnimglcialbaa
open Go.RowKit
set_option linter.unusedVariables false
def fTurnsOk (x : DTurns) : Bool := turnsOkF x.W x.L x.T x.p
def fTurnsAsk (x : DTurns) (i : Int) : DTurns × Bool := (⟨(askF x.W x.L x.T x.p i).1, (askF x.W x.L x.T x.p i).2.1, (askF x.W x.L x.T x.p i).2.2.1, (askF x.W x.L x.T x.p i).2.2.2.1⟩, (askF x.W x.L x.T x.p i).2.2.2.2)
theorem ask_le (W L T : List Int) (p i : Int) (m0 : W.length ≤ 1048576) (m1 : L.length ≤ 1048576) (m2 : T.length ≤ 1048576) : (askF W L T p i).1.length ≤ 1048576 ∧ (askF W L T p i).2.1.length ≤ 1048576 ∧ (askF W L T p i).2.2.1.length ≤ 1048576 := by
  unfold askF
  split
  · split
    · simp only [List.length_set]; exact ⟨m0, m1, m2⟩
    · exact ⟨m0, m1, m2⟩
  · simp
theorem TurnsAsk_lim (x : DTurns) (i : Int) (hs : Turns_sm x) (hi : -9223372036854775808 ≤ i ∧ i ≤ 9223372036854775807) : Turns_lim (fTurnsAsk x i).1 := by
  have := ask_le x.W x.L x.T x.p i hs.1 hs.2.1 hs.2.2
  exact ⟨by show (askF x.W x.L x.T x.p i).1.length ≤ _; omega, by show (askF x.W x.L x.T x.p i).2.1.length ≤ _; omega, by show (askF x.W x.L x.T x.p i).2.2.1.length ≤ _; omega⟩
theorem i_TurnsAsk (x : DTurns) (y : Ys) (i : Int) (w : World) (h : Turns_rd w x y) (hs : Turns_sm x) (hi : -9223372036854775808 ≤ i ∧ i ≤ 9223372036854775807) :
    Calls Try.prog 39 #[Turns_val x y, .int .i64 i] w fun e w' => ∃ y : Ys, e = .returned (.tuple #[Turns_val (fTurnsAsk x i).1 y, .bool (fTurnsAsk x i).2]) ∧ True ∧ Below w.heap.size w w' ∧ NewOk w.heap.size (Turns_obj (fTurnsAsk x i).1 y) [] w' :=
  i_TurnsAsk0 _ _ _ _ _ _ x.W x.L x.T x.p i w h.1 h.2.1 h.2.2 hs.1 hs.2.1 hs.2.2 hi
theorem s_TurnsAsk (x : DTurns) (y : Ys) (i : Int) (w : World) (h : Turns_rd w x y) (hs : Turns_sm x) (hi : -9223372036854775808 ≤ i ∧ i ≤ 9223372036854775807) :
    Calls Try.prog 46 #[Turns_val x y, .int .i64 i] w fun e w' => ∃ y : Ys, e = .returned (.tuple #[Turns_val (fTurnsAsk x i).1 y, .bool (fTurnsAsk x i).2]) ∧ True ∧ Below w.heap.size w w' ∧ NewOk w.heap.size (Turns_obj (fTurnsAsk x i).1 y) [] w' :=
  s_TurnsAsk0 _ _ _ _ _ _ x.W x.L x.T x.p i w h.1 h.2.1 h.2.2 hs.1 hs.2.1 hs.2.2 hi
end Go.Proofs.Ytfcnimglcialbaa
