/- Data as the unknown results of calls: kept in a world of the result. -/
import Derived.Test.YtfcnimglcialbaaMt
namespace Go.Proofs.Ytfcnimglcialbaa
set_option linter.unusedVariables false
class Enc (α : Type) where
  toV : α → Value
  ofV : Value → α
  rt : ∀ x, ofV (toV x) = x
@[reducible] def asI : Value → Int
  | .int _ n => n
  | _ => 0
@[reducible] def asS : Value → ByteArray
  | .string s => s
  | _ => ⟨#[]⟩
@[reducible] def asB : Value → Bool
  | .bool b => b
  | _ => false
def asL : Value → List Value
  | .agg cs => cs.toList
  | _ => []
instance : Enc Int := ⟨fun n => .int .i64 n, asI, fun _ => rfl⟩
instance : Enc ByteArray := ⟨fun s => .string s, asS, fun _ => rfl⟩
instance : Enc Bool := ⟨fun b => .bool b, asB, fun _ => rfl⟩
instance {α : Type} [Enc α] : Enc (List α) := ⟨fun l => .agg (l.map Enc.toV).toArray, fun v => (asL v).map Enc.ofV, fun l => by
  show ((l.map Enc.toV).toArray.toList).map Enc.ofV = l
  rw [List.toList_toArray, List.map_map]
  exact (List.map_congr_left (fun a _ => Enc.rt a)).trans (List.map_id l)⟩
instance {α β : Type} [Enc α] [Enc β] : Enc (α × β) := ⟨fun x => .agg #[Enc.toV x.1, Enc.toV x.2], fun v => (Enc.ofV ((asL v).getD 0 (.bool false)), Enc.ofV ((asL v).getD 1 (.bool false))), fun x => by
  show (Enc.ofV (Enc.toV x.1), Enc.ofV (Enc.toV x.2)) = x
  rw [Enc.rt, Enc.rt]⟩
def eW {α : Type} [Enc α] (x : α) (w : World) : World := { w with heap := #[.cells #[Enc.toV x] 0 (0, 0)] }
def yE {α : Type} [Enc α] (y : Ya) : α := match (y.w.heap[0]? : Option Obj) with
  | some (.cells cs _ _) => Enc.ofV ((cs[0]? : Option Value).getD (.bool false))
  | _ => Enc.ofV (.bool false)
theorem yE_mk {α : Type} [Enc α] (A : Option Addr) (c : Nat) (x : α) (w : World) (n : Int) : yE ⟨A, c, eW x w, n⟩ = x := Enc.rt x
/-- Results with data: places as they are, the data with a number and a place behind them. -/
def mkE {α : Type} [Enc α] (k : Nat) (y : Ys) (x : α) (i : Nat) (h : Int) (w : World) : Ys := fun j => if j = k then ⟨none, i, eW x w, h⟩ else y j
end Go.Proofs.Ytfcnimglcialbaa
