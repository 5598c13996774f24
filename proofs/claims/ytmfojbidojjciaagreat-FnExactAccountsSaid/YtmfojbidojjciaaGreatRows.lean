/-
  No cell of these rows narrows 'for every input' (looked for: loops, veiled, ifaces, maps, wideKeys, modest, calm, conditions, laid).
  DERIVED. THE GIVEN ROWS OF THIS SEAT. 5 by the template 'for every input the law returns true; each argument reads behind the call as it read before'; 0 by the template 'total and deterministic' (their statements: YtmfojbidojjciaaGreatTotals.lean).
  GIVEN WITH THE SEED: the statements are not yours to turn. If you find one false, say at which input.
  Laid BY PROGRAM, IN A SANDBOX (cutbox-rows.mjs): the forced cells as the released guide's own fill.sh prints them over the translation c43ceb011cc6f8d0… (all of the seat's roots in one cut). By AI agents, Wed Nov 11 2026. No macro, syntax, notation, axiom, sorry.
-/
import Derived.Test.YtmfojbidojjciaaGreatChecked
import GoSem.Claim
import GoSem.ClaimJoined
import GoSem.ClaimMapViews
import Derived.JoinedTies
import Derived.KernelRfl
namespace Go.Proofs.YtmfojbidojjciaaGreat
/- THE CELL 'sum', in the pinned program and in every row, IS THE sha256 OF THE DUMP (.gsa) THAT YtmfojbidojjciaaGreatProg.lean LOADS. Nothing in Lean hashes anything: it is a label: what it is worth is what the hold of that sum in a sandbox is worth. -/
noncomputable def Tryz.pinned : Pinned := { name := "ytmfojbidojjciaagreat", sum := "c43ceb011cc6f8d0b9dcf8b911062427bf626263aea2176b9f644085ddd877c6", checked := Tryz.checked }
namespace Rows
def none {H : Type} : Left H := { results := [], args := [] }

/-- 'laws.FnExactTraces': WHATEVER THE INPUT: true; the input reads as it did. -/
def fnExactTracesSpec : ChangeSpec := { name := "fnExactTraces", fn := fun _ => fun
  | [d1, d2] => { results := [.lit (.bool true)], args := [d1, d2] }
  | _ => none }
def fnExactTracesRow : OpenClaim := { program := "ytmfojbidojjciaagreat", sum := "c43ceb011cc6f8d0b9dcf8b911062427bf626263aea2176b9f644085ddd877c6", func := "loop.example/g00950/laws.FnExactTraces", spec := "fnExactTraces", inPlace := ["slices.overlaps[loop.example/g00950/impl.Ent]"], unfollowed := true, recurses := true, plainKeys := false, apart := false }
def FnExactTracesSaid : Prop := fnExactTracesRow.holds Tryz.pinned (OpenSpec.ofChange fnExactTracesSpec)

/-- ITS FALSE NEIGHBOUR: 'it returns false'. Refute it at one input. -/
def fnExactTracesWrong : ChangeSpec := { name := "fnExactTraces", fn := fun _ => fun
  | [d1, d2] => { results := [.lit (.bool false)], args := [d1, d2] }
  | _ => none }
def FnExactTracesWrongFalsely : Prop := fnExactTracesRow.holds Tryz.pinned (OpenSpec.ofChange fnExactTracesWrong)

/-- 'laws.FnExactAccounts': WHATEVER THE INPUT: true; the input reads as it did. -/
def fnExactAccountsSpec : ChangeSpec := { name := "fnExactAccounts", fn := fun _ => fun
  | [d] => { results := [.lit (.bool true)], args := [d] }
  | _ => none }
def fnExactAccountsRow : OpenClaim := { program := "ytmfojbidojjciaagreat", sum := "c43ceb011cc6f8d0b9dcf8b911062427bf626263aea2176b9f644085ddd877c6", func := "loop.example/g00950/laws.FnExactAccounts", spec := "fnExactAccounts", inPlace := ["slices.overlaps[loop.example/g00950/impl.Ent]"], unfollowed := true, recurses := true, plainKeys := false, apart := false }
def FnExactAccountsSaid : Prop := fnExactAccountsRow.holds Tryz.pinned (OpenSpec.ofChange fnExactAccountsSpec)

/-- ITS FALSE NEIGHBOUR: 'it returns false'. Refute it at one input. -/
def fnExactAccountsWrong : ChangeSpec := { name := "fnExactAccounts", fn := fun _ => fun
  | [d] => { results := [.lit (.bool false)], args := [d] }
  | _ => none }
def FnExactAccountsWrongFalsely : Prop := fnExactAccountsRow.holds Tryz.pinned (OpenSpec.ofChange fnExactAccountsWrong)

/-- 'laws.FnAccounts': WHATEVER THE INPUT: true; the input reads as it did. -/
def fnAccountsSpec : ChangeSpec := { name := "fnAccounts", fn := fun _ => fun
  | [d] => { results := [.lit (.bool true)], args := [d] }
  | _ => none }
def fnAccountsRow : OpenClaim := { program := "ytmfojbidojjciaagreat", sum := "c43ceb011cc6f8d0b9dcf8b911062427bf626263aea2176b9f644085ddd877c6", func := "loop.example/g00950/laws.FnAccounts", spec := "fnAccounts", inPlace := ["slices.overlaps[loop.example/g00950/impl.Ent]"], unfollowed := true, recurses := true, plainKeys := false, apart := false }
def FnAccountsSaid : Prop := fnAccountsRow.holds Tryz.pinned (OpenSpec.ofChange fnAccountsSpec)

/-- ITS FALSE NEIGHBOUR: 'it returns false'. Refute it at one input. -/
def fnAccountsWrong : ChangeSpec := { name := "fnAccounts", fn := fun _ => fun
  | [d] => { results := [.lit (.bool false)], args := [d] }
  | _ => none }
def FnAccountsWrongFalsely : Prop := fnAccountsRow.holds Tryz.pinned (OpenSpec.ofChange fnAccountsWrong)

/-- 'laws.FnOnce': WHATEVER THE INPUT: true; the input reads as it did. -/
def fnOnceSpec : ChangeSpec := { name := "fnOnce", fn := fun _ => fun
  | [d] => { results := [.lit (.bool true)], args := [d] }
  | _ => none }
def fnOnceRow : OpenClaim := { program := "ytmfojbidojjciaagreat", sum := "c43ceb011cc6f8d0b9dcf8b911062427bf626263aea2176b9f644085ddd877c6", func := "loop.example/g00950/laws.FnOnce", spec := "fnOnce", inPlace := ["slices.overlaps[loop.example/g00950/impl.Share]", "slices.overlaps[loop.example/g00950/impl.KeySlot]", "slices.overlaps[loop.example/g00950/impl.STen]", "slices.overlaps[[]loop.example/g00950/impl.Ent]", "internal/bytealg.abigen_runtime_cmpstring", "slices.overlaps[loop.example/g00950/impl.KV]", "slices.overlaps[loop.example/g00950/impl.Ent]", "internal/abi.NoEscape"], unfollowed := true, recurses := true, plainKeys := false, apart := false }
def FnOnceSaid : Prop := fnOnceRow.holds Tryz.pinned (OpenSpec.ofChange fnOnceSpec)

/-- ITS FALSE NEIGHBOUR: 'it returns false'. Refute it at one input. -/
def fnOnceWrong : ChangeSpec := { name := "fnOnce", fn := fun _ => fun
  | [d] => { results := [.lit (.bool false)], args := [d] }
  | _ => none }
def FnOnceWrongFalsely : Prop := fnOnceRow.holds Tryz.pinned (OpenSpec.ofChange fnOnceWrong)

/-- 'laws.FnShred': WHATEVER THE INPUT: true; the input reads as it did. -/
def fnShredSpec : ChangeSpec := { name := "fnShred", fn := fun _ => fun
  | [d] => { results := [.lit (.bool true)], args := [d] }
  | _ => none }
def fnShredRow : OpenClaim := { program := "ytmfojbidojjciaagreat", sum := "c43ceb011cc6f8d0b9dcf8b911062427bf626263aea2176b9f644085ddd877c6", func := "loop.example/g00950/laws.FnShred", spec := "fnShred", inPlace := ["slices.overlaps[loop.example/g00950/impl.Share]", "slices.overlaps[loop.example/g00950/impl.KeySlot]", "slices.overlaps[loop.example/g00950/impl.STen]", "slices.overlaps[[]loop.example/g00950/impl.Ent]", "internal/bytealg.abigen_runtime_cmpstring", "slices.overlaps[loop.example/g00950/impl.KV]", "slices.overlaps[loop.example/g00950/impl.Ent]", "internal/abi.NoEscape"], unfollowed := true, recurses := true, plainKeys := false, apart := false }
def FnShredSaid : Prop := fnShredRow.holds Tryz.pinned (OpenSpec.ofChange fnShredSpec)

/-- ITS FALSE NEIGHBOUR: 'it returns false'. Refute it at one input. -/
def fnShredWrong : ChangeSpec := { name := "fnShred", fn := fun _ => fun
  | [d] => { results := [.lit (.bool false)], args := [d] }
  | _ => none }
def FnShredWrongFalsely : Prop := fnShredRow.holds Tryz.pinned (OpenSpec.ofChange fnShredWrong)

/- THE SECOND FORM. 'bulk': how many values and letters a reading holds, each counted each time it is reached (what is shared counts as often as it is met; a slice's spare places count too). A statement '..UptoSaid' is the law's where the arguments, and the package variables that the reading takes, are together of bulk at most 1048576: NARROWER than '..Said'. Prove '..Said' where nothing that the law and all that it calls make is longer than what came in: it says more and counts as full. Else prove '..UptoSaid'. A law counts once. -/
mutual
def uptoBulk {H : Type} : DataW H → Nat
  | .lit (.string bytes) => bytes.length + 1
  | .lit _ => 1
  | .nil => 1
  | .ptr d => uptoBulk d + 1
  | .slice elems spare => uptoBulkAll elems + uptoBulkAll spare + 1
  | .agg parts => uptoBulkAll parts + 1
  | .iface _ d => uptoBulk d + 1
  | .map entries => uptoBulkEntries entries + 1
  | .held _ => 1
def uptoBulkAll {H : Type} : List (DataW H) → Nat
  | [] => 0
  | d :: r => uptoBulk d + uptoBulkAll r
def uptoBulkEntries {H : Type} : List (Lit × DataW H) → Nat
  | [] => 0
  | x :: r => uptoBulkEntry x + uptoBulkEntries r
def uptoBulkEntry {H : Type} : Lit × DataW H → Nat
  | (.string bytes, d) => bytes.length + uptoBulk d + 1
  | (_, d) => uptoBulk d + 1
 end
def uptoSmall : (H : Type) → List (DataW H) → Bool := fun _ ds => decide (uptoBulkAll ds ≤ 1048576)
def OpenSpec.upto (s : _root_.Go.ChangeSpec) : _root_.Go.OpenSpec := { _root_.Go.OpenSpec.ofChange s with cond := some uptoSmall }

/-- 'laws.FnExactTraces', WHERE WHAT IT READS IS OF BULK AT MOST 1048576: true; the input reads as it did. -/
def fnExactTracesUptoRow : OpenClaim := { program := "ytmfojbidojjciaagreat", sum := "c43ceb011cc6f8d0b9dcf8b911062427bf626263aea2176b9f644085ddd877c6", func := "loop.example/g00950/laws.FnExactTraces", spec := "fnExactTraces", inPlace := ["slices.overlaps[loop.example/g00950/impl.Ent]"], unfollowed := true, recurses := true, plainKeys := false, apart := false, narrowed := true }
def FnExactTracesUptoSaid : Prop := fnExactTracesUptoRow.holds Tryz.pinned (OpenSpec.upto fnExactTracesSpec)

/-- 'laws.FnExactAccounts', WHERE WHAT IT READS IS OF BULK AT MOST 1048576: true; the input reads as it did. -/
def fnExactAccountsUptoRow : OpenClaim := { program := "ytmfojbidojjciaagreat", sum := "c43ceb011cc6f8d0b9dcf8b911062427bf626263aea2176b9f644085ddd877c6", func := "loop.example/g00950/laws.FnExactAccounts", spec := "fnExactAccounts", inPlace := ["slices.overlaps[loop.example/g00950/impl.Ent]"], unfollowed := true, recurses := true, plainKeys := false, apart := false, narrowed := true }
def FnExactAccountsUptoSaid : Prop := fnExactAccountsUptoRow.holds Tryz.pinned (OpenSpec.upto fnExactAccountsSpec)

/-- 'laws.FnAccounts', WHERE WHAT IT READS IS OF BULK AT MOST 1048576: true; the input reads as it did. -/
def fnAccountsUptoRow : OpenClaim := { program := "ytmfojbidojjciaagreat", sum := "c43ceb011cc6f8d0b9dcf8b911062427bf626263aea2176b9f644085ddd877c6", func := "loop.example/g00950/laws.FnAccounts", spec := "fnAccounts", inPlace := ["slices.overlaps[loop.example/g00950/impl.Ent]"], unfollowed := true, recurses := true, plainKeys := false, apart := false, narrowed := true }
def FnAccountsUptoSaid : Prop := fnAccountsUptoRow.holds Tryz.pinned (OpenSpec.upto fnAccountsSpec)

/-- 'laws.FnOnce', WHERE WHAT IT READS IS OF BULK AT MOST 1048576: true; the input reads as it did. -/
def fnOnceUptoRow : OpenClaim := { program := "ytmfojbidojjciaagreat", sum := "c43ceb011cc6f8d0b9dcf8b911062427bf626263aea2176b9f644085ddd877c6", func := "loop.example/g00950/laws.FnOnce", spec := "fnOnce", inPlace := ["slices.overlaps[loop.example/g00950/impl.Share]", "slices.overlaps[loop.example/g00950/impl.KeySlot]", "slices.overlaps[loop.example/g00950/impl.STen]", "slices.overlaps[[]loop.example/g00950/impl.Ent]", "internal/bytealg.abigen_runtime_cmpstring", "slices.overlaps[loop.example/g00950/impl.KV]", "slices.overlaps[loop.example/g00950/impl.Ent]", "internal/abi.NoEscape"], unfollowed := true, recurses := true, plainKeys := false, apart := false, narrowed := true }
def FnOnceUptoSaid : Prop := fnOnceUptoRow.holds Tryz.pinned (OpenSpec.upto fnOnceSpec)

/-- 'laws.FnShred', WHERE WHAT IT READS IS OF BULK AT MOST 1048576: true; the input reads as it did. -/
def fnShredUptoRow : OpenClaim := { program := "ytmfojbidojjciaagreat", sum := "c43ceb011cc6f8d0b9dcf8b911062427bf626263aea2176b9f644085ddd877c6", func := "loop.example/g00950/laws.FnShred", spec := "fnShred", inPlace := ["slices.overlaps[loop.example/g00950/impl.Share]", "slices.overlaps[loop.example/g00950/impl.KeySlot]", "slices.overlaps[loop.example/g00950/impl.STen]", "slices.overlaps[[]loop.example/g00950/impl.Ent]", "internal/bytealg.abigen_runtime_cmpstring", "slices.overlaps[loop.example/g00950/impl.KV]", "slices.overlaps[loop.example/g00950/impl.Ent]", "internal/abi.NoEscape"], unfollowed := true, recurses := true, plainKeys := false, apart := false, narrowed := true }
def FnShredUptoSaid : Prop := fnShredUptoRow.holds Tryz.pinned (OpenSpec.upto fnShredSpec)

end Rows
end Go.Proofs.YtmfojbidojjciaaGreat
