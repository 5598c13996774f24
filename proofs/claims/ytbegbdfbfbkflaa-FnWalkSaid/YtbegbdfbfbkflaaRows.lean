/-
  No cell of these rows narrows 'for every input' (looked for: loops, veiled, ifaces, maps, wideKeys, modest, calm, conditions, laid).
  DERIVED. THE GIVEN ROWS OF THIS SEAT. 8 by the template 'for every input the law returns true; each argument reads behind the call as it read before'; 0 by the template 'total and deterministic' (their statements: YtbegbdfbfbkflaaTotals.lean).
  GIVEN WITH THE SEED: the statements are not yours to turn. If you find one false, say at which input.
  Laid BY PROGRAM, IN A SANDBOX (cutbox-rows.mjs): the forced cells as the released guide's own fill.sh prints them over the translation 9ee4ba5442c74543… (all of the seat's roots in one cut). By AI agents, Wed Nov 11 2026. No macro, syntax, notation, axiom, sorry.
-/
import Derived.Test.YtbegbdfbfbkflaaChecked
import GoSem.Claim
import GoSem.ClaimJoined
import GoSem.ClaimMapViews
import Derived.JoinedTies
import Derived.KernelRfl
namespace Go.Proofs.Ytbegbdfbfbkflaa
/- THE CELL 'sum', in the pinned program and in every row, IS THE sha256 OF THE DUMP (.gsa) THAT YtbegbdfbfbkflaaProg.lean LOADS. Nothing in Lean hashes anything: it is a label: what it is worth is what the hold of that sum in a sandbox is worth. -/
noncomputable def Try.pinned : Pinned := { name := "ytbegbdfbfbkflaa", sum := "9ee4ba5442c74543cc7d547e50a2f294045e1ff9f37c1dd1112683860202bd6b", checked := Try.checked }
namespace Rows
def none {H : Type} : Left H := { results := [], args := [] }

/-- 'laws.FnChainLog': WHATEVER THE INPUT: true; the input reads as it did. -/
def fnChainLogSpec : ChangeSpec := { name := "fnChainLog", fn := fun _ => fun
  | [d] => { results := [.lit (.bool true)], args := [d] }
  | _ => none }
def fnChainLogRow : OpenClaim := { program := "ytbegbdfbfbkflaa", sum := "9ee4ba5442c74543cc7d547e50a2f294045e1ff9f37c1dd1112683860202bd6b", func := "loop.example/g00950/laws.FnChainLog", spec := "fnChainLog", inPlace := ["internal/abi.NoEscape", "internal/bytealg.MakeNoZero"], unfollowed := true, recurses := true, apart := false }
def FnChainLogSaid : Prop := fnChainLogRow.holds Try.pinned (OpenSpec.ofChange fnChainLogSpec)

/-- ITS FALSE NEIGHBOUR: 'it returns false'. Refute it at one input. -/
def fnChainLogWrong : ChangeSpec := { name := "fnChainLog", fn := fun _ => fun
  | [d] => { results := [.lit (.bool false)], args := [d] }
  | _ => none }
def FnChainLogWrongFalsely : Prop := fnChainLogRow.holds Try.pinned (OpenSpec.ofChange fnChainLogWrong)

/-- 'laws.FnFStore': WHATEVER THE INPUT: true; the input reads as it did. -/
def fnFStoreSpec : ChangeSpec := { name := "fnFStore", fn := fun _ => fun
  | [d] => { results := [.lit (.bool true)], args := [d] }
  | _ => none }
def fnFStoreRow : OpenClaim := { program := "ytbegbdfbfbkflaa", sum := "9ee4ba5442c74543cc7d547e50a2f294045e1ff9f37c1dd1112683860202bd6b", func := "loop.example/g00950/laws.FnFStore", spec := "fnFStore", inPlace := ["internal/abi.NoEscape", "internal/bytealg.MakeNoZero"], unfollowed := true, recurses := true, apart := false }
def FnFStoreSaid : Prop := fnFStoreRow.holds Try.pinned (OpenSpec.ofChange fnFStoreSpec)

/-- ITS FALSE NEIGHBOUR: 'it returns false'. Refute it at one input. -/
def fnFStoreWrong : ChangeSpec := { name := "fnFStore", fn := fun _ => fun
  | [d] => { results := [.lit (.bool false)], args := [d] }
  | _ => none }
def FnFStoreWrongFalsely : Prop := fnFStoreRow.holds Try.pinned (OpenSpec.ofChange fnFStoreWrong)

/-- 'laws.FnFiled': WHATEVER THE INPUT: true; the input reads as it did. -/
def fnFiledSpec : ChangeSpec := { name := "fnFiled", fn := fun _ => fun
  | [d] => { results := [.lit (.bool true)], args := [d] }
  | _ => none }
def fnFiledRow : OpenClaim := { program := "ytbegbdfbfbkflaa", sum := "9ee4ba5442c74543cc7d547e50a2f294045e1ff9f37c1dd1112683860202bd6b", func := "loop.example/g00950/laws.FnFiled", spec := "fnFiled", inPlace := ["internal/abi.NoEscape", "internal/bytealg.MakeNoZero"], unfollowed := true, recurses := true, apart := false }
def FnFiledSaid : Prop := fnFiledRow.holds Try.pinned (OpenSpec.ofChange fnFiledSpec)

/-- ITS FALSE NEIGHBOUR: 'it returns false'. Refute it at one input. -/
def fnFiledWrong : ChangeSpec := { name := "fnFiled", fn := fun _ => fun
  | [d] => { results := [.lit (.bool false)], args := [d] }
  | _ => none }
def FnFiledWrongFalsely : Prop := fnFiledRow.holds Try.pinned (OpenSpec.ofChange fnFiledWrong)

/-- 'laws.FnWalk': WHATEVER THE INPUT: true; the input reads as it did. -/
def fnWalkSpec : ChangeSpec := { name := "fnWalk", fn := fun _ => fun
  | [d] => { results := [.lit (.bool true)], args := [d] }
  | _ => none }
def fnWalkRow : OpenClaim := { program := "ytbegbdfbfbkflaa", sum := "9ee4ba5442c74543cc7d547e50a2f294045e1ff9f37c1dd1112683860202bd6b", func := "loop.example/g00950/laws.FnWalk", spec := "fnWalk", inPlace := ["internal/bytealg.abigen_runtime_cmpstring"], unfollowed := true, recurses := true, apart := false }
def FnWalkSaid : Prop := fnWalkRow.holds Try.pinned (OpenSpec.ofChange fnWalkSpec)

/-- ITS FALSE NEIGHBOUR: 'it returns false'. Refute it at one input. -/
def fnWalkWrong : ChangeSpec := { name := "fnWalk", fn := fun _ => fun
  | [d] => { results := [.lit (.bool false)], args := [d] }
  | _ => none }
def FnWalkWrongFalsely : Prop := fnWalkRow.holds Try.pinned (OpenSpec.ofChange fnWalkWrong)

/-- 'laws.FnExactWalkSeek': WHATEVER THE INPUT: true; the input reads as it did. -/
def fnExactWalkSeekSpec : ChangeSpec := { name := "fnExactWalkSeek", fn := fun _ => fun
  | [d1, d2] => { results := [.lit (.bool true)], args := [d1, d2] }
  | _ => none }
def fnExactWalkSeekRow : OpenClaim := { program := "ytbegbdfbfbkflaa", sum := "9ee4ba5442c74543cc7d547e50a2f294045e1ff9f37c1dd1112683860202bd6b", func := "loop.example/g00950/laws.FnExactWalkSeek", spec := "fnExactWalkSeek", inPlace := ["internal/bytealg.abigen_runtime_cmpstring"], unfollowed := true, recurses := true, apart := false }
def FnExactWalkSeekSaid : Prop := fnExactWalkSeekRow.holds Try.pinned (OpenSpec.ofChange fnExactWalkSeekSpec)

/-- ITS FALSE NEIGHBOUR: 'it returns false'. Refute it at one input. -/
def fnExactWalkSeekWrong : ChangeSpec := { name := "fnExactWalkSeek", fn := fun _ => fun
  | [d1, d2] => { results := [.lit (.bool false)], args := [d1, d2] }
  | _ => none }
def FnExactWalkSeekWrongFalsely : Prop := fnExactWalkSeekRow.holds Try.pinned (OpenSpec.ofChange fnExactWalkSeekWrong)

/-- 'laws.FnExactWalkPrev': WHATEVER THE INPUT: true; the input reads as it did. -/
def fnExactWalkPrevSpec : ChangeSpec := { name := "fnExactWalkPrev", fn := fun _ => fun
  | [d] => { results := [.lit (.bool true)], args := [d] }
  | _ => none }
def fnExactWalkPrevRow : OpenClaim := { program := "ytbegbdfbfbkflaa", sum := "9ee4ba5442c74543cc7d547e50a2f294045e1ff9f37c1dd1112683860202bd6b", func := "loop.example/g00950/laws.FnExactWalkPrev", spec := "fnExactWalkPrev", inPlace := ["internal/bytealg.abigen_runtime_cmpstring"], unfollowed := true, recurses := true, apart := false }
def FnExactWalkPrevSaid : Prop := fnExactWalkPrevRow.holds Try.pinned (OpenSpec.ofChange fnExactWalkPrevSpec)

/-- ITS FALSE NEIGHBOUR: 'it returns false'. Refute it at one input. -/
def fnExactWalkPrevWrong : ChangeSpec := { name := "fnExactWalkPrev", fn := fun _ => fun
  | [d] => { results := [.lit (.bool false)], args := [d] }
  | _ => none }
def FnExactWalkPrevWrongFalsely : Prop := fnExactWalkPrevRow.holds Try.pinned (OpenSpec.ofChange fnExactWalkPrevWrong)

/-- 'laws.FnExactWalkNext': WHATEVER THE INPUT: true; the input reads as it did. -/
def fnExactWalkNextSpec : ChangeSpec := { name := "fnExactWalkNext", fn := fun _ => fun
  | [d] => { results := [.lit (.bool true)], args := [d] }
  | _ => none }
def fnExactWalkNextRow : OpenClaim := { program := "ytbegbdfbfbkflaa", sum := "9ee4ba5442c74543cc7d547e50a2f294045e1ff9f37c1dd1112683860202bd6b", func := "loop.example/g00950/laws.FnExactWalkNext", spec := "fnExactWalkNext", inPlace := ["internal/bytealg.abigen_runtime_cmpstring"], unfollowed := true, recurses := true, apart := false }
def FnExactWalkNextSaid : Prop := fnExactWalkNextRow.holds Try.pinned (OpenSpec.ofChange fnExactWalkNextSpec)

/-- ITS FALSE NEIGHBOUR: 'it returns false'. Refute it at one input. -/
def fnExactWalkNextWrong : ChangeSpec := { name := "fnExactWalkNext", fn := fun _ => fun
  | [d] => { results := [.lit (.bool false)], args := [d] }
  | _ => none }
def FnExactWalkNextWrongFalsely : Prop := fnExactWalkNextRow.holds Try.pinned (OpenSpec.ofChange fnExactWalkNextWrong)

/-- 'laws.FnDelta': WHATEVER THE INPUT: true; the input reads as it did. -/
def fnDeltaSpec : ChangeSpec := { name := "fnDelta", fn := fun _ => fun
  | [d] => { results := [.lit (.bool true)], args := [d] }
  | _ => none }
def fnDeltaRow : OpenClaim := { program := "ytbegbdfbfbkflaa", sum := "9ee4ba5442c74543cc7d547e50a2f294045e1ff9f37c1dd1112683860202bd6b", func := "loop.example/g00950/laws.FnDelta", spec := "fnDelta", inPlace := ["internal/bytealg.abigen_runtime_cmpstring", "internal/abi.NoEscape", "slices.overlaps[loop.example/g00950/impl.KV]"], unfollowed := true, recurses := true, apart := false }
def FnDeltaSaid : Prop := fnDeltaRow.holds Try.pinned (OpenSpec.ofChange fnDeltaSpec)

/-- ITS FALSE NEIGHBOUR: 'it returns false'. Refute it at one input. -/
def fnDeltaWrong : ChangeSpec := { name := "fnDelta", fn := fun _ => fun
  | [d] => { results := [.lit (.bool false)], args := [d] }
  | _ => none }
def FnDeltaWrongFalsely : Prop := fnDeltaRow.holds Try.pinned (OpenSpec.ofChange fnDeltaWrong)

/- THE SECOND FORM. 'bulk': how many values and letters a reading holds, each counted each time it is reached (what is shared counts as often as it is met; a slice's spare places count too). A statement '..UptoSaid' is the law's where the arguments, and the package variables that the reading takes, are together of bulk at most 1048576: NARROWER than '..Said'. Prove '..Said' where nothing that the law and all that it calls make is longer than what came in: it says more and counts as full. Else prove '..UptoSaid'. A law counts once. -/
mutual
def uptoBulk {H : Type} : DataW H → Nat
  | .lit (.string bytes) => bytes.length + 1
  | .lit _ => 1
  | .nil => 1
  | .ptr d => uptoBulk d + 1
  | .slice elems spare => uptoBulkAll elems + uptoBulkAll spare + 1
  | .agg parts => uptoBulkAll parts + 1
  | .iface _ d => uptoBulk d + 1
  | .map entries => uptoBulkEntries entries + 1
  | .held _ => 1
def uptoBulkAll {H : Type} : List (DataW H) → Nat
  | [] => 0
  | d :: r => uptoBulk d + uptoBulkAll r
def uptoBulkEntries {H : Type} : List (Lit × DataW H) → Nat
  | [] => 0
  | x :: r => uptoBulkEntry x + uptoBulkEntries r
def uptoBulkEntry {H : Type} : Lit × DataW H → Nat
  | (.string bytes, d) => bytes.length + uptoBulk d + 1
  | (_, d) => uptoBulk d + 1
 end
def uptoSmall : (H : Type) → List (DataW H) → Bool := fun _ ds => decide (uptoBulkAll ds ≤ 1048576)
def OpenSpec.upto (s : _root_.Go.ChangeSpec) : _root_.Go.OpenSpec := { _root_.Go.OpenSpec.ofChange s with cond := some uptoSmall }

/-- 'laws.FnChainLog', WHERE WHAT IT READS IS OF BULK AT MOST 1048576: true; the input reads as it did. -/
def fnChainLogUptoRow : OpenClaim := { program := "ytbegbdfbfbkflaa", sum := "9ee4ba5442c74543cc7d547e50a2f294045e1ff9f37c1dd1112683860202bd6b", func := "loop.example/g00950/laws.FnChainLog", spec := "fnChainLog", inPlace := ["internal/abi.NoEscape", "internal/bytealg.MakeNoZero"], unfollowed := true, recurses := true, apart := false, narrowed := true }
def FnChainLogUptoSaid : Prop := fnChainLogUptoRow.holds Try.pinned (OpenSpec.upto fnChainLogSpec)

/-- 'laws.FnFStore', WHERE WHAT IT READS IS OF BULK AT MOST 1048576: true; the input reads as it did. -/
def fnFStoreUptoRow : OpenClaim := { program := "ytbegbdfbfbkflaa", sum := "9ee4ba5442c74543cc7d547e50a2f294045e1ff9f37c1dd1112683860202bd6b", func := "loop.example/g00950/laws.FnFStore", spec := "fnFStore", inPlace := ["internal/abi.NoEscape", "internal/bytealg.MakeNoZero"], unfollowed := true, recurses := true, apart := false, narrowed := true }
def FnFStoreUptoSaid : Prop := fnFStoreUptoRow.holds Try.pinned (OpenSpec.upto fnFStoreSpec)

/-- 'laws.FnFiled', WHERE WHAT IT READS IS OF BULK AT MOST 1048576: true; the input reads as it did. -/
def fnFiledUptoRow : OpenClaim := { program := "ytbegbdfbfbkflaa", sum := "9ee4ba5442c74543cc7d547e50a2f294045e1ff9f37c1dd1112683860202bd6b", func := "loop.example/g00950/laws.FnFiled", spec := "fnFiled", inPlace := ["internal/abi.NoEscape", "internal/bytealg.MakeNoZero"], unfollowed := true, recurses := true, apart := false, narrowed := true }
def FnFiledUptoSaid : Prop := fnFiledUptoRow.holds Try.pinned (OpenSpec.upto fnFiledSpec)

/-- 'laws.FnWalk', WHERE WHAT IT READS IS OF BULK AT MOST 1048576: true; the input reads as it did. -/
def fnWalkUptoRow : OpenClaim := { program := "ytbegbdfbfbkflaa", sum := "9ee4ba5442c74543cc7d547e50a2f294045e1ff9f37c1dd1112683860202bd6b", func := "loop.example/g00950/laws.FnWalk", spec := "fnWalk", inPlace := ["internal/bytealg.abigen_runtime_cmpstring"], unfollowed := true, recurses := true, apart := false, narrowed := true }
def FnWalkUptoSaid : Prop := fnWalkUptoRow.holds Try.pinned (OpenSpec.upto fnWalkSpec)

/-- 'laws.FnExactWalkSeek', WHERE WHAT IT READS IS OF BULK AT MOST 1048576: true; the input reads as it did. -/
def fnExactWalkSeekUptoRow : OpenClaim := { program := "ytbegbdfbfbkflaa", sum := "9ee4ba5442c74543cc7d547e50a2f294045e1ff9f37c1dd1112683860202bd6b", func := "loop.example/g00950/laws.FnExactWalkSeek", spec := "fnExactWalkSeek", inPlace := ["internal/bytealg.abigen_runtime_cmpstring"], unfollowed := true, recurses := true, apart := false, narrowed := true }
def FnExactWalkSeekUptoSaid : Prop := fnExactWalkSeekUptoRow.holds Try.pinned (OpenSpec.upto fnExactWalkSeekSpec)

/-- 'laws.FnExactWalkPrev', WHERE WHAT IT READS IS OF BULK AT MOST 1048576: true; the input reads as it did. -/
def fnExactWalkPrevUptoRow : OpenClaim := { program := "ytbegbdfbfbkflaa", sum := "9ee4ba5442c74543cc7d547e50a2f294045e1ff9f37c1dd1112683860202bd6b", func := "loop.example/g00950/laws.FnExactWalkPrev", spec := "fnExactWalkPrev", inPlace := ["internal/bytealg.abigen_runtime_cmpstring"], unfollowed := true, recurses := true, apart := false, narrowed := true }
def FnExactWalkPrevUptoSaid : Prop := fnExactWalkPrevUptoRow.holds Try.pinned (OpenSpec.upto fnExactWalkPrevSpec)

/-- 'laws.FnExactWalkNext', WHERE WHAT IT READS IS OF BULK AT MOST 1048576: true; the input reads as it did. -/
def fnExactWalkNextUptoRow : OpenClaim := { program := "ytbegbdfbfbkflaa", sum := "9ee4ba5442c74543cc7d547e50a2f294045e1ff9f37c1dd1112683860202bd6b", func := "loop.example/g00950/laws.FnExactWalkNext", spec := "fnExactWalkNext", inPlace := ["internal/bytealg.abigen_runtime_cmpstring"], unfollowed := true, recurses := true, apart := false, narrowed := true }
def FnExactWalkNextUptoSaid : Prop := fnExactWalkNextUptoRow.holds Try.pinned (OpenSpec.upto fnExactWalkNextSpec)

/-- 'laws.FnDelta', WHERE WHAT IT READS IS OF BULK AT MOST 1048576: true; the input reads as it did. -/
def fnDeltaUptoRow : OpenClaim := { program := "ytbegbdfbfbkflaa", sum := "9ee4ba5442c74543cc7d547e50a2f294045e1ff9f37c1dd1112683860202bd6b", func := "loop.example/g00950/laws.FnDelta", spec := "fnDelta", inPlace := ["internal/bytealg.abigen_runtime_cmpstring", "internal/abi.NoEscape", "slices.overlaps[loop.example/g00950/impl.KV]"], unfollowed := true, recurses := true, apart := false, narrowed := true }
def FnDeltaUptoSaid : Prop := fnDeltaUptoRow.holds Try.pinned (OpenSpec.upto fnDeltaSpec)

end Rows
end Go.Proofs.Ytbegbdfbfbkflaa
