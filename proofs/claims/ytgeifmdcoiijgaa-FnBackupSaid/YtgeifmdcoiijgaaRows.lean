/-
  No cell of these rows narrows 'for every input' (looked for: loops, veiled, ifaces, maps, wideKeys, modest, calm, conditions, laid).
  DERIVED. THE GIVEN ROWS OF THIS SEAT. 18 by the template 'for every input the law returns true; each argument reads behind the call as it read before'; 0 by the template 'total and deterministic' (their statements: YtgeifmdcoiijgaaTotals.lean).
  GIVEN WITH THE SEED: the statements are not yours to turn. If you find one false, say at which input.
  Laid BY PROGRAM, IN A SANDBOX (cutbox-rows.mjs): the forced cells as the released guide's own fill.sh prints them over the translation dab2379588f6dd8c… (all of the seat's roots in one cut). By AI agents, Wed Nov 11 2026. No macro, syntax, notation, axiom, sorry.
-/
import Derived.Test.YtgeifmdcoiijgaaChecked
import GoSem.Claim
import GoSem.ClaimJoined
import GoSem.ClaimMapViews
import Derived.JoinedTies
import Derived.KernelRfl
namespace Go.Proofs.Ytgeifmdcoiijgaa
/- THE CELL 'sum', in the pinned program and in every row, IS THE sha256 OF THE DUMP (.gsa) THAT YtgeifmdcoiijgaaProg.lean LOADS. Nothing in Lean hashes anything: it is a label: what it is worth is what the hold of that sum in a sandbox is worth. -/
noncomputable def Try.pinned : Pinned := { name := "ytgeifmdcoiijgaa", sum := "dab2379588f6dd8c14c76a6c075ef615449fa76e298b435aec0b91c6cb1af155", checked := Try.checked }
namespace Rows
def none {H : Type} : Left H := { results := [], args := [] }

/-- 'laws.FnExactFsNew': WHATEVER THE INPUT: true; the input reads as it did. -/
def fnExactFsNewSpec : ChangeSpec := { name := "fnExactFsNew", fn := fun _ => fun
  | [] => { results := [.lit (.bool true)], args := [] }
  | _ => none }
def fnExactFsNewRow : OpenClaim := { program := "ytgeifmdcoiijgaa", sum := "dab2379588f6dd8c14c76a6c075ef615449fa76e298b435aec0b91c6cb1af155", func := "loop.example/g00950/laws.FnExactFsNew", spec := "fnExactFsNew", inPlace := ["internal/abi.NoEscape", "internal/bytealg.MakeNoZero"], apart := false }
def FnExactFsNewSaid : Prop := fnExactFsNewRow.holds Try.pinned (OpenSpec.ofChange fnExactFsNewSpec)

/-- ITS FALSE NEIGHBOUR: 'it returns false'. Refute it at one input. -/
def fnExactFsNewWrong : ChangeSpec := { name := "fnExactFsNew", fn := fun _ => fun
  | [] => { results := [.lit (.bool false)], args := [] }
  | _ => none }
def FnExactFsNewWrongFalsely : Prop := fnExactFsNewRow.holds Try.pinned (OpenSpec.ofChange fnExactFsNewWrong)

/-- 'laws.FnExactWalkNew': WHATEVER THE INPUT: true; the input reads as it did. -/
def fnExactWalkNewSpec : ChangeSpec := { name := "fnExactWalkNew", fn := fun _ => fun
  | [d1, d2] => { results := [.lit (.bool true)], args := [d1, d2] }
  | _ => none }
def fnExactWalkNewRow : OpenClaim := { program := "ytgeifmdcoiijgaa", sum := "dab2379588f6dd8c14c76a6c075ef615449fa76e298b435aec0b91c6cb1af155", func := "loop.example/g00950/laws.FnExactWalkNew", spec := "fnExactWalkNew", apart := false }
def FnExactWalkNewSaid : Prop := fnExactWalkNewRow.holds Try.pinned (OpenSpec.ofChange fnExactWalkNewSpec)

/-- ITS FALSE NEIGHBOUR: 'it returns false'. Refute it at one input. -/
def fnExactWalkNewWrong : ChangeSpec := { name := "fnExactWalkNew", fn := fun _ => fun
  | [d1, d2] => { results := [.lit (.bool false)], args := [d1, d2] }
  | _ => none }
def FnExactWalkNewWrongFalsely : Prop := fnExactWalkNewRow.holds Try.pinned (OpenSpec.ofChange fnExactWalkNewWrong)

/-- 'laws.FnExactFsOk': WHATEVER THE INPUT: true; the input reads as it did. -/
def fnExactFsOkSpec : ChangeSpec := { name := "fnExactFsOk", fn := fun _ => fun
  | [d] => { results := [.lit (.bool true)], args := [d] }
  | _ => none }
def fnExactFsOkRow : OpenClaim := { program := "ytgeifmdcoiijgaa", sum := "dab2379588f6dd8c14c76a6c075ef615449fa76e298b435aec0b91c6cb1af155", func := "loop.example/g00950/laws.FnExactFsOk", spec := "fnExactFsOk", inPlace := ["internal/abi.NoEscape", "internal/bytealg.MakeNoZero"], apart := false }
def FnExactFsOkSaid : Prop := fnExactFsOkRow.holds Try.pinned (OpenSpec.ofChange fnExactFsOkSpec)

/-- ITS FALSE NEIGHBOUR: 'it returns false'. Refute it at one input. -/
def fnExactFsOkWrong : ChangeSpec := { name := "fnExactFsOk", fn := fun _ => fun
  | [d] => { results := [.lit (.bool false)], args := [d] }
  | _ => none }
def FnExactFsOkWrongFalsely : Prop := fnExactFsOkRow.holds Try.pinned (OpenSpec.ofChange fnExactFsOkWrong)

/-- 'laws.FnExactFsUsed': WHATEVER THE INPUT: true; the input reads as it did. -/
def fnExactFsUsedSpec : ChangeSpec := { name := "fnExactFsUsed", fn := fun _ => fun
  | [d1, d2] => { results := [.lit (.bool true)], args := [d1, d2] }
  | _ => none }
def fnExactFsUsedRow : OpenClaim := { program := "ytgeifmdcoiijgaa", sum := "dab2379588f6dd8c14c76a6c075ef615449fa76e298b435aec0b91c6cb1af155", func := "loop.example/g00950/laws.FnExactFsUsed", spec := "fnExactFsUsed", inPlace := ["internal/abi.NoEscape", "internal/bytealg.MakeNoZero"], apart := false }
def FnExactFsUsedSaid : Prop := fnExactFsUsedRow.holds Try.pinned (OpenSpec.ofChange fnExactFsUsedSpec)

/-- ITS FALSE NEIGHBOUR: 'it returns false'. Refute it at one input. -/
def fnExactFsUsedWrong : ChangeSpec := { name := "fnExactFsUsed", fn := fun _ => fun
  | [d1, d2] => { results := [.lit (.bool false)], args := [d1, d2] }
  | _ => none }
def FnExactFsUsedWrongFalsely : Prop := fnExactFsUsedRow.holds Try.pinned (OpenSpec.ofChange fnExactFsUsedWrong)

/-- 'laws.FnFStore': WHATEVER THE INPUT: true; the input reads as it did. -/
def fnFStoreSpec : ChangeSpec := { name := "fnFStore", fn := fun _ => fun
  | [d] => { results := [.lit (.bool true)], args := [d] }
  | _ => none }
def fnFStoreRow : OpenClaim := { program := "ytgeifmdcoiijgaa", sum := "dab2379588f6dd8c14c76a6c075ef615449fa76e298b435aec0b91c6cb1af155", func := "loop.example/g00950/laws.FnFStore", spec := "fnFStore", inPlace := ["internal/abi.NoEscape", "internal/bytealg.MakeNoZero"], unfollowed := true, recurses := true, apart := false }
def FnFStoreSaid : Prop := fnFStoreRow.holds Try.pinned (OpenSpec.ofChange fnFStoreSpec)

/-- ITS FALSE NEIGHBOUR: 'it returns false'. Refute it at one input. -/
def fnFStoreWrong : ChangeSpec := { name := "fnFStore", fn := fun _ => fun
  | [d] => { results := [.lit (.bool false)], args := [d] }
  | _ => none }
def FnFStoreWrongFalsely : Prop := fnFStoreRow.holds Try.pinned (OpenSpec.ofChange fnFStoreWrong)

/-- 'laws.FnExactFsRead': WHATEVER THE INPUT: true; the input reads as it did. -/
def fnExactFsReadSpec : ChangeSpec := { name := "fnExactFsRead", fn := fun _ => fun
  | [d1, d2] => { results := [.lit (.bool true)], args := [d1, d2] }
  | _ => none }
def fnExactFsReadRow : OpenClaim := { program := "ytgeifmdcoiijgaa", sum := "dab2379588f6dd8c14c76a6c075ef615449fa76e298b435aec0b91c6cb1af155", func := "loop.example/g00950/laws.FnExactFsRead", spec := "fnExactFsRead", inPlace := ["internal/abi.NoEscape", "internal/bytealg.MakeNoZero"], unfollowed := true, recurses := true, apart := false }
def FnExactFsReadSaid : Prop := fnExactFsReadRow.holds Try.pinned (OpenSpec.ofChange fnExactFsReadSpec)

/-- ITS FALSE NEIGHBOUR: 'it returns false'. Refute it at one input. -/
def fnExactFsReadWrong : ChangeSpec := { name := "fnExactFsRead", fn := fun _ => fun
  | [d1, d2] => { results := [.lit (.bool false)], args := [d1, d2] }
  | _ => none }
def FnExactFsReadWrongFalsely : Prop := fnExactFsReadRow.holds Try.pinned (OpenSpec.ofChange fnExactFsReadWrong)

/-- 'laws.FnExactFsCreate': WHATEVER THE INPUT: true; the input reads as it did. -/
def fnExactFsCreateSpec : ChangeSpec := { name := "fnExactFsCreate", fn := fun _ => fun
  | [d1, d2] => { results := [.lit (.bool true)], args := [d1, d2] }
  | _ => none }
def fnExactFsCreateRow : OpenClaim := { program := "ytgeifmdcoiijgaa", sum := "dab2379588f6dd8c14c76a6c075ef615449fa76e298b435aec0b91c6cb1af155", func := "loop.example/g00950/laws.FnExactFsCreate", spec := "fnExactFsCreate", inPlace := ["internal/abi.NoEscape", "internal/bytealg.MakeNoZero"], apart := false }
def FnExactFsCreateSaid : Prop := fnExactFsCreateRow.holds Try.pinned (OpenSpec.ofChange fnExactFsCreateSpec)

/-- ITS FALSE NEIGHBOUR: 'it returns false'. Refute it at one input. -/
def fnExactFsCreateWrong : ChangeSpec := { name := "fnExactFsCreate", fn := fun _ => fun
  | [d1, d2] => { results := [.lit (.bool false)], args := [d1, d2] }
  | _ => none }
def FnExactFsCreateWrongFalsely : Prop := fnExactFsCreateRow.holds Try.pinned (OpenSpec.ofChange fnExactFsCreateWrong)

/-- 'laws.FnFiled': WHATEVER THE INPUT: true; the input reads as it did. -/
def fnFiledSpec : ChangeSpec := { name := "fnFiled", fn := fun _ => fun
  | [d] => { results := [.lit (.bool true)], args := [d] }
  | _ => none }
def fnFiledRow : OpenClaim := { program := "ytgeifmdcoiijgaa", sum := "dab2379588f6dd8c14c76a6c075ef615449fa76e298b435aec0b91c6cb1af155", func := "loop.example/g00950/laws.FnFiled", spec := "fnFiled", inPlace := ["internal/abi.NoEscape", "internal/bytealg.MakeNoZero"], unfollowed := true, recurses := true, apart := false }
def FnFiledSaid : Prop := fnFiledRow.holds Try.pinned (OpenSpec.ofChange fnFiledSpec)

/-- ITS FALSE NEIGHBOUR: 'it returns false'. Refute it at one input. -/
def fnFiledWrong : ChangeSpec := { name := "fnFiled", fn := fun _ => fun
  | [d] => { results := [.lit (.bool false)], args := [d] }
  | _ => none }
def FnFiledWrongFalsely : Prop := fnFiledRow.holds Try.pinned (OpenSpec.ofChange fnFiledWrong)

/-- 'laws.FnChainLog': WHATEVER THE INPUT: true; the input reads as it did. -/
def fnChainLogSpec : ChangeSpec := { name := "fnChainLog", fn := fun _ => fun
  | [d] => { results := [.lit (.bool true)], args := [d] }
  | _ => none }
def fnChainLogRow : OpenClaim := { program := "ytgeifmdcoiijgaa", sum := "dab2379588f6dd8c14c76a6c075ef615449fa76e298b435aec0b91c6cb1af155", func := "loop.example/g00950/laws.FnChainLog", spec := "fnChainLog", inPlace := ["internal/abi.NoEscape", "internal/bytealg.MakeNoZero"], unfollowed := true, recurses := true, apart := false }
def FnChainLogSaid : Prop := fnChainLogRow.holds Try.pinned (OpenSpec.ofChange fnChainLogSpec)

/-- ITS FALSE NEIGHBOUR: 'it returns false'. Refute it at one input. -/
def fnChainLogWrong : ChangeSpec := { name := "fnChainLog", fn := fun _ => fun
  | [d] => { results := [.lit (.bool false)], args := [d] }
  | _ => none }
def FnChainLogWrongFalsely : Prop := fnChainLogRow.holds Try.pinned (OpenSpec.ofChange fnChainLogWrong)

/-- 'laws.FnExactFsSeal': WHATEVER THE INPUT: true; the input reads as it did. -/
def fnExactFsSealSpec : ChangeSpec := { name := "fnExactFsSeal", fn := fun _ => fun
  | [d1, d2] => { results := [.lit (.bool true)], args := [d1, d2] }
  | _ => none }
def fnExactFsSealRow : OpenClaim := { program := "ytgeifmdcoiijgaa", sum := "dab2379588f6dd8c14c76a6c075ef615449fa76e298b435aec0b91c6cb1af155", func := "loop.example/g00950/laws.FnExactFsSeal", spec := "fnExactFsSeal", inPlace := ["internal/abi.NoEscape", "internal/bytealg.MakeNoZero"], unfollowed := true, recurses := true, apart := false }
def FnExactFsSealSaid : Prop := fnExactFsSealRow.holds Try.pinned (OpenSpec.ofChange fnExactFsSealSpec)

/-- ITS FALSE NEIGHBOUR: 'it returns false'. Refute it at one input. -/
def fnExactFsSealWrong : ChangeSpec := { name := "fnExactFsSeal", fn := fun _ => fun
  | [d1, d2] => { results := [.lit (.bool false)], args := [d1, d2] }
  | _ => none }
def FnExactFsSealWrongFalsely : Prop := fnExactFsSealRow.holds Try.pinned (OpenSpec.ofChange fnExactFsSealWrong)

/-- 'laws.FnExactFsDrop': WHATEVER THE INPUT: true; the input reads as it did. -/
def fnExactFsDropSpec : ChangeSpec := { name := "fnExactFsDrop", fn := fun _ => fun
  | [d1, d2] => { results := [.lit (.bool true)], args := [d1, d2] }
  | _ => none }
def fnExactFsDropRow : OpenClaim := { program := "ytgeifmdcoiijgaa", sum := "dab2379588f6dd8c14c76a6c075ef615449fa76e298b435aec0b91c6cb1af155", func := "loop.example/g00950/laws.FnExactFsDrop", spec := "fnExactFsDrop", inPlace := ["internal/abi.NoEscape", "internal/bytealg.MakeNoZero"], unfollowed := true, recurses := true, apart := false }
def FnExactFsDropSaid : Prop := fnExactFsDropRow.holds Try.pinned (OpenSpec.ofChange fnExactFsDropSpec)

/-- ITS FALSE NEIGHBOUR: 'it returns false'. Refute it at one input. -/
def fnExactFsDropWrong : ChangeSpec := { name := "fnExactFsDrop", fn := fun _ => fun
  | [d1, d2] => { results := [.lit (.bool false)], args := [d1, d2] }
  | _ => none }
def FnExactFsDropWrongFalsely : Prop := fnExactFsDropRow.holds Try.pinned (OpenSpec.ofChange fnExactFsDropWrong)

/-- 'laws.FnExactFsAppend': WHATEVER THE INPUT: true; the input reads as it did. -/
def fnExactFsAppendSpec : ChangeSpec := { name := "fnExactFsAppend", fn := fun _ => fun
  | [d1, d2, d3] => { results := [.lit (.bool true)], args := [d1, d2, d3] }
  | _ => none }
def fnExactFsAppendRow : OpenClaim := { program := "ytgeifmdcoiijgaa", sum := "dab2379588f6dd8c14c76a6c075ef615449fa76e298b435aec0b91c6cb1af155", func := "loop.example/g00950/laws.FnExactFsAppend", spec := "fnExactFsAppend", inPlace := ["internal/abi.NoEscape", "internal/bytealg.MakeNoZero"], unfollowed := true, recurses := true, apart := false }
def FnExactFsAppendSaid : Prop := fnExactFsAppendRow.holds Try.pinned (OpenSpec.ofChange fnExactFsAppendSpec)

/-- ITS FALSE NEIGHBOUR: 'it returns false'. Refute it at one input. -/
def fnExactFsAppendWrong : ChangeSpec := { name := "fnExactFsAppend", fn := fun _ => fun
  | [d1, d2, d3] => { results := [.lit (.bool false)], args := [d1, d2, d3] }
  | _ => none }
def FnExactFsAppendWrongFalsely : Prop := fnExactFsAppendRow.holds Try.pinned (OpenSpec.ofChange fnExactFsAppendWrong)

/-- 'laws.FnWalk': WHATEVER THE INPUT: true; the input reads as it did. -/
def fnWalkSpec : ChangeSpec := { name := "fnWalk", fn := fun _ => fun
  | [d] => { results := [.lit (.bool true)], args := [d] }
  | _ => none }
def fnWalkRow : OpenClaim := { program := "ytgeifmdcoiijgaa", sum := "dab2379588f6dd8c14c76a6c075ef615449fa76e298b435aec0b91c6cb1af155", func := "loop.example/g00950/laws.FnWalk", spec := "fnWalk", inPlace := ["internal/bytealg.abigen_runtime_cmpstring"], unfollowed := true, recurses := true, apart := false }
def FnWalkSaid : Prop := fnWalkRow.holds Try.pinned (OpenSpec.ofChange fnWalkSpec)

/-- ITS FALSE NEIGHBOUR: 'it returns false'. Refute it at one input. -/
def fnWalkWrong : ChangeSpec := { name := "fnWalk", fn := fun _ => fun
  | [d] => { results := [.lit (.bool false)], args := [d] }
  | _ => none }
def FnWalkWrongFalsely : Prop := fnWalkRow.holds Try.pinned (OpenSpec.ofChange fnWalkWrong)

/-- 'laws.FnExactWalkSeek': WHATEVER THE INPUT: true; the input reads as it did. -/
def fnExactWalkSeekSpec : ChangeSpec := { name := "fnExactWalkSeek", fn := fun _ => fun
  | [d1, d2] => { results := [.lit (.bool true)], args := [d1, d2] }
  | _ => none }
def fnExactWalkSeekRow : OpenClaim := { program := "ytgeifmdcoiijgaa", sum := "dab2379588f6dd8c14c76a6c075ef615449fa76e298b435aec0b91c6cb1af155", func := "loop.example/g00950/laws.FnExactWalkSeek", spec := "fnExactWalkSeek", inPlace := ["internal/bytealg.abigen_runtime_cmpstring"], unfollowed := true, recurses := true, apart := false }
def FnExactWalkSeekSaid : Prop := fnExactWalkSeekRow.holds Try.pinned (OpenSpec.ofChange fnExactWalkSeekSpec)

/-- ITS FALSE NEIGHBOUR: 'it returns false'. Refute it at one input. -/
def fnExactWalkSeekWrong : ChangeSpec := { name := "fnExactWalkSeek", fn := fun _ => fun
  | [d1, d2] => { results := [.lit (.bool false)], args := [d1, d2] }
  | _ => none }
def FnExactWalkSeekWrongFalsely : Prop := fnExactWalkSeekRow.holds Try.pinned (OpenSpec.ofChange fnExactWalkSeekWrong)

/-- 'laws.FnExactWalkPrev': WHATEVER THE INPUT: true; the input reads as it did. -/
def fnExactWalkPrevSpec : ChangeSpec := { name := "fnExactWalkPrev", fn := fun _ => fun
  | [d] => { results := [.lit (.bool true)], args := [d] }
  | _ => none }
def fnExactWalkPrevRow : OpenClaim := { program := "ytgeifmdcoiijgaa", sum := "dab2379588f6dd8c14c76a6c075ef615449fa76e298b435aec0b91c6cb1af155", func := "loop.example/g00950/laws.FnExactWalkPrev", spec := "fnExactWalkPrev", inPlace := ["internal/bytealg.abigen_runtime_cmpstring"], unfollowed := true, recurses := true, apart := false }
def FnExactWalkPrevSaid : Prop := fnExactWalkPrevRow.holds Try.pinned (OpenSpec.ofChange fnExactWalkPrevSpec)

/-- ITS FALSE NEIGHBOUR: 'it returns false'. Refute it at one input. -/
def fnExactWalkPrevWrong : ChangeSpec := { name := "fnExactWalkPrev", fn := fun _ => fun
  | [d] => { results := [.lit (.bool false)], args := [d] }
  | _ => none }
def FnExactWalkPrevWrongFalsely : Prop := fnExactWalkPrevRow.holds Try.pinned (OpenSpec.ofChange fnExactWalkPrevWrong)

/-- 'laws.FnExactWalkNext': WHATEVER THE INPUT: true; the input reads as it did. -/
def fnExactWalkNextSpec : ChangeSpec := { name := "fnExactWalkNext", fn := fun _ => fun
  | [d] => { results := [.lit (.bool true)], args := [d] }
  | _ => none }
def fnExactWalkNextRow : OpenClaim := { program := "ytgeifmdcoiijgaa", sum := "dab2379588f6dd8c14c76a6c075ef615449fa76e298b435aec0b91c6cb1af155", func := "loop.example/g00950/laws.FnExactWalkNext", spec := "fnExactWalkNext", inPlace := ["internal/bytealg.abigen_runtime_cmpstring"], unfollowed := true, recurses := true, apart := false }
def FnExactWalkNextSaid : Prop := fnExactWalkNextRow.holds Try.pinned (OpenSpec.ofChange fnExactWalkNextSpec)

/-- ITS FALSE NEIGHBOUR: 'it returns false'. Refute it at one input. -/
def fnExactWalkNextWrong : ChangeSpec := { name := "fnExactWalkNext", fn := fun _ => fun
  | [d] => { results := [.lit (.bool false)], args := [d] }
  | _ => none }
def FnExactWalkNextWrongFalsely : Prop := fnExactWalkNextRow.holds Try.pinned (OpenSpec.ofChange fnExactWalkNextWrong)

/-- 'laws.FnBackup': WHATEVER THE INPUT: true; the input reads as it did. -/
def fnBackupSpec : ChangeSpec := { name := "fnBackup", fn := fun _ => fun
  | [d] => { results := [.lit (.bool true)], args := [d] }
  | _ => none }
def fnBackupRow : OpenClaim := { program := "ytgeifmdcoiijgaa", sum := "dab2379588f6dd8c14c76a6c075ef615449fa76e298b435aec0b91c6cb1af155", func := "loop.example/g00950/laws.FnBackup", spec := "fnBackup", inPlace := ["internal/bytealg.abigen_runtime_cmpstring", "internal/abi.NoEscape", "slices.overlaps[loop.example/g00950/impl.KV]"], unfollowed := true, recurses := true, apart := false }
def FnBackupSaid : Prop := fnBackupRow.holds Try.pinned (OpenSpec.ofChange fnBackupSpec)

/-- ITS FALSE NEIGHBOUR: 'it returns false'. Refute it at one input. -/
def fnBackupWrong : ChangeSpec := { name := "fnBackup", fn := fun _ => fun
  | [d] => { results := [.lit (.bool false)], args := [d] }
  | _ => none }
def FnBackupWrongFalsely : Prop := fnBackupRow.holds Try.pinned (OpenSpec.ofChange fnBackupWrong)

/-- 'laws.FnDelta': WHATEVER THE INPUT: true; the input reads as it did. -/
def fnDeltaSpec : ChangeSpec := { name := "fnDelta", fn := fun _ => fun
  | [d] => { results := [.lit (.bool true)], args := [d] }
  | _ => none }
def fnDeltaRow : OpenClaim := { program := "ytgeifmdcoiijgaa", sum := "dab2379588f6dd8c14c76a6c075ef615449fa76e298b435aec0b91c6cb1af155", func := "loop.example/g00950/laws.FnDelta", spec := "fnDelta", inPlace := ["internal/bytealg.abigen_runtime_cmpstring", "internal/abi.NoEscape", "slices.overlaps[loop.example/g00950/impl.KV]"], unfollowed := true, recurses := true, apart := false }
def FnDeltaSaid : Prop := fnDeltaRow.holds Try.pinned (OpenSpec.ofChange fnDeltaSpec)

/-- ITS FALSE NEIGHBOUR: 'it returns false'. Refute it at one input. -/
def fnDeltaWrong : ChangeSpec := { name := "fnDelta", fn := fun _ => fun
  | [d] => { results := [.lit (.bool false)], args := [d] }
  | _ => none }
def FnDeltaWrongFalsely : Prop := fnDeltaRow.holds Try.pinned (OpenSpec.ofChange fnDeltaWrong)

/- THE SECOND FORM. 'bulk': how many values and letters a reading holds, each counted each time it is reached (what is shared counts as often as it is met; a slice's spare places count too). A statement '..UptoSaid' is the law's where the arguments, and the package variables that the reading takes, are together of bulk at most 1048576: NARROWER than '..Said'. Prove '..Said' where nothing that the law and all that it calls make is longer than what came in: it says more and counts as full. Else prove '..UptoSaid'. A law counts once. -/
mutual
def uptoBulk {H : Type} : DataW H → Nat
  | .lit (.string bytes) => bytes.length + 1
  | .lit _ => 1
  | .nil => 1
  | .ptr d => uptoBulk d + 1
  | .slice elems spare => uptoBulkAll elems + uptoBulkAll spare + 1
  | .agg parts => uptoBulkAll parts + 1
  | .iface _ d => uptoBulk d + 1
  | .map entries => uptoBulkEntries entries + 1
  | .held _ => 1
def uptoBulkAll {H : Type} : List (DataW H) → Nat
  | [] => 0
  | d :: r => uptoBulk d + uptoBulkAll r
def uptoBulkEntries {H : Type} : List (Lit × DataW H) → Nat
  | [] => 0
  | x :: r => uptoBulkEntry x + uptoBulkEntries r
def uptoBulkEntry {H : Type} : Lit × DataW H → Nat
  | (.string bytes, d) => bytes.length + uptoBulk d + 1
  | (_, d) => uptoBulk d + 1
 end
def uptoSmall : (H : Type) → List (DataW H) → Bool := fun _ ds => decide (uptoBulkAll ds ≤ 1048576)
def OpenSpec.upto (s : _root_.Go.ChangeSpec) : _root_.Go.OpenSpec := { _root_.Go.OpenSpec.ofChange s with cond := some uptoSmall }

/-- 'laws.FnExactFsNew', WHERE WHAT IT READS IS OF BULK AT MOST 1048576: true; the input reads as it did. -/
def fnExactFsNewUptoRow : OpenClaim := { program := "ytgeifmdcoiijgaa", sum := "dab2379588f6dd8c14c76a6c075ef615449fa76e298b435aec0b91c6cb1af155", func := "loop.example/g00950/laws.FnExactFsNew", spec := "fnExactFsNew", inPlace := ["internal/abi.NoEscape", "internal/bytealg.MakeNoZero"], apart := false, narrowed := true }
def FnExactFsNewUptoSaid : Prop := fnExactFsNewUptoRow.holds Try.pinned (OpenSpec.upto fnExactFsNewSpec)

/-- 'laws.FnExactWalkNew', WHERE WHAT IT READS IS OF BULK AT MOST 1048576: true; the input reads as it did. -/
def fnExactWalkNewUptoRow : OpenClaim := { program := "ytgeifmdcoiijgaa", sum := "dab2379588f6dd8c14c76a6c075ef615449fa76e298b435aec0b91c6cb1af155", func := "loop.example/g00950/laws.FnExactWalkNew", spec := "fnExactWalkNew", apart := false, narrowed := true }
def FnExactWalkNewUptoSaid : Prop := fnExactWalkNewUptoRow.holds Try.pinned (OpenSpec.upto fnExactWalkNewSpec)

/-- 'laws.FnExactFsOk', WHERE WHAT IT READS IS OF BULK AT MOST 1048576: true; the input reads as it did. -/
def fnExactFsOkUptoRow : OpenClaim := { program := "ytgeifmdcoiijgaa", sum := "dab2379588f6dd8c14c76a6c075ef615449fa76e298b435aec0b91c6cb1af155", func := "loop.example/g00950/laws.FnExactFsOk", spec := "fnExactFsOk", inPlace := ["internal/abi.NoEscape", "internal/bytealg.MakeNoZero"], apart := false, narrowed := true }
def FnExactFsOkUptoSaid : Prop := fnExactFsOkUptoRow.holds Try.pinned (OpenSpec.upto fnExactFsOkSpec)

/-- 'laws.FnExactFsUsed', WHERE WHAT IT READS IS OF BULK AT MOST 1048576: true; the input reads as it did. -/
def fnExactFsUsedUptoRow : OpenClaim := { program := "ytgeifmdcoiijgaa", sum := "dab2379588f6dd8c14c76a6c075ef615449fa76e298b435aec0b91c6cb1af155", func := "loop.example/g00950/laws.FnExactFsUsed", spec := "fnExactFsUsed", inPlace := ["internal/abi.NoEscape", "internal/bytealg.MakeNoZero"], apart := false, narrowed := true }
def FnExactFsUsedUptoSaid : Prop := fnExactFsUsedUptoRow.holds Try.pinned (OpenSpec.upto fnExactFsUsedSpec)

/-- 'laws.FnFStore', WHERE WHAT IT READS IS OF BULK AT MOST 1048576: true; the input reads as it did. -/
def fnFStoreUptoRow : OpenClaim := { program := "ytgeifmdcoiijgaa", sum := "dab2379588f6dd8c14c76a6c075ef615449fa76e298b435aec0b91c6cb1af155", func := "loop.example/g00950/laws.FnFStore", spec := "fnFStore", inPlace := ["internal/abi.NoEscape", "internal/bytealg.MakeNoZero"], unfollowed := true, recurses := true, apart := false, narrowed := true }
def FnFStoreUptoSaid : Prop := fnFStoreUptoRow.holds Try.pinned (OpenSpec.upto fnFStoreSpec)

/-- 'laws.FnExactFsRead', WHERE WHAT IT READS IS OF BULK AT MOST 1048576: true; the input reads as it did. -/
def fnExactFsReadUptoRow : OpenClaim := { program := "ytgeifmdcoiijgaa", sum := "dab2379588f6dd8c14c76a6c075ef615449fa76e298b435aec0b91c6cb1af155", func := "loop.example/g00950/laws.FnExactFsRead", spec := "fnExactFsRead", inPlace := ["internal/abi.NoEscape", "internal/bytealg.MakeNoZero"], unfollowed := true, recurses := true, apart := false, narrowed := true }
def FnExactFsReadUptoSaid : Prop := fnExactFsReadUptoRow.holds Try.pinned (OpenSpec.upto fnExactFsReadSpec)

/-- 'laws.FnExactFsCreate', WHERE WHAT IT READS IS OF BULK AT MOST 1048576: true; the input reads as it did. -/
def fnExactFsCreateUptoRow : OpenClaim := { program := "ytgeifmdcoiijgaa", sum := "dab2379588f6dd8c14c76a6c075ef615449fa76e298b435aec0b91c6cb1af155", func := "loop.example/g00950/laws.FnExactFsCreate", spec := "fnExactFsCreate", inPlace := ["internal/abi.NoEscape", "internal/bytealg.MakeNoZero"], apart := false, narrowed := true }
def FnExactFsCreateUptoSaid : Prop := fnExactFsCreateUptoRow.holds Try.pinned (OpenSpec.upto fnExactFsCreateSpec)

/-- 'laws.FnFiled', WHERE WHAT IT READS IS OF BULK AT MOST 1048576: true; the input reads as it did. -/
def fnFiledUptoRow : OpenClaim := { program := "ytgeifmdcoiijgaa", sum := "dab2379588f6dd8c14c76a6c075ef615449fa76e298b435aec0b91c6cb1af155", func := "loop.example/g00950/laws.FnFiled", spec := "fnFiled", inPlace := ["internal/abi.NoEscape", "internal/bytealg.MakeNoZero"], unfollowed := true, recurses := true, apart := false, narrowed := true }
def FnFiledUptoSaid : Prop := fnFiledUptoRow.holds Try.pinned (OpenSpec.upto fnFiledSpec)

/-- 'laws.FnChainLog', WHERE WHAT IT READS IS OF BULK AT MOST 1048576: true; the input reads as it did. -/
def fnChainLogUptoRow : OpenClaim := { program := "ytgeifmdcoiijgaa", sum := "dab2379588f6dd8c14c76a6c075ef615449fa76e298b435aec0b91c6cb1af155", func := "loop.example/g00950/laws.FnChainLog", spec := "fnChainLog", inPlace := ["internal/abi.NoEscape", "internal/bytealg.MakeNoZero"], unfollowed := true, recurses := true, apart := false, narrowed := true }
def FnChainLogUptoSaid : Prop := fnChainLogUptoRow.holds Try.pinned (OpenSpec.upto fnChainLogSpec)

/-- 'laws.FnExactFsSeal', WHERE WHAT IT READS IS OF BULK AT MOST 1048576: true; the input reads as it did. -/
def fnExactFsSealUptoRow : OpenClaim := { program := "ytgeifmdcoiijgaa", sum := "dab2379588f6dd8c14c76a6c075ef615449fa76e298b435aec0b91c6cb1af155", func := "loop.example/g00950/laws.FnExactFsSeal", spec := "fnExactFsSeal", inPlace := ["internal/abi.NoEscape", "internal/bytealg.MakeNoZero"], unfollowed := true, recurses := true, apart := false, narrowed := true }
def FnExactFsSealUptoSaid : Prop := fnExactFsSealUptoRow.holds Try.pinned (OpenSpec.upto fnExactFsSealSpec)

/-- 'laws.FnExactFsDrop', WHERE WHAT IT READS IS OF BULK AT MOST 1048576: true; the input reads as it did. -/
def fnExactFsDropUptoRow : OpenClaim := { program := "ytgeifmdcoiijgaa", sum := "dab2379588f6dd8c14c76a6c075ef615449fa76e298b435aec0b91c6cb1af155", func := "loop.example/g00950/laws.FnExactFsDrop", spec := "fnExactFsDrop", inPlace := ["internal/abi.NoEscape", "internal/bytealg.MakeNoZero"], unfollowed := true, recurses := true, apart := false, narrowed := true }
def FnExactFsDropUptoSaid : Prop := fnExactFsDropUptoRow.holds Try.pinned (OpenSpec.upto fnExactFsDropSpec)

/-- 'laws.FnExactFsAppend', WHERE WHAT IT READS IS OF BULK AT MOST 1048576: true; the input reads as it did. -/
def fnExactFsAppendUptoRow : OpenClaim := { program := "ytgeifmdcoiijgaa", sum := "dab2379588f6dd8c14c76a6c075ef615449fa76e298b435aec0b91c6cb1af155", func := "loop.example/g00950/laws.FnExactFsAppend", spec := "fnExactFsAppend", inPlace := ["internal/abi.NoEscape", "internal/bytealg.MakeNoZero"], unfollowed := true, recurses := true, apart := false, narrowed := true }
def FnExactFsAppendUptoSaid : Prop := fnExactFsAppendUptoRow.holds Try.pinned (OpenSpec.upto fnExactFsAppendSpec)

/-- 'laws.FnWalk', WHERE WHAT IT READS IS OF BULK AT MOST 1048576: true; the input reads as it did. -/
def fnWalkUptoRow : OpenClaim := { program := "ytgeifmdcoiijgaa", sum := "dab2379588f6dd8c14c76a6c075ef615449fa76e298b435aec0b91c6cb1af155", func := "loop.example/g00950/laws.FnWalk", spec := "fnWalk", inPlace := ["internal/bytealg.abigen_runtime_cmpstring"], unfollowed := true, recurses := true, apart := false, narrowed := true }
def FnWalkUptoSaid : Prop := fnWalkUptoRow.holds Try.pinned (OpenSpec.upto fnWalkSpec)

/-- 'laws.FnExactWalkSeek', WHERE WHAT IT READS IS OF BULK AT MOST 1048576: true; the input reads as it did. -/
def fnExactWalkSeekUptoRow : OpenClaim := { program := "ytgeifmdcoiijgaa", sum := "dab2379588f6dd8c14c76a6c075ef615449fa76e298b435aec0b91c6cb1af155", func := "loop.example/g00950/laws.FnExactWalkSeek", spec := "fnExactWalkSeek", inPlace := ["internal/bytealg.abigen_runtime_cmpstring"], unfollowed := true, recurses := true, apart := false, narrowed := true }
def FnExactWalkSeekUptoSaid : Prop := fnExactWalkSeekUptoRow.holds Try.pinned (OpenSpec.upto fnExactWalkSeekSpec)

/-- 'laws.FnExactWalkPrev', WHERE WHAT IT READS IS OF BULK AT MOST 1048576: true; the input reads as it did. -/
def fnExactWalkPrevUptoRow : OpenClaim := { program := "ytgeifmdcoiijgaa", sum := "dab2379588f6dd8c14c76a6c075ef615449fa76e298b435aec0b91c6cb1af155", func := "loop.example/g00950/laws.FnExactWalkPrev", spec := "fnExactWalkPrev", inPlace := ["internal/bytealg.abigen_runtime_cmpstring"], unfollowed := true, recurses := true, apart := false, narrowed := true }
def FnExactWalkPrevUptoSaid : Prop := fnExactWalkPrevUptoRow.holds Try.pinned (OpenSpec.upto fnExactWalkPrevSpec)

/-- 'laws.FnExactWalkNext', WHERE WHAT IT READS IS OF BULK AT MOST 1048576: true; the input reads as it did. -/
def fnExactWalkNextUptoRow : OpenClaim := { program := "ytgeifmdcoiijgaa", sum := "dab2379588f6dd8c14c76a6c075ef615449fa76e298b435aec0b91c6cb1af155", func := "loop.example/g00950/laws.FnExactWalkNext", spec := "fnExactWalkNext", inPlace := ["internal/bytealg.abigen_runtime_cmpstring"], unfollowed := true, recurses := true, apart := false, narrowed := true }
def FnExactWalkNextUptoSaid : Prop := fnExactWalkNextUptoRow.holds Try.pinned (OpenSpec.upto fnExactWalkNextSpec)

/-- 'laws.FnBackup', WHERE WHAT IT READS IS OF BULK AT MOST 1048576: true; the input reads as it did. -/
def fnBackupUptoRow : OpenClaim := { program := "ytgeifmdcoiijgaa", sum := "dab2379588f6dd8c14c76a6c075ef615449fa76e298b435aec0b91c6cb1af155", func := "loop.example/g00950/laws.FnBackup", spec := "fnBackup", inPlace := ["internal/bytealg.abigen_runtime_cmpstring", "internal/abi.NoEscape", "slices.overlaps[loop.example/g00950/impl.KV]"], unfollowed := true, recurses := true, apart := false, narrowed := true }
def FnBackupUptoSaid : Prop := fnBackupUptoRow.holds Try.pinned (OpenSpec.upto fnBackupSpec)

/-- 'laws.FnDelta', WHERE WHAT IT READS IS OF BULK AT MOST 1048576: true; the input reads as it did. -/
def fnDeltaUptoRow : OpenClaim := { program := "ytgeifmdcoiijgaa", sum := "dab2379588f6dd8c14c76a6c075ef615449fa76e298b435aec0b91c6cb1af155", func := "loop.example/g00950/laws.FnDelta", spec := "fnDelta", inPlace := ["internal/bytealg.abigen_runtime_cmpstring", "internal/abi.NoEscape", "slices.overlaps[loop.example/g00950/impl.KV]"], unfollowed := true, recurses := true, apart := false, narrowed := true }
def FnDeltaUptoSaid : Prop := fnDeltaUptoRow.holds Try.pinned (OpenSpec.upto fnDeltaSpec)

end Rows
end Go.Proofs.Ytgeifmdcoiijgaa
