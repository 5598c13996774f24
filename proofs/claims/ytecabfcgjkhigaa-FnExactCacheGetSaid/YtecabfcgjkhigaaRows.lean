/-
  No cell of these rows narrows 'for every input' (looked for: loops, veiled, ifaces, maps, wideKeys, modest, calm, conditions, laid).
  DERIVED. THE GIVEN ROWS OF THIS SEAT. 20 by the template 'for every input the law returns true; each argument reads behind the call as it read before'; 0 by the template 'total and deterministic' (their statements: YtecabfcgjkhigaaTotals.lean).
  GIVEN WITH THE SEED: the statements are not yours to turn. If you find one false, say at which input.
  Laid BY PROGRAM, IN A SANDBOX (cutbox-rows.mjs): the forced cells as the released guide's own fill.sh prints them over the translation e38c00906d2eff99… (all of the seat's roots in one cut). By AI agents, Wed Nov 11 2026. No macro, syntax, notation, axiom, sorry.
-/
import Derived.Test.YtecabfcgjkhigaaChecked
import GoSem.Claim
import GoSem.ClaimJoined
import GoSem.ClaimMapViews
import Derived.JoinedTies
import Derived.KernelRfl
namespace Go.Proofs.Ytecabfcgjkhigaa
/- THE CELL 'sum', in the pinned program and in every row, IS THE sha256 OF THE DUMP (.gsa) THAT YtecabfcgjkhigaaProg.lean LOADS. Nothing in Lean hashes anything: it is a label: what it is worth is what the hold of that sum in a sandbox is worth. -/
noncomputable def Try.pinned : Pinned := { name := "ytecabfcgjkhigaa", sum := "e38c00906d2eff99d7d4373903943f53a281b6e9377835e42ba71356a4ac13f9", checked := Try.checked }
namespace Rows
def none {H : Type} : Left H := { results := [], args := [] }

/-- 'laws.FnExactUnpack': WHATEVER THE INPUT: true; the input reads as it did. -/
def fnExactUnpackSpec : ChangeSpec := { name := "fnExactUnpack", fn := fun _ => fun
  | [d] => { results := [.lit (.bool true)], args := [d] }
  | _ => none }
def fnExactUnpackRow : OpenClaim := { program := "ytecabfcgjkhigaa", sum := "e38c00906d2eff99d7d4373903943f53a281b6e9377835e42ba71356a4ac13f9", func := "loop.example/g00950/laws.FnExactUnpack", spec := "fnExactUnpack", apart := false }
def FnExactUnpackSaid : Prop := fnExactUnpackRow.holds Try.pinned (OpenSpec.ofChange fnExactUnpackSpec)

/-- ITS FALSE NEIGHBOUR: 'it returns false'. Refute it at one input. -/
def fnExactUnpackWrong : ChangeSpec := { name := "fnExactUnpack", fn := fun _ => fun
  | [d] => { results := [.lit (.bool false)], args := [d] }
  | _ => none }
def FnExactUnpackWrongFalsely : Prop := fnExactUnpackRow.holds Try.pinned (OpenSpec.ofChange fnExactUnpackWrong)

/-- 'laws.FnExactTurnsNew': WHATEVER THE INPUT: true; the input reads as it did. -/
def fnExactTurnsNewSpec : ChangeSpec := { name := "fnExactTurnsNew", fn := fun _ => fun
  | [d] => { results := [.lit (.bool true)], args := [d] }
  | _ => none }
def fnExactTurnsNewRow : OpenClaim := { program := "ytecabfcgjkhigaa", sum := "e38c00906d2eff99d7d4373903943f53a281b6e9377835e42ba71356a4ac13f9", func := "loop.example/g00950/laws.FnExactTurnsNew", spec := "fnExactTurnsNew", apart := false }
def FnExactTurnsNewSaid : Prop := fnExactTurnsNewRow.holds Try.pinned (OpenSpec.ofChange fnExactTurnsNewSpec)

/-- ITS FALSE NEIGHBOUR: 'it returns false'. Refute it at one input. -/
def fnExactTurnsNewWrong : ChangeSpec := { name := "fnExactTurnsNew", fn := fun _ => fun
  | [d] => { results := [.lit (.bool false)], args := [d] }
  | _ => none }
def FnExactTurnsNewWrongFalsely : Prop := fnExactTurnsNewRow.holds Try.pinned (OpenSpec.ofChange fnExactTurnsNewWrong)

/-- 'laws.FnExactCacheOk': WHATEVER THE INPUT: true; the input reads as it did. -/
def fnExactCacheOkSpec : ChangeSpec := { name := "fnExactCacheOk", fn := fun _ => fun
  | [d] => { results := [.lit (.bool true)], args := [d] }
  | _ => none }
def fnExactCacheOkRow : OpenClaim := { program := "ytecabfcgjkhigaa", sum := "e38c00906d2eff99d7d4373903943f53a281b6e9377835e42ba71356a4ac13f9", func := "loop.example/g00950/laws.FnExactCacheOk", spec := "fnExactCacheOk", unfollowed := true, recurses := true, apart := false }
def FnExactCacheOkSaid : Prop := fnExactCacheOkRow.holds Try.pinned (OpenSpec.ofChange fnExactCacheOkSpec)

/-- ITS FALSE NEIGHBOUR: 'it returns false'. Refute it at one input. -/
def fnExactCacheOkWrong : ChangeSpec := { name := "fnExactCacheOk", fn := fun _ => fun
  | [d] => { results := [.lit (.bool false)], args := [d] }
  | _ => none }
def FnExactCacheOkWrongFalsely : Prop := fnExactCacheOkRow.holds Try.pinned (OpenSpec.ofChange fnExactCacheOkWrong)

/-- 'laws.FnCache': WHATEVER THE INPUT: true; the input reads as it did. -/
def fnCacheSpec : ChangeSpec := { name := "fnCache", fn := fun _ => fun
  | [d] => { results := [.lit (.bool true)], args := [d] }
  | _ => none }
def fnCacheRow : OpenClaim := { program := "ytecabfcgjkhigaa", sum := "e38c00906d2eff99d7d4373903943f53a281b6e9377835e42ba71356a4ac13f9", func := "loop.example/g00950/laws.FnCache", spec := "fnCache", unfollowed := true, recurses := true, apart := false }
def FnCacheSaid : Prop := fnCacheRow.holds Try.pinned (OpenSpec.ofChange fnCacheSpec)

/-- ITS FALSE NEIGHBOUR: 'it returns false'. Refute it at one input. -/
def fnCacheWrong : ChangeSpec := { name := "fnCache", fn := fun _ => fun
  | [d] => { results := [.lit (.bool false)], args := [d] }
  | _ => none }
def FnCacheWrongFalsely : Prop := fnCacheRow.holds Try.pinned (OpenSpec.ofChange fnCacheWrong)

/-- 'laws.FnExactTurnsAsk': WHATEVER THE INPUT: true; the input reads as it did. -/
def fnExactTurnsAskSpec : ChangeSpec := { name := "fnExactTurnsAsk", fn := fun _ => fun
  | [d1, d2] => { results := [.lit (.bool true)], args := [d1, d2] }
  | _ => none }
def fnExactTurnsAskRow : OpenClaim := { program := "ytecabfcgjkhigaa", sum := "e38c00906d2eff99d7d4373903943f53a281b6e9377835e42ba71356a4ac13f9", func := "loop.example/g00950/laws.FnExactTurnsAsk", spec := "fnExactTurnsAsk", apart := false }
def FnExactTurnsAskSaid : Prop := fnExactTurnsAskRow.holds Try.pinned (OpenSpec.ofChange fnExactTurnsAskSpec)

/-- ITS FALSE NEIGHBOUR: 'it returns false'. Refute it at one input. -/
def fnExactTurnsAskWrong : ChangeSpec := { name := "fnExactTurnsAsk", fn := fun _ => fun
  | [d1, d2] => { results := [.lit (.bool false)], args := [d1, d2] }
  | _ => none }
def FnExactTurnsAskWrongFalsely : Prop := fnExactTurnsAskRow.holds Try.pinned (OpenSpec.ofChange fnExactTurnsAskWrong)

/-- 'laws.FnExactDeltaOk': WHATEVER THE INPUT: true; the input reads as it did. -/
def fnExactDeltaOkSpec : ChangeSpec := { name := "fnExactDeltaOk", fn := fun _ => fun
  | [d] => { results := [.lit (.bool true)], args := [d] }
  | _ => none }
def fnExactDeltaOkRow : OpenClaim := { program := "ytecabfcgjkhigaa", sum := "e38c00906d2eff99d7d4373903943f53a281b6e9377835e42ba71356a4ac13f9", func := "loop.example/g00950/laws.FnExactDeltaOk", spec := "fnExactDeltaOk", inPlace := ["internal/bytealg.abigen_runtime_cmpstring"], unfollowed := true, recurses := true, apart := false }
def FnExactDeltaOkSaid : Prop := fnExactDeltaOkRow.holds Try.pinned (OpenSpec.ofChange fnExactDeltaOkSpec)

/-- ITS FALSE NEIGHBOUR: 'it returns false'. Refute it at one input. -/
def fnExactDeltaOkWrong : ChangeSpec := { name := "fnExactDeltaOk", fn := fun _ => fun
  | [d] => { results := [.lit (.bool false)], args := [d] }
  | _ => none }
def FnExactDeltaOkWrongFalsely : Prop := fnExactDeltaOkRow.holds Try.pinned (OpenSpec.ofChange fnExactDeltaOkWrong)

/-- 'laws.FnPack': WHATEVER THE INPUT: true; the input reads as it did. -/
def fnPackSpec : ChangeSpec := { name := "fnPack", fn := fun _ => fun
  | [d] => { results := [.lit (.bool true)], args := [d] }
  | _ => none }
def fnPackRow : OpenClaim := { program := "ytecabfcgjkhigaa", sum := "e38c00906d2eff99d7d4373903943f53a281b6e9377835e42ba71356a4ac13f9", func := "loop.example/g00950/laws.FnPack", spec := "fnPack", apart := false }
def FnPackSaid : Prop := fnPackRow.holds Try.pinned (OpenSpec.ofChange fnPackSpec)

/-- ITS FALSE NEIGHBOUR: 'it returns false'. Refute it at one input. -/
def fnPackWrong : ChangeSpec := { name := "fnPack", fn := fun _ => fun
  | [d] => { results := [.lit (.bool false)], args := [d] }
  | _ => none }
def FnPackWrongFalsely : Prop := fnPackRow.holds Try.pinned (OpenSpec.ofChange fnPackWrong)

/-- 'laws.FnExactTurnsNext': WHATEVER THE INPUT: true; the input reads as it did. -/
def fnExactTurnsNextSpec : ChangeSpec := { name := "fnExactTurnsNext", fn := fun _ => fun
  | [d] => { results := [.lit (.bool true)], args := [d] }
  | _ => none }
def fnExactTurnsNextRow : OpenClaim := { program := "ytecabfcgjkhigaa", sum := "e38c00906d2eff99d7d4373903943f53a281b6e9377835e42ba71356a4ac13f9", func := "loop.example/g00950/laws.FnExactTurnsNext", spec := "fnExactTurnsNext", apart := false }
def FnExactTurnsNextSaid : Prop := fnExactTurnsNextRow.holds Try.pinned (OpenSpec.ofChange fnExactTurnsNextSpec)

/-- ITS FALSE NEIGHBOUR: 'it returns false'. Refute it at one input. -/
def fnExactTurnsNextWrong : ChangeSpec := { name := "fnExactTurnsNext", fn := fun _ => fun
  | [d] => { results := [.lit (.bool false)], args := [d] }
  | _ => none }
def FnExactTurnsNextWrongFalsely : Prop := fnExactTurnsNextRow.holds Try.pinned (OpenSpec.ofChange fnExactTurnsNextWrong)

/-- 'laws.FnExactCacheWipe': WHATEVER THE INPUT: true; the input reads as it did. -/
def fnExactCacheWipeSpec : ChangeSpec := { name := "fnExactCacheWipe", fn := fun _ => fun
  | [d1, d2] => { results := [.lit (.bool true)], args := [d1, d2] }
  | _ => none }
def fnExactCacheWipeRow : OpenClaim := { program := "ytecabfcgjkhigaa", sum := "e38c00906d2eff99d7d4373903943f53a281b6e9377835e42ba71356a4ac13f9", func := "loop.example/g00950/laws.FnExactCacheWipe", spec := "fnExactCacheWipe", unfollowed := true, recurses := true, apart := false }
def FnExactCacheWipeSaid : Prop := fnExactCacheWipeRow.holds Try.pinned (OpenSpec.ofChange fnExactCacheWipeSpec)

/-- ITS FALSE NEIGHBOUR: 'it returns false'. Refute it at one input. -/
def fnExactCacheWipeWrong : ChangeSpec := { name := "fnExactCacheWipe", fn := fun _ => fun
  | [d1, d2] => { results := [.lit (.bool false)], args := [d1, d2] }
  | _ => none }
def FnExactCacheWipeWrongFalsely : Prop := fnExactCacheWipeRow.holds Try.pinned (OpenSpec.ofChange fnExactCacheWipeWrong)

/-- 'laws.FnExactSlotRead': WHATEVER THE INPUT: true; the input reads as it did. -/
def fnExactSlotReadSpec : ChangeSpec := { name := "fnExactSlotRead", fn := fun _ => fun
  | [d1, d2] => { results := [.lit (.bool true)], args := [d1, d2] }
  | _ => none }
def fnExactSlotReadRow : OpenClaim := { program := "ytecabfcgjkhigaa", sum := "e38c00906d2eff99d7d4373903943f53a281b6e9377835e42ba71356a4ac13f9", func := "loop.example/g00950/laws.FnExactSlotRead", spec := "fnExactSlotRead", apart := false }
def FnExactSlotReadSaid : Prop := fnExactSlotReadRow.holds Try.pinned (OpenSpec.ofChange fnExactSlotReadSpec)

/-- ITS FALSE NEIGHBOUR: 'it returns false'. Refute it at one input. -/
def fnExactSlotReadWrong : ChangeSpec := { name := "fnExactSlotRead", fn := fun _ => fun
  | [d1, d2] => { results := [.lit (.bool false)], args := [d1, d2] }
  | _ => none }
def FnExactSlotReadWrongFalsely : Prop := fnExactSlotReadRow.holds Try.pinned (OpenSpec.ofChange fnExactSlotReadWrong)

/-- 'laws.FnExactWalkOk': WHATEVER THE INPUT: true; the input reads as it did. -/
def fnExactWalkOkSpec : ChangeSpec := { name := "fnExactWalkOk", fn := fun _ => fun
  | [d] => { results := [.lit (.bool true)], args := [d] }
  | _ => none }
def fnExactWalkOkRow : OpenClaim := { program := "ytecabfcgjkhigaa", sum := "e38c00906d2eff99d7d4373903943f53a281b6e9377835e42ba71356a4ac13f9", func := "loop.example/g00950/laws.FnExactWalkOk", spec := "fnExactWalkOk", apart := false }
def FnExactWalkOkSaid : Prop := fnExactWalkOkRow.holds Try.pinned (OpenSpec.ofChange fnExactWalkOkSpec)

/-- ITS FALSE NEIGHBOUR: 'it returns false'. Refute it at one input. -/
def fnExactWalkOkWrong : ChangeSpec := { name := "fnExactWalkOk", fn := fun _ => fun
  | [d] => { results := [.lit (.bool false)], args := [d] }
  | _ => none }
def FnExactWalkOkWrongFalsely : Prop := fnExactWalkOkRow.holds Try.pinned (OpenSpec.ofChange fnExactWalkOkWrong)

/-- 'laws.FnExactDiffMap': WHATEVER THE INPUT: true; the input reads as it did. -/
def fnExactDiffMapSpec : ChangeSpec := { name := "fnExactDiffMap", fn := fun _ => fun
  | [d1, d2] => { results := [.lit (.bool true)], args := [d1, d2] }
  | _ => none }
def fnExactDiffMapRow : OpenClaim := { program := "ytecabfcgjkhigaa", sum := "e38c00906d2eff99d7d4373903943f53a281b6e9377835e42ba71356a4ac13f9", func := "loop.example/g00950/laws.FnExactDiffMap", spec := "fnExactDiffMap", inPlace := ["internal/bytealg.abigen_runtime_cmpstring"], unfollowed := true, recurses := true, apart := false }
def FnExactDiffMapSaid : Prop := fnExactDiffMapRow.holds Try.pinned (OpenSpec.ofChange fnExactDiffMapSpec)

/-- ITS FALSE NEIGHBOUR: 'it returns false'. Refute it at one input. -/
def fnExactDiffMapWrong : ChangeSpec := { name := "fnExactDiffMap", fn := fun _ => fun
  | [d1, d2] => { results := [.lit (.bool false)], args := [d1, d2] }
  | _ => none }
def FnExactDiffMapWrongFalsely : Prop := fnExactDiffMapRow.holds Try.pinned (OpenSpec.ofChange fnExactDiffMapWrong)

/-- 'laws.FnExactSlotPut': WHATEVER THE INPUT: true; the input reads as it did. -/
def fnExactSlotPutSpec : ChangeSpec := { name := "fnExactSlotPut", fn := fun _ => fun
  | [d1, d2, d3] => { results := [.lit (.bool true)], args := [d1, d2, d3] }
  | _ => none }
def fnExactSlotPutRow : OpenClaim := { program := "ytecabfcgjkhigaa", sum := "e38c00906d2eff99d7d4373903943f53a281b6e9377835e42ba71356a4ac13f9", func := "loop.example/g00950/laws.FnExactSlotPut", spec := "fnExactSlotPut", apart := false }
def FnExactSlotPutSaid : Prop := fnExactSlotPutRow.holds Try.pinned (OpenSpec.ofChange fnExactSlotPutSpec)

/-- ITS FALSE NEIGHBOUR: 'it returns false'. Refute it at one input. -/
def fnExactSlotPutWrong : ChangeSpec := { name := "fnExactSlotPut", fn := fun _ => fun
  | [d1, d2, d3] => { results := [.lit (.bool false)], args := [d1, d2, d3] }
  | _ => none }
def FnExactSlotPutWrongFalsely : Prop := fnExactSlotPutRow.holds Try.pinned (OpenSpec.ofChange fnExactSlotPutWrong)

/-- 'laws.FnTurns': WHATEVER THE INPUT: true; the input reads as it did. -/
def fnTurnsSpec : ChangeSpec := { name := "fnTurns", fn := fun _ => fun
  | [d] => { results := [.lit (.bool true)], args := [d] }
  | _ => none }
def fnTurnsRow : OpenClaim := { program := "ytecabfcgjkhigaa", sum := "e38c00906d2eff99d7d4373903943f53a281b6e9377835e42ba71356a4ac13f9", func := "loop.example/g00950/laws.FnTurns", spec := "fnTurns", apart := false }
def FnTurnsSaid : Prop := fnTurnsRow.holds Try.pinned (OpenSpec.ofChange fnTurnsSpec)

/-- ITS FALSE NEIGHBOUR: 'it returns false'. Refute it at one input. -/
def fnTurnsWrong : ChangeSpec := { name := "fnTurns", fn := fun _ => fun
  | [d] => { results := [.lit (.bool false)], args := [d] }
  | _ => none }
def FnTurnsWrongFalsely : Prop := fnTurnsRow.holds Try.pinned (OpenSpec.ofChange fnTurnsWrong)

/-- 'laws.FnExactCacheGet': WHATEVER THE INPUT: true; the input reads as it did. -/
def fnExactCacheGetSpec : ChangeSpec := { name := "fnExactCacheGet", fn := fun _ => fun
  | [d1, d2, d3, d4] => { results := [.lit (.bool true)], args := [d1, d2, d3, d4] }
  | _ => none }
def fnExactCacheGetRow : OpenClaim := { program := "ytecabfcgjkhigaa", sum := "e38c00906d2eff99d7d4373903943f53a281b6e9377835e42ba71356a4ac13f9", func := "loop.example/g00950/laws.FnExactCacheGet", spec := "fnExactCacheGet", unfollowed := true, recurses := true, apart := false }
def FnExactCacheGetSaid : Prop := fnExactCacheGetRow.holds Try.pinned (OpenSpec.ofChange fnExactCacheGetSpec)

/-- ITS FALSE NEIGHBOUR: 'it returns false'. Refute it at one input. -/
def fnExactCacheGetWrong : ChangeSpec := { name := "fnExactCacheGet", fn := fun _ => fun
  | [d1, d2, d3, d4] => { results := [.lit (.bool false)], args := [d1, d2, d3, d4] }
  | _ => none }
def FnExactCacheGetWrongFalsely : Prop := fnExactCacheGetRow.holds Try.pinned (OpenSpec.ofChange fnExactCacheGetWrong)

/-- 'laws.FnExactShowDelta': WHATEVER THE INPUT: true; the input reads as it did. -/
def fnExactShowDeltaSpec : ChangeSpec := { name := "fnExactShowDelta", fn := fun _ => fun
  | [d] => { results := [.lit (.bool true)], args := [d] }
  | _ => none }
def fnExactShowDeltaRow : OpenClaim := { program := "ytecabfcgjkhigaa", sum := "e38c00906d2eff99d7d4373903943f53a281b6e9377835e42ba71356a4ac13f9", func := "loop.example/g00950/laws.FnExactShowDelta", spec := "fnExactShowDelta", inPlace := ["internal/bytealg.abigen_runtime_cmpstring", "internal/abi.NoEscape"], unfollowed := true, recurses := true, apart := false }
def FnExactShowDeltaSaid : Prop := fnExactShowDeltaRow.holds Try.pinned (OpenSpec.ofChange fnExactShowDeltaSpec)

/-- ITS FALSE NEIGHBOUR: 'it returns false'. Refute it at one input. -/
def fnExactShowDeltaWrong : ChangeSpec := { name := "fnExactShowDelta", fn := fun _ => fun
  | [d] => { results := [.lit (.bool false)], args := [d] }
  | _ => none }
def FnExactShowDeltaWrongFalsely : Prop := fnExactShowDeltaRow.holds Try.pinned (OpenSpec.ofChange fnExactShowDeltaWrong)

/-- 'laws.FnExactFsNew': WHATEVER THE INPUT: true; the input reads as it did. -/
def fnExactFsNewSpec : ChangeSpec := { name := "fnExactFsNew", fn := fun _ => fun
  | [] => { results := [.lit (.bool true)], args := [] }
  | _ => none }
def fnExactFsNewRow : OpenClaim := { program := "ytecabfcgjkhigaa", sum := "e38c00906d2eff99d7d4373903943f53a281b6e9377835e42ba71356a4ac13f9", func := "loop.example/g00950/laws.FnExactFsNew", spec := "fnExactFsNew", inPlace := ["internal/abi.NoEscape", "internal/bytealg.MakeNoZero"], apart := false }
def FnExactFsNewSaid : Prop := fnExactFsNewRow.holds Try.pinned (OpenSpec.ofChange fnExactFsNewSpec)

/-- ITS FALSE NEIGHBOUR: 'it returns false'. Refute it at one input. -/
def fnExactFsNewWrong : ChangeSpec := { name := "fnExactFsNew", fn := fun _ => fun
  | [] => { results := [.lit (.bool false)], args := [] }
  | _ => none }
def FnExactFsNewWrongFalsely : Prop := fnExactFsNewRow.holds Try.pinned (OpenSpec.ofChange fnExactFsNewWrong)

/-- 'laws.FnExactWalkNew': WHATEVER THE INPUT: true; the input reads as it did. -/
def fnExactWalkNewSpec : ChangeSpec := { name := "fnExactWalkNew", fn := fun _ => fun
  | [d1, d2] => { results := [.lit (.bool true)], args := [d1, d2] }
  | _ => none }
def fnExactWalkNewRow : OpenClaim := { program := "ytecabfcgjkhigaa", sum := "e38c00906d2eff99d7d4373903943f53a281b6e9377835e42ba71356a4ac13f9", func := "loop.example/g00950/laws.FnExactWalkNew", spec := "fnExactWalkNew", apart := false }
def FnExactWalkNewSaid : Prop := fnExactWalkNewRow.holds Try.pinned (OpenSpec.ofChange fnExactWalkNewSpec)

/-- ITS FALSE NEIGHBOUR: 'it returns false'. Refute it at one input. -/
def fnExactWalkNewWrong : ChangeSpec := { name := "fnExactWalkNew", fn := fun _ => fun
  | [d1, d2] => { results := [.lit (.bool false)], args := [d1, d2] }
  | _ => none }
def FnExactWalkNewWrongFalsely : Prop := fnExactWalkNewRow.holds Try.pinned (OpenSpec.ofChange fnExactWalkNewWrong)

/-- 'laws.FnSlots': WHATEVER THE INPUT: true; the input reads as it did. -/
def fnSlotsSpec : ChangeSpec := { name := "fnSlots", fn := fun _ => fun
  | [d] => { results := [.lit (.bool true)], args := [d] }
  | _ => none }
def fnSlotsRow : OpenClaim := { program := "ytecabfcgjkhigaa", sum := "e38c00906d2eff99d7d4373903943f53a281b6e9377835e42ba71356a4ac13f9", func := "loop.example/g00950/laws.FnSlots", spec := "fnSlots", apart := false }
def FnSlotsSaid : Prop := fnSlotsRow.holds Try.pinned (OpenSpec.ofChange fnSlotsSpec)

/-- ITS FALSE NEIGHBOUR: 'it returns false'. Refute it at one input. -/
def fnSlotsWrong : ChangeSpec := { name := "fnSlots", fn := fun _ => fun
  | [d] => { results := [.lit (.bool false)], args := [d] }
  | _ => none }
def FnSlotsWrongFalsely : Prop := fnSlotsRow.holds Try.pinned (OpenSpec.ofChange fnSlotsWrong)

/-- 'laws.FnExactLinkSum': WHATEVER THE INPUT: true; the input reads as it did. -/
def fnExactLinkSumSpec : ChangeSpec := { name := "fnExactLinkSum", fn := fun _ => fun
  | [d1, d2, d3] => { results := [.lit (.bool true)], args := [d1, d2, d3] }
  | _ => none }
def fnExactLinkSumRow : OpenClaim := { program := "ytecabfcgjkhigaa", sum := "e38c00906d2eff99d7d4373903943f53a281b6e9377835e42ba71356a4ac13f9", func := "loop.example/g00950/laws.FnExactLinkSum", spec := "fnExactLinkSum", inPlace := ["internal/abi.NoEscape", "internal/bytealg.MakeNoZero"], apart := false }
def FnExactLinkSumSaid : Prop := fnExactLinkSumRow.holds Try.pinned (OpenSpec.ofChange fnExactLinkSumSpec)

/-- ITS FALSE NEIGHBOUR: 'it returns false'. Refute it at one input. -/
def fnExactLinkSumWrong : ChangeSpec := { name := "fnExactLinkSum", fn := fun _ => fun
  | [d1, d2, d3] => { results := [.lit (.bool false)], args := [d1, d2, d3] }
  | _ => none }
def FnExactLinkSumWrongFalsely : Prop := fnExactLinkSumRow.holds Try.pinned (OpenSpec.ofChange fnExactLinkSumWrong)

/- THE SECOND FORM. 'bulk': how many values and letters a reading holds, each counted each time it is reached (what is shared counts as often as it is met; a slice's spare places count too). A statement '..UptoSaid' is the law's where the arguments, and the package variables that the reading takes, are together of bulk at most 1048576: NARROWER than '..Said'. Prove '..Said' where nothing that the law and all that it calls make is longer than what came in: it says more and counts as full. Else prove '..UptoSaid'. A law counts once. -/
mutual
def uptoBulk {H : Type} : DataW H → Nat
  | .lit (.string bytes) => bytes.length + 1
  | .lit _ => 1
  | .nil => 1
  | .ptr d => uptoBulk d + 1
  | .slice elems spare => uptoBulkAll elems + uptoBulkAll spare + 1
  | .agg parts => uptoBulkAll parts + 1
  | .iface _ d => uptoBulk d + 1
  | .map entries => uptoBulkEntries entries + 1
  | .held _ => 1
def uptoBulkAll {H : Type} : List (DataW H) → Nat
  | [] => 0
  | d :: r => uptoBulk d + uptoBulkAll r
def uptoBulkEntries {H : Type} : List (Lit × DataW H) → Nat
  | [] => 0
  | x :: r => uptoBulkEntry x + uptoBulkEntries r
def uptoBulkEntry {H : Type} : Lit × DataW H → Nat
  | (.string bytes, d) => bytes.length + uptoBulk d + 1
  | (_, d) => uptoBulk d + 1
 end
def uptoSmall : (H : Type) → List (DataW H) → Bool := fun _ ds => decide (uptoBulkAll ds ≤ 1048576)
def OpenSpec.upto (s : _root_.Go.ChangeSpec) : _root_.Go.OpenSpec := { _root_.Go.OpenSpec.ofChange s with cond := some uptoSmall }

/-- 'laws.FnExactUnpack', WHERE WHAT IT READS IS OF BULK AT MOST 1048576: true; the input reads as it did. -/
def fnExactUnpackUptoRow : OpenClaim := { program := "ytecabfcgjkhigaa", sum := "e38c00906d2eff99d7d4373903943f53a281b6e9377835e42ba71356a4ac13f9", func := "loop.example/g00950/laws.FnExactUnpack", spec := "fnExactUnpack", apart := false, narrowed := true }
def FnExactUnpackUptoSaid : Prop := fnExactUnpackUptoRow.holds Try.pinned (OpenSpec.upto fnExactUnpackSpec)

/-- 'laws.FnExactTurnsNew', WHERE WHAT IT READS IS OF BULK AT MOST 1048576: true; the input reads as it did. -/
def fnExactTurnsNewUptoRow : OpenClaim := { program := "ytecabfcgjkhigaa", sum := "e38c00906d2eff99d7d4373903943f53a281b6e9377835e42ba71356a4ac13f9", func := "loop.example/g00950/laws.FnExactTurnsNew", spec := "fnExactTurnsNew", apart := false, narrowed := true }
def FnExactTurnsNewUptoSaid : Prop := fnExactTurnsNewUptoRow.holds Try.pinned (OpenSpec.upto fnExactTurnsNewSpec)

/-- 'laws.FnExactCacheOk', WHERE WHAT IT READS IS OF BULK AT MOST 1048576: true; the input reads as it did. -/
def fnExactCacheOkUptoRow : OpenClaim := { program := "ytecabfcgjkhigaa", sum := "e38c00906d2eff99d7d4373903943f53a281b6e9377835e42ba71356a4ac13f9", func := "loop.example/g00950/laws.FnExactCacheOk", spec := "fnExactCacheOk", unfollowed := true, recurses := true, apart := false, narrowed := true }
def FnExactCacheOkUptoSaid : Prop := fnExactCacheOkUptoRow.holds Try.pinned (OpenSpec.upto fnExactCacheOkSpec)

/-- 'laws.FnCache', WHERE WHAT IT READS IS OF BULK AT MOST 1048576: true; the input reads as it did. -/
def fnCacheUptoRow : OpenClaim := { program := "ytecabfcgjkhigaa", sum := "e38c00906d2eff99d7d4373903943f53a281b6e9377835e42ba71356a4ac13f9", func := "loop.example/g00950/laws.FnCache", spec := "fnCache", unfollowed := true, recurses := true, apart := false, narrowed := true }
def FnCacheUptoSaid : Prop := fnCacheUptoRow.holds Try.pinned (OpenSpec.upto fnCacheSpec)

/-- 'laws.FnExactTurnsAsk', WHERE WHAT IT READS IS OF BULK AT MOST 1048576: true; the input reads as it did. -/
def fnExactTurnsAskUptoRow : OpenClaim := { program := "ytecabfcgjkhigaa", sum := "e38c00906d2eff99d7d4373903943f53a281b6e9377835e42ba71356a4ac13f9", func := "loop.example/g00950/laws.FnExactTurnsAsk", spec := "fnExactTurnsAsk", apart := false, narrowed := true }
def FnExactTurnsAskUptoSaid : Prop := fnExactTurnsAskUptoRow.holds Try.pinned (OpenSpec.upto fnExactTurnsAskSpec)

/-- 'laws.FnExactDeltaOk', WHERE WHAT IT READS IS OF BULK AT MOST 1048576: true; the input reads as it did. -/
def fnExactDeltaOkUptoRow : OpenClaim := { program := "ytecabfcgjkhigaa", sum := "e38c00906d2eff99d7d4373903943f53a281b6e9377835e42ba71356a4ac13f9", func := "loop.example/g00950/laws.FnExactDeltaOk", spec := "fnExactDeltaOk", inPlace := ["internal/bytealg.abigen_runtime_cmpstring"], unfollowed := true, recurses := true, apart := false, narrowed := true }
def FnExactDeltaOkUptoSaid : Prop := fnExactDeltaOkUptoRow.holds Try.pinned (OpenSpec.upto fnExactDeltaOkSpec)

/-- 'laws.FnPack', WHERE WHAT IT READS IS OF BULK AT MOST 1048576: true; the input reads as it did. -/
def fnPackUptoRow : OpenClaim := { program := "ytecabfcgjkhigaa", sum := "e38c00906d2eff99d7d4373903943f53a281b6e9377835e42ba71356a4ac13f9", func := "loop.example/g00950/laws.FnPack", spec := "fnPack", apart := false, narrowed := true }
def FnPackUptoSaid : Prop := fnPackUptoRow.holds Try.pinned (OpenSpec.upto fnPackSpec)

/-- 'laws.FnExactTurnsNext', WHERE WHAT IT READS IS OF BULK AT MOST 1048576: true; the input reads as it did. -/
def fnExactTurnsNextUptoRow : OpenClaim := { program := "ytecabfcgjkhigaa", sum := "e38c00906d2eff99d7d4373903943f53a281b6e9377835e42ba71356a4ac13f9", func := "loop.example/g00950/laws.FnExactTurnsNext", spec := "fnExactTurnsNext", apart := false, narrowed := true }
def FnExactTurnsNextUptoSaid : Prop := fnExactTurnsNextUptoRow.holds Try.pinned (OpenSpec.upto fnExactTurnsNextSpec)

/-- 'laws.FnExactCacheWipe', WHERE WHAT IT READS IS OF BULK AT MOST 1048576: true; the input reads as it did. -/
def fnExactCacheWipeUptoRow : OpenClaim := { program := "ytecabfcgjkhigaa", sum := "e38c00906d2eff99d7d4373903943f53a281b6e9377835e42ba71356a4ac13f9", func := "loop.example/g00950/laws.FnExactCacheWipe", spec := "fnExactCacheWipe", unfollowed := true, recurses := true, apart := false, narrowed := true }
def FnExactCacheWipeUptoSaid : Prop := fnExactCacheWipeUptoRow.holds Try.pinned (OpenSpec.upto fnExactCacheWipeSpec)

/-- 'laws.FnExactSlotRead', WHERE WHAT IT READS IS OF BULK AT MOST 1048576: true; the input reads as it did. -/
def fnExactSlotReadUptoRow : OpenClaim := { program := "ytecabfcgjkhigaa", sum := "e38c00906d2eff99d7d4373903943f53a281b6e9377835e42ba71356a4ac13f9", func := "loop.example/g00950/laws.FnExactSlotRead", spec := "fnExactSlotRead", apart := false, narrowed := true }
def FnExactSlotReadUptoSaid : Prop := fnExactSlotReadUptoRow.holds Try.pinned (OpenSpec.upto fnExactSlotReadSpec)

/-- 'laws.FnExactWalkOk', WHERE WHAT IT READS IS OF BULK AT MOST 1048576: true; the input reads as it did. -/
def fnExactWalkOkUptoRow : OpenClaim := { program := "ytecabfcgjkhigaa", sum := "e38c00906d2eff99d7d4373903943f53a281b6e9377835e42ba71356a4ac13f9", func := "loop.example/g00950/laws.FnExactWalkOk", spec := "fnExactWalkOk", apart := false, narrowed := true }
def FnExactWalkOkUptoSaid : Prop := fnExactWalkOkUptoRow.holds Try.pinned (OpenSpec.upto fnExactWalkOkSpec)

/-- 'laws.FnExactDiffMap', WHERE WHAT IT READS IS OF BULK AT MOST 1048576: true; the input reads as it did. -/
def fnExactDiffMapUptoRow : OpenClaim := { program := "ytecabfcgjkhigaa", sum := "e38c00906d2eff99d7d4373903943f53a281b6e9377835e42ba71356a4ac13f9", func := "loop.example/g00950/laws.FnExactDiffMap", spec := "fnExactDiffMap", inPlace := ["internal/bytealg.abigen_runtime_cmpstring"], unfollowed := true, recurses := true, apart := false, narrowed := true }
def FnExactDiffMapUptoSaid : Prop := fnExactDiffMapUptoRow.holds Try.pinned (OpenSpec.upto fnExactDiffMapSpec)

/-- 'laws.FnExactSlotPut', WHERE WHAT IT READS IS OF BULK AT MOST 1048576: true; the input reads as it did. -/
def fnExactSlotPutUptoRow : OpenClaim := { program := "ytecabfcgjkhigaa", sum := "e38c00906d2eff99d7d4373903943f53a281b6e9377835e42ba71356a4ac13f9", func := "loop.example/g00950/laws.FnExactSlotPut", spec := "fnExactSlotPut", apart := false, narrowed := true }
def FnExactSlotPutUptoSaid : Prop := fnExactSlotPutUptoRow.holds Try.pinned (OpenSpec.upto fnExactSlotPutSpec)

/-- 'laws.FnTurns', WHERE WHAT IT READS IS OF BULK AT MOST 1048576: true; the input reads as it did. -/
def fnTurnsUptoRow : OpenClaim := { program := "ytecabfcgjkhigaa", sum := "e38c00906d2eff99d7d4373903943f53a281b6e9377835e42ba71356a4ac13f9", func := "loop.example/g00950/laws.FnTurns", spec := "fnTurns", apart := false, narrowed := true }
def FnTurnsUptoSaid : Prop := fnTurnsUptoRow.holds Try.pinned (OpenSpec.upto fnTurnsSpec)

/-- 'laws.FnExactCacheGet', WHERE WHAT IT READS IS OF BULK AT MOST 1048576: true; the input reads as it did. -/
def fnExactCacheGetUptoRow : OpenClaim := { program := "ytecabfcgjkhigaa", sum := "e38c00906d2eff99d7d4373903943f53a281b6e9377835e42ba71356a4ac13f9", func := "loop.example/g00950/laws.FnExactCacheGet", spec := "fnExactCacheGet", unfollowed := true, recurses := true, apart := false, narrowed := true }
def FnExactCacheGetUptoSaid : Prop := fnExactCacheGetUptoRow.holds Try.pinned (OpenSpec.upto fnExactCacheGetSpec)

/-- 'laws.FnExactShowDelta', WHERE WHAT IT READS IS OF BULK AT MOST 1048576: true; the input reads as it did. -/
def fnExactShowDeltaUptoRow : OpenClaim := { program := "ytecabfcgjkhigaa", sum := "e38c00906d2eff99d7d4373903943f53a281b6e9377835e42ba71356a4ac13f9", func := "loop.example/g00950/laws.FnExactShowDelta", spec := "fnExactShowDelta", inPlace := ["internal/bytealg.abigen_runtime_cmpstring", "internal/abi.NoEscape"], unfollowed := true, recurses := true, apart := false, narrowed := true }
def FnExactShowDeltaUptoSaid : Prop := fnExactShowDeltaUptoRow.holds Try.pinned (OpenSpec.upto fnExactShowDeltaSpec)

/-- 'laws.FnExactFsNew', WHERE WHAT IT READS IS OF BULK AT MOST 1048576: true; the input reads as it did. -/
def fnExactFsNewUptoRow : OpenClaim := { program := "ytecabfcgjkhigaa", sum := "e38c00906d2eff99d7d4373903943f53a281b6e9377835e42ba71356a4ac13f9", func := "loop.example/g00950/laws.FnExactFsNew", spec := "fnExactFsNew", inPlace := ["internal/abi.NoEscape", "internal/bytealg.MakeNoZero"], apart := false, narrowed := true }
def FnExactFsNewUptoSaid : Prop := fnExactFsNewUptoRow.holds Try.pinned (OpenSpec.upto fnExactFsNewSpec)

/-- 'laws.FnExactWalkNew', WHERE WHAT IT READS IS OF BULK AT MOST 1048576: true; the input reads as it did. -/
def fnExactWalkNewUptoRow : OpenClaim := { program := "ytecabfcgjkhigaa", sum := "e38c00906d2eff99d7d4373903943f53a281b6e9377835e42ba71356a4ac13f9", func := "loop.example/g00950/laws.FnExactWalkNew", spec := "fnExactWalkNew", apart := false, narrowed := true }
def FnExactWalkNewUptoSaid : Prop := fnExactWalkNewUptoRow.holds Try.pinned (OpenSpec.upto fnExactWalkNewSpec)

/-- 'laws.FnSlots', WHERE WHAT IT READS IS OF BULK AT MOST 1048576: true; the input reads as it did. -/
def fnSlotsUptoRow : OpenClaim := { program := "ytecabfcgjkhigaa", sum := "e38c00906d2eff99d7d4373903943f53a281b6e9377835e42ba71356a4ac13f9", func := "loop.example/g00950/laws.FnSlots", spec := "fnSlots", apart := false, narrowed := true }
def FnSlotsUptoSaid : Prop := fnSlotsUptoRow.holds Try.pinned (OpenSpec.upto fnSlotsSpec)

/-- 'laws.FnExactLinkSum', WHERE WHAT IT READS IS OF BULK AT MOST 1048576: true; the input reads as it did. -/
def fnExactLinkSumUptoRow : OpenClaim := { program := "ytecabfcgjkhigaa", sum := "e38c00906d2eff99d7d4373903943f53a281b6e9377835e42ba71356a4ac13f9", func := "loop.example/g00950/laws.FnExactLinkSum", spec := "fnExactLinkSum", inPlace := ["internal/abi.NoEscape", "internal/bytealg.MakeNoZero"], apart := false, narrowed := true }
def FnExactLinkSumUptoSaid : Prop := fnExactLinkSumUptoRow.holds Try.pinned (OpenSpec.upto fnExactLinkSumSpec)

end Rows
end Go.Proofs.Ytecabfcgjkhigaa
