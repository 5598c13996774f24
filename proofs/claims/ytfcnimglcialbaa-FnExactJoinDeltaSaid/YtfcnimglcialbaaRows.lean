/-
  No cell of these rows narrows 'for every input' (looked for: loops, veiled, ifaces, maps, wideKeys, modest, calm, conditions, laid).
  DERIVED. THE GIVEN ROWS OF THIS SEAT. 18 by the template 'for every input the law returns true; each argument reads behind the call as it read before'; 0 by the template 'total and deterministic' (their statements: YtfcnimglcialbaaTotals.lean).
  GIVEN WITH THE SEED: the statements are not yours to turn. If you find one false, say at which input.
  Laid BY PROGRAM, IN A SANDBOX (cutbox-rows.mjs): the forced cells as the released guide's own fill.sh prints them over the translation ecc1d9b4c8d08d9c… (all of the seat's roots in one cut). By AI agents, Wed Nov 11 2026. No macro, syntax, notation, axiom, sorry.
-/
import Derived.Test.YtfcnimglcialbaaChecked
import GoSem.Claim
import GoSem.ClaimJoined
import GoSem.ClaimMapViews
import Derived.JoinedTies
import Derived.KernelRfl
namespace Go.Proofs.Ytfcnimglcialbaa
/- THE CELL 'sum', in the pinned program and in every row, IS THE sha256 OF THE DUMP (.gsa) THAT YtfcnimglcialbaaProg.lean LOADS. Nothing in Lean hashes anything: it is a label: what it is worth is what the hold of that sum in a sandbox is worth. -/
noncomputable def Try.pinned : Pinned := { name := "ytfcnimglcialbaa", sum := "ecc1d9b4c8d08d9c42e02b33b160e5570200150162ec4e0de48573738456ebf1", checked := Try.checked }
namespace Rows
def none {H : Type} : Left H := { results := [], args := [] }

/-- 'laws.FnExactUnpack': WHATEVER THE INPUT: true; the input reads as it did. -/
def fnExactUnpackSpec : ChangeSpec := { name := "fnExactUnpack", fn := fun _ => fun
  | [d] => { results := [.lit (.bool true)], args := [d] }
  | _ => none }
def fnExactUnpackRow : OpenClaim := { program := "ytfcnimglcialbaa", sum := "ecc1d9b4c8d08d9c42e02b33b160e5570200150162ec4e0de48573738456ebf1", func := "loop.example/g00950/laws.FnExactUnpack", spec := "fnExactUnpack", apart := false }
def FnExactUnpackSaid : Prop := fnExactUnpackRow.holds Try.pinned (OpenSpec.ofChange fnExactUnpackSpec)

/-- ITS FALSE NEIGHBOUR: 'it returns false'. Refute it at one input. -/
def fnExactUnpackWrong : ChangeSpec := { name := "fnExactUnpack", fn := fun _ => fun
  | [d] => { results := [.lit (.bool false)], args := [d] }
  | _ => none }
def FnExactUnpackWrongFalsely : Prop := fnExactUnpackRow.holds Try.pinned (OpenSpec.ofChange fnExactUnpackWrong)

/-- 'laws.FnCache': WHATEVER THE INPUT: true; the input reads as it did. -/
def fnCacheSpec : ChangeSpec := { name := "fnCache", fn := fun _ => fun
  | [d] => { results := [.lit (.bool true)], args := [d] }
  | _ => none }
def fnCacheRow : OpenClaim := { program := "ytfcnimglcialbaa", sum := "ecc1d9b4c8d08d9c42e02b33b160e5570200150162ec4e0de48573738456ebf1", func := "loop.example/g00950/laws.FnCache", spec := "fnCache", unfollowed := true, recurses := true, apart := false }
def FnCacheSaid : Prop := fnCacheRow.holds Try.pinned (OpenSpec.ofChange fnCacheSpec)

/-- ITS FALSE NEIGHBOUR: 'it returns false'. Refute it at one input. -/
def fnCacheWrong : ChangeSpec := { name := "fnCache", fn := fun _ => fun
  | [d] => { results := [.lit (.bool false)], args := [d] }
  | _ => none }
def FnCacheWrongFalsely : Prop := fnCacheRow.holds Try.pinned (OpenSpec.ofChange fnCacheWrong)

/-- 'laws.FnPack': WHATEVER THE INPUT: true; the input reads as it did. -/
def fnPackSpec : ChangeSpec := { name := "fnPack", fn := fun _ => fun
  | [d] => { results := [.lit (.bool true)], args := [d] }
  | _ => none }
def fnPackRow : OpenClaim := { program := "ytfcnimglcialbaa", sum := "ecc1d9b4c8d08d9c42e02b33b160e5570200150162ec4e0de48573738456ebf1", func := "loop.example/g00950/laws.FnPack", spec := "fnPack", apart := false }
def FnPackSaid : Prop := fnPackRow.holds Try.pinned (OpenSpec.ofChange fnPackSpec)

/-- ITS FALSE NEIGHBOUR: 'it returns false'. Refute it at one input. -/
def fnPackWrong : ChangeSpec := { name := "fnPack", fn := fun _ => fun
  | [d] => { results := [.lit (.bool false)], args := [d] }
  | _ => none }
def FnPackWrongFalsely : Prop := fnPackRow.holds Try.pinned (OpenSpec.ofChange fnPackWrong)

/-- 'laws.FnExactWalkOk': WHATEVER THE INPUT: true; the input reads as it did. -/
def fnExactWalkOkSpec : ChangeSpec := { name := "fnExactWalkOk", fn := fun _ => fun
  | [d] => { results := [.lit (.bool true)], args := [d] }
  | _ => none }
def fnExactWalkOkRow : OpenClaim := { program := "ytfcnimglcialbaa", sum := "ecc1d9b4c8d08d9c42e02b33b160e5570200150162ec4e0de48573738456ebf1", func := "loop.example/g00950/laws.FnExactWalkOk", spec := "fnExactWalkOk", apart := false }
def FnExactWalkOkSaid : Prop := fnExactWalkOkRow.holds Try.pinned (OpenSpec.ofChange fnExactWalkOkSpec)

/-- ITS FALSE NEIGHBOUR: 'it returns false'. Refute it at one input. -/
def fnExactWalkOkWrong : ChangeSpec := { name := "fnExactWalkOk", fn := fun _ => fun
  | [d] => { results := [.lit (.bool false)], args := [d] }
  | _ => none }
def FnExactWalkOkWrongFalsely : Prop := fnExactWalkOkRow.holds Try.pinned (OpenSpec.ofChange fnExactWalkOkWrong)

/-- 'laws.FnTurns': WHATEVER THE INPUT: true; the input reads as it did. -/
def fnTurnsSpec : ChangeSpec := { name := "fnTurns", fn := fun _ => fun
  | [d] => { results := [.lit (.bool true)], args := [d] }
  | _ => none }
def fnTurnsRow : OpenClaim := { program := "ytfcnimglcialbaa", sum := "ecc1d9b4c8d08d9c42e02b33b160e5570200150162ec4e0de48573738456ebf1", func := "loop.example/g00950/laws.FnTurns", spec := "fnTurns", apart := false }
def FnTurnsSaid : Prop := fnTurnsRow.holds Try.pinned (OpenSpec.ofChange fnTurnsSpec)

/-- ITS FALSE NEIGHBOUR: 'it returns false'. Refute it at one input. -/
def fnTurnsWrong : ChangeSpec := { name := "fnTurns", fn := fun _ => fun
  | [d] => { results := [.lit (.bool false)], args := [d] }
  | _ => none }
def FnTurnsWrongFalsely : Prop := fnTurnsRow.holds Try.pinned (OpenSpec.ofChange fnTurnsWrong)

/-- 'laws.FnExactShowDelta': WHATEVER THE INPUT: true; the input reads as it did. -/
def fnExactShowDeltaSpec : ChangeSpec := { name := "fnExactShowDelta", fn := fun _ => fun
  | [d] => { results := [.lit (.bool true)], args := [d] }
  | _ => none }
def fnExactShowDeltaRow : OpenClaim := { program := "ytfcnimglcialbaa", sum := "ecc1d9b4c8d08d9c42e02b33b160e5570200150162ec4e0de48573738456ebf1", func := "loop.example/g00950/laws.FnExactShowDelta", spec := "fnExactShowDelta", inPlace := ["internal/bytealg.abigen_runtime_cmpstring", "internal/abi.NoEscape"], unfollowed := true, recurses := true, apart := false }
def FnExactShowDeltaSaid : Prop := fnExactShowDeltaRow.holds Try.pinned (OpenSpec.ofChange fnExactShowDeltaSpec)

/-- ITS FALSE NEIGHBOUR: 'it returns false'. Refute it at one input. -/
def fnExactShowDeltaWrong : ChangeSpec := { name := "fnExactShowDelta", fn := fun _ => fun
  | [d] => { results := [.lit (.bool false)], args := [d] }
  | _ => none }
def FnExactShowDeltaWrongFalsely : Prop := fnExactShowDeltaRow.holds Try.pinned (OpenSpec.ofChange fnExactShowDeltaWrong)

/-- 'laws.FnSlots': WHATEVER THE INPUT: true; the input reads as it did. -/
def fnSlotsSpec : ChangeSpec := { name := "fnSlots", fn := fun _ => fun
  | [d] => { results := [.lit (.bool true)], args := [d] }
  | _ => none }
def fnSlotsRow : OpenClaim := { program := "ytfcnimglcialbaa", sum := "ecc1d9b4c8d08d9c42e02b33b160e5570200150162ec4e0de48573738456ebf1", func := "loop.example/g00950/laws.FnSlots", spec := "fnSlots", apart := false }
def FnSlotsSaid : Prop := fnSlotsRow.holds Try.pinned (OpenSpec.ofChange fnSlotsSpec)

/-- ITS FALSE NEIGHBOUR: 'it returns false'. Refute it at one input. -/
def fnSlotsWrong : ChangeSpec := { name := "fnSlots", fn := fun _ => fun
  | [d] => { results := [.lit (.bool false)], args := [d] }
  | _ => none }
def FnSlotsWrongFalsely : Prop := fnSlotsRow.holds Try.pinned (OpenSpec.ofChange fnSlotsWrong)

/-- 'laws.FnExactLinkSum': WHATEVER THE INPUT: true; the input reads as it did. -/
def fnExactLinkSumSpec : ChangeSpec := { name := "fnExactLinkSum", fn := fun _ => fun
  | [d1, d2, d3] => { results := [.lit (.bool true)], args := [d1, d2, d3] }
  | _ => none }
def fnExactLinkSumRow : OpenClaim := { program := "ytfcnimglcialbaa", sum := "ecc1d9b4c8d08d9c42e02b33b160e5570200150162ec4e0de48573738456ebf1", func := "loop.example/g00950/laws.FnExactLinkSum", spec := "fnExactLinkSum", inPlace := ["internal/abi.NoEscape", "internal/bytealg.MakeNoZero"], apart := false }
def FnExactLinkSumSaid : Prop := fnExactLinkSumRow.holds Try.pinned (OpenSpec.ofChange fnExactLinkSumSpec)

/-- ITS FALSE NEIGHBOUR: 'it returns false'. Refute it at one input. -/
def fnExactLinkSumWrong : ChangeSpec := { name := "fnExactLinkSum", fn := fun _ => fun
  | [d1, d2, d3] => { results := [.lit (.bool false)], args := [d1, d2, d3] }
  | _ => none }
def FnExactLinkSumWrongFalsely : Prop := fnExactLinkSumRow.holds Try.pinned (OpenSpec.ofChange fnExactLinkSumWrong)

/-- 'laws.FnExactRekeyOk': WHATEVER THE INPUT: true; the input reads as it did. -/
def fnExactRekeyOkSpec : ChangeSpec := { name := "fnExactRekeyOk", fn := fun _ => fun
  | [d] => { results := [.lit (.bool true)], args := [d] }
  | _ => none }
def fnExactRekeyOkRow : OpenClaim := { program := "ytfcnimglcialbaa", sum := "ecc1d9b4c8d08d9c42e02b33b160e5570200150162ec4e0de48573738456ebf1", func := "loop.example/g00950/laws.FnExactRekeyOk", spec := "fnExactRekeyOk", apart := false }
def FnExactRekeyOkSaid : Prop := fnExactRekeyOkRow.holds Try.pinned (OpenSpec.ofChange fnExactRekeyOkSpec)

/-- ITS FALSE NEIGHBOUR: 'it returns false'. Refute it at one input. -/
def fnExactRekeyOkWrong : ChangeSpec := { name := "fnExactRekeyOk", fn := fun _ => fun
  | [d] => { results := [.lit (.bool false)], args := [d] }
  | _ => none }
def FnExactRekeyOkWrongFalsely : Prop := fnExactRekeyOkRow.holds Try.pinned (OpenSpec.ofChange fnExactRekeyOkWrong)

/-- 'laws.FnExactRekeyKey': WHATEVER THE INPUT: true; the input reads as it did. -/
def fnExactRekeyKeySpec : ChangeSpec := { name := "fnExactRekeyKey", fn := fun _ => fun
  | [d1, d2] => { results := [.lit (.bool true)], args := [d1, d2] }
  | _ => none }
def fnExactRekeyKeyRow : OpenClaim := { program := "ytfcnimglcialbaa", sum := "ecc1d9b4c8d08d9c42e02b33b160e5570200150162ec4e0de48573738456ebf1", func := "loop.example/g00950/laws.FnExactRekeyKey", spec := "fnExactRekeyKey", apart := false }
def FnExactRekeyKeySaid : Prop := fnExactRekeyKeyRow.holds Try.pinned (OpenSpec.ofChange fnExactRekeyKeySpec)

/-- ITS FALSE NEIGHBOUR: 'it returns false'. Refute it at one input. -/
def fnExactRekeyKeyWrong : ChangeSpec := { name := "fnExactRekeyKey", fn := fun _ => fun
  | [d1, d2] => { results := [.lit (.bool false)], args := [d1, d2] }
  | _ => none }
def FnExactRekeyKeyWrongFalsely : Prop := fnExactRekeyKeyRow.holds Try.pinned (OpenSpec.ofChange fnExactRekeyKeyWrong)

/-- 'laws.FnExactReadDelta': WHATEVER THE INPUT: true; the input reads as it did. -/
def fnExactReadDeltaSpec : ChangeSpec := { name := "fnExactReadDelta", fn := fun _ => fun
  | [d] => { results := [.lit (.bool true)], args := [d] }
  | _ => none }
def fnExactReadDeltaRow : OpenClaim := { program := "ytfcnimglcialbaa", sum := "ecc1d9b4c8d08d9c42e02b33b160e5570200150162ec4e0de48573738456ebf1", func := "loop.example/g00950/laws.FnExactReadDelta", spec := "fnExactReadDelta", inPlace := ["internal/bytealg.abigen_runtime_cmpstring", "internal/abi.NoEscape"], unfollowed := true, recurses := true, apart := false }
def FnExactReadDeltaSaid : Prop := fnExactReadDeltaRow.holds Try.pinned (OpenSpec.ofChange fnExactReadDeltaSpec)

/-- ITS FALSE NEIGHBOUR: 'it returns false'. Refute it at one input. -/
def fnExactReadDeltaWrong : ChangeSpec := { name := "fnExactReadDelta", fn := fun _ => fun
  | [d] => { results := [.lit (.bool false)], args := [d] }
  | _ => none }
def FnExactReadDeltaWrongFalsely : Prop := fnExactReadDeltaRow.holds Try.pinned (OpenSpec.ofChange fnExactReadDeltaWrong)

/-- 'laws.FnExactApplyDelta': WHATEVER THE INPUT: true; the input reads as it did. -/
def fnExactApplyDeltaSpec : ChangeSpec := { name := "fnExactApplyDelta", fn := fun _ => fun
  | [d1, d2] => { results := [.lit (.bool true)], args := [d1, d2] }
  | _ => none }
def fnExactApplyDeltaRow : OpenClaim := { program := "ytfcnimglcialbaa", sum := "ecc1d9b4c8d08d9c42e02b33b160e5570200150162ec4e0de48573738456ebf1", func := "loop.example/g00950/laws.FnExactApplyDelta", spec := "fnExactApplyDelta", inPlace := ["internal/bytealg.abigen_runtime_cmpstring", "slices.overlaps[loop.example/g00950/impl.KV]"], unfollowed := true, recurses := true, apart := false }
def FnExactApplyDeltaSaid : Prop := fnExactApplyDeltaRow.holds Try.pinned (OpenSpec.ofChange fnExactApplyDeltaSpec)

/-- ITS FALSE NEIGHBOUR: 'it returns false'. Refute it at one input. -/
def fnExactApplyDeltaWrong : ChangeSpec := { name := "fnExactApplyDelta", fn := fun _ => fun
  | [d1, d2] => { results := [.lit (.bool false)], args := [d1, d2] }
  | _ => none }
def FnExactApplyDeltaWrongFalsely : Prop := fnExactApplyDeltaRow.holds Try.pinned (OpenSpec.ofChange fnExactApplyDeltaWrong)

/-- 'laws.FnExactRekeyEnd': WHATEVER THE INPUT: true; the input reads as it did. -/
def fnExactRekeyEndSpec : ChangeSpec := { name := "fnExactRekeyEnd", fn := fun _ => fun
  | [d] => { results := [.lit (.bool true)], args := [d] }
  | _ => none }
def fnExactRekeyEndRow : OpenClaim := { program := "ytfcnimglcialbaa", sum := "ecc1d9b4c8d08d9c42e02b33b160e5570200150162ec4e0de48573738456ebf1", func := "loop.example/g00950/laws.FnExactRekeyEnd", spec := "fnExactRekeyEnd", apart := false }
def FnExactRekeyEndSaid : Prop := fnExactRekeyEndRow.holds Try.pinned (OpenSpec.ofChange fnExactRekeyEndSpec)

/-- ITS FALSE NEIGHBOUR: 'it returns false'. Refute it at one input. -/
def fnExactRekeyEndWrong : ChangeSpec := { name := "fnExactRekeyEnd", fn := fun _ => fun
  | [d] => { results := [.lit (.bool false)], args := [d] }
  | _ => none }
def FnExactRekeyEndWrongFalsely : Prop := fnExactRekeyEndRow.holds Try.pinned (OpenSpec.ofChange fnExactRekeyEndWrong)

/-- 'laws.FnExactRekeyStep': WHATEVER THE INPUT: true; the input reads as it did. -/
def fnExactRekeyStepSpec : ChangeSpec := { name := "fnExactRekeyStep", fn := fun _ => fun
  | [d] => { results := [.lit (.bool true)], args := [d] }
  | _ => none }
def fnExactRekeyStepRow : OpenClaim := { program := "ytfcnimglcialbaa", sum := "ecc1d9b4c8d08d9c42e02b33b160e5570200150162ec4e0de48573738456ebf1", func := "loop.example/g00950/laws.FnExactRekeyStep", spec := "fnExactRekeyStep", apart := false }
def FnExactRekeyStepSaid : Prop := fnExactRekeyStepRow.holds Try.pinned (OpenSpec.ofChange fnExactRekeyStepSpec)

/-- ITS FALSE NEIGHBOUR: 'it returns false'. Refute it at one input. -/
def fnExactRekeyStepWrong : ChangeSpec := { name := "fnExactRekeyStep", fn := fun _ => fun
  | [d] => { results := [.lit (.bool false)], args := [d] }
  | _ => none }
def FnExactRekeyStepWrongFalsely : Prop := fnExactRekeyStepRow.holds Try.pinned (OpenSpec.ofChange fnExactRekeyStepWrong)

/-- 'laws.FnRekey': WHATEVER THE INPUT: true; the input reads as it did. -/
def fnRekeySpec : ChangeSpec := { name := "fnRekey", fn := fun _ => fun
  | [d] => { results := [.lit (.bool true)], args := [d] }
  | _ => none }
def fnRekeyRow : OpenClaim := { program := "ytfcnimglcialbaa", sum := "ecc1d9b4c8d08d9c42e02b33b160e5570200150162ec4e0de48573738456ebf1", func := "loop.example/g00950/laws.FnRekey", spec := "fnRekey", apart := false }
def FnRekeySaid : Prop := fnRekeyRow.holds Try.pinned (OpenSpec.ofChange fnRekeySpec)

/-- ITS FALSE NEIGHBOUR: 'it returns false'. Refute it at one input. -/
def fnRekeyWrong : ChangeSpec := { name := "fnRekey", fn := fun _ => fun
  | [d] => { results := [.lit (.bool false)], args := [d] }
  | _ => none }
def FnRekeyWrongFalsely : Prop := fnRekeyRow.holds Try.pinned (OpenSpec.ofChange fnRekeyWrong)

/-- 'laws.FnExactChainAdd': WHATEVER THE INPUT: true; the input reads as it did. -/
def fnExactChainAddSpec : ChangeSpec := { name := "fnExactChainAdd", fn := fun _ => fun
  | [d1, d2, d3] => { results := [.lit (.bool true)], args := [d1, d2, d3] }
  | _ => none }
def fnExactChainAddRow : OpenClaim := { program := "ytfcnimglcialbaa", sum := "ecc1d9b4c8d08d9c42e02b33b160e5570200150162ec4e0de48573738456ebf1", func := "loop.example/g00950/laws.FnExactChainAdd", spec := "fnExactChainAdd", inPlace := ["internal/abi.NoEscape", "internal/bytealg.MakeNoZero"], apart := false }
def FnExactChainAddSaid : Prop := fnExactChainAddRow.holds Try.pinned (OpenSpec.ofChange fnExactChainAddSpec)

/-- ITS FALSE NEIGHBOUR: 'it returns false'. Refute it at one input. -/
def fnExactChainAddWrong : ChangeSpec := { name := "fnExactChainAdd", fn := fun _ => fun
  | [d1, d2, d3] => { results := [.lit (.bool false)], args := [d1, d2, d3] }
  | _ => none }
def FnExactChainAddWrongFalsely : Prop := fnExactChainAddRow.holds Try.pinned (OpenSpec.ofChange fnExactChainAddWrong)

/-- 'laws.FnExactChainSince': WHATEVER THE INPUT: true; the input reads as it did. -/
def fnExactChainSinceSpec : ChangeSpec := { name := "fnExactChainSince", fn := fun _ => fun
  | [d1, d2] => { results := [.lit (.bool true)], args := [d1, d2] }
  | _ => none }
def fnExactChainSinceRow : OpenClaim := { program := "ytfcnimglcialbaa", sum := "ecc1d9b4c8d08d9c42e02b33b160e5570200150162ec4e0de48573738456ebf1", func := "loop.example/g00950/laws.FnExactChainSince", spec := "fnExactChainSince", inPlace := ["internal/abi.NoEscape", "internal/bytealg.MakeNoZero"], unfollowed := true, recurses := true, apart := false }
def FnExactChainSinceSaid : Prop := fnExactChainSinceRow.holds Try.pinned (OpenSpec.ofChange fnExactChainSinceSpec)

/-- ITS FALSE NEIGHBOUR: 'it returns false'. Refute it at one input. -/
def fnExactChainSinceWrong : ChangeSpec := { name := "fnExactChainSince", fn := fun _ => fun
  | [d1, d2] => { results := [.lit (.bool false)], args := [d1, d2] }
  | _ => none }
def FnExactChainSinceWrongFalsely : Prop := fnExactChainSinceRow.holds Try.pinned (OpenSpec.ofChange fnExactChainSinceWrong)

/-- 'laws.FnExactJoinDelta': WHATEVER THE INPUT: true; the input reads as it did. -/
def fnExactJoinDeltaSpec : ChangeSpec := { name := "fnExactJoinDelta", fn := fun _ => fun
  | [d1, d2] => { results := [.lit (.bool true)], args := [d1, d2] }
  | _ => none }
def fnExactJoinDeltaRow : OpenClaim := { program := "ytfcnimglcialbaa", sum := "ecc1d9b4c8d08d9c42e02b33b160e5570200150162ec4e0de48573738456ebf1", func := "loop.example/g00950/laws.FnExactJoinDelta", spec := "fnExactJoinDelta", inPlace := ["internal/bytealg.abigen_runtime_cmpstring", "slices.overlaps[loop.example/g00950/impl.KV]"], unfollowed := true, recurses := true, apart := false }
def FnExactJoinDeltaSaid : Prop := fnExactJoinDeltaRow.holds Try.pinned (OpenSpec.ofChange fnExactJoinDeltaSpec)

/-- ITS FALSE NEIGHBOUR: 'it returns false'. Refute it at one input. -/
def fnExactJoinDeltaWrong : ChangeSpec := { name := "fnExactJoinDelta", fn := fun _ => fun
  | [d1, d2] => { results := [.lit (.bool false)], args := [d1, d2] }
  | _ => none }
def FnExactJoinDeltaWrongFalsely : Prop := fnExactJoinDeltaRow.holds Try.pinned (OpenSpec.ofChange fnExactJoinDeltaWrong)

/- THE SECOND FORM. 'bulk': how many values and letters a reading holds, each counted each time it is reached (what is shared counts as often as it is met; a slice's spare places count too). A statement '..UptoSaid' is the law's where the arguments, and the package variables that the reading takes, are together of bulk at most 1048576: NARROWER than '..Said'. Prove '..Said' where nothing that the law and all that it calls make is longer than what came in: it says more and counts as full. Else prove '..UptoSaid'. A law counts once. -/
mutual
def uptoBulk {H : Type} : DataW H → Nat
  | .lit (.string bytes) => bytes.length + 1
  | .lit _ => 1
  | .nil => 1
  | .ptr d => uptoBulk d + 1
  | .slice elems spare => uptoBulkAll elems + uptoBulkAll spare + 1
  | .agg parts => uptoBulkAll parts + 1
  | .iface _ d => uptoBulk d + 1
  | .map entries => uptoBulkEntries entries + 1
  | .held _ => 1
def uptoBulkAll {H : Type} : List (DataW H) → Nat
  | [] => 0
  | d :: r => uptoBulk d + uptoBulkAll r
def uptoBulkEntries {H : Type} : List (Lit × DataW H) → Nat
  | [] => 0
  | x :: r => uptoBulkEntry x + uptoBulkEntries r
def uptoBulkEntry {H : Type} : Lit × DataW H → Nat
  | (.string bytes, d) => bytes.length + uptoBulk d + 1
  | (_, d) => uptoBulk d + 1
 end
def uptoSmall : (H : Type) → List (DataW H) → Bool := fun _ ds => decide (uptoBulkAll ds ≤ 1048576)
def OpenSpec.upto (s : _root_.Go.ChangeSpec) : _root_.Go.OpenSpec := { _root_.Go.OpenSpec.ofChange s with cond := some uptoSmall }

/-- 'laws.FnExactUnpack', WHERE WHAT IT READS IS OF BULK AT MOST 1048576: true; the input reads as it did. -/
def fnExactUnpackUptoRow : OpenClaim := { program := "ytfcnimglcialbaa", sum := "ecc1d9b4c8d08d9c42e02b33b160e5570200150162ec4e0de48573738456ebf1", func := "loop.example/g00950/laws.FnExactUnpack", spec := "fnExactUnpack", apart := false, narrowed := true }
def FnExactUnpackUptoSaid : Prop := fnExactUnpackUptoRow.holds Try.pinned (OpenSpec.upto fnExactUnpackSpec)

/-- 'laws.FnCache', WHERE WHAT IT READS IS OF BULK AT MOST 1048576: true; the input reads as it did. -/
def fnCacheUptoRow : OpenClaim := { program := "ytfcnimglcialbaa", sum := "ecc1d9b4c8d08d9c42e02b33b160e5570200150162ec4e0de48573738456ebf1", func := "loop.example/g00950/laws.FnCache", spec := "fnCache", unfollowed := true, recurses := true, apart := false, narrowed := true }
def FnCacheUptoSaid : Prop := fnCacheUptoRow.holds Try.pinned (OpenSpec.upto fnCacheSpec)

/-- 'laws.FnPack', WHERE WHAT IT READS IS OF BULK AT MOST 1048576: true; the input reads as it did. -/
def fnPackUptoRow : OpenClaim := { program := "ytfcnimglcialbaa", sum := "ecc1d9b4c8d08d9c42e02b33b160e5570200150162ec4e0de48573738456ebf1", func := "loop.example/g00950/laws.FnPack", spec := "fnPack", apart := false, narrowed := true }
def FnPackUptoSaid : Prop := fnPackUptoRow.holds Try.pinned (OpenSpec.upto fnPackSpec)

/-- 'laws.FnExactWalkOk', WHERE WHAT IT READS IS OF BULK AT MOST 1048576: true; the input reads as it did. -/
def fnExactWalkOkUptoRow : OpenClaim := { program := "ytfcnimglcialbaa", sum := "ecc1d9b4c8d08d9c42e02b33b160e5570200150162ec4e0de48573738456ebf1", func := "loop.example/g00950/laws.FnExactWalkOk", spec := "fnExactWalkOk", apart := false, narrowed := true }
def FnExactWalkOkUptoSaid : Prop := fnExactWalkOkUptoRow.holds Try.pinned (OpenSpec.upto fnExactWalkOkSpec)

/-- 'laws.FnTurns', WHERE WHAT IT READS IS OF BULK AT MOST 1048576: true; the input reads as it did. -/
def fnTurnsUptoRow : OpenClaim := { program := "ytfcnimglcialbaa", sum := "ecc1d9b4c8d08d9c42e02b33b160e5570200150162ec4e0de48573738456ebf1", func := "loop.example/g00950/laws.FnTurns", spec := "fnTurns", apart := false, narrowed := true }
def FnTurnsUptoSaid : Prop := fnTurnsUptoRow.holds Try.pinned (OpenSpec.upto fnTurnsSpec)

/-- 'laws.FnExactShowDelta', WHERE WHAT IT READS IS OF BULK AT MOST 1048576: true; the input reads as it did. -/
def fnExactShowDeltaUptoRow : OpenClaim := { program := "ytfcnimglcialbaa", sum := "ecc1d9b4c8d08d9c42e02b33b160e5570200150162ec4e0de48573738456ebf1", func := "loop.example/g00950/laws.FnExactShowDelta", spec := "fnExactShowDelta", inPlace := ["internal/bytealg.abigen_runtime_cmpstring", "internal/abi.NoEscape"], unfollowed := true, recurses := true, apart := false, narrowed := true }
def FnExactShowDeltaUptoSaid : Prop := fnExactShowDeltaUptoRow.holds Try.pinned (OpenSpec.upto fnExactShowDeltaSpec)

/-- 'laws.FnSlots', WHERE WHAT IT READS IS OF BULK AT MOST 1048576: true; the input reads as it did. -/
def fnSlotsUptoRow : OpenClaim := { program := "ytfcnimglcialbaa", sum := "ecc1d9b4c8d08d9c42e02b33b160e5570200150162ec4e0de48573738456ebf1", func := "loop.example/g00950/laws.FnSlots", spec := "fnSlots", apart := false, narrowed := true }
def FnSlotsUptoSaid : Prop := fnSlotsUptoRow.holds Try.pinned (OpenSpec.upto fnSlotsSpec)

/-- 'laws.FnExactLinkSum', WHERE WHAT IT READS IS OF BULK AT MOST 1048576: true; the input reads as it did. -/
def fnExactLinkSumUptoRow : OpenClaim := { program := "ytfcnimglcialbaa", sum := "ecc1d9b4c8d08d9c42e02b33b160e5570200150162ec4e0de48573738456ebf1", func := "loop.example/g00950/laws.FnExactLinkSum", spec := "fnExactLinkSum", inPlace := ["internal/abi.NoEscape", "internal/bytealg.MakeNoZero"], apart := false, narrowed := true }
def FnExactLinkSumUptoSaid : Prop := fnExactLinkSumUptoRow.holds Try.pinned (OpenSpec.upto fnExactLinkSumSpec)

/-- 'laws.FnExactRekeyOk', WHERE WHAT IT READS IS OF BULK AT MOST 1048576: true; the input reads as it did. -/
def fnExactRekeyOkUptoRow : OpenClaim := { program := "ytfcnimglcialbaa", sum := "ecc1d9b4c8d08d9c42e02b33b160e5570200150162ec4e0de48573738456ebf1", func := "loop.example/g00950/laws.FnExactRekeyOk", spec := "fnExactRekeyOk", apart := false, narrowed := true }
def FnExactRekeyOkUptoSaid : Prop := fnExactRekeyOkUptoRow.holds Try.pinned (OpenSpec.upto fnExactRekeyOkSpec)

/-- 'laws.FnExactRekeyKey', WHERE WHAT IT READS IS OF BULK AT MOST 1048576: true; the input reads as it did. -/
def fnExactRekeyKeyUptoRow : OpenClaim := { program := "ytfcnimglcialbaa", sum := "ecc1d9b4c8d08d9c42e02b33b160e5570200150162ec4e0de48573738456ebf1", func := "loop.example/g00950/laws.FnExactRekeyKey", spec := "fnExactRekeyKey", apart := false, narrowed := true }
def FnExactRekeyKeyUptoSaid : Prop := fnExactRekeyKeyUptoRow.holds Try.pinned (OpenSpec.upto fnExactRekeyKeySpec)

/-- 'laws.FnExactReadDelta', WHERE WHAT IT READS IS OF BULK AT MOST 1048576: true; the input reads as it did. -/
def fnExactReadDeltaUptoRow : OpenClaim := { program := "ytfcnimglcialbaa", sum := "ecc1d9b4c8d08d9c42e02b33b160e5570200150162ec4e0de48573738456ebf1", func := "loop.example/g00950/laws.FnExactReadDelta", spec := "fnExactReadDelta", inPlace := ["internal/bytealg.abigen_runtime_cmpstring", "internal/abi.NoEscape"], unfollowed := true, recurses := true, apart := false, narrowed := true }
def FnExactReadDeltaUptoSaid : Prop := fnExactReadDeltaUptoRow.holds Try.pinned (OpenSpec.upto fnExactReadDeltaSpec)

/-- 'laws.FnExactApplyDelta', WHERE WHAT IT READS IS OF BULK AT MOST 1048576: true; the input reads as it did. -/
def fnExactApplyDeltaUptoRow : OpenClaim := { program := "ytfcnimglcialbaa", sum := "ecc1d9b4c8d08d9c42e02b33b160e5570200150162ec4e0de48573738456ebf1", func := "loop.example/g00950/laws.FnExactApplyDelta", spec := "fnExactApplyDelta", inPlace := ["internal/bytealg.abigen_runtime_cmpstring", "slices.overlaps[loop.example/g00950/impl.KV]"], unfollowed := true, recurses := true, apart := false, narrowed := true }
def FnExactApplyDeltaUptoSaid : Prop := fnExactApplyDeltaUptoRow.holds Try.pinned (OpenSpec.upto fnExactApplyDeltaSpec)

/-- 'laws.FnExactRekeyEnd', WHERE WHAT IT READS IS OF BULK AT MOST 1048576: true; the input reads as it did. -/
def fnExactRekeyEndUptoRow : OpenClaim := { program := "ytfcnimglcialbaa", sum := "ecc1d9b4c8d08d9c42e02b33b160e5570200150162ec4e0de48573738456ebf1", func := "loop.example/g00950/laws.FnExactRekeyEnd", spec := "fnExactRekeyEnd", apart := false, narrowed := true }
def FnExactRekeyEndUptoSaid : Prop := fnExactRekeyEndUptoRow.holds Try.pinned (OpenSpec.upto fnExactRekeyEndSpec)

/-- 'laws.FnExactRekeyStep', WHERE WHAT IT READS IS OF BULK AT MOST 1048576: true; the input reads as it did. -/
def fnExactRekeyStepUptoRow : OpenClaim := { program := "ytfcnimglcialbaa", sum := "ecc1d9b4c8d08d9c42e02b33b160e5570200150162ec4e0de48573738456ebf1", func := "loop.example/g00950/laws.FnExactRekeyStep", spec := "fnExactRekeyStep", apart := false, narrowed := true }
def FnExactRekeyStepUptoSaid : Prop := fnExactRekeyStepUptoRow.holds Try.pinned (OpenSpec.upto fnExactRekeyStepSpec)

/-- 'laws.FnRekey', WHERE WHAT IT READS IS OF BULK AT MOST 1048576: true; the input reads as it did. -/
def fnRekeyUptoRow : OpenClaim := { program := "ytfcnimglcialbaa", sum := "ecc1d9b4c8d08d9c42e02b33b160e5570200150162ec4e0de48573738456ebf1", func := "loop.example/g00950/laws.FnRekey", spec := "fnRekey", apart := false, narrowed := true }
def FnRekeyUptoSaid : Prop := fnRekeyUptoRow.holds Try.pinned (OpenSpec.upto fnRekeySpec)

/-- 'laws.FnExactChainAdd', WHERE WHAT IT READS IS OF BULK AT MOST 1048576: true; the input reads as it did. -/
def fnExactChainAddUptoRow : OpenClaim := { program := "ytfcnimglcialbaa", sum := "ecc1d9b4c8d08d9c42e02b33b160e5570200150162ec4e0de48573738456ebf1", func := "loop.example/g00950/laws.FnExactChainAdd", spec := "fnExactChainAdd", inPlace := ["internal/abi.NoEscape", "internal/bytealg.MakeNoZero"], apart := false, narrowed := true }
def FnExactChainAddUptoSaid : Prop := fnExactChainAddUptoRow.holds Try.pinned (OpenSpec.upto fnExactChainAddSpec)

/-- 'laws.FnExactChainSince', WHERE WHAT IT READS IS OF BULK AT MOST 1048576: true; the input reads as it did. -/
def fnExactChainSinceUptoRow : OpenClaim := { program := "ytfcnimglcialbaa", sum := "ecc1d9b4c8d08d9c42e02b33b160e5570200150162ec4e0de48573738456ebf1", func := "loop.example/g00950/laws.FnExactChainSince", spec := "fnExactChainSince", inPlace := ["internal/abi.NoEscape", "internal/bytealg.MakeNoZero"], unfollowed := true, recurses := true, apart := false, narrowed := true }
def FnExactChainSinceUptoSaid : Prop := fnExactChainSinceUptoRow.holds Try.pinned (OpenSpec.upto fnExactChainSinceSpec)

/-- 'laws.FnExactJoinDelta', WHERE WHAT IT READS IS OF BULK AT MOST 1048576: true; the input reads as it did. -/
def fnExactJoinDeltaUptoRow : OpenClaim := { program := "ytfcnimglcialbaa", sum := "ecc1d9b4c8d08d9c42e02b33b160e5570200150162ec4e0de48573738456ebf1", func := "loop.example/g00950/laws.FnExactJoinDelta", spec := "fnExactJoinDelta", inPlace := ["internal/bytealg.abigen_runtime_cmpstring", "slices.overlaps[loop.example/g00950/impl.KV]"], unfollowed := true, recurses := true, apart := false, narrowed := true }
def FnExactJoinDeltaUptoSaid : Prop := fnExactJoinDeltaUptoRow.holds Try.pinned (OpenSpec.upto fnExactJoinDeltaSpec)

end Rows
end Go.Proofs.Ytfcnimglcialbaa
