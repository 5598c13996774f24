/-
  No cell of these rows narrows 'for every input' (looked for: loops, veiled, ifaces, maps, wideKeys, modest, calm, conditions, laid).
  DERIVED. THE GIVEN ROWS OF THIS SEAT. 12 by the template 'for every input the law returns true; each argument reads behind the call as it read before'; 0 by the template 'total and deterministic' (their statements: YtjmkkncjbnohoaaTotals.lean).
  GIVEN WITH THE SEED: the statements are not yours to turn. If you find one false, say at which input.
  Laid BY PROGRAM, IN A SANDBOX (cutbox-rows.mjs): the forced cells as the released guide's own fill.sh prints them over the translation 6c9e9c5c762c785b… (all of the seat's roots in one cut). By AI agents, Wed Nov 11 2026. No macro, syntax, notation, axiom, sorry.
-/
import Derived.Test.YtjmkkncjbnohoaaChecked
import GoSem.Claim
import GoSem.ClaimJoined
import GoSem.ClaimMapViews
import Derived.JoinedTies
import Derived.KernelRfl
namespace Go.Proofs.Ytjmkkncjbnohoaa
/- THE CELL 'sum', in the pinned program and in every row, IS THE sha256 OF THE DUMP (.gsa) THAT YtjmkkncjbnohoaaProg.lean LOADS. Nothing in Lean hashes anything: it is a label: what it is worth is what the hold of that sum in a sandbox is worth. -/
noncomputable def Try.pinned : Pinned := { name := "ytjmkkncjbnohoaa", sum := "6c9e9c5c762c785b48774e523767099505bbe43f9014f4b3a09c28fabdab0fee", checked := Try.checked }
namespace Rows
def none {H : Type} : Left H := { results := [], args := [] }

/-- 'laws.FnExactKeyNext': WHATEVER THE INPUT: true; the input reads as it did. -/
def fnExactKeyNextSpec : ChangeSpec := { name := "fnExactKeyNext", fn := fun _ => fun
  | [d] => { results := [.lit (.bool true)], args := [d] }
  | _ => none }
def fnExactKeyNextRow : OpenClaim := { program := "ytjmkkncjbnohoaa", sum := "6c9e9c5c762c785b48774e523767099505bbe43f9014f4b3a09c28fabdab0fee", func := "loop.example/g00950/laws.FnExactKeyNext", spec := "fnExactKeyNext", apart := false }
def FnExactKeyNextSaid : Prop := fnExactKeyNextRow.holds Try.pinned (OpenSpec.ofChange fnExactKeyNextSpec)

/-- ITS FALSE NEIGHBOUR: 'it returns false'. Refute it at one input. -/
def fnExactKeyNextWrong : ChangeSpec := { name := "fnExactKeyNext", fn := fun _ => fun
  | [d] => { results := [.lit (.bool false)], args := [d] }
  | _ => none }
def FnExactKeyNextWrongFalsely : Prop := fnExactKeyNextRow.holds Try.pinned (OpenSpec.ofChange fnExactKeyNextWrong)

/-- 'laws.FnExactPrefixEnd': WHATEVER THE INPUT: true; the input reads as it did. -/
def fnExactPrefixEndSpec : ChangeSpec := { name := "fnExactPrefixEnd", fn := fun _ => fun
  | [d] => { results := [.lit (.bool true)], args := [d] }
  | _ => none }
def fnExactPrefixEndRow : OpenClaim := { program := "ytjmkkncjbnohoaa", sum := "6c9e9c5c762c785b48774e523767099505bbe43f9014f4b3a09c28fabdab0fee", func := "loop.example/g00950/laws.FnExactPrefixEnd", spec := "fnExactPrefixEnd", apart := false }
def FnExactPrefixEndSaid : Prop := fnExactPrefixEndRow.holds Try.pinned (OpenSpec.ofChange fnExactPrefixEndSpec)

/-- ITS FALSE NEIGHBOUR: 'it returns false'. Refute it at one input. -/
def fnExactPrefixEndWrong : ChangeSpec := { name := "fnExactPrefixEnd", fn := fun _ => fun
  | [d] => { results := [.lit (.bool false)], args := [d] }
  | _ => none }
def FnExactPrefixEndWrongFalsely : Prop := fnExactPrefixEndRow.holds Try.pinned (OpenSpec.ofChange fnExactPrefixEndWrong)

/-- 'laws.FnExactOverlap': WHATEVER THE INPUT: true; the input reads as it did. -/
def fnExactOverlapSpec : ChangeSpec := { name := "fnExactOverlap", fn := fun _ => fun
  | [d1, d2, d3, d4] => { results := [.lit (.bool true)], args := [d1, d2, d3, d4] }
  | _ => none }
def fnExactOverlapRow : OpenClaim := { program := "ytjmkkncjbnohoaa", sum := "6c9e9c5c762c785b48774e523767099505bbe43f9014f4b3a09c28fabdab0fee", func := "loop.example/g00950/laws.FnExactOverlap", spec := "fnExactOverlap", apart := false }
def FnExactOverlapSaid : Prop := fnExactOverlapRow.holds Try.pinned (OpenSpec.ofChange fnExactOverlapSpec)

/-- ITS FALSE NEIGHBOUR: 'it returns false'. Refute it at one input. -/
def fnExactOverlapWrong : ChangeSpec := { name := "fnExactOverlap", fn := fun _ => fun
  | [d1, d2, d3, d4] => { results := [.lit (.bool false)], args := [d1, d2, d3, d4] }
  | _ => none }
def FnExactOverlapWrongFalsely : Prop := fnExactOverlapRow.holds Try.pinned (OpenSpec.ofChange fnExactOverlapWrong)

/-- 'laws.FnExactClip': WHATEVER THE INPUT: true; the input reads as it did. -/
def fnExactClipSpec : ChangeSpec := { name := "fnExactClip", fn := fun _ => fun
  | [d1, d2, d3, d4] => { results := [.lit (.bool true)], args := [d1, d2, d3, d4] }
  | _ => none }
def fnExactClipRow : OpenClaim := { program := "ytjmkkncjbnohoaa", sum := "6c9e9c5c762c785b48774e523767099505bbe43f9014f4b3a09c28fabdab0fee", func := "loop.example/g00950/laws.FnExactClip", spec := "fnExactClip", apart := false }
def FnExactClipSaid : Prop := fnExactClipRow.holds Try.pinned (OpenSpec.ofChange fnExactClipSpec)

/-- ITS FALSE NEIGHBOUR: 'it returns false'. Refute it at one input. -/
def fnExactClipWrong : ChangeSpec := { name := "fnExactClip", fn := fun _ => fun
  | [d1, d2, d3, d4] => { results := [.lit (.bool false)], args := [d1, d2, d3, d4] }
  | _ => none }
def FnExactClipWrongFalsely : Prop := fnExactClipRow.holds Try.pinned (OpenSpec.ofChange fnExactClipWrong)

/-- 'laws.FnExactPack': WHATEVER THE INPUT: true; the input reads as it did. -/
def fnExactPackSpec : ChangeSpec := { name := "fnExactPack", fn := fun _ => fun
  | [d] => { results := [.lit (.bool true)], args := [d] }
  | _ => none }
def fnExactPackRow : OpenClaim := { program := "ytjmkkncjbnohoaa", sum := "6c9e9c5c762c785b48774e523767099505bbe43f9014f4b3a09c28fabdab0fee", func := "loop.example/g00950/laws.FnExactPack", spec := "fnExactPack", apart := false }
def FnExactPackSaid : Prop := fnExactPackRow.holds Try.pinned (OpenSpec.ofChange fnExactPackSpec)

/-- ITS FALSE NEIGHBOUR: 'it returns false'. Refute it at one input. -/
def fnExactPackWrong : ChangeSpec := { name := "fnExactPack", fn := fun _ => fun
  | [d] => { results := [.lit (.bool false)], args := [d] }
  | _ => none }
def FnExactPackWrongFalsely : Prop := fnExactPackRow.holds Try.pinned (OpenSpec.ofChange fnExactPackWrong)

/-- 'laws.FnExactTotalOf': WHATEVER THE INPUT: true; the input reads as it did. -/
def fnExactTotalOfSpec : ChangeSpec := { name := "fnExactTotalOf", fn := fun _ => fun
  | [d] => { results := [.lit (.bool true)], args := [d] }
  | _ => none }
def fnExactTotalOfRow : OpenClaim := { program := "ytjmkkncjbnohoaa", sum := "6c9e9c5c762c785b48774e523767099505bbe43f9014f4b3a09c28fabdab0fee", func := "loop.example/g00950/laws.FnExactTotalOf", spec := "fnExactTotalOf", apart := false }
def FnExactTotalOfSaid : Prop := fnExactTotalOfRow.holds Try.pinned (OpenSpec.ofChange fnExactTotalOfSpec)

/-- ITS FALSE NEIGHBOUR: 'it returns false'. Refute it at one input. -/
def fnExactTotalOfWrong : ChangeSpec := { name := "fnExactTotalOf", fn := fun _ => fun
  | [d] => { results := [.lit (.bool false)], args := [d] }
  | _ => none }
def FnExactTotalOfWrongFalsely : Prop := fnExactTotalOfRow.holds Try.pinned (OpenSpec.ofChange fnExactTotalOfWrong)

/-- 'laws.FnExactFullest': WHATEVER THE INPUT: true; the input reads as it did. -/
def fnExactFullestSpec : ChangeSpec := { name := "fnExactFullest", fn := fun _ => fun
  | [d] => { results := [.lit (.bool true)], args := [d] }
  | _ => none }
def fnExactFullestRow : OpenClaim := { program := "ytjmkkncjbnohoaa", sum := "6c9e9c5c762c785b48774e523767099505bbe43f9014f4b3a09c28fabdab0fee", func := "loop.example/g00950/laws.FnExactFullest", spec := "fnExactFullest", apart := false }
def FnExactFullestSaid : Prop := fnExactFullestRow.holds Try.pinned (OpenSpec.ofChange fnExactFullestSpec)

/-- ITS FALSE NEIGHBOUR: 'it returns false'. Refute it at one input. -/
def fnExactFullestWrong : ChangeSpec := { name := "fnExactFullest", fn := fun _ => fun
  | [d] => { results := [.lit (.bool false)], args := [d] }
  | _ => none }
def FnExactFullestWrongFalsely : Prop := fnExactFullestRow.holds Try.pinned (OpenSpec.ofChange fnExactFullestWrong)

/-- 'laws.FnExactTurnsOk': WHATEVER THE INPUT: true; the input reads as it did. -/
def fnExactTurnsOkSpec : ChangeSpec := { name := "fnExactTurnsOk", fn := fun _ => fun
  | [d] => { results := [.lit (.bool true)], args := [d] }
  | _ => none }
def fnExactTurnsOkRow : OpenClaim := { program := "ytjmkkncjbnohoaa", sum := "6c9e9c5c762c785b48774e523767099505bbe43f9014f4b3a09c28fabdab0fee", func := "loop.example/g00950/laws.FnExactTurnsOk", spec := "fnExactTurnsOk", apart := false }
def FnExactTurnsOkSaid : Prop := fnExactTurnsOkRow.holds Try.pinned (OpenSpec.ofChange fnExactTurnsOkSpec)

/-- ITS FALSE NEIGHBOUR: 'it returns false'. Refute it at one input. -/
def fnExactTurnsOkWrong : ChangeSpec := { name := "fnExactTurnsOk", fn := fun _ => fun
  | [d] => { results := [.lit (.bool false)], args := [d] }
  | _ => none }
def FnExactTurnsOkWrongFalsely : Prop := fnExactTurnsOkRow.holds Try.pinned (OpenSpec.ofChange fnExactTurnsOkWrong)

/-- 'laws.FnRanges': WHATEVER THE INPUT: true; the input reads as it did. -/
def fnRangesSpec : ChangeSpec := { name := "fnRanges", fn := fun _ => fun
  | [d] => { results := [.lit (.bool true)], args := [d] }
  | _ => none }
def fnRangesRow : OpenClaim := { program := "ytjmkkncjbnohoaa", sum := "6c9e9c5c762c785b48774e523767099505bbe43f9014f4b3a09c28fabdab0fee", func := "loop.example/g00950/laws.FnRanges", spec := "fnRanges", apart := false }
def FnRangesSaid : Prop := fnRangesRow.holds Try.pinned (OpenSpec.ofChange fnRangesSpec)

/-- ITS FALSE NEIGHBOUR: 'it returns false'. Refute it at one input. -/
def fnRangesWrong : ChangeSpec := { name := "fnRanges", fn := fun _ => fun
  | [d] => { results := [.lit (.bool false)], args := [d] }
  | _ => none }
def FnRangesWrongFalsely : Prop := fnRangesRow.holds Try.pinned (OpenSpec.ofChange fnRangesWrong)

/-- 'laws.FnExactShowSlot': WHATEVER THE INPUT: true; the input reads as it did. -/
def fnExactShowSlotSpec : ChangeSpec := { name := "fnExactShowSlot", fn := fun _ => fun
  | [d] => { results := [.lit (.bool true)], args := [d] }
  | _ => none }
def fnExactShowSlotRow : OpenClaim := { program := "ytjmkkncjbnohoaa", sum := "6c9e9c5c762c785b48774e523767099505bbe43f9014f4b3a09c28fabdab0fee", func := "loop.example/g00950/laws.FnExactShowSlot", spec := "fnExactShowSlot", apart := false }
def FnExactShowSlotSaid : Prop := fnExactShowSlotRow.holds Try.pinned (OpenSpec.ofChange fnExactShowSlotSpec)

/-- ITS FALSE NEIGHBOUR: 'it returns false'. Refute it at one input. -/
def fnExactShowSlotWrong : ChangeSpec := { name := "fnExactShowSlot", fn := fun _ => fun
  | [d] => { results := [.lit (.bool false)], args := [d] }
  | _ => none }
def FnExactShowSlotWrongFalsely : Prop := fnExactShowSlotRow.holds Try.pinned (OpenSpec.ofChange fnExactShowSlotWrong)

/-- 'laws.FnExactUnpack': WHATEVER THE INPUT: true; the input reads as it did. -/
def fnExactUnpackSpec : ChangeSpec := { name := "fnExactUnpack", fn := fun _ => fun
  | [d] => { results := [.lit (.bool true)], args := [d] }
  | _ => none }
def fnExactUnpackRow : OpenClaim := { program := "ytjmkkncjbnohoaa", sum := "6c9e9c5c762c785b48774e523767099505bbe43f9014f4b3a09c28fabdab0fee", func := "loop.example/g00950/laws.FnExactUnpack", spec := "fnExactUnpack", apart := false }
def FnExactUnpackSaid : Prop := fnExactUnpackRow.holds Try.pinned (OpenSpec.ofChange fnExactUnpackSpec)

/-- ITS FALSE NEIGHBOUR: 'it returns false'. Refute it at one input. -/
def fnExactUnpackWrong : ChangeSpec := { name := "fnExactUnpack", fn := fun _ => fun
  | [d] => { results := [.lit (.bool false)], args := [d] }
  | _ => none }
def FnExactUnpackWrongFalsely : Prop := fnExactUnpackRow.holds Try.pinned (OpenSpec.ofChange fnExactUnpackWrong)

/-- 'laws.FnExactTurnsNew': WHATEVER THE INPUT: true; the input reads as it did. -/
def fnExactTurnsNewSpec : ChangeSpec := { name := "fnExactTurnsNew", fn := fun _ => fun
  | [d] => { results := [.lit (.bool true)], args := [d] }
  | _ => none }
def fnExactTurnsNewRow : OpenClaim := { program := "ytjmkkncjbnohoaa", sum := "6c9e9c5c762c785b48774e523767099505bbe43f9014f4b3a09c28fabdab0fee", func := "loop.example/g00950/laws.FnExactTurnsNew", spec := "fnExactTurnsNew", apart := false }
def FnExactTurnsNewSaid : Prop := fnExactTurnsNewRow.holds Try.pinned (OpenSpec.ofChange fnExactTurnsNewSpec)

/-- ITS FALSE NEIGHBOUR: 'it returns false'. Refute it at one input. -/
def fnExactTurnsNewWrong : ChangeSpec := { name := "fnExactTurnsNew", fn := fun _ => fun
  | [d] => { results := [.lit (.bool false)], args := [d] }
  | _ => none }
def FnExactTurnsNewWrongFalsely : Prop := fnExactTurnsNewRow.holds Try.pinned (OpenSpec.ofChange fnExactTurnsNewWrong)

/- THE SECOND FORM. 'bulk': how many values and letters a reading holds, each counted each time it is reached (what is shared counts as often as it is met; a slice's spare places count too). A statement '..UptoSaid' is the law's where the arguments, and the package variables that the reading takes, are together of bulk at most 1048576: NARROWER than '..Said'. Prove '..Said' where nothing that the law and all that it calls make is longer than what came in: it says more and counts as full. Else prove '..UptoSaid'. A law counts once. -/
mutual
def uptoBulk {H : Type} : DataW H → Nat
  | .lit (.string bytes) => bytes.length + 1
  | .lit _ => 1
  | .nil => 1
  | .ptr d => uptoBulk d + 1
  | .slice elems spare => uptoBulkAll elems + uptoBulkAll spare + 1
  | .agg parts => uptoBulkAll parts + 1
  | .iface _ d => uptoBulk d + 1
  | .map entries => uptoBulkEntries entries + 1
  | .held _ => 1
def uptoBulkAll {H : Type} : List (DataW H) → Nat
  | [] => 0
  | d :: r => uptoBulk d + uptoBulkAll r
def uptoBulkEntries {H : Type} : List (Lit × DataW H) → Nat
  | [] => 0
  | x :: r => uptoBulkEntry x + uptoBulkEntries r
def uptoBulkEntry {H : Type} : Lit × DataW H → Nat
  | (.string bytes, d) => bytes.length + uptoBulk d + 1
  | (_, d) => uptoBulk d + 1
 end
def uptoSmall : (H : Type) → List (DataW H) → Bool := fun _ ds => decide (uptoBulkAll ds ≤ 1048576)
def OpenSpec.upto (s : _root_.Go.ChangeSpec) : _root_.Go.OpenSpec := { _root_.Go.OpenSpec.ofChange s with cond := some uptoSmall }

/-- 'laws.FnExactKeyNext', WHERE WHAT IT READS IS OF BULK AT MOST 1048576: true; the input reads as it did. -/
def fnExactKeyNextUptoRow : OpenClaim := { program := "ytjmkkncjbnohoaa", sum := "6c9e9c5c762c785b48774e523767099505bbe43f9014f4b3a09c28fabdab0fee", func := "loop.example/g00950/laws.FnExactKeyNext", spec := "fnExactKeyNext", apart := false, narrowed := true }
def FnExactKeyNextUptoSaid : Prop := fnExactKeyNextUptoRow.holds Try.pinned (OpenSpec.upto fnExactKeyNextSpec)

/-- 'laws.FnExactPrefixEnd', WHERE WHAT IT READS IS OF BULK AT MOST 1048576: true; the input reads as it did. -/
def fnExactPrefixEndUptoRow : OpenClaim := { program := "ytjmkkncjbnohoaa", sum := "6c9e9c5c762c785b48774e523767099505bbe43f9014f4b3a09c28fabdab0fee", func := "loop.example/g00950/laws.FnExactPrefixEnd", spec := "fnExactPrefixEnd", apart := false, narrowed := true }
def FnExactPrefixEndUptoSaid : Prop := fnExactPrefixEndUptoRow.holds Try.pinned (OpenSpec.upto fnExactPrefixEndSpec)

/-- 'laws.FnExactOverlap', WHERE WHAT IT READS IS OF BULK AT MOST 1048576: true; the input reads as it did. -/
def fnExactOverlapUptoRow : OpenClaim := { program := "ytjmkkncjbnohoaa", sum := "6c9e9c5c762c785b48774e523767099505bbe43f9014f4b3a09c28fabdab0fee", func := "loop.example/g00950/laws.FnExactOverlap", spec := "fnExactOverlap", apart := false, narrowed := true }
def FnExactOverlapUptoSaid : Prop := fnExactOverlapUptoRow.holds Try.pinned (OpenSpec.upto fnExactOverlapSpec)

/-- 'laws.FnExactClip', WHERE WHAT IT READS IS OF BULK AT MOST 1048576: true; the input reads as it did. -/
def fnExactClipUptoRow : OpenClaim := { program := "ytjmkkncjbnohoaa", sum := "6c9e9c5c762c785b48774e523767099505bbe43f9014f4b3a09c28fabdab0fee", func := "loop.example/g00950/laws.FnExactClip", spec := "fnExactClip", apart := false, narrowed := true }
def FnExactClipUptoSaid : Prop := fnExactClipUptoRow.holds Try.pinned (OpenSpec.upto fnExactClipSpec)

/-- 'laws.FnExactPack', WHERE WHAT IT READS IS OF BULK AT MOST 1048576: true; the input reads as it did. -/
def fnExactPackUptoRow : OpenClaim := { program := "ytjmkkncjbnohoaa", sum := "6c9e9c5c762c785b48774e523767099505bbe43f9014f4b3a09c28fabdab0fee", func := "loop.example/g00950/laws.FnExactPack", spec := "fnExactPack", apart := false, narrowed := true }
def FnExactPackUptoSaid : Prop := fnExactPackUptoRow.holds Try.pinned (OpenSpec.upto fnExactPackSpec)

/-- 'laws.FnExactTotalOf', WHERE WHAT IT READS IS OF BULK AT MOST 1048576: true; the input reads as it did. -/
def fnExactTotalOfUptoRow : OpenClaim := { program := "ytjmkkncjbnohoaa", sum := "6c9e9c5c762c785b48774e523767099505bbe43f9014f4b3a09c28fabdab0fee", func := "loop.example/g00950/laws.FnExactTotalOf", spec := "fnExactTotalOf", apart := false, narrowed := true }
def FnExactTotalOfUptoSaid : Prop := fnExactTotalOfUptoRow.holds Try.pinned (OpenSpec.upto fnExactTotalOfSpec)

/-- 'laws.FnExactFullest', WHERE WHAT IT READS IS OF BULK AT MOST 1048576: true; the input reads as it did. -/
def fnExactFullestUptoRow : OpenClaim := { program := "ytjmkkncjbnohoaa", sum := "6c9e9c5c762c785b48774e523767099505bbe43f9014f4b3a09c28fabdab0fee", func := "loop.example/g00950/laws.FnExactFullest", spec := "fnExactFullest", apart := false, narrowed := true }
def FnExactFullestUptoSaid : Prop := fnExactFullestUptoRow.holds Try.pinned (OpenSpec.upto fnExactFullestSpec)

/-- 'laws.FnExactTurnsOk', WHERE WHAT IT READS IS OF BULK AT MOST 1048576: true; the input reads as it did. -/
def fnExactTurnsOkUptoRow : OpenClaim := { program := "ytjmkkncjbnohoaa", sum := "6c9e9c5c762c785b48774e523767099505bbe43f9014f4b3a09c28fabdab0fee", func := "loop.example/g00950/laws.FnExactTurnsOk", spec := "fnExactTurnsOk", apart := false, narrowed := true }
def FnExactTurnsOkUptoSaid : Prop := fnExactTurnsOkUptoRow.holds Try.pinned (OpenSpec.upto fnExactTurnsOkSpec)

/-- 'laws.FnRanges', WHERE WHAT IT READS IS OF BULK AT MOST 1048576: true; the input reads as it did. -/
def fnRangesUptoRow : OpenClaim := { program := "ytjmkkncjbnohoaa", sum := "6c9e9c5c762c785b48774e523767099505bbe43f9014f4b3a09c28fabdab0fee", func := "loop.example/g00950/laws.FnRanges", spec := "fnRanges", apart := false, narrowed := true }
def FnRangesUptoSaid : Prop := fnRangesUptoRow.holds Try.pinned (OpenSpec.upto fnRangesSpec)

/-- 'laws.FnExactShowSlot', WHERE WHAT IT READS IS OF BULK AT MOST 1048576: true; the input reads as it did. -/
def fnExactShowSlotUptoRow : OpenClaim := { program := "ytjmkkncjbnohoaa", sum := "6c9e9c5c762c785b48774e523767099505bbe43f9014f4b3a09c28fabdab0fee", func := "loop.example/g00950/laws.FnExactShowSlot", spec := "fnExactShowSlot", apart := false, narrowed := true }
def FnExactShowSlotUptoSaid : Prop := fnExactShowSlotUptoRow.holds Try.pinned (OpenSpec.upto fnExactShowSlotSpec)

/-- 'laws.FnExactUnpack', WHERE WHAT IT READS IS OF BULK AT MOST 1048576: true; the input reads as it did. -/
def fnExactUnpackUptoRow : OpenClaim := { program := "ytjmkkncjbnohoaa", sum := "6c9e9c5c762c785b48774e523767099505bbe43f9014f4b3a09c28fabdab0fee", func := "loop.example/g00950/laws.FnExactUnpack", spec := "fnExactUnpack", apart := false, narrowed := true }
def FnExactUnpackUptoSaid : Prop := fnExactUnpackUptoRow.holds Try.pinned (OpenSpec.upto fnExactUnpackSpec)

/-- 'laws.FnExactTurnsNew', WHERE WHAT IT READS IS OF BULK AT MOST 1048576: true; the input reads as it did. -/
def fnExactTurnsNewUptoRow : OpenClaim := { program := "ytjmkkncjbnohoaa", sum := "6c9e9c5c762c785b48774e523767099505bbe43f9014f4b3a09c28fabdab0fee", func := "loop.example/g00950/laws.FnExactTurnsNew", spec := "fnExactTurnsNew", apart := false, narrowed := true }
def FnExactTurnsNewUptoSaid : Prop := fnExactTurnsNewUptoRow.holds Try.pinned (OpenSpec.upto fnExactTurnsNewSpec)

end Rows
end Go.Proofs.Ytjmkkncjbnohoaa
