/-
  No cell of these rows narrows 'for every input' (looked for: loops, veiled, ifaces, maps, wideKeys, modest, calm, conditions, laid).
  DERIVED. THE GIVEN ROWS OF THIS SEAT. 11 by the template 'for every input the law returns true; each argument reads behind the call as it read before'; 0 by the template 'total and deterministic' (their statements: YtmlbjpjgfegnmaaTotals.lean).
  GIVEN WITH THE SEED: the statements are not yours to turn. If you find one false, say at which input.
  Laid BY PROGRAM, IN A SANDBOX (cutbox-rows.mjs): the forced cells as the released guide's own fill.sh prints them over the translation 843f770207b998a8… (all of the seat's roots in one cut). By AI agents, Wed Nov 11 2026. No macro, syntax, notation, axiom, sorry.
-/
import Derived.Test.YtmlbjpjgfegnmaaChecked
import GoSem.Claim
import GoSem.ClaimJoined
import GoSem.ClaimMapViews
import Derived.JoinedTies
import Derived.KernelRfl
namespace Go.Proofs.Ytmlbjpjgfegnmaa
/- THE CELL 'sum', in the pinned program and in every row, IS THE sha256 OF THE DUMP (.gsa) THAT YtmlbjpjgfegnmaaProg.lean LOADS. Nothing in Lean hashes anything: it is a label: what it is worth is what the hold of that sum in a sandbox is worth. -/
noncomputable def Try.pinned : Pinned := { name := "ytmlbjpjgfegnmaa", sum := "843f770207b998a898365fdff7e8d9618f989f92554c7bd0ee94701ffed6f418", checked := Try.checked }
namespace Rows
def none {H : Type} : Left H := { results := [], args := [] }

/-- 'laws.FnExactConstants': WHATEVER THE INPUT: true; the input reads as it did. -/
def fnExactConstantsSpec : ChangeSpec := { name := "fnExactConstants", fn := fun _ => fun
  | [] => { results := [.lit (.bool true)], args := [] }
  | _ => none }
def fnExactConstantsRow : OpenClaim := { program := "ytmlbjpjgfegnmaa", sum := "843f770207b998a898365fdff7e8d9618f989f92554c7bd0ee94701ffed6f418", func := "loop.example/g00709/laws.FnExactConstants", spec := "fnExactConstants", apart := false }
def FnExactConstantsSaid : Prop := fnExactConstantsRow.holds Try.pinned (OpenSpec.ofChange fnExactConstantsSpec)

/-- ITS FALSE NEIGHBOUR: 'it returns false'. Refute it at one input. -/
def fnExactConstantsWrong : ChangeSpec := { name := "fnExactConstants", fn := fun _ => fun
  | [] => { results := [.lit (.bool false)], args := [] }
  | _ => none }
def FnExactConstantsWrongFalsely : Prop := fnExactConstantsRow.holds Try.pinned (OpenSpec.ofChange fnExactConstantsWrong)

/-- 'laws.FnExactChunksFor': WHATEVER THE INPUT: true; the input reads as it did. -/
def fnExactChunksForSpec : ChangeSpec := { name := "fnExactChunksFor", fn := fun _ => fun
  | [d] => { results := [.lit (.bool true)], args := [d] }
  | _ => none }
def fnExactChunksForRow : OpenClaim := { program := "ytmlbjpjgfegnmaa", sum := "843f770207b998a898365fdff7e8d9618f989f92554c7bd0ee94701ffed6f418", func := "loop.example/g00709/laws.FnExactChunksFor", spec := "fnExactChunksFor", apart := false }
def FnExactChunksForSaid : Prop := fnExactChunksForRow.holds Try.pinned (OpenSpec.ofChange fnExactChunksForSpec)

/-- ITS FALSE NEIGHBOUR: 'it returns false'. Refute it at one input. -/
def fnExactChunksForWrong : ChangeSpec := { name := "fnExactChunksFor", fn := fun _ => fun
  | [d] => { results := [.lit (.bool false)], args := [d] }
  | _ => none }
def FnExactChunksForWrongFalsely : Prop := fnExactChunksForRow.holds Try.pinned (OpenSpec.ofChange fnExactChunksForWrong)

/-- 'laws.FnExactMaskOf': WHATEVER THE INPUT: true; the input reads as it did. -/
def fnExactMaskOfSpec : ChangeSpec := { name := "fnExactMaskOf", fn := fun _ => fun
  | [d] => { results := [.lit (.bool true)], args := [d] }
  | _ => none }
def fnExactMaskOfRow : OpenClaim := { program := "ytmlbjpjgfegnmaa", sum := "843f770207b998a898365fdff7e8d9618f989f92554c7bd0ee94701ffed6f418", func := "loop.example/g00709/laws.FnExactMaskOf", spec := "fnExactMaskOf", apart := false }
def FnExactMaskOfSaid : Prop := fnExactMaskOfRow.holds Try.pinned (OpenSpec.ofChange fnExactMaskOfSpec)

/-- ITS FALSE NEIGHBOUR: 'it returns false'. Refute it at one input. -/
def fnExactMaskOfWrong : ChangeSpec := { name := "fnExactMaskOf", fn := fun _ => fun
  | [d] => { results := [.lit (.bool false)], args := [d] }
  | _ => none }
def FnExactMaskOfWrongFalsely : Prop := fnExactMaskOfRow.holds Try.pinned (OpenSpec.ofChange fnExactMaskOfWrong)

/-- 'laws.FnExactClassSize': WHATEVER THE INPUT: true; the input reads as it did. -/
def fnExactClassSizeSpec : ChangeSpec := { name := "fnExactClassSize", fn := fun _ => fun
  | [d] => { results := [.lit (.bool true)], args := [d] }
  | _ => none }
def fnExactClassSizeRow : OpenClaim := { program := "ytmlbjpjgfegnmaa", sum := "843f770207b998a898365fdff7e8d9618f989f92554c7bd0ee94701ffed6f418", func := "loop.example/g00709/laws.FnExactClassSize", spec := "fnExactClassSize", apart := false }
def FnExactClassSizeSaid : Prop := fnExactClassSizeRow.holds Try.pinned (OpenSpec.ofChange fnExactClassSizeSpec)

/-- ITS FALSE NEIGHBOUR: 'it returns false'. Refute it at one input. -/
def fnExactClassSizeWrong : ChangeSpec := { name := "fnExactClassSize", fn := fun _ => fun
  | [d] => { results := [.lit (.bool false)], args := [d] }
  | _ => none }
def FnExactClassSizeWrongFalsely : Prop := fnExactClassSizeRow.holds Try.pinned (OpenSpec.ofChange fnExactClassSizeWrong)

/-- 'laws.FnExactPerPage': WHATEVER THE INPUT: true; the input reads as it did. -/
def fnExactPerPageSpec : ChangeSpec := { name := "fnExactPerPage", fn := fun _ => fun
  | [d] => { results := [.lit (.bool true)], args := [d] }
  | _ => none }
def fnExactPerPageRow : OpenClaim := { program := "ytmlbjpjgfegnmaa", sum := "843f770207b998a898365fdff7e8d9618f989f92554c7bd0ee94701ffed6f418", func := "loop.example/g00709/laws.FnExactPerPage", spec := "fnExactPerPage", apart := false }
def FnExactPerPageSaid : Prop := fnExactPerPageRow.holds Try.pinned (OpenSpec.ofChange fnExactPerPageSpec)

/-- ITS FALSE NEIGHBOUR: 'it returns false'. Refute it at one input. -/
def fnExactPerPageWrong : ChangeSpec := { name := "fnExactPerPage", fn := fun _ => fun
  | [d] => { results := [.lit (.bool false)], args := [d] }
  | _ => none }
def FnExactPerPageWrongFalsely : Prop := fnExactPerPageRow.holds Try.pinned (OpenSpec.ofChange fnExactPerPageWrong)

/-- 'laws.FnExactOnes': WHATEVER THE INPUT: true; the input reads as it did. -/
def fnExactOnesSpec : ChangeSpec := { name := "fnExactOnes", fn := fun _ => fun
  | [d] => { results := [.lit (.bool true)], args := [d] }
  | _ => none }
def fnExactOnesRow : OpenClaim := { program := "ytmlbjpjgfegnmaa", sum := "843f770207b998a898365fdff7e8d9618f989f92554c7bd0ee94701ffed6f418", func := "loop.example/g00709/laws.FnExactOnes", spec := "fnExactOnes", apart := false }
def FnExactOnesSaid : Prop := fnExactOnesRow.holds Try.pinned (OpenSpec.ofChange fnExactOnesSpec)

/-- ITS FALSE NEIGHBOUR: 'it returns false'. Refute it at one input. -/
def fnExactOnesWrong : ChangeSpec := { name := "fnExactOnes", fn := fun _ => fun
  | [d] => { results := [.lit (.bool false)], args := [d] }
  | _ => none }
def FnExactOnesWrongFalsely : Prop := fnExactOnesRow.holds Try.pinned (OpenSpec.ofChange fnExactOnesWrong)

/-- 'laws.FnExactHighest': WHATEVER THE INPUT: true; the input reads as it did. -/
def fnExactHighestSpec : ChangeSpec := { name := "fnExactHighest", fn := fun _ => fun
  | [d] => { results := [.lit (.bool true)], args := [d] }
  | _ => none }
def fnExactHighestRow : OpenClaim := { program := "ytmlbjpjgfegnmaa", sum := "843f770207b998a898365fdff7e8d9618f989f92554c7bd0ee94701ffed6f418", func := "loop.example/g00709/laws.FnExactHighest", spec := "fnExactHighest", apart := false }
def FnExactHighestSaid : Prop := fnExactHighestRow.holds Try.pinned (OpenSpec.ofChange fnExactHighestSpec)

/-- ITS FALSE NEIGHBOUR: 'it returns false'. Refute it at one input. -/
def fnExactHighestWrong : ChangeSpec := { name := "fnExactHighest", fn := fun _ => fun
  | [d] => { results := [.lit (.bool false)], args := [d] }
  | _ => none }
def FnExactHighestWrongFalsely : Prop := fnExactHighestRow.holds Try.pinned (OpenSpec.ofChange fnExactHighestWrong)

/-- 'laws.FnExactLongest': WHATEVER THE INPUT: true; the input reads as it did. -/
def fnExactLongestSpec : ChangeSpec := { name := "fnExactLongest", fn := fun _ => fun
  | [d1, d2] => { results := [.lit (.bool true)], args := [d1, d2] }
  | _ => none }
def fnExactLongestRow : OpenClaim := { program := "ytmlbjpjgfegnmaa", sum := "843f770207b998a898365fdff7e8d9618f989f92554c7bd0ee94701ffed6f418", func := "loop.example/g00709/laws.FnExactLongest", spec := "fnExactLongest", apart := false }
def FnExactLongestSaid : Prop := fnExactLongestRow.holds Try.pinned (OpenSpec.ofChange fnExactLongestSpec)

/-- ITS FALSE NEIGHBOUR: 'it returns false'. Refute it at one input. -/
def fnExactLongestWrong : ChangeSpec := { name := "fnExactLongest", fn := fun _ => fun
  | [d1, d2] => { results := [.lit (.bool false)], args := [d1, d2] }
  | _ => none }
def FnExactLongestWrongFalsely : Prop := fnExactLongestRow.holds Try.pinned (OpenSpec.ofChange fnExactLongestWrong)

/-- 'laws.FnExactBitsOf': WHATEVER THE INPUT: true; the input reads as it did. -/
def fnExactBitsOfSpec : ChangeSpec := { name := "fnExactBitsOf", fn := fun _ => fun
  | [d] => { results := [.lit (.bool true)], args := [d] }
  | _ => none }
def fnExactBitsOfRow : OpenClaim := { program := "ytmlbjpjgfegnmaa", sum := "843f770207b998a898365fdff7e8d9618f989f92554c7bd0ee94701ffed6f418", func := "loop.example/g00709/laws.FnExactBitsOf", spec := "fnExactBitsOf", apart := false }
def FnExactBitsOfSaid : Prop := fnExactBitsOfRow.holds Try.pinned (OpenSpec.ofChange fnExactBitsOfSpec)

/-- ITS FALSE NEIGHBOUR: 'it returns false'. Refute it at one input. -/
def fnExactBitsOfWrong : ChangeSpec := { name := "fnExactBitsOf", fn := fun _ => fun
  | [d] => { results := [.lit (.bool false)], args := [d] }
  | _ => none }
def FnExactBitsOfWrongFalsely : Prop := fnExactBitsOfRow.holds Try.pinned (OpenSpec.ofChange fnExactBitsOfWrong)

/-- 'laws.FnExactBitList': WHATEVER THE INPUT: true; the input reads as it did. -/
def fnExactBitListSpec : ChangeSpec := { name := "fnExactBitList", fn := fun _ => fun
  | [d] => { results := [.lit (.bool true)], args := [d] }
  | _ => none }
def fnExactBitListRow : OpenClaim := { program := "ytmlbjpjgfegnmaa", sum := "843f770207b998a898365fdff7e8d9618f989f92554c7bd0ee94701ffed6f418", func := "loop.example/g00709/laws.FnExactBitList", spec := "fnExactBitList", apart := false }
def FnExactBitListSaid : Prop := fnExactBitListRow.holds Try.pinned (OpenSpec.ofChange fnExactBitListSpec)

/-- ITS FALSE NEIGHBOUR: 'it returns false'. Refute it at one input. -/
def fnExactBitListWrong : ChangeSpec := { name := "fnExactBitList", fn := fun _ => fun
  | [d] => { results := [.lit (.bool false)], args := [d] }
  | _ => none }
def FnExactBitListWrongFalsely : Prop := fnExactBitListRow.holds Try.pinned (OpenSpec.ofChange fnExactBitListWrong)

/-- 'laws.FnExactTakeLow': WHATEVER THE INPUT: true; the input reads as it did. -/
def fnExactTakeLowSpec : ChangeSpec := { name := "fnExactTakeLow", fn := fun _ => fun
  | [d1, d2] => { results := [.lit (.bool true)], args := [d1, d2] }
  | _ => none }
def fnExactTakeLowRow : OpenClaim := { program := "ytmlbjpjgfegnmaa", sum := "843f770207b998a898365fdff7e8d9618f989f92554c7bd0ee94701ffed6f418", func := "loop.example/g00709/laws.FnExactTakeLow", spec := "fnExactTakeLow", apart := false }
def FnExactTakeLowSaid : Prop := fnExactTakeLowRow.holds Try.pinned (OpenSpec.ofChange fnExactTakeLowSpec)

/-- ITS FALSE NEIGHBOUR: 'it returns false'. Refute it at one input. -/
def fnExactTakeLowWrong : ChangeSpec := { name := "fnExactTakeLow", fn := fun _ => fun
  | [d1, d2] => { results := [.lit (.bool false)], args := [d1, d2] }
  | _ => none }
def FnExactTakeLowWrongFalsely : Prop := fnExactTakeLowRow.holds Try.pinned (OpenSpec.ofChange fnExactTakeLowWrong)

/- THE SECOND FORM. 'bulk': how many values and letters a reading holds, each counted each time it is reached (what is shared counts as often as it is met; a slice's spare places count too). A statement '..UptoSaid' is the law's where the arguments, and the package variables that the reading takes, are together of bulk at most 1048576: NARROWER than '..Said'. Prove '..Said' where nothing that the law and all that it calls make is longer than what came in: it says more and counts as full. Else prove '..UptoSaid'. A law counts once. -/
mutual
def uptoBulk {H : Type} : DataW H → Nat
  | .lit (.string bytes) => bytes.length + 1
  | .lit _ => 1
  | .nil => 1
  | .ptr d => uptoBulk d + 1
  | .slice elems spare => uptoBulkAll elems + uptoBulkAll spare + 1
  | .agg parts => uptoBulkAll parts + 1
  | .iface _ d => uptoBulk d + 1
  | .map entries => uptoBulkEntries entries + 1
  | .held _ => 1
def uptoBulkAll {H : Type} : List (DataW H) → Nat
  | [] => 0
  | d :: r => uptoBulk d + uptoBulkAll r
def uptoBulkEntries {H : Type} : List (Lit × DataW H) → Nat
  | [] => 0
  | x :: r => uptoBulkEntry x + uptoBulkEntries r
def uptoBulkEntry {H : Type} : Lit × DataW H → Nat
  | (.string bytes, d) => bytes.length + uptoBulk d + 1
  | (_, d) => uptoBulk d + 1
 end
def uptoSmall : (H : Type) → List (DataW H) → Bool := fun _ ds => decide (uptoBulkAll ds ≤ 1048576)
def OpenSpec.upto (s : _root_.Go.ChangeSpec) : _root_.Go.OpenSpec := { _root_.Go.OpenSpec.ofChange s with cond := some uptoSmall }

/-- 'laws.FnExactConstants', WHERE WHAT IT READS IS OF BULK AT MOST 1048576: true; the input reads as it did. -/
def fnExactConstantsUptoRow : OpenClaim := { program := "ytmlbjpjgfegnmaa", sum := "843f770207b998a898365fdff7e8d9618f989f92554c7bd0ee94701ffed6f418", func := "loop.example/g00709/laws.FnExactConstants", spec := "fnExactConstants", apart := false, narrowed := true }
def FnExactConstantsUptoSaid : Prop := fnExactConstantsUptoRow.holds Try.pinned (OpenSpec.upto fnExactConstantsSpec)

/-- 'laws.FnExactChunksFor', WHERE WHAT IT READS IS OF BULK AT MOST 1048576: true; the input reads as it did. -/
def fnExactChunksForUptoRow : OpenClaim := { program := "ytmlbjpjgfegnmaa", sum := "843f770207b998a898365fdff7e8d9618f989f92554c7bd0ee94701ffed6f418", func := "loop.example/g00709/laws.FnExactChunksFor", spec := "fnExactChunksFor", apart := false, narrowed := true }
def FnExactChunksForUptoSaid : Prop := fnExactChunksForUptoRow.holds Try.pinned (OpenSpec.upto fnExactChunksForSpec)

/-- 'laws.FnExactMaskOf', WHERE WHAT IT READS IS OF BULK AT MOST 1048576: true; the input reads as it did. -/
def fnExactMaskOfUptoRow : OpenClaim := { program := "ytmlbjpjgfegnmaa", sum := "843f770207b998a898365fdff7e8d9618f989f92554c7bd0ee94701ffed6f418", func := "loop.example/g00709/laws.FnExactMaskOf", spec := "fnExactMaskOf", apart := false, narrowed := true }
def FnExactMaskOfUptoSaid : Prop := fnExactMaskOfUptoRow.holds Try.pinned (OpenSpec.upto fnExactMaskOfSpec)

/-- 'laws.FnExactClassSize', WHERE WHAT IT READS IS OF BULK AT MOST 1048576: true; the input reads as it did. -/
def fnExactClassSizeUptoRow : OpenClaim := { program := "ytmlbjpjgfegnmaa", sum := "843f770207b998a898365fdff7e8d9618f989f92554c7bd0ee94701ffed6f418", func := "loop.example/g00709/laws.FnExactClassSize", spec := "fnExactClassSize", apart := false, narrowed := true }
def FnExactClassSizeUptoSaid : Prop := fnExactClassSizeUptoRow.holds Try.pinned (OpenSpec.upto fnExactClassSizeSpec)

/-- 'laws.FnExactPerPage', WHERE WHAT IT READS IS OF BULK AT MOST 1048576: true; the input reads as it did. -/
def fnExactPerPageUptoRow : OpenClaim := { program := "ytmlbjpjgfegnmaa", sum := "843f770207b998a898365fdff7e8d9618f989f92554c7bd0ee94701ffed6f418", func := "loop.example/g00709/laws.FnExactPerPage", spec := "fnExactPerPage", apart := false, narrowed := true }
def FnExactPerPageUptoSaid : Prop := fnExactPerPageUptoRow.holds Try.pinned (OpenSpec.upto fnExactPerPageSpec)

/-- 'laws.FnExactOnes', WHERE WHAT IT READS IS OF BULK AT MOST 1048576: true; the input reads as it did. -/
def fnExactOnesUptoRow : OpenClaim := { program := "ytmlbjpjgfegnmaa", sum := "843f770207b998a898365fdff7e8d9618f989f92554c7bd0ee94701ffed6f418", func := "loop.example/g00709/laws.FnExactOnes", spec := "fnExactOnes", apart := false, narrowed := true }
def FnExactOnesUptoSaid : Prop := fnExactOnesUptoRow.holds Try.pinned (OpenSpec.upto fnExactOnesSpec)

/-- 'laws.FnExactHighest', WHERE WHAT IT READS IS OF BULK AT MOST 1048576: true; the input reads as it did. -/
def fnExactHighestUptoRow : OpenClaim := { program := "ytmlbjpjgfegnmaa", sum := "843f770207b998a898365fdff7e8d9618f989f92554c7bd0ee94701ffed6f418", func := "loop.example/g00709/laws.FnExactHighest", spec := "fnExactHighest", apart := false, narrowed := true }
def FnExactHighestUptoSaid : Prop := fnExactHighestUptoRow.holds Try.pinned (OpenSpec.upto fnExactHighestSpec)

/-- 'laws.FnExactLongest', WHERE WHAT IT READS IS OF BULK AT MOST 1048576: true; the input reads as it did. -/
def fnExactLongestUptoRow : OpenClaim := { program := "ytmlbjpjgfegnmaa", sum := "843f770207b998a898365fdff7e8d9618f989f92554c7bd0ee94701ffed6f418", func := "loop.example/g00709/laws.FnExactLongest", spec := "fnExactLongest", apart := false, narrowed := true }
def FnExactLongestUptoSaid : Prop := fnExactLongestUptoRow.holds Try.pinned (OpenSpec.upto fnExactLongestSpec)

/-- 'laws.FnExactBitsOf', WHERE WHAT IT READS IS OF BULK AT MOST 1048576: true; the input reads as it did. -/
def fnExactBitsOfUptoRow : OpenClaim := { program := "ytmlbjpjgfegnmaa", sum := "843f770207b998a898365fdff7e8d9618f989f92554c7bd0ee94701ffed6f418", func := "loop.example/g00709/laws.FnExactBitsOf", spec := "fnExactBitsOf", apart := false, narrowed := true }
def FnExactBitsOfUptoSaid : Prop := fnExactBitsOfUptoRow.holds Try.pinned (OpenSpec.upto fnExactBitsOfSpec)

/-- 'laws.FnExactBitList', WHERE WHAT IT READS IS OF BULK AT MOST 1048576: true; the input reads as it did. -/
def fnExactBitListUptoRow : OpenClaim := { program := "ytmlbjpjgfegnmaa", sum := "843f770207b998a898365fdff7e8d9618f989f92554c7bd0ee94701ffed6f418", func := "loop.example/g00709/laws.FnExactBitList", spec := "fnExactBitList", apart := false, narrowed := true }
def FnExactBitListUptoSaid : Prop := fnExactBitListUptoRow.holds Try.pinned (OpenSpec.upto fnExactBitListSpec)

/-- 'laws.FnExactTakeLow', WHERE WHAT IT READS IS OF BULK AT MOST 1048576: true; the input reads as it did. -/
def fnExactTakeLowUptoRow : OpenClaim := { program := "ytmlbjpjgfegnmaa", sum := "843f770207b998a898365fdff7e8d9618f989f92554c7bd0ee94701ffed6f418", func := "loop.example/g00709/laws.FnExactTakeLow", spec := "fnExactTakeLow", apart := false, narrowed := true }
def FnExactTakeLowUptoSaid : Prop := fnExactTakeLowUptoRow.holds Try.pinned (OpenSpec.upto fnExactTakeLowSpec)

end Rows
end Go.Proofs.Ytmlbjpjgfegnmaa
