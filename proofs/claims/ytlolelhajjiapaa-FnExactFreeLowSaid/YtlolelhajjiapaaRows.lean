/-
  No cell of these rows narrows 'for every input' (looked for: loops, veiled, ifaces, maps, wideKeys, modest, calm, conditions, laid).
  DERIVED. THE GIVEN ROWS OF THIS SEAT. 12 by the template 'for every input the law returns true; each argument reads behind the call as it read before'; 0 by the template 'total and deterministic' (their statements: YtlolelhajjiapaaTotals.lean).
  GIVEN WITH THE SEED: the statements are not yours to turn. If you find one false, say at which input.
  Laid BY PROGRAM, IN A SANDBOX (cutbox-rows.mjs): the forced cells as the released guide's own fill.sh prints them over the translation 618382a27d92fecc… (all of the seat's roots in one cut). By AI agents, Wed Nov 11 2026. No macro, syntax, notation, axiom, sorry.
-/
import Derived.Test.YtlolelhajjiapaaChecked
import GoSem.Claim
import GoSem.ClaimJoined
import GoSem.ClaimMapViews
import Derived.JoinedTies
import Derived.KernelRfl
namespace Go.Proofs.Ytlolelhajjiapaa
/- THE CELL 'sum', in the pinned program and in every row, IS THE sha256 OF THE DUMP (.gsa) THAT YtlolelhajjiapaaProg.lean LOADS. Nothing in Lean hashes anything: it is a label: what it is worth is what the hold of that sum in a sandbox is worth. -/
noncomputable def Try.pinned : Pinned := { name := "ytlolelhajjiapaa", sum := "618382a27d92fecc1464b7e6bb1e8a319c05b572779603bd930d74f8f3e5a9b7", checked := Try.checked }
namespace Rows
def none {H : Type} : Left H := { results := [], args := [] }

/-- 'laws.FnExactMemOk': WHATEVER THE INPUT: true; the input reads as it did. -/
def fnExactMemOkSpec : ChangeSpec := { name := "fnExactMemOk", fn := fun _ => fun
  | [d] => { results := [.lit (.bool true)], args := [d] }
  | _ => none }
def fnExactMemOkRow : OpenClaim := { program := "ytlolelhajjiapaa", sum := "618382a27d92fecc1464b7e6bb1e8a319c05b572779603bd930d74f8f3e5a9b7", func := "loop.example/g00709/laws.FnExactMemOk", spec := "fnExactMemOk", apart := false }
def FnExactMemOkSaid : Prop := fnExactMemOkRow.holds Try.pinned (OpenSpec.ofChange fnExactMemOkSpec)

/-- ITS FALSE NEIGHBOUR: 'it returns false'. Refute it at one input. -/
def fnExactMemOkWrong : ChangeSpec := { name := "fnExactMemOk", fn := fun _ => fun
  | [d] => { results := [.lit (.bool false)], args := [d] }
  | _ => none }
def FnExactMemOkWrongFalsely : Prop := fnExactMemOkRow.holds Try.pinned (OpenSpec.ofChange fnExactMemOkWrong)

/-- 'laws.FnExactNthLane': WHATEVER THE INPUT: true; the input reads as it did. -/
def fnExactNthLaneSpec : ChangeSpec := { name := "fnExactNthLane", fn := fun _ => fun
  | [d1, d2] => { results := [.lit (.bool true)], args := [d1, d2] }
  | _ => none }
def fnExactNthLaneRow : OpenClaim := { program := "ytlolelhajjiapaa", sum := "618382a27d92fecc1464b7e6bb1e8a319c05b572779603bd930d74f8f3e5a9b7", func := "loop.example/g00709/laws.FnExactNthLane", spec := "fnExactNthLane", apart := false }
def FnExactNthLaneSaid : Prop := fnExactNthLaneRow.holds Try.pinned (OpenSpec.ofChange fnExactNthLaneSpec)

/-- ITS FALSE NEIGHBOUR: 'it returns false'. Refute it at one input. -/
def fnExactNthLaneWrong : ChangeSpec := { name := "fnExactNthLane", fn := fun _ => fun
  | [d1, d2] => { results := [.lit (.bool false)], args := [d1, d2] }
  | _ => none }
def FnExactNthLaneWrongFalsely : Prop := fnExactNthLaneRow.holds Try.pinned (OpenSpec.ofChange fnExactNthLaneWrong)

/-- 'laws.FnExactClassOf': WHATEVER THE INPUT: true; the input reads as it did. -/
def fnExactClassOfSpec : ChangeSpec := { name := "fnExactClassOf", fn := fun _ => fun
  | [d] => { results := [.lit (.bool true)], args := [d] }
  | _ => none }
def fnExactClassOfRow : OpenClaim := { program := "ytlolelhajjiapaa", sum := "618382a27d92fecc1464b7e6bb1e8a319c05b572779603bd930d74f8f3e5a9b7", func := "loop.example/g00709/laws.FnExactClassOf", spec := "fnExactClassOf", apart := false }
def FnExactClassOfSaid : Prop := fnExactClassOfRow.holds Try.pinned (OpenSpec.ofChange fnExactClassOfSpec)

/-- ITS FALSE NEIGHBOUR: 'it returns false'. Refute it at one input. -/
def fnExactClassOfWrong : ChangeSpec := { name := "fnExactClassOf", fn := fun _ => fun
  | [d] => { results := [.lit (.bool false)], args := [d] }
  | _ => none }
def FnExactClassOfWrongFalsely : Prop := fnExactClassOfRow.holds Try.pinned (OpenSpec.ofChange fnExactClassOfWrong)

/-- 'laws.FnExactRankOf': WHATEVER THE INPUT: true; the input reads as it did. -/
def fnExactRankOfSpec : ChangeSpec := { name := "fnExactRankOf", fn := fun _ => fun
  | [d1, d2] => { results := [.lit (.bool true)], args := [d1, d2] }
  | _ => none }
def fnExactRankOfRow : OpenClaim := { program := "ytlolelhajjiapaa", sum := "618382a27d92fecc1464b7e6bb1e8a319c05b572779603bd930d74f8f3e5a9b7", func := "loop.example/g00709/laws.FnExactRankOf", spec := "fnExactRankOf", apart := false }
def FnExactRankOfSaid : Prop := fnExactRankOfRow.holds Try.pinned (OpenSpec.ofChange fnExactRankOfSpec)

/-- ITS FALSE NEIGHBOUR: 'it returns false'. Refute it at one input. -/
def fnExactRankOfWrong : ChangeSpec := { name := "fnExactRankOf", fn := fun _ => fun
  | [d1, d2] => { results := [.lit (.bool false)], args := [d1, d2] }
  | _ => none }
def FnExactRankOfWrongFalsely : Prop := fnExactRankOfRow.holds Try.pinned (OpenSpec.ofChange fnExactRankOfWrong)

/-- 'laws.FnExactMemNew': WHATEVER THE INPUT: true; the input reads as it did. -/
def fnExactMemNewSpec : ChangeSpec := { name := "fnExactMemNew", fn := fun _ => fun
  | [d] => { results := [.lit (.bool true)], args := [d] }
  | _ => none }
def fnExactMemNewRow : OpenClaim := { program := "ytlolelhajjiapaa", sum := "618382a27d92fecc1464b7e6bb1e8a319c05b572779603bd930d74f8f3e5a9b7", func := "loop.example/g00709/laws.FnExactMemNew", spec := "fnExactMemNew", apart := false }
def FnExactMemNewSaid : Prop := fnExactMemNewRow.holds Try.pinned (OpenSpec.ofChange fnExactMemNewSpec)

/-- ITS FALSE NEIGHBOUR: 'it returns false'. Refute it at one input. -/
def fnExactMemNewWrong : ChangeSpec := { name := "fnExactMemNew", fn := fun _ => fun
  | [d] => { results := [.lit (.bool false)], args := [d] }
  | _ => none }
def FnExactMemNewWrongFalsely : Prop := fnExactMemNewRow.holds Try.pinned (OpenSpec.ofChange fnExactMemNewWrong)

/-- 'laws.FnExactBallot': WHATEVER THE INPUT: true; the input reads as it did. -/
def fnExactBallotSpec : ChangeSpec := { name := "fnExactBallot", fn := fun _ => fun
  | [d] => { results := [.lit (.bool true)], args := [d] }
  | _ => none }
def fnExactBallotRow : OpenClaim := { program := "ytlolelhajjiapaa", sum := "618382a27d92fecc1464b7e6bb1e8a319c05b572779603bd930d74f8f3e5a9b7", func := "loop.example/g00709/laws.FnExactBallot", spec := "fnExactBallot", apart := false }
def FnExactBallotSaid : Prop := fnExactBallotRow.holds Try.pinned (OpenSpec.ofChange fnExactBallotSpec)

/-- ITS FALSE NEIGHBOUR: 'it returns false'. Refute it at one input. -/
def fnExactBallotWrong : ChangeSpec := { name := "fnExactBallot", fn := fun _ => fun
  | [d] => { results := [.lit (.bool false)], args := [d] }
  | _ => none }
def FnExactBallotWrongFalsely : Prop := fnExactBallotRow.holds Try.pinned (OpenSpec.ofChange fnExactBallotWrong)

/-- 'laws.FnExactFreeLow': WHATEVER THE INPUT: true; the input reads as it did. -/
def fnExactFreeLowSpec : ChangeSpec := { name := "fnExactFreeLow", fn := fun _ => fun
  | [d1, d2, d3] => { results := [.lit (.bool true)], args := [d1, d2, d3] }
  | _ => none }
def fnExactFreeLowRow : OpenClaim := { program := "ytlolelhajjiapaa", sum := "618382a27d92fecc1464b7e6bb1e8a319c05b572779603bd930d74f8f3e5a9b7", func := "loop.example/g00709/laws.FnExactFreeLow", spec := "fnExactFreeLow", apart := false }
def FnExactFreeLowSaid : Prop := fnExactFreeLowRow.holds Try.pinned (OpenSpec.ofChange fnExactFreeLowSpec)

/-- ITS FALSE NEIGHBOUR: 'it returns false'. Refute it at one input. -/
def fnExactFreeLowWrong : ChangeSpec := { name := "fnExactFreeLow", fn := fun _ => fun
  | [d1, d2, d3] => { results := [.lit (.bool false)], args := [d1, d2, d3] }
  | _ => none }
def FnExactFreeLowWrongFalsely : Prop := fnExactFreeLowRow.holds Try.pinned (OpenSpec.ofChange fnExactFreeLowWrong)

/-- 'laws.FnExactMemLoad': WHATEVER THE INPUT: true; the input reads as it did. -/
def fnExactMemLoadSpec : ChangeSpec := { name := "fnExactMemLoad", fn := fun _ => fun
  | [d1, d2] => { results := [.lit (.bool true)], args := [d1, d2] }
  | _ => none }
def fnExactMemLoadRow : OpenClaim := { program := "ytlolelhajjiapaa", sum := "618382a27d92fecc1464b7e6bb1e8a319c05b572779603bd930d74f8f3e5a9b7", func := "loop.example/g00709/laws.FnExactMemLoad", spec := "fnExactMemLoad", apart := false }
def FnExactMemLoadSaid : Prop := fnExactMemLoadRow.holds Try.pinned (OpenSpec.ofChange fnExactMemLoadSpec)

/-- ITS FALSE NEIGHBOUR: 'it returns false'. Refute it at one input. -/
def fnExactMemLoadWrong : ChangeSpec := { name := "fnExactMemLoad", fn := fun _ => fun
  | [d1, d2] => { results := [.lit (.bool false)], args := [d1, d2] }
  | _ => none }
def FnExactMemLoadWrongFalsely : Prop := fnExactMemLoadRow.holds Try.pinned (OpenSpec.ofChange fnExactMemLoadWrong)

/-- 'laws.FnExactHeldWord': WHATEVER THE INPUT: true; the input reads as it did. -/
def fnExactHeldWordSpec : ChangeSpec := { name := "fnExactHeldWord", fn := fun _ => fun
  | [] => { results := [.lit (.bool true)], args := [] }
  | _ => none }
def fnExactHeldWordRow : OpenClaim := { program := "ytlolelhajjiapaa", sum := "618382a27d92fecc1464b7e6bb1e8a319c05b572779603bd930d74f8f3e5a9b7", func := "loop.example/g00709/laws.FnExactHeldWord", spec := "fnExactHeldWord", apart := false }
def FnExactHeldWordSaid : Prop := fnExactHeldWordRow.holds Try.pinned (OpenSpec.ofChange fnExactHeldWordSpec)

/-- ITS FALSE NEIGHBOUR: 'it returns false'. Refute it at one input. -/
def fnExactHeldWordWrong : ChangeSpec := { name := "fnExactHeldWord", fn := fun _ => fun
  | [] => { results := [.lit (.bool false)], args := [] }
  | _ => none }
def FnExactHeldWordWrongFalsely : Prop := fnExactHeldWordRow.holds Try.pinned (OpenSpec.ofChange fnExactHeldWordWrong)

/-- 'laws.FnExactCtlOk': WHATEVER THE INPUT: true; the input reads as it did. -/
def fnExactCtlOkSpec : ChangeSpec := { name := "fnExactCtlOk", fn := fun _ => fun
  | [d] => { results := [.lit (.bool true)], args := [d] }
  | _ => none }
def fnExactCtlOkRow : OpenClaim := { program := "ytlolelhajjiapaa", sum := "618382a27d92fecc1464b7e6bb1e8a319c05b572779603bd930d74f8f3e5a9b7", func := "loop.example/g00709/laws.FnExactCtlOk", spec := "fnExactCtlOk", apart := false }
def FnExactCtlOkSaid : Prop := fnExactCtlOkRow.holds Try.pinned (OpenSpec.ofChange fnExactCtlOkSpec)

/-- ITS FALSE NEIGHBOUR: 'it returns false'. Refute it at one input. -/
def fnExactCtlOkWrong : ChangeSpec := { name := "fnExactCtlOk", fn := fun _ => fun
  | [d] => { results := [.lit (.bool false)], args := [d] }
  | _ => none }
def FnExactCtlOkWrongFalsely : Prop := fnExactCtlOkRow.holds Try.pinned (OpenSpec.ofChange fnExactCtlOkWrong)

/-- 'laws.FnExactHeadWord': WHATEVER THE INPUT: true; the input reads as it did. -/
def fnExactHeadWordSpec : ChangeSpec := { name := "fnExactHeadWord", fn := fun _ => fun
  | [d] => { results := [.lit (.bool true)], args := [d] }
  | _ => none }
def fnExactHeadWordRow : OpenClaim := { program := "ytlolelhajjiapaa", sum := "618382a27d92fecc1464b7e6bb1e8a319c05b572779603bd930d74f8f3e5a9b7", func := "loop.example/g00709/laws.FnExactHeadWord", spec := "fnExactHeadWord", apart := false }
def FnExactHeadWordSaid : Prop := fnExactHeadWordRow.holds Try.pinned (OpenSpec.ofChange fnExactHeadWordSpec)

/-- ITS FALSE NEIGHBOUR: 'it returns false'. Refute it at one input. -/
def fnExactHeadWordWrong : ChangeSpec := { name := "fnExactHeadWord", fn := fun _ => fun
  | [d] => { results := [.lit (.bool false)], args := [d] }
  | _ => none }
def FnExactHeadWordWrongFalsely : Prop := fnExactHeadWordRow.holds Try.pinned (OpenSpec.ofChange fnExactHeadWordWrong)

/-- 'laws.FnExactGather': WHATEVER THE INPUT: true; the input reads as it did. -/
def fnExactGatherSpec : ChangeSpec := { name := "fnExactGather", fn := fun _ => fun
  | [d1, d2] => { results := [.lit (.bool true)], args := [d1, d2] }
  | _ => none }
def fnExactGatherRow : OpenClaim := { program := "ytlolelhajjiapaa", sum := "618382a27d92fecc1464b7e6bb1e8a319c05b572779603bd930d74f8f3e5a9b7", func := "loop.example/g00709/laws.FnExactGather", spec := "fnExactGather", apart := false }
def FnExactGatherSaid : Prop := fnExactGatherRow.holds Try.pinned (OpenSpec.ofChange fnExactGatherSpec)

/-- ITS FALSE NEIGHBOUR: 'it returns false'. Refute it at one input. -/
def fnExactGatherWrong : ChangeSpec := { name := "fnExactGather", fn := fun _ => fun
  | [d1, d2] => { results := [.lit (.bool false)], args := [d1, d2] }
  | _ => none }
def FnExactGatherWrongFalsely : Prop := fnExactGatherRow.holds Try.pinned (OpenSpec.ofChange fnExactGatherWrong)

/- THE SECOND FORM. 'bulk': how many values and letters a reading holds, each counted each time it is reached (what is shared counts as often as it is met; a slice's spare places count too). A statement '..UptoSaid' is the law's where the arguments, and the package variables that the reading takes, are together of bulk at most 1048576: NARROWER than '..Said'. Prove '..Said' where nothing that the law and all that it calls make is longer than what came in: it says more and counts as full. Else prove '..UptoSaid'. A law counts once. -/
mutual
def uptoBulk {H : Type} : DataW H → Nat
  | .lit (.string bytes) => bytes.length + 1
  | .lit _ => 1
  | .nil => 1
  | .ptr d => uptoBulk d + 1
  | .slice elems spare => uptoBulkAll elems + uptoBulkAll spare + 1
  | .agg parts => uptoBulkAll parts + 1
  | .iface _ d => uptoBulk d + 1
  | .map entries => uptoBulkEntries entries + 1
  | .held _ => 1
def uptoBulkAll {H : Type} : List (DataW H) → Nat
  | [] => 0
  | d :: r => uptoBulk d + uptoBulkAll r
def uptoBulkEntries {H : Type} : List (Lit × DataW H) → Nat
  | [] => 0
  | x :: r => uptoBulkEntry x + uptoBulkEntries r
def uptoBulkEntry {H : Type} : Lit × DataW H → Nat
  | (.string bytes, d) => bytes.length + uptoBulk d + 1
  | (_, d) => uptoBulk d + 1
 end
def uptoSmall : (H : Type) → List (DataW H) → Bool := fun _ ds => decide (uptoBulkAll ds ≤ 1048576)
def OpenSpec.upto (s : _root_.Go.ChangeSpec) : _root_.Go.OpenSpec := { _root_.Go.OpenSpec.ofChange s with cond := some uptoSmall }

/-- 'laws.FnExactMemOk', WHERE WHAT IT READS IS OF BULK AT MOST 1048576: true; the input reads as it did. -/
def fnExactMemOkUptoRow : OpenClaim := { program := "ytlolelhajjiapaa", sum := "618382a27d92fecc1464b7e6bb1e8a319c05b572779603bd930d74f8f3e5a9b7", func := "loop.example/g00709/laws.FnExactMemOk", spec := "fnExactMemOk", apart := false, narrowed := true }
def FnExactMemOkUptoSaid : Prop := fnExactMemOkUptoRow.holds Try.pinned (OpenSpec.upto fnExactMemOkSpec)

/-- 'laws.FnExactNthLane', WHERE WHAT IT READS IS OF BULK AT MOST 1048576: true; the input reads as it did. -/
def fnExactNthLaneUptoRow : OpenClaim := { program := "ytlolelhajjiapaa", sum := "618382a27d92fecc1464b7e6bb1e8a319c05b572779603bd930d74f8f3e5a9b7", func := "loop.example/g00709/laws.FnExactNthLane", spec := "fnExactNthLane", apart := false, narrowed := true }
def FnExactNthLaneUptoSaid : Prop := fnExactNthLaneUptoRow.holds Try.pinned (OpenSpec.upto fnExactNthLaneSpec)

/-- 'laws.FnExactClassOf', WHERE WHAT IT READS IS OF BULK AT MOST 1048576: true; the input reads as it did. -/
def fnExactClassOfUptoRow : OpenClaim := { program := "ytlolelhajjiapaa", sum := "618382a27d92fecc1464b7e6bb1e8a319c05b572779603bd930d74f8f3e5a9b7", func := "loop.example/g00709/laws.FnExactClassOf", spec := "fnExactClassOf", apart := false, narrowed := true }
def FnExactClassOfUptoSaid : Prop := fnExactClassOfUptoRow.holds Try.pinned (OpenSpec.upto fnExactClassOfSpec)

/-- 'laws.FnExactRankOf', WHERE WHAT IT READS IS OF BULK AT MOST 1048576: true; the input reads as it did. -/
def fnExactRankOfUptoRow : OpenClaim := { program := "ytlolelhajjiapaa", sum := "618382a27d92fecc1464b7e6bb1e8a319c05b572779603bd930d74f8f3e5a9b7", func := "loop.example/g00709/laws.FnExactRankOf", spec := "fnExactRankOf", apart := false, narrowed := true }
def FnExactRankOfUptoSaid : Prop := fnExactRankOfUptoRow.holds Try.pinned (OpenSpec.upto fnExactRankOfSpec)

/-- 'laws.FnExactMemNew', WHERE WHAT IT READS IS OF BULK AT MOST 1048576: true; the input reads as it did. -/
def fnExactMemNewUptoRow : OpenClaim := { program := "ytlolelhajjiapaa", sum := "618382a27d92fecc1464b7e6bb1e8a319c05b572779603bd930d74f8f3e5a9b7", func := "loop.example/g00709/laws.FnExactMemNew", spec := "fnExactMemNew", apart := false, narrowed := true }
def FnExactMemNewUptoSaid : Prop := fnExactMemNewUptoRow.holds Try.pinned (OpenSpec.upto fnExactMemNewSpec)

/-- 'laws.FnExactBallot', WHERE WHAT IT READS IS OF BULK AT MOST 1048576: true; the input reads as it did. -/
def fnExactBallotUptoRow : OpenClaim := { program := "ytlolelhajjiapaa", sum := "618382a27d92fecc1464b7e6bb1e8a319c05b572779603bd930d74f8f3e5a9b7", func := "loop.example/g00709/laws.FnExactBallot", spec := "fnExactBallot", apart := false, narrowed := true }
def FnExactBallotUptoSaid : Prop := fnExactBallotUptoRow.holds Try.pinned (OpenSpec.upto fnExactBallotSpec)

/-- 'laws.FnExactFreeLow', WHERE WHAT IT READS IS OF BULK AT MOST 1048576: true; the input reads as it did. -/
def fnExactFreeLowUptoRow : OpenClaim := { program := "ytlolelhajjiapaa", sum := "618382a27d92fecc1464b7e6bb1e8a319c05b572779603bd930d74f8f3e5a9b7", func := "loop.example/g00709/laws.FnExactFreeLow", spec := "fnExactFreeLow", apart := false, narrowed := true }
def FnExactFreeLowUptoSaid : Prop := fnExactFreeLowUptoRow.holds Try.pinned (OpenSpec.upto fnExactFreeLowSpec)

/-- 'laws.FnExactMemLoad', WHERE WHAT IT READS IS OF BULK AT MOST 1048576: true; the input reads as it did. -/
def fnExactMemLoadUptoRow : OpenClaim := { program := "ytlolelhajjiapaa", sum := "618382a27d92fecc1464b7e6bb1e8a319c05b572779603bd930d74f8f3e5a9b7", func := "loop.example/g00709/laws.FnExactMemLoad", spec := "fnExactMemLoad", apart := false, narrowed := true }
def FnExactMemLoadUptoSaid : Prop := fnExactMemLoadUptoRow.holds Try.pinned (OpenSpec.upto fnExactMemLoadSpec)

/-- 'laws.FnExactHeldWord', WHERE WHAT IT READS IS OF BULK AT MOST 1048576: true; the input reads as it did. -/
def fnExactHeldWordUptoRow : OpenClaim := { program := "ytlolelhajjiapaa", sum := "618382a27d92fecc1464b7e6bb1e8a319c05b572779603bd930d74f8f3e5a9b7", func := "loop.example/g00709/laws.FnExactHeldWord", spec := "fnExactHeldWord", apart := false, narrowed := true }
def FnExactHeldWordUptoSaid : Prop := fnExactHeldWordUptoRow.holds Try.pinned (OpenSpec.upto fnExactHeldWordSpec)

/-- 'laws.FnExactCtlOk', WHERE WHAT IT READS IS OF BULK AT MOST 1048576: true; the input reads as it did. -/
def fnExactCtlOkUptoRow : OpenClaim := { program := "ytlolelhajjiapaa", sum := "618382a27d92fecc1464b7e6bb1e8a319c05b572779603bd930d74f8f3e5a9b7", func := "loop.example/g00709/laws.FnExactCtlOk", spec := "fnExactCtlOk", apart := false, narrowed := true }
def FnExactCtlOkUptoSaid : Prop := fnExactCtlOkUptoRow.holds Try.pinned (OpenSpec.upto fnExactCtlOkSpec)

/-- 'laws.FnExactHeadWord', WHERE WHAT IT READS IS OF BULK AT MOST 1048576: true; the input reads as it did. -/
def fnExactHeadWordUptoRow : OpenClaim := { program := "ytlolelhajjiapaa", sum := "618382a27d92fecc1464b7e6bb1e8a319c05b572779603bd930d74f8f3e5a9b7", func := "loop.example/g00709/laws.FnExactHeadWord", spec := "fnExactHeadWord", apart := false, narrowed := true }
def FnExactHeadWordUptoSaid : Prop := fnExactHeadWordUptoRow.holds Try.pinned (OpenSpec.upto fnExactHeadWordSpec)

/-- 'laws.FnExactGather', WHERE WHAT IT READS IS OF BULK AT MOST 1048576: true; the input reads as it did. -/
def fnExactGatherUptoRow : OpenClaim := { program := "ytlolelhajjiapaa", sum := "618382a27d92fecc1464b7e6bb1e8a319c05b572779603bd930d74f8f3e5a9b7", func := "loop.example/g00709/laws.FnExactGather", spec := "fnExactGather", apart := false, narrowed := true }
def FnExactGatherUptoSaid : Prop := fnExactGatherUptoRow.holds Try.pinned (OpenSpec.upto fnExactGatherSpec)

end Rows
end Go.Proofs.Ytlolelhajjiapaa
