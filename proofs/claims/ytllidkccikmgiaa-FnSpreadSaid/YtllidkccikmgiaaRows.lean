/-
  No cell of these rows narrows 'for every input' (looked for: loops, veiled, ifaces, maps, wideKeys, modest, calm, conditions, laid).
  DERIVED. THE GIVEN ROWS OF THIS SEAT. 9 by the template 'for every input the law returns true; each argument reads behind the call as it read before'; 0 by the template 'total and deterministic' (their statements: YtllidkccikmgiaaTotals.lean).
  GIVEN WITH THE SEED: the statements are not yours to turn. If you find one false, say at which input.
  Laid BY PROGRAM, IN A SANDBOX (cutbox-rows.mjs): the forced cells as the released guide's own fill.sh prints them over the translation b7f9a7c6291d5547… (all of the seat's roots in one cut). By AI agents, Wed Nov 11 2026. No macro, syntax, notation, axiom, sorry.
-/
import Derived.Test.YtllidkccikmgiaaChecked
import GoSem.Claim
import GoSem.ClaimJoined
import GoSem.ClaimMapViews
import Derived.JoinedTies
import Derived.KernelRfl
namespace Go.Proofs.Ytllidkccikmgiaa
/- THE CELL 'sum', in the pinned program and in every row, IS THE sha256 OF THE DUMP (.gsa) THAT YtllidkccikmgiaaProg.lean LOADS. Nothing in Lean hashes anything: it is a label: what it is worth is what the hold of that sum in a sandbox is worth. -/
noncomputable def Try.pinned : Pinned := { name := "ytllidkccikmgiaa", sum := "b7f9a7c6291d55477993738a53ba632580c9b34e121f05ba695ba357e5da9142", checked := Try.checked }
namespace Rows
def none {H : Type} : Left H := { results := [], args := [] }

/-- 'laws.FnCtl': WHATEVER THE INPUT: true; the input reads as it did. -/
def fnCtlSpec : ChangeSpec := { name := "fnCtl", fn := fun _ => fun
  | [d] => { results := [.lit (.bool true)], args := [d] }
  | _ => none }
def fnCtlRow : OpenClaim := { program := "ytllidkccikmgiaa", sum := "b7f9a7c6291d55477993738a53ba632580c9b34e121f05ba695ba357e5da9142", func := "loop.example/g00709/laws.FnCtl", spec := "fnCtl", apart := false }
def FnCtlSaid : Prop := fnCtlRow.holds Try.pinned (OpenSpec.ofChange fnCtlSpec)

/-- ITS FALSE NEIGHBOUR: 'it returns false'. Refute it at one input. -/
def fnCtlWrong : ChangeSpec := { name := "fnCtl", fn := fun _ => fun
  | [d] => { results := [.lit (.bool false)], args := [d] }
  | _ => none }
def FnCtlWrongFalsely : Prop := fnCtlRow.holds Try.pinned (OpenSpec.ofChange fnCtlWrong)

/-- 'laws.FnGrow': WHATEVER THE INPUT: true; the input reads as it did. -/
def fnGrowSpec : ChangeSpec := { name := "fnGrow", fn := fun _ => fun
  | [d] => { results := [.lit (.bool true)], args := [d] }
  | _ => none }
def fnGrowRow : OpenClaim := { program := "ytllidkccikmgiaa", sum := "b7f9a7c6291d55477993738a53ba632580c9b34e121f05ba695ba357e5da9142", func := "loop.example/g00709/laws.FnGrow", spec := "fnGrow", apart := false }
def FnGrowSaid : Prop := fnGrowRow.holds Try.pinned (OpenSpec.ofChange fnGrowSpec)

/-- ITS FALSE NEIGHBOUR: 'it returns false'. Refute it at one input. -/
def fnGrowWrong : ChangeSpec := { name := "fnGrow", fn := fun _ => fun
  | [d] => { results := [.lit (.bool false)], args := [d] }
  | _ => none }
def FnGrowWrongFalsely : Prop := fnGrowRow.holds Try.pinned (OpenSpec.ofChange fnGrowWrong)

/-- 'laws.FnStore': WHATEVER THE INPUT: true; the input reads as it did. -/
def fnStoreSpec : ChangeSpec := { name := "fnStore", fn := fun _ => fun
  | [d] => { results := [.lit (.bool true)], args := [d] }
  | _ => none }
def fnStoreRow : OpenClaim := { program := "ytllidkccikmgiaa", sum := "b7f9a7c6291d55477993738a53ba632580c9b34e121f05ba695ba357e5da9142", func := "loop.example/g00709/laws.FnStore", spec := "fnStore", unfollowed := true, recurses := true, apart := false }
def FnStoreSaid : Prop := fnStoreRow.holds Try.pinned (OpenSpec.ofChange fnStoreSpec)

/-- ITS FALSE NEIGHBOUR: 'it returns false'. Refute it at one input. -/
def fnStoreWrong : ChangeSpec := { name := "fnStore", fn := fun _ => fun
  | [d] => { results := [.lit (.bool false)], args := [d] }
  | _ => none }
def FnStoreWrongFalsely : Prop := fnStoreRow.holds Try.pinned (OpenSpec.ofChange fnStoreWrong)

/-- 'laws.FnClasses': WHATEVER THE INPUT: true; the input reads as it did. -/
def fnClassesSpec : ChangeSpec := { name := "fnClasses", fn := fun _ => fun
  | [d] => { results := [.lit (.bool true)], args := [d] }
  | _ => none }
def fnClassesRow : OpenClaim := { program := "ytllidkccikmgiaa", sum := "b7f9a7c6291d55477993738a53ba632580c9b34e121f05ba695ba357e5da9142", func := "loop.example/g00709/laws.FnClasses", spec := "fnClasses", apart := false }
def FnClassesSaid : Prop := fnClassesRow.holds Try.pinned (OpenSpec.ofChange fnClassesSpec)

/-- ITS FALSE NEIGHBOUR: 'it returns false'. Refute it at one input. -/
def fnClassesWrong : ChangeSpec := { name := "fnClasses", fn := fun _ => fun
  | [d] => { results := [.lit (.bool false)], args := [d] }
  | _ => none }
def FnClassesWrongFalsely : Prop := fnClassesRow.holds Try.pinned (OpenSpec.ofChange fnClassesWrong)

/-- 'laws.FnLongestBits': WHATEVER THE INPUT: true; the input reads as it did. -/
def fnLongestBitsSpec : ChangeSpec := { name := "fnLongestBits", fn := fun _ => fun
  | [d] => { results := [.lit (.bool true)], args := [d] }
  | _ => none }
def fnLongestBitsRow : OpenClaim := { program := "ytllidkccikmgiaa", sum := "b7f9a7c6291d55477993738a53ba632580c9b34e121f05ba695ba357e5da9142", func := "loop.example/g00709/laws.FnLongestBits", spec := "fnLongestBits", apart := false }
def FnLongestBitsSaid : Prop := fnLongestBitsRow.holds Try.pinned (OpenSpec.ofChange fnLongestBitsSpec)

/-- ITS FALSE NEIGHBOUR: 'it returns false'. Refute it at one input. -/
def fnLongestBitsWrong : ChangeSpec := { name := "fnLongestBits", fn := fun _ => fun
  | [d] => { results := [.lit (.bool false)], args := [d] }
  | _ => none }
def FnLongestBitsWrongFalsely : Prop := fnLongestBitsRow.holds Try.pinned (OpenSpec.ofChange fnLongestBitsWrong)

/-- 'laws.FnMemOps': WHATEVER THE INPUT: true; the input reads as it did. -/
def fnMemOpsSpec : ChangeSpec := { name := "fnMemOps", fn := fun _ => fun
  | [d] => { results := [.lit (.bool true)], args := [d] }
  | _ => none }
def fnMemOpsRow : OpenClaim := { program := "ytllidkccikmgiaa", sum := "b7f9a7c6291d55477993738a53ba632580c9b34e121f05ba695ba357e5da9142", func := "loop.example/g00709/laws.FnMemOps", spec := "fnMemOps", unfollowed := true, recurses := true, apart := false }
def FnMemOpsSaid : Prop := fnMemOpsRow.holds Try.pinned (OpenSpec.ofChange fnMemOpsSpec)

/-- ITS FALSE NEIGHBOUR: 'it returns false'. Refute it at one input. -/
def fnMemOpsWrong : ChangeSpec := { name := "fnMemOps", fn := fun _ => fun
  | [d] => { results := [.lit (.bool false)], args := [d] }
  | _ => none }
def FnMemOpsWrongFalsely : Prop := fnMemOpsRow.holds Try.pinned (OpenSpec.ofChange fnMemOpsWrong)

/-- 'laws.FnCas': WHATEVER THE INPUT: true; the input reads as it did. -/
def fnCasSpec : ChangeSpec := { name := "fnCas", fn := fun _ => fun
  | [d] => { results := [.lit (.bool true)], args := [d] }
  | _ => none }
def fnCasRow : OpenClaim := { program := "ytllidkccikmgiaa", sum := "b7f9a7c6291d55477993738a53ba632580c9b34e121f05ba695ba357e5da9142", func := "loop.example/g00709/laws.FnCas", spec := "fnCas", unfollowed := true, recurses := true, apart := false }
def FnCasSaid : Prop := fnCasRow.holds Try.pinned (OpenSpec.ofChange fnCasSpec)

/-- ITS FALSE NEIGHBOUR: 'it returns false'. Refute it at one input. -/
def fnCasWrong : ChangeSpec := { name := "fnCas", fn := fun _ => fun
  | [d] => { results := [.lit (.bool false)], args := [d] }
  | _ => none }
def FnCasWrongFalsely : Prop := fnCasRow.holds Try.pinned (OpenSpec.ofChange fnCasWrong)

/-- 'laws.FnLow': WHATEVER THE INPUT: true; the input reads as it did. -/
def fnLowSpec : ChangeSpec := { name := "fnLow", fn := fun _ => fun
  | [d] => { results := [.lit (.bool true)], args := [d] }
  | _ => none }
def fnLowRow : OpenClaim := { program := "ytllidkccikmgiaa", sum := "b7f9a7c6291d55477993738a53ba632580c9b34e121f05ba695ba357e5da9142", func := "loop.example/g00709/laws.FnLow", spec := "fnLow", apart := false }
def FnLowSaid : Prop := fnLowRow.holds Try.pinned (OpenSpec.ofChange fnLowSpec)

/-- ITS FALSE NEIGHBOUR: 'it returns false'. Refute it at one input. -/
def fnLowWrong : ChangeSpec := { name := "fnLow", fn := fun _ => fun
  | [d] => { results := [.lit (.bool false)], args := [d] }
  | _ => none }
def FnLowWrongFalsely : Prop := fnLowRow.holds Try.pinned (OpenSpec.ofChange fnLowWrong)

/-- 'laws.FnSpread': WHATEVER THE INPUT: true; the input reads as it did. -/
def fnSpreadSpec : ChangeSpec := { name := "fnSpread", fn := fun _ => fun
  | [d] => { results := [.lit (.bool true)], args := [d] }
  | _ => none }
def fnSpreadRow : OpenClaim := { program := "ytllidkccikmgiaa", sum := "b7f9a7c6291d55477993738a53ba632580c9b34e121f05ba695ba357e5da9142", func := "loop.example/g00709/laws.FnSpread", spec := "fnSpread", apart := false }
def FnSpreadSaid : Prop := fnSpreadRow.holds Try.pinned (OpenSpec.ofChange fnSpreadSpec)

/-- ITS FALSE NEIGHBOUR: 'it returns false'. Refute it at one input. -/
def fnSpreadWrong : ChangeSpec := { name := "fnSpread", fn := fun _ => fun
  | [d] => { results := [.lit (.bool false)], args := [d] }
  | _ => none }
def FnSpreadWrongFalsely : Prop := fnSpreadRow.holds Try.pinned (OpenSpec.ofChange fnSpreadWrong)

/- THE SECOND FORM. 'bulk': how many values and letters a reading holds, each counted each time it is reached (what is shared counts as often as it is met; a slice's spare places count too). A statement '..UptoSaid' is the law's where the arguments, and the package variables that the reading takes, are together of bulk at most 1048576: NARROWER than '..Said'. Prove '..Said' where nothing that the law and all that it calls make is longer than what came in: it says more and counts as full. Else prove '..UptoSaid'. A law counts once. -/
mutual
def uptoBulk {H : Type} : DataW H → Nat
  | .lit (.string bytes) => bytes.length + 1
  | .lit _ => 1
  | .nil => 1
  | .ptr d => uptoBulk d + 1
  | .slice elems spare => uptoBulkAll elems + uptoBulkAll spare + 1
  | .agg parts => uptoBulkAll parts + 1
  | .iface _ d => uptoBulk d + 1
  | .map entries => uptoBulkEntries entries + 1
  | .held _ => 1
def uptoBulkAll {H : Type} : List (DataW H) → Nat
  | [] => 0
  | d :: r => uptoBulk d + uptoBulkAll r
def uptoBulkEntries {H : Type} : List (Lit × DataW H) → Nat
  | [] => 0
  | x :: r => uptoBulkEntry x + uptoBulkEntries r
def uptoBulkEntry {H : Type} : Lit × DataW H → Nat
  | (.string bytes, d) => bytes.length + uptoBulk d + 1
  | (_, d) => uptoBulk d + 1
 end
def uptoSmall : (H : Type) → List (DataW H) → Bool := fun _ ds => decide (uptoBulkAll ds ≤ 1048576)
def OpenSpec.upto (s : _root_.Go.ChangeSpec) : _root_.Go.OpenSpec := { _root_.Go.OpenSpec.ofChange s with cond := some uptoSmall }

/-- 'laws.FnCtl', WHERE WHAT IT READS IS OF BULK AT MOST 1048576: true; the input reads as it did. -/
def fnCtlUptoRow : OpenClaim := { program := "ytllidkccikmgiaa", sum := "b7f9a7c6291d55477993738a53ba632580c9b34e121f05ba695ba357e5da9142", func := "loop.example/g00709/laws.FnCtl", spec := "fnCtl", apart := false, narrowed := true }
def FnCtlUptoSaid : Prop := fnCtlUptoRow.holds Try.pinned (OpenSpec.upto fnCtlSpec)

/-- 'laws.FnGrow', WHERE WHAT IT READS IS OF BULK AT MOST 1048576: true; the input reads as it did. -/
def fnGrowUptoRow : OpenClaim := { program := "ytllidkccikmgiaa", sum := "b7f9a7c6291d55477993738a53ba632580c9b34e121f05ba695ba357e5da9142", func := "loop.example/g00709/laws.FnGrow", spec := "fnGrow", apart := false, narrowed := true }
def FnGrowUptoSaid : Prop := fnGrowUptoRow.holds Try.pinned (OpenSpec.upto fnGrowSpec)

/-- 'laws.FnStore', WHERE WHAT IT READS IS OF BULK AT MOST 1048576: true; the input reads as it did. -/
def fnStoreUptoRow : OpenClaim := { program := "ytllidkccikmgiaa", sum := "b7f9a7c6291d55477993738a53ba632580c9b34e121f05ba695ba357e5da9142", func := "loop.example/g00709/laws.FnStore", spec := "fnStore", unfollowed := true, recurses := true, apart := false, narrowed := true }
def FnStoreUptoSaid : Prop := fnStoreUptoRow.holds Try.pinned (OpenSpec.upto fnStoreSpec)

/-- 'laws.FnClasses', WHERE WHAT IT READS IS OF BULK AT MOST 1048576: true; the input reads as it did. -/
def fnClassesUptoRow : OpenClaim := { program := "ytllidkccikmgiaa", sum := "b7f9a7c6291d55477993738a53ba632580c9b34e121f05ba695ba357e5da9142", func := "loop.example/g00709/laws.FnClasses", spec := "fnClasses", apart := false, narrowed := true }
def FnClassesUptoSaid : Prop := fnClassesUptoRow.holds Try.pinned (OpenSpec.upto fnClassesSpec)

/-- 'laws.FnLongestBits', WHERE WHAT IT READS IS OF BULK AT MOST 1048576: true; the input reads as it did. -/
def fnLongestBitsUptoRow : OpenClaim := { program := "ytllidkccikmgiaa", sum := "b7f9a7c6291d55477993738a53ba632580c9b34e121f05ba695ba357e5da9142", func := "loop.example/g00709/laws.FnLongestBits", spec := "fnLongestBits", apart := false, narrowed := true }
def FnLongestBitsUptoSaid : Prop := fnLongestBitsUptoRow.holds Try.pinned (OpenSpec.upto fnLongestBitsSpec)

/-- 'laws.FnMemOps', WHERE WHAT IT READS IS OF BULK AT MOST 1048576: true; the input reads as it did. -/
def fnMemOpsUptoRow : OpenClaim := { program := "ytllidkccikmgiaa", sum := "b7f9a7c6291d55477993738a53ba632580c9b34e121f05ba695ba357e5da9142", func := "loop.example/g00709/laws.FnMemOps", spec := "fnMemOps", unfollowed := true, recurses := true, apart := false, narrowed := true }
def FnMemOpsUptoSaid : Prop := fnMemOpsUptoRow.holds Try.pinned (OpenSpec.upto fnMemOpsSpec)

/-- 'laws.FnCas', WHERE WHAT IT READS IS OF BULK AT MOST 1048576: true; the input reads as it did. -/
def fnCasUptoRow : OpenClaim := { program := "ytllidkccikmgiaa", sum := "b7f9a7c6291d55477993738a53ba632580c9b34e121f05ba695ba357e5da9142", func := "loop.example/g00709/laws.FnCas", spec := "fnCas", unfollowed := true, recurses := true, apart := false, narrowed := true }
def FnCasUptoSaid : Prop := fnCasUptoRow.holds Try.pinned (OpenSpec.upto fnCasSpec)

/-- 'laws.FnLow', WHERE WHAT IT READS IS OF BULK AT MOST 1048576: true; the input reads as it did. -/
def fnLowUptoRow : OpenClaim := { program := "ytllidkccikmgiaa", sum := "b7f9a7c6291d55477993738a53ba632580c9b34e121f05ba695ba357e5da9142", func := "loop.example/g00709/laws.FnLow", spec := "fnLow", apart := false, narrowed := true }
def FnLowUptoSaid : Prop := fnLowUptoRow.holds Try.pinned (OpenSpec.upto fnLowSpec)

/-- 'laws.FnSpread', WHERE WHAT IT READS IS OF BULK AT MOST 1048576: true; the input reads as it did. -/
def fnSpreadUptoRow : OpenClaim := { program := "ytllidkccikmgiaa", sum := "b7f9a7c6291d55477993738a53ba632580c9b34e121f05ba695ba357e5da9142", func := "loop.example/g00709/laws.FnSpread", spec := "fnSpread", apart := false, narrowed := true }
def FnSpreadUptoSaid : Prop := fnSpreadUptoRow.holds Try.pinned (OpenSpec.upto fnSpreadSpec)

end Rows
end Go.Proofs.Ytllidkccikmgiaa
