/-
  NARROWER THAN 'FOR EVERY INPUT', by the rows' own cells (each row's printed sentence says how): FnGroups: laid · FnLanes: laid · FnExactLeader: laid · FnBitsBack: laid · FnExactGroupOf: laid · FnExactGroups: laid.
  DERIVED. THE GIVEN ROWS OF THIS SEAT. 6 by the template 'for every input the law returns true; each argument reads behind the call as it read before'; 0 by the template 'total and deterministic' (their statements: YtklgbopdhomnaaaDoorTotals.lean).
  GIVEN WITH THE SEED: the statements are not yours to turn. If you find one false, say at which input.
  Laid BY PROGRAM, IN A SANDBOX (cutbox-rows.mjs): the forced cells as the released guide's own fill.sh prints them over the translation 94ba5da0a3777b93… (all of the seat's roots in one cut). By AI agents, Wed Nov 11 2026. No macro, syntax, notation, axiom, sorry.
-/
import Derived.Test.YtklgbopdhomnaaaDoorChecked
import GoSem.Claim
import GoSem.ClaimJoined
import GoSem.ClaimMapViews
import Derived.JoinedTies
import Derived.KernelRfl
namespace Go.Proofs.YtklgbopdhomnaaaDoor
/- THE CELL 'sum', in the pinned program and in every row, IS THE sha256 OF THE DUMP (.gsa) THAT YtklgbopdhomnaaaDoorProg.lean LOADS. Nothing in Lean hashes anything: it is a label: what it is worth is what the hold of that sum in a sandbox is worth. -/
noncomputable def Tryd.pinned : Pinned := { name := "ytklgbopdhomnaaadoor", sum := "94ba5da0a3777b93eed913320dd10f3cc48b6fc0148dd2293f74fe8f0421aa4f", checked := Tryd.checked }
namespace Rows
def none {H : Type} : Left H := { results := [], args := [] }

/- WHAT THE LISTED PACKAGE-LEVEL VARIABLES READ AS WHEN THE CALL BEGINS. Each datum BY PROGRAM (the guide's laid-datum.mjs) off the statement by which the dump's own 'gosem.cut.vars' lays the variable. In a bare row this is a premise. The card (YtklgbopdhomnaaaDoorCards.lean) ties it to the program's text. -/
def laid_math_bits_deBruijn32tab {H : Type} : DataW H := .agg [.lit (.int .u8 0), .lit (.int .u8 1), .lit (.int .u8 28), .lit (.int .u8 2), .lit (.int .u8 29), .lit (.int .u8 14), .lit (.int .u8 24), .lit (.int .u8 3), .lit (.int .u8 30), .lit (.int .u8 22), .lit (.int .u8 20), .lit (.int .u8 15), .lit (.int .u8 25), .lit (.int .u8 17), .lit (.int .u8 4), .lit (.int .u8 8), .lit (.int .u8 31), .lit (.int .u8 27), .lit (.int .u8 13), .lit (.int .u8 23), .lit (.int .u8 21), .lit (.int .u8 19), .lit (.int .u8 16), .lit (.int .u8 7), .lit (.int .u8 26), .lit (.int .u8 12), .lit (.int .u8 18), .lit (.int .u8 6), .lit (.int .u8 11), .lit (.int .u8 5), .lit (.int .u8 10), .lit (.int .u8 9)]

/-- 'laws.FnGroups': WHATEVER THE INPUT: true; the input reads as it did. -/
def fnGroupsSpec : ChangeSpec := { name := "fnGroups", fn := fun _ => fun
  | [d] => { results := [.lit (.bool true)], args := [d] }
  | _ => none }
def fnGroupsRow : OpenClaim := { program := "ytklgbopdhomnaaadoor", sum := "94ba5da0a3777b93eed913320dd10f3cc48b6fc0148dd2293f74fe8f0421aa4f", func := "loop.example/g00709/laws.FnGroups", spec := "fnGroups", named := ["math/bits.deBruijn32tab"], apart := false, laid := [("math/bits.deBruijn32tab", laid_math_bits_deBruijn32tab)] }
def FnGroupsSaid : Prop := fnGroupsRow.holds Tryd.pinned (OpenSpec.ofChange fnGroupsSpec)

/-- ITS FALSE NEIGHBOUR: 'it returns false'. Refute it at one input. -/
def fnGroupsWrong : ChangeSpec := { name := "fnGroups", fn := fun _ => fun
  | [d] => { results := [.lit (.bool false)], args := [d] }
  | _ => none }
def FnGroupsWrongFalsely : Prop := fnGroupsRow.holds Tryd.pinned (OpenSpec.ofChange fnGroupsWrong)

/-- 'laws.FnLanes': WHATEVER THE INPUT: true; the input reads as it did. -/
def fnLanesSpec : ChangeSpec := { name := "fnLanes", fn := fun _ => fun
  | [d] => { results := [.lit (.bool true)], args := [d] }
  | _ => none }
def fnLanesRow : OpenClaim := { program := "ytklgbopdhomnaaadoor", sum := "94ba5da0a3777b93eed913320dd10f3cc48b6fc0148dd2293f74fe8f0421aa4f", func := "loop.example/g00709/laws.FnLanes", spec := "fnLanes", named := ["math/bits.deBruijn32tab"], apart := false, laid := [("math/bits.deBruijn32tab", laid_math_bits_deBruijn32tab)] }
def FnLanesSaid : Prop := fnLanesRow.holds Tryd.pinned (OpenSpec.ofChange fnLanesSpec)

/-- ITS FALSE NEIGHBOUR: 'it returns false'. Refute it at one input. -/
def fnLanesWrong : ChangeSpec := { name := "fnLanes", fn := fun _ => fun
  | [d] => { results := [.lit (.bool false)], args := [d] }
  | _ => none }
def FnLanesWrongFalsely : Prop := fnLanesRow.holds Tryd.pinned (OpenSpec.ofChange fnLanesWrong)

/-- 'laws.FnExactLeader': WHATEVER THE INPUT: true; the input reads as it did. -/
def fnExactLeaderSpec : ChangeSpec := { name := "fnExactLeader", fn := fun _ => fun
  | [d] => { results := [.lit (.bool true)], args := [d] }
  | _ => none }
def fnExactLeaderRow : OpenClaim := { program := "ytklgbopdhomnaaadoor", sum := "94ba5da0a3777b93eed913320dd10f3cc48b6fc0148dd2293f74fe8f0421aa4f", func := "loop.example/g00709/laws.FnExactLeader", spec := "fnExactLeader", named := ["math/bits.deBruijn32tab"], apart := false, laid := [("math/bits.deBruijn32tab", laid_math_bits_deBruijn32tab)] }
def FnExactLeaderSaid : Prop := fnExactLeaderRow.holds Tryd.pinned (OpenSpec.ofChange fnExactLeaderSpec)

/-- ITS FALSE NEIGHBOUR: 'it returns false'. Refute it at one input. -/
def fnExactLeaderWrong : ChangeSpec := { name := "fnExactLeader", fn := fun _ => fun
  | [d] => { results := [.lit (.bool false)], args := [d] }
  | _ => none }
def FnExactLeaderWrongFalsely : Prop := fnExactLeaderRow.holds Tryd.pinned (OpenSpec.ofChange fnExactLeaderWrong)

/-- 'laws.FnBitsBack': WHATEVER THE INPUT: true; the input reads as it did. -/
def fnBitsBackSpec : ChangeSpec := { name := "fnBitsBack", fn := fun _ => fun
  | [d] => { results := [.lit (.bool true)], args := [d] }
  | _ => none }
def fnBitsBackRow : OpenClaim := { program := "ytklgbopdhomnaaadoor", sum := "94ba5da0a3777b93eed913320dd10f3cc48b6fc0148dd2293f74fe8f0421aa4f", func := "loop.example/g00709/laws.FnBitsBack", spec := "fnBitsBack", named := ["math/bits.deBruijn32tab"], apart := false, laid := [("math/bits.deBruijn32tab", laid_math_bits_deBruijn32tab)] }
def FnBitsBackSaid : Prop := fnBitsBackRow.holds Tryd.pinned (OpenSpec.ofChange fnBitsBackSpec)

/-- ITS FALSE NEIGHBOUR: 'it returns false'. Refute it at one input. -/
def fnBitsBackWrong : ChangeSpec := { name := "fnBitsBack", fn := fun _ => fun
  | [d] => { results := [.lit (.bool false)], args := [d] }
  | _ => none }
def FnBitsBackWrongFalsely : Prop := fnBitsBackRow.holds Tryd.pinned (OpenSpec.ofChange fnBitsBackWrong)

/-- 'laws.FnExactGroupOf': WHATEVER THE INPUT: true; the input reads as it did. -/
def fnExactGroupOfSpec : ChangeSpec := { name := "fnExactGroupOf", fn := fun _ => fun
  | [d1, d2] => { results := [.lit (.bool true)], args := [d1, d2] }
  | _ => none }
def fnExactGroupOfRow : OpenClaim := { program := "ytklgbopdhomnaaadoor", sum := "94ba5da0a3777b93eed913320dd10f3cc48b6fc0148dd2293f74fe8f0421aa4f", func := "loop.example/g00709/laws.FnExactGroupOf", spec := "fnExactGroupOf", named := ["math/bits.deBruijn32tab"], apart := false, laid := [("math/bits.deBruijn32tab", laid_math_bits_deBruijn32tab)] }
def FnExactGroupOfSaid : Prop := fnExactGroupOfRow.holds Tryd.pinned (OpenSpec.ofChange fnExactGroupOfSpec)

/-- ITS FALSE NEIGHBOUR: 'it returns false'. Refute it at one input. -/
def fnExactGroupOfWrong : ChangeSpec := { name := "fnExactGroupOf", fn := fun _ => fun
  | [d1, d2] => { results := [.lit (.bool false)], args := [d1, d2] }
  | _ => none }
def FnExactGroupOfWrongFalsely : Prop := fnExactGroupOfRow.holds Tryd.pinned (OpenSpec.ofChange fnExactGroupOfWrong)

/-- 'laws.FnExactGroups': WHATEVER THE INPUT: true; the input reads as it did. -/
def fnExactGroupsSpec : ChangeSpec := { name := "fnExactGroups", fn := fun _ => fun
  | [d1, d2] => { results := [.lit (.bool true)], args := [d1, d2] }
  | _ => none }
def fnExactGroupsRow : OpenClaim := { program := "ytklgbopdhomnaaadoor", sum := "94ba5da0a3777b93eed913320dd10f3cc48b6fc0148dd2293f74fe8f0421aa4f", func := "loop.example/g00709/laws.FnExactGroups", spec := "fnExactGroups", named := ["math/bits.deBruijn32tab"], apart := false, laid := [("math/bits.deBruijn32tab", laid_math_bits_deBruijn32tab)] }
def FnExactGroupsSaid : Prop := fnExactGroupsRow.holds Tryd.pinned (OpenSpec.ofChange fnExactGroupsSpec)

/-- ITS FALSE NEIGHBOUR: 'it returns false'. Refute it at one input. -/
def fnExactGroupsWrong : ChangeSpec := { name := "fnExactGroups", fn := fun _ => fun
  | [d1, d2] => { results := [.lit (.bool false)], args := [d1, d2] }
  | _ => none }
def FnExactGroupsWrongFalsely : Prop := fnExactGroupsRow.holds Tryd.pinned (OpenSpec.ofChange fnExactGroupsWrong)

/- THE SECOND FORM. 'bulk': how many values and letters a reading holds, each counted each time it is reached (what is shared counts as often as it is met; a slice's spare places count too). A statement '..UptoSaid' is the law's where the arguments, and the package variables that the reading takes, are together of bulk at most 1048576: NARROWER than '..Said'. Prove '..Said' where nothing that the law and all that it calls make is longer than what came in: it says more and counts as full. Else prove '..UptoSaid'. A law counts once. -/
mutual
def uptoBulk {H : Type} : DataW H → Nat
  | .lit (.string bytes) => bytes.length + 1
  | .lit _ => 1
  | .nil => 1
  | .ptr d => uptoBulk d + 1
  | .slice elems spare => uptoBulkAll elems + uptoBulkAll spare + 1
  | .agg parts => uptoBulkAll parts + 1
  | .iface _ d => uptoBulk d + 1
  | .map entries => uptoBulkEntries entries + 1
  | .held _ => 1
def uptoBulkAll {H : Type} : List (DataW H) → Nat
  | [] => 0
  | d :: r => uptoBulk d + uptoBulkAll r
def uptoBulkEntries {H : Type} : List (Lit × DataW H) → Nat
  | [] => 0
  | x :: r => uptoBulkEntry x + uptoBulkEntries r
def uptoBulkEntry {H : Type} : Lit × DataW H → Nat
  | (.string bytes, d) => bytes.length + uptoBulk d + 1
  | (_, d) => uptoBulk d + 1
 end
def uptoSmall : (H : Type) → List (DataW H) → Bool := fun _ ds => decide (uptoBulkAll ds ≤ 1048576)
def OpenSpec.upto (s : _root_.Go.ChangeSpec) : _root_.Go.OpenSpec := { _root_.Go.OpenSpec.ofChange s with cond := some uptoSmall }

/-- 'laws.FnGroups', WHERE WHAT IT READS IS OF BULK AT MOST 1048576: true; the input reads as it did. -/
def fnGroupsUptoRow : OpenClaim := { program := "ytklgbopdhomnaaadoor", sum := "94ba5da0a3777b93eed913320dd10f3cc48b6fc0148dd2293f74fe8f0421aa4f", func := "loop.example/g00709/laws.FnGroups", spec := "fnGroups", named := ["math/bits.deBruijn32tab"], apart := false, laid := [("math/bits.deBruijn32tab", laid_math_bits_deBruijn32tab)], narrowed := true }
def FnGroupsUptoSaid : Prop := fnGroupsUptoRow.holds Tryd.pinned (OpenSpec.upto fnGroupsSpec)

/-- 'laws.FnLanes', WHERE WHAT IT READS IS OF BULK AT MOST 1048576: true; the input reads as it did. -/
def fnLanesUptoRow : OpenClaim := { program := "ytklgbopdhomnaaadoor", sum := "94ba5da0a3777b93eed913320dd10f3cc48b6fc0148dd2293f74fe8f0421aa4f", func := "loop.example/g00709/laws.FnLanes", spec := "fnLanes", named := ["math/bits.deBruijn32tab"], apart := false, laid := [("math/bits.deBruijn32tab", laid_math_bits_deBruijn32tab)], narrowed := true }
def FnLanesUptoSaid : Prop := fnLanesUptoRow.holds Tryd.pinned (OpenSpec.upto fnLanesSpec)

/-- 'laws.FnExactLeader', WHERE WHAT IT READS IS OF BULK AT MOST 1048576: true; the input reads as it did. -/
def fnExactLeaderUptoRow : OpenClaim := { program := "ytklgbopdhomnaaadoor", sum := "94ba5da0a3777b93eed913320dd10f3cc48b6fc0148dd2293f74fe8f0421aa4f", func := "loop.example/g00709/laws.FnExactLeader", spec := "fnExactLeader", named := ["math/bits.deBruijn32tab"], apart := false, laid := [("math/bits.deBruijn32tab", laid_math_bits_deBruijn32tab)], narrowed := true }
def FnExactLeaderUptoSaid : Prop := fnExactLeaderUptoRow.holds Tryd.pinned (OpenSpec.upto fnExactLeaderSpec)

/-- 'laws.FnBitsBack', WHERE WHAT IT READS IS OF BULK AT MOST 1048576: true; the input reads as it did. -/
def fnBitsBackUptoRow : OpenClaim := { program := "ytklgbopdhomnaaadoor", sum := "94ba5da0a3777b93eed913320dd10f3cc48b6fc0148dd2293f74fe8f0421aa4f", func := "loop.example/g00709/laws.FnBitsBack", spec := "fnBitsBack", named := ["math/bits.deBruijn32tab"], apart := false, laid := [("math/bits.deBruijn32tab", laid_math_bits_deBruijn32tab)], narrowed := true }
def FnBitsBackUptoSaid : Prop := fnBitsBackUptoRow.holds Tryd.pinned (OpenSpec.upto fnBitsBackSpec)

/-- 'laws.FnExactGroupOf', WHERE WHAT IT READS IS OF BULK AT MOST 1048576: true; the input reads as it did. -/
def fnExactGroupOfUptoRow : OpenClaim := { program := "ytklgbopdhomnaaadoor", sum := "94ba5da0a3777b93eed913320dd10f3cc48b6fc0148dd2293f74fe8f0421aa4f", func := "loop.example/g00709/laws.FnExactGroupOf", spec := "fnExactGroupOf", named := ["math/bits.deBruijn32tab"], apart := false, laid := [("math/bits.deBruijn32tab", laid_math_bits_deBruijn32tab)], narrowed := true }
def FnExactGroupOfUptoSaid : Prop := fnExactGroupOfUptoRow.holds Tryd.pinned (OpenSpec.upto fnExactGroupOfSpec)

/-- 'laws.FnExactGroups', WHERE WHAT IT READS IS OF BULK AT MOST 1048576: true; the input reads as it did. -/
def fnExactGroupsUptoRow : OpenClaim := { program := "ytklgbopdhomnaaadoor", sum := "94ba5da0a3777b93eed913320dd10f3cc48b6fc0148dd2293f74fe8f0421aa4f", func := "loop.example/g00709/laws.FnExactGroups", spec := "fnExactGroups", named := ["math/bits.deBruijn32tab"], apart := false, laid := [("math/bits.deBruijn32tab", laid_math_bits_deBruijn32tab)], narrowed := true }
def FnExactGroupsUptoSaid : Prop := fnExactGroupsUptoRow.holds Tryd.pinned (OpenSpec.upto fnExactGroupsSpec)

end Rows
end Go.Proofs.YtklgbopdhomnaaaDoor
