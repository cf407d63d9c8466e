-- Written by this session's program (wip/bin/myprint.sh) by means of the kit's print.py; Lean checks it.
import Derived.Test.YtlolelhajjiapaaProg
import Derived.Below
import Derived.Deep.Draws
import Derived.Deep.AppendLies
import Derived.Maps.AppendAt
import Derived.OwnWalk
import Derived.Laws.BytesArg
import Derived.Laws.MakeOwn
import Derived.Laws.OwnMore
import Derived.Deep.OwnRows
import Derived.Tactics
import Derived.Lib.ConvBytes
import Derived.Laws.Slices
import Derived.WalkKit
import Derived.KernelRfl
import Derived.RowKit3
import Derived.Deep.LoopGhost
import Derived.Deep.QuietTactic
import Derived.BigQuiet
import Derived.WideLaws
import Derived.Deep.DeepCutAuto
import Derived.Deep.CutBlock
import Derived.Deep.RegionHeld3
import Derived.Laws.Rows
import Derived.Lib.AppendStr
import Derived.ArgAppend
import Derived.Laws.IdiomCopy
import Derived.OrdersHeld
import Derived.Laws.BitsLemmas
import Derived.RowKit
import Derived.Test.YtlolelhajjiapaaWWords
import Derived.Test.YtlolelhajjiapaaWLast
import Derived.Test.YtlolelhajjiapaaWTab
import Derived.Test.YtlolelhajjiapaaWFour
import Derived.Test.YtlolelhajjiapaaWQPut
import Derived.Test.YtlolelhajjiapaaWApart
import Derived.Test.YtlolelhajjiapaaWArr
import Derived.Test.YtlolelhajjiapaaWZeros
import Derived.Test.YtlolelhajjiapaaWFoot
import Derived.Test.YtlolelhajjiapaaWKept
import Derived.Test.YtlolelhajjiapaaWShare
import Derived.Test.YtlolelhajjiapaaWN
import Derived.Test.YtlolelhajjiapaaWFootNe
import Derived.Test.YtlolelhajjiapaaWAt
import Derived.Test.YtlolelhajjiapaaWEqStruct
import Derived.Test.YtlolelhajjiapaaWRepsOne
import Derived.Test.YtlolelhajjiapaaWInv
import Derived.Test.YtlolelhajjiapaaWInvWords
import Derived.Test.YtlolelhajjiapaaWGuard
import Derived.Test.YtlolelhajjiapaaWNEv
import Derived.Test.YtlolelhajjiapaaWMore
namespace Go.Proofs.Ytlolelhajjiapaa.PFnExactFreeLow
open Go.RowKit Go.Proofs.YtlolelhajjiapaaW.PrintWords Go.Proofs.YtlolelhajjiapaaW.PrintLast Go.Proofs.YtlolelhajjiapaaW.PrintMore
attribute [local go_sem] max2_int min2_int max_two min_two max_three min_three max_four min_four   -- for this text's walks alone
set_option linter.unusedVariables false
set_option linter.unusedSimpArgs false



def errW : Option Int → Value
  | none => .nilIface
  | some c => .iface 0 (.int .i64 c)
theorem errW_none : errW none = .nilIface := rfl
theorem errW_some (c : Int) : errW (some c) = .iface 0 (.int .i64 c) := rfl

theorem info3 : (Try.prog.info? 3).map (fun i => (i.zero, i.size, i.bytes)) = some (some (.int .i64 0), 1, 8) := by kernel_rfl
-- the values' own types

end Go.Proofs.Ytlolelhajjiapaa.PFnExactFreeLow
