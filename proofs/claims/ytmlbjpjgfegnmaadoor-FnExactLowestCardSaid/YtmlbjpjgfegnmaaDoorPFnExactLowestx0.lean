-- Written by this session's program (wip/bin/myprint.sh) by means of the kit's print.py; Lean checks it.
import Derived.Test.YtmlbjpjgfegnmaaDoorProg
import Derived.Below
import Derived.Deep.Draws
import Derived.Deep.AppendLies
import Derived.Maps.AppendAt
import Derived.OwnWalk
import Derived.Laws.BytesArg
import Derived.Laws.MakeOwn
import Derived.Laws.OwnMore
import Derived.Deep.OwnRows
import Derived.Tactics
import Derived.Lib.ConvBytes
import Derived.Laws.Slices
import Derived.WalkKit
import Derived.KernelRfl
import Derived.RowKit3
import Derived.Deep.LoopGhost
import Derived.Deep.QuietTactic
import Derived.BigQuiet
import Derived.WideLaws
import Derived.Deep.DeepCutAuto
import Derived.Deep.CutBlock
import Derived.Deep.RegionHeld3
import Derived.Laws.Rows
import Derived.Lib.AppendStr
import Derived.ArgAppend
import Derived.Laws.IdiomCopy
import Derived.OrdersHeld
import Derived.Laws.BitsLemmas
import Derived.RowKit
import Derived.Test.YtmlbjpjgfegnmaaDoorWWords
import Derived.Test.YtmlbjpjgfegnmaaDoorWLast
import Derived.Test.YtmlbjpjgfegnmaaDoorWTab
import Derived.Test.YtmlbjpjgfegnmaaDoorWFour
import Derived.Test.YtmlbjpjgfegnmaaDoorWQPut
import Derived.Test.YtmlbjpjgfegnmaaDoorWApart
import Derived.Test.YtmlbjpjgfegnmaaDoorWArr
import Derived.Test.YtmlbjpjgfegnmaaDoorWZeros
import Derived.Test.YtmlbjpjgfegnmaaDoorWFoot
import Derived.Test.YtmlbjpjgfegnmaaDoorWKept
import Derived.Test.YtmlbjpjgfegnmaaDoorWShare
import Derived.Test.YtmlbjpjgfegnmaaDoorWN
import Derived.Test.YtmlbjpjgfegnmaaDoorWFootNe
import Derived.Test.YtmlbjpjgfegnmaaDoorWAt
import Derived.Test.YtmlbjpjgfegnmaaDoorWEqStruct
import Derived.Test.YtmlbjpjgfegnmaaDoorWRepsOne
import Derived.Test.YtmlbjpjgfegnmaaDoorWInv
import Derived.Test.YtmlbjpjgfegnmaaDoorWInvWords
import Derived.Test.YtmlbjpjgfegnmaaDoorWGuard
import Derived.Test.YtmlbjpjgfegnmaaDoorWNEv
import Derived.Test.YtmlbjpjgfegnmaaDoorWMore
namespace Go.Proofs.YtmlbjpjgfegnmaaDoor.PFnExactLowest
open Go.RowKit Go.Proofs.YtmlbjpjgfegnmaaDoorW.PrintWords Go.Proofs.YtmlbjpjgfegnmaaDoorW.PrintLast Go.Proofs.YtmlbjpjgfegnmaaDoorW.PrintMore
attribute [local go_sem] max2_int min2_int max_two min_two max_three min_three max_four min_four   -- for this text's walks alone
set_option linter.unusedVariables false
set_option linter.unusedSimpArgs false



def errW : Option Int → Value
  | none => .nilIface
  | some c => .iface 0 (.int .i64 c)
theorem errW_none : errW none = .nilIface := rfl
theorem errW_some (c : Int) : errW (some c) = .iface 0 (.int .i64 c) := rfl

theorem info3 : (Tryd.prog.info? 3).map (fun i => (i.zero, i.size, i.bytes)) = some (some (.int .i64 0), 1, 8) := by kernel_rfl
-- the values' own types

end Go.Proofs.YtmlbjpjgfegnmaaDoor.PFnExactLowest
