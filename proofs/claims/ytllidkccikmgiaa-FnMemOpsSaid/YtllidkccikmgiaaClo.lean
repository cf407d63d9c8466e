import Derived.Test.YtllidkccikmgiaaProg
import Derived.Below
import Derived.Deep.Draws
import Derived.Deep.AppendLies
import Derived.Maps.AppendAt
import Derived.OwnWalk
import Derived.Laws.BytesArg
import Derived.Laws.MakeOwn
import Derived.Laws.OwnMore
import Derived.Deep.OwnRows
import Derived.Tactics
import Derived.Lib.ConvBytes
import Derived.Laws.Slices
import Derived.WalkKit
import Derived.KernelRfl
import Derived.RowKit3
import Derived.Deep.LoopGhost
import Derived.Deep.QuietTactic
import Derived.BigQuiet
import Derived.WideLaws
import Derived.Deep.DeepCutAuto
import Derived.Deep.CutBlock
import Derived.Deep.RegionHeld3
import Derived.Laws.Rows
import Derived.Lib.AppendStr
import Derived.ArgAppend
import Derived.Laws.IdiomCopy
import Derived.OrdersHeld
import Derived.Laws.BitsLemmas
import Derived.RowKit
import Derived.Test.YtllidkccikmgiaaWWords
import Derived.Test.YtllidkccikmgiaaWLast
import Derived.Test.YtllidkccikmgiaaWTab
import Derived.Test.YtllidkccikmgiaaWFour
import Derived.Test.YtllidkccikmgiaaWQPut
import Derived.Test.YtllidkccikmgiaaWApart
import Derived.Test.YtllidkccikmgiaaWArr
import Derived.Test.YtllidkccikmgiaaWZeros
import Derived.Test.YtllidkccikmgiaaWFoot
import Derived.Test.YtllidkccikmgiaaWKept
import Derived.Test.YtllidkccikmgiaaWShare
import Derived.Test.YtllidkccikmgiaaWN
import Derived.Test.YtllidkccikmgiaaWFootNe
import Derived.Test.YtllidkccikmgiaaWAt
import Derived.Test.YtllidkccikmgiaaWEqStruct
import Derived.Test.YtllidkccikmgiaaWRepsOne
import Derived.Test.YtllidkccikmgiaaWInv
import Derived.Test.YtllidkccikmgiaaWInvWords
import Derived.Test.YtllidkccikmgiaaWGuard
import Derived.Test.YtllidkccikmgiaaWNEv
import Derived.Test.YtllidkccikmgiaaWMore
namespace Go.Proofs.Ytllidkccikmgiaa.Clo
open Go.RowKit Go.Proofs.YtllidkccikmgiaaW.PrintWords Go.Proofs.YtllidkccikmgiaaW.PrintLast Go.Proofs.YtllidkccikmgiaaW.PrintMore
set_option linter.unusedVariables false
set_option linter.unusedSimpArgs false
set_option maxHeartbeats 8000000
set_option maxRecDepth 100000
-- the closures' numbers in this program
-- store 85
-- add 93
-- or 94
-- and 95
-- cas 96

theorem goesV_ {P : Program} {ops : Array Oper} {Q : Exit → Act → World → Prop} {rest : List Oper} {oi : Oper} {a : Act} {w : World} (N : Option Tmp) (hd : oi.dst = N) (hg : oi.guard = none) {x : Operand} {as_ : Array Operand} {ts : Array TypeId}
    (hop : oi.op = .call { callee := .value x, args := as_, argTypes := ts }) {f : FuncId} {fn : Func} (caps : Array Value) (hx : a.eval x = .func (.func f) #[] caps) (hf : P.funcs[f]? = some fn) (hname : (fn.name == "runtime.NumGoroutine") = false) (hb : fn.body.isSome = true)
    (args : Array Value) (hargs : as_.map a.eval = args) (h : Calls P f (args ++ caps) w fun e w' => ∃ v, e = .returned v ∧ wpList P ops Q rest (a.put N v) w') : wpList P ops Q (oi :: rest) a w := by
  refine wpList_plain hg fun K hK => ?_
  have he := enters_ hf hname hb (args ++ caps) w
  have hrun : (execOp a.eval oi).run P w = .ok (.enter f (args ++ caps)) w := by
    unfold execOp
    simp [hop, resolve, Deferred.ofValue, invoke, hx, hargs, he]
  unfold Oper.wp
  rw [hrun, Oper.upon_enter]
  refine h.mono fun e w'' hh => ?_
  obtain ⟨v, rfl, hk⟩ := hh
  subst hd
  exact hK _ _ hk
theorem uponV_ {P : Program} {Q : Exit → Act → World → Prop} {K : Act → World → Prop} {oi : Oper} {a : Act} {w : World} {f : FuncId} {fn : Func} {args : Array Value} (hf : P.funcs[f]? = some fn) (hname : (fn.name == "runtime.NumGoroutine") = false) (hb : fn.body.isSome = true)
    (h : Calls P f args w fun e w' => ∃ v, e = .returned v ∧ K (a.put oi.dst v) w') : Oper.upon P oi a K Q ((callFunc f args).run P w) := by
  rw [enters_ hf hname hb args w, Oper.upon_enter]
  refine h.mono fun e w'' hh => ?_
  obtain ⟨v, rfl, hk⟩ := hh
  exact hk
@[go_sem] theorem run_mf (P : Program) (fn : Fn) (first cap : Array Value) (w : World) : (Instr.makeFunc fn first cap).run P w = .ok (.func fn first cap) w := rfl
@[go_sem] theorem events_mf (P : Program) (fn : Fn) (first cap : Array Value) (w : World) (es : Array Event) : (Instr.makeFunc fn first cap).events P w es = es := rfl

theorem store_calls (g : Nat) (x v : Int) (w : World) (hk : w.heap[g]? = some (.cells #[.int .u32 v] 24 (0, 0))) :
    Calls Try.prog 85 #[.int .u32 x, .pointer (some ⟨g, 0, none⟩)] w fun e w' => e = .returned (.int .u32 v) ∧ Below w.heap.size w w' := by
  have HB := Aside0.mk (Below.refl w.heap.size w)
  have hc : w.cell? ⟨g, 0, none⟩ = some (.int .u32 v) := (blk_cell hk 0).trans rfl
  have hf := blk_frozen hk 0
  go_enter Try.func85, Try.ntmps85
  go_wp2
  go_ret
  exact ⟨rfl, by repeat (first | (with_reducible first | exact HB.out | apply below_alloc | apply pw_below_drewN | apply below_drew1) | exact HB.out)⟩

theorem add_calls (g : Nat) (x v : Int) (w : World) (hk : w.heap[g]? = some (.cells #[.int .u32 v] 24 (0, 0))) :
    Calls Try.prog 93 #[.int .u32 x, .pointer (some ⟨g, 0, none⟩)] w fun e w' => e = .returned (.int .u32 ((x + v) % 4294967296)) ∧ Below w.heap.size w w' := by
  have HB := Aside0.mk (Below.refl w.heap.size w)
  have hc : w.cell? ⟨g, 0, none⟩ = some (.int .u32 v) := (blk_cell hk 0).trans rfl
  have hf := blk_frozen hk 0
  go_enter Try.func93, Try.ntmps93
  go_wp2
  go_ret
  exact ⟨rfl, by repeat (first | (with_reducible first | exact HB.out | apply below_alloc | apply pw_below_drewN | apply below_drew1) | exact HB.out)⟩

theorem or_calls (g : Nat) (x v : Int) (w : World) (hk : w.heap[g]? = some (.cells #[.int .u32 v] 24 (0, 0))) :
    Calls Try.prog 94 #[.int .u32 x, .pointer (some ⟨g, 0, none⟩)] w fun e w' => e = .returned (.int .u32 (bits BinOp.or IntKind.u32 x v)) ∧ Below w.heap.size w w' := by
  have HB := Aside0.mk (Below.refl w.heap.size w)
  have hc : w.cell? ⟨g, 0, none⟩ = some (.int .u32 v) := (blk_cell hk 0).trans rfl
  have hf := blk_frozen hk 0
  go_enter Try.func94, Try.ntmps94
  go_wp2
  go_ret
  exact ⟨rfl, by repeat (first | (with_reducible first | exact HB.out | apply below_alloc | apply pw_below_drewN | apply below_drew1) | exact HB.out)⟩

theorem and_calls (g : Nat) (x v : Int) (w : World) (hk : w.heap[g]? = some (.cells #[.int .u32 v] 24 (0, 0))) :
    Calls Try.prog 95 #[.int .u32 x, .pointer (some ⟨g, 0, none⟩)] w fun e w' => e = .returned (.int .u32 (bits BinOp.and IntKind.u32 x v)) ∧ Below w.heap.size w w' := by
  have HB := Aside0.mk (Below.refl w.heap.size w)
  have hc : w.cell? ⟨g, 0, none⟩ = some (.int .u32 v) := (blk_cell hk 0).trans rfl
  have hf := blk_frozen hk 0
  go_enter Try.func95, Try.ntmps95
  go_wp2
  go_ret
  exact ⟨rfl, by repeat (first | (with_reducible first | exact HB.out | apply below_alloc | apply pw_below_drewN | apply below_drew1) | exact HB.out)⟩

theorem cas_calls (g : Nat) (h : Nat) (x v u : Int) (w : World) (hk : w.heap[g]? = some (.cells #[.int .u32 v] 24 (0, 0))) (hk2 : w.heap[h]? = some (.cells #[.int .u32 u] 24 (0, 0))) :
    Calls Try.prog 96 #[.int .u32 x, .pointer (some ⟨g, 0, none⟩), .pointer (some ⟨h, 0, none⟩)] w fun e w' => e = .returned (.int .u32 (if x = v then u else x)) ∧ Below w.heap.size w w' := by
  have HB := Aside0.mk (Below.refl w.heap.size w)
  have hc : w.cell? ⟨g, 0, none⟩ = some (.int .u32 v) := (blk_cell hk 0).trans rfl
  have hf := blk_frozen hk 0
  have hc2 : w.cell? ⟨h, 0, none⟩ = some (.int .u32 u) := (blk_cell hk2 0).trans rfl
  have hf2 := blk_frozen hk2 0
  by_cases q_ : x = v
  · subst q_
    go_enter Try.func96, Try.ntmps96
    go_wp2
    go_ret
    exact ⟨rfl, by repeat (first | (with_reducible first | exact HB.out | apply below_alloc | apply pw_below_drewN | apply below_drew1) | exact HB.out)⟩
  · have q2_ : decide (x = v) = false := decide_eq_false q_
    go_enter Try.func96, Try.ntmps96
    go_wp2
    go_ret
    exact ⟨rfl, by repeat (first | (with_reducible first | exact HB.out | apply below_alloc | apply pw_below_drewN | apply below_drew1) | exact HB.out)⟩

end Go.Proofs.Ytllidkccikmgiaa.Clo
