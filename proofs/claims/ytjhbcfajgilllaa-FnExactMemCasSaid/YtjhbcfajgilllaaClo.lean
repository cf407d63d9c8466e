import Derived.Test.YtjhbcfajgilllaaProg
import Derived.Below
import Derived.Deep.Draws
import Derived.Deep.AppendLies
import Derived.Maps.AppendAt
import Derived.OwnWalk
import Derived.Laws.BytesArg
import Derived.Laws.MakeOwn
import Derived.Laws.OwnMore
import Derived.Deep.OwnRows
import Derived.Tactics
import Derived.Lib.ConvBytes
import Derived.Laws.Slices
import Derived.WalkKit
import Derived.KernelRfl
import Derived.RowKit3
import Derived.Deep.LoopGhost
import Derived.Deep.QuietTactic
import Derived.BigQuiet
import Derived.WideLaws
import Derived.Deep.DeepCutAuto
import Derived.Deep.CutBlock
import Derived.Deep.RegionHeld3
import Derived.Laws.Rows
import Derived.Lib.AppendStr
import Derived.ArgAppend
import Derived.Laws.IdiomCopy
import Derived.OrdersHeld
import Derived.Laws.BitsLemmas
import Derived.RowKit
import Derived.Test.YtjhbcfajgilllaaWWords
import Derived.Test.YtjhbcfajgilllaaWLast
import Derived.Test.YtjhbcfajgilllaaWTab
import Derived.Test.YtjhbcfajgilllaaWFour
import Derived.Test.YtjhbcfajgilllaaWQPut
import Derived.Test.YtjhbcfajgilllaaWApart
import Derived.Test.YtjhbcfajgilllaaWArr
import Derived.Test.YtjhbcfajgilllaaWZeros
import Derived.Test.YtjhbcfajgilllaaWFoot
import Derived.Test.YtjhbcfajgilllaaWKept
import Derived.Test.YtjhbcfajgilllaaWShare
import Derived.Test.YtjhbcfajgilllaaWN
import Derived.Test.YtjhbcfajgilllaaWFootNe
import Derived.Test.YtjhbcfajgilllaaWAt
import Derived.Test.YtjhbcfajgilllaaWEqStruct
import Derived.Test.YtjhbcfajgilllaaWRepsOne
import Derived.Test.YtjhbcfajgilllaaWInv
import Derived.Test.YtjhbcfajgilllaaWInvWords
import Derived.Test.YtjhbcfajgilllaaWGuard
import Derived.Test.YtjhbcfajgilllaaWNEv
import Derived.Test.YtjhbcfajgilllaaWMore
namespace Go.Proofs.Ytjhbcfajgilllaa.Clo
open Go.RowKit Go.Proofs.YtjhbcfajgilllaaW.PrintWords Go.Proofs.YtjhbcfajgilllaaW.PrintLast Go.Proofs.YtjhbcfajgilllaaW.PrintMore
set_option linter.unusedVariables false
set_option linter.unusedSimpArgs false
set_option maxHeartbeats 8000000
set_option maxRecDepth 100000
-- the closures' numbers in this program
-- store 60
-- add 71
-- or 77
-- and 76
-- cas 74

theorem goesV_ {P : Program} {ops : Array Oper} {Q : Exit → Act → World → Prop} {rest : List Oper} {oi : Oper} {a : Act} {w : World} (N : Option Tmp) (hd : oi.dst = N) (hg : oi.guard = none) {x : Operand} {as_ : Array Operand} {ts : Array TypeId}
    (hop : oi.op = .call { callee := .value x, args := as_, argTypes := ts }) {f : FuncId} {fn : Func} (caps : Array Value) (hx : a.eval x = .func (.func f) #[] caps) (hf : P.funcs[f]? = some fn) (hname : (fn.name == "runtime.NumGoroutine") = false) (hb : fn.body.isSome = true)
    (args : Array Value) (hargs : as_.map a.eval = args) (h : Calls P f (args ++ caps) w fun e w' => ∃ v, e = .returned v ∧ wpList P ops Q rest (a.put N v) w') : wpList P ops Q (oi :: rest) a w := by
  refine wpList_plain hg fun K hK => ?_
  have he := enters_ hf hname hb (args ++ caps) w
  have hrun : (execOp a.eval oi).run P w = .ok (.enter f (args ++ caps)) w := by
    unfold execOp
    simp [hop, resolve, Deferred.ofValue, invoke, hx, hargs, he]
  unfold Oper.wp
  rw [hrun, Oper.upon_enter]
  refine h.mono fun e w'' hh => ?_
  obtain ⟨v, rfl, hk⟩ := hh
  subst hd
  exact hK _ _ hk
theorem uponV_ {P : Program} {Q : Exit → Act → World → Prop} {K : Act → World → Prop} {oi : Oper} {a : Act} {w : World} {f : FuncId} {fn : Func} {args : Array Value} (hf : P.funcs[f]? = some fn) (hname : (fn.name == "runtime.NumGoroutine") = false) (hb : fn.body.isSome = true)
    (h : Calls P f args w fun e w' => ∃ v, e = .returned v ∧ K (a.put oi.dst v) w') : Oper.upon P oi a K Q ((callFunc f args).run P w) := by
  rw [enters_ hf hname hb args w, Oper.upon_enter]
  refine h.mono fun e w'' hh => ?_
  obtain ⟨v, rfl, hk⟩ := hh
  exact hk
@[go_sem] theorem run_mf (P : Program) (fn : Fn) (first cap : Array Value) (w : World) : (Instr.makeFunc fn first cap).run P w = .ok (.func fn first cap) w := rfl
@[go_sem] theorem events_mf (P : Program) (fn : Fn) (first cap : Array Value) (w : World) (es : Array Event) : (Instr.makeFunc fn first cap).events P w es = es := rfl

theorem store_calls (g : Nat) (x v : Int) (w : World) (hk : w.heap[g]? = some (.cells #[.int .u32 v] 22 (0, 0))) :
    Calls Try.prog 60 #[.int .u32 x, .pointer (some ⟨g, 0, none⟩)] w fun e w' => e = .returned (.int .u32 v) ∧ Below w.heap.size w w' := by
  have HB := Aside0.mk (Below.refl w.heap.size w)
  have hc : w.cell? ⟨g, 0, none⟩ = some (.int .u32 v) := (blk_cell hk 0).trans rfl
  have hf := blk_frozen hk 0
  go_enter Try.func60, Try.ntmps60
  go_wp2
  go_ret
  exact ⟨rfl, by repeat (first | (with_reducible first | exact HB.out | apply below_alloc | apply pw_below_drewN | apply below_drew1) | exact HB.out)⟩

theorem add_calls (g : Nat) (x v : Int) (w : World) (hk : w.heap[g]? = some (.cells #[.int .u32 v] 22 (0, 0))) :
    Calls Try.prog 71 #[.int .u32 x, .pointer (some ⟨g, 0, none⟩)] w fun e w' => e = .returned (.int .u32 ((x + v) % 4294967296)) ∧ Below w.heap.size w w' := by
  have HB := Aside0.mk (Below.refl w.heap.size w)
  have hc : w.cell? ⟨g, 0, none⟩ = some (.int .u32 v) := (blk_cell hk 0).trans rfl
  have hf := blk_frozen hk 0
  go_enter Try.func71, Try.ntmps71
  go_wp2
  go_ret
  exact ⟨rfl, by repeat (first | (with_reducible first | exact HB.out | apply below_alloc | apply pw_below_drewN | apply below_drew1) | exact HB.out)⟩

theorem or_calls (g : Nat) (x v : Int) (w : World) (hk : w.heap[g]? = some (.cells #[.int .u32 v] 22 (0, 0))) :
    Calls Try.prog 77 #[.int .u32 x, .pointer (some ⟨g, 0, none⟩)] w fun e w' => e = .returned (.int .u32 (bits BinOp.or IntKind.u32 x v)) ∧ Below w.heap.size w w' := by
  have HB := Aside0.mk (Below.refl w.heap.size w)
  have hc : w.cell? ⟨g, 0, none⟩ = some (.int .u32 v) := (blk_cell hk 0).trans rfl
  have hf := blk_frozen hk 0
  go_enter Try.func77, Try.ntmps77
  go_wp2
  go_ret
  exact ⟨rfl, by repeat (first | (with_reducible first | exact HB.out | apply below_alloc | apply pw_below_drewN | apply below_drew1) | exact HB.out)⟩

theorem and_calls (g : Nat) (x v : Int) (w : World) (hk : w.heap[g]? = some (.cells #[.int .u32 v] 22 (0, 0))) :
    Calls Try.prog 76 #[.int .u32 x, .pointer (some ⟨g, 0, none⟩)] w fun e w' => e = .returned (.int .u32 (bits BinOp.and IntKind.u32 x v)) ∧ Below w.heap.size w w' := by
  have HB := Aside0.mk (Below.refl w.heap.size w)
  have hc : w.cell? ⟨g, 0, none⟩ = some (.int .u32 v) := (blk_cell hk 0).trans rfl
  have hf := blk_frozen hk 0
  go_enter Try.func76, Try.ntmps76
  go_wp2
  go_ret
  exact ⟨rfl, by repeat (first | (with_reducible first | exact HB.out | apply below_alloc | apply pw_below_drewN | apply below_drew1) | exact HB.out)⟩

theorem cas_calls (g : Nat) (h : Nat) (x v u : Int) (w : World) (hk : w.heap[g]? = some (.cells #[.int .u32 v] 22 (0, 0))) (hk2 : w.heap[h]? = some (.cells #[.int .u32 u] 22 (0, 0))) :
    Calls Try.prog 74 #[.int .u32 x, .pointer (some ⟨g, 0, none⟩), .pointer (some ⟨h, 0, none⟩)] w fun e w' => e = .returned (.int .u32 (if x = v then u else x)) ∧ Below w.heap.size w w' := by
  have HB := Aside0.mk (Below.refl w.heap.size w)
  have hc : w.cell? ⟨g, 0, none⟩ = some (.int .u32 v) := (blk_cell hk 0).trans rfl
  have hf := blk_frozen hk 0
  have hc2 : w.cell? ⟨h, 0, none⟩ = some (.int .u32 u) := (blk_cell hk2 0).trans rfl
  have hf2 := blk_frozen hk2 0
  by_cases q_ : x = v
  · subst q_
    go_enter Try.func74, Try.ntmps74
    go_wp2
    go_ret
    exact ⟨rfl, by repeat (first | (with_reducible first | exact HB.out | apply below_alloc | apply pw_below_drewN | apply below_drew1) | exact HB.out)⟩
  · have q2_ : decide (x = v) = false := decide_eq_false q_
    go_enter Try.func74, Try.ntmps74
    go_wp2
    go_ret
    exact ⟨rfl, by repeat (first | (with_reducible first | exact HB.out | apply below_alloc | apply pw_below_drewN | apply below_drew1) | exact HB.out)⟩

end Go.Proofs.Ytjhbcfajgilllaa.Clo
