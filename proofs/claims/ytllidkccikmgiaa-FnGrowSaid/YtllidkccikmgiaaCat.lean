import Derived.Test.YtllidkccikmgiaaProg
import Derived.Below
import Derived.Deep.Draws
import Derived.Deep.AppendLies
import Derived.Maps.AppendAt
import Derived.OwnWalk
import Derived.Laws.BytesArg
import Derived.Laws.MakeOwn
import Derived.Laws.OwnMore
import Derived.Deep.OwnRows
import Derived.Tactics
import Derived.Lib.ConvBytes
import Derived.Laws.Slices
import Derived.WalkKit
import Derived.KernelRfl
import Derived.RowKit3
import Derived.Deep.LoopGhost
import Derived.Deep.QuietTactic
import Derived.BigQuiet
import Derived.WideLaws
import Derived.Deep.DeepCutAuto
import Derived.Deep.CutBlock
import Derived.Deep.RegionHeld3
import Derived.Laws.Rows
import Derived.Lib.AppendStr
import Derived.ArgAppend
import Derived.Laws.IdiomCopy
import Derived.OrdersHeld
import Derived.Laws.BitsLemmas
import Derived.RowKit
import Derived.Test.YtllidkccikmgiaaWWords
import Derived.Test.YtllidkccikmgiaaWLast
import Derived.Test.YtllidkccikmgiaaWTab
import Derived.Test.YtllidkccikmgiaaWFour
import Derived.Test.YtllidkccikmgiaaWQPut
import Derived.Test.YtllidkccikmgiaaWApart
import Derived.Test.YtllidkccikmgiaaWArr
import Derived.Test.YtllidkccikmgiaaWZeros
import Derived.Test.YtllidkccikmgiaaWFoot
import Derived.Test.YtllidkccikmgiaaWKept
import Derived.Test.YtllidkccikmgiaaWShare
import Derived.Test.YtllidkccikmgiaaWN
import Derived.Test.YtllidkccikmgiaaWFootNe
import Derived.Test.YtllidkccikmgiaaWAt
import Derived.Test.YtllidkccikmgiaaWEqStruct
import Derived.Test.YtllidkccikmgiaaWRepsOne
import Derived.Test.YtllidkccikmgiaaWInv
import Derived.Test.YtllidkccikmgiaaWInvWords
import Derived.Test.YtllidkccikmgiaaWGuard
import Derived.Test.YtllidkccikmgiaaWNEv
import Derived.Test.YtllidkccikmgiaaWMore
namespace Go.Proofs.Ytllidkccikmgiaa.Cat
open Go.RowKit Go.Proofs.YtllidkccikmgiaaW.PrintWords Go.Proofs.YtllidkccikmgiaaW.PrintLast Go.Proofs.YtllidkccikmgiaaW.PrintMore
set_option linter.unusedVariables false
set_option linter.unusedSimpArgs false
set_option maxHeartbeats 8000000
set_option maxRecDepth 100000

def Head (P : Program) (c : Code) (Q : Exit → Act → World → Prop) (a : Act) (w : World) : Prop :=
  ∀ (b : Frame) (k : List Item) (cs : List Frame), ∃ e a' w', Q e a' w' ∧ Arrives P (lone (b.at a (.code c :: .inLoop c :: k)) cs w) b k cs e a' w'
theorem loop_of_head {P : Program} {c : Code} {Q : Exit → Act → World → Prop} {a : Act} {w : World} (h : Head P c Q a w) : (Code.loop c).wp P Q a w := by
  intro b k cs
  obtain ⟨e, a', w', hq, harr⟩ := h b k cs
  exact ⟨e, a', w', hq, .of_steps (.one step_loop) harr⟩
theorem head_round {P : Program} {c : Code} {Q : Exit → Act → World → Prop} {a : Act} {w : World} (h : c.wp P (Exit.then (Head P c Q) Q) a w) : Head P c Q a w := by
  intro b k cs
  obtain ⟨e, a₁, w₁, hq, harr⟩ := h b (.inLoop c :: k) cs
  cases e with
  | normal =>
    obtain ⟨e₂, a₂, w₂, hq₂, harr₂⟩ := hq b k cs
    exact ⟨e₂, a₂, w₂, hq₂, .of_steps (Steps.trans harr (.one step_inLoop)) harr₂⟩
  | exit id => exact ⟨_, a₁, w₁, hq, .pass (x := .inLoop c) rfl (fun _ _ => .inl (by simp)) harr⟩
  | goto l => exact ⟨_, a₁, w₁, hq, .pass (x := .inLoop c) rfl (fun _ _ => .inl (by simp)) harr⟩
  | ret => exact ⟨_, a₁, w₁, hq, .pass (x := .inLoop c) rfl (fun _ _ => .inl (by simp)) harr⟩
  | panic ch => exact ⟨_, a₁, w₁, hq, .pass (x := .inLoop c) rfl (fun _ _ => .inl (by simp)) harr⟩
  | outgrown => exact ⟨_, a₁, w₁, hq, .pass (x := .inLoop c) rfl (fun _ _ => .inl (by simp)) harr⟩
theorem lit_step {P : Program} {ops : Array Oper} {o : Oper} {a : Act} {Q : Exit → Act → World → Prop} {Kc : Act → World → Prop} {W : World} (hw : Region.wanted o (yielded ops a.tmps) = true) {cs : Array Value} {t : TypeId} {n : Nat}
    (hrun : (execOp a.eval o).run P W = .ok (.value (.slice (some ⟨W.heap.size, 0, none⟩) n n)) (W.alloc (.cells cs t (0, 0))))
    (h : ∀ g, g = W.heap.size → ∀ w1, w1.heap[g]? = some (.cells cs t (0, 0)) → Below W.heap.size W w1 → Kc (a.put o.dst (.slice (some ⟨g, 0, none⟩) n n)) w1) : if Region.wanted o (yielded ops a.tmps) = true then Oper.wp P o a W Kc Q else Kc (a.put o.dst undef) W :=
  event_step hw hrun (h _ rfl _ (blk_new W _) (below_alloc (Below.refl _ _) _))
theorem infoU_ : (Try.prog.info? 24).map (fun i => (i.zero, i.size, i.bytes)) = some (some (.int .u32 0), 1, 4) := by kernel_rfl

theorem grow_nil (w : World) : Calls Try.prog 113 #[.slice none 0 0, .int .i64 0] w fun e w' => ∃ v : Value, e = .returned v ∧ Kd.R (Kd.int .u32) 24 w' w.heap.size (fun _ => True) v [] ∧ Below w.heap.size w w' := by
  have HB := Aside0.mk (Below.refl w.heap.size w)
  go_enter Try.func113, Try.ntmps113
  go_wp2
  go_ret
  exact ⟨_, rfl, Kd.R_nil _ _ _ _ _, HB.out⟩
theorem grow_some (n : Int) (hn : 0 < n) (hm : n < 35184372088832) (w : World) : Calls Try.prog 113 #[.slice none 0 0, .int .i64 n] w fun e w' => ∃ v : Value, e = .returned v ∧ Kd.R (Kd.int .u32) 24 w' w.heap.size (fun _ => True) v [] ∧ Below w.heap.size w w' := by
  have HB := Aside0.mk (Below.refl w.heap.size w)
  have hn1 := Aside0.mk hn
  have hm1 := Aside0.mk hm
  go_enter Try.func113, Try.ntmps113
  go_wp2_with (at_builtin; refine Kd.R_append_zeros (Kd.int .u32) (w0 := w) w.heap.size rfl (.tmp 20) (.tmp 21) 34 3 24 (.int .u32 0) 4 rfl Try.underlying34 Try.underlying3 infoU_ rfl (by decide) (by omega) (.slice none 0 0) [] 0 n (fun _ => True) rfl rfl rfl (fun _ _ => trivial) (Kd.R_nil _ _ _ _ _) (by have := hn1.out; omega) HB.out (Nat.le_refl _) (by have := hn1.out; have := hm1.out; simp only [List.length_nil]; omega) ?_; intro v1 w1 ho hb hg hat; obtain ⟨A1, c1, e1⟩ := Kd.R_slice ho; subst e1)
  go_ret
  exact ⟨_, rfl, by have h := Kd.R_take (m := 0) ho (Nat.zero_le _); rw [List.take_zero] at h; exact h, hb⟩
theorem grow_calls (n : Int) (hn : 0 ≤ n) (hm : n < 35184372088832) (w : World) : Calls Try.prog 113 #[.slice none 0 0, .int .i64 n] w fun e w' => ∃ v : Value, e = .returned v ∧ Kd.R (Kd.int .u32) 24 w' w.heap.size (fun _ => True) v [] ∧ Below w.heap.size w w' := by
  by_cases h : n = 0
  · subst h
    exact grow_nil w
  · exact grow_some n (by omega) hm w
theorem concat_calls (g : Nat) (A0 A1 : Option Addr) (c0 c1 : Nat) (l0 l1 : List Int) (w : World) (hk : w.heap[g]? = some (.cells #[.slice A0 l0.length c0, .slice A1 l1.length c1] 34 (0, 0)))
    (hr0 : Kd.C (Kd.int .u32) w A0 l0.length l0) (hr1 : Kd.C (Kd.int .u32) w A1 l1.length l1) (hl : l0.length + l1.length < 35184372088832) :
    Calls Try.prog 80 #[.slice (some ⟨g, 0, none⟩) 2 2] w fun e w' => ∃ v : Value, e = .returned v ∧ Kd.R (Kd.int .u32) 24 w' w.heap.size (fun _ => True) v (l0 ++ l1) ∧ Below w.heap.size w w' := by
  have HB := Aside0.mk (Below.refl w.heap.size w)
  have HR0 := Aside0.mk hr0
  have HR1 := Aside0.mk hr1
  have BK := Aside0.mk hk
  have hl0 : l0.length ≤ 35184372088832 := by omega
  have hl1 : l1.length ≤ 35184372088832 := by omega
  have HL := Aside0.mk hl
  have h0 : w.cell? ⟨g, 0, none⟩ = some (.slice A0 l0.length c0) := (blk_cell hk 0).trans rfl
  have h1 : w.cell? ⟨g, 1, none⟩ = some (.slice A1 l1.length c1) := (blk_cell hk 1).trans rfl
  have f0 := blk_frozen hk 0
  have f1 := blk_frozen hk 1
  clear hr0 hr1 hk
  go_enter Try.func80, Try.ntmps80
  go_wp2
  refine loop_of_head (head_round ?_)
  go_wp2
  refine head_round ?_
  go_wp2
  refine head_round ?_
  go_wp2_with (go_at_call 113; refine (grow_calls _ (by have := HL.out; omega) (by have := HL.out; omega) _).mono ?_; rintro e w3 ⟨v3, rfl, ho3, hb3⟩; obtain ⟨A3, c3, e3⟩ := Kd.R_slice ho3; subst e3; have BK3 := Aside0.mk (blk_below BK.out hb3); clear h0 h1 f0 f1; have h0 : w3.cell? ⟨g, 0, none⟩ = some (.slice A0 l0.length c0) := (blk_cell BK3.out 0).trans rfl; have h1 : w3.cell? ⟨g, 1, none⟩ = some (.slice A1 l1.length c1) := (blk_cell BK3.out 1).trans rfl; have f0 := blk_frozen BK3.out 0; have f1 := blk_frozen BK3.out 1; have HO3 := Aside0.mk ho3; have HB3 := Aside0.mk hb3; clear ho3 hb3)
  refine loop_of_head (head_round ?_)
  go_wp2_with (at_builtin; refine Kd.R_append_rows (Kd.int .u32) (w0 := w) w.heap.size rfl (.tmp 31) (.tmp 32) 34 24 (.int .u32 0) 4 rfl Try.underlying34 infoU_ rfl (by decide) (by omega) (.slice A3 ([] : List Int).length c3) [] l0 A0 l0.length c0 (fun _ => True) (fun _ => False) rfl rfl HO3.out (Kd.C_below HR0.out HB3.out) (fun _ _ h => h) (fun _ h => h.elim) (fun _ _ => trivial) HB3.out (below_size HB3.out) (by have := HL.out; simp only [List.length_nil]; omega) ?_; intro v4 w4 ho4 hb4 hg4 ha4; clear hg4 ha4; rw [List.nil_append] at ho4; obtain ⟨A4, c4, e4⟩ := Kd.R_slice ho4; subst e4; have BK4 := Aside0.mk (blk_below BK.out hb4); clear h0 h1 f0 f1; have h0 : w4.cell? ⟨g, 0, none⟩ = some (.slice A0 l0.length c0) := (blk_cell BK4.out 0).trans rfl; have h1 : w4.cell? ⟨g, 1, none⟩ = some (.slice A1 l1.length c1) := (blk_cell BK4.out 1).trans rfl; have f0 := blk_frozen BK4.out 0; have f1 := blk_frozen BK4.out 1; have HO4 := Aside0.mk ho4; have HB4 := Aside0.mk hb4; clear ho4 hb4)
  refine head_round ?_
  go_wp2_with (at_builtin; refine Kd.R_append_rows (Kd.int .u32) (w0 := w) w.heap.size rfl (.tmp 31) (.tmp 32) 34 24 (.int .u32 0) 4 rfl Try.underlying34 infoU_ rfl (by decide) (by omega) (.slice A4 l0.length c4) l0 l1 A1 l1.length c1 (fun _ => True) (fun _ => False) rfl rfl HO4.out (Kd.C_below HR1.out HB4.out) (fun _ _ h => h) (fun _ h => h.elim) (fun _ _ => trivial) HB4.out (below_size HB4.out) (by have := HL.out; omega) ?_; intro v5 w5 ho5 hb5 hg5 ha5; clear hg5 ha5; obtain ⟨A5, c5, e5⟩ := Kd.R_slice ho5; subst e5; have BK5 := Aside0.mk (blk_below BK.out hb5); clear h0 h1 f0 f1; have h0 : w5.cell? ⟨g, 0, none⟩ = some (.slice A0 l0.length c0) := (blk_cell BK5.out 0).trans rfl; have h1 : w5.cell? ⟨g, 1, none⟩ = some (.slice A1 l1.length c1) := (blk_cell BK5.out 1).trans rfl; have f0 := blk_frozen BK5.out 0; have f1 := blk_frozen BK5.out 1; have HO5 := Aside0.mk ho5; have HB5 := Aside0.mk hb5; clear ho5 hb5)
  refine head_round ?_
  go_wp2
  go_ret
  refine ⟨_, rfl, ?_, HB5.out⟩
  have h := HO5.out
  rw [List.length_append] at h
  exact h
end Go.Proofs.Ytllidkccikmgiaa.Cat
