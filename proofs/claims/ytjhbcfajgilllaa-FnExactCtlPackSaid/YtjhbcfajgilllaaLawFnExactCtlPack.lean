/-
  The row of the law FnExactCtlPack: for every input the call returns true, and each argument reads as it read before.
  Conditions: none beyond those of the statement itself.
-/
import Derived.Test.YtjhbcfajgilllaaRows
import Derived.Test.YtjhbcfajgilllaaPFnExactCtlPackx4
import Derived.Test.YtjhbcfajgilllaaPureFnExactCtlPack
import Derived.Test.YtjhbcfajgilllaaAid
import Derived.WalkKit
import Derived.ProofKit
import Derived.OpenShut
import Derived.ShutString
import Derived.ChangeOld
import Derived.Below
import Derived.SizedLaws
namespace Go.Proofs.Ytjhbcfajgilllaa.fnExactCtlPack
open Go.ChangeShapes Go.WideShapes Go.ChangeAt Go.RowKit Go.Joins Go.Proofs.Ytjhbcfajgilllaa.Aid Go.Proofs.YtjhbcfajgilllaaW.PrintWords
set_option linter.unusedVariables false
theorem own : ownKnob Try.prog.godebug = none := by kernel_rfl
theorem laidOut : laidOutB Try.prog = true := by kernel_rfl
set_option maxRecDepth 100000 in
theorem lifted (os : Os) (started : os.Started) (H : Type) (enc : TypeId × Value → H) :
    ReturnsInHanded {} Try.checked os 3 .any (Rows.fnExactCtlPackSpec.pre6 enc Try.prog Try.f3 Rows.fnExactCtlPackRow.domain false) (Rows.fnExactCtlPackSpec.post enc Try.prog Try.f3 false true false false) := by
  refine returnsInHanded_of_change_sized (C := Try.checked) own started (by kernel_rfl) Try.func3
    (ChangeSpec.witness6 (enc := enc) (C := Try.checked) false ⟨#[], #[.agg #[.int .i64 0, .int .i64 0, .int .u32 0, .int .i64 0]], []⟩ 8 (by kernel_rfl) (by kernel_rfl) (by kernel_rfl) (by kernel_rfl)) ?_
  intro W base args ds gs before hval0 hW hcnd hsz0 _
  have hval : ∀ (j : Nat) t v, Try.f3.params[j]? = some t → args[j]? = some v → Value.okWide Try.prog W .any base t v := hval0
  have hW' := hW
  obtain ⟨p, q, hA0, hV, rfl, hfz, hnd⟩ := hW
  have hA : DataW.TrodAll enc Try.prog W 0 (fun _ => true) true Try.f3.params.toList args.toList ds p := hA0
  rw [Try.params3] at hA hval
  obtain ⟨v0, vs0, d0, ds0, p0, q0, hargs, rfl, rfl, h0, r0⟩ := trodAll_cons hA
  obtain ⟨rfl, rfl, rfl⟩ := trodAll_nil r0
  obtain rfl : args = #[v0] := by cases args; simp_all
  obtain ⟨rfl, rfl⟩ := trodVars_none hV
  have k0 := h0
  have lt0 : ∀ x ∈ p0, x.block < W.heap.size := by obtain ⟨m, hm⟩ := k0; exact DataW.trod_lt m _ _ _ hm
  obtain ⟨c00, c01, c02, c03, y00, y01, y02, y03, m0, rfl, g0a, g0b, t00, t01, t02, t03⟩ := open_agg4 Try.underlying24 (by kernel_rfl) (by kernel_rfl) (hval 0 24 v0 rfl rfl) h0
  obtain ⟨b00, e00, x00, w00⟩ := DataW.trod_int Try.underlying3 t00
  obtain rfl := (List.cons.inj e00).1
  obtain ⟨b01, e01, x01, w01⟩ := DataW.trod_int Try.underlying3 t01
  obtain rfl := (List.cons.inj e01).1
  obtain ⟨b02, e02, x02, w02⟩ := DataW.trod_int Try.underlying22 t02
  obtain rfl := (List.cons.inj e02).1
  obtain ⟨b03, e03, x03, w03⟩ := DataW.trod_int Try.underlying3 t03
  obtain rfl := (List.cons.inj e03).1
  obtain ⟨n0, rfl, hn0⟩ := Pure.u32_nat w02
  obtain ⟨k, h⟩ := Pure.FnExactCtlPack b00 b01 n0 b03 hn0
  refine (PFnExactCtlPack.laws_FnExactCtlPack.calls k b00 b01 (n0 : Int) b03 true W  h).mono fun e W' ⟨he, bel⟩ => ?_
  subst he
  exact ⟨_, rfl, _, _, _, [], _, [], hW', trodAll_mk1 (shut_bool Try.underlying4 _), (trodAll_cons_mk (Below.trod laidOut (by kernel_rfl) (of_decide_eq_true (by kernel_rfl)) k0 bel lt0) trodAll_mk0), rfl, bel.frame _, fun h => by cases h⟩
theorem over : Rows.fnExactCtlPackRow.holds Try.pinned (OpenSpec.ofChange Rows.fnExactCtlPackSpec) :=
  OpenClaim.holds_of_wide 3 Try.f3 rfl rfl rfl rfl rfl rfl rfl ⟨rfl, rfl, rfl, rfl, rfl⟩ rfl rfl rfl rfl rfl (by kernel_rfl) Try.func3 (by kernel_rfl)
    (of_decide_eq_true (by kernel_rfl)) (by unfold Func.isWrapper; first | (rw [if_pos (by decide +kernel)]; kernel_rfl) | (rw [if_neg (by decide +kernel)]; exact ⟨rfl, rfl⟩))
    (fun os started H enc _ => lifted os started H enc)
theorem proved : Rows.FnExactCtlPackSaid := over
#print axioms proved
end Go.Proofs.Ytjhbcfajgilllaa.fnExactCtlPack
namespace Go.Proofs.Ytjhbcfajgilllaa
/-- The row, under a short name, for the claim. -/
theorem fnExactCtlPack_holds : Rows.FnExactCtlPackSaid := fnExactCtlPack.proved
end Go.Proofs.Ytjhbcfajgilllaa
