-- Written by this session's program (wip/bin/myprint.sh) by means of the kit's print.py; Lean checks it.
import Derived.Test.YtllidkccikmgiaaPFnCtlx0
import Derived.Test.YtllidkccikmgiaaPFnCtlx1
import Derived.Test.YtllidkccikmgiaaPFnCtlx2
import Derived.Test.YtllidkccikmgiaaPFnCtlx4
import Derived.Test.YtllidkccikmgiaaPFnCtlx5
import Derived.Test.YtllidkccikmgiaaPFnCtlx6
namespace Go.Proofs.Ytllidkccikmgiaa.PFnCtl
open Go.RowKit Go.Proofs.YtllidkccikmgiaaW.PrintWords Go.Proofs.YtllidkccikmgiaaW.PrintLast Go.Proofs.YtllidkccikmgiaaW.PrintMore
attribute [local go_sem] max2_int min2_int max_two min_two max_three min_three max_four min_four   -- for this text's walks alone
set_option linter.unusedVariables false
set_option linter.unusedSimpArgs false

attribute [local go_sem high] eqA26
/-! ### laws_FnCtl: function 3 -/
mutual
def laws_FnCtl.j0 : Nat → List Int → Option (Bool)
  | 0, _ => none
  | k + 1, x0 => (spec_DrawCtlRead.f k x0).bind fun t344 => ((impl_CtlRead.f k t344).bind fun bt345 => ((spec_CtlRead.f k t344).bind fun bt351 => (if (bt345.2.2.2.2 != bt351.2.2.2.2) = true then (laws_FnCtl.j1 k t344 bt345.2.2.2.2 bt351.2.2.2.2 true bt345.1 bt345.2.1 bt345.2.2.1 bt345.2.2.2.1 bt351.1 bt351.2.1 bt351.2.2.1 bt351.2.2.2.1) else (if (!(bt345.1 == bt351.1) || (!(bt345.2.1 == bt351.2.1) || (!(bt345.2.2.1 == bt351.2.2.1) || (!(bt345.2.2.2.1 == bt351.2.2.2.1))))) = true then (laws_FnCtl.j1 k t344 bt345.2.2.2.2 bt351.2.2.2.2 true bt345.1 bt345.2.1 bt345.2.2.1 bt345.2.2.2.1 bt351.1 bt351.2.1 bt351.2.2.1 bt351.2.2.2.1) else (laws_FnCtl.j1 k t344 bt345.2.2.2.2 bt351.2.2.2.2 (!bt345.2.2.2.2) bt345.1 bt345.2.1 bt345.2.2.1 bt345.2.2.2.1 bt351.1 bt351.2.1 bt351.2.2.1 bt351.2.2.2.1)))))
def laws_FnCtl.j1 : Nat → Int → Bool → Bool → Bool → Int → Int → Int → Int → Int → Int → Int → Int → Option (Bool)
  | 0, _, _, _, _, _, _, _, _, _, _, _, _ => none
  | k + 1, x8, x10, x12, x64, x351000, x351001, x351002, x351003, x357000, x357001, x357002, x357003 => if x64 = true then (if (x10 == x12) = true then (some (x351000 == x357000 && (x351001 == x357001 && (x351002 == x357002 && (x351003 == x357003))))) else (some false)) else ((impl_CtlPack.f k x351000 x351001 x351002 x351003).bind fun bt357 => (if bt357.2 = true then (if bt357.1 = x8 then ((impl_CtlOk.f k x351000 x351001 x351002 x351003).bind fun t359 => (some t359)) else (some false)) else (some false)))
end
def laws_FnCtl.f (k : Nat) (l0 : List Int) : Option (Bool) := (laws_big.f l0).bind fun t329 => (if t329 = true then (some true) else ((spec_DrawCtlPack.f k l0).bind fun bt330 => ((impl_CtlPack.f k bt330.1 bt330.2.1 bt330.2.2.1 bt330.2.2.2).bind fun bt335 => ((spec_CtlOk.f k bt330.1 bt330.2.1 bt330.2.2.1 bt330.2.2.2).bind fun t337 => (if (bt335.2 != t337) = true then (some false) else (if bt335.2 = true then ((impl_CtlRead.f k bt335.1).bind fun bt338 => (if bt338.2.2.2.2 = true then (if (!(bt338.1 == bt330.1) || (!(bt338.2.1 == bt330.2.1) || (!(bt338.2.2.1 == bt330.2.2.1) || (!(bt338.2.2.2.1 == bt330.2.2.2))))) = true then (some false) else (laws_FnCtl.j0 k l0)) else (some false))) else (laws_FnCtl.j0 k l0)))))))
theorem laws_FnCtl.mono_l : ∀ k, (∀ y0, LeO (laws_FnCtl.j0 k y0) (laws_FnCtl.j0 (k + 1) y0)) ∧ (∀ y0 y1 y2 y3 y4 y5 y6 y7 y8 y9 y10 y11, LeO (laws_FnCtl.j1 k y0 y1 y2 y3 y4 y5 y6 y7 y8 y9 y10 y11) (laws_FnCtl.j1 (k + 1) y0 y1 y2 y3 y4 y5 y6 y7 y8 y9 y10 y11))
  | 0 => ⟨fun _ r h => by simp [laws_FnCtl.j0] at h, fun _ _ _ _ _ _ _ _ _ _ _ _ r h => by simp [laws_FnCtl.j1] at h⟩
  | k + 1 => by
    obtain ⟨ih0, ih1⟩ := laws_FnCtl.mono_l k
    refine ⟨?_, ?_⟩
    · intro y0
      unfold laws_FnCtl.j0
      repeat' first
      | (with_reducible exact ih0 _)
      | (with_reducible exact ih1 _ _ _ _ _ _ _ _ _ _ _ _)
      | (with_reducible exact impl_CtlOk.mono _ _ _ _ _)
      | (with_reducible exact impl_CtlPack.mono _ _ _ _ _)
      | (with_reducible exact impl_CtlRead.mono _ _)
      | (with_reducible exact spec_CtlOk.mono _ _ _ _ _)
      | (with_reducible exact spec_CtlRead.mono _ _)
      | (with_reducible exact spec_DrawCtlPack.mono _ _)
      | (with_reducible exact spec_DrawCtlRead.mono _ _)
      | (with_reducible exact LeO.refl _)
      | (with_reducible exact LeO.none _)
      | (with_reducible refine LeO.ite ?_ ?_)
      | (with_reducible refine LeO.bind ?_ (fun _ => ?_))
      | exact ih0 _
      | exact ih1 _ _ _ _ _ _ _ _ _ _ _ _
      | exact impl_CtlOk.mono _ _ _ _ _
      | exact impl_CtlPack.mono _ _ _ _ _
      | exact impl_CtlRead.mono _ _
      | exact spec_CtlOk.mono _ _ _ _ _
      | exact spec_CtlRead.mono _ _
      | exact spec_DrawCtlPack.mono _ _
      | exact spec_DrawCtlRead.mono _ _
      | exact LeO.none _
      | refine LeO.ite ?_ ?_
      | refine LeO.bind ?_ (fun _ => ?_)
    · intro y0 y1 y2 y3 y4 y5 y6 y7 y8 y9 y10 y11
      unfold laws_FnCtl.j1
      repeat' first
      | (with_reducible exact ih0 _)
      | (with_reducible exact ih1 _ _ _ _ _ _ _ _ _ _ _ _)
      | (with_reducible exact impl_CtlOk.mono _ _ _ _ _)
      | (with_reducible exact impl_CtlPack.mono _ _ _ _ _)
      | (with_reducible exact impl_CtlRead.mono _ _)
      | (with_reducible exact spec_CtlOk.mono _ _ _ _ _)
      | (with_reducible exact spec_CtlRead.mono _ _)
      | (with_reducible exact spec_DrawCtlPack.mono _ _)
      | (with_reducible exact spec_DrawCtlRead.mono _ _)
      | (with_reducible exact LeO.refl _)
      | (with_reducible exact LeO.none _)
      | (with_reducible refine LeO.ite ?_ ?_)
      | (with_reducible refine LeO.bind ?_ (fun _ => ?_))
      | exact ih0 _
      | exact ih1 _ _ _ _ _ _ _ _ _ _ _ _
      | exact impl_CtlOk.mono _ _ _ _ _
      | exact impl_CtlPack.mono _ _ _ _ _
      | exact impl_CtlRead.mono _ _
      | exact spec_CtlOk.mono _ _ _ _ _
      | exact spec_CtlRead.mono _ _
      | exact spec_DrawCtlPack.mono _ _
      | exact spec_DrawCtlRead.mono _ _
      | exact LeO.none _
      | refine LeO.ite ?_ ?_
      | refine LeO.bind ?_ (fun _ => ?_)
theorem laws_FnCtl.mono : ∀ a0 k, LeO (laws_FnCtl.f k a0) (laws_FnCtl.f (k + 1) a0) := by
  intro a0 k
  obtain ⟨ih0, ih1⟩ := laws_FnCtl.mono_l k
  unfold laws_FnCtl.f
  repeat' first
      | (with_reducible exact ih0 _)
      | (with_reducible exact ih1 _ _ _ _ _ _ _ _ _ _ _ _)
      | (with_reducible exact impl_CtlOk.mono _ _ _ _ _)
      | (with_reducible exact impl_CtlPack.mono _ _ _ _ _)
      | (with_reducible exact impl_CtlRead.mono _ _)
      | (with_reducible exact spec_CtlOk.mono _ _ _ _ _)
      | (with_reducible exact spec_CtlRead.mono _ _)
      | (with_reducible exact spec_DrawCtlPack.mono _ _)
      | (with_reducible exact spec_DrawCtlRead.mono _ _)
      | (with_reducible exact LeO.refl _)
      | (with_reducible exact LeO.none _)
      | (with_reducible refine LeO.ite ?_ ?_)
      | (with_reducible refine LeO.bind ?_ (fun _ => ?_))
      | exact ih0 _
      | exact ih1 _ _ _ _ _ _ _ _ _ _ _ _
      | exact impl_CtlOk.mono _ _ _ _ _
      | exact impl_CtlPack.mono _ _ _ _ _
      | exact impl_CtlRead.mono _ _
      | exact spec_CtlOk.mono _ _ _ _ _
      | exact spec_CtlRead.mono _ _
      | exact spec_DrawCtlPack.mono _ _
      | exact spec_DrawCtlRead.mono _ _
      | exact LeO.none _
      | refine LeO.ite ?_ ?_
      | refine LeO.bind ?_ (fun _ => ?_)
set_option maxHeartbeats 8000000 in
set_option maxRecDepth 100000 in
theorem laws_FnCtl.calls (k : Nat) (A0 : Option Addr) (c0 : Nat) (l0 : List Int) (r : Bool) (w : World) (hr0 : Kd.C (Kd.int .u8) w A0 l0.length l0) (hc0 : l0.length ≤ c0) (h : laws_FnCtl.f k l0 = some r) :
    Calls Try.prog 3 #[.slice A0 l0.length c0] w fun e w' => e = .returned (.bool r) ∧ Below w.heap.size w w' := by
  have hu26 := Try.underlying26
  have HR0 := Aside0.mk hr0
  have HC0 := Aside0.mk hc0
  clear hr0 hc0
  have HB := Aside0.mk (Below.refl w.heap.size w)
  have H : ((laws_big.f l0).bind fun t329 => (if t329 = true then (some true) else ((spec_DrawCtlPack.f k l0).bind fun bt330 => ((impl_CtlPack.f k bt330.1 bt330.2.1 bt330.2.2.1 bt330.2.2.2).bind fun bt335 => ((spec_CtlOk.f k bt330.1 bt330.2.1 bt330.2.2.1 bt330.2.2.2).bind fun t337 => (if (bt335.2 != t337) = true then (some false) else (if bt335.2 = true then ((impl_CtlRead.f k bt335.1).bind fun bt338 => (if bt338.2.2.2.2 = true then (if (!(bt338.1 == bt330.1) || (!(bt338.2.1 == bt330.2.1) || (!(bt338.2.2.1 == bt330.2.2.1) || (!(bt338.2.2.2.1 == bt330.2.2.2))))) = true then (some false) else (laws_FnCtl.j0 k l0)) else (some false))) else (laws_FnCtl.j0 k l0)))))))) = some r := h
  clear h
  replace H := Option.bind_eq_some_iff.mp H
  obtain ⟨t329, A20, H⟩ := H
  replace H : (if t329 = true then (some true) else ((spec_DrawCtlPack.f k l0).bind fun bt330 => ((impl_CtlPack.f k bt330.1 bt330.2.1 bt330.2.2.1 bt330.2.2.2).bind fun bt335 => ((spec_CtlOk.f k bt330.1 bt330.2.1 bt330.2.2.1 bt330.2.2.2).bind fun t337 => (if (bt335.2 != t337) = true then (some false) else (if bt335.2 = true then ((impl_CtlRead.f k bt335.1).bind fun bt338 => (if bt338.2.2.2.2 = true then (if (!(bt338.1 == bt330.1) || (!(bt338.2.1 == bt330.2.1) || (!(bt338.2.2.1 == bt330.2.2.1) || (!(bt338.2.2.2.1 == bt330.2.2.2))))) = true then (some false) else (laws_FnCtl.j0 k l0)) else (some false))) else (laws_FnCtl.j0 k l0))))))) = some r := H
  have A2 := Aside0.mk A20
  clear A20
  by_cases c3 : t329 = true
  · subst c3
    have H1 : (some true) = some r := by rw [if_pos rfl] at H; exact H
    clear H
    have H := H1
    clear H1
    obtain rfl := Option.some.inj H
    go_enter Try.func3, Try.ntmps3
    go_wp2_with (first | ((with_reducible refine gate_callee (f := 12) rfl ?_); refine goesL_ (some 16) rfl rfl Try.func12 (by kernel_rfl) rfl #[.slice A0 l0.length c0] rfl (by (try simp only [List.map_toArray, List.map_cons, List.map_nil]); first | done | rfl | (simp only [List.length_drop, List.length_take]; rfl)) ?_; (with_reducible refine (laws_big.calls _ _ l0 true _ ?side1 ?side2 A2.out).mono ?_); (case side1 => repeat (first | exact HR0.out | (with_reducible refine Kd.C_alloc ?_ _) | (with_reducible refine Kd.C_drewN ?_ _) | (with_reducible refine Kd.C_drew ?_))); (case side2 => exact HC0.out); rintro e w' ⟨rfl, ⟨nd, rfl⟩⟩; refine ⟨_, rfl, ?_⟩))
    go_ret
    exact ⟨by first | rfl | (simp [errW_none, errW_some] <;> rfl) | (simp [*, errW_none, errW_some] <;> rfl), by repeat (first | (with_reducible first | exact HB.out | apply below_alloc | apply pw_below_drewN | apply below_drew1) | exact HB.out)⟩
  · replace c3 := Bool.eq_false_iff.mpr c3
    subst c3
    have H1 : ((spec_DrawCtlPack.f k l0).bind fun bt330 => ((impl_CtlPack.f k bt330.1 bt330.2.1 bt330.2.2.1 bt330.2.2.2).bind fun bt335 => ((spec_CtlOk.f k bt330.1 bt330.2.1 bt330.2.2.1 bt330.2.2.2).bind fun t337 => (if (bt335.2 != t337) = true then (some false) else (if bt335.2 = true then ((impl_CtlRead.f k bt335.1).bind fun bt338 => (if bt338.2.2.2.2 = true then (if (!(bt338.1 == bt330.1) || (!(bt338.2.1 == bt330.2.1) || (!(bt338.2.2.1 == bt330.2.2.1) || (!(bt338.2.2.2.1 == bt330.2.2.2))))) = true then (some false) else (laws_FnCtl.j0 k l0)) else (some false))) else (laws_FnCtl.j0 k l0)))))) = some r := by rw [if_neg (show ¬ (false = true) by decide)] at H; exact H
    clear H
    have H := H1
    clear H1
    replace H := Option.bind_eq_some_iff.mp H
    obtain ⟨⟨t330, t331, t332, t333⟩, A40, H⟩ := H
    replace H : ((impl_CtlPack.f k t330 t331 t332 t333).bind fun bt335 => ((spec_CtlOk.f k t330 t331 t332 t333).bind fun t337 => (if (bt335.2 != t337) = true then (some false) else (if bt335.2 = true then ((impl_CtlRead.f k bt335.1).bind fun bt338 => (if bt338.2.2.2.2 = true then (if (!(bt338.1 == t330) || (!(bt338.2.1 == t331) || (!(bt338.2.2.1 == t332) || (!(bt338.2.2.2.1 == t333))))) = true then (some false) else (laws_FnCtl.j0 k l0)) else (some false))) else (laws_FnCtl.j0 k l0))))) = some r := H
    have A4 := Aside0.mk A40
    clear A40
    replace H := Option.bind_eq_some_iff.mp H
    obtain ⟨⟨t335, t336⟩, A50, H⟩ := H
    replace H : ((spec_CtlOk.f k t330 t331 t332 t333).bind fun t337 => (if (t336 != t337) = true then (some false) else (if t336 = true then ((impl_CtlRead.f k t335).bind fun bt338 => (if bt338.2.2.2.2 = true then (if (!(bt338.1 == t330) || (!(bt338.2.1 == t331) || (!(bt338.2.2.1 == t332) || (!(bt338.2.2.2.1 == t333))))) = true then (some false) else (laws_FnCtl.j0 k l0)) else (some false))) else (laws_FnCtl.j0 k l0)))) = some r := H
    have A5 := Aside0.mk A50
    clear A50
    replace H := Option.bind_eq_some_iff.mp H
    obtain ⟨t337, A60, H⟩ := H
    replace H : (if (t336 != t337) = true then (some false) else (if t336 = true then ((impl_CtlRead.f k t335).bind fun bt338 => (if bt338.2.2.2.2 = true then (if (!(bt338.1 == t330) || (!(bt338.2.1 == t331) || (!(bt338.2.2.1 == t332) || (!(bt338.2.2.2.1 == t333))))) = true then (some false) else (laws_FnCtl.j0 k l0)) else (some false))) else (laws_FnCtl.j0 k l0))) = some r := H
    have A6 := Aside0.mk A60
    clear A60
    by_cases c7 : (t336 != t337) = true
    · rw [if_pos c7] at H
      have c7b0 : (t336 != t337) = true := c7
      (try (have c7b1 : decide (t336 = t337) = false := by simpa using c7))
      (try (have c7b2 : (t336 == t337) = false := by simpa using c7))
      (try (have c7b3 : ¬ (t336 = t337) := by simpa using c7))
      clear c7
      obtain rfl := Option.some.inj H
      go_enter Try.func3, Try.ntmps3
      go_wp2_with (first | ((with_reducible refine gate_callee (f := 12) rfl ?_); refine goesL_ (some 16) rfl rfl Try.func12 (by kernel_rfl) rfl #[.slice A0 l0.length c0] rfl (by (try simp only [List.map_toArray, List.map_cons, List.map_nil]); first | done | rfl | (simp only [List.length_drop, List.length_take]; rfl)) ?_; (with_reducible refine (laws_big.calls _ _ l0 false _ ?side1 ?side2 A2.out).mono ?_); (case side1 => repeat (first | exact HR0.out | (with_reducible refine Kd.C_alloc ?_ _) | (with_reducible refine Kd.C_drewN ?_ _) | (with_reducible refine Kd.C_drew ?_))); (case side2 => exact HC0.out); rintro e w' ⟨rfl, ⟨nd, rfl⟩⟩; refine ⟨_, rfl, ?_⟩) | ((with_reducible refine gate_callee (f := 13) rfl ?_); refine goesL_ (some 18) rfl rfl Try.func13 (by kernel_rfl) rfl #[.slice A0 l0.length c0] rfl (by (try simp only [List.map_toArray, List.map_cons, List.map_nil]); first | done | rfl | (simp only [List.length_drop, List.length_take]; rfl)) ?_; (with_reducible refine (spec_DrawCtlPack.calls k _ _ l0 t330 t331 t332 t333 _ ?side1 ?side2 A4.out).mono ?_); (case side1 => repeat (first | exact HR0.out | (with_reducible refine Kd.C_alloc ?_ _) | (with_reducible refine Kd.C_drewN ?_ _) | (with_reducible refine Kd.C_drew ?_))); (case side2 => exact HC0.out); rintro e w8 ⟨rfl, hb⟩; refine ⟨_, rfl, ?_⟩; have n0_ := Aside0.mk (below_step (by repeat (first | (with_reducible first | exact HB.out | apply below_alloc | apply pw_below_drewN | apply below_drew1) | exact HB.out)) hb); clear HB; have HB := n0_; clear n0_; (try clear hb); (try clear hb2); (try clear hk); (try clear hi)) | ((with_reducible refine gate_dst (N := 3) rfl ?_); refine box_event ?hg (N := 3) ?hd (cs := #[.int .i64 0, .int .i64 0, .int .u32 0, .int .i64 0]) (t := 26) ?hr ?_; (case hd => rfl); (case hg => rfl); (case hr => first | (go_simp; done) | (go_simp; rfl)); intro gb334 hg w9 hbox hb; have n0_ := Aside0.mk (below_step (by repeat (first | (with_reducible first | exact HB.out | apply below_alloc | apply pw_below_drewN | apply below_drew1) | exact HB.out)) hb); have n1_ := Aside0.mk (hbox); have n2_ := Aside0.mk ((by rw [hg]; exact (below_size (by repeat (first | (with_reducible first | exact HB.out | apply below_alloc | apply pw_below_drewN | apply below_drew1) | exact HB.out))) : w.heap.size ≤ gb334)); have n3_ := Aside0.mk ((by rw [hg]; exact (below_size (by repeat (first | (with_reducible first | exact HB.out | apply below_alloc | apply pw_below_drewN | apply below_drew1) | exact HB.out))) : w.heap.size ≤ gb334)); clear HB; have HB := n0_; have BK334 := n1_; have GW334 := n2_; have GE334 := n3_; clear n0_ n1_ n2_ n3_; clear hb hbox hg; have hcz10_0 : w9.cell? ⟨gb334, 0, none⟩ = some (.int .i64 0) := (blk_cell BK334.out 0).trans rfl; have hcz10_1 : w9.cell? ⟨gb334, 1, none⟩ = some (.int .i64 0) := (blk_cell BK334.out 1).trans rfl; have hcz10_2 : w9.cell? ⟨gb334, 2, none⟩ = some (.int .u32 0) := (blk_cell BK334.out 2).trans rfl; have hcz10_3 : w9.cell? ⟨gb334, 3, none⟩ = some (.int .i64 0) := (blk_cell BK334.out 3).trans rfl; have hfz10_0 := blk_frozen BK334.out 0; have hfz10_1 := blk_frozen BK334.out 1; have hfz10_2 := blk_frozen BK334.out 2; have hfz10_3 := blk_frozen BK334.out 3) | ((with_reducible refine gate_callee (f := 14) rfl ?_); refine goesL_ (some 21) rfl rfl Try.func14 (by kernel_rfl) rfl #[.agg #[.int .i64 t330, .int .i64 t331, .int .u32 t332, .int .i64 t333]] rfl (by (try simp only [List.map_toArray, List.map_cons, List.map_nil]); first | done | rfl | (simp only [List.length_drop, List.length_take]; rfl)) ?_; (with_reducible refine (impl_CtlPack.calls k t330 t331 t332 t333 t335 t336 _ A5.out).mono ?_); rintro e w11 ⟨rfl, hb⟩; refine ⟨_, rfl, ?_⟩; have n0_ := Aside0.mk (blk_below (g := gb334) (o := .cells #[.int .i64 t330, .int .i64 t331, .int .u32 t332, .int .i64 t333] 26 (0, 0)) (by (with_reducible repeat (first | refine blk_drewN ?_ _ | refine blk_drew ?_ | refine blk_alloc ?_ _)); refine blk_put (cs := #[.int .i64 t330, .int .i64 t331, .int .u32 t332, .int .i64 0]) ?_ 3 _ rfl; (with_reducible repeat (first | refine blk_drewN ?_ _ | refine blk_drew ?_ | refine blk_alloc ?_ _)); refine blk_put (cs := #[.int .i64 t330, .int .i64 t331, .int .u32 0, .int .i64 0]) ?_ 2 _ rfl; (with_reducible repeat (first | refine blk_drewN ?_ _ | refine blk_drew ?_ | refine blk_alloc ?_ _)); refine blk_put (cs := #[.int .i64 t330, .int .i64 0, .int .u32 0, .int .i64 0]) ?_ 1 _ rfl; (with_reducible repeat (first | refine blk_drewN ?_ _ | refine blk_drew ?_ | refine blk_alloc ?_ _)); refine blk_put (cs := #[.int .i64 0, .int .i64 0, .int .u32 0, .int .i64 0]) ?_ 0 _ rfl; (with_reducible repeat (first | refine blk_drewN ?_ _ | refine blk_drew ?_ | refine blk_alloc ?_ _)); exact BK334.out) hb); have n1_ := Aside0.mk (below_step (by repeat (first | (with_reducible first | exact HB.out | apply below_alloc | apply pw_below_drewN | apply below_drew1 | refine below_set ?_ GE334.out) | exact HB.out)) hb); clear BK334; clear HB; have BK334 := n0_; have HB := n1_; clear n0_ n1_; (try clear hb); (try clear hb2); (try clear hk); (try clear hi); have hcz12_0 : w11.cell? ⟨gb334, 0, none⟩ = some (.int .i64 t330) := (blk_cell BK334.out 0).trans rfl; have hcz12_1 : w11.cell? ⟨gb334, 1, none⟩ = some (.int .i64 t331) := (blk_cell BK334.out 1).trans rfl; have hcz12_2 : w11.cell? ⟨gb334, 2, none⟩ = some (.int .u32 t332) := (blk_cell BK334.out 2).trans rfl; have hcz12_3 : w11.cell? ⟨gb334, 3, none⟩ = some (.int .i64 t333) := (blk_cell BK334.out 3).trans rfl; have hfz12_0 := blk_frozen BK334.out 0; have hfz12_1 := blk_frozen BK334.out 1; have hfz12_2 := blk_frozen BK334.out 2; have hfz12_3 := blk_frozen BK334.out 3) | ((with_reducible refine gate_callee (f := 15) rfl ?_); refine goesL_ (some 26) rfl rfl Try.func15 (by kernel_rfl) rfl #[.agg #[.int .i64 t330, .int .i64 t331, .int .u32 t332, .int .i64 t333]] rfl (by (try simp only [List.map_toArray, List.map_cons, List.map_nil]); first | done | rfl | (simp only [List.length_drop, List.length_take]; rfl)) ?_; (with_reducible refine (spec_CtlOk.calls k t330 t331 t332 t333 t337 _ A6.out).mono ?_); rintro e w13 ⟨rfl, hb⟩; refine ⟨_, rfl, ?_⟩; have n0_ := Aside0.mk (blk_below (g := gb334) (o := .cells #[.int .i64 t330, .int .i64 t331, .int .u32 t332, .int .i64 t333] 26 (0, 0)) (by (with_reducible repeat (first | refine blk_drewN ?_ _ | refine blk_drew ?_ | refine blk_alloc ?_ _)); exact BK334.out) hb); have n1_ := Aside0.mk (below_step (by repeat (first | (with_reducible first | exact HB.out | apply below_alloc | apply pw_below_drewN | apply below_drew1 | refine below_set ?_ GE334.out) | exact HB.out)) hb); clear BK334; clear HB; have BK334 := n0_; have HB := n1_; clear n0_ n1_; (try clear hb); (try clear hb2); (try clear hk); (try clear hi)))
      go_ret
      exact ⟨by first | rfl | (simp [errW_none, errW_some] <;> rfl) | (simp [*, errW_none, errW_some] <;> rfl), by repeat (first | (with_reducible first | exact HB.out | apply below_alloc | apply pw_below_drewN | apply below_drew1 | refine below_set ?_ GE334.out) | exact HB.out)⟩
    · rw [if_neg c7] at H
      have c7b0 : (t336 != t337) = false := by simpa using c7
      (try (have c7b1 : decide (t336 = t337) = true := by simpa using c7))
      (try (have c7b2 : (t336 == t337) = true := by simpa using c7))
      clear c7
      have HC14 := Aside0.mk H
      clear H
      go_enter Try.func3, Try.ntmps3
      go_upto_if 28 with (first | ((with_reducible refine gate_callee (f := 12) rfl ?_); refine goesL_ (some 16) rfl rfl Try.func12 (by kernel_rfl) rfl #[.slice A0 l0.length c0] rfl (by (try simp only [List.map_toArray, List.map_cons, List.map_nil]); first | done | rfl | (simp only [List.length_drop, List.length_take]; rfl)) ?_; (with_reducible refine (laws_big.calls _ _ l0 false _ ?side1 ?side2 A2.out).mono ?_); (case side1 => repeat (first | exact HR0.out | (with_reducible refine Kd.C_alloc ?_ _) | (with_reducible refine Kd.C_drewN ?_ _) | (with_reducible refine Kd.C_drew ?_))); (case side2 => exact HC0.out); rintro e w' ⟨rfl, ⟨nd, rfl⟩⟩; refine ⟨_, rfl, ?_⟩) | ((with_reducible refine gate_callee (f := 13) rfl ?_); refine goesL_ (some 18) rfl rfl Try.func13 (by kernel_rfl) rfl #[.slice A0 l0.length c0] rfl (by (try simp only [List.map_toArray, List.map_cons, List.map_nil]); first | done | rfl | (simp only [List.length_drop, List.length_take]; rfl)) ?_; (with_reducible refine (spec_DrawCtlPack.calls k _ _ l0 t330 t331 t332 t333 _ ?side1 ?side2 A4.out).mono ?_); (case side1 => repeat (first | exact HR0.out | (with_reducible refine Kd.C_alloc ?_ _) | (with_reducible refine Kd.C_drewN ?_ _) | (with_reducible refine Kd.C_drew ?_))); (case side2 => exact HC0.out); rintro e w15 ⟨rfl, hb⟩; refine ⟨_, rfl, ?_⟩; have n0_ := Aside0.mk (below_step (by repeat (first | (with_reducible first | exact HB.out | apply below_alloc | apply pw_below_drewN | apply below_drew1) | exact HB.out)) hb); clear HB; have HB := n0_; clear n0_; (try clear hb); (try clear hb2); (try clear hk); (try clear hi)) | ((with_reducible refine gate_dst (N := 3) rfl ?_); refine box_event ?hg (N := 3) ?hd (cs := #[.int .i64 0, .int .i64 0, .int .u32 0, .int .i64 0]) (t := 26) ?hr ?_; (case hd => rfl); (case hg => rfl); (case hr => first | (go_simp; done) | (go_simp; rfl)); intro gb334 hg w16 hbox hb; have n0_ := Aside0.mk (below_step (by repeat (first | (with_reducible first | exact HB.out | apply below_alloc | apply pw_below_drewN | apply below_drew1) | exact HB.out)) hb); have n1_ := Aside0.mk (hbox); have n2_ := Aside0.mk ((by rw [hg]; exact (below_size (by repeat (first | (with_reducible first | exact HB.out | apply below_alloc | apply pw_below_drewN | apply below_drew1) | exact HB.out))) : w.heap.size ≤ gb334)); have n3_ := Aside0.mk ((by rw [hg]; exact (below_size (by repeat (first | (with_reducible first | exact HB.out | apply below_alloc | apply pw_below_drewN | apply below_drew1) | exact HB.out))) : w.heap.size ≤ gb334)); clear HB; have HB := n0_; have BK334 := n1_; have GW334 := n2_; have GE334 := n3_; clear n0_ n1_ n2_ n3_; clear hb hbox hg; have hcz17_0 : w16.cell? ⟨gb334, 0, none⟩ = some (.int .i64 0) := (blk_cell BK334.out 0).trans rfl; have hcz17_1 : w16.cell? ⟨gb334, 1, none⟩ = some (.int .i64 0) := (blk_cell BK334.out 1).trans rfl; have hcz17_2 : w16.cell? ⟨gb334, 2, none⟩ = some (.int .u32 0) := (blk_cell BK334.out 2).trans rfl; have hcz17_3 : w16.cell? ⟨gb334, 3, none⟩ = some (.int .i64 0) := (blk_cell BK334.out 3).trans rfl; have hfz17_0 := blk_frozen BK334.out 0; have hfz17_1 := blk_frozen BK334.out 1; have hfz17_2 := blk_frozen BK334.out 2; have hfz17_3 := blk_frozen BK334.out 3) | ((with_reducible refine gate_callee (f := 14) rfl ?_); refine goesL_ (some 21) rfl rfl Try.func14 (by kernel_rfl) rfl #[.agg #[.int .i64 t330, .int .i64 t331, .int .u32 t332, .int .i64 t333]] rfl (by (try simp only [List.map_toArray, List.map_cons, List.map_nil]); first | done | rfl | (simp only [List.length_drop, List.length_take]; rfl)) ?_; (with_reducible refine (impl_CtlPack.calls k t330 t331 t332 t333 t335 t336 _ A5.out).mono ?_); rintro e w18 ⟨rfl, hb⟩; refine ⟨_, rfl, ?_⟩; have n0_ := Aside0.mk (blk_below (g := gb334) (o := .cells #[.int .i64 t330, .int .i64 t331, .int .u32 t332, .int .i64 t333] 26 (0, 0)) (by (with_reducible repeat (first | refine blk_drewN ?_ _ | refine blk_drew ?_ | refine blk_alloc ?_ _)); refine blk_put (cs := #[.int .i64 t330, .int .i64 t331, .int .u32 t332, .int .i64 0]) ?_ 3 _ rfl; (with_reducible repeat (first | refine blk_drewN ?_ _ | refine blk_drew ?_ | refine blk_alloc ?_ _)); refine blk_put (cs := #[.int .i64 t330, .int .i64 t331, .int .u32 0, .int .i64 0]) ?_ 2 _ rfl; (with_reducible repeat (first | refine blk_drewN ?_ _ | refine blk_drew ?_ | refine blk_alloc ?_ _)); refine blk_put (cs := #[.int .i64 t330, .int .i64 0, .int .u32 0, .int .i64 0]) ?_ 1 _ rfl; (with_reducible repeat (first | refine blk_drewN ?_ _ | refine blk_drew ?_ | refine blk_alloc ?_ _)); refine blk_put (cs := #[.int .i64 0, .int .i64 0, .int .u32 0, .int .i64 0]) ?_ 0 _ rfl; (with_reducible repeat (first | refine blk_drewN ?_ _ | refine blk_drew ?_ | refine blk_alloc ?_ _)); exact BK334.out) hb); have n1_ := Aside0.mk (below_step (by repeat (first | (with_reducible first | exact HB.out | apply below_alloc | apply pw_below_drewN | apply below_drew1 | refine below_set ?_ GE334.out) | exact HB.out)) hb); clear BK334; clear HB; have BK334 := n0_; have HB := n1_; clear n0_ n1_; (try clear hb); (try clear hb2); (try clear hk); (try clear hi); have hcz19_0 : w18.cell? ⟨gb334, 0, none⟩ = some (.int .i64 t330) := (blk_cell BK334.out 0).trans rfl; have hcz19_1 : w18.cell? ⟨gb334, 1, none⟩ = some (.int .i64 t331) := (blk_cell BK334.out 1).trans rfl; have hcz19_2 : w18.cell? ⟨gb334, 2, none⟩ = some (.int .u32 t332) := (blk_cell BK334.out 2).trans rfl; have hcz19_3 : w18.cell? ⟨gb334, 3, none⟩ = some (.int .i64 t333) := (blk_cell BK334.out 3).trans rfl; have hfz19_0 := blk_frozen BK334.out 0; have hfz19_1 := blk_frozen BK334.out 1; have hfz19_2 := blk_frozen BK334.out 2; have hfz19_3 := blk_frozen BK334.out 3) | ((with_reducible refine gate_callee (f := 15) rfl ?_); refine goesL_ (some 26) rfl rfl Try.func15 (by kernel_rfl) rfl #[.agg #[.int .i64 t330, .int .i64 t331, .int .u32 t332, .int .i64 t333]] rfl (by (try simp only [List.map_toArray, List.map_cons, List.map_nil]); first | done | rfl | (simp only [List.length_drop, List.length_take]; rfl)) ?_; (with_reducible refine (spec_CtlOk.calls k t330 t331 t332 t333 t337 _ A6.out).mono ?_); rintro e w20 ⟨rfl, hb⟩; refine ⟨_, rfl, ?_⟩; have n0_ := Aside0.mk (blk_below (g := gb334) (o := .cells #[.int .i64 t330, .int .i64 t331, .int .u32 t332, .int .i64 t333] 26 (0, 0)) (by (with_reducible repeat (first | refine blk_drewN ?_ _ | refine blk_drew ?_ | refine blk_alloc ?_ _)); exact BK334.out) hb); have n1_ := Aside0.mk (below_step (by repeat (first | (with_reducible first | exact HB.out | apply below_alloc | apply pw_below_drewN | apply below_drew1 | refine below_set ?_ GE334.out) | exact HB.out)) hb); clear BK334; clear HB; have BK334 := n0_; have HB := n1_; clear n0_ n1_; (try clear hb); (try clear hb2); (try clear hk); (try clear hi)))
      (try simp only [Act.put, List.setIfInBounds_toArray, List.set_cons_zero, List.set_cons_succ])
      go_cut [] (fun wc => ∃ (kq : Nat), Aside0 (laws_FnCtl.j0 kq l0 = some r) ∧ Aside0 (kq ≤ k) ∧ Aside0 (wc.heap[gb334]? = some (.cells #[.int .i64 t330, .int .i64 t331, .int .u32 t332, .int .i64 t333] 26 (0, 0))) ∧ Aside0 (Below w.heap.size w wc))
      case first =>
        have H := HC14.out
        clear HC14
        by_cases c21 : t336 = true
        · subst c21
          have H1 : ((impl_CtlRead.f k t335).bind fun bt338 => (if bt338.2.2.2.2 = true then (if (!(bt338.1 == t330) || (!(bt338.2.1 == t331) || (!(bt338.2.2.1 == t332) || (!(bt338.2.2.2.1 == t333))))) = true then (some false) else (laws_FnCtl.j0 k l0)) else (some false))) = some r := by rw [if_pos rfl] at H; exact H
          clear H
          have H := H1
          clear H1
          replace H := Option.bind_eq_some_iff.mp H
          obtain ⟨⟨t338, t339, t340, t341, t342⟩, A220, H⟩ := H
          replace H : (if t342 = true then (if (!(t338 == t330) || (!(t339 == t331) || (!(t340 == t332) || (!(t341 == t333))))) = true then (some false) else (laws_FnCtl.j0 k l0)) else (some false)) = some r := H
          have A22 := Aside0.mk A220
          clear A220
          by_cases c23 : t342 = true
          · subst c23
            have H1 : (if (!(t338 == t330) || (!(t339 == t331) || (!(t340 == t332) || (!(t341 == t333))))) = true then (some false) else (laws_FnCtl.j0 k l0)) = some r := by rw [if_pos rfl] at H; exact H
            clear H
            have H := H1
            clear H1
            by_cases c24 : (!(t338 == t330) || (!(t339 == t331) || (!(t340 == t332) || (!(t341 == t333))))) = true
            · rw [if_pos c24] at H
              have c24b0 : (!(t338 == t330) || (!(t339 == t331) || (!(t340 == t332) || (!(t341 == t333))))) = true := c24
              clear c24
              (first | rw [c24b0] | (simp only [i64_w, i32_w]; rw [c24b0]) | skip)
              obtain rfl := Option.some.inj H
              go_wp2_with (first | ((with_reducible refine gate_callee (f := 16) rfl ?_); refine goesL_ (some 31) rfl rfl Try.func16 (by kernel_rfl) rfl #[.int .u32 t335] rfl (by (try simp only [List.map_toArray, List.map_cons, List.map_nil]); first | done | rfl | (simp only [List.length_drop, List.length_take]; rfl)) ?_; (with_reducible refine (impl_CtlRead.calls k t335 t338 t339 t340 t341 true _ A22.out).mono ?_); rintro e w25 ⟨rfl, hb⟩; refine ⟨_, rfl, ?_⟩; have n0_ := Aside0.mk (blk_below (g := gb334) (o := .cells #[.int .i64 t330, .int .i64 t331, .int .u32 t332, .int .i64 t333] 26 (0, 0)) (by (with_reducible repeat (first | refine blk_drewN ?_ _ | refine blk_drew ?_ | refine blk_alloc ?_ _)); exact BK334.out) hb); have n1_ := Aside0.mk (below_step (by repeat (first | (with_reducible first | exact HB.out | apply below_alloc | apply pw_below_drewN | apply below_drew1 | refine below_set ?_ GE334.out) | exact HB.out)) hb); clear BK334; clear HB; have BK334 := n0_; have HB := n1_; clear n0_ n1_; (try clear hb); (try clear hb2); (try clear hk); (try clear hi)) | ((with_reducible refine gate_dst (N := 6) rfl ?_); refine box_event ?hg (N := 6) ?hd (cs := #[.int .i64 0, .int .i64 0, .int .u32 0, .int .i64 0]) (t := 26) ?hr ?_; (case hd => rfl); (case hg => rfl); (case hr => first | (go_simp; done) | (go_simp; rfl)); intro gb343 hg w26 hbox hb; have n0_ := Aside0.mk (blk_below (g := gb334) (o := .cells #[.int .i64 t330, .int .i64 t331, .int .u32 t332, .int .i64 t333] 26 (0, 0)) (by (with_reducible repeat (first | refine blk_drewN ?_ _ | refine blk_drew ?_ | refine blk_alloc ?_ _)); exact BK334.out) hb); have n1_ := Aside0.mk (below_step (by repeat (first | (with_reducible first | exact HB.out | apply below_alloc | apply pw_below_drewN | apply below_drew1 | refine below_set ?_ GE334.out) | exact HB.out)) hb); have n2_ := Aside0.mk (hbox); have n3_ := Aside0.mk ((by rw [hg]; exact (below_size (by repeat (first | (with_reducible first | exact HB.out | apply below_alloc | apply pw_below_drewN | apply below_drew1 | refine below_set ?_ GE334.out) | exact HB.out))) : w.heap.size ≤ gb343)); have n4_ := Aside0.mk ((by rw [hg]; exact (below_size (by repeat (first | (with_reducible first | exact HB.out | apply below_alloc | apply pw_below_drewN | apply below_drew1 | refine below_set ?_ GE334.out) | exact HB.out))) : w.heap.size ≤ gb343)); have n5_ := Aside0.mk ((by rw [hg]; exact Nat.ne_of_lt (blk_lt (g := gb334) (o := .cells #[.int .i64 t330, .int .i64 t331, .int .u32 t332, .int .i64 t333] 26 (0, 0)) (by (with_reducible repeat (first | refine blk_drewN ?_ _ | refine blk_drew ?_ | refine blk_alloc ?_ _)); exact BK334.out)) : gb334 ≠ gb343)); have n6_ := Aside0.mk ((by rw [hg]; exact Nat.ne_of_gt (blk_lt (g := gb334) (o := .cells #[.int .i64 t330, .int .i64 t331, .int .u32 t332, .int .i64 t333] 26 (0, 0)) (by (with_reducible repeat (first | refine blk_drewN ?_ _ | refine blk_drew ?_ | refine blk_alloc ?_ _)); exact BK334.out)) : gb343 ≠ gb334)); clear BK334; clear HB; have BK334 := n0_; have HB := n1_; have BK343 := n2_; have GW343 := n3_; have GE343 := n4_; have NB334_343 := n5_; have NB343_334 := n6_; clear n0_ n1_ n2_ n3_ n4_ n5_ n6_; clear hb hbox hg; have hnb27 := NB343_334.out; have hnc27 := NB334_343.out; have hcz28_0 : w26.cell? ⟨gb343, 0, none⟩ = some (.int .i64 0) := (blk_cell BK343.out 0).trans rfl; have hcz28_1 : w26.cell? ⟨gb343, 1, none⟩ = some (.int .i64 0) := (blk_cell BK343.out 1).trans rfl; have hcz28_2 : w26.cell? ⟨gb343, 2, none⟩ = some (.int .u32 0) := (blk_cell BK343.out 2).trans rfl; have hcz28_3 : w26.cell? ⟨gb343, 3, none⟩ = some (.int .i64 0) := (blk_cell BK343.out 3).trans rfl; have hfz28_0 := blk_frozen BK343.out 0; have hfz28_1 := blk_frozen BK343.out 1; have hfz28_2 := blk_frozen BK343.out 2; have hfz28_3 := blk_frozen BK343.out 3; have hcz29_0 : w26.cell? ⟨gb334, 0, none⟩ = some (.int .i64 t330) := (blk_cell BK334.out 0).trans rfl; have hcz29_1 : w26.cell? ⟨gb334, 1, none⟩ = some (.int .i64 t331) := (blk_cell BK334.out 1).trans rfl; have hcz29_2 : w26.cell? ⟨gb334, 2, none⟩ = some (.int .u32 t332) := (blk_cell BK334.out 2).trans rfl; have hcz29_3 : w26.cell? ⟨gb334, 3, none⟩ = some (.int .i64 t333) := (blk_cell BK334.out 3).trans rfl; have hfz29_0 := blk_frozen BK334.out 0; have hfz29_1 := blk_frozen BK334.out 1; have hfz29_2 := blk_frozen BK334.out 2; have hfz29_3 := blk_frozen BK334.out 3))
              go_ret
              exact ⟨by first | rfl | (simp [errW_none, errW_some] <;> rfl) | (simp [*, errW_none, errW_some] <;> rfl), by repeat (first | (with_reducible first | exact HB.out | apply below_alloc | apply pw_below_drewN | apply below_drew1 | refine below_set ?_ GE334.out | refine below_set ?_ GE343.out) | exact HB.out)⟩
            · rw [if_neg c24] at H
              have c24b0 : (!(t338 == t330) || (!(t339 == t331) || (!(t340 == t332) || (!(t341 == t333))))) = false := by simpa using c24
              clear c24
              (first | rw [c24b0] | (simp only [i64_w, i32_w]; rw [c24b0]) | skip)
              have H' := Aside0.mk H
              clear H
              go_wp2_with (first | ((with_reducible refine gate_callee (f := 16) rfl ?_); refine goesL_ (some 31) rfl rfl Try.func16 (by kernel_rfl) rfl #[.int .u32 t335] rfl (by (try simp only [List.map_toArray, List.map_cons, List.map_nil]); first | done | rfl | (simp only [List.length_drop, List.length_take]; rfl)) ?_; (with_reducible refine (impl_CtlRead.calls k t335 t338 t339 t340 t341 true _ A22.out).mono ?_); rintro e w30 ⟨rfl, hb⟩; refine ⟨_, rfl, ?_⟩; have n0_ := Aside0.mk (blk_below (g := gb334) (o := .cells #[.int .i64 t330, .int .i64 t331, .int .u32 t332, .int .i64 t333] 26 (0, 0)) (by (with_reducible repeat (first | refine blk_drewN ?_ _ | refine blk_drew ?_ | refine blk_alloc ?_ _)); exact BK334.out) hb); have n1_ := Aside0.mk (below_step (by repeat (first | (with_reducible first | exact HB.out | apply below_alloc | apply pw_below_drewN | apply below_drew1 | refine below_set ?_ GE334.out) | exact HB.out)) hb); clear BK334; clear HB; have BK334 := n0_; have HB := n1_; clear n0_ n1_; (try clear hb); (try clear hb2); (try clear hk); (try clear hi)) | ((with_reducible refine gate_dst (N := 6) rfl ?_); refine box_event ?hg (N := 6) ?hd (cs := #[.int .i64 0, .int .i64 0, .int .u32 0, .int .i64 0]) (t := 26) ?hr ?_; (case hd => rfl); (case hg => rfl); (case hr => first | (go_simp; done) | (go_simp; rfl)); intro gb343 hg w31 hbox hb; have n0_ := Aside0.mk (blk_below (g := gb334) (o := .cells #[.int .i64 t330, .int .i64 t331, .int .u32 t332, .int .i64 t333] 26 (0, 0)) (by (with_reducible repeat (first | refine blk_drewN ?_ _ | refine blk_drew ?_ | refine blk_alloc ?_ _)); exact BK334.out) hb); have n1_ := Aside0.mk (below_step (by repeat (first | (with_reducible first | exact HB.out | apply below_alloc | apply pw_below_drewN | apply below_drew1 | refine below_set ?_ GE334.out) | exact HB.out)) hb); have n2_ := Aside0.mk (hbox); have n3_ := Aside0.mk ((by rw [hg]; exact (below_size (by repeat (first | (with_reducible first | exact HB.out | apply below_alloc | apply pw_below_drewN | apply below_drew1 | refine below_set ?_ GE334.out) | exact HB.out))) : w.heap.size ≤ gb343)); have n4_ := Aside0.mk ((by rw [hg]; exact (below_size (by repeat (first | (with_reducible first | exact HB.out | apply below_alloc | apply pw_below_drewN | apply below_drew1 | refine below_set ?_ GE334.out) | exact HB.out))) : w.heap.size ≤ gb343)); have n5_ := Aside0.mk ((by rw [hg]; exact Nat.ne_of_lt (blk_lt (g := gb334) (o := .cells #[.int .i64 t330, .int .i64 t331, .int .u32 t332, .int .i64 t333] 26 (0, 0)) (by (with_reducible repeat (first | refine blk_drewN ?_ _ | refine blk_drew ?_ | refine blk_alloc ?_ _)); exact BK334.out)) : gb334 ≠ gb343)); have n6_ := Aside0.mk ((by rw [hg]; exact Nat.ne_of_gt (blk_lt (g := gb334) (o := .cells #[.int .i64 t330, .int .i64 t331, .int .u32 t332, .int .i64 t333] 26 (0, 0)) (by (with_reducible repeat (first | refine blk_drewN ?_ _ | refine blk_drew ?_ | refine blk_alloc ?_ _)); exact BK334.out)) : gb343 ≠ gb334)); clear BK334; clear HB; have BK334 := n0_; have HB := n1_; have BK343 := n2_; have GW343 := n3_; have GE343 := n4_; have NB334_343 := n5_; have NB343_334 := n6_; clear n0_ n1_ n2_ n3_ n4_ n5_ n6_; clear hb hbox hg; have hnb32 := NB343_334.out; have hnc32 := NB334_343.out; have hcz33_0 : w31.cell? ⟨gb343, 0, none⟩ = some (.int .i64 0) := (blk_cell BK343.out 0).trans rfl; have hcz33_1 : w31.cell? ⟨gb343, 1, none⟩ = some (.int .i64 0) := (blk_cell BK343.out 1).trans rfl; have hcz33_2 : w31.cell? ⟨gb343, 2, none⟩ = some (.int .u32 0) := (blk_cell BK343.out 2).trans rfl; have hcz33_3 : w31.cell? ⟨gb343, 3, none⟩ = some (.int .i64 0) := (blk_cell BK343.out 3).trans rfl; have hfz33_0 := blk_frozen BK343.out 0; have hfz33_1 := blk_frozen BK343.out 1; have hfz33_2 := blk_frozen BK343.out 2; have hfz33_3 := blk_frozen BK343.out 3; have hcz34_0 : w31.cell? ⟨gb334, 0, none⟩ = some (.int .i64 t330) := (blk_cell BK334.out 0).trans rfl; have hcz34_1 : w31.cell? ⟨gb334, 1, none⟩ = some (.int .i64 t331) := (blk_cell BK334.out 1).trans rfl; have hcz34_2 : w31.cell? ⟨gb334, 2, none⟩ = some (.int .u32 t332) := (blk_cell BK334.out 2).trans rfl; have hcz34_3 : w31.cell? ⟨gb334, 3, none⟩ = some (.int .i64 t333) := (blk_cell BK334.out 3).trans rfl; have hfz34_0 := blk_frozen BK334.out 0; have hfz34_1 := blk_frozen BK334.out 1; have hfz34_2 := blk_frozen BK334.out 2; have hfz34_3 := blk_frozen BK334.out 3))
              go_meet
              case rel => exact ⟨_, H', ⟨by first | omega | exact Nat.le_refl _⟩, ⟨by (with_reducible repeat (first | refine blk_drewN ?_ _ | refine blk_drew ?_ | refine blk_alloc ?_ _)); refine blk_far ?_ NB334_343.out _; (with_reducible repeat (first | refine blk_drewN ?_ _ | refine blk_drew ?_ | refine blk_alloc ?_ _)); refine blk_far ?_ NB334_343.out _; (with_reducible repeat (first | refine blk_drewN ?_ _ | refine blk_drew ?_ | refine blk_alloc ?_ _)); refine blk_far ?_ NB334_343.out _; (with_reducible repeat (first | refine blk_drewN ?_ _ | refine blk_drew ?_ | refine blk_alloc ?_ _)); refine blk_far ?_ NB334_343.out _; (with_reducible repeat (first | refine blk_drewN ?_ _ | refine blk_drew ?_ | refine blk_alloc ?_ _)); exact BK334.out⟩, ⟨by repeat (first | (with_reducible first | exact HB.out | apply below_alloc | apply pw_below_drewN | apply below_drew1 | refine below_set ?_ GE334.out | refine below_set ?_ GE343.out) | exact HB.out)⟩⟩
          · replace c23 := Bool.eq_false_iff.mpr c23
            subst c23
            have H1 : (some false) = some r := by rw [if_neg (show ¬ (false = true) by decide)] at H; exact H
            clear H
            have H := H1
            clear H1
            obtain rfl := Option.some.inj H
            go_wp2_with (first | ((with_reducible refine gate_callee (f := 16) rfl ?_); refine goesL_ (some 31) rfl rfl Try.func16 (by kernel_rfl) rfl #[.int .u32 t335] rfl (by (try simp only [List.map_toArray, List.map_cons, List.map_nil]); first | done | rfl | (simp only [List.length_drop, List.length_take]; rfl)) ?_; (with_reducible refine (impl_CtlRead.calls k t335 t338 t339 t340 t341 false _ A22.out).mono ?_); rintro e w35 ⟨rfl, hb⟩; refine ⟨_, rfl, ?_⟩; have n0_ := Aside0.mk (blk_below (g := gb334) (o := .cells #[.int .i64 t330, .int .i64 t331, .int .u32 t332, .int .i64 t333] 26 (0, 0)) (by (with_reducible repeat (first | refine blk_drewN ?_ _ | refine blk_drew ?_ | refine blk_alloc ?_ _)); exact BK334.out) hb); have n1_ := Aside0.mk (below_step (by repeat (first | (with_reducible first | exact HB.out | apply below_alloc | apply pw_below_drewN | apply below_drew1 | refine below_set ?_ GE334.out) | exact HB.out)) hb); clear BK334; clear HB; have BK334 := n0_; have HB := n1_; clear n0_ n1_; (try clear hb); (try clear hb2); (try clear hk); (try clear hi)) | ((with_reducible refine gate_dst (N := 6) rfl ?_); refine box_event ?hg (N := 6) ?hd (cs := #[.int .i64 0, .int .i64 0, .int .u32 0, .int .i64 0]) (t := 26) ?hr ?_; (case hd => rfl); (case hg => rfl); (case hr => first | (go_simp; done) | (go_simp; rfl)); intro gb343 hg w36 hbox hb; have n0_ := Aside0.mk (blk_below (g := gb334) (o := .cells #[.int .i64 t330, .int .i64 t331, .int .u32 t332, .int .i64 t333] 26 (0, 0)) (by (with_reducible repeat (first | refine blk_drewN ?_ _ | refine blk_drew ?_ | refine blk_alloc ?_ _)); exact BK334.out) hb); have n1_ := Aside0.mk (below_step (by repeat (first | (with_reducible first | exact HB.out | apply below_alloc | apply pw_below_drewN | apply below_drew1 | refine below_set ?_ GE334.out) | exact HB.out)) hb); have n2_ := Aside0.mk (hbox); have n3_ := Aside0.mk ((by rw [hg]; exact (below_size (by repeat (first | (with_reducible first | exact HB.out | apply below_alloc | apply pw_below_drewN | apply below_drew1 | refine below_set ?_ GE334.out) | exact HB.out))) : w.heap.size ≤ gb343)); have n4_ := Aside0.mk ((by rw [hg]; exact (below_size (by repeat (first | (with_reducible first | exact HB.out | apply below_alloc | apply pw_below_drewN | apply below_drew1 | refine below_set ?_ GE334.out) | exact HB.out))) : w.heap.size ≤ gb343)); have n5_ := Aside0.mk ((by rw [hg]; exact Nat.ne_of_lt (blk_lt (g := gb334) (o := .cells #[.int .i64 t330, .int .i64 t331, .int .u32 t332, .int .i64 t333] 26 (0, 0)) (by (with_reducible repeat (first | refine blk_drewN ?_ _ | refine blk_drew ?_ | refine blk_alloc ?_ _)); exact BK334.out)) : gb334 ≠ gb343)); have n6_ := Aside0.mk ((by rw [hg]; exact Nat.ne_of_gt (blk_lt (g := gb334) (o := .cells #[.int .i64 t330, .int .i64 t331, .int .u32 t332, .int .i64 t333] 26 (0, 0)) (by (with_reducible repeat (first | refine blk_drewN ?_ _ | refine blk_drew ?_ | refine blk_alloc ?_ _)); exact BK334.out)) : gb343 ≠ gb334)); clear BK334; clear HB; have BK334 := n0_; have HB := n1_; have BK343 := n2_; have GW343 := n3_; have GE343 := n4_; have NB334_343 := n5_; have NB343_334 := n6_; clear n0_ n1_ n2_ n3_ n4_ n5_ n6_; clear hb hbox hg; have hnb37 := NB343_334.out; have hnc37 := NB334_343.out; have hcz38_0 : w36.cell? ⟨gb343, 0, none⟩ = some (.int .i64 0) := (blk_cell BK343.out 0).trans rfl; have hcz38_1 : w36.cell? ⟨gb343, 1, none⟩ = some (.int .i64 0) := (blk_cell BK343.out 1).trans rfl; have hcz38_2 : w36.cell? ⟨gb343, 2, none⟩ = some (.int .u32 0) := (blk_cell BK343.out 2).trans rfl; have hcz38_3 : w36.cell? ⟨gb343, 3, none⟩ = some (.int .i64 0) := (blk_cell BK343.out 3).trans rfl; have hfz38_0 := blk_frozen BK343.out 0; have hfz38_1 := blk_frozen BK343.out 1; have hfz38_2 := blk_frozen BK343.out 2; have hfz38_3 := blk_frozen BK343.out 3))
            go_ret
            exact ⟨by first | rfl | (simp [errW_none, errW_some] <;> rfl) | (simp [*, errW_none, errW_some] <;> rfl), by repeat (first | (with_reducible first | exact HB.out | apply below_alloc | apply pw_below_drewN | apply below_drew1 | refine below_set ?_ GE334.out | refine below_set ?_ GE343.out) | exact HB.out)⟩
        · replace c21 := Bool.eq_false_iff.mpr c21
          subst c21
          have H1 : (laws_FnCtl.j0 k l0) = some r := by rw [if_neg (show ¬ (false = true) by decide)] at H; exact H
          clear H
          have H := H1
          clear H1
          have H' := Aside0.mk H
          clear H
          go_wp2
          go_meet
          case rel => exact ⟨_, H', ⟨by first | omega | exact Nat.le_refl _⟩, ⟨by (with_reducible repeat (first | refine blk_drewN ?_ _ | refine blk_drew ?_ | refine blk_alloc ?_ _)); exact BK334.out⟩, ⟨by repeat (first | (with_reducible first | exact HB.out | apply below_alloc | apply pw_below_drewN | apply below_drew1 | refine below_set ?_ GE334.out) | exact HB.out)⟩⟩
      case rest =>
        clear HC14
        try clear c1
        try clear c2
        try clear p2
        try clear c3
        try clear c7
        try clear c7b0
        try clear c7b1
        try clear c7b2
        try clear c12
        try clear c13
        try clear c14
        try clear c15
        try clear c16
        try clear c21
        try clear c23
        try clear c24
        try clear c24b0
        try clear c27
        try clear c32
        try clear c37
        try clear hcz10_0
        try clear hcz10_1
        try clear hcz10_2
        try clear hcz10_3
        try clear hcz12_0
        try clear hcz12_1
        try clear hcz12_2
        try clear hcz12_3
        try clear hcz17_0
        try clear hcz17_1
        try clear hcz17_2
        try clear hcz17_3
        try clear hcz19_0
        try clear hcz19_1
        try clear hcz19_2
        try clear hcz19_3
        try clear hcz28_0
        try clear hcz28_1
        try clear hcz28_2
        try clear hcz28_3
        try clear hcz29_0
        try clear hcz29_1
        try clear hcz29_2
        try clear hcz29_3
        try clear hcz33_0
        try clear hcz33_1
        try clear hcz33_2
        try clear hcz33_3
        try clear hcz34_0
        try clear hcz34_1
        try clear hcz34_2
        try clear hcz34_3
        try clear hcz38_0
        try clear hcz38_1
        try clear hcz38_2
        try clear hcz38_3
        try clear hfz10_0
        try clear hfz10_1
        try clear hfz10_2
        try clear hfz10_3
        try clear hfz12_0
        try clear hfz12_1
        try clear hfz12_2
        try clear hfz12_3
        try clear hfz17_0
        try clear hfz17_1
        try clear hfz17_2
        try clear hfz17_3
        try clear hfz19_0
        try clear hfz19_1
        try clear hfz19_2
        try clear hfz19_3
        try clear hfz28_0
        try clear hfz28_1
        try clear hfz28_2
        try clear hfz28_3
        try clear hfz29_0
        try clear hfz29_1
        try clear hfz29_2
        try clear hfz29_3
        try clear hfz33_0
        try clear hfz33_1
        try clear hfz33_2
        try clear hfz33_3
        try clear hfz34_0
        try clear hfz34_1
        try clear hfz34_2
        try clear hfz34_3
        try clear hfz38_0
        try clear hfz38_1
        try clear hfz38_2
        try clear hfz38_3
        obtain ⟨kq, HA, HJ13, BK334, HB⟩ := hcut
        cases kq with
        | zero => exact absurd HA.out (by simp [laws_FnCtl.j0])
        | succ kj13 =>
          have H := HA.out
          clear HA
          simp only [laws_FnCtl.j0] at H
          replace H := Option.bind_eq_some_iff.mp H
          obtain ⟨t344, A390, H⟩ := H
          replace H : ((impl_CtlRead.f kj13 t344).bind fun bt345 => ((spec_CtlRead.f kj13 t344).bind fun bt351 => (if (bt345.2.2.2.2 != bt351.2.2.2.2) = true then (laws_FnCtl.j1 kj13 t344 bt345.2.2.2.2 bt351.2.2.2.2 true bt345.1 bt345.2.1 bt345.2.2.1 bt345.2.2.2.1 bt351.1 bt351.2.1 bt351.2.2.1 bt351.2.2.2.1) else (if (!(bt345.1 == bt351.1) || (!(bt345.2.1 == bt351.2.1) || (!(bt345.2.2.1 == bt351.2.2.1) || (!(bt345.2.2.2.1 == bt351.2.2.2.1))))) = true then (laws_FnCtl.j1 kj13 t344 bt345.2.2.2.2 bt351.2.2.2.2 true bt345.1 bt345.2.1 bt345.2.2.1 bt345.2.2.2.1 bt351.1 bt351.2.1 bt351.2.2.1 bt351.2.2.2.1) else (laws_FnCtl.j1 kj13 t344 bt345.2.2.2.2 bt351.2.2.2.2 (!bt345.2.2.2.2) bt345.1 bt345.2.1 bt345.2.2.1 bt345.2.2.2.1 bt351.1 bt351.2.1 bt351.2.2.1 bt351.2.2.2.1))))) = some r := H
          have A39 := Aside0.mk A390
          clear A390
          replace H := Option.bind_eq_some_iff.mp H
          obtain ⟨⟨t345, t346, t347, t348, t349⟩, A400, H⟩ := H
          replace H : ((spec_CtlRead.f kj13 t344).bind fun bt351 => (if (t349 != bt351.2.2.2.2) = true then (laws_FnCtl.j1 kj13 t344 t349 bt351.2.2.2.2 true t345 t346 t347 t348 bt351.1 bt351.2.1 bt351.2.2.1 bt351.2.2.2.1) else (if (!(t345 == bt351.1) || (!(t346 == bt351.2.1) || (!(t347 == bt351.2.2.1) || (!(t348 == bt351.2.2.2.1))))) = true then (laws_FnCtl.j1 kj13 t344 t349 bt351.2.2.2.2 true t345 t346 t347 t348 bt351.1 bt351.2.1 bt351.2.2.1 bt351.2.2.2.1) else (laws_FnCtl.j1 kj13 t344 t349 bt351.2.2.2.2 (!t349) t345 t346 t347 t348 bt351.1 bt351.2.1 bt351.2.2.1 bt351.2.2.2.1)))) = some r := H
          have A40 := Aside0.mk A400
          clear A400
          replace H := Option.bind_eq_some_iff.mp H
          obtain ⟨⟨t351, t352, t353, t354, t355⟩, A410, H⟩ := H
          replace H : (if (t349 != t355) = true then (laws_FnCtl.j1 kj13 t344 t349 t355 true t345 t346 t347 t348 t351 t352 t353 t354) else (if (!(t345 == t351) || (!(t346 == t352) || (!(t347 == t353) || (!(t348 == t354))))) = true then (laws_FnCtl.j1 kj13 t344 t349 t355 true t345 t346 t347 t348 t351 t352 t353 t354) else (laws_FnCtl.j1 kj13 t344 t349 t355 (!t349) t345 t346 t347 t348 t351 t352 t353 t354))) = some r := H
          have A41 := Aside0.mk A410
          clear A410
          have HC42 := Aside0.mk H
          clear H
          go_upto_region 14 with (first | ((with_reducible refine gate_callee (f := 17) rfl ?_); refine goesL_ (some 42) rfl rfl Try.func17 (by kernel_rfl) rfl #[.slice A0 l0.length c0] rfl (by (try simp only [List.map_toArray, List.map_cons, List.map_nil]); first | done | rfl | (simp only [List.length_drop, List.length_take]; rfl)) ?_; (with_reducible refine (spec_DrawCtlRead.calls kj13 _ _ l0 t344 _ ?side1 ?side2 A39.out).mono ?_); (case side1 => repeat (first | exact (Kd.C_below HR0.out HB.out) | (with_reducible refine Kd.C_alloc ?_ _) | (with_reducible refine Kd.C_drewN ?_ _) | (with_reducible refine Kd.C_drew ?_))); (case side2 => exact HC0.out); rintro e w43 ⟨rfl, hb⟩; refine ⟨_, rfl, ?_⟩; have n0_ := Aside0.mk (blk_below (g := gb334) (o := .cells #[.int .i64 t330, .int .i64 t331, .int .u32 t332, .int .i64 t333] 26 (0, 0)) (by (with_reducible repeat (first | refine blk_drewN ?_ _ | refine blk_drew ?_ | refine blk_alloc ?_ _)); exact BK334.out) hb); have n1_ := Aside0.mk (below_step (by repeat (first | (with_reducible first | exact HB.out | apply below_alloc | apply pw_below_drewN | apply below_drew1 | refine below_set ?_ GE334.out) | exact HB.out)) hb); clear BK334; clear HB; have BK334 := n0_; have HB := n1_; clear n0_ n1_; (try clear hb); (try clear hb2); (try clear hk); (try clear hi)) | ((with_reducible refine gate_callee (f := 16) rfl ?_); refine goesL_ (some 45) rfl rfl Try.func16 (by kernel_rfl) rfl #[.int .u32 t344] rfl (by (try simp only [List.map_toArray, List.map_cons, List.map_nil]); first | done | rfl | (simp only [List.length_drop, List.length_take]; rfl)) ?_; (with_reducible refine (impl_CtlRead.calls kj13 t344 t345 t346 t347 t348 t349 _ A40.out).mono ?_); rintro e w44 ⟨rfl, hb⟩; refine ⟨_, rfl, ?_⟩; have n0_ := Aside0.mk (blk_below (g := gb334) (o := .cells #[.int .i64 t330, .int .i64 t331, .int .u32 t332, .int .i64 t333] 26 (0, 0)) (by (with_reducible repeat (first | refine blk_drewN ?_ _ | refine blk_drew ?_ | refine blk_alloc ?_ _)); exact BK334.out) hb); have n1_ := Aside0.mk (below_step (by repeat (first | (with_reducible first | exact HB.out | apply below_alloc | apply pw_below_drewN | apply below_drew1 | refine below_set ?_ GE334.out) | exact HB.out)) hb); clear BK334; clear HB; have BK334 := n0_; have HB := n1_; clear n0_ n1_; (try clear hb); (try clear hb2); (try clear hk); (try clear hi)) | ((with_reducible refine gate_dst (N := 9) rfl ?_); refine box_event ?hg (N := 9) ?hd (cs := #[.int .i64 0, .int .i64 0, .int .u32 0, .int .i64 0]) (t := 26) ?hr ?_; (case hd => rfl); (case hg => rfl); (case hr => first | (go_simp; done) | (go_simp; rfl)); intro gb350 hg w45 hbox hb; have n0_ := Aside0.mk (blk_below (g := gb334) (o := .cells #[.int .i64 t330, .int .i64 t331, .int .u32 t332, .int .i64 t333] 26 (0, 0)) (by (with_reducible repeat (first | refine blk_drewN ?_ _ | refine blk_drew ?_ | refine blk_alloc ?_ _)); exact BK334.out) hb); have n1_ := Aside0.mk (below_step (by repeat (first | (with_reducible first | exact HB.out | apply below_alloc | apply pw_below_drewN | apply below_drew1 | refine below_set ?_ GE334.out) | exact HB.out)) hb); have n2_ := Aside0.mk (hbox); have n3_ := Aside0.mk ((by rw [hg]; exact (below_size (by repeat (first | (with_reducible first | exact HB.out | apply below_alloc | apply pw_below_drewN | apply below_drew1 | refine below_set ?_ GE334.out) | exact HB.out))) : w.heap.size ≤ gb350)); have n4_ := Aside0.mk ((by rw [hg]; exact (below_size (by repeat (first | (with_reducible first | exact HB.out | apply below_alloc | apply pw_below_drewN | apply below_drew1 | refine below_set ?_ GE334.out) | exact HB.out))) : w.heap.size ≤ gb350)); have n5_ := Aside0.mk ((by rw [hg]; exact Nat.ne_of_lt (blk_lt (g := gb334) (o := .cells #[.int .i64 t330, .int .i64 t331, .int .u32 t332, .int .i64 t333] 26 (0, 0)) (by (with_reducible repeat (first | refine blk_drewN ?_ _ | refine blk_drew ?_ | refine blk_alloc ?_ _)); exact BK334.out)) : gb334 ≠ gb350)); have n6_ := Aside0.mk ((by rw [hg]; exact Nat.ne_of_gt (blk_lt (g := gb334) (o := .cells #[.int .i64 t330, .int .i64 t331, .int .u32 t332, .int .i64 t333] 26 (0, 0)) (by (with_reducible repeat (first | refine blk_drewN ?_ _ | refine blk_drew ?_ | refine blk_alloc ?_ _)); exact BK334.out)) : gb350 ≠ gb334)); clear BK334; clear HB; have BK334 := n0_; have HB := n1_; have BK350 := n2_; have GW350 := n3_; have GE350 := n4_; have NB334_350 := n5_; have NB350_334 := n6_; clear n0_ n1_ n2_ n3_ n4_ n5_ n6_; clear hb hbox hg; have hnb46 := NB350_334.out; have hnc46 := NB334_350.out; have hcz47_0 : w45.cell? ⟨gb350, 0, none⟩ = some (.int .i64 0) := (blk_cell BK350.out 0).trans rfl; have hcz47_1 : w45.cell? ⟨gb350, 1, none⟩ = some (.int .i64 0) := (blk_cell BK350.out 1).trans rfl; have hcz47_2 : w45.cell? ⟨gb350, 2, none⟩ = some (.int .u32 0) := (blk_cell BK350.out 2).trans rfl; have hcz47_3 : w45.cell? ⟨gb350, 3, none⟩ = some (.int .i64 0) := (blk_cell BK350.out 3).trans rfl; have hfz47_0 := blk_frozen BK350.out 0; have hfz47_1 := blk_frozen BK350.out 1; have hfz47_2 := blk_frozen BK350.out 2; have hfz47_3 := blk_frozen BK350.out 3) | ((with_reducible refine gate_callee (f := 18) rfl ?_); refine goesL_ (some 50) rfl rfl Try.func18 (by kernel_rfl) rfl #[.int .u32 t344] rfl (by (try simp only [List.map_toArray, List.map_cons, List.map_nil]); first | done | rfl | (simp only [List.length_drop, List.length_take]; rfl)) ?_; (with_reducible refine (spec_CtlRead.calls kj13 t344 t351 t352 t353 t354 t355 _ A41.out).mono ?_); rintro e w48 ⟨rfl, hb⟩; refine ⟨_, rfl, ?_⟩; have n0_ := Aside0.mk (blk_below (g := gb334) (o := .cells #[.int .i64 t330, .int .i64 t331, .int .u32 t332, .int .i64 t333] 26 (0, 0)) (by (with_reducible repeat (first | refine blk_drewN ?_ _ | refine blk_drew ?_ | refine blk_alloc ?_ _)); refine blk_far ?_ NB334_350.out _; (with_reducible repeat (first | refine blk_drewN ?_ _ | refine blk_drew ?_ | refine blk_alloc ?_ _)); refine blk_far ?_ NB334_350.out _; (with_reducible repeat (first | refine blk_drewN ?_ _ | refine blk_drew ?_ | refine blk_alloc ?_ _)); refine blk_far ?_ NB334_350.out _; (with_reducible repeat (first | refine blk_drewN ?_ _ | refine blk_drew ?_ | refine blk_alloc ?_ _)); refine blk_far ?_ NB334_350.out _; (with_reducible repeat (first | refine blk_drewN ?_ _ | refine blk_drew ?_ | refine blk_alloc ?_ _)); exact BK334.out) hb); have n1_ := Aside0.mk (blk_below (g := gb350) (o := .cells #[.int .i64 t345, .int .i64 t346, .int .u32 t347, .int .i64 t348] 26 (0, 0)) (by (with_reducible repeat (first | refine blk_drewN ?_ _ | refine blk_drew ?_ | refine blk_alloc ?_ _)); refine blk_put (cs := #[.int .i64 t345, .int .i64 t346, .int .u32 t347, .int .i64 0]) ?_ 3 _ rfl; (with_reducible repeat (first | refine blk_drewN ?_ _ | refine blk_drew ?_ | refine blk_alloc ?_ _)); refine blk_put (cs := #[.int .i64 t345, .int .i64 t346, .int .u32 0, .int .i64 0]) ?_ 2 _ rfl; (with_reducible repeat (first | refine blk_drewN ?_ _ | refine blk_drew ?_ | refine blk_alloc ?_ _)); refine blk_put (cs := #[.int .i64 t345, .int .i64 0, .int .u32 0, .int .i64 0]) ?_ 1 _ rfl; (with_reducible repeat (first | refine blk_drewN ?_ _ | refine blk_drew ?_ | refine blk_alloc ?_ _)); refine blk_put (cs := #[.int .i64 0, .int .i64 0, .int .u32 0, .int .i64 0]) ?_ 0 _ rfl; (with_reducible repeat (first | refine blk_drewN ?_ _ | refine blk_drew ?_ | refine blk_alloc ?_ _)); exact BK350.out) hb); have n2_ := Aside0.mk (below_step (by repeat (first | (with_reducible first | exact HB.out | apply below_alloc | apply pw_below_drewN | apply below_drew1 | refine below_set ?_ GE334.out | refine below_set ?_ GE350.out) | exact HB.out)) hb); clear BK334; clear BK350; clear HB; have BK334 := n0_; have BK350 := n1_; have HB := n2_; clear n0_ n1_ n2_; (try clear hb); (try clear hb2); (try clear hk); (try clear hi)) | ((with_reducible refine gate_dst (N := 11) rfl ?_); refine box_event ?hg (N := 11) ?hd (cs := #[.int .i64 0, .int .i64 0, .int .u32 0, .int .i64 0]) (t := 26) ?hr ?_; (case hd => rfl); (case hg => rfl); (case hr => first | (go_simp; done) | (go_simp; rfl)); intro gb356 hg w49 hbox hb; have n0_ := Aside0.mk (blk_below (g := gb334) (o := .cells #[.int .i64 t330, .int .i64 t331, .int .u32 t332, .int .i64 t333] 26 (0, 0)) (by (with_reducible repeat (first | refine blk_drewN ?_ _ | refine blk_drew ?_ | refine blk_alloc ?_ _)); exact BK334.out) hb); have n1_ := Aside0.mk (blk_below (g := gb350) (o := .cells #[.int .i64 t345, .int .i64 t346, .int .u32 t347, .int .i64 t348] 26 (0, 0)) (by (with_reducible repeat (first | refine blk_drewN ?_ _ | refine blk_drew ?_ | refine blk_alloc ?_ _)); exact BK350.out) hb); have n2_ := Aside0.mk (below_step (by repeat (first | (with_reducible first | exact HB.out | apply below_alloc | apply pw_below_drewN | apply below_drew1 | refine below_set ?_ GE334.out | refine below_set ?_ GE350.out) | exact HB.out)) hb); have n3_ := Aside0.mk (hbox); have n4_ := Aside0.mk ((by rw [hg]; exact (below_size (by repeat (first | (with_reducible first | exact HB.out | apply below_alloc | apply pw_below_drewN | apply below_drew1 | refine below_set ?_ GE334.out | refine below_set ?_ GE350.out) | exact HB.out))) : w.heap.size ≤ gb356)); have n5_ := Aside0.mk ((by rw [hg]; exact (below_size (by repeat (first | (with_reducible first | exact HB.out | apply below_alloc | apply pw_below_drewN | apply below_drew1 | refine below_set ?_ GE334.out | refine below_set ?_ GE350.out) | exact HB.out))) : w.heap.size ≤ gb356)); have n6_ := Aside0.mk ((by rw [hg]; exact Nat.ne_of_lt (blk_lt (g := gb334) (o := .cells #[.int .i64 t330, .int .i64 t331, .int .u32 t332, .int .i64 t333] 26 (0, 0)) (by (with_reducible repeat (first | refine blk_drewN ?_ _ | refine blk_drew ?_ | refine blk_alloc ?_ _)); exact BK334.out)) : gb334 ≠ gb356)); have n7_ := Aside0.mk ((by rw [hg]; exact Nat.ne_of_gt (blk_lt (g := gb334) (o := .cells #[.int .i64 t330, .int .i64 t331, .int .u32 t332, .int .i64 t333] 26 (0, 0)) (by (with_reducible repeat (first | refine blk_drewN ?_ _ | refine blk_drew ?_ | refine blk_alloc ?_ _)); exact BK334.out)) : gb356 ≠ gb334)); have n8_ := Aside0.mk ((by rw [hg]; exact Nat.ne_of_lt (blk_lt (g := gb350) (o := .cells #[.int .i64 t345, .int .i64 t346, .int .u32 t347, .int .i64 t348] 26 (0, 0)) (by (with_reducible repeat (first | refine blk_drewN ?_ _ | refine blk_drew ?_ | refine blk_alloc ?_ _)); exact BK350.out)) : gb350 ≠ gb356)); have n9_ := Aside0.mk ((by rw [hg]; exact Nat.ne_of_gt (blk_lt (g := gb350) (o := .cells #[.int .i64 t345, .int .i64 t346, .int .u32 t347, .int .i64 t348] 26 (0, 0)) (by (with_reducible repeat (first | refine blk_drewN ?_ _ | refine blk_drew ?_ | refine blk_alloc ?_ _)); exact BK350.out)) : gb356 ≠ gb350)); clear BK334; clear BK350; clear HB; have BK334 := n0_; have BK350 := n1_; have HB := n2_; have BK356 := n3_; have GW356 := n4_; have GE356 := n5_; have NB334_356 := n6_; have NB356_334 := n7_; have NB350_356 := n8_; have NB356_350 := n9_; clear n0_ n1_ n2_ n3_ n4_ n5_ n6_ n7_ n8_ n9_; clear hb hbox hg; have hnb50 := NB356_334.out; have hnc50 := NB334_356.out; have hnb51 := NB356_350.out; have hnc51 := NB350_356.out; have hcz52_0 : w49.cell? ⟨gb356, 0, none⟩ = some (.int .i64 0) := (blk_cell BK356.out 0).trans rfl; have hcz52_1 : w49.cell? ⟨gb356, 1, none⟩ = some (.int .i64 0) := (blk_cell BK356.out 1).trans rfl; have hcz52_2 : w49.cell? ⟨gb356, 2, none⟩ = some (.int .u32 0) := (blk_cell BK356.out 2).trans rfl; have hcz52_3 : w49.cell? ⟨gb356, 3, none⟩ = some (.int .i64 0) := (blk_cell BK356.out 3).trans rfl; have hfz52_0 := blk_frozen BK356.out 0; have hfz52_1 := blk_frozen BK356.out 1; have hfz52_2 := blk_frozen BK356.out 2; have hfz52_3 := blk_frozen BK356.out 3))
          (try simp only [Act.put, List.setIfInBounds_toArray, List.set_cons_zero, List.set_cons_succ])
          go_cut [64] (fun v64 wc => ∃ (kq : Nat) (x64_41 : Bool), v64 = .bool x64_41 ∧ Aside0 (laws_FnCtl.j1 kq t344 t349 t355 x64_41 t345 t346 t347 t348 t351 t352 t353 t354 = some r) ∧ Aside0 (kq ≤ kj13) ∧ Aside0 (wc.heap[gb334]? = some (.cells #[.int .i64 t330, .int .i64 t331, .int .u32 t332, .int .i64 t333] 26 (0, 0))) ∧ Aside0 (wc.heap[gb350]? = some (.cells #[.int .i64 t345, .int .i64 t346, .int .u32 t347, .int .i64 t348] 26 (0, 0))) ∧ Aside0 (wc.heap[gb356]? = some (.cells #[.int .i64 t351, .int .i64 t352, .int .u32 t353, .int .i64 t354] 26 (0, 0))) ∧ Aside0 (Below w.heap.size w wc))
          case first =>
            have H := HC42.out
            clear HC42
            by_cases c53 : (t349 != t355) = true
            · rw [if_pos c53] at H
              have c53b0 : (t349 != t355) = true := c53
              (try (have c53b1 : decide (t349 = t355) = false := by simpa using c53))
              (try (have c53b2 : (t349 == t355) = false := by simpa using c53))
              (try (have c53b3 : ¬ (t349 = t355) := by simpa using c53))
              clear c53
              (first | rw [c53b0] | (simp only [i64_w, i32_w]; rw [c53b0]) | skip)
              have H' := Aside0.mk H
              clear H
              go_wp2
              go_meet
              case rel => exact ⟨_, (true), (by first | rfl | (simp; done) | (simp [*]; done)), H', ⟨by have := HJ13.out; first | omega | exact Nat.le_refl _⟩, ⟨by (with_reducible repeat (first | refine blk_drewN ?_ _ | refine blk_drew ?_ | refine blk_alloc ?_ _)); refine blk_far ?_ NB334_356.out _; (with_reducible repeat (first | refine blk_drewN ?_ _ | refine blk_drew ?_ | refine blk_alloc ?_ _)); refine blk_far ?_ NB334_356.out _; (with_reducible repeat (first | refine blk_drewN ?_ _ | refine blk_drew ?_ | refine blk_alloc ?_ _)); refine blk_far ?_ NB334_356.out _; (with_reducible repeat (first | refine blk_drewN ?_ _ | refine blk_drew ?_ | refine blk_alloc ?_ _)); refine blk_far ?_ NB334_356.out _; (with_reducible repeat (first | refine blk_drewN ?_ _ | refine blk_drew ?_ | refine blk_alloc ?_ _)); exact BK334.out⟩, ⟨by (with_reducible repeat (first | refine blk_drewN ?_ _ | refine blk_drew ?_ | refine blk_alloc ?_ _)); refine blk_far ?_ NB350_356.out _; (with_reducible repeat (first | refine blk_drewN ?_ _ | refine blk_drew ?_ | refine blk_alloc ?_ _)); refine blk_far ?_ NB350_356.out _; (with_reducible repeat (first | refine blk_drewN ?_ _ | refine blk_drew ?_ | refine blk_alloc ?_ _)); refine blk_far ?_ NB350_356.out _; (with_reducible repeat (first | refine blk_drewN ?_ _ | refine blk_drew ?_ | refine blk_alloc ?_ _)); refine blk_far ?_ NB350_356.out _; (with_reducible repeat (first | refine blk_drewN ?_ _ | refine blk_drew ?_ | refine blk_alloc ?_ _)); exact BK350.out⟩, ⟨by (with_reducible repeat (first | refine blk_drewN ?_ _ | refine blk_drew ?_ | refine blk_alloc ?_ _)); refine blk_put (cs := #[.int .i64 t351, .int .i64 t352, .int .u32 t353, .int .i64 0]) ?_ 3 _ rfl; (with_reducible repeat (first | refine blk_drewN ?_ _ | refine blk_drew ?_ | refine blk_alloc ?_ _)); refine blk_put (cs := #[.int .i64 t351, .int .i64 t352, .int .u32 0, .int .i64 0]) ?_ 2 _ rfl; (with_reducible repeat (first | refine blk_drewN ?_ _ | refine blk_drew ?_ | refine blk_alloc ?_ _)); refine blk_put (cs := #[.int .i64 t351, .int .i64 0, .int .u32 0, .int .i64 0]) ?_ 1 _ rfl; (with_reducible repeat (first | refine blk_drewN ?_ _ | refine blk_drew ?_ | refine blk_alloc ?_ _)); refine blk_put (cs := #[.int .i64 0, .int .i64 0, .int .u32 0, .int .i64 0]) ?_ 0 _ rfl; (with_reducible repeat (first | refine blk_drewN ?_ _ | refine blk_drew ?_ | refine blk_alloc ?_ _)); exact BK356.out⟩, ⟨by repeat (first | (with_reducible first | exact HB.out | apply below_alloc | apply pw_below_drewN | apply below_drew1 | refine below_set ?_ GE334.out | refine below_set ?_ GE350.out | refine below_set ?_ GE356.out) | exact HB.out)⟩⟩
            · rw [if_neg c53] at H
              have c53b0 : (t349 != t355) = false := by simpa using c53
              (try (have c53b1 : decide (t349 = t355) = true := by simpa using c53))
              (try (have c53b2 : (t349 == t355) = true := by simpa using c53))
              clear c53
              (first | rw [c53b0] | (simp only [i64_w, i32_w]; rw [c53b0]) | skip)
              by_cases c54 : (!(t345 == t351) || (!(t346 == t352) || (!(t347 == t353) || (!(t348 == t354))))) = true
              · rw [if_pos c54] at H
                have c54b0 : (!(t345 == t351) || (!(t346 == t352) || (!(t347 == t353) || (!(t348 == t354))))) = true := c54
                clear c54
                have H' := Aside0.mk H
                clear H
                have hnb55 := NB350_334.out
                have hnc55 := NB334_350.out
                have hnb56 := NB350_356.out
                have hnc56 := NB356_350.out
                have hcz57_0 : w49.cell? ⟨gb350, 0, none⟩ = some (.int .i64 t345) := (blk_cell BK350.out 0).trans rfl
                have hcz57_1 : w49.cell? ⟨gb350, 1, none⟩ = some (.int .i64 t346) := (blk_cell BK350.out 1).trans rfl
                have hcz57_2 : w49.cell? ⟨gb350, 2, none⟩ = some (.int .u32 t347) := (blk_cell BK350.out 2).trans rfl
                have hcz57_3 : w49.cell? ⟨gb350, 3, none⟩ = some (.int .i64 t348) := (blk_cell BK350.out 3).trans rfl
                have hfz57_0 := blk_frozen BK350.out 0
                have hfz57_1 := blk_frozen BK350.out 1
                have hfz57_2 := blk_frozen BK350.out 2
                have hfz57_3 := blk_frozen BK350.out 3
                have hnb58 := NB356_334.out
                have hnc58 := NB334_356.out
                have hcz59_0 : w49.cell? ⟨gb356, 0, none⟩ = some (.int .i64 0) := (blk_cell BK356.out 0).trans rfl
                have hcz59_1 : w49.cell? ⟨gb356, 1, none⟩ = some (.int .i64 0) := (blk_cell BK356.out 1).trans rfl
                have hcz59_2 : w49.cell? ⟨gb356, 2, none⟩ = some (.int .u32 0) := (blk_cell BK356.out 2).trans rfl
                have hcz59_3 : w49.cell? ⟨gb356, 3, none⟩ = some (.int .i64 0) := (blk_cell BK356.out 3).trans rfl
                have hfz59_0 := blk_frozen BK356.out 0
                have hfz59_1 := blk_frozen BK356.out 1
                have hfz59_2 := blk_frozen BK356.out 2
                have hfz59_3 := blk_frozen BK356.out 3
                go_wp2
                go_meet
                case rel => exact ⟨_, (true), (by first | rfl | (simp; done) | (simp [*]; done)), H', ⟨by have := HJ13.out; first | omega | exact Nat.le_refl _⟩, ⟨by (with_reducible repeat (first | refine blk_drewN ?_ _ | refine blk_drew ?_ | refine blk_alloc ?_ _)); refine blk_far ?_ NB334_356.out _; (with_reducible repeat (first | refine blk_drewN ?_ _ | refine blk_drew ?_ | refine blk_alloc ?_ _)); refine blk_far ?_ NB334_356.out _; (with_reducible repeat (first | refine blk_drewN ?_ _ | refine blk_drew ?_ | refine blk_alloc ?_ _)); refine blk_far ?_ NB334_356.out _; (with_reducible repeat (first | refine blk_drewN ?_ _ | refine blk_drew ?_ | refine blk_alloc ?_ _)); refine blk_far ?_ NB334_356.out _; (with_reducible repeat (first | refine blk_drewN ?_ _ | refine blk_drew ?_ | refine blk_alloc ?_ _)); exact BK334.out⟩, ⟨by (with_reducible repeat (first | refine blk_drewN ?_ _ | refine blk_drew ?_ | refine blk_alloc ?_ _)); refine blk_far ?_ NB350_356.out _; (with_reducible repeat (first | refine blk_drewN ?_ _ | refine blk_drew ?_ | refine blk_alloc ?_ _)); refine blk_far ?_ NB350_356.out _; (with_reducible repeat (first | refine blk_drewN ?_ _ | refine blk_drew ?_ | refine blk_alloc ?_ _)); refine blk_far ?_ NB350_356.out _; (with_reducible repeat (first | refine blk_drewN ?_ _ | refine blk_drew ?_ | refine blk_alloc ?_ _)); refine blk_far ?_ NB350_356.out _; (with_reducible repeat (first | refine blk_drewN ?_ _ | refine blk_drew ?_ | refine blk_alloc ?_ _)); exact BK350.out⟩, ⟨by (with_reducible repeat (first | refine blk_drewN ?_ _ | refine blk_drew ?_ | refine blk_alloc ?_ _)); refine blk_put (cs := #[.int .i64 t351, .int .i64 t352, .int .u32 t353, .int .i64 0]) ?_ 3 _ rfl; (with_reducible repeat (first | refine blk_drewN ?_ _ | refine blk_drew ?_ | refine blk_alloc ?_ _)); refine blk_put (cs := #[.int .i64 t351, .int .i64 t352, .int .u32 0, .int .i64 0]) ?_ 2 _ rfl; (with_reducible repeat (first | refine blk_drewN ?_ _ | refine blk_drew ?_ | refine blk_alloc ?_ _)); refine blk_put (cs := #[.int .i64 t351, .int .i64 0, .int .u32 0, .int .i64 0]) ?_ 1 _ rfl; (with_reducible repeat (first | refine blk_drewN ?_ _ | refine blk_drew ?_ | refine blk_alloc ?_ _)); refine blk_put (cs := #[.int .i64 0, .int .i64 0, .int .u32 0, .int .i64 0]) ?_ 0 _ rfl; (with_reducible repeat (first | refine blk_drewN ?_ _ | refine blk_drew ?_ | refine blk_alloc ?_ _)); exact BK356.out⟩, ⟨by repeat (first | (with_reducible first | exact HB.out | apply below_alloc | apply pw_below_drewN | apply below_drew1 | refine below_set ?_ GE334.out | refine below_set ?_ GE350.out | refine below_set ?_ GE356.out) | exact HB.out)⟩⟩
              · rw [if_neg c54] at H
                have c54b0 : (!(t345 == t351) || (!(t346 == t352) || (!(t347 == t353) || (!(t348 == t354))))) = false := by simpa using c54
                clear c54
                have H' := Aside0.mk H
                clear H
                have hnb60 := NB350_334.out
                have hnc60 := NB334_350.out
                have hnb61 := NB350_356.out
                have hnc61 := NB356_350.out
                have hcz62_0 : w49.cell? ⟨gb350, 0, none⟩ = some (.int .i64 t345) := (blk_cell BK350.out 0).trans rfl
                have hcz62_1 : w49.cell? ⟨gb350, 1, none⟩ = some (.int .i64 t346) := (blk_cell BK350.out 1).trans rfl
                have hcz62_2 : w49.cell? ⟨gb350, 2, none⟩ = some (.int .u32 t347) := (blk_cell BK350.out 2).trans rfl
                have hcz62_3 : w49.cell? ⟨gb350, 3, none⟩ = some (.int .i64 t348) := (blk_cell BK350.out 3).trans rfl
                have hfz62_0 := blk_frozen BK350.out 0
                have hfz62_1 := blk_frozen BK350.out 1
                have hfz62_2 := blk_frozen BK350.out 2
                have hfz62_3 := blk_frozen BK350.out 3
                have hnb63 := NB356_334.out
                have hnc63 := NB334_356.out
                have hcz64_0 : w49.cell? ⟨gb356, 0, none⟩ = some (.int .i64 0) := (blk_cell BK356.out 0).trans rfl
                have hcz64_1 : w49.cell? ⟨gb356, 1, none⟩ = some (.int .i64 0) := (blk_cell BK356.out 1).trans rfl
                have hcz64_2 : w49.cell? ⟨gb356, 2, none⟩ = some (.int .u32 0) := (blk_cell BK356.out 2).trans rfl
                have hcz64_3 : w49.cell? ⟨gb356, 3, none⟩ = some (.int .i64 0) := (blk_cell BK356.out 3).trans rfl
                have hfz64_0 := blk_frozen BK356.out 0
                have hfz64_1 := blk_frozen BK356.out 1
                have hfz64_2 := blk_frozen BK356.out 2
                have hfz64_3 := blk_frozen BK356.out 3
                go_wp2
                go_meet
                case rel => exact ⟨_, (!t349), (by first | rfl | (simp; done) | (simp [*]; done)), H', ⟨by have := HJ13.out; first | omega | exact Nat.le_refl _⟩, ⟨by (with_reducible repeat (first | refine blk_drewN ?_ _ | refine blk_drew ?_ | refine blk_alloc ?_ _)); refine blk_far ?_ NB334_356.out _; (with_reducible repeat (first | refine blk_drewN ?_ _ | refine blk_drew ?_ | refine blk_alloc ?_ _)); refine blk_far ?_ NB334_356.out _; (with_reducible repeat (first | refine blk_drewN ?_ _ | refine blk_drew ?_ | refine blk_alloc ?_ _)); refine blk_far ?_ NB334_356.out _; (with_reducible repeat (first | refine blk_drewN ?_ _ | refine blk_drew ?_ | refine blk_alloc ?_ _)); refine blk_far ?_ NB334_356.out _; (with_reducible repeat (first | refine blk_drewN ?_ _ | refine blk_drew ?_ | refine blk_alloc ?_ _)); exact BK334.out⟩, ⟨by (with_reducible repeat (first | refine blk_drewN ?_ _ | refine blk_drew ?_ | refine blk_alloc ?_ _)); refine blk_far ?_ NB350_356.out _; (with_reducible repeat (first | refine blk_drewN ?_ _ | refine blk_drew ?_ | refine blk_alloc ?_ _)); refine blk_far ?_ NB350_356.out _; (with_reducible repeat (first | refine blk_drewN ?_ _ | refine blk_drew ?_ | refine blk_alloc ?_ _)); refine blk_far ?_ NB350_356.out _; (with_reducible repeat (first | refine blk_drewN ?_ _ | refine blk_drew ?_ | refine blk_alloc ?_ _)); refine blk_far ?_ NB350_356.out _; (with_reducible repeat (first | refine blk_drewN ?_ _ | refine blk_drew ?_ | refine blk_alloc ?_ _)); exact BK350.out⟩, ⟨by (with_reducible repeat (first | refine blk_drewN ?_ _ | refine blk_drew ?_ | refine blk_alloc ?_ _)); refine blk_put (cs := #[.int .i64 t351, .int .i64 t352, .int .u32 t353, .int .i64 0]) ?_ 3 _ rfl; (with_reducible repeat (first | refine blk_drewN ?_ _ | refine blk_drew ?_ | refine blk_alloc ?_ _)); refine blk_put (cs := #[.int .i64 t351, .int .i64 t352, .int .u32 0, .int .i64 0]) ?_ 2 _ rfl; (with_reducible repeat (first | refine blk_drewN ?_ _ | refine blk_drew ?_ | refine blk_alloc ?_ _)); refine blk_put (cs := #[.int .i64 t351, .int .i64 0, .int .u32 0, .int .i64 0]) ?_ 1 _ rfl; (with_reducible repeat (first | refine blk_drewN ?_ _ | refine blk_drew ?_ | refine blk_alloc ?_ _)); refine blk_put (cs := #[.int .i64 0, .int .i64 0, .int .u32 0, .int .i64 0]) ?_ 0 _ rfl; (with_reducible repeat (first | refine blk_drewN ?_ _ | refine blk_drew ?_ | refine blk_alloc ?_ _)); exact BK356.out⟩, ⟨by repeat (first | (with_reducible first | exact HB.out | apply below_alloc | apply pw_below_drewN | apply below_drew1 | refine below_set ?_ GE334.out | refine below_set ?_ GE350.out | refine below_set ?_ GE356.out) | exact HB.out)⟩⟩
          case rest =>
            clear HC42
            try clear c1
            try clear c2
            try clear p2
            try clear c3
            try clear c4
            try clear c5
            try clear c6
            try clear c7
            try clear c7b0
            try clear c7b1
            try clear c7b2
            try clear c12
            try clear c13
            try clear c14
            try clear c15
            try clear c16
            try clear c17
            try clear c18
            try clear c21
            try clear c23
            try clear c24
            try clear c24b0
            try clear c27
            try clear c32
            try clear c37
            try clear c46
            try clear c50
            try clear c51
            try clear c53
            try clear c53b0
            try clear c53b1
            try clear c53b2
            try clear c54
            try clear c54b0
            try clear c55
            try clear c56
            try clear c58
            try clear c60
            try clear c61
            try clear c63
            try clear hcz10_0
            try clear hcz10_1
            try clear hcz10_2
            try clear hcz10_3
            try clear hcz12_0
            try clear hcz12_1
            try clear hcz12_2
            try clear hcz12_3
            try clear hcz17_0
            try clear hcz17_1
            try clear hcz17_2
            try clear hcz17_3
            try clear hcz19_0
            try clear hcz19_1
            try clear hcz19_2
            try clear hcz19_3
            try clear hcz28_0
            try clear hcz28_1
            try clear hcz28_2
            try clear hcz28_3
            try clear hcz29_0
            try clear hcz29_1
            try clear hcz29_2
            try clear hcz29_3
            try clear hcz33_0
            try clear hcz33_1
            try clear hcz33_2
            try clear hcz33_3
            try clear hcz34_0
            try clear hcz34_1
            try clear hcz34_2
            try clear hcz34_3
            try clear hcz38_0
            try clear hcz38_1
            try clear hcz38_2
            try clear hcz38_3
            try clear hcz47_0
            try clear hcz47_1
            try clear hcz47_2
            try clear hcz47_3
            try clear hcz52_0
            try clear hcz52_1
            try clear hcz52_2
            try clear hcz52_3
            try clear hcz57_0
            try clear hcz57_1
            try clear hcz57_2
            try clear hcz57_3
            try clear hcz59_0
            try clear hcz59_1
            try clear hcz59_2
            try clear hcz59_3
            try clear hcz62_0
            try clear hcz62_1
            try clear hcz62_2
            try clear hcz62_3
            try clear hcz64_0
            try clear hcz64_1
            try clear hcz64_2
            try clear hcz64_3
            try clear hfz10_0
            try clear hfz10_1
            try clear hfz10_2
            try clear hfz10_3
            try clear hfz12_0
            try clear hfz12_1
            try clear hfz12_2
            try clear hfz12_3
            try clear hfz17_0
            try clear hfz17_1
            try clear hfz17_2
            try clear hfz17_3
            try clear hfz19_0
            try clear hfz19_1
            try clear hfz19_2
            try clear hfz19_3
            try clear hfz28_0
            try clear hfz28_1
            try clear hfz28_2
            try clear hfz28_3
            try clear hfz29_0
            try clear hfz29_1
            try clear hfz29_2
            try clear hfz29_3
            try clear hfz33_0
            try clear hfz33_1
            try clear hfz33_2
            try clear hfz33_3
            try clear hfz34_0
            try clear hfz34_1
            try clear hfz34_2
            try clear hfz34_3
            try clear hfz38_0
            try clear hfz38_1
            try clear hfz38_2
            try clear hfz38_3
            try clear hfz47_0
            try clear hfz47_1
            try clear hfz47_2
            try clear hfz47_3
            try clear hfz52_0
            try clear hfz52_1
            try clear hfz52_2
            try clear hfz52_3
            try clear hfz57_0
            try clear hfz57_1
            try clear hfz57_2
            try clear hfz57_3
            try clear hfz59_0
            try clear hfz59_1
            try clear hfz59_2
            try clear hfz59_3
            try clear hfz62_0
            try clear hfz62_1
            try clear hfz62_2
            try clear hfz62_3
            try clear hfz64_0
            try clear hfz64_1
            try clear hfz64_2
            try clear hfz64_3
            try clear p2
            obtain ⟨kq, x64_41, rfl, HA, HJ41, BK334, BK350, BK356, HB⟩ := hcut
            cases kq with
            | zero => exact absurd HA.out (by simp [laws_FnCtl.j1])
            | succ kj41 =>
              have H := HA.out
              clear HA
              simp only [laws_FnCtl.j1] at H
              by_cases c65 : x64_41 = true
              · subst c65
                have H1 : (if (t349 == t355) = true then (some (t345 == t351 && (t346 == t352 && (t347 == t353 && (t348 == t354))))) else (some false)) = some r := by rw [if_pos rfl] at H; exact H
                clear H
                have H := H1
                clear H1
                by_cases c66 : (t349 == t355) = true
                · rw [if_pos c66] at H
                  have c66b0 : (t349 == t355) = true := c66
                  (try (have c66b1 : decide (t349 = t355) = true := by simpa using c66))
                  (try (have c66b2 : (t349 == t355) = true := by simpa using c66))
                  clear c66
                  obtain rfl := Option.some.inj H
                  have hnb67 := NB350_334.out
                  have hnc67 := NB334_350.out
                  have hnb68 := NB350_356.out
                  have hnc68 := NB356_350.out
                  have hcz69_0 : wc.cell? ⟨gb350, 0, none⟩ = some (.int .i64 t345) := (blk_cell BK350.out 0).trans rfl
                  have hcz69_1 : wc.cell? ⟨gb350, 1, none⟩ = some (.int .i64 t346) := (blk_cell BK350.out 1).trans rfl
                  have hcz69_2 : wc.cell? ⟨gb350, 2, none⟩ = some (.int .u32 t347) := (blk_cell BK350.out 2).trans rfl
                  have hcz69_3 : wc.cell? ⟨gb350, 3, none⟩ = some (.int .i64 t348) := (blk_cell BK350.out 3).trans rfl
                  have hfz69_0 := blk_frozen BK350.out 0
                  have hfz69_1 := blk_frozen BK350.out 1
                  have hfz69_2 := blk_frozen BK350.out 2
                  have hfz69_3 := blk_frozen BK350.out 3
                  have hnb70 := NB356_334.out
                  have hnc70 := NB334_356.out
                  have hcz71_0 : wc.cell? ⟨gb356, 0, none⟩ = some (.int .i64 t351) := (blk_cell BK356.out 0).trans rfl
                  have hcz71_1 : wc.cell? ⟨gb356, 1, none⟩ = some (.int .i64 t352) := (blk_cell BK356.out 1).trans rfl
                  have hcz71_2 : wc.cell? ⟨gb356, 2, none⟩ = some (.int .u32 t353) := (blk_cell BK356.out 2).trans rfl
                  have hcz71_3 : wc.cell? ⟨gb356, 3, none⟩ = some (.int .i64 t354) := (blk_cell BK356.out 3).trans rfl
                  have hfz71_0 := blk_frozen BK356.out 0
                  have hfz71_1 := blk_frozen BK356.out 1
                  have hfz71_2 := blk_frozen BK356.out 2
                  have hfz71_3 := blk_frozen BK356.out 3
                  go_wp2
                  go_ret
                  exact ⟨by first | rfl | (simp [errW_none, errW_some] <;> rfl) | (simp [*, errW_none, errW_some] <;> rfl), by repeat (first | (with_reducible first | exact HB.out | apply below_alloc | apply pw_below_drewN | apply below_drew1 | refine below_set ?_ GE334.out | refine below_set ?_ GE350.out | refine below_set ?_ GE356.out) | exact HB.out)⟩
                · rw [if_neg c66] at H
                  have c66b0 : (t349 == t355) = false := by simpa using c66
                  (try (have c66b1 : decide (t349 = t355) = false := by simpa using c66))
                  (try (have c66b2 : (t349 == t355) = false := by simpa using c66))
                  (try (have c66b3 : ¬ (t349 = t355) := by simpa using c66))
                  clear c66
                  obtain rfl := Option.some.inj H
                  go_wp2
                  go_ret
                  exact ⟨by first | rfl | (simp [errW_none, errW_some] <;> rfl) | (simp [*, errW_none, errW_some] <;> rfl), by repeat (first | (with_reducible first | exact HB.out | apply below_alloc | apply pw_below_drewN | apply below_drew1 | refine below_set ?_ GE334.out | refine below_set ?_ GE350.out | refine below_set ?_ GE356.out) | exact HB.out)⟩
              · replace c65 := Bool.eq_false_iff.mpr c65
                subst c65
                have H1 : ((impl_CtlPack.f kj41 t345 t346 t347 t348).bind fun bt357 => (if bt357.2 = true then (if bt357.1 = t344 then ((impl_CtlOk.f kj41 t345 t346 t347 t348).bind fun t359 => (some t359)) else (some false)) else (some false))) = some r := by rw [if_neg (show ¬ (false = true) by decide)] at H; exact H
                clear H
                have H := H1
                clear H1
                replace H := Option.bind_eq_some_iff.mp H
                obtain ⟨⟨t357, t358⟩, A720, H⟩ := H
                replace H : (if t358 = true then (if t357 = t344 then ((impl_CtlOk.f kj41 t345 t346 t347 t348).bind fun t359 => (some t359)) else (some false)) else (some false)) = some r := H
                have A72 := Aside0.mk A720
                clear A720
                by_cases c73 : t358 = true
                · subst c73
                  have H1 : (if t357 = t344 then ((impl_CtlOk.f kj41 t345 t346 t347 t348).bind fun t359 => (some t359)) else (some false)) = some r := by rw [if_pos rfl] at H; exact H
                  clear H
                  have H := H1
                  clear H1
                  by_cases c74 : t357 = t344
                  · rw [if_pos c74] at H
                    have c74b0 : (t357 == t344) = true := beq_iff_eq.mpr c74
                    have c74b1 : (t357 != t344) = false := bne_eq_false_iff_eq.mpr c74
                    clear c74
                    replace H := Option.bind_eq_some_iff.mp H
                    obtain ⟨t359, A750, H⟩ := H
                    replace H : (some t359) = some r := H
                    have A75 := Aside0.mk A750
                    clear A750
                    obtain rfl := Option.some.inj H
                    have hnb76 := NB350_334.out
                    have hnc76 := NB334_350.out
                    have hnb77 := NB350_356.out
                    have hnc77 := NB356_350.out
                    have hcz78_0 : wc.cell? ⟨gb350, 0, none⟩ = some (.int .i64 t345) := (blk_cell BK350.out 0).trans rfl
                    have hcz78_1 : wc.cell? ⟨gb350, 1, none⟩ = some (.int .i64 t346) := (blk_cell BK350.out 1).trans rfl
                    have hcz78_2 : wc.cell? ⟨gb350, 2, none⟩ = some (.int .u32 t347) := (blk_cell BK350.out 2).trans rfl
                    have hcz78_3 : wc.cell? ⟨gb350, 3, none⟩ = some (.int .i64 t348) := (blk_cell BK350.out 3).trans rfl
                    have hfz78_0 := blk_frozen BK350.out 0
                    have hfz78_1 := blk_frozen BK350.out 1
                    have hfz78_2 := blk_frozen BK350.out 2
                    have hfz78_3 := blk_frozen BK350.out 3
                    go_wp2_with (first | ((with_reducible refine gate_callee (f := 14) rfl ?_); refine goesL_ (some 75) rfl rfl Try.func14 (by kernel_rfl) rfl #[.agg #[.int .i64 t345, .int .i64 t346, .int .u32 t347, .int .i64 t348]] rfl (by (try simp only [List.map_toArray, List.map_cons, List.map_nil]); first | done | rfl | (simp only [List.length_drop, List.length_take]; rfl)) ?_; (with_reducible refine (impl_CtlPack.calls kj41 t345 t346 t347 t348 t357 true _ A72.out).mono ?_); rintro e w79 ⟨rfl, hb⟩; refine ⟨_, rfl, ?_⟩; have n0_ := Aside0.mk (blk_below (g := gb334) (o := .cells #[.int .i64 t330, .int .i64 t331, .int .u32 t332, .int .i64 t333] 26 (0, 0)) (by (with_reducible repeat (first | refine blk_drewN ?_ _ | refine blk_drew ?_ | refine blk_alloc ?_ _)); exact BK334.out) hb); have n1_ := Aside0.mk (blk_below (g := gb350) (o := .cells #[.int .i64 t345, .int .i64 t346, .int .u32 t347, .int .i64 t348] 26 (0, 0)) (by (with_reducible repeat (first | refine blk_drewN ?_ _ | refine blk_drew ?_ | refine blk_alloc ?_ _)); exact BK350.out) hb); have n2_ := Aside0.mk (blk_below (g := gb356) (o := .cells #[.int .i64 t351, .int .i64 t352, .int .u32 t353, .int .i64 t354] 26 (0, 0)) (by (with_reducible repeat (first | refine blk_drewN ?_ _ | refine blk_drew ?_ | refine blk_alloc ?_ _)); exact BK356.out) hb); have n3_ := Aside0.mk (below_step (by repeat (first | (with_reducible first | exact HB.out | apply below_alloc | apply pw_below_drewN | apply below_drew1 | refine below_set ?_ GE334.out | refine below_set ?_ GE350.out | refine below_set ?_ GE356.out) | exact HB.out)) hb); clear BK334; clear BK350; clear BK356; clear HB; have BK334 := n0_; have BK350 := n1_; have BK356 := n2_; have HB := n3_; clear n0_ n1_ n2_ n3_; (try clear hb); (try clear hb2); (try clear hk); (try clear hi); have hcz80_0 : w79.cell? ⟨gb350, 0, none⟩ = some (.int .i64 t345) := (blk_cell BK350.out 0).trans rfl; have hcz80_1 : w79.cell? ⟨gb350, 1, none⟩ = some (.int .i64 t346) := (blk_cell BK350.out 1).trans rfl; have hcz80_2 : w79.cell? ⟨gb350, 2, none⟩ = some (.int .u32 t347) := (blk_cell BK350.out 2).trans rfl; have hcz80_3 : w79.cell? ⟨gb350, 3, none⟩ = some (.int .i64 t348) := (blk_cell BK350.out 3).trans rfl; have hfz80_0 := blk_frozen BK350.out 0; have hfz80_1 := blk_frozen BK350.out 1; have hfz80_2 := blk_frozen BK350.out 2; have hfz80_3 := blk_frozen BK350.out 3) | (go_at_call 19; (with_reducible refine (impl_CtlOk.calls kj41 t345 t346 t347 t348 t359 _ A75.out).mono ?_); rintro e w81 ⟨rfl, hb⟩; have n0_ := Aside0.mk (blk_below (g := gb334) (o := .cells #[.int .i64 t330, .int .i64 t331, .int .u32 t332, .int .i64 t333] 26 (0, 0)) (by (with_reducible repeat (first | refine blk_drewN ?_ _ | refine blk_drew ?_ | refine blk_alloc ?_ _)); exact BK334.out) hb); have n1_ := Aside0.mk (blk_below (g := gb350) (o := .cells #[.int .i64 t345, .int .i64 t346, .int .u32 t347, .int .i64 t348] 26 (0, 0)) (by (with_reducible repeat (first | refine blk_drewN ?_ _ | refine blk_drew ?_ | refine blk_alloc ?_ _)); exact BK350.out) hb); have n2_ := Aside0.mk (blk_below (g := gb356) (o := .cells #[.int .i64 t351, .int .i64 t352, .int .u32 t353, .int .i64 t354] 26 (0, 0)) (by (with_reducible repeat (first | refine blk_drewN ?_ _ | refine blk_drew ?_ | refine blk_alloc ?_ _)); exact BK356.out) hb); have n3_ := Aside0.mk (below_step (by repeat (first | (with_reducible first | exact HB.out | apply below_alloc | apply pw_below_drewN | apply below_drew1 | refine below_set ?_ GE334.out | refine below_set ?_ GE350.out | refine below_set ?_ GE356.out) | exact HB.out)) hb); clear BK334; clear BK350; clear BK356; clear HB; have BK334 := n0_; have BK350 := n1_; have BK356 := n2_; have HB := n3_; clear n0_ n1_ n2_ n3_; (try clear hb); (try clear hb2); (try clear hk); (try clear hi)))
                    go_ret
                    exact ⟨by first | rfl | (simp [errW_none, errW_some] <;> rfl) | (simp [*, errW_none, errW_some] <;> rfl), by repeat (first | (with_reducible first | exact HB.out | apply below_alloc | apply pw_below_drewN | apply below_drew1 | refine below_set ?_ GE334.out | refine below_set ?_ GE350.out | refine below_set ?_ GE356.out) | exact HB.out)⟩
                  · rw [if_neg c74] at H
                    have c74b0 : (t357 == t344) = false := beq_eq_false_iff_ne.mpr c74
                    have c74b1 : (t357 != t344) = true := bne_iff_ne.mpr c74
                    obtain rfl := Option.some.inj H
                    have hnb82 := NB350_334.out
                    have hnc82 := NB334_350.out
                    have hnb83 := NB350_356.out
                    have hnc83 := NB356_350.out
                    have hcz84_0 : wc.cell? ⟨gb350, 0, none⟩ = some (.int .i64 t345) := (blk_cell BK350.out 0).trans rfl
                    have hcz84_1 : wc.cell? ⟨gb350, 1, none⟩ = some (.int .i64 t346) := (blk_cell BK350.out 1).trans rfl
                    have hcz84_2 : wc.cell? ⟨gb350, 2, none⟩ = some (.int .u32 t347) := (blk_cell BK350.out 2).trans rfl
                    have hcz84_3 : wc.cell? ⟨gb350, 3, none⟩ = some (.int .i64 t348) := (blk_cell BK350.out 3).trans rfl
                    have hfz84_0 := blk_frozen BK350.out 0
                    have hfz84_1 := blk_frozen BK350.out 1
                    have hfz84_2 := blk_frozen BK350.out 2
                    have hfz84_3 := blk_frozen BK350.out 3
                    go_wp2_with (first | ((with_reducible refine gate_callee (f := 14) rfl ?_); refine goesL_ (some 75) rfl rfl Try.func14 (by kernel_rfl) rfl #[.agg #[.int .i64 t345, .int .i64 t346, .int .u32 t347, .int .i64 t348]] rfl (by (try simp only [List.map_toArray, List.map_cons, List.map_nil]); first | done | rfl | (simp only [List.length_drop, List.length_take]; rfl)) ?_; (with_reducible refine (impl_CtlPack.calls kj41 t345 t346 t347 t348 t357 true _ A72.out).mono ?_); rintro e w85 ⟨rfl, hb⟩; refine ⟨_, rfl, ?_⟩; have n0_ := Aside0.mk (blk_below (g := gb334) (o := .cells #[.int .i64 t330, .int .i64 t331, .int .u32 t332, .int .i64 t333] 26 (0, 0)) (by (with_reducible repeat (first | refine blk_drewN ?_ _ | refine blk_drew ?_ | refine blk_alloc ?_ _)); exact BK334.out) hb); have n1_ := Aside0.mk (blk_below (g := gb350) (o := .cells #[.int .i64 t345, .int .i64 t346, .int .u32 t347, .int .i64 t348] 26 (0, 0)) (by (with_reducible repeat (first | refine blk_drewN ?_ _ | refine blk_drew ?_ | refine blk_alloc ?_ _)); exact BK350.out) hb); have n2_ := Aside0.mk (blk_below (g := gb356) (o := .cells #[.int .i64 t351, .int .i64 t352, .int .u32 t353, .int .i64 t354] 26 (0, 0)) (by (with_reducible repeat (first | refine blk_drewN ?_ _ | refine blk_drew ?_ | refine blk_alloc ?_ _)); exact BK356.out) hb); have n3_ := Aside0.mk (below_step (by repeat (first | (with_reducible first | exact HB.out | apply below_alloc | apply pw_below_drewN | apply below_drew1 | refine below_set ?_ GE334.out | refine below_set ?_ GE350.out | refine below_set ?_ GE356.out) | exact HB.out)) hb); clear BK334; clear BK350; clear BK356; clear HB; have BK334 := n0_; have BK350 := n1_; have BK356 := n2_; have HB := n3_; clear n0_ n1_ n2_ n3_; (try clear hb); (try clear hb2); (try clear hk); (try clear hi)))
                    go_ret
                    exact ⟨by first | rfl | (simp [errW_none, errW_some] <;> rfl) | (simp [*, errW_none, errW_some] <;> rfl), by repeat (first | (with_reducible first | exact HB.out | apply below_alloc | apply pw_below_drewN | apply below_drew1 | refine below_set ?_ GE334.out | refine below_set ?_ GE350.out | refine below_set ?_ GE356.out) | exact HB.out)⟩
                · replace c73 := Bool.eq_false_iff.mpr c73
                  subst c73
                  have H1 : (some false) = some r := by rw [if_neg (show ¬ (false = true) by decide)] at H; exact H
                  clear H
                  have H := H1
                  clear H1
                  obtain rfl := Option.some.inj H
                  have hnb86 := NB350_334.out
                  have hnc86 := NB334_350.out
                  have hnb87 := NB350_356.out
                  have hnc87 := NB356_350.out
                  have hcz88_0 : wc.cell? ⟨gb350, 0, none⟩ = some (.int .i64 t345) := (blk_cell BK350.out 0).trans rfl
                  have hcz88_1 : wc.cell? ⟨gb350, 1, none⟩ = some (.int .i64 t346) := (blk_cell BK350.out 1).trans rfl
                  have hcz88_2 : wc.cell? ⟨gb350, 2, none⟩ = some (.int .u32 t347) := (blk_cell BK350.out 2).trans rfl
                  have hcz88_3 : wc.cell? ⟨gb350, 3, none⟩ = some (.int .i64 t348) := (blk_cell BK350.out 3).trans rfl
                  have hfz88_0 := blk_frozen BK350.out 0
                  have hfz88_1 := blk_frozen BK350.out 1
                  have hfz88_2 := blk_frozen BK350.out 2
                  have hfz88_3 := blk_frozen BK350.out 3
                  go_wp2_with (first | ((with_reducible refine gate_callee (f := 14) rfl ?_); refine goesL_ (some 75) rfl rfl Try.func14 (by kernel_rfl) rfl #[.agg #[.int .i64 t345, .int .i64 t346, .int .u32 t347, .int .i64 t348]] rfl (by (try simp only [List.map_toArray, List.map_cons, List.map_nil]); first | done | rfl | (simp only [List.length_drop, List.length_take]; rfl)) ?_; (with_reducible refine (impl_CtlPack.calls kj41 t345 t346 t347 t348 t357 false _ A72.out).mono ?_); rintro e w89 ⟨rfl, hb⟩; refine ⟨_, rfl, ?_⟩; have n0_ := Aside0.mk (blk_below (g := gb334) (o := .cells #[.int .i64 t330, .int .i64 t331, .int .u32 t332, .int .i64 t333] 26 (0, 0)) (by (with_reducible repeat (first | refine blk_drewN ?_ _ | refine blk_drew ?_ | refine blk_alloc ?_ _)); exact BK334.out) hb); have n1_ := Aside0.mk (blk_below (g := gb350) (o := .cells #[.int .i64 t345, .int .i64 t346, .int .u32 t347, .int .i64 t348] 26 (0, 0)) (by (with_reducible repeat (first | refine blk_drewN ?_ _ | refine blk_drew ?_ | refine blk_alloc ?_ _)); exact BK350.out) hb); have n2_ := Aside0.mk (blk_below (g := gb356) (o := .cells #[.int .i64 t351, .int .i64 t352, .int .u32 t353, .int .i64 t354] 26 (0, 0)) (by (with_reducible repeat (first | refine blk_drewN ?_ _ | refine blk_drew ?_ | refine blk_alloc ?_ _)); exact BK356.out) hb); have n3_ := Aside0.mk (below_step (by repeat (first | (with_reducible first | exact HB.out | apply below_alloc | apply pw_below_drewN | apply below_drew1 | refine below_set ?_ GE334.out | refine below_set ?_ GE350.out | refine below_set ?_ GE356.out) | exact HB.out)) hb); clear BK334; clear BK350; clear BK356; clear HB; have BK334 := n0_; have BK350 := n1_; have BK356 := n2_; have HB := n3_; clear n0_ n1_ n2_ n3_; (try clear hb); (try clear hb2); (try clear hk); (try clear hi)))
                  go_ret
                  exact ⟨by first | rfl | (simp [errW_none, errW_some] <;> rfl) | (simp [*, errW_none, errW_some] <;> rfl), by repeat (first | (with_reducible first | exact HB.out | apply below_alloc | apply pw_below_drewN | apply below_drew1 | refine below_set ?_ GE334.out | refine below_set ?_ GE350.out | refine below_set ?_ GE356.out) | exact HB.out)⟩

/-- THE ONE PURE STATEMENT of laws_FnCtl: yours. -/
def laws_FnCtl.Pure : Prop := ∀ (l0 : List Int), l0.length ≤ maxLen → l0.length * 1 ≤ 140737488351232 → (∀ x ∈ l0, (Lit.int .u8 x).wf = true) → ∃ k, laws_FnCtl.f k l0 = some true
theorem laws_FnCtl.walk (P : laws_FnCtl.Pure) (a0 : Option Addr) (len0 cap0 : Nat) (z0 : List Int) (w : World) (w0 : (a0 = none ∧ len0 = 0 ∧ cap0 = 0 ∧ z0 = []) ∨ ∃ x, a0 = some x ∧ len0 ≤ cap0 ∧ cap0 ≤ maxLen ∧ z0.length = cap0 ∧ (∀ i, i < z0.length → w.cell? (x.add i) = some (.int .u8 (z0.getD i 0))) ∧ ∀ n ∈ z0, (Lit.int .u8 n).wf = true) (y0 : len0 * 1 ≤ 140737488351232) :
    Calls Try.prog 3 #[.slice a0 len0 cap0] w fun e w' => e = .returned (.bool true) ∧ Below w.heap.size w w' := by
  obtain ⟨l0, rfl, hr0, hm0, hw0, hc0⟩ := ReadsInt.ofRowC w0
  obtain ⟨k, h⟩ := P l0 hm0 y0 hw0
  refine (laws_FnCtl.calls k _ _ l0 true w (Kd.C_of_reads (d := (0 : Int)) (h1 := fun _ => rfl) hr0) hc0 h).mono ?_
  rintro e w' ⟨rfl, hd⟩
  exact ⟨rfl, hd⟩

end Go.Proofs.Ytllidkccikmgiaa.PFnCtl
