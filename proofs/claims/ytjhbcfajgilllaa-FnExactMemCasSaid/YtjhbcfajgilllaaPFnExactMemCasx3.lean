-- Written by this session's program (wip/bin/myprint.sh) by means of the kit's print.py; Lean checks it.
import Derived.Test.YtjhbcfajgilllaaPFnExactMemCasx0
import Derived.Test.YtjhbcfajgilllaaPFnExactMemCasx1
import Derived.Test.YtjhbcfajgilllaaPFnExactMemCasx2
namespace Go.Proofs.Ytjhbcfajgilllaa.PFnExactMemCas
open Go.RowKit Go.Proofs.YtjhbcfajgilllaaW.PrintWords Go.Proofs.YtjhbcfajgilllaaW.PrintLast Go.Proofs.YtjhbcfajgilllaaW.PrintMore
attribute [local go_sem] max2_int min2_int max_two min_two max_three min_three max_four min_four   -- for this text's walks alone
set_option linter.unusedVariables false
set_option linter.unusedSimpArgs false

/-! ### laws_FnExactMemCas: function 11 -/
mutual
def laws_FnExactMemCas.j0 : Nat → Int → Int → Int → Bool → Bool → Bool → Bool → Bool → List Int → List Int → List Int → List Int → Option (Bool)
  | 0, _, _, _, _, _, _, _, _, _, _, _, _ => none
  | k + 1, x1, x2, x3, x11, x12, x15, x16, x62, x183000, x193000, x197000, x203000 => if x62 = true then (some false) else ((laws_toMem.f k x183000).bind fun t204 => ((laws_eqMem.f k x197000 t204).bind fun t207 => (if t207 = true then ((laws_markMem.f k x197000 1).bind fun bt208 => (if bt208.1 < 0 then (laws_FnExactMemCas.j1 k x1 x2 x3 x11 x12 true x183000 x193000 x203000) else ((laws_eqMem.f k x203000 x193000).bind fun t210 => (if t210 = true then (if (x15 != x11) = true then (laws_FnExactMemCas.j1 k x1 x2 x3 x11 x12 true x183000 x193000 x203000) else (laws_FnExactMemCas.j1 k x1 x2 x3 x11 x12 (x16 != x12) x183000 x193000 x203000)) else (laws_FnExactMemCas.j1 k x1 x2 x3 x11 x12 true x183000 x193000 x203000))))) else (some false))))
def laws_FnExactMemCas.j1 : Nat → Int → Int → Int → Bool → Bool → Bool → List Int → List Int → List Int → Option (Bool)
  | 0, _, _, _, _, _, _, _, _, _ => none
  | k + 1, x1, x2, x3, x11, x12, x88, x183000, x193000, x203000 => if x88 = true then (some false) else ((laws_markMem.f k x203000 1).bind fun bt211 => ((laws_heldMem.f k bt211.2 1).bind fun t213 => (if t213 < 0 then (some false) else (if t213 = bt211.1 then ((laws_toMem.f k x183000).bind fun t214 => ((impl_MemCas.f t214 x1 x2 x3).bind fun bt217 => ((laws_eqMem.f k bt217.1 x193000).bind fun t223 => (if t223 = true then (if (bt217.2.1 != x11) = true then (laws_FnExactMemCas.j2 k bt211.1 true bt211.2) else (laws_FnExactMemCas.j2 k bt211.1 (bt217.2.2 != x12) bt211.2)) else (laws_FnExactMemCas.j2 k bt211.1 true bt211.2))))) else (some false)))))
def laws_FnExactMemCas.j2 : Nat → Int → Bool → List Int → Option (Bool)
  | 0, _, _, _ => none
  | k + 1, x18, x123, x203000 => if x123 = true then (some false) else ((laws_heldMem.f k x203000 1).bind fun t224 => (if t224 < 0 then (some false) else (if t224 = x18 then (some true) else (some false))))
end
def laws_FnExactMemCas.f (k : Nat) (l0_0 : List Int) (a1 : Int) (a2 : Int) (a3 : Int) : Option (Bool) := (laws_szMem.f l0_0 1048576).bind fun t183 => (if t183 < 0 then (some true) else ((laws_toMem.f k l0_0).bind fun t184 => ((spec_MemCas.f t184 a1 a2 a3).bind fun bt187 => ((laws_toMem.f k l0_0).bind fun t193 => ((impl_MemCas.f t193 a1 a2 a3).bind fun bt197 => ((laws_eqMem.f k bt197.1 bt187.1).bind fun t203 => (if t203 = true then (if (bt197.2.1 != bt187.2.1) = true then (laws_FnExactMemCas.j0 k a1 a2 a3 bt187.2.1 bt187.2.2 bt197.2.1 bt197.2.2 true l0_0 bt187.1 t193 bt197.1) else (laws_FnExactMemCas.j0 k a1 a2 a3 bt187.2.1 bt187.2.2 bt197.2.1 bt197.2.2 (bt197.2.2 != bt187.2.2) l0_0 bt187.1 t193 bt197.1)) else (laws_FnExactMemCas.j0 k a1 a2 a3 bt187.2.1 bt187.2.2 bt197.2.1 bt197.2.2 true l0_0 bt187.1 t193 bt197.1))))))))
theorem laws_FnExactMemCas.mono_l : ∀ k, (∀ y0 y1 y2 y3 y4 y5 y6 y7 y8 y9 y10 y11, LeO (laws_FnExactMemCas.j0 k y0 y1 y2 y3 y4 y5 y6 y7 y8 y9 y10 y11) (laws_FnExactMemCas.j0 (k + 1) y0 y1 y2 y3 y4 y5 y6 y7 y8 y9 y10 y11)) ∧ (∀ y0 y1 y2 y3 y4 y5 y6 y7 y8, LeO (laws_FnExactMemCas.j1 k y0 y1 y2 y3 y4 y5 y6 y7 y8) (laws_FnExactMemCas.j1 (k + 1) y0 y1 y2 y3 y4 y5 y6 y7 y8)) ∧ (∀ y0 y1 y2, LeO (laws_FnExactMemCas.j2 k y0 y1 y2) (laws_FnExactMemCas.j2 (k + 1) y0 y1 y2))
  | 0 => ⟨fun _ _ _ _ _ _ _ _ _ _ _ _ r h => by simp [laws_FnExactMemCas.j0] at h, fun _ _ _ _ _ _ _ _ _ r h => by simp [laws_FnExactMemCas.j1] at h, fun _ _ _ r h => by simp [laws_FnExactMemCas.j2] at h⟩
  | k + 1 => by
    obtain ⟨ih0, ih1, ih2⟩ := laws_FnExactMemCas.mono_l k
    refine ⟨?_, ?_, ?_⟩
    · intro y0 y1 y2 y3 y4 y5 y6 y7 y8 y9 y10 y11
      unfold laws_FnExactMemCas.j0
      repeat' first
      | (with_reducible exact ih0 _ _ _ _ _ _ _ _ _ _ _ _)
      | (with_reducible exact ih1 _ _ _ _ _ _ _ _ _)
      | (with_reducible exact ih2 _ _ _)
      | (with_reducible exact laws_eqMem.mono _ _ _)
      | (with_reducible exact laws_heldMem.mono _ _ _)
      | (with_reducible exact laws_markMem.mono _ _ _)
      | (with_reducible exact laws_toMem.mono _ _)
      | (with_reducible exact LeO.refl _)
      | (with_reducible exact LeO.none _)
      | (with_reducible refine LeO.ite ?_ ?_)
      | (with_reducible refine LeO.bind ?_ (fun _ => ?_))
      | exact ih0 _ _ _ _ _ _ _ _ _ _ _ _
      | exact ih1 _ _ _ _ _ _ _ _ _
      | exact ih2 _ _ _
      | exact laws_eqMem.mono _ _ _
      | exact laws_heldMem.mono _ _ _
      | exact laws_markMem.mono _ _ _
      | exact laws_toMem.mono _ _
      | exact LeO.none _
      | refine LeO.ite ?_ ?_
      | refine LeO.bind ?_ (fun _ => ?_)
    · intro y0 y1 y2 y3 y4 y5 y6 y7 y8
      unfold laws_FnExactMemCas.j1
      repeat' first
      | (with_reducible exact ih0 _ _ _ _ _ _ _ _ _ _ _ _)
      | (with_reducible exact ih1 _ _ _ _ _ _ _ _ _)
      | (with_reducible exact ih2 _ _ _)
      | (with_reducible exact laws_eqMem.mono _ _ _)
      | (with_reducible exact laws_heldMem.mono _ _ _)
      | (with_reducible exact laws_markMem.mono _ _ _)
      | (with_reducible exact laws_toMem.mono _ _)
      | (with_reducible exact LeO.refl _)
      | (with_reducible exact LeO.none _)
      | (with_reducible refine LeO.ite ?_ ?_)
      | (with_reducible refine LeO.bind ?_ (fun _ => ?_))
      | exact ih0 _ _ _ _ _ _ _ _ _ _ _ _
      | exact ih1 _ _ _ _ _ _ _ _ _
      | exact ih2 _ _ _
      | exact laws_eqMem.mono _ _ _
      | exact laws_heldMem.mono _ _ _
      | exact laws_markMem.mono _ _ _
      | exact laws_toMem.mono _ _
      | exact LeO.none _
      | refine LeO.ite ?_ ?_
      | refine LeO.bind ?_ (fun _ => ?_)
    · intro y0 y1 y2
      unfold laws_FnExactMemCas.j2
      repeat' first
      | (with_reducible exact ih0 _ _ _ _ _ _ _ _ _ _ _ _)
      | (with_reducible exact ih1 _ _ _ _ _ _ _ _ _)
      | (with_reducible exact ih2 _ _ _)
      | (with_reducible exact laws_eqMem.mono _ _ _)
      | (with_reducible exact laws_heldMem.mono _ _ _)
      | (with_reducible exact laws_markMem.mono _ _ _)
      | (with_reducible exact laws_toMem.mono _ _)
      | (with_reducible exact LeO.refl _)
      | (with_reducible exact LeO.none _)
      | (with_reducible refine LeO.ite ?_ ?_)
      | (with_reducible refine LeO.bind ?_ (fun _ => ?_))
      | exact ih0 _ _ _ _ _ _ _ _ _ _ _ _
      | exact ih1 _ _ _ _ _ _ _ _ _
      | exact ih2 _ _ _
      | exact laws_eqMem.mono _ _ _
      | exact laws_heldMem.mono _ _ _
      | exact laws_markMem.mono _ _ _
      | exact laws_toMem.mono _ _
      | exact LeO.none _
      | refine LeO.ite ?_ ?_
      | refine LeO.bind ?_ (fun _ => ?_)
theorem laws_FnExactMemCas.mono : ∀ a0 a1 a2 a3 k, LeO (laws_FnExactMemCas.f k a0 a1 a2 a3) (laws_FnExactMemCas.f (k + 1) a0 a1 a2 a3) := by
  intro a0 a1 a2 a3 k
  obtain ⟨ih0, ih1, ih2⟩ := laws_FnExactMemCas.mono_l k
  unfold laws_FnExactMemCas.f
  repeat' first
      | (with_reducible exact ih0 _ _ _ _ _ _ _ _ _ _ _ _)
      | (with_reducible exact ih1 _ _ _ _ _ _ _ _ _)
      | (with_reducible exact ih2 _ _ _)
      | (with_reducible exact laws_eqMem.mono _ _ _)
      | (with_reducible exact laws_heldMem.mono _ _ _)
      | (with_reducible exact laws_markMem.mono _ _ _)
      | (with_reducible exact laws_toMem.mono _ _)
      | (with_reducible exact LeO.refl _)
      | (with_reducible exact LeO.none _)
      | (with_reducible refine LeO.ite ?_ ?_)
      | (with_reducible refine LeO.bind ?_ (fun _ => ?_))
      | exact ih0 _ _ _ _ _ _ _ _ _ _ _ _
      | exact ih1 _ _ _ _ _ _ _ _ _
      | exact ih2 _ _ _
      | exact laws_eqMem.mono _ _ _
      | exact laws_heldMem.mono _ _ _
      | exact laws_markMem.mono _ _ _
      | exact laws_toMem.mono _ _
      | exact LeO.none _
      | refine LeO.ite ?_ ?_
      | refine LeO.bind ?_ (fun _ => ?_)
set_option maxHeartbeats 8000000 in
set_option maxRecDepth 100000 in
theorem laws_FnExactMemCas.calls (k : Nat) (A0_0 : Option Addr) (c0_0 : Nat) (l0_0 : List Int) (a1 : Int) (a2 : Int) (a3 : Int) (r : Bool) (w : World) (hr0_0 : Kd.C (Kd.int .u32) w A0_0 l0_0.length l0_0) (hc0_0 : l0_0.length ≤ c0_0) (h : laws_FnExactMemCas.f k l0_0 a1 a2 a3 = some r) :
    Calls Try.prog 11 #[.agg #[.slice A0_0 l0_0.length c0_0], .int .i64 a1, .int .u32 a2, .int .u32 a3] w fun e w' => e = .returned (.bool r) ∧ Below w.heap.size w w' := by
  have hu42 := Try.underlying42
  have hu44 := Try.underlying44
  have HR0_0 := Aside0.mk hr0_0
  have HC0_0 := Aside0.mk hc0_0
  clear hr0_0 hc0_0
  have HB := Aside0.mk (Below.refl w.heap.size w)
  have H : ((laws_szMem.f l0_0 1048576).bind fun t183 => (if t183 < 0 then (some true) else ((laws_toMem.f k l0_0).bind fun t184 => ((spec_MemCas.f t184 a1 a2 a3).bind fun bt187 => ((laws_toMem.f k l0_0).bind fun t193 => ((impl_MemCas.f t193 a1 a2 a3).bind fun bt197 => ((laws_eqMem.f k bt197.1 bt187.1).bind fun t203 => (if t203 = true then (if (bt197.2.1 != bt187.2.1) = true then (laws_FnExactMemCas.j0 k a1 a2 a3 bt187.2.1 bt187.2.2 bt197.2.1 bt197.2.2 true l0_0 bt187.1 t193 bt197.1) else (laws_FnExactMemCas.j0 k a1 a2 a3 bt187.2.1 bt187.2.2 bt197.2.1 bt197.2.2 (bt197.2.2 != bt187.2.2) l0_0 bt187.1 t193 bt197.1)) else (laws_FnExactMemCas.j0 k a1 a2 a3 bt187.2.1 bt187.2.2 bt197.2.1 bt197.2.2 true l0_0 bt187.1 t193 bt197.1))))))))) = some r := h
  clear h
  replace H := Option.bind_eq_some_iff.mp H
  obtain ⟨t183, A50, H⟩ := H
  replace H : (if t183 < 0 then (some true) else ((laws_toMem.f k l0_0).bind fun t184 => ((spec_MemCas.f t184 a1 a2 a3).bind fun bt187 => ((laws_toMem.f k l0_0).bind fun t193 => ((impl_MemCas.f t193 a1 a2 a3).bind fun bt197 => ((laws_eqMem.f k bt197.1 bt187.1).bind fun t203 => (if t203 = true then (if (bt197.2.1 != bt187.2.1) = true then (laws_FnExactMemCas.j0 k a1 a2 a3 bt187.2.1 bt187.2.2 bt197.2.1 bt197.2.2 true l0_0 bt187.1 t193 bt197.1) else (laws_FnExactMemCas.j0 k a1 a2 a3 bt187.2.1 bt187.2.2 bt197.2.1 bt197.2.2 (bt197.2.2 != bt187.2.2) l0_0 bt187.1 t193 bt197.1)) else (laws_FnExactMemCas.j0 k a1 a2 a3 bt187.2.1 bt187.2.2 bt197.2.1 bt197.2.2 true l0_0 bt187.1 t193 bt197.1)))))))) = some r := H
  have A5 := Aside0.mk A50
  clear A50
  by_cases c6 : t183 < 0
  · rw [if_pos c6] at H
    have c6b0 : decide (t183 < 0) = true := decide_eq_true c6
    clear c6
    obtain rfl := Option.some.inj H
    go_enter Try.func11, Try.ntmps11
    go_wp2_with (first | ((with_reducible refine gate_dst (N := 4) rfl ?_); refine box_event ?hg (N := 4) ?hd (cs := #[.slice A0_0 l0_0.length c0_0]) (t := 42) ?hr ?_; (case hd => rfl); (case hg => rfl); (case hr => first | (go_simp; done) | (go_simp; rfl)); intro gb182 hg w7 hbox hb; have n0_ := Aside0.mk (below_step (by repeat (first | (with_reducible first | exact HB.out | apply below_alloc | apply pw_below_drewN | apply below_drew1) | exact HB.out)) hb); have n1_ := Aside0.mk (hbox); have n2_ := Aside0.mk ((by rw [hg]; exact (below_size (by repeat (first | (with_reducible first | exact HB.out | apply below_alloc | apply pw_below_drewN | apply below_drew1) | exact HB.out))) : w.heap.size ≤ gb182)); have n3_ := Aside0.mk ((by rw [hg]; exact (below_size (by repeat (first | (with_reducible first | exact HB.out | apply below_alloc | apply pw_below_drewN | apply below_drew1) | exact HB.out))) : w.heap.size ≤ gb182)); clear HB; have HB := n0_; have BK182 := n1_; have GW182 := n2_; have GE182 := n3_; clear n0_ n1_ n2_ n3_; clear hb hbox hg; have hcz8_0 : w7.cell? ⟨gb182, 0, none⟩ = some (.slice A0_0 l0_0.length c0_0) := (blk_cell BK182.out 0).trans rfl; have hfz8_0 := blk_frozen BK182.out 0) | ((with_reducible refine gate_callee (f := 26) rfl ?_); refine goesL_ (some 25) rfl rfl Try.func26 (by kernel_rfl) rfl #[.agg #[.slice A0_0 l0_0.length c0_0], .int .i64 1048576] rfl (by (try simp only [List.map_toArray, List.map_cons, List.map_nil]); first | done | rfl | (simp only [List.length_drop, List.length_take]; rfl)) ?_; (with_reducible refine (laws_szMem.calls _ _ l0_0 1048576 t183 _ ?side1 ?side2 A5.out).mono ?_); (case side1 => repeat (first | exact (Kd.C_below HR0_0.out HB.out) | (with_reducible refine Kd.C_alloc ?_ _) | (with_reducible refine Kd.C_drewN ?_ _) | (with_reducible refine Kd.C_drew ?_))); (case side2 => exact HC0_0.out); rintro e w9 ⟨rfl, hb⟩; refine ⟨_, rfl, ?_⟩; have n0_ := Aside0.mk (blk_below (g := gb182) (o := .cells #[.slice A0_0 l0_0.length c0_0] 42 (0, 0)) (by (with_reducible repeat (first | refine blk_drewN ?_ _ | refine blk_drew ?_ | refine blk_alloc ?_ _)); exact BK182.out) hb); have n1_ := Aside0.mk (below_step (by repeat (first | (with_reducible first | exact HB.out | apply below_alloc | apply pw_below_drewN | apply below_drew1 | refine below_set ?_ GE182.out) | exact HB.out)) hb); clear BK182; clear HB; have BK182 := n0_; have HB := n1_; clear n0_ n1_; (try clear hb); (try clear hb2); (try clear hk); (try clear hi)))
    go_ret
    exact ⟨by first | rfl | (simp [errW_none, errW_some] <;> rfl) | (simp [*, errW_none, errW_some] <;> rfl), by repeat (first | (with_reducible first | exact HB.out | apply below_alloc | apply pw_below_drewN | apply below_drew1 | refine below_set ?_ GE182.out) | exact HB.out)⟩
  · rw [if_neg c6] at H
    have c6b0 : decide (t183 < 0) = false := decide_eq_false c6
    clear c6
    replace H := Option.bind_eq_some_iff.mp H
    obtain ⟨t184, A100, H⟩ := H
    replace H : ((spec_MemCas.f t184 a1 a2 a3).bind fun bt187 => ((laws_toMem.f k l0_0).bind fun t193 => ((impl_MemCas.f t193 a1 a2 a3).bind fun bt197 => ((laws_eqMem.f k bt197.1 bt187.1).bind fun t203 => (if t203 = true then (if (bt197.2.1 != bt187.2.1) = true then (laws_FnExactMemCas.j0 k a1 a2 a3 bt187.2.1 bt187.2.2 bt197.2.1 bt197.2.2 true l0_0 bt187.1 t193 bt197.1) else (laws_FnExactMemCas.j0 k a1 a2 a3 bt187.2.1 bt187.2.2 bt197.2.1 bt197.2.2 (bt197.2.2 != bt187.2.2) l0_0 bt187.1 t193 bt197.1)) else (laws_FnExactMemCas.j0 k a1 a2 a3 bt187.2.1 bt187.2.2 bt197.2.1 bt197.2.2 true l0_0 bt187.1 t193 bt197.1)))))) = some r := H
    have A10 := Aside0.mk A100
    clear A100
    replace H := Option.bind_eq_some_iff.mp H
    obtain ⟨⟨t187, t190, t191⟩, A110, H⟩ := H
    replace H : ((laws_toMem.f k l0_0).bind fun t193 => ((impl_MemCas.f t193 a1 a2 a3).bind fun bt197 => ((laws_eqMem.f k bt197.1 t187).bind fun t203 => (if t203 = true then (if (bt197.2.1 != t190) = true then (laws_FnExactMemCas.j0 k a1 a2 a3 t190 t191 bt197.2.1 bt197.2.2 true l0_0 t187 t193 bt197.1) else (laws_FnExactMemCas.j0 k a1 a2 a3 t190 t191 bt197.2.1 bt197.2.2 (bt197.2.2 != t191) l0_0 t187 t193 bt197.1)) else (laws_FnExactMemCas.j0 k a1 a2 a3 t190 t191 bt197.2.1 bt197.2.2 true l0_0 t187 t193 bt197.1))))) = some r := H
    have A11 := Aside0.mk A110
    clear A110
    replace H := Option.bind_eq_some_iff.mp H
    obtain ⟨t193, A120, H⟩ := H
    replace H : ((impl_MemCas.f t193 a1 a2 a3).bind fun bt197 => ((laws_eqMem.f k bt197.1 t187).bind fun t203 => (if t203 = true then (if (bt197.2.1 != t190) = true then (laws_FnExactMemCas.j0 k a1 a2 a3 t190 t191 bt197.2.1 bt197.2.2 true l0_0 t187 t193 bt197.1) else (laws_FnExactMemCas.j0 k a1 a2 a3 t190 t191 bt197.2.1 bt197.2.2 (bt197.2.2 != t191) l0_0 t187 t193 bt197.1)) else (laws_FnExactMemCas.j0 k a1 a2 a3 t190 t191 bt197.2.1 bt197.2.2 true l0_0 t187 t193 bt197.1)))) = some r := H
    have A12 := Aside0.mk A120
    clear A120
    replace H := Option.bind_eq_some_iff.mp H
    obtain ⟨⟨t197, t200, t201⟩, A130, H⟩ := H
    replace H : ((laws_eqMem.f k t197 t187).bind fun t203 => (if t203 = true then (if (t200 != t190) = true then (laws_FnExactMemCas.j0 k a1 a2 a3 t190 t191 t200 t201 true l0_0 t187 t193 t197) else (laws_FnExactMemCas.j0 k a1 a2 a3 t190 t191 t200 t201 (t201 != t191) l0_0 t187 t193 t197)) else (laws_FnExactMemCas.j0 k a1 a2 a3 t190 t191 t200 t201 true l0_0 t187 t193 t197))) = some r := H
    have A13 := Aside0.mk A130
    clear A130
    have HC14 := Aside0.mk H
    clear H
    go_enter Try.func11, Try.ntmps11
    go_upto_region 8 with (first | ((with_reducible refine gate_dst (N := 4) rfl ?_); refine box_event ?hg (N := 4) ?hd (cs := #[.slice A0_0 l0_0.length c0_0]) (t := 42) ?hr ?_; (case hd => rfl); (case hg => rfl); (case hr => first | (go_simp; done) | (go_simp; rfl)); intro gb182 hg w15 hbox hb; have n0_ := Aside0.mk (below_step (by repeat (first | (with_reducible first | exact HB.out | apply below_alloc | apply pw_below_drewN | apply below_drew1) | exact HB.out)) hb); have n1_ := Aside0.mk (hbox); have n2_ := Aside0.mk ((by rw [hg]; exact (below_size (by repeat (first | (with_reducible first | exact HB.out | apply below_alloc | apply pw_below_drewN | apply below_drew1) | exact HB.out))) : w.heap.size ≤ gb182)); have n3_ := Aside0.mk ((by rw [hg]; exact (below_size (by repeat (first | (with_reducible first | exact HB.out | apply below_alloc | apply pw_below_drewN | apply below_drew1) | exact HB.out))) : w.heap.size ≤ gb182)); clear HB; have HB := n0_; have BK182 := n1_; have GW182 := n2_; have GE182 := n3_; clear n0_ n1_ n2_ n3_; clear hb hbox hg; have hcz16_0 : w15.cell? ⟨gb182, 0, none⟩ = some (.slice A0_0 l0_0.length c0_0) := (blk_cell BK182.out 0).trans rfl; have hfz16_0 := blk_frozen BK182.out 0) | ((with_reducible refine gate_callee (f := 26) rfl ?_); refine goesL_ (some 25) rfl rfl Try.func26 (by kernel_rfl) rfl #[.agg #[.slice A0_0 l0_0.length c0_0], .int .i64 1048576] rfl (by (try simp only [List.map_toArray, List.map_cons, List.map_nil]); first | done | rfl | (simp only [List.length_drop, List.length_take]; rfl)) ?_; (with_reducible refine (laws_szMem.calls _ _ l0_0 1048576 t183 _ ?side1 ?side2 A5.out).mono ?_); (case side1 => repeat (first | exact (Kd.C_below HR0_0.out HB.out) | (with_reducible refine Kd.C_alloc ?_ _) | (with_reducible refine Kd.C_drewN ?_ _) | (with_reducible refine Kd.C_drew ?_))); (case side2 => exact HC0_0.out); rintro e w17 ⟨rfl, hb⟩; refine ⟨_, rfl, ?_⟩; have n0_ := Aside0.mk (blk_below (g := gb182) (o := .cells #[.slice A0_0 l0_0.length c0_0] 42 (0, 0)) (by (with_reducible repeat (first | refine blk_drewN ?_ _ | refine blk_drew ?_ | refine blk_alloc ?_ _)); exact BK182.out) hb); have n1_ := Aside0.mk (below_step (by repeat (first | (with_reducible first | exact HB.out | apply below_alloc | apply pw_below_drewN | apply below_drew1 | refine below_set ?_ GE182.out) | exact HB.out)) hb); clear BK182; clear HB; have BK182 := n0_; have HB := n1_; clear n0_ n1_; (try clear hb); (try clear hb2); (try clear hk); (try clear hi); have hcz18_0 : w17.cell? ⟨gb182, 0, none⟩ = some (.slice A0_0 l0_0.length c0_0) := (blk_cell BK182.out 0).trans rfl; have hfz18_0 := blk_frozen BK182.out 0) | ((with_reducible refine gate_callee (f := 28) rfl ?_); refine goesL_ (some 30) rfl rfl Try.func28 (by kernel_rfl) rfl #[.agg #[.slice A0_0 l0_0.length c0_0]] rfl (by (try simp only [List.map_toArray, List.map_cons, List.map_nil]); first | done | rfl | (simp only [List.length_drop, List.length_take]; rfl)) ?_; (with_reducible refine (laws_toMem.calls k _ _ l0_0 t184 _ ?side1 ?side2 A10.out).mono ?_); (case side1 => repeat (first | exact (Kd.C_below HR0_0.out HB.out) | (with_reducible refine Kd.C_alloc ?_ _) | (with_reducible refine Kd.C_drewN ?_ _) | (with_reducible refine Kd.C_drew ?_))); (case side2 => exact HC0_0.out); rintro e w19 ⟨v185, rfl, ho0, hb⟩; refine ⟨_, rfl, ?_⟩; have n0_ := Aside0.mk (Kd.R_lower ho0 (below_size (by repeat (first | (with_reducible first | exact HB.out | apply below_alloc | apply pw_below_drewN | apply below_drew1 | refine below_set ?_ GE182.out) | exact HB.out)))); have n1_ := Aside0.mk (blk_below (g := gb182) (o := .cells #[.slice A0_0 l0_0.length c0_0] 42 (0, 0)) (by (with_reducible repeat (first | refine blk_drewN ?_ _ | refine blk_drew ?_ | refine blk_alloc ?_ _)); exact BK182.out) hb); have n2_ := Aside0.mk (below_step (by repeat (first | (with_reducible first | exact HB.out | apply below_alloc | apply pw_below_drewN | apply below_drew1 | refine below_set ?_ GE182.out) | exact HB.out)) hb); clear BK182; clear HB; have HO186 := n0_; have BK182 := n1_; have HB := n2_; clear n0_ n1_ n2_; (try clear hb); (try clear hb2); (try clear hk); (try clear hi); (try clear ho0); obtain ⟨Ao20, co20, eo20⟩ := Kd.R_slice HO186.out; subst eo20) | ((with_reducible refine gate_callee (f := 41) rfl ?_); refine goesL_ (some 34) rfl rfl Try.func41 (by kernel_rfl) rfl #[.agg #[.slice Ao20 t184.length co20], .int .i64 a1, .int .u32 a2, .int .u32 a3] rfl (by (try simp only [List.map_toArray, List.map_cons, List.map_nil]); first | done | rfl | (simp only [List.length_drop, List.length_take]; rfl)) ?_; (with_reducible refine (spec_MemCas.calls _ _ t184 a1 a2 a3 t187 t190 t191 _ ?side1 ?side2 A11.out).mono ?_); (case side1 => repeat (first | exact (Kd.R_reads' HO186.out).2.2 | (with_reducible refine Kd.C_alloc ?_ _) | (with_reducible refine Kd.C_drewN ?_ _) | (with_reducible refine Kd.C_drew ?_))); (case side2 => exact (Kd.R_reads' HO186.out).2.1); rintro e w21 ⟨v188, rfl, ho0, hb⟩; refine ⟨_, rfl, ?_⟩; have n0_ := Aside0.mk (Kd.R_elder' (by (with_reducible repeat (first | apply Kd.R_alloc | apply Kd.R_drewN | apply Kd.R_drew)); exact HO186.out) (Kd.R_base ho0) hb); have n1_ := Aside0.mk (Kd.R_lower (Kd.R_new' ho0 (Kd.R_lt (by (with_reducible repeat (first | apply Kd.R_alloc | apply Kd.R_drewN | apply Kd.R_drew)); exact HO186.out))) (below_size (by repeat (first | (with_reducible first | exact HB.out | apply below_alloc | apply pw_below_drewN | apply below_drew1 | refine below_set ?_ GE182.out) | exact HB.out)))); have n2_ := Aside0.mk (blk_below (g := gb182) (o := .cells #[.slice A0_0 l0_0.length c0_0] 42 (0, 0)) (by (with_reducible repeat (first | refine blk_drewN ?_ _ | refine blk_drew ?_ | refine blk_alloc ?_ _)); exact BK182.out) hb); have n3_ := Aside0.mk (below_step (by repeat (first | (with_reducible first | exact HB.out | apply below_alloc | apply pw_below_drewN | apply below_drew1 | refine below_set ?_ GE182.out) | exact HB.out)) hb); clear HO186; clear BK182; clear HB; have HO186 := n0_; have HO189 := n1_; have BK182 := n2_; have HB := n3_; clear n0_ n1_ n2_ n3_; (try clear hb); (try clear hb2); (try clear hk); (try clear hi); (try clear ho0)) | ((with_reducible refine gate_dst (N := 10) rfl ?_); refine box_event ?hg (N := 10) ?hd (cs := #[.slice none 0 0]) (t := 44) ?hr ?_; (case hd => rfl); (case hg => rfl); (case hr => first | (go_simp; done) | (go_simp; rfl)); intro gb192 hg w22 hbox hb; have n0_ := Aside0.mk (Kd.R_below (by (with_reducible repeat (first | apply Kd.R_alloc | apply Kd.R_drewN | apply Kd.R_drew)); exact HO186.out) hb); have n1_ := Aside0.mk (Kd.R_below (by (with_reducible repeat (first | apply Kd.R_alloc | apply Kd.R_drewN | apply Kd.R_drew)); exact HO189.out) hb); have n2_ := Aside0.mk (blk_below (g := gb182) (o := .cells #[.slice A0_0 l0_0.length c0_0] 42 (0, 0)) (by (with_reducible repeat (first | refine blk_drewN ?_ _ | refine blk_drew ?_ | refine blk_alloc ?_ _)); exact BK182.out) hb); have n3_ := Aside0.mk (below_step (by repeat (first | (with_reducible first | exact HB.out | apply below_alloc | apply pw_below_drewN | apply below_drew1 | refine below_set ?_ GE182.out) | exact HB.out)) hb); have n4_ := Aside0.mk (hbox); have n5_ := Aside0.mk ((by rw [hg]; exact (below_size (by repeat (first | (with_reducible first | exact HB.out | apply below_alloc | apply pw_below_drewN | apply below_drew1 | refine below_set ?_ GE182.out) | exact HB.out))) : w.heap.size ≤ gb192)); have n6_ := Aside0.mk ((by rw [hg]; exact (below_size (by repeat (first | (with_reducible first | exact HB.out | apply below_alloc | apply pw_below_drewN | apply below_drew1 | refine below_set ?_ GE182.out) | exact HB.out))) : w.heap.size ≤ gb192)); have n7_ := Aside0.mk ((by rw [hg]; exact Nat.ne_of_lt (blk_lt (g := gb182) (o := .cells #[.slice A0_0 l0_0.length c0_0] 42 (0, 0)) (by (with_reducible repeat (first | refine blk_drewN ?_ _ | refine blk_drew ?_ | refine blk_alloc ?_ _)); exact BK182.out)) : gb182 ≠ gb192)); have n8_ := Aside0.mk ((by rw [hg]; exact Nat.ne_of_gt (blk_lt (g := gb182) (o := .cells #[.slice A0_0 l0_0.length c0_0] 42 (0, 0)) (by (with_reducible repeat (first | refine blk_drewN ?_ _ | refine blk_drew ?_ | refine blk_alloc ?_ _)); exact BK182.out)) : gb192 ≠ gb182)); clear HO186; clear HO189; clear BK182; clear HB; have HO186 := n0_; have HO189 := n1_; have BK182 := n2_; have HB := n3_; have BK192 := n4_; have GW192 := n5_; have GE192 := n6_; have NB182_192 := n7_; have NB192_182 := n8_; clear n0_ n1_ n2_ n3_ n4_ n5_ n6_ n7_ n8_; clear hb hbox hg; obtain ⟨Ao23, co23, eo23⟩ := Kd.R_slice HO189.out; subst eo23; have hnb24 := NB192_182.out; have hnc24 := NB182_192.out; have hcz25_0 : w22.cell? ⟨gb192, 0, none⟩ = some (.slice none 0 0) := (blk_cell BK192.out 0).trans rfl; have hfz25_0 := blk_frozen BK192.out 0; have hcz26_0 : w22.cell? ⟨gb182, 0, none⟩ = some (.slice A0_0 l0_0.length c0_0) := (blk_cell BK182.out 0).trans rfl; have hfz26_0 := blk_frozen BK182.out 0) | ((with_reducible refine gate_callee (f := 28) rfl ?_); refine goesL_ (some 39) rfl rfl Try.func28 (by kernel_rfl) rfl #[.agg #[.slice A0_0 l0_0.length c0_0]] rfl (by (try simp only [List.map_toArray, List.map_cons, List.map_nil]); first | done | rfl | (simp only [List.length_drop, List.length_take]; rfl)) ?_; (with_reducible refine (laws_toMem.calls k _ _ l0_0 t193 _ ?side1 ?side2 A12.out).mono ?_); (case side1 => exact Kd.C_below HR0_0.out (by repeat (first | (with_reducible first | exact HB.out | apply below_alloc | apply pw_below_drewN | apply below_drew1 | refine below_set ?_ GE182.out | refine below_set ?_ GE192.out) | exact HB.out))); (case side2 => exact HC0_0.out); rintro e w27 ⟨v194, rfl, ho0, hb⟩; refine ⟨_, rfl, ?_⟩; have n0_ := Aside0.mk (Kd.R_elder' (by (with_reducible repeat (first | apply Kd.R_alloc | apply Kd.R_drewN | apply Kd.R_drew)); exact (Kd.R_mono (Kd.R_far (p := ⟨gb192, 0, none⟩) (Kd.R_types HO186.out BK192.out (by decide)) (fun _ hk => hk.2) (.slice Ao23 t187.length co23)) (fun _ h_ => h_.1))) (Kd.R_base ho0) hb); have n1_ := Aside0.mk (Kd.R_elder' (by (with_reducible repeat (first | apply Kd.R_alloc | apply Kd.R_drewN | apply Kd.R_drew)); exact (Kd.R_mono (Kd.R_far (p := ⟨gb192, 0, none⟩) (Kd.R_types HO189.out BK192.out (by decide)) (fun _ hk => hk.2) (.slice Ao23 t187.length co23)) (fun _ h_ => h_.1))) (Kd.R_base ho0) hb); have n2_ := Aside0.mk (Kd.R_lower (Kd.R_new' (Kd.R_new' ho0 (Kd.R_lt (by (with_reducible repeat (first | apply Kd.R_alloc | apply Kd.R_drewN | apply Kd.R_drew)); exact (Kd.R_mono (Kd.R_far (p := ⟨gb192, 0, none⟩) (Kd.R_types HO186.out BK192.out (by decide)) (fun _ hk => hk.2) (.slice Ao23 t187.length co23)) (fun _ h_ => h_.1))))) (Kd.R_lt (by (with_reducible repeat (first | apply Kd.R_alloc | apply Kd.R_drewN | apply Kd.R_drew)); exact (Kd.R_mono (Kd.R_far (p := ⟨gb192, 0, none⟩) (Kd.R_types HO189.out BK192.out (by decide)) (fun _ hk => hk.2) (.slice Ao23 t187.length co23)) (fun _ h_ => h_.1))))) (below_size (by repeat (first | (with_reducible first | exact HB.out | apply below_alloc | apply pw_below_drewN | apply below_drew1 | refine below_set ?_ GE182.out | refine below_set ?_ GE192.out) | exact HB.out)))); have n3_ := Aside0.mk (blk_below (g := gb182) (o := .cells #[.slice A0_0 l0_0.length c0_0] 42 (0, 0)) (by (with_reducible repeat (first | refine blk_drewN ?_ _ | refine blk_drew ?_ | refine blk_alloc ?_ _)); refine blk_far ?_ NB182_192.out _; (with_reducible repeat (first | refine blk_drewN ?_ _ | refine blk_drew ?_ | refine blk_alloc ?_ _)); exact BK182.out) hb); have n4_ := Aside0.mk (blk_below (g := gb192) (o := .cells #[.slice Ao23 t187.length co23] 44 (0, 0)) (by (with_reducible repeat (first | refine blk_drewN ?_ _ | refine blk_drew ?_ | refine blk_alloc ?_ _)); refine blk_put (cs := #[.slice none 0 0]) ?_ 0 _ rfl; (with_reducible repeat (first | refine blk_drewN ?_ _ | refine blk_drew ?_ | refine blk_alloc ?_ _)); exact BK192.out) hb); have n5_ := Aside0.mk (below_step (by repeat (first | (with_reducible first | exact HB.out | apply below_alloc | apply pw_below_drewN | apply below_drew1 | refine below_set ?_ GE182.out | refine below_set ?_ GE192.out) | exact HB.out)) hb); clear HO186; clear HO189; clear BK182; clear BK192; clear HB; have HO186 := n0_; have HO189 := n1_; have HO195 := n2_; have BK182 := n3_; have BK192 := n4_; have HB := n5_; clear n0_ n1_ n2_ n3_ n4_ n5_; (try clear hb); (try clear hb2); (try clear hk); (try clear hi); (try clear ho0)) | ((with_reducible refine gate_dst (N := 13) rfl ?_); refine box_event ?hg (N := 13) ?hd (cs := #[.slice none 0 0]) (t := 44) ?hr ?_; (case hd => rfl); (case hg => rfl); (case hr => first | (go_simp; done) | (go_simp; rfl)); intro gb196 hg w28 hbox hb; have n0_ := Aside0.mk (Kd.R_below (by (with_reducible repeat (first | apply Kd.R_alloc | apply Kd.R_drewN | apply Kd.R_drew)); exact HO186.out) hb); have n1_ := Aside0.mk (Kd.R_below (by (with_reducible repeat (first | apply Kd.R_alloc | apply Kd.R_drewN | apply Kd.R_drew)); exact HO189.out) hb); have n2_ := Aside0.mk (Kd.R_below (by (with_reducible repeat (first | apply Kd.R_alloc | apply Kd.R_drewN | apply Kd.R_drew)); exact HO195.out) hb); have n3_ := Aside0.mk (blk_below (g := gb182) (o := .cells #[.slice A0_0 l0_0.length c0_0] 42 (0, 0)) (by (with_reducible repeat (first | refine blk_drewN ?_ _ | refine blk_drew ?_ | refine blk_alloc ?_ _)); exact BK182.out) hb); have n4_ := Aside0.mk (blk_below (g := gb192) (o := .cells #[.slice Ao23 t187.length co23] 44 (0, 0)) (by (with_reducible repeat (first | refine blk_drewN ?_ _ | refine blk_drew ?_ | refine blk_alloc ?_ _)); exact BK192.out) hb); have n5_ := Aside0.mk (below_step (by repeat (first | (with_reducible first | exact HB.out | apply below_alloc | apply pw_below_drewN | apply below_drew1 | refine below_set ?_ GE182.out | refine below_set ?_ GE192.out) | exact HB.out)) hb); have n6_ := Aside0.mk (hbox); have n7_ := Aside0.mk ((by rw [hg]; exact (below_size (by repeat (first | (with_reducible first | exact HB.out | apply below_alloc | apply pw_below_drewN | apply below_drew1 | refine below_set ?_ GE182.out | refine below_set ?_ GE192.out) | exact HB.out))) : w.heap.size ≤ gb196)); have n8_ := Aside0.mk ((by rw [hg]; exact (below_size (by repeat (first | (with_reducible first | exact HB.out | apply below_alloc | apply pw_below_drewN | apply below_drew1 | refine below_set ?_ GE182.out | refine below_set ?_ GE192.out) | exact HB.out))) : w.heap.size ≤ gb196)); have n9_ := Aside0.mk ((by rw [hg]; exact Nat.ne_of_lt (blk_lt (g := gb182) (o := .cells #[.slice A0_0 l0_0.length c0_0] 42 (0, 0)) (by (with_reducible repeat (first | refine blk_drewN ?_ _ | refine blk_drew ?_ | refine blk_alloc ?_ _)); exact BK182.out)) : gb182 ≠ gb196)); have n10_ := Aside0.mk ((by rw [hg]; exact Nat.ne_of_gt (blk_lt (g := gb182) (o := .cells #[.slice A0_0 l0_0.length c0_0] 42 (0, 0)) (by (with_reducible repeat (first | refine blk_drewN ?_ _ | refine blk_drew ?_ | refine blk_alloc ?_ _)); exact BK182.out)) : gb196 ≠ gb182)); have n11_ := Aside0.mk ((by rw [hg]; exact Nat.ne_of_lt (blk_lt (g := gb192) (o := .cells #[.slice Ao23 t187.length co23] 44 (0, 0)) (by (with_reducible repeat (first | refine blk_drewN ?_ _ | refine blk_drew ?_ | refine blk_alloc ?_ _)); exact BK192.out)) : gb192 ≠ gb196)); have n12_ := Aside0.mk ((by rw [hg]; exact Nat.ne_of_gt (blk_lt (g := gb192) (o := .cells #[.slice Ao23 t187.length co23] 44 (0, 0)) (by (with_reducible repeat (first | refine blk_drewN ?_ _ | refine blk_drew ?_ | refine blk_alloc ?_ _)); exact BK192.out)) : gb196 ≠ gb192)); clear HO186; clear HO189; clear HO195; clear BK182; clear BK192; clear HB; have HO186 := n0_; have HO189 := n1_; have HO195 := n2_; have BK182 := n3_; have BK192 := n4_; have HB := n5_; have BK196 := n6_; have GW196 := n7_; have GE196 := n8_; have NB182_196 := n9_; have NB196_182 := n10_; have NB192_196 := n11_; have NB196_192 := n12_; clear n0_ n1_ n2_ n3_ n4_ n5_ n6_ n7_ n8_ n9_ n10_ n11_ n12_; clear hb hbox hg; obtain ⟨Ao29, co29, eo29⟩ := Kd.R_slice HO195.out; subst eo29; have hnb30 := NB196_182.out; have hnc30 := NB182_196.out; have hnb31 := NB196_192.out; have hnc31 := NB192_196.out; have hcz32_0 : w28.cell? ⟨gb196, 0, none⟩ = some (.slice none 0 0) := (blk_cell BK196.out 0).trans rfl; have hfz32_0 := blk_frozen BK196.out 0) | ((with_reducible refine gate_callee (f := 42) rfl ?_); refine goesL_ (some 45) rfl rfl Try.func42 (by kernel_rfl) rfl #[.agg #[.slice Ao29 t193.length co29], .int .i64 a1, .int .u32 a2, .int .u32 a3] rfl (by (try simp only [List.map_toArray, List.map_cons, List.map_nil]); first | done | rfl | (simp only [List.length_drop, List.length_take]; rfl)) ?_; (with_reducible refine (impl_MemCas.calls _ _ t193 a1 a2 a3 t197 t200 t201 _ ?side1 ?side2 A13.out).mono ?_); (case side1 => refine (Kd.R_reads' (e := 22) (base := w.heap.size) (ok := fun k_ => ((True ∧ some k_ ≠ (.slice Ao20 t184.length co20 : Value).ownBlock) ∧ some k_ ≠ (.slice Ao23 t187.length co23 : Value).ownBlock)) (n := t193.length) (c := co29) ?_).2.2; exact (by (with_reducible repeat (first | apply Kd.R_alloc | apply Kd.R_drewN | apply Kd.R_drew)); exact (Kd.R_mono (Kd.R_far (p := ⟨gb196, 0, none⟩) (Kd.R_types HO195.out BK196.out (by decide)) (fun _ hk => hk.2) (.slice Ao29 t193.length co29)) (fun _ h_ => h_.1)))); (case side2 => exact (Kd.R_reads' HO195.out).2.1); rintro e w33 ⟨v198, rfl, ho0, hb⟩; refine ⟨_, rfl, ?_⟩; have n0_ := Aside0.mk (Kd.R_elder' (by (with_reducible repeat (first | apply Kd.R_alloc | apply Kd.R_drewN | apply Kd.R_drew)); exact (Kd.R_mono (Kd.R_far (p := ⟨gb196, 0, none⟩) (Kd.R_types HO186.out BK196.out (by decide)) (fun _ hk => hk.2) (.slice Ao29 t193.length co29)) (fun _ h_ => h_.1))) (Kd.R_base ho0) hb); have n1_ := Aside0.mk (Kd.R_elder' (by (with_reducible repeat (first | apply Kd.R_alloc | apply Kd.R_drewN | apply Kd.R_drew)); exact (Kd.R_mono (Kd.R_far (p := ⟨gb196, 0, none⟩) (Kd.R_types HO189.out BK196.out (by decide)) (fun _ hk => hk.2) (.slice Ao29 t193.length co29)) (fun _ h_ => h_.1))) (Kd.R_base ho0) hb); have n2_ := Aside0.mk (Kd.R_elder' (by (with_reducible repeat (first | apply Kd.R_alloc | apply Kd.R_drewN | apply Kd.R_drew)); exact (Kd.R_mono (Kd.R_far (p := ⟨gb196, 0, none⟩) (Kd.R_types HO195.out BK196.out (by decide)) (fun _ hk => hk.2) (.slice Ao29 t193.length co29)) (fun _ h_ => h_.1))) (Kd.R_base ho0) hb); have n3_ := Aside0.mk (Kd.R_lower (Kd.R_new' (Kd.R_new' (Kd.R_new' ho0 (Kd.R_lt (by (with_reducible repeat (first | apply Kd.R_alloc | apply Kd.R_drewN | apply Kd.R_drew)); exact (Kd.R_mono (Kd.R_far (p := ⟨gb196, 0, none⟩) (Kd.R_types HO186.out BK196.out (by decide)) (fun _ hk => hk.2) (.slice Ao29 t193.length co29)) (fun _ h_ => h_.1))))) (Kd.R_lt (by (with_reducible repeat (first | apply Kd.R_alloc | apply Kd.R_drewN | apply Kd.R_drew)); exact (Kd.R_mono (Kd.R_far (p := ⟨gb196, 0, none⟩) (Kd.R_types HO189.out BK196.out (by decide)) (fun _ hk => hk.2) (.slice Ao29 t193.length co29)) (fun _ h_ => h_.1))))) (Kd.R_lt (by (with_reducible repeat (first | apply Kd.R_alloc | apply Kd.R_drewN | apply Kd.R_drew)); exact (Kd.R_mono (Kd.R_far (p := ⟨gb196, 0, none⟩) (Kd.R_types HO195.out BK196.out (by decide)) (fun _ hk => hk.2) (.slice Ao29 t193.length co29)) (fun _ h_ => h_.1))))) (below_size (by repeat (first | (with_reducible first | exact HB.out | apply below_alloc | apply pw_below_drewN | apply below_drew1 | refine below_set ?_ GE182.out | refine below_set ?_ GE192.out | refine below_set ?_ GE196.out) | exact HB.out)))); have n4_ := Aside0.mk (blk_below (g := gb182) (o := .cells #[.slice A0_0 l0_0.length c0_0] 42 (0, 0)) (by (with_reducible repeat (first | refine blk_drewN ?_ _ | refine blk_drew ?_ | refine blk_alloc ?_ _)); refine blk_far ?_ NB182_196.out _; (with_reducible repeat (first | refine blk_drewN ?_ _ | refine blk_drew ?_ | refine blk_alloc ?_ _)); exact BK182.out) hb); have n5_ := Aside0.mk (blk_below (g := gb192) (o := .cells #[.slice Ao23 t187.length co23] 44 (0, 0)) (by (with_reducible repeat (first | refine blk_drewN ?_ _ | refine blk_drew ?_ | refine blk_alloc ?_ _)); refine blk_far ?_ NB192_196.out _; (with_reducible repeat (first | refine blk_drewN ?_ _ | refine blk_drew ?_ | refine blk_alloc ?_ _)); exact BK192.out) hb); have n6_ := Aside0.mk (blk_below (g := gb196) (o := .cells #[.slice Ao29 t193.length co29] 44 (0, 0)) (by (with_reducible repeat (first | refine blk_drewN ?_ _ | refine blk_drew ?_ | refine blk_alloc ?_ _)); refine blk_put (cs := #[.slice none 0 0]) ?_ 0 _ rfl; (with_reducible repeat (first | refine blk_drewN ?_ _ | refine blk_drew ?_ | refine blk_alloc ?_ _)); exact BK196.out) hb); have n7_ := Aside0.mk (below_step (by repeat (first | (with_reducible first | exact HB.out | apply below_alloc | apply pw_below_drewN | apply below_drew1 | refine below_set ?_ GE182.out | refine below_set ?_ GE192.out | refine below_set ?_ GE196.out) | exact HB.out)) hb); clear HO186; clear HO189; clear HO195; clear BK182; clear BK192; clear BK196; clear HB; have HO186 := n0_; have HO189 := n1_; have HO195 := n2_; have HO199 := n3_; have BK182 := n4_; have BK192 := n5_; have BK196 := n6_; have HB := n7_; clear n0_ n1_ n2_ n3_ n4_ n5_ n6_ n7_; (try clear hb); (try clear hb2); (try clear hk); (try clear hi); (try clear ho0)) | ((with_reducible refine gate_dst (N := 14) rfl ?_); refine box_event ?hg (N := 14) ?hd (cs := #[.slice none 0 0]) (t := 44) ?hr ?_; (case hd => rfl); (case hg => rfl); (case hr => first | (go_simp; done) | (go_simp; rfl)); intro gb202 hg w34 hbox hb; have n0_ := Aside0.mk (Kd.R_below (by (with_reducible repeat (first | apply Kd.R_alloc | apply Kd.R_drewN | apply Kd.R_drew)); exact HO186.out) hb); have n1_ := Aside0.mk (Kd.R_below (by (with_reducible repeat (first | apply Kd.R_alloc | apply Kd.R_drewN | apply Kd.R_drew)); exact HO189.out) hb); have n2_ := Aside0.mk (Kd.R_below (by (with_reducible repeat (first | apply Kd.R_alloc | apply Kd.R_drewN | apply Kd.R_drew)); exact HO195.out) hb); have n3_ := Aside0.mk (Kd.R_below (by (with_reducible repeat (first | apply Kd.R_alloc | apply Kd.R_drewN | apply Kd.R_drew)); exact HO199.out) hb); have n4_ := Aside0.mk (blk_below (g := gb182) (o := .cells #[.slice A0_0 l0_0.length c0_0] 42 (0, 0)) (by (with_reducible repeat (first | refine blk_drewN ?_ _ | refine blk_drew ?_ | refine blk_alloc ?_ _)); exact BK182.out) hb); have n5_ := Aside0.mk (blk_below (g := gb192) (o := .cells #[.slice Ao23 t187.length co23] 44 (0, 0)) (by (with_reducible repeat (first | refine blk_drewN ?_ _ | refine blk_drew ?_ | refine blk_alloc ?_ _)); exact BK192.out) hb); have n6_ := Aside0.mk (blk_below (g := gb196) (o := .cells #[.slice Ao29 t193.length co29] 44 (0, 0)) (by (with_reducible repeat (first | refine blk_drewN ?_ _ | refine blk_drew ?_ | refine blk_alloc ?_ _)); exact BK196.out) hb); have n7_ := Aside0.mk (below_step (by repeat (first | (with_reducible first | exact HB.out | apply below_alloc | apply pw_below_drewN | apply below_drew1 | refine below_set ?_ GE182.out | refine below_set ?_ GE192.out | refine below_set ?_ GE196.out) | exact HB.out)) hb); have n8_ := Aside0.mk (hbox); have n9_ := Aside0.mk ((by rw [hg]; exact (below_size (by repeat (first | (with_reducible first | exact HB.out | apply below_alloc | apply pw_below_drewN | apply below_drew1 | refine below_set ?_ GE182.out | refine below_set ?_ GE192.out | refine below_set ?_ GE196.out) | exact HB.out))) : w.heap.size ≤ gb202)); have n10_ := Aside0.mk ((by rw [hg]; exact (below_size (by repeat (first | (with_reducible first | exact HB.out | apply below_alloc | apply pw_below_drewN | apply below_drew1 | refine below_set ?_ GE182.out | refine below_set ?_ GE192.out | refine below_set ?_ GE196.out) | exact HB.out))) : w.heap.size ≤ gb202)); have n11_ := Aside0.mk ((by rw [hg]; exact Nat.ne_of_lt (blk_lt (g := gb182) (o := .cells #[.slice A0_0 l0_0.length c0_0] 42 (0, 0)) (by (with_reducible repeat (first | refine blk_drewN ?_ _ | refine blk_drew ?_ | refine blk_alloc ?_ _)); exact BK182.out)) : gb182 ≠ gb202)); have n12_ := Aside0.mk ((by rw [hg]; exact Nat.ne_of_gt (blk_lt (g := gb182) (o := .cells #[.slice A0_0 l0_0.length c0_0] 42 (0, 0)) (by (with_reducible repeat (first | refine blk_drewN ?_ _ | refine blk_drew ?_ | refine blk_alloc ?_ _)); exact BK182.out)) : gb202 ≠ gb182)); have n13_ := Aside0.mk ((by rw [hg]; exact Nat.ne_of_lt (blk_lt (g := gb192) (o := .cells #[.slice Ao23 t187.length co23] 44 (0, 0)) (by (with_reducible repeat (first | refine blk_drewN ?_ _ | refine blk_drew ?_ | refine blk_alloc ?_ _)); exact BK192.out)) : gb192 ≠ gb202)); have n14_ := Aside0.mk ((by rw [hg]; exact Nat.ne_of_gt (blk_lt (g := gb192) (o := .cells #[.slice Ao23 t187.length co23] 44 (0, 0)) (by (with_reducible repeat (first | refine blk_drewN ?_ _ | refine blk_drew ?_ | refine blk_alloc ?_ _)); exact BK192.out)) : gb202 ≠ gb192)); have n15_ := Aside0.mk ((by rw [hg]; exact Nat.ne_of_lt (blk_lt (g := gb196) (o := .cells #[.slice Ao29 t193.length co29] 44 (0, 0)) (by (with_reducible repeat (first | refine blk_drewN ?_ _ | refine blk_drew ?_ | refine blk_alloc ?_ _)); exact BK196.out)) : gb196 ≠ gb202)); have n16_ := Aside0.mk ((by rw [hg]; exact Nat.ne_of_gt (blk_lt (g := gb196) (o := .cells #[.slice Ao29 t193.length co29] 44 (0, 0)) (by (with_reducible repeat (first | refine blk_drewN ?_ _ | refine blk_drew ?_ | refine blk_alloc ?_ _)); exact BK196.out)) : gb202 ≠ gb196)); clear HO186; clear HO189; clear HO195; clear HO199; clear BK182; clear BK192; clear BK196; clear HB; have HO186 := n0_; have HO189 := n1_; have HO195 := n2_; have HO199 := n3_; have BK182 := n4_; have BK192 := n5_; have BK196 := n6_; have HB := n7_; have BK202 := n8_; have GW202 := n9_; have GE202 := n10_; have NB182_202 := n11_; have NB202_182 := n12_; have NB192_202 := n13_; have NB202_192 := n14_; have NB196_202 := n15_; have NB202_196 := n16_; clear n0_ n1_ n2_ n3_ n4_ n5_ n6_ n7_ n8_ n9_ n10_ n11_ n12_ n13_ n14_ n15_ n16_; clear hb hbox hg; obtain ⟨Ao35, co35, eo35⟩ := Kd.R_slice HO199.out; subst eo35; have hnb36 := NB202_182.out; have hnc36 := NB182_202.out; have hnb37 := NB202_192.out; have hnc37 := NB192_202.out; have hnb38 := NB202_196.out; have hnc38 := NB196_202.out; have hcz39_0 : w34.cell? ⟨gb202, 0, none⟩ = some (.slice none 0 0) := (blk_cell BK202.out 0).trans rfl; have hfz39_0 := blk_frozen BK202.out 0))
    (try simp only [Act.put, List.setIfInBounds_toArray, List.set_cons_zero, List.set_cons_succ])
    go_cut [62] (fun v62 wc => ∃ (kq : Nat) (x62_13 : Bool), v62 = .bool x62_13 ∧ Aside0 (laws_FnExactMemCas.j0 kq a1 a2 a3 t190 t191 t200 t201 x62_13 l0_0 t187 t193 t197 = some r) ∧ Aside0 (kq ≤ k) ∧ Aside0 (Kd.R (Kd.int .u32) 22 wc w.heap.size (fun k_ => some k_ ≠ ((.slice Ao29 t193.length co29) : Value).ownBlock ∧ some k_ ≠ ((.slice Ao35 t197.length co35) : Value).ownBlock) (.slice Ao23 t187.length co23) t187) ∧ Aside0 (Kd.R (Kd.int .u32) 22 wc w.heap.size (fun k_ => some k_ ≠ ((.slice Ao23 t187.length co23) : Value).ownBlock ∧ some k_ ≠ ((.slice Ao35 t197.length co35) : Value).ownBlock) (.slice Ao29 t193.length co29) t193) ∧ Aside0 (Kd.R (Kd.int .u32) 22 wc w.heap.size (fun k_ => some k_ ≠ ((.slice Ao23 t187.length co23) : Value).ownBlock ∧ some k_ ≠ ((.slice Ao29 t193.length co29) : Value).ownBlock) (.slice Ao35 t197.length co35) t197) ∧ Aside0 (wc.heap[gb182]? = some (.cells #[(.slice A0_0 l0_0.length c0_0)] 42 (0, 0))) ∧ Aside0 (wc.heap[gb192]? = some (.cells #[(.slice Ao23 t187.length co23)] 44 (0, 0))) ∧ Aside0 (wc.heap[gb196]? = some (.cells #[(.slice Ao29 t193.length co29)] 44 (0, 0))) ∧ Aside0 (wc.heap[gb202]? = some (.cells #[(.slice Ao35 t197.length co35)] 44 (0, 0))) ∧ Aside0 (Below w.heap.size w wc))
    case first =>
      have H := HC14.out
      clear HC14
      replace H := Option.bind_eq_some_iff.mp H
      obtain ⟨t203, A400, H⟩ := H
      replace H : (if t203 = true then (if (t200 != t190) = true then (laws_FnExactMemCas.j0 k a1 a2 a3 t190 t191 t200 t201 true l0_0 t187 t193 t197) else (laws_FnExactMemCas.j0 k a1 a2 a3 t190 t191 t200 t201 (t201 != t191) l0_0 t187 t193 t197)) else (laws_FnExactMemCas.j0 k a1 a2 a3 t190 t191 t200 t201 true l0_0 t187 t193 t197)) = some r := H
      have A40 := Aside0.mk A400
      clear A400
      by_cases c41 : t203 = true
      · subst c41
        have H1 : (if (t200 != t190) = true then (laws_FnExactMemCas.j0 k a1 a2 a3 t190 t191 t200 t201 true l0_0 t187 t193 t197) else (laws_FnExactMemCas.j0 k a1 a2 a3 t190 t191 t200 t201 (t201 != t191) l0_0 t187 t193 t197)) = some r := by rw [if_pos rfl] at H; exact H
        clear H
        have H := H1
        clear H1
        by_cases c42 : (t200 != t190) = true
        · rw [if_pos c42] at H
          have c42b0 : (t200 != t190) = true := c42
          (try (have c42b1 : decide (t200 = t190) = false := by simpa using c42))
          (try (have c42b2 : (t200 == t190) = false := by simpa using c42))
          (try (have c42b3 : ¬ (t200 = t190) := by simpa using c42))
          clear c42
          (first | rw [c42b0] | (simp only [i64_w, i32_w]; rw [c42b0]) | skip)
          have H' := Aside0.mk H
          clear H
          have hnb43 := NB202_182.out
          have hnc43 := NB182_202.out
          have hnb44 := NB202_192.out
          have hnc44 := NB192_202.out
          have hnb45 := NB202_196.out
          have hnc45 := NB196_202.out
          have hcz46_0 : w34.cell? ⟨gb202, 0, none⟩ = some (.slice none 0 0) := (blk_cell BK202.out 0).trans rfl
          have hfz46_0 := blk_frozen BK202.out 0
          have hnb47 := NB192_182.out
          have hnc47 := NB182_192.out
          have hnb48 := NB192_196.out
          have hnc48 := NB196_192.out
          have hcz49_0 : w34.cell? ⟨gb192, 0, none⟩ = some (.slice Ao23 t187.length co23) := (blk_cell BK192.out 0).trans rfl
          have hfz49_0 := blk_frozen BK192.out 0
          go_wp2_with (first | ((with_reducible refine gate_callee (f := 30) rfl ?_); refine goesL_ (some 51) rfl rfl Try.func30 (by kernel_rfl) rfl #[.agg #[.slice Ao35 t197.length co35], .agg #[.slice Ao23 t187.length co23]] rfl (by (try simp only [List.map_toArray, List.map_cons, List.map_nil]); first | done | rfl | (simp only [List.length_drop, List.length_take]; rfl)) ?_; (with_reducible refine (laws_eqMem.calls k _ _ t197 _ _ t187 true _ ?side1 ?side2 ?side3 ?side4 A40.out).mono ?_); (case side1 => refine (Kd.R_reads' (e := 22) (base := w.heap.size) (ok := fun k_ => (((True ∧ some k_ ≠ (.slice Ao20 t184.length co20 : Value).ownBlock) ∧ some k_ ≠ (.slice Ao23 t187.length co23 : Value).ownBlock) ∧ some k_ ≠ (.slice Ao29 t193.length co29 : Value).ownBlock)) (n := t197.length) (c := co35) ?_).2.2; exact (by (with_reducible repeat (first | apply Kd.R_alloc | apply Kd.R_drewN | apply Kd.R_drew)); exact (Kd.R_mono (Kd.R_far (p := ⟨gb202, 0, none⟩) (Kd.R_types HO199.out BK202.out (by decide)) (fun _ hk => hk.2) (.slice Ao35 t197.length co35)) (fun _ h_ => h_.1)))); (case side2 => exact (Kd.R_reads' HO199.out).2.1); (case side3 => refine (Kd.R_reads' (e := 22) (base := w.heap.size) (ok := fun k_ => (((True ∧ some k_ ≠ (.slice Ao20 t184.length co20 : Value).ownBlock) ∧ some k_ ≠ (.slice Ao29 t193.length co29 : Value).ownBlock) ∧ some k_ ≠ (.slice Ao35 t197.length co35 : Value).ownBlock)) (n := t187.length) (c := co23) ?_).2.2; exact (by (with_reducible repeat (first | apply Kd.R_alloc | apply Kd.R_drewN | apply Kd.R_drew)); exact (Kd.R_mono (Kd.R_far (p := ⟨gb202, 0, none⟩) (Kd.R_types HO189.out BK202.out (by decide)) (fun _ hk => hk.2) (.slice Ao35 t197.length co35)) (fun _ h_ => h_.1)))); (case side4 => exact (Kd.R_reads' HO189.out).2.1); rintro e w50 ⟨rfl, hb⟩; refine ⟨_, rfl, ?_⟩; have n0_ := Aside0.mk (Kd.R_below (by (with_reducible repeat (first | apply Kd.R_alloc | apply Kd.R_drewN | apply Kd.R_drew)); exact (Kd.R_mono (Kd.R_far (p := ⟨gb202, 0, none⟩) (Kd.R_types HO186.out BK202.out (by decide)) (fun _ hk => hk.2) (.slice Ao35 t197.length co35)) (fun _ h_ => h_.1))) hb); have n1_ := Aside0.mk (Kd.R_below (by (with_reducible repeat (first | apply Kd.R_alloc | apply Kd.R_drewN | apply Kd.R_drew)); exact (Kd.R_mono (Kd.R_far (p := ⟨gb202, 0, none⟩) (Kd.R_types HO189.out BK202.out (by decide)) (fun _ hk => hk.2) (.slice Ao35 t197.length co35)) (fun _ h_ => h_.1))) hb); have n2_ := Aside0.mk (Kd.R_below (by (with_reducible repeat (first | apply Kd.R_alloc | apply Kd.R_drewN | apply Kd.R_drew)); exact (Kd.R_mono (Kd.R_far (p := ⟨gb202, 0, none⟩) (Kd.R_types HO195.out BK202.out (by decide)) (fun _ hk => hk.2) (.slice Ao35 t197.length co35)) (fun _ h_ => h_.1))) hb); have n3_ := Aside0.mk (Kd.R_below (by (with_reducible repeat (first | apply Kd.R_alloc | apply Kd.R_drewN | apply Kd.R_drew)); exact (Kd.R_mono (Kd.R_far (p := ⟨gb202, 0, none⟩) (Kd.R_types HO199.out BK202.out (by decide)) (fun _ hk => hk.2) (.slice Ao35 t197.length co35)) (fun _ h_ => h_.1))) hb); have n4_ := Aside0.mk (blk_below (g := gb182) (o := .cells #[.slice A0_0 l0_0.length c0_0] 42 (0, 0)) (by (with_reducible repeat (first | refine blk_drewN ?_ _ | refine blk_drew ?_ | refine blk_alloc ?_ _)); refine blk_far ?_ NB182_202.out _; (with_reducible repeat (first | refine blk_drewN ?_ _ | refine blk_drew ?_ | refine blk_alloc ?_ _)); exact BK182.out) hb); have n5_ := Aside0.mk (blk_below (g := gb192) (o := .cells #[.slice Ao23 t187.length co23] 44 (0, 0)) (by (with_reducible repeat (first | refine blk_drewN ?_ _ | refine blk_drew ?_ | refine blk_alloc ?_ _)); refine blk_far ?_ NB192_202.out _; (with_reducible repeat (first | refine blk_drewN ?_ _ | refine blk_drew ?_ | refine blk_alloc ?_ _)); exact BK192.out) hb); have n6_ := Aside0.mk (blk_below (g := gb196) (o := .cells #[.slice Ao29 t193.length co29] 44 (0, 0)) (by (with_reducible repeat (first | refine blk_drewN ?_ _ | refine blk_drew ?_ | refine blk_alloc ?_ _)); refine blk_far ?_ NB196_202.out _; (with_reducible repeat (first | refine blk_drewN ?_ _ | refine blk_drew ?_ | refine blk_alloc ?_ _)); exact BK196.out) hb); have n7_ := Aside0.mk (blk_below (g := gb202) (o := .cells #[.slice Ao35 t197.length co35] 44 (0, 0)) (by (with_reducible repeat (first | refine blk_drewN ?_ _ | refine blk_drew ?_ | refine blk_alloc ?_ _)); refine blk_put (cs := #[.slice none 0 0]) ?_ 0 _ rfl; (with_reducible repeat (first | refine blk_drewN ?_ _ | refine blk_drew ?_ | refine blk_alloc ?_ _)); exact BK202.out) hb); have n8_ := Aside0.mk (below_step (by repeat (first | (with_reducible first | exact HB.out | apply below_alloc | apply pw_below_drewN | apply below_drew1 | refine below_set ?_ GE182.out | refine below_set ?_ GE192.out | refine below_set ?_ GE196.out | refine below_set ?_ GE202.out) | exact HB.out)) hb); clear HO186; clear HO189; clear HO195; clear HO199; clear BK182; clear BK192; clear BK196; clear BK202; clear HB; have HO186 := n0_; have HO189 := n1_; have HO195 := n2_; have HO199 := n3_; have BK182 := n4_; have BK192 := n5_; have BK196 := n6_; have BK202 := n7_; have HB := n8_; clear n0_ n1_ n2_ n3_ n4_ n5_ n6_ n7_ n8_; (try clear hb); (try clear hb2); (try clear hk); (try clear hi)))
          go_meet
          case rel => exact ⟨_, (true), (by first | rfl | (simp; done) | (simp [*]; done)), H', ⟨by first | omega | exact Nat.le_refl _⟩, ⟨by (with_reducible repeat (first | apply Kd.R_alloc | apply Kd.R_drewN | apply Kd.R_drew)); exact Kd.R_mono HO189.out (fun _ hk => ⟨hk.1.2, hk.2⟩)⟩, ⟨by (with_reducible repeat (first | apply Kd.R_alloc | apply Kd.R_drewN | apply Kd.R_drew)); exact Kd.R_mono HO195.out (fun _ hk => ⟨hk.1.2, hk.2⟩)⟩, ⟨by (with_reducible repeat (first | apply Kd.R_alloc | apply Kd.R_drewN | apply Kd.R_drew)); exact Kd.R_mono HO199.out (fun _ hk => ⟨hk.1.2, hk.2⟩)⟩, ⟨by (with_reducible repeat (first | refine blk_drewN ?_ _ | refine blk_drew ?_ | refine blk_alloc ?_ _)); exact BK182.out⟩, ⟨by (with_reducible repeat (first | refine blk_drewN ?_ _ | refine blk_drew ?_ | refine blk_alloc ?_ _)); exact BK192.out⟩, ⟨by (with_reducible repeat (first | refine blk_drewN ?_ _ | refine blk_drew ?_ | refine blk_alloc ?_ _)); exact BK196.out⟩, ⟨by (with_reducible repeat (first | refine blk_drewN ?_ _ | refine blk_drew ?_ | refine blk_alloc ?_ _)); exact BK202.out⟩, ⟨by repeat (first | (with_reducible first | exact HB.out | apply below_alloc | apply pw_below_drewN | apply below_drew1 | refine below_set ?_ GE182.out | refine below_set ?_ GE192.out | refine below_set ?_ GE196.out | refine below_set ?_ GE202.out) | exact HB.out)⟩⟩
        · rw [if_neg c42] at H
          have c42b0 : (t200 != t190) = false := by simpa using c42
          (try (have c42b1 : decide (t200 = t190) = true := by simpa using c42))
          (try (have c42b2 : (t200 == t190) = true := by simpa using c42))
          clear c42
          (first | rw [c42b0] | (simp only [i64_w, i32_w]; rw [c42b0]) | skip)
          have H' := Aside0.mk H
          clear H
          have hnb51 := NB202_182.out
          have hnc51 := NB182_202.out
          have hnb52 := NB202_192.out
          have hnc52 := NB192_202.out
          have hnb53 := NB202_196.out
          have hnc53 := NB196_202.out
          have hcz54_0 : w34.cell? ⟨gb202, 0, none⟩ = some (.slice none 0 0) := (blk_cell BK202.out 0).trans rfl
          have hfz54_0 := blk_frozen BK202.out 0
          have hnb55 := NB192_182.out
          have hnc55 := NB182_192.out
          have hnb56 := NB192_196.out
          have hnc56 := NB196_192.out
          have hcz57_0 : w34.cell? ⟨gb192, 0, none⟩ = some (.slice Ao23 t187.length co23) := (blk_cell BK192.out 0).trans rfl
          have hfz57_0 := blk_frozen BK192.out 0
          go_wp2_with (first | ((with_reducible refine gate_callee (f := 30) rfl ?_); refine goesL_ (some 51) rfl rfl Try.func30 (by kernel_rfl) rfl #[.agg #[.slice Ao35 t197.length co35], .agg #[.slice Ao23 t187.length co23]] rfl (by (try simp only [List.map_toArray, List.map_cons, List.map_nil]); first | done | rfl | (simp only [List.length_drop, List.length_take]; rfl)) ?_; (with_reducible refine (laws_eqMem.calls k _ _ t197 _ _ t187 true _ ?side1 ?side2 ?side3 ?side4 A40.out).mono ?_); (case side1 => refine (Kd.R_reads' (e := 22) (base := w.heap.size) (ok := fun k_ => (((True ∧ some k_ ≠ (.slice Ao20 t184.length co20 : Value).ownBlock) ∧ some k_ ≠ (.slice Ao23 t187.length co23 : Value).ownBlock) ∧ some k_ ≠ (.slice Ao29 t193.length co29 : Value).ownBlock)) (n := t197.length) (c := co35) ?_).2.2; exact (by (with_reducible repeat (first | apply Kd.R_alloc | apply Kd.R_drewN | apply Kd.R_drew)); exact (Kd.R_mono (Kd.R_far (p := ⟨gb202, 0, none⟩) (Kd.R_types HO199.out BK202.out (by decide)) (fun _ hk => hk.2) (.slice Ao35 t197.length co35)) (fun _ h_ => h_.1)))); (case side2 => exact (Kd.R_reads' HO199.out).2.1); (case side3 => refine (Kd.R_reads' (e := 22) (base := w.heap.size) (ok := fun k_ => (((True ∧ some k_ ≠ (.slice Ao20 t184.length co20 : Value).ownBlock) ∧ some k_ ≠ (.slice Ao29 t193.length co29 : Value).ownBlock) ∧ some k_ ≠ (.slice Ao35 t197.length co35 : Value).ownBlock)) (n := t187.length) (c := co23) ?_).2.2; exact (by (with_reducible repeat (first | apply Kd.R_alloc | apply Kd.R_drewN | apply Kd.R_drew)); exact (Kd.R_mono (Kd.R_far (p := ⟨gb202, 0, none⟩) (Kd.R_types HO189.out BK202.out (by decide)) (fun _ hk => hk.2) (.slice Ao35 t197.length co35)) (fun _ h_ => h_.1)))); (case side4 => exact (Kd.R_reads' HO189.out).2.1); rintro e w58 ⟨rfl, hb⟩; refine ⟨_, rfl, ?_⟩; have n0_ := Aside0.mk (Kd.R_below (by (with_reducible repeat (first | apply Kd.R_alloc | apply Kd.R_drewN | apply Kd.R_drew)); exact (Kd.R_mono (Kd.R_far (p := ⟨gb202, 0, none⟩) (Kd.R_types HO186.out BK202.out (by decide)) (fun _ hk => hk.2) (.slice Ao35 t197.length co35)) (fun _ h_ => h_.1))) hb); have n1_ := Aside0.mk (Kd.R_below (by (with_reducible repeat (first | apply Kd.R_alloc | apply Kd.R_drewN | apply Kd.R_drew)); exact (Kd.R_mono (Kd.R_far (p := ⟨gb202, 0, none⟩) (Kd.R_types HO189.out BK202.out (by decide)) (fun _ hk => hk.2) (.slice Ao35 t197.length co35)) (fun _ h_ => h_.1))) hb); have n2_ := Aside0.mk (Kd.R_below (by (with_reducible repeat (first | apply Kd.R_alloc | apply Kd.R_drewN | apply Kd.R_drew)); exact (Kd.R_mono (Kd.R_far (p := ⟨gb202, 0, none⟩) (Kd.R_types HO195.out BK202.out (by decide)) (fun _ hk => hk.2) (.slice Ao35 t197.length co35)) (fun _ h_ => h_.1))) hb); have n3_ := Aside0.mk (Kd.R_below (by (with_reducible repeat (first | apply Kd.R_alloc | apply Kd.R_drewN | apply Kd.R_drew)); exact (Kd.R_mono (Kd.R_far (p := ⟨gb202, 0, none⟩) (Kd.R_types HO199.out BK202.out (by decide)) (fun _ hk => hk.2) (.slice Ao35 t197.length co35)) (fun _ h_ => h_.1))) hb); have n4_ := Aside0.mk (blk_below (g := gb182) (o := .cells #[.slice A0_0 l0_0.length c0_0] 42 (0, 0)) (by (with_reducible repeat (first | refine blk_drewN ?_ _ | refine blk_drew ?_ | refine blk_alloc ?_ _)); refine blk_far ?_ NB182_202.out _; (with_reducible repeat (first | refine blk_drewN ?_ _ | refine blk_drew ?_ | refine blk_alloc ?_ _)); exact BK182.out) hb); have n5_ := Aside0.mk (blk_below (g := gb192) (o := .cells #[.slice Ao23 t187.length co23] 44 (0, 0)) (by (with_reducible repeat (first | refine blk_drewN ?_ _ | refine blk_drew ?_ | refine blk_alloc ?_ _)); refine blk_far ?_ NB192_202.out _; (with_reducible repeat (first | refine blk_drewN ?_ _ | refine blk_drew ?_ | refine blk_alloc ?_ _)); exact BK192.out) hb); have n6_ := Aside0.mk (blk_below (g := gb196) (o := .cells #[.slice Ao29 t193.length co29] 44 (0, 0)) (by (with_reducible repeat (first | refine blk_drewN ?_ _ | refine blk_drew ?_ | refine blk_alloc ?_ _)); refine blk_far ?_ NB196_202.out _; (with_reducible repeat (first | refine blk_drewN ?_ _ | refine blk_drew ?_ | refine blk_alloc ?_ _)); exact BK196.out) hb); have n7_ := Aside0.mk (blk_below (g := gb202) (o := .cells #[.slice Ao35 t197.length co35] 44 (0, 0)) (by (with_reducible repeat (first | refine blk_drewN ?_ _ | refine blk_drew ?_ | refine blk_alloc ?_ _)); refine blk_put (cs := #[.slice none 0 0]) ?_ 0 _ rfl; (with_reducible repeat (first | refine blk_drewN ?_ _ | refine blk_drew ?_ | refine blk_alloc ?_ _)); exact BK202.out) hb); have n8_ := Aside0.mk (below_step (by repeat (first | (with_reducible first | exact HB.out | apply below_alloc | apply pw_below_drewN | apply below_drew1 | refine below_set ?_ GE182.out | refine below_set ?_ GE192.out | refine below_set ?_ GE196.out | refine below_set ?_ GE202.out) | exact HB.out)) hb); clear HO186; clear HO189; clear HO195; clear HO199; clear BK182; clear BK192; clear BK196; clear BK202; clear HB; have HO186 := n0_; have HO189 := n1_; have HO195 := n2_; have HO199 := n3_; have BK182 := n4_; have BK192 := n5_; have BK196 := n6_; have BK202 := n7_; have HB := n8_; clear n0_ n1_ n2_ n3_ n4_ n5_ n6_ n7_ n8_; (try clear hb); (try clear hb2); (try clear hk); (try clear hi)))
          go_meet
          case rel => exact ⟨_, ((t201 != t191)), (by first | rfl | (simp; done) | (simp [*]; done)), H', ⟨by first | omega | exact Nat.le_refl _⟩, ⟨by (with_reducible repeat (first | apply Kd.R_alloc | apply Kd.R_drewN | apply Kd.R_drew)); exact Kd.R_mono HO189.out (fun _ hk => ⟨hk.1.2, hk.2⟩)⟩, ⟨by (with_reducible repeat (first | apply Kd.R_alloc | apply Kd.R_drewN | apply Kd.R_drew)); exact Kd.R_mono HO195.out (fun _ hk => ⟨hk.1.2, hk.2⟩)⟩, ⟨by (with_reducible repeat (first | apply Kd.R_alloc | apply Kd.R_drewN | apply Kd.R_drew)); exact Kd.R_mono HO199.out (fun _ hk => ⟨hk.1.2, hk.2⟩)⟩, ⟨by (with_reducible repeat (first | refine blk_drewN ?_ _ | refine blk_drew ?_ | refine blk_alloc ?_ _)); exact BK182.out⟩, ⟨by (with_reducible repeat (first | refine blk_drewN ?_ _ | refine blk_drew ?_ | refine blk_alloc ?_ _)); exact BK192.out⟩, ⟨by (with_reducible repeat (first | refine blk_drewN ?_ _ | refine blk_drew ?_ | refine blk_alloc ?_ _)); exact BK196.out⟩, ⟨by (with_reducible repeat (first | refine blk_drewN ?_ _ | refine blk_drew ?_ | refine blk_alloc ?_ _)); exact BK202.out⟩, ⟨by repeat (first | (with_reducible first | exact HB.out | apply below_alloc | apply pw_below_drewN | apply below_drew1 | refine below_set ?_ GE182.out | refine below_set ?_ GE192.out | refine below_set ?_ GE196.out | refine below_set ?_ GE202.out) | exact HB.out)⟩⟩
      · replace c41 := Bool.eq_false_iff.mpr c41
        subst c41
        have H1 : (laws_FnExactMemCas.j0 k a1 a2 a3 t190 t191 t200 t201 true l0_0 t187 t193 t197) = some r := by rw [if_neg (show ¬ (false = true) by decide)] at H; exact H
        clear H
        have H := H1
        clear H1
        have H' := Aside0.mk H
        clear H
        have hnb59 := NB202_182.out
        have hnc59 := NB182_202.out
        have hnb60 := NB202_192.out
        have hnc60 := NB192_202.out
        have hnb61 := NB202_196.out
        have hnc61 := NB196_202.out
        have hcz62_0 : w34.cell? ⟨gb202, 0, none⟩ = some (.slice none 0 0) := (blk_cell BK202.out 0).trans rfl
        have hfz62_0 := blk_frozen BK202.out 0
        have hnb63 := NB192_182.out
        have hnc63 := NB182_192.out
        have hnb64 := NB192_196.out
        have hnc64 := NB196_192.out
        have hcz65_0 : w34.cell? ⟨gb192, 0, none⟩ = some (.slice Ao23 t187.length co23) := (blk_cell BK192.out 0).trans rfl
        have hfz65_0 := blk_frozen BK192.out 0
        go_wp2_with (first | ((with_reducible refine gate_callee (f := 30) rfl ?_); refine goesL_ (some 51) rfl rfl Try.func30 (by kernel_rfl) rfl #[.agg #[.slice Ao35 t197.length co35], .agg #[.slice Ao23 t187.length co23]] rfl (by (try simp only [List.map_toArray, List.map_cons, List.map_nil]); first | done | rfl | (simp only [List.length_drop, List.length_take]; rfl)) ?_; (with_reducible refine (laws_eqMem.calls k _ _ t197 _ _ t187 false _ ?side1 ?side2 ?side3 ?side4 A40.out).mono ?_); (case side1 => refine (Kd.R_reads' (e := 22) (base := w.heap.size) (ok := fun k_ => (((True ∧ some k_ ≠ (.slice Ao20 t184.length co20 : Value).ownBlock) ∧ some k_ ≠ (.slice Ao23 t187.length co23 : Value).ownBlock) ∧ some k_ ≠ (.slice Ao29 t193.length co29 : Value).ownBlock)) (n := t197.length) (c := co35) ?_).2.2; exact (by (with_reducible repeat (first | apply Kd.R_alloc | apply Kd.R_drewN | apply Kd.R_drew)); exact (Kd.R_mono (Kd.R_far (p := ⟨gb202, 0, none⟩) (Kd.R_types HO199.out BK202.out (by decide)) (fun _ hk => hk.2) (.slice Ao35 t197.length co35)) (fun _ h_ => h_.1)))); (case side2 => exact (Kd.R_reads' HO199.out).2.1); (case side3 => refine (Kd.R_reads' (e := 22) (base := w.heap.size) (ok := fun k_ => (((True ∧ some k_ ≠ (.slice Ao20 t184.length co20 : Value).ownBlock) ∧ some k_ ≠ (.slice Ao29 t193.length co29 : Value).ownBlock) ∧ some k_ ≠ (.slice Ao35 t197.length co35 : Value).ownBlock)) (n := t187.length) (c := co23) ?_).2.2; exact (by (with_reducible repeat (first | apply Kd.R_alloc | apply Kd.R_drewN | apply Kd.R_drew)); exact (Kd.R_mono (Kd.R_far (p := ⟨gb202, 0, none⟩) (Kd.R_types HO189.out BK202.out (by decide)) (fun _ hk => hk.2) (.slice Ao35 t197.length co35)) (fun _ h_ => h_.1)))); (case side4 => exact (Kd.R_reads' HO189.out).2.1); rintro e w66 ⟨rfl, hb⟩; refine ⟨_, rfl, ?_⟩; have n0_ := Aside0.mk (Kd.R_below (by (with_reducible repeat (first | apply Kd.R_alloc | apply Kd.R_drewN | apply Kd.R_drew)); exact (Kd.R_mono (Kd.R_far (p := ⟨gb202, 0, none⟩) (Kd.R_types HO186.out BK202.out (by decide)) (fun _ hk => hk.2) (.slice Ao35 t197.length co35)) (fun _ h_ => h_.1))) hb); have n1_ := Aside0.mk (Kd.R_below (by (with_reducible repeat (first | apply Kd.R_alloc | apply Kd.R_drewN | apply Kd.R_drew)); exact (Kd.R_mono (Kd.R_far (p := ⟨gb202, 0, none⟩) (Kd.R_types HO189.out BK202.out (by decide)) (fun _ hk => hk.2) (.slice Ao35 t197.length co35)) (fun _ h_ => h_.1))) hb); have n2_ := Aside0.mk (Kd.R_below (by (with_reducible repeat (first | apply Kd.R_alloc | apply Kd.R_drewN | apply Kd.R_drew)); exact (Kd.R_mono (Kd.R_far (p := ⟨gb202, 0, none⟩) (Kd.R_types HO195.out BK202.out (by decide)) (fun _ hk => hk.2) (.slice Ao35 t197.length co35)) (fun _ h_ => h_.1))) hb); have n3_ := Aside0.mk (Kd.R_below (by (with_reducible repeat (first | apply Kd.R_alloc | apply Kd.R_drewN | apply Kd.R_drew)); exact (Kd.R_mono (Kd.R_far (p := ⟨gb202, 0, none⟩) (Kd.R_types HO199.out BK202.out (by decide)) (fun _ hk => hk.2) (.slice Ao35 t197.length co35)) (fun _ h_ => h_.1))) hb); have n4_ := Aside0.mk (blk_below (g := gb182) (o := .cells #[.slice A0_0 l0_0.length c0_0] 42 (0, 0)) (by (with_reducible repeat (first | refine blk_drewN ?_ _ | refine blk_drew ?_ | refine blk_alloc ?_ _)); refine blk_far ?_ NB182_202.out _; (with_reducible repeat (first | refine blk_drewN ?_ _ | refine blk_drew ?_ | refine blk_alloc ?_ _)); exact BK182.out) hb); have n5_ := Aside0.mk (blk_below (g := gb192) (o := .cells #[.slice Ao23 t187.length co23] 44 (0, 0)) (by (with_reducible repeat (first | refine blk_drewN ?_ _ | refine blk_drew ?_ | refine blk_alloc ?_ _)); refine blk_far ?_ NB192_202.out _; (with_reducible repeat (first | refine blk_drewN ?_ _ | refine blk_drew ?_ | refine blk_alloc ?_ _)); exact BK192.out) hb); have n6_ := Aside0.mk (blk_below (g := gb196) (o := .cells #[.slice Ao29 t193.length co29] 44 (0, 0)) (by (with_reducible repeat (first | refine blk_drewN ?_ _ | refine blk_drew ?_ | refine blk_alloc ?_ _)); refine blk_far ?_ NB196_202.out _; (with_reducible repeat (first | refine blk_drewN ?_ _ | refine blk_drew ?_ | refine blk_alloc ?_ _)); exact BK196.out) hb); have n7_ := Aside0.mk (blk_below (g := gb202) (o := .cells #[.slice Ao35 t197.length co35] 44 (0, 0)) (by (with_reducible repeat (first | refine blk_drewN ?_ _ | refine blk_drew ?_ | refine blk_alloc ?_ _)); refine blk_put (cs := #[.slice none 0 0]) ?_ 0 _ rfl; (with_reducible repeat (first | refine blk_drewN ?_ _ | refine blk_drew ?_ | refine blk_alloc ?_ _)); exact BK202.out) hb); have n8_ := Aside0.mk (below_step (by repeat (first | (with_reducible first | exact HB.out | apply below_alloc | apply pw_below_drewN | apply below_drew1 | refine below_set ?_ GE182.out | refine below_set ?_ GE192.out | refine below_set ?_ GE196.out | refine below_set ?_ GE202.out) | exact HB.out)) hb); clear HO186; clear HO189; clear HO195; clear HO199; clear BK182; clear BK192; clear BK196; clear BK202; clear HB; have HO186 := n0_; have HO189 := n1_; have HO195 := n2_; have HO199 := n3_; have BK182 := n4_; have BK192 := n5_; have BK196 := n6_; have BK202 := n7_; have HB := n8_; clear n0_ n1_ n2_ n3_ n4_ n5_ n6_ n7_ n8_; (try clear hb); (try clear hb2); (try clear hk); (try clear hi)))
        go_meet
        case rel => exact ⟨_, (true), (by first | rfl | (simp; done) | (simp [*]; done)), H', ⟨by first | omega | exact Nat.le_refl _⟩, ⟨by (with_reducible repeat (first | apply Kd.R_alloc | apply Kd.R_drewN | apply Kd.R_drew)); exact Kd.R_mono HO189.out (fun _ hk => ⟨hk.1.2, hk.2⟩)⟩, ⟨by (with_reducible repeat (first | apply Kd.R_alloc | apply Kd.R_drewN | apply Kd.R_drew)); exact Kd.R_mono HO195.out (fun _ hk => ⟨hk.1.2, hk.2⟩)⟩, ⟨by (with_reducible repeat (first | apply Kd.R_alloc | apply Kd.R_drewN | apply Kd.R_drew)); exact Kd.R_mono HO199.out (fun _ hk => ⟨hk.1.2, hk.2⟩)⟩, ⟨by (with_reducible repeat (first | refine blk_drewN ?_ _ | refine blk_drew ?_ | refine blk_alloc ?_ _)); exact BK182.out⟩, ⟨by (with_reducible repeat (first | refine blk_drewN ?_ _ | refine blk_drew ?_ | refine blk_alloc ?_ _)); exact BK192.out⟩, ⟨by (with_reducible repeat (first | refine blk_drewN ?_ _ | refine blk_drew ?_ | refine blk_alloc ?_ _)); exact BK196.out⟩, ⟨by (with_reducible repeat (first | refine blk_drewN ?_ _ | refine blk_drew ?_ | refine blk_alloc ?_ _)); exact BK202.out⟩, ⟨by repeat (first | (with_reducible first | exact HB.out | apply below_alloc | apply pw_below_drewN | apply below_drew1 | refine below_set ?_ GE182.out | refine below_set ?_ GE192.out | refine below_set ?_ GE196.out | refine below_set ?_ GE202.out) | exact HB.out)⟩⟩
    case rest =>
      clear HC14
      try clear c1
      try clear c2
      try clear p2
      try clear c3
      try clear c4
      try clear c5
      try clear c6
      try clear c6b0
      try clear c11
      try clear c24
      try clear c26
      try clear c28
      try clear c30
      try clear c31
      try clear c36
      try clear c37
      try clear c38
      try clear c41
      try clear c42
      try clear c42b0
      try clear c42b1
      try clear c42b2
      try clear c43
      try clear c44
      try clear c45
      try clear c47
      try clear c48
      try clear c51
      try clear c52
      try clear c53
      try clear c55
      try clear c56
      try clear c59
      try clear c60
      try clear c61
      try clear c63
      try clear c64
      try clear hcz16_0
      try clear hcz18_0
      try clear hcz25_0
      try clear hcz26_0
      try clear hcz32_0
      try clear hcz39_0
      try clear hcz46_0
      try clear hcz49_0
      try clear hcz54_0
      try clear hcz57_0
      try clear hcz62_0
      try clear hcz65_0
      try clear hcz8_0
      try clear hfz16_0
      try clear hfz18_0
      try clear hfz25_0
      try clear hfz26_0
      try clear hfz32_0
      try clear hfz39_0
      try clear hfz46_0
      try clear hfz49_0
      try clear hfz54_0
      try clear hfz57_0
      try clear hfz62_0
      try clear hfz65_0
      try clear hfz8_0
      obtain ⟨kq, x62_13, rfl, HA, HJ13, HO_193000, HO_197000, HO_203000, BK182, BK192, BK196, BK202, HB⟩ := hcut
      cases kq with
      | zero => exact absurd HA.out (by simp [laws_FnExactMemCas.j0])
      | succ kj13 =>
        have H := HA.out
        clear HA
        simp only [laws_FnExactMemCas.j0] at H
        by_cases c67 : x62_13 = true
        · subst c67
          have H1 : (some false) = some r := by rw [if_pos rfl] at H; exact H
          clear H
          have H := H1
          clear H1
          obtain rfl := Option.some.inj H
          go_wp2
          go_ret
          exact ⟨by first | rfl | (simp [errW_none, errW_some] <;> rfl) | (simp [*, errW_none, errW_some] <;> rfl), by repeat (first | (with_reducible first | exact HB.out | apply below_alloc | apply pw_below_drewN | apply below_drew1 | refine below_set ?_ GE182.out | refine below_set ?_ GE192.out | refine below_set ?_ GE196.out | refine below_set ?_ GE202.out) | exact HB.out)⟩
        · replace c67 := Bool.eq_false_iff.mpr c67
          subst c67
          have H1 : ((laws_toMem.f kj13 l0_0).bind fun t204 => ((laws_eqMem.f kj13 t193 t204).bind fun t207 => (if t207 = true then ((laws_markMem.f kj13 t193 1).bind fun bt208 => (if bt208.1 < 0 then (laws_FnExactMemCas.j1 kj13 a1 a2 a3 t190 t191 true l0_0 t187 t197) else ((laws_eqMem.f kj13 t197 t187).bind fun t210 => (if t210 = true then (if (t200 != t190) = true then (laws_FnExactMemCas.j1 kj13 a1 a2 a3 t190 t191 true l0_0 t187 t197) else (laws_FnExactMemCas.j1 kj13 a1 a2 a3 t190 t191 (t201 != t191) l0_0 t187 t197)) else (laws_FnExactMemCas.j1 kj13 a1 a2 a3 t190 t191 true l0_0 t187 t197))))) else (some false)))) = some r := by rw [if_neg (show ¬ (false = true) by decide)] at H; exact H
          clear H
          have H := H1
          clear H1
          replace H := Option.bind_eq_some_iff.mp H
          obtain ⟨t204, A680, H⟩ := H
          replace H : ((laws_eqMem.f kj13 t193 t204).bind fun t207 => (if t207 = true then ((laws_markMem.f kj13 t193 1).bind fun bt208 => (if bt208.1 < 0 then (laws_FnExactMemCas.j1 kj13 a1 a2 a3 t190 t191 true l0_0 t187 t197) else ((laws_eqMem.f kj13 t197 t187).bind fun t210 => (if t210 = true then (if (t200 != t190) = true then (laws_FnExactMemCas.j1 kj13 a1 a2 a3 t190 t191 true l0_0 t187 t197) else (laws_FnExactMemCas.j1 kj13 a1 a2 a3 t190 t191 (t201 != t191) l0_0 t187 t197)) else (laws_FnExactMemCas.j1 kj13 a1 a2 a3 t190 t191 true l0_0 t187 t197))))) else (some false))) = some r := H
          have A68 := Aside0.mk A680
          clear A680
          replace H := Option.bind_eq_some_iff.mp H
          obtain ⟨t207, A690, H⟩ := H
          replace H : (if t207 = true then ((laws_markMem.f kj13 t193 1).bind fun bt208 => (if bt208.1 < 0 then (laws_FnExactMemCas.j1 kj13 a1 a2 a3 t190 t191 true l0_0 t187 t197) else ((laws_eqMem.f kj13 t197 t187).bind fun t210 => (if t210 = true then (if (t200 != t190) = true then (laws_FnExactMemCas.j1 kj13 a1 a2 a3 t190 t191 true l0_0 t187 t197) else (laws_FnExactMemCas.j1 kj13 a1 a2 a3 t190 t191 (t201 != t191) l0_0 t187 t197)) else (laws_FnExactMemCas.j1 kj13 a1 a2 a3 t190 t191 true l0_0 t187 t197))))) else (some false)) = some r := H
          have A69 := Aside0.mk A690
          clear A690
          by_cases c70 : t207 = true
          · subst c70
            have H1 : ((laws_markMem.f kj13 t193 1).bind fun bt208 => (if bt208.1 < 0 then (laws_FnExactMemCas.j1 kj13 a1 a2 a3 t190 t191 true l0_0 t187 t197) else ((laws_eqMem.f kj13 t197 t187).bind fun t210 => (if t210 = true then (if (t200 != t190) = true then (laws_FnExactMemCas.j1 kj13 a1 a2 a3 t190 t191 true l0_0 t187 t197) else (laws_FnExactMemCas.j1 kj13 a1 a2 a3 t190 t191 (t201 != t191) l0_0 t187 t197)) else (laws_FnExactMemCas.j1 kj13 a1 a2 a3 t190 t191 true l0_0 t187 t197))))) = some r := by rw [if_pos rfl] at H; exact H
            clear H
            have H := H1
            clear H1
            replace H := Option.bind_eq_some_iff.mp H
            obtain ⟨⟨t208, t209⟩, A710, H⟩ := H
            replace H : (if t208 < 0 then (laws_FnExactMemCas.j1 kj13 a1 a2 a3 t190 t191 true l0_0 t187 t197) else ((laws_eqMem.f kj13 t197 t187).bind fun t210 => (if t210 = true then (if (t200 != t190) = true then (laws_FnExactMemCas.j1 kj13 a1 a2 a3 t190 t191 true l0_0 t187 t197) else (laws_FnExactMemCas.j1 kj13 a1 a2 a3 t190 t191 (t201 != t191) l0_0 t187 t197)) else (laws_FnExactMemCas.j1 kj13 a1 a2 a3 t190 t191 true l0_0 t187 t197)))) = some r := H
            have A71 := Aside0.mk A710
            clear A710
            have HC72 := Aside0.mk H
            clear H
            try go_wp2
            have n0_ := Aside0.mk (Kd.R_drew HO_193000.out)
            have n1_ := Aside0.mk (Kd.R_drew HO_197000.out)
            have n2_ := Aside0.mk (Kd.R_drew HO_203000.out)
            have n3_ := Aside0.mk (blk_drew BK182.out)
            have n4_ := Aside0.mk (blk_drew BK192.out)
            have n5_ := Aside0.mk (blk_drew BK196.out)
            have n6_ := Aside0.mk (blk_drew BK202.out)
            have n7_ := Aside0.mk (below_drew1 HB.out)
            clear HO_193000
            clear HO_197000
            clear HO_203000
            clear BK182
            clear BK192
            clear BK196
            clear BK202
            clear HB
            have HO_193000 := n0_
            have HO_197000 := n1_
            have HO_203000 := n2_
            have BK182 := n3_
            have BK192 := n4_
            have BK196 := n5_
            have BK202 := n6_
            have HB := n7_
            clear n0_ n1_ n2_ n3_ n4_ n5_ n6_ n7_
            refine start_ (n := 5) (S := fun w' => w'.cell? ⟨gb196, 0, none⟩ = some (.slice Ao29 t193.length co29) ∧ w'.cell? ⟨gb182, 0, none⟩ = some (.slice A0_0 l0_0.length c0_0)) (ds := []) #[false, false, false, false, false] (by kernel_rfl) rfl rfl ⟨(blk_cell BK196.out 0).trans rfl, (blk_cell BK182.out 0).trans rfl⟩ (fun hHeld => ?_)
            generalize wc.drew = w73 at HO_193000 HO_197000 HO_203000 BK182 BK192 BK196 BK202 HB hHeld ⊢
            refine take_ (i := 0) (N := some 63) (v := ?_) (a' := ?_) #[true, false, false, false, false] rfl rfl (by kernel_rfl) (fun _ _ _ h => h) (Or.inl ⟨by rfl, ?_⟩) hHeld ?_ ?_
            rotate_left
            · rintro w' ⟨s0, s1⟩
              go_simp
              with_reducible rfl
            rotate_left
            · simp only [Act.put, List.setIfInBounds_toArray, List.set_cons_zero, List.set_cons_succ, i64_w, i32_w]
              rfl
            refine take_ (i := 1) (N := some 64) (v := ?_) (a' := ?_) #[true, true, false, false, false] rfl rfl (by kernel_rfl) (fun _ _ _ h => h) (Or.inl ⟨by rfl, ?_⟩) hHeld ?_ ?_
            rotate_left
            · rintro w' ⟨s0, s1⟩
              go_simp
              with_reducible rfl
            rotate_left
            · simp only [Act.put, List.setIfInBounds_toArray, List.set_cons_zero, List.set_cons_succ, i64_w, i32_w]
              rfl
            refine one_ (i := 2) (N := some 65) #[true, true, true, false, false] rfl rfl (by kernel_rfl) (by decide) (fun K hK => ?_)
            refine goes_ Try.func28 (by kernel_rfl) rfl #[.agg #[.slice A0_0 l0_0.length c0_0]] (by rfl) rfl rfl (by (try simp only [List.map_toArray, List.map_cons, List.map_nil]); first | done | rfl | (simp only [List.length_drop, List.length_take]; rfl)) ?_
            with_reducible refine (laws_toMem.calls kj13 _ _ l0_0 t204 _ ?side1 ?side2 A68.out).mono ?_
            (case side1 => repeat (first | exact (Kd.C_below HR0_0.out HB.out) | (with_reducible refine Kd.C_alloc ?_ _) | (with_reducible refine Kd.C_drewN ?_ _) | (with_reducible refine Kd.C_drew ?_)))
            (case side2 => exact HC0_0.out)
            rintro e w74 ⟨v205, rfl, ho0, hb⟩
            refine ⟨_, rfl, ?_⟩
            have n0_ := Aside0.mk (Kd.R_elder' (by (with_reducible repeat (first | apply Kd.R_alloc | apply Kd.R_drewN | apply Kd.R_drew)); exact HO_193000.out) (Kd.R_base ho0) hb)
            have n1_ := Aside0.mk (Kd.R_elder' (by (with_reducible repeat (first | apply Kd.R_alloc | apply Kd.R_drewN | apply Kd.R_drew)); exact HO_197000.out) (Kd.R_base ho0) hb)
            have n2_ := Aside0.mk (Kd.R_elder' (by (with_reducible repeat (first | apply Kd.R_alloc | apply Kd.R_drewN | apply Kd.R_drew)); exact HO_203000.out) (Kd.R_base ho0) hb)
            have n3_ := Aside0.mk (Kd.R_lower (Kd.R_new' (Kd.R_new' (Kd.R_new' ho0 (Kd.R_lt (by (with_reducible repeat (first | apply Kd.R_alloc | apply Kd.R_drewN | apply Kd.R_drew)); exact HO_193000.out))) (Kd.R_lt (by (with_reducible repeat (first | apply Kd.R_alloc | apply Kd.R_drewN | apply Kd.R_drew)); exact HO_197000.out))) (Kd.R_lt (by (with_reducible repeat (first | apply Kd.R_alloc | apply Kd.R_drewN | apply Kd.R_drew)); exact HO_203000.out))) (below_size (by repeat (first | (with_reducible first | exact HB.out | apply below_alloc | apply pw_below_drewN | apply below_drew1 | refine below_set ?_ GE182.out | refine below_set ?_ GE192.out | refine below_set ?_ GE196.out | refine below_set ?_ GE202.out) | exact HB.out))))
            have n4_ := Aside0.mk (blk_below (g := gb182) (o := .cells #[.slice A0_0 l0_0.length c0_0] 42 (0, 0)) (by (with_reducible repeat (first | refine blk_drewN ?_ _ | refine blk_drew ?_ | refine blk_alloc ?_ _)); exact BK182.out) hb)
            have n5_ := Aside0.mk (blk_below (g := gb192) (o := .cells #[.slice Ao23 t187.length co23] 44 (0, 0)) (by (with_reducible repeat (first | refine blk_drewN ?_ _ | refine blk_drew ?_ | refine blk_alloc ?_ _)); exact BK192.out) hb)
            have n6_ := Aside0.mk (blk_below (g := gb196) (o := .cells #[.slice Ao29 t193.length co29] 44 (0, 0)) (by (with_reducible repeat (first | refine blk_drewN ?_ _ | refine blk_drew ?_ | refine blk_alloc ?_ _)); exact BK196.out) hb)
            have n7_ := Aside0.mk (blk_below (g := gb202) (o := .cells #[.slice Ao35 t197.length co35] 44 (0, 0)) (by (with_reducible repeat (first | refine blk_drewN ?_ _ | refine blk_drew ?_ | refine blk_alloc ?_ _)); exact BK202.out) hb)
            have n8_ := Aside0.mk (below_step (by repeat (first | (with_reducible first | exact HB.out | apply below_alloc | apply pw_below_drewN | apply below_drew1 | refine below_set ?_ GE182.out | refine below_set ?_ GE192.out | refine below_set ?_ GE196.out | refine below_set ?_ GE202.out) | exact HB.out)) hb)
            clear HO_193000
            clear HO_197000
            clear HO_203000
            clear BK182
            clear BK192
            clear BK196
            clear BK202
            clear HB
            have HO_193000 := n0_
            have HO_197000 := n1_
            have HO_203000 := n2_
            have HO206 := n3_
            have BK182 := n4_
            have BK192 := n5_
            have BK196 := n6_
            have BK202 := n7_
            have HB := n8_
            clear n0_ n1_ n2_ n3_ n4_ n5_ n6_ n7_ n8_
            (try clear hb)
            (try clear hb2)
            (try clear hk)
            (try clear hi)
            (try clear ho0)
            obtain ⟨Ao75, co75, eo75⟩ := Kd.R_slice HO206.out
            (first | subst eo75 | (injection eo75 with f1_ f2_ f3_; have f4_ := f1_.symm; have f5_ := f3_.symm; clear f1_ f2_ f3_; subst f4_; subst f5_))
            refine hK.out _ _ ⟨(blk_cell BK196.out 0).trans rfl, (blk_cell BK182.out 0).trans rfl⟩ (fun hHeld => ?_)
            clear hK K
            refine norm_ (a' := ?_) ?_ ?_
            rotate_left
            · show Act.put _ (some 65) _ = _
              simp only [Act.put, List.setIfInBounds_toArray, List.set_cons_zero, List.set_cons_succ, i64_w, i32_w]
              rfl
            refine one_ (i := 3) (N := some 66) #[true, true, true, true, false] rfl rfl (by kernel_rfl) (by decide) (fun K hK => ?_)
            refine goes_ Try.func30 (by kernel_rfl) rfl #[.agg #[.slice Ao29 t193.length co29], .agg #[.slice Ao75 t204.length co75]] (by rfl) rfl rfl (by (try simp only [List.map_toArray, List.map_cons, List.map_nil]); first | done | rfl | (simp only [List.length_drop, List.length_take]; rfl)) ?_
            with_reducible refine (laws_eqMem.calls kj13 _ _ t193 _ _ t204 true _ ?side1 ?side2 ?side3 ?side4 A69.out).mono ?_
            (case side1 => repeat (first | exact (Kd.R_reads' HO_197000.out).2.2 | (with_reducible refine Kd.C_alloc ?_ _) | (with_reducible refine Kd.C_drewN ?_ _) | (with_reducible refine Kd.C_drew ?_)))
            (case side2 => exact (Kd.R_reads' HO_197000.out).2.1)
            (case side3 => repeat (first | exact (Kd.R_reads' HO206.out).2.2 | (with_reducible refine Kd.C_alloc ?_ _) | (with_reducible refine Kd.C_drewN ?_ _) | (with_reducible refine Kd.C_drew ?_)))
            (case side4 => exact (Kd.R_reads' HO206.out).2.1)
            rintro e w76 ⟨rfl, hb⟩
            refine ⟨_, rfl, ?_⟩
            have n0_ := Aside0.mk (Kd.R_below (by (with_reducible repeat (first | apply Kd.R_alloc | apply Kd.R_drewN | apply Kd.R_drew)); exact HO_193000.out) hb)
            have n1_ := Aside0.mk (Kd.R_below (by (with_reducible repeat (first | apply Kd.R_alloc | apply Kd.R_drewN | apply Kd.R_drew)); exact HO_197000.out) hb)
            have n2_ := Aside0.mk (Kd.R_below (by (with_reducible repeat (first | apply Kd.R_alloc | apply Kd.R_drewN | apply Kd.R_drew)); exact HO_203000.out) hb)
            have n3_ := Aside0.mk (Kd.R_below (by (with_reducible repeat (first | apply Kd.R_alloc | apply Kd.R_drewN | apply Kd.R_drew)); exact HO206.out) hb)
            have n4_ := Aside0.mk (blk_below (g := gb182) (o := .cells #[.slice A0_0 l0_0.length c0_0] 42 (0, 0)) (by (with_reducible repeat (first | refine blk_drewN ?_ _ | refine blk_drew ?_ | refine blk_alloc ?_ _)); exact BK182.out) hb)
            have n5_ := Aside0.mk (blk_below (g := gb192) (o := .cells #[.slice Ao23 t187.length co23] 44 (0, 0)) (by (with_reducible repeat (first | refine blk_drewN ?_ _ | refine blk_drew ?_ | refine blk_alloc ?_ _)); exact BK192.out) hb)
            have n6_ := Aside0.mk (blk_below (g := gb196) (o := .cells #[.slice Ao29 t193.length co29] 44 (0, 0)) (by (with_reducible repeat (first | refine blk_drewN ?_ _ | refine blk_drew ?_ | refine blk_alloc ?_ _)); exact BK196.out) hb)
            have n7_ := Aside0.mk (blk_below (g := gb202) (o := .cells #[.slice Ao35 t197.length co35] 44 (0, 0)) (by (with_reducible repeat (first | refine blk_drewN ?_ _ | refine blk_drew ?_ | refine blk_alloc ?_ _)); exact BK202.out) hb)
            have n8_ := Aside0.mk (below_step (by repeat (first | (with_reducible first | exact HB.out | apply below_alloc | apply pw_below_drewN | apply below_drew1 | refine below_set ?_ GE182.out | refine below_set ?_ GE192.out | refine below_set ?_ GE196.out | refine below_set ?_ GE202.out) | exact HB.out)) hb)
            clear HO_193000
            clear HO_197000
            clear HO_203000
            clear HO206
            clear BK182
            clear BK192
            clear BK196
            clear BK202
            clear HB
            have HO_193000 := n0_
            have HO_197000 := n1_
            have HO_203000 := n2_
            have HO206 := n3_
            have BK182 := n4_
            have BK192 := n5_
            have BK196 := n6_
            have BK202 := n7_
            have HB := n8_
            clear n0_ n1_ n2_ n3_ n4_ n5_ n6_ n7_ n8_
            (try clear hb)
            (try clear hb2)
            (try clear hk)
            (try clear hi)
            refine hK.out _ _ ⟨(blk_cell BK196.out 0).trans rfl, (blk_cell BK182.out 0).trans rfl⟩ (fun hHeld => ?_)
            clear hK K
            refine norm_ (a' := ?_) ?_ ?_
            rotate_left
            · show Act.put _ (some 66) _ = _
              simp only [Act.put, List.setIfInBounds_toArray, List.set_cons_zero, List.set_cons_succ, i64_w, i32_w]
              rfl
            refine pure_ (i := 4) (N := some 67) (v := ?_) (a' := ?_) #[true, true, true, true, true] rfl rfl (by kernel_rfl) (fun _ _ _ h => h) (Or.inl ⟨by rfl, ?_⟩) ?_ ?_
            rotate_left
            · intro w'
              go_simp
              with_reducible rfl
            rotate_left
            · simp only [Act.put, List.setIfInBounds_toArray, List.set_cons_zero, List.set_cons_succ, i64_w, i32_w]
              rfl
            refine done_ (by kernel_rfl) ?_
            have hnb77 := NB196_182.out
            have hnc77 := NB182_196.out
            have hnb78 := NB196_192.out
            have hnc78 := NB192_196.out
            have hnb79 := NB196_202.out
            have hnc79 := NB202_196.out
            have hcz80_0 : w76.cell? ⟨gb196, 0, none⟩ = some (.slice Ao29 t193.length co29) := (blk_cell BK196.out 0).trans rfl
            have hfz80_0 := blk_frozen BK196.out 0
            go_upto_region 14 with (first | ((with_reducible refine gate_callee (f := 31) rfl ?_); refine goesL_ (some 70) rfl rfl Try.func31 (by kernel_rfl) rfl #[.agg #[.slice Ao29 t193.length co29], .int .i64 1] rfl (by (try simp only [List.map_toArray, List.map_cons, List.map_nil]); first | done | rfl | (simp only [List.length_drop, List.length_take]; rfl)) ?_; (with_reducible refine (laws_markMem.calls kj13 (fun k_ => some k_ = (.slice Ao29 t193.length co29 : Value).ownBlock) (.slice Ao29 t193.length co29) t193 1 t208 t209 w _ ?side1 ?side2 A71.out).mono ?_); (case side1 => repeat (first | (with_reducible first | exact HB.out | apply below_alloc | apply pw_below_drewN | apply below_drew1 | refine below_set ?_ GE182.out | refine below_set ?_ GE192.out | refine below_set ?_ GE196.out | refine below_set ?_ GE202.out) | exact HB.out)); (case side2 => exact Kd.R_tight rfl HO_197000.out); rintro e w81 ⟨rfl, hy0, hb, hkp⟩; refine ⟨_, rfl, ?_⟩; have n0_ := Aside0.mk (Kd.R_mono (ok' := fun k_ => some k_ ≠ (.slice Ao29 t193.length co29 : Value).ownBlock ∧ some k_ ≠ (.slice Ao35 t197.length co35 : Value).ownBlock ∧ some k_ ≠ (.slice Ao75 t204.length co75 : Value).ownBlock) (Kd.R_keptB (HO_193000.out) hkp (fun k_ hk_ hs_ => (hk_.1.1) hs_)) (fun k_ hk_ => ⟨hk_.1.1.1, hk_.1.1.2, hk_.1.2⟩)); have n1_ := Aside0.mk (Kd.R_reok rfl hy0 (fun k_ e_ => HO_197000.out.1 k_ e_)); have n2_ := Aside0.mk (Kd.R_mono (ok' := fun k_ => some k_ ≠ (.slice Ao23 t187.length co23 : Value).ownBlock ∧ some k_ ≠ (.slice Ao29 t193.length co29 : Value).ownBlock ∧ some k_ ≠ (.slice Ao75 t204.length co75 : Value).ownBlock) (Kd.R_keptB (HO_203000.out) hkp (fun k_ hk_ hs_ => (hk_.1.2) hs_)) (fun k_ hk_ => ⟨hk_.1.1.1, hk_.1.1.2, hk_.1.2⟩)); have n3_ := Aside0.mk (blk_kept (by (with_reducible repeat (first | refine blk_drewN ?_ _ | refine blk_drew ?_ | refine blk_alloc ?_ _)); exact BK182.out) hkp (fun hs_ => (fun e_ => (Kd.R_ne HO_197000.out BK182.out (by decide)) e_) hs_)); have n4_ := Aside0.mk (blk_kept (by (with_reducible repeat (first | refine blk_drewN ?_ _ | refine blk_drew ?_ | refine blk_alloc ?_ _)); exact BK192.out) hkp (fun hs_ => (fun e_ => (Kd.R_ne HO_197000.out BK192.out (by decide)) e_) hs_)); have n5_ := Aside0.mk (blk_kept (by (with_reducible repeat (first | refine blk_drewN ?_ _ | refine blk_drew ?_ | refine blk_alloc ?_ _)); exact BK196.out) hkp (fun hs_ => (fun e_ => (Kd.R_ne HO_197000.out BK196.out (by decide)) e_) hs_)); have n6_ := Aside0.mk (blk_kept (by (with_reducible repeat (first | refine blk_drewN ?_ _ | refine blk_drew ?_ | refine blk_alloc ?_ _)); exact BK202.out) hkp (fun hs_ => (fun e_ => (Kd.R_ne HO_197000.out BK202.out (by decide)) e_) hs_)); have n7_ := Aside0.mk (Kd.R_mono (ok' := fun k_ => some k_ ≠ (.slice Ao23 t187.length co23 : Value).ownBlock ∧ some k_ ≠ (.slice Ao29 t193.length co29 : Value).ownBlock ∧ some k_ ≠ (.slice Ao35 t197.length co35 : Value).ownBlock) (Kd.R_keptB (HO206.out) hkp (fun k_ hk_ hs_ => (hk_.1.2) hs_)) (fun k_ hk_ => ⟨hk_.1.1.1.2, hk_.1.1.2, hk_.1.2⟩)); have n8_ := Aside0.mk (hb); clear HO_193000; clear HO_197000; clear HO_203000; clear BK182; clear BK192; clear BK196; clear BK202; clear HO206; clear HB; have HO_193000 := n0_; have HO_197000 := n1_; have HO_203000 := n2_; have BK182 := n3_; have BK192 := n4_; have BK196 := n5_; have BK202 := n6_; have HO206 := n7_; have HB := n8_; clear n0_ n1_ n2_ n3_ n4_ n5_ n6_ n7_ n8_; (try clear hb); (try clear hkp); (try clear hy0)))
            (try simp only [Act.put, List.setIfInBounds_toArray, List.set_cons_zero, List.set_cons_succ])
            go_cut [88] (fun v88 wc => ∃ (kq : Nat) (x88_71 : Bool), v88 = .bool x88_71 ∧ Aside0 (laws_FnExactMemCas.j1 kq a1 a2 a3 t190 t191 x88_71 l0_0 t187 t197 = some r) ∧ Aside0 (kq ≤ kj13) ∧ Aside0 (Kd.R (Kd.int .u32) 22 wc w.heap.size (fun k_ => some k_ ≠ ((.slice Ao29 t193.length co29) : Value).ownBlock ∧ some k_ ≠ ((.slice Ao35 t197.length co35) : Value).ownBlock) (.slice Ao23 t187.length co23) t187) ∧ Aside0 (Kd.R (Kd.int .u32) 22 wc w.heap.size (fun k_ => some k_ ≠ ((.slice Ao23 t187.length co23) : Value).ownBlock ∧ some k_ ≠ ((.slice Ao35 t197.length co35) : Value).ownBlock) (.slice Ao29 t193.length co29) t209) ∧ Aside0 (Kd.R (Kd.int .u32) 22 wc w.heap.size (fun k_ => some k_ ≠ ((.slice Ao23 t187.length co23) : Value).ownBlock ∧ some k_ ≠ ((.slice Ao29 t193.length co29) : Value).ownBlock) (.slice Ao35 t197.length co35) t197) ∧ Aside0 (wc.heap[gb182]? = some (.cells #[(.slice A0_0 l0_0.length c0_0)] 42 (0, 0))) ∧ Aside0 (wc.heap[gb192]? = some (.cells #[(.slice Ao23 t187.length co23)] 44 (0, 0))) ∧ Aside0 (wc.heap[gb196]? = some (.cells #[(.slice Ao29 t193.length co29)] 44 (0, 0))) ∧ Aside0 (wc.heap[gb202]? = some (.cells #[(.slice Ao35 t197.length co35)] 44 (0, 0))) ∧ Aside0 (Below w.heap.size w wc))
            case first =>
              have H := HC72.out
              clear HC72
              by_cases c82 : t208 < 0
              · rw [if_pos c82] at H
                have c82b0 : decide (t208 < 0) = true := decide_eq_true c82
                clear c82
                (first | rw [c82b0] | (simp only [i64_w, i32_w]; rw [c82b0]) | skip)
                have H' := Aside0.mk H
                clear H
                go_wp2
                go_meet
                case rel => exact ⟨_, (true), (by first | rfl | (simp; done) | (simp [*]; done)), H', ⟨by have := HJ13.out; first | omega | exact Nat.le_refl _⟩, ⟨by (with_reducible repeat (first | apply Kd.R_alloc | apply Kd.R_drewN | apply Kd.R_drew)); exact Kd.R_mono HO_193000.out (fun _ hk => ⟨hk.1, hk.2.1⟩)⟩, ⟨by (with_reducible repeat (first | apply Kd.R_alloc | apply Kd.R_drewN | apply Kd.R_drew)); exact Kd.R_mono HO_197000.out (fun _ hk => ⟨hk.1.1, hk.1.2⟩)⟩, ⟨by (with_reducible repeat (first | apply Kd.R_alloc | apply Kd.R_drewN | apply Kd.R_drew)); exact Kd.R_mono HO_203000.out (fun _ hk => ⟨hk.1, hk.2.1⟩)⟩, ⟨by (with_reducible repeat (first | refine blk_drewN ?_ _ | refine blk_drew ?_ | refine blk_alloc ?_ _)); exact BK182.out⟩, ⟨by (with_reducible repeat (first | refine blk_drewN ?_ _ | refine blk_drew ?_ | refine blk_alloc ?_ _)); exact BK192.out⟩, ⟨by (with_reducible repeat (first | refine blk_drewN ?_ _ | refine blk_drew ?_ | refine blk_alloc ?_ _)); exact BK196.out⟩, ⟨by (with_reducible repeat (first | refine blk_drewN ?_ _ | refine blk_drew ?_ | refine blk_alloc ?_ _)); exact BK202.out⟩, ⟨by repeat (first | (with_reducible first | exact HB.out | apply below_alloc | apply pw_below_drewN | apply below_drew1 | refine below_set ?_ GE182.out | refine below_set ?_ GE192.out | refine below_set ?_ GE196.out | refine below_set ?_ GE202.out) | exact HB.out)⟩⟩
              · rw [if_neg c82] at H
                have c82b0 : decide (t208 < 0) = false := decide_eq_false c82
                clear c82
                (first | rw [c82b0] | (simp only [i64_w, i32_w]; rw [c82b0]) | skip)
                replace H := Option.bind_eq_some_iff.mp H
                obtain ⟨t210, A830, H⟩ := H
                replace H : (if t210 = true then (if (t200 != t190) = true then (laws_FnExactMemCas.j1 kj13 a1 a2 a3 t190 t191 true l0_0 t187 t197) else (laws_FnExactMemCas.j1 kj13 a1 a2 a3 t190 t191 (t201 != t191) l0_0 t187 t197)) else (laws_FnExactMemCas.j1 kj13 a1 a2 a3 t190 t191 true l0_0 t187 t197)) = some r := H
                have A83 := Aside0.mk A830
                clear A830
                by_cases c84 : t210 = true
                · subst c84
                  have H1 : (if (t200 != t190) = true then (laws_FnExactMemCas.j1 kj13 a1 a2 a3 t190 t191 true l0_0 t187 t197) else (laws_FnExactMemCas.j1 kj13 a1 a2 a3 t190 t191 (t201 != t191) l0_0 t187 t197)) = some r := by rw [if_pos rfl] at H; exact H
                  clear H
                  have H := H1
                  clear H1
                  by_cases c85 : (t200 != t190) = true
                  · rw [if_pos c85] at H
                    have c85b0 : (t200 != t190) = true := c85
                    (try (have c85b1 : decide (t200 = t190) = false := by simpa using c85))
                    (try (have c85b2 : (t200 == t190) = false := by simpa using c85))
                    (try (have c85b3 : ¬ (t200 = t190) := by simpa using c85))
                    clear c85
                    have H' := Aside0.mk H
                    clear H
                    have hnb86 := NB202_182.out
                    have hnc86 := NB182_202.out
                    have hnb87 := NB202_192.out
                    have hnc87 := NB192_202.out
                    have hnb88 := NB202_196.out
                    have hnc88 := NB196_202.out
                    have hcz89_0 : w81.cell? ⟨gb202, 0, none⟩ = some (.slice Ao35 t197.length co35) := (blk_cell BK202.out 0).trans rfl
                    have hfz89_0 := blk_frozen BK202.out 0
                    have hnb90 := NB192_182.out
                    have hnc90 := NB182_192.out
                    have hnb91 := NB192_196.out
                    have hnc91 := NB196_192.out
                    have hcz92_0 : w81.cell? ⟨gb192, 0, none⟩ = some (.slice Ao23 t187.length co23) := (blk_cell BK192.out 0).trans rfl
                    have hfz92_0 := blk_frozen BK192.out 0
                    go_wp2_with (first | (go_at_call 30; (with_reducible refine (laws_eqMem.calls kj13 _ _ t197 _ _ t187 true _ ?side1 ?side2 ?side3 ?side4 A83.out).mono ?_); (case side1 => repeat (first | exact (Kd.R_reads' HO_203000.out).2.2 | (with_reducible refine Kd.C_alloc ?_ _) | (with_reducible refine Kd.C_drewN ?_ _) | (with_reducible refine Kd.C_drew ?_))); (case side2 => exact (Kd.R_reads' HO_203000.out).2.1); (case side3 => repeat (first | exact (Kd.R_reads' HO_193000.out).2.2 | (with_reducible refine Kd.C_alloc ?_ _) | (with_reducible refine Kd.C_drewN ?_ _) | (with_reducible refine Kd.C_drew ?_))); (case side4 => exact (Kd.R_reads' HO_193000.out).2.1); rintro e w93 ⟨rfl, hb⟩; have n0_ := Aside0.mk (Kd.R_below (by (with_reducible repeat (first | apply Kd.R_alloc | apply Kd.R_drewN | apply Kd.R_drew)); exact HO_193000.out) hb); have n1_ := Aside0.mk (Kd.R_below (by (with_reducible repeat (first | apply Kd.R_alloc | apply Kd.R_drewN | apply Kd.R_drew)); exact HO_197000.out) hb); have n2_ := Aside0.mk (Kd.R_below (by (with_reducible repeat (first | apply Kd.R_alloc | apply Kd.R_drewN | apply Kd.R_drew)); exact HO_203000.out) hb); have n3_ := Aside0.mk (Kd.R_below (by (with_reducible repeat (first | apply Kd.R_alloc | apply Kd.R_drewN | apply Kd.R_drew)); exact HO206.out) hb); have n4_ := Aside0.mk (blk_below (g := gb182) (o := .cells #[.slice A0_0 l0_0.length c0_0] 42 (0, 0)) (by (with_reducible repeat (first | refine blk_drewN ?_ _ | refine blk_drew ?_ | refine blk_alloc ?_ _)); exact BK182.out) hb); have n5_ := Aside0.mk (blk_below (g := gb192) (o := .cells #[.slice Ao23 t187.length co23] 44 (0, 0)) (by (with_reducible repeat (first | refine blk_drewN ?_ _ | refine blk_drew ?_ | refine blk_alloc ?_ _)); exact BK192.out) hb); have n6_ := Aside0.mk (blk_below (g := gb196) (o := .cells #[.slice Ao29 t193.length co29] 44 (0, 0)) (by (with_reducible repeat (first | refine blk_drewN ?_ _ | refine blk_drew ?_ | refine blk_alloc ?_ _)); exact BK196.out) hb); have n7_ := Aside0.mk (blk_below (g := gb202) (o := .cells #[.slice Ao35 t197.length co35] 44 (0, 0)) (by (with_reducible repeat (first | refine blk_drewN ?_ _ | refine blk_drew ?_ | refine blk_alloc ?_ _)); exact BK202.out) hb); have n8_ := Aside0.mk (below_step (by repeat (first | (with_reducible first | exact HB.out | apply below_alloc | apply pw_below_drewN | apply below_drew1 | refine below_set ?_ GE182.out | refine below_set ?_ GE192.out | refine below_set ?_ GE196.out | refine below_set ?_ GE202.out) | exact HB.out)) hb); clear HO_193000; clear HO_197000; clear HO_203000; clear HO206; clear BK182; clear BK192; clear BK196; clear BK202; clear HB; have HO_193000 := n0_; have HO_197000 := n1_; have HO_203000 := n2_; have HO206 := n3_; have BK182 := n4_; have BK192 := n5_; have BK196 := n6_; have BK202 := n7_; have HB := n8_; clear n0_ n1_ n2_ n3_ n4_ n5_ n6_ n7_ n8_; (try clear hb); (try clear hb2); (try clear hk); (try clear hi)))
                    go_meet
                    case rel => exact ⟨_, (true), (by first | rfl | (simp; done) | (simp [*]; done)), H', ⟨by have := HJ13.out; first | omega | exact Nat.le_refl _⟩, ⟨by (with_reducible repeat (first | apply Kd.R_alloc | apply Kd.R_drewN | apply Kd.R_drew)); exact Kd.R_mono HO_193000.out (fun _ hk => ⟨hk.1, hk.2.1⟩)⟩, ⟨by (with_reducible repeat (first | apply Kd.R_alloc | apply Kd.R_drewN | apply Kd.R_drew)); exact Kd.R_mono HO_197000.out (fun _ hk => ⟨hk.1.1, hk.1.2⟩)⟩, ⟨by (with_reducible repeat (first | apply Kd.R_alloc | apply Kd.R_drewN | apply Kd.R_drew)); exact Kd.R_mono HO_203000.out (fun _ hk => ⟨hk.1, hk.2.1⟩)⟩, ⟨by (with_reducible repeat (first | refine blk_drewN ?_ _ | refine blk_drew ?_ | refine blk_alloc ?_ _)); exact BK182.out⟩, ⟨by (with_reducible repeat (first | refine blk_drewN ?_ _ | refine blk_drew ?_ | refine blk_alloc ?_ _)); exact BK192.out⟩, ⟨by (with_reducible repeat (first | refine blk_drewN ?_ _ | refine blk_drew ?_ | refine blk_alloc ?_ _)); exact BK196.out⟩, ⟨by (with_reducible repeat (first | refine blk_drewN ?_ _ | refine blk_drew ?_ | refine blk_alloc ?_ _)); exact BK202.out⟩, ⟨by repeat (first | (with_reducible first | exact HB.out | apply below_alloc | apply pw_below_drewN | apply below_drew1 | refine below_set ?_ GE182.out | refine below_set ?_ GE192.out | refine below_set ?_ GE196.out | refine below_set ?_ GE202.out) | exact HB.out)⟩⟩
                  · rw [if_neg c85] at H
                    have c85b0 : (t200 != t190) = false := by simpa using c85
                    (try (have c85b1 : decide (t200 = t190) = true := by simpa using c85))
                    (try (have c85b2 : (t200 == t190) = true := by simpa using c85))
                    clear c85
                    have H' := Aside0.mk H
                    clear H
                    have hnb94 := NB202_182.out
                    have hnc94 := NB182_202.out
                    have hnb95 := NB202_192.out
                    have hnc95 := NB192_202.out
                    have hnb96 := NB202_196.out
                    have hnc96 := NB196_202.out
                    have hcz97_0 : w81.cell? ⟨gb202, 0, none⟩ = some (.slice Ao35 t197.length co35) := (blk_cell BK202.out 0).trans rfl
                    have hfz97_0 := blk_frozen BK202.out 0
                    have hnb98 := NB192_182.out
                    have hnc98 := NB182_192.out
                    have hnb99 := NB192_196.out
                    have hnc99 := NB196_192.out
                    have hcz100_0 : w81.cell? ⟨gb192, 0, none⟩ = some (.slice Ao23 t187.length co23) := (blk_cell BK192.out 0).trans rfl
                    have hfz100_0 := blk_frozen BK192.out 0
                    go_wp2_with (first | (go_at_call 30; (with_reducible refine (laws_eqMem.calls kj13 _ _ t197 _ _ t187 true _ ?side1 ?side2 ?side3 ?side4 A83.out).mono ?_); (case side1 => repeat (first | exact (Kd.R_reads' HO_203000.out).2.2 | (with_reducible refine Kd.C_alloc ?_ _) | (with_reducible refine Kd.C_drewN ?_ _) | (with_reducible refine Kd.C_drew ?_))); (case side2 => exact (Kd.R_reads' HO_203000.out).2.1); (case side3 => repeat (first | exact (Kd.R_reads' HO_193000.out).2.2 | (with_reducible refine Kd.C_alloc ?_ _) | (with_reducible refine Kd.C_drewN ?_ _) | (with_reducible refine Kd.C_drew ?_))); (case side4 => exact (Kd.R_reads' HO_193000.out).2.1); rintro e w101 ⟨rfl, hb⟩; have n0_ := Aside0.mk (Kd.R_below (by (with_reducible repeat (first | apply Kd.R_alloc | apply Kd.R_drewN | apply Kd.R_drew)); exact HO_193000.out) hb); have n1_ := Aside0.mk (Kd.R_below (by (with_reducible repeat (first | apply Kd.R_alloc | apply Kd.R_drewN | apply Kd.R_drew)); exact HO_197000.out) hb); have n2_ := Aside0.mk (Kd.R_below (by (with_reducible repeat (first | apply Kd.R_alloc | apply Kd.R_drewN | apply Kd.R_drew)); exact HO_203000.out) hb); have n3_ := Aside0.mk (Kd.R_below (by (with_reducible repeat (first | apply Kd.R_alloc | apply Kd.R_drewN | apply Kd.R_drew)); exact HO206.out) hb); have n4_ := Aside0.mk (blk_below (g := gb182) (o := .cells #[.slice A0_0 l0_0.length c0_0] 42 (0, 0)) (by (with_reducible repeat (first | refine blk_drewN ?_ _ | refine blk_drew ?_ | refine blk_alloc ?_ _)); exact BK182.out) hb); have n5_ := Aside0.mk (blk_below (g := gb192) (o := .cells #[.slice Ao23 t187.length co23] 44 (0, 0)) (by (with_reducible repeat (first | refine blk_drewN ?_ _ | refine blk_drew ?_ | refine blk_alloc ?_ _)); exact BK192.out) hb); have n6_ := Aside0.mk (blk_below (g := gb196) (o := .cells #[.slice Ao29 t193.length co29] 44 (0, 0)) (by (with_reducible repeat (first | refine blk_drewN ?_ _ | refine blk_drew ?_ | refine blk_alloc ?_ _)); exact BK196.out) hb); have n7_ := Aside0.mk (blk_below (g := gb202) (o := .cells #[.slice Ao35 t197.length co35] 44 (0, 0)) (by (with_reducible repeat (first | refine blk_drewN ?_ _ | refine blk_drew ?_ | refine blk_alloc ?_ _)); exact BK202.out) hb); have n8_ := Aside0.mk (below_step (by repeat (first | (with_reducible first | exact HB.out | apply below_alloc | apply pw_below_drewN | apply below_drew1 | refine below_set ?_ GE182.out | refine below_set ?_ GE192.out | refine below_set ?_ GE196.out | refine below_set ?_ GE202.out) | exact HB.out)) hb); clear HO_193000; clear HO_197000; clear HO_203000; clear HO206; clear BK182; clear BK192; clear BK196; clear BK202; clear HB; have HO_193000 := n0_; have HO_197000 := n1_; have HO_203000 := n2_; have HO206 := n3_; have BK182 := n4_; have BK192 := n5_; have BK196 := n6_; have BK202 := n7_; have HB := n8_; clear n0_ n1_ n2_ n3_ n4_ n5_ n6_ n7_ n8_; (try clear hb); (try clear hb2); (try clear hk); (try clear hi)))
                    go_meet
                    case rel => exact ⟨_, ((t201 != t191)), (by first | rfl | (simp; done) | (simp [*]; done)), H', ⟨by have := HJ13.out; first | omega | exact Nat.le_refl _⟩, ⟨by (with_reducible repeat (first | apply Kd.R_alloc | apply Kd.R_drewN | apply Kd.R_drew)); exact Kd.R_mono HO_193000.out (fun _ hk => ⟨hk.1, hk.2.1⟩)⟩, ⟨by (with_reducible repeat (first | apply Kd.R_alloc | apply Kd.R_drewN | apply Kd.R_drew)); exact Kd.R_mono HO_197000.out (fun _ hk => ⟨hk.1.1, hk.1.2⟩)⟩, ⟨by (with_reducible repeat (first | apply Kd.R_alloc | apply Kd.R_drewN | apply Kd.R_drew)); exact Kd.R_mono HO_203000.out (fun _ hk => ⟨hk.1, hk.2.1⟩)⟩, ⟨by (with_reducible repeat (first | refine blk_drewN ?_ _ | refine blk_drew ?_ | refine blk_alloc ?_ _)); exact BK182.out⟩, ⟨by (with_reducible repeat (first | refine blk_drewN ?_ _ | refine blk_drew ?_ | refine blk_alloc ?_ _)); exact BK192.out⟩, ⟨by (with_reducible repeat (first | refine blk_drewN ?_ _ | refine blk_drew ?_ | refine blk_alloc ?_ _)); exact BK196.out⟩, ⟨by (with_reducible repeat (first | refine blk_drewN ?_ _ | refine blk_drew ?_ | refine blk_alloc ?_ _)); exact BK202.out⟩, ⟨by repeat (first | (with_reducible first | exact HB.out | apply below_alloc | apply pw_below_drewN | apply below_drew1 | refine below_set ?_ GE182.out | refine below_set ?_ GE192.out | refine below_set ?_ GE196.out | refine below_set ?_ GE202.out) | exact HB.out)⟩⟩
                · replace c84 := Bool.eq_false_iff.mpr c84
                  subst c84
                  have H1 : (laws_FnExactMemCas.j1 kj13 a1 a2 a3 t190 t191 true l0_0 t187 t197) = some r := by rw [if_neg (show ¬ (false = true) by decide)] at H; exact H
                  clear H
                  have H := H1
                  clear H1
                  have H' := Aside0.mk H
                  clear H
                  have hnb102 := NB202_182.out
                  have hnc102 := NB182_202.out
                  have hnb103 := NB202_192.out
                  have hnc103 := NB192_202.out
                  have hnb104 := NB202_196.out
                  have hnc104 := NB196_202.out
                  have hcz105_0 : w81.cell? ⟨gb202, 0, none⟩ = some (.slice Ao35 t197.length co35) := (blk_cell BK202.out 0).trans rfl
                  have hfz105_0 := blk_frozen BK202.out 0
                  have hnb106 := NB192_182.out
                  have hnc106 := NB182_192.out
                  have hnb107 := NB192_196.out
                  have hnc107 := NB196_192.out
                  have hcz108_0 : w81.cell? ⟨gb192, 0, none⟩ = some (.slice Ao23 t187.length co23) := (blk_cell BK192.out 0).trans rfl
                  have hfz108_0 := blk_frozen BK192.out 0
                  go_wp2_with (first | (go_at_call 30; (with_reducible refine (laws_eqMem.calls kj13 _ _ t197 _ _ t187 false _ ?side1 ?side2 ?side3 ?side4 A83.out).mono ?_); (case side1 => repeat (first | exact (Kd.R_reads' HO_203000.out).2.2 | (with_reducible refine Kd.C_alloc ?_ _) | (with_reducible refine Kd.C_drewN ?_ _) | (with_reducible refine Kd.C_drew ?_))); (case side2 => exact (Kd.R_reads' HO_203000.out).2.1); (case side3 => repeat (first | exact (Kd.R_reads' HO_193000.out).2.2 | (with_reducible refine Kd.C_alloc ?_ _) | (with_reducible refine Kd.C_drewN ?_ _) | (with_reducible refine Kd.C_drew ?_))); (case side4 => exact (Kd.R_reads' HO_193000.out).2.1); rintro e w109 ⟨rfl, hb⟩; have n0_ := Aside0.mk (Kd.R_below (by (with_reducible repeat (first | apply Kd.R_alloc | apply Kd.R_drewN | apply Kd.R_drew)); exact HO_193000.out) hb); have n1_ := Aside0.mk (Kd.R_below (by (with_reducible repeat (first | apply Kd.R_alloc | apply Kd.R_drewN | apply Kd.R_drew)); exact HO_197000.out) hb); have n2_ := Aside0.mk (Kd.R_below (by (with_reducible repeat (first | apply Kd.R_alloc | apply Kd.R_drewN | apply Kd.R_drew)); exact HO_203000.out) hb); have n3_ := Aside0.mk (Kd.R_below (by (with_reducible repeat (first | apply Kd.R_alloc | apply Kd.R_drewN | apply Kd.R_drew)); exact HO206.out) hb); have n4_ := Aside0.mk (blk_below (g := gb182) (o := .cells #[.slice A0_0 l0_0.length c0_0] 42 (0, 0)) (by (with_reducible repeat (first | refine blk_drewN ?_ _ | refine blk_drew ?_ | refine blk_alloc ?_ _)); exact BK182.out) hb); have n5_ := Aside0.mk (blk_below (g := gb192) (o := .cells #[.slice Ao23 t187.length co23] 44 (0, 0)) (by (with_reducible repeat (first | refine blk_drewN ?_ _ | refine blk_drew ?_ | refine blk_alloc ?_ _)); exact BK192.out) hb); have n6_ := Aside0.mk (blk_below (g := gb196) (o := .cells #[.slice Ao29 t193.length co29] 44 (0, 0)) (by (with_reducible repeat (first | refine blk_drewN ?_ _ | refine blk_drew ?_ | refine blk_alloc ?_ _)); exact BK196.out) hb); have n7_ := Aside0.mk (blk_below (g := gb202) (o := .cells #[.slice Ao35 t197.length co35] 44 (0, 0)) (by (with_reducible repeat (first | refine blk_drewN ?_ _ | refine blk_drew ?_ | refine blk_alloc ?_ _)); exact BK202.out) hb); have n8_ := Aside0.mk (below_step (by repeat (first | (with_reducible first | exact HB.out | apply below_alloc | apply pw_below_drewN | apply below_drew1 | refine below_set ?_ GE182.out | refine below_set ?_ GE192.out | refine below_set ?_ GE196.out | refine below_set ?_ GE202.out) | exact HB.out)) hb); clear HO_193000; clear HO_197000; clear HO_203000; clear HO206; clear BK182; clear BK192; clear BK196; clear BK202; clear HB; have HO_193000 := n0_; have HO_197000 := n1_; have HO_203000 := n2_; have HO206 := n3_; have BK182 := n4_; have BK192 := n5_; have BK196 := n6_; have BK202 := n7_; have HB := n8_; clear n0_ n1_ n2_ n3_ n4_ n5_ n6_ n7_ n8_; (try clear hb); (try clear hb2); (try clear hk); (try clear hi)))
                  go_meet
                  case rel => exact ⟨_, (true), (by first | rfl | (simp; done) | (simp [*]; done)), H', ⟨by have := HJ13.out; first | omega | exact Nat.le_refl _⟩, ⟨by (with_reducible repeat (first | apply Kd.R_alloc | apply Kd.R_drewN | apply Kd.R_drew)); exact Kd.R_mono HO_193000.out (fun _ hk => ⟨hk.1, hk.2.1⟩)⟩, ⟨by (with_reducible repeat (first | apply Kd.R_alloc | apply Kd.R_drewN | apply Kd.R_drew)); exact Kd.R_mono HO_197000.out (fun _ hk => ⟨hk.1.1, hk.1.2⟩)⟩, ⟨by (with_reducible repeat (first | apply Kd.R_alloc | apply Kd.R_drewN | apply Kd.R_drew)); exact Kd.R_mono HO_203000.out (fun _ hk => ⟨hk.1, hk.2.1⟩)⟩, ⟨by (with_reducible repeat (first | refine blk_drewN ?_ _ | refine blk_drew ?_ | refine blk_alloc ?_ _)); exact BK182.out⟩, ⟨by (with_reducible repeat (first | refine blk_drewN ?_ _ | refine blk_drew ?_ | refine blk_alloc ?_ _)); exact BK192.out⟩, ⟨by (with_reducible repeat (first | refine blk_drewN ?_ _ | refine blk_drew ?_ | refine blk_alloc ?_ _)); exact BK196.out⟩, ⟨by (with_reducible repeat (first | refine blk_drewN ?_ _ | refine blk_drew ?_ | refine blk_alloc ?_ _)); exact BK202.out⟩, ⟨by repeat (first | (with_reducible first | exact HB.out | apply below_alloc | apply pw_below_drewN | apply below_drew1 | refine below_set ?_ GE182.out | refine below_set ?_ GE192.out | refine below_set ?_ GE196.out | refine below_set ?_ GE202.out) | exact HB.out)⟩⟩
            case rest =>
              clear HC72
              try clear c1
              try clear c2
              try clear p2
              try clear c3
              try clear c4
              try clear c5
              try clear c6
              try clear c6b0
              try clear c7
              try clear c8
              try clear c9
              try clear c10
              try clear c11
              try clear c24
              try clear c26
              try clear c28
              try clear c30
              try clear c31
              try clear c36
              try clear c37
              try clear c38
              try clear c41
              try clear c42
              try clear c42b0
              try clear c42b1
              try clear c42b2
              try clear c43
              try clear c44
              try clear c45
              try clear c47
              try clear c48
              try clear c51
              try clear c52
              try clear c53
              try clear c55
              try clear c56
              try clear c59
              try clear c60
              try clear c61
              try clear c63
              try clear c64
              try clear c67
              try clear c70
              try clear c77
              try clear c78
              try clear c79
              try clear c82
              try clear c82b0
              try clear c84
              try clear c85
              try clear c85b0
              try clear c85b1
              try clear c85b2
              try clear c86
              try clear c87
              try clear c88
              try clear c90
              try clear c91
              try clear c94
              try clear c95
              try clear c96
              try clear c98
              try clear c99
              try clear c102
              try clear c103
              try clear c104
              try clear c106
              try clear c107
              try clear hcz100_0
              try clear hcz105_0
              try clear hcz108_0
              try clear hcz16_0
              try clear hcz18_0
              try clear hcz25_0
              try clear hcz26_0
              try clear hcz32_0
              try clear hcz39_0
              try clear hcz46_0
              try clear hcz49_0
              try clear hcz54_0
              try clear hcz57_0
              try clear hcz62_0
              try clear hcz65_0
              try clear hcz80_0
              try clear hcz89_0
              try clear hcz8_0
              try clear hcz92_0
              try clear hcz97_0
              try clear hfz100_0
              try clear hfz105_0
              try clear hfz108_0
              try clear hfz16_0
              try clear hfz18_0
              try clear hfz25_0
              try clear hfz26_0
              try clear hfz32_0
              try clear hfz39_0
              try clear hfz46_0
              try clear hfz49_0
              try clear hfz54_0
              try clear hfz57_0
              try clear hfz62_0
              try clear hfz65_0
              try clear hfz80_0
              try clear hfz89_0
              try clear hfz8_0
              try clear hfz92_0
              try clear hfz97_0
              try clear p2
              obtain ⟨kq, x88_71, rfl, HA, HJ71, HO_193000, HO_197000, HO_203000, BK182, BK192, BK196, BK202, HB⟩ := hcut
              have hl197000_71 := (Kd.R_reads' HO_197000.out).1
              rw [hl197000_71] at HO_197000
              (try simp only [hl197000_71])
              (try simp only [hl197000_71] at BK182)
              (try simp only [hl197000_71] at BK192)
              (try simp only [hl197000_71] at BK196)
              (try simp only [hl197000_71] at BK202)
              (try simp only [hl197000_71] at HO_193000)
              (try simp only [hl197000_71] at HO_203000)
              cases kq with
              | zero => exact absurd HA.out (by simp [laws_FnExactMemCas.j1])
              | succ kj71 =>
                have H := HA.out
                clear HA
                simp only [laws_FnExactMemCas.j1] at H
                by_cases c110 : x88_71 = true
                · subst c110
                  have H1 : (some false) = some r := by rw [if_pos rfl] at H; exact H
                  clear H
                  have H := H1
                  clear H1
                  obtain rfl := Option.some.inj H
                  go_wp2
                  go_ret
                  exact ⟨by first | rfl | (simp [errW_none, errW_some] <;> rfl) | (simp [*, errW_none, errW_some] <;> rfl), by repeat (first | (with_reducible first | exact HB.out | apply below_alloc | apply pw_below_drewN | apply below_drew1 | refine below_set ?_ GE182.out | refine below_set ?_ GE192.out | refine below_set ?_ GE196.out | refine below_set ?_ GE202.out) | exact HB.out)⟩
                · replace c110 := Bool.eq_false_iff.mpr c110
                  subst c110
                  have H1 : ((laws_markMem.f kj71 t197 1).bind fun bt211 => ((laws_heldMem.f kj71 bt211.2 1).bind fun t213 => (if t213 < 0 then (some false) else (if t213 = bt211.1 then ((laws_toMem.f kj71 l0_0).bind fun t214 => ((impl_MemCas.f t214 a1 a2 a3).bind fun bt217 => ((laws_eqMem.f kj71 bt217.1 t187).bind fun t223 => (if t223 = true then (if (bt217.2.1 != t190) = true then (laws_FnExactMemCas.j2 kj71 bt211.1 true bt211.2) else (laws_FnExactMemCas.j2 kj71 bt211.1 (bt217.2.2 != t191) bt211.2)) else (laws_FnExactMemCas.j2 kj71 bt211.1 true bt211.2))))) else (some false))))) = some r := by rw [if_neg (show ¬ (false = true) by decide)] at H; exact H
                  clear H
                  have H := H1
                  clear H1
                  replace H := Option.bind_eq_some_iff.mp H
                  obtain ⟨⟨t211, t212⟩, A1110, H⟩ := H
                  replace H : ((laws_heldMem.f kj71 t212 1).bind fun t213 => (if t213 < 0 then (some false) else (if t213 = t211 then ((laws_toMem.f kj71 l0_0).bind fun t214 => ((impl_MemCas.f t214 a1 a2 a3).bind fun bt217 => ((laws_eqMem.f kj71 bt217.1 t187).bind fun t223 => (if t223 = true then (if (bt217.2.1 != t190) = true then (laws_FnExactMemCas.j2 kj71 t211 true t212) else (laws_FnExactMemCas.j2 kj71 t211 (bt217.2.2 != t191) t212)) else (laws_FnExactMemCas.j2 kj71 t211 true t212))))) else (some false)))) = some r := H
                  have A111 := Aside0.mk A1110
                  clear A1110
                  replace H := Option.bind_eq_some_iff.mp H
                  obtain ⟨t213, A1120, H⟩ := H
                  replace H : (if t213 < 0 then (some false) else (if t213 = t211 then ((laws_toMem.f kj71 l0_0).bind fun t214 => ((impl_MemCas.f t214 a1 a2 a3).bind fun bt217 => ((laws_eqMem.f kj71 bt217.1 t187).bind fun t223 => (if t223 = true then (if (bt217.2.1 != t190) = true then (laws_FnExactMemCas.j2 kj71 t211 true t212) else (laws_FnExactMemCas.j2 kj71 t211 (bt217.2.2 != t191) t212)) else (laws_FnExactMemCas.j2 kj71 t211 true t212))))) else (some false))) = some r := H
                  have A112 := Aside0.mk A1120
                  clear A1120
                  by_cases c113 : t213 < 0
                  · rw [if_pos c113] at H
                    have c113b0 : decide (t213 < 0) = true := decide_eq_true c113
                    clear c113
                    obtain rfl := Option.some.inj H
                    have hnb114 := NB202_182.out
                    have hnc114 := NB182_202.out
                    have hnb115 := NB202_192.out
                    have hnc115 := NB192_202.out
                    have hnb116 := NB202_196.out
                    have hnc116 := NB196_202.out
                    have hcz117_0 : wc.cell? ⟨gb202, 0, none⟩ = some (.slice Ao35 t197.length co35) := (blk_cell BK202.out 0).trans rfl
                    have hfz117_0 := blk_frozen BK202.out 0
                    go_wp2_with (first | ((with_reducible refine gate_callee (f := 31) rfl ?_); refine goesL_ (some 91) rfl rfl Try.func31 (by kernel_rfl) rfl #[.agg #[.slice Ao35 t197.length co35], .int .i64 1] rfl (by (try simp only [List.map_toArray, List.map_cons, List.map_nil]); first | done | rfl | (simp only [List.length_drop, List.length_take]; rfl)) ?_; (with_reducible refine (laws_markMem.calls kj71 (fun k_ => some k_ = (.slice Ao35 t197.length co35 : Value).ownBlock) (.slice Ao35 t197.length co35) t197 1 t211 t212 w _ ?side1 ?side2 A111.out).mono ?_); (case side1 => repeat (first | (with_reducible first | exact HB.out | apply below_alloc | apply pw_below_drewN | apply below_drew1 | refine below_set ?_ GE182.out | refine below_set ?_ GE192.out | refine below_set ?_ GE196.out | refine below_set ?_ GE202.out) | exact HB.out)); (case side2 => exact Kd.R_tight rfl HO_203000.out); rintro e w118 ⟨rfl, hy0, hb, hkp⟩; refine ⟨_, rfl, ?_⟩; have n0_ := Aside0.mk (Kd.R_mono (ok' := fun k_ => some k_ ≠ (.slice Ao29 t209.length co29 : Value).ownBlock ∧ some k_ ≠ (.slice Ao35 t197.length co35 : Value).ownBlock) (Kd.R_keptB (HO_193000.out) hkp (fun k_ hk_ hs_ => (hk_.2) hs_)) (fun k_ hk_ => ⟨hk_.1.1, hk_.1.2⟩)); have n1_ := Aside0.mk (Kd.R_mono (ok' := fun k_ => some k_ ≠ (.slice Ao23 t187.length co23 : Value).ownBlock ∧ some k_ ≠ (.slice Ao35 t197.length co35 : Value).ownBlock) (Kd.R_keptB (HO_197000.out) hkp (fun k_ hk_ hs_ => (hk_.2) hs_)) (fun k_ hk_ => ⟨hk_.1.1, hk_.1.2⟩)); have n2_ := Aside0.mk (Kd.R_reok rfl hy0 (fun k_ e_ => HO_203000.out.1 k_ e_)); have n3_ := Aside0.mk (blk_kept (by (with_reducible repeat (first | refine blk_drewN ?_ _ | refine blk_drew ?_ | refine blk_alloc ?_ _)); exact BK182.out) hkp (fun hs_ => (fun e_ => (Kd.R_ne HO_203000.out BK182.out (by decide)) e_) hs_)); have n4_ := Aside0.mk (blk_kept (by (with_reducible repeat (first | refine blk_drewN ?_ _ | refine blk_drew ?_ | refine blk_alloc ?_ _)); exact BK192.out) hkp (fun hs_ => (fun e_ => (Kd.R_ne HO_203000.out BK192.out (by decide)) e_) hs_)); have n5_ := Aside0.mk (blk_kept (by (with_reducible repeat (first | refine blk_drewN ?_ _ | refine blk_drew ?_ | refine blk_alloc ?_ _)); exact BK196.out) hkp (fun hs_ => (fun e_ => (Kd.R_ne HO_203000.out BK196.out (by decide)) e_) hs_)); have n6_ := Aside0.mk (blk_kept (by (with_reducible repeat (first | refine blk_drewN ?_ _ | refine blk_drew ?_ | refine blk_alloc ?_ _)); exact BK202.out) hkp (fun hs_ => (fun e_ => (Kd.R_ne HO_203000.out BK202.out (by decide)) e_) hs_)); have n7_ := Aside0.mk (hb); clear HO_193000; clear HO_197000; clear HO_203000; clear BK182; clear BK192; clear BK196; clear BK202; clear HB; have HO_193000 := n0_; have HO_197000 := n1_; have HO_203000 := n2_; have BK182 := n3_; have BK192 := n4_; have BK196 := n5_; have BK202 := n6_; have HB := n7_; clear n0_ n1_ n2_ n3_ n4_ n5_ n6_ n7_; (try clear hb); (try clear hkp); (try clear hy0); have hcz119_0 : w118.cell? ⟨gb202, 0, none⟩ = some (.slice Ao35 t197.length co35) := (blk_cell BK202.out 0).trans rfl; have hfz119_0 := blk_frozen BK202.out 0) | ((with_reducible refine gate_callee (f := 32) rfl ?_); refine goesL_ (some 94) rfl rfl Try.func32 (by kernel_rfl) rfl #[.agg #[.slice Ao35 t212.length co35], .int .i64 1] rfl (by (try simp only [List.map_toArray, List.map_cons, List.map_nil]); first | done | (rw [show t212.length = t197.length from (Kd.R_reads' HO_203000.out).1.symm] <;> rfl) | rfl | (simp only [List.length_drop, List.length_take]; rfl)) ?_; (with_reducible refine (laws_heldMem.calls kj71 _ _ t212 1 t213 _ ?side1 ?side2 A112.out).mono ?_); (case side1 => repeat (first | exact (Kd.R_reads' HO_203000.out).2.2 | (with_reducible refine Kd.C_alloc ?_ _) | (with_reducible refine Kd.C_drewN ?_ _) | (with_reducible refine Kd.C_drew ?_))); (case side2 => rw [show t212.length = t197.length from (Kd.R_reads' HO_203000.out).1.symm]; exact (Kd.R_reads' HO_203000.out).2.1); rintro e w120 ⟨rfl, hb⟩; refine ⟨_, rfl, ?_⟩; have n0_ := Aside0.mk (Kd.R_below (by (with_reducible repeat (first | apply Kd.R_alloc | apply Kd.R_drewN | apply Kd.R_drew)); exact HO_193000.out) hb); have n1_ := Aside0.mk (Kd.R_below (by (with_reducible repeat (first | apply Kd.R_alloc | apply Kd.R_drewN | apply Kd.R_drew)); exact HO_197000.out) hb); have n2_ := Aside0.mk (Kd.R_below (by (with_reducible repeat (first | apply Kd.R_alloc | apply Kd.R_drewN | apply Kd.R_drew)); exact HO_203000.out) hb); have n3_ := Aside0.mk (blk_below (g := gb182) (o := .cells #[.slice A0_0 l0_0.length c0_0] 42 (0, 0)) (by (with_reducible repeat (first | refine blk_drewN ?_ _ | refine blk_drew ?_ | refine blk_alloc ?_ _)); exact BK182.out) hb); have n4_ := Aside0.mk (blk_below (g := gb192) (o := .cells #[.slice Ao23 t187.length co23] 44 (0, 0)) (by (with_reducible repeat (first | refine blk_drewN ?_ _ | refine blk_drew ?_ | refine blk_alloc ?_ _)); exact BK192.out) hb); have n5_ := Aside0.mk (blk_below (g := gb196) (o := .cells #[.slice Ao29 t209.length co29] 44 (0, 0)) (by (with_reducible repeat (first | refine blk_drewN ?_ _ | refine blk_drew ?_ | refine blk_alloc ?_ _)); exact BK196.out) hb); have n6_ := Aside0.mk (blk_below (g := gb202) (o := .cells #[.slice Ao35 t197.length co35] 44 (0, 0)) (by (with_reducible repeat (first | refine blk_drewN ?_ _ | refine blk_drew ?_ | refine blk_alloc ?_ _)); exact BK202.out) hb); have n7_ := Aside0.mk (below_step (by repeat (first | (with_reducible first | exact HB.out | apply below_alloc | apply pw_below_drewN | apply below_drew1 | refine below_set ?_ GE182.out | refine below_set ?_ GE192.out | refine below_set ?_ GE196.out | refine below_set ?_ GE202.out) | exact HB.out)) hb); clear HO_193000; clear HO_197000; clear HO_203000; clear BK182; clear BK192; clear BK196; clear BK202; clear HB; have HO_193000 := n0_; have HO_197000 := n1_; have HO_203000 := n2_; have BK182 := n3_; have BK192 := n4_; have BK196 := n5_; have BK202 := n6_; have HB := n7_; clear n0_ n1_ n2_ n3_ n4_ n5_ n6_ n7_; (try clear hb); (try clear hb2); (try clear hk); (try clear hi)))
                    go_ret
                    exact ⟨by first | rfl | (simp [errW_none, errW_some] <;> rfl) | (simp [*, errW_none, errW_some] <;> rfl), by repeat (first | (with_reducible first | exact HB.out | apply below_alloc | apply pw_below_drewN | apply below_drew1 | refine below_set ?_ GE182.out | refine below_set ?_ GE192.out | refine below_set ?_ GE196.out | refine below_set ?_ GE202.out) | exact HB.out)⟩
                  · rw [if_neg c113] at H
                    have c113b0 : decide (t213 < 0) = false := decide_eq_false c113
                    clear c113
                    by_cases c121 : t213 = t211
                    · rw [if_pos c121] at H
                      have c121b0 : (t213 == t211) = true := beq_iff_eq.mpr c121
                      have c121b1 : (t213 != t211) = false := bne_eq_false_iff_eq.mpr c121
                      clear c121
                      replace H := Option.bind_eq_some_iff.mp H
                      obtain ⟨t214, A1220, H⟩ := H
                      replace H : ((impl_MemCas.f t214 a1 a2 a3).bind fun bt217 => ((laws_eqMem.f kj71 bt217.1 t187).bind fun t223 => (if t223 = true then (if (bt217.2.1 != t190) = true then (laws_FnExactMemCas.j2 kj71 t211 true t212) else (laws_FnExactMemCas.j2 kj71 t211 (bt217.2.2 != t191) t212)) else (laws_FnExactMemCas.j2 kj71 t211 true t212)))) = some r := H
                      have A122 := Aside0.mk A1220
                      clear A1220
                      replace H := Option.bind_eq_some_iff.mp H
                      obtain ⟨⟨t217, t220, t221⟩, A1230, H⟩ := H
                      replace H : ((laws_eqMem.f kj71 t217 t187).bind fun t223 => (if t223 = true then (if (t220 != t190) = true then (laws_FnExactMemCas.j2 kj71 t211 true t212) else (laws_FnExactMemCas.j2 kj71 t211 (t221 != t191) t212)) else (laws_FnExactMemCas.j2 kj71 t211 true t212))) = some r := H
                      have A123 := Aside0.mk A1230
                      clear A1230
                      have HC124 := Aside0.mk H
                      clear H
                      have hnb125 := NB202_182.out
                      have hnc125 := NB182_202.out
                      have hnb126 := NB202_192.out
                      have hnc126 := NB192_202.out
                      have hnb127 := NB202_196.out
                      have hnc127 := NB196_202.out
                      have hcz128_0 : wc.cell? ⟨gb202, 0, none⟩ = some (.slice Ao35 t197.length co35) := (blk_cell BK202.out 0).trans rfl
                      have hfz128_0 := blk_frozen BK202.out 0
                      go_upto_region 25 with (first | ((with_reducible refine gate_callee (f := 31) rfl ?_); refine goesL_ (some 91) rfl rfl Try.func31 (by kernel_rfl) rfl #[.agg #[.slice Ao35 t197.length co35], .int .i64 1] rfl (by (try simp only [List.map_toArray, List.map_cons, List.map_nil]); first | done | rfl | (simp only [List.length_drop, List.length_take]; rfl)) ?_; (with_reducible refine (laws_markMem.calls kj71 (fun k_ => some k_ = (.slice Ao35 t197.length co35 : Value).ownBlock) (.slice Ao35 t197.length co35) t197 1 t211 t212 w _ ?side1 ?side2 A111.out).mono ?_); (case side1 => repeat (first | (with_reducible first | exact HB.out | apply below_alloc | apply pw_below_drewN | apply below_drew1 | refine below_set ?_ GE182.out | refine below_set ?_ GE192.out | refine below_set ?_ GE196.out | refine below_set ?_ GE202.out) | exact HB.out)); (case side2 => exact Kd.R_tight rfl HO_203000.out); rintro e w129 ⟨rfl, hy0, hb, hkp⟩; refine ⟨_, rfl, ?_⟩; have n0_ := Aside0.mk (Kd.R_mono (ok' := fun k_ => some k_ ≠ (.slice Ao29 t209.length co29 : Value).ownBlock ∧ some k_ ≠ (.slice Ao35 t197.length co35 : Value).ownBlock) (Kd.R_keptB (HO_193000.out) hkp (fun k_ hk_ hs_ => (hk_.2) hs_)) (fun k_ hk_ => ⟨hk_.1.1, hk_.1.2⟩)); have n1_ := Aside0.mk (Kd.R_mono (ok' := fun k_ => some k_ ≠ (.slice Ao23 t187.length co23 : Value).ownBlock ∧ some k_ ≠ (.slice Ao35 t197.length co35 : Value).ownBlock) (Kd.R_keptB (HO_197000.out) hkp (fun k_ hk_ hs_ => (hk_.2) hs_)) (fun k_ hk_ => ⟨hk_.1.1, hk_.1.2⟩)); have n2_ := Aside0.mk (Kd.R_reok rfl hy0 (fun k_ e_ => HO_203000.out.1 k_ e_)); have n3_ := Aside0.mk (blk_kept (by (with_reducible repeat (first | refine blk_drewN ?_ _ | refine blk_drew ?_ | refine blk_alloc ?_ _)); exact BK182.out) hkp (fun hs_ => (fun e_ => (Kd.R_ne HO_203000.out BK182.out (by decide)) e_) hs_)); have n4_ := Aside0.mk (blk_kept (by (with_reducible repeat (first | refine blk_drewN ?_ _ | refine blk_drew ?_ | refine blk_alloc ?_ _)); exact BK192.out) hkp (fun hs_ => (fun e_ => (Kd.R_ne HO_203000.out BK192.out (by decide)) e_) hs_)); have n5_ := Aside0.mk (blk_kept (by (with_reducible repeat (first | refine blk_drewN ?_ _ | refine blk_drew ?_ | refine blk_alloc ?_ _)); exact BK196.out) hkp (fun hs_ => (fun e_ => (Kd.R_ne HO_203000.out BK196.out (by decide)) e_) hs_)); have n6_ := Aside0.mk (blk_kept (by (with_reducible repeat (first | refine blk_drewN ?_ _ | refine blk_drew ?_ | refine blk_alloc ?_ _)); exact BK202.out) hkp (fun hs_ => (fun e_ => (Kd.R_ne HO_203000.out BK202.out (by decide)) e_) hs_)); have n7_ := Aside0.mk (hb); clear HO_193000; clear HO_197000; clear HO_203000; clear BK182; clear BK192; clear BK196; clear BK202; clear HB; have HO_193000 := n0_; have HO_197000 := n1_; have HO_203000 := n2_; have BK182 := n3_; have BK192 := n4_; have BK196 := n5_; have BK202 := n6_; have HB := n7_; clear n0_ n1_ n2_ n3_ n4_ n5_ n6_ n7_; (try clear hb); (try clear hkp); (try clear hy0); have hcz130_0 : w129.cell? ⟨gb202, 0, none⟩ = some (.slice Ao35 t197.length co35) := (blk_cell BK202.out 0).trans rfl; have hfz130_0 := blk_frozen BK202.out 0) | ((with_reducible refine gate_callee (f := 32) rfl ?_); refine goesL_ (some 94) rfl rfl Try.func32 (by kernel_rfl) rfl #[.agg #[.slice Ao35 t212.length co35], .int .i64 1] rfl (by (try simp only [List.map_toArray, List.map_cons, List.map_nil]); first | done | (rw [show t212.length = t197.length from (Kd.R_reads' HO_203000.out).1.symm] <;> rfl) | rfl | (simp only [List.length_drop, List.length_take]; rfl)) ?_; (with_reducible refine (laws_heldMem.calls kj71 _ _ t212 1 t213 _ ?side1 ?side2 A112.out).mono ?_); (case side1 => repeat (first | exact (Kd.R_reads' HO_203000.out).2.2 | (with_reducible refine Kd.C_alloc ?_ _) | (with_reducible refine Kd.C_drewN ?_ _) | (with_reducible refine Kd.C_drew ?_))); (case side2 => rw [show t212.length = t197.length from (Kd.R_reads' HO_203000.out).1.symm]; exact (Kd.R_reads' HO_203000.out).2.1); rintro e w131 ⟨rfl, hb⟩; refine ⟨_, rfl, ?_⟩; have n0_ := Aside0.mk (Kd.R_below (by (with_reducible repeat (first | apply Kd.R_alloc | apply Kd.R_drewN | apply Kd.R_drew)); exact HO_193000.out) hb); have n1_ := Aside0.mk (Kd.R_below (by (with_reducible repeat (first | apply Kd.R_alloc | apply Kd.R_drewN | apply Kd.R_drew)); exact HO_197000.out) hb); have n2_ := Aside0.mk (Kd.R_below (by (with_reducible repeat (first | apply Kd.R_alloc | apply Kd.R_drewN | apply Kd.R_drew)); exact HO_203000.out) hb); have n3_ := Aside0.mk (blk_below (g := gb182) (o := .cells #[.slice A0_0 l0_0.length c0_0] 42 (0, 0)) (by (with_reducible repeat (first | refine blk_drewN ?_ _ | refine blk_drew ?_ | refine blk_alloc ?_ _)); exact BK182.out) hb); have n4_ := Aside0.mk (blk_below (g := gb192) (o := .cells #[.slice Ao23 t187.length co23] 44 (0, 0)) (by (with_reducible repeat (first | refine blk_drewN ?_ _ | refine blk_drew ?_ | refine blk_alloc ?_ _)); exact BK192.out) hb); have n5_ := Aside0.mk (blk_below (g := gb196) (o := .cells #[.slice Ao29 t209.length co29] 44 (0, 0)) (by (with_reducible repeat (first | refine blk_drewN ?_ _ | refine blk_drew ?_ | refine blk_alloc ?_ _)); exact BK196.out) hb); have n6_ := Aside0.mk (blk_below (g := gb202) (o := .cells #[.slice Ao35 t197.length co35] 44 (0, 0)) (by (with_reducible repeat (first | refine blk_drewN ?_ _ | refine blk_drew ?_ | refine blk_alloc ?_ _)); exact BK202.out) hb); have n7_ := Aside0.mk (below_step (by repeat (first | (with_reducible first | exact HB.out | apply below_alloc | apply pw_below_drewN | apply below_drew1 | refine below_set ?_ GE182.out | refine below_set ?_ GE192.out | refine below_set ?_ GE196.out | refine below_set ?_ GE202.out) | exact HB.out)) hb); clear HO_193000; clear HO_197000; clear HO_203000; clear BK182; clear BK192; clear BK196; clear BK202; clear HB; have HO_193000 := n0_; have HO_197000 := n1_; have HO_203000 := n2_; have BK182 := n3_; have BK192 := n4_; have BK196 := n5_; have BK202 := n6_; have HB := n7_; clear n0_ n1_ n2_ n3_ n4_ n5_ n6_ n7_; (try clear hb); (try clear hb2); (try clear hk); (try clear hi); have hnb132 := NB182_192.out; have hnc132 := NB192_182.out; have hnb133 := NB182_196.out; have hnc133 := NB196_182.out; have hcz134_0 : w131.cell? ⟨gb182, 0, none⟩ = some (.slice A0_0 l0_0.length c0_0) := (blk_cell BK182.out 0).trans rfl; have hfz134_0 := blk_frozen BK182.out 0) | ((with_reducible refine gate_callee (f := 28) rfl ?_); refine goesL_ (some 102) rfl rfl Try.func28 (by kernel_rfl) rfl #[.agg #[.slice A0_0 l0_0.length c0_0]] rfl (by (try simp only [List.map_toArray, List.map_cons, List.map_nil]); first | done | rfl | (simp only [List.length_drop, List.length_take]; rfl)) ?_; (with_reducible refine (laws_toMem.calls kj71 _ _ l0_0 t214 _ ?side1 ?side2 A122.out).mono ?_); (case side1 => repeat (first | exact (Kd.C_below HR0_0.out HB.out) | (with_reducible refine Kd.C_alloc ?_ _) | (with_reducible refine Kd.C_drewN ?_ _) | (with_reducible refine Kd.C_drew ?_))); (case side2 => exact HC0_0.out); rintro e w135 ⟨v215, rfl, ho0, hb⟩; refine ⟨_, rfl, ?_⟩; have n0_ := Aside0.mk (Kd.R_elder' (by (with_reducible repeat (first | apply Kd.R_alloc | apply Kd.R_drewN | apply Kd.R_drew)); exact HO_193000.out) (Kd.R_base ho0) hb); have n1_ := Aside0.mk (Kd.R_elder' (by (with_reducible repeat (first | apply Kd.R_alloc | apply Kd.R_drewN | apply Kd.R_drew)); exact HO_197000.out) (Kd.R_base ho0) hb); have n2_ := Aside0.mk (Kd.R_elder' (by (with_reducible repeat (first | apply Kd.R_alloc | apply Kd.R_drewN | apply Kd.R_drew)); exact HO_203000.out) (Kd.R_base ho0) hb); have n3_ := Aside0.mk (Kd.R_lower (Kd.R_new' (Kd.R_new' (Kd.R_new' ho0 (Kd.R_lt (by (with_reducible repeat (first | apply Kd.R_alloc | apply Kd.R_drewN | apply Kd.R_drew)); exact HO_193000.out))) (Kd.R_lt (by (with_reducible repeat (first | apply Kd.R_alloc | apply Kd.R_drewN | apply Kd.R_drew)); exact HO_197000.out))) (Kd.R_lt (by (with_reducible repeat (first | apply Kd.R_alloc | apply Kd.R_drewN | apply Kd.R_drew)); exact HO_203000.out))) (below_size (by repeat (first | (with_reducible first | exact HB.out | apply below_alloc | apply pw_below_drewN | apply below_drew1 | refine below_set ?_ GE182.out | refine below_set ?_ GE192.out | refine below_set ?_ GE196.out | refine below_set ?_ GE202.out) | exact HB.out)))); have n4_ := Aside0.mk (blk_below (g := gb182) (o := .cells #[.slice A0_0 l0_0.length c0_0] 42 (0, 0)) (by (with_reducible repeat (first | refine blk_drewN ?_ _ | refine blk_drew ?_ | refine blk_alloc ?_ _)); exact BK182.out) hb); have n5_ := Aside0.mk (blk_below (g := gb192) (o := .cells #[.slice Ao23 t187.length co23] 44 (0, 0)) (by (with_reducible repeat (first | refine blk_drewN ?_ _ | refine blk_drew ?_ | refine blk_alloc ?_ _)); exact BK192.out) hb); have n6_ := Aside0.mk (blk_below (g := gb196) (o := .cells #[.slice Ao29 t209.length co29] 44 (0, 0)) (by (with_reducible repeat (first | refine blk_drewN ?_ _ | refine blk_drew ?_ | refine blk_alloc ?_ _)); exact BK196.out) hb); have n7_ := Aside0.mk (blk_below (g := gb202) (o := .cells #[.slice Ao35 t197.length co35] 44 (0, 0)) (by (with_reducible repeat (first | refine blk_drewN ?_ _ | refine blk_drew ?_ | refine blk_alloc ?_ _)); exact BK202.out) hb); have n8_ := Aside0.mk (below_step (by repeat (first | (with_reducible first | exact HB.out | apply below_alloc | apply pw_below_drewN | apply below_drew1 | refine below_set ?_ GE182.out | refine below_set ?_ GE192.out | refine below_set ?_ GE196.out | refine below_set ?_ GE202.out) | exact HB.out)) hb); clear HO_193000; clear HO_197000; clear HO_203000; clear BK182; clear BK192; clear BK196; clear BK202; clear HB; have HO_193000 := n0_; have HO_197000 := n1_; have HO_203000 := n2_; have HO216 := n3_; have BK182 := n4_; have BK192 := n5_; have BK196 := n6_; have BK202 := n7_; have HB := n8_; clear n0_ n1_ n2_ n3_ n4_ n5_ n6_ n7_ n8_; (try clear hb); (try clear hb2); (try clear hk); (try clear hi); (try clear ho0); obtain ⟨Ao136, co136, eo136⟩ := Kd.R_slice HO216.out; subst eo136) | ((with_reducible refine gate_callee (f := 42) rfl ?_); refine goesL_ (some 106) rfl rfl Try.func42 (by kernel_rfl) rfl #[.agg #[.slice Ao136 t214.length co136], .int .i64 a1, .int .u32 a2, .int .u32 a3] rfl (by (try simp only [List.map_toArray, List.map_cons, List.map_nil]); first | done | rfl | (simp only [List.length_drop, List.length_take]; rfl)) ?_; (with_reducible refine (impl_MemCas.calls _ _ t214 a1 a2 a3 t217 t220 t221 _ ?side1 ?side2 A123.out).mono ?_); (case side1 => repeat (first | exact (Kd.R_reads' HO216.out).2.2 | (with_reducible refine Kd.C_alloc ?_ _) | (with_reducible refine Kd.C_drewN ?_ _) | (with_reducible refine Kd.C_drew ?_))); (case side2 => exact (Kd.R_reads' HO216.out).2.1); rintro e w137 ⟨v218, rfl, ho0, hb⟩; refine ⟨_, rfl, ?_⟩; have n0_ := Aside0.mk (Kd.R_elder' (by (with_reducible repeat (first | apply Kd.R_alloc | apply Kd.R_drewN | apply Kd.R_drew)); exact HO_193000.out) (Kd.R_base ho0) hb); have n1_ := Aside0.mk (Kd.R_elder' (by (with_reducible repeat (first | apply Kd.R_alloc | apply Kd.R_drewN | apply Kd.R_drew)); exact HO_197000.out) (Kd.R_base ho0) hb); have n2_ := Aside0.mk (Kd.R_elder' (by (with_reducible repeat (first | apply Kd.R_alloc | apply Kd.R_drewN | apply Kd.R_drew)); exact HO_203000.out) (Kd.R_base ho0) hb); have n3_ := Aside0.mk (Kd.R_elder' (by (with_reducible repeat (first | apply Kd.R_alloc | apply Kd.R_drewN | apply Kd.R_drew)); exact HO216.out) (Kd.R_base ho0) hb); have n4_ := Aside0.mk (Kd.R_lower (Kd.R_new' (Kd.R_new' (Kd.R_new' (Kd.R_new' ho0 (Kd.R_lt (by (with_reducible repeat (first | apply Kd.R_alloc | apply Kd.R_drewN | apply Kd.R_drew)); exact HO_193000.out))) (Kd.R_lt (by (with_reducible repeat (first | apply Kd.R_alloc | apply Kd.R_drewN | apply Kd.R_drew)); exact HO_197000.out))) (Kd.R_lt (by (with_reducible repeat (first | apply Kd.R_alloc | apply Kd.R_drewN | apply Kd.R_drew)); exact HO_203000.out))) (Kd.R_lt (by (with_reducible repeat (first | apply Kd.R_alloc | apply Kd.R_drewN | apply Kd.R_drew)); exact HO216.out))) (below_size (by repeat (first | (with_reducible first | exact HB.out | apply below_alloc | apply pw_below_drewN | apply below_drew1 | refine below_set ?_ GE182.out | refine below_set ?_ GE192.out | refine below_set ?_ GE196.out | refine below_set ?_ GE202.out) | exact HB.out)))); have n5_ := Aside0.mk (blk_below (g := gb182) (o := .cells #[.slice A0_0 l0_0.length c0_0] 42 (0, 0)) (by (with_reducible repeat (first | refine blk_drewN ?_ _ | refine blk_drew ?_ | refine blk_alloc ?_ _)); exact BK182.out) hb); have n6_ := Aside0.mk (blk_below (g := gb192) (o := .cells #[.slice Ao23 t187.length co23] 44 (0, 0)) (by (with_reducible repeat (first | refine blk_drewN ?_ _ | refine blk_drew ?_ | refine blk_alloc ?_ _)); exact BK192.out) hb); have n7_ := Aside0.mk (blk_below (g := gb196) (o := .cells #[.slice Ao29 t209.length co29] 44 (0, 0)) (by (with_reducible repeat (first | refine blk_drewN ?_ _ | refine blk_drew ?_ | refine blk_alloc ?_ _)); exact BK196.out) hb); have n8_ := Aside0.mk (blk_below (g := gb202) (o := .cells #[.slice Ao35 t197.length co35] 44 (0, 0)) (by (with_reducible repeat (first | refine blk_drewN ?_ _ | refine blk_drew ?_ | refine blk_alloc ?_ _)); exact BK202.out) hb); have n9_ := Aside0.mk (below_step (by repeat (first | (with_reducible first | exact HB.out | apply below_alloc | apply pw_below_drewN | apply below_drew1 | refine below_set ?_ GE182.out | refine below_set ?_ GE192.out | refine below_set ?_ GE196.out | refine below_set ?_ GE202.out) | exact HB.out)) hb); clear HO_193000; clear HO_197000; clear HO_203000; clear HO216; clear BK182; clear BK192; clear BK196; clear BK202; clear HB; have HO_193000 := n0_; have HO_197000 := n1_; have HO_203000 := n2_; have HO216 := n3_; have HO219 := n4_; have BK182 := n5_; have BK192 := n6_; have BK196 := n7_; have BK202 := n8_; have HB := n9_; clear n0_ n1_ n2_ n3_ n4_ n5_ n6_ n7_ n8_ n9_; (try clear hb); (try clear hb2); (try clear hk); (try clear hi); (try clear ho0)) | ((with_reducible refine gate_dst (N := 20) rfl ?_); refine box_event ?hg (N := 20) ?hd (cs := #[.slice none 0 0]) (t := 44) ?hr ?_; (case hd => rfl); (case hg => rfl); (case hr => first | (go_simp; done) | (go_simp; rfl)); intro gb222 hg w138 hbox hb; have n0_ := Aside0.mk (Kd.R_below (by (with_reducible repeat (first | apply Kd.R_alloc | apply Kd.R_drewN | apply Kd.R_drew)); exact HO_193000.out) hb); have n1_ := Aside0.mk (Kd.R_below (by (with_reducible repeat (first | apply Kd.R_alloc | apply Kd.R_drewN | apply Kd.R_drew)); exact HO_197000.out) hb); have n2_ := Aside0.mk (Kd.R_below (by (with_reducible repeat (first | apply Kd.R_alloc | apply Kd.R_drewN | apply Kd.R_drew)); exact HO_203000.out) hb); have n3_ := Aside0.mk (Kd.R_below (by (with_reducible repeat (first | apply Kd.R_alloc | apply Kd.R_drewN | apply Kd.R_drew)); exact HO216.out) hb); have n4_ := Aside0.mk (Kd.R_below (by (with_reducible repeat (first | apply Kd.R_alloc | apply Kd.R_drewN | apply Kd.R_drew)); exact HO219.out) hb); have n5_ := Aside0.mk (blk_below (g := gb182) (o := .cells #[.slice A0_0 l0_0.length c0_0] 42 (0, 0)) (by (with_reducible repeat (first | refine blk_drewN ?_ _ | refine blk_drew ?_ | refine blk_alloc ?_ _)); exact BK182.out) hb); have n6_ := Aside0.mk (blk_below (g := gb192) (o := .cells #[.slice Ao23 t187.length co23] 44 (0, 0)) (by (with_reducible repeat (first | refine blk_drewN ?_ _ | refine blk_drew ?_ | refine blk_alloc ?_ _)); exact BK192.out) hb); have n7_ := Aside0.mk (blk_below (g := gb196) (o := .cells #[.slice Ao29 t209.length co29] 44 (0, 0)) (by (with_reducible repeat (first | refine blk_drewN ?_ _ | refine blk_drew ?_ | refine blk_alloc ?_ _)); exact BK196.out) hb); have n8_ := Aside0.mk (blk_below (g := gb202) (o := .cells #[.slice Ao35 t197.length co35] 44 (0, 0)) (by (with_reducible repeat (first | refine blk_drewN ?_ _ | refine blk_drew ?_ | refine blk_alloc ?_ _)); exact BK202.out) hb); have n9_ := Aside0.mk (below_step (by repeat (first | (with_reducible first | exact HB.out | apply below_alloc | apply pw_below_drewN | apply below_drew1 | refine below_set ?_ GE182.out | refine below_set ?_ GE192.out | refine below_set ?_ GE196.out | refine below_set ?_ GE202.out) | exact HB.out)) hb); have n10_ := Aside0.mk (hbox); have n11_ := Aside0.mk ((by rw [hg]; exact (below_size (by repeat (first | (with_reducible first | exact HB.out | apply below_alloc | apply pw_below_drewN | apply below_drew1 | refine below_set ?_ GE182.out | refine below_set ?_ GE192.out | refine below_set ?_ GE196.out | refine below_set ?_ GE202.out) | exact HB.out))) : w.heap.size ≤ gb222)); have n12_ := Aside0.mk ((by rw [hg]; exact (below_size (by repeat (first | (with_reducible first | exact HB.out | apply below_alloc | apply pw_below_drewN | apply below_drew1 | refine below_set ?_ GE182.out | refine below_set ?_ GE192.out | refine below_set ?_ GE196.out | refine below_set ?_ GE202.out) | exact HB.out))) : w.heap.size ≤ gb222)); have n13_ := Aside0.mk ((by rw [hg]; exact Nat.ne_of_lt (blk_lt (g := gb182) (o := .cells #[.slice A0_0 l0_0.length c0_0] 42 (0, 0)) (by (with_reducible repeat (first | refine blk_drewN ?_ _ | refine blk_drew ?_ | refine blk_alloc ?_ _)); exact BK182.out)) : gb182 ≠ gb222)); have n14_ := Aside0.mk ((by rw [hg]; exact Nat.ne_of_gt (blk_lt (g := gb182) (o := .cells #[.slice A0_0 l0_0.length c0_0] 42 (0, 0)) (by (with_reducible repeat (first | refine blk_drewN ?_ _ | refine blk_drew ?_ | refine blk_alloc ?_ _)); exact BK182.out)) : gb222 ≠ gb182)); have n15_ := Aside0.mk ((by rw [hg]; exact Nat.ne_of_lt (blk_lt (g := gb192) (o := .cells #[.slice Ao23 t187.length co23] 44 (0, 0)) (by (with_reducible repeat (first | refine blk_drewN ?_ _ | refine blk_drew ?_ | refine blk_alloc ?_ _)); exact BK192.out)) : gb192 ≠ gb222)); have n16_ := Aside0.mk ((by rw [hg]; exact Nat.ne_of_gt (blk_lt (g := gb192) (o := .cells #[.slice Ao23 t187.length co23] 44 (0, 0)) (by (with_reducible repeat (first | refine blk_drewN ?_ _ | refine blk_drew ?_ | refine blk_alloc ?_ _)); exact BK192.out)) : gb222 ≠ gb192)); have n17_ := Aside0.mk ((by rw [hg]; exact Nat.ne_of_lt (blk_lt (g := gb196) (o := .cells #[.slice Ao29 t209.length co29] 44 (0, 0)) (by (with_reducible repeat (first | refine blk_drewN ?_ _ | refine blk_drew ?_ | refine blk_alloc ?_ _)); exact BK196.out)) : gb196 ≠ gb222)); have n18_ := Aside0.mk ((by rw [hg]; exact Nat.ne_of_gt (blk_lt (g := gb196) (o := .cells #[.slice Ao29 t209.length co29] 44 (0, 0)) (by (with_reducible repeat (first | refine blk_drewN ?_ _ | refine blk_drew ?_ | refine blk_alloc ?_ _)); exact BK196.out)) : gb222 ≠ gb196)); have n19_ := Aside0.mk ((by rw [hg]; exact Nat.ne_of_lt (blk_lt (g := gb202) (o := .cells #[.slice Ao35 t197.length co35] 44 (0, 0)) (by (with_reducible repeat (first | refine blk_drewN ?_ _ | refine blk_drew ?_ | refine blk_alloc ?_ _)); exact BK202.out)) : gb202 ≠ gb222)); have n20_ := Aside0.mk ((by rw [hg]; exact Nat.ne_of_gt (blk_lt (g := gb202) (o := .cells #[.slice Ao35 t197.length co35] 44 (0, 0)) (by (with_reducible repeat (first | refine blk_drewN ?_ _ | refine blk_drew ?_ | refine blk_alloc ?_ _)); exact BK202.out)) : gb222 ≠ gb202)); clear HO_193000; clear HO_197000; clear HO_203000; clear HO216; clear HO219; clear BK182; clear BK192; clear BK196; clear BK202; clear HB; have HO_193000 := n0_; have HO_197000 := n1_; have HO_203000 := n2_; have HO216 := n3_; have HO219 := n4_; have BK182 := n5_; have BK192 := n6_; have BK196 := n7_; have BK202 := n8_; have HB := n9_; have BK222 := n10_; have GW222 := n11_; have GE222 := n12_; have NB182_222 := n13_; have NB222_182 := n14_; have NB192_222 := n15_; have NB222_192 := n16_; have NB196_222 := n17_; have NB222_196 := n18_; have NB202_222 := n19_; have NB222_202 := n20_; clear n0_ n1_ n2_ n3_ n4_ n5_ n6_ n7_ n8_ n9_ n10_ n11_ n12_ n13_ n14_ n15_ n16_ n17_ n18_ n19_ n20_; clear hb hbox hg; obtain ⟨Ao139, co139, eo139⟩ := Kd.R_slice HO219.out; subst eo139; have hnb140 := NB222_182.out; have hnc140 := NB182_222.out; have hnb141 := NB222_192.out; have hnc141 := NB192_222.out; have hnb142 := NB222_196.out; have hnc142 := NB196_222.out; have hnb143 := NB222_202.out; have hnc143 := NB202_222.out; have hcz144_0 : w138.cell? ⟨gb222, 0, none⟩ = some (.slice none 0 0) := (blk_cell BK222.out 0).trans rfl; have hfz144_0 := blk_frozen BK222.out 0))
                      (try simp only [Act.put, List.setIfInBounds_toArray, List.set_cons_zero, List.set_cons_succ])
                      go_cut [123] (fun v123 wc => ∃ (kq : Nat) (x123_123 : Bool), v123 = .bool x123_123 ∧ Aside0 (laws_FnExactMemCas.j2 kq t211 x123_123 t212 = some r) ∧ Aside0 (kq ≤ kj71) ∧ Aside0 (Kd.R (Kd.int .u32) 22 wc w.heap.size (fun k_ => some k_ ≠ ((.slice Ao29 t209.length co29) : Value).ownBlock ∧ some k_ ≠ ((.slice Ao35 t197.length co35) : Value).ownBlock ∧ some k_ ≠ ((.slice Ao139 t217.length co139) : Value).ownBlock) (.slice Ao23 t187.length co23) t187) ∧ Aside0 (Kd.R (Kd.int .u32) 22 wc w.heap.size (fun k_ => some k_ ≠ ((.slice Ao23 t187.length co23) : Value).ownBlock ∧ some k_ ≠ ((.slice Ao35 t197.length co35) : Value).ownBlock ∧ some k_ ≠ ((.slice Ao139 t217.length co139) : Value).ownBlock) (.slice Ao29 t209.length co29) t209) ∧ Aside0 (Kd.R (Kd.int .u32) 22 wc w.heap.size (fun k_ => some k_ ≠ ((.slice Ao23 t187.length co23) : Value).ownBlock ∧ some k_ ≠ ((.slice Ao29 t209.length co29) : Value).ownBlock ∧ some k_ ≠ ((.slice Ao139 t217.length co139) : Value).ownBlock) (.slice Ao35 t197.length co35) t212) ∧ Aside0 (Kd.R (Kd.int .u32) 22 wc w.heap.size (fun k_ => some k_ ≠ ((.slice Ao23 t187.length co23) : Value).ownBlock ∧ some k_ ≠ ((.slice Ao29 t209.length co29) : Value).ownBlock ∧ some k_ ≠ ((.slice Ao35 t197.length co35) : Value).ownBlock) (.slice Ao139 t217.length co139) t217) ∧ Aside0 (wc.heap[gb182]? = some (.cells #[(.slice A0_0 l0_0.length c0_0)] 42 (0, 0))) ∧ Aside0 (wc.heap[gb192]? = some (.cells #[(.slice Ao23 t187.length co23)] 44 (0, 0))) ∧ Aside0 (wc.heap[gb196]? = some (.cells #[(.slice Ao29 t209.length co29)] 44 (0, 0))) ∧ Aside0 (wc.heap[gb202]? = some (.cells #[(.slice Ao35 t197.length co35)] 44 (0, 0))) ∧ Aside0 (wc.heap[gb222]? = some (.cells #[(.slice Ao139 t217.length co139)] 44 (0, 0))) ∧ Aside0 (Below w.heap.size w wc))
                      case first =>
                        have H := HC124.out
                        clear HC124
                        replace H := Option.bind_eq_some_iff.mp H
                        obtain ⟨t223, A1450, H⟩ := H
                        replace H : (if t223 = true then (if (t220 != t190) = true then (laws_FnExactMemCas.j2 kj71 t211 true t212) else (laws_FnExactMemCas.j2 kj71 t211 (t221 != t191) t212)) else (laws_FnExactMemCas.j2 kj71 t211 true t212)) = some r := H
                        have A145 := Aside0.mk A1450
                        clear A1450
                        by_cases c146 : t223 = true
                        · subst c146
                          have H1 : (if (t220 != t190) = true then (laws_FnExactMemCas.j2 kj71 t211 true t212) else (laws_FnExactMemCas.j2 kj71 t211 (t221 != t191) t212)) = some r := by rw [if_pos rfl] at H; exact H
                          clear H
                          have H := H1
                          clear H1
                          by_cases c147 : (t220 != t190) = true
                          · rw [if_pos c147] at H
                            have c147b0 : (t220 != t190) = true := c147
                            (try (have c147b1 : decide (t220 = t190) = false := by simpa using c147))
                            (try (have c147b2 : (t220 == t190) = false := by simpa using c147))
                            (try (have c147b3 : ¬ (t220 = t190) := by simpa using c147))
                            clear c147
                            (first | rw [c147b0] | (simp only [i64_w, i32_w]; rw [c147b0]) | skip)
                            have H' := Aside0.mk H
                            clear H
                            have hnb148 := NB222_182.out
                            have hnc148 := NB182_222.out
                            have hnb149 := NB222_192.out
                            have hnc149 := NB192_222.out
                            have hnb150 := NB222_196.out
                            have hnc150 := NB196_222.out
                            have hnb151 := NB222_202.out
                            have hnc151 := NB202_222.out
                            have hcz152_0 : w138.cell? ⟨gb222, 0, none⟩ = some (.slice none 0 0) := (blk_cell BK222.out 0).trans rfl
                            have hfz152_0 := blk_frozen BK222.out 0
                            have hnb153 := NB192_182.out
                            have hnc153 := NB182_192.out
                            have hnb154 := NB192_196.out
                            have hnc154 := NB196_192.out
                            have hnb155 := NB192_202.out
                            have hnc155 := NB202_192.out
                            have hcz156_0 : w138.cell? ⟨gb192, 0, none⟩ = some (.slice Ao23 t187.length co23) := (blk_cell BK192.out 0).trans rfl
                            have hfz156_0 := blk_frozen BK192.out 0
                            go_wp2_with (first | ((with_reducible refine gate_callee (f := 30) rfl ?_); refine goesL_ (some 112) rfl rfl Try.func30 (by kernel_rfl) rfl #[.agg #[.slice Ao139 t217.length co139], .agg #[.slice Ao23 t187.length co23]] rfl (by (try simp only [List.map_toArray, List.map_cons, List.map_nil]); first | done | rfl | (simp only [List.length_drop, List.length_take]; rfl)) ?_; (with_reducible refine (laws_eqMem.calls kj71 _ _ t217 _ _ t187 true _ ?side1 ?side2 ?side3 ?side4 A145.out).mono ?_); (case side1 => refine (Kd.R_reads' (e := 22) (base := w.heap.size) (ok := fun k_ => ((((True ∧ some k_ ≠ (.slice Ao23 t187.length co23 : Value).ownBlock) ∧ some k_ ≠ (.slice Ao29 t209.length co29 : Value).ownBlock) ∧ some k_ ≠ (.slice Ao35 t197.length co35 : Value).ownBlock) ∧ some k_ ≠ (.slice Ao136 t214.length co136 : Value).ownBlock)) (n := t217.length) (c := co139) ?_).2.2; exact (by (with_reducible repeat (first | apply Kd.R_alloc | apply Kd.R_drewN | apply Kd.R_drew)); exact (Kd.R_mono (Kd.R_far (p := ⟨gb222, 0, none⟩) (Kd.R_types HO219.out BK222.out (by decide)) (fun _ hk => hk.2) (.slice Ao139 t217.length co139)) (fun _ h_ => h_.1)))); (case side2 => exact (Kd.R_reads' HO219.out).2.1); (case side3 => refine (Kd.R_reads' (e := 22) (base := w.heap.size) (ok := fun k_ => (((some k_ ≠ (.slice Ao29 t209.length co29 : Value).ownBlock ∧ some k_ ≠ (.slice Ao35 t197.length co35 : Value).ownBlock) ∧ some k_ ≠ (.slice Ao136 t214.length co136 : Value).ownBlock) ∧ some k_ ≠ (.slice Ao139 t217.length co139 : Value).ownBlock)) (n := t187.length) (c := co23) ?_).2.2; exact (by (with_reducible repeat (first | apply Kd.R_alloc | apply Kd.R_drewN | apply Kd.R_drew)); exact (Kd.R_mono (Kd.R_far (p := ⟨gb222, 0, none⟩) (Kd.R_types HO_193000.out BK222.out (by decide)) (fun _ hk => hk.2) (.slice Ao139 t217.length co139)) (fun _ h_ => h_.1)))); (case side4 => exact (Kd.R_reads' HO_193000.out).2.1); rintro e w157 ⟨rfl, hb⟩; refine ⟨_, rfl, ?_⟩; have n0_ := Aside0.mk (Kd.R_below (by (with_reducible repeat (first | apply Kd.R_alloc | apply Kd.R_drewN | apply Kd.R_drew)); exact (Kd.R_mono (Kd.R_far (p := ⟨gb222, 0, none⟩) (Kd.R_types HO_193000.out BK222.out (by decide)) (fun _ hk => hk.2) (.slice Ao139 t217.length co139)) (fun _ h_ => h_.1))) hb); have n1_ := Aside0.mk (Kd.R_below (by (with_reducible repeat (first | apply Kd.R_alloc | apply Kd.R_drewN | apply Kd.R_drew)); exact (Kd.R_mono (Kd.R_far (p := ⟨gb222, 0, none⟩) (Kd.R_types HO_197000.out BK222.out (by decide)) (fun _ hk => hk.2) (.slice Ao139 t217.length co139)) (fun _ h_ => h_.1))) hb); have n2_ := Aside0.mk (Kd.R_below (by (with_reducible repeat (first | apply Kd.R_alloc | apply Kd.R_drewN | apply Kd.R_drew)); exact (Kd.R_mono (Kd.R_far (p := ⟨gb222, 0, none⟩) (Kd.R_types HO_203000.out BK222.out (by decide)) (fun _ hk => hk.2) (.slice Ao139 t217.length co139)) (fun _ h_ => h_.1))) hb); have n3_ := Aside0.mk (Kd.R_below (by (with_reducible repeat (first | apply Kd.R_alloc | apply Kd.R_drewN | apply Kd.R_drew)); exact (Kd.R_mono (Kd.R_far (p := ⟨gb222, 0, none⟩) (Kd.R_types HO216.out BK222.out (by decide)) (fun _ hk => hk.2) (.slice Ao139 t217.length co139)) (fun _ h_ => h_.1))) hb); have n4_ := Aside0.mk (Kd.R_below (by (with_reducible repeat (first | apply Kd.R_alloc | apply Kd.R_drewN | apply Kd.R_drew)); exact (Kd.R_mono (Kd.R_far (p := ⟨gb222, 0, none⟩) (Kd.R_types HO219.out BK222.out (by decide)) (fun _ hk => hk.2) (.slice Ao139 t217.length co139)) (fun _ h_ => h_.1))) hb); have n5_ := Aside0.mk (blk_below (g := gb182) (o := .cells #[.slice A0_0 l0_0.length c0_0] 42 (0, 0)) (by (with_reducible repeat (first | refine blk_drewN ?_ _ | refine blk_drew ?_ | refine blk_alloc ?_ _)); refine blk_far ?_ NB182_222.out _; (with_reducible repeat (first | refine blk_drewN ?_ _ | refine blk_drew ?_ | refine blk_alloc ?_ _)); exact BK182.out) hb); have n6_ := Aside0.mk (blk_below (g := gb192) (o := .cells #[.slice Ao23 t187.length co23] 44 (0, 0)) (by (with_reducible repeat (first | refine blk_drewN ?_ _ | refine blk_drew ?_ | refine blk_alloc ?_ _)); refine blk_far ?_ NB192_222.out _; (with_reducible repeat (first | refine blk_drewN ?_ _ | refine blk_drew ?_ | refine blk_alloc ?_ _)); exact BK192.out) hb); have n7_ := Aside0.mk (blk_below (g := gb196) (o := .cells #[.slice Ao29 t209.length co29] 44 (0, 0)) (by (with_reducible repeat (first | refine blk_drewN ?_ _ | refine blk_drew ?_ | refine blk_alloc ?_ _)); refine blk_far ?_ NB196_222.out _; (with_reducible repeat (first | refine blk_drewN ?_ _ | refine blk_drew ?_ | refine blk_alloc ?_ _)); exact BK196.out) hb); have n8_ := Aside0.mk (blk_below (g := gb202) (o := .cells #[.slice Ao35 t197.length co35] 44 (0, 0)) (by (with_reducible repeat (first | refine blk_drewN ?_ _ | refine blk_drew ?_ | refine blk_alloc ?_ _)); refine blk_far ?_ NB202_222.out _; (with_reducible repeat (first | refine blk_drewN ?_ _ | refine blk_drew ?_ | refine blk_alloc ?_ _)); exact BK202.out) hb); have n9_ := Aside0.mk (blk_below (g := gb222) (o := .cells #[.slice Ao139 t217.length co139] 44 (0, 0)) (by (with_reducible repeat (first | refine blk_drewN ?_ _ | refine blk_drew ?_ | refine blk_alloc ?_ _)); refine blk_put (cs := #[.slice none 0 0]) ?_ 0 _ rfl; (with_reducible repeat (first | refine blk_drewN ?_ _ | refine blk_drew ?_ | refine blk_alloc ?_ _)); exact BK222.out) hb); have n10_ := Aside0.mk (below_step (by repeat (first | (with_reducible first | exact HB.out | apply below_alloc | apply pw_below_drewN | apply below_drew1 | refine below_set ?_ GE182.out | refine below_set ?_ GE192.out | refine below_set ?_ GE196.out | refine below_set ?_ GE202.out | refine below_set ?_ GE222.out) | exact HB.out)) hb); clear HO_193000; clear HO_197000; clear HO_203000; clear HO216; clear HO219; clear BK182; clear BK192; clear BK196; clear BK202; clear BK222; clear HB; have HO_193000 := n0_; have HO_197000 := n1_; have HO_203000 := n2_; have HO216 := n3_; have HO219 := n4_; have BK182 := n5_; have BK192 := n6_; have BK196 := n7_; have BK202 := n8_; have BK222 := n9_; have HB := n10_; clear n0_ n1_ n2_ n3_ n4_ n5_ n6_ n7_ n8_ n9_ n10_; (try clear hb); (try clear hb2); (try clear hk); (try clear hi)))
                            go_meet
                            case rel => exact ⟨_, (true), (by first | rfl | (simp; done) | (simp [*]; done)), H', ⟨by have := HJ13.out; have := HJ71.out; first | omega | exact Nat.le_refl _⟩, ⟨by (try simp only [hl197000_71]); (with_reducible repeat (first | apply Kd.R_alloc | apply Kd.R_drewN | apply Kd.R_drew)); exact Kd.R_mono HO_193000.out (fun _ hk => ⟨hk.1.1.1, ⟨hk.1.1.2, hk.2⟩⟩)⟩, ⟨by (try simp only [hl197000_71]); (with_reducible repeat (first | apply Kd.R_alloc | apply Kd.R_drewN | apply Kd.R_drew)); exact Kd.R_mono HO_197000.out (fun _ hk => ⟨hk.1.1.1, ⟨hk.1.1.2, hk.2⟩⟩)⟩, ⟨by (try simp only [hl197000_71]); (with_reducible repeat (first | apply Kd.R_alloc | apply Kd.R_drewN | apply Kd.R_drew)); exact Kd.R_mono HO_203000.out (fun _ hk => ⟨hk.1.1.1, ⟨hk.1.1.2, hk.2⟩⟩)⟩, ⟨by (try simp only [hl197000_71]); (with_reducible repeat (first | apply Kd.R_alloc | apply Kd.R_drewN | apply Kd.R_drew)); exact Kd.R_mono HO219.out (fun _ hk => ⟨hk.1.1.1.2, ⟨hk.1.1.2, hk.1.2⟩⟩)⟩, ⟨by (try simp only [hl197000_71]); (with_reducible repeat (first | refine blk_drewN ?_ _ | refine blk_drew ?_ | refine blk_alloc ?_ _)); exact BK182.out⟩, ⟨by (try simp only [hl197000_71]); (with_reducible repeat (first | refine blk_drewN ?_ _ | refine blk_drew ?_ | refine blk_alloc ?_ _)); exact BK192.out⟩, ⟨by (try simp only [hl197000_71]); (with_reducible repeat (first | refine blk_drewN ?_ _ | refine blk_drew ?_ | refine blk_alloc ?_ _)); exact BK196.out⟩, ⟨by (try simp only [hl197000_71]); (with_reducible repeat (first | refine blk_drewN ?_ _ | refine blk_drew ?_ | refine blk_alloc ?_ _)); exact BK202.out⟩, ⟨by (try simp only [hl197000_71]); (with_reducible repeat (first | refine blk_drewN ?_ _ | refine blk_drew ?_ | refine blk_alloc ?_ _)); exact BK222.out⟩, ⟨by repeat (first | (with_reducible first | exact HB.out | apply below_alloc | apply pw_below_drewN | apply below_drew1 | refine below_set ?_ GE182.out | refine below_set ?_ GE192.out | refine below_set ?_ GE196.out | refine below_set ?_ GE202.out | refine below_set ?_ GE222.out) | exact HB.out)⟩⟩
                          · rw [if_neg c147] at H
                            have c147b0 : (t220 != t190) = false := by simpa using c147
                            (try (have c147b1 : decide (t220 = t190) = true := by simpa using c147))
                            (try (have c147b2 : (t220 == t190) = true := by simpa using c147))
                            clear c147
                            (first | rw [c147b0] | (simp only [i64_w, i32_w]; rw [c147b0]) | skip)
                            have H' := Aside0.mk H
                            clear H
                            have hnb158 := NB222_182.out
                            have hnc158 := NB182_222.out
                            have hnb159 := NB222_192.out
                            have hnc159 := NB192_222.out
                            have hnb160 := NB222_196.out
                            have hnc160 := NB196_222.out
                            have hnb161 := NB222_202.out
                            have hnc161 := NB202_222.out
                            have hcz162_0 : w138.cell? ⟨gb222, 0, none⟩ = some (.slice none 0 0) := (blk_cell BK222.out 0).trans rfl
                            have hfz162_0 := blk_frozen BK222.out 0
                            have hnb163 := NB192_182.out
                            have hnc163 := NB182_192.out
                            have hnb164 := NB192_196.out
                            have hnc164 := NB196_192.out
                            have hnb165 := NB192_202.out
                            have hnc165 := NB202_192.out
                            have hcz166_0 : w138.cell? ⟨gb192, 0, none⟩ = some (.slice Ao23 t187.length co23) := (blk_cell BK192.out 0).trans rfl
                            have hfz166_0 := blk_frozen BK192.out 0
                            go_wp2_with (first | ((with_reducible refine gate_callee (f := 30) rfl ?_); refine goesL_ (some 112) rfl rfl Try.func30 (by kernel_rfl) rfl #[.agg #[.slice Ao139 t217.length co139], .agg #[.slice Ao23 t187.length co23]] rfl (by (try simp only [List.map_toArray, List.map_cons, List.map_nil]); first | done | rfl | (simp only [List.length_drop, List.length_take]; rfl)) ?_; (with_reducible refine (laws_eqMem.calls kj71 _ _ t217 _ _ t187 true _ ?side1 ?side2 ?side3 ?side4 A145.out).mono ?_); (case side1 => refine (Kd.R_reads' (e := 22) (base := w.heap.size) (ok := fun k_ => ((((True ∧ some k_ ≠ (.slice Ao23 t187.length co23 : Value).ownBlock) ∧ some k_ ≠ (.slice Ao29 t209.length co29 : Value).ownBlock) ∧ some k_ ≠ (.slice Ao35 t197.length co35 : Value).ownBlock) ∧ some k_ ≠ (.slice Ao136 t214.length co136 : Value).ownBlock)) (n := t217.length) (c := co139) ?_).2.2; exact (by (with_reducible repeat (first | apply Kd.R_alloc | apply Kd.R_drewN | apply Kd.R_drew)); exact (Kd.R_mono (Kd.R_far (p := ⟨gb222, 0, none⟩) (Kd.R_types HO219.out BK222.out (by decide)) (fun _ hk => hk.2) (.slice Ao139 t217.length co139)) (fun _ h_ => h_.1)))); (case side2 => exact (Kd.R_reads' HO219.out).2.1); (case side3 => refine (Kd.R_reads' (e := 22) (base := w.heap.size) (ok := fun k_ => (((some k_ ≠ (.slice Ao29 t209.length co29 : Value).ownBlock ∧ some k_ ≠ (.slice Ao35 t197.length co35 : Value).ownBlock) ∧ some k_ ≠ (.slice Ao136 t214.length co136 : Value).ownBlock) ∧ some k_ ≠ (.slice Ao139 t217.length co139 : Value).ownBlock)) (n := t187.length) (c := co23) ?_).2.2; exact (by (with_reducible repeat (first | apply Kd.R_alloc | apply Kd.R_drewN | apply Kd.R_drew)); exact (Kd.R_mono (Kd.R_far (p := ⟨gb222, 0, none⟩) (Kd.R_types HO_193000.out BK222.out (by decide)) (fun _ hk => hk.2) (.slice Ao139 t217.length co139)) (fun _ h_ => h_.1)))); (case side4 => exact (Kd.R_reads' HO_193000.out).2.1); rintro e w167 ⟨rfl, hb⟩; refine ⟨_, rfl, ?_⟩; have n0_ := Aside0.mk (Kd.R_below (by (with_reducible repeat (first | apply Kd.R_alloc | apply Kd.R_drewN | apply Kd.R_drew)); exact (Kd.R_mono (Kd.R_far (p := ⟨gb222, 0, none⟩) (Kd.R_types HO_193000.out BK222.out (by decide)) (fun _ hk => hk.2) (.slice Ao139 t217.length co139)) (fun _ h_ => h_.1))) hb); have n1_ := Aside0.mk (Kd.R_below (by (with_reducible repeat (first | apply Kd.R_alloc | apply Kd.R_drewN | apply Kd.R_drew)); exact (Kd.R_mono (Kd.R_far (p := ⟨gb222, 0, none⟩) (Kd.R_types HO_197000.out BK222.out (by decide)) (fun _ hk => hk.2) (.slice Ao139 t217.length co139)) (fun _ h_ => h_.1))) hb); have n2_ := Aside0.mk (Kd.R_below (by (with_reducible repeat (first | apply Kd.R_alloc | apply Kd.R_drewN | apply Kd.R_drew)); exact (Kd.R_mono (Kd.R_far (p := ⟨gb222, 0, none⟩) (Kd.R_types HO_203000.out BK222.out (by decide)) (fun _ hk => hk.2) (.slice Ao139 t217.length co139)) (fun _ h_ => h_.1))) hb); have n3_ := Aside0.mk (Kd.R_below (by (with_reducible repeat (first | apply Kd.R_alloc | apply Kd.R_drewN | apply Kd.R_drew)); exact (Kd.R_mono (Kd.R_far (p := ⟨gb222, 0, none⟩) (Kd.R_types HO216.out BK222.out (by decide)) (fun _ hk => hk.2) (.slice Ao139 t217.length co139)) (fun _ h_ => h_.1))) hb); have n4_ := Aside0.mk (Kd.R_below (by (with_reducible repeat (first | apply Kd.R_alloc | apply Kd.R_drewN | apply Kd.R_drew)); exact (Kd.R_mono (Kd.R_far (p := ⟨gb222, 0, none⟩) (Kd.R_types HO219.out BK222.out (by decide)) (fun _ hk => hk.2) (.slice Ao139 t217.length co139)) (fun _ h_ => h_.1))) hb); have n5_ := Aside0.mk (blk_below (g := gb182) (o := .cells #[.slice A0_0 l0_0.length c0_0] 42 (0, 0)) (by (with_reducible repeat (first | refine blk_drewN ?_ _ | refine blk_drew ?_ | refine blk_alloc ?_ _)); refine blk_far ?_ NB182_222.out _; (with_reducible repeat (first | refine blk_drewN ?_ _ | refine blk_drew ?_ | refine blk_alloc ?_ _)); exact BK182.out) hb); have n6_ := Aside0.mk (blk_below (g := gb192) (o := .cells #[.slice Ao23 t187.length co23] 44 (0, 0)) (by (with_reducible repeat (first | refine blk_drewN ?_ _ | refine blk_drew ?_ | refine blk_alloc ?_ _)); refine blk_far ?_ NB192_222.out _; (with_reducible repeat (first | refine blk_drewN ?_ _ | refine blk_drew ?_ | refine blk_alloc ?_ _)); exact BK192.out) hb); have n7_ := Aside0.mk (blk_below (g := gb196) (o := .cells #[.slice Ao29 t209.length co29] 44 (0, 0)) (by (with_reducible repeat (first | refine blk_drewN ?_ _ | refine blk_drew ?_ | refine blk_alloc ?_ _)); refine blk_far ?_ NB196_222.out _; (with_reducible repeat (first | refine blk_drewN ?_ _ | refine blk_drew ?_ | refine blk_alloc ?_ _)); exact BK196.out) hb); have n8_ := Aside0.mk (blk_below (g := gb202) (o := .cells #[.slice Ao35 t197.length co35] 44 (0, 0)) (by (with_reducible repeat (first | refine blk_drewN ?_ _ | refine blk_drew ?_ | refine blk_alloc ?_ _)); refine blk_far ?_ NB202_222.out _; (with_reducible repeat (first | refine blk_drewN ?_ _ | refine blk_drew ?_ | refine blk_alloc ?_ _)); exact BK202.out) hb); have n9_ := Aside0.mk (blk_below (g := gb222) (o := .cells #[.slice Ao139 t217.length co139] 44 (0, 0)) (by (with_reducible repeat (first | refine blk_drewN ?_ _ | refine blk_drew ?_ | refine blk_alloc ?_ _)); refine blk_put (cs := #[.slice none 0 0]) ?_ 0 _ rfl; (with_reducible repeat (first | refine blk_drewN ?_ _ | refine blk_drew ?_ | refine blk_alloc ?_ _)); exact BK222.out) hb); have n10_ := Aside0.mk (below_step (by repeat (first | (with_reducible first | exact HB.out | apply below_alloc | apply pw_below_drewN | apply below_drew1 | refine below_set ?_ GE182.out | refine below_set ?_ GE192.out | refine below_set ?_ GE196.out | refine below_set ?_ GE202.out | refine below_set ?_ GE222.out) | exact HB.out)) hb); clear HO_193000; clear HO_197000; clear HO_203000; clear HO216; clear HO219; clear BK182; clear BK192; clear BK196; clear BK202; clear BK222; clear HB; have HO_193000 := n0_; have HO_197000 := n1_; have HO_203000 := n2_; have HO216 := n3_; have HO219 := n4_; have BK182 := n5_; have BK192 := n6_; have BK196 := n7_; have BK202 := n8_; have BK222 := n9_; have HB := n10_; clear n0_ n1_ n2_ n3_ n4_ n5_ n6_ n7_ n8_ n9_ n10_; (try clear hb); (try clear hb2); (try clear hk); (try clear hi)))
                            go_meet
                            case rel => exact ⟨_, ((t221 != t191)), (by first | rfl | (simp; done) | (simp [*]; done)), H', ⟨by have := HJ13.out; have := HJ71.out; first | omega | exact Nat.le_refl _⟩, ⟨by (try simp only [hl197000_71]); (with_reducible repeat (first | apply Kd.R_alloc | apply Kd.R_drewN | apply Kd.R_drew)); exact Kd.R_mono HO_193000.out (fun _ hk => ⟨hk.1.1.1, ⟨hk.1.1.2, hk.2⟩⟩)⟩, ⟨by (try simp only [hl197000_71]); (with_reducible repeat (first | apply Kd.R_alloc | apply Kd.R_drewN | apply Kd.R_drew)); exact Kd.R_mono HO_197000.out (fun _ hk => ⟨hk.1.1.1, ⟨hk.1.1.2, hk.2⟩⟩)⟩, ⟨by (try simp only [hl197000_71]); (with_reducible repeat (first | apply Kd.R_alloc | apply Kd.R_drewN | apply Kd.R_drew)); exact Kd.R_mono HO_203000.out (fun _ hk => ⟨hk.1.1.1, ⟨hk.1.1.2, hk.2⟩⟩)⟩, ⟨by (try simp only [hl197000_71]); (with_reducible repeat (first | apply Kd.R_alloc | apply Kd.R_drewN | apply Kd.R_drew)); exact Kd.R_mono HO219.out (fun _ hk => ⟨hk.1.1.1.2, ⟨hk.1.1.2, hk.1.2⟩⟩)⟩, ⟨by (try simp only [hl197000_71]); (with_reducible repeat (first | refine blk_drewN ?_ _ | refine blk_drew ?_ | refine blk_alloc ?_ _)); exact BK182.out⟩, ⟨by (try simp only [hl197000_71]); (with_reducible repeat (first | refine blk_drewN ?_ _ | refine blk_drew ?_ | refine blk_alloc ?_ _)); exact BK192.out⟩, ⟨by (try simp only [hl197000_71]); (with_reducible repeat (first | refine blk_drewN ?_ _ | refine blk_drew ?_ | refine blk_alloc ?_ _)); exact BK196.out⟩, ⟨by (try simp only [hl197000_71]); (with_reducible repeat (first | refine blk_drewN ?_ _ | refine blk_drew ?_ | refine blk_alloc ?_ _)); exact BK202.out⟩, ⟨by (try simp only [hl197000_71]); (with_reducible repeat (first | refine blk_drewN ?_ _ | refine blk_drew ?_ | refine blk_alloc ?_ _)); exact BK222.out⟩, ⟨by repeat (first | (with_reducible first | exact HB.out | apply below_alloc | apply pw_below_drewN | apply below_drew1 | refine below_set ?_ GE182.out | refine below_set ?_ GE192.out | refine below_set ?_ GE196.out | refine below_set ?_ GE202.out | refine below_set ?_ GE222.out) | exact HB.out)⟩⟩
                        · replace c146 := Bool.eq_false_iff.mpr c146
                          subst c146
                          have H1 : (laws_FnExactMemCas.j2 kj71 t211 true t212) = some r := by rw [if_neg (show ¬ (false = true) by decide)] at H; exact H
                          clear H
                          have H := H1
                          clear H1
                          have H' := Aside0.mk H
                          clear H
                          have hnb168 := NB222_182.out
                          have hnc168 := NB182_222.out
                          have hnb169 := NB222_192.out
                          have hnc169 := NB192_222.out
                          have hnb170 := NB222_196.out
                          have hnc170 := NB196_222.out
                          have hnb171 := NB222_202.out
                          have hnc171 := NB202_222.out
                          have hcz172_0 : w138.cell? ⟨gb222, 0, none⟩ = some (.slice none 0 0) := (blk_cell BK222.out 0).trans rfl
                          have hfz172_0 := blk_frozen BK222.out 0
                          have hnb173 := NB192_182.out
                          have hnc173 := NB182_192.out
                          have hnb174 := NB192_196.out
                          have hnc174 := NB196_192.out
                          have hnb175 := NB192_202.out
                          have hnc175 := NB202_192.out
                          have hcz176_0 : w138.cell? ⟨gb192, 0, none⟩ = some (.slice Ao23 t187.length co23) := (blk_cell BK192.out 0).trans rfl
                          have hfz176_0 := blk_frozen BK192.out 0
                          go_wp2_with (first | ((with_reducible refine gate_callee (f := 30) rfl ?_); refine goesL_ (some 112) rfl rfl Try.func30 (by kernel_rfl) rfl #[.agg #[.slice Ao139 t217.length co139], .agg #[.slice Ao23 t187.length co23]] rfl (by (try simp only [List.map_toArray, List.map_cons, List.map_nil]); first | done | rfl | (simp only [List.length_drop, List.length_take]; rfl)) ?_; (with_reducible refine (laws_eqMem.calls kj71 _ _ t217 _ _ t187 false _ ?side1 ?side2 ?side3 ?side4 A145.out).mono ?_); (case side1 => refine (Kd.R_reads' (e := 22) (base := w.heap.size) (ok := fun k_ => ((((True ∧ some k_ ≠ (.slice Ao23 t187.length co23 : Value).ownBlock) ∧ some k_ ≠ (.slice Ao29 t209.length co29 : Value).ownBlock) ∧ some k_ ≠ (.slice Ao35 t197.length co35 : Value).ownBlock) ∧ some k_ ≠ (.slice Ao136 t214.length co136 : Value).ownBlock)) (n := t217.length) (c := co139) ?_).2.2; exact (by (with_reducible repeat (first | apply Kd.R_alloc | apply Kd.R_drewN | apply Kd.R_drew)); exact (Kd.R_mono (Kd.R_far (p := ⟨gb222, 0, none⟩) (Kd.R_types HO219.out BK222.out (by decide)) (fun _ hk => hk.2) (.slice Ao139 t217.length co139)) (fun _ h_ => h_.1)))); (case side2 => exact (Kd.R_reads' HO219.out).2.1); (case side3 => refine (Kd.R_reads' (e := 22) (base := w.heap.size) (ok := fun k_ => (((some k_ ≠ (.slice Ao29 t209.length co29 : Value).ownBlock ∧ some k_ ≠ (.slice Ao35 t197.length co35 : Value).ownBlock) ∧ some k_ ≠ (.slice Ao136 t214.length co136 : Value).ownBlock) ∧ some k_ ≠ (.slice Ao139 t217.length co139 : Value).ownBlock)) (n := t187.length) (c := co23) ?_).2.2; exact (by (with_reducible repeat (first | apply Kd.R_alloc | apply Kd.R_drewN | apply Kd.R_drew)); exact (Kd.R_mono (Kd.R_far (p := ⟨gb222, 0, none⟩) (Kd.R_types HO_193000.out BK222.out (by decide)) (fun _ hk => hk.2) (.slice Ao139 t217.length co139)) (fun _ h_ => h_.1)))); (case side4 => exact (Kd.R_reads' HO_193000.out).2.1); rintro e w177 ⟨rfl, hb⟩; refine ⟨_, rfl, ?_⟩; have n0_ := Aside0.mk (Kd.R_below (by (with_reducible repeat (first | apply Kd.R_alloc | apply Kd.R_drewN | apply Kd.R_drew)); exact (Kd.R_mono (Kd.R_far (p := ⟨gb222, 0, none⟩) (Kd.R_types HO_193000.out BK222.out (by decide)) (fun _ hk => hk.2) (.slice Ao139 t217.length co139)) (fun _ h_ => h_.1))) hb); have n1_ := Aside0.mk (Kd.R_below (by (with_reducible repeat (first | apply Kd.R_alloc | apply Kd.R_drewN | apply Kd.R_drew)); exact (Kd.R_mono (Kd.R_far (p := ⟨gb222, 0, none⟩) (Kd.R_types HO_197000.out BK222.out (by decide)) (fun _ hk => hk.2) (.slice Ao139 t217.length co139)) (fun _ h_ => h_.1))) hb); have n2_ := Aside0.mk (Kd.R_below (by (with_reducible repeat (first | apply Kd.R_alloc | apply Kd.R_drewN | apply Kd.R_drew)); exact (Kd.R_mono (Kd.R_far (p := ⟨gb222, 0, none⟩) (Kd.R_types HO_203000.out BK222.out (by decide)) (fun _ hk => hk.2) (.slice Ao139 t217.length co139)) (fun _ h_ => h_.1))) hb); have n3_ := Aside0.mk (Kd.R_below (by (with_reducible repeat (first | apply Kd.R_alloc | apply Kd.R_drewN | apply Kd.R_drew)); exact (Kd.R_mono (Kd.R_far (p := ⟨gb222, 0, none⟩) (Kd.R_types HO216.out BK222.out (by decide)) (fun _ hk => hk.2) (.slice Ao139 t217.length co139)) (fun _ h_ => h_.1))) hb); have n4_ := Aside0.mk (Kd.R_below (by (with_reducible repeat (first | apply Kd.R_alloc | apply Kd.R_drewN | apply Kd.R_drew)); exact (Kd.R_mono (Kd.R_far (p := ⟨gb222, 0, none⟩) (Kd.R_types HO219.out BK222.out (by decide)) (fun _ hk => hk.2) (.slice Ao139 t217.length co139)) (fun _ h_ => h_.1))) hb); have n5_ := Aside0.mk (blk_below (g := gb182) (o := .cells #[.slice A0_0 l0_0.length c0_0] 42 (0, 0)) (by (with_reducible repeat (first | refine blk_drewN ?_ _ | refine blk_drew ?_ | refine blk_alloc ?_ _)); refine blk_far ?_ NB182_222.out _; (with_reducible repeat (first | refine blk_drewN ?_ _ | refine blk_drew ?_ | refine blk_alloc ?_ _)); exact BK182.out) hb); have n6_ := Aside0.mk (blk_below (g := gb192) (o := .cells #[.slice Ao23 t187.length co23] 44 (0, 0)) (by (with_reducible repeat (first | refine blk_drewN ?_ _ | refine blk_drew ?_ | refine blk_alloc ?_ _)); refine blk_far ?_ NB192_222.out _; (with_reducible repeat (first | refine blk_drewN ?_ _ | refine blk_drew ?_ | refine blk_alloc ?_ _)); exact BK192.out) hb); have n7_ := Aside0.mk (blk_below (g := gb196) (o := .cells #[.slice Ao29 t209.length co29] 44 (0, 0)) (by (with_reducible repeat (first | refine blk_drewN ?_ _ | refine blk_drew ?_ | refine blk_alloc ?_ _)); refine blk_far ?_ NB196_222.out _; (with_reducible repeat (first | refine blk_drewN ?_ _ | refine blk_drew ?_ | refine blk_alloc ?_ _)); exact BK196.out) hb); have n8_ := Aside0.mk (blk_below (g := gb202) (o := .cells #[.slice Ao35 t197.length co35] 44 (0, 0)) (by (with_reducible repeat (first | refine blk_drewN ?_ _ | refine blk_drew ?_ | refine blk_alloc ?_ _)); refine blk_far ?_ NB202_222.out _; (with_reducible repeat (first | refine blk_drewN ?_ _ | refine blk_drew ?_ | refine blk_alloc ?_ _)); exact BK202.out) hb); have n9_ := Aside0.mk (blk_below (g := gb222) (o := .cells #[.slice Ao139 t217.length co139] 44 (0, 0)) (by (with_reducible repeat (first | refine blk_drewN ?_ _ | refine blk_drew ?_ | refine blk_alloc ?_ _)); refine blk_put (cs := #[.slice none 0 0]) ?_ 0 _ rfl; (with_reducible repeat (first | refine blk_drewN ?_ _ | refine blk_drew ?_ | refine blk_alloc ?_ _)); exact BK222.out) hb); have n10_ := Aside0.mk (below_step (by repeat (first | (with_reducible first | exact HB.out | apply below_alloc | apply pw_below_drewN | apply below_drew1 | refine below_set ?_ GE182.out | refine below_set ?_ GE192.out | refine below_set ?_ GE196.out | refine below_set ?_ GE202.out | refine below_set ?_ GE222.out) | exact HB.out)) hb); clear HO_193000; clear HO_197000; clear HO_203000; clear HO216; clear HO219; clear BK182; clear BK192; clear BK196; clear BK202; clear BK222; clear HB; have HO_193000 := n0_; have HO_197000 := n1_; have HO_203000 := n2_; have HO216 := n3_; have HO219 := n4_; have BK182 := n5_; have BK192 := n6_; have BK196 := n7_; have BK202 := n8_; have BK222 := n9_; have HB := n10_; clear n0_ n1_ n2_ n3_ n4_ n5_ n6_ n7_ n8_ n9_ n10_; (try clear hb); (try clear hb2); (try clear hk); (try clear hi)))
                          go_meet
                          case rel => exact ⟨_, (true), (by first | rfl | (simp; done) | (simp [*]; done)), H', ⟨by have := HJ13.out; have := HJ71.out; first | omega | exact Nat.le_refl _⟩, ⟨by (try simp only [hl197000_71]); (with_reducible repeat (first | apply Kd.R_alloc | apply Kd.R_drewN | apply Kd.R_drew)); exact Kd.R_mono HO_193000.out (fun _ hk => ⟨hk.1.1.1, ⟨hk.1.1.2, hk.2⟩⟩)⟩, ⟨by (try simp only [hl197000_71]); (with_reducible repeat (first | apply Kd.R_alloc | apply Kd.R_drewN | apply Kd.R_drew)); exact Kd.R_mono HO_197000.out (fun _ hk => ⟨hk.1.1.1, ⟨hk.1.1.2, hk.2⟩⟩)⟩, ⟨by (try simp only [hl197000_71]); (with_reducible repeat (first | apply Kd.R_alloc | apply Kd.R_drewN | apply Kd.R_drew)); exact Kd.R_mono HO_203000.out (fun _ hk => ⟨hk.1.1.1, ⟨hk.1.1.2, hk.2⟩⟩)⟩, ⟨by (try simp only [hl197000_71]); (with_reducible repeat (first | apply Kd.R_alloc | apply Kd.R_drewN | apply Kd.R_drew)); exact Kd.R_mono HO219.out (fun _ hk => ⟨hk.1.1.1.2, ⟨hk.1.1.2, hk.1.2⟩⟩)⟩, ⟨by (try simp only [hl197000_71]); (with_reducible repeat (first | refine blk_drewN ?_ _ | refine blk_drew ?_ | refine blk_alloc ?_ _)); exact BK182.out⟩, ⟨by (try simp only [hl197000_71]); (with_reducible repeat (first | refine blk_drewN ?_ _ | refine blk_drew ?_ | refine blk_alloc ?_ _)); exact BK192.out⟩, ⟨by (try simp only [hl197000_71]); (with_reducible repeat (first | refine blk_drewN ?_ _ | refine blk_drew ?_ | refine blk_alloc ?_ _)); exact BK196.out⟩, ⟨by (try simp only [hl197000_71]); (with_reducible repeat (first | refine blk_drewN ?_ _ | refine blk_drew ?_ | refine blk_alloc ?_ _)); exact BK202.out⟩, ⟨by (try simp only [hl197000_71]); (with_reducible repeat (first | refine blk_drewN ?_ _ | refine blk_drew ?_ | refine blk_alloc ?_ _)); exact BK222.out⟩, ⟨by repeat (first | (with_reducible first | exact HB.out | apply below_alloc | apply pw_below_drewN | apply below_drew1 | refine below_set ?_ GE182.out | refine below_set ?_ GE192.out | refine below_set ?_ GE196.out | refine below_set ?_ GE202.out | refine below_set ?_ GE222.out) | exact HB.out)⟩⟩
                      case rest =>
                        clear HC124
                        try clear c1
                        try clear c2
                        try clear p2
                        try clear c3
                        try clear c4
                        try clear c5
                        try clear c6
                        try clear c6b0
                        try clear c7
                        try clear c8
                        try clear c9
                        try clear c10
                        try clear c11
                        try clear c12
                        try clear c13
                        try clear c14
                        try clear c15
                        try clear c16
                        try clear c17
                        try clear c24
                        try clear c26
                        try clear c28
                        try clear c30
                        try clear c31
                        try clear c32
                        try clear c36
                        try clear c37
                        try clear c38
                        try clear c41
                        try clear c42
                        try clear c42b0
                        try clear c42b1
                        try clear c42b2
                        try clear c43
                        try clear c44
                        try clear c45
                        try clear c47
                        try clear c48
                        try clear c51
                        try clear c52
                        try clear c53
                        try clear c55
                        try clear c56
                        try clear c59
                        try clear c60
                        try clear c61
                        try clear c63
                        try clear c64
                        try clear c67
                        try clear c70
                        try clear c77
                        try clear c78
                        try clear c79
                        try clear c82
                        try clear c82b0
                        try clear c84
                        try clear c85
                        try clear c85b0
                        try clear c85b1
                        try clear c85b2
                        try clear c86
                        try clear c87
                        try clear c88
                        try clear c90
                        try clear c91
                        try clear c94
                        try clear c95
                        try clear c96
                        try clear c98
                        try clear c99
                        try clear c102
                        try clear c103
                        try clear c104
                        try clear c106
                        try clear c107
                        try clear c110
                        try clear c113
                        try clear c113b0
                        try clear c114
                        try clear c115
                        try clear c116
                        try clear c121
                        try clear c121b0
                        try clear c121b1
                        try clear c125
                        try clear c126
                        try clear c127
                        try clear c132
                        try clear c133
                        try clear c140
                        try clear c141
                        try clear c142
                        try clear c143
                        try clear c146
                        try clear c147
                        try clear c147b0
                        try clear c147b1
                        try clear c147b2
                        try clear c148
                        try clear c149
                        try clear c150
                        try clear c151
                        try clear c153
                        try clear c154
                        try clear c155
                        try clear c158
                        try clear c159
                        try clear c160
                        try clear c161
                        try clear c163
                        try clear c164
                        try clear c165
                        try clear c168
                        try clear c169
                        try clear c170
                        try clear c171
                        try clear c173
                        try clear c174
                        try clear c175
                        try clear hcz100_0
                        try clear hcz105_0
                        try clear hcz108_0
                        try clear hcz117_0
                        try clear hcz119_0
                        try clear hcz128_0
                        try clear hcz130_0
                        try clear hcz134_0
                        try clear hcz144_0
                        try clear hcz152_0
                        try clear hcz156_0
                        try clear hcz162_0
                        try clear hcz166_0
                        try clear hcz16_0
                        try clear hcz172_0
                        try clear hcz176_0
                        try clear hcz18_0
                        try clear hcz25_0
                        try clear hcz26_0
                        try clear hcz32_0
                        try clear hcz39_0
                        try clear hcz46_0
                        try clear hcz49_0
                        try clear hcz54_0
                        try clear hcz57_0
                        try clear hcz62_0
                        try clear hcz65_0
                        try clear hcz80_0
                        try clear hcz89_0
                        try clear hcz8_0
                        try clear hcz92_0
                        try clear hcz97_0
                        try clear hfz100_0
                        try clear hfz105_0
                        try clear hfz108_0
                        try clear hfz117_0
                        try clear hfz119_0
                        try clear hfz128_0
                        try clear hfz130_0
                        try clear hfz134_0
                        try clear hfz144_0
                        try clear hfz152_0
                        try clear hfz156_0
                        try clear hfz162_0
                        try clear hfz166_0
                        try clear hfz16_0
                        try clear hfz172_0
                        try clear hfz176_0
                        try clear hfz18_0
                        try clear hfz25_0
                        try clear hfz26_0
                        try clear hfz32_0
                        try clear hfz39_0
                        try clear hfz46_0
                        try clear hfz49_0
                        try clear hfz54_0
                        try clear hfz57_0
                        try clear hfz62_0
                        try clear hfz65_0
                        try clear hfz80_0
                        try clear hfz89_0
                        try clear hfz8_0
                        try clear hfz92_0
                        try clear hfz97_0
                        try clear p2
                        obtain ⟨kq, x123_123, rfl, HA, HJ123, HO_193000, HO_197000, HO_203000, HO_223000, BK182, BK192, BK196, BK202, BK222, HB⟩ := hcut
                        have hl203000_123 := (Kd.R_reads' HO_203000.out).1
                        rw [hl203000_123] at HO_203000
                        (try simp only [hl203000_123])
                        (try simp only [hl203000_123] at BK182)
                        (try simp only [hl203000_123] at BK192)
                        (try simp only [hl203000_123] at BK196)
                        (try simp only [hl203000_123] at BK202)
                        (try simp only [hl203000_123] at BK222)
                        (try simp only [hl203000_123] at HO_193000)
                        (try simp only [hl203000_123] at HO_197000)
                        (try simp only [hl203000_123] at HO_223000)
                        cases kq with
                        | zero => exact absurd HA.out (by simp [laws_FnExactMemCas.j2])
                        | succ kj123 =>
                          have H := HA.out
                          clear HA
                          simp only [laws_FnExactMemCas.j2] at H
                          by_cases c178 : x123_123 = true
                          · subst c178
                            have H1 : (some false) = some r := by rw [if_pos rfl] at H; exact H
                            clear H
                            have H := H1
                            clear H1
                            obtain rfl := Option.some.inj H
                            go_wp2
                            go_ret
                            exact ⟨by first | rfl | (simp [errW_none, errW_some] <;> rfl) | (simp [*, errW_none, errW_some] <;> rfl), by repeat (first | (with_reducible first | exact HB.out | apply below_alloc | apply pw_below_drewN | apply below_drew1 | refine below_set ?_ GE182.out | refine below_set ?_ GE192.out | refine below_set ?_ GE196.out | refine below_set ?_ GE202.out | refine below_set ?_ GE222.out) | exact HB.out)⟩
                          · replace c178 := Bool.eq_false_iff.mpr c178
                            subst c178
                            have H1 : ((laws_heldMem.f kj123 t212 1).bind fun t224 => (if t224 < 0 then (some false) else (if t224 = t211 then (some true) else (some false)))) = some r := by rw [if_neg (show ¬ (false = true) by decide)] at H; exact H
                            clear H
                            have H := H1
                            clear H1
                            replace H := Option.bind_eq_some_iff.mp H
                            obtain ⟨t224, A1790, H⟩ := H
                            replace H : (if t224 < 0 then (some false) else (if t224 = t211 then (some true) else (some false))) = some r := H
                            have A179 := Aside0.mk A1790
                            clear A1790
                            by_cases c180 : t224 < 0
                            · rw [if_pos c180] at H
                              have c180b0 : decide (t224 < 0) = true := decide_eq_true c180
                              clear c180
                              obtain rfl := Option.some.inj H
                              have hnb181 := NB202_182.out
                              have hnc181 := NB182_202.out
                              have hnb182 := NB202_192.out
                              have hnc182 := NB192_202.out
                              have hnb183 := NB202_196.out
                              have hnc183 := NB196_202.out
                              have hnb184 := NB202_222.out
                              have hnc184 := NB222_202.out
                              have hcz185_0 : wc.cell? ⟨gb202, 0, none⟩ = some (.slice Ao35 t212.length co35) := (blk_cell BK202.out 0).trans rfl
                              have hfz185_0 := blk_frozen BK202.out 0
                              go_wp2_with (first | ((with_reducible refine gate_callee (f := 32) rfl ?_); refine goesL_ (some 126) rfl rfl Try.func32 (by kernel_rfl) rfl #[.agg #[.slice Ao35 t212.length co35], .int .i64 1] rfl (by (try simp only [List.map_toArray, List.map_cons, List.map_nil]); first | done | rfl | (simp only [List.length_drop, List.length_take]; rfl)) ?_; (with_reducible refine (laws_heldMem.calls kj123 _ _ t212 1 t224 _ ?side1 ?side2 A179.out).mono ?_); (case side1 => repeat (first | exact (Kd.R_reads' HO_203000.out).2.2 | (with_reducible refine Kd.C_alloc ?_ _) | (with_reducible refine Kd.C_drewN ?_ _) | (with_reducible refine Kd.C_drew ?_))); (case side2 => exact (Kd.R_reads' HO_203000.out).2.1); rintro e w186 ⟨rfl, hb⟩; refine ⟨_, rfl, ?_⟩; have n0_ := Aside0.mk (Kd.R_below (by (with_reducible repeat (first | apply Kd.R_alloc | apply Kd.R_drewN | apply Kd.R_drew)); exact HO_193000.out) hb); have n1_ := Aside0.mk (Kd.R_below (by (with_reducible repeat (first | apply Kd.R_alloc | apply Kd.R_drewN | apply Kd.R_drew)); exact HO_197000.out) hb); have n2_ := Aside0.mk (Kd.R_below (by (with_reducible repeat (first | apply Kd.R_alloc | apply Kd.R_drewN | apply Kd.R_drew)); exact HO_203000.out) hb); have n3_ := Aside0.mk (Kd.R_below (by (with_reducible repeat (first | apply Kd.R_alloc | apply Kd.R_drewN | apply Kd.R_drew)); exact HO_223000.out) hb); have n4_ := Aside0.mk (blk_below (g := gb182) (o := .cells #[.slice A0_0 l0_0.length c0_0] 42 (0, 0)) (by (with_reducible repeat (first | refine blk_drewN ?_ _ | refine blk_drew ?_ | refine blk_alloc ?_ _)); exact BK182.out) hb); have n5_ := Aside0.mk (blk_below (g := gb192) (o := .cells #[.slice Ao23 t187.length co23] 44 (0, 0)) (by (with_reducible repeat (first | refine blk_drewN ?_ _ | refine blk_drew ?_ | refine blk_alloc ?_ _)); exact BK192.out) hb); have n6_ := Aside0.mk (blk_below (g := gb196) (o := .cells #[.slice Ao29 t209.length co29] 44 (0, 0)) (by (with_reducible repeat (first | refine blk_drewN ?_ _ | refine blk_drew ?_ | refine blk_alloc ?_ _)); exact BK196.out) hb); have n7_ := Aside0.mk (blk_below (g := gb202) (o := .cells #[.slice Ao35 t212.length co35] 44 (0, 0)) (by (with_reducible repeat (first | refine blk_drewN ?_ _ | refine blk_drew ?_ | refine blk_alloc ?_ _)); exact BK202.out) hb); have n8_ := Aside0.mk (blk_below (g := gb222) (o := .cells #[.slice Ao139 t217.length co139] 44 (0, 0)) (by (with_reducible repeat (first | refine blk_drewN ?_ _ | refine blk_drew ?_ | refine blk_alloc ?_ _)); exact BK222.out) hb); have n9_ := Aside0.mk (below_step (by repeat (first | (with_reducible first | exact HB.out | apply below_alloc | apply pw_below_drewN | apply below_drew1 | refine below_set ?_ GE182.out | refine below_set ?_ GE192.out | refine below_set ?_ GE196.out | refine below_set ?_ GE202.out | refine below_set ?_ GE222.out) | exact HB.out)) hb); clear HO_193000; clear HO_197000; clear HO_203000; clear HO_223000; clear BK182; clear BK192; clear BK196; clear BK202; clear BK222; clear HB; have HO_193000 := n0_; have HO_197000 := n1_; have HO_203000 := n2_; have HO_223000 := n3_; have BK182 := n4_; have BK192 := n5_; have BK196 := n6_; have BK202 := n7_; have BK222 := n8_; have HB := n9_; clear n0_ n1_ n2_ n3_ n4_ n5_ n6_ n7_ n8_ n9_; (try clear hb); (try clear hb2); (try clear hk); (try clear hi)))
                              go_ret
                              exact ⟨by first | rfl | (simp [errW_none, errW_some] <;> rfl) | (simp [*, errW_none, errW_some] <;> rfl), by repeat (first | (with_reducible first | exact HB.out | apply below_alloc | apply pw_below_drewN | apply below_drew1 | refine below_set ?_ GE182.out | refine below_set ?_ GE192.out | refine below_set ?_ GE196.out | refine below_set ?_ GE202.out | refine below_set ?_ GE222.out) | exact HB.out)⟩
                            · rw [if_neg c180] at H
                              have c180b0 : decide (t224 < 0) = false := decide_eq_false c180
                              clear c180
                              by_cases c187 : t224 = t211
                              · rw [if_pos c187] at H
                                have c187b0 : (t224 == t211) = true := beq_iff_eq.mpr c187
                                have c187b1 : (t224 != t211) = false := bne_eq_false_iff_eq.mpr c187
                                clear c187
                                obtain rfl := Option.some.inj H
                                have hnb188 := NB202_182.out
                                have hnc188 := NB182_202.out
                                have hnb189 := NB202_192.out
                                have hnc189 := NB192_202.out
                                have hnb190 := NB202_196.out
                                have hnc190 := NB196_202.out
                                have hnb191 := NB202_222.out
                                have hnc191 := NB222_202.out
                                have hcz192_0 : wc.cell? ⟨gb202, 0, none⟩ = some (.slice Ao35 t212.length co35) := (blk_cell BK202.out 0).trans rfl
                                have hfz192_0 := blk_frozen BK202.out 0
                                go_wp2_with (first | ((with_reducible refine gate_callee (f := 32) rfl ?_); refine goesL_ (some 126) rfl rfl Try.func32 (by kernel_rfl) rfl #[.agg #[.slice Ao35 t212.length co35], .int .i64 1] rfl (by (try simp only [List.map_toArray, List.map_cons, List.map_nil]); first | done | rfl | (simp only [List.length_drop, List.length_take]; rfl)) ?_; (with_reducible refine (laws_heldMem.calls kj123 _ _ t212 1 t224 _ ?side1 ?side2 A179.out).mono ?_); (case side1 => repeat (first | exact (Kd.R_reads' HO_203000.out).2.2 | (with_reducible refine Kd.C_alloc ?_ _) | (with_reducible refine Kd.C_drewN ?_ _) | (with_reducible refine Kd.C_drew ?_))); (case side2 => exact (Kd.R_reads' HO_203000.out).2.1); rintro e w193 ⟨rfl, hb⟩; refine ⟨_, rfl, ?_⟩; have n0_ := Aside0.mk (Kd.R_below (by (with_reducible repeat (first | apply Kd.R_alloc | apply Kd.R_drewN | apply Kd.R_drew)); exact HO_193000.out) hb); have n1_ := Aside0.mk (Kd.R_below (by (with_reducible repeat (first | apply Kd.R_alloc | apply Kd.R_drewN | apply Kd.R_drew)); exact HO_197000.out) hb); have n2_ := Aside0.mk (Kd.R_below (by (with_reducible repeat (first | apply Kd.R_alloc | apply Kd.R_drewN | apply Kd.R_drew)); exact HO_203000.out) hb); have n3_ := Aside0.mk (Kd.R_below (by (with_reducible repeat (first | apply Kd.R_alloc | apply Kd.R_drewN | apply Kd.R_drew)); exact HO_223000.out) hb); have n4_ := Aside0.mk (blk_below (g := gb182) (o := .cells #[.slice A0_0 l0_0.length c0_0] 42 (0, 0)) (by (with_reducible repeat (first | refine blk_drewN ?_ _ | refine blk_drew ?_ | refine blk_alloc ?_ _)); exact BK182.out) hb); have n5_ := Aside0.mk (blk_below (g := gb192) (o := .cells #[.slice Ao23 t187.length co23] 44 (0, 0)) (by (with_reducible repeat (first | refine blk_drewN ?_ _ | refine blk_drew ?_ | refine blk_alloc ?_ _)); exact BK192.out) hb); have n6_ := Aside0.mk (blk_below (g := gb196) (o := .cells #[.slice Ao29 t209.length co29] 44 (0, 0)) (by (with_reducible repeat (first | refine blk_drewN ?_ _ | refine blk_drew ?_ | refine blk_alloc ?_ _)); exact BK196.out) hb); have n7_ := Aside0.mk (blk_below (g := gb202) (o := .cells #[.slice Ao35 t212.length co35] 44 (0, 0)) (by (with_reducible repeat (first | refine blk_drewN ?_ _ | refine blk_drew ?_ | refine blk_alloc ?_ _)); exact BK202.out) hb); have n8_ := Aside0.mk (blk_below (g := gb222) (o := .cells #[.slice Ao139 t217.length co139] 44 (0, 0)) (by (with_reducible repeat (first | refine blk_drewN ?_ _ | refine blk_drew ?_ | refine blk_alloc ?_ _)); exact BK222.out) hb); have n9_ := Aside0.mk (below_step (by repeat (first | (with_reducible first | exact HB.out | apply below_alloc | apply pw_below_drewN | apply below_drew1 | refine below_set ?_ GE182.out | refine below_set ?_ GE192.out | refine below_set ?_ GE196.out | refine below_set ?_ GE202.out | refine below_set ?_ GE222.out) | exact HB.out)) hb); clear HO_193000; clear HO_197000; clear HO_203000; clear HO_223000; clear BK182; clear BK192; clear BK196; clear BK202; clear BK222; clear HB; have HO_193000 := n0_; have HO_197000 := n1_; have HO_203000 := n2_; have HO_223000 := n3_; have BK182 := n4_; have BK192 := n5_; have BK196 := n6_; have BK202 := n7_; have BK222 := n8_; have HB := n9_; clear n0_ n1_ n2_ n3_ n4_ n5_ n6_ n7_ n8_ n9_; (try clear hb); (try clear hb2); (try clear hk); (try clear hi)))
                                go_ret
                                exact ⟨by first | rfl | (simp [errW_none, errW_some] <;> rfl) | (simp [*, errW_none, errW_some] <;> rfl), by repeat (first | (with_reducible first | exact HB.out | apply below_alloc | apply pw_below_drewN | apply below_drew1 | refine below_set ?_ GE182.out | refine below_set ?_ GE192.out | refine below_set ?_ GE196.out | refine below_set ?_ GE202.out | refine below_set ?_ GE222.out) | exact HB.out)⟩
                              · rw [if_neg c187] at H
                                have c187b0 : (t224 == t211) = false := beq_eq_false_iff_ne.mpr c187
                                have c187b1 : (t224 != t211) = true := bne_iff_ne.mpr c187
                                obtain rfl := Option.some.inj H
                                have hnb194 := NB202_182.out
                                have hnc194 := NB182_202.out
                                have hnb195 := NB202_192.out
                                have hnc195 := NB192_202.out
                                have hnb196 := NB202_196.out
                                have hnc196 := NB196_202.out
                                have hnb197 := NB202_222.out
                                have hnc197 := NB222_202.out
                                have hcz198_0 : wc.cell? ⟨gb202, 0, none⟩ = some (.slice Ao35 t212.length co35) := (blk_cell BK202.out 0).trans rfl
                                have hfz198_0 := blk_frozen BK202.out 0
                                go_wp2_with (first | ((with_reducible refine gate_callee (f := 32) rfl ?_); refine goesL_ (some 126) rfl rfl Try.func32 (by kernel_rfl) rfl #[.agg #[.slice Ao35 t212.length co35], .int .i64 1] rfl (by (try simp only [List.map_toArray, List.map_cons, List.map_nil]); first | done | rfl | (simp only [List.length_drop, List.length_take]; rfl)) ?_; (with_reducible refine (laws_heldMem.calls kj123 _ _ t212 1 t224 _ ?side1 ?side2 A179.out).mono ?_); (case side1 => repeat (first | exact (Kd.R_reads' HO_203000.out).2.2 | (with_reducible refine Kd.C_alloc ?_ _) | (with_reducible refine Kd.C_drewN ?_ _) | (with_reducible refine Kd.C_drew ?_))); (case side2 => exact (Kd.R_reads' HO_203000.out).2.1); rintro e w199 ⟨rfl, hb⟩; refine ⟨_, rfl, ?_⟩; have n0_ := Aside0.mk (Kd.R_below (by (with_reducible repeat (first | apply Kd.R_alloc | apply Kd.R_drewN | apply Kd.R_drew)); exact HO_193000.out) hb); have n1_ := Aside0.mk (Kd.R_below (by (with_reducible repeat (first | apply Kd.R_alloc | apply Kd.R_drewN | apply Kd.R_drew)); exact HO_197000.out) hb); have n2_ := Aside0.mk (Kd.R_below (by (with_reducible repeat (first | apply Kd.R_alloc | apply Kd.R_drewN | apply Kd.R_drew)); exact HO_203000.out) hb); have n3_ := Aside0.mk (Kd.R_below (by (with_reducible repeat (first | apply Kd.R_alloc | apply Kd.R_drewN | apply Kd.R_drew)); exact HO_223000.out) hb); have n4_ := Aside0.mk (blk_below (g := gb182) (o := .cells #[.slice A0_0 l0_0.length c0_0] 42 (0, 0)) (by (with_reducible repeat (first | refine blk_drewN ?_ _ | refine blk_drew ?_ | refine blk_alloc ?_ _)); exact BK182.out) hb); have n5_ := Aside0.mk (blk_below (g := gb192) (o := .cells #[.slice Ao23 t187.length co23] 44 (0, 0)) (by (with_reducible repeat (first | refine blk_drewN ?_ _ | refine blk_drew ?_ | refine blk_alloc ?_ _)); exact BK192.out) hb); have n6_ := Aside0.mk (blk_below (g := gb196) (o := .cells #[.slice Ao29 t209.length co29] 44 (0, 0)) (by (with_reducible repeat (first | refine blk_drewN ?_ _ | refine blk_drew ?_ | refine blk_alloc ?_ _)); exact BK196.out) hb); have n7_ := Aside0.mk (blk_below (g := gb202) (o := .cells #[.slice Ao35 t212.length co35] 44 (0, 0)) (by (with_reducible repeat (first | refine blk_drewN ?_ _ | refine blk_drew ?_ | refine blk_alloc ?_ _)); exact BK202.out) hb); have n8_ := Aside0.mk (blk_below (g := gb222) (o := .cells #[.slice Ao139 t217.length co139] 44 (0, 0)) (by (with_reducible repeat (first | refine blk_drewN ?_ _ | refine blk_drew ?_ | refine blk_alloc ?_ _)); exact BK222.out) hb); have n9_ := Aside0.mk (below_step (by repeat (first | (with_reducible first | exact HB.out | apply below_alloc | apply pw_below_drewN | apply below_drew1 | refine below_set ?_ GE182.out | refine below_set ?_ GE192.out | refine below_set ?_ GE196.out | refine below_set ?_ GE202.out | refine below_set ?_ GE222.out) | exact HB.out)) hb); clear HO_193000; clear HO_197000; clear HO_203000; clear HO_223000; clear BK182; clear BK192; clear BK196; clear BK202; clear BK222; clear HB; have HO_193000 := n0_; have HO_197000 := n1_; have HO_203000 := n2_; have HO_223000 := n3_; have BK182 := n4_; have BK192 := n5_; have BK196 := n6_; have BK202 := n7_; have BK222 := n8_; have HB := n9_; clear n0_ n1_ n2_ n3_ n4_ n5_ n6_ n7_ n8_ n9_; (try clear hb); (try clear hb2); (try clear hk); (try clear hi)))
                                go_ret
                                exact ⟨by first | rfl | (simp [errW_none, errW_some] <;> rfl) | (simp [*, errW_none, errW_some] <;> rfl), by repeat (first | (with_reducible first | exact HB.out | apply below_alloc | apply pw_below_drewN | apply below_drew1 | refine below_set ?_ GE182.out | refine below_set ?_ GE192.out | refine below_set ?_ GE196.out | refine below_set ?_ GE202.out | refine below_set ?_ GE222.out) | exact HB.out)⟩
                    · rw [if_neg c121] at H
                      have c121b0 : (t213 == t211) = false := beq_eq_false_iff_ne.mpr c121
                      have c121b1 : (t213 != t211) = true := bne_iff_ne.mpr c121
                      obtain rfl := Option.some.inj H
                      have hnb200 := NB202_182.out
                      have hnc200 := NB182_202.out
                      have hnb201 := NB202_192.out
                      have hnc201 := NB192_202.out
                      have hnb202 := NB202_196.out
                      have hnc202 := NB196_202.out
                      have hcz203_0 : wc.cell? ⟨gb202, 0, none⟩ = some (.slice Ao35 t197.length co35) := (blk_cell BK202.out 0).trans rfl
                      have hfz203_0 := blk_frozen BK202.out 0
                      go_wp2_with (first | ((with_reducible refine gate_callee (f := 31) rfl ?_); refine goesL_ (some 91) rfl rfl Try.func31 (by kernel_rfl) rfl #[.agg #[.slice Ao35 t197.length co35], .int .i64 1] rfl (by (try simp only [List.map_toArray, List.map_cons, List.map_nil]); first | done | rfl | (simp only [List.length_drop, List.length_take]; rfl)) ?_; (with_reducible refine (laws_markMem.calls kj71 (fun k_ => some k_ = (.slice Ao35 t197.length co35 : Value).ownBlock) (.slice Ao35 t197.length co35) t197 1 t211 t212 w _ ?side1 ?side2 A111.out).mono ?_); (case side1 => repeat (first | (with_reducible first | exact HB.out | apply below_alloc | apply pw_below_drewN | apply below_drew1 | refine below_set ?_ GE182.out | refine below_set ?_ GE192.out | refine below_set ?_ GE196.out | refine below_set ?_ GE202.out) | exact HB.out)); (case side2 => exact Kd.R_tight rfl HO_203000.out); rintro e w204 ⟨rfl, hy0, hb, hkp⟩; refine ⟨_, rfl, ?_⟩; have n0_ := Aside0.mk (Kd.R_mono (ok' := fun k_ => some k_ ≠ (.slice Ao29 t209.length co29 : Value).ownBlock ∧ some k_ ≠ (.slice Ao35 t197.length co35 : Value).ownBlock) (Kd.R_keptB (HO_193000.out) hkp (fun k_ hk_ hs_ => (hk_.2) hs_)) (fun k_ hk_ => ⟨hk_.1.1, hk_.1.2⟩)); have n1_ := Aside0.mk (Kd.R_mono (ok' := fun k_ => some k_ ≠ (.slice Ao23 t187.length co23 : Value).ownBlock ∧ some k_ ≠ (.slice Ao35 t197.length co35 : Value).ownBlock) (Kd.R_keptB (HO_197000.out) hkp (fun k_ hk_ hs_ => (hk_.2) hs_)) (fun k_ hk_ => ⟨hk_.1.1, hk_.1.2⟩)); have n2_ := Aside0.mk (Kd.R_reok rfl hy0 (fun k_ e_ => HO_203000.out.1 k_ e_)); have n3_ := Aside0.mk (blk_kept (by (with_reducible repeat (first | refine blk_drewN ?_ _ | refine blk_drew ?_ | refine blk_alloc ?_ _)); exact BK182.out) hkp (fun hs_ => (fun e_ => (Kd.R_ne HO_203000.out BK182.out (by decide)) e_) hs_)); have n4_ := Aside0.mk (blk_kept (by (with_reducible repeat (first | refine blk_drewN ?_ _ | refine blk_drew ?_ | refine blk_alloc ?_ _)); exact BK192.out) hkp (fun hs_ => (fun e_ => (Kd.R_ne HO_203000.out BK192.out (by decide)) e_) hs_)); have n5_ := Aside0.mk (blk_kept (by (with_reducible repeat (first | refine blk_drewN ?_ _ | refine blk_drew ?_ | refine blk_alloc ?_ _)); exact BK196.out) hkp (fun hs_ => (fun e_ => (Kd.R_ne HO_203000.out BK196.out (by decide)) e_) hs_)); have n6_ := Aside0.mk (blk_kept (by (with_reducible repeat (first | refine blk_drewN ?_ _ | refine blk_drew ?_ | refine blk_alloc ?_ _)); exact BK202.out) hkp (fun hs_ => (fun e_ => (Kd.R_ne HO_203000.out BK202.out (by decide)) e_) hs_)); have n7_ := Aside0.mk (hb); clear HO_193000; clear HO_197000; clear HO_203000; clear BK182; clear BK192; clear BK196; clear BK202; clear HB; have HO_193000 := n0_; have HO_197000 := n1_; have HO_203000 := n2_; have BK182 := n3_; have BK192 := n4_; have BK196 := n5_; have BK202 := n6_; have HB := n7_; clear n0_ n1_ n2_ n3_ n4_ n5_ n6_ n7_; (try clear hb); (try clear hkp); (try clear hy0); have hcz205_0 : w204.cell? ⟨gb202, 0, none⟩ = some (.slice Ao35 t197.length co35) := (blk_cell BK202.out 0).trans rfl; have hfz205_0 := blk_frozen BK202.out 0) | ((with_reducible refine gate_callee (f := 32) rfl ?_); refine goesL_ (some 94) rfl rfl Try.func32 (by kernel_rfl) rfl #[.agg #[.slice Ao35 t212.length co35], .int .i64 1] rfl (by (try simp only [List.map_toArray, List.map_cons, List.map_nil]); first | done | (rw [show t212.length = t197.length from (Kd.R_reads' HO_203000.out).1.symm] <;> rfl) | rfl | (simp only [List.length_drop, List.length_take]; rfl)) ?_; (with_reducible refine (laws_heldMem.calls kj71 _ _ t212 1 t213 _ ?side1 ?side2 A112.out).mono ?_); (case side1 => repeat (first | exact (Kd.R_reads' HO_203000.out).2.2 | (with_reducible refine Kd.C_alloc ?_ _) | (with_reducible refine Kd.C_drewN ?_ _) | (with_reducible refine Kd.C_drew ?_))); (case side2 => rw [show t212.length = t197.length from (Kd.R_reads' HO_203000.out).1.symm]; exact (Kd.R_reads' HO_203000.out).2.1); rintro e w206 ⟨rfl, hb⟩; refine ⟨_, rfl, ?_⟩; have n0_ := Aside0.mk (Kd.R_below (by (with_reducible repeat (first | apply Kd.R_alloc | apply Kd.R_drewN | apply Kd.R_drew)); exact HO_193000.out) hb); have n1_ := Aside0.mk (Kd.R_below (by (with_reducible repeat (first | apply Kd.R_alloc | apply Kd.R_drewN | apply Kd.R_drew)); exact HO_197000.out) hb); have n2_ := Aside0.mk (Kd.R_below (by (with_reducible repeat (first | apply Kd.R_alloc | apply Kd.R_drewN | apply Kd.R_drew)); exact HO_203000.out) hb); have n3_ := Aside0.mk (blk_below (g := gb182) (o := .cells #[.slice A0_0 l0_0.length c0_0] 42 (0, 0)) (by (with_reducible repeat (first | refine blk_drewN ?_ _ | refine blk_drew ?_ | refine blk_alloc ?_ _)); exact BK182.out) hb); have n4_ := Aside0.mk (blk_below (g := gb192) (o := .cells #[.slice Ao23 t187.length co23] 44 (0, 0)) (by (with_reducible repeat (first | refine blk_drewN ?_ _ | refine blk_drew ?_ | refine blk_alloc ?_ _)); exact BK192.out) hb); have n5_ := Aside0.mk (blk_below (g := gb196) (o := .cells #[.slice Ao29 t209.length co29] 44 (0, 0)) (by (with_reducible repeat (first | refine blk_drewN ?_ _ | refine blk_drew ?_ | refine blk_alloc ?_ _)); exact BK196.out) hb); have n6_ := Aside0.mk (blk_below (g := gb202) (o := .cells #[.slice Ao35 t197.length co35] 44 (0, 0)) (by (with_reducible repeat (first | refine blk_drewN ?_ _ | refine blk_drew ?_ | refine blk_alloc ?_ _)); exact BK202.out) hb); have n7_ := Aside0.mk (below_step (by repeat (first | (with_reducible first | exact HB.out | apply below_alloc | apply pw_below_drewN | apply below_drew1 | refine below_set ?_ GE182.out | refine below_set ?_ GE192.out | refine below_set ?_ GE196.out | refine below_set ?_ GE202.out) | exact HB.out)) hb); clear HO_193000; clear HO_197000; clear HO_203000; clear BK182; clear BK192; clear BK196; clear BK202; clear HB; have HO_193000 := n0_; have HO_197000 := n1_; have HO_203000 := n2_; have BK182 := n3_; have BK192 := n4_; have BK196 := n5_; have BK202 := n6_; have HB := n7_; clear n0_ n1_ n2_ n3_ n4_ n5_ n6_ n7_; (try clear hb); (try clear hb2); (try clear hk); (try clear hi)))
                      go_ret
                      exact ⟨by first | rfl | (simp [errW_none, errW_some] <;> rfl) | (simp [*, errW_none, errW_some] <;> rfl), by repeat (first | (with_reducible first | exact HB.out | apply below_alloc | apply pw_below_drewN | apply below_drew1 | refine below_set ?_ GE182.out | refine below_set ?_ GE192.out | refine below_set ?_ GE196.out | refine below_set ?_ GE202.out) | exact HB.out)⟩
          · replace c70 := Bool.eq_false_iff.mpr c70
            subst c70
            have H1 : (some false) = some r := by rw [if_neg (show ¬ (false = true) by decide)] at H; exact H
            clear H
            have H := H1
            clear H1
            obtain rfl := Option.some.inj H
            try go_wp2
            have n0_ := Aside0.mk (Kd.R_drew HO_193000.out)
            have n1_ := Aside0.mk (Kd.R_drew HO_197000.out)
            have n2_ := Aside0.mk (Kd.R_drew HO_203000.out)
            have n3_ := Aside0.mk (blk_drew BK182.out)
            have n4_ := Aside0.mk (blk_drew BK192.out)
            have n5_ := Aside0.mk (blk_drew BK196.out)
            have n6_ := Aside0.mk (blk_drew BK202.out)
            have n7_ := Aside0.mk (below_drew1 HB.out)
            clear HO_193000
            clear HO_197000
            clear HO_203000
            clear BK182
            clear BK192
            clear BK196
            clear BK202
            clear HB
            have HO_193000 := n0_
            have HO_197000 := n1_
            have HO_203000 := n2_
            have BK182 := n3_
            have BK192 := n4_
            have BK196 := n5_
            have BK202 := n6_
            have HB := n7_
            clear n0_ n1_ n2_ n3_ n4_ n5_ n6_ n7_
            refine start_ (n := 5) (S := fun w' => w'.cell? ⟨gb196, 0, none⟩ = some (.slice Ao29 t193.length co29) ∧ w'.cell? ⟨gb182, 0, none⟩ = some (.slice A0_0 l0_0.length c0_0)) (ds := []) #[false, false, false, false, false] (by kernel_rfl) rfl rfl ⟨(blk_cell BK196.out 0).trans rfl, (blk_cell BK182.out 0).trans rfl⟩ (fun hHeld => ?_)
            generalize wc.drew = w207 at HO_193000 HO_197000 HO_203000 BK182 BK192 BK196 BK202 HB hHeld ⊢
            refine take_ (i := 0) (N := some 63) (v := ?_) (a' := ?_) #[true, false, false, false, false] rfl rfl (by kernel_rfl) (fun _ _ _ h => h) (Or.inl ⟨by rfl, ?_⟩) hHeld ?_ ?_
            rotate_left
            · rintro w' ⟨s0, s1⟩
              go_simp
              with_reducible rfl
            rotate_left
            · simp only [Act.put, List.setIfInBounds_toArray, List.set_cons_zero, List.set_cons_succ, i64_w, i32_w]
              rfl
            refine take_ (i := 1) (N := some 64) (v := ?_) (a' := ?_) #[true, true, false, false, false] rfl rfl (by kernel_rfl) (fun _ _ _ h => h) (Or.inl ⟨by rfl, ?_⟩) hHeld ?_ ?_
            rotate_left
            · rintro w' ⟨s0, s1⟩
              go_simp
              with_reducible rfl
            rotate_left
            · simp only [Act.put, List.setIfInBounds_toArray, List.set_cons_zero, List.set_cons_succ, i64_w, i32_w]
              rfl
            refine one_ (i := 2) (N := some 65) #[true, true, true, false, false] rfl rfl (by kernel_rfl) (by decide) (fun K hK => ?_)
            refine goes_ Try.func28 (by kernel_rfl) rfl #[.agg #[.slice A0_0 l0_0.length c0_0]] (by rfl) rfl rfl (by (try simp only [List.map_toArray, List.map_cons, List.map_nil]); first | done | rfl | (simp only [List.length_drop, List.length_take]; rfl)) ?_
            with_reducible refine (laws_toMem.calls kj13 _ _ l0_0 t204 _ ?side1 ?side2 A68.out).mono ?_
            (case side1 => repeat (first | exact (Kd.C_below HR0_0.out HB.out) | (with_reducible refine Kd.C_alloc ?_ _) | (with_reducible refine Kd.C_drewN ?_ _) | (with_reducible refine Kd.C_drew ?_)))
            (case side2 => exact HC0_0.out)
            rintro e w208 ⟨v205, rfl, ho0, hb⟩
            refine ⟨_, rfl, ?_⟩
            have n0_ := Aside0.mk (Kd.R_elder' (by (with_reducible repeat (first | apply Kd.R_alloc | apply Kd.R_drewN | apply Kd.R_drew)); exact HO_193000.out) (Kd.R_base ho0) hb)
            have n1_ := Aside0.mk (Kd.R_elder' (by (with_reducible repeat (first | apply Kd.R_alloc | apply Kd.R_drewN | apply Kd.R_drew)); exact HO_197000.out) (Kd.R_base ho0) hb)
            have n2_ := Aside0.mk (Kd.R_elder' (by (with_reducible repeat (first | apply Kd.R_alloc | apply Kd.R_drewN | apply Kd.R_drew)); exact HO_203000.out) (Kd.R_base ho0) hb)
            have n3_ := Aside0.mk (Kd.R_lower (Kd.R_new' (Kd.R_new' (Kd.R_new' ho0 (Kd.R_lt (by (with_reducible repeat (first | apply Kd.R_alloc | apply Kd.R_drewN | apply Kd.R_drew)); exact HO_193000.out))) (Kd.R_lt (by (with_reducible repeat (first | apply Kd.R_alloc | apply Kd.R_drewN | apply Kd.R_drew)); exact HO_197000.out))) (Kd.R_lt (by (with_reducible repeat (first | apply Kd.R_alloc | apply Kd.R_drewN | apply Kd.R_drew)); exact HO_203000.out))) (below_size (by repeat (first | (with_reducible first | exact HB.out | apply below_alloc | apply pw_below_drewN | apply below_drew1 | refine below_set ?_ GE182.out | refine below_set ?_ GE192.out | refine below_set ?_ GE196.out | refine below_set ?_ GE202.out) | exact HB.out))))
            have n4_ := Aside0.mk (blk_below (g := gb182) (o := .cells #[.slice A0_0 l0_0.length c0_0] 42 (0, 0)) (by (with_reducible repeat (first | refine blk_drewN ?_ _ | refine blk_drew ?_ | refine blk_alloc ?_ _)); exact BK182.out) hb)
            have n5_ := Aside0.mk (blk_below (g := gb192) (o := .cells #[.slice Ao23 t187.length co23] 44 (0, 0)) (by (with_reducible repeat (first | refine blk_drewN ?_ _ | refine blk_drew ?_ | refine blk_alloc ?_ _)); exact BK192.out) hb)
            have n6_ := Aside0.mk (blk_below (g := gb196) (o := .cells #[.slice Ao29 t193.length co29] 44 (0, 0)) (by (with_reducible repeat (first | refine blk_drewN ?_ _ | refine blk_drew ?_ | refine blk_alloc ?_ _)); exact BK196.out) hb)
            have n7_ := Aside0.mk (blk_below (g := gb202) (o := .cells #[.slice Ao35 t197.length co35] 44 (0, 0)) (by (with_reducible repeat (first | refine blk_drewN ?_ _ | refine blk_drew ?_ | refine blk_alloc ?_ _)); exact BK202.out) hb)
            have n8_ := Aside0.mk (below_step (by repeat (first | (with_reducible first | exact HB.out | apply below_alloc | apply pw_below_drewN | apply below_drew1 | refine below_set ?_ GE182.out | refine below_set ?_ GE192.out | refine below_set ?_ GE196.out | refine below_set ?_ GE202.out) | exact HB.out)) hb)
            clear HO_193000
            clear HO_197000
            clear HO_203000
            clear BK182
            clear BK192
            clear BK196
            clear BK202
            clear HB
            have HO_193000 := n0_
            have HO_197000 := n1_
            have HO_203000 := n2_
            have HO206 := n3_
            have BK182 := n4_
            have BK192 := n5_
            have BK196 := n6_
            have BK202 := n7_
            have HB := n8_
            clear n0_ n1_ n2_ n3_ n4_ n5_ n6_ n7_ n8_
            (try clear hb)
            (try clear hb2)
            (try clear hk)
            (try clear hi)
            (try clear ho0)
            obtain ⟨Ao209, co209, eo209⟩ := Kd.R_slice HO206.out
            (first | subst eo209 | (injection eo209 with f1_ f2_ f3_; have f4_ := f1_.symm; have f5_ := f3_.symm; clear f1_ f2_ f3_; subst f4_; subst f5_))
            refine hK.out _ _ ⟨(blk_cell BK196.out 0).trans rfl, (blk_cell BK182.out 0).trans rfl⟩ (fun hHeld => ?_)
            clear hK K
            refine norm_ (a' := ?_) ?_ ?_
            rotate_left
            · show Act.put _ (some 65) _ = _
              simp only [Act.put, List.setIfInBounds_toArray, List.set_cons_zero, List.set_cons_succ, i64_w, i32_w]
              rfl
            refine one_ (i := 3) (N := some 66) #[true, true, true, true, false] rfl rfl (by kernel_rfl) (by decide) (fun K hK => ?_)
            refine goes_ Try.func30 (by kernel_rfl) rfl #[.agg #[.slice Ao29 t193.length co29], .agg #[.slice Ao209 t204.length co209]] (by rfl) rfl rfl (by (try simp only [List.map_toArray, List.map_cons, List.map_nil]); first | done | rfl | (simp only [List.length_drop, List.length_take]; rfl)) ?_
            with_reducible refine (laws_eqMem.calls kj13 _ _ t193 _ _ t204 false _ ?side1 ?side2 ?side3 ?side4 A69.out).mono ?_
            (case side1 => repeat (first | exact (Kd.R_reads' HO_197000.out).2.2 | (with_reducible refine Kd.C_alloc ?_ _) | (with_reducible refine Kd.C_drewN ?_ _) | (with_reducible refine Kd.C_drew ?_)))
            (case side2 => exact (Kd.R_reads' HO_197000.out).2.1)
            (case side3 => repeat (first | exact (Kd.R_reads' HO206.out).2.2 | (with_reducible refine Kd.C_alloc ?_ _) | (with_reducible refine Kd.C_drewN ?_ _) | (with_reducible refine Kd.C_drew ?_)))
            (case side4 => exact (Kd.R_reads' HO206.out).2.1)
            rintro e w210 ⟨rfl, hb⟩
            refine ⟨_, rfl, ?_⟩
            have n0_ := Aside0.mk (Kd.R_below (by (with_reducible repeat (first | apply Kd.R_alloc | apply Kd.R_drewN | apply Kd.R_drew)); exact HO_193000.out) hb)
            have n1_ := Aside0.mk (Kd.R_below (by (with_reducible repeat (first | apply Kd.R_alloc | apply Kd.R_drewN | apply Kd.R_drew)); exact HO_197000.out) hb)
            have n2_ := Aside0.mk (Kd.R_below (by (with_reducible repeat (first | apply Kd.R_alloc | apply Kd.R_drewN | apply Kd.R_drew)); exact HO_203000.out) hb)
            have n3_ := Aside0.mk (Kd.R_below (by (with_reducible repeat (first | apply Kd.R_alloc | apply Kd.R_drewN | apply Kd.R_drew)); exact HO206.out) hb)
            have n4_ := Aside0.mk (blk_below (g := gb182) (o := .cells #[.slice A0_0 l0_0.length c0_0] 42 (0, 0)) (by (with_reducible repeat (first | refine blk_drewN ?_ _ | refine blk_drew ?_ | refine blk_alloc ?_ _)); exact BK182.out) hb)
            have n5_ := Aside0.mk (blk_below (g := gb192) (o := .cells #[.slice Ao23 t187.length co23] 44 (0, 0)) (by (with_reducible repeat (first | refine blk_drewN ?_ _ | refine blk_drew ?_ | refine blk_alloc ?_ _)); exact BK192.out) hb)
            have n6_ := Aside0.mk (blk_below (g := gb196) (o := .cells #[.slice Ao29 t193.length co29] 44 (0, 0)) (by (with_reducible repeat (first | refine blk_drewN ?_ _ | refine blk_drew ?_ | refine blk_alloc ?_ _)); exact BK196.out) hb)
            have n7_ := Aside0.mk (blk_below (g := gb202) (o := .cells #[.slice Ao35 t197.length co35] 44 (0, 0)) (by (with_reducible repeat (first | refine blk_drewN ?_ _ | refine blk_drew ?_ | refine blk_alloc ?_ _)); exact BK202.out) hb)
            have n8_ := Aside0.mk (below_step (by repeat (first | (with_reducible first | exact HB.out | apply below_alloc | apply pw_below_drewN | apply below_drew1 | refine below_set ?_ GE182.out | refine below_set ?_ GE192.out | refine below_set ?_ GE196.out | refine below_set ?_ GE202.out) | exact HB.out)) hb)
            clear HO_193000
            clear HO_197000
            clear HO_203000
            clear HO206
            clear BK182
            clear BK192
            clear BK196
            clear BK202
            clear HB
            have HO_193000 := n0_
            have HO_197000 := n1_
            have HO_203000 := n2_
            have HO206 := n3_
            have BK182 := n4_
            have BK192 := n5_
            have BK196 := n6_
            have BK202 := n7_
            have HB := n8_
            clear n0_ n1_ n2_ n3_ n4_ n5_ n6_ n7_ n8_
            (try clear hb)
            (try clear hb2)
            (try clear hk)
            (try clear hi)
            refine hK.out _ _ ⟨(blk_cell BK196.out 0).trans rfl, (blk_cell BK182.out 0).trans rfl⟩ (fun hHeld => ?_)
            clear hK K
            refine norm_ (a' := ?_) ?_ ?_
            rotate_left
            · show Act.put _ (some 66) _ = _
              simp only [Act.put, List.setIfInBounds_toArray, List.set_cons_zero, List.set_cons_succ, i64_w, i32_w]
              rfl
            refine pure_ (i := 4) (N := some 67) (v := ?_) (a' := ?_) #[true, true, true, true, true] rfl rfl (by kernel_rfl) (fun _ _ _ h => h) (Or.inl ⟨by rfl, ?_⟩) ?_ ?_
            rotate_left
            · intro w'
              go_simp
              with_reducible rfl
            rotate_left
            · simp only [Act.put, List.setIfInBounds_toArray, List.set_cons_zero, List.set_cons_succ, i64_w, i32_w]
              rfl
            refine done_ (by kernel_rfl) ?_
            try go_wp2
            go_ret
            exact ⟨by first | rfl | (simp [errW_none, errW_some] <;> rfl) | (simp [*, errW_none, errW_some] <;> rfl), by repeat (first | (with_reducible first | exact HB.out | apply below_alloc | apply pw_below_drewN | apply below_drew1 | refine below_set ?_ GE182.out | refine below_set ?_ GE192.out | refine below_set ?_ GE196.out | refine below_set ?_ GE202.out) | exact HB.out)⟩

end Go.Proofs.Ytjhbcfajgilllaa.PFnExactMemCas
