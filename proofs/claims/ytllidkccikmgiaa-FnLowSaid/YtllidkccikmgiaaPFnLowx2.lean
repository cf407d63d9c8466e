-- Written by this session's program (wip/bin/myprint.sh) by means of the kit's print.py; Lean checks it.
import Derived.Test.YtllidkccikmgiaaPFnLowx0
import Derived.Test.YtllidkccikmgiaaPFnLowx1
namespace Go.Proofs.Ytllidkccikmgiaa.PFnLow
open Go.RowKit Go.Proofs.YtllidkccikmgiaaW.PrintWords Go.Proofs.YtllidkccikmgiaaW.PrintLast Go.Proofs.YtllidkccikmgiaaW.PrintMore
attribute [local go_sem] max2_int min2_int max_two min_two max_three min_three max_four min_four   -- for this text's walks alone
set_option linter.unusedVariables false
set_option linter.unusedSimpArgs false

/-! ### spec_l01Cur_word: function 82 -/
def spec_l01Cur_word.f (s0_0 : List Int) (s0_1 : Int) (s0_2 : Int) : Option (Int × Int × Int) := (spec_l01Cur_pick.f s0_0 s0_1 s0_2 256).bind fun bt146 => ((spec_l01Cur_wide.f s0_0 bt146.2.1 bt146.2.2 16777216).bind fun bt149 => ((some (([0, 1, 4294967295, 65535, (bt146.1) % 4294967296, (((bt149.1) % 4294967296) * 255) % 4294967296, 2147483648] : List Int) : List Int)).bind fun y152 => ((spec_l01Cur_pick.f s0_0 bt149.2.1 bt149.2.2 7).bind fun bt155 => (if 0 ≤ bt155.1 then (if bt155.1 < (y152.length : Int) then (some (rd y152 bt155.1, bt155.2.1, bt155.2.2)) else (none)) else (none)))))
set_option maxHeartbeats 8000000 in
set_option maxRecDepth 100000 in
theorem spec_l01Cur_word.calls (g : Nat) (s0_0 : List Int) (s0_1 : Int) (s0_2 : Int) (r1 : Int) (r2 : Int) (r3 : Int) (w0 w : World) (hI : IsS102 w0 w g s0_0 s0_1 s0_2) (hB : Below w0.heap.size w0 w) (h : spec_l01Cur_word.f s0_0 s0_1 s0_2 = some (r1, r2, r3)) :
    Calls Try.prog 82 #[.pointer (some ⟨g, 0, none⟩)] w fun e w' => e = .returned (.int .u32 r1) ∧ IsS102 w0 w' g s0_0 r2 r3 ∧ Below w0.heap.size w0 w' ∧ KeepBut w w' g none := by
  have HI0 := Aside0.mk hI
  have HK := Aside0.mk (KeepBut.refl w g none)
  have HL := Aside0.mk hB.size
  clear hI
  have HW0 := Aside0.mk hB.size
  have HB := Aside0.mk hB
  clear hB
  have H : ((spec_l01Cur_pick.f s0_0 s0_1 s0_2 256).bind fun bt146 => ((spec_l01Cur_wide.f s0_0 bt146.2.1 bt146.2.2 16777216).bind fun bt149 => ((some (([0, 1, 4294967295, 65535, (bt146.1) % 4294967296, (((bt149.1) % 4294967296) * 255) % 4294967296, 2147483648] : List Int) : List Int)).bind fun y152 => ((spec_l01Cur_pick.f s0_0 bt149.2.1 bt149.2.2 7).bind fun bt155 => (if 0 ≤ bt155.1 then (if bt155.1 < (y152.length : Int) then (some (rd y152 bt155.1, bt155.2.1, bt155.2.2)) else (none)) else (none)))))) = some (r1, r2, r3) := h
  clear h
  replace H := Option.bind_eq_some_iff.mp H
  obtain ⟨⟨t146, t147, t148⟩, A20, H⟩ := H
  replace H : ((spec_l01Cur_wide.f s0_0 t147 t148 16777216).bind fun bt149 => ((some (([0, 1, 4294967295, 65535, (t146) % 4294967296, (((bt149.1) % 4294967296) * 255) % 4294967296, 2147483648] : List Int) : List Int)).bind fun y152 => ((spec_l01Cur_pick.f s0_0 bt149.2.1 bt149.2.2 7).bind fun bt155 => (if 0 ≤ bt155.1 then (if bt155.1 < (y152.length : Int) then (some (rd y152 bt155.1, bt155.2.1, bt155.2.2)) else (none)) else (none))))) = some (r1, r2, r3) := H
  have A2 := Aside0.mk A20
  clear A20
  replace H := Option.bind_eq_some_iff.mp H
  obtain ⟨⟨t149, t150, t151⟩, A30, H⟩ := H
  replace H : ((some (([0, 1, 4294967295, 65535, (t146) % 4294967296, (((t149) % 4294967296) * 255) % 4294967296, 2147483648] : List Int) : List Int)).bind fun y152 => ((spec_l01Cur_pick.f s0_0 t150 t151 7).bind fun bt155 => (if 0 ≤ bt155.1 then (if bt155.1 < (y152.length : Int) then (some (rd y152 bt155.1, bt155.2.1, bt155.2.2)) else (none)) else (none)))) = some (r1, r2, r3) := H
  have A3 := Aside0.mk A30
  clear A30
  obtain ⟨y152, hy152⟩ : ∃ y_ : List Int, y_ = (([0, 1, 4294967295, 65535, (t146) % 4294967296, (((t149) % 4294967296) * 255) % 4294967296, 2147483648] : List Int)) := ⟨_, rfl⟩
  replace H : ((spec_l01Cur_pick.f s0_0 t150 t151 7).bind fun bt155 => (if 0 ≤ bt155.1 then (if bt155.1 < (y152.length : Int) then (some (rd y152 bt155.1, bt155.2.1, bt155.2.2)) else (none)) else (none))) = some (r1, r2, r3) := by first | (rw [hy152]; with_reducible exact H) | (have H2_ := (Option.bind_some _ _).symm.trans H; rw [hy152]; with_reducible exact H2_) | (have H2_ := (Option.bind_some _ _).symm.trans H; with_reducible exact H2_) | with_reducible exact H | (rw [hy152]; exact H) | exact H
  have Ny152 := Aside0.mk hy152
  clear hy152
  replace H := Option.bind_eq_some_iff.mp H
  obtain ⟨⟨t155, t156, t157⟩, A40, H⟩ := H
  replace H : (if 0 ≤ t155 then (if t155 < (y152.length : Int) then (some (rd y152 t155, t156, t157)) else (none)) else (none)) = some (r1, r2, r3) := H
  have A4 := Aside0.mk A40
  clear A40
  by_cases c5 : 0 ≤ t155
  · rw [if_pos c5] at H
    have c5b0 : decide (0 ≤ t155) = true := decide_eq_true c5
    clear c5
    by_cases c6 : t155 < (y152.length : Int)
    · rw [if_pos c6] at H
      have c6b0 : decide (t155 < (y152.length : Int)) = true := decide_eq_true c6
      clear c6
      simp only [Option.some.injEq, Prod.mk.injEq] at H
      obtain ⟨rfl, rfl, rfl⟩ := H
      go_enter Try.func82, Try.ntmps82
      go_wp2_with (first | ((with_reducible refine gate_callee (f := 75) rfl ?_); refine goesL_ (some 4) rfl rfl Try.func75 (by kernel_rfl) rfl #[.pointer (some ⟨g, 0, none⟩), .int .i64 256] rfl (by (try simp only [List.map_toArray, List.map_cons, List.map_nil]); first | done | rfl | (simp only [List.length_drop, List.length_take]; rfl)) ?_; (with_reducible refine (spec_l01Cur_pick.calls g s0_0 s0_1 s0_2 256 t146 t147 t148 w0 _ ?side1 ?side2 A2.out).mono ?_); (case side1 => repeat (first | (with_reducible first | exact HI0.out | apply IsS102.alloc | apply IsS102.drewN | apply IsS102.drew | apply IsS102.set_1 | apply IsS102.set_2) | exact HI0.out)); (case side2 => repeat (first | (with_reducible first | exact HB.out | apply below_alloc | apply pw_below_drewN | apply below_drew1 | refine below_set ?_ (IsS102.ge HI0.out)) | exact HB.out)); rintro e w7 ⟨rfl, hi, hb, hk⟩; refine ⟨_, rfl, ?_⟩; have n0_ := Aside0.mk (KeepBut.trans (by repeat (first | (with_reducible first | exact HK.out | apply KeepBut.set_ | apply keep_drewN | apply keep_drew | apply keep_alloc) | exact HK.out)) hk (.inl rfl)); have n1_ := Aside0.mk (hb); have n2_ := Aside0.mk (hi); clear HK; clear HB; clear HI0; have HK := n0_; have HB := n1_; have HI0 := n2_; clear n0_ n1_ n2_; (try clear hb); (try clear hb2); (try clear hk); (try clear hi)) | ((with_reducible refine gate_callee (f := 114) rfl ?_); refine goesL_ (some 7) rfl rfl Try.func114 (by kernel_rfl) rfl #[.pointer (some ⟨g, 0, none⟩), .int .i64 16777216] rfl (by (try simp only [List.map_toArray, List.map_cons, List.map_nil]); first | done | rfl | (simp only [List.length_drop, List.length_take]; rfl)) ?_; (with_reducible refine (spec_l01Cur_wide.calls g s0_0 t147 t148 16777216 t149 t150 t151 w0 _ ?side1 ?side2 A3.out).mono ?_); (case side1 => repeat (first | (with_reducible first | exact HI0.out | apply IsS102.alloc | apply IsS102.drewN | apply IsS102.drew | apply IsS102.set_1 | apply IsS102.set_2) | exact HI0.out)); (case side2 => repeat (first | (with_reducible first | exact HB.out | apply below_alloc | apply pw_below_drewN | apply below_drew1 | refine below_set ?_ (IsS102.ge HI0.out)) | exact HB.out)); rintro e w8 ⟨rfl, hi, hb, hk⟩; refine ⟨_, rfl, ?_⟩; have n0_ := Aside0.mk (KeepBut.trans (by repeat (first | (with_reducible first | exact HK.out | apply KeepBut.set_ | apply keep_drewN | apply keep_drew | apply keep_alloc) | exact HK.out)) hk (.inl rfl)); have n1_ := Aside0.mk (hb); have n2_ := Aside0.mk (hi); clear HK; clear HB; clear HI0; have HK := n0_; have HB := n1_; have HI0 := n2_; clear n0_ n1_ n2_; (try clear hb); (try clear hb2); (try clear hk); (try clear hi)) | ((with_reducible refine gate_dst (N := 10) rfl ?_); refine Kd.R_lit (Kd.int .u32) _ 24 ?hg (N := 10) ?hd (xs := ([0, 1, 4294967295, 65535, (t146) % 4294967296, (((t149) % 4294967296) * 255) % 4294967296, 2147483648] : List Int)) (inner := [.int .u32 0, .int .u32 1, .int .u32 4294967295, .int .u32 65535, .int .u32 ((t146) % 4294967296), .int .u32 ((((t149) % 4294967296) * 255) % 4294967296), .int .u32 2147483648]) (ok := fun _ => True) (okp := fun _ => True) ?hr ?hp (fun _ hk => hk) trivial (Below.refl _ _) (Nat.le_refl _) (by simp) ?_; (case hd => rfl); (case hg => rfl); (case hr => first | (go_simp; done) | (go_simp; rfl)); (case hp => exact (Reps.one (show Kd.M (Kd.int .u32) _ _ _ 0 [.int .u32 0] from rfl) (Reps.one (show Kd.M (Kd.int .u32) _ _ _ 1 [.int .u32 1] from rfl) (Reps.one (show Kd.M (Kd.int .u32) _ _ _ 4294967295 [.int .u32 4294967295] from rfl) (Reps.one (show Kd.M (Kd.int .u32) _ _ _ 65535 [.int .u32 65535] from rfl) (Reps.one (show Kd.M (Kd.int .u32) _ _ _ ((t146) % 4294967296) [.int .u32 ((t146) % 4294967296)] from rfl) (Reps.one (show Kd.M (Kd.int .u32) _ _ _ ((((t149) % 4294967296) * 255) % 4294967296) [.int .u32 ((((t149) % 4294967296) * 255) % 4294967296)] from rfl) (Reps.one (show Kd.M (Kd.int .u32) _ _ _ 2147483648 [.int .u32 2147483648] from rfl) (Reps.none _ _))))))))); intro v153 w9 ho10 hb hg_ hnew_; clear hg_ hnew_; (first | rw [← Ny152.out] at ho10 | (simp only [Int.reduceToNat] at ho10; rw [← Ny152.out] at ho10)); have n0_ := Aside0.mk (Kd.R_lower ho10 (keep_size (w := w) (g := g) (row := none) (by repeat (first | (with_reducible first | exact HK.out | apply KeepBut.set_ | apply keep_drewN | apply keep_drew | apply keep_alloc) | exact HK.out)))); have n1_ := Aside0.mk (IsS102.below (by repeat (first | (with_reducible first | exact HI0.out | apply IsS102.alloc | apply IsS102.drewN | apply IsS102.drew | apply IsS102.set_1 | apply IsS102.set_2) | exact HI0.out)) hb); have n2_ := Aside0.mk (KeepBut.trans (by repeat (first | (with_reducible first | exact HK.out | apply KeepBut.set_ | apply keep_drewN | apply keep_drew | apply keep_alloc) | exact HK.out)) (KeepBut.of_below hb g none) (.inl rfl)); have n3_ := Aside0.mk (below_step (by repeat (first | (with_reducible first | exact HB.out | apply below_alloc | apply pw_below_drewN | apply below_drew1 | refine below_set ?_ (IsS102.ge HI0.out)) | exact HB.out)) hb); clear HI0; clear HK; clear HB; have HO154 := n0_; have HI0 := n1_; have HK := n2_; have HB := n3_; clear n0_ n1_ n2_ n3_; clear hb ho10) | ((with_reducible refine gate_callee (f := 75) rfl ?_); refine goesL_ (some 12) rfl rfl Try.func75 (by kernel_rfl) rfl #[.pointer (some ⟨g, 0, none⟩), .int .i64 7] rfl (by (try simp only [List.map_toArray, List.map_cons, List.map_nil]); first | done | rfl | (simp only [List.length_drop, List.length_take]; rfl)) ?_; (with_reducible refine (spec_l01Cur_pick.calls g s0_0 t150 t151 7 t155 t156 t157 w0 _ ?side1 ?side2 A4.out).mono ?_); (case side1 => repeat (first | (with_reducible first | exact HI0.out | apply IsS102.alloc | apply IsS102.drewN | apply IsS102.drew | apply IsS102.set_1 | apply IsS102.set_2) | exact HI0.out)); (case side2 => repeat (first | (with_reducible first | exact HB.out | apply below_alloc | apply pw_below_drewN | apply below_drew1 | refine below_set ?_ (IsS102.ge HI0.out)) | exact HB.out)); rintro e w11 ⟨rfl, hi, hb, hk⟩; refine ⟨_, rfl, ?_⟩; have n0_ := Aside0.mk (Kd.R_mono (Kd.R_keep (IsS102.apart (show IsS102 w0 _ g s0_0 t150 t151 from by repeat (first | (with_reducible first | exact HI0.out | apply IsS102.alloc | apply IsS102.drewN | apply IsS102.drew | apply IsS102.set_1 | apply IsS102.set_2) | exact HI0.out)) (by (with_reducible repeat (first | apply Kd.R_alloc | apply Kd.R_drewN | apply Kd.R_drew)); exact HO154.out) (by decide)) hk (fun _ h => h.2)) (fun _ h => h.1)); have n1_ := Aside0.mk (KeepBut.trans (by repeat (first | (with_reducible first | exact HK.out | apply KeepBut.set_ | apply keep_drewN | apply keep_drew | apply keep_alloc) | exact HK.out)) hk (.inl rfl)); have n2_ := Aside0.mk (hb); have n3_ := Aside0.mk (hi); clear HO154; clear HK; clear HB; clear HI0; have HO154 := n0_; have HK := n1_; have HB := n2_; have HI0 := n3_; clear n0_ n1_ n2_ n3_; (try clear hb); (try clear hb2); (try clear hk); (try clear hi); obtain ⟨Ao12, co12, eo12⟩ := Kd.R_slice HO154.out; subst eo12; have p158 : 0 ≤ (t155 : Int) := of_decide_eq_true (by first | (with_reducible assumption) | assumption); have q158 : t155 < (y152.length : Int) := of_decide_eq_true (by first | (with_reducible assumption) | assumption); obtain ⟨ad158, e158, hx158_0⟩ := Kd.at_int (Kd.R_reads' HO154.out).2.2 t155 p158 q158; cases e158; replace p158 := eq_true p158; replace q158 := eq_true q158))
      go_ret
      exact ⟨by first | rfl | (simp [errW_none, errW_some] <;> rfl) | (simp [*, errW_none, errW_some] <;> rfl), by repeat (first | (with_reducible first | exact HI0.out | apply IsS102.alloc | apply IsS102.drewN | apply IsS102.drew | apply IsS102.set_1 | apply IsS102.set_2) | exact HI0.out), by repeat (first | (with_reducible first | exact HB.out | apply below_alloc | apply pw_below_drewN | apply below_drew1 | refine below_set ?_ (IsS102.ge HI0.out)) | exact HB.out), by repeat (first | (with_reducible first | exact HK.out | apply KeepBut.set_ | apply keep_drewN | apply keep_drew | apply keep_alloc) | exact HK.out)⟩
    · rw [if_neg c6] at H
      exact absurd H (by simp)
  · rw [if_neg c5] at H
    exact absurd H (by simp)

/-! ### spec_l01Cur_bits: function 90 -/
def spec_l01Cur_bits.f (k : Nat) (s0_0 : List Int) (s0_1 : Int) (s0_2 : Int) : Option (Int × Int × Int) := (spec_l01Cur_word.f s0_0 s0_1 s0_2).bind fun bt159 => ((spec_l01Cur_once.f s0_0 bt159.2.1 bt159.2.2 2).bind fun bt162 => (if bt162.1 = true then ((spec_l01Cur_pick.f s0_0 bt162.2.1 bt162.2.2 8).bind fun bt165 => ((spec_l01Cur_pick.f s0_0 bt165.2.1 bt165.2.2 8).bind fun bt168 => ((spec_l01Cur_pick.f s0_0 bt168.2.1 bt168.2.2 16).bind fun bt171 => ((spec_BitsOf.f k (([bt165.1, wrap64 (8 + bt168.1), wrap64 (16 + bt171.1)] : List Int))).bind fun bt177 => (some (bt177.1, bt171.2.1, bt171.2.2)))))) else (some (bt159.1, bt162.2.1, bt162.2.2))))
theorem spec_l01Cur_bits.mono : ∀ a0 a1 a2 k, LeO (spec_l01Cur_bits.f k a0 a1 a2) (spec_l01Cur_bits.f (k + 1) a0 a1 a2) := by
  intro a0 a1 a2 k
  unfold spec_l01Cur_bits.f
  repeat' first
      | (with_reducible exact spec_BitsOf.mono _ _)
      | (with_reducible exact LeO.refl _)
      | (with_reducible exact LeO.none _)
      | (with_reducible refine LeO.ite ?_ ?_)
      | (with_reducible refine LeO.bind ?_ (fun _ => ?_))
      | exact spec_BitsOf.mono _ _
      | exact LeO.none _
      | refine LeO.ite ?_ ?_
      | refine LeO.bind ?_ (fun _ => ?_)
set_option maxHeartbeats 8000000 in
set_option maxRecDepth 100000 in
theorem spec_l01Cur_bits.calls (k : Nat) (g : Nat) (s0_0 : List Int) (s0_1 : Int) (s0_2 : Int) (r1 : Int) (r2 : Int) (r3 : Int) (w0 w : World) (hI : IsS102 w0 w g s0_0 s0_1 s0_2) (hB : Below w0.heap.size w0 w) (h : spec_l01Cur_bits.f k s0_0 s0_1 s0_2 = some (r1, r2, r3)) :
    Calls Try.prog 90 #[.pointer (some ⟨g, 0, none⟩)] w fun e w' => e = .returned (.int .u32 r1) ∧ IsS102 w0 w' g s0_0 r2 r3 ∧ Below w0.heap.size w0 w' ∧ KeepBut w w' g none := by
  have HI0 := Aside0.mk hI
  have HK := Aside0.mk (KeepBut.refl w g none)
  have HL := Aside0.mk hB.size
  clear hI
  have HW0 := Aside0.mk hB.size
  have HB := Aside0.mk hB
  clear hB
  have H : ((spec_l01Cur_word.f s0_0 s0_1 s0_2).bind fun bt159 => ((spec_l01Cur_once.f s0_0 bt159.2.1 bt159.2.2 2).bind fun bt162 => (if bt162.1 = true then ((spec_l01Cur_pick.f s0_0 bt162.2.1 bt162.2.2 8).bind fun bt165 => ((spec_l01Cur_pick.f s0_0 bt165.2.1 bt165.2.2 8).bind fun bt168 => ((spec_l01Cur_pick.f s0_0 bt168.2.1 bt168.2.2 16).bind fun bt171 => ((spec_BitsOf.f k (([bt165.1, wrap64 (8 + bt168.1), wrap64 (16 + bt171.1)] : List Int))).bind fun bt177 => (some (bt177.1, bt171.2.1, bt171.2.2)))))) else (some (bt159.1, bt162.2.1, bt162.2.2))))) = some (r1, r2, r3) := h
  clear h
  replace H := Option.bind_eq_some_iff.mp H
  obtain ⟨⟨t159, t160, t161⟩, A20, H⟩ := H
  replace H : ((spec_l01Cur_once.f s0_0 t160 t161 2).bind fun bt162 => (if bt162.1 = true then ((spec_l01Cur_pick.f s0_0 bt162.2.1 bt162.2.2 8).bind fun bt165 => ((spec_l01Cur_pick.f s0_0 bt165.2.1 bt165.2.2 8).bind fun bt168 => ((spec_l01Cur_pick.f s0_0 bt168.2.1 bt168.2.2 16).bind fun bt171 => ((spec_BitsOf.f k (([bt165.1, wrap64 (8 + bt168.1), wrap64 (16 + bt171.1)] : List Int))).bind fun bt177 => (some (bt177.1, bt171.2.1, bt171.2.2)))))) else (some (t159, bt162.2.1, bt162.2.2)))) = some (r1, r2, r3) := H
  have A2 := Aside0.mk A20
  clear A20
  replace H := Option.bind_eq_some_iff.mp H
  obtain ⟨⟨t162, t163, t164⟩, A30, H⟩ := H
  replace H : (if t162 = true then ((spec_l01Cur_pick.f s0_0 t163 t164 8).bind fun bt165 => ((spec_l01Cur_pick.f s0_0 bt165.2.1 bt165.2.2 8).bind fun bt168 => ((spec_l01Cur_pick.f s0_0 bt168.2.1 bt168.2.2 16).bind fun bt171 => ((spec_BitsOf.f k (([bt165.1, wrap64 (8 + bt168.1), wrap64 (16 + bt171.1)] : List Int))).bind fun bt177 => (some (bt177.1, bt171.2.1, bt171.2.2)))))) else (some (t159, t163, t164))) = some (r1, r2, r3) := H
  have A3 := Aside0.mk A30
  clear A30
  by_cases c4 : t162 = true
  · subst c4
    have H1 : ((spec_l01Cur_pick.f s0_0 t163 t164 8).bind fun bt165 => ((spec_l01Cur_pick.f s0_0 bt165.2.1 bt165.2.2 8).bind fun bt168 => ((spec_l01Cur_pick.f s0_0 bt168.2.1 bt168.2.2 16).bind fun bt171 => ((spec_BitsOf.f k (([bt165.1, wrap64 (8 + bt168.1), wrap64 (16 + bt171.1)] : List Int))).bind fun bt177 => (some (bt177.1, bt171.2.1, bt171.2.2)))))) = some (r1, r2, r3) := by rw [if_pos rfl] at H; exact H
    clear H
    have H := H1
    clear H1
    replace H := Option.bind_eq_some_iff.mp H
    obtain ⟨⟨t165, t166, t167⟩, A50, H⟩ := H
    replace H : ((spec_l01Cur_pick.f s0_0 t166 t167 8).bind fun bt168 => ((spec_l01Cur_pick.f s0_0 bt168.2.1 bt168.2.2 16).bind fun bt171 => ((spec_BitsOf.f k (([t165, wrap64 (8 + bt168.1), wrap64 (16 + bt171.1)] : List Int))).bind fun bt177 => (some (bt177.1, bt171.2.1, bt171.2.2))))) = some (r1, r2, r3) := H
    have A5 := Aside0.mk A50
    clear A50
    replace H := Option.bind_eq_some_iff.mp H
    obtain ⟨⟨t168, t169, t170⟩, A60, H⟩ := H
    replace H : ((spec_l01Cur_pick.f s0_0 t169 t170 16).bind fun bt171 => ((spec_BitsOf.f k (([t165, wrap64 (8 + t168), wrap64 (16 + bt171.1)] : List Int))).bind fun bt177 => (some (bt177.1, bt171.2.1, bt171.2.2)))) = some (r1, r2, r3) := H
    have A6 := Aside0.mk A60
    clear A60
    replace H := Option.bind_eq_some_iff.mp H
    obtain ⟨⟨t171, t172, t173⟩, A70, H⟩ := H
    replace H : ((spec_BitsOf.f k (([t165, wrap64 (8 + t168), wrap64 (16 + t171)] : List Int))).bind fun bt177 => (some (bt177.1, t172, t173))) = some (r1, r2, r3) := H
    have A7 := Aside0.mk A70
    clear A70
    obtain ⟨y174, hy174⟩ : ∃ y_ : List Int, y_ = (([t165, wrap64 (8 + t168), wrap64 (16 + t171)] : List Int)) := ⟨_, rfl⟩
    replace H : ((spec_BitsOf.f k y174).bind fun bt177 => (some (bt177.1, t172, t173))) = some (r1, r2, r3) := by first | (rw [hy174]; with_reducible exact H) | (have H2_ := (Option.bind_some _ _).symm.trans H; rw [hy174]; with_reducible exact H2_) | (have H2_ := (Option.bind_some _ _).symm.trans H; with_reducible exact H2_) | with_reducible exact H | (rw [hy174]; exact H) | exact H
    have Ny174 := Aside0.mk hy174
    clear hy174
    replace H := Option.bind_eq_some_iff.mp H
    obtain ⟨⟨t177, t178⟩, A80, H⟩ := H
    replace H : (some (t177, t172, t173)) = some (r1, r2, r3) := H
    have A8 := Aside0.mk A80
    clear A80
    simp only [Option.some.injEq, Prod.mk.injEq] at H
    obtain ⟨rfl, rfl, rfl⟩ := H
    go_enter Try.func90, Try.ntmps90
    go_wp2_with (first | ((with_reducible refine gate_callee (f := 82) rfl ?_); refine goesL_ (some 5) rfl rfl Try.func82 (by kernel_rfl) rfl #[.pointer (some ⟨g, 0, none⟩)] rfl (by (try simp only [List.map_toArray, List.map_cons, List.map_nil]); first | done | rfl | (simp only [List.length_drop, List.length_take]; rfl)) ?_; (with_reducible refine (spec_l01Cur_word.calls g s0_0 s0_1 s0_2 t159 t160 t161 w0 _ ?side1 ?side2 A2.out).mono ?_); (case side1 => repeat (first | (with_reducible first | exact HI0.out | apply IsS102.alloc | apply IsS102.drewN | apply IsS102.drew | apply IsS102.set_1 | apply IsS102.set_2) | exact HI0.out)); (case side2 => repeat (first | (with_reducible first | exact HB.out | apply below_alloc | apply pw_below_drewN | apply below_drew1 | refine below_set ?_ (IsS102.ge HI0.out)) | exact HB.out)); rintro e w9 ⟨rfl, hi, hb, hk⟩; refine ⟨_, rfl, ?_⟩; have n0_ := Aside0.mk (KeepBut.trans (by repeat (first | (with_reducible first | exact HK.out | apply KeepBut.set_ | apply keep_drewN | apply keep_drew | apply keep_alloc) | exact HK.out)) hk (.inl rfl)); have n1_ := Aside0.mk (hb); have n2_ := Aside0.mk (hi); clear HK; clear HB; clear HI0; have HK := n0_; have HB := n1_; have HI0 := n2_; clear n0_ n1_ n2_; (try clear hb); (try clear hb2); (try clear hk); (try clear hi)) | ((with_reducible refine gate_callee (f := 73) rfl ?_); refine goesL_ (some 7) rfl rfl Try.func73 (by kernel_rfl) rfl #[.pointer (some ⟨g, 0, none⟩), .int .i64 2] rfl (by (try simp only [List.map_toArray, List.map_cons, List.map_nil]); first | done | rfl | (simp only [List.length_drop, List.length_take]; rfl)) ?_; (with_reducible refine (spec_l01Cur_once.calls g s0_0 t160 t161 2 true t163 t164 w0 _ ?side1 ?side2 A3.out).mono ?_); (case side1 => repeat (first | (with_reducible first | exact HI0.out | apply IsS102.alloc | apply IsS102.drewN | apply IsS102.drew | apply IsS102.set_1 | apply IsS102.set_2) | exact HI0.out)); (case side2 => repeat (first | (with_reducible first | exact HB.out | apply below_alloc | apply pw_below_drewN | apply below_drew1 | refine below_set ?_ (IsS102.ge HI0.out)) | exact HB.out)); rintro e w10 ⟨rfl, hi, hb, hk⟩; refine ⟨_, rfl, ?_⟩; have n0_ := Aside0.mk (KeepBut.trans (by repeat (first | (with_reducible first | exact HK.out | apply KeepBut.set_ | apply keep_drewN | apply keep_drew | apply keep_alloc) | exact HK.out)) hk (.inl rfl)); have n1_ := Aside0.mk (hb); have n2_ := Aside0.mk (hi); clear HK; clear HB; clear HI0; have HK := n0_; have HB := n1_; have HI0 := n2_; clear n0_ n1_ n2_; (try clear hb); (try clear hb2); (try clear hk); (try clear hi)) | ((with_reducible refine gate_callee (f := 75) rfl ?_); refine goesL_ (some 10) rfl rfl Try.func75 (by kernel_rfl) rfl #[.pointer (some ⟨g, 0, none⟩), .int .i64 8] rfl (by (try simp only [List.map_toArray, List.map_cons, List.map_nil]); first | done | rfl | (simp only [List.length_drop, List.length_take]; rfl)) ?_; (with_reducible refine (spec_l01Cur_pick.calls g s0_0 t163 t164 8 t165 t166 t167 w0 _ ?side1 ?side2 A5.out).mono ?_); (case side1 => repeat (first | (with_reducible first | exact HI0.out | apply IsS102.alloc | apply IsS102.drewN | apply IsS102.drew | apply IsS102.set_1 | apply IsS102.set_2) | exact HI0.out)); (case side2 => repeat (first | (with_reducible first | exact HB.out | apply below_alloc | apply pw_below_drewN | apply below_drew1 | refine below_set ?_ (IsS102.ge HI0.out)) | exact HB.out)); rintro e w11 ⟨rfl, hi, hb, hk⟩; refine ⟨_, rfl, ?_⟩; have n0_ := Aside0.mk (KeepBut.trans (by repeat (first | (with_reducible first | exact HK.out | apply KeepBut.set_ | apply keep_drewN | apply keep_drew | apply keep_alloc) | exact HK.out)) hk (.inl rfl)); have n1_ := Aside0.mk (hb); have n2_ := Aside0.mk (hi); clear HK; clear HB; clear HI0; have HK := n0_; have HB := n1_; have HI0 := n2_; clear n0_ n1_ n2_; (try clear hb); (try clear hb2); (try clear hk); (try clear hi)) | ((with_reducible refine gate_callee (f := 75) rfl ?_); refine goesL_ (some 12) rfl rfl Try.func75 (by kernel_rfl) rfl #[.pointer (some ⟨g, 0, none⟩), .int .i64 8] rfl (by (try simp only [List.map_toArray, List.map_cons, List.map_nil]); first | done | rfl | (simp only [List.length_drop, List.length_take]; rfl)) ?_; (with_reducible refine (spec_l01Cur_pick.calls g s0_0 t166 t167 8 t168 t169 t170 w0 _ ?side1 ?side2 A6.out).mono ?_); (case side1 => repeat (first | (with_reducible first | exact HI0.out | apply IsS102.alloc | apply IsS102.drewN | apply IsS102.drew | apply IsS102.set_1 | apply IsS102.set_2) | exact HI0.out)); (case side2 => repeat (first | (with_reducible first | exact HB.out | apply below_alloc | apply pw_below_drewN | apply below_drew1 | refine below_set ?_ (IsS102.ge HI0.out)) | exact HB.out)); rintro e w12 ⟨rfl, hi, hb, hk⟩; refine ⟨_, rfl, ?_⟩; have n0_ := Aside0.mk (KeepBut.trans (by repeat (first | (with_reducible first | exact HK.out | apply KeepBut.set_ | apply keep_drewN | apply keep_drew | apply keep_alloc) | exact HK.out)) hk (.inl rfl)); have n1_ := Aside0.mk (hb); have n2_ := Aside0.mk (hi); clear HK; clear HB; clear HI0; have HK := n0_; have HB := n1_; have HI0 := n2_; clear n0_ n1_ n2_; (try clear hb); (try clear hb2); (try clear hk); (try clear hi)) | ((with_reducible refine gate_callee (f := 75) rfl ?_); refine goesL_ (some 15) rfl rfl Try.func75 (by kernel_rfl) rfl #[.pointer (some ⟨g, 0, none⟩), .int .i64 16] rfl (by (try simp only [List.map_toArray, List.map_cons, List.map_nil]); first | done | rfl | (simp only [List.length_drop, List.length_take]; rfl)) ?_; (with_reducible refine (spec_l01Cur_pick.calls g s0_0 t169 t170 16 t171 t172 t173 w0 _ ?side1 ?side2 A7.out).mono ?_); (case side1 => repeat (first | (with_reducible first | exact HI0.out | apply IsS102.alloc | apply IsS102.drewN | apply IsS102.drew | apply IsS102.set_1 | apply IsS102.set_2) | exact HI0.out)); (case side2 => repeat (first | (with_reducible first | exact HB.out | apply below_alloc | apply pw_below_drewN | apply below_drew1 | refine below_set ?_ (IsS102.ge HI0.out)) | exact HB.out)); rintro e w13 ⟨rfl, hi, hb, hk⟩; refine ⟨_, rfl, ?_⟩; have n0_ := Aside0.mk (KeepBut.trans (by repeat (first | (with_reducible first | exact HK.out | apply KeepBut.set_ | apply keep_drewN | apply keep_drew | apply keep_alloc) | exact HK.out)) hk (.inl rfl)); have n1_ := Aside0.mk (hb); have n2_ := Aside0.mk (hi); clear HK; clear HB; clear HI0; have HK := n0_; have HB := n1_; have HI0 := n2_; clear n0_ n1_ n2_; (try clear hb); (try clear hb2); (try clear hk); (try clear hi)) | ((with_reducible refine gate_dst (N := 17) rfl ?_); refine Kd.R_lit (Kd.int .i64) _ 3 ?hg (N := 17) ?hd (xs := ([t165, wrap64 (8 + t168), wrap64 (16 + t171)] : List Int)) (inner := [.int .i64 t165, .int .i64 (wrap64 (8 + t168)), .int .i64 (wrap64 (16 + t171))]) (ok := fun _ => True) (okp := fun _ => True) ?hr ?hp (fun _ hk => hk) trivial (Below.refl _ _) (Nat.le_refl _) (by simp) ?_; (case hd => rfl); (case hg => rfl); (case hr => first | (go_simp; done) | (go_simp; rfl)); (case hp => exact (Reps.one (show Kd.M (Kd.int .i64) _ _ _ t165 [.int .i64 t165] from rfl) (Reps.one (show Kd.M (Kd.int .i64) _ _ _ (wrap64 (8 + t168)) [.int .i64 (wrap64 (8 + t168))] from rfl) (Reps.one (show Kd.M (Kd.int .i64) _ _ _ (wrap64 (16 + t171)) [.int .i64 (wrap64 (16 + t171))] from rfl) (Reps.none _ _))))); intro v175 w14 ho15 hb hg_ hnew_; clear hg_ hnew_; (first | rw [← Ny174.out] at ho15 | (simp only [Int.reduceToNat] at ho15; rw [← Ny174.out] at ho15)); have n0_ := Aside0.mk (Kd.R_lower ho15 (keep_size (w := w) (g := g) (row := none) (by repeat (first | (with_reducible first | exact HK.out | apply KeepBut.set_ | apply keep_drewN | apply keep_drew | apply keep_alloc) | exact HK.out)))); have n1_ := Aside0.mk (IsS102.below (by repeat (first | (with_reducible first | exact HI0.out | apply IsS102.alloc | apply IsS102.drewN | apply IsS102.drew | apply IsS102.set_1 | apply IsS102.set_2) | exact HI0.out)) hb); have n2_ := Aside0.mk (KeepBut.trans (by repeat (first | (with_reducible first | exact HK.out | apply KeepBut.set_ | apply keep_drewN | apply keep_drew | apply keep_alloc) | exact HK.out)) (KeepBut.of_below hb g none) (.inl rfl)); have n3_ := Aside0.mk (below_step (by repeat (first | (with_reducible first | exact HB.out | apply below_alloc | apply pw_below_drewN | apply below_drew1 | refine below_set ?_ (IsS102.ge HI0.out)) | exact HB.out)) hb); clear HI0; clear HK; clear HB; have HO176 := n0_; have HI0 := n1_; have HK := n2_; have HB := n3_; clear n0_ n1_ n2_ n3_; clear hb ho15; obtain ⟨Ao16, co16, eo16⟩ := Kd.R_slice HO176.out; subst eo16) | ((with_reducible refine gate_callee (f := 74) rfl ?_); refine goesL_ (some 18) rfl rfl Try.func74 (by kernel_rfl) rfl #[.slice Ao16 y174.length co16] rfl (by (try simp only [List.map_toArray, List.map_cons, List.map_nil]); first | done | rfl | (simp only [List.length_drop, List.length_take]; rfl)) ?_; (with_reducible refine (spec_BitsOf.calls k _ _ y174 t177 t178 _ ?side1 ?side2 A8.out).mono ?_); (case side1 => repeat (first | exact (Kd.R_reads' HO176.out).2.2 | (with_reducible refine Kd.C_alloc ?_ _) | (with_reducible refine Kd.C_drewN ?_ _) | (with_reducible refine Kd.C_drew ?_))); (case side2 => exact (Kd.R_reads' HO176.out).2.1); rintro e w17 ⟨rfl, hb⟩; refine ⟨_, rfl, ?_⟩; have n0_ := Aside0.mk (Kd.R_below (by (with_reducible repeat (first | apply Kd.R_alloc | apply Kd.R_drewN | apply Kd.R_drew)); exact HO176.out) hb); have n1_ := Aside0.mk (IsS102.below (by repeat (first | (with_reducible first | exact HI0.out | apply IsS102.alloc | apply IsS102.drewN | apply IsS102.drew | apply IsS102.set_1 | apply IsS102.set_2) | exact HI0.out)) hb); have n2_ := Aside0.mk (KeepBut.trans (by repeat (first | (with_reducible first | exact HK.out | apply KeepBut.set_ | apply keep_drewN | apply keep_drew | apply keep_alloc) | exact HK.out)) (KeepBut.of_below hb g none) (.inl rfl)); have n3_ := Aside0.mk (below_step (by repeat (first | (with_reducible first | exact HB.out | apply below_alloc | apply pw_below_drewN | apply below_drew1 | refine below_set ?_ (IsS102.ge HI0.out)) | exact HB.out)) hb); clear HO176; clear HI0; clear HK; clear HB; have HO176 := n0_; have HI0 := n1_; have HK := n2_; have HB := n3_; clear n0_ n1_ n2_ n3_; (try clear hb); (try clear hb2); (try clear hk); (try clear hi)))
    go_ret
    exact ⟨by first | rfl | (simp [errW_none, errW_some] <;> rfl) | (simp [*, errW_none, errW_some] <;> rfl), by repeat (first | (with_reducible first | exact HI0.out | apply IsS102.alloc | apply IsS102.drewN | apply IsS102.drew | apply IsS102.set_1 | apply IsS102.set_2) | exact HI0.out), by repeat (first | (with_reducible first | exact HB.out | apply below_alloc | apply pw_below_drewN | apply below_drew1 | refine below_set ?_ (IsS102.ge HI0.out)) | exact HB.out), by repeat (first | (with_reducible first | exact HK.out | apply KeepBut.set_ | apply keep_drewN | apply keep_drew | apply keep_alloc) | exact HK.out)⟩
  · replace c4 := Bool.eq_false_iff.mpr c4
    subst c4
    have H1 : (some (t159, t163, t164)) = some (r1, r2, r3) := by rw [if_neg (show ¬ (false = true) by decide)] at H; exact H
    clear H
    have H := H1
    clear H1
    simp only [Option.some.injEq, Prod.mk.injEq] at H
    obtain ⟨rfl, rfl, rfl⟩ := H
    go_enter Try.func90, Try.ntmps90
    go_wp2_with (first | ((with_reducible refine gate_callee (f := 82) rfl ?_); refine goesL_ (some 5) rfl rfl Try.func82 (by kernel_rfl) rfl #[.pointer (some ⟨g, 0, none⟩)] rfl (by (try simp only [List.map_toArray, List.map_cons, List.map_nil]); first | done | rfl | (simp only [List.length_drop, List.length_take]; rfl)) ?_; (with_reducible refine (spec_l01Cur_word.calls g s0_0 s0_1 s0_2 t159 t160 t161 w0 _ ?side1 ?side2 A2.out).mono ?_); (case side1 => repeat (first | (with_reducible first | exact HI0.out | apply IsS102.alloc | apply IsS102.drewN | apply IsS102.drew | apply IsS102.set_1 | apply IsS102.set_2) | exact HI0.out)); (case side2 => repeat (first | (with_reducible first | exact HB.out | apply below_alloc | apply pw_below_drewN | apply below_drew1 | refine below_set ?_ (IsS102.ge HI0.out)) | exact HB.out)); rintro e w18 ⟨rfl, hi, hb, hk⟩; refine ⟨_, rfl, ?_⟩; have n0_ := Aside0.mk (KeepBut.trans (by repeat (first | (with_reducible first | exact HK.out | apply KeepBut.set_ | apply keep_drewN | apply keep_drew | apply keep_alloc) | exact HK.out)) hk (.inl rfl)); have n1_ := Aside0.mk (hb); have n2_ := Aside0.mk (hi); clear HK; clear HB; clear HI0; have HK := n0_; have HB := n1_; have HI0 := n2_; clear n0_ n1_ n2_; (try clear hb); (try clear hb2); (try clear hk); (try clear hi)) | ((with_reducible refine gate_callee (f := 73) rfl ?_); refine goesL_ (some 7) rfl rfl Try.func73 (by kernel_rfl) rfl #[.pointer (some ⟨g, 0, none⟩), .int .i64 2] rfl (by (try simp only [List.map_toArray, List.map_cons, List.map_nil]); first | done | rfl | (simp only [List.length_drop, List.length_take]; rfl)) ?_; (with_reducible refine (spec_l01Cur_once.calls g s0_0 t160 t161 2 false t163 t164 w0 _ ?side1 ?side2 A3.out).mono ?_); (case side1 => repeat (first | (with_reducible first | exact HI0.out | apply IsS102.alloc | apply IsS102.drewN | apply IsS102.drew | apply IsS102.set_1 | apply IsS102.set_2) | exact HI0.out)); (case side2 => repeat (first | (with_reducible first | exact HB.out | apply below_alloc | apply pw_below_drewN | apply below_drew1 | refine below_set ?_ (IsS102.ge HI0.out)) | exact HB.out)); rintro e w19 ⟨rfl, hi, hb, hk⟩; refine ⟨_, rfl, ?_⟩; have n0_ := Aside0.mk (KeepBut.trans (by repeat (first | (with_reducible first | exact HK.out | apply KeepBut.set_ | apply keep_drewN | apply keep_drew | apply keep_alloc) | exact HK.out)) hk (.inl rfl)); have n1_ := Aside0.mk (hb); have n2_ := Aside0.mk (hi); clear HK; clear HB; clear HI0; have HK := n0_; have HB := n1_; have HI0 := n2_; clear n0_ n1_ n2_; (try clear hb); (try clear hb2); (try clear hk); (try clear hi)))
    go_ret
    exact ⟨by first | rfl | (simp [errW_none, errW_some] <;> rfl) | (simp [*, errW_none, errW_some] <;> rfl), by repeat (first | (with_reducible first | exact HI0.out | apply IsS102.alloc | apply IsS102.drewN | apply IsS102.drew | apply IsS102.set_1 | apply IsS102.set_2) | exact HI0.out), by repeat (first | (with_reducible first | exact HB.out | apply below_alloc | apply pw_below_drewN | apply below_drew1 | refine below_set ?_ (IsS102.ge HI0.out)) | exact HB.out), by repeat (first | (with_reducible first | exact HK.out | apply KeepBut.set_ | apply keep_drewN | apply keep_drew | apply keep_alloc) | exact HK.out)⟩

/-! ### spec_DrawFreeLow: function 49 -/
def spec_DrawFreeLow.f (k : Nat) (l0 : List Int) : Option (Int × Int × Int) := (spec_l01Open.f l0).bind fun bt179 => ((spec_l01Cur_bits.f k bt179.1 bt179.2.1 bt179.2.2).bind fun bt183 => ((spec_l01Cur_pick.f bt179.1 bt183.2.1 bt183.2.2 34).bind fun bt186 => ((spec_l01Cur_raw.f bt179.1 bt186.2.1 bt186.2.2).bind fun bt189 => ((some (([bt186.1, 16, bt189.1] : List Int) : List Int)).bind fun y192 => ((spec_l01Cur_pick.f bt179.1 bt189.2.1 bt189.2.2 3).bind fun bt195 => (if 0 ≤ bt195.1 then (if bt195.1 < (y192.length : Int) then ((spec_l01Cur_pick.f bt179.1 bt195.2.1 bt195.2.2 9).bind fun bt199 => ((spec_l01Cur_raw.f bt179.1 bt199.2.1 bt199.2.2).bind fun bt202 => ((some (([bt199.1, bt202.1] : List Int) : List Int)).bind fun y205 => ((spec_l01Cur_pick.f bt179.1 bt202.2.1 bt202.2.2 2).bind fun bt208 => (if 0 ≤ bt208.1 then (if bt208.1 < (y205.length : Int) then (some (bt183.1, rd y192 bt195.1, rd y205 bt208.1)) else (none)) else (none)))))) else (none)) else (none)))))))
theorem spec_DrawFreeLow.mono : ∀ a0 k, LeO (spec_DrawFreeLow.f k a0) (spec_DrawFreeLow.f (k + 1) a0) := by
  intro a0 k
  unfold spec_DrawFreeLow.f
  repeat' first
      | (with_reducible exact spec_l01Cur_bits.mono _ _ _ _)
      | (with_reducible exact LeO.refl _)
      | (with_reducible exact LeO.none _)
      | (with_reducible refine LeO.ite ?_ ?_)
      | (with_reducible refine LeO.bind ?_ (fun _ => ?_))
      | exact spec_l01Cur_bits.mono _ _ _ _
      | exact LeO.none _
      | refine LeO.ite ?_ ?_
      | refine LeO.bind ?_ (fun _ => ?_)
def spec_DrawFreeLow.T2 : Bool × List (List Nat × List Nat) := (true, [([], []), ([0], [0]), ([], []), ([2, 1], [2]), ([], []), ([4, 3], [4]), ([3, 5], [3, 5]), ([], []), ([7, 5], [7]), ([6, 8], [6, 8]), ([9], [9]), ([], []), ([11, 8], [11]), ([], []), ([13, 12], [13]), ([12, 14], [12, 14]), ([], []), ([16, 14], [16]), ([15, 17], [15, 17]), ([18], [18]), ([1, 17, 0, 1], [1]), ([10, 20, 0, 1, 2, 3, 4, 5, 6, 7, 8, 9, 10, 20], [10]), ([19, 21, 0, 1, 2, 3, 4, 5, 6, 7, 8, 9, 10, 11, 12, 13, 14, 15, 16, 17, 18, 19, 20, 21], [19])])
def spec_DrawFreeLow.B2 : List Nat := [0, 1, 0, 7, 0, 31, 63, 0, 191, 511, 1023, 0, 2495, 0, 14783, 31167, 0, 96703, 260543, 522687, 227775, 1277951, 4194303]
theorem spec_DrawFreeLow.tab2 : rtab .any (opsOf Try.f49 2) = spec_DrawFreeLow.T2 := by kernel_rfl
theorem spec_DrawFreeLow.bits2 : waitsOk spec_DrawFreeLow.T2.2 spec_DrawFreeLow.B2 = true := by kernel_rfl
set_option maxHeartbeats 8000000 in
set_option maxRecDepth 100000 in
theorem spec_DrawFreeLow.calls (k : Nat) (A0 : Option Addr) (c0 : Nat) (l0 : List Int) (r1 : Int) (r2 : Int) (r3 : Int) (w : World) (hr0 : Kd.C (Kd.int .u8) w A0 l0.length l0) (hc0 : l0.length ≤ c0) (h : spec_DrawFreeLow.f k l0 = some (r1, r2, r3)) :
    Calls Try.prog 49 #[.slice A0 l0.length c0] w fun e w' => e = .returned (.tuple #[.int .u32 r1, .int .i64 r2, .int .i64 r3]) ∧ Below w.heap.size w w' := by
  have HR0 := Aside0.mk hr0
  have HC0 := Aside0.mk hc0
  clear hr0 hc0
  have HB := Aside0.mk (Below.refl w.heap.size w)
  have H : ((spec_l01Open.f l0).bind fun bt179 => ((spec_l01Cur_bits.f k bt179.1 bt179.2.1 bt179.2.2).bind fun bt183 => ((spec_l01Cur_pick.f bt179.1 bt183.2.1 bt183.2.2 34).bind fun bt186 => ((spec_l01Cur_raw.f bt179.1 bt186.2.1 bt186.2.2).bind fun bt189 => ((some (([bt186.1, 16, bt189.1] : List Int) : List Int)).bind fun y192 => ((spec_l01Cur_pick.f bt179.1 bt189.2.1 bt189.2.2 3).bind fun bt195 => (if 0 ≤ bt195.1 then (if bt195.1 < (y192.length : Int) then ((spec_l01Cur_pick.f bt179.1 bt195.2.1 bt195.2.2 9).bind fun bt199 => ((spec_l01Cur_raw.f bt179.1 bt199.2.1 bt199.2.2).bind fun bt202 => ((some (([bt199.1, bt202.1] : List Int) : List Int)).bind fun y205 => ((spec_l01Cur_pick.f bt179.1 bt202.2.1 bt202.2.2 2).bind fun bt208 => (if 0 ≤ bt208.1 then (if bt208.1 < (y205.length : Int) then (some (bt183.1, rd y192 bt195.1, rd y205 bt208.1)) else (none)) else (none)))))) else (none)) else (none)))))))) = some (r1, r2, r3) := h
  clear h
  replace H := Option.bind_eq_some_iff.mp H
  obtain ⟨⟨t179, t180, t181⟩, A20, H⟩ := H
  replace H : ((spec_l01Cur_bits.f k t179 t180 t181).bind fun bt183 => ((spec_l01Cur_pick.f t179 bt183.2.1 bt183.2.2 34).bind fun bt186 => ((spec_l01Cur_raw.f t179 bt186.2.1 bt186.2.2).bind fun bt189 => ((some (([bt186.1, 16, bt189.1] : List Int) : List Int)).bind fun y192 => ((spec_l01Cur_pick.f t179 bt189.2.1 bt189.2.2 3).bind fun bt195 => (if 0 ≤ bt195.1 then (if bt195.1 < (y192.length : Int) then ((spec_l01Cur_pick.f t179 bt195.2.1 bt195.2.2 9).bind fun bt199 => ((spec_l01Cur_raw.f t179 bt199.2.1 bt199.2.2).bind fun bt202 => ((some (([bt199.1, bt202.1] : List Int) : List Int)).bind fun y205 => ((spec_l01Cur_pick.f t179 bt202.2.1 bt202.2.2 2).bind fun bt208 => (if 0 ≤ bt208.1 then (if bt208.1 < (y205.length : Int) then (some (bt183.1, rd y192 bt195.1, rd y205 bt208.1)) else (none)) else (none)))))) else (none)) else (none))))))) = some (r1, r2, r3) := H
  have A2 := Aside0.mk A20
  clear A20
  replace H := Option.bind_eq_some_iff.mp H
  obtain ⟨⟨t183, t184, t185⟩, A30, H⟩ := H
  replace H : ((spec_l01Cur_pick.f t179 t184 t185 34).bind fun bt186 => ((spec_l01Cur_raw.f t179 bt186.2.1 bt186.2.2).bind fun bt189 => ((some (([bt186.1, 16, bt189.1] : List Int) : List Int)).bind fun y192 => ((spec_l01Cur_pick.f t179 bt189.2.1 bt189.2.2 3).bind fun bt195 => (if 0 ≤ bt195.1 then (if bt195.1 < (y192.length : Int) then ((spec_l01Cur_pick.f t179 bt195.2.1 bt195.2.2 9).bind fun bt199 => ((spec_l01Cur_raw.f t179 bt199.2.1 bt199.2.2).bind fun bt202 => ((some (([bt199.1, bt202.1] : List Int) : List Int)).bind fun y205 => ((spec_l01Cur_pick.f t179 bt202.2.1 bt202.2.2 2).bind fun bt208 => (if 0 ≤ bt208.1 then (if bt208.1 < (y205.length : Int) then (some (t183, rd y192 bt195.1, rd y205 bt208.1)) else (none)) else (none)))))) else (none)) else (none)))))) = some (r1, r2, r3) := H
  have A3 := Aside0.mk A30
  clear A30
  replace H := Option.bind_eq_some_iff.mp H
  obtain ⟨⟨t186, t187, t188⟩, A40, H⟩ := H
  replace H : ((spec_l01Cur_raw.f t179 t187 t188).bind fun bt189 => ((some (([t186, 16, bt189.1] : List Int) : List Int)).bind fun y192 => ((spec_l01Cur_pick.f t179 bt189.2.1 bt189.2.2 3).bind fun bt195 => (if 0 ≤ bt195.1 then (if bt195.1 < (y192.length : Int) then ((spec_l01Cur_pick.f t179 bt195.2.1 bt195.2.2 9).bind fun bt199 => ((spec_l01Cur_raw.f t179 bt199.2.1 bt199.2.2).bind fun bt202 => ((some (([bt199.1, bt202.1] : List Int) : List Int)).bind fun y205 => ((spec_l01Cur_pick.f t179 bt202.2.1 bt202.2.2 2).bind fun bt208 => (if 0 ≤ bt208.1 then (if bt208.1 < (y205.length : Int) then (some (t183, rd y192 bt195.1, rd y205 bt208.1)) else (none)) else (none)))))) else (none)) else (none))))) = some (r1, r2, r3) := H
  have A4 := Aside0.mk A40
  clear A40
  replace H := Option.bind_eq_some_iff.mp H
  obtain ⟨⟨t189, t190, t191⟩, A50, H⟩ := H
  replace H : ((some (([t186, 16, t189] : List Int) : List Int)).bind fun y192 => ((spec_l01Cur_pick.f t179 t190 t191 3).bind fun bt195 => (if 0 ≤ bt195.1 then (if bt195.1 < (y192.length : Int) then ((spec_l01Cur_pick.f t179 bt195.2.1 bt195.2.2 9).bind fun bt199 => ((spec_l01Cur_raw.f t179 bt199.2.1 bt199.2.2).bind fun bt202 => ((some (([bt199.1, bt202.1] : List Int) : List Int)).bind fun y205 => ((spec_l01Cur_pick.f t179 bt202.2.1 bt202.2.2 2).bind fun bt208 => (if 0 ≤ bt208.1 then (if bt208.1 < (y205.length : Int) then (some (t183, rd y192 bt195.1, rd y205 bt208.1)) else (none)) else (none)))))) else (none)) else (none)))) = some (r1, r2, r3) := H
  have A5 := Aside0.mk A50
  clear A50
  obtain ⟨y192, hy192⟩ : ∃ y_ : List Int, y_ = (([t186, 16, t189] : List Int)) := ⟨_, rfl⟩
  replace H : ((spec_l01Cur_pick.f t179 t190 t191 3).bind fun bt195 => (if 0 ≤ bt195.1 then (if bt195.1 < (y192.length : Int) then ((spec_l01Cur_pick.f t179 bt195.2.1 bt195.2.2 9).bind fun bt199 => ((spec_l01Cur_raw.f t179 bt199.2.1 bt199.2.2).bind fun bt202 => ((some (([bt199.1, bt202.1] : List Int) : List Int)).bind fun y205 => ((spec_l01Cur_pick.f t179 bt202.2.1 bt202.2.2 2).bind fun bt208 => (if 0 ≤ bt208.1 then (if bt208.1 < (y205.length : Int) then (some (t183, rd y192 bt195.1, rd y205 bt208.1)) else (none)) else (none)))))) else (none)) else (none))) = some (r1, r2, r3) := by first | (rw [hy192]; with_reducible exact H) | (have H2_ := (Option.bind_some _ _).symm.trans H; rw [hy192]; with_reducible exact H2_) | (have H2_ := (Option.bind_some _ _).symm.trans H; with_reducible exact H2_) | with_reducible exact H | (rw [hy192]; exact H) | exact H
  have Ny192 := Aside0.mk hy192
  clear hy192
  replace H := Option.bind_eq_some_iff.mp H
  obtain ⟨⟨t195, t196, t197⟩, A60, H⟩ := H
  replace H : (if 0 ≤ t195 then (if t195 < (y192.length : Int) then ((spec_l01Cur_pick.f t179 t196 t197 9).bind fun bt199 => ((spec_l01Cur_raw.f t179 bt199.2.1 bt199.2.2).bind fun bt202 => ((some (([bt199.1, bt202.1] : List Int) : List Int)).bind fun y205 => ((spec_l01Cur_pick.f t179 bt202.2.1 bt202.2.2 2).bind fun bt208 => (if 0 ≤ bt208.1 then (if bt208.1 < (y205.length : Int) then (some (t183, rd y192 t195, rd y205 bt208.1)) else (none)) else (none)))))) else (none)) else (none)) = some (r1, r2, r3) := H
  have A6 := Aside0.mk A60
  clear A60
  by_cases c7 : 0 ≤ t195
  · rw [if_pos c7] at H
    have c7b0 : decide (0 ≤ t195) = true := decide_eq_true c7
    clear c7
    by_cases c8 : t195 < (y192.length : Int)
    · rw [if_pos c8] at H
      have c8b0 : decide (t195 < (y192.length : Int)) = true := decide_eq_true c8
      clear c8
      replace H := Option.bind_eq_some_iff.mp H
      obtain ⟨⟨t199, t200, t201⟩, A90, H⟩ := H
      replace H : ((spec_l01Cur_raw.f t179 t200 t201).bind fun bt202 => ((some (([t199, bt202.1] : List Int) : List Int)).bind fun y205 => ((spec_l01Cur_pick.f t179 bt202.2.1 bt202.2.2 2).bind fun bt208 => (if 0 ≤ bt208.1 then (if bt208.1 < (y205.length : Int) then (some (t183, rd y192 t195, rd y205 bt208.1)) else (none)) else (none))))) = some (r1, r2, r3) := H
      have A9 := Aside0.mk A90
      clear A90
      replace H := Option.bind_eq_some_iff.mp H
      obtain ⟨⟨t202, t203, t204⟩, A100, H⟩ := H
      replace H : ((some (([t199, t202] : List Int) : List Int)).bind fun y205 => ((spec_l01Cur_pick.f t179 t203 t204 2).bind fun bt208 => (if 0 ≤ bt208.1 then (if bt208.1 < (y205.length : Int) then (some (t183, rd y192 t195, rd y205 bt208.1)) else (none)) else (none)))) = some (r1, r2, r3) := H
      have A10 := Aside0.mk A100
      clear A100
      obtain ⟨y205, hy205⟩ : ∃ y_ : List Int, y_ = (([t199, t202] : List Int)) := ⟨_, rfl⟩
      replace H : ((spec_l01Cur_pick.f t179 t203 t204 2).bind fun bt208 => (if 0 ≤ bt208.1 then (if bt208.1 < (y205.length : Int) then (some (t183, rd y192 t195, rd y205 bt208.1)) else (none)) else (none))) = some (r1, r2, r3) := by first | (rw [hy205]; with_reducible exact H) | (have H2_ := (Option.bind_some _ _).symm.trans H; rw [hy205]; with_reducible exact H2_) | (have H2_ := (Option.bind_some _ _).symm.trans H; with_reducible exact H2_) | with_reducible exact H | (rw [hy205]; exact H) | exact H
      have Ny205 := Aside0.mk hy205
      clear hy205
      replace H := Option.bind_eq_some_iff.mp H
      obtain ⟨⟨t208, t209, t210⟩, A110, H⟩ := H
      replace H : (if 0 ≤ t208 then (if t208 < (y205.length : Int) then (some (t183, rd y192 t195, rd y205 t208)) else (none)) else (none)) = some (r1, r2, r3) := H
      have A11 := Aside0.mk A110
      clear A110
      by_cases c12 : 0 ≤ t208
      · rw [if_pos c12] at H
        have c12b0 : decide (0 ≤ t208) = true := decide_eq_true c12
        clear c12
        by_cases c13 : t208 < (y205.length : Int)
        · rw [if_pos c13] at H
          have c13b0 : decide (t208 < (y205.length : Int)) = true := decide_eq_true c13
          clear c13
          simp only [Option.some.injEq, Prod.mk.injEq] at H
          obtain ⟨rfl, rfl, rfl⟩ := H
          go_enter Try.func49, Try.ntmps49
          try go_wp2_with (first | ((with_reducible refine gate_callee (f := 66) rfl ?_); refine goesL_ (some 7) rfl rfl Try.func66 (by kernel_rfl) rfl #[.slice A0 l0.length c0] rfl (by (try simp only [List.map_toArray, List.map_cons, List.map_nil]); first | done | rfl | (simp only [List.length_drop, List.length_take]; rfl)) ?_; (with_reducible refine (spec_l01Open.calls _ _ l0 t179 t180 t181 w _ ?side1 ?side2 ?side3 A2.out).mono ?_); (case side1 => repeat (first | (with_reducible first | exact HB.out | apply below_alloc | apply pw_below_drewN | apply below_drew1) | exact HB.out)); (case side2 => exact HR0.out); (case side3 => exact HC0.out); rintro e w14 ⟨g182, rfl, hi, hb, hb2⟩; refine ⟨_, rfl, ?_⟩; have n0_ := Aside0.mk (hb); have n1_ := Aside0.mk (hi); clear HB; have HB := n0_; have HI182 := n1_; clear n0_ n1_; (try clear hb); (try clear hb2); (try clear hk); (try clear hi)))
          have pi198 : (0 ≤ (t195 : Int)) = True := eq_true (of_decide_eq_true (by first | (with_reducible assumption) | assumption))
          have qi198 : (t195 < (y192.length : Int)) = True := eq_true (of_decide_eq_true (by first | (with_reducible assumption) | assumption))
          have pi211 : (0 ≤ (t208 : Int)) = True := eq_true (of_decide_eq_true (by first | (with_reducible assumption) | assumption))
          have qi211 : (t208 < (y205.length : Int)) = True := eq_true (of_decide_eq_true (by first | (with_reducible assumption) | assumption))
          have n0_ := Aside0.mk (IsS102.drew HI182.out)
          have n1_ := Aside0.mk (below_drew1 HB.out)
          clear HI182
          clear HB
          have HI182 := n0_
          have HB := n1_
          clear n0_ n1_
          refine start_ (n := 23) (S := fun w' => True) (ds := []) #[false, false, false, false, false, false, false, false, false, false, false, false, false, false, false, false, false, false, false, false, false, false, false] (by kernel_rfl) rfl rfl trivial (fun hHeld => ?_); refine with_tabW spec_DrawFreeLow.tab2 spec_DrawFreeLow.bits2 (fun HT_ HW_ => ?_)
          generalize w14.drew = w15 at HI182 HB hHeld ⊢
          refine pure_ (i := 0) (N := some 8) (v := ?_) (a' := ?_) #[true, false, false, false, false, false, false, false, false, false, false, false, false, false, false, false, false, false, false, false, false, false, false] rfl rfl (any_of HT_.out (by kernel_rfl)) (fun _ _ _ h => h) (Or.inl ⟨by rfl, ?_⟩) ?_ ?_
          rotate_left
          · intro w'
            go_simp
            with_reducible rfl
          rotate_left
          · simp only [Act.put, List.setIfInBounds_toArray, List.set_cons_zero, List.set_cons_succ, i64_w, i32_w]
            rfl
          refine pure_ (i := 2) (N := some 10) (v := ?_) (a' := ?_) #[true, false, true, false, false, false, false, false, false, false, false, false, false, false, false, false, false, false, false, false, false, false, false] rfl rfl (any_of HT_.out (by kernel_rfl)) (fun _ _ _ h => h) (Or.inl ⟨by rfl, ?_⟩) ?_ ?_
          rotate_left
          · intro w'
            go_simp
            with_reducible rfl
          rotate_left
          · simp only [Act.put, List.setIfInBounds_toArray, List.set_cons_zero, List.set_cons_succ, i64_w, i32_w]
            rfl
          refine pure_ (i := 4) (N := some 12) (v := ?_) (a' := ?_) #[true, false, true, false, true, false, false, false, false, false, false, false, false, false, false, false, false, false, false, false, false, false, false] rfl rfl (any_of HT_.out (by kernel_rfl)) (fun _ _ _ h => h) (Or.inl ⟨by rfl, ?_⟩) ?_ ?_
          rotate_left
          · intro w'
            go_simp
            with_reducible rfl
          rotate_left
          · simp only [Act.put, List.setIfInBounds_toArray, List.set_cons_zero, List.set_cons_succ, i64_w, i32_w]
            rfl
          refine pure_ (i := 7) (N := some 15) (v := ?_) (a' := ?_) #[true, false, true, false, true, false, false, true, false, false, false, false, false, false, false, false, false, false, false, false, false, false, false] rfl rfl (any_of HT_.out (by kernel_rfl)) (fun _ _ _ h => h) (Or.inl ⟨by rfl, ?_⟩) ?_ ?_
          rotate_left
          · intro w'
            go_simp
            with_reducible rfl
          rotate_left
          · simp only [Act.put, List.setIfInBounds_toArray, List.set_cons_zero, List.set_cons_succ, i64_w, i32_w]
            rfl
          refine pure_ (i := 11) (N := some 19) (v := ?_) (a' := ?_) #[true, false, true, false, true, false, false, true, false, false, false, true, false, false, false, false, false, false, false, false, false, false, false] rfl rfl (any_of HT_.out (by kernel_rfl)) (fun _ _ _ h => h) (Or.inl ⟨by rfl, ?_⟩) ?_ ?_
          rotate_left
          · intro w'
            go_simp
            with_reducible rfl
          rotate_left
          · simp only [Act.put, List.setIfInBounds_toArray, List.set_cons_zero, List.set_cons_succ, i64_w, i32_w]
            rfl
          refine pure_ (i := 13) (N := some 21) (v := ?_) (a' := ?_) #[true, false, true, false, true, false, false, true, false, false, false, true, false, true, false, false, false, false, false, false, false, false, false] rfl rfl (any_of HT_.out (by kernel_rfl)) (fun _ _ _ h => h) (Or.inl ⟨by rfl, ?_⟩) ?_ ?_
          rotate_left
          · intro w'
            go_simp
            with_reducible rfl
          rotate_left
          · simp only [Act.put, List.setIfInBounds_toArray, List.set_cons_zero, List.set_cons_succ, i64_w, i32_w]
            rfl
          refine pure_ (i := 16) (N := some 24) (v := ?_) (a' := ?_) #[true, false, true, false, true, false, false, true, false, false, false, true, false, true, false, false, true, false, false, false, false, false, false] rfl rfl (any_of HT_.out (by kernel_rfl)) (fun _ _ _ h => h) (Or.inl ⟨by rfl, ?_⟩) ?_ ?_
          rotate_left
          · intro w'
            go_simp
            with_reducible rfl
          rotate_left
          · simp only [Act.put, List.setIfInBounds_toArray, List.set_cons_zero, List.set_cons_succ, i64_w, i32_w]
            rfl
          refine inv_at [1, 3, 5, 6, 8, 9, 10, 12, 14, 15, 17, 18, 19, 20, 21, 22] (fun a0_ b a w' => ∃ (v193 : Value) (adz_v193 : Addr) (v206 : Value) (adz_v206 : Addr) (m9_ : Value) (m18_ : Value), a = putSel a0_ b [(1, 9, .int .u32 t183), (3, 11, .int .i64 t186), (5, 13, .int .i64 t189), (6, 14, v193), (8, 16, .int .i64 t195), (9, 17, m9_), (10, 18, .int .i64 (rd y192 t195)), (12, 20, .int .i64 t199), (14, 22, .int .i64 t202), (15, 23, v206), (17, 25, .int .i64 t208), (18, 26, m18_), (19, 27, .int .i64 (rd y205 t208)), (20, 2, .int .u32 t183), (21, 3, .int .i64 (rd y192 t195)), (22, 4, .int .i64 (rd y205 t208))] ∧ (b 1 = false → IsS102 w w' g182 t179 t180 t181) ∧ (Below w.heap.size w w') ∧ (b 1 = true → b 3 = false → IsS102 w w' g182 t179 t184 t185) ∧ (b 3 = true → b 5 = false → IsS102 w w' g182 t179 t187 t188) ∧ (b 5 = true → b 8 = false → IsS102 w w' g182 t179 t190 t191) ∧ (b 6 = true → Kd.R (Kd.int .i64) 3 w' w.heap.size (fun _ => True) v193 y192) ∧ (b 6 = true → ∃ c_, (v193 : Value) = .slice (some adz_v193) y192.length c_) ∧ (b 8 = true → b 12 = false → IsS102 w w' g182 t179 t196 t197) ∧ (b 12 = true → b 14 = false → IsS102 w w' g182 t179 t200 t201) ∧ (b 14 = true → b 17 = false → IsS102 w w' g182 t179 t203 t204) ∧ (b 15 = true → Kd.R (Kd.int .i64) 3 w' w.heap.size (fun _ => True) v206 y205) ∧ (b 15 = true → ∃ c_, (v206 : Value) = .slice (some adz_v206) y205.length c_) ∧ (b 17 = true → IsS102 w w' g182 t179 t209 t210) ∧ (b 9 = true → (m9_ : Value) = .pointer (some (adz_v193.add (t195).toNat))) ∧ (b 18 = true → (m18_ : Value) = .pointer (some (adz_v206.add (t208).toNat)))) HT_.out HW_.out (by kernel_rfl) (by kernel_rfl) ?_ ?_ ?_
          · exact ⟨.bool false, ⟨0, 0, none⟩, .bool false, ⟨0, 0, none⟩, .bool false, .bool false, by simp only [putSel, Bool.false_eq_true, if_false], fun _ => HI182.out, HB.out, fun h_ => absurd h_ (by decide), fun h_ => absurd h_ (by decide), fun h_ => absurd h_ (by decide), fun h_ => absurd h_ (by decide), fun h_ => absurd h_ (by decide), fun h_ => absurd h_ (by decide), fun h_ => absurd h_ (by decide), fun h_ => absurd h_ (by decide), fun h_ => absurd h_ (by decide), fun h_ => absurd h_ (by decide), fun h_ => absurd h_ (by decide), fun h_ => absurd h_ (by decide), fun h_ => absurd h_ (by decide)⟩
          · skip
            clear HB HI182
            refine steps_cons ?_ ?_
            · rintro b a w' ⟨v193, adz_v193, v206, adz_v206, m9_, m18_, ha, Q_HI182, Q_HB, Q_HI182_e1, Q_HI182_e3, Q_HI182_e5, Q_HO194, Q_HA_HO194, Q_HI182_e8, Q_HI182_e12, Q_HI182_e14, Q_HO207, Q_HA_HO207, Q_HI182_e17, Q_X9_, Q_X18_⟩ hb_ hon hoff
              refine ⟨_, rfl, fun K hK => ?_⟩
              have e8 : a.tmps[8]? = some (.pointer (some ⟨g182, 0, none⟩)) := by rw [ha]; exact (putSel_off rfl).trans rfl
              replace ha := Aside0.mk ha
              have HI182 := Aside0.mk (Q_HI182 hb_)
              have HB := Aside0.mk Q_HB
              refine goes_ Try.func90 (by kernel_rfl) rfl #[.pointer (some ⟨g182, 0, none⟩)] (by rfl) rfl rfl (by first | (simp only [List.map_toArray, List.map_cons, List.map_nil, Act.eval, Array.getD_eq_getD_getElem?, Option.getD_some, e8]; done) | (simp only [List.map_toArray, List.map_cons, List.map_nil, Act.eval, Array.getD_eq_getD_getElem?, Option.getD_some, e8]; rfl)) ?_
              with_reducible refine (spec_l01Cur_bits.calls k g182 t179 t180 t181 t183 t184 t185 w _ ?side1 ?side2 A3.out).mono ?_
              (case side1 => repeat (first | (with_reducible first | exact HI182.out | apply IsS102.alloc | apply IsS102.drewN | apply IsS102.drew | apply IsS102.set_1 | apply IsS102.set_2) | exact HI182.out))
              (case side2 => repeat (first | (with_reducible first | exact HB.out | apply below_alloc | apply pw_below_drewN | apply below_drew1 | refine below_set ?_ (IsS102.ge HI182.out)) | exact HB.out))
              rintro e w16 ⟨rfl, hi, hb, hk⟩
              refine ⟨_, rfl, ?_⟩
              have n0_ := Aside0.mk (hb)
              have n1_ := Aside0.mk (hi)
              clear HB
              clear HI182
              have HB := n0_
              have HI182 := n1_
              clear n0_ n1_
              (try clear hb)
              (try clear hb2)
              (try clear hk)
              (try clear hi)
              refine hK.out _ _ ⟨v193, adz_v193, v206, adz_v206, m9_, m18_, (by rw [ha.out]; exact putSel_upk 0 hb_ rfl rfl rfl), fun h0_ => absurd ((up_self b 1).symm.trans h0_) (by decide), (by repeat (first | (with_reducible first | exact HB.out | apply below_alloc | apply pw_below_drewN | apply below_drew1 | refine below_set ?_ (IsS102.ge HI182.out)) | exact HB.out)), fun _ _ => (by repeat (first | (with_reducible first | exact HI182.out | apply IsS102.alloc | apply IsS102.drewN | apply IsS102.drew | apply IsS102.set_1 | apply IsS102.set_2) | exact HI182.out)), fun h0_ _ => absurd ((hoff 3 (by kernel_rfl)).symm.trans h0_) (by decide), fun h0_ _ => absurd ((hoff 5 (by kernel_rfl)).symm.trans h0_) (by decide), fun h0_ => absurd ((hoff 6 (by kernel_rfl)).symm.trans h0_) (by decide), fun h0_ => absurd ((hoff 6 (by kernel_rfl)).symm.trans h0_) (by decide), fun h0_ _ => absurd ((hoff 8 (by kernel_rfl)).symm.trans h0_) (by decide), fun h0_ _ => absurd ((hoff 12 (by kernel_rfl)).symm.trans h0_) (by decide), fun h0_ _ => absurd ((hoff 14 (by kernel_rfl)).symm.trans h0_) (by decide), fun h0_ => absurd ((hoff 15 (by kernel_rfl)).symm.trans h0_) (by decide), fun h0_ => absurd ((hoff 15 (by kernel_rfl)).symm.trans h0_) (by decide), fun h0_ => absurd ((hoff 17 (by kernel_rfl)).symm.trans h0_) (by decide), fun h0_ => absurd ((hoff 9 (by kernel_rfl)).symm.trans h0_) (by decide), fun h0_ => absurd ((hoff 18 (by kernel_rfl)).symm.trans h0_) (by decide)⟩
            refine steps_cons ?_ ?_
            · rintro b a w' ⟨v193, adz_v193, v206, adz_v206, m9_, m18_, ha, Q_HI182, Q_HB, Q_HI182_e1, Q_HI182_e3, Q_HI182_e5, Q_HO194, Q_HA_HO194, Q_HI182_e8, Q_HI182_e12, Q_HI182_e14, Q_HO207, Q_HA_HO207, Q_HI182_e17, Q_X9_, Q_X18_⟩ hb_ hon hoff
              refine ⟨_, rfl, fun K hK => ?_⟩
              have e10 : a.tmps[10]? = some (.pointer (some ⟨g182, 0, none⟩)) := by rw [ha]; exact (putSel_off rfl).trans rfl
              replace ha := Aside0.mk ha
              have HB := Aside0.mk Q_HB
              have HI182 := Aside0.mk (Q_HI182_e1 (hon 1 (by kernel_rfl)) hb_)
              refine goes_ Try.func75 (by kernel_rfl) rfl #[.pointer (some ⟨g182, 0, none⟩), .int .i64 34] (by rfl) rfl rfl (by first | (simp only [List.map_toArray, List.map_cons, List.map_nil, Act.eval, Array.getD_eq_getD_getElem?, Option.getD_some, e10]; done) | (simp only [List.map_toArray, List.map_cons, List.map_nil, Act.eval, Array.getD_eq_getD_getElem?, Option.getD_some, e10]; rfl)) ?_
              with_reducible refine (spec_l01Cur_pick.calls g182 t179 t184 t185 34 t186 t187 t188 w _ ?side1 ?side2 A4.out).mono ?_
              (case side1 => repeat (first | (with_reducible first | exact HI182.out | apply IsS102.alloc | apply IsS102.drewN | apply IsS102.drew | apply IsS102.set_1 | apply IsS102.set_2) | exact HI182.out))
              (case side2 => repeat (first | (with_reducible first | exact HB.out | apply below_alloc | apply pw_below_drewN | apply below_drew1 | refine below_set ?_ (IsS102.ge HI182.out)) | exact HB.out))
              rintro e w18 ⟨rfl, hi, hb, hk⟩
              refine ⟨_, rfl, ?_⟩
              have n0_ := Aside0.mk (hb)
              have n1_ := Aside0.mk (hi)
              clear HB
              clear HI182
              have HB := n0_
              have HI182 := n1_
              clear n0_ n1_
              (try clear hb)
              (try clear hb2)
              (try clear hk)
              (try clear hi)
              refine hK.out _ _ ⟨v193, adz_v193, v206, adz_v206, m9_, m18_, (by rw [ha.out]; exact putSel_upk 1 hb_ rfl rfl rfl), fun h0_ => absurd ((hon 1 (by kernel_rfl)).symm.trans h0_) (by decide), (by repeat (first | (with_reducible first | exact HB.out | apply below_alloc | apply pw_below_drewN | apply below_drew1 | refine below_set ?_ (IsS102.ge HI182.out)) | exact HB.out)), fun _ h1_ => absurd ((up_self b 3).symm.trans h1_) (by decide), fun _ _ => (by repeat (first | (with_reducible first | exact HI182.out | apply IsS102.alloc | apply IsS102.drewN | apply IsS102.drew | apply IsS102.set_1 | apply IsS102.set_2) | exact HI182.out)), fun h0_ _ => absurd ((hoff 5 (by kernel_rfl)).symm.trans h0_) (by decide), fun h0_ => absurd ((hoff 6 (by kernel_rfl)).symm.trans h0_) (by decide), fun h0_ => absurd ((hoff 6 (by kernel_rfl)).symm.trans h0_) (by decide), fun h0_ _ => absurd ((hoff 8 (by kernel_rfl)).symm.trans h0_) (by decide), fun h0_ _ => absurd ((hoff 12 (by kernel_rfl)).symm.trans h0_) (by decide), fun h0_ _ => absurd ((hoff 14 (by kernel_rfl)).symm.trans h0_) (by decide), fun h0_ => absurd ((hoff 15 (by kernel_rfl)).symm.trans h0_) (by decide), fun h0_ => absurd ((hoff 15 (by kernel_rfl)).symm.trans h0_) (by decide), fun h0_ => absurd ((hoff 17 (by kernel_rfl)).symm.trans h0_) (by decide), fun h0_ => absurd ((hoff 9 (by kernel_rfl)).symm.trans h0_) (by decide), fun h0_ => absurd ((hoff 18 (by kernel_rfl)).symm.trans h0_) (by decide)⟩
            refine steps_cons ?_ ?_
            · rintro b a w' ⟨v193, adz_v193, v206, adz_v206, m9_, m18_, ha, Q_HI182, Q_HB, Q_HI182_e1, Q_HI182_e3, Q_HI182_e5, Q_HO194, Q_HA_HO194, Q_HI182_e8, Q_HI182_e12, Q_HI182_e14, Q_HO207, Q_HA_HO207, Q_HI182_e17, Q_X9_, Q_X18_⟩ hb_ hon hoff
              refine ⟨_, rfl, fun K hK => ?_⟩
              have e12 : a.tmps[12]? = some (.pointer (some ⟨g182, 0, none⟩)) := by rw [ha]; exact (putSel_off rfl).trans rfl
              replace ha := Aside0.mk ha
              have HB := Aside0.mk Q_HB
              have HI182 := Aside0.mk (Q_HI182_e3 (hon 3 (by kernel_rfl)) hb_)
              refine goes_ Try.func77 (by kernel_rfl) rfl #[.pointer (some ⟨g182, 0, none⟩)] (by rfl) rfl rfl (by first | (simp only [List.map_toArray, List.map_cons, List.map_nil, Act.eval, Array.getD_eq_getD_getElem?, Option.getD_some, e12]; done) | (simp only [List.map_toArray, List.map_cons, List.map_nil, Act.eval, Array.getD_eq_getD_getElem?, Option.getD_some, e12]; rfl)) ?_
              with_reducible refine (spec_l01Cur_raw.calls g182 t179 t187 t188 t189 t190 t191 w _ ?side1 ?side2 A5.out).mono ?_
              (case side1 => repeat (first | (with_reducible first | exact HI182.out | apply IsS102.alloc | apply IsS102.drewN | apply IsS102.drew | apply IsS102.set_1 | apply IsS102.set_2) | exact HI182.out))
              (case side2 => repeat (first | (with_reducible first | exact HB.out | apply below_alloc | apply pw_below_drewN | apply below_drew1 | refine below_set ?_ (IsS102.ge HI182.out)) | exact HB.out))
              rintro e w19 ⟨rfl, hi, hb, hk⟩
              refine ⟨_, rfl, ?_⟩
              have n0_ := Aside0.mk (hb)
              have n1_ := Aside0.mk (hi)
              clear HB
              clear HI182
              have HB := n0_
              have HI182 := n1_
              clear n0_ n1_
              (try clear hb)
              (try clear hb2)
              (try clear hk)
              (try clear hi)
              refine hK.out _ _ ⟨v193, adz_v193, v206, adz_v206, m9_, m18_, (by rw [ha.out]; exact putSel_upk 2 hb_ rfl rfl rfl), fun h0_ => absurd ((hon 1 (by kernel_rfl)).symm.trans h0_) (by decide), (by repeat (first | (with_reducible first | exact HB.out | apply below_alloc | apply pw_below_drewN | apply below_drew1 | refine below_set ?_ (IsS102.ge HI182.out)) | exact HB.out)), fun _ h1_ => absurd ((hon 3 (by kernel_rfl)).symm.trans h1_) (by decide), fun _ h1_ => absurd ((up_self b 5).symm.trans h1_) (by decide), fun _ _ => (by repeat (first | (with_reducible first | exact HI182.out | apply IsS102.alloc | apply IsS102.drewN | apply IsS102.drew | apply IsS102.set_1 | apply IsS102.set_2) | exact HI182.out)), fun h0_ => absurd ((hoff 6 (by kernel_rfl)).symm.trans h0_) (by decide), fun h0_ => absurd ((hoff 6 (by kernel_rfl)).symm.trans h0_) (by decide), fun h0_ _ => absurd ((hoff 8 (by kernel_rfl)).symm.trans h0_) (by decide), fun h0_ _ => absurd ((hoff 12 (by kernel_rfl)).symm.trans h0_) (by decide), fun h0_ _ => absurd ((hoff 14 (by kernel_rfl)).symm.trans h0_) (by decide), fun h0_ => absurd ((hoff 15 (by kernel_rfl)).symm.trans h0_) (by decide), fun h0_ => absurd ((hoff 15 (by kernel_rfl)).symm.trans h0_) (by decide), fun h0_ => absurd ((hoff 17 (by kernel_rfl)).symm.trans h0_) (by decide), fun h0_ => absurd ((hoff 9 (by kernel_rfl)).symm.trans h0_) (by decide), fun h0_ => absurd ((hoff 18 (by kernel_rfl)).symm.trans h0_) (by decide)⟩
            refine steps_cons ?_ ?_
            · rintro b a w' ⟨v193, adz_v193, v206, adz_v206, m9_, m18_, ha, Q_HI182, Q_HB, Q_HI182_e1, Q_HI182_e3, Q_HI182_e5, Q_HO194, Q_HA_HO194, Q_HI182_e8, Q_HI182_e12, Q_HI182_e14, Q_HO207, Q_HA_HO207, Q_HI182_e17, Q_X9_, Q_X18_⟩ hb_ hon hoff
              refine ⟨_, rfl, fun K hK => ?_⟩
              have e11 : a.tmps[11]? = some (.int .i64 t186) := by rw [ha]; exact putSel_on (e := (3, 11, .int .i64 t186)) 1 rfl rfl (hon 3 (by kernel_rfl)) rfl
              have e13 : a.tmps[13]? = some (.int .i64 t189) := by rw [ha]; exact putSel_on (e := (5, 13, .int .i64 t189)) 2 rfl rfl (hon 5 (by kernel_rfl)) rfl
              replace ha := Aside0.mk ha
              have HB := Aside0.mk Q_HB
              refine Kd.R_lit_step (Kd.int .i64) _ 3 ?hg (N := 14) ?hd (xs := ([t186, 16, t189] : List Int)) (inner := [.int .i64 t186, .int .i64 16, .int .i64 t189]) (ok := fun _ => True) (okp := fun _ => True) ?hr ?hp (fun _ hk => hk) trivial (Below.refl _ _) (Nat.le_refl _) (by simp) ?_; (case hd => rfl); (case hg => rfl); (case hr => first | (go_simp; done) | (go_simp; rfl)); (case hp => exact (Reps.one (show Kd.M (Kd.int .i64) _ _ _ t186 [.int .i64 t186] from rfl) (Reps.one (show Kd.M (Kd.int .i64) _ _ _ 16 [.int .i64 16] from rfl) (Reps.one (show Kd.M (Kd.int .i64) _ _ _ t189 [.int .i64 t189] from rfl) (Reps.none _ _)))))
              intro v193 w20 ho21 hb hg_ hnew_
              clear hg_ hnew_
              (first | rw [← Ny192.out] at ho21 | (simp only [Int.reduceToNat] at ho21; rw [← Ny192.out] at ho21))
              have n0_ := Aside0.mk (Kd.R_lower ho21 (below_size (by repeat (first | (with_reducible first | exact HB.out | apply below_alloc | apply pw_below_drewN | apply below_drew1) | exact HB.out))))
              have n2_ := Aside0.mk (below_step (by repeat (first | (with_reducible first | exact HB.out | apply below_alloc | apply pw_below_drewN | apply below_drew1) | exact HB.out)) hb)
              have z_HI182_e5 := fun (h0_ : b 5 = true) (h1_ : b 8 = false) => (show IsS102 w w20 g182 t179 t190 t191 from by first | exact (IsS102.below (by repeat (first | (with_reducible first | exact (Q_HI182_e5 h0_ h1_) | apply IsS102.alloc | apply IsS102.drewN | apply IsS102.drew | apply IsS102.set_1 | apply IsS102.set_2) | exact (Q_HI182_e5 h0_ h1_))) hb))
              have z_HI182_e8 := fun (h0_ : b 8 = true) (h1_ : b 12 = false) => (show IsS102 w w20 g182 t179 t196 t197 from by first | exact (IsS102.below (by repeat (first | (with_reducible first | exact (Q_HI182_e8 h0_ h1_) | apply IsS102.alloc | apply IsS102.drewN | apply IsS102.drew | apply IsS102.set_1 | apply IsS102.set_2) | exact (Q_HI182_e8 h0_ h1_))) hb))
              have z_HI182_e12 := fun (h0_ : b 12 = true) (h1_ : b 14 = false) => (show IsS102 w w20 g182 t179 t200 t201 from by first | exact (IsS102.below (by repeat (first | (with_reducible first | exact (Q_HI182_e12 h0_ h1_) | apply IsS102.alloc | apply IsS102.drewN | apply IsS102.drew | apply IsS102.set_1 | apply IsS102.set_2) | exact (Q_HI182_e12 h0_ h1_))) hb))
              have z_HI182_e14 := fun (h0_ : b 14 = true) (h1_ : b 17 = false) => (show IsS102 w w20 g182 t179 t203 t204 from by first | exact (IsS102.below (by repeat (first | (with_reducible first | exact (Q_HI182_e14 h0_ h1_) | apply IsS102.alloc | apply IsS102.drewN | apply IsS102.drew | apply IsS102.set_1 | apply IsS102.set_2) | exact (Q_HI182_e14 h0_ h1_))) hb))
              have z_HO207 := fun (h0_ : b 15 = true) => (show Kd.R (Kd.int .i64) 3 w20 w.heap.size (fun _ => True) v206 y205 from by first | exact (Kd.R_elder' (by (with_reducible repeat (first | apply Kd.R_alloc | apply Kd.R_drewN | apply Kd.R_drew)); exact (Q_HO207 h0_)) (Kd.R_base ho21) hb) | exact Kd.R_mono (Kd.R_elder' (by (with_reducible repeat (first | apply Kd.R_alloc | apply Kd.R_drewN | apply Kd.R_drew)); exact (Q_HO207 h0_)) (Kd.R_base ho21) hb) (fun _ h_ => by first | trivial | exact h_ | exact h_.1))
              have z_HI182_e17 := fun (h0_ : b 17 = true) => (show IsS102 w w20 g182 t179 t209 t210 from by first | exact (IsS102.below (by repeat (first | (with_reducible first | exact (Q_HI182_e17 h0_) | apply IsS102.alloc | apply IsS102.drewN | apply IsS102.drew | apply IsS102.set_1 | apply IsS102.set_2) | exact (Q_HI182_e17 h0_))) hb))
              clear HB
              have HO194 := n0_
              have HB := n2_
              clear n0_ n2_
              clear hb ho21
              obtain ⟨Ao22, co22, eo22⟩ := Kd.R_slice HO194.out
              subst eo22
              obtain ⟨ado22, fo22, _⟩ := Kd.at_int (Kd.R_reads' HO194.out).2.2 0 (by decide) (by rw [Ny192.out]; simp)
              cases fo22
              refine hK.out _ _ ⟨.slice (some ado22) y192.length co22, ado22, v206, adz_v206, m9_, m18_, (by rw [ha.out]; exact putSel_upk 3 hb_ rfl rfl rfl), fun h0_ => absurd ((hon 1 (by kernel_rfl)).symm.trans h0_) (by decide), (by repeat (first | (with_reducible first | exact HB.out | apply below_alloc | apply pw_below_drewN | apply below_drew1) | exact HB.out)), fun _ h1_ => absurd ((hon 3 (by kernel_rfl)).symm.trans h1_) (by decide), fun _ h1_ => absurd ((hon 5 (by kernel_rfl)).symm.trans h1_) (by decide), z_HI182_e5, fun _ => (by (with_reducible repeat (first | apply Kd.R_alloc | apply Kd.R_drewN | apply Kd.R_drew)); exact HO194.out), fun _ => ⟨_, rfl⟩, z_HI182_e8, z_HI182_e12, z_HI182_e14, z_HO207, Q_HA_HO207, z_HI182_e17, fun h0_ => absurd ((hoff 9 (by kernel_rfl)).symm.trans h0_) (by decide), Q_X18_⟩
            refine steps_cons ?_ ?_
            · rintro b a w' ⟨v193, adz_v193, v206, adz_v206, m9_, m18_, ha, Q_HI182, Q_HB, Q_HI182_e1, Q_HI182_e3, Q_HI182_e5, Q_HO194, Q_HA_HO194, Q_HI182_e8, Q_HI182_e12, Q_HI182_e14, Q_HO207, Q_HA_HO207, Q_HI182_e17, Q_X9_, Q_X18_⟩ hb_ hon hoff
              refine ⟨_, rfl, fun K hK => ?_⟩
              have e15 : a.tmps[15]? = some (.pointer (some ⟨g182, 0, none⟩)) := by rw [ha]; exact (putSel_off rfl).trans rfl
              replace ha := Aside0.mk ha
              have HB := Aside0.mk Q_HB
              have HI182 := Aside0.mk (Q_HI182_e5 (hon 5 (by kernel_rfl)) hb_)
              refine goes_ Try.func75 (by kernel_rfl) rfl #[.pointer (some ⟨g182, 0, none⟩), .int .i64 3] (by rfl) rfl rfl (by first | (simp only [List.map_toArray, List.map_cons, List.map_nil, Act.eval, Array.getD_eq_getD_getElem?, Option.getD_some, e15]; done) | (simp only [List.map_toArray, List.map_cons, List.map_nil, Act.eval, Array.getD_eq_getD_getElem?, Option.getD_some, e15]; rfl)) ?_
              with_reducible refine (spec_l01Cur_pick.calls g182 t179 t190 t191 3 t195 t196 t197 w _ ?side1 ?side2 A6.out).mono ?_
              (case side1 => repeat (first | (with_reducible first | exact HI182.out | apply IsS102.alloc | apply IsS102.drewN | apply IsS102.drew | apply IsS102.set_1 | apply IsS102.set_2) | exact HI182.out))
              (case side2 => repeat (first | (with_reducible first | exact HB.out | apply below_alloc | apply pw_below_drewN | apply below_drew1 | refine below_set ?_ (IsS102.ge HI182.out)) | exact HB.out))
              rintro e w20 ⟨rfl, hi, hb, hk⟩
              refine ⟨_, rfl, ?_⟩
              have n0_ := Aside0.mk (hb)
              have n1_ := Aside0.mk (hi)
              have z_HO194 := fun (h0_ : b 6 = true) => (show Kd.R (Kd.int .i64) 3 w20 w.heap.size (fun _ => True) v193 y192 from by first | exact (Kd.R_mono (Kd.R_keep (IsS102.apart (show IsS102 w _ g182 t179 t190 t191 from by repeat (first | (with_reducible first | exact HI182.out | apply IsS102.alloc | apply IsS102.drewN | apply IsS102.drew | apply IsS102.set_1 | apply IsS102.set_2) | exact HI182.out)) (by (with_reducible repeat (first | apply Kd.R_alloc | apply Kd.R_drewN | apply Kd.R_drew)); exact (Q_HO194 h0_)) (by decide)) hk (fun _ h => h.2)) (fun _ h => h.1)) | exact Kd.R_mono (Kd.R_mono (Kd.R_keep (IsS102.apart (show IsS102 w _ g182 t179 t190 t191 from by repeat (first | (with_reducible first | exact HI182.out | apply IsS102.alloc | apply IsS102.drewN | apply IsS102.drew | apply IsS102.set_1 | apply IsS102.set_2) | exact HI182.out)) (by (with_reducible repeat (first | apply Kd.R_alloc | apply Kd.R_drewN | apply Kd.R_drew)); exact (Q_HO194 h0_)) (by decide)) hk (fun _ h => h.2)) (fun _ h => h.1)) (fun _ h_ => by first | trivial | exact h_ | exact h_.1))
              clear HB
              clear HI182
              have HB := n0_
              have HI182 := n1_
              clear n0_ n1_
              (try clear hb)
              (try clear hb2)
              (try clear hk)
              (try clear hi)
              refine hK.out _ _ ⟨v193, adz_v193, v206, adz_v206, m9_, m18_, (by rw [ha.out]; exact putSel_upk 4 hb_ rfl rfl rfl), fun h0_ => absurd ((hon 1 (by kernel_rfl)).symm.trans h0_) (by decide), (by repeat (first | (with_reducible first | exact HB.out | apply below_alloc | apply pw_below_drewN | apply below_drew1 | refine below_set ?_ (IsS102.ge HI182.out)) | exact HB.out)), fun _ h1_ => absurd ((hon 3 (by kernel_rfl)).symm.trans h1_) (by decide), fun _ h1_ => absurd ((hon 5 (by kernel_rfl)).symm.trans h1_) (by decide), fun _ h1_ => absurd ((up_self b 8).symm.trans h1_) (by decide), z_HO194, Q_HA_HO194, fun _ _ => (by repeat (first | (with_reducible first | exact HI182.out | apply IsS102.alloc | apply IsS102.drewN | apply IsS102.drew | apply IsS102.set_1 | apply IsS102.set_2) | exact HI182.out)), fun h0_ _ => absurd ((hoff 12 (by kernel_rfl)).symm.trans h0_) (by decide), fun h0_ _ => absurd ((hoff 14 (by kernel_rfl)).symm.trans h0_) (by decide), fun h0_ => absurd ((hoff 15 (by kernel_rfl)).symm.trans h0_) (by decide), fun h0_ => absurd ((hoff 15 (by kernel_rfl)).symm.trans h0_) (by decide), fun h0_ => absurd ((hoff 17 (by kernel_rfl)).symm.trans h0_) (by decide), fun h0_ => absurd ((hoff 9 (by kernel_rfl)).symm.trans h0_) (by decide), fun h0_ => absurd ((hoff 18 (by kernel_rfl)).symm.trans h0_) (by decide)⟩
            refine steps_cons ?_ ?_
            · rintro b a w' ⟨v193, adz_v193, v206, adz_v206, m9_, m18_, ha, Q_HI182, Q_HB, Q_HI182_e1, Q_HI182_e3, Q_HI182_e5, Q_HO194, Q_HA_HO194, Q_HI182_e8, Q_HI182_e12, Q_HI182_e14, Q_HO207, Q_HA_HO207, Q_HI182_e17, Q_X9_, Q_X18_⟩ hb_ hon hoff
              refine ⟨_, rfl, fun K hK => ?_⟩
              have e14 : a.tmps[14]? = some (v193) := by rw [ha]; exact putSel_on (e := (6, 14, v193)) 3 rfl rfl (hon 6 (by kernel_rfl)) rfl
              have e16 : a.tmps[16]? = some (.int .i64 t195) := by rw [ha]; exact putSel_on (e := (8, 16, .int .i64 t195)) 4 rfl rfl (hon 8 (by kernel_rfl)) rfl
              replace ha := Aside0.mk ha
              have HB := Aside0.mk Q_HB
              have HO194 := Aside0.mk (Q_HO194 (hon 6 (by kernel_rfl)))
              have HA_HO194 := Aside0.mk (Q_HA_HO194 (hon 6 (by kernel_rfl)))
              obtain ⟨c_, hv_⟩ := HA_HO194.out
              rw [hv_] at e14
              refine value_ (w1 := w') (v := .pointer (some (adz_v193.add (t195).toNat))) (by rfl) rfl ?_ ?_
              · go_simp
                (try simp only [i64_w])
                try rfl
              refine hK.out _ _ ⟨v193, adz_v193, v206, adz_v206, (.pointer (some (adz_v193.add (t195).toNat))), m18_, (by rw [ha.out]; exact putSel_upk 5 hb_ rfl rfl rfl), fun h0_ => absurd ((hon 1 (by kernel_rfl)).symm.trans h0_) (by decide), Q_HB, fun _ h1_ => absurd ((hon 3 (by kernel_rfl)).symm.trans h1_) (by decide), fun _ h1_ => absurd ((hon 5 (by kernel_rfl)).symm.trans h1_) (by decide), fun _ h1_ => absurd ((hon 8 (by kernel_rfl)).symm.trans h1_) (by decide), Q_HO194, Q_HA_HO194, Q_HI182_e8, Q_HI182_e12, Q_HI182_e14, Q_HO207, Q_HA_HO207, Q_HI182_e17, fun _ => rfl, Q_X18_⟩
            refine steps_cons ?_ ?_
            · rintro b a w' ⟨v193, adz_v193, v206, adz_v206, m9_, m18_, ha, Q_HI182, Q_HB, Q_HI182_e1, Q_HI182_e3, Q_HI182_e5, Q_HO194, Q_HA_HO194, Q_HI182_e8, Q_HI182_e12, Q_HI182_e14, Q_HO207, Q_HA_HO207, Q_HI182_e17, Q_X9_, Q_X18_⟩ hb_ hon hoff
              refine ⟨_, rfl, fun K hK => ?_⟩
              have e17 : a.tmps[17]? = some (m9_) := by rw [ha]; exact putSel_on (e := (9, 17, m9_)) 5 rfl rfl (hon 9 (by kernel_rfl)) rfl
              rw [Q_X9_ (hon 9 (by kernel_rfl))] at e17
              replace ha := Aside0.mk ha
              have HB := Aside0.mk Q_HB
              have HO194 := Aside0.mk (Q_HO194 (hon 6 (by kernel_rfl)))
              have HA_HO194 := Aside0.mk (Q_HA_HO194 (hon 6 (by kernel_rfl)))
              obtain ⟨c_, hv_⟩ := HA_HO194.out
              have hF_ := HO194.out
              rw [hv_] at hF_
              obtain ⟨ad_, ea_, hx_⟩ := Kd.at_int (Kd.R_reads' hF_).2.2 t195 (of_eq_true pi198) (of_eq_true qi198)
              cases ea_
              refine value_ (w1 := w') (v := .int .i64 (rd y192 t195)) (by rfl) rfl ?_ ?_
              · go_simp
                (try simp only [i64_w])
                try rfl
              refine hK.out _ _ ⟨v193, adz_v193, v206, adz_v206, m9_, m18_, (by rw [ha.out]; exact putSel_upk 6 hb_ rfl rfl rfl), fun h0_ => absurd ((hon 1 (by kernel_rfl)).symm.trans h0_) (by decide), Q_HB, fun _ h1_ => absurd ((hon 3 (by kernel_rfl)).symm.trans h1_) (by decide), fun _ h1_ => absurd ((hon 5 (by kernel_rfl)).symm.trans h1_) (by decide), fun _ h1_ => absurd ((hon 8 (by kernel_rfl)).symm.trans h1_) (by decide), Q_HO194, Q_HA_HO194, Q_HI182_e8, Q_HI182_e12, Q_HI182_e14, Q_HO207, Q_HA_HO207, Q_HI182_e17, Q_X9_, Q_X18_⟩
            refine steps_cons ?_ ?_
            · rintro b a w' ⟨v193, adz_v193, v206, adz_v206, m9_, m18_, ha, Q_HI182, Q_HB, Q_HI182_e1, Q_HI182_e3, Q_HI182_e5, Q_HO194, Q_HA_HO194, Q_HI182_e8, Q_HI182_e12, Q_HI182_e14, Q_HO207, Q_HA_HO207, Q_HI182_e17, Q_X9_, Q_X18_⟩ hb_ hon hoff
              refine ⟨_, rfl, fun K hK => ?_⟩
              have e19 : a.tmps[19]? = some (.pointer (some ⟨g182, 0, none⟩)) := by rw [ha]; exact (putSel_off rfl).trans rfl
              replace ha := Aside0.mk ha
              have HB := Aside0.mk Q_HB
              have HI182 := Aside0.mk (Q_HI182_e8 (hon 8 (by kernel_rfl)) hb_)
              refine goes_ Try.func75 (by kernel_rfl) rfl #[.pointer (some ⟨g182, 0, none⟩), .int .i64 9] (by rfl) rfl rfl (by first | (simp only [List.map_toArray, List.map_cons, List.map_nil, Act.eval, Array.getD_eq_getD_getElem?, Option.getD_some, e19]; done) | (simp only [List.map_toArray, List.map_cons, List.map_nil, Act.eval, Array.getD_eq_getD_getElem?, Option.getD_some, e19]; rfl)) ?_
              with_reducible refine (spec_l01Cur_pick.calls g182 t179 t196 t197 9 t199 t200 t201 w _ ?side1 ?side2 A9.out).mono ?_
              (case side1 => repeat (first | (with_reducible first | exact HI182.out | apply IsS102.alloc | apply IsS102.drewN | apply IsS102.drew | apply IsS102.set_1 | apply IsS102.set_2) | exact HI182.out))
              (case side2 => repeat (first | (with_reducible first | exact HB.out | apply below_alloc | apply pw_below_drewN | apply below_drew1 | refine below_set ?_ (IsS102.ge HI182.out)) | exact HB.out))
              rintro e w21 ⟨rfl, hi, hb, hk⟩
              refine ⟨_, rfl, ?_⟩
              have n0_ := Aside0.mk (hb)
              have n1_ := Aside0.mk (hi)
              have z_HO194 := fun (h0_ : b 6 = true) => (show Kd.R (Kd.int .i64) 3 w21 w.heap.size (fun _ => True) v193 y192 from by first | exact (Kd.R_mono (Kd.R_keep (IsS102.apart (show IsS102 w _ g182 t179 t196 t197 from by repeat (first | (with_reducible first | exact HI182.out | apply IsS102.alloc | apply IsS102.drewN | apply IsS102.drew | apply IsS102.set_1 | apply IsS102.set_2) | exact HI182.out)) (by (with_reducible repeat (first | apply Kd.R_alloc | apply Kd.R_drewN | apply Kd.R_drew)); exact (Q_HO194 h0_)) (by decide)) hk (fun _ h => h.2)) (fun _ h => h.1)) | exact Kd.R_mono (Kd.R_mono (Kd.R_keep (IsS102.apart (show IsS102 w _ g182 t179 t196 t197 from by repeat (first | (with_reducible first | exact HI182.out | apply IsS102.alloc | apply IsS102.drewN | apply IsS102.drew | apply IsS102.set_1 | apply IsS102.set_2) | exact HI182.out)) (by (with_reducible repeat (first | apply Kd.R_alloc | apply Kd.R_drewN | apply Kd.R_drew)); exact (Q_HO194 h0_)) (by decide)) hk (fun _ h => h.2)) (fun _ h => h.1)) (fun _ h_ => by first | trivial | exact h_ | exact h_.1))
              clear HB
              clear HI182
              have HB := n0_
              have HI182 := n1_
              clear n0_ n1_
              (try clear hb)
              (try clear hb2)
              (try clear hk)
              (try clear hi)
              refine hK.out _ _ ⟨v193, adz_v193, v206, adz_v206, m9_, m18_, (by rw [ha.out]; exact putSel_upk 7 hb_ rfl rfl rfl), fun h0_ => absurd ((hon 1 (by kernel_rfl)).symm.trans h0_) (by decide), (by repeat (first | (with_reducible first | exact HB.out | apply below_alloc | apply pw_below_drewN | apply below_drew1 | refine below_set ?_ (IsS102.ge HI182.out)) | exact HB.out)), fun _ h1_ => absurd ((hon 3 (by kernel_rfl)).symm.trans h1_) (by decide), fun _ h1_ => absurd ((hon 5 (by kernel_rfl)).symm.trans h1_) (by decide), fun _ h1_ => absurd ((hon 8 (by kernel_rfl)).symm.trans h1_) (by decide), z_HO194, Q_HA_HO194, fun _ h1_ => absurd ((up_self b 12).symm.trans h1_) (by decide), fun _ _ => (by repeat (first | (with_reducible first | exact HI182.out | apply IsS102.alloc | apply IsS102.drewN | apply IsS102.drew | apply IsS102.set_1 | apply IsS102.set_2) | exact HI182.out)), fun h0_ _ => absurd ((hoff 14 (by kernel_rfl)).symm.trans h0_) (by decide), fun h0_ => absurd ((hoff 15 (by kernel_rfl)).symm.trans h0_) (by decide), fun h0_ => absurd ((hoff 15 (by kernel_rfl)).symm.trans h0_) (by decide), fun h0_ => absurd ((hoff 17 (by kernel_rfl)).symm.trans h0_) (by decide), Q_X9_, fun h0_ => absurd ((hoff 18 (by kernel_rfl)).symm.trans h0_) (by decide)⟩
            refine steps_cons ?_ ?_
            · rintro b a w' ⟨v193, adz_v193, v206, adz_v206, m9_, m18_, ha, Q_HI182, Q_HB, Q_HI182_e1, Q_HI182_e3, Q_HI182_e5, Q_HO194, Q_HA_HO194, Q_HI182_e8, Q_HI182_e12, Q_HI182_e14, Q_HO207, Q_HA_HO207, Q_HI182_e17, Q_X9_, Q_X18_⟩ hb_ hon hoff
              refine ⟨_, rfl, fun K hK => ?_⟩
              have e21 : a.tmps[21]? = some (.pointer (some ⟨g182, 0, none⟩)) := by rw [ha]; exact (putSel_off rfl).trans rfl
              replace ha := Aside0.mk ha
              have HB := Aside0.mk Q_HB
              have HI182 := Aside0.mk (Q_HI182_e12 (hon 12 (by kernel_rfl)) hb_)
              refine goes_ Try.func77 (by kernel_rfl) rfl #[.pointer (some ⟨g182, 0, none⟩)] (by rfl) rfl rfl (by first | (simp only [List.map_toArray, List.map_cons, List.map_nil, Act.eval, Array.getD_eq_getD_getElem?, Option.getD_some, e21]; done) | (simp only [List.map_toArray, List.map_cons, List.map_nil, Act.eval, Array.getD_eq_getD_getElem?, Option.getD_some, e21]; rfl)) ?_
              with_reducible refine (spec_l01Cur_raw.calls g182 t179 t200 t201 t202 t203 t204 w _ ?side1 ?side2 A10.out).mono ?_
              (case side1 => repeat (first | (with_reducible first | exact HI182.out | apply IsS102.alloc | apply IsS102.drewN | apply IsS102.drew | apply IsS102.set_1 | apply IsS102.set_2) | exact HI182.out))
              (case side2 => repeat (first | (with_reducible first | exact HB.out | apply below_alloc | apply pw_below_drewN | apply below_drew1 | refine below_set ?_ (IsS102.ge HI182.out)) | exact HB.out))
              rintro e w22 ⟨rfl, hi, hb, hk⟩
              refine ⟨_, rfl, ?_⟩
              have n0_ := Aside0.mk (hb)
              have n1_ := Aside0.mk (hi)
              have z_HO194 := fun (h0_ : b 6 = true) => (show Kd.R (Kd.int .i64) 3 w22 w.heap.size (fun _ => True) v193 y192 from by first | exact (Kd.R_mono (Kd.R_keep (IsS102.apart (show IsS102 w _ g182 t179 t200 t201 from by repeat (first | (with_reducible first | exact HI182.out | apply IsS102.alloc | apply IsS102.drewN | apply IsS102.drew | apply IsS102.set_1 | apply IsS102.set_2) | exact HI182.out)) (by (with_reducible repeat (first | apply Kd.R_alloc | apply Kd.R_drewN | apply Kd.R_drew)); exact (Q_HO194 h0_)) (by decide)) hk (fun _ h => h.2)) (fun _ h => h.1)) | exact Kd.R_mono (Kd.R_mono (Kd.R_keep (IsS102.apart (show IsS102 w _ g182 t179 t200 t201 from by repeat (first | (with_reducible first | exact HI182.out | apply IsS102.alloc | apply IsS102.drewN | apply IsS102.drew | apply IsS102.set_1 | apply IsS102.set_2) | exact HI182.out)) (by (with_reducible repeat (first | apply Kd.R_alloc | apply Kd.R_drewN | apply Kd.R_drew)); exact (Q_HO194 h0_)) (by decide)) hk (fun _ h => h.2)) (fun _ h => h.1)) (fun _ h_ => by first | trivial | exact h_ | exact h_.1))
              clear HB
              clear HI182
              have HB := n0_
              have HI182 := n1_
              clear n0_ n1_
              (try clear hb)
              (try clear hb2)
              (try clear hk)
              (try clear hi)
              refine hK.out _ _ ⟨v193, adz_v193, v206, adz_v206, m9_, m18_, (by rw [ha.out]; exact putSel_upk 8 hb_ rfl rfl rfl), fun h0_ => absurd ((hon 1 (by kernel_rfl)).symm.trans h0_) (by decide), (by repeat (first | (with_reducible first | exact HB.out | apply below_alloc | apply pw_below_drewN | apply below_drew1 | refine below_set ?_ (IsS102.ge HI182.out)) | exact HB.out)), fun _ h1_ => absurd ((hon 3 (by kernel_rfl)).symm.trans h1_) (by decide), fun _ h1_ => absurd ((hon 5 (by kernel_rfl)).symm.trans h1_) (by decide), fun _ h1_ => absurd ((hon 8 (by kernel_rfl)).symm.trans h1_) (by decide), z_HO194, Q_HA_HO194, fun _ h1_ => absurd ((hon 12 (by kernel_rfl)).symm.trans h1_) (by decide), fun _ h1_ => absurd ((up_self b 14).symm.trans h1_) (by decide), fun _ _ => (by repeat (first | (with_reducible first | exact HI182.out | apply IsS102.alloc | apply IsS102.drewN | apply IsS102.drew | apply IsS102.set_1 | apply IsS102.set_2) | exact HI182.out)), fun h0_ => absurd ((hoff 15 (by kernel_rfl)).symm.trans h0_) (by decide), fun h0_ => absurd ((hoff 15 (by kernel_rfl)).symm.trans h0_) (by decide), fun h0_ => absurd ((hoff 17 (by kernel_rfl)).symm.trans h0_) (by decide), Q_X9_, fun h0_ => absurd ((hoff 18 (by kernel_rfl)).symm.trans h0_) (by decide)⟩
            refine steps_cons ?_ ?_
            · rintro b a w' ⟨v193, adz_v193, v206, adz_v206, m9_, m18_, ha, Q_HI182, Q_HB, Q_HI182_e1, Q_HI182_e3, Q_HI182_e5, Q_HO194, Q_HA_HO194, Q_HI182_e8, Q_HI182_e12, Q_HI182_e14, Q_HO207, Q_HA_HO207, Q_HI182_e17, Q_X9_, Q_X18_⟩ hb_ hon hoff
              refine ⟨_, rfl, fun K hK => ?_⟩
              have e20 : a.tmps[20]? = some (.int .i64 t199) := by rw [ha]; exact putSel_on (e := (12, 20, .int .i64 t199)) 7 rfl rfl (hon 12 (by kernel_rfl)) rfl
              have e22 : a.tmps[22]? = some (.int .i64 t202) := by rw [ha]; exact putSel_on (e := (14, 22, .int .i64 t202)) 8 rfl rfl (hon 14 (by kernel_rfl)) rfl
              replace ha := Aside0.mk ha
              have HB := Aside0.mk Q_HB
              refine Kd.R_lit_step (Kd.int .i64) _ 3 ?hg (N := 23) ?hd (xs := ([t199, t202] : List Int)) (inner := [.int .i64 t199, .int .i64 t202]) (ok := fun _ => True) (okp := fun _ => True) ?hr ?hp (fun _ hk => hk) trivial (Below.refl _ _) (Nat.le_refl _) (by simp) ?_; (case hd => rfl); (case hg => rfl); (case hr => first | (go_simp; done) | (go_simp; rfl)); (case hp => exact (Reps.one (show Kd.M (Kd.int .i64) _ _ _ t199 [.int .i64 t199] from rfl) (Reps.one (show Kd.M (Kd.int .i64) _ _ _ t202 [.int .i64 t202] from rfl) (Reps.none _ _))))
              intro v206 w23 ho24 hb hg_ hnew_
              clear hg_ hnew_
              (first | rw [← Ny205.out] at ho24 | (simp only [Int.reduceToNat] at ho24; rw [← Ny205.out] at ho24))
              have n0_ := Aside0.mk (Kd.R_lower ho24 (below_size (by repeat (first | (with_reducible first | exact HB.out | apply below_alloc | apply pw_below_drewN | apply below_drew1) | exact HB.out))))
              have n2_ := Aside0.mk (below_step (by repeat (first | (with_reducible first | exact HB.out | apply below_alloc | apply pw_below_drewN | apply below_drew1) | exact HB.out)) hb)
              have z_HO194 := fun (h0_ : b 6 = true) => (show Kd.R (Kd.int .i64) 3 w23 w.heap.size (fun _ => True) v193 y192 from by first | exact (Kd.R_elder' (by (with_reducible repeat (first | apply Kd.R_alloc | apply Kd.R_drewN | apply Kd.R_drew)); exact (Q_HO194 h0_)) (Kd.R_base ho24) hb) | exact Kd.R_mono (Kd.R_elder' (by (with_reducible repeat (first | apply Kd.R_alloc | apply Kd.R_drewN | apply Kd.R_drew)); exact (Q_HO194 h0_)) (Kd.R_base ho24) hb) (fun _ h_ => by first | trivial | exact h_ | exact h_.1))
              have z_HI182_e14 := fun (h0_ : b 14 = true) (h1_ : b 17 = false) => (show IsS102 w w23 g182 t179 t203 t204 from by first | exact (IsS102.below (by repeat (first | (with_reducible first | exact (Q_HI182_e14 h0_ h1_) | apply IsS102.alloc | apply IsS102.drewN | apply IsS102.drew | apply IsS102.set_1 | apply IsS102.set_2) | exact (Q_HI182_e14 h0_ h1_))) hb))
              have z_HI182_e17 := fun (h0_ : b 17 = true) => (show IsS102 w w23 g182 t179 t209 t210 from by first | exact (IsS102.below (by repeat (first | (with_reducible first | exact (Q_HI182_e17 h0_) | apply IsS102.alloc | apply IsS102.drewN | apply IsS102.drew | apply IsS102.set_1 | apply IsS102.set_2) | exact (Q_HI182_e17 h0_))) hb))
              clear HB
              have HO207 := n0_
              have HB := n2_
              clear n0_ n2_
              clear hb ho24
              obtain ⟨Ao25, co25, eo25⟩ := Kd.R_slice HO207.out
              subst eo25
              obtain ⟨ado25, fo25, _⟩ := Kd.at_int (Kd.R_reads' HO207.out).2.2 0 (by decide) (by rw [Ny205.out]; simp)
              cases fo25
              refine hK.out _ _ ⟨v193, adz_v193, .slice (some ado25) y205.length co25, ado25, m9_, m18_, (by rw [ha.out]; exact putSel_upk 9 hb_ rfl rfl rfl), fun h0_ => absurd ((hon 1 (by kernel_rfl)).symm.trans h0_) (by decide), (by repeat (first | (with_reducible first | exact HB.out | apply below_alloc | apply pw_below_drewN | apply below_drew1) | exact HB.out)), fun _ h1_ => absurd ((hon 3 (by kernel_rfl)).symm.trans h1_) (by decide), fun _ h1_ => absurd ((hon 5 (by kernel_rfl)).symm.trans h1_) (by decide), fun _ h1_ => absurd ((hon 8 (by kernel_rfl)).symm.trans h1_) (by decide), z_HO194, Q_HA_HO194, fun _ h1_ => absurd ((hon 12 (by kernel_rfl)).symm.trans h1_) (by decide), fun _ h1_ => absurd ((hon 14 (by kernel_rfl)).symm.trans h1_) (by decide), z_HI182_e14, fun _ => (by (with_reducible repeat (first | apply Kd.R_alloc | apply Kd.R_drewN | apply Kd.R_drew)); exact HO207.out), fun _ => ⟨_, rfl⟩, z_HI182_e17, Q_X9_, fun h0_ => absurd ((hoff 18 (by kernel_rfl)).symm.trans h0_) (by decide)⟩
            refine steps_cons ?_ ?_
            · rintro b a w' ⟨v193, adz_v193, v206, adz_v206, m9_, m18_, ha, Q_HI182, Q_HB, Q_HI182_e1, Q_HI182_e3, Q_HI182_e5, Q_HO194, Q_HA_HO194, Q_HI182_e8, Q_HI182_e12, Q_HI182_e14, Q_HO207, Q_HA_HO207, Q_HI182_e17, Q_X9_, Q_X18_⟩ hb_ hon hoff
              refine ⟨_, rfl, fun K hK => ?_⟩
              have e24 : a.tmps[24]? = some (.pointer (some ⟨g182, 0, none⟩)) := by rw [ha]; exact (putSel_off rfl).trans rfl
              replace ha := Aside0.mk ha
              have HB := Aside0.mk Q_HB
              have HI182 := Aside0.mk (Q_HI182_e14 (hon 14 (by kernel_rfl)) hb_)
              refine goes_ Try.func75 (by kernel_rfl) rfl #[.pointer (some ⟨g182, 0, none⟩), .int .i64 2] (by rfl) rfl rfl (by first | (simp only [List.map_toArray, List.map_cons, List.map_nil, Act.eval, Array.getD_eq_getD_getElem?, Option.getD_some, e24]; done) | (simp only [List.map_toArray, List.map_cons, List.map_nil, Act.eval, Array.getD_eq_getD_getElem?, Option.getD_some, e24]; rfl)) ?_
              with_reducible refine (spec_l01Cur_pick.calls g182 t179 t203 t204 2 t208 t209 t210 w _ ?side1 ?side2 A11.out).mono ?_
              (case side1 => repeat (first | (with_reducible first | exact HI182.out | apply IsS102.alloc | apply IsS102.drewN | apply IsS102.drew | apply IsS102.set_1 | apply IsS102.set_2) | exact HI182.out))
              (case side2 => repeat (first | (with_reducible first | exact HB.out | apply below_alloc | apply pw_below_drewN | apply below_drew1 | refine below_set ?_ (IsS102.ge HI182.out)) | exact HB.out))
              rintro e w23 ⟨rfl, hi, hb, hk⟩
              refine ⟨_, rfl, ?_⟩
              have n0_ := Aside0.mk (hb)
              have n1_ := Aside0.mk (hi)
              have z_HO194 := fun (h0_ : b 6 = true) => (show Kd.R (Kd.int .i64) 3 w23 w.heap.size (fun _ => True) v193 y192 from by first | exact (Kd.R_mono (Kd.R_keep (IsS102.apart (show IsS102 w _ g182 t179 t203 t204 from by repeat (first | (with_reducible first | exact HI182.out | apply IsS102.alloc | apply IsS102.drewN | apply IsS102.drew | apply IsS102.set_1 | apply IsS102.set_2) | exact HI182.out)) (by (with_reducible repeat (first | apply Kd.R_alloc | apply Kd.R_drewN | apply Kd.R_drew)); exact (Q_HO194 h0_)) (by decide)) hk (fun _ h => h.2)) (fun _ h => h.1)) | exact Kd.R_mono (Kd.R_mono (Kd.R_keep (IsS102.apart (show IsS102 w _ g182 t179 t203 t204 from by repeat (first | (with_reducible first | exact HI182.out | apply IsS102.alloc | apply IsS102.drewN | apply IsS102.drew | apply IsS102.set_1 | apply IsS102.set_2) | exact HI182.out)) (by (with_reducible repeat (first | apply Kd.R_alloc | apply Kd.R_drewN | apply Kd.R_drew)); exact (Q_HO194 h0_)) (by decide)) hk (fun _ h => h.2)) (fun _ h => h.1)) (fun _ h_ => by first | trivial | exact h_ | exact h_.1))
              have z_HO207 := fun (h0_ : b 15 = true) => (show Kd.R (Kd.int .i64) 3 w23 w.heap.size (fun _ => True) v206 y205 from by first | exact (Kd.R_mono (Kd.R_keep (IsS102.apart (show IsS102 w _ g182 t179 t203 t204 from by repeat (first | (with_reducible first | exact HI182.out | apply IsS102.alloc | apply IsS102.drewN | apply IsS102.drew | apply IsS102.set_1 | apply IsS102.set_2) | exact HI182.out)) (by (with_reducible repeat (first | apply Kd.R_alloc | apply Kd.R_drewN | apply Kd.R_drew)); exact (Q_HO207 h0_)) (by decide)) hk (fun _ h => h.2)) (fun _ h => h.1)) | exact Kd.R_mono (Kd.R_mono (Kd.R_keep (IsS102.apart (show IsS102 w _ g182 t179 t203 t204 from by repeat (first | (with_reducible first | exact HI182.out | apply IsS102.alloc | apply IsS102.drewN | apply IsS102.drew | apply IsS102.set_1 | apply IsS102.set_2) | exact HI182.out)) (by (with_reducible repeat (first | apply Kd.R_alloc | apply Kd.R_drewN | apply Kd.R_drew)); exact (Q_HO207 h0_)) (by decide)) hk (fun _ h => h.2)) (fun _ h => h.1)) (fun _ h_ => by first | trivial | exact h_ | exact h_.1))
              clear HB
              clear HI182
              have HB := n0_
              have HI182 := n1_
              clear n0_ n1_
              (try clear hb)
              (try clear hb2)
              (try clear hk)
              (try clear hi)
              refine hK.out _ _ ⟨v193, adz_v193, v206, adz_v206, m9_, m18_, (by rw [ha.out]; exact putSel_upk 10 hb_ rfl rfl rfl), fun h0_ => absurd ((hon 1 (by kernel_rfl)).symm.trans h0_) (by decide), (by repeat (first | (with_reducible first | exact HB.out | apply below_alloc | apply pw_below_drewN | apply below_drew1 | refine below_set ?_ (IsS102.ge HI182.out)) | exact HB.out)), fun _ h1_ => absurd ((hon 3 (by kernel_rfl)).symm.trans h1_) (by decide), fun _ h1_ => absurd ((hon 5 (by kernel_rfl)).symm.trans h1_) (by decide), fun _ h1_ => absurd ((hon 8 (by kernel_rfl)).symm.trans h1_) (by decide), z_HO194, Q_HA_HO194, fun _ h1_ => absurd ((hon 12 (by kernel_rfl)).symm.trans h1_) (by decide), fun _ h1_ => absurd ((hon 14 (by kernel_rfl)).symm.trans h1_) (by decide), fun _ h1_ => absurd ((up_self b 17).symm.trans h1_) (by decide), z_HO207, Q_HA_HO207, fun _ => (by repeat (first | (with_reducible first | exact HI182.out | apply IsS102.alloc | apply IsS102.drewN | apply IsS102.drew | apply IsS102.set_1 | apply IsS102.set_2) | exact HI182.out)), Q_X9_, fun h0_ => absurd ((hoff 18 (by kernel_rfl)).symm.trans h0_) (by decide)⟩
            refine steps_cons ?_ ?_
            · rintro b a w' ⟨v193, adz_v193, v206, adz_v206, m9_, m18_, ha, Q_HI182, Q_HB, Q_HI182_e1, Q_HI182_e3, Q_HI182_e5, Q_HO194, Q_HA_HO194, Q_HI182_e8, Q_HI182_e12, Q_HI182_e14, Q_HO207, Q_HA_HO207, Q_HI182_e17, Q_X9_, Q_X18_⟩ hb_ hon hoff
              refine ⟨_, rfl, fun K hK => ?_⟩
              have e23 : a.tmps[23]? = some (v206) := by rw [ha]; exact putSel_on (e := (15, 23, v206)) 9 rfl rfl (hon 15 (by kernel_rfl)) rfl
              have e25 : a.tmps[25]? = some (.int .i64 t208) := by rw [ha]; exact putSel_on (e := (17, 25, .int .i64 t208)) 10 rfl rfl (hon 17 (by kernel_rfl)) rfl
              replace ha := Aside0.mk ha
              have HB := Aside0.mk Q_HB
              have HO207 := Aside0.mk (Q_HO207 (hon 15 (by kernel_rfl)))
              have HA_HO207 := Aside0.mk (Q_HA_HO207 (hon 15 (by kernel_rfl)))
              have HI182 := Aside0.mk (Q_HI182_e17 (hon 17 (by kernel_rfl)))
              obtain ⟨c_, hv_⟩ := HA_HO207.out
              rw [hv_] at e23
              refine value_ (w1 := w') (v := .pointer (some (adz_v206.add (t208).toNat))) (by rfl) rfl ?_ ?_
              · go_simp
                (try simp only [i64_w])
                try rfl
              refine hK.out _ _ ⟨v193, adz_v193, v206, adz_v206, m9_, (.pointer (some (adz_v206.add (t208).toNat))), (by rw [ha.out]; exact putSel_upk 11 hb_ rfl rfl rfl), fun h0_ => absurd ((hon 1 (by kernel_rfl)).symm.trans h0_) (by decide), Q_HB, fun _ h1_ => absurd ((hon 3 (by kernel_rfl)).symm.trans h1_) (by decide), fun _ h1_ => absurd ((hon 5 (by kernel_rfl)).symm.trans h1_) (by decide), fun _ h1_ => absurd ((hon 8 (by kernel_rfl)).symm.trans h1_) (by decide), Q_HO194, Q_HA_HO194, fun _ h1_ => absurd ((hon 12 (by kernel_rfl)).symm.trans h1_) (by decide), fun _ h1_ => absurd ((hon 14 (by kernel_rfl)).symm.trans h1_) (by decide), fun _ h1_ => absurd ((hon 17 (by kernel_rfl)).symm.trans h1_) (by decide), Q_HO207, Q_HA_HO207, Q_HI182_e17, Q_X9_, fun _ => rfl⟩
            refine steps_cons ?_ ?_
            · rintro b a w' ⟨v193, adz_v193, v206, adz_v206, m9_, m18_, ha, Q_HI182, Q_HB, Q_HI182_e1, Q_HI182_e3, Q_HI182_e5, Q_HO194, Q_HA_HO194, Q_HI182_e8, Q_HI182_e12, Q_HI182_e14, Q_HO207, Q_HA_HO207, Q_HI182_e17, Q_X9_, Q_X18_⟩ hb_ hon hoff
              refine ⟨_, rfl, fun K hK => ?_⟩
              have e26 : a.tmps[26]? = some (m18_) := by rw [ha]; exact putSel_on (e := (18, 26, m18_)) 11 rfl rfl (hon 18 (by kernel_rfl)) rfl
              rw [Q_X18_ (hon 18 (by kernel_rfl))] at e26
              replace ha := Aside0.mk ha
              have HB := Aside0.mk Q_HB
              have HO207 := Aside0.mk (Q_HO207 (hon 15 (by kernel_rfl)))
              have HA_HO207 := Aside0.mk (Q_HA_HO207 (hon 15 (by kernel_rfl)))
              have HI182 := Aside0.mk (Q_HI182_e17 (hon 17 (by kernel_rfl)))
              obtain ⟨c_, hv_⟩ := HA_HO207.out
              have hF_ := HO207.out
              rw [hv_] at hF_
              obtain ⟨ad_, ea_, hx_⟩ := Kd.at_int (Kd.R_reads' hF_).2.2 t208 (of_eq_true pi211) (of_eq_true qi211)
              cases ea_
              refine value_ (w1 := w') (v := .int .i64 (rd y205 t208)) (by rfl) rfl ?_ ?_
              · go_simp
                (try simp only [i64_w])
                try rfl
              refine hK.out _ _ ⟨v193, adz_v193, v206, adz_v206, m9_, m18_, (by rw [ha.out]; exact putSel_upk 12 hb_ rfl rfl rfl), fun h0_ => absurd ((hon 1 (by kernel_rfl)).symm.trans h0_) (by decide), Q_HB, fun _ h1_ => absurd ((hon 3 (by kernel_rfl)).symm.trans h1_) (by decide), fun _ h1_ => absurd ((hon 5 (by kernel_rfl)).symm.trans h1_) (by decide), fun _ h1_ => absurd ((hon 8 (by kernel_rfl)).symm.trans h1_) (by decide), Q_HO194, Q_HA_HO194, fun _ h1_ => absurd ((hon 12 (by kernel_rfl)).symm.trans h1_) (by decide), fun _ h1_ => absurd ((hon 14 (by kernel_rfl)).symm.trans h1_) (by decide), fun _ h1_ => absurd ((hon 17 (by kernel_rfl)).symm.trans h1_) (by decide), Q_HO207, Q_HA_HO207, Q_HI182_e17, Q_X9_, Q_X18_⟩
            refine steps_cons ?_ ?_
            · rintro b a w' ⟨v193, adz_v193, v206, adz_v206, m9_, m18_, ha, Q_HI182, Q_HB, Q_HI182_e1, Q_HI182_e3, Q_HI182_e5, Q_HO194, Q_HA_HO194, Q_HI182_e8, Q_HI182_e12, Q_HI182_e14, Q_HO207, Q_HA_HO207, Q_HI182_e17, Q_X9_, Q_X18_⟩ hb_ hon hoff
              refine ⟨_, rfl, fun K hK => ?_⟩
              have e9 : a.tmps[9]? = some (.int .u32 t183) := by rw [ha]; exact putSel_on (e := (1, 9, .int .u32 t183)) 0 rfl rfl (hon 1 (by kernel_rfl)) rfl
              replace ha := Aside0.mk ha
              have HB := Aside0.mk Q_HB
              have HI182 := Aside0.mk (Q_HI182_e17 (hon 17 (by kernel_rfl)))
              refine value_ (w1 := w') (v := .int .u32 t183) (by rfl) rfl ?_ ?_
              · go_simp
                (try simp only [i64_w])
                try rfl
              refine hK.out _ _ ⟨v193, adz_v193, v206, adz_v206, m9_, m18_, (by rw [ha.out]; exact putSel_upk 13 hb_ rfl rfl rfl), fun h0_ => absurd ((hon 1 (by kernel_rfl)).symm.trans h0_) (by decide), Q_HB, fun _ h1_ => absurd ((hon 3 (by kernel_rfl)).symm.trans h1_) (by decide), fun _ h1_ => absurd ((hon 5 (by kernel_rfl)).symm.trans h1_) (by decide), fun _ h1_ => absurd ((hon 8 (by kernel_rfl)).symm.trans h1_) (by decide), Q_HO194, Q_HA_HO194, fun _ h1_ => absurd ((hon 12 (by kernel_rfl)).symm.trans h1_) (by decide), fun _ h1_ => absurd ((hon 14 (by kernel_rfl)).symm.trans h1_) (by decide), fun _ h1_ => absurd ((hon 17 (by kernel_rfl)).symm.trans h1_) (by decide), Q_HO207, Q_HA_HO207, Q_HI182_e17, Q_X9_, Q_X18_⟩
            refine steps_cons ?_ ?_
            · rintro b a w' ⟨v193, adz_v193, v206, adz_v206, m9_, m18_, ha, Q_HI182, Q_HB, Q_HI182_e1, Q_HI182_e3, Q_HI182_e5, Q_HO194, Q_HA_HO194, Q_HI182_e8, Q_HI182_e12, Q_HI182_e14, Q_HO207, Q_HA_HO207, Q_HI182_e17, Q_X9_, Q_X18_⟩ hb_ hon hoff
              refine ⟨_, rfl, fun K hK => ?_⟩
              have e18 : a.tmps[18]? = some (.int .i64 (rd y192 t195)) := by rw [ha]; exact putSel_on (e := (10, 18, .int .i64 (rd y192 t195))) 6 rfl rfl (hon 10 (by kernel_rfl)) rfl
              replace ha := Aside0.mk ha
              have HB := Aside0.mk Q_HB
              have HO194 := Aside0.mk (Q_HO194 (hon 6 (by kernel_rfl)))
              have HA_HO194 := Aside0.mk (Q_HA_HO194 (hon 6 (by kernel_rfl)))
              have HI182 := Aside0.mk (Q_HI182_e17 (hon 17 (by kernel_rfl)))
              refine value_ (w1 := w') (v := .int .i64 (rd y192 t195)) (by rfl) rfl ?_ ?_
              · go_simp
                (try simp only [i64_w])
                try rfl
              refine hK.out _ _ ⟨v193, adz_v193, v206, adz_v206, m9_, m18_, (by rw [ha.out]; exact putSel_upk 14 hb_ rfl rfl rfl), fun h0_ => absurd ((hon 1 (by kernel_rfl)).symm.trans h0_) (by decide), Q_HB, fun _ h1_ => absurd ((hon 3 (by kernel_rfl)).symm.trans h1_) (by decide), fun _ h1_ => absurd ((hon 5 (by kernel_rfl)).symm.trans h1_) (by decide), fun _ h1_ => absurd ((hon 8 (by kernel_rfl)).symm.trans h1_) (by decide), Q_HO194, Q_HA_HO194, fun _ h1_ => absurd ((hon 12 (by kernel_rfl)).symm.trans h1_) (by decide), fun _ h1_ => absurd ((hon 14 (by kernel_rfl)).symm.trans h1_) (by decide), fun _ h1_ => absurd ((hon 17 (by kernel_rfl)).symm.trans h1_) (by decide), Q_HO207, Q_HA_HO207, Q_HI182_e17, Q_X9_, Q_X18_⟩
            refine steps_cons ?_ ?_
            · rintro b a w' ⟨v193, adz_v193, v206, adz_v206, m9_, m18_, ha, Q_HI182, Q_HB, Q_HI182_e1, Q_HI182_e3, Q_HI182_e5, Q_HO194, Q_HA_HO194, Q_HI182_e8, Q_HI182_e12, Q_HI182_e14, Q_HO207, Q_HA_HO207, Q_HI182_e17, Q_X9_, Q_X18_⟩ hb_ hon hoff
              refine ⟨_, rfl, fun K hK => ?_⟩
              have e27 : a.tmps[27]? = some (.int .i64 (rd y205 t208)) := by rw [ha]; exact putSel_on (e := (19, 27, .int .i64 (rd y205 t208))) 12 rfl rfl (hon 19 (by kernel_rfl)) rfl
              replace ha := Aside0.mk ha
              have HB := Aside0.mk Q_HB
              have HO194 := Aside0.mk (Q_HO194 (hon 6 (by kernel_rfl)))
              have HA_HO194 := Aside0.mk (Q_HA_HO194 (hon 6 (by kernel_rfl)))
              have HO207 := Aside0.mk (Q_HO207 (hon 15 (by kernel_rfl)))
              have HA_HO207 := Aside0.mk (Q_HA_HO207 (hon 15 (by kernel_rfl)))
              have HI182 := Aside0.mk (Q_HI182_e17 (hon 17 (by kernel_rfl)))
              refine value_ (w1 := w') (v := .int .i64 (rd y205 t208)) (by rfl) rfl ?_ ?_
              · go_simp
                (try simp only [i64_w])
                try rfl
              refine hK.out _ _ ⟨v193, adz_v193, v206, adz_v206, m9_, m18_, (by rw [ha.out]; exact putSel_upk 15 hb_ rfl rfl rfl), fun h0_ => absurd ((hon 1 (by kernel_rfl)).symm.trans h0_) (by decide), Q_HB, fun _ h1_ => absurd ((hon 3 (by kernel_rfl)).symm.trans h1_) (by decide), fun _ h1_ => absurd ((hon 5 (by kernel_rfl)).symm.trans h1_) (by decide), fun _ h1_ => absurd ((hon 8 (by kernel_rfl)).symm.trans h1_) (by decide), Q_HO194, Q_HA_HO194, fun _ h1_ => absurd ((hon 12 (by kernel_rfl)).symm.trans h1_) (by decide), fun _ h1_ => absurd ((hon 14 (by kernel_rfl)).symm.trans h1_) (by decide), fun _ h1_ => absurd ((hon 17 (by kernel_rfl)).symm.trans h1_) (by decide), Q_HO207, Q_HA_HO207, Q_HI182_e17, Q_X9_, Q_X18_⟩
            exact steps_nil
          rintro b a w29 hall ⟨v193, adz_v193, v206, adz_v206, m9_, m18_, ha, Q_HI182, Q_HB, Q_HI182_e1, Q_HI182_e3, Q_HI182_e5, Q_HO194, Q_HA_HO194, Q_HI182_e8, Q_HI182_e12, Q_HI182_e14, Q_HO207, Q_HA_HO207, Q_HI182_e17, Q_X9_, Q_X18_⟩
          clear HB HI182
          have hb1_ := hall 1 (by kernel_rfl)
          have hb3_ := hall 3 (by kernel_rfl)
          have hb5_ := hall 5 (by kernel_rfl)
          have hb6_ := hall 6 (by kernel_rfl)
          have hb8_ := hall 8 (by kernel_rfl)
          have hb9_ := hall 9 (by kernel_rfl)
          have hb10_ := hall 10 (by kernel_rfl)
          have hb12_ := hall 12 (by kernel_rfl)
          have hb14_ := hall 14 (by kernel_rfl)
          have hb15_ := hall 15 (by kernel_rfl)
          have hb17_ := hall 17 (by kernel_rfl)
          have hb18_ := hall 18 (by kernel_rfl)
          have hb19_ := hall 19 (by kernel_rfl)
          have hb20_ := hall 20 (by kernel_rfl)
          have hb21_ := hall 21 (by kernel_rfl)
          have hb22_ := hall 22 (by kernel_rfl)
          subst ha
          obtain rfl := Q_X9_ hb9_
          obtain rfl := Q_X18_ hb18_
          simp only [putSel, hb1_, hb3_, hb5_, hb6_, hb8_, hb9_, hb10_, hb12_, hb14_, hb15_, hb17_, hb18_, hb19_, hb20_, hb21_, hb22_, if_true, Act.put, List.setIfInBounds_toArray, List.set_cons_zero, List.set_cons_succ]
          clear Q_HI182
          have HB := Aside0.mk Q_HB
          clear Q_HB
          clear Q_HI182_e1
          clear Q_HI182_e3
          clear Q_HI182_e5
          have HO194 := Aside0.mk (Q_HO194 hb6_)
          clear Q_HO194
          have HA_HO194 := Aside0.mk (Q_HA_HO194 hb6_)
          clear Q_HA_HO194
          clear Q_HI182_e8
          clear Q_HI182_e12
          clear Q_HI182_e14
          have HO207 := Aside0.mk (Q_HO207 hb15_)
          clear Q_HO207
          have HA_HO207 := Aside0.mk (Q_HA_HO207 hb15_)
          clear Q_HA_HO207
          have HI182 := Aside0.mk (Q_HI182_e17 hb17_)
          clear Q_HI182_e17
          clear hall hb1_ hb3_ hb5_ hb6_ hb8_ hb9_ hb10_ hb12_ hb14_ hb15_ hb17_ hb18_ hb19_ hb20_ hb21_ hb22_
          obtain ⟨co30, eo30⟩ := HA_HO194.out
          clear HA_HO194
          subst eo30
          obtain ⟨co31, eo31⟩ := HA_HO207.out
          clear HA_HO207
          subst eo31
          try go_wp2
          go_ret3
          exact ⟨by first | rfl | (simp [errW_none, errW_some] <;> rfl) | (simp [*, errW_none, errW_some] <;> rfl), by repeat (first | (with_reducible first | exact HB.out | apply below_alloc | apply pw_below_drewN | apply below_drew1 | refine below_set ?_ (IsS102.ge HI182.out)) | exact HB.out)⟩
        · rw [if_neg c13] at H
          exact absurd H (by simp)
      · rw [if_neg c12] at H
        exact absurd H (by simp)
    · rw [if_neg c8] at H
      exact absurd H (by simp)
  · rw [if_neg c7] at H
    exact absurd H (by simp)

/-! ### impl_TakeLow: function 51 -/
def impl_TakeLow.l0 : Nat → Int → Int → Int → Option (Int)
  | 0, _, _, _ => none
  | k + 1, x0, x1, x5 => if x1 > 0 then (if x0 = 0 then (some x5) else (impl_TakeLow.l0 k (Go.bits .and .u32 x0 ((x0 - 1) % 4294967296)) (wrap64 (x1 - 1)) (Go.bits .or .u32 x5 (Go.bits .and .u32 x0 ((-x0) % 4294967296))))) else (some x5)
def impl_TakeLow.f (k : Nat) (a0 : Int) (a1 : Int) : Option (Int) := impl_TakeLow.l0 k a0 a1 0
theorem impl_TakeLow.mono_l : ∀ k, (∀ y0 y1 y2, LeO (impl_TakeLow.l0 k y0 y1 y2) (impl_TakeLow.l0 (k + 1) y0 y1 y2))
  | 0 => fun _ _ _ r h => by simp [impl_TakeLow.l0] at h
  | k + 1 => by
    have ih0 := impl_TakeLow.mono_l k
    · intro y0 y1 y2
      unfold impl_TakeLow.l0
      repeat' first
      | (with_reducible exact ih0 _ _ _)
      | (with_reducible exact LeO.refl _)
      | (with_reducible exact LeO.none _)
      | (with_reducible refine LeO.ite ?_ ?_)
      | (with_reducible refine LeO.bind ?_ (fun _ => ?_))
      | exact ih0 _ _ _
      | exact LeO.none _
      | refine LeO.ite ?_ ?_
      | refine LeO.bind ?_ (fun _ => ?_)
theorem impl_TakeLow.mono : ∀ a0 a1 k, LeO (impl_TakeLow.f k a0 a1) (impl_TakeLow.f (k + 1) a0 a1) := by
  intro a0 a1 k
  have ih0 := impl_TakeLow.mono_l k
  unfold impl_TakeLow.f
  repeat' first
      | (with_reducible exact ih0 _ _ _)
      | (with_reducible exact LeO.refl _)
      | (with_reducible exact LeO.none _)
      | (with_reducible refine LeO.ite ?_ ?_)
      | (with_reducible refine LeO.bind ?_ (fun _ => ?_))
      | exact ih0 _ _ _
      | exact LeO.none _
      | refine LeO.ite ?_ ?_
      | refine LeO.bind ?_ (fun _ => ?_)
set_option maxHeartbeats 8000000 in
set_option maxRecDepth 100000 in
theorem impl_TakeLow.calls (k : Nat) (a0 : Int) (a1 : Int) (r : Int) (w : World) (h : impl_TakeLow.f k a0 a1 = some r) :
    Calls Try.prog 51 #[.int .u32 a0, .int .i64 a1] w fun e w' => e = .returned (.int .u32 r) ∧ Drawn0 w w' := by
  have H : (impl_TakeLow.l0 k a0 a1 0) = some r := h
  clear h
  have H' := Aside0.mk H
  clear H
  go_enter Try.func51, Try.ntmps51
  go_wp2
  go_loopg [0, 1, 5] k (fun kq v0 v1 v5 w' => ∃ (x0_1 : Int) (x1_1 : Int) (x5_1 : Int), v0 = .int .u32 x0_1 ∧ v1 = .int .i64 x1_1 ∧ v5 = .int .u32 x5_1 ∧ Aside0 (impl_TakeLow.l0 kq x0_1 x1_1 x5_1 = some r) ∧ Aside0 (kq ≤ k) ∧ Drawn0 w w')
  case atStart => exact ⟨(a0), (a1), (0), (by first | rfl | (simp; done) | (simp [*]; done)), (by first | rfl | (simp; done) | (simp [*]; done)), (by first | rfl | (simp; done) | (simp [*]; done)), H', ⟨Nat.le_refl _⟩, by repeat (first | exact Drawn0.refl _ | apply Drawn0.step)⟩
  case round =>
    clear H'
    try clear p2
    obtain ⟨x0_1, x1_1, x5_1, rfl, rfl, rfl, HA, HK1, ⟨m1, rfl⟩⟩ := hrel
    cases gk with
    | zero => exact absurd HA.out (by simp [impl_TakeLow.l0])
    | succ k1 =>
      have H := HA.out
      clear HA
      simp only [impl_TakeLow.l0] at H
      by_cases c3 : x1_1 > 0
      · rw [if_pos c3] at H
        have c3b0 : decide (0 < x1_1) = true := decide_eq_true c3
        clear c3
        by_cases c4 : x0_1 = 0
        · rw [if_pos c4] at H
          have c4b0 : (x0_1 == 0) = true := beq_iff_eq.mpr c4
          have c4b1 : (x0_1 != 0) = false := bne_eq_false_iff_eq.mpr c4
          clear c4
          obtain rfl := Option.some.inj H
          go_wp2
          go_ret
          exact ⟨by first | rfl | (simp; done) | (simp [*]; done) | (simp [*, Int.tdiv_eq_ediv_of_nonneg (show (0 : Int) ≤ 16 by decide)]; done), by repeat (first | exact Drawn0.refl _ | apply Drawn0.step)⟩
        · rw [if_neg c4] at H
          have c4b0 : (x0_1 == 0) = false := beq_eq_false_iff_ne.mpr c4
          have c4b1 : (x0_1 != 0) = true := bne_iff_ne.mpr c4
          have H' := Aside0.mk H
          clear H
          go_wp2
          go_roundg k1
          case measure => have := HK1.out; omega
          case rel => exact ⟨(Go.bits .and .u32 x0_1 ((x0_1 - 1) % 4294967296)), (wrap64 (x1_1 - 1)), (Go.bits .or .u32 x5_1 (Go.bits .and .u32 x0_1 ((-x0_1) % 4294967296))), (by first | rfl | (simp; done) | (simp [*]; done)), (by first | rfl | (simp; done) | (simp [*]; done)), (by first | rfl | (simp; done) | (simp [*]; done)), H', ⟨by have := HK1.out; omega⟩, by repeat (first | exact Drawn0.refl _ | apply Drawn0.step)⟩
      · rw [if_neg c3] at H
        have c3b0 : decide (0 < x1_1) = false := decide_eq_false c3
        clear c3
        obtain rfl := Option.some.inj H
        go_wp2
        go_ret
        exact ⟨by first | rfl | (simp; done) | (simp [*]; done) | (simp [*, Int.tdiv_eq_ediv_of_nonneg (show (0 : Int) ≤ 16 by decide)]; done), by repeat (first | exact Drawn0.refl _ | apply Drawn0.step)⟩

/-! ### impl_within: function 79 -/
def impl_within.f (a0 : Int) (a1 : Int) (a2 : Int) : Option (Bool) := if a0 ≥ a1 then (some (decide (a0 ≤ a2))) else (some false)
set_option maxHeartbeats 8000000 in
set_option maxRecDepth 100000 in
theorem impl_within.calls (a0 : Int) (a1 : Int) (a2 : Int) (r : Bool) (w : World) (h : impl_within.f a0 a1 a2 = some r) :
    Calls Try.prog 79 #[.int .i64 a0, .int .i64 a1, .int .i64 a2] w fun e w' => e = .returned (.bool r) ∧ Drawn0 w w' := by
  have H : (if a0 ≥ a1 then (some (decide (a0 ≤ a2))) else (some false)) = some r := h
  clear h
  by_cases c4 : a0 ≥ a1
  · rw [if_pos c4] at H
    have c4b0 : decide (a1 ≤ a0) = true := decide_eq_true c4
    clear c4
    obtain rfl := Option.some.inj H
    go_enter Try.func79, Try.ntmps79
    go_wp2
    go_ret
    exact ⟨by first | rfl | (simp; done) | (simp [*]; done) | (simp [*, Int.tdiv_eq_ediv_of_nonneg (show (0 : Int) ≤ 16 by decide)]; done), by repeat (first | exact Drawn0.refl _ | apply Drawn0.step)⟩
  · rw [if_neg c4] at H
    have c4b0 : decide (a1 ≤ a0) = false := decide_eq_false c4
    clear c4
    obtain rfl := Option.some.inj H
    go_enter Try.func79, Try.ntmps79
    go_wp2
    go_ret
    exact ⟨by first | rfl | (simp; done) | (simp [*]; done) | (simp [*, Int.tdiv_eq_ediv_of_nonneg (show (0 : Int) ≤ 16 by decide)]; done), by repeat (first | exact Drawn0.refl _ | apply Drawn0.step)⟩

/-! ### impl_MaskOf: function 56 -/
def impl_MaskOf.f (a0 : Int) : Option (Int) := (impl_within.f a0 0 32).bind fun t212 => (if t212 = true then (if 0 ≤ a0 then (some (((shl .u32 1 a0) - 1) % 4294967296)) else (none)) else (some 0))
set_option maxHeartbeats 8000000 in
set_option maxRecDepth 100000 in
theorem impl_MaskOf.calls (a0 : Int) (r : Int) (w : World) (h : impl_MaskOf.f a0 = some r) :
    Calls Try.prog 56 #[.int .i64 a0] w fun e w' => e = .returned (.int .u32 r) ∧ Drawn0 w w' := by
  have H : ((impl_within.f a0 0 32).bind fun t212 => (if t212 = true then (if 0 ≤ a0 then (some (((shl .u32 1 a0) - 1) % 4294967296)) else (none)) else (some 0))) = some r := h
  clear h
  replace H := Option.bind_eq_some_iff.mp H
  obtain ⟨t212, A20, H⟩ := H
  replace H : (if t212 = true then (if 0 ≤ a0 then (some (((shl .u32 1 a0) - 1) % 4294967296)) else (none)) else (some 0)) = some r := H
  have A2 := Aside0.mk A20
  clear A20
  by_cases c3 : t212 = true
  · subst c3
    have H1 : (if 0 ≤ a0 then (some (((shl .u32 1 a0) - 1) % 4294967296)) else (none)) = some r := by rw [if_pos rfl] at H; exact H
    clear H
    have H := H1
    clear H1
    by_cases c4 : 0 ≤ a0
    · rw [if_pos c4] at H
      have c4b0 := eq_true c4
      have c4b1 : decide (0 ≤ a0) = true := decide_eq_true c4
      clear c4
      obtain ⟨ji5, hji5⟩ : ∃ j_ : Int, (shl .u32 1 a0) = j_ := ⟨_, rfl⟩
      replace H : (some (((ji5) - 1) % 4294967296)) = some r := by first | (rw [hji5] at H; exact H) | (simp only [hji5] at H ⊢; exact H)
      (try rw [hji5] at A2)
      have hji5_ : (IntKind.u32.wrap (1 * 2 ^ min a0.toNat 32)) = ji5 := hji5
      have hji5z : a0 ≤ 32 → (IntKind.u32.wrap (1 * 2 ^ a0.toNat)) = ji5 := shl_small hji5
      have hji5u : (IntKind.u32.wrap (2 ^ min a0.toNat 32)) = ji5 := by have h_ := hji5_; rw [Int.one_mul] at h_; exact h_
      have hji5v : a0 ≤ 32 → (IntKind.u32.wrap (2 ^ a0.toNat)) = ji5 := fun hle_ => by have h_ := hji5z hle_; rw [Int.one_mul] at h_; exact h_
      obtain rfl := Option.some.inj H
      go_enter Try.func56, Try.ntmps56
      go_wp2_with (first | ((with_reducible refine gate_callee (f := 79) rfl ?_); refine goesL_ (some 4) rfl rfl Try.func79 (by kernel_rfl) rfl #[.int .i64 a0, .int .i64 0, .int .i64 32] rfl (by (try simp only [List.map_toArray, List.map_cons, List.map_nil]); first | done | rfl | (simp only [List.length_drop, List.length_take]; rfl)) ?_; (with_reducible refine (impl_within.calls a0 0 32 true _ A2.out).mono ?_); rintro e w' ⟨rfl, ⟨nd, rfl⟩⟩; refine ⟨_, rfl, ?_⟩))
      go_ret
      exact ⟨by first | rfl | (simp; done) | (simp only [← hji5] <;> (first | rfl | simp)) | (simp [*]; done), by repeat (first | exact Drawn0.refl _ | apply Drawn0.step)⟩
    · rw [if_neg c4] at H
      exact absurd H (by simp)
  · replace c3 := Bool.eq_false_iff.mpr c3
    subst c3
    have H1 : (some 0) = some r := by rw [if_neg (show ¬ (false = true) by decide)] at H; exact H
    clear H
    have H := H1
    clear H1
    obtain rfl := Option.some.inj H
    go_enter Try.func56, Try.ntmps56
    go_wp2_with (first | ((with_reducible refine gate_callee (f := 79) rfl ?_); refine goesL_ (some 4) rfl rfl Try.func79 (by kernel_rfl) rfl #[.int .i64 a0, .int .i64 0, .int .i64 32] rfl (by (try simp only [List.map_toArray, List.map_cons, List.map_nil]); first | done | rfl | (simp only [List.length_drop, List.length_take]; rfl)) ?_; (with_reducible refine (impl_within.calls a0 0 32 false _ A2.out).mono ?_); rintro e w' ⟨rfl, ⟨nd, rfl⟩⟩; refine ⟨_, rfl, ?_⟩))
    go_ret
    exact ⟨by first | rfl | (simp; done) | (simp [*]; done) | (simp [*, Int.tdiv_eq_ediv_of_nonneg (show (0 : Int) ≤ 16 by decide)]; done), by repeat (first | exact Drawn0.refl _ | apply Drawn0.step)⟩

end Go.Proofs.Ytllidkccikmgiaa.PFnLow
