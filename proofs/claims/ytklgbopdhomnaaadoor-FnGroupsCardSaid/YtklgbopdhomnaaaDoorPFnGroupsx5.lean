-- Written by this session's program (wip/bin/myprint.sh) by means of the kit's print.py; Lean checks it.
import Derived.Test.YtklgbopdhomnaaaDoorTab
import Derived.Test.YtklgbopdhomnaaaDoorPFnGroupsx0
import Derived.Test.YtklgbopdhomnaaaDoorPFnGroupsx1
import Derived.Test.YtklgbopdhomnaaaDoorPFnGroupsx2
import Derived.Test.YtklgbopdhomnaaaDoorPFnGroupsx4
namespace Go.Proofs.YtklgbopdhomnaaaDoor.PFnGroups
open Go.RowKit Go.Proofs.YtklgbopdhomnaaaDoorW.PrintWords Go.Proofs.YtklgbopdhomnaaaDoorW.PrintLast Go.Proofs.YtklgbopdhomnaaaDoorW.PrintMore Go.Proofs.YtklgbopdhomnaaaDoor
attribute [local go_sem] max2_int min2_int max_two min_two max_three min_three max_four min_four   -- for this text's walks alone
set_option linter.unusedVariables false
set_option linter.unusedSimpArgs false

/-! ### laws_FnGroups: function 3 -/
mutual
def laws_FnGroups.j0 : Nat → List Int → Int → List Int → List Int → Bool → Option (Bool)
  | 0, _, _, _, _, _ => none
  | k + 1, x3, x4, x5, x6, x38 => if x38 = true then (some false) else (laws_FnGroups.l0 k x3 x4 x5 x6 0 0)
def laws_FnGroups.l0 : Nat → List Int → Int → List Int → List Int → Int → Int → Option (Bool)
  | 0, _, _, _, _, _, _ => none
  | k + 1, x3, x4, x5, x6, x7, x8 => if x8 < (x5.length : Int) then (if 0 ≤ x8 then (if x8 < (x6.length : Int) then (if (rd x5 x8) = (rd x6 x8) then (if (Go.bits .and .u32 (rd x5 x8) x7) = 0 then (if x8 > 0 then (if 0 ≤ (wrap64 (x8 - 1)) then (if (wrap64 (x8 - 1)) < (x5.length : Int) then ((impl_Leader.f (rd x5 (wrap64 (x8 - 1)))).bind fun t297 => ((impl_Leader.f (rd x5 x8)).bind fun t299 => (laws_FnGroups.j2 k x3 x4 x5 x6 x7 x8 (decide (t297 ≥ t299))))) else (none)) else (none)) else (laws_FnGroups.j2 k x3 x4 x5 x6 x7 x8 false)) else (laws_FnGroups.j2 k x3 x4 x5 x6 x7 x8 true)) else (laws_FnGroups.j2 k x3 x4 x5 x6 x7 x8 true)) else (none)) else (none)) else (if (x5.length : Int) = 0 then (some true) else (if x7 = x4 then (if 0 < (x5.length : Int) then ((impl_GroupOf.f k x3 x4).bind fun t292 => (some ((rd x5 0) == t292))) else (none)) else (some false)))
def laws_FnGroups.j2 : Nat → List Int → Int → List Int → List Int → Int → Int → Bool → Option (Bool)
  | 0, _, _, _, _, _, _, _ => none
  | k + 1, x3, x4, x5, x6, x7, x8, x80 => if x80 = true then (some false) else (if 0 ≤ x8 then (if x8 < (x5.length : Int) then ((impl_BitList.f k (rd x5 x8)).bind fun t302 => (laws_FnGroups.l1 k x3 x4 x5 x6 (Go.bits .or .u32 x7 (rd x5 x8)) x8 t302 0)) else (none)) else (none))
def laws_FnGroups.l1 : Nat → List Int → Int → List Int → List Int → Int → Int → List Int → Int → Option (Bool)
  | 0, _, _, _, _, _, _, _, _ => none
  | k + 1, x3, x4, x5, x6, x7, x8, x9, x10 => if x10 < (x9.length : Int) then (if 0 ≤ x10 then (if 0 ≤ (rd x9 x10) then (if (rd x9 x10) < (x3.length : Int) then (if 0 < (x9.length : Int) then (if 0 ≤ (rd x9 0) then (if (rd x9 0) < (x3.length : Int) then (if (rd x3 (rd x9 x10)) = (rd x3 (rd x9 0)) then (laws_FnGroups.l1 k x3 x4 x5 x6 x7 x8 x9 (wrap64 (x10 + 1))) else (some false)) else (none)) else (none)) else (none)) else (none)) else (none)) else (none)) else (laws_FnGroups.l2 k x3 x4 x5 x6 x7 x8 x9 0)
def laws_FnGroups.l2 : Nat → List Int → Int → List Int → List Int → Int → Int → List Int → Int → Option (Bool)
  | 0, _, _, _, _, _, _, _, _ => none
  | k + 1, x3, x4, x5, x6, x7, x8, x9, x11 => if x11 < x8 then (if 0 ≤ x11 then (if x11 < (x5.length : Int) then ((impl_Leader.f (rd x5 x11)).bind fun t310 => (if 0 ≤ t310 then (if t310 < (x3.length : Int) then (if 0 < (x9.length : Int) then (if 0 ≤ (rd x9 0) then (if (rd x9 0) < (x3.length : Int) then (if (rd x3 t310) = (rd x3 (rd x9 0)) then (some false) else (laws_FnGroups.l2 k x3 x4 x5 x6 x7 x8 x9 (wrap64 (x11 + 1)))) else (none)) else (none)) else (none)) else (none)) else (none))) else (none)) else (none)) else (laws_FnGroups.l0 k x3 x4 x5 x6 x7 (wrap64 (x8 + 1)))
end
def laws_FnGroups.f (k : Nat) (l0 : List Int) : Option (Bool) := (laws_big.f l0).bind fun t278 => (if t278 = true then (some true) else ((spec_DrawGroups.f k l0).bind fun bt279 => ((impl_Groups.f k bt279.1 bt279.2).bind fun t283 => ((spec_Groups.f k bt279.1 bt279.2).bind fun t286 => (if (t283.length : Int) = (t286.length : Int) then ((impl_GroupOf.f k bt279.1 bt279.2).bind fun t289 => ((spec_GroupOf.f k bt279.1 bt279.2).bind fun t290 => (laws_FnGroups.j0 k bt279.1 bt279.2 t283 t286 (t289 != t290)))) else (laws_FnGroups.j0 k bt279.1 bt279.2 t283 t286 true))))))
theorem laws_FnGroups.mono_l : ∀ k, (∀ y0 y1 y2 y3 y4, LeO (laws_FnGroups.j0 k y0 y1 y2 y3 y4) (laws_FnGroups.j0 (k + 1) y0 y1 y2 y3 y4)) ∧ (∀ y0 y1 y2 y3 y4 y5, LeO (laws_FnGroups.l0 k y0 y1 y2 y3 y4 y5) (laws_FnGroups.l0 (k + 1) y0 y1 y2 y3 y4 y5)) ∧ (∀ y0 y1 y2 y3 y4 y5 y6, LeO (laws_FnGroups.j2 k y0 y1 y2 y3 y4 y5 y6) (laws_FnGroups.j2 (k + 1) y0 y1 y2 y3 y4 y5 y6)) ∧ (∀ y0 y1 y2 y3 y4 y5 y6 y7, LeO (laws_FnGroups.l1 k y0 y1 y2 y3 y4 y5 y6 y7) (laws_FnGroups.l1 (k + 1) y0 y1 y2 y3 y4 y5 y6 y7)) ∧ (∀ y0 y1 y2 y3 y4 y5 y6 y7, LeO (laws_FnGroups.l2 k y0 y1 y2 y3 y4 y5 y6 y7) (laws_FnGroups.l2 (k + 1) y0 y1 y2 y3 y4 y5 y6 y7))
  | 0 => ⟨fun _ _ _ _ _ r h => by simp [laws_FnGroups.j0] at h, fun _ _ _ _ _ _ r h => by simp [laws_FnGroups.l0] at h, fun _ _ _ _ _ _ _ r h => by simp [laws_FnGroups.j2] at h, fun _ _ _ _ _ _ _ _ r h => by simp [laws_FnGroups.l1] at h, fun _ _ _ _ _ _ _ _ r h => by simp [laws_FnGroups.l2] at h⟩
  | k + 1 => by
    obtain ⟨ih0, ih1, ih2, ih3, ih4⟩ := laws_FnGroups.mono_l k
    refine ⟨?_, ?_, ?_, ?_, ?_⟩
    · intro y0 y1 y2 y3 y4
      unfold laws_FnGroups.j0
      repeat' first
      | (with_reducible exact ih0 _ _ _ _ _)
      | (with_reducible exact ih1 _ _ _ _ _ _)
      | (with_reducible exact ih2 _ _ _ _ _ _ _)
      | (with_reducible exact ih3 _ _ _ _ _ _ _ _)
      | (with_reducible exact ih4 _ _ _ _ _ _ _ _)
      | (with_reducible exact impl_BitList.mono _ _)
      | (with_reducible exact impl_GroupOf.mono _ _ _)
      | (with_reducible exact impl_Groups.mono _ _ _)
      | (with_reducible exact spec_DrawGroups.mono _ _)
      | (with_reducible exact spec_GroupOf.mono _ _ _)
      | (with_reducible exact spec_Groups.mono _ _ _)
      | (with_reducible exact LeO.refl _)
      | (with_reducible exact LeO.none _)
      | (with_reducible refine LeO.ite ?_ ?_)
      | (with_reducible refine LeO.bind ?_ (fun _ => ?_))
      | exact ih0 _ _ _ _ _
      | exact ih1 _ _ _ _ _ _
      | exact ih2 _ _ _ _ _ _ _
      | exact ih3 _ _ _ _ _ _ _ _
      | exact ih4 _ _ _ _ _ _ _ _
      | exact impl_BitList.mono _ _
      | exact impl_GroupOf.mono _ _ _
      | exact impl_Groups.mono _ _ _
      | exact spec_DrawGroups.mono _ _
      | exact spec_GroupOf.mono _ _ _
      | exact spec_Groups.mono _ _ _
      | exact LeO.none _
      | refine LeO.ite ?_ ?_
      | refine LeO.bind ?_ (fun _ => ?_)
    · intro y0 y1 y2 y3 y4 y5
      unfold laws_FnGroups.l0
      repeat' first
      | (with_reducible exact ih0 _ _ _ _ _)
      | (with_reducible exact ih1 _ _ _ _ _ _)
      | (with_reducible exact ih2 _ _ _ _ _ _ _)
      | (with_reducible exact ih3 _ _ _ _ _ _ _ _)
      | (with_reducible exact ih4 _ _ _ _ _ _ _ _)
      | (with_reducible exact impl_BitList.mono _ _)
      | (with_reducible exact impl_GroupOf.mono _ _ _)
      | (with_reducible exact impl_Groups.mono _ _ _)
      | (with_reducible exact spec_DrawGroups.mono _ _)
      | (with_reducible exact spec_GroupOf.mono _ _ _)
      | (with_reducible exact spec_Groups.mono _ _ _)
      | (with_reducible exact LeO.refl _)
      | (with_reducible exact LeO.none _)
      | (with_reducible refine LeO.ite ?_ ?_)
      | (with_reducible refine LeO.bind ?_ (fun _ => ?_))
      | exact ih0 _ _ _ _ _
      | exact ih1 _ _ _ _ _ _
      | exact ih2 _ _ _ _ _ _ _
      | exact ih3 _ _ _ _ _ _ _ _
      | exact ih4 _ _ _ _ _ _ _ _
      | exact impl_BitList.mono _ _
      | exact impl_GroupOf.mono _ _ _
      | exact impl_Groups.mono _ _ _
      | exact spec_DrawGroups.mono _ _
      | exact spec_GroupOf.mono _ _ _
      | exact spec_Groups.mono _ _ _
      | exact LeO.none _
      | refine LeO.ite ?_ ?_
      | refine LeO.bind ?_ (fun _ => ?_)
    · intro y0 y1 y2 y3 y4 y5 y6
      unfold laws_FnGroups.j2
      repeat' first
      | (with_reducible exact ih0 _ _ _ _ _)
      | (with_reducible exact ih1 _ _ _ _ _ _)
      | (with_reducible exact ih2 _ _ _ _ _ _ _)
      | (with_reducible exact ih3 _ _ _ _ _ _ _ _)
      | (with_reducible exact ih4 _ _ _ _ _ _ _ _)
      | (with_reducible exact impl_BitList.mono _ _)
      | (with_reducible exact impl_GroupOf.mono _ _ _)
      | (with_reducible exact impl_Groups.mono _ _ _)
      | (with_reducible exact spec_DrawGroups.mono _ _)
      | (with_reducible exact spec_GroupOf.mono _ _ _)
      | (with_reducible exact spec_Groups.mono _ _ _)
      | (with_reducible exact LeO.refl _)
      | (with_reducible exact LeO.none _)
      | (with_reducible refine LeO.ite ?_ ?_)
      | (with_reducible refine LeO.bind ?_ (fun _ => ?_))
      | exact ih0 _ _ _ _ _
      | exact ih1 _ _ _ _ _ _
      | exact ih2 _ _ _ _ _ _ _
      | exact ih3 _ _ _ _ _ _ _ _
      | exact ih4 _ _ _ _ _ _ _ _
      | exact impl_BitList.mono _ _
      | exact impl_GroupOf.mono _ _ _
      | exact impl_Groups.mono _ _ _
      | exact spec_DrawGroups.mono _ _
      | exact spec_GroupOf.mono _ _ _
      | exact spec_Groups.mono _ _ _
      | exact LeO.none _
      | refine LeO.ite ?_ ?_
      | refine LeO.bind ?_ (fun _ => ?_)
    · intro y0 y1 y2 y3 y4 y5 y6 y7
      unfold laws_FnGroups.l1
      repeat' first
      | (with_reducible exact ih0 _ _ _ _ _)
      | (with_reducible exact ih1 _ _ _ _ _ _)
      | (with_reducible exact ih2 _ _ _ _ _ _ _)
      | (with_reducible exact ih3 _ _ _ _ _ _ _ _)
      | (with_reducible exact ih4 _ _ _ _ _ _ _ _)
      | (with_reducible exact impl_BitList.mono _ _)
      | (with_reducible exact impl_GroupOf.mono _ _ _)
      | (with_reducible exact impl_Groups.mono _ _ _)
      | (with_reducible exact spec_DrawGroups.mono _ _)
      | (with_reducible exact spec_GroupOf.mono _ _ _)
      | (with_reducible exact spec_Groups.mono _ _ _)
      | (with_reducible exact LeO.refl _)
      | (with_reducible exact LeO.none _)
      | (with_reducible refine LeO.ite ?_ ?_)
      | (with_reducible refine LeO.bind ?_ (fun _ => ?_))
      | exact ih0 _ _ _ _ _
      | exact ih1 _ _ _ _ _ _
      | exact ih2 _ _ _ _ _ _ _
      | exact ih3 _ _ _ _ _ _ _ _
      | exact ih4 _ _ _ _ _ _ _ _
      | exact impl_BitList.mono _ _
      | exact impl_GroupOf.mono _ _ _
      | exact impl_Groups.mono _ _ _
      | exact spec_DrawGroups.mono _ _
      | exact spec_GroupOf.mono _ _ _
      | exact spec_Groups.mono _ _ _
      | exact LeO.none _
      | refine LeO.ite ?_ ?_
      | refine LeO.bind ?_ (fun _ => ?_)
    · intro y0 y1 y2 y3 y4 y5 y6 y7
      unfold laws_FnGroups.l2
      repeat' first
      | (with_reducible exact ih0 _ _ _ _ _)
      | (with_reducible exact ih1 _ _ _ _ _ _)
      | (with_reducible exact ih2 _ _ _ _ _ _ _)
      | (with_reducible exact ih3 _ _ _ _ _ _ _ _)
      | (with_reducible exact ih4 _ _ _ _ _ _ _ _)
      | (with_reducible exact impl_BitList.mono _ _)
      | (with_reducible exact impl_GroupOf.mono _ _ _)
      | (with_reducible exact impl_Groups.mono _ _ _)
      | (with_reducible exact spec_DrawGroups.mono _ _)
      | (with_reducible exact spec_GroupOf.mono _ _ _)
      | (with_reducible exact spec_Groups.mono _ _ _)
      | (with_reducible exact LeO.refl _)
      | (with_reducible exact LeO.none _)
      | (with_reducible refine LeO.ite ?_ ?_)
      | (with_reducible refine LeO.bind ?_ (fun _ => ?_))
      | exact ih0 _ _ _ _ _
      | exact ih1 _ _ _ _ _ _
      | exact ih2 _ _ _ _ _ _ _
      | exact ih3 _ _ _ _ _ _ _ _
      | exact ih4 _ _ _ _ _ _ _ _
      | exact impl_BitList.mono _ _
      | exact impl_GroupOf.mono _ _ _
      | exact impl_Groups.mono _ _ _
      | exact spec_DrawGroups.mono _ _
      | exact spec_GroupOf.mono _ _ _
      | exact spec_Groups.mono _ _ _
      | exact LeO.none _
      | refine LeO.ite ?_ ?_
      | refine LeO.bind ?_ (fun _ => ?_)
theorem laws_FnGroups.mono : ∀ a0 k, LeO (laws_FnGroups.f k a0) (laws_FnGroups.f (k + 1) a0) := by
  intro a0 k
  obtain ⟨ih0, ih1, ih2, ih3, ih4⟩ := laws_FnGroups.mono_l k
  unfold laws_FnGroups.f
  repeat' first
      | (with_reducible exact ih0 _ _ _ _ _)
      | (with_reducible exact ih1 _ _ _ _ _ _)
      | (with_reducible exact ih2 _ _ _ _ _ _ _)
      | (with_reducible exact ih3 _ _ _ _ _ _ _ _)
      | (with_reducible exact ih4 _ _ _ _ _ _ _ _)
      | (with_reducible exact impl_BitList.mono _ _)
      | (with_reducible exact impl_GroupOf.mono _ _ _)
      | (with_reducible exact impl_Groups.mono _ _ _)
      | (with_reducible exact spec_DrawGroups.mono _ _)
      | (with_reducible exact spec_GroupOf.mono _ _ _)
      | (with_reducible exact spec_Groups.mono _ _ _)
      | (with_reducible exact LeO.refl _)
      | (with_reducible exact LeO.none _)
      | (with_reducible refine LeO.ite ?_ ?_)
      | (with_reducible refine LeO.bind ?_ (fun _ => ?_))
      | exact ih0 _ _ _ _ _
      | exact ih1 _ _ _ _ _ _
      | exact ih2 _ _ _ _ _ _ _
      | exact ih3 _ _ _ _ _ _ _ _
      | exact ih4 _ _ _ _ _ _ _ _
      | exact impl_BitList.mono _ _
      | exact impl_GroupOf.mono _ _ _
      | exact impl_Groups.mono _ _ _
      | exact spec_DrawGroups.mono _ _
      | exact spec_GroupOf.mono _ _ _
      | exact spec_Groups.mono _ _ _
      | exact LeO.none _
      | refine LeO.ite ?_ ?_
      | refine LeO.bind ?_ (fun _ => ?_)
def laws_FnGroups.T12 : Bool × List (List Nat × List Nat) := (true, [([], []), ([], []), ([0, 1], [0, 1]), ([2], [2]), ([], []), ([], []), ([4, 5], [4, 5]), ([6], [6]), ([3, 7], [3, 7]), ([8], [8]), ([9], [9]), ([9], [9]), ([10, 11, 9], [9, 10, 11]), ([12, 9], [9, 12]), ([9], [9]), ([13, 14, 9], [9, 13, 14]), ([15, 9], [9, 15]), ([9, 16], [9, 16]), ([17, 9], [17]), ([18], [18]), ([19, 18], [18, 19]), ([20, 18, 18], [18, 20]), ([21], [21]), ([21], [21]), ([23, 21], [21, 23]), ([22, 24, 21], [21, 22, 24]), ([25, 21], [21, 25]), ([26, 21, 21], [21, 26]), ([21], [21]), ([21], [21]), ([28, 29, 21], [21, 28, 29]), ([30, 21], [21, 30]), ([31, 27, 21], [21, 31]), ([27, 32, 21], [21, 27, 32]), ([21, 33, 18], [18, 21, 33]), ([18, 34], [18, 34])])
def laws_FnGroups.B12 : List Nat := [0, 0, 3, 7, 0, 0, 48, 112, 255, 511, 1023, 1023, 4095, 8191, 1023, 32767, 65535, 131071, 262143, 524287, 1048575, 2097151, 4194303, 4194303, 12582911, 33554431, 67108863, 134217727, 4194303, 4194303, 809500671, 1883242495, 4294967295, 8589934591, 17179869183, 34359738367]
theorem laws_FnGroups.tab12 : rtab .any (opsOf Tryd.f3 12) = laws_FnGroups.T12 := by kernel_rfl
theorem laws_FnGroups.bits12 : waitsOk laws_FnGroups.T12.2 laws_FnGroups.B12 = true := by kernel_rfl
def laws_FnGroups.T19 : Bool × List (List Nat × List Nat) := (true, [([], []), ([], []), ([], []), ([1, 2], [1, 2]), ([3], [3]), ([0, 4], [0, 4]), ([5], [5]), ([], []), ([], []), ([8], [8]), ([9], [9]), ([7, 10], [7, 10]), ([11], [11]), ([6, 12], [6, 12])])
def laws_FnGroups.B19 : List Nat := [0, 0, 0, 6, 14, 31, 63, 0, 0, 256, 768, 1920, 3968, 8191]
theorem laws_FnGroups.tab19 : rtab .any (opsOf Tryd.f3 19) = laws_FnGroups.T19 := by kernel_rfl
theorem laws_FnGroups.bits19 : waitsOk laws_FnGroups.T19.2 laws_FnGroups.B19 = true := by kernel_rfl
def laws_FnGroups.T24 : Bool × List (List Nat × List Nat) := (true, [([], []), ([], []), ([], []), ([1, 2], [1, 2]), ([3], [3]), ([4], [4]), ([0, 5], [0, 5]), ([6], [6]), ([], []), ([], []), ([9], [9]), ([10], [10]), ([8, 11], [8, 11]), ([12], [12]), ([7, 13], [7, 13])])
def laws_FnGroups.B24 : List Nat := [0, 0, 0, 6, 14, 30, 63, 127, 0, 0, 512, 1536, 3840, 7936, 16383]
theorem laws_FnGroups.tab24 : rtab .any (opsOf Tryd.f3 24) = laws_FnGroups.T24 := by kernel_rfl
theorem laws_FnGroups.bits24 : waitsOk laws_FnGroups.T24.2 laws_FnGroups.B24 = true := by kernel_rfl
def laws_FnGroups.T26 : Bool × List (List Nat × List Nat) := (true, [([], []), ([0], [0]), ([1], [1]), ([2], [2]), ([3], [3]), ([3], [3]), ([4, 5, 3], [3, 4, 5]), ([6, 3, 3], [3, 6]), ([7], [7]), ([8, 7], [7, 8]), ([9, 7], [7, 9]), ([7], [7]), ([7], [7]), ([11, 12, 7, 7], [7, 11, 12]), ([10, 13, 7], [7, 10, 13]), ([7, 14, 3], [3, 7, 14]), ([3, 15], [3, 15]), ([16, 13, 0, 1, 2, 3, 4, 5, 6, 7, 8, 9, 10, 11, 12, 13, 14, 15, 16], [16])])
def laws_FnGroups.B26 : List Nat := [0, 1, 3, 7, 15, 15, 63, 127, 255, 511, 1023, 255, 255, 6399, 16383, 32767, 65535, 131071]
theorem laws_FnGroups.tab26 : rtab .any (opsOf Tryd.f3 26) = laws_FnGroups.T26 := by kernel_rfl
theorem laws_FnGroups.bits26 : waitsOk laws_FnGroups.T26.2 laws_FnGroups.B26 = true := by kernel_rfl
/-- THE ONE PURE STATEMENT of laws_FnGroups: yours. -/
def laws_FnGroups.Pure : Prop := ∀ (l0 : List Int), l0.length ≤ maxLen → l0.length * 1 ≤ 140737488351232 → (∀ x ∈ l0, (Lit.int .u8 x).wf = true) → ∃ k, laws_FnGroups.f k l0 = some true

end Go.Proofs.YtklgbopdhomnaaaDoor.PFnGroups
