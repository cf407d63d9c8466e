-- Written by this session's program (wip/bin/myprint.sh) by means of the kit's print.py; Lean checks it.
import Derived.Test.YtllidkccikmgiaaPFnMemOpsx0
import Derived.Test.YtllidkccikmgiaaPFnMemOpsx1
import Derived.Test.YtllidkccikmgiaaPFnMemOpsx2
import Derived.Test.YtllidkccikmgiaaPFnMemOpsx3
namespace Go.Proofs.Ytllidkccikmgiaa.PFnMemOps
open Go.RowKit Go.Proofs.YtllidkccikmgiaaW.PrintWords Go.Proofs.YtllidkccikmgiaaW.PrintLast Go.Proofs.YtllidkccikmgiaaW.PrintMore
attribute [local go_sem] max2_int min2_int max_two min_two max_three min_three max_four min_four   -- for this text's walks alone
set_option linter.unusedVariables false
set_option linter.unusedSimpArgs false

/-! ### laws_FnMemOps: function 8 -/
mutual
def laws_FnMemOps.j0 : Nat → Int → Int → Bool → Int → Bool → Bool → List Int → List Int → List Int → Option (Bool)
  | 0, _, _, _, _, _, _, _, _, _ => none
  | k + 1, x4, x5, x8, x10, x11, x69, x289000, x295000, x301000 => if x69 = true then (if (x11 == x8) = true then ((laws_sameMem.f k x301000 x295000).bind fun t302 => (some t302)) else (some false)) else ((impl_MemAdd.f x301000 x4 ((-x5) % 4294967296)).bind fun bt303 => ((impl_MemOr.f x289000 x4 x5).bind fun bt309 => ((impl_MemAnd.f x289000 x4 x5).bind fun bt315 => ((impl_MemLoad.f bt309.1 x4).bind fun bt321 => ((impl_MemLoad.f bt315.1 x4).bind fun bt323 => ((impl_MemStore.f x301000 x4 x10).bind fun bt325 => (laws_FnMemOps.l0 k x4 x5 x10 bt303.2.2 bt309.2.2 bt315.2.2 bt321.1 bt323.1 bt325.2 0 x289000 x301000 bt303.1 bt309.1 bt315.1 bt325.1)))))))
def laws_FnMemOps.l0 : Nat → Int → Int → Int → Bool → Bool → Bool → Int → Int → Bool → Int → List Int → List Int → List Int → List Int → List Int → List Int → Option (Bool)
  | 0, _, _, _, _, _, _, _, _, _, _, _, _, _, _, _, _ => none
  | k + 1, x4, x5, x10, x14, x17, x20, x21, x23, x26, x27, x289000, x301000, x309000, x315000, x321000, x330000 => if x27 < (x289000.length : Int) then (if x27 = x4 then (laws_FnMemOps.l0 k x4 x5 x10 x14 x17 x20 x21 x23 x26 (wrap64 (x27 + 1)) x289000 x301000 x309000 x315000 x321000 x330000) else (if 0 ≤ x27 then (if x27 < (x301000.length : Int) then (if (rd x301000 x27) = (rd x289000 x27) then (if x27 < (x315000.length : Int) then (if (rd x315000 x27) = (rd x289000 x27) then (if x27 < (x321000.length : Int) then (if (rd x321000 x27) = (rd x289000 x27) then (laws_FnMemOps.l0 k x4 x5 x10 x14 x17 x20 x21 x23 x26 (wrap64 (x27 + 1)) x289000 x301000 x309000 x315000 x321000 x330000) else (some false)) else (none)) else (some false)) else (none)) else (some false)) else (none)) else (none))) else (if x14 = true then (if x17 = true then (if x20 = true then (if x26 = true then ((laws_sameMem.f k x309000 x289000).bind fun t336 => (if t336 = true then ((laws_sameMem.f k x330000 x289000).bind fun t337 => (if t337 = true then (some (((x21 + x23) % 4294967296) == ((x10 + x5) % 4294967296))) else (some false))) else (some false))) else (some false)) else (some false)) else (some false)) else (some false))
end
def laws_FnMemOps.f (k : Nat) (l0 : List Int) : Option (Bool) := (laws_big.f l0).bind fun t282 => (if t282 = true then (some true) else ((spec_DrawMemAdd.f k l0).bind fun bt283 => ((spec_MemAdd.f bt283.1 bt283.2.1 bt283.2.2).bind fun bt289 => ((impl_MemAdd.f bt283.1 bt283.2.1 bt283.2.2).bind fun bt295 => (if (bt295.2.2 != bt289.2.2) = true then (laws_FnMemOps.j0 k bt283.2.1 bt283.2.2 bt289.2.2 bt295.2.1 bt295.2.2 true bt283.1 bt289.1 bt295.1) else (if bt295.2.1 = bt289.2.1 then ((laws_sameMem.f k bt295.1 bt289.1).bind fun t301 => (if t301 = true then (laws_FnMemOps.j0 k bt283.2.1 bt283.2.2 bt289.2.2 bt295.2.1 bt295.2.2 (!bt295.2.2) bt283.1 bt289.1 bt295.1) else (laws_FnMemOps.j0 k bt283.2.1 bt283.2.2 bt289.2.2 bt295.2.1 bt295.2.2 true bt283.1 bt289.1 bt295.1))) else (laws_FnMemOps.j0 k bt283.2.1 bt283.2.2 bt289.2.2 bt295.2.1 bt295.2.2 true bt283.1 bt289.1 bt295.1)))))))
theorem laws_FnMemOps.mono_l : ∀ k, (∀ y0 y1 y2 y3 y4 y5 y6 y7 y8, LeO (laws_FnMemOps.j0 k y0 y1 y2 y3 y4 y5 y6 y7 y8) (laws_FnMemOps.j0 (k + 1) y0 y1 y2 y3 y4 y5 y6 y7 y8)) ∧ (∀ y0 y1 y2 y3 y4 y5 y6 y7 y8 y9 y10 y11 y12 y13 y14 y15, LeO (laws_FnMemOps.l0 k y0 y1 y2 y3 y4 y5 y6 y7 y8 y9 y10 y11 y12 y13 y14 y15) (laws_FnMemOps.l0 (k + 1) y0 y1 y2 y3 y4 y5 y6 y7 y8 y9 y10 y11 y12 y13 y14 y15))
  | 0 => ⟨fun _ _ _ _ _ _ _ _ _ r h => by simp [laws_FnMemOps.j0] at h, fun _ _ _ _ _ _ _ _ _ _ _ _ _ _ _ _ r h => by simp [laws_FnMemOps.l0] at h⟩
  | k + 1 => by
    obtain ⟨ih0, ih1⟩ := laws_FnMemOps.mono_l k
    refine ⟨?_, ?_⟩
    · intro y0 y1 y2 y3 y4 y5 y6 y7 y8
      unfold laws_FnMemOps.j0
      repeat' first
      | (with_reducible exact ih0 _ _ _ _ _ _ _ _ _)
      | (with_reducible exact ih1 _ _ _ _ _ _ _ _ _ _ _ _ _ _ _ _)
      | (with_reducible exact laws_sameMem.mono _ _ _)
      | (with_reducible exact spec_DrawMemAdd.mono _ _)
      | (with_reducible exact LeO.refl _)
      | (with_reducible exact LeO.none _)
      | (with_reducible refine LeO.ite ?_ ?_)
      | (with_reducible refine LeO.bind ?_ (fun _ => ?_))
      | exact ih0 _ _ _ _ _ _ _ _ _
      | exact ih1 _ _ _ _ _ _ _ _ _ _ _ _ _ _ _ _
      | exact laws_sameMem.mono _ _ _
      | exact spec_DrawMemAdd.mono _ _
      | exact LeO.none _
      | refine LeO.ite ?_ ?_
      | refine LeO.bind ?_ (fun _ => ?_)
    · intro y0 y1 y2 y3 y4 y5 y6 y7 y8 y9 y10 y11 y12 y13 y14 y15
      unfold laws_FnMemOps.l0
      repeat' first
      | (with_reducible exact ih0 _ _ _ _ _ _ _ _ _)
      | (with_reducible exact ih1 _ _ _ _ _ _ _ _ _ _ _ _ _ _ _ _)
      | (with_reducible exact laws_sameMem.mono _ _ _)
      | (with_reducible exact spec_DrawMemAdd.mono _ _)
      | (with_reducible exact LeO.refl _)
      | (with_reducible exact LeO.none _)
      | (with_reducible refine LeO.ite ?_ ?_)
      | (with_reducible refine LeO.bind ?_ (fun _ => ?_))
      | exact ih0 _ _ _ _ _ _ _ _ _
      | exact ih1 _ _ _ _ _ _ _ _ _ _ _ _ _ _ _ _
      | exact laws_sameMem.mono _ _ _
      | exact spec_DrawMemAdd.mono _ _
      | exact LeO.none _
      | refine LeO.ite ?_ ?_
      | refine LeO.bind ?_ (fun _ => ?_)
theorem laws_FnMemOps.mono : ∀ a0 k, LeO (laws_FnMemOps.f k a0) (laws_FnMemOps.f (k + 1) a0) := by
  intro a0 k
  obtain ⟨ih0, ih1⟩ := laws_FnMemOps.mono_l k
  unfold laws_FnMemOps.f
  repeat' first
      | (with_reducible exact ih0 _ _ _ _ _ _ _ _ _)
      | (with_reducible exact ih1 _ _ _ _ _ _ _ _ _ _ _ _ _ _ _ _)
      | (with_reducible exact laws_sameMem.mono _ _ _)
      | (with_reducible exact spec_DrawMemAdd.mono _ _)
      | (with_reducible exact LeO.refl _)
      | (with_reducible exact LeO.none _)
      | (with_reducible refine LeO.ite ?_ ?_)
      | (with_reducible refine LeO.bind ?_ (fun _ => ?_))
      | exact ih0 _ _ _ _ _ _ _ _ _
      | exact ih1 _ _ _ _ _ _ _ _ _ _ _ _ _ _ _ _
      | exact laws_sameMem.mono _ _ _
      | exact spec_DrawMemAdd.mono _ _
      | exact LeO.none _
      | refine LeO.ite ?_ ?_
      | refine LeO.bind ?_ (fun _ => ?_)
/-- THE ONE PURE STATEMENT of laws_FnMemOps: yours. -/
def laws_FnMemOps.Pure : Prop := ∀ (l0 : List Int), l0.length ≤ maxLen → l0.length * 1 ≤ 140737488351232 → (∀ x ∈ l0, (Lit.int .u8 x).wf = true) → ∃ k, laws_FnMemOps.f k l0 = some true

end Go.Proofs.Ytllidkccikmgiaa.PFnMemOps
