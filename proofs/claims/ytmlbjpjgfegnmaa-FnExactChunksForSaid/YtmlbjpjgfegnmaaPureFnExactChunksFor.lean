/-
  The law FnExactChunksFor: what both programs compute, in plain Lean, and that it is the same.
  Conditions: none beyond those of the statement itself.
-/
import Derived.Test.YtmlbjpjgfegnmaaPFnExactChunksForx1
import Derived.Test.YtmlbjpjgfegnmaaLib
namespace Go.Proofs.Ytmlbjpjgfegnmaa.Pure
open Go.RowKit Go.Proofs.Ytmlbjpjgfegnmaa.PFnExactChunksFor Go.Proofs.YtmlbjpjgfegnmaaW.PrintWords Go.Proofs.YtmlbjpjgfegnmaaW.PrintLast

/-! ### spec_ChunksFor -/
theorem spec_ChunksFor.eq (a : Int) : spec_ChunksFor.f a = some (if 17 ≤ a ∧ a ≤ 256 then (a + 15) / 16 else 0) := by
  unfold spec_ChunksFor.f
  by_cases h1 : a ≤ 16
  · rw [if_pos h1, if_neg (by omega)]
  · by_cases h2 : a > 256
    · rw [if_neg h1, if_pos h2, if_neg (by omega)]
    · rw [if_neg h1, if_neg h2, if_pos (by omega), w64 (x := a + 16) (by omega) (by omega), w64 (x := a + 16 - 1) (by omega) (by omega), Int.tdiv_eq_ediv_of_nonneg (by omega), w64 (by omega) (by omega)]
      congr 1
      omega
/-! ### impl_within -/
theorem impl_within.eq (a lo hi : Int) : impl_within.f a lo hi = some (decide (lo ≤ a ∧ a ≤ hi)) := by
  unfold impl_within.f
  split
  · rename_i h
    have : lo ≤ a := h
    simp [this]
  · rename_i h
    have : ¬ lo ≤ a := h
    simp [this]
/-! ### impl_ChunksFor -/
theorem impl_ChunksFor.eq (a : Int) : impl_ChunksFor.f a = some (if 17 ≤ a ∧ a ≤ 256 then (a + 15) / 16 else 0) := by
  unfold impl_ChunksFor.f
  rw [impl_within.eq, Option.bind_some]
  by_cases h : 17 ≤ a ∧ a ≤ 256
  · rw [if_pos (by simpa using h), if_pos h, w64 (x := a + 16) (by omega) (by omega), w64 (x := a + 16 - 1) (by omega) (by omega), Int.tdiv_eq_ediv_of_nonneg (by omega), w64 (by omega) (by omega)]
    congr 1
    omega
  · rw [if_neg (by simpa using h), if_neg h]
/-! ### laws_FnExactChunksFor -/
theorem FnExactChunksFor : laws_FnExactChunksFor.Pure := by
  intro a0 _
  unfold laws_FnExactChunksFor.f
  rw [spec_ChunksFor.eq, impl_ChunksFor.eq, Option.bind_some, Option.bind_some, if_pos rfl]

end Go.Proofs.Ytmlbjpjgfegnmaa.Pure
