/-
  The law FnExactPerPage: what both programs compute, in plain Lean, and that it is the same.
  Conditions: none beyond those of the statement itself.
-/
import Derived.Test.YtmlbjpjgfegnmaaPFnExactPerPagex1
import Derived.Test.YtmlbjpjgfegnmaaLib
namespace Go.Proofs.Ytmlbjpjgfegnmaa.Pure
open Go.RowKit Go.Proofs.Ytmlbjpjgfegnmaa.PFnExactPerPage Go.Proofs.YtmlbjpjgfegnmaaW.PrintWords Go.Proofs.YtmlbjpjgfegnmaaW.PrintLast

/-! ### spec_l04Class -/
theorem spec_l04Class.eq (a : Int) : spec_l04Class.f a = some (decide (0 ≤ a ∧ a < 5)) := by
  unfold spec_l04Class.f
  split
  · rename_i h
    have : 0 ≤ a := h
    simp [this]
  · rename_i h
    have : ¬ 0 ≤ a := h
    simp [this]
/-! ### spec_l04Pow -/
theorem spec_l04Pow.loop (d : Nat) : ∀ m : Nat, m + d < 62 → Ev (fun k => spec_l04Pow.l0 k (d : Int) ((2 ^ m : Nat) : Int)) ((2 ^ (m + d) : Nat) : Int) := by
  induction d with
  | zero =>
    intro m hm
    refine Ev.stop fun k => ?_
    simp only [spec_l04Pow.l0]
    rw [if_neg (by omega)]
    rfl
  | succ d ih =>
    intro m hm
    have h := ih (m + 1) (by omega)
    rw [show m + 1 + d = m + (d + 1) by omega] at h
    refine Ev.step (fun k => ?_) h
    have hp : (2 : Nat) ^ (m + 1) < 2 ^ 62 := Nat.pow_lt_pow_right (by decide) (by omega)
    have e : wrap64 (2 * ((2 ^ m : Nat) : Int)) = ((2 ^ (m + 1) : Nat) : Int) := by
      rw [Nat.pow_succ] at hp ⊢
      rw [w64 (by omega) (by omega)]
      omega
    simp only [spec_l04Pow.l0]
    rw [if_pos (by omega), e, w64 (by omega) (by omega), show ((d + 1 : Nat) : Int) - 1 = (d : Int) by omega]
theorem spec_l04Pow.ev (d : Nat) (hd : d < 62) : Ev (fun k => spec_l04Pow.f k (d : Int)) ((2 ^ d : Nat) : Int) := by
  have h := spec_l04Pow.loop d 0 (by omega)
  rw [Nat.zero_add] at h
  exact Ev.congr (fun _ => rfl) h
/-! ### spec_PerPage -/
theorem spec_PerPage.ev (a : Int) : Ev (fun k => spec_PerPage.f k a) (pgs a) := by
  unfold pgs
  by_cases h : 0 ≤ a ∧ a < 5
  · rw [if_pos h]
    obtain ⟨m, rfl⟩ : ∃ m : Nat, a = m := ⟨a.toNat, by omega⟩
    have hm : m = 0 ∨ m = 1 ∨ m = 2 ∨ m = 3 ∨ m = 4 := by omega
    refine Ev.congr (f := fun k => (spec_l04Pow.f k (m : Int)).bind fun t => if t = 0 then none else some (wrap64 ((16 : Int) / t))) (fun k => ?_) (Ev.bind (spec_l04Pow.ev m (by omega)) ?_)
    · simp only [spec_PerPage.f]
      rw [spec_l04Class.eq, Option.bind_some, if_pos (by simpa using h)]
    · rcases hm with rfl | rfl | rfl | rfl | rfl <;> exact Ev.const (by decide +kernel)
  · rw [if_neg h]
    refine Ev.congr (fun k => ?_) (Ev.now _)
    simp only [spec_PerPage.f]
    rw [spec_l04Class.eq, Option.bind_some, if_neg (by simpa using h)]
/-! ### impl_within -/
theorem impl_within.eq (a lo hi : Int) : impl_within.f a lo hi = some (decide (lo ≤ a ∧ a ≤ hi)) := by
  unfold impl_within.f
  split
  · rename_i h
    have : lo ≤ a := h
    simp [this]
  · rename_i h
    have : ¬ lo ≤ a := h
    simp [this]
/-! ### impl_isClass -/
theorem impl_isClass.eq (a : Int) : impl_isClass.f a = some (decide (0 ≤ a ∧ a < 5)) := by
  unfold impl_isClass.f
  rw [impl_within.eq, Option.bind_some]
  have : (0 ≤ a ∧ a ≤ 4) ↔ (0 ≤ a ∧ a < 5) := by omega
  simp only [this]
/-! ### impl_PerPage -/
theorem impl_PerPage.eq (a : Int) : impl_PerPage.f a = some (pgs a) := by
  unfold impl_PerPage.f pgs
  rw [impl_isClass.eq, Option.bind_some]
  by_cases h : 0 ≤ a ∧ a < 5
  · rw [if_pos h, if_pos (by simpa using h), if_pos h.1]
    have : a = 0 ∨ a = 1 ∨ a = 2 ∨ a = 3 ∨ a = 4 := by omega
    rcases this with rfl | rfl | rfl | rfl | rfl <;> rfl
  · rw [if_neg h, if_neg (by simpa using h)]
/-! ### laws_FnExactPerPage -/
theorem FnExactPerPage : laws_FnExactPerPage.Pure := by
  intro a0 _
  obtain ⟨k, e1⟩ := (spec_PerPage.ev a0).rounds
  refine ⟨k, ?_⟩
  unfold laws_FnExactPerPage.f
  rw [e1, impl_PerPage.eq, Option.bind_some, Option.bind_some, if_pos rfl]

end Go.Proofs.Ytmlbjpjgfegnmaa.Pure
