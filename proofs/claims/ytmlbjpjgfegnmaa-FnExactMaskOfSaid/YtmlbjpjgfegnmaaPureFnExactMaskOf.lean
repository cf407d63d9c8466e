/-
  The law FnExactMaskOf: what both programs compute, in plain Lean, and that it is the same.
  Conditions: none beyond those of the statement itself.
-/
import Derived.Test.YtmlbjpjgfegnmaaPFnExactMaskOfx1
import Derived.Test.YtmlbjpjgfegnmaaLib
namespace Go.Proofs.Ytmlbjpjgfegnmaa.Pure
open Go.RowKit Go.Proofs.Ytmlbjpjgfegnmaa.PFnExactMaskOf Go.Proofs.YtmlbjpjgfegnmaaW.PrintWords Go.Proofs.YtmlbjpjgfegnmaaW.PrintLast

/-! ### spec_l01Word -/
theorem spec_l01Word.loop (p : Nat → Bool) : ∀ j : Nat, j ≤ 32 → Ev (fun k => spec_l01Word.l0 k (btl p 32) ((wd p 32 / 2 ^ j : Nat) : Int) ((j : Int) - 1)) ((wd p 32 : Nat) : Int) := by
  intro j
  induction j with
  | zero =>
    intro _
    refine Ev.stop fun k => ?_
    simp only [spec_l01Word.l0]
    rw [if_neg (by omega), Nat.pow_zero, Nat.div_one]
  | succ j ih =>
    intro hj
    refine Ev.step (f := fun k => spec_l01Word.l0 k (btl p 32) ((wd p 32 / 2 ^ j : Nat) : Int) ((j : Int) - 1)) (fun k => ?_) (ih (by omega))
    have hlen := btl_len p 32
    have hi : (((j + 1 : Nat) : Int) - 1) = (j : Int) := by omega
    have h1 := div_lt (wd_lt32 p) j
    have h2 : wd p 32 / 2 ^ (j + 1) = wd p 32 / 2 ^ j / 2 := by rw [Nat.pow_succ, Nat.div_div_eq_div_mul]
    have h3 : (if p j = true then (1 : Int) else 0) = ((wd p 32 / 2 ^ j % 2 : Nat) : Int) := by
      have hb := wd_bit p 32 j
      have hj' : j < 32 := by omega
      rw [Nat.testBit_eq_decide_div_mod_eq, decide_eq_true hj', Bool.true_and] at hb
      rcases Nat.mod_two_eq_zero_or_one (wd p 32 / 2 ^ j) with h | h
      · rw [h] at hb ⊢
        rw [← hb]; rfl
      · rw [h] at hb ⊢
        rw [← hb]; rfl
    have h4 : (((2 * ((wd p 32 / 2 ^ (j + 1) : Nat) : Int)) % 4294967296) + ((if p j = true then (1 : Int) else 0) % 4294967296)) % 4294967296 = ((wd p 32 / 2 ^ j : Nat) : Int) := by
      rw [h3, h2]
      generalize wd p 32 / 2 ^ j = y at h1 ⊢
      omega
    simp only [spec_l01Word.l0]
    rw [hi, if_pos (by omega), if_pos (by omega), if_pos (by omega), btl_rd p (by omega : j < 32), w64 (by omega) (by omega), h4]
theorem spec_l01Word.ev (p : Nat → Bool) : Ev (fun k => spec_l01Word.f k (btl p 32)) ((wd p 32 : Nat) : Int) := by
  have h := spec_l01Word.loop p 32 (Nat.le_refl _)
  rw [Nat.div_eq_of_lt (wd_lt32 p)] at h
  refine Ev.congr (fun k => ?_) h
  simp only [spec_l01Word.f]
  rw [btl_len, w64 (by omega) (by omega)]
  rfl
/-! ### spec_MaskOf -/
theorem spec_MaskOf.loop (a : Int) (d : Nat) : ∀ i : Nat, a.toNat = i + d → a ≤ 32 → Ev (fun k => spec_MaskOf.l0 k a (btl (fun j => decide (j < i)) 32) (i : Int)) ((wd (fun j => decide (j < i + d)) 32 : Nat) : Int) := by
  induction d with
  | zero =>
    intro i hi ha
    refine Ev.step (f := fun k => (spec_l01Word.f k (btl (fun j => decide (j < i)) 32)).bind fun t => some t) (fun k => ?_) (Ev.bind (spec_l01Word.ev _) (Ev.now _))
    simp only [spec_MaskOf.l0]
    rw [if_neg (by omega)]
  | succ d ih =>
    intro i hi ha
    have h := ih (i + 1) (by omega) ha
    rw [show i + 1 + d = i + (d + 1) by omega] at h
    have hlen := btl_len (fun j => decide (j < i)) 32
    have e : btl (fun j => decide (j < i) || j == i) 32 = btl (fun j => decide (j < i + 1)) 32 := btl_congr fun j _ => by
      by_cases h1 : j < i
      · have : j < i + 1 := by omega
        simp [h1, this]
      · by_cases h2 : j = i
        · subst h2; simp
        · have : ¬ j < i + 1 := by omega
          simp [h1, h2, this]
    refine Ev.step (f := fun k => spec_MaskOf.l0 k a (btl (fun j => decide (j < i + 1)) 32) ((i + 1 : Nat) : Int)) (fun k => ?_) h
    simp only [spec_MaskOf.l0]
    rw [if_pos (by omega), if_pos ha, if_pos (by omega), if_pos (by omega), w64_succ (by omega), Int.toNat_natCast, btl_set _ 32 (by omega), e]
theorem spec_MaskOf.ev (a : Int) : Ev (fun k => spec_MaskOf.f k a) ((wd (fun j => decide ((j : Int) < a ∧ a ≤ 32)) 32 : Nat) : Int) := by
  have h0 : List.replicate 32 (0 : Int) = btl (fun j => decide (j < 0)) 32 := by
    rw [btl_none]
    exact btl_congr fun j _ => by simp
  by_cases h : a ≤ 32
  · have h1 := spec_MaskOf.loop a a.toNat 0 (by omega) h
    have e : wd (fun j => decide ((j : Int) < a ∧ a ≤ 32)) 32 = wd (fun j => decide (j < 0 + a.toNat)) 32 := wd_congr fun i _ => decide_eq_decide.2 (by omega)
    rw [e]
    refine Ev.congr (fun k => ?_) h1
    simp only [spec_MaskOf.f]
    rw [if_pos (by decide), h0]
    rfl
  · have e : wd (fun j => decide ((j : Int) < a ∧ a ≤ 32)) 32 = wd (fun j => decide (j < 0)) 32 := wd_congr fun i _ => decide_eq_decide.2 (by omega)
    rw [e]
    refine Ev.congr (f := fun k => spec_MaskOf.l0 k a (btl (fun j => decide (j < 0)) 32) 0) (fun k => ?_) ?_
    · simp only [spec_MaskOf.f]
      rw [if_pos (by decide), h0]
    · refine Ev.step (f := fun k => (spec_l01Word.f k (btl (fun j => decide (j < 0)) 32)).bind fun t => some t) (fun k => ?_) (Ev.bind (spec_l01Word.ev _) (Ev.now _))
      simp only [spec_MaskOf.l0]
      rw [if_pos (by omega), if_neg h]
/-! ### impl_within -/
theorem impl_within.eq (a lo hi : Int) : impl_within.f a lo hi = some (decide (lo ≤ a ∧ a ≤ hi)) := by
  unfold impl_within.f
  split
  · rename_i h
    have : lo ≤ a := h
    simp [this]
  · rename_i h
    have : ¬ lo ≤ a := h
    simp [this]
/-! ### impl_MaskOf -/
theorem impl_MaskOf.eq (a : Int) : impl_MaskOf.f a = some ((wd (fun j => decide ((j : Int) < a ∧ a ≤ 32)) 32 : Nat) : Int) := by
  unfold impl_MaskOf.f
  rw [impl_within.eq, Option.bind_some]
  by_cases h : 0 ≤ a ∧ a ≤ 32
  · rw [if_pos (by simpa using h), if_pos h.1]
    obtain ⟨m, rfl⟩ : ∃ m : Nat, a = m := ⟨a.toNat, by omega⟩
    have e : wd (fun j => decide ((j : Int) < (m : Int) ∧ (m : Int) ≤ 32)) 32 = 2 ^ m - 1 := by
      rw [← wd_mask (by omega : m ≤ 32)]
      exact wd_congr fun i _ => decide_eq_decide.2 (by omega)
    rw [e]
    have hq : 0 < (2 : Nat) ^ m := Nat.two_pow_pos m
    by_cases h2 : m = 32
    · subst h2; rfl
    · have hp := two_pow_lt (i := m) (by omega)
      rw [shl_one (by omega : m < 32)]
      congr 1
      omega
  · rw [if_neg (by simpa using h)]
    have e : wd (fun j => decide ((j : Int) < a ∧ a ≤ 32)) 32 = 0 := by
      refine (wd_congr fun i _ => ?_).trans (wd_false 32)
      have : ¬ ((i : Int) < a ∧ a ≤ 32) := by omega
      simp only [this, decide_false]
    rw [e]
    rfl
/-! ### laws_FnExactMaskOf -/
theorem FnExactMaskOf : laws_FnExactMaskOf.Pure := by
  intro a0 _
  obtain ⟨k, e1⟩ := (spec_MaskOf.ev a0).rounds
  refine ⟨k, ?_⟩
  unfold laws_FnExactMaskOf.f
  rw [e1, impl_MaskOf.eq, Option.bind_some, Option.bind_some, if_pos rfl]

end Go.Proofs.Ytmlbjpjgfegnmaa.Pure
