/-
  The law FnExactLongest: what both programs compute, in plain Lean, and that it is the same.
  Conditions: none beyond those of the statement itself.
-/
import Derived.Test.YtmlbjpjgfegnmaaPFnExactLongestx1
import Derived.Test.YtmlbjpjgfegnmaaLib
namespace Go.Proofs.Ytmlbjpjgfegnmaa.Pure
open Go.RowKit Go.Proofs.Ytmlbjpjgfegnmaa.PFnExactLongest Go.Proofs.YtmlbjpjgfegnmaaW.PrintWords Go.Proofs.YtmlbjpjgfegnmaaW.PrintLast

/-! ### spec_l01Bits -/
theorem spec_l01Bits.loop (n : Nat) (hn : n < 2 ^ 32) (d : Nat) : ∀ i : Nat, i + d = 32 → Ev (fun k => spec_l01Bits.l0 k ((n / 2 ^ i : Nat) : Int) (btl n.testBit i) (i : Int)) (btl n.testBit 32) := by
  induction d with
  | zero =>
    intro i hi
    obtain rfl : i = 32 := by omega
    refine Ev.stop fun k => ?_
    simp only [spec_l01Bits.l0]
    rw [if_neg (by omega)]
  | succ d ih =>
    intro i hi
    refine Ev.step (f := fun k => spec_l01Bits.l0 k ((n / 2 ^ (i + 1) : Nat) : Int) (btl n.testBit (i + 1)) ((i + 1 : Nat) : Int)) (fun k => ?_) (ih (i + 1) (by omega))
    have hlen := btl_len n.testBit i
    have hlt := div_lt hn i
    have e1 : Int.tdiv ((n / 2 ^ i : Nat) : Int) 2 % 4294967296 = ((n / 2 ^ (i + 1) : Nat) : Int) := by
      rw [Int.tdiv_eq_ediv_of_nonneg (Int.natCast_nonneg _), Nat.pow_succ, ← Nat.div_div_eq_div_mul]
      generalize n / 2 ^ i = y at hlt ⊢
      omega
    have e2 : wrap64 (Int.tmod ((n / 2 ^ i : Nat) : Int) 2) = if n.testBit i = true then 1 else 0 := by
      rw [Int.tmod_eq_emod_of_nonneg (Int.natCast_nonneg _), Nat.testBit_eq_decide_div_mod_eq]
      have h := Nat.mod_two_eq_zero_or_one (n / 2 ^ i)
      have h2 : ((n / 2 ^ i : Nat) : Int) % 2 = ((n / 2 ^ i % 2 : Nat) : Int) := (Int.natCast_emod _ _).symm
      rw [h2]
      rcases h with h | h
      · rw [h]; exact wrap64_0
      · rw [h]; exact wrap64_1
    simp only [spec_l01Bits.l0]
    rw [if_pos (by omega), if_pos (by omega), w64_succ (by omega), e1, e2, btl_succ]
theorem spec_l01Bits.ev (n : Nat) (hn : n < 2 ^ 32) : Ev (fun k => spec_l01Bits.f k (n : Int)) (btl n.testBit 32) := by
  have h := spec_l01Bits.loop n hn 32 0 rfl
  rw [Nat.pow_zero, Nat.div_one] at h
  exact Ev.congr (fun _ => rfl) h
/-! ### spec_Longest -/
theorem spec_Longest.inner (p : Nat → Bool) (w i s m : Nat) (hw : w ≤ 32) (r : Int × Int)
    (hlast : run p w (w - i) i > m → Ev (fun k => spec_Longest.l0 k (w : Int) (btl p 32) (i : Int) ((run p w (w - i) i : Nat) : Int) ((i + 1 : Nat) : Int)) r)
    (hkeep : ¬ run p w (w - i) i > m → Ev (fun k => spec_Longest.l0 k (w : Int) (btl p 32) (s : Int) (m : Int) ((i + 1 : Nat) : Int)) r) (d : Nat) :
    ∀ n : Nat, i + n + d = w → run p w (w - i) i = n + run p w d (i + n) → Ev (fun k => spec_Longest.l1 k (w : Int) (btl p 32) (s : Int) (m : Int) (i : Int) (n : Int)) r := by
  induction d with
  | zero =>
    intro n hn hr
    simp only [run, Nat.add_zero] at hr
    have e : wrap64 ((i : Int) + (n : Int)) = ((i + n : Nat) : Int) := by rw [w64 (by omega) (by omega)]; omega
    by_cases h : run p w (w - i) i > m
    · refine Ev.step (fun k => ?_) (hlast h)
      simp only [spec_Longest.l1]
      rw [e, if_neg (by omega), if_pos (by omega), w64_succ (by omega), hr]
    · refine Ev.step (fun k => ?_) (hkeep h)
      simp only [spec_Longest.l1]
      rw [e, if_neg (by omega), if_neg (by omega), w64_succ (by omega)]
  | succ d ih =>
    intro n hn hr
    simp only [run] at hr
    have e : wrap64 ((i : Int) + (n : Int)) = ((i + n : Nat) : Int) := by rw [w64 (by omega) (by omega)]; omega
    have hlen := btl_len p 32
    by_cases hp : p (i + n) = true
    · rw [if_neg (by simp [hp])] at hr
      have hr' : run p w (w - i) i = n := hr
      by_cases h : run p w (w - i) i > m
      · refine Ev.step (fun k => ?_) (hlast h)
        simp only [spec_Longest.l1]
        rw [e, if_pos (by omega), if_pos (by omega), if_pos (by omega), btl_rd p (by omega), if_pos hp, if_neg (by decide), if_pos (by omega), w64_succ (by omega), hr']
      · refine Ev.step (fun k => ?_) (hkeep h)
        simp only [spec_Longest.l1]
        rw [e, if_pos (by omega), if_pos (by omega), if_pos (by omega), btl_rd p (by omega), if_pos hp, if_neg (by decide), if_neg (by omega), w64_succ (by omega)]
    · rw [if_pos ⟨by omega, by simpa using hp⟩] at hr
      refine Ev.step (fun k => ?_) (ih (n + 1) (by omega) (by rw [hr, show i + (n + 1) = i + n + 1 by omega]; omega))
      simp only [spec_Longest.l1]
      rw [e, if_pos (by omega), if_pos (by omega), if_pos (by omega), btl_rd p (by omega), if_neg hp, if_pos rfl, w64_succ (by omega)]
theorem spec_Longest.outer (p : Nat → Bool) (w : Nat) (hw : w ≤ 32) (d : Nat) : ∀ i s m : Nat, i + d = w → Ev (fun k => spec_Longest.l0 k (w : Int) (btl p 32) (s : Int) (m : Int) (i : Int)) (lng p w d i s m) := by
  induction d with
  | zero =>
    intro i s m hi
    refine Ev.stop fun k => ?_
    simp only [spec_Longest.l0, lng]
    rw [if_neg (by omega)]
  | succ d ih =>
    intro i s m hi
    refine Ev.step (f := fun k => spec_Longest.l1 k (w : Int) (btl p 32) (s : Int) (m : Int) (i : Int) 0) (fun k => ?_) ?_
    · simp only [spec_Longest.l0]
      rw [if_pos (by omega)]
    · refine spec_Longest.inner p w i s m hw _ (fun h => ?_) (fun h => ?_) (w - i) 0 (by omega) (by rw [Nat.zero_add]; rfl)
      · simp only [lng]; rw [if_pos h]; exact ih _ _ _ (by omega)
      · simp only [lng]; rw [if_neg h]; exact ih _ _ _ (by omega)
theorem spec_Longest.ev (n : Nat) (hn : n < 2 ^ 32) (w : Nat) (hw : w ≤ 32) : Ev (fun k => spec_Longest.f k (n : Int) (w : Int)) (lng n.testBit w w 0 0 0) := by
  refine Ev.congr (f := fun k => spec_Longest.j0 k (n : Int) (w : Int) (decide ((w : Int) > 32))) (fun k => ?_) ?_
  · simp only [spec_Longest.f]
    rw [if_neg (by omega)]
  · refine Ev.step (f := fun k => (spec_l01Bits.f k (n : Int)).bind fun t => spec_Longest.l0 k (w : Int) t 0 0 0) (fun k => ?_) (Ev.bind (spec_l01Bits.ev n hn) (spec_Longest.outer n.testBit w hw w 0 0 0 (by omega)))
    simp only [spec_Longest.j0]
    rw [if_neg (by simp; omega)]
theorem spec_Longest.out (x w : Int) (hw : w < 0 ∨ 32 < w) : Ev (fun k => spec_Longest.f k x w) (-1, 0) := by
  by_cases h : w < 0
  · refine Ev.congr (f := fun k => spec_Longest.j0 k x w true) (fun k => ?_) (Ev.stop fun k => ?_)
    · simp only [spec_Longest.f]
      rw [if_pos h]
    · simp only [spec_Longest.j0]
      rw [if_pos trivial]
  · refine Ev.congr (f := fun k => spec_Longest.j0 k x w (decide (w > 32))) (fun k => ?_) (Ev.stop fun k => ?_)
    · simp only [spec_Longest.f]
      rw [if_neg h]
    · simp only [spec_Longest.j0]
      rw [if_pos (by simp; omega)]
/-! ### impl_within -/
theorem impl_within.eq (a lo hi : Int) : impl_within.f a lo hi = some (decide (lo ≤ a ∧ a ≤ hi)) := by
  unfold impl_within.f
  split
  · rename_i h
    have : lo ≤ a := h
    simp [this]
  · rename_i h
    have : ¬ lo ≤ a := h
    simp [this]
/-! ### impl_Longest -/
theorem impl_Longest.inner (x : Nat) (hx : x < 2 ^ 32) (w i s m : Nat) (hw : w ≤ 32) (r : Int × Int)
    (hlast : run x.testBit w (w - i) i > m → Ev (fun k => impl_Longest.l0 k (x : Int) (w : Int) (i : Int) ((run x.testBit w (w - i) i : Nat) : Int) (w : Int) ((i + 1 : Nat) : Int)) r)
    (hkeep : ¬ run x.testBit w (w - i) i > m → Ev (fun k => impl_Longest.l0 k (x : Int) (w : Int) (s : Int) (m : Int) (w : Int) ((i + 1 : Nat) : Int)) r) (d : Nat) :
    ∀ n : Nat, i + n + d = w → run x.testBit w (w - i) i = n + run x.testBit w d (i + n) → Ev (fun k => impl_Longest.l1 k (x : Int) (w : Int) (s : Int) (m : Int) (i : Int) ((i + n : Nat) : Int) (w : Int) (i : Int)) r := by
  induction d with
  | zero =>
    intro n hn hr
    simp only [run, Nat.add_zero] at hr
    have e : wrap64 (((i + n : Nat) : Int) - (i : Int)) = (n : Int) := by rw [w64 (by omega) (by omega)]; omega
    by_cases h : run x.testBit w (w - i) i > m
    · refine Ev.step (fun k => ?_) (hlast h)
      simp only [impl_Longest.l1]
      rw [if_neg (by omega), e, if_pos (by omega), w64_succ (by omega), hr]
    · refine Ev.step (fun k => ?_) (hkeep h)
      simp only [impl_Longest.l1]
      rw [if_neg (by omega), e, if_neg (by omega), w64_succ (by omega)]
  | succ d ih =>
    intro n hn hr
    simp only [run] at hr
    have e : wrap64 (((i + n : Nat) : Int) - (i : Int)) = (n : Int) := by rw [w64 (by omega) (by omega)]; omega
    by_cases hp : x.testBit (i + n) = true
    · rw [if_neg (by simp [hp])] at hr
      have hr' : run x.testBit w (w - i) i = n := hr
      by_cases h : run x.testBit w (w - i) i > m
      · refine Ev.step (fun k => ?_) (hlast h)
        simp only [impl_Longest.l1]
        rw [if_pos (by omega), if_pos (by omega), bit_at hx (by omega), if_pos hp, if_neg (by decide), e, if_pos (by omega), w64_succ (by omega), hr']
      · refine Ev.step (fun k => ?_) (hkeep h)
        simp only [impl_Longest.l1]
        rw [if_pos (by omega), if_pos (by omega), bit_at hx (by omega), if_pos hp, if_neg (by decide), e, if_neg (by omega), w64_succ (by omega)]
    · rw [if_pos ⟨by omega, by simpa using hp⟩] at hr
      refine Ev.step (fun k => ?_) (ih (n + 1) (by omega) (by rw [hr, show i + (n + 1) = i + n + 1 by omega]; omega))
      simp only [impl_Longest.l1]
      rw [if_pos (by omega), if_pos (by omega), bit_at hx (by omega), if_neg hp, if_pos rfl, w64_succ (by omega)]
      rfl
theorem impl_Longest.outer (x : Nat) (hx : x < 2 ^ 32) (w : Nat) (hw : w ≤ 32) (d : Nat) : ∀ i s m : Nat, i + d = w → Ev (fun k => impl_Longest.l0 k (x : Int) (w : Int) (s : Int) (m : Int) (w : Int) (i : Int)) (lng x.testBit w d i s m) := by
  induction d with
  | zero =>
    intro i s m hi
    refine Ev.stop fun k => ?_
    simp only [impl_Longest.l0, lng]
    rw [if_neg (by omega)]
  | succ d ih =>
    intro i s m hi
    refine Ev.step (f := fun k => impl_Longest.l1 k (x : Int) (w : Int) (s : Int) (m : Int) (i : Int) (i : Int) (w : Int) (i : Int)) (fun k => ?_) ?_
    · simp only [impl_Longest.l0]
      rw [if_pos (by omega)]
    · refine impl_Longest.inner x hx w i s m hw _ (fun h => ?_) (fun h => ?_) (w - i) 0 (by omega) (by rw [Nat.zero_add]; rfl)
      · simp only [lng]; rw [if_pos h]; exact ih _ _ _ (by omega)
      · simp only [lng]; rw [if_neg h]; exact ih _ _ _ (by omega)
theorem impl_Longest.ev (n : Nat) (hn : n < 2 ^ 32) (w : Nat) (hw : w ≤ 32) : Ev (fun k => impl_Longest.f k (n : Int) (w : Int)) (lng n.testBit w w 0 0 0) := by
  refine Ev.congr (fun k => ?_) (impl_Longest.outer n hn w hw w 0 0 0 (by omega))
  simp only [impl_Longest.f]
  rw [impl_within.eq, Option.bind_some, if_pos (by simp; omega)]
  rfl
theorem impl_Longest.out (k : Nat) (x w : Int) (hw : w < 0 ∨ 32 < w) : impl_Longest.f k x w = some (-1, 0) := by
  unfold impl_Longest.f
  rw [impl_within.eq, Option.bind_some, if_neg (by simp; omega)]
/-! ### laws_FnExactLongest -/
theorem FnExactLongest : laws_FnExactLongest.Pure := by
  intro a0 a1 h0 _
  obtain ⟨n, rfl, hn⟩ := u32_nat h0
  by_cases hw : a1 < 0 ∨ 32 < a1
  · obtain ⟨k, e1⟩ := (spec_Longest.out (n : Int) a1 hw).rounds
    refine ⟨k, ?_⟩
    simp only [laws_FnExactLongest.f, e1, impl_Longest.out k _ _ hw, Option.bind_some, if_true]
  · obtain ⟨w, rfl⟩ : ∃ w : Nat, a1 = w := ⟨a1.toNat, by omega⟩
    obtain ⟨k, e1, e2⟩ := ((spec_Longest.ev n hn w (by omega)).and (impl_Longest.ev n hn w (by omega)).last).pick
    refine ⟨k, ?_⟩
    simp only [laws_FnExactLongest.f, e1, e2, Option.bind_some, if_true]

end Go.Proofs.Ytmlbjpjgfegnmaa.Pure
