/-
  The law FnExactBitsOf: what both programs compute, in plain Lean, and that it is the same.
  Conditions: none beyond those of the statement itself.
-/
import Derived.Test.YtmlbjpjgfegnmaaPFnExactBitsOfx2
import Derived.Test.YtmlbjpjgfegnmaaLib
namespace Go.Proofs.Ytmlbjpjgfegnmaa.Pure
open Go.RowKit Go.Proofs.Ytmlbjpjgfegnmaa.PFnExactBitsOf Go.Proofs.YtmlbjpjgfegnmaaW.PrintWords Go.Proofs.YtmlbjpjgfegnmaaW.PrintLast

/-! ### spec_l01Word -/
theorem spec_l01Word.loop (p : Nat → Bool) : ∀ j : Nat, j ≤ 32 → Ev (fun k => spec_l01Word.l0 k (btl p 32) ((wd p 32 / 2 ^ j : Nat) : Int) ((j : Int) - 1)) ((wd p 32 : Nat) : Int) := by
  intro j
  induction j with
  | zero =>
    intro _
    refine Ev.stop fun k => ?_
    simp only [spec_l01Word.l0]
    rw [if_neg (by omega), Nat.pow_zero, Nat.div_one]
  | succ j ih =>
    intro hj
    refine Ev.step (f := fun k => spec_l01Word.l0 k (btl p 32) ((wd p 32 / 2 ^ j : Nat) : Int) ((j : Int) - 1)) (fun k => ?_) (ih (by omega))
    have hlen := btl_len p 32
    have hi : (((j + 1 : Nat) : Int) - 1) = (j : Int) := by omega
    have h1 := div_lt (wd_lt32 p) j
    have h2 : wd p 32 / 2 ^ (j + 1) = wd p 32 / 2 ^ j / 2 := by rw [Nat.pow_succ, Nat.div_div_eq_div_mul]
    have h3 : (if p j = true then (1 : Int) else 0) = ((wd p 32 / 2 ^ j % 2 : Nat) : Int) := by
      have hb := wd_bit p 32 j
      have hj' : j < 32 := by omega
      rw [Nat.testBit_eq_decide_div_mod_eq, decide_eq_true hj', Bool.true_and] at hb
      rcases Nat.mod_two_eq_zero_or_one (wd p 32 / 2 ^ j) with h | h
      · rw [h] at hb ⊢
        rw [← hb]; rfl
      · rw [h] at hb ⊢
        rw [← hb]; rfl
    have h4 : (((2 * ((wd p 32 / 2 ^ (j + 1) : Nat) : Int)) % 4294967296) + ((if p j = true then (1 : Int) else 0) % 4294967296)) % 4294967296 = ((wd p 32 / 2 ^ j : Nat) : Int) := by
      rw [h3, h2]
      generalize wd p 32 / 2 ^ j = y at h1 ⊢
      omega
    simp only [spec_l01Word.l0]
    rw [hi, if_pos (by omega), if_pos (by omega), if_pos (by omega), btl_rd p (by omega : j < 32), w64 (by omega) (by omega), h4]
theorem spec_l01Word.ev (p : Nat → Bool) : Ev (fun k => spec_l01Word.f k (btl p 32)) ((wd p 32 : Nat) : Int) := by
  have h := spec_l01Word.loop p 32 (Nat.le_refl _)
  rw [Nat.div_eq_of_lt (wd_lt32 p)] at h
  refine Ev.congr (fun k => ?_) h
  simp only [spec_l01Word.f]
  rw [btl_len, w64 (by omega) (by omega)]
  rfl
/-! ### spec_BitsOf -/
theorem spec_BitsOf.loop (l : List Int) (hl : l.length < 4611686018427387904) (d : Nat) : ∀ (i : Nat) (q : Nat → Bool), i + d = l.length → Ev (fun k => spec_BitsOf.l0 k l (btl q 32) (i : Int)) (bofq q (l.drop i)) := by
  induction d with
  | zero =>
    intro i q hi
    rw [List.drop_eq_nil_of_le (by omega), bofq_nil]
    refine Ev.step (f := fun k => (spec_l01Word.f k (btl q 32)).bind fun t => some (t, true)) (fun k => ?_) (Ev.bind (spec_l01Word.ev q) (Ev.now _))
    simp only [spec_BitsOf.l0]
    rw [if_neg (by omega)]
  | succ d ih =>
    intro i q hi
    have hlt : i < l.length := by omega
    rw [drop_rd l hlt, bofq_cons]
    generalize hb : rd l (i : Int) = b
    by_cases h1 : b < 0
    · rw [if_pos (.inl h1)]
      refine Ev.stop fun k => ?_
      simp only [spec_BitsOf.l0]
      rw [if_pos (by omega), if_pos (by omega), hb, if_pos h1]
    · by_cases h2 : b > 31
      · rw [if_pos (.inr h2)]
        refine Ev.stop fun k => ?_
        simp only [spec_BitsOf.l0]
        rw [if_pos (by omega), if_pos (by omega), hb, if_neg h1, if_pos h2]
      · rw [if_neg (by omega)]
        obtain ⟨c, rfl⟩ : ∃ c : Nat, b = c := ⟨b.toNat, by omega⟩
        rw [Int.toNat_natCast]
        have hlen := btl_len q 32
        have hc : c < 32 := by omega
        by_cases h3 : q c = true
        · rw [if_pos h3]
          refine Ev.stop fun k => ?_
          simp only [spec_BitsOf.l0]
          rw [if_pos (by omega), if_pos (by omega), hb, if_neg h1, if_neg h2, if_pos (by omega), if_pos (by omega), btl_rd q hc, if_pos h3, if_pos rfl]
        · rw [if_neg h3]
          refine Ev.step (f := fun k => spec_BitsOf.l0 k l (btl (fun j => q j || j == c) 32) ((i + 1 : Nat) : Int)) (fun k => ?_) (ih (i + 1) _ (by omega))
          simp only [spec_BitsOf.l0]
          rw [if_pos (by omega), if_pos (by omega), hb, if_neg h1, if_neg h2, if_pos (by omega), if_pos (by omega), btl_rd q hc, if_neg h3, if_neg (by decide), Int.toNat_natCast, btl_set q 32 hc, w64_succ (by omega)]
theorem spec_BitsOf.ev (l : List Int) (hl : l.length < 4611686018427387904) : Ev (fun k => spec_BitsOf.f k l) (bof l) := by
  refine Ev.congr (fun k => ?_) (spec_BitsOf.loop l hl l.length 0 (fun _ => false) (by omega))
  simp only [spec_BitsOf.f]
  rw [if_pos (by decide), btl_none]
  rfl
/-! ### laws_toIntS -/
theorem laws_toIntS.loop (l : List Int) (hl : l.length < 4611686018427387904) (d : Nat) : ∀ (i : Nat) (o : List Int), o.length = l.length → i + d = l.length → o.take i = l.take i → Ev (fun k => laws_toIntS.l0 k l o (i : Int)) l := by
  induction d with
  | zero =>
    intro i o ho hi ht
    have e : o = l := by
      rw [List.take_of_length_le (by omega), List.take_of_length_le (by omega)] at ht
      exact ht
    refine Ev.stop fun k => ?_
    simp only [laws_toIntS.l0]
    rw [if_neg (by omega), e]
  | succ d ih =>
    intro i o ho hi ht
    refine Ev.step (f := fun k => laws_toIntS.l0 k l (o.set i (rd l (i : Int))) ((i + 1 : Nat) : Int)) (fun k => ?_) (ih (i + 1) _ (by simpa using ho) (by omega) (take_set l o (by omega) (by omega) ht))
    simp only [laws_toIntS.l0]
    rw [if_pos (by omega), if_pos (by omega), if_pos (by omega), w64_succ (by omega), Int.toNat_natCast]
theorem laws_toIntS.ev (l : List Int) (hl : l.length ≤ 35184372088832) : Ev (fun k => laws_toIntS.f k l) l := by
  refine Ev.congr (fun k => ?_) (laws_toIntS.loop l (by omega) l.length 0 (List.replicate l.length 0) (by simp) (by omega) rfl)
  simp only [laws_toIntS.f]
  rw [if_pos (by omega), Int.toNat_natCast, if_pos (by omega)]
  rfl
/-! ### impl_within -/
theorem impl_within.eq (a lo hi : Int) : impl_within.f a lo hi = some (decide (lo ≤ a ∧ a ≤ hi)) := by
  unfold impl_within.f
  split
  · rename_i h
    have : lo ≤ a := h
    simp [this]
  · rename_i h
    have : ¬ lo ≤ a := h
    simp [this]
/-! ### impl_BitsOf -/
theorem impl_BitsOf.loop (l : List Int) (hl : l.length < 4611686018427387904) (d : Nat) : ∀ (i : Nat) (q : Nat → Bool), i + d = l.length → Ev (fun k => impl_BitsOf.l0 k ((wd q 32 : Nat) : Int) l (l.length : Int) (i : Int)) (bofq q (l.drop i)) := by
  induction d with
  | zero =>
    intro i q hi
    rw [List.drop_eq_nil_of_le (by omega), bofq_nil]
    refine Ev.stop fun k => ?_
    simp only [impl_BitsOf.l0]
    rw [if_neg (by omega)]
  | succ d ih =>
    intro i q hi
    have hlt : i < l.length := by omega
    rw [drop_rd l hlt, bofq_cons]
    generalize hb : rd l (i : Int) = b
    by_cases h1 : b < 0 ∨ b > 31
    · rw [if_pos h1]
      refine Ev.stop fun k => ?_
      simp only [impl_BitsOf.l0]
      rw [if_pos (by omega), if_pos (by omega), if_pos (by omega), hb, impl_within.eq, Option.bind_some, if_neg (by simp; omega)]
    · rw [if_neg h1]
      obtain ⟨c, rfl⟩ : ∃ c : Nat, b = c := ⟨b.toNat, by omega⟩
      rw [Int.toNat_natCast]
      have hc : c < 32 := by omega
      have hw := wd_bit q 32 c
      rw [decide_eq_true hc, Bool.true_and] at hw
      by_cases h3 : q c = true
      · rw [if_pos h3]
        refine Ev.stop fun k => ?_
        simp only [impl_BitsOf.l0]
        rw [if_pos (by omega), if_pos (by omega), if_pos (by omega), hb, impl_within.eq, Option.bind_some, if_pos (by simp; omega), if_pos (by omega), bit_at (wd_lt32 q) (by omega), hw, if_pos h3, if_pos rfl]
      · rw [if_neg h3]
        refine Ev.step (f := fun k => impl_BitsOf.l0 k ((wd (fun j => q j || j == c) 32 : Nat) : Int) l (l.length : Int) ((i + 1 : Nat) : Int)) (fun k => ?_) (ih (i + 1) _ (by omega))
        simp only [impl_BitsOf.l0]
        rw [if_pos (by omega), if_pos (by omega), if_pos (by omega), hb, impl_within.eq, Option.bind_some, if_pos (by simp; omega), if_pos (by omega), bit_at (wd_lt32 q) (by omega), hw, if_neg h3, if_neg (by decide), shl_one hc, or_nat (wd_lt32 q) (two_pow_lt hc), wd_or q hc, w64_succ (by omega)]
theorem impl_BitsOf.ev (l : List Int) (hl : l.length < 4611686018427387904) : Ev (fun k => impl_BitsOf.f k l) (bof l) := by
  have h := impl_BitsOf.loop l hl l.length 0 (fun _ => false) (by omega)
  rw [wd_false] at h
  exact Ev.congr (fun _ => rfl) h
/-! ### laws_eqIntS -/
theorem laws_eqIntS.loop (l : List Int) (hl : l.length < 4611686018427387904) (d : Nat) : ∀ i : Nat, i + d = l.length → Ev (fun k => laws_eqIntS.l0 k l l (i : Int)) true := by
  induction d with
  | zero =>
    intro i hi
    refine Ev.stop fun k => ?_
    simp only [laws_eqIntS.l0]
    rw [if_neg (by omega)]
  | succ d ih =>
    intro i hi
    refine Ev.step (f := fun k => laws_eqIntS.l0 k l l ((i + 1 : Nat) : Int)) (fun k => ?_) (ih (i + 1) (by omega))
    simp only [laws_eqIntS.l0]
    rw [if_pos (by omega), if_pos (by omega), if_pos (by omega), if_pos trivial, w64_succ (by omega)]
theorem laws_eqIntS.ev (l : List Int) (hl : l.length < 4611686018427387904) : Ev (fun k => laws_eqIntS.f k l l) true := by
  refine Ev.congr (fun k => ?_) (laws_eqIntS.loop l hl l.length 0 (by omega))
  simp only [laws_eqIntS.f]
  rw [if_pos trivial]
  rfl
/-! ### laws_FnExactBitsOf -/
theorem FnExactBitsOf : laws_FnExactBitsOf.Pure := by
  intro l _ _ _
  by_cases hlen : (l.length : Int) > 1048576
  · exact ⟨0, by simp only [laws_FnExactBitsOf.f]; rw [if_pos hlen]⟩
  · have hj : Ev (fun k => laws_FnExactBitsOf.j0 k l l false) true := by
      refine Ev.step (f := fun k => (laws_toIntS.f k l).bind fun t => (laws_eqIntS.f k l t).bind fun b => if b = true then some true else some false) (fun k => ?_) (Ev.bind (laws_toIntS.ev l (by omega)) (Ev.bind (f := fun _ (b : Bool) => if b = true then some true else some false) (laws_eqIntS.ev l (by omega)) (Ev.const rfl)))
      simp only [laws_FnExactBitsOf.j0]
      rfl
    obtain ⟨k, e1, e2, e3, e4⟩ := ((laws_toIntS.ev l (by omega)).and ((spec_BitsOf.ev l (by omega)).and ((impl_BitsOf.ev l (by omega)).and hj.last))).pick
    refine ⟨k, ?_⟩
    simp only [laws_FnExactBitsOf.f, e1, e2, e3, e4, Option.bind_some, if_true, if_neg hlen, bne_self_eq_false]

end Go.Proofs.Ytmlbjpjgfegnmaa.Pure
