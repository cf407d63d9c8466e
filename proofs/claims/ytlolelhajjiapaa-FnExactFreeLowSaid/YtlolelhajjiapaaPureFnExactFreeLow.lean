/-
  The law FnExactFreeLow: what both programs compute, in plain Lean, and that it is the same.
  Conditions: none beyond those of the statement itself.
-/
import Derived.Test.YtlolelhajjiapaaPFnExactFreeLowx2
import Derived.Test.YtlolelhajjiapaaLib
namespace Go.Proofs.Ytlolelhajjiapaa.Pure
open Go.RowKit Go.Proofs.Ytlolelhajjiapaa.PFnExactFreeLow Go.Proofs.YtlolelhajjiapaaW.PrintWords Go.Proofs.YtlolelhajjiapaaW.PrintLast

/-! ### spec_l01Word -/
theorem spec_l01Word.loop (p : Nat → Bool) : ∀ j : Nat, j ≤ 32 → Ev (fun k => spec_l01Word.l0 k (btl p 32) ((wd p 32 / 2 ^ j : Nat) : Int) ((j : Int) - 1)) ((wd p 32 : Nat) : Int) := by
  intro j
  induction j with
  | zero =>
    intro _
    refine Ev.stop fun k => ?_
    simp only [spec_l01Word.l0]
    rw [if_neg (by omega), Nat.pow_zero, Nat.div_one]
  | succ j ih =>
    intro hj
    refine Ev.step (f := fun k => spec_l01Word.l0 k (btl p 32) ((wd p 32 / 2 ^ j : Nat) : Int) ((j : Int) - 1)) (fun k => ?_) (ih (by omega))
    have hlen := btl_len p 32
    have hi : (((j + 1 : Nat) : Int) - 1) = (j : Int) := by omega
    have h1 := div_lt (wd_lt32 p) j
    have h2 : wd p 32 / 2 ^ (j + 1) = wd p 32 / 2 ^ j / 2 := by rw [Nat.pow_succ, Nat.div_div_eq_div_mul]
    have h3 : (if p j = true then (1 : Int) else 0) = ((wd p 32 / 2 ^ j % 2 : Nat) : Int) := by
      have hb := wd_bit p 32 j
      have hj' : j < 32 := by omega
      rw [Nat.testBit_eq_decide_div_mod_eq, decide_eq_true hj', Bool.true_and] at hb
      rcases Nat.mod_two_eq_zero_or_one (wd p 32 / 2 ^ j) with h | h
      · rw [h] at hb ⊢
        rw [← hb]; rfl
      · rw [h] at hb ⊢
        rw [← hb]; rfl
    have h4 : (((2 * ((wd p 32 / 2 ^ (j + 1) : Nat) : Int)) % 4294967296) + ((if p j = true then (1 : Int) else 0) % 4294967296)) % 4294967296 = ((wd p 32 / 2 ^ j : Nat) : Int) := by
      rw [h3, h2]
      generalize wd p 32 / 2 ^ j = y at h1 ⊢
      omega
    simp only [spec_l01Word.l0]
    rw [hi, if_pos (by omega), if_pos (by omega), if_pos (by omega), btl_rd p (by omega : j < 32), w64 (by omega) (by omega), h4]
theorem spec_l01Word.ev (p : Nat → Bool) : Ev (fun k => spec_l01Word.f k (btl p 32)) ((wd p 32 : Nat) : Int) := by
  have h := spec_l01Word.loop p 32 (Nat.le_refl _)
  rw [Nat.div_eq_of_lt (wd_lt32 p)] at h
  refine Ev.congr (fun k => ?_) h
  simp only [spec_l01Word.f]
  rw [btl_len, w64 (by omega) (by omega)]
  rfl
/-! ### spec_BitsOf -/
theorem spec_BitsOf.loop (l : List Int) (hl : l.length < 4611686018427387904) (d : Nat) : ∀ (i : Nat) (q : Nat → Bool), i + d = l.length → Ev (fun k => spec_BitsOf.l0 k l (btl q 32) (i : Int)) (bofq q (l.drop i)) := by
  induction d with
  | zero =>
    intro i q hi
    rw [List.drop_eq_nil_of_le (by omega), bofq_nil]
    refine Ev.step (f := fun k => (spec_l01Word.f k (btl q 32)).bind fun t => some (t, true)) (fun k => ?_) (Ev.bind (spec_l01Word.ev q) (Ev.now _))
    simp only [spec_BitsOf.l0]
    rw [if_neg (by omega)]
  | succ d ih =>
    intro i q hi
    have hlt : i < l.length := by omega
    rw [drop_rd l hlt, bofq_cons]
    generalize hb : rd l (i : Int) = b
    by_cases h1 : b < 0
    · rw [if_pos (.inl h1)]
      refine Ev.stop fun k => ?_
      simp only [spec_BitsOf.l0]
      rw [if_pos (by omega), if_pos (by omega), hb, if_pos h1]
    · by_cases h2 : b > 31
      · rw [if_pos (.inr h2)]
        refine Ev.stop fun k => ?_
        simp only [spec_BitsOf.l0]
        rw [if_pos (by omega), if_pos (by omega), hb, if_neg h1, if_pos h2]
      · rw [if_neg (by omega)]
        obtain ⟨c, rfl⟩ : ∃ c : Nat, b = c := ⟨b.toNat, by omega⟩
        rw [Int.toNat_natCast]
        have hlen := btl_len q 32
        have hc : c < 32 := by omega
        by_cases h3 : q c = true
        · rw [if_pos h3]
          refine Ev.stop fun k => ?_
          simp only [spec_BitsOf.l0]
          rw [if_pos (by omega), if_pos (by omega), hb, if_neg h1, if_neg h2, if_pos (by omega), if_pos (by omega), btl_rd q hc, if_pos h3, if_pos rfl]
        · rw [if_neg h3]
          refine Ev.step (f := fun k => spec_BitsOf.l0 k l (btl (fun j => q j || j == c) 32) ((i + 1 : Nat) : Int)) (fun k => ?_) (ih (i + 1) _ (by omega))
          simp only [spec_BitsOf.l0]
          rw [if_pos (by omega), if_pos (by omega), hb, if_neg h1, if_neg h2, if_pos (by omega), if_pos (by omega), btl_rd q hc, if_neg h3, if_neg (by decide), Int.toNat_natCast, btl_set q 32 hc, w64_succ (by omega)]
theorem spec_BitsOf.ev (l : List Int) (hl : l.length < 4611686018427387904) : Ev (fun k => spec_BitsOf.f k l) (bof l) := by
  refine Ev.congr (fun k => ?_) (spec_BitsOf.loop l hl l.length 0 (fun _ => false) (by omega))
  simp only [spec_BitsOf.f]
  rw [if_pos (by decide), btl_none]
  rfl
/-! ### spec_l02First -/
theorem spec_l02First.ev (l : List Int) (hl : l.length < 4611686018427387904) (a : Int) : Ev (fun k => spec_l02First.f k l a) (bof (l.take a.toNat)).1 := by
  have e : l.take (mx 0 (mn a (l.length : Int))).toNat = l.take a.toNat := by
    have h : (mx 0 (mn a (l.length : Int))).toNat = min a.toNat l.length := by
      unfold mx mn
      split <;> split <;> omega
    rw [h]
    by_cases h2 : a.toNat ≤ l.length
    · rw [Nat.min_eq_left h2]
    · rw [Nat.min_eq_right (by omega), List.take_of_length_le (Nat.le_refl _), List.take_of_length_le (by omega)]
  have hlen : (l.take a.toNat).length < 4611686018427387904 := by rw [List.length_take]; omega
  have h1 : 0 ≤ mx 0 (mn a (l.length : Int)) := by unfold mx; split <;> omega
  have h2 : mx 0 (mn a (l.length : Int)) ≤ (l.length : Int) := by unfold mx mn; split <;> split <;> omega
  refine Ev.congr (f := fun k => (spec_BitsOf.f k (l.take a.toNat)).bind fun t => some t.1) (fun k => ?_) (Ev.bind (spec_BitsOf.ev _ hlen) (Ev.now _))
  simp only [spec_l02First.f]
  rw [if_pos h1, if_pos h2, e]
/-! ### spec_l01Bits -/
theorem spec_l01Bits.loop (n : Nat) (hn : n < 2 ^ 32) (d : Nat) : ∀ i : Nat, i + d = 32 → Ev (fun k => spec_l01Bits.l0 k ((n / 2 ^ i : Nat) : Int) (btl n.testBit i) (i : Int)) (btl n.testBit 32) := by
  induction d with
  | zero =>
    intro i hi
    obtain rfl : i = 32 := by omega
    refine Ev.stop fun k => ?_
    simp only [spec_l01Bits.l0]
    rw [if_neg (by omega)]
  | succ d ih =>
    intro i hi
    refine Ev.step (f := fun k => spec_l01Bits.l0 k ((n / 2 ^ (i + 1) : Nat) : Int) (btl n.testBit (i + 1)) ((i + 1 : Nat) : Int)) (fun k => ?_) (ih (i + 1) (by omega))
    have hlen := btl_len n.testBit i
    have hlt := div_lt hn i
    have e1 : Int.tdiv ((n / 2 ^ i : Nat) : Int) 2 % 4294967296 = ((n / 2 ^ (i + 1) : Nat) : Int) := by
      rw [Int.tdiv_eq_ediv_of_nonneg (Int.natCast_nonneg _), Nat.pow_succ, ← Nat.div_div_eq_div_mul]
      generalize n / 2 ^ i = y at hlt ⊢
      omega
    have e2 : wrap64 (Int.tmod ((n / 2 ^ i : Nat) : Int) 2) = if n.testBit i = true then 1 else 0 := by
      rw [Int.tmod_eq_emod_of_nonneg (Int.natCast_nonneg _), Nat.testBit_eq_decide_div_mod_eq]
      have h := Nat.mod_two_eq_zero_or_one (n / 2 ^ i)
      have h2 : ((n / 2 ^ i : Nat) : Int) % 2 = ((n / 2 ^ i % 2 : Nat) : Int) := (Int.natCast_emod _ _).symm
      rw [h2]
      rcases h with h | h
      · rw [h]; exact wrap64_0
      · rw [h]; exact wrap64_1
    simp only [spec_l01Bits.l0]
    rw [if_pos (by omega), if_pos (by omega), w64_succ (by omega), e1, e2, btl_succ]
theorem spec_l01Bits.ev (n : Nat) (hn : n < 2 ^ 32) : Ev (fun k => spec_l01Bits.f k (n : Int)) (btl n.testBit 32) := by
  have h := spec_l01Bits.loop n hn 32 0 rfl
  rw [Nat.pow_zero, Nat.div_one] at h
  exact Ev.congr (fun _ => rfl) h
/-! ### spec_l02Free -/
theorem spec_l02Free.loop (n : Nat) (w : Int) (hw : w ≤ 32) (d : Nat) : ∀ i : Nat, w.toNat = i + d → Ev (fun k => spec_l02Free.l0 k w (blp (fre n w) i) (btl n.testBit 32) (i : Int)) (blp (fre n w) (i + d)) := by
  induction d with
  | zero =>
    intro i hi
    refine Ev.step (f := fun k => spec_l02Free.j1 k w (blp (fre n w) i) (btl n.testBit 32) (i : Int) false) (fun k => ?_) (Ev.stop fun k => ?_)
    · simp only [spec_l02Free.l0]
      rw [if_neg (by omega)]
    · simp only [spec_l02Free.j1]
      rw [if_neg (by decide)]
      rfl
  | succ d ih =>
    intro i hi
    have hlen := blp_len_le (fre n w) i
    have hbl := btl_len n.testBit 32
    have h := ih (i + 1) (by omega)
    rw [show i + 1 + d = i + (d + 1) by omega] at h
    refine Ev.step (f := fun k => spec_l02Free.j1 k w (blp (fre n w) i) (btl n.testBit 32) (i : Int) true) (fun k => ?_) (Ev.step (f := fun k => spec_l02Free.l0 k w (blp (fre n w) (i + 1)) (btl n.testBit 32) ((i + 1 : Nat) : Int)) (fun k => ?_) h)
    · simp only [spec_l02Free.l0]
      rw [if_pos (by omega), decide_eq_true hw]
    · simp only [spec_l02Free.j1]
      rw [if_pos trivial, if_pos (by omega), if_pos (by omega), btl_rd n.testBit (by omega), w64_succ (by omega)]
      by_cases hp : n.testBit i = true
      · have hf : ¬ fre n w i = true := by unfold fre; simp [hp]
        rw [if_pos hp, if_neg (by decide)]
        simp only [blp, if_neg hf, List.append_nil]
      · have hf : fre n w i = true := by
          unfold fre
          rw [decide_eq_true (by omega)]
          simpa using hp
        rw [if_neg hp, if_pos rfl, if_pos (by omega)]
        simp only [blp, if_pos hf]
theorem spec_l02Free.ev (n : Nat) (hn : n < 2 ^ 32) (w : Int) : Ev (fun k => spec_l02Free.f k (n : Int) w) (blp (fre n w) 32) := by
  refine Ev.congr (fun _ => rfl) (Ev.bind (f := fun k t => spec_l02Free.l0 k w [] t 0) (spec_l01Bits.ev n hn) ?_)
  by_cases h : 0 ≤ w ∧ w ≤ 32
  · have e : blp (fre n w) (0 + w.toNat) = blp (fre n w) 32 := by
      have key : ∀ m : Nat, w.toNat ≤ m → blp (fre n w) m = blp (fre n w) w.toNat := by
        intro m
        induction m with
        | zero => intro hm; rw [show w.toNat = 0 by omega]
        | succ m ih =>
          intro hm
          by_cases e : w.toNat = m + 1
          · rw [e]
          · have hf : ¬ fre n w m = true := by unfold fre; rw [decide_eq_false (by omega), Bool.and_false]; decide
            simp only [blp, if_neg hf, List.append_nil]
            exact ih (by omega)
      rw [Nat.zero_add, key 32 (by omega)]
    have h1 := spec_l02Free.loop n w h.2 w.toNat 0 (by omega)
    rw [e] at h1
    exact h1
  · rw [blp_none (fun j _ => fre_none h j)]
    by_cases h0 : (0 : Int) < w
    · refine Ev.step (f := fun k => spec_l02Free.j1 k w [] (btl n.testBit 32) 0 false) (fun k => ?_) (Ev.stop fun k => ?_)
      · simp only [spec_l02Free.l0]
        rw [if_pos h0, decide_eq_false (by omega)]
      · simp only [spec_l02Free.j1]
        rw [if_neg (by decide)]
    · refine Ev.step (f := fun k => spec_l02Free.j1 k w [] (btl n.testBit 32) 0 false) (fun k => ?_) (Ev.stop fun k => ?_)
      · simp only [spec_l02Free.l0]
        rw [if_neg h0]
      · simp only [spec_l02Free.j1]
        rw [if_neg (by decide)]
/-! ### spec_FreeLow -/
theorem spec_FreeLow.ev (n : Nat) (hn : n < 2 ^ 32) (w a : Int) : Ev (fun k => spec_FreeLow.f k (n : Int) w a) ((wd (tk (fre n w) a.toNat) 32 : Nat) : Int) := by
  have hlen := blp_len_le (fre n w) 32
  have h : Ev (fun k => spec_FreeLow.f k (n : Int) w a) (bof ((blp (fre n w) 32).take a.toNat)).1 :=
    Ev.bind (f := fun k t => (spec_l02First.f k t a).bind fun u => some u) (spec_l02Free.ev n hn w) (Ev.bind (f := fun _ u => some u) (spec_l02First.ev (blp (fre n w) 32) (by omega) a) (Ev.now _))
  rw [blp_take, bof_blp32] at h
  exact h
/-! ### impl_within -/
theorem impl_within.eq (a lo hi : Int) : impl_within.f a lo hi = some (decide (lo ≤ a ∧ a ≤ hi)) := by
  unfold impl_within.f
  split
  · rename_i h
    have : lo ≤ a := h
    simp [this]
  · rename_i h
    have : ¬ lo ≤ a := h
    simp [this]
/-! ### impl_MaskOf -/
theorem impl_MaskOf.eq (a : Int) : impl_MaskOf.f a = some ((wd (fun j => decide ((j : Int) < a ∧ a ≤ 32)) 32 : Nat) : Int) := by
  unfold impl_MaskOf.f
  rw [impl_within.eq, Option.bind_some]
  by_cases h : 0 ≤ a ∧ a ≤ 32
  · rw [if_pos (by simpa using h), if_pos h.1]
    obtain ⟨m, rfl⟩ : ∃ m : Nat, a = m := ⟨a.toNat, by omega⟩
    have e : wd (fun j => decide ((j : Int) < (m : Int) ∧ (m : Int) ≤ 32)) 32 = 2 ^ m - 1 := by
      rw [← wd_mask (by omega : m ≤ 32)]
      exact wd_congr fun i _ => decide_eq_decide.2 (by omega)
    rw [e]
    have hq : 0 < (2 : Nat) ^ m := Nat.two_pow_pos m
    by_cases h2 : m = 32
    · subst h2; rfl
    · have hp := two_pow_lt (i := m) (by omega)
      rw [shl_one (by omega : m < 32)]
      congr 1
      omega
  · rw [if_neg (by simpa using h)]
    have e : wd (fun j => decide ((j : Int) < a ∧ a ≤ 32)) 32 = 0 := by
      refine (wd_congr fun i _ => ?_).trans (wd_false 32)
      have : ¬ ((i : Int) < a ∧ a ≤ 32) := by omega
      simp only [this, decide_false]
    rw [e]
    rfl
/-! ### impl_TakeLow -/
theorem impl_TakeLow.loop (m : Nat) : ∀ (n out : Nat) (a : Int), n < 2 ^ 32 → out < 2 ^ 32 → a.toNat = m → a < 9223372036854775808 → Ev (fun k => impl_TakeLow.l0 k (n : Int) a (out : Int)) ((out ||| wd (tk n.testBit m) 32 : Nat) : Int) := by
  induction m with
  | zero =>
    intro n out a hn ho ha _
    rw [tk_zero, Nat.or_zero]
    refine Ev.stop fun k => ?_
    simp only [impl_TakeLow.l0]
    rw [if_neg (by omega)]
  | succ m ih =>
    intro n out a hn ho ha ha'
    by_cases h0 : n = 0
    · subst h0
      rw [tk_none, Nat.or_zero]
      refine Ev.stop fun k => ?_
      simp only [impl_TakeLow.l0]
      rw [if_pos (by omega), if_pos (by omega)]
    · obtain ⟨b, hb32, hb, hlo⟩ := low_of_pos hn h0
      rw [← low_step hb hlo hb32 out m ho]
      have h1 : n &&& (n - 1) < 2 ^ 32 := Nat.and_lt_two_pow _ (by omega)
      have h2 : out ||| 2 ^ b < 2 ^ 32 := Nat.or_lt_two_pow ho (two_pow_lt hb32)
      refine Ev.step (f := fun k => impl_TakeLow.l0 k ((n &&& (n - 1) : Nat) : Int) (a - 1) ((out ||| 2 ^ b : Nat) : Int)) (fun k => ?_) (ih _ _ _ h1 h2 (by omega) (by omega))
      simp only [impl_TakeLow.l0]
      rw [if_pos (by omega), if_neg (by omega), pred32 hn h0, neg32 hn h0, and_nat hn (by omega), and_nat hn (by omega), keep_low hn hb hlo, or_nat ho (two_pow_lt hb32), w64 (by omega) (by omega)]
theorem impl_TakeLow.ev (n : Nat) (hn : n < 2 ^ 32) (a : Int) (ha : a < 9223372036854775808) : Ev (fun k => impl_TakeLow.f k (n : Int) a) ((wd (tk n.testBit a.toNat) 32 : Nat) : Int) := by
  have h := impl_TakeLow.loop a.toNat n 0 a hn (by decide) rfl ha
  rw [Nat.zero_or] at h
  exact Ev.congr (fun _ => rfl) h
/-! ### impl_FreeLow -/
theorem impl_FreeLow.ev (n : Nat) (hn : n < 2 ^ 32) (w a : Int) (ha : a < 9223372036854775808) : Ev (fun k => impl_FreeLow.f k (n : Int) w a) ((wd (tk (fre n w) a.toNat) 32 : Nat) : Int) := by
  by_cases h : 0 ≤ w ∧ w ≤ 32
  · have hx : 2 ^ 32 - (n + 1) < 2 ^ 32 := by omega
    have hm := wd_lt32 (fun j => decide ((j : Int) < w ∧ w ≤ 32))
    have hy : (2 ^ 32 - (n + 1)) &&& wd (fun j => decide ((j : Int) < w ∧ w ≤ 32)) 32 < 2 ^ 32 := Nat.and_lt_two_pow _ hm
    have hb : ((2 ^ 32 - (n + 1)) &&& wd (fun j => decide ((j : Int) < w ∧ w ≤ 32)) 32).testBit = fre n w := by
      funext j
      rw [Nat.testBit_and, xor_bit hn, wd_bit]
      unfold fre
      by_cases hj : j < 32
      · simp only [hj, decide_true, Bool.true_and]
      · have e : ¬ ((j : Int) < w ∧ w ≤ 32) := by omega
        simp only [hj, e, decide_false, Bool.false_and, Bool.and_false]
    refine Ev.congr (f := fun k => (impl_TakeLow.f k ((((2 ^ 32 - (n + 1)) &&& wd (fun j => decide ((j : Int) < w ∧ w ≤ 32)) 32 : Nat)) : Int) a).bind fun t => some t) (fun k => ?_) (Ev.bind (f := fun _ t => some t) ((impl_TakeLow.ev _ hy a ha).eq (by rw [hb])) (Ev.now _))
    simp only [impl_FreeLow.f]
    rw [impl_within.eq, Option.bind_some, if_pos (by simpa using h), impl_MaskOf.eq, Option.bind_some, xor_all hn, and_nat hx hm]
  · have e : wd (tk (fre n w) a.toNat) 32 = 0 := (wd_congr fun i _ => by unfold tk; rw [fre_none h, Bool.false_and]).trans (wd_false 32)
    rw [e]
    refine Ev.congr (fun k => ?_) (Ev.now _)
    simp only [impl_FreeLow.f]
    rw [impl_within.eq, Option.bind_some, if_neg (by simpa using h)]
    rfl
/-! ### laws_FnExactFreeLow -/
theorem FnExactFreeLow : laws_FnExactFreeLow.Pure := by
  intro a0 a1 a2 h0 _ h2
  obtain ⟨n, rfl, hn⟩ := u32_nat h0
  have hb := bounds_i64 h2
  obtain ⟨k, e1, e2⟩ := ((spec_FreeLow.ev n hn a1 a2).and (impl_FreeLow.ev n hn a1 a2 (by omega)).last).pick
  refine ⟨k, ?_⟩
  simp only [laws_FnExactFreeLow.f, e1, e2, Option.bind_some, if_true]

end Go.Proofs.Ytlolelhajjiapaa.Pure
