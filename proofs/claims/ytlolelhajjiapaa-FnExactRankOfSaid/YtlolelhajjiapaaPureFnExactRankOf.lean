/-
  The law FnExactRankOf: what both programs compute, in plain Lean, and that it is the same.
  Conditions: none beyond those of the statement itself.
-/
import Derived.Test.YtlolelhajjiapaaPFnExactRankOfx2
import Derived.Test.YtlolelhajjiapaaLib
namespace Go.Proofs.Ytlolelhajjiapaa.Pure
open Go.RowKit Go.Proofs.Ytlolelhajjiapaa.PFnExactRankOf Go.Proofs.YtlolelhajjiapaaW.PrintWords Go.Proofs.YtlolelhajjiapaaW.PrintLast

/-! ### spec_l01Bits -/
theorem spec_l01Bits.loop (n : Nat) (hn : n < 2 ^ 32) (d : Nat) : ∀ i : Nat, i + d = 32 → Ev (fun k => spec_l01Bits.l0 k ((n / 2 ^ i : Nat) : Int) (btl n.testBit i) (i : Int)) (btl n.testBit 32) := by
  induction d with
  | zero =>
    intro i hi
    obtain rfl : i = 32 := by omega
    refine Ev.stop fun k => ?_
    simp only [spec_l01Bits.l0]
    rw [if_neg (by omega)]
  | succ d ih =>
    intro i hi
    refine Ev.step (f := fun k => spec_l01Bits.l0 k ((n / 2 ^ (i + 1) : Nat) : Int) (btl n.testBit (i + 1)) ((i + 1 : Nat) : Int)) (fun k => ?_) (ih (i + 1) (by omega))
    have hlen := btl_len n.testBit i
    have hlt := div_lt hn i
    have e1 : Int.tdiv ((n / 2 ^ i : Nat) : Int) 2 % 4294967296 = ((n / 2 ^ (i + 1) : Nat) : Int) := by
      rw [Int.tdiv_eq_ediv_of_nonneg (Int.natCast_nonneg _), Nat.pow_succ, ← Nat.div_div_eq_div_mul]
      generalize n / 2 ^ i = y at hlt ⊢
      omega
    have e2 : wrap64 (Int.tmod ((n / 2 ^ i : Nat) : Int) 2) = if n.testBit i = true then 1 else 0 := by
      rw [Int.tmod_eq_emod_of_nonneg (Int.natCast_nonneg _), Nat.testBit_eq_decide_div_mod_eq]
      have h := Nat.mod_two_eq_zero_or_one (n / 2 ^ i)
      have h2 : ((n / 2 ^ i : Nat) : Int) % 2 = ((n / 2 ^ i % 2 : Nat) : Int) := (Int.natCast_emod _ _).symm
      rw [h2]
      rcases h with h | h
      · rw [h]; exact wrap64_0
      · rw [h]; exact wrap64_1
    simp only [spec_l01Bits.l0]
    rw [if_pos (by omega), if_pos (by omega), w64_succ (by omega), e1, e2, btl_succ]
theorem spec_l01Bits.ev (n : Nat) (hn : n < 2 ^ 32) : Ev (fun k => spec_l01Bits.f k (n : Int)) (btl n.testBit 32) := by
  have h := spec_l01Bits.loop n hn 32 0 rfl
  rw [Nat.pow_zero, Nat.div_one] at h
  exact Ev.congr (fun _ => rfl) h
/-! ### spec_BitList -/
theorem spec_BitList.loop (p : Nat → Bool) (d : Nat) : ∀ i : Nat, i + d = 32 → Ev (fun k => spec_BitList.l0 k (blp p i) (btl p 32) (i : Int)) (blp p 32) := by
  induction d with
  | zero =>
    intro i hi
    obtain rfl : i = 32 := by omega
    refine Ev.stop fun k => ?_
    simp only [spec_BitList.l0]
    rw [if_neg (by omega)]
  | succ d ih =>
    intro i hi
    refine Ev.step (f := fun k => spec_BitList.l0 k (blp p (i + 1)) (btl p 32) ((i + 1 : Nat) : Int)) (fun k => ?_) (ih (i + 1) (by omega))
    have hlen := blp_len_le p i
    have hlen2 := btl_len p 32
    simp only [spec_BitList.l0]
    rw [if_pos (by omega), if_pos (by omega), if_pos (by omega), btl_rd p (by omega : i < 32), w64_succ (by omega)]
    by_cases hp : p i = true
    · rw [if_pos hp, if_pos rfl, if_pos (by omega)]
      simp only [blp, if_pos hp]
    · rw [if_neg hp, if_neg (by decide)]
      simp only [blp, if_neg hp, List.append_nil]
theorem spec_BitList.ev (n : Nat) (hn : n < 2 ^ 32) : Ev (fun k => spec_BitList.f k (n : Int)) (blp n.testBit 32) :=
  Ev.bind (spec_l01Bits.ev n hn) (spec_BitList.loop n.testBit 32 0 rfl)
/-! ### spec_Highest -/
theorem spec_Highest.ev (n : Nat) (hn : n < 2 ^ 32) : Ev (fun k => spec_Highest.f k (n : Int)) (top n.testBit 32) := by
  have hlen := blp_len_le n.testBit 32
  refine Ev.congr (fun _ => rfl) (Ev.bind (spec_BitList.ev n hn) ?_)
  by_cases h : (blp n.testBit 32).length = 0
  · rw [blp_empty _ _ h]
    refine Ev.const ?_
    rw [if_pos (by omega)]
  · obtain ⟨h1, _⟩ := blp_last n.testBit 32 h
    refine Ev.const ?_
    rw [if_neg (by omega), w64 (by omega) (by omega), if_pos (by omega), if_pos (by omega), h1]
/-! ### spec_l03Mask -/
theorem spec_l03Mask.ev (n : Nat) (hn : n < 2 ^ 32) : Ev (fun k => spec_l03Mask.f k (n : Int)) (decide (n < 256)) := by
  have h : Ev (fun k => spec_l03Mask.f k (n : Int)) (decide (top n.testBit 32 < 8)) := Ev.bind (f := fun _ (t : Int) => some (decide (t < 8))) (spec_Highest.ev n hn) (Ev.now _)
  have e : decide (top n.testBit 32 < 8) = decide (n < 256) := decide_eq_decide.2 (top_mask hn)
  rw [e] at h
  exact h
/-! ### spec_RankOf -/
theorem spec_RankOf.out (n : Nat) (hn : n < 2 ^ 32) (h : ¬ n < 256) (a : Int) (l : List Int) : Ev (fun k => spec_RankOf.l0 k (n : Int) a l 0) (-1) := by
  have hj : Ev (fun k => spec_RankOf.j1 k (n : Int) a l 0 false) (-1) := Ev.stop fun k => by
    simp only [spec_RankOf.j1]
    rw [if_neg (by decide)]
  by_cases hl : (0 : Int) < (l.length : Int)
  · refine Ev.step (f := fun k => (spec_l03Mask.f k (n : Int)).bind fun t => spec_RankOf.j1 k (n : Int) a l 0 t) (fun k => ?_) (Ev.bind (spec_l03Mask.ev n hn) ?_)
    · simp only [spec_RankOf.l0]
      rw [if_pos hl]
    · rw [decide_eq_false h]
      exact hj
  · refine Ev.step (f := fun k => spec_RankOf.j1 k (n : Int) a l 0 false) (fun k => ?_) hj
    simp only [spec_RankOf.l0]
    rw [if_neg hl]
theorem spec_RankOf.loop (n : Nat) (hn : n < 2 ^ 32) (h : n < 256) (a : Int) (l : List Int) (hl : l.length < 4611686018427387904) (d : Nat) : ∀ i : Nat, i + d = l.length → Ev (fun k => spec_RankOf.l0 k (n : Int) a l (i : Int)) (fnd a (l.drop i) i) := by
  induction d with
  | zero =>
    intro i hi
    rw [List.drop_eq_nil_of_le (by omega)]
    refine Ev.step (f := fun k => spec_RankOf.j1 k (n : Int) a l (i : Int) false) (fun k => ?_) (Ev.stop fun k => ?_)
    · simp only [spec_RankOf.l0]
      rw [if_neg (by omega)]
    · simp only [spec_RankOf.j1, fnd]
      rw [if_neg (by decide)]
  | succ d ih =>
    intro i hi
    have hlt : i < l.length := by omega
    rw [drop_rd l hlt]
    simp only [fnd]
    refine Ev.step (f := fun k => (spec_l03Mask.f k (n : Int)).bind fun t => spec_RankOf.j1 k (n : Int) a l (i : Int) t) (fun k => ?_) (Ev.bind (spec_l03Mask.ev n hn) ?_)
    · simp only [spec_RankOf.l0]
      rw [if_pos (by omega)]
    · rw [decide_eq_true h]
      by_cases e : rd l (i : Int) = a
      · rw [if_pos e]
        refine Ev.stop fun k => ?_
        simp only [spec_RankOf.j1]
        rw [if_pos trivial, if_pos (by omega), if_pos (by omega), if_pos e]
      · rw [if_neg e]
        refine Ev.step (f := fun k => spec_RankOf.l0 k (n : Int) a l ((i + 1 : Nat) : Int)) (fun k => ?_) (ih (i + 1) (by omega))
        simp only [spec_RankOf.j1]
        rw [if_pos trivial, if_pos (by omega), if_pos (by omega), if_neg e, w64_succ (by omega)]
theorem spec_RankOf.ev (n : Nat) (hn : n < 2 ^ 32) (a : Int) : Ev (fun k => spec_RankOf.f k (n : Int) a) (rk n a) := by
  have hlen := blp_len_le n.testBit 32
  refine Ev.congr (fun _ => rfl) (Ev.bind (f := fun k t => spec_RankOf.l0 k (n : Int) a t 0) (spec_BitList.ev n hn) ?_)
  unfold rk
  by_cases h : n < 256
  · refine (spec_RankOf.loop n hn h a (blp n.testBit 32) (by omega) (blp n.testBit 32).length 0 (by omega)).eq ?_
    rw [List.drop_zero, fnd_blp]
    by_cases h2 : 0 ≤ a ∧ a < ((32 : Nat) : Int) ∧ n.testBit a.toNat = true
    · rw [if_pos h2, if_pos ⟨h, h2.1, by omega, h2.2.2⟩]
    · rw [if_neg h2, if_neg (fun h3 => h2 ⟨h3.2.1, by omega, h3.2.2.2⟩)]
  · rw [if_neg (fun h3 => h h3.1)]
    exact spec_RankOf.out n hn h a _
/-! ### impl_isMask -/
theorem impl_isMask.eq (n : Nat) : impl_isMask.f (n : Int) = some (decide (n < 256)) := by
  unfold impl_isMask.f
  have : ((n : Int) < 256) ↔ n < 256 := by omega
  simp only [this]
/-! ### impl_within -/
theorem impl_within.eq (a lo hi : Int) : impl_within.f a lo hi = some (decide (lo ≤ a ∧ a ≤ hi)) := by
  unfold impl_within.f
  split
  · rename_i h
    have : lo ≤ a := h
    simp [this]
  · rename_i h
    have : ¬ lo ≤ a := h
    simp [this]
/-! ### impl_hasLane -/
theorem impl_hasLane.eq (n : Nat) (hn : n < 2 ^ 32) (a : Int) : impl_hasLane.f (n : Int) a = some (decide (0 ≤ a ∧ a < 8 ∧ n.testBit a.toNat = true)) := by
  unfold impl_hasLane.f
  rw [impl_within.eq, Option.bind_some]
  by_cases h : 0 ≤ a ∧ a ≤ 7
  · obtain ⟨c, rfl⟩ : ∃ c : Nat, a = c := ⟨a.toNat, by omega⟩
    rw [if_pos (by simpa using h), if_pos h.1, bit_at hn (by omega), Int.toNat_natCast]
    have h8 : (c : Int) < 8 := by omega
    by_cases hb : n.testBit c = true
    · rw [if_pos hb, decide_eq_true ⟨h.1, h8, hb⟩]; rfl
    · rw [if_neg hb, decide_eq_false (fun h3 => hb h3.2.2)]; rfl
  · rw [if_neg (by simpa using h), decide_eq_false (fun h3 => h ⟨h3.1, by omega⟩)]
/-! ### bits_OnesCount32 -/
theorem bits_OnesCount32.tab (c : Nat) (hc : c < 256) : bt (⟨#[0, 1, 1, 2, 1, 2, 2, 3, 1, 2, 2, 3, 2, 3, 3, 4, 1, 2, 2, 3, 2, 3, 3, 4, 2, 3, 3, 4, 3, 4, 4, 5, 1, 2, 2, 3, 2, 3, 3, 4, 2, 3, 3, 4, 3, 4, 4, 5, 2, 3, 3, 4, 3, 4, 4, 5, 3, 4, 4, 5, 4, 5, 5, 6, 1, 2, 2, 3, 2, 3, 3, 4, 2, 3, 3, 4, 3, 4, 4, 5, 2, 3, 3, 4, 3, 4, 4, 5, 3, 4, 4, 5, 4, 5, 5, 6, 2, 3, 3, 4, 3, 4, 4, 5, 3, 4, 4, 5, 4, 5, 5, 6, 3, 4, 4, 5, 4, 5, 5, 6, 4, 5, 5, 6, 5, 6, 6, 7, 1, 2, 2, 3, 2, 3, 3, 4, 2, 3, 3, 4, 3, 4, 4, 5, 2, 3, 3, 4, 3, 4, 4, 5, 3, 4, 4, 5, 4, 5, 5, 6, 2, 3, 3, 4, 3, 4, 4, 5, 3, 4, 4, 5, 4, 5, 5, 6, 3, 4, 4, 5, 4, 5, 5, 6, 4, 5, 5, 6, 5, 6, 6, 7, 2, 3, 3, 4, 3, 4, 4, 5, 3, 4, 4, 5, 4, 5, 5, 6, 3, 4, 4, 5, 4, 5, 5, 6, 4, 5, 5, 6, 5, 6, 6, 7, 3, 4, 4, 5, 4, 5, 5, 6, 4, 5, 5, 6, 5, 6, 6, 7, 4, 5, 5, 6, 5, 6, 6, 7, 5, 6, 6, 7, 6, 7, 7, 8]⟩ : ByteArray) (c : Int) = ((cnt c.testBit 8 : Nat) : Int) := by
  have h : ∀ c : Fin 256, bt (⟨#[0, 1, 1, 2, 1, 2, 2, 3, 1, 2, 2, 3, 2, 3, 3, 4, 1, 2, 2, 3, 2, 3, 3, 4, 2, 3, 3, 4, 3, 4, 4, 5, 1, 2, 2, 3, 2, 3, 3, 4, 2, 3, 3, 4, 3, 4, 4, 5, 2, 3, 3, 4, 3, 4, 4, 5, 3, 4, 4, 5, 4, 5, 5, 6, 1, 2, 2, 3, 2, 3, 3, 4, 2, 3, 3, 4, 3, 4, 4, 5, 2, 3, 3, 4, 3, 4, 4, 5, 3, 4, 4, 5, 4, 5, 5, 6, 2, 3, 3, 4, 3, 4, 4, 5, 3, 4, 4, 5, 4, 5, 5, 6, 3, 4, 4, 5, 4, 5, 5, 6, 4, 5, 5, 6, 5, 6, 6, 7, 1, 2, 2, 3, 2, 3, 3, 4, 2, 3, 3, 4, 3, 4, 4, 5, 2, 3, 3, 4, 3, 4, 4, 5, 3, 4, 4, 5, 4, 5, 5, 6, 2, 3, 3, 4, 3, 4, 4, 5, 3, 4, 4, 5, 4, 5, 5, 6, 3, 4, 4, 5, 4, 5, 5, 6, 4, 5, 5, 6, 5, 6, 6, 7, 2, 3, 3, 4, 3, 4, 4, 5, 3, 4, 4, 5, 4, 5, 5, 6, 3, 4, 4, 5, 4, 5, 5, 6, 4, 5, 5, 6, 5, 6, 6, 7, 3, 4, 4, 5, 4, 5, 5, 6, 4, 5, 5, 6, 5, 6, 6, 7, 4, 5, 5, 6, 5, 6, 6, 7, 5, 6, 6, 7, 6, 7, 7, 8]⟩ : ByteArray) (c.val : Int) = ((cnt c.val.testBit 8 : Nat) : Int) := by decide +kernel
  exact h ⟨c, hc⟩
theorem bits_OnesCount32.eq (n : Nat) (hn : n < 2 ^ 32) : bits_OnesCount32.f (n : Int) = some ((cnt n.testBit 32 : Nat) : Int) := by
  unfold bits_OnesCount32.f
  have a0 : ((n : Int) / 16777216) = ((n / 16777216 % 256 : Nat) : Int) := by omega
  have a1 : Go.bits .and .u32 ((n : Int) / 65536) 255 = ((n / 65536 % 256 : Nat) : Int) := by rw [and255 (by omega) (by omega)]; omega
  have a2 : Go.bits .and .u32 ((n : Int) / 256) 255 = ((n / 256 % 256 : Nat) : Int) := by rw [and255 (by omega) (by omega)]; omega
  have a3 : Go.bits .and .u32 (n : Int) 255 = ((n % 256 : Nat) : Int) := by rw [and255 (by omega) (by omega)]; omega
  rw [a0, a1, a2, a3]
  rw [if_pos (by omega), if_pos (by omega), if_pos (by omega), if_pos (by omega), if_pos (by omega), if_pos (by omega), if_pos (by omega), if_pos (by omega)]
  rw [bits_OnesCount32.tab _ (Nat.mod_lt _ (by decide)), bits_OnesCount32.tab _ (Nat.mod_lt _ (by decide)), bits_OnesCount32.tab _ (Nat.mod_lt _ (by decide)), bits_OnesCount32.tab _ (Nat.mod_lt _ (by decide))]
  have b0 := cnt_le (n / 16777216 % 256).testBit 8
  have b1 := cnt_le (n / 65536 % 256).testBit 8
  have b2 := cnt_le (n / 256 % 256).testBit 8
  have b3 := cnt_le (n % 256).testBit 8
  rw [@cnt_bytes n]
  congr 1
  omega
/-! ### impl_Ones -/
theorem impl_Ones.eq (n : Nat) (hn : n < 2 ^ 32) : impl_Ones.f (n : Int) = some ((cnt n.testBit 32 : Nat) : Int) := by
  unfold impl_Ones.f
  rw [bits_OnesCount32.eq n hn, Option.bind_some]
/-! ### impl_MaskOf -/
theorem impl_MaskOf.eq (a : Int) : impl_MaskOf.f a = some ((wd (fun j => decide ((j : Int) < a ∧ a ≤ 32)) 32 : Nat) : Int) := by
  unfold impl_MaskOf.f
  rw [impl_within.eq, Option.bind_some]
  by_cases h : 0 ≤ a ∧ a ≤ 32
  · rw [if_pos (by simpa using h), if_pos h.1]
    obtain ⟨m, rfl⟩ : ∃ m : Nat, a = m := ⟨a.toNat, by omega⟩
    have e : wd (fun j => decide ((j : Int) < (m : Int) ∧ (m : Int) ≤ 32)) 32 = 2 ^ m - 1 := by
      rw [← wd_mask (by omega : m ≤ 32)]
      exact wd_congr fun i _ => decide_eq_decide.2 (by omega)
    rw [e]
    have hq : 0 < (2 : Nat) ^ m := Nat.two_pow_pos m
    by_cases h2 : m = 32
    · subst h2; rfl
    · have hp := two_pow_lt (i := m) (by omega)
      rw [shl_one (by omega : m < 32)]
      congr 1
      omega
  · rw [if_neg (by simpa using h)]
    have e : wd (fun j => decide ((j : Int) < a ∧ a ≤ 32)) 32 = 0 := by
      refine (wd_congr fun i _ => ?_).trans (wd_false 32)
      have : ¬ ((i : Int) < a ∧ a ≤ 32) := by omega
      simp only [this, decide_false]
    rw [e]
    rfl
/-! ### impl_RankOf -/
theorem impl_RankOf.ev (n : Nat) (hn : n < 2 ^ 32) (a : Int) : Ev (fun k => impl_RankOf.f k (n : Int) a) (rk n a) := by
  unfold rk
  by_cases h : n < 256
  · refine Ev.congr (f := fun k => impl_RankOf.j0 k (n : Int) a (!decide (0 ≤ a ∧ a < 8 ∧ n.testBit a.toNat = true))) (fun k => ?_) (Ev.stop fun k => ?_)
    · simp only [impl_RankOf.f]
      rw [impl_isMask.eq, Option.bind_some, if_pos (by simpa using h), impl_hasLane.eq n hn, Option.bind_some]
    · simp only [impl_RankOf.j0]
      by_cases h2 : 0 ≤ a ∧ a < 8 ∧ n.testBit a.toNat = true
      · rw [decide_eq_true h2, if_neg (by decide), if_pos ⟨h, h2.1, by omega, h2.2.2⟩, impl_MaskOf.eq, Option.bind_some, and_nat hn (wd_lt32 _), impl_Ones.eq _ (Nat.and_lt_two_pow _ (wd_lt32 _)), Option.bind_some]
        have e : cnt (n &&& wd (fun j => decide ((j : Int) < a ∧ a ≤ 32)) 32).testBit 32 = cnt n.testBit a.toNat := by
          rw [← cnt_below n.testBit a.toNat 32 (by omega)]
          refine cnt_congr fun i hi => ?_
          rw [Nat.testBit_and, wd_bit, decide_eq_true hi, Bool.true_and]
          congr 1
          exact decide_eq_decide.2 (by omega)
        rw [e]
      · rw [decide_eq_false h2, if_pos (by decide), if_neg]
        intro h3
        by_cases h8 : a < 8
        · exact h2 ⟨h3.2.1, h8, h3.2.2.2⟩
        · have := mask_high h (j := a.toNat) (by omega)
          rw [this] at h3
          exact absurd h3.2.2.2 (by decide)
  · rw [if_neg (fun h3 => h h3.1)]
    refine Ev.congr (f := fun k => impl_RankOf.j0 k (n : Int) a true) (fun k => ?_) (Ev.stop fun k => ?_)
    · simp only [impl_RankOf.f]
      rw [impl_isMask.eq, Option.bind_some, if_neg (by simpa using h)]
    · simp only [impl_RankOf.j0]
      rw [if_pos trivial]
/-! ### laws_FnExactRankOf -/
theorem FnExactRankOf : laws_FnExactRankOf.Pure := by
  intro a0 a1 h0 _
  obtain ⟨n, rfl, hn⟩ := u32_nat h0
  obtain ⟨k, e1, e2⟩ := ((spec_RankOf.ev n hn a1).and (impl_RankOf.ev n hn a1).last).pick
  refine ⟨k, ?_⟩
  simp only [laws_FnExactRankOf.f, e1, e2, Option.bind_some, if_true]

end Go.Proofs.Ytlolelhajjiapaa.Pure
