/-
  The law FnExactOnes: what both programs compute, in plain Lean, and that it is the same.
  Conditions: none beyond those of the statement itself.
-/
import Derived.Test.YtmlbjpjgfegnmaaPFnExactOnesx1
import Derived.Test.YtmlbjpjgfegnmaaLib
namespace Go.Proofs.Ytmlbjpjgfegnmaa.Pure
open Go.RowKit Go.Proofs.Ytmlbjpjgfegnmaa.PFnExactOnes Go.Proofs.YtmlbjpjgfegnmaaW.PrintWords Go.Proofs.YtmlbjpjgfegnmaaW.PrintLast

/-! ### spec_l01Bits -/
theorem spec_l01Bits.loop (n : Nat) (hn : n < 2 ^ 32) (d : Nat) : ∀ i : Nat, i + d = 32 → Ev (fun k => spec_l01Bits.l0 k ((n / 2 ^ i : Nat) : Int) (btl n.testBit i) (i : Int)) (btl n.testBit 32) := by
  induction d with
  | zero =>
    intro i hi
    obtain rfl : i = 32 := by omega
    refine Ev.stop fun k => ?_
    simp only [spec_l01Bits.l0]
    rw [if_neg (by omega)]
  | succ d ih =>
    intro i hi
    refine Ev.step (f := fun k => spec_l01Bits.l0 k ((n / 2 ^ (i + 1) : Nat) : Int) (btl n.testBit (i + 1)) ((i + 1 : Nat) : Int)) (fun k => ?_) (ih (i + 1) (by omega))
    have hlen := btl_len n.testBit i
    have hlt := div_lt hn i
    have e1 : Int.tdiv ((n / 2 ^ i : Nat) : Int) 2 % 4294967296 = ((n / 2 ^ (i + 1) : Nat) : Int) := by
      rw [Int.tdiv_eq_ediv_of_nonneg (Int.natCast_nonneg _), Nat.pow_succ, ← Nat.div_div_eq_div_mul]
      generalize n / 2 ^ i = y at hlt ⊢
      omega
    have e2 : wrap64 (Int.tmod ((n / 2 ^ i : Nat) : Int) 2) = if n.testBit i = true then 1 else 0 := by
      rw [Int.tmod_eq_emod_of_nonneg (Int.natCast_nonneg _), Nat.testBit_eq_decide_div_mod_eq]
      have h := Nat.mod_two_eq_zero_or_one (n / 2 ^ i)
      have h2 : ((n / 2 ^ i : Nat) : Int) % 2 = ((n / 2 ^ i % 2 : Nat) : Int) := (Int.natCast_emod _ _).symm
      rw [h2]
      rcases h with h | h
      · rw [h]; exact wrap64_0
      · rw [h]; exact wrap64_1
    simp only [spec_l01Bits.l0]
    rw [if_pos (by omega), if_pos (by omega), w64_succ (by omega), e1, e2, btl_succ]
theorem spec_l01Bits.ev (n : Nat) (hn : n < 2 ^ 32) : Ev (fun k => spec_l01Bits.f k (n : Int)) (btl n.testBit 32) := by
  have h := spec_l01Bits.loop n hn 32 0 rfl
  rw [Nat.pow_zero, Nat.div_one] at h
  exact Ev.congr (fun _ => rfl) h
/-! ### spec_BitList -/
theorem spec_BitList.loop (p : Nat → Bool) (d : Nat) : ∀ i : Nat, i + d = 32 → Ev (fun k => spec_BitList.l0 k (blp p i) (btl p 32) (i : Int)) (blp p 32) := by
  induction d with
  | zero =>
    intro i hi
    obtain rfl : i = 32 := by omega
    refine Ev.stop fun k => ?_
    simp only [spec_BitList.l0]
    rw [if_neg (by omega)]
  | succ d ih =>
    intro i hi
    refine Ev.step (f := fun k => spec_BitList.l0 k (blp p (i + 1)) (btl p 32) ((i + 1 : Nat) : Int)) (fun k => ?_) (ih (i + 1) (by omega))
    have hlen := blp_len_le p i
    have hlen2 := btl_len p 32
    simp only [spec_BitList.l0]
    rw [if_pos (by omega), if_pos (by omega), if_pos (by omega), btl_rd p (by omega : i < 32), w64_succ (by omega)]
    by_cases hp : p i = true
    · rw [if_pos hp, if_pos rfl, if_pos (by omega)]
      simp only [blp, if_pos hp]
    · rw [if_neg hp, if_neg (by decide)]
      simp only [blp, if_neg hp, List.append_nil]
theorem spec_BitList.ev (n : Nat) (hn : n < 2 ^ 32) : Ev (fun k => spec_BitList.f k (n : Int)) (blp n.testBit 32) :=
  Ev.bind (spec_l01Bits.ev n hn) (spec_BitList.loop n.testBit 32 0 rfl)
/-! ### spec_Ones -/
theorem spec_Ones.ev (n : Nat) (hn : n < 2 ^ 32) : Ev (fun k => spec_Ones.f k (n : Int)) ((cnt n.testBit 32 : Nat) : Int) := by
  have h : Ev (fun k => spec_Ones.f k (n : Int)) ((blp n.testBit 32).length : Int) := Ev.bind (f := fun _ (t : List Int) => some (t.length : Int)) (spec_BitList.ev n hn) (Ev.now _)
  rw [blp_len] at h
  exact h
/-! ### bits_OnesCount32 -/
theorem bits_OnesCount32.tab (c : Nat) (hc : c < 256) : bt (⟨#[0, 1, 1, 2, 1, 2, 2, 3, 1, 2, 2, 3, 2, 3, 3, 4, 1, 2, 2, 3, 2, 3, 3, 4, 2, 3, 3, 4, 3, 4, 4, 5, 1, 2, 2, 3, 2, 3, 3, 4, 2, 3, 3, 4, 3, 4, 4, 5, 2, 3, 3, 4, 3, 4, 4, 5, 3, 4, 4, 5, 4, 5, 5, 6, 1, 2, 2, 3, 2, 3, 3, 4, 2, 3, 3, 4, 3, 4, 4, 5, 2, 3, 3, 4, 3, 4, 4, 5, 3, 4, 4, 5, 4, 5, 5, 6, 2, 3, 3, 4, 3, 4, 4, 5, 3, 4, 4, 5, 4, 5, 5, 6, 3, 4, 4, 5, 4, 5, 5, 6, 4, 5, 5, 6, 5, 6, 6, 7, 1, 2, 2, 3, 2, 3, 3, 4, 2, 3, 3, 4, 3, 4, 4, 5, 2, 3, 3, 4, 3, 4, 4, 5, 3, 4, 4, 5, 4, 5, 5, 6, 2, 3, 3, 4, 3, 4, 4, 5, 3, 4, 4, 5, 4, 5, 5, 6, 3, 4, 4, 5, 4, 5, 5, 6, 4, 5, 5, 6, 5, 6, 6, 7, 2, 3, 3, 4, 3, 4, 4, 5, 3, 4, 4, 5, 4, 5, 5, 6, 3, 4, 4, 5, 4, 5, 5, 6, 4, 5, 5, 6, 5, 6, 6, 7, 3, 4, 4, 5, 4, 5, 5, 6, 4, 5, 5, 6, 5, 6, 6, 7, 4, 5, 5, 6, 5, 6, 6, 7, 5, 6, 6, 7, 6, 7, 7, 8]⟩ : ByteArray) (c : Int) = ((cnt c.testBit 8 : Nat) : Int) := by
  have h : ∀ c : Fin 256, bt (⟨#[0, 1, 1, 2, 1, 2, 2, 3, 1, 2, 2, 3, 2, 3, 3, 4, 1, 2, 2, 3, 2, 3, 3, 4, 2, 3, 3, 4, 3, 4, 4, 5, 1, 2, 2, 3, 2, 3, 3, 4, 2, 3, 3, 4, 3, 4, 4, 5, 2, 3, 3, 4, 3, 4, 4, 5, 3, 4, 4, 5, 4, 5, 5, 6, 1, 2, 2, 3, 2, 3, 3, 4, 2, 3, 3, 4, 3, 4, 4, 5, 2, 3, 3, 4, 3, 4, 4, 5, 3, 4, 4, 5, 4, 5, 5, 6, 2, 3, 3, 4, 3, 4, 4, 5, 3, 4, 4, 5, 4, 5, 5, 6, 3, 4, 4, 5, 4, 5, 5, 6, 4, 5, 5, 6, 5, 6, 6, 7, 1, 2, 2, 3, 2, 3, 3, 4, 2, 3, 3, 4, 3, 4, 4, 5, 2, 3, 3, 4, 3, 4, 4, 5, 3, 4, 4, 5, 4, 5, 5, 6, 2, 3, 3, 4, 3, 4, 4, 5, 3, 4, 4, 5, 4, 5, 5, 6, 3, 4, 4, 5, 4, 5, 5, 6, 4, 5, 5, 6, 5, 6, 6, 7, 2, 3, 3, 4, 3, 4, 4, 5, 3, 4, 4, 5, 4, 5, 5, 6, 3, 4, 4, 5, 4, 5, 5, 6, 4, 5, 5, 6, 5, 6, 6, 7, 3, 4, 4, 5, 4, 5, 5, 6, 4, 5, 5, 6, 5, 6, 6, 7, 4, 5, 5, 6, 5, 6, 6, 7, 5, 6, 6, 7, 6, 7, 7, 8]⟩ : ByteArray) (c.val : Int) = ((cnt c.val.testBit 8 : Nat) : Int) := by decide +kernel
  exact h ⟨c, hc⟩
theorem bits_OnesCount32.eq (n : Nat) (hn : n < 2 ^ 32) : bits_OnesCount32.f (n : Int) = some ((cnt n.testBit 32 : Nat) : Int) := by
  unfold bits_OnesCount32.f
  have a0 : ((n : Int) / 16777216) = ((n / 16777216 % 256 : Nat) : Int) := by omega
  have a1 : Go.bits .and .u32 ((n : Int) / 65536) 255 = ((n / 65536 % 256 : Nat) : Int) := by rw [and255 (by omega) (by omega)]; omega
  have a2 : Go.bits .and .u32 ((n : Int) / 256) 255 = ((n / 256 % 256 : Nat) : Int) := by rw [and255 (by omega) (by omega)]; omega
  have a3 : Go.bits .and .u32 (n : Int) 255 = ((n % 256 : Nat) : Int) := by rw [and255 (by omega) (by omega)]; omega
  rw [a0, a1, a2, a3]
  rw [if_pos (by omega), if_pos (by omega), if_pos (by omega), if_pos (by omega), if_pos (by omega), if_pos (by omega), if_pos (by omega), if_pos (by omega)]
  rw [bits_OnesCount32.tab _ (Nat.mod_lt _ (by decide)), bits_OnesCount32.tab _ (Nat.mod_lt _ (by decide)), bits_OnesCount32.tab _ (Nat.mod_lt _ (by decide)), bits_OnesCount32.tab _ (Nat.mod_lt _ (by decide))]
  have b0 := cnt_le (n / 16777216 % 256).testBit 8
  have b1 := cnt_le (n / 65536 % 256).testBit 8
  have b2 := cnt_le (n / 256 % 256).testBit 8
  have b3 := cnt_le (n % 256).testBit 8
  rw [@cnt_bytes n]
  congr 1
  omega
/-! ### impl_Ones -/
theorem impl_Ones.eq (n : Nat) (hn : n < 2 ^ 32) : impl_Ones.f (n : Int) = some ((cnt n.testBit 32 : Nat) : Int) := by
  unfold impl_Ones.f
  rw [bits_OnesCount32.eq n hn, Option.bind_some]
/-! ### laws_FnExactOnes -/
theorem FnExactOnes : laws_FnExactOnes.Pure := by
  intro a0 h0
  obtain ⟨n, rfl, hn⟩ := u32_nat h0
  obtain ⟨k, e1⟩ := (spec_Ones.ev n hn).rounds
  refine ⟨k, ?_⟩
  simp only [laws_FnExactOnes.f, e1, impl_Ones.eq n hn, Option.bind_some, if_true]

end Go.Proofs.Ytmlbjpjgfegnmaa.Pure
