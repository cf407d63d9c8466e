/-
  The law FnExactBitList: what both programs compute, in plain Lean, and that it is the same.
  Conditions: none beyond those of the statement itself.
-/
import Derived.Test.YtmlbjpjgfegnmaaPFnExactBitListx1
import Derived.Test.YtmlbjpjgfegnmaaLib
namespace Go.Proofs.Ytmlbjpjgfegnmaa.Pure
open Go.RowKit Go.Proofs.Ytmlbjpjgfegnmaa.PFnExactBitList Go.Proofs.YtmlbjpjgfegnmaaW.PrintWords Go.Proofs.YtmlbjpjgfegnmaaW.PrintLast

/-! ### laws_eqIntS -/
theorem laws_eqIntS.loop (l : List Int) (hl : l.length < 4611686018427387904) (d : Nat) : ∀ i : Nat, i + d = l.length → Ev (fun k => laws_eqIntS.l0 k l l (i : Int)) true := by
  induction d with
  | zero =>
    intro i hi
    refine Ev.stop fun k => ?_
    simp only [laws_eqIntS.l0]
    rw [if_neg (by omega)]
  | succ d ih =>
    intro i hi
    refine Ev.step (f := fun k => laws_eqIntS.l0 k l l ((i + 1 : Nat) : Int)) (fun k => ?_) (ih (i + 1) (by omega))
    simp only [laws_eqIntS.l0]
    rw [if_pos (by omega), if_pos (by omega), if_pos (by omega), if_pos trivial, w64_succ (by omega)]
theorem laws_eqIntS.ev (l : List Int) (hl : l.length < 4611686018427387904) : Ev (fun k => laws_eqIntS.f k l l) true := by
  refine Ev.congr (fun k => ?_) (laws_eqIntS.loop l hl l.length 0 (by omega))
  simp only [laws_eqIntS.f]
  rw [if_pos trivial]
  rfl
/-! ### spec_l01Bits -/
theorem spec_l01Bits.loop (n : Nat) (hn : n < 2 ^ 32) (d : Nat) : ∀ i : Nat, i + d = 32 → Ev (fun k => spec_l01Bits.l0 k ((n / 2 ^ i : Nat) : Int) (btl n.testBit i) (i : Int)) (btl n.testBit 32) := by
  induction d with
  | zero =>
    intro i hi
    obtain rfl : i = 32 := by omega
    refine Ev.stop fun k => ?_
    simp only [spec_l01Bits.l0]
    rw [if_neg (by omega)]
  | succ d ih =>
    intro i hi
    refine Ev.step (f := fun k => spec_l01Bits.l0 k ((n / 2 ^ (i + 1) : Nat) : Int) (btl n.testBit (i + 1)) ((i + 1 : Nat) : Int)) (fun k => ?_) (ih (i + 1) (by omega))
    have hlen := btl_len n.testBit i
    have hlt := div_lt hn i
    have e1 : Int.tdiv ((n / 2 ^ i : Nat) : Int) 2 % 4294967296 = ((n / 2 ^ (i + 1) : Nat) : Int) := by
      rw [Int.tdiv_eq_ediv_of_nonneg (Int.natCast_nonneg _), Nat.pow_succ, ← Nat.div_div_eq_div_mul]
      generalize n / 2 ^ i = y at hlt ⊢
      omega
    have e2 : wrap64 (Int.tmod ((n / 2 ^ i : Nat) : Int) 2) = if n.testBit i = true then 1 else 0 := by
      rw [Int.tmod_eq_emod_of_nonneg (Int.natCast_nonneg _), Nat.testBit_eq_decide_div_mod_eq]
      have h := Nat.mod_two_eq_zero_or_one (n / 2 ^ i)
      have h2 : ((n / 2 ^ i : Nat) : Int) % 2 = ((n / 2 ^ i % 2 : Nat) : Int) := (Int.natCast_emod _ _).symm
      rw [h2]
      rcases h with h | h
      · rw [h]; exact wrap64_0
      · rw [h]; exact wrap64_1
    simp only [spec_l01Bits.l0]
    rw [if_pos (by omega), if_pos (by omega), w64_succ (by omega), e1, e2, btl_succ]
theorem spec_l01Bits.ev (n : Nat) (hn : n < 2 ^ 32) : Ev (fun k => spec_l01Bits.f k (n : Int)) (btl n.testBit 32) := by
  have h := spec_l01Bits.loop n hn 32 0 rfl
  rw [Nat.pow_zero, Nat.div_one] at h
  exact Ev.congr (fun _ => rfl) h
/-! ### spec_BitList -/
theorem spec_BitList.loop (p : Nat → Bool) (d : Nat) : ∀ i : Nat, i + d = 32 → Ev (fun k => spec_BitList.l0 k (blp p i) (btl p 32) (i : Int)) (blp p 32) := by
  induction d with
  | zero =>
    intro i hi
    obtain rfl : i = 32 := by omega
    refine Ev.stop fun k => ?_
    simp only [spec_BitList.l0]
    rw [if_neg (by omega)]
  | succ d ih =>
    intro i hi
    refine Ev.step (f := fun k => spec_BitList.l0 k (blp p (i + 1)) (btl p 32) ((i + 1 : Nat) : Int)) (fun k => ?_) (ih (i + 1) (by omega))
    have hlen := blp_len_le p i
    have hlen2 := btl_len p 32
    simp only [spec_BitList.l0]
    rw [if_pos (by omega), if_pos (by omega), if_pos (by omega), btl_rd p (by omega : i < 32), w64_succ (by omega)]
    by_cases hp : p i = true
    · rw [if_pos hp, if_pos rfl, if_pos (by omega)]
      simp only [blp, if_pos hp]
    · rw [if_neg hp, if_neg (by decide)]
      simp only [blp, if_neg hp, List.append_nil]
theorem spec_BitList.ev (n : Nat) (hn : n < 2 ^ 32) : Ev (fun k => spec_BitList.f k (n : Int)) (blp n.testBit 32) :=
  Ev.bind (spec_l01Bits.ev n hn) (spec_BitList.loop n.testBit 32 0 rfl)
/-! ### impl_BitList -/
theorem impl_BitList.loop (n : Nat) (hn : n < 2 ^ 32) (d : Nat) : ∀ i : Nat, i + d = 32 → Ev (fun k => impl_BitList.l0 k (n : Int) (blp n.testBit i) (i : Int)) (blp n.testBit 32) := by
  induction d with
  | zero =>
    intro i hi
    obtain rfl : i = 32 := by omega
    refine Ev.stop fun k => ?_
    simp only [impl_BitList.l0]
    rw [if_neg (by omega)]
  | succ d ih =>
    intro i hi
    refine Ev.step (f := fun k => impl_BitList.l0 k (n : Int) (blp n.testBit (i + 1)) ((i + 1 : Nat) : Int)) (fun k => ?_) (ih (i + 1) (by omega))
    have hlen := blp_len_le n.testBit i
    simp only [impl_BitList.l0]
    rw [if_pos (by omega), if_pos (by omega), bit_at hn (by omega : i ≤ 32), w64_succ (by omega)]
    by_cases hp : n.testBit i = true
    · rw [if_pos hp, if_pos rfl, if_pos (by omega)]
      simp only [blp, if_pos hp]
    · rw [if_neg hp, if_neg (by decide)]
      simp only [blp, if_neg hp, List.append_nil]
theorem impl_BitList.ev (n : Nat) (hn : n < 2 ^ 32) : Ev (fun k => impl_BitList.f k (n : Int)) (blp n.testBit 32) :=
  Ev.congr (fun _ => rfl) (impl_BitList.loop n hn 32 0 rfl)
/-! ### laws_markIntS -/
theorem laws_markIntS.loop (m : Nat) (hm : m < 4294967296) (d : Nat) : ∀ (i : Nat) (l : List Int), l.length = m → i + d = m → (∀ j : Nat, j < i → rd l (j : Int) = (j : Int) + 1) →
    ∃ l' : List Int, l'.length = m ∧ (∀ j : Nat, j < m → rd l' (j : Int) = (j : Int) + 1) ∧ Ev (fun k => laws_markIntS.l0 k l ((i + 1 : Nat) : Int) (i : Int)) (((m + 1 : Nat) : Int), l') := by
  induction d with
  | zero =>
    intro i l hl hi hr
    obtain rfl : i = m := by omega
    refine ⟨l, hl, hr, Ev.stop fun k => ?_⟩
    simp only [laws_markIntS.l0]
    rw [if_neg (by omega)]
  | succ d ih =>
    intro i l hl hi hr
    obtain ⟨l', h1, h2, h3⟩ := ih (i + 1) (l.set i ((i + 1 : Nat) : Int)) (by simpa using hl) (by omega) (by
      intro j hj
      by_cases e : j = i
      · subst e
        rw [rd_set_self _ _ (by omega)]
        omega
      · rw [rd_set_ne _ _ (by omega)]
        exact hr j (by omega))
    refine ⟨l', h1, h2, Ev.step (f := fun k => laws_markIntS.l0 k (l.set i ((i + 1 : Nat) : Int)) ((i + 1 + 1 : Nat) : Int) ((i + 1 : Nat) : Int)) (fun k => ?_) h3⟩
    simp only [laws_markIntS.l0]
    rw [if_pos (by omega), if_pos (by omega), w64_succ (by omega), w64_succ (by omega), Int.toNat_natCast]
theorem laws_markIntS.ev (l : List Int) (hl : l.length < 4294967296) : ∃ l' : List Int, l'.length = l.length ∧ (∀ j : Nat, j < l.length → rd l' (j : Int) = (j : Int) + 1) ∧ Ev (fun k => laws_markIntS.f k l 1) (((l.length + 1 : Nat) : Int), l') :=
  laws_markIntS.loop l.length hl l.length 0 l rfl (by omega) (fun j hj => by omega)
/-! ### laws_heldIntS -/
theorem laws_heldIntS.loop (l : List Int) (hm : l.length < 4294967296) (hr : ∀ j : Nat, j < l.length → rd l (j : Int) = (j : Int) + 1) (d : Nat) : ∀ (i : Nat), i + d = l.length →
    Ev (fun k => laws_heldIntS.l0 k l ((i + 1 : Nat) : Int) (i : Int)) ((l.length + 1 : Nat) : Int) := by
  induction d with
  | zero =>
    intro i hi
    refine Ev.stop fun k => ?_
    simp only [laws_heldIntS.l0]
    rw [if_neg (by omega), show i = l.length by omega]
  | succ d ih =>
    intro i hi
    refine Ev.step (f := fun k => laws_heldIntS.l0 k l ((i + 1 + 1 : Nat) : Int) ((i + 1 : Nat) : Int)) (fun k => ?_) (ih (i + 1) (by omega))
    simp only [laws_heldIntS.l0]
    rw [if_pos (by omega), if_pos (by omega), hr i (by omega), if_pos (by omega), w64_succ (by omega), w64_succ (by omega)]
theorem laws_heldIntS.ev (l : List Int) (hl : l.length < 4294967296) (hr : ∀ j : Nat, j < l.length → rd l (j : Int) = (j : Int) + 1) : Ev (fun k => laws_heldIntS.f k l 1) ((l.length + 1 : Nat) : Int) :=
  laws_heldIntS.loop l hl hr l.length 0 (by omega)
/-! ### laws_FnExactBitList -/
theorem FnExactBitList : laws_FnExactBitList.Pure := by
  intro a0 h0
  obtain ⟨n, rfl, hn⟩ := u32_nat h0
  have hl := blp_len_le n.testBit 32
  obtain ⟨l', hl', hr, hm⟩ := laws_markIntS.ev (blp n.testBit 32) (by omega)
  have hh := laws_heldIntS.ev l' (by omega) (by rw [hl']; exact hr)
  rw [hl'] at hh
  obtain ⟨k, e1, e2, e3, e4, e5⟩ := ((spec_BitList.ev n hn).and ((impl_BitList.ev n hn).and ((laws_eqIntS.ev (blp n.testBit 32) (by omega)).and (hm.and hh.last)))).pick
  refine ⟨k, ?_⟩
  have hneg : ¬ (((blp n.testBit 32).length + 1 : Nat) : Int) < 0 := by omega
  simp only [laws_FnExactBitList.f, e1, e2, e3, e4, e5, Option.bind_some, if_true, if_neg hneg]

end Go.Proofs.Ytmlbjpjgfegnmaa.Pure
