/-
  The law FnExactGather: what both programs compute, in plain Lean, and that it is the same.
  Conditions: none beyond those of the statement itself.
-/
import Derived.Test.YtlolelhajjiapaaPFnExactGatherx3
import Derived.Test.YtlolelhajjiapaaLib
namespace Go.Proofs.Ytlolelhajjiapaa.Pure
open Go.RowKit Go.Proofs.Ytlolelhajjiapaa.PFnExactGather Go.Proofs.YtlolelhajjiapaaW.PrintWords Go.Proofs.YtlolelhajjiapaaW.PrintLast

/-! ### spec_l01Bits -/
theorem spec_l01Bits.loop (n : Nat) (hn : n < 2 ^ 32) (d : Nat) : ∀ i : Nat, i + d = 32 → Ev (fun k => spec_l01Bits.l0 k ((n / 2 ^ i : Nat) : Int) (btl n.testBit i) (i : Int)) (btl n.testBit 32) := by
  induction d with
  | zero =>
    intro i hi
    obtain rfl : i = 32 := by omega
    refine Ev.stop fun k => ?_
    simp only [spec_l01Bits.l0]
    rw [if_neg (by omega)]
  | succ d ih =>
    intro i hi
    refine Ev.step (f := fun k => spec_l01Bits.l0 k ((n / 2 ^ (i + 1) : Nat) : Int) (btl n.testBit (i + 1)) ((i + 1 : Nat) : Int)) (fun k => ?_) (ih (i + 1) (by omega))
    have hlen := btl_len n.testBit i
    have hlt := div_lt hn i
    have e1 : Int.tdiv ((n / 2 ^ i : Nat) : Int) 2 % 4294967296 = ((n / 2 ^ (i + 1) : Nat) : Int) := by
      rw [Int.tdiv_eq_ediv_of_nonneg (Int.natCast_nonneg _), Nat.pow_succ, ← Nat.div_div_eq_div_mul]
      generalize n / 2 ^ i = y at hlt ⊢
      omega
    have e2 : wrap64 (Int.tmod ((n / 2 ^ i : Nat) : Int) 2) = if n.testBit i = true then 1 else 0 := by
      rw [Int.tmod_eq_emod_of_nonneg (Int.natCast_nonneg _), Nat.testBit_eq_decide_div_mod_eq]
      have h := Nat.mod_two_eq_zero_or_one (n / 2 ^ i)
      have h2 : ((n / 2 ^ i : Nat) : Int) % 2 = ((n / 2 ^ i % 2 : Nat) : Int) := (Int.natCast_emod _ _).symm
      rw [h2]
      rcases h with h | h
      · rw [h]; exact wrap64_0
      · rw [h]; exact wrap64_1
    simp only [spec_l01Bits.l0]
    rw [if_pos (by omega), if_pos (by omega), w64_succ (by omega), e1, e2, btl_succ]
theorem spec_l01Bits.ev (n : Nat) (hn : n < 2 ^ 32) : Ev (fun k => spec_l01Bits.f k (n : Int)) (btl n.testBit 32) := by
  have h := spec_l01Bits.loop n hn 32 0 rfl
  rw [Nat.pow_zero, Nat.div_one] at h
  exact Ev.congr (fun _ => rfl) h
/-! ### spec_BitList -/
theorem spec_BitList.loop (p : Nat → Bool) (d : Nat) : ∀ i : Nat, i + d = 32 → Ev (fun k => spec_BitList.l0 k (blp p i) (btl p 32) (i : Int)) (blp p 32) := by
  induction d with
  | zero =>
    intro i hi
    obtain rfl : i = 32 := by omega
    refine Ev.stop fun k => ?_
    simp only [spec_BitList.l0]
    rw [if_neg (by omega)]
  | succ d ih =>
    intro i hi
    refine Ev.step (f := fun k => spec_BitList.l0 k (blp p (i + 1)) (btl p 32) ((i + 1 : Nat) : Int)) (fun k => ?_) (ih (i + 1) (by omega))
    have hlen := blp_len_le p i
    have hlen2 := btl_len p 32
    simp only [spec_BitList.l0]
    rw [if_pos (by omega), if_pos (by omega), if_pos (by omega), btl_rd p (by omega : i < 32), w64_succ (by omega)]
    by_cases hp : p i = true
    · rw [if_pos hp, if_pos rfl, if_pos (by omega)]
      simp only [blp, if_pos hp]
    · rw [if_neg hp, if_neg (by decide)]
      simp only [blp, if_neg hp, List.append_nil]
theorem spec_BitList.ev (n : Nat) (hn : n < 2 ^ 32) : Ev (fun k => spec_BitList.f k (n : Int)) (blp n.testBit 32) :=
  Ev.bind (spec_l01Bits.ev n hn) (spec_BitList.loop n.testBit 32 0 rfl)
/-! ### spec_Highest -/
theorem spec_Highest.ev (n : Nat) (hn : n < 2 ^ 32) : Ev (fun k => spec_Highest.f k (n : Int)) (top n.testBit 32) := by
  have hlen := blp_len_le n.testBit 32
  refine Ev.congr (fun _ => rfl) (Ev.bind (spec_BitList.ev n hn) ?_)
  by_cases h : (blp n.testBit 32).length = 0
  · rw [blp_empty _ _ h]
    refine Ev.const ?_
    rw [if_pos (by omega)]
  · obtain ⟨h1, _⟩ := blp_last n.testBit 32 h
    refine Ev.const ?_
    rw [if_neg (by omega), w64 (by omega) (by omega), if_pos (by omega), if_pos (by omega), h1]
/-! ### spec_l03Mask -/
theorem spec_l03Mask.ev (n : Nat) (hn : n < 2 ^ 32) : Ev (fun k => spec_l03Mask.f k (n : Int)) (decide (n < 256)) := by
  have h : Ev (fun k => spec_l03Mask.f k (n : Int)) (decide (top n.testBit 32 < 8)) := Ev.bind (f := fun _ (t : Int) => some (decide (t < 8))) (spec_Highest.ev n hn) (Ev.now _)
  have e : decide (top n.testBit 32 < 8) = decide (n < 256) := decide_eq_decide.2 (top_mask hn)
  rw [e] at h
  exact h
/-! ### spec_l03Row -/
theorem spec_l03Row.eq (l : List Int) : spec_l03Row.f l = some (decide (l.length = 8)) := by
  unfold spec_l03Row.f
  congr 1
  rw [Bool.eq_iff_iff]
  simp
  omega
/-! ### spec_Gather -/
theorem spec_Gather.loop (v : List Int) (hv : v.length = 8) (n : Nat) (hn : n < 256) (d : Nat) : ∀ i : Nat, i + d = (blp n.testBit 32).length → Ev (fun k => spec_Gather.l0 k v (((blp n.testBit 32).take i).map (rd v)) (blp n.testBit 32) (i : Int)) ((blp n.testBit 32).map (rd v)) := by
  have hlen := blp_len_le n.testBit 32
  induction d with
  | zero =>
    intro i hi
    refine Ev.stop fun k => ?_
    simp only [spec_Gather.l0]
    rw [if_neg (by omega), List.take_of_length_le (by omega)]
  | succ d ih =>
    intro i hi
    obtain ⟨b0, b1⟩ := mask_blp_lt hn (i := i) (by omega)
    have hl : (((blp n.testBit 32).take i).map (rd v)).length ≤ 32 := by rw [List.length_map, List.length_take]; omega
    refine Ev.step (f := fun k => spec_Gather.l0 k v (((blp n.testBit 32).take (i + 1)).map (rd v)) (blp n.testBit 32) ((i + 1 : Nat) : Int)) (fun k => ?_) (ih (i + 1) (by omega))
    simp only [spec_Gather.l0]
    rw [if_pos (by omega), if_pos (by omega), if_pos (by omega), if_pos (by omega), if_pos (by omega), w64_succ (by omega), map_take_succ _ _ (by omega)]
theorem spec_Gather.ev (v : List Int) (n : Nat) (hn : n < 2 ^ 32) : Ev (fun k => spec_Gather.f k v (n : Int)) (gath v n) := by
  have hout : Ev (fun k => spec_Gather.j0 k v (n : Int) true) [] := Ev.stop fun k => by
    simp only [spec_Gather.j0]
    rw [if_pos trivial]
  unfold gath
  by_cases h8 : v.length = 8
  · refine Ev.congr (f := fun k => (spec_l03Mask.f k (n : Int)).bind fun t => spec_Gather.j0 k v (n : Int) (!t)) (fun k => ?_) (Ev.bind (f := fun k t => spec_Gather.j0 k v (n : Int) (!t)) (spec_l03Mask.ev n hn) ?_)
    · simp only [spec_Gather.f]
      rw [spec_l03Row.eq, Option.bind_some, if_pos (by simpa using h8)]
    · by_cases h : n < 256
      · rw [if_pos ⟨h8, h⟩, decide_eq_true h]
        refine Ev.step (f := fun k => (spec_BitList.f k (n : Int)).bind fun t => spec_Gather.l0 k v [] t 0) (fun k => ?_) (Ev.bind (f := fun k t => spec_Gather.l0 k v [] t 0) (spec_BitList.ev n hn) (spec_Gather.loop v h8 n h (blp n.testBit 32).length 0 (by omega)))
        simp only [spec_Gather.j0]
        rw [if_neg (by decide)]
      · rw [if_neg (fun h2 => h h2.2), decide_eq_false h]
        exact hout
  · rw [if_neg (fun h2 => h8 h2.1)]
    refine Ev.congr (f := fun k => spec_Gather.j0 k v (n : Int) true) (fun k => ?_) hout
    simp only [spec_Gather.f]
    rw [spec_l03Row.eq, Option.bind_some, if_neg (by simpa using h8)]
/-! ### laws_toIntS -/
theorem laws_toIntS.loop (l : List Int) (hl : l.length < 4611686018427387904) (d : Nat) : ∀ (i : Nat) (o : List Int), o.length = l.length → i + d = l.length → o.take i = l.take i → Ev (fun k => laws_toIntS.l0 k l o (i : Int)) l := by
  induction d with
  | zero =>
    intro i o ho hi ht
    have e : o = l := by
      rw [List.take_of_length_le (by omega), List.take_of_length_le (by omega)] at ht
      exact ht
    refine Ev.stop fun k => ?_
    simp only [laws_toIntS.l0]
    rw [if_neg (by omega), e]
  | succ d ih =>
    intro i o ho hi ht
    refine Ev.step (f := fun k => laws_toIntS.l0 k l (o.set i (rd l (i : Int))) ((i + 1 : Nat) : Int)) (fun k => ?_) (ih (i + 1) _ (by simpa using ho) (by omega) (take_set l o (by omega) (by omega) ht))
    simp only [laws_toIntS.l0]
    rw [if_pos (by omega), if_pos (by omega), if_pos (by omega), w64_succ (by omega), Int.toNat_natCast]
theorem laws_toIntS.ev (l : List Int) (hl : l.length ≤ 35184372088832) : Ev (fun k => laws_toIntS.f k l) l := by
  refine Ev.congr (fun k => ?_) (laws_toIntS.loop l (by omega) l.length 0 (List.replicate l.length 0) (by simp) (by omega) rfl)
  simp only [laws_toIntS.f]
  rw [if_pos (by omega), Int.toNat_natCast, if_pos (by omega)]
  rfl
/-! ### impl_BitList -/
theorem impl_BitList.loop (n : Nat) (hn : n < 2 ^ 32) (d : Nat) : ∀ i : Nat, i + d = 32 → Ev (fun k => impl_BitList.l0 k (n : Int) (blp n.testBit i) (i : Int)) (blp n.testBit 32) := by
  induction d with
  | zero =>
    intro i hi
    obtain rfl : i = 32 := by omega
    refine Ev.stop fun k => ?_
    simp only [impl_BitList.l0]
    rw [if_neg (by omega)]
  | succ d ih =>
    intro i hi
    refine Ev.step (f := fun k => impl_BitList.l0 k (n : Int) (blp n.testBit (i + 1)) ((i + 1 : Nat) : Int)) (fun k => ?_) (ih (i + 1) (by omega))
    have hlen := blp_len_le n.testBit i
    simp only [impl_BitList.l0]
    rw [if_pos (by omega), if_pos (by omega), bit_at hn (by omega : i ≤ 32), w64_succ (by omega)]
    by_cases hp : n.testBit i = true
    · rw [if_pos hp, if_pos rfl, if_pos (by omega)]
      simp only [blp, if_pos hp]
    · rw [if_neg hp, if_neg (by decide)]
      simp only [blp, if_neg hp, List.append_nil]
theorem impl_BitList.ev (n : Nat) (hn : n < 2 ^ 32) : Ev (fun k => impl_BitList.f k (n : Int)) (blp n.testBit 32) :=
  Ev.congr (fun _ => rfl) (impl_BitList.loop n hn 32 0 rfl)
/-! ### impl_isMask -/
theorem impl_isMask.eq (n : Nat) : impl_isMask.f (n : Int) = some (decide (n < 256)) := by
  unfold impl_isMask.f
  have : ((n : Int) < 256) ↔ n < 256 := by omega
  simp only [this]
/-! ### impl_Gather -/
theorem impl_Gather.loop (v : List Int) (hv : v.length = 8) (n : Nat) (hn : n < 256) (d : Nat) : ∀ i : Nat, i + d = (blp n.testBit 32).length → Ev (fun k => impl_Gather.l0 k v (((blp n.testBit 32).take i).map (rd v)) (blp n.testBit 32) ((blp n.testBit 32).length : Int) (i : Int)) ((blp n.testBit 32).map (rd v)) := by
  have hlen := blp_len_le n.testBit 32
  induction d with
  | zero =>
    intro i hi
    refine Ev.stop fun k => ?_
    simp only [impl_Gather.l0]
    rw [if_neg (by omega), List.take_of_length_le (by omega)]
  | succ d ih =>
    intro i hi
    obtain ⟨b0, b1⟩ := mask_blp_lt hn (i := i) (by omega)
    have hl : (((blp n.testBit 32).take i).map (rd v)).length ≤ 32 := by rw [List.length_map, List.length_take]; omega
    refine Ev.step (f := fun k => impl_Gather.l0 k v (((blp n.testBit 32).take (i + 1)).map (rd v)) (blp n.testBit 32) ((blp n.testBit 32).length : Int) ((i + 1 : Nat) : Int)) (fun k => ?_) (ih (i + 1) (by omega))
    simp only [impl_Gather.l0]
    rw [if_pos (by omega), if_pos (by omega), if_pos (by omega), if_pos (by omega), if_pos (by omega), if_pos (by omega), w64_succ (by omega), map_take_succ _ _ (by omega)]
theorem impl_Gather.ev (v : List Int) (n : Nat) (hn : n < 2 ^ 32) : Ev (fun k => impl_Gather.f k v (n : Int)) (gath v n) := by
  have hout : Ev (fun k => impl_Gather.j0 k v (n : Int) true) [] := Ev.stop fun k => by
    simp only [impl_Gather.j0]
    rw [if_pos trivial]
  unfold gath
  by_cases h : n < 256
  · refine Ev.congr (f := fun k => impl_Gather.j0 k v (n : Int) ((v.length : Int) != 8)) (fun k => ?_) ?_
    · simp only [impl_Gather.f]
      rw [impl_isMask.eq, Option.bind_some, if_pos (by simpa using h)]
    · by_cases h8 : v.length = 8
      · have e : ((v.length : Int) != 8) = false := by simp [h8]
        rw [if_pos ⟨h8, h⟩, e]
        refine Ev.step (f := fun k => (impl_BitList.f k (n : Int)).bind fun t => impl_Gather.l0 k v [] t (t.length : Int) 0) (fun k => ?_) (Ev.bind (f := fun k t => impl_Gather.l0 k v [] t (t.length : Int) 0) (impl_BitList.ev n hn) (impl_Gather.loop v h8 n h (blp n.testBit 32).length 0 (by omega)))
        simp only [impl_Gather.j0]
        rw [if_neg (by decide)]
      · have e : ((v.length : Int) != 8) = true := by simp; omega
        rw [if_neg (fun h2 => h8 h2.1), e]
        exact hout
  · rw [if_neg (fun h2 => h h2.2)]
    refine Ev.congr (f := fun k => impl_Gather.j0 k v (n : Int) true) (fun k => ?_) hout
    simp only [impl_Gather.f]
    rw [impl_isMask.eq, Option.bind_some, if_neg (by simpa using h)]
/-! ### laws_eqIntS -/
theorem laws_eqIntS.loop (l : List Int) (hl : l.length < 4611686018427387904) (d : Nat) : ∀ i : Nat, i + d = l.length → Ev (fun k => laws_eqIntS.l0 k l l (i : Int)) true := by
  induction d with
  | zero =>
    intro i hi
    refine Ev.stop fun k => ?_
    simp only [laws_eqIntS.l0]
    rw [if_neg (by omega)]
  | succ d ih =>
    intro i hi
    refine Ev.step (f := fun k => laws_eqIntS.l0 k l l ((i + 1 : Nat) : Int)) (fun k => ?_) (ih (i + 1) (by omega))
    simp only [laws_eqIntS.l0]
    rw [if_pos (by omega), if_pos (by omega), if_pos (by omega), if_pos trivial, w64_succ (by omega)]
theorem laws_eqIntS.ev (l : List Int) (hl : l.length < 4611686018427387904) : Ev (fun k => laws_eqIntS.f k l l) true := by
  refine Ev.congr (fun k => ?_) (laws_eqIntS.loop l hl l.length 0 (by omega))
  simp only [laws_eqIntS.f]
  rw [if_pos trivial]
  rfl
/-! ### laws_markIntS -/
theorem laws_markIntS.loop (m : Nat) (hm : m < 4294967296) (d : Nat) : ∀ (i : Nat) (l : List Int), l.length = m → i + d = m → (∀ j : Nat, j < i → rd l (j : Int) = (j : Int) + 1) →
    ∃ l' : List Int, l'.length = m ∧ (∀ j : Nat, j < m → rd l' (j : Int) = (j : Int) + 1) ∧ Ev (fun k => laws_markIntS.l0 k l ((i + 1 : Nat) : Int) (i : Int)) (((m + 1 : Nat) : Int), l') := by
  induction d with
  | zero =>
    intro i l hl hi hr
    obtain rfl : i = m := by omega
    refine ⟨l, hl, hr, Ev.stop fun k => ?_⟩
    simp only [laws_markIntS.l0]
    rw [if_neg (by omega)]
  | succ d ih =>
    intro i l hl hi hr
    obtain ⟨l', h1, h2, h3⟩ := ih (i + 1) (l.set i ((i + 1 : Nat) : Int)) (by simpa using hl) (by omega) (by
      intro j hj
      by_cases e : j = i
      · subst e
        rw [rd_set_self _ _ (by omega)]
        omega
      · rw [rd_set_ne _ _ (by omega)]
        exact hr j (by omega))
    refine ⟨l', h1, h2, Ev.step (f := fun k => laws_markIntS.l0 k (l.set i ((i + 1 : Nat) : Int)) ((i + 1 + 1 : Nat) : Int) ((i + 1 : Nat) : Int)) (fun k => ?_) h3⟩
    simp only [laws_markIntS.l0]
    rw [if_pos (by omega), if_pos (by omega), w64_succ (by omega), w64_succ (by omega), Int.toNat_natCast]
theorem laws_markIntS.ev (l : List Int) (hl : l.length < 4294967296) : ∃ l' : List Int, l'.length = l.length ∧ (∀ j : Nat, j < l.length → rd l' (j : Int) = (j : Int) + 1) ∧ Ev (fun k => laws_markIntS.f k l 1) (((l.length + 1 : Nat) : Int), l') :=
  laws_markIntS.loop l.length hl l.length 0 l rfl (by omega) (fun j hj => by omega)
/-! ### laws_heldIntS -/
theorem laws_heldIntS.loop (l : List Int) (hm : l.length < 4294967296) (hr : ∀ j : Nat, j < l.length → rd l (j : Int) = (j : Int) + 1) (d : Nat) : ∀ (i : Nat), i + d = l.length →
    Ev (fun k => laws_heldIntS.l0 k l ((i + 1 : Nat) : Int) (i : Int)) ((l.length + 1 : Nat) : Int) := by
  induction d with
  | zero =>
    intro i hi
    refine Ev.stop fun k => ?_
    simp only [laws_heldIntS.l0]
    rw [if_neg (by omega), show i = l.length by omega]
  | succ d ih =>
    intro i hi
    refine Ev.step (f := fun k => laws_heldIntS.l0 k l ((i + 1 + 1 : Nat) : Int) ((i + 1 : Nat) : Int)) (fun k => ?_) (ih (i + 1) (by omega))
    simp only [laws_heldIntS.l0]
    rw [if_pos (by omega), if_pos (by omega), hr i (by omega), if_pos (by omega), w64_succ (by omega), w64_succ (by omega)]
theorem laws_heldIntS.ev (l : List Int) (hl : l.length < 4294967296) (hr : ∀ j : Nat, j < l.length → rd l (j : Int) = (j : Int) + 1) : Ev (fun k => laws_heldIntS.f k l 1) ((l.length + 1 : Nat) : Int) :=
  laws_heldIntS.loop l hl hr l.length 0 (by omega)
/-! ### laws_FnExactGather -/
theorem FnExactGather : laws_FnExactGather.Pure := by
  intro l a _ _ _ h0
  obtain ⟨n, rfl, hn⟩ := u32_nat h0
  by_cases hlen : (l.length : Int) > 1048576
  · exact ⟨0, by simp only [laws_FnExactGather.f]; rw [if_pos hlen]⟩
  · have hg := gath_len l n
    obtain ⟨l', hl', hr, hm⟩ := laws_markIntS.ev (gath l n) (by omega)
    obtain ⟨x', _, _, hx⟩ := laws_markIntS.ev l (by omega)
    have hh := laws_heldIntS.ev l' (by omega) (by rw [hl']; exact hr)
    rw [hl'] at hh
    have hneg : ¬ (((gath l n).length + 1 : Nat) : Int) < 0 := by omega
    have hneg2 : ¬ ((l.length + 1 : Nat) : Int) < 0 := by omega
    obtain ⟨k, ⟨e1, e2, e3, e4, e5, e6, e7, e8⟩, ⟨f1, f2, f3, f4, f5, f6, f7, f8⟩⟩ := ((laws_toIntS.ev l (by omega)).and ((spec_Gather.ev l n hn).and ((impl_Gather.ev l n hn).and ((laws_eqIntS.ev (gath l n) (by omega)).and ((laws_eqIntS.ev l (by omega)).and (hx.and (hm.and hh.last))))))).two
    refine ⟨k + 1, ?_⟩
    simp only [laws_FnExactGather.f, laws_FnExactGather.j0, e1, e3, e4, e7, e8, f1, f2, f3, f4, f5, f6, Option.bind_some, if_true, if_neg hlen, if_neg hneg, if_neg hneg2, Bool.not_true, Bool.false_eq_true, if_false]

end Go.Proofs.Ytlolelhajjiapaa.Pure
