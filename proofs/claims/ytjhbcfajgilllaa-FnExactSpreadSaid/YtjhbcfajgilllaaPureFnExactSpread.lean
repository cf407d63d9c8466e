/-
  The law FnExactSpread: what both programs compute, in plain Lean, and that it is the same.
  Conditions: none beyond those of the statement itself.
-/
import Derived.Test.YtjhbcfajgilllaaPFnExactSpreadx3
import Derived.Test.YtjhbcfajgilllaaLib
namespace Go.Proofs.Ytjhbcfajgilllaa.Pure
open Go.RowKit Go.Proofs.Ytjhbcfajgilllaa.PFnExactSpread Go.Proofs.YtjhbcfajgilllaaW.PrintWords Go.Proofs.YtjhbcfajgilllaaW.PrintLast

/-! ### spec_l03Row -/
theorem spec_l03Row.eq (l : List Int) : spec_l03Row.f l = some (decide (l.length = 8)) := by
  unfold spec_l03Row.f
  congr 1
  rw [Bool.eq_iff_iff]
  simp
  omega
/-! ### spec_l01Bits -/
theorem spec_l01Bits.loop (n : Nat) (hn : n < 2 ^ 32) (d : Nat) : ∀ i : Nat, i + d = 32 → Ev (fun k => spec_l01Bits.l0 k ((n / 2 ^ i : Nat) : Int) (btl n.testBit i) (i : Int)) (btl n.testBit 32) := by
  induction d with
  | zero =>
    intro i hi
    obtain rfl : i = 32 := by omega
    refine Ev.stop fun k => ?_
    simp only [spec_l01Bits.l0]
    rw [if_neg (by omega)]
  | succ d ih =>
    intro i hi
    refine Ev.step (f := fun k => spec_l01Bits.l0 k ((n / 2 ^ (i + 1) : Nat) : Int) (btl n.testBit (i + 1)) ((i + 1 : Nat) : Int)) (fun k => ?_) (ih (i + 1) (by omega))
    have hlen := btl_len n.testBit i
    have hlt := div_lt hn i
    have e1 : Int.tdiv ((n / 2 ^ i : Nat) : Int) 2 % 4294967296 = ((n / 2 ^ (i + 1) : Nat) : Int) := by
      rw [Int.tdiv_eq_ediv_of_nonneg (Int.natCast_nonneg _), Nat.pow_succ, ← Nat.div_div_eq_div_mul]
      generalize n / 2 ^ i = y at hlt ⊢
      omega
    have e2 : wrap64 (Int.tmod ((n / 2 ^ i : Nat) : Int) 2) = if n.testBit i = true then 1 else 0 := by
      rw [Int.tmod_eq_emod_of_nonneg (Int.natCast_nonneg _), Nat.testBit_eq_decide_div_mod_eq]
      have h := Nat.mod_two_eq_zero_or_one (n / 2 ^ i)
      have h2 : ((n / 2 ^ i : Nat) : Int) % 2 = ((n / 2 ^ i % 2 : Nat) : Int) := (Int.natCast_emod _ _).symm
      rw [h2]
      rcases h with h | h
      · rw [h]; exact wrap64_0
      · rw [h]; exact wrap64_1
    simp only [spec_l01Bits.l0]
    rw [if_pos (by omega), if_pos (by omega), w64_succ (by omega), e1, e2, btl_succ]
theorem spec_l01Bits.ev (n : Nat) (hn : n < 2 ^ 32) : Ev (fun k => spec_l01Bits.f k (n : Int)) (btl n.testBit 32) := by
  have h := spec_l01Bits.loop n hn 32 0 rfl
  rw [Nat.pow_zero, Nat.div_one] at h
  exact Ev.congr (fun _ => rfl) h
/-! ### spec_BitList -/
theorem spec_BitList.loop (p : Nat → Bool) (d : Nat) : ∀ i : Nat, i + d = 32 → Ev (fun k => spec_BitList.l0 k (blp p i) (btl p 32) (i : Int)) (blp p 32) := by
  induction d with
  | zero =>
    intro i hi
    obtain rfl : i = 32 := by omega
    refine Ev.stop fun k => ?_
    simp only [spec_BitList.l0]
    rw [if_neg (by omega)]
  | succ d ih =>
    intro i hi
    refine Ev.step (f := fun k => spec_BitList.l0 k (blp p (i + 1)) (btl p 32) ((i + 1 : Nat) : Int)) (fun k => ?_) (ih (i + 1) (by omega))
    have hlen := blp_len_le p i
    have hlen2 := btl_len p 32
    simp only [spec_BitList.l0]
    rw [if_pos (by omega), if_pos (by omega), if_pos (by omega), btl_rd p (by omega : i < 32), w64_succ (by omega)]
    by_cases hp : p i = true
    · rw [if_pos hp, if_pos rfl, if_pos (by omega)]
      simp only [blp, if_pos hp]
    · rw [if_neg hp, if_neg (by decide)]
      simp only [blp, if_neg hp, List.append_nil]
theorem spec_BitList.ev (n : Nat) (hn : n < 2 ^ 32) : Ev (fun k => spec_BitList.f k (n : Int)) (blp n.testBit 32) :=
  Ev.bind (spec_l01Bits.ev n hn) (spec_BitList.loop n.testBit 32 0 rfl)
/-! ### spec_Highest -/
theorem spec_Highest.ev (n : Nat) (hn : n < 2 ^ 32) : Ev (fun k => spec_Highest.f k (n : Int)) (top n.testBit 32) := by
  have hlen := blp_len_le n.testBit 32
  refine Ev.congr (fun _ => rfl) (Ev.bind (spec_BitList.ev n hn) ?_)
  by_cases h : (blp n.testBit 32).length = 0
  · rw [blp_empty _ _ h]
    refine Ev.const ?_
    rw [if_pos (by omega)]
  · obtain ⟨h1, _⟩ := blp_last n.testBit 32 h
    refine Ev.const ?_
    rw [if_neg (by omega), w64 (by omega) (by omega), if_pos (by omega), if_pos (by omega), h1]
/-! ### spec_l03Mask -/
theorem spec_l03Mask.ev (n : Nat) (hn : n < 2 ^ 32) : Ev (fun k => spec_l03Mask.f k (n : Int)) (decide (n < 256)) := by
  have h : Ev (fun k => spec_l03Mask.f k (n : Int)) (decide (top n.testBit 32 < 8)) := Ev.bind (f := fun _ (t : Int) => some (decide (t < 8))) (spec_Highest.ev n hn) (Ev.now _)
  have e : decide (top n.testBit 32 < 8) = decide (n < 256) := decide_eq_decide.2 (top_mask hn)
  rw [e] at h
  exact h
/-! ### spec_Spread -/
theorem spec_Spread.loop (v : List Int) (n : Nat) (hn : n < 256) (d : Nat) : ∀ (i : Nat) (o : List Int), o.length = 8 → i + d = (blp n.testBit 32).length → Ev (fun k => spec_Spread.l0 k v o (blp n.testBit 32) (i : Int)) (sprL v ((blp n.testBit 32).drop i) i o) := by
  have hlen := blp_len_le n.testBit 32
  induction d with
  | zero =>
    intro i o ho hi
    rw [List.drop_eq_nil_of_le (by omega)]
    refine Ev.stop fun k => ?_
    simp only [spec_Spread.l0, sprL]
    rw [if_neg (by omega)]
  | succ d ih =>
    intro i o ho hi
    obtain ⟨b0, b1⟩ := mask_blp_lt hn (i := i) (by omega)
    rw [drop_rd _ (by omega)]
    simp only [sprL]
    by_cases hv : i < v.length
    · rw [if_pos hv]
      refine Ev.step (f := fun k => spec_Spread.l0 k v (o.set (rd (blp n.testBit 32) (i : Int)).toNat (rd v (i : Int))) (blp n.testBit 32) ((i + 1 : Nat) : Int)) (fun k => ?_) (ih (i + 1) _ (by simpa using ho) (by omega))
      simp only [spec_Spread.l0]
      rw [if_pos (by omega), if_pos (by omega), if_pos (by omega), if_pos (by omega), if_pos (by omega), w64_succ (by omega)]
    · rw [if_neg hv]
      refine Ev.stop fun k => ?_
      simp only [spec_Spread.l0]
      rw [if_pos (by omega), if_neg (by omega)]
theorem spec_Spread.ev (o : List Int) (n : Nat) (hn : n < 2 ^ 32) (v : List Int) : Ev (fun k => spec_Spread.f k o (n : Int) v) (spr o n v) := by
  have hout : Ev (fun k => spec_Spread.j0 k o (n : Int) v true) [] := Ev.stop fun k => by
    simp only [spec_Spread.j0]
    rw [if_pos trivial]
  unfold spr
  by_cases h8 : o.length = 8
  · refine Ev.congr (f := fun k => (spec_l03Mask.f k (n : Int)).bind fun t => spec_Spread.j0 k o (n : Int) v (!t)) (fun k => ?_) (Ev.bind (f := fun k t => spec_Spread.j0 k o (n : Int) v (!t)) (spec_l03Mask.ev n hn) ?_)
    · simp only [spec_Spread.f]
      rw [spec_l03Row.eq, Option.bind_some, if_pos (by simpa using h8)]
    · by_cases h : n < 256
      · rw [if_pos ⟨h8, h⟩, decide_eq_true h]
        refine Ev.step (f := fun k => (spec_BitList.f k (n : Int)).bind fun t => spec_Spread.l0 k v o t 0) (fun k => ?_) (Ev.bind (f := fun k t => spec_Spread.l0 k v o t 0) (spec_BitList.ev n hn) (spec_Spread.loop v n h (blp n.testBit 32).length 0 o h8 (by omega)))
        simp only [spec_Spread.j0]
        rw [if_neg (by decide), Option.bind_some, if_pos (by simp; omega), List.nil_append]
      · rw [if_neg (fun h2 => h h2.2), decide_eq_false h]
        exact hout
  · rw [if_neg (fun h2 => h8 h2.1)]
    refine Ev.congr (f := fun k => spec_Spread.j0 k o (n : Int) v true) (fun k => ?_) hout
    simp only [spec_Spread.f]
    rw [spec_l03Row.eq, Option.bind_some, if_neg (by simpa using h8)]
/-! ### laws_toIntS -/
theorem laws_toIntS.loop (l : List Int) (hl : l.length < 4611686018427387904) (d : Nat) : ∀ (i : Nat) (o : List Int), o.length = l.length → i + d = l.length → o.take i = l.take i → Ev (fun k => laws_toIntS.l0 k l o (i : Int)) l := by
  induction d with
  | zero =>
    intro i o ho hi ht
    have e : o = l := by
      rw [List.take_of_length_le (by omega), List.take_of_length_le (by omega)] at ht
      exact ht
    refine Ev.stop fun k => ?_
    simp only [laws_toIntS.l0]
    rw [if_neg (by omega), e]
  | succ d ih =>
    intro i o ho hi ht
    refine Ev.step (f := fun k => laws_toIntS.l0 k l (o.set i (rd l (i : Int))) ((i + 1 : Nat) : Int)) (fun k => ?_) (ih (i + 1) _ (by simpa using ho) (by omega) (take_set l o (by omega) (by omega) ht))
    simp only [laws_toIntS.l0]
    rw [if_pos (by omega), if_pos (by omega), if_pos (by omega), w64_succ (by omega), Int.toNat_natCast]
theorem laws_toIntS.ev (l : List Int) (hl : l.length ≤ 35184372088832) : Ev (fun k => laws_toIntS.f k l) l := by
  refine Ev.congr (fun k => ?_) (laws_toIntS.loop l (by omega) l.length 0 (List.replicate l.length 0) (by simp) (by omega) rfl)
  simp only [laws_toIntS.f]
  rw [if_pos (by omega), Int.toNat_natCast, if_pos (by omega)]
  rfl
/-! ### impl_isMask -/
theorem impl_isMask.eq (n : Nat) : impl_isMask.f (n : Int) = some (decide (n < 256)) := by
  unfold impl_isMask.f
  have : ((n : Int) < 256) ↔ n < 256 := by omega
  simp only [this]
/-! ### slices_Clone_int_int -/
theorem slices_Clone_int_int.eq (l : List Int) (hl : l.length < 17592186044416) : slices_Clone_int_int.f l = some l := by
  unfold slices_Clone_int_int.f
  rw [Option.bind_some, if_pos (by simp; omega), List.nil_append]
/-! ### impl_BitList -/
theorem impl_BitList.loop (n : Nat) (hn : n < 2 ^ 32) (d : Nat) : ∀ i : Nat, i + d = 32 → Ev (fun k => impl_BitList.l0 k (n : Int) (blp n.testBit i) (i : Int)) (blp n.testBit 32) := by
  induction d with
  | zero =>
    intro i hi
    obtain rfl : i = 32 := by omega
    refine Ev.stop fun k => ?_
    simp only [impl_BitList.l0]
    rw [if_neg (by omega)]
  | succ d ih =>
    intro i hi
    refine Ev.step (f := fun k => impl_BitList.l0 k (n : Int) (blp n.testBit (i + 1)) ((i + 1 : Nat) : Int)) (fun k => ?_) (ih (i + 1) (by omega))
    have hlen := blp_len_le n.testBit i
    simp only [impl_BitList.l0]
    rw [if_pos (by omega), if_pos (by omega), bit_at hn (by omega : i ≤ 32), w64_succ (by omega)]
    by_cases hp : n.testBit i = true
    · rw [if_pos hp, if_pos rfl, if_pos (by omega)]
      simp only [blp, if_pos hp]
    · rw [if_neg hp, if_neg (by decide)]
      simp only [blp, if_neg hp, List.append_nil]
theorem impl_BitList.ev (n : Nat) (hn : n < 2 ^ 32) : Ev (fun k => impl_BitList.f k (n : Int)) (blp n.testBit 32) :=
  Ev.congr (fun _ => rfl) (impl_BitList.loop n hn 32 0 rfl)
/-! ### impl_Spread -/
theorem impl_Spread.loop (v : List Int) (n : Nat) (hn : n < 256) (d : Nat) : ∀ (i : Nat) (o : List Int), o.length = 8 → i + d = (blp n.testBit 32).length → Ev (fun k => impl_Spread.l0 k v o (blp n.testBit 32) ((blp n.testBit 32).length : Int) (i : Int)) (sprL v ((blp n.testBit 32).drop i) i o) := by
  have hlen := blp_len_le n.testBit 32
  induction d with
  | zero =>
    intro i o ho hi
    rw [List.drop_eq_nil_of_le (by omega)]
    refine Ev.stop fun k => ?_
    simp only [impl_Spread.l0, sprL]
    rw [if_neg (by omega)]
  | succ d ih =>
    intro i o ho hi
    obtain ⟨b0, b1⟩ := mask_blp_lt hn (i := i) (by omega)
    rw [drop_rd _ (by omega)]
    simp only [sprL]
    by_cases hv : i < v.length
    · rw [if_pos hv]
      refine Ev.step (f := fun k => impl_Spread.l0 k v (o.set (rd (blp n.testBit 32) (i : Int)).toNat (rd v (i : Int))) (blp n.testBit 32) ((blp n.testBit 32).length : Int) ((i + 1 : Nat) : Int)) (fun k => ?_) (ih (i + 1) _ (by simpa using ho) (by omega))
      simp only [impl_Spread.l0]
      rw [if_pos (by omega), if_pos (by omega), if_pos (by omega), if_pos (by omega), if_pos (by omega), if_pos (by omega), w64_succ (by omega)]
    · rw [if_neg hv]
      have h := ih (i + 1) o ho (by omega)
      rw [sprL_stop v _ (by omega)] at h
      refine Ev.step (f := fun k => impl_Spread.l0 k v o (blp n.testBit 32) ((blp n.testBit 32).length : Int) ((i + 1 : Nat) : Int)) (fun k => ?_) h
      simp only [impl_Spread.l0]
      rw [if_pos (by omega), if_pos (by omega), if_pos (by omega), if_neg (by omega), w64_succ (by omega)]
theorem impl_Spread.ev (o : List Int) (n : Nat) (hn : n < 2 ^ 32) (v : List Int) : Ev (fun k => impl_Spread.f k o (n : Int) v) (spr o n v) := by
  have hout : Ev (fun k => impl_Spread.j0 k o (n : Int) v true) [] := Ev.stop fun k => by
    simp only [impl_Spread.j0]
    rw [if_pos trivial]
  unfold spr
  by_cases h : n < 256
  · refine Ev.congr (f := fun k => impl_Spread.j0 k o (n : Int) v ((o.length : Int) != 8)) (fun k => ?_) ?_
    · simp only [impl_Spread.f]
      rw [impl_isMask.eq, Option.bind_some, if_pos (by simpa using h)]
    · by_cases h8 : o.length = 8
      · have e : ((o.length : Int) != 8) = false := by simp [h8]
        rw [if_pos ⟨h8, h⟩, e]
        refine Ev.step (f := fun k => (impl_BitList.f k (n : Int)).bind fun t => impl_Spread.l0 k v o t (t.length : Int) 0) (fun k => ?_) (Ev.bind (f := fun k t => impl_Spread.l0 k v o t (t.length : Int) 0) (impl_BitList.ev n hn) (impl_Spread.loop v n h (blp n.testBit 32).length 0 o h8 (by omega)))
        simp only [impl_Spread.j0]
        rw [if_neg (by decide), slices_Clone_int_int.eq o (by omega), Option.bind_some]
      · have e : ((o.length : Int) != 8) = true := by simp; omega
        rw [if_neg (fun h2 => h8 h2.1), e]
        exact hout
  · rw [if_neg (fun h2 => h h2.2)]
    refine Ev.congr (f := fun k => impl_Spread.j0 k o (n : Int) v true) (fun k => ?_) hout
    simp only [impl_Spread.f]
    rw [impl_isMask.eq, Option.bind_some, if_neg (by simpa using h)]
/-! ### laws_eqIntS -/
theorem laws_eqIntS.loop (l : List Int) (hl : l.length < 4611686018427387904) (d : Nat) : ∀ i : Nat, i + d = l.length → Ev (fun k => laws_eqIntS.l0 k l l (i : Int)) true := by
  induction d with
  | zero =>
    intro i hi
    refine Ev.stop fun k => ?_
    simp only [laws_eqIntS.l0]
    rw [if_neg (by omega)]
  | succ d ih =>
    intro i hi
    refine Ev.step (f := fun k => laws_eqIntS.l0 k l l ((i + 1 : Nat) : Int)) (fun k => ?_) (ih (i + 1) (by omega))
    simp only [laws_eqIntS.l0]
    rw [if_pos (by omega), if_pos (by omega), if_pos (by omega), if_pos trivial, w64_succ (by omega)]
theorem laws_eqIntS.ev (l : List Int) (hl : l.length < 4611686018427387904) : Ev (fun k => laws_eqIntS.f k l l) true := by
  refine Ev.congr (fun k => ?_) (laws_eqIntS.loop l hl l.length 0 (by omega))
  simp only [laws_eqIntS.f]
  rw [if_pos trivial]
  rfl
/-! ### laws_markIntS -/
theorem laws_markIntS.loop (m : Nat) (hm : m < 4294967296) (d : Nat) : ∀ (i : Nat) (l : List Int), l.length = m → i + d = m → (∀ j : Nat, j < i → rd l (j : Int) = (j : Int) + 1) →
    ∃ l' : List Int, l'.length = m ∧ (∀ j : Nat, j < m → rd l' (j : Int) = (j : Int) + 1) ∧ Ev (fun k => laws_markIntS.l0 k l ((i + 1 : Nat) : Int) (i : Int)) (((m + 1 : Nat) : Int), l') := by
  induction d with
  | zero =>
    intro i l hl hi hr
    obtain rfl : i = m := by omega
    refine ⟨l, hl, hr, Ev.stop fun k => ?_⟩
    simp only [laws_markIntS.l0]
    rw [if_neg (by omega)]
  | succ d ih =>
    intro i l hl hi hr
    obtain ⟨l', h1, h2, h3⟩ := ih (i + 1) (l.set i ((i + 1 : Nat) : Int)) (by simpa using hl) (by omega) (by
      intro j hj
      by_cases e : j = i
      · subst e
        rw [rd_set_self _ _ (by omega)]
        omega
      · rw [rd_set_ne _ _ (by omega)]
        exact hr j (by omega))
    refine ⟨l', h1, h2, Ev.step (f := fun k => laws_markIntS.l0 k (l.set i ((i + 1 : Nat) : Int)) ((i + 1 + 1 : Nat) : Int) ((i + 1 : Nat) : Int)) (fun k => ?_) h3⟩
    simp only [laws_markIntS.l0]
    rw [if_pos (by omega), if_pos (by omega), w64_succ (by omega), w64_succ (by omega), Int.toNat_natCast]
theorem laws_markIntS.ev (l : List Int) (hl : l.length < 4294967296) : ∃ l' : List Int, l'.length = l.length ∧ (∀ j : Nat, j < l.length → rd l' (j : Int) = (j : Int) + 1) ∧ Ev (fun k => laws_markIntS.f k l 1) (((l.length + 1 : Nat) : Int), l') :=
  laws_markIntS.loop l.length hl l.length 0 l rfl (by omega) (fun j hj => by omega)
theorem laws_markIntS.from_loop (m : Nat) (a : Nat) (ha : a + m < 4294967296) (d : Nat) : ∀ (i : Nat) (l : List Int), l.length = m → i + d = m → ∃ l' : List Int, Ev (fun k => laws_markIntS.l0 k l ((a + i : Nat) : Int) (i : Int)) (((a + m : Nat) : Int), l') := by
  induction d with
  | zero =>
    intro i l hl hi
    obtain rfl : i = m := by omega
    refine ⟨l, Ev.stop fun k => ?_⟩
    simp only [laws_markIntS.l0]
    rw [if_neg (by omega)]
  | succ d ih =>
    intro i l hl hi
    obtain ⟨l', h3⟩ := ih (i + 1) (l.set i ((a + i : Nat) : Int)) (by simpa using hl) (by omega)
    refine ⟨l', Ev.step (f := fun k => laws_markIntS.l0 k (l.set i ((a + i : Nat) : Int)) ((a + (i + 1) : Nat) : Int) ((i + 1 : Nat) : Int)) (fun k => ?_) h3⟩
    simp only [laws_markIntS.l0]
    rw [if_pos (by omega), if_pos (by omega), w64_succ (by omega), w64_succ (by omega), Int.toNat_natCast, Nat.add_assoc]
theorem laws_markIntS.from (l : List Int) (a : Nat) (ha : a + l.length < 4294967296) : ∃ l' : List Int, Ev (fun k => laws_markIntS.f k l (a : Int)) (((a + l.length : Nat) : Int), l') :=
  laws_markIntS.from_loop l.length a ha l.length 0 l rfl (by omega)
/-! ### laws_heldIntS -/
theorem laws_heldIntS.loop (l : List Int) (hm : l.length < 4294967296) (hr : ∀ j : Nat, j < l.length → rd l (j : Int) = (j : Int) + 1) (d : Nat) : ∀ (i : Nat), i + d = l.length →
    Ev (fun k => laws_heldIntS.l0 k l ((i + 1 : Nat) : Int) (i : Int)) ((l.length + 1 : Nat) : Int) := by
  induction d with
  | zero =>
    intro i hi
    refine Ev.stop fun k => ?_
    simp only [laws_heldIntS.l0]
    rw [if_neg (by omega), show i = l.length by omega]
  | succ d ih =>
    intro i hi
    refine Ev.step (f := fun k => laws_heldIntS.l0 k l ((i + 1 + 1 : Nat) : Int) ((i + 1 : Nat) : Int)) (fun k => ?_) (ih (i + 1) (by omega))
    simp only [laws_heldIntS.l0]
    rw [if_pos (by omega), if_pos (by omega), hr i (by omega), if_pos (by omega), w64_succ (by omega), w64_succ (by omega)]
theorem laws_heldIntS.ev (l : List Int) (hl : l.length < 4294967296) (hr : ∀ j : Nat, j < l.length → rd l (j : Int) = (j : Int) + 1) : Ev (fun k => laws_heldIntS.f k l 1) ((l.length + 1 : Nat) : Int) :=
  laws_heldIntS.loop l hl hr l.length 0 (by omega)
/-! ### laws_FnExactSpread -/
theorem FnExactSpread : laws_FnExactSpread.Pure := by
  intro l a v _ _ _ h0 _ _ _
  obtain ⟨n, rfl, hn⟩ := u32_nat h0
  by_cases hlen : (l.length : Int) > 1048576
  · exact ⟨0, by simp only [laws_FnExactSpread.f]; rw [if_pos hlen]⟩
  · by_cases hlen2 : (v.length : Int) > 1048576
    · exact ⟨0, by simp only [laws_FnExactSpread.f]; rw [if_neg hlen, if_pos hlen2]⟩
    · have hg := spr_len l n v
      obtain ⟨l', hl', hr, hm⟩ := laws_markIntS.ev (spr l n v) (by omega)
      obtain ⟨x', _, _, hx⟩ := laws_markIntS.ev l (by omega)
      obtain ⟨y', hy⟩ := laws_markIntS.from v (l.length + 1) (by omega)
      have hh := laws_heldIntS.ev l' (by omega) (by rw [hl']; exact hr)
      rw [hl'] at hh
      have hneg : ¬ (((spr l n v).length + 1 : Nat) : Int) < 0 := by omega
      have hneg2 : ¬ ((l.length + 1 + v.length : Nat) : Int) < 0 := by omega
      obtain ⟨k, ⟨e1, e2, e3, e4, e5, e6, e7, e8, e9, e10, e11⟩, ⟨f1, f2, f3, f4, f5, f6, f7, f8, f9, f10, f11⟩⟩ := ((laws_toIntS.ev l (by omega)).and ((laws_toIntS.ev v (by omega)).and ((spec_Spread.ev l n hn v).and ((impl_Spread.ev l n hn v).and ((laws_eqIntS.ev (spr l n v) (by omega)).and ((laws_eqIntS.ev l (by omega)).and ((laws_eqIntS.ev v (by omega)).and (hx.and (hy.and (hm.and hh.last)))))))))).two
      refine ⟨k + 1, ?_⟩
      simp only [laws_FnExactSpread.f, laws_FnExactSpread.j0, e1, e2, e4, e5, e10, e11, f1, f2, f3, f4, f5, f6, f7, f8, f9, Option.bind_some, if_true, if_neg hlen, if_neg hlen2, if_neg hneg, if_neg hneg2, Bool.not_true, Bool.false_eq_true, if_false]

end Go.Proofs.Ytjhbcfajgilllaa.Pure
