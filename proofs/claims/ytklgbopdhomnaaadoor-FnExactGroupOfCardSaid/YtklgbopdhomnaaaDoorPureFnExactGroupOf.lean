/-
  The law FnExactGroupOf: what both programs compute, in plain Lean, and that it is the same.
  Conditions: none beyond those of the statement itself.
-/
import Derived.Test.YtklgbopdhomnaaaDoorPFnExactGroupOfx3
import Derived.Test.YtklgbopdhomnaaaDoorLib
namespace Go.Proofs.YtklgbopdhomnaaaDoor.Pure
open Go.RowKit Go.Proofs.YtklgbopdhomnaaaDoor.PFnExactGroupOf Go.Proofs.YtklgbopdhomnaaaDoorW.PrintWords Go.Proofs.YtklgbopdhomnaaaDoorW.PrintLast

/-! ### impl_isMask -/
theorem impl_isMask.eq (n : Nat) : impl_isMask.f (n : Int) = some (decide (n < 256)) := by
  unfold impl_isMask.f
  have : ((n : Int) < 256) ↔ n < 256 := by omega
  simp only [this]
/-! ### impl_BitList -/
theorem impl_BitList.loop (n : Nat) (hn : n < 2 ^ 32) (d : Nat) : ∀ i : Nat, i + d = 32 → Ev (fun k => impl_BitList.l0 k (n : Int) (blp n.testBit i) (i : Int)) (blp n.testBit 32) := by
  induction d with
  | zero =>
    intro i hi
    obtain rfl : i = 32 := by omega
    refine Ev.stop fun k => ?_
    simp only [impl_BitList.l0]
    rw [if_neg (by omega)]
  | succ d ih =>
    intro i hi
    refine Ev.step (f := fun k => impl_BitList.l0 k (n : Int) (blp n.testBit (i + 1)) ((i + 1 : Nat) : Int)) (fun k => ?_) (ih (i + 1) (by omega))
    have hlen := blp_len_le n.testBit i
    simp only [impl_BitList.l0]
    rw [if_pos (by omega), if_pos (by omega), bit_at hn (by omega : i ≤ 32), w64_succ (by omega)]
    by_cases hp : n.testBit i = true
    · rw [if_pos hp, if_pos rfl, if_pos (by omega)]
      simp only [blp, if_pos hp]
    · rw [if_neg hp, if_neg (by decide)]
      simp only [blp, if_neg hp, List.append_nil]
theorem impl_BitList.ev (n : Nat) (hn : n < 2 ^ 32) : Ev (fun k => impl_BitList.f k (n : Int)) (blp n.testBit 32) :=
  Ev.congr (fun _ => rfl) (impl_BitList.loop n hn 32 0 rfl)
/-! ### bits_TrailingZeros32 -/
theorem bits_TrailingZeros32.eq (n : Nat) (hn : n < 2 ^ 32) : bits_TrailingZeros32.f (n : Int) = some ((Go.Lib.ctz 32 n : Nat) : Int) := by
  unfold bits_TrailingZeros32.f
  rw [if_pos (by omega), Int.toNat_natCast]
/-! ### impl_Lowest -/
theorem impl_Lowest.eq (n : Nat) (hn : n < 2 ^ 32) : impl_Lowest.f (n : Int) = some (low n) := by
  unfold impl_Lowest.f low
  by_cases h : n = 0
  · rw [if_pos (by omega), if_pos h]
  · rw [if_neg (by omega), if_neg h, bits_TrailingZeros32.eq n hn, Option.bind_some]
/-! ### impl_groupOf -/
theorem impl_groupOf.loop (v : List Int) (hv : v.length = 8) (n : Nat) (hn : n < 256) (d : Nat) : ∀ i : Nat, i + d = (blp n.testBit 32).length → Ev (fun k => impl_groupOf.l0 k v (n : Int) ((wd (fun j => decide ((j : Int) ∈ ((blp n.testBit 32).take i).filter (lik v n))) 32 : Nat) : Int) (blp n.testBit 32) ((blp n.testBit 32).length : Int) (i : Int)) ((wd (grp v n) 32 : Nat) : Int) := by
  have hlen := blp_len_le n.testBit 32
  induction d with
  | zero =>
    intro i hi
    have e : wd (fun j => decide ((j : Int) ∈ ((blp n.testBit 32).take i).filter (lik v n))) 32 = wd (grp v n) 32 := wd_congr fun j hj => by
      rw [List.take_of_length_le (by omega), grp_filter]
      by_cases h : grp v n j = true
      · rw [h, decide_eq_true ((blp_mem _ _ _).2 ⟨j, hj, h, rfl⟩)]
      · have h' : grp v n j = false := by simpa using h
        rw [h', decide_eq_false]
        intro h2
        obtain ⟨j', _, h3, h4⟩ := (blp_mem _ _ _).1 h2
        obtain rfl : j = j' := by omega
        exact h h3
    rw [e]
    refine Ev.stop fun k => ?_
    simp only [impl_groupOf.l0]
    rw [if_neg (by omega)]
  | succ d ih =>
    intro i hi
    obtain ⟨j0, hj0, _, _, hr⟩ := blp_rd_lt n.testBit (m := 32) (i := i) (by omega)
    obtain ⟨b0, b1⟩ := mask_blp_lt hn (i := i) (by omega)
    rw [hr] at b0 b1
    obtain ⟨l0, l1, _⟩ := low_lane hn (nonzero_of_len (n := n) (by omega))
    have hft := filter_take_succ (lik v n) (blp n.testBit 32) (i := i) (by omega)
    rw [hr] at hft
    refine Ev.step (f := fun k => impl_groupOf.l0 k v (n : Int) ((wd (fun j => decide ((j : Int) ∈ ((blp n.testBit 32).take (i + 1)).filter (lik v n))) 32 : Nat) : Int) (blp n.testBit 32) ((blp n.testBit 32).length : Int) ((i + 1 : Nat) : Int)) (fun k => ?_) (ih (i + 1) (by omega))
    simp only [impl_groupOf.l0]
    rw [if_pos (by omega), if_pos (by omega), if_pos (by omega), hr, if_pos (by omega), if_pos (by omega), impl_Lowest.eq n (by omega), Option.bind_some, if_pos l0, if_pos (by omega), w64_succ (by omega)]
    by_cases hq : rd v (j0 : Int) = rd v (low n)
    · have hq' : lik v n (j0 : Int) = true := decide_eq_true hq
      rw [if_pos hq'] at hft
      have e : wd (fun j => decide ((j : Int) ∈ ((blp n.testBit 32).take i).filter (lik v n)) || j == j0) 32 = wd (fun j => decide ((j : Int) ∈ ((blp n.testBit 32).take (i + 1)).filter (lik v n))) 32 := wd_congr fun j _ => by
        rw [hft, Bool.eq_iff_iff]
        have he : ((j : Int) = (j0 : Int)) ↔ j = j0 := by omega
        simp only [Bool.or_eq_true, decide_eq_true_eq, beq_iff_eq, List.mem_append, List.mem_singleton, he]
      rw [if_pos hq, shl_one hj0, or_nat (wd_lt32 _) (two_pow_lt hj0), wd_or _ hj0, e]
    · have hq' : ¬ lik v n (j0 : Int) = true := fun h => hq (of_decide_eq_true h)
      rw [if_neg hq', List.append_nil] at hft
      rw [if_neg hq, hft]
theorem impl_groupOf.ev (v : List Int) (hv : v.length = 8) (n : Nat) (hn : n < 256) : Ev (fun k => impl_groupOf.f k v (n : Int)) ((wd (grp v n) 32 : Nat) : Int) := by
  have h := impl_groupOf.loop v hv n hn (blp n.testBit 32).length 0 (by omega)
  have e : wd (fun j => decide ((j : Int) ∈ ((blp n.testBit 32).take 0).filter (lik v n))) 32 = 0 := (wd_congr fun j _ => by simp).trans (wd_false 32)
  rw [e] at h
  exact Ev.bind (f := fun k t => impl_groupOf.l0 k v (n : Int) 0 t (t.length : Int) 0) (impl_BitList.ev n (by omega)) h
/-! ### impl_GroupOf -/
theorem impl_GroupOf.ev (v : List Int) (n : Nat) : Ev (fun k => impl_GroupOf.f k v (n : Int)) ((gof v n : Nat) : Int) := by
  unfold gof
  by_cases h : n < 256
  · by_cases h8 : v.length = 8
    · rw [if_pos ⟨h8, h⟩]
      refine Ev.congr (f := fun k => (impl_groupOf.f k v (n : Int)).bind fun t => some t) (fun k => ?_) (Ev.bind (f := fun _ t => some t) (impl_groupOf.ev v h8 n h) (Ev.now _))
      simp only [impl_GroupOf.f]
      rw [impl_isMask.eq, Option.bind_some, if_pos (by simpa using h), if_pos (by omega)]
    · rw [if_neg (fun h2 => h8 h2.1)]
      refine Ev.congr (f := fun _ => some 0) (fun k => ?_) (Ev.now _)
      simp only [impl_GroupOf.f]
      rw [impl_isMask.eq, Option.bind_some, if_pos (by simpa using h), if_neg (by omega)]
  · rw [if_neg (fun h2 => h h2.2)]
    refine Ev.congr (f := fun _ => some 0) (fun k => ?_) (Ev.now _)
    simp only [impl_GroupOf.f]
    rw [impl_isMask.eq, Option.bind_some, if_neg (by simpa using h)]
/-! ### spec_l03Row -/
theorem spec_l03Row.eq (l : List Int) : spec_l03Row.f l = some (decide (l.length = 8)) := by
  unfold spec_l03Row.f
  congr 1
  rw [Bool.eq_iff_iff]
  simp
  omega
/-! ### spec_l01Bits -/
theorem spec_l01Bits.loop (n : Nat) (hn : n < 2 ^ 32) (d : Nat) : ∀ i : Nat, i + d = 32 → Ev (fun k => spec_l01Bits.l0 k ((n / 2 ^ i : Nat) : Int) (btl n.testBit i) (i : Int)) (btl n.testBit 32) := by
  induction d with
  | zero =>
    intro i hi
    obtain rfl : i = 32 := by omega
    refine Ev.stop fun k => ?_
    simp only [spec_l01Bits.l0]
    rw [if_neg (by omega)]
  | succ d ih =>
    intro i hi
    refine Ev.step (f := fun k => spec_l01Bits.l0 k ((n / 2 ^ (i + 1) : Nat) : Int) (btl n.testBit (i + 1)) ((i + 1 : Nat) : Int)) (fun k => ?_) (ih (i + 1) (by omega))
    have hlen := btl_len n.testBit i
    have hlt := div_lt hn i
    have e1 : Int.tdiv ((n / 2 ^ i : Nat) : Int) 2 % 4294967296 = ((n / 2 ^ (i + 1) : Nat) : Int) := by
      rw [Int.tdiv_eq_ediv_of_nonneg (Int.natCast_nonneg _), Nat.pow_succ, ← Nat.div_div_eq_div_mul]
      generalize n / 2 ^ i = y at hlt ⊢
      omega
    have e2 : wrap64 (Int.tmod ((n / 2 ^ i : Nat) : Int) 2) = if n.testBit i = true then 1 else 0 := by
      rw [Int.tmod_eq_emod_of_nonneg (Int.natCast_nonneg _), Nat.testBit_eq_decide_div_mod_eq]
      have h := Nat.mod_two_eq_zero_or_one (n / 2 ^ i)
      have h2 : ((n / 2 ^ i : Nat) : Int) % 2 = ((n / 2 ^ i % 2 : Nat) : Int) := (Int.natCast_emod _ _).symm
      rw [h2]
      rcases h with h | h
      · rw [h]; exact wrap64_0
      · rw [h]; exact wrap64_1
    simp only [spec_l01Bits.l0]
    rw [if_pos (by omega), if_pos (by omega), w64_succ (by omega), e1, e2, btl_succ]
theorem spec_l01Bits.ev (n : Nat) (hn : n < 2 ^ 32) : Ev (fun k => spec_l01Bits.f k (n : Int)) (btl n.testBit 32) := by
  have h := spec_l01Bits.loop n hn 32 0 rfl
  rw [Nat.pow_zero, Nat.div_one] at h
  exact Ev.congr (fun _ => rfl) h
/-! ### spec_BitList -/
theorem spec_BitList.loop (p : Nat → Bool) (d : Nat) : ∀ i : Nat, i + d = 32 → Ev (fun k => spec_BitList.l0 k (blp p i) (btl p 32) (i : Int)) (blp p 32) := by
  induction d with
  | zero =>
    intro i hi
    obtain rfl : i = 32 := by omega
    refine Ev.stop fun k => ?_
    simp only [spec_BitList.l0]
    rw [if_neg (by omega)]
  | succ d ih =>
    intro i hi
    refine Ev.step (f := fun k => spec_BitList.l0 k (blp p (i + 1)) (btl p 32) ((i + 1 : Nat) : Int)) (fun k => ?_) (ih (i + 1) (by omega))
    have hlen := blp_len_le p i
    have hlen2 := btl_len p 32
    simp only [spec_BitList.l0]
    rw [if_pos (by omega), if_pos (by omega), if_pos (by omega), btl_rd p (by omega : i < 32), w64_succ (by omega)]
    by_cases hp : p i = true
    · rw [if_pos hp, if_pos rfl, if_pos (by omega)]
      simp only [blp, if_pos hp]
    · rw [if_neg hp, if_neg (by decide)]
      simp only [blp, if_neg hp, List.append_nil]
theorem spec_BitList.ev (n : Nat) (hn : n < 2 ^ 32) : Ev (fun k => spec_BitList.f k (n : Int)) (blp n.testBit 32) :=
  Ev.bind (spec_l01Bits.ev n hn) (spec_BitList.loop n.testBit 32 0 rfl)
/-! ### spec_Highest -/
theorem spec_Highest.ev (n : Nat) (hn : n < 2 ^ 32) : Ev (fun k => spec_Highest.f k (n : Int)) (top n.testBit 32) := by
  have hlen := blp_len_le n.testBit 32
  refine Ev.congr (fun _ => rfl) (Ev.bind (spec_BitList.ev n hn) ?_)
  by_cases h : (blp n.testBit 32).length = 0
  · rw [blp_empty _ _ h]
    refine Ev.const ?_
    rw [if_pos (by omega)]
  · obtain ⟨h1, _⟩ := blp_last n.testBit 32 h
    refine Ev.const ?_
    rw [if_neg (by omega), w64 (by omega) (by omega), if_pos (by omega), if_pos (by omega), h1]
/-! ### spec_l03Mask -/
theorem spec_l03Mask.ev (n : Nat) (hn : n < 2 ^ 32) : Ev (fun k => spec_l03Mask.f k (n : Int)) (decide (n < 256)) := by
  have h : Ev (fun k => spec_l03Mask.f k (n : Int)) (decide (top n.testBit 32 < 8)) := Ev.bind (f := fun _ (t : Int) => some (decide (t < 8))) (spec_Highest.ev n hn) (Ev.now _)
  have e : decide (top n.testBit 32 < 8) = decide (n < 256) := decide_eq_decide.2 (top_mask hn)
  rw [e] at h
  exact h
/-! ### spec_l03Alike -/
theorem spec_l03Alike.loop (v : List Int) (hv : v.length = 8) (n : Nat) (hn : n < 256) (d : Nat) : ∀ i : Nat, i + d = (blp n.testBit 32).length → Ev (fun k => spec_l03Alike.l0 k v (blp n.testBit 32) (((blp n.testBit 32).take i).filter (lik v n)) (i : Int)) (blp (grp v n) 32) := by
  have hlen := blp_len_le n.testBit 32
  induction d with
  | zero =>
    intro i hi
    rw [List.take_of_length_le (by omega), grp_filter]
    refine Ev.stop fun k => ?_
    simp only [spec_l03Alike.l0]
    rw [if_neg (by omega)]
  | succ d ih =>
    intro i hi
    obtain ⟨b0, b1⟩ := mask_blp_lt hn (i := i) (by omega)
    obtain ⟨l0, l1, l2⟩ := low_lane hn (nonzero_of_len (n := n) (by omega))
    have hft := filter_take_succ (lik v n) (blp n.testBit 32) (i := i) (by omega)
    have hfl : (((blp n.testBit 32).take i).filter (lik v n)).length ≤ 32 := by
      have h1 := List.length_filter_le (lik v n) ((blp n.testBit 32).take i)
      rw [List.length_take] at h1
      omega
    refine Ev.step (f := fun k => spec_l03Alike.l0 k v (blp n.testBit 32) (((blp n.testBit 32).take (i + 1)).filter (lik v n)) ((i + 1 : Nat) : Int)) (fun k => ?_) (ih (i + 1) (by omega))
    simp only [spec_l03Alike.l0]
    rw [if_pos (by omega), if_pos (by omega), if_pos (by omega), if_pos (by omega), if_pos (by omega), l2, if_pos (by omega), if_pos (by omega), w64_succ (by omega)]
    by_cases hq : rd v (rd (blp n.testBit 32) (i : Int)) = rd v (low n)
    · have hq' : lik v n (rd (blp n.testBit 32) (i : Int)) = true := decide_eq_true hq
      rw [if_pos hq'] at hft
      rw [if_pos hq, if_pos (by omega), hft]
    · have hq' : ¬ lik v n (rd (blp n.testBit 32) (i : Int)) = true := fun h => hq (of_decide_eq_true h)
      rw [if_neg hq', List.append_nil] at hft
      rw [if_neg hq, hft]
theorem spec_l03Alike.ev (v : List Int) (hv : v.length = 8) (n : Nat) (hn : n < 256) : Ev (fun k => spec_l03Alike.f k v (blp n.testBit 32)) (blp (grp v n) 32) :=
  Ev.congr (fun _ => rfl) (spec_l03Alike.loop v hv n hn (blp n.testBit 32).length 0 (by omega))
/-! ### spec_l01Word -/
theorem spec_l01Word.loop (p : Nat → Bool) : ∀ j : Nat, j ≤ 32 → Ev (fun k => spec_l01Word.l0 k (btl p 32) ((wd p 32 / 2 ^ j : Nat) : Int) ((j : Int) - 1)) ((wd p 32 : Nat) : Int) := by
  intro j
  induction j with
  | zero =>
    intro _
    refine Ev.stop fun k => ?_
    simp only [spec_l01Word.l0]
    rw [if_neg (by omega), Nat.pow_zero, Nat.div_one]
  | succ j ih =>
    intro hj
    refine Ev.step (f := fun k => spec_l01Word.l0 k (btl p 32) ((wd p 32 / 2 ^ j : Nat) : Int) ((j : Int) - 1)) (fun k => ?_) (ih (by omega))
    have hlen := btl_len p 32
    have hi : (((j + 1 : Nat) : Int) - 1) = (j : Int) := by omega
    have h1 := div_lt (wd_lt32 p) j
    have h2 : wd p 32 / 2 ^ (j + 1) = wd p 32 / 2 ^ j / 2 := by rw [Nat.pow_succ, Nat.div_div_eq_div_mul]
    have h3 : (if p j = true then (1 : Int) else 0) = ((wd p 32 / 2 ^ j % 2 : Nat) : Int) := by
      have hb := wd_bit p 32 j
      have hj' : j < 32 := by omega
      rw [Nat.testBit_eq_decide_div_mod_eq, decide_eq_true hj', Bool.true_and] at hb
      rcases Nat.mod_two_eq_zero_or_one (wd p 32 / 2 ^ j) with h | h
      · rw [h] at hb ⊢
        rw [← hb]; rfl
      · rw [h] at hb ⊢
        rw [← hb]; rfl
    have h4 : (((2 * ((wd p 32 / 2 ^ (j + 1) : Nat) : Int)) % 4294967296) + ((if p j = true then (1 : Int) else 0) % 4294967296)) % 4294967296 = ((wd p 32 / 2 ^ j : Nat) : Int) := by
      rw [h3, h2]
      generalize wd p 32 / 2 ^ j = y at h1 ⊢
      omega
    simp only [spec_l01Word.l0]
    rw [hi, if_pos (by omega), if_pos (by omega), if_pos (by omega), btl_rd p (by omega : j < 32), w64 (by omega) (by omega), h4]
theorem spec_l01Word.ev (p : Nat → Bool) : Ev (fun k => spec_l01Word.f k (btl p 32)) ((wd p 32 : Nat) : Int) := by
  have h := spec_l01Word.loop p 32 (Nat.le_refl _)
  rw [Nat.div_eq_of_lt (wd_lt32 p)] at h
  refine Ev.congr (fun k => ?_) h
  simp only [spec_l01Word.f]
  rw [btl_len, w64 (by omega) (by omega)]
  rfl
/-! ### spec_BitsOf -/
theorem spec_BitsOf.loop (l : List Int) (hl : l.length < 4611686018427387904) (d : Nat) : ∀ (i : Nat) (q : Nat → Bool), i + d = l.length → Ev (fun k => spec_BitsOf.l0 k l (btl q 32) (i : Int)) (bofq q (l.drop i)) := by
  induction d with
  | zero =>
    intro i q hi
    rw [List.drop_eq_nil_of_le (by omega), bofq_nil]
    refine Ev.step (f := fun k => (spec_l01Word.f k (btl q 32)).bind fun t => some (t, true)) (fun k => ?_) (Ev.bind (spec_l01Word.ev q) (Ev.now _))
    simp only [spec_BitsOf.l0]
    rw [if_neg (by omega)]
  | succ d ih =>
    intro i q hi
    have hlt : i < l.length := by omega
    rw [drop_rd l hlt, bofq_cons]
    generalize hb : rd l (i : Int) = b
    by_cases h1 : b < 0
    · rw [if_pos (.inl h1)]
      refine Ev.stop fun k => ?_
      simp only [spec_BitsOf.l0]
      rw [if_pos (by omega), if_pos (by omega), hb, if_pos h1]
    · by_cases h2 : b > 31
      · rw [if_pos (.inr h2)]
        refine Ev.stop fun k => ?_
        simp only [spec_BitsOf.l0]
        rw [if_pos (by omega), if_pos (by omega), hb, if_neg h1, if_pos h2]
      · rw [if_neg (by omega)]
        obtain ⟨c, rfl⟩ : ∃ c : Nat, b = c := ⟨b.toNat, by omega⟩
        rw [Int.toNat_natCast]
        have hlen := btl_len q 32
        have hc : c < 32 := by omega
        by_cases h3 : q c = true
        · rw [if_pos h3]
          refine Ev.stop fun k => ?_
          simp only [spec_BitsOf.l0]
          rw [if_pos (by omega), if_pos (by omega), hb, if_neg h1, if_neg h2, if_pos (by omega), if_pos (by omega), btl_rd q hc, if_pos h3, if_pos rfl]
        · rw [if_neg h3]
          refine Ev.step (f := fun k => spec_BitsOf.l0 k l (btl (fun j => q j || j == c) 32) ((i + 1 : Nat) : Int)) (fun k => ?_) (ih (i + 1) _ (by omega))
          simp only [spec_BitsOf.l0]
          rw [if_pos (by omega), if_pos (by omega), hb, if_neg h1, if_neg h2, if_pos (by omega), if_pos (by omega), btl_rd q hc, if_neg h3, if_neg (by decide), Int.toNat_natCast, btl_set q 32 hc, w64_succ (by omega)]
theorem spec_BitsOf.ev (l : List Int) (hl : l.length < 4611686018427387904) : Ev (fun k => spec_BitsOf.f k l) (bof l) := by
  refine Ev.congr (fun k => ?_) (spec_BitsOf.loop l hl l.length 0 (fun _ => false) (by omega))
  simp only [spec_BitsOf.f]
  rw [if_pos (by decide), btl_none]
  rfl
/-! ### spec_GroupOf -/
theorem spec_GroupOf.ev (v : List Int) (n : Nat) (hn : n < 2 ^ 32) : Ev (fun k => spec_GroupOf.f k v (n : Int)) ((gof v n : Nat) : Int) := by
  have hout : Ev (fun k => spec_GroupOf.j0 k v (n : Int) true) 0 := Ev.stop fun k => by
    simp only [spec_GroupOf.j0]
    rw [if_pos trivial]
  unfold gof
  by_cases h8 : v.length = 8
  · refine Ev.congr (f := fun k => (spec_l03Mask.f k (n : Int)).bind fun t => spec_GroupOf.j0 k v (n : Int) (!t)) (fun k => ?_) (Ev.bind (f := fun k t => spec_GroupOf.j0 k v (n : Int) (!t)) (spec_l03Mask.ev n hn) ?_)
    · simp only [spec_GroupOf.f]
      rw [spec_l03Row.eq, Option.bind_some, if_pos (by simpa using h8)]
    · by_cases h : n < 256
      · rw [if_pos ⟨h8, h⟩, decide_eq_true h]
        have hl := blp_len_le (grp v n) 32
        have hb : Ev (fun k => spec_BitsOf.f k (blp (grp v n) 32)) (((wd (grp v n) 32 : Nat) : Int), true) := (spec_BitsOf.ev (blp (grp v n) 32) (by omega)).eq (bof_blp32 _)
        refine Ev.step (f := fun k => (spec_BitList.f k (n : Int)).bind fun t => (spec_l03Alike.f k v t).bind fun u => (spec_BitsOf.f k u).bind fun x => some x.1) (fun k => ?_) (Ev.bind (f := fun k t => (spec_l03Alike.f k v t).bind fun u => (spec_BitsOf.f k u).bind fun x => some x.1) (spec_BitList.ev n hn) (Ev.bind (f := fun k u => (spec_BitsOf.f k u).bind fun x => some x.1) (spec_l03Alike.ev v h8 n h) (Ev.bind (f := fun _ (x : Int × Bool) => some x.1) hb (Ev.now _))))
        simp only [spec_GroupOf.j0]
        rw [if_neg (by decide)]
      · rw [if_neg (fun h2 => h h2.2), decide_eq_false h]
        exact hout
  · rw [if_neg (fun h2 => h8 h2.1)]
    refine Ev.congr (f := fun k => spec_GroupOf.j0 k v (n : Int) true) (fun k => ?_) hout
    simp only [spec_GroupOf.f]
    rw [spec_l03Row.eq, Option.bind_some, if_neg (by simpa using h8)]
/-! ### laws_toIntS -/
theorem laws_toIntS.loop (l : List Int) (hl : l.length < 4611686018427387904) (d : Nat) : ∀ (i : Nat) (o : List Int), o.length = l.length → i + d = l.length → o.take i = l.take i → Ev (fun k => laws_toIntS.l0 k l o (i : Int)) l := by
  induction d with
  | zero =>
    intro i o ho hi ht
    have e : o = l := by
      rw [List.take_of_length_le (by omega), List.take_of_length_le (by omega)] at ht
      exact ht
    refine Ev.stop fun k => ?_
    simp only [laws_toIntS.l0]
    rw [if_neg (by omega), e]
  | succ d ih =>
    intro i o ho hi ht
    refine Ev.step (f := fun k => laws_toIntS.l0 k l (o.set i (rd l (i : Int))) ((i + 1 : Nat) : Int)) (fun k => ?_) (ih (i + 1) _ (by simpa using ho) (by omega) (take_set l o (by omega) (by omega) ht))
    simp only [laws_toIntS.l0]
    rw [if_pos (by omega), if_pos (by omega), if_pos (by omega), w64_succ (by omega), Int.toNat_natCast]
theorem laws_toIntS.ev (l : List Int) (hl : l.length ≤ 35184372088832) : Ev (fun k => laws_toIntS.f k l) l := by
  refine Ev.congr (fun k => ?_) (laws_toIntS.loop l (by omega) l.length 0 (List.replicate l.length 0) (by simp) (by omega) rfl)
  simp only [laws_toIntS.f]
  rw [if_pos (by omega), Int.toNat_natCast, if_pos (by omega)]
  rfl
/-! ### laws_eqIntS -/
theorem laws_eqIntS.loop (l : List Int) (hl : l.length < 4611686018427387904) (d : Nat) : ∀ i : Nat, i + d = l.length → Ev (fun k => laws_eqIntS.l0 k l l (i : Int)) true := by
  induction d with
  | zero =>
    intro i hi
    refine Ev.stop fun k => ?_
    simp only [laws_eqIntS.l0]
    rw [if_neg (by omega)]
  | succ d ih =>
    intro i hi
    refine Ev.step (f := fun k => laws_eqIntS.l0 k l l ((i + 1 : Nat) : Int)) (fun k => ?_) (ih (i + 1) (by omega))
    simp only [laws_eqIntS.l0]
    rw [if_pos (by omega), if_pos (by omega), if_pos (by omega), if_pos trivial, w64_succ (by omega)]
theorem laws_eqIntS.ev (l : List Int) (hl : l.length < 4611686018427387904) : Ev (fun k => laws_eqIntS.f k l l) true := by
  refine Ev.congr (fun k => ?_) (laws_eqIntS.loop l hl l.length 0 (by omega))
  simp only [laws_eqIntS.f]
  rw [if_pos trivial]
  rfl
/-! ### laws_FnExactGroupOf -/
theorem FnExactGroupOf : laws_FnExactGroupOf.Pure := by
  intro l a _ _ _ h0
  obtain ⟨n, rfl, hn⟩ := u32_nat h0
  by_cases hlen : (l.length : Int) > 1048576
  · exact ⟨0, by simp only [laws_FnExactGroupOf.f]; rw [if_pos hlen]⟩
  · obtain ⟨k, e1, e2, e3, e4⟩ := ((laws_toIntS.ev l (by omega)).and ((spec_GroupOf.ev l n hn).and ((impl_GroupOf.ev l n).and (laws_eqIntS.ev l (by omega)).last))).pick
    refine ⟨k, ?_⟩
    simp only [laws_FnExactGroupOf.f, e1, e2, e3, e4, Option.bind_some, if_true, if_neg hlen]

end Go.Proofs.YtklgbopdhomnaaaDoor.Pure
