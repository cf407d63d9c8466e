/-
  The law FnExactGroups: what both programs compute, in plain Lean, and that it is the same.
  Conditions: none beyond those of the statement itself.
-/
import Derived.Test.YtklgbopdhomnaaaDoorPFnExactGroupsx4
import Derived.Test.YtklgbopdhomnaaaDoorLib
namespace Go.Proofs.YtklgbopdhomnaaaDoor.Pure
open Go.RowKit Go.Proofs.YtklgbopdhomnaaaDoor.PFnExactGroups Go.Proofs.YtklgbopdhomnaaaDoorW.PrintWords Go.Proofs.YtklgbopdhomnaaaDoorW.PrintLast

/-! ### impl_isMask -/
theorem impl_isMask.eq (n : Nat) : impl_isMask.f (n : Int) = some (decide (n < 256)) := by
  unfold impl_isMask.f
  have : ((n : Int) < 256) ↔ n < 256 := by omega
  simp only [this]
/-! ### impl_BitList -/
theorem impl_BitList.loop (n : Nat) (hn : n < 2 ^ 32) (d : Nat) : ∀ i : Nat, i + d = 32 → Ev (fun k => impl_BitList.l0 k (n : Int) (blp n.testBit i) (i : Int)) (blp n.testBit 32) := by
  induction d with
  | zero =>
    intro i hi
    obtain rfl : i = 32 := by omega
    refine Ev.stop fun k => ?_
    simp only [impl_BitList.l0]
    rw [if_neg (by omega)]
  | succ d ih =>
    intro i hi
    refine Ev.step (f := fun k => impl_BitList.l0 k (n : Int) (blp n.testBit (i + 1)) ((i + 1 : Nat) : Int)) (fun k => ?_) (ih (i + 1) (by omega))
    have hlen := blp_len_le n.testBit i
    simp only [impl_BitList.l0]
    rw [if_pos (by omega), if_pos (by omega), bit_at hn (by omega : i ≤ 32), w64_succ (by omega)]
    by_cases hp : n.testBit i = true
    · rw [if_pos hp, if_pos rfl, if_pos (by omega)]
      simp only [blp, if_pos hp]
    · rw [if_neg hp, if_neg (by decide)]
      simp only [blp, if_neg hp, List.append_nil]
theorem impl_BitList.ev (n : Nat) (hn : n < 2 ^ 32) : Ev (fun k => impl_BitList.f k (n : Int)) (blp n.testBit 32) :=
  Ev.congr (fun _ => rfl) (impl_BitList.loop n hn 32 0 rfl)
/-! ### bits_TrailingZeros32 -/
theorem bits_TrailingZeros32.eq (n : Nat) (hn : n < 2 ^ 32) : bits_TrailingZeros32.f (n : Int) = some ((Go.Lib.ctz 32 n : Nat) : Int) := by
  unfold bits_TrailingZeros32.f
  rw [if_pos (by omega), Int.toNat_natCast]
/-! ### impl_Lowest -/
theorem impl_Lowest.eq (n : Nat) (hn : n < 2 ^ 32) : impl_Lowest.f (n : Int) = some (low n) := by
  unfold impl_Lowest.f low
  by_cases h : n = 0
  · rw [if_pos (by omega), if_pos h]
  · rw [if_neg (by omega), if_neg h, bits_TrailingZeros32.eq n hn, Option.bind_some]
/-! ### impl_groupOf -/
theorem impl_groupOf.loop (v : List Int) (hv : v.length = 8) (n : Nat) (hn : n < 256) (d : Nat) : ∀ i : Nat, i + d = (blp n.testBit 32).length → Ev (fun k => impl_groupOf.l0 k v (n : Int) ((wd (fun j => decide ((j : Int) ∈ ((blp n.testBit 32).take i).filter (lik v n))) 32 : Nat) : Int) (blp n.testBit 32) ((blp n.testBit 32).length : Int) (i : Int)) ((wd (grp v n) 32 : Nat) : Int) := by
  have hlen := blp_len_le n.testBit 32
  induction d with
  | zero =>
    intro i hi
    have e : wd (fun j => decide ((j : Int) ∈ ((blp n.testBit 32).take i).filter (lik v n))) 32 = wd (grp v n) 32 := wd_congr fun j hj => by
      rw [List.take_of_length_le (by omega), grp_filter]
      by_cases h : grp v n j = true
      · rw [h, decide_eq_true ((blp_mem _ _ _).2 ⟨j, hj, h, rfl⟩)]
      · have h' : grp v n j = false := by simpa using h
        rw [h', decide_eq_false]
        intro h2
        obtain ⟨j', _, h3, h4⟩ := (blp_mem _ _ _).1 h2
        obtain rfl : j = j' := by omega
        exact h h3
    rw [e]
    refine Ev.stop fun k => ?_
    simp only [impl_groupOf.l0]
    rw [if_neg (by omega)]
  | succ d ih =>
    intro i hi
    obtain ⟨j0, hj0, _, _, hr⟩ := blp_rd_lt n.testBit (m := 32) (i := i) (by omega)
    obtain ⟨b0, b1⟩ := mask_blp_lt hn (i := i) (by omega)
    rw [hr] at b0 b1
    obtain ⟨l0, l1, _⟩ := low_lane hn (nonzero_of_len (n := n) (by omega))
    have hft := filter_take_succ (lik v n) (blp n.testBit 32) (i := i) (by omega)
    rw [hr] at hft
    refine Ev.step (f := fun k => impl_groupOf.l0 k v (n : Int) ((wd (fun j => decide ((j : Int) ∈ ((blp n.testBit 32).take (i + 1)).filter (lik v n))) 32 : Nat) : Int) (blp n.testBit 32) ((blp n.testBit 32).length : Int) ((i + 1 : Nat) : Int)) (fun k => ?_) (ih (i + 1) (by omega))
    simp only [impl_groupOf.l0]
    rw [if_pos (by omega), if_pos (by omega), if_pos (by omega), hr, if_pos (by omega), if_pos (by omega), impl_Lowest.eq n (by omega), Option.bind_some, if_pos l0, if_pos (by omega), w64_succ (by omega)]
    by_cases hq : rd v (j0 : Int) = rd v (low n)
    · have hq' : lik v n (j0 : Int) = true := decide_eq_true hq
      rw [if_pos hq'] at hft
      have e : wd (fun j => decide ((j : Int) ∈ ((blp n.testBit 32).take i).filter (lik v n)) || j == j0) 32 = wd (fun j => decide ((j : Int) ∈ ((blp n.testBit 32).take (i + 1)).filter (lik v n))) 32 := wd_congr fun j _ => by
        rw [hft, Bool.eq_iff_iff]
        have he : ((j : Int) = (j0 : Int)) ↔ j = j0 := by omega
        simp only [Bool.or_eq_true, decide_eq_true_eq, beq_iff_eq, List.mem_append, List.mem_singleton, he]
      rw [if_pos hq, shl_one hj0, or_nat (wd_lt32 _) (two_pow_lt hj0), wd_or _ hj0, e]
    · have hq' : ¬ lik v n (j0 : Int) = true := fun h => hq (of_decide_eq_true h)
      rw [if_neg hq', List.append_nil] at hft
      rw [if_neg hq, hft]
theorem impl_groupOf.ev (v : List Int) (hv : v.length = 8) (n : Nat) (hn : n < 256) : Ev (fun k => impl_groupOf.f k v (n : Int)) ((wd (grp v n) 32 : Nat) : Int) := by
  have h := impl_groupOf.loop v hv n hn (blp n.testBit 32).length 0 (by omega)
  have e : wd (fun j => decide ((j : Int) ∈ ((blp n.testBit 32).take 0).filter (lik v n))) 32 = 0 := (wd_congr fun j _ => by simp).trans (wd_false 32)
  rw [e] at h
  exact Ev.bind (f := fun k t => impl_groupOf.l0 k v (n : Int) 0 t (t.length : Int) 0) (impl_BitList.ev n (by omega)) h
/-! ### impl_Groups -/
theorem impl_Groups.loop (v : List Int) (hv : v.length = 8) (d : Nat) : ∀ (n : Nat) (o : List Int), n < 256 → cnt n.testBit 32 ≤ d → o.length + d ≤ 64 → Ev (fun k => impl_Groups.l0 k v (n : Int) o) (o ++ gps v d n) := by
  induction d with
  | zero =>
    intro n o hn hc ho
    have h0 := cnt_zero (n := n) (by omega) (by omega)
    subst h0
    refine Ev.stop fun k => ?_
    simp only [impl_Groups.l0, gps]
    rw [if_pos (by omega), List.append_nil]
  | succ d ih =>
    intro n o hn hc ho
    simp only [gps]
    by_cases h0 : n = 0
    · rw [if_pos h0, List.append_nil]
      refine Ev.stop fun k => ?_
      simp only [impl_Groups.l0]
      rw [if_pos (by omega)]
    · have hr := rst_cnt v (n := n) (by omega) h0
      have h := ih (rst v n) (o ++ [((wd (grp v n) 32 : Nat) : Int)]) (rst_lt v hn) (by omega) (by simp; omega)
      have e : wd (fun j => n.testBit j && !(wd (grp v n) 32).testBit j) 32 = rst v n := wd_congr fun j hj => by rw [wd_bits_eq hj]
      rw [List.append_assoc, List.singleton_append] at h
      rw [if_neg h0]
      refine Ev.step (f := fun k => (impl_groupOf.f k v (n : Int)).bind fun t => if o.length < 35184372088832 then impl_Groups.l0 k v (Go.bits .andNot .u32 (n : Int) t) (o ++ [t]) else none) (fun k => ?_) (Ev.bind (f := fun k t => if o.length < 35184372088832 then impl_Groups.l0 k v (Go.bits .andNot .u32 (n : Int) t) (o ++ [t]) else none) (impl_groupOf.ev v hv n hn) (Ev.congr (fun k => ?_) h))
      · simp only [impl_Groups.l0]
        rw [if_neg (by omega)]
      · rw [if_pos (by omega), andNot_nat (by omega) (wd_lt32 _), e]
theorem impl_Groups.ev (v : List Int) (n : Nat) : Ev (fun k => impl_Groups.f k v (n : Int)) (if v.length = 8 ∧ n < 256 then gps v 32 n else []) := by
  have hout : Ev (fun k => impl_Groups.j0 k v (n : Int) true) [] := Ev.stop fun k => by
    simp only [impl_Groups.j0]
    rw [if_pos trivial]
  by_cases h : n < 256
  · refine Ev.congr (f := fun k => impl_Groups.j0 k v (n : Int) ((v.length : Int) != 8)) (fun k => ?_) ?_
    · simp only [impl_Groups.f]
      rw [impl_isMask.eq, Option.bind_some, if_pos (by simpa using h)]
    · by_cases h8 : v.length = 8
      · have e : ((v.length : Int) != 8) = false := by simp [h8]
        rw [if_pos ⟨h8, h⟩, e]
        refine Ev.step (fun k => ?_) (impl_Groups.loop v h8 32 n [] h (cnt_le _ _) (by simp))
        simp only [impl_Groups.j0]
        rw [if_neg (by decide)]
      · have e : ((v.length : Int) != 8) = true := by simp; omega
        rw [if_neg (fun h2 => h8 h2.1), e]
        exact hout
  · rw [if_neg (fun h2 => h h2.2)]
    refine Ev.congr (f := fun k => impl_Groups.j0 k v (n : Int) true) (fun k => ?_) hout
    simp only [impl_Groups.f]
    rw [impl_isMask.eq, Option.bind_some, if_neg (by simpa using h)]
/-! ### spec_l03Row -/
theorem spec_l03Row.eq (l : List Int) : spec_l03Row.f l = some (decide (l.length = 8)) := by
  unfold spec_l03Row.f
  congr 1
  rw [Bool.eq_iff_iff]
  simp
  omega
/-! ### spec_l01Bits -/
theorem spec_l01Bits.loop (n : Nat) (hn : n < 2 ^ 32) (d : Nat) : ∀ i : Nat, i + d = 32 → Ev (fun k => spec_l01Bits.l0 k ((n / 2 ^ i : Nat) : Int) (btl n.testBit i) (i : Int)) (btl n.testBit 32) := by
  induction d with
  | zero =>
    intro i hi
    obtain rfl : i = 32 := by omega
    refine Ev.stop fun k => ?_
    simp only [spec_l01Bits.l0]
    rw [if_neg (by omega)]
  | succ d ih =>
    intro i hi
    refine Ev.step (f := fun k => spec_l01Bits.l0 k ((n / 2 ^ (i + 1) : Nat) : Int) (btl n.testBit (i + 1)) ((i + 1 : Nat) : Int)) (fun k => ?_) (ih (i + 1) (by omega))
    have hlen := btl_len n.testBit i
    have hlt := div_lt hn i
    have e1 : Int.tdiv ((n / 2 ^ i : Nat) : Int) 2 % 4294967296 = ((n / 2 ^ (i + 1) : Nat) : Int) := by
      rw [Int.tdiv_eq_ediv_of_nonneg (Int.natCast_nonneg _), Nat.pow_succ, ← Nat.div_div_eq_div_mul]
      generalize n / 2 ^ i = y at hlt ⊢
      omega
    have e2 : wrap64 (Int.tmod ((n / 2 ^ i : Nat) : Int) 2) = if n.testBit i = true then 1 else 0 := by
      rw [Int.tmod_eq_emod_of_nonneg (Int.natCast_nonneg _), Nat.testBit_eq_decide_div_mod_eq]
      have h := Nat.mod_two_eq_zero_or_one (n / 2 ^ i)
      have h2 : ((n / 2 ^ i : Nat) : Int) % 2 = ((n / 2 ^ i % 2 : Nat) : Int) := (Int.natCast_emod _ _).symm
      rw [h2]
      rcases h with h | h
      · rw [h]; exact wrap64_0
      · rw [h]; exact wrap64_1
    simp only [spec_l01Bits.l0]
    rw [if_pos (by omega), if_pos (by omega), w64_succ (by omega), e1, e2, btl_succ]
theorem spec_l01Bits.ev (n : Nat) (hn : n < 2 ^ 32) : Ev (fun k => spec_l01Bits.f k (n : Int)) (btl n.testBit 32) := by
  have h := spec_l01Bits.loop n hn 32 0 rfl
  rw [Nat.pow_zero, Nat.div_one] at h
  exact Ev.congr (fun _ => rfl) h
/-! ### spec_BitList -/
theorem spec_BitList.loop (p : Nat → Bool) (d : Nat) : ∀ i : Nat, i + d = 32 → Ev (fun k => spec_BitList.l0 k (blp p i) (btl p 32) (i : Int)) (blp p 32) := by
  induction d with
  | zero =>
    intro i hi
    obtain rfl : i = 32 := by omega
    refine Ev.stop fun k => ?_
    simp only [spec_BitList.l0]
    rw [if_neg (by omega)]
  | succ d ih =>
    intro i hi
    refine Ev.step (f := fun k => spec_BitList.l0 k (blp p (i + 1)) (btl p 32) ((i + 1 : Nat) : Int)) (fun k => ?_) (ih (i + 1) (by omega))
    have hlen := blp_len_le p i
    have hlen2 := btl_len p 32
    simp only [spec_BitList.l0]
    rw [if_pos (by omega), if_pos (by omega), if_pos (by omega), btl_rd p (by omega : i < 32), w64_succ (by omega)]
    by_cases hp : p i = true
    · rw [if_pos hp, if_pos rfl, if_pos (by omega)]
      simp only [blp, if_pos hp]
    · rw [if_neg hp, if_neg (by decide)]
      simp only [blp, if_neg hp, List.append_nil]
theorem spec_BitList.ev (n : Nat) (hn : n < 2 ^ 32) : Ev (fun k => spec_BitList.f k (n : Int)) (blp n.testBit 32) :=
  Ev.bind (spec_l01Bits.ev n hn) (spec_BitList.loop n.testBit 32 0 rfl)
/-! ### spec_Highest -/
theorem spec_Highest.ev (n : Nat) (hn : n < 2 ^ 32) : Ev (fun k => spec_Highest.f k (n : Int)) (top n.testBit 32) := by
  have hlen := blp_len_le n.testBit 32
  refine Ev.congr (fun _ => rfl) (Ev.bind (spec_BitList.ev n hn) ?_)
  by_cases h : (blp n.testBit 32).length = 0
  · rw [blp_empty _ _ h]
    refine Ev.const ?_
    rw [if_pos (by omega)]
  · obtain ⟨h1, _⟩ := blp_last n.testBit 32 h
    refine Ev.const ?_
    rw [if_neg (by omega), w64 (by omega) (by omega), if_pos (by omega), if_pos (by omega), h1]
/-! ### spec_l03Mask -/
theorem spec_l03Mask.ev (n : Nat) (hn : n < 2 ^ 32) : Ev (fun k => spec_l03Mask.f k (n : Int)) (decide (n < 256)) := by
  have h : Ev (fun k => spec_l03Mask.f k (n : Int)) (decide (top n.testBit 32 < 8)) := Ev.bind (f := fun _ (t : Int) => some (decide (t < 8))) (spec_Highest.ev n hn) (Ev.now _)
  have e : decide (top n.testBit 32 < 8) = decide (n < 256) := decide_eq_decide.2 (top_mask hn)
  rw [e] at h
  exact h
/-! ### spec_l03Alike -/
theorem spec_l03Alike.loop (v : List Int) (hv : v.length = 8) (n : Nat) (hn : n < 256) (d : Nat) : ∀ i : Nat, i + d = (blp n.testBit 32).length → Ev (fun k => spec_l03Alike.l0 k v (blp n.testBit 32) (((blp n.testBit 32).take i).filter (lik v n)) (i : Int)) (blp (grp v n) 32) := by
  have hlen := blp_len_le n.testBit 32
  induction d with
  | zero =>
    intro i hi
    rw [List.take_of_length_le (by omega), grp_filter]
    refine Ev.stop fun k => ?_
    simp only [spec_l03Alike.l0]
    rw [if_neg (by omega)]
  | succ d ih =>
    intro i hi
    obtain ⟨b0, b1⟩ := mask_blp_lt hn (i := i) (by omega)
    obtain ⟨l0, l1, l2⟩ := low_lane hn (nonzero_of_len (n := n) (by omega))
    have hft := filter_take_succ (lik v n) (blp n.testBit 32) (i := i) (by omega)
    have hfl : (((blp n.testBit 32).take i).filter (lik v n)).length ≤ 32 := by
      have h1 := List.length_filter_le (lik v n) ((blp n.testBit 32).take i)
      rw [List.length_take] at h1
      omega
    refine Ev.step (f := fun k => spec_l03Alike.l0 k v (blp n.testBit 32) (((blp n.testBit 32).take (i + 1)).filter (lik v n)) ((i + 1 : Nat) : Int)) (fun k => ?_) (ih (i + 1) (by omega))
    simp only [spec_l03Alike.l0]
    rw [if_pos (by omega), if_pos (by omega), if_pos (by omega), if_pos (by omega), if_pos (by omega), l2, if_pos (by omega), if_pos (by omega), w64_succ (by omega)]
    by_cases hq : rd v (rd (blp n.testBit 32) (i : Int)) = rd v (low n)
    · have hq' : lik v n (rd (blp n.testBit 32) (i : Int)) = true := decide_eq_true hq
      rw [if_pos hq'] at hft
      rw [if_pos hq, if_pos (by omega), hft]
    · have hq' : ¬ lik v n (rd (blp n.testBit 32) (i : Int)) = true := fun h => hq (of_decide_eq_true h)
      rw [if_neg hq', List.append_nil] at hft
      rw [if_neg hq, hft]
theorem spec_l03Alike.ev (v : List Int) (hv : v.length = 8) (n : Nat) (hn : n < 256) : Ev (fun k => spec_l03Alike.f k v (blp n.testBit 32)) (blp (grp v n) 32) :=
  Ev.congr (fun _ => rfl) (spec_l03Alike.loop v hv n hn (blp n.testBit 32).length 0 (by omega))
/-! ### spec_l01Word -/
theorem spec_l01Word.loop (p : Nat → Bool) : ∀ j : Nat, j ≤ 32 → Ev (fun k => spec_l01Word.l0 k (btl p 32) ((wd p 32 / 2 ^ j : Nat) : Int) ((j : Int) - 1)) ((wd p 32 : Nat) : Int) := by
  intro j
  induction j with
  | zero =>
    intro _
    refine Ev.stop fun k => ?_
    simp only [spec_l01Word.l0]
    rw [if_neg (by omega), Nat.pow_zero, Nat.div_one]
  | succ j ih =>
    intro hj
    refine Ev.step (f := fun k => spec_l01Word.l0 k (btl p 32) ((wd p 32 / 2 ^ j : Nat) : Int) ((j : Int) - 1)) (fun k => ?_) (ih (by omega))
    have hlen := btl_len p 32
    have hi : (((j + 1 : Nat) : Int) - 1) = (j : Int) := by omega
    have h1 := div_lt (wd_lt32 p) j
    have h2 : wd p 32 / 2 ^ (j + 1) = wd p 32 / 2 ^ j / 2 := by rw [Nat.pow_succ, Nat.div_div_eq_div_mul]
    have h3 : (if p j = true then (1 : Int) else 0) = ((wd p 32 / 2 ^ j % 2 : Nat) : Int) := by
      have hb := wd_bit p 32 j
      have hj' : j < 32 := by omega
      rw [Nat.testBit_eq_decide_div_mod_eq, decide_eq_true hj', Bool.true_and] at hb
      rcases Nat.mod_two_eq_zero_or_one (wd p 32 / 2 ^ j) with h | h
      · rw [h] at hb ⊢
        rw [← hb]; rfl
      · rw [h] at hb ⊢
        rw [← hb]; rfl
    have h4 : (((2 * ((wd p 32 / 2 ^ (j + 1) : Nat) : Int)) % 4294967296) + ((if p j = true then (1 : Int) else 0) % 4294967296)) % 4294967296 = ((wd p 32 / 2 ^ j : Nat) : Int) := by
      rw [h3, h2]
      generalize wd p 32 / 2 ^ j = y at h1 ⊢
      omega
    simp only [spec_l01Word.l0]
    rw [hi, if_pos (by omega), if_pos (by omega), if_pos (by omega), btl_rd p (by omega : j < 32), w64 (by omega) (by omega), h4]
theorem spec_l01Word.ev (p : Nat → Bool) : Ev (fun k => spec_l01Word.f k (btl p 32)) ((wd p 32 : Nat) : Int) := by
  have h := spec_l01Word.loop p 32 (Nat.le_refl _)
  rw [Nat.div_eq_of_lt (wd_lt32 p)] at h
  refine Ev.congr (fun k => ?_) h
  simp only [spec_l01Word.f]
  rw [btl_len, w64 (by omega) (by omega)]
  rfl
/-! ### spec_BitsOf -/
theorem spec_BitsOf.loop (l : List Int) (hl : l.length < 4611686018427387904) (d : Nat) : ∀ (i : Nat) (q : Nat → Bool), i + d = l.length → Ev (fun k => spec_BitsOf.l0 k l (btl q 32) (i : Int)) (bofq q (l.drop i)) := by
  induction d with
  | zero =>
    intro i q hi
    rw [List.drop_eq_nil_of_le (by omega), bofq_nil]
    refine Ev.step (f := fun k => (spec_l01Word.f k (btl q 32)).bind fun t => some (t, true)) (fun k => ?_) (Ev.bind (spec_l01Word.ev q) (Ev.now _))
    simp only [spec_BitsOf.l0]
    rw [if_neg (by omega)]
  | succ d ih =>
    intro i q hi
    have hlt : i < l.length := by omega
    rw [drop_rd l hlt, bofq_cons]
    generalize hb : rd l (i : Int) = b
    by_cases h1 : b < 0
    · rw [if_pos (.inl h1)]
      refine Ev.stop fun k => ?_
      simp only [spec_BitsOf.l0]
      rw [if_pos (by omega), if_pos (by omega), hb, if_pos h1]
    · by_cases h2 : b > 31
      · rw [if_pos (.inr h2)]
        refine Ev.stop fun k => ?_
        simp only [spec_BitsOf.l0]
        rw [if_pos (by omega), if_pos (by omega), hb, if_neg h1, if_pos h2]
      · rw [if_neg (by omega)]
        obtain ⟨c, rfl⟩ : ∃ c : Nat, b = c := ⟨b.toNat, by omega⟩
        rw [Int.toNat_natCast]
        have hlen := btl_len q 32
        have hc : c < 32 := by omega
        by_cases h3 : q c = true
        · rw [if_pos h3]
          refine Ev.stop fun k => ?_
          simp only [spec_BitsOf.l0]
          rw [if_pos (by omega), if_pos (by omega), hb, if_neg h1, if_neg h2, if_pos (by omega), if_pos (by omega), btl_rd q hc, if_pos h3, if_pos rfl]
        · rw [if_neg h3]
          refine Ev.step (f := fun k => spec_BitsOf.l0 k l (btl (fun j => q j || j == c) 32) ((i + 1 : Nat) : Int)) (fun k => ?_) (ih (i + 1) _ (by omega))
          simp only [spec_BitsOf.l0]
          rw [if_pos (by omega), if_pos (by omega), hb, if_neg h1, if_neg h2, if_pos (by omega), if_pos (by omega), btl_rd q hc, if_neg h3, if_neg (by decide), Int.toNat_natCast, btl_set q 32 hc, w64_succ (by omega)]
theorem spec_BitsOf.ev (l : List Int) (hl : l.length < 4611686018427387904) : Ev (fun k => spec_BitsOf.f k l) (bof l) := by
  refine Ev.congr (fun k => ?_) (spec_BitsOf.loop l hl l.length 0 (fun _ => false) (by omega))
  simp only [spec_BitsOf.f]
  rw [if_pos (by decide), btl_none]
  rfl
/-! ### spec_Groups -/
theorem spec_Groups.inner (v : List Int) (hv : v.length = 8) (n : Nat) (hn : n < 256) (o : List Int) (r : List Int)
    (hnext : Ev (fun k => spec_Groups.l0 k v o (blp (rst v n).testBit 32)) r) (d : Nat) : ∀ i : Nat, i + d = (blp n.testBit 32).length → Ev (fun k => spec_Groups.l1 k v o (blp n.testBit 32) (((blp n.testBit 32).take i).filter (fun b => !lik v n b)) (i : Int)) r := by
  have hlen := blp_len_le n.testBit 32
  induction d with
  | zero =>
    intro i hi
    have e : (blp n.testBit 32).filter (fun b => !lik v n b) = blp (rst v n).testBit 32 := by
      rw [blp_filter]
      refine blp_congr fun j hj => ?_
      rw [rst_bit v n hj]
      unfold grp lik
      cases n.testBit j <;> simp
    rw [List.take_of_length_le (by omega), e]
    refine Ev.step (fun k => ?_) hnext
    simp only [spec_Groups.l1]
    rw [if_neg (by omega)]
  | succ d ih =>
    intro i hi
    obtain ⟨b0, b1⟩ := mask_blp_lt hn (i := i) (by omega)
    obtain ⟨l0, l1, l2⟩ := low_lane hn (nonzero_of_len (n := n) (by omega))
    have hft := filter_take_succ (fun b => !lik v n b) (blp n.testBit 32) (i := i) (by omega)
    have hfl : (((blp n.testBit 32).take i).filter (fun b => !lik v n b)).length ≤ 32 := by
      have h1 := List.length_filter_le (fun b => !lik v n b) ((blp n.testBit 32).take i)
      rw [List.length_take] at h1
      omega
    refine Ev.step (f := fun k => spec_Groups.l1 k v o (blp n.testBit 32) (((blp n.testBit 32).take (i + 1)).filter (fun b => !lik v n b)) ((i + 1 : Nat) : Int)) (fun k => ?_) (ih (i + 1) (by omega))
    simp only [spec_Groups.l1]
    rw [if_pos (by omega), if_pos (by omega), if_pos (by omega), if_pos (by omega), if_pos (by omega), l2, if_pos (by omega), if_pos (by omega), w64_succ (by omega)]
    by_cases hq : rd v (rd (blp n.testBit 32) (i : Int)) = rd v (low n)
    · have hq' : lik v n (rd (blp n.testBit 32) (i : Int)) = true := decide_eq_true hq
      rw [if_neg (by rw [hq']; decide), List.append_nil] at hft
      rw [if_pos hq, hft]
    · have hq' : lik v n (rd (blp n.testBit 32) (i : Int)) = false := decide_eq_false hq
      rw [if_pos (by rw [hq']; rfl)] at hft
      rw [if_neg hq, if_pos (by omega), hft]
theorem spec_Groups.loop (v : List Int) (hv : v.length = 8) (d : Nat) : ∀ (n : Nat) (o : List Int), n < 256 → cnt n.testBit 32 ≤ d → o.length + d ≤ 64 → Ev (fun k => spec_Groups.l0 k v o (blp n.testBit 32)) (o ++ gps v d n) := by
  induction d with
  | zero =>
    intro n o hn hc ho
    have h0 := cnt_zero (n := n) (by omega) (by omega)
    subst h0
    have hl : blp (Nat.testBit 0) 32 = [] := blp_none fun j _ => Nat.zero_testBit j
    refine Ev.stop fun k => ?_
    simp only [spec_Groups.l0, gps]
    rw [if_neg (by rw [hl]; decide), List.append_nil]
  | succ d ih =>
    intro n o hn hc ho
    simp only [gps]
    by_cases h0 : n = 0
    · subst h0
      have hl : blp (Nat.testBit 0) 32 = [] := blp_none fun j _ => Nat.zero_testBit j
      rw [if_pos rfl, List.append_nil]
      refine Ev.stop fun k => ?_
      simp only [spec_Groups.l0]
      rw [if_neg (by rw [hl]; decide)]
    · have hr := rst_cnt v (n := n) (by omega) h0
      have hpos : ((blp n.testBit 32).length : Int) > 0 := by
        rw [blp_len]
        omega
      have h := ih (rst v n) (o ++ [((wd (grp v n) 32 : Nat) : Int)]) (rst_lt v hn) (by omega) (by simp; omega)
      rw [List.append_assoc, List.singleton_append] at h
      have hin := spec_Groups.inner v hv n hn (o ++ [((wd (grp v n) 32 : Nat) : Int)]) _ h (blp n.testBit 32).length 0 (by omega)
      have hl := blp_len_le (grp v n) 32
      have hb : Ev (fun k => spec_BitsOf.f k (blp (grp v n) 32)) (((wd (grp v n) 32 : Nat) : Int), true) := (spec_BitsOf.ev (blp (grp v n) 32) (by omega)).eq (bof_blp32 _)
      rw [if_neg h0]
      refine Ev.step (f := fun k => (spec_l03Alike.f k v (blp n.testBit 32)).bind fun t => (spec_BitsOf.f k t).bind fun u => if o.length < 35184372088832 then spec_Groups.l1 k v (o ++ [u.1]) (blp n.testBit 32) [] 0 else none) (fun k => ?_) (Ev.bind (f := fun k t => (spec_BitsOf.f k t).bind fun u => if o.length < 35184372088832 then spec_Groups.l1 k v (o ++ [u.1]) (blp n.testBit 32) [] 0 else none) (spec_l03Alike.ev v hv n hn) (Ev.bind (f := fun k (u : Int × Bool) => if o.length < 35184372088832 then spec_Groups.l1 k v (o ++ [u.1]) (blp n.testBit 32) [] 0 else none) hb (Ev.congr (fun k => ?_) hin)))
      · simp only [spec_Groups.l0]
        rw [if_pos hpos]
      · rw [if_pos (by omega)]
        rfl
theorem spec_Groups.ev (v : List Int) (n : Nat) (hn : n < 2 ^ 32) : Ev (fun k => spec_Groups.f k v (n : Int)) (if v.length = 8 ∧ n < 256 then gps v 32 n else []) := by
  have hout : Ev (fun k => spec_Groups.j0 k v (n : Int) [] true) [] := Ev.stop fun k => by
    simp only [spec_Groups.j0]
    rw [if_pos trivial]
  by_cases h8 : v.length = 8
  · refine Ev.congr (f := fun k => (spec_l03Mask.f k (n : Int)).bind fun t => spec_Groups.j0 k v (n : Int) [] (!t)) (fun k => ?_) (Ev.bind (f := fun k t => spec_Groups.j0 k v (n : Int) [] (!t)) (spec_l03Mask.ev n hn) ?_)
    · simp only [spec_Groups.f]
      rw [Option.bind_some, spec_l03Row.eq, Option.bind_some, if_pos (by simpa using h8)]
    · by_cases h : n < 256
      · rw [if_pos ⟨h8, h⟩, decide_eq_true h]
        refine Ev.step (f := fun k => (spec_BitList.f k (n : Int)).bind fun t => spec_Groups.l0 k v [] t) (fun k => ?_) (Ev.bind (f := fun k t => spec_Groups.l0 k v [] t) (spec_BitList.ev n hn) (spec_Groups.loop v h8 32 n [] h (cnt_le _ _) (by simp)))
        simp only [spec_Groups.j0]
        rw [if_neg (by decide)]
      · rw [if_neg (fun h2 => h h2.2), decide_eq_false h]
        exact hout
  · rw [if_neg (fun h2 => h8 h2.1)]
    refine Ev.congr (f := fun k => spec_Groups.j0 k v (n : Int) [] true) (fun k => ?_) hout
    simp only [spec_Groups.f]
    rw [Option.bind_some, spec_l03Row.eq, Option.bind_some, if_neg (by simpa using h8)]
/-! ### laws_toIntS -/
theorem laws_toIntS.loop (l : List Int) (hl : l.length < 4611686018427387904) (d : Nat) : ∀ (i : Nat) (o : List Int), o.length = l.length → i + d = l.length → o.take i = l.take i → Ev (fun k => laws_toIntS.l0 k l o (i : Int)) l := by
  induction d with
  | zero =>
    intro i o ho hi ht
    have e : o = l := by
      rw [List.take_of_length_le (by omega), List.take_of_length_le (by omega)] at ht
      exact ht
    refine Ev.stop fun k => ?_
    simp only [laws_toIntS.l0]
    rw [if_neg (by omega), e]
  | succ d ih =>
    intro i o ho hi ht
    refine Ev.step (f := fun k => laws_toIntS.l0 k l (o.set i (rd l (i : Int))) ((i + 1 : Nat) : Int)) (fun k => ?_) (ih (i + 1) _ (by simpa using ho) (by omega) (take_set l o (by omega) (by omega) ht))
    simp only [laws_toIntS.l0]
    rw [if_pos (by omega), if_pos (by omega), if_pos (by omega), w64_succ (by omega), Int.toNat_natCast]
theorem laws_toIntS.ev (l : List Int) (hl : l.length ≤ 35184372088832) : Ev (fun k => laws_toIntS.f k l) l := by
  refine Ev.congr (fun k => ?_) (laws_toIntS.loop l (by omega) l.length 0 (List.replicate l.length 0) (by simp) (by omega) rfl)
  simp only [laws_toIntS.f]
  rw [if_pos (by omega), Int.toNat_natCast, if_pos (by omega)]
  rfl
/-! ### laws_eqIntS -/
theorem laws_eqIntS.loop (l : List Int) (hl : l.length < 4611686018427387904) (d : Nat) : ∀ i : Nat, i + d = l.length → Ev (fun k => laws_eqIntS.l0 k l l (i : Int)) true := by
  induction d with
  | zero =>
    intro i hi
    refine Ev.stop fun k => ?_
    simp only [laws_eqIntS.l0]
    rw [if_neg (by omega)]
  | succ d ih =>
    intro i hi
    refine Ev.step (f := fun k => laws_eqIntS.l0 k l l ((i + 1 : Nat) : Int)) (fun k => ?_) (ih (i + 1) (by omega))
    simp only [laws_eqIntS.l0]
    rw [if_pos (by omega), if_pos (by omega), if_pos (by omega), if_pos trivial, w64_succ (by omega)]
theorem laws_eqIntS.ev (l : List Int) (hl : l.length < 4611686018427387904) : Ev (fun k => laws_eqIntS.f k l l) true := by
  refine Ev.congr (fun k => ?_) (laws_eqIntS.loop l hl l.length 0 (by omega))
  simp only [laws_eqIntS.f]
  rw [if_pos trivial]
  rfl
/-! ### laws_eqUint32S -/
theorem laws_eqUint32S.loop (l : List Int) (hl : l.length < 4611686018427387904) (d : Nat) : ∀ i : Nat, i + d = l.length → Ev (fun k => laws_eqUint32S.l0 k l l (i : Int)) true := by
  induction d with
  | zero =>
    intro i hi
    refine Ev.stop fun k => ?_
    simp only [laws_eqUint32S.l0]
    rw [if_neg (by omega)]
  | succ d ih =>
    intro i hi
    refine Ev.step (f := fun k => laws_eqUint32S.l0 k l l ((i + 1 : Nat) : Int)) (fun k => ?_) (ih (i + 1) (by omega))
    simp only [laws_eqUint32S.l0]
    rw [if_pos (by omega), if_pos (by omega), if_pos (by omega), if_pos trivial, w64_succ (by omega)]
theorem laws_eqUint32S.ev (l : List Int) (hl : l.length < 4611686018427387904) : Ev (fun k => laws_eqUint32S.f k l l) true := by
  refine Ev.congr (fun k => ?_) (laws_eqUint32S.loop l hl l.length 0 (by omega))
  simp only [laws_eqUint32S.f]
  rw [if_pos trivial]
  rfl
/-! ### laws_markIntS -/
theorem laws_markIntS.loop (m : Nat) (hm : m < 4294967296) (d : Nat) : ∀ (i : Nat) (l : List Int), l.length = m → i + d = m → (∀ j : Nat, j < i → rd l (j : Int) = (j : Int) + 1) →
    ∃ l' : List Int, l'.length = m ∧ (∀ j : Nat, j < m → rd l' (j : Int) = (j : Int) + 1) ∧ Ev (fun k => laws_markIntS.l0 k l ((i + 1 : Nat) : Int) (i : Int)) (((m + 1 : Nat) : Int), l') := by
  induction d with
  | zero =>
    intro i l hl hi hr
    obtain rfl : i = m := by omega
    refine ⟨l, hl, hr, Ev.stop fun k => ?_⟩
    simp only [laws_markIntS.l0]
    rw [if_neg (by omega)]
  | succ d ih =>
    intro i l hl hi hr
    obtain ⟨l', h1, h2, h3⟩ := ih (i + 1) (l.set i ((i + 1 : Nat) : Int)) (by simpa using hl) (by omega) (by
      intro j hj
      by_cases e : j = i
      · subst e
        rw [rd_set_self _ _ (by omega)]
        omega
      · rw [rd_set_ne _ _ (by omega)]
        exact hr j (by omega))
    refine ⟨l', h1, h2, Ev.step (f := fun k => laws_markIntS.l0 k (l.set i ((i + 1 : Nat) : Int)) ((i + 1 + 1 : Nat) : Int) ((i + 1 : Nat) : Int)) (fun k => ?_) h3⟩
    simp only [laws_markIntS.l0]
    rw [if_pos (by omega), if_pos (by omega), w64_succ (by omega), w64_succ (by omega), Int.toNat_natCast]
theorem laws_markIntS.ev (l : List Int) (hl : l.length < 4294967296) : ∃ l' : List Int, l'.length = l.length ∧ (∀ j : Nat, j < l.length → rd l' (j : Int) = (j : Int) + 1) ∧ Ev (fun k => laws_markIntS.f k l 1) (((l.length + 1 : Nat) : Int), l') :=
  laws_markIntS.loop l.length hl l.length 0 l rfl (by omega) (fun j hj => by omega)
theorem laws_markIntS.from_loop (m : Nat) (a : Nat) (ha : a + m < 4294967296) (d : Nat) : ∀ (i : Nat) (l : List Int), l.length = m → i + d = m → ∃ l' : List Int, Ev (fun k => laws_markIntS.l0 k l ((a + i : Nat) : Int) (i : Int)) (((a + m : Nat) : Int), l') := by
  induction d with
  | zero =>
    intro i l hl hi
    obtain rfl : i = m := by omega
    refine ⟨l, Ev.stop fun k => ?_⟩
    simp only [laws_markIntS.l0]
    rw [if_neg (by omega)]
  | succ d ih =>
    intro i l hl hi
    obtain ⟨l', h3⟩ := ih (i + 1) (l.set i ((a + i : Nat) : Int)) (by simpa using hl) (by omega)
    refine ⟨l', Ev.step (f := fun k => laws_markIntS.l0 k (l.set i ((a + i : Nat) : Int)) ((a + (i + 1) : Nat) : Int) ((i + 1 : Nat) : Int)) (fun k => ?_) h3⟩
    simp only [laws_markIntS.l0]
    rw [if_pos (by omega), if_pos (by omega), w64_succ (by omega), w64_succ (by omega), Int.toNat_natCast, Nat.add_assoc]
theorem laws_markIntS.from (l : List Int) (a : Nat) (ha : a + l.length < 4294967296) : ∃ l' : List Int, Ev (fun k => laws_markIntS.f k l (a : Int)) (((a + l.length : Nat) : Int), l') :=
  laws_markIntS.from_loop l.length a ha l.length 0 l rfl (by omega)
/-! ### laws_markUint32S -/
theorem laws_markUint32S.loop (m : Nat) (hm : m < 4294967296) (d : Nat) : ∀ (i : Nat) (l : List Int), l.length = m → i + d = m → (∀ j : Nat, j < i → rd l (j : Int) = (j : Int) + 1) →
    ∃ l' : List Int, l'.length = m ∧ (∀ j : Nat, j < m → rd l' (j : Int) = (j : Int) + 1) ∧ Ev (fun k => laws_markUint32S.l0 k l ((i + 1 : Nat) : Int) (i : Int)) (((m + 1 : Nat) : Int), l') := by
  induction d with
  | zero =>
    intro i l hl hi hr
    obtain rfl : i = m := by omega
    refine ⟨l, hl, hr, Ev.stop fun k => ?_⟩
    simp only [laws_markUint32S.l0]
    rw [if_neg (by omega)]
  | succ d ih =>
    intro i l hl hi hr
    obtain ⟨l', h1, h2, h3⟩ := ih (i + 1) (l.set i ((i + 1 : Nat) : Int)) (by simpa using hl) (by omega) (by
      intro j hj
      by_cases e : j = i
      · subst e
        rw [rd_set_self _ _ (by omega)]
        omega
      · rw [rd_set_ne _ _ (by omega)]
        exact hr j (by omega))
    refine ⟨l', h1, h2, Ev.step (f := fun k => laws_markUint32S.l0 k (l.set i ((i + 1 : Nat) : Int)) ((i + 1 + 1 : Nat) : Int) ((i + 1 : Nat) : Int)) (fun k => ?_) h3⟩
    simp only [laws_markUint32S.l0]
    rw [if_pos (by omega), if_pos (by omega), w64_succ (by omega), w64_succ (by omega), Int.toNat_natCast, Int.emod_eq_of_lt (by omega) (by omega)]
theorem laws_markUint32S.ev (l : List Int) (hl : l.length < 4294967296) : ∃ l' : List Int, l'.length = l.length ∧ (∀ j : Nat, j < l.length → rd l' (j : Int) = (j : Int) + 1) ∧ Ev (fun k => laws_markUint32S.f k l 1) (((l.length + 1 : Nat) : Int), l') :=
  laws_markUint32S.loop l.length hl l.length 0 l rfl (by omega) (fun j hj => by omega)
/-! ### laws_heldUint32S -/
theorem laws_heldUint32S.loop (l : List Int) (hm : l.length < 4294967296) (hr : ∀ j : Nat, j < l.length → rd l (j : Int) = (j : Int) + 1) (d : Nat) : ∀ (i : Nat), i + d = l.length →
    Ev (fun k => laws_heldUint32S.l0 k l ((i + 1 : Nat) : Int) (i : Int)) ((l.length + 1 : Nat) : Int) := by
  induction d with
  | zero =>
    intro i hi
    refine Ev.stop fun k => ?_
    simp only [laws_heldUint32S.l0]
    rw [if_neg (by omega), show i = l.length by omega]
  | succ d ih =>
    intro i hi
    refine Ev.step (f := fun k => laws_heldUint32S.l0 k l ((i + 1 + 1 : Nat) : Int) ((i + 1 : Nat) : Int)) (fun k => ?_) (ih (i + 1) (by omega))
    simp only [laws_heldUint32S.l0]
    rw [if_pos (by omega), if_pos (by omega), hr i (by omega), if_pos (by omega), w64_succ (by omega), w64_succ (by omega)]
theorem laws_heldUint32S.ev (l : List Int) (hl : l.length < 4294967296) (hr : ∀ j : Nat, j < l.length → rd l (j : Int) = (j : Int) + 1) : Ev (fun k => laws_heldUint32S.f k l 1) ((l.length + 1 : Nat) : Int) :=
  laws_heldUint32S.loop l hl hr l.length 0 (by omega)
/-! ### laws_FnExactGroups -/
theorem FnExactGroups : laws_FnExactGroups.Pure := by
  intro l a _ _ _ h0
  obtain ⟨n, rfl, hn⟩ := u32_nat h0
  by_cases hlen : (l.length : Int) > 1048576
  · exact ⟨0, by simp only [laws_FnExactGroups.f]; rw [if_pos hlen]⟩
  · have hs := spec_Groups.ev l n hn
    have hi := impl_Groups.ev l n
    have hg : (if l.length = 8 ∧ n < 256 then gps l 32 n else []).length ≤ 32 := by
      split
      · exact gps_len l 32 n
      · simp
    generalize (if l.length = 8 ∧ n < 256 then gps l 32 n else []) = g at hs hi hg
    obtain ⟨l', hl', hr, hm⟩ := laws_markUint32S.ev g (by omega)
    obtain ⟨x', _, _, hx⟩ := laws_markIntS.ev l (by omega)
    have hh := laws_heldUint32S.ev l' (by omega) (by rw [hl']; exact hr)
    rw [hl'] at hh
    have hneg : ¬ ((g.length + 1 : Nat) : Int) < 0 := by omega
    have hneg2 : ¬ ((l.length + 1 : Nat) : Int) < 0 := by omega
    obtain ⟨k, ⟨e1, e2, e3, e4, e5, e6, e7, e8⟩, ⟨f1, f2, f3, f4, f5, f6, f7, f8⟩⟩ := ((laws_toIntS.ev l (by omega)).and (hs.and (hi.and ((laws_eqUint32S.ev g (by omega)).and ((laws_eqIntS.ev l (by omega)).and (hx.and (hm.and hh.last))))))).two
    refine ⟨k + 1, ?_⟩
    simp only [laws_FnExactGroups.f, laws_FnExactGroups.j0, e1, e3, e4, e7, e8, f1, f2, f3, f4, f5, f6, Option.bind_some, if_true, if_neg hlen, if_neg hneg, if_neg hneg2, Bool.not_true, Bool.false_eq_true, if_false]

end Go.Proofs.YtklgbopdhomnaaaDoor.Pure
