/-
  The law FnLanes: what both programs compute, in plain Lean, and that it is the same.
  Conditions: none beyond those of the statement itself.
-/
import Derived.Test.YtklgbopdhomnaaaDoorPFnLanesx5
import Derived.Test.YtklgbopdhomnaaaDoorLib
namespace Go.Proofs.YtklgbopdhomnaaaDoor.Pure
open Go.RowKit Go.Proofs.YtklgbopdhomnaaaDoor.PFnLanes Go.Proofs.YtklgbopdhomnaaaDoorW.PrintWords Go.Proofs.YtklgbopdhomnaaaDoorW.PrintLast

/-! ### laws_big -/
theorem laws_big.eq (l : List Int) : laws_big.f l = some (decide (l.length > 1048576)) := by
  unfold laws_big.f
  congr 1
  exact decide_eq_decide.2 (by omega)
/-! ### bits_TrailingZeros32 -/
theorem bits_TrailingZeros32.eq (n : Nat) (hn : n < 2 ^ 32) : bits_TrailingZeros32.f (n : Int) = some ((Go.Lib.ctz 32 n : Nat) : Int) := by
  unfold bits_TrailingZeros32.f
  rw [if_pos (by omega), Int.toNat_natCast]
/-! ### impl_Lowest -/
theorem impl_Lowest.eq (n : Nat) (hn : n < 2 ^ 32) : impl_Lowest.f (n : Int) = some (low n) := by
  unfold impl_Lowest.f low
  by_cases h : n = 0
  · rw [if_pos (by omega), if_pos h]
  · rw [if_neg (by omega), if_neg h, bits_TrailingZeros32.eq n hn, Option.bind_some]
/-! ### impl_isMask -/
theorem impl_isMask.eq (n : Nat) : impl_isMask.f (n : Int) = some (decide (n < 256)) := by
  unfold impl_isMask.f
  have : ((n : Int) < 256) ↔ n < 256 := by omega
  simp only [this]
/-! ### impl_Leader -/
theorem impl_Leader.eq (n : Nat) (hn : n < 2 ^ 32) : impl_Leader.f (n : Int) = some (if n < 256 then low n else -1) := by
  unfold impl_Leader.f
  rw [impl_isMask.eq, Option.bind_some, impl_Lowest.eq n hn, Option.bind_some]
  by_cases h : n < 256
  · rw [if_pos (by simpa using h), if_pos h]
  · rw [if_neg (by simpa using h), if_neg h]
/-! ### spec_l01Open -/
theorem spec_l01Open.ok (l : List Int) (hl : l.length ≤ 1048576) (hb : ∀ x ∈ l, (Lit.int .u8 x).wf = true) : ∃ s : Int, spec_l01Open.f l = some (l, 0, s) ∧ CurOk l 0 s 0 :=
  ⟨_, rfl, fun x hx => bounds_u8 (hb x hx), hl, by omega, by omega, by omega, by omega⟩
/-! ### spec_l01Cur_pick -/
theorem spec_l01Cur_pick.ok {l : List Int} {a s : Int} {N : Nat} (h : CurOk l a s N) (hN : N ≤ 1000000000) (n : Int) (hn : n ≤ 4294967296) : ∃ v a' s' : Int, spec_l01Cur_pick.f l a s n = some (v, a', s') ∧ CurOk l a' s' (N + 1) ∧ 0 ≤ v ∧ (v = 0 ∨ v < n) := by
  obtain ⟨hb, hl, ha0, ha1, hs0, hs1⟩ := h
  unfold spec_l01Cur_pick.f
  by_cases h2 : n < 2
  · rw [if_pos h2]
    exact ⟨0, a, s, rfl, ⟨hb, hl, ha0, by omega, hs0, hs1⟩, by omega, .inl rfl⟩
  · rw [if_neg h2]
    by_cases h3 : a < (l.length : Int)
    · have hr := rd_all hb ha0 h3
      have ht := tmod_range (x := wrap64 (rd l a)) (m := n) (by rw [w64 (by omega) (by omega)]; omega) (by omega)
      rw [if_pos h3, if_pos ha0, if_neg (by omega)]
      refine ⟨_, _, _, rfl, ⟨hb, hl, ?_, ?_, hs0, hs1⟩, ht.1, .inr ht.2⟩
      · rw [w64 (by omega) (by omega)]; omega
      · rw [w64 (by omega) (by omega)]; omega
    · rw [if_neg h3]
      have hsd := seed_next hs0 hs1
      by_cases h4 : (l.length : Int) > 0
      · have hi := tmod_range (x := a) (m := (l.length : Int)) ha0 h4
        have hr := rd_all hb hi.1 hi.2
        rw [if_pos h4, if_neg (by omega), if_pos hi.1, if_pos hi.2, if_neg (by omega)]
        generalize Int.tmod (wrap64 ((wrap64 (s * 1103)) + 12345)) 65521 = s2 at hsd ⊢
        generalize rd l (Int.tmod a (l.length : Int)) = x at hr ⊢
        have e : wrap64 ((wrap64 (Int.tdiv s2 7)) + (wrap64 x)) = s2 / 7 + x := by
          rw [Int.tdiv_eq_ediv_of_nonneg hsd.1, w64 (x := s2 / 7) (by omega) (by omega), w64 (x := x) (by omega) (by omega), w64 (by omega) (by omega)]
        have ht := tmod_range (x := wrap64 ((wrap64 (Int.tdiv s2 7)) + (wrap64 x))) (m := n) (by rw [e]; omega) (by omega)
        refine ⟨_, _, _, rfl, ⟨hb, hl, ?_, ?_, hsd.1, hsd.2⟩, ht.1, .inr ht.2⟩
        · rw [w64 (by omega) (by omega)]; omega
        · rw [w64 (by omega) (by omega)]; omega
      · rw [if_neg h4, if_neg (by omega)]
        refine ⟨_, _, _, rfl, ⟨hb, hl, ?_, ?_, hsd.1, hsd.2⟩, ?_, .inl ?_⟩
        · rw [w64 (by omega) (by omega)]; omega
        · rw [w64 (by omega) (by omega)]; omega
        · simp
        · simp
/-! ### spec_l01Cur_once -/
theorem spec_l01Cur_once.ok {l : List Int} {a s : Int} {N : Nat} (h : CurOk l a s N) (hN : N ≤ 100000000) (n : Int) (hn : n ≤ 4294967296) : ∃ (b : Bool) (a' s' : Int), spec_l01Cur_once.f l a s n = some (b, a', s') ∧ CurOk l a' s' (N + 1) := by
  obtain ⟨v, a1, s1, e1, c1, _, _⟩ := spec_l01Cur_pick.ok h (by omega) n hn
  exact ⟨v == wrap64 (n - 1), a1, s1, by simp only [spec_l01Cur_once.f, e1, Option.bind_some], c1⟩
/-! ### spec_l01Cur_wide -/
theorem spec_l01Cur_wide.ok {l : List Int} {a s : Int} {N : Nat} (h : CurOk l a s N) (hN : N ≤ 100000000) (n : Int) (hn0 : 0 < n) : ∃ v a' s' : Int, spec_l01Cur_wide.f l a s n = some (v, a', s') ∧ CurOk l a' s' (N + 3) ∧ 0 ≤ v ∧ v < n := by
  obtain ⟨v1, a1, s1, e1, c1, h1, g1⟩ := spec_l01Cur_pick.ok h (by omega) 256 (by omega)
  obtain ⟨v2, a2, s2, e2, c2, h2, g2⟩ := spec_l01Cur_pick.ok c1 (by omega) 256 (by omega)
  obtain ⟨v3, a3, s3, e3, c3, h3, g3⟩ := spec_l01Cur_pick.ok c2 (by omega) 256 (by omega)
  have e : wrap64 ((wrap64 ((wrap64 (65536 * v1)) + (wrap64 (256 * v2)))) + v3) = 65536 * v1 + 256 * v2 + v3 := by
    rw [w64 (x := 65536 * v1) (by omega) (by omega), w64 (x := 256 * v2) (by omega) (by omega), w64 (x := 65536 * v1 + 256 * v2) (by omega) (by omega), w64 (by omega) (by omega)]
  have ht := tmod_range (x := 65536 * v1 + 256 * v2 + v3) (m := n) (by omega) hn0
  refine ⟨_, _, _, ?_, c3, ht.1, ht.2⟩
  simp only [spec_l01Cur_wide.f, e1, e2, e3, Option.bind_some, e]
  rw [if_neg (by omega)]
/-! ### spec_l01Cur_word -/
theorem spec_l01Cur_word.ok {l : List Int} {a s : Int} {N : Nat} (h : CurOk l a s N) (hN : N ≤ 10000000) : ∃ v a' s' : Int, spec_l01Cur_word.f l a s = some (v, a', s') ∧ CurOk l a' s' (N + 5) ∧ U32 v := by
  obtain ⟨v1, a1, s1, e1, c1, h1, g1⟩ := spec_l01Cur_pick.ok h (by omega) 256 (by omega)
  obtain ⟨v2, a2, s2, e2, c2, h2, g2⟩ := spec_l01Cur_wide.ok c1 (by omega) 16777216 (by omega)
  obtain ⟨v3, a3, s3, e3, c3, h3, g3⟩ := spec_l01Cur_pick.ok c2 (by omega) 7 (by omega)
  simp only [spec_l01Cur_word.f, e1, e2, e3, Option.bind_some, List.length_cons, List.length_nil]
  rw [if_pos h3, if_pos (by omega)]
  refine ⟨_, _, _, rfl, c3.more (by omega), rd_all (P := U32) ?_ h3 (by simp only [List.length_cons, List.length_nil]; omega)⟩
  intro x hx
  unfold U32
  simp only [List.mem_cons, List.not_mem_nil, or_false] at hx
  omega
/-! ### spec_l01Cur_mask -/
theorem spec_l01Cur_mask.ok {l : List Int} {a s : Int} {N : Nat} (h : CurOk l a s N) (hN : N ≤ 900000) : ∃ (n : Nat) (a' s' : Int), spec_l01Cur_mask.f l a s = some ((n : Int), a', s') ∧ CurOk l a' s' (N + 6) ∧ n < 2 ^ 32 := by
  obtain ⟨b, a1, s1, e1, c1⟩ := spec_l01Cur_once.ok h (by omega) 12 (by omega)
  by_cases hb : b = true
  · obtain ⟨v2, a2, s2, e2, c2, h2⟩ := spec_l01Cur_word.ok c1 (by omega)
    obtain ⟨n, rfl, hn⟩ := u32_of h2
    exact ⟨n, a2, s2, by simp only [spec_l01Cur_mask.f, e1, e2, Option.bind_some, if_pos hb], c2.more (by omega), hn⟩
  · obtain ⟨v2, a2, s2, e2, c2, h2, g2⟩ := spec_l01Cur_pick.ok c1 (by omega) 256 (by omega)
    obtain ⟨n, rfl⟩ : ∃ n : Nat, v2 = n := ⟨v2.toNat, by omega⟩
    have e : (n : Int) % 4294967296 = n := by omega
    exact ⟨n, a2, s2, by simp only [spec_l01Cur_mask.f, e1, e2, Option.bind_some, if_neg hb, e], c2.more (by omega), by omega⟩
/-! ### spec_l01Cur_raw -/
theorem spec_l01Cur_raw.ok {l : List Int} {a s : Int} {N : Nat} (h : CurOk l a s N) (hN : N ≤ 100000000) : ∃ v a' s' : Int, spec_l01Cur_raw.f l a s = some (v, a', s') ∧ CurOk l a' s' (N + 2) ∧ I64 v := by
  obtain ⟨v, a1, s1, e1, c1, _, _⟩ := spec_l01Cur_pick.ok h (by omega) 8 (by omega)
  unfold spec_l01Cur_raw.f
  rw [e1, Option.bind_some]
  by_cases h0 : v = 0
  · obtain ⟨v2, a2, s2, e2, c2, h3, h4⟩ := spec_l01Cur_pick.ok c1 (by omega) 256 (by omega)
    simp only [if_pos h0, e2, Option.bind_some]
    refine ⟨_, _, _, rfl, c2, ?_⟩
    rw [w64 (by omega) (by omega)]
    exact ⟨by omega, by omega⟩
  · by_cases h1 : v = 1
    · obtain ⟨v2, a2, s2, e2, c2, h3, h4⟩ := spec_l01Cur_pick.ok c1 (by omega) 8 (by omega)
      simp only [if_neg h0, if_pos h1, e2, Option.bind_some, List.length_cons, List.length_nil]
      rw [if_pos h3, if_pos (by omega)]
      refine ⟨_, _, _, rfl, c2, rd_all (P := I64) ?_ h3 (by simp only [List.length_cons, List.length_nil]; omega)⟩
      intro x hx
      simp only [List.mem_cons, List.not_mem_nil, or_false] at hx
      unfold I64
      omega
    · obtain ⟨v2, a2, s2, e2, c2, h3, h4⟩ := spec_l01Cur_pick.ok c1 (by omega) 14 (by omega)
      simp only [if_neg h0, if_neg h1, e2, Option.bind_some]
      refine ⟨_, _, _, rfl, c2, ?_⟩
      rw [w64 (by omega) (by omega)]
      exact ⟨by omega, by omega⟩
/-! ### spec_DrawNthLane -/
theorem spec_DrawNthLane.ok (l : List Int) (hl : l.length ≤ 1048576) (hb : ∀ x ∈ l, (Lit.int .u8 x).wf = true) : ∃ (n : Nat) (m : Int), spec_DrawNthLane.f l = some ((n : Int), m) ∧ n < 2 ^ 32 ∧ I64 m := by
  obtain ⟨s0, e0, c0⟩ := spec_l01Open.ok l hl hb
  obtain ⟨n, a1, s1, e1, c1, hn⟩ := spec_l01Cur_mask.ok c0 (by omega)
  obtain ⟨v2, a2, s2, e2, c2, h2, g2⟩ := spec_l01Cur_pick.ok c1 (by omega) 9 (by omega)
  obtain ⟨v3, a3, s3, e3, c3, h3⟩ := spec_l01Cur_raw.ok c2 (by omega)
  obtain ⟨v4, a4, s4, e4, c4, h4, g4⟩ := spec_l01Cur_pick.ok c3 (by omega) 2 (by omega)
  refine ⟨n, rd [v2, v3] v4, ?_, hn, rd_all (P := I64) ?_ h4 (by simp only [List.length_cons, List.length_nil]; omega)⟩
  · simp only [spec_DrawNthLane.f, e0, e1, e2, e3, e4, Option.bind_some, List.length_cons, List.length_nil]
    rw [if_pos h4, if_pos (by omega)]
  · intro x hx
    unfold I64 at h3 ⊢
    simp only [List.mem_cons, List.not_mem_nil, or_false] at hx
    omega
/-! ### impl_BitList -/
theorem impl_BitList.loop (n : Nat) (hn : n < 2 ^ 32) (d : Nat) : ∀ i : Nat, i + d = 32 → Ev (fun k => impl_BitList.l0 k (n : Int) (blp n.testBit i) (i : Int)) (blp n.testBit 32) := by
  induction d with
  | zero =>
    intro i hi
    obtain rfl : i = 32 := by omega
    refine Ev.stop fun k => ?_
    simp only [impl_BitList.l0]
    rw [if_neg (by omega)]
  | succ d ih =>
    intro i hi
    refine Ev.step (f := fun k => impl_BitList.l0 k (n : Int) (blp n.testBit (i + 1)) ((i + 1 : Nat) : Int)) (fun k => ?_) (ih (i + 1) (by omega))
    have hlen := blp_len_le n.testBit i
    simp only [impl_BitList.l0]
    rw [if_pos (by omega), if_pos (by omega), bit_at hn (by omega : i ≤ 32), w64_succ (by omega)]
    by_cases hp : n.testBit i = true
    · rw [if_pos hp, if_pos rfl, if_pos (by omega)]
      simp only [blp, if_pos hp]
    · rw [if_neg hp, if_neg (by decide)]
      simp only [blp, if_neg hp, List.append_nil]
theorem impl_BitList.ev (n : Nat) (hn : n < 2 ^ 32) : Ev (fun k => impl_BitList.f k (n : Int)) (blp n.testBit 32) :=
  Ev.congr (fun _ => rfl) (impl_BitList.loop n hn 32 0 rfl)
/-! ### impl_within -/
theorem impl_within.eq (a lo hi : Int) : impl_within.f a lo hi = some (decide (lo ≤ a ∧ a ≤ hi)) := by
  unfold impl_within.f
  split
  · rename_i h
    have : lo ≤ a := h
    simp [this]
  · rename_i h
    have : ¬ lo ≤ a := h
    simp [this]
/-! ### impl_NthLane -/
theorem impl_NthLane.ev (n : Nat) (hn : n < 2 ^ 32) (a : Int) : Ev (fun k => impl_NthLane.f k (n : Int) a) (nth n a) := by
  refine Ev.congr (fun _ => rfl) (Ev.bind (f := fun _ t => (impl_isMask.f (n : Int)).bind fun u => if u = true then ((impl_within.f a 0 (wrap64 ((t.length : Int) - 1))).bind fun v => if v = true then (if 0 ≤ a then if a < (t.length : Int) then some (rd t a) else none else none) else some (-1)) else some (-1)) (impl_BitList.ev n hn) (Ev.const ?_))
  have hlen := blp_len_le n.testBit 32
  rw [impl_isMask.eq, Option.bind_some, w64 (by omega) (by omega), impl_within.eq, Option.bind_some]
  unfold nth
  by_cases h1 : n < 256
  · rw [if_pos (by simpa using h1)]
    by_cases h2 : 0 ≤ a ∧ a < ((blp n.testBit 32).length : Int)
    · rw [if_pos (by simp; omega), if_pos h2.1, if_pos h2.2, if_pos ⟨h1, h2.1, h2.2⟩]
    · rw [if_neg (by simp; omega), if_neg (fun h => h2 h.2)]
  · rw [if_neg (by simpa using h1), if_neg (fun h => h1 h.1)]
/-! ### spec_l01Bits -/
theorem spec_l01Bits.loop (n : Nat) (hn : n < 2 ^ 32) (d : Nat) : ∀ i : Nat, i + d = 32 → Ev (fun k => spec_l01Bits.l0 k ((n / 2 ^ i : Nat) : Int) (btl n.testBit i) (i : Int)) (btl n.testBit 32) := by
  induction d with
  | zero =>
    intro i hi
    obtain rfl : i = 32 := by omega
    refine Ev.stop fun k => ?_
    simp only [spec_l01Bits.l0]
    rw [if_neg (by omega)]
  | succ d ih =>
    intro i hi
    refine Ev.step (f := fun k => spec_l01Bits.l0 k ((n / 2 ^ (i + 1) : Nat) : Int) (btl n.testBit (i + 1)) ((i + 1 : Nat) : Int)) (fun k => ?_) (ih (i + 1) (by omega))
    have hlen := btl_len n.testBit i
    have hlt := div_lt hn i
    have e1 : Int.tdiv ((n / 2 ^ i : Nat) : Int) 2 % 4294967296 = ((n / 2 ^ (i + 1) : Nat) : Int) := by
      rw [Int.tdiv_eq_ediv_of_nonneg (Int.natCast_nonneg _), Nat.pow_succ, ← Nat.div_div_eq_div_mul]
      generalize n / 2 ^ i = y at hlt ⊢
      omega
    have e2 : wrap64 (Int.tmod ((n / 2 ^ i : Nat) : Int) 2) = if n.testBit i = true then 1 else 0 := by
      rw [Int.tmod_eq_emod_of_nonneg (Int.natCast_nonneg _), Nat.testBit_eq_decide_div_mod_eq]
      have h := Nat.mod_two_eq_zero_or_one (n / 2 ^ i)
      have h2 : ((n / 2 ^ i : Nat) : Int) % 2 = ((n / 2 ^ i % 2 : Nat) : Int) := (Int.natCast_emod _ _).symm
      rw [h2]
      rcases h with h | h
      · rw [h]; exact wrap64_0
      · rw [h]; exact wrap64_1
    simp only [spec_l01Bits.l0]
    rw [if_pos (by omega), if_pos (by omega), w64_succ (by omega), e1, e2, btl_succ]
theorem spec_l01Bits.ev (n : Nat) (hn : n < 2 ^ 32) : Ev (fun k => spec_l01Bits.f k (n : Int)) (btl n.testBit 32) := by
  have h := spec_l01Bits.loop n hn 32 0 rfl
  rw [Nat.pow_zero, Nat.div_one] at h
  exact Ev.congr (fun _ => rfl) h
/-! ### spec_BitList -/
theorem spec_BitList.loop (p : Nat → Bool) (d : Nat) : ∀ i : Nat, i + d = 32 → Ev (fun k => spec_BitList.l0 k (blp p i) (btl p 32) (i : Int)) (blp p 32) := by
  induction d with
  | zero =>
    intro i hi
    obtain rfl : i = 32 := by omega
    refine Ev.stop fun k => ?_
    simp only [spec_BitList.l0]
    rw [if_neg (by omega)]
  | succ d ih =>
    intro i hi
    refine Ev.step (f := fun k => spec_BitList.l0 k (blp p (i + 1)) (btl p 32) ((i + 1 : Nat) : Int)) (fun k => ?_) (ih (i + 1) (by omega))
    have hlen := blp_len_le p i
    have hlen2 := btl_len p 32
    simp only [spec_BitList.l0]
    rw [if_pos (by omega), if_pos (by omega), if_pos (by omega), btl_rd p (by omega : i < 32), w64_succ (by omega)]
    by_cases hp : p i = true
    · rw [if_pos hp, if_pos rfl, if_pos (by omega)]
      simp only [blp, if_pos hp]
    · rw [if_neg hp, if_neg (by decide)]
      simp only [blp, if_neg hp, List.append_nil]
theorem spec_BitList.ev (n : Nat) (hn : n < 2 ^ 32) : Ev (fun k => spec_BitList.f k (n : Int)) (blp n.testBit 32) :=
  Ev.bind (spec_l01Bits.ev n hn) (spec_BitList.loop n.testBit 32 0 rfl)
/-! ### spec_Highest -/
theorem spec_Highest.ev (n : Nat) (hn : n < 2 ^ 32) : Ev (fun k => spec_Highest.f k (n : Int)) (top n.testBit 32) := by
  have hlen := blp_len_le n.testBit 32
  refine Ev.congr (fun _ => rfl) (Ev.bind (spec_BitList.ev n hn) ?_)
  by_cases h : (blp n.testBit 32).length = 0
  · rw [blp_empty _ _ h]
    refine Ev.const ?_
    rw [if_pos (by omega)]
  · obtain ⟨h1, _⟩ := blp_last n.testBit 32 h
    refine Ev.const ?_
    rw [if_neg (by omega), w64 (by omega) (by omega), if_pos (by omega), if_pos (by omega), h1]
/-! ### spec_l03Mask -/
theorem spec_l03Mask.ev (n : Nat) (hn : n < 2 ^ 32) : Ev (fun k => spec_l03Mask.f k (n : Int)) (decide (n < 256)) := by
  have h : Ev (fun k => spec_l03Mask.f k (n : Int)) (decide (top n.testBit 32 < 8)) := Ev.bind (f := fun _ (t : Int) => some (decide (t < 8))) (spec_Highest.ev n hn) (Ev.now _)
  have e : decide (top n.testBit 32 < 8) = decide (n < 256) := decide_eq_decide.2 (top_mask hn)
  rw [e] at h
  exact h
/-! ### spec_NthLane -/
theorem spec_NthLane.ev (n : Nat) (hn : n < 2 ^ 32) (a : Int) : Ev (fun k => spec_NthLane.f k (n : Int) a) (nth n a) := by
  refine Ev.congr (fun _ => rfl) (Ev.bind (f := fun k t => (spec_l03Mask.f k (n : Int)).bind fun u => if u = true then (if a < 0 then some (-1) else if a ≥ (t.length : Int) then some (-1) else if 0 ≤ a then if a < (t.length : Int) then some (rd t a) else none else none) else some (-1)) (spec_BitList.ev n hn)
    (Ev.bind (f := fun _ (u : Bool) => if u = true then (if a < 0 then some (-1) else if a ≥ ((blp n.testBit 32).length : Int) then some (-1) else if 0 ≤ a then if a < ((blp n.testBit 32).length : Int) then some (rd (blp n.testBit 32) a) else none else none) else some (-1)) (spec_l03Mask.ev n hn) (Ev.const ?_)))
  unfold nth
  by_cases h1 : n < 256
  · rw [if_pos (by simpa using h1)]
    by_cases h2 : a < 0
    · rw [if_pos h2, if_neg (by omega)]
    · by_cases h3 : a ≥ ((blp n.testBit 32).length : Int)
      · rw [if_neg h2, if_pos h3, if_neg (by omega)]
      · rw [if_neg h2, if_neg h3, if_pos (by omega), if_pos (by omega), if_pos ⟨h1, by omega, by omega⟩]
  · rw [if_neg (by simpa using h1), if_neg (fun h => h1 h.1)]
/-! ### bits_OnesCount32 -/
theorem bits_OnesCount32.tab (c : Nat) (hc : c < 256) : bt (⟨#[0, 1, 1, 2, 1, 2, 2, 3, 1, 2, 2, 3, 2, 3, 3, 4, 1, 2, 2, 3, 2, 3, 3, 4, 2, 3, 3, 4, 3, 4, 4, 5, 1, 2, 2, 3, 2, 3, 3, 4, 2, 3, 3, 4, 3, 4, 4, 5, 2, 3, 3, 4, 3, 4, 4, 5, 3, 4, 4, 5, 4, 5, 5, 6, 1, 2, 2, 3, 2, 3, 3, 4, 2, 3, 3, 4, 3, 4, 4, 5, 2, 3, 3, 4, 3, 4, 4, 5, 3, 4, 4, 5, 4, 5, 5, 6, 2, 3, 3, 4, 3, 4, 4, 5, 3, 4, 4, 5, 4, 5, 5, 6, 3, 4, 4, 5, 4, 5, 5, 6, 4, 5, 5, 6, 5, 6, 6, 7, 1, 2, 2, 3, 2, 3, 3, 4, 2, 3, 3, 4, 3, 4, 4, 5, 2, 3, 3, 4, 3, 4, 4, 5, 3, 4, 4, 5, 4, 5, 5, 6, 2, 3, 3, 4, 3, 4, 4, 5, 3, 4, 4, 5, 4, 5, 5, 6, 3, 4, 4, 5, 4, 5, 5, 6, 4, 5, 5, 6, 5, 6, 6, 7, 2, 3, 3, 4, 3, 4, 4, 5, 3, 4, 4, 5, 4, 5, 5, 6, 3, 4, 4, 5, 4, 5, 5, 6, 4, 5, 5, 6, 5, 6, 6, 7, 3, 4, 4, 5, 4, 5, 5, 6, 4, 5, 5, 6, 5, 6, 6, 7, 4, 5, 5, 6, 5, 6, 6, 7, 5, 6, 6, 7, 6, 7, 7, 8]⟩ : ByteArray) (c : Int) = ((cnt c.testBit 8 : Nat) : Int) := by
  have h : ∀ c : Fin 256, bt (⟨#[0, 1, 1, 2, 1, 2, 2, 3, 1, 2, 2, 3, 2, 3, 3, 4, 1, 2, 2, 3, 2, 3, 3, 4, 2, 3, 3, 4, 3, 4, 4, 5, 1, 2, 2, 3, 2, 3, 3, 4, 2, 3, 3, 4, 3, 4, 4, 5, 2, 3, 3, 4, 3, 4, 4, 5, 3, 4, 4, 5, 4, 5, 5, 6, 1, 2, 2, 3, 2, 3, 3, 4, 2, 3, 3, 4, 3, 4, 4, 5, 2, 3, 3, 4, 3, 4, 4, 5, 3, 4, 4, 5, 4, 5, 5, 6, 2, 3, 3, 4, 3, 4, 4, 5, 3, 4, 4, 5, 4, 5, 5, 6, 3, 4, 4, 5, 4, 5, 5, 6, 4, 5, 5, 6, 5, 6, 6, 7, 1, 2, 2, 3, 2, 3, 3, 4, 2, 3, 3, 4, 3, 4, 4, 5, 2, 3, 3, 4, 3, 4, 4, 5, 3, 4, 4, 5, 4, 5, 5, 6, 2, 3, 3, 4, 3, 4, 4, 5, 3, 4, 4, 5, 4, 5, 5, 6, 3, 4, 4, 5, 4, 5, 5, 6, 4, 5, 5, 6, 5, 6, 6, 7, 2, 3, 3, 4, 3, 4, 4, 5, 3, 4, 4, 5, 4, 5, 5, 6, 3, 4, 4, 5, 4, 5, 5, 6, 4, 5, 5, 6, 5, 6, 6, 7, 3, 4, 4, 5, 4, 5, 5, 6, 4, 5, 5, 6, 5, 6, 6, 7, 4, 5, 5, 6, 5, 6, 6, 7, 5, 6, 6, 7, 6, 7, 7, 8]⟩ : ByteArray) (c.val : Int) = ((cnt c.val.testBit 8 : Nat) : Int) := by decide +kernel
  exact h ⟨c, hc⟩
theorem bits_OnesCount32.eq (n : Nat) (hn : n < 2 ^ 32) : bits_OnesCount32.f (n : Int) = some ((cnt n.testBit 32 : Nat) : Int) := by
  unfold bits_OnesCount32.f
  have a0 : ((n : Int) / 16777216) = ((n / 16777216 % 256 : Nat) : Int) := by omega
  have a1 : Go.bits .and .u32 ((n : Int) / 65536) 255 = ((n / 65536 % 256 : Nat) : Int) := by rw [and255 (by omega) (by omega)]; omega
  have a2 : Go.bits .and .u32 ((n : Int) / 256) 255 = ((n / 256 % 256 : Nat) : Int) := by rw [and255 (by omega) (by omega)]; omega
  have a3 : Go.bits .and .u32 (n : Int) 255 = ((n % 256 : Nat) : Int) := by rw [and255 (by omega) (by omega)]; omega
  rw [a0, a1, a2, a3]
  rw [if_pos (by omega), if_pos (by omega), if_pos (by omega), if_pos (by omega), if_pos (by omega), if_pos (by omega), if_pos (by omega), if_pos (by omega)]
  rw [bits_OnesCount32.tab _ (Nat.mod_lt _ (by decide)), bits_OnesCount32.tab _ (Nat.mod_lt _ (by decide)), bits_OnesCount32.tab _ (Nat.mod_lt _ (by decide)), bits_OnesCount32.tab _ (Nat.mod_lt _ (by decide))]
  have b0 := cnt_le (n / 16777216 % 256).testBit 8
  have b1 := cnt_le (n / 65536 % 256).testBit 8
  have b2 := cnt_le (n / 256 % 256).testBit 8
  have b3 := cnt_le (n % 256).testBit 8
  rw [@cnt_bytes n]
  congr 1
  omega
/-! ### impl_Ones -/
theorem impl_Ones.eq (n : Nat) (hn : n < 2 ^ 32) : impl_Ones.f (n : Int) = some ((cnt n.testBit 32 : Nat) : Int) := by
  unfold impl_Ones.f
  rw [bits_OnesCount32.eq n hn, Option.bind_some]
/-! ### impl_hasLane -/
theorem impl_hasLane.eq (n : Nat) (hn : n < 2 ^ 32) (a : Int) : impl_hasLane.f (n : Int) a = some (decide (0 ≤ a ∧ a < 8 ∧ n.testBit a.toNat = true)) := by
  unfold impl_hasLane.f
  rw [impl_within.eq, Option.bind_some]
  by_cases h : 0 ≤ a ∧ a ≤ 7
  · obtain ⟨c, rfl⟩ : ∃ c : Nat, a = c := ⟨a.toNat, by omega⟩
    rw [if_pos (by simpa using h), if_pos h.1, bit_at hn (by omega), Int.toNat_natCast]
    have h8 : (c : Int) < 8 := by omega
    by_cases hb : n.testBit c = true
    · rw [if_pos hb, decide_eq_true ⟨h.1, h8, hb⟩]; rfl
    · rw [if_neg hb, decide_eq_false (fun h3 => hb h3.2.2)]; rfl
  · rw [if_neg (by simpa using h), decide_eq_false (fun h3 => h ⟨h3.1, by omega⟩)]
/-! ### impl_MaskOf -/
theorem impl_MaskOf.eq (a : Int) : impl_MaskOf.f a = some ((wd (fun j => decide ((j : Int) < a ∧ a ≤ 32)) 32 : Nat) : Int) := by
  unfold impl_MaskOf.f
  rw [impl_within.eq, Option.bind_some]
  by_cases h : 0 ≤ a ∧ a ≤ 32
  · rw [if_pos (by simpa using h), if_pos h.1]
    obtain ⟨m, rfl⟩ : ∃ m : Nat, a = m := ⟨a.toNat, by omega⟩
    have e : wd (fun j => decide ((j : Int) < (m : Int) ∧ (m : Int) ≤ 32)) 32 = 2 ^ m - 1 := by
      rw [← wd_mask (by omega : m ≤ 32)]
      exact wd_congr fun i _ => decide_eq_decide.2 (by omega)
    rw [e]
    have hq : 0 < (2 : Nat) ^ m := Nat.two_pow_pos m
    by_cases h2 : m = 32
    · subst h2; rfl
    · have hp := two_pow_lt (i := m) (by omega)
      rw [shl_one (by omega : m < 32)]
      congr 1
      omega
  · rw [if_neg (by simpa using h)]
    have e : wd (fun j => decide ((j : Int) < a ∧ a ≤ 32)) 32 = 0 := by
      refine (wd_congr fun i _ => ?_).trans (wd_false 32)
      have : ¬ ((i : Int) < a ∧ a ≤ 32) := by omega
      simp only [this, decide_false]
    rw [e]
    rfl
/-! ### impl_RankOf -/
theorem impl_RankOf.ev (n : Nat) (hn : n < 2 ^ 32) (a : Int) : Ev (fun k => impl_RankOf.f k (n : Int) a) (rk n a) := by
  unfold rk
  by_cases h : n < 256
  · refine Ev.congr (f := fun k => impl_RankOf.j0 k (n : Int) a (!decide (0 ≤ a ∧ a < 8 ∧ n.testBit a.toNat = true))) (fun k => ?_) (Ev.stop fun k => ?_)
    · simp only [impl_RankOf.f]
      rw [impl_isMask.eq, Option.bind_some, if_pos (by simpa using h), impl_hasLane.eq n hn, Option.bind_some]
    · simp only [impl_RankOf.j0]
      by_cases h2 : 0 ≤ a ∧ a < 8 ∧ n.testBit a.toNat = true
      · rw [decide_eq_true h2, if_neg (by decide), if_pos ⟨h, h2.1, by omega, h2.2.2⟩, impl_MaskOf.eq, Option.bind_some, and_nat hn (wd_lt32 _), impl_Ones.eq _ (Nat.and_lt_two_pow _ (wd_lt32 _)), Option.bind_some]
        have e : cnt (n &&& wd (fun j => decide ((j : Int) < a ∧ a ≤ 32)) 32).testBit 32 = cnt n.testBit a.toNat := by
          rw [← cnt_below n.testBit a.toNat 32 (by omega)]
          refine cnt_congr fun i hi => ?_
          rw [Nat.testBit_and, wd_bit, decide_eq_true hi, Bool.true_and]
          congr 1
          exact decide_eq_decide.2 (by omega)
        rw [e]
      · rw [decide_eq_false h2, if_pos (by decide), if_neg]
        intro h3
        by_cases h8 : a < 8
        · exact h2 ⟨h3.2.1, h8, h3.2.2.2⟩
        · have := mask_high h (j := a.toNat) (by omega)
          rw [this] at h3
          exact absurd h3.2.2.2 (by decide)
  · rw [if_neg (fun h3 => h h3.1)]
    refine Ev.congr (f := fun k => impl_RankOf.j0 k (n : Int) a true) (fun k => ?_) (Ev.stop fun k => ?_)
    · simp only [impl_RankOf.f]
      rw [impl_isMask.eq, Option.bind_some, if_neg (by simpa using h)]
    · simp only [impl_RankOf.j0]
      rw [if_pos trivial]
/-! ### spec_DrawBallot -/
theorem spec_DrawBallot.loop (l : List Int) (n : Int) (hn : n ≤ 100) (d : Nat) : ∀ (i : Nat) (acc : List Bool) (a s : Int) (N : Nat), CurOk l a s N → N + d ≤ 100000 → n.toNat ≤ i + d → acc.length + d ≤ 1000 → i ≤ 1000 → ∃ r : List Bool, Ev (fun k => spec_DrawBallot.l0 k acc n (i : Int) l a s) r ∧ r.length ≤ 1000 := by
  induction d with
  | zero =>
    intro i acc a s N _ _ hi ha _
    refine ⟨acc, Ev.stop fun k => ?_, by omega⟩
    simp only [spec_DrawBallot.l0]
    rw [if_neg (by omega)]
  | succ d ih =>
    intro i acc a s N h hN hi ha hi2
    by_cases hlt : (i : Int) < n
    · obtain ⟨b, a1, s1, e1, c1⟩ := spec_l01Cur_once.ok h (by omega) 2 (by omega)
      obtain ⟨r, hr, hl⟩ := ih (i + 1) (acc ++ [b]) a1 s1 (N + 1) c1 (by omega) (by omega) (by simp; omega) (by omega)
      refine ⟨r, Ev.step (f := fun k => spec_DrawBallot.l0 k (acc ++ [b]) n ((i + 1 : Nat) : Int) l a1 s1) (fun k => ?_) hr, hl⟩
      simp only [spec_DrawBallot.l0]
      rw [if_pos hlt, e1, Option.bind_some, if_pos (by omega), w64_succ (by omega)]
    · refine ⟨acc, Ev.stop fun k => ?_, by omega⟩
      simp only [spec_DrawBallot.l0]
      rw [if_neg hlt]
theorem spec_DrawBallot.ok (l : List Int) (hl : l.length ≤ 1048576) (hb : ∀ x ∈ l, (Lit.int .u8 x).wf = true) : ∃ r : List Bool, Ev (fun k => spec_DrawBallot.f k l) r ∧ r.length ≤ 1000 := by
  obtain ⟨s0, e0, c0⟩ := spec_l01Open.ok l hl hb
  obtain ⟨b, a1, s1, e1, c1⟩ := spec_l01Cur_once.ok c0 (by omega) 9 (by omega)
  by_cases hbt : b = true
  · obtain ⟨v2, a2, s2, e2, c2, h2, g2⟩ := spec_l01Cur_pick.ok c1 (by omega) 12 (by omega)
    obtain ⟨r, hr, hlr⟩ := spec_DrawBallot.loop l v2 (by omega) 12 0 [] a2 s2 (0 + 1 + 1) c2 (by omega) (by omega) (by simp) (by omega)
    refine ⟨r, ?_, hlr⟩
    refine Ev.congr (f := fun k => spec_DrawBallot.j0 k [] v2 l a2 s2) (fun k => ?_) (Ev.step (f := fun k => spec_DrawBallot.l0 k [] v2 0 l a2 s2) (fun k => rfl) hr)
    simp only [spec_DrawBallot.f, e0, e1, e2, Option.bind_some, if_pos hbt]
  · obtain ⟨r, hr, hlr⟩ := spec_DrawBallot.loop l 8 (by omega) 12 0 [] a1 s1 (0 + 1) c1 (by omega) (by decide) (by simp) (by omega)
    refine ⟨r, ?_, hlr⟩
    refine Ev.congr (f := fun k => spec_DrawBallot.j0 k [] 8 l a1 s1) (fun k => ?_) (Ev.step (f := fun k => spec_DrawBallot.l0 k [] 8 0 l a1 s1) (fun k => rfl) hr)
    simp only [spec_DrawBallot.f, e0, e1, Option.bind_some, if_neg hbt]
/-! ### impl_Ballot -/
theorem impl_Ballot.loop (l : List Bool) (hl : l.length = 8) (d : Nat) : ∀ i : Nat, i + d = 8 → Ev (fun k => impl_Ballot.l0 k ((wd (fun j => l.getD j false && decide (j < i)) 32 : Nat) : Int) l 8 (i : Int)) (((wd (fun j => l.getD j false && decide (j < 8)) 32 : Nat) : Int), true) := by
  induction d with
  | zero =>
    intro i hi
    obtain rfl : i = 8 := by omega
    refine Ev.stop fun k => ?_
    simp only [impl_Ballot.l0]
    rw [if_neg (by omega)]
  | succ d ih =>
    intro i hi
    refine Ev.step (f := fun k => impl_Ballot.l0 k ((wd (fun j => l.getD j false && decide (j < i + 1)) 32 : Nat) : Int) l 8 ((i + 1 : Nat) : Int)) (fun k => ?_) (ih (i + 1) (by omega))
    simp only [impl_Ballot.l0]
    rw [if_pos (by omega), if_pos (by omega), if_pos (by omega), rdOf_nat, w64_succ (by omega)]
    by_cases hp : l.getD i false = true
    · have e : wd (fun j => (l.getD j false && decide (j < i)) || j == i) 32 = wd (fun j => l.getD j false && decide (j < i + 1)) 32 := wd_congr fun j _ => by
        by_cases h1 : j = i
        · subst h1; simp only [hp]; simp
        · have h2 : (j < i + 1) ↔ j < i := by omega
          simp [h1, h2]
      rw [if_pos hp, shl_one (by omega), or_nat (wd_lt32 _) (two_pow_lt (by omega)), wd_or _ (by omega), e]
    · have e : wd (fun j => l.getD j false && decide (j < i)) 32 = wd (fun j => l.getD j false && decide (j < i + 1)) 32 := wd_congr fun j _ => by
        by_cases h1 : j = i
        · subst h1
          have hp' : l.getD j false = false := by simpa using hp
          simp only [hp']; simp
        · have h2 : (j < i + 1) ↔ j < i := by omega
          simp [h2]
      rw [if_neg hp, e]
theorem impl_Ballot.ev (l : List Bool) : Ev (fun k => impl_Ballot.f k l) (bal l) := by
  unfold bal
  by_cases h : l.length = 8
  · rw [if_pos h]
    have e : wd (fun j => l.getD j false && decide (j < 0)) 32 = 0 := (wd_congr fun j _ => by simp).trans (wd_false 32)
    have hl := impl_Ballot.loop l h 8 0 rfl
    rw [e] at hl
    refine Ev.congr (fun k => ?_) hl
    simp only [impl_Ballot.f]
    rw [if_pos (by omega), show (l.length : Int) = 8 by omega]
    rfl
  · rw [if_neg h]
    refine Ev.congr (fun k => ?_) (Ev.now _)
    simp only [impl_Ballot.f]
    rw [if_neg (by omega)]
/-! ### spec_l01Word -/
theorem spec_l01Word.loop (p : Nat → Bool) : ∀ j : Nat, j ≤ 32 → Ev (fun k => spec_l01Word.l0 k (btl p 32) ((wd p 32 / 2 ^ j : Nat) : Int) ((j : Int) - 1)) ((wd p 32 : Nat) : Int) := by
  intro j
  induction j with
  | zero =>
    intro _
    refine Ev.stop fun k => ?_
    simp only [spec_l01Word.l0]
    rw [if_neg (by omega), Nat.pow_zero, Nat.div_one]
  | succ j ih =>
    intro hj
    refine Ev.step (f := fun k => spec_l01Word.l0 k (btl p 32) ((wd p 32 / 2 ^ j : Nat) : Int) ((j : Int) - 1)) (fun k => ?_) (ih (by omega))
    have hlen := btl_len p 32
    have hi : (((j + 1 : Nat) : Int) - 1) = (j : Int) := by omega
    have h1 := div_lt (wd_lt32 p) j
    have h2 : wd p 32 / 2 ^ (j + 1) = wd p 32 / 2 ^ j / 2 := by rw [Nat.pow_succ, Nat.div_div_eq_div_mul]
    have h3 : (if p j = true then (1 : Int) else 0) = ((wd p 32 / 2 ^ j % 2 : Nat) : Int) := by
      have hb := wd_bit p 32 j
      have hj' : j < 32 := by omega
      rw [Nat.testBit_eq_decide_div_mod_eq, decide_eq_true hj', Bool.true_and] at hb
      rcases Nat.mod_two_eq_zero_or_one (wd p 32 / 2 ^ j) with h | h
      · rw [h] at hb ⊢
        rw [← hb]; rfl
      · rw [h] at hb ⊢
        rw [← hb]; rfl
    have h4 : (((2 * ((wd p 32 / 2 ^ (j + 1) : Nat) : Int)) % 4294967296) + ((if p j = true then (1 : Int) else 0) % 4294967296)) % 4294967296 = ((wd p 32 / 2 ^ j : Nat) : Int) := by
      rw [h3, h2]
      generalize wd p 32 / 2 ^ j = y at h1 ⊢
      omega
    simp only [spec_l01Word.l0]
    rw [hi, if_pos (by omega), if_pos (by omega), if_pos (by omega), btl_rd p (by omega : j < 32), w64 (by omega) (by omega), h4]
theorem spec_l01Word.ev (p : Nat → Bool) : Ev (fun k => spec_l01Word.f k (btl p 32)) ((wd p 32 : Nat) : Int) := by
  have h := spec_l01Word.loop p 32 (Nat.le_refl _)
  rw [Nat.div_eq_of_lt (wd_lt32 p)] at h
  refine Ev.congr (fun k => ?_) h
  simp only [spec_l01Word.f]
  rw [btl_len, w64 (by omega) (by omega)]
  rfl
/-! ### spec_BitsOf -/
theorem spec_BitsOf.loop (l : List Int) (hl : l.length < 4611686018427387904) (d : Nat) : ∀ (i : Nat) (q : Nat → Bool), i + d = l.length → Ev (fun k => spec_BitsOf.l0 k l (btl q 32) (i : Int)) (bofq q (l.drop i)) := by
  induction d with
  | zero =>
    intro i q hi
    rw [List.drop_eq_nil_of_le (by omega), bofq_nil]
    refine Ev.step (f := fun k => (spec_l01Word.f k (btl q 32)).bind fun t => some (t, true)) (fun k => ?_) (Ev.bind (spec_l01Word.ev q) (Ev.now _))
    simp only [spec_BitsOf.l0]
    rw [if_neg (by omega)]
  | succ d ih =>
    intro i q hi
    have hlt : i < l.length := by omega
    rw [drop_rd l hlt, bofq_cons]
    generalize hb : rd l (i : Int) = b
    by_cases h1 : b < 0
    · rw [if_pos (.inl h1)]
      refine Ev.stop fun k => ?_
      simp only [spec_BitsOf.l0]
      rw [if_pos (by omega), if_pos (by omega), hb, if_pos h1]
    · by_cases h2 : b > 31
      · rw [if_pos (.inr h2)]
        refine Ev.stop fun k => ?_
        simp only [spec_BitsOf.l0]
        rw [if_pos (by omega), if_pos (by omega), hb, if_neg h1, if_pos h2]
      · rw [if_neg (by omega)]
        obtain ⟨c, rfl⟩ : ∃ c : Nat, b = c := ⟨b.toNat, by omega⟩
        rw [Int.toNat_natCast]
        have hlen := btl_len q 32
        have hc : c < 32 := by omega
        by_cases h3 : q c = true
        · rw [if_pos h3]
          refine Ev.stop fun k => ?_
          simp only [spec_BitsOf.l0]
          rw [if_pos (by omega), if_pos (by omega), hb, if_neg h1, if_neg h2, if_pos (by omega), if_pos (by omega), btl_rd q hc, if_pos h3, if_pos rfl]
        · rw [if_neg h3]
          refine Ev.step (f := fun k => spec_BitsOf.l0 k l (btl (fun j => q j || j == c) 32) ((i + 1 : Nat) : Int)) (fun k => ?_) (ih (i + 1) _ (by omega))
          simp only [spec_BitsOf.l0]
          rw [if_pos (by omega), if_pos (by omega), hb, if_neg h1, if_neg h2, if_pos (by omega), if_pos (by omega), btl_rd q hc, if_neg h3, if_neg (by decide), Int.toNat_natCast, btl_set q 32 hc, w64_succ (by omega)]
theorem spec_BitsOf.ev (l : List Int) (hl : l.length < 4611686018427387904) : Ev (fun k => spec_BitsOf.f k l) (bof l) := by
  refine Ev.congr (fun k => ?_) (spec_BitsOf.loop l hl l.length 0 (fun _ => false) (by omega))
  simp only [spec_BitsOf.f]
  rw [if_pos (by decide), btl_none]
  rfl
/-! ### spec_Ballot -/
theorem spec_Ballot.loop (l : List Bool) (hl : l.length = 8) (d : Nat) : ∀ i : Nat, i + d = 8 → Ev (fun k => spec_Ballot.l0 k l (blp (fun j => l.getD j false) i) (i : Int)) (bof (blp (fun j => l.getD j false) 8)) := by
  induction d with
  | zero =>
    intro i hi
    obtain rfl : i = 8 := by omega
    have hlen := blp_len_le (fun j => l.getD j false) 8
    refine Ev.step (f := fun k => (spec_BitsOf.f k (blp (fun j => l.getD j false) 8)).bind fun t => some (t.1, t.2)) (fun k => ?_) (Ev.bind (f := fun _ (t : Int × Bool) => some (t.1, t.2)) (spec_BitsOf.ev _ (by omega)) (Ev.now _))
    simp only [spec_Ballot.l0]
    rw [if_neg (by omega)]
  | succ d ih =>
    intro i hi
    have hlen := blp_len_le (fun j => l.getD j false) i
    refine Ev.step (f := fun k => spec_Ballot.l0 k l (blp (fun j => l.getD j false) (i + 1)) ((i + 1 : Nat) : Int)) (fun k => ?_) (ih (i + 1) (by omega))
    simp only [spec_Ballot.l0]
    rw [if_pos (by omega), if_pos (by omega), rdOf_nat, w64_succ (by omega)]
    by_cases hp : l.getD i false = true
    · rw [if_pos hp, if_pos (by omega)]
      simp only [blp, if_pos hp]
    · rw [if_neg hp]
      simp only [blp, if_neg hp, List.append_nil]
theorem spec_Ballot.ev (l : List Bool) : Ev (fun k => spec_Ballot.f k l) (bal l) := by
  unfold bal
  by_cases h : l.length = 8
  · rw [if_pos h, ← bof_blp _ (by decide : 8 ≤ 32)]
    refine Ev.congr (fun k => ?_) (spec_Ballot.loop l h 8 0 rfl)
    simp only [spec_Ballot.f]
    rw [if_pos (by omega)]
    rfl
  · rw [if_neg h]
    refine Ev.congr (fun k => ?_) (Ev.now _)
    simp only [spec_Ballot.f]
    rw [if_neg (by omega)]
/-! ### laws_FnLanes -/
theorem laws_FnLanes.loop (l : List Bool) (hl : l.length = 8) (d : Nat) : ∀ i : Nat, i + d = 8 → Ev (fun k => laws_FnLanes.l0 k l ((wd (fun j => l.getD j false && decide (j < 8)) 32 : Nat) : Int) (i : Int)) true := by
  have hx : wd (fun j => l.getD j false && decide (j < 8)) 32 < 256 := by
    have h8 : (256 : Nat) = 2 ^ 8 := rfl
    rw [h8]
    refine Nat.lt_pow_two_of_testBit _ fun i hi => ?_
    rw [wd_bit, decide_eq_false (show ¬ i < 8 by omega)]
    simp
  induction d with
  | zero =>
    intro i hi
    refine Ev.stop fun k => ?_
    simp only [laws_FnLanes.l0]
    rw [if_neg (by omega)]
  | succ d ih =>
    intro i hi
    have hb : (wd (fun j => l.getD j false && decide (j < 8)) 32).testBit i = l.getD i false := by
      rw [wd_bits_eq (by omega), decide_eq_true (show i < 8 by omega), Bool.and_true]
    have hrk : decide (rk (wd (fun j => l.getD j false && decide (j < 8)) 32) (i : Int) ≥ 0) = l.getD i false := by
      unfold rk
      rw [Int.toNat_natCast, hb]
      by_cases hp : l.getD i false = true
      · rw [if_pos ⟨hx, by omega, by omega, hp⟩, hp, decide_eq_true (by omega)]
      · rw [if_neg (fun h => hp h.2.2.2)]
        have hp' : l.getD i false = false := by simpa using hp
        rw [hp']
        rfl
    refine Ev.step (f := fun k => (impl_RankOf.f k ((wd (fun j => l.getD j false && decide (j < 8)) 32 : Nat) : Int) (i : Int)).bind fun t => if 0 ≤ (i : Int) then (if ((decide (t ≥ 0)) != (rdOf false l (i : Int))) = true then some false else laws_FnLanes.l0 k l ((wd (fun j => l.getD j false && decide (j < 8)) 32 : Nat) : Int) (wrap64 ((i : Int) + 1))) else none) (fun k => ?_)
      (Ev.bind (f := fun k t => if 0 ≤ (i : Int) then (if ((decide (t ≥ 0)) != (rdOf false l (i : Int))) = true then some false else laws_FnLanes.l0 k l ((wd (fun j => l.getD j false && decide (j < 8)) 32 : Nat) : Int) (wrap64 ((i : Int) + 1))) else none) (impl_RankOf.ev _ (by omega) (i : Int)) (Ev.congr (fun k => ?_) (ih (i + 1) (by omega))))
    · simp only [laws_FnLanes.l0]
      rw [if_pos (by omega)]
    · rw [if_pos (by omega), hrk, rdOf_nat, if_neg (by simp), w64_succ (by omega)]
theorem laws_FnLanes.tail (l : List Int) (r : List Bool) (hr : r.length ≤ 1000) (d : Ev (fun k => spec_DrawBallot.f k l) r) : Ev (fun k => laws_FnLanes.j0 k l false) true := by
  have hj1 : Ev (fun k => laws_FnLanes.j1 k r (bal r).1 (bal r).2 (bal r).1 (bal r).2 (!(bal r).2)) true := by
    by_cases h8 : r.length = 8
    · have e : bal r = (((wd (fun j => r.getD j false && decide (j < 8)) 32 : Nat) : Int), true) := if_pos h8
      rw [e]
      refine Ev.step (fun k => ?_) (laws_FnLanes.loop r h8 8 0 rfl)
      simp only [laws_FnLanes.j1]
      rw [if_neg (by decide)]
      rfl
    · have e : bal r = (0, false) := if_neg h8
      rw [e]
      refine Ev.stop fun k => ?_
      simp only [laws_FnLanes.j1]
      rw [if_pos (by decide), if_pos (by decide)]
      rfl
  obtain ⟨K, hK⟩ := d.and ((impl_Ballot.ev r).and ((spec_Ballot.ev r).and hj1.last))
  refine ⟨K + 1, fun k hk => ?_⟩
  obtain ⟨k, rfl⟩ : ∃ j, k = j + 1 := ⟨k - 1, by omega⟩
  obtain ⟨q1, q2, q3, q4⟩ := hK k (by omega)
  simp only [laws_FnLanes.j0]
  rw [if_neg (by decide), q1, Option.bind_some, q2, Option.bind_some, q3, Option.bind_some, if_neg (by simp), if_pos rfl]
  exact q4
theorem FnLanes : laws_FnLanes.Pure := by
  intro l _ _ hb
  by_cases hlen : l.length > 1048576
  · refine ⟨0, ?_⟩
    simp only [laws_FnLanes.f]
    rw [laws_big.eq, Option.bind_some, if_pos (by simpa using hlen)]
  · have hbig : laws_big.f l = some false := by rw [laws_big.eq, decide_eq_false hlen]
    obtain ⟨n, m, d1, hn, _⟩ := spec_DrawNthLane.ok l (by omega) hb
    obtain ⟨r, d2, hr⟩ := spec_DrawBallot.ok l (by omega) hb
    have hj := laws_FnLanes.tail l r hr d2
    obtain ⟨k, e1, e2, e3, e4, e5⟩ := ((impl_NthLane.ev n hn m).and ((spec_NthLane.ev n hn m).and ((impl_RankOf.ev n hn (nth n m)).and ((impl_NthLane.ev n hn 0).and hj.last)))).pick
    refine ⟨k, ?_⟩
    unfold laws_FnLanes.f
    rw [hbig, Option.bind_some, if_neg (by decide), d1, Option.bind_some, e1, Option.bind_some, e2, Option.bind_some, if_pos rfl]
    by_cases h : n < 256 ∧ 0 ≤ m ∧ m < ((blp n.testBit 32).length : Int)
    · have hlen2 := blp_len_le n.testBit 32
      obtain ⟨j, j1, j2, j3, j4⟩ := blp_rd_lt n.testBit (m := 32) (i := m.toNat) (by omega)
      have hm : ((m.toNat : Nat) : Int) = m := by omega
      rw [hm] at j4
      have hnth : nth n m = (j : Int) := by
        unfold nth
        rw [if_pos h, j4]
      have hrk : rk n (j : Int) = m := by
        unfold rk
        rw [Int.toNat_natCast, if_pos ⟨h.1, by omega, by omega, j2⟩, j3]
        omega
      have h0 : nth n 0 = low n := by
        have := low_lane h.1 (nonzero_of_len (n := n) (by omega))
        unfold nth
        rw [if_pos ⟨h.1, by omega, by omega⟩]
        exact this.2.2
      rw [hnth] at e3 ⊢
      rw [hrk] at e3
      rw [h0] at e4
      rw [if_pos (by omega), e3, Option.bind_some, if_pos rfl, e4, Option.bind_some, impl_Leader.eq n hn, Option.bind_some, if_pos h.1, bne_self_eq_false]
      exact e5
    · have hnth : nth n m = -1 := if_neg h
      rw [hnth, if_neg (by decide)]
      exact e5

end Go.Proofs.YtklgbopdhomnaaaDoor.Pure
