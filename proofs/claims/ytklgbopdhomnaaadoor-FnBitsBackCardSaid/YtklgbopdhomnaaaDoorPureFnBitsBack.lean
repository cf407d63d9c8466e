/-
  The law FnBitsBack: what both programs compute, in plain Lean, and that it is the same.
  Conditions: none beyond those of the statement itself.
-/
import Derived.Test.YtklgbopdhomnaaaDoorPFnBitsBackx3
import Derived.Test.YtklgbopdhomnaaaDoorLib
namespace Go.Proofs.YtklgbopdhomnaaaDoor.Pure
open Go.RowKit Go.Proofs.YtklgbopdhomnaaaDoor.PFnBitsBack Go.Proofs.YtklgbopdhomnaaaDoorW.PrintWords Go.Proofs.YtklgbopdhomnaaaDoorW.PrintLast

/-! ### laws_big -/
theorem laws_big.eq (l : List Int) : laws_big.f l = some (decide (l.length > 1048576)) := by
  unfold laws_big.f
  congr 1
  exact decide_eq_decide.2 (by omega)
/-! ### impl_BitList -/
theorem impl_BitList.loop (n : Nat) (hn : n < 2 ^ 32) (d : Nat) : ∀ i : Nat, i + d = 32 → Ev (fun k => impl_BitList.l0 k (n : Int) (blp n.testBit i) (i : Int)) (blp n.testBit 32) := by
  induction d with
  | zero =>
    intro i hi
    obtain rfl : i = 32 := by omega
    refine Ev.stop fun k => ?_
    simp only [impl_BitList.l0]
    rw [if_neg (by omega)]
  | succ d ih =>
    intro i hi
    refine Ev.step (f := fun k => impl_BitList.l0 k (n : Int) (blp n.testBit (i + 1)) ((i + 1 : Nat) : Int)) (fun k => ?_) (ih (i + 1) (by omega))
    have hlen := blp_len_le n.testBit i
    simp only [impl_BitList.l0]
    rw [if_pos (by omega), if_pos (by omega), bit_at hn (by omega : i ≤ 32), w64_succ (by omega)]
    by_cases hp : n.testBit i = true
    · rw [if_pos hp, if_pos rfl, if_pos (by omega)]
      simp only [blp, if_pos hp]
    · rw [if_neg hp, if_neg (by decide)]
      simp only [blp, if_neg hp, List.append_nil]
theorem impl_BitList.ev (n : Nat) (hn : n < 2 ^ 32) : Ev (fun k => impl_BitList.f k (n : Int)) (blp n.testBit 32) :=
  Ev.congr (fun _ => rfl) (impl_BitList.loop n hn 32 0 rfl)
/-! ### spec_l01Open -/
theorem spec_l01Open.ok (l : List Int) (hl : l.length ≤ 1048576) (hb : ∀ x ∈ l, (Lit.int .u8 x).wf = true) : ∃ s : Int, spec_l01Open.f l = some (l, 0, s) ∧ CurOk l 0 s 0 :=
  ⟨_, rfl, fun x hx => bounds_u8 (hb x hx), hl, by omega, by omega, by omega, by omega⟩
/-! ### spec_l01Word -/
theorem spec_l01Word.loop (p : Nat → Bool) : ∀ j : Nat, j ≤ 32 → Ev (fun k => spec_l01Word.l0 k (btl p 32) ((wd p 32 / 2 ^ j : Nat) : Int) ((j : Int) - 1)) ((wd p 32 : Nat) : Int) := by
  intro j
  induction j with
  | zero =>
    intro _
    refine Ev.stop fun k => ?_
    simp only [spec_l01Word.l0]
    rw [if_neg (by omega), Nat.pow_zero, Nat.div_one]
  | succ j ih =>
    intro hj
    refine Ev.step (f := fun k => spec_l01Word.l0 k (btl p 32) ((wd p 32 / 2 ^ j : Nat) : Int) ((j : Int) - 1)) (fun k => ?_) (ih (by omega))
    have hlen := btl_len p 32
    have hi : (((j + 1 : Nat) : Int) - 1) = (j : Int) := by omega
    have h1 := div_lt (wd_lt32 p) j
    have h2 : wd p 32 / 2 ^ (j + 1) = wd p 32 / 2 ^ j / 2 := by rw [Nat.pow_succ, Nat.div_div_eq_div_mul]
    have h3 : (if p j = true then (1 : Int) else 0) = ((wd p 32 / 2 ^ j % 2 : Nat) : Int) := by
      have hb := wd_bit p 32 j
      have hj' : j < 32 := by omega
      rw [Nat.testBit_eq_decide_div_mod_eq, decide_eq_true hj', Bool.true_and] at hb
      rcases Nat.mod_two_eq_zero_or_one (wd p 32 / 2 ^ j) with h | h
      · rw [h] at hb ⊢
        rw [← hb]; rfl
      · rw [h] at hb ⊢
        rw [← hb]; rfl
    have h4 : (((2 * ((wd p 32 / 2 ^ (j + 1) : Nat) : Int)) % 4294967296) + ((if p j = true then (1 : Int) else 0) % 4294967296)) % 4294967296 = ((wd p 32 / 2 ^ j : Nat) : Int) := by
      rw [h3, h2]
      generalize wd p 32 / 2 ^ j = y at h1 ⊢
      omega
    simp only [spec_l01Word.l0]
    rw [hi, if_pos (by omega), if_pos (by omega), if_pos (by omega), btl_rd p (by omega : j < 32), w64 (by omega) (by omega), h4]
theorem spec_l01Word.ev (p : Nat → Bool) : Ev (fun k => spec_l01Word.f k (btl p 32)) ((wd p 32 : Nat) : Int) := by
  have h := spec_l01Word.loop p 32 (Nat.le_refl _)
  rw [Nat.div_eq_of_lt (wd_lt32 p)] at h
  refine Ev.congr (fun k => ?_) h
  simp only [spec_l01Word.f]
  rw [btl_len, w64 (by omega) (by omega)]
  rfl
/-! ### spec_BitsOf -/
theorem spec_BitsOf.loop (l : List Int) (hl : l.length < 4611686018427387904) (d : Nat) : ∀ (i : Nat) (q : Nat → Bool), i + d = l.length → Ev (fun k => spec_BitsOf.l0 k l (btl q 32) (i : Int)) (bofq q (l.drop i)) := by
  induction d with
  | zero =>
    intro i q hi
    rw [List.drop_eq_nil_of_le (by omega), bofq_nil]
    refine Ev.step (f := fun k => (spec_l01Word.f k (btl q 32)).bind fun t => some (t, true)) (fun k => ?_) (Ev.bind (spec_l01Word.ev q) (Ev.now _))
    simp only [spec_BitsOf.l0]
    rw [if_neg (by omega)]
  | succ d ih =>
    intro i q hi
    have hlt : i < l.length := by omega
    rw [drop_rd l hlt, bofq_cons]
    generalize hb : rd l (i : Int) = b
    by_cases h1 : b < 0
    · rw [if_pos (.inl h1)]
      refine Ev.stop fun k => ?_
      simp only [spec_BitsOf.l0]
      rw [if_pos (by omega), if_pos (by omega), hb, if_pos h1]
    · by_cases h2 : b > 31
      · rw [if_pos (.inr h2)]
        refine Ev.stop fun k => ?_
        simp only [spec_BitsOf.l0]
        rw [if_pos (by omega), if_pos (by omega), hb, if_neg h1, if_pos h2]
      · rw [if_neg (by omega)]
        obtain ⟨c, rfl⟩ : ∃ c : Nat, b = c := ⟨b.toNat, by omega⟩
        rw [Int.toNat_natCast]
        have hlen := btl_len q 32
        have hc : c < 32 := by omega
        by_cases h3 : q c = true
        · rw [if_pos h3]
          refine Ev.stop fun k => ?_
          simp only [spec_BitsOf.l0]
          rw [if_pos (by omega), if_pos (by omega), hb, if_neg h1, if_neg h2, if_pos (by omega), if_pos (by omega), btl_rd q hc, if_pos h3, if_pos rfl]
        · rw [if_neg h3]
          refine Ev.step (f := fun k => spec_BitsOf.l0 k l (btl (fun j => q j || j == c) 32) ((i + 1 : Nat) : Int)) (fun k => ?_) (ih (i + 1) _ (by omega))
          simp only [spec_BitsOf.l0]
          rw [if_pos (by omega), if_pos (by omega), hb, if_neg h1, if_neg h2, if_pos (by omega), if_pos (by omega), btl_rd q hc, if_neg h3, if_neg (by decide), Int.toNat_natCast, btl_set q 32 hc, w64_succ (by omega)]
theorem spec_BitsOf.ev (l : List Int) (hl : l.length < 4611686018427387904) : Ev (fun k => spec_BitsOf.f k l) (bof l) := by
  refine Ev.congr (fun k => ?_) (spec_BitsOf.loop l hl l.length 0 (fun _ => false) (by omega))
  simp only [spec_BitsOf.f]
  rw [if_pos (by decide), btl_none]
  rfl
/-! ### spec_l01Cur_pick -/
theorem spec_l01Cur_pick.ok {l : List Int} {a s : Int} {N : Nat} (h : CurOk l a s N) (hN : N ≤ 1000000000) (n : Int) (hn : n ≤ 4294967296) : ∃ v a' s' : Int, spec_l01Cur_pick.f l a s n = some (v, a', s') ∧ CurOk l a' s' (N + 1) ∧ 0 ≤ v ∧ (v = 0 ∨ v < n) := by
  obtain ⟨hb, hl, ha0, ha1, hs0, hs1⟩ := h
  unfold spec_l01Cur_pick.f
  by_cases h2 : n < 2
  · rw [if_pos h2]
    exact ⟨0, a, s, rfl, ⟨hb, hl, ha0, by omega, hs0, hs1⟩, by omega, .inl rfl⟩
  · rw [if_neg h2]
    by_cases h3 : a < (l.length : Int)
    · have hr := rd_all hb ha0 h3
      have ht := tmod_range (x := wrap64 (rd l a)) (m := n) (by rw [w64 (by omega) (by omega)]; omega) (by omega)
      rw [if_pos h3, if_pos ha0, if_neg (by omega)]
      refine ⟨_, _, _, rfl, ⟨hb, hl, ?_, ?_, hs0, hs1⟩, ht.1, .inr ht.2⟩
      · rw [w64 (by omega) (by omega)]; omega
      · rw [w64 (by omega) (by omega)]; omega
    · rw [if_neg h3]
      have hsd := seed_next hs0 hs1
      by_cases h4 : (l.length : Int) > 0
      · have hi := tmod_range (x := a) (m := (l.length : Int)) ha0 h4
        have hr := rd_all hb hi.1 hi.2
        rw [if_pos h4, if_neg (by omega), if_pos hi.1, if_pos hi.2, if_neg (by omega)]
        generalize Int.tmod (wrap64 ((wrap64 (s * 1103)) + 12345)) 65521 = s2 at hsd ⊢
        generalize rd l (Int.tmod a (l.length : Int)) = x at hr ⊢
        have e : wrap64 ((wrap64 (Int.tdiv s2 7)) + (wrap64 x)) = s2 / 7 + x := by
          rw [Int.tdiv_eq_ediv_of_nonneg hsd.1, w64 (x := s2 / 7) (by omega) (by omega), w64 (x := x) (by omega) (by omega), w64 (by omega) (by omega)]
        have ht := tmod_range (x := wrap64 ((wrap64 (Int.tdiv s2 7)) + (wrap64 x))) (m := n) (by rw [e]; omega) (by omega)
        refine ⟨_, _, _, rfl, ⟨hb, hl, ?_, ?_, hsd.1, hsd.2⟩, ht.1, .inr ht.2⟩
        · rw [w64 (by omega) (by omega)]; omega
        · rw [w64 (by omega) (by omega)]; omega
      · rw [if_neg h4, if_neg (by omega)]
        refine ⟨_, _, _, rfl, ⟨hb, hl, ?_, ?_, hsd.1, hsd.2⟩, ?_, .inl ?_⟩
        · rw [w64 (by omega) (by omega)]; omega
        · rw [w64 (by omega) (by omega)]; omega
        · simp
        · simp
/-! ### spec_l01Cur_once -/
theorem spec_l01Cur_once.ok {l : List Int} {a s : Int} {N : Nat} (h : CurOk l a s N) (hN : N ≤ 100000000) (n : Int) (hn : n ≤ 4294967296) : ∃ (b : Bool) (a' s' : Int), spec_l01Cur_once.f l a s n = some (b, a', s') ∧ CurOk l a' s' (N + 1) := by
  obtain ⟨v, a1, s1, e1, c1, _, _⟩ := spec_l01Cur_pick.ok h (by omega) n hn
  exact ⟨v == wrap64 (n - 1), a1, s1, by simp only [spec_l01Cur_once.f, e1, Option.bind_some], c1⟩
/-! ### spec_l01Cur_wide -/
theorem spec_l01Cur_wide.ok {l : List Int} {a s : Int} {N : Nat} (h : CurOk l a s N) (hN : N ≤ 100000000) (n : Int) (hn0 : 0 < n) : ∃ v a' s' : Int, spec_l01Cur_wide.f l a s n = some (v, a', s') ∧ CurOk l a' s' (N + 3) ∧ 0 ≤ v ∧ v < n := by
  obtain ⟨v1, a1, s1, e1, c1, h1, g1⟩ := spec_l01Cur_pick.ok h (by omega) 256 (by omega)
  obtain ⟨v2, a2, s2, e2, c2, h2, g2⟩ := spec_l01Cur_pick.ok c1 (by omega) 256 (by omega)
  obtain ⟨v3, a3, s3, e3, c3, h3, g3⟩ := spec_l01Cur_pick.ok c2 (by omega) 256 (by omega)
  have e : wrap64 ((wrap64 ((wrap64 (65536 * v1)) + (wrap64 (256 * v2)))) + v3) = 65536 * v1 + 256 * v2 + v3 := by
    rw [w64 (x := 65536 * v1) (by omega) (by omega), w64 (x := 256 * v2) (by omega) (by omega), w64 (x := 65536 * v1 + 256 * v2) (by omega) (by omega), w64 (by omega) (by omega)]
  have ht := tmod_range (x := 65536 * v1 + 256 * v2 + v3) (m := n) (by omega) hn0
  refine ⟨_, _, _, ?_, c3, ht.1, ht.2⟩
  simp only [spec_l01Cur_wide.f, e1, e2, e3, Option.bind_some, e]
  rw [if_neg (by omega)]
/-! ### spec_l01Cur_word -/
theorem spec_l01Cur_word.ok {l : List Int} {a s : Int} {N : Nat} (h : CurOk l a s N) (hN : N ≤ 10000000) : ∃ v a' s' : Int, spec_l01Cur_word.f l a s = some (v, a', s') ∧ CurOk l a' s' (N + 5) ∧ U32 v := by
  obtain ⟨v1, a1, s1, e1, c1, h1, g1⟩ := spec_l01Cur_pick.ok h (by omega) 256 (by omega)
  obtain ⟨v2, a2, s2, e2, c2, h2, g2⟩ := spec_l01Cur_wide.ok c1 (by omega) 16777216 (by omega)
  obtain ⟨v3, a3, s3, e3, c3, h3, g3⟩ := spec_l01Cur_pick.ok c2 (by omega) 7 (by omega)
  simp only [spec_l01Cur_word.f, e1, e2, e3, Option.bind_some, List.length_cons, List.length_nil]
  rw [if_pos h3, if_pos (by omega)]
  refine ⟨_, _, _, rfl, c3.more (by omega), rd_all (P := U32) ?_ h3 (by simp only [List.length_cons, List.length_nil]; omega)⟩
  intro x hx
  unfold U32
  simp only [List.mem_cons, List.not_mem_nil, or_false] at hx
  omega
/-! ### spec_l01Cur_bits -/
theorem spec_l01Cur_bits.ok {l : List Int} {a s : Int} {N : Nat} (h : CurOk l a s N) (hN : N ≤ 900000) : ∃ (n : Nat) (a' s' : Int), Ev (fun k => spec_l01Cur_bits.f k l a s) ((n : Int), a', s') ∧ CurOk l a' s' (N + 9) ∧ n < 2 ^ 32 := by
  obtain ⟨v1, a1, s1, e1, c1, h1⟩ := spec_l01Cur_word.ok h (by omega)
  obtain ⟨b, a2, s2, e2, c2⟩ := spec_l01Cur_once.ok c1 (by omega) 2 (by omega)
  by_cases hb : b = true
  · obtain ⟨v3, a3, s3, e3, c3, h3, g3⟩ := spec_l01Cur_pick.ok c2 (by omega) 8 (by omega)
    obtain ⟨v4, a4, s4, e4, c4, h4, g4⟩ := spec_l01Cur_pick.ok c3 (by omega) 8 (by omega)
    obtain ⟨v5, a5, s5, e5, c5, h5, g5⟩ := spec_l01Cur_pick.ok c4 (by omega) 16 (by omega)
    obtain ⟨n, hn1, hn2⟩ := bof_u32 [v3, wrap64 (8 + v4), wrap64 (16 + v5)]
    obtain ⟨K, hK⟩ := spec_BitsOf.ev [v3, wrap64 (8 + v4), wrap64 (16 + v5)] (by simp)
    refine ⟨n, a5, s5, ⟨K, fun k hk => ?_⟩, c5.more (by omega), hn2⟩
    have e6 := hK k hk
    simp only [spec_l01Cur_bits.f, e1, e2, e3, e4, e5, e6, Option.bind_some, if_pos hb, hn1]
  · obtain ⟨n, rfl, hn⟩ := u32_of h1
    refine ⟨n, a2, s2, ⟨0, fun k _ => ?_⟩, c2.more (by omega), hn⟩
    simp only [spec_l01Cur_bits.f, e1, e2, Option.bind_some, if_neg hb]
/-! ### spec_DrawBitList -/
theorem spec_DrawBitList.ok (l : List Int) (hl : l.length ≤ 1048576) (hb : ∀ x ∈ l, (Lit.int .u8 x).wf = true) : ∃ n : Nat, Ev (fun k => spec_DrawBitList.f k l) (n : Int) ∧ n < 2 ^ 32 := by
  obtain ⟨s0, e0, c0⟩ := spec_l01Open.ok l hl hb
  obtain ⟨n, a1, s1, ⟨K, hK⟩, c1, hn⟩ := spec_l01Cur_bits.ok c0 (by omega)
  refine ⟨n, ⟨K, fun k hk => ?_⟩, hn⟩
  have e1 := hK k hk
  simp only [spec_DrawBitList.f, e0, e1, Option.bind_some]
/-! ### impl_within -/
theorem impl_within.eq (a lo hi : Int) : impl_within.f a lo hi = some (decide (lo ≤ a ∧ a ≤ hi)) := by
  unfold impl_within.f
  split
  · rename_i h
    have : lo ≤ a := h
    simp [this]
  · rename_i h
    have : ¬ lo ≤ a := h
    simp [this]
/-! ### impl_BitsOf -/
theorem impl_BitsOf.loop (l : List Int) (hl : l.length < 4611686018427387904) (d : Nat) : ∀ (i : Nat) (q : Nat → Bool), i + d = l.length → Ev (fun k => impl_BitsOf.l0 k ((wd q 32 : Nat) : Int) l (l.length : Int) (i : Int)) (bofq q (l.drop i)) := by
  induction d with
  | zero =>
    intro i q hi
    rw [List.drop_eq_nil_of_le (by omega), bofq_nil]
    refine Ev.stop fun k => ?_
    simp only [impl_BitsOf.l0]
    rw [if_neg (by omega)]
  | succ d ih =>
    intro i q hi
    have hlt : i < l.length := by omega
    rw [drop_rd l hlt, bofq_cons]
    generalize hb : rd l (i : Int) = b
    by_cases h1 : b < 0 ∨ b > 31
    · rw [if_pos h1]
      refine Ev.stop fun k => ?_
      simp only [impl_BitsOf.l0]
      rw [if_pos (by omega), if_pos (by omega), if_pos (by omega), hb, impl_within.eq, Option.bind_some, if_neg (by simp; omega)]
    · rw [if_neg h1]
      obtain ⟨c, rfl⟩ : ∃ c : Nat, b = c := ⟨b.toNat, by omega⟩
      rw [Int.toNat_natCast]
      have hc : c < 32 := by omega
      have hw := wd_bit q 32 c
      rw [decide_eq_true hc, Bool.true_and] at hw
      by_cases h3 : q c = true
      · rw [if_pos h3]
        refine Ev.stop fun k => ?_
        simp only [impl_BitsOf.l0]
        rw [if_pos (by omega), if_pos (by omega), if_pos (by omega), hb, impl_within.eq, Option.bind_some, if_pos (by simp; omega), if_pos (by omega), bit_at (wd_lt32 q) (by omega), hw, if_pos h3, if_pos rfl]
      · rw [if_neg h3]
        refine Ev.step (f := fun k => impl_BitsOf.l0 k ((wd (fun j => q j || j == c) 32 : Nat) : Int) l (l.length : Int) ((i + 1 : Nat) : Int)) (fun k => ?_) (ih (i + 1) _ (by omega))
        simp only [impl_BitsOf.l0]
        rw [if_pos (by omega), if_pos (by omega), if_pos (by omega), hb, impl_within.eq, Option.bind_some, if_pos (by simp; omega), if_pos (by omega), bit_at (wd_lt32 q) (by omega), hw, if_neg h3, if_neg (by decide), shl_one hc, or_nat (wd_lt32 q) (two_pow_lt hc), wd_or q hc, w64_succ (by omega)]
theorem impl_BitsOf.ev (l : List Int) (hl : l.length < 4611686018427387904) : Ev (fun k => impl_BitsOf.f k l) (bof l) := by
  have h := impl_BitsOf.loop l hl l.length 0 (fun _ => false) (by omega)
  rw [wd_false] at h
  exact Ev.congr (fun _ => rfl) h
/-! ### bits_OnesCount32 -/
theorem bits_OnesCount32.tab (c : Nat) (hc : c < 256) : bt (⟨#[0, 1, 1, 2, 1, 2, 2, 3, 1, 2, 2, 3, 2, 3, 3, 4, 1, 2, 2, 3, 2, 3, 3, 4, 2, 3, 3, 4, 3, 4, 4, 5, 1, 2, 2, 3, 2, 3, 3, 4, 2, 3, 3, 4, 3, 4, 4, 5, 2, 3, 3, 4, 3, 4, 4, 5, 3, 4, 4, 5, 4, 5, 5, 6, 1, 2, 2, 3, 2, 3, 3, 4, 2, 3, 3, 4, 3, 4, 4, 5, 2, 3, 3, 4, 3, 4, 4, 5, 3, 4, 4, 5, 4, 5, 5, 6, 2, 3, 3, 4, 3, 4, 4, 5, 3, 4, 4, 5, 4, 5, 5, 6, 3, 4, 4, 5, 4, 5, 5, 6, 4, 5, 5, 6, 5, 6, 6, 7, 1, 2, 2, 3, 2, 3, 3, 4, 2, 3, 3, 4, 3, 4, 4, 5, 2, 3, 3, 4, 3, 4, 4, 5, 3, 4, 4, 5, 4, 5, 5, 6, 2, 3, 3, 4, 3, 4, 4, 5, 3, 4, 4, 5, 4, 5, 5, 6, 3, 4, 4, 5, 4, 5, 5, 6, 4, 5, 5, 6, 5, 6, 6, 7, 2, 3, 3, 4, 3, 4, 4, 5, 3, 4, 4, 5, 4, 5, 5, 6, 3, 4, 4, 5, 4, 5, 5, 6, 4, 5, 5, 6, 5, 6, 6, 7, 3, 4, 4, 5, 4, 5, 5, 6, 4, 5, 5, 6, 5, 6, 6, 7, 4, 5, 5, 6, 5, 6, 6, 7, 5, 6, 6, 7, 6, 7, 7, 8]⟩ : ByteArray) (c : Int) = ((cnt c.testBit 8 : Nat) : Int) := by
  have h : ∀ c : Fin 256, bt (⟨#[0, 1, 1, 2, 1, 2, 2, 3, 1, 2, 2, 3, 2, 3, 3, 4, 1, 2, 2, 3, 2, 3, 3, 4, 2, 3, 3, 4, 3, 4, 4, 5, 1, 2, 2, 3, 2, 3, 3, 4, 2, 3, 3, 4, 3, 4, 4, 5, 2, 3, 3, 4, 3, 4, 4, 5, 3, 4, 4, 5, 4, 5, 5, 6, 1, 2, 2, 3, 2, 3, 3, 4, 2, 3, 3, 4, 3, 4, 4, 5, 2, 3, 3, 4, 3, 4, 4, 5, 3, 4, 4, 5, 4, 5, 5, 6, 2, 3, 3, 4, 3, 4, 4, 5, 3, 4, 4, 5, 4, 5, 5, 6, 3, 4, 4, 5, 4, 5, 5, 6, 4, 5, 5, 6, 5, 6, 6, 7, 1, 2, 2, 3, 2, 3, 3, 4, 2, 3, 3, 4, 3, 4, 4, 5, 2, 3, 3, 4, 3, 4, 4, 5, 3, 4, 4, 5, 4, 5, 5, 6, 2, 3, 3, 4, 3, 4, 4, 5, 3, 4, 4, 5, 4, 5, 5, 6, 3, 4, 4, 5, 4, 5, 5, 6, 4, 5, 5, 6, 5, 6, 6, 7, 2, 3, 3, 4, 3, 4, 4, 5, 3, 4, 4, 5, 4, 5, 5, 6, 3, 4, 4, 5, 4, 5, 5, 6, 4, 5, 5, 6, 5, 6, 6, 7, 3, 4, 4, 5, 4, 5, 5, 6, 4, 5, 5, 6, 5, 6, 6, 7, 4, 5, 5, 6, 5, 6, 6, 7, 5, 6, 6, 7, 6, 7, 7, 8]⟩ : ByteArray) (c.val : Int) = ((cnt c.val.testBit 8 : Nat) : Int) := by decide +kernel
  exact h ⟨c, hc⟩
theorem bits_OnesCount32.eq (n : Nat) (hn : n < 2 ^ 32) : bits_OnesCount32.f (n : Int) = some ((cnt n.testBit 32 : Nat) : Int) := by
  unfold bits_OnesCount32.f
  have a0 : ((n : Int) / 16777216) = ((n / 16777216 % 256 : Nat) : Int) := by omega
  have a1 : Go.bits .and .u32 ((n : Int) / 65536) 255 = ((n / 65536 % 256 : Nat) : Int) := by rw [and255 (by omega) (by omega)]; omega
  have a2 : Go.bits .and .u32 ((n : Int) / 256) 255 = ((n / 256 % 256 : Nat) : Int) := by rw [and255 (by omega) (by omega)]; omega
  have a3 : Go.bits .and .u32 (n : Int) 255 = ((n % 256 : Nat) : Int) := by rw [and255 (by omega) (by omega)]; omega
  rw [a0, a1, a2, a3]
  rw [if_pos (by omega), if_pos (by omega), if_pos (by omega), if_pos (by omega), if_pos (by omega), if_pos (by omega), if_pos (by omega), if_pos (by omega)]
  rw [bits_OnesCount32.tab _ (Nat.mod_lt _ (by decide)), bits_OnesCount32.tab _ (Nat.mod_lt _ (by decide)), bits_OnesCount32.tab _ (Nat.mod_lt _ (by decide)), bits_OnesCount32.tab _ (Nat.mod_lt _ (by decide))]
  have b0 := cnt_le (n / 16777216 % 256).testBit 8
  have b1 := cnt_le (n / 65536 % 256).testBit 8
  have b2 := cnt_le (n / 256 % 256).testBit 8
  have b3 := cnt_le (n % 256).testBit 8
  rw [@cnt_bytes n]
  congr 1
  omega
/-! ### impl_Ones -/
theorem impl_Ones.eq (n : Nat) (hn : n < 2 ^ 32) : impl_Ones.f (n : Int) = some ((cnt n.testBit 32 : Nat) : Int) := by
  unfold impl_Ones.f
  rw [bits_OnesCount32.eq n hn, Option.bind_some]
/-! ### bits_TrailingZeros32 -/
theorem bits_TrailingZeros32.eq (n : Nat) (hn : n < 2 ^ 32) : bits_TrailingZeros32.f (n : Int) = some ((Go.Lib.ctz 32 n : Nat) : Int) := by
  unfold bits_TrailingZeros32.f
  rw [if_pos (by omega), Int.toNat_natCast]
/-! ### impl_Lowest -/
theorem impl_Lowest.eq (n : Nat) (hn : n < 2 ^ 32) : impl_Lowest.f (n : Int) = some (low n) := by
  unfold impl_Lowest.f low
  by_cases h : n = 0
  · rw [if_pos (by omega), if_pos h]
  · rw [if_neg (by omega), if_neg h, bits_TrailingZeros32.eq n hn, Option.bind_some]
/-! ### bits_Len32 -/
theorem bits_Len32.tab (c : Nat) (hc : c < 256) : bt (⟨#[0, 1, 2, 2, 3, 3, 3, 3, 4, 4, 4, 4, 4, 4, 4, 4, 5, 5, 5, 5, 5, 5, 5, 5, 5, 5, 5, 5, 5, 5, 5, 5, 6, 6, 6, 6, 6, 6, 6, 6, 6, 6, 6, 6, 6, 6, 6, 6, 6, 6, 6, 6, 6, 6, 6, 6, 6, 6, 6, 6, 6, 6, 6, 6, 7, 7, 7, 7, 7, 7, 7, 7, 7, 7, 7, 7, 7, 7, 7, 7, 7, 7, 7, 7, 7, 7, 7, 7, 7, 7, 7, 7, 7, 7, 7, 7, 7, 7, 7, 7, 7, 7, 7, 7, 7, 7, 7, 7, 7, 7, 7, 7, 7, 7, 7, 7, 7, 7, 7, 7, 7, 7, 7, 7, 7, 7, 7, 7, 8, 8, 8, 8, 8, 8, 8, 8, 8, 8, 8, 8, 8, 8, 8, 8, 8, 8, 8, 8, 8, 8, 8, 8, 8, 8, 8, 8, 8, 8, 8, 8, 8, 8, 8, 8, 8, 8, 8, 8, 8, 8, 8, 8, 8, 8, 8, 8, 8, 8, 8, 8, 8, 8, 8, 8, 8, 8, 8, 8, 8, 8, 8, 8, 8, 8, 8, 8, 8, 8, 8, 8, 8, 8, 8, 8, 8, 8, 8, 8, 8, 8, 8, 8, 8, 8, 8, 8, 8, 8, 8, 8, 8, 8, 8, 8, 8, 8, 8, 8, 8, 8, 8, 8, 8, 8, 8, 8, 8, 8, 8, 8, 8, 8, 8, 8, 8, 8, 8, 8, 8, 8, 8, 8, 8, 8, 8, 8]⟩ : ByteArray) (c : Int) = top c.testBit 8 + 1 := by
  have h : ∀ c : Fin 256, bt (⟨#[0, 1, 2, 2, 3, 3, 3, 3, 4, 4, 4, 4, 4, 4, 4, 4, 5, 5, 5, 5, 5, 5, 5, 5, 5, 5, 5, 5, 5, 5, 5, 5, 6, 6, 6, 6, 6, 6, 6, 6, 6, 6, 6, 6, 6, 6, 6, 6, 6, 6, 6, 6, 6, 6, 6, 6, 6, 6, 6, 6, 6, 6, 6, 6, 7, 7, 7, 7, 7, 7, 7, 7, 7, 7, 7, 7, 7, 7, 7, 7, 7, 7, 7, 7, 7, 7, 7, 7, 7, 7, 7, 7, 7, 7, 7, 7, 7, 7, 7, 7, 7, 7, 7, 7, 7, 7, 7, 7, 7, 7, 7, 7, 7, 7, 7, 7, 7, 7, 7, 7, 7, 7, 7, 7, 7, 7, 7, 7, 8, 8, 8, 8, 8, 8, 8, 8, 8, 8, 8, 8, 8, 8, 8, 8, 8, 8, 8, 8, 8, 8, 8, 8, 8, 8, 8, 8, 8, 8, 8, 8, 8, 8, 8, 8, 8, 8, 8, 8, 8, 8, 8, 8, 8, 8, 8, 8, 8, 8, 8, 8, 8, 8, 8, 8, 8, 8, 8, 8, 8, 8, 8, 8, 8, 8, 8, 8, 8, 8, 8, 8, 8, 8, 8, 8, 8, 8, 8, 8, 8, 8, 8, 8, 8, 8, 8, 8, 8, 8, 8, 8, 8, 8, 8, 8, 8, 8, 8, 8, 8, 8, 8, 8, 8, 8, 8, 8, 8, 8, 8, 8, 8, 8, 8, 8, 8, 8, 8, 8, 8, 8, 8, 8, 8, 8, 8, 8]⟩ : ByteArray) (c.val : Int) = top c.val.testBit 8 + 1 := by decide +kernel
  exact h ⟨c, hc⟩
theorem bits_Len32.eq (n : Nat) (hn : n < 2 ^ 32) : bits_Len32.f (n : Int) = some (top n.testBit 32 + 1) := by
  unfold bits_Len32.f
  have hb := fun x => top_lt (Nat.testBit x) 8
  have hg := fun x => top_ge (Nat.testBit x) 8
  rw [top_bytes hn]
  by_cases a : n ≥ 65536
  · rw [if_pos (by omega)]
    by_cases b : n ≥ 16777216
    · have e : (((n : Int) / 65536) / 256) % 256 = ((n / 16777216 : Nat) : Int) := by omega
      have h1 := hb (n / 16777216)
      have h2 := hg (n / 16777216)
      rw [if_pos (by omega), e, if_pos (by omega), if_pos (by omega), bits_Len32.tab _ (by omega), if_pos b, w64 (x := top _ _ + 1) (by omega) (by omega), w64 (by omega) (by omega)]
      congr 1
      omega
    · have e : ((n : Int) / 65536) % 256 = ((n / 65536 : Nat) : Int) := by omega
      have h1 := hb (n / 65536)
      have h2 := hg (n / 65536)
      rw [if_neg (by omega), e, if_pos (by omega), if_pos (by omega), bits_Len32.tab _ (by omega), if_neg b, if_pos a, w64 (x := top _ _ + 1) (by omega) (by omega), w64 (by omega) (by omega)]
      congr 1
      omega
  · rw [if_neg (by omega)]
    by_cases b : n ≥ 256
    · have e : ((n : Int) / 256) % 256 = ((n / 256 : Nat) : Int) := by omega
      have h1 := hb (n / 256)
      have h2 := hg (n / 256)
      rw [if_pos (by omega), e, if_pos (by omega), if_pos (by omega), bits_Len32.tab _ (by omega), if_neg (by omega), if_neg a, if_pos b, w64 (x := top _ _ + 1) (by omega) (by omega), w64 (by omega) (by omega)]
      congr 1
      omega
    · have e : ((n : Int)) % 256 = (n : Int) := by omega
      have h1 := hb n
      have h2 := hg n
      rw [if_neg (by omega), e, if_pos (by omega), if_pos (by omega), bits_Len32.tab _ (by omega), if_neg (by omega), if_neg a, if_neg b, w64 (x := top _ _ + 1) (by omega) (by omega), w64 (by omega) (by omega)]
      congr 1
      omega
/-! ### impl_Highest -/
theorem impl_Highest.eq (n : Nat) (hn : n < 2 ^ 32) : impl_Highest.f (n : Int) = some (top n.testBit 32) := by
  unfold impl_Highest.f
  have h1 := top_lt n.testBit 32
  have h2 := top_ge n.testBit 32
  rw [bits_Len32.eq n hn, Option.bind_some, w64 (by omega) (by omega)]
  congr 1
  omega
/-! ### impl_TakeLow -/
theorem impl_TakeLow.loop (m : Nat) : ∀ (n out : Nat) (a : Int), n < 2 ^ 32 → out < 2 ^ 32 → a.toNat = m → a < 9223372036854775808 → Ev (fun k => impl_TakeLow.l0 k (n : Int) a (out : Int)) ((out ||| wd (tk n.testBit m) 32 : Nat) : Int) := by
  induction m with
  | zero =>
    intro n out a hn ho ha _
    rw [tk_zero, Nat.or_zero]
    refine Ev.stop fun k => ?_
    simp only [impl_TakeLow.l0]
    rw [if_neg (by omega)]
  | succ m ih =>
    intro n out a hn ho ha ha'
    by_cases h0 : n = 0
    · subst h0
      rw [tk_none, Nat.or_zero]
      refine Ev.stop fun k => ?_
      simp only [impl_TakeLow.l0]
      rw [if_pos (by omega), if_pos (by omega)]
    · obtain ⟨b, hb32, hb, hlo⟩ := low_of_pos hn h0
      rw [← low_step hb hlo hb32 out m ho]
      have h1 : n &&& (n - 1) < 2 ^ 32 := Nat.and_lt_two_pow _ (by omega)
      have h2 : out ||| 2 ^ b < 2 ^ 32 := Nat.or_lt_two_pow ho (two_pow_lt hb32)
      refine Ev.step (f := fun k => impl_TakeLow.l0 k ((n &&& (n - 1) : Nat) : Int) (a - 1) ((out ||| 2 ^ b : Nat) : Int)) (fun k => ?_) (ih _ _ _ h1 h2 (by omega) (by omega))
      simp only [impl_TakeLow.l0]
      rw [if_pos (by omega), if_neg (by omega), pred32 hn h0, neg32 hn h0, and_nat hn (by omega), and_nat hn (by omega), keep_low hn hb hlo, or_nat ho (two_pow_lt hb32), w64 (by omega) (by omega)]
theorem impl_TakeLow.ev (n : Nat) (hn : n < 2 ^ 32) (a : Int) (ha : a < 9223372036854775808) : Ev (fun k => impl_TakeLow.f k (n : Int) a) ((wd (tk n.testBit a.toNat) 32 : Nat) : Int) := by
  have h := impl_TakeLow.loop a.toNat n 0 a hn (by decide) rfl ha
  rw [Nat.zero_or] at h
  exact Ev.congr (fun _ => rfl) h
/-! ### laws_FnBitsBack -/
theorem FnBitsBack : laws_FnBitsBack.Pure := by
  intro l _ _ hb
  by_cases hlen : l.length > 1048576
  · refine ⟨0, ?_⟩
    simp only [laws_FnBitsBack.f]
    rw [laws_big.eq, Option.bind_some, if_pos (by simpa using hlen)]
  · have hbig : laws_big.f l = some false := by rw [laws_big.eq, decide_eq_false hlen]
    obtain ⟨n, d1, hn⟩ := spec_DrawBitList.ok l (by omega) hb
    have hbl := blp_len_le n.testBit 32
    have ho : Ev (fun k => impl_BitsOf.f k (blp n.testBit 32)) ((n : Int), true) := (impl_BitsOf.ev (blp n.testBit 32) (by omega)).eq (bof_bits hn)
    have ht32 : wd (tk n.testBit 32) 32 = n := wd_eq hn fun i hi => by
      unfold tk
      have := cnt_le n.testBit i
      rw [decide_eq_true (by omega), Bool.and_true]
    have h32 : Ev (fun k => impl_TakeLow.f k (n : Int) 32) (n : Int) := (impl_TakeLow.ev n hn 32 (by omega)).eq (by rw [show (32 : Int).toNat = 32 from rfl, ht32])
    have h1 : Ev (fun k => impl_TakeLow.f k (n : Int) 1) ((wd (tk n.testBit 1) 32 : Nat) : Int) := impl_TakeLow.ev n hn 1 (by omega)
    have hj : Ev (fun k => laws_FnBitsBack.j0 k (n : Int) (blp n.testBit 32) false) true := by
      obtain ⟨K, hK⟩ := h32.and h1.last
      refine ⟨K + 1, fun k hk => ?_⟩
      obtain ⟨k, rfl⟩ : ∃ j, k = j + 1 := ⟨k - 1, by omega⟩
      obtain ⟨q1, q2⟩ := hK k (by omega)
      simp only [laws_FnBitsBack.j0]
      rw [if_neg (by decide)]
      by_cases h0 : (blp n.testBit 32).length = 0
      · rw [if_pos (by omega), impl_Lowest.eq n hn, Option.bind_some, impl_Highest.eq n hn, Option.bind_some, blp_empty _ _ h0, bits_none hn h0, low_zero, if_pos rfl]
        rfl
      · have hn0 : n ≠ 0 := fun e => h0 (by rw [e, blp_none (fun j _ => Nat.zero_testBit j)]; rfl)
        obtain ⟨b, _, _, _, h4, h5⟩ := low_first hn hn0
        obtain ⟨hl, _⟩ := blp_last n.testBit 32 h0
        have hc : cnt (wd (tk n.testBit 1) 32).testBit 32 = 1 := by
          rw [cnt_wd, cnt_tk, ← blp_len]
          omega
        have hfst : low n = rd (blp n.testBit 32) 0 := by rw [h4, h5]; rfl
        rw [if_neg (by omega), impl_Lowest.eq n hn, Option.bind_some, if_pos (by omega), if_pos hfst, impl_Highest.eq n hn, Option.bind_some, w64 (by omega) (by omega), if_pos (by omega), if_pos (by omega), hl, if_pos rfl, q1, Option.bind_some, if_pos rfl, q2, Option.bind_some, impl_Ones.eq _ (wd_lt32 _), Option.bind_some, hc]
        rfl
    obtain ⟨k, e1, e2, e3, e4⟩ := (d1.and ((impl_BitList.ev n hn).and (ho.and hj.last))).pick
    refine ⟨k, ?_⟩
    have hne : ((((blp n.testBit 32).length : Int)) != ((cnt n.testBit 32 : Nat) : Int)) = false := by rw [blp_len]; simp
    unfold laws_FnBitsBack.f
    rw [hbig, Option.bind_some, if_neg (by decide), e1, Option.bind_some, e2, Option.bind_some, e3, Option.bind_some, if_pos rfl, if_pos rfl, impl_Ones.eq n hn, Option.bind_some, hne]
    exact e4

end Go.Proofs.YtklgbopdhomnaaaDoor.Pure
