/-
  The law FnLongestBits: what both programs compute, in plain Lean, and that it is the same.
  Conditions: none beyond those of the statement itself.
-/
import Derived.Test.YtllidkccikmgiaaPFnLongestBitsx4
import Derived.Test.YtllidkccikmgiaaLib
namespace Go.Proofs.Ytllidkccikmgiaa.Pure
open Go.RowKit Go.Proofs.Ytllidkccikmgiaa.PFnLongestBits Go.Proofs.YtllidkccikmgiaaW.PrintWords Go.Proofs.YtllidkccikmgiaaW.PrintLast

/-! ### laws_big -/
theorem laws_big.eq (l : List Int) : laws_big.f l = some (decide (l.length > 1048576)) := by
  unfold laws_big.f
  congr 1
  exact decide_eq_decide.2 (by omega)
/-! ### spec_l01Open -/
theorem spec_l01Open.ok (l : List Int) (hl : l.length ≤ 1048576) (hb : ∀ x ∈ l, (Lit.int .u8 x).wf = true) : ∃ s : Int, spec_l01Open.f l = some (l, 0, s) ∧ CurOk l 0 s 0 :=
  ⟨_, rfl, fun x hx => bounds_u8 (hb x hx), hl, by omega, by omega, by omega, by omega⟩
/-! ### spec_l01Cur_pick -/
theorem spec_l01Cur_pick.ok {l : List Int} {a s : Int} {N : Nat} (h : CurOk l a s N) (hN : N ≤ 1000000000) (n : Int) (hn : n ≤ 4294967296) : ∃ v a' s' : Int, spec_l01Cur_pick.f l a s n = some (v, a', s') ∧ CurOk l a' s' (N + 1) ∧ 0 ≤ v ∧ (v = 0 ∨ v < n) := by
  obtain ⟨hb, hl, ha0, ha1, hs0, hs1⟩ := h
  unfold spec_l01Cur_pick.f
  by_cases h2 : n < 2
  · rw [if_pos h2]
    exact ⟨0, a, s, rfl, ⟨hb, hl, ha0, by omega, hs0, hs1⟩, by omega, .inl rfl⟩
  · rw [if_neg h2]
    by_cases h3 : a < (l.length : Int)
    · have hr := rd_all hb ha0 h3
      have ht := tmod_range (x := wrap64 (rd l a)) (m := n) (by rw [w64 (by omega) (by omega)]; omega) (by omega)
      rw [if_pos h3, if_pos ha0, if_neg (by omega)]
      refine ⟨_, _, _, rfl, ⟨hb, hl, ?_, ?_, hs0, hs1⟩, ht.1, .inr ht.2⟩
      · rw [w64 (by omega) (by omega)]; omega
      · rw [w64 (by omega) (by omega)]; omega
    · rw [if_neg h3]
      have hsd := seed_next hs0 hs1
      by_cases h4 : (l.length : Int) > 0
      · have hi := tmod_range (x := a) (m := (l.length : Int)) ha0 h4
        have hr := rd_all hb hi.1 hi.2
        rw [if_pos h4, if_neg (by omega), if_pos hi.1, if_pos hi.2, if_neg (by omega)]
        generalize Int.tmod (wrap64 ((wrap64 (s * 1103)) + 12345)) 65521 = s2 at hsd ⊢
        generalize rd l (Int.tmod a (l.length : Int)) = x at hr ⊢
        have e : wrap64 ((wrap64 (Int.tdiv s2 7)) + (wrap64 x)) = s2 / 7 + x := by
          rw [Int.tdiv_eq_ediv_of_nonneg hsd.1, w64 (x := s2 / 7) (by omega) (by omega), w64 (x := x) (by omega) (by omega), w64 (by omega) (by omega)]
        have ht := tmod_range (x := wrap64 ((wrap64 (Int.tdiv s2 7)) + (wrap64 x))) (m := n) (by rw [e]; omega) (by omega)
        refine ⟨_, _, _, rfl, ⟨hb, hl, ?_, ?_, hsd.1, hsd.2⟩, ht.1, .inr ht.2⟩
        · rw [w64 (by omega) (by omega)]; omega
        · rw [w64 (by omega) (by omega)]; omega
      · rw [if_neg h4, if_neg (by omega)]
        refine ⟨_, _, _, rfl, ⟨hb, hl, ?_, ?_, hsd.1, hsd.2⟩, ?_, .inl ?_⟩
        · rw [w64 (by omega) (by omega)]; omega
        · rw [w64 (by omega) (by omega)]; omega
        · simp
        · simp
/-! ### spec_l01Cur_raw -/
theorem spec_l01Cur_raw.ok {l : List Int} {a s : Int} {N : Nat} (h : CurOk l a s N) (hN : N ≤ 100000000) : ∃ v a' s' : Int, spec_l01Cur_raw.f l a s = some (v, a', s') ∧ CurOk l a' s' (N + 2) ∧ I64 v := by
  obtain ⟨v, a1, s1, e1, c1, _, _⟩ := spec_l01Cur_pick.ok h (by omega) 8 (by omega)
  unfold spec_l01Cur_raw.f
  rw [e1, Option.bind_some]
  by_cases h0 : v = 0
  · obtain ⟨v2, a2, s2, e2, c2, h3, h4⟩ := spec_l01Cur_pick.ok c1 (by omega) 256 (by omega)
    simp only [if_pos h0, e2, Option.bind_some]
    refine ⟨_, _, _, rfl, c2, ?_⟩
    rw [w64 (by omega) (by omega)]
    exact ⟨by omega, by omega⟩
  · by_cases h1 : v = 1
    · obtain ⟨v2, a2, s2, e2, c2, h3, h4⟩ := spec_l01Cur_pick.ok c1 (by omega) 8 (by omega)
      simp only [if_neg h0, if_pos h1, e2, Option.bind_some, List.length_cons, List.length_nil]
      rw [if_pos h3, if_pos (by omega)]
      refine ⟨_, _, _, rfl, c2, rd_all (P := I64) ?_ h3 (by simp only [List.length_cons, List.length_nil]; omega)⟩
      intro x hx
      simp only [List.mem_cons, List.not_mem_nil, or_false] at hx
      unfold I64
      omega
    · obtain ⟨v2, a2, s2, e2, c2, h3, h4⟩ := spec_l01Cur_pick.ok c1 (by omega) 14 (by omega)
      simp only [if_neg h0, if_neg h1, e2, Option.bind_some]
      refine ⟨_, _, _, rfl, c2, ?_⟩
      rw [w64 (by omega) (by omega)]
      exact ⟨by omega, by omega⟩
/-! ### spec_l01Cur_once -/
theorem spec_l01Cur_once.ok {l : List Int} {a s : Int} {N : Nat} (h : CurOk l a s N) (hN : N ≤ 100000000) (n : Int) (hn : n ≤ 4294967296) : ∃ (b : Bool) (a' s' : Int), spec_l01Cur_once.f l a s n = some (b, a', s') ∧ CurOk l a' s' (N + 1) := by
  obtain ⟨v, a1, s1, e1, c1, _, _⟩ := spec_l01Cur_pick.ok h (by omega) n hn
  exact ⟨v == wrap64 (n - 1), a1, s1, by simp only [spec_l01Cur_once.f, e1, Option.bind_some], c1⟩
/-! ### spec_l01Word -/
theorem spec_l01Word.loop (p : Nat → Bool) : ∀ j : Nat, j ≤ 32 → Ev (fun k => spec_l01Word.l0 k (btl p 32) ((wd p 32 / 2 ^ j : Nat) : Int) ((j : Int) - 1)) ((wd p 32 : Nat) : Int) := by
  intro j
  induction j with
  | zero =>
    intro _
    refine Ev.stop fun k => ?_
    simp only [spec_l01Word.l0]
    rw [if_neg (by omega), Nat.pow_zero, Nat.div_one]
  | succ j ih =>
    intro hj
    refine Ev.step (f := fun k => spec_l01Word.l0 k (btl p 32) ((wd p 32 / 2 ^ j : Nat) : Int) ((j : Int) - 1)) (fun k => ?_) (ih (by omega))
    have hlen := btl_len p 32
    have hi : (((j + 1 : Nat) : Int) - 1) = (j : Int) := by omega
    have h1 := div_lt (wd_lt32 p) j
    have h2 : wd p 32 / 2 ^ (j + 1) = wd p 32 / 2 ^ j / 2 := by rw [Nat.pow_succ, Nat.div_div_eq_div_mul]
    have h3 : (if p j = true then (1 : Int) else 0) = ((wd p 32 / 2 ^ j % 2 : Nat) : Int) := by
      have hb := wd_bit p 32 j
      have hj' : j < 32 := by omega
      rw [Nat.testBit_eq_decide_div_mod_eq, decide_eq_true hj', Bool.true_and] at hb
      rcases Nat.mod_two_eq_zero_or_one (wd p 32 / 2 ^ j) with h | h
      · rw [h] at hb ⊢
        rw [← hb]; rfl
      · rw [h] at hb ⊢
        rw [← hb]; rfl
    have h4 : (((2 * ((wd p 32 / 2 ^ (j + 1) : Nat) : Int)) % 4294967296) + ((if p j = true then (1 : Int) else 0) % 4294967296)) % 4294967296 = ((wd p 32 / 2 ^ j : Nat) : Int) := by
      rw [h3, h2]
      generalize wd p 32 / 2 ^ j = y at h1 ⊢
      omega
    simp only [spec_l01Word.l0]
    rw [hi, if_pos (by omega), if_pos (by omega), if_pos (by omega), btl_rd p (by omega : j < 32), w64 (by omega) (by omega), h4]
theorem spec_l01Word.ev (p : Nat → Bool) : Ev (fun k => spec_l01Word.f k (btl p 32)) ((wd p 32 : Nat) : Int) := by
  have h := spec_l01Word.loop p 32 (Nat.le_refl _)
  rw [Nat.div_eq_of_lt (wd_lt32 p)] at h
  refine Ev.congr (fun k => ?_) h
  simp only [spec_l01Word.f]
  rw [btl_len, w64 (by omega) (by omega)]
  rfl
/-! ### spec_BitsOf -/
theorem spec_BitsOf.loop (l : List Int) (hl : l.length < 4611686018427387904) (d : Nat) : ∀ (i : Nat) (q : Nat → Bool), i + d = l.length → Ev (fun k => spec_BitsOf.l0 k l (btl q 32) (i : Int)) (bofq q (l.drop i)) := by
  induction d with
  | zero =>
    intro i q hi
    rw [List.drop_eq_nil_of_le (by omega), bofq_nil]
    refine Ev.step (f := fun k => (spec_l01Word.f k (btl q 32)).bind fun t => some (t, true)) (fun k => ?_) (Ev.bind (spec_l01Word.ev q) (Ev.now _))
    simp only [spec_BitsOf.l0]
    rw [if_neg (by omega)]
  | succ d ih =>
    intro i q hi
    have hlt : i < l.length := by omega
    rw [drop_rd l hlt, bofq_cons]
    generalize hb : rd l (i : Int) = b
    by_cases h1 : b < 0
    · rw [if_pos (.inl h1)]
      refine Ev.stop fun k => ?_
      simp only [spec_BitsOf.l0]
      rw [if_pos (by omega), if_pos (by omega), hb, if_pos h1]
    · by_cases h2 : b > 31
      · rw [if_pos (.inr h2)]
        refine Ev.stop fun k => ?_
        simp only [spec_BitsOf.l0]
        rw [if_pos (by omega), if_pos (by omega), hb, if_neg h1, if_pos h2]
      · rw [if_neg (by omega)]
        obtain ⟨c, rfl⟩ : ∃ c : Nat, b = c := ⟨b.toNat, by omega⟩
        rw [Int.toNat_natCast]
        have hlen := btl_len q 32
        have hc : c < 32 := by omega
        by_cases h3 : q c = true
        · rw [if_pos h3]
          refine Ev.stop fun k => ?_
          simp only [spec_BitsOf.l0]
          rw [if_pos (by omega), if_pos (by omega), hb, if_neg h1, if_neg h2, if_pos (by omega), if_pos (by omega), btl_rd q hc, if_pos h3, if_pos rfl]
        · rw [if_neg h3]
          refine Ev.step (f := fun k => spec_BitsOf.l0 k l (btl (fun j => q j || j == c) 32) ((i + 1 : Nat) : Int)) (fun k => ?_) (ih (i + 1) _ (by omega))
          simp only [spec_BitsOf.l0]
          rw [if_pos (by omega), if_pos (by omega), hb, if_neg h1, if_neg h2, if_pos (by omega), if_pos (by omega), btl_rd q hc, if_neg h3, if_neg (by decide), Int.toNat_natCast, btl_set q 32 hc, w64_succ (by omega)]
theorem spec_BitsOf.ev (l : List Int) (hl : l.length < 4611686018427387904) : Ev (fun k => spec_BitsOf.f k l) (bof l) := by
  refine Ev.congr (fun k => ?_) (spec_BitsOf.loop l hl l.length 0 (fun _ => false) (by omega))
  simp only [spec_BitsOf.f]
  rw [if_pos (by decide), btl_none]
  rfl
/-! ### spec_l01Cur_wide -/
theorem spec_l01Cur_wide.ok {l : List Int} {a s : Int} {N : Nat} (h : CurOk l a s N) (hN : N ≤ 100000000) (n : Int) (hn0 : 0 < n) : ∃ v a' s' : Int, spec_l01Cur_wide.f l a s n = some (v, a', s') ∧ CurOk l a' s' (N + 3) ∧ 0 ≤ v ∧ v < n := by
  obtain ⟨v1, a1, s1, e1, c1, h1, g1⟩ := spec_l01Cur_pick.ok h (by omega) 256 (by omega)
  obtain ⟨v2, a2, s2, e2, c2, h2, g2⟩ := spec_l01Cur_pick.ok c1 (by omega) 256 (by omega)
  obtain ⟨v3, a3, s3, e3, c3, h3, g3⟩ := spec_l01Cur_pick.ok c2 (by omega) 256 (by omega)
  have e : wrap64 ((wrap64 ((wrap64 (65536 * v1)) + (wrap64 (256 * v2)))) + v3) = 65536 * v1 + 256 * v2 + v3 := by
    rw [w64 (x := 65536 * v1) (by omega) (by omega), w64 (x := 256 * v2) (by omega) (by omega), w64 (x := 65536 * v1 + 256 * v2) (by omega) (by omega), w64 (by omega) (by omega)]
  have ht := tmod_range (x := 65536 * v1 + 256 * v2 + v3) (m := n) (by omega) hn0
  refine ⟨_, _, _, ?_, c3, ht.1, ht.2⟩
  simp only [spec_l01Cur_wide.f, e1, e2, e3, Option.bind_some, e]
  rw [if_neg (by omega)]
/-! ### spec_l01Cur_word -/
theorem spec_l01Cur_word.ok {l : List Int} {a s : Int} {N : Nat} (h : CurOk l a s N) (hN : N ≤ 10000000) : ∃ v a' s' : Int, spec_l01Cur_word.f l a s = some (v, a', s') ∧ CurOk l a' s' (N + 5) ∧ U32 v := by
  obtain ⟨v1, a1, s1, e1, c1, h1, g1⟩ := spec_l01Cur_pick.ok h (by omega) 256 (by omega)
  obtain ⟨v2, a2, s2, e2, c2, h2, g2⟩ := spec_l01Cur_wide.ok c1 (by omega) 16777216 (by omega)
  obtain ⟨v3, a3, s3, e3, c3, h3, g3⟩ := spec_l01Cur_pick.ok c2 (by omega) 7 (by omega)
  simp only [spec_l01Cur_word.f, e1, e2, e3, Option.bind_some, List.length_cons, List.length_nil]
  rw [if_pos h3, if_pos (by omega)]
  refine ⟨_, _, _, rfl, c3.more (by omega), rd_all (P := U32) ?_ h3 (by simp only [List.length_cons, List.length_nil]; omega)⟩
  intro x hx
  unfold U32
  simp only [List.mem_cons, List.not_mem_nil, or_false] at hx
  omega
/-! ### spec_l01Cur_bits -/
theorem spec_l01Cur_bits.ok {l : List Int} {a s : Int} {N : Nat} (h : CurOk l a s N) (hN : N ≤ 900000) : ∃ (n : Nat) (a' s' : Int), Ev (fun k => spec_l01Cur_bits.f k l a s) ((n : Int), a', s') ∧ CurOk l a' s' (N + 9) ∧ n < 2 ^ 32 := by
  obtain ⟨v1, a1, s1, e1, c1, h1⟩ := spec_l01Cur_word.ok h (by omega)
  obtain ⟨b, a2, s2, e2, c2⟩ := spec_l01Cur_once.ok c1 (by omega) 2 (by omega)
  by_cases hb : b = true
  · obtain ⟨v3, a3, s3, e3, c3, h3, g3⟩ := spec_l01Cur_pick.ok c2 (by omega) 8 (by omega)
    obtain ⟨v4, a4, s4, e4, c4, h4, g4⟩ := spec_l01Cur_pick.ok c3 (by omega) 8 (by omega)
    obtain ⟨v5, a5, s5, e5, c5, h5, g5⟩ := spec_l01Cur_pick.ok c4 (by omega) 16 (by omega)
    obtain ⟨n, hn1, hn2⟩ := bof_u32 [v3, wrap64 (8 + v4), wrap64 (16 + v5)]
    obtain ⟨K, hK⟩ := spec_BitsOf.ev [v3, wrap64 (8 + v4), wrap64 (16 + v5)] (by simp)
    refine ⟨n, a5, s5, ⟨K, fun k hk => ?_⟩, c5.more (by omega), hn2⟩
    have e6 := hK k hk
    simp only [spec_l01Cur_bits.f, e1, e2, e3, e4, e5, e6, Option.bind_some, if_pos hb, hn1]
  · obtain ⟨n, rfl, hn⟩ := u32_of h1
    refine ⟨n, a2, s2, ⟨0, fun k _ => ?_⟩, c2.more (by omega), hn⟩
    simp only [spec_l01Cur_bits.f, e1, e2, Option.bind_some, if_neg hb]
/-! ### spec_DrawLongest -/
theorem spec_DrawLongest.ok (l : List Int) (hl : l.length ≤ 1048576) (hb : ∀ x ∈ l, (Lit.int .u8 x).wf = true) : ∃ (n : Nat) (w : Int), Ev (fun k => spec_DrawLongest.f k l) ((n : Int), w) ∧ n < 2 ^ 32 ∧ I64 w := by
  obtain ⟨s0, e0, c0⟩ := spec_l01Open.ok l hl hb
  obtain ⟨n, a1, s1, ⟨K, hK⟩, c1, hn⟩ := spec_l01Cur_bits.ok c0 (by omega)
  obtain ⟨v2, a2, s2, e2, c2, h2, g2⟩ := spec_l01Cur_pick.ok c1 (by omega) 34 (by omega)
  obtain ⟨v3, a3, s3, e3, c3, h3⟩ := spec_l01Cur_raw.ok c2 (by omega)
  obtain ⟨v4, a4, s4, e4, c4, h4, g4⟩ := spec_l01Cur_pick.ok c3 (by omega) 4 (by omega)
  refine ⟨n, rd [v2, 32, 16, v3] v4, ⟨K, fun k hk => ?_⟩, hn, rd_all (P := I64) ?_ h4 (by simp only [List.length_cons, List.length_nil]; omega)⟩
  · have e1 := hK k hk
    simp only [spec_DrawLongest.f, e0, e1, e2, e3, e4, Option.bind_some, List.length_cons, List.length_nil]
    rw [if_pos h4, if_pos (by omega)]
  · intro x hx
    unfold I64 at h3 ⊢
    simp only [List.mem_cons, List.not_mem_nil, or_false] at hx
    omega
/-! ### impl_within -/
theorem impl_within.eq (a lo hi : Int) : impl_within.f a lo hi = some (decide (lo ≤ a ∧ a ≤ hi)) := by
  unfold impl_within.f
  split
  · rename_i h
    have : lo ≤ a := h
    simp [this]
  · rename_i h
    have : ¬ lo ≤ a := h
    simp [this]
/-! ### impl_Longest -/
theorem impl_Longest.inner (x : Nat) (hx : x < 2 ^ 32) (w i s m : Nat) (hw : w ≤ 32) (r : Int × Int)
    (hlast : run x.testBit w (w - i) i > m → Ev (fun k => impl_Longest.l0 k (x : Int) (w : Int) (i : Int) ((run x.testBit w (w - i) i : Nat) : Int) (w : Int) ((i + 1 : Nat) : Int)) r)
    (hkeep : ¬ run x.testBit w (w - i) i > m → Ev (fun k => impl_Longest.l0 k (x : Int) (w : Int) (s : Int) (m : Int) (w : Int) ((i + 1 : Nat) : Int)) r) (d : Nat) :
    ∀ n : Nat, i + n + d = w → run x.testBit w (w - i) i = n + run x.testBit w d (i + n) → Ev (fun k => impl_Longest.l1 k (x : Int) (w : Int) (s : Int) (m : Int) (i : Int) ((i + n : Nat) : Int) (w : Int) (i : Int)) r := by
  induction d with
  | zero =>
    intro n hn hr
    simp only [run, Nat.add_zero] at hr
    have e : wrap64 (((i + n : Nat) : Int) - (i : Int)) = (n : Int) := by rw [w64 (by omega) (by omega)]; omega
    by_cases h : run x.testBit w (w - i) i > m
    · refine Ev.step (fun k => ?_) (hlast h)
      simp only [impl_Longest.l1]
      rw [if_neg (by omega), e, if_pos (by omega), w64_succ (by omega), hr]
    · refine Ev.step (fun k => ?_) (hkeep h)
      simp only [impl_Longest.l1]
      rw [if_neg (by omega), e, if_neg (by omega), w64_succ (by omega)]
  | succ d ih =>
    intro n hn hr
    simp only [run] at hr
    have e : wrap64 (((i + n : Nat) : Int) - (i : Int)) = (n : Int) := by rw [w64 (by omega) (by omega)]; omega
    by_cases hp : x.testBit (i + n) = true
    · rw [if_neg (by simp [hp])] at hr
      have hr' : run x.testBit w (w - i) i = n := hr
      by_cases h : run x.testBit w (w - i) i > m
      · refine Ev.step (fun k => ?_) (hlast h)
        simp only [impl_Longest.l1]
        rw [if_pos (by omega), if_pos (by omega), bit_at hx (by omega), if_pos hp, if_neg (by decide), e, if_pos (by omega), w64_succ (by omega), hr']
      · refine Ev.step (fun k => ?_) (hkeep h)
        simp only [impl_Longest.l1]
        rw [if_pos (by omega), if_pos (by omega), bit_at hx (by omega), if_pos hp, if_neg (by decide), e, if_neg (by omega), w64_succ (by omega)]
    · rw [if_pos ⟨by omega, by simpa using hp⟩] at hr
      refine Ev.step (fun k => ?_) (ih (n + 1) (by omega) (by rw [hr, show i + (n + 1) = i + n + 1 by omega]; omega))
      simp only [impl_Longest.l1]
      rw [if_pos (by omega), if_pos (by omega), bit_at hx (by omega), if_neg hp, if_pos rfl, w64_succ (by omega)]
      rfl
theorem impl_Longest.outer (x : Nat) (hx : x < 2 ^ 32) (w : Nat) (hw : w ≤ 32) (d : Nat) : ∀ i s m : Nat, i + d = w → Ev (fun k => impl_Longest.l0 k (x : Int) (w : Int) (s : Int) (m : Int) (w : Int) (i : Int)) (lng x.testBit w d i s m) := by
  induction d with
  | zero =>
    intro i s m hi
    refine Ev.stop fun k => ?_
    simp only [impl_Longest.l0, lng]
    rw [if_neg (by omega)]
  | succ d ih =>
    intro i s m hi
    refine Ev.step (f := fun k => impl_Longest.l1 k (x : Int) (w : Int) (s : Int) (m : Int) (i : Int) (i : Int) (w : Int) (i : Int)) (fun k => ?_) ?_
    · simp only [impl_Longest.l0]
      rw [if_pos (by omega)]
    · refine impl_Longest.inner x hx w i s m hw _ (fun h => ?_) (fun h => ?_) (w - i) 0 (by omega) (by rw [Nat.zero_add]; rfl)
      · simp only [lng]; rw [if_pos h]; exact ih _ _ _ (by omega)
      · simp only [lng]; rw [if_neg h]; exact ih _ _ _ (by omega)
theorem impl_Longest.ev (n : Nat) (hn : n < 2 ^ 32) (w : Nat) (hw : w ≤ 32) : Ev (fun k => impl_Longest.f k (n : Int) (w : Int)) (lng n.testBit w w 0 0 0) := by
  refine Ev.congr (fun k => ?_) (impl_Longest.outer n hn w hw w 0 0 0 (by omega))
  simp only [impl_Longest.f]
  rw [impl_within.eq, Option.bind_some, if_pos (by simp; omega)]
  rfl
theorem impl_Longest.out (k : Nat) (x w : Int) (hw : w < 0 ∨ 32 < w) : impl_Longest.f k x w = some (-1, 0) := by
  unfold impl_Longest.f
  rw [impl_within.eq, Option.bind_some, if_neg (by simp; omega)]
/-! ### spec_l01Bits -/
theorem spec_l01Bits.loop (n : Nat) (hn : n < 2 ^ 32) (d : Nat) : ∀ i : Nat, i + d = 32 → Ev (fun k => spec_l01Bits.l0 k ((n / 2 ^ i : Nat) : Int) (btl n.testBit i) (i : Int)) (btl n.testBit 32) := by
  induction d with
  | zero =>
    intro i hi
    obtain rfl : i = 32 := by omega
    refine Ev.stop fun k => ?_
    simp only [spec_l01Bits.l0]
    rw [if_neg (by omega)]
  | succ d ih =>
    intro i hi
    refine Ev.step (f := fun k => spec_l01Bits.l0 k ((n / 2 ^ (i + 1) : Nat) : Int) (btl n.testBit (i + 1)) ((i + 1 : Nat) : Int)) (fun k => ?_) (ih (i + 1) (by omega))
    have hlen := btl_len n.testBit i
    have hlt := div_lt hn i
    have e1 : Int.tdiv ((n / 2 ^ i : Nat) : Int) 2 % 4294967296 = ((n / 2 ^ (i + 1) : Nat) : Int) := by
      rw [Int.tdiv_eq_ediv_of_nonneg (Int.natCast_nonneg _), Nat.pow_succ, ← Nat.div_div_eq_div_mul]
      generalize n / 2 ^ i = y at hlt ⊢
      omega
    have e2 : wrap64 (Int.tmod ((n / 2 ^ i : Nat) : Int) 2) = if n.testBit i = true then 1 else 0 := by
      rw [Int.tmod_eq_emod_of_nonneg (Int.natCast_nonneg _), Nat.testBit_eq_decide_div_mod_eq]
      have h := Nat.mod_two_eq_zero_or_one (n / 2 ^ i)
      have h2 : ((n / 2 ^ i : Nat) : Int) % 2 = ((n / 2 ^ i % 2 : Nat) : Int) := (Int.natCast_emod _ _).symm
      rw [h2]
      rcases h with h | h
      · rw [h]; exact wrap64_0
      · rw [h]; exact wrap64_1
    simp only [spec_l01Bits.l0]
    rw [if_pos (by omega), if_pos (by omega), w64_succ (by omega), e1, e2, btl_succ]
theorem spec_l01Bits.ev (n : Nat) (hn : n < 2 ^ 32) : Ev (fun k => spec_l01Bits.f k (n : Int)) (btl n.testBit 32) := by
  have h := spec_l01Bits.loop n hn 32 0 rfl
  rw [Nat.pow_zero, Nat.div_one] at h
  exact Ev.congr (fun _ => rfl) h
/-! ### spec_Longest -/
theorem spec_Longest.inner (p : Nat → Bool) (w i s m : Nat) (hw : w ≤ 32) (r : Int × Int)
    (hlast : run p w (w - i) i > m → Ev (fun k => spec_Longest.l0 k (w : Int) (btl p 32) (i : Int) ((run p w (w - i) i : Nat) : Int) ((i + 1 : Nat) : Int)) r)
    (hkeep : ¬ run p w (w - i) i > m → Ev (fun k => spec_Longest.l0 k (w : Int) (btl p 32) (s : Int) (m : Int) ((i + 1 : Nat) : Int)) r) (d : Nat) :
    ∀ n : Nat, i + n + d = w → run p w (w - i) i = n + run p w d (i + n) → Ev (fun k => spec_Longest.l1 k (w : Int) (btl p 32) (s : Int) (m : Int) (i : Int) (n : Int)) r := by
  induction d with
  | zero =>
    intro n hn hr
    simp only [run, Nat.add_zero] at hr
    have e : wrap64 ((i : Int) + (n : Int)) = ((i + n : Nat) : Int) := by rw [w64 (by omega) (by omega)]; omega
    by_cases h : run p w (w - i) i > m
    · refine Ev.step (fun k => ?_) (hlast h)
      simp only [spec_Longest.l1]
      rw [e, if_neg (by omega), if_pos (by omega), w64_succ (by omega), hr]
    · refine Ev.step (fun k => ?_) (hkeep h)
      simp only [spec_Longest.l1]
      rw [e, if_neg (by omega), if_neg (by omega), w64_succ (by omega)]
  | succ d ih =>
    intro n hn hr
    simp only [run] at hr
    have e : wrap64 ((i : Int) + (n : Int)) = ((i + n : Nat) : Int) := by rw [w64 (by omega) (by omega)]; omega
    have hlen := btl_len p 32
    by_cases hp : p (i + n) = true
    · rw [if_neg (by simp [hp])] at hr
      have hr' : run p w (w - i) i = n := hr
      by_cases h : run p w (w - i) i > m
      · refine Ev.step (fun k => ?_) (hlast h)
        simp only [spec_Longest.l1]
        rw [e, if_pos (by omega), if_pos (by omega), if_pos (by omega), btl_rd p (by omega), if_pos hp, if_neg (by decide), if_pos (by omega), w64_succ (by omega), hr']
      · refine Ev.step (fun k => ?_) (hkeep h)
        simp only [spec_Longest.l1]
        rw [e, if_pos (by omega), if_pos (by omega), if_pos (by omega), btl_rd p (by omega), if_pos hp, if_neg (by decide), if_neg (by omega), w64_succ (by omega)]
    · rw [if_pos ⟨by omega, by simpa using hp⟩] at hr
      refine Ev.step (fun k => ?_) (ih (n + 1) (by omega) (by rw [hr, show i + (n + 1) = i + n + 1 by omega]; omega))
      simp only [spec_Longest.l1]
      rw [e, if_pos (by omega), if_pos (by omega), if_pos (by omega), btl_rd p (by omega), if_neg hp, if_pos rfl, w64_succ (by omega)]
theorem spec_Longest.outer (p : Nat → Bool) (w : Nat) (hw : w ≤ 32) (d : Nat) : ∀ i s m : Nat, i + d = w → Ev (fun k => spec_Longest.l0 k (w : Int) (btl p 32) (s : Int) (m : Int) (i : Int)) (lng p w d i s m) := by
  induction d with
  | zero =>
    intro i s m hi
    refine Ev.stop fun k => ?_
    simp only [spec_Longest.l0, lng]
    rw [if_neg (by omega)]
  | succ d ih =>
    intro i s m hi
    refine Ev.step (f := fun k => spec_Longest.l1 k (w : Int) (btl p 32) (s : Int) (m : Int) (i : Int) 0) (fun k => ?_) ?_
    · simp only [spec_Longest.l0]
      rw [if_pos (by omega)]
    · refine spec_Longest.inner p w i s m hw _ (fun h => ?_) (fun h => ?_) (w - i) 0 (by omega) (by rw [Nat.zero_add]; rfl)
      · simp only [lng]; rw [if_pos h]; exact ih _ _ _ (by omega)
      · simp only [lng]; rw [if_neg h]; exact ih _ _ _ (by omega)
theorem spec_Longest.ev (n : Nat) (hn : n < 2 ^ 32) (w : Nat) (hw : w ≤ 32) : Ev (fun k => spec_Longest.f k (n : Int) (w : Int)) (lng n.testBit w w 0 0 0) := by
  refine Ev.congr (f := fun k => spec_Longest.j0 k (n : Int) (w : Int) (decide ((w : Int) > 32))) (fun k => ?_) ?_
  · simp only [spec_Longest.f]
    rw [if_neg (by omega)]
  · refine Ev.step (f := fun k => (spec_l01Bits.f k (n : Int)).bind fun t => spec_Longest.l0 k (w : Int) t 0 0 0) (fun k => ?_) (Ev.bind (spec_l01Bits.ev n hn) (spec_Longest.outer n.testBit w hw w 0 0 0 (by omega)))
    simp only [spec_Longest.j0]
    rw [if_neg (by simp; omega)]
theorem spec_Longest.out (x w : Int) (hw : w < 0 ∨ 32 < w) : Ev (fun k => spec_Longest.f k x w) (-1, 0) := by
  by_cases h : w < 0
  · refine Ev.congr (f := fun k => spec_Longest.j0 k x w true) (fun k => ?_) (Ev.stop fun k => ?_)
    · simp only [spec_Longest.f]
      rw [if_pos h]
    · simp only [spec_Longest.j0]
      rw [if_pos trivial]
  · refine Ev.congr (f := fun k => spec_Longest.j0 k x w (decide (w > 32))) (fun k => ?_) (Ev.stop fun k => ?_)
    · simp only [spec_Longest.f]
      rw [if_neg h]
    · simp only [spec_Longest.j0]
      rw [if_pos (by simp; omega)]
/-! ### impl_BitList -/
theorem impl_BitList.loop (n : Nat) (hn : n < 2 ^ 32) (d : Nat) : ∀ i : Nat, i + d = 32 → Ev (fun k => impl_BitList.l0 k (n : Int) (blp n.testBit i) (i : Int)) (blp n.testBit 32) := by
  induction d with
  | zero =>
    intro i hi
    obtain rfl : i = 32 := by omega
    refine Ev.stop fun k => ?_
    simp only [impl_BitList.l0]
    rw [if_neg (by omega)]
  | succ d ih =>
    intro i hi
    refine Ev.step (f := fun k => impl_BitList.l0 k (n : Int) (blp n.testBit (i + 1)) ((i + 1 : Nat) : Int)) (fun k => ?_) (ih (i + 1) (by omega))
    have hlen := blp_len_le n.testBit i
    simp only [impl_BitList.l0]
    rw [if_pos (by omega), if_pos (by omega), bit_at hn (by omega : i ≤ 32), w64_succ (by omega)]
    by_cases hp : n.testBit i = true
    · rw [if_pos hp, if_pos rfl, if_pos (by omega)]
      simp only [blp, if_pos hp]
    · rw [if_neg hp, if_neg (by decide)]
      simp only [blp, if_neg hp, List.append_nil]
theorem impl_BitList.ev (n : Nat) (hn : n < 2 ^ 32) : Ev (fun k => impl_BitList.f k (n : Int)) (blp n.testBit 32) :=
  Ev.congr (fun _ => rfl) (impl_BitList.loop n hn 32 0 rfl)
/-! ### laws_func1 -/
theorem laws_func1.loop (l : List Int) (a : Int) (hl : l.length < 4611686018427387904) (d : Nat) : ∀ i : Nat, i + d = l.length → Ev (fun k => laws_func1.l0 k l a (i : Int)) (decide (a ∈ l.drop i)) := by
  induction d with
  | zero =>
    intro i hi
    refine Ev.stop fun k => ?_
    simp only [laws_func1.l0]
    rw [if_neg (by omega), List.drop_eq_nil_of_le (by omega)]
    simp
  | succ d ih =>
    intro i hi
    rw [drop_rd l (by omega)]
    by_cases h : rd l (i : Int) = a
    · refine Ev.stop fun k => ?_
      simp only [laws_func1.l0]
      rw [if_pos (by omega), if_pos (by omega), if_pos h, decide_eq_true (by rw [h]; exact List.mem_cons_self)]
    · have e : decide (a ∈ rd l (i : Int) :: l.drop (i + 1)) = decide (a ∈ l.drop (i + 1)) := decide_eq_decide.2 (by
        rw [List.mem_cons]
        exact ⟨fun h2 => h2.resolve_left (fun h3 => h h3.symm), .inr⟩)
      rw [e]
      refine Ev.step (f := fun k => laws_func1.l0 k l a ((i + 1 : Nat) : Int)) (fun k => ?_) (ih (i + 1) (by omega))
      simp only [laws_func1.l0]
      rw [if_pos (by omega), if_pos (by omega), if_neg h, w64_succ (by omega)]
theorem laws_func1.ev (l : List Int) (a : Int) (hl : l.length < 4611686018427387904) : Ev (fun k => laws_func1.f k l a) (decide (a ∈ l)) :=
  Ev.congr (fun _ => rfl) (laws_func1.loop l a hl l.length 0 (by omega))
/-! ### laws_FnLongestBits -/
theorem laws_FnLongestBits.loop (n : Nat) (w s m : Nat) (hw : w ≤ 32) (hf : Full n.testBit w s m) (d : Nat) : ∀ i : Nat, i + d = (blp n.testBit 32).length → Ev (fun k => laws_FnLongestBits.l0 k (w : Int) (s : Int) (m : Int) (blp n.testBit 32) (i : Int)) true := by
  have hlen := blp_len_le n.testBit 32
  obtain ⟨f1, f2, f3, f4⟩ := hf
  have hsm : wrap64 ((s : Int) + (m : Int)) = ((s + m : Nat) : Int) := by rw [w64 (by omega) (by omega)]; omega
  induction d with
  | zero =>
    intro i hi
    have hs1 : wrap64 ((s : Int) - 1) = (s : Int) - 1 := w64 (by omega) (by omega)
    obtain ⟨K, hK⟩ := (laws_func1.ev (blp n.testBit 32) ((s : Int) - 1) (by omega)).and (laws_func1.ev (blp n.testBit 32) ((s + m : Nat) : Int) (by omega)).last
    refine Ev.step (f := fun k => (laws_func1.f k (blp n.testBit 32) ((s : Int) - 1)).bind fun t => (laws_func1.f k (blp n.testBit 32) ((s + m : Nat) : Int)).bind fun u => if (s : Int) = 0 then (if ((s + m : Nat) : Int) = (w : Int) then some true else some u) else (if t = true then (if ((s + m : Nat) : Int) = (w : Int) then some true else some u) else some false)) (fun k => ?_) ⟨K, fun k hk => ?_⟩
    · simp only [laws_FnLongestBits.l0]
      rw [if_neg (by omega), hs1, hsm]
    · obtain ⟨e1, e2⟩ := hK k hk
      simp only [e1, e2, Option.bind_some]
      have hlast : (if ((s + m : Nat) : Int) = (w : Int) then some true else some (decide (((s + m : Nat) : Int) ∈ blp n.testBit 32))) = some true := by
        rcases f4 with h | h
        · rw [if_pos (by omega)]
        · by_cases h2 : s + m = w
          · rw [if_pos (by omega)]
          · rw [if_neg (by omega), decide_eq_true ((blp_mem _ _ _).2 ⟨s + m, by omega, h, rfl⟩)]
      by_cases h0 : (s : Int) = 0
      · rw [if_pos h0]; exact hlast
      · rcases f3 with h | h
        · omega
        · rw [if_neg h0, if_pos (decide_eq_true ((blp_mem _ _ _).2 ⟨s - 1, by omega, h, by omega⟩))]
          exact hlast
  | succ d ih =>
    intro i hi
    obtain ⟨j, _, hj, _, hr⟩ := blp_rd_lt n.testBit (m := 32) (i := i) (by omega)
    refine Ev.step (f := fun k => laws_FnLongestBits.l0 k (w : Int) (s : Int) (m : Int) (blp n.testBit 32) ((i + 1 : Nat) : Int)) (fun k => ?_) (ih (i + 1) (by omega))
    simp only [laws_FnLongestBits.l0]
    rw [if_pos (by omega), if_pos (by omega), hr, hsm, w64_succ (by omega)]
    by_cases h1 : (j : Int) ≥ (s : Int)
    · have h2 : ¬ (j : Int) < ((s + m : Nat) : Int) := fun h2 => by
        have := f2 j (by omega) (by omega)
        rw [this] at hj
        cases hj
      rw [if_pos h1, if_neg h2]
    · rw [if_neg h1]
theorem FnLongestBits : laws_FnLongestBits.Pure := by
  intro l _ _ hb
  by_cases hlen : l.length > 1048576
  · refine ⟨0, ?_⟩
    simp only [laws_FnLongestBits.f]
    rw [laws_big.eq, Option.bind_some, if_pos (by simpa using hlen)]
  · have hbig : laws_big.f l = some false := by rw [laws_big.eq, decide_eq_false hlen]
    obtain ⟨n, w, e0, hn, _⟩ := spec_DrawLongest.ok l (by omega) hb
    by_cases hw : w < 0 ∨ 32 < w
    · have hj : Ev (fun k => laws_FnLongestBits.j0 k (n : Int) w (-1) 0 (-1) 0 true) true := Ev.stop fun k => by
        simp only [laws_FnLongestBits.j0]
        rw [if_pos trivial, if_pos trivial]
        rfl
      obtain ⟨k, e1, e2, e3⟩ := (e0.and ((spec_Longest.out (n : Int) w hw).and hj.last)).pick
      refine ⟨k, ?_⟩
      simp only [laws_FnLongestBits.f, hbig, e1, e2, impl_Longest.out k _ _ hw, Option.bind_some, if_true, Bool.false_eq_true, if_false]
      exact e3
    · obtain ⟨w, rfl⟩ : ∃ v : Nat, w = v := ⟨w.toNat, by omega⟩
      obtain ⟨s, m, hlng, hf⟩ := lng_full n.testBit w w 0 0 0 (by omega) (.inl rfl) (fun j hj => by omega)
      have hj : Ev (fun k => laws_FnLongestBits.j0 k (n : Int) (w : Int) (s : Int) (m : Int) (s : Int) (m : Int) ((m : Int) == 0)) true := by
        by_cases hm : m = 0
        · subst hm
          refine Ev.stop fun k => ?_
          simp only [laws_FnLongestBits.j0]
          rw [if_pos (by simp), if_pos trivial]
          simp
        · have hm' : ((m : Int) == 0) = false := by simp; omega
          rw [hm']
          refine Ev.step (f := fun k => (impl_BitList.f k (n : Int)).bind fun t => laws_FnLongestBits.l0 k (w : Int) (s : Int) (m : Int) t 0) (fun k => ?_) (Ev.bind (f := fun k t => laws_FnLongestBits.l0 k (w : Int) (s : Int) (m : Int) t 0) (impl_BitList.ev n hn) (laws_FnLongestBits.loop n w s m (by omega) (hf.resolve_left hm) (blp n.testBit 32).length 0 (by omega)))
          simp only [laws_FnLongestBits.j0]
          rw [if_neg (by decide)]
      obtain ⟨k, e1, e2, e3, e4⟩ := (e0.and ((spec_Longest.ev n hn w (by omega)).and ((impl_Longest.ev n hn w (by omega)).and hj.last))).pick
      refine ⟨k, ?_⟩
      rw [hlng] at e2 e3
      simp only [laws_FnLongestBits.f, hbig, e1, e2, e3, Option.bind_some, if_true, Bool.false_eq_true, if_false]
      exact e4

end Go.Proofs.Ytllidkccikmgiaa.Pure
