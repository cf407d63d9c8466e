/-
  The law FnLow: what both programs compute, in plain Lean, and that it is the same.
  Conditions: none beyond those of the statement itself.
-/
import Derived.Test.YtllidkccikmgiaaPFnLowx4
import Derived.Test.YtllidkccikmgiaaLib
namespace Go.Proofs.Ytllidkccikmgiaa.Pure
open Go.RowKit Go.Proofs.Ytllidkccikmgiaa.PFnLow Go.Proofs.YtllidkccikmgiaaW.PrintWords Go.Proofs.YtllidkccikmgiaaW.PrintLast

/-! ### laws_big -/
theorem laws_big.eq (l : List Int) : laws_big.f l = some (decide (l.length > 1048576)) := by
  unfold laws_big.f
  congr 1
  exact decide_eq_decide.2 (by omega)
/-! ### impl_BitList -/
theorem impl_BitList.loop (n : Nat) (hn : n < 2 ^ 32) (d : Nat) : ∀ i : Nat, i + d = 32 → Ev (fun k => impl_BitList.l0 k (n : Int) (blp n.testBit i) (i : Int)) (blp n.testBit 32) := by
  induction d with
  | zero =>
    intro i hi
    obtain rfl : i = 32 := by omega
    refine Ev.stop fun k => ?_
    simp only [impl_BitList.l0]
    rw [if_neg (by omega)]
  | succ d ih =>
    intro i hi
    refine Ev.step (f := fun k => impl_BitList.l0 k (n : Int) (blp n.testBit (i + 1)) ((i + 1 : Nat) : Int)) (fun k => ?_) (ih (i + 1) (by omega))
    have hlen := blp_len_le n.testBit i
    simp only [impl_BitList.l0]
    rw [if_pos (by omega), if_pos (by omega), bit_at hn (by omega : i ≤ 32), w64_succ (by omega)]
    by_cases hp : n.testBit i = true
    · rw [if_pos hp, if_pos rfl, if_pos (by omega)]
      simp only [blp, if_pos hp]
    · rw [if_neg hp, if_neg (by decide)]
      simp only [blp, if_neg hp, List.append_nil]
theorem impl_BitList.ev (n : Nat) (hn : n < 2 ^ 32) : Ev (fun k => impl_BitList.f k (n : Int)) (blp n.testBit 32) :=
  Ev.congr (fun _ => rfl) (impl_BitList.loop n hn 32 0 rfl)
/-! ### spec_l01Open -/
theorem spec_l01Open.ok (l : List Int) (hl : l.length ≤ 1048576) (hb : ∀ x ∈ l, (Lit.int .u8 x).wf = true) : ∃ s : Int, spec_l01Open.f l = some (l, 0, s) ∧ CurOk l 0 s 0 :=
  ⟨_, rfl, fun x hx => bounds_u8 (hb x hx), hl, by omega, by omega, by omega, by omega⟩
/-! ### spec_l01Cur_pick -/
theorem spec_l01Cur_pick.ok {l : List Int} {a s : Int} {N : Nat} (h : CurOk l a s N) (hN : N ≤ 1000000000) (n : Int) (hn : n ≤ 4294967296) : ∃ v a' s' : Int, spec_l01Cur_pick.f l a s n = some (v, a', s') ∧ CurOk l a' s' (N + 1) ∧ 0 ≤ v ∧ (v = 0 ∨ v < n) := by
  obtain ⟨hb, hl, ha0, ha1, hs0, hs1⟩ := h
  unfold spec_l01Cur_pick.f
  by_cases h2 : n < 2
  · rw [if_pos h2]
    exact ⟨0, a, s, rfl, ⟨hb, hl, ha0, by omega, hs0, hs1⟩, by omega, .inl rfl⟩
  · rw [if_neg h2]
    by_cases h3 : a < (l.length : Int)
    · have hr := rd_all hb ha0 h3
      have ht := tmod_range (x := wrap64 (rd l a)) (m := n) (by rw [w64 (by omega) (by omega)]; omega) (by omega)
      rw [if_pos h3, if_pos ha0, if_neg (by omega)]
      refine ⟨_, _, _, rfl, ⟨hb, hl, ?_, ?_, hs0, hs1⟩, ht.1, .inr ht.2⟩
      · rw [w64 (by omega) (by omega)]; omega
      · rw [w64 (by omega) (by omega)]; omega
    · rw [if_neg h3]
      have hsd := seed_next hs0 hs1
      by_cases h4 : (l.length : Int) > 0
      · have hi := tmod_range (x := a) (m := (l.length : Int)) ha0 h4
        have hr := rd_all hb hi.1 hi.2
        rw [if_pos h4, if_neg (by omega), if_pos hi.1, if_pos hi.2, if_neg (by omega)]
        generalize Int.tmod (wrap64 ((wrap64 (s * 1103)) + 12345)) 65521 = s2 at hsd ⊢
        generalize rd l (Int.tmod a (l.length : Int)) = x at hr ⊢
        have e : wrap64 ((wrap64 (Int.tdiv s2 7)) + (wrap64 x)) = s2 / 7 + x := by
          rw [Int.tdiv_eq_ediv_of_nonneg hsd.1, w64 (x := s2 / 7) (by omega) (by omega), w64 (x := x) (by omega) (by omega), w64 (by omega) (by omega)]
        have ht := tmod_range (x := wrap64 ((wrap64 (Int.tdiv s2 7)) + (wrap64 x))) (m := n) (by rw [e]; omega) (by omega)
        refine ⟨_, _, _, rfl, ⟨hb, hl, ?_, ?_, hsd.1, hsd.2⟩, ht.1, .inr ht.2⟩
        · rw [w64 (by omega) (by omega)]; omega
        · rw [w64 (by omega) (by omega)]; omega
      · rw [if_neg h4, if_neg (by omega)]
        refine ⟨_, _, _, rfl, ⟨hb, hl, ?_, ?_, hsd.1, hsd.2⟩, ?_, .inl ?_⟩
        · rw [w64 (by omega) (by omega)]; omega
        · rw [w64 (by omega) (by omega)]; omega
        · simp
        · simp
/-! ### spec_l01Cur_raw -/
theorem spec_l01Cur_raw.ok {l : List Int} {a s : Int} {N : Nat} (h : CurOk l a s N) (hN : N ≤ 100000000) : ∃ v a' s' : Int, spec_l01Cur_raw.f l a s = some (v, a', s') ∧ CurOk l a' s' (N + 2) ∧ I64 v := by
  obtain ⟨v, a1, s1, e1, c1, _, _⟩ := spec_l01Cur_pick.ok h (by omega) 8 (by omega)
  unfold spec_l01Cur_raw.f
  rw [e1, Option.bind_some]
  by_cases h0 : v = 0
  · obtain ⟨v2, a2, s2, e2, c2, h3, h4⟩ := spec_l01Cur_pick.ok c1 (by omega) 256 (by omega)
    simp only [if_pos h0, e2, Option.bind_some]
    refine ⟨_, _, _, rfl, c2, ?_⟩
    rw [w64 (by omega) (by omega)]
    exact ⟨by omega, by omega⟩
  · by_cases h1 : v = 1
    · obtain ⟨v2, a2, s2, e2, c2, h3, h4⟩ := spec_l01Cur_pick.ok c1 (by omega) 8 (by omega)
      simp only [if_neg h0, if_pos h1, e2, Option.bind_some, List.length_cons, List.length_nil]
      rw [if_pos h3, if_pos (by omega)]
      refine ⟨_, _, _, rfl, c2, rd_all (P := I64) ?_ h3 (by simp only [List.length_cons, List.length_nil]; omega)⟩
      intro x hx
      simp only [List.mem_cons, List.not_mem_nil, or_false] at hx
      unfold I64
      omega
    · obtain ⟨v2, a2, s2, e2, c2, h3, h4⟩ := spec_l01Cur_pick.ok c1 (by omega) 14 (by omega)
      simp only [if_neg h0, if_neg h1, e2, Option.bind_some]
      refine ⟨_, _, _, rfl, c2, ?_⟩
      rw [w64 (by omega) (by omega)]
      exact ⟨by omega, by omega⟩
/-! ### spec_l01Cur_once -/
theorem spec_l01Cur_once.ok {l : List Int} {a s : Int} {N : Nat} (h : CurOk l a s N) (hN : N ≤ 100000000) (n : Int) (hn : n ≤ 4294967296) : ∃ (b : Bool) (a' s' : Int), spec_l01Cur_once.f l a s n = some (b, a', s') ∧ CurOk l a' s' (N + 1) := by
  obtain ⟨v, a1, s1, e1, c1, _, _⟩ := spec_l01Cur_pick.ok h (by omega) n hn
  exact ⟨v == wrap64 (n - 1), a1, s1, by simp only [spec_l01Cur_once.f, e1, Option.bind_some], c1⟩
/-! ### spec_l01Word -/
theorem spec_l01Word.loop (p : Nat → Bool) : ∀ j : Nat, j ≤ 32 → Ev (fun k => spec_l01Word.l0 k (btl p 32) ((wd p 32 / 2 ^ j : Nat) : Int) ((j : Int) - 1)) ((wd p 32 : Nat) : Int) := by
  intro j
  induction j with
  | zero =>
    intro _
    refine Ev.stop fun k => ?_
    simp only [spec_l01Word.l0]
    rw [if_neg (by omega), Nat.pow_zero, Nat.div_one]
  | succ j ih =>
    intro hj
    refine Ev.step (f := fun k => spec_l01Word.l0 k (btl p 32) ((wd p 32 / 2 ^ j : Nat) : Int) ((j : Int) - 1)) (fun k => ?_) (ih (by omega))
    have hlen := btl_len p 32
    have hi : (((j + 1 : Nat) : Int) - 1) = (j : Int) := by omega
    have h1 := div_lt (wd_lt32 p) j
    have h2 : wd p 32 / 2 ^ (j + 1) = wd p 32 / 2 ^ j / 2 := by rw [Nat.pow_succ, Nat.div_div_eq_div_mul]
    have h3 : (if p j = true then (1 : Int) else 0) = ((wd p 32 / 2 ^ j % 2 : Nat) : Int) := by
      have hb := wd_bit p 32 j
      have hj' : j < 32 := by omega
      rw [Nat.testBit_eq_decide_div_mod_eq, decide_eq_true hj', Bool.true_and] at hb
      rcases Nat.mod_two_eq_zero_or_one (wd p 32 / 2 ^ j) with h | h
      · rw [h] at hb ⊢
        rw [← hb]; rfl
      · rw [h] at hb ⊢
        rw [← hb]; rfl
    have h4 : (((2 * ((wd p 32 / 2 ^ (j + 1) : Nat) : Int)) % 4294967296) + ((if p j = true then (1 : Int) else 0) % 4294967296)) % 4294967296 = ((wd p 32 / 2 ^ j : Nat) : Int) := by
      rw [h3, h2]
      generalize wd p 32 / 2 ^ j = y at h1 ⊢
      omega
    simp only [spec_l01Word.l0]
    rw [hi, if_pos (by omega), if_pos (by omega), if_pos (by omega), btl_rd p (by omega : j < 32), w64 (by omega) (by omega), h4]
theorem spec_l01Word.ev (p : Nat → Bool) : Ev (fun k => spec_l01Word.f k (btl p 32)) ((wd p 32 : Nat) : Int) := by
  have h := spec_l01Word.loop p 32 (Nat.le_refl _)
  rw [Nat.div_eq_of_lt (wd_lt32 p)] at h
  refine Ev.congr (fun k => ?_) h
  simp only [spec_l01Word.f]
  rw [btl_len, w64 (by omega) (by omega)]
  rfl
/-! ### spec_BitsOf -/
theorem spec_BitsOf.loop (l : List Int) (hl : l.length < 4611686018427387904) (d : Nat) : ∀ (i : Nat) (q : Nat → Bool), i + d = l.length → Ev (fun k => spec_BitsOf.l0 k l (btl q 32) (i : Int)) (bofq q (l.drop i)) := by
  induction d with
  | zero =>
    intro i q hi
    rw [List.drop_eq_nil_of_le (by omega), bofq_nil]
    refine Ev.step (f := fun k => (spec_l01Word.f k (btl q 32)).bind fun t => some (t, true)) (fun k => ?_) (Ev.bind (spec_l01Word.ev q) (Ev.now _))
    simp only [spec_BitsOf.l0]
    rw [if_neg (by omega)]
  | succ d ih =>
    intro i q hi
    have hlt : i < l.length := by omega
    rw [drop_rd l hlt, bofq_cons]
    generalize hb : rd l (i : Int) = b
    by_cases h1 : b < 0
    · rw [if_pos (.inl h1)]
      refine Ev.stop fun k => ?_
      simp only [spec_BitsOf.l0]
      rw [if_pos (by omega), if_pos (by omega), hb, if_pos h1]
    · by_cases h2 : b > 31
      · rw [if_pos (.inr h2)]
        refine Ev.stop fun k => ?_
        simp only [spec_BitsOf.l0]
        rw [if_pos (by omega), if_pos (by omega), hb, if_neg h1, if_pos h2]
      · rw [if_neg (by omega)]
        obtain ⟨c, rfl⟩ : ∃ c : Nat, b = c := ⟨b.toNat, by omega⟩
        rw [Int.toNat_natCast]
        have hlen := btl_len q 32
        have hc : c < 32 := by omega
        by_cases h3 : q c = true
        · rw [if_pos h3]
          refine Ev.stop fun k => ?_
          simp only [spec_BitsOf.l0]
          rw [if_pos (by omega), if_pos (by omega), hb, if_neg h1, if_neg h2, if_pos (by omega), if_pos (by omega), btl_rd q hc, if_pos h3, if_pos rfl]
        · rw [if_neg h3]
          refine Ev.step (f := fun k => spec_BitsOf.l0 k l (btl (fun j => q j || j == c) 32) ((i + 1 : Nat) : Int)) (fun k => ?_) (ih (i + 1) _ (by omega))
          simp only [spec_BitsOf.l0]
          rw [if_pos (by omega), if_pos (by omega), hb, if_neg h1, if_neg h2, if_pos (by omega), if_pos (by omega), btl_rd q hc, if_neg h3, if_neg (by decide), Int.toNat_natCast, btl_set q 32 hc, w64_succ (by omega)]
theorem spec_BitsOf.ev (l : List Int) (hl : l.length < 4611686018427387904) : Ev (fun k => spec_BitsOf.f k l) (bof l) := by
  refine Ev.congr (fun k => ?_) (spec_BitsOf.loop l hl l.length 0 (fun _ => false) (by omega))
  simp only [spec_BitsOf.f]
  rw [if_pos (by decide), btl_none]
  rfl
/-! ### spec_l01Cur_wide -/
theorem spec_l01Cur_wide.ok {l : List Int} {a s : Int} {N : Nat} (h : CurOk l a s N) (hN : N ≤ 100000000) (n : Int) (hn0 : 0 < n) : ∃ v a' s' : Int, spec_l01Cur_wide.f l a s n = some (v, a', s') ∧ CurOk l a' s' (N + 3) ∧ 0 ≤ v ∧ v < n := by
  obtain ⟨v1, a1, s1, e1, c1, h1, g1⟩ := spec_l01Cur_pick.ok h (by omega) 256 (by omega)
  obtain ⟨v2, a2, s2, e2, c2, h2, g2⟩ := spec_l01Cur_pick.ok c1 (by omega) 256 (by omega)
  obtain ⟨v3, a3, s3, e3, c3, h3, g3⟩ := spec_l01Cur_pick.ok c2 (by omega) 256 (by omega)
  have e : wrap64 ((wrap64 ((wrap64 (65536 * v1)) + (wrap64 (256 * v2)))) + v3) = 65536 * v1 + 256 * v2 + v3 := by
    rw [w64 (x := 65536 * v1) (by omega) (by omega), w64 (x := 256 * v2) (by omega) (by omega), w64 (x := 65536 * v1 + 256 * v2) (by omega) (by omega), w64 (by omega) (by omega)]
  have ht := tmod_range (x := 65536 * v1 + 256 * v2 + v3) (m := n) (by omega) hn0
  refine ⟨_, _, _, ?_, c3, ht.1, ht.2⟩
  simp only [spec_l01Cur_wide.f, e1, e2, e3, Option.bind_some, e]
  rw [if_neg (by omega)]
/-! ### spec_l01Cur_word -/
theorem spec_l01Cur_word.ok {l : List Int} {a s : Int} {N : Nat} (h : CurOk l a s N) (hN : N ≤ 10000000) : ∃ v a' s' : Int, spec_l01Cur_word.f l a s = some (v, a', s') ∧ CurOk l a' s' (N + 5) ∧ U32 v := by
  obtain ⟨v1, a1, s1, e1, c1, h1, g1⟩ := spec_l01Cur_pick.ok h (by omega) 256 (by omega)
  obtain ⟨v2, a2, s2, e2, c2, h2, g2⟩ := spec_l01Cur_wide.ok c1 (by omega) 16777216 (by omega)
  obtain ⟨v3, a3, s3, e3, c3, h3, g3⟩ := spec_l01Cur_pick.ok c2 (by omega) 7 (by omega)
  simp only [spec_l01Cur_word.f, e1, e2, e3, Option.bind_some, List.length_cons, List.length_nil]
  rw [if_pos h3, if_pos (by omega)]
  refine ⟨_, _, _, rfl, c3.more (by omega), rd_all (P := U32) ?_ h3 (by simp only [List.length_cons, List.length_nil]; omega)⟩
  intro x hx
  unfold U32
  simp only [List.mem_cons, List.not_mem_nil, or_false] at hx
  omega
/-! ### spec_l01Cur_bits -/
theorem spec_l01Cur_bits.ok {l : List Int} {a s : Int} {N : Nat} (h : CurOk l a s N) (hN : N ≤ 900000) : ∃ (n : Nat) (a' s' : Int), Ev (fun k => spec_l01Cur_bits.f k l a s) ((n : Int), a', s') ∧ CurOk l a' s' (N + 9) ∧ n < 2 ^ 32 := by
  obtain ⟨v1, a1, s1, e1, c1, h1⟩ := spec_l01Cur_word.ok h (by omega)
  obtain ⟨b, a2, s2, e2, c2⟩ := spec_l01Cur_once.ok c1 (by omega) 2 (by omega)
  by_cases hb : b = true
  · obtain ⟨v3, a3, s3, e3, c3, h3, g3⟩ := spec_l01Cur_pick.ok c2 (by omega) 8 (by omega)
    obtain ⟨v4, a4, s4, e4, c4, h4, g4⟩ := spec_l01Cur_pick.ok c3 (by omega) 8 (by omega)
    obtain ⟨v5, a5, s5, e5, c5, h5, g5⟩ := spec_l01Cur_pick.ok c4 (by omega) 16 (by omega)
    obtain ⟨n, hn1, hn2⟩ := bof_u32 [v3, wrap64 (8 + v4), wrap64 (16 + v5)]
    obtain ⟨K, hK⟩ := spec_BitsOf.ev [v3, wrap64 (8 + v4), wrap64 (16 + v5)] (by simp)
    refine ⟨n, a5, s5, ⟨K, fun k hk => ?_⟩, c5.more (by omega), hn2⟩
    have e6 := hK k hk
    simp only [spec_l01Cur_bits.f, e1, e2, e3, e4, e5, e6, Option.bind_some, if_pos hb, hn1]
  · obtain ⟨n, rfl, hn⟩ := u32_of h1
    refine ⟨n, a2, s2, ⟨0, fun k _ => ?_⟩, c2.more (by omega), hn⟩
    simp only [spec_l01Cur_bits.f, e1, e2, Option.bind_some, if_neg hb]
/-! ### spec_DrawFreeLow -/
theorem spec_DrawFreeLow.ok (l : List Int) (hl : l.length ≤ 1048576) (hb : ∀ x ∈ l, (Lit.int .u8 x).wf = true) : ∃ (n : Nat) (w m : Int), Ev (fun k => spec_DrawFreeLow.f k l) ((n : Int), w, m) ∧ n < 2 ^ 32 ∧ I64 w ∧ I64 m := by
  obtain ⟨s0, e0, c0⟩ := spec_l01Open.ok l hl hb
  obtain ⟨n, a1, s1, ⟨K, hK⟩, c1, hn⟩ := spec_l01Cur_bits.ok c0 (by omega)
  obtain ⟨v2, a2, s2, e2, c2, h2, g2⟩ := spec_l01Cur_pick.ok c1 (by omega) 34 (by omega)
  obtain ⟨v3, a3, s3, e3, c3, h3⟩ := spec_l01Cur_raw.ok c2 (by omega)
  obtain ⟨v4, a4, s4, e4, c4, h4, g4⟩ := spec_l01Cur_pick.ok c3 (by omega) 3 (by omega)
  obtain ⟨v5, a5, s5, e5, c5, h5, g5⟩ := spec_l01Cur_pick.ok c4 (by omega) 9 (by omega)
  obtain ⟨v6, a6, s6, e6, c6, h6⟩ := spec_l01Cur_raw.ok c5 (by omega)
  obtain ⟨v7, a7, s7, e7, c7, h7, g7⟩ := spec_l01Cur_pick.ok c6 (by omega) 2 (by omega)
  refine ⟨n, rd [v2, 16, v3] v4, rd [v5, v6] v7, ⟨K, fun k hk => ?_⟩, hn, rd_all (P := I64) ?_ h4 (by simp only [List.length_cons, List.length_nil]; omega), rd_all (P := I64) ?_ h7 (by simp only [List.length_cons, List.length_nil]; omega)⟩
  · have e1 := hK k hk
    simp only [spec_DrawFreeLow.f, e0, e1, e2, e3, e4, e5, e6, e7, Option.bind_some, List.length_cons, List.length_nil]
    rw [if_pos h4, if_pos (by omega), if_pos h7, if_pos (by omega)]
  · intro x hx
    unfold I64 at h3 ⊢
    simp only [List.mem_cons, List.not_mem_nil, or_false] at hx
    omega
  · intro x hx
    unfold I64 at h6 ⊢
    simp only [List.mem_cons, List.not_mem_nil, or_false] at hx
    omega
/-! ### impl_TakeLow -/
theorem impl_TakeLow.loop (m : Nat) : ∀ (n out : Nat) (a : Int), n < 2 ^ 32 → out < 2 ^ 32 → a.toNat = m → a < 9223372036854775808 → Ev (fun k => impl_TakeLow.l0 k (n : Int) a (out : Int)) ((out ||| wd (tk n.testBit m) 32 : Nat) : Int) := by
  induction m with
  | zero =>
    intro n out a hn ho ha _
    rw [tk_zero, Nat.or_zero]
    refine Ev.stop fun k => ?_
    simp only [impl_TakeLow.l0]
    rw [if_neg (by omega)]
  | succ m ih =>
    intro n out a hn ho ha ha'
    by_cases h0 : n = 0
    · subst h0
      rw [tk_none, Nat.or_zero]
      refine Ev.stop fun k => ?_
      simp only [impl_TakeLow.l0]
      rw [if_pos (by omega), if_pos (by omega)]
    · obtain ⟨b, hb32, hb, hlo⟩ := low_of_pos hn h0
      rw [← low_step hb hlo hb32 out m ho]
      have h1 : n &&& (n - 1) < 2 ^ 32 := Nat.and_lt_two_pow _ (by omega)
      have h2 : out ||| 2 ^ b < 2 ^ 32 := Nat.or_lt_two_pow ho (two_pow_lt hb32)
      refine Ev.step (f := fun k => impl_TakeLow.l0 k ((n &&& (n - 1) : Nat) : Int) (a - 1) ((out ||| 2 ^ b : Nat) : Int)) (fun k => ?_) (ih _ _ _ h1 h2 (by omega) (by omega))
      simp only [impl_TakeLow.l0]
      rw [if_pos (by omega), if_neg (by omega), pred32 hn h0, neg32 hn h0, and_nat hn (by omega), and_nat hn (by omega), keep_low hn hb hlo, or_nat ho (two_pow_lt hb32), w64 (by omega) (by omega)]
theorem impl_TakeLow.ev (n : Nat) (hn : n < 2 ^ 32) (a : Int) (ha : a < 9223372036854775808) : Ev (fun k => impl_TakeLow.f k (n : Int) a) ((wd (tk n.testBit a.toNat) 32 : Nat) : Int) := by
  have h := impl_TakeLow.loop a.toNat n 0 a hn (by decide) rfl ha
  rw [Nat.zero_or] at h
  exact Ev.congr (fun _ => rfl) h
/-! ### impl_within -/
theorem impl_within.eq (a lo hi : Int) : impl_within.f a lo hi = some (decide (lo ≤ a ∧ a ≤ hi)) := by
  unfold impl_within.f
  split
  · rename_i h
    have : lo ≤ a := h
    simp [this]
  · rename_i h
    have : ¬ lo ≤ a := h
    simp [this]
/-! ### impl_MaskOf -/
theorem impl_MaskOf.eq (a : Int) : impl_MaskOf.f a = some ((wd (fun j => decide ((j : Int) < a ∧ a ≤ 32)) 32 : Nat) : Int) := by
  unfold impl_MaskOf.f
  rw [impl_within.eq, Option.bind_some]
  by_cases h : 0 ≤ a ∧ a ≤ 32
  · rw [if_pos (by simpa using h), if_pos h.1]
    obtain ⟨m, rfl⟩ : ∃ m : Nat, a = m := ⟨a.toNat, by omega⟩
    have e : wd (fun j => decide ((j : Int) < (m : Int) ∧ (m : Int) ≤ 32)) 32 = 2 ^ m - 1 := by
      rw [← wd_mask (by omega : m ≤ 32)]
      exact wd_congr fun i _ => decide_eq_decide.2 (by omega)
    rw [e]
    have hq : 0 < (2 : Nat) ^ m := Nat.two_pow_pos m
    by_cases h2 : m = 32
    · subst h2; rfl
    · have hp := two_pow_lt (i := m) (by omega)
      rw [shl_one (by omega : m < 32)]
      congr 1
      omega
  · rw [if_neg (by simpa using h)]
    have e : wd (fun j => decide ((j : Int) < a ∧ a ≤ 32)) 32 = 0 := by
      refine (wd_congr fun i _ => ?_).trans (wd_false 32)
      have : ¬ ((i : Int) < a ∧ a ≤ 32) := by omega
      simp only [this, decide_false]
    rw [e]
    rfl
/-! ### impl_FreeLow -/
theorem impl_FreeLow.ev (n : Nat) (hn : n < 2 ^ 32) (w a : Int) (ha : a < 9223372036854775808) : Ev (fun k => impl_FreeLow.f k (n : Int) w a) ((wd (tk (fre n w) a.toNat) 32 : Nat) : Int) := by
  by_cases h : 0 ≤ w ∧ w ≤ 32
  · have hx : 2 ^ 32 - (n + 1) < 2 ^ 32 := by omega
    have hm := wd_lt32 (fun j => decide ((j : Int) < w ∧ w ≤ 32))
    have hy : (2 ^ 32 - (n + 1)) &&& wd (fun j => decide ((j : Int) < w ∧ w ≤ 32)) 32 < 2 ^ 32 := Nat.and_lt_two_pow _ hm
    have hb : ((2 ^ 32 - (n + 1)) &&& wd (fun j => decide ((j : Int) < w ∧ w ≤ 32)) 32).testBit = fre n w := by
      funext j
      rw [Nat.testBit_and, xor_bit hn, wd_bit]
      unfold fre
      by_cases hj : j < 32
      · simp only [hj, decide_true, Bool.true_and]
      · have e : ¬ ((j : Int) < w ∧ w ≤ 32) := by omega
        simp only [hj, e, decide_false, Bool.false_and, Bool.and_false]
    refine Ev.congr (f := fun k => (impl_TakeLow.f k ((((2 ^ 32 - (n + 1)) &&& wd (fun j => decide ((j : Int) < w ∧ w ≤ 32)) 32 : Nat)) : Int) a).bind fun t => some t) (fun k => ?_) (Ev.bind (f := fun _ t => some t) ((impl_TakeLow.ev _ hy a ha).eq (by rw [hb])) (Ev.now _))
    simp only [impl_FreeLow.f]
    rw [impl_within.eq, Option.bind_some, if_pos (by simpa using h), impl_MaskOf.eq, Option.bind_some, xor_all hn, and_nat hx hm]
  · have e : wd (tk (fre n w) a.toNat) 32 = 0 := (wd_congr fun i _ => by unfold tk; rw [fre_none h, Bool.false_and]).trans (wd_false 32)
    rw [e]
    refine Ev.congr (fun k => ?_) (Ev.now _)
    simp only [impl_FreeLow.f]
    rw [impl_within.eq, Option.bind_some, if_neg (by simpa using h)]
    rfl
/-! ### spec_l02First -/
theorem spec_l02First.ev (l : List Int) (hl : l.length < 4611686018427387904) (a : Int) : Ev (fun k => spec_l02First.f k l a) (bof (l.take a.toNat)).1 := by
  have e : l.take (mx 0 (mn a (l.length : Int))).toNat = l.take a.toNat := by
    have h : (mx 0 (mn a (l.length : Int))).toNat = min a.toNat l.length := by
      unfold mx mn
      split <;> split <;> omega
    rw [h]
    by_cases h2 : a.toNat ≤ l.length
    · rw [Nat.min_eq_left h2]
    · rw [Nat.min_eq_right (by omega), List.take_of_length_le (Nat.le_refl _), List.take_of_length_le (by omega)]
  have hlen : (l.take a.toNat).length < 4611686018427387904 := by rw [List.length_take]; omega
  have h1 : 0 ≤ mx 0 (mn a (l.length : Int)) := by unfold mx; split <;> omega
  have h2 : mx 0 (mn a (l.length : Int)) ≤ (l.length : Int) := by unfold mx mn; split <;> split <;> omega
  refine Ev.congr (f := fun k => (spec_BitsOf.f k (l.take a.toNat)).bind fun t => some t.1) (fun k => ?_) (Ev.bind (spec_BitsOf.ev _ hlen) (Ev.now _))
  simp only [spec_l02First.f]
  rw [if_pos h1, if_pos h2, e]
/-! ### spec_l01Bits -/
theorem spec_l01Bits.loop (n : Nat) (hn : n < 2 ^ 32) (d : Nat) : ∀ i : Nat, i + d = 32 → Ev (fun k => spec_l01Bits.l0 k ((n / 2 ^ i : Nat) : Int) (btl n.testBit i) (i : Int)) (btl n.testBit 32) := by
  induction d with
  | zero =>
    intro i hi
    obtain rfl : i = 32 := by omega
    refine Ev.stop fun k => ?_
    simp only [spec_l01Bits.l0]
    rw [if_neg (by omega)]
  | succ d ih =>
    intro i hi
    refine Ev.step (f := fun k => spec_l01Bits.l0 k ((n / 2 ^ (i + 1) : Nat) : Int) (btl n.testBit (i + 1)) ((i + 1 : Nat) : Int)) (fun k => ?_) (ih (i + 1) (by omega))
    have hlen := btl_len n.testBit i
    have hlt := div_lt hn i
    have e1 : Int.tdiv ((n / 2 ^ i : Nat) : Int) 2 % 4294967296 = ((n / 2 ^ (i + 1) : Nat) : Int) := by
      rw [Int.tdiv_eq_ediv_of_nonneg (Int.natCast_nonneg _), Nat.pow_succ, ← Nat.div_div_eq_div_mul]
      generalize n / 2 ^ i = y at hlt ⊢
      omega
    have e2 : wrap64 (Int.tmod ((n / 2 ^ i : Nat) : Int) 2) = if n.testBit i = true then 1 else 0 := by
      rw [Int.tmod_eq_emod_of_nonneg (Int.natCast_nonneg _), Nat.testBit_eq_decide_div_mod_eq]
      have h := Nat.mod_two_eq_zero_or_one (n / 2 ^ i)
      have h2 : ((n / 2 ^ i : Nat) : Int) % 2 = ((n / 2 ^ i % 2 : Nat) : Int) := (Int.natCast_emod _ _).symm
      rw [h2]
      rcases h with h | h
      · rw [h]; exact wrap64_0
      · rw [h]; exact wrap64_1
    simp only [spec_l01Bits.l0]
    rw [if_pos (by omega), if_pos (by omega), w64_succ (by omega), e1, e2, btl_succ]
theorem spec_l01Bits.ev (n : Nat) (hn : n < 2 ^ 32) : Ev (fun k => spec_l01Bits.f k (n : Int)) (btl n.testBit 32) := by
  have h := spec_l01Bits.loop n hn 32 0 rfl
  rw [Nat.pow_zero, Nat.div_one] at h
  exact Ev.congr (fun _ => rfl) h
/-! ### spec_l02Free -/
theorem spec_l02Free.loop (n : Nat) (w : Int) (hw : w ≤ 32) (d : Nat) : ∀ i : Nat, w.toNat = i + d → Ev (fun k => spec_l02Free.l0 k w (blp (fre n w) i) (btl n.testBit 32) (i : Int)) (blp (fre n w) (i + d)) := by
  induction d with
  | zero =>
    intro i hi
    refine Ev.step (f := fun k => spec_l02Free.j1 k w (blp (fre n w) i) (btl n.testBit 32) (i : Int) false) (fun k => ?_) (Ev.stop fun k => ?_)
    · simp only [spec_l02Free.l0]
      rw [if_neg (by omega)]
    · simp only [spec_l02Free.j1]
      rw [if_neg (by decide)]
      rfl
  | succ d ih =>
    intro i hi
    have hlen := blp_len_le (fre n w) i
    have hbl := btl_len n.testBit 32
    have h := ih (i + 1) (by omega)
    rw [show i + 1 + d = i + (d + 1) by omega] at h
    refine Ev.step (f := fun k => spec_l02Free.j1 k w (blp (fre n w) i) (btl n.testBit 32) (i : Int) true) (fun k => ?_) (Ev.step (f := fun k => spec_l02Free.l0 k w (blp (fre n w) (i + 1)) (btl n.testBit 32) ((i + 1 : Nat) : Int)) (fun k => ?_) h)
    · simp only [spec_l02Free.l0]
      rw [if_pos (by omega), decide_eq_true hw]
    · simp only [spec_l02Free.j1]
      rw [if_pos trivial, if_pos (by omega), if_pos (by omega), btl_rd n.testBit (by omega), w64_succ (by omega)]
      by_cases hp : n.testBit i = true
      · have hf : ¬ fre n w i = true := by unfold fre; simp [hp]
        rw [if_pos hp, if_neg (by decide)]
        simp only [blp, if_neg hf, List.append_nil]
      · have hf : fre n w i = true := by
          unfold fre
          rw [decide_eq_true (by omega)]
          simpa using hp
        rw [if_neg hp, if_pos rfl, if_pos (by omega)]
        simp only [blp, if_pos hf]
theorem spec_l02Free.ev (n : Nat) (hn : n < 2 ^ 32) (w : Int) : Ev (fun k => spec_l02Free.f k (n : Int) w) (blp (fre n w) 32) := by
  refine Ev.congr (fun _ => rfl) (Ev.bind (f := fun k t => spec_l02Free.l0 k w [] t 0) (spec_l01Bits.ev n hn) ?_)
  by_cases h : 0 ≤ w ∧ w ≤ 32
  · have e : blp (fre n w) (0 + w.toNat) = blp (fre n w) 32 := by
      have key : ∀ m : Nat, w.toNat ≤ m → blp (fre n w) m = blp (fre n w) w.toNat := by
        intro m
        induction m with
        | zero => intro hm; rw [show w.toNat = 0 by omega]
        | succ m ih =>
          intro hm
          by_cases e : w.toNat = m + 1
          · rw [e]
          · have hf : ¬ fre n w m = true := by unfold fre; rw [decide_eq_false (by omega), Bool.and_false]; decide
            simp only [blp, if_neg hf, List.append_nil]
            exact ih (by omega)
      rw [Nat.zero_add, key 32 (by omega)]
    have h1 := spec_l02Free.loop n w h.2 w.toNat 0 (by omega)
    rw [e] at h1
    exact h1
  · rw [blp_none (fun j _ => fre_none h j)]
    by_cases h0 : (0 : Int) < w
    · refine Ev.step (f := fun k => spec_l02Free.j1 k w [] (btl n.testBit 32) 0 false) (fun k => ?_) (Ev.stop fun k => ?_)
      · simp only [spec_l02Free.l0]
        rw [if_pos h0, decide_eq_false (by omega)]
      · simp only [spec_l02Free.j1]
        rw [if_neg (by decide)]
    · refine Ev.step (f := fun k => spec_l02Free.j1 k w [] (btl n.testBit 32) 0 false) (fun k => ?_) (Ev.stop fun k => ?_)
      · simp only [spec_l02Free.l0]
        rw [if_neg h0]
      · simp only [spec_l02Free.j1]
        rw [if_neg (by decide)]
/-! ### spec_FreeLow -/
theorem spec_FreeLow.ev (n : Nat) (hn : n < 2 ^ 32) (w a : Int) : Ev (fun k => spec_FreeLow.f k (n : Int) w a) ((wd (tk (fre n w) a.toNat) 32 : Nat) : Int) := by
  have hlen := blp_len_le (fre n w) 32
  have h : Ev (fun k => spec_FreeLow.f k (n : Int) w a) (bof ((blp (fre n w) 32).take a.toNat)).1 :=
    Ev.bind (f := fun k t => (spec_l02First.f k t a).bind fun u => some u) (spec_l02Free.ev n hn w) (Ev.bind (f := fun _ u => some u) (spec_l02First.ev (blp (fre n w) 32) (by omega) a) (Ev.now _))
  rw [blp_take, bof_blp32] at h
  exact h
/-! ### spec_BitList -/
theorem spec_BitList.loop (p : Nat → Bool) (d : Nat) : ∀ i : Nat, i + d = 32 → Ev (fun k => spec_BitList.l0 k (blp p i) (btl p 32) (i : Int)) (blp p 32) := by
  induction d with
  | zero =>
    intro i hi
    obtain rfl : i = 32 := by omega
    refine Ev.stop fun k => ?_
    simp only [spec_BitList.l0]
    rw [if_neg (by omega)]
  | succ d ih =>
    intro i hi
    refine Ev.step (f := fun k => spec_BitList.l0 k (blp p (i + 1)) (btl p 32) ((i + 1 : Nat) : Int)) (fun k => ?_) (ih (i + 1) (by omega))
    have hlen := blp_len_le p i
    have hlen2 := btl_len p 32
    simp only [spec_BitList.l0]
    rw [if_pos (by omega), if_pos (by omega), if_pos (by omega), btl_rd p (by omega : i < 32), w64_succ (by omega)]
    by_cases hp : p i = true
    · rw [if_pos hp, if_pos rfl, if_pos (by omega)]
      simp only [blp, if_pos hp]
    · rw [if_neg hp, if_neg (by decide)]
      simp only [blp, if_neg hp, List.append_nil]
theorem spec_BitList.ev (n : Nat) (hn : n < 2 ^ 32) : Ev (fun k => spec_BitList.f k (n : Int)) (blp n.testBit 32) :=
  Ev.bind (spec_l01Bits.ev n hn) (spec_BitList.loop n.testBit 32 0 rfl)
/-! ### spec_TakeLow -/
theorem spec_TakeLow.ev (n : Nat) (hn : n < 2 ^ 32) (a : Int) : Ev (fun k => spec_TakeLow.f k (n : Int) a) ((wd (tk n.testBit a.toNat) 32 : Nat) : Int) := by
  have hlen := blp_len_le n.testBit 32
  have h : Ev (fun k => spec_TakeLow.f k (n : Int) a) (bof ((blp n.testBit 32).take a.toNat)).1 :=
    Ev.bind (f := fun k t => (spec_l02First.f k t a).bind fun u => some u) (spec_BitList.ev n hn) (Ev.bind (f := fun _ u => some u) (spec_l02First.ev (blp n.testBit 32) (by omega) a) (Ev.now _))
  rw [blp_take, bof_blp32] at h
  exact h
/-! ### bits_Len32 -/
theorem bits_Len32.tab (c : Nat) (hc : c < 256) : bt (⟨#[0, 1, 2, 2, 3, 3, 3, 3, 4, 4, 4, 4, 4, 4, 4, 4, 5, 5, 5, 5, 5, 5, 5, 5, 5, 5, 5, 5, 5, 5, 5, 5, 6, 6, 6, 6, 6, 6, 6, 6, 6, 6, 6, 6, 6, 6, 6, 6, 6, 6, 6, 6, 6, 6, 6, 6, 6, 6, 6, 6, 6, 6, 6, 6, 7, 7, 7, 7, 7, 7, 7, 7, 7, 7, 7, 7, 7, 7, 7, 7, 7, 7, 7, 7, 7, 7, 7, 7, 7, 7, 7, 7, 7, 7, 7, 7, 7, 7, 7, 7, 7, 7, 7, 7, 7, 7, 7, 7, 7, 7, 7, 7, 7, 7, 7, 7, 7, 7, 7, 7, 7, 7, 7, 7, 7, 7, 7, 7, 8, 8, 8, 8, 8, 8, 8, 8, 8, 8, 8, 8, 8, 8, 8, 8, 8, 8, 8, 8, 8, 8, 8, 8, 8, 8, 8, 8, 8, 8, 8, 8, 8, 8, 8, 8, 8, 8, 8, 8, 8, 8, 8, 8, 8, 8, 8, 8, 8, 8, 8, 8, 8, 8, 8, 8, 8, 8, 8, 8, 8, 8, 8, 8, 8, 8, 8, 8, 8, 8, 8, 8, 8, 8, 8, 8, 8, 8, 8, 8, 8, 8, 8, 8, 8, 8, 8, 8, 8, 8, 8, 8, 8, 8, 8, 8, 8, 8, 8, 8, 8, 8, 8, 8, 8, 8, 8, 8, 8, 8, 8, 8, 8, 8, 8, 8, 8, 8, 8, 8, 8, 8, 8, 8, 8, 8, 8, 8]⟩ : ByteArray) (c : Int) = top c.testBit 8 + 1 := by
  have h : ∀ c : Fin 256, bt (⟨#[0, 1, 2, 2, 3, 3, 3, 3, 4, 4, 4, 4, 4, 4, 4, 4, 5, 5, 5, 5, 5, 5, 5, 5, 5, 5, 5, 5, 5, 5, 5, 5, 6, 6, 6, 6, 6, 6, 6, 6, 6, 6, 6, 6, 6, 6, 6, 6, 6, 6, 6, 6, 6, 6, 6, 6, 6, 6, 6, 6, 6, 6, 6, 6, 7, 7, 7, 7, 7, 7, 7, 7, 7, 7, 7, 7, 7, 7, 7, 7, 7, 7, 7, 7, 7, 7, 7, 7, 7, 7, 7, 7, 7, 7, 7, 7, 7, 7, 7, 7, 7, 7, 7, 7, 7, 7, 7, 7, 7, 7, 7, 7, 7, 7, 7, 7, 7, 7, 7, 7, 7, 7, 7, 7, 7, 7, 7, 7, 8, 8, 8, 8, 8, 8, 8, 8, 8, 8, 8, 8, 8, 8, 8, 8, 8, 8, 8, 8, 8, 8, 8, 8, 8, 8, 8, 8, 8, 8, 8, 8, 8, 8, 8, 8, 8, 8, 8, 8, 8, 8, 8, 8, 8, 8, 8, 8, 8, 8, 8, 8, 8, 8, 8, 8, 8, 8, 8, 8, 8, 8, 8, 8, 8, 8, 8, 8, 8, 8, 8, 8, 8, 8, 8, 8, 8, 8, 8, 8, 8, 8, 8, 8, 8, 8, 8, 8, 8, 8, 8, 8, 8, 8, 8, 8, 8, 8, 8, 8, 8, 8, 8, 8, 8, 8, 8, 8, 8, 8, 8, 8, 8, 8, 8, 8, 8, 8, 8, 8, 8, 8, 8, 8, 8, 8, 8, 8]⟩ : ByteArray) (c.val : Int) = top c.val.testBit 8 + 1 := by decide +kernel
  exact h ⟨c, hc⟩
theorem bits_Len32.eq (n : Nat) (hn : n < 2 ^ 32) : bits_Len32.f (n : Int) = some (top n.testBit 32 + 1) := by
  unfold bits_Len32.f
  have hb := fun x => top_lt (Nat.testBit x) 8
  have hg := fun x => top_ge (Nat.testBit x) 8
  rw [top_bytes hn]
  by_cases a : n ≥ 65536
  · rw [if_pos (by omega)]
    by_cases b : n ≥ 16777216
    · have e : (((n : Int) / 65536) / 256) % 256 = ((n / 16777216 : Nat) : Int) := by omega
      have h1 := hb (n / 16777216)
      have h2 := hg (n / 16777216)
      rw [if_pos (by omega), e, if_pos (by omega), if_pos (by omega), bits_Len32.tab _ (by omega), if_pos b, w64 (x := top _ _ + 1) (by omega) (by omega), w64 (by omega) (by omega)]
      congr 1
      omega
    · have e : ((n : Int) / 65536) % 256 = ((n / 65536 : Nat) : Int) := by omega
      have h1 := hb (n / 65536)
      have h2 := hg (n / 65536)
      rw [if_neg (by omega), e, if_pos (by omega), if_pos (by omega), bits_Len32.tab _ (by omega), if_neg b, if_pos a, w64 (x := top _ _ + 1) (by omega) (by omega), w64 (by omega) (by omega)]
      congr 1
      omega
  · rw [if_neg (by omega)]
    by_cases b : n ≥ 256
    · have e : ((n : Int) / 256) % 256 = ((n / 256 : Nat) : Int) := by omega
      have h1 := hb (n / 256)
      have h2 := hg (n / 256)
      rw [if_pos (by omega), e, if_pos (by omega), if_pos (by omega), bits_Len32.tab _ (by omega), if_neg (by omega), if_neg a, if_pos b, w64 (x := top _ _ + 1) (by omega) (by omega), w64 (by omega) (by omega)]
      congr 1
      omega
    · have e : ((n : Int)) % 256 = (n : Int) := by omega
      have h1 := hb n
      have h2 := hg n
      rw [if_neg (by omega), e, if_pos (by omega), if_pos (by omega), bits_Len32.tab _ (by omega), if_neg (by omega), if_neg a, if_neg b, w64 (x := top _ _ + 1) (by omega) (by omega), w64 (by omega) (by omega)]
      congr 1
      omega
/-! ### impl_Highest -/
theorem impl_Highest.eq (n : Nat) (hn : n < 2 ^ 32) : impl_Highest.f (n : Int) = some (top n.testBit 32) := by
  unfold impl_Highest.f
  have h1 := top_lt n.testBit 32
  have h2 := top_ge n.testBit 32
  rw [bits_Len32.eq n hn, Option.bind_some, w64 (by omega) (by omega)]
  congr 1
  omega
/-! ### bits_OnesCount32 -/
theorem bits_OnesCount32.tab (c : Nat) (hc : c < 256) : bt (⟨#[0, 1, 1, 2, 1, 2, 2, 3, 1, 2, 2, 3, 2, 3, 3, 4, 1, 2, 2, 3, 2, 3, 3, 4, 2, 3, 3, 4, 3, 4, 4, 5, 1, 2, 2, 3, 2, 3, 3, 4, 2, 3, 3, 4, 3, 4, 4, 5, 2, 3, 3, 4, 3, 4, 4, 5, 3, 4, 4, 5, 4, 5, 5, 6, 1, 2, 2, 3, 2, 3, 3, 4, 2, 3, 3, 4, 3, 4, 4, 5, 2, 3, 3, 4, 3, 4, 4, 5, 3, 4, 4, 5, 4, 5, 5, 6, 2, 3, 3, 4, 3, 4, 4, 5, 3, 4, 4, 5, 4, 5, 5, 6, 3, 4, 4, 5, 4, 5, 5, 6, 4, 5, 5, 6, 5, 6, 6, 7, 1, 2, 2, 3, 2, 3, 3, 4, 2, 3, 3, 4, 3, 4, 4, 5, 2, 3, 3, 4, 3, 4, 4, 5, 3, 4, 4, 5, 4, 5, 5, 6, 2, 3, 3, 4, 3, 4, 4, 5, 3, 4, 4, 5, 4, 5, 5, 6, 3, 4, 4, 5, 4, 5, 5, 6, 4, 5, 5, 6, 5, 6, 6, 7, 2, 3, 3, 4, 3, 4, 4, 5, 3, 4, 4, 5, 4, 5, 5, 6, 3, 4, 4, 5, 4, 5, 5, 6, 4, 5, 5, 6, 5, 6, 6, 7, 3, 4, 4, 5, 4, 5, 5, 6, 4, 5, 5, 6, 5, 6, 6, 7, 4, 5, 5, 6, 5, 6, 6, 7, 5, 6, 6, 7, 6, 7, 7, 8]⟩ : ByteArray) (c : Int) = ((cnt c.testBit 8 : Nat) : Int) := by
  have h : ∀ c : Fin 256, bt (⟨#[0, 1, 1, 2, 1, 2, 2, 3, 1, 2, 2, 3, 2, 3, 3, 4, 1, 2, 2, 3, 2, 3, 3, 4, 2, 3, 3, 4, 3, 4, 4, 5, 1, 2, 2, 3, 2, 3, 3, 4, 2, 3, 3, 4, 3, 4, 4, 5, 2, 3, 3, 4, 3, 4, 4, 5, 3, 4, 4, 5, 4, 5, 5, 6, 1, 2, 2, 3, 2, 3, 3, 4, 2, 3, 3, 4, 3, 4, 4, 5, 2, 3, 3, 4, 3, 4, 4, 5, 3, 4, 4, 5, 4, 5, 5, 6, 2, 3, 3, 4, 3, 4, 4, 5, 3, 4, 4, 5, 4, 5, 5, 6, 3, 4, 4, 5, 4, 5, 5, 6, 4, 5, 5, 6, 5, 6, 6, 7, 1, 2, 2, 3, 2, 3, 3, 4, 2, 3, 3, 4, 3, 4, 4, 5, 2, 3, 3, 4, 3, 4, 4, 5, 3, 4, 4, 5, 4, 5, 5, 6, 2, 3, 3, 4, 3, 4, 4, 5, 3, 4, 4, 5, 4, 5, 5, 6, 3, 4, 4, 5, 4, 5, 5, 6, 4, 5, 5, 6, 5, 6, 6, 7, 2, 3, 3, 4, 3, 4, 4, 5, 3, 4, 4, 5, 4, 5, 5, 6, 3, 4, 4, 5, 4, 5, 5, 6, 4, 5, 5, 6, 5, 6, 6, 7, 3, 4, 4, 5, 4, 5, 5, 6, 4, 5, 5, 6, 5, 6, 6, 7, 4, 5, 5, 6, 5, 6, 6, 7, 5, 6, 6, 7, 6, 7, 7, 8]⟩ : ByteArray) (c.val : Int) = ((cnt c.val.testBit 8 : Nat) : Int) := by decide +kernel
  exact h ⟨c, hc⟩
theorem bits_OnesCount32.eq (n : Nat) (hn : n < 2 ^ 32) : bits_OnesCount32.f (n : Int) = some ((cnt n.testBit 32 : Nat) : Int) := by
  unfold bits_OnesCount32.f
  have a0 : ((n : Int) / 16777216) = ((n / 16777216 % 256 : Nat) : Int) := by omega
  have a1 : Go.bits .and .u32 ((n : Int) / 65536) 255 = ((n / 65536 % 256 : Nat) : Int) := by rw [and255 (by omega) (by omega)]; omega
  have a2 : Go.bits .and .u32 ((n : Int) / 256) 255 = ((n / 256 % 256 : Nat) : Int) := by rw [and255 (by omega) (by omega)]; omega
  have a3 : Go.bits .and .u32 (n : Int) 255 = ((n % 256 : Nat) : Int) := by rw [and255 (by omega) (by omega)]; omega
  rw [a0, a1, a2, a3]
  rw [if_pos (by omega), if_pos (by omega), if_pos (by omega), if_pos (by omega), if_pos (by omega), if_pos (by omega), if_pos (by omega), if_pos (by omega)]
  rw [bits_OnesCount32.tab _ (Nat.mod_lt _ (by decide)), bits_OnesCount32.tab _ (Nat.mod_lt _ (by decide)), bits_OnesCount32.tab _ (Nat.mod_lt _ (by decide)), bits_OnesCount32.tab _ (Nat.mod_lt _ (by decide))]
  have b0 := cnt_le (n / 16777216 % 256).testBit 8
  have b1 := cnt_le (n / 65536 % 256).testBit 8
  have b2 := cnt_le (n / 256 % 256).testBit 8
  have b3 := cnt_le (n % 256).testBit 8
  rw [@cnt_bytes n]
  congr 1
  omega
/-! ### impl_Ones -/
theorem impl_Ones.eq (n : Nat) (hn : n < 2 ^ 32) : impl_Ones.f (n : Int) = some ((cnt n.testBit 32 : Nat) : Int) := by
  unfold impl_Ones.f
  rw [bits_OnesCount32.eq n hn, Option.bind_some]
/-! ### laws_FnLow -/
theorem laws_FnLow.tail (n : Nat) (hn : n < 2 ^ 32) (w m : Int) (hm : I64 m) : Ev (fun k => laws_FnLow.l0 k (n : Int) w m ((wd (tk (fre n w) m.toNat) 32 : Nat) : Int) (blp n.testBit 32) ((blp n.testBit 32).take m.toNat) ((((blp n.testBit 32).take m.toNat).length : Nat) : Int)) true := by
  have hlen := blp_len_le n.testBit 32
  have htl := List.length_take (i := m.toNat) (l := blp n.testBit 32)
  have hout : (w < 0 ∨ w > 32 ∨ m < 0) → Ev (fun k => laws_FnLow.j3 k (n : Int) w m ((wd (tk (fre n w) m.toNat) 32 : Nat) : Int) (blp n.testBit 32) ((blp n.testBit 32).take m.toNat) true) true := fun h => by
    have e : wd (tk (fre n w) m.toNat) 32 = 0 := by
      by_cases hm0 : m < 0
      · rw [show m.toNat = 0 by omega, tk_zero]
      · exact (wd_congr fun i _ => by unfold tk; rw [fre_none (by omega), Bool.false_and]).trans (wd_false 32)
    refine Ev.stop fun k => ?_
    simp only [laws_FnLow.j3]
    rw [if_pos trivial, e]
    rfl
  by_cases h1 : w < 0
  · refine Ev.step (fun k => ?_) (hout (.inl h1))
    simp only [laws_FnLow.l0]
    rw [if_neg (by omega), if_pos h1]
  · by_cases h2 : w > 32
    · refine Ev.step (fun k => ?_) (hout (.inr (.inl h2)))
      simp only [laws_FnLow.l0]
      rw [if_neg (by omega), if_neg h1, if_pos h2]
    · by_cases h3 : m < 0
      · refine Ev.step (fun k => ?_) (hout (.inr (.inr h3)))
        simp only [laws_FnLow.l0]
        rw [if_neg (by omega), if_neg h1, if_neg h2, decide_eq_true h3]
      · obtain ⟨w, rfl⟩ : ∃ v : Nat, w = v := ⟨w.toNat, by omega⟩
        obtain ⟨m, rfl⟩ : ∃ v : Nat, m = v := ⟨m.toNat, by omega⟩
        rw [Int.toNat_natCast] at htl ⊢
        have hmask := wd_lt32 (fun j => decide ((j : Int) < (w : Int) ∧ (w : Int) ≤ 32))
        have hc := cnt_fre n (w := w) (by omega)
        have hcw : cnt (n &&& wd (fun j => decide ((j : Int) < (w : Int) ∧ (w : Int) ≤ 32)) 32).testBit 32 = cnt n.testBit w := by
          rw [← cnt_below n.testBit w 32 (by omega)]
          refine cnt_congr fun i hi => ?_
          rw [Nat.testBit_and, wd_bits_eq hi]
          congr 1
          exact decide_eq_decide.2 (by omega)
        have hf : cnt (wd (tk (fre n (w : Int)) m) 32).testBit 32 = min m (cnt (fre n (w : Int)) 32) := by rw [cnt_wd, cnt_tk]
        unfold I64 at hm
        refine Ev.step (f := fun k => laws_FnLow.j3 k (n : Int) (w : Int) (m : Int) ((wd (tk (fre n (w : Int)) m) 32 : Nat) : Int) (blp n.testBit 32) ((blp n.testBit 32).take m) false) (fun k => ?_) (Ev.stop fun k => ?_)
        · simp only [laws_FnLow.l0]
          rw [if_neg (by omega), if_neg h1, if_neg h2, decide_eq_false h3]
        · simp only [laws_FnLow.j3]
          rw [if_neg (by decide), impl_Ones.eq _ (wd_lt32 _), Option.bind_some, impl_MaskOf.eq, Option.bind_some, and_nat hn hmask, impl_Ones.eq _ (Nat.and_lt_two_pow _ hmask), Option.bind_some, hcw, hf, w64 (by omega) (by omega), htl]
          unfold mn
          rw [if_pos (by split <;> omega)]
          congr 1
          rw [beq_iff_eq]
          split <;> omega
theorem laws_FnLow.loop (n : Nat) (hn : n < 2 ^ 32) (w m : Int) (hm : I64 m) (d : Nat) : ∀ i : Nat, i + d = ((blp n.testBit 32).take m.toNat).length → Ev (fun k => laws_FnLow.l0 k (n : Int) w m ((wd (tk (fre n w) m.toNat) 32 : Nat) : Int) (blp n.testBit 32) ((blp n.testBit 32).take m.toNat) (i : Int)) true := by
  have hlen := blp_len_le n.testBit 32
  have htl := List.length_take (i := m.toNat) (l := blp n.testBit 32)
  induction d with
  | zero =>
    intro i hi
    obtain rfl : i = ((blp n.testBit 32).take m.toNat).length := by omega
    exact laws_FnLow.tail n hn w m hm
  | succ d ih =>
    intro i hi
    refine Ev.step (f := fun k => laws_FnLow.l0 k (n : Int) w m ((wd (tk (fre n w) m.toNat) 32 : Nat) : Int) (blp n.testBit 32) ((blp n.testBit 32).take m.toNat) ((i + 1 : Nat) : Int)) (fun k => ?_) (ih (i + 1) (by omega))
    simp only [laws_FnLow.l0]
    rw [if_pos (by omega), if_pos (by omega), if_pos (by omega), rd_take _ (by omega), if_pos rfl, w64_succ (by omega)]
theorem laws_FnLow.body (n : Nat) (hn : n < 2 ^ 32) (w m : Int) (hm : I64 m) : Ev (fun k => laws_FnLow.j0 k (n : Int) w m ((wd (tk (fre n w) m.toNat) 32 : Nat) : Int) ((wd (tk n.testBit m.toNat) 32 : Nat) : Int) false) true := by
  have hlen := blp_len_le n.testBit 32
  have hf := wd_lt32 (tk (fre n w) m.toNat)
  have ht := wd_lt32 (tk n.testBit m.toNat)
  have e1 : wd (tk (fre n w) m.toNat) 32 &&& n = 0 := eq_of_bits (Nat.and_lt_two_pow _ hn) (by decide) fun i hi => by
    rw [Nat.testBit_and, wd_bits_eq hi, Nat.zero_testBit]
    unfold tk fre
    cases n.testBit i <;> simp
  have e2 : wd (tk n.testBit m.toNat) 32 &&& n = wd (tk n.testBit m.toNat) 32 := eq_of_bits (Nat.and_lt_two_pow _ hn) ht fun i hi => by
    rw [Nat.testBit_and, wd_bits_eq hi]
    unfold tk
    cases n.testBit i <;> simp
  have e3 : top (wd (tk (fre n w) m.toNat) 32).testBit 32 < mx w 0 := by
    have hmx : 0 ≤ mx w 0 ∧ w ≤ mx w 0 := by unfold mx; split <;> omega
    by_cases h0 : 0 ≤ top (wd (tk (fre n w) m.toNat) 32).testBit 32
    · obtain ⟨j, hj, hj2, hj3, _⟩ := top_bit h0
      rw [wd_bits_eq hj] at hj3
      unfold tk fre at hj3
      simp only [Bool.and_eq_true, decide_eq_true_eq] at hj3
      omega
    · omega
  have hbl : blp (wd (tk n.testBit m.toNat) 32).testBit 32 = (blp n.testBit 32).take m.toNat := by rw [blp_wd, blp_take]
  have hj1 : Ev (fun k => laws_FnLow.j1 k (n : Int) w m ((wd (tk (fre n w) m.toNat) 32 : Nat) : Int) ((wd (tk n.testBit m.toNat) 32 : Nat) : Int) false) true := by
    refine Ev.step (f := fun k => (impl_BitList.f k (n : Int)).bind fun t => (impl_BitList.f k ((wd (tk n.testBit m.toNat) 32 : Nat) : Int)).bind fun u => laws_FnLow.l0 k (n : Int) w m ((wd (tk (fre n w) m.toNat) 32 : Nat) : Int) t u 0) (fun k => ?_)
      (Ev.bind (f := fun k t => (impl_BitList.f k ((wd (tk n.testBit m.toNat) 32 : Nat) : Int)).bind fun u => laws_FnLow.l0 k (n : Int) w m ((wd (tk (fre n w) m.toNat) 32 : Nat) : Int) t u 0) (impl_BitList.ev n hn)
        (Ev.bind (f := fun k u => laws_FnLow.l0 k (n : Int) w m ((wd (tk (fre n w) m.toNat) 32 : Nat) : Int) (blp n.testBit 32) u 0) ((impl_BitList.ev _ ht).eq hbl) (laws_FnLow.loop n hn w m hm _ 0 (Nat.zero_add _))))
    simp only [laws_FnLow.j1]
    rw [if_neg (by decide)]
  refine Ev.step (fun k => ?_) hj1
  simp only [laws_FnLow.j0]
  rw [if_neg (by decide), and_nat hf hn, and_nat ht hn, e1, e2, if_pos (show ((0 : Nat) : Int) = 0 from rfl), if_pos rfl, impl_Highest.eq _ hf, Option.bind_some, if_neg (by omega)]
theorem FnLow : laws_FnLow.Pure := by
  intro l _ _ hb
  by_cases hlen : l.length > 1048576
  · refine ⟨0, ?_⟩
    simp only [laws_FnLow.f]
    rw [laws_big.eq, Option.bind_some, if_pos (by simpa using hlen)]
  · have hbig : laws_big.f l = some false := by rw [laws_big.eq, decide_eq_false hlen]
    obtain ⟨n, w, m, d1, hn, _, hm⟩ := spec_DrawFreeLow.ok l (by omega) hb
    have hm' : m < 9223372036854775808 := by have := hm.2; omega
    obtain ⟨k, e1, e2, e3, e4, e5, e6⟩ := (d1.and ((impl_FreeLow.ev n hn w m hm').and ((impl_TakeLow.ev n hn m hm').and ((spec_FreeLow.ev n hn w m).and ((spec_TakeLow.ev n hn m).and (laws_FnLow.body n hn w m hm).last))))).pick
    refine ⟨k, ?_⟩
    unfold laws_FnLow.f
    rw [hbig, Option.bind_some, if_neg (by decide), e1, Option.bind_some, e2, Option.bind_some, e3, Option.bind_some, e4, Option.bind_some, if_pos rfl, e5, Option.bind_some, bne_self_eq_false]
    exact e6

end Go.Proofs.Ytllidkccikmgiaa.Pure
