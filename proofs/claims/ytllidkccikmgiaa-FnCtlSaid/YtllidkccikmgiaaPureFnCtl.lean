/-
  The law FnCtl: what both programs compute, in plain Lean, and that it is the same.
  Conditions: none beyond those of the statement itself.
-/
import Derived.Test.YtllidkccikmgiaaPFnCtlx7
import Derived.Test.YtllidkccikmgiaaLib
namespace Go.Proofs.Ytllidkccikmgiaa.Pure
open Go.RowKit Go.Proofs.Ytllidkccikmgiaa.PFnCtl Go.Proofs.YtllidkccikmgiaaW.PrintWords Go.Proofs.YtllidkccikmgiaaW.PrintLast

/-! ### laws_big -/
theorem laws_big.eq (l : List Int) : laws_big.f l = some (decide (l.length > 1048576)) := by
  unfold laws_big.f
  congr 1
  exact decide_eq_decide.2 (by omega)
/-! ### spec_l01Open -/
theorem spec_l01Open.ok (l : List Int) (hl : l.length ≤ 1048576) (hb : ∀ x ∈ l, (Lit.int .u8 x).wf = true) : ∃ s : Int, spec_l01Open.f l = some (l, 0, s) ∧ CurOk l 0 s 0 :=
  ⟨_, rfl, fun x hx => bounds_u8 (hb x hx), hl, by omega, by omega, by omega, by omega⟩
/-! ### spec_l01Cur_pick -/
theorem spec_l01Cur_pick.ok {l : List Int} {a s : Int} {N : Nat} (h : CurOk l a s N) (hN : N ≤ 1000000000) (n : Int) (hn : n ≤ 4294967296) : ∃ v a' s' : Int, spec_l01Cur_pick.f l a s n = some (v, a', s') ∧ CurOk l a' s' (N + 1) ∧ 0 ≤ v ∧ (v = 0 ∨ v < n) := by
  obtain ⟨hb, hl, ha0, ha1, hs0, hs1⟩ := h
  unfold spec_l01Cur_pick.f
  by_cases h2 : n < 2
  · rw [if_pos h2]
    exact ⟨0, a, s, rfl, ⟨hb, hl, ha0, by omega, hs0, hs1⟩, by omega, .inl rfl⟩
  · rw [if_neg h2]
    by_cases h3 : a < (l.length : Int)
    · have hr := rd_all hb ha0 h3
      have ht := tmod_range (x := wrap64 (rd l a)) (m := n) (by rw [w64 (by omega) (by omega)]; omega) (by omega)
      rw [if_pos h3, if_pos ha0, if_neg (by omega)]
      refine ⟨_, _, _, rfl, ⟨hb, hl, ?_, ?_, hs0, hs1⟩, ht.1, .inr ht.2⟩
      · rw [w64 (by omega) (by omega)]; omega
      · rw [w64 (by omega) (by omega)]; omega
    · rw [if_neg h3]
      have hsd := seed_next hs0 hs1
      by_cases h4 : (l.length : Int) > 0
      · have hi := tmod_range (x := a) (m := (l.length : Int)) ha0 h4
        have hr := rd_all hb hi.1 hi.2
        rw [if_pos h4, if_neg (by omega), if_pos hi.1, if_pos hi.2, if_neg (by omega)]
        generalize Int.tmod (wrap64 ((wrap64 (s * 1103)) + 12345)) 65521 = s2 at hsd ⊢
        generalize rd l (Int.tmod a (l.length : Int)) = x at hr ⊢
        have e : wrap64 ((wrap64 (Int.tdiv s2 7)) + (wrap64 x)) = s2 / 7 + x := by
          rw [Int.tdiv_eq_ediv_of_nonneg hsd.1, w64 (x := s2 / 7) (by omega) (by omega), w64 (x := x) (by omega) (by omega), w64 (by omega) (by omega)]
        have ht := tmod_range (x := wrap64 ((wrap64 (Int.tdiv s2 7)) + (wrap64 x))) (m := n) (by rw [e]; omega) (by omega)
        refine ⟨_, _, _, rfl, ⟨hb, hl, ?_, ?_, hsd.1, hsd.2⟩, ht.1, .inr ht.2⟩
        · rw [w64 (by omega) (by omega)]; omega
        · rw [w64 (by omega) (by omega)]; omega
      · rw [if_neg h4, if_neg (by omega)]
        refine ⟨_, _, _, rfl, ⟨hb, hl, ?_, ?_, hsd.1, hsd.2⟩, ?_, .inl ?_⟩
        · rw [w64 (by omega) (by omega)]; omega
        · rw [w64 (by omega) (by omega)]; omega
        · simp
        · simp
/-! ### spec_l01Cur_raw -/
theorem spec_l01Cur_raw.ok {l : List Int} {a s : Int} {N : Nat} (h : CurOk l a s N) (hN : N ≤ 100000000) : ∃ v a' s' : Int, spec_l01Cur_raw.f l a s = some (v, a', s') ∧ CurOk l a' s' (N + 2) ∧ I64 v := by
  obtain ⟨v, a1, s1, e1, c1, _, _⟩ := spec_l01Cur_pick.ok h (by omega) 8 (by omega)
  unfold spec_l01Cur_raw.f
  rw [e1, Option.bind_some]
  by_cases h0 : v = 0
  · obtain ⟨v2, a2, s2, e2, c2, h3, h4⟩ := spec_l01Cur_pick.ok c1 (by omega) 256 (by omega)
    simp only [if_pos h0, e2, Option.bind_some]
    refine ⟨_, _, _, rfl, c2, ?_⟩
    rw [w64 (by omega) (by omega)]
    exact ⟨by omega, by omega⟩
  · by_cases h1 : v = 1
    · obtain ⟨v2, a2, s2, e2, c2, h3, h4⟩ := spec_l01Cur_pick.ok c1 (by omega) 8 (by omega)
      simp only [if_neg h0, if_pos h1, e2, Option.bind_some, List.length_cons, List.length_nil]
      rw [if_pos h3, if_pos (by omega)]
      refine ⟨_, _, _, rfl, c2, rd_all (P := I64) ?_ h3 (by simp only [List.length_cons, List.length_nil]; omega)⟩
      intro x hx
      simp only [List.mem_cons, List.not_mem_nil, or_false] at hx
      unfold I64
      omega
    · obtain ⟨v2, a2, s2, e2, c2, h3, h4⟩ := spec_l01Cur_pick.ok c1 (by omega) 14 (by omega)
      simp only [if_neg h0, if_neg h1, e2, Option.bind_some]
      refine ⟨_, _, _, rfl, c2, ?_⟩
      rw [w64 (by omega) (by omega)]
      exact ⟨by omega, by omega⟩
/-! ### spec_l01Cur_wide -/
theorem spec_l01Cur_wide.ok {l : List Int} {a s : Int} {N : Nat} (h : CurOk l a s N) (hN : N ≤ 100000000) (n : Int) (hn0 : 0 < n) : ∃ v a' s' : Int, spec_l01Cur_wide.f l a s n = some (v, a', s') ∧ CurOk l a' s' (N + 3) ∧ 0 ≤ v ∧ v < n := by
  obtain ⟨v1, a1, s1, e1, c1, h1, g1⟩ := spec_l01Cur_pick.ok h (by omega) 256 (by omega)
  obtain ⟨v2, a2, s2, e2, c2, h2, g2⟩ := spec_l01Cur_pick.ok c1 (by omega) 256 (by omega)
  obtain ⟨v3, a3, s3, e3, c3, h3, g3⟩ := spec_l01Cur_pick.ok c2 (by omega) 256 (by omega)
  have e : wrap64 ((wrap64 ((wrap64 (65536 * v1)) + (wrap64 (256 * v2)))) + v3) = 65536 * v1 + 256 * v2 + v3 := by
    rw [w64 (x := 65536 * v1) (by omega) (by omega), w64 (x := 256 * v2) (by omega) (by omega), w64 (x := 65536 * v1 + 256 * v2) (by omega) (by omega), w64 (by omega) (by omega)]
  have ht := tmod_range (x := 65536 * v1 + 256 * v2 + v3) (m := n) (by omega) hn0
  refine ⟨_, _, _, ?_, c3, ht.1, ht.2⟩
  simp only [spec_l01Cur_wide.f, e1, e2, e3, Option.bind_some, e]
  rw [if_neg (by omega)]
/-! ### spec_l01Cur_word -/
theorem spec_l01Cur_word.ok {l : List Int} {a s : Int} {N : Nat} (h : CurOk l a s N) (hN : N ≤ 10000000) : ∃ v a' s' : Int, spec_l01Cur_word.f l a s = some (v, a', s') ∧ CurOk l a' s' (N + 5) ∧ U32 v := by
  obtain ⟨v1, a1, s1, e1, c1, h1, g1⟩ := spec_l01Cur_pick.ok h (by omega) 256 (by omega)
  obtain ⟨v2, a2, s2, e2, c2, h2, g2⟩ := spec_l01Cur_wide.ok c1 (by omega) 16777216 (by omega)
  obtain ⟨v3, a3, s3, e3, c3, h3, g3⟩ := spec_l01Cur_pick.ok c2 (by omega) 7 (by omega)
  simp only [spec_l01Cur_word.f, e1, e2, e3, Option.bind_some, List.length_cons, List.length_nil]
  rw [if_pos h3, if_pos (by omega)]
  refine ⟨_, _, _, rfl, c3.more (by omega), rd_all (P := U32) ?_ h3 (by simp only [List.length_cons, List.length_nil]; omega)⟩
  intro x hx
  unfold U32
  simp only [List.mem_cons, List.not_mem_nil, or_false] at hx
  omega
/-! ### spec_l04Class -/
theorem spec_l04Class.eq (a : Int) : spec_l04Class.f a = some (decide (0 ≤ a ∧ a < 5)) := by
  unfold spec_l04Class.f
  split
  · rename_i h
    have : 0 ≤ a := h
    simp [this]
  · rename_i h
    have : ¬ 0 ≤ a := h
    simp [this]
/-! ### spec_l04Pow -/
theorem spec_l04Pow.loop (d : Nat) : ∀ m : Nat, m + d < 62 → Ev (fun k => spec_l04Pow.l0 k (d : Int) ((2 ^ m : Nat) : Int)) ((2 ^ (m + d) : Nat) : Int) := by
  induction d with
  | zero =>
    intro m hm
    refine Ev.stop fun k => ?_
    simp only [spec_l04Pow.l0]
    rw [if_neg (by omega)]
    rfl
  | succ d ih =>
    intro m hm
    have h := ih (m + 1) (by omega)
    rw [show m + 1 + d = m + (d + 1) by omega] at h
    refine Ev.step (fun k => ?_) h
    have hp : (2 : Nat) ^ (m + 1) < 2 ^ 62 := Nat.pow_lt_pow_right (by decide) (by omega)
    have e : wrap64 (2 * ((2 ^ m : Nat) : Int)) = ((2 ^ (m + 1) : Nat) : Int) := by
      rw [Nat.pow_succ] at hp ⊢
      rw [w64 (by omega) (by omega)]
      omega
    simp only [spec_l04Pow.l0]
    rw [if_pos (by omega), e, w64 (by omega) (by omega), show ((d + 1 : Nat) : Int) - 1 = (d : Int) by omega]
theorem spec_l04Pow.ev (d : Nat) (hd : d < 62) : Ev (fun k => spec_l04Pow.f k (d : Int)) ((2 ^ d : Nat) : Int) := by
  have h := spec_l04Pow.loop d 0 (by omega)
  rw [Nat.zero_add] at h
  exact Ev.congr (fun _ => rfl) h
/-! ### spec_PerPage -/
theorem spec_PerPage.ev (a : Int) : Ev (fun k => spec_PerPage.f k a) (pgs a) := by
  unfold pgs
  by_cases h : 0 ≤ a ∧ a < 5
  · rw [if_pos h]
    obtain ⟨m, rfl⟩ : ∃ m : Nat, a = m := ⟨a.toNat, by omega⟩
    have hm : m = 0 ∨ m = 1 ∨ m = 2 ∨ m = 3 ∨ m = 4 := by omega
    refine Ev.congr (f := fun k => (spec_l04Pow.f k (m : Int)).bind fun t => if t = 0 then none else some (wrap64 ((16 : Int) / t))) (fun k => ?_) (Ev.bind (spec_l04Pow.ev m (by omega)) ?_)
    · simp only [spec_PerPage.f]
      rw [spec_l04Class.eq, Option.bind_some, if_pos (by simpa using h)]
    · rcases hm with rfl | rfl | rfl | rfl | rfl <;> exact Ev.const (by decide +kernel)
  · rw [if_neg h]
    refine Ev.congr (fun k => ?_) (Ev.now _)
    simp only [spec_PerPage.f]
    rw [spec_l04Class.eq, Option.bind_some, if_neg (by simpa using h)]
/-! ### spec_l01Cur_once -/
theorem spec_l01Cur_once.ok {l : List Int} {a s : Int} {N : Nat} (h : CurOk l a s N) (hN : N ≤ 100000000) (n : Int) (hn : n ≤ 4294967296) : ∃ (b : Bool) (a' s' : Int), spec_l01Cur_once.f l a s n = some (b, a', s') ∧ CurOk l a' s' (N + 1) := by
  obtain ⟨v, a1, s1, e1, c1, _, _⟩ := spec_l01Cur_pick.ok h (by omega) n hn
  exact ⟨v == wrap64 (n - 1), a1, s1, by simp only [spec_l01Cur_once.f, e1, Option.bind_some], c1⟩
/-! ### spec_l01Cur_ctl -/
theorem spec_l01Cur_ctl.ok {l : List Int} {a s : Int} {N : Nat} (h : CurOk l a s N) (hN : N ≤ 900000) : ∃ (st c r : Int) (m : Nat) (a' s' : Int), Ev (fun k => spec_l01Cur_ctl.f k l a s) (st, c, (m : Int), r, a', s') ∧ CurOk l a' s' (N + 8) ∧ m < 2 ^ 32 ∧ I64 st ∧ I64 c ∧ I64 r := by
  obtain ⟨v1, a1, s1, e1, c1, h1, g1⟩ := spec_l01Cur_pick.ok h (by omega) 4 (by omega)
  by_cases h11 : v1 = 1
  · obtain ⟨v2, a2, s2, e2, c2, h2, g2⟩ := spec_l01Cur_pick.ok c1 (by omega) 5 (by omega)
    obtain ⟨v3, a3, s3, e3, c3, h3, g3⟩ := spec_l01Cur_pick.ok c2 (by omega) 65535 (by omega)
    obtain ⟨b, a4, s4, e4, c4⟩ := spec_l01Cur_once.ok c3 (by omega) 2 (by omega)
    obtain ⟨v5, a5, s5, e5, c5, h5, g5⟩ := spec_l01Cur_wide.ok c4 (by omega) 65535 (by omega)
    have hp := pgs_range (c := v2) (by omega)
    have hpn : ((pgs v2).toNat : Int) = pgs v2 := by omega
    obtain ⟨K, hK⟩ := (spec_PerPage.ev v2).and (spec_l04Pow.ev (pgs v2).toNat (by omega)).last
    have hpow : 2 ≤ (2 : Nat) ^ (pgs v2).toNat ∧ (2 : Nat) ^ (pgs v2).toNat ≤ 65536 := by
      have q1 := Nat.pow_le_pow_right (n := 2) (by decide) (show 1 ≤ (pgs v2).toNat by omega)
      have q2 := Nat.pow_le_pow_right (n := 2) (by decide) (show (pgs v2).toNat ≤ 16 by omega)
      exact ⟨q1, q2⟩
    have hw1 : wrap64 (((2 ^ (pgs v2).toNat : Nat) : Int) - 1) = ((2 ^ (pgs v2).toNat : Nat) : Int) - 1 := w64 (by omega) (by omega)
    by_cases hb : b = true
    · have ht := tmod_range (x := v5) (m := ((2 ^ (pgs v2).toNat : Nat) : Int) - 1) h5 (by omega)
      have e : (wrap64 (1 + (Int.tmod v5 (((2 ^ (pgs v2).toNat : Nat) : Int) - 1)))) % 4294967296 = ((1 + Int.tmod v5 (((2 ^ (pgs v2).toNat : Nat) : Int) - 1)).toNat : Int) := by
        rw [w64 (by omega) (by omega)]; omega
      refine ⟨1, v2, 0, (1 + Int.tmod v5 (((2 ^ (pgs v2).toNat : Nat) : Int) - 1)).toNat, a5, s5, ⟨K, fun k hk => ?_⟩, c5.more (by omega), by omega, ⟨by omega, by omega⟩, ⟨by omega, by omega⟩, ⟨by omega, by omega⟩⟩
      obtain ⟨q1, q2⟩ := hK k hk
      rw [hpn] at q2
      simp only [spec_l01Cur_ctl.f, e1, e2, e3, e4, e5, q1, q2, Option.bind_some, if_pos h11, if_pos hb, hw1]
      rw [if_neg (by omega), if_neg (by omega), e, h11]
    · have ht := tmod_range (x := v3) (m := ((2 ^ (pgs v2).toNat : Nat) : Int) - 1) h3 (by omega)
      have e : (wrap64 (1 + (Int.tmod v3 (((2 ^ (pgs v2).toNat : Nat) : Int) - 1)))) % 4294967296 = ((1 + Int.tmod v3 (((2 ^ (pgs v2).toNat : Nat) : Int) - 1)).toNat : Int) := by
        rw [w64 (by omega) (by omega)]; omega
      refine ⟨1, v2, 0, (1 + Int.tmod v3 (((2 ^ (pgs v2).toNat : Nat) : Int) - 1)).toNat, a4, s4, ⟨K, fun k hk => ?_⟩, c4.more (by omega), by omega, ⟨by omega, by omega⟩, ⟨by omega, by omega⟩, ⟨by omega, by omega⟩⟩
      obtain ⟨q1, q2⟩ := hK k hk
      rw [hpn] at q2
      simp only [spec_l01Cur_ctl.f, e1, e2, e3, e4, q1, q2, Option.bind_some, if_pos h11, if_neg hb, hw1]
      rw [if_neg (by omega), e, h11]
  · by_cases h12 : v1 = 2
    · obtain ⟨v2, a2, s2, e2, c2, h2, g2⟩ := spec_l01Cur_pick.ok c1 (by omega) 4 (by omega)
      refine ⟨v1, 0, wrap64 (2 + v2), 0, a2, s2, ⟨0, fun k _ => ?_⟩, c2.more (by omega), by decide, ⟨by omega, by omega⟩, ⟨by omega, by omega⟩, ?_⟩
      · simp only [spec_l01Cur_ctl.f, e1, e2, Option.bind_some, if_neg h11, if_pos h12]
        rfl
      · rw [w64 (by omega) (by omega)]
        exact ⟨by omega, by omega⟩
    · refine ⟨v1, 0, 0, 0, a1, s1, ⟨0, fun k _ => ?_⟩, c1.more (by omega), by decide, ⟨by omega, by omega⟩, ⟨by omega, by omega⟩, ⟨by omega, by omega⟩⟩
      simp only [spec_l01Cur_ctl.f, e1, Option.bind_some, if_neg h11, if_neg h12]
      rfl
/-! ### spec_l01Cur_badCtl -/
theorem spec_l01Cur_badCtl.ok {l : List Int} {a s : Int} {N : Nat} (h : CurOk l a s N) (hN : N ≤ 800000) : ∃ (st c r : Int) (m : Nat) (a' s' : Int), Ev (fun k => spec_l01Cur_badCtl.f k l a s) (st, c, (m : Int), r, a', s') ∧ m < 2 ^ 32 ∧ I64 st ∧ I64 c ∧ I64 r := by
  obtain ⟨st, c, r, m, a1, s1, ⟨K, hK⟩, c1, hm, hst, hc, hr⟩ := spec_l01Cur_ctl.ok h (by omega)
  obtain ⟨v2, a2, s2, e2, c2, h2, g2⟩ := spec_l01Cur_pick.ok c1 (by omega) 12 (by omega)
  by_cases h0 : v2 = 0
  · obtain ⟨v3, a3, s3, e3, c3, h3⟩ := spec_l01Cur_raw.ok c2 (by omega)
    obtain ⟨v4, a4, s4, e4, c4, h4, g4⟩ := spec_l01Cur_pick.ok c3 (by omega) 2 (by omega)
    refine ⟨rd [v3, 4] v4, c, r, m, a4, s4, ⟨K, fun k hk => ?_⟩, hm, rd_all (P := I64) ?_ h4 (by simp only [List.length_cons, List.length_nil]; omega), hc, hr⟩
    · have e1 := hK k hk
      simp only [spec_l01Cur_badCtl.f, e1, e2, e3, e4, Option.bind_some, if_pos h0, List.length_cons, List.length_nil]
      rw [if_pos h4, if_pos (by omega)]
    · intro x hx
      unfold I64 at h3 ⊢
      simp only [List.mem_cons, List.not_mem_nil, or_false] at hx
      omega
  · by_cases h1 : v2 = 1
    · obtain ⟨v3, a3, s3, e3, c3, h3⟩ := spec_l01Cur_raw.ok c2 (by omega)
      obtain ⟨v4, a4, s4, e4, c4, h4, g4⟩ := spec_l01Cur_pick.ok c3 (by omega) 3 (by omega)
      refine ⟨st, rd [v3, 4, 5] v4, r, m, a4, s4, ⟨K, fun k hk => ?_⟩, hm, hst, rd_all (P := I64) ?_ h4 (by simp only [List.length_cons, List.length_nil]; omega), hr⟩
      · have e1 := hK k hk
        simp only [spec_l01Cur_badCtl.f, e1, e2, e3, e4, Option.bind_some, if_neg h0, if_pos h1, List.length_cons, List.length_nil]
        rw [if_pos h4, if_pos (by omega)]
      · intro x hx
        unfold I64 at h3 ⊢
        simp only [List.mem_cons, List.not_mem_nil, or_false] at hx
        omega
    · by_cases h2' : v2 = 2
      · obtain ⟨v3, a3, s3, e3, c3, h3⟩ := spec_l01Cur_word.ok c2 (by omega)
        obtain ⟨v4, a4, s4, e4, c4, h4, g4⟩ := spec_l01Cur_pick.ok c3 (by omega) 3 (by omega)
        obtain ⟨m', hm1, hm2⟩ : ∃ n : Nat, rd [v3, 65536, 0] v4 = n ∧ n < 2 ^ 32 := by
          refine u32_of (rd_all (P := U32) ?_ h4 (by simp only [List.length_cons, List.length_nil]; omega))
          intro x hx
          unfold U32 at h3 ⊢
          simp only [List.mem_cons, List.not_mem_nil, or_false] at hx
          omega
        refine ⟨st, c, r, m', a4, s4, ⟨K, fun k hk => ?_⟩, hm2, hst, hc, hr⟩
        have e1 := hK k hk
        simp only [spec_l01Cur_badCtl.f, e1, e2, e3, e4, Option.bind_some, if_neg h0, if_neg h1, if_pos h2', List.length_cons, List.length_nil]
        rw [if_pos h4, if_pos (by omega), hm1]
      · by_cases h3' : v2 = 3
        · obtain ⟨v3, a3, s3, e3, c3, h3⟩ := spec_l01Cur_raw.ok c2 (by omega)
          obtain ⟨v4, a4, s4, e4, c4, h4, g4⟩ := spec_l01Cur_pick.ok c3 (by omega) 4 (by omega)
          refine ⟨st, c, rd [v3, 16, 17, 1] v4, m, a4, s4, ⟨K, fun k hk => ?_⟩, hm, hst, hc, rd_all (P := I64) ?_ h4 (by simp only [List.length_cons, List.length_nil]; omega)⟩
          · have e1 := hK k hk
            simp only [spec_l01Cur_badCtl.f, e1, e2, e3, e4, Option.bind_some, if_neg h0, if_neg h1, if_neg h2', if_pos h3', List.length_cons, List.length_nil]
            rw [if_pos h4, if_pos (by omega)]
          · intro x hx
            unfold I64 at h3 ⊢
            simp only [List.mem_cons, List.not_mem_nil, or_false] at hx
            omega
        · refine ⟨st, c, r, m, a2, s2, ⟨K, fun k hk => ?_⟩, hm, hst, hc, hr⟩
          have e1 := hK k hk
          simp only [spec_l01Cur_badCtl.f, e1, e2, Option.bind_some, if_neg h0, if_neg h1, if_neg h2', if_neg h3']
/-! ### spec_DrawCtlPack -/
theorem spec_DrawCtlPack.ok (l : List Int) (hl : l.length ≤ 1048576) (hb : ∀ x ∈ l, (Lit.int .u8 x).wf = true) : ∃ (st c r : Int) (m : Nat), Ev (fun k => spec_DrawCtlPack.f k l) (st, c, (m : Int), r) ∧ m < 2 ^ 32 ∧ I64 st ∧ I64 c ∧ I64 r := by
  obtain ⟨s0, e0, c0⟩ := spec_l01Open.ok l hl hb
  obtain ⟨st, c, r, m, a1, s1, ⟨K, hK⟩, hm, hst, hc, hr⟩ := spec_l01Cur_badCtl.ok c0 (by omega)
  refine ⟨st, c, r, m, ⟨K, fun k hk => ?_⟩, hm, hst, hc, hr⟩
  have e1 := hK k hk
  simp only [spec_DrawCtlPack.f, e0, e1, Option.bind_some]
/-! ### impl_within -/
theorem impl_within.eq (a lo hi : Int) : impl_within.f a lo hi = some (decide (lo ≤ a ∧ a ≤ hi)) := by
  unfold impl_within.f
  split
  · rename_i h
    have : lo ≤ a := h
    simp [this]
  · rename_i h
    have : ¬ lo ≤ a := h
    simp [this]
/-! ### impl_isClass -/
theorem impl_isClass.eq (a : Int) : impl_isClass.f a = some (decide (0 ≤ a ∧ a < 5)) := by
  unfold impl_isClass.f
  rw [impl_within.eq, Option.bind_some]
  have : (0 ≤ a ∧ a ≤ 4) ↔ (0 ≤ a ∧ a < 5) := by omega
  simp only [this]
/-! ### impl_PerPage -/
theorem impl_PerPage.eq (a : Int) : impl_PerPage.f a = some (pgs a) := by
  unfold impl_PerPage.f pgs
  rw [impl_isClass.eq, Option.bind_some]
  by_cases h : 0 ≤ a ∧ a < 5
  · rw [if_pos h, if_pos (by simpa using h), if_pos h.1]
    have : a = 0 ∨ a = 1 ∨ a = 2 ∨ a = 3 ∨ a = 4 := by omega
    rcases this with rfl | rfl | rfl | rfl | rfl <;> rfl
  · rw [if_neg h, if_neg (by simpa using h)]
/-! ### impl_isCtl -/
theorem impl_isCtl.ev (s c r : Int) (n : Nat) (_hn : n < 2 ^ 32) : Ev (fun k => impl_isCtl.f k s c (n : Int) r) (okc s c n r) := by
  unfold okc
  by_cases h03 : s = 0 ∨ s = 3
  · have hj : Ev (fun k => impl_isCtl.j0 k s true s c (n : Int) r) (decide (c = 0 ∧ n = 0 ∧ r = 0)) := by
      refine Ev.stop fun k => ?_
      simp only [impl_isCtl.j0]
      rw [if_pos trivial]
      congr 1
      rw [Bool.eq_iff_iff]
      simp
    refine (Ev.congr (f := fun k => impl_isCtl.j0 k s true s c (n : Int) r) (fun k => ?_) hj).eq (decide_eq_decide.2 (by omega))
    simp only [impl_isCtl.f]
    by_cases h0 : s = 0
    · subst h0; rw [if_pos rfl]; rfl
    · have h3 : s = 3 := by omega
      subst h3; rw [if_neg (by decide)]; rfl
  · refine Ev.congr (f := fun k => impl_isCtl.j0 k s false s c (n : Int) r) (fun k => ?_) (Ev.stop fun k => ?_)
    · simp only [impl_isCtl.f]
      have h3 : (s == 3) = false := by simp; omega
      rw [if_neg (by omega), h3]
    · simp only [impl_isCtl.j0]
      rw [if_neg (by decide)]
      by_cases h1 : s = 1
      · rw [if_pos h1, impl_isClass.eq, Option.bind_some]
        by_cases hc : 0 ≤ c ∧ c < 5
        · rw [if_pos (by simpa using hc)]
          by_cases hn0 : n = 0
          · rw [if_pos (by omega), decide_eq_false (by omega)]
          · have hp := pgs_range hc
            have hs : shl .u32 1 (pgs c) = ((2 ^ (pgs c).toNat : Nat) : Int) := by
              have := shl_one (i := (pgs c).toNat) (by omega)
              rw [show (((pgs c).toNat : Nat) : Int) = pgs c by omega] at this
              exact this
            rw [if_neg (by omega), impl_PerPage.eq, Option.bind_some, if_pos (by omega), hs]
            by_cases h2 : n < 2 ^ (pgs c).toNat
            · rw [if_pos (by exact_mod_cast h2)]
              by_cases h3 : r = 0
              · rw [decide_eq_true (.inr (.inl ⟨h1, hc, hn0, h2, h3⟩))]; subst h3; rfl
              · rw [decide_eq_false (by omega)]; simp [h3]
            · rw [if_neg (by exact_mod_cast h2), decide_eq_false (by omega)]
        · rw [if_neg (by simpa using hc), decide_eq_false (by omega)]
      · rw [if_neg h1]
        by_cases h2 : s = 2
        · rw [if_pos h2, impl_within.eq, Option.bind_some]
          by_cases hr : 2 ≤ r ∧ r ≤ 16
          · rw [if_pos (by simpa using hr)]
            by_cases hc : c = 0
            · rw [if_pos hc]
              congr 1
              rw [Bool.eq_iff_iff]
              simp
              omega
            · rw [if_neg hc, decide_eq_false (by omega)]
          · rw [if_neg (by simpa using hr), decide_eq_false (by omega)]
        · rw [if_neg h2, decide_eq_false (by omega)]
/-! ### impl_packed -/
theorem impl_packed.eq (s c r : Int) (n : Nat) (h : okc s c n r = true) : impl_packed.f s c (n : Int) r = some (pk s c n r) := by
  obtain ⟨⟨h1, h2⟩, ⟨h3, h4⟩, h5, h6, h7⟩ := okc_bounds h
  obtain ⟨s, rfl⟩ : ∃ m : Nat, s = m := ⟨s.toNat, by omega⟩
  obtain ⟨c, rfl⟩ : ∃ m : Nat, c = m := ⟨c.toNat, by omega⟩
  obtain ⟨r, rfl⟩ : ∃ m : Nat, r = m := ⟨r.toNat, by omega⟩
  unfold impl_packed.f pk
  have e1 : (((c : Int) % 4294967296) * 65536) % 4294967296 = ((c * 2 ^ 16 : Nat) : Int) := by omega
  have e2 : (((s : Int) % 4294967296) * 1048576) % 4294967296 = ((s * 2 ^ 20 : Nat) : Int) := by omega
  have e3 : (((r : Int) % 4294967296) * 16777216) % 4294967296 = ((r * 2 ^ 24 : Nat) : Int) := by omega
  rw [e1, e2, e3, or_nat (by omega) (by omega), or_join (by omega), or_nat (by omega) (by omega), or_join (by omega), or_nat (by omega) (by omega), or_join (by omega)]
  congr 1
  omega
/-! ### impl_CtlPack -/
theorem impl_CtlPack.ev (s c r : Int) (n : Nat) (hn : n < 2 ^ 32) : Ev (fun k => impl_CtlPack.f k s c (n : Int) r) (if okc s c n r = true then (pk s c n r, true) else (0, false)) := by
  refine Ev.congr (fun _ => rfl) (Ev.bind (f := fun _ (t : Bool) => if t = true then ((impl_packed.f s c (n : Int) r).bind fun u => some (u, true)) else some (0, false)) (impl_isCtl.ev s c r n hn) (Ev.const ?_))
  by_cases h : okc s c n r = true
  · rw [if_pos h, if_pos h, impl_packed.eq s c r n h, Option.bind_some]
  · rw [if_neg h, if_neg h]
/-! ### spec_l01Bits -/
theorem spec_l01Bits.loop (n : Nat) (hn : n < 2 ^ 32) (d : Nat) : ∀ i : Nat, i + d = 32 → Ev (fun k => spec_l01Bits.l0 k ((n / 2 ^ i : Nat) : Int) (btl n.testBit i) (i : Int)) (btl n.testBit 32) := by
  induction d with
  | zero =>
    intro i hi
    obtain rfl : i = 32 := by omega
    refine Ev.stop fun k => ?_
    simp only [spec_l01Bits.l0]
    rw [if_neg (by omega)]
  | succ d ih =>
    intro i hi
    refine Ev.step (f := fun k => spec_l01Bits.l0 k ((n / 2 ^ (i + 1) : Nat) : Int) (btl n.testBit (i + 1)) ((i + 1 : Nat) : Int)) (fun k => ?_) (ih (i + 1) (by omega))
    have hlen := btl_len n.testBit i
    have hlt := div_lt hn i
    have e1 : Int.tdiv ((n / 2 ^ i : Nat) : Int) 2 % 4294967296 = ((n / 2 ^ (i + 1) : Nat) : Int) := by
      rw [Int.tdiv_eq_ediv_of_nonneg (Int.natCast_nonneg _), Nat.pow_succ, ← Nat.div_div_eq_div_mul]
      generalize n / 2 ^ i = y at hlt ⊢
      omega
    have e2 : wrap64 (Int.tmod ((n / 2 ^ i : Nat) : Int) 2) = if n.testBit i = true then 1 else 0 := by
      rw [Int.tmod_eq_emod_of_nonneg (Int.natCast_nonneg _), Nat.testBit_eq_decide_div_mod_eq]
      have h := Nat.mod_two_eq_zero_or_one (n / 2 ^ i)
      have h2 : ((n / 2 ^ i : Nat) : Int) % 2 = ((n / 2 ^ i % 2 : Nat) : Int) := (Int.natCast_emod _ _).symm
      rw [h2]
      rcases h with h | h
      · rw [h]; exact wrap64_0
      · rw [h]; exact wrap64_1
    simp only [spec_l01Bits.l0]
    rw [if_pos (by omega), if_pos (by omega), w64_succ (by omega), e1, e2, btl_succ]
theorem spec_l01Bits.ev (n : Nat) (hn : n < 2 ^ 32) : Ev (fun k => spec_l01Bits.f k (n : Int)) (btl n.testBit 32) := by
  have h := spec_l01Bits.loop n hn 32 0 rfl
  rw [Nat.pow_zero, Nat.div_one] at h
  exact Ev.congr (fun _ => rfl) h
/-! ### spec_BitList -/
theorem spec_BitList.loop (p : Nat → Bool) (d : Nat) : ∀ i : Nat, i + d = 32 → Ev (fun k => spec_BitList.l0 k (blp p i) (btl p 32) (i : Int)) (blp p 32) := by
  induction d with
  | zero =>
    intro i hi
    obtain rfl : i = 32 := by omega
    refine Ev.stop fun k => ?_
    simp only [spec_BitList.l0]
    rw [if_neg (by omega)]
  | succ d ih =>
    intro i hi
    refine Ev.step (f := fun k => spec_BitList.l0 k (blp p (i + 1)) (btl p 32) ((i + 1 : Nat) : Int)) (fun k => ?_) (ih (i + 1) (by omega))
    have hlen := blp_len_le p i
    have hlen2 := btl_len p 32
    simp only [spec_BitList.l0]
    rw [if_pos (by omega), if_pos (by omega), if_pos (by omega), btl_rd p (by omega : i < 32), w64_succ (by omega)]
    by_cases hp : p i = true
    · rw [if_pos hp, if_pos rfl, if_pos (by omega)]
      simp only [blp, if_pos hp]
    · rw [if_neg hp, if_neg (by decide)]
      simp only [blp, if_neg hp, List.append_nil]
theorem spec_BitList.ev (n : Nat) (hn : n < 2 ^ 32) : Ev (fun k => spec_BitList.f k (n : Int)) (blp n.testBit 32) :=
  Ev.bind (spec_l01Bits.ev n hn) (spec_BitList.loop n.testBit 32 0 rfl)
/-! ### spec_Highest -/
theorem spec_Highest.ev (n : Nat) (hn : n < 2 ^ 32) : Ev (fun k => spec_Highest.f k (n : Int)) (top n.testBit 32) := by
  have hlen := blp_len_le n.testBit 32
  refine Ev.congr (fun _ => rfl) (Ev.bind (spec_BitList.ev n hn) ?_)
  by_cases h : (blp n.testBit 32).length = 0
  · rw [blp_empty _ _ h]
    refine Ev.const ?_
    rw [if_pos (by omega)]
  · obtain ⟨h1, _⟩ := blp_last n.testBit 32 h
    refine Ev.const ?_
    rw [if_neg (by omega), w64 (by omega) (by omega), if_pos (by omega), if_pos (by omega), h1]
/-! ### spec_CtlOk -/
theorem spec_CtlOk.ev (s c r : Int) (n : Nat) (hn : n < 2 ^ 32) : Ev (fun k => spec_CtlOk.f k s c (n : Int) r) (okc s c n r) := by
  unfold okc
  by_cases h03 : s = 0 ∨ s = 3
  · have hj : Ev (fun k => spec_CtlOk.j0 k s true s c (n : Int) r) (decide (c = 0 ∧ n = 0 ∧ r = 0)) := by
      refine Ev.stop fun k => ?_
      simp only [spec_CtlOk.j0]
      rw [if_pos trivial]
      by_cases h1 : c = 0
      · by_cases h2 : n = 0
        · rw [if_pos h1, if_pos (by omega)]
          by_cases h3 : r = 0 <;> simp [h1, h2, h3]
        · rw [if_pos h1, if_neg (by omega), decide_eq_false (fun h => h2 h.2.1)]
      · rw [if_neg h1, decide_eq_false (fun h => h1 h.1)]
    refine (Ev.congr (f := fun k => spec_CtlOk.j0 k s true s c (n : Int) r) (fun k => ?_) hj).eq (decide_eq_decide.2 (by omega))
    simp only [spec_CtlOk.f]
    by_cases h0 : s = 0
    · subst h0; rw [if_pos rfl]; rfl
    · have h3 : s = 3 := by omega
      subst h3; rw [if_neg (by decide)]; rfl
  · refine Ev.congr (f := fun k => spec_CtlOk.j0 k s false s c (n : Int) r) (fun k => ?_) ?_
    · simp only [spec_CtlOk.f]
      have h3 : (s == 3) = false := by simp; omega
      rw [if_neg (by omega), h3]
    · by_cases h1 : s = 1
      · by_cases hc : 0 ≤ c ∧ c < 5
        · by_cases hn0 : n = 0
          · refine Ev.stop fun k => ?_
            simp only [spec_CtlOk.j0]
            rw [if_neg (by decide), if_pos h1, spec_l04Class.eq, Option.bind_some, if_pos (by simpa using hc), if_pos (by omega), decide_eq_false (by omega)]
          · have hp := pgs_range hc
            have ht : top n.testBit 32 < pgs c ↔ n < 2 ^ (pgs c).toNat := by
              have := top_lt_iff (b := (pgs c).toNat) hn (by omega)
              rw [show (((pgs c).toNat : Nat) : Int) = pgs c by omega] at this
              exact this
            refine Ev.step (f := fun k => (spec_Highest.f k (n : Int)).bind fun t => (spec_PerPage.f k c).bind fun u => if t < u then some (r == 0) else some false) (fun k => ?_) (Ev.bind (f := fun k t => (spec_PerPage.f k c).bind fun u => if t < u then some (r == 0) else some false) (spec_Highest.ev n hn) (Ev.bind (f := fun _ (u : Int) => if top n.testBit 32 < u then some (r == 0) else some false) (spec_PerPage.ev c) (Ev.const ?_)))
            · simp only [spec_CtlOk.j0]
              rw [if_neg (by decide), if_pos h1, spec_l04Class.eq, Option.bind_some, if_pos (by simpa using hc), if_neg (by omega)]
            · by_cases h2 : n < 2 ^ (pgs c).toNat
              · rw [if_pos (ht.2 h2)]
                by_cases h3 : r = 0
                · rw [decide_eq_true (.inr (.inl ⟨h1, hc, hn0, h2, h3⟩))]; subst h3; rfl
                · rw [decide_eq_false (by omega)]; simp [h3]
              · rw [if_neg (fun h => h2 (ht.1 h)), decide_eq_false (by omega)]
        · refine Ev.stop fun k => ?_
          simp only [spec_CtlOk.j0]
          rw [if_neg (by decide), if_pos h1, spec_l04Class.eq, Option.bind_some, if_neg (by simpa using hc), decide_eq_false (by omega)]
      · refine Ev.stop fun k => ?_
        simp only [spec_CtlOk.j0]
        rw [if_neg (by decide), if_neg h1]
        by_cases h2 : s = 2
        · rw [if_pos h2]
          by_cases hc : c = 0
          · by_cases hn0 : n = 0
            · rw [if_pos hc, if_pos (by omega)]
              by_cases hr : r ≥ 2
              · rw [if_pos hr]
                congr 1
                exact decide_eq_decide.2 (by omega)
              · rw [if_neg hr, decide_eq_false (by omega)]
            · rw [if_pos hc, if_neg (by omega), decide_eq_false (by omega)]
          · rw [if_neg hc, decide_eq_false (by omega)]
        · rw [if_neg h2, decide_eq_false (by omega)]
/-! ### impl_CtlRead -/
theorem impl_CtlRead.ev (n : Nat) (hn : n < 2 ^ 32) : Ev (fun k => impl_CtlRead.f k (n : Int)) (rdc n) := by
  have e1 : wrap64 (Go.bits .and .u32 ((n : Int) / 1048576) 15) = ((n / 1048576 % 16 : Nat) : Int) := by
    rw [and_mask16 (by omega) (by omega), w64 (by omega) (by omega)]; omega
  have e2 : wrap64 (Go.bits .and .u32 ((n : Int) / 65536) 15) = ((n / 65536 % 16 : Nat) : Int) := by
    rw [and_mask16 (by omega) (by omega), w64 (by omega) (by omega)]; omega
  have e3 : Go.bits .and .u32 (n : Int) 65535 = ((n % 65536 : Nat) : Int) := by
    rw [and_mask64k (by omega) (by omega)]; omega
  have e4 : wrap64 ((n : Int) / 16777216) = ((n / 16777216 : Nat) : Int) := by
    rw [w64 (by omega) (by omega)]; omega
  refine Ev.congr (f := fun k => (impl_isCtl.f k ((n / 1048576 % 16 : Nat) : Int) ((n / 65536 % 16 : Nat) : Int) ((n % 65536 : Nat) : Int) ((n / 16777216 : Nat) : Int)).bind fun t => if t = true then some (((n / 1048576 % 16 : Nat) : Int), ((n / 65536 % 16 : Nat) : Int), ((n % 65536 : Nat) : Int), ((n / 16777216 : Nat) : Int), true) else some (0, 0, 0, 0, false)) (fun k => ?_) (Ev.bind (f := fun _ (t : Bool) => if t = true then some (((n / 1048576 % 16 : Nat) : Int), ((n / 65536 % 16 : Nat) : Int), ((n % 65536 : Nat) : Int), ((n / 16777216 : Nat) : Int), true) else some (0, 0, 0, 0, false)) (impl_isCtl.ev _ _ _ _ (by omega)) (Ev.const ?_))
  · simp only [impl_CtlRead.f]
    rw [e1, e2, e3, e4]
  · unfold rdc
    split <;> rfl
/-! ### spec_CtlPack -/
theorem spec_CtlPack.ev (s c r : Int) (n : Nat) (hn : n < 2 ^ 32) : Ev (fun k => spec_CtlPack.f k s c (n : Int) r) (if okc s c n r = true then (pk s c n r, true) else (0, false)) := by
  refine Ev.congr (fun _ => rfl) (Ev.bind (f := fun _ (t : Bool) => if t = true then some ((wrap64 ((wrap64 ((wrap64 ((wrap64 ((n : Int))) + (wrap64 (65536 * c)))) + (wrap64 (1048576 * s)))) + (wrap64 (16777216 * r)))) % 4294967296, true) else some (0, false)) (spec_CtlOk.ev s c r n hn) (Ev.const ?_))
  by_cases h : okc s c n r = true
  · rw [if_pos h, if_pos h]
    obtain ⟨⟨h1, h2⟩, ⟨h3, h4⟩, h5, h6, h7⟩ := okc_bounds h
    rw [w64 (x := (n : Int)) (by omega) (by omega), w64 (x := 65536 * c) (by omega) (by omega), w64 (x := 1048576 * s) (by omega) (by omega), w64 (x := 16777216 * r) (by omega) (by omega), w64 (x := (n : Int) + 65536 * c) (by omega) (by omega), w64 (x := (n : Int) + 65536 * c + 1048576 * s) (by omega) (by omega), w64 (by omega) (by omega), Int.emod_eq_of_lt (by omega) (by omega)]
    rfl
  · rw [if_neg h, if_neg h]
/-! ### spec_l01Cur_ctlWord -/
theorem spec_l01Cur_ctlWord.ok {l : List Int} {a s : Int} {N : Nat} (h : CurOk l a s N) (hN : N ≤ 800000) : ∃ (n : Nat) (a' s' : Int), Ev (fun k => spec_l01Cur_ctlWord.f k l a s) ((n : Int), a', s') ∧ CurOk l a' s' (N + 20) ∧ n < 2 ^ 32 := by
  obtain ⟨st, c, r, m, a1, s1, h1, c1, hm, hst, hc, hr⟩ := spec_l01Cur_ctl.ok h (by omega)
  obtain ⟨b, a2, s2, e2, c2⟩ := spec_l01Cur_once.ok c1 (by omega) 12 (by omega)
  obtain ⟨K, hK⟩ := h1.and (spec_CtlPack.ev st c r m hm).last
  by_cases hb : b = true
  · obtain ⟨v3, a3, s3, e3, c3, h3⟩ := spec_l01Cur_word.ok c2 (by omega)
    obtain ⟨n, rfl, hn⟩ := u32_of h3
    refine ⟨n, a3, s3, ⟨K, fun k hk => ?_⟩, c3.more (by omega), hn⟩
    obtain ⟨q1, q2⟩ := hK k hk
    simp only [spec_l01Cur_ctlWord.f, q1, q2, e2, e3, Option.bind_some, if_pos hb]
  · obtain ⟨n, hn1, hn2⟩ : ∃ n : Nat, (if okc st c m r = true then (pk st c m r, true) else (0, false)).1 = (n : Int) ∧ n < 2 ^ 32 := by
      by_cases hok : okc st c m r = true
      · obtain ⟨⟨h1, h2⟩, ⟨h3, h4⟩, h5, h6, h7⟩ := okc_bounds hok
        rw [if_pos hok]
        refine ⟨(pk st c m r).toNat, ?_, ?_⟩
        · show pk st c m r = _
          unfold pk; omega
        · unfold pk; omega
      · rw [if_neg hok]
        exact ⟨0, rfl, by decide⟩
    refine ⟨n, a2, s2, ⟨K, fun k hk => ?_⟩, c2.more (by omega), hn2⟩
    obtain ⟨q1, q2⟩ := hK k hk
    simp only [spec_l01Cur_ctlWord.f, q1, q2, e2, Option.bind_some, if_neg hb, hn1]
/-! ### spec_l01Word -/
theorem spec_l01Word.loop (p : Nat → Bool) : ∀ j : Nat, j ≤ 32 → Ev (fun k => spec_l01Word.l0 k (btl p 32) ((wd p 32 / 2 ^ j : Nat) : Int) ((j : Int) - 1)) ((wd p 32 : Nat) : Int) := by
  intro j
  induction j with
  | zero =>
    intro _
    refine Ev.stop fun k => ?_
    simp only [spec_l01Word.l0]
    rw [if_neg (by omega), Nat.pow_zero, Nat.div_one]
  | succ j ih =>
    intro hj
    refine Ev.step (f := fun k => spec_l01Word.l0 k (btl p 32) ((wd p 32 / 2 ^ j : Nat) : Int) ((j : Int) - 1)) (fun k => ?_) (ih (by omega))
    have hlen := btl_len p 32
    have hi : (((j + 1 : Nat) : Int) - 1) = (j : Int) := by omega
    have h1 := div_lt (wd_lt32 p) j
    have h2 : wd p 32 / 2 ^ (j + 1) = wd p 32 / 2 ^ j / 2 := by rw [Nat.pow_succ, Nat.div_div_eq_div_mul]
    have h3 : (if p j = true then (1 : Int) else 0) = ((wd p 32 / 2 ^ j % 2 : Nat) : Int) := by
      have hb := wd_bit p 32 j
      have hj' : j < 32 := by omega
      rw [Nat.testBit_eq_decide_div_mod_eq, decide_eq_true hj', Bool.true_and] at hb
      rcases Nat.mod_two_eq_zero_or_one (wd p 32 / 2 ^ j) with h | h
      · rw [h] at hb ⊢
        rw [← hb]; rfl
      · rw [h] at hb ⊢
        rw [← hb]; rfl
    have h4 : (((2 * ((wd p 32 / 2 ^ (j + 1) : Nat) : Int)) % 4294967296) + ((if p j = true then (1 : Int) else 0) % 4294967296)) % 4294967296 = ((wd p 32 / 2 ^ j : Nat) : Int) := by
      rw [h3, h2]
      generalize wd p 32 / 2 ^ j = y at h1 ⊢
      omega
    simp only [spec_l01Word.l0]
    rw [hi, if_pos (by omega), if_pos (by omega), if_pos (by omega), btl_rd p (by omega : j < 32), w64 (by omega) (by omega), h4]
theorem spec_l01Word.ev (p : Nat → Bool) : Ev (fun k => spec_l01Word.f k (btl p 32)) ((wd p 32 : Nat) : Int) := by
  have h := spec_l01Word.loop p 32 (Nat.le_refl _)
  rw [Nat.div_eq_of_lt (wd_lt32 p)] at h
  refine Ev.congr (fun k => ?_) h
  simp only [spec_l01Word.f]
  rw [btl_len, w64 (by omega) (by omega)]
  rfl
/-! ### spec_BitsOf -/
theorem spec_BitsOf.loop (l : List Int) (hl : l.length < 4611686018427387904) (d : Nat) : ∀ (i : Nat) (q : Nat → Bool), i + d = l.length → Ev (fun k => spec_BitsOf.l0 k l (btl q 32) (i : Int)) (bofq q (l.drop i)) := by
  induction d with
  | zero =>
    intro i q hi
    rw [List.drop_eq_nil_of_le (by omega), bofq_nil]
    refine Ev.step (f := fun k => (spec_l01Word.f k (btl q 32)).bind fun t => some (t, true)) (fun k => ?_) (Ev.bind (spec_l01Word.ev q) (Ev.now _))
    simp only [spec_BitsOf.l0]
    rw [if_neg (by omega)]
  | succ d ih =>
    intro i q hi
    have hlt : i < l.length := by omega
    rw [drop_rd l hlt, bofq_cons]
    generalize hb : rd l (i : Int) = b
    by_cases h1 : b < 0
    · rw [if_pos (.inl h1)]
      refine Ev.stop fun k => ?_
      simp only [spec_BitsOf.l0]
      rw [if_pos (by omega), if_pos (by omega), hb, if_pos h1]
    · by_cases h2 : b > 31
      · rw [if_pos (.inr h2)]
        refine Ev.stop fun k => ?_
        simp only [spec_BitsOf.l0]
        rw [if_pos (by omega), if_pos (by omega), hb, if_neg h1, if_pos h2]
      · rw [if_neg (by omega)]
        obtain ⟨c, rfl⟩ : ∃ c : Nat, b = c := ⟨b.toNat, by omega⟩
        rw [Int.toNat_natCast]
        have hlen := btl_len q 32
        have hc : c < 32 := by omega
        by_cases h3 : q c = true
        · rw [if_pos h3]
          refine Ev.stop fun k => ?_
          simp only [spec_BitsOf.l0]
          rw [if_pos (by omega), if_pos (by omega), hb, if_neg h1, if_neg h2, if_pos (by omega), if_pos (by omega), btl_rd q hc, if_pos h3, if_pos rfl]
        · rw [if_neg h3]
          refine Ev.step (f := fun k => spec_BitsOf.l0 k l (btl (fun j => q j || j == c) 32) ((i + 1 : Nat) : Int)) (fun k => ?_) (ih (i + 1) _ (by omega))
          simp only [spec_BitsOf.l0]
          rw [if_pos (by omega), if_pos (by omega), hb, if_neg h1, if_neg h2, if_pos (by omega), if_pos (by omega), btl_rd q hc, if_neg h3, if_neg (by decide), Int.toNat_natCast, btl_set q 32 hc, w64_succ (by omega)]
theorem spec_BitsOf.ev (l : List Int) (hl : l.length < 4611686018427387904) : Ev (fun k => spec_BitsOf.f k l) (bof l) := by
  refine Ev.congr (fun k => ?_) (spec_BitsOf.loop l hl l.length 0 (fun _ => false) (by omega))
  simp only [spec_BitsOf.f]
  rw [if_pos (by decide), btl_none]
  rfl
/-! ### spec_DrawCtlRead -/
theorem spec_DrawCtlRead.ok (l : List Int) (hl : l.length ≤ 1048576) (hb : ∀ x ∈ l, (Lit.int .u8 x).wf = true) : ∃ n : Nat, Ev (fun k => spec_DrawCtlRead.f k l) (n : Int) ∧ n < 2 ^ 32 := by
  obtain ⟨s0, e0, c0⟩ := spec_l01Open.ok l hl hb
  obtain ⟨n, a1, s1, h1, c1, hn⟩ := spec_l01Cur_ctlWord.ok c0 (by omega)
  obtain ⟨b, a2, s2, e2, c2⟩ := spec_l01Cur_once.ok c1 (by omega) 3 (by omega)
  by_cases hbt : b = true
  · obtain ⟨v3, a3, s3, e3, c3, _, _⟩ := spec_l01Cur_pick.ok c2 (by omega) 8 (by omega)
    obtain ⟨v4, a4, s4, e4, c4, _, _⟩ := spec_l01Cur_pick.ok c3 (by omega) 4 (by omega)
    obtain ⟨v5, a5, s5, e5, c5, _, _⟩ := spec_l01Cur_pick.ok c4 (by omega) 4 (by omega)
    obtain ⟨v6, a6, s6, e6, c6, _, _⟩ := spec_l01Cur_pick.ok c5 (by omega) 8 (by omega)
    obtain ⟨m, hm1, hm2⟩ := bof_u32 [v3, wrap64 (16 + v4), wrap64 (20 + v5), wrap64 (24 + v6)]
    obtain ⟨K, hK⟩ := h1.and (spec_BitsOf.ev [v3, wrap64 (16 + v4), wrap64 (20 + v5), wrap64 (24 + v6)] (by simp)).last
    refine ⟨m, ⟨K, fun k hk => ?_⟩, hm2⟩
    obtain ⟨q1, q2⟩ := hK k hk
    simp only [spec_DrawCtlRead.f, e0, q1, e2, e3, e4, e5, e6, q2, Option.bind_some, if_pos hbt, hm1]
  · obtain ⟨K, hK⟩ := h1
    refine ⟨n, ⟨K, fun k hk => ?_⟩, hn⟩
    have q1 := hK k hk
    simp only [spec_DrawCtlRead.f, e0, q1, e2, Option.bind_some, if_neg hbt]
/-! ### spec_CtlRead -/
theorem spec_CtlRead.ev (n : Nat) (hn : n < 2 ^ 32) : Ev (fun k => spec_CtlRead.f k (n : Int)) (rdc n) := by
  have e0 : wrap64 (n : Int) = n := w64 (by omega) (by omega)
  have e1 : Int.tmod (wrap64 (Int.tdiv (wrap64 (n : Int)) 1048576)) 16 = ((n / 1048576 % 16 : Nat) : Int) := by
    rw [e0, Int.tdiv_eq_ediv_of_nonneg (by omega), w64 (by omega) (by omega), Int.tmod_eq_emod_of_nonneg (by omega)]; omega
  have e2 : Int.tmod (wrap64 (Int.tdiv (wrap64 (n : Int)) 65536)) 16 = ((n / 65536 % 16 : Nat) : Int) := by
    rw [e0, Int.tdiv_eq_ediv_of_nonneg (by omega), w64 (by omega) (by omega), Int.tmod_eq_emod_of_nonneg (by omega)]; omega
  have e3 : (Int.tmod (wrap64 (n : Int)) 65536) % 4294967296 = ((n % 65536 : Nat) : Int) := by
    rw [e0, Int.tmod_eq_emod_of_nonneg (by omega)]; omega
  have e4 : wrap64 (Int.tdiv (wrap64 (n : Int)) 16777216) = ((n / 16777216 : Nat) : Int) := by
    rw [e0, Int.tdiv_eq_ediv_of_nonneg (by omega), w64 (by omega) (by omega)]; omega
  refine Ev.congr (f := fun k => (spec_CtlOk.f k ((n / 1048576 % 16 : Nat) : Int) ((n / 65536 % 16 : Nat) : Int) ((n % 65536 : Nat) : Int) ((n / 16777216 : Nat) : Int)).bind fun t => if t = true then some (((n / 1048576 % 16 : Nat) : Int), ((n / 65536 % 16 : Nat) : Int), ((n % 65536 : Nat) : Int), ((n / 16777216 : Nat) : Int), true) else some (0, 0, 0, 0, false)) (fun k => ?_) (Ev.bind (f := fun _ (t : Bool) => if t = true then some (((n / 1048576 % 16 : Nat) : Int), ((n / 65536 % 16 : Nat) : Int), ((n % 65536 : Nat) : Int), ((n / 16777216 : Nat) : Int), true) else some (0, 0, 0, 0, false)) (spec_CtlOk.ev _ _ _ _ (by omega)) (Ev.const ?_))
  · simp only [spec_CtlRead.f]
    rw [e1, e2, e3, e4]
  · unfold rdc
    split <;> rfl
/-! ### impl_CtlOk -/
theorem impl_CtlOk.ev (s c r : Int) (n : Nat) (hn : n < 2 ^ 32) : Ev (fun k => impl_CtlOk.f k s c (n : Int) r) (okc s c n r) :=
  Ev.bind (f := fun _ (t : Bool) => some t) (impl_isCtl.ev s c r n hn) (Ev.now _)
/-! ### laws_FnCtl -/
theorem laws_FnCtl.j1_no (k : Nat) (y : Int) : laws_FnCtl.j1 (k + 1) y false false true 0 0 0 0 0 0 0 0 = some true := by
  rw [laws_FnCtl.j1.eq_2, if_pos rfl, if_pos (by decide)]
  rfl
theorem laws_FnCtl.j1_yes (k : Nat) (y s c m r : Int) (e1 : impl_CtlPack.f k s c m r = some (y, true)) (e2 : impl_CtlOk.f k s c m r = some true) : laws_FnCtl.j1 (k + 1) y true true false s c m r s c m r = some true := by
  rw [laws_FnCtl.j1.eq_2, if_neg (by decide), e1, Option.bind_some, if_pos rfl, if_pos rfl, e2, Option.bind_some]
theorem laws_FnCtl.tail_no (l : List Int) (y : Nat) (hy : y < 2 ^ 32) (d2 : Ev (fun k => spec_DrawCtlRead.f k l) (y : Int)) (h : rdc y = (0, 0, 0, 0, false)) : Ev (fun k => laws_FnCtl.j0 k l) true := by
  obtain ⟨K, hK⟩ := d2.and ((impl_CtlRead.ev y hy).and (spec_CtlRead.ev y hy).last)
  refine ⟨K + 2, fun k hk => ?_⟩
  obtain ⟨k, rfl⟩ : ∃ j, k = j + 1 + 1 := ⟨k - 2, by omega⟩
  obtain ⟨q1, q2, q3⟩ := hK (k + 1) (by omega)
  rw [h] at q2 q3
  show laws_FnCtl.j0 (k + 1 + 1) l = some true
  rw [laws_FnCtl.j0.eq_2, q1, Option.bind_some, q2, Option.bind_some, q3, Option.bind_some, if_neg (by decide), if_neg (by decide)]
  exact laws_FnCtl.j1_no k (y : Int)
theorem laws_FnCtl.tail_yes (l : List Int) (y : Nat) (hy : y < 2 ^ 32) (d2 : Ev (fun k => spec_DrawCtlRead.f k l) (y : Int)) (s' c' r' : Int) (m' : Nat) (h : rdc y = (s', c', (m' : Int), r', true)) (hok : okc s' c' m' r' = true) (hpk : pk s' c' m' r' = y) : Ev (fun k => laws_FnCtl.j0 k l) true := by
  have hm' : m' < 2 ^ 32 := by have := (okc_bounds hok).2.2.1; omega
  obtain ⟨K, hK⟩ := d2.and ((impl_CtlRead.ev y hy).and ((spec_CtlRead.ev y hy).and ((impl_CtlPack.ev s' c' r' m' hm').and (impl_CtlOk.ev s' c' r' m' hm').last)))
  refine ⟨K + 2, fun k hk => ?_⟩
  obtain ⟨k, rfl⟩ : ∃ j, k = j + 1 + 1 := ⟨k - 2, by omega⟩
  obtain ⟨q1, q2, q3, _, _⟩ := hK (k + 1) (by omega)
  obtain ⟨_, _, _, q4, q5⟩ := hK k (by omega)
  rw [h] at q2 q3
  rw [if_pos hok] at q4
  rw [hok] at q5
  rw [hpk] at q4
  show laws_FnCtl.j0 (k + 1 + 1) l = some true
  rw [laws_FnCtl.j0.eq_2, q1, Option.bind_some, q2, Option.bind_some, q3, Option.bind_some, if_neg (by simp), if_neg (by simp)]
  exact laws_FnCtl.j1_yes k (y : Int) s' c' (m' : Int) r' q4 q5
theorem FnCtl : laws_FnCtl.Pure := by
  intro l _ _ hb
  by_cases hlen : l.length > 1048576
  · refine ⟨0, ?_⟩
    simp only [laws_FnCtl.f]
    rw [laws_big.eq, Option.bind_some, if_pos (by simpa using hlen)]
  · have hbig : laws_big.f l = some false := by rw [laws_big.eq, decide_eq_false hlen]
    obtain ⟨st, c, r, m, d1, hm, _, _, _⟩ := spec_DrawCtlPack.ok l (by omega) hb
    obtain ⟨y, d2, hy⟩ := spec_DrawCtlRead.ok l (by omega) hb
    have hj : Ev (fun k => laws_FnCtl.j0 k l) true := by
      rcases rdc_cases hy with h | ⟨s', c', r', m', h, hok, hpk⟩
      · exact laws_FnCtl.tail_no l y hy d2 h
      · exact laws_FnCtl.tail_yes l y hy d2 s' c' r' m' h hok hpk
    obtain ⟨k, e1, e2, e3, e4⟩ := (d1.and ((impl_CtlPack.ev st c r m hm).and ((spec_CtlOk.ev st c r m hm).and hj.last))).pick
    by_cases hok : okc st c m r = true
    · obtain ⟨⟨h1, h2⟩, ⟨h3, h4⟩, h5, h6, h7⟩ := okc_bounds hok
      obtain ⟨n, hn⟩ : ∃ n : Nat, pk st c m r = n := ⟨(pk st c m r).toNat, by unfold pk; omega⟩
      have hn32 : n < 2 ^ 32 := by unfold pk at hn; omega
      have hrd := rdc_pk hok n hn
      obtain ⟨k, e1, e2, e3, e4, e5⟩ := (d1.and ((impl_CtlPack.ev st c r m hm).and ((spec_CtlOk.ev st c r m hm).and (hj.and (impl_CtlRead.ev n hn32).last)))).pick
      refine ⟨k, ?_⟩
      rw [if_pos hok, hn] at e2
      rw [hok] at e3
      rw [hrd] at e5
      unfold laws_FnCtl.f
      rw [hbig, Option.bind_some, if_neg (by decide), e1, Option.bind_some, e2, Option.bind_some, e3, Option.bind_some, if_neg (by simp), if_pos rfl, e5, Option.bind_some, if_pos rfl, if_neg (by simp)]
      exact e4
    · refine ⟨k, ?_⟩
      rw [if_neg hok] at e2
      have hok' : okc st c m r = false := by simpa using hok
      rw [hok'] at e3
      unfold laws_FnCtl.f
      rw [hbig, Option.bind_some, if_neg (by decide), e1, Option.bind_some, e2, Option.bind_some, e3, Option.bind_some, if_neg (by decide), if_neg (by decide)]
      exact e4

end Go.Proofs.Ytllidkccikmgiaa.Pure
