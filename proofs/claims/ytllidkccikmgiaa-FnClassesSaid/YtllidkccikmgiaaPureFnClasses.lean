/-
  The law FnClasses: what both programs compute, in plain Lean, and that it is the same.
  Conditions: none beyond those of the statement itself.
-/
import Derived.Test.YtllidkccikmgiaaPFnClassesx2
import Derived.Test.YtllidkccikmgiaaLib
namespace Go.Proofs.Ytllidkccikmgiaa.Pure
open Go.RowKit Go.Proofs.Ytllidkccikmgiaa.PFnClasses Go.Proofs.YtllidkccikmgiaaW.PrintWords Go.Proofs.YtllidkccikmgiaaW.PrintLast

/-! ### laws_big -/
theorem laws_big.eq (l : List Int) : laws_big.f l = some (decide (l.length > 1048576)) := by
  unfold laws_big.f
  congr 1
  exact decide_eq_decide.2 (by omega)
/-! ### spec_l01Open -/
theorem spec_l01Open.ok (l : List Int) (hl : l.length ≤ 1048576) (hb : ∀ x ∈ l, (Lit.int .u8 x).wf = true) : ∃ s : Int, spec_l01Open.f l = some (l, 0, s) ∧ CurOk l 0 s 0 :=
  ⟨_, rfl, fun x hx => bounds_u8 (hb x hx), hl, by omega, by omega, by omega, by omega⟩
/-! ### spec_l01Cur_pick -/
theorem spec_l01Cur_pick.ok {l : List Int} {a s : Int} {N : Nat} (h : CurOk l a s N) (hN : N ≤ 1000000000) (n : Int) (hn : n ≤ 4294967296) : ∃ v a' s' : Int, spec_l01Cur_pick.f l a s n = some (v, a', s') ∧ CurOk l a' s' (N + 1) ∧ 0 ≤ v ∧ (v = 0 ∨ v < n) := by
  obtain ⟨hb, hl, ha0, ha1, hs0, hs1⟩ := h
  unfold spec_l01Cur_pick.f
  by_cases h2 : n < 2
  · rw [if_pos h2]
    exact ⟨0, a, s, rfl, ⟨hb, hl, ha0, by omega, hs0, hs1⟩, by omega, .inl rfl⟩
  · rw [if_neg h2]
    by_cases h3 : a < (l.length : Int)
    · have hr := rd_all hb ha0 h3
      have ht := tmod_range (x := wrap64 (rd l a)) (m := n) (by rw [w64 (by omega) (by omega)]; omega) (by omega)
      rw [if_pos h3, if_pos ha0, if_neg (by omega)]
      refine ⟨_, _, _, rfl, ⟨hb, hl, ?_, ?_, hs0, hs1⟩, ht.1, .inr ht.2⟩
      · rw [w64 (by omega) (by omega)]; omega
      · rw [w64 (by omega) (by omega)]; omega
    · rw [if_neg h3]
      have hsd := seed_next hs0 hs1
      by_cases h4 : (l.length : Int) > 0
      · have hi := tmod_range (x := a) (m := (l.length : Int)) ha0 h4
        have hr := rd_all hb hi.1 hi.2
        rw [if_pos h4, if_neg (by omega), if_pos hi.1, if_pos hi.2, if_neg (by omega)]
        generalize Int.tmod (wrap64 ((wrap64 (s * 1103)) + 12345)) 65521 = s2 at hsd ⊢
        generalize rd l (Int.tmod a (l.length : Int)) = x at hr ⊢
        have e : wrap64 ((wrap64 (Int.tdiv s2 7)) + (wrap64 x)) = s2 / 7 + x := by
          rw [Int.tdiv_eq_ediv_of_nonneg hsd.1, w64 (x := s2 / 7) (by omega) (by omega), w64 (x := x) (by omega) (by omega), w64 (by omega) (by omega)]
        have ht := tmod_range (x := wrap64 ((wrap64 (Int.tdiv s2 7)) + (wrap64 x))) (m := n) (by rw [e]; omega) (by omega)
        refine ⟨_, _, _, rfl, ⟨hb, hl, ?_, ?_, hsd.1, hsd.2⟩, ht.1, .inr ht.2⟩
        · rw [w64 (by omega) (by omega)]; omega
        · rw [w64 (by omega) (by omega)]; omega
      · rw [if_neg h4, if_neg (by omega)]
        refine ⟨_, _, _, rfl, ⟨hb, hl, ?_, ?_, hsd.1, hsd.2⟩, ?_, .inl ?_⟩
        · rw [w64 (by omega) (by omega)]; omega
        · rw [w64 (by omega) (by omega)]; omega
        · simp
        · simp
/-! ### spec_l01Cur_raw -/
theorem spec_l01Cur_raw.ok {l : List Int} {a s : Int} {N : Nat} (h : CurOk l a s N) (hN : N ≤ 1000000) : ∃ v a' s' : Int, spec_l01Cur_raw.f l a s = some (v, a', s') ∧ CurOk l a' s' (N + 2) ∧ I64 v := by
  obtain ⟨v, a1, s1, e1, c1, _, _⟩ := spec_l01Cur_pick.ok h (by omega) 8 (by omega)
  unfold spec_l01Cur_raw.f
  rw [e1, Option.bind_some]
  by_cases h0 : v = 0
  · obtain ⟨v2, a2, s2, e2, c2, h3, h4⟩ := spec_l01Cur_pick.ok c1 (by omega) 256 (by omega)
    simp only [if_pos h0, e2, Option.bind_some]
    refine ⟨_, _, _, rfl, c2, ?_⟩
    rw [w64 (by omega) (by omega)]
    exact ⟨by omega, by omega⟩
  · by_cases h1 : v = 1
    · obtain ⟨v2, a2, s2, e2, c2, h3, h4⟩ := spec_l01Cur_pick.ok c1 (by omega) 8 (by omega)
      simp only [if_neg h0, if_pos h1, e2, Option.bind_some, List.length_cons, List.length_nil]
      rw [if_pos h3, if_pos (by omega)]
      refine ⟨_, _, _, rfl, c2, rd_all ?_ h3 (by simp only [List.length_cons, List.length_nil]; omega)⟩
      intro x hx
      simp only [List.mem_cons, List.not_mem_nil, or_false] at hx
      unfold I64
      omega
    · obtain ⟨v2, a2, s2, e2, c2, h3, h4⟩ := spec_l01Cur_pick.ok c1 (by omega) 14 (by omega)
      simp only [if_neg h0, if_neg h1, e2, Option.bind_some]
      refine ⟨_, _, _, rfl, c2, ?_⟩
      rw [w64 (by omega) (by omega)]
      exact ⟨by omega, by omega⟩
/-! ### spec_DrawChunksFor -/
theorem spec_DrawChunksFor.ok (l : List Int) (hl : l.length ≤ 1048576) (hb : ∀ x ∈ l, (Lit.int .u8 x).wf = true) : ∃ v : Int, spec_DrawChunksFor.f l = some v ∧ I64 v := by
  obtain ⟨s0, e0, c0⟩ := spec_l01Open.ok l hl hb
  obtain ⟨v1, a1, s1, e1, c1, h1, g1⟩ := spec_l01Cur_pick.ok c0 (by omega) 19 (by omega)
  obtain ⟨v2, a2, s2, e2, c2, h2, g2⟩ := spec_l01Cur_pick.ok c1 (by omega) 256 (by omega)
  obtain ⟨v3, a3, s3, e3, c3, h3⟩ := spec_l01Cur_raw.ok c2 (by omega)
  obtain ⟨v4, a4, s4, e4, c4, h4, g4⟩ := spec_l01Cur_pick.ok c3 (by omega) 5 (by omega)
  simp only [spec_DrawChunksFor.f, e0, e1, e2, e3, e4, Option.bind_some, List.length_cons, List.length_nil]
  rw [if_pos h4, if_pos (by omega)]
  refine ⟨_, rfl, rd_all ?_ h4 (by simp only [List.length_cons, List.length_nil]; omega)⟩
  intro x hx
  unfold I64 at h3 ⊢
  simp only [List.mem_cons, List.not_mem_nil, or_false] at hx
  omega
/-! ### impl_within -/
theorem impl_within.eq (a lo hi : Int) : impl_within.f a lo hi = some (decide (lo ≤ a ∧ a ≤ hi)) := by
  unfold impl_within.f
  split
  · rename_i h
    have : lo ≤ a := h
    simp [this]
  · rename_i h
    have : ¬ lo ≤ a := h
    simp [this]
/-! ### bits_Len32 -/
theorem bits_Len32.tab (c : Nat) (hc : c < 256) : bt (⟨#[0, 1, 2, 2, 3, 3, 3, 3, 4, 4, 4, 4, 4, 4, 4, 4, 5, 5, 5, 5, 5, 5, 5, 5, 5, 5, 5, 5, 5, 5, 5, 5, 6, 6, 6, 6, 6, 6, 6, 6, 6, 6, 6, 6, 6, 6, 6, 6, 6, 6, 6, 6, 6, 6, 6, 6, 6, 6, 6, 6, 6, 6, 6, 6, 7, 7, 7, 7, 7, 7, 7, 7, 7, 7, 7, 7, 7, 7, 7, 7, 7, 7, 7, 7, 7, 7, 7, 7, 7, 7, 7, 7, 7, 7, 7, 7, 7, 7, 7, 7, 7, 7, 7, 7, 7, 7, 7, 7, 7, 7, 7, 7, 7, 7, 7, 7, 7, 7, 7, 7, 7, 7, 7, 7, 7, 7, 7, 7, 8, 8, 8, 8, 8, 8, 8, 8, 8, 8, 8, 8, 8, 8, 8, 8, 8, 8, 8, 8, 8, 8, 8, 8, 8, 8, 8, 8, 8, 8, 8, 8, 8, 8, 8, 8, 8, 8, 8, 8, 8, 8, 8, 8, 8, 8, 8, 8, 8, 8, 8, 8, 8, 8, 8, 8, 8, 8, 8, 8, 8, 8, 8, 8, 8, 8, 8, 8, 8, 8, 8, 8, 8, 8, 8, 8, 8, 8, 8, 8, 8, 8, 8, 8, 8, 8, 8, 8, 8, 8, 8, 8, 8, 8, 8, 8, 8, 8, 8, 8, 8, 8, 8, 8, 8, 8, 8, 8, 8, 8, 8, 8, 8, 8, 8, 8, 8, 8, 8, 8, 8, 8, 8, 8, 8, 8, 8, 8]⟩ : ByteArray) (c : Int) = top c.testBit 8 + 1 := by
  have h : ∀ c : Fin 256, bt (⟨#[0, 1, 2, 2, 3, 3, 3, 3, 4, 4, 4, 4, 4, 4, 4, 4, 5, 5, 5, 5, 5, 5, 5, 5, 5, 5, 5, 5, 5, 5, 5, 5, 6, 6, 6, 6, 6, 6, 6, 6, 6, 6, 6, 6, 6, 6, 6, 6, 6, 6, 6, 6, 6, 6, 6, 6, 6, 6, 6, 6, 6, 6, 6, 6, 7, 7, 7, 7, 7, 7, 7, 7, 7, 7, 7, 7, 7, 7, 7, 7, 7, 7, 7, 7, 7, 7, 7, 7, 7, 7, 7, 7, 7, 7, 7, 7, 7, 7, 7, 7, 7, 7, 7, 7, 7, 7, 7, 7, 7, 7, 7, 7, 7, 7, 7, 7, 7, 7, 7, 7, 7, 7, 7, 7, 7, 7, 7, 7, 8, 8, 8, 8, 8, 8, 8, 8, 8, 8, 8, 8, 8, 8, 8, 8, 8, 8, 8, 8, 8, 8, 8, 8, 8, 8, 8, 8, 8, 8, 8, 8, 8, 8, 8, 8, 8, 8, 8, 8, 8, 8, 8, 8, 8, 8, 8, 8, 8, 8, 8, 8, 8, 8, 8, 8, 8, 8, 8, 8, 8, 8, 8, 8, 8, 8, 8, 8, 8, 8, 8, 8, 8, 8, 8, 8, 8, 8, 8, 8, 8, 8, 8, 8, 8, 8, 8, 8, 8, 8, 8, 8, 8, 8, 8, 8, 8, 8, 8, 8, 8, 8, 8, 8, 8, 8, 8, 8, 8, 8, 8, 8, 8, 8, 8, 8, 8, 8, 8, 8, 8, 8, 8, 8, 8, 8, 8, 8]⟩ : ByteArray) (c.val : Int) = top c.val.testBit 8 + 1 := by decide +kernel
  exact h ⟨c, hc⟩
theorem bits_Len32.eq (n : Nat) (hn : n < 2 ^ 32) : bits_Len32.f (n : Int) = some (top n.testBit 32 + 1) := by
  unfold bits_Len32.f
  have hb := fun x => top_lt (Nat.testBit x) 8
  have hg := fun x => top_ge (Nat.testBit x) 8
  rw [top_bytes hn]
  by_cases a : n ≥ 65536
  · rw [if_pos (by omega)]
    by_cases b : n ≥ 16777216
    · have e : (((n : Int) / 65536) / 256) % 256 = ((n / 16777216 : Nat) : Int) := by omega
      have h1 := hb (n / 16777216)
      have h2 := hg (n / 16777216)
      rw [if_pos (by omega), e, if_pos (by omega), if_pos (by omega), bits_Len32.tab _ (by omega), if_pos b, w64 (x := top _ _ + 1) (by omega) (by omega), w64 (by omega) (by omega)]
      congr 1
      omega
    · have e : ((n : Int) / 65536) % 256 = ((n / 65536 : Nat) : Int) := by omega
      have h1 := hb (n / 65536)
      have h2 := hg (n / 65536)
      rw [if_neg (by omega), e, if_pos (by omega), if_pos (by omega), bits_Len32.tab _ (by omega), if_neg b, if_pos a, w64 (x := top _ _ + 1) (by omega) (by omega), w64 (by omega) (by omega)]
      congr 1
      omega
  · rw [if_neg (by omega)]
    by_cases b : n ≥ 256
    · have e : ((n : Int) / 256) % 256 = ((n / 256 : Nat) : Int) := by omega
      have h1 := hb (n / 256)
      have h2 := hg (n / 256)
      rw [if_pos (by omega), e, if_pos (by omega), if_pos (by omega), bits_Len32.tab _ (by omega), if_neg (by omega), if_neg a, if_pos b, w64 (x := top _ _ + 1) (by omega) (by omega), w64 (by omega) (by omega)]
      congr 1
      omega
    · have e : ((n : Int)) % 256 = (n : Int) := by omega
      have h1 := hb n
      have h2 := hg n
      rw [if_neg (by omega), e, if_pos (by omega), if_pos (by omega), bits_Len32.tab _ (by omega), if_neg (by omega), if_neg a, if_neg b, w64 (x := top _ _ + 1) (by omega) (by omega), w64 (by omega) (by omega)]
      congr 1
      omega
/-! ### bits_Len64 -/
theorem bits_Len64.tab (c : Nat) (hc : c < 256) : bt (⟨#[0, 1, 2, 2, 3, 3, 3, 3, 4, 4, 4, 4, 4, 4, 4, 4, 5, 5, 5, 5, 5, 5, 5, 5, 5, 5, 5, 5, 5, 5, 5, 5, 6, 6, 6, 6, 6, 6, 6, 6, 6, 6, 6, 6, 6, 6, 6, 6, 6, 6, 6, 6, 6, 6, 6, 6, 6, 6, 6, 6, 6, 6, 6, 6, 7, 7, 7, 7, 7, 7, 7, 7, 7, 7, 7, 7, 7, 7, 7, 7, 7, 7, 7, 7, 7, 7, 7, 7, 7, 7, 7, 7, 7, 7, 7, 7, 7, 7, 7, 7, 7, 7, 7, 7, 7, 7, 7, 7, 7, 7, 7, 7, 7, 7, 7, 7, 7, 7, 7, 7, 7, 7, 7, 7, 7, 7, 7, 7, 8, 8, 8, 8, 8, 8, 8, 8, 8, 8, 8, 8, 8, 8, 8, 8, 8, 8, 8, 8, 8, 8, 8, 8, 8, 8, 8, 8, 8, 8, 8, 8, 8, 8, 8, 8, 8, 8, 8, 8, 8, 8, 8, 8, 8, 8, 8, 8, 8, 8, 8, 8, 8, 8, 8, 8, 8, 8, 8, 8, 8, 8, 8, 8, 8, 8, 8, 8, 8, 8, 8, 8, 8, 8, 8, 8, 8, 8, 8, 8, 8, 8, 8, 8, 8, 8, 8, 8, 8, 8, 8, 8, 8, 8, 8, 8, 8, 8, 8, 8, 8, 8, 8, 8, 8, 8, 8, 8, 8, 8, 8, 8, 8, 8, 8, 8, 8, 8, 8, 8, 8, 8, 8, 8, 8, 8, 8, 8]⟩ : ByteArray) (c : Int) = top c.testBit 8 + 1 := by
  have h : ∀ c : Fin 256, bt (⟨#[0, 1, 2, 2, 3, 3, 3, 3, 4, 4, 4, 4, 4, 4, 4, 4, 5, 5, 5, 5, 5, 5, 5, 5, 5, 5, 5, 5, 5, 5, 5, 5, 6, 6, 6, 6, 6, 6, 6, 6, 6, 6, 6, 6, 6, 6, 6, 6, 6, 6, 6, 6, 6, 6, 6, 6, 6, 6, 6, 6, 6, 6, 6, 6, 7, 7, 7, 7, 7, 7, 7, 7, 7, 7, 7, 7, 7, 7, 7, 7, 7, 7, 7, 7, 7, 7, 7, 7, 7, 7, 7, 7, 7, 7, 7, 7, 7, 7, 7, 7, 7, 7, 7, 7, 7, 7, 7, 7, 7, 7, 7, 7, 7, 7, 7, 7, 7, 7, 7, 7, 7, 7, 7, 7, 7, 7, 7, 7, 8, 8, 8, 8, 8, 8, 8, 8, 8, 8, 8, 8, 8, 8, 8, 8, 8, 8, 8, 8, 8, 8, 8, 8, 8, 8, 8, 8, 8, 8, 8, 8, 8, 8, 8, 8, 8, 8, 8, 8, 8, 8, 8, 8, 8, 8, 8, 8, 8, 8, 8, 8, 8, 8, 8, 8, 8, 8, 8, 8, 8, 8, 8, 8, 8, 8, 8, 8, 8, 8, 8, 8, 8, 8, 8, 8, 8, 8, 8, 8, 8, 8, 8, 8, 8, 8, 8, 8, 8, 8, 8, 8, 8, 8, 8, 8, 8, 8, 8, 8, 8, 8, 8, 8, 8, 8, 8, 8, 8, 8, 8, 8, 8, 8, 8, 8, 8, 8, 8, 8, 8, 8, 8, 8, 8, 8, 8, 8]⟩ : ByteArray) (c.val : Int) = top c.val.testBit 8 + 1 := by decide +kernel
  exact h ⟨c, hc⟩
theorem bits_Len64.small (n : Nat) (hn : n < 256) : Ev (fun k => bits_Len64.f k (n : Int)) (top n.testBit 8 + 1) := by
  refine Ev.congr (f := fun k => bits_Len64.j0 k (n : Int) 0) (fun k => ?_) (Ev.stop fun k => ?_)
  · simp only [bits_Len64.f]
    rw [if_neg (by omega)]
  · have e : ((n : Int)) % 256 = (n : Int) := by omega
    have h1 := top_lt n.testBit 8
    have h2 := top_ge n.testBit 8
    rw [bits_Len64.j0.eq_2, if_neg (by omega), if_neg (by omega), e, if_pos (by omega), if_pos (by omega), bits_Len64.tab n hn, w64 (x := top _ _ + 1) (by omega) (by omega), w64 (by omega) (by omega)]
    congr 1
    omega
/-! ### bits_Len -/
theorem bits_Len.small (n : Nat) (hn : n < 256) : Ev (fun k => bits_Len.f k (n : Int)) (top n.testBit 8 + 1) :=
  Ev.bind (f := fun _ (t : Int) => some t) (bits_Len64.small n hn) (Ev.now _)
/-! ### impl_ClassOf -/
theorem impl_ClassOf.ev (a : Int) : Ev (fun k => impl_ClassOf.f k a) (cls a) := by
  by_cases h : 1 ≤ a ∧ a ≤ 16
  · obtain ⟨c, rfl⟩ : ∃ c : Nat, a = (c : Int) + 1 := ⟨(a - 1).toNat, by omega⟩
    have hc : c < 16 := by omega
    have e : IntKind.u64.wrap (wrap64 ((c : Int) + 1 - 1)) = (c : Int) := by
      rw [w64 (by omega) (by omega)]
      simp only [IntKind.wrap, IntKind.bits, IntKind.signed]
      simp
      omega
    have hcls := cls_at ⟨c, hc⟩
    simp only at hcls
    rw [hcls]
    refine Ev.congr (f := fun k => (bits_Len.f k (c : Int)).bind fun t => some t) (fun k => ?_) (Ev.bind (f := fun _ (t : Int) => some t) (bits_Len.small c (by omega)) (Ev.now _))
    simp only [impl_ClassOf.f]
    rw [impl_within.eq, Option.bind_some, if_pos (by simpa using h), e]
  · have e : cls a = -1 := by
      unfold cls
      by_cases h1 : 1 ≤ a
      · rw [if_pos h1, clsF_big (by omega)]
      · rw [if_neg h1]
    rw [e]
    refine Ev.congr (fun k => ?_) (Ev.now _)
    simp only [impl_ClassOf.f]
    rw [impl_within.eq, Option.bind_some, if_neg (by simpa using h)]
/-! ### impl_ChunksFor -/
theorem impl_ChunksFor.eq (a : Int) : impl_ChunksFor.f a = some (if 17 ≤ a ∧ a ≤ 256 then (a + 15) / 16 else 0) := by
  unfold impl_ChunksFor.f
  rw [impl_within.eq, Option.bind_some]
  by_cases h : 17 ≤ a ∧ a ≤ 256
  · rw [if_pos (by simpa using h), if_pos h, w64 (x := a + 16) (by omega) (by omega), w64 (x := a + 16 - 1) (by omega) (by omega), Int.tdiv_eq_ediv_of_nonneg (by omega), w64 (by omega) (by omega)]
    congr 1
    omega
  · rw [if_neg (by simpa using h), if_neg h]
/-! ### spec_l04Pow -/
theorem spec_l04Pow.loop (d : Nat) : ∀ m : Nat, m + d < 62 → Ev (fun k => spec_l04Pow.l0 k (d : Int) ((2 ^ m : Nat) : Int)) ((2 ^ (m + d) : Nat) : Int) := by
  induction d with
  | zero =>
    intro m hm
    refine Ev.stop fun k => ?_
    simp only [spec_l04Pow.l0]
    rw [if_neg (by omega)]
    rfl
  | succ d ih =>
    intro m hm
    have h := ih (m + 1) (by omega)
    rw [show m + 1 + d = m + (d + 1) by omega] at h
    refine Ev.step (fun k => ?_) h
    have hp : (2 : Nat) ^ (m + 1) < 2 ^ 62 := Nat.pow_lt_pow_right (by decide) (by omega)
    have e : wrap64 (2 * ((2 ^ m : Nat) : Int)) = ((2 ^ (m + 1) : Nat) : Int) := by
      rw [Nat.pow_succ] at hp ⊢
      rw [w64 (by omega) (by omega)]
      omega
    simp only [spec_l04Pow.l0]
    rw [if_pos (by omega), e, w64 (by omega) (by omega), show ((d + 1 : Nat) : Int) - 1 = (d : Int) by omega]
theorem spec_l04Pow.ev (d : Nat) (hd : d < 62) : Ev (fun k => spec_l04Pow.f k (d : Int)) ((2 ^ d : Nat) : Int) := by
  have h := spec_l04Pow.loop d 0 (by omega)
  rw [Nat.zero_add] at h
  exact Ev.congr (fun _ => rfl) h
/-! ### spec_ClassOf -/
theorem spec_ClassOf.loop (a : Int) (ha : 1 ≤ a) (d : Nat) : ∀ i : Nat, i + d = 5 → Ev (fun k => spec_ClassOf.l0 k a (i : Int)) (clsF a d i) := by
  induction d with
  | zero =>
    intro i hi
    refine Ev.step (f := fun k => spec_ClassOf.j1 k a (i : Int) false) (fun k => ?_) (Ev.stop fun k => ?_)
    · simp only [spec_ClassOf.l0]
      rw [if_neg (by omega)]
    · simp only [spec_ClassOf.j1, clsF]
      rw [if_neg (by decide)]
  | succ d ih =>
    intro i hi
    refine Ev.step (f := fun k => spec_ClassOf.j1 k a (i : Int) (decide (a ≥ 1))) (fun k => ?_) ?_
    · simp only [spec_ClassOf.l0]
      rw [if_pos (by omega)]
    · refine Ev.step (f := fun k => (spec_l04Pow.f k (i : Int)).bind fun t => if t ≥ a then some (i : Int) else spec_ClassOf.l0 k a (wrap64 ((i : Int) + 1))) (fun k => ?_) (Ev.bind (spec_l04Pow.ev i (by omega)) ?_)
      · simp only [spec_ClassOf.j1]
        rw [if_pos (by simpa using ha)]
      · simp only [clsF]
        by_cases h : ((2 ^ i : Nat) : Int) ≥ a
        · rw [if_pos h]
          refine Ev.congr (f := fun _ => some (i : Int)) (fun k => ?_) (Ev.now _)
          simp only [if_pos h]
        · rw [if_neg h]
          refine Ev.congr (fun k => ?_) (ih (i + 1) (by omega))
          simp only [if_neg h]
          rw [w64_succ (by omega)]
theorem spec_ClassOf.ev (a : Int) : Ev (fun k => spec_ClassOf.f k a) (cls a) := by
  unfold cls
  by_cases ha : 1 ≤ a
  · rw [if_pos ha]
    exact Ev.congr (fun _ => rfl) (spec_ClassOf.loop a ha 5 0 rfl)
  · rw [if_neg ha]
    refine Ev.congr (f := fun k => spec_ClassOf.l0 k a 0) (fun _ => rfl) (Ev.step (f := fun k => spec_ClassOf.j1 k a 0 (decide (a ≥ 1))) (fun k => ?_) (Ev.stop fun k => ?_))
    · simp only [spec_ClassOf.l0]
      rw [if_pos (by omega)]
    · simp only [spec_ClassOf.j1]
      rw [if_neg (by simpa using ha)]
/-! ### spec_ChunksFor -/
theorem spec_ChunksFor.eq (a : Int) : spec_ChunksFor.f a = some (if 17 ≤ a ∧ a ≤ 256 then (a + 15) / 16 else 0) := by
  unfold spec_ChunksFor.f
  by_cases h1 : a ≤ 16
  · rw [if_pos h1, if_neg (by omega)]
  · by_cases h2 : a > 256
    · rw [if_neg h1, if_pos h2, if_neg (by omega)]
    · rw [if_neg h1, if_neg h2, if_pos (by omega), w64 (x := a + 16) (by omega) (by omega), w64 (x := a + 16 - 1) (by omega) (by omega), Int.tdiv_eq_ediv_of_nonneg (by omega), w64 (by omega) (by omega)]
      congr 1
      omega
/-! ### impl_isClass -/
theorem impl_isClass.eq (a : Int) : impl_isClass.f a = some (decide (0 ≤ a ∧ a < 5)) := by
  unfold impl_isClass.f
  rw [impl_within.eq, Option.bind_some]
  have : (0 ≤ a ∧ a ≤ 4) ↔ (0 ≤ a ∧ a < 5) := by omega
  simp only [this]
/-! ### impl_ClassSize -/
theorem impl_ClassSize.eq (a : Int) : impl_ClassSize.f a = some (csz a) := by
  unfold impl_ClassSize.f csz
  rw [impl_isClass.eq, Option.bind_some]
  by_cases h : 0 ≤ a ∧ a < 5
  · rw [if_pos h, if_pos (by simpa using h), if_pos h.1]
    have : a = 0 ∨ a = 1 ∨ a = 2 ∨ a = 3 ∨ a = 4 := by omega
    rcases this with rfl | rfl | rfl | rfl | rfl <;> rfl
  · rw [if_neg h, if_neg (by simpa using h)]
/-! ### impl_PerPage -/
theorem impl_PerPage.eq (a : Int) : impl_PerPage.f a = some (pgs a) := by
  unfold impl_PerPage.f pgs
  rw [impl_isClass.eq, Option.bind_some]
  by_cases h : 0 ≤ a ∧ a < 5
  · rw [if_pos h, if_pos (by simpa using h), if_pos h.1]
    have : a = 0 ∨ a = 1 ∨ a = 2 ∨ a = 3 ∨ a = 4 := by omega
    rcases this with rfl | rfl | rfl | rfl | rfl <;> rfl
  · rw [if_neg h, if_neg (by simpa using h)]
/-! ### laws_FnClasses -/
theorem FnClasses : laws_FnClasses.Pure := by
  intro l _ _ hb
  by_cases hlen : l.length > 1048576
  · refine ⟨0, ?_⟩
    simp only [laws_FnClasses.f]
    rw [laws_big.eq, Option.bind_some, if_pos (by simpa using hlen)]
  · obtain ⟨a, e0, ha⟩ := spec_DrawChunksFor.ok l (by omega) hb
    obtain ⟨k, ⟨_, _⟩, ⟨f1, f2⟩⟩ := ((spec_ClassOf.ev a).and (impl_ClassOf.ev a).last).two
    refine ⟨k + 1, ?_⟩
    have hbig : laws_big.f l = some false := by rw [laws_big.eq, decide_eq_false hlen]
    simp only [laws_FnClasses.f, laws_FnClasses.j0, hbig, e0, f1, f2, impl_ChunksFor.eq, spec_ChunksFor.eq, impl_ClassSize.eq, impl_PerPage.eq, Option.bind_some, if_true, bne_self_eq_false, Bool.false_eq_true, if_false]
    by_cases h16 : 1 ≤ a ∧ a ≤ 16
    · have hch : ¬ (17 ≤ a ∧ a ≤ 256) := by omega
      rw [if_neg hch, if_pos rfl]
      have hc : a = 1 ∨ a = 2 ∨ a = 3 ∨ a = 4 ∨ a = 5 ∨ a = 6 ∨ a = 7 ∨ a = 8 ∨ a = 9 ∨ a = 10 ∨ a = 11 ∨ a = 12 ∨ a = 13 ∨ a = 14 ∨ a = 15 ∨ a = 16 := by omega
      rcases hc with rfl | rfl | rfl | rfl | rfl | rfl | rfl | rfl | rfl | rfl | rfl | rfl | rfl | rfl | rfl | rfl <;> decide +kernel
    · have hcls : cls a = -1 := by
        unfold cls
        by_cases h1 : 1 ≤ a
        · rw [if_pos h1, clsF_big (by omega)]
        · rw [if_neg h1]
      rw [hcls, if_neg (by decide)]
      by_cases hch : 17 ≤ a ∧ a ≤ 256
      · rw [if_pos hch, if_neg (by omega), if_pos (by omega), w64 (x := (a + 15) / 16 - 1) (by omega) (by omega), w64 (x := 16 * ((a + 15) / 16)) (by omega) (by omega), w64 (by omega) (by omega), if_pos (by omega), decide_eq_true (by omega)]
      · rw [if_neg hch, if_pos rfl]
        by_cases h1 : a < 1
        · rw [if_pos h1]
        · rw [if_neg h1, if_pos (by omega)]

end Go.Proofs.Ytllidkccikmgiaa.Pure
