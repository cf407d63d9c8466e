/-
  The law FnGrow: what both programs compute, in plain Lean, and that it is the same.
  Conditions: none beyond those of the statement itself.
-/
import Derived.Test.YtllidkccikmgiaaPFnGrowx3
import Derived.Test.YtllidkccikmgiaaLib
namespace Go.Proofs.Ytllidkccikmgiaa.Pure
open Go.RowKit Go.Proofs.Ytllidkccikmgiaa.PFnGrow Go.Proofs.YtllidkccikmgiaaW.PrintWords Go.Proofs.YtllidkccikmgiaaW.PrintLast

/-! ### laws_big -/
theorem laws_big.eq (l : List Int) : laws_big.f l = some (decide (l.length > 1048576)) := by
  unfold laws_big.f
  congr 1
  exact decide_eq_decide.2 (by omega)
/-! ### spec_l01Open -/
theorem spec_l01Open.ok (l : List Int) (hl : l.length ≤ 1048576) (hb : ∀ x ∈ l, (Lit.int .u8 x).wf = true) : ∃ s : Int, spec_l01Open.f l = some (l, 0, s) ∧ CurOk l 0 s 0 :=
  ⟨_, rfl, fun x hx => bounds_u8 (hb x hx), hl, by omega, by omega, by omega, by omega⟩
/-! ### spec_l01Cur_pick -/
theorem spec_l01Cur_pick.ok {l : List Int} {a s : Int} {N : Nat} (h : CurOk l a s N) (hN : N ≤ 1000000000) (n : Int) (hn : n ≤ 4294967296) : ∃ v a' s' : Int, spec_l01Cur_pick.f l a s n = some (v, a', s') ∧ CurOk l a' s' (N + 1) ∧ 0 ≤ v ∧ (v = 0 ∨ v < n) := by
  obtain ⟨hb, hl, ha0, ha1, hs0, hs1⟩ := h
  unfold spec_l01Cur_pick.f
  by_cases h2 : n < 2
  · rw [if_pos h2]
    exact ⟨0, a, s, rfl, ⟨hb, hl, ha0, by omega, hs0, hs1⟩, by omega, .inl rfl⟩
  · rw [if_neg h2]
    by_cases h3 : a < (l.length : Int)
    · have hr := rd_all hb ha0 h3
      have ht := tmod_range (x := wrap64 (rd l a)) (m := n) (by rw [w64 (by omega) (by omega)]; omega) (by omega)
      rw [if_pos h3, if_pos ha0, if_neg (by omega)]
      refine ⟨_, _, _, rfl, ⟨hb, hl, ?_, ?_, hs0, hs1⟩, ht.1, .inr ht.2⟩
      · rw [w64 (by omega) (by omega)]; omega
      · rw [w64 (by omega) (by omega)]; omega
    · rw [if_neg h3]
      have hsd := seed_next hs0 hs1
      by_cases h4 : (l.length : Int) > 0
      · have hi := tmod_range (x := a) (m := (l.length : Int)) ha0 h4
        have hr := rd_all hb hi.1 hi.2
        rw [if_pos h4, if_neg (by omega), if_pos hi.1, if_pos hi.2, if_neg (by omega)]
        generalize Int.tmod (wrap64 ((wrap64 (s * 1103)) + 12345)) 65521 = s2 at hsd ⊢
        generalize rd l (Int.tmod a (l.length : Int)) = x at hr ⊢
        have e : wrap64 ((wrap64 (Int.tdiv s2 7)) + (wrap64 x)) = s2 / 7 + x := by
          rw [Int.tdiv_eq_ediv_of_nonneg hsd.1, w64 (x := s2 / 7) (by omega) (by omega), w64 (x := x) (by omega) (by omega), w64 (by omega) (by omega)]
        have ht := tmod_range (x := wrap64 ((wrap64 (Int.tdiv s2 7)) + (wrap64 x))) (m := n) (by rw [e]; omega) (by omega)
        refine ⟨_, _, _, rfl, ⟨hb, hl, ?_, ?_, hsd.1, hsd.2⟩, ht.1, .inr ht.2⟩
        · rw [w64 (by omega) (by omega)]; omega
        · rw [w64 (by omega) (by omega)]; omega
      · rw [if_neg h4, if_neg (by omega)]
        refine ⟨_, _, _, rfl, ⟨hb, hl, ?_, ?_, hsd.1, hsd.2⟩, ?_, .inl ?_⟩
        · rw [w64 (by omega) (by omega)]; omega
        · rw [w64 (by omega) (by omega)]; omega
        · simp
        · simp
/-! ### spec_l01Cur_once -/
theorem spec_l01Cur_once.ok {l : List Int} {a s : Int} {N : Nat} (h : CurOk l a s N) (hN : N ≤ 100000000) (n : Int) (hn : n ≤ 4294967296) : ∃ (b : Bool) (a' s' : Int), spec_l01Cur_once.f l a s n = some (b, a', s') ∧ CurOk l a' s' (N + 1) := by
  obtain ⟨v, a1, s1, e1, c1, _, _⟩ := spec_l01Cur_pick.ok h (by omega) n hn
  exact ⟨v == wrap64 (n - 1), a1, s1, by simp only [spec_l01Cur_once.f, e1, Option.bind_some], c1⟩
/-! ### spec_l01Cur_wide -/
theorem spec_l01Cur_wide.ok {l : List Int} {a s : Int} {N : Nat} (h : CurOk l a s N) (hN : N ≤ 100000000) (n : Int) (hn0 : 0 < n) : ∃ v a' s' : Int, spec_l01Cur_wide.f l a s n = some (v, a', s') ∧ CurOk l a' s' (N + 3) ∧ 0 ≤ v ∧ v < n := by
  obtain ⟨v1, a1, s1, e1, c1, h1, g1⟩ := spec_l01Cur_pick.ok h (by omega) 256 (by omega)
  obtain ⟨v2, a2, s2, e2, c2, h2, g2⟩ := spec_l01Cur_pick.ok c1 (by omega) 256 (by omega)
  obtain ⟨v3, a3, s3, e3, c3, h3, g3⟩ := spec_l01Cur_pick.ok c2 (by omega) 256 (by omega)
  have e : wrap64 ((wrap64 ((wrap64 (65536 * v1)) + (wrap64 (256 * v2)))) + v3) = 65536 * v1 + 256 * v2 + v3 := by
    rw [w64 (x := 65536 * v1) (by omega) (by omega), w64 (x := 256 * v2) (by omega) (by omega), w64 (x := 65536 * v1 + 256 * v2) (by omega) (by omega), w64 (by omega) (by omega)]
  have ht := tmod_range (x := 65536 * v1 + 256 * v2 + v3) (m := n) (by omega) hn0
  refine ⟨_, _, _, ?_, c3, ht.1, ht.2⟩
  simp only [spec_l01Cur_wide.f, e1, e2, e3, Option.bind_some, e]
  rw [if_neg (by omega)]
/-! ### spec_l01Cur_word -/
theorem spec_l01Cur_word.ok {l : List Int} {a s : Int} {N : Nat} (h : CurOk l a s N) (hN : N ≤ 10000000) : ∃ v a' s' : Int, spec_l01Cur_word.f l a s = some (v, a', s') ∧ CurOk l a' s' (N + 5) ∧ U32 v := by
  obtain ⟨v1, a1, s1, e1, c1, h1, g1⟩ := spec_l01Cur_pick.ok h (by omega) 256 (by omega)
  obtain ⟨v2, a2, s2, e2, c2, h2, g2⟩ := spec_l01Cur_wide.ok c1 (by omega) 16777216 (by omega)
  obtain ⟨v3, a3, s3, e3, c3, h3, g3⟩ := spec_l01Cur_pick.ok c2 (by omega) 7 (by omega)
  simp only [spec_l01Cur_word.f, e1, e2, e3, Option.bind_some, List.length_cons, List.length_nil]
  rw [if_pos h3, if_pos (by omega)]
  refine ⟨_, _, _, rfl, c3.more (by omega), rd_all (P := U32) ?_ h3 (by simp only [List.length_cons, List.length_nil]; omega)⟩
  intro x hx
  unfold U32
  simp only [List.mem_cons, List.not_mem_nil, or_false] at hx
  omega
/-! ### spec_l01Cur_size -/
theorem spec_l01Cur_size.ok {l : List Int} {a s : Int} {N : Nat} (h : CurOk l a s N) (hN : N ≤ 1000000000) (n : Int) (hn0 : 0 ≤ n) (hn : n ≤ 1000000) : ∃ v a' s' : Int, spec_l01Cur_size.f l a s n = some (v, a', s') ∧ CurOk l a' s' (N + 1) ∧ 0 ≤ v ∧ v ≤ n := by
  have hl := h.2.1
  have e1 : wrap64 ((l.length : Int) / 8) = (l.length : Int) / 8 := w64 (by omega) (by omega)
  have e2 : wrap64 (1 + (l.length : Int) / 8) = 1 + (l.length : Int) / 8 := w64 (by omega) (by omega)
  have hm : 0 ≤ mn n (1 + (l.length : Int) / 8) ∧ mn n (1 + (l.length : Int) / 8) ≤ n := by
    unfold mn
    split <;> omega
  have e3 : wrap64 (mn n (1 + (l.length : Int) / 8) + 1) = mn n (1 + (l.length : Int) / 8) + 1 := w64 (by omega) (by omega)
  obtain ⟨v, a', s', e, c, h0, h1⟩ := spec_l01Cur_pick.ok h hN (mn n (1 + (l.length : Int) / 8) + 1) (by omega)
  refine ⟨v, a', s', ?_, c, h0, by omega⟩
  unfold spec_l01Cur_size.f
  rw [e1, e2, e3, e, Option.bind_some]
/-! ### spec_l01Cur_mem -/
theorem spec_l01Cur_mem.loop (l : List Int) (d : Nat) : ∀ (acc : List Int) (a s : Int) (N : Nat), CurOk l a s N → N + 5 * d ≤ 1000000 → acc.length + d ≤ 1000 → (∀ x ∈ acc, U32 x) → ∃ (r : List Int) (a' s' : Int), Ev (fun k => spec_l01Cur_mem.l0 k (d : Int) l a s acc) (r, a', s') ∧ CurOk l a' s' (N + 5 * d + 2) ∧ r.length ≤ 1000 ∧ ∀ x ∈ r, U32 x := by
  induction d with
  | zero =>
    intro acc a s N h hN hacc hu
    obtain ⟨b, a1, s1, e1, c1⟩ := spec_l01Cur_once.ok h (by omega) 20 (by omega)
    by_cases hb : b = true
    · obtain ⟨v, a2, s2, e2, c2, h2, g2⟩ := spec_l01Cur_pick.ok c1 (by omega) 2 (by omega)
      have hv : v ≤ 1 := by omega
      have e3 : wrap64 (64 + v) = 64 + v := w64 (by omega) (by omega)
      refine ⟨List.replicate (64 + v).toNat 0, a2, s2, Ev.stop fun k => ?_, c2.more (by omega), by rw [List.length_replicate]; omega, fun x hx => ?_⟩
      · simp only [spec_l01Cur_mem.l0]
        rw [if_neg (by omega), e1, Option.bind_some, if_pos hb, e2, Option.bind_some, e3, if_pos (by omega), if_pos (by omega)]
      · rw [(List.mem_replicate.1 hx).2]
        unfold U32
        omega
    · refine ⟨acc, a1, s1, Ev.stop fun k => ?_, c1.more (by omega), by omega, hu⟩
      simp only [spec_l01Cur_mem.l0]
      rw [if_neg (by omega), e1, Option.bind_some, if_neg hb]
  | succ d ih =>
    intro acc a s N h hN hacc hu
    obtain ⟨v, a1, s1, e1, c1, h1⟩ := spec_l01Cur_word.ok h (by omega)
    obtain ⟨r, a2, s2, e2, c2, h2, h3⟩ := ih (acc ++ [v]) a1 s1 (N + 5) c1 (by omega) (by rw [List.length_append, List.length_singleton]; omega) (fun x hx => by
      rcases List.mem_append.1 hx with h | h
      · exact hu x h
      · rw [List.mem_singleton.1 h]; exact h1)
    refine ⟨r, a2, s2, Ev.step (fun k => ?_) e2, c2.more (by omega), h2, h3⟩
    have e3 : wrap64 (((d + 1 : Nat) : Int) - 1) = (d : Int) := by rw [w64 (by omega) (by omega)]; omega
    simp only [spec_l01Cur_mem.l0]
    rw [if_pos (by omega), e1, Option.bind_some, if_pos (by omega), e3]
theorem spec_l01Cur_mem.ok {l : List Int} {a s : Int} {N : Nat} (h : CurOk l a s N) (hN : N ≤ 900000) : ∃ (r : List Int) (a' s' : Int), Ev (fun k => spec_l01Cur_mem.f k l a s) (r, a', s') ∧ CurOk l a' s' (N + 43) ∧ r.length ≤ 1000 ∧ ∀ x ∈ r, U32 x := by
  obtain ⟨v, a1, s1, e1, c1, h1, g1⟩ := spec_l01Cur_size.ok h (by omega) 8 (by omega) (by omega)
  obtain ⟨d, rfl⟩ := Int.eq_ofNat_of_zero_le h1
  obtain ⟨r, a2, s2, e2, c2, h2, h3⟩ := spec_l01Cur_mem.loop l d [] a1 s1 (N + 1) c1 (by omega) (by rw [List.length_nil]; omega) (fun x hx => by simp at hx)
  refine ⟨r, a2, s2, Ev.congr (fun k => ?_) e2, c2.more (by omega), h2, h3⟩
  unfold spec_l01Cur_mem.f
  rw [e1, Option.bind_some]
/-! ### spec_l01Cur_raw -/
theorem spec_l01Cur_raw.ok {l : List Int} {a s : Int} {N : Nat} (h : CurOk l a s N) (hN : N ≤ 100000000) : ∃ v a' s' : Int, spec_l01Cur_raw.f l a s = some (v, a', s') ∧ CurOk l a' s' (N + 2) ∧ I64 v := by
  obtain ⟨v, a1, s1, e1, c1, _, _⟩ := spec_l01Cur_pick.ok h (by omega) 8 (by omega)
  unfold spec_l01Cur_raw.f
  rw [e1, Option.bind_some]
  by_cases h0 : v = 0
  · obtain ⟨v2, a2, s2, e2, c2, h3, h4⟩ := spec_l01Cur_pick.ok c1 (by omega) 256 (by omega)
    simp only [if_pos h0, e2, Option.bind_some]
    refine ⟨_, _, _, rfl, c2, ?_⟩
    rw [w64 (by omega) (by omega)]
    exact ⟨by omega, by omega⟩
  · by_cases h1 : v = 1
    · obtain ⟨v2, a2, s2, e2, c2, h3, h4⟩ := spec_l01Cur_pick.ok c1 (by omega) 8 (by omega)
      simp only [if_neg h0, if_pos h1, e2, Option.bind_some, List.length_cons, List.length_nil]
      rw [if_pos h3, if_pos (by omega)]
      refine ⟨_, _, _, rfl, c2, rd_all (P := I64) ?_ h3 (by simp only [List.length_cons, List.length_nil]; omega)⟩
      intro x hx
      simp only [List.mem_cons, List.not_mem_nil, or_false] at hx
      unfold I64
      omega
    · obtain ⟨v2, a2, s2, e2, c2, h3, h4⟩ := spec_l01Cur_pick.ok c1 (by omega) 14 (by omega)
      simp only [if_neg h0, if_neg h1, e2, Option.bind_some]
      refine ⟨_, _, _, rfl, c2, ?_⟩
      rw [w64 (by omega) (by omega)]
      exact ⟨by omega, by omega⟩
/-! ### spec_DrawMemGrow -/
theorem spec_DrawMemGrow.ok (l : List Int) (hl : l.length ≤ 1048576) (hb : ∀ x ∈ l, (Lit.int .u8 x).wf = true) : ∃ (r : List Int) (a : Int), Ev (fun k => spec_DrawMemGrow.f k l) (r, a) ∧ r.length ≤ 1000 ∧ I64 a := by
  obtain ⟨s0, e0, c0⟩ := spec_l01Open.ok l hl hb
  obtain ⟨r, a1, s1, ⟨K, hK⟩, c1, h1, g1⟩ := spec_l01Cur_mem.ok c0 (by omega)
  obtain ⟨v2, a2, s2, e2, c2, h2, g2⟩ := spec_l01Cur_pick.ok c1 (by omega) 9 (by omega)
  obtain ⟨v3, a3, s3, e3, c3, h3, g3⟩ := spec_l01Cur_pick.ok c2 (by omega) 2 (by omega)
  obtain ⟨v4, a4, s4, e4, c4, h4⟩ := spec_l01Cur_raw.ok c3 (by omega)
  obtain ⟨v5, a5, s5, e5, c5, h5, g5⟩ := spec_l01Cur_pick.ok c4 (by omega) 3 (by omega)
  have w1 : wrap64 (64 - (r.length : Int)) = 64 - (r.length : Int) := w64 (by omega) (by omega)
  have hm : 0 ≤ mx 0 (64 - (r.length : Int)) ∧ mx 0 (64 - (r.length : Int)) ≤ 64 := by
    unfold mx
    split <;> omega
  have w2 : wrap64 (mx 0 (64 - (r.length : Int)) + v3) = mx 0 (64 - (r.length : Int)) + v3 := w64 (by omega) (by omega)
  refine ⟨r, rd [v2, mx 0 (64 - (r.length : Int)) + v3, v4] v5, ⟨K, fun k hk => ?_⟩, h1, rd_all (P := I64) ?_ h5 (by simp only [List.length_cons, List.length_nil]; omega)⟩
  · have e1 : spec_l01Cur_mem.f k l 0 s0 = some (r, a1, s1) := hK k hk
    show spec_DrawMemGrow.f k l = _
    unfold spec_DrawMemGrow.f
    rw [e0, Option.bind_some, e1, Option.bind_some, e2, Option.bind_some, e3, Option.bind_some, e4, Option.bind_some, Option.bind_some, e5, Option.bind_some, w1, w2, if_pos h5, if_pos (by simp only [List.length_cons, List.length_nil]; omega)]
  · intro x hx
    unfold I64 at h4 ⊢
    simp only [List.mem_cons, List.not_mem_nil, or_false] at hx
    omega
/-! ### spec_MemOk -/
theorem spec_MemOk.eq (l : List Int) : spec_MemOk.f l = some (decide (l.length ≤ 64)) := by
  unfold spec_MemOk.f
  have : ((l.length : Int) ≤ 64) ↔ l.length ≤ 64 := by omega
  simp only [this]
/-! ### spec_MemGrow -/
def mgr (l : List Int) (a : Int) : List Int × Bool := if l.length ≤ 64 ∧ 0 ≤ a ∧ a ≤ 64 - (l.length : Int) then (l ++ List.replicate a.toNat 0, true) else ([], false)
theorem mgr_len (l : List Int) (a : Int) : (mgr l a).1.length ≤ 64 := by
  unfold mgr
  split
  · rw [List.length_append, List.length_replicate]; omega
  · exact Nat.zero_le _
theorem spec_MemGrow.eq (l : List Int) (a : Int) : spec_MemGrow.f l a = some (mgr l a) := by
  unfold spec_MemGrow.f mgr
  rw [spec_MemOk.eq, Option.bind_some]
  by_cases h0 : l.length ≤ 64
  · have hw : wrap64 (64 - (l.length : Int)) = 64 - (l.length : Int) := w64 (by omega) (by omega)
    rw [if_pos (decide_eq_true (by omega)), hw]
    by_cases h1 : a < 0
    · rw [if_pos h1, if_neg (by omega)]
    · by_cases h2 : a > 64 - (l.length : Int)
      · rw [if_neg h1, if_pos h2, if_neg (by omega)]
      · rw [if_neg h1, if_neg h2, if_pos (by omega), Option.bind_some, if_pos (by rw [List.length_nil]; omega), List.nil_append, Option.bind_some, if_pos (by omega), if_pos (by omega)]
  · rw [if_neg (by rw [decide_eq_false (by omega)]; decide), if_neg (by omega)]
/-! ### impl_MemOk -/
theorem impl_MemOk.eq (l : List Int) : impl_MemOk.f l = some (decide (l.length ≤ 64)) := by
  unfold impl_MemOk.f
  have : ((l.length : Int) ≤ 64) ↔ l.length ≤ 64 := by omega
  simp only [this]
/-! ### impl_within -/
theorem impl_within.eq (a lo hi : Int) : impl_within.f a lo hi = some (decide (lo ≤ a ∧ a ≤ hi)) := by
  unfold impl_within.f
  split
  · rename_i h
    have : lo ≤ a := h
    simp [this]
  · rename_i h
    have : ¬ lo ≤ a := h
    simp [this]
/-! ### impl_MemGrow -/
theorem impl_MemGrow.eq (l : List Int) (a : Int) : impl_MemGrow.f l a = some (mgr l a) := by
  unfold impl_MemGrow.f mgr
  rw [impl_MemOk.eq, Option.bind_some]
  by_cases h0 : l.length ≤ 64
  · have hw : wrap64 (64 - (l.length : Int)) = 64 - (l.length : Int) := w64 (by omega) (by omega)
    rw [if_pos (decide_eq_true (by omega)), hw, impl_within.eq, Option.bind_some]
    by_cases h1 : 0 ≤ a ∧ a ≤ 64 - (l.length : Int)
    · rw [if_pos (decide_eq_true (by omega)), if_pos (by omega), Option.bind_some, if_pos h1.1, if_pos (by omega), Option.bind_some, if_pos (by rw [List.length_nil]; omega), List.nil_append, Option.bind_some, if_pos (by rw [List.length_replicate]; omega)]
    · rw [if_neg (by rw [decide_eq_false (by omega)]; decide), if_neg (by omega)]
  · rw [if_neg (by rw [decide_eq_false (by omega)]; decide), if_neg (by omega)]
/-! ### laws_FnGrow -/
theorem rd_app_left (r s : List Int) {i : Nat} (h : i < r.length) : rd (r ++ s) (i : Int) = rd r (i : Int) := by
  rw [rd_get (by rw [List.length_append]; omega), rd_get h, List.getElem_append_left h]
theorem rd_app_zero (r : List Int) (n : Nat) {i : Nat} (h : r.length ≤ i) (h1 : i < r.length + n) : rd (r ++ List.replicate n 0) (i : Int) = 0 := by
  rw [rd_get (by rw [List.length_append, List.length_replicate]; omega), List.getElem_append_right h, List.getElem_replicate]
theorem laws_FnGrow.loop (r : List Int) (n : Nat) (hr : r.length + n ≤ 64) (d : Nat) : ∀ i : Nat, i + d = r.length + n → Ev (fun k => laws_FnGrow.l0 k (n : Int) (i : Int) r (r ++ List.replicate n 0)) true := by
  have hlen : (r ++ List.replicate n (0 : Int)).length = r.length + n := by rw [List.length_append, List.length_replicate]
  induction d with
  | zero =>
    intro i hi
    refine Ev.stop fun k => ?_
    have hw : wrap64 ((r.length : Int) + (n : Int)) = (r.length : Int) + (n : Int) := w64 (by omega) (by omega)
    simp only [laws_FnGrow.l0]
    rw [if_neg (by omega), hw, if_pos (by omega), impl_MemOk.eq, Option.bind_some, decide_eq_true (by omega)]
  | succ d ih =>
    intro i hi
    refine Ev.step (f := fun k => laws_FnGrow.l0 k (n : Int) ((i + 1 : Nat) : Int) r (r ++ List.replicate n 0)) (fun k => ?_) (ih (i + 1) (by omega))
    simp only [laws_FnGrow.l0]
    by_cases q : i < r.length
    · rw [if_pos (by omega), if_pos (by omega), if_pos (by omega), rd_app_left r _ q, if_pos rfl, if_neg (by omega), w64_succ (by omega)]
    · rw [if_pos (by omega), if_neg (by omega), if_pos (by omega), if_pos (by omega), rd_app_zero r n (by omega) (by omega), if_pos rfl, w64_succ (by omega)]
theorem FnGrow : laws_FnGrow.Pure := by
  intro l _ _ hb
  by_cases hlen : l.length > 1048576
  · refine ⟨0, ?_⟩
    unfold laws_FnGrow.f
    rw [laws_big.eq, Option.bind_some, if_pos (by simpa using hlen)]
  · have hbig : laws_big.f l = some false := by rw [laws_big.eq, decide_eq_false hlen]
    obtain ⟨r, a, d1, hr, ha⟩ := spec_DrawMemGrow.ok l (by omega) hb
    have key : Ev (fun k => laws_FnGrow.j0 k a (mgr r a).2 (mgr r a).2 (!(mgr r a).2) r (mgr r a).1) true := by
      by_cases h : r.length ≤ 64 ∧ 0 ≤ a ∧ a ≤ 64 - (r.length : Int)
      · obtain ⟨n, rfl⟩ := Int.eq_ofNat_of_zero_le h.2.1
        have e : mgr r (n : Int) = (r ++ List.replicate n 0, true) := by unfold mgr; rw [if_pos h]; rfl
        rw [e]
        refine Ev.step (f := fun k => laws_FnGrow.l0 k (n : Int) ((0 : Nat) : Int) r (r ++ List.replicate n 0)) (fun k => ?_) (laws_FnGrow.loop r n (by omega) (r.length + n) 0 (by omega))
        simp only [laws_FnGrow.j0]
        rw [if_neg (by decide)]
        rfl
      · have e : mgr r a = ([], false) := by unfold mgr; rw [if_neg h]
        rw [e]
        refine Ev.stop fun k => ?_
        simp only [laws_FnGrow.j0]
        rw [if_pos (by decide)]
        rfl
    obtain ⟨k, e1, e2⟩ := (d1.and key.last).pick
    refine ⟨k, ?_⟩
    unfold laws_FnGrow.f
    rw [hbig, Option.bind_some, if_neg (by decide), e1, Option.bind_some, spec_MemGrow.eq, Option.bind_some, impl_MemGrow.eq, Option.bind_some, if_neg (by simp)]
    exact e2

end Go.Proofs.Ytllidkccikmgiaa.Pure
