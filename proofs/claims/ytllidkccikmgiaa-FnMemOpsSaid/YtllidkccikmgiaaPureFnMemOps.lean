/-
  The law FnMemOps: what both programs compute, in plain Lean, and that it is the same.
  Conditions: none beyond those of the statement itself.
-/
import Derived.Test.YtllidkccikmgiaaPFnMemOpsx4
import Derived.Test.YtllidkccikmgiaaLib
namespace Go.Proofs.Ytllidkccikmgiaa.Pure
open Go.RowKit Go.Proofs.Ytllidkccikmgiaa.PFnMemOps Go.Proofs.YtllidkccikmgiaaW.PrintWords Go.Proofs.YtllidkccikmgiaaW.PrintLast

/-! ### laws_big -/
theorem laws_big.eq (l : List Int) : laws_big.f l = some (decide (l.length > 1048576)) := by
  unfold laws_big.f
  congr 1
  exact decide_eq_decide.2 (by omega)
/-! ### impl_MemOk -/
theorem impl_MemOk.eq (l : List Int) : impl_MemOk.f l = some (decide (l.length ≤ 64)) := by
  unfold impl_MemOk.f
  have : ((l.length : Int) ≤ 64) ↔ l.length ≤ 64 := by omega
  simp only [this]
/-! ### impl_within -/
theorem impl_within.eq (a lo hi : Int) : impl_within.f a lo hi = some (decide (lo ≤ a ∧ a ≤ hi)) := by
  unfold impl_within.f
  split
  · rename_i h
    have : lo ≤ a := h
    simp [this]
  · rename_i h
    have : ¬ lo ≤ a := h
    simp [this]
/-! ### impl_Mem_has -/
theorem impl_Mem_has.eq (l : List Int) (a : Int) : impl_Mem_has.f l a = some (decide (l.length ≤ 64 ∧ 0 ≤ a ∧ a < (l.length : Int))) := by
  unfold impl_Mem_has.f
  rw [impl_MemOk.eq, Option.bind_some]
  by_cases h : l.length ≤ 64
  · rw [if_pos (by simpa using h), impl_within.eq, Option.bind_some, w64 (by omega) (by omega)]
    congr 1
    exact decide_eq_decide.2 (by omega)
  · rw [if_neg (by simpa using h), decide_eq_false (by omega)]
/-! ### slices_Clone_uint32_uint32 -/
theorem slices_Clone_uint32_uint32.eq (l : List Int) (hl : l.length < 17592186044416) : slices_Clone_uint32_uint32.f l = some l := by
  unfold slices_Clone_uint32_uint32.f
  rw [Option.bind_some, if_pos (by simp; omega), List.nil_append]
/-! ### impl_Mem_changed -/
theorem impl_Mem_changed.eq (l : List Int) (a v : Int) : impl_Mem_changed.f l a v = some (mch l a v) := by
  unfold impl_Mem_changed.f mch
  rw [impl_Mem_has.eq, Option.bind_some]
  by_cases h : l.length ≤ 64 ∧ 0 ≤ a ∧ a < (l.length : Int)
  · rw [if_pos (by simpa using h), slices_Clone_uint32_uint32.eq l (by omega), Option.bind_some, if_pos h.2.1, if_pos h.2.2, if_pos h.2.2, if_pos h]
  · rw [if_neg (by simpa using h), if_neg h]
/-! ### impl_MemStore -/
theorem impl_MemStore.eq (l : List Int) (a v : Int) : impl_MemStore.f l a v = some ((mch l a v).1, (mch l a v).2.2) := by
  unfold impl_MemStore.f
  rw [impl_Mem_changed.eq, Option.bind_some]
/-! ### laws_sameMem -/
theorem laws_sameMem.loop (l : List Int) (hl : l.length ≤ 1000000) (d : Nat) : ∀ i : Nat, i + d = l.length → Ev (fun k => laws_sameMem.l0 k (i : Int) l l) true := by
  induction d with
  | zero =>
    intro i hi
    refine Ev.stop fun k => ?_
    simp only [laws_sameMem.l0]
    rw [if_neg (by omega)]
  | succ d ih =>
    intro i hi
    refine Ev.step (f := fun k => laws_sameMem.l0 k ((i + 1 : Nat) : Int) l l) (fun k => ?_) (ih (i + 1) (by omega))
    simp only [laws_sameMem.l0]
    rw [if_pos (by omega), if_pos (by omega), if_pos (by omega), if_pos trivial, w64_succ (by omega)]
theorem laws_sameMem.ev (l : List Int) (hl : l.length ≤ 1000000) : Ev (fun k => laws_sameMem.f k l l) true := by
  refine Ev.congr (fun k => ?_) (laws_sameMem.loop l hl l.length 0 (by omega))
  unfold laws_sameMem.f
  rw [if_pos rfl]
  rfl
/-! ### impl_MemLoad -/
theorem impl_MemLoad.eq (l : List Int) (a : Int) : impl_MemLoad.f l a = some (mld l a) := by
  unfold impl_MemLoad.f mld
  rw [impl_Mem_has.eq, Option.bind_some]
  by_cases h : l.length ≤ 64 ∧ 0 ≤ a ∧ a < (l.length : Int)
  · rw [if_pos (by simpa using h), if_pos h.2.1, if_pos h.2.2, if_pos h]
  · rw [if_neg (by simpa using h), if_neg h]
/-! ### spec_l01Open -/
theorem spec_l01Open.ok (l : List Int) (hl : l.length ≤ 1048576) (hb : ∀ x ∈ l, (Lit.int .u8 x).wf = true) : ∃ s : Int, spec_l01Open.f l = some (l, 0, s) ∧ CurOk l 0 s 0 :=
  ⟨_, rfl, fun x hx => bounds_u8 (hb x hx), hl, by omega, by omega, by omega, by omega⟩
/-! ### spec_l01Cur_pick -/
theorem spec_l01Cur_pick.ok {l : List Int} {a s : Int} {N : Nat} (h : CurOk l a s N) (hN : N ≤ 1000000000) (n : Int) (hn : n ≤ 4294967296) : ∃ v a' s' : Int, spec_l01Cur_pick.f l a s n = some (v, a', s') ∧ CurOk l a' s' (N + 1) ∧ 0 ≤ v ∧ (v = 0 ∨ v < n) := by
  obtain ⟨hb, hl, ha0, ha1, hs0, hs1⟩ := h
  unfold spec_l01Cur_pick.f
  by_cases h2 : n < 2
  · rw [if_pos h2]
    exact ⟨0, a, s, rfl, ⟨hb, hl, ha0, by omega, hs0, hs1⟩, by omega, .inl rfl⟩
  · rw [if_neg h2]
    by_cases h3 : a < (l.length : Int)
    · have hr := rd_all hb ha0 h3
      have ht := tmod_range (x := wrap64 (rd l a)) (m := n) (by rw [w64 (by omega) (by omega)]; omega) (by omega)
      rw [if_pos h3, if_pos ha0, if_neg (by omega)]
      refine ⟨_, _, _, rfl, ⟨hb, hl, ?_, ?_, hs0, hs1⟩, ht.1, .inr ht.2⟩
      · rw [w64 (by omega) (by omega)]; omega
      · rw [w64 (by omega) (by omega)]; omega
    · rw [if_neg h3]
      have hsd := seed_next hs0 hs1
      by_cases h4 : (l.length : Int) > 0
      · have hi := tmod_range (x := a) (m := (l.length : Int)) ha0 h4
        have hr := rd_all hb hi.1 hi.2
        rw [if_pos h4, if_neg (by omega), if_pos hi.1, if_pos hi.2, if_neg (by omega)]
        generalize Int.tmod (wrap64 ((wrap64 (s * 1103)) + 12345)) 65521 = s2 at hsd ⊢
        generalize rd l (Int.tmod a (l.length : Int)) = x at hr ⊢
        have e : wrap64 ((wrap64 (Int.tdiv s2 7)) + (wrap64 x)) = s2 / 7 + x := by
          rw [Int.tdiv_eq_ediv_of_nonneg hsd.1, w64 (x := s2 / 7) (by omega) (by omega), w64 (x := x) (by omega) (by omega), w64 (by omega) (by omega)]
        have ht := tmod_range (x := wrap64 ((wrap64 (Int.tdiv s2 7)) + (wrap64 x))) (m := n) (by rw [e]; omega) (by omega)
        refine ⟨_, _, _, rfl, ⟨hb, hl, ?_, ?_, hsd.1, hsd.2⟩, ht.1, .inr ht.2⟩
        · rw [w64 (by omega) (by omega)]; omega
        · rw [w64 (by omega) (by omega)]; omega
      · rw [if_neg h4, if_neg (by omega)]
        refine ⟨_, _, _, rfl, ⟨hb, hl, ?_, ?_, hsd.1, hsd.2⟩, ?_, .inl ?_⟩
        · rw [w64 (by omega) (by omega)]; omega
        · rw [w64 (by omega) (by omega)]; omega
        · simp
        · simp
/-! ### spec_l01Cur_once -/
theorem spec_l01Cur_once.ok {l : List Int} {a s : Int} {N : Nat} (h : CurOk l a s N) (hN : N ≤ 100000000) (n : Int) (hn : n ≤ 4294967296) : ∃ (b : Bool) (a' s' : Int), spec_l01Cur_once.f l a s n = some (b, a', s') ∧ CurOk l a' s' (N + 1) := by
  obtain ⟨v, a1, s1, e1, c1, _, _⟩ := spec_l01Cur_pick.ok h (by omega) n hn
  exact ⟨v == wrap64 (n - 1), a1, s1, by simp only [spec_l01Cur_once.f, e1, Option.bind_some], c1⟩
/-! ### spec_l01Cur_wide -/
theorem spec_l01Cur_wide.ok {l : List Int} {a s : Int} {N : Nat} (h : CurOk l a s N) (hN : N ≤ 100000000) (n : Int) (hn0 : 0 < n) : ∃ v a' s' : Int, spec_l01Cur_wide.f l a s n = some (v, a', s') ∧ CurOk l a' s' (N + 3) ∧ 0 ≤ v ∧ v < n := by
  obtain ⟨v1, a1, s1, e1, c1, h1, g1⟩ := spec_l01Cur_pick.ok h (by omega) 256 (by omega)
  obtain ⟨v2, a2, s2, e2, c2, h2, g2⟩ := spec_l01Cur_pick.ok c1 (by omega) 256 (by omega)
  obtain ⟨v3, a3, s3, e3, c3, h3, g3⟩ := spec_l01Cur_pick.ok c2 (by omega) 256 (by omega)
  have e : wrap64 ((wrap64 ((wrap64 (65536 * v1)) + (wrap64 (256 * v2)))) + v3) = 65536 * v1 + 256 * v2 + v3 := by
    rw [w64 (x := 65536 * v1) (by omega) (by omega), w64 (x := 256 * v2) (by omega) (by omega), w64 (x := 65536 * v1 + 256 * v2) (by omega) (by omega), w64 (by omega) (by omega)]
  have ht := tmod_range (x := 65536 * v1 + 256 * v2 + v3) (m := n) (by omega) hn0
  refine ⟨_, _, _, ?_, c3, ht.1, ht.2⟩
  simp only [spec_l01Cur_wide.f, e1, e2, e3, Option.bind_some, e]
  rw [if_neg (by omega)]
/-! ### spec_l01Cur_word -/
theorem spec_l01Cur_word.ok {l : List Int} {a s : Int} {N : Nat} (h : CurOk l a s N) (hN : N ≤ 10000000) : ∃ v a' s' : Int, spec_l01Cur_word.f l a s = some (v, a', s') ∧ CurOk l a' s' (N + 5) ∧ U32 v := by
  obtain ⟨v1, a1, s1, e1, c1, h1, g1⟩ := spec_l01Cur_pick.ok h (by omega) 256 (by omega)
  obtain ⟨v2, a2, s2, e2, c2, h2, g2⟩ := spec_l01Cur_wide.ok c1 (by omega) 16777216 (by omega)
  obtain ⟨v3, a3, s3, e3, c3, h3, g3⟩ := spec_l01Cur_pick.ok c2 (by omega) 7 (by omega)
  simp only [spec_l01Cur_word.f, e1, e2, e3, Option.bind_some, List.length_cons, List.length_nil]
  rw [if_pos h3, if_pos (by omega)]
  refine ⟨_, _, _, rfl, c3.more (by omega), rd_all (P := U32) ?_ h3 (by simp only [List.length_cons, List.length_nil]; omega)⟩
  intro x hx
  unfold U32
  simp only [List.mem_cons, List.not_mem_nil, or_false] at hx
  omega
/-! ### spec_l01Cur_size -/
theorem spec_l01Cur_size.ok {l : List Int} {a s : Int} {N : Nat} (h : CurOk l a s N) (hN : N ≤ 1000000000) (n : Int) (hn0 : 0 ≤ n) (hn : n ≤ 1000000) : ∃ v a' s' : Int, spec_l01Cur_size.f l a s n = some (v, a', s') ∧ CurOk l a' s' (N + 1) ∧ 0 ≤ v ∧ v ≤ n := by
  have hl := h.2.1
  have e1 : wrap64 ((l.length : Int) / 8) = (l.length : Int) / 8 := w64 (by omega) (by omega)
  have e2 : wrap64 (1 + (l.length : Int) / 8) = 1 + (l.length : Int) / 8 := w64 (by omega) (by omega)
  have hm : 0 ≤ mn n (1 + (l.length : Int) / 8) ∧ mn n (1 + (l.length : Int) / 8) ≤ n := by
    unfold mn
    split <;> omega
  have e3 : wrap64 (mn n (1 + (l.length : Int) / 8) + 1) = mn n (1 + (l.length : Int) / 8) + 1 := w64 (by omega) (by omega)
  obtain ⟨v, a', s', e, c, h0, h1⟩ := spec_l01Cur_pick.ok h hN (mn n (1 + (l.length : Int) / 8) + 1) (by omega)
  refine ⟨v, a', s', ?_, c, h0, by omega⟩
  unfold spec_l01Cur_size.f
  rw [e1, e2, e3, e, Option.bind_some]
/-! ### spec_l01Cur_mem -/
theorem spec_l01Cur_mem.loop (l : List Int) (d : Nat) : ∀ (acc : List Int) (a s : Int) (N : Nat), CurOk l a s N → N + 5 * d ≤ 1000000 → acc.length + d ≤ 1000 → (∀ x ∈ acc, U32 x) → ∃ (r : List Int) (a' s' : Int), Ev (fun k => spec_l01Cur_mem.l0 k (d : Int) l a s acc) (r, a', s') ∧ CurOk l a' s' (N + 5 * d + 2) ∧ r.length ≤ 1000 ∧ ∀ x ∈ r, U32 x := by
  induction d with
  | zero =>
    intro acc a s N h hN hacc hu
    obtain ⟨b, a1, s1, e1, c1⟩ := spec_l01Cur_once.ok h (by omega) 20 (by omega)
    by_cases hb : b = true
    · obtain ⟨v, a2, s2, e2, c2, h2, g2⟩ := spec_l01Cur_pick.ok c1 (by omega) 2 (by omega)
      have hv : v ≤ 1 := by omega
      have e3 : wrap64 (64 + v) = 64 + v := w64 (by omega) (by omega)
      refine ⟨List.replicate (64 + v).toNat 0, a2, s2, Ev.stop fun k => ?_, c2.more (by omega), by rw [List.length_replicate]; omega, fun x hx => ?_⟩
      · simp only [spec_l01Cur_mem.l0]
        rw [if_neg (by omega), e1, Option.bind_some, if_pos hb, e2, Option.bind_some, e3, if_pos (by omega), if_pos (by omega)]
      · rw [(List.mem_replicate.1 hx).2]
        unfold U32
        omega
    · refine ⟨acc, a1, s1, Ev.stop fun k => ?_, c1.more (by omega), by omega, hu⟩
      simp only [spec_l01Cur_mem.l0]
      rw [if_neg (by omega), e1, Option.bind_some, if_neg hb]
  | succ d ih =>
    intro acc a s N h hN hacc hu
    obtain ⟨v, a1, s1, e1, c1, h1⟩ := spec_l01Cur_word.ok h (by omega)
    obtain ⟨r, a2, s2, e2, c2, h2, h3⟩ := ih (acc ++ [v]) a1 s1 (N + 5) c1 (by omega) (by rw [List.length_append, List.length_singleton]; omega) (fun x hx => by
      rcases List.mem_append.1 hx with h | h
      · exact hu x h
      · rw [List.mem_singleton.1 h]; exact h1)
    refine ⟨r, a2, s2, Ev.step (fun k => ?_) e2, c2.more (by omega), h2, h3⟩
    have e3 : wrap64 (((d + 1 : Nat) : Int) - 1) = (d : Int) := by rw [w64 (by omega) (by omega)]; omega
    simp only [spec_l01Cur_mem.l0]
    rw [if_pos (by omega), e1, Option.bind_some, if_pos (by omega), e3]
theorem spec_l01Cur_mem.ok {l : List Int} {a s : Int} {N : Nat} (h : CurOk l a s N) (hN : N ≤ 900000) : ∃ (r : List Int) (a' s' : Int), Ev (fun k => spec_l01Cur_mem.f k l a s) (r, a', s') ∧ CurOk l a' s' (N + 43) ∧ r.length ≤ 1000 ∧ ∀ x ∈ r, U32 x := by
  obtain ⟨v, a1, s1, e1, c1, h1, g1⟩ := spec_l01Cur_size.ok h (by omega) 8 (by omega) (by omega)
  obtain ⟨d, rfl⟩ := Int.eq_ofNat_of_zero_le h1
  obtain ⟨r, a2, s2, e2, c2, h2, h3⟩ := spec_l01Cur_mem.loop l d [] a1 s1 (N + 1) c1 (by omega) (by rw [List.length_nil]; omega) (fun x hx => by simp at hx)
  refine ⟨r, a2, s2, Ev.congr (fun k => ?_) e2, c2.more (by omega), h2, h3⟩
  unfold spec_l01Cur_mem.f
  rw [e1, Option.bind_some]
/-! ### spec_l01Cur_raw -/
theorem spec_l01Cur_raw.ok {l : List Int} {a s : Int} {N : Nat} (h : CurOk l a s N) (hN : N ≤ 100000000) : ∃ v a' s' : Int, spec_l01Cur_raw.f l a s = some (v, a', s') ∧ CurOk l a' s' (N + 2) ∧ I64 v := by
  obtain ⟨v, a1, s1, e1, c1, _, _⟩ := spec_l01Cur_pick.ok h (by omega) 8 (by omega)
  unfold spec_l01Cur_raw.f
  rw [e1, Option.bind_some]
  by_cases h0 : v = 0
  · obtain ⟨v2, a2, s2, e2, c2, h3, h4⟩ := spec_l01Cur_pick.ok c1 (by omega) 256 (by omega)
    simp only [if_pos h0, e2, Option.bind_some]
    refine ⟨_, _, _, rfl, c2, ?_⟩
    rw [w64 (by omega) (by omega)]
    exact ⟨by omega, by omega⟩
  · by_cases h1 : v = 1
    · obtain ⟨v2, a2, s2, e2, c2, h3, h4⟩ := spec_l01Cur_pick.ok c1 (by omega) 8 (by omega)
      simp only [if_neg h0, if_pos h1, e2, Option.bind_some, List.length_cons, List.length_nil]
      rw [if_pos h3, if_pos (by omega)]
      refine ⟨_, _, _, rfl, c2, rd_all (P := I64) ?_ h3 (by simp only [List.length_cons, List.length_nil]; omega)⟩
      intro x hx
      simp only [List.mem_cons, List.not_mem_nil, or_false] at hx
      unfold I64
      omega
    · obtain ⟨v2, a2, s2, e2, c2, h3, h4⟩ := spec_l01Cur_pick.ok c1 (by omega) 14 (by omega)
      simp only [if_neg h0, if_neg h1, e2, Option.bind_some]
      refine ⟨_, _, _, rfl, c2, ?_⟩
      rw [w64 (by omega) (by omega)]
      exact ⟨by omega, by omega⟩
/-! ### spec_l01Cur_spot -/
theorem spec_l01Cur_spot.ok {l : List Int} {a s : Int} {N : Nat} (h : CurOk l a s N) (hN : N ≤ 10000000) (n : Int) (hn0 : 0 ≤ n) (hn : n ≤ 1000000) : ∃ v a' s' : Int, spec_l01Cur_spot.f l a s n = some (v, a', s') ∧ CurOk l a' s' (N + 5) ∧ I64 v := by
  have hm : mx 1 n ≤ 1000000 := by
    unfold mx
    split <;> omega
  obtain ⟨v1, a1, s1, e1, c1, h1, g1⟩ := spec_l01Cur_pick.ok h (by omega) (mx 1 n) (by omega)
  obtain ⟨v2, a2, s2, e2, c2, h2, g2⟩ := spec_l01Cur_pick.ok c1 (by omega) (mx 1 n) (by omega)
  obtain ⟨v3, a3, s3, e3, c3, h3⟩ := spec_l01Cur_raw.ok c2 (by omega)
  obtain ⟨v4, a4, s4, e4, c4, h4, g4⟩ := spec_l01Cur_pick.ok c3 (by omega) 4 (by omega)
  refine ⟨rd [v1, v2, n, v3] v4, a4, s4, ?_, c4.more (by omega), rd_all (P := I64) ?_ h4 (by simp only [List.length_cons, List.length_nil]; omega)⟩
  · unfold spec_l01Cur_spot.f
    rw [e1, Option.bind_some, e2, Option.bind_some, e3, Option.bind_some, Option.bind_some, e4, Option.bind_some, if_pos h4, if_pos (by simp only [List.length_cons, List.length_nil]; omega)]
  · intro x hx
    unfold I64 at h3 ⊢
    simp only [List.mem_cons, List.not_mem_nil, or_false] at hx
    omega
/-! ### spec_DrawMemAdd -/
theorem spec_DrawMemAdd.ok (l : List Int) (hl : l.length ≤ 1048576) (hb : ∀ x ∈ l, (Lit.int .u8 x).wf = true) : ∃ (r : List Int) (i x : Int), Ev (fun k => spec_DrawMemAdd.f k l) (r, i, x) ∧ r.length ≤ 1000 ∧ (∀ x ∈ r, U32 x) ∧ I64 i ∧ U32 x := by
  obtain ⟨s0, e0, c0⟩ := spec_l01Open.ok l hl hb
  obtain ⟨r, a1, s1, ⟨K, hK⟩, c1, h1, g1⟩ := spec_l01Cur_mem.ok c0 (by omega)
  obtain ⟨i, a2, s2, e2, c2, h2⟩ := spec_l01Cur_spot.ok c1 (by omega) (r.length : Int) (by omega) (by omega)
  obtain ⟨x, a3, s3, e3, c3, h3⟩ := spec_l01Cur_word.ok c2 (by omega)
  refine ⟨r, i, x, ⟨K, fun k hk => ?_⟩, h1, g1, h2, h3⟩
  have e1 : spec_l01Cur_mem.f k l 0 s0 = some (r, a1, s1) := hK k hk
  show spec_DrawMemAdd.f k l = _
  unfold spec_DrawMemAdd.f
  rw [e0, Option.bind_some, e1, Option.bind_some, e2, Option.bind_some, e3, Option.bind_some]
/-! ### spec_MemOk -/
theorem spec_MemOk.eq (l : List Int) : spec_MemOk.f l = some (decide (l.length ≤ 64)) := by
  unfold spec_MemOk.f
  have : ((l.length : Int) ≤ 64) ↔ l.length ≤ 64 := by omega
  simp only [this]
/-! ### spec_l01Has -/
theorem spec_l01Has.eq (l : List Int) (a : Int) : spec_l01Has.f l a = some (decide (l.length ≤ 64 ∧ 0 ≤ a ∧ a < (l.length : Int))) := by
  unfold spec_l01Has.f
  rw [spec_MemOk.eq, Option.bind_some]
  by_cases h : l.length ≤ 64
  · rw [if_pos (by simpa using h)]
    by_cases h0 : a ≥ 0
    · rw [if_pos h0]
      congr 1
      exact decide_eq_decide.2 (by omega)
    · rw [if_neg h0, decide_eq_false (by omega)]
  · rw [if_neg (by simpa using h), decide_eq_false (by omega)]
/-! ### spec_MemStore -/
theorem spec_MemStore.eq (l : List Int) (a v : Int) : spec_MemStore.f l a v = some ((mch l a v).1, (mch l a v).2.2) := by
  unfold spec_MemStore.f mch
  rw [spec_l01Has.eq, Option.bind_some]
  by_cases h : l.length ≤ 64 ∧ 0 ≤ a ∧ a < (l.length : Int)
  · rw [if_pos (by simpa using h), Option.bind_some, if_pos (by simp; omega), List.nil_append, Option.bind_some, if_pos h.2.1, if_pos h.2.2, if_pos h]
  · rw [if_neg (by simpa using h), if_neg h]
/-! ### spec_MemLoad -/
theorem spec_MemLoad.eq (l : List Int) (a : Int) : spec_MemLoad.f l a = some (mld l a) := by
  unfold spec_MemLoad.f mld
  rw [spec_l01Has.eq, Option.bind_some]
  by_cases h : l.length ≤ 64 ∧ 0 ≤ a ∧ a < (l.length : Int)
  · rw [if_pos (by simpa using h), if_pos h.2.1, if_pos h.2.2, if_pos h]
  · rw [if_neg (by simpa using h), if_neg h]
/-! ### spec_MemAdd -/
theorem spec_MemAdd.eq (l : List Int) (a v : Int) (hl : ∀ x ∈ l, 0 ≤ x ∧ x < 4294967296) (hv : 0 ≤ v ∧ v < 4294967296) : spec_MemAdd.f l a v = some (mch l a ((rd l a + v) % 4294967296)) := by
  unfold spec_MemAdd.f
  rw [spec_MemLoad.eq, Option.bind_some, spec_MemStore.eq, Option.bind_some]
  unfold mld mch
  by_cases h : l.length ≤ 64 ∧ 0 ≤ a ∧ a < (l.length : Int)
  · have hx := rd_all hl h.2.1 h.2.2
    simp only [if_pos h]
    have e : Int.tmod (IntKind.u64.wrap (IntKind.u64.wrap (rd l a) + IntKind.u64.wrap v)) 4294967296 % 4294967296 = (rd l a + v) % 4294967296 := by
      have w1 : IntKind.u64.wrap (rd l a) = rd l a := by rw [IntKind.wrap_u64]; omega
      have w2 : IntKind.u64.wrap v = v := by rw [IntKind.wrap_u64]; omega
      have w3 : IntKind.u64.wrap (rd l a + v) = rd l a + v := by rw [IntKind.wrap_u64]; omega
      rw [w1, w2, w3, Int.tmod_eq_emod_of_nonneg (by omega)]
      omega
    rw [e]
  · simp only [if_neg h]
/-! ### impl_MemAdd -/
theorem impl_MemAdd.eq (l : List Int) (a v : Int) : impl_MemAdd.f l a v = some (mch l a ((rd l a + v) % 4294967296)) := by
  unfold impl_MemAdd.f
  rw [impl_Mem_changed.eq, Option.bind_some]
/-! ### impl_MemOr -/
theorem impl_MemOr.eq (l : List Int) (a v : Int) : impl_MemOr.f l a v = some (mch l a (bits BinOp.or IntKind.u32 (rd l a) v)) := by
  unfold impl_MemOr.f
  rw [impl_Mem_changed.eq, Option.bind_some]
/-! ### impl_MemAnd -/
theorem impl_MemAnd.eq (l : List Int) (a v : Int) : impl_MemAnd.f l a v = some (mch l a (bits BinOp.and IntKind.u32 (rd l a) v)) := by
  unfold impl_MemAnd.f
  rw [impl_Mem_changed.eq, Option.bind_some]
/-! ### laws_FnMemOps -/
theorem or_and_sum (p : Nat) : ∀ q : Nat, (p ||| q) + (p &&& q) = p + q := by
  induction p using Nat.strongRecOn with
  | _ p ih =>
    intro q
    by_cases hp : p = 0
    · subst hp
      rw [Nat.zero_or, Nat.zero_and]
      omega
    · have h := ih (p / 2) (by omega) (q / 2)
      have h1 : (p ||| q) / 2 = p / 2 ||| q / 2 := Nat.or_div_two
      have h2 : (p &&& q) / 2 = p / 2 &&& q / 2 := Nat.and_div_two
      have h3 : (p ||| q) % 2 = 1 ↔ p % 2 = 1 ∨ q % 2 = 1 := Nat.or_mod_two_eq_one
      have h4 : (p &&& q) % 2 = 1 ↔ p % 2 = 1 ∧ q % 2 = 1 := Nat.and_mod_two_eq_one
      rw [← h1, ← h2] at h
      generalize p ||| q = u at h h1 h3 ⊢
      generalize p &&& q = v at h h2 h4 ⊢
      clear h1 h2 ih
      omega
theorem laws_FnMemOps.loop (r : List Int) (n : Nat) (x y s o a : Int) (hr : r.length ≤ 64) (hn : n < r.length) (he : (o + a) % 4294967296 = (y + x) % 4294967296) (d : Nat) : ∀ j : Nat, j + d = r.length → Ev (fun k => laws_FnMemOps.l0 k (n : Int) x y true true true o a true (j : Int) r (r.set n s) r (r.set n o) (r.set n a) r) true := by
  have hls : (r.set n s).length = r.length := List.length_set
  have hlo : (r.set n o).length = r.length := List.length_set
  have hla : (r.set n a).length = r.length := List.length_set
  induction d with
  | zero =>
    intro j hj
    have hs := laws_sameMem.ev r (by omega)
    refine Ev.step (f := fun k => (laws_sameMem.f k r r).bind fun t => if t = true then ((laws_sameMem.f k r r).bind fun t' => if t' = true then some (((o + a) % 4294967296) == ((y + x) % 4294967296)) else some false) else some false) (fun k => ?_) (Ev.bind (f := fun k t => if t = true then ((laws_sameMem.f k r r).bind fun t' => if t' = true then some (((o + a) % 4294967296) == ((y + x) % 4294967296)) else some false) else some false) hs (Ev.congr (fun k => if_pos rfl) (Ev.bind (f := fun _ t' => if t' = true then some (((o + a) % 4294967296) == ((y + x) % 4294967296)) else some false) hs (Ev.const (by rw [if_pos rfl, he, beq_self_eq_true])))))
    simp only [laws_FnMemOps.l0]
    rw [if_neg (by omega), if_pos trivial, if_pos trivial, if_pos trivial, if_pos trivial]
  | succ d ih =>
    intro j hj
    refine Ev.step (f := fun k => laws_FnMemOps.l0 k (n : Int) x y true true true o a true ((j + 1 : Nat) : Int) r (r.set n s) r (r.set n o) (r.set n a) r) (fun k => ?_) (ih (j + 1) (by omega))
    simp only [laws_FnMemOps.l0]
    rw [if_pos (by omega)]
    by_cases q : j = n
    · subst q
      rw [if_pos rfl, w64_succ (by omega)]
    · rw [if_neg (by omega), if_pos (by omega), if_pos (by omega), rd_set_ne _ s q, if_pos rfl, if_pos (by omega), rd_set_ne _ o q, if_pos rfl, if_pos (by omega), rd_set_ne _ a q, if_pos rfl, w64_succ (by omega)]
theorem FnMemOps : laws_FnMemOps.Pure := by
  intro l _ _ hb
  by_cases hlen : l.length > 1048576
  · refine ⟨0, ?_⟩
    unfold laws_FnMemOps.f
    rw [laws_big.eq, Option.bind_some, if_pos (by simpa using hlen)]
  · have hbig : laws_big.f l = some false := by rw [laws_big.eq, decide_eq_false hlen]
    obtain ⟨r, i, x, d1, hr, hu, hi, hx⟩ := spec_DrawMemAdd.ok l (by omega) hb
    have hu' : ∀ x ∈ r, 0 ≤ x ∧ x < 4294967296 := fun x hx => by
      have := hu x hx
      unfold U32 at this
      omega
    have hx' : 0 ≤ x ∧ x < 4294967296 := by unfold U32 at hx; omega
    generalize hM : mch r i ((rd r i + x) % 4294967296) = M
    have hML := mch_len r i ((rd r i + x) % 4294967296)
    rw [hM] at hML
    have hsame := laws_sameMem.ev M.1 (by omega)
    have key : Ev (fun k => laws_FnMemOps.j0 k i x M.2.2 M.2.1 M.2.2 (!M.2.2) r M.1 M.1) true := by
      by_cases h : r.length ≤ 64 ∧ 0 ≤ i ∧ i < (r.length : Int)
      · obtain ⟨n, rfl⟩ := Int.eq_ofNat_of_zero_le h.2.1
        have hy := rd_all hu' h.2.1 h.2.2
        have hset : r.set n (rd r (n : Int)) = r := rd_put r h.2.1 h.2.2
        generalize hyy : rd r (n : Int) = y at hy hset hM
        have hself : ∀ v : Int, rd (r.set n v) (n : Int) = v := fun v => rd_set_self _ _ (by omega)
        have hc : ∀ v : Int, (r.set n v).length ≤ 64 ∧ 0 ≤ (n : Int) ∧ (n : Int) < ((r.set n v).length : Int) := fun v => by rw [List.length_set]; exact h
        have e : M = (r.set n ((y + x) % 4294967296), y, true) := by rw [← hM]; unfold mch; rw [if_pos h, hyy]; rfl
        have e1 : ∀ v, mch r (n : Int) v = (r.set n v, y, true) := fun v => by unfold mch; rw [if_pos h, hyy]; rfl
        have e2 : ∀ v u, mch (r.set n v) (n : Int) u = (r.set n u, v, true) := fun v u => by unfold mch; rw [if_pos (hc v), hself, Int.toNat_natCast, List.set_set]
        have e3 : ∀ v, mld (r.set n v) (n : Int) = (v, true) := fun v => by unfold mld; rw [if_pos (hc v), hself]
        have e4 : ((y + x) % 4294967296 + (-x) % 4294967296) % 4294967296 = y := by omega
        have e5 : (bits BinOp.or IntKind.u32 y x + bits BinOp.and IntKind.u32 y x) % 4294967296 = (y + x) % 4294967296 := by
          obtain ⟨p, rfl⟩ := Int.eq_ofNat_of_zero_le hy.1
          obtain ⟨q, rfl⟩ := Int.eq_ofNat_of_zero_le hx'.1
          have hw : ∀ n : Int, 0 ≤ n → n < 2 ^ 32 → IntKind.u32.wrap n = n := fun n h0 h1 => by rw [IntKind.wrap_u32]; omega
          have hb := bits_nat .u32 32 (by decide) hw p q (by omega) (by omega)
          have hs := or_and_sum p q
          rw [hb.1, hb.2]
          omega
        have hl := laws_FnMemOps.loop r n x y ((y + x) % 4294967296) (bits BinOp.or IntKind.u32 y x) (bits BinOp.and IntKind.u32 y x) h.1 (by omega) e5 r.length 0 (by omega)
        rw [e]
        refine Ev.step (f := fun k => laws_FnMemOps.l0 k (n : Int) x y true true true (bits BinOp.or IntKind.u32 y x) (bits BinOp.and IntKind.u32 y x) true ((0 : Nat) : Int) r (r.set n ((y + x) % 4294967296)) r (r.set n (bits BinOp.or IntKind.u32 y x)) (r.set n (bits BinOp.and IntKind.u32 y x)) r) (fun k => ?_) hl
        simp only [laws_FnMemOps.j0]
        rw [if_neg (by decide), impl_MemAdd.eq, hself, e4, e2, hset, Option.bind_some, impl_MemOr.eq, hyy, e1, Option.bind_some, impl_MemAnd.eq, hyy, e1, Option.bind_some, impl_MemLoad.eq, e3, Option.bind_some, impl_MemLoad.eq, e3, Option.bind_some, impl_MemStore.eq, e2, hset, Option.bind_some]
        rfl
      · have e : M = ([], 0, false) := by rw [← hM]; unfold mch; rw [if_neg h]
        rw [e] at hsame ⊢
        refine Ev.step (f := fun k => (laws_sameMem.f k [] []).bind fun t => some t) (fun k => ?_) (Ev.bind (f := fun _ (t : Bool) => some t) hsame (Ev.now _))
        simp only [laws_FnMemOps.j0]
        rw [if_pos (by decide), if_pos (by decide)]
    obtain ⟨k, e1, e2, e3⟩ := (d1.and (hsame.and key.last)).pick
    refine ⟨k, ?_⟩
    unfold laws_FnMemOps.f
    rw [hbig, Option.bind_some, if_neg (by decide), e1, Option.bind_some, spec_MemAdd.eq r i x hu' hx', hM, Option.bind_some, impl_MemAdd.eq, hM, Option.bind_some, if_neg (by simp), if_pos rfl, e2, Option.bind_some, if_pos rfl]
    exact e3

end Go.Proofs.Ytllidkccikmgiaa.Pure
