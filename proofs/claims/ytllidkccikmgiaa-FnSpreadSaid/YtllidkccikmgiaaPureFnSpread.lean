/-
  The law FnSpread: what both programs compute, in plain Lean, and that it is the same.
  Conditions: none beyond those of the statement itself.
-/
import Derived.Test.YtllidkccikmgiaaPFnSpreadx4
import Derived.Test.YtllidkccikmgiaaLib
namespace Go.Proofs.Ytllidkccikmgiaa.Pure
open Go.RowKit Go.Proofs.Ytllidkccikmgiaa.PFnSpread Go.Proofs.YtllidkccikmgiaaW.PrintWords Go.Proofs.YtllidkccikmgiaaW.PrintLast

/-! ### laws_big -/
theorem laws_big.eq (l : List Int) : laws_big.f l = some (decide (l.length > 1048576)) := by
  unfold laws_big.f
  congr 1
  exact decide_eq_decide.2 (by omega)
/-! ### spec_l01Open -/
theorem spec_l01Open.ok (l : List Int) (hl : l.length ≤ 1048576) (hb : ∀ x ∈ l, (Lit.int .u8 x).wf = true) : ∃ s : Int, spec_l01Open.f l = some (l, 0, s) ∧ CurOk l 0 s 0 :=
  ⟨_, rfl, fun x hx => bounds_u8 (hb x hx), hl, by omega, by omega, by omega, by omega⟩
/-! ### spec_l01Cur_pick -/
theorem spec_l01Cur_pick.ok {l : List Int} {a s : Int} {N : Nat} (h : CurOk l a s N) (hN : N ≤ 1000000000) (n : Int) (hn : n ≤ 4294967296) : ∃ v a' s' : Int, spec_l01Cur_pick.f l a s n = some (v, a', s') ∧ CurOk l a' s' (N + 1) ∧ 0 ≤ v ∧ (v = 0 ∨ v < n) := by
  obtain ⟨hb, hl, ha0, ha1, hs0, hs1⟩ := h
  unfold spec_l01Cur_pick.f
  by_cases h2 : n < 2
  · rw [if_pos h2]
    exact ⟨0, a, s, rfl, ⟨hb, hl, ha0, by omega, hs0, hs1⟩, by omega, .inl rfl⟩
  · rw [if_neg h2]
    by_cases h3 : a < (l.length : Int)
    · have hr := rd_all hb ha0 h3
      have ht := tmod_range (x := wrap64 (rd l a)) (m := n) (by rw [w64 (by omega) (by omega)]; omega) (by omega)
      rw [if_pos h3, if_pos ha0, if_neg (by omega)]
      refine ⟨_, _, _, rfl, ⟨hb, hl, ?_, ?_, hs0, hs1⟩, ht.1, .inr ht.2⟩
      · rw [w64 (by omega) (by omega)]; omega
      · rw [w64 (by omega) (by omega)]; omega
    · rw [if_neg h3]
      have hsd := seed_next hs0 hs1
      by_cases h4 : (l.length : Int) > 0
      · have hi := tmod_range (x := a) (m := (l.length : Int)) ha0 h4
        have hr := rd_all hb hi.1 hi.2
        rw [if_pos h4, if_neg (by omega), if_pos hi.1, if_pos hi.2, if_neg (by omega)]
        generalize Int.tmod (wrap64 ((wrap64 (s * 1103)) + 12345)) 65521 = s2 at hsd ⊢
        generalize rd l (Int.tmod a (l.length : Int)) = x at hr ⊢
        have e : wrap64 ((wrap64 (Int.tdiv s2 7)) + (wrap64 x)) = s2 / 7 + x := by
          rw [Int.tdiv_eq_ediv_of_nonneg hsd.1, w64 (x := s2 / 7) (by omega) (by omega), w64 (x := x) (by omega) (by omega), w64 (by omega) (by omega)]
        have ht := tmod_range (x := wrap64 ((wrap64 (Int.tdiv s2 7)) + (wrap64 x))) (m := n) (by rw [e]; omega) (by omega)
        refine ⟨_, _, _, rfl, ⟨hb, hl, ?_, ?_, hsd.1, hsd.2⟩, ht.1, .inr ht.2⟩
        · rw [w64 (by omega) (by omega)]; omega
        · rw [w64 (by omega) (by omega)]; omega
      · rw [if_neg h4, if_neg (by omega)]
        refine ⟨_, _, _, rfl, ⟨hb, hl, ?_, ?_, hsd.1, hsd.2⟩, ?_, .inl ?_⟩
        · rw [w64 (by omega) (by omega)]; omega
        · rw [w64 (by omega) (by omega)]; omega
        · simp
        · simp
/-! ### spec_l01Cur_once -/
theorem spec_l01Cur_once.ok {l : List Int} {a s : Int} {N : Nat} (h : CurOk l a s N) (hN : N ≤ 100000000) (n : Int) (hn : n ≤ 4294967296) : ∃ (b : Bool) (a' s' : Int), spec_l01Cur_once.f l a s n = some (b, a', s') ∧ CurOk l a' s' (N + 1) := by
  obtain ⟨v, a1, s1, e1, c1, _, _⟩ := spec_l01Cur_pick.ok h (by omega) n hn
  exact ⟨v == wrap64 (n - 1), a1, s1, by simp only [spec_l01Cur_once.f, e1, Option.bind_some], c1⟩
/-! ### spec_l01Cur_row -/
theorem spec_l01Cur_row.loop (l : List Int) (top : Int) (ht : top ≤ 1000) (d : Nat) : ∀ (acc : List Int) (a s : Int) (N i : Nat), i + d = 8 → CurOk l a s N → N + d ≤ 1000000 → acc.length = i → ∃ (r : List Int) (a' s' : Int), Ev (fun k => spec_l01Cur_row.l0 k acc top (i : Int) l a s) (r, a', s') ∧ CurOk l a' s' (N + d + 2) ∧ 7 ≤ r.length ∧ r.length ≤ 9 := by
  induction d with
  | zero =>
    intro acc a s N i hi h hN hacc
    obtain ⟨b, a1, s1, e1, c1⟩ := spec_l01Cur_once.ok h (by omega) 12 (by omega)
    by_cases hb : b = true
    · obtain ⟨v, a2, s2, e2, c2, h2, g2⟩ := spec_l01Cur_pick.ok c1 (by omega) 3 (by omega)
      refine ⟨(acc ++ [1]).drop v.toNat, a2, s2, Ev.stop fun k => ?_, c2.more (by omega), by rw [List.length_drop, List.length_append, List.length_singleton]; omega, by rw [List.length_drop, List.length_append, List.length_singleton]; omega⟩
      simp only [spec_l01Cur_row.l0]
      rw [if_neg (by omega), e1, Option.bind_some, if_pos hb, if_pos (by omega), Option.bind_some, e2, Option.bind_some, if_pos h2, if_pos (by rw [List.length_append, List.length_singleton]; omega)]
    · refine ⟨acc, a1, s1, Ev.stop fun k => ?_, c1.more (by omega), by omega, by omega⟩
      simp only [spec_l01Cur_row.l0]
      rw [if_neg (by omega), e1, Option.bind_some, if_neg hb]
  | succ d ih =>
    intro acc a s N i hi h hN hacc
    obtain ⟨v, a1, s1, e1, c1, h1, g1⟩ := spec_l01Cur_pick.ok h (by omega) top (by omega)
    obtain ⟨r, a2, s2, e2, c2, h2⟩ := ih (acc ++ [v]) a1 s1 (N + 1) (i + 1) (by omega) c1 (by omega) (by rw [List.length_append, List.length_singleton]; omega)
    refine ⟨r, a2, s2, Ev.step (fun k => ?_) e2, c2.more (by omega), h2⟩
    simp only [spec_l01Cur_row.l0]
    rw [if_pos (by omega), e1, Option.bind_some, if_pos (by omega), w64_succ (by omega)]
theorem spec_l01Cur_row.ok {l : List Int} {a s : Int} {N : Nat} (h : CurOk l a s N) (hN : N ≤ 900000) : ∃ (r : List Int) (a' s' : Int), Ev (fun k => spec_l01Cur_row.f k l a s) (r, a', s') ∧ CurOk l a' s' (N + 11) ∧ 7 ≤ r.length ∧ r.length ≤ 9 := by
  obtain ⟨v, a1, s1, e1, c1, h1, g1⟩ := spec_l01Cur_pick.ok h (by omega) 3 (by omega)
  have ht : rd [2, 4, 40] v ≤ 1000 := rd_all (P := fun x => x ≤ 1000) (fun x hx => by
    simp only [List.mem_cons, List.not_mem_nil, or_false] at hx
    omega) h1 (by simp only [List.length_cons, List.length_nil]; omega)
  obtain ⟨r, a2, s2, e2, c2, h2⟩ := spec_l01Cur_row.loop l (rd [2, 4, 40] v) ht 8 [] a1 s1 (N + 1) 0 (by omega) c1 (by omega) rfl
  refine ⟨r, a2, s2, Ev.congr (fun k => ?_) e2, c2.more (by omega), h2⟩
  simp only [spec_l01Cur_row.f]
  rw [Option.bind_some, e1, Option.bind_some, if_pos h1, if_pos (by simp only [List.length_cons, List.length_nil]; omega)]
  rfl
/-! ### spec_l01Cur_wide -/
theorem spec_l01Cur_wide.ok {l : List Int} {a s : Int} {N : Nat} (h : CurOk l a s N) (hN : N ≤ 100000000) (n : Int) (hn0 : 0 < n) : ∃ v a' s' : Int, spec_l01Cur_wide.f l a s n = some (v, a', s') ∧ CurOk l a' s' (N + 3) ∧ 0 ≤ v ∧ v < n := by
  obtain ⟨v1, a1, s1, e1, c1, h1, g1⟩ := spec_l01Cur_pick.ok h (by omega) 256 (by omega)
  obtain ⟨v2, a2, s2, e2, c2, h2, g2⟩ := spec_l01Cur_pick.ok c1 (by omega) 256 (by omega)
  obtain ⟨v3, a3, s3, e3, c3, h3, g3⟩ := spec_l01Cur_pick.ok c2 (by omega) 256 (by omega)
  have e : wrap64 ((wrap64 ((wrap64 (65536 * v1)) + (wrap64 (256 * v2)))) + v3) = 65536 * v1 + 256 * v2 + v3 := by
    rw [w64 (x := 65536 * v1) (by omega) (by omega), w64 (x := 256 * v2) (by omega) (by omega), w64 (x := 65536 * v1 + 256 * v2) (by omega) (by omega), w64 (by omega) (by omega)]
  have ht := tmod_range (x := 65536 * v1 + 256 * v2 + v3) (m := n) (by omega) hn0
  refine ⟨_, _, _, ?_, c3, ht.1, ht.2⟩
  simp only [spec_l01Cur_wide.f, e1, e2, e3, Option.bind_some, e]
  rw [if_neg (by omega)]
/-! ### spec_l01Cur_word -/
theorem spec_l01Cur_word.ok {l : List Int} {a s : Int} {N : Nat} (h : CurOk l a s N) (hN : N ≤ 10000000) : ∃ v a' s' : Int, spec_l01Cur_word.f l a s = some (v, a', s') ∧ CurOk l a' s' (N + 5) ∧ U32 v := by
  obtain ⟨v1, a1, s1, e1, c1, h1, g1⟩ := spec_l01Cur_pick.ok h (by omega) 256 (by omega)
  obtain ⟨v2, a2, s2, e2, c2, h2, g2⟩ := spec_l01Cur_wide.ok c1 (by omega) 16777216 (by omega)
  obtain ⟨v3, a3, s3, e3, c3, h3, g3⟩ := spec_l01Cur_pick.ok c2 (by omega) 7 (by omega)
  simp only [spec_l01Cur_word.f, e1, e2, e3, Option.bind_some, List.length_cons, List.length_nil]
  rw [if_pos h3, if_pos (by omega)]
  refine ⟨_, _, _, rfl, c3.more (by omega), rd_all (P := U32) ?_ h3 (by simp only [List.length_cons, List.length_nil]; omega)⟩
  intro x hx
  unfold U32
  simp only [List.mem_cons, List.not_mem_nil, or_false] at hx
  omega
/-! ### spec_l01Cur_mask -/
theorem spec_l01Cur_mask.ok {l : List Int} {a s : Int} {N : Nat} (h : CurOk l a s N) (hN : N ≤ 900000) : ∃ (n : Nat) (a' s' : Int), spec_l01Cur_mask.f l a s = some ((n : Int), a', s') ∧ CurOk l a' s' (N + 6) ∧ n < 2 ^ 32 := by
  obtain ⟨b, a1, s1, e1, c1⟩ := spec_l01Cur_once.ok h (by omega) 12 (by omega)
  by_cases hb : b = true
  · obtain ⟨v2, a2, s2, e2, c2, h2⟩ := spec_l01Cur_word.ok c1 (by omega)
    obtain ⟨n, rfl, hn⟩ := u32_of h2
    exact ⟨n, a2, s2, by simp only [spec_l01Cur_mask.f, e1, e2, Option.bind_some, if_pos hb], c2.more (by omega), hn⟩
  · obtain ⟨v2, a2, s2, e2, c2, h2, g2⟩ := spec_l01Cur_pick.ok c1 (by omega) 256 (by omega)
    obtain ⟨n, rfl⟩ : ∃ n : Nat, v2 = n := ⟨v2.toNat, by omega⟩
    have e : (n : Int) % 4294967296 = n := by omega
    exact ⟨n, a2, s2, by simp only [spec_l01Cur_mask.f, e1, e2, Option.bind_some, if_neg hb, e], c2.more (by omega), by omega⟩
/-! ### spec_DrawGather -/
theorem spec_DrawGather.ok (l : List Int) (hl : l.length ≤ 1048576) (hb : ∀ x ∈ l, (Lit.int .u8 x).wf = true) : ∃ (v : List Int) (n : Nat), Ev (fun k => spec_DrawGather.f k l) (v, (n : Int)) ∧ n < 2 ^ 32 ∧ v.length ≤ 9 := by
  obtain ⟨s0, e0, c0⟩ := spec_l01Open.ok l hl hb
  obtain ⟨r, a1, s1, ⟨K, hK⟩, c1, h1⟩ := spec_l01Cur_row.ok c0 (by omega)
  obtain ⟨n, a2, s2, e2, c2, h2⟩ := spec_l01Cur_mask.ok c1 (by omega)
  refine ⟨r, n, ⟨K, fun k hk => ?_⟩, h2, h1.2⟩
  have e1 : spec_l01Cur_row.f k l 0 s0 = some (r, a1, s1) := hK k hk
  show spec_DrawGather.f k l = _
  unfold spec_DrawGather.f
  rw [e0, Option.bind_some, e1, Option.bind_some, e2, Option.bind_some]
/-! ### spec_DrawSpread -/
theorem spec_DrawSpread.ok (l : List Int) (hl : l.length ≤ 1048576) (hb : ∀ x ∈ l, (Lit.int .u8 x).wf = true) : ∃ (v : List Int) (n : Int), Ev (fun k => spec_DrawSpread.f k l) (v, n, []) ∧ v.length ≤ 9 := by
  obtain ⟨s0, e0, c0⟩ := spec_l01Open.ok l hl hb
  obtain ⟨r, a1, s1, ⟨K, hK⟩, c1, h1⟩ := spec_l01Cur_row.ok c0 (by omega)
  obtain ⟨n, a2, s2, e2, c2, h2⟩ := spec_l01Cur_mask.ok c1 (by omega)
  obtain ⟨q, a3, s3, ⟨L, hL⟩, c3, h3⟩ := spec_l01Cur_row.ok c2 (by omega)
  obtain ⟨v, a4, s4, e4, c4, h4, g4⟩ := spec_l01Cur_pick.ok c3 (by omega) 7 (by omega)
  refine ⟨r, n, ⟨K + L, fun k hk => ?_⟩, h1.2⟩
  have e1 : spec_l01Cur_row.f k l 0 s0 = some (r, a1, s1) := hK k (by omega)
  have e3 : spec_l01Cur_row.f k l a2 s2 = some (q, a3, s3) := hL k (by omega)
  show spec_DrawSpread.f k l = _
  unfold spec_DrawSpread.f
  rw [e0, Option.bind_some, e1, Option.bind_some, e2, Option.bind_some, e3, Option.bind_some, e4, Option.bind_some]
  dsimp only
  rw [if_pos h4, if_pos (by omega)]
/-! ### impl_BitList -/
theorem impl_BitList.loop (n : Nat) (hn : n < 2 ^ 32) (d : Nat) : ∀ i : Nat, i + d = 32 → Ev (fun k => impl_BitList.l0 k (n : Int) (blp n.testBit i) (i : Int)) (blp n.testBit 32) := by
  induction d with
  | zero =>
    intro i hi
    obtain rfl : i = 32 := by omega
    refine Ev.stop fun k => ?_
    simp only [impl_BitList.l0]
    rw [if_neg (by omega)]
  | succ d ih =>
    intro i hi
    refine Ev.step (f := fun k => impl_BitList.l0 k (n : Int) (blp n.testBit (i + 1)) ((i + 1 : Nat) : Int)) (fun k => ?_) (ih (i + 1) (by omega))
    have hlen := blp_len_le n.testBit i
    simp only [impl_BitList.l0]
    rw [if_pos (by omega), if_pos (by omega), bit_at hn (by omega : i ≤ 32), w64_succ (by omega)]
    by_cases hp : n.testBit i = true
    · rw [if_pos hp, if_pos rfl, if_pos (by omega)]
      simp only [blp, if_pos hp]
    · rw [if_neg hp, if_neg (by decide)]
      simp only [blp, if_neg hp, List.append_nil]
theorem impl_BitList.ev (n : Nat) (hn : n < 2 ^ 32) : Ev (fun k => impl_BitList.f k (n : Int)) (blp n.testBit 32) :=
  Ev.congr (fun _ => rfl) (impl_BitList.loop n hn 32 0 rfl)
/-! ### impl_isMask -/
theorem impl_isMask.eq (n : Nat) : impl_isMask.f (n : Int) = some (decide (n < 256)) := by
  unfold impl_isMask.f
  have : ((n : Int) < 256) ↔ n < 256 := by omega
  simp only [this]
/-! ### impl_Gather -/
theorem impl_Gather.loop (v : List Int) (hv : v.length = 8) (n : Nat) (hn : n < 256) (d : Nat) : ∀ i : Nat, i + d = (blp n.testBit 32).length → Ev (fun k => impl_Gather.l0 k v (((blp n.testBit 32).take i).map (rd v)) (blp n.testBit 32) ((blp n.testBit 32).length : Int) (i : Int)) ((blp n.testBit 32).map (rd v)) := by
  have hlen := blp_len_le n.testBit 32
  induction d with
  | zero =>
    intro i hi
    refine Ev.stop fun k => ?_
    simp only [impl_Gather.l0]
    rw [if_neg (by omega), List.take_of_length_le (by omega)]
  | succ d ih =>
    intro i hi
    obtain ⟨b0, b1⟩ := mask_blp_lt hn (i := i) (by omega)
    have hl : (((blp n.testBit 32).take i).map (rd v)).length ≤ 32 := by rw [List.length_map, List.length_take]; omega
    refine Ev.step (f := fun k => impl_Gather.l0 k v (((blp n.testBit 32).take (i + 1)).map (rd v)) (blp n.testBit 32) ((blp n.testBit 32).length : Int) ((i + 1 : Nat) : Int)) (fun k => ?_) (ih (i + 1) (by omega))
    simp only [impl_Gather.l0]
    rw [if_pos (by omega), if_pos (by omega), if_pos (by omega), if_pos (by omega), if_pos (by omega), if_pos (by omega), w64_succ (by omega), map_take_succ _ _ (by omega)]
theorem impl_Gather.ev (v : List Int) (n : Nat) (hn : n < 2 ^ 32) : Ev (fun k => impl_Gather.f k v (n : Int)) (gath v n) := by
  have hout : Ev (fun k => impl_Gather.j0 k v (n : Int) true) [] := Ev.stop fun k => by
    simp only [impl_Gather.j0]
    rw [if_pos trivial]
  unfold gath
  by_cases h : n < 256
  · refine Ev.congr (f := fun k => impl_Gather.j0 k v (n : Int) ((v.length : Int) != 8)) (fun k => ?_) ?_
    · simp only [impl_Gather.f]
      rw [impl_isMask.eq, Option.bind_some, if_pos (by simpa using h)]
    · by_cases h8 : v.length = 8
      · have e : ((v.length : Int) != 8) = false := by simp [h8]
        rw [if_pos ⟨h8, h⟩, e]
        refine Ev.step (f := fun k => (impl_BitList.f k (n : Int)).bind fun t => impl_Gather.l0 k v [] t (t.length : Int) 0) (fun k => ?_) (Ev.bind (f := fun k t => impl_Gather.l0 k v [] t (t.length : Int) 0) (impl_BitList.ev n hn) (impl_Gather.loop v h8 n h (blp n.testBit 32).length 0 (by omega)))
        simp only [impl_Gather.j0]
        rw [if_neg (by decide)]
      · have e : ((v.length : Int) != 8) = true := by simp; omega
        rw [if_neg (fun h2 => h8 h2.1), e]
        exact hout
  · rw [if_neg (fun h2 => h h2.2)]
    refine Ev.congr (f := fun k => impl_Gather.j0 k v (n : Int) true) (fun k => ?_) hout
    simp only [impl_Gather.f]
    rw [impl_isMask.eq, Option.bind_some, if_neg (by simpa using h)]
/-! ### laws_same -/
theorem laws_same.loop (l : List Int) (hl : l.length ≤ 1000000) (d : Nat) : ∀ i : Nat, i + d = l.length → Ev (fun k => laws_same.l0 k l l (i : Int)) true := by
  induction d with
  | zero =>
    intro i hi
    refine Ev.stop fun k => ?_
    simp only [laws_same.l0]
    rw [if_neg (by omega)]
  | succ d ih =>
    intro i hi
    refine Ev.step (f := fun k => laws_same.l0 k l l ((i + 1 : Nat) : Int)) (fun k => ?_) (ih (i + 1) (by omega))
    simp only [laws_same.l0]
    rw [if_pos (by omega), if_pos (by omega), if_pos (by omega), if_pos trivial, w64_succ (by omega)]
theorem laws_same.ev (l : List Int) (hl : l.length ≤ 1000000) : Ev (fun k => laws_same.f k l l) true := by
  refine Ev.congr (fun k => ?_) (laws_same.loop l hl l.length 0 (by omega))
  unfold laws_same.f
  rw [if_pos rfl]
  rfl
/-! ### spec_l01Bits -/
theorem spec_l01Bits.loop (n : Nat) (hn : n < 2 ^ 32) (d : Nat) : ∀ i : Nat, i + d = 32 → Ev (fun k => spec_l01Bits.l0 k ((n / 2 ^ i : Nat) : Int) (btl n.testBit i) (i : Int)) (btl n.testBit 32) := by
  induction d with
  | zero =>
    intro i hi
    obtain rfl : i = 32 := by omega
    refine Ev.stop fun k => ?_
    simp only [spec_l01Bits.l0]
    rw [if_neg (by omega)]
  | succ d ih =>
    intro i hi
    refine Ev.step (f := fun k => spec_l01Bits.l0 k ((n / 2 ^ (i + 1) : Nat) : Int) (btl n.testBit (i + 1)) ((i + 1 : Nat) : Int)) (fun k => ?_) (ih (i + 1) (by omega))
    have hlen := btl_len n.testBit i
    have hlt := div_lt hn i
    have e1 : Int.tdiv ((n / 2 ^ i : Nat) : Int) 2 % 4294967296 = ((n / 2 ^ (i + 1) : Nat) : Int) := by
      rw [Int.tdiv_eq_ediv_of_nonneg (Int.natCast_nonneg _), Nat.pow_succ, ← Nat.div_div_eq_div_mul]
      generalize n / 2 ^ i = y at hlt ⊢
      omega
    have e2 : wrap64 (Int.tmod ((n / 2 ^ i : Nat) : Int) 2) = if n.testBit i = true then 1 else 0 := by
      rw [Int.tmod_eq_emod_of_nonneg (Int.natCast_nonneg _), Nat.testBit_eq_decide_div_mod_eq]
      have h := Nat.mod_two_eq_zero_or_one (n / 2 ^ i)
      have h2 : ((n / 2 ^ i : Nat) : Int) % 2 = ((n / 2 ^ i % 2 : Nat) : Int) := (Int.natCast_emod _ _).symm
      rw [h2]
      rcases h with h | h
      · rw [h]; exact wrap64_0
      · rw [h]; exact wrap64_1
    simp only [spec_l01Bits.l0]
    rw [if_pos (by omega), if_pos (by omega), w64_succ (by omega), e1, e2, btl_succ]
theorem spec_l01Bits.ev (n : Nat) (hn : n < 2 ^ 32) : Ev (fun k => spec_l01Bits.f k (n : Int)) (btl n.testBit 32) := by
  have h := spec_l01Bits.loop n hn 32 0 rfl
  rw [Nat.pow_zero, Nat.div_one] at h
  exact Ev.congr (fun _ => rfl) h
/-! ### spec_BitList -/
theorem spec_BitList.loop (p : Nat → Bool) (d : Nat) : ∀ i : Nat, i + d = 32 → Ev (fun k => spec_BitList.l0 k (blp p i) (btl p 32) (i : Int)) (blp p 32) := by
  induction d with
  | zero =>
    intro i hi
    obtain rfl : i = 32 := by omega
    refine Ev.stop fun k => ?_
    simp only [spec_BitList.l0]
    rw [if_neg (by omega)]
  | succ d ih =>
    intro i hi
    refine Ev.step (f := fun k => spec_BitList.l0 k (blp p (i + 1)) (btl p 32) ((i + 1 : Nat) : Int)) (fun k => ?_) (ih (i + 1) (by omega))
    have hlen := blp_len_le p i
    have hlen2 := btl_len p 32
    simp only [spec_BitList.l0]
    rw [if_pos (by omega), if_pos (by omega), if_pos (by omega), btl_rd p (by omega : i < 32), w64_succ (by omega)]
    by_cases hp : p i = true
    · rw [if_pos hp, if_pos rfl, if_pos (by omega)]
      simp only [blp, if_pos hp]
    · rw [if_neg hp, if_neg (by decide)]
      simp only [blp, if_neg hp, List.append_nil]
theorem spec_BitList.ev (n : Nat) (hn : n < 2 ^ 32) : Ev (fun k => spec_BitList.f k (n : Int)) (blp n.testBit 32) :=
  Ev.bind (spec_l01Bits.ev n hn) (spec_BitList.loop n.testBit 32 0 rfl)
/-! ### spec_l03Row -/
theorem spec_l03Row.eq (l : List Int) : spec_l03Row.f l = some (decide (l.length = 8)) := by
  unfold spec_l03Row.f
  congr 1
  rw [Bool.eq_iff_iff]
  simp
  omega
/-! ### spec_Highest -/
theorem spec_Highest.ev (n : Nat) (hn : n < 2 ^ 32) : Ev (fun k => spec_Highest.f k (n : Int)) (top n.testBit 32) := by
  have hlen := blp_len_le n.testBit 32
  refine Ev.congr (fun _ => rfl) (Ev.bind (spec_BitList.ev n hn) ?_)
  by_cases h : (blp n.testBit 32).length = 0
  · rw [blp_empty _ _ h]
    refine Ev.const ?_
    rw [if_pos (by omega)]
  · obtain ⟨h1, _⟩ := blp_last n.testBit 32 h
    refine Ev.const ?_
    rw [if_neg (by omega), w64 (by omega) (by omega), if_pos (by omega), if_pos (by omega), h1]
/-! ### spec_l03Mask -/
theorem spec_l03Mask.ev (n : Nat) (hn : n < 2 ^ 32) : Ev (fun k => spec_l03Mask.f k (n : Int)) (decide (n < 256)) := by
  have h : Ev (fun k => spec_l03Mask.f k (n : Int)) (decide (top n.testBit 32 < 8)) := Ev.bind (f := fun _ (t : Int) => some (decide (t < 8))) (spec_Highest.ev n hn) (Ev.now _)
  have e : decide (top n.testBit 32 < 8) = decide (n < 256) := decide_eq_decide.2 (top_mask hn)
  rw [e] at h
  exact h
/-! ### spec_Gather -/
theorem spec_Gather.loop (v : List Int) (hv : v.length = 8) (n : Nat) (hn : n < 256) (d : Nat) : ∀ i : Nat, i + d = (blp n.testBit 32).length → Ev (fun k => spec_Gather.l0 k v (((blp n.testBit 32).take i).map (rd v)) (blp n.testBit 32) (i : Int)) ((blp n.testBit 32).map (rd v)) := by
  have hlen := blp_len_le n.testBit 32
  induction d with
  | zero =>
    intro i hi
    refine Ev.stop fun k => ?_
    simp only [spec_Gather.l0]
    rw [if_neg (by omega), List.take_of_length_le (by omega)]
  | succ d ih =>
    intro i hi
    obtain ⟨b0, b1⟩ := mask_blp_lt hn (i := i) (by omega)
    have hl : (((blp n.testBit 32).take i).map (rd v)).length ≤ 32 := by rw [List.length_map, List.length_take]; omega
    refine Ev.step (f := fun k => spec_Gather.l0 k v (((blp n.testBit 32).take (i + 1)).map (rd v)) (blp n.testBit 32) ((i + 1 : Nat) : Int)) (fun k => ?_) (ih (i + 1) (by omega))
    simp only [spec_Gather.l0]
    rw [if_pos (by omega), if_pos (by omega), if_pos (by omega), if_pos (by omega), if_pos (by omega), w64_succ (by omega), map_take_succ _ _ (by omega)]
theorem spec_Gather.ev (v : List Int) (n : Nat) (hn : n < 2 ^ 32) : Ev (fun k => spec_Gather.f k v (n : Int)) (gath v n) := by
  have hout : Ev (fun k => spec_Gather.j0 k v (n : Int) true) [] := Ev.stop fun k => by
    simp only [spec_Gather.j0]
    rw [if_pos trivial]
  unfold gath
  by_cases h8 : v.length = 8
  · refine Ev.congr (f := fun k => (spec_l03Mask.f k (n : Int)).bind fun t => spec_Gather.j0 k v (n : Int) (!t)) (fun k => ?_) (Ev.bind (f := fun k t => spec_Gather.j0 k v (n : Int) (!t)) (spec_l03Mask.ev n hn) ?_)
    · simp only [spec_Gather.f]
      rw [spec_l03Row.eq, Option.bind_some, if_pos (by simpa using h8)]
    · by_cases h : n < 256
      · rw [if_pos ⟨h8, h⟩, decide_eq_true h]
        refine Ev.step (f := fun k => (spec_BitList.f k (n : Int)).bind fun t => spec_Gather.l0 k v [] t 0) (fun k => ?_) (Ev.bind (f := fun k t => spec_Gather.l0 k v [] t 0) (spec_BitList.ev n hn) (spec_Gather.loop v h8 n h (blp n.testBit 32).length 0 (by omega)))
        simp only [spec_Gather.j0]
        rw [if_neg (by decide)]
      · rw [if_neg (fun h2 => h h2.2), decide_eq_false h]
        exact hout
  · rw [if_neg (fun h2 => h8 h2.1)]
    refine Ev.congr (f := fun k => spec_Gather.j0 k v (n : Int) true) (fun k => ?_) hout
    simp only [spec_Gather.f]
    rw [spec_l03Row.eq, Option.bind_some, if_neg (by simpa using h8)]
/-! ### slices_Clone_int_int -/
theorem slices_Clone_int_int.eq (l : List Int) (hl : l.length < 17592186044416) : slices_Clone_int_int.f l = some l := by
  unfold slices_Clone_int_int.f
  rw [Option.bind_some, if_pos (by simp; omega), List.nil_append]
/-! ### impl_Spread -/
theorem impl_Spread.loop (v : List Int) (n : Nat) (hn : n < 256) (d : Nat) : ∀ (i : Nat) (o : List Int), o.length = 8 → i + d = (blp n.testBit 32).length → Ev (fun k => impl_Spread.l0 k v o (blp n.testBit 32) ((blp n.testBit 32).length : Int) (i : Int)) (sprL v ((blp n.testBit 32).drop i) i o) := by
  have hlen := blp_len_le n.testBit 32
  induction d with
  | zero =>
    intro i o ho hi
    rw [List.drop_eq_nil_of_le (by omega)]
    refine Ev.stop fun k => ?_
    simp only [impl_Spread.l0, sprL]
    rw [if_neg (by omega)]
  | succ d ih =>
    intro i o ho hi
    obtain ⟨b0, b1⟩ := mask_blp_lt hn (i := i) (by omega)
    rw [drop_rd _ (by omega)]
    simp only [sprL]
    by_cases hv : i < v.length
    · rw [if_pos hv]
      refine Ev.step (f := fun k => impl_Spread.l0 k v (o.set (rd (blp n.testBit 32) (i : Int)).toNat (rd v (i : Int))) (blp n.testBit 32) ((blp n.testBit 32).length : Int) ((i + 1 : Nat) : Int)) (fun k => ?_) (ih (i + 1) _ (by simpa using ho) (by omega))
      simp only [impl_Spread.l0]
      rw [if_pos (by omega), if_pos (by omega), if_pos (by omega), if_pos (by omega), if_pos (by omega), if_pos (by omega), w64_succ (by omega)]
    · rw [if_neg hv]
      have h := ih (i + 1) o ho (by omega)
      rw [sprL_stop v _ (by omega)] at h
      refine Ev.step (f := fun k => impl_Spread.l0 k v o (blp n.testBit 32) ((blp n.testBit 32).length : Int) ((i + 1 : Nat) : Int)) (fun k => ?_) h
      simp only [impl_Spread.l0]
      rw [if_pos (by omega), if_pos (by omega), if_pos (by omega), if_neg (by omega), w64_succ (by omega)]
theorem impl_Spread.ev (o : List Int) (n : Nat) (hn : n < 2 ^ 32) (v : List Int) : Ev (fun k => impl_Spread.f k o (n : Int) v) (spr o n v) := by
  have hout : Ev (fun k => impl_Spread.j0 k o (n : Int) v true) [] := Ev.stop fun k => by
    simp only [impl_Spread.j0]
    rw [if_pos trivial]
  unfold spr
  by_cases h : n < 256
  · refine Ev.congr (f := fun k => impl_Spread.j0 k o (n : Int) v ((o.length : Int) != 8)) (fun k => ?_) ?_
    · simp only [impl_Spread.f]
      rw [impl_isMask.eq, Option.bind_some, if_pos (by simpa using h)]
    · by_cases h8 : o.length = 8
      · have e : ((o.length : Int) != 8) = false := by simp [h8]
        rw [if_pos ⟨h8, h⟩, e]
        refine Ev.step (f := fun k => (impl_BitList.f k (n : Int)).bind fun t => impl_Spread.l0 k v o t (t.length : Int) 0) (fun k => ?_) (Ev.bind (f := fun k t => impl_Spread.l0 k v o t (t.length : Int) 0) (impl_BitList.ev n hn) (impl_Spread.loop v n h (blp n.testBit 32).length 0 o h8 (by omega)))
        simp only [impl_Spread.j0]
        rw [if_neg (by decide), slices_Clone_int_int.eq o (by omega), Option.bind_some]
      · have e : ((o.length : Int) != 8) = true := by simp; omega
        rw [if_neg (fun h2 => h8 h2.1), e]
        exact hout
  · rw [if_neg (fun h2 => h h2.2)]
    refine Ev.congr (f := fun k => impl_Spread.j0 k o (n : Int) v true) (fun k => ?_) hout
    simp only [impl_Spread.f]
    rw [impl_isMask.eq, Option.bind_some, if_neg (by simpa using h)]
/-! ### bits_OnesCount32 -/
theorem bits_OnesCount32.tab (c : Nat) (hc : c < 256) : bt (⟨#[0, 1, 1, 2, 1, 2, 2, 3, 1, 2, 2, 3, 2, 3, 3, 4, 1, 2, 2, 3, 2, 3, 3, 4, 2, 3, 3, 4, 3, 4, 4, 5, 1, 2, 2, 3, 2, 3, 3, 4, 2, 3, 3, 4, 3, 4, 4, 5, 2, 3, 3, 4, 3, 4, 4, 5, 3, 4, 4, 5, 4, 5, 5, 6, 1, 2, 2, 3, 2, 3, 3, 4, 2, 3, 3, 4, 3, 4, 4, 5, 2, 3, 3, 4, 3, 4, 4, 5, 3, 4, 4, 5, 4, 5, 5, 6, 2, 3, 3, 4, 3, 4, 4, 5, 3, 4, 4, 5, 4, 5, 5, 6, 3, 4, 4, 5, 4, 5, 5, 6, 4, 5, 5, 6, 5, 6, 6, 7, 1, 2, 2, 3, 2, 3, 3, 4, 2, 3, 3, 4, 3, 4, 4, 5, 2, 3, 3, 4, 3, 4, 4, 5, 3, 4, 4, 5, 4, 5, 5, 6, 2, 3, 3, 4, 3, 4, 4, 5, 3, 4, 4, 5, 4, 5, 5, 6, 3, 4, 4, 5, 4, 5, 5, 6, 4, 5, 5, 6, 5, 6, 6, 7, 2, 3, 3, 4, 3, 4, 4, 5, 3, 4, 4, 5, 4, 5, 5, 6, 3, 4, 4, 5, 4, 5, 5, 6, 4, 5, 5, 6, 5, 6, 6, 7, 3, 4, 4, 5, 4, 5, 5, 6, 4, 5, 5, 6, 5, 6, 6, 7, 4, 5, 5, 6, 5, 6, 6, 7, 5, 6, 6, 7, 6, 7, 7, 8]⟩ : ByteArray) (c : Int) = ((cnt c.testBit 8 : Nat) : Int) := by
  have h : ∀ c : Fin 256, bt (⟨#[0, 1, 1, 2, 1, 2, 2, 3, 1, 2, 2, 3, 2, 3, 3, 4, 1, 2, 2, 3, 2, 3, 3, 4, 2, 3, 3, 4, 3, 4, 4, 5, 1, 2, 2, 3, 2, 3, 3, 4, 2, 3, 3, 4, 3, 4, 4, 5, 2, 3, 3, 4, 3, 4, 4, 5, 3, 4, 4, 5, 4, 5, 5, 6, 1, 2, 2, 3, 2, 3, 3, 4, 2, 3, 3, 4, 3, 4, 4, 5, 2, 3, 3, 4, 3, 4, 4, 5, 3, 4, 4, 5, 4, 5, 5, 6, 2, 3, 3, 4, 3, 4, 4, 5, 3, 4, 4, 5, 4, 5, 5, 6, 3, 4, 4, 5, 4, 5, 5, 6, 4, 5, 5, 6, 5, 6, 6, 7, 1, 2, 2, 3, 2, 3, 3, 4, 2, 3, 3, 4, 3, 4, 4, 5, 2, 3, 3, 4, 3, 4, 4, 5, 3, 4, 4, 5, 4, 5, 5, 6, 2, 3, 3, 4, 3, 4, 4, 5, 3, 4, 4, 5, 4, 5, 5, 6, 3, 4, 4, 5, 4, 5, 5, 6, 4, 5, 5, 6, 5, 6, 6, 7, 2, 3, 3, 4, 3, 4, 4, 5, 3, 4, 4, 5, 4, 5, 5, 6, 3, 4, 4, 5, 4, 5, 5, 6, 4, 5, 5, 6, 5, 6, 6, 7, 3, 4, 4, 5, 4, 5, 5, 6, 4, 5, 5, 6, 5, 6, 6, 7, 4, 5, 5, 6, 5, 6, 6, 7, 5, 6, 6, 7, 6, 7, 7, 8]⟩ : ByteArray) (c.val : Int) = ((cnt c.val.testBit 8 : Nat) : Int) := by decide +kernel
  exact h ⟨c, hc⟩
theorem bits_OnesCount32.eq (n : Nat) (hn : n < 2 ^ 32) : bits_OnesCount32.f (n : Int) = some ((cnt n.testBit 32 : Nat) : Int) := by
  unfold bits_OnesCount32.f
  have a0 : ((n : Int) / 16777216) = ((n / 16777216 % 256 : Nat) : Int) := by omega
  have a1 : Go.bits .and .u32 ((n : Int) / 65536) 255 = ((n / 65536 % 256 : Nat) : Int) := by rw [and255 (by omega) (by omega)]; omega
  have a2 : Go.bits .and .u32 ((n : Int) / 256) 255 = ((n / 256 % 256 : Nat) : Int) := by rw [and255 (by omega) (by omega)]; omega
  have a3 : Go.bits .and .u32 (n : Int) 255 = ((n % 256 : Nat) : Int) := by rw [and255 (by omega) (by omega)]; omega
  rw [a0, a1, a2, a3]
  rw [if_pos (by omega), if_pos (by omega), if_pos (by omega), if_pos (by omega), if_pos (by omega), if_pos (by omega), if_pos (by omega), if_pos (by omega)]
  rw [bits_OnesCount32.tab _ (Nat.mod_lt _ (by decide)), bits_OnesCount32.tab _ (Nat.mod_lt _ (by decide)), bits_OnesCount32.tab _ (Nat.mod_lt _ (by decide)), bits_OnesCount32.tab _ (Nat.mod_lt _ (by decide))]
  have b0 := cnt_le (n / 16777216 % 256).testBit 8
  have b1 := cnt_le (n / 65536 % 256).testBit 8
  have b2 := cnt_le (n / 256 % 256).testBit 8
  have b3 := cnt_le (n % 256).testBit 8
  rw [@cnt_bytes n]
  congr 1
  omega
/-! ### impl_Ones -/
theorem impl_Ones.eq (n : Nat) (hn : n < 2 ^ 32) : impl_Ones.f (n : Int) = some ((cnt n.testBit 32 : Nat) : Int) := by
  unfold impl_Ones.f
  rw [bits_OnesCount32.eq n hn, Option.bind_some]
/-! ### impl_within -/
theorem impl_within.eq (a lo hi : Int) : impl_within.f a lo hi = some (decide (lo ≤ a ∧ a ≤ hi)) := by
  unfold impl_within.f
  split
  · rename_i h
    have : lo ≤ a := h
    simp [this]
  · rename_i h
    have : ¬ lo ≤ a := h
    simp [this]
/-! ### impl_MaskOf -/
theorem impl_MaskOf.eq (a : Int) : impl_MaskOf.f a = some ((wd (fun j => decide ((j : Int) < a ∧ a ≤ 32)) 32 : Nat) : Int) := by
  unfold impl_MaskOf.f
  rw [impl_within.eq, Option.bind_some]
  by_cases h : 0 ≤ a ∧ a ≤ 32
  · rw [if_pos (by simpa using h), if_pos h.1]
    obtain ⟨m, rfl⟩ : ∃ m : Nat, a = m := ⟨a.toNat, by omega⟩
    have e : wd (fun j => decide ((j : Int) < (m : Int) ∧ (m : Int) ≤ 32)) 32 = 2 ^ m - 1 := by
      rw [← wd_mask (by omega : m ≤ 32)]
      exact wd_congr fun i _ => decide_eq_decide.2 (by omega)
    rw [e]
    have hq : 0 < (2 : Nat) ^ m := Nat.two_pow_pos m
    by_cases h2 : m = 32
    · subst h2; rfl
    · have hp := two_pow_lt (i := m) (by omega)
      rw [shl_one (by omega : m < 32)]
      congr 1
      omega
  · rw [if_neg (by simpa using h)]
    have e : wd (fun j => decide ((j : Int) < a ∧ a ≤ 32)) 32 = 0 := by
      refine (wd_congr fun i _ => ?_).trans (wd_false 32)
      have : ¬ ((i : Int) < a ∧ a ≤ 32) := by omega
      simp only [this, decide_false]
    rw [e]
    rfl
/-! ### impl_hasLane -/
theorem impl_hasLane.eq (n : Nat) (hn : n < 2 ^ 32) (a : Int) : impl_hasLane.f (n : Int) a = some (decide (0 ≤ a ∧ a < 8 ∧ n.testBit a.toNat = true)) := by
  unfold impl_hasLane.f
  rw [impl_within.eq, Option.bind_some]
  by_cases h : 0 ≤ a ∧ a ≤ 7
  · obtain ⟨c, rfl⟩ : ∃ c : Nat, a = c := ⟨a.toNat, by omega⟩
    rw [if_pos (by simpa using h), if_pos h.1, bit_at hn (by omega), Int.toNat_natCast]
    have h8 : (c : Int) < 8 := by omega
    by_cases hb : n.testBit c = true
    · rw [if_pos hb, decide_eq_true ⟨h.1, h8, hb⟩]; rfl
    · rw [if_neg hb, decide_eq_false (fun h3 => hb h3.2.2)]; rfl
  · rw [if_neg (by simpa using h), decide_eq_false (fun h3 => h ⟨h3.1, by omega⟩)]
/-! ### impl_RankOf -/
theorem impl_RankOf.ev (n : Nat) (hn : n < 2 ^ 32) (a : Int) : Ev (fun k => impl_RankOf.f k (n : Int) a) (rk n a) := by
  unfold rk
  by_cases h : n < 256
  · refine Ev.congr (f := fun k => impl_RankOf.j0 k (n : Int) a (!decide (0 ≤ a ∧ a < 8 ∧ n.testBit a.toNat = true))) (fun k => ?_) (Ev.stop fun k => ?_)
    · simp only [impl_RankOf.f]
      rw [impl_isMask.eq, Option.bind_some, if_pos (by simpa using h), impl_hasLane.eq n hn, Option.bind_some]
    · simp only [impl_RankOf.j0]
      by_cases h2 : 0 ≤ a ∧ a < 8 ∧ n.testBit a.toNat = true
      · rw [decide_eq_true h2, if_neg (by decide), if_pos ⟨h, h2.1, by omega, h2.2.2⟩, impl_MaskOf.eq, Option.bind_some, and_nat hn (wd_lt32 _), impl_Ones.eq _ (Nat.and_lt_two_pow _ (wd_lt32 _)), Option.bind_some]
        have e : cnt (n &&& wd (fun j => decide ((j : Int) < a ∧ a ≤ 32)) 32).testBit 32 = cnt n.testBit a.toNat := by
          rw [← cnt_below n.testBit a.toNat 32 (by omega)]
          refine cnt_congr fun i hi => ?_
          rw [Nat.testBit_and, wd_bit, decide_eq_true hi, Bool.true_and]
          congr 1
          exact decide_eq_decide.2 (by omega)
        rw [e]
      · rw [decide_eq_false h2, if_pos (by decide), if_neg]
        intro h3
        by_cases h8 : a < 8
        · exact h2 ⟨h3.2.1, h8, h3.2.2.2⟩
        · have := mask_high h (j := a.toNat) (by omega)
          rw [this] at h3
          exact absurd h3.2.2.2 (by decide)
  · rw [if_neg (fun h3 => h h3.1)]
    refine Ev.congr (f := fun k => impl_RankOf.j0 k (n : Int) a true) (fun k => ?_) (Ev.stop fun k => ?_)
    · simp only [impl_RankOf.f]
      rw [impl_isMask.eq, Option.bind_some, if_neg (by simpa using h)]
    · simp only [impl_RankOf.j0]
      rw [if_pos trivial]
/-! ### laws_FnSpread -/
theorem sprL_app (v L1 : List Int) : ∀ (L2 : List Int) (i : Nat) (o : List Int), i + L1.length ≤ v.length → sprL v (L1 ++ L2) i o = sprL v L2 (i + L1.length) (sprL v L1 i o) := by
  induction L1 with
  | nil => intro L2 i o _; rfl
  | cons b L1 ih =>
    intro L2 i o h
    rw [List.length_cons] at h
    rw [List.cons_append]
    simp only [sprL]
    rw [if_pos (by omega), if_pos (by omega), ih _ _ _ (by omega), List.length_cons, show i + 1 + L1.length = i + (L1.length + 1) by omega]
theorem spr_at (p : Nat → Bool) (g old : List Int) (hp : ∀ j, 8 ≤ j → p j = false) (ho : old.length = 8) (m : Nat) : cnt p m ≤ g.length → ∀ j : Nat, rd (sprL g (blp p m) 0 old) (j : Int) = if (p j && decide (j < m)) = true then rd g ((cnt p j : Nat) : Int) else rd old (j : Int) := by
  induction m with
  | zero =>
    intro _ j
    rw [decide_eq_false (by omega), Bool.and_false, if_neg (by decide)]
    rfl
  | succ m ih =>
    intro hc j
    have e : cnt p (m + 1) = cnt p m + if p m then 1 else 0 := rfl
    have ih := ih (by omega) j
    simp only [blp]
    rw [sprL_app _ _ _ _ _ (by rw [blp_len]; omega), Nat.zero_add, blp_len]
    by_cases hm : p m = true
    · have hm8 : m < 8 := by
        rcases Nat.lt_or_ge m 8 with h | h
        · exact h
        · rw [hp m h] at hm; cases hm
      rw [if_pos hm] at e
      rw [if_pos hm]
      simp only [sprL]
      rw [if_pos (by omega), Int.toNat_natCast]
      by_cases q : j = m
      · subst q
        rw [rd_set_self _ _ (by rw [sprL_len]; omega), hm, decide_eq_true (by omega), if_pos (by decide)]
      · rw [rd_set_ne _ _ q, ih]
        have hd : decide (j < m + 1) = decide (j < m) := decide_eq_decide.2 (by omega)
        rw [hd]
    · rw [if_neg hm]
      simp only [sprL]
      rw [ih]
      by_cases q : j = m
      · subst q
        rw [if_neg (by simp [hm]), if_neg (by simp [hm])]
      · have hd : decide (j < m + 1) = decide (j < m) := decide_eq_decide.2 (by omega)
        rw [hd]
theorem gath_get (v : List Int) {n : Nat} (hv : v.length = 8) (hn : n < 256) {j : Nat} (hj : j < 32) (hb : n.testBit j = true) : rd (gath v n) ((cnt n.testBit j : Nat) : Int) = rd v (j : Int) := by
  have h := blp_get n.testBit hj hb
  unfold gath
  rw [if_pos ⟨hv, hn⟩]
  show ((blp n.testBit 32).map (rd v)).getD ((cnt n.testBit j : Nat) : Int).toNat 0 = _
  rw [Int.toNat_natCast, List.getD_eq_getElem?_getD, List.getElem?_map, h]
  rfl
theorem spr_get (v old : List Int) {n : Nat} (hv : v.length = 8) (ho : old.length = 8) (hn : n < 256) {j : Nat} (hj : j < 8) : rd (spr old n (gath v n)) (j : Int) = if n.testBit j = true then rd v (j : Int) else rd old (j : Int) := by
  have hg : cnt n.testBit 32 ≤ (gath v n).length := by
    unfold gath
    rw [if_pos ⟨hv, hn⟩, List.length_map, blp_len]
    exact Nat.le_refl _
  have h := spr_at n.testBit (gath v n) old (fun i hi => mask_high hn hi) ho 32 hg j
  rw [decide_eq_true (by omega), Bool.and_true] at h
  unfold spr
  rw [if_pos ⟨ho, hn⟩, h]
  by_cases hb : n.testBit j = true
  · rw [if_pos hb, if_pos hb, gath_get v hv hn (by omega) hb]
  · rw [if_neg hb, if_neg hb]
theorem laws_FnSpread.loop (v old : List Int) (hv : v.length = 8) (ho : old.length = 8) (n : Nat) (hn : n < 256) (d : Nat) : ∀ i : Nat, i + d = 8 → Ev (fun k => laws_FnSpread.l0 k v (n : Int) old (gath v n) (spr old n (gath v n)) (i : Int)) true := by
  have hlo : (spr old n (gath v n)).length = 8 := by
    unfold spr
    rw [if_pos ⟨ho, hn⟩, sprL_len, ho]
  have hgl := gath_len v n
  induction d with
  | zero =>
    intro i hi
    have hg : gath (spr old n (gath v n)) n = gath v n := by
      have g1 : gath (spr old n (gath v n)) n = (blp n.testBit 32).map (rd (spr old n (gath v n))) := if_pos ⟨hlo, hn⟩
      have g2 : gath v n = (blp n.testBit 32).map (rd v) := if_pos ⟨hv, hn⟩
      refine g1.trans (Eq.trans ?_ g2.symm)
      refine List.map_congr_left fun x hx => ?_
      obtain ⟨j, hj, hb, rfl⟩ := (blp_mem _ _ _).1 hx
      have hj8 : j < 8 := by
        rcases Nat.lt_or_ge j 8 with h | h
        · exact h
        · rw [mask_high hn h] at hb; cases hb
      rw [spr_get v old hv ho hn hj8, if_pos hb]
    have hG : Ev (fun k => impl_Gather.f k (spr old n (gath v n)) (n : Int)) (gath v n) := (impl_Gather.ev _ n (by omega)).eq hg
    refine Ev.step (f := fun k => (impl_Gather.f k (spr old n (gath v n)) (n : Int)).bind fun t => (laws_same.f k t (gath v n)).bind fun u => some u) (fun k => ?_) (Ev.bind (f := fun k t => (laws_same.f k t (gath v n)).bind fun u => some u) hG (Ev.bind (f := fun _ u => some u) (laws_same.ev (gath v n) (by omega)) (Ev.now _)))
    simp only [laws_FnSpread.l0]
    rw [if_neg (by omega)]
  | succ d ih =>
    intro i hi
    have hr := impl_RankOf.ev n (by omega) (i : Int)
    have hs := spr_get v old hv ho hn (j := i) (by omega)
    refine Ev.step (f := fun k => (impl_RankOf.f k (n : Int) (i : Int)).bind fun t => if t ≥ 0 then (if 0 ≤ (i : Int) then (if (i : Int) < ((spr old n (gath v n)).length : Int) then (if (i : Int) < (v.length : Int) then (if rd (spr old n (gath v n)) (i : Int) = rd v (i : Int) then laws_FnSpread.l0 k v (n : Int) old (gath v n) (spr old n (gath v n)) (wrap64 ((i : Int) + 1)) else some false) else none) else none) else none) else (if 0 ≤ (i : Int) then (if (i : Int) < ((spr old n (gath v n)).length : Int) then (if (i : Int) < (old.length : Int) then (if rd (spr old n (gath v n)) (i : Int) = rd old (i : Int) then laws_FnSpread.l0 k v (n : Int) old (gath v n) (spr old n (gath v n)) (wrap64 ((i : Int) + 1)) else some false) else none) else none) else none)) (fun k => ?_)
      (Ev.bind (f := fun k t => if t ≥ 0 then (if 0 ≤ (i : Int) then (if (i : Int) < ((spr old n (gath v n)).length : Int) then (if (i : Int) < (v.length : Int) then (if rd (spr old n (gath v n)) (i : Int) = rd v (i : Int) then laws_FnSpread.l0 k v (n : Int) old (gath v n) (spr old n (gath v n)) (wrap64 ((i : Int) + 1)) else some false) else none) else none) else none) else (if 0 ≤ (i : Int) then (if (i : Int) < ((spr old n (gath v n)).length : Int) then (if (i : Int) < (old.length : Int) then (if rd (spr old n (gath v n)) (i : Int) = rd old (i : Int) then laws_FnSpread.l0 k v (n : Int) old (gath v n) (spr old n (gath v n)) (wrap64 ((i : Int) + 1)) else some false) else none) else none) else none)) hr (Ev.congr (fun k => ?_) (ih (i + 1) (by omega))))
    · simp only [laws_FnSpread.l0]
      rw [if_pos (by omega)]
    · by_cases hb : n.testBit i = true
      · have e : rk n (i : Int) = ((cnt n.testBit i : Nat) : Int) := by
          unfold rk
          rw [if_pos ⟨hn, by omega, by omega, by rw [Int.toNat_natCast]; exact hb⟩, Int.toNat_natCast]
        rw [if_pos hb] at hs
        rw [e, if_pos (by omega), if_pos (by omega), if_pos (by omega), if_pos (by omega), if_pos hs, w64_succ (by omega)]
      · have e : rk n (i : Int) = -1 := by
          unfold rk
          rw [if_neg (fun h => hb (by have := h.2.2.2; rw [Int.toNat_natCast] at this; exact this))]
        rw [if_neg hb] at hs
        rw [e, if_neg (by decide), if_pos (by omega), if_pos (by omega), if_pos (by omega), if_pos hs, w64_succ (by omega)]
theorem FnSpread : laws_FnSpread.Pure := by
  intro l _ _ hb
  by_cases hlen : l.length > 1048576
  · refine ⟨0, ?_⟩
    unfold laws_FnSpread.f
    rw [laws_big.eq, Option.bind_some, if_pos (by simpa using hlen)]
  · have hbig : laws_big.f l = some false := by rw [laws_big.eq, decide_eq_false hlen]
    have hw : wrap64 ((l.length : Int) / 2) = ((l.length / 2 : Nat) : Int) := by rw [w64 (by omega) (by omega)]; omega
    obtain ⟨v, n, d1, hn, hv9⟩ := spec_DrawGather.ok l (by omega) hb
    obtain ⟨old, m, d2, ho9⟩ := spec_DrawSpread.ok (l.drop (l.length / 2)) (by rw [List.length_drop]; omega) (fun x hx => hb x (List.mem_of_mem_drop hx))
    have hgl := gath_len v n
    have hs := laws_same.ev (gath v n) (by omega)
    have hi := impl_Gather.ev v n hn
    have hg := spec_Gather.ev v n hn
    have hh := spec_Highest.ev n hn
    have htop := top_mask hn
    have key0 : Ev (fun k => laws_FnSpread.j0 k v (n : Int) old (gath v n) true) true := by
      refine Ev.step (f := fun k => (spec_Gather.f k v (n : Int)).bind fun t => (laws_same.f k (gath v n) t).bind fun u => some u) (fun k => ?_) (Ev.bind (f := fun k t => (laws_same.f k (gath v n) t).bind fun u => some u) hg (Ev.bind (f := fun _ u => some u) hs (Ev.now _)))
      simp only [laws_FnSpread.j0]
      rw [if_pos trivial]
    have key1 : v.length = 8 → old.length = 8 → Ev (fun k => laws_FnSpread.j0 k v (n : Int) old (gath v n) (decide (top n.testBit 32 ≥ 8))) true := by
      intro hv ho
      by_cases h : n < 256
      · have hd : decide (top n.testBit 32 ≥ 8) = false := decide_eq_false (by have := htop.2 h; omega)
        rw [hd]
        have hlo : (spr old n (gath v n)).length = 8 := by
          unfold spr
          rw [if_pos ⟨ho, h⟩, sprL_len, ho]
        refine Ev.step (f := fun k => (impl_Spread.f k old (n : Int) (gath v n)).bind fun (t : List Int) => if (t.length : Int) = 8 then laws_FnSpread.l0 k v (n : Int) old (gath v n) t 0 else some false) (fun k => ?_) (Ev.bind (f := fun k (t : List Int) => if (t.length : Int) = 8 then laws_FnSpread.l0 k v (n : Int) old (gath v n) t 0 else some false) (impl_Spread.ev old n hn (gath v n)) (Ev.congr (fun k => ?_) (laws_FnSpread.loop v old hv ho n h 8 0 (by omega))))
        · simp only [laws_FnSpread.j0]
          rw [if_neg (by decide)]
        · rw [if_pos (by omega)]
          rfl
      · have hd : decide (top n.testBit 32 ≥ 8) = true := decide_eq_true (by
          have : ¬ top n.testBit 32 < 8 := fun h2 => h (htop.1 h2)
          omega)
        rw [hd]
        exact key0
    by_cases hv : v.length = 8
    · by_cases ho : old.length = 8
      · obtain ⟨k, e1, e2, e3, e4, e5, e6, e7⟩ := (d1.and (d2.and (hi.and (hg.and (hs.and (hh.and (key1 hv ho).last)))))).pick
        refine ⟨k, ?_⟩
        unfold laws_FnSpread.f
        rw [hbig, Option.bind_some, if_neg (by decide), e1, Option.bind_some, hw, if_pos (by omega), if_pos (by omega), Int.toNat_natCast, e2, Option.bind_some, e3, Option.bind_some, e4, Option.bind_some, e5, Option.bind_some, if_pos rfl]
        dsimp only
        rw [if_pos (by omega), if_pos (by omega), e6, Option.bind_some]
        exact e7
      · obtain ⟨k, e1, e2, e3, e4, e5, e7⟩ := (d1.and (d2.and (hi.and (hg.and (hs.and key0.last))))).pick
        refine ⟨k, ?_⟩
        unfold laws_FnSpread.f
        rw [hbig, Option.bind_some, if_neg (by decide), e1, Option.bind_some, hw, if_pos (by omega), if_pos (by omega), Int.toNat_natCast, e2, Option.bind_some, e3, Option.bind_some, e4, Option.bind_some, e5, Option.bind_some, if_pos rfl]
        dsimp only
        rw [if_pos (by omega), if_neg (by omega)]
        exact e7
    · obtain ⟨k, e1, e2, e3, e4, e5, e7⟩ := (d1.and (d2.and (hi.and (hg.and (hs.and key0.last))))).pick
      refine ⟨k, ?_⟩
      unfold laws_FnSpread.f
      rw [hbig, Option.bind_some, if_neg (by decide), e1, Option.bind_some, hw, if_pos (by omega), if_pos (by omega), Int.toNat_natCast, e2, Option.bind_some, e3, Option.bind_some, e4, Option.bind_some, e5, Option.bind_some, if_pos rfl]
      dsimp only
      rw [if_neg (by omega)]
      exact e7

end Go.Proofs.Ytllidkccikmgiaa.Pure
