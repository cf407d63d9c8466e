/-
  The law FnGroups: what both programs compute, in plain Lean, and that it is the same.
  Conditions: none beyond those of the statement itself.
-/
import Derived.Test.YtklgbopdhomnaaaDoorPFnGroupsx5
import Derived.Test.YtklgbopdhomnaaaDoorLib
namespace Go.Proofs.YtklgbopdhomnaaaDoor.Pure
open Go.RowKit Go.Proofs.YtklgbopdhomnaaaDoor.PFnGroups Go.Proofs.YtklgbopdhomnaaaDoorW.PrintWords Go.Proofs.YtklgbopdhomnaaaDoorW.PrintLast

/-! ### laws_big -/
theorem laws_big.eq (l : List Int) : laws_big.f l = some (decide (l.length > 1048576)) := by
  unfold laws_big.f
  congr 1
  exact decide_eq_decide.2 (by omega)
/-! ### spec_l01Open -/
theorem spec_l01Open.ok (l : List Int) (hl : l.length ≤ 1048576) (hb : ∀ x ∈ l, (Lit.int .u8 x).wf = true) : ∃ s : Int, spec_l01Open.f l = some (l, 0, s) ∧ CurOk l 0 s 0 :=
  ⟨_, rfl, fun x hx => bounds_u8 (hb x hx), hl, by omega, by omega, by omega, by omega⟩
/-! ### spec_l01Cur_pick -/
theorem spec_l01Cur_pick.ok {l : List Int} {a s : Int} {N : Nat} (h : CurOk l a s N) (hN : N ≤ 1000000000) (n : Int) (hn : n ≤ 4294967296) : ∃ v a' s' : Int, spec_l01Cur_pick.f l a s n = some (v, a', s') ∧ CurOk l a' s' (N + 1) ∧ 0 ≤ v ∧ (v = 0 ∨ v < n) := by
  obtain ⟨hb, hl, ha0, ha1, hs0, hs1⟩ := h
  unfold spec_l01Cur_pick.f
  by_cases h2 : n < 2
  · rw [if_pos h2]
    exact ⟨0, a, s, rfl, ⟨hb, hl, ha0, by omega, hs0, hs1⟩, by omega, .inl rfl⟩
  · rw [if_neg h2]
    by_cases h3 : a < (l.length : Int)
    · have hr := rd_all hb ha0 h3
      have ht := tmod_range (x := wrap64 (rd l a)) (m := n) (by rw [w64 (by omega) (by omega)]; omega) (by omega)
      rw [if_pos h3, if_pos ha0, if_neg (by omega)]
      refine ⟨_, _, _, rfl, ⟨hb, hl, ?_, ?_, hs0, hs1⟩, ht.1, .inr ht.2⟩
      · rw [w64 (by omega) (by omega)]; omega
      · rw [w64 (by omega) (by omega)]; omega
    · rw [if_neg h3]
      have hsd := seed_next hs0 hs1
      by_cases h4 : (l.length : Int) > 0
      · have hi := tmod_range (x := a) (m := (l.length : Int)) ha0 h4
        have hr := rd_all hb hi.1 hi.2
        rw [if_pos h4, if_neg (by omega), if_pos hi.1, if_pos hi.2, if_neg (by omega)]
        generalize Int.tmod (wrap64 ((wrap64 (s * 1103)) + 12345)) 65521 = s2 at hsd ⊢
        generalize rd l (Int.tmod a (l.length : Int)) = x at hr ⊢
        have e : wrap64 ((wrap64 (Int.tdiv s2 7)) + (wrap64 x)) = s2 / 7 + x := by
          rw [Int.tdiv_eq_ediv_of_nonneg hsd.1, w64 (x := s2 / 7) (by omega) (by omega), w64 (x := x) (by omega) (by omega), w64 (by omega) (by omega)]
        have ht := tmod_range (x := wrap64 ((wrap64 (Int.tdiv s2 7)) + (wrap64 x))) (m := n) (by rw [e]; omega) (by omega)
        refine ⟨_, _, _, rfl, ⟨hb, hl, ?_, ?_, hsd.1, hsd.2⟩, ht.1, .inr ht.2⟩
        · rw [w64 (by omega) (by omega)]; omega
        · rw [w64 (by omega) (by omega)]; omega
      · rw [if_neg h4, if_neg (by omega)]
        refine ⟨_, _, _, rfl, ⟨hb, hl, ?_, ?_, hsd.1, hsd.2⟩, ?_, .inl ?_⟩
        · rw [w64 (by omega) (by omega)]; omega
        · rw [w64 (by omega) (by omega)]; omega
        · simp
        · simp
/-! ### spec_l01Cur_once -/
theorem spec_l01Cur_once.ok {l : List Int} {a s : Int} {N : Nat} (h : CurOk l a s N) (hN : N ≤ 100000000) (n : Int) (hn : n ≤ 4294967296) : ∃ (b : Bool) (a' s' : Int), spec_l01Cur_once.f l a s n = some (b, a', s') ∧ CurOk l a' s' (N + 1) := by
  obtain ⟨v, a1, s1, e1, c1, _, _⟩ := spec_l01Cur_pick.ok h (by omega) n hn
  exact ⟨v == wrap64 (n - 1), a1, s1, by simp only [spec_l01Cur_once.f, e1, Option.bind_some], c1⟩
/-! ### spec_l01Cur_row -/
theorem spec_l01Cur_row.loop (l : List Int) (top : Int) (ht : top ≤ 1000) (d : Nat) : ∀ (acc : List Int) (a s : Int) (N i : Nat), i + d = 8 → CurOk l a s N → N + d ≤ 1000000 → acc.length = i → ∃ (r : List Int) (a' s' : Int), Ev (fun k => spec_l01Cur_row.l0 k acc top (i : Int) l a s) (r, a', s') ∧ CurOk l a' s' (N + d + 2) ∧ r.length ≤ 9 := by
  induction d with
  | zero =>
    intro acc a s N i hi h hN hacc
    obtain ⟨b, a1, s1, e1, c1⟩ := spec_l01Cur_once.ok h (by omega) 12 (by omega)
    by_cases hb : b = true
    · obtain ⟨v, a2, s2, e2, c2, h2, g2⟩ := spec_l01Cur_pick.ok c1 (by omega) 3 (by omega)
      refine ⟨(acc ++ [1]).drop v.toNat, a2, s2, Ev.stop fun k => ?_, c2.more (by omega), by simp; omega⟩
      simp only [spec_l01Cur_row.l0]
      rw [if_neg (by omega), e1, Option.bind_some, if_pos hb, if_pos (by omega), Option.bind_some, e2, Option.bind_some, if_pos h2, if_pos (by rw [List.length_append, List.length_singleton]; omega)]
    · refine ⟨acc, a1, s1, Ev.stop fun k => ?_, c1.more (by omega), by omega⟩
      simp only [spec_l01Cur_row.l0]
      rw [if_neg (by omega), e1, Option.bind_some, if_neg hb]
  | succ d ih =>
    intro acc a s N i hi h hN hacc
    obtain ⟨v, a1, s1, e1, c1, h1, g1⟩ := spec_l01Cur_pick.ok h (by omega) top (by omega)
    obtain ⟨r, a2, s2, e2, c2, h2⟩ := ih (acc ++ [v]) a1 s1 (N + 1) (i + 1) (by omega) c1 (by omega) (by rw [List.length_append, List.length_singleton]; omega)
    refine ⟨r, a2, s2, Ev.step (fun k => ?_) e2, c2.more (by omega), h2⟩
    simp only [spec_l01Cur_row.l0]
    rw [if_pos (by omega), e1, Option.bind_some, if_pos (by omega), w64_succ (by omega)]
theorem spec_l01Cur_row.ok {l : List Int} {a s : Int} {N : Nat} (h : CurOk l a s N) (hN : N ≤ 900000) : ∃ (r : List Int) (a' s' : Int), Ev (fun k => spec_l01Cur_row.f k l a s) (r, a', s') ∧ CurOk l a' s' (N + 11) ∧ r.length ≤ 9 := by
  obtain ⟨v, a1, s1, e1, c1, h1, g1⟩ := spec_l01Cur_pick.ok h (by omega) 3 (by omega)
  have ht : rd [2, 4, 40] v ≤ 1000 := rd_all (P := fun x => x ≤ 1000) (fun x hx => by
    simp only [List.mem_cons, List.not_mem_nil, or_false] at hx
    omega) h1 (by simp only [List.length_cons, List.length_nil]; omega)
  obtain ⟨r, a2, s2, e2, c2, h2⟩ := spec_l01Cur_row.loop l (rd [2, 4, 40] v) ht 8 [] a1 s1 (N + 1) 0 (by omega) c1 (by omega) rfl
  refine ⟨r, a2, s2, Ev.congr (fun k => ?_) e2, c2.more (by omega), h2⟩
  simp only [spec_l01Cur_row.f]
  rw [Option.bind_some, e1, Option.bind_some, if_pos h1, if_pos (by simp only [List.length_cons, List.length_nil]; omega)]
  rfl
/-! ### spec_l01Cur_wide -/
theorem spec_l01Cur_wide.ok {l : List Int} {a s : Int} {N : Nat} (h : CurOk l a s N) (hN : N ≤ 100000000) (n : Int) (hn0 : 0 < n) : ∃ v a' s' : Int, spec_l01Cur_wide.f l a s n = some (v, a', s') ∧ CurOk l a' s' (N + 3) ∧ 0 ≤ v ∧ v < n := by
  obtain ⟨v1, a1, s1, e1, c1, h1, g1⟩ := spec_l01Cur_pick.ok h (by omega) 256 (by omega)
  obtain ⟨v2, a2, s2, e2, c2, h2, g2⟩ := spec_l01Cur_pick.ok c1 (by omega) 256 (by omega)
  obtain ⟨v3, a3, s3, e3, c3, h3, g3⟩ := spec_l01Cur_pick.ok c2 (by omega) 256 (by omega)
  have e : wrap64 ((wrap64 ((wrap64 (65536 * v1)) + (wrap64 (256 * v2)))) + v3) = 65536 * v1 + 256 * v2 + v3 := by
    rw [w64 (x := 65536 * v1) (by omega) (by omega), w64 (x := 256 * v2) (by omega) (by omega), w64 (x := 65536 * v1 + 256 * v2) (by omega) (by omega), w64 (by omega) (by omega)]
  have ht := tmod_range (x := 65536 * v1 + 256 * v2 + v3) (m := n) (by omega) hn0
  refine ⟨_, _, _, ?_, c3, ht.1, ht.2⟩
  simp only [spec_l01Cur_wide.f, e1, e2, e3, Option.bind_some, e]
  rw [if_neg (by omega)]
/-! ### spec_l01Cur_word -/
theorem spec_l01Cur_word.ok {l : List Int} {a s : Int} {N : Nat} (h : CurOk l a s N) (hN : N ≤ 10000000) : ∃ v a' s' : Int, spec_l01Cur_word.f l a s = some (v, a', s') ∧ CurOk l a' s' (N + 5) ∧ U32 v := by
  obtain ⟨v1, a1, s1, e1, c1, h1, g1⟩ := spec_l01Cur_pick.ok h (by omega) 256 (by omega)
  obtain ⟨v2, a2, s2, e2, c2, h2, g2⟩ := spec_l01Cur_wide.ok c1 (by omega) 16777216 (by omega)
  obtain ⟨v3, a3, s3, e3, c3, h3, g3⟩ := spec_l01Cur_pick.ok c2 (by omega) 7 (by omega)
  simp only [spec_l01Cur_word.f, e1, e2, e3, Option.bind_some, List.length_cons, List.length_nil]
  rw [if_pos h3, if_pos (by omega)]
  refine ⟨_, _, _, rfl, c3.more (by omega), rd_all (P := U32) ?_ h3 (by simp only [List.length_cons, List.length_nil]; omega)⟩
  intro x hx
  unfold U32
  simp only [List.mem_cons, List.not_mem_nil, or_false] at hx
  omega
/-! ### spec_l01Cur_mask -/
theorem spec_l01Cur_mask.ok {l : List Int} {a s : Int} {N : Nat} (h : CurOk l a s N) (hN : N ≤ 900000) : ∃ (n : Nat) (a' s' : Int), spec_l01Cur_mask.f l a s = some ((n : Int), a', s') ∧ CurOk l a' s' (N + 6) ∧ n < 2 ^ 32 := by
  obtain ⟨b, a1, s1, e1, c1⟩ := spec_l01Cur_once.ok h (by omega) 12 (by omega)
  by_cases hb : b = true
  · obtain ⟨v2, a2, s2, e2, c2, h2⟩ := spec_l01Cur_word.ok c1 (by omega)
    obtain ⟨n, rfl, hn⟩ := u32_of h2
    exact ⟨n, a2, s2, by simp only [spec_l01Cur_mask.f, e1, e2, Option.bind_some, if_pos hb], c2.more (by omega), hn⟩
  · obtain ⟨v2, a2, s2, e2, c2, h2, g2⟩ := spec_l01Cur_pick.ok c1 (by omega) 256 (by omega)
    obtain ⟨n, rfl⟩ : ∃ n : Nat, v2 = n := ⟨v2.toNat, by omega⟩
    have e : (n : Int) % 4294967296 = n := by omega
    exact ⟨n, a2, s2, by simp only [spec_l01Cur_mask.f, e1, e2, Option.bind_some, if_neg hb, e], c2.more (by omega), by omega⟩
/-! ### spec_DrawGroups -/
theorem spec_DrawGroups.ok (l : List Int) (hl : l.length ≤ 1048576) (hb : ∀ x ∈ l, (Lit.int .u8 x).wf = true) : ∃ (v : List Int) (n : Nat), Ev (fun k => spec_DrawGroups.f k l) (v, (n : Int)) ∧ n < 2 ^ 32 ∧ v.length ≤ 9 := by
  obtain ⟨s0, e0, c0⟩ := spec_l01Open.ok l hl hb
  obtain ⟨r, a1, s1, ⟨K, hK⟩, c1, h1⟩ := spec_l01Cur_row.ok c0 (by omega)
  obtain ⟨n, a2, s2, e2, c2, h2⟩ := spec_l01Cur_mask.ok c1 (by omega)
  refine ⟨r, n, ⟨K, fun k hk => ?_⟩, h2, h1⟩
  have e1 : spec_l01Cur_row.f k l 0 s0 = some (r, a1, s1) := hK k hk
  show spec_DrawGroups.f k l = _
  unfold spec_DrawGroups.f
  rw [e0, Option.bind_some, e1, Option.bind_some, e2, Option.bind_some]
/-! ### impl_isMask -/
theorem impl_isMask.eq (n : Nat) : impl_isMask.f (n : Int) = some (decide (n < 256)) := by
  unfold impl_isMask.f
  have : ((n : Int) < 256) ↔ n < 256 := by omega
  simp only [this]
/-! ### impl_BitList -/
theorem impl_BitList.loop (n : Nat) (hn : n < 2 ^ 32) (d : Nat) : ∀ i : Nat, i + d = 32 → Ev (fun k => impl_BitList.l0 k (n : Int) (blp n.testBit i) (i : Int)) (blp n.testBit 32) := by
  induction d with
  | zero =>
    intro i hi
    obtain rfl : i = 32 := by omega
    refine Ev.stop fun k => ?_
    simp only [impl_BitList.l0]
    rw [if_neg (by omega)]
  | succ d ih =>
    intro i hi
    refine Ev.step (f := fun k => impl_BitList.l0 k (n : Int) (blp n.testBit (i + 1)) ((i + 1 : Nat) : Int)) (fun k => ?_) (ih (i + 1) (by omega))
    have hlen := blp_len_le n.testBit i
    simp only [impl_BitList.l0]
    rw [if_pos (by omega), if_pos (by omega), bit_at hn (by omega : i ≤ 32), w64_succ (by omega)]
    by_cases hp : n.testBit i = true
    · rw [if_pos hp, if_pos rfl, if_pos (by omega)]
      simp only [blp, if_pos hp]
    · rw [if_neg hp, if_neg (by decide)]
      simp only [blp, if_neg hp, List.append_nil]
theorem impl_BitList.ev (n : Nat) (hn : n < 2 ^ 32) : Ev (fun k => impl_BitList.f k (n : Int)) (blp n.testBit 32) :=
  Ev.congr (fun _ => rfl) (impl_BitList.loop n hn 32 0 rfl)
/-! ### bits_TrailingZeros32 -/
theorem bits_TrailingZeros32.eq (n : Nat) (hn : n < 2 ^ 32) : bits_TrailingZeros32.f (n : Int) = some ((Go.Lib.ctz 32 n : Nat) : Int) := by
  unfold bits_TrailingZeros32.f
  rw [if_pos (by omega), Int.toNat_natCast]
/-! ### impl_Lowest -/
theorem impl_Lowest.eq (n : Nat) (hn : n < 2 ^ 32) : impl_Lowest.f (n : Int) = some (low n) := by
  unfold impl_Lowest.f low
  by_cases h : n = 0
  · rw [if_pos (by omega), if_pos h]
  · rw [if_neg (by omega), if_neg h, bits_TrailingZeros32.eq n hn, Option.bind_some]
/-! ### impl_groupOf -/
theorem impl_groupOf.loop (v : List Int) (hv : v.length = 8) (n : Nat) (hn : n < 256) (d : Nat) : ∀ i : Nat, i + d = (blp n.testBit 32).length → Ev (fun k => impl_groupOf.l0 k v (n : Int) ((wd (fun j => decide ((j : Int) ∈ ((blp n.testBit 32).take i).filter (lik v n))) 32 : Nat) : Int) (blp n.testBit 32) ((blp n.testBit 32).length : Int) (i : Int)) ((wd (grp v n) 32 : Nat) : Int) := by
  have hlen := blp_len_le n.testBit 32
  induction d with
  | zero =>
    intro i hi
    have e : wd (fun j => decide ((j : Int) ∈ ((blp n.testBit 32).take i).filter (lik v n))) 32 = wd (grp v n) 32 := wd_congr fun j hj => by
      rw [List.take_of_length_le (by omega), grp_filter]
      by_cases h : grp v n j = true
      · rw [h, decide_eq_true ((blp_mem _ _ _).2 ⟨j, hj, h, rfl⟩)]
      · have h' : grp v n j = false := by simpa using h
        rw [h', decide_eq_false]
        intro h2
        obtain ⟨j', _, h3, h4⟩ := (blp_mem _ _ _).1 h2
        obtain rfl : j = j' := by omega
        exact h h3
    rw [e]
    refine Ev.stop fun k => ?_
    simp only [impl_groupOf.l0]
    rw [if_neg (by omega)]
  | succ d ih =>
    intro i hi
    obtain ⟨j0, hj0, _, _, hr⟩ := blp_rd_lt n.testBit (m := 32) (i := i) (by omega)
    obtain ⟨b0, b1⟩ := mask_blp_lt hn (i := i) (by omega)
    rw [hr] at b0 b1
    obtain ⟨l0, l1, _⟩ := low_lane hn (nonzero_of_len (n := n) (by omega))
    have hft := filter_take_succ (lik v n) (blp n.testBit 32) (i := i) (by omega)
    rw [hr] at hft
    refine Ev.step (f := fun k => impl_groupOf.l0 k v (n : Int) ((wd (fun j => decide ((j : Int) ∈ ((blp n.testBit 32).take (i + 1)).filter (lik v n))) 32 : Nat) : Int) (blp n.testBit 32) ((blp n.testBit 32).length : Int) ((i + 1 : Nat) : Int)) (fun k => ?_) (ih (i + 1) (by omega))
    simp only [impl_groupOf.l0]
    rw [if_pos (by omega), if_pos (by omega), if_pos (by omega), hr, if_pos (by omega), if_pos (by omega), impl_Lowest.eq n (by omega), Option.bind_some, if_pos l0, if_pos (by omega), w64_succ (by omega)]
    by_cases hq : rd v (j0 : Int) = rd v (low n)
    · have hq' : lik v n (j0 : Int) = true := decide_eq_true hq
      rw [if_pos hq'] at hft
      have e : wd (fun j => decide ((j : Int) ∈ ((blp n.testBit 32).take i).filter (lik v n)) || j == j0) 32 = wd (fun j => decide ((j : Int) ∈ ((blp n.testBit 32).take (i + 1)).filter (lik v n))) 32 := wd_congr fun j _ => by
        rw [hft, Bool.eq_iff_iff]
        have he : ((j : Int) = (j0 : Int)) ↔ j = j0 := by omega
        simp only [Bool.or_eq_true, decide_eq_true_eq, beq_iff_eq, List.mem_append, List.mem_singleton, he]
      rw [if_pos hq, shl_one hj0, or_nat (wd_lt32 _) (two_pow_lt hj0), wd_or _ hj0, e]
    · have hq' : ¬ lik v n (j0 : Int) = true := fun h => hq (of_decide_eq_true h)
      rw [if_neg hq', List.append_nil] at hft
      rw [if_neg hq, hft]
theorem impl_groupOf.ev (v : List Int) (hv : v.length = 8) (n : Nat) (hn : n < 256) : Ev (fun k => impl_groupOf.f k v (n : Int)) ((wd (grp v n) 32 : Nat) : Int) := by
  have h := impl_groupOf.loop v hv n hn (blp n.testBit 32).length 0 (by omega)
  have e : wd (fun j => decide ((j : Int) ∈ ((blp n.testBit 32).take 0).filter (lik v n))) 32 = 0 := (wd_congr fun j _ => by simp).trans (wd_false 32)
  rw [e] at h
  exact Ev.bind (f := fun k t => impl_groupOf.l0 k v (n : Int) 0 t (t.length : Int) 0) (impl_BitList.ev n (by omega)) h
/-! ### impl_Groups -/
theorem impl_Groups.loop (v : List Int) (hv : v.length = 8) (d : Nat) : ∀ (n : Nat) (o : List Int), n < 256 → cnt n.testBit 32 ≤ d → o.length + d ≤ 64 → Ev (fun k => impl_Groups.l0 k v (n : Int) o) (o ++ gps v d n) := by
  induction d with
  | zero =>
    intro n o hn hc ho
    have h0 := cnt_zero (n := n) (by omega) (by omega)
    subst h0
    refine Ev.stop fun k => ?_
    simp only [impl_Groups.l0, gps]
    rw [if_pos (by omega), List.append_nil]
  | succ d ih =>
    intro n o hn hc ho
    simp only [gps]
    by_cases h0 : n = 0
    · rw [if_pos h0, List.append_nil]
      refine Ev.stop fun k => ?_
      simp only [impl_Groups.l0]
      rw [if_pos (by omega)]
    · have hr := rst_cnt v (n := n) (by omega) h0
      have h := ih (rst v n) (o ++ [((wd (grp v n) 32 : Nat) : Int)]) (rst_lt v hn) (by omega) (by simp; omega)
      have e : wd (fun j => n.testBit j && !(wd (grp v n) 32).testBit j) 32 = rst v n := wd_congr fun j hj => by rw [wd_bits_eq hj]
      rw [List.append_assoc, List.singleton_append] at h
      rw [if_neg h0]
      refine Ev.step (f := fun k => (impl_groupOf.f k v (n : Int)).bind fun t => if o.length < 35184372088832 then impl_Groups.l0 k v (Go.bits .andNot .u32 (n : Int) t) (o ++ [t]) else none) (fun k => ?_) (Ev.bind (f := fun k t => if o.length < 35184372088832 then impl_Groups.l0 k v (Go.bits .andNot .u32 (n : Int) t) (o ++ [t]) else none) (impl_groupOf.ev v hv n hn) (Ev.congr (fun k => ?_) h))
      · simp only [impl_Groups.l0]
        rw [if_neg (by omega)]
      · rw [if_pos (by omega), andNot_nat (by omega) (wd_lt32 _), e]
theorem impl_Groups.ev (v : List Int) (n : Nat) : Ev (fun k => impl_Groups.f k v (n : Int)) (if v.length = 8 ∧ n < 256 then gps v 32 n else []) := by
  have hout : Ev (fun k => impl_Groups.j0 k v (n : Int) true) [] := Ev.stop fun k => by
    simp only [impl_Groups.j0]
    rw [if_pos trivial]
  by_cases h : n < 256
  · refine Ev.congr (f := fun k => impl_Groups.j0 k v (n : Int) ((v.length : Int) != 8)) (fun k => ?_) ?_
    · simp only [impl_Groups.f]
      rw [impl_isMask.eq, Option.bind_some, if_pos (by simpa using h)]
    · by_cases h8 : v.length = 8
      · have e : ((v.length : Int) != 8) = false := by simp [h8]
        rw [if_pos ⟨h8, h⟩, e]
        refine Ev.step (fun k => ?_) (impl_Groups.loop v h8 32 n [] h (cnt_le _ _) (by simp))
        simp only [impl_Groups.j0]
        rw [if_neg (by decide)]
      · have e : ((v.length : Int) != 8) = true := by simp; omega
        rw [if_neg (fun h2 => h8 h2.1), e]
        exact hout
  · rw [if_neg (fun h2 => h h2.2)]
    refine Ev.congr (f := fun k => impl_Groups.j0 k v (n : Int) true) (fun k => ?_) hout
    simp only [impl_Groups.f]
    rw [impl_isMask.eq, Option.bind_some, if_neg (by simpa using h)]
/-! ### spec_l03Row -/
theorem spec_l03Row.eq (l : List Int) : spec_l03Row.f l = some (decide (l.length = 8)) := by
  unfold spec_l03Row.f
  congr 1
  rw [Bool.eq_iff_iff]
  simp
  omega
/-! ### spec_l01Bits -/
theorem spec_l01Bits.loop (n : Nat) (hn : n < 2 ^ 32) (d : Nat) : ∀ i : Nat, i + d = 32 → Ev (fun k => spec_l01Bits.l0 k ((n / 2 ^ i : Nat) : Int) (btl n.testBit i) (i : Int)) (btl n.testBit 32) := by
  induction d with
  | zero =>
    intro i hi
    obtain rfl : i = 32 := by omega
    refine Ev.stop fun k => ?_
    simp only [spec_l01Bits.l0]
    rw [if_neg (by omega)]
  | succ d ih =>
    intro i hi
    refine Ev.step (f := fun k => spec_l01Bits.l0 k ((n / 2 ^ (i + 1) : Nat) : Int) (btl n.testBit (i + 1)) ((i + 1 : Nat) : Int)) (fun k => ?_) (ih (i + 1) (by omega))
    have hlen := btl_len n.testBit i
    have hlt := div_lt hn i
    have e1 : Int.tdiv ((n / 2 ^ i : Nat) : Int) 2 % 4294967296 = ((n / 2 ^ (i + 1) : Nat) : Int) := by
      rw [Int.tdiv_eq_ediv_of_nonneg (Int.natCast_nonneg _), Nat.pow_succ, ← Nat.div_div_eq_div_mul]
      generalize n / 2 ^ i = y at hlt ⊢
      omega
    have e2 : wrap64 (Int.tmod ((n / 2 ^ i : Nat) : Int) 2) = if n.testBit i = true then 1 else 0 := by
      rw [Int.tmod_eq_emod_of_nonneg (Int.natCast_nonneg _), Nat.testBit_eq_decide_div_mod_eq]
      have h := Nat.mod_two_eq_zero_or_one (n / 2 ^ i)
      have h2 : ((n / 2 ^ i : Nat) : Int) % 2 = ((n / 2 ^ i % 2 : Nat) : Int) := (Int.natCast_emod _ _).symm
      rw [h2]
      rcases h with h | h
      · rw [h]; exact wrap64_0
      · rw [h]; exact wrap64_1
    simp only [spec_l01Bits.l0]
    rw [if_pos (by omega), if_pos (by omega), w64_succ (by omega), e1, e2, btl_succ]
theorem spec_l01Bits.ev (n : Nat) (hn : n < 2 ^ 32) : Ev (fun k => spec_l01Bits.f k (n : Int)) (btl n.testBit 32) := by
  have h := spec_l01Bits.loop n hn 32 0 rfl
  rw [Nat.pow_zero, Nat.div_one] at h
  exact Ev.congr (fun _ => rfl) h
/-! ### spec_BitList -/
theorem spec_BitList.loop (p : Nat → Bool) (d : Nat) : ∀ i : Nat, i + d = 32 → Ev (fun k => spec_BitList.l0 k (blp p i) (btl p 32) (i : Int)) (blp p 32) := by
  induction d with
  | zero =>
    intro i hi
    obtain rfl : i = 32 := by omega
    refine Ev.stop fun k => ?_
    simp only [spec_BitList.l0]
    rw [if_neg (by omega)]
  | succ d ih =>
    intro i hi
    refine Ev.step (f := fun k => spec_BitList.l0 k (blp p (i + 1)) (btl p 32) ((i + 1 : Nat) : Int)) (fun k => ?_) (ih (i + 1) (by omega))
    have hlen := blp_len_le p i
    have hlen2 := btl_len p 32
    simp only [spec_BitList.l0]
    rw [if_pos (by omega), if_pos (by omega), if_pos (by omega), btl_rd p (by omega : i < 32), w64_succ (by omega)]
    by_cases hp : p i = true
    · rw [if_pos hp, if_pos rfl, if_pos (by omega)]
      simp only [blp, if_pos hp]
    · rw [if_neg hp, if_neg (by decide)]
      simp only [blp, if_neg hp, List.append_nil]
theorem spec_BitList.ev (n : Nat) (hn : n < 2 ^ 32) : Ev (fun k => spec_BitList.f k (n : Int)) (blp n.testBit 32) :=
  Ev.bind (spec_l01Bits.ev n hn) (spec_BitList.loop n.testBit 32 0 rfl)
/-! ### spec_Highest -/
theorem spec_Highest.ev (n : Nat) (hn : n < 2 ^ 32) : Ev (fun k => spec_Highest.f k (n : Int)) (top n.testBit 32) := by
  have hlen := blp_len_le n.testBit 32
  refine Ev.congr (fun _ => rfl) (Ev.bind (spec_BitList.ev n hn) ?_)
  by_cases h : (blp n.testBit 32).length = 0
  · rw [blp_empty _ _ h]
    refine Ev.const ?_
    rw [if_pos (by omega)]
  · obtain ⟨h1, _⟩ := blp_last n.testBit 32 h
    refine Ev.const ?_
    rw [if_neg (by omega), w64 (by omega) (by omega), if_pos (by omega), if_pos (by omega), h1]
/-! ### spec_l03Mask -/
theorem spec_l03Mask.ev (n : Nat) (hn : n < 2 ^ 32) : Ev (fun k => spec_l03Mask.f k (n : Int)) (decide (n < 256)) := by
  have h : Ev (fun k => spec_l03Mask.f k (n : Int)) (decide (top n.testBit 32 < 8)) := Ev.bind (f := fun _ (t : Int) => some (decide (t < 8))) (spec_Highest.ev n hn) (Ev.now _)
  have e : decide (top n.testBit 32 < 8) = decide (n < 256) := decide_eq_decide.2 (top_mask hn)
  rw [e] at h
  exact h
/-! ### spec_l03Alike -/
theorem spec_l03Alike.loop (v : List Int) (hv : v.length = 8) (n : Nat) (hn : n < 256) (d : Nat) : ∀ i : Nat, i + d = (blp n.testBit 32).length → Ev (fun k => spec_l03Alike.l0 k v (blp n.testBit 32) (((blp n.testBit 32).take i).filter (lik v n)) (i : Int)) (blp (grp v n) 32) := by
  have hlen := blp_len_le n.testBit 32
  induction d with
  | zero =>
    intro i hi
    rw [List.take_of_length_le (by omega), grp_filter]
    refine Ev.stop fun k => ?_
    simp only [spec_l03Alike.l0]
    rw [if_neg (by omega)]
  | succ d ih =>
    intro i hi
    obtain ⟨b0, b1⟩ := mask_blp_lt hn (i := i) (by omega)
    obtain ⟨l0, l1, l2⟩ := low_lane hn (nonzero_of_len (n := n) (by omega))
    have hft := filter_take_succ (lik v n) (blp n.testBit 32) (i := i) (by omega)
    have hfl : (((blp n.testBit 32).take i).filter (lik v n)).length ≤ 32 := by
      have h1 := List.length_filter_le (lik v n) ((blp n.testBit 32).take i)
      rw [List.length_take] at h1
      omega
    refine Ev.step (f := fun k => spec_l03Alike.l0 k v (blp n.testBit 32) (((blp n.testBit 32).take (i + 1)).filter (lik v n)) ((i + 1 : Nat) : Int)) (fun k => ?_) (ih (i + 1) (by omega))
    simp only [spec_l03Alike.l0]
    rw [if_pos (by omega), if_pos (by omega), if_pos (by omega), if_pos (by omega), if_pos (by omega), l2, if_pos (by omega), if_pos (by omega), w64_succ (by omega)]
    by_cases hq : rd v (rd (blp n.testBit 32) (i : Int)) = rd v (low n)
    · have hq' : lik v n (rd (blp n.testBit 32) (i : Int)) = true := decide_eq_true hq
      rw [if_pos hq'] at hft
      rw [if_pos hq, if_pos (by omega), hft]
    · have hq' : ¬ lik v n (rd (blp n.testBit 32) (i : Int)) = true := fun h => hq (of_decide_eq_true h)
      rw [if_neg hq', List.append_nil] at hft
      rw [if_neg hq, hft]
theorem spec_l03Alike.ev (v : List Int) (hv : v.length = 8) (n : Nat) (hn : n < 256) : Ev (fun k => spec_l03Alike.f k v (blp n.testBit 32)) (blp (grp v n) 32) :=
  Ev.congr (fun _ => rfl) (spec_l03Alike.loop v hv n hn (blp n.testBit 32).length 0 (by omega))
/-! ### spec_l01Word -/
theorem spec_l01Word.loop (p : Nat → Bool) : ∀ j : Nat, j ≤ 32 → Ev (fun k => spec_l01Word.l0 k (btl p 32) ((wd p 32 / 2 ^ j : Nat) : Int) ((j : Int) - 1)) ((wd p 32 : Nat) : Int) := by
  intro j
  induction j with
  | zero =>
    intro _
    refine Ev.stop fun k => ?_
    simp only [spec_l01Word.l0]
    rw [if_neg (by omega), Nat.pow_zero, Nat.div_one]
  | succ j ih =>
    intro hj
    refine Ev.step (f := fun k => spec_l01Word.l0 k (btl p 32) ((wd p 32 / 2 ^ j : Nat) : Int) ((j : Int) - 1)) (fun k => ?_) (ih (by omega))
    have hlen := btl_len p 32
    have hi : (((j + 1 : Nat) : Int) - 1) = (j : Int) := by omega
    have h1 := div_lt (wd_lt32 p) j
    have h2 : wd p 32 / 2 ^ (j + 1) = wd p 32 / 2 ^ j / 2 := by rw [Nat.pow_succ, Nat.div_div_eq_div_mul]
    have h3 : (if p j = true then (1 : Int) else 0) = ((wd p 32 / 2 ^ j % 2 : Nat) : Int) := by
      have hb := wd_bit p 32 j
      have hj' : j < 32 := by omega
      rw [Nat.testBit_eq_decide_div_mod_eq, decide_eq_true hj', Bool.true_and] at hb
      rcases Nat.mod_two_eq_zero_or_one (wd p 32 / 2 ^ j) with h | h
      · rw [h] at hb ⊢
        rw [← hb]; rfl
      · rw [h] at hb ⊢
        rw [← hb]; rfl
    have h4 : (((2 * ((wd p 32 / 2 ^ (j + 1) : Nat) : Int)) % 4294967296) + ((if p j = true then (1 : Int) else 0) % 4294967296)) % 4294967296 = ((wd p 32 / 2 ^ j : Nat) : Int) := by
      rw [h3, h2]
      generalize wd p 32 / 2 ^ j = y at h1 ⊢
      omega
    simp only [spec_l01Word.l0]
    rw [hi, if_pos (by omega), if_pos (by omega), if_pos (by omega), btl_rd p (by omega : j < 32), w64 (by omega) (by omega), h4]
theorem spec_l01Word.ev (p : Nat → Bool) : Ev (fun k => spec_l01Word.f k (btl p 32)) ((wd p 32 : Nat) : Int) := by
  have h := spec_l01Word.loop p 32 (Nat.le_refl _)
  rw [Nat.div_eq_of_lt (wd_lt32 p)] at h
  refine Ev.congr (fun k => ?_) h
  simp only [spec_l01Word.f]
  rw [btl_len, w64 (by omega) (by omega)]
  rfl
/-! ### spec_BitsOf -/
theorem spec_BitsOf.loop (l : List Int) (hl : l.length < 4611686018427387904) (d : Nat) : ∀ (i : Nat) (q : Nat → Bool), i + d = l.length → Ev (fun k => spec_BitsOf.l0 k l (btl q 32) (i : Int)) (bofq q (l.drop i)) := by
  induction d with
  | zero =>
    intro i q hi
    rw [List.drop_eq_nil_of_le (by omega), bofq_nil]
    refine Ev.step (f := fun k => (spec_l01Word.f k (btl q 32)).bind fun t => some (t, true)) (fun k => ?_) (Ev.bind (spec_l01Word.ev q) (Ev.now _))
    simp only [spec_BitsOf.l0]
    rw [if_neg (by omega)]
  | succ d ih =>
    intro i q hi
    have hlt : i < l.length := by omega
    rw [drop_rd l hlt, bofq_cons]
    generalize hb : rd l (i : Int) = b
    by_cases h1 : b < 0
    · rw [if_pos (.inl h1)]
      refine Ev.stop fun k => ?_
      simp only [spec_BitsOf.l0]
      rw [if_pos (by omega), if_pos (by omega), hb, if_pos h1]
    · by_cases h2 : b > 31
      · rw [if_pos (.inr h2)]
        refine Ev.stop fun k => ?_
        simp only [spec_BitsOf.l0]
        rw [if_pos (by omega), if_pos (by omega), hb, if_neg h1, if_pos h2]
      · rw [if_neg (by omega)]
        obtain ⟨c, rfl⟩ : ∃ c : Nat, b = c := ⟨b.toNat, by omega⟩
        rw [Int.toNat_natCast]
        have hlen := btl_len q 32
        have hc : c < 32 := by omega
        by_cases h3 : q c = true
        · rw [if_pos h3]
          refine Ev.stop fun k => ?_
          simp only [spec_BitsOf.l0]
          rw [if_pos (by omega), if_pos (by omega), hb, if_neg h1, if_neg h2, if_pos (by omega), if_pos (by omega), btl_rd q hc, if_pos h3, if_pos rfl]
        · rw [if_neg h3]
          refine Ev.step (f := fun k => spec_BitsOf.l0 k l (btl (fun j => q j || j == c) 32) ((i + 1 : Nat) : Int)) (fun k => ?_) (ih (i + 1) _ (by omega))
          simp only [spec_BitsOf.l0]
          rw [if_pos (by omega), if_pos (by omega), hb, if_neg h1, if_neg h2, if_pos (by omega), if_pos (by omega), btl_rd q hc, if_neg h3, if_neg (by decide), Int.toNat_natCast, btl_set q 32 hc, w64_succ (by omega)]
theorem spec_BitsOf.ev (l : List Int) (hl : l.length < 4611686018427387904) : Ev (fun k => spec_BitsOf.f k l) (bof l) := by
  refine Ev.congr (fun k => ?_) (spec_BitsOf.loop l hl l.length 0 (fun _ => false) (by omega))
  simp only [spec_BitsOf.f]
  rw [if_pos (by decide), btl_none]
  rfl
/-! ### spec_Groups -/
theorem spec_Groups.inner (v : List Int) (hv : v.length = 8) (n : Nat) (hn : n < 256) (o : List Int) (r : List Int)
    (hnext : Ev (fun k => spec_Groups.l0 k v o (blp (rst v n).testBit 32)) r) (d : Nat) : ∀ i : Nat, i + d = (blp n.testBit 32).length → Ev (fun k => spec_Groups.l1 k v o (blp n.testBit 32) (((blp n.testBit 32).take i).filter (fun b => !lik v n b)) (i : Int)) r := by
  have hlen := blp_len_le n.testBit 32
  induction d with
  | zero =>
    intro i hi
    have e : (blp n.testBit 32).filter (fun b => !lik v n b) = blp (rst v n).testBit 32 := by
      rw [blp_filter]
      refine blp_congr fun j hj => ?_
      rw [rst_bit v n hj]
      unfold grp lik
      cases n.testBit j <;> simp
    rw [List.take_of_length_le (by omega), e]
    refine Ev.step (fun k => ?_) hnext
    simp only [spec_Groups.l1]
    rw [if_neg (by omega)]
  | succ d ih =>
    intro i hi
    obtain ⟨b0, b1⟩ := mask_blp_lt hn (i := i) (by omega)
    obtain ⟨l0, l1, l2⟩ := low_lane hn (nonzero_of_len (n := n) (by omega))
    have hft := filter_take_succ (fun b => !lik v n b) (blp n.testBit 32) (i := i) (by omega)
    have hfl : (((blp n.testBit 32).take i).filter (fun b => !lik v n b)).length ≤ 32 := by
      have h1 := List.length_filter_le (fun b => !lik v n b) ((blp n.testBit 32).take i)
      rw [List.length_take] at h1
      omega
    refine Ev.step (f := fun k => spec_Groups.l1 k v o (blp n.testBit 32) (((blp n.testBit 32).take (i + 1)).filter (fun b => !lik v n b)) ((i + 1 : Nat) : Int)) (fun k => ?_) (ih (i + 1) (by omega))
    simp only [spec_Groups.l1]
    rw [if_pos (by omega), if_pos (by omega), if_pos (by omega), if_pos (by omega), if_pos (by omega), l2, if_pos (by omega), if_pos (by omega), w64_succ (by omega)]
    by_cases hq : rd v (rd (blp n.testBit 32) (i : Int)) = rd v (low n)
    · have hq' : lik v n (rd (blp n.testBit 32) (i : Int)) = true := decide_eq_true hq
      rw [if_neg (by rw [hq']; decide), List.append_nil] at hft
      rw [if_pos hq, hft]
    · have hq' : lik v n (rd (blp n.testBit 32) (i : Int)) = false := decide_eq_false hq
      rw [if_pos (by rw [hq']; rfl)] at hft
      rw [if_neg hq, if_pos (by omega), hft]
theorem spec_Groups.loop (v : List Int) (hv : v.length = 8) (d : Nat) : ∀ (n : Nat) (o : List Int), n < 256 → cnt n.testBit 32 ≤ d → o.length + d ≤ 64 → Ev (fun k => spec_Groups.l0 k v o (blp n.testBit 32)) (o ++ gps v d n) := by
  induction d with
  | zero =>
    intro n o hn hc ho
    have h0 := cnt_zero (n := n) (by omega) (by omega)
    subst h0
    have hl : blp (Nat.testBit 0) 32 = [] := blp_none fun j _ => Nat.zero_testBit j
    refine Ev.stop fun k => ?_
    simp only [spec_Groups.l0, gps]
    rw [if_neg (by rw [hl]; decide), List.append_nil]
  | succ d ih =>
    intro n o hn hc ho
    simp only [gps]
    by_cases h0 : n = 0
    · subst h0
      have hl : blp (Nat.testBit 0) 32 = [] := blp_none fun j _ => Nat.zero_testBit j
      rw [if_pos rfl, List.append_nil]
      refine Ev.stop fun k => ?_
      simp only [spec_Groups.l0]
      rw [if_neg (by rw [hl]; decide)]
    · have hr := rst_cnt v (n := n) (by omega) h0
      have hpos : ((blp n.testBit 32).length : Int) > 0 := by
        rw [blp_len]
        omega
      have h := ih (rst v n) (o ++ [((wd (grp v n) 32 : Nat) : Int)]) (rst_lt v hn) (by omega) (by simp; omega)
      rw [List.append_assoc, List.singleton_append] at h
      have hin := spec_Groups.inner v hv n hn (o ++ [((wd (grp v n) 32 : Nat) : Int)]) _ h (blp n.testBit 32).length 0 (by omega)
      have hl := blp_len_le (grp v n) 32
      have hb : Ev (fun k => spec_BitsOf.f k (blp (grp v n) 32)) (((wd (grp v n) 32 : Nat) : Int), true) := (spec_BitsOf.ev (blp (grp v n) 32) (by omega)).eq (bof_blp32 _)
      rw [if_neg h0]
      refine Ev.step (f := fun k => (spec_l03Alike.f k v (blp n.testBit 32)).bind fun t => (spec_BitsOf.f k t).bind fun u => if o.length < 35184372088832 then spec_Groups.l1 k v (o ++ [u.1]) (blp n.testBit 32) [] 0 else none) (fun k => ?_) (Ev.bind (f := fun k t => (spec_BitsOf.f k t).bind fun u => if o.length < 35184372088832 then spec_Groups.l1 k v (o ++ [u.1]) (blp n.testBit 32) [] 0 else none) (spec_l03Alike.ev v hv n hn) (Ev.bind (f := fun k (u : Int × Bool) => if o.length < 35184372088832 then spec_Groups.l1 k v (o ++ [u.1]) (blp n.testBit 32) [] 0 else none) hb (Ev.congr (fun k => ?_) hin)))
      · simp only [spec_Groups.l0]
        rw [if_pos hpos]
      · rw [if_pos (by omega)]
        rfl
theorem spec_Groups.ev (v : List Int) (n : Nat) (hn : n < 2 ^ 32) : Ev (fun k => spec_Groups.f k v (n : Int)) (if v.length = 8 ∧ n < 256 then gps v 32 n else []) := by
  have hout : Ev (fun k => spec_Groups.j0 k v (n : Int) [] true) [] := Ev.stop fun k => by
    simp only [spec_Groups.j0]
    rw [if_pos trivial]
  by_cases h8 : v.length = 8
  · refine Ev.congr (f := fun k => (spec_l03Mask.f k (n : Int)).bind fun t => spec_Groups.j0 k v (n : Int) [] (!t)) (fun k => ?_) (Ev.bind (f := fun k t => spec_Groups.j0 k v (n : Int) [] (!t)) (spec_l03Mask.ev n hn) ?_)
    · simp only [spec_Groups.f]
      rw [Option.bind_some, spec_l03Row.eq, Option.bind_some, if_pos (by simpa using h8)]
    · by_cases h : n < 256
      · rw [if_pos ⟨h8, h⟩, decide_eq_true h]
        refine Ev.step (f := fun k => (spec_BitList.f k (n : Int)).bind fun t => spec_Groups.l0 k v [] t) (fun k => ?_) (Ev.bind (f := fun k t => spec_Groups.l0 k v [] t) (spec_BitList.ev n hn) (spec_Groups.loop v h8 32 n [] h (cnt_le _ _) (by simp)))
        simp only [spec_Groups.j0]
        rw [if_neg (by decide)]
      · rw [if_neg (fun h2 => h h2.2), decide_eq_false h]
        exact hout
  · rw [if_neg (fun h2 => h8 h2.1)]
    refine Ev.congr (f := fun k => spec_Groups.j0 k v (n : Int) [] true) (fun k => ?_) hout
    simp only [spec_Groups.f]
    rw [Option.bind_some, spec_l03Row.eq, Option.bind_some, if_neg (by simpa using h8)]
/-! ### impl_GroupOf -/
theorem impl_GroupOf.ev (v : List Int) (n : Nat) : Ev (fun k => impl_GroupOf.f k v (n : Int)) ((gof v n : Nat) : Int) := by
  unfold gof
  by_cases h : n < 256
  · by_cases h8 : v.length = 8
    · rw [if_pos ⟨h8, h⟩]
      refine Ev.congr (f := fun k => (impl_groupOf.f k v (n : Int)).bind fun t => some t) (fun k => ?_) (Ev.bind (f := fun _ t => some t) (impl_groupOf.ev v h8 n h) (Ev.now _))
      simp only [impl_GroupOf.f]
      rw [impl_isMask.eq, Option.bind_some, if_pos (by simpa using h), if_pos (by omega)]
    · rw [if_neg (fun h2 => h8 h2.1)]
      refine Ev.congr (f := fun _ => some 0) (fun k => ?_) (Ev.now _)
      simp only [impl_GroupOf.f]
      rw [impl_isMask.eq, Option.bind_some, if_pos (by simpa using h), if_neg (by omega)]
  · rw [if_neg (fun h2 => h h2.2)]
    refine Ev.congr (f := fun _ => some 0) (fun k => ?_) (Ev.now _)
    simp only [impl_GroupOf.f]
    rw [impl_isMask.eq, Option.bind_some, if_neg (by simpa using h)]
/-! ### spec_GroupOf -/
theorem spec_GroupOf.ev (v : List Int) (n : Nat) (hn : n < 2 ^ 32) : Ev (fun k => spec_GroupOf.f k v (n : Int)) ((gof v n : Nat) : Int) := by
  have hout : Ev (fun k => spec_GroupOf.j0 k v (n : Int) true) 0 := Ev.stop fun k => by
    simp only [spec_GroupOf.j0]
    rw [if_pos trivial]
  unfold gof
  by_cases h8 : v.length = 8
  · refine Ev.congr (f := fun k => (spec_l03Mask.f k (n : Int)).bind fun t => spec_GroupOf.j0 k v (n : Int) (!t)) (fun k => ?_) (Ev.bind (f := fun k t => spec_GroupOf.j0 k v (n : Int) (!t)) (spec_l03Mask.ev n hn) ?_)
    · simp only [spec_GroupOf.f]
      rw [spec_l03Row.eq, Option.bind_some, if_pos (by simpa using h8)]
    · by_cases h : n < 256
      · rw [if_pos ⟨h8, h⟩, decide_eq_true h]
        have hl := blp_len_le (grp v n) 32
        have hb : Ev (fun k => spec_BitsOf.f k (blp (grp v n) 32)) (((wd (grp v n) 32 : Nat) : Int), true) := (spec_BitsOf.ev (blp (grp v n) 32) (by omega)).eq (bof_blp32 _)
        refine Ev.step (f := fun k => (spec_BitList.f k (n : Int)).bind fun t => (spec_l03Alike.f k v t).bind fun u => (spec_BitsOf.f k u).bind fun x => some x.1) (fun k => ?_) (Ev.bind (f := fun k t => (spec_l03Alike.f k v t).bind fun u => (spec_BitsOf.f k u).bind fun x => some x.1) (spec_BitList.ev n hn) (Ev.bind (f := fun k u => (spec_BitsOf.f k u).bind fun x => some x.1) (spec_l03Alike.ev v h8 n h) (Ev.bind (f := fun _ (x : Int × Bool) => some x.1) hb (Ev.now _))))
        simp only [spec_GroupOf.j0]
        rw [if_neg (by decide)]
      · rw [if_neg (fun h2 => h h2.2), decide_eq_false h]
        exact hout
  · rw [if_neg (fun h2 => h8 h2.1)]
    refine Ev.congr (f := fun k => spec_GroupOf.j0 k v (n : Int) true) (fun k => ?_) hout
    simp only [spec_GroupOf.f]
    rw [spec_l03Row.eq, Option.bind_some, if_neg (by simpa using h8)]
/-! ### impl_Leader -/
theorem impl_Leader.eq (n : Nat) (hn : n < 2 ^ 32) : impl_Leader.f (n : Int) = some (if n < 256 then low n else -1) := by
  unfold impl_Leader.f
  rw [impl_isMask.eq, Option.bind_some, impl_Lowest.eq n hn, Option.bind_some]
  by_cases h : n < 256
  · rw [if_pos (by simpa using h), if_pos h]
  · rw [if_neg (by simpa using h), if_neg h]
/-! ### laws_FnGroups -/
/-- What is left of a mask after i groups. -/
def rms (v : List Int) : Nat → Nat → Nat
  | 0, n => n
  | i + 1, n => rst v (rms v i n)
theorem rms_succ (v : List Int) (i : Nat) : ∀ n : Nat, rms v i (rst v n) = rms v (i + 1) n := by
  induction i with
  | zero => intro n; rfl
  | succ i ih =>
    intro n
    show rst v (rms v i (rst v n)) = rst v (rms v (i + 1) n)
    rw [ih]
theorem rms_lt (v : List Int) {n : Nat} (hn : n < 256) (i : Nat) : rms v i n < 256 := by
  induction i with
  | zero => exact hn
  | succ i ih => exact rst_lt v ih
theorem gps_at (v : List Int) (d : Nat) : ∀ n : Nat, n < 256 → cnt n.testBit 32 ≤ d → (∀ i : Nat, i < (gps v d n).length → rd (gps v d n) (i : Int) = ((wd (grp v (rms v i n)) 32 : Nat) : Int) ∧ rms v i n ≠ 0) ∧ rms v (gps v d n).length n = 0 := by
  induction d with
  | zero =>
    intro n hn hc
    have h0 := cnt_zero (n := n) (by omega) (by omega)
    subst h0
    exact ⟨fun i hi => by simp [gps] at hi, rfl⟩
  | succ d ih =>
    intro n hn hc
    simp only [gps]
    by_cases h0 : n = 0
    · rw [if_pos h0]
      exact ⟨fun i hi => by simp at hi, h0⟩
    · rw [if_neg h0]
      have hr := rst_cnt v (n := n) (by omega) h0
      obtain ⟨h1, h2⟩ := ih (rst v n) (rst_lt v hn) (by omega)
      refine ⟨fun i hi => ?_, by rw [List.length_cons, ← rms_succ]; exact h2⟩
      rw [List.length_cons] at hi
      rcases i with _ | i
      · exact ⟨rfl, h0⟩
      · have h3 := h1 i (by omega)
        rw [rms_succ] at h3
        refine ⟨?_, h3.2⟩
        rw [← h3.1, rd_get (by rw [List.length_cons]; omega), rd_get (by omega), List.getElem_cons_succ]
theorem rms_bit (v : List Int) (n : Nat) {j : Nat} (hj : j < 32) {k i : Nat} (h : k ≤ i) (hb : (rms v i n).testBit j = true) : (rms v k n).testBit j = true := by
  induction i with
  | zero =>
    obtain rfl : k = 0 := by omega
    exact hb
  | succ i ih =>
    rcases Nat.lt_or_ge k (i + 1) with h1 | h1
    · refine ih (by omega) ?_
      have h2 : (rst v (rms v i n)).testBit j = true := hb
      rw [rst_bit v _ hj, Bool.and_eq_true] at h2
      exact h2.1
    · obtain rfl : k = i + 1 := by omega
      exact hb
theorem grpw_lt (v : List Int) {m : Nat} (hm : m < 256) : wd (grp v m) 32 < 256 := by
  have h8 : (256 : Nat) = 2 ^ 8 := rfl
  rw [h8]
  refine Nat.lt_pow_two_of_testBit _ fun i hi => ?_
  rw [wd_bit]
  unfold grp
  rw [mask_high hm hi]
  simp
theorem grpw_low (v : List Int) {m : Nat} (hm : m < 256) (h0 : m ≠ 0) : low (wd (grp v m) 32) = low m := by
  obtain ⟨b, h1, h2, h3, h4, _⟩ := low_first (n := m) (by omega) h0
  have hlt := grpw_lt v hm
  rw [h4]
  refine low_at (by omega) ?_ fun j hj => ?_
  · rw [wd_bits_eq h1]
    exact grp_low v (by omega) h2 h3
  · rw [wd_bits_eq (by omega)]
    unfold grp
    rw [h3 j hj]
    rfl
theorem low_less (v : List Int) {m : Nat} (hm : m < 256) (h0 : m ≠ 0) (h1 : rst v m ≠ 0) : low m < low (rst v m) := by
  obtain ⟨b, b1, b2, b3, b4, _⟩ := low_first (n := m) (by omega) h0
  have hr := rst_lt v hm
  obtain ⟨c, c1, c2, c3, c4, _⟩ := low_first (n := rst v m) (by omega) h1
  rw [rst_bit v m c1, Bool.and_eq_true] at c2
  rw [b4, c4]
  rcases Nat.lt_trichotomy b c with h | h | h
  · omega
  · subst h
    have := grp_low v (n := m) (by omega) b2 b3
    rw [this] at c2
    exact absurd c2.2 (by decide)
  · rw [b3 c h] at c2
    exact absurd c2.1 (by decide)
/-- The lanes of the first i groups. -/
def allw (v : List Int) (n i : Nat) : Nat := wd (fun j => n.testBit j && !(rms v i n).testBit j) 32
theorem allw_zero (v : List Int) (n : Nat) : allw v n 0 = 0 := by
  unfold allw
  refine Eq.trans (wd_congr fun j _ => ?_) (wd_false 32)
  show (n.testBit j && !n.testBit j) = false
  cases n.testBit j <;> rfl
theorem allw_and (v : List Int) (n i : Nat) : wd (grp v (rms v i n)) 32 &&& allw v n i = 0 := by
  refine Nat.eq_of_testBit_eq fun j => ?_
  unfold allw
  rw [Nat.testBit_and, wd_bit, wd_bit, Nat.zero_testBit]
  unfold grp
  cases (rms v i n).testBit j <;> simp
theorem allw_or (v : List Int) (n i : Nat) : allw v n i ||| wd (grp v (rms v i n)) 32 = allw v n (i + 1) := by
  refine Nat.eq_of_testBit_eq fun j => ?_
  unfold allw
  rw [Nat.testBit_or, wd_bit, wd_bit, wd_bit]
  by_cases hj : j < 32
  · have h1 : (rms v (i + 1) n).testBit j = ((rms v i n).testBit j && !grp v (rms v i n) j) := rst_bit v _ hj
    rw [h1, decide_eq_true hj]
    have h2 : (rms v i n).testBit j = true → n.testBit j = true := fun h => rms_bit v n hj (Nat.zero_le i) h
    have h3 : grp v (rms v i n) j = true → (rms v i n).testBit j = true := fun h => by unfold grp at h; rw [Bool.and_eq_true] at h; exact h.1
    cases hg : grp v (rms v i n) j <;> cases hr : (rms v i n).testBit j <;> cases hn : n.testBit j <;> simp_all
  · rw [decide_eq_false hj]
    rfl
theorem allw_last (v : List Int) {n : Nat} (hn : n < 2 ^ 32) {i : Nat} (h : rms v i n = 0) : allw v n i = n := by
  unfold allw
  refine wd_eq hn fun j _ => ?_
  rw [h, Nat.zero_testBit]
  simp
theorem allw_lt (v : List Int) (n i : Nat) : allw v n i < 2 ^ 32 := wd_lt32 _
theorem laws_FnGroups.l2_ev (v g : List Int) (n A : Int) (i : Nat) (list : List Int) (hi : i < g.length) (hg : g.length ≤ 32) (hlist : 0 < list.length) (h0 : 0 ≤ rd list 0 ∧ rd list 0 < (v.length : Int))
    (hlead : ∀ j : Nat, j < i → ∃ t : Int, impl_Leader.f (rd g (j : Int)) = some t ∧ 0 ≤ t ∧ t < (v.length : Int) ∧ rd v t ≠ rd v (rd list 0))
    (hnext : Ev (fun k => laws_FnGroups.l0 k v n g g A ((i + 1 : Nat) : Int)) true) (d : Nat) : ∀ j : Nat, j + d = i → Ev (fun k => laws_FnGroups.l2 k v n g g A (i : Int) list (j : Int)) true := by
  induction d with
  | zero =>
    intro j hj
    refine Ev.step (fun k => ?_) hnext
    simp only [laws_FnGroups.l2]
    rw [if_neg (by omega), w64_succ (by omega)]
  | succ d ih =>
    intro j hj
    obtain ⟨t, e1, t0, t1, t2⟩ := hlead j (by omega)
    refine Ev.step (f := fun k => laws_FnGroups.l2 k v n g g A (i : Int) list ((j + 1 : Nat) : Int)) (fun k => ?_) (ih (j + 1) (by omega))
    simp only [laws_FnGroups.l2]
    rw [if_pos (by omega), if_pos (by omega), if_pos (by omega), e1, Option.bind_some, if_pos t0, if_pos t1, if_pos (by omega), if_pos h0.1, if_pos h0.2, if_neg t2, w64_succ (by omega)]
theorem laws_FnGroups.l1_ev (v g : List Int) (n A : Int) (i : Nat) (list : List Int) (hlen : list.length ≤ 32)
    (hall : ∀ j : Nat, j < list.length → 0 ≤ rd list (j : Int) ∧ rd list (j : Int) < (v.length : Int) ∧ rd v (rd list (j : Int)) = rd v (rd list 0))
    (hnext : Ev (fun k => laws_FnGroups.l2 k v n g g A (i : Int) list ((0 : Nat) : Int)) true) (d : Nat) : ∀ j : Nat, j + d = list.length → Ev (fun k => laws_FnGroups.l1 k v n g g A (i : Int) list (j : Int)) true := by
  induction d with
  | zero =>
    intro j hj
    refine Ev.step (fun k => ?_) hnext
    simp only [laws_FnGroups.l1]
    rw [if_neg (by omega)]
    rfl
  | succ d ih =>
    intro j hj
    obtain ⟨a0, a1, a2⟩ := hall j (by omega)
    obtain ⟨b0, b1, _⟩ := hall 0 (by omega)
    have z : ((0 : Nat) : Int) = 0 := rfl
    rw [z] at b0 b1
    refine Ev.step (f := fun k => laws_FnGroups.l1 k v n g g A (i : Int) list ((j + 1 : Nat) : Int)) (fun k => ?_) (ih (j + 1) (by omega))
    simp only [laws_FnGroups.l1]
    rw [if_pos (by omega), if_pos (by omega), if_pos a0, if_pos a1, if_pos (by omega), if_pos b0, if_pos b1, if_pos a2, w64_succ (by omega)]
theorem laws_FnGroups.l0_ev (v : List Int) (hv : v.length = 8) (n : Nat) (hn : n < 256) (d : Nat) : ∀ i : Nat, i + d = (gps v 32 n).length → Ev (fun k => laws_FnGroups.l0 k v (n : Int) (gps v 32 n) (gps v 32 n) ((allw v n i : Nat) : Int) (i : Int)) true := by
  have hlen := gps_len v 32 n
  obtain ⟨hat, hlast⟩ := gps_at v 32 n hn (cnt_le _ _)
  have hlead : ∀ i : Nat, i < (gps v 32 n).length → impl_Leader.f (rd (gps v 32 n) (i : Int)) = some (low (rms v i n)) ∧ 0 ≤ low (rms v i n) ∧ low (rms v i n) < 8 := fun i hi => by
    obtain ⟨e, h0⟩ := hat i hi
    have hm := rms_lt v hn i
    have hw := grpw_lt v hm
    obtain ⟨l0, l1, _⟩ := low_lane hm h0
    refine ⟨?_, l0, l1⟩
    rw [e, impl_Leader.eq _ (by omega), if_pos hw, grpw_low v hm h0]
  induction d with
  | zero =>
    intro i hi
    obtain rfl : i = (gps v 32 n).length := by omega
    rw [allw_last v (by omega) hlast]
    by_cases hz : (gps v 32 n).length = 0
    · refine Ev.stop fun k => ?_
      simp only [laws_FnGroups.l0]
      rw [if_neg (by omega), if_pos (by omega)]
    · have h0 := hat 0 (by omega)
      have e0 : rd (gps v 32 n) 0 = ((gof v n : Nat) : Int) := by
        unfold gof
        rw [if_pos ⟨hv, hn⟩]
        exact h0.1
      refine Ev.step (f := fun k => (impl_GroupOf.f k v (n : Int)).bind fun t => some (rd (gps v 32 n) 0 == t)) (fun k => ?_) (Ev.bind (f := fun _ t => some (rd (gps v 32 n) 0 == t)) (impl_GroupOf.ev v n) (Ev.const (by rw [e0, beq_self_eq_true])))
      simp only [laws_FnGroups.l0]
      rw [if_neg (by omega), if_neg (by omega), if_pos trivial, if_pos (by omega)]
  | succ d ih =>
    intro i hi
    have hlt : i < (gps v 32 n).length := by omega
    obtain ⟨e, h0⟩ := hat i hlt
    have hm := rms_lt v hn i
    have hw := grpw_lt v hm
    have hG : wd (grp v (rms v i n)) 32 < 2 ^ 32 := by omega
    have hbl : Ev (fun k => impl_BitList.f k (rd (gps v 32 n) (i : Int))) (blp (grp v (rms v i n)) 32) := by
      rw [e]
      exact (impl_BitList.ev _ hG).eq (blp_wd _)
    obtain ⟨b, b1, b2, b3, b4, _⟩ := low_first (n := rms v i n) (by omega) h0
    have hpos : 0 < (blp (grp v (rms v i n)) 32).length := by
      rw [blp_len]
      exact cnt_pos b1 (grp_low v (by omega) b2 b3)
    have hl32 := blp_len_le (grp v (rms v i n)) 32
    have hat2 : ∀ j : Nat, j < (blp (grp v (rms v i n)) 32).length → ∃ q : Nat, rd (blp (grp v (rms v i n)) 32) (j : Int) = (q : Int) ∧ q < 8 ∧ (rms v i n).testBit q = true ∧ rd v (q : Int) = rd v (low (rms v i n)) := fun j hj => by
      obtain ⟨q, q1, q2, _, q4⟩ := blp_rd_lt (grp v (rms v i n)) hj
      unfold grp at q2
      rw [Bool.and_eq_true] at q2
      have q8 : ¬ 8 ≤ q := fun h => by rw [mask_high hm h] at q2; exact absurd q2.1 (by decide)
      exact ⟨q, q4, by omega, q2.1, of_decide_eq_true q2.2⟩
    have hnext := ih (i + 1) (by omega)
    rw [← allw_or] at hnext
    obtain ⟨q0, z1, z2, z3, z4⟩ := hat2 0 hpos
    have z : ((0 : Nat) : Int) = 0 := rfl
    rw [z] at z1
    have h2 := laws_FnGroups.l2_ev v (gps v 32 n) (n : Int) ((allw v n i ||| wd (grp v (rms v i n)) 32 : Nat) : Int) i (blp (grp v (rms v i n)) 32) hlt hlen hpos (by rw [z1]; omega) (fun j hj => by
      obtain ⟨l0, l1, l2⟩ := hlead j (by omega)
      refine ⟨_, l0, l1, by omega, fun hh => ?_⟩
      rw [z1] at hh
      have hb := rms_bit v n (j := q0) (by omega) (k := j + 1) (i := i) (by omega) z3
      have hb2 : (rst v (rms v j n)).testBit q0 = true := hb
      rw [rst_bit v _ (by omega), Bool.and_eq_true] at hb2
      have hgr : grp v (rms v j n) q0 = true := by
        unfold grp
        rw [hb2.1, decide_eq_true hh.symm]
        rfl
      rw [hgr] at hb2
      exact absurd hb2.2 (by decide)) hnext i 0 (by omega)
    have h1 := laws_FnGroups.l1_ev v (gps v 32 n) (n : Int) ((allw v n i ||| wd (grp v (rms v i n)) 32 : Nat) : Int) i (blp (grp v (rms v i n)) 32) hl32 (fun j hj => by
      obtain ⟨q, q1, q2, _, q4⟩ := hat2 j hj
      rw [q1, z1, q4, z4]
      exact ⟨by omega, by omega, rfl⟩) h2 (blp (grp v (rms v i n)) 32).length 0 (by omega)
    have hor : Go.bits .or .u32 ((allw v n i : Nat) : Int) (rd (gps v 32 n) (i : Int)) = ((allw v n i ||| wd (grp v (rms v i n)) 32 : Nat) : Int) := by
      rw [e, or_nat (allw_lt v n i) hG]
    have hand : Go.bits .and .u32 (rd (gps v 32 n) (i : Int)) ((allw v n i : Nat) : Int) = 0 := by
      rw [e, and_nat hG (allw_lt v n i), allw_and]
      rfl
    have hj2 : Ev (fun k => laws_FnGroups.j2 k v (n : Int) (gps v 32 n) (gps v 32 n) ((allw v n i : Nat) : Int) (i : Int) false) true := by
      refine Ev.step (f := fun k => (impl_BitList.f k (rd (gps v 32 n) (i : Int))).bind fun t => laws_FnGroups.l1 k v (n : Int) (gps v 32 n) (gps v 32 n) ((allw v n i ||| wd (grp v (rms v i n)) 32 : Nat) : Int) (i : Int) t 0) (fun k => ?_) (Ev.bind (f := fun k t => laws_FnGroups.l1 k v (n : Int) (gps v 32 n) (gps v 32 n) ((allw v n i ||| wd (grp v (rms v i n)) 32 : Nat) : Int) (i : Int) t 0) hbl h1)
      simp only [laws_FnGroups.j2]
      rw [if_neg (by decide), if_pos (by omega), if_pos (by omega), hor]
    refine Ev.step (f := fun k => laws_FnGroups.j2 k v (n : Int) (gps v 32 n) (gps v 32 n) ((allw v n i : Nat) : Int) (i : Int) false) (fun k => ?_) hj2
    simp only [laws_FnGroups.l0]
    rw [if_pos (by omega), if_pos (by omega), if_pos (by omega), if_pos trivial, if_pos hand]
    rcases i with _ | i
    · rw [if_neg (by omega)]
    · obtain ⟨p0, p1, p2⟩ := hlead i (by omega)
      obtain ⟨r0, r1, r2⟩ := hlead (i + 1) hlt
      have hprev := hat i (by omega)
      have hless := low_less v (rms_lt v hn i) hprev.2 h0
      have hw64 : wrap64 (((i + 1 : Nat) : Int) - 1) = (i : Int) := by rw [w64 (by omega) (by omega)]; omega
      have hd : decide (low (rms v i n) ≥ low (rms v (i + 1) n)) = false := decide_eq_false (by
        have : low (rms v i n) < low (rms v (i + 1) n) := hless
        omega)
      rw [if_pos (by omega), hw64, if_pos (by omega), if_pos (by omega), p0, Option.bind_some, r0, Option.bind_some, hd]
theorem FnGroups : laws_FnGroups.Pure := by
  intro l _ _ hb
  by_cases hlen : l.length > 1048576
  · refine ⟨0, ?_⟩
    unfold laws_FnGroups.f
    rw [laws_big.eq, Option.bind_some, if_pos (by simpa using hlen)]
  · have hbig : laws_big.f l = some false := by rw [laws_big.eq, decide_eq_false hlen]
    obtain ⟨v, n, d1, hn, _⟩ := spec_DrawGroups.ok l (by omega) hb
    have hi := impl_Groups.ev v n
    have hs := spec_Groups.ev v n hn
    have key : Ev (fun k => laws_FnGroups.j0 k v (n : Int) (if v.length = 8 ∧ n < 256 then gps v 32 n else []) (if v.length = 8 ∧ n < 256 then gps v 32 n else []) false) true := by
      refine Ev.step (f := fun k => laws_FnGroups.l0 k v (n : Int) (if v.length = 8 ∧ n < 256 then gps v 32 n else []) (if v.length = 8 ∧ n < 256 then gps v 32 n else []) 0 0) (fun k => ?_) ?_
      · simp only [laws_FnGroups.j0]
        rw [if_neg (by decide)]
      · by_cases h : v.length = 8 ∧ n < 256
        · rw [if_pos h]
          have h0 := laws_FnGroups.l0_ev v h.1 n h.2 (gps v 32 n).length 0 (by omega)
          rw [allw_zero] at h0
          exact h0
        · rw [if_neg h]
          refine Ev.stop fun k => ?_
          simp only [laws_FnGroups.l0]
          rw [if_neg (by decide), if_pos (by decide)]
    generalize (if v.length = 8 ∧ n < 256 then gps v 32 n else []) = g at hi hs key
    obtain ⟨k, e1, e2, e3, e4, e5, e6⟩ := (d1.and (hi.and (hs.and ((impl_GroupOf.ev v n).and ((spec_GroupOf.ev v n hn).and key.last))))).pick
    refine ⟨k, ?_⟩
    unfold laws_FnGroups.f
    rw [hbig, Option.bind_some, if_neg (by decide), e1, Option.bind_some, e2, Option.bind_some, e3, Option.bind_some, if_pos rfl, e4, Option.bind_some, e5, Option.bind_some, bne_self_eq_false]
    exact e6

end Go.Proofs.YtklgbopdhomnaaaDoor.Pure
