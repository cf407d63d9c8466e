/-
  The law FnExactCtlPack: what both programs compute, in plain Lean, and that it is the same.
  Conditions: none beyond those of the statement itself.
-/
import Derived.Test.YtjhbcfajgilllaaPFnExactCtlPackx4
import Derived.Test.YtjhbcfajgilllaaLib
namespace Go.Proofs.Ytjhbcfajgilllaa.Pure
open Go.RowKit Go.Proofs.Ytjhbcfajgilllaa.PFnExactCtlPack Go.Proofs.YtjhbcfajgilllaaW.PrintWords Go.Proofs.YtjhbcfajgilllaaW.PrintLast

/-! ### spec_l04Class -/
theorem spec_l04Class.eq (a : Int) : spec_l04Class.f a = some (decide (0 ≤ a ∧ a < 5)) := by
  unfold spec_l04Class.f
  split
  · rename_i h
    have : 0 ≤ a := h
    simp [this]
  · rename_i h
    have : ¬ 0 ≤ a := h
    simp [this]
/-! ### spec_l01Bits -/
theorem spec_l01Bits.loop (n : Nat) (hn : n < 2 ^ 32) (d : Nat) : ∀ i : Nat, i + d = 32 → Ev (fun k => spec_l01Bits.l0 k ((n / 2 ^ i : Nat) : Int) (btl n.testBit i) (i : Int)) (btl n.testBit 32) := by
  induction d with
  | zero =>
    intro i hi
    obtain rfl : i = 32 := by omega
    refine Ev.stop fun k => ?_
    simp only [spec_l01Bits.l0]
    rw [if_neg (by omega)]
  | succ d ih =>
    intro i hi
    refine Ev.step (f := fun k => spec_l01Bits.l0 k ((n / 2 ^ (i + 1) : Nat) : Int) (btl n.testBit (i + 1)) ((i + 1 : Nat) : Int)) (fun k => ?_) (ih (i + 1) (by omega))
    have hlen := btl_len n.testBit i
    have hlt := div_lt hn i
    have e1 : Int.tdiv ((n / 2 ^ i : Nat) : Int) 2 % 4294967296 = ((n / 2 ^ (i + 1) : Nat) : Int) := by
      rw [Int.tdiv_eq_ediv_of_nonneg (Int.natCast_nonneg _), Nat.pow_succ, ← Nat.div_div_eq_div_mul]
      generalize n / 2 ^ i = y at hlt ⊢
      omega
    have e2 : wrap64 (Int.tmod ((n / 2 ^ i : Nat) : Int) 2) = if n.testBit i = true then 1 else 0 := by
      rw [Int.tmod_eq_emod_of_nonneg (Int.natCast_nonneg _), Nat.testBit_eq_decide_div_mod_eq]
      have h := Nat.mod_two_eq_zero_or_one (n / 2 ^ i)
      have h2 : ((n / 2 ^ i : Nat) : Int) % 2 = ((n / 2 ^ i % 2 : Nat) : Int) := (Int.natCast_emod _ _).symm
      rw [h2]
      rcases h with h | h
      · rw [h]; exact wrap64_0
      · rw [h]; exact wrap64_1
    simp only [spec_l01Bits.l0]
    rw [if_pos (by omega), if_pos (by omega), w64_succ (by omega), e1, e2, btl_succ]
theorem spec_l01Bits.ev (n : Nat) (hn : n < 2 ^ 32) : Ev (fun k => spec_l01Bits.f k (n : Int)) (btl n.testBit 32) := by
  have h := spec_l01Bits.loop n hn 32 0 rfl
  rw [Nat.pow_zero, Nat.div_one] at h
  exact Ev.congr (fun _ => rfl) h
/-! ### spec_BitList -/
theorem spec_BitList.loop (p : Nat → Bool) (d : Nat) : ∀ i : Nat, i + d = 32 → Ev (fun k => spec_BitList.l0 k (blp p i) (btl p 32) (i : Int)) (blp p 32) := by
  induction d with
  | zero =>
    intro i hi
    obtain rfl : i = 32 := by omega
    refine Ev.stop fun k => ?_
    simp only [spec_BitList.l0]
    rw [if_neg (by omega)]
  | succ d ih =>
    intro i hi
    refine Ev.step (f := fun k => spec_BitList.l0 k (blp p (i + 1)) (btl p 32) ((i + 1 : Nat) : Int)) (fun k => ?_) (ih (i + 1) (by omega))
    have hlen := blp_len_le p i
    have hlen2 := btl_len p 32
    simp only [spec_BitList.l0]
    rw [if_pos (by omega), if_pos (by omega), if_pos (by omega), btl_rd p (by omega : i < 32), w64_succ (by omega)]
    by_cases hp : p i = true
    · rw [if_pos hp, if_pos rfl, if_pos (by omega)]
      simp only [blp, if_pos hp]
    · rw [if_neg hp, if_neg (by decide)]
      simp only [blp, if_neg hp, List.append_nil]
theorem spec_BitList.ev (n : Nat) (hn : n < 2 ^ 32) : Ev (fun k => spec_BitList.f k (n : Int)) (blp n.testBit 32) :=
  Ev.bind (spec_l01Bits.ev n hn) (spec_BitList.loop n.testBit 32 0 rfl)
/-! ### spec_Highest -/
theorem spec_Highest.ev (n : Nat) (hn : n < 2 ^ 32) : Ev (fun k => spec_Highest.f k (n : Int)) (top n.testBit 32) := by
  have hlen := blp_len_le n.testBit 32
  refine Ev.congr (fun _ => rfl) (Ev.bind (spec_BitList.ev n hn) ?_)
  by_cases h : (blp n.testBit 32).length = 0
  · rw [blp_empty _ _ h]
    refine Ev.const ?_
    rw [if_pos (by omega)]
  · obtain ⟨h1, _⟩ := blp_last n.testBit 32 h
    refine Ev.const ?_
    rw [if_neg (by omega), w64 (by omega) (by omega), if_pos (by omega), if_pos (by omega), h1]
/-! ### spec_l04Pow -/
theorem spec_l04Pow.loop (d : Nat) : ∀ m : Nat, m + d < 62 → Ev (fun k => spec_l04Pow.l0 k (d : Int) ((2 ^ m : Nat) : Int)) ((2 ^ (m + d) : Nat) : Int) := by
  induction d with
  | zero =>
    intro m hm
    refine Ev.stop fun k => ?_
    simp only [spec_l04Pow.l0]
    rw [if_neg (by omega)]
    rfl
  | succ d ih =>
    intro m hm
    have h := ih (m + 1) (by omega)
    rw [show m + 1 + d = m + (d + 1) by omega] at h
    refine Ev.step (fun k => ?_) h
    have hp : (2 : Nat) ^ (m + 1) < 2 ^ 62 := Nat.pow_lt_pow_right (by decide) (by omega)
    have e : wrap64 (2 * ((2 ^ m : Nat) : Int)) = ((2 ^ (m + 1) : Nat) : Int) := by
      rw [Nat.pow_succ] at hp ⊢
      rw [w64 (by omega) (by omega)]
      omega
    simp only [spec_l04Pow.l0]
    rw [if_pos (by omega), e, w64 (by omega) (by omega), show ((d + 1 : Nat) : Int) - 1 = (d : Int) by omega]
theorem spec_l04Pow.ev (d : Nat) (hd : d < 62) : Ev (fun k => spec_l04Pow.f k (d : Int)) ((2 ^ d : Nat) : Int) := by
  have h := spec_l04Pow.loop d 0 (by omega)
  rw [Nat.zero_add] at h
  exact Ev.congr (fun _ => rfl) h
/-! ### spec_PerPage -/
theorem spec_PerPage.ev (a : Int) : Ev (fun k => spec_PerPage.f k a) (pgs a) := by
  unfold pgs
  by_cases h : 0 ≤ a ∧ a < 5
  · rw [if_pos h]
    obtain ⟨m, rfl⟩ : ∃ m : Nat, a = m := ⟨a.toNat, by omega⟩
    have hm : m = 0 ∨ m = 1 ∨ m = 2 ∨ m = 3 ∨ m = 4 := by omega
    refine Ev.congr (f := fun k => (spec_l04Pow.f k (m : Int)).bind fun t => if t = 0 then none else some (wrap64 ((16 : Int) / t))) (fun k => ?_) (Ev.bind (spec_l04Pow.ev m (by omega)) ?_)
    · simp only [spec_PerPage.f]
      rw [spec_l04Class.eq, Option.bind_some, if_pos (by simpa using h)]
    · rcases hm with rfl | rfl | rfl | rfl | rfl <;> exact Ev.const (by decide +kernel)
  · rw [if_neg h]
    refine Ev.congr (fun k => ?_) (Ev.now _)
    simp only [spec_PerPage.f]
    rw [spec_l04Class.eq, Option.bind_some, if_neg (by simpa using h)]
/-! ### spec_CtlOk -/
theorem spec_CtlOk.ev (s c r : Int) (n : Nat) (hn : n < 2 ^ 32) : Ev (fun k => spec_CtlOk.f k s c (n : Int) r) (okc s c n r) := by
  unfold okc
  by_cases h03 : s = 0 ∨ s = 3
  · have hj : Ev (fun k => spec_CtlOk.j0 k s true s c (n : Int) r) (decide (c = 0 ∧ n = 0 ∧ r = 0)) := by
      refine Ev.stop fun k => ?_
      simp only [spec_CtlOk.j0]
      rw [if_pos trivial]
      by_cases h1 : c = 0
      · by_cases h2 : n = 0
        · rw [if_pos h1, if_pos (by omega)]
          by_cases h3 : r = 0 <;> simp [h1, h2, h3]
        · rw [if_pos h1, if_neg (by omega), decide_eq_false (fun h => h2 h.2.1)]
      · rw [if_neg h1, decide_eq_false (fun h => h1 h.1)]
    refine (Ev.congr (f := fun k => spec_CtlOk.j0 k s true s c (n : Int) r) (fun k => ?_) hj).eq (decide_eq_decide.2 (by omega))
    simp only [spec_CtlOk.f]
    by_cases h0 : s = 0
    · subst h0; rw [if_pos rfl]; rfl
    · have h3 : s = 3 := by omega
      subst h3; rw [if_neg (by decide)]; rfl
  · refine Ev.congr (f := fun k => spec_CtlOk.j0 k s false s c (n : Int) r) (fun k => ?_) ?_
    · simp only [spec_CtlOk.f]
      have h3 : (s == 3) = false := by simp; omega
      rw [if_neg (by omega), h3]
    · by_cases h1 : s = 1
      · by_cases hc : 0 ≤ c ∧ c < 5
        · by_cases hn0 : n = 0
          · refine Ev.stop fun k => ?_
            simp only [spec_CtlOk.j0]
            rw [if_neg (by decide), if_pos h1, spec_l04Class.eq, Option.bind_some, if_pos (by simpa using hc), if_pos (by omega), decide_eq_false (by omega)]
          · have hp := pgs_range hc
            have ht : top n.testBit 32 < pgs c ↔ n < 2 ^ (pgs c).toNat := by
              have := top_lt_iff (b := (pgs c).toNat) hn (by omega)
              rw [show (((pgs c).toNat : Nat) : Int) = pgs c by omega] at this
              exact this
            refine Ev.step (f := fun k => (spec_Highest.f k (n : Int)).bind fun t => (spec_PerPage.f k c).bind fun u => if t < u then some (r == 0) else some false) (fun k => ?_) (Ev.bind (f := fun k t => (spec_PerPage.f k c).bind fun u => if t < u then some (r == 0) else some false) (spec_Highest.ev n hn) (Ev.bind (f := fun _ (u : Int) => if top n.testBit 32 < u then some (r == 0) else some false) (spec_PerPage.ev c) (Ev.const ?_)))
            · simp only [spec_CtlOk.j0]
              rw [if_neg (by decide), if_pos h1, spec_l04Class.eq, Option.bind_some, if_pos (by simpa using hc), if_neg (by omega)]
            · by_cases h2 : n < 2 ^ (pgs c).toNat
              · rw [if_pos (ht.2 h2)]
                by_cases h3 : r = 0
                · rw [decide_eq_true (.inr (.inl ⟨h1, hc, hn0, h2, h3⟩))]; subst h3; rfl
                · rw [decide_eq_false (by omega)]; simp [h3]
              · rw [if_neg (fun h => h2 (ht.1 h)), decide_eq_false (by omega)]
        · refine Ev.stop fun k => ?_
          simp only [spec_CtlOk.j0]
          rw [if_neg (by decide), if_pos h1, spec_l04Class.eq, Option.bind_some, if_neg (by simpa using hc), decide_eq_false (by omega)]
      · refine Ev.stop fun k => ?_
        simp only [spec_CtlOk.j0]
        rw [if_neg (by decide), if_neg h1]
        by_cases h2 : s = 2
        · rw [if_pos h2]
          by_cases hc : c = 0
          · by_cases hn0 : n = 0
            · rw [if_pos hc, if_pos (by omega)]
              by_cases hr : r ≥ 2
              · rw [if_pos hr]
                congr 1
                exact decide_eq_decide.2 (by omega)
              · rw [if_neg hr, decide_eq_false (by omega)]
            · rw [if_pos hc, if_neg (by omega), decide_eq_false (by omega)]
          · rw [if_neg hc, decide_eq_false (by omega)]
        · rw [if_neg h2, decide_eq_false (by omega)]
/-! ### spec_CtlPack -/
theorem spec_CtlPack.ev (s c r : Int) (n : Nat) (hn : n < 2 ^ 32) : Ev (fun k => spec_CtlPack.f k s c (n : Int) r) (if okc s c n r = true then (pk s c n r, true) else (0, false)) := by
  refine Ev.congr (fun _ => rfl) (Ev.bind (f := fun _ (t : Bool) => if t = true then some ((wrap64 ((wrap64 ((wrap64 ((wrap64 ((n : Int))) + (wrap64 (65536 * c)))) + (wrap64 (1048576 * s)))) + (wrap64 (16777216 * r)))) % 4294967296, true) else some (0, false)) (spec_CtlOk.ev s c r n hn) (Ev.const ?_))
  by_cases h : okc s c n r = true
  · rw [if_pos h, if_pos h]
    obtain ⟨⟨h1, h2⟩, ⟨h3, h4⟩, h5, h6, h7⟩ := okc_bounds h
    rw [w64 (x := (n : Int)) (by omega) (by omega), w64 (x := 65536 * c) (by omega) (by omega), w64 (x := 1048576 * s) (by omega) (by omega), w64 (x := 16777216 * r) (by omega) (by omega), w64 (x := (n : Int) + 65536 * c) (by omega) (by omega), w64 (x := (n : Int) + 65536 * c + 1048576 * s) (by omega) (by omega), w64 (by omega) (by omega), Int.emod_eq_of_lt (by omega) (by omega)]
    rfl
  · rw [if_neg h, if_neg h]
/-! ### laws_toCtl -/
theorem laws_toCtl.eq (s c m r : Int) : laws_toCtl.f s c m r = some (s, c, m, r) := rfl
/-! ### impl_within -/
theorem impl_within.eq (a lo hi : Int) : impl_within.f a lo hi = some (decide (lo ≤ a ∧ a ≤ hi)) := by
  unfold impl_within.f
  split
  · rename_i h
    have : lo ≤ a := h
    simp [this]
  · rename_i h
    have : ¬ lo ≤ a := h
    simp [this]
/-! ### impl_isClass -/
theorem impl_isClass.eq (a : Int) : impl_isClass.f a = some (decide (0 ≤ a ∧ a < 5)) := by
  unfold impl_isClass.f
  rw [impl_within.eq, Option.bind_some]
  have : (0 ≤ a ∧ a ≤ 4) ↔ (0 ≤ a ∧ a < 5) := by omega
  simp only [this]
/-! ### impl_PerPage -/
theorem impl_PerPage.eq (a : Int) : impl_PerPage.f a = some (pgs a) := by
  unfold impl_PerPage.f pgs
  rw [impl_isClass.eq, Option.bind_some]
  by_cases h : 0 ≤ a ∧ a < 5
  · rw [if_pos h, if_pos (by simpa using h), if_pos h.1]
    have : a = 0 ∨ a = 1 ∨ a = 2 ∨ a = 3 ∨ a = 4 := by omega
    rcases this with rfl | rfl | rfl | rfl | rfl <;> rfl
  · rw [if_neg h, if_neg (by simpa using h)]
/-! ### impl_isCtl -/
theorem impl_isCtl.ev (s c r : Int) (n : Nat) (_hn : n < 2 ^ 32) : Ev (fun k => impl_isCtl.f k s c (n : Int) r) (okc s c n r) := by
  unfold okc
  by_cases h03 : s = 0 ∨ s = 3
  · have hj : Ev (fun k => impl_isCtl.j0 k s true s c (n : Int) r) (decide (c = 0 ∧ n = 0 ∧ r = 0)) := by
      refine Ev.stop fun k => ?_
      simp only [impl_isCtl.j0]
      rw [if_pos trivial]
      congr 1
      rw [Bool.eq_iff_iff]
      simp
    refine (Ev.congr (f := fun k => impl_isCtl.j0 k s true s c (n : Int) r) (fun k => ?_) hj).eq (decide_eq_decide.2 (by omega))
    simp only [impl_isCtl.f]
    by_cases h0 : s = 0
    · subst h0; rw [if_pos rfl]; rfl
    · have h3 : s = 3 := by omega
      subst h3; rw [if_neg (by decide)]; rfl
  · refine Ev.congr (f := fun k => impl_isCtl.j0 k s false s c (n : Int) r) (fun k => ?_) (Ev.stop fun k => ?_)
    · simp only [impl_isCtl.f]
      have h3 : (s == 3) = false := by simp; omega
      rw [if_neg (by omega), h3]
    · simp only [impl_isCtl.j0]
      rw [if_neg (by decide)]
      by_cases h1 : s = 1
      · rw [if_pos h1, impl_isClass.eq, Option.bind_some]
        by_cases hc : 0 ≤ c ∧ c < 5
        · rw [if_pos (by simpa using hc)]
          by_cases hn0 : n = 0
          · rw [if_pos (by omega), decide_eq_false (by omega)]
          · have hp := pgs_range hc
            have hs : shl .u32 1 (pgs c) = ((2 ^ (pgs c).toNat : Nat) : Int) := by
              have := shl_one (i := (pgs c).toNat) (by omega)
              rw [show (((pgs c).toNat : Nat) : Int) = pgs c by omega] at this
              exact this
            rw [if_neg (by omega), impl_PerPage.eq, Option.bind_some, if_pos (by omega), hs]
            by_cases h2 : n < 2 ^ (pgs c).toNat
            · rw [if_pos (by exact_mod_cast h2)]
              by_cases h3 : r = 0
              · rw [decide_eq_true (.inr (.inl ⟨h1, hc, hn0, h2, h3⟩))]; subst h3; rfl
              · rw [decide_eq_false (by omega)]; simp [h3]
            · rw [if_neg (by exact_mod_cast h2), decide_eq_false (by omega)]
        · rw [if_neg (by simpa using hc), decide_eq_false (by omega)]
      · rw [if_neg h1]
        by_cases h2 : s = 2
        · rw [if_pos h2, impl_within.eq, Option.bind_some]
          by_cases hr : 2 ≤ r ∧ r ≤ 16
          · rw [if_pos (by simpa using hr)]
            by_cases hc : c = 0
            · rw [if_pos hc]
              congr 1
              rw [Bool.eq_iff_iff]
              simp
              omega
            · rw [if_neg hc, decide_eq_false (by omega)]
          · rw [if_neg (by simpa using hr), decide_eq_false (by omega)]
        · rw [if_neg h2, decide_eq_false (by omega)]
/-! ### impl_packed -/
theorem impl_packed.eq (s c r : Int) (n : Nat) (h : okc s c n r = true) : impl_packed.f s c (n : Int) r = some (pk s c n r) := by
  obtain ⟨⟨h1, h2⟩, ⟨h3, h4⟩, h5, h6, h7⟩ := okc_bounds h
  obtain ⟨s, rfl⟩ : ∃ m : Nat, s = m := ⟨s.toNat, by omega⟩
  obtain ⟨c, rfl⟩ : ∃ m : Nat, c = m := ⟨c.toNat, by omega⟩
  obtain ⟨r, rfl⟩ : ∃ m : Nat, r = m := ⟨r.toNat, by omega⟩
  unfold impl_packed.f pk
  have e1 : (((c : Int) % 4294967296) * 65536) % 4294967296 = ((c * 2 ^ 16 : Nat) : Int) := by omega
  have e2 : (((s : Int) % 4294967296) * 1048576) % 4294967296 = ((s * 2 ^ 20 : Nat) : Int) := by omega
  have e3 : (((r : Int) % 4294967296) * 16777216) % 4294967296 = ((r * 2 ^ 24 : Nat) : Int) := by omega
  rw [e1, e2, e3, or_nat (by omega) (by omega), or_join (by omega), or_nat (by omega) (by omega), or_join (by omega), or_nat (by omega) (by omega), or_join (by omega)]
  congr 1
  omega
/-! ### impl_CtlPack -/
theorem impl_CtlPack.ev (s c r : Int) (n : Nat) (hn : n < 2 ^ 32) : Ev (fun k => impl_CtlPack.f k s c (n : Int) r) (if okc s c n r = true then (pk s c n r, true) else (0, false)) := by
  refine Ev.congr (fun _ => rfl) (Ev.bind (f := fun _ (t : Bool) => if t = true then ((impl_packed.f s c (n : Int) r).bind fun u => some (u, true)) else some (0, false)) (impl_isCtl.ev s c r n hn) (Ev.const ?_))
  by_cases h : okc s c n r = true
  · rw [if_pos h, if_pos h, impl_packed.eq s c r n h, Option.bind_some]
  · rw [if_neg h, if_neg h]
/-! ### laws_FnExactCtlPack -/
theorem FnExactCtlPack (s c : Int) (n : Nat) (r : Int) (hn : n < 2 ^ 32) : ∃ k, laws_FnExactCtlPack.f k s c (n : Int) r = some true := by
  obtain ⟨k, e1, e2⟩ := ((spec_CtlPack.ev s c r n hn).and (impl_CtlPack.ev s c r n hn).last).pick
  refine ⟨k, ?_⟩
  simp only [laws_FnExactCtlPack.f, laws_toCtl.eq, e1, e2, Option.bind_some, if_true, bne_self_eq_false, Bool.false_eq_true, if_false]

end Go.Proofs.Ytjhbcfajgilllaa.Pure
