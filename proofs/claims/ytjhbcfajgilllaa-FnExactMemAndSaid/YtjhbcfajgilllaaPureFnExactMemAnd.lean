/-
  The law FnExactMemAnd: what both programs compute, in plain Lean, and that it is the same.
  Conditions: none beyond those of the statement itself.
-/
import Derived.Test.YtjhbcfajgilllaaPFnExactMemAndx5
import Derived.Test.YtjhbcfajgilllaaLib
namespace Go.Proofs.Ytjhbcfajgilllaa.Pure
open Go.RowKit Go.Proofs.Ytjhbcfajgilllaa.PFnExactMemAnd Go.Proofs.YtjhbcfajgilllaaW.PrintWords Go.Proofs.YtjhbcfajgilllaaW.PrintLast

/-! ### laws_szUint32S -/
theorem laws_szUint32S.eq (l : List Int) (a : Int) (h0 : 0 ≤ a) (h1 : a < 4611686018427387904) (hl : l.length ≤ maxLen) : laws_szUint32S.f l a = some (if (l.length : Int) ≤ a then a - l.length else -1) := by
  unfold laws_szUint32S.f
  unfold maxLen at hl
  rw [w64 (by omega) (by omega)]
  by_cases h : (l.length : Int) ≤ a
  · rw [if_neg (by omega), if_pos h]
  · rw [if_pos (by omega), if_neg h]
/-! ### laws_szMem -/
theorem laws_szMem.eq (l : List Int) (a : Int) (h0 : 0 ≤ a) (h1 : a < 4611686018427387904) (hl : l.length ≤ maxLen) : laws_szMem.f l a = some (if (l.length : Int) ≤ a then a - l.length else -1) := by
  unfold laws_szMem.f
  rw [laws_szUint32S.eq l a h0 h1 hl, Option.bind_some]
  by_cases h : (l.length : Int) ≤ a
  · rw [if_pos h, if_neg (by omega)]
  · rw [if_neg h, if_pos (by decide)]
/-! ### laws_toUint32S -/
theorem laws_toUint32S.loop (l : List Int) (hl : l.length < 4611686018427387904) (d : Nat) : ∀ (i : Nat) (o : List Int), o.length = l.length → i + d = l.length → o.take i = l.take i → Ev (fun k => laws_toUint32S.l0 k l o (i : Int)) l := by
  induction d with
  | zero =>
    intro i o ho hi ht
    have e : o = l := by
      rw [List.take_of_length_le (by omega), List.take_of_length_le (by omega)] at ht
      exact ht
    refine Ev.stop fun k => ?_
    simp only [laws_toUint32S.l0]
    rw [if_neg (by omega), e]
  | succ d ih =>
    intro i o ho hi ht
    refine Ev.step (f := fun k => laws_toUint32S.l0 k l (o.set i (rd l (i : Int))) ((i + 1 : Nat) : Int)) (fun k => ?_) (ih (i + 1) _ (by simpa using ho) (by omega) (take_set l o (by omega) (by omega) ht))
    simp only [laws_toUint32S.l0]
    rw [if_pos (by omega), if_pos (by omega), if_pos (by omega), w64_succ (by omega), Int.toNat_natCast]
theorem laws_toUint32S.ev (l : List Int) (hl : l.length ≤ 70368744177664) : Ev (fun k => laws_toUint32S.f k l) l := by
  refine Ev.congr (fun k => ?_) (laws_toUint32S.loop l (by omega) l.length 0 (List.replicate l.length 0) (by simp) (by omega) rfl)
  simp only [laws_toUint32S.f]
  rw [if_pos (by omega), Int.toNat_natCast, if_pos (by omega)]
  rfl
/-! ### laws_toMem -/
theorem laws_toMem.ev (l : List Int) (hl : l.length ≤ 35184372088832) : Ev (fun k => laws_toMem.f k l) l :=
  Ev.bind (f := fun _ (t : List Int) => some t) (laws_toUint32S.ev l (by omega)) (Ev.now _)
/-! ### laws_eqUint32S -/
theorem laws_eqUint32S.loop (l : List Int) (hl : l.length < 4611686018427387904) (d : Nat) : ∀ i : Nat, i + d = l.length → Ev (fun k => laws_eqUint32S.l0 k l l (i : Int)) true := by
  induction d with
  | zero =>
    intro i hi
    refine Ev.stop fun k => ?_
    simp only [laws_eqUint32S.l0]
    rw [if_neg (by omega)]
  | succ d ih =>
    intro i hi
    refine Ev.step (f := fun k => laws_eqUint32S.l0 k l l ((i + 1 : Nat) : Int)) (fun k => ?_) (ih (i + 1) (by omega))
    simp only [laws_eqUint32S.l0]
    rw [if_pos (by omega), if_pos (by omega), if_pos (by omega), if_pos trivial, w64_succ (by omega)]
theorem laws_eqUint32S.ev (l : List Int) (hl : l.length < 4611686018427387904) : Ev (fun k => laws_eqUint32S.f k l l) true := by
  refine Ev.congr (fun k => ?_) (laws_eqUint32S.loop l hl l.length 0 (by omega))
  simp only [laws_eqUint32S.f]
  rw [if_pos trivial]
  rfl
/-! ### laws_eqMem -/
theorem laws_eqMem.ev (l : List Int) (hl : l.length < 4611686018427387904) : Ev (fun k => laws_eqMem.f k l l) true :=
  Ev.bind (f := fun _ (t : Bool) => if t = true then some true else some false) (laws_eqUint32S.ev l hl) (Ev.const rfl)
/-! ### laws_markUint32S -/
theorem laws_markUint32S.loop (m : Nat) (hm : m < 4294967296) (d : Nat) : ∀ (i : Nat) (l : List Int), l.length = m → i + d = m → (∀ j : Nat, j < i → rd l (j : Int) = (j : Int) + 1) →
    ∃ l' : List Int, l'.length = m ∧ (∀ j : Nat, j < m → rd l' (j : Int) = (j : Int) + 1) ∧ Ev (fun k => laws_markUint32S.l0 k l ((i + 1 : Nat) : Int) (i : Int)) (((m + 1 : Nat) : Int), l') := by
  induction d with
  | zero =>
    intro i l hl hi hr
    obtain rfl : i = m := by omega
    refine ⟨l, hl, hr, Ev.stop fun k => ?_⟩
    simp only [laws_markUint32S.l0]
    rw [if_neg (by omega)]
  | succ d ih =>
    intro i l hl hi hr
    obtain ⟨l', h1, h2, h3⟩ := ih (i + 1) (l.set i ((i + 1 : Nat) : Int)) (by simpa using hl) (by omega) (by
      intro j hj
      by_cases e : j = i
      · subst e
        rw [rd_set_self _ _ (by omega)]
        omega
      · rw [rd_set_ne _ _ (by omega)]
        exact hr j (by omega))
    refine ⟨l', h1, h2, Ev.step (f := fun k => laws_markUint32S.l0 k (l.set i ((i + 1 : Nat) : Int)) ((i + 1 + 1 : Nat) : Int) ((i + 1 : Nat) : Int)) (fun k => ?_) h3⟩
    simp only [laws_markUint32S.l0]
    rw [if_pos (by omega), if_pos (by omega), w64_succ (by omega), w64_succ (by omega), Int.toNat_natCast, Int.emod_eq_of_lt (by omega) (by omega)]
theorem laws_markUint32S.ev (l : List Int) (hl : l.length < 4294967296) : ∃ l' : List Int, l'.length = l.length ∧ (∀ j : Nat, j < l.length → rd l' (j : Int) = (j : Int) + 1) ∧ Ev (fun k => laws_markUint32S.f k l 1) (((l.length + 1 : Nat) : Int), l') :=
  laws_markUint32S.loop l.length hl l.length 0 l rfl (by omega) (fun j hj => by omega)
/-! ### laws_markMem -/
theorem laws_markMem.ev (l : List Int) (hl : l.length < 4294967295) : ∃ l' : List Int, l'.length = l.length ∧ (∀ j : Nat, j < l.length → rd l' (j : Int) = (j : Int) + 1) ∧ Ev (fun k => laws_markMem.f k l 1) (((l.length + 1 : Nat) : Int), l') := by
  obtain ⟨l', h1, h2, h3⟩ := laws_markUint32S.ev l (by omega)
  exact ⟨l', h1, h2, Ev.bind (f := fun _ (t : Int × List Int) => some (t.1, t.2)) h3 (Ev.now _)⟩
/-! ### laws_heldUint32S -/
theorem laws_heldUint32S.loop (l : List Int) (hm : l.length < 4294967296) (hr : ∀ j : Nat, j < l.length → rd l (j : Int) = (j : Int) + 1) (d : Nat) : ∀ (i : Nat), i + d = l.length →
    Ev (fun k => laws_heldUint32S.l0 k l ((i + 1 : Nat) : Int) (i : Int)) ((l.length + 1 : Nat) : Int) := by
  induction d with
  | zero =>
    intro i hi
    refine Ev.stop fun k => ?_
    simp only [laws_heldUint32S.l0]
    rw [if_neg (by omega), show i = l.length by omega]
  | succ d ih =>
    intro i hi
    refine Ev.step (f := fun k => laws_heldUint32S.l0 k l ((i + 1 + 1 : Nat) : Int) ((i + 1 : Nat) : Int)) (fun k => ?_) (ih (i + 1) (by omega))
    simp only [laws_heldUint32S.l0]
    rw [if_pos (by omega), if_pos (by omega), hr i (by omega), if_pos (by omega), w64_succ (by omega), w64_succ (by omega)]
theorem laws_heldUint32S.ev (l : List Int) (hl : l.length < 4294967296) (hr : ∀ j : Nat, j < l.length → rd l (j : Int) = (j : Int) + 1) : Ev (fun k => laws_heldUint32S.f k l 1) ((l.length + 1 : Nat) : Int) :=
  laws_heldUint32S.loop l hl hr l.length 0 (by omega)
/-! ### laws_heldMem -/
theorem laws_heldMem.ev (l : List Int) (hl : l.length < 4294967295) (hr : ∀ j : Nat, j < l.length → rd l (j : Int) = (j : Int) + 1) : Ev (fun k => laws_heldMem.f k l 1) ((l.length + 1 : Nat) : Int) :=
  Ev.bind (f := fun _ (t : Int) => if t < 0 then some (-1) else some t) (laws_heldUint32S.ev l (by omega) hr) (Ev.const (by rw [if_neg (by omega)]))
/-! ### spec_MemOk -/
theorem spec_MemOk.eq (l : List Int) : spec_MemOk.f l = some (decide (l.length ≤ 64)) := by
  unfold spec_MemOk.f
  have : ((l.length : Int) ≤ 64) ↔ l.length ≤ 64 := by omega
  simp only [this]
/-! ### spec_l01Has -/
theorem spec_l01Has.eq (l : List Int) (a : Int) : spec_l01Has.f l a = some (decide (l.length ≤ 64 ∧ 0 ≤ a ∧ a < (l.length : Int))) := by
  unfold spec_l01Has.f
  rw [spec_MemOk.eq, Option.bind_some]
  by_cases h : l.length ≤ 64
  · rw [if_pos (by simpa using h)]
    by_cases h0 : a ≥ 0
    · rw [if_pos h0]
      congr 1
      exact decide_eq_decide.2 (by omega)
    · rw [if_neg h0, decide_eq_false (by omega)]
  · rw [if_neg (by simpa using h), decide_eq_false (by omega)]
/-! ### spec_MemStore -/
theorem spec_MemStore.eq (l : List Int) (a v : Int) : spec_MemStore.f l a v = some ((mch l a v).1, (mch l a v).2.2) := by
  unfold spec_MemStore.f mch
  rw [spec_l01Has.eq, Option.bind_some]
  by_cases h : l.length ≤ 64 ∧ 0 ≤ a ∧ a < (l.length : Int)
  · rw [if_pos (by simpa using h), Option.bind_some, if_pos (by simp; omega), List.nil_append, Option.bind_some, if_pos h.2.1, if_pos h.2.2, if_pos h]
  · rw [if_neg (by simpa using h), if_neg h]
/-! ### spec_l01Bits -/
theorem spec_l01Bits.loop (n : Nat) (hn : n < 2 ^ 32) (d : Nat) : ∀ i : Nat, i + d = 32 → Ev (fun k => spec_l01Bits.l0 k ((n / 2 ^ i : Nat) : Int) (btl n.testBit i) (i : Int)) (btl n.testBit 32) := by
  induction d with
  | zero =>
    intro i hi
    obtain rfl : i = 32 := by omega
    refine Ev.stop fun k => ?_
    simp only [spec_l01Bits.l0]
    rw [if_neg (by omega)]
  | succ d ih =>
    intro i hi
    refine Ev.step (f := fun k => spec_l01Bits.l0 k ((n / 2 ^ (i + 1) : Nat) : Int) (btl n.testBit (i + 1)) ((i + 1 : Nat) : Int)) (fun k => ?_) (ih (i + 1) (by omega))
    have hlen := btl_len n.testBit i
    have hlt := div_lt hn i
    have e1 : Int.tdiv ((n / 2 ^ i : Nat) : Int) 2 % 4294967296 = ((n / 2 ^ (i + 1) : Nat) : Int) := by
      rw [Int.tdiv_eq_ediv_of_nonneg (Int.natCast_nonneg _), Nat.pow_succ, ← Nat.div_div_eq_div_mul]
      generalize n / 2 ^ i = y at hlt ⊢
      omega
    have e2 : wrap64 (Int.tmod ((n / 2 ^ i : Nat) : Int) 2) = if n.testBit i = true then 1 else 0 := by
      rw [Int.tmod_eq_emod_of_nonneg (Int.natCast_nonneg _), Nat.testBit_eq_decide_div_mod_eq]
      have h := Nat.mod_two_eq_zero_or_one (n / 2 ^ i)
      have h2 : ((n / 2 ^ i : Nat) : Int) % 2 = ((n / 2 ^ i % 2 : Nat) : Int) := (Int.natCast_emod _ _).symm
      rw [h2]
      rcases h with h | h
      · rw [h]; exact wrap64_0
      · rw [h]; exact wrap64_1
    simp only [spec_l01Bits.l0]
    rw [if_pos (by omega), if_pos (by omega), w64_succ (by omega), e1, e2, btl_succ]
theorem spec_l01Bits.ev (n : Nat) (hn : n < 2 ^ 32) : Ev (fun k => spec_l01Bits.f k (n : Int)) (btl n.testBit 32) := by
  have h := spec_l01Bits.loop n hn 32 0 rfl
  rw [Nat.pow_zero, Nat.div_one] at h
  exact Ev.congr (fun _ => rfl) h
/-! ### spec_MemLoad -/
theorem spec_MemLoad.eq (l : List Int) (a : Int) : spec_MemLoad.f l a = some (mld l a) := by
  unfold spec_MemLoad.f mld
  rw [spec_l01Has.eq, Option.bind_some]
  by_cases h : l.length ≤ 64 ∧ 0 ≤ a ∧ a < (l.length : Int)
  · rw [if_pos (by simpa using h), if_pos h.2.1, if_pos h.2.2, if_pos h]
  · rw [if_neg (by simpa using h), if_neg h]
/-! ### spec_l01Word -/
theorem spec_l01Word.loop (p : Nat → Bool) : ∀ j : Nat, j ≤ 32 → Ev (fun k => spec_l01Word.l0 k (btl p 32) ((wd p 32 / 2 ^ j : Nat) : Int) ((j : Int) - 1)) ((wd p 32 : Nat) : Int) := by
  intro j
  induction j with
  | zero =>
    intro _
    refine Ev.stop fun k => ?_
    simp only [spec_l01Word.l0]
    rw [if_neg (by omega), Nat.pow_zero, Nat.div_one]
  | succ j ih =>
    intro hj
    refine Ev.step (f := fun k => spec_l01Word.l0 k (btl p 32) ((wd p 32 / 2 ^ j : Nat) : Int) ((j : Int) - 1)) (fun k => ?_) (ih (by omega))
    have hlen := btl_len p 32
    have hi : (((j + 1 : Nat) : Int) - 1) = (j : Int) := by omega
    have h1 := div_lt (wd_lt32 p) j
    have h2 : wd p 32 / 2 ^ (j + 1) = wd p 32 / 2 ^ j / 2 := by rw [Nat.pow_succ, Nat.div_div_eq_div_mul]
    have h3 : (if p j = true then (1 : Int) else 0) = ((wd p 32 / 2 ^ j % 2 : Nat) : Int) := by
      have hb := wd_bit p 32 j
      have hj' : j < 32 := by omega
      rw [Nat.testBit_eq_decide_div_mod_eq, decide_eq_true hj', Bool.true_and] at hb
      rcases Nat.mod_two_eq_zero_or_one (wd p 32 / 2 ^ j) with h | h
      · rw [h] at hb ⊢
        rw [← hb]; rfl
      · rw [h] at hb ⊢
        rw [← hb]; rfl
    have h4 : (((2 * ((wd p 32 / 2 ^ (j + 1) : Nat) : Int)) % 4294967296) + ((if p j = true then (1 : Int) else 0) % 4294967296)) % 4294967296 = ((wd p 32 / 2 ^ j : Nat) : Int) := by
      rw [h3, h2]
      generalize wd p 32 / 2 ^ j = y at h1 ⊢
      omega
    simp only [spec_l01Word.l0]
    rw [hi, if_pos (by omega), if_pos (by omega), if_pos (by omega), btl_rd p (by omega : j < 32), w64 (by omega) (by omega), h4]
theorem spec_l01Word.ev (p : Nat → Bool) : Ev (fun k => spec_l01Word.f k (btl p 32)) ((wd p 32 : Nat) : Int) := by
  have h := spec_l01Word.loop p 32 (Nat.le_refl _)
  rw [Nat.div_eq_of_lt (wd_lt32 p)] at h
  refine Ev.congr (fun k => ?_) h
  simp only [spec_l01Word.f]
  rw [btl_len, w64 (by omega) (by omega)]
  rfl
/-! ### spec_MemAnd -/
theorem mn_bits (c d : Bool) : mn (if c = true then (1 : Int) else 0) (if d = true then (1 : Int) else 0) = if (c && d) = true then (1 : Int) else 0 := by
  cases c <;> cases d <;> rfl
theorem spec_MemAnd.loop (p q : Nat → Bool) (l : List Int) (a x : Int) (b : Bool) (d : Nat) : ∀ i : Nat, i + d = 32 → Ev (fun k => spec_MemAnd.l0 k a x b (btl (fun j => if j < i then p j && q j else p j) 32) (btl q 32) (i : Int) l) ((mch l a ((wd (fun j => p j && q j) 32 : Nat) : Int)).1, x, b) := by
  induction d with
  | zero =>
    intro i hi
    obtain rfl : i = 32 := by omega
    have e : btl (fun j => if j < 32 then p j && q j else p j) 32 = btl (fun j => p j && q j) 32 := btl_congr fun j hj => if_pos hj
    refine Ev.step (f := fun k => (spec_l01Word.f k (btl (fun j => p j && q j) 32)).bind fun t => (spec_MemStore.f l a t).bind fun bt => some (bt.1, x, b)) (fun k => ?_) (Ev.bind (f := fun _ (t : Int) => (spec_MemStore.f l a t).bind fun bt => some (bt.1, x, b)) (spec_l01Word.ev _) (Ev.const (by rw [spec_MemStore.eq, Option.bind_some])))
    simp only [spec_MemAnd.l0]
    rw [e, if_neg (by omega)]
  | succ d ih =>
    intro i hi
    refine Ev.step (f := fun k => spec_MemAnd.l0 k a x b (btl (fun j => if j < i + 1 then p j && q j else p j) 32) (btl q 32) ((i + 1 : Nat) : Int) l) (fun k => ?_) (ih (i + 1) (by omega))
    have h1 : rd (btl (fun j => if j < i then p j && q j else p j) 32) (i : Int) = if p i = true then 1 else 0 := (btl_rd _ (by omega : i < 32)).trans (by rw [if_neg (Nat.lt_irrefl i)])
    have h2 : rd (btl q 32) (i : Int) = if q i = true then 1 else 0 := btl_rd q (by omega)
    have e : btl (fun j => if j = i then (p i && q i) else if j < i then p j && q j else p j) 32 = btl (fun j => if j < i + 1 then p j && q j else p j) 32 := by
      refine btl_congr fun j _ => ?_
      by_cases hj : j = i
      · subst hj; rw [if_pos rfl, if_pos (Nat.lt_succ_self _)]
      · by_cases hk : j < i
        · rw [if_neg hj, if_pos hk, if_pos (by omega)]
        · rw [if_neg hj, if_neg hk, if_neg (by omega)]
    simp only [spec_MemAnd.l0]
    rw [if_pos (by omega), if_pos (by omega), if_pos (by rw [btl_len]; omega), if_pos (by rw [btl_len]; omega), h1, h2, mn_bits, w64_succ (by omega), Int.toNat_natCast, btl_put _ _ (by omega), e]
theorem spec_MemAnd.ev (l : List Int) (a v : Int) (hl : ∀ x ∈ l, 0 ≤ x ∧ x < 4294967296) (hv : 0 ≤ v ∧ v < 4294967296) : Ev (fun k => spec_MemAnd.f k l a v) (mch l a (bits BinOp.and IntKind.u32 (rd l a) v)) := by
  obtain ⟨n, hn, en⟩ : ∃ n : Nat, n < 4294967296 ∧ (mld l a).1 = (n : Int) := by
    by_cases h : l.length ≤ 64 ∧ 0 ≤ a ∧ a < (l.length : Int)
    · have hx := rd_all hl h.2.1 h.2.2
      exact ⟨(rd l a).toNat, by omega, by unfold mld; rw [if_pos h]; exact (Int.toNat_of_nonneg hx.1).symm⟩
    · exact ⟨0, by decide, by unfold mld; rw [if_neg h]; rfl⟩
  obtain ⟨m, rfl⟩ := Int.eq_ofNat_of_zero_le hv.1
  have hm : m < 4294967296 := by omega
  have h0 := spec_MemAnd.loop n.testBit m.testBit l a (mld l a).1 (mld l a).2 32 0 rfl
  have e0 : btl (fun j => if j < 0 then n.testBit j && m.testBit j else n.testBit j) 32 = btl n.testBit 32 := btl_congr fun j _ => if_neg (Nat.not_lt_zero j)
  rw [e0] at h0
  have ew : wd (fun j => n.testBit j && m.testBit j) 32 = n &&& m := wd_eq (Nat.and_lt_two_pow (n := 32) n hm) fun i _ => Nat.testBit_and n m i
  have hr : ((mch l a ((wd (fun j => n.testBit j && m.testBit j) 32 : Nat) : Int)).1, (mld l a).1, (mld l a).2) = mch l a (bits BinOp.and IntKind.u32 (rd l a) (m : Int)) := by
    by_cases h : l.length ≤ 64 ∧ 0 ≤ a ∧ a < (l.length : Int)
    · have e2 : rd l a = (n : Int) := by rw [← en]; unfold mld; rw [if_pos h]
      have hw : ∀ n : Int, 0 ≤ n → n < 2 ^ 32 → IntKind.u32.wrap n = n := fun n h0 h1 => by rw [IntKind.wrap_u32]; omega
      rw [e2, (bits_nat .u32 32 (by decide) hw n m hn hm).1, ew]
      unfold mch mld
      rw [if_pos h, if_pos h]
    · unfold mch mld
      rw [if_neg h, if_neg h, if_neg h]
  rw [hr] at h0
  refine Ev.congr (fun k => ?_) (Ev.bind (f := fun k t => (spec_l01Bits.f k (m : Int)).bind fun t' => spec_MemAnd.l0 k a (mld l a).1 (mld l a).2 t t' 0 l) (spec_l01Bits.ev n hn) (Ev.bind (f := fun k t' => spec_MemAnd.l0 k a (mld l a).1 (mld l a).2 (btl n.testBit 32) t' 0 l) (spec_l01Bits.ev m hm) h0))
  unfold spec_MemAnd.f
  rw [spec_MemLoad.eq, Option.bind_some, en]
/-! ### impl_within -/
theorem impl_within.eq (a lo hi : Int) : impl_within.f a lo hi = some (decide (lo ≤ a ∧ a ≤ hi)) := by
  unfold impl_within.f
  split
  · rename_i h
    have : lo ≤ a := h
    simp [this]
  · rename_i h
    have : ¬ lo ≤ a := h
    simp [this]
/-! ### impl_MemOk -/
theorem impl_MemOk.eq (l : List Int) : impl_MemOk.f l = some (decide (l.length ≤ 64)) := by
  unfold impl_MemOk.f
  have : ((l.length : Int) ≤ 64) ↔ l.length ≤ 64 := by omega
  simp only [this]
/-! ### impl_Mem_has -/
theorem impl_Mem_has.eq (l : List Int) (a : Int) : impl_Mem_has.f l a = some (decide (l.length ≤ 64 ∧ 0 ≤ a ∧ a < (l.length : Int))) := by
  unfold impl_Mem_has.f
  rw [impl_MemOk.eq, Option.bind_some]
  by_cases h : l.length ≤ 64
  · rw [if_pos (by simpa using h), impl_within.eq, Option.bind_some, w64 (by omega) (by omega)]
    congr 1
    exact decide_eq_decide.2 (by omega)
  · rw [if_neg (by simpa using h), decide_eq_false (by omega)]
/-! ### slices_Clone_uint32_uint32 -/
theorem slices_Clone_uint32_uint32.eq (l : List Int) (hl : l.length < 17592186044416) : slices_Clone_uint32_uint32.f l = some l := by
  unfold slices_Clone_uint32_uint32.f
  rw [Option.bind_some, if_pos (by simp; omega), List.nil_append]
/-! ### impl_Mem_changed -/
theorem impl_Mem_changed.eq (l : List Int) (a v : Int) : impl_Mem_changed.f l a v = some (mch l a v) := by
  unfold impl_Mem_changed.f mch
  rw [impl_Mem_has.eq, Option.bind_some]
  by_cases h : l.length ≤ 64 ∧ 0 ≤ a ∧ a < (l.length : Int)
  · rw [if_pos (by simpa using h), slices_Clone_uint32_uint32.eq l (by omega), Option.bind_some, if_pos h.2.1, if_pos h.2.2, if_pos h.2.2, if_pos h]
  · rw [if_neg (by simpa using h), if_neg h]
/-! ### impl_MemAnd -/
theorem impl_MemAnd.eq (l : List Int) (a v : Int) : impl_MemAnd.f l a v = some (mch l a (bits BinOp.and IntKind.u32 (rd l a) v)) := by
  unfold impl_MemAnd.f
  rw [impl_Mem_changed.eq, Option.bind_some]
/-! ### laws_FnExactMemAnd -/
theorem FnExactMemAnd (l : List Int) (a : Int) (n : Nat) (hl : l.length ≤ maxLen) (hw : ∀ x ∈ l, (Lit.int .u32 x).wf = true) (hn : n < 2 ^ 32) : ∃ k, laws_FnExactMemAnd.f k l a (n : Int) = some true := by
  have hb : ∀ x ∈ l, 0 ≤ x ∧ x < 4294967296 := fun x hx => by
    have := bounds_u32 (hw x hx)
    omega
  have hv : 0 ≤ (n : Int) ∧ (n : Int) < 4294967296 := by omega
  generalize (n : Int) = v at hv ⊢
  by_cases h : (l.length : Int) ≤ 1048576
  · have hr := mch_len l a (bits BinOp.and IntKind.u32 (rd l a) v)
    generalize hM : mch l a (bits BinOp.and IntKind.u32 (rd l a) v) = M at hr
    obtain ⟨l', hl', hx, hm⟩ := laws_markMem.ev l (by omega)
    obtain ⟨r', hr', hy, hn⟩ := laws_markMem.ev M.1 (by omega)
    have hh := laws_heldMem.ev r' (by omega) (by rw [hr']; exact hy)
    rw [hr'] at hh
    have hs := spec_MemAnd.ev l a v hb hv
    rw [hM] at hs
    obtain ⟨K, hK⟩ := hs.and ((laws_toMem.ev l (by omega)).and ((laws_eqMem.ev l (by omega)).and ((laws_eqMem.ev M.1 (by omega)).and (hm.and (hn.and hh.last)))))
    have n1 : ¬ ((l.length + 1 : Nat) : Int) < 0 := by omega
    have n2 : ¬ ((M.1.length + 1 : Nat) : Int) < 0 := by omega
    obtain ⟨_, _, _, _, _, _, g0⟩ := hK K (Nat.le_refl _)
    obtain ⟨_, a1, _, c1, _, f1, g1⟩ := hK (K + 1) (by omega)
    obtain ⟨_, a2, b2, c2, d2, f2, g2⟩ := hK (K + 1 + 1) (by omega)
    obtain ⟨s3, a3, b3, c3, d3, f3, g3⟩ := hK (K + 1 + 1 + 1) (by omega)
    have j2 : laws_FnExactMemAnd.j2 (K + 1) ((M.1.length + 1 : Nat) : Int) false r' = some true := by
      simp only [laws_FnExactMemAnd.j2]
      rw [if_neg (by decide), g0, Option.bind_some, if_neg n2, if_pos rfl]
    have j1 : laws_FnExactMemAnd.j1 (K + 1 + 1) a v M.2.1 M.2.2 false l M.1 M.1 = some true := by
      simp only [laws_FnExactMemAnd.j1]
      rw [if_neg (by decide), f1, Option.bind_some, g1, Option.bind_some, if_neg n2, if_pos rfl, a1, Option.bind_some, impl_MemAnd.eq, hM, Option.bind_some, c1, Option.bind_some, if_pos rfl, if_pos rfl, bne_self_eq_false, j2]
    have j0 : laws_FnExactMemAnd.j0 (K + 1 + 1 + 1) a v M.2.1 M.2.2 M.2.1 M.2.2 false l M.1 l M.1 = some true := by
      simp only [laws_FnExactMemAnd.j0]
      rw [if_neg (by decide), a2, Option.bind_some, b2, Option.bind_some, if_pos rfl, d2, Option.bind_some, if_neg n1, c2, Option.bind_some, if_pos rfl, if_pos trivial, bne_self_eq_false, j1]
    refine ⟨K + 1 + 1 + 1, ?_⟩
    unfold laws_FnExactMemAnd.f
    rw [laws_szMem.eq l 1048576 (by omega) (by omega) hl, if_pos h, Option.bind_some, if_neg (by omega), a3, Option.bind_some, s3, Option.bind_some, Option.bind_some, impl_MemAnd.eq, hM, Option.bind_some, c3, Option.bind_some, if_pos rfl, if_pos rfl, bne_self_eq_false, j0]
  · refine ⟨0, ?_⟩
    unfold laws_FnExactMemAnd.f
    rw [laws_szMem.eq l 1048576 (by omega) (by omega) hl, if_neg h, Option.bind_some, if_pos (by omega)]

end Go.Proofs.Ytjhbcfajgilllaa.Pure
