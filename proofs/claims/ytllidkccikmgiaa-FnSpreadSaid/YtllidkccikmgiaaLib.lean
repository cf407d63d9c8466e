/-
  Plain lemmas on words and their bits, on lists of bits, and on the rounds of printed functions. No program is in sight here.
  Conditions: none beyond those that each lemma names.
-/
import Derived.Test.YtllidkccikmgiaaWMore
import Derived.OpenShut
import Derived.Lib.TrailingZeros
namespace Go.Proofs.Ytllidkccikmgiaa.Pure
open Go.RowKit Go.Proofs.YtllidkccikmgiaaW.PrintWords Go.Proofs.YtllidkccikmgiaaW.PrintLast Go.Proofs.YtllidkccikmgiaaW.PrintMore

/-! ### numbers -/
theorem w64 {x : Int} (h0 : -9223372036854775808 ≤ x) (h1 : x < 9223372036854775808) : wrap64 x = x := by
  unfold wrap64; omega
theorem w64_nat {n : Nat} (h : n < 4611686018427387904) : wrap64 (n : Int) = n := w64 (by omega) (by omega)
theorem w64_succ {n : Nat} (h : n < 4611686018427387904) : wrap64 ((n : Int) + 1) = ((n + 1 : Nat) : Int) := by
  rw [w64 (by omega) (by omega)]; omega
theorem u32_nat {a : Int} (h : (Lit.int .u32 a).wf = true) : ∃ n : Nat, a = n ∧ n < 2 ^ 32 := by
  have := bounds_u32 h
  exact ⟨a.toNat, by omega, by omega⟩
theorem wraps_u32 (n : Int) (h₀ : 0 ≤ n) (h₁ : n < 2 ^ 32) : IntKind.u32.wrap n = n := by rw [IntKind.wrap_u32]; omega
theorem and_nat {a b : Nat} (ha : a < 2 ^ 32) (hb : b < 2 ^ 32) : Go.bits .and .u32 (a : Int) (b : Int) = ((a &&& b : Nat) : Int) :=
  (bits_nat .u32 32 (by decide) wraps_u32 a b ha hb).1
theorem or_nat {a b : Nat} (ha : a < 2 ^ 32) (hb : b < 2 ^ 32) : Go.bits .or .u32 (a : Int) (b : Int) = ((a ||| b : Nat) : Int) :=
  (bits_nat .u32 32 (by decide) wraps_u32 a b ha hb).2
theorem shr_nat (n : Nat) {i : Nat} (hi : i ≤ 32) : shr .u32 (n : Int) (i : Int) = ((n / 2 ^ i : Nat) : Int) := by
  unfold shr
  have : min (i : Int).toNat (IntKind.u32).bits = i := by
    show min (i : Int).toNat 32 = i
    omega
  rw [this]
  simp
theorem div_lt {n : Nat} (h : n < 2 ^ 32) (i : Nat) : n / 2 ^ i < 2 ^ 32 := Nat.lt_of_le_of_lt (Nat.div_le_self _ _) h
/-- Bit i of a word, as the program asks for it. -/
theorem bit_at {n i : Nat} (hn : n < 2 ^ 32) (hi : i ≤ 32) : Go.bits .and .u32 (shr .u32 (n : Int) (i : Int)) 1 = if n.testBit i then 1 else 0 := by
  rw [shr_nat n hi]
  have := and_nat (a := n / 2 ^ i) (b := 1) (div_lt hn i) (by decide)
  rw [show ((1 : Nat) : Int) = 1 from rfl] at this
  rw [this, Nat.and_one_is_mod, Nat.testBit_eq_decide_div_mod_eq]
  have h2 := Nat.mod_two_eq_zero_or_one (n / 2 ^ i)
  rcases h2 with h2 | h2 <;> simp [h2]
theorem shl_one {i : Nat} (hi : i < 32) : shl .u32 1 (i : Int) = ((2 ^ i : Nat) : Int) := by
  unfold shl
  have : min (i : Int).toNat (IntKind.u32).bits = i := by
    show min (i : Int).toNat 32 = i
    omega
  rw [this]
  have hp : (2 : Nat) ^ i < 2 ^ 32 := Nat.pow_lt_pow_right (by decide) hi
  have h1 : (1 : Int) * 2 ^ i = ((2 ^ i : Nat) : Int) := by simp
  rw [h1]
  exact wraps_u32 _ (Int.natCast_nonneg _) (by exact_mod_cast hp)
theorem two_pow_lt {i : Nat} (hi : i < 32) : (2 : Nat) ^ i < 2 ^ 32 := Nat.pow_lt_pow_right (by decide) hi

/-! ### a word out of its bits -/
/-- The word of the bits below m for which p holds. -/
def wd (p : Nat → Bool) : Nat → Nat
  | 0 => 0
  | m + 1 => wd p m + if p m then 2 ^ m else 0
theorem wd_lt (p : Nat → Bool) (m : Nat) : wd p m < 2 ^ m := by
  induction m with
  | zero => simp [wd]
  | succ m ih =>
    simp only [wd]
    rw [Nat.pow_succ]
    split <;> omega
theorem wd_lt32 (p : Nat → Bool) : wd p 32 < 2 ^ 32 := wd_lt p 32
theorem wd_bit (p : Nat → Bool) (m i : Nat) : (wd p m).testBit i = (decide (i < m) && p i) := by
  induction m with
  | zero => simp [wd]
  | succ m ih =>
    simp only [wd]
    have hlt := wd_lt p m
    by_cases hp : p m
    · simp only [hp, if_true]
      have e : wd p m + 2 ^ m = 2 ^ m * 1 + wd p m := by omega
      rw [e, Nat.testBit_two_pow_mul_add _ hlt]
      by_cases h : i < m
      · rw [if_pos h, ih]
        have : i < m + 1 := by omega
        simp [h, this]
      · rw [if_neg h]
        by_cases h2 : i = m
        · subst h2; simp [hp]
        · have h3 : ¬ i < m + 1 := by omega
          have h4 : 1 ≤ i - m := by omega
          have h5 : Nat.testBit 1 (i - m) = false := by
            rw [Nat.testBit_eq_decide_div_mod_eq]
            have : 1 / 2 ^ (i - m) = 0 := Nat.div_eq_of_lt (Nat.one_lt_two_pow (by omega))
            rw [this]; rfl
          simp [h3, h5]
    · have hp' : p m = false := by simpa using hp
      simp only [hp', Bool.false_eq_true, if_false, Nat.add_zero]
      rw [ih]
      by_cases h : i < m
      · have : i < m + 1 := by omega
        simp [h, this]
      · by_cases h2 : i = m
        · subst h2; simp [hp']
        · have h3 : ¬ i < m + 1 := by omega
          simp [h, h3]
theorem wd_congr {p q : Nat → Bool} {m : Nat} (h : ∀ i, i < m → p i = q i) : wd p m = wd q m := by
  refine Nat.eq_of_testBit_eq fun i => ?_
  rw [wd_bit, wd_bit]
  by_cases hi : i < m
  · rw [h i hi]
  · simp [hi]
theorem bit_ge {n i : Nat} (hn : n < 2 ^ 32) (hi : 32 ≤ i) : n.testBit i = false := by
  rw [Nat.testBit_eq_decide_div_mod_eq]
  have : n / 2 ^ i = 0 := Nat.div_eq_of_lt (Nat.lt_of_lt_of_le hn (Nat.pow_le_pow_right (by decide) hi))
  rw [this]; rfl
theorem wd_self {n : Nat} (hn : n < 2 ^ 32) : wd n.testBit 32 = n := by
  refine Nat.eq_of_testBit_eq fun i => ?_
  rw [wd_bit]
  by_cases hi : i < 32
  · simp [hi]
  · simp [hi, bit_ge hn (by omega : 32 ≤ i)]
theorem wd_eq {n : Nat} {p : Nat → Bool} (hn : n < 2 ^ 32) (h : ∀ i, i < 32 → n.testBit i = p i) : wd p 32 = n := by
  rw [← wd_self hn]; exact wd_congr fun i hi => (h i hi).symm
theorem eq_of_bits {a b : Nat} (ha : a < 2 ^ 32) (hb : b < 2 ^ 32) (h : ∀ i, i < 32 → a.testBit i = b.testBit i) : a = b := by
  refine Nat.eq_of_testBit_eq fun i => ?_
  by_cases hi : i < 32
  · exact h i hi
  · rw [bit_ge ha (by omega), bit_ge hb (by omega)]
theorem wd_or (p : Nat → Bool) {b : Nat} (hb : b < 32) : wd p 32 ||| 2 ^ b = wd (fun j => p j || j == b) 32 := by
  refine eq_of_bits (Nat.or_lt_two_pow (wd_lt p 32) (two_pow_lt hb)) (wd_lt _ 32) fun i hi => ?_
  rw [Nat.testBit_or, wd_bit, wd_bit, Nat.testBit_two_pow]
  simp only [hi, decide_true, Bool.true_and]
  congr 1
  by_cases e : b = i
  · subst e; simp
  · have : ¬ i = b := fun h => e h.symm
    simp [e, this]

/-! ### the list of the bits, and the list of the places of the ones -/
def btl (p : Nat → Bool) (m : Nat) : List Int := (List.range m).map fun i => if p i then 1 else 0
theorem btl_len (p : Nat → Bool) (m : Nat) : (btl p m).length = m := by simp [btl]
theorem btl_succ (p : Nat → Bool) (m : Nat) : btl p (m + 1) = btl p m ++ [if p m then 1 else 0] := by
  simp [btl, List.range_succ]
theorem btl_rd (p : Nat → Bool) {m i : Nat} (hi : i < m) : rd (btl p m) (i : Int) = if p i then 1 else 0 := by
  unfold rd btl
  rw [List.getD_eq_getElem?_getD]
  simp [hi]
theorem btl_set (p : Nat → Bool) (m : Nat) {b : Nat} (_hb : b < m) : (btl p m).set b 1 = btl (fun j => p j || j == b) m := by
  refine List.ext_getElem (by simp [btl]) fun i h1 h2 => ?_
  rw [List.getElem_set]
  simp only [btl, List.getElem_map, List.getElem_range]
  by_cases e : b = i
  · subst e; simp
  · have : ¬ i = b := fun h => e h.symm
    simp [e, this]
theorem btl_none (m : Nat) : List.replicate m (0 : Int) = btl (fun _ => false) m := by
  induction m with
  | zero => rfl
  | succ m ih => rw [btl_succ, ← ih, List.replicate_succ']; rfl
theorem btl_congr {p q : Nat → Bool} {m : Nat} (h : ∀ i, i < m → p i = q i) : btl p m = btl q m := by
  unfold btl
  refine List.map_congr_left fun i hi => ?_
  rw [h i (List.mem_range.1 hi)]

/-- The places below m where p holds, in order. -/
def blp (p : Nat → Bool) : Nat → List Int
  | 0 => []
  | m + 1 => blp p m ++ if p m then [(m : Int)] else []
theorem blp_len_le (p : Nat → Bool) (m : Nat) : (blp p m).length ≤ m := by
  induction m with
  | zero => simp [blp]
  | succ m ih =>
    simp only [blp, List.length_append]
    split <;> simp <;> omega
theorem blp_mem (p : Nat → Bool) (m : Nat) (x : Int) : x ∈ blp p m ↔ ∃ i : Nat, i < m ∧ p i = true ∧ x = i := by
  induction m with
  | zero => simp [blp]
  | succ m ih =>
    simp only [blp, List.mem_append, ih]
    constructor
    · rintro (⟨i, h1, h2, h3⟩ | h)
      · exact ⟨i, by omega, h2, h3⟩
      · by_cases hp : p m
        · rw [if_pos hp] at h
          exact ⟨m, by omega, hp, by simpa using h⟩
        · rw [if_neg hp] at h; cases h
    · rintro ⟨i, h1, h2, h3⟩
      by_cases e : i = m
      · subst e; right; rw [if_pos h2]; simp [h3]
      · exact .inl ⟨i, by omega, h2, h3⟩
theorem blp_congr {p q : Nat → Bool} {m : Nat} (h : ∀ i, i < m → p i = q i) : blp p m = blp q m := by
  induction m with
  | zero => rfl
  | succ m ih => simp only [blp]; rw [ih fun i hi => h i (by omega), h m (by omega)]
/-- How many places below m. -/
def cnt (p : Nat → Bool) : Nat → Nat
  | 0 => 0
  | m + 1 => cnt p m + if p m then 1 else 0
theorem blp_len (p : Nat → Bool) (m : Nat) : (blp p m).length = cnt p m := by
  induction m with
  | zero => rfl
  | succ m ih => simp only [blp, cnt, List.length_append, ih]; split <;> rfl
theorem cnt_le (p : Nat → Bool) (m : Nat) : cnt p m ≤ m := by rw [← blp_len]; exact blp_len_le p m
theorem cnt_congr {p q : Nat → Bool} {m : Nat} (h : ∀ i, i < m → p i = q i) : cnt p m = cnt q m := by
  rw [← blp_len, ← blp_len, blp_congr h]
/-- The first n places of p. -/
def tk (p : Nat → Bool) (n : Nat) (j : Nat) : Bool := p j && decide (cnt p j < n)
theorem blp_take (p : Nat → Bool) (n m : Nat) : (blp p m).take n = blp (tk p n) m := by
  induction m with
  | zero => simp [blp]
  | succ m ih =>
    simp only [blp]
    rw [List.take_append, ih, blp_len]
    congr 1
    by_cases hp : p m
    · by_cases hc : cnt p m < n
      · obtain ⟨d, hd⟩ : ∃ d, n - cnt p m = d + 1 := ⟨n - cnt p m - 1, by omega⟩
        simp [hp, tk, hc, hd]
      · have : n - cnt p m = 0 := by omega
        simp [tk, hc, this]
    · simp [hp, tk]
theorem blp_get (p : Nat → Bool) {m j : Nat} (hj : j < m) (hp : p j = true) : (blp p m)[cnt p j]? = some (j : Int) := by
  induction m with
  | zero => omega
  | succ m ih =>
    simp only [blp]
    by_cases e : j = m
    · subst e
      rw [List.getElem?_append_right (by rw [blp_len]; exact Nat.le_refl _), blp_len, if_pos hp]
      simp
    · have h1 : j < m := by omega
      have h2 := ih h1
      rw [List.getElem?_append_left (by
        have := (List.getElem?_eq_some_iff.1 h2).1
        exact this)]
      exact h2
theorem blp_nth (p : Nat → Bool) {m k : Nat} (hk : k < (blp p m).length) : ∃ j, j < m ∧ p j = true ∧ cnt p j = k ∧ (blp p m)[k]? = some (j : Int) := by
  induction m with
  | zero => simp [blp] at hk
  | succ m ih =>
    simp only [blp] at hk ⊢
    by_cases h : k < (blp p m).length
    · obtain ⟨j, h1, h2, h3, h4⟩ := ih h
      exact ⟨j, by omega, h2, h3, by rw [List.getElem?_append_left h]; exact h4⟩
    · by_cases hp : p m
      · rw [if_pos hp] at hk ⊢
        have hk' : k = (blp p m).length := by simp at hk; omega
        refine ⟨m, by omega, hp, by rw [hk', blp_len], ?_⟩
        rw [List.getElem?_append_right (by omega), hk']
        simp
      · rw [if_neg hp] at hk; simp at hk; omega
/-- The list from its first place on. -/
theorem blp_first (p : Nat → Bool) {b m : Nat} (hb : p b = true) (hlo : ∀ j, j < b → p j = false) : blp p m = if b < m then (b : Int) :: blp (fun j => p j && !(j == b)) m else [] := by
  induction m with
  | zero => simp [blp]
  | succ m ih =>
    simp only [blp]
    rw [ih]
    by_cases h : b < m
    · have h' : b < m + 1 := by omega
      have hne : (m == b) = false := by simp; omega
      rw [if_pos h, if_pos h']
      simp only [hne, Bool.not_false, Bool.and_true, List.cons_append]
    · rw [if_neg h]
      by_cases e : b = m
      · subst e
        have h' : b < b + 1 := by omega
        rw [if_pos hb, if_pos h']
        have : blp (fun j => p j && !(j == b)) b = [] := by
          apply List.eq_nil_iff_forall_not_mem.2
          intro x hx
          obtain ⟨i, h1, h2, _⟩ := (blp_mem _ _ _).1 hx
          rw [hlo i h1] at h2
          cases h2
        rw [this]
        simp
      · have h' : ¬ b < m + 1 := by omega
        rw [if_neg h', hlo m (by omega)]
        simp
theorem blp_none {p : Nat → Bool} {m : Nat} (h : ∀ j, j < m → p j = false) : blp p m = [] := by
  apply List.eq_nil_iff_forall_not_mem.2
  intro x hx
  obtain ⟨i, h1, h2, _⟩ := (blp_mem _ _ _).1 hx
  rw [h i h1] at h2
  cases h2
theorem low_or_none (p : Nat → Bool) (m : Nat) : (∀ j, j < m → p j = false) ∨ ∃ b, b < m ∧ p b = true ∧ ∀ j, j < b → p j = false := by
  induction m with
  | zero => exact .inl fun j hj => by omega
  | succ m ih =>
    rcases ih with h | ⟨b, h1, h2, h3⟩
    · by_cases hp : p m = true
      · exact .inr ⟨m, by omega, hp, h⟩
      · refine .inl fun j hj => ?_
        by_cases e : j = m
        · subst e; simpa using hp
        · exact h j (by omega)
    · exact .inr ⟨b, by omega, h2, h3⟩

/-! ### a list of places taken back to its bits -/
/-- What both programs do with a list of places: none where one is out of range or met twice. -/
def okL (q : Nat → Bool) : List Int → Option (Nat → Bool)
  | [] => some q
  | b :: l => if b < 0 ∨ b > 31 then none else if q b.toNat then none else okL (fun j => q j || j == b.toNat) l
def bof (l : List Int) : Int × Bool := match okL (fun _ => false) l with
  | none => (0, false)
  | some q => ((wd q 32 : Nat), true)
theorem okL_append (q : Nat → Bool) (l l' : List Int) : okL q (l ++ l') = (okL q l).bind fun q' => okL q' l' := by
  induction l generalizing q with
  | nil => rfl
  | cons b l ih =>
    simp only [List.cons_append, okL]
    split
    · rfl
    · split
      · rfl
      · exact ih _
theorem okL_blp (p : Nat → Bool) {m : Nat} (hm : m ≤ 32) : ∃ q, okL (fun _ => false) (blp p m) = some q ∧ ∀ j, q j = (p j && decide (j < m)) := by
  induction m with
  | zero => exact ⟨_, rfl, fun j => by simp⟩
  | succ m ih =>
    obtain ⟨q, h1, h2⟩ := ih (by omega)
    simp only [blp]
    rw [okL_append, h1]
    by_cases hp : p m
    · rw [if_pos hp]
      simp only [Option.bind_some, okL]
      rw [if_neg (by omega)]
      have : q (m : Int).toNat = false := by rw [h2]; simp
      rw [this]
      refine ⟨_, rfl, fun j => ?_⟩
      show (q j || j == m) = _
      rw [h2]
      by_cases e : j = m
      · subst e; simp [hp]
      · have : (j < m + 1) ↔ j < m := by omega
        simp [e, this]
    · rw [if_neg hp]
      refine ⟨q, rfl, fun j => ?_⟩
      rw [h2]
      by_cases e : j = m
      · subst e; simp [hp]
      · have : (j < m + 1) ↔ j < m := by omega
        simp [this]
theorem bof_blp (p : Nat → Bool) {m : Nat} (hm : m ≤ 32) : bof (blp p m) = (((wd (fun j => p j && decide (j < m)) 32 : Nat) : Int), true) := by
  obtain ⟨q, h1, h2⟩ := okL_blp p hm
  unfold bof
  rw [h1]
  have : wd q 32 = wd (fun j => p j && decide (j < m)) 32 := wd_congr fun i _ => h2 i
  simp only [this]
theorem bof_blp32 (p : Nat → Bool) : bof (blp p 32) = (((wd p 32 : Nat) : Int), true) := by
  rw [bof_blp p (Nat.le_refl _)]
  have : wd (fun j => p j && decide (j < 32)) 32 = wd p 32 := wd_congr fun i hi => by simp [hi]
  rw [this]
theorem bof_bits {n : Nat} (hn : n < 2 ^ 32) : bof (blp n.testBit 32) = (((n : Nat) : Int), true) := by rw [bof_blp32, wd_self hn]

/-! ### the lowest bit -/
theorem pow_succ_two (b : Nat) : (2 : Nat) ^ (b + 1) = 2 * 2 ^ b := by rw [Nat.pow_succ]; omega
theorem split_low {n b : Nat} (hb : n.testBit b = true) (hlo : ∀ j, j < b → n.testBit j = false) : ∃ q, n = 2 ^ b * (2 * q + 1) := by
  have h1 : n % 2 ^ b = 0 := by
    refine Nat.eq_of_testBit_eq fun i => ?_
    rw [Nat.testBit_mod_two_pow, Nat.zero_testBit]
    by_cases hi : i < b
    · simp [hlo i hi]
    · simp [hi]
  rw [Nat.testBit_eq_decide_div_mod_eq] at hb
  have hb' : n / 2 ^ b % 2 = 1 := by simpa using hb
  refine ⟨n / 2 ^ b / 2, ?_⟩
  have h2 := Nat.div_add_mod n (2 ^ b)
  have h3 : 2 * (n / 2 ^ b / 2) + 1 = n / 2 ^ b := by omega
  rw [h3]
  omega
theorem clear_low {n b : Nat} (hb : n.testBit b = true) (hlo : ∀ j, j < b → n.testBit j = false) (i : Nat) : (n &&& (n - 1)).testBit i = (n.testBit i && !(i == b)) := by
  obtain ⟨q, hq⟩ := split_low hb hlo
  have hpos : 0 < 2 ^ b := Nat.two_pow_pos b
  have e1 : n - 1 = 2 ^ b * (2 * q) + (2 ^ b - 1) := by
    rw [hq, Nat.mul_add]
    omega
  have hlt : 2 ^ b - 1 < 2 ^ b := by omega
  rw [Nat.testBit_and, e1, Nat.testBit_two_pow_mul_add _ hlt]
  by_cases h : i < b
  · rw [hlo i h]; simp
  · rw [if_neg h]
    by_cases e : i = b
    · subst e; simp [Nat.testBit_eq_decide_div_mod_eq]
    · have hne : (i == b) = false := by simp [e]
      have h2 : n.testBit i = (2 * q + 1).testBit (i - b) := by
        rw [hq, Nat.testBit_two_pow_mul]
        have : i ≥ b := by omega
        simp [this]
      rw [h2, hne]
      obtain ⟨d, hd⟩ : ∃ d, i - b = d + 1 := ⟨i - b - 1, by omega⟩
      rw [hd, Nat.testBit_succ, Nat.testBit_succ]
      have h3 : (2 * q + 1) / 2 = q := by omega
      have h4 : 2 * q / 2 = q := by omega
      rw [h3, h4]
      simp
theorem keep_low {n b : Nat} (hn : n < 2 ^ 32) (hb : n.testBit b = true) (hlo : ∀ j, j < b → n.testBit j = false) : n &&& (2 ^ 32 - n) = 2 ^ b := by
  have hb32 : b < 32 := by
    rcases Nat.lt_or_ge b 32 with h | h
    · exact h
    · rw [bit_ge hn h] at hb; cases hb
  obtain ⟨q, hq⟩ := split_low hb hlo
  have hpos : 0 < 2 ^ b := Nat.two_pow_pos b
  obtain ⟨c, hc⟩ : ∃ c, (2 : Nat) ^ 32 = 2 ^ b * (2 * c) := by
    refine ⟨2 ^ (31 - b), ?_⟩
    rw [← Nat.pow_succ', ← Nat.pow_add]
    congr 1
    omega
  have hqc : q < c := by
    rw [hq, hc] at hn
    have := Nat.lt_of_mul_lt_mul_left hn
    omega
  have e1 : 2 ^ 32 - n = 2 ^ b * (2 * (c - q - 1) + 1) := by
    rw [hc, hq, ← Nat.mul_sub]
    congr 1
    omega
  refine Nat.eq_of_testBit_eq fun i => ?_
  rw [Nat.testBit_and, Nat.testBit_two_pow]
  by_cases h : i < b
  · have : ¬ b = i := by omega
    rw [hlo i h]; simp [this]
  · by_cases e : b = i
    · subst e
      rw [hb, e1, Nat.testBit_two_pow_mul]
      simp [Nat.testBit_eq_decide_div_mod_eq]
    · rw [e1, hq, Nat.testBit_two_pow_mul, Nat.testBit_two_pow_mul]
      have hge : i ≥ b := by omega
      obtain ⟨d, hd⟩ : ∃ d, i - b = d + 1 := ⟨i - b - 1, by omega⟩
      rw [hd, Nat.testBit_succ, Nat.testBit_succ]
      have h3 : (2 * q + 1) / 2 = q := by omega
      have h4 : (2 * (c - q - 1) + 1) / 2 = c - q - 1 := by omega
      rw [h3, h4]
      simp only [hge, decide_true, Bool.true_and, e, decide_false]
      -- below the width c is a power of two, and q and c - q - 1 have no bit in common
      have hc2 : c = 2 ^ (31 - b) := by
        have h5 : (2 : Nat) ^ 32 = 2 ^ b * (2 * 2 ^ (31 - b)) := by
          rw [← Nat.pow_succ', ← Nat.pow_add]
          congr 1
          omega
        rw [h5] at hc
        have := Nat.eq_of_mul_eq_mul_left hpos hc
        omega
      have h6 : (c - q - 1).testBit d = (decide (d < 31 - b) && !q.testBit d) := by
        have : c - q - 1 = 2 ^ (31 - b) - (q + 1) := by omega
        rw [this, Nat.testBit_two_pow_sub_succ (by omega)]
      rw [h6]
      cases q.testBit d <;> simp
/-- A word that is not 0 has a lowest bit. -/
theorem low_of_pos {n : Nat} (hn : n < 2 ^ 32) (h0 : n ≠ 0) : ∃ b, b < 32 ∧ n.testBit b = true ∧ ∀ j, j < b → n.testBit j = false := by
  rcases low_or_none n.testBit 32 with h | h
  · exfalso
    apply h0
    exact eq_of_bits hn (by decide) fun i hi => by rw [h i hi, Nat.zero_testBit]
  · exact h

/-! ### more on lists and numbers -/
theorem wrap64_0 : wrap64 0 = 0 := by unfold wrap64; omega
theorem wrap64_1 : wrap64 1 = 1 := by unfold wrap64; omega
theorem drop_rd (l : List Int) {i : Nat} (h : i < l.length) : l.drop i = rd l (i : Int) :: l.drop (i + 1) := by
  rw [List.drop_eq_getElem_cons h]
  unfold rd
  rw [Int.toNat_natCast, List.getD_eq_getElem?_getD, List.getElem?_eq_getElem h]
  rfl
theorem rd_set_self (l : List Int) (v : Int) {i : Nat} (h : i < l.length) : rd (l.set i v) (i : Int) = v := by
  unfold rd
  rw [Int.toNat_natCast, List.getD_eq_getElem?_getD, List.getElem?_set_self h]
  rfl
theorem rd_set_ne (l : List Int) (v : Int) {i j : Nat} (h : j ≠ i) : rd (l.set i v) (j : Int) = rd l (j : Int) := by
  unfold rd
  rw [Int.toNat_natCast, List.getD_eq_getElem?_getD, List.getElem?_set_ne (fun e => h e.symm), List.getD_eq_getElem?_getD]
theorem rd_get {l : List Int} {i : Nat} (h : i < l.length) : rd l (i : Int) = l[i] := by
  unfold rd
  rw [Int.toNat_natCast, List.getD_eq_getElem?_getD, List.getElem?_eq_getElem h]
  rfl
theorem take_set (l o : List Int) {i : Nat} (h1 : i < l.length) (h2 : i < o.length) (ht : o.take i = l.take i) : (o.set i (rd l (i : Int))).take (i + 1) = l.take (i + 1) := by
  rw [List.take_add_one, List.take_add_one, List.take_set_of_le (Nat.le_refl _), ht, List.getElem?_set_self h2, rd_get h1, List.getElem?_eq_getElem h1]
theorem rdOf_get {l : List Bool} {i : Nat} (h : i < l.length) : rdOf false l (i : Int) = l[i] := by
  unfold rdOf
  rw [Int.toNat_natCast, List.getD_eq_getElem?_getD, List.getElem?_eq_getElem h]
  rfl
theorem take_setB (l o : List Bool) {i : Nat} (h1 : i < l.length) (h2 : i < o.length) (ht : o.take i = l.take i) : (o.set i (rdOf false l (i : Int))).take (i + 1) = l.take (i + 1) := by
  rw [List.take_add_one, List.take_add_one, List.take_set_of_le (Nat.le_refl _), ht, List.getElem?_set_self h2, rdOf_get h1, List.getElem?_eq_getElem h1]
def bofq (q : Nat → Bool) (l : List Int) : Int × Bool := match okL q l with
  | none => (0, false)
  | some q => (((wd q 32 : Nat) : Int), true)
theorem bofq_nil (q : Nat → Bool) : bofq q [] = (((wd q 32 : Nat) : Int), true) := rfl
theorem bofq_cons (q : Nat → Bool) (b : Int) (l : List Int) : bofq q (b :: l) = if b < 0 ∨ b > 31 then (0, false) else if q b.toNat then (0, false) else bofq (fun j => q j || j == b.toNat) l := by
  unfold bofq
  simp only [okL]
  by_cases h : b < 0 ∨ b > 31
  · simp only [if_pos h]
  · by_cases h2 : q b.toNat = true
    · simp only [if_neg h, if_pos h2]
    · simp only [if_neg h, if_neg h2]
theorem bof_eq (l : List Int) : bofq (fun _ => false) l = bof l := rfl
theorem cnt_first {p : Nat → Bool} {b : Nat} (hb : p b = true) (hlo : ∀ j, j < b → p j = false) (m : Nat) : cnt p m = cnt (fun j => p j && !(j == b)) m + if b < m then 1 else 0 := by
  rw [← blp_len, ← blp_len, blp_first p hb hlo]
  split
  · simp
  · rename_i h
    rw [blp_none (fun j hj => by rw [hlo j (by omega)]; rfl)]
    rfl
theorem wd_false (m : Nat) : wd (fun _ => false) m = 0 := by
  induction m with
  | zero => rfl
  | succ m ih => simp only [wd, ih]; rfl
theorem wd_mask {a : Nat} (ha : a ≤ 32) : wd (fun j => decide (j < a)) 32 = 2 ^ a - 1 := by
  have hp : (2 : Nat) ^ a ≤ 2 ^ 32 := Nat.pow_le_pow_right (by decide) ha
  have hq : 0 < (2 : Nat) ^ a := Nat.two_pow_pos a
  exact wd_eq (by omega) fun i _ => Nat.testBit_two_pow_sub_one a i
/-- Taking the lowest bit of a word, then the next ones. -/
theorem tk_step {n b : Nat} (hb : n.testBit b = true) (hlo : ∀ j, j < b → n.testBit j = false) (m j : Nat) :
    (j == b || tk (n &&& (n - 1)).testBit m j) = tk n.testBit (m + 1) j := by
  have hc : cnt n.testBit j = cnt (n &&& (n - 1)).testBit j + if b < j then 1 else 0 := by
    rw [cnt_first hb hlo j]
    congr 1
    exact cnt_congr fun i _ => (clear_low hb hlo i).symm
  unfold tk
  rw [clear_low hb hlo, hc]
  by_cases e : j = b
  · subst e
    have h0 : cnt (n &&& (n - 1)).testBit j = 0 := by
      rw [← blp_len, blp_none (fun i hi => by rw [clear_low hb hlo, hlo i hi]; rfl)]
      rfl
    simp [hb, h0]
  · have hne : (j == b) = false := by simp [e]
    rw [hne]
    by_cases h : b < j
    · simp [h]
    · have : n.testBit j = false := hlo j (by omega)
      simp [this]
/-- What the lowest bits of a word make, once more where one has been taken. -/
theorem low_step {n b : Nat} (hb : n.testBit b = true) (hlo : ∀ j, j < b → n.testBit j = false) (hb32 : b < 32) (out m : Nat) (ho : out < 2 ^ 32) :
    (out ||| 2 ^ b) ||| wd (tk (n &&& (n - 1)).testBit m) 32 = out ||| wd (tk n.testBit (m + 1)) 32 := by
  refine eq_of_bits (Nat.or_lt_two_pow (Nat.or_lt_two_pow ho (two_pow_lt hb32)) (wd_lt32 _)) (Nat.or_lt_two_pow ho (wd_lt32 _)) fun i hi => ?_
  rw [Nat.testBit_or, Nat.testBit_or, Nat.testBit_or, wd_bit, wd_bit, ← tk_step hb hlo m i, Nat.testBit_two_pow]
  simp only [hi, decide_true, Bool.true_and, Bool.or_assoc]
  congr 2
  by_cases e : b = i
  · subst e; simp
  · have : ¬ i = b := fun h => e h.symm
    simp [e, this]
theorem tk_zero (p : Nat → Bool) : wd (tk p 0) 32 = 0 :=
  (wd_congr fun i _ => by simp [tk]).trans (wd_false 32)
theorem tk_none (m : Nat) : wd (tk (Nat.testBit 0) m) 32 = 0 :=
  (wd_congr fun i _ => by simp [tk]).trans (wd_false 32)
theorem pred32 {n : Nat} (hn : n < 2 ^ 32) (h0 : n ≠ 0) : ((n : Int) - 1) % 4294967296 = ((n - 1 : Nat) : Int) := by omega
theorem neg32 {n : Nat} (hn : n < 2 ^ 32) (h0 : n ≠ 0) : (-(n : Int)) % 4294967296 = ((2 ^ 32 - n : Nat) : Int) := by omega

/-! ### the longest run of zeros -/
/-- How many places from i on are free below w (d: how many are left to look at). -/
def run (p : Nat → Bool) (w : Nat) : Nat → Nat → Nat
  | 0, _ => 0
  | d + 1, i => if i < w ∧ p i = false then run p w d (i + 1) + 1 else 0
def lng (p : Nat → Bool) (w : Nat) : Nat → Nat → Nat → Nat → Int × Int
  | 0, _, s, m => ((s : Int), (m : Int))
  | d + 1, i, s, m => if run p w (w - i) i > m then lng p w d (i + 1) i (run p w (w - i) i) else lng p w d (i + 1) s m
theorem run_le (p : Nat → Bool) (w : Nat) (d : Nat) : ∀ i, run p w d i ≤ d := by
  induction d with
  | zero => intro i; simp [run]
  | succ d ih =>
    intro i
    simp only [run]
    have := ih (i + 1)
    split <;> omega

/-! ### counting, and the highest place -/
theorem cnt_add (p : Nat → Bool) (a b : Nat) : cnt p (a + b) = cnt p a + cnt (fun j => p (a + j)) b := by
  induction b with
  | zero => rfl
  | succ b ih =>
    rw [← Nat.add_assoc]
    simp only [cnt, ih]
    omega
theorem bits_high (n a : Nat) : (fun j => n.testBit (a + j)) = (n / 2 ^ a).testBit := by
  funext j
  rw [Nat.testBit_div_two_pow, Nat.add_comm]
theorem cnt_low (n : Nat) {a : Nat} (m : Nat) (h : m ≤ a) : cnt (n % 2 ^ a).testBit m = cnt n.testBit m :=
  cnt_congr fun i hi => by
    rw [Nat.testBit_mod_two_pow]
    have : i < a := by omega
    simp [this]
theorem cnt_bytes {n : Nat} : cnt n.testBit 32 = cnt (n % 256).testBit 8 + cnt (n / 256 % 256).testBit 8 + cnt (n / 65536 % 256).testBit 8 + cnt (n / 16777216 % 256).testBit 8 := by
  have h1 : cnt n.testBit 32 = cnt n.testBit 24 + cnt (n / 2 ^ 24).testBit 8 := by rw [← bits_high]; exact cnt_add _ 24 8
  have h2 : cnt n.testBit 24 = cnt n.testBit 16 + cnt (n / 2 ^ 16).testBit 8 := by rw [← bits_high]; exact cnt_add _ 16 8
  have h3 : cnt n.testBit 16 = cnt n.testBit 8 + cnt (n / 2 ^ 8).testBit 8 := by rw [← bits_high]; exact cnt_add _ 8 8
  have k := fun x => cnt_low x 8 (Nat.le_refl 8)
  have k1 := k n
  have k2 := k (n / 2 ^ 8)
  have k3 := k (n / 2 ^ 16)
  have k4 := k (n / 2 ^ 24)
  simp only [show (2 : Nat) ^ 8 = 256 from rfl, show (2 : Nat) ^ 16 = 65536 from rfl, show (2 : Nat) ^ 24 = 16777216 from rfl] at h1 h2 h3 k1 k2 k3 k4
  omega
/-- The highest place below m, or -1. -/
def top (p : Nat → Bool) : Nat → Int
  | 0 => -1
  | m + 1 => if p m then (m : Int) else top p m
theorem top_lt (p : Nat → Bool) (m : Nat) : top p m < m := by
  induction m with
  | zero => simp [top]
  | succ m ih => simp only [top]; split <;> omega
theorem top_ge (p : Nat → Bool) (m : Nat) : -1 ≤ top p m := by
  induction m with
  | zero => simp [top]
  | succ m ih => simp only [top]; split <;> omega
theorem top_neg (p : Nat → Bool) (m : Nat) : top p m < 0 ↔ ∀ j, j < m → p j = false := by
  induction m with
  | zero => simp [top]
  | succ m ih =>
    simp only [top]
    constructor
    · intro h j hj
      split at h
      · omega
      · rename_i hp
        by_cases e : j = m
        · subst e; simpa using hp
        · exact ih.1 h j (by omega)
    · intro h
      rw [if_neg (by rw [h m (by omega)]; decide)]
      exact ih.2 fun j hj => h j (by omega)
theorem top_bit {p : Nat → Bool} {m : Nat} (h : 0 ≤ top p m) : ∃ j : Nat, j < m ∧ top p m = j ∧ p j = true ∧ ∀ i, i < m → j < i → p i = false := by
  induction m with
  | zero => simp [top] at h
  | succ m ih =>
    simp only [top] at h ⊢
    by_cases hp : p m = true
    · rw [if_pos hp]
      exact ⟨m, by omega, rfl, hp, fun i h1 h2 => by omega⟩
    · rw [if_neg hp] at h ⊢
      obtain ⟨j, h1, h2, h3, h4⟩ := ih h
      refine ⟨j, by omega, h2, h3, fun i hi hj => ?_⟩
      by_cases e : i = m
      · subst e; simpa using hp
      · exact h4 i (by omega) hj
theorem top_yes {p : Nat → Bool} {m : Nat} (h : p m = true) : top p (m + 1) = m := by simp only [top]; rw [if_pos h]
theorem top_no {p : Nat → Bool} {m : Nat} (h : ¬ p m = true) : top p (m + 1) = top p m := by simp only [top]; rw [if_neg h]
theorem top_add (p : Nat → Bool) (a b : Nat) : top p (a + b) = if top (fun j => p (a + j)) b < 0 then top p a else (a : Int) + top (fun j => p (a + j)) b := by
  induction b with
  | zero => simp [top]
  | succ b ih =>
    rw [← Nat.add_assoc]
    by_cases hp : p (a + b) = true
    · have h2 : top (fun j => p (a + j)) (b + 1) = b := top_yes hp
      rw [top_yes hp, h2, if_neg (by omega)]
      omega
    · have h2 : top (fun j => p (a + j)) (b + 1) = top (fun j => p (a + j)) b := top_no hp
      rw [top_no hp, h2, ih]
theorem top_none {n m : Nat} (hn : n < 2 ^ m) : top n.testBit m < 0 ↔ n = 0 := by
  rw [top_neg]
  constructor
  · intro h
    refine Nat.eq_of_testBit_eq fun i => ?_
    rw [Nat.zero_testBit]
    by_cases hi : i < m
    · exact h i hi
    · rw [Nat.testBit_eq_decide_div_mod_eq]
      have : n / 2 ^ i = 0 := Nat.div_eq_of_lt (Nat.lt_of_lt_of_le hn (Nat.pow_le_pow_right (by decide) (by omega)))
      rw [this]; rfl
  · rintro rfl j _
    exact Nat.zero_testBit j
theorem top_zero {n : Nat} (m : Nat) (h : n = 0) : top n.testBit m = -1 := by
  have h1 := (top_neg n.testBit m).2 (fun j _ => by rw [h]; exact Nat.zero_testBit j)
  have := top_ge n.testBit m
  omega
theorem top_high (n : Nat) (a b : Nat) : top n.testBit (a + b) = if top (n / 2 ^ a).testBit b < 0 then top n.testBit a else (a : Int) + top (n / 2 ^ a).testBit b := by
  rw [top_add, bits_high]
/-- The highest bit of a word, by its highest byte that is not 0. -/
theorem top_bytes {n : Nat} (hn : n < 2 ^ 32) : top n.testBit 32 =
    if n ≥ 16777216 then 24 + top (n / 16777216).testBit 8 else if n ≥ 65536 then 16 + top (n / 65536).testBit 8 else if n ≥ 256 then 8 + top (n / 256).testBit 8 else top n.testBit 8 := by
  have h1 := top_high n 24 8
  have h2 := top_high n 16 8
  have h3 := top_high n 8 8
  have z1 := top_none (n := n / 2 ^ 24) (m := 8)
  have z2 := top_none (n := n / 2 ^ 16) (m := 8)
  have z3 := top_none (n := n / 2 ^ 8) (m := 8)
  simp only [show (2 : Nat) ^ 8 = 256 from rfl, show (2 : Nat) ^ 16 = 65536 from rfl, show (2 : Nat) ^ 24 = 16777216 from rfl, Nat.reduceAdd] at h1 h2 h3 z1 z2 z3
  by_cases a : n ≥ 16777216
  · rw [if_pos a, h1, if_neg (by rw [z1 (by omega)]; omega)]; rfl
  · rw [if_neg a, h1, if_pos (by rw [z1 (by omega)]; omega)]
    by_cases b : n ≥ 65536
    · rw [if_pos b, h2, if_neg (by rw [z2 (by omega)]; omega)]; rfl
    · rw [if_neg b, h2, if_pos (by rw [z2 (by omega)]; omega)]
      by_cases c : n ≥ 256
      · rw [if_pos c, h3, if_neg (by rw [z3 (by omega)]; omega)]; rfl
      · rw [if_neg c, h3, if_pos (by rw [z3 (by omega)]; omega)]
theorem blp_last (p : Nat → Bool) (m : Nat) (h : (blp p m).length ≠ 0) : rd (blp p m) (((blp p m).length : Int) - 1) = top p m ∧ 0 ≤ top p m := by
  induction m with
  | zero => simp [blp] at h
  | succ m ih =>
    simp only [blp, top] at h ⊢
    by_cases hp : p m = true
    · rw [if_pos hp, if_pos hp]
      have : (((blp p m ++ [(m : Int)]).length : Int) - 1) = ((blp p m).length : Int) := by simp
      rw [this, rd_get (by simp)]
      simp
    · rw [if_neg hp, List.append_nil, if_neg hp] at *
      exact ih h
theorem blp_empty (p : Nat → Bool) (m : Nat) (h : (blp p m).length = 0) : top p m = -1 := by
  have h1 : top p m < 0 := by
    rw [top_neg]
    intro j hj
    cases hp : p j with
    | false => rfl
    | true =>
      have := (blp_mem p m (j : Int)).2 ⟨j, hj, hp, rfl⟩
      rw [List.eq_nil_of_length_eq_zero h] at this
      cases this
  have := top_ge p m
  omega
/-- A word below 256: only the lanes. -/
theorem top_mask {n : Nat} (hn : n < 2 ^ 32) : top n.testBit 32 < 8 ↔ n < 256 := by
  have h8 := top_lt n.testBit 8
  rw [top_bytes hn]
  constructor
  · intro h
    by_cases c : n < 256
    · exact c
    · exfalso
      have z := fun x y => top_none (n := x) (m := 8) y
      simp only [show (2 : Nat) ^ 8 = 256 from rfl] at z
      split at h
      · have := (z (n / 16777216) (by omega))
        have g := top_ge (n / 16777216).testBit 8
        omega
      · split at h
        · have := (z (n / 65536) (by omega))
          have g := top_ge (n / 65536).testBit 8
          omega
        · rw [if_pos (by omega)] at h
          have := (z (n / 256) (by omega))
          omega
  · intro h
    rw [if_neg (by omega), if_neg (by omega), if_neg (by omega)]
    omega
theorem and255 {x : Int} (h0 : 0 ≤ x) (h1 : x < 4294967296) : Go.bits .and .u32 x 255 = x % 256 :=
  bits_mask .u32 32 (by decide) wraps_u32 8 (by decide) x h0 (by exact h1)

/-! ### classes -/
def csz (a : Int) : Int := if 0 ≤ a ∧ a < 5 then ((2 ^ a.toNat : Nat) : Int) else 0
def pgs (a : Int) : Int := if 0 ≤ a ∧ a < 5 then ((16 / 2 ^ a.toNat : Nat) : Int) else 0

/-! ### lanes -/
/-- The place with number a among the places of a mask, or -1. -/
def nth (n : Nat) (a : Int) : Int := if n < 256 ∧ 0 ≤ a ∧ a < ((blp n.testBit 32).length : Int) then rd (blp n.testBit 32) a else -1
/-- How many places of a mask lie below a, which is one of them; or -1. -/
def rk (n : Nat) (a : Int) : Int := if n < 256 ∧ 0 ≤ a ∧ a < 32 ∧ n.testBit a.toNat = true then ((cnt n.testBit a.toNat : Nat) : Int) else -1
def fnd (a : Int) : List Int → Nat → Int
  | [], _ => -1
  | b :: l, i => if b = a then (i : Int) else fnd a l (i + 1)
theorem fnd_append (a : Int) (l l' : List Int) (i : Nat) : fnd a (l ++ l') i = if fnd a l i = -1 then fnd a l' (i + l.length) else fnd a l i := by
  induction l generalizing i with
  | nil => simp [fnd]
  | cons b l ih =>
    have hc : fnd a (b :: l) i = if b = a then (i : Int) else fnd a l (i + 1) := rfl
    have hd : fnd a ((b :: l) ++ l') i = if b = a then (i : Int) else fnd a (l ++ l') (i + 1) := rfl
    rw [List.length_cons]
    by_cases h : b = a
    · have h' : ¬ ((i : Int) = -1) := by omega
      rw [if_pos h] at hc hd
      rw [hc, hd, if_neg h']
    · rw [if_neg h] at hc hd
      rw [hc, hd, ih, show i + 1 + l.length = i + (l.length + 1) by omega]
theorem fnd_blp (p : Nat → Bool) (a : Int) (m : Nat) : fnd a (blp p m) 0 = if 0 ≤ a ∧ a < (m : Int) ∧ p a.toNat = true then ((cnt p a.toNat : Nat) : Int) else -1 := by
  induction m with
  | zero => rw [if_neg (by omega)]; rfl
  | succ m ih =>
    simp only [blp]
    rw [fnd_append, ih, blp_len]
    by_cases h : 0 ≤ a ∧ a < (m : Int) ∧ p a.toNat = true
    · have h' : 0 ≤ a ∧ a < ((m + 1 : Nat) : Int) ∧ p a.toNat = true := ⟨h.1, by omega, h.2.2⟩
      have h2 : ¬ ((cnt p a.toNat : Nat) : Int) = -1 := by omega
      rw [if_pos h, if_neg h2, if_pos h']
    · rw [if_neg h, if_pos rfl]
      by_cases hp : p m = true
      · rw [if_pos hp]
        simp only [fnd]
        by_cases e : (m : Int) = a
        · subst e
          rw [if_pos rfl, if_pos ⟨by omega, by omega, by simpa using hp⟩]
          simp
        · rw [if_neg e, if_neg]
          intro h2
          exact h ⟨h2.1, by omega, h2.2.2⟩
      · rw [if_neg hp]
        simp only [fnd]
        rw [if_neg]
        intro h2
        by_cases e : a = (m : Int)
        · subst e
          exact hp (by simpa using h2.2.2)
        · exact h ⟨h2.1, by omega, h2.2.2⟩
theorem cnt_below (p : Nat → Bool) (a m : Nat) (h : a ≤ m) : cnt (fun j => p j && decide (j < a)) m = cnt p a := by
  induction m with
  | zero =>
    obtain rfl : a = 0 := by omega
    rfl
  | succ m ih =>
    simp only [cnt]
    by_cases e : a = m + 1
    · subst e
      have h1 : cnt (fun j => p j && decide (j < m + 1)) m = cnt p m := cnt_congr fun i hi => by
        have : i < m + 1 := by omega
        simp [this]
      rw [h1]
      simp only [cnt]
      simp
    · rw [ih (by omega)]
      have h2 : ¬ m < a := by omega
      simp [h2]
/-- A mask has no place from 8 on. -/
theorem mask_high {n : Nat} (h : n < 256) {j : Nat} (hj : 8 ≤ j) : n.testBit j = false := by
  rw [Nat.testBit_eq_decide_div_mod_eq]
  have : n / 2 ^ j = 0 := Nat.div_eq_of_lt (Nat.lt_of_lt_of_le h (by
    have := Nat.pow_le_pow_right (n := 2) (by decide) hj
    simpa using this))
  rw [this]; rfl
theorem blp_rd_lt (p : Nat → Bool) {m i : Nat} (h : i < (blp p m).length) : ∃ j : Nat, j < m ∧ p j = true ∧ cnt p j = i ∧ rd (blp p m) (i : Int) = j := by
  obtain ⟨j, h1, h2, h3, h4⟩ := blp_nth p h
  refine ⟨j, h1, h2, h3, ?_⟩
  rw [rd_get h]
  have := (List.getElem?_eq_some_iff.1 h4).2
  exact this
def clsF (a : Int) : Nat → Nat → Int
  | 0, _ => -1
  | d + 1, i => if ((2 ^ i : Nat) : Int) ≥ a then (i : Int) else clsF a d (i + 1)
/-- The smallest class with room for a words, or -1. -/
def cls (a : Int) : Int := if 1 ≤ a then clsF a 5 0 else -1
theorem clsF_big {a : Int} (h : 16 < a) : clsF a 5 0 = -1 := by
  simp only [clsF]
  rw [if_neg (by omega), if_neg (by omega), if_neg (by omega), if_neg (by omega), if_neg (by omega)]
theorem cls_at : ∀ c : Fin 16, cls ((c.val : Int) + 1) = top c.val.testBit 8 + 1 := by decide +kernel

/-! ### control states -/
theorem le_top {p : Nat → Bool} {m i : Nat} (hi : i < m) (hp : p i = true) : (i : Int) ≤ top p m := by
  induction m with
  | zero => omega
  | succ m ih =>
    by_cases h : p m = true
    · rw [top_yes h]; omega
    · rw [top_no h]
      by_cases e : i = m
      · subst e; exact absurd hp h
      · exact ih (by omega)
theorem top_lt_iff {n b : Nat} (hn : n < 2 ^ 32) (_hb : b ≤ 32) : top n.testBit 32 < (b : Int) ↔ n < 2 ^ b := by
  constructor
  · intro h
    refine Nat.lt_pow_two_of_testBit n fun i hi => ?_
    by_cases h32 : i < 32
    · cases hp : n.testBit i with
      | false => rfl
      | true =>
        have := le_top (p := n.testBit) h32 hp
        omega
    · exact bit_ge hn (by omega)
  · intro h
    by_cases h0 : 0 ≤ top n.testBit 32
    · obtain ⟨j, _, h2, h3, _⟩ := top_bit h0
      rw [h2]
      by_cases hj : j < b
      · omega
      · have : n.testBit j = false := Nat.testBit_lt_two_pow (Nat.lt_of_lt_of_le h (Nat.pow_le_pow_right (by decide) (by omega)))
        rw [this] at h3
        cases h3
    · omega
theorem pgs_range {c : Int} (h : 0 ≤ c ∧ c < 5) : 1 ≤ pgs c ∧ pgs c ≤ 16 := by
  have : c = 0 ∨ c = 1 ∨ c = 2 ∨ c = 3 ∨ c = 4 := by omega
  rcases this with rfl | rfl | rfl | rfl | rfl <;> decide
/-- A control state is valid. -/
def okc (s c : Int) (n : Nat) (r : Int) : Bool := decide (((s = 0 ∨ s = 3) ∧ c = 0 ∧ n = 0 ∧ r = 0) ∨ (s = 1 ∧ (0 ≤ c ∧ c < 5) ∧ n ≠ 0 ∧ n < 2 ^ (pgs c).toNat ∧ r = 0) ∨ (s = 2 ∧ c = 0 ∧ n = 0 ∧ 2 ≤ r ∧ r ≤ 16))
def pk (s c m r : Int) : Int := m + 65536 * c + 1048576 * s + 16777216 * r
theorem okc_bounds {s c r : Int} {n : Nat} (h : okc s c n r = true) : (0 ≤ s ∧ s ≤ 3) ∧ (0 ≤ c ∧ c < 5) ∧ n < 65536 ∧ (0 ≤ r ∧ r ≤ 16) := by
  unfold okc at h
  have h := of_decide_eq_true h
  rcases h with ⟨h1, h2, h3, h4⟩ | ⟨h1, h2, _, h4, h5⟩ | ⟨h1, h2, h3, h4⟩
  · omega
  · have hp := pgs_range h2
    have : (2 : Nat) ^ (pgs c).toNat ≤ 2 ^ 16 := Nat.pow_le_pow_right (by decide) (by omega)
    omega
  · omega
theorem or_join {b i : Nat} (h : b < 2 ^ i) (a : Nat) : b ||| a * 2 ^ i = b + a * 2 ^ i := by
  have := Nat.two_pow_add_eq_or_of_lt h a
  rw [Nat.mul_comm a, Nat.or_comm, ← this, Nat.add_comm]
/-- What a word says as a control state. -/
def rdc (n : Nat) : Int × Int × Int × Int × Bool :=
  if okc ((n / 1048576 % 16 : Nat) : Int) ((n / 65536 % 16 : Nat) : Int) (n % 65536) ((n / 16777216 : Nat) : Int) = true
  then (((n / 1048576 % 16 : Nat) : Int), ((n / 65536 % 16 : Nat) : Int), ((n % 65536 : Nat) : Int), ((n / 16777216 : Nat) : Int), true)
  else (0, 0, 0, 0, false)
theorem rdc_cases {n : Nat} (_hn : n < 2 ^ 32) : rdc n = (0, 0, 0, 0, false) ∨ ∃ (s c r : Int) (m : Nat), rdc n = (s, c, (m : Int), r, true) ∧ okc s c m r = true ∧ pk s c m r = n := by
  unfold rdc
  by_cases h : okc ((n / 1048576 % 16 : Nat) : Int) ((n / 65536 % 16 : Nat) : Int) (n % 65536) ((n / 16777216 : Nat) : Int) = true
  · right
    rw [if_pos h]
    refine ⟨_, _, _, _, rfl, h, ?_⟩
    unfold pk
    omega
  · left
    rw [if_neg h]
theorem rdc_pk {s c r : Int} {m : Nat} (h : okc s c m r = true) (n : Nat) (e : pk s c m r = n) : rdc n = (s, c, (m : Int), r, true) := by
  obtain ⟨⟨h1, h2⟩, ⟨h3, h4⟩, h5, h6, h7⟩ := okc_bounds h
  unfold pk at e
  have e1 : ((n / 1048576 % 16 : Nat) : Int) = s := by omega
  have e2 : ((n / 65536 % 16 : Nat) : Int) = c := by omega
  have e3 : n % 65536 = m := by omega
  have e4 : ((n / 16777216 : Nat) : Int) = r := by omega
  unfold rdc
  rw [e1, e2, e3, e4, if_pos h]
theorem and_mask16 {x : Int} (h0 : 0 ≤ x) (h1 : x < 4294967296) : Go.bits .and .u32 x 15 = x % 16 :=
  bits_mask .u32 32 (by decide) wraps_u32 4 (by decide) x h0 (by exact h1)
theorem and_mask64k {x : Int} (h0 : 0 ≤ x) (h1 : x < 4294967296) : Go.bits .and .u32 x 65535 = x % 65536 :=
  bits_mask .u32 32 (by decide) wraps_u32 16 (by decide) x h0 (by exact h1)
theorem shl64 {x : Int} {c : Nat} (hc : c ≤ 4) (h0 : 0 ≤ x) (h1 : x ≤ 65536) : shl .i64 x (c : Int) = x * ((2 ^ c : Nat) : Int) := by
  unfold shl
  have e : min (c : Int).toNat (IntKind.i64).bits = c := by
    show min (c : Int).toNat 64 = c
    omega
  rw [e, IntKind.wrap_i64]
  have : c = 0 ∨ c = 1 ∨ c = 2 ∨ c = 3 ∨ c = 4 := by omega
  rcases this with rfl | rfl | rfl | rfl | rfl <;> simp <;> omega
theorem shr64 (x : Int) {c : Nat} (hc : c ≤ 4) : shr .i64 x (c : Int) = x / ((2 ^ c : Nat) : Int) := by
  unfold shr
  have e : min (c : Int).toNat (IntKind.i64).bits = c := by
    show min (c : Int).toNat 64 = c
    omega
  rw [e]
  simp
/-- How many words the blocks of a control state take. -/
def tkw (n : Nat) : Int := if (rdc n).2.2.2.2 = true ∧ (rdc n).1 = 1 then ((cnt (Nat.testBit (rdc n).2.2.1.toNat) 32 : Nat) : Int) * csz (rdc n).2.1 else if (rdc n).2.2.2.2 = true ∧ (rdc n).1 = 2 then 16 else 0
/-- The block of a page at an offset. -/
def bat (n : Nat) (a : Int) : Int × Int × Bool :=
  if (rdc n).2.2.2.2 = true ∧ (rdc n).1 = 1 ∧ 0 ≤ a ∧ a < 16 ∧ Nat.testBit (rdc n).2.2.1.toNat (a / csz (rdc n).2.1).toNat = true
  then (a / csz (rdc n).2.1 * csz (rdc n).2.1, csz (rdc n).2.1, true) else (0, 0, false)
/-- The values at the places of a mask. -/
def gath (vals : List Int) (n : Nat) : List Int := if vals.length = 8 ∧ n < 256 then (blp n.testBit 32).map (rd vals) else []
theorem gath_len (vals : List Int) (n : Nat) : (gath vals n).length ≤ 32 := by
  unfold gath
  split
  · rw [List.length_map]; exact blp_len_le _ _
  · simp
theorem mask_blp_lt {n : Nat} (h : n < 256) {i : Nat} (hi : i < (blp n.testBit 32).length) : 0 ≤ rd (blp n.testBit 32) (i : Int) ∧ rd (blp n.testBit 32) (i : Int) < 8 := by
  obtain ⟨j, _, h2, _, h4⟩ := blp_rd_lt n.testBit hi
  rw [h4]
  have : ¬ 8 ≤ j := fun h8 => by rw [mask_high h h8] at h2; cases h2
  omega
theorem map_take_succ (f : Int → Int) (l : List Int) {i : Nat} (h : i < l.length) : (l.take (i + 1)).map f = (l.take i).map f ++ [f (rd l (i : Int))] := by
  rw [List.take_add_one, List.getElem?_eq_getElem h, rd_get h, List.map_append]
  rfl

/-! ### a reader of draws -/
/-- The reader's state is sound: where it reads, and its seed; N bounds how often it has read. -/
def CurOk (l : List Int) (a s : Int) (N : Nat) : Prop := (∀ x ∈ l, 0 ≤ x ∧ x ≤ 255) ∧ l.length ≤ 1048576 ∧ 0 ≤ a ∧ a ≤ (N : Int) ∧ 0 ≤ s ∧ s < 65521
theorem CurOk.more {l : List Int} {a s : Int} {N M : Nat} (h : CurOk l a s N) (hN : N ≤ M) : CurOk l a s M := ⟨h.1, h.2.1, h.2.2.1, by have := h.2.2.2.1; omega, h.2.2.2.2⟩
theorem rd_mem {l : List Int} {i : Int} (h0 : 0 ≤ i) (h1 : i < l.length) : rd l i ∈ l := by
  obtain ⟨j, rfl⟩ : ∃ j : Nat, i = j := ⟨i.toNat, by omega⟩
  rw [rd_get (by omega)]
  exact List.getElem_mem _
theorem tmod_range {x m : Int} (h0 : 0 ≤ x) (hm : 0 < m) : 0 ≤ Int.tmod x m ∧ Int.tmod x m < m := by
  rw [Int.tmod_eq_emod_of_nonneg h0]
  exact ⟨Int.emod_nonneg _ (by omega), Int.emod_lt_of_pos _ hm⟩
theorem seed_next {s : Int} (h0 : 0 ≤ s) (h1 : s < 65521) : 0 ≤ Int.tmod (wrap64 ((wrap64 (s * 1103)) + 12345)) 65521 ∧ Int.tmod (wrap64 ((wrap64 (s * 1103)) + 12345)) 65521 < 65521 := by
  rw [w64 (x := s * 1103) (by omega) (by omega), w64 (by omega) (by omega)]
  exact tmod_range (by omega) (by omega)
/-- A number that an int holds. -/
def I64 (v : Int) : Prop := -9223372036854775808 ≤ v ∧ v ≤ 9223372036854775807
def U32 (v : Int) : Prop := 0 ≤ v ∧ v < 4294967296
theorem rd_all {P : Int → Prop} {l : List Int} (h : ∀ x ∈ l, P x) {i : Int} (h0 : 0 ≤ i) (h1 : i < l.length) : P (rd l i) := h _ (rd_mem h0 h1)
theorem bof_u32 (l : List Int) : ∃ n : Nat, (bof l).1 = (n : Int) ∧ n < 2 ^ 32 := by
  unfold bof
  cases okL (fun _ => false) l with
  | none => exact ⟨0, rfl, by decide⟩
  | some q => exact ⟨wd q 32, rfl, wd_lt32 q⟩
theorem u32_of {v : Int} (h : U32 v) : ∃ n : Nat, v = n ∧ n < 2 ^ 32 := ⟨v.toNat, by have := h.1; omega, by have := h.1; have := h.2; omega⟩

/-! ### the longest run of zeros: what it is -/
theorem run_said (p : Nat → Bool) (w : Nat) (d : Nat) : ∀ i, i + d = w → (∀ j, i ≤ j → j < i + run p w d i → p j = false) ∧ (i + run p w d i = w ∨ p (i + run p w d i) = true) := by
  induction d with
  | zero =>
    intro i hi
    simp only [run]
    exact ⟨fun j h1 h2 => by omega, .inl (by omega)⟩
  | succ d ih =>
    intro i hi
    simp only [run]
    by_cases h : i < w ∧ p i = false
    · obtain ⟨h1, h2⟩ := ih (i + 1) (by omega)
      rw [if_pos h, show i + (run p w d (i + 1) + 1) = i + 1 + run p w d (i + 1) by omega]
      refine ⟨fun j h3 h4 => ?_, h2⟩
      by_cases e : j = i
      · subst e; exact h.2
      · exact h1 j (by omega) h4
    · rw [if_neg h]
      refine ⟨fun j h3 h4 => by omega, ?_⟩
      right
      rw [Nat.add_zero]
      cases hp : p i with
      | true => rfl
      | false => exact absurd ⟨by omega, hp⟩ h
theorem run_prev (p : Nat → Bool) (w i : Nat) (hi : i < w) (hp : p i = false) : run p w (w - i) i = run p w (w - (i + 1)) (i + 1) + 1 := by
  obtain ⟨d, hd⟩ : ∃ d, w - i = d + 1 := ⟨w - i - 1, by omega⟩
  rw [hd, show w - (i + 1) = d by omega]
  simp only [run]
  rw [if_pos ⟨hi, hp⟩]
/-- A run that can be made longer at neither end. -/
def Full (p : Nat → Bool) (w s m : Nat) : Prop := s + m ≤ w ∧ (∀ j, s ≤ j → j < s + m → p j = false) ∧ (s = 0 ∨ p (s - 1) = true) ∧ (s + m = w ∨ p (s + m) = true)
theorem lng_full (p : Nat → Bool) (w : Nat) (d : Nat) : ∀ i s m : Nat, i + d = w → (m = 0 ∨ Full p w s m) → (∀ j, j < i → run p w (w - j) j ≤ m) →
    ∃ s' m' : Nat, lng p w d i s m = ((s' : Int), (m' : Int)) ∧ (m' = 0 ∨ Full p w s' m') := by
  induction d with
  | zero =>
    intro i s m _ hf _
    exact ⟨s, m, rfl, hf⟩
  | succ d ih =>
    intro i s m hi hf hm
    simp only [lng]
    by_cases h : run p w (w - i) i > m
    · rw [if_pos h]
      refine ih (i + 1) i (run p w (w - i) i) (by omega) (.inr ?_) (fun j hj => ?_)
      · obtain ⟨h1, h2⟩ := run_said p w (w - i) i (by omega)
        have h3 := run_le p w (w - i) i
        refine ⟨by omega, h1, ?_, h2⟩
        by_cases hi0 : i = 0
        · exact .inl hi0
        · right
          cases hp : p (i - 1) with
          | true => rfl
          | false =>
            exfalso
            have h4 := run_prev p w (i - 1) (by omega) hp
            have h5 := hm (i - 1) (by omega)
            rw [show i - 1 + 1 = i by omega] at h4
            omega
      · by_cases e : j = i
        · subst e; exact Nat.le_refl _
        · have := hm j (by omega)
          omega
    · rw [if_neg h]
      refine ih (i + 1) s m (by omega) hf (fun j hj => ?_)
      by_cases e : j = i
      · subst e; omega
      · exact hm j (by omega)

/-! ### a memory's words -/
/-- The word at a place of a valid memory. -/
def mld (l : List Int) (a : Int) : Int × Bool := if l.length ≤ 64 ∧ 0 ≤ a ∧ a < (l.length : Int) then (rd l a, true) else (0, false)
/-- The lanes of a row of eight bools that voted. -/
def bal (l : List Bool) : Int × Bool := if l.length = 8 then (((wd (fun j => l.getD j false && decide (j < 8)) 32 : Nat) : Int), true) else (0, false)
theorem rdOf_nat (l : List Bool) (i : Nat) : rdOf false l (i : Int) = l.getD i false := rfl

/-! ### the free bits below a width -/
theorem xor_all {n : Nat} (hn : n < 2 ^ 32) : Go.bits .xor .u32 (-1) (n : Int) = ((2 ^ 32 - (n + 1) : Nat) : Int) := by
  have h1 : BitVec.ofInt 32 (-1) = BitVec.allOnes 32 := by decide
  have h2 : (BitVec.ofInt 32 (n : Int)).toNat = n := by
    rw [BitVec.ofInt_natCast, BitVec.toNat_ofNat, Nat.mod_eq_of_lt hn]
  have h3 : (BitVec.allOnes 32 ^^^ BitVec.ofInt 32 (n : Int)).toNat = 2 ^ 32 - (n + 1) := by
    rw [BitVec.allOnes_xor, BitVec.toNat_not, h2]
    omega
  show IntKind.u32.wrap (((BitVec.ofInt 32 (-1) ^^^ BitVec.ofInt 32 (n : Int)).toNat : Nat) : Int) = _
  rw [h1, h3]
  exact wraps_u32 _ (Int.natCast_nonneg _) (by omega)
theorem xor_bit {n : Nat} (hn : n < 2 ^ 32) (i : Nat) : (2 ^ 32 - (n + 1)).testBit i = (decide (i < 32) && !n.testBit i) := Nat.testBit_two_pow_sub_succ hn i
/-- Free below a width that is no more than 32. -/
def fre (n : Nat) (w : Int) (j : Nat) : Bool := !n.testBit j && decide ((j : Int) < w ∧ w ≤ 32)
theorem fre_none {n : Nat} {w : Int} (h : ¬ (0 ≤ w ∧ w ≤ 32)) (j : Nat) : fre n w j = false := by
  unfold fre
  rw [decide_eq_false (by omega), Bool.and_false]
theorem cnt_tk (p : Nat → Bool) (n m : Nat) : cnt (tk p n) m = min n (cnt p m) := by
  rw [← blp_len, ← blp_take, List.length_take, blp_len]
theorem cnt_not (p : Nat → Bool) (m : Nat) : cnt p m + cnt (fun j => !p j) m = m := by
  induction m with
  | zero => rfl
  | succ m ih =>
    have h1 : cnt p (m + 1) = cnt p m + if p m then 1 else 0 := rfl
    have h2 : cnt (fun j => !p j) (m + 1) = cnt (fun j => !p j) m + if (!p m) then 1 else 0 := rfl
    rw [h1, h2]
    by_cases hp : p m = true
    · rw [if_pos hp, if_neg (by simp [hp])]
      omega
    · rw [if_neg hp, if_pos (by simpa using hp)]
      omega
theorem cnt_fre (n : Nat) {w : Nat} (hw : w ≤ 32) : cnt (fre n (w : Int)) 32 + cnt n.testBit w = w := by
  have h1 : cnt (fre n (w : Int)) 32 = cnt (fun j => !n.testBit j) w := by
    rw [← cnt_below (fun j => !n.testBit j) w 32 hw]
    refine cnt_congr fun i _ => ?_
    unfold fre
    congr 1
    exact decide_eq_decide.2 (by omega)
  have h2 := cnt_not n.testBit w
  omega
theorem wd_bits_eq {p : Nat → Bool} {i : Nat} (hi : i < 32) : (wd p 32).testBit i = p i := by
  rw [wd_bit, decide_eq_true hi, Bool.true_and]
theorem blp_wd (p : Nat → Bool) : blp (wd p 32).testBit 32 = blp p 32 := blp_congr fun _ hi => wd_bits_eq hi
theorem cnt_wd (p : Nat → Bool) : cnt (wd p 32).testBit 32 = cnt p 32 := cnt_congr fun _ hi => wd_bits_eq hi
theorem rd_take (l : List Int) {n i : Nat} (h : i < (l.take n).length) : rd (l.take n) (i : Int) = rd l (i : Int) := by
  have h' : i < l.length := by rw [List.length_take] at h; omega
  rw [rd_get h, rd_get h', List.getElem_take]

/-! ### spreading values over the places of a mask -/
def sprL (v : List Int) : List Int → Nat → List Int → List Int
  | [], _, o => o
  | b :: L, i, o => if i < v.length then sprL v L (i + 1) (o.set b.toNat (rd v (i : Int))) else o
def spr (old : List Int) (n : Nat) (v : List Int) : List Int := if old.length = 8 ∧ n < 256 then sprL v (blp n.testBit 32) 0 old else []
theorem sprL_len (v : List Int) (L : List Int) : ∀ (i : Nat) (o : List Int), (sprL v L i o).length = o.length := by
  induction L with
  | nil => intro i o; rfl
  | cons b L ih =>
    intro i o
    simp only [sprL]
    by_cases h : i < v.length
    · rw [if_pos h, ih]; simp
    · rw [if_neg h]
theorem sprL_stop (v : List Int) (L : List Int) {i : Nat} (h : ¬ i < v.length) (o : List Int) : sprL v L i o = o := by
  cases L with
  | nil => rfl
  | cons b L => simp only [sprL]; rw [if_neg h]
theorem spr_len (old : List Int) (n : Nat) (v : List Int) : (spr old n v).length ≤ 8 := by
  unfold spr
  by_cases h : old.length = 8 ∧ n < 256
  · rw [if_pos h, sprL_len]; omega
  · rw [if_neg h]; simp

/-! ### the lowest bit, as the library finds it -/
theorem ctz_eq {n b : Nat} (hn : n < 2 ^ 32) (hb : n.testBit b = true) (hlo : ∀ j, j < b → n.testBit j = false) : Go.Lib.ctz 32 n = b := by
  have h0 : n ≠ 0 := fun e => by rw [e, Nat.zero_testBit] at hb; cases hb
  unfold Go.Lib.ctz
  rw [if_neg h0]
  obtain ⟨m, hm, _⟩ := Go.Lib.ctzFrom_spec 32 n (by omega) hn
  generalize Go.Lib.ctzFrom 32 n = c at hm ⊢
  have hc : n.testBit c = true := by
    rw [hm, Nat.testBit_two_pow_mul]
    simp [Nat.testBit_eq_decide_div_mod_eq]
  have hcl : ∀ j, j < c → n.testBit j = false := fun j hj => by
    rw [hm, Nat.testBit_two_pow_mul]
    have : ¬ j ≥ c := by omega
    simp [this]
  rcases Nat.lt_trichotomy c b with h | h | h
  · rw [hlo c h] at hc; cases hc
  · exact h
  · rw [hcl b h] at hb; cases hb
/-- The number of the lowest bit, or -1. -/
def low (n : Nat) : Int := if n = 0 then -1 else ((Go.Lib.ctz 32 n : Nat) : Int)
theorem low_zero : low 0 = -1 := rfl
theorem low_at {n b : Nat} (hn : n < 2 ^ 32) (hb : n.testBit b = true) (hlo : ∀ j, j < b → n.testBit j = false) : low n = b := by
  have h0 : n ≠ 0 := fun e => by rw [e, Nat.zero_testBit] at hb; cases hb
  unfold low
  rw [if_neg h0, ctz_eq hn hb hlo]
theorem bits_none {n : Nat} (hn : n < 2 ^ 32) (h : (blp n.testBit 32).length = 0) : n = 0 := by
  have := blp_empty _ _ h
  exact (top_none hn).1 (by omega)
theorem low_first {n : Nat} (hn : n < 2 ^ 32) (h0 : n ≠ 0) : ∃ b : Nat, b < 32 ∧ n.testBit b = true ∧ (∀ j, j < b → n.testBit j = false) ∧ low n = b ∧ blp n.testBit 32 = (b : Int) :: blp (fun j => n.testBit j && !(j == b)) 32 := by
  obtain ⟨b, h1, h2, h3⟩ := low_of_pos hn h0
  refine ⟨b, h1, h2, h3, low_at hn h2 h3, ?_⟩
  rw [blp_first (p := n.testBit) h2 h3, if_pos h1]

/-! ### lanes with one value -/
theorem andNot_nat {a b : Nat} (ha : a < 2 ^ 32) (hb : b < 2 ^ 32) : Go.bits .andNot .u32 (a : Int) (b : Int) = ((wd (fun j => a.testBit j && !b.testBit j) 32 : Nat) : Int) := by
  have h2 : ∀ n : Nat, n < 2 ^ 32 → (BitVec.ofInt 32 (n : Int)) = BitVec.ofNat 32 n := fun n _ => BitVec.ofInt_natCast 32 n
  have h3 : (BitVec.ofNat 32 a &&& ~~~ BitVec.ofNat 32 b).toNat = wd (fun j => a.testBit j && !b.testBit j) 32 := by
    refine eq_of_bits (BitVec.isLt _) (wd_lt32 _) fun i hi => ?_
    rw [wd_bits_eq hi, BitVec.testBit_toNat, BitVec.getLsbD_and, BitVec.getLsbD_not, BitVec.getLsbD_ofNat, BitVec.getLsbD_ofNat]
    simp [hi]
  show IntKind.u32.wrap (((BitVec.ofInt 32 (a : Int) &&& ~~~ BitVec.ofInt 32 (b : Int)).toNat : Nat) : Int) = _
  rw [h2 a ha, h2 b hb, h3]
  exact wraps_u32 _ (Int.natCast_nonneg _) (by have := wd_lt32 (fun j => a.testBit j && !b.testBit j); exact_mod_cast this)
theorem blp_filter (p : Nat → Bool) (q : Int → Bool) (m : Nat) : (blp p m).filter q = blp (fun j => p j && q (j : Int)) m := by
  induction m with
  | zero => rfl
  | succ m ih =>
    simp only [blp, List.filter_append, ih]
    congr 1
    by_cases hp : p m = true
    · by_cases hq : q (m : Int) = true
      · rw [if_pos hp, if_pos (by rw [hp, hq]; rfl)]
        simp [hq]
      · rw [if_pos hp, if_neg (by rw [hp]; simpa using hq)]
        simp [hq]
    · rw [if_neg hp, if_neg (by simp [hp])]
      rfl
/-- A lane of the mask with the value of its lowest lane. -/
def grp (v : List Int) (n : Nat) (j : Nat) : Bool := n.testBit j && decide (rd v (j : Int) = rd v (low n))
def lik (v : List Int) (n : Nat) (b : Int) : Bool := decide (rd v b = rd v (low n))
theorem grp_filter (v : List Int) (n : Nat) : (blp n.testBit 32).filter (lik v n) = blp (grp v n) 32 := blp_filter _ _ _
def gof (v : List Int) (n : Nat) : Nat := if v.length = 8 ∧ n < 256 then wd (grp v n) 32 else 0
/-- The lanes of the mask that are not in its first group. -/
def rst (v : List Int) (n : Nat) : Nat := wd (fun j => n.testBit j && !grp v n j) 32
theorem rst_bit (v : List Int) (n : Nat) {j : Nat} (hj : j < 32) : (rst v n).testBit j = (n.testBit j && !grp v n j) := wd_bits_eq hj
theorem rst_lt (v : List Int) {n : Nat} (hn : n < 256) : rst v n < 256 := by
  have h8 : (256 : Nat) = 2 ^ 8 := rfl
  rw [h8]
  refine Nat.lt_pow_two_of_testBit _ fun i hi => ?_
  unfold rst
  rw [wd_bit, mask_high hn hi]
  simp
def gps (v : List Int) : Nat → Nat → List Int
  | 0, _ => []
  | d + 1, n => if n = 0 then [] else ((wd (grp v n) 32 : Nat) : Int) :: gps v d (rst v n)
theorem gps_len (v : List Int) (d : Nat) : ∀ n, (gps v d n).length ≤ d := by
  induction d with
  | zero => intro n; simp [gps]
  | succ d ih =>
    intro n
    simp only [gps]
    by_cases h : n = 0
    · rw [if_pos h]; simp
    · rw [if_neg h, List.length_cons]
      have := ih (rst v n)
      omega
theorem cnt_split (p q : Nat → Bool) (m : Nat) : cnt p m = cnt (fun j => p j && q j) m + cnt (fun j => p j && !q j) m := by
  induction m with
  | zero => rfl
  | succ m ih =>
    have h1 : cnt p (m + 1) = cnt p m + if p m then 1 else 0 := rfl
    have h2 : cnt (fun j => p j && q j) (m + 1) = cnt (fun j => p j && q j) m + if (p m && q m) then 1 else 0 := rfl
    have h3 : cnt (fun j => p j && !q j) (m + 1) = cnt (fun j => p j && !q j) m + if (p m && !q m) then 1 else 0 := rfl
    rw [h1, h2, h3, ih]
    cases p m <;> cases q m <;> simp <;> omega
theorem cnt_pos {p : Nat → Bool} {b m : Nat} (hb : b < m) (hp : p b = true) : 0 < cnt p m := by
  rw [← blp_len]
  exact List.length_pos_of_mem ((blp_mem p m (b : Int)).2 ⟨b, hb, hp, rfl⟩)
theorem grp_low (v : List Int) {n b : Nat} (hn : n < 2 ^ 32) (hb : n.testBit b = true) (hlo : ∀ j, j < b → n.testBit j = false) : grp v n b = true := by
  unfold grp
  rw [low_at hn hb hlo, hb]
  simp
theorem rst_cnt (v : List Int) {n : Nat} (hn : n < 2 ^ 32) (h0 : n ≠ 0) : cnt (rst v n).testBit 32 < cnt n.testBit 32 := by
  obtain ⟨b, h1, h2, h3⟩ := low_of_pos hn h0
  have e1 : cnt (rst v n).testBit 32 = cnt (fun j => n.testBit j && !grp v n j) 32 := cnt_congr fun i hi => rst_bit v n hi
  have e2 := cnt_split n.testBit (grp v n) 32
  have e3 : 0 < cnt (fun j => n.testBit j && grp v n j) 32 := cnt_pos h1 (by rw [h2, grp_low v hn h2 h3]; rfl)
  omega
theorem cnt_zero {n : Nat} (hn : n < 2 ^ 32) (h : cnt n.testBit 32 = 0) : n = 0 := bits_none hn (by rw [blp_len]; exact h)
theorem filter_take_succ (q : Int → Bool) (l : List Int) {i : Nat} (h : i < l.length) : (l.take (i + 1)).filter q = (l.take i).filter q ++ if q (rd l (i : Int)) then [rd l (i : Int)] else [] := by
  rw [List.take_add_one, List.getElem?_eq_getElem h, rd_get h, List.filter_append]
  congr 1
  cases hq : q l[i] <;> simp [hq]
theorem low_lane {n : Nat} (hn : n < 256) (h0 : n ≠ 0) : 0 ≤ low n ∧ low n < 8 ∧ rd (blp n.testBit 32) 0 = low n := by
  obtain ⟨b, h1, h2, h3, h4, h5⟩ := low_first (n := n) (by omega) h0
  have h8 : ¬ 8 ≤ b := fun h => by rw [mask_high hn h] at h2; cases h2
  rw [h4, h5]
  exact ⟨by omega, by omega, rfl⟩
theorem nonzero_of_len {n : Nat} (h : 0 < (blp n.testBit 32).length) : n ≠ 0 := fun e => by
  rw [e, blp_none (fun j _ => Nat.zero_testBit j)] at h
  simp at h

/-! ### rounds -/
/-- What a memory's word changed comes to: the new words, the word before, and whether there is one. -/
def mch (l : List Int) (a v : Int) : List Int × Int × Bool := if l.length ≤ 64 ∧ 0 ≤ a ∧ a < (l.length : Int) then (l.set a.toNat v, rd l a, true) else ([], 0, false)
theorem mch_len (l : List Int) (a v : Int) : (mch l a v).1.length ≤ l.length := by
  unfold mch
  split
  · rw [List.length_set]; exact Nat.le_refl _
  · exact Nat.zero_le _
theorem mld_mch (l : List Int) (a v : Int) : mld l a = (mch l a v).2 := by
  unfold mld mch
  split <;> rfl
/-- What compare-and-swap comes to. -/
def mcas (l : List Int) (a u v : Int) : List Int × Bool × Bool := if l.length ≤ 64 ∧ 0 ≤ a ∧ a < (l.length : Int) then (if rd l a = u then (l.set a.toNat v, true, true) else (l, false, true)) else ([], false, false)
theorem mcas_len (l : List Int) (a u v : Int) : (mcas l a u v).1.length ≤ l.length := by
  unfold mcas
  split
  · split
    · rw [List.length_set]; exact Nat.le_refl _
    · exact Nat.le_refl _
  · exact Nat.zero_le _
theorem rd_put (l : List Int) {a : Int} (h0 : 0 ≤ a) (h1 : a < (l.length : Int)) : l.set a.toNat (rd l a) = l := by
  obtain ⟨n, rfl⟩ := Int.eq_ofNat_of_zero_le h0
  have hn : n < l.length := by omega
  rw [rd_get hn, Int.toNat_natCast]
  exact List.set_getElem_self hn
theorem btl_put (p : Nat → Bool) (m : Nat) {b : Nat} (_hb : b < m) (c : Bool) : (btl p m).set b (if c = true then 1 else 0) = btl (fun j => if j = b then c else p j) m := by
  refine List.ext_getElem (by simp [btl]) fun i h1 h2 => ?_
  rw [List.getElem_set]
  simp only [btl, List.getElem_map, List.getElem_range]
  by_cases e : b = i
  · subst e; simp
  · have : ¬ i = b := fun h => e h.symm
    simp [e, this]
end Go.Proofs.Ytllidkccikmgiaa.Pure
namespace Go.Proofs.YtllidkccikmgiaaW.PrintWords
theorem Ev.eq {α : Type} {g : Nat → Option α} {r q : α} (h : Ev g r) (e : r = q) : Ev g q := e ▸ h
theorem Ev.const {α : Type} {g : Option α} {r : α} (h : g = some r) : Ev (fun _ => g) r := ⟨0, fun _ _ => h⟩
theorem Ev.stop {α : Type} {g : Nat → Option α} {r : α} (h : ∀ k, g (k + 1) = some r) : Ev g r := Ev.step h (Ev.now r)
/-- From some number of rounds on, several things at once. -/
def Evp (P : Nat → Prop) : Prop := ∃ K, ∀ k, K ≤ k → P k
theorem Ev.and {α : Type} {g : Nat → Option α} {r : α} {P : Nat → Prop} (h : Ev g r) (h' : Evp P) : Evp fun k => g k = some r ∧ P k := by
  obtain ⟨K, h⟩ := h
  obtain ⟨K', h'⟩ := h'
  exact ⟨K + K', fun k hk => ⟨h k (by omega), h' k (by omega)⟩⟩
theorem Ev.last {α : Type} {g : Nat → Option α} {r : α} (h : Ev g r) : Evp fun k => g k = some r := h
theorem Evp.pick {P : Nat → Prop} (h : Evp P) : ∃ k, P k := by
  obtain ⟨K, h⟩ := h
  exact ⟨K, h K (Nat.le_refl _)⟩
theorem Evp.two {P : Nat → Prop} (h : Evp P) : ∃ k, P k ∧ P (k + 1) := by
  obtain ⟨K, h⟩ := h
  exact ⟨K, h K (Nat.le_refl _), h (K + 1) (by omega)⟩
theorem Evp.three {P : Nat → Prop} (h : Evp P) : ∃ k, P k ∧ P (k + 1) ∧ P (k + 1 + 1) := by
  obtain ⟨K, h⟩ := h
  exact ⟨K, h K (Nat.le_refl _), h (K + 1) (by omega), h (K + 1 + 1) (by omega)⟩
end Go.Proofs.YtllidkccikmgiaaW.PrintWords
