/-
  The law FnExactBallot: what both programs compute, in plain Lean, and that it is the same.
  Conditions: none beyond those of the statement itself.
-/
import Derived.Test.YtlolelhajjiapaaPFnExactBallotx2
import Derived.Test.YtlolelhajjiapaaLib
namespace Go.Proofs.Ytlolelhajjiapaa.Pure
open Go.RowKit Go.Proofs.Ytlolelhajjiapaa.PFnExactBallot Go.Proofs.YtlolelhajjiapaaW.PrintWords Go.Proofs.YtlolelhajjiapaaW.PrintLast

/-! ### spec_l01Word -/
theorem spec_l01Word.loop (p : Nat → Bool) : ∀ j : Nat, j ≤ 32 → Ev (fun k => spec_l01Word.l0 k (btl p 32) ((wd p 32 / 2 ^ j : Nat) : Int) ((j : Int) - 1)) ((wd p 32 : Nat) : Int) := by
  intro j
  induction j with
  | zero =>
    intro _
    refine Ev.stop fun k => ?_
    simp only [spec_l01Word.l0]
    rw [if_neg (by omega), Nat.pow_zero, Nat.div_one]
  | succ j ih =>
    intro hj
    refine Ev.step (f := fun k => spec_l01Word.l0 k (btl p 32) ((wd p 32 / 2 ^ j : Nat) : Int) ((j : Int) - 1)) (fun k => ?_) (ih (by omega))
    have hlen := btl_len p 32
    have hi : (((j + 1 : Nat) : Int) - 1) = (j : Int) := by omega
    have h1 := div_lt (wd_lt32 p) j
    have h2 : wd p 32 / 2 ^ (j + 1) = wd p 32 / 2 ^ j / 2 := by rw [Nat.pow_succ, Nat.div_div_eq_div_mul]
    have h3 : (if p j = true then (1 : Int) else 0) = ((wd p 32 / 2 ^ j % 2 : Nat) : Int) := by
      have hb := wd_bit p 32 j
      have hj' : j < 32 := by omega
      rw [Nat.testBit_eq_decide_div_mod_eq, decide_eq_true hj', Bool.true_and] at hb
      rcases Nat.mod_two_eq_zero_or_one (wd p 32 / 2 ^ j) with h | h
      · rw [h] at hb ⊢
        rw [← hb]; rfl
      · rw [h] at hb ⊢
        rw [← hb]; rfl
    have h4 : (((2 * ((wd p 32 / 2 ^ (j + 1) : Nat) : Int)) % 4294967296) + ((if p j = true then (1 : Int) else 0) % 4294967296)) % 4294967296 = ((wd p 32 / 2 ^ j : Nat) : Int) := by
      rw [h3, h2]
      generalize wd p 32 / 2 ^ j = y at h1 ⊢
      omega
    simp only [spec_l01Word.l0]
    rw [hi, if_pos (by omega), if_pos (by omega), if_pos (by omega), btl_rd p (by omega : j < 32), w64 (by omega) (by omega), h4]
theorem spec_l01Word.ev (p : Nat → Bool) : Ev (fun k => spec_l01Word.f k (btl p 32)) ((wd p 32 : Nat) : Int) := by
  have h := spec_l01Word.loop p 32 (Nat.le_refl _)
  rw [Nat.div_eq_of_lt (wd_lt32 p)] at h
  refine Ev.congr (fun k => ?_) h
  simp only [spec_l01Word.f]
  rw [btl_len, w64 (by omega) (by omega)]
  rfl
/-! ### spec_BitsOf -/
theorem spec_BitsOf.loop (l : List Int) (hl : l.length < 4611686018427387904) (d : Nat) : ∀ (i : Nat) (q : Nat → Bool), i + d = l.length → Ev (fun k => spec_BitsOf.l0 k l (btl q 32) (i : Int)) (bofq q (l.drop i)) := by
  induction d with
  | zero =>
    intro i q hi
    rw [List.drop_eq_nil_of_le (by omega), bofq_nil]
    refine Ev.step (f := fun k => (spec_l01Word.f k (btl q 32)).bind fun t => some (t, true)) (fun k => ?_) (Ev.bind (spec_l01Word.ev q) (Ev.now _))
    simp only [spec_BitsOf.l0]
    rw [if_neg (by omega)]
  | succ d ih =>
    intro i q hi
    have hlt : i < l.length := by omega
    rw [drop_rd l hlt, bofq_cons]
    generalize hb : rd l (i : Int) = b
    by_cases h1 : b < 0
    · rw [if_pos (.inl h1)]
      refine Ev.stop fun k => ?_
      simp only [spec_BitsOf.l0]
      rw [if_pos (by omega), if_pos (by omega), hb, if_pos h1]
    · by_cases h2 : b > 31
      · rw [if_pos (.inr h2)]
        refine Ev.stop fun k => ?_
        simp only [spec_BitsOf.l0]
        rw [if_pos (by omega), if_pos (by omega), hb, if_neg h1, if_pos h2]
      · rw [if_neg (by omega)]
        obtain ⟨c, rfl⟩ : ∃ c : Nat, b = c := ⟨b.toNat, by omega⟩
        rw [Int.toNat_natCast]
        have hlen := btl_len q 32
        have hc : c < 32 := by omega
        by_cases h3 : q c = true
        · rw [if_pos h3]
          refine Ev.stop fun k => ?_
          simp only [spec_BitsOf.l0]
          rw [if_pos (by omega), if_pos (by omega), hb, if_neg h1, if_neg h2, if_pos (by omega), if_pos (by omega), btl_rd q hc, if_pos h3, if_pos rfl]
        · rw [if_neg h3]
          refine Ev.step (f := fun k => spec_BitsOf.l0 k l (btl (fun j => q j || j == c) 32) ((i + 1 : Nat) : Int)) (fun k => ?_) (ih (i + 1) _ (by omega))
          simp only [spec_BitsOf.l0]
          rw [if_pos (by omega), if_pos (by omega), hb, if_neg h1, if_neg h2, if_pos (by omega), if_pos (by omega), btl_rd q hc, if_neg h3, if_neg (by decide), Int.toNat_natCast, btl_set q 32 hc, w64_succ (by omega)]
theorem spec_BitsOf.ev (l : List Int) (hl : l.length < 4611686018427387904) : Ev (fun k => spec_BitsOf.f k l) (bof l) := by
  refine Ev.congr (fun k => ?_) (spec_BitsOf.loop l hl l.length 0 (fun _ => false) (by omega))
  simp only [spec_BitsOf.f]
  rw [if_pos (by decide), btl_none]
  rfl
/-! ### spec_Ballot -/
theorem spec_Ballot.loop (l : List Bool) (hl : l.length = 8) (d : Nat) : ∀ i : Nat, i + d = 8 → Ev (fun k => spec_Ballot.l0 k l (blp (fun j => l.getD j false) i) (i : Int)) (bof (blp (fun j => l.getD j false) 8)) := by
  induction d with
  | zero =>
    intro i hi
    obtain rfl : i = 8 := by omega
    have hlen := blp_len_le (fun j => l.getD j false) 8
    refine Ev.step (f := fun k => (spec_BitsOf.f k (blp (fun j => l.getD j false) 8)).bind fun t => some (t.1, t.2)) (fun k => ?_) (Ev.bind (f := fun _ (t : Int × Bool) => some (t.1, t.2)) (spec_BitsOf.ev _ (by omega)) (Ev.now _))
    simp only [spec_Ballot.l0]
    rw [if_neg (by omega)]
  | succ d ih =>
    intro i hi
    have hlen := blp_len_le (fun j => l.getD j false) i
    refine Ev.step (f := fun k => spec_Ballot.l0 k l (blp (fun j => l.getD j false) (i + 1)) ((i + 1 : Nat) : Int)) (fun k => ?_) (ih (i + 1) (by omega))
    simp only [spec_Ballot.l0]
    rw [if_pos (by omega), if_pos (by omega), rdOf_nat, w64_succ (by omega)]
    by_cases hp : l.getD i false = true
    · rw [if_pos hp, if_pos (by omega)]
      simp only [blp, if_pos hp]
    · rw [if_neg hp]
      simp only [blp, if_neg hp, List.append_nil]
theorem spec_Ballot.ev (l : List Bool) : Ev (fun k => spec_Ballot.f k l) (bal l) := by
  unfold bal
  by_cases h : l.length = 8
  · rw [if_pos h, ← bof_blp _ (by decide : 8 ≤ 32)]
    refine Ev.congr (fun k => ?_) (spec_Ballot.loop l h 8 0 rfl)
    simp only [spec_Ballot.f]
    rw [if_pos (by omega)]
    rfl
  · rw [if_neg h]
    refine Ev.congr (fun k => ?_) (Ev.now _)
    simp only [spec_Ballot.f]
    rw [if_neg (by omega)]
/-! ### laws_toBoolS -/
theorem laws_toBoolS.loop (l : List Bool) (hl : l.length < 4611686018427387904) (d : Nat) : ∀ (i : Nat) (o : List Bool), o.length = l.length → i + d = l.length → o.take i = l.take i → Ev (fun k => laws_toBoolS.l0 k l o (i : Int)) l := by
  induction d with
  | zero =>
    intro i o ho hi ht
    have e : o = l := by
      rw [List.take_of_length_le (by omega), List.take_of_length_le (by omega)] at ht
      exact ht
    refine Ev.stop fun k => ?_
    simp only [laws_toBoolS.l0]
    rw [if_neg (by omega), e]
  | succ d ih =>
    intro i o ho hi ht
    refine Ev.step (f := fun k => laws_toBoolS.l0 k l (o.set i (rdOf false l (i : Int))) ((i + 1 : Nat) : Int)) (fun k => ?_) (ih (i + 1) _ (by simpa using ho) (by omega) (take_setB l o (by omega) (by omega) ht))
    simp only [laws_toBoolS.l0]
    rw [if_pos (by omega), if_pos (by omega), if_pos (by omega), w64_succ (by omega), Int.toNat_natCast]
theorem laws_toBoolS.ev (l : List Bool) (hl : l.length ≤ 35184372088832) : Ev (fun k => laws_toBoolS.f k l) l := by
  refine Ev.congr (fun k => ?_) (laws_toBoolS.loop l (by omega) l.length 0 (List.replicate l.length false) (by simp) (by omega) rfl)
  simp only [laws_toBoolS.f]
  rw [if_pos (by omega), Int.toNat_natCast, if_pos (by omega)]
  rfl
/-! ### impl_Ballot -/
theorem impl_Ballot.loop (l : List Bool) (hl : l.length = 8) (d : Nat) : ∀ i : Nat, i + d = 8 → Ev (fun k => impl_Ballot.l0 k ((wd (fun j => l.getD j false && decide (j < i)) 32 : Nat) : Int) l 8 (i : Int)) (((wd (fun j => l.getD j false && decide (j < 8)) 32 : Nat) : Int), true) := by
  induction d with
  | zero =>
    intro i hi
    obtain rfl : i = 8 := by omega
    refine Ev.stop fun k => ?_
    simp only [impl_Ballot.l0]
    rw [if_neg (by omega)]
  | succ d ih =>
    intro i hi
    refine Ev.step (f := fun k => impl_Ballot.l0 k ((wd (fun j => l.getD j false && decide (j < i + 1)) 32 : Nat) : Int) l 8 ((i + 1 : Nat) : Int)) (fun k => ?_) (ih (i + 1) (by omega))
    simp only [impl_Ballot.l0]
    rw [if_pos (by omega), if_pos (by omega), if_pos (by omega), rdOf_nat, w64_succ (by omega)]
    by_cases hp : l.getD i false = true
    · have e : wd (fun j => (l.getD j false && decide (j < i)) || j == i) 32 = wd (fun j => l.getD j false && decide (j < i + 1)) 32 := wd_congr fun j _ => by
        by_cases h1 : j = i
        · subst h1; simp only [hp]; simp
        · have h2 : (j < i + 1) ↔ j < i := by omega
          simp [h1, h2]
      rw [if_pos hp, shl_one (by omega), or_nat (wd_lt32 _) (two_pow_lt (by omega)), wd_or _ (by omega), e]
    · have e : wd (fun j => l.getD j false && decide (j < i)) 32 = wd (fun j => l.getD j false && decide (j < i + 1)) 32 := wd_congr fun j _ => by
        by_cases h1 : j = i
        · subst h1
          have hp' : l.getD j false = false := by simpa using hp
          simp only [hp']; simp
        · have h2 : (j < i + 1) ↔ j < i := by omega
          simp [h2]
      rw [if_neg hp, e]
theorem impl_Ballot.ev (l : List Bool) : Ev (fun k => impl_Ballot.f k l) (bal l) := by
  unfold bal
  by_cases h : l.length = 8
  · rw [if_pos h]
    have e : wd (fun j => l.getD j false && decide (j < 0)) 32 = 0 := (wd_congr fun j _ => by simp).trans (wd_false 32)
    have hl := impl_Ballot.loop l h 8 0 rfl
    rw [e] at hl
    refine Ev.congr (fun k => ?_) hl
    simp only [impl_Ballot.f]
    rw [if_pos (by omega), show (l.length : Int) = 8 by omega]
    rfl
  · rw [if_neg h]
    refine Ev.congr (fun k => ?_) (Ev.now _)
    simp only [impl_Ballot.f]
    rw [if_neg (by omega)]
/-! ### laws_eqBoolS -/
theorem laws_eqBoolS.loop (l : List Bool) (hl : l.length < 4611686018427387904) (d : Nat) : ∀ i : Nat, i + d = l.length → Ev (fun k => laws_eqBoolS.l0 k l l (i : Int)) true := by
  induction d with
  | zero =>
    intro i hi
    refine Ev.stop fun k => ?_
    simp only [laws_eqBoolS.l0]
    rw [if_neg (by omega)]
  | succ d ih =>
    intro i hi
    refine Ev.step (f := fun k => laws_eqBoolS.l0 k l l ((i + 1 : Nat) : Int)) (fun k => ?_) (ih (i + 1) (by omega))
    simp only [laws_eqBoolS.l0]
    rw [if_pos (by omega), if_pos (by omega), if_pos (by omega), if_neg (by simp), w64_succ (by omega)]
theorem laws_eqBoolS.ev (l : List Bool) (hl : l.length < 4611686018427387904) : Ev (fun k => laws_eqBoolS.f k l l) true := by
  refine Ev.congr (fun k => ?_) (laws_eqBoolS.loop l hl l.length 0 (by omega))
  simp only [laws_eqBoolS.f]
  rw [if_pos trivial]
  rfl
/-! ### laws_FnExactBallot -/
theorem FnExactBallot (l : List Bool) (_hl : l.length ≤ maxLen) : ∃ k, laws_FnExactBallot.f k l = some true := by
  by_cases hlen : (l.length : Int) > 1048576
  · exact ⟨0, by simp only [laws_FnExactBallot.f]; rw [if_pos hlen]⟩
  · obtain ⟨k, ⟨e1, e2, e3, e4⟩, ⟨f1, f2, f3, _⟩⟩ := ((laws_toBoolS.ev l (by omega)).and ((spec_Ballot.ev l).and ((impl_Ballot.ev l).and (laws_eqBoolS.ev l (by omega)).last))).two
    refine ⟨k + 1, ?_⟩
    simp only [laws_FnExactBallot.f, laws_FnExactBallot.j0, e1, e4, f1, f2, f3, Option.bind_some, if_true, if_neg hlen, bne_self_eq_false, Bool.false_eq_true, if_false]

end Go.Proofs.Ytlolelhajjiapaa.Pure
