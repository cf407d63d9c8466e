/-
  The law FnExactClassOf: what both programs compute, in plain Lean, and that it is the same.
  Conditions: none beyond those of the statement itself.
-/
import Derived.Test.YtlolelhajjiapaaPFnExactClassOfx1
import Derived.Test.YtlolelhajjiapaaLib
namespace Go.Proofs.Ytlolelhajjiapaa.Pure
open Go.RowKit Go.Proofs.Ytlolelhajjiapaa.PFnExactClassOf Go.Proofs.YtlolelhajjiapaaW.PrintWords Go.Proofs.YtlolelhajjiapaaW.PrintLast

/-! ### spec_l04Pow -/
theorem spec_l04Pow.loop (d : Nat) : ∀ m : Nat, m + d < 62 → Ev (fun k => spec_l04Pow.l0 k (d : Int) ((2 ^ m : Nat) : Int)) ((2 ^ (m + d) : Nat) : Int) := by
  induction d with
  | zero =>
    intro m hm
    refine Ev.stop fun k => ?_
    simp only [spec_l04Pow.l0]
    rw [if_neg (by omega)]
    rfl
  | succ d ih =>
    intro m hm
    have h := ih (m + 1) (by omega)
    rw [show m + 1 + d = m + (d + 1) by omega] at h
    refine Ev.step (fun k => ?_) h
    have hp : (2 : Nat) ^ (m + 1) < 2 ^ 62 := Nat.pow_lt_pow_right (by decide) (by omega)
    have e : wrap64 (2 * ((2 ^ m : Nat) : Int)) = ((2 ^ (m + 1) : Nat) : Int) := by
      rw [Nat.pow_succ] at hp ⊢
      rw [w64 (by omega) (by omega)]
      omega
    simp only [spec_l04Pow.l0]
    rw [if_pos (by omega), e, w64 (by omega) (by omega), show ((d + 1 : Nat) : Int) - 1 = (d : Int) by omega]
theorem spec_l04Pow.ev (d : Nat) (hd : d < 62) : Ev (fun k => spec_l04Pow.f k (d : Int)) ((2 ^ d : Nat) : Int) := by
  have h := spec_l04Pow.loop d 0 (by omega)
  rw [Nat.zero_add] at h
  exact Ev.congr (fun _ => rfl) h
/-! ### spec_ClassOf -/
theorem spec_ClassOf.loop (a : Int) (ha : 1 ≤ a) (d : Nat) : ∀ i : Nat, i + d = 5 → Ev (fun k => spec_ClassOf.l0 k a (i : Int)) (clsF a d i) := by
  induction d with
  | zero =>
    intro i hi
    refine Ev.step (f := fun k => spec_ClassOf.j1 k a (i : Int) false) (fun k => ?_) (Ev.stop fun k => ?_)
    · simp only [spec_ClassOf.l0]
      rw [if_neg (by omega)]
    · simp only [spec_ClassOf.j1, clsF]
      rw [if_neg (by decide)]
  | succ d ih =>
    intro i hi
    refine Ev.step (f := fun k => spec_ClassOf.j1 k a (i : Int) (decide (a ≥ 1))) (fun k => ?_) ?_
    · simp only [spec_ClassOf.l0]
      rw [if_pos (by omega)]
    · refine Ev.step (f := fun k => (spec_l04Pow.f k (i : Int)).bind fun t => if t ≥ a then some (i : Int) else spec_ClassOf.l0 k a (wrap64 ((i : Int) + 1))) (fun k => ?_) (Ev.bind (spec_l04Pow.ev i (by omega)) ?_)
      · simp only [spec_ClassOf.j1]
        rw [if_pos (by simpa using ha)]
      · simp only [clsF]
        by_cases h : ((2 ^ i : Nat) : Int) ≥ a
        · rw [if_pos h]
          refine Ev.congr (f := fun _ => some (i : Int)) (fun k => ?_) (Ev.now _)
          simp only [if_pos h]
        · rw [if_neg h]
          refine Ev.congr (fun k => ?_) (ih (i + 1) (by omega))
          simp only [if_neg h]
          rw [w64_succ (by omega)]
theorem spec_ClassOf.ev (a : Int) : Ev (fun k => spec_ClassOf.f k a) (cls a) := by
  unfold cls
  by_cases ha : 1 ≤ a
  · rw [if_pos ha]
    exact Ev.congr (fun _ => rfl) (spec_ClassOf.loop a ha 5 0 rfl)
  · rw [if_neg ha]
    refine Ev.congr (f := fun k => spec_ClassOf.l0 k a 0) (fun _ => rfl) (Ev.step (f := fun k => spec_ClassOf.j1 k a 0 (decide (a ≥ 1))) (fun k => ?_) (Ev.stop fun k => ?_))
    · simp only [spec_ClassOf.l0]
      rw [if_pos (by omega)]
    · simp only [spec_ClassOf.j1]
      rw [if_neg (by simpa using ha)]
/-! ### impl_within -/
theorem impl_within.eq (a lo hi : Int) : impl_within.f a lo hi = some (decide (lo ≤ a ∧ a ≤ hi)) := by
  unfold impl_within.f
  split
  · rename_i h
    have : lo ≤ a := h
    simp [this]
  · rename_i h
    have : ¬ lo ≤ a := h
    simp [this]
/-! ### bits_Len32 -/
theorem bits_Len32.tab (c : Nat) (hc : c < 256) : bt (⟨#[0, 1, 2, 2, 3, 3, 3, 3, 4, 4, 4, 4, 4, 4, 4, 4, 5, 5, 5, 5, 5, 5, 5, 5, 5, 5, 5, 5, 5, 5, 5, 5, 6, 6, 6, 6, 6, 6, 6, 6, 6, 6, 6, 6, 6, 6, 6, 6, 6, 6, 6, 6, 6, 6, 6, 6, 6, 6, 6, 6, 6, 6, 6, 6, 7, 7, 7, 7, 7, 7, 7, 7, 7, 7, 7, 7, 7, 7, 7, 7, 7, 7, 7, 7, 7, 7, 7, 7, 7, 7, 7, 7, 7, 7, 7, 7, 7, 7, 7, 7, 7, 7, 7, 7, 7, 7, 7, 7, 7, 7, 7, 7, 7, 7, 7, 7, 7, 7, 7, 7, 7, 7, 7, 7, 7, 7, 7, 7, 8, 8, 8, 8, 8, 8, 8, 8, 8, 8, 8, 8, 8, 8, 8, 8, 8, 8, 8, 8, 8, 8, 8, 8, 8, 8, 8, 8, 8, 8, 8, 8, 8, 8, 8, 8, 8, 8, 8, 8, 8, 8, 8, 8, 8, 8, 8, 8, 8, 8, 8, 8, 8, 8, 8, 8, 8, 8, 8, 8, 8, 8, 8, 8, 8, 8, 8, 8, 8, 8, 8, 8, 8, 8, 8, 8, 8, 8, 8, 8, 8, 8, 8, 8, 8, 8, 8, 8, 8, 8, 8, 8, 8, 8, 8, 8, 8, 8, 8, 8, 8, 8, 8, 8, 8, 8, 8, 8, 8, 8, 8, 8, 8, 8, 8, 8, 8, 8, 8, 8, 8, 8, 8, 8, 8, 8, 8, 8]⟩ : ByteArray) (c : Int) = top c.testBit 8 + 1 := by
  have h : ∀ c : Fin 256, bt (⟨#[0, 1, 2, 2, 3, 3, 3, 3, 4, 4, 4, 4, 4, 4, 4, 4, 5, 5, 5, 5, 5, 5, 5, 5, 5, 5, 5, 5, 5, 5, 5, 5, 6, 6, 6, 6, 6, 6, 6, 6, 6, 6, 6, 6, 6, 6, 6, 6, 6, 6, 6, 6, 6, 6, 6, 6, 6, 6, 6, 6, 6, 6, 6, 6, 7, 7, 7, 7, 7, 7, 7, 7, 7, 7, 7, 7, 7, 7, 7, 7, 7, 7, 7, 7, 7, 7, 7, 7, 7, 7, 7, 7, 7, 7, 7, 7, 7, 7, 7, 7, 7, 7, 7, 7, 7, 7, 7, 7, 7, 7, 7, 7, 7, 7, 7, 7, 7, 7, 7, 7, 7, 7, 7, 7, 7, 7, 7, 7, 8, 8, 8, 8, 8, 8, 8, 8, 8, 8, 8, 8, 8, 8, 8, 8, 8, 8, 8, 8, 8, 8, 8, 8, 8, 8, 8, 8, 8, 8, 8, 8, 8, 8, 8, 8, 8, 8, 8, 8, 8, 8, 8, 8, 8, 8, 8, 8, 8, 8, 8, 8, 8, 8, 8, 8, 8, 8, 8, 8, 8, 8, 8, 8, 8, 8, 8, 8, 8, 8, 8, 8, 8, 8, 8, 8, 8, 8, 8, 8, 8, 8, 8, 8, 8, 8, 8, 8, 8, 8, 8, 8, 8, 8, 8, 8, 8, 8, 8, 8, 8, 8, 8, 8, 8, 8, 8, 8, 8, 8, 8, 8, 8, 8, 8, 8, 8, 8, 8, 8, 8, 8, 8, 8, 8, 8, 8, 8]⟩ : ByteArray) (c.val : Int) = top c.val.testBit 8 + 1 := by decide +kernel
  exact h ⟨c, hc⟩
theorem bits_Len32.eq (n : Nat) (hn : n < 2 ^ 32) : bits_Len32.f (n : Int) = some (top n.testBit 32 + 1) := by
  unfold bits_Len32.f
  have hb := fun x => top_lt (Nat.testBit x) 8
  have hg := fun x => top_ge (Nat.testBit x) 8
  rw [top_bytes hn]
  by_cases a : n ≥ 65536
  · rw [if_pos (by omega)]
    by_cases b : n ≥ 16777216
    · have e : (((n : Int) / 65536) / 256) % 256 = ((n / 16777216 : Nat) : Int) := by omega
      have h1 := hb (n / 16777216)
      have h2 := hg (n / 16777216)
      rw [if_pos (by omega), e, if_pos (by omega), if_pos (by omega), bits_Len32.tab _ (by omega), if_pos b, w64 (x := top _ _ + 1) (by omega) (by omega), w64 (by omega) (by omega)]
      congr 1
      omega
    · have e : ((n : Int) / 65536) % 256 = ((n / 65536 : Nat) : Int) := by omega
      have h1 := hb (n / 65536)
      have h2 := hg (n / 65536)
      rw [if_neg (by omega), e, if_pos (by omega), if_pos (by omega), bits_Len32.tab _ (by omega), if_neg b, if_pos a, w64 (x := top _ _ + 1) (by omega) (by omega), w64 (by omega) (by omega)]
      congr 1
      omega
  · rw [if_neg (by omega)]
    by_cases b : n ≥ 256
    · have e : ((n : Int) / 256) % 256 = ((n / 256 : Nat) : Int) := by omega
      have h1 := hb (n / 256)
      have h2 := hg (n / 256)
      rw [if_pos (by omega), e, if_pos (by omega), if_pos (by omega), bits_Len32.tab _ (by omega), if_neg (by omega), if_neg a, if_pos b, w64 (x := top _ _ + 1) (by omega) (by omega), w64 (by omega) (by omega)]
      congr 1
      omega
    · have e : ((n : Int)) % 256 = (n : Int) := by omega
      have h1 := hb n
      have h2 := hg n
      rw [if_neg (by omega), e, if_pos (by omega), if_pos (by omega), bits_Len32.tab _ (by omega), if_neg (by omega), if_neg a, if_neg b, w64 (x := top _ _ + 1) (by omega) (by omega), w64 (by omega) (by omega)]
      congr 1
      omega
/-! ### bits_Len64 -/
theorem bits_Len64.tab (c : Nat) (hc : c < 256) : bt (⟨#[0, 1, 2, 2, 3, 3, 3, 3, 4, 4, 4, 4, 4, 4, 4, 4, 5, 5, 5, 5, 5, 5, 5, 5, 5, 5, 5, 5, 5, 5, 5, 5, 6, 6, 6, 6, 6, 6, 6, 6, 6, 6, 6, 6, 6, 6, 6, 6, 6, 6, 6, 6, 6, 6, 6, 6, 6, 6, 6, 6, 6, 6, 6, 6, 7, 7, 7, 7, 7, 7, 7, 7, 7, 7, 7, 7, 7, 7, 7, 7, 7, 7, 7, 7, 7, 7, 7, 7, 7, 7, 7, 7, 7, 7, 7, 7, 7, 7, 7, 7, 7, 7, 7, 7, 7, 7, 7, 7, 7, 7, 7, 7, 7, 7, 7, 7, 7, 7, 7, 7, 7, 7, 7, 7, 7, 7, 7, 7, 8, 8, 8, 8, 8, 8, 8, 8, 8, 8, 8, 8, 8, 8, 8, 8, 8, 8, 8, 8, 8, 8, 8, 8, 8, 8, 8, 8, 8, 8, 8, 8, 8, 8, 8, 8, 8, 8, 8, 8, 8, 8, 8, 8, 8, 8, 8, 8, 8, 8, 8, 8, 8, 8, 8, 8, 8, 8, 8, 8, 8, 8, 8, 8, 8, 8, 8, 8, 8, 8, 8, 8, 8, 8, 8, 8, 8, 8, 8, 8, 8, 8, 8, 8, 8, 8, 8, 8, 8, 8, 8, 8, 8, 8, 8, 8, 8, 8, 8, 8, 8, 8, 8, 8, 8, 8, 8, 8, 8, 8, 8, 8, 8, 8, 8, 8, 8, 8, 8, 8, 8, 8, 8, 8, 8, 8, 8, 8]⟩ : ByteArray) (c : Int) = top c.testBit 8 + 1 := by
  have h : ∀ c : Fin 256, bt (⟨#[0, 1, 2, 2, 3, 3, 3, 3, 4, 4, 4, 4, 4, 4, 4, 4, 5, 5, 5, 5, 5, 5, 5, 5, 5, 5, 5, 5, 5, 5, 5, 5, 6, 6, 6, 6, 6, 6, 6, 6, 6, 6, 6, 6, 6, 6, 6, 6, 6, 6, 6, 6, 6, 6, 6, 6, 6, 6, 6, 6, 6, 6, 6, 6, 7, 7, 7, 7, 7, 7, 7, 7, 7, 7, 7, 7, 7, 7, 7, 7, 7, 7, 7, 7, 7, 7, 7, 7, 7, 7, 7, 7, 7, 7, 7, 7, 7, 7, 7, 7, 7, 7, 7, 7, 7, 7, 7, 7, 7, 7, 7, 7, 7, 7, 7, 7, 7, 7, 7, 7, 7, 7, 7, 7, 7, 7, 7, 7, 8, 8, 8, 8, 8, 8, 8, 8, 8, 8, 8, 8, 8, 8, 8, 8, 8, 8, 8, 8, 8, 8, 8, 8, 8, 8, 8, 8, 8, 8, 8, 8, 8, 8, 8, 8, 8, 8, 8, 8, 8, 8, 8, 8, 8, 8, 8, 8, 8, 8, 8, 8, 8, 8, 8, 8, 8, 8, 8, 8, 8, 8, 8, 8, 8, 8, 8, 8, 8, 8, 8, 8, 8, 8, 8, 8, 8, 8, 8, 8, 8, 8, 8, 8, 8, 8, 8, 8, 8, 8, 8, 8, 8, 8, 8, 8, 8, 8, 8, 8, 8, 8, 8, 8, 8, 8, 8, 8, 8, 8, 8, 8, 8, 8, 8, 8, 8, 8, 8, 8, 8, 8, 8, 8, 8, 8, 8, 8]⟩ : ByteArray) (c.val : Int) = top c.val.testBit 8 + 1 := by decide +kernel
  exact h ⟨c, hc⟩
theorem bits_Len64.small (n : Nat) (hn : n < 256) : Ev (fun k => bits_Len64.f k (n : Int)) (top n.testBit 8 + 1) := by
  refine Ev.congr (f := fun k => bits_Len64.j0 k (n : Int) 0) (fun k => ?_) (Ev.stop fun k => ?_)
  · simp only [bits_Len64.f]
    rw [if_neg (by omega)]
  · have e : ((n : Int)) % 256 = (n : Int) := by omega
    have h1 := top_lt n.testBit 8
    have h2 := top_ge n.testBit 8
    rw [bits_Len64.j0.eq_2, if_neg (by omega), if_neg (by omega), e, if_pos (by omega), if_pos (by omega), bits_Len64.tab n hn, w64 (x := top _ _ + 1) (by omega) (by omega), w64 (by omega) (by omega)]
    congr 1
    omega
/-! ### bits_Len -/
theorem bits_Len.small (n : Nat) (hn : n < 256) : Ev (fun k => bits_Len.f k (n : Int)) (top n.testBit 8 + 1) :=
  Ev.bind (f := fun _ (t : Int) => some t) (bits_Len64.small n hn) (Ev.now _)
/-! ### impl_ClassOf -/
theorem impl_ClassOf.ev (a : Int) : Ev (fun k => impl_ClassOf.f k a) (cls a) := by
  by_cases h : 1 ≤ a ∧ a ≤ 16
  · obtain ⟨c, rfl⟩ : ∃ c : Nat, a = (c : Int) + 1 := ⟨(a - 1).toNat, by omega⟩
    have hc : c < 16 := by omega
    have e : IntKind.u64.wrap (wrap64 ((c : Int) + 1 - 1)) = (c : Int) := by
      rw [w64 (by omega) (by omega)]
      simp only [IntKind.wrap, IntKind.bits, IntKind.signed]
      simp
      omega
    have hcls := cls_at ⟨c, hc⟩
    simp only at hcls
    rw [hcls]
    refine Ev.congr (f := fun k => (bits_Len.f k (c : Int)).bind fun t => some t) (fun k => ?_) (Ev.bind (f := fun _ (t : Int) => some t) (bits_Len.small c (by omega)) (Ev.now _))
    simp only [impl_ClassOf.f]
    rw [impl_within.eq, Option.bind_some, if_pos (by simpa using h), e]
  · have e : cls a = -1 := by
      unfold cls
      by_cases h1 : 1 ≤ a
      · rw [if_pos h1, clsF_big (by omega)]
      · rw [if_neg h1]
    rw [e]
    refine Ev.congr (fun k => ?_) (Ev.now _)
    simp only [impl_ClassOf.f]
    rw [impl_within.eq, Option.bind_some, if_neg (by simpa using h)]
/-! ### laws_FnExactClassOf -/
theorem FnExactClassOf : laws_FnExactClassOf.Pure := by
  intro a0 _
  obtain ⟨k, e1, e2⟩ := ((spec_ClassOf.ev a0).and (impl_ClassOf.ev a0).last).pick
  refine ⟨k, ?_⟩
  simp only [laws_FnExactClassOf.f, e1, e2, Option.bind_some, if_true]

end Go.Proofs.Ytlolelhajjiapaa.Pure
