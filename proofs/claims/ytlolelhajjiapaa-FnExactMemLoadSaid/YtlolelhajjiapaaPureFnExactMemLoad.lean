/-
  The law FnExactMemLoad: what both programs compute, in plain Lean, and that it is the same.
  Conditions: none beyond those of the statement itself.
-/
import Derived.Test.YtlolelhajjiapaaPFnExactMemLoadx2
import Derived.Test.YtlolelhajjiapaaLib
namespace Go.Proofs.Ytlolelhajjiapaa.Pure
open Go.RowKit Go.Proofs.Ytlolelhajjiapaa.PFnExactMemLoad Go.Proofs.YtlolelhajjiapaaW.PrintWords Go.Proofs.YtlolelhajjiapaaW.PrintLast

/-! ### laws_szUint32S -/
theorem laws_szUint32S.eq (l : List Int) (a : Int) (h0 : 0 ≤ a) (h1 : a < 4611686018427387904) (hl : l.length ≤ maxLen) : laws_szUint32S.f l a = some (if (l.length : Int) ≤ a then a - l.length else -1) := by
  unfold laws_szUint32S.f
  unfold maxLen at hl
  rw [w64 (by omega) (by omega)]
  by_cases h : (l.length : Int) ≤ a
  · rw [if_neg (by omega), if_pos h]
  · rw [if_pos (by omega), if_neg h]
/-! ### laws_szMem -/
theorem laws_szMem.eq (l : List Int) (a : Int) (h0 : 0 ≤ a) (h1 : a < 4611686018427387904) (hl : l.length ≤ maxLen) : laws_szMem.f l a = some (if (l.length : Int) ≤ a then a - l.length else -1) := by
  unfold laws_szMem.f
  rw [laws_szUint32S.eq l a h0 h1 hl, Option.bind_some]
  by_cases h : (l.length : Int) ≤ a
  · rw [if_pos h, if_neg (by omega)]
  · rw [if_neg h, if_pos (by decide)]
/-! ### laws_toUint32S -/
theorem laws_toUint32S.loop (l : List Int) (hl : l.length < 4611686018427387904) (d : Nat) : ∀ (i : Nat) (o : List Int), o.length = l.length → i + d = l.length → o.take i = l.take i → Ev (fun k => laws_toUint32S.l0 k l o (i : Int)) l := by
  induction d with
  | zero =>
    intro i o ho hi ht
    have e : o = l := by
      rw [List.take_of_length_le (by omega), List.take_of_length_le (by omega)] at ht
      exact ht
    refine Ev.stop fun k => ?_
    simp only [laws_toUint32S.l0]
    rw [if_neg (by omega), e]
  | succ d ih =>
    intro i o ho hi ht
    refine Ev.step (f := fun k => laws_toUint32S.l0 k l (o.set i (rd l (i : Int))) ((i + 1 : Nat) : Int)) (fun k => ?_) (ih (i + 1) _ (by simpa using ho) (by omega) (take_set l o (by omega) (by omega) ht))
    simp only [laws_toUint32S.l0]
    rw [if_pos (by omega), if_pos (by omega), if_pos (by omega), w64_succ (by omega), Int.toNat_natCast]
theorem laws_toUint32S.ev (l : List Int) (hl : l.length ≤ 70368744177664) : Ev (fun k => laws_toUint32S.f k l) l := by
  refine Ev.congr (fun k => ?_) (laws_toUint32S.loop l (by omega) l.length 0 (List.replicate l.length 0) (by simp) (by omega) rfl)
  simp only [laws_toUint32S.f]
  rw [if_pos (by omega), Int.toNat_natCast, if_pos (by omega)]
  rfl
/-! ### laws_toMem -/
theorem laws_toMem.ev (l : List Int) (hl : l.length ≤ 35184372088832) : Ev (fun k => laws_toMem.f k l) l :=
  Ev.bind (f := fun _ (t : List Int) => some t) (laws_toUint32S.ev l (by omega)) (Ev.now _)
/-! ### laws_eqUint32S -/
theorem laws_eqUint32S.loop (l : List Int) (hl : l.length < 4611686018427387904) (d : Nat) : ∀ i : Nat, i + d = l.length → Ev (fun k => laws_eqUint32S.l0 k l l (i : Int)) true := by
  induction d with
  | zero =>
    intro i hi
    refine Ev.stop fun k => ?_
    simp only [laws_eqUint32S.l0]
    rw [if_neg (by omega)]
  | succ d ih =>
    intro i hi
    refine Ev.step (f := fun k => laws_eqUint32S.l0 k l l ((i + 1 : Nat) : Int)) (fun k => ?_) (ih (i + 1) (by omega))
    simp only [laws_eqUint32S.l0]
    rw [if_pos (by omega), if_pos (by omega), if_pos (by omega), if_pos trivial, w64_succ (by omega)]
theorem laws_eqUint32S.ev (l : List Int) (hl : l.length < 4611686018427387904) : Ev (fun k => laws_eqUint32S.f k l l) true := by
  refine Ev.congr (fun k => ?_) (laws_eqUint32S.loop l hl l.length 0 (by omega))
  simp only [laws_eqUint32S.f]
  rw [if_pos trivial]
  rfl
/-! ### laws_eqMem -/
theorem laws_eqMem.ev (l : List Int) (hl : l.length < 4611686018427387904) : Ev (fun k => laws_eqMem.f k l l) true :=
  Ev.bind (f := fun _ (t : Bool) => if t = true then some true else some false) (laws_eqUint32S.ev l hl) (Ev.const rfl)
/-! ### spec_MemOk -/
theorem spec_MemOk.eq (l : List Int) : spec_MemOk.f l = some (decide (l.length ≤ 64)) := by
  unfold spec_MemOk.f
  have : ((l.length : Int) ≤ 64) ↔ l.length ≤ 64 := by omega
  simp only [this]
/-! ### spec_l01Has -/
theorem spec_l01Has.eq (l : List Int) (a : Int) : spec_l01Has.f l a = some (decide (l.length ≤ 64 ∧ 0 ≤ a ∧ a < (l.length : Int))) := by
  unfold spec_l01Has.f
  rw [spec_MemOk.eq, Option.bind_some]
  by_cases h : l.length ≤ 64
  · rw [if_pos (by simpa using h)]
    by_cases h0 : a ≥ 0
    · rw [if_pos h0]
      congr 1
      exact decide_eq_decide.2 (by omega)
    · rw [if_neg h0, decide_eq_false (by omega)]
  · rw [if_neg (by simpa using h), decide_eq_false (by omega)]
/-! ### spec_MemLoad -/
theorem spec_MemLoad.eq (l : List Int) (a : Int) : spec_MemLoad.f l a = some (mld l a) := by
  unfold spec_MemLoad.f mld
  rw [spec_l01Has.eq, Option.bind_some]
  by_cases h : l.length ≤ 64 ∧ 0 ≤ a ∧ a < (l.length : Int)
  · rw [if_pos (by simpa using h), if_pos h.2.1, if_pos h.2.2, if_pos h]
  · rw [if_neg (by simpa using h), if_neg h]
/-! ### impl_MemOk -/
theorem impl_MemOk.eq (l : List Int) : impl_MemOk.f l = some (decide (l.length ≤ 64)) := by
  unfold impl_MemOk.f
  have : ((l.length : Int) ≤ 64) ↔ l.length ≤ 64 := by omega
  simp only [this]
/-! ### impl_within -/
theorem impl_within.eq (a lo hi : Int) : impl_within.f a lo hi = some (decide (lo ≤ a ∧ a ≤ hi)) := by
  unfold impl_within.f
  split
  · rename_i h
    have : lo ≤ a := h
    simp [this]
  · rename_i h
    have : ¬ lo ≤ a := h
    simp [this]
/-! ### impl_Mem_has -/
theorem impl_Mem_has.eq (l : List Int) (a : Int) : impl_Mem_has.f l a = some (decide (l.length ≤ 64 ∧ 0 ≤ a ∧ a < (l.length : Int))) := by
  unfold impl_Mem_has.f
  rw [impl_MemOk.eq, Option.bind_some]
  by_cases h : l.length ≤ 64
  · rw [if_pos (by simpa using h), impl_within.eq, Option.bind_some, w64 (by omega) (by omega)]
    congr 1
    exact decide_eq_decide.2 (by omega)
  · rw [if_neg (by simpa using h), decide_eq_false (by omega)]
/-! ### impl_MemLoad -/
theorem impl_MemLoad.eq (l : List Int) (a : Int) : impl_MemLoad.f l a = some (mld l a) := by
  unfold impl_MemLoad.f mld
  rw [impl_Mem_has.eq, Option.bind_some]
  by_cases h : l.length ≤ 64 ∧ 0 ≤ a ∧ a < (l.length : Int)
  · rw [if_pos (by simpa using h), if_pos h.2.1, if_pos h.2.2, if_pos h]
  · rw [if_neg (by simpa using h), if_neg h]
/-! ### laws_FnExactMemLoad -/
theorem FnExactMemLoad (l : List Int) (a : Int) (hl : l.length ≤ maxLen) : ∃ k, laws_FnExactMemLoad.f k l a = some true := by
  by_cases h : (l.length : Int) ≤ 1048576
  · obtain ⟨k, ⟨e1, e2⟩, ⟨f1, f2⟩⟩ := ((laws_toMem.ev l (by omega)).and (laws_eqMem.ev l (by omega)).last).two
    refine ⟨k + 1, ?_⟩
    simp only [laws_FnExactMemLoad.f, laws_szMem.eq l 1048576 (by omega) (by omega) hl, if_pos h, Option.bind_some]
    rw [if_neg (by omega)]
    simp only [laws_FnExactMemLoad.j0, e1, e2, f1, spec_MemLoad.eq, impl_MemLoad.eq, Option.bind_some, bne_self_eq_false, Bool.false_eq_true, if_false, if_true]
  · refine ⟨0, ?_⟩
    simp only [laws_FnExactMemLoad.f, laws_szMem.eq l 1048576 (by omega) (by omega) hl, if_neg h, Option.bind_some]
    rw [if_pos (by omega)]

end Go.Proofs.Ytlolelhajjiapaa.Pure
