/-
  The law FnExactMemNew: what both programs compute, in plain Lean, and that it is the same.
  Conditions: none beyond those of the statement itself.
-/
import Derived.Test.YtlolelhajjiapaaPFnExactMemNewx2
import Derived.Test.YtlolelhajjiapaaLib
namespace Go.Proofs.Ytlolelhajjiapaa.Pure
open Go.RowKit Go.Proofs.Ytlolelhajjiapaa.PFnExactMemNew Go.Proofs.YtlolelhajjiapaaW.PrintWords Go.Proofs.YtlolelhajjiapaaW.PrintLast

/-! ### laws_eqUint32S -/
theorem laws_eqUint32S.loop (l : List Int) (hl : l.length < 4611686018427387904) (d : Nat) : ∀ i : Nat, i + d = l.length → Ev (fun k => laws_eqUint32S.l0 k l l (i : Int)) true := by
  induction d with
  | zero =>
    intro i hi
    refine Ev.stop fun k => ?_
    simp only [laws_eqUint32S.l0]
    rw [if_neg (by omega)]
  | succ d ih =>
    intro i hi
    refine Ev.step (f := fun k => laws_eqUint32S.l0 k l l ((i + 1 : Nat) : Int)) (fun k => ?_) (ih (i + 1) (by omega))
    simp only [laws_eqUint32S.l0]
    rw [if_pos (by omega), if_pos (by omega), if_pos (by omega), if_pos trivial, w64_succ (by omega)]
theorem laws_eqUint32S.ev (l : List Int) (hl : l.length < 4611686018427387904) : Ev (fun k => laws_eqUint32S.f k l l) true := by
  refine Ev.congr (fun k => ?_) (laws_eqUint32S.loop l hl l.length 0 (by omega))
  simp only [laws_eqUint32S.f]
  rw [if_pos trivial]
  rfl
/-! ### laws_eqMem -/
theorem laws_eqMem.ev (l : List Int) (hl : l.length < 4611686018427387904) : Ev (fun k => laws_eqMem.f k l l) true :=
  Ev.bind (f := fun _ (t : Bool) => if t = true then some true else some false) (laws_eqUint32S.ev l hl) (Ev.const rfl)
/-! ### spec_MemNew -/
theorem spec_MemNew.eq (a : Int) : spec_MemNew.f a = some (if 0 ≤ a ∧ a ≤ 64 then (List.replicate a.toNat 0, true) else ([], false)) := by
  unfold spec_MemNew.f
  by_cases h : 0 ≤ a ∧ a ≤ 64
  · rw [if_neg (by omega), if_neg (by omega), if_pos h.1, if_pos (by omega), if_pos h]
  · rw [if_neg h]
    by_cases h1 : a < 0
    · rw [if_pos h1]
    · rw [if_neg h1, if_pos (by omega)]
/-! ### impl_within -/
theorem impl_within.eq (a lo hi : Int) : impl_within.f a lo hi = some (decide (lo ≤ a ∧ a ≤ hi)) := by
  unfold impl_within.f
  split
  · rename_i h
    have : lo ≤ a := h
    simp [this]
  · rename_i h
    have : ¬ lo ≤ a := h
    simp [this]
/-! ### impl_MemNew -/
theorem impl_MemNew.eq (a : Int) : impl_MemNew.f a = some (if 0 ≤ a ∧ a ≤ 64 then (List.replicate a.toNat 0, true) else ([], false)) := by
  unfold impl_MemNew.f
  rw [impl_within.eq, Option.bind_some]
  by_cases h : 0 ≤ a ∧ a ≤ 64
  · rw [if_pos (by simpa using h), if_pos h.1, if_pos (by omega), if_pos h]
  · rw [if_neg (by simpa using h), if_neg h]
/-! ### laws_markUint32S -/
theorem laws_markUint32S.loop (m : Nat) (hm : m < 4294967296) (d : Nat) : ∀ (i : Nat) (l : List Int), l.length = m → i + d = m → (∀ j : Nat, j < i → rd l (j : Int) = (j : Int) + 1) →
    ∃ l' : List Int, l'.length = m ∧ (∀ j : Nat, j < m → rd l' (j : Int) = (j : Int) + 1) ∧ Ev (fun k => laws_markUint32S.l0 k l ((i + 1 : Nat) : Int) (i : Int)) (((m + 1 : Nat) : Int), l') := by
  induction d with
  | zero =>
    intro i l hl hi hr
    obtain rfl : i = m := by omega
    refine ⟨l, hl, hr, Ev.stop fun k => ?_⟩
    simp only [laws_markUint32S.l0]
    rw [if_neg (by omega)]
  | succ d ih =>
    intro i l hl hi hr
    obtain ⟨l', h1, h2, h3⟩ := ih (i + 1) (l.set i ((i + 1 : Nat) : Int)) (by simpa using hl) (by omega) (by
      intro j hj
      by_cases e : j = i
      · subst e
        rw [rd_set_self _ _ (by omega)]
        omega
      · rw [rd_set_ne _ _ (by omega)]
        exact hr j (by omega))
    refine ⟨l', h1, h2, Ev.step (f := fun k => laws_markUint32S.l0 k (l.set i ((i + 1 : Nat) : Int)) ((i + 1 + 1 : Nat) : Int) ((i + 1 : Nat) : Int)) (fun k => ?_) h3⟩
    simp only [laws_markUint32S.l0]
    rw [if_pos (by omega), if_pos (by omega), w64_succ (by omega), w64_succ (by omega), Int.toNat_natCast, Int.emod_eq_of_lt (by omega) (by omega)]
theorem laws_markUint32S.ev (l : List Int) (hl : l.length < 4294967296) : ∃ l' : List Int, l'.length = l.length ∧ (∀ j : Nat, j < l.length → rd l' (j : Int) = (j : Int) + 1) ∧ Ev (fun k => laws_markUint32S.f k l 1) (((l.length + 1 : Nat) : Int), l') :=
  laws_markUint32S.loop l.length hl l.length 0 l rfl (by omega) (fun j hj => by omega)
/-! ### laws_markMem -/
theorem laws_markMem.ev (l : List Int) (hl : l.length < 4294967295) : ∃ l' : List Int, l'.length = l.length ∧ (∀ j : Nat, j < l.length → rd l' (j : Int) = (j : Int) + 1) ∧ Ev (fun k => laws_markMem.f k l 1) (((l.length + 1 : Nat) : Int), l') := by
  obtain ⟨l', h1, h2, h3⟩ := laws_markUint32S.ev l (by omega)
  exact ⟨l', h1, h2, Ev.bind (f := fun _ (t : Int × List Int) => some (t.1, t.2)) h3 (Ev.now _)⟩
/-! ### laws_heldUint32S -/
theorem laws_heldUint32S.loop (l : List Int) (hm : l.length < 4294967296) (hr : ∀ j : Nat, j < l.length → rd l (j : Int) = (j : Int) + 1) (d : Nat) : ∀ (i : Nat), i + d = l.length →
    Ev (fun k => laws_heldUint32S.l0 k l ((i + 1 : Nat) : Int) (i : Int)) ((l.length + 1 : Nat) : Int) := by
  induction d with
  | zero =>
    intro i hi
    refine Ev.stop fun k => ?_
    simp only [laws_heldUint32S.l0]
    rw [if_neg (by omega), show i = l.length by omega]
  | succ d ih =>
    intro i hi
    refine Ev.step (f := fun k => laws_heldUint32S.l0 k l ((i + 1 + 1 : Nat) : Int) ((i + 1 : Nat) : Int)) (fun k => ?_) (ih (i + 1) (by omega))
    simp only [laws_heldUint32S.l0]
    rw [if_pos (by omega), if_pos (by omega), hr i (by omega), if_pos (by omega), w64_succ (by omega), w64_succ (by omega)]
theorem laws_heldUint32S.ev (l : List Int) (hl : l.length < 4294967296) (hr : ∀ j : Nat, j < l.length → rd l (j : Int) = (j : Int) + 1) : Ev (fun k => laws_heldUint32S.f k l 1) ((l.length + 1 : Nat) : Int) :=
  laws_heldUint32S.loop l hl hr l.length 0 (by omega)
/-! ### laws_heldMem -/
theorem laws_heldMem.ev (l : List Int) (hl : l.length < 4294967295) (hr : ∀ j : Nat, j < l.length → rd l (j : Int) = (j : Int) + 1) : Ev (fun k => laws_heldMem.f k l 1) ((l.length + 1 : Nat) : Int) :=
  Ev.bind (f := fun _ (t : Int) => if t < 0 then some (-1) else some t) (laws_heldUint32S.ev l (by omega) hr) (Ev.const (by rw [if_neg (by omega)]))
/-! ### laws_FnExactMemNew -/
theorem FnExactMemNew : laws_FnExactMemNew.Pure := by
  intro a0 _
  obtain ⟨l, b, hlb, hl⟩ : ∃ (l : List Int) (b : Bool), (if 0 ≤ a0 ∧ a0 ≤ 64 then (List.replicate a0.toNat 0, true) else ([], false)) = (l, b) ∧ l.length ≤ 64 := by
    by_cases h : 0 ≤ a0 ∧ a0 ≤ 64
    · exact ⟨_, _, if_pos h, by simp; omega⟩
    · exact ⟨_, _, if_neg h, by simp⟩
  obtain ⟨l', hl', hr, hm⟩ := laws_markMem.ev l (by omega)
  have hh := laws_heldMem.ev l' (by omega) (by rw [hl']; exact hr)
  rw [hl'] at hh
  have hneg : ¬ ((l.length + 1 : Nat) : Int) < 0 := by omega
  have hj1 : Ev (fun k => laws_FnExactMemNew.j1 k ((l.length + 1 : Nat) : Int) false l') true := by
    refine Ev.step (f := fun k => (laws_heldMem.f k l' 1).bind fun t => if t < 0 then some false else if t = ((l.length + 1 : Nat) : Int) then some true else some false) (fun k => ?_) (Ev.bind (f := fun _ (t : Int) => if t < 0 then some false else if t = ((l.length + 1 : Nat) : Int) then some true else some false) hh (Ev.const (by rw [if_neg hneg, if_pos rfl])))
    simp only [laws_FnExactMemNew.j1]
    rw [if_neg (by decide)]
  obtain ⟨k, e1, e2, e3, e4⟩ := (hm.and (hh.and ((laws_eqMem.ev l (by omega)).and hj1.last))).pick
  refine ⟨k + 1, ?_⟩
  have e3' := laws_eqMem.mono l l k _ e3
  simp only [laws_FnExactMemNew.f, laws_FnExactMemNew.j0, spec_MemNew.eq, impl_MemNew.eq, hlb, e1, e2, e3, e3', e4, Option.bind_some, if_true, bne_self_eq_false, Bool.false_eq_true, if_false, if_neg hneg]

end Go.Proofs.Ytlolelhajjiapaa.Pure
