/-
  The law FnExactMemGrow: what both programs compute, in plain Lean, and that it is the same.
  Conditions: none beyond those of the statement itself.
-/
import Derived.Test.YtjhbcfajgilllaaPFnExactMemGrowx3
import Derived.Test.YtjhbcfajgilllaaLib
namespace Go.Proofs.Ytjhbcfajgilllaa.Pure
open Go.RowKit Go.Proofs.Ytjhbcfajgilllaa.PFnExactMemGrow Go.Proofs.YtjhbcfajgilllaaW.PrintWords Go.Proofs.YtjhbcfajgilllaaW.PrintLast

/-! ### laws_szUint32S -/
theorem laws_szUint32S.eq (l : List Int) (a : Int) (h0 : 0 ≤ a) (h1 : a < 4611686018427387904) (hl : l.length ≤ maxLen) : laws_szUint32S.f l a = some (if (l.length : Int) ≤ a then a - l.length else -1) := by
  unfold laws_szUint32S.f
  unfold maxLen at hl
  rw [w64 (by omega) (by omega)]
  by_cases h : (l.length : Int) ≤ a
  · rw [if_neg (by omega), if_pos h]
  · rw [if_pos (by omega), if_neg h]
/-! ### laws_szMem -/
theorem laws_szMem.eq (l : List Int) (a : Int) (h0 : 0 ≤ a) (h1 : a < 4611686018427387904) (hl : l.length ≤ maxLen) : laws_szMem.f l a = some (if (l.length : Int) ≤ a then a - l.length else -1) := by
  unfold laws_szMem.f
  rw [laws_szUint32S.eq l a h0 h1 hl, Option.bind_some]
  by_cases h : (l.length : Int) ≤ a
  · rw [if_pos h, if_neg (by omega)]
  · rw [if_neg h, if_pos (by decide)]
/-! ### laws_toUint32S -/
theorem laws_toUint32S.loop (l : List Int) (hl : l.length < 4611686018427387904) (d : Nat) : ∀ (i : Nat) (o : List Int), o.length = l.length → i + d = l.length → o.take i = l.take i → Ev (fun k => laws_toUint32S.l0 k l o (i : Int)) l := by
  induction d with
  | zero =>
    intro i o ho hi ht
    have e : o = l := by
      rw [List.take_of_length_le (by omega), List.take_of_length_le (by omega)] at ht
      exact ht
    refine Ev.stop fun k => ?_
    simp only [laws_toUint32S.l0]
    rw [if_neg (by omega), e]
  | succ d ih =>
    intro i o ho hi ht
    refine Ev.step (f := fun k => laws_toUint32S.l0 k l (o.set i (rd l (i : Int))) ((i + 1 : Nat) : Int)) (fun k => ?_) (ih (i + 1) _ (by simpa using ho) (by omega) (take_set l o (by omega) (by omega) ht))
    simp only [laws_toUint32S.l0]
    rw [if_pos (by omega), if_pos (by omega), if_pos (by omega), w64_succ (by omega), Int.toNat_natCast]
theorem laws_toUint32S.ev (l : List Int) (hl : l.length ≤ 70368744177664) : Ev (fun k => laws_toUint32S.f k l) l := by
  refine Ev.congr (fun k => ?_) (laws_toUint32S.loop l (by omega) l.length 0 (List.replicate l.length 0) (by simp) (by omega) rfl)
  simp only [laws_toUint32S.f]
  rw [if_pos (by omega), Int.toNat_natCast, if_pos (by omega)]
  rfl
/-! ### laws_toMem -/
theorem laws_toMem.ev (l : List Int) (hl : l.length ≤ 35184372088832) : Ev (fun k => laws_toMem.f k l) l :=
  Ev.bind (f := fun _ (t : List Int) => some t) (laws_toUint32S.ev l (by omega)) (Ev.now _)
/-! ### laws_eqUint32S -/
theorem laws_eqUint32S.loop (l : List Int) (hl : l.length < 4611686018427387904) (d : Nat) : ∀ i : Nat, i + d = l.length → Ev (fun k => laws_eqUint32S.l0 k l l (i : Int)) true := by
  induction d with
  | zero =>
    intro i hi
    refine Ev.stop fun k => ?_
    simp only [laws_eqUint32S.l0]
    rw [if_neg (by omega)]
  | succ d ih =>
    intro i hi
    refine Ev.step (f := fun k => laws_eqUint32S.l0 k l l ((i + 1 : Nat) : Int)) (fun k => ?_) (ih (i + 1) (by omega))
    simp only [laws_eqUint32S.l0]
    rw [if_pos (by omega), if_pos (by omega), if_pos (by omega), if_pos trivial, w64_succ (by omega)]
theorem laws_eqUint32S.ev (l : List Int) (hl : l.length < 4611686018427387904) : Ev (fun k => laws_eqUint32S.f k l l) true := by
  refine Ev.congr (fun k => ?_) (laws_eqUint32S.loop l hl l.length 0 (by omega))
  simp only [laws_eqUint32S.f]
  rw [if_pos trivial]
  rfl
/-! ### laws_eqMem -/
theorem laws_eqMem.ev (l : List Int) (hl : l.length < 4611686018427387904) : Ev (fun k => laws_eqMem.f k l l) true :=
  Ev.bind (f := fun _ (t : Bool) => if t = true then some true else some false) (laws_eqUint32S.ev l hl) (Ev.const rfl)
/-! ### laws_markUint32S -/
theorem laws_markUint32S.loop (m : Nat) (hm : m < 4294967296) (d : Nat) : ∀ (i : Nat) (l : List Int), l.length = m → i + d = m → (∀ j : Nat, j < i → rd l (j : Int) = (j : Int) + 1) →
    ∃ l' : List Int, l'.length = m ∧ (∀ j : Nat, j < m → rd l' (j : Int) = (j : Int) + 1) ∧ Ev (fun k => laws_markUint32S.l0 k l ((i + 1 : Nat) : Int) (i : Int)) (((m + 1 : Nat) : Int), l') := by
  induction d with
  | zero =>
    intro i l hl hi hr
    obtain rfl : i = m := by omega
    refine ⟨l, hl, hr, Ev.stop fun k => ?_⟩
    simp only [laws_markUint32S.l0]
    rw [if_neg (by omega)]
  | succ d ih =>
    intro i l hl hi hr
    obtain ⟨l', h1, h2, h3⟩ := ih (i + 1) (l.set i ((i + 1 : Nat) : Int)) (by simpa using hl) (by omega) (by
      intro j hj
      by_cases e : j = i
      · subst e
        rw [rd_set_self _ _ (by omega)]
        omega
      · rw [rd_set_ne _ _ (by omega)]
        exact hr j (by omega))
    refine ⟨l', h1, h2, Ev.step (f := fun k => laws_markUint32S.l0 k (l.set i ((i + 1 : Nat) : Int)) ((i + 1 + 1 : Nat) : Int) ((i + 1 : Nat) : Int)) (fun k => ?_) h3⟩
    simp only [laws_markUint32S.l0]
    rw [if_pos (by omega), if_pos (by omega), w64_succ (by omega), w64_succ (by omega), Int.toNat_natCast, Int.emod_eq_of_lt (by omega) (by omega)]
theorem laws_markUint32S.ev (l : List Int) (hl : l.length < 4294967296) : ∃ l' : List Int, l'.length = l.length ∧ (∀ j : Nat, j < l.length → rd l' (j : Int) = (j : Int) + 1) ∧ Ev (fun k => laws_markUint32S.f k l 1) (((l.length + 1 : Nat) : Int), l') :=
  laws_markUint32S.loop l.length hl l.length 0 l rfl (by omega) (fun j hj => by omega)
/-! ### laws_markMem -/
theorem laws_markMem.ev (l : List Int) (hl : l.length < 4294967295) : ∃ l' : List Int, l'.length = l.length ∧ (∀ j : Nat, j < l.length → rd l' (j : Int) = (j : Int) + 1) ∧ Ev (fun k => laws_markMem.f k l 1) (((l.length + 1 : Nat) : Int), l') := by
  obtain ⟨l', h1, h2, h3⟩ := laws_markUint32S.ev l (by omega)
  exact ⟨l', h1, h2, Ev.bind (f := fun _ (t : Int × List Int) => some (t.1, t.2)) h3 (Ev.now _)⟩
/-! ### laws_heldUint32S -/
theorem laws_heldUint32S.loop (l : List Int) (hm : l.length < 4294967296) (hr : ∀ j : Nat, j < l.length → rd l (j : Int) = (j : Int) + 1) (d : Nat) : ∀ (i : Nat), i + d = l.length →
    Ev (fun k => laws_heldUint32S.l0 k l ((i + 1 : Nat) : Int) (i : Int)) ((l.length + 1 : Nat) : Int) := by
  induction d with
  | zero =>
    intro i hi
    refine Ev.stop fun k => ?_
    simp only [laws_heldUint32S.l0]
    rw [if_neg (by omega), show i = l.length by omega]
  | succ d ih =>
    intro i hi
    refine Ev.step (f := fun k => laws_heldUint32S.l0 k l ((i + 1 + 1 : Nat) : Int) ((i + 1 : Nat) : Int)) (fun k => ?_) (ih (i + 1) (by omega))
    simp only [laws_heldUint32S.l0]
    rw [if_pos (by omega), if_pos (by omega), hr i (by omega), if_pos (by omega), w64_succ (by omega), w64_succ (by omega)]
theorem laws_heldUint32S.ev (l : List Int) (hl : l.length < 4294967296) (hr : ∀ j : Nat, j < l.length → rd l (j : Int) = (j : Int) + 1) : Ev (fun k => laws_heldUint32S.f k l 1) ((l.length + 1 : Nat) : Int) :=
  laws_heldUint32S.loop l hl hr l.length 0 (by omega)
/-! ### laws_heldMem -/
theorem laws_heldMem.ev (l : List Int) (hl : l.length < 4294967295) (hr : ∀ j : Nat, j < l.length → rd l (j : Int) = (j : Int) + 1) : Ev (fun k => laws_heldMem.f k l 1) ((l.length + 1 : Nat) : Int) :=
  Ev.bind (f := fun _ (t : Int) => if t < 0 then some (-1) else some t) (laws_heldUint32S.ev l (by omega) hr) (Ev.const (by rw [if_neg (by omega)]))
/-! ### spec_MemOk -/
theorem spec_MemOk.eq (l : List Int) : spec_MemOk.f l = some (decide (l.length ≤ 64)) := by
  unfold spec_MemOk.f
  have : ((l.length : Int) ≤ 64) ↔ l.length ≤ 64 := by omega
  simp only [this]
/-! ### spec_MemGrow -/
def mgr (l : List Int) (a : Int) : List Int × Bool := if l.length ≤ 64 ∧ 0 ≤ a ∧ a ≤ 64 - (l.length : Int) then (l ++ List.replicate a.toNat 0, true) else ([], false)
theorem mgr_len (l : List Int) (a : Int) : (mgr l a).1.length ≤ 64 := by
  unfold mgr
  split
  · rw [List.length_append, List.length_replicate]; omega
  · exact Nat.zero_le _
theorem spec_MemGrow.eq (l : List Int) (a : Int) : spec_MemGrow.f l a = some (mgr l a) := by
  unfold spec_MemGrow.f mgr
  rw [spec_MemOk.eq, Option.bind_some]
  by_cases h0 : l.length ≤ 64
  · have hw : wrap64 (64 - (l.length : Int)) = 64 - (l.length : Int) := w64 (by omega) (by omega)
    rw [if_pos (decide_eq_true (by omega)), hw]
    by_cases h1 : a < 0
    · rw [if_pos h1, if_neg (by omega)]
    · by_cases h2 : a > 64 - (l.length : Int)
      · rw [if_neg h1, if_pos h2, if_neg (by omega)]
      · rw [if_neg h1, if_neg h2, if_pos (by omega), Option.bind_some, if_pos (by rw [List.length_nil]; omega), List.nil_append, Option.bind_some, if_pos (by omega), if_pos (by omega)]
  · rw [if_neg (by rw [decide_eq_false (by omega)]; decide), if_neg (by omega)]
/-! ### impl_within -/
theorem impl_within.eq (a lo hi : Int) : impl_within.f a lo hi = some (decide (lo ≤ a ∧ a ≤ hi)) := by
  unfold impl_within.f
  split
  · rename_i h
    have : lo ≤ a := h
    simp [this]
  · rename_i h
    have : ¬ lo ≤ a := h
    simp [this]
/-! ### impl_MemOk -/
theorem impl_MemOk.eq (l : List Int) : impl_MemOk.f l = some (decide (l.length ≤ 64)) := by
  unfold impl_MemOk.f
  have : ((l.length : Int) ≤ 64) ↔ l.length ≤ 64 := by omega
  simp only [this]
/-! ### impl_MemGrow -/
theorem impl_MemGrow.eq (l : List Int) (a : Int) : impl_MemGrow.f l a = some (mgr l a) := by
  unfold impl_MemGrow.f mgr
  rw [impl_MemOk.eq, Option.bind_some]
  by_cases h0 : l.length ≤ 64
  · have hw : wrap64 (64 - (l.length : Int)) = 64 - (l.length : Int) := w64 (by omega) (by omega)
    rw [if_pos (decide_eq_true (by omega)), hw, impl_within.eq, Option.bind_some]
    by_cases h1 : 0 ≤ a ∧ a ≤ 64 - (l.length : Int)
    · rw [if_pos (decide_eq_true (by omega)), if_pos (by omega), Option.bind_some, if_pos h1.1, if_pos (by omega), Option.bind_some, if_pos (by rw [List.length_nil]; omega), List.nil_append, Option.bind_some, if_pos (by rw [List.length_replicate]; omega)]
    · rw [if_neg (by rw [decide_eq_false (by omega)]; decide), if_neg (by omega)]
  · rw [if_neg (by rw [decide_eq_false (by omega)]; decide), if_neg (by omega)]
/-! ### laws_FnExactMemGrow -/
theorem FnExactMemGrow (l : List Int) (a : Int) (hl : l.length ≤ maxLen) : ∃ k, laws_FnExactMemGrow.f k l a = some true := by
  by_cases h : (l.length : Int) ≤ 1048576
  · have hr := mgr_len l a
    generalize hM : mgr l a = M at hr
    obtain ⟨l', hl', hx, hm⟩ := laws_markMem.ev l (by omega)
    obtain ⟨r', hr', hy, hn⟩ := laws_markMem.ev M.1 (by omega)
    have hh := laws_heldMem.ev r' (by omega) (by rw [hr']; exact hy)
    rw [hr'] at hh
    obtain ⟨K, hK⟩ := (laws_toMem.ev l (by omega)).and ((laws_eqMem.ev l (by omega)).and ((laws_eqMem.ev M.1 (by omega)).and (hm.and (hn.and hh.last))))
    have n1 : ¬ ((l.length + 1 : Nat) : Int) < 0 := by omega
    have n2 : ¬ ((M.1.length + 1 : Nat) : Int) < 0 := by omega
    obtain ⟨_, _, _, _, _, g0⟩ := hK K (Nat.le_refl _)
    obtain ⟨a1, _, c1, _, f1, g1⟩ := hK (K + 1) (by omega)
    obtain ⟨a2, b2, c2, d2, f2, g2⟩ := hK (K + 1 + 1) (by omega)
    obtain ⟨a3, b3, c3, d3, f3, g3⟩ := hK (K + 1 + 1 + 1) (by omega)
    have j2 : laws_FnExactMemGrow.j2 (K + 1) ((M.1.length + 1 : Nat) : Int) false r' = some true := by
      simp only [laws_FnExactMemGrow.j2]
      rw [if_neg (by decide), g0, Option.bind_some, if_neg n2, if_pos rfl]
    have j1 : laws_FnExactMemGrow.j1 (K + 1 + 1) a M.2 false l M.1 M.1 = some true := by
      simp only [laws_FnExactMemGrow.j1]
      rw [if_neg (by decide), f1, Option.bind_some, g1, Option.bind_some, if_neg n2, if_pos rfl, a1, Option.bind_some, impl_MemGrow.eq, hM, Option.bind_some, c1, Option.bind_some, if_pos rfl, bne_self_eq_false, j2]
    have j0 : laws_FnExactMemGrow.j0 (K + 1 + 1 + 1) a M.2 M.2 false l M.1 l M.1 = some true := by
      simp only [laws_FnExactMemGrow.j0]
      rw [if_neg (by decide), a2, Option.bind_some, b2, Option.bind_some, if_pos rfl, d2, Option.bind_some, if_neg n1, c2, Option.bind_some, if_pos rfl, bne_self_eq_false, j1]
    refine ⟨K + 1 + 1 + 1, ?_⟩
    unfold laws_FnExactMemGrow.f
    rw [laws_szMem.eq l 1048576 (by omega) (by omega) hl, if_pos h, Option.bind_some, if_neg (by omega), a3, Option.bind_some, spec_MemGrow.eq, hM, Option.bind_some, Option.bind_some, impl_MemGrow.eq, hM, Option.bind_some, c3, Option.bind_some, if_pos rfl, bne_self_eq_false, j0]
  · refine ⟨0, ?_⟩
    unfold laws_FnExactMemGrow.f
    rw [laws_szMem.eq l 1048576 (by omega) (by omega) hl, if_neg h, Option.bind_some, if_pos (by omega)]

end Go.Proofs.Ytjhbcfajgilllaa.Pure
