/-
  The table of math/bits that TrailingZeros32 reads: what the row's condition on it says of the cells, that it stays, and what TrailingZeros32 returns over it.
  Conditions: the table reads as the program's text lays it (the card ties it).
-/
import Derived.Test.YtklgbopdhomnaaaDoorRows
import Derived.LaidMore
import Derived.OpenShut
import Derived.Stop.Joined
import Derived.Lib.TrailingZeros
import Derived.Below
import Derived.WalkKit
import Derived.Deep.Draws
import Derived.ProofKit
namespace Go.Proofs.YtklgbopdhomnaaaDoor.Tab
open Go.ChangeShapes Go.WideShapes Go.ChangeAt Go.RowKit
/-- The table lies in its variable. -/
def TabW (w : World) : Prop := (∀ j, j < 32 → w.cell? ⟨0, j, none⟩ = some (.int .u8 ((Go.Lib.deBruijn32tab.getD j 0 : Nat) : Int))) ∧ 0 < w.heap.size
theorem TabW.below {w w1 : World} (h : TabW w) (hb : Below w.heap.size w w1) : TabW w1 :=
  ⟨fun j hj => (hb.cell (p := ⟨0, j, none⟩) h.2).trans (h.1 j hj), Nat.lt_of_lt_of_le h.2 hb.size⟩
theorem TabW.drewN {w : World} (h : TabW w) (n : Nat) : TabW (w.drewN n) := h
theorem TabW.drew {w : World} (h : TabW w) : TabW w.drew := h
theorem TabW.alloc {w : World} (h : TabW w) (o : Obj) : TabW (w.alloc o) := h.below ((Below.refl _ _).alloc (Nat.le_refl _) o)
theorem gTab : Tryd.prog.globalNamed "math/bits.deBruijn32tab" = some 0 := by kernel_rfl
theorem tTab : (Tryd.prog.globals[0]?).map (·.type) = some 66 := by kernel_rfl
theorem c5 : Tryd.prog.cellsOf 5 = 1 := by kernel_rfl
theorem data_eq {H : Type} : (Rows.laid_math_bits_deBruijn32tab : DataW H) = .agg (Go.Lib.deBruijn32tab.map fun (n : Nat) => .lit (.int .u8 (n : Int))) := rfl
/-- What the row lists. -/
abbrev laidL : List (String × DataW Unit) := [("math/bits.deBruijn32tab", Rows.laid_math_bits_deBruijn32tab)]
/-- The door's own heap meets the condition: closed facts. -/
theorem door_met (os : Os) (args : Array Value) : laidMetH Tryd.prog laidL ((World.doorLaid Tryd.prog 400 os).forCall (fun _ _ => 0) ⟨#[], args, []⟩).memory :=
  laidMetH_of_parts3 (fuel := 8) (laidMet_of_run' 8 (by kernel_rfl) (by kernel_rfl)) (by kernel_rfl) (by kernel_rfl)
theorem of_laid {W : World} (h : laidMetH Tryd.prog laidL W) : TabW W := by
  rw [MakeChecks.laidMetH_plain _ _ _ (by kernel_rfl)] at h
  obtain ⟨ps, ⟨g, t, cs, f0, p0, q0, hg, ht, hv, hd, _, _⟩, _⟩ := h
  obtain rfl := Option.some.inj (gTab.symm.trans hg)
  obtain rfl := Option.some.inj (tTab.symm.trans ht)
  obtain ⟨xs, m, rfl, hx, hlen, hn, hel⟩ := DataW.trod_array Tryd.underlying66 hd
  rw [data_eq] at hx
  have hx1 : (Go.Lib.deBruijn32tab.map fun (n : Nat) => (DataW.lit (Lit.int .u8 (n : Int)) : DataW Unit)) = xs.map (·.1) := by
    have := (Prod.mk.inj hx).1
    exact DataW.agg.inj this
  have hcell : ∀ j, j < 32 → W.cell? ⟨0, j, none⟩ = some (.int .u8 ((Go.Lib.deBruijn32tab.getD j 0 : Nat) : Int)) := by
    intro j hj
    have h1 := hel j hj
    rw [c5, Nat.mul_one] at h1
    have hy : xs[j]? = some (xs[j]'(by omega)) := List.getElem?_eq_getElem (by omega)
    rw [hy] at h1
    obtain ⟨k, e1, e2, _⟩ := DataW.trod_int Tryd.underlying5 h1
    have h2 : (Go.Lib.deBruijn32tab.map fun (n : Nat) => (DataW.lit (Lit.int .u8 (n : Int)) : DataW Unit))[j]? = (xs.map (·.1))[j]? := by rw [hx1]
    rw [List.getElem?_map, List.getElem?_map, hy, e2] at h2
    have hl : j < Go.Lib.deBruijn32tab.length := hj
    rw [List.getElem?_eq_getElem hl] at h2
    simp only [Option.map_some, Option.some.injEq, DataW.lit.injEq, Lit.int.injEq, true_and] at h2
    rw [World.var?_cell hg hv j, List.getD_eq_getElem?_getD, List.getElem?_eq_getElem hl]
    have h3 : (cs.toList.drop j)[0]? = some (.int .u8 k) := by
      have h4 : ((cs.toList.drop j).take 1)[0]? = some (.int .u8 k) := by rw [e1]; rfl
      rw [List.getElem?_take] at h4
      simpa using h4
    rw [List.getElem?_drop, Nat.add_zero, Array.getElem?_toList] at h3
    rw [h3, ← h2]
    rfl
  refine ⟨hcell, ?_⟩
  have h0 := hcell 0 (by decide)
  rcases Nat.eq_zero_or_pos W.heap.size with hz | hz
  · have : W.heap[0]? = none := by simp [hz]
    simp [World.cell?, this] at h0
  · exact hz
theorem tz_key (x a : Nat) (hx : x < 4294967296) (hx0 : x ≠ 0) (hlow : x &&& (4294967296 - x) = a) :
    Go.bits BinOp.and IntKind.u32 (x : Int) (-(x : Int) % 4294967296) * 125613361 % 4294967296 / 134217728 = ((a * 125613361 % 4294967296 / 134217728 : Nat) : Int) := by
  have e1 : -(x : Int) % 4294967296 = ((4294967296 - x : Nat) : Int) := by omega
  have hw : ∀ n : Int, 0 ≤ n → n < 2 ^ 32 → IntKind.u32.wrap n = n := fun n h0 h1 => by rw [IntKind.wrap_u32]; omega
  rw [e1, (bits_nat .u32 32 (by decide) hw x (4294967296 - x) hx (by omega)).1, hlow]
  omega
set_option maxHeartbeats 1000000 in
theorem tz_core (x k idx : Nat) (w : World) (hx0 : ((x : Int) == 0) = false)
    (key : Go.bits BinOp.and IntKind.u32 (x : Int) (-(x : Int) % 4294967296) * 125613361 % 4294967296 / 134217728 = (idx : Int))
    (hi : idx < 32) (hk : k < 32) (hcell : w.cell? ⟨0, idx, none⟩ = some (.int .u8 (k : Int))) :
    Calls Tryd.prog 56 #[.int .u32 (x : Int)] w fun e w' => e = .returned (.int .i64 (k : Int)) ∧ w' = w := by
  go_enter Tryd.func56, Tryd.ntmps56
  go_wp2_with (simp only [key])
  go_ret
  exact ⟨rfl, rfl⟩
theorem tz_zero (w : World) : Calls Tryd.prog 56 #[.int .u32 0] w fun e w' => e = .returned (.int .i64 32) ∧ w' = w := by
  go_enter Tryd.func56, Tryd.ntmps56
  go_wp2
  go_ret
  exact ⟨rfl, rfl⟩
/-- What TrailingZeros32 returns, of every word. -/
theorem tz_calls (x : Nat) (hx : x < 4294967296) (w : World) (hT : TabW w) :
    Calls Tryd.prog 56 #[.int .u32 (x : Int)] w fun e w' => e = .returned (.int .i64 ((Go.Lib.ctz 32 x : Nat) : Int)) ∧ w' = w := by
  by_cases hx0 : x = 0
  · subst hx0
    exact tz_zero w
  · obtain ⟨hlow, hk⟩ := Go.Lib.lowest_bit 32 x hx0 hx
    obtain ⟨hi, htab⟩ := Go.Lib.deBruijn32_at _ hk
    have hcell := hT.1 _ hi
    rw [htab] at hcell
    exact tz_core x _ _ w (by simp; omega) (tz_key x _ hx hx0 hlow) hi hk hcell
end Go.Proofs.YtklgbopdhomnaaaDoor.Tab
