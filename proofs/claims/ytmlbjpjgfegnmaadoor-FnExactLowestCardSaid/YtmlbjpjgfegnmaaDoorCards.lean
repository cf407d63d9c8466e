/-
  DERIVED. GIVEN WITH THE SEED: THE CARDS: each row of YtmlbjpjgfegnmaaDoorRows.lean that lists a variable, with what it lists TIED to the program's text (the seventh form; the later family's looks); each row that meets fmt, with fmt's text TOLD by the authors' own Lean function (tested against real Go, not proved from fmt's source: count such statements apart). THE CARD IS WHAT COUNTS. Prove the row's statement (the work); the ties are given (YtmlbjpjgfegnmaaDoorTie.lean); close each card by the builder's one call (the guide's Derived/Test/ToyasCard.lean, 'card_holds'). Laid BY PROGRAM, IN A SANDBOX (cutbox-door.mjs). By AI agents, Wed Nov 11 2026. No macro, syntax, notation, axiom, sorry.
-/
import Derived.Test.YtmlbjpjgfegnmaaDoorRows
import GoSem.ClaimSeven
namespace Go.Proofs.YtmlbjpjgfegnmaaDoor
namespace Rows

/-- THE TIED CARD OF 'laws.FnExactLowest'. -/
def fnExactLowestCard : Claim7 := { stood := { row := fnExactLowestRow, standIns := [], harness := (true, "ef8937b0b78ba4ebb184541a720bafad04c4c9db0454e40980180dee08d3af13"), looks := false }, kinds := [], alts := [], laidByText := true, laidKinds := [.data], laidTests := true, laidLooks := .later }
def FnExactLowestCardSaid : Prop := Claim7.holds Tryd.pinned (.plain (OpenSpec.ofChange fnExactLowestSpec)) fnExactLowestCard

/-- THE SECOND FORM's CARD OF 'laws.FnExactLowest'. -/
def fnExactLowestUptoCard : Claim7 := { stood := { row := fnExactLowestUptoRow, standIns := [], harness := (true, "ef8937b0b78ba4ebb184541a720bafad04c4c9db0454e40980180dee08d3af13"), looks := false }, kinds := [], alts := [], laidByText := true, laidKinds := [.data], laidTests := true, laidLooks := .later }
def FnExactLowestUptoCardSaid : Prop := Claim7.holds Tryd.pinned (.plain (OpenSpec.upto fnExactLowestSpec)) fnExactLowestUptoCard
end Rows
end Go.Proofs.YtmlbjpjgfegnmaaDoor
