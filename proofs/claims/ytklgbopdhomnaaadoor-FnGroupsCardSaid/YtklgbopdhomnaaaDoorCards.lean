/-
  DERIVED. GIVEN WITH THE SEED: THE CARDS: each row of YtklgbopdhomnaaaDoorRows.lean that lists a variable, with what it lists TIED to the program's text (the seventh form; the later family's looks); each row that meets fmt, with fmt's text TOLD by the authors' own Lean function (tested against real Go, not proved from fmt's source: count such statements apart). THE CARD IS WHAT COUNTS. Prove the row's statement (the work); the ties are given (YtklgbopdhomnaaaDoorTie.lean); close each card by the builder's one call (the guide's Derived/Test/ToyasCard.lean, 'card_holds'). Laid BY PROGRAM, IN A SANDBOX (cutbox-door.mjs). By AI agents, Wed Nov 11 2026. No macro, syntax, notation, axiom, sorry.
-/
import Derived.Test.YtklgbopdhomnaaaDoorRows
import GoSem.ClaimSeven
namespace Go.Proofs.YtklgbopdhomnaaaDoor
namespace Rows

/-- THE TIED CARD OF 'laws.FnGroups'. -/
def fnGroupsCard : Claim7 := { stood := { row := fnGroupsRow, standIns := [], harness := (true, "f00eb52ae8267771fe09a3946199a66e85f6f2cff9dc3383358e433e54d562a8"), looks := false }, kinds := [], alts := [], laidByText := true, laidKinds := [.data], laidTests := true, laidLooks := .later }
def FnGroupsCardSaid : Prop := Claim7.holds Tryd.pinned (.plain (OpenSpec.ofChange fnGroupsSpec)) fnGroupsCard

/-- THE TIED CARD OF 'laws.FnLanes'. -/
def fnLanesCard : Claim7 := { stood := { row := fnLanesRow, standIns := [], harness := (true, "f00eb52ae8267771fe09a3946199a66e85f6f2cff9dc3383358e433e54d562a8"), looks := false }, kinds := [], alts := [], laidByText := true, laidKinds := [.data], laidTests := true, laidLooks := .later }
def FnLanesCardSaid : Prop := Claim7.holds Tryd.pinned (.plain (OpenSpec.ofChange fnLanesSpec)) fnLanesCard

/-- THE TIED CARD OF 'laws.FnExactLeader'. -/
def fnExactLeaderCard : Claim7 := { stood := { row := fnExactLeaderRow, standIns := [], harness := (true, "f00eb52ae8267771fe09a3946199a66e85f6f2cff9dc3383358e433e54d562a8"), looks := false }, kinds := [], alts := [], laidByText := true, laidKinds := [.data], laidTests := true, laidLooks := .later }
def FnExactLeaderCardSaid : Prop := Claim7.holds Tryd.pinned (.plain (OpenSpec.ofChange fnExactLeaderSpec)) fnExactLeaderCard

/-- THE TIED CARD OF 'laws.FnBitsBack'. -/
def fnBitsBackCard : Claim7 := { stood := { row := fnBitsBackRow, standIns := [], harness := (true, "f00eb52ae8267771fe09a3946199a66e85f6f2cff9dc3383358e433e54d562a8"), looks := false }, kinds := [], alts := [], laidByText := true, laidKinds := [.data], laidTests := true, laidLooks := .later }
def FnBitsBackCardSaid : Prop := Claim7.holds Tryd.pinned (.plain (OpenSpec.ofChange fnBitsBackSpec)) fnBitsBackCard

/-- THE TIED CARD OF 'laws.FnExactGroupOf'. -/
def fnExactGroupOfCard : Claim7 := { stood := { row := fnExactGroupOfRow, standIns := [], harness := (true, "f00eb52ae8267771fe09a3946199a66e85f6f2cff9dc3383358e433e54d562a8"), looks := false }, kinds := [], alts := [], laidByText := true, laidKinds := [.data], laidTests := true, laidLooks := .later }
def FnExactGroupOfCardSaid : Prop := Claim7.holds Tryd.pinned (.plain (OpenSpec.ofChange fnExactGroupOfSpec)) fnExactGroupOfCard

/-- THE TIED CARD OF 'laws.FnExactGroups'. -/
def fnExactGroupsCard : Claim7 := { stood := { row := fnExactGroupsRow, standIns := [], harness := (true, "f00eb52ae8267771fe09a3946199a66e85f6f2cff9dc3383358e433e54d562a8"), looks := false }, kinds := [], alts := [], laidByText := true, laidKinds := [.data], laidTests := true, laidLooks := .later }
def FnExactGroupsCardSaid : Prop := Claim7.holds Tryd.pinned (.plain (OpenSpec.ofChange fnExactGroupsSpec)) fnExactGroupsCard

/-- THE SECOND FORM's CARD OF 'laws.FnGroups'. -/
def fnGroupsUptoCard : Claim7 := { stood := { row := fnGroupsUptoRow, standIns := [], harness := (true, "f00eb52ae8267771fe09a3946199a66e85f6f2cff9dc3383358e433e54d562a8"), looks := false }, kinds := [], alts := [], laidByText := true, laidKinds := [.data], laidTests := true, laidLooks := .later }
def FnGroupsUptoCardSaid : Prop := Claim7.holds Tryd.pinned (.plain (OpenSpec.upto fnGroupsSpec)) fnGroupsUptoCard

/-- THE SECOND FORM's CARD OF 'laws.FnLanes'. -/
def fnLanesUptoCard : Claim7 := { stood := { row := fnLanesUptoRow, standIns := [], harness := (true, "f00eb52ae8267771fe09a3946199a66e85f6f2cff9dc3383358e433e54d562a8"), looks := false }, kinds := [], alts := [], laidByText := true, laidKinds := [.data], laidTests := true, laidLooks := .later }
def FnLanesUptoCardSaid : Prop := Claim7.holds Tryd.pinned (.plain (OpenSpec.upto fnLanesSpec)) fnLanesUptoCard

/-- THE SECOND FORM's CARD OF 'laws.FnExactLeader'. -/
def fnExactLeaderUptoCard : Claim7 := { stood := { row := fnExactLeaderUptoRow, standIns := [], harness := (true, "f00eb52ae8267771fe09a3946199a66e85f6f2cff9dc3383358e433e54d562a8"), looks := false }, kinds := [], alts := [], laidByText := true, laidKinds := [.data], laidTests := true, laidLooks := .later }
def FnExactLeaderUptoCardSaid : Prop := Claim7.holds Tryd.pinned (.plain (OpenSpec.upto fnExactLeaderSpec)) fnExactLeaderUptoCard

/-- THE SECOND FORM's CARD OF 'laws.FnBitsBack'. -/
def fnBitsBackUptoCard : Claim7 := { stood := { row := fnBitsBackUptoRow, standIns := [], harness := (true, "f00eb52ae8267771fe09a3946199a66e85f6f2cff9dc3383358e433e54d562a8"), looks := false }, kinds := [], alts := [], laidByText := true, laidKinds := [.data], laidTests := true, laidLooks := .later }
def FnBitsBackUptoCardSaid : Prop := Claim7.holds Tryd.pinned (.plain (OpenSpec.upto fnBitsBackSpec)) fnBitsBackUptoCard

/-- THE SECOND FORM's CARD OF 'laws.FnExactGroupOf'. -/
def fnExactGroupOfUptoCard : Claim7 := { stood := { row := fnExactGroupOfUptoRow, standIns := [], harness := (true, "f00eb52ae8267771fe09a3946199a66e85f6f2cff9dc3383358e433e54d562a8"), looks := false }, kinds := [], alts := [], laidByText := true, laidKinds := [.data], laidTests := true, laidLooks := .later }
def FnExactGroupOfUptoCardSaid : Prop := Claim7.holds Tryd.pinned (.plain (OpenSpec.upto fnExactGroupOfSpec)) fnExactGroupOfUptoCard

/-- THE SECOND FORM's CARD OF 'laws.FnExactGroups'. -/
def fnExactGroupsUptoCard : Claim7 := { stood := { row := fnExactGroupsUptoRow, standIns := [], harness := (true, "f00eb52ae8267771fe09a3946199a66e85f6f2cff9dc3383358e433e54d562a8"), looks := false }, kinds := [], alts := [], laidByText := true, laidKinds := [.data], laidTests := true, laidLooks := .later }
def FnExactGroupsUptoCardSaid : Prop := Claim7.holds Tryd.pinned (.plain (OpenSpec.upto fnExactGroupsSpec)) fnExactGroupsUptoCard
end Rows
end Go.Proofs.YtklgbopdhomnaaaDoor
