/-
  DERIVED. GIVEN WITH THE SEED: THE CARDS: each row of YtljcgggflgbenaaGreatDoorRows.lean that lists a variable, with what it lists TIED to the program's text (the seventh form; the later family's looks); each row that meets fmt, with fmt's text TOLD by the authors' own Lean function (tested against real Go, not proved from fmt's source: count such statements apart). THE CARD IS WHAT COUNTS. Prove the row's statement (the work); the ties are given (YtljcgggflgbenaaGreatDoorTie.lean); close each card by the builder's one call (the guide's Derived/Test/ToyasCard.lean, 'card_holds'). Laid BY PROGRAM, IN A SANDBOX (cutbox-door.mjs). By AI agents, Wed Nov 11 2026. No macro, syntax, notation, axiom, sorry.
-/
import Derived.Test.YtljcgggflgbenaaGreatDoorRows
import GoSem.ClaimSeven
namespace Go.Proofs.YtljcgggflgbenaaGreatDoor
namespace Rows

/-- THE TIED CARD OF 'bastidelaw14.SlotsPlays'. -/
def slotsPlaysCard : Claim7 := { stood := { row := slotsPlaysRow, standIns := [], harness := (true, "448e5aa54332cb6917bd3dcbf6a55d9a2bc7e591732aca8380d5a09d67a0d348"), looks := false }, kinds := [], alts := [], laidByText := true, laidKinds := [.data], laidTests := true, laidLooks := .later }
def SlotsPlaysCardSaid : Prop := Claim7.holds Tryz.pinned (.plain (OpenSpec.ofChange slotsPlaysSpec)) slotsPlaysCard

/-- THE TIED CARD OF 'bastidelaw14.SlotsNames'. -/
def slotsNamesCard : Claim7 := { stood := { row := slotsNamesRow, standIns := [], harness := (true, "448e5aa54332cb6917bd3dcbf6a55d9a2bc7e591732aca8380d5a09d67a0d348"), looks := false }, kinds := [], alts := [], laidByText := true, laidKinds := [.data], laidTests := true, laidLooks := .later }
def SlotsNamesCardSaid : Prop := Claim7.holds Tryz.pinned (.plain (OpenSpec.ofChange slotsNamesSpec)) slotsNamesCard

/-- THE SECOND FORM's CARD OF 'bastidelaw14.SlotsPlays'. -/
def slotsPlaysUptoCard : Claim7 := { stood := { row := slotsPlaysUptoRow, standIns := [], harness := (true, "448e5aa54332cb6917bd3dcbf6a55d9a2bc7e591732aca8380d5a09d67a0d348"), looks := false }, kinds := [], alts := [], laidByText := true, laidKinds := [.data], laidTests := true, laidLooks := .later }
def SlotsPlaysUptoCardSaid : Prop := Claim7.holds Tryz.pinned (.plain (OpenSpec.upto slotsPlaysSpec)) slotsPlaysUptoCard

/-- THE SECOND FORM's CARD OF 'bastidelaw14.SlotsNames'. -/
def slotsNamesUptoCard : Claim7 := { stood := { row := slotsNamesUptoRow, standIns := [], harness := (true, "448e5aa54332cb6917bd3dcbf6a55d9a2bc7e591732aca8380d5a09d67a0d348"), looks := false }, kinds := [], alts := [], laidByText := true, laidKinds := [.data], laidTests := true, laidLooks := .later }
def SlotsNamesUptoCardSaid : Prop := Claim7.holds Tryz.pinned (.plain (OpenSpec.upto slotsNamesSpec)) slotsNamesUptoCard
end Rows
end Go.Proofs.YtljcgggflgbenaaGreatDoor
