/-
  DERIVED. GIVEN WITH THE SEED: THE CARDS: each row of YtljcgggflgbenaaDoorRows.lean that lists a variable, with what it lists TIED to the program's text (the seventh form; the later family's looks); each row that meets fmt, with fmt's text TOLD by the authors' own Lean function (tested against real Go, not proved from fmt's source: count such statements apart). THE CARD IS WHAT COUNTS. Prove the row's statement (the work); the ties are given (YtljcgggflgbenaaDoorTie.lean); close each card by the builder's one call (the guide's Derived/Test/ToyasCard.lean, 'card_holds'). Laid BY PROGRAM, IN A SANDBOX (cutbox-door.mjs). By AI agents, Wed Nov 11 2026. No macro, syntax, notation, axiom, sorry.
-/
import Derived.Test.YtljcgggflgbenaaDoorRows
import GoSem.ClaimSeven
namespace Go.Proofs.YtljcgggflgbenaaDoor
namespace Rows

/-- THE TIED CARD OF 'bastidelaw14.SlotsOrder'. -/
def slotsOrderCard : Claim7 := { stood := { row := slotsOrderRow, standIns := [], harness := (true, "ff47f8a9a487d43b21e22630cf0def356c8e0537c7acf46a9ceae73934cc0f5b"), looks := false }, kinds := [], alts := [], laidByText := true, laidKinds := [.data], laidTests := true, laidLooks := .later }
def SlotsOrderCardSaid : Prop := Claim7.holds Tryd.pinned (.plain (OpenSpec.ofChange slotsOrderSpec)) slotsOrderCard

/-- THE TIED CARD OF 'bastidelaw14.SlotsKeeps'. -/
def slotsKeepsCard : Claim7 := { stood := { row := slotsKeepsRow, standIns := [], harness := (true, "ff47f8a9a487d43b21e22630cf0def356c8e0537c7acf46a9ceae73934cc0f5b"), looks := false }, kinds := [], alts := [], laidByText := true, laidKinds := [.data], laidTests := true, laidLooks := .later }
def SlotsKeepsCardSaid : Prop := Claim7.holds Tryd.pinned (.plain (OpenSpec.ofChange slotsKeepsSpec)) slotsKeepsCard

/-- THE TIED CARD OF 'bastidelaw14.SlotsSafe'. -/
def slotsSafeCard : Claim7 := { stood := { row := slotsSafeRow, standIns := [], harness := (true, "ff47f8a9a487d43b21e22630cf0def356c8e0537c7acf46a9ceae73934cc0f5b"), looks := false }, kinds := [], alts := [], laidByText := true, laidKinds := [.data], laidTests := true, laidLooks := .later }
def SlotsSafeCardSaid : Prop := Claim7.holds Tryd.pinned (.plain (OpenSpec.ofChange slotsSafeSpec)) slotsSafeCard

/-- THE TIED CARD OF 'bastidelaw14.SlotsWindow'. -/
def slotsWindowCard : Claim7 := { stood := { row := slotsWindowRow, standIns := [], harness := (true, "ff47f8a9a487d43b21e22630cf0def356c8e0537c7acf46a9ceae73934cc0f5b"), looks := false }, kinds := [], alts := [], laidByText := true, laidKinds := [.data], laidTests := true, laidLooks := .later }
def SlotsWindowCardSaid : Prop := Claim7.holds Tryd.pinned (.plain (OpenSpec.ofChange slotsWindowSpec)) slotsWindowCard

/-- THE TIED CARD OF 'bastidelaw14.SlotsBack'. -/
def slotsBackCard : Claim7 := { stood := { row := slotsBackRow, standIns := [], harness := (true, "ff47f8a9a487d43b21e22630cf0def356c8e0537c7acf46a9ceae73934cc0f5b"), looks := false }, kinds := [], alts := [], laidByText := true, laidKinds := [.data], laidTests := true, laidLooks := .later }
def SlotsBackCardSaid : Prop := Claim7.holds Tryd.pinned (.plain (OpenSpec.ofChange slotsBackSpec)) slotsBackCard

/-- THE SECOND FORM's CARD OF 'bastidelaw14.SlotsOrder'. -/
def slotsOrderUptoCard : Claim7 := { stood := { row := slotsOrderUptoRow, standIns := [], harness := (true, "ff47f8a9a487d43b21e22630cf0def356c8e0537c7acf46a9ceae73934cc0f5b"), looks := false }, kinds := [], alts := [], laidByText := true, laidKinds := [.data], laidTests := true, laidLooks := .later }
def SlotsOrderUptoCardSaid : Prop := Claim7.holds Tryd.pinned (.plain (OpenSpec.upto slotsOrderSpec)) slotsOrderUptoCard

/-- THE SECOND FORM's CARD OF 'bastidelaw14.SlotsKeeps'. -/
def slotsKeepsUptoCard : Claim7 := { stood := { row := slotsKeepsUptoRow, standIns := [], harness := (true, "ff47f8a9a487d43b21e22630cf0def356c8e0537c7acf46a9ceae73934cc0f5b"), looks := false }, kinds := [], alts := [], laidByText := true, laidKinds := [.data], laidTests := true, laidLooks := .later }
def SlotsKeepsUptoCardSaid : Prop := Claim7.holds Tryd.pinned (.plain (OpenSpec.upto slotsKeepsSpec)) slotsKeepsUptoCard

/-- THE SECOND FORM's CARD OF 'bastidelaw14.SlotsSafe'. -/
def slotsSafeUptoCard : Claim7 := { stood := { row := slotsSafeUptoRow, standIns := [], harness := (true, "ff47f8a9a487d43b21e22630cf0def356c8e0537c7acf46a9ceae73934cc0f5b"), looks := false }, kinds := [], alts := [], laidByText := true, laidKinds := [.data], laidTests := true, laidLooks := .later }
def SlotsSafeUptoCardSaid : Prop := Claim7.holds Tryd.pinned (.plain (OpenSpec.upto slotsSafeSpec)) slotsSafeUptoCard

/-- THE SECOND FORM's CARD OF 'bastidelaw14.SlotsWindow'. -/
def slotsWindowUptoCard : Claim7 := { stood := { row := slotsWindowUptoRow, standIns := [], harness := (true, "ff47f8a9a487d43b21e22630cf0def356c8e0537c7acf46a9ceae73934cc0f5b"), looks := false }, kinds := [], alts := [], laidByText := true, laidKinds := [.data], laidTests := true, laidLooks := .later }
def SlotsWindowUptoCardSaid : Prop := Claim7.holds Tryd.pinned (.plain (OpenSpec.upto slotsWindowSpec)) slotsWindowUptoCard

/-- THE SECOND FORM's CARD OF 'bastidelaw14.SlotsBack'. -/
def slotsBackUptoCard : Claim7 := { stood := { row := slotsBackUptoRow, standIns := [], harness := (true, "ff47f8a9a487d43b21e22630cf0def356c8e0537c7acf46a9ceae73934cc0f5b"), looks := false }, kinds := [], alts := [], laidByText := true, laidKinds := [.data], laidTests := true, laidLooks := .later }
def SlotsBackUptoCardSaid : Prop := Claim7.holds Tryd.pinned (.plain (OpenSpec.upto slotsBackSpec)) slotsBackUptoCard
end Rows
end Go.Proofs.YtljcgggflgbenaaDoor
