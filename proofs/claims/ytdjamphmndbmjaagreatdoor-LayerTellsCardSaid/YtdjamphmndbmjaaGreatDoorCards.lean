/-
  DERIVED. GIVEN WITH THE SEED: THE CARDS: each row of YtdjamphmndbmjaaGreatDoorRows.lean that lists a variable, with what it lists TIED to the program's text (the seventh form; the later family's looks); each row that meets fmt, with fmt's text TOLD by the authors' own Lean function (tested against real Go, not proved from fmt's source: count such statements apart). THE CARD IS WHAT COUNTS. Prove the row's statement (the work); the ties are given (YtdjamphmndbmjaaGreatDoorTie.lean); close each card by the builder's one call (the guide's Derived/Test/ToyasCard.lean, 'card_holds'). Laid BY PROGRAM, IN A SANDBOX (cutbox-door.mjs). By AI agents, Wed Nov 11 2026. No macro, syntax, notation, axiom, sorry.
-/
import Derived.Test.YtdjamphmndbmjaaGreatDoorRows
import GoSem.ClaimSeven
namespace Go.Proofs.YtdjamphmndbmjaaGreatDoor
namespace Rows

/-- THE TIED CARD OF 'stratalaw1.TripleTells'. -/
def tripleTellsCard : Claim7 := { stood := { row := tripleTellsRow, standIns := [], harness := (true, "c09811c61edcc56d2350287d852cf335687e438e9d4e1651be096d1567110cd7"), looks := true }, kinds := [], alts := [], laidByText := true, laidKinds := [.handle], laidTests := true, laidLooks := .later }
def TripleTellsCardSaid : Prop := Claim7.holds Tryz.pinned (.plain (OpenSpec.ofChange tripleTellsSpec)) tripleTellsCard

/-- THE TIED CARD OF 'stratalaw1.CodeTells'. -/
def codeTellsCard : Claim7 := { stood := { row := codeTellsRow, standIns := [], harness := (true, "c09811c61edcc56d2350287d852cf335687e438e9d4e1651be096d1567110cd7"), looks := true }, kinds := [], alts := [], laidByText := true, laidKinds := [.handle], laidTests := true, laidLooks := .later }
def CodeTellsCardSaid : Prop := Claim7.holds Tryz.pinned (.plain (OpenSpec.ofChange codeTellsSpec)) codeTellsCard

/-- THE TIED CARD OF 'stratalaw1.TermTells'. -/
def termTellsCard : Claim7 := { stood := { row := termTellsRow, standIns := [], harness := (true, "c09811c61edcc56d2350287d852cf335687e438e9d4e1651be096d1567110cd7"), looks := true }, kinds := [], alts := [], laidByText := true, laidKinds := [.handle], laidTests := true, laidLooks := .later }
def TermTellsCardSaid : Prop := Claim7.holds Tryz.pinned (.plain (OpenSpec.ofChange termTellsSpec)) termTellsCard

/-- THE TIED CARD OF 'stratalaw1.LayerTells'. -/
def layerTellsCard : Claim7 := { stood := { row := layerTellsRow, standIns := [], harness := (true, "c09811c61edcc56d2350287d852cf335687e438e9d4e1651be096d1567110cd7"), looks := true }, kinds := [], alts := [], laidByText := true, laidKinds := [.handle], laidTests := true, laidLooks := .later }
def LayerTellsCardSaid : Prop := Claim7.holds Tryz.pinned (.plain (OpenSpec.ofChange layerTellsSpec)) layerTellsCard

/-- THE TIED CARD OF 'stratalaw1.SetTells'. -/
def setTellsCard : Claim7 := { stood := { row := setTellsRow, standIns := [], harness := (true, "c09811c61edcc56d2350287d852cf335687e438e9d4e1651be096d1567110cd7"), looks := true }, kinds := [], alts := [], laidByText := true, laidKinds := [.handle], laidTests := true, laidLooks := .later }
def SetTellsCardSaid : Prop := Claim7.holds Tryz.pinned (.plain (OpenSpec.ofChange setTellsSpec)) setTellsCard

/-- THE TIED CARD OF 'stratalaw1.ChainPlays'. -/
def chainPlaysCard : Claim7 := { stood := { row := chainPlaysRow, standIns := [], harness := (true, "c09811c61edcc56d2350287d852cf335687e438e9d4e1651be096d1567110cd7"), looks := true }, kinds := [], alts := [], laidByText := true, laidKinds := [.handle], laidTests := true, laidLooks := .later }
def ChainPlaysCardSaid : Prop := Claim7.holds Tryz.pinned (.plain (OpenSpec.ofChange chainPlaysSpec)) chainPlaysCard

/-- THE SECOND FORM's CARD OF 'stratalaw1.TripleTells'. -/
def tripleTellsUptoCard : Claim7 := { stood := { row := tripleTellsUptoRow, standIns := [], harness := (true, "c09811c61edcc56d2350287d852cf335687e438e9d4e1651be096d1567110cd7"), looks := true }, kinds := [], alts := [], laidByText := true, laidKinds := [.handle], laidTests := true, laidLooks := .later }
def TripleTellsUptoCardSaid : Prop := Claim7.holds Tryz.pinned (.plain (OpenSpec.upto tripleTellsSpec)) tripleTellsUptoCard

/-- THE SECOND FORM's CARD OF 'stratalaw1.CodeTells'. -/
def codeTellsUptoCard : Claim7 := { stood := { row := codeTellsUptoRow, standIns := [], harness := (true, "c09811c61edcc56d2350287d852cf335687e438e9d4e1651be096d1567110cd7"), looks := true }, kinds := [], alts := [], laidByText := true, laidKinds := [.handle], laidTests := true, laidLooks := .later }
def CodeTellsUptoCardSaid : Prop := Claim7.holds Tryz.pinned (.plain (OpenSpec.upto codeTellsSpec)) codeTellsUptoCard

/-- THE SECOND FORM's CARD OF 'stratalaw1.TermTells'. -/
def termTellsUptoCard : Claim7 := { stood := { row := termTellsUptoRow, standIns := [], harness := (true, "c09811c61edcc56d2350287d852cf335687e438e9d4e1651be096d1567110cd7"), looks := true }, kinds := [], alts := [], laidByText := true, laidKinds := [.handle], laidTests := true, laidLooks := .later }
def TermTellsUptoCardSaid : Prop := Claim7.holds Tryz.pinned (.plain (OpenSpec.upto termTellsSpec)) termTellsUptoCard

/-- THE SECOND FORM's CARD OF 'stratalaw1.LayerTells'. -/
def layerTellsUptoCard : Claim7 := { stood := { row := layerTellsUptoRow, standIns := [], harness := (true, "c09811c61edcc56d2350287d852cf335687e438e9d4e1651be096d1567110cd7"), looks := true }, kinds := [], alts := [], laidByText := true, laidKinds := [.handle], laidTests := true, laidLooks := .later }
def LayerTellsUptoCardSaid : Prop := Claim7.holds Tryz.pinned (.plain (OpenSpec.upto layerTellsSpec)) layerTellsUptoCard

/-- THE SECOND FORM's CARD OF 'stratalaw1.SetTells'. -/
def setTellsUptoCard : Claim7 := { stood := { row := setTellsUptoRow, standIns := [], harness := (true, "c09811c61edcc56d2350287d852cf335687e438e9d4e1651be096d1567110cd7"), looks := true }, kinds := [], alts := [], laidByText := true, laidKinds := [.handle], laidTests := true, laidLooks := .later }
def SetTellsUptoCardSaid : Prop := Claim7.holds Tryz.pinned (.plain (OpenSpec.upto setTellsSpec)) setTellsUptoCard

/-- THE SECOND FORM's CARD OF 'stratalaw1.ChainPlays'. -/
def chainPlaysUptoCard : Claim7 := { stood := { row := chainPlaysUptoRow, standIns := [], harness := (true, "c09811c61edcc56d2350287d852cf335687e438e9d4e1651be096d1567110cd7"), looks := true }, kinds := [], alts := [], laidByText := true, laidKinds := [.handle], laidTests := true, laidLooks := .later }
def ChainPlaysUptoCardSaid : Prop := Claim7.holds Tryz.pinned (.plain (OpenSpec.upto chainPlaysSpec)) chainPlaysUptoCard
end Rows
end Go.Proofs.YtdjamphmndbmjaaGreatDoor
