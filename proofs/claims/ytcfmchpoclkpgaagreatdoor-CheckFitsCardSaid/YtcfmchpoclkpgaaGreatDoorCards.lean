/-
  DERIVED. GIVEN WITH THE SEED: THE CARDS: each row of YtcfmchpoclkpgaaGreatDoorRows.lean that lists a variable, with what it lists TIED to the program's text (the seventh form; the later family's looks); each row that meets fmt, with fmt's text TOLD by the authors' own Lean function (tested against real Go, not proved from fmt's source: count such statements apart). THE CARD IS WHAT COUNTS. Prove the row's statement (the work); the ties are given (YtcfmchpoclkpgaaGreatDoorTie.lean); close each card by the builder's one call (the guide's Derived/Test/ToyasCard.lean, 'card_holds'). Laid BY PROGRAM, IN A SANDBOX (cutbox-door.mjs). By AI agents, Wed Nov 11 2026. No macro, syntax, notation, axiom, sorry.
-/
import Derived.Test.YtcfmchpoclkpgaaGreatDoorRows
import GoSem.ClaimSeven
namespace Go.Proofs.YtcfmchpoclkpgaaGreatDoor
namespace Rows

/-- THE TIED CARD OF 'noontidelaw30.CheckTells'. -/
def checkTellsCard : Claim7 := { stood := { row := checkTellsRow, standIns := [], harness := (true, "896d8544eca186fcb5d29010c964846bb0ea1cde4f3ae965cd67e8031656f159"), looks := false }, kinds := [], alts := [], laidByText := true, laidKinds := [.data, .pinned], laidTests := true, laidLooks := .later }
def CheckTellsCardSaid : Prop := Claim7.holds Tryz.pinned (.plain (OpenSpec.ofChange checkTellsSpec)) checkTellsCard

/-- THE TIED CARD OF 'noontidelaw30.CheckOne'. -/
def checkOneCard : Claim7 := { stood := { row := checkOneRow, standIns := [], harness := (true, "896d8544eca186fcb5d29010c964846bb0ea1cde4f3ae965cd67e8031656f159"), looks := false }, kinds := [], alts := [], laidByText := true, laidKinds := [.data, .pinned], laidTests := true, laidLooks := .later }
def CheckOneCardSaid : Prop := Claim7.holds Tryz.pinned (.plain (OpenSpec.ofChange checkOneSpec)) checkOneCard

/-- THE TIED CARD OF 'noontidelaw30.CheckFits'. -/
def checkFitsCard : Claim7 := { stood := { row := checkFitsRow, standIns := [], harness := (true, "896d8544eca186fcb5d29010c964846bb0ea1cde4f3ae965cd67e8031656f159"), looks := false }, kinds := [], alts := [], laidByText := true, laidKinds := [.data, .pinned], laidTests := true, laidLooks := .later }
def CheckFitsCardSaid : Prop := Claim7.holds Tryz.pinned (.plain (OpenSpec.ofChange checkFitsSpec)) checkFitsCard

/-- THE TIED CARD OF 'noontidelaw51.DeltaNames'. -/
def deltaNamesCard : Claim7 := { stood := { row := deltaNamesRow, standIns := [], harness := (true, "896d8544eca186fcb5d29010c964846bb0ea1cde4f3ae965cd67e8031656f159"), looks := false }, kinds := [], alts := [], laidByText := true, laidKinds := [.data, .data, .pinned], laidTests := true, laidLooks := .later }
def DeltaNamesCardSaid : Prop := Claim7.holds Tryz.pinned (.plain (OpenSpec.ofChange deltaNamesSpec)) deltaNamesCard

/-- THE SECOND FORM's CARD OF 'noontidelaw30.CheckTells'. -/
def checkTellsUptoCard : Claim7 := { stood := { row := checkTellsUptoRow, standIns := [], harness := (true, "896d8544eca186fcb5d29010c964846bb0ea1cde4f3ae965cd67e8031656f159"), looks := false }, kinds := [], alts := [], laidByText := true, laidKinds := [.data, .pinned], laidTests := true, laidLooks := .later }
def CheckTellsUptoCardSaid : Prop := Claim7.holds Tryz.pinned (.plain (OpenSpec.upto checkTellsSpec)) checkTellsUptoCard

/-- THE SECOND FORM's CARD OF 'noontidelaw30.CheckOne'. -/
def checkOneUptoCard : Claim7 := { stood := { row := checkOneUptoRow, standIns := [], harness := (true, "896d8544eca186fcb5d29010c964846bb0ea1cde4f3ae965cd67e8031656f159"), looks := false }, kinds := [], alts := [], laidByText := true, laidKinds := [.data, .pinned], laidTests := true, laidLooks := .later }
def CheckOneUptoCardSaid : Prop := Claim7.holds Tryz.pinned (.plain (OpenSpec.upto checkOneSpec)) checkOneUptoCard

/-- THE SECOND FORM's CARD OF 'noontidelaw30.CheckFits'. -/
def checkFitsUptoCard : Claim7 := { stood := { row := checkFitsUptoRow, standIns := [], harness := (true, "896d8544eca186fcb5d29010c964846bb0ea1cde4f3ae965cd67e8031656f159"), looks := false }, kinds := [], alts := [], laidByText := true, laidKinds := [.data, .pinned], laidTests := true, laidLooks := .later }
def CheckFitsUptoCardSaid : Prop := Claim7.holds Tryz.pinned (.plain (OpenSpec.upto checkFitsSpec)) checkFitsUptoCard

/-- THE SECOND FORM's CARD OF 'noontidelaw51.DeltaNames'. -/
def deltaNamesUptoCard : Claim7 := { stood := { row := deltaNamesUptoRow, standIns := [], harness := (true, "896d8544eca186fcb5d29010c964846bb0ea1cde4f3ae965cd67e8031656f159"), looks := false }, kinds := [], alts := [], laidByText := true, laidKinds := [.data, .data, .pinned], laidTests := true, laidLooks := .later }
def DeltaNamesUptoCardSaid : Prop := Claim7.holds Tryz.pinned (.plain (OpenSpec.upto deltaNamesSpec)) deltaNamesUptoCard
end Rows
end Go.Proofs.YtcfmchpoclkpgaaGreatDoor
