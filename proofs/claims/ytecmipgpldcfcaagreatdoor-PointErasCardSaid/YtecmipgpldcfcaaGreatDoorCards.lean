/-
  DERIVED. GIVEN WITH THE SEED: THE CARDS: each row of YtecmipgpldcfcaaGreatDoorRows.lean that lists a variable, with what it lists TIED to the program's text (the seventh form; the later family's looks); each row that meets fmt, with fmt's text TOLD by the authors' own Lean function (tested against real Go, not proved from fmt's source: count such statements apart). THE CARD IS WHAT COUNTS. Prove the row's statement (the work); the ties are given (YtecmipgpldcfcaaGreatDoorTie.lean); close each card by the builder's one call (the guide's Derived/Test/ToyasCard.lean, 'card_holds'). Laid BY PROGRAM, IN A SANDBOX (cutbox-door.mjs). By AI agents, Wed Nov 11 2026. No macro, syntax, notation, axiom, sorry.
-/
import Derived.Test.YtecmipgpldcfcaaGreatDoorRows
import GoSem.ClaimSeven
namespace Go.Proofs.YtecmipgpldcfcaaGreatDoor
namespace Rows

/-- THE TIED CARD OF 'noontidelaw34.PointTells'. -/
def pointTellsCard : Claim7 := { stood := { row := pointTellsRow, standIns := [], harness := (true, "5e561de7890699a295bb24bc466d47c2cc54dddad3c90efdee834d2cd67dbca1"), looks := false }, kinds := [], alts := [], laidByText := true, laidKinds := [.data, .pinned], laidTests := true, laidLooks := .later }
def PointTellsCardSaid : Prop := Claim7.holds Tryz.pinned (.plain (OpenSpec.ofChange pointTellsSpec)) pointTellsCard

/-- THE TIED CARD OF 'noontidelaw34.PointEras'. -/
def pointErasCard : Claim7 := { stood := { row := pointErasRow, standIns := [], harness := (true, "5e561de7890699a295bb24bc466d47c2cc54dddad3c90efdee834d2cd67dbca1"), looks := false }, kinds := [], alts := [], laidByText := true, laidKinds := [.data, .pinned], laidTests := true, laidLooks := .later }
def PointErasCardSaid : Prop := Claim7.holds Tryz.pinned (.plain (OpenSpec.ofChange pointErasSpec)) pointErasCard

/-- THE TIED CARD OF 'noontidelaw35.ChangeBetween'. -/
def changeBetweenCard : Claim7 := { stood := { row := changeBetweenRow, standIns := [], harness := (true, "5e561de7890699a295bb24bc466d47c2cc54dddad3c90efdee834d2cd67dbca1"), looks := false }, kinds := [], alts := [], laidByText := true, laidKinds := [.data, .data, .pinned], laidTests := true, laidLooks := .later }
def ChangeBetweenCardSaid : Prop := Claim7.holds Tryz.pinned (.plain (OpenSpec.ofChange changeBetweenSpec)) changeBetweenCard

/-- THE TIED CARD OF 'noontidelaw35.ChangeFar'. -/
def changeFarCard : Claim7 := { stood := { row := changeFarRow, standIns := [], harness := (true, "5e561de7890699a295bb24bc466d47c2cc54dddad3c90efdee834d2cd67dbca1"), looks := false }, kinds := [], alts := [], laidByText := true, laidKinds := [.data, .data, .pinned], laidTests := true, laidLooks := .later }
def ChangeFarCardSaid : Prop := Claim7.holds Tryz.pinned (.plain (OpenSpec.ofChange changeFarSpec)) changeFarCard

/-- THE SECOND FORM's CARD OF 'noontidelaw34.PointTells'. -/
def pointTellsUptoCard : Claim7 := { stood := { row := pointTellsUptoRow, standIns := [], harness := (true, "5e561de7890699a295bb24bc466d47c2cc54dddad3c90efdee834d2cd67dbca1"), looks := false }, kinds := [], alts := [], laidByText := true, laidKinds := [.data, .pinned], laidTests := true, laidLooks := .later }
def PointTellsUptoCardSaid : Prop := Claim7.holds Tryz.pinned (.plain (OpenSpec.upto pointTellsSpec)) pointTellsUptoCard

/-- THE SECOND FORM's CARD OF 'noontidelaw34.PointEras'. -/
def pointErasUptoCard : Claim7 := { stood := { row := pointErasUptoRow, standIns := [], harness := (true, "5e561de7890699a295bb24bc466d47c2cc54dddad3c90efdee834d2cd67dbca1"), looks := false }, kinds := [], alts := [], laidByText := true, laidKinds := [.data, .pinned], laidTests := true, laidLooks := .later }
def PointErasUptoCardSaid : Prop := Claim7.holds Tryz.pinned (.plain (OpenSpec.upto pointErasSpec)) pointErasUptoCard

/-- THE SECOND FORM's CARD OF 'noontidelaw35.ChangeBetween'. -/
def changeBetweenUptoCard : Claim7 := { stood := { row := changeBetweenUptoRow, standIns := [], harness := (true, "5e561de7890699a295bb24bc466d47c2cc54dddad3c90efdee834d2cd67dbca1"), looks := false }, kinds := [], alts := [], laidByText := true, laidKinds := [.data, .data, .pinned], laidTests := true, laidLooks := .later }
def ChangeBetweenUptoCardSaid : Prop := Claim7.holds Tryz.pinned (.plain (OpenSpec.upto changeBetweenSpec)) changeBetweenUptoCard

/-- THE SECOND FORM's CARD OF 'noontidelaw35.ChangeFar'. -/
def changeFarUptoCard : Claim7 := { stood := { row := changeFarUptoRow, standIns := [], harness := (true, "5e561de7890699a295bb24bc466d47c2cc54dddad3c90efdee834d2cd67dbca1"), looks := false }, kinds := [], alts := [], laidByText := true, laidKinds := [.data, .data, .pinned], laidTests := true, laidLooks := .later }
def ChangeFarUptoCardSaid : Prop := Claim7.holds Tryz.pinned (.plain (OpenSpec.upto changeFarSpec)) changeFarUptoCard
end Rows
end Go.Proofs.YtecmipgpldcfcaaGreatDoor
