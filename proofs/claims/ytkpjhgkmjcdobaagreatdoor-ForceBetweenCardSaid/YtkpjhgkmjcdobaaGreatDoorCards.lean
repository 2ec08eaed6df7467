/-
  DERIVED. GIVEN WITH THE SEED: THE CARDS: each row of YtkpjhgkmjcdobaaGreatDoorRows.lean that lists a variable, with what it lists TIED to the program's text (the seventh form; the later family's looks); each row that meets fmt, with fmt's text TOLD by the authors' own Lean function (tested against real Go, not proved from fmt's source: count such statements apart). THE CARD IS WHAT COUNTS. Prove the row's statement (the work); the ties are given (YtkpjhgkmjcdobaaGreatDoorTie.lean); close each card by the builder's one call (the guide's Derived/Test/ToyasCard.lean, 'card_holds'). Laid BY PROGRAM, IN A SANDBOX (cutbox-door.mjs). By AI agents, Wed Nov 11 2026. No macro, syntax, notation, axiom, sorry.
-/
import Derived.Test.YtkpjhgkmjcdobaaGreatDoorRows
import GoSem.ClaimSeven
namespace Go.Proofs.YtkpjhgkmjcdobaaGreatDoor
namespace Rows

/-- THE TIED CARD OF 'noontidelaw28.UntilTells'. -/
def untilTellsCard : Claim7 := { stood := { row := untilTellsRow, standIns := [], harness := (true, "bbfebbce72946c80bdfbb1de50b5130eec128a773e23ad2ce63689ac10072d51"), looks := false }, kinds := [], alts := [], laidByText := true, laidKinds := [.data, .pinned], laidTests := true, laidLooks := .later }
def UntilTellsCardSaid : Prop := Claim7.holds Tryz.pinned (.plain (OpenSpec.ofChange untilTellsSpec)) untilTellsCard

/-- THE TIED CARD OF 'noontidelaw28.UntilApart'. -/
def untilApartCard : Claim7 := { stood := { row := untilApartRow, standIns := [], harness := (true, "bbfebbce72946c80bdfbb1de50b5130eec128a773e23ad2ce63689ac10072d51"), looks := false }, kinds := [], alts := [], laidByText := true, laidKinds := [.data, .pinned], laidTests := true, laidLooks := .later }
def UntilApartCardSaid : Prop := Claim7.holds Tryz.pinned (.plain (OpenSpec.ofChange untilApartSpec)) untilApartCard

/-- THE TIED CARD OF 'noontidelaw33.ForceTells'. -/
def forceTellsCard : Claim7 := { stood := { row := forceTellsRow, standIns := [], harness := (true, "bbfebbce72946c80bdfbb1de50b5130eec128a773e23ad2ce63689ac10072d51"), looks := false }, kinds := [], alts := [], laidByText := true, laidKinds := [.data, .data, .pinned], laidTests := true, laidLooks := .later }
def ForceTellsCardSaid : Prop := Claim7.holds Tryz.pinned (.plain (OpenSpec.ofChange forceTellsSpec)) forceTellsCard

/-- THE TIED CARD OF 'noontidelaw33.ForceBetween'. -/
def forceBetweenCard : Claim7 := { stood := { row := forceBetweenRow, standIns := [], harness := (true, "bbfebbce72946c80bdfbb1de50b5130eec128a773e23ad2ce63689ac10072d51"), looks := false }, kinds := [], alts := [], laidByText := true, laidKinds := [.data, .data, .pinned], laidTests := true, laidLooks := .later }
def ForceBetweenCardSaid : Prop := Claim7.holds Tryz.pinned (.plain (OpenSpec.ofChange forceBetweenSpec)) forceBetweenCard

/-- THE TIED CARD OF 'noontidelaw34.PointTells'. -/
def pointTellsCard : Claim7 := { stood := { row := pointTellsRow, standIns := [], harness := (true, "bbfebbce72946c80bdfbb1de50b5130eec128a773e23ad2ce63689ac10072d51"), looks := false }, kinds := [], alts := [], laidByText := true, laidKinds := [.data, .pinned], laidTests := true, laidLooks := .later }
def PointTellsCardSaid : Prop := Claim7.holds Tryz.pinned (.plain (OpenSpec.ofChange pointTellsSpec)) pointTellsCard

/-- THE TIED CARD OF 'noontidelaw34.PointEras'. -/
def pointErasCard : Claim7 := { stood := { row := pointErasRow, standIns := [], harness := (true, "bbfebbce72946c80bdfbb1de50b5130eec128a773e23ad2ce63689ac10072d51"), looks := false }, kinds := [], alts := [], laidByText := true, laidKinds := [.data, .pinned], laidTests := true, laidLooks := .later }
def PointErasCardSaid : Prop := Claim7.holds Tryz.pinned (.plain (OpenSpec.ofChange pointErasSpec)) pointErasCard

/-- THE SECOND FORM's CARD OF 'noontidelaw28.UntilTells'. -/
def untilTellsUptoCard : Claim7 := { stood := { row := untilTellsUptoRow, standIns := [], harness := (true, "bbfebbce72946c80bdfbb1de50b5130eec128a773e23ad2ce63689ac10072d51"), looks := false }, kinds := [], alts := [], laidByText := true, laidKinds := [.data, .pinned], laidTests := true, laidLooks := .later }
def UntilTellsUptoCardSaid : Prop := Claim7.holds Tryz.pinned (.plain (OpenSpec.upto untilTellsSpec)) untilTellsUptoCard

/-- THE SECOND FORM's CARD OF 'noontidelaw28.UntilApart'. -/
def untilApartUptoCard : Claim7 := { stood := { row := untilApartUptoRow, standIns := [], harness := (true, "bbfebbce72946c80bdfbb1de50b5130eec128a773e23ad2ce63689ac10072d51"), looks := false }, kinds := [], alts := [], laidByText := true, laidKinds := [.data, .pinned], laidTests := true, laidLooks := .later }
def UntilApartUptoCardSaid : Prop := Claim7.holds Tryz.pinned (.plain (OpenSpec.upto untilApartSpec)) untilApartUptoCard

/-- THE SECOND FORM's CARD OF 'noontidelaw33.ForceTells'. -/
def forceTellsUptoCard : Claim7 := { stood := { row := forceTellsUptoRow, standIns := [], harness := (true, "bbfebbce72946c80bdfbb1de50b5130eec128a773e23ad2ce63689ac10072d51"), looks := false }, kinds := [], alts := [], laidByText := true, laidKinds := [.data, .data, .pinned], laidTests := true, laidLooks := .later }
def ForceTellsUptoCardSaid : Prop := Claim7.holds Tryz.pinned (.plain (OpenSpec.upto forceTellsSpec)) forceTellsUptoCard

/-- THE SECOND FORM's CARD OF 'noontidelaw33.ForceBetween'. -/
def forceBetweenUptoCard : Claim7 := { stood := { row := forceBetweenUptoRow, standIns := [], harness := (true, "bbfebbce72946c80bdfbb1de50b5130eec128a773e23ad2ce63689ac10072d51"), looks := false }, kinds := [], alts := [], laidByText := true, laidKinds := [.data, .data, .pinned], laidTests := true, laidLooks := .later }
def ForceBetweenUptoCardSaid : Prop := Claim7.holds Tryz.pinned (.plain (OpenSpec.upto forceBetweenSpec)) forceBetweenUptoCard

/-- THE SECOND FORM's CARD OF 'noontidelaw34.PointTells'. -/
def pointTellsUptoCard : Claim7 := { stood := { row := pointTellsUptoRow, standIns := [], harness := (true, "bbfebbce72946c80bdfbb1de50b5130eec128a773e23ad2ce63689ac10072d51"), looks := false }, kinds := [], alts := [], laidByText := true, laidKinds := [.data, .pinned], laidTests := true, laidLooks := .later }
def PointTellsUptoCardSaid : Prop := Claim7.holds Tryz.pinned (.plain (OpenSpec.upto pointTellsSpec)) pointTellsUptoCard

/-- THE SECOND FORM's CARD OF 'noontidelaw34.PointEras'. -/
def pointErasUptoCard : Claim7 := { stood := { row := pointErasUptoRow, standIns := [], harness := (true, "bbfebbce72946c80bdfbb1de50b5130eec128a773e23ad2ce63689ac10072d51"), looks := false }, kinds := [], alts := [], laidByText := true, laidKinds := [.data, .pinned], laidTests := true, laidLooks := .later }
def PointErasUptoCardSaid : Prop := Claim7.holds Tryz.pinned (.plain (OpenSpec.upto pointErasSpec)) pointErasUptoCard
end Rows
end Go.Proofs.YtkpjhgkmjcdobaaGreatDoor
