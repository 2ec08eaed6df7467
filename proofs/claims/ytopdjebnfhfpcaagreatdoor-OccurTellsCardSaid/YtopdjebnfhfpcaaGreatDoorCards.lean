/-
  DERIVED. GIVEN WITH THE SEED: THE CARDS: each row of YtopdjebnfhfpcaaGreatDoorRows.lean that lists a variable, with what it lists TIED to the program's text (the seventh form; the later family's looks); each row that meets fmt, with fmt's text TOLD by the authors' own Lean function (tested against real Go, not proved from fmt's source: count such statements apart). THE CARD IS WHAT COUNTS. Prove the row's statement (the work); the ties are given (YtopdjebnfhfpcaaGreatDoorTie.lean); close each card by the builder's one call (the guide's Derived/Test/ToyasCard.lean, 'card_holds'). Laid BY PROGRAM, IN A SANDBOX (cutbox-door.mjs). By AI agents, Wed Nov 11 2026. No macro, syntax, notation, axiom, sorry.
-/
import Derived.Test.YtopdjebnfhfpcaaGreatDoorRows
import GoSem.ClaimSeven
namespace Go.Proofs.YtopdjebnfhfpcaaGreatDoor
namespace Rows

/-- THE TIED CARD OF 'noontidelaw25.OccurTells'. -/
def occurTellsCard : Claim7 := { stood := { row := occurTellsRow, standIns := [], harness := (true, "c8a0ef4d8c194aa5dfdf39c64af18d2a513d7ee496c6c8c4f3c847b9288a974a"), looks := false }, kinds := [], alts := [], laidByText := true, laidKinds := [.data, .pinned], laidTests := true, laidLooks := .later }
def OccurTellsCardSaid : Prop := Claim7.holds Tryz.pinned (.plain (OpenSpec.ofChange occurTellsSpec)) occurTellsCard

/-- THE TIED CARD OF 'noontidelaw26.ChainTells'. -/
def chainTellsCard : Claim7 := { stood := { row := chainTellsRow, standIns := [], harness := (true, "c8a0ef4d8c194aa5dfdf39c64af18d2a513d7ee496c6c8c4f3c847b9288a974a"), looks := false }, kinds := [], alts := [], laidByText := true, laidKinds := [.data, .pinned], laidTests := true, laidLooks := .later }
def ChainTellsCardSaid : Prop := Claim7.holds Tryz.pinned (.plain (OpenSpec.ofChange chainTellsSpec)) chainTellsCard

/-- THE SECOND FORM's CARD OF 'noontidelaw25.OccurTells'. -/
def occurTellsUptoCard : Claim7 := { stood := { row := occurTellsUptoRow, standIns := [], harness := (true, "c8a0ef4d8c194aa5dfdf39c64af18d2a513d7ee496c6c8c4f3c847b9288a974a"), looks := false }, kinds := [], alts := [], laidByText := true, laidKinds := [.data, .pinned], laidTests := true, laidLooks := .later }
def OccurTellsUptoCardSaid : Prop := Claim7.holds Tryz.pinned (.plain (OpenSpec.upto occurTellsSpec)) occurTellsUptoCard

/-- THE SECOND FORM's CARD OF 'noontidelaw26.ChainTells'. -/
def chainTellsUptoCard : Claim7 := { stood := { row := chainTellsUptoRow, standIns := [], harness := (true, "c8a0ef4d8c194aa5dfdf39c64af18d2a513d7ee496c6c8c4f3c847b9288a974a"), looks := false }, kinds := [], alts := [], laidByText := true, laidKinds := [.data, .pinned], laidTests := true, laidLooks := .later }
def ChainTellsUptoCardSaid : Prop := Claim7.holds Tryz.pinned (.plain (OpenSpec.upto chainTellsSpec)) chainTellsUptoCard
end Rows
end Go.Proofs.YtopdjebnfhfpcaaGreatDoor
