/-
  DERIVED. GIVEN WITH THE SEED: THE CARDS: each row of YtgmfojgnjdpofaaGreatDoorRows.lean that lists a variable, with what it lists TIED to the program's text (the seventh form; the later family's looks); each row that meets fmt, with fmt's text TOLD by the authors' own Lean function (tested against real Go, not proved from fmt's source: count such statements apart). THE CARD IS WHAT COUNTS. Prove the row's statement (the work); the ties are given (YtgmfojgnjdpofaaGreatDoorTie.lean); close each card by the builder's one call (the guide's Derived/Test/ToyasCard.lean, 'card_holds'). Laid BY PROGRAM, IN A SANDBOX (cutbox-door.mjs). By AI agents, Wed Nov 11 2026. No macro, syntax, notation, axiom, sorry.
-/
import Derived.Test.YtgmfojgnjdpofaaGreatDoorRows
import GoSem.ClaimSeven
namespace Go.Proofs.YtgmfojgnjdpofaaGreatDoor
namespace Rows

/-- THE TIED CARD OF 'noontidelaw35.ChangeBetween'. -/
def changeBetweenCard : Claim7 := { stood := { row := changeBetweenRow, standIns := [], harness := (true, "d0795b4bf6fd4335dde4c607375cdc164bc8bbbe24ecb9d1ec9ce7642ab5d4f5"), looks := false }, kinds := [], alts := [], laidByText := true, laidKinds := [.data, .data, .pinned], laidTests := true, laidLooks := .later }
def ChangeBetweenCardSaid : Prop := Claim7.holds Tryz.pinned (.plain (OpenSpec.ofChange changeBetweenSpec)) changeBetweenCard

/-- THE TIED CARD OF 'noontidelaw35.ChangeFar'. -/
def changeFarCard : Claim7 := { stood := { row := changeFarRow, standIns := [], harness := (true, "d0795b4bf6fd4335dde4c607375cdc164bc8bbbe24ecb9d1ec9ce7642ab5d4f5"), looks := false }, kinds := [], alts := [], laidByText := true, laidKinds := [.data, .data, .pinned], laidTests := true, laidLooks := .later }
def ChangeFarCardSaid : Prop := Claim7.holds Tryz.pinned (.plain (OpenSpec.ofChange changeFarSpec)) changeFarCard

/-- THE TIED CARD OF 'noontidelaw50.TailTells'. -/
def tailTellsCard : Claim7 := { stood := { row := tailTellsRow, standIns := [], harness := (true, "d0795b4bf6fd4335dde4c607375cdc164bc8bbbe24ecb9d1ec9ce7642ab5d4f5"), looks := false }, kinds := [], alts := [], laidByText := true, laidKinds := [.data, .pinned], laidTests := true, laidLooks := .later }
def TailTellsCardSaid : Prop := Claim7.holds Tryz.pinned (.plain (OpenSpec.ofChange tailTellsSpec)) tailTellsCard

/-- THE TIED CARD OF 'noontidelaw50.TailGood'. -/
def tailGoodCard : Claim7 := { stood := { row := tailGoodRow, standIns := [], harness := (true, "d0795b4bf6fd4335dde4c607375cdc164bc8bbbe24ecb9d1ec9ce7642ab5d4f5"), looks := false }, kinds := [], alts := [], laidByText := true, laidKinds := [.data, .pinned], laidTests := true, laidLooks := .later }
def TailGoodCardSaid : Prop := Claim7.holds Tryz.pinned (.plain (OpenSpec.ofChange tailGoodSpec)) tailGoodCard

/-- THE TIED CARD OF 'noontidelaw50.TailBack'. -/
def tailBackCard : Claim7 := { stood := { row := tailBackRow, standIns := [], harness := (true, "d0795b4bf6fd4335dde4c607375cdc164bc8bbbe24ecb9d1ec9ce7642ab5d4f5"), looks := false }, kinds := [], alts := [], laidByText := true, laidKinds := [.data, .pinned], laidTests := true, laidLooks := .later }
def TailBackCardSaid : Prop := Claim7.holds Tryz.pinned (.plain (OpenSpec.ofChange tailBackSpec)) tailBackCard

/-- THE TIED CARD OF 'noontidelaw36.InfoTells'. -/
def infoTellsCard : Claim7 := { stood := { row := infoTellsRow, standIns := [], harness := (true, "d0795b4bf6fd4335dde4c607375cdc164bc8bbbe24ecb9d1ec9ce7642ab5d4f5"), looks := false }, kinds := [], alts := [], laidByText := true, laidKinds := [.data, .data, .pinned], laidTests := true, laidLooks := .later }
def InfoTellsCardSaid : Prop := Claim7.holds Tryz.pinned (.plain (OpenSpec.ofChange infoTellsSpec)) infoTellsCard

/-- THE TIED CARD OF 'noontidelaw36.InfoAll'. -/
def infoAllCard : Claim7 := { stood := { row := infoAllRow, standIns := [], harness := (true, "d0795b4bf6fd4335dde4c607375cdc164bc8bbbe24ecb9d1ec9ce7642ab5d4f5"), looks := false }, kinds := [], alts := [], laidByText := true, laidKinds := [.data, .data, .pinned], laidTests := true, laidLooks := .later }
def InfoAllCardSaid : Prop := Claim7.holds Tryz.pinned (.plain (OpenSpec.ofChange infoAllSpec)) infoAllCard

/-- THE TIED CARD OF 'noontidelaw36.InfoOne'. -/
def infoOneCard : Claim7 := { stood := { row := infoOneRow, standIns := [], harness := (true, "d0795b4bf6fd4335dde4c607375cdc164bc8bbbe24ecb9d1ec9ce7642ab5d4f5"), looks := false }, kinds := [], alts := [], laidByText := true, laidKinds := [.data, .data, .pinned], laidTests := true, laidLooks := .later }
def InfoOneCardSaid : Prop := Claim7.holds Tryz.pinned (.plain (OpenSpec.ofChange infoOneSpec)) infoOneCard

/-- THE TIED CARD OF 'noontidelaw41.LocalTells'. -/
def localTellsCard : Claim7 := { stood := { row := localTellsRow, standIns := [], harness := (true, "d0795b4bf6fd4335dde4c607375cdc164bc8bbbe24ecb9d1ec9ce7642ab5d4f5"), looks := false }, kinds := [], alts := [], laidByText := true, laidKinds := [.data, .data, .pinned], laidTests := true, laidLooks := .later }
def LocalTellsCardSaid : Prop := Claim7.holds Tryz.pinned (.plain (OpenSpec.ofChange localTellsSpec)) localTellsCard

/-- THE TIED CARD OF 'noontidelaw41.LocalIs'. -/
def localIsCard : Claim7 := { stood := { row := localIsRow, standIns := [], harness := (true, "d0795b4bf6fd4335dde4c607375cdc164bc8bbbe24ecb9d1ec9ce7642ab5d4f5"), looks := false }, kinds := [], alts := [], laidByText := true, laidKinds := [.data, .data, .pinned], laidTests := true, laidLooks := .later }
def LocalIsCardSaid : Prop := Claim7.holds Tryz.pinned (.plain (OpenSpec.ofChange localIsSpec)) localIsCard

/-- THE TIED CARD OF 'noontidelaw41.LocalAround'. -/
def localAroundCard : Claim7 := { stood := { row := localAroundRow, standIns := [], harness := (true, "d0795b4bf6fd4335dde4c607375cdc164bc8bbbe24ecb9d1ec9ce7642ab5d4f5"), looks := false }, kinds := [], alts := [], laidByText := true, laidKinds := [.data, .data, .pinned], laidTests := true, laidLooks := .later }
def LocalAroundCardSaid : Prop := Claim7.holds Tryz.pinned (.plain (OpenSpec.ofChange localAroundSpec)) localAroundCard

/-- THE SECOND FORM's CARD OF 'noontidelaw35.ChangeBetween'. -/
def changeBetweenUptoCard : Claim7 := { stood := { row := changeBetweenUptoRow, standIns := [], harness := (true, "d0795b4bf6fd4335dde4c607375cdc164bc8bbbe24ecb9d1ec9ce7642ab5d4f5"), looks := false }, kinds := [], alts := [], laidByText := true, laidKinds := [.data, .data, .pinned], laidTests := true, laidLooks := .later }
def ChangeBetweenUptoCardSaid : Prop := Claim7.holds Tryz.pinned (.plain (OpenSpec.upto changeBetweenSpec)) changeBetweenUptoCard

/-- THE SECOND FORM's CARD OF 'noontidelaw35.ChangeFar'. -/
def changeFarUptoCard : Claim7 := { stood := { row := changeFarUptoRow, standIns := [], harness := (true, "d0795b4bf6fd4335dde4c607375cdc164bc8bbbe24ecb9d1ec9ce7642ab5d4f5"), looks := false }, kinds := [], alts := [], laidByText := true, laidKinds := [.data, .data, .pinned], laidTests := true, laidLooks := .later }
def ChangeFarUptoCardSaid : Prop := Claim7.holds Tryz.pinned (.plain (OpenSpec.upto changeFarSpec)) changeFarUptoCard

/-- THE SECOND FORM's CARD OF 'noontidelaw50.TailTells'. -/
def tailTellsUptoCard : Claim7 := { stood := { row := tailTellsUptoRow, standIns := [], harness := (true, "d0795b4bf6fd4335dde4c607375cdc164bc8bbbe24ecb9d1ec9ce7642ab5d4f5"), looks := false }, kinds := [], alts := [], laidByText := true, laidKinds := [.data, .pinned], laidTests := true, laidLooks := .later }
def TailTellsUptoCardSaid : Prop := Claim7.holds Tryz.pinned (.plain (OpenSpec.upto tailTellsSpec)) tailTellsUptoCard

/-- THE SECOND FORM's CARD OF 'noontidelaw50.TailGood'. -/
def tailGoodUptoCard : Claim7 := { stood := { row := tailGoodUptoRow, standIns := [], harness := (true, "d0795b4bf6fd4335dde4c607375cdc164bc8bbbe24ecb9d1ec9ce7642ab5d4f5"), looks := false }, kinds := [], alts := [], laidByText := true, laidKinds := [.data, .pinned], laidTests := true, laidLooks := .later }
def TailGoodUptoCardSaid : Prop := Claim7.holds Tryz.pinned (.plain (OpenSpec.upto tailGoodSpec)) tailGoodUptoCard

/-- THE SECOND FORM's CARD OF 'noontidelaw50.TailBack'. -/
def tailBackUptoCard : Claim7 := { stood := { row := tailBackUptoRow, standIns := [], harness := (true, "d0795b4bf6fd4335dde4c607375cdc164bc8bbbe24ecb9d1ec9ce7642ab5d4f5"), looks := false }, kinds := [], alts := [], laidByText := true, laidKinds := [.data, .pinned], laidTests := true, laidLooks := .later }
def TailBackUptoCardSaid : Prop := Claim7.holds Tryz.pinned (.plain (OpenSpec.upto tailBackSpec)) tailBackUptoCard

/-- THE SECOND FORM's CARD OF 'noontidelaw36.InfoTells'. -/
def infoTellsUptoCard : Claim7 := { stood := { row := infoTellsUptoRow, standIns := [], harness := (true, "d0795b4bf6fd4335dde4c607375cdc164bc8bbbe24ecb9d1ec9ce7642ab5d4f5"), looks := false }, kinds := [], alts := [], laidByText := true, laidKinds := [.data, .data, .pinned], laidTests := true, laidLooks := .later }
def InfoTellsUptoCardSaid : Prop := Claim7.holds Tryz.pinned (.plain (OpenSpec.upto infoTellsSpec)) infoTellsUptoCard

/-- THE SECOND FORM's CARD OF 'noontidelaw36.InfoAll'. -/
def infoAllUptoCard : Claim7 := { stood := { row := infoAllUptoRow, standIns := [], harness := (true, "d0795b4bf6fd4335dde4c607375cdc164bc8bbbe24ecb9d1ec9ce7642ab5d4f5"), looks := false }, kinds := [], alts := [], laidByText := true, laidKinds := [.data, .data, .pinned], laidTests := true, laidLooks := .later }
def InfoAllUptoCardSaid : Prop := Claim7.holds Tryz.pinned (.plain (OpenSpec.upto infoAllSpec)) infoAllUptoCard

/-- THE SECOND FORM's CARD OF 'noontidelaw36.InfoOne'. -/
def infoOneUptoCard : Claim7 := { stood := { row := infoOneUptoRow, standIns := [], harness := (true, "d0795b4bf6fd4335dde4c607375cdc164bc8bbbe24ecb9d1ec9ce7642ab5d4f5"), looks := false }, kinds := [], alts := [], laidByText := true, laidKinds := [.data, .data, .pinned], laidTests := true, laidLooks := .later }
def InfoOneUptoCardSaid : Prop := Claim7.holds Tryz.pinned (.plain (OpenSpec.upto infoOneSpec)) infoOneUptoCard

/-- THE SECOND FORM's CARD OF 'noontidelaw41.LocalTells'. -/
def localTellsUptoCard : Claim7 := { stood := { row := localTellsUptoRow, standIns := [], harness := (true, "d0795b4bf6fd4335dde4c607375cdc164bc8bbbe24ecb9d1ec9ce7642ab5d4f5"), looks := false }, kinds := [], alts := [], laidByText := true, laidKinds := [.data, .data, .pinned], laidTests := true, laidLooks := .later }
def LocalTellsUptoCardSaid : Prop := Claim7.holds Tryz.pinned (.plain (OpenSpec.upto localTellsSpec)) localTellsUptoCard

/-- THE SECOND FORM's CARD OF 'noontidelaw41.LocalIs'. -/
def localIsUptoCard : Claim7 := { stood := { row := localIsUptoRow, standIns := [], harness := (true, "d0795b4bf6fd4335dde4c607375cdc164bc8bbbe24ecb9d1ec9ce7642ab5d4f5"), looks := false }, kinds := [], alts := [], laidByText := true, laidKinds := [.data, .data, .pinned], laidTests := true, laidLooks := .later }
def LocalIsUptoCardSaid : Prop := Claim7.holds Tryz.pinned (.plain (OpenSpec.upto localIsSpec)) localIsUptoCard

/-- THE SECOND FORM's CARD OF 'noontidelaw41.LocalAround'. -/
def localAroundUptoCard : Claim7 := { stood := { row := localAroundUptoRow, standIns := [], harness := (true, "d0795b4bf6fd4335dde4c607375cdc164bc8bbbe24ecb9d1ec9ce7642ab5d4f5"), looks := false }, kinds := [], alts := [], laidByText := true, laidKinds := [.data, .data, .pinned], laidTests := true, laidLooks := .later }
def LocalAroundUptoCardSaid : Prop := Claim7.holds Tryz.pinned (.plain (OpenSpec.upto localAroundSpec)) localAroundUptoCard
end Rows
end Go.Proofs.YtgmfojgnjdpofaaGreatDoor
