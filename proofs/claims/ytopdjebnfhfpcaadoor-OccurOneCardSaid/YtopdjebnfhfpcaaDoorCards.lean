/-
  DERIVED. GIVEN WITH THE SEED: THE CARDS: each row of YtopdjebnfhfpcaaDoorRows.lean that lists a variable, with what it lists TIED to the program's text (the seventh form; the later family's looks); each row that meets fmt, with fmt's text TOLD by the authors' own Lean function (tested against real Go, not proved from fmt's source: count such statements apart). THE CARD IS WHAT COUNTS. Prove the row's statement (the work); the ties are given (YtopdjebnfhfpcaaDoorTie.lean); close each card by the builder's one call (the guide's Derived/Test/ToyasCard.lean, 'card_holds'). Laid BY PROGRAM, IN A SANDBOX (cutbox-door.mjs). By AI agents, Wed Nov 11 2026. No macro, syntax, notation, axiom, sorry.
-/
import Derived.Test.YtopdjebnfhfpcaaDoorRows
import GoSem.ClaimSeven
namespace Go.Proofs.YtopdjebnfhfpcaaDoor
namespace Rows

/-- THE TIED CARD OF 'noontidelaw27.ApartTells'. -/
def apartTellsCard : Claim7 := { stood := { row := apartTellsRow, standIns := [], harness := (true, "c1d419dc846b844d36a3f79a43c1a7b2fb74b6bf547c67755d8d81c6d5c81943"), looks := false }, kinds := [], alts := [], laidByText := true, laidKinds := [.data, .pinned], laidTests := true, laidLooks := .later }
def ApartTellsCardSaid : Prop := Claim7.holds Tryd.pinned (.plain (OpenSpec.ofChange apartTellsSpec)) apartTellsCard

/-- THE TIED CARD OF 'noontidelaw27.ApartEither'. -/
def apartEitherCard : Claim7 := { stood := { row := apartEitherRow, standIns := [], harness := (true, "c1d419dc846b844d36a3f79a43c1a7b2fb74b6bf547c67755d8d81c6d5c81943"), looks := false }, kinds := [], alts := [], laidByText := true, laidKinds := [.data, .pinned], laidTests := true, laidLooks := .later }
def ApartEitherCardSaid : Prop := Claim7.holds Tryd.pinned (.plain (OpenSpec.ofChange apartEitherSpec)) apartEitherCard

/-- THE TIED CARD OF 'noontidelaw25.OccurOne'. -/
def occurOneCard : Claim7 := { stood := { row := occurOneRow, standIns := [], harness := (true, "c1d419dc846b844d36a3f79a43c1a7b2fb74b6bf547c67755d8d81c6d5c81943"), looks := false }, kinds := [], alts := [], laidByText := true, laidKinds := [.data, .pinned], laidTests := true, laidLooks := .later }
def OccurOneCardSaid : Prop := Claim7.holds Tryd.pinned (.plain (OpenSpec.ofChange occurOneSpec)) occurOneCard

/-- THE TIED CARD OF 'noontidelaw25.OccurYears'. -/
def occurYearsCard : Claim7 := { stood := { row := occurYearsRow, standIns := [], harness := (true, "c1d419dc846b844d36a3f79a43c1a7b2fb74b6bf547c67755d8d81c6d5c81943"), looks := false }, kinds := [], alts := [], laidByText := true, laidKinds := [.data, .pinned], laidTests := true, laidLooks := .later }
def OccurYearsCardSaid : Prop := Claim7.holds Tryd.pinned (.plain (OpenSpec.ofChange occurYearsSpec)) occurYearsCard

/-- THE TIED CARD OF 'noontidelaw27.ApartHolds'. -/
def apartHoldsCard : Claim7 := { stood := { row := apartHoldsRow, standIns := [], harness := (true, "c1d419dc846b844d36a3f79a43c1a7b2fb74b6bf547c67755d8d81c6d5c81943"), looks := false }, kinds := [], alts := [], laidByText := true, laidKinds := [.data, .pinned], laidTests := true, laidLooks := .later }
def ApartHoldsCardSaid : Prop := Claim7.holds Tryd.pinned (.plain (OpenSpec.ofChange apartHoldsSpec)) apartHoldsCard

/-- THE TIED CARD OF 'noontidelaw26.ChainNear'. -/
def chainNearCard : Claim7 := { stood := { row := chainNearRow, standIns := [], harness := (true, "c1d419dc846b844d36a3f79a43c1a7b2fb74b6bf547c67755d8d81c6d5c81943"), looks := false }, kinds := [], alts := [], laidByText := true, laidKinds := [.data, .pinned], laidTests := true, laidLooks := .later }
def ChainNearCardSaid : Prop := Claim7.holds Tryd.pinned (.plain (OpenSpec.ofChange chainNearSpec)) chainNearCard

/-- THE TIED CARD OF 'noontidelaw26.ChainAround'. -/
def chainAroundCard : Claim7 := { stood := { row := chainAroundRow, standIns := [], harness := (true, "c1d419dc846b844d36a3f79a43c1a7b2fb74b6bf547c67755d8d81c6d5c81943"), looks := false }, kinds := [], alts := [], laidByText := true, laidKinds := [.data, .pinned], laidTests := true, laidLooks := .later }
def ChainAroundCardSaid : Prop := Claim7.holds Tryd.pinned (.plain (OpenSpec.ofChange chainAroundSpec)) chainAroundCard

/-- THE SECOND FORM's CARD OF 'noontidelaw27.ApartTells'. -/
def apartTellsUptoCard : Claim7 := { stood := { row := apartTellsUptoRow, standIns := [], harness := (true, "c1d419dc846b844d36a3f79a43c1a7b2fb74b6bf547c67755d8d81c6d5c81943"), looks := false }, kinds := [], alts := [], laidByText := true, laidKinds := [.data, .pinned], laidTests := true, laidLooks := .later }
def ApartTellsUptoCardSaid : Prop := Claim7.holds Tryd.pinned (.plain (OpenSpec.upto apartTellsSpec)) apartTellsUptoCard

/-- THE SECOND FORM's CARD OF 'noontidelaw27.ApartEither'. -/
def apartEitherUptoCard : Claim7 := { stood := { row := apartEitherUptoRow, standIns := [], harness := (true, "c1d419dc846b844d36a3f79a43c1a7b2fb74b6bf547c67755d8d81c6d5c81943"), looks := false }, kinds := [], alts := [], laidByText := true, laidKinds := [.data, .pinned], laidTests := true, laidLooks := .later }
def ApartEitherUptoCardSaid : Prop := Claim7.holds Tryd.pinned (.plain (OpenSpec.upto apartEitherSpec)) apartEitherUptoCard

/-- THE SECOND FORM's CARD OF 'noontidelaw25.OccurOne'. -/
def occurOneUptoCard : Claim7 := { stood := { row := occurOneUptoRow, standIns := [], harness := (true, "c1d419dc846b844d36a3f79a43c1a7b2fb74b6bf547c67755d8d81c6d5c81943"), looks := false }, kinds := [], alts := [], laidByText := true, laidKinds := [.data, .pinned], laidTests := true, laidLooks := .later }
def OccurOneUptoCardSaid : Prop := Claim7.holds Tryd.pinned (.plain (OpenSpec.upto occurOneSpec)) occurOneUptoCard

/-- THE SECOND FORM's CARD OF 'noontidelaw25.OccurYears'. -/
def occurYearsUptoCard : Claim7 := { stood := { row := occurYearsUptoRow, standIns := [], harness := (true, "c1d419dc846b844d36a3f79a43c1a7b2fb74b6bf547c67755d8d81c6d5c81943"), looks := false }, kinds := [], alts := [], laidByText := true, laidKinds := [.data, .pinned], laidTests := true, laidLooks := .later }
def OccurYearsUptoCardSaid : Prop := Claim7.holds Tryd.pinned (.plain (OpenSpec.upto occurYearsSpec)) occurYearsUptoCard

/-- THE SECOND FORM's CARD OF 'noontidelaw27.ApartHolds'. -/
def apartHoldsUptoCard : Claim7 := { stood := { row := apartHoldsUptoRow, standIns := [], harness := (true, "c1d419dc846b844d36a3f79a43c1a7b2fb74b6bf547c67755d8d81c6d5c81943"), looks := false }, kinds := [], alts := [], laidByText := true, laidKinds := [.data, .pinned], laidTests := true, laidLooks := .later }
def ApartHoldsUptoCardSaid : Prop := Claim7.holds Tryd.pinned (.plain (OpenSpec.upto apartHoldsSpec)) apartHoldsUptoCard

/-- THE SECOND FORM's CARD OF 'noontidelaw26.ChainNear'. -/
def chainNearUptoCard : Claim7 := { stood := { row := chainNearUptoRow, standIns := [], harness := (true, "c1d419dc846b844d36a3f79a43c1a7b2fb74b6bf547c67755d8d81c6d5c81943"), looks := false }, kinds := [], alts := [], laidByText := true, laidKinds := [.data, .pinned], laidTests := true, laidLooks := .later }
def ChainNearUptoCardSaid : Prop := Claim7.holds Tryd.pinned (.plain (OpenSpec.upto chainNearSpec)) chainNearUptoCard

/-- THE SECOND FORM's CARD OF 'noontidelaw26.ChainAround'. -/
def chainAroundUptoCard : Claim7 := { stood := { row := chainAroundUptoRow, standIns := [], harness := (true, "c1d419dc846b844d36a3f79a43c1a7b2fb74b6bf547c67755d8d81c6d5c81943"), looks := false }, kinds := [], alts := [], laidByText := true, laidKinds := [.data, .pinned], laidTests := true, laidLooks := .later }
def ChainAroundUptoCardSaid : Prop := Claim7.holds Tryd.pinned (.plain (OpenSpec.upto chainAroundSpec)) chainAroundUptoCard
end Rows
end Go.Proofs.YtopdjebnfhfpcaaDoor
