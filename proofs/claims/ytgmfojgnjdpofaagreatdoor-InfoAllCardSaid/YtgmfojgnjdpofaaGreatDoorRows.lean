/-
  NARROWER THAN 'FOR EVERY INPUT', by the rows' own cells (each row's printed sentence says how): ChangeBetween: laid · ChangeFar: laid · TailTells: laid · TailGood: laid · TailBack: laid · InfoTells: laid · InfoAll: laid · InfoOne: laid · LocalTells: laid · LocalIs: laid · LocalAround: laid.
  DERIVED. THE GIVEN ROWS OF THIS SEAT. 11 by the template 'for every input the law returns true; each argument reads behind the call as it read before'; 0 by the template 'total and deterministic' (their statements: YtgmfojgnjdpofaaGreatDoorTotals.lean).
  GIVEN WITH THE SEED: the statements are not yours to turn. If you find one false, say at which input.
  Laid BY PROGRAM, IN A SANDBOX (cutbox-rows.mjs): the forced cells as the released guide's own fill.sh prints them over the translation 8662c2c9167c2636… (all of the seat's roots in one cut). By AI agents, Wed Nov 11 2026. No macro, syntax, notation, axiom, sorry.
-/
import Derived.Test.YtgmfojgnjdpofaaGreatDoorChecked
import GoSem.PinnedTables
import GoSem.Claim
import GoSem.ClaimJoined
import GoSem.ClaimMapViews
import Derived.JoinedTies
import Derived.KernelRfl
namespace Go.Proofs.YtgmfojgnjdpofaaGreatDoor
/- THE CELL 'sum', in the pinned program and in every row, IS THE sha256 OF THE DUMP (.gsa) THAT YtgmfojgnjdpofaaGreatDoorProg.lean LOADS. Nothing in Lean hashes anything: it is a label: what it is worth is what the hold of that sum in a sandbox is worth. -/
noncomputable def Tryz.pinned : Pinned := { name := "ytgmfojgnjdpofaagreatdoor", sum := "8662c2c9167c2636e4fba29dd5b706fbc1ebedf78b1cfa9f419c267e7164b893", checked := Tryz.checked }
namespace Rows
def none {H : Type} : Left H := { results := [], args := [] }

/- WHAT THE LISTED PACKAGE-LEVEL VARIABLES READ AS WHEN THE CALL BEGINS. Each datum BY PROGRAM (the guide's laid-datum.mjs) off the statement by which the dump's own 'gosem.cut.vars' lays the variable. In a bare row this is a premise. The card (YtgmfojgnjdpofaaGreatDoorCards.lean) ties it to the program's text. -/
def laid_unicode_utf8_acceptRanges {H : Type} : DataW H := .agg [.agg [.lit (.int .u8 128), .lit (.int .u8 191)], .agg [.lit (.int .u8 160), .lit (.int .u8 191)], .agg [.lit (.int .u8 128), .lit (.int .u8 159)], .agg [.lit (.int .u8 144), .lit (.int .u8 191)], .agg [.lit (.int .u8 128), .lit (.int .u8 143)], .agg [.lit (.int .u8 0), .lit (.int .u8 0)], .agg [.lit (.int .u8 0), .lit (.int .u8 0)], .agg [.lit (.int .u8 0), .lit (.int .u8 0)], .agg [.lit (.int .u8 0), .lit (.int .u8 0)], .agg [.lit (.int .u8 0), .lit (.int .u8 0)], .agg [.lit (.int .u8 0), .lit (.int .u8 0)], .agg [.lit (.int .u8 0), .lit (.int .u8 0)], .agg [.lit (.int .u8 0), .lit (.int .u8 0)], .agg [.lit (.int .u8 0), .lit (.int .u8 0)], .agg [.lit (.int .u8 0), .lit (.int .u8 0)], .agg [.lit (.int .u8 0), .lit (.int .u8 0)]]
def laid_noontide_force_start {H : Type} : DataW H := .agg [.lit (.int .i64 (-1)), .lit (.int .i64 0), .lit (.int .i64 (-2192387558400))]
/-- One of Go's own tables, pinned by name: the form's constant. -/
def laid_unicode_utf8_first : DataW Unit := Go.Pinned.utf8First

/-- 'noontidelaw35.ChangeBetween': WHATEVER THE INPUT: true; the input reads as it did. -/
def changeBetweenSpec : ChangeSpec := { name := "changeBetween", fn := fun _ => fun
  | [d1, d2, d3, d4] => { results := [.lit (.bool true)], args := [d1, d2, d3, d4] }
  | _ => none }
def changeBetweenRow : OpenClaim := { program := "ytgmfojgnjdpofaagreatdoor", sum := "8662c2c9167c2636e4fba29dd5b706fbc1ebedf78b1cfa9f419c267e7164b893", func := "noontide/noontidelaw35.ChangeBetween", spec := "changeBetween", inPlace := ["internal/bytealg.IndexByteString", "internal/bytealg.IndexString"], unfollowed := true, recurses := true, named := ["internal/bytealg.MaxLen", "unicode/utf8.first", "unicode/utf8.acceptRanges", "noontide/force.start"], apart := false, laid := [("unicode/utf8.acceptRanges", laid_unicode_utf8_acceptRanges), ("noontide/force.start", laid_noontide_force_start), ("unicode/utf8.first", laid_unicode_utf8_first)] }
def ChangeBetweenSaid : Prop := changeBetweenRow.holds Tryz.pinned (OpenSpec.ofChange changeBetweenSpec)

/-- ITS FALSE NEIGHBOUR: 'it returns false'. Refute it at one input. -/
def changeBetweenWrong : ChangeSpec := { name := "changeBetween", fn := fun _ => fun
  | [d1, d2, d3, d4] => { results := [.lit (.bool false)], args := [d1, d2, d3, d4] }
  | _ => none }
def ChangeBetweenWrongFalsely : Prop := changeBetweenRow.holds Tryz.pinned (OpenSpec.ofChange changeBetweenWrong)

/-- 'noontidelaw35.ChangeFar': WHATEVER THE INPUT: true; the input reads as it did. -/
def changeFarSpec : ChangeSpec := { name := "changeFar", fn := fun _ => fun
  | [d1, d2, d3] => { results := [.lit (.bool true)], args := [d1, d2, d3] }
  | _ => none }
def changeFarRow : OpenClaim := { program := "ytgmfojgnjdpofaagreatdoor", sum := "8662c2c9167c2636e4fba29dd5b706fbc1ebedf78b1cfa9f419c267e7164b893", func := "noontide/noontidelaw35.ChangeFar", spec := "changeFar", inPlace := ["internal/bytealg.IndexByteString", "internal/bytealg.IndexString"], unfollowed := true, recurses := true, named := ["internal/bytealg.MaxLen", "unicode/utf8.first", "unicode/utf8.acceptRanges", "noontide/force.start"], apart := false, laid := [("unicode/utf8.acceptRanges", laid_unicode_utf8_acceptRanges), ("noontide/force.start", laid_noontide_force_start), ("unicode/utf8.first", laid_unicode_utf8_first)] }
def ChangeFarSaid : Prop := changeFarRow.holds Tryz.pinned (OpenSpec.ofChange changeFarSpec)

/-- ITS FALSE NEIGHBOUR: 'it returns false'. Refute it at one input. -/
def changeFarWrong : ChangeSpec := { name := "changeFar", fn := fun _ => fun
  | [d1, d2, d3] => { results := [.lit (.bool false)], args := [d1, d2, d3] }
  | _ => none }
def ChangeFarWrongFalsely : Prop := changeFarRow.holds Tryz.pinned (OpenSpec.ofChange changeFarWrong)

/-- 'noontidelaw50.TailTells': WHATEVER THE INPUT: true; the input reads as it did. -/
def tailTellsSpec : ChangeSpec := { name := "tailTells", fn := fun _ => fun
  | [d1, d2, d3, d4] => { results := [.lit (.bool true)], args := [d1, d2, d3, d4] }
  | _ => none }
def tailTellsRow : OpenClaim := { program := "ytgmfojgnjdpofaagreatdoor", sum := "8662c2c9167c2636e4fba29dd5b706fbc1ebedf78b1cfa9f419c267e7164b893", func := "noontide/noontidelaw50.TailTells", spec := "tailTells", inPlace := ["internal/bytealg.IndexByteString", "internal/bytealg.IndexString"], unfollowed := true, recurses := true, named := ["internal/bytealg.MaxLen", "unicode/utf8.first", "unicode/utf8.acceptRanges"], apart := false, laid := [("unicode/utf8.acceptRanges", laid_unicode_utf8_acceptRanges), ("unicode/utf8.first", laid_unicode_utf8_first)] }
def TailTellsSaid : Prop := tailTellsRow.holds Tryz.pinned (OpenSpec.ofChange tailTellsSpec)

/-- ITS FALSE NEIGHBOUR: 'it returns false'. Refute it at one input. -/
def tailTellsWrong : ChangeSpec := { name := "tailTells", fn := fun _ => fun
  | [d1, d2, d3, d4] => { results := [.lit (.bool false)], args := [d1, d2, d3, d4] }
  | _ => none }
def TailTellsWrongFalsely : Prop := tailTellsRow.holds Tryz.pinned (OpenSpec.ofChange tailTellsWrong)

/-- 'noontidelaw50.TailGood': WHATEVER THE INPUT: true; the input reads as it did. -/
def tailGoodSpec : ChangeSpec := { name := "tailGood", fn := fun _ => fun
  | [d1, d2, d3] => { results := [.lit (.bool true)], args := [d1, d2, d3] }
  | _ => none }
def tailGoodRow : OpenClaim := { program := "ytgmfojgnjdpofaagreatdoor", sum := "8662c2c9167c2636e4fba29dd5b706fbc1ebedf78b1cfa9f419c267e7164b893", func := "noontide/noontidelaw50.TailGood", spec := "tailGood", inPlace := ["internal/bytealg.IndexByteString", "internal/bytealg.IndexString"], unfollowed := true, recurses := true, named := ["internal/bytealg.MaxLen", "unicode/utf8.first", "unicode/utf8.acceptRanges"], apart := false, laid := [("unicode/utf8.acceptRanges", laid_unicode_utf8_acceptRanges), ("unicode/utf8.first", laid_unicode_utf8_first)] }
def TailGoodSaid : Prop := tailGoodRow.holds Tryz.pinned (OpenSpec.ofChange tailGoodSpec)

/-- ITS FALSE NEIGHBOUR: 'it returns false'. Refute it at one input. -/
def tailGoodWrong : ChangeSpec := { name := "tailGood", fn := fun _ => fun
  | [d1, d2, d3] => { results := [.lit (.bool false)], args := [d1, d2, d3] }
  | _ => none }
def TailGoodWrongFalsely : Prop := tailGoodRow.holds Tryz.pinned (OpenSpec.ofChange tailGoodWrong)

/-- 'noontidelaw50.TailBack': WHATEVER THE INPUT: true; the input reads as it did. -/
def tailBackSpec : ChangeSpec := { name := "tailBack", fn := fun _ => fun
  | [d] => { results := [.lit (.bool true)], args := [d] }
  | _ => none }
def tailBackRow : OpenClaim := { program := "ytgmfojgnjdpofaagreatdoor", sum := "8662c2c9167c2636e4fba29dd5b706fbc1ebedf78b1cfa9f419c267e7164b893", func := "noontide/noontidelaw50.TailBack", spec := "tailBack", inPlace := ["internal/bytealg.IndexByteString", "internal/bytealg.IndexString"], unfollowed := true, recurses := true, named := ["internal/bytealg.MaxLen", "unicode/utf8.first", "unicode/utf8.acceptRanges"], apart := false, laid := [("unicode/utf8.acceptRanges", laid_unicode_utf8_acceptRanges), ("unicode/utf8.first", laid_unicode_utf8_first)] }
def TailBackSaid : Prop := tailBackRow.holds Tryz.pinned (OpenSpec.ofChange tailBackSpec)

/-- ITS FALSE NEIGHBOUR: 'it returns false'. Refute it at one input. -/
def tailBackWrong : ChangeSpec := { name := "tailBack", fn := fun _ => fun
  | [d] => { results := [.lit (.bool false)], args := [d] }
  | _ => none }
def TailBackWrongFalsely : Prop := tailBackRow.holds Tryz.pinned (OpenSpec.ofChange tailBackWrong)

/-- 'noontidelaw36.InfoTells': WHATEVER THE INPUT: true; the input reads as it did. -/
def infoTellsSpec : ChangeSpec := { name := "infoTells", fn := fun _ => fun
  | [d1, d2, d3, d4] => { results := [.lit (.bool true)], args := [d1, d2, d3, d4] }
  | _ => none }
def infoTellsRow : OpenClaim := { program := "ytgmfojgnjdpofaagreatdoor", sum := "8662c2c9167c2636e4fba29dd5b706fbc1ebedf78b1cfa9f419c267e7164b893", func := "noontide/noontidelaw36.InfoTells", spec := "infoTells", inPlace := ["internal/bytealg.IndexByteString", "internal/bytealg.IndexString"], unfollowed := true, recurses := true, named := ["internal/bytealg.MaxLen", "unicode/utf8.first", "unicode/utf8.acceptRanges", "noontide/force.start"], apart := false, laid := [("unicode/utf8.acceptRanges", laid_unicode_utf8_acceptRanges), ("noontide/force.start", laid_noontide_force_start), ("unicode/utf8.first", laid_unicode_utf8_first)] }
def InfoTellsSaid : Prop := infoTellsRow.holds Tryz.pinned (OpenSpec.ofChange infoTellsSpec)

/-- ITS FALSE NEIGHBOUR: 'it returns false'. Refute it at one input. -/
def infoTellsWrong : ChangeSpec := { name := "infoTells", fn := fun _ => fun
  | [d1, d2, d3, d4] => { results := [.lit (.bool false)], args := [d1, d2, d3, d4] }
  | _ => none }
def InfoTellsWrongFalsely : Prop := infoTellsRow.holds Tryz.pinned (OpenSpec.ofChange infoTellsWrong)

/-- 'noontidelaw36.InfoAll': WHATEVER THE INPUT: true; the input reads as it did. -/
def infoAllSpec : ChangeSpec := { name := "infoAll", fn := fun _ => fun
  | [d1, d2, d3] => { results := [.lit (.bool true)], args := [d1, d2, d3] }
  | _ => none }
def infoAllRow : OpenClaim := { program := "ytgmfojgnjdpofaagreatdoor", sum := "8662c2c9167c2636e4fba29dd5b706fbc1ebedf78b1cfa9f419c267e7164b893", func := "noontide/noontidelaw36.InfoAll", spec := "infoAll", inPlace := ["internal/bytealg.IndexByteString", "internal/bytealg.IndexString"], unfollowed := true, recurses := true, named := ["internal/bytealg.MaxLen", "unicode/utf8.first", "unicode/utf8.acceptRanges", "noontide/force.start"], apart := false, laid := [("unicode/utf8.acceptRanges", laid_unicode_utf8_acceptRanges), ("noontide/force.start", laid_noontide_force_start), ("unicode/utf8.first", laid_unicode_utf8_first)] }
def InfoAllSaid : Prop := infoAllRow.holds Tryz.pinned (OpenSpec.ofChange infoAllSpec)

/-- ITS FALSE NEIGHBOUR: 'it returns false'. Refute it at one input. -/
def infoAllWrong : ChangeSpec := { name := "infoAll", fn := fun _ => fun
  | [d1, d2, d3] => { results := [.lit (.bool false)], args := [d1, d2, d3] }
  | _ => none }
def InfoAllWrongFalsely : Prop := infoAllRow.holds Tryz.pinned (OpenSpec.ofChange infoAllWrong)

/-- 'noontidelaw36.InfoOne': WHATEVER THE INPUT: true; the input reads as it did. -/
def infoOneSpec : ChangeSpec := { name := "infoOne", fn := fun _ => fun
  | [d1, d2, d3, d4] => { results := [.lit (.bool true)], args := [d1, d2, d3, d4] }
  | _ => none }
def infoOneRow : OpenClaim := { program := "ytgmfojgnjdpofaagreatdoor", sum := "8662c2c9167c2636e4fba29dd5b706fbc1ebedf78b1cfa9f419c267e7164b893", func := "noontide/noontidelaw36.InfoOne", spec := "infoOne", inPlace := ["internal/bytealg.IndexByteString", "internal/bytealg.IndexString"], unfollowed := true, recurses := true, named := ["internal/bytealg.MaxLen", "unicode/utf8.first", "unicode/utf8.acceptRanges", "noontide/force.start"], apart := false, laid := [("unicode/utf8.acceptRanges", laid_unicode_utf8_acceptRanges), ("noontide/force.start", laid_noontide_force_start), ("unicode/utf8.first", laid_unicode_utf8_first)] }
def InfoOneSaid : Prop := infoOneRow.holds Tryz.pinned (OpenSpec.ofChange infoOneSpec)

/-- ITS FALSE NEIGHBOUR: 'it returns false'. Refute it at one input. -/
def infoOneWrong : ChangeSpec := { name := "infoOne", fn := fun _ => fun
  | [d1, d2, d3, d4] => { results := [.lit (.bool false)], args := [d1, d2, d3, d4] }
  | _ => none }
def InfoOneWrongFalsely : Prop := infoOneRow.holds Tryz.pinned (OpenSpec.ofChange infoOneWrong)

/-- 'noontidelaw41.LocalTells': WHATEVER THE INPUT: true; the input reads as it did. -/
def localTellsSpec : ChangeSpec := { name := "localTells", fn := fun _ => fun
  | [d1, d2, d3] => { results := [.lit (.bool true)], args := [d1, d2, d3] }
  | _ => none }
def localTellsRow : OpenClaim := { program := "ytgmfojgnjdpofaagreatdoor", sum := "8662c2c9167c2636e4fba29dd5b706fbc1ebedf78b1cfa9f419c267e7164b893", func := "noontide/noontidelaw41.LocalTells", spec := "localTells", inPlace := ["internal/bytealg.IndexByteString", "internal/bytealg.IndexString"], unfollowed := true, recurses := true, named := ["internal/bytealg.MaxLen", "unicode/utf8.first", "unicode/utf8.acceptRanges", "noontide/force.start"], apart := false, laid := [("unicode/utf8.acceptRanges", laid_unicode_utf8_acceptRanges), ("noontide/force.start", laid_noontide_force_start), ("unicode/utf8.first", laid_unicode_utf8_first)] }
def LocalTellsSaid : Prop := localTellsRow.holds Tryz.pinned (OpenSpec.ofChange localTellsSpec)

/-- ITS FALSE NEIGHBOUR: 'it returns false'. Refute it at one input. -/
def localTellsWrong : ChangeSpec := { name := "localTells", fn := fun _ => fun
  | [d1, d2, d3] => { results := [.lit (.bool false)], args := [d1, d2, d3] }
  | _ => none }
def LocalTellsWrongFalsely : Prop := localTellsRow.holds Tryz.pinned (OpenSpec.ofChange localTellsWrong)

/-- 'noontidelaw41.LocalIs': WHATEVER THE INPUT: true; the input reads as it did. -/
def localIsSpec : ChangeSpec := { name := "localIs", fn := fun _ => fun
  | [d1, d2, d3] => { results := [.lit (.bool true)], args := [d1, d2, d3] }
  | _ => none }
def localIsRow : OpenClaim := { program := "ytgmfojgnjdpofaagreatdoor", sum := "8662c2c9167c2636e4fba29dd5b706fbc1ebedf78b1cfa9f419c267e7164b893", func := "noontide/noontidelaw41.LocalIs", spec := "localIs", inPlace := ["internal/bytealg.IndexByteString", "internal/bytealg.IndexString"], unfollowed := true, recurses := true, named := ["internal/bytealg.MaxLen", "unicode/utf8.first", "unicode/utf8.acceptRanges", "noontide/force.start"], apart := false, laid := [("unicode/utf8.acceptRanges", laid_unicode_utf8_acceptRanges), ("noontide/force.start", laid_noontide_force_start), ("unicode/utf8.first", laid_unicode_utf8_first)] }
def LocalIsSaid : Prop := localIsRow.holds Tryz.pinned (OpenSpec.ofChange localIsSpec)

/-- ITS FALSE NEIGHBOUR: 'it returns false'. Refute it at one input. -/
def localIsWrong : ChangeSpec := { name := "localIs", fn := fun _ => fun
  | [d1, d2, d3] => { results := [.lit (.bool false)], args := [d1, d2, d3] }
  | _ => none }
def LocalIsWrongFalsely : Prop := localIsRow.holds Tryz.pinned (OpenSpec.ofChange localIsWrong)

/-- 'noontidelaw41.LocalAround': WHATEVER THE INPUT: true; the input reads as it did. -/
def localAroundSpec : ChangeSpec := { name := "localAround", fn := fun _ => fun
  | [d1, d2, d3, d4] => { results := [.lit (.bool true)], args := [d1, d2, d3, d4] }
  | _ => none }
def localAroundRow : OpenClaim := { program := "ytgmfojgnjdpofaagreatdoor", sum := "8662c2c9167c2636e4fba29dd5b706fbc1ebedf78b1cfa9f419c267e7164b893", func := "noontide/noontidelaw41.LocalAround", spec := "localAround", inPlace := ["internal/bytealg.IndexByteString", "internal/bytealg.IndexString"], unfollowed := true, recurses := true, named := ["internal/bytealg.MaxLen", "unicode/utf8.first", "unicode/utf8.acceptRanges", "noontide/force.start"], apart := false, laid := [("unicode/utf8.acceptRanges", laid_unicode_utf8_acceptRanges), ("noontide/force.start", laid_noontide_force_start), ("unicode/utf8.first", laid_unicode_utf8_first)] }
def LocalAroundSaid : Prop := localAroundRow.holds Tryz.pinned (OpenSpec.ofChange localAroundSpec)

/-- ITS FALSE NEIGHBOUR: 'it returns false'. Refute it at one input. -/
def localAroundWrong : ChangeSpec := { name := "localAround", fn := fun _ => fun
  | [d1, d2, d3, d4] => { results := [.lit (.bool false)], args := [d1, d2, d3, d4] }
  | _ => none }
def LocalAroundWrongFalsely : Prop := localAroundRow.holds Tryz.pinned (OpenSpec.ofChange localAroundWrong)

/- THE SECOND FORM. 'bulk': how many values and letters a reading holds, each counted each time it is reached (what is shared counts as often as it is met; a slice's spare places count too). A statement '..UptoSaid' is the law's where the arguments, and the package variables that the reading takes, are together of bulk at most 1048576: NARROWER than '..Said'. Prove '..Said' where nothing that the law and all that it calls make is longer than what came in: it says more and counts as full. Else prove '..UptoSaid'. A law counts once. -/
mutual
def uptoBulk {H : Type} : DataW H → Nat
  | .lit (.string bytes) => bytes.length + 1
  | .lit _ => 1
  | .nil => 1
  | .ptr d => uptoBulk d + 1
  | .slice elems spare => uptoBulkAll elems + uptoBulkAll spare + 1
  | .agg parts => uptoBulkAll parts + 1
  | .iface _ d => uptoBulk d + 1
  | .map entries => uptoBulkEntries entries + 1
  | .held _ => 1
def uptoBulkAll {H : Type} : List (DataW H) → Nat
  | [] => 0
  | d :: r => uptoBulk d + uptoBulkAll r
def uptoBulkEntries {H : Type} : List (Lit × DataW H) → Nat
  | [] => 0
  | x :: r => uptoBulkEntry x + uptoBulkEntries r
def uptoBulkEntry {H : Type} : Lit × DataW H → Nat
  | (.string bytes, d) => bytes.length + uptoBulk d + 1
  | (_, d) => uptoBulk d + 1
 end
def uptoSmall : (H : Type) → List (DataW H) → Bool := fun _ ds => decide (uptoBulkAll ds ≤ 1048576)
def OpenSpec.upto (s : _root_.Go.ChangeSpec) : _root_.Go.OpenSpec := { _root_.Go.OpenSpec.ofChange s with cond := some uptoSmall }

/-- 'noontidelaw35.ChangeBetween', WHERE WHAT IT READS IS OF BULK AT MOST 1048576: true; the input reads as it did. -/
def changeBetweenUptoRow : OpenClaim := { program := "ytgmfojgnjdpofaagreatdoor", sum := "8662c2c9167c2636e4fba29dd5b706fbc1ebedf78b1cfa9f419c267e7164b893", func := "noontide/noontidelaw35.ChangeBetween", spec := "changeBetween", inPlace := ["internal/bytealg.IndexByteString", "internal/bytealg.IndexString"], unfollowed := true, recurses := true, named := ["internal/bytealg.MaxLen", "unicode/utf8.first", "unicode/utf8.acceptRanges", "noontide/force.start"], apart := false, laid := [("unicode/utf8.acceptRanges", laid_unicode_utf8_acceptRanges), ("noontide/force.start", laid_noontide_force_start), ("unicode/utf8.first", laid_unicode_utf8_first)], narrowed := true }
def ChangeBetweenUptoSaid : Prop := changeBetweenUptoRow.holds Tryz.pinned (OpenSpec.upto changeBetweenSpec)

/-- 'noontidelaw35.ChangeFar', WHERE WHAT IT READS IS OF BULK AT MOST 1048576: true; the input reads as it did. -/
def changeFarUptoRow : OpenClaim := { program := "ytgmfojgnjdpofaagreatdoor", sum := "8662c2c9167c2636e4fba29dd5b706fbc1ebedf78b1cfa9f419c267e7164b893", func := "noontide/noontidelaw35.ChangeFar", spec := "changeFar", inPlace := ["internal/bytealg.IndexByteString", "internal/bytealg.IndexString"], unfollowed := true, recurses := true, named := ["internal/bytealg.MaxLen", "unicode/utf8.first", "unicode/utf8.acceptRanges", "noontide/force.start"], apart := false, laid := [("unicode/utf8.acceptRanges", laid_unicode_utf8_acceptRanges), ("noontide/force.start", laid_noontide_force_start), ("unicode/utf8.first", laid_unicode_utf8_first)], narrowed := true }
def ChangeFarUptoSaid : Prop := changeFarUptoRow.holds Tryz.pinned (OpenSpec.upto changeFarSpec)

/-- 'noontidelaw50.TailTells', WHERE WHAT IT READS IS OF BULK AT MOST 1048576: true; the input reads as it did. -/
def tailTellsUptoRow : OpenClaim := { program := "ytgmfojgnjdpofaagreatdoor", sum := "8662c2c9167c2636e4fba29dd5b706fbc1ebedf78b1cfa9f419c267e7164b893", func := "noontide/noontidelaw50.TailTells", spec := "tailTells", inPlace := ["internal/bytealg.IndexByteString", "internal/bytealg.IndexString"], unfollowed := true, recurses := true, named := ["internal/bytealg.MaxLen", "unicode/utf8.first", "unicode/utf8.acceptRanges"], apart := false, laid := [("unicode/utf8.acceptRanges", laid_unicode_utf8_acceptRanges), ("unicode/utf8.first", laid_unicode_utf8_first)], narrowed := true }
def TailTellsUptoSaid : Prop := tailTellsUptoRow.holds Tryz.pinned (OpenSpec.upto tailTellsSpec)

/-- 'noontidelaw50.TailGood', WHERE WHAT IT READS IS OF BULK AT MOST 1048576: true; the input reads as it did. -/
def tailGoodUptoRow : OpenClaim := { program := "ytgmfojgnjdpofaagreatdoor", sum := "8662c2c9167c2636e4fba29dd5b706fbc1ebedf78b1cfa9f419c267e7164b893", func := "noontide/noontidelaw50.TailGood", spec := "tailGood", inPlace := ["internal/bytealg.IndexByteString", "internal/bytealg.IndexString"], unfollowed := true, recurses := true, named := ["internal/bytealg.MaxLen", "unicode/utf8.first", "unicode/utf8.acceptRanges"], apart := false, laid := [("unicode/utf8.acceptRanges", laid_unicode_utf8_acceptRanges), ("unicode/utf8.first", laid_unicode_utf8_first)], narrowed := true }
def TailGoodUptoSaid : Prop := tailGoodUptoRow.holds Tryz.pinned (OpenSpec.upto tailGoodSpec)

/-- 'noontidelaw50.TailBack', WHERE WHAT IT READS IS OF BULK AT MOST 1048576: true; the input reads as it did. -/
def tailBackUptoRow : OpenClaim := { program := "ytgmfojgnjdpofaagreatdoor", sum := "8662c2c9167c2636e4fba29dd5b706fbc1ebedf78b1cfa9f419c267e7164b893", func := "noontide/noontidelaw50.TailBack", spec := "tailBack", inPlace := ["internal/bytealg.IndexByteString", "internal/bytealg.IndexString"], unfollowed := true, recurses := true, named := ["internal/bytealg.MaxLen", "unicode/utf8.first", "unicode/utf8.acceptRanges"], apart := false, laid := [("unicode/utf8.acceptRanges", laid_unicode_utf8_acceptRanges), ("unicode/utf8.first", laid_unicode_utf8_first)], narrowed := true }
def TailBackUptoSaid : Prop := tailBackUptoRow.holds Tryz.pinned (OpenSpec.upto tailBackSpec)

/-- 'noontidelaw36.InfoTells', WHERE WHAT IT READS IS OF BULK AT MOST 1048576: true; the input reads as it did. -/
def infoTellsUptoRow : OpenClaim := { program := "ytgmfojgnjdpofaagreatdoor", sum := "8662c2c9167c2636e4fba29dd5b706fbc1ebedf78b1cfa9f419c267e7164b893", func := "noontide/noontidelaw36.InfoTells", spec := "infoTells", inPlace := ["internal/bytealg.IndexByteString", "internal/bytealg.IndexString"], unfollowed := true, recurses := true, named := ["internal/bytealg.MaxLen", "unicode/utf8.first", "unicode/utf8.acceptRanges", "noontide/force.start"], apart := false, laid := [("unicode/utf8.acceptRanges", laid_unicode_utf8_acceptRanges), ("noontide/force.start", laid_noontide_force_start), ("unicode/utf8.first", laid_unicode_utf8_first)], narrowed := true }
def InfoTellsUptoSaid : Prop := infoTellsUptoRow.holds Tryz.pinned (OpenSpec.upto infoTellsSpec)

/-- 'noontidelaw36.InfoAll', WHERE WHAT IT READS IS OF BULK AT MOST 1048576: true; the input reads as it did. -/
def infoAllUptoRow : OpenClaim := { program := "ytgmfojgnjdpofaagreatdoor", sum := "8662c2c9167c2636e4fba29dd5b706fbc1ebedf78b1cfa9f419c267e7164b893", func := "noontide/noontidelaw36.InfoAll", spec := "infoAll", inPlace := ["internal/bytealg.IndexByteString", "internal/bytealg.IndexString"], unfollowed := true, recurses := true, named := ["internal/bytealg.MaxLen", "unicode/utf8.first", "unicode/utf8.acceptRanges", "noontide/force.start"], apart := false, laid := [("unicode/utf8.acceptRanges", laid_unicode_utf8_acceptRanges), ("noontide/force.start", laid_noontide_force_start), ("unicode/utf8.first", laid_unicode_utf8_first)], narrowed := true }
def InfoAllUptoSaid : Prop := infoAllUptoRow.holds Tryz.pinned (OpenSpec.upto infoAllSpec)

/-- 'noontidelaw36.InfoOne', WHERE WHAT IT READS IS OF BULK AT MOST 1048576: true; the input reads as it did. -/
def infoOneUptoRow : OpenClaim := { program := "ytgmfojgnjdpofaagreatdoor", sum := "8662c2c9167c2636e4fba29dd5b706fbc1ebedf78b1cfa9f419c267e7164b893", func := "noontide/noontidelaw36.InfoOne", spec := "infoOne", inPlace := ["internal/bytealg.IndexByteString", "internal/bytealg.IndexString"], unfollowed := true, recurses := true, named := ["internal/bytealg.MaxLen", "unicode/utf8.first", "unicode/utf8.acceptRanges", "noontide/force.start"], apart := false, laid := [("unicode/utf8.acceptRanges", laid_unicode_utf8_acceptRanges), ("noontide/force.start", laid_noontide_force_start), ("unicode/utf8.first", laid_unicode_utf8_first)], narrowed := true }
def InfoOneUptoSaid : Prop := infoOneUptoRow.holds Tryz.pinned (OpenSpec.upto infoOneSpec)

/-- 'noontidelaw41.LocalTells', WHERE WHAT IT READS IS OF BULK AT MOST 1048576: true; the input reads as it did. -/
def localTellsUptoRow : OpenClaim := { program := "ytgmfojgnjdpofaagreatdoor", sum := "8662c2c9167c2636e4fba29dd5b706fbc1ebedf78b1cfa9f419c267e7164b893", func := "noontide/noontidelaw41.LocalTells", spec := "localTells", inPlace := ["internal/bytealg.IndexByteString", "internal/bytealg.IndexString"], unfollowed := true, recurses := true, named := ["internal/bytealg.MaxLen", "unicode/utf8.first", "unicode/utf8.acceptRanges", "noontide/force.start"], apart := false, laid := [("unicode/utf8.acceptRanges", laid_unicode_utf8_acceptRanges), ("noontide/force.start", laid_noontide_force_start), ("unicode/utf8.first", laid_unicode_utf8_first)], narrowed := true }
def LocalTellsUptoSaid : Prop := localTellsUptoRow.holds Tryz.pinned (OpenSpec.upto localTellsSpec)

/-- 'noontidelaw41.LocalIs', WHERE WHAT IT READS IS OF BULK AT MOST 1048576: true; the input reads as it did. -/
def localIsUptoRow : OpenClaim := { program := "ytgmfojgnjdpofaagreatdoor", sum := "8662c2c9167c2636e4fba29dd5b706fbc1ebedf78b1cfa9f419c267e7164b893", func := "noontide/noontidelaw41.LocalIs", spec := "localIs", inPlace := ["internal/bytealg.IndexByteString", "internal/bytealg.IndexString"], unfollowed := true, recurses := true, named := ["internal/bytealg.MaxLen", "unicode/utf8.first", "unicode/utf8.acceptRanges", "noontide/force.start"], apart := false, laid := [("unicode/utf8.acceptRanges", laid_unicode_utf8_acceptRanges), ("noontide/force.start", laid_noontide_force_start), ("unicode/utf8.first", laid_unicode_utf8_first)], narrowed := true }
def LocalIsUptoSaid : Prop := localIsUptoRow.holds Tryz.pinned (OpenSpec.upto localIsSpec)

/-- 'noontidelaw41.LocalAround', WHERE WHAT IT READS IS OF BULK AT MOST 1048576: true; the input reads as it did. -/
def localAroundUptoRow : OpenClaim := { program := "ytgmfojgnjdpofaagreatdoor", sum := "8662c2c9167c2636e4fba29dd5b706fbc1ebedf78b1cfa9f419c267e7164b893", func := "noontide/noontidelaw41.LocalAround", spec := "localAround", inPlace := ["internal/bytealg.IndexByteString", "internal/bytealg.IndexString"], unfollowed := true, recurses := true, named := ["internal/bytealg.MaxLen", "unicode/utf8.first", "unicode/utf8.acceptRanges", "noontide/force.start"], apart := false, laid := [("unicode/utf8.acceptRanges", laid_unicode_utf8_acceptRanges), ("noontide/force.start", laid_noontide_force_start), ("unicode/utf8.first", laid_unicode_utf8_first)], narrowed := true }
def LocalAroundUptoSaid : Prop := localAroundUptoRow.holds Tryz.pinned (OpenSpec.upto localAroundSpec)

end Rows
end Go.Proofs.YtgmfojgnjdpofaaGreatDoor
