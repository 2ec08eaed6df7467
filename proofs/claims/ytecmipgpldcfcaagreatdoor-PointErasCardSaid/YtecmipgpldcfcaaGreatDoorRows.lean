/-
  NARROWER THAN 'FOR EVERY INPUT', by the rows' own cells (each row's printed sentence says how): PointTells: laid · PointEras: laid · ChangeBetween: laid · ChangeFar: laid.
  DERIVED. THE GIVEN ROWS OF THIS SEAT. 4 by the template 'for every input the law returns true; each argument reads behind the call as it read before'; 0 by the template 'total and deterministic' (their statements: YtecmipgpldcfcaaGreatDoorTotals.lean).
  GIVEN WITH THE SEED: the statements are not yours to turn. If you find one false, say at which input.
  Laid BY PROGRAM, IN A SANDBOX (cutbox-rows.mjs): the forced cells as the released guide's own fill.sh prints them over the translation 86358b3ad59d6460… (all of the seat's roots in one cut). By AI agents, Wed Nov 11 2026. No macro, syntax, notation, axiom, sorry.
-/
import Derived.Test.YtecmipgpldcfcaaGreatDoorChecked
import GoSem.PinnedTables
import GoSem.Claim
import GoSem.ClaimJoined
import GoSem.ClaimMapViews
import Derived.JoinedTies
import Derived.KernelRfl
namespace Go.Proofs.YtecmipgpldcfcaaGreatDoor
/- THE CELL 'sum', in the pinned program and in every row, IS THE sha256 OF THE DUMP (.gsa) THAT YtecmipgpldcfcaaGreatDoorProg.lean LOADS. Nothing in Lean hashes anything: it is a label: what it is worth is what the hold of that sum in a sandbox is worth. -/
noncomputable def Tryz.pinned : Pinned := { name := "ytecmipgpldcfcaagreatdoor", sum := "86358b3ad59d6460c79a7ace04dc5c71389c3fae3c9605a5c6b58194afb5182f", checked := Tryz.checked }
namespace Rows
def none {H : Type} : Left H := { results := [], args := [] }

/- WHAT THE LISTED PACKAGE-LEVEL VARIABLES READ AS WHEN THE CALL BEGINS. Each datum BY PROGRAM (the guide's laid-datum.mjs) off the statement by which the dump's own 'gosem.cut.vars' lays the variable. In a bare row this is a premise. The card (YtecmipgpldcfcaaGreatDoorCards.lean) ties it to the program's text. -/
def laid_unicode_utf8_acceptRanges {H : Type} : DataW H := .agg [.agg [.lit (.int .u8 128), .lit (.int .u8 191)], .agg [.lit (.int .u8 160), .lit (.int .u8 191)], .agg [.lit (.int .u8 128), .lit (.int .u8 159)], .agg [.lit (.int .u8 144), .lit (.int .u8 191)], .agg [.lit (.int .u8 128), .lit (.int .u8 143)], .agg [.lit (.int .u8 0), .lit (.int .u8 0)], .agg [.lit (.int .u8 0), .lit (.int .u8 0)], .agg [.lit (.int .u8 0), .lit (.int .u8 0)], .agg [.lit (.int .u8 0), .lit (.int .u8 0)], .agg [.lit (.int .u8 0), .lit (.int .u8 0)], .agg [.lit (.int .u8 0), .lit (.int .u8 0)], .agg [.lit (.int .u8 0), .lit (.int .u8 0)], .agg [.lit (.int .u8 0), .lit (.int .u8 0)], .agg [.lit (.int .u8 0), .lit (.int .u8 0)], .agg [.lit (.int .u8 0), .lit (.int .u8 0)], .agg [.lit (.int .u8 0), .lit (.int .u8 0)]]
/-- One of Go's own tables, pinned by name: the form's constant. -/
def laid_unicode_utf8_first : DataW Unit := Go.Pinned.utf8First
def laid_noontide_force_start {H : Type} : DataW H := .agg [.lit (.int .i64 (-1)), .lit (.int .i64 0), .lit (.int .i64 (-2192387558400))]

/-- 'noontidelaw34.PointTells': WHATEVER THE INPUT: true; the input reads as it did. -/
def pointTellsSpec : ChangeSpec := { name := "pointTells", fn := fun _ => fun
  | [d1, d2, d3] => { results := [.lit (.bool true)], args := [d1, d2, d3] }
  | _ => none }
def pointTellsRow : OpenClaim := { program := "ytecmipgpldcfcaagreatdoor", sum := "86358b3ad59d6460c79a7ace04dc5c71389c3fae3c9605a5c6b58194afb5182f", func := "noontide/noontidelaw34.PointTells", spec := "pointTells", inPlace := ["internal/bytealg.IndexByteString", "internal/bytealg.IndexString"], unfollowed := true, recurses := true, named := ["internal/bytealg.MaxLen", "unicode/utf8.first", "unicode/utf8.acceptRanges"], apart := false, laid := [("unicode/utf8.acceptRanges", laid_unicode_utf8_acceptRanges), ("unicode/utf8.first", laid_unicode_utf8_first)] }
def PointTellsSaid : Prop := pointTellsRow.holds Tryz.pinned (OpenSpec.ofChange pointTellsSpec)

/-- ITS FALSE NEIGHBOUR: 'it returns false'. Refute it at one input. -/
def pointTellsWrong : ChangeSpec := { name := "pointTells", fn := fun _ => fun
  | [d1, d2, d3] => { results := [.lit (.bool false)], args := [d1, d2, d3] }
  | _ => none }
def PointTellsWrongFalsely : Prop := pointTellsRow.holds Tryz.pinned (OpenSpec.ofChange pointTellsWrong)

/-- 'noontidelaw34.PointEras': WHATEVER THE INPUT: true; the input reads as it did. -/
def pointErasSpec : ChangeSpec := { name := "pointEras", fn := fun _ => fun
  | [d1, d2, d3, d4] => { results := [.lit (.bool true)], args := [d1, d2, d3, d4] }
  | _ => none }
def pointErasRow : OpenClaim := { program := "ytecmipgpldcfcaagreatdoor", sum := "86358b3ad59d6460c79a7ace04dc5c71389c3fae3c9605a5c6b58194afb5182f", func := "noontide/noontidelaw34.PointEras", spec := "pointEras", inPlace := ["internal/bytealg.IndexByteString", "internal/bytealg.IndexString"], unfollowed := true, recurses := true, named := ["internal/bytealg.MaxLen", "unicode/utf8.first", "unicode/utf8.acceptRanges"], apart := false, laid := [("unicode/utf8.acceptRanges", laid_unicode_utf8_acceptRanges), ("unicode/utf8.first", laid_unicode_utf8_first)] }
def PointErasSaid : Prop := pointErasRow.holds Tryz.pinned (OpenSpec.ofChange pointErasSpec)

/-- ITS FALSE NEIGHBOUR: 'it returns false'. Refute it at one input. -/
def pointErasWrong : ChangeSpec := { name := "pointEras", fn := fun _ => fun
  | [d1, d2, d3, d4] => { results := [.lit (.bool false)], args := [d1, d2, d3, d4] }
  | _ => none }
def PointErasWrongFalsely : Prop := pointErasRow.holds Tryz.pinned (OpenSpec.ofChange pointErasWrong)

/-- 'noontidelaw35.ChangeBetween': WHATEVER THE INPUT: true; the input reads as it did. -/
def changeBetweenSpec : ChangeSpec := { name := "changeBetween", fn := fun _ => fun
  | [d1, d2, d3, d4] => { results := [.lit (.bool true)], args := [d1, d2, d3, d4] }
  | _ => none }
def changeBetweenRow : OpenClaim := { program := "ytecmipgpldcfcaagreatdoor", sum := "86358b3ad59d6460c79a7ace04dc5c71389c3fae3c9605a5c6b58194afb5182f", func := "noontide/noontidelaw35.ChangeBetween", spec := "changeBetween", inPlace := ["internal/bytealg.IndexByteString", "internal/bytealg.IndexString"], unfollowed := true, recurses := true, named := ["internal/bytealg.MaxLen", "unicode/utf8.first", "unicode/utf8.acceptRanges", "noontide/force.start"], apart := false, laid := [("unicode/utf8.acceptRanges", laid_unicode_utf8_acceptRanges), ("noontide/force.start", laid_noontide_force_start), ("unicode/utf8.first", laid_unicode_utf8_first)] }
def ChangeBetweenSaid : Prop := changeBetweenRow.holds Tryz.pinned (OpenSpec.ofChange changeBetweenSpec)

/-- ITS FALSE NEIGHBOUR: 'it returns false'. Refute it at one input. -/
def changeBetweenWrong : ChangeSpec := { name := "changeBetween", fn := fun _ => fun
  | [d1, d2, d3, d4] => { results := [.lit (.bool false)], args := [d1, d2, d3, d4] }
  | _ => none }
def ChangeBetweenWrongFalsely : Prop := changeBetweenRow.holds Tryz.pinned (OpenSpec.ofChange changeBetweenWrong)

/-- 'noontidelaw35.ChangeFar': WHATEVER THE INPUT: true; the input reads as it did. -/
def changeFarSpec : ChangeSpec := { name := "changeFar", fn := fun _ => fun
  | [d1, d2, d3] => { results := [.lit (.bool true)], args := [d1, d2, d3] }
  | _ => none }
def changeFarRow : OpenClaim := { program := "ytecmipgpldcfcaagreatdoor", sum := "86358b3ad59d6460c79a7ace04dc5c71389c3fae3c9605a5c6b58194afb5182f", func := "noontide/noontidelaw35.ChangeFar", spec := "changeFar", inPlace := ["internal/bytealg.IndexByteString", "internal/bytealg.IndexString"], unfollowed := true, recurses := true, named := ["internal/bytealg.MaxLen", "unicode/utf8.first", "unicode/utf8.acceptRanges", "noontide/force.start"], apart := false, laid := [("unicode/utf8.acceptRanges", laid_unicode_utf8_acceptRanges), ("noontide/force.start", laid_noontide_force_start), ("unicode/utf8.first", laid_unicode_utf8_first)] }
def ChangeFarSaid : Prop := changeFarRow.holds Tryz.pinned (OpenSpec.ofChange changeFarSpec)

/-- ITS FALSE NEIGHBOUR: 'it returns false'. Refute it at one input. -/
def changeFarWrong : ChangeSpec := { name := "changeFar", fn := fun _ => fun
  | [d1, d2, d3] => { results := [.lit (.bool false)], args := [d1, d2, d3] }
  | _ => none }
def ChangeFarWrongFalsely : Prop := changeFarRow.holds Tryz.pinned (OpenSpec.ofChange changeFarWrong)

/- THE SECOND FORM. 'bulk': how many values and letters a reading holds, each counted each time it is reached (what is shared counts as often as it is met; a slice's spare places count too). A statement '..UptoSaid' is the law's where the arguments, and the package variables that the reading takes, are together of bulk at most 1048576: NARROWER than '..Said'. Prove '..Said' where nothing that the law and all that it calls make is longer than what came in: it says more and counts as full. Else prove '..UptoSaid'. A law counts once. -/
mutual
def uptoBulk {H : Type} : DataW H → Nat
  | .lit (.string bytes) => bytes.length + 1
  | .lit _ => 1
  | .nil => 1
  | .ptr d => uptoBulk d + 1
  | .slice elems spare => uptoBulkAll elems + uptoBulkAll spare + 1
  | .agg parts => uptoBulkAll parts + 1
  | .iface _ d => uptoBulk d + 1
  | .map entries => uptoBulkEntries entries + 1
  | .held _ => 1
def uptoBulkAll {H : Type} : List (DataW H) → Nat
  | [] => 0
  | d :: r => uptoBulk d + uptoBulkAll r
def uptoBulkEntries {H : Type} : List (Lit × DataW H) → Nat
  | [] => 0
  | x :: r => uptoBulkEntry x + uptoBulkEntries r
def uptoBulkEntry {H : Type} : Lit × DataW H → Nat
  | (.string bytes, d) => bytes.length + uptoBulk d + 1
  | (_, d) => uptoBulk d + 1
 end
def uptoSmall : (H : Type) → List (DataW H) → Bool := fun _ ds => decide (uptoBulkAll ds ≤ 1048576)
def OpenSpec.upto (s : _root_.Go.ChangeSpec) : _root_.Go.OpenSpec := { _root_.Go.OpenSpec.ofChange s with cond := some uptoSmall }

/-- 'noontidelaw34.PointTells', WHERE WHAT IT READS IS OF BULK AT MOST 1048576: true; the input reads as it did. -/
def pointTellsUptoRow : OpenClaim := { program := "ytecmipgpldcfcaagreatdoor", sum := "86358b3ad59d6460c79a7ace04dc5c71389c3fae3c9605a5c6b58194afb5182f", func := "noontide/noontidelaw34.PointTells", spec := "pointTells", inPlace := ["internal/bytealg.IndexByteString", "internal/bytealg.IndexString"], unfollowed := true, recurses := true, named := ["internal/bytealg.MaxLen", "unicode/utf8.first", "unicode/utf8.acceptRanges"], apart := false, laid := [("unicode/utf8.acceptRanges", laid_unicode_utf8_acceptRanges), ("unicode/utf8.first", laid_unicode_utf8_first)], narrowed := true }
def PointTellsUptoSaid : Prop := pointTellsUptoRow.holds Tryz.pinned (OpenSpec.upto pointTellsSpec)

/-- 'noontidelaw34.PointEras', WHERE WHAT IT READS IS OF BULK AT MOST 1048576: true; the input reads as it did. -/
def pointErasUptoRow : OpenClaim := { program := "ytecmipgpldcfcaagreatdoor", sum := "86358b3ad59d6460c79a7ace04dc5c71389c3fae3c9605a5c6b58194afb5182f", func := "noontide/noontidelaw34.PointEras", spec := "pointEras", inPlace := ["internal/bytealg.IndexByteString", "internal/bytealg.IndexString"], unfollowed := true, recurses := true, named := ["internal/bytealg.MaxLen", "unicode/utf8.first", "unicode/utf8.acceptRanges"], apart := false, laid := [("unicode/utf8.acceptRanges", laid_unicode_utf8_acceptRanges), ("unicode/utf8.first", laid_unicode_utf8_first)], narrowed := true }
def PointErasUptoSaid : Prop := pointErasUptoRow.holds Tryz.pinned (OpenSpec.upto pointErasSpec)

/-- 'noontidelaw35.ChangeBetween', WHERE WHAT IT READS IS OF BULK AT MOST 1048576: true; the input reads as it did. -/
def changeBetweenUptoRow : OpenClaim := { program := "ytecmipgpldcfcaagreatdoor", sum := "86358b3ad59d6460c79a7ace04dc5c71389c3fae3c9605a5c6b58194afb5182f", func := "noontide/noontidelaw35.ChangeBetween", spec := "changeBetween", inPlace := ["internal/bytealg.IndexByteString", "internal/bytealg.IndexString"], unfollowed := true, recurses := true, named := ["internal/bytealg.MaxLen", "unicode/utf8.first", "unicode/utf8.acceptRanges", "noontide/force.start"], apart := false, laid := [("unicode/utf8.acceptRanges", laid_unicode_utf8_acceptRanges), ("noontide/force.start", laid_noontide_force_start), ("unicode/utf8.first", laid_unicode_utf8_first)], narrowed := true }
def ChangeBetweenUptoSaid : Prop := changeBetweenUptoRow.holds Tryz.pinned (OpenSpec.upto changeBetweenSpec)

/-- 'noontidelaw35.ChangeFar', WHERE WHAT IT READS IS OF BULK AT MOST 1048576: true; the input reads as it did. -/
def changeFarUptoRow : OpenClaim := { program := "ytecmipgpldcfcaagreatdoor", sum := "86358b3ad59d6460c79a7ace04dc5c71389c3fae3c9605a5c6b58194afb5182f", func := "noontide/noontidelaw35.ChangeFar", spec := "changeFar", inPlace := ["internal/bytealg.IndexByteString", "internal/bytealg.IndexString"], unfollowed := true, recurses := true, named := ["internal/bytealg.MaxLen", "unicode/utf8.first", "unicode/utf8.acceptRanges", "noontide/force.start"], apart := false, laid := [("unicode/utf8.acceptRanges", laid_unicode_utf8_acceptRanges), ("noontide/force.start", laid_noontide_force_start), ("unicode/utf8.first", laid_unicode_utf8_first)], narrowed := true }
def ChangeFarUptoSaid : Prop := changeFarUptoRow.holds Tryz.pinned (OpenSpec.upto changeFarSpec)

end Rows
end Go.Proofs.YtecmipgpldcfcaaGreatDoor
