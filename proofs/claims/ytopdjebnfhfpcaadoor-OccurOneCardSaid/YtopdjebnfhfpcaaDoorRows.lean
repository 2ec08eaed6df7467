/-
  NARROWER THAN 'FOR EVERY INPUT', by the rows' own cells (each row's printed sentence says how): ApartTells: laid · ApartEither: laid · OccurOne: laid · OccurYears: laid · ApartHolds: laid · ChainNear: laid · ChainAround: laid.
  DERIVED. THE GIVEN ROWS OF THIS SEAT. 7 by the template 'for every input the law returns true; each argument reads behind the call as it read before'; 0 by the template 'total and deterministic' (their statements: YtopdjebnfhfpcaaDoorTotals.lean).
  GIVEN WITH THE SEED: the statements are not yours to turn. If you find one false, say at which input.
  Laid BY PROGRAM, IN A SANDBOX (cutbox-rows.mjs): the forced cells as the released guide's own fill.sh prints them over the translation 87fc71d38839843a… (all of the seat's roots in one cut). By AI agents, Wed Nov 11 2026. No macro, syntax, notation, axiom, sorry.
-/
import Derived.Test.YtopdjebnfhfpcaaDoorChecked
import GoSem.PinnedTables
import GoSem.Claim
import GoSem.ClaimJoined
import GoSem.ClaimMapViews
import Derived.JoinedTies
import Derived.KernelRfl
namespace Go.Proofs.YtopdjebnfhfpcaaDoor
/- THE CELL 'sum', in the pinned program and in every row, IS THE sha256 OF THE DUMP (.gsa) THAT YtopdjebnfhfpcaaDoorProg.lean LOADS. Nothing in Lean hashes anything: it is a label: what it is worth is what the hold of that sum in a sandbox is worth. -/
noncomputable def Tryd.pinned : Pinned := { name := "ytopdjebnfhfpcaadoor", sum := "87fc71d38839843a664276b56fdf8898ec4cca988e30d094c426d36c77f1e7b8", checked := Tryd.checked }
namespace Rows
def none {H : Type} : Left H := { results := [], args := [] }

/- WHAT THE LISTED PACKAGE-LEVEL VARIABLES READ AS WHEN THE CALL BEGINS. Each datum BY PROGRAM (the guide's laid-datum.mjs) off the statement by which the dump's own 'gosem.cut.vars' lays the variable. In a bare row this is a premise. The card (YtopdjebnfhfpcaaDoorCards.lean) ties it to the program's text. -/
def laid_unicode_utf8_acceptRanges {H : Type} : DataW H := .agg [.agg [.lit (.int .u8 128), .lit (.int .u8 191)], .agg [.lit (.int .u8 160), .lit (.int .u8 191)], .agg [.lit (.int .u8 128), .lit (.int .u8 159)], .agg [.lit (.int .u8 144), .lit (.int .u8 191)], .agg [.lit (.int .u8 128), .lit (.int .u8 143)], .agg [.lit (.int .u8 0), .lit (.int .u8 0)], .agg [.lit (.int .u8 0), .lit (.int .u8 0)], .agg [.lit (.int .u8 0), .lit (.int .u8 0)], .agg [.lit (.int .u8 0), .lit (.int .u8 0)], .agg [.lit (.int .u8 0), .lit (.int .u8 0)], .agg [.lit (.int .u8 0), .lit (.int .u8 0)], .agg [.lit (.int .u8 0), .lit (.int .u8 0)], .agg [.lit (.int .u8 0), .lit (.int .u8 0)], .agg [.lit (.int .u8 0), .lit (.int .u8 0)], .agg [.lit (.int .u8 0), .lit (.int .u8 0)], .agg [.lit (.int .u8 0), .lit (.int .u8 0)]]
/-- One of Go's own tables, pinned by name: the form's constant. -/
def laid_unicode_utf8_first : DataW Unit := Go.Pinned.utf8First

/-- 'noontidelaw27.ApartTells': WHATEVER THE INPUT: true; the input reads as it did. -/
def apartTellsSpec : ChangeSpec := { name := "apartTells", fn := fun _ => fun
  | [d1, d2, d3] => { results := [.lit (.bool true)], args := [d1, d2, d3] }
  | _ => none }
def apartTellsRow : OpenClaim := { program := "ytopdjebnfhfpcaadoor", sum := "87fc71d38839843a664276b56fdf8898ec4cca988e30d094c426d36c77f1e7b8", func := "noontide/noontidelaw27.ApartTells", spec := "apartTells", inPlace := ["internal/bytealg.IndexByteString", "internal/bytealg.IndexString"], unfollowed := true, recurses := true, named := ["unicode/utf8.first", "unicode/utf8.acceptRanges", "internal/bytealg.MaxLen"], apart := false, laid := [("unicode/utf8.acceptRanges", laid_unicode_utf8_acceptRanges), ("unicode/utf8.first", laid_unicode_utf8_first)] }
def ApartTellsSaid : Prop := apartTellsRow.holds Tryd.pinned (OpenSpec.ofChange apartTellsSpec)

/-- ITS FALSE NEIGHBOUR: 'it returns false'. Refute it at one input. -/
def apartTellsWrong : ChangeSpec := { name := "apartTells", fn := fun _ => fun
  | [d1, d2, d3] => { results := [.lit (.bool false)], args := [d1, d2, d3] }
  | _ => none }
def ApartTellsWrongFalsely : Prop := apartTellsRow.holds Tryd.pinned (OpenSpec.ofChange apartTellsWrong)

/-- 'noontidelaw27.ApartEither': WHATEVER THE INPUT: true; the input reads as it did. -/
def apartEitherSpec : ChangeSpec := { name := "apartEither", fn := fun _ => fun
  | [d1, d2] => { results := [.lit (.bool true)], args := [d1, d2] }
  | _ => none }
def apartEitherRow : OpenClaim := { program := "ytopdjebnfhfpcaadoor", sum := "87fc71d38839843a664276b56fdf8898ec4cca988e30d094c426d36c77f1e7b8", func := "noontide/noontidelaw27.ApartEither", spec := "apartEither", inPlace := ["internal/bytealg.IndexByteString", "internal/bytealg.IndexString"], unfollowed := true, recurses := true, named := ["unicode/utf8.first", "unicode/utf8.acceptRanges", "internal/bytealg.MaxLen"], apart := false, laid := [("unicode/utf8.acceptRanges", laid_unicode_utf8_acceptRanges), ("unicode/utf8.first", laid_unicode_utf8_first)] }
def ApartEitherSaid : Prop := apartEitherRow.holds Tryd.pinned (OpenSpec.ofChange apartEitherSpec)

/-- ITS FALSE NEIGHBOUR: 'it returns false'. Refute it at one input. -/
def apartEitherWrong : ChangeSpec := { name := "apartEither", fn := fun _ => fun
  | [d1, d2] => { results := [.lit (.bool false)], args := [d1, d2] }
  | _ => none }
def ApartEitherWrongFalsely : Prop := apartEitherRow.holds Tryd.pinned (OpenSpec.ofChange apartEitherWrong)

/-- 'noontidelaw25.OccurOne': WHATEVER THE INPUT: true; the input reads as it did. -/
def occurOneSpec : ChangeSpec := { name := "occurOne", fn := fun _ => fun
  | [d1, d2, d3] => { results := [.lit (.bool true)], args := [d1, d2, d3] }
  | _ => none }
def occurOneRow : OpenClaim := { program := "ytopdjebnfhfpcaadoor", sum := "87fc71d38839843a664276b56fdf8898ec4cca988e30d094c426d36c77f1e7b8", func := "noontide/noontidelaw25.OccurOne", spec := "occurOne", inPlace := ["internal/bytealg.IndexByteString", "internal/bytealg.IndexString"], unfollowed := true, recurses := true, named := ["unicode/utf8.first", "unicode/utf8.acceptRanges", "internal/bytealg.MaxLen"], apart := false, laid := [("unicode/utf8.acceptRanges", laid_unicode_utf8_acceptRanges), ("unicode/utf8.first", laid_unicode_utf8_first)] }
def OccurOneSaid : Prop := occurOneRow.holds Tryd.pinned (OpenSpec.ofChange occurOneSpec)

/-- ITS FALSE NEIGHBOUR: 'it returns false'. Refute it at one input. -/
def occurOneWrong : ChangeSpec := { name := "occurOne", fn := fun _ => fun
  | [d1, d2, d3] => { results := [.lit (.bool false)], args := [d1, d2, d3] }
  | _ => none }
def OccurOneWrongFalsely : Prop := occurOneRow.holds Tryd.pinned (OpenSpec.ofChange occurOneWrong)

/-- 'noontidelaw25.OccurYears': WHATEVER THE INPUT: true; the input reads as it did. -/
def occurYearsSpec : ChangeSpec := { name := "occurYears", fn := fun _ => fun
  | [d1, d2] => { results := [.lit (.bool true)], args := [d1, d2] }
  | _ => none }
def occurYearsRow : OpenClaim := { program := "ytopdjebnfhfpcaadoor", sum := "87fc71d38839843a664276b56fdf8898ec4cca988e30d094c426d36c77f1e7b8", func := "noontide/noontidelaw25.OccurYears", spec := "occurYears", inPlace := ["internal/bytealg.IndexByteString", "internal/bytealg.IndexString"], unfollowed := true, recurses := true, named := ["unicode/utf8.first", "unicode/utf8.acceptRanges", "internal/bytealg.MaxLen"], apart := false, laid := [("unicode/utf8.acceptRanges", laid_unicode_utf8_acceptRanges), ("unicode/utf8.first", laid_unicode_utf8_first)] }
def OccurYearsSaid : Prop := occurYearsRow.holds Tryd.pinned (OpenSpec.ofChange occurYearsSpec)

/-- ITS FALSE NEIGHBOUR: 'it returns false'. Refute it at one input. -/
def occurYearsWrong : ChangeSpec := { name := "occurYears", fn := fun _ => fun
  | [d1, d2] => { results := [.lit (.bool false)], args := [d1, d2] }
  | _ => none }
def OccurYearsWrongFalsely : Prop := occurYearsRow.holds Tryd.pinned (OpenSpec.ofChange occurYearsWrong)

/-- 'noontidelaw27.ApartHolds': WHATEVER THE INPUT: true; the input reads as it did. -/
def apartHoldsSpec : ChangeSpec := { name := "apartHolds", fn := fun _ => fun
  | [d1, d2, d3] => { results := [.lit (.bool true)], args := [d1, d2, d3] }
  | _ => none }
def apartHoldsRow : OpenClaim := { program := "ytopdjebnfhfpcaadoor", sum := "87fc71d38839843a664276b56fdf8898ec4cca988e30d094c426d36c77f1e7b8", func := "noontide/noontidelaw27.ApartHolds", spec := "apartHolds", inPlace := ["internal/bytealg.IndexByteString", "internal/bytealg.IndexString"], unfollowed := true, recurses := true, named := ["unicode/utf8.first", "unicode/utf8.acceptRanges", "internal/bytealg.MaxLen"], apart := false, laid := [("unicode/utf8.acceptRanges", laid_unicode_utf8_acceptRanges), ("unicode/utf8.first", laid_unicode_utf8_first)] }
def ApartHoldsSaid : Prop := apartHoldsRow.holds Tryd.pinned (OpenSpec.ofChange apartHoldsSpec)

/-- ITS FALSE NEIGHBOUR: 'it returns false'. Refute it at one input. -/
def apartHoldsWrong : ChangeSpec := { name := "apartHolds", fn := fun _ => fun
  | [d1, d2, d3] => { results := [.lit (.bool false)], args := [d1, d2, d3] }
  | _ => none }
def ApartHoldsWrongFalsely : Prop := apartHoldsRow.holds Tryd.pinned (OpenSpec.ofChange apartHoldsWrong)

/-- 'noontidelaw26.ChainNear': WHATEVER THE INPUT: true; the input reads as it did. -/
def chainNearSpec : ChangeSpec := { name := "chainNear", fn := fun _ => fun
  | [d1, d2, d3, d4] => { results := [.lit (.bool true)], args := [d1, d2, d3, d4] }
  | _ => none }
def chainNearRow : OpenClaim := { program := "ytopdjebnfhfpcaadoor", sum := "87fc71d38839843a664276b56fdf8898ec4cca988e30d094c426d36c77f1e7b8", func := "noontide/noontidelaw26.ChainNear", spec := "chainNear", inPlace := ["internal/bytealg.IndexByteString", "internal/bytealg.IndexString"], unfollowed := true, recurses := true, named := ["unicode/utf8.first", "unicode/utf8.acceptRanges", "internal/bytealg.MaxLen"], apart := false, laid := [("unicode/utf8.acceptRanges", laid_unicode_utf8_acceptRanges), ("unicode/utf8.first", laid_unicode_utf8_first)] }
def ChainNearSaid : Prop := chainNearRow.holds Tryd.pinned (OpenSpec.ofChange chainNearSpec)

/-- ITS FALSE NEIGHBOUR: 'it returns false'. Refute it at one input. -/
def chainNearWrong : ChangeSpec := { name := "chainNear", fn := fun _ => fun
  | [d1, d2, d3, d4] => { results := [.lit (.bool false)], args := [d1, d2, d3, d4] }
  | _ => none }
def ChainNearWrongFalsely : Prop := chainNearRow.holds Tryd.pinned (OpenSpec.ofChange chainNearWrong)

/-- 'noontidelaw26.ChainAround': WHATEVER THE INPUT: true; the input reads as it did. -/
def chainAroundSpec : ChangeSpec := { name := "chainAround", fn := fun _ => fun
  | [d1, d2, d3, d4] => { results := [.lit (.bool true)], args := [d1, d2, d3, d4] }
  | _ => none }
def chainAroundRow : OpenClaim := { program := "ytopdjebnfhfpcaadoor", sum := "87fc71d38839843a664276b56fdf8898ec4cca988e30d094c426d36c77f1e7b8", func := "noontide/noontidelaw26.ChainAround", spec := "chainAround", inPlace := ["internal/bytealg.IndexByteString", "internal/bytealg.IndexString"], unfollowed := true, recurses := true, named := ["unicode/utf8.first", "unicode/utf8.acceptRanges", "internal/bytealg.MaxLen"], apart := false, laid := [("unicode/utf8.acceptRanges", laid_unicode_utf8_acceptRanges), ("unicode/utf8.first", laid_unicode_utf8_first)] }
def ChainAroundSaid : Prop := chainAroundRow.holds Tryd.pinned (OpenSpec.ofChange chainAroundSpec)

/-- ITS FALSE NEIGHBOUR: 'it returns false'. Refute it at one input. -/
def chainAroundWrong : ChangeSpec := { name := "chainAround", fn := fun _ => fun
  | [d1, d2, d3, d4] => { results := [.lit (.bool false)], args := [d1, d2, d3, d4] }
  | _ => none }
def ChainAroundWrongFalsely : Prop := chainAroundRow.holds Tryd.pinned (OpenSpec.ofChange chainAroundWrong)

/- THE SECOND FORM. 'bulk': how many values and letters a reading holds, each counted each time it is reached (what is shared counts as often as it is met; a slice's spare places count too). A statement '..UptoSaid' is the law's where the arguments, and the package variables that the reading takes, are together of bulk at most 1048576: NARROWER than '..Said'. Prove '..Said' where nothing that the law and all that it calls make is longer than what came in: it says more and counts as full. Else prove '..UptoSaid'. A law counts once. -/
mutual
def uptoBulk {H : Type} : DataW H → Nat
  | .lit (.string bytes) => bytes.length + 1
  | .lit _ => 1
  | .nil => 1
  | .ptr d => uptoBulk d + 1
  | .slice elems spare => uptoBulkAll elems + uptoBulkAll spare + 1
  | .agg parts => uptoBulkAll parts + 1
  | .iface _ d => uptoBulk d + 1
  | .map entries => uptoBulkEntries entries + 1
  | .held _ => 1
def uptoBulkAll {H : Type} : List (DataW H) → Nat
  | [] => 0
  | d :: r => uptoBulk d + uptoBulkAll r
def uptoBulkEntries {H : Type} : List (Lit × DataW H) → Nat
  | [] => 0
  | x :: r => uptoBulkEntry x + uptoBulkEntries r
def uptoBulkEntry {H : Type} : Lit × DataW H → Nat
  | (.string bytes, d) => bytes.length + uptoBulk d + 1
  | (_, d) => uptoBulk d + 1
 end
def uptoSmall : (H : Type) → List (DataW H) → Bool := fun _ ds => decide (uptoBulkAll ds ≤ 1048576)
def OpenSpec.upto (s : _root_.Go.ChangeSpec) : _root_.Go.OpenSpec := { _root_.Go.OpenSpec.ofChange s with cond := some uptoSmall }

/-- 'noontidelaw27.ApartTells', WHERE WHAT IT READS IS OF BULK AT MOST 1048576: true; the input reads as it did. -/
def apartTellsUptoRow : OpenClaim := { program := "ytopdjebnfhfpcaadoor", sum := "87fc71d38839843a664276b56fdf8898ec4cca988e30d094c426d36c77f1e7b8", func := "noontide/noontidelaw27.ApartTells", spec := "apartTells", inPlace := ["internal/bytealg.IndexByteString", "internal/bytealg.IndexString"], unfollowed := true, recurses := true, named := ["unicode/utf8.first", "unicode/utf8.acceptRanges", "internal/bytealg.MaxLen"], apart := false, laid := [("unicode/utf8.acceptRanges", laid_unicode_utf8_acceptRanges), ("unicode/utf8.first", laid_unicode_utf8_first)], narrowed := true }
def ApartTellsUptoSaid : Prop := apartTellsUptoRow.holds Tryd.pinned (OpenSpec.upto apartTellsSpec)

/-- 'noontidelaw27.ApartEither', WHERE WHAT IT READS IS OF BULK AT MOST 1048576: true; the input reads as it did. -/
def apartEitherUptoRow : OpenClaim := { program := "ytopdjebnfhfpcaadoor", sum := "87fc71d38839843a664276b56fdf8898ec4cca988e30d094c426d36c77f1e7b8", func := "noontide/noontidelaw27.ApartEither", spec := "apartEither", inPlace := ["internal/bytealg.IndexByteString", "internal/bytealg.IndexString"], unfollowed := true, recurses := true, named := ["unicode/utf8.first", "unicode/utf8.acceptRanges", "internal/bytealg.MaxLen"], apart := false, laid := [("unicode/utf8.acceptRanges", laid_unicode_utf8_acceptRanges), ("unicode/utf8.first", laid_unicode_utf8_first)], narrowed := true }
def ApartEitherUptoSaid : Prop := apartEitherUptoRow.holds Tryd.pinned (OpenSpec.upto apartEitherSpec)

/-- 'noontidelaw25.OccurOne', WHERE WHAT IT READS IS OF BULK AT MOST 1048576: true; the input reads as it did. -/
def occurOneUptoRow : OpenClaim := { program := "ytopdjebnfhfpcaadoor", sum := "87fc71d38839843a664276b56fdf8898ec4cca988e30d094c426d36c77f1e7b8", func := "noontide/noontidelaw25.OccurOne", spec := "occurOne", inPlace := ["internal/bytealg.IndexByteString", "internal/bytealg.IndexString"], unfollowed := true, recurses := true, named := ["unicode/utf8.first", "unicode/utf8.acceptRanges", "internal/bytealg.MaxLen"], apart := false, laid := [("unicode/utf8.acceptRanges", laid_unicode_utf8_acceptRanges), ("unicode/utf8.first", laid_unicode_utf8_first)], narrowed := true }
def OccurOneUptoSaid : Prop := occurOneUptoRow.holds Tryd.pinned (OpenSpec.upto occurOneSpec)

/-- 'noontidelaw25.OccurYears', WHERE WHAT IT READS IS OF BULK AT MOST 1048576: true; the input reads as it did. -/
def occurYearsUptoRow : OpenClaim := { program := "ytopdjebnfhfpcaadoor", sum := "87fc71d38839843a664276b56fdf8898ec4cca988e30d094c426d36c77f1e7b8", func := "noontide/noontidelaw25.OccurYears", spec := "occurYears", inPlace := ["internal/bytealg.IndexByteString", "internal/bytealg.IndexString"], unfollowed := true, recurses := true, named := ["unicode/utf8.first", "unicode/utf8.acceptRanges", "internal/bytealg.MaxLen"], apart := false, laid := [("unicode/utf8.acceptRanges", laid_unicode_utf8_acceptRanges), ("unicode/utf8.first", laid_unicode_utf8_first)], narrowed := true }
def OccurYearsUptoSaid : Prop := occurYearsUptoRow.holds Tryd.pinned (OpenSpec.upto occurYearsSpec)

/-- 'noontidelaw27.ApartHolds', WHERE WHAT IT READS IS OF BULK AT MOST 1048576: true; the input reads as it did. -/
def apartHoldsUptoRow : OpenClaim := { program := "ytopdjebnfhfpcaadoor", sum := "87fc71d38839843a664276b56fdf8898ec4cca988e30d094c426d36c77f1e7b8", func := "noontide/noontidelaw27.ApartHolds", spec := "apartHolds", inPlace := ["internal/bytealg.IndexByteString", "internal/bytealg.IndexString"], unfollowed := true, recurses := true, named := ["unicode/utf8.first", "unicode/utf8.acceptRanges", "internal/bytealg.MaxLen"], apart := false, laid := [("unicode/utf8.acceptRanges", laid_unicode_utf8_acceptRanges), ("unicode/utf8.first", laid_unicode_utf8_first)], narrowed := true }
def ApartHoldsUptoSaid : Prop := apartHoldsUptoRow.holds Tryd.pinned (OpenSpec.upto apartHoldsSpec)

/-- 'noontidelaw26.ChainNear', WHERE WHAT IT READS IS OF BULK AT MOST 1048576: true; the input reads as it did. -/
def chainNearUptoRow : OpenClaim := { program := "ytopdjebnfhfpcaadoor", sum := "87fc71d38839843a664276b56fdf8898ec4cca988e30d094c426d36c77f1e7b8", func := "noontide/noontidelaw26.ChainNear", spec := "chainNear", inPlace := ["internal/bytealg.IndexByteString", "internal/bytealg.IndexString"], unfollowed := true, recurses := true, named := ["unicode/utf8.first", "unicode/utf8.acceptRanges", "internal/bytealg.MaxLen"], apart := false, laid := [("unicode/utf8.acceptRanges", laid_unicode_utf8_acceptRanges), ("unicode/utf8.first", laid_unicode_utf8_first)], narrowed := true }
def ChainNearUptoSaid : Prop := chainNearUptoRow.holds Tryd.pinned (OpenSpec.upto chainNearSpec)

/-- 'noontidelaw26.ChainAround', WHERE WHAT IT READS IS OF BULK AT MOST 1048576: true; the input reads as it did. -/
def chainAroundUptoRow : OpenClaim := { program := "ytopdjebnfhfpcaadoor", sum := "87fc71d38839843a664276b56fdf8898ec4cca988e30d094c426d36c77f1e7b8", func := "noontide/noontidelaw26.ChainAround", spec := "chainAround", inPlace := ["internal/bytealg.IndexByteString", "internal/bytealg.IndexString"], unfollowed := true, recurses := true, named := ["unicode/utf8.first", "unicode/utf8.acceptRanges", "internal/bytealg.MaxLen"], apart := false, laid := [("unicode/utf8.acceptRanges", laid_unicode_utf8_acceptRanges), ("unicode/utf8.first", laid_unicode_utf8_first)], narrowed := true }
def ChainAroundUptoSaid : Prop := chainAroundUptoRow.holds Tryd.pinned (OpenSpec.upto chainAroundSpec)

end Rows
end Go.Proofs.YtopdjebnfhfpcaaDoor
