/-
  Arguments that are occurrences or spans, opened.
-/
import Derived.Test.YtjgodnakhbkgeaaOpen
import Derived.Test.YtjgodnakhbkgeaaOcc
namespace Go.Proofs.Ytjgodnakhbkgeaa
open Go.RowKit Go.ChangeShapes Go.WideShapes
/-- what an occurrence's parts may hold, whatever it is -/
structure OccV.Fit (o : OccV) : Prop where
  r : I64 o.rule
  y : I64 o.year
  n : I64 o.nom
structure SpanV where
  fr : Int
  «to» : Int
def SpanV.cells (s : SpanV) : List Value := [.int .i64 s.fr, .int .i64 s.to]
structure SpanV.Fit (s : SpanV) : Prop where
  f : I64 s.fr
  t : I64 s.to
section
variable {H : Type} {enc : TypeId × Value → H} {w : World} {base : Nat} {spare : Nat → Bool} {held : Bool}
theorem lit_i64 {n : Int} (hn : (Lit.int .i64 n).wf = true) : I64 n := by
  have h1 : (decide (IntKind.i64.min ≤ n) && decide (n ≤ IntKind.i64.max)) = true := hn
  rw [show IntKind.i64.min = -9223372036854775808 from rfl, show IntKind.i64.max = 9223372036854775807 from rfl] at h1
  simp only [Bool.and_eq_true, decide_eq_true_eq] at h1
  exact h1
theorem cSpan : Try.prog.cellsOf 46 = 2 := by kernel_rfl
set_option maxRecDepth 100000 in
theorem span_cells {fuel : Nat} {cs : List Value} {x : DataW H × List MemPlace} (h : DataW.trod enc Try.prog w base spare held fuel 46 cs = some x) : ∃ s : SpanV, cs = s.cells ∧ s.Fit := by
  obtain ⟨xs, n, _, _, hlen, hxl, hg⟩ := DataW.trod_struct Try.underlying46 h
  match cs, hlen.trans cSpan with
  | [v0, v1], _ =>
    have hxl3 : xs.length = 2 := hxl
    have g0 : DataW.trod enc Try.prog w base spare held n 2 (([v0, v1].drop 0).take (Try.prog.cellsOf 2)) = xs[0]? := hg 0 _ rfl
    rw [c2] at g0
    replace g0 : DataW.trod enc Try.prog w base spare held n 2 [v0] = xs[0]? := g0
    have g1 : DataW.trod enc Try.prog w base spare held n 2 (([v0, v1].drop 1).take (Try.prog.cellsOf 2)) = xs[1]? := hg 1 _ rfl
    rw [c2] at g1
    replace g1 : DataW.trod enc Try.prog w base spare held n 2 [v1] = xs[1]? := g1
    obtain ⟨n0, rfl, z0⟩ := open_i Try.underlying2 g0 (at_some hxl3 (by decide))
    obtain ⟨n1, rfl, z1⟩ := open_i Try.underlying2 g1 (at_some hxl3 (by decide))
    exact ⟨⟨n0, n1⟩, rfl, ⟨lit_i64 z0, lit_i64 z1⟩⟩
end
end Go.Proofs.Ytjgodnakhbkgeaa
