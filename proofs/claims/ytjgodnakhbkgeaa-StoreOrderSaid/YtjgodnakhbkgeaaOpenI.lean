/-
  Arguments that are infos, or steps of law 38, opened.
-/
import Derived.Test.YtjgodnakhbkgeaaOpenO
import Derived.Test.YtjgodnakhbkgeaaSlc
import Derived.Test.YtjgodnakhbkgeaaStoreP
namespace Go.Proofs.Ytjgodnakhbkgeaa
open Go.RowKit Go.ChangeShapes Go.WideShapes
structure ValI where
  off : Int
  save : Int
  abbr : ByteArray
def ValI.cells (v : ValI) : List Value := [.int .i64 v.off, .int .i64 v.save, .string v.abbr]
/-- what an info's parts may hold, whatever it is -/
structure InfoV.Fit (i : InfoV) : Prop where
  f : I64 i.fr
  t : I64 i.th
  o : I64 i.off
  s : I64 i.save
  n : i.abbr.size ≤ 9223372036854775807
structure StepV where
  kind : Int
  info : InfoV
  t : Int
def StepV.cells (s : StepV) : List Value := [.int .i64 s.kind, .int .i64 s.info.fr, .int .i64 s.info.th, .int .i64 s.info.off, .int .i64 s.info.save, .string s.info.abbr, .int .i64 s.t]
structure StepV.Fit (s : StepV) : Prop where
  i : s.info.Fit
  t : I64 s.t
instance : Inhabited InfoV := ⟨Sto.none0⟩
instance : Inhabited StepV := ⟨⟨0, Sto.none0, 0⟩⟩
section
variable {H : Type} {enc : TypeId × Value → H} {w : World} {base : Nat} {spare : Nat → Bool} {held : Bool}
set_option maxRecDepth 100000 in
theorem vali_cells {fuel : Nat} {cs : List Value} {x : DataW H × List MemPlace} (h : DataW.trod enc Try.prog w base spare held fuel 48 cs = some x) : ∃ v : ValI, cs = v.cells ∧ (I64 v.off ∧ I64 v.save ∧ v.abbr.size ≤ 9223372036854775807) := by
  obtain ⟨xs, n, _, hx1, hlen, hxl, hg⟩ := DataW.trod_struct Try.underlying48 h
  match cs, hlen.trans (show Try.prog.cellsOf 48 = 3 by kernel_rfl) with
  | [v0, v1, v2], _ =>
    have hxl8 : xs.length = 3 := hxl
    have g0 : DataW.trod enc Try.prog w base spare held n 2 (([v0, v1, v2].drop 0).take (Try.prog.cellsOf 2)) = xs[0]? := hg 0 _ rfl
    rw [show Try.prog.cellsOf 2 = 1 by kernel_rfl] at g0
    replace g0 : DataW.trod enc Try.prog w base spare held n 2 [v0] = xs[0]? := g0
    have g1 : DataW.trod enc Try.prog w base spare held n 2 (([v0, v1, v2].drop 1).take (Try.prog.cellsOf 2)) = xs[1]? := hg 1 _ rfl
    rw [show Try.prog.cellsOf 2 = 1 by kernel_rfl] at g1
    replace g1 : DataW.trod enc Try.prog w base spare held n 2 [v1] = xs[1]? := g1
    have g2 : DataW.trod enc Try.prog w base spare held n 9 (([v0, v1, v2].drop 2).take (Try.prog.cellsOf 9)) = xs[2]? := hg 2 _ rfl
    rw [show Try.prog.cellsOf 9 = 1 by kernel_rfl] at g2
    replace g2 : DataW.trod enc Try.prog w base spare held n 9 [v2] = xs[2]? := g2
    obtain ⟨n0, rfl, z0⟩ := open_i Try.underlying2 g0 (at_some hxl8 (by decide))
    obtain ⟨n1, rfl, z1⟩ := open_i Try.underlying2 g1 (at_some hxl8 (by decide))
    obtain ⟨n2, rfl, z2⟩ := open_s Try.underlying9 g2 (at_some hxl8 (by decide))
    exact ⟨⟨n0, n1, n2⟩, rfl, lit_i64 z0, lit_i64 z1, z2⟩
set_option maxRecDepth 100000 in
theorem infoV_cells {fuel : Nat} {cs : List Value} {x : DataW H × List MemPlace} (h : DataW.trod enc Try.prog w base spare held fuel 50 cs = some x) : ∃ v : InfoV, cs = v.cells ∧ v.Fit := by
  obtain ⟨xs, n, _, hx1, hlen, hxl, hg⟩ := DataW.trod_struct Try.underlying50 h
  match cs, hlen.trans (show Try.prog.cellsOf 50 = 5 by kernel_rfl) with
  | [v0, v1, v2, v3, v4], _ =>
    have hxl8 : xs.length = 2 := hxl
    have g0 : DataW.trod enc Try.prog w base spare held n 46 (([v0, v1, v2, v3, v4].drop 0).take (Try.prog.cellsOf 46)) = xs[0]? := hg 0 _ rfl
    rw [show Try.prog.cellsOf 46 = 2 by kernel_rfl] at g0
    replace g0 : DataW.trod enc Try.prog w base spare held n 46 [v0, v1] = xs[0]? := g0
    have g1 : DataW.trod enc Try.prog w base spare held n 48 (([v0, v1, v2, v3, v4].drop 2).take (Try.prog.cellsOf 48)) = xs[1]? := hg 1 _ rfl
    rw [show Try.prog.cellsOf 48 = 3 by kernel_rfl] at g1
    replace g1 : DataW.trod enc Try.prog w base spare held n 48 [v2, v3, v4] = xs[1]? := g1
    obtain ⟨y0, hy0⟩ := at_some (i := 0) hxl8 (by decide)
    rw [hy0] at g0
    obtain ⟨s0, hs0, f0⟩ := span_cells g0
    unfold SpanV.cells at hs0
    simp only [List.cons.injEq, and_true] at hs0
    obtain ⟨rfl, rfl⟩ := hs0
    obtain ⟨y1, hy1⟩ := at_some (i := 1) hxl8 (by decide)
    rw [hy1] at g1
    obtain ⟨s1, hs1, f1⟩ := vali_cells g1
    unfold ValI.cells at hs1
    simp only [List.cons.injEq, and_true] at hs1
    obtain ⟨rfl, rfl, rfl⟩ := hs1
    exact ⟨⟨s0.fr, s0.to, s1.off, s1.save, s1.abbr⟩, rfl, ⟨f0.f, f0.t, f1.1, f1.2.1, f1.2.2⟩⟩
set_option maxRecDepth 100000 in
theorem step_cells {fuel : Nat} {cs : List Value} {x : DataW H × List MemPlace} (h : DataW.trod enc Try.prog w base spare held fuel 52 cs = some x) : ∃ v : StepV, cs = v.cells ∧ v.Fit := by
  obtain ⟨xs, n, _, hx1, hlen, hxl, hg⟩ := DataW.trod_struct Try.underlying52 h
  match cs, hlen.trans (show Try.prog.cellsOf 52 = 7 by kernel_rfl) with
  | [v0, v1, v2, v3, v4, v5, v6], _ =>
    have hxl8 : xs.length = 3 := hxl
    have g0 : DataW.trod enc Try.prog w base spare held n 3 (([v0, v1, v2, v3, v4, v5, v6].drop 0).take (Try.prog.cellsOf 3)) = xs[0]? := hg 0 _ rfl
    rw [show Try.prog.cellsOf 3 = 1 by kernel_rfl] at g0
    replace g0 : DataW.trod enc Try.prog w base spare held n 3 [v0] = xs[0]? := g0
    have g1 : DataW.trod enc Try.prog w base spare held n 50 (([v0, v1, v2, v3, v4, v5, v6].drop 1).take (Try.prog.cellsOf 50)) = xs[1]? := hg 1 _ rfl
    rw [show Try.prog.cellsOf 50 = 5 by kernel_rfl] at g1
    replace g1 : DataW.trod enc Try.prog w base spare held n 50 [v1, v2, v3, v4, v5] = xs[1]? := g1
    have g2 : DataW.trod enc Try.prog w base spare held n 2 (([v0, v1, v2, v3, v4, v5, v6].drop 6).take (Try.prog.cellsOf 2)) = xs[2]? := hg 2 _ rfl
    rw [show Try.prog.cellsOf 2 = 1 by kernel_rfl] at g2
    replace g2 : DataW.trod enc Try.prog w base spare held n 2 [v6] = xs[2]? := g2
    obtain ⟨n0, rfl, z0⟩ := open_i Try.underlying3 g0 (at_some hxl8 (by decide))
    obtain ⟨y1, hy1⟩ := at_some (i := 1) hxl8 (by decide)
    rw [hy1] at g1
    obtain ⟨s1, hs1, f1⟩ := infoV_cells g1
    unfold InfoV.cells at hs1
    simp only [List.cons.injEq, and_true] at hs1
    obtain ⟨rfl, rfl, rfl, rfl, rfl⟩ := hs1
    obtain ⟨n2, rfl, z2⟩ := open_i Try.underlying2 g2 (at_some hxl8 (by decide))
    exact ⟨⟨n0, s1, n2⟩, rfl, ⟨f1, lit_i64 z2⟩⟩
theorem infos_open {fuel : Nat} {cs : List Value} {x : DataW H × List MemPlace} (h : DataW.trod enc Try.prog w base spare held fuel 60 cs = some x) :
    ∃ (v : Value) (l : List InfoV), cs = [v] ∧ (HoldsG 5 InfoV.cells w v l ∧ ∀ a ∈ l, a.Fit) ∧ (l = [] ∨ ∃ es sp, x.1 = .slice es sp ∧ es.length = l.length) :=
  slice_open (k := 5) (f := InfoV.cells) (F := InfoV.Fit) (fun _ => rfl) (by decide) Try.underlying60 (by kernel_rfl) infoV_cells h
theorem steps_open {fuel : Nat} {cs : List Value} {x : DataW H × List MemPlace} (h : DataW.trod enc Try.prog w base spare held fuel 38 cs = some x) :
    ∃ (v : Value) (l : List StepV), cs = [v] ∧ (HoldsG 7 StepV.cells w v l ∧ ∀ a ∈ l, a.Fit) ∧ (l = [] ∨ ∃ es sp, x.1 = .slice es sp ∧ es.length = l.length) :=
  slice_open (k := 7) (f := StepV.cells) (F := StepV.Fit) (fun _ => rfl) (by decide) Try.underlying38 (by kernel_rfl) step_cells h
end
end Go.Proofs.Ytjgodnakhbkgeaa
