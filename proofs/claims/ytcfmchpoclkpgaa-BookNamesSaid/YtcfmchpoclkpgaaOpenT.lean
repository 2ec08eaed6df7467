/-
  Arguments that are links or tables, opened.
-/
import Derived.Test.YtcfmchpoclkpgaaOpenE
import Derived.Test.YtcfmchpoclkpgaaSlc
namespace Go.Proofs.Ytcfmchpoclkpgaa
open Go.RowKit Go.ChangeShapes Go.WideShapes
structure LinkV where
  target : ByteArray
  name : ByteArray
deriving DecidableEq
def LinkV.cells (x : LinkV) : List Value := [.string x.target, .string x.name]
structure LinkV.Fit (x : LinkV) : Prop where
  t : x.target.size ≤ 9223372036854775807
  n : x.name.size ≤ 9223372036854775807
/-- a zone: its name, the slice of its eras as it lies, and these -/
structure ZoneV where
  name : ByteArray
  v : Value
  es : List EraV
def ZoneV.cells (x : ZoneV) : List Value := [.string x.name, x.v]
structure ZoneV.Fit (w : World) (x : ZoneV) : Prop where
  n : x.name.size ≤ 9223372036854775807
  e : HoldsE w x.v x.es
theorem ZoneV.Fit.later {w w' : World} {x : ZoneV} (h : x.Fit w) (hb : Below w.heap.size w w') : x.Fit w' := ⟨h.n, h.e.later hb⟩
structure TabV where
  rv : Value
  zv : Value
  lv : Value
  rs : List RuleV
  zs : List ZoneV
  ls : List LinkV
def TabV.cells (t : TabV) : List Value := [t.rv, t.zv, t.lv]
structure HoldsT (w : World) (t : TabV) : Prop where
  r : Holds w t.rv t.rs
  z : HoldsG 2 ZoneV.cells w t.zv t.zs
  zf : ∀ x ∈ t.zs, x.Fit w
  l : HoldsG 2 LinkV.cells w t.lv t.ls
  lf : ∀ x ∈ t.ls, x.Fit
theorem HoldsT.later {w w' : World} {t : TabV} (h : HoldsT w t) (hb : Below w.heap.size w w') : HoldsT w' t :=
  ⟨h.r.later hb, h.z.later hb, fun x hx => (h.zf x hx).later hb, h.l.later hb, h.lf⟩
instance : Inhabited LinkV := ⟨⟨⟨#[]⟩, ⟨#[]⟩⟩⟩
instance : Inhabited ZoneV := ⟨⟨⟨#[]⟩, .slice none 0 0, []⟩⟩
section
variable {H : Type} {enc : TypeId × Value → H} {w : World} {base : Nat} {spare : Nat → Bool} {held : Bool}
set_option maxRecDepth 100000 in
theorem link_cells {fuel : Nat} {cs : List Value} {x : DataW H × List MemPlace} (h : DataW.trod enc Try.prog w base spare held fuel 58 cs = some x) : ∃ x : LinkV, cs = x.cells ∧ x.Fit := by
  obtain ⟨xs, n, _, hx1, hlen, hxl, hg⟩ := DataW.trod_struct Try.underlying58 h
  match cs, hlen.trans (show Try.prog.cellsOf 58 = 2 by kernel_rfl) with
  | [v0, v1], _ =>
    have hxl8 : xs.length = 2 := hxl
    have g0 : DataW.trod enc Try.prog w base spare held n 9 (([v0, v1].drop 0).take (Try.prog.cellsOf 9)) = xs[0]? := hg 0 _ rfl
    rw [show Try.prog.cellsOf 9 = 1 by kernel_rfl] at g0
    replace g0 : DataW.trod enc Try.prog w base spare held n 9 [v0] = xs[0]? := g0
    have g1 : DataW.trod enc Try.prog w base spare held n 9 (([v0, v1].drop 1).take (Try.prog.cellsOf 9)) = xs[1]? := hg 1 _ rfl
    rw [show Try.prog.cellsOf 9 = 1 by kernel_rfl] at g1
    replace g1 : DataW.trod enc Try.prog w base spare held n 9 [v1] = xs[1]? := g1
    obtain ⟨n0, rfl, z0⟩ := open_s Try.underlying9 g0 (at_some hxl8 (by decide))
    obtain ⟨n1, rfl, z1⟩ := open_s Try.underlying9 g1 (at_some hxl8 (by decide))
    exact ⟨⟨n0, n1⟩, rfl, ⟨z0, z1⟩⟩
theorem zoneV_cells {fuel : Nat} {cs : List Value} {x : DataW H × List MemPlace} (h : DataW.trod enc Try.prog w base spare held fuel 56 cs = some x) : ∃ z : ZoneV, cs = z.cells ∧ z.Fit w := by
  obtain ⟨a, v, es, rfl, h1, h2⟩ := zone_cells h
  exact ⟨⟨a, v, es⟩, rfl, ⟨h1, h2⟩⟩
theorem zones_open {fuel : Nat} {cs : List Value} {x : DataW H × List MemPlace} (h : DataW.trod enc Try.prog w base spare held fuel 23 cs = some x) :
    ∃ (v : Value) (l : List ZoneV), cs = [v] ∧ (HoldsG 2 ZoneV.cells w v l ∧ ∀ a ∈ l, a.Fit w) ∧ (l = [] ∨ ∃ es sp, x.1 = .slice es sp ∧ es.length = l.length) :=
  slice_open (k := 2) (f := ZoneV.cells) (F := ZoneV.Fit w) (fun _ => rfl) (by decide) Try.underlying23 (by kernel_rfl) zoneV_cells h
theorem links_open {fuel : Nat} {cs : List Value} {x : DataW H × List MemPlace} (h : DataW.trod enc Try.prog w base spare held fuel 24 cs = some x) :
    ∃ (v : Value) (l : List LinkV), cs = [v] ∧ (HoldsG 2 LinkV.cells w v l ∧ ∀ a ∈ l, a.Fit) ∧ (l = [] ∨ ∃ es sp, x.1 = .slice es sp ∧ es.length = l.length) :=
  slice_open (k := 2) (f := LinkV.cells) (F := LinkV.Fit) (fun _ => rfl) (by decide) Try.underlying24 (by kernel_rfl) link_cells h
set_option maxRecDepth 100000 in
theorem table_cells {fuel : Nat} {cs : List Value} {x : DataW H × List MemPlace} (h : DataW.trod enc Try.prog w base spare held fuel 26 cs = some x) : ∃ t : TabV, cs = t.cells ∧ HoldsT w t := by
  obtain ⟨xs, n, _, hx1, hlen, hxl, hg⟩ := DataW.trod_struct Try.underlying26 h
  match cs, hlen.trans (show Try.prog.cellsOf 26 = 3 by kernel_rfl) with
  | [v0, v1, v2], _ =>
    have hxl8 : xs.length = 3 := hxl
    have g0 : DataW.trod enc Try.prog w base spare held n 22 (([v0, v1, v2].drop 0).take (Try.prog.cellsOf 22)) = xs[0]? := hg 0 _ rfl
    rw [show Try.prog.cellsOf 22 = 1 by kernel_rfl] at g0
    replace g0 : DataW.trod enc Try.prog w base spare held n 22 [v0] = xs[0]? := g0
    have g1 : DataW.trod enc Try.prog w base spare held n 23 (([v0, v1, v2].drop 1).take (Try.prog.cellsOf 23)) = xs[1]? := hg 1 _ rfl
    rw [show Try.prog.cellsOf 23 = 1 by kernel_rfl] at g1
    replace g1 : DataW.trod enc Try.prog w base spare held n 23 [v1] = xs[1]? := g1
    have g2 : DataW.trod enc Try.prog w base spare held n 24 (([v0, v1, v2].drop 2).take (Try.prog.cellsOf 24)) = xs[2]? := hg 2 _ rfl
    rw [show Try.prog.cellsOf 24 = 1 by kernel_rfl] at g2
    replace g2 : DataW.trod enc Try.prog w base spare held n 24 [v2] = xs[2]? := g2
    obtain ⟨y0, hy0⟩ := at_some (i := 0) hxl8 (by decide)
    rw [hy0] at g0
    obtain ⟨w0, s0, hs0, f0, q0⟩ := rules_open g0
    simp only [List.cons.injEq, and_true] at hs0
    obtain rfl := hs0
    obtain ⟨y1, hy1⟩ := at_some (i := 1) hxl8 (by decide)
    rw [hy1] at g1
    obtain ⟨w1, s1, hs1, f1, q1⟩ := zones_open g1
    simp only [List.cons.injEq, and_true] at hs1
    obtain rfl := hs1
    obtain ⟨y2, hy2⟩ := at_some (i := 2) hxl8 (by decide)
    rw [hy2] at g2
    obtain ⟨w2, s2, hs2, f2, q2⟩ := links_open g2
    simp only [List.cons.injEq, and_true] at hs2
    obtain rfl := hs2
    exact ⟨⟨_, _, _, s0, s1, s2⟩, rfl, ⟨f0, f1.1, f1.2, f2.1, f2.2⟩⟩
end
end Go.Proofs.Ytcfmchpoclkpgaa
