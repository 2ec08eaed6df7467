/-
  An argument that is a rule, opened.
-/
import Derived.Test.YtcfmchpoclkpgaaRule
import Derived.ChangeArms
import Derived.OpenShut
namespace Go.Proofs.Ytcfmchpoclkpgaa
open Go.RowKit Go.ChangeShapes Go.WideShapes
section
variable {H : Type} {enc : TypeId × Value → H} {w : World} {base : Nat} {spare : Nat → Bool} {held : Bool}
theorem open_i {fuel : Nat} {k : IntKind} {t : TypeId} {c : Value} {o : Option (DataW H × List MemPlace)} (ht : Try.prog.underlying t = some (.int k)) (h : DataW.trod enc Try.prog w base spare held fuel t [c] = o) (ho : ∃ y, o = some y) : ∃ n, c = .int k n ∧ (Lit.int k n).wf = true := by
  obtain ⟨y, rfl⟩ := ho
  obtain ⟨n, h1, _, h2⟩ := DataW.trod_int ht h
  simp only [List.cons.injEq, and_true] at h1
  exact ⟨n, h1, h2⟩
theorem open_s {fuel : Nat} {t : TypeId} {c : Value} {o : Option (DataW H × List MemPlace)} (ht : Try.prog.underlying t = some .string) (h : DataW.trod enc Try.prog w base spare held fuel t [c] = o) (ho : ∃ y, o = some y) : ∃ s : ByteArray, c = .string s ∧ s.size ≤ maxLen := by
  obtain ⟨y, rfl⟩ := ho
  obtain ⟨n, h1, _, h2⟩ := DataW.trod_string ht h
  simp only [List.cons.injEq, and_true] at h1
  exact ⟨n, h1, h2⟩
theorem c27 : Try.prog.cellsOf 68 = 11 := by kernel_rfl
theorem c23 : Try.prog.cellsOf 64 = 3 := by kernel_rfl
theorem c25 : Try.prog.cellsOf 66 = 2 := by kernel_rfl
theorem c9 : Try.prog.cellsOf 9 = 1 := by kernel_rfl
theorem c3 : Try.prog.cellsOf 3 = 1 := by kernel_rfl
theorem c2 : Try.prog.cellsOf 2 = 1 := by kernel_rfl
theorem at_some {α : Type} {l : List α} {n i : Nat} (h : l.length = n) (hi : i < n) : ∃ y, l[i]? = some y := ⟨l[i]'(by omega), List.getElem?_eq_getElem (by omega)⟩
set_option maxRecDepth 100000 in
theorem rule_cells {fuel : Nat} {cs : List Value} {x : DataW H × List MemPlace} (h : DataW.trod enc Try.prog w base spare held fuel 68 cs = some x) : ∃ r : RuleV, cs = r.cells ∧ r.Fit := by
  obtain ⟨xs, n, _, _, hlen, hxl, hg⟩ := DataW.trod_struct Try.underlying68 h
  match cs, hlen.trans c27 with
  | [v0, v1, v2, v3, v4, v5, v6, v7, v8, v9, v10], _ =>
    have hxl8 : xs.length = 8 := hxl
    have g0 : DataW.trod enc Try.prog w base spare held n 9 (([v0, v1, v2, v3, v4, v5, v6, v7, v8, v9, v10].drop 0).take (Try.prog.cellsOf 9)) = xs[0]? := hg 0 _ rfl
    rw [c9] at g0
    replace g0 : DataW.trod enc Try.prog w base spare held n 9 [v0] = xs[0]? := g0
    have g1 : DataW.trod enc Try.prog w base spare held n 3 (([v0, v1, v2, v3, v4, v5, v6, v7, v8, v9, v10].drop 1).take (Try.prog.cellsOf 3)) = xs[1]? := hg 1 _ rfl
    rw [c3] at g1
    replace g1 : DataW.trod enc Try.prog w base spare held n 3 [v1] = xs[1]? := g1
    have g2 : DataW.trod enc Try.prog w base spare held n 3 (([v0, v1, v2, v3, v4, v5, v6, v7, v8, v9, v10].drop 2).take (Try.prog.cellsOf 3)) = xs[2]? := hg 2 _ rfl
    rw [c3] at g2
    replace g2 : DataW.trod enc Try.prog w base spare held n 3 [v2] = xs[2]? := g2
    have g3 : DataW.trod enc Try.prog w base spare held n 3 (([v0, v1, v2, v3, v4, v5, v6, v7, v8, v9, v10].drop 3).take (Try.prog.cellsOf 3)) = xs[3]? := hg 3 _ rfl
    rw [c3] at g3
    replace g3 : DataW.trod enc Try.prog w base spare held n 3 [v3] = xs[3]? := g3
    have g4 : DataW.trod enc Try.prog w base spare held n 64 (([v0, v1, v2, v3, v4, v5, v6, v7, v8, v9, v10].drop 4).take (Try.prog.cellsOf 64)) = xs[4]? := hg 4 _ rfl
    rw [c23] at g4
    replace g4 : DataW.trod enc Try.prog w base spare held n 64 [v4, v5, v6] = xs[4]? := g4
    have g5 : DataW.trod enc Try.prog w base spare held n 66 (([v0, v1, v2, v3, v4, v5, v6, v7, v8, v9, v10].drop 7).take (Try.prog.cellsOf 66)) = xs[5]? := hg 5 _ rfl
    rw [c25] at g5
    replace g5 : DataW.trod enc Try.prog w base spare held n 66 [v7, v8] = xs[5]? := g5
    have g6 : DataW.trod enc Try.prog w base spare held n 2 (([v0, v1, v2, v3, v4, v5, v6, v7, v8, v9, v10].drop 9).take (Try.prog.cellsOf 2)) = xs[6]? := hg 6 _ rfl
    rw [c2] at g6
    replace g6 : DataW.trod enc Try.prog w base spare held n 2 [v9] = xs[6]? := g6
    have g7 : DataW.trod enc Try.prog w base spare held n 9 (([v0, v1, v2, v3, v4, v5, v6, v7, v8, v9, v10].drop 10).take (Try.prog.cellsOf 9)) = xs[7]? := hg 7 _ rfl
    rw [c9] at g7
    replace g7 : DataW.trod enc Try.prog w base spare held n 9 [v10] = xs[7]? := g7
    obtain ⟨s0, rfl, z0⟩ := open_s Try.underlying9 g0 (at_some hxl8 (by decide))
    obtain ⟨n1, rfl, z1⟩ := open_i Try.underlying3 g1 (at_some hxl8 (by decide))
    obtain ⟨n2, rfl, z2⟩ := open_i Try.underlying3 g2 (at_some hxl8 (by decide))
    obtain ⟨n3, rfl, z3⟩ := open_i Try.underlying3 g3 (at_some hxl8 (by decide))
    obtain ⟨n9, rfl, z9⟩ := open_i Try.underlying2 g6 (at_some hxl8 (by decide))
    obtain ⟨s10, rfl, z10⟩ := open_s Try.underlying9 g7 (at_some hxl8 (by decide))
    obtain ⟨y4, hy4⟩ := at_some (i := 4) hxl8 (by decide)
    obtain ⟨y5, hy5⟩ := at_some (i := 5) hxl8 (by decide)
    rw [hy4] at g4
    rw [hy5] at g5
    obtain ⟨xs4, n4', _, _, _, hl4, hg4⟩ := DataW.trod_struct Try.underlying64 g4
    obtain ⟨xs5, n5', _, _, _, hl5, hg5⟩ := DataW.trod_struct Try.underlying66 g5
    have hl43 : xs4.length = 3 := hl4
    have hl52 : xs5.length = 2 := hl5
    have k0 : DataW.trod enc Try.prog w base spare held n4' 3 (([v4, v5, v6].drop 0).take (Try.prog.cellsOf 3)) = xs4[0]? := hg4 0 _ rfl
    rw [c3] at k0
    replace k0 : DataW.trod enc Try.prog w base spare held n4' 3 [v4] = xs4[0]? := k0
    have k1 : DataW.trod enc Try.prog w base spare held n4' 3 (([v4, v5, v6].drop 1).take (Try.prog.cellsOf 3)) = xs4[1]? := hg4 1 _ rfl
    rw [c3] at k1
    replace k1 : DataW.trod enc Try.prog w base spare held n4' 3 [v5] = xs4[1]? := k1
    have k2 : DataW.trod enc Try.prog w base spare held n4' 3 (([v4, v5, v6].drop 2).take (Try.prog.cellsOf 3)) = xs4[2]? := hg4 2 _ rfl
    rw [c3] at k2
    replace k2 : DataW.trod enc Try.prog w base spare held n4' 3 [v6] = xs4[2]? := k2
    have k3 : DataW.trod enc Try.prog w base spare held n5' 2 (([v7, v8].drop 0).take (Try.prog.cellsOf 2)) = xs5[0]? := hg5 0 _ rfl
    rw [c2] at k3
    replace k3 : DataW.trod enc Try.prog w base spare held n5' 2 [v7] = xs5[0]? := k3
    have k4 : DataW.trod enc Try.prog w base spare held n5' 3 (([v7, v8].drop 1).take (Try.prog.cellsOf 3)) = xs5[1]? := hg5 1 _ rfl
    rw [c3] at k4
    replace k4 : DataW.trod enc Try.prog w base spare held n5' 3 [v8] = xs5[1]? := k4
    obtain ⟨n4, rfl, z4⟩ := open_i Try.underlying3 k0 (at_some hl43 (by decide))
    obtain ⟨n5, rfl, z5⟩ := open_i Try.underlying3 k1 (at_some hl43 (by decide))
    obtain ⟨n6, rfl, z6⟩ := open_i Try.underlying3 k2 (at_some hl43 (by decide))
    obtain ⟨n7, rfl, z7⟩ := open_i Try.underlying2 k3 (at_some hl52 (by decide))
    obtain ⟨n8, rfl, z8⟩ := open_i Try.underlying3 k4 (at_some hl52 (by decide))
    have wf : ∀ n : Int, (Lit.int .i64 n).wf = true → I64 n := by
      intro n hn
      have h1 : (decide (IntKind.i64.min ≤ n) && decide (n ≤ IntKind.i64.max)) = true := hn
      rw [show IntKind.i64.min = -9223372036854775808 from rfl, show IntKind.i64.max = 9223372036854775807 from rfl] at h1
      simp only [Bool.and_eq_true, decide_eq_true_eq] at h1
      exact h1
    exact ⟨⟨s0, n1, n2, n3, n4, n5, n6, n7, n8, n9, s10⟩, rfl, ⟨z0, z10, wf _ z1, wf _ z2, wf _ z7, wf _ z9⟩⟩
end
end Go.Proofs.Ytcfmchpoclkpgaa
