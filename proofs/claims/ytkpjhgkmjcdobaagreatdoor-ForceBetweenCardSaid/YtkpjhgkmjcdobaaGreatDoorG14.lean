import Derived.Test.YtkpjhgkmjcdobaaGreatDoorG7
import Derived.ChangeArms
import Derived.OpenShut
import Derived.Test.YtkpjhgkmjcdobaaGreatDoorG1
import Derived.Test.YtkpjhgkmjcdobaaGreatDoorG11
import Derived.Deep.Slices
import Derived.SizedLaws
import Derived.Test.YtkpjhgkmjcdobaaGreatDoorG9
/-
  An argument that is a rule, opened.
-/
namespace Go.Proofs.YtkpjhgkmjcdobaaGreatDoor
open Go.RowKit Go.ChangeShapes Go.WideShapes
section
variable {H : Type} {enc : TypeId × Value → H} {w : World} {base : Nat} {spare : Nat → Bool} {held : Bool}
theorem open_i {fuel : Nat} {k : IntKind} {t : TypeId} {c : Value} {o : Option (DataW H × List MemPlace)} (ht : Tryz.prog.underlying t = some (.int k)) (h : DataW.trod enc Tryz.prog w base spare held fuel t [c] = o) (ho : ∃ y, o = some y) : ∃ n, c = .int k n ∧ (Lit.int k n).wf = true := by
  obtain ⟨y, rfl⟩ := ho
  obtain ⟨n, h1, _, h2⟩ := DataW.trod_int ht h
  simp only [List.cons.injEq, and_true] at h1
  exact ⟨n, h1, h2⟩
theorem open_s {fuel : Nat} {t : TypeId} {c : Value} {o : Option (DataW H × List MemPlace)} (ht : Tryz.prog.underlying t = some .string) (h : DataW.trod enc Tryz.prog w base spare held fuel t [c] = o) (ho : ∃ y, o = some y) : ∃ s : ByteArray, c = .string s ∧ s.size ≤ maxLen := by
  obtain ⟨y, rfl⟩ := ho
  obtain ⟨n, h1, _, h2⟩ := DataW.trod_string ht h
  simp only [List.cons.injEq, and_true] at h1
  exact ⟨n, h1, h2⟩
theorem c27 : Tryz.prog.cellsOf 75 = 11 := by kernel_rfl
theorem c23 : Tryz.prog.cellsOf 24 = 3 := by kernel_rfl
theorem c25 : Tryz.prog.cellsOf 26 = 2 := by kernel_rfl
theorem c9 : Tryz.prog.cellsOf 9 = 1 := by kernel_rfl
theorem c3 : Tryz.prog.cellsOf 3 = 1 := by kernel_rfl
theorem c2 : Tryz.prog.cellsOf 2 = 1 := by kernel_rfl
theorem at_some {α : Type} {l : List α} {n i : Nat} (h : l.length = n) (hi : i < n) : ∃ y, l[i]? = some y := ⟨l[i]'(by omega), List.getElem?_eq_getElem (by omega)⟩
set_option maxRecDepth 100000 in
theorem rule_cells {fuel : Nat} {cs : List Value} {x : DataW H × List MemPlace} (h : DataW.trod enc Tryz.prog w base spare held fuel 75 cs = some x) : ∃ r : RuleV, cs = r.cells ∧ r.Fit := by
  obtain ⟨xs, n, _, _, hlen, hxl, hg⟩ := DataW.trod_struct Tryz.underlying75 h
  match cs, hlen.trans c27 with
  | [v0, v1, v2, v3, v4, v5, v6, v7, v8, v9, v10], _ =>
    have hxl8 : xs.length = 8 := hxl
    have g0 : DataW.trod enc Tryz.prog w base spare held n 9 (([v0, v1, v2, v3, v4, v5, v6, v7, v8, v9, v10].drop 0).take (Tryz.prog.cellsOf 9)) = xs[0]? := hg 0 _ rfl
    rw [c9] at g0
    replace g0 : DataW.trod enc Tryz.prog w base spare held n 9 [v0] = xs[0]? := g0
    have g1 : DataW.trod enc Tryz.prog w base spare held n 3 (([v0, v1, v2, v3, v4, v5, v6, v7, v8, v9, v10].drop 1).take (Tryz.prog.cellsOf 3)) = xs[1]? := hg 1 _ rfl
    rw [c3] at g1
    replace g1 : DataW.trod enc Tryz.prog w base spare held n 3 [v1] = xs[1]? := g1
    have g2 : DataW.trod enc Tryz.prog w base spare held n 3 (([v0, v1, v2, v3, v4, v5, v6, v7, v8, v9, v10].drop 2).take (Tryz.prog.cellsOf 3)) = xs[2]? := hg 2 _ rfl
    rw [c3] at g2
    replace g2 : DataW.trod enc Tryz.prog w base spare held n 3 [v2] = xs[2]? := g2
    have g3 : DataW.trod enc Tryz.prog w base spare held n 3 (([v0, v1, v2, v3, v4, v5, v6, v7, v8, v9, v10].drop 3).take (Tryz.prog.cellsOf 3)) = xs[3]? := hg 3 _ rfl
    rw [c3] at g3
    replace g3 : DataW.trod enc Tryz.prog w base spare held n 3 [v3] = xs[3]? := g3
    have g4 : DataW.trod enc Tryz.prog w base spare held n 24 (([v0, v1, v2, v3, v4, v5, v6, v7, v8, v9, v10].drop 4).take (Tryz.prog.cellsOf 24)) = xs[4]? := hg 4 _ rfl
    rw [c23] at g4
    replace g4 : DataW.trod enc Tryz.prog w base spare held n 24 [v4, v5, v6] = xs[4]? := g4
    have g5 : DataW.trod enc Tryz.prog w base spare held n 26 (([v0, v1, v2, v3, v4, v5, v6, v7, v8, v9, v10].drop 7).take (Tryz.prog.cellsOf 26)) = xs[5]? := hg 5 _ rfl
    rw [c25] at g5
    replace g5 : DataW.trod enc Tryz.prog w base spare held n 26 [v7, v8] = xs[5]? := g5
    have g6 : DataW.trod enc Tryz.prog w base spare held n 2 (([v0, v1, v2, v3, v4, v5, v6, v7, v8, v9, v10].drop 9).take (Tryz.prog.cellsOf 2)) = xs[6]? := hg 6 _ rfl
    rw [c2] at g6
    replace g6 : DataW.trod enc Tryz.prog w base spare held n 2 [v9] = xs[6]? := g6
    have g7 : DataW.trod enc Tryz.prog w base spare held n 9 (([v0, v1, v2, v3, v4, v5, v6, v7, v8, v9, v10].drop 10).take (Tryz.prog.cellsOf 9)) = xs[7]? := hg 7 _ rfl
    rw [c9] at g7
    replace g7 : DataW.trod enc Tryz.prog w base spare held n 9 [v10] = xs[7]? := g7
    obtain ⟨s0, rfl, z0⟩ := open_s Tryz.underlying9 g0 (at_some hxl8 (by decide))
    obtain ⟨n1, rfl, z1⟩ := open_i Tryz.underlying3 g1 (at_some hxl8 (by decide))
    obtain ⟨n2, rfl, z2⟩ := open_i Tryz.underlying3 g2 (at_some hxl8 (by decide))
    obtain ⟨n3, rfl, z3⟩ := open_i Tryz.underlying3 g3 (at_some hxl8 (by decide))
    obtain ⟨n9, rfl, z9⟩ := open_i Tryz.underlying2 g6 (at_some hxl8 (by decide))
    obtain ⟨s10, rfl, z10⟩ := open_s Tryz.underlying9 g7 (at_some hxl8 (by decide))
    obtain ⟨y4, hy4⟩ := at_some (i := 4) hxl8 (by decide)
    obtain ⟨y5, hy5⟩ := at_some (i := 5) hxl8 (by decide)
    rw [hy4] at g4
    rw [hy5] at g5
    obtain ⟨xs4, n4', _, _, _, hl4, hg4⟩ := DataW.trod_struct Tryz.underlying24 g4
    obtain ⟨xs5, n5', _, _, _, hl5, hg5⟩ := DataW.trod_struct Tryz.underlying26 g5
    have hl43 : xs4.length = 3 := hl4
    have hl52 : xs5.length = 2 := hl5
    have k0 : DataW.trod enc Tryz.prog w base spare held n4' 3 (([v4, v5, v6].drop 0).take (Tryz.prog.cellsOf 3)) = xs4[0]? := hg4 0 _ rfl
    rw [c3] at k0
    replace k0 : DataW.trod enc Tryz.prog w base spare held n4' 3 [v4] = xs4[0]? := k0
    have k1 : DataW.trod enc Tryz.prog w base spare held n4' 3 (([v4, v5, v6].drop 1).take (Tryz.prog.cellsOf 3)) = xs4[1]? := hg4 1 _ rfl
    rw [c3] at k1
    replace k1 : DataW.trod enc Tryz.prog w base spare held n4' 3 [v5] = xs4[1]? := k1
    have k2 : DataW.trod enc Tryz.prog w base spare held n4' 3 (([v4, v5, v6].drop 2).take (Tryz.prog.cellsOf 3)) = xs4[2]? := hg4 2 _ rfl
    rw [c3] at k2
    replace k2 : DataW.trod enc Tryz.prog w base spare held n4' 3 [v6] = xs4[2]? := k2
    have k3 : DataW.trod enc Tryz.prog w base spare held n5' 2 (([v7, v8].drop 0).take (Tryz.prog.cellsOf 2)) = xs5[0]? := hg5 0 _ rfl
    rw [c2] at k3
    replace k3 : DataW.trod enc Tryz.prog w base spare held n5' 2 [v7] = xs5[0]? := k3
    have k4 : DataW.trod enc Tryz.prog w base spare held n5' 3 (([v7, v8].drop 1).take (Tryz.prog.cellsOf 3)) = xs5[1]? := hg5 1 _ rfl
    rw [c3] at k4
    replace k4 : DataW.trod enc Tryz.prog w base spare held n5' 3 [v8] = xs5[1]? := k4
    obtain ⟨n4, rfl, z4⟩ := open_i Tryz.underlying3 k0 (at_some hl43 (by decide))
    obtain ⟨n5, rfl, z5⟩ := open_i Tryz.underlying3 k1 (at_some hl43 (by decide))
    obtain ⟨n6, rfl, z6⟩ := open_i Tryz.underlying3 k2 (at_some hl43 (by decide))
    obtain ⟨n7, rfl, z7⟩ := open_i Tryz.underlying2 k3 (at_some hl52 (by decide))
    obtain ⟨n8, rfl, z8⟩ := open_i Tryz.underlying3 k4 (at_some hl52 (by decide))
    have wf : ∀ n : Int, (Lit.int .i64 n).wf = true → I64 n := by
      intro n hn
      have h1 : (decide (IntKind.i64.min ≤ n) && decide (n ≤ IntKind.i64.max)) = true := hn
      rw [show IntKind.i64.min = -9223372036854775808 from rfl, show IntKind.i64.max = 9223372036854775807 from rfl] at h1
      simp only [Bool.and_eq_true, decide_eq_true_eq] at h1
      exact h1
    exact ⟨⟨s0, n1, n2, n3, n4, n5, n6, n7, n8, n9, s10⟩, rfl, ⟨z0, z10, wf _ z1, wf _ z2, wf _ z7, wf _ z9⟩⟩
end
end Go.Proofs.YtkpjhgkmjcdobaaGreatDoor
/-
  A slice of rules, whole: nil, empty, or in a block.
-/
namespace Go.Proofs.YtkpjhgkmjcdobaaGreatDoor
open Go.RowKit NB
/-- A slice value that holds such rules. -/
structure Holds (w : World) (v : Value) (l : List RuleV) : Prop where
  lies : (∃ p cap, v = .slice p 0 cap ∧ l = []) ∨ (∃ b off cap, v = .slice (some ⟨b, off, none⟩) l.length cap ∧ b < w.heap.size ∧ Lies w b off 11 (l.map RuleV.cells))
  fit : ∀ r ∈ l, r.Fit
  len : l.length ≤ 9223372036854775807
theorem Holds.later {w w' : World} {v : Value} {l : List RuleV} (h : Holds w v l) (hb : Below w.heap.size w w') : Holds w' v l := by
  refine ⟨?_, h.fit, h.len⟩
  rcases h.lies with h1 | ⟨b, off, cap, h1, h2, h3⟩
  · exact .inl h1
  · refine .inr ⟨b, off, cap, h1, Nat.lt_of_lt_of_le h2 hb.size, fun i j cs v hi hj => ?_⟩
    rw [hb.cell (p := ⟨b, off + i * 11 + j, none⟩) h2]
    exact h3 i j cs v hi hj
theorem Holds.form {w : World} {v : Value} {l : List RuleV} (h : Holds w v l) : ∃ p cap, v = .slice p l.length cap := by
  rcases h.lies with ⟨p, cap, h1, h2⟩ | ⟨b, off, cap, h1, _, _⟩
  · exact ⟨p, cap, by rw [h1, h2]; rfl⟩
  · exact ⟨_, cap, h1⟩
namespace Lgt
theorem LightE (p : Option Addr) (cap : Nat) (w : World) : Calls Tryz.prog 9 #[.slice p 0 cap] w (Post true w) := by
  go_enter Tryz.func9, Tryz.ntmps9
  go_wp2
  go_loopw [10] (fun i wr => i = .int .i64 0 ∧ Below w.heap.size w wr) (fun i _ => 0)
  case atStart => exact ⟨rfl, Below.refl _ _⟩
  case round =>
    obtain ⟨rfl, hbel⟩ := hrel
    go_wp2
    go_ret
    exact ⟨rfl, hbel⟩
theorem LightH {w : World} {v : Value} {l : List RuleV} (h : Holds w v l) : Calls Tryz.prog 9 #[v] w fun e w' => e = .returned (.bool (light l)) ∧ Below w.heap.size w w' := by
  rcases h.lies with ⟨p, cap, rfl, rfl⟩ | ⟨b, off, cap, rfl, h2, h3⟩
  · exact LightE p cap w
  · exact Light b off cap l w h3 h2 h.len h.fit
theorem light_len {l : List RuleV} (h : light l = true) : l.length ≤ 12 := by
  unfold light at h
  simp only [Bool.and_eq_true, decide_eq_true_eq] at h
  exact h.1
end Lgt
section
variable {H : Type} {enc : TypeId × Value → H} {w : World} {base : Nat} {spare : Nat → Bool} {held : Bool}
theorem addr_add (b off n : Nat) : (⟨b, off, none⟩ : Addr).add n = ⟨b, off + n, none⟩ := by unfold Addr.add; split <;> simp_all
theorem info_cells {a : Addr} {n : Nat} {cs : List Value} (h : w.cells? base a n = some cs) (hn : 0 < n) : a.spot = none ∧ a.block < w.heap.size := by
  obtain ⟨_, hlen, hcell⟩ := World.cells?_some h
  obtain ⟨v, hv⟩ : ∃ v, cs[0]? = some v := ⟨cs[0]'(by omega), List.getElem?_eq_getElem (by omega)⟩
  have h0 := hcell 0 hn
  have h1 : w.cell? a ≠ none := by
    intro hc
    have : (a.add 0) = a := by unfold Addr.add; simp
    rw [this, hc] at h0
    rw [← h0] at hv
    cases hv
  unfold World.cell? at h1
  cases hh : w.heap[a.block]? with
  | none => rw [hh] at h1; exact absurd rfl h1
  | some o =>
    refine ⟨?_, (Array.getElem?_eq_some_iff.1 hh).1⟩
    rw [hh] at h1
    cases o with
    | cells c t f =>
      simp only at h1
      cases hs : a.spot with
      | none => rfl
      | some x => rw [hs] at h1; simp at h1
    | _ => exact absurd rfl h1
theorem rules_open {fuel : Nat} {cs : List Value} {x : DataW H × List MemPlace} (h : DataW.trod enc Tryz.prog w base spare held fuel 22 cs = some x) : ∃ (v : Value) (l : List RuleV), cs = [v] ∧ Holds w v l ∧ (l = [] ∨ ∃ es sp, x.1 = .slice es sp ∧ es.length = l.length) := by
  rcases Deep.open_slice Tryz.underlying22 h with ⟨rfl, _⟩ | ⟨a, len, cap, m, n, D, Pl, rfl, hb, hl, hm, hmm, hxx, hx⟩
  · exact ⟨_, [], rfl, ⟨.inl ⟨_, _, rfl, rfl⟩, by simp, by simp⟩, .inl rfl⟩
  · have hlm : len ≤ m := by rw [hmm]; split <;> omega
    have each : ∀ i, i < m → ∃ r : RuleV, w.cells? base (a.add (i * 11)) 11 = some r.cells ∧ r.Fit := by
      intro i hi
      obtain ⟨cs', h1, h2⟩ := hx i hi
      obtain ⟨r, rfl, hf⟩ := rule_cells h2
      rw [c27] at h1
      exact ⟨r, h1, hf⟩
    by_cases h0 : len = 0
    · subst h0
      exact ⟨_, [], rfl, ⟨.inl ⟨_, _, rfl, rfl⟩, by simp, by simp⟩, .inl rfl⟩
    · obtain ⟨q, hq⟩ : ∃ q : Nat → RuleV, ∀ i, i < m → w.cells? base (a.add (i * 11)) 11 = some (q i).cells ∧ (q i).Fit :=
        ⟨fun i => if hi : i < m then (each i hi).choose else ⟨⟨#[]⟩, 0, 0, 0, 0, 0, 0, 0, 0, 0, ⟨#[]⟩⟩, fun i hi => by simp only [dif_pos hi]; exact (each i hi).choose_spec⟩
      obtain ⟨ha, hab⟩ := info_cells (hq 0 (by omega)).1 (by decide)
      have ha' : a = ⟨a.block, a.off, none⟩ := by
        have : (a.add (0 * 11)).spot = a.spot := by simp [Addr.add]
        rw [this] at ha
        cases a
        simp only at ha
        rw [ha]
      have hab' : a.block < w.heap.size := by
        have : (a.add (0 * 11)).block = a.block := by simp [Addr.add]
        rwa [this] at hab
      refine ⟨_, (List.range len).map q, rfl, ⟨.inr ⟨a.block, a.off, cap, by rw [← ha']; simp, hab', ?_⟩, ?_, by simp; unfold maxLen at hm; omega⟩, .inr ⟨_, _, by rw [hxx], by simp⟩⟩
      · intro i j c v hi hj
        rw [List.map_map, List.getElem?_map] at hi
        cases hr : (List.range len)[i]? with
        | none => rw [hr] at hi; cases hi
        | some k =>
          rw [hr] at hi
          cases hi
          obtain ⟨hk, rfl⟩ := List.getElem?_eq_some_iff.1 hr
          rw [List.length_range] at hk
          simp only [List.getElem_range] at hj ⊢
          obtain ⟨_, hlen, hcell⟩ := World.cells?_some (hq i (by omega)).1
          have hj11 : j < 11 := by
            have := (List.getElem?_eq_some_iff.1 hj).1
            exact this
          have := hcell j hj11
          rw [Deep.add_add] at this
          have he : a.add (i * 11 + j) = ⟨a.block, a.off + i * 11 + j, none⟩ := by
            rw [Nat.add_assoc]
            conv => lhs; rw [ha']
            exact addr_add _ _ _
          rw [he] at this
          rw [this]
          exact hj
      · intro r hr
        rw [List.mem_map] at hr
        obtain ⟨i, hi, rfl⟩ := hr
        exact (hq i (by rw [List.mem_range] at hi; omega)).2
theorem bytes_rule : Tryz.prog.bytesOf 75 = 104 := by kernel_rfl
theorem rules_sized {ts : List TypeId} {ds : List (DataW H)} {l : List RuleV} {d : DataW H} {j : Nat} (hz : l = [] ∨ ∃ es sp, d = .slice es sp ∧ es.length = l.length) (hr : (DataW.weightsEach Tryz.prog ts ds).all (· ≤ reachBytes) = true) (ht : ts[j]? = some 22) (hd : ds[j]? = some d) : l.length * 104 ≤ 140737488355328 := by
  rcases hz with rfl | ⟨es, sp, rfl, he⟩
  · simp
  · have := sized_slice hr ht hd Tryz.underlying22
    rw [bytes_rule, he] at this
    have h2 : reachBytes = 140737488351232 := rfl
    rw [h2] at this
    omega
end
end Go.Proofs.YtkpjhgkmjcdobaaGreatDoor
/-
  occur.next and occur.prev, and the function values that they ask: what they give, as the program runs them.
-/
namespace Go.Proofs.YtkpjhgkmjcdobaaGreatDoor
open Go.RowKit NB
namespace Nxt
/-- a struct of three numbers lies in a block -/
def At3 (w : World) (b : Nat) (o : OccV) : Prop := ∀ j, w.cell? ⟨b, j, none⟩ = (o.cells.toArray)[j]?
theorem next1 (o fr : OccV) (b : Nat) (w : World) (hb : b < w.heap.size) (hc : At3 w b fr) :
    Calls Tryz.prog 107 #[.agg o.cells.toArray, .pointer (some ⟨b, 0, none⟩)] w fun e w' => e = .returned (.bool (Occ.less fr o)) ∧ Below w.heap.size w w' := by
  have cl := fun W => Cmp.Less fr o W
  unfold At3 at hc
  unfold OccV.cells at *
  have Cl := Lib.hid cl
  clear cl
  go_enter Tryz.func107, Tryz.ntmps107
  go_wp2_with (go_at_call 108; (with_reducible refine (Cl.out _).mono ?_); rintro e w1 ⟨rfl, hb1⟩; obtain ⟨hc1, hf1⟩ := bcell hb1)
  go_ret
  exact ⟨rfl, by repeat (first | (with_reducible exact Below.refl _ _) | (with_reducible assumption) | (with_reducible refine ba ?_) | (with_reducible refine bd ?_) | (with_reducible refine bdn ?_ _) | (with_reducible refine bset ?_ (by first | exact Nat.le_refl _ | omega | (simp; done) | (simp; omega))) | (with_reducible refine bt ?_ (by with_reducible assumption)))⟩
theorem prev1 (o fr : OccV) (b : Nat) (w : World) (hb : b < w.heap.size) (hc : At3 w b fr) :
    Calls Tryz.prog 114 #[.agg o.cells.toArray, .pointer (some ⟨b, 0, none⟩)] w fun e w' => e = .returned (.bool (Occ.more fr o)) ∧ Below w.heap.size w w' := by
  have cl := fun W => Cmp.Less o fr W
  unfold Occ.more
  unfold At3 at hc
  unfold OccV.cells at *
  have Cl := Lib.hid cl
  clear cl
  go_enter Tryz.func114, Tryz.ntmps114
  go_wp2_with (go_at_call 108; (with_reducible refine (Cl.out _).mono ?_); rintro e w1 ⟨rfl, hb1⟩; obtain ⟨hc1, hf1⟩ := bcell hb1)
  go_ret
  exact ⟨rfl, by repeat (first | (with_reducible exact Below.refl _ _) | (with_reducible assumption) | (with_reducible refine ba ?_) | (with_reducible refine bd ?_) | (with_reducible refine bdn ?_ _) | (with_reducible refine bset ?_ (by first | exact Nat.le_refl _ | omega | (simp; done) | (simp; omega))) | (with_reducible refine bt ?_ (by with_reducible assumption)))⟩
def optV : Option OccV → Value
  | none => .tuple #[.agg #[.int .i64 0, .int .i64 0, .int .i64 0], .bool false]
  | some o => .tuple #[.agg o.cells.toArray, .bool true]
theorem scanY_none (lt : OccV → OccV → Bool) (fr : OccV) (r : RuleV) (i d y : Int) : Occ.scanY lt fr r i d y 0 = none := rfl
theorem scanY_hit {lt : OccV → OccV → Bool} {fr : OccV} {r : RuleV} {i d y : Int} {n : Nat} (hn : 0 < n) (h : lt fr (Occ.occ r i y) = true) : Occ.scanY lt fr r i d y n = some (Occ.occ r i y) := by
  obtain ⟨m, rfl⟩ : ∃ m, n = m + 1 := ⟨n - 1, by omega⟩
  unfold Occ.scanY
  rw [if_pos h]
theorem scanY_miss {lt : OccV → OccV → Bool} {fr : OccV} {r : RuleV} {i d y : Int} {n : Nat} (hn : 0 < n) (h : lt fr (Occ.occ r i y) = false) : Occ.scanY lt fr r i d y n = Occ.scanY lt fr r i d (y + d) (n - 1) := by
  obtain ⟨m, rfl⟩ : ∃ m, n = m + 1 := ⟨n - 1, by omega⟩
  conv => lhs; unfold Occ.scanY
  rw [if_neg (by rw [h]; decide)]
  rfl
def Left (lt : OccV → OccV → Bool) (fr : OccV) (r : RuleV) (i d s : Int) (n : Nat) (y : Int) (m : Nat) : Prop := Occ.scanY lt fr r i d s n = Occ.scanY lt fr r i d y m
set_option maxHeartbeats 3200000 in
theorem next (r : RuleV) (hr : Rul.right r = true) (i Y : Int) (hY0 : -70000 ≤ Y) (hY1 : Y ≤ 70000) (fr : OccV) (b : Nat) (w : World) (hb : b < w.heap.size) (hc : At3 w b fr) :
    Calls Tryz.prog 106 #[.agg r.cells.toArray, .int .i64 i, .int .i64 Y, .func (.func 107) #[] #[.pointer (some ⟨b, 0, none⟩)]] w fun e w' =>
      e = .returned (optV (Occ.scanY Occ.less fr r i 1 (max r.fr (Y - 2)) (r.to - max r.fr (Y - 2) + 1).toNat)) ∧ Below w.heap.size w w' := by
  have hy := (Rul.right_spec hr).1
  have cn := fun y h1 h2 W => Nom.nom r hr y h1 h2 W
  have cf : ∀ (y : Int) (W : World), b < W.heap.size → At3 W b fr → Calls Tryz.prog 107 #[.agg #[.int .i64 i, .int .i64 y, .int .i64 (Occ.nomR r y)], .pointer (some ⟨b, 0, none⟩)] W (fun e w' => e = .returned (.bool (Occ.less fr (Occ.occ r i y))) ∧ Below W.heap.size W w') := fun y W h1 h2 => next1 (Occ.occ r i y) fr b W h1 h2
  have Hc : Hid (∀ X, Below w.heap.size w X → b < X.heap.size ∧ At3 X b fr) := fun X hX => ⟨Nat.lt_of_lt_of_le hb hX.size, fun j => (hX.cell (p := ⟨b, j, none⟩) hb).trans (hc j)⟩
  clear hc
  obtain ⟨s, hs⟩ : ∃ s, s = max r.fr (Y - 2) := ⟨_, rfl⟩
  rw [← hs]
  have hs0 : r.fr ≤ s ∧ s ≤ 70000 := by omega
  obtain ⟨n, hn⟩ : ∃ n, n = (r.to - s + 1).toNat := ⟨_, rfl⟩
  rw [← hn]
  have Hs := Lib.hid hs
  have Hn := Lib.hid hn
  have Cn := Lib.hid cn
  have Cf := Lib.hid cf
  clear hs hn cn cf
  unfold RuleV.cells at *
  go_enter Tryz.func106, Tryz.ntmps106
  go_wp2
  rw [← Hs.out]
  obtain ⟨V, hV⟩ : ∃ V, V = (w.alloc (.cells #[.string r.name, .int .i64 r.fr, .int .i64 r.to, .int .i64 r.month, .int .i64 r.kind, .int .i64 r.week, .int .i64 r.day, .int .i64 r.sec, .int .i64 r.base, .int .i64 r.save, .string r.letter] 75)).alloc (.cells #[.int .i64 0, .int .i64 0, .int .i64 0] 53) := ⟨_, rfl⟩
  rw [← hV]
  obtain ⟨⟨v0, v1⟩, hB, hF⟩ := box2 hV
  have HG := Lib.hid (box2f hV)
  clear hV
  have HF := Lib.hid hF
  clear hF
  go_loopw [10] (fun y wr => ∃ yy : Int, y = .int .i64 yy ∧ (s ≤ yy ∧ yy ≤ 80000) ∧ Left Occ.less fr r i (1) s n yy (r.to - yy + 1).toNat ∧ Below V.heap.size V wr) (fun y _ => match y with | .int _ yy => (r.to - yy + 1).toNat | _ => 0)
  case atStart => exact ⟨s, rfl, by omega, by unfold Left; rw [Hn.out], Below.refl _ _⟩
  case round =>
    obtain ⟨yy, rfl, hyy, hleft, hbel⟩ := hrel
    have Hleft := Lib.hid hleft
    clear hleft
    obtain ⟨f1, f2, f3⟩ := HF.out wr hbel
    have f4 := (HG.out wr hbel).2
    have u0 : w.heap.size < wr.heap.size := by omega
    have u1 : w.heap.size + 1 < wr.heap.size := by omega
    by_cases hlt : yy ≤ r.to
    · cases hL : Occ.less fr (Occ.occ r i yy)
      · have HL := Lib.hid hL
        clear hL
        go_wp2_with (first
          | (go_at_call 137; (with_reducible refine (Cn.out _ (by omega) (by omega) _).mono ?_); rintro e w1 ⟨rfl, hb1⟩; obtain ⟨hc1, hf1⟩ := bcell hb1; have hc1_0 := fun o => hc1 (w.heap.size) o (by first | assumption | omega | (simp; done) | (simp; omega)); have hf1_0 := fun o => hf1 (w.heap.size) o (by first | assumption | omega | (simp; done) | (simp; omega)); have hc1_1 := fun o => hc1 (w.heap.size + 1) o (by first | assumption | omega | (simp; done) | (simp; omega)); have hf1_1 := fun o => hf1 (w.heap.size + 1) o (by first | assumption | omega | (simp; done) | (simp; omega)); clear hc1 hf1; have hz1_0 : w.heap.size < w1.heap.size := (by first | exact sz1 hb1 | exact sz2 hb1 | exact sz3 hb1 | (have := hb1.size; (try simp only [World.size_alloc, World.size_drew] at this); omega)); have hz1_1 : w.heap.size + 1 < w1.heap.size := (by first | exact sz1 hb1 | exact sz2 hb1 | exact sz3 hb1 | (have := hb1.size; (try simp only [World.size_alloc, World.size_drew] at this); omega)))
          | (go_at_call 107; (with_reducible refine (Cf.out _ _ (Hc.out _ (by repeat (first | (with_reducible exact Below.refl _ _) | (with_reducible assumption) | (with_reducible refine ba ?_) | (with_reducible refine bd ?_) | (with_reducible refine bdn ?_ _) | (with_reducible refine bset ?_ (by first | exact Nat.le_refl _ | omega | (simp; done) | (simp; omega))) | (with_reducible refine bt ?_ (by with_reducible assumption))))).1 (Hc.out _ (by repeat (first | (with_reducible exact Below.refl _ _) | (with_reducible assumption) | (with_reducible refine ba ?_) | (with_reducible refine bd ?_) | (with_reducible refine bdn ?_ _) | (with_reducible refine bset ?_ (by first | exact Nat.le_refl _ | omega | (simp; done) | (simp; omega))) | (with_reducible refine bt ?_ (by with_reducible assumption))))).2).mono ?_); rw [HL.out]; rintro e w2 ⟨rfl, hb2⟩))
        go_roundw
        case rel => exact ⟨yy + 1, rfl, by omega, by
          have h1 := Hleft.out
          unfold Left at h1 ⊢
          rw [h1, scanY_miss (by omega) HL.out]
          congr 1
          omega, by repeat (first | (with_reducible exact Below.refl _ _) | (with_reducible assumption) | (with_reducible refine ba ?_) | (with_reducible refine bd ?_) | (with_reducible refine bdn ?_ _) | (with_reducible refine bset ?_ (by first | exact Nat.le_refl _ | omega | (simp; done) | (simp; omega))) | (with_reducible refine bt ?_ (by with_reducible assumption)))⟩
        case measure => simp; omega
      · have HL := Lib.hid hL
        clear hL
        go_wp2_with (first
          | (go_at_call 137; (with_reducible refine (Cn.out _ (by omega) (by omega) _).mono ?_); rintro e w1 ⟨rfl, hb1⟩; obtain ⟨hc1, hf1⟩ := bcell hb1; have hc1_0 := fun o => hc1 (w.heap.size) o (by first | assumption | omega | (simp; done) | (simp; omega)); have hf1_0 := fun o => hf1 (w.heap.size) o (by first | assumption | omega | (simp; done) | (simp; omega)); have hc1_1 := fun o => hc1 (w.heap.size + 1) o (by first | assumption | omega | (simp; done) | (simp; omega)); have hf1_1 := fun o => hf1 (w.heap.size + 1) o (by first | assumption | omega | (simp; done) | (simp; omega)); clear hc1 hf1; have hz1_0 : w.heap.size < w1.heap.size := (by first | exact sz1 hb1 | exact sz2 hb1 | exact sz3 hb1 | (have := hb1.size; (try simp only [World.size_alloc, World.size_drew] at this); omega)); have hz1_1 : w.heap.size + 1 < w1.heap.size := (by first | exact sz1 hb1 | exact sz2 hb1 | exact sz3 hb1 | (have := hb1.size; (try simp only [World.size_alloc, World.size_drew] at this); omega)))
          | (go_at_call 107; (with_reducible refine (Cf.out _ _ (Hc.out _ (by repeat (first | (with_reducible exact Below.refl _ _) | (with_reducible assumption) | (with_reducible refine ba ?_) | (with_reducible refine bd ?_) | (with_reducible refine bdn ?_ _) | (with_reducible refine bset ?_ (by first | exact Nat.le_refl _ | omega | (simp; done) | (simp; omega))) | (with_reducible refine bt ?_ (by with_reducible assumption))))).1 (Hc.out _ (by repeat (first | (with_reducible exact Below.refl _ _) | (with_reducible assumption) | (with_reducible refine ba ?_) | (with_reducible refine bd ?_) | (with_reducible refine bdn ?_ _) | (with_reducible refine bset ?_ (by first | exact Nat.le_refl _ | omega | (simp; done) | (simp; omega))) | (with_reducible refine bt ?_ (by with_reducible assumption))))).2).mono ?_); rw [HL.out]; rintro e w2 ⟨rfl, hb2⟩; obtain ⟨hc2, hf2⟩ := bcell hb2; have q1 := fun o => hc2 (w.heap.size + 1) o (by simp; omega); have q2 := fun o => hf2 (w.heap.size + 1) o (by simp; omega); have q3 := fun o => hc2 w1.heap.size o (by simp); clear hc2 hf2))
        have h1 := Hleft.out
        unfold Left at h1
        rw [h1, scanY_hit (by omega) HL.out]
        refine bodyPost_ret (v := .tuple #[.agg #[.int .i64 i, .int .i64 yy, .int .i64 (Occ.nomR r yy)], .bool true]) ?_ rfl ⟨rfl, ?_⟩
        · simp only [results, Tryz.results106]
          go_simp
        · repeat (first | (with_reducible exact Below.refl _ _) | (with_reducible assumption) | (with_reducible refine ba ?_) | (with_reducible refine bd ?_) | (with_reducible refine bdn ?_ _) | (with_reducible refine bset ?_ (by first | exact Nat.le_refl _ | omega | (simp; done) | (simp; omega))) | (with_reducible refine bt ?_ (by with_reducible assumption)))
    · go_wp2
      have h1 := Hleft.out
      unfold Left at h1
      rw [h1, show (r.to - yy + 1).toNat = 0 by omega, scanY_none]
      refine bodyPost_ret (v := .tuple #[.agg #[.int .i64 0, .int .i64 0, .int .i64 0], .bool false]) ?_ rfl ⟨rfl, ?_⟩
      · simp only [results, Tryz.results106]
        go_simp
      · repeat (first | (with_reducible exact Below.refl _ _) | (with_reducible assumption) | (with_reducible refine ba ?_) | (with_reducible refine bd ?_) | (with_reducible refine bdn ?_ _) | (with_reducible refine bset ?_ (by first | exact Nat.le_refl _ | omega | (simp; done) | (simp; omega))) | (with_reducible refine bt ?_ (by with_reducible assumption)))
set_option maxHeartbeats 3200000 in
theorem prev (r : RuleV) (hr : Rul.right r = true) (i Y : Int) (hY0 : -70000 ≤ Y) (hY1 : Y ≤ 70000) (fr : OccV) (b : Nat) (w : World) (hb : b < w.heap.size) (hc : At3 w b fr) :
    Calls Tryz.prog 113 #[.agg r.cells.toArray, .int .i64 i, .int .i64 Y, .func (.func 114) #[] #[.pointer (some ⟨b, 0, none⟩)]] w fun e w' =>
      e = .returned (optV (Occ.scanY Occ.more fr r i (-1) (min r.to (Y + 2)) (min r.to (Y + 2) - r.fr + 1).toNat)) ∧ Below w.heap.size w w' := by
  have hy := (Rul.right_spec hr).1
  have cn := fun y h1 h2 W => Nom.nom r hr y h1 h2 W
  have cf : ∀ (y : Int) (W : World), b < W.heap.size → At3 W b fr → Calls Tryz.prog 114 #[.agg #[.int .i64 i, .int .i64 y, .int .i64 (Occ.nomR r y)], .pointer (some ⟨b, 0, none⟩)] W (fun e w' => e = .returned (.bool (Occ.more fr (Occ.occ r i y))) ∧ Below W.heap.size W w') := fun y W h1 h2 => prev1 (Occ.occ r i y) fr b W h1 h2
  have Hc : Hid (∀ X, Below w.heap.size w X → b < X.heap.size ∧ At3 X b fr) := fun X hX => ⟨Nat.lt_of_lt_of_le hb hX.size, fun j => (hX.cell (p := ⟨b, j, none⟩) hb).trans (hc j)⟩
  clear hc
  obtain ⟨s, hs⟩ : ∃ s, s = min r.to (Y + 2) := ⟨_, rfl⟩
  rw [← hs]
  have hs0 : -80000 ≤ s ∧ s ≤ r.to := by omega
  obtain ⟨n, hn⟩ : ∃ n, n = (s - r.fr + 1).toNat := ⟨_, rfl⟩
  rw [← hn]
  have Hs := Lib.hid hs
  have Hn := Lib.hid hn
  have Cn := Lib.hid cn
  have Cf := Lib.hid cf
  clear hs hn cn cf
  unfold RuleV.cells at *
  go_enter Tryz.func113, Tryz.ntmps113
  go_wp2
  rw [← Hs.out]
  obtain ⟨V, hV⟩ : ∃ V, V = (w.alloc (.cells #[.string r.name, .int .i64 r.fr, .int .i64 r.to, .int .i64 r.month, .int .i64 r.kind, .int .i64 r.week, .int .i64 r.day, .int .i64 r.sec, .int .i64 r.base, .int .i64 r.save, .string r.letter] 75)).alloc (.cells #[.int .i64 0, .int .i64 0, .int .i64 0] 53) := ⟨_, rfl⟩
  rw [← hV]
  obtain ⟨⟨v0, v1⟩, hB, hF⟩ := box2 hV
  have HG := Lib.hid (box2f hV)
  clear hV
  have HF := Lib.hid hF
  clear hF
  go_loopw [10] (fun y wr => ∃ yy : Int, y = .int .i64 yy ∧ (-90000 ≤ yy ∧ yy ≤ s) ∧ Left Occ.more fr r i (-1) s n yy (yy - r.fr + 1).toNat ∧ Below V.heap.size V wr) (fun y _ => match y with | .int _ yy => (yy - r.fr + 1).toNat | _ => 0)
  case atStart => exact ⟨s, rfl, by omega, by unfold Left; rw [Hn.out], Below.refl _ _⟩
  case round =>
    obtain ⟨yy, rfl, hyy, hleft, hbel⟩ := hrel
    have Hleft := Lib.hid hleft
    clear hleft
    obtain ⟨f1, f2, f3⟩ := HF.out wr hbel
    have f4 := (HG.out wr hbel).2
    have u0 : w.heap.size < wr.heap.size := by omega
    have u1 : w.heap.size + 1 < wr.heap.size := by omega
    by_cases hlt : r.fr ≤ yy
    · cases hL : Occ.more fr (Occ.occ r i yy)
      · have HL := Lib.hid hL
        clear hL
        go_wp2_with (first
          | (go_at_call 137; (with_reducible refine (Cn.out _ (by omega) (by omega) _).mono ?_); rintro e w1 ⟨rfl, hb1⟩; obtain ⟨hc1, hf1⟩ := bcell hb1; have hc1_0 := fun o => hc1 (w.heap.size) o (by first | assumption | omega | (simp; done) | (simp; omega)); have hf1_0 := fun o => hf1 (w.heap.size) o (by first | assumption | omega | (simp; done) | (simp; omega)); have hc1_1 := fun o => hc1 (w.heap.size + 1) o (by first | assumption | omega | (simp; done) | (simp; omega)); have hf1_1 := fun o => hf1 (w.heap.size + 1) o (by first | assumption | omega | (simp; done) | (simp; omega)); clear hc1 hf1; have hz1_0 : w.heap.size < w1.heap.size := (by first | exact sz1 hb1 | exact sz2 hb1 | exact sz3 hb1 | (have := hb1.size; (try simp only [World.size_alloc, World.size_drew] at this); omega)); have hz1_1 : w.heap.size + 1 < w1.heap.size := (by first | exact sz1 hb1 | exact sz2 hb1 | exact sz3 hb1 | (have := hb1.size; (try simp only [World.size_alloc, World.size_drew] at this); omega)))
          | (go_at_call 114; (with_reducible refine (Cf.out _ _ (Hc.out _ (by repeat (first | (with_reducible exact Below.refl _ _) | (with_reducible assumption) | (with_reducible refine ba ?_) | (with_reducible refine bd ?_) | (with_reducible refine bdn ?_ _) | (with_reducible refine bset ?_ (by first | exact Nat.le_refl _ | omega | (simp; done) | (simp; omega))) | (with_reducible refine bt ?_ (by with_reducible assumption))))).1 (Hc.out _ (by repeat (first | (with_reducible exact Below.refl _ _) | (with_reducible assumption) | (with_reducible refine ba ?_) | (with_reducible refine bd ?_) | (with_reducible refine bdn ?_ _) | (with_reducible refine bset ?_ (by first | exact Nat.le_refl _ | omega | (simp; done) | (simp; omega))) | (with_reducible refine bt ?_ (by with_reducible assumption))))).2).mono ?_); rw [HL.out]; rintro e w2 ⟨rfl, hb2⟩))
        go_roundw
        case rel => exact ⟨yy + -1, rfl, by omega, by
          have h1 := Hleft.out
          unfold Left at h1 ⊢
          rw [h1, scanY_miss (by omega) HL.out]
          congr 1
          omega, by repeat (first | (with_reducible exact Below.refl _ _) | (with_reducible assumption) | (with_reducible refine ba ?_) | (with_reducible refine bd ?_) | (with_reducible refine bdn ?_ _) | (with_reducible refine bset ?_ (by first | exact Nat.le_refl _ | omega | (simp; done) | (simp; omega))) | (with_reducible refine bt ?_ (by with_reducible assumption)))⟩
        case measure => simp; omega
      · have HL := Lib.hid hL
        clear hL
        go_wp2_with (first
          | (go_at_call 137; (with_reducible refine (Cn.out _ (by omega) (by omega) _).mono ?_); rintro e w1 ⟨rfl, hb1⟩; obtain ⟨hc1, hf1⟩ := bcell hb1; have hc1_0 := fun o => hc1 (w.heap.size) o (by first | assumption | omega | (simp; done) | (simp; omega)); have hf1_0 := fun o => hf1 (w.heap.size) o (by first | assumption | omega | (simp; done) | (simp; omega)); have hc1_1 := fun o => hc1 (w.heap.size + 1) o (by first | assumption | omega | (simp; done) | (simp; omega)); have hf1_1 := fun o => hf1 (w.heap.size + 1) o (by first | assumption | omega | (simp; done) | (simp; omega)); clear hc1 hf1; have hz1_0 : w.heap.size < w1.heap.size := (by first | exact sz1 hb1 | exact sz2 hb1 | exact sz3 hb1 | (have := hb1.size; (try simp only [World.size_alloc, World.size_drew] at this); omega)); have hz1_1 : w.heap.size + 1 < w1.heap.size := (by first | exact sz1 hb1 | exact sz2 hb1 | exact sz3 hb1 | (have := hb1.size; (try simp only [World.size_alloc, World.size_drew] at this); omega)))
          | (go_at_call 114; (with_reducible refine (Cf.out _ _ (Hc.out _ (by repeat (first | (with_reducible exact Below.refl _ _) | (with_reducible assumption) | (with_reducible refine ba ?_) | (with_reducible refine bd ?_) | (with_reducible refine bdn ?_ _) | (with_reducible refine bset ?_ (by first | exact Nat.le_refl _ | omega | (simp; done) | (simp; omega))) | (with_reducible refine bt ?_ (by with_reducible assumption))))).1 (Hc.out _ (by repeat (first | (with_reducible exact Below.refl _ _) | (with_reducible assumption) | (with_reducible refine ba ?_) | (with_reducible refine bd ?_) | (with_reducible refine bdn ?_ _) | (with_reducible refine bset ?_ (by first | exact Nat.le_refl _ | omega | (simp; done) | (simp; omega))) | (with_reducible refine bt ?_ (by with_reducible assumption))))).2).mono ?_); rw [HL.out]; rintro e w2 ⟨rfl, hb2⟩; obtain ⟨hc2, hf2⟩ := bcell hb2; have q1 := fun o => hc2 (w.heap.size + 1) o (by simp; omega); have q2 := fun o => hf2 (w.heap.size + 1) o (by simp; omega); have q3 := fun o => hc2 w1.heap.size o (by simp); clear hc2 hf2))
        have h1 := Hleft.out
        unfold Left at h1
        rw [h1, scanY_hit (by omega) HL.out]
        refine bodyPost_ret (v := .tuple #[.agg #[.int .i64 i, .int .i64 yy, .int .i64 (Occ.nomR r yy)], .bool true]) ?_ rfl ⟨rfl, ?_⟩
        · simp only [results, Tryz.results113]
          go_simp
        · repeat (first | (with_reducible exact Below.refl _ _) | (with_reducible assumption) | (with_reducible refine ba ?_) | (with_reducible refine bd ?_) | (with_reducible refine bdn ?_ _) | (with_reducible refine bset ?_ (by first | exact Nat.le_refl _ | omega | (simp; done) | (simp; omega))) | (with_reducible refine bt ?_ (by with_reducible assumption)))
    · go_wp2
      have h1 := Hleft.out
      unfold Left at h1
      rw [h1, show (yy - r.fr + 1).toNat = 0 by omega, scanY_none]
      refine bodyPost_ret (v := .tuple #[.agg #[.int .i64 0, .int .i64 0, .int .i64 0], .bool false]) ?_ rfl ⟨rfl, ?_⟩
      · simp only [results, Tryz.results113]
        go_simp
      · repeat (first | (with_reducible exact Below.refl _ _) | (with_reducible assumption) | (with_reducible refine ba ?_) | (with_reducible refine bd ?_) | (with_reducible refine bdn ?_ _) | (with_reducible refine bset ?_ (by first | exact Nat.le_refl _ | omega | (simp; done) | (simp; omega))) | (with_reducible refine bt ?_ (by with_reducible assumption)))
end Nxt
end Go.Proofs.YtkpjhgkmjcdobaaGreatDoor
