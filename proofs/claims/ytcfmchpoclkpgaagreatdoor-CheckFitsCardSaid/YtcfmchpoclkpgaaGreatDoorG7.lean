import Derived.Test.YtcfmchpoclkpgaaGreatDoorG6
import Derived.Test.YtcfmchpoclkpgaaGreatDoorG5
import Derived.ChangeArms
import Derived.OpenShut
import Derived.Deep.Slices
import Derived.SizedLaws
namespace Go.Proofs.YtcfmchpoclkpgaaGreatDoor
open Go.RowKit NB
def Lies (w : World) (b off sz : Nat) (cells : List (List Value)) : Prop := ∀ (i j : Nat) (cs : List Value) (v : Value), cells[i]? = some cs → cs[j]? = some v → w.cell? ⟨b, off + i * sz + j, none⟩ = some v
namespace Lgt
def lightR (r : RuleV) : Bool := decide (r.name.size ≤ 200) && decide (r.letter.size ≤ 200)
def light (l : List RuleV) : Bool := decide (l.length ≤ 12) && l.all lightR
theorem all_take_succ {α : Type} {p : α → Bool} {l : List α} {k : Nat} {r : α} (hr : l[k]? = some r) (h : (l.take k).all p = true) (hp : p r = true) : (l.take (k + 1)).all p = true := by
  rw [List.take_add_one, hr]
  simp only [Option.toList_some, List.all_append, List.all_cons, List.all_nil, Bool.and_true, Bool.and_eq_true]
  exact ⟨h, hp⟩
theorem all_false {α : Type} {p : α → Bool} {l : List α} {k : Nat} {r : α} (hr : l[k]? = some r) (hp : p r = false) : l.all p = false := by
  rw [Bool.eq_false_iff]
  intro h
  have := List.all_eq_true.mp h r (List.mem_of_getElem? hr)
  rw [hp] at this
  cases this
def Post (b : Bool) (w : World) (e : Ending) (w' : World) : Prop := e = .returned (.bool b) ∧ Below w.heap.size w w'
set_option maxHeartbeats 800000 in
theorem Light (b off cap : Nat) (l : List RuleV) (w : World) (hc : Lies w b off 11 (l.map RuleV.cells)) (hb : b < w.heap.size) (hcap : l.length ≤ 9223372036854775807) (hs : ∀ r ∈ l, r.Fit) : Calls Tryz.prog 24 #[.slice (some ⟨b, off, none⟩) l.length cap] w (Post (light l) w) := by
  have Hc := Lib.hid hc;clear hc
  have Hs := Lib.hid hs;clear hs
  by_cases hn : l.length ≤ 12
  · have hL : light l = l.all lightR := by unfold light;rw [decide_eq_true hn];rfl
    rw [hL]
    clear hL
    generalize hN : l.length = n at hn hcap
    have HN := Lib.hid hN;clear hN
    go_enter Tryz.func24, Tryz.ntmps24
    go_wp2
    go_loopw [10] (fun i wr => ∃ k : Nat, k ≤ n ∧ i = .int .i64 k ∧ ((l.take k).all lightR) = true ∧ Below w.heap.size w wr) (fun i _ => n - (intOf i).toNat)
    case atStart => exact ⟨0, Nat.zero_le _, rfl, rfl, Below.refl _ _⟩
    case round =>
      obtain ⟨k, hk, rfl, hall, hbel⟩ := hrel
      have Hall := Lib.hid hall;clear hall
      by_cases hlt : k < n
      · have hbs := hbel.size
        obtain ⟨r, hr⟩ : ∃ r, l[k]? = some r := ⟨l[k]'(by rw [HN.out];exact hlt), by simp⟩
        have Hbel := Lib.hid hbel;clear hbel
        have c (j : Nat) (v : Value) (hv : r.cells[j]? = some v) : wr.cell? ⟨b, off + k * 11 + j, none⟩ = some v := by
          rw [Hbel.out.cell (p := ⟨b, off + k * 11 + j, none⟩) hb]
          exact Hc.out k j _ v (by rw [List.getElem?_map, hr];rfl) hv
        have c0 := c 0 _ rfl
        have c1 := c 1 _ rfl
        have c2 := c 2 _ rfl
        have c3 := c 3 _ rfl
        have c4 := c 4 _ rfl
        have c5 := c 5 _ rfl
        have c6 := c 6 _ rfl
        have c7 := c 7 _ rfl
        have c8 := c 8 _ rfl
        have c9 := c 9 _ rfl
        have c10 := c 10 _ rfl
        simp only [Nat.add_zero] at c0
        clear c
        have hs1 := (Hs.out r (List.mem_of_getElem? hr)).n
        have hs2 := (Hs.out r (List.mem_of_getElem? hr)).l
        have Hr := Lib.hid hr;clear hr
        go_wp2
        all_goals first
          | (
            refine ⟨⟨k + 1, hlt, rfl, all_take_succ Hr.out Hall.out ?_, Hbel.out.alloc hbs _⟩, (by simp [intOf];omega)⟩
            unfold lightR
            rw [Bool.and_eq_true, decide_eq_true_eq, decide_eq_true_eq]
            omega)
          | (
            go_ret
            refine ⟨ret_bool (all_false Hr.out ?_).symm, Hbel.out.alloc hbs _⟩
            unfold lightR
            rw [Bool.and_eq_false_iff, decide_eq_false_iff_not, decide_eq_false_iff_not]
            omega)
      · go_wp2
        go_ret
        refine ⟨ret_bool ?_, hbel⟩
        have := Hall.out
        rw [List.take_of_length_le (by rw [HN.out];omega)] at this
        exact this.symm
  · have hL : light l = false := by unfold light;rw [decide_eq_false hn];rfl
    rw [hL]
    clear hL
    generalize l.length = n at hn hcap
    go_enter Tryz.func24, Tryz.ntmps24
    go_wp2
    go_ret
    exact ⟨rfl, Below.refl _ _⟩
end Lgt
end Go.Proofs.YtcfmchpoclkpgaaGreatDoor
namespace Go.Proofs.YtcfmchpoclkpgaaGreatDoor
open Go.RowKit Go.ChangeShapes Go.WideShapes
section
variable {H : Type} {enc : TypeId × Value → H} {w : World} {base : Nat} {spare : Nat → Bool} {held : Bool}
theorem open_i {fuel : Nat} {k : IntKind} {t : TypeId} {c : Value} {o : Option (DataW H × List MemPlace)} (ht : Tryz.prog.underlying t = some (.int k)) (h : DataW.trod enc Tryz.prog w base spare held fuel t [c] = o) (ho : ∃ y, o = some y) : ∃ n, c = .int k n ∧ (Lit.int k n).wf = true := by
  obtain ⟨y, rfl⟩ := ho
  obtain ⟨n, h1, _, h2⟩ := DataW.trod_int ht h
  simp only [List.cons.injEq, and_true] at h1
  exact ⟨n, h1, h2⟩
theorem open_s {fuel : Nat} {t : TypeId} {c : Value} {o : Option (DataW H × List MemPlace)} (ht : Tryz.prog.underlying t = some .string) (h : DataW.trod enc Tryz.prog w base spare held fuel t [c] = o) (ho : ∃ y, o = some y) : ∃ s : ByteArray, c = .string s ∧ s.size ≤ maxLen := by
  obtain ⟨y, rfl⟩ := ho
  obtain ⟨n, h1, _, h2⟩ := DataW.trod_string ht h
  simp only [List.cons.injEq, and_true] at h1
  exact ⟨n, h1, h2⟩
theorem c27 : Tryz.prog.cellsOf 63 = 11 := by kernel_rfl
theorem c23 : Tryz.prog.cellsOf 55 = 3 := by kernel_rfl
theorem c25 : Tryz.prog.cellsOf 57 = 2 := by kernel_rfl
theorem c9 : Tryz.prog.cellsOf 9 = 1 := by kernel_rfl
theorem c3 : Tryz.prog.cellsOf 3 = 1 := by kernel_rfl
theorem c2 : Tryz.prog.cellsOf 2 = 1 := by kernel_rfl
theorem at_some {α : Type} {l : List α} {n i : Nat} (h : l.length = n) (hi : i < n) : ∃ y, l[i]? = some y := ⟨l[i]'(by omega), List.getElem?_eq_getElem (by omega)⟩
set_option maxRecDepth 100000 in
theorem rule_cells {fuel : Nat} {cs : List Value} {x : DataW H × List MemPlace} (h : DataW.trod enc Tryz.prog w base spare held fuel 63 cs = some x) : ∃ r : RuleV, cs = r.cells ∧ r.Fit := by
  obtain ⟨xs, n, _, _, hlen, hxl, hg⟩ := DataW.trod_struct Tryz.underlying63 h
  match cs, hlen.trans c27 with
  | [v0, v1, v2, v3, v4, v5, v6, v7, v8, v9, v10], _ =>
    have hxl8 : xs.length = 8 := hxl
    have g0 : DataW.trod enc Tryz.prog w base spare held n 9 (([v0, v1, v2, v3, v4, v5, v6, v7, v8, v9, v10].drop 0).take (Tryz.prog.cellsOf 9)) = xs[0]? := hg 0 _ rfl
    rw [c9] at g0
    replace g0 : DataW.trod enc Tryz.prog w base spare held n 9 [v0] = xs[0]? := g0
    have g1 : DataW.trod enc Tryz.prog w base spare held n 3 (([v0, v1, v2, v3, v4, v5, v6, v7, v8, v9, v10].drop 1).take (Tryz.prog.cellsOf 3)) = xs[1]? := hg 1 _ rfl
    rw [c3] at g1
    replace g1 : DataW.trod enc Tryz.prog w base spare held n 3 [v1] = xs[1]? := g1
    have g2 : DataW.trod enc Tryz.prog w base spare held n 3 (([v0, v1, v2, v3, v4, v5, v6, v7, v8, v9, v10].drop 2).take (Tryz.prog.cellsOf 3)) = xs[2]? := hg 2 _ rfl
    rw [c3] at g2
    replace g2 : DataW.trod enc Tryz.prog w base spare held n 3 [v2] = xs[2]? := g2
    have g3 : DataW.trod enc Tryz.prog w base spare held n 3 (([v0, v1, v2, v3, v4, v5, v6, v7, v8, v9, v10].drop 3).take (Tryz.prog.cellsOf 3)) = xs[3]? := hg 3 _ rfl
    rw [c3] at g3
    replace g3 : DataW.trod enc Tryz.prog w base spare held n 3 [v3] = xs[3]? := g3
    have g4 : DataW.trod enc Tryz.prog w base spare held n 55 (([v0, v1, v2, v3, v4, v5, v6, v7, v8, v9, v10].drop 4).take (Tryz.prog.cellsOf 55)) = xs[4]? := hg 4 _ rfl
    rw [c23] at g4
    replace g4 : DataW.trod enc Tryz.prog w base spare held n 55 [v4, v5, v6] = xs[4]? := g4
    have g5 : DataW.trod enc Tryz.prog w base spare held n 57 (([v0, v1, v2, v3, v4, v5, v6, v7, v8, v9, v10].drop 7).take (Tryz.prog.cellsOf 57)) = xs[5]? := hg 5 _ rfl
    rw [c25] at g5
    replace g5 : DataW.trod enc Tryz.prog w base spare held n 57 [v7, v8] = xs[5]? := g5
    have g6 : DataW.trod enc Tryz.prog w base spare held n 2 (([v0, v1, v2, v3, v4, v5, v6, v7, v8, v9, v10].drop 9).take (Tryz.prog.cellsOf 2)) = xs[6]? := hg 6 _ rfl
    rw [c2] at g6
    replace g6 : DataW.trod enc Tryz.prog w base spare held n 2 [v9] = xs[6]? := g6
    have g7 : DataW.trod enc Tryz.prog w base spare held n 9 (([v0, v1, v2, v3, v4, v5, v6, v7, v8, v9, v10].drop 10).take (Tryz.prog.cellsOf 9)) = xs[7]? := hg 7 _ rfl
    rw [c9] at g7
    replace g7 : DataW.trod enc Tryz.prog w base spare held n 9 [v10] = xs[7]? := g7
    obtain ⟨s0, rfl, z0⟩ := open_s Tryz.underlying9 g0 (at_some hxl8 (by decide))
    obtain ⟨n1, rfl, z1⟩ := open_i Tryz.underlying3 g1 (at_some hxl8 (by decide))
    obtain ⟨n2, rfl, z2⟩ := open_i Tryz.underlying3 g2 (at_some hxl8 (by decide))
    obtain ⟨n3, rfl, z3⟩ := open_i Tryz.underlying3 g3 (at_some hxl8 (by decide))
    obtain ⟨n9, rfl, z9⟩ := open_i Tryz.underlying2 g6 (at_some hxl8 (by decide))
    obtain ⟨s10, rfl, z10⟩ := open_s Tryz.underlying9 g7 (at_some hxl8 (by decide))
    obtain ⟨y4, hy4⟩ := at_some (i := 4) hxl8 (by decide)
    obtain ⟨y5, hy5⟩ := at_some (i := 5) hxl8 (by decide)
    rw [hy4] at g4
    rw [hy5] at g5
    obtain ⟨xs4, n4', _, _, _, hl4, hg4⟩ := DataW.trod_struct Tryz.underlying55 g4
    obtain ⟨xs5, n5', _, _, _, hl5, hg5⟩ := DataW.trod_struct Tryz.underlying57 g5
    have hl43 : xs4.length = 3 := hl4
    have hl52 : xs5.length = 2 := hl5
    have k0 : DataW.trod enc Tryz.prog w base spare held n4' 3 (([v4, v5, v6].drop 0).take (Tryz.prog.cellsOf 3)) = xs4[0]? := hg4 0 _ rfl
    rw [c3] at k0
    replace k0 : DataW.trod enc Tryz.prog w base spare held n4' 3 [v4] = xs4[0]? := k0
    have k1 : DataW.trod enc Tryz.prog w base spare held n4' 3 (([v4, v5, v6].drop 1).take (Tryz.prog.cellsOf 3)) = xs4[1]? := hg4 1 _ rfl
    rw [c3] at k1
    replace k1 : DataW.trod enc Tryz.prog w base spare held n4' 3 [v5] = xs4[1]? := k1
    have k2 : DataW.trod enc Tryz.prog w base spare held n4' 3 (([v4, v5, v6].drop 2).take (Tryz.prog.cellsOf 3)) = xs4[2]? := hg4 2 _ rfl
    rw [c3] at k2
    replace k2 : DataW.trod enc Tryz.prog w base spare held n4' 3 [v6] = xs4[2]? := k2
    have k3 : DataW.trod enc Tryz.prog w base spare held n5' 2 (([v7, v8].drop 0).take (Tryz.prog.cellsOf 2)) = xs5[0]? := hg5 0 _ rfl
    rw [c2] at k3
    replace k3 : DataW.trod enc Tryz.prog w base spare held n5' 2 [v7] = xs5[0]? := k3
    have k4 : DataW.trod enc Tryz.prog w base spare held n5' 3 (([v7, v8].drop 1).take (Tryz.prog.cellsOf 3)) = xs5[1]? := hg5 1 _ rfl
    rw [c3] at k4
    replace k4 : DataW.trod enc Tryz.prog w base spare held n5' 3 [v8] = xs5[1]? := k4
    obtain ⟨n4, rfl, z4⟩ := open_i Tryz.underlying3 k0 (at_some hl43 (by decide))
    obtain ⟨n5, rfl, z5⟩ := open_i Tryz.underlying3 k1 (at_some hl43 (by decide))
    obtain ⟨n6, rfl, z6⟩ := open_i Tryz.underlying3 k2 (at_some hl43 (by decide))
    obtain ⟨n7, rfl, z7⟩ := open_i Tryz.underlying2 k3 (at_some hl52 (by decide))
    obtain ⟨n8, rfl, z8⟩ := open_i Tryz.underlying3 k4 (at_some hl52 (by decide))
    have wf : ∀ n : Int, (Lit.int .i64 n).wf = true → I64 n := by
      intro n hn
      have h1 : (decide (IntKind.i64.min ≤ n) && decide (n ≤ IntKind.i64.max)) = true := hn
      rw [show IntKind.i64.min = -9223372036854775808 from rfl, show IntKind.i64.max = 9223372036854775807 from rfl] at h1
      simp only [Bool.and_eq_true, decide_eq_true_eq] at h1
      exact h1
    exact ⟨⟨s0, n1, n2, n3, n4, n5, n6, n7, n8, n9, s10⟩, rfl, ⟨z0, z10, wf _ z1, wf _ z2, wf _ z7, wf _ z9⟩⟩
end
end Go.Proofs.YtcfmchpoclkpgaaGreatDoor
namespace Go.Proofs.YtcfmchpoclkpgaaGreatDoor
open Go.RowKit NB
structure Holds (w : World) (v : Value) (l : List RuleV) : Prop where
  lies : (∃ p cap, v = .slice p 0 cap ∧ l = []) ∨ (∃ b off cap, v = .slice (some ⟨b, off, none⟩) l.length cap ∧ b < w.heap.size ∧ Lies w b off 11 (l.map RuleV.cells))
  fit : ∀ r ∈ l, r.Fit
  len : l.length ≤ 9223372036854775807
theorem Holds.later {w w' : World} {v : Value} {l : List RuleV} (h : Holds w v l) (hb : Below w.heap.size w w') : Holds w' v l := by
  refine ⟨?_, h.fit, h.len⟩
  rcases h.lies with h1|⟨b, off, cap, h1, h2, h3⟩
  · exact .inl h1
  · refine .inr ⟨b, off, cap, h1, Nat.lt_of_lt_of_le h2 hb.size, fun i j cs v hi hj => ?_⟩
    rw [hb.cell (p := ⟨b, off + i * 11 + j, none⟩) h2]
    exact h3 i j cs v hi hj
theorem Holds.form {w : World} {v : Value} {l : List RuleV} (h : Holds w v l) : ∃ p cap, v = .slice p l.length cap := by
  rcases h.lies with ⟨p, cap, h1, h2⟩|⟨b, off, cap, h1, _, _⟩
  · exact ⟨p, cap, by rw [h1, h2];rfl⟩
  · exact ⟨_, cap, h1⟩
namespace Lgt
theorem LightE (p : Option Addr) (cap : Nat) (w : World) : Calls Tryz.prog 24 #[.slice p 0 cap] w (Post true w) := by
  go_enter Tryz.func24, Tryz.ntmps24
  go_wp2
  go_loopw [10] (fun i wr => i = .int .i64 0 ∧ Below w.heap.size w wr) (fun i _ => 0)
  case atStart => exact ⟨rfl, Below.refl _ _⟩
  case round =>
    obtain ⟨rfl, hbel⟩ := hrel
    go_wp2
    go_ret
    exact ⟨rfl, hbel⟩
theorem LightH {w : World} {v : Value} {l : List RuleV} (h : Holds w v l) : Calls Tryz.prog 24 #[v] w fun e w' => e = .returned (.bool (light l)) ∧ Below w.heap.size w w' := by
  rcases h.lies with ⟨p, cap, rfl, rfl⟩|⟨b, off, cap, rfl, h2, h3⟩
  · exact LightE p cap w
  · exact Light b off cap l w h3 h2 h.len h.fit
theorem light_len {l : List RuleV} (h : light l = true) : l.length ≤ 12 := by
  unfold light at h
  simp only [Bool.and_eq_true, decide_eq_true_eq] at h
  exact h.1
end Lgt
section
variable {H : Type} {enc : TypeId × Value → H} {w : World} {base : Nat} {spare : Nat → Bool} {held : Bool}
theorem addr_add (b off n : Nat) : (⟨b, off, none⟩ : Addr).add n = ⟨b, off + n, none⟩ := by unfold Addr.add;split <;> simp_all
theorem info_cells {a : Addr} {n : Nat} {cs : List Value} (h : w.cells? base a n = some cs) (hn : 0 < n) : a.spot = none ∧ a.block < w.heap.size := by
  obtain ⟨_, hlen, hcell⟩ := World.cells?_some h
  obtain ⟨v, hv⟩ : ∃ v, cs[0]? = some v := ⟨cs[0]'(by omega), List.getElem?_eq_getElem (by omega)⟩
  have h0 := hcell 0 hn
  have h1 : w.cell? a ≠ none := by
    intro hc
    have : (a.add 0) = a := by unfold Addr.add;simp
    rw [this, hc] at h0
    rw [← h0] at hv
    cases hv
  unfold World.cell? at h1
  cases hh : w.heap[a.block]? with
  | none => rw [hh] at h1;exact absurd rfl h1
  | some o =>
    refine ⟨?_, (Array.getElem?_eq_some_iff.1 hh).1⟩
    rw [hh] at h1
    cases o with
    | cells c t f =>
      simp only at h1
      cases hs : a.spot with
      | none => rfl
      | some x => rw [hs] at h1;simp at h1
    | _ => exact absurd rfl h1
theorem rules_open {fuel : Nat} {cs : List Value} {x : DataW H × List MemPlace} (h : DataW.trod enc Tryz.prog w base spare held fuel 22 cs = some x) : ∃ (v : Value) (l : List RuleV), cs = [v] ∧ Holds w v l ∧ (l = [] ∨ ∃ es sp, x.1 = .slice es sp ∧ es.length = l.length) := by
  rcases Deep.open_slice Tryz.underlying22 h with ⟨rfl, _⟩|⟨a, len, cap, m, n, D, Pl, rfl, hb, hl, hm, hmm, hxx, hx⟩
  · exact ⟨_, [], rfl, ⟨.inl ⟨_, _, rfl, rfl⟩, by simp, by simp⟩, .inl rfl⟩
  · have hlm : len ≤ m := by rw [hmm];split <;> omega
    have each : ∀ i, i < m → ∃ r : RuleV, w.cells? base (a.add (i * 11)) 11 = some r.cells ∧ r.Fit := by
      intro i hi
      obtain ⟨cs', h1, h2⟩ := hx i hi
      obtain ⟨r, rfl, hf⟩ := rule_cells h2
      rw [c27] at h1
      exact ⟨r, h1, hf⟩
    by_cases h0 : len = 0
    · subst h0
      exact ⟨_, [], rfl, ⟨.inl ⟨_, _, rfl, rfl⟩, by simp, by simp⟩, .inl rfl⟩
    · obtain ⟨q, hq⟩ : ∃ q : Nat → RuleV, ∀ i, i < m → w.cells? base (a.add (i * 11)) 11 = some (q i).cells ∧ (q i).Fit :=
        ⟨fun i => if hi : i < m then (each i hi).choose else ⟨⟨#[]⟩, 0, 0, 0, 0, 0, 0, 0, 0, 0, ⟨#[]⟩⟩, fun i hi => by simp only [dif_pos hi];exact (each i hi).choose_spec⟩
      obtain ⟨ha, hab⟩ := info_cells (hq 0 (by omega)).1 (by decide)
      have ha' : a = ⟨a.block, a.off, none⟩ := by
        have : (a.add (0 * 11)).spot = a.spot := by simp [Addr.add]
        rw [this] at ha
        cases a
        simp only at ha
        rw [ha]
      have hab' : a.block < w.heap.size := by
        have : (a.add (0 * 11)).block = a.block := by simp [Addr.add]
        rwa [this] at hab
      refine ⟨_, (List.range len).map q, rfl, ⟨.inr ⟨a.block, a.off, cap, by rw [← ha'];simp, hab', ?_⟩, ?_, by simp;unfold maxLen at hm;omega⟩, .inr ⟨_, _, by rw [hxx], by simp⟩⟩
      · intro i j c v hi hj
        rw [List.map_map, List.getElem?_map] at hi
        cases hr : (List.range len)[i]? with
        | none => rw [hr] at hi;cases hi
        | some k =>
          rw [hr] at hi
          cases hi
          obtain ⟨hk, rfl⟩ := List.getElem?_eq_some_iff.1 hr
          rw [List.length_range] at hk
          simp only [List.getElem_range] at hj ⊢
          obtain ⟨_, hlen, hcell⟩ := World.cells?_some (hq i (by omega)).1
          have hj11 : j < 11 := by
            have := (List.getElem?_eq_some_iff.1 hj).1
            exact this
          have := hcell j hj11
          rw [Deep.add_add] at this
          have he : a.add (i * 11 + j) = ⟨a.block, a.off + i * 11 + j, none⟩ := by
            rw [Nat.add_assoc]
            conv => lhs;rw [ha']
            exact addr_add _ _ _
          rw [he] at this
          rw [this]
          exact hj
      · intro r hr
        rw [List.mem_map] at hr
        obtain ⟨i, hi, rfl⟩ := hr
        exact (hq i (by rw [List.mem_range] at hi;omega)).2
end
end Go.Proofs.YtcfmchpoclkpgaaGreatDoor
namespace Go.Proofs.YtcfmchpoclkpgaaGreatDoor
open Go.RowKit NB
structure UntilV where
  has : Bool
  year : Int
  month : Int
  kind : Int
  week : Int
  day : Int
  sec : Int
  base : Int
deriving DecidableEq
def UntilV.cells (u : UntilV) : List Value := [.bool u.has, .int .i64 u.year, .int .i64 u.month, .int .i64 u.kind, .int .i64 u.week, .int .i64 u.day, .int .i64 u.sec, .int .i64 u.base]
structure EraV where
  off : Int
  kind : Int
  save : Int
  rules : ByteArray
  format : ByteArray
  u : UntilV
deriving DecidableEq
def EraV.cells (e : EraV) : List Value := [.int .i64 e.off, .int .i64 e.kind, .int .i64 e.save, .string e.rules, .string e.format, .bool e.u.has, .int .i64 e.u.year, .int .i64 e.u.month, .int .i64 e.u.kind, .int .i64 e.u.week, .int .i64 e.u.day, .int .i64 e.u.sec, .int .i64 e.u.base]
structure EraV.Fit (e : EraV) : Prop where
  r : e.rules.size ≤ 9223372036854775807
  f : e.format.size ≤ 9223372036854775807
  off : I64 e.off
  save : I64 e.save
  year : I64 e.u.year
  sec : I64 e.u.sec
structure UntilV.Fit (u : UntilV) : Prop where
  year : I64 u.year
  sec : I64 u.sec
theorem EraV.Fit.u {e : EraV} (h : e.Fit) : e.u.Fit := ⟨h.year, h.sec⟩
structure HoldsE (w : World) (v : Value) (es : List EraV) : Prop where
  lies : (∃ p cap, v = .slice p 0 cap ∧ es = []) ∨ (∃ b off cap, v = .slice (some ⟨b, off, none⟩) es.length cap ∧ b < w.heap.size ∧ Lies w b off 13 (es.map EraV.cells))
  fit : ∀ e ∈ es, e.Fit
  len : es.length ≤ 9223372036854775807
theorem HoldsE.later {w w' : World} {v : Value} {es : List EraV} (h : HoldsE w v es) (hb : Below w.heap.size w w') : HoldsE w' v es := by
  refine ⟨?_, h.fit, h.len⟩
  rcases h.lies with h1|⟨b, off, cap, h1, h2, h3⟩
  · exact .inl h1
  · refine .inr ⟨b, off, cap, h1, Nat.lt_of_lt_of_le h2 hb.size, fun i j cs v hi hj => ?_⟩
    rw [hb.cell (p := ⟨b, off + i * 13 + j, none⟩) h2]
    exact h3 i j cs v hi hj
theorem HoldsE.form {w : World} {v : Value} {es : List EraV} (h : HoldsE w v es) : ∃ p cap, v = .slice p es.length cap := by
  rcases h.lies with ⟨p, cap, h1, h2⟩|⟨b, off, cap, h1, _, _⟩
  · exact ⟨p, cap, by rw [h1, h2];rfl⟩
  · exact ⟨_, cap, h1⟩
theorem HoldsE.at {w : World} {v : Value} {es : List EraV} (h : HoldsE w v es) {k : Nat} {e : EraV} (he : es[k]? = some e) : ∃ b off cap, v = .slice (some ⟨b, off, none⟩) es.length cap ∧ b < w.heap.size ∧ ∀ (j : Nat) (u : Value), e.cells[j]? = some u → w.cell? ⟨b, off + k * 13 + j, none⟩ = some u := by
  rcases h.lies with ⟨p, cap, h1, h2⟩|⟨b, off, cap, h1, h2, h3⟩
  · rw [h2] at he;simp at he
  · exact ⟨b, off, cap, h1, h2, fun j u hu => h3 k j _ u (by rw [List.getElem?_map, he];rfl) hu⟩
end Go.Proofs.YtcfmchpoclkpgaaGreatDoor
