import Derived.Test.YtcfmchpoclkpgaaGreatDoorOpenE
import Derived.Test.YtcfmchpoclkpgaaGreatDoorG17
import Derived.Test.YtcfmchpoclkpgaaGreatDoorMp
namespace Go.Proofs.YtcfmchpoclkpgaaGreatDoor
open Go.RowKit Go.ChangeShapes Go.WideShapes
structure LinkV where
  target : ByteArray
  name : ByteArray
deriving DecidableEq
def LinkV.cells (x : LinkV) : List Value := [.string x.target, .string x.name]
structure LinkV.Fit (x : LinkV) : Prop where
  t : x.target.size ≤ 9223372036854775807
  n : x.name.size ≤ 9223372036854775807
structure ZoneV where
  name : ByteArray
  v : Value
  es : List EraV
def ZoneV.cells (x : ZoneV) : List Value := [.string x.name, x.v]
structure ZoneV.Fit (w : World) (x : ZoneV) : Prop where
  n : x.name.size ≤ 9223372036854775807
  e : HoldsE w x.v x.es
theorem ZoneV.Fit.later {w w' : World} {x : ZoneV} (h : x.Fit w) (hb : Below w.heap.size w w') : x.Fit w' := ⟨h.n, h.e.later hb⟩
structure TabV where
  rv : Value
  zv : Value
  lv : Value
  rs : List RuleV
  zs : List ZoneV
  ls : List LinkV
def TabV.cells (t : TabV) : List Value := [t.rv, t.zv, t.lv]
structure HoldsT (w : World) (t : TabV) : Prop where
  r : Holds w t.rv t.rs
  z : HoldsG 2 ZoneV.cells w t.zv t.zs
  zf : ∀ x ∈ t.zs, x.Fit w
  l : HoldsG 2 LinkV.cells w t.lv t.ls
  lf : ∀ x ∈ t.ls, x.Fit
theorem HoldsT.later {w w' : World} {t : TabV} (h : HoldsT w t) (hb : Below w.heap.size w w') : HoldsT w' t :=
  ⟨h.r.later hb, h.z.later hb, fun x hx => (h.zf x hx).later hb, h.l.later hb, h.lf⟩
instance : Inhabited LinkV := ⟨⟨⟨#[]⟩, ⟨#[]⟩⟩⟩
instance : Inhabited ZoneV := ⟨⟨⟨#[]⟩, .slice none 0 0, []⟩⟩
section
variable {H : Type} {enc : TypeId × Value → H} {w : World} {base : Nat} {spare : Nat → Bool} {held : Bool}
set_option maxRecDepth 100000 in
theorem link_cells {fuel : Nat} {cs : List Value} {x : DataW H × List MemPlace} (h : DataW.trod enc Tryz.prog w base spare held fuel 51 cs = some x) : ∃ x : LinkV, cs = x.cells ∧ x.Fit := by
  obtain ⟨xs, n, _, hx1, hlen, hxl, hg⟩ := DataW.trod_struct Tryz.underlying51 h
  match cs, hlen.trans (show Tryz.prog.cellsOf 51 = 2 by kernel_rfl) with
  | [v0, v1], _ =>
    have hxl8 : xs.length = 2 := hxl
    have g0 : DataW.trod enc Tryz.prog w base spare held n 9 (([v0, v1].drop 0).take (Tryz.prog.cellsOf 9)) = xs[0]? := hg 0 _ rfl
    rw [show Tryz.prog.cellsOf 9 = 1 by kernel_rfl] at g0
    replace g0 : DataW.trod enc Tryz.prog w base spare held n 9 [v0] = xs[0]? := g0
    have g1 : DataW.trod enc Tryz.prog w base spare held n 9 (([v0, v1].drop 1).take (Tryz.prog.cellsOf 9)) = xs[1]? := hg 1 _ rfl
    rw [show Tryz.prog.cellsOf 9 = 1 by kernel_rfl] at g1
    replace g1 : DataW.trod enc Tryz.prog w base spare held n 9 [v1] = xs[1]? := g1
    obtain ⟨n0, rfl, z0⟩ := open_s Tryz.underlying9 g0 (at_some hxl8 (by decide))
    obtain ⟨n1, rfl, z1⟩ := open_s Tryz.underlying9 g1 (at_some hxl8 (by decide))
    exact ⟨⟨n0, n1⟩, rfl, ⟨z0, z1⟩⟩
theorem zoneV_cells {fuel : Nat} {cs : List Value} {x : DataW H × List MemPlace} (h : DataW.trod enc Tryz.prog w base spare held fuel 42 cs = some x) : ∃ z : ZoneV, cs = z.cells ∧ z.Fit w := by
  obtain ⟨a, v, es, rfl, h1, h2⟩ := zone_cells h
  exact ⟨⟨a, v, es⟩, rfl, ⟨h1, h2⟩⟩
theorem zones_open {fuel : Nat} {cs : List Value} {x : DataW H × List MemPlace} (h : DataW.trod enc Tryz.prog w base spare held fuel 23 cs = some x) :
    ∃ (v : Value) (l : List ZoneV), cs = [v] ∧ (HoldsG 2 ZoneV.cells w v l ∧ ∀ a ∈ l, a.Fit w) ∧ (l = [] ∨ ∃ es sp, x.1 = .slice es sp ∧ es.length = l.length) :=
  slice_open (k := 2) (f := ZoneV.cells) (F := ZoneV.Fit w) (fun _ => rfl) (by decide) Tryz.underlying23 (by kernel_rfl) zoneV_cells h
theorem links_open {fuel : Nat} {cs : List Value} {x : DataW H × List MemPlace} (h : DataW.trod enc Tryz.prog w base spare held fuel 24 cs = some x) :
    ∃ (v : Value) (l : List LinkV), cs = [v] ∧ (HoldsG 2 LinkV.cells w v l ∧ ∀ a ∈ l, a.Fit) ∧ (l = [] ∨ ∃ es sp, x.1 = .slice es sp ∧ es.length = l.length) :=
  slice_open (k := 2) (f := LinkV.cells) (F := LinkV.Fit) (fun _ => rfl) (by decide) Tryz.underlying24 (by kernel_rfl) link_cells h
set_option maxRecDepth 100000 in
theorem table_cells {fuel : Nat} {cs : List Value} {x : DataW H × List MemPlace} (h : DataW.trod enc Tryz.prog w base spare held fuel 26 cs = some x) : ∃ t : TabV, cs = t.cells ∧ HoldsT w t := by
  obtain ⟨xs, n, _, hx1, hlen, hxl, hg⟩ := DataW.trod_struct Tryz.underlying26 h
  match cs, hlen.trans (show Tryz.prog.cellsOf 26 = 3 by kernel_rfl) with
  | [v0, v1, v2], _ =>
    have hxl8 : xs.length = 3 := hxl
    have g0 : DataW.trod enc Tryz.prog w base spare held n 22 (([v0, v1, v2].drop 0).take (Tryz.prog.cellsOf 22)) = xs[0]? := hg 0 _ rfl
    rw [show Tryz.prog.cellsOf 22 = 1 by kernel_rfl] at g0
    replace g0 : DataW.trod enc Tryz.prog w base spare held n 22 [v0] = xs[0]? := g0
    have g1 : DataW.trod enc Tryz.prog w base spare held n 23 (([v0, v1, v2].drop 1).take (Tryz.prog.cellsOf 23)) = xs[1]? := hg 1 _ rfl
    rw [show Tryz.prog.cellsOf 23 = 1 by kernel_rfl] at g1
    replace g1 : DataW.trod enc Tryz.prog w base spare held n 23 [v1] = xs[1]? := g1
    have g2 : DataW.trod enc Tryz.prog w base spare held n 24 (([v0, v1, v2].drop 2).take (Tryz.prog.cellsOf 24)) = xs[2]? := hg 2 _ rfl
    rw [show Tryz.prog.cellsOf 24 = 1 by kernel_rfl] at g2
    replace g2 : DataW.trod enc Tryz.prog w base spare held n 24 [v2] = xs[2]? := g2
    obtain ⟨y0, hy0⟩ := at_some (i := 0) hxl8 (by decide)
    rw [hy0] at g0
    obtain ⟨w0, s0, hs0, f0, q0⟩ := rules_open g0
    simp only [List.cons.injEq, and_true] at hs0
    obtain rfl := hs0
    obtain ⟨y1, hy1⟩ := at_some (i := 1) hxl8 (by decide)
    rw [hy1] at g1
    obtain ⟨w1, s1, hs1, f1, q1⟩ := zones_open g1
    simp only [List.cons.injEq, and_true] at hs1
    obtain rfl := hs1
    obtain ⟨y2, hy2⟩ := at_some (i := 2) hxl8 (by decide)
    rw [hy2] at g2
    obtain ⟨w2, s2, hs2, f2, q2⟩ := links_open g2
    simp only [List.cons.injEq, and_true] at hs2
    obtain rfl := hs2
    exact ⟨⟨_, _, _, s0, s1, s2⟩, rfl, ⟨f0, f1.1, f1.2, f2.1, f2.2⟩⟩
end
end Go.Proofs.YtcfmchpoclkpgaaGreatDoor
namespace Go.Proofs.YtcfmchpoclkpgaaGreatDoor
namespace SrtS
def bts (l : List ByteArray) : List (List UInt8) := l.map fun s => s.data.toList
def unb (l : List (List UInt8)) : List ByteArray := l.map fun x => ⟨x.toArray⟩
def sortL (l : List ByteArray) : List ByteArray := unb ((bts l).mergeSort fun x y => decide (x ≤ y))
end SrtS
namespace Bk
open Go.RowKit
abbrev S := ByteArray
def follow (f : S → Option S) : Nat → S → Option S
  | 0, _ => none
  | n + 1, s => match f s with
    | none => some s
    | some t => follow f n t
def it (f : S → Option S) : Nat → S → S
  | 0, s => s
  | i + 1, s => match f s with
    | none => s
    | some t => it f i t
theorem follow_up {f : S → Option S} : ∀ {n : Nat} {s e : S}, follow f n s = some e → ∀ m, n ≤ m → follow f m s = some e
  | 0, _, _, h, _, _ => by cases h
  | n + 1, s, e, h, 0, hm => by omega
  | n + 1, s, e, h, m + 1, hm => by
    unfold follow at h ⊢
    cases hf : f s with
    | none => rw [hf] at h;exact h
    | some t => rw [hf] at h;exact follow_up h m (by omega)
theorem it_some {f : S → Option S} : ∀ {n : Nat} {s : S}, follow f n s = none → ∀ i, i < n → (f (it f i s)).isSome = true ∧ ∀ m, follow f (m + i) s = follow f m (it f i s)
  | 0, _, _, i, hi => by omega
  | n + 1, s, h, i, hi => by
    unfold follow at h
    cases hf : f s with
    | none => rw [hf] at h;cases h
    | some t =>
      rw [hf] at h
      cases i with
      | zero => exact ⟨by unfold it;rw [hf];rfl, fun m => rfl⟩
      | succ i =>
        have := it_some h i (by omega)
        refine ⟨by unfold it;rw [hf];exact this.1, fun m => ?_⟩
        have e1 : it f (i + 1) s = it f i t := by simp only [it, hf]
        rw [e1, ← this.2 m, ← Nat.add_assoc]
        simp only [follow, hf]
theorem nodup_le {α : Type} [DecidableEq α] : ∀ (c D : List α), c.Nodup → (∀ x ∈ c, x ∈ D) → c.length ≤ D.length
  | [], _, _, _ => Nat.zero_le _
  | a :: c, D, hn, hs => by
    have ha := hs a (by simp)
    have h2 := nodup_le c (D.erase a) (List.nodup_cons.1 hn).2 (fun x hx => (List.mem_erase_of_ne (fun e => (List.nodup_cons.1 hn).1 (by rw [← e];exact hx))).2 (hs x (by simp [hx])))
    rw [List.length_erase_of_mem ha] at h2
    have : 0 < D.length := List.length_pos_of_mem ha
    simp only [List.length_cons]
    omega
theorem follow_less {f : S → Option S} {D : List S} (hD : ∀ s, (f s).isSome = true → s ∈ D) {n : Nat} (hn : D.length < n) {s e : S} (h : follow f (n + 1) s = some e) : follow f n s = some e := by
  cases hx : follow f n s with
  | some x =>
    rw [follow_up hx (n + 1) (by omega)] at h
    exact h
  | none =>
    exfalso
    have hi := it_some hx
    by_cases hd : ∀ i j, i < j → j < n → it f i s ≠ it f j s
    · have h1 := nodup_le ((List.range n).map (fun i => it f i s)) D (by
        unfold List.Nodup
        rw [List.pairwise_map]
        exact List.Pairwise.imp_of_mem (fun {a b} ha hb hab => hd a b hab (List.mem_range.1 hb)) (List.pairwise_lt_range))
        (fun x hx => by
          obtain ⟨i, hi', rfl⟩ := List.mem_map.1 hx
          exact hD _ (hi i (List.mem_range.1 hi')).1)
      simp at h1
      omega
    · simp only [Classical.not_forall, Classical.not_not] at hd
      obtain ⟨i, j, hij, hj, e1⟩ := hd
      have a1 := (hi j hj).2 (n + 1 - j)
      rw [show n + 1 - j + j = n + 1 by omega, h, ← e1, ← (hi i (by omega)).2] at a1
      rw [follow_up a1.symm n (by omega)] at hx
      cases hx
theorem follow_eq {f : S → Option S} {D : List S} (hD : ∀ s, (f s).isSome = true → s ∈ D) : ∀ (k : Nat) (s : S), follow f (D.length + 1 + k) s = follow f (D.length + 1) s
  | 0, _ => rfl
  | k + 1, s => by
    cases h : follow f (D.length + 1) s with
    | some e => exact follow_up h _ (by omega)
    | none =>
      cases h2 : follow f (D.length + 1 + (k + 1)) s with
      | none => rfl
      | some e =>
        have h3 : follow f (D.length + 1 + k) s = some e := follow_less hD (n := D.length + 1 + k) (by omega) h2
        rw [follow_eq hD k s, h] at h3
        cases h3
def step (ls : List LinkV) (s : S) : Option S := (ls.find? fun x => decide (x.name = s)).map LinkV.target
def zat (zs : List S) (s : S) : Option Nat := zs.findIdx? fun z => decide (z = s)
def findV (zs : List S) (o : Option S) : Int × Int := match o with
  | none => (0, 13)
  | some e => match zat zs e with
    | none => (0, 12)
    | some i => (i, 0)
def find (zs : List S) (ls : List LinkV) (s : S) : Int × Int := findV zs (follow (step ls) (ls.length + 1) s)
theorem find_ok {zs : List S} {ls : List LinkV} {s : S} (h : (find zs ls s).2 = 0) : ∃ i : Nat, i < zs.length ∧ find zs ls s = ((i : Int), 0) := by
  unfold find findV at *
  split at h
  · cases h
  · split at h
    · cases h
    · rename_i i hi
      refine ⟨i, ?_, rfl⟩
      unfold zat at hi
      exact (List.findIdx?_eq_some_iff_findIdx_eq.1 hi).1
open Mp
def fold (ps : List Ent) (L : List Ent) : List Ent := ps.foldl (fun L p => put L p.1 p.2) L
theorem fold_snoc (ps : List Ent) (p : Ent) (L : List Ent) : fold (ps ++ [p]) L = put (fold ps L) p.1 p.2 := by unfold fold;rw [List.foldl_append];rfl
theorem get_fold (s : S) (L : List Ent) : ∀ ps : List Ent, get (fold ps.reverse L) s = match ps.find? (fun p => decide (p.1 = s)) with|some p => some p.2|none => get L s
  | [] => rfl
  | p :: ps => by
    rw [List.reverse_cons, fold_snoc, get_put, List.find?_cons]
    by_cases h : p.1 = s
    · simp [h]
    · simp only [h, decide_false, if_false]
      exact get_fold s L ps
theorem fold_len : ∀ (ps L : List Ent), (fold ps L).length ≤ L.length + ps.length
  | [], L => Nat.le_refl _
  | p :: ps, L => by
    have h1 := fold_len ps (put L p.1 p.2)
    have h2 := put_len p.1 p.2 L
    show (fold ps (put L p.1 p.2)).length ≤ _
    simp only [List.length_cons]
    omega
theorem mem_fold (s : S) : ∀ (ps L : List Ent), s ∈ (fold ps L).map (·.1) ↔ s ∈ L.map (·.1) ∨ s ∈ ps.map (·.1)
  | [], L => by simp [fold]
  | p :: ps, L => by
    show s ∈ (fold ps (put L p.1 p.2)).map (·.1) ↔ _
    rw [mem_fold s ps, put_keys, List.map_cons, List.mem_cons]
    constructor
    · rintro (h|h)
      · split at h
        · exact .inl h
        · rcases List.mem_append.1 h with h|h
          · exact .inl h
          · rw [List.mem_singleton] at h
            exact .inr (.inl h)
      · exact .inr (.inr h)
    · rintro (h|rfl|h)
      · refine .inl ?_
        split
        · exact h
        · exact List.mem_append.2 (.inl h)
      · refine .inl ?_
        split
        · assumption
        · exact List.mem_append.2 (.inr (List.mem_singleton.2 rfl))
      · exact .inr h
theorem fold_bool {ps L : List Ent} (hp : ∀ p ∈ ps, ∃ x, p.2 = .bool x) (hL : ∀ p ∈ L, ∃ x, p.2 = .bool x) : ∀ p ∈ fold ps L, ∃ x, p.2 = .bool x := by
  induction ps generalizing L with
  | nil => exact hL
  | cons q ps ih =>
    refine ih (fun p h => hp p (by simp [h])) (L := put L q.1 q.2) ?_
    intro p h
    have hq := hp q (by simp)
    clear ih hp
    induction L with
    | nil => simp [put] at h;rw [h];exact hq
    | cons a r ihr =>
      unfold put at h
      split at h
      · rcases List.mem_cons.1 h with rfl|h
        · exact hq
        · exact hL p (by simp [h])
      · rcases List.mem_cons.1 h with rfl|h
        · exact hL _ (by simp)
        · exact ihr (fun p h => hL p (by simp [h])) h
def zps (zs : List S) : List Ent := zs.zipIdx.map fun p => (p.1, .int .i64 (p.2 : Int))
def lps (ls : List LinkV) : List Ent := ls.map fun x => (x.name, .string x.target)
def zmap (zs : List S) : List Ent := fold (zps zs).reverse []
def lmap (ls : List LinkV) : List Ent := fold (lps ls).reverse []
theorem lmap_len (ls : List LinkV) : (lmap ls).length ≤ ls.length := by
  have := fold_len (lps ls).reverse []
  simpa [lmap, lps] using this
theorem find_zps (s : S) : ∀ (zs : List S) (k : Nat), ((zs.zipIdx k).map fun p => ((p.1, .int .i64 (p.2 : Int)) : Ent)).find? (fun p => decide (p.1 = s)) = (zs.findIdx? fun z => decide (z = s)).map fun i => (s, .int .i64 ((i + k : Nat) : Int))
  | [], k => rfl
  | z :: zs, k => by
    rw [List.zipIdx_cons, List.map_cons, List.find?_cons, List.findIdx?_cons]
    by_cases h : z = s
    · simp [h]
    · simp only [h, decide_false]
      rw [find_zps s zs (k + 1), if_neg (by simp), Option.map_map]
      congr 1
      funext i
      show _ = (s, Value.int .i64 ((i + 1 + k : Nat) : Int))
      rw [show i + (k + 1) = i + 1 + k by omega]
theorem get_zmap (zs : List S) (s : S) : get (zmap zs) s = (zat zs s).map fun i => .int .i64 (i : Int) := by
  unfold zmap
  rw [get_fold, show zps zs = (zs.zipIdx 0).map fun p => ((p.1, .int .i64 (p.2 : Int)) : Ent) from rfl, find_zps]
  unfold zat
  cases zs.findIdx? (fun z => decide (z = s)) <;> rfl
theorem get_lmap (ls : List LinkV) (s : S) : get (lmap ls) s = (step ls s).map Value.string := by
  unfold lmap
  rw [get_fold]
  unfold lps step
  rw [List.find?_map]
  have e : ((fun p : Ent => decide (p.1 = s)) ∘ fun x : LinkV => ((x.name, Value.string x.target) : Ent)) = fun x => decide (x.name = s) := rfl
  rw [e]
  cases ls.find? (fun x => decide (x.name = s)) <;> rfl
theorem follow_lmap (ls : List LinkV) (s : S) : follow (step ls) ((lmap ls).length + 1) s = follow (step ls) (ls.length + 1) s := by
  have h := follow_eq (f := step ls) (D := (lmap ls).map (·.1)) (fun x hx => by
    have h1 := get_lmap ls x
    cases hs : step ls x with
    | none => rw [hs] at hx;cases hx
    | some y =>
      rw [hs] at h1
      exact List.mem_map.2 ⟨_, get_mem h1, rfl⟩) (ls.length - (lmap ls).length) s
  rw [List.length_map] at h
  rw [← h]
  have := lmap_len ls
  congr 1
  omega
end Bk
end Go.Proofs.YtcfmchpoclkpgaaGreatDoor
