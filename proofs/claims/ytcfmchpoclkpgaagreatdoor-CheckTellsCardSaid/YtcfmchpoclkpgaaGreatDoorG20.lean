import Derived.Test.YtcfmchpoclkpgaaGreatDoorG19
import Derived.Sort.Walk0
import Derived.Test.YtcfmchpoclkpgaaGreatDoorG16
import Derived.Test.YtcfmchpoclkpgaaGreatDoorG17
import Derived.Test.YtcfmchpoclkpgaaGreatDoorG18
import Derived.Test.YtcfmchpoclkpgaaGreatDoorG3
namespace Go.Proofs.YtcfmchpoclkpgaaGreatDoor
open Go.RowKit NB
namespace Bk
def pall (zs : List S) (ls : List LinkV) : List (List S) := (List.range zs.length).map (palias zs ls)
def pnames (zs : List S) (ls : List LinkV) : List S := SrtS.sortL (pall zs ls).flatten
end Bk
namespace BkW
end BkW
end Go.Proofs.YtcfmchpoclkpgaaGreatDoor
namespace Go.Proofs.YtcfmchpoclkpgaaGreatDoor
namespace Bk
def lt (a b : S) : Prop := a.data.toList < b.data.toList
abbrev Rising (l : List S) : Prop := l.Pairwise lt
open Classical in
noncomputable def ins (s : S) : List S → List S
  | [] => [s]
  | x :: r => if lt s x then s :: x :: r else if s = x then x :: r else x :: ins s r
end Bk
end Go.Proofs.YtcfmchpoclkpgaaGreatDoor
namespace Go.Proofs.YtcfmchpoclkpgaaGreatDoor
namespace Bk
def cnt (zs : List S) (ls : List LinkV) (k : Nat) : Nat := ((List.range k).map fun i => (palias zs ls i).length).sum
end Bk
end Go.Proofs.YtcfmchpoclkpgaaGreatDoor
namespace Go.Proofs.YtcfmchpoclkpgaaGreatDoor
namespace Chk
theorem check_start (l : List RuleV) : check l = scan (l.take 0) (l.drop 0) (0 : Nat) := rfl
theorem check_none {l : List RuleV} (h : ∀ k r, l[k]? = some r → firstBad r (same r (l.take k)) = 0) : check l = (-1, 0) := by
  have H : ∀ d k : Nat, k + d = l.length → scan (l.take k) (l.drop k) k = (-1, 0) := by
    intro d
    induction d with
    | zero =>
      intro k hk
      rw [List.drop_eq_nil_of_le (by omega)]
      rfl
    | succ d ih =>
      intro k hk
      have hr := List.getElem?_eq_getElem (l := l) (i := k) (by omega)
      rw [check_at hr, if_pos (h k _ hr)]
      exact ih (k + 1) (by omega)
  rw [check_start]
  exact H l.length 0 (by omega)
theorem check_some {l : List RuleV} {k : Nat} {r : RuleV} (hr : l[k]? = some r) (hb : firstBad r (same r (l.take k)) ≠ 0) (h : ∀ k' r', k' < k → l[k']? = some r' → firstBad r' (same r' (l.take k')) = 0) : check l = ((k : Int), firstBad r (same r (l.take k))) := by
  have hk : k < l.length := (List.getElem?_eq_some_iff.1 hr).1
  have H : ∀ d k' : Nat, k' + d = k → scan (l.take k') (l.drop k') k' = ((k : Int), firstBad r (same r (l.take k))) := by
    intro d
    induction d with
    | zero =>
      intro k' hk'
      obtain rfl : k' = k := by omega
      rw [check_at hr, if_neg hb]
    | succ d ih =>
      intro k' hk'
      have hr' := List.getElem?_eq_getElem (l := l) (i := k') (by omega)
      rw [check_at hr', if_pos (h k' _ (by omega) hr')]
      exact ih (k' + 1) (by omega)
  rw [check_start]
  exact H k 0 (by omega)
theorem check_cases (l : List RuleV) : (∀ k r, l[k]? = some r → firstBad r (same r (l.take k)) = 0) ∨ ∃ k r, l[k]? = some r ∧ firstBad r (same r (l.take k)) ≠ 0 ∧ ∀ k' r', k' < k → l[k']? = some r' → firstBad r' (same r' (l.take k')) = 0 := by
  have H : ∀ m, (∀ k r, k < m → l[k]? = some r → firstBad r (same r (l.take k)) = 0) ∨ ∃ k r, l[k]? = some r ∧ firstBad r (same r (l.take k)) ≠ 0 ∧ ∀ k' r', k' < k → l[k']? = some r' → firstBad r' (same r' (l.take k')) = 0 := by
    intro m
    induction m with
    | zero => left;intro k r hk;omega
    | succ m ih =>
      rcases ih with h|h
      · cases hm : l[m]? with
        | none =>
          left
          intro k r hk hr
          by_cases e : k = m
          · subst e;rw [hm] at hr;cases hr
          · exact h k r (by omega) hr
        | some r =>
          by_cases hz : firstBad r (same r (l.take m)) = 0
          · left
            intro k r' hk hr
            by_cases e : k = m
            · subst e;rw [hm] at hr;cases hr;exact hz
            · exact h k r' (by omega) hr
          · exact .inr ⟨m, r, hm, hz, fun k' r' hk' hr' => h k' r' hk' hr'⟩
      · exact .inr h
  rcases H l.length with h|h
  · exact .inl (fun k r hr => h k r (List.getElem?_eq_some_iff.1 hr).1 hr)
  · exact .inr h
theorem check_take (l : List RuleV) (i : Nat) (_ : i < l.length) : check (l.take (i + 1)) = if 0 ≤ (check l).1 ∧ (check l).1 ≤ i then check l else (-1, 0) := by
  rcases check_cases l with h|⟨k, r, hr, hb, h⟩
  · rw [check_none h, if_neg (fun h0 => absurd (show (0 : Int) ≤ -1 from h0.1) (by decide)), check_none]
    intro k r hr
    rw [List.getElem?_take] at hr
    split at hr
    · rw [List.take_take, Nat.min_eq_left (by omega)]
      exact h k r hr
    · cases hr
  · rw [check_some hr hb h]
    dsimp only
    by_cases hk : k ≤ i
    · rw [if_pos ⟨by omega, by omega⟩]
      have := check_some (l := l.take (i + 1)) (k := k) (r := r) (by rw [List.getElem?_take, if_pos (by omega)];exact hr) (by rw [List.take_take, Nat.min_eq_left (by omega)];exact hb) (fun k' r' hk' hr' => by
        rw [List.getElem?_take, if_pos (by omega)] at hr'
        rw [List.take_take, Nat.min_eq_left (by omega)]
        exact h k' r' hk' hr')
      rw [this, List.take_take, Nat.min_eq_left (by omega)]
    · rw [if_neg (by omega), check_none]
      intro k' r' hr'
      rw [List.getElem?_take] at hr'
      split at hr'
      · rw [List.take_take, Nat.min_eq_left (by omega)]
        exact h k' r' (by omega) hr'
      · cases hr'
theorem check_lt (l : List RuleV) : (check l).1 < l.length := by
  rcases check_cases l with h|⟨k, r, hr, hb, h⟩
  · rw [check_none h]
    show (-1 : Int) < _
    omega
  · rw [check_some hr hb h]
    have := (List.getElem?_eq_some_iff.1 hr).1
    show (k : Int) < _
    omega
end Chk
namespace Ck
abbrev Fault := Int × Int
def less (a b : Fault) : Fault := if b.2 ≠ 0 ∧ (a.2 = 0 ∨ b.1 < a.1) then b else a
def run (f : Fault) (l : List Fault) : Fault := l.foldl less f
theorem run_snoc (f : Fault) (l : List Fault) (x : Fault) : run f (l ++ [x]) = less (run f l) x := by unfold run;rw [List.foldl_append];rfl
theorem run_app (f : Fault) (l m : List Fault) : run f (l ++ m) = run (run f l) m := by unfold run;rw [List.foldl_append]
theorem less_ok (f : Fault) (x : Int) : less f (x, 0) = f := by unfold less;rw [if_neg (fun h => h.1 rfl)]
theorem run_one {g : Nat → Fault} {j : Nat} (h : ∀ i, i ≠ j → (g i).2 = 0) (f : Fault) : ∀ m, run f ((List.range m).map g) = if j < m then less f (g j) else f
  | 0 => by rw [if_neg (by omega)];rfl
  | m + 1 => by
    rw [List.range_succ, List.map_append, List.map_cons, List.map_nil, run_snoc, run_one h f m]
    by_cases hm : m = j
    · subst hm
      rw [if_neg (by omega), if_pos (by omega)]
    · have e : g m = ((g m).1, 0) := Prod.ext rfl (h m hm)
      rw [e, less_ok]
      by_cases hj : j < m
      · rw [if_pos hj, if_pos (by omega)]
      · rw [if_neg hj, if_neg (by omega)]
theorem run_ok {g : Nat → Fault} (h : ∀ i, (g i).2 = 0) (f : Fault) (m : Nat) : run f ((List.range m).map g) = f := by
  rw [run_one (j := m) (fun i _ => h i), if_neg (by omega)]
def named (l : List RuleV) (s : ByteArray) : Bool := l.any fun r => decide (r.name = s)
noncomputable def eraF (l : List RuleV) (done : List ByteArray) (name : ByteArray) (es : List EraV) (i : Nat) (e : EraV) : Int :=
  if i = 0 ∧ (done.any fun y => decide (y = name)) = true then 11 else if e.kind = 2 ∧ named l e.rules = false then 12 else if (Unt.checkU l es).1 = i then (Unt.checkU l es).2 else 0
noncomputable def eraFs (l : List RuleV) (done : List ByteArray) (name : ByteArray) (es : List EraV) (ns : List Int) : List Fault := es.zipIdx.map fun p => (ns.getD p.2 0, eraF l done name es p.2 p.1)
noncomputable def zoneFs (l : List RuleV) (zs : List ZoneV) (ns : List (List Int)) : List Fault := zs.zipIdx.flatMap fun p => eraFs l ((zs.take p.2).map ZoneV.name) p.1.name p.1.es (ns.getD p.2 [])
def ruleF (l : List RuleV) (i : Nat) : Int := if (Chk.check (l.take (i + 1))).1 = i then (Chk.check (l.take (i + 1))).2 else 0
def ruleFs (l : List RuleV) (ns : List Int) : List Fault := (List.range l.length).map fun i => (ns.getD i 0, ruleF l i)
def linkF (zs : List ByteArray) (ls : List LinkV) (i : Nat) (x : LinkV) : Int := if ((zs ++ (ls.take i).map LinkV.name).any fun y => decide (y = x.name)) = true then 11 else (Bk.find zs ls x.name).2
def linkFs (zs : List ByteArray) (ls : List LinkV) (ns : List Int) : List Fault := ls.zipIdx.map fun p => (ns.getD p.2 0, linkF zs ls p.2 p.1)
theorem rules_one (l : List RuleV) (ns : List Int) (f : Fault) : run f (ruleFs l ns) = if 0 ≤ (Chk.check l).1 then less f (ns.getD (Chk.check l).1.toNat 0, (Chk.check l).2) else f := by
  have hlt := Chk.check_lt l
  have e : ruleFs l ns = (List.range l.length).map fun i => (ns.getD i 0, if i < l.length then ruleF l i else 0) := by
    unfold ruleFs
    refine List.map_congr_left (fun i hi => ?_)
    rw [if_pos (List.mem_range.1 hi)]
  rw [e]
  by_cases h : 0 ≤ (Chk.check l).1
  · rw [if_pos h]
    have hj : ((Chk.check l).1.toNat : Int) = (Chk.check l).1 := by omega
    rw [run_one (j := (Chk.check l).1.toNat)]
    · rw [if_pos (by omega), if_pos (by omega)]
      unfold ruleF
      have e2 : Chk.check (l.take ((Chk.check l).1.toNat + 1)) = Chk.check l := by rw [Chk.check_take l _ (by omega), if_pos ⟨h, by omega⟩]
      rw [e2, if_pos hj.symm]
    · intro i hi
      dsimp only
      split
      · rename_i hil
        unfold ruleF
        rw [Chk.check_take l i hil]
        split
        · rw [if_neg (by omega)]
        · rw [if_neg (by show ¬ ((-1 : Int) = i);omega)]
      · rfl
  · rw [if_neg h]
    refine run_ok (fun i => ?_) f _
    dsimp only
    split
    · rename_i hil
      unfold ruleF
      have e2 : Chk.check (l.take (i + 1)) = (-1, 0) := by rw [Chk.check_take l i hil, if_neg (by omega)]
      rw [e2, if_neg (by show ¬ ((-1 : Int) = i);omega)]
    · rfl
end Ck
end Go.Proofs.YtcfmchpoclkpgaaGreatDoor
namespace Go.Proofs.YtcfmchpoclkpgaaGreatDoor
namespace Bk
end Bk
end Go.Proofs.YtcfmchpoclkpgaaGreatDoor
namespace Go.Proofs.YtcfmchpoclkpgaaGreatDoor
open Go.RowKit Go.ChangeShapes Go.WideShapes
def intC (n : Int) : List Value := [.int .i64 n]
structure RowN where
  v : Value
  ns : List Int
def RowN.cells (r : RowN) : List Value := [r.v]
structure RowN.Fit (w : World) (r : RowN) : Prop where
  h : HoldsG 1 intC w r.v r.ns
  f : ∀ n ∈ r.ns, I64 n
theorem RowN.Fit.later {w w' : World} {r : RowN} (h : r.Fit w) (hb : Below w.heap.size w w') : r.Fit w' := ⟨h.h.later hb, h.f⟩
structure WhV where
  rv : Value
  ev : Value
  lv : Value
  rs : List Int
  es : List RowN
  ls : List Int
def WhV.cells (x : WhV) : List Value := [x.rv, x.ev, x.lv]
structure HoldsW (w : World) (x : WhV) : Prop where
  r : HoldsG 1 intC w x.rv x.rs
  rf : ∀ n ∈ x.rs, I64 n
  e : HoldsG 1 RowN.cells w x.ev x.es
  ef : ∀ y ∈ x.es, y.Fit w
  l : HoldsG 1 intC w x.lv x.ls
  lf : ∀ n ∈ x.ls, I64 n
theorem HoldsW.later {w w' : World} {x : WhV} (h : HoldsW w x) (hb : Below w.heap.size w w') : HoldsW w' x :=
  ⟨h.r.later hb, h.rf, h.e.later hb, fun y hy => (h.ef y hy).later hb, h.l.later hb, h.lf⟩
instance : Inhabited RowN := ⟨⟨.slice none 0 0, []⟩⟩
section
variable {H : Type} {enc : TypeId × Value → H} {w : World} {base : Nat} {spare : Nat → Bool} {held : Bool}
theorem int_cells {fuel : Nat} {cs : List Value} {x : DataW H × List MemPlace} (h : DataW.trod enc Tryz.prog w base spare held fuel 3 cs = some x) : ∃ n : Int, cs = intC n ∧ I64 n := by
  obtain ⟨n, h1, _, h2⟩ := DataW.trod_int Tryz.underlying3 h
  have h3 : (decide (IntKind.i64.min ≤ n) && decide (n ≤ IntKind.i64.max)) = true := h2
  rw [show IntKind.i64.min = -9223372036854775808 from rfl, show IntKind.i64.max = 9223372036854775807 from rfl] at h3
  simp only [Bool.and_eq_true, decide_eq_true_eq] at h3
  exact ⟨n, h1, h3⟩
theorem ints_open {fuel : Nat} {cs : List Value} {x : DataW H × List MemPlace} (h : DataW.trod enc Tryz.prog w base spare held fuel 27 cs = some x) :
    ∃ (v : Value) (l : List Int), cs = [v] ∧ (HoldsG 1 intC w v l ∧ ∀ a ∈ l, I64 a) ∧ (l = [] ∨ ∃ es sp, x.1 = .slice es sp ∧ es.length = l.length) :=
  slice_open (k := 1) (f := intC) (F := I64) (fun _ => rfl) (by decide) Tryz.underlying27 (by kernel_rfl) int_cells h
theorem row_cells {fuel : Nat} {cs : List Value} {x : DataW H × List MemPlace} (h : DataW.trod enc Tryz.prog w base spare held fuel 27 cs = some x) : ∃ r : RowN, cs = r.cells ∧ r.Fit w := by
  obtain ⟨v, l, h1, h2, _⟩ := ints_open h
  exact ⟨⟨v, l⟩, h1, ⟨h2.1, h2.2⟩⟩
theorem rows_open {fuel : Nat} {cs : List Value} {x : DataW H × List MemPlace} (h : DataW.trod enc Tryz.prog w base spare held fuel 28 cs = some x) :
    ∃ (v : Value) (l : List RowN), cs = [v] ∧ (HoldsG 1 RowN.cells w v l ∧ ∀ a ∈ l, a.Fit w) ∧ (l = [] ∨ ∃ es sp, x.1 = .slice es sp ∧ es.length = l.length) :=
  slice_open (k := 1) (f := RowN.cells) (F := RowN.Fit w) (fun _ => rfl) (by decide) Tryz.underlying28 (by kernel_rfl) row_cells h
set_option maxRecDepth 100000 in
theorem where_cells {fuel : Nat} {cs : List Value} {x : DataW H × List MemPlace} (h : DataW.trod enc Tryz.prog w base spare held fuel 30 cs = some x) : ∃ t : WhV, cs = t.cells ∧ HoldsW w t := by
  obtain ⟨xs, n, _, hx1, hlen, hxl, hg⟩ := DataW.trod_struct Tryz.underlying30 h
  match cs, hlen.trans (show Tryz.prog.cellsOf 30 = 3 by kernel_rfl) with
  | [v0, v1, v2], _ =>
    have hxl8 : xs.length = 3 := hxl
    have g0 : DataW.trod enc Tryz.prog w base spare held n 27 (([v0, v1, v2].drop 0).take (Tryz.prog.cellsOf 27)) = xs[0]? := hg 0 _ rfl
    rw [show Tryz.prog.cellsOf 27 = 1 by kernel_rfl] at g0
    replace g0 : DataW.trod enc Tryz.prog w base spare held n 27 [v0] = xs[0]? := g0
    have g1 : DataW.trod enc Tryz.prog w base spare held n 28 (([v0, v1, v2].drop 1).take (Tryz.prog.cellsOf 28)) = xs[1]? := hg 1 _ rfl
    rw [show Tryz.prog.cellsOf 28 = 1 by kernel_rfl] at g1
    replace g1 : DataW.trod enc Tryz.prog w base spare held n 28 [v1] = xs[1]? := g1
    have g2 : DataW.trod enc Tryz.prog w base spare held n 27 (([v0, v1, v2].drop 2).take (Tryz.prog.cellsOf 27)) = xs[2]? := hg 2 _ rfl
    rw [show Tryz.prog.cellsOf 27 = 1 by kernel_rfl] at g2
    replace g2 : DataW.trod enc Tryz.prog w base spare held n 27 [v2] = xs[2]? := g2
    obtain ⟨y0, hy0⟩ := at_some (i := 0) hxl8 (by decide)
    rw [hy0] at g0
    obtain ⟨w0, s0, hs0, f0, q0⟩ := ints_open g0
    simp only [List.cons.injEq, and_true] at hs0
    obtain rfl := hs0
    obtain ⟨y1, hy1⟩ := at_some (i := 1) hxl8 (by decide)
    rw [hy1] at g1
    obtain ⟨w1, s1, hs1, f1, q1⟩ := rows_open g1
    simp only [List.cons.injEq, and_true] at hs1
    obtain rfl := hs1
    obtain ⟨y2, hy2⟩ := at_some (i := 2) hxl8 (by decide)
    rw [hy2] at g2
    obtain ⟨w2, s2, hs2, f2, q2⟩ := ints_open g2
    simp only [List.cons.injEq, and_true] at hs2
    obtain rfl := hs2
    exact ⟨⟨_, _, _, s0, s1, s2⟩, rfl, ⟨f0.1, f0.2, f1.1, f1.2, f2.1, f2.2⟩⟩
end
end Go.Proofs.YtcfmchpoclkpgaaGreatDoor
namespace Go.Proofs.YtcfmchpoclkpgaaGreatDoor
namespace Ck
theorem run_take {L : List Fault} {i : Nat} {x : Fault} (h : L[i]? = some x) (f : Fault) : run f (L.take (i + 1)) = less (run f (L.take i)) x := by
  rw [List.take_add_one, h]
  exact run_snoc f _ x
def lines (rs : List Int) (es : List (List Int)) (ls : List Int) : List Int := rs ++ ls ++ es.flatten
def zoneOk (p : ZoneV × List Int) : Bool := Zn.zoneB p.1.es && decide (p.2.length = p.1.es.length)
def whereB (nr : Nat) (zs : List ZoneV) (nl : Nat) (rs : List Int) (es : List (List Int)) (ls : List Int) : Bool :=
  decide (rs.length = nr) && (decide (es.length = zs.length) && (decide (ls.length = nl) && ((zs.zip es).all zoneOk && (lines rs es ls).all fun n => decide (1 ≤ n))))
noncomputable def all (l : List RuleV) (zs : List ZoneV) (ls : List LinkV) (rs : List Int) (es : List (List Int)) (ns : List Int) : List Fault :=
  zoneFs l zs es ++ (ruleFs l rs ++ linkFs (zs.map ZoneV.name) ls ns)
noncomputable def chk (l : List RuleV) (zs : List ZoneV) (ls : List LinkV) (rs : List Int) (es : List (List Int)) (ns : List Int) : Fault :=
  if whereB l.length zs ls.length rs es ns = true then run (0, 0) (all l zs ls rs es ns) else (0, 4)
theorem where_parts {nr : Nat} {zs : List ZoneV} {nl : Nat} {rs : List Int} {es : List (List Int)} {ls : List Int} (h : whereB nr zs nl rs es ls = true) :
    rs.length = nr ∧ es.length = zs.length ∧ ls.length = nl ∧ (∀ p ∈ zs.zip es, Zn.zoneB p.1.es = true ∧ p.2.length = p.1.es.length) ∧ ∀ n ∈ lines rs es ls, 1 ≤ n := by
  unfold whereB at h
  simp only [Bool.and_eq_true, decide_eq_true_eq, List.all_eq_true] at h
  obtain ⟨h1, h2, h3, h4, h5⟩ := h
  refine ⟨h1, h2, h3, fun p hp => ?_, h5⟩
  have := h4 p hp
  unfold zoneOk at this
  simpa using this
theorem whereB_of {nr : Nat} {zs : List ZoneV} {nl : Nat} {rs : List Int} {es : List (List Int)} {ls : List Int} (h1 : rs.length = nr) (h2 : es.length = zs.length) (h3 : ls.length = nl) (h4 : (zs.zip es).all zoneOk = true) (h5 : ((lines rs es ls).all fun n => decide (1 ≤ n)) = true) : whereB nr zs nl rs es ls = true := by
  unfold whereB
  rw [decide_eq_true h1, decide_eq_true h2, decide_eq_true h3, h4, h5]
  rfl
structure Fine (l : List RuleV) (zs : List ZoneV) (ls : List LinkV) : Prop where
  rules : Chk.check l = (-1, 0)
  zones : Bk.twice [] (zs.map ZoneV.name) < 0
  links : Bk.twice (zs.map ZoneV.name) (ls.map LinkV.name) < 0
  find : ∀ x ∈ ls, (Bk.find (zs.map ZoneV.name) ls x.name).2 = 0
  eras : ∀ z ∈ zs, Unt.checkU l z.es = (-1, 0)
  named : ∀ z ∈ zs, ∀ e ∈ z.es, e.kind = 2 → named l e.rules = true
theorem any_name {l : List ByteArray} {s : ByteArray} : (l.any fun y => decide (y = s)) = true ↔ s ∈ l := by
  rw [List.any_eq_true]
  constructor
  · rintro ⟨y, hy, e⟩
    rw [decide_eq_true_eq] at e
    rw [← e]
    exact hy
  · intro h
    exact ⟨s, h, decide_eq_true rfl⟩
def up (m n : Nat) : List Int := (List.range n).map fun i => ((m + i + 1 : Nat) : Int)
theorem up_zero (m : Nat) : up m 0 = [] := rfl
def sumE : List ZoneV → Nat
  | [] => 0
  | z :: zs => z.es.length + sumE zs
def upE : Nat → List ZoneV → List (List Int)
  | _, [] => []
  | m, z :: zs => up m z.es.length :: upE (m + z.es.length) zs
noncomputable def chkP (l : List RuleV) (zs : List ZoneV) (ls : List LinkV) : Fault := chk l zs ls (up 0 l.length) (upE l.length zs) (up (l.length + sumE zs) ls.length)
noncomputable def zoneTo (l : List RuleV) (zs : List ZoneV) (ns : List (List Int)) (k : Nat) : List Fault := (zs.zipIdx.take k).flatMap fun p => eraFs l ((zs.take p.2).map ZoneV.name) p.1.name p.1.es (ns.getD p.2 [])
theorem zoneTo_zero (l : List RuleV) (zs : List ZoneV) (ns : List (List Int)) : zoneTo l zs ns 0 = [] := rfl
theorem zoneTo_succ {l : List RuleV} {zs : List ZoneV} {ns : List (List Int)} {k : Nat} {z : ZoneV} (hz : zs[k]? = some z) : zoneTo l zs ns (k + 1) = zoneTo l zs ns k ++ eraFs l ((zs.take k).map ZoneV.name) z.name z.es (ns.getD k []) := by
  unfold zoneTo
  have h : zs.zipIdx[k]? = some (z, k) := by rw [List.getElem?_zipIdx, hz];simp
  rw [List.take_add_one, h, List.flatMap_append]
  simp
theorem zoneTo_all {l : List RuleV} {zs : List ZoneV} {ns : List (List Int)} : zoneTo l zs ns zs.length = zoneFs l zs ns := by
  unfold zoneTo zoneFs
  rw [List.take_of_length_le (by simp)]
theorem eraFs_at {l : List RuleV} {done : List ByteArray} {name : ByteArray} {es : List EraV} {ns : List Int} {i : Nat} {e : EraV} (he : es[i]? = some e) : (eraFs l done name es ns)[i]? = some (ns.getD i 0, eraF l done name es i e) := by
  unfold eraFs
  rw [List.getElem?_map, List.getElem?_zipIdx, he]
  simp
theorem eraFs_len {l : List RuleV} {done : List ByteArray} {name : ByteArray} {es : List EraV} {ns : List Int} : (eraFs l done name es ns).length = es.length := by unfold eraFs;simp
theorem linkFs_at {zs : List ByteArray} {ls : List LinkV} {ns : List Int} {i : Nat} {x : LinkV} (hx : ls[i]? = some x) : (linkFs zs ls ns)[i]? = some (ns.getD i 0, linkF zs ls i x) := by
  unfold linkFs
  rw [List.getElem?_map, List.getElem?_zipIdx, hx]
  simp
theorem linkFs_len {zs : List ByteArray} {ls : List LinkV} {ns : List Int} : (linkFs zs ls ns).length = ls.length := by unfold linkFs;simp
theorem ruleFs_at {l : List RuleV} {rs : List Int} {i : Nat} (hi : i < l.length) : (ruleFs l rs)[i]? = some (rs.getD i 0, ruleF l i) := by
  unfold ruleFs
  rw [List.getElem?_map, List.getElem?_range hi]
  rfl
theorem ruleFs_len {l : List RuleV} {rs : List Int} : (ruleFs l rs).length = l.length := by unfold ruleFs;simp
end Ck
end Go.Proofs.YtcfmchpoclkpgaaGreatDoor
namespace Go.Proofs.YtcfmchpoclkpgaaGreatDoor
open Go.RowKit NB
namespace Us
def us0 : RuleV := ⟨⟨#[85, 83]⟩, 2007, 32767, 3, 2, 0, 8, 7200, 0, 3600, ⟨#[68]⟩⟩
def us1 : RuleV := ⟨⟨#[85, 83]⟩, 2007, 32767, 11, 2, 0, 1, 7200, 0, 0, ⟨#[83]⟩⟩
def eu : RuleV := ⟨⟨#[69, 85]⟩, 1981, 32767, 3, 1, 0, 0, 3600, 2, 3600, ⟨#[83]⟩⟩
theorem Eu (w : World) : Calls Tryz.prog 26 #[] w fun e w' => e = .returned (.agg eu.cells.toArray) ∧ Below w.heap.size w w' := by
  unfold eu RuleV.cells
  go_enter Tryz.func26, Tryz.ntmps26
  go_wp2
  refine bodyPost_ret (v := .agg #[.string ⟨#[69, 85]⟩, .int .i64 1981, .int .i64 32767, .int .i64 3, .int .i64 1, .int .i64 0, .int .i64 0, .int .i64 3600, .int .i64 2, .int .i64 3600, .string ⟨#[83]⟩]) ?_ rfl ⟨rfl, ?_⟩
  · simp only [results, Tryz.results26]
    go_simp
  · exact (Below.refl _ _).alloc (Nat.le_refl _) _
def zero : RuleV := ⟨⟨#[]⟩, 0, 0, 0, 0, 0, 0, 0, 0, 0, ⟨#[]⟩⟩
def enn : RuleV := ⟨⟨#[69, 85]⟩, 1981, 32767, 4, 0, 0, 1, 3600, 2, 3600, ⟨#[83]⟩⟩
def emm : RuleV := ⟨⟨#[69, 85]⟩, 1992, 32767, 4, 0, 0, 1, 3600, 2, 3600, ⟨#[83]⟩⟩
def eoo : RuleV := ⟨⟨#[69, 85]⟩, 1981, 1990, 3, 1, 0, 0, 3600, 2, 3600, ⟨#[83]⟩⟩
theorem fit_eu : eu.Fit := ⟨by decide, by decide, by unfold I64;decide, by unfold I64;decide, by unfold I64;decide, by unfold I64;decide⟩
end Us
end Go.Proofs.YtcfmchpoclkpgaaGreatDoor
namespace Go.Proofs.YtcfmchpoclkpgaaGreatDoor
open Go.RowKit NB
namespace Us
end Us
end Go.Proofs.YtcfmchpoclkpgaaGreatDoor
namespace Go.Proofs.YtcfmchpoclkpgaaGreatDoor
namespace CkL
open Ck
abbrev sA : ByteArray := ⟨#[65]⟩
abbrev sB : ByteArray := ⟨#[66]⟩
def e0 : EraV := ⟨0, 2, 0, ⟨#[69, 85]⟩, ⟨#[88]⟩, ⟨false, 0, 0, 0, 0, 0, 0, 0⟩⟩
def zA (v : Value) : ZoneV := ⟨sA, v, [e0]⟩
def zE : ZoneV := ⟨⟨#[]⟩, .slice none 0 0, []⟩
def lL : List LinkV := [⟨sB, sA⟩, ⟨sA, sB⟩]
def lM : List LinkV := [⟨sB, sA⟩]
theorem ok0 : Zn.zoneB [e0] = true := by decide +kernel
theorem cu (l : List RuleV) : Unt.checkU l [e0] = (-1, 0) := by
  unfold Unt.checkU
  rw [if_pos ok0]
  rfl
theorem era1 (l : List RuleV) (done : List ByteArray) (name : ByteArray) (ns : List Int) : eraFs l done name [e0] ns = [(ns.getD 0 0, if (done.any fun y => decide (y = name)) = true then 11 else if named l ⟨#[69, 85]⟩ = false then 12 else 0)] := by
  have h : eraF l done name [e0] 0 e0 = if (done.any fun y => decide (y = name)) = true then 11 else if named l ⟨#[69, 85]⟩ = false then 12 else 0 := by
    unfold eraF
    rw [cu]
    by_cases h1 : (done.any fun y => decide (y = name)) = true
    · rw [if_pos ⟨rfl, h1⟩, if_pos h1]
    · rw [if_neg (fun h => h1 h.2), if_neg h1]
      by_cases h2 : named l ⟨#[69, 85]⟩ = false
      · rw [if_pos ⟨rfl, h2⟩, if_pos h2]
      · rw [if_neg (fun h => h2 h.2), if_neg h2, if_neg (show ¬ ((-1 : Int) = ((0 : Nat) : Int)) by decide)]
  show [(ns.getD 0 0, eraF l done name [e0] 0 e0)] = _
  rw [h]
theorem z1 (l : List RuleV) (v : Value) (n : Int) : zoneFs l [zA v] [[n]] = [(n, if named l ⟨#[69, 85]⟩ = false then 12 else 0)] := by
  show eraFs l [] sA [e0] [n] ++ [] = _
  rw [era1, List.append_nil]
  rfl
theorem z2 (l : List RuleV) (v u : Value) (n m : Int) : zoneFs l [zA v, zA u] [[n], [m]] = [(n, if named l ⟨#[69, 85]⟩ = false then 12 else 0), (m, 11)] := by
  show eraFs l [] sA [e0] [n] ++ (eraFs l [sA] sA [e0] [m] ++ []) = _
  rw [era1, era1, List.append_nil]
  have h : ([sA].any fun y => decide (y = sA)) = true := by decide +kernel
  rw [if_pos h]
  rfl
theorem wh (nr nl : Nat) (zs : List ZoneV) (rs : List Int) (es : List (List Int)) (ls : List Int) (h1 : rs.length = nr) (h2 : es.length = zs.length) (h3 : ls.length = nl) (h4 : (zs.zip es).all zoneOk = true) (h5 : ((lines rs es ls).all fun n => decide (1 ≤ n)) = true) : whereB nr zs nl rs es ls = true := whereB_of h1 h2 h3 h4 h5
theorem okA (v : Value) (n : Int) : zoneOk (zA v, [n]) = true := by
  unfold zoneOk zA
  dsimp only
  rw [ok0]
  rfl
theorem k1 (v : Value) : chk [] [zA v] [] [] [[1]] [] = (1, 12) := by
  unfold chk
  have hw : whereB ([] : List RuleV).length [zA v] ([] : List LinkV).length [] [[1]] [] = true := wh _ _ _ _ _ _ rfl rfl rfl (by simp [okA]) (by decide)
  rw [if_pos hw, show all [] [zA v] [] [] [[1]] [] = zoneFs [] [zA v] [[1]] ++ ([] ++ []) from rfl, z1]
  decide +kernel
theorem w1 (v : Value) : whereB ([Us.eu] : List RuleV).length [zA v] ([] : List LinkV).length [2] [[1]] [] = true := wh _ _ _ _ _ _ rfl rfl rfl (by simp [okA]) (by decide)
theorem k2 (v : Value) : chk [Us.eu] [zA v] [] [2] [[1]] [] = (0, 0) := by
  unfold chk
  rw [if_pos (w1 v), show all [Us.eu] [zA v] [] [2] [[1]] [] = zoneFs [Us.eu] [zA v] [[1]] ++ (ruleFs [Us.eu] [2] ++ []) from rfl, z1]
  decide +kernel
theorem k3 : chk [] [] lL [] [] [4, 1] = (1, 13) := by
  unfold chk
  rw [if_pos (by decide +kernel), show all [] [] lL [] [] [4, 1] = [] ++ ([] ++ linkFs [] lL [4, 1]) from rfl]
  decide +kernel
theorem k4 : chk [] [] lM [] [] [4] = (4, 12) := by
  unfold chk
  rw [if_pos (by decide +kernel), show all [] [] lM [] [] [4] = [] ++ ([] ++ linkFs [] lM [4]) from rfl]
  decide +kernel
theorem k5 (v u : Value) : chk [Us.eu] [zA v, zA u] [] [9] [[1], [2]] [] = (2, 11) := by
  unfold chk
  have hw : whereB ([Us.eu] : List RuleV).length [zA v, zA u] ([] : List LinkV).length [9] [[1], [2]] [] = true := wh _ _ _ _ _ _ rfl rfl rfl (by simp [okA]) (by decide)
  rw [if_pos hw, show all [Us.eu] [zA v, zA u] [] [9] [[1], [2]] [] = zoneFs [Us.eu] [zA v, zA u] [[1], [2]] ++ (ruleFs [Us.eu] [9] ++ []) from rfl, z2]
  decide +kernel
theorem k6 (v : Value) : chk [Us.eu, Us.eu] [zA v] [] [9, 3] [[5]] [] = (3, 15) := by
  unfold chk
  have hw : whereB ([Us.eu, Us.eu] : List RuleV).length [zA v] ([] : List LinkV).length [9, 3] [[5]] [] = true := wh _ _ _ _ _ _ rfl rfl rfl (by simp [okA]) (by decide)
  rw [if_pos hw, show all [Us.eu, Us.eu] [zA v] [] [9, 3] [[5]] [] = zoneFs [Us.eu, Us.eu] [zA v] [[5]] ++ (ruleFs [Us.eu, Us.eu] [9, 3] ++ []) from rfl, z1]
  decide +kernel
theorem k7 (v : Value) : chk [] [zA v] [] [] [] [] = (0, 4) := by
  unfold chk
  rw [if_neg (by unfold whereB;simp)]
theorem k8 (v : Value) : chk [] [zA v] [] [] [[0]] [] = (0, 4) := by
  unfold chk
  rw [if_neg (by unfold whereB lines;simp)]
theorem k9 : chk [] [] [] [] [] [] = (0, 0) := by
  unfold chk
  rw [if_pos (by decide +kernel)]
  rfl
theorem w2 (v : Value) : whereB ([Us.eu] : List RuleV).length [zA v] ([] : List LinkV).length [] [[1]] [] = false := by unfold whereB;simp
theorem w3 : whereB ([] : List RuleV).length [zE] ([] : List LinkV).length [] [[]] [] = false := by decide +kernel
end CkL
end Go.Proofs.YtcfmchpoclkpgaaGreatDoor
