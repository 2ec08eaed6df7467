import Derived.Test.YtcfmchpoclkpgaaGreatDoorChkQ
import Derived.Test.YtcfmchpoclkpgaaGreatDoorBNew
import Derived.Great.Walk
import Derived.Test.YtcfmchpoclkpgaaGreatDoorG13
import Derived.Test.YtcfmchpoclkpgaaGreatDoorG16
import Derived.Test.YtcfmchpoclkpgaaGreatDoorCheck
import Derived.Test.YtcfmchpoclkpgaaGreatDoorG7
import Derived.Test.YtcfmchpoclkpgaaGreatDoorG6
import Derived.Laws.CopyRow
import Derived.Laws.CopyOwn
import Derived.Lib.AppendZerosOnto
import Derived.Deep.AppendLies
import Derived.Laws.OwnMore
import Derived.Lib.Overlaps
import Derived.Laws.Externs
import Derived.Test.YtcfmchpoclkpgaaGreatDoorG17
import Derived.Test.YtcfmchpoclkpgaaGreatDoorG20
namespace Go.Proofs.YtcfmchpoclkpgaaGreatDoor
open Go.RowKit NB
namespace CkW
open Ck
def fc (t : TabV) (x : WhV) (f : Fault) : Array Value := #[t.rv, t.zv, t.lv, x.rv, x.ev, x.lv, .int .i64 f.1, .int .i64 f.2]
abbrev Solo (V W : World) (F : Nat) : Prop := BkN.Far V W F F
theorem tell {W : World} {F : Nat} {a b c d e g : Value} {f : Fault} (h : Box W F #[a, b, c, d, e, g, .int .i64 f.1, .int .i64 f.2] 86) (n y : Int) :
    Calls Tryz.prog 70 #[.pointer (some ⟨F, 0, none⟩), .int .i64 n, .int .i64 y] W fun x w' => x = .returned (.tuple #[]) ∧ Box w' F #[a, b, c, d, e, g, .int .i64 (less f (n, y)).1, .int .i64 (less f (n, y)).2] 86 ∧ Solo W w' F := by
  obtain ⟨fl, fe⟩ := f
  have c0 := h.cell
  have hlt := h.lt
  unfold less
  dsimp only at c0 ⊢
  have f0 := h.free
  have hb6 : Box ((W.setCell ⟨F, 6, none⟩ (.int .i64 n)).setCell ⟨F, 7, none⟩ (.int .i64 y)) F #[a, b, c, d, e, g, .int .i64 n, .int .i64 y] 86 := (h.set (j := 6) (v := .int .i64 n)).set (j := 7) (v := .int .i64 y)
  have hs : Solo W ((W.setCell ⟨F, 6, none⟩ (.int .i64 n)).setCell ⟨F, 7, none⟩ (.int .i64 y)) F := by
    refine ⟨rfl, rfl, rfl, by simp, fun k hk h1 _ => ?_⟩
    rw [Below.heap_setCell _ ⟨F, 7, none⟩ _ k h1, Below.heap_setCell _ ⟨F, 6, none⟩ _ k h1]
  have HB6 := Lib.hid hb6;have HS := Lib.hid hs;have HH := Lib.hid h
  clear hb6 hs h
  by_cases h1 : y = 0
  · rw [if_neg (fun q => q.1 h1)]
    have e1 : (y != 0) = false := by simp [h1]
    clear h1
    go_enter Tryz.func70, Tryz.ntmps70
    go_wp2
    exact Go.Great.bodyPost_end0 rfl rfl ⟨rfl, HH.out, BkN.Far.refl _ _ _⟩
  · have e1 : (y != 0) = true := by simpa using h1
    by_cases h2 : fe = 0
    · rw [if_pos ⟨h1, .inl h2⟩]
      subst h2
      clear h1
      go_enter Tryz.func70, Tryz.ntmps70
      go_wp2
      exact Go.Great.bodyPost_end0 rfl rfl ⟨rfl, HB6.out, HS.out⟩
    · have e2 : (fe == 0) = false := by simpa using h2
      by_cases h3 : n < fl
      · rw [if_pos ⟨h1, .inr h3⟩]
        clear h1 h2
        go_enter Tryz.func70, Tryz.ntmps70
        go_wp2
        exact Go.Great.bodyPost_end0 rfl rfl ⟨rfl, HB6.out, HS.out⟩
      · rw [if_neg (fun h => h.2.elim h2 h3)]
        have e3 : fl ≤ n := by omega
        clear h1 h2 h3
        go_enter Tryz.func70, Tryz.ntmps70
        go_wp2
        exact Go.Great.bodyPost_end0 rfl rfl ⟨rfl, HH.out, BkN.Far.refl _ _ _⟩
end CkW
end Go.Proofs.YtcfmchpoclkpgaaGreatDoor
namespace Go.Proofs.YtcfmchpoclkpgaaGreatDoor
open Go.RowKit NB
namespace R27
def winV (r : RuleV) : Value := if Rul.right r then .tuple #[.int .i64 (Apt.wLow r), .int .i64 (Apt.wHigh r), .int .i64 0] else .tuple #[.int .i64 0, .int .i64 0, .int .i64 4]
def folB (a b : RuleV) : Bool := decide (max (a.fr + 1) b.fr ≤ min (a.to + 1) b.to)
def togB (a b : RuleV) : Bool := decide (max a.fr b.fr ≤ min a.to b.to)
end R27
end Go.Proofs.YtcfmchpoclkpgaaGreatDoor
namespace Go.Proofs.YtcfmchpoclkpgaaGreatDoor
open Go.RowKit NB
namespace R27
theorem same_in {r x : RuleV} {l : List RuleV} {j : Nat} (h : l[j]? = some x) (hn : x.name = r.name) : Chk.same r (l.take (j + 1)) = Chk.same r (l.take j) ++ [x] := by
  unfold Chk.same
  rw [List.take_add_one, h, List.filter_append]
  simp [hn]
theorem same_out {r x : RuleV} {l : List RuleV} {j : Nat} (h : l[j]? = some x) (hn : ¬ x.name = r.name) : Chk.same r (l.take (j + 1)) = Chk.same r (l.take j) := by
  unfold Chk.same
  rw [List.take_add_one, h, List.filter_append]
  simp [hn]
theorem bad_app {r : RuleV} : ∀ (a c : List RuleV), Chk.firstBad r a = 0 → Chk.firstBad r (a ++ c) = Chk.firstBad r c
  | [], _, _ => rfl
  | y :: ys, c, h => by
    unfold Chk.firstBad at h
    by_cases hy : Apt.pairE y r = 0
    · rw [if_pos hy] at h
      rw [List.cons_append]
      conv => lhs;unfold Chk.firstBad
      rw [if_pos hy]
      exact bad_app ys c h
    · rw [if_neg hy] at h
      exact absurd h hy
theorem bad_one {r x : RuleV} : Chk.firstBad r [x] = Apt.pairE x r := by
  unfold Chk.firstBad Chk.firstBad
  split
  · rename_i h;exact h.symm
  · rfl
def Ok (r : RuleV) (l : List RuleV) (j : Nat) : Prop := Chk.firstBad r (Chk.same r (l.take j)) = 0
theorem Ok.skip {r x : RuleV} {l : List RuleV} {j : Nat} (h : Ok r l j) (hx : l[j]? = some x) (hn : ¬ x.name = r.name) : Ok r l (j + 1) := by
  unfold Ok at *
  rwa [same_out hx hn]
theorem Ok.good {r x : RuleV} {l : List RuleV} {j : Nat} (h : Ok r l j) (hx : l[j]? = some x) (hn : x.name = r.name) (hp : Apt.pairE x r = 0) : Ok r l (j + 1) := by
  unfold Ok at *
  rw [same_in hx hn, bad_app _ _ h, bad_one, hp]
def At (l : List RuleV) (k : Nat) : Prop := Chk.check l = Chk.scan (l.take k) (l.drop k) k
theorem At.next {l : List RuleV} {k : Nat} {r : RuleV} (h : At l k) (hr : l[k]? = some r) (ho : Ok r l k) : At l (k + 1) := by
  unfold At at *
  rw [h, Chk.check_at hr]
  exact if_pos ho
end R27
end Go.Proofs.YtcfmchpoclkpgaaGreatDoor
namespace Go.Proofs.YtcfmchpoclkpgaaGreatDoor
open Go.RowKit NB
namespace Chk
theorem CheckE (p : Option Addr) (cap : Nat) (w : World) : Calls Tryz.prog 16 #[.slice p 0 cap] w (Post (check []) w) := by
  have hmm := @run_makeMap Tryz.prog
  go_enter Tryz.func16, Tryz.ntmps16
  go_wp2
  go_loopw [13] (fun i wr => i = .int .i64 0 ∧ Below w.heap.size w wr) (fun i _ => 0)
  case atStart => exact ⟨rfl, (Below.refl _ _).alloc (Nat.le_refl _) _⟩
  case round =>
    obtain ⟨rfl, hbel⟩ := hrel
    go_wp2
    go_ret2
    exact ⟨rfl, hbel⟩
theorem CheckH {w : World} {v : Value} {l : List RuleV} (h : Holds w v l) (hl : l.length ≤ 12) : Calls Tryz.prog 16 #[v] w fun e w' => e = .returned (.tuple #[.int .i64 (check l).1, .int .i64 (check l).2]) ∧ Below w.heap.size w w' := by
  rcases h.lies with ⟨p, cap, rfl, rfl⟩|⟨b, off, cap, rfl, h2, h3⟩
  · exact CheckE p cap w
  · exact Check b off cap l w h3 h2 (by omega) h.fit
end Chk
namespace R27
end R27
end Go.Proofs.YtcfmchpoclkpgaaGreatDoor
namespace Go.Proofs.YtcfmchpoclkpgaaGreatDoor
open Go.RowKit NB
namespace OW
variable {P : Program}
theorem grown_drew {w w' : World} {row : Option Nat} (h : w.grownBy w' row) : w.grownBy w'.drew row := ⟨h.os, h.tape, h.output, h.size, h.block⟩
theorem step_append_at {w : World} {ops : Array Oper} {o : Oper} {a : Act} {K : Act → World → Prop} {Q : Exit → Act → World → Prop} {E : Prop} (hgd : o.guard = none) (s x : Operand) (t : TypeId)
    (ho : o.op = .call { callee := .builtin .append, args := #[s, x], argTypes := #[t, t] })
    (base : Nat) (e : TypeId) (i : TypeInfo) (z : Value) (size bytes : Nat) (ht : P.underlying t = some (.slice e)) (hi : P.info? e = some i) (hz : i.zero = some z)
    (hsize : i.size = size) (hby : i.bytes = bytes) (hzs : z.cells.size = size) (hsz : 0 < size)
    (v : Value) (n : Nat) (xs : List Value) (hs : a.eval s = v) (hown : w.ownsRow base e size v n xs)
    (ad : Addr) (m c : Nat) (news : List Value) (hx : a.eval x = .slice (some ad) m c) (hl : news.length = m * size) (hnews : ∀ j u, news[j]? = some u → w.cell? (ad.add j) = some u) (h1 : ∀ u ∈ news, u.oneCell' = true)
    (h63 : n + m ≤ maxLen) (hbytes : (n + m) * bytes ≤ 140737488355328) (hbase : base ≤ w.heap.size)
    (h : ∀ p cap w', w'.ownsRow base e size (.slice p (n + m) cap) (n + m) (xs ++ news) → w.grownBy w' v.ownBlock → ((Value.slice p (n + m) cap).ownBlock = v.ownBlock ∨ (Value.slice p (n + m) cap).ownBlock = some w.heap.size) → K (a.put o.dst (.slice p (n + m) cap)) w') :
    if Region.wanted o (yielded ops a.tmps) = true then Oper.wp P o a w K Q else E := by
  have hw : Region.wanted o (yielded ops a.tmps) = true := by simp [Region.wanted, hgd]
  rw [if_pos hw]
  obtain ⟨v', w', hr, h2, h3, _, h5⟩ := run_append_own_at (P := P) w base t o.type e i z size bytes ht hi hz hsize hby hzs hsz v n xs hown ad m c news hl hnews h1 h63 hbytes hbase
  obtain ⟨p, cap, rfl⟩ : ∃ p cap, v' = .slice p (n + m) cap := by
    rcases h2.2 with ⟨rfl, e⟩|⟨g, cap, cur, rfl, _⟩
    · exact ⟨none, 0, by rw [e]⟩
    · exact ⟨_, _, rfl⟩
  unfold Oper.wp execOp
  simp only [ho, resolve, invoke, builtin, Sem.run_bind, Sem.run_pure, Result.andThen_ok, List.map_toArray, List.map_cons, List.map_nil, hs, hx, hr]
  exact h p cap w' h2 h3 h5
end OW
end Go.Proofs.YtcfmchpoclkpgaaGreatDoor
namespace Go.Proofs.YtcfmchpoclkpgaaGreatDoor
open Go.RowKit NB
abbrev OwnI (w : World) (base : Nat) (v : Value) (l : List Int) : Prop := w.ownsRow base 3 1 v l.length (l.flatMap intC)
abbrev HoldsI (w : World) (v : Value) (l : List Int) : Prop := HoldsG 1 intC w v l
theorem HoldsI.of_own {w : World} {base : Nat} {v : Value} {l : List Int} (h : OwnI w base v l) : HoldsI w v l := HoldsG.of_own (k := 1) (f := intC) (fun _ => rfl) h
theorem HoldsG.pkI {w : World} {v : Value} {l : List Int} (h : HoldsG 1 intC w v l) : ∃ p cap, v = .slice p l.length cap ∧ ∀ (i : Nat) (n : Int), l[i]? = some n → ∃ b off, p = some ⟨b, off, none⟩ ∧ b < w.heap.size ∧ w.cell? ⟨b, off + i, none⟩ = some (.int .i64 n) := by
  obtain ⟨p, cap, e, hp⟩ := h.pk
  refine ⟨p, cap, e, fun i s hs => ?_⟩
  obtain ⟨b, off, e1, hb, hc⟩ := hp i s hs
  have := hc 0 _ rfl
  simp only [Nat.mul_one, Nat.add_zero] at this
  exact ⟨b, off, e1, hb, this⟩
theorem infoI : (Tryz.prog.info? 3).map (fun i => (i.zero, i.size, i.bytes)) = some (some (.int .i64 0), 1, 8) := by kernel_rfl
namespace IntS
theorem ints_one (l : List Int) : ∀ u ∈ l.flatMap intC, u.oneCell' = true := flatG_one (fun x u hu => by unfold intC at hu;simp at hu;rw [hu];rfl) l
theorem ints_len (l : List Int) : (l.flatMap intC).length = l.length * 1 := flatG_len (k := 1) (fun _ => rfl) l
theorem own_mk {w : World} {base : Nat} {v : Value} {L M : List Int} (h : w.ownsRow base 3 1 v (L.length + M.length) (L.flatMap intC ++ M.flatMap intC)) : OwnI w base v (L ++ M) := by
  unfold OwnI
  rw [List.length_append, List.flatMap_append]
  exact h
theorem append {w : World} {base : Nat} {v x : Value} {L M : List Int} (ho : OwnI w base v L) (hx : HoldsI w x M) (hl : L.length + M.length ≤ 1000000) (hb : base ≤ w.heap.size) (ty : TypeId) :
    ∃ v' w', (Builtin.append_ #[27, 27] ty #[v, x]).run Tryz.prog w = .ok v' w' ∧ OwnI w' base v' (L ++ M) ∧ w.grownBy w' v.ownBlock ∧ (v'.ownBlock = v.ownBlock ∨ v'.ownBlock = some w.heap.size) := by
  obtain ⟨i0, hi, hz0, hz1, hz2⟩ := info_parts infoI
  have big : L.length + M.length ≤ maxLen := by unfold maxLen;omega
  rcases hx.lies with ⟨p, cap, rfl, rfl⟩|⟨b, off, cap, rfl, hlt, hc⟩
  · cases p with
    | none =>
      refine ⟨v, w, ?_, by rw [List.append_nil];exact ho, World.grownBy.refl _ _, .inl rfl⟩
      rcases ho.2 with ⟨rfl, _⟩|⟨g, c, cur, rfl, _, _, hnc, _⟩
      · simp [Builtin.append_, run_underlying Tryz.underlying27, sizeOf, typeInfo, hi, Builtin.lenOf, Builtin.firstCells]
      · simp [Builtin.append_, run_underlying Tryz.underlying27, sizeOf, typeInfo, hi, Builtin.lenOf, Builtin.firstCells, hnc, storeCells]
    | some ad =>
      obtain ⟨v', w', hr, h2, h3, _, h5⟩ := run_append_own_at (P := Tryz.prog) w base 27 ty 3 i0 _ 1 8 Tryz.underlying27 hi hz0 hz1 hz2 rfl (by decide) v L.length (L.flatMap intC) ho ad 0 cap [] rfl (by simp) (by simp) (by simpa using big) (by simp at hl;omega) hb
      exact ⟨v', w', hr, own_mk (M := []) (by simpa using h2), h3, h5⟩
  · obtain ⟨v', w', hr, h2, h3, _, h5⟩ := run_append_own_at (P := Tryz.prog) w base 27 ty 3 i0 _ 1 8 Tryz.underlying27 hi hz0 hz1 hz2 rfl (by decide) v L.length (L.flatMap intC) ho ⟨b, off, none⟩ M.length cap (M.flatMap intC) (ints_len M) (fun j u hu => by
        have hj : j < M.length := by have := (List.getElem?_eq_some_iff.1 hu).1;rw [ints_len] at this;omega
        have he : (⟨b, off, none⟩ : Addr).add j = ⟨b, off + j, none⟩ := by unfold Addr.add;split <;> simp_all
        rw [he]
        have hm : (M.map intC)[j]? = some (intC M[j]) := by rw [List.getElem?_map, List.getElem?_eq_getElem hj];rfl
        have h0 := hc j 0 (intC M[j]) (.int .i64 M[j]) hm rfl
        have h6 := flatG_at (k := 1) (f := intC) (fun _ => rfl) M j 0 M[j] (.int .i64 M[j]) (List.getElem?_eq_getElem hj) rfl
        simp only [Nat.mul_one, Nat.add_zero] at h0 h6
        rw [h6] at hu
        cases hu
        exact h0) (ints_one M) big (by omega) hb
    exact ⟨v', w', hr, own_mk h2, h3, h5⟩
theorem wpList_app {w : World} {ops : Array Oper} {rest : List Oper} {o : Oper} {a : Act} {Q : Exit → Act → World → Prop} (hgd : o.guard = none) (s x : Operand)
    (ho : o.op = .call { callee := .builtin .append, args := #[s, x], argTypes := #[27, 27] }) {base : Nat} {v xv : Value} {L M : List Int} (hs : a.eval s = v) (hown : OwnI w base v L) (hx : a.eval x = xv) (hM : HoldsI w xv M)
    (hl : L.length + M.length ≤ 1000000) (hb : base ≤ w.heap.size)
    (h : ∀ v' w', OwnI w' base v' (L ++ M) → w.grownBy w' v.ownBlock → (v'.ownBlock = v.ownBlock ∨ v'.ownBlock = some w.heap.size) → wpList Tryz.prog ops Q rest (a.put o.dst v') w') : wpList Tryz.prog ops Q (o :: rest) a w := by
  refine wpList_plain hgd fun K hK => ?_
  obtain ⟨v', w', hr, h2, h3, h4⟩ := append hown hM hl hb o.type
  unfold Oper.wp execOp
  simp only [ho, resolve, invoke, builtin, Sem.run_bind, Sem.run_pure, Result.andThen_ok, List.map_toArray, List.map_cons, List.map_nil, hs, hx, hr]
  exact hK _ _ (h v' w' h2 h3 h4)
end IntS
end Go.Proofs.YtcfmchpoclkpgaaGreatDoor
namespace Go.Proofs.YtcfmchpoclkpgaaGreatDoor
open Go.RowKit NB
namespace CkW
open Ck
theorem far_solo {V W U : World} {x y : Nat} (h : BkN.Far V W x y) (h2 : Solo W U x) : BkN.Far V U x y :=
  ⟨h2.os.trans h.os, h2.tape.trans h.tape, h2.output.trans h.output, Nat.le_trans h.size h2.size, fun k hk hx hy => (h2.block k (Nat.lt_of_lt_of_le hk h.size) hx hx).trans (h.block k hk hx hy)⟩
theorem far_lat {V W U : World} {x y : Nat} (h : BkN.Far V W x y) (h2 : Below W.heap.size W U) : BkN.Far V U x y :=
  ⟨h2.os.trans h.os, h2.tape.trans h.tape, h2.output.trans h.output, Nat.le_trans h.size h2.size, fun k hk hx hy => (h2.block k (Nat.lt_of_lt_of_le hk h.size)).trans (h.block k hk hx hy)⟩
theorem solo_below {B : Nat} {V W U : World} {x : Nat} (h : Below B V W) (h2 : Solo W U x) (hB : B ≤ x) (hs : B ≤ W.heap.size) : Below B V U :=
  ⟨h2.os.trans h.os, h2.tape.trans h.tape, h2.output.trans h.output, Nat.le_trans h.size h2.size, fun k hk => (h2.block k (by omega) (by omega) (by omega)).trans (h.block k hk)⟩
theorem solo_lies {W U : World} {x : Nat} {P : Program} {k : TypeId} {b : Nat} {L : List Mp.Ent} (h : Mp.Lies W P k b L) (h2 : Solo W U x) (hb : b ≠ x) : Mp.Lies U P k b L := h.same (h2.block b h.lt hb hb)
set_option maxRecDepth 100000 in
set_option maxHeartbeats 3200000 in
theorem rules {w0 W : World} {rv zv lv xrv xev xlv : Value} {rs : List RuleV} {xr : List Int} {f : Fault} (hB : Below w0.heap.size w0 W) (hF : Box W w0.heap.size #[rv, zv, lv, xrv, xev, xlv, .int .i64 f.1, .int .i64 f.2] 86)
    (hr : Holds w0 rv rs) (hx : HoldsI w0 xrv xr) (hl : xr.length = rs.length) (hn : rs.length ≤ 12) :
    Calls Tryz.prog 33 #[.pointer (some ⟨w0.heap.size, 0, none⟩)] W fun e w' => e = .returned (.tuple #[]) ∧ Box w' w0.heap.size #[rv, zv, lv, xrv, xev, xlv, .int .i64 (run f (ruleFs rs xr)).1, .int .i64 (run f (ruleFs rs xr)).2] 86 ∧ Below w0.heap.size w0 w' := by
  rw [rules_one]
  have hlt := Chk.check_lt rs
  have cc := Chk.CheckH (hr.later hB) hn
  obtain ⟨U, hU⟩ : ∃ u, u = Chk.check rs := ⟨_, rfl⟩
  rw [← hU] at hlt cc ⊢
  obtain ⟨U1, U2⟩ := U
  dsimp only at hlt cc ⊢
  have HF := Lib.hid hF
  have c0 := hF.cell
  have hs := hF.lt
  obtain ⟨p, c, rfl, hp⟩ := HoldsG.pkI hx
  obtain ⟨pr, cr, rfl⟩ := hr.form
  obtain ⟨n, hn2⟩ : ∃ n, n = rs.length := ⟨_, rfl⟩
  rw [hl] at c0 HF ⊢
  rw [← hn2] at hlt c0 cc HF ⊢
  have HX := Lib.hid hx;have HP := Lib.hid hp;have HN2 := Lib.hid hn2;have HL := Lib.hid hl;have HB := Lib.hid hB
  clear hx hp hn2 hl hr hU hF hB
  by_cases h0 : 0 ≤ U1
  · rw [if_pos h0]
    obtain ⟨k, rfl⟩ : ∃ k : Nat, U1 = k := ⟨U1.toNat, by omega⟩
    obtain ⟨m, hm⟩ : ∃ m, xr[k]? = some m := ⟨_, List.getElem?_eq_getElem (by rw [HL.out, ← HN2.out];omega)⟩
    obtain ⟨g1, o1, rfl, hg1, d1⟩ := HP.out k m hm
    have x0 := (HB.out.cell (p := ⟨g1, o1 + k, none⟩) hg1).trans d1
    have hgd : xr.getD (k : Int).toNat 0 = m := by rw [Int.toNat_natCast, List.getD_eq_getElem?_getD, hm];rfl
    rw [hgd]
    have hg1' : g1 < W.heap.size := by omega
    clear d1 hm hgd
    go_enter Tryz.func33, Tryz.ntmps33
    go_wp2_with (first
      | (go_at_call 16;refine cc.mono ?_;rintro e w1 ⟨rfl, hb1⟩;have hF1 := HF.out.later hb1;have c1 := hF1.cell;have x1 := (hb1.cell (p := ⟨g1, o1 + k, none⟩) hg1').trans x0)
      | (go_at_call 70;refine (tell hF1 m U2).mono ?_;rintro e w2 ⟨rfl, hF2, hs2⟩))
    have hB1 := HB.out.trans (hb1.mono HB.out.size)
    exact Go.Great.bodyPost_end0 rfl rfl ⟨rfl, hF2, solo_below hB1 hs2 (Nat.le_refl _) hB1.size⟩
  · rw [if_neg h0]
    have e1 : ¬ (U1 ≥ 0) := by omega
    have e2 : U1 < 0 := by omega
    go_enter Tryz.func33, Tryz.ntmps33
    go_wp2_with (go_at_call 16;refine cc.mono ?_;rintro e w1 ⟨rfl, hb1⟩;have hF1 := HF.out.later hb1)
    exact Go.Great.bodyPost_end0 rfl rfl ⟨rfl, hF1, HB.out.trans (hb1.mono HB.out.size)⟩
end CkW
end Go.Proofs.YtcfmchpoclkpgaaGreatDoor
