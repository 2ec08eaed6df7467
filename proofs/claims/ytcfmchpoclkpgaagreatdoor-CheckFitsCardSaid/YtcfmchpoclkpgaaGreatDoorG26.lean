import Derived.Test.YtcfmchpoclkpgaaGreatDoorG20
import Derived.Test.YtcfmchpoclkpgaaGreatDoorChkQ
import Derived.Test.YtcfmchpoclkpgaaGreatDoorG19
import Derived.Test.YtcfmchpoclkpgaaGreatDoorG24
import Derived.Test.YtcfmchpoclkpgaaGreatDoorG15
import Derived.Test.YtcfmchpoclkpgaaGreatDoorG14
import Derived.Test.YtcfmchpoclkpgaaGreatDoorUCheck
import Derived.Test.YtcfmchpoclkpgaaGreatDoorG23
import Derived.Test.YtcfmchpoclkpgaaGreatDoorG25
import Derived.Test.YtcfmchpoclkpgaaGreatDoorCkZ
import Derived.Test.YtcfmchpoclkpgaaGreatDoorCkWh
import Derived.Test.YtcfmchpoclkpgaaGreatDoorG21
namespace Go.Proofs.YtcfmchpoclkpgaaGreatDoor
open Go.RowKit NB
namespace RCk
open Ck
end RCk
end Go.Proofs.YtcfmchpoclkpgaaGreatDoor
namespace Go.Proofs.YtcfmchpoclkpgaaGreatDoor
open Go.RowKit NB
namespace RCk
open Ck
end RCk
end Go.Proofs.YtcfmchpoclkpgaaGreatDoor
namespace Go.Proofs.YtcfmchpoclkpgaaGreatDoor
open Go.RowKit Go.ChangeShapes Go.WideShapes
def Capd (v : Value) : Prop := ∀ p n c, v = .slice p n c → n ≤ c ∧ c ≤ maxLen
theorem Capd.mk {p : Option Addr} {n c : Nat} (h : n ≤ c) (hc : c ≤ maxLen) : Capd (.slice p n c) := by
  intro q m d e
  cases e
  exact ⟨h, hc⟩
structure HoldsC (w : World) (t : TabV) : Prop where
  h : HoldsT w t
  r : Capd t.rv
  l : Capd t.lv
theorem HoldsC.later {w w' : World} {t : TabV} (h : HoldsC w t) (hb : Below w.heap.size w w') : HoldsC w' t := ⟨h.h.later hb, h.r, h.l⟩
section
variable {H : Type} {enc : TypeId × Value → H} {w : World} {base : Nat} {spare : Nat → Bool} {held : Bool}
theorem capd_open {t e : TypeId} {fuel : Nat} {v : Value} {x : DataW H × List MemPlace} (ht : Tryz.prog.underlying t = some (.slice e)) (h : DataW.trod enc Tryz.prog w base spare held fuel t [v] = some x) : Capd v := by
  rcases Deep.open_slice ht h with ⟨h1, _⟩|⟨a, len, cap, m, n, D, Pl, h1, hb, hl, hm, _⟩
  · cases h1
    exact Capd.mk (Nat.le_refl _) (Nat.zero_le _)
  · cases h1
    exact Capd.mk hl hm
set_option maxRecDepth 100000 in
theorem tableC_cells {fuel : Nat} {cs : List Value} {x : DataW H × List MemPlace} (h : DataW.trod enc Tryz.prog w base spare held fuel 26 cs = some x) : ∃ t : TabV, cs = t.cells ∧ HoldsC w t := by
  obtain ⟨t, ht1, ht2⟩ := table_cells h
  subst ht1
  obtain ⟨xs, n, _, hx1, hlen, hxl, hg⟩ := DataW.trod_struct Tryz.underlying26 h
  have hxl8 : xs.length = 3 := hxl
  have g0 : DataW.trod enc Tryz.prog w base spare held n 22 ((t.cells.drop 0).take (Tryz.prog.cellsOf 22)) = xs[0]? := hg 0 _ rfl
  rw [show Tryz.prog.cellsOf 22 = 1 by kernel_rfl] at g0
  replace g0 : DataW.trod enc Tryz.prog w base spare held n 22 [t.rv] = xs[0]? := g0
  have g2 : DataW.trod enc Tryz.prog w base spare held n 24 ((t.cells.drop 2).take (Tryz.prog.cellsOf 24)) = xs[2]? := hg 2 _ rfl
  rw [show Tryz.prog.cellsOf 24 = 1 by kernel_rfl] at g2
  replace g2 : DataW.trod enc Tryz.prog w base spare held n 24 [t.lv] = xs[2]? := g2
  obtain ⟨y0, hy0⟩ := at_some (i := 0) hxl8 (by decide)
  obtain ⟨y2, hy2⟩ := at_some (i := 2) hxl8 (by decide)
  rw [hy0] at g0
  rw [hy2] at g2
  exact ⟨t, rfl, ht2, capd_open Tryz.underlying22 g0, capd_open Tryz.underlying24 g2⟩
end
end Go.Proofs.YtcfmchpoclkpgaaGreatDoor
namespace Go.Proofs.YtcfmchpoclkpgaaGreatDoor
open Go.RowKit NB Nxt
namespace RUnt
open Unt
end RUnt
end Go.Proofs.YtcfmchpoclkpgaaGreatDoor
namespace Go.Proofs.YtcfmchpoclkpgaaGreatDoor
open Go.RowKit NB Nxt
namespace RUnt
open Unt
end RUnt
end Go.Proofs.YtcfmchpoclkpgaaGreatDoor
namespace Go.Proofs.YtcfmchpoclkpgaaGreatDoor
open Go.RowKit NB
namespace RCk
open Ck
end RCk
end Go.Proofs.YtcfmchpoclkpgaaGreatDoor
namespace Go.Proofs.YtcfmchpoclkpgaaGreatDoor
open Go.RowKit NB
namespace RCk
open Ck
end RCk
end Go.Proofs.YtcfmchpoclkpgaaGreatDoor
namespace Go.Proofs.YtcfmchpoclkpgaaGreatDoor
open Go.RowKit NB
namespace RCk
open Ck
def fcs (f : Fault) : Array Value := #[.int .i64 f.1, .int .i64 f.2]
theorem bsetF {B : Nat} {V W : World} {b j : Nat} {v : Value} (h : Below B V W) (hb : B ≤ b) : Below B V (W.setCell ⟨b, j, none⟩ v) := ⟨h.os, h.tape, h.output, by simpa using h.size, fun k hk => (Below.heap_setCell W ⟨b, j, none⟩ v k (show k ≠ b by omega)).trans (h.block k hk)⟩
end RCk
end Go.Proofs.YtcfmchpoclkpgaaGreatDoor
namespace Go.Proofs.YtcfmchpoclkpgaaGreatDoor
open Go.RowKit NB
namespace CkW
open Ck
set_option maxRecDepth 100000 in
set_option maxHeartbeats 6400000 in
theorem Check {w : World} {t : TabV} {x : WhV} (h : HoldsT w t) (hx : HoldsW w x) (ht : Tab w) (hrs : t.rs.length ≤ 12) (hzl : t.zs.length ≤ 100) (hel : ∀ z ∈ t.zs, z.es.length ≤ 1000) (hkl : t.ls.length ≤ 100) (hrl : x.rs.length ≤ 100) (hll : x.ls.length ≤ 100) (hyl : ∀ y ∈ x.es, y.ns.length ≤ 100) :
    Calls Tryz.prog 12 #[.agg #[t.rv, t.zv, t.lv], .agg #[x.rv, x.ev, x.lv]] w fun e w' => e = .returned (.agg (RCk.fcs (chk t.rs t.zs t.ls x.rs (x.es.map RowN.ns) x.ls))) ∧ Below w.heap.size w w' := by
  obtain ⟨R, hR⟩ : ∃ r, r = chk t.rs t.zs t.ls x.rs (x.es.map RowN.ns) x.ls := ⟨_, rfl⟩
  rw [← hR]
  unfold chk at hR
  obtain ⟨WB, hWB⟩ : ∃ b, b = Ck.whereB t.rs.length t.zs t.ls.length x.rs (x.es.map RowN.ns) x.ls := ⟨_, rfl⟩
  rw [← hWB] at hR
  have cw := fun (X : World) (hX : Below w.heap.size w X) => Where (h.later hX) (hx.later hX) hzl hel hrl hll hyl (ht.later hX)
  rw [← hWB] at cw
  have hparts := fun hq : WB = true => where_parts (hWB.symm.trans hq)
  have cz := fun (X W : World) (hX : Below w.heap.size w X) (hB : Below X.heap.size X W) (f : Fault) (hF : Box W X.heap.size #[t.rv, t.zv, t.lv, x.rv, x.ev, x.lv, .int .i64 f.1, .int .i64 f.2] 86) (hq : WB = true) => zones hB hF (h.later hX) (hx.later hX) (ht.later hX) (by have := (hparts hq).2.1;rwa [List.length_map] at this) (fun p hp => ((hparts hq).2.2.2.1 p hp).2) (by omega) (by omega) hel
  have cr := fun (X W : World) (hX : Below w.heap.size w X) (hB : Below X.heap.size X W) (f : Fault) (hF : Box W X.heap.size #[t.rv, t.zv, t.lv, x.rv, x.ev, x.lv, .int .i64 f.1, .int .i64 f.2] 86) (hq : WB = true) => rules hB hF (h.later hX).r (hx.later hX).r (hparts hq).1 hrs
  have cl := fun (X W : World) (hX : Below w.heap.size w X) (hB : Below X.heap.size X W) (f : Fault) (hF : Box W X.heap.size #[t.rv, t.zv, t.lv, x.rv, x.ev, x.lv, .int .i64 f.1, .int .i64 f.2] 86) (hq : WB = true) => links hB hF (h.later hX) (hx.later hX).l (hparts hq).2.2.1 (by omega) (by omega)
  obtain ⟨rv, zv, lv, rs, zs, ls⟩ := t
  obtain ⟨xrv, xev, xlv, xr, xe, xl⟩ := x
  obtain ⟨pr, qr, e1⟩ := h.r.form
  obtain ⟨pz, qz, e2⟩ := h.z.form
  obtain ⟨pl, ql, e3⟩ := h.l.form
  obtain ⟨px, qx, e4⟩ := hx.r.form
  obtain ⟨pe, qe, e5⟩ := hx.e.form
  obtain ⟨py, qy, e6⟩ := hx.l.form
  dsimp only at e1 e2 e3 e4 e5 e6 cw cz cr cl hR ⊢
  subst e1 e2 e3 e4 e5 e6
  have CW := Lib.hid cw;have CZ := Lib.hid cz;have CR := Lib.hid cr;have CL := Lib.hid cl;have HR := Lib.hid hR
  clear cw cz cr cl hR hparts hWB h hx ht hrs hzl hel hkl hrl hll hyl
  generalize rs.length = nr at *
  generalize zs.length = nz at *
  generalize ls.length = nl at *
  generalize xr.length = mr at *
  generalize xe.length = mz at *
  generalize xl.length = ml at *
  obtain ⟨V, hV⟩ : ∃ V, V = (((w.alloc (.cells #[.slice pr nr qr, .slice pz nz qz, .slice pl nl ql] 26)).alloc (.cells #[.slice px mr qx, .slice pe mz qe, .slice py ml qy] 30)).alloc (.cells #[.int .i64 0, .int .i64 0] 37)) := ⟨_, rfl⟩
  have hbV : Below w.heap.size w V := by rw [hV];repeat (first|(with_reducible exact Below.refl _ _)|(with_reducible assumption)|(with_reducible refine ba ?_)|(with_reducible refine bd ?_)|(with_reducible refine bdn ?_ _)|(with_reducible refine bset ?_ (by first|exact Nat.le_refl _|omega|(simp;done)|(simp;omega)))|(with_reducible refine bt ?_ (by with_reducible assumption)))
  have hbT : Box V w.heap.size #[.slice pr nr qr, .slice pz nz qz, .slice pl nl ql] 26 := by rw [hV];exact (Box.new w _ _).old.old
  have hbW : Box V (w.heap.size + 1) #[.slice px mr qx, .slice pe mz qe, .slice py ml qy] 30 := by
    rw [hV]
    have := (Box.new (w.alloc (.cells #[.slice pr nr qr, .slice pz nz qz, .slice pl nl ql] 26)) #[.slice px mr qx, .slice pe mz qe, .slice py ml qy] 30).old (o := .cells #[.int .i64 0, .int .i64 0] 37)
    simpa using this
  have hbR : Box V (w.heap.size + 1 + 1) #[.int .i64 0, .int .i64 0] 37 := by
    rw [hV]
    have := Box.new ((w.alloc (.cells #[.slice pr nr qr, .slice pz nz qz, .slice pl nl ql] 26)).alloc (.cells #[.slice px mr qx, .slice pe mz qe, .slice py ml qy] 30)) #[.int .i64 0, .int .i64 0] 37
    simpa using this
  have hsV : w.heap.size + 1 + 1 < V.heap.size := hbR.lt
  have HV := Lib.hid hV
  clear hV
  cases WB with
  | false =>
    have HE : Hid (R = (0, 4)) := by rw [HR.out];rfl
    go_enter Tryz.func12, Tryz.ntmps12
    go_wp2_with (go_at_call 10;rw [← HV.out];refine (CW.out V hbV).mono ?_;rintro e w1 ⟨rfl, hb1⟩;have f1 := (hbR.later hb1).free;have cR := (hbR.later hb1).cell)
    rw [HE.out]
    refine bodyPost_ret (v := .agg #[.int .i64 0, .int .i64 4]) ?_ rfl ⟨rfl, ?_⟩
    · have c1 := ((hbR.later hb1).set (j := 0) (v := .int .i64 0)).set (j := 1) (v := .int .i64 4)
      have c2 := c1.cell
      simp only [results, Tryz.results12]
      go_simp
    · repeat (first|(with_reducible exact Below.refl _ _)|(with_reducible assumption)|(with_reducible refine ba ?_)|(with_reducible refine bd ?_)|(with_reducible refine bdn ?_ _)|(with_reducible refine bset ?_ (by first|exact Nat.le_refl _|omega|(simp;done)|(simp;omega)))|(with_reducible refine bt ?_ (by with_reducible assumption)))
  | true =>
    have HE : Hid (R = run (run (run (0, 0) (zoneFs rs zs (xe.map RowN.ns))) (ruleFs rs xr)) (linkFs (zs.map ZoneV.name) ls xl)) := by
      rw [HR.out]
      show run (0, 0) (all rs zs ls xr (xe.map RowN.ns) xl) = _
      unfold all
      rw [run_app, run_app]
    go_enter Tryz.func12, Tryz.ntmps12
    go_wp2_with (first
      | (go_at_call 10;rw [← HV.out];refine (CW.out V hbV).mono ?_;rintro e w1 ⟨rfl, hb1⟩;have cT := (hbT.later hb1).cell;have cW := (hbW.later hb1).cell;have hB1 := Lib.hid (hbV.trans (hb1.mono hbV.size));have hFn := Lib.hid (Box.new w1 #[.slice pr nr qr, .slice pz nz qz, .slice pl nl ql, .slice px mr qx, .slice pe mz qe, .slice py ml qy, .int .i64 0, .int .i64 0] 86))
      | (go_at_call 32;refine (CZ.out w1 _ hB1.out (by repeat (first|(with_reducible exact Below.refl _ _)|(with_reducible assumption)|(with_reducible refine ba ?_)|(with_reducible refine bd ?_)|(with_reducible refine bdn ?_ _)|(with_reducible refine bset ?_ (by first|exact Nat.le_refl _|omega|(simp;done)|(simp;omega)))|(with_reducible refine bt ?_ (by with_reducible assumption)))) (0, 0) hFn.out (by first|trivial|rfl)).mono ?_;rintro e w2 ⟨rfl, hF2, hb2⟩)
      | (go_at_call 33;refine (CR.out w1 _ hB1.out hb2 _ hF2 (by first|trivial|rfl)).mono ?_;rintro e w3 ⟨rfl, hF3, hb3⟩)
      | (go_at_call 34;refine (CL.out w1 _ hB1.out hb3 _ hF3 (by first|trivial|rfl)).mono ?_;rintro e w4 ⟨rfl, hF4, hb4⟩;have c4 := hF4.cell;have hRb := (hbR.later hb1).keep hb4 (hbR.later hb1).lt;have fR := hRb.free;have cR := hRb.cell))
    rw [HE.out]
    refine bodyPost_ret (v := .agg (RCk.fcs _)) ?_ rfl ⟨rfl, ?_⟩
    · unfold RCk.fcs
      have c1 := (hRb.set (j := 0) (v := .int .i64 (run (run (run (0, 0) (zoneFs rs zs (xe.map RowN.ns))) (ruleFs rs xr)) (linkFs (zs.map ZoneV.name) ls xl)).1)).set (j := 1) (v := .int .i64 (run (run (run (0, 0) (zoneFs rs zs (xe.map RowN.ns))) (ruleFs rs xr)) (linkFs (zs.map ZoneV.name) ls xl)).2)
      have c2 := c1.cell
      simp only [results, Tryz.results12]
      go_simp
    · have hbl := hB1.out.trans (hb4.mono hB1.out.size)
      repeat (first|(with_reducible exact Below.refl _ _)|(with_reducible assumption)|(with_reducible refine ba ?_)|(with_reducible refine bd ?_)|(with_reducible refine bdn ?_ _)|(with_reducible refine bset ?_ (by first|exact Nat.le_refl _|omega|(simp;done)|(simp;omega)))|(with_reducible refine bt ?_ (by with_reducible assumption)))
end CkW
end Go.Proofs.YtcfmchpoclkpgaaGreatDoor
namespace Go.Proofs.YtcfmchpoclkpgaaGreatDoor
open Go.RowKit NB
namespace CkL
open Ck
theorem boxN {X : World} {n : Nat} {cs : Array Value} {t : TypeId} (h : X.heap.size = n) : Box (X.alloc (.cells cs t)) n cs t := by subst h;exact Box.new _ _ _
theorem of_boxG {α : Type} {k : Nat} {f : α → List Value} (hf : ∀ x, (f x).length = k) {W : World} {b : Nat} {l : List α} {t : TypeId} {cs : Array Value} (m : Nat) (h : Box W b cs t) (hc : cs.toList.take (m * k) = l.flatMap f) (hm : m = l.length) (hl : l.length ≤ 1000) (c : Nat) : HoldsG k f W (.slice (some ⟨b, 0, none⟩) m c) l := by
  subst hm
  refine ⟨.inr ⟨b, 0, c, rfl, h.lt, fun i j x v hi hj => ?_⟩, by omega⟩
  rw [List.getElem?_map] at hi
  obtain ⟨y, hy, rfl⟩ := Option.map_eq_some_iff.1 hi
  rw [h.cell, Nat.zero_add]
  have h1 := flatG_at hf l i j y v hy hj
  rw [← hc, List.getElem?_take] at h1
  split at h1
  · simpa using h1
  · cases h1
theorem fit0 : ∀ e ∈ [e0], e.Fit := by
  intro e he
  simp only [List.mem_singleton] at he
  subst he
  exact ⟨by decide, by decide, by unfold I64;decide, by unfold I64;decide, by unfold I64;decide, by unfold I64;decide⟩
theorem fit_eu1 : ∀ r ∈ [Us.eu], r.Fit := by intro r hr;simp only [List.mem_singleton] at hr;subst hr;exact Us.fit_eu
theorem fit_eu2 : ∀ r ∈ [Us.eu, Us.eu], r.Fit := by intro r hr;simp only [List.mem_cons, List.not_mem_nil, or_false, or_self] at hr;subst hr;exact Us.fit_eu
theorem era_h {W : World} {b : Nat} {t : TypeId} (h : Box W b #[.int .i64 0, .int .i64 2, .int .i64 0, .string ⟨#[69, 85]⟩, .string ⟨#[88]⟩, .bool false, .int .i64 0, .int .i64 0, .int .i64 0, .int .i64 0, .int .i64 0, .int .i64 0, .int .i64 0] t) : HoldsE W (.slice (some ⟨b, 0, none⟩) 1 1) [e0] :=
  ⟨(of_boxG (k := 13) (f := EraV.cells) (fun _ => rfl) 1 (l := [e0]) h rfl rfl (by decide) 1).lies, fit0, by decide⟩
theorem eu_h {W : World} {b c : Nat} {t : TypeId} (h : Box W b #[.string ⟨#[69, 85]⟩, .int .i64 1981, .int .i64 32767, .int .i64 3, .int .i64 1, .int .i64 0, .int .i64 0, .int .i64 3600, .int .i64 2, .int .i64 3600, .string ⟨#[83]⟩] t) : Holds W (.slice (some ⟨b, 0, none⟩) 1 c) [Us.eu] :=
  ⟨(of_boxG (k := 11) (f := RuleV.cells) (fun _ => rfl) 1 (l := [Us.eu]) h rfl rfl (by decide) c).lies, fit_eu1, by decide⟩
theorem zone_h {W : World} {b p c : Nat} {t : TypeId} (h : Box W b #[.string ⟨#[65]⟩, .slice (some ⟨p, 0, none⟩) 1 1] t) : HoldsG 2 ZoneV.cells W (.slice (some ⟨b, 0, none⟩) 1 c) [zA (.slice (some ⟨p, 0, none⟩) 1 1)] :=
  of_boxG (k := 2) (f := ZoneV.cells) (fun _ => rfl) 1 (l := [zA (.slice (some ⟨p, 0, none⟩) 1 1)]) h rfl rfl (by simp) c
theorem links_h {W : World} {b c : Nat} {t : TypeId} (h : Box W b #[.string ⟨#[66]⟩, .string ⟨#[65]⟩, .string ⟨#[65]⟩, .string ⟨#[66]⟩] t) : HoldsG 2 LinkV.cells W (.slice (some ⟨b, 0, none⟩) 2 c) lL := of_boxG (k := 2) (f := LinkV.cells) (fun _ => rfl) 2 (l := lL) h rfl rfl (by decide) c
theorem link_h {W : World} {b c : Nat} {t : TypeId} (h : Box W b #[.string ⟨#[66]⟩, .string ⟨#[65]⟩, .string ⟨#[65]⟩, .string ⟨#[66]⟩] t) : HoldsG 2 LinkV.cells W (.slice (some ⟨b, 0, none⟩) 1 c) lM := of_boxG (k := 2) (f := LinkV.cells) (fun _ => rfl) 1 (l := lM) h rfl rfl (by decide) c
theorem nilG {α : Type} {k : Nat} {f : α → List Value} (W : World) : HoldsG k f W (.slice none 0 0) [] := ⟨.inl ⟨_, _, rfl, rfl⟩, by simp⟩
theorem nilH (W : World) : Holds W (.slice none 0 0) [] := ⟨.inl ⟨_, _, rfl, rfl⟩, by simp, by simp⟩
theorem fitZ {W : World} {z : ZoneV} (h : HoldsE W z.v z.es) (hn : z.name.size ≤ 9) : z.Fit W := ⟨by omega, h⟩
theorem fitL : ∀ x ∈ lL, x.Fit := by intro x hx;simp only [lL, List.mem_cons, List.not_mem_nil, or_false] at hx;rcases hx with rfl|rfl <;> exact ⟨by decide, by decide⟩
theorem fitM : ∀ x ∈ lM, x.Fit := by intro x hx;simp only [lM, List.mem_cons, List.not_mem_nil, or_false] at hx;subst hx;exact ⟨by decide, by decide⟩
theorem tabA {W : World} {rv zv : Value} {rs : List RuleV} {zs : List ZoneV} (hr : Holds W rv rs) (hz : HoldsG 2 ZoneV.cells W zv zs) (hf : ∀ z ∈ zs, HoldsE W z.v z.es ∧ z.name.size ≤ 9) : HoldsT W ⟨rv, zv, .slice none 0 0, rs, zs, []⟩ :=
  ⟨hr, hz, fun z hz => fitZ (hf z hz).1 (hf z hz).2, nilG W, fun x hx => by cases hx⟩
theorem tabL {W : World} {lv : Value} {ls : List LinkV} (hl : HoldsG 2 LinkV.cells W lv ls) (hf : ∀ x ∈ ls, x.Fit) : HoldsT W ⟨.slice none 0 0, .slice none 0 0, lv, [], [], ls⟩ := ⟨nilH W, nilG W, (fun x hx => by cases hx), hl, hf⟩
theorem row1 {W : World} {b c : Nat} {n : Int} {t : TypeId} (h : Box W b #[.int .i64 n] t) (hn : I64 n) : HoldsI W (.slice (some ⟨b, 0, none⟩) 1 c) [n] ∧ ∀ m ∈ [n], I64 m :=
  ⟨of_boxG (k := 1) (f := intC) (fun _ => rfl) 1 (l := [n]) h rfl rfl (by simp) c, by intro m hm;simp only [List.mem_singleton] at hm;subst hm;exact hn⟩
theorem row2 {W : World} {b c : Nat} {n m : Int} {t : TypeId} (h : Box W b #[.int .i64 n, .int .i64 m] t) (hn : I64 n) (hm : I64 m) : HoldsI W (.slice (some ⟨b, 0, none⟩) 2 c) [n, m] ∧ ∀ x ∈ [n, m], I64 x :=
  ⟨of_boxG (k := 1) (f := intC) (fun _ => rfl) 2 (l := [n, m]) h rfl rfl (by simp) c, by intro x hx;simp only [List.mem_cons, List.not_mem_nil, or_false] at hx;rcases hx with rfl|rfl <;> assumption⟩
theorem nilI (W : World) : HoldsI W (.slice none 0 0) [] ∧ ∀ m ∈ ([] : List Int), I64 m := ⟨nilG W, by intro m hm;cases hm⟩
theorem whN {W : World} {rv ev lv : Value} {rs ls : List Int} {es : List RowN} (hr : HoldsI W rv rs ∧ ∀ m ∈ rs, I64 m) (he : HoldsG 1 RowN.cells W ev es) (hf : ∀ y ∈ es, HoldsI W y.v y.ns ∧ ∀ m ∈ y.ns, I64 m) (hl : HoldsI W lv ls ∧ ∀ m ∈ ls, I64 m) : HoldsW W ⟨rv, ev, lv, rs, es, ls⟩ :=
  ⟨hr.1, hr.2, he, fun y hy => ⟨(hf y hy).1, (hf y hy).2⟩, hl.1, hl.2⟩
theorem ev1 {W : World} {b c : Nat} {u : Value} {ns : List Int} {t : TypeId} (h : Box W b #[u] t) : HoldsG 1 RowN.cells W (.slice (some ⟨b, 0, none⟩) 1 c) [⟨u, ns⟩] := of_boxG (k := 1) (f := RowN.cells) (fun _ => rfl) 1 (l := [⟨u, ns⟩]) h rfl rfl (by simp) c
theorem ev2 {W : World} {b c : Nat} {u v : Value} {ns ms : List Int} {t : TypeId} (h : Box W b #[u, v] t) : HoldsG 1 RowN.cells W (.slice (some ⟨b, 0, none⟩) 2 c) [⟨u, ns⟩, ⟨v, ms⟩] := of_boxG (k := 1) (f := RowN.cells) (fun _ => rfl) 2 (l := [⟨u, ns⟩, ⟨v, ms⟩]) h rfl rfl (by simp) c
theorem checkC {W : World} {t : TabV} {x : WhV} (ht : Tab W) (h : HoldsT W t) (hx : HoldsW W x) (h1 : t.rs.length ≤ 2) (h2 : t.zs.length ≤ 2) (h3 : ∀ z ∈ t.zs, z.es.length ≤ 1) (h4 : t.ls.length ≤ 2) (h5 : x.rs.length ≤ 2) (h6 : x.ls.length ≤ 2) (h7 : ∀ y ∈ x.es, y.ns.length ≤ 1) (a b : Int) (hk : chk t.rs t.zs t.ls x.rs (x.es.map RowN.ns) x.ls = (a, b)) :
    Calls Tryz.prog 12 #[.agg #[t.rv, t.zv, t.lv], .agg #[x.rv, x.ev, x.lv]] W fun e w' => e = .returned (.agg #[.int .i64 a, .int .i64 b]) ∧ Below W.heap.size W w' := by
  have := CkW.Check h hx ht (by omega) (by omega) (fun z hz => by have := h3 z hz;omega) (by omega) (by omega) (by omega) (fun y hy => by have := h7 y hy;omega)
  rw [hk] at this
  exact this
theorem whereC {W : World} {t : TabV} {x : WhV} (ht : Tab W) (h : HoldsT W t) (hx : HoldsW W x) (h2 : t.zs.length ≤ 2) (h3 : ∀ z ∈ t.zs, z.es.length ≤ 1) (h5 : x.rs.length ≤ 2) (h6 : x.ls.length ≤ 2) (h7 : ∀ y ∈ x.es, y.ns.length ≤ 1) (b : Bool) (hk : whereB t.rs.length t.zs t.ls.length x.rs (x.es.map RowN.ns) x.ls = b) :
    Calls Tryz.prog 10 #[.agg #[t.rv, t.zv, t.lv], .agg #[x.rv, x.ev, x.lv]] W fun e w' => e = .returned (.bool b) ∧ Below W.heap.size W w' := by
  have := CkW.Where h hx (by omega) (fun z hz => by have := h3 z hz;omega) (by omega) (by omega) (fun y hy => by have := h7 y hy;omega) ht
  rw [hk] at this
  exact this
end CkL
end Go.Proofs.YtcfmchpoclkpgaaGreatDoor
