import Derived.Test.YtcfmchpoclkpgaaGreatDoorG23
import Derived.Test.YtcfmchpoclkpgaaGreatDoorG25
import Derived.Test.YtcfmchpoclkpgaaGreatDoorCkLw
import Derived.Test.YtcfmchpoclkpgaaGreatDoorRCkX
import Derived.Test.YtcfmchpoclkpgaaGreatDoorG3
import Derived.Test.YtcfmchpoclkpgaaGreatDoorOpenE
import Derived.Shelf.Vars
namespace Go.Proofs.YtcfmchpoclkpgaaGreatDoor
open Go.RowKit NB
namespace CkL
def lightR (y : RowN) : Bool := decide (y.ns.length ≤ 60)
def lightW (x : WhV) : Bool := decide (x.rs.length ≤ 60) && (decide (x.ls.length ≤ 60) && (decide (x.es.length ≤ 60) && x.es.all lightR))
set_option maxRecDepth 100000 in
set_option maxHeartbeats 3200000 in
theorem light {w : World} {x : WhV} (h : HoldsW w x) : Calls Tryz.prog 8 #[.agg #[x.rv, x.ev, x.lv]] w fun e w' => e = .returned (.bool (lightW x)) ∧ Below w.heap.size w w' := by
  obtain ⟨R, hR⟩ : ∃ r, r = lightW x := ⟨_, rfl⟩
  rw [← hR]
  unfold lightW at hR
  obtain ⟨xrv, xev, xlv, xr, xe, xl⟩ := x
  have hef := h.ef
  obtain ⟨px, qx, e4⟩ := h.r.form
  obtain ⟨pe, qe, e5, hpe⟩ := h.e.pk
  obtain ⟨py, qy, e6⟩ := h.l.form
  have l1 := h.r.len;have l2 := h.e.len;have l3 := h.l.len
  dsimp only at e4 e5 e6 hpe hR hef l1 l2 l3 ⊢
  subst e4 e5 e6
  obtain ⟨mr, hmr⟩ : ∃ n, n = xr.length := ⟨_, rfl⟩
  obtain ⟨mz, hmz⟩ : ∃ n, n = xe.length := ⟨_, rfl⟩
  obtain ⟨ml, hml⟩ : ∃ n, n = xl.length := ⟨_, rfl⟩
  rw [← hmr, ← hmz, ← hml] at hR ⊢
  rw [← hmr] at l1
  rw [← hmz] at l2
  rw [← hml] at l3
  have HPE := Lib.hid hpe;have HEF := Lib.hid hef;have HMZ := Lib.hid hmz;have HR := Lib.hid hR
  clear hpe hef hmr hmz hml hR h
  by_cases h1 : mr ≤ 60
  case neg =>
    have HE : Hid (R = false) := by rw [HR.out, decide_eq_false h1];exact rfl
    have q1 : 60 < mr := by omega
    clear h1
    go_enter Tryz.func8, Tryz.ntmps8
    go_wp2
    go_ret
    exact ⟨by rw [HE.out];rfl, by repeat (first|(with_reducible exact Below.refl _ _)|(with_reducible assumption)|(with_reducible refine ba ?_)|(with_reducible refine bd ?_)|(with_reducible refine bdn ?_ _)|(with_reducible refine bset ?_ (by first|exact Nat.le_refl _|omega|(simp;done)|(simp;omega)))|(with_reducible refine bt ?_ (by with_reducible assumption)))⟩
  by_cases h2 : ml ≤ 60
  case neg =>
    have HE : Hid (R = false) := by rw [HR.out, decide_eq_false h2, Bool.false_and, Bool.and_false];exact rfl
    have q1 : 60 < ml := by omega
    clear h2
    go_enter Tryz.func8, Tryz.ntmps8
    go_wp2
    go_ret
    exact ⟨by rw [HE.out];rfl, by repeat (first|(with_reducible exact Below.refl _ _)|(with_reducible assumption)|(with_reducible refine ba ?_)|(with_reducible refine bd ?_)|(with_reducible refine bdn ?_ _)|(with_reducible refine bset ?_ (by first|exact Nat.le_refl _|omega|(simp;done)|(simp;omega)))|(with_reducible refine bt ?_ (by with_reducible assumption)))⟩
  by_cases h3 : mz ≤ 60
  case neg =>
    have HE : Hid (R = false) := by rw [HR.out, decide_eq_false h3, Bool.false_and, Bool.and_false, Bool.and_false];exact rfl
    have q1 : 60 < mz := by omega
    clear h3
    go_enter Tryz.func8, Tryz.ntmps8
    go_wp2
    go_ret
    exact ⟨by rw [HE.out];rfl, by repeat (first|(with_reducible exact Below.refl _ _)|(with_reducible assumption)|(with_reducible refine ba ?_)|(with_reducible refine bd ?_)|(with_reducible refine bdn ?_ _)|(with_reducible refine bset ?_ (by first|exact Nat.le_refl _|omega|(simp;done)|(simp;omega)))|(with_reducible refine bt ?_ (by with_reducible assumption)))⟩
  have HR2 : Hid (R = xe.all lightR) := by rw [HR.out, decide_eq_true h1, decide_eq_true h2, decide_eq_true h3, Bool.true_and, Bool.true_and, Bool.true_and];exact rfl
  go_enter Tryz.func8, Tryz.ntmps8
  go_wp2_with (first|fail)
  obtain ⟨w2, hw2⟩ : ∃ w2, w2 = w.alloc (.cells #[.slice px mr qx, .slice pe mz qe, .slice py ml qy] 30) := ⟨_, rfl⟩
  have hb2 : Below w.heap.size w w2 := by rw [hw2];repeat (first|(with_reducible exact Below.refl _ _)|(with_reducible assumption)|(with_reducible refine ba ?_)|(with_reducible refine bd ?_)|(with_reducible refine bdn ?_ _)|(with_reducible refine bset ?_ (by first|exact Nat.le_refl _|omega|(simp;done)|(simp;omega)))|(with_reducible refine bt ?_ (by with_reducible assumption)))
  rw [← hw2]
  clear hw2
  go_loopw [24] (fun i wr => ∃ k : Nat, i = .int .i64 k ∧ k ≤ mz ∧ Below w2.heap.size w2 wr ∧ Hid ((xe.take k).all lightR = true)) (fun i _ => mz - (intOf i).toNat)
  case atStart => exact ⟨0, rfl, Nat.zero_le _, Below.refl _ _, rfl⟩
  case round =>
    obtain ⟨k, rfl, hk, hbr, HS⟩ := hrel
    have hbw : Below w.heap.size w wr := hb2.trans (hbr.mono hb2.size)
    by_cases hlt : k < mz
    · obtain ⟨y, hy⟩ : ∃ y, xe[k]? = some y := ⟨_, List.getElem?_eq_getElem (by rw [← HMZ.out];exact hlt)⟩
      obtain ⟨g1, o1, rfl, hg1, d1⟩ := HPE.out k y hy
      have y0 := (hbw.cell (p := ⟨g1, o1 + k * 1 + 0, none⟩) hg1).trans (d1 0 _ rfl)
      rw [Nat.mul_one, Nat.add_zero] at y0
      obtain ⟨pq, cq, hv⟩ := (HEF.out y (List.mem_of_getElem? hy)).h.form
      have hyl := (HEF.out y (List.mem_of_getElem? hy)).h.len
      rw [hv] at y0
      obtain ⟨m, hm⟩ : ∃ m, m = y.ns.length := ⟨_, rfl⟩
      rw [← hm] at y0 hyl
      have HY := Lib.hid hy;have HM := Lib.hid hm
      have q1 : (k : Int) < (mz : Int) := by omega
      clear d1 hv hy hm
      by_cases h4 : m ≤ 60
      · have HE := Lib.hid (show lightR y = true by unfold lightR;rw [← HM.out];exact decide_eq_true h4)
        go_wp2
        go_roundw
        case rel => exact ⟨k + 1, by go_num, by omega, hbr, Eqs.take_all HY.out HS.out HE.out⟩
        case measure => simp [intOf];omega
      · have HE : Hid (R = false) := by rw [HR2.out];exact Eqs.not_all HY.out (show lightR y = false by unfold lightR;rw [← HM.out];exact decide_eq_false h4)
        have q4 : 60 < m := by omega
        clear h4
        go_wp2
        go_ret
        exact ⟨by rw [HE.out];rfl, by repeat (first|(with_reducible exact Below.refl _ _)|(with_reducible assumption)|(with_reducible refine ba ?_)|(with_reducible refine bd ?_)|(with_reducible refine bdn ?_ _)|(with_reducible refine bset ?_ (by first|exact Nat.le_refl _|omega|(simp;done)|(simp;omega)))|(with_reducible refine bt ?_ (by with_reducible assumption)))⟩
    · obtain rfl : mz = k := by omega
      have hS := HS.out
      rw [List.take_of_length_le (by rw [← HMZ.out];exact Nat.le_refl _), ← HR2.out] at hS
      have HE := Lib.hid hS
      clear hS HS
      go_wp2
      go_ret
      exact ⟨by rw [HE.out];rfl, by repeat (first|(with_reducible exact Below.refl _ _)|(with_reducible assumption)|(with_reducible refine ba ?_)|(with_reducible refine bd ?_)|(with_reducible refine bdn ?_ _)|(with_reducible refine bset ?_ (by first|exact Nat.le_refl _|omega|(simp;done)|(simp;omega)))|(with_reducible refine bt ?_ (by with_reducible assumption)))⟩
end CkL
end Go.Proofs.YtcfmchpoclkpgaaGreatDoor
namespace Go.Proofs.YtcfmchpoclkpgaaGreatDoor
open Go.RowKit NB
namespace CkL
open Ck
theorem lightT_len {t : TabV} (h : Eqs.lightT t = true) : t.rs.length ≤ 12 ∧ t.zs.length ≤ 10 ∧ t.ls.length ≤ 16 ∧ ∀ z ∈ t.zs, z.es.length ≤ 12 := by
  unfold Eqs.lightT at h
  simp only [Bool.and_eq_true, decide_eq_true_eq] at h
  obtain ⟨h1, h2, h3, h4, _⟩ := h
  refine ⟨Lgt.light_len h1, h2, h3, fun z hz => ?_⟩
  have := List.all_eq_true.1 h4 z hz
  unfold Zn.lightZ at this
  simp only [Bool.and_eq_true, decide_eq_true_eq] at this
  exact this.1.1
theorem lightW_len {x : WhV} (h : lightW x = true) : x.rs.length ≤ 60 ∧ x.ls.length ≤ 60 ∧ x.es.length ≤ 60 ∧ ∀ y ∈ x.es, y.ns.length ≤ 60 := by
  unfold lightW at h
  simp only [Bool.and_eq_true, decide_eq_true_eq] at h
  obtain ⟨h1, h2, h3, h4⟩ := h
  refine ⟨h1, h2, h3, fun y hy => ?_⟩
  have := List.all_eq_true.1 h4 y hy
  unfold lightR at this
  exact of_decide_eq_true this
set_option maxRecDepth 100000 in
set_option maxHeartbeats 6400000 in
theorem tells (t : TabV) (x : WhV) (w : World) (h : HoldsC w t) (hx : HoldsW w x) (ht : Tab w) : Calls Tryz.prog 3 #[.agg #[t.rv, t.zv, t.lv], .agg #[x.rv, x.ev, x.lv]] w fun e w' => e = .returned (.bool true) ∧ Below w.heap.size w w' := by
  have cv := fun (X : World) (hX : Below w.heap.size w X) => lives X (ht.later hX)
  have c1 := fun (X : World) (hX : Below w.heap.size w X) => Eqs.Light (h.h.later hX)
  have c2 := fun (X : World) (hX : Below w.heap.size w X) => light (hx.later hX)
  have cw : Eqs.lightT t = true → lightW x = true → ∃ WB, (∀ X, Below w.heap.size w X → Calls Tryz.prog 10 #[.agg #[t.rv, t.zv, t.lv], .agg #[x.rv, x.ev, x.lv]] X fun e w' => e = .returned (.bool WB) ∧ Below X.heap.size X w') ∧ (∀ X, Below w.heap.size w X → Calls Tryz.prog 11 #[.agg #[t.rv, t.zv, t.lv], .agg #[x.rv, x.ev, x.lv]] X fun e w' => e = .returned (.bool WB) ∧ Below X.heap.size X w') := fun q1 q2 => by
    obtain ⟨l1, l2, l3, l4⟩ := lightT_len q1
    obtain ⟨m1, m2, m3, m4⟩ := lightW_len q2
    exact ⟨_, fun X hX => CkW.Where (h.h.later hX) (hx.later hX) (by omega) (fun z hz => by have := l4 z hz;omega) (by omega) (by omega) (fun y hy => by have := m4 y hy;omega) (ht.later hX), fun X hX => RCk.Where (h.h.later hX) (hx.later hX) (by omega) (fun z hz => by have := l4 z hz;omega) (by omega) (by omega) (fun y hy => by have := m4 y hy;omega)⟩
  have cc : Eqs.lightT t = true → lightW x = true → ∃ a b : Int, (∀ X, Below w.heap.size w X → Calls Tryz.prog 12 #[.agg #[t.rv, t.zv, t.lv], .agg #[x.rv, x.ev, x.lv]] X fun e w' => e = .returned (.agg #[.int .i64 a, .int .i64 b]) ∧ Below X.heap.size X w') ∧ (∀ X, Below w.heap.size w X → Calls Tryz.prog 13 #[.agg #[t.rv, t.zv, t.lv], .agg #[x.rv, x.ev, x.lv]] X fun e w' => e = .returned (.agg #[.int .i64 a, .int .i64 b]) ∧ Below X.heap.size X w') := fun q1 q2 => by
    obtain ⟨l1, l2, l3, l4⟩ := lightT_len q1
    obtain ⟨m1, m2, m3, m4⟩ := lightW_len q2
    exact ⟨_, _, fun X hX => CkW.Check (h.h.later hX) (hx.later hX) (ht.later hX) l1 (by omega) (fun z hz => by have := l4 z hz;omega) (by omega) (by omega) (by omega) (fun y hy => by have := m4 y hy;omega), fun X hX => RCk.Check (h.later hX) (hx.later hX) l1 (by omega) (fun z hz => by have := l4 z hz;omega) (by omega) (by omega) (by omega) (fun y hy => by have := m4 y hy;omega)⟩
  obtain ⟨L1, hL1⟩ : ∃ b, b = Eqs.lightT t := ⟨_, rfl⟩
  obtain ⟨L2, hL2⟩ : ∃ b, b = lightW x := ⟨_, rfl⟩
  rw [← hL1] at c1 cw cc
  rw [← hL2] at c2 cw cc
  obtain ⟨pr, cr, e1⟩ := h.h.r.form
  obtain ⟨pz, cz, e2⟩ := h.h.z.form
  obtain ⟨pl, cl, e3⟩ := h.h.l.form
  obtain ⟨px, cx, e4⟩ := hx.r.form
  obtain ⟨pe, ce, e5⟩ := hx.e.form
  obtain ⟨py, cy, e6⟩ := hx.l.form
  rw [e1, e2, e3] at c1 cw cc
  rw [e4, e5, e6] at c2 cw cc
  rw [e1, e2, e3, e4, e5, e6]
  have CV := Lib.hid cv;have C1 := Lib.hid c1;have C2 := Lib.hid c2
  clear cv c1 c2 hL1 hL2 e1 e2 e3 e4 e5 e6 h hx ht
  generalize t.rs.length = nr at *
  generalize t.zs.length = nz at *
  generalize t.ls.length = nl at *
  generalize x.rs.length = mr at *
  generalize x.es.length = mz at *
  generalize x.ls.length = ml at *
  have b1 : ∀ X, Below ((w.alloc (.cells #[.slice pr nr cr, .slice pz nz cz, .slice pl nl cl] 26)).alloc (.cells #[.slice px mr cx, .slice pe mz ce, .slice py ml cy] 30)).heap.size ((w.alloc (.cells #[.slice pr nr cr, .slice pz nz cz, .slice pl nl cl] 26)).alloc (.cells #[.slice px mr cx, .slice pe mz ce, .slice py ml cy] 30)) X → Box X w.heap.size #[.slice pr nr cr, .slice pz nz cz, .slice pl nl cl] 26 ∧ Box X (w.heap.size + 1) #[.slice px mr cx, .slice pe mz ce, .slice py ml cy] 30 := fun X hX => ⟨((Box.new w _ _).old).later hX, (boxN (by simp)).later hX⟩
  have B1 := Lib.hid b1
  clear b1
  cases L1 with
  | false =>
    clear cw cc
    go_enter Tryz.func3, Tryz.ntmps3
    go_wp2_with (first
      | (go_at_call 7;(with_reducible refine (C1.out _ ?_).mono ?_);(· repeat (first|(with_reducible exact Below.refl _ _)|(with_reducible assumption)|(with_reducible refine ba ?_)|(with_reducible refine bd ?_)|(with_reducible refine bdn ?_ _)|(with_reducible refine bset ?_ (by first|exact Nat.le_refl _|omega|(simp;done)|(simp;omega)))|(with_reducible refine bt ?_ (by with_reducible assumption))));rintro e w1 ⟨rfl, hb1⟩;obtain ⟨hc1, hf1⟩ := bcell hb1)
      | (go_at_call 9;(with_reducible refine (CV.out _ ?_).mono ?_);(· repeat (first|(with_reducible exact Below.refl _ _)|(with_reducible assumption)|(with_reducible refine ba ?_)|(with_reducible refine bd ?_)|(with_reducible refine bdn ?_ _)|(with_reducible refine bset ?_ (by first|exact Nat.le_refl _|omega|(simp;done)|(simp;omega)))|(with_reducible refine bt ?_ (by with_reducible assumption))));rintro e w2 ⟨rfl, hb2⟩;obtain ⟨hc2, hf2⟩ := bcell hb2))
    go_ret
    exact ⟨rfl, by repeat (first|(with_reducible exact Below.refl _ _)|(with_reducible assumption)|(with_reducible refine ba ?_)|(with_reducible refine bd ?_)|(with_reducible refine bdn ?_ _)|(with_reducible refine bset ?_ (by first|exact Nat.le_refl _|omega|(simp;done)|(simp;omega)))|(with_reducible refine bt ?_ (by with_reducible assumption)))⟩
  | true =>
    cases L2 with
    | false =>
      clear cw cc
      go_enter Tryz.func3, Tryz.ntmps3
      go_wp2_with (first
        | (go_at_call 7;refine (C1.out _ ?_).mono ?_;(· repeat (first|(with_reducible exact Below.refl _ _)|(with_reducible assumption)|(with_reducible refine ba ?_)|(with_reducible refine bd ?_)|(with_reducible refine bdn ?_ _)|(with_reducible refine bset ?_ (by first|exact Nat.le_refl _|omega|(simp;done)|(simp;omega)))|(with_reducible refine bt ?_ (by with_reducible assumption))));rintro e w1 ⟨rfl, hb1⟩;have c1 := (B1.out _ hb1).1.cell;have c2 := (B1.out _ hb1).2.cell)
        | (go_at_call 8;(with_reducible refine (C2.out _ ?_).mono ?_);(· repeat (first|(with_reducible exact Below.refl _ _)|(with_reducible assumption)|(with_reducible refine ba ?_)|(with_reducible refine bd ?_)|(with_reducible refine bdn ?_ _)|(with_reducible refine bset ?_ (by first|exact Nat.le_refl _|omega|(simp;done)|(simp;omega)))|(with_reducible refine bt ?_ (by with_reducible assumption))));rintro e w3 ⟨rfl, hb3⟩;obtain ⟨hc3, hf3⟩ := bcell hb3)
        | (go_at_call 9;(with_reducible refine (CV.out _ ?_).mono ?_);(· repeat (first|(with_reducible exact Below.refl _ _)|(with_reducible assumption)|(with_reducible refine ba ?_)|(with_reducible refine bd ?_)|(with_reducible refine bdn ?_ _)|(with_reducible refine bset ?_ (by first|exact Nat.le_refl _|omega|(simp;done)|(simp;omega)))|(with_reducible refine bt ?_ (by with_reducible assumption))));rintro e w2 ⟨rfl, hb2⟩;obtain ⟨hc2, hf2⟩ := bcell hb2))
      go_ret
      exact ⟨rfl, by repeat (first|(with_reducible exact Below.refl _ _)|(with_reducible assumption)|(with_reducible refine ba ?_)|(with_reducible refine bd ?_)|(with_reducible refine bdn ?_ _)|(with_reducible refine bset ?_ (by first|exact Nat.le_refl _|omega|(simp;done)|(simp;omega)))|(with_reducible refine bt ?_ (by with_reducible assumption)))⟩
    | true =>
      obtain ⟨WB, cw1, cw2⟩ := cw rfl rfl
      obtain ⟨fa, fb, cc1, cc2⟩ := cc rfl rfl
      have CW1 := Lib.hid cw1;have CW2 := Lib.hid cw2;have CC1 := Lib.hid cc1;have CC2 := Lib.hid cc2
      clear cw cc cw1 cw2 cc1 cc2
      go_enter Tryz.func3, Tryz.ntmps3
      go_upto_region 3 with (first
        | (go_at_call 7;refine (C1.out _ ?_).mono ?_;(· repeat (first|(with_reducible exact Below.refl _ _)|(with_reducible assumption)|(with_reducible refine ba ?_)|(with_reducible refine bd ?_)|(with_reducible refine bdn ?_ _)|(with_reducible refine bset ?_ (by first|exact Nat.le_refl _|omega|(simp;done)|(simp;omega)))|(with_reducible refine bt ?_ (by with_reducible assumption))));rintro e w1 ⟨rfl, hb1⟩;have c1 := (B1.out _ hb1).1.cell;have c2 := (B1.out _ hb1).2.cell)
        | (go_at_call 8;refine (C2.out _ ?_).mono ?_;(· repeat (first|(with_reducible exact Below.refl _ _)|(with_reducible assumption)|(with_reducible refine ba ?_)|(with_reducible refine bd ?_)|(with_reducible refine bdn ?_ _)|(with_reducible refine bset ?_ (by first|exact Nat.le_refl _|omega|(simp;done)|(simp;omega)))|(with_reducible refine bt ?_ (by with_reducible assumption))));rintro e w3 ⟨rfl, hb3⟩;have hb13 := hb1.trans (hb3.mono hb1.size);have c3 := (B1.out _ hb13).1.cell;have c4 := (B1.out _ hb13).2.cell;have s3 := (B1.out _ hb13).1.lt;have s4 := (B1.out _ hb13).2.lt))
      have hw3 : Below w.heap.size w w3 := by repeat (first|(with_reducible exact Below.refl _ _)|(with_reducible assumption)|(with_reducible refine ba ?_)|(with_reducible refine bd ?_)|(with_reducible refine bdn ?_ _)|(with_reducible refine bset ?_ (by first|exact Nat.le_refl _|omega|(simp;done)|(simp;omega)))|(with_reducible refine bt ?_ (by with_reducible assumption)))
      clear c1 c2 hb1 hb3 hb13
      (refine region_later (by kernel_rfl) (by kernel_rfl) ?_;(repeat (go_big_quiet_step (first|(go_at_call 10;rename_i xL;apply calls_later xL (Nat.le_refl _);exact (CW1.out _ (by have hbx := xL.h;repeat (first|(with_reducible exact Below.refl _ _)|(with_reducible assumption)|(with_reducible refine ba ?_)|(with_reducible refine bd ?_)|(with_reducible refine bdn ?_ _)|(with_reducible refine bset ?_ (by first|exact Nat.le_refl _|omega|(simp;done)|(simp;omega)))|(with_reducible refine bt ?_ (by with_reducible assumption))))))|(go_at_call 11;rename_i xL;apply calls_later xL (Nat.le_refl _);exact (CW2.out _ (by have hbx := xL.h;repeat (first|(with_reducible exact Below.refl _ _)|(with_reducible assumption)|(with_reducible refine ba ?_)|(with_reducible refine bd ?_)|(with_reducible refine bdn ?_ _)|(with_reducible refine bset ?_ (by first|exact Nat.le_refl _|omega|(simp;done)|(simp;omega)))|(with_reducible refine bt ?_ (by with_reducible assumption))))))|(go_at_call 12;rename_i xL;apply calls_later xL (Nat.le_refl _);exact (CC1.out _ (by have hbx := xL.h;repeat (first|(with_reducible exact Below.refl _ _)|(with_reducible assumption)|(with_reducible refine ba ?_)|(with_reducible refine bd ?_)|(with_reducible refine bdn ?_ _)|(with_reducible refine bset ?_ (by first|exact Nat.le_refl _|omega|(simp;done)|(simp;omega)))|(with_reducible refine bt ?_ (by with_reducible assumption))))))|(go_at_call 13;rename_i xL;apply calls_later xL (Nat.le_refl _);exact (CC2.out _ (by have hbx := xL.h;repeat (first|(with_reducible exact Below.refl _ _)|(with_reducible assumption)|(with_reducible refine ba ?_)|(with_reducible refine bd ?_)|(with_reducible refine bdn ?_ _)|(with_reducible refine bset ?_ (by first|exact Nat.le_refl _|omega|(simp;done)|(simp;omega)))|(with_reducible refine bt ?_ (by with_reducible assumption))))))|(go_at_call 9;rename_i xL;apply calls_later xL (Nat.le_refl _);exact (CV.out _ (by have hbx := xL.h;repeat (first|(with_reducible exact Below.refl _ _)|(with_reducible assumption)|(with_reducible refine ba ?_)|(with_reducible refine bd ?_)|(with_reducible refine bdn ?_ _)|(with_reducible refine bset ?_ (by first|exact Nat.le_refl _|omega|(simp;done)|(simp;omega)))|(with_reducible refine bt ?_ (by with_reducible assumption)))))))));refine wpQuiet_nil ?_;rintro u8 ⟨xU, eU⟩;have hu8 := xU.h;rw [← eU] at hu8;clear eU xU)
      go_wp2
      go_ret
      exact ⟨rfl, by repeat (first|(with_reducible exact Below.refl _ _)|(with_reducible assumption)|(with_reducible refine ba ?_)|(with_reducible refine bd ?_)|(with_reducible refine bdn ?_ _)|(with_reducible refine bset ?_ (by first|exact Nat.le_refl _|omega|(simp;done)|(simp;omega)))|(with_reducible refine bt ?_ (by with_reducible assumption)))⟩
end CkL
end Go.Proofs.YtcfmchpoclkpgaaGreatDoor
namespace Go.Proofs.YtcfmchpoclkpgaaGreatDoor
open Go.RowKit Go.ChangeShapes Go.WideShapes
theorem tab_at {W : World} (h : W.ShapedOpen Tryz.prog) : Tab W := cell_of_shapedOpen_int (zero := #[.int .i64 0]) (t := 3) h (of_decide_eq_true (by kernel_rfl)) (by kernel_rfl) rfl (by kernel_rfl) (by kernel_rfl) Tryz.underlying3
end Go.Proofs.YtcfmchpoclkpgaaGreatDoor
