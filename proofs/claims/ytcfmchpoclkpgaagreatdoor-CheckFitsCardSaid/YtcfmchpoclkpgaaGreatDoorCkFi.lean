import Derived.Test.YtcfmchpoclkpgaaGreatDoorG27
namespace Go.Proofs.YtcfmchpoclkpgaaGreatDoor
open Go.RowKit NB
namespace CkL
open Ck
theorem whereP {W : World} {t : TabV} {x : WhV} (ht : Tab W) (h : HoldsT W t) (hx : HoldsW W x) (hp : IsP t x) (l1 : t.rs.length ≤ 12) (l2 : t.zs.length ≤ 10) (l3 : t.ls.length ≤ 16) (l4 : ∀ z ∈ t.zs, z.es.length ≤ 12) :
    Calls Tryz.prog 10 #[.agg #[t.rv, t.zv, t.lv], .agg #[x.rv, x.ev, x.lv]] W fun e w' => e = .returned (.bool (whereB t.rs.length t.zs t.ls.length (up 0 t.rs.length) (upE t.rs.length t.zs) (up (t.rs.length + sumE t.zs) t.ls.length))) ∧ Below W.heap.size W w' := by
  have := CkW.Where h hx (by omega) (fun z hz => by have := l4 z hz;omega) (by rw [hp.r, up_len];omega) (by rw [hp.l, up_len];omega) (fun y hy => by have := hp.row l4 y hy;omega) ht
  rw [hp.r, hp.e, hp.l] at this
  exact this
theorem named_app (l : List RuleV) (s : ByteArray) {j : Nat} {r : RuleV} (h : l[j]? = some r) : named (l.take (j + 1)) s = (named (l.take j) s || decide (r.name = s)) := by
  unfold named
  rw [List.take_add_one, h, List.any_append]
  simp
set_option maxRecDepth 100000 in
set_option maxHeartbeats 12800000 in
theorem fits (t : TabV) (w : World) (h : HoldsC w t) (ht : Tab w) : Calls Tryz.prog 5 #[.agg #[t.rv, t.zv, t.lv]] w fun e w' => e = .returned (.bool true) ∧ Below w.heap.size w w' := by
  have cv := fun (X : World) (hX : Below w.heap.size w X) => lives X (ht.later hX)
  have c1 := fun (X : World) (hX : Below w.heap.size w X) => Eqs.Light (h.h.later hX)
  obtain ⟨L1, hL1⟩ : ∃ b, b = Eqs.lightT t := ⟨_, rfl⟩
  rw [← hL1] at c1
  have hlen := lightT_len (t := t)
  rw [← hL1] at hlen
  obtain ⟨rv, zv, lv, rs, zs, ls⟩ := t
  obtain ⟨pr, cr, e1, hpr⟩ := h.h.r.g.pk
  obtain ⟨pz, cz, e2, hpz⟩ := h.h.z.pk
  obtain ⟨pl, cl, e3, hpl⟩ := h.h.l.pk
  dsimp only at e1 e2 e3 c1 hlen hpr hpz hpl ⊢
  subst e1 e2 e3
  have CV := Lib.hid cv;have C1 := Lib.hid c1;have HH := Lib.hid h;have HT := Lib.hid ht;have HPR := Lib.hid hpr;have HPZ := Lib.hid hpz;have HPL := Lib.hid hpl
  clear cv c1 hL1 h ht hpz hpr hpl
  obtain ⟨nr, hnr⟩ : ∃ n, n = rs.length := ⟨_, rfl⟩
  obtain ⟨nz, hnz⟩ : ∃ n, n = zs.length := ⟨_, rfl⟩
  obtain ⟨nl, hnl⟩ : ∃ n, n = ls.length := ⟨_, rfl⟩
  rw [← hnr, ← hnz, ← hnl] at C1 ⊢
  have HNR := Lib.hid hnr;have HNZ := Lib.hid hnz;have HNL := Lib.hid hnl
  clear hnr hnz hnl
  have hT1 : ∀ X, Below (w.alloc (.cells #[.slice pr nr cr, .slice pz nz cz, .slice pl nl cl] 26)).heap.size (w.alloc (.cells #[.slice pr nr cr, .slice pz nz cz, .slice pl nl cl] 26)) X → Box X w.heap.size #[.slice pr nr cr, .slice pz nz cz, .slice pl nl cl] 26 := fun X hX => (Box.new w _ _).later hX
  have HT1 := Lib.hid hT1
  clear hT1
  cases L1 with
  | false =>
    clear hlen
    go_enter Tryz.func5, Tryz.ntmps5
    go_wp2_with (first
      | (go_at_call 9;refine (CV.out _ ?_).mono ?_;(· repeat (first|(with_reducible exact Below.refl _ _)|(with_reducible assumption)|(with_reducible refine ba ?_)|(with_reducible refine bd ?_)|(with_reducible refine bdn ?_ _)|(with_reducible refine bset ?_ (by first|exact Nat.le_refl _|omega|(simp;done)|(simp;omega)))|(with_reducible refine bt ?_ (by with_reducible assumption))));rintro e w1 ⟨rfl, hb1⟩;have c1 := (HT1.out _ hb1).cell)
      | (go_at_call 7;(with_reducible refine (C1.out _ ?_).mono ?_);(· repeat (first|(with_reducible exact Below.refl _ _)|(with_reducible assumption)|(with_reducible refine ba ?_)|(with_reducible refine bd ?_)|(with_reducible refine bdn ?_ _)|(with_reducible refine bset ?_ (by first|exact Nat.le_refl _|omega|(simp;done)|(simp;omega)))|(with_reducible refine bt ?_ (by with_reducible assumption))));rintro e w2 ⟨rfl, hb2⟩;obtain ⟨hc2, hf2⟩ := bcell hb2))
    go_ret
    exact ⟨rfl, by repeat (first|(with_reducible exact Below.refl _ _)|(with_reducible assumption)|(with_reducible refine ba ?_)|(with_reducible refine bd ?_)|(with_reducible refine bdn ?_ _)|(with_reducible refine bset ?_ (by first|exact Nat.le_refl _|omega|(simp;done)|(simp;omega)))|(with_reducible refine bt ?_ (by with_reducible assumption)))⟩
  | true =>
    obtain ⟨l1, l2, l3, l4⟩ := hlen rfl
    clear hlen
    obtain ⟨f1, f2, hf⟩ : ∃ f1 f2, (f1, f2) = chkP rs zs ls := ⟨_, _, rfl⟩
    obtain ⟨WB, hWB⟩ : ∃ b, b = whereB rs.length zs ls.length (up 0 rs.length) (upE rs.length zs) (up (rs.length + sumE zs) ls.length) := ⟨_, rfl⟩
    have hline : f2 ≠ 0 → decide (0 < f1) = WB := fun hne => by
      rw [hWB]
      have e2 : f2 = (chkP rs zs ls).2 := by rw [← hf]
      have e1 : f1 = (chkP rs zs ls).1 := by rw [← hf]
      rw [e1]
      exact fits_line (by rw [e2] at hne;exact hne)
    have hfine : f2 = 0 → Fine rs zs ls := fun he => fine (rs := up 0 rs.length) (es := upE rs.length zs) (ns := up (rs.length + sumE zs) ls.length) (by rw [show chk rs zs ls _ _ _ = (f1, f2) from hf.symm];exact he)
    have hT0 : ∀ X, Below w.heap.size w X → HoldsT X ⟨.slice pr nr cr, .slice pz nz cz, .slice pl nl cl, rs, zs, ls⟩ := fun X hX => by
      have h0 := (HH.out.h.later hX)
      rwa [← HNR.out, ← HNZ.out, ← HNL.out] at h0
    have p1 := fun X (hX : Below w.heap.size w X) => plainP (hT0 X hX) l1 l2 l3 l4
    have k1 := fun X (hX : Below w.heap.size w X) (x : WhV) (hx : HoldsW X x) (hp : IsP ⟨.slice pr nr cr, .slice pz nz cz, .slice pl nl cl, rs, zs, ls⟩ x) => checkP (HT.out.later hX) (hT0 X hX) hx hp l1 l2 l3 l4
    have k2 := fun X (hX : Below w.heap.size w X) (x : WhV) (hx : HoldsW X x) (hp : IsP ⟨.slice pr nr cr, .slice pz nz cz, .slice pl nl cl, rs, zs, ls⟩ x) => whereP (HT.out.later hX) (hT0 X hX) hx hp l1 l2 l3 l4
    have k3 := fun X (hX : Below w.heap.size w X) => BkW.Twice (hT0 X hX) (show zs.length ≤ 1000 by omega) (show ls.length ≤ 1000 by omega)
    have k4 := fun X (hX : Below w.heap.size w X) => BkN.New (hT0 X hX) (show zs.length ≤ 1000 by omega) (show ls.length ≤ 1000 by omega)
    have k5 := fun X (hX : Below w.heap.size w X) => Chk.CheckH (hT0 X hX).r l1
    have k6 := fun X (hX : Below w.heap.size w X) (z : ZoneV) (hz : z ∈ zs) => Unt.Check (hT0 X hX).r (((hT0 X hX).zf z hz).e) z.name (by have := l4 z hz;omega) (HT.out.later hX)
    dsimp only at p1 k1 k2 k3 k4 k5 k6 l1 l2 l3 l4
    rw [← hf] at k1
    rw [← hWB] at k2
    unfold RCk.fcs at k1
    unfold RBk.zn at k3 k4
    dsimp only at k3 k4
    have P1 := Lib.hid p1;have K1 := Lib.hid k1;have K2 := Lib.hid k2;have K3 := Lib.hid k3;have K4 := Lib.hid k4;have K5 := Lib.hid k5;have K6 := Lib.hid k6;have HL4 := Lib.hid l4
    have HLINE := Lib.hid hline;have HFINE := Lib.hid hfine
    have hz10 : nz ≤ 10 := by rw [HNZ.out];exact l2
    have hr12 : nr ≤ 12 := by rw [HNR.out];exact l1
    have hl16 : nl ≤ 16 := by rw [HNL.out];exact l3
    clear hf hWB hline hfine hT0 p1 k1 k2 k3 k4 k5 k6 l1 l2 l3 l4
    go_enter Tryz.func5, Tryz.ntmps5
    go_upto_region 5 with (first
      | (go_at_call 9;refine (CV.out _ ?_).mono ?_;(· repeat (first|(with_reducible exact Below.refl _ _)|(with_reducible assumption)|(with_reducible refine ba ?_)|(with_reducible refine bd ?_)|(with_reducible refine bdn ?_ _)|(with_reducible refine bset ?_ (by first|exact Nat.le_refl _|omega|(simp;done)|(simp;omega)))|(with_reducible refine bt ?_ (by with_reducible assumption))));rintro e w1 ⟨rfl, hb1⟩;have hT2 := HT1.out _ hb1;have c1 := hT2.cell)
      | (go_at_call 7;refine (C1.out _ ?_).mono ?_;(· repeat (first|(with_reducible exact Below.refl _ _)|(with_reducible assumption)|(with_reducible refine ba ?_)|(with_reducible refine bd ?_)|(with_reducible refine bdn ?_ _)|(with_reducible refine bset ?_ (by first|exact Nat.le_refl _|omega|(simp;done)|(simp;omega)))|(with_reducible refine bt ?_ (by with_reducible assumption))));rintro e w2 ⟨rfl, hb2⟩;have hT3 := hT2.later hb2;have c2 := hT3.cell;have hw2 := (show Below w.heap.size w w2 by repeat (first|(with_reducible exact Below.refl _ _)|(with_reducible assumption)|(with_reducible refine ba ?_)|(with_reducible refine bd ?_)|(with_reducible refine bdn ?_ _)|(with_reducible refine bset ?_ (by first|exact Nat.le_refl _|omega|(simp;done)|(simp;omega)))|(with_reducible refine bt ?_ (by with_reducible assumption))))))
    clear c1 c2 hb1 hb2 hT2
    have s3 := hT3.lt
    go_cut [3] from 27 to 30 (fun s5 wx => ∃ q5 : Nat, s5 = .pointer (some ⟨q5, 0, none⟩) ∧ Hid (Box wx q5 #[.int .i64 f1, .int .i64 f2] 37) ∧ Below w2.heap.size w2 wx ∧ w2.heap.size ≤ q5)
    case first =>
      have r5S : ∀ U, Below w2.heap.size w2 U → U.cell? ⟨w.heap.size, 0, none⟩ = some (.slice pr nr cr) ∧ U.cell? ⟨w.heap.size, 1, none⟩ = some (.slice pz nz cz) ∧ U.cell? ⟨w.heap.size, 2, none⟩ = some (.slice pl nl cl) := fun U hU => ⟨(hT3.later hU).cell 0, (hT3.later hU).cell 1, (hT3.later hU).cell 2⟩
      refine wp_region_noPanic ?_
      refine wp_region_heldM (fun U => U.cell? ⟨w.heap.size, 0, none⟩ = some (.slice pr nr cr) ∧ U.cell? ⟨w.heap.size, 1, none⟩ = some (.slice pz nz cz) ∧ U.cell? ⟨w.heap.size, 2, none⟩ = some (.slice pl nl cl)) 5 (by kernel_rfl) (r5S _ (Below.refl _ _).drew) ?_
      intro U0 hU hSU
      have hb0 : Below w2.heap.size w2 U0 := by rw [hU];exact (Below.refl _ _).drew
      clear hU
      (refine wpAnyM_take (i := 0) (v := ?vr50) rfl (by kernel_rfl) (by kernel_rfl) (by kernel_rfl) [] (by kernel_rfl) (by kernel_rfl) (fun _ _ _ h => h) (Or.inl ⟨by rfl, ?yr50⟩) hSU ?rr50;(case yr50 => (intro w hSw;(try dsimp only at hSw);go_simp;(try with_reducible rfl)));(try simp only [Act.put, List.setIfInBounds_toArray]))
      (refine wpAnyM_take (i := 1) (v := ?vr51) rfl (by kernel_rfl) (by kernel_rfl) (by kernel_rfl) [] (by kernel_rfl) (by kernel_rfl) (fun _ _ _ h => h) (Or.inl ⟨by rfl, ?yr51⟩) hSU ?rr51;(case yr51 => (intro w hSw;(try dsimp only at hSw);go_simp;(try with_reducible rfl)));(try simp only [Act.put]))
      refine wpAnyM_all (rs := [2, 4]) (by kernel_rfl) (by simp) (List.forall_mem_cons.2 ⟨?_, List.forall_mem_cons.2 ⟨?_, (fun _ h => by cases h)⟩⟩)
      ·
        refine wpOp_step rfl (fun K hK => ?_)
        go_simp
        go_at_call 14
        refine (P1.out U0 (hw2.trans (hb0.mono hw2.size))).mono ?_
        rintro e2 U1 ⟨xw, rfl, hxw, hc1, hip⟩
        have hb1 := hb0.trans (hc1.mono hb0.size)
        refine hK _ _ ⟨.inr (r5S _ hb1), ?_⟩
        clear hK K
        (try simp only [Act.put, List.setIfInBounds_toArray, List.set_cons_zero, List.set_cons_succ])
        refine wpAnyM_all (rs := [3, 4]) (by kernel_rfl) (by simp) (List.forall_mem_cons.2 ⟨?_, List.forall_mem_cons.2 ⟨?_, (fun _ h => by cases h)⟩⟩)
        ·
          refine wpOp_step rfl (fun K hK => ?_)
          go_simp
          go_at_call 12
          refine (K1.out U1 (hw2.trans (hb1.mono hw2.size)) xw hxw hip).mono ?_
          rintro e3 U2 ⟨rfl, hc2⟩
          have hb2 := hb1.trans (hc2.mono hb1.size)
          have hxw := hxw.later hc2
          refine hK _ _ ⟨.inr (r5S _ hb2), ?_⟩
          clear hK K
          (try simp only [Act.put, List.setIfInBounds_toArray, List.set_cons_zero, List.set_cons_succ])
          (refine wpAnyM_all (rs := [4]) (by kernel_rfl) (by simp) (List.forall_mem_cons.2 ⟨?_, (fun _ h => by cases h)⟩);refine wpOp_step rfl (fun K hK => ?_))
          go_simp
          obtain ⟨U3, hU3⟩ : ∃ U, U = U2.alloc (.cells #[.int .i64 0, .int .i64 0] 37) := ⟨_, rfl⟩
          obtain ⟨q5, hq5e⟩ : ∃ q, q = U2.heap.size := ⟨_, rfl⟩
          have hc3 : Below U2.heap.size U2 U3 := by rw [hU3];repeat (first|(with_reducible exact Below.refl _ _)|(with_reducible assumption)|(with_reducible refine ba ?_)|(with_reducible refine bd ?_)|(with_reducible refine bdn ?_ _)|(with_reducible refine bset ?_ (by first|exact Nat.le_refl _|omega|(simp;done)|(simp;omega)))|(with_reducible refine bt ?_ (by with_reducible assumption)))
          have hb3 := hb2.trans (hc3.mono hb2.size)
          have hq5 : w2.heap.size ≤ q5 := by rw [hq5e];exact hb2.size
          have hbx : Box U3 q5 #[.int .i64 0, .int .i64 0] 37 := by rw [hU3, hq5e];exact Box.new _ _ _
          rw [← hU3, ← hq5e]
          clear hU3 hq5e
          have hxw := hxw.later hc3
          have cX := hbx.cell
          have fX := hbx.free
          refine hK _ _ ⟨.inr (r5S _ hb3), ?_⟩
          clear hK K
          (try simp only [Act.put, List.setIfInBounds_toArray, List.set_cons_zero, List.set_cons_succ])
          (refine wpAnyM_all (rs := [5]) (by kernel_rfl) (by simp) (List.forall_mem_cons.2 ⟨?_, (fun _ h => by cases h)⟩);refine wpOp_step rfl (fun K hK => ?_))
          go_simp
          refine hK _ _ ⟨.inl rfl, ?_⟩
          clear hK K
          refine wpAnyM_done (by kernel_rfl) (NoPanic.normal ?_) _
          go_wp2
          go_meet
          have hfin := (hbx.set (j := 0) (v := .int .i64 f1)).set (j := 1) (v := .int .i64 f2)
          exact ⟨q5, rfl, Lib.hid hfin, RCk.bsetF (RCk.bsetF hb3 hq5) hq5, hq5⟩
        ·
          refine wpOp_step rfl (fun K hK => ?_)
          go_simp
          obtain ⟨U2, hU2⟩ : ∃ U, U = U1.alloc (.cells #[.int .i64 0, .int .i64 0] 37) := ⟨_, rfl⟩
          obtain ⟨q5, hq5e⟩ : ∃ q, q = U1.heap.size := ⟨_, rfl⟩
          have hc2 : Below U1.heap.size U1 U2 := by rw [hU2];repeat (first|(with_reducible exact Below.refl _ _)|(with_reducible assumption)|(with_reducible refine ba ?_)|(with_reducible refine bd ?_)|(with_reducible refine bdn ?_ _)|(with_reducible refine bset ?_ (by first|exact Nat.le_refl _|omega|(simp;done)|(simp;omega)))|(with_reducible refine bt ?_ (by with_reducible assumption)))
          have hb2 := hb1.trans (hc2.mono hb1.size)
          have hq5 : w2.heap.size ≤ q5 := by rw [hq5e];exact hb1.size
          have hbx : Box U2 q5 #[.int .i64 0, .int .i64 0] 37 := by rw [hU2, hq5e];exact Box.new _ _ _
          rw [← hU2, ← hq5e]
          clear hU2 hq5e
          have hxw := hxw.later hc2
          refine hK _ _ ⟨.inr (r5S _ hb2), ?_⟩
          clear hK K
          (try simp only [Act.put, List.setIfInBounds_toArray, List.set_cons_zero, List.set_cons_succ])
          (refine wpAnyM_all (rs := [3]) (by kernel_rfl) (by simp) (List.forall_mem_cons.2 ⟨?_, (fun _ h => by cases h)⟩);refine wpOp_step rfl (fun K hK => ?_))
          go_simp
          go_at_call 12
          refine (K1.out U2 (hw2.trans (hb2.mono hw2.size)) xw hxw hip).mono ?_
          rintro e3 U3 ⟨rfl, hc3⟩
          have hb3 := hb2.trans (hc3.mono hb2.size)
          have hbx := hbx.later hc3
          have hxw := hxw.later hc3
          have cX := hbx.cell
          have fX := hbx.free
          refine hK _ _ ⟨.inr (r5S _ hb3), ?_⟩
          clear hK K
          (try simp only [Act.put, List.setIfInBounds_toArray, List.set_cons_zero, List.set_cons_succ])
          (refine wpAnyM_all (rs := [5]) (by kernel_rfl) (by simp) (List.forall_mem_cons.2 ⟨?_, (fun _ h => by cases h)⟩);refine wpOp_step rfl (fun K hK => ?_))
          go_simp
          refine hK _ _ ⟨.inl rfl, ?_⟩
          clear hK K
          refine wpAnyM_done (by kernel_rfl) (NoPanic.normal ?_) _
          go_wp2
          go_meet
          have hfin := (hbx.set (j := 0) (v := .int .i64 f1)).set (j := 1) (v := .int .i64 f2)
          exact ⟨q5, rfl, Lib.hid hfin, RCk.bsetF (RCk.bsetF hb3 hq5) hq5, hq5⟩
      ·
        refine wpOp_step rfl (fun K hK => ?_)
        go_simp
        obtain ⟨U1, hU1⟩ : ∃ U, U = U0.alloc (.cells #[.int .i64 0, .int .i64 0] 37) := ⟨_, rfl⟩
        obtain ⟨q5, hq5e⟩ : ∃ q, q = U0.heap.size := ⟨_, rfl⟩
        have hc1 : Below U0.heap.size U0 U1 := by rw [hU1];repeat (first|(with_reducible exact Below.refl _ _)|(with_reducible assumption)|(with_reducible refine ba ?_)|(with_reducible refine bd ?_)|(with_reducible refine bdn ?_ _)|(with_reducible refine bset ?_ (by first|exact Nat.le_refl _|omega|(simp;done)|(simp;omega)))|(with_reducible refine bt ?_ (by with_reducible assumption)))
        have hb1 := hb0.trans (hc1.mono hb0.size)
        have hq5 : w2.heap.size ≤ q5 := by rw [hq5e];exact hb0.size
        have hbx : Box U1 q5 #[.int .i64 0, .int .i64 0] 37 := by rw [hU1, hq5e];exact Box.new _ _ _
        rw [← hU1, ← hq5e]
        clear hU1 hq5e
        refine hK _ _ ⟨.inr (r5S _ hb1), ?_⟩
        clear hK K
        (try simp only [Act.put, List.setIfInBounds_toArray, List.set_cons_zero, List.set_cons_succ])
        (refine wpAnyM_all (rs := [2]) (by kernel_rfl) (by simp) (List.forall_mem_cons.2 ⟨?_, (fun _ h => by cases h)⟩);refine wpOp_step rfl (fun K hK => ?_))
        go_simp
        go_at_call 14
        refine (P1.out U1 (hw2.trans (hb1.mono hw2.size))).mono ?_
        rintro e2 U2 ⟨xw, rfl, hxw, hc2, hip⟩
        have hb2 := hb1.trans (hc2.mono hb1.size)
        have hbx := hbx.later hc2
        refine hK _ _ ⟨.inr (r5S _ hb2), ?_⟩
        clear hK K
        (try simp only [Act.put, List.setIfInBounds_toArray, List.set_cons_zero, List.set_cons_succ])
        (refine wpAnyM_all (rs := [3]) (by kernel_rfl) (by simp) (List.forall_mem_cons.2 ⟨?_, (fun _ h => by cases h)⟩);refine wpOp_step rfl (fun K hK => ?_))
        go_simp
        go_at_call 12
        refine (K1.out U2 (hw2.trans (hb2.mono hw2.size)) xw hxw hip).mono ?_
        rintro e3 U3 ⟨rfl, hc3⟩
        have hb3 := hb2.trans (hc3.mono hb2.size)
        have hbx := hbx.later hc3
        have hxw := hxw.later hc3
        have cX := hbx.cell
        have fX := hbx.free
        refine hK _ _ ⟨.inr (r5S _ hb3), ?_⟩
        clear hK K
        (try simp only [Act.put, List.setIfInBounds_toArray, List.set_cons_zero, List.set_cons_succ])
        (refine wpAnyM_all (rs := [5]) (by kernel_rfl) (by simp) (List.forall_mem_cons.2 ⟨?_, (fun _ h => by cases h)⟩);refine wpOp_step rfl (fun K hK => ?_))
        go_simp
        refine hK _ _ ⟨.inl rfl, ?_⟩
        clear hK K
        refine wpAnyM_done (by kernel_rfl) (NoPanic.normal ?_) _
        go_wp2
        go_meet
        have hfin := (hbx.set (j := 0) (v := .int .i64 f1)).set (j := 1) (v := .int .i64 f2)
        exact ⟨q5, rfl, Lib.hid hfin, RCk.bsetF (RCk.bsetF hb3 hq5) hq5, hq5⟩
    case rest =>
      obtain ⟨q5, rfl, HF5, hb5, hq5⟩ := hcut
      have hw5 := hw2.trans (hb5.mono hw2.size)
      have hT5 := hT3.later hb5
      have s5 := hT5.lt
      have s6 := HF5.out.lt
      have c5 := HF5.out.cell
      by_cases h2 : f2 = 0
      case neg =>
        have e2 : (f2 == 0) = false := by simp [h2]
        have r7S : ∀ U, Below wc.heap.size wc U → U.cell? ⟨w.heap.size, 0, none⟩ = some (.slice pr nr cr) ∧ U.cell? ⟨w.heap.size, 1, none⟩ = some (.slice pz nz cz) ∧ U.cell? ⟨w.heap.size, 2, none⟩ = some (.slice pl nl cl) ∧ U.cell? ⟨q5, 0, none⟩ = some (.int .i64 f1) ∧ U.cell? ⟨q5, 1, none⟩ = some (.int .i64 f2) := fun U hU => ⟨(hT5.later hU).cell 0, (hT5.later hU).cell 1, (hT5.later hU).cell 2, (HF5.out.later hU).cell 0, (HF5.out.later hU).cell 1⟩
        have hln := HLINE.out h2
        go_upto_region 7 with fail
        clear c5
        refine wp_region_noPanic ?_
        refine wp_region_heldM (fun U => U.cell? ⟨w.heap.size, 0, none⟩ = some (.slice pr nr cr) ∧ U.cell? ⟨w.heap.size, 1, none⟩ = some (.slice pz nz cz) ∧ U.cell? ⟨w.heap.size, 2, none⟩ = some (.slice pl nl cl) ∧ U.cell? ⟨q5, 0, none⟩ = some (.int .i64 f1) ∧ U.cell? ⟨q5, 1, none⟩ = some (.int .i64 f2)) 8 (by kernel_rfl) (r7S _ (Below.refl _ _).drew) ?_
        intro U0 hU hSU
        have hb0 : Below wc.heap.size wc U0 := by rw [hU];exact (Below.refl _ _).drew
        clear hU
        (refine wpAnyM_take (i := 0) (v := ?vs0) rfl (by kernel_rfl) (by kernel_rfl) (by kernel_rfl) [] (by kernel_rfl) (by kernel_rfl) (fun _ _ _ h => h) (Or.inl ⟨by rfl, ?ys0⟩) hSU ?rs0;(case ys0 => (intro w hSw;(try dsimp only at hSw);go_simp;(try with_reducible rfl)));(try simp only [Act.put, List.setIfInBounds_toArray]))
        (refine wpAnyM_take (i := 1) (v := ?vs1) rfl (by kernel_rfl) (by kernel_rfl) (by kernel_rfl) [] (by kernel_rfl) (by kernel_rfl) (fun _ _ _ h => h) (Or.inl ⟨by rfl, ?ys1⟩) hSU ?rs1;(case ys1 => (intro w hSw;(try dsimp only at hSw);go_simp;(try with_reducible rfl)));(try simp only [Act.put]))
        (refine wpAnyM_take (i := 2) (v := ?vs2) rfl (by kernel_rfl) (by kernel_rfl) (by kernel_rfl) [] (by kernel_rfl) (by kernel_rfl) (fun _ _ _ h => h) (Or.inl ⟨by rfl, ?ys2⟩) hSU ?rs2;(case ys2 => (intro w hSw;(try dsimp only at hSw);go_simp;(try with_reducible rfl)));(try simp only [Act.put]))
        (refine wpAnyM_take (i := 3) (v := ?vs3) rfl (by kernel_rfl) (by kernel_rfl) (by kernel_rfl) [] (by kernel_rfl) (by kernel_rfl) (fun _ _ _ h => h) (Or.inl ⟨by rfl, ?ys3⟩) hSU ?rs3;(case ys3 => (intro w hSw;(try dsimp only at hSw);go_simp;(try with_reducible rfl)));(try simp only [Act.put]))
        (refine wpAnyM_take (i := 4) (v := ?vs4) rfl (by kernel_rfl) (by kernel_rfl) (by kernel_rfl) [] (by kernel_rfl) (by kernel_rfl) (fun _ _ _ h => h) (Or.inl ⟨by rfl, ?ys4⟩) hSU ?rs4;(case ys4 => (intro w hSw;(try dsimp only at hSw);go_simp;(try with_reducible rfl)));(try simp only [Act.put]))
        (refine wpAnyM_all (rs := [5]) (by kernel_rfl) (by simp) (List.forall_mem_cons.2 ⟨?_, (fun _ h => by cases h)⟩);refine wpOp_step rfl (fun K hK => ?_))
        go_simp
        go_at_call 14
        refine (P1.out U0 (hw5.trans (hb0.mono hw5.size))).mono ?_
        rintro e2 U1 ⟨xw, rfl, hxw, hc1, hip⟩
        have hb1 := hb0.trans (hc1.mono hb0.size)
        refine hK _ _ ⟨.inr (r7S _ hb1), ?_⟩
        clear hK K
        (try simp only [Act.put, List.setIfInBounds_toArray, List.set_cons_zero, List.set_cons_succ])
        (refine wpAnyM_all (rs := [6]) (by kernel_rfl) (by simp) (List.forall_mem_cons.2 ⟨?_, (fun _ h => by cases h)⟩);refine wpOp_step rfl (fun K hK => ?_))
        go_simp
        go_at_call 10
        refine (K2.out U1 (hw5.trans (hb1.mono hw5.size)) xw hxw hip).mono ?_
        rintro e3 U2 ⟨rfl, hc2⟩
        have hb2 := hb1.trans (hc2.mono hb1.size)
        refine hK _ _ ⟨.inr (r7S _ hb2), ?_⟩
        clear hK K
        (try simp only [Act.put, List.setIfInBounds_toArray, List.set_cons_zero, List.set_cons_succ])
        (refine wpAnyM_take (i := 7) (v := ?vs7) rfl (by kernel_rfl) (by kernel_rfl) (by kernel_rfl) [] (by kernel_rfl) (by kernel_rfl) (fun _ _ _ h => h) (Or.inl ⟨by rfl, ?ys7⟩) (r7S _ hb2) ?rs7;(case ys7 => (intro w hSw;(try dsimp only at hSw);go_simp;(try with_reducible rfl)));(try simp only [Act.put, List.setIfInBounds_toArray]))
        (refine wpAnyM_all (rs := [8]) (by kernel_rfl) (by simp) (List.forall_mem_cons.2 ⟨?_, (fun _ h => by cases h)⟩);refine wpOp_step rfl (fun K hK => ?_))
        go_simp
        refine hK _ _ ⟨.inl rfl, ?_⟩
        clear hK K
        refine wpAnyM_done (by kernel_rfl) (NoPanic.normal ?_) _
        have hwU := hw5.trans (hb2.mono hw5.size)
        clear hb0 hb1 hb2 hc1 hc2 hip hxw hSU r7S hT5 s5 hb5 hw5 hw2 hT3 s3
        go_wp2
        go_ret
        exact ⟨rfl, by repeat (first|(with_reducible exact Below.refl _ _)|(with_reducible assumption)|(with_reducible refine ba ?_)|(with_reducible refine bd ?_)|(with_reducible refine bdn ?_ _)|(with_reducible refine bset ?_ (by first|exact Nat.le_refl _|omega|(simp;done)|(simp;omega)))|(with_reducible refine bt ?_ (by with_reducible assumption)))⟩
      case pos =>
        subst h2
        have hF := HFINE.out rfl
        have k5 := K5.out
        rw [hF.rules] at k5
        have K5 := Lib.hid k5
        obtain ⟨T1, hT1⟩ : ∃ n, n = Bk.twice [] (zs.map ZoneV.name) := ⟨_, rfl⟩
        obtain ⟨T2, hT2⟩ : ∃ n, n = Bk.twice (zs.map ZoneV.name) (ls.map LinkV.name) := ⟨_, rfl⟩
        have ht1 := hF.zones
        have ht2 := hF.links
        have k3 := K3.out
        unfold RBk.twiceV at k3
        rw [← hT1, ← hT2] at k3
        rw [← hT1] at ht1
        rw [← hT2] at ht2
        have HF9 := Lib.hid hF;have K3 := Lib.hid k3
        have d1 : ¬ (0 ≤ T1) := by omega
        have d2 : ¬ (0 ≤ T2) := by omega
        have d3 : ¬ (T1 ≥ 0) := by omega
        have d4 : ¬ (T2 ≥ 0) := by omega
        clear hF k3 k5 hT1 hT2
        have cT := hT5.cell
        go_wp2_with (first
          | (go_at_call 15;refine (K3.out _ hw5).mono ?_;rintro e wA ⟨rfl, hbA⟩;have hTA := hT5.later hbA;have cA := hTA.cell;have hwA := hw5.trans (hbA.mono hw5.size))
          | (go_at_call 16;refine (K5.out _ hwA).mono ?_;rintro e wB ⟨rfl, hbB⟩;have hTB := hTA.later hbB;have cB := hTB.cell;have hwB := hwA.trans (hbB.mono hwA.size))
          | (go_at_call 17;refine (K4.out _ hwB).mono ?_;rintro e wC ⟨p, rfl, hAt, hbC⟩;have hTC := hTB.later hbC;have cC := hTC.cell;have hwC := hwB.trans (hbC.mono hwB.size);have HA := Lib.hid hAt;clear hAt))
        clear cT cA cB cC c5 hTA hTB hbA hbB hbC hwA hwB hb5 hq5 HF5 s6 K3 K5 K4 ht1 ht2 d1 d2 d3 d4
        go_loopw [72] (fun i wr => ∃ k : Nat, i = .int .i64 k ∧ k ≤ nl ∧ Below wC.heap.size wC wr) (fun i _ => nl - (intOf i).toNat)
        case atStart => exact ⟨0, rfl, Nat.zero_le _, Below.refl _ _⟩
        case round =>
          obtain ⟨k, rfl, hk, hbr⟩ := hrel
          have hbw := hwC.trans (hbr.mono hwC.size)
          by_cases hlt : k < nl
          · obtain ⟨x, hx⟩ : ∃ x, ls[k]? = some x := ⟨_, List.getElem?_eq_getElem (by rw [← HNL.out];exact hlt)⟩
            obtain ⟨g1, o1, rfl, hg1, d1⟩ := HPL.out k x hx
            have x0 := (hbw.cell (p := ⟨g1, o1 + k * 2 + 0, none⟩) hg1).trans (d1 0 _ rfl)
            have x1 := (hbw.cell (p := ⟨g1, o1 + k * 2 + 1, none⟩) hg1).trans (d1 1 _ rfl)
            rw [Nat.add_zero] at x0
            have hm := List.mem_of_getElem? hx
            have hxs := (HH.out.h.lf x hm).n
            have hno := HF9.out.find x hm
            obtain ⟨U, hU⟩ : ∃ u, u = Bk.find (zs.map ZoneV.name) ls x.name := ⟨_, rfl⟩
            rw [← hU] at hno
            obtain ⟨U1, U2⟩ := U
            dsimp only at hno
            subst hno
            have cf : ∀ X, Below wC.heap.size wC X → Calls Tryz.prog 18 #[.pointer (some ⟨p, 0, none⟩), .string x.name] X fun e w' => e = .returned (.tuple #[.int .i64 U1, .int .i64 0]) ∧ X = w' := fun X hX => by
              obtain ⟨bz, bn, ab, vs, h1, h2, h3, _⟩ := HA.out.later hX
              have := BkW.Find ⟨bz, bn, _, h1, h2, h3⟩ (by rw [List.length_map, ← HNZ.out];omega) (by rw [← HNL.out];omega) (fun u hu => (HH.out.h.lf u hu).t) x.name hxs
              rw [← hU] at this
              exact this
            have CF := Lib.hid cf
            have q1 : (k : Int) < (nl : Int) := by omega
            clear d1 hx hm hU cf
            go_wp2_with (go_at_call 18;refine (CF.out _ ?_).mono ?_;(· repeat (first|(with_reducible exact Below.refl _ _)|(with_reducible assumption)|(with_reducible refine ba ?_)|(with_reducible refine bd ?_)|(with_reducible refine bdn ?_ _)|(with_reducible refine bset ?_ (by first|exact Nat.le_refl _|omega|(simp;done)|(simp;omega)))|(with_reducible refine bt ?_ (by with_reducible assumption))));rintro e w' ⟨rfl, rfl⟩)
            go_roundw
            case rel => exact ⟨k + 1, by go_num, by omega, by repeat (first|(with_reducible exact Below.refl _ _)|(with_reducible assumption)|(with_reducible refine ba ?_)|(with_reducible refine bd ?_)|(with_reducible refine bdn ?_ _)|(with_reducible refine bset ?_ (by first|exact Nat.le_refl _|omega|(simp;done)|(simp;omega)))|(with_reducible refine bt ?_ (by with_reducible assumption)))⟩
            case measure => simp [intOf];omega
          · obtain rfl : nl = k := by omega
            have hTr := hTC.later hbr
            have cT := hTr.cell
            obtain ⟨wD, hD⟩ : ∃ W : World, W = wr := ⟨_, rfl⟩
            rw [← hD] at hbw hTr cT ⊢
            have sD := hTr.lt
            clear hD hbr hTC hwC HA hlt
            go_wp2_with (first|fail)
            clear cT
            go_loopw [89] (fun i wr => ∃ k : Nat, i = .int .i64 k ∧ k ≤ nz ∧ Below wD.heap.size wD wr) (fun i _ => nz - (intOf i).toNat)
            case atStart => exact ⟨0, rfl, Nat.zero_le _, Below.refl _ _⟩
            case round =>
              obtain ⟨k, rfl, hk, hbr⟩ := hrel
              obtain ⟨w9, h9⟩ : ∃ W : World, W = wr := ⟨_, rfl⟩
              rw [← h9] at hbr ⊢
              clear h9
              have hw9 := hbw.trans (hbr.mono hbw.size)
              have hT9 := hTr.later hbr
              have s9 := hT9.lt
              by_cases hlt : k < nz
              · obtain ⟨z, hz⟩ : ∃ z, zs[k]? = some z := ⟨_, List.getElem?_eq_getElem (by rw [← HNZ.out];exact hlt)⟩
                obtain ⟨b1, o1, rfl, hg1, d1⟩ := HPZ.out k z hz
                have z0 := (hw9.cell (p := ⟨b1, o1 + k * 2 + 0, none⟩) hg1).trans (d1 0 _ rfl)
                have z1 := (hw9.cell (p := ⟨b1, o1 + k * 2 + 1, none⟩) hg1).trans (d1 1 _ rfl)
                rw [Nat.add_zero] at z0
                have hzm := List.mem_of_getElem? hz
                have hzf := HH.out.h.zf z hzm
                have hat := fun (j : Nat) (e : EraV) (he : z.es[j]? = some e) => hzf.e.at he
                have cu := fun X (hX : Below w.heap.size w X) => K6.out X hX z hzm
                obtain ⟨pp, cc, hv⟩ := hzf.e.form
                rw [hv] at z1 hat cu
                rw [HF9.out.eras z hzm] at cu
                have hnm := HF9.out.named z hzm
                obtain ⟨ne, hne⟩ : ∃ n, n = z.es.length := ⟨_, rfl⟩
                have hn12 : ne ≤ 12 := by rw [hne];exact HL4.out z hzm
                rw [← hne] at z1 hat cu
                dsimp only at cu
                have HNE := Lib.hid hne;have HAT := Lib.hid hat;have CU := Lib.hid cu;have HNM := Lib.hid hnm;have HZF := Lib.hid hzf
                have hZ : ∀ X, Below (w9.alloc (.cells #[.string z.name, .slice pp ne cc] 42)).heap.size (w9.alloc (.cells #[.string z.name, .slice pp ne cc] 42)) X → Box X w9.heap.size #[.string z.name, .slice pp ne cc] 42 := fun X hX => (Box.new w9 _ _).later hX
                have HZ := Lib.hid hZ
                have q1 : (k : Int) < (nz : Int) := by omega
                have cT := hT9.cell
                clear d1 hz hzm hzf hat hv hne cu hnm hZ
                go_wp2_with (go_at_call 19;refine (CU.out _ ?_).mono ?_;(· repeat (first|(with_reducible exact Below.refl _ _)|(with_reducible assumption)|(with_reducible refine ba ?_)|(with_reducible refine bd ?_)|(with_reducible refine bdn ?_ _)|(with_reducible refine bset ?_ (by first|exact Nat.le_refl _|omega|(simp;done)|(simp;omega)))|(with_reducible refine bt ?_ (by with_reducible assumption))));rintro e wE ⟨rfl, hbE⟩;have hZE := HZ.out _ hbE;have cZ := hZE.cell;have sZ := hZE.lt)
                have h9E : Below w9.heap.size w9 wE := by repeat (first|(with_reducible exact Below.refl _ _)|(with_reducible assumption)|(with_reducible refine ba ?_)|(with_reducible refine bd ?_)|(with_reducible refine bdn ?_ _)|(with_reducible refine bset ?_ (by first|exact Nat.le_refl _|omega|(simp;done)|(simp;omega)))|(with_reducible refine bt ?_ (by with_reducible assumption)))
                have hTE := hT9.later h9E
                have hwE := hw9.trans (h9E.mono hw9.size)
                have sE := hTE.lt
                clear cZ cT hbE z0 z1 hZE
                go_loopw [109] (fun i wr => ∃ k : Nat, i = .int .i64 k ∧ k ≤ ne ∧ Below wE.heap.size wE wr) (fun i _ => ne - (intOf i).toNat)
                case atStart => exact ⟨0, rfl, Nat.zero_le _, Below.refl _ _⟩
                case round =>
                  obtain ⟨i, rfl, hi, hbr2⟩ := hrel
                  obtain ⟨wG, hG⟩ : ∃ W : World, W = wr := ⟨_, rfl⟩
                  rw [← hG] at hbr2 ⊢
                  clear hG
                  have hwG := hwE.trans (hbr2.mono hwE.size)
                  have hTG := hTE.later hbr2
                  have sG := hTG.lt
                  by_cases hlt2 : i < ne
                  · obtain ⟨e, he⟩ : ∃ e, z.es[i]? = some e := ⟨_, List.getElem?_eq_getElem (by rw [← HNE.out];exact hlt2)⟩
                    obtain ⟨b4, o4, c4, e4, hg4, d4⟩ := HAT.out i e he
                    cases e4
                    replace d4 := fun j u hu => (hwG.cell (p := ⟨b4, o4 + i * 13 + j, none⟩) hg4).trans (d4 j u hu)
                    have x0 := d4 0 _ rfl
                    have x1 := d4 1 _ rfl
                    have x2 := d4 2 _ rfl
                    have x3 := d4 3 _ rfl
                    have x4 := d4 4 _ rfl
                    have x5 := d4 5 _ rfl
                    have x6 := d4 6 _ rfl
                    have x7 := d4 7 _ rfl
                    have x8 := d4 8 _ rfl
                    have x9 := d4 9 _ rfl
                    have x10 := d4 10 _ rfl
                    have x11 := d4 11 _ rfl
                    have x12 := d4 12 _ rfl
                    rw [Nat.add_zero] at x0
                    have hem := List.mem_of_getElem? he
                    have hes := (HZF.out.e.fit e hem).r
                    have hnm := HNM.out e hem
                    obtain ⟨K, hK2⟩ : ∃ b, b = (e.kind == 2) := ⟨_, rfl⟩
                    have hkn : K = true → named rs e.rules = true := fun h => hnm (by rw [hK2] at h;simpa using h)
                    have HKN := Lib.hid hkn
                    replace hK2 := hK2.symm
                    have q2 : (i : Int) < (ne : Int) := by omega
                    have cT := hTG.cell
                    have hE : ∀ X, Below (wG.alloc (.cells #[.int .i64 e.off, .int .i64 e.kind, .int .i64 e.save, .string e.rules, .string e.format, .bool e.u.has, .int .i64 e.u.year, .int .i64 e.u.month, .int .i64 e.u.kind, .int .i64 e.u.week, .int .i64 e.u.day, .int .i64 e.u.sec, .int .i64 e.u.base] 61)).heap.size (wG.alloc (.cells #[.int .i64 e.off, .int .i64 e.kind, .int .i64 e.save, .string e.rules, .string e.format, .bool e.u.has, .int .i64 e.u.year, .int .i64 e.u.month, .int .i64 e.u.kind, .int .i64 e.u.week, .int .i64 e.u.day, .int .i64 e.u.sec, .int .i64 e.u.base] 61)) X → Box X wG.heap.size #[.int .i64 e.off, .int .i64 e.kind, .int .i64 e.save, .string e.rules, .string e.format, .bool e.u.has, .int .i64 e.u.year, .int .i64 e.u.month, .int .i64 e.u.kind, .int .i64 e.u.week, .int .i64 e.u.day, .int .i64 e.u.sec, .int .i64 e.u.base] 61 := fun X hX => (Box.new wG _ _).later hX
                    have HE := Lib.hid hE
                    clear d4 he hem hnm hkn hE
                    go_wp2_with (first|fail)
                    clear cT
                    obtain ⟨wH, hwH⟩ : ∃ W, W = wG.alloc (.cells #[.int .i64 e.off, .int .i64 e.kind, .int .i64 e.save, .string e.rules, .string e.format, .bool e.u.has, .int .i64 e.u.year, .int .i64 e.u.month, .int .i64 e.u.kind, .int .i64 e.u.week, .int .i64 e.u.day, .int .i64 e.u.sec, .int .i64 e.u.base] 61) := ⟨_, rfl⟩
                    rw [← hwH] at HE ⊢
                    have hbH : Below wG.heap.size wG wH := by rw [hwH];repeat (first|(with_reducible exact Below.refl _ _)|(with_reducible assumption)|(with_reducible refine ba ?_)|(with_reducible refine bd ?_)|(with_reducible refine bdn ?_ _)|(with_reducible refine bset ?_ (by first|exact Nat.le_refl _|omega|(simp;done)|(simp;omega)))|(with_reducible refine bt ?_ (by with_reducible assumption)))
                    have hwHH := hwG.trans (hbH.mono hwG.size)
                    have EB := HE.out _ (Below.refl _ _)
                    have sH := EB.lt
                    clear hwH x0 x1 x2 x3 x4 x5 x6 x7 x8 x9 x10 x11 x12
                    go_loopw [119, 19] (fun i s wr => ∃ (j : Nat) (b : Bool), i = .int .i64 j ∧ s = .bool b ∧ j ≤ nr ∧ Below wH.heap.size wH wr ∧ Hid (b = (!K || named (rs.take j) e.rules))) (fun i _ _ => nr - (intOf i).toNat)
                    case atStart => exact ⟨0, _, rfl, rfl, Nat.zero_le _, Below.refl _ _, Lib.hid (by rw [← hK2];simp [named, bne])⟩
                    case round =>
                      obtain ⟨j, b, rfl, rfl, hj, hbr3, HB⟩ := hrel
                      have hbR := hwHH.trans (hbr3.mono hwHH.size)
                      have hER := EB.later hbr3
                      have sR := hER.lt
                      by_cases hlt3 : j < nr
                      · obtain ⟨r, hr⟩ : ∃ r, rs[j]? = some r := ⟨_, List.getElem?_eq_getElem (by rw [← HNR.out];exact hlt3)⟩
                        obtain ⟨b5, o5, rfl, hg5, d5⟩ := HPR.out j r hr
                        replace d5 := fun j2 u hu => (hbR.cell (p := ⟨b5, o5 + j * 11 + j2, none⟩) hg5).trans (d5 j2 u hu)
                        have y0 := d5 0 _ rfl
                        have y1 := d5 1 _ rfl
                        have y2 := d5 2 _ rfl
                        have y3 := d5 3 _ rfl
                        have y4 := d5 4 _ rfl
                        have y5 := d5 5 _ rfl
                        have y6 := d5 6 _ rfl
                        have y7 := d5 7 _ rfl
                        have y8 := d5 8 _ rfl
                        have y9 := d5 9 _ rfl
                        have y10 := d5 10 _ rfl
                        rw [Nat.add_zero] at y0
                        have hap := named_app rs e.rules hr
                        have HAP := Lib.hid hap
                        have q3 : (j : Int) < (nr : Int) := by omega
                        have cE := hER.cell
                        clear d5 hr hap
                        cases b with
                        | true =>
                          go_wp2
                          go_roundw
                          case rel => exact ⟨j + 1, true, by go_num, by go_num, by omega, by repeat (first|(with_reducible exact Below.refl _ _)|(with_reducible assumption)|(with_reducible refine ba ?_)|(with_reducible refine bd ?_)|(with_reducible refine bdn ?_ _)|(with_reducible refine bset ?_ (by first|exact Nat.le_refl _|omega|(simp;done)|(simp;omega)))|(with_reducible refine bt ?_ (by with_reducible assumption))), Lib.hid (by rw [HAP.out, ← Bool.or_assoc, ← HB.out];rfl)⟩
                          case measure => simp [intOf];omega
                        | false =>
                          by_cases hn : r.name = e.rules
                          · have en := str_eq hn
                            have en2 := str_eq hn.symm
                            go_wp2
                            go_roundw
                            case rel => exact ⟨j + 1, true, by go_num, by go_num, by omega, by repeat (first|(with_reducible exact Below.refl _ _)|(with_reducible assumption)|(with_reducible refine ba ?_)|(with_reducible refine bd ?_)|(with_reducible refine bdn ?_ _)|(with_reducible refine bset ?_ (by first|exact Nat.le_refl _|omega|(simp;done)|(simp;omega)))|(with_reducible refine bt ?_ (by with_reducible assumption))), Lib.hid (by rw [HAP.out, hn];simp)⟩
                            case measure => simp [intOf];omega
                          · have en := str_ne hn
                            go_wp2
                            go_roundw
                            case rel => exact ⟨j + 1, false, by go_num, by go_num, by omega, by repeat (first|(with_reducible exact Below.refl _ _)|(with_reducible assumption)|(with_reducible refine ba ?_)|(with_reducible refine bd ?_)|(with_reducible refine bdn ?_ _)|(with_reducible refine bset ?_ (by first|exact Nat.le_refl _|omega|(simp;done)|(simp;omega)))|(with_reducible refine bt ?_ (by with_reducible assumption))), Lib.hid (by rw [HAP.out, ← Bool.or_assoc, ← HB.out];simp [hn])⟩
                            case measure => simp [intOf];omega
                      · obtain rfl : nr = j := by omega
                        have hB := HB.out
                        rw [List.take_of_length_le (by rw [← HNR.out];exact Nat.le_refl _)] at hB
                        have hbt : b = true := by
                          rw [hB]
                          cases K with
                          | false => rfl
                          | true => simpa using HKN.out rfl
                        subst hbt
                        have hup : Below wE.heap.size wE wr := hbr2.trans ((hbH.trans (hbr3.mono hbH.size)).mono hbr2.size)
                        clear hB HB
                        go_wp2
                        go_roundw
                        case rel => exact ⟨i + 1, by go_num, by omega, hup⟩
                        case measure => simp [intOf];omega
                  · obtain rfl : ne = i := by omega
                    have hup : Below wD.heap.size wD wG := hbr.trans ((h9E.trans (hbr2.mono h9E.size)).mono hbr.size)
                    go_wp2
                    go_roundw
                    case rel => exact ⟨k + 1, by go_num, by omega, hup⟩
                    case measure => simp [intOf];omega
              · obtain rfl : nz = k := by omega
                go_wp2
                go_ret
                exact ⟨rfl, hw9⟩
end CkL
end Go.Proofs.YtcfmchpoclkpgaaGreatDoor
