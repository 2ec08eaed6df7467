import Derived.Test.YtcfmchpoclkpgaaGreatDoorG27
import Derived.Test.YtcfmchpoclkpgaaGreatDoorRCkP
namespace Go.Proofs.YtcfmchpoclkpgaaGreatDoor
open Go.RowKit NB
namespace CkL
open Ck
theorem upE_row : ∀ {m : Nat} {zs : List ZoneV} {y : List Int}, y ∈ upE m zs → ∃ z ∈ zs, y.length = z.es.length
  | m, [], y, h => by simp [upE] at h
  | m, z :: zs, y, h => by
    have h' : y ∈ up m z.es.length :: upE (m + z.es.length) zs := h
    rcases List.mem_cons.1 h' with rfl|h1
    · exact ⟨z, by simp, up_len _ _⟩
    · obtain ⟨u, hu, e⟩ := upE_row h1
      exact ⟨u, by simp [hu], e⟩
structure IsP (t : TabV) (x : WhV) : Prop where
  r : x.rs = up 0 t.rs.length
  e : x.es.map RowN.ns = upE t.rs.length t.zs
  l : x.ls = up (t.rs.length + sumE t.zs) t.ls.length
theorem IsP.row {t : TabV} {x : WhV} (h : IsP t x) (hz : ∀ z ∈ t.zs, z.es.length ≤ 12) : ∀ y ∈ x.es, y.ns.length ≤ 12 := fun y hy => by
  have hm : y.ns ∈ upE t.rs.length t.zs := by rw [← h.e];exact List.mem_map.2 ⟨y, hy, rfl⟩
  obtain ⟨z, hz2, e⟩ := upE_row hm
  rw [e]
  exact hz z hz2
theorem checkP {W : World} {t : TabV} {x : WhV} (ht : Tab W) (h : HoldsT W t) (hx : HoldsW W x) (hp : IsP t x) (l1 : t.rs.length ≤ 12) (l2 : t.zs.length ≤ 10) (l3 : t.ls.length ≤ 16) (l4 : ∀ z ∈ t.zs, z.es.length ≤ 12) :
    Calls Tryz.prog 12 #[.agg #[t.rv, t.zv, t.lv], .agg #[x.rv, x.ev, x.lv]] W fun e w' => e = .returned (.agg (RCk.fcs (chkP t.rs t.zs t.ls))) ∧ Below W.heap.size W w' := by
  have := CkW.Check h hx ht l1 (by omega) (fun z hz => by have := l4 z hz;omega) (by omega) (by rw [hp.r, up_len];omega) (by rw [hp.l, up_len];omega) (fun y hy => by have := hp.row l4 y hy;omega)
  rw [hp.r, hp.e, hp.l] at this
  exact this
theorem plainP {W : World} {t : TabV} (h : HoldsT W t) (l1 : t.rs.length ≤ 12) (l2 : t.zs.length ≤ 10) (l3 : t.ls.length ≤ 16) (l4 : ∀ z ∈ t.zs, z.es.length ≤ 12) :
    Calls Tryz.prog 14 #[.agg #[t.rv, t.zv, t.lv]] W fun e w' => ∃ x : WhV, e = .returned (.agg #[x.rv, x.ev, x.lv]) ∧ HoldsW w' x ∧ Below W.heap.size W w' ∧ IsP t x :=
  (RCk.Plain h (by omega) (by omega) (fun z hz => by have := l4 z hz;omega) (by omega)).mono fun e w' ⟨x, h1, h2, h3, h4, h5, h6⟩ => ⟨x, h1, h2, h3, h4, h5, h6⟩
set_option maxRecDepth 100000 in
set_option maxHeartbeats 12800000 in
theorem one (t : TabV) (n : Int) (w : World) (h : HoldsC w t) (hn : I64 n) (ht : Tab w) : Calls Tryz.prog 4 #[.agg #[t.rv, t.zv, t.lv], .int .i64 n] w fun e w' => e = .returned (.bool true) ∧ Below w.heap.size w w' := by
  have cv := fun (X : World) (hX : Below w.heap.size w X) => lives X (ht.later hX)
  have c1 := fun (X : World) (hX : Below w.heap.size w X) => Eqs.Light (h.h.later hX)
  obtain ⟨L1, hL1⟩ : ∃ b, b = Eqs.lightT t := ⟨_, rfl⟩
  rw [← hL1] at c1
  have hlen := lightT_len (t := t)
  rw [← hL1] at hlen
  obtain ⟨rv, zv, lv, rs, zs, ls⟩ := t
  obtain ⟨pr, cr, e1⟩ := h.h.r.form
  obtain ⟨pz, cz, e2, hpz⟩ := h.h.z.pk
  obtain ⟨pl, cl, e3⟩ := h.h.l.form
  dsimp only at e1 e2 e3 c1 hlen hpz ⊢
  subst e1 e2 e3
  obtain ⟨hc1, hc2⟩ := h.l _ _ _ rfl
  have hc3 : cl ≤ 9223372036854775807 := hc2
  clear hc2
  have hll := h.h.l.len
  dsimp only at hll
  have CV := Lib.hid cv;have C1 := Lib.hid c1;have HH := Lib.hid h;have HT := Lib.hid ht;have HPZ := Lib.hid hpz
  clear cv c1 hL1 h ht hpz
  obtain ⟨nr, hnr⟩ : ∃ n, n = rs.length := ⟨_, rfl⟩
  obtain ⟨nz, hnz⟩ : ∃ n, n = zs.length := ⟨_, rfl⟩
  obtain ⟨nl, hnl⟩ : ∃ n, n = ls.length := ⟨_, rfl⟩
  rw [← hnr, ← hnz, ← hnl] at C1 ⊢
  rw [← hnl] at hc1 hll
  have HNR := Lib.hid hnr;have HNZ := Lib.hid hnz;have HNL := Lib.hid hnl
  clear hnr hnz hnl
  unfold I64 at hn
  have hT1 : ∀ X, Below (w.alloc (.cells #[.slice pr nr cr, .slice pz nz cz, .slice pl nl cl] 26)).heap.size (w.alloc (.cells #[.slice pr nr cr, .slice pz nz cz, .slice pl nl cl] 26)) X → Box X w.heap.size #[.slice pr nr cr, .slice pz nz cz, .slice pl nl cl] 26 := fun X hX => (Box.new w _ _).later hX
  have HT1 := Lib.hid hT1
  clear hT1
  cases L1 with
  | false =>
    clear hlen
    go_enter Tryz.func4, Tryz.ntmps4
    go_wp2_with (first
      | (go_at_call 9;refine (CV.out _ ?_).mono ?_;(· repeat (first|(with_reducible exact Below.refl _ _)|(with_reducible assumption)|(with_reducible refine ba ?_)|(with_reducible refine bd ?_)|(with_reducible refine bdn ?_ _)|(with_reducible refine bset ?_ (by first|exact Nat.le_refl _|omega|(simp;done)|(simp;omega)))|(with_reducible refine bt ?_ (by with_reducible assumption))));rintro e w1 ⟨rfl, hb1⟩;have c1 := (HT1.out _ hb1).cell)
      | (go_at_call 7;(with_reducible refine (C1.out _ ?_).mono ?_);(· repeat (first|(with_reducible exact Below.refl _ _)|(with_reducible assumption)|(with_reducible refine ba ?_)|(with_reducible refine bd ?_)|(with_reducible refine bdn ?_ _)|(with_reducible refine bset ?_ (by first|exact Nat.le_refl _|omega|(simp;done)|(simp;omega)))|(with_reducible refine bt ?_ (by with_reducible assumption))));rintro e w2 ⟨rfl, hb2⟩;obtain ⟨hc2, hf2⟩ := bcell hb2))
    go_ret
    exact ⟨rfl, by repeat (first|(with_reducible exact Below.refl _ _)|(with_reducible assumption)|(with_reducible refine ba ?_)|(with_reducible refine bd ?_)|(with_reducible refine bdn ?_ _)|(with_reducible refine bset ?_ (by first|exact Nat.le_refl _|omega|(simp;done)|(simp;omega)))|(with_reducible refine bt ?_ (by with_reducible assumption)))⟩
  | true =>
    obtain ⟨l1, l2, l3, l4⟩ := hlen rfl
    clear hlen
    by_cases hneg : n < 0
    · go_enter Tryz.func4, Tryz.ntmps4
      go_wp2_with (first
        | (go_at_call 9;refine (CV.out _ ?_).mono ?_;(· repeat (first|(with_reducible exact Below.refl _ _)|(with_reducible assumption)|(with_reducible refine ba ?_)|(with_reducible refine bd ?_)|(with_reducible refine bdn ?_ _)|(with_reducible refine bset ?_ (by first|exact Nat.le_refl _|omega|(simp;done)|(simp;omega)))|(with_reducible refine bt ?_ (by with_reducible assumption))));rintro e w1 ⟨rfl, hb1⟩;have c1 := (HT1.out _ hb1).cell)
        | (go_at_call 7;(with_reducible refine (C1.out _ ?_).mono ?_);(· repeat (first|(with_reducible exact Below.refl _ _)|(with_reducible assumption)|(with_reducible refine ba ?_)|(with_reducible refine bd ?_)|(with_reducible refine bdn ?_ _)|(with_reducible refine bset ?_ (by first|exact Nat.le_refl _|omega|(simp;done)|(simp;omega)))|(with_reducible refine bt ?_ (by with_reducible assumption))));rintro e w2 ⟨rfl, hb2⟩;obtain ⟨hc2, hf2⟩ := bcell hb2))
      go_ret
      exact ⟨rfl, by repeat (first|(with_reducible exact Below.refl _ _)|(with_reducible assumption)|(with_reducible refine ba ?_)|(with_reducible refine bd ?_)|(with_reducible refine bdn ?_ _)|(with_reducible refine bset ?_ (by first|exact Nat.le_refl _|omega|(simp;done)|(simp;omega)))|(with_reducible refine bt ?_ (by with_reducible assumption)))⟩
    obtain ⟨k, rfl⟩ : ∃ k : Nat, n = k := ⟨n.toNat, by omega⟩
    by_cases hge : nl ≤ k
    · have q1 : ¬ ((k : Int) < 0) := by omega
      have q2 : (nl : Int) ≤ (k : Int) := by omega
      clear hneg
      go_enter Tryz.func4, Tryz.ntmps4
      go_wp2_with (first
        | (go_at_call 9;refine (CV.out _ ?_).mono ?_;(· repeat (first|(with_reducible exact Below.refl _ _)|(with_reducible assumption)|(with_reducible refine ba ?_)|(with_reducible refine bd ?_)|(with_reducible refine bdn ?_ _)|(with_reducible refine bset ?_ (by first|exact Nat.le_refl _|omega|(simp;done)|(simp;omega)))|(with_reducible refine bt ?_ (by with_reducible assumption))));rintro e w1 ⟨rfl, hb1⟩;have hT2 := HT1.out _ hb1;have c1 := hT2.cell)
        | (go_at_call 7;refine (C1.out _ ?_).mono ?_;(· repeat (first|(with_reducible exact Below.refl _ _)|(with_reducible assumption)|(with_reducible refine ba ?_)|(with_reducible refine bd ?_)|(with_reducible refine bdn ?_ _)|(with_reducible refine bset ?_ (by first|exact Nat.le_refl _|omega|(simp;done)|(simp;omega)))|(with_reducible refine bt ?_ (by with_reducible assumption))));rintro e w2 ⟨rfl, hb2⟩;have c2 := (hT2.later hb2).cell))
      go_ret
      exact ⟨rfl, by repeat (first|(with_reducible exact Below.refl _ _)|(with_reducible assumption)|(with_reducible refine ba ?_)|(with_reducible refine bd ?_)|(with_reducible refine bdn ?_ _)|(with_reducible refine bset ?_ (by first|exact Nat.le_refl _|omega|(simp;done)|(simp;omega)))|(with_reducible refine bt ?_ (by with_reducible assumption)))⟩
    have q1 : ¬ ((k : Int) < 0) := by omega
    have q2 : (k : Int) < (nl : Int) := by omega
    have q3 : (k : Int) ≤ (cl : Int) := by omega
    have q4 : ¬ ((nl : Int) ≤ (k : Int)) := by omega
    have q6 : decide ((k : Int) < 0) = false := decide_eq_false q1
    have q7 : decide (nl ≤ k) = false := decide_eq_false (by omega)
    have q8 : ¬ (nl ≤ k) := by omega
    obtain ⟨f1, f2, hf⟩ : ∃ f1 f2, (f1, f2) = chkP rs zs ls := ⟨_, _, rfl⟩
    obtain ⟨g1, g2, hg⟩ : ∃ g1 g2, (g1, g2) = chkP rs zs (ls.take k) := ⟨_, _, rfl⟩
    have hlaw := one_plain rs zs ls (ls.take k)
    rw [← hf, ← hg] at hlaw
    have HLAW := Lib.hid hlaw
    have hk : k < ls.length := by rw [← HNL.out];omega
    have hTk : ∀ X, Below w.heap.size w X → HoldsT X ⟨.slice pr nr cr, .slice pz nz cz, .slice pl k cl, rs, zs, ls.take k⟩ := fun X hX => by
      have h0 := (HH.out.h.later hX)
      rw [← HNR.out, ← HNZ.out, ← HNL.out] at h0
      exact ⟨h0.r, h0.z, h0.zf, h0.l.take (show k ≤ ls.length by omega), fun x hx => h0.lf x (List.mem_of_mem_take hx)⟩
    have hT0 : ∀ X, Below w.heap.size w X → HoldsT X ⟨.slice pr nr cr, .slice pz nz cz, .slice pl nl cl, rs, zs, ls⟩ := fun X hX => by
      have h0 := (HH.out.h.later hX)
      rwa [← HNR.out, ← HNZ.out, ← HNL.out] at h0
    have p1 := fun X (hX : Below w.heap.size w X) => plainP (hT0 X hX) l1 l2 l3 l4
    have p2 := fun X (hX : Below w.heap.size w X) => plainP (hTk X hX) l1 l2 (by rw [List.length_take];omega) l4
    have k1 := fun X (hX : Below w.heap.size w X) (x : WhV) (hx : HoldsW X x) (hp : IsP ⟨.slice pr nr cr, .slice pz nz cz, .slice pl nl cl, rs, zs, ls⟩ x) => checkP (HT.out.later hX) (hT0 X hX) hx hp l1 l2 l3 l4
    have k2 := fun X (hX : Below w.heap.size w X) (x : WhV) (hx : HoldsW X x) (hp : IsP ⟨.slice pr nr cr, .slice pz nz cz, .slice pl k cl, rs, zs, ls.take k⟩ x) => checkP (HT.out.later hX) (hTk X hX) hx hp l1 l2 (by rw [List.length_take];omega) l4
    dsimp only at p1 p2 k1 k2 l2 l4
    rw [← hf] at k1
    rw [← hg] at k2
    unfold RCk.fcs at k1 k2
    have P1 := Lib.hid p1;have P2 := Lib.hid p2;have K1 := Lib.hid k1;have K2 := Lib.hid k2;have HL4 := Lib.hid l4
    have hz10 : nz ≤ 10 := by rw [HNZ.out];exact l2
    have hr12 : nr ≤ 12 := by rw [HNR.out];exact l1
    clear hf hg hlaw hTk hT0 p1 p2 k1 k2 l1 l2 l3 l4 hk hneg hge
    go_enter Tryz.func4, Tryz.ntmps4
    go_upto_region 5 with (first
      | (go_at_call 9;refine (CV.out _ ?_).mono ?_;(· repeat (first|(with_reducible exact Below.refl _ _)|(with_reducible assumption)|(with_reducible refine ba ?_)|(with_reducible refine bd ?_)|(with_reducible refine bdn ?_ _)|(with_reducible refine bset ?_ (by first|exact Nat.le_refl _|omega|(simp;done)|(simp;omega)))|(with_reducible refine bt ?_ (by with_reducible assumption))));rintro e w1 ⟨rfl, hb1⟩;have hT2 := HT1.out _ hb1;have c1 := hT2.cell)
      | (go_at_call 7;refine (C1.out _ ?_).mono ?_;(· repeat (first|(with_reducible exact Below.refl _ _)|(with_reducible assumption)|(with_reducible refine ba ?_)|(with_reducible refine bd ?_)|(with_reducible refine bdn ?_ _)|(with_reducible refine bset ?_ (by first|exact Nat.le_refl _|omega|(simp;done)|(simp;omega)))|(with_reducible refine bt ?_ (by with_reducible assumption))));rintro e w2 ⟨rfl, hb2⟩;have hT3 := hT2.later hb2;have c2 := hT3.cell;have hw2 := (show Below w.heap.size w w2 by repeat (first|(with_reducible exact Below.refl _ _)|(with_reducible assumption)|(with_reducible refine ba ?_)|(with_reducible refine bd ?_)|(with_reducible refine bdn ?_ _)|(with_reducible refine bset ?_ (by first|exact Nat.le_refl _|omega|(simp;done)|(simp;omega)))|(with_reducible refine bt ?_ (by with_reducible assumption))))))
    clear c1 c2 hb1 hb2 hT2
    have s3 := hT3.lt
    go_cut [5] from 27 to 30 (fun s5 wx => ∃ q5 : Nat, s5 = .pointer (some ⟨q5, 0, none⟩) ∧ Hid (Box wx q5 #[.int .i64 f1, .int .i64 f2] 37) ∧ Below w2.heap.size w2 wx ∧ w2.heap.size ≤ q5)
    case first =>
      have r5S : ∀ U, Below w2.heap.size w2 U → U.cell? ⟨w.heap.size, 0, none⟩ = some (.slice pr nr cr) ∧ U.cell? ⟨w.heap.size, 1, none⟩ = some (.slice pz nz cz) ∧ U.cell? ⟨w.heap.size, 2, none⟩ = some (.slice pl nl cl) := fun U hU => ⟨(hT3.later hU).cell 0, (hT3.later hU).cell 1, (hT3.later hU).cell 2⟩
      refine wp_region_noPanic ?_
      refine wp_region_heldM (fun U => U.cell? ⟨w.heap.size, 0, none⟩ = some (.slice pr nr cr) ∧ U.cell? ⟨w.heap.size, 1, none⟩ = some (.slice pz nz cz) ∧ U.cell? ⟨w.heap.size, 2, none⟩ = some (.slice pl nl cl)) 5 (by kernel_rfl) (r5S _ (Below.refl _ _).drew) ?_
      intro U0 hU hSU
      have hb0 : Below w2.heap.size w2 U0 := by rw [hU];exact (Below.refl _ _).drew
      clear hU
      (refine wpAnyM_take (i := 0) (v := ?vr50) rfl (by kernel_rfl) (by kernel_rfl) (by kernel_rfl) [] (by kernel_rfl) (by kernel_rfl) (fun _ _ _ h => h) (Or.inl ⟨by rfl, ?yr50⟩) hSU ?rr50;(case yr50 => (intro w hSw;(try dsimp only at hSw);go_simp;(try with_reducible rfl)));(try simp only [Act.put, List.setIfInBounds_toArray]))
      (refine wpAnyM_take (i := 1) (v := ?vr51) rfl (by kernel_rfl) (by kernel_rfl) (by kernel_rfl) [] (by kernel_rfl) (by kernel_rfl) (fun _ _ _ h => h) (Or.inl ⟨by rfl, ?yr51⟩) hSU ?rr51;(case yr51 => (intro w hSw;(try dsimp only at hSw);go_simp;(try with_reducible rfl)));(try simp only [Act.put]))
      refine wpAnyM_all (rs := [2, 4]) (by kernel_rfl) (by simp) (List.forall_mem_cons.2 ⟨?_, List.forall_mem_cons.2 ⟨?_, (fun _ h => by cases h)⟩⟩)
      ·
        refine wpOp_step rfl (fun K hK => ?_)
        go_simp
        go_at_call 14
        refine (P1.out U0 (hw2.trans (hb0.mono hw2.size))).mono ?_
        rintro e2 U1 ⟨xw, rfl, hxw, hc1, hip⟩
        have hb1 := hb0.trans (hc1.mono hb0.size)
        refine hK _ _ ⟨.inr (r5S _ hb1), ?_⟩
        clear hK K
        (try simp only [Act.put, List.setIfInBounds_toArray, List.set_cons_zero, List.set_cons_succ])
        refine wpAnyM_all (rs := [3, 4]) (by kernel_rfl) (by simp) (List.forall_mem_cons.2 ⟨?_, List.forall_mem_cons.2 ⟨?_, (fun _ h => by cases h)⟩⟩)
        ·
          refine wpOp_step rfl (fun K hK => ?_)
          go_simp
          go_at_call 12
          refine (K1.out U1 (hw2.trans (hb1.mono hw2.size)) xw hxw hip).mono ?_
          rintro e3 U2 ⟨rfl, hc2⟩
          have hb2 := hb1.trans (hc2.mono hb1.size)
          have hxw := hxw.later hc2
          refine hK _ _ ⟨.inr (r5S _ hb2), ?_⟩
          clear hK K
          (try simp only [Act.put, List.setIfInBounds_toArray, List.set_cons_zero, List.set_cons_succ])
          (refine wpAnyM_all (rs := [4]) (by kernel_rfl) (by simp) (List.forall_mem_cons.2 ⟨?_, (fun _ h => by cases h)⟩);refine wpOp_step rfl (fun K hK => ?_))
          go_simp
          obtain ⟨U3, hU3⟩ : ∃ U, U = U2.alloc (.cells #[.int .i64 0, .int .i64 0] 37) := ⟨_, rfl⟩
          obtain ⟨q5, hq5e⟩ : ∃ q, q = U2.heap.size := ⟨_, rfl⟩
          have hc3 : Below U2.heap.size U2 U3 := by rw [hU3];repeat (first|(with_reducible exact Below.refl _ _)|(with_reducible assumption)|(with_reducible refine ba ?_)|(with_reducible refine bd ?_)|(with_reducible refine bdn ?_ _)|(with_reducible refine bset ?_ (by first|exact Nat.le_refl _|omega|(simp;done)|(simp;omega)))|(with_reducible refine bt ?_ (by with_reducible assumption)))
          have hb3 := hb2.trans (hc3.mono hb2.size)
          have hq5 : w2.heap.size ≤ q5 := by rw [hq5e];exact hb2.size
          have hbx : Box U3 q5 #[.int .i64 0, .int .i64 0] 37 := by rw [hU3, hq5e];exact Box.new _ _ _
          rw [← hU3, ← hq5e]
          clear hU3 hq5e
          have hxw := hxw.later hc3
          have cX := hbx.cell
          have fX := hbx.free
          refine hK _ _ ⟨.inr (r5S _ hb3), ?_⟩
          clear hK K
          (try simp only [Act.put, List.setIfInBounds_toArray, List.set_cons_zero, List.set_cons_succ])
          (refine wpAnyM_all (rs := [5]) (by kernel_rfl) (by simp) (List.forall_mem_cons.2 ⟨?_, (fun _ h => by cases h)⟩);refine wpOp_step rfl (fun K hK => ?_))
          go_simp
          refine hK _ _ ⟨.inl rfl, ?_⟩
          clear hK K
          refine wpAnyM_done (by kernel_rfl) (NoPanic.normal ?_) _
          go_wp2
          go_meet
          have hfin := (hbx.set (j := 0) (v := .int .i64 f1)).set (j := 1) (v := .int .i64 f2)
          exact ⟨q5, rfl, Lib.hid hfin, RCk.bsetF (RCk.bsetF hb3 hq5) hq5, hq5⟩
        ·
          refine wpOp_step rfl (fun K hK => ?_)
          go_simp
          obtain ⟨U2, hU2⟩ : ∃ U, U = U1.alloc (.cells #[.int .i64 0, .int .i64 0] 37) := ⟨_, rfl⟩
          obtain ⟨q5, hq5e⟩ : ∃ q, q = U1.heap.size := ⟨_, rfl⟩
          have hc2 : Below U1.heap.size U1 U2 := by rw [hU2];repeat (first|(with_reducible exact Below.refl _ _)|(with_reducible assumption)|(with_reducible refine ba ?_)|(with_reducible refine bd ?_)|(with_reducible refine bdn ?_ _)|(with_reducible refine bset ?_ (by first|exact Nat.le_refl _|omega|(simp;done)|(simp;omega)))|(with_reducible refine bt ?_ (by with_reducible assumption)))
          have hb2 := hb1.trans (hc2.mono hb1.size)
          have hq5 : w2.heap.size ≤ q5 := by rw [hq5e];exact hb1.size
          have hbx : Box U2 q5 #[.int .i64 0, .int .i64 0] 37 := by rw [hU2, hq5e];exact Box.new _ _ _
          rw [← hU2, ← hq5e]
          clear hU2 hq5e
          have hxw := hxw.later hc2
          refine hK _ _ ⟨.inr (r5S _ hb2), ?_⟩
          clear hK K
          (try simp only [Act.put, List.setIfInBounds_toArray, List.set_cons_zero, List.set_cons_succ])
          (refine wpAnyM_all (rs := [3]) (by kernel_rfl) (by simp) (List.forall_mem_cons.2 ⟨?_, (fun _ h => by cases h)⟩);refine wpOp_step rfl (fun K hK => ?_))
          go_simp
          go_at_call 12
          refine (K1.out U2 (hw2.trans (hb2.mono hw2.size)) xw hxw hip).mono ?_
          rintro e3 U3 ⟨rfl, hc3⟩
          have hb3 := hb2.trans (hc3.mono hb2.size)
          have hbx := hbx.later hc3
          have hxw := hxw.later hc3
          have cX := hbx.cell
          have fX := hbx.free
          refine hK _ _ ⟨.inr (r5S _ hb3), ?_⟩
          clear hK K
          (try simp only [Act.put, List.setIfInBounds_toArray, List.set_cons_zero, List.set_cons_succ])
          (refine wpAnyM_all (rs := [5]) (by kernel_rfl) (by simp) (List.forall_mem_cons.2 ⟨?_, (fun _ h => by cases h)⟩);refine wpOp_step rfl (fun K hK => ?_))
          go_simp
          refine hK _ _ ⟨.inl rfl, ?_⟩
          clear hK K
          refine wpAnyM_done (by kernel_rfl) (NoPanic.normal ?_) _
          go_wp2
          go_meet
          have hfin := (hbx.set (j := 0) (v := .int .i64 f1)).set (j := 1) (v := .int .i64 f2)
          exact ⟨q5, rfl, Lib.hid hfin, RCk.bsetF (RCk.bsetF hb3 hq5) hq5, hq5⟩
      ·
        refine wpOp_step rfl (fun K hK => ?_)
        go_simp
        obtain ⟨U1, hU1⟩ : ∃ U, U = U0.alloc (.cells #[.int .i64 0, .int .i64 0] 37) := ⟨_, rfl⟩
        obtain ⟨q5, hq5e⟩ : ∃ q, q = U0.heap.size := ⟨_, rfl⟩
        have hc1 : Below U0.heap.size U0 U1 := by rw [hU1];repeat (first|(with_reducible exact Below.refl _ _)|(with_reducible assumption)|(with_reducible refine ba ?_)|(with_reducible refine bd ?_)|(with_reducible refine bdn ?_ _)|(with_reducible refine bset ?_ (by first|exact Nat.le_refl _|omega|(simp;done)|(simp;omega)))|(with_reducible refine bt ?_ (by with_reducible assumption)))
        have hb1 := hb0.trans (hc1.mono hb0.size)
        have hq5 : w2.heap.size ≤ q5 := by rw [hq5e];exact hb0.size
        have hbx : Box U1 q5 #[.int .i64 0, .int .i64 0] 37 := by rw [hU1, hq5e];exact Box.new _ _ _
        rw [← hU1, ← hq5e]
        clear hU1 hq5e
        refine hK _ _ ⟨.inr (r5S _ hb1), ?_⟩
        clear hK K
        (try simp only [Act.put, List.setIfInBounds_toArray, List.set_cons_zero, List.set_cons_succ])
        (refine wpAnyM_all (rs := [2]) (by kernel_rfl) (by simp) (List.forall_mem_cons.2 ⟨?_, (fun _ h => by cases h)⟩);refine wpOp_step rfl (fun K hK => ?_))
        go_simp
        go_at_call 14
        refine (P1.out U1 (hw2.trans (hb1.mono hw2.size))).mono ?_
        rintro e2 U2 ⟨xw, rfl, hxw, hc2, hip⟩
        have hb2 := hb1.trans (hc2.mono hb1.size)
        have hbx := hbx.later hc2
        refine hK _ _ ⟨.inr (r5S _ hb2), ?_⟩
        clear hK K
        (try simp only [Act.put, List.setIfInBounds_toArray, List.set_cons_zero, List.set_cons_succ])
        (refine wpAnyM_all (rs := [3]) (by kernel_rfl) (by simp) (List.forall_mem_cons.2 ⟨?_, (fun _ h => by cases h)⟩);refine wpOp_step rfl (fun K hK => ?_))
        go_simp
        go_at_call 12
        refine (K1.out U2 (hw2.trans (hb2.mono hw2.size)) xw hxw hip).mono ?_
        rintro e3 U3 ⟨rfl, hc3⟩
        have hb3 := hb2.trans (hc3.mono hb2.size)
        have hbx := hbx.later hc3
        have hxw := hxw.later hc3
        have cX := hbx.cell
        have fX := hbx.free
        refine hK _ _ ⟨.inr (r5S _ hb3), ?_⟩
        clear hK K
        (try simp only [Act.put, List.setIfInBounds_toArray, List.set_cons_zero, List.set_cons_succ])
        (refine wpAnyM_all (rs := [5]) (by kernel_rfl) (by simp) (List.forall_mem_cons.2 ⟨?_, (fun _ h => by cases h)⟩);refine wpOp_step rfl (fun K hK => ?_))
        go_simp
        refine hK _ _ ⟨.inl rfl, ?_⟩
        clear hK K
        refine wpAnyM_done (by kernel_rfl) (NoPanic.normal ?_) _
        go_wp2
        go_meet
        have hfin := (hbx.set (j := 0) (v := .int .i64 f1)).set (j := 1) (v := .int .i64 f2)
        exact ⟨q5, rfl, Lib.hid hfin, RCk.bsetF (RCk.bsetF hb3 hq5) hq5, hq5⟩
    case rest =>
      obtain ⟨q5, rfl, HF5, hb5, hq5⟩ := hcut
      have hw5 := hw2.trans (hb5.mono hw2.size)
      have hT5 := hT3.later hb5
      have s5 := hT5.lt
      have r6S : ∀ U, Below wc.heap.size wc U → U.cell? ⟨w.heap.size, 0, none⟩ = some (.slice pr nr cr) ∧ U.cell? ⟨w.heap.size, 1, none⟩ = some (.slice pz nz cz) ∧ U.cell? ⟨w.heap.size, 2, none⟩ = some (.slice pl nl cl) := fun U hU => ⟨(hT5.later hU).cell 0, (hT5.later hU).cell 1, (hT5.later hU).cell 2⟩
      go_upto_region 6 with fail
      refine wp_region_noPanic ?_
      refine wp_region_heldM (fun U => U.cell? ⟨w.heap.size, 0, none⟩ = some (.slice pr nr cr) ∧ U.cell? ⟨w.heap.size, 1, none⟩ = some (.slice pz nz cz) ∧ U.cell? ⟨w.heap.size, 2, none⟩ = some (.slice pl nl cl)) 10 (by kernel_rfl) (r6S _ (Below.refl _ _).drew) ?_
      intro U0 hU hSU
      have hb0 : Below wc.heap.size wc U0 := by rw [hU];exact (Below.refl _ _).drew
      clear hU
      (refine wpAnyM_take (i := 0) (v := ?vt60) rfl (by kernel_rfl) (by kernel_rfl) (by kernel_rfl) [] (by kernel_rfl) (by kernel_rfl) (fun _ _ _ h => h) (Or.inl ⟨by rfl, ?yt60⟩) hSU ?rt60;(case yt60 => (intro w hSw;(try dsimp only at hSw);go_simp;(try with_reducible rfl)));(try simp only [Act.put, List.setIfInBounds_toArray]))
      (refine wpAnyM_take (i := 1) (v := ?vt61) rfl (by kernel_rfl) (by kernel_rfl) (by kernel_rfl) [] (by kernel_rfl) (by kernel_rfl) (fun _ _ _ h => h) (Or.inl ⟨by rfl, ?yt61⟩) hSU ?rt61;(case yt61 => (intro w hSw;(try dsimp only at hSw);go_simp;(try with_reducible rfl)));(try simp only [Act.put]))
      (refine wpAnyM_take (i := 2) (v := ?vt62) rfl (by kernel_rfl) (by kernel_rfl) (by kernel_rfl) [] (by kernel_rfl) (by kernel_rfl) (fun _ _ _ h => h) (Or.inl ⟨by rfl, ?yt62⟩) hSU ?rt62;(case yt62 => (intro w hSw;(try dsimp only at hSw);go_simp;(try with_reducible rfl)));(try simp only [Act.put]))
      (refine wpAnyM_take (i := 3) (v := ?vt63) rfl (by kernel_rfl) (by kernel_rfl) (by kernel_rfl) [] (by kernel_rfl) (by kernel_rfl) (fun _ _ _ h => h) (Or.inl ⟨by rfl, ?yt63⟩) hSU ?rt63;(case yt63 => (intro w hSw;(try dsimp only at hSw);go_simp;(try with_reducible rfl)));(try simp only [Act.put]))
      (refine wpAnyM_take (i := 4) (v := ?vt64) rfl (by kernel_rfl) (by kernel_rfl) (by kernel_rfl) [] (by kernel_rfl) (by kernel_rfl) (fun _ _ _ h => h) (Or.inl ⟨by rfl, ?yt64⟩) hSU ?rt64;(case yt64 => (intro w hSw;(try dsimp only at hSw);go_simp;(try with_reducible rfl)));(try simp only [Act.put]))
      (refine wpAnyM_take (i := 5) (v := ?vt65) rfl (by kernel_rfl) (by kernel_rfl) (by kernel_rfl) [] (by kernel_rfl) (by kernel_rfl) (fun _ _ _ h => h) (Or.inl ⟨by rfl, ?yt65⟩) hSU ?rt65;(case yt65 => (intro w hSw;(try dsimp only at hSw);go_simp;(try with_reducible rfl)));(try simp only [Act.put]))
      (refine wpAnyM_take (i := 6) (v := ?vt66) rfl (by kernel_rfl) (by kernel_rfl) (by kernel_rfl) [] (by kernel_rfl) (by kernel_rfl) (fun _ _ _ h => h) (Or.inl ⟨by rfl, ?yt66⟩) hSU ?rt66;(case yt66 => (intro w hSw;(try dsimp only at hSw);go_simp;(try with_reducible rfl)));(try simp only [Act.put]))
      (refine wpAnyM_take (i := 7) (v := ?vt67) rfl (by kernel_rfl) (by kernel_rfl) (by kernel_rfl) [] (by kernel_rfl) (by kernel_rfl) (fun _ _ _ h => h) (Or.inl ⟨by rfl, ?yt67⟩) hSU ?rt67;(case yt67 => (intro w hSw;(try dsimp only at hSw);go_simp;(try with_reducible rfl)));(try simp only [Act.put]))
      (refine wpAnyM_take (i := 8) (v := ?vt68) rfl (by kernel_rfl) (by kernel_rfl) (by kernel_rfl) [] (by kernel_rfl) (by kernel_rfl) (fun _ _ _ h => h) (Or.inl ⟨by rfl, ?yt68⟩) hSU ?rt68;(case yt68 => (intro w hSw;(try dsimp only at hSw);go_simp;(try with_reducible rfl)));(try simp only [Act.put]))
      (refine wpAnyM_all (rs := [9]) (by kernel_rfl) (by simp) (List.forall_mem_cons.2 ⟨?_, (fun _ h => by cases h)⟩);refine wpOp_step rfl (fun K hK => ?_))
      go_simp
      obtain ⟨U1, hU1⟩ : ∃ U, U = U0.alloc (.cells #[.slice none 0 0, .slice none 0 0, .slice none 0 0] 26) := ⟨_, rfl⟩
      obtain ⟨q6, hq6e⟩ : ∃ q, q = U0.heap.size := ⟨_, rfl⟩
      have hb1 : Below wc.heap.size wc U1 := by rw [hU1];exact hb0.alloc hb0.size _
      have hq6 : wc.heap.size ≤ q6 := by rw [hq6e];exact hb0.size
      have hbx : Box U1 q6 #[.slice none 0 0, .slice none 0 0, .slice none 0 0] 26 := by rw [hU1, hq6e];exact Box.new _ _ _
      rw [← hU1, ← hq6e]
      clear hU1 hq6e
      have cX := hbx.cell
      have fX := hbx.free
      refine hK _ _ ⟨.inr (r6S _ hb1), ?_⟩
      clear hK K
      (try simp only [Act.put, List.setIfInBounds_toArray, List.set_cons_zero, List.set_cons_succ])
      (refine wpAnyM_all (rs := [10]) (by kernel_rfl) (by simp) (List.forall_mem_cons.2 ⟨?_, (fun _ h => by cases h)⟩);refine wpOp_step rfl (fun K hK => ?_))
      go_simp
      refine hK _ _ ⟨.inl rfl, ?_⟩
      clear hK K
      refine wpAnyM_done (by kernel_rfl) (NoPanic.normal ?_) _
      obtain ⟨w6, hw6e⟩ : ∃ W, W = (((U1.setCell ⟨q6, 0, none⟩ (.slice pr nr cr)).setCell ⟨q6, 1, none⟩ (.slice pz nz cz)).setCell ⟨q6, 2, none⟩ (.slice pl k cl)) := ⟨_, rfl⟩
      rw [← hw6e]
      have hT6 : Box w6 q6 #[.slice pr nr cr, .slice pz nz cz, .slice pl k cl] 26 := by rw [hw6e];exact hbx.set3
      have hb6 : Below wc.heap.size wc w6 := by rw [hw6e];exact RCk.bsetF (RCk.bsetF (RCk.bsetF hb1 hq6) hq6) hq6
      have hw6 := hw5.trans (hb6.mono hw5.size)
      have HF6 := Lib.hid (HF5.out.later hb6)
      have hT7 := hT5.later hb6
      have s6 := hT6.lt
      clear hw6e cX fX hb1 hbx hb6 hb0 hSU r6S hT5 s5 hb5 hw5 hw2 hT3 s3
      go_upto_region 7 with fail
      go_cut [7] from 40 to 43 (fun s7 wx => ∃ q7 : Nat, s7 = .pointer (some ⟨q7, 0, none⟩) ∧ Hid (Box wx q7 #[.int .i64 g1, .int .i64 g2] 37) ∧ Below w6.heap.size w6 wx ∧ w6.heap.size ≤ q7)
      case first =>
        have r7S : ∀ U, Below w6.heap.size w6 U → U.cell? ⟨q6, 0, none⟩ = some (.slice pr nr cr) ∧ U.cell? ⟨q6, 1, none⟩ = some (.slice pz nz cz) ∧ U.cell? ⟨q6, 2, none⟩ = some (.slice pl k cl) := fun U hU => ⟨(hT6.later hU).cell 0, (hT6.later hU).cell 1, (hT6.later hU).cell 2⟩
        refine wp_region_noPanic ?_
        refine wp_region_heldM (fun U => U.cell? ⟨q6, 0, none⟩ = some (.slice pr nr cr) ∧ U.cell? ⟨q6, 1, none⟩ = some (.slice pz nz cz) ∧ U.cell? ⟨q6, 2, none⟩ = some (.slice pl k cl)) 5 (by kernel_rfl) (r7S _ (Below.refl _ _).drew) ?_
        intro U0 hU hSU
        have hb0 : Below w6.heap.size w6 U0 := by rw [hU];exact (Below.refl _ _).drew
        clear hU
        (refine wpAnyM_take (i := 0) (v := ?vr70) rfl (by kernel_rfl) (by kernel_rfl) (by kernel_rfl) [] (by kernel_rfl) (by kernel_rfl) (fun _ _ _ h => h) (Or.inl ⟨by rfl, ?yr70⟩) hSU ?rr70;(case yr70 => (intro w hSw;(try dsimp only at hSw);go_simp;(try with_reducible rfl)));(try simp only [Act.put, List.setIfInBounds_toArray]))
        (refine wpAnyM_take (i := 1) (v := ?vr71) rfl (by kernel_rfl) (by kernel_rfl) (by kernel_rfl) [] (by kernel_rfl) (by kernel_rfl) (fun _ _ _ h => h) (Or.inl ⟨by rfl, ?yr71⟩) hSU ?rr71;(case yr71 => (intro w hSw;(try dsimp only at hSw);go_simp;(try with_reducible rfl)));(try simp only [Act.put]))
        refine wpAnyM_all (rs := [2, 4]) (by kernel_rfl) (by simp) (List.forall_mem_cons.2 ⟨?_, List.forall_mem_cons.2 ⟨?_, (fun _ h => by cases h)⟩⟩)
        ·
          refine wpOp_step rfl (fun K hK => ?_)
          go_simp
          go_at_call 14
          refine (P2.out U0 (hw6.trans (hb0.mono hw6.size))).mono ?_
          rintro e2 U1 ⟨xw, rfl, hxw, hc1, hip⟩
          have hb1 := hb0.trans (hc1.mono hb0.size)
          refine hK _ _ ⟨.inr (r7S _ hb1), ?_⟩
          clear hK K
          (try simp only [Act.put, List.setIfInBounds_toArray, List.set_cons_zero, List.set_cons_succ])
          refine wpAnyM_all (rs := [3, 4]) (by kernel_rfl) (by simp) (List.forall_mem_cons.2 ⟨?_, List.forall_mem_cons.2 ⟨?_, (fun _ h => by cases h)⟩⟩)
          ·
            refine wpOp_step rfl (fun K hK => ?_)
            go_simp
            go_at_call 12
            refine (K2.out U1 (hw6.trans (hb1.mono hw6.size)) xw hxw hip).mono ?_
            rintro e3 U2 ⟨rfl, hc2⟩
            have hb2 := hb1.trans (hc2.mono hb1.size)
            have hxw := hxw.later hc2
            refine hK _ _ ⟨.inr (r7S _ hb2), ?_⟩
            clear hK K
            (try simp only [Act.put, List.setIfInBounds_toArray, List.set_cons_zero, List.set_cons_succ])
            (refine wpAnyM_all (rs := [4]) (by kernel_rfl) (by simp) (List.forall_mem_cons.2 ⟨?_, (fun _ h => by cases h)⟩);refine wpOp_step rfl (fun K hK => ?_))
            go_simp
            obtain ⟨U3, hU3⟩ : ∃ U, U = U2.alloc (.cells #[.int .i64 0, .int .i64 0] 37) := ⟨_, rfl⟩
            obtain ⟨q5, hq5e⟩ : ∃ q, q = U2.heap.size := ⟨_, rfl⟩
            have hc3 : Below U2.heap.size U2 U3 := by rw [hU3];repeat (first|(with_reducible exact Below.refl _ _)|(with_reducible assumption)|(with_reducible refine ba ?_)|(with_reducible refine bd ?_)|(with_reducible refine bdn ?_ _)|(with_reducible refine bset ?_ (by first|exact Nat.le_refl _|omega|(simp;done)|(simp;omega)))|(with_reducible refine bt ?_ (by with_reducible assumption)))
            have hb3 := hb2.trans (hc3.mono hb2.size)
            have hq5 : w6.heap.size ≤ q5 := by rw [hq5e];exact hb2.size
            have hbx : Box U3 q5 #[.int .i64 0, .int .i64 0] 37 := by rw [hU3, hq5e];exact Box.new _ _ _
            rw [← hU3, ← hq5e]
            clear hU3 hq5e
            have hxw := hxw.later hc3
            have cX := hbx.cell
            have fX := hbx.free
            refine hK _ _ ⟨.inr (r7S _ hb3), ?_⟩
            clear hK K
            (try simp only [Act.put, List.setIfInBounds_toArray, List.set_cons_zero, List.set_cons_succ])
            (refine wpAnyM_all (rs := [5]) (by kernel_rfl) (by simp) (List.forall_mem_cons.2 ⟨?_, (fun _ h => by cases h)⟩);refine wpOp_step rfl (fun K hK => ?_))
            go_simp
            refine hK _ _ ⟨.inl rfl, ?_⟩
            clear hK K
            refine wpAnyM_done (by kernel_rfl) (NoPanic.normal ?_) _
            go_wp2
            go_meet
            have hfin := (hbx.set (j := 0) (v := .int .i64 g1)).set (j := 1) (v := .int .i64 g2)
            exact ⟨q5, rfl, Lib.hid hfin, RCk.bsetF (RCk.bsetF hb3 hq5) hq5, hq5⟩
          ·
            refine wpOp_step rfl (fun K hK => ?_)
            go_simp
            obtain ⟨U2, hU2⟩ : ∃ U, U = U1.alloc (.cells #[.int .i64 0, .int .i64 0] 37) := ⟨_, rfl⟩
            obtain ⟨q5, hq5e⟩ : ∃ q, q = U1.heap.size := ⟨_, rfl⟩
            have hc2 : Below U1.heap.size U1 U2 := by rw [hU2];repeat (first|(with_reducible exact Below.refl _ _)|(with_reducible assumption)|(with_reducible refine ba ?_)|(with_reducible refine bd ?_)|(with_reducible refine bdn ?_ _)|(with_reducible refine bset ?_ (by first|exact Nat.le_refl _|omega|(simp;done)|(simp;omega)))|(with_reducible refine bt ?_ (by with_reducible assumption)))
            have hb2 := hb1.trans (hc2.mono hb1.size)
            have hq5 : w6.heap.size ≤ q5 := by rw [hq5e];exact hb1.size
            have hbx : Box U2 q5 #[.int .i64 0, .int .i64 0] 37 := by rw [hU2, hq5e];exact Box.new _ _ _
            rw [← hU2, ← hq5e]
            clear hU2 hq5e
            have hxw := hxw.later hc2
            refine hK _ _ ⟨.inr (r7S _ hb2), ?_⟩
            clear hK K
            (try simp only [Act.put, List.setIfInBounds_toArray, List.set_cons_zero, List.set_cons_succ])
            (refine wpAnyM_all (rs := [3]) (by kernel_rfl) (by simp) (List.forall_mem_cons.2 ⟨?_, (fun _ h => by cases h)⟩);refine wpOp_step rfl (fun K hK => ?_))
            go_simp
            go_at_call 12
            refine (K2.out U2 (hw6.trans (hb2.mono hw6.size)) xw hxw hip).mono ?_
            rintro e3 U3 ⟨rfl, hc3⟩
            have hb3 := hb2.trans (hc3.mono hb2.size)
            have hbx := hbx.later hc3
            have hxw := hxw.later hc3
            have cX := hbx.cell
            have fX := hbx.free
            refine hK _ _ ⟨.inr (r7S _ hb3), ?_⟩
            clear hK K
            (try simp only [Act.put, List.setIfInBounds_toArray, List.set_cons_zero, List.set_cons_succ])
            (refine wpAnyM_all (rs := [5]) (by kernel_rfl) (by simp) (List.forall_mem_cons.2 ⟨?_, (fun _ h => by cases h)⟩);refine wpOp_step rfl (fun K hK => ?_))
            go_simp
            refine hK _ _ ⟨.inl rfl, ?_⟩
            clear hK K
            refine wpAnyM_done (by kernel_rfl) (NoPanic.normal ?_) _
            go_wp2
            go_meet
            have hfin := (hbx.set (j := 0) (v := .int .i64 g1)).set (j := 1) (v := .int .i64 g2)
            exact ⟨q5, rfl, Lib.hid hfin, RCk.bsetF (RCk.bsetF hb3 hq5) hq5, hq5⟩
        ·
          refine wpOp_step rfl (fun K hK => ?_)
          go_simp
          obtain ⟨U1, hU1⟩ : ∃ U, U = U0.alloc (.cells #[.int .i64 0, .int .i64 0] 37) := ⟨_, rfl⟩
          obtain ⟨q5, hq5e⟩ : ∃ q, q = U0.heap.size := ⟨_, rfl⟩
          have hc1 : Below U0.heap.size U0 U1 := by rw [hU1];repeat (first|(with_reducible exact Below.refl _ _)|(with_reducible assumption)|(with_reducible refine ba ?_)|(with_reducible refine bd ?_)|(with_reducible refine bdn ?_ _)|(with_reducible refine bset ?_ (by first|exact Nat.le_refl _|omega|(simp;done)|(simp;omega)))|(with_reducible refine bt ?_ (by with_reducible assumption)))
          have hb1 := hb0.trans (hc1.mono hb0.size)
          have hq5 : w6.heap.size ≤ q5 := by rw [hq5e];exact hb0.size
          have hbx : Box U1 q5 #[.int .i64 0, .int .i64 0] 37 := by rw [hU1, hq5e];exact Box.new _ _ _
          rw [← hU1, ← hq5e]
          clear hU1 hq5e
          refine hK _ _ ⟨.inr (r7S _ hb1), ?_⟩
          clear hK K
          (try simp only [Act.put, List.setIfInBounds_toArray, List.set_cons_zero, List.set_cons_succ])
          (refine wpAnyM_all (rs := [2]) (by kernel_rfl) (by simp) (List.forall_mem_cons.2 ⟨?_, (fun _ h => by cases h)⟩);refine wpOp_step rfl (fun K hK => ?_))
          go_simp
          go_at_call 14
          refine (P2.out U1 (hw6.trans (hb1.mono hw6.size))).mono ?_
          rintro e2 U2 ⟨xw, rfl, hxw, hc2, hip⟩
          have hb2 := hb1.trans (hc2.mono hb1.size)
          have hbx := hbx.later hc2
          refine hK _ _ ⟨.inr (r7S _ hb2), ?_⟩
          clear hK K
          (try simp only [Act.put, List.setIfInBounds_toArray, List.set_cons_zero, List.set_cons_succ])
          (refine wpAnyM_all (rs := [3]) (by kernel_rfl) (by simp) (List.forall_mem_cons.2 ⟨?_, (fun _ h => by cases h)⟩);refine wpOp_step rfl (fun K hK => ?_))
          go_simp
          go_at_call 12
          refine (K2.out U2 (hw6.trans (hb2.mono hw6.size)) xw hxw hip).mono ?_
          rintro e3 U3 ⟨rfl, hc3⟩
          have hb3 := hb2.trans (hc3.mono hb2.size)
          have hbx := hbx.later hc3
          have hxw := hxw.later hc3
          have cX := hbx.cell
          have fX := hbx.free
          refine hK _ _ ⟨.inr (r7S _ hb3), ?_⟩
          clear hK K
          (try simp only [Act.put, List.setIfInBounds_toArray, List.set_cons_zero, List.set_cons_succ])
          (refine wpAnyM_all (rs := [5]) (by kernel_rfl) (by simp) (List.forall_mem_cons.2 ⟨?_, (fun _ h => by cases h)⟩);refine wpOp_step rfl (fun K hK => ?_))
          go_simp
          refine hK _ _ ⟨.inl rfl, ?_⟩
          clear hK K
          refine wpAnyM_done (by kernel_rfl) (NoPanic.normal ?_) _
          go_wp2
          go_meet
          have hfin := (hbx.set (j := 0) (v := .int .i64 g1)).set (j := 1) (v := .int .i64 g2)
          exact ⟨q5, rfl, Lib.hid hfin, RCk.bsetF (RCk.bsetF hb3 hq5) hq5, hq5⟩
      case rest =>
        obtain ⟨q7, rfl, HF7, hb7, hq7⟩ := hcut
        have hw7 := hw6.trans (hb7.mono hw6.size)
        have hT8 := hT7.later hb7
        have HF8 := Lib.hid (HF6.out.later hb7)
        have hT6' := hT6.later hb7
        have cT := hT8.cell
        obtain ⟨w8, hw8⟩ : ∃ W : World, W = wc := ⟨_, rfl⟩
        rw [← hw8] at hw7 hT8 HF8 HF7 cT ⊢
        clear hw8 hb7 hT7 hT6 hT6' hw6 s6 HF6 hq7
        have s8 := hT8.lt
        go_wp2_with (first|fail)
        clear cT
        go_loopw [50, 8] (fun i s wr => ∃ (j S : Nat), i = .int .i64 j ∧ s = .int .i64 S ∧ j ≤ nz ∧ S ≤ 12 + 12 * j ∧ Below w8.heap.size w8 wr ∧ Hid (S = nr + sumE (zs.take j))) (fun i _ _ => nz - (intOf i).toNat)
        case atStart => exact ⟨0, nr, rfl, rfl, Nat.zero_le _, by omega, Below.refl _ _, rfl⟩
        case round =>
          obtain ⟨j, S, rfl, rfl, hj, hS, hbr, HS⟩ := hrel
          have hbw := hw7.trans (hbr.mono hw7.size)
          by_cases hlt : j < nz
          · obtain ⟨z, hz⟩ : ∃ z, zs[j]? = some z := ⟨_, List.getElem?_eq_getElem (by rw [← HNZ.out];exact hlt)⟩
            obtain ⟨b1, o1, rfl, hg1, d1⟩ := HPZ.out j z hz
            have z0 := (hbw.cell (p := ⟨b1, o1 + j * 2 + 0, none⟩) hg1).trans (d1 0 _ rfl)
            have z1 := (hbw.cell (p := ⟨b1, o1 + j * 2 + 1, none⟩) hg1).trans (d1 1 _ rfl)
            rw [Nat.add_zero] at z0
            obtain ⟨pp, cc, hv⟩ := (HH.out.h.zf z (List.mem_of_getElem? hz)).e.form
            rw [hv] at z1
            have hzl := HL4.out z (List.mem_of_getElem? hz)
            have hsum := RCk.sumE_take hz
            obtain ⟨m, hm⟩ : ∃ m, m = z.es.length := ⟨_, rfl⟩
            rw [← hm] at z1 hzl hsum
            have HSUM := Lib.hid hsum
            have q9 : (j : Int) < (nz : Int) := by omega
            clear d1 hv hz hm hsum
            go_wp2
            go_roundw
            case rel => exact ⟨j + 1, S + m, by go_num, by go_num, by omega, by omega, by repeat (first|(with_reducible exact Below.refl _ _)|(with_reducible assumption)|(with_reducible refine ba ?_)|(with_reducible refine bd ?_)|(with_reducible refine bdn ?_ _)|(with_reducible refine bset ?_ (by first|exact Nat.le_refl _|omega|(simp;done)|(simp;omega)))|(with_reducible refine bt ?_ (by with_reducible assumption))), Lib.hid (by rw [HSUM.out, HS.out];omega)⟩
            case measure => simp [intOf];omega
          · obtain rfl : nz = j := by omega
            have hSe := HS.out
            rw [List.take_of_length_le (by rw [← HNZ.out];exact Nat.le_refl _)] at hSe
            have hl := HLAW.out
            rw [← HNR.out, ← hSe] at hl
            have bf := HF8.out.later hbr
            have bg := HF7.out.later hbr
            have cf := bf.cell
            have cg := bg.cell
            have hS0 : ¬ ((S : Int) < 0) := by omega
            clear HS hSe HLAW bf bg hS
            by_cases u1 : (S : Int) < f1
            · by_cases u2 : (S : Int) < g1
              · go_wp2
                go_ret
                exact ⟨rfl, by repeat (first|(with_reducible exact Below.refl _ _)|(with_reducible assumption)|(with_reducible refine ba ?_)|(with_reducible refine bd ?_)|(with_reducible refine bdn ?_ _)|(with_reducible refine bset ?_ (by first|exact Nat.le_refl _|omega|(simp;done)|(simp;omega)))|(with_reducible refine bt ?_ (by with_reducible assumption)))⟩
              · have u3 : g1 = 0 ∧ g2 = 0 := by
                  rcases hl with ⟨_, h|h⟩|⟨h, _⟩|h
                  · exact absurd h u2
                  · simpa using h
                  · have : f1 = 0 := by simp at h;exact h.1
                    omega
                  · simp only [Prod.mk.injEq] at h
                    omega
                obtain ⟨rfl, rfl⟩ := u3
                clear hl
                go_wp2
                go_ret
                exact ⟨rfl, by repeat (first|(with_reducible exact Below.refl _ _)|(with_reducible assumption)|(with_reducible refine ba ?_)|(with_reducible refine bd ?_)|(with_reducible refine bdn ?_ _)|(with_reducible refine bset ?_ (by first|exact Nat.le_refl _|omega|(simp;done)|(simp;omega)))|(with_reducible refine bt ?_ (by with_reducible assumption)))⟩
            · by_cases u4 : f1 = 0 ∧ f2 = 0
              · obtain ⟨rfl, rfl⟩ := u4
                by_cases u2 : (S : Int) < g1
                · clear hl
                  go_wp2
                  go_ret
                  exact ⟨rfl, by repeat (first|(with_reducible exact Below.refl _ _)|(with_reducible assumption)|(with_reducible refine ba ?_)|(with_reducible refine bd ?_)|(with_reducible refine bdn ?_ _)|(with_reducible refine bset ?_ (by first|exact Nat.le_refl _|omega|(simp;done)|(simp;omega)))|(with_reducible refine bt ?_ (by with_reducible assumption)))⟩
                · have u3 : g1 = 0 ∧ g2 = 0 := by
                    rcases hl with ⟨h, _⟩|⟨_, h|h⟩|h
                    · omega
                    · exact absurd h u2
                    · simpa using h
                    · simp only [Prod.mk.injEq] at h
                      exact ⟨h.1.symm, h.2.symm⟩
                  obtain ⟨rfl, rfl⟩ := u3
                  clear hl
                  go_wp2
                  go_ret
                  exact ⟨rfl, by repeat (first|(with_reducible exact Below.refl _ _)|(with_reducible assumption)|(with_reducible refine ba ?_)|(with_reducible refine bd ?_)|(with_reducible refine bdn ?_ _)|(with_reducible refine bset ?_ (by first|exact Nat.le_refl _|omega|(simp;done)|(simp;omega)))|(with_reducible refine bt ?_ (by with_reducible assumption)))⟩
              · have u5 : f1 = g1 ∧ f2 = g2 := by
                  rcases hl with ⟨h, _⟩|⟨h, _⟩|h
                  · exact absurd h u1
                  · exact absurd (by simpa using h) u4
                  · simpa using h
                obtain ⟨rfl, rfl⟩ := u5
                clear hl
                by_cases u6 : f1 = 0
                · have u7 : (f2 == 0) = false := by simpa using fun h => u4 ⟨u6, h⟩
                  subst u6
                  clear u4
                  go_wp2
                  go_ret
                  exact ⟨rfl, by repeat (first|(with_reducible exact Below.refl _ _)|(with_reducible assumption)|(with_reducible refine ba ?_)|(with_reducible refine bd ?_)|(with_reducible refine bdn ?_ _)|(with_reducible refine bset ?_ (by first|exact Nat.le_refl _|omega|(simp;done)|(simp;omega)))|(with_reducible refine bt ?_ (by with_reducible assumption)))⟩
                · have u7 : (f1 == 0) = false := by simpa using u6
                  clear u4 u6
                  go_wp2
                  go_ret
                  exact ⟨rfl, by repeat (first|(with_reducible exact Below.refl _ _)|(with_reducible assumption)|(with_reducible refine ba ?_)|(with_reducible refine bd ?_)|(with_reducible refine bdn ?_ _)|(with_reducible refine bset ?_ (by first|exact Nat.le_refl _|omega|(simp;done)|(simp;omega)))|(with_reducible refine bt ?_ (by with_reducible assumption)))⟩
end CkL
end Go.Proofs.YtcfmchpoclkpgaaGreatDoor
