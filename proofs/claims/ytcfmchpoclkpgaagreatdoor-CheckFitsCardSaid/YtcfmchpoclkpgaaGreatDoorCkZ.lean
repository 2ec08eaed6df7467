import Derived.Test.YtcfmchpoclkpgaaGreatDoorCkL
import Derived.Test.YtcfmchpoclkpgaaGreatDoorUCheck
namespace Go.Proofs.YtcfmchpoclkpgaaGreatDoor
open Go.RowKit NB
namespace CkW
open Ck BkW
theorem named_mem (l : List RuleV) (s : ByteArray) : RBk.mem s (l.map RuleV.name) = named l s := by
  unfold RBk.mem named
  rw [List.any_map]
  rfl
set_option maxRecDepth 100000 in
set_option maxHeartbeats 12800000 in
theorem zones {w0 W : World} {t : TabV} {x : WhV} {f : Fault} (hB : Below w0.heap.size w0 W) (hF : Box W w0.heap.size #[t.rv, t.zv, t.lv, x.rv, x.ev, x.lv, .int .i64 f.1, .int .i64 f.2] 86)
    (h : HoldsT w0 t) (hx : HoldsW w0 x) (ht : Tab w0) (hlen : x.es.length = t.zs.length) (hrow : ∀ p ∈ t.zs.zip (x.es.map RowN.ns), p.2.length = p.1.es.length) (hzl : t.zs.length ≤ 1000) (hrl : t.rs.length ≤ 1000) (hel : ∀ z ∈ t.zs, z.es.length ≤ 1000) :
    Calls Tryz.prog 32 #[.pointer (some ⟨w0.heap.size, 0, none⟩)] W fun e w' => e = .returned (.tuple #[]) ∧ Box w' w0.heap.size #[t.rv, t.zv, t.lv, x.rv, x.ev, x.lv, .int .i64 (run f (zoneFs t.rs t.zs (x.es.map RowN.ns))).1, .int .i64 (run f (zoneFs t.rs t.zs (x.es.map RowN.ns))).2] 86 ∧ Below w0.heap.size w0 w' := by
  have hmm := @run_makeMap Tryz.prog
  obtain ⟨R, hR⟩ : ∃ r, r = run f (zoneFs t.rs t.zs (x.es.map RowN.ns)) := ⟨_, rfl⟩
  rw [← hR]
  have hzf := h.zf;have hef := hx.ef;have hrf := h.r.fit
  have cuc := fun (X : World) (hX : Below w0.heap.size w0 X) (z : ZoneV) (hz : z ∈ t.zs) => Unt.Check (h.r.later hX) ((hzf z hz).later hX).e z.name (by have := hel z hz;omega) (ht.later hX)
  obtain ⟨rv, zv, lv, rs, zs, ls⟩ := t
  obtain ⟨xrv, xev, xlv, xr, xe, xl⟩ := x
  obtain ⟨pr, cr, e1, hpr⟩ := h.r.g.pk
  obtain ⟨pz, cz, e2, hpz⟩ := h.z.pk
  obtain ⟨pl, cl, e3⟩ := h.l.form
  obtain ⟨pe, ce, e5, hpe⟩ := hx.e.pk
  dsimp only at e1 e2 e3 e5 hpr hpz hpe hF hR hzf hef hrf cuc hlen hrow hzl hrl hel ⊢
  subst e1 e2 e3 e5
  rw [hlen] at hF ⊢
  obtain ⟨nr, hnr⟩ : ∃ n, n = rs.length := ⟨_, rfl⟩
  obtain ⟨nz, hnz⟩ : ∃ n, n = zs.length := ⟨_, rfl⟩
  rw [← hnz] at hzl hF hlen ⊢
  rw [← hnr] at hrl hF cuc ⊢
  generalize ls.length = nl at *
  have HPR := Lib.hid hpr;have HPZ := Lib.hid hpz;have HPE := Lib.hid hpe;have HNR := Lib.hid hnr;have HNZ := Lib.hid hnz;have HLE := Lib.hid hlen;have HR := Lib.hid hR;have HB := Lib.hid hB;have HZF := Lib.hid hzf;have HEF := Lib.hid hef;have HRF := Lib.hid hrf;have HCU := Lib.hid cuc;have HROW := Lib.hid hrow;have HEL := Lib.hid hel
  have HF0 := Lib.hid hF
  have hs := hF.lt
  have hs0 := hB.size
  obtain ⟨F, hFe⟩ : ∃ F, F = w0.heap.size := ⟨_, rfl⟩
  have HFE := Lib.hid hFe
  rw [← hFe] at HF0 hs hs0 ⊢
  obtain ⟨w1, hw1⟩ : ∃ w1, w1 = W.alloc (.map #[] 0) := ⟨_, rfl⟩
  obtain ⟨N, hN⟩ : ∃ N, N = W.heap.size := ⟨_, rfl⟩
  have hlN := (Mp.made W Tryz.prog 9)
  rw [← hw1, ← hN] at hlN
  have hNF : N ≠ F := by omega
  have hNge : F ≤ N := by omega
  have hb1 : Below W.heap.size W w1 := by rw [hw1];repeat (first|(with_reducible exact Below.refl _ _)|(with_reducible assumption)|(with_reducible refine ba ?_)|(with_reducible refine bd ?_)|(with_reducible refine bdn ?_ _)|(with_reducible refine bset ?_ (by first|exact Nat.le_refl _|omega|(simp;done)|(simp;omega)))|(with_reducible refine bt ?_ (by with_reducible assumption)))
  have hs1 : w1.heap.size = N + 1 := by rw [hw1, hN];simp
  have hB1 : Below w0.heap.size w0 w1 := hB.trans (hb1.mono hB.size)
  have hF1 := HF0.out.later hb1
  have c0 := HF0.out.cell
  have HLN := Lib.hid hlN;have HF1 := Lib.hid hF1;have HB1 := Lib.hid hB1;have HW1 := Lib.hid hw1;have HN := Lib.hid hN
  clear hpr hpz hpe hnr hnz hlen hR hB hzf hef hrf hx h hF hFe cuc hrow ht hel hlN hF1 hB1 hw1 hN hb1
  go_enter Tryz.func32, Tryz.ntmps32
  go_wp2_with (first|fail)
  rw [← HW1.out, ← HN.out]
  clear c0
  go_loopw [20] (fun i wr => ∃ (k : Nat) (L : List Mp.Ent), i = .int .i64 k ∧ k ≤ nr ∧ BkN.Far w1 wr N N ∧ Hid (Mp.Lies wr Tryz.prog 9 N L) ∧ Hid (BkW.Met L ((rs.map RuleV.name).take k)) ∧ L.length ≤ k) (fun i _ => nr - (intOf i).toNat)
  case atStart => exact ⟨0, [], rfl, Nat.zero_le _, BkN.Far.refl _ _ _, HLN.out, met_nil, Nat.le_refl _⟩
  case round =>
    obtain ⟨k, L, rfl, hk, hfar, HLw, HMet, hLk⟩ := hrel
    have hbw : Below w0.heap.size w0 wr := hfar.below HB1.out (by rw [← HFE.out];omega) (by rw [← HFE.out];omega) HB1.out.size
    have hsz := hfar.size
    by_cases hlt : k < nr
    · obtain ⟨r, hr⟩ : ∃ r, rs[k]? = some r := ⟨_, List.getElem?_eq_getElem (by rw [← HNR.out];exact hlt)⟩
      obtain ⟨g1, o1, rfl, hg1, d1⟩ := HPR.out k r hr
      replace d1 := fun j u hu => (hbw.cell (p := ⟨g1, o1 + k * 11 + j, none⟩) hg1).trans (d1 j u hu)
      have x0 := d1 0 _ rfl
      have x1 := d1 1 _ rfl
      have x2 := d1 2 _ rfl
      have x3 := d1 3 _ rfl
      have x4 := d1 4 _ rfl
      have x5 := d1 5 _ rfl
      have x6 := d1 6 _ rfl
      have x7 := d1 7 _ rfl
      have x8 := d1 8 _ rfl
      have x9 := d1 9 _ rfl
      have x10 := d1 10 _ rfl
      rw [Nat.add_zero] at x0
      have hrs := (HRF.out r (List.mem_of_getElem? hr)).n
      have hrn : (rs.map RuleV.name)[k]? = some r.name := by rw [List.getElem?_map, hr];rfl
      have HM2 := Lib.hid (HMet.out.put r.name)
      rw [show (rs.map RuleV.name).take k ++ [r.name] = (rs.map RuleV.name).take (k + 1) by rw [List.take_add_one, hrn];rfl] at HM2
      have hLl2 : L.length < maxLen := by unfold maxLen;omega
      have hpl := Mp.put_len r.name (.bool true) L
      have HLa := fun o => Lib.hid (HLw.out.old o)
      have hfa := fun o => hfar.grown (World.grownBy_alloc wr o none) (fun r hr => by cases hr)
      have HFA := Lib.hid hfa
      have q1 : (k : Int) < (nr : Int) := by omega
      clear d1 hr hrn HLw HMet hfa hfar hbw
      go_wp2_with (at_mapUpdate;refine Mp.wpList_put _ rfl _ _ _ 90 rfl 9 4 BkW.law Tryz.underlying90 N L rfl (HLa _).out hLl2 r.name (.bool true) _ rfl rfl (WideMaps.keyOf_string_mk Tryz.underlying9 hrs) ?_;intro w5 hl5 hg5)
      have hfar5 := (HFA.out _).grown hg5 (fun r hr => by cases hr;exact .inl rfl)
      have HL5 := Lib.hid hl5
      clear hl5 hg5
      go_roundw
      case rel => exact ⟨k + 1, _, by go_num, by omega, hfar5, HL5, HM2, by omega⟩
      case measure => simp [intOf];omega
    · obtain rfl : nr = k := by omega
      have hM3 := HMet.out
      rw [List.take_of_length_le (by rw [List.length_map, ← HNR.out];exact Nat.le_refl _)] at hM3
      have hF3 := hfar.box HF1.out (fun e => hNF e.symm) (fun e => hNF e.symm)
      obtain ⟨w3, hw3⟩ : ∃ w3, w3 = wr.alloc (.map #[] 0) := ⟨_, rfl⟩
      obtain ⟨M, hM⟩ : ∃ M, M = wr.heap.size := ⟨_, rfl⟩
      have hb3 : Below wr.heap.size wr w3 := by rw [hw3];repeat (first|(with_reducible exact Below.refl _ _)|(with_reducible assumption)|(with_reducible refine ba ?_)|(with_reducible refine bd ?_)|(with_reducible refine bdn ?_ _)|(with_reducible refine bset ?_ (by first|exact Nat.le_refl _|omega|(simp;done)|(simp;omega)))|(with_reducible refine bt ?_ (by with_reducible assumption)))
      have hFw : F < wr.heap.size := hF3.lt
      have hNw : N < wr.heap.size := HLw.out.lt
      have hMF : M ≠ F := by omega
      have hMN : M ≠ N := by omega
      have HF3 := Lib.hid (hF3.later hb3)
      have c3 := hF3.cell
      have HLN3 := Lib.hid (HLw.out.later hb3)
      have hlM := (Mp.made wr Tryz.prog 9)
      rw [← hw3, ← hM] at hlM
      have HLM := Lib.hid hlM
      have HM3 := Lib.hid hM3
      have hB3 : Below w0.heap.size w0 w3 := hbw.trans (hb3.mono hbw.size)
      have hBf : ∀ X, BkN.Far w3 X F M → Below w0.heap.size w0 X := fun X hX => hX.below hB3 (by rw [HFE.out];exact Nat.le_refl _) (by rw [hM];exact hbw.size) hB3.size
      have HBF := Lib.hid hBf
      have hs3 : w3.heap.size = M + 1 := by rw [hw3, hM];simp
      have HW3 := Lib.hid hw3;have HMH := Lib.hid hM
      have hFM : F < M := by omega
      clear hM3 hF3 hlM hB3 hBf hw3 hM hb3 HMet HLw hfar hbw hLk hNw hsz
      go_wp2_with (first|fail)
      rw [← HW3.out, ← HMH.out]
      clear c3
      go_loopw [35] (fun i wr => ∃ (k : Nat) (f1 f2 : Int) (L : List Mp.Ent), i = .int .i64 k ∧ k ≤ nz ∧ BkN.Far w3 wr F M ∧ Hid (Box wr F #[.slice pr nr cr, .slice pz nz cz, .slice pl nl cl, xrv, .slice pe nz ce, xlv, .int .i64 f1, .int .i64 f2] 86) ∧ Hid (Mp.Lies wr Tryz.prog 9 M L) ∧ Hid (BkW.Met L ((zs.map ZoneV.name).take k)) ∧ L.length ≤ k ∧ Hid ((f1, f2) = run f (zoneTo rs zs (xe.map RowN.ns) k))) (fun i _ => nz - (intOf i).toNat)
      case atStart => exact ⟨0, _, _, [], rfl, Nat.zero_le _, BkN.Far.refl _ _ _, HF3, HLM, met_nil, Nat.le_refl _, rfl⟩
      case round =>
        clear HF3
        obtain ⟨k, g1, g2, L, rfl, hk, hfar, HF, HLw, HMet, hLk, HS⟩ := hrel
        have hbw := HBF.out _ hfar
        have hsz := hfar.size
        by_cases hlt : k < nz
        · obtain ⟨z, hz⟩ : ∃ z, zs[k]? = some z := ⟨_, List.getElem?_eq_getElem (by rw [← HNZ.out];exact hlt)⟩
          obtain ⟨y, hy⟩ : ∃ y, xe[k]? = some y := ⟨_, List.getElem?_eq_getElem (by rw [HLE.out];exact hlt)⟩
          obtain ⟨b1, o1, rfl, hg1, d1⟩ := HPZ.out k z hz
          have z0 := (hbw.cell (p := ⟨b1, o1 + k * 2 + 0, none⟩) hg1).trans (d1 0 _ rfl)
          have z1 := (hbw.cell (p := ⟨b1, o1 + k * 2 + 1, none⟩) hg1).trans (d1 1 _ rfl)
          rw [Nat.add_zero] at z0
          obtain ⟨b2, o2, rfl, hg2, d2⟩ := HPE.out k y hy
          have y0 := d2 0 _ rfl
          rw [Nat.mul_one, Nat.add_zero] at y0
          have hzf := HZF.out z (List.mem_of_getElem? hz)
          have hyf := HEF.out y (List.mem_of_getElem? hy)
          have hzs := hzf.n
          have hat := fun (j : Nat) (e : EraV) (he : z.es[j]? = some e) => hzf.e.at he
          have hefit := hzf.e.fit
          obtain ⟨pp, cc, hv⟩ := hzf.e.form
          obtain ⟨pq, cq, hv2, hpq⟩ := HoldsG.pkI hyf.h
          have hlen : y.ns.length = z.es.length := HROW.out (z, y.ns) (List.mem_of_getElem? (List.getElem?_zip_eq_some.2 ⟨hz, by rw [List.getElem?_map, hy];rfl⟩))
          rw [hv] at z1
          have cu := fun (X : World) (hX : Below w0.heap.size w0 X) => HCU.out X hX z (List.mem_of_getElem? hz)
          rw [hv] at cu
          rw [hv] at hat
          replace y0 : w0.cell? ⟨b2, o2 + k, none⟩ = some (.slice pq y.ns.length cq) := by rw [y0, hv2]
          rw [hlen] at y0
          obtain ⟨U, hU⟩ : ∃ u, u = Unt.checkU rs z.es := ⟨_, rfl⟩
          rw [← hU] at cu
          obtain ⟨ne, hne⟩ : ∃ n, n = z.es.length := ⟨_, rfl⟩
          rw [← hne] at y0 z1 hlen cu hat
          obtain ⟨U1, U2⟩ := U
          dsimp only at cu
          have hzn : (zs.map ZoneV.name)[k]? = some z.name := by rw [List.getElem?_map, hz];rfl
          have HMETK := HMet;have HM2 := Lib.hid (HMet.out.put z.name)
          rw [show (zs.map ZoneV.name).take k ++ [z.name] = (zs.map ZoneV.name).take (k + 1) by rw [List.take_add_one, hzn];rfl] at HM2
          have hLl2 : L.length < maxLen := by unfold maxLen;omega
          have hpl := Mp.put_len z.name (.bool true) L
          have hnel : ne ≤ 1000 := by rw [hne];exact HEL.out z (List.mem_of_getElem? hz)
          have HZ := Lib.hid hz;have HY := Lib.hid hy;have HPQ := Lib.hid hpq;have HLEN := Lib.hid hlen;have HNE := Lib.hid hne;have HY0 := Lib.hid y0;have HU := Lib.hid hU;have HAT := Lib.hid hat;have CU := Lib.hid cu;have HEFIT := Lib.hid hefit
          have q1 : (k : Int) < (nz : Int) := by omega
          have hFs : F < wr.heap.size := HF.out.lt
          have hFs1 : F < wr.heap.size + 1 := by omega
          have cF := HF.out.cell
          obtain ⟨Z, hZ⟩ : ∃ Z, Z = wr.heap.size := ⟨_, rfl⟩
          have hbz : Below wr.heap.size wr (wr.alloc (.cells #[.string z.name, .slice pp ne cc] 42)) := by repeat (first|(with_reducible exact Below.refl _ _)|(with_reducible assumption)|(with_reducible refine ba ?_)|(with_reducible refine bd ?_)|(with_reducible refine bdn ?_ _)|(with_reducible refine bset ?_ (by first|exact Nat.le_refl _|omega|(simp;done)|(simp;omega)))|(with_reducible refine bt ?_ (by with_reducible assumption)))
          have hZb : Box (wr.alloc (.cells #[.string z.name, .slice pp ne cc] 42)) Z #[.string z.name, .slice pp ne cc] 42 := by rw [hZ];exact Box.new _ _ _
          have HZH := Lib.hid hZ
          have HBZ := Lib.hid hbz;have HZB := Lib.hid hZb
          clear d1 d2 hzf hyf hv hv2 hpq hlen hne hz hy y0 hzn hat cu hU hZ hbz hZb hefit
          go_wp2_with (first|fail)
          (refine region_later (by kernel_rfl) (by kernel_rfl) ?_;(repeat (go_big_quiet_step (first|(go_at_call 19;rename_i xL;apply calls_later xL (Nat.le_refl _);exact (CU.out _ (by have hbx := xL.h;repeat (first|(with_reducible exact Below.refl _ _)|(with_reducible assumption)|(with_reducible refine ba ?_)|(with_reducible refine bd ?_)|(with_reducible refine bdn ?_ _)|(with_reducible refine bset ?_ (by first|exact Nat.le_refl _|omega|(simp;done)|(simp;omega)))|(with_reducible refine bt ?_ (by with_reducible assumption)))))))));refine wpQuiet_nil ?_;rintro uq1 ⟨xU, eU⟩;have huq1 := xU.h;rw [← eU] at huq1;clear eU xU)
          rw [← HZH.out]
          have hu : Below wr.heap.size wr uq1 := HBZ.out.trans (huq1.mono HBZ.out.size)
          have hFu := Lib.hid (HF.out.later hu)
          have hZu := Lib.hid (HZB.out.later huq1)
          have hLu := Lib.hid (HLw.out.later hu)
          have hLNu := Lib.hid ((HLN3.out.same (hfar.block N HLN3.out.lt hNF (fun e => hMN e.symm))).later hu)
          have hfu := far_lat hfar hu
          have hZF : Z ≠ F := by rw [HZH.out];omega
          have hMu : M < uq1.heap.size := hLu.out.lt
          have cZ := hZu.out.cell
          clear huq1 hu cF HLw HMet hfar hbw z0 z1
          go_wp2_with (first|fail)
          clear cZ
          go_loopw [53] (fun i wr => ∃ (i9 : Nat) (f1 f2 : Int), i = .int .i64 i9 ∧ i9 ≤ ne ∧ Solo uq1 wr F ∧ Hid (Box wr F #[.slice pr nr cr, .slice (some ⟨b1, o1, none⟩) nz cz, .slice pl nl cl, xrv, .slice (some ⟨b2, o2, none⟩) nz ce, xlv, .int .i64 f1, .int .i64 f2] 86) ∧ Hid ((f1, f2) = run (g1, g2) ((eraFs rs ((zs.take k).map ZoneV.name) z.name z.es y.ns).take i9))) (fun i _ => ne - (intOf i).toNat)
          case atStart => exact ⟨0, g1, g2, rfl, Nat.zero_le _, BkN.Far.refl _ _ _, hFu, rfl⟩
          case round =>
            obtain ⟨i, f1, f2, rfl, hi, hsolo, HFB, HS2⟩ := hrel
            have hfw := far_solo hfu hsolo
            have hbw := HBF.out _ hfw
            have hZw := hsolo.box hZu.out hZF hZF
            have hLw := solo_lies hLu.out hsolo hMF
            have hLNw := solo_lies hLNu.out hsolo hNF
            by_cases hlt2 : i < ne
            · obtain ⟨e, he⟩ : ∃ e, z.es[i]? = some e := ⟨_, List.getElem?_eq_getElem (by rw [← HNE.out];exact hlt2)⟩
              obtain ⟨q, hq⟩ : ∃ q, y.ns[i]? = some q := ⟨_, List.getElem?_eq_getElem (by rw [HLEN.out];exact hlt2)⟩
              obtain ⟨b3, o3, rfl, hg3, d3⟩ := HPQ.out i q hq
              obtain ⟨b4, o4, c4, e4, hg4, d4⟩ := HAT.out i e he
              cases e4
              replace d4 := fun j u hu => (hbw.cell (p := ⟨b4, o4 + i * 13 + j, none⟩) hg4).trans (d4 j u hu)
              have x0 := d4 0 _ rfl
              have x1 := d4 1 _ rfl
              have x2 := d4 2 _ rfl
              have x3 := d4 3 _ rfl
              have x4 := d4 4 _ rfl
              have x5 := d4 5 _ rfl
              have x6 := d4 6 _ rfl
              have x7 := d4 7 _ rfl
              have x8 := d4 8 _ rfl
              have x9 := d4 9 _ rfl
              have x10 := d4 10 _ rfl
              have x11 := d4 11 _ rfl
              have x12 := d4 12 _ rfl
              rw [Nat.add_zero] at x0
              have y1 := (hbw.cell (p := ⟨b2, o2 + k, none⟩) hg2).trans HY0.out
              have y2 := (hbw.cell (p := ⟨b3, o3 + i, none⟩) hg3).trans d3
              have hes := (HEFIT.out e (List.mem_of_getElem? he)).r
              have hsw : w0.heap.size ≤ wr.heap.size := hbw.size
              have hg2' : b2 < wr.heap.size := by omega
              have hg3' : b3 < wr.heap.size := by omega
              have hFs2 : F < wr.heap.size := HFB.out.lt
              have hZs2 : Z < wr.heap.size := hZw.lt
              have cF := HFB.out.cell
              have cZ := hZw.cell
              have hbe : Below wr.heap.size wr (wr.alloc (.cells #[.int .i64 e.off, .int .i64 e.kind, .int .i64 e.save, .string e.rules, .string e.format, .bool e.u.has, .int .i64 e.u.year, .int .i64 e.u.month, .int .i64 e.u.kind, .int .i64 e.u.week, .int .i64 e.u.day, .int .i64 e.u.sec, .int .i64 e.u.base] 61)) := by repeat (first|(with_reducible exact Below.refl _ _)|(with_reducible assumption)|(with_reducible refine ba ?_)|(with_reducible refine bd ?_)|(with_reducible refine bdn ?_ _)|(with_reducible refine bset ?_ (by first|exact Nat.le_refl _|omega|(simp;done)|(simp;omega)))|(with_reducible refine bt ?_ (by with_reducible assumption)))
              have hsolE : Solo uq1 (wr.alloc (.cells #[.int .i64 e.off, .int .i64 e.kind, .int .i64 e.save, .string e.rules, .string e.format, .bool e.u.has, .int .i64 e.u.year, .int .i64 e.u.month, .int .i64 e.u.kind, .int .i64 e.u.week, .int .i64 e.u.day, .int .i64 e.u.sec, .int .i64 e.u.base] 61)) F := far_lat hsolo hbe
              have HFE2 := Lib.hid (HFB.out.later hbe)
              have hlk1 := (hLw.later hbe).look false BkW.law Tryz.underlying90 (BkW.zero_b _) (s := z.name) (WideMaps.keyOf_string_mk Tryz.underlying9 hzs)
              have hlk2 := (hLNw.later hbe).look false BkW.law Tryz.underlying90 (BkW.zero_b _) (s := e.rules) (WideMaps.keyOf_string_mk Tryz.underlying9 hes)
              rw [HMETK.out] at hlk1
              rw [HM3.out, named_mem] at hlk2
              have hstep := run_take (eraFs_at (l := rs) (done := (zs.take k).map ZoneV.name) (name := z.name) (ns := y.ns) he) (g1, g2)
              rw [show y.ns.getD i 0 = q by rw [List.getD_eq_getElem?_getD, hq];rfl, ← HS2.out] at hstep
              unfold eraF at hstep
              rw [← HU.out] at hstep
              obtain ⟨MB, hMB⟩ : ∃ b, b = RBk.mem z.name ((zs.map ZoneV.name).take k) := ⟨_, rfl⟩
              rw [← hMB] at hlk1
              rw [show (((zs.take k).map ZoneV.name).any fun y => decide (y = z.name)) = MB from by rw [hMB, ← List.map_take];rfl] at hstep
              obtain ⟨NB, hNB⟩ : ∃ b, b = Ck.named rs e.rules := ⟨_, rfl⟩
              rw [← hNB] at hlk2 hstep
              have q2 : (i : Int) < (ne : Int) := by omega
              have HSOL := Lib.hid hsolE
              clear d3 d4 he hq hMB hNB hbe hsolE hsolo hfw hbw hZw hLw hLNw HS2 HFB
              by_cases h0 : i = 0
              · have e0 : ((i : Int) == 0) = true := by simp [h0]
                cases MB with
                | true =>
                  rw [if_pos ⟨h0, rfl⟩] at hstep
                  have HSTEP := Lib.hid hstep
                  simp only [if_true, Option.getD_some] at hlk1
                  clear hstep h0 hlk2
                  go_wp2_with (go_at_call 70;refine (tell (f := (f1, f2)) HFE2.out q 11).mono ?_;rintro e9 w4 ⟨rfl, hF4, hs4⟩)
                  have HF4 := Lib.hid hF4
                  have hs5 := far_solo HSOL.out hs4
                  clear hF4 hs4
                  go_roundw
                  case rel => exact ⟨i + 1, _, _, by go_num, by omega, hs5, HF4, HSTEP.out.symm⟩
                  case measure => simp [intOf];omega
                | false =>
                  rw [if_neg (fun h => absurd h.2 (by decide))] at hstep
                  simp only [Bool.false_eq_true, if_false, Option.getD_none] at hlk1
                  clear h0
                  by_cases h2 : e.kind = 2
                  · have e2 : (e.kind == 2) = true := by simp [h2]
                    cases NB with
                    | false =>
                      rw [if_pos ⟨h2, rfl⟩] at hstep
                      have HSTEP := Lib.hid hstep
                      simp only [Bool.false_eq_true, if_false, Option.getD_none] at hlk2
                      clear hstep h2
                      go_wp2_with (go_at_call 70;refine (tell (f := (f1, f2)) HFE2.out q 12).mono ?_;rintro e9 w4 ⟨rfl, hF4, hs4⟩)
                      have HF4 := Lib.hid hF4
                      have hs5 := far_solo HSOL.out hs4
                      clear hF4 hs4
                      go_roundw
                      case rel => exact ⟨i + 1, _, _, by go_num, by omega, hs5, HF4, HSTEP.out.symm⟩
                      case measure => simp [intOf];omega
                    | true =>
                      rw [if_neg (fun h => absurd h.2 (by decide))] at hstep
                      simp only [if_true, Option.getD_some] at hlk2
                      clear h2
                      by_cases h3 : U1 = i
                      · rw [if_pos h3] at hstep
                        have HSTEP := Lib.hid hstep
                        have e3 : (U1 == (i : Int)) = true := by simp [h3]
                        have e4 : ((i : Int) == U1) = true := by simp [h3]
                        clear hstep h3
                        go_wp2_with (go_at_call 70;refine (tell (f := (f1, f2)) HFE2.out q U2).mono ?_;rintro e9 w4 ⟨rfl, hF4, hs4⟩)
                        have HF4 := Lib.hid hF4
                        have hs5 := far_solo HSOL.out hs4
                        clear hF4 hs4
                        go_roundw
                        case rel => exact ⟨i + 1, _, _, by go_num, by omega, hs5, HF4, HSTEP.out.symm⟩
                        case measure => simp [intOf];omega
                      · rw [if_neg h3, less_ok] at hstep
                        have HSTEP := Lib.hid hstep
                        have e3 : (U1 == (i : Int)) = false := by simp [h3]
                        have e4 : ((i : Int) == U1) = false := by simpa using fun h => h3 h.symm
                        clear hstep h3
                        go_wp2
                        go_roundw
                        case rel => exact ⟨i + 1, f1, f2, by go_num, by omega, HSOL.out, HFE2, HSTEP.out.symm⟩
                        case measure => simp [intOf];omega
                  · have e2 : (e.kind == 2) = false := by simp [h2]
                    rw [if_neg (fun h => h2 h.1)] at hstep
                    clear h2 hlk2
                    by_cases h3 : U1 = i
                    · rw [if_pos h3] at hstep
                      have HSTEP := Lib.hid hstep
                      have e3 : (U1 == (i : Int)) = true := by simp [h3]
                      have e4 : ((i : Int) == U1) = true := by simp [h3]
                      clear hstep h3
                      go_wp2_with (go_at_call 70;refine (tell (f := (f1, f2)) HFE2.out q U2).mono ?_;rintro e9 w4 ⟨rfl, hF4, hs4⟩)
                      have HF4 := Lib.hid hF4
                      have hs5 := far_solo HSOL.out hs4
                      clear hF4 hs4
                      go_roundw
                      case rel => exact ⟨i + 1, _, _, by go_num, by omega, hs5, HF4, HSTEP.out.symm⟩
                      case measure => simp [intOf];omega
                    · rw [if_neg h3, less_ok] at hstep
                      have HSTEP := Lib.hid hstep
                      have e3 : (U1 == (i : Int)) = false := by simp [h3]
                      have e4 : ((i : Int) == U1) = false := by simpa using fun h => h3 h.symm
                      clear hstep h3
                      go_wp2
                      go_roundw
                      case rel => exact ⟨i + 1, f1, f2, by go_num, by omega, HSOL.out, HFE2, HSTEP.out.symm⟩
                      case measure => simp [intOf];omega
              · have e0 : ((i : Int) == 0) = false := by simp;omega
                rw [if_neg (fun h => h0 h.1)] at hstep
                clear h0 hlk1
                by_cases h2 : e.kind = 2
                · have e2 : (e.kind == 2) = true := by simp [h2]
                  cases NB with
                  | false =>
                    rw [if_pos ⟨h2, rfl⟩] at hstep
                    have HSTEP := Lib.hid hstep
                    simp only [Bool.false_eq_true, if_false, Option.getD_none] at hlk2
                    clear hstep h2
                    go_wp2_with (go_at_call 70;refine (tell (f := (f1, f2)) HFE2.out q 12).mono ?_;rintro e9 w4 ⟨rfl, hF4, hs4⟩)
                    have HF4 := Lib.hid hF4
                    have hs5 := far_solo HSOL.out hs4
                    clear hF4 hs4
                    go_roundw
                    case rel => exact ⟨i + 1, _, _, by go_num, by omega, hs5, HF4, HSTEP.out.symm⟩
                    case measure => simp [intOf];omega
                  | true =>
                    rw [if_neg (fun h => absurd h.2 (by decide))] at hstep
                    simp only [if_true, Option.getD_some] at hlk2
                    clear h2
                    by_cases h3 : U1 = i
                    · rw [if_pos h3] at hstep
                      have HSTEP := Lib.hid hstep
                      have e3 : (U1 == (i : Int)) = true := by simp [h3]
                      have e4 : ((i : Int) == U1) = true := by simp [h3]
                      clear hstep h3
                      go_wp2_with (go_at_call 70;refine (tell (f := (f1, f2)) HFE2.out q U2).mono ?_;rintro e9 w4 ⟨rfl, hF4, hs4⟩)
                      have HF4 := Lib.hid hF4
                      have hs5 := far_solo HSOL.out hs4
                      clear hF4 hs4
                      go_roundw
                      case rel => exact ⟨i + 1, _, _, by go_num, by omega, hs5, HF4, HSTEP.out.symm⟩
                      case measure => simp [intOf];omega
                    · rw [if_neg h3, less_ok] at hstep
                      have HSTEP := Lib.hid hstep
                      have e3 : (U1 == (i : Int)) = false := by simp [h3]
                      have e4 : ((i : Int) == U1) = false := by simpa using fun h => h3 h.symm
                      clear hstep h3
                      go_wp2
                      go_roundw
                      case rel => exact ⟨i + 1, f1, f2, by go_num, by omega, HSOL.out, HFE2, HSTEP.out.symm⟩
                      case measure => simp [intOf];omega
                · have e2 : (e.kind == 2) = false := by simp [h2]
                  rw [if_neg (fun h => h2 h.1)] at hstep
                  clear h2 hlk2
                  by_cases h3 : U1 = i
                  · rw [if_pos h3] at hstep
                    have HSTEP := Lib.hid hstep
                    have e3 : (U1 == (i : Int)) = true := by simp [h3]
                    have e4 : ((i : Int) == U1) = true := by simp [h3]
                    clear hstep h3
                    go_wp2_with (go_at_call 70;refine (tell (f := (f1, f2)) HFE2.out q U2).mono ?_;rintro e9 w4 ⟨rfl, hF4, hs4⟩)
                    have HF4 := Lib.hid hF4
                    have hs5 := far_solo HSOL.out hs4
                    clear hF4 hs4
                    go_roundw
                    case rel => exact ⟨i + 1, _, _, by go_num, by omega, hs5, HF4, HSTEP.out.symm⟩
                    case measure => simp [intOf];omega
                  · rw [if_neg h3, less_ok] at hstep
                    have HSTEP := Lib.hid hstep
                    have e3 : (U1 == (i : Int)) = false := by simp [h3]
                    have e4 : ((i : Int) == U1) = false := by simpa using fun h => h3 h.symm
                    clear hstep h3
                    go_wp2
                    go_roundw
                    case rel => exact ⟨i + 1, f1, f2, by go_num, by omega, HSOL.out, HFE2, HSTEP.out.symm⟩
                    case measure => simp [intOf];omega
            · obtain rfl : ne = i := by omega
              have hS2 := HS2.out
              rw [List.take_of_length_le (by rw [eraFs_len, ← HNE.out];exact Nat.le_refl _)] at hS2
              have HS3 : Hid ((f1, f2) = run f (zoneTo rs zs (xe.map RowN.ns) (k + 1))) := by
                rw [zoneTo_succ HZ.out, run_app, ← HS.out, show (xe.map RowN.ns).getD k [] = y.ns by rw [List.getD_eq_getElem?_getD, List.getElem?_map, HY.out];rfl]
                exact hS2
              have HLm := Lib.hid hLw
              have cZ := hZw.cell
              clear hS2 HS2 hLw hLNw hbw
              go_wp2_with (at_mapUpdate;refine Mp.wpList_put _ rfl _ _ _ 90 rfl 9 4 BkW.law Tryz.underlying90 M L rfl HLm.out hLl2 z.name (.bool true) _ rfl rfl (WideMaps.keyOf_string_mk Tryz.underlying9 hzs) ?_;intro w5 hl5 hg5)
              have hfar5 := hfw.grown hg5 (fun r hr => by cases hr;exact .inr (.inl rfl))
              have HF5 := Lib.hid (show Box w5 F _ _ from (hg5.block F HFB.out.lt (by simpa using hMF.symm)).trans HFB.out)
              have HL5 := Lib.hid hl5
              clear hl5 hg5
              go_roundw
              case rel => exact ⟨k + 1, f1, f2, _, by go_num, by omega, hfar5, HF5, HL5, HM2, by omega, HS3⟩
              case measure => simp [intOf];omega
        · obtain rfl : nz = k := by omega
          have hS := HS.out
          rw [HNZ.out, zoneTo_all, ← HR.out] at hS
          have HS9 := Lib.hid hS
          clear hS HS
          go_wp2
          refine Go.Great.bodyPost_end0 rfl rfl ⟨rfl, ?_, ?_⟩
          · rw [← HS9.out];exact HF.out
          · rw [HFE.out];exact hbw
end CkW
end Go.Proofs.YtcfmchpoclkpgaaGreatDoor
