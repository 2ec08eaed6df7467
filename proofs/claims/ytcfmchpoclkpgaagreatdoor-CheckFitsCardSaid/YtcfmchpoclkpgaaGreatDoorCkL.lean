import Derived.Test.YtcfmchpoclkpgaaGreatDoorG23
import Derived.Test.YtcfmchpoclkpgaaGreatDoorBNew
import Derived.Test.YtcfmchpoclkpgaaGreatDoorBTwice
namespace Go.Proofs.YtcfmchpoclkpgaaGreatDoor
open Go.RowKit NB
namespace CkW
open Ck BkW
theorem met_nil : BkW.Met [] [] := fun _s => rfl
theorem box_ne {W : World} {a b : Nat} {c d : Array Value} {s t : TypeId} (h : Box W a c s) (h2 : Box W b d t) (hst : s ≠ t) : a ≠ b := by
  rintro rfl
  have := h.symm.trans h2
  simp only [Option.some.injEq, Obj.cells.injEq] at this
  exact hst this.2.1
theorem map_ne {W : World} {a b : Nat} {d : Array Value} {t k : TypeId} {P : Program} {L : List Mp.Ent} (h : Mp.Lies W P k a L) (h2 : Box W b d t) : a ≠ b := by
  rintro rfl
  obtain ⟨es, clock, hb, _⟩ := h
  have := hb.symm.trans h2
  cases this
theorem far_more {V W : World} {x y : Nat} (h : BkN.Far V W y y) : BkN.Far V W x y := ⟨h.os, h.tape, h.output, h.size, fun k hk _ hy => h.block k hk hy hy⟩
set_option maxRecDepth 100000 in
set_option maxHeartbeats 6400000 in
theorem links {w0 W : World} {t : TabV} {xrv xev xlv : Value} {xl : List Int} {f : Fault} (hB : Below w0.heap.size w0 W) (hF : Box W w0.heap.size #[t.rv, t.zv, t.lv, xrv, xev, xlv, .int .i64 f.1, .int .i64 f.2] 86)
    (h : HoldsT w0 t) (hx : HoldsI w0 xlv xl) (hl : xl.length = t.ls.length) (hzl : t.zs.length ≤ 1000) (hll : t.ls.length ≤ 1000) :
    Calls Tryz.prog 34 #[.pointer (some ⟨w0.heap.size, 0, none⟩)] W fun e w' => e = .returned (.tuple #[]) ∧ Box w' w0.heap.size #[t.rv, t.zv, t.lv, xrv, xev, xlv, .int .i64 (run f (linkFs (t.zs.map ZoneV.name) t.ls xl)).1, .int .i64 (run f (linkFs (t.zs.map ZoneV.name) t.ls xl)).2] 86 ∧ Below w0.heap.size w0 w' := by
  have hmm := @run_makeMap Tryz.prog
  have cnew := BkN.New (h.later hB) hzl hll
  obtain ⟨R, hR⟩ : ∃ r, r = run f (linkFs (t.zs.map ZoneV.name) t.ls xl) := ⟨_, rfl⟩
  rw [← hR]
  have hlf := h.lf;have hzf := h.zf
  unfold RBk.zn at cnew
  obtain ⟨rv, zv, lv, rs, zs, ls⟩ := t
  obtain ⟨pr, cr, e1⟩ := h.r.form
  obtain ⟨pz, cz, e2, hpz⟩ := h.z.pk
  obtain ⟨pl, cl, e3, hpl⟩ := h.l.pk
  dsimp only at e1 e2 e3 hpz hpl hF hl hzl hll hR cnew hlf hzf ⊢
  subst e1 e2 e3
  obtain ⟨px, cx, rfl, hpx⟩ := HoldsG.pkI hx
  obtain ⟨nz, hnz⟩ : ∃ n, n = zs.length := ⟨_, rfl⟩
  obtain ⟨nl, hnl⟩ : ∃ n, n = ls.length := ⟨_, rfl⟩
  rw [hl] at hF ⊢
  rw [← hnz] at hzl hF cnew ⊢
  rw [← hnl] at hll hF cnew ⊢
  generalize rs.length = nr at *
  have HPZ := Lib.hid hpz;have HPL := Lib.hid hpl;have HPX := Lib.hid hpx;have HNZ := Lib.hid hnz;have HNL := Lib.hid hnl;have HL := Lib.hid hl;have HR := Lib.hid hR;have HB := Lib.hid hB;have HLF := Lib.hid hlf;have HZF := Lib.hid hzf
  have HF0 := Lib.hid hF
  have c0 := hF.cell
  have hs := hF.lt
  have hs0 := hB.size
  obtain ⟨F, hFe⟩ : ∃ F, F = w0.heap.size := ⟨_, rfl⟩
  have HFE := Lib.hid hFe
  rw [← hFe] at HF0 c0 hs hs0 ⊢
  clear hpz hpl hpx hnz hnl hl hR hB hlf hzf hx h hF hFe
  go_enter Tryz.func34, Tryz.ntmps34
  go_wp2_with (go_at_call 17;refine cnew.mono ?_;rintro e w1 ⟨p, rfl, hAt, hb1⟩;have hF1 := HF0.out.later hb1;have hsz1 := hb1.size;have c1 := hF1.cell;have hs1 := hF1.lt;have hlM := (Mp.made w1 Tryz.prog 9))
  obtain ⟨w2, hw2⟩ : ∃ w2, w2 = w1.alloc (.map #[] 0) := ⟨_, rfl⟩
  obtain ⟨bz, bn, ab, vs, hp, hbz, hbn, _, _, _⟩ := hAt
  obtain ⟨M, hM⟩ : ∃ M, M = w1.heap.size := ⟨_, rfl⟩
  have hpF := box_ne hp hF1 (by decide)
  have hzF := map_ne hbz hF1
  have hnF := map_ne hbn hF1
  have hpM : p ≠ M := by have := hp.lt;omega
  have hzM : bz ≠ M := by have := hbz.lt;omega
  have hnM : bn ≠ M := by have := hbn.lt;omega
  have hp2 := hp.old (o := .map #[] 0)
  have hbz2 := hbz.old (.map #[] 0)
  have hbn2 := hbn.old (.map #[] 0)
  have hF2 := hF1.old (o := .map #[] 0)
  rw [← hw2] at hp2 hbz2 hbn2 hF2
  have hMF : M ≠ F := by omega
  have hs2 : M < w2.heap.size := by rw [hw2, hM];simp
  have hB2 : Below w0.heap.size w0 w2 := by
    rw [hw2]
    exact (HB.out.trans (hb1.mono HB.out.size)).alloc (Nat.le_trans HB.out.size hsz1) _
  rw [← hw2, ← hM] at hlM
  rw [← hw2, ← hM]
  have hBf : ∀ X, BkN.Far w2 X F M → Below w0.heap.size w0 X := fun X hX => hX.below hB2 (by rw [HFE.out];exact Nat.le_refl _) (by rw [hM];exact Nat.le_trans HB.out.size hsz1) hB2.size
  have HBF := Lib.hid hBf;have HLM := Lib.hid hlM;have HP2 := Lib.hid hp2;have HBZ := Lib.hid hbz2;have HBN := Lib.hid hbn2;have HF2 := Lib.hid hF2
  have hFw : F < w2.heap.size := by omega
  clear hw2 hp hbz hbn hM hB2 hBf hlM hp2 hbz2 hbn2 hF2 hF1 c1 hb1 c0 cnew
  go_loopw [22] (fun i wr => ∃ (k : Nat) (L : List Mp.Ent), i = .int .i64 k ∧ k ≤ nz ∧ BkN.Far w2 wr M M ∧ Hid (Mp.Lies wr Tryz.prog 9 M L) ∧ Hid (BkW.Met L ((zs.map ZoneV.name).take k)) ∧ L.length ≤ k) (fun i _ => nz - (intOf i).toNat)
  case atStart => exact ⟨0, [], rfl, Nat.zero_le _, BkN.Far.refl _ _ _, HLM.out, met_nil, Nat.le_refl _⟩
  case round =>
    obtain ⟨k, L, rfl, hk, hfar, HLw, HMet, hLk⟩ := hrel
    have hbw := HBF.out _ (far_more hfar)
    have hsz := hfar.size
    by_cases hlt : k < nz
    · obtain ⟨z, hz⟩ : ∃ z, zs[k]? = some z := ⟨_, List.getElem?_eq_getElem (by rw [← HNZ.out];exact hlt)⟩
      obtain ⟨g1, o1, rfl, hg1, d1⟩ := HPZ.out k z hz
      have z0 := (hbw.cell (p := ⟨g1, o1 + k * 2 + 0, none⟩) hg1).trans (d1 0 _ rfl)
      have z1 := (hbw.cell (p := ⟨g1, o1 + k * 2 + 1, none⟩) hg1).trans (d1 1 _ rfl)
      rw [Nat.add_zero] at z0
      have hzf := HZF.out z (List.mem_of_getElem? hz)
      have hzs := hzf.n
      obtain ⟨pp, cc, hv⟩ := hzf.e.form
      rw [hv] at z1
      generalize z.es.length = m2 at z1
      have hzn : (zs.map ZoneV.name)[k]? = some z.name := by rw [List.getElem?_map, hz];rfl
      have HM2 := Lib.hid (HMet.out.put z.name)
      rw [show (zs.map ZoneV.name).take k ++ [z.name] = (zs.map ZoneV.name).take (k + 1) by rw [List.take_add_one, hzn];rfl] at HM2
      have hLl2 : L.length < maxLen := by unfold maxLen;omega
      have hpl := Mp.put_len z.name (.bool true) L
      have HLa := Lib.hid (HLw.out.old (.cells #[.string z.name, .slice pp m2 cc] 42))
      have hfa := hfar.grown (World.grownBy_alloc wr (.cells #[.string z.name, .slice pp m2 cc] 42) none) (fun r hr => by cases hr)
      have q1 : (k : Int) < (nz : Int) := by omega
      clear d1 hzf hv hz hzn HLw HMet
      go_wp2_with (at_mapUpdate;refine Mp.wpList_put _ rfl _ _ _ 90 rfl 9 4 BkW.law Tryz.underlying90 M L rfl HLa.out hLl2 z.name (.bool true) _ rfl rfl (WideMaps.keyOf_string_mk Tryz.underlying9 hzs) ?_;intro w5 hl5 hg5)
      have hfar5 := hfa.grown hg5 (fun r hr => by cases hr;exact .inr (.inl rfl))
      have HL5 := Lib.hid hl5
      clear hl5 hg5
      go_roundw
      case rel => exact ⟨k + 1, _, by go_num, by omega, hfar5, HL5, HM2, by omega⟩
      case measure => simp [intOf];omega
    · obtain rfl : nz = k := by omega
      have HF3 := Lib.hid (hfar.box HF2.out (fun e => hMF e.symm) (fun e => hMF e.symm))
      have hM3 := HMet.out
      rw [List.take_of_length_le (by rw [List.length_map, ← HNZ.out];exact Nat.le_refl _)] at hM3
      have HM3 := Lib.hid hM3
      have hfar3 := far_more (x := F) hfar
      have c3 := HF3.out.cell
      clear hM3 HMet hbw hfar
      go_wp2_with (first|fail)
      clear c3
      go_loopw [36] (fun i wr => ∃ (k : Nat) (f1 f2 : Int) (L : List Mp.Ent), i = .int .i64 k ∧ k ≤ nl ∧ BkN.Far w2 wr F M ∧ Hid (Box wr F #[.slice pr nr cr, .slice pz nz cz, .slice pl nl cl, xrv, xev, .slice px nl cx, .int .i64 f1, .int .i64 f2] 86) ∧ Hid (Mp.Lies wr Tryz.prog 9 M L) ∧ Hid (BkW.Met L (zs.map ZoneV.name ++ (ls.take k).map LinkV.name)) ∧ L.length ≤ nz + k ∧ Hid ((f1, f2) = run f ((linkFs (zs.map ZoneV.name) ls xl).take k))) (fun i _ => nl - (intOf i).toNat)
      case atStart => exact ⟨0, _, _, L, rfl, Nat.zero_le _, hfar3, HF3, HLw, by simpa using HM3, by omega, rfl⟩
      case round =>
        clear hfar3 HF3 HLw HM3 hLk hsz
        obtain ⟨k, f1, f2, L, rfl, hk, hfar, HF, HLw, HMet, hLk, HS⟩ := hrel
        have hbw := HBF.out _ hfar
        have hsz := hfar.size
        by_cases hlt : k < nl
        · obtain ⟨x, hx⟩ : ∃ x, ls[k]? = some x := ⟨_, List.getElem?_eq_getElem (by rw [← HNL.out];exact hlt)⟩
          obtain ⟨q, hq⟩ : ∃ q, xl[k]? = some q := ⟨_, List.getElem?_eq_getElem (by rw [HL.out, ← HNL.out];exact hlt)⟩
          obtain ⟨g1, o1, rfl, hg1, d1⟩ := HPL.out k x hx
          obtain ⟨g2, o2, rfl, hg2, d2⟩ := HPX.out k q hq
          have x0 := (hbw.cell (p := ⟨g1, o1 + k * 2 + 0, none⟩) hg1).trans (d1 0 _ rfl)
          have x1 := (hbw.cell (p := ⟨g1, o1 + k * 2 + 1, none⟩) hg1).trans (d1 1 _ rfl)
          rw [Nat.add_zero] at x0
          have y0 := (hbw.cell (p := ⟨g2, o2 + k, none⟩) hg2).trans d2
          have hxs := (HLF.out x (List.mem_of_getElem? hx)).n
          have hsw : w0.heap.size ≤ wr.heap.size := hbw.size
          have hg1' : g1 < wr.heap.size := by omega
          have hg2' : g2 < wr.heap.size := by omega
          have HM2 := Lib.hid (HMet.out.put x.name)
          rw [show zs.map ZoneV.name ++ (ls.take k).map LinkV.name ++ [x.name] = zs.map ZoneV.name ++ (ls.take (k + 1)).map LinkV.name by rw [List.take_add_one, hx, List.map_append, List.append_assoc];rfl] at HM2
          have hLl2 : L.length < maxLen := by unfold maxLen;omega
          have hpl := Mp.put_len x.name (.bool true) L
          have HLa := Lib.hid (HLw.out.old (.cells #[.string x.target, .string x.name] 51))
          have hfa := hfar.grown (World.grownBy_alloc wr (.cells #[.string x.target, .string x.name] 51) none) (fun r hr => by cases hr)
          have hFa := Lib.hid (HF.out.old (o := .cells #[.string x.target, .string x.name] 51))
          have cFa := hFa.out.cell
          have hZ : Box (wr.alloc (.cells #[.string x.target, .string x.name] 51)) wr.heap.size #[.string x.target, .string x.name] 51 := Box.new _ _ _
          have hZF : wr.heap.size ≠ F := by omega
          have hlk := HLa.out.look false BkW.law Tryz.underlying90 (BkW.zero_b _) (s := x.name) (WideMaps.keyOf_string_mk Tryz.underlying9 hxs)
          rw [HMet.out] at hlk
          have hfind := BkW.Find (w := wr.alloc (.cells #[.string x.target, .string x.name] 51)) (p := p) (zs := zs.map ZoneV.name) (ls := ls) ⟨bz, bn, _, (hfar.box HP2.out hpF hpM).old, (HBZ.out.same (hfar.block bz HBZ.out.lt hzF hzM)).old _, (HBN.out.same (hfar.block bn HBN.out.lt hnF hnM)).old _⟩ (by rw [List.length_map, ← HNZ.out];omega) (by rw [← HNL.out];omega) (fun u hu => (HLF.out u hu).t) x.name hxs
          have hstep := run_take (linkFs_at (zs := zs.map ZoneV.name) (ns := xl) hx) f
          rw [show xl.getD k 0 = q by rw [List.getD_eq_getElem?_getD, hq];rfl, ← HS.out] at hstep
          unfold linkF at hstep
          obtain ⟨U, hU⟩ : ∃ u, u = Bk.find (zs.map ZoneV.name) ls x.name := ⟨_, rfl⟩
          rw [← hU] at hfind hstep
          obtain ⟨U1, U2⟩ := U
          unfold RBk.pairV at hfind
          obtain ⟨MB, hMB⟩ : ∃ b, b = RBk.mem x.name (zs.map ZoneV.name ++ (ls.take k).map LinkV.name) := ⟨_, rfl⟩
          rw [← hMB] at hlk
          rw [show ((zs.map ZoneV.name ++ (ls.take k).map LinkV.name).any fun y => decide (y = x.name)) = MB from hMB.symm] at hstep
          have q1 : (k : Int) < (nl : Int) := by omega
          dsimp only at hfind hstep
          clear d1 d2 hx hq hU hMB HLw HMet HS HF hfar hbw
          cases MB with
          | true =>
            rw [if_pos rfl] at hstep
            have HSTEP := Lib.hid hstep
            simp only [if_true, Option.getD_some] at hlk
            clear hstep
            go_wp2_with (first
              | (go_at_call 18;refine hfind.mono ?_;rintro e w' ⟨rfl, rfl⟩)
              | (go_at_call 70;refine (tell (f := (f1, f2)) hFa.out q 11).mono ?_;rintro e w4 ⟨rfl, hF4, hs4⟩;have hZ4 := hs4.box hZ hZF hZF;have cZ4 := hZ4.cell;have hL4 := Lib.hid (solo_lies HLa.out hs4 hMF))
              | (at_mapUpdate;refine Mp.wpList_put _ rfl _ _ _ 90 rfl 9 4 BkW.law Tryz.underlying90 M L rfl hL4.out hLl2 x.name (.bool true) _ rfl rfl (WideMaps.keyOf_string_mk Tryz.underlying9 hxs) ?_;intro w5 hl5 hg5))
            have hfar5 := (far_solo hfa hs4).grown hg5 (fun r hr => by cases hr;exact .inr (.inl rfl))
            have hF5 := Lib.hid (show Box w5 F _ _ from (hg5.block F hF4.lt (by simpa using hMF.symm)).trans hF4)
            have hl5' := Lib.hid hl5
            clear hl5 hg5 hF4 hs4 hZ4 cZ4 hL4 hfa hFa HLa hZ hlk hfind
            go_roundw
            case rel => exact ⟨k + 1, _, _, _, by go_num, by omega, hfar5, hF5, hl5', HM2, by omega, HSTEP.out.symm⟩
            case measure => simp [intOf];omega
          | false =>
            rw [if_neg (by decide)] at hstep
            have HSTEP := Lib.hid hstep
            simp only [Bool.false_eq_true, if_false, Option.getD_none] at hlk
            clear hstep
            go_wp2_with (first
              | (go_at_call 18;refine hfind.mono ?_;rintro e w' ⟨rfl, rfl⟩)
              | (go_at_call 70;refine (tell (f := (f1, f2)) hFa.out q U2).mono ?_;rintro e w4 ⟨rfl, hF4, hs4⟩;have hZ4 := hs4.box hZ hZF hZF;have cZ4 := hZ4.cell;have hL4 := Lib.hid (solo_lies HLa.out hs4 hMF))
              | (at_mapUpdate;refine Mp.wpList_put _ rfl _ _ _ 90 rfl 9 4 BkW.law Tryz.underlying90 M L rfl hL4.out hLl2 x.name (.bool true) _ rfl rfl (WideMaps.keyOf_string_mk Tryz.underlying9 hxs) ?_;intro w5 hl5 hg5))
            have hfar5 := (far_solo hfa hs4).grown hg5 (fun r hr => by cases hr;exact .inr (.inl rfl))
            have hF5 := Lib.hid (show Box w5 F _ _ from (hg5.block F hF4.lt (by simpa using hMF.symm)).trans hF4)
            have hl5' := Lib.hid hl5
            clear hl5 hg5 hF4 hs4 hZ4 cZ4 hL4 hfa hFa HLa hZ hlk hfind
            go_roundw
            case rel => exact ⟨k + 1, _, _, _, by go_num, by omega, hfar5, hF5, hl5', HM2, by omega, HSTEP.out.symm⟩
            case measure => simp [intOf];omega
        · obtain rfl : nl = k := by omega
          have hS := HS.out
          rw [List.take_of_length_le (by rw [linkFs_len, ← HNL.out];exact Nat.le_refl _), ← HR.out] at hS
          have HS9 := Lib.hid hS
          clear hS HS
          go_wp2
          refine Go.Great.bodyPost_end0 rfl rfl ⟨rfl, ?_, ?_⟩
          · rw [← HS9.out];exact HF.out
          · rw [HFE.out];exact hbw
end CkW
end Go.Proofs.YtcfmchpoclkpgaaGreatDoor
