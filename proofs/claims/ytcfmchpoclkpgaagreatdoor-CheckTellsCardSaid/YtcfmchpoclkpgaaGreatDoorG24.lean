import Derived.Test.YtcfmchpoclkpgaaGreatDoorG23
import Derived.Test.YtcfmchpoclkpgaaGreatDoorBNew
import Derived.Test.YtcfmchpoclkpgaaGreatDoorG16
namespace Go.Proofs.YtcfmchpoclkpgaaGreatDoor
open Go.RowKit NB
namespace CkW
open Ck BkW
theorem met_nil : BkW.Met [] [] := fun _s => rfl
theorem box_ne {W : World} {a b : Nat} {c d : Array Value} {s t : TypeId} (h : Box W a c s) (h2 : Box W b d t) (hst : s ≠ t) : a ≠ b := by
  rintro rfl
  have := h.symm.trans h2
  simp only [Option.some.injEq, Obj.cells.injEq] at this
  exact hst this.2.1
theorem map_ne {W : World} {a b : Nat} {d : Array Value} {t k : TypeId} {P : Program} {L : List Mp.Ent} (h : Mp.Lies W P k a L) (h2 : Box W b d t) : a ≠ b := by
  rintro rfl
  obtain ⟨es, clock, hb, _⟩ := h
  have := hb.symm.trans h2
  cases this
theorem far_more {V W : World} {x y : Nat} (h : BkN.Far V W y y) : BkN.Far V W x y := ⟨h.os, h.tape, h.output, h.size, fun k hk _ hy => h.block k hk hy hy⟩
set_option maxRecDepth 100000 in
set_option maxHeartbeats 6400000 in
theorem links {w0 W : World} {t : TabV} {xrv xev xlv : Value} {xl : List Int} {f : Fault} (hB : Below w0.heap.size w0 W) (hF : Box W w0.heap.size #[t.rv, t.zv, t.lv, xrv, xev, xlv, .int .i64 f.1, .int .i64 f.2] 86)
    (h : HoldsT w0 t) (hx : HoldsI w0 xlv xl) (hl : xl.length = t.ls.length) (hzl : t.zs.length ≤ 1000) (hll : t.ls.length ≤ 1000) :
    Calls Tryz.prog 34 #[.pointer (some ⟨w0.heap.size, 0, none⟩)] W fun e w' => e = .returned (.tuple #[]) ∧ Box w' w0.heap.size #[t.rv, t.zv, t.lv, xrv, xev, xlv, .int .i64 (run f (linkFs (t.zs.map ZoneV.name) t.ls xl)).1, .int .i64 (run f (linkFs (t.zs.map ZoneV.name) t.ls xl)).2] 86 ∧ Below w0.heap.size w0 w' := by
  have hmm := @run_makeMap Tryz.prog
  have cnew := BkN.New (h.later hB) hzl hll
  obtain ⟨R, hR⟩ : ∃ r, r = run f (linkFs (t.zs.map ZoneV.name) t.ls xl) := ⟨_, rfl⟩
  rw [← hR]
  have hlf := h.lf;have hzf := h.zf
  unfold RBk.zn at cnew
  obtain ⟨rv, zv, lv, rs, zs, ls⟩ := t
  obtain ⟨pr, cr, e1⟩ := h.r.form
  obtain ⟨pz, cz, e2, hpz⟩ := h.z.pk
  obtain ⟨pl, cl, e3, hpl⟩ := h.l.pk
  dsimp only at e1 e2 e3 hpz hpl hF hl hzl hll hR cnew hlf hzf ⊢
  subst e1 e2 e3
  obtain ⟨px, cx, rfl, hpx⟩ := HoldsG.pkI hx
  obtain ⟨nz, hnz⟩ : ∃ n, n = zs.length := ⟨_, rfl⟩
  obtain ⟨nl, hnl⟩ : ∃ n, n = ls.length := ⟨_, rfl⟩
  rw [hl] at hF ⊢
  rw [← hnz] at hzl hF cnew ⊢
  rw [← hnl] at hll hF cnew ⊢
  generalize rs.length = nr at *
  have HPZ := Lib.hid hpz;have HPL := Lib.hid hpl;have HPX := Lib.hid hpx;have HNZ := Lib.hid hnz;have HNL := Lib.hid hnl;have HL := Lib.hid hl;have HR := Lib.hid hR;have HB := Lib.hid hB;have HLF := Lib.hid hlf;have HZF := Lib.hid hzf
  have HF0 := Lib.hid hF
  have c0 := hF.cell
  have hs := hF.lt
  have hs0 := hB.size
  obtain ⟨F, hFe⟩ : ∃ F, F = w0.heap.size := ⟨_, rfl⟩
  have HFE := Lib.hid hFe
  rw [← hFe] at HF0 c0 hs hs0 ⊢
  clear hpz hpl hpx hnz hnl hl hR hB hlf hzf hx h hF hFe
  go_enter Tryz.func34, Tryz.ntmps34
  go_wp2_with (go_at_call 17;refine cnew.mono ?_;rintro e w1 ⟨p, rfl, hAt, hb1⟩;have hF1 := HF0.out.later hb1;have hsz1 := hb1.size;have c1 := hF1.cell;have hs1 := hF1.lt;have hlM := (Mp.made w1 Tryz.prog 9))
  obtain ⟨w2, hw2⟩ : ∃ w2, w2 = w1.alloc (.map #[] 0) := ⟨_, rfl⟩
  obtain ⟨bz, bn, ab, vs, hp, hbz, hbn, _, _, _⟩ := hAt
  obtain ⟨M, hM⟩ : ∃ M, M = w1.heap.size := ⟨_, rfl⟩
  have hpF := box_ne hp hF1 (by decide)
  have hzF := map_ne hbz hF1
  have hnF := map_ne hbn hF1
  have hpM : p ≠ M := by have := hp.lt;omega
  have hzM : bz ≠ M := by have := hbz.lt;omega
  have hnM : bn ≠ M := by have := hbn.lt;omega
  have hp2 := hp.old (o := .map #[] 0)
  have hbz2 := hbz.old (.map #[] 0)
  have hbn2 := hbn.old (.map #[] 0)
  have hF2 := hF1.old (o := .map #[] 0)
  rw [← hw2] at hp2 hbz2 hbn2 hF2
  have hMF : M ≠ F := by omega
  have hs2 : M < w2.heap.size := by rw [hw2, hM];simp
  have hB2 : Below w0.heap.size w0 w2 := by
    rw [hw2]
    exact (HB.out.trans (hb1.mono HB.out.size)).alloc (Nat.le_trans HB.out.size hsz1) _
  rw [← hw2, ← hM] at hlM
  rw [← hw2, ← hM]
  have hBf : ∀ X, BkN.Far w2 X F M → Below w0.heap.size w0 X := fun X hX => hX.below hB2 (by rw [HFE.out];exact Nat.le_refl _) (by rw [hM];exact Nat.le_trans HB.out.size hsz1) hB2.size
  have HBF := Lib.hid hBf;have HLM := Lib.hid hlM;have HP2 := Lib.hid hp2;have HBZ := Lib.hid hbz2;have HBN := Lib.hid hbn2;have HF2 := Lib.hid hF2
  have hFw : F < w2.heap.size := by omega
  clear hw2 hp hbz hbn hM hB2 hBf hlM hp2 hbz2 hbn2 hF2 hF1 c1 hb1 c0 cnew
  go_loopw [22] (fun i wr => ∃ (k : Nat) (L : List Mp.Ent), i = .int .i64 k ∧ k ≤ nz ∧ BkN.Far w2 wr M M ∧ Hid (Mp.Lies wr Tryz.prog 9 M L) ∧ Hid (BkW.Met L ((zs.map ZoneV.name).take k)) ∧ L.length ≤ k) (fun i _ => nz - (intOf i).toNat)
  case atStart => exact ⟨0, [], rfl, Nat.zero_le _, BkN.Far.refl _ _ _, HLM.out, met_nil, Nat.le_refl _⟩
  case round =>
    obtain ⟨k, L, rfl, hk, hfar, HLw, HMet, hLk⟩ := hrel
    have hbw := HBF.out _ (far_more hfar)
    have hsz := hfar.size
    by_cases hlt : k < nz
    · obtain ⟨z, hz⟩ : ∃ z, zs[k]? = some z := ⟨_, List.getElem?_eq_getElem (by rw [← HNZ.out];exact hlt)⟩
      obtain ⟨g1, o1, rfl, hg1, d1⟩ := HPZ.out k z hz
      have z0 := (hbw.cell (p := ⟨g1, o1 + k * 2 + 0, none⟩) hg1).trans (d1 0 _ rfl)
      have z1 := (hbw.cell (p := ⟨g1, o1 + k * 2 + 1, none⟩) hg1).trans (d1 1 _ rfl)
      rw [Nat.add_zero] at z0
      have hzf := HZF.out z (List.mem_of_getElem? hz)
      have hzs := hzf.n
      obtain ⟨pp, cc, hv⟩ := hzf.e.form
      rw [hv] at z1
      generalize z.es.length = m2 at z1
      have hzn : (zs.map ZoneV.name)[k]? = some z.name := by rw [List.getElem?_map, hz];rfl
      have HM2 := Lib.hid (HMet.out.put z.name)
      rw [show (zs.map ZoneV.name).take k ++ [z.name] = (zs.map ZoneV.name).take (k + 1) by rw [List.take_add_one, hzn];rfl] at HM2
      have hLl2 : L.length < maxLen := by unfold maxLen;omega
      have hpl := Mp.put_len z.name (.bool true) L
      have HLa := Lib.hid (HLw.out.old (.cells #[.string z.name, .slice pp m2 cc] 42))
      have hfa := hfar.grown (World.grownBy_alloc wr (.cells #[.string z.name, .slice pp m2 cc] 42) none) (fun r hr => by cases hr)
      have q1 : (k : Int) < (nz : Int) := by omega
      clear d1 hzf hv hz hzn HLw HMet
      go_wp2_with (at_mapUpdate;refine Mp.wpList_put _ rfl _ _ _ 90 rfl 9 4 BkW.law Tryz.underlying90 M L rfl HLa.out hLl2 z.name (.bool true) _ rfl rfl (WideMaps.keyOf_string_mk Tryz.underlying9 hzs) ?_;intro w5 hl5 hg5)
      have hfar5 := hfa.grown hg5 (fun r hr => by cases hr;exact .inr (.inl rfl))
      have HL5 := Lib.hid hl5
      clear hl5 hg5
      go_roundw
      case rel => exact ⟨k + 1, _, by go_num, by omega, hfar5, HL5, HM2, by omega⟩
      case measure => simp [intOf];omega
    · obtain rfl : nz = k := by omega
      have HF3 := Lib.hid (hfar.box HF2.out (fun e => hMF e.symm) (fun e => hMF e.symm))
      have hM3 := HMet.out
      rw [List.take_of_length_le (by rw [List.length_map, ← HNZ.out];exact Nat.le_refl _)] at hM3
      have HM3 := Lib.hid hM3
      have hfar3 := far_more (x := F) hfar
      have c3 := HF3.out.cell
      clear hM3 HMet hbw hfar
      go_wp2_with (first|fail)
      clear c3
      go_loopw [36] (fun i wr => ∃ (k : Nat) (f1 f2 : Int) (L : List Mp.Ent), i = .int .i64 k ∧ k ≤ nl ∧ BkN.Far w2 wr F M ∧ Hid (Box wr F #[.slice pr nr cr, .slice pz nz cz, .slice pl nl cl, xrv, xev, .slice px nl cx, .int .i64 f1, .int .i64 f2] 86) ∧ Hid (Mp.Lies wr Tryz.prog 9 M L) ∧ Hid (BkW.Met L (zs.map ZoneV.name ++ (ls.take k).map LinkV.name)) ∧ L.length ≤ nz + k ∧ Hid ((f1, f2) = run f ((linkFs (zs.map ZoneV.name) ls xl).take k))) (fun i _ => nl - (intOf i).toNat)
      case atStart => exact ⟨0, _, _, L, rfl, Nat.zero_le _, hfar3, HF3, HLw, by simpa using HM3, by omega, rfl⟩
      case round =>
        clear hfar3 HF3 HLw HM3 hLk hsz
        obtain ⟨k, f1, f2, L, rfl, hk, hfar, HF, HLw, HMet, hLk, HS⟩ := hrel
        have hbw := HBF.out _ hfar
        have hsz := hfar.size
        by_cases hlt : k < nl
        · obtain ⟨x, hx⟩ : ∃ x, ls[k]? = some x := ⟨_, List.getElem?_eq_getElem (by rw [← HNL.out];exact hlt)⟩
          obtain ⟨q, hq⟩ : ∃ q, xl[k]? = some q := ⟨_, List.getElem?_eq_getElem (by rw [HL.out, ← HNL.out];exact hlt)⟩
          obtain ⟨g1, o1, rfl, hg1, d1⟩ := HPL.out k x hx
          obtain ⟨g2, o2, rfl, hg2, d2⟩ := HPX.out k q hq
          have x0 := (hbw.cell (p := ⟨g1, o1 + k * 2 + 0, none⟩) hg1).trans (d1 0 _ rfl)
          have x1 := (hbw.cell (p := ⟨g1, o1 + k * 2 + 1, none⟩) hg1).trans (d1 1 _ rfl)
          rw [Nat.add_zero] at x0
          have y0 := (hbw.cell (p := ⟨g2, o2 + k, none⟩) hg2).trans d2
          have hxs := (HLF.out x (List.mem_of_getElem? hx)).n
          have hsw : w0.heap.size ≤ wr.heap.size := hbw.size
          have hg1' : g1 < wr.heap.size := by omega
          have hg2' : g2 < wr.heap.size := by omega
          have HM2 := Lib.hid (HMet.out.put x.name)
          rw [show zs.map ZoneV.name ++ (ls.take k).map LinkV.name ++ [x.name] = zs.map ZoneV.name ++ (ls.take (k + 1)).map LinkV.name by rw [List.take_add_one, hx, List.map_append, List.append_assoc];rfl] at HM2
          have hLl2 : L.length < maxLen := by unfold maxLen;omega
          have hpl := Mp.put_len x.name (.bool true) L
          have HLa := Lib.hid (HLw.out.old (.cells #[.string x.target, .string x.name] 51))
          have hfa := hfar.grown (World.grownBy_alloc wr (.cells #[.string x.target, .string x.name] 51) none) (fun r hr => by cases hr)
          have hFa := Lib.hid (HF.out.old (o := .cells #[.string x.target, .string x.name] 51))
          have cFa := hFa.out.cell
          have hZ : Box (wr.alloc (.cells #[.string x.target, .string x.name] 51)) wr.heap.size #[.string x.target, .string x.name] 51 := Box.new _ _ _
          have hZF : wr.heap.size ≠ F := by omega
          have hlk := HLa.out.look false BkW.law Tryz.underlying90 (BkW.zero_b _) (s := x.name) (WideMaps.keyOf_string_mk Tryz.underlying9 hxs)
          rw [HMet.out] at hlk
          have hfind := BkW.Find (w := wr.alloc (.cells #[.string x.target, .string x.name] 51)) (p := p) (zs := zs.map ZoneV.name) (ls := ls) ⟨bz, bn, _, (hfar.box HP2.out hpF hpM).old, (HBZ.out.same (hfar.block bz HBZ.out.lt hzF hzM)).old _, (HBN.out.same (hfar.block bn HBN.out.lt hnF hnM)).old _⟩ (by rw [List.length_map, ← HNZ.out];omega) (by rw [← HNL.out];omega) (fun u hu => (HLF.out u hu).t) x.name hxs
          have hstep := run_take (linkFs_at (zs := zs.map ZoneV.name) (ns := xl) hx) f
          rw [show xl.getD k 0 = q by rw [List.getD_eq_getElem?_getD, hq];rfl, ← HS.out] at hstep
          unfold linkF at hstep
          obtain ⟨U, hU⟩ : ∃ u, u = Bk.find (zs.map ZoneV.name) ls x.name := ⟨_, rfl⟩
          rw [← hU] at hfind hstep
          obtain ⟨U1, U2⟩ := U
          unfold RBk.pairV at hfind
          obtain ⟨MB, hMB⟩ : ∃ b, b = RBk.mem x.name (zs.map ZoneV.name ++ (ls.take k).map LinkV.name) := ⟨_, rfl⟩
          rw [← hMB] at hlk
          rw [show ((zs.map ZoneV.name ++ (ls.take k).map LinkV.name).any fun y => decide (y = x.name)) = MB from hMB.symm] at hstep
          have q1 : (k : Int) < (nl : Int) := by omega
          dsimp only at hfind hstep
          clear d1 d2 hx hq hU hMB HLw HMet HS HF hfar hbw
          cases MB with
          | true =>
            rw [if_pos rfl] at hstep
            have HSTEP := Lib.hid hstep
            simp only [if_true, Option.getD_some] at hlk
            clear hstep
            go_wp2_with (first
              | (go_at_call 18;refine hfind.mono ?_;rintro e w' ⟨rfl, rfl⟩)
              | (go_at_call 70;refine (tell (f := (f1, f2)) hFa.out q 11).mono ?_;rintro e w4 ⟨rfl, hF4, hs4⟩;have hZ4 := hs4.box hZ hZF hZF;have cZ4 := hZ4.cell;have hL4 := Lib.hid (solo_lies HLa.out hs4 hMF))
              | (at_mapUpdate;refine Mp.wpList_put _ rfl _ _ _ 90 rfl 9 4 BkW.law Tryz.underlying90 M L rfl hL4.out hLl2 x.name (.bool true) _ rfl rfl (WideMaps.keyOf_string_mk Tryz.underlying9 hxs) ?_;intro w5 hl5 hg5))
            have hfar5 := (far_solo hfa hs4).grown hg5 (fun r hr => by cases hr;exact .inr (.inl rfl))
            have hF5 := Lib.hid (show Box w5 F _ _ from (hg5.block F hF4.lt (by simpa using hMF.symm)).trans hF4)
            have hl5' := Lib.hid hl5
            clear hl5 hg5 hF4 hs4 hZ4 cZ4 hL4 hfa hFa HLa hZ hlk hfind
            go_roundw
            case rel => exact ⟨k + 1, _, _, _, by go_num, by omega, hfar5, hF5, hl5', HM2, by omega, HSTEP.out.symm⟩
            case measure => simp [intOf];omega
          | false =>
            rw [if_neg (by decide)] at hstep
            have HSTEP := Lib.hid hstep
            simp only [Bool.false_eq_true, if_false, Option.getD_none] at hlk
            clear hstep
            go_wp2_with (first
              | (go_at_call 18;refine hfind.mono ?_;rintro e w' ⟨rfl, rfl⟩)
              | (go_at_call 70;refine (tell (f := (f1, f2)) hFa.out q U2).mono ?_;rintro e w4 ⟨rfl, hF4, hs4⟩;have hZ4 := hs4.box hZ hZF hZF;have cZ4 := hZ4.cell;have hL4 := Lib.hid (solo_lies HLa.out hs4 hMF))
              | (at_mapUpdate;refine Mp.wpList_put _ rfl _ _ _ 90 rfl 9 4 BkW.law Tryz.underlying90 M L rfl hL4.out hLl2 x.name (.bool true) _ rfl rfl (WideMaps.keyOf_string_mk Tryz.underlying9 hxs) ?_;intro w5 hl5 hg5))
            have hfar5 := (far_solo hfa hs4).grown hg5 (fun r hr => by cases hr;exact .inr (.inl rfl))
            have hF5 := Lib.hid (show Box w5 F _ _ from (hg5.block F hF4.lt (by simpa using hMF.symm)).trans hF4)
            have hl5' := Lib.hid hl5
            clear hl5 hg5 hF4 hs4 hZ4 cZ4 hL4 hfa hFa HLa hZ hlk hfind
            go_roundw
            case rel => exact ⟨k + 1, _, _, _, by go_num, by omega, hfar5, hF5, hl5', HM2, by omega, HSTEP.out.symm⟩
            case measure => simp [intOf];omega
        · obtain rfl : nl = k := by omega
          have hS := HS.out
          rw [List.take_of_length_le (by rw [linkFs_len, ← HNL.out];exact Nat.le_refl _), ← HR.out] at hS
          have HS9 := Lib.hid hS
          clear hS HS
          go_wp2
          refine Go.Great.bodyPost_end0 rfl rfl ⟨rfl, ?_, ?_⟩
          · rw [← HS9.out];exact HF.out
          · rw [HFE.out];exact hbw
end CkW
end Go.Proofs.YtcfmchpoclkpgaaGreatDoor
namespace Go.Proofs.YtcfmchpoclkpgaaGreatDoor
open Go.RowKit NB Nxt
namespace Unt
set_option maxRecDepth 100000 in
set_option maxHeartbeats 6400000 in
theorem near {w : World} {v : Value} {l : List RuleV} (h : Holds w v l) (e : EraV) (hR : Er.rightB e = true) (a b : Int) (hb0 : -4000000000000 ≤ b) (hb1 : b ≤ 4000000000000) :
    Calls Tryz.prog 47 #[v, .agg e.cells.toArray, .int .i64 a, .int .i64 b] w fun x w' => x = .returned (.bool (nearB l e a b)) ∧ Below w.heap.size w w' := by
  by_cases hk : e.kind = 2
  case neg =>
    rw [near_false (fun h => hk h.1)]
    obtain ⟨q, cap, rfl⟩ := h.form
    unfold EraV.cells
    generalize l.length = n at *
    go_enter Tryz.func47, Tryz.ntmps47
    go_wp2
    go_ret
    exact ⟨rfl, by repeat (first|(with_reducible exact Below.refl _ _)|(with_reducible assumption)|(with_reducible refine ba ?_)|(with_reducible refine bd ?_)|(with_reducible refine bdn ?_ _)|(with_reducible refine bset ?_ (by first|exact Nat.le_refl _|omega|(simp;done)|(simp;omega)))|(with_reducible refine bt ?_ (by with_reducible assumption)))⟩
  have hm : Chn.may e.off = true := Chn.may_iff.2 (right_spec hR).1
  have ca := fun W (h : Holds W v l) => ChW.After h e.rules e.off a
  have ci := fun W (h : Holds W v l) (o : OccV) => ChW.Instant h e.rules e.off o
  have cn := fun W (h : Holds W v l) (o : OccV) => NxH.Next h e.rules o
  have hie := fun (o : OccV) (ho : Occ.All l e.rules l.length o) => Chn.instE_all hm ho
  have hib := fun (o : OccV) => Chn.inst_bd (l := l) (name := e.rules) hm o
  have har := fun (o : OccV) (ho : Occ.All l e.rules l.length o) => Chn.all_range ho
  have hst0 := still0 (l := l) (name := e.rules) (a := a) (b := b) hm
  have hal0 := fun (o : OccV) (ho : Chn.afterO l e.rules e.off a = some o) => after_all hm ho
  have hnx := fun (o : OccV) (hs : Still l e.rules e.off a b (some o)) hn => still_next hs hn
  have hfr := fun (o : OccV) (hs : Still l e.rules e.off a b (some o)) hn hf => near_false (l := l) (e := e) (fun h => still_far hm hs hn hf h.2)
  have hno := fun (hs : Still l e.rules e.off a b none) => near_false (l := l) (e := e) (fun h => still_none hs h.2)
  have hye := fun (o : OccV) (ho : Occ.All l e.rules l.length o) h1 h2 => near_true (l := l) (e := e) (a := a) (b := b) ⟨hk, o, ho, h1, h2⟩
  have hnl := fun (o q : OccV) (hq : Occ.nextO l e.rules o = some q) => (Occ.next_all hq).1
  generalize nearB l e a b = nb at *
  obtain ⟨off, kind, save, rules, format, u⟩ := e
  simp only at *
  subst hk
  generalize Chn.afterO l rules off a = c0 at *
  obtain ⟨i0, y0, k0, eV, eC⟩ := All.opt_parts c0
  obtain ⟨g0, hg0⟩ : ∃ g, g = c0.isSome := ⟨_, rfl⟩
  rw [eV, ← hg0] at ca
  obtain ⟨q, cap, rfl⟩ := h.form
  unfold OccV.cells at *
  unfold EraV.cells
  simp only at *
  have HH := Lib.hid h
  have Ca := Lib.hid ca
  have Ci := Lib.hid ci
  have Cn := Lib.hid cn
  have Hie := Lib.hid hie
  have Hib := Lib.hid hib
  have Har := Lib.hid har
  have Hst0 := Lib.hid hst0
  have Hal0 := Lib.hid hal0
  have Hnx := Lib.hid hnx
  have Hfr := Lib.hid hfr
  have Hno := Lib.hid hno
  have Hye := Lib.hid hye
  have Hnl := Lib.hid hnl
  have Ec := Lib.hid eC
  have Hg := Lib.hid hg0
  clear h ca ci cn hie hib har hst0 hal0 hnx hfr hno hye hnl eC hg0 eV hR hm
  generalize l.length = n at *
  go_enter Tryz.func47, Tryz.ntmps47
  go_wp2_with (first
    | (go_at_call 82;(with_reducible refine (Ca.out _ ?_).mono ?_);(· exact HH.out.later (by repeat (first|(with_reducible exact Below.refl _ _)|(with_reducible assumption)|(with_reducible refine ba ?_)|(with_reducible refine bd ?_)|(with_reducible refine bdn ?_ _)|(with_reducible refine bset ?_ (by first|exact Nat.le_refl _|omega|(simp;done)|(simp;omega)))|(with_reducible refine bt ?_ (by with_reducible assumption)))));rintro e w1 ⟨rfl, hb1⟩;obtain ⟨hc1, hf1⟩ := bcell hb1;have hc1_0 := fun o => hc1 (w.heap.size) o (by first|assumption|omega|(simp;done)|(simp;omega));have hf1_0 := fun o => hf1 (w.heap.size) o (by first|assumption|omega|(simp;done)|(simp;omega));clear hc1 hf1;have hz1_0 : w.heap.size < w1.heap.size := (by first|exact sz1 hb1|exact sz2 hb1|exact sz3 hb1|(have := hb1.size;(try simp only [World.size_alloc, World.size_drew] at this);omega))))
  obtain ⟨B, hB⟩ : ∃ B, B = w1.heap.size := ⟨_, rfl⟩
  obtain ⟨V, hV⟩ : ∃ V, V = w1.alloc (.cells #[.int .i64 i0, .int .i64 y0, .int .i64 k0] 149) := ⟨_, rfl⟩
  have hBV : Below w.heap.size w V := by rw [hV];repeat (first|(with_reducible exact Below.refl _ _)|(with_reducible assumption)|(with_reducible refine ba ?_)|(with_reducible refine bd ?_)|(with_reducible refine bdn ?_ _)|(with_reducible refine bset ?_ (by first|exact Nat.le_refl _|omega|(simp;done)|(simp;omega)))|(with_reducible refine bt ?_ (by with_reducible assumption)))
  have hwB : w.heap.size < B := by omega
  have kB : Box V B #[.int .i64 i0, .int .i64 y0, .int .i64 k0] 149 := by rw [hV, hB];exact Box.new _ _ _
  have kR : Box V w.heap.size #[.int .i64 off, .int .i64 2, .int .i64 save, .string rules, .string format, .bool u.has, .int .i64 u.year, .int .i64 u.month, .int .i64 u.kind, .int .i64 u.week, .int .i64 u.day, .int .i64 u.sec, .int .i64 u.base] 61 := by rw [hV];exact ((Box.new w _ _).later hb1).old
  rw [← hB, ← hV]
  clear hc1_0 hf1_0 hz1_0 hB hV hb1
  go_loopw [10] (fun m wr => ∃ c : Option OccV, m = .bool c.isSome ∧ Still l rules off a b c ∧ (∀ o, c = some o → Occ.All l rules n o) ∧ Box wr B (All.optC c) 149 ∧ Box wr w.heap.size #[.int .i64 off, .int .i64 2, .int .i64 save, .string rules, .string format, .bool u.has, .int .i64 u.year, .int .i64 u.month, .int .i64 u.kind, .int .i64 u.week, .int .i64 u.day, .int .i64 u.sec, .int .i64 u.base] 61 ∧ Below w.heap.size w wr) (fun m wr => All.meas (Occ.nextO l rules) B m wr)
  case atStart => exact ⟨c0, by rw [Hg.out], Hst0.out, Hal0.out, by rw [Ec.out];exact kB, kR, hBV⟩
  case round =>
    clear kB kR hBV
    obtain ⟨c, rfl, hst, hal, hbx, hbr, hbel⟩ := hrel
    have r0 := hbr.cell
    have u0 := hbr.lt
    have u1 := hbx.lt
    have Hbel := Lib.hid hbel
    have Hbr := Lib.hid hbr
    have Hst := Lib.hid hst
    clear hbel hbr hst
    cases c with
    | none =>
      have hr := Lib.hid (Hno.out Hst.out)
      clear hbx hal
      go_wp2
      go_ret
      exact ⟨congrArg (fun v => Ending.returned (Value.bool v)) hr.out.symm, Hbel.out⟩
    | some o =>
      have ho := hal o rfl
      have hbx2 : Box wr B #[.int .i64 o.rule, .int .i64 o.year, .int .i64 o.nom] 149 := hbx
      have b0 := hbx2.cell
      have ci1 := fun W h => Ci.out W h o
      rw [Hie.out o ho] at ci1
      have ib := Hib.out o
      have ar := Har.out o ho
      have hye := Hye.out o ho
      have hnx := Hnx.out o Hst.out
      have hfr := Hfr.out o Hst.out
      generalize Chn.inst l rules off o = x at *
      simp only at ci1
      have Ci1 := Lib.hid ci1
      have Hbx := Lib.hid hbx2
      have Hho := Lib.hid ho
      clear ci1 hal hbx hbx2 ho
      by_cases hx : a < x ∧ x < b
      · have hr := Lib.hid (hye hx.1 hx.2)
        obtain ⟨hx1, hx2⟩ := hx
        clear hye hnx hfr
        go_wp2_with (first
          | (go_at_call 83;(with_reducible refine (Ci1.out _ ?_).mono ?_);(· exact HH.out.later (bt Hbel.out (by repeat (first|(with_reducible exact Below.refl _ _)|(with_reducible assumption)|(with_reducible refine ba ?_)|(with_reducible refine bd ?_)|(with_reducible refine bdn ?_ _)|(with_reducible refine bset ?_ (by first|exact Nat.le_refl _|omega|(simp;done)|(simp;omega)))|(with_reducible refine bt ?_ (by with_reducible assumption))))));rintro e w2 ⟨rfl, hb2⟩;obtain ⟨hc2, hf2⟩ := bcell hb2;have hc2_0 := fun o => hc2 (w.heap.size) o (by first|assumption|omega|(simp;done)|(simp;omega));have hf2_0 := fun o => hf2 (w.heap.size) o (by first|assumption|omega|(simp;done)|(simp;omega));have hc2_1 := fun o => hc2 (B) o (by first|assumption|omega|(simp;done)|(simp;omega));have hf2_1 := fun o => hf2 (B) o (by first|assumption|omega|(simp;done)|(simp;omega));clear hc2 hf2;have hz2_0 : w.heap.size < w2.heap.size := (by first|exact sz1 hb2|exact sz2 hb2|exact sz3 hb2|(have := hb2.size;(try simp only [World.size_alloc, World.size_drew] at this);omega));have hz2_1 : B < w2.heap.size := (by first|exact sz1 hb2|exact sz2 hb2|exact sz3 hb2|(have := hb2.size;(try simp only [World.size_alloc, World.size_drew] at this);omega))))
        have hbel := Hbel.out
        go_ret
        exact ⟨congrArg (fun v => Ending.returned (Value.bool v)) hr.out.symm, by repeat (first|(with_reducible exact Below.refl _ _)|(with_reducible assumption)|(with_reducible refine ba ?_)|(with_reducible refine bd ?_)|(with_reducible refine bdn ?_ _)|(with_reducible refine bset ?_ (by first|exact Nat.le_refl _|omega|(simp;done)|(simp;omega)))|(with_reducible refine bt ?_ (by with_reducible assumption)))⟩
      · by_cases hf : b + 64800 < o.nom
        · have hr := Lib.hid (hfr hx hf)
          clear hye hnx hfr
          have hf2 : b + 54000 + 10800 < o.nom := by omega
          rcases (by omega : x ≤ a ∨ (a < x ∧ b ≤ x)) with hx|⟨hx1, hx2⟩
          all_goals
            go_wp2_with (first
              | (go_at_call 83;(with_reducible refine (Ci1.out _ ?_).mono ?_);(· exact HH.out.later (bt Hbel.out (by repeat (first|(with_reducible exact Below.refl _ _)|(with_reducible assumption)|(with_reducible refine ba ?_)|(with_reducible refine bd ?_)|(with_reducible refine bdn ?_ _)|(with_reducible refine bset ?_ (by first|exact Nat.le_refl _|omega|(simp;done)|(simp;omega)))|(with_reducible refine bt ?_ (by with_reducible assumption))))));rintro e w2 ⟨rfl, hb2⟩;obtain ⟨hc2, hf2⟩ := bcell hb2;have hc2_0 := fun o => hc2 (w.heap.size) o (by first|assumption|omega|(simp;done)|(simp;omega));have hf2_0 := fun o => hf2 (w.heap.size) o (by first|assumption|omega|(simp;done)|(simp;omega));have hc2_1 := fun o => hc2 (B) o (by first|assumption|omega|(simp;done)|(simp;omega));have hf2_1 := fun o => hf2 (B) o (by first|assumption|omega|(simp;done)|(simp;omega));clear hc2 hf2;have hz2_0 : w.heap.size < w2.heap.size := (by first|exact sz1 hb2|exact sz2 hb2|exact sz3 hb2|(have := hb2.size;(try simp only [World.size_alloc, World.size_drew] at this);omega));have hz2_1 : B < w2.heap.size := (by first|exact sz1 hb2|exact sz2 hb2|exact sz3 hb2|(have := hb2.size;(try simp only [World.size_alloc, World.size_drew] at this);omega))))
            have hbel := Hbel.out
            go_ret
            exact ⟨congrArg (fun v => Ending.returned (Value.bool v)) hr.out.symm, by repeat (first|(with_reducible exact Below.refl _ _)|(with_reducible assumption)|(with_reducible refine ba ?_)|(with_reducible refine bd ?_)|(with_reducible refine bdn ?_ _)|(with_reducible refine bset ?_ (by first|exact Nat.le_refl _|omega|(simp;done)|(simp;omega)))|(with_reducible refine bt ?_ (by with_reducible assumption)))⟩
        · have hn := Lib.hid (hnx hx)
          clear hye hnx hfr
          have hf2 : ¬ b + 54000 + 10800 < o.nom := by omega
          obtain ⟨i1, y1, k1, eV1, eC1⟩ := All.opt_parts (Occ.nextO l rules o)
          obtain ⟨g1, hg1⟩ : ∃ g, g = (Occ.nextO l rules o).isSome := ⟨_, rfl⟩
          have cp1 := fun W h => Cn.out W h o
          rw [eV1, ← hg1] at cp1
          have Cp1 := Lib.hid cp1
          have Hg1 := Lib.hid hg1
          have Ec1 := Lib.hid eC1
          clear eV1 cp1 hg1 eC1
          rcases (by omega : x ≤ a ∨ (a < x ∧ b ≤ x)) with hx|⟨hx1, hx2⟩
          all_goals
            go_wp2_with (first
              | (go_at_call 83;(with_reducible refine (Ci1.out _ ?_).mono ?_);(· exact HH.out.later (bt Hbel.out (by repeat (first|(with_reducible exact Below.refl _ _)|(with_reducible assumption)|(with_reducible refine ba ?_)|(with_reducible refine bd ?_)|(with_reducible refine bdn ?_ _)|(with_reducible refine bset ?_ (by first|exact Nat.le_refl _|omega|(simp;done)|(simp;omega)))|(with_reducible refine bt ?_ (by with_reducible assumption))))));rintro e w2 ⟨rfl, hb2⟩;obtain ⟨hc2, hf2⟩ := bcell hb2;have hc2_0 := fun o => hc2 (w.heap.size) o (by first|assumption|omega|(simp;done)|(simp;omega));have hf2_0 := fun o => hf2 (w.heap.size) o (by first|assumption|omega|(simp;done)|(simp;omega));have hc2_1 := fun o => hc2 (B) o (by first|assumption|omega|(simp;done)|(simp;omega));have hf2_1 := fun o => hf2 (B) o (by first|assumption|omega|(simp;done)|(simp;omega));clear hc2 hf2;have hz2_0 : w.heap.size < w2.heap.size := (by first|exact sz1 hb2|exact sz2 hb2|exact sz3 hb2|(have := hb2.size;(try simp only [World.size_alloc, World.size_drew] at this);omega));have hz2_1 : B < w2.heap.size := (by first|exact sz1 hb2|exact sz2 hb2|exact sz3 hb2|(have := hb2.size;(try simp only [World.size_alloc, World.size_drew] at this);omega)))
              | (go_at_call 84;(with_reducible refine (Cp1.out _ ?_).mono ?_);(· exact HH.out.later (bt Hbel.out (by repeat (first|(with_reducible exact Below.refl _ _)|(with_reducible assumption)|(with_reducible refine ba ?_)|(with_reducible refine bd ?_)|(with_reducible refine bdn ?_ _)|(with_reducible refine bset ?_ (by first|exact Nat.le_refl _|omega|(simp;done)|(simp;omega)))|(with_reducible refine bt ?_ (by with_reducible assumption))))));rintro e w3 ⟨rfl, hb3⟩;have hb5 := (Hbx.out.later hb2).later hb3;have bf := hb5.free;have b5 := hb5.cell))
            have hb6 : Box (((w3.setCell ⟨B, 0, none⟩ (.int .i64 i1)).setCell ⟨B, 1, none⟩ (.int .i64 y1)).setCell ⟨B, 2, none⟩ (.int .i64 k1)) B (All.optC (Occ.nextO l rules o)) 149 := by rw [Ec1.out];exact hb5.set3
            have hb7 := ((((Hbr.out.later hb2).later hb3).other (n := B) (j := 0) (v := .int .i64 i1) (by omega)).other (n := B) (j := 1) (v := .int .i64 y1) (by omega)).other (n := B) (j := 2) (v := .int .i64 k1) (by omega)
            go_roundw
            case rel =>
              refine ⟨Occ.nextO l rules o, by rw [Hg1.out], hn.out, fun q hq => Hnl.out o q hq, hb6, hb7, ?_⟩
              have hbel := Hbel.out
              repeat (first|(with_reducible exact Below.refl _ _)|(with_reducible assumption)|(with_reducible refine ba ?_)|(with_reducible refine bd ?_)|(with_reducible refine bdn ?_ _)|(with_reducible refine bset ?_ (by first|exact Nat.le_refl _|omega|(simp;done)|(simp;omega)))|(with_reducible refine bt ?_ (by with_reducible assumption)))
            case measure =>
              have m1 := All.meas_eq (nx := Occ.nextO l rules) hb6
              have m2 := All.meas_eq (nx := Occ.nextO l rules) (c := some o) Hbx.out
              rw [Hg1.out, m1]
              refine Nat.lt_of_lt_of_eq (Occ.leftO_next o) ?_
              exact m2.symm
end Unt
end Go.Proofs.YtcfmchpoclkpgaaGreatDoor
