import Derived.Test.YtcfmchpoclkpgaaGreatDoorG25
import Derived.Test.YtcfmchpoclkpgaaGreatDoorG23
import Derived.Test.YtcfmchpoclkpgaaGreatDoorG14
namespace Go.Proofs.YtcfmchpoclkpgaaGreatDoor
open Go.RowKit NB
namespace CkW
open Ck
theorem infoIS : (Tryz.prog.info? 27).map (fun i => (i.zero, i.size, i.bytes)) = some (some (.slice none 0 0), 1, 24) := by kernel_rfl
theorem appR {w : World} {base : Nat} {v x : Value} {cs : List Value} {M : List RowN} (ho : w.ownsRow base 27 1 v cs.length cs) (hx : HoldsG 1 RowN.cells w x M) (h1 : ∀ y ∈ M, y.v.oneCell' = true) (hl : cs.length + M.length ≤ 1000000) (hb : base ≤ w.heap.size) (ty : TypeId) :
    ∃ v' w', (Builtin.append_ #[28, 28] ty #[v, x]).run Tryz.prog w = .ok v' w' ∧ w'.ownsRow base 27 1 v' (cs.length + M.length) (cs ++ M.flatMap RowN.cells) ∧ w.grownBy w' v.ownBlock := by
  obtain ⟨i0, hi, hz0, hz1, hz2⟩ := info_parts infoIS
  have big : cs.length + M.length ≤ maxLen := by unfold maxLen;omega
  have hML : (M.flatMap RowN.cells).length = M.length * 1 := flatG_len (k := 1) (fun _ => rfl) M
  rcases hx.lies with ⟨p, cap, rfl, rfl⟩|⟨b, off, cap, rfl, hlt, hc⟩
  · cases p with
    | none =>
      refine ⟨v, w, ?_, by simpa using ho, World.grownBy.refl _ _⟩
      rcases ho.2 with ⟨rfl, _⟩|⟨g, c, cur, rfl, _, _, hnc, _⟩
      · simp [Builtin.append_, run_underlying Tryz.underlying28, sizeOf, typeInfo, hi, Builtin.lenOf, Builtin.firstCells]
      · simp [Builtin.append_, run_underlying Tryz.underlying28, sizeOf, typeInfo, hi, Builtin.lenOf, Builtin.firstCells, hnc, storeCells]
    | some ad =>
      obtain ⟨v', w', hr, h2, h3, _, h5⟩ := run_append_own_at (P := Tryz.prog) w base 28 ty 27 i0 _ 1 24 Tryz.underlying28 hi hz0 hz1 hz2 rfl (by decide) v cs.length cs ho ad 0 cap [] rfl (by simp) (by simp) (by simpa using big) (by simp at hl;omega) hb
      exact ⟨v', w', hr, by simpa using h2, h3⟩
  · obtain ⟨v', w', hr, h2, h3, _, h5⟩ := run_append_own_at (P := Tryz.prog) w base 28 ty 27 i0 _ 1 24 Tryz.underlying28 hi hz0 hz1 hz2 rfl (by decide) v cs.length cs ho ⟨b, off, none⟩ M.length cap (M.flatMap RowN.cells) hML (fun j u hu => by
        have hj : j < M.length := by have := (List.getElem?_eq_some_iff.1 hu).1;rw [hML] at this;omega
        have he : (⟨b, off, none⟩ : Addr).add j = ⟨b, off + j, none⟩ := by unfold Addr.add;split <;> simp_all
        rw [he]
        have hm : (M.map RowN.cells)[j]? = some (M[j]).cells := by rw [List.getElem?_map, List.getElem?_eq_getElem hj];rfl
        have h0 := hc j 0 (M[j]).cells (M[j]).v hm rfl
        have h6 := flatG_at (k := 1) (f := RowN.cells) (fun _ => rfl) M j 0 M[j] (M[j]).v (List.getElem?_eq_getElem hj) rfl
        simp only [Nat.mul_one, Nat.add_zero] at h0 h6
        rw [h6] at hu
        cases hu
        exact h0) (fun u hu => by
          obtain ⟨y, hy, hu⟩ := List.mem_flatMap.1 hu
          unfold RowN.cells at hu
          simp only [List.mem_singleton] at hu
          rw [hu]
          exact h1 y hy) big (by omega) hb
    exact ⟨v', w', hr, h2, h3⟩
theorem wpList_appR {w : World} {ops : Array Oper} {rest : List Oper} {o : Oper} {a : Act} {Q : Exit → Act → World → Prop} (hgd : o.guard = none) (s x : Operand)
    (ho : o.op = .call { callee := .builtin .append, args := #[s, x], argTypes := #[28, 28] }) {base : Nat} {v xv : Value} {cs : List Value} {M : List RowN} (hs : a.eval s = v) (hown : w.ownsRow base 27 1 v cs.length cs) (hx : a.eval x = xv) (hM : HoldsG 1 RowN.cells w xv M)
    (h1 : ∀ y ∈ M, y.v.oneCell' = true) (hl : cs.length + M.length ≤ 1000000) (hb : base ≤ w.heap.size)
    (h : ∀ v' w', w'.ownsRow base 27 1 v' (cs.length + M.length) (cs ++ M.flatMap RowN.cells) → w.grownBy w' v.ownBlock → wpList Tryz.prog ops Q rest (a.put o.dst v') w') : wpList Tryz.prog ops Q (o :: rest) a w := by
  refine wpList_plain hgd fun K hK => ?_
  obtain ⟨v', w', hr, h2, h3⟩ := appR hown hM h1 hl hb o.type
  unfold Oper.wp execOp
  simp only [ho, resolve, invoke, builtin, Sem.run_bind, Sem.run_pure, Result.andThen_ok, List.map_toArray, List.map_cons, List.map_nil, hs, hx, hr]
  exact hK _ _ (h v' w' h2 h3)
theorem rows_mk {w : World} {base : Nat} {v a b : Value} {xr xl : List Int} {xe : List RowN} (ho : w.ownsRow base 27 1 v ([a, b].length + xe.length) ([a, b] ++ xe.flatMap RowN.cells)) : HoldsG 1 RowN.cells w v (⟨a, xr⟩ :: ⟨b, xl⟩ :: xe) := by
  refine HoldsG.of_own (k := 1) (f := RowN.cells) (base := base) (fun _ => rfl) (e := 27) ?_
  have e1 : (⟨a, xr⟩ :: ⟨b, xl⟩ :: xe : List RowN).length = [a, b].length + xe.length := by simp;omega
  rw [e1]
  exact ho
set_option maxRecDepth 100000 in
set_option maxHeartbeats 6400000 in
theorem Where {w : World} {t : TabV} {x : WhV} (h : HoldsT w t) (hx : HoldsW w x) (hzl : t.zs.length ≤ 100) (hel : ∀ z ∈ t.zs, z.es.length ≤ 1000) (hrl : x.rs.length ≤ 100) (hll : x.ls.length ≤ 100) (hyl : ∀ y ∈ x.es, y.ns.length ≤ 100) (ht : Tab w) :
    Calls Tryz.prog 10 #[.agg #[t.rv, t.zv, t.lv], .agg #[x.rv, x.ev, x.lv]] w fun e w' => e = .returned (.bool (Ck.whereB t.rs.length t.zs t.ls.length x.rs (x.es.map RowN.ns) x.ls)) ∧ Below w.heap.size w w' := by
  obtain ⟨rv, zv, lv, rs, zs, ls⟩ := t
  obtain ⟨xrv, xev, xlv, xr, xe, xl⟩ := x
  have hzf := h.zf;have hef := hx.ef
  have hxr := hx.r;have hxl := hx.l;have hxe := hx.e
  have hr := h.r
  obtain ⟨pr, cr, e1⟩ := h.r.form
  obtain ⟨pz, cz, e2, hpz⟩ := h.z.pk
  obtain ⟨pl, cl, e3⟩ := h.l.form
  obtain ⟨px, cx, e4⟩ := hx.r.form
  obtain ⟨pe, ce, e5, hpe⟩ := hx.e.pk
  obtain ⟨py, cy, e6⟩ := hx.l.form
  dsimp only at e1 e2 e3 e4 e5 e6 hpz hpe hzf hef hzl hel hrl hll hyl hxr hxl hxe hr ⊢
  subst e1 e2 e3 e4 e5 e6
  clear h hx
  obtain ⟨R, hR⟩ : ∃ r, r = Ck.whereB rs.length zs ls.length xr (xe.map RowN.ns) xl := ⟨_, rfl⟩
  rw [← hR]
  obtain ⟨nr, hnr⟩ : ∃ n, n = rs.length := ⟨_, rfl⟩
  obtain ⟨nz, hnz⟩ : ∃ n, n = zs.length := ⟨_, rfl⟩
  obtain ⟨nl, hnl⟩ : ∃ n, n = ls.length := ⟨_, rfl⟩
  obtain ⟨mr, hmr⟩ : ∃ n, n = xr.length := ⟨_, rfl⟩
  obtain ⟨mz, hmz⟩ : ∃ n, n = xe.length := ⟨_, rfl⟩
  obtain ⟨ml, hml⟩ : ∃ n, n = xl.length := ⟨_, rfl⟩
  rw [← hmr, ← hmz, ← hml, ← hnr, ← hnz, ← hnl]
  rw [← hnz] at hzl
  rw [← hmr] at hrl
  rw [← hml] at hll
  rw [← hmr] at hxr
  rw [← hml] at hxl
  rw [← hmz] at hxe
  rw [← hnr] at hr
  have cends := fun (X : World) (hX : Below w.heap.size w X) (k : Nat) (z : ZoneV) (hz : zs[k]? = some z) => Zn.Ends (hr.later hX) ((hzf z (List.mem_of_getElem? hz)).later hX).e z.name (by have := hel z (List.mem_of_getElem? hz);omega) (ht.later hX)
  have CE := Lib.hid cends
  have HPZ := Lib.hid hpz;have HPE := Lib.hid hpe;have HZF := Lib.hid hzf;have HEF := Lib.hid hef;have HXR := Lib.hid hxr;have HXL := Lib.hid hxl;have HXE := Lib.hid hxe;have HEL := Lib.hid hel;have HYL := Lib.hid hyl
  have HNR := Lib.hid hnr;have HNZ := Lib.hid hnz;have HNL := Lib.hid hnl;have HMR := Lib.hid hmr;have HMZ := Lib.hid hmz;have HML := Lib.hid hml
  have HR := Lib.hid hR
  clear cends hpz hpe hzf hef hxr hxl hxe hr ht hel hyl hnr hnz hnl hmr hmz hml hR
  by_cases h1 : mr = nr
  case neg =>
    have e1 : ((mr : Int) != (nr : Int)) = true := RCk.lens_ok.2 h1
    have HE : Hid (R = false) := by rw [HR.out];unfold whereB;rw [← HMR.out, ← HNR.out, decide_eq_false h1];exact rfl
    clear h1
    go_enter Tryz.func10, Tryz.ntmps10
    go_wp2
    go_ret
    exact ⟨by rw [HE.out];rfl, by repeat (first|(with_reducible exact Below.refl _ _)|(with_reducible assumption)|(with_reducible refine ba ?_)|(with_reducible refine bd ?_)|(with_reducible refine bdn ?_ _)|(with_reducible refine bset ?_ (by first|exact Nat.le_refl _|omega|(simp;done)|(simp;omega)))|(with_reducible refine bt ?_ (by with_reducible assumption)))⟩
  by_cases h2 : mz = nz
  case neg =>
    have e1 : ((mr : Int) != (nr : Int)) = false := by simp [h1]
    have e2 : ((mz : Int) != (nz : Int)) = true := RCk.lens_ok.2 h2
    have HE : Hid (R = false) := by rw [HR.out];unfold whereB;rw [List.length_map, ← HMZ.out, ← HNZ.out, decide_eq_false h2, Bool.false_and, Bool.and_false];exact rfl
    clear h1 h2
    go_enter Tryz.func10, Tryz.ntmps10
    go_wp2
    go_ret
    exact ⟨by rw [HE.out];rfl, by repeat (first|(with_reducible exact Below.refl _ _)|(with_reducible assumption)|(with_reducible refine ba ?_)|(with_reducible refine bd ?_)|(with_reducible refine bdn ?_ _)|(with_reducible refine bset ?_ (by first|exact Nat.le_refl _|omega|(simp;done)|(simp;omega)))|(with_reducible refine bt ?_ (by with_reducible assumption)))⟩
  by_cases h3 : ml = nl
  case neg =>
    have e1 : ((mr : Int) != (nr : Int)) = false := by simp [h1]
    have e2 : ((mz : Int) != (nz : Int)) = false := by simp [h2]
    have e3 : ((ml : Int) != (nl : Int)) = true := RCk.lens_ok.2 h3
    have HE : Hid (R = false) := by rw [HR.out];unfold whereB;rw [← HML.out, ← HNL.out, decide_eq_false h3, Bool.false_and, Bool.and_false, Bool.and_false];exact rfl
    clear h1 h2 h3
    go_enter Tryz.func10, Tryz.ntmps10
    go_wp2
    go_ret
    exact ⟨by rw [HE.out];rfl, by repeat (first|(with_reducible exact Below.refl _ _)|(with_reducible assumption)|(with_reducible refine ba ?_)|(with_reducible refine bd ?_)|(with_reducible refine bdn ?_ _)|(with_reducible refine bset ?_ (by first|exact Nat.le_refl _|omega|(simp;done)|(simp;omega)))|(with_reducible refine bt ?_ (by with_reducible assumption)))⟩
  subst h1 h2 h3
  obtain ⟨V, hV⟩ : ∃ V, V = ((w.alloc (.cells #[.slice pr mr cr, .slice pz mz cz, .slice pl ml cl] 26)).alloc (.cells #[.slice px mr cx, .slice pe mz ce, .slice py ml cy] 30)) := ⟨_, rfl⟩
  have hbV : Below w.heap.size w V := by rw [hV];repeat (first|(with_reducible exact Below.refl _ _)|(with_reducible assumption)|(with_reducible refine ba ?_)|(with_reducible refine bd ?_)|(with_reducible refine bdn ?_ _)|(with_reducible refine bset ?_ (by first|exact Nat.le_refl _|omega|(simp;done)|(simp;omega)))|(with_reducible refine bt ?_ (by with_reducible assumption)))
  have hbT : Box V w.heap.size #[.slice pr mr cr, .slice pz mz cz, .slice pl ml cl] 26 := by rw [hV];exact (Box.new w _ _).old
  have hbW : Box V (w.heap.size + 1) #[.slice px mr cx, .slice pe mz ce, .slice py ml cy] 30 := by
    rw [hV]
    have := Box.new (w.alloc (.cells #[.slice pr mr cr, .slice pz mz cz, .slice pl ml cl] 26)) #[.slice px mr cx, .slice pe mz ce, .slice py ml cy] 30
    simpa using this
  have hsV : w.heap.size + 1 < V.heap.size := hbW.lt
  have HV := Lib.hid hV;have HBT := Lib.hid hbT;have HBW := Lib.hid hbW
  clear hV
  have hV1 : ∀ X, Below V.heap.size V X → Below w.heap.size w X := fun X hX => hbV.trans (hX.mono hbV.size)
  obtain ⟨V1, hV1e⟩ : ∃ V1, V1 = V.alloc (.cells #[.slice px mr cx, .slice py ml cy] 27) := ⟨_, rfl⟩
  have hbV1 : Below V.heap.size V V1 := by rw [hV1e];repeat (first|(with_reducible exact Below.refl _ _)|(with_reducible assumption)|(with_reducible refine ba ?_)|(with_reducible refine bd ?_)|(with_reducible refine bdn ?_ _)|(with_reducible refine bset ?_ (by first|exact Nat.le_refl _|omega|(simp;done)|(simp;omega)))|(with_reducible refine bt ?_ (by with_reducible assumption)))
  have hVs : V.heap.size = w.heap.size + 1 + 1 := by rw [HV.out];simp
  have ho1 : V1.ownsRow (w.heap.size + 1 + 1) 27 1 (.slice (some ⟨w.heap.size + 1 + 1, 0, none⟩) 2 2) 2 [.slice px mr cx, .slice py ml cy] := by
    rw [hV1e, ← hVs]
    exact ⟨rfl, .inr ⟨V.heap.size, 2, _, rfl, Nat.le_refl _, heap_alloc_new V _, Nat.le_refl _, by decide, rfl, rfl⟩⟩
  have HO1 := Lib.hid ho1;have HV1 := Lib.hid hV1e;have HBV1 := Lib.hid hbV1;have HVW := Lib.hid hV1
  have c1 := hbT.cell
  have c2 := hbW.cell
  have hs8 : w.heap.size < V.heap.size := by omega
  have hxm : ∀ y ∈ xe, y.v.oneCell' = true := fun y hy => by
    obtain ⟨p, c, e⟩ := (HEF.out y hy).h.form
    rw [e]
    rfl
  have HXM := Lib.hid hxm
  have hfl : (xe.map RowN.ns).flatten.length ≤ 100 * mz := by
    have := RCk.flat_len (xe.map RowN.ns) (fun y hy => by
      obtain ⟨u, hu, rfl⟩ := List.mem_map.1 hy
      exact HYL.out u hu)
    rwa [List.length_map, ← HMZ.out] at this
  have hrws : ∀ X, Below V.heap.size V X → ∀ y ∈ (⟨.slice px mr cx, xr⟩ :: ⟨.slice py ml cy, xl⟩ :: xe : List RowN), HoldsI X y.v y.ns := fun X hX y hy => by
    have hX2 := hV1 X hX
    rcases List.mem_cons.1 hy with rfl|hy
    · exact HXR.out.later hX2
    · rcases List.mem_cons.1 hy with rfl|hy
      · exact HXL.out.later hX2
      · exact HoldsG.later (HEF.out y hy).h hX2
  have HRWS := Lib.hid hrws
  have HRL : Hid ((⟨.slice px mr cx, xr⟩ :: ⟨.slice py ml cy, xl⟩ :: xe : List RowN).length ≤ 1000) := by
    rw [List.length_cons, List.length_cons, ← HMZ.out]
    exact (show mz + 1 + 1 ≤ 1000 by omega)
  have HRF : Hid (((⟨.slice px mr cx, xr⟩ :: ⟨.slice py ml cy, xl⟩ :: xe : List RowN).map RowN.ns).flatten.length ≤ 100000) := by
    rw [List.map_cons, List.map_cons, List.flatten_cons, List.flatten_cons, List.length_append, List.length_append]
    show xr.length + (xl.length + _) ≤ 100000
    rw [← HMR.out, ← HML.out]
    omega
  have hb2 : ∀ {X : World}, V1.grownBy X (Value.slice (some ⟨w.heap.size + 1 + 1, 0, none⟩) 2 2).ownBlock → Below V.heap.size V X := fun hg => HBV1.out.grown hg HBV1.out.size (fun j hj => by cases hj;exact Nat.le_of_eq hVs)
  clear ho1 hV1e hbV1 hV1 hxm hfl hrws
  go_enter Tryz.func10, Tryz.ntmps10
  go_wp2_with (first
    | (at_builtin;rw [← HV.out, ← HV1.out];refine wpList_appR rfl _ _ rfl rfl HO1.out rfl (HXE.out.later (HVW.out _ HBV1.out)) HXM.out (by rw [← HMZ.out];show 2 + mz ≤ _;omega) (Nat.le_trans (Nat.le_of_eq hVs.symm) HBV1.out.size) ?_;intro v2 w2 ho2 hg2)
    | (go_at_call 27;refine (Concat (rows_mk (xr := xr) (xl := xl) ho2) (HRWS.out w2 (hb2 hg2)) HRL.out HRF.out).mono ?_;rintro e w5 ⟨v5, rfl, ho5, hb5⟩;have b5 := (hb2 hg2).trans (hb5.mono (hb2 hg2).size);have cT5 := (hbT.later b5).cell;have HO5 := Lib.hid ho5;clear ho5 ho2 hb5))
  have hbw5 : Below w.heap.size w w5 := hbV.trans (b5.mono hbV.size)
  have hT5 := hbT.later b5
  have hW5 := hbW.later b5
  have hs5 := b5.size
  clear cT5 c1 c2 hg2 hb2 b5
  go_loopw [47] (fun i wr => ∃ k : Nat, i = .int .i64 k ∧ k ≤ mz ∧ Below w5.heap.size w5 wr ∧ Hid (((zs.zip (xe.map RowN.ns)).take k).all zoneOk = true)) (fun i _ => mz - (intOf i).toNat)
  case atStart => exact ⟨0, rfl, Nat.zero_le _, Below.refl _ _, rfl⟩
  case round =>
    obtain ⟨k, rfl, hk, hbr, HZ⟩ := hrel
    have hbw : Below w.heap.size w wr := hbw5.trans (hbr.mono hbw5.size)
    have hsz := hbr.size
    have hs8 : w.heap.size < wr.heap.size := by omega
    have hs9 : w.heap.size + 1 < wr.heap.size := by omega
    have hT := hT5.later hbr
    have hW := hW5.later hbr
    have cT := hT.cell
    have cW := hW.cell
    by_cases hlt : k < mz
    · obtain ⟨z, hz⟩ : ∃ z, zs[k]? = some z := ⟨_, List.getElem?_eq_getElem (by rw [← HNZ.out];exact hlt)⟩
      obtain ⟨y, hy⟩ : ∃ y, xe[k]? = some y := ⟨_, List.getElem?_eq_getElem (by rw [← HMZ.out];exact hlt)⟩
      obtain ⟨g1, o1, rfl, hg1, d1⟩ := HPZ.out k z hz
      have z0 := (hbw.cell (p := ⟨g1, o1 + k * 2 + 0, none⟩) hg1).trans (d1 0 _ rfl)
      have z1 := (hbw.cell (p := ⟨g1, o1 + k * 2 + 1, none⟩) hg1).trans (d1 1 _ rfl)
      rw [Nat.add_zero] at z0
      obtain ⟨g2, o2, rfl, hg2, d2⟩ := HPE.out k y hy
      have y0 := (hbw.cell (p := ⟨g2, o2 + k * 1 + 0, none⟩) hg2).trans (d2 0 _ rfl)
      rw [Nat.mul_one, Nat.add_zero] at y0
      have cz := CE.out wr hbw k z hz
      have hyf := HEF.out y (List.mem_of_getElem? hy)
      have hzf := HZF.out z (List.mem_of_getElem? hz)
      obtain ⟨pp, cc, hv⟩ := hzf.e.form
      obtain ⟨pq, cq, hv2⟩ := hyf.h.form
      have hyr := hyf.h
      rw [hv2] at y0 hyr
      rw [hv] at z1
      have hyl := HYL.out y (List.mem_of_getElem? hy)
      have hyz : (xe.map RowN.ns)[k]? = some y.ns := by rw [List.getElem?_map, hy];rfl
      have hzip := RCk.zip_at hz hyz
      have HYR := Lib.hid hyr;have HZIP := Lib.hid hzip
      have cz2 := fun (X : World) (hX : Below w.heap.size w X) => CE.out X hX k z hz
      rw [hv] at cz2
      have CZ := Lib.hid cz2
      obtain ⟨zl, hzl2⟩ : ∃ n, n = z.es.length := ⟨_, rfl⟩
      obtain ⟨yl, hyl2⟩ : ∃ n, n = y.ns.length := ⟨_, rfl⟩
      rw [← hzl2] at z1 CZ
      rw [← hyl2] at y0 hyl HYR
      have HZL := Lib.hid hzl2;have HYL2 := Lib.hid hyl2
      obtain ⟨E, hE⟩ : ∃ E, E = Zn.endsE z.es := ⟨_, rfl⟩
      unfold Zn.EndsPost at CZ
      rw [← hE] at CZ
      unfold Zn.endsE at hE
      have q1 : (k : Int) < (mz : Int) := by omega
      clear d1 d2 cz cz2 hyf hzf hv hv2 hyr hzip hz hy hyz hzl2 hyl2
      have b7 : ∀ X, Below wr.heap.size wr X → Below w5.heap.size w5 X := fun X hX => hbr.trans (hX.mono hbr.size)
      have B7 := Lib.hid b7
      clear b7
      have hZ7 : Box (wr.alloc (.cells #[.string z.name, .slice pp zl cc] 42)) wr.heap.size #[.string z.name, .slice pp zl cc] 42 := Box.new _ _ _
      have hg3 : g2 < (wr.alloc (.cells #[.string z.name, .slice pp zl cc] 42)).heap.size := by rw [World.size_alloc];omega
      have y8 := (World.cell?_alloc_lt wr (.cells #[.string z.name, .slice pp zl cc] 42) ⟨g2, o2 + k, none⟩ (show g2 < wr.heap.size by omega)).trans y0
      cases hzb : Zn.zoneB z.es with
      | false =>
        have HE : Hid (R = false) := by rw [HR.out];exact RCk.where_bad HZIP.out (by unfold zoneOk;dsimp only;rw [hzb];rfl)
        rw [hzb] at hE
        simp only [Bool.false_eq_true, if_false] at hE
        subst hE
        clear hzb
        go_wp2_with (go_at_call 28;refine (CZ.out _ ?_).mono ?_;(· repeat (first|(with_reducible exact Below.refl _ _)|(with_reducible assumption)|(with_reducible refine ba ?_)|(with_reducible refine bd ?_)|(with_reducible refine bdn ?_ _)|(with_reducible refine bset ?_ (by first|exact Nat.le_refl _|omega|(simp;done)|(simp;omega)))|(with_reducible refine bt ?_ (by with_reducible assumption))));rintro e w3 ⟨v3, rfl, _, hb3⟩)
        (refine region_later (by kernel_rfl) (by kernel_rfl) ?_;(repeat (go_big_quiet_step (first|fail)));refine wpQuiet_nil ?_;rintro u8 ⟨xU, eU⟩;have hu8 := xU.h;rw [← eU] at hu8;clear eU xU)
        go_wp2
        go_ret
        exact ⟨by rw [HE.out];rfl, by repeat (first|(with_reducible exact Below.refl _ _)|(with_reducible assumption)|(with_reducible refine ba ?_)|(with_reducible refine bd ?_)|(with_reducible refine bdn ?_ _)|(with_reducible refine bset ?_ (by first|exact Nat.le_refl _|omega|(simp;done)|(simp;omega)))|(with_reducible refine bt ?_ (by with_reducible assumption)))⟩
      | true =>
        rw [hzb] at hE
        simp only [if_true] at hE
        subst hE
        by_cases hle : yl = zl
        case neg =>
          have HE : Hid (R = false) := by rw [HR.out];exact RCk.where_bad HZIP.out (by unfold zoneOk;dsimp only;rw [hzb, ← HYL2.out, ← HZL.out, decide_eq_false hle];rfl)
          have e5 : ((yl : Int) != (zl : Int)) = true := RCk.lens_ok.2 hle
          clear hzb hle
          go_wp2_with (go_at_call 28;refine (CZ.out _ ?_).mono ?_;(· repeat (first|(with_reducible exact Below.refl _ _)|(with_reducible assumption)|(with_reducible refine ba ?_)|(with_reducible refine bd ?_)|(with_reducible refine bdn ?_ _)|(with_reducible refine bset ?_ (by first|exact Nat.le_refl _|omega|(simp;done)|(simp;omega)))|(with_reducible refine bt ?_ (by with_reducible assumption))));rintro e w3 ⟨v3, rfl, _, hb3⟩;have c7 := (hZ7.later hb3).cell;have d7 := (Box.cell (show Box w3 (w.heap.size + 1) _ _ from (hW.old).later hb3));have hs7 := hb3.size;rw [World.size_alloc] at hs7;have s71 : w.heap.size + 1 < w3.heap.size := (by omega);have s72 : wr.heap.size < w3.heap.size := (by omega);have s73 : g2 < w3.heap.size := (by omega);clear hs7;have y7 := (hb3.cell (p := ⟨g2, o2 + k, none⟩) hg3).trans y8)
          (refine region_later (by kernel_rfl) (by kernel_rfl) ?_;(repeat (go_big_quiet_step (first|fail)));refine wpQuiet_nil ?_;rintro u8 ⟨xU, eU⟩;have hu8 := xU.h;rw [← eU] at hu8;clear eU xU)
          go_wp2
          go_ret
          exact ⟨by rw [HE.out];rfl, by repeat (first|(with_reducible exact Below.refl _ _)|(with_reducible assumption)|(with_reducible refine ba ?_)|(with_reducible refine bd ?_)|(with_reducible refine bdn ?_ _)|(with_reducible refine bset ?_ (by first|exact Nat.le_refl _|omega|(simp;done)|(simp;omega)))|(with_reducible refine bt ?_ (by with_reducible assumption)))⟩
        case pos =>
          have HE : Hid (zoneOk (z, y.ns) = true) := by unfold zoneOk;dsimp only;rw [hzb, ← HYL2.out, ← HZL.out, decide_eq_true hle];rfl
          subst hle
          clear hzb
          go_wp2_with (go_at_call 28;refine (CZ.out _ ?_).mono ?_;(· repeat (first|(with_reducible exact Below.refl _ _)|(with_reducible assumption)|(with_reducible refine ba ?_)|(with_reducible refine bd ?_)|(with_reducible refine bdn ?_ _)|(with_reducible refine bset ?_ (by first|exact Nat.le_refl _|omega|(simp;done)|(simp;omega)))|(with_reducible refine bt ?_ (by with_reducible assumption))));rintro e w3 ⟨v3, rfl, _, hb3⟩;have c7 := (hZ7.later hb3).cell;have d7 := (Box.cell (show Box w3 (w.heap.size + 1) _ _ from (hW.old).later hb3));have hs7 := hb3.size;rw [World.size_alloc] at hs7;have s71 : w.heap.size + 1 < w3.heap.size := (by omega);have s72 : wr.heap.size < w3.heap.size := (by omega);have s73 : g2 < w3.heap.size := (by omega);clear hs7;have y7 := (hb3.cell (p := ⟨g2, o2 + k, none⟩) hg3).trans y8)
          (refine region_later (by kernel_rfl) (by kernel_rfl) ?_;(repeat (go_big_quiet_step (first|fail)));refine wpQuiet_nil ?_;rintro u8 ⟨xU, eU⟩;have hu8 := xU.h;rw [← eU] at hu8;clear eU xU)
          have b38 : Below wr.heap.size wr u8 := by repeat (first|(with_reducible exact Below.refl _ _)|(with_reducible assumption)|(with_reducible refine ba ?_)|(with_reducible refine bd ?_)|(with_reducible refine bdn ?_ _)|(with_reducible refine bset ?_ (by first|exact Nat.le_refl _|omega|(simp;done)|(simp;omega)))|(with_reducible refine bt ?_ (by with_reducible assumption)))
          have bV8 := B7.out u8 b38
          clear hb3 hu8 c7 d7 y7 y8 hZ7 cT cW hT hW y0 z0 z1 b38 hg3
          go_wp2
          go_roundw
          case rel => exact ⟨k + 1, by go_num, by omega, bV8, Eqs.take_all HZIP.out HZ.out HE.out⟩
          case measure => simp [intOf];omega
    · obtain rfl : mz = k := by omega
      have hZ := HZ.out
      rw [List.take_of_length_le (by rw [List.length_zip, List.length_map, ← HNZ.out, ← HMZ.out];omega)] at hZ
      have HC := Lib.hid (HoldsI.of_own (RBk.own_lat HO5.out hbr))
      have HE : Hid (R = !!((RowN.ns ⟨.slice px mr cx, xr⟩ :: RowN.ns ⟨.slice py ml cy, xl⟩ :: xe.map RowN.ns).flatten.all fun n => decide ((1 : Int) ≤ n))) := by
        rw [HR.out, Bool.not_not]
        unfold whereB
        rw [hZ, ← HMR.out, ← HNR.out, List.length_map, ← HMZ.out, ← HNZ.out, ← HML.out, ← HNL.out, decide_eq_true rfl, decide_eq_true rfl, decide_eq_true rfl]
        simp only [Bool.true_and]
        unfold lines
        simp [List.append_assoc]
        exact trivial
      obtain ⟨Q, hQ⟩ : ∃ b, b = ((RowN.ns ⟨.slice px mr cx, xr⟩ :: RowN.ns ⟨.slice py ml cy, xl⟩ :: xe.map RowN.ns).flatten.all fun n => decide ((1 : Int) ≤ n)) := ⟨_, rfl⟩
      have hcc := Contains HC.out
      rw [show (List.map RowN.ns (⟨.slice px mr cx, xr⟩ :: ⟨.slice py ml cy, xl⟩ :: xe)).flatten.all (fun n => decide ((1 : Int) ≤ n)) = Q from hQ.symm] at hcc
      rw [← hQ] at HE
      clear hQ hZ HZ HC
      cases Q with
      | true =>
        go_wp2_with (go_at_call 29;refine hcc.mono ?_;rintro e w' ⟨rfl, rfl⟩)
        go_ret
        exact ⟨by rw [HE.out];rfl, by repeat (first|(with_reducible exact Below.refl _ _)|(with_reducible assumption)|(with_reducible refine ba ?_)|(with_reducible refine bd ?_)|(with_reducible refine bdn ?_ _)|(with_reducible refine bset ?_ (by first|exact Nat.le_refl _|omega|(simp;done)|(simp;omega)))|(with_reducible refine bt ?_ (by with_reducible assumption)))⟩
      | false =>
        go_wp2_with (go_at_call 29;refine hcc.mono ?_;rintro e w' ⟨rfl, rfl⟩)
        go_ret
        exact ⟨by rw [HE.out];rfl, by repeat (first|(with_reducible exact Below.refl _ _)|(with_reducible assumption)|(with_reducible refine ba ?_)|(with_reducible refine bd ?_)|(with_reducible refine bdn ?_ _)|(with_reducible refine bset ?_ (by first|exact Nat.le_refl _|omega|(simp;done)|(simp;omega)))|(with_reducible refine bt ?_ (by with_reducible assumption)))⟩
end CkW
end Go.Proofs.YtcfmchpoclkpgaaGreatDoor
