import Derived.Test.YtcfmchpoclkpgaaGreatDoorG23
import Derived.Test.YtcfmchpoclkpgaaGreatDoorRCkW
import Derived.Lib.SliceRun
import Derived.Lib.AppendZeros
import Derived.Test.YtcfmchpoclkpgaaGreatDoorG15
namespace Go.Proofs.YtcfmchpoclkpgaaGreatDoor
open Go.RowKit NB
namespace CkW
open Ck
set_option maxRecDepth 100000 in
set_option maxHeartbeats 1600000 in
theorem Grow (N : Nat) (hN : N ≤ 100000) (w : World) : Calls Tryz.prog 64 #[.slice none 0 0, .int .i64 N] w fun e w' => ∃ v', e = .returned v' ∧ OwnI w' w.heap.size v' [] ∧ Below w.heap.size w w' := by
  obtain ⟨i0, hi, hz0, hz1, hz2⟩ := info_parts infoI
  by_cases h0 : N = 0
  · subst h0
    go_enter Tryz.func64, Tryz.ntmps64
    go_wp2
    go_ret
    exact ⟨_, rfl, World.ownsRow_nil _ _ _ _, Below.refl _ _⟩
  · have hrun := fun ty => Go.Lib.run_append_nil_zeros (P := Tryz.prog) w 27 3 ty 3 i0 (.int .i64 0) .i64 .i64 Tryz.underlying27 Tryz.underlying3 hi hz0 N (by omega) (by omega) (by omega) (by rw [hz2];omega)
    obtain ⟨G, hG⟩ : ∃ G, G = grownCap w N 0 3 := ⟨_, rfl⟩
    have hGn : N ≤ G := by rw [hG];exact grownCap_ge w _ _ _
    have hGm : G ≤ maxLen := by rw [hG];exact grownCap_le_maxLen w N 0 _ (by unfold maxLen;omega)
    rw [← hG] at hrun
    obtain ⟨ROW, hR⟩ : ∃ R : Array Value, R = Builtin.zeroCells (Value.int .i64 0).cells N ++ Builtin.zeroCells (Value.int .i64 0).cells (G - N) := ⟨_, rfl⟩
    rw [← hR] at hrun
    have hRs : ROW.size = G * 1 := by rw [hR, Array.size_append, size_zeroCells, size_zeroCells];show N * 1 + (G - N) * 1 = _;omega
    have hown : OwnI (w.drew.alloc (.cells ROW 3)) w.heap.size (.slice (some ⟨w.heap.size, 0, none⟩) 0 G) [] :=
      ⟨rfl, .inr ⟨w.heap.size, G, ROW, rfl, Nat.le_refl _, heap_alloc_new w.drew _, Nat.zero_le _, hGm, hRs, by simp⟩⟩
    have hb : Below w.heap.size w (w.drew.alloc (.cells ROW 3)) := ba (bd (Below.refl _ _))
    have HR := Lib.hid hrun;have HO := Lib.hid hown;have HB := Lib.hid hb
    unfold maxLen at hGm
    clear hrun hown hb hR hG hRs hi hz0 hz1 hz2
    have b1 : (0 : Int) < (N : Int) := by omega
    have b2 : (0 : Int) ≤ (N : Int) := by omega
    have b3 : ¬ (N : Int) < 0 := by omega
    have b4 : ¬ (G = 0) := by omega
    go_enter Tryz.func64, Tryz.ntmps64
    go_wp2_with (at_builtin;refine Go.Lib.wpList_append_run _ rfl _ _ _ _ rfl _ _ rfl rfl _ _ (HR.out _) ?_)
    go_ret
    exact ⟨_, rfl, HO.out, HB.out⟩
theorem flatI_take {Ls : List (List Int)} {k : Nat} {l : List Int} (h : Ls[k]? = some l) : (Ls.take (k + 1)).flatten = (Ls.take k).flatten ++ l := by
  rw [List.take_add_one, h]
  simp
theorem flatI_le (Ls : List (List Int)) (k : Nat) : (Ls.take k).flatten.length ≤ Ls.flatten.length := by
  have h := List.take_append_drop k Ls
  have : Ls.flatten.length = (Ls.take k).flatten.length + (Ls.drop k).flatten.length := by rw [← List.length_append, ← List.flatten_append, h]
  omega
set_option maxRecDepth 100000 in
set_option maxHeartbeats 3200000 in
theorem Concat {w : World} {v : Value} {rows : List RowN} (hv : HoldsG 1 RowN.cells w v rows) (hf : ∀ y ∈ rows, HoldsI w y.v y.ns) (hn : rows.length ≤ 1000) (ht : (rows.map RowN.ns).flatten.length ≤ 100000) :
    Calls Tryz.prog 27 #[v] w fun e w' => ∃ v', e = .returned v' ∧ OwnI w' w.heap.size v' (rows.map RowN.ns).flatten ∧ Below w.heap.size w w' := by
  obtain ⟨p, cap, rfl, hp⟩ := hv.pk
  have hfl := flatI_le (rows.map RowN.ns)
  obtain ⟨R, hR⟩ : ∃ R, R = (rows.map RowN.ns).flatten := ⟨_, rfl⟩
  obtain ⟨n, hn'⟩ : ∃ n, n = rows.length := ⟨_, rfl⟩
  rw [← hR] at ht hfl ⊢
  rw [← hn'] at hn ⊢
  have HP := Lib.hid hp;have HFL := Lib.hid hfl;have HR := Lib.hid hR;have HN := Lib.hid hn';have HF := Lib.hid hf
  clear hp hfl hR hn' hf hv
  go_enter Tryz.func27, Tryz.ntmps27
  go_wp2
  go_loop [11, 3] (fun i s => ∃ k S : Nat, i = .int .i64 k ∧ s = .int .i64 S ∧ k ≤ n ∧ Hid (S = ((rows.map RowN.ns).take k).flatten.length)) (fun i _ => n - (intOf i).toNat)
  case atStart => exact ⟨0, 0, rfl, rfl, Nat.zero_le _, rfl⟩
  case round =>
    obtain ⟨k, S, rfl, rfl, hk, HK⟩ := hrel
    by_cases hlt : k < n
    · obtain ⟨y, hy⟩ : ∃ y, rows[k]? = some y := ⟨_, List.getElem?_eq_getElem (by rw [← HN.out];exact hlt)⟩
      obtain ⟨g1, o1, rfl, hg1, d1⟩ := HP.out k y hy
      have y0 := d1 0 _ rfl
      rw [Nat.mul_one, Nat.add_zero] at y0
      obtain ⟨pq, cq, hv2⟩ := (HF.out y (List.mem_of_getElem? hy)).form
      rw [hv2] at y0
      have hyz : (rows.map RowN.ns)[k]? = some y.ns := by rw [List.getElem?_map, hy];rfl
      have hS2 := flatI_take hyz
      have hS3 : S + y.ns.length = ((rows.map RowN.ns).take (k + 1)).flatten.length := by rw [hS2, List.length_append, ← HK.out]
      have hS4 := HFL.out (k + 1)
      rw [← hS3] at hS4
      have HS3 := Lib.hid hS3
      have q1 : (k : Int) < (n : Int) := by omega
      clear hS2 hS3 d1 hv2 hyz hy
      generalize y.ns.length = m at *
      have q2 : ¬ ((S : Int) + (m : Int) < 0) := by omega
      go_wp2
      go_round
      case rel => exact ⟨k + 1, S + m, by go_num, by go_num, by omega, HS3⟩
      case measure => simp [intOf];omega
    · obtain rfl : n = k := by omega
      have hS := HK.out
      rw [List.take_of_length_le (by rw [List.length_map, ← HN.out];exact Nat.le_refl _), ← HR.out] at hS
      have hSb : S ≤ 100000 := by omega
      have HSR := Lib.hid hS
      clear hS HK
      go_wp2_with (go_at_call 64;refine (Grow S hSb _).mono ?_;rintro e w1 ⟨v1, rfl, hown1, hb1⟩)
      have HO1 := Lib.hid hown1;have HB1 := Lib.hid hb1
      clear hown1 hb1
      go_loopw [27, 6] (fun i o wr => ∃ (j : Nat) (v : Value), i = .int .i64 j ∧ o = v ∧ j ≤ n ∧ Below w.heap.size w wr ∧ Hid (OwnI wr w.heap.size v ((rows.map RowN.ns).take j).flatten)) (fun i _ _ => n - (intOf i).toNat)
      case atStart => exact ⟨0, v1, rfl, rfl, Nat.zero_le _, HB1.out, HO1⟩
      case round =>
        clear HO1
        obtain ⟨j, v, rfl, rfl, hj, hbr, HO⟩ := hrel
        have hszr := hbr.size
        by_cases hltj : j < n
        · obtain ⟨y, hy⟩ : ∃ y, rows[j]? = some y := ⟨_, List.getElem?_eq_getElem (by rw [← HN.out];exact hltj)⟩
          obtain ⟨g1, o1, rfl, hg1, d1⟩ := HP.out j y hy
          have y0 := d1 0 _ rfl
          rw [Nat.mul_one, Nat.add_zero] at y0
          replace y0 := (hbr.cell (p := ⟨g1, o1 + j, none⟩) hg1).trans y0
          have HY := Lib.hid (HoldsG.later (HF.out y (List.mem_of_getElem? hy)) hbr)
          have hyz : (rows.map RowN.ns)[j]? = some y.ns := by rw [List.getElem?_map, hy];rfl
          have hS2 := flatI_take hyz
          have hS4 := HFL.out (j + 1)
          rw [hS2, List.length_append] at hS4
          have HS4 := Lib.hid hS4
          have HS2 := Lib.hid hS2
          have q1 : (j : Int) < (n : Int) := by omega
          clear hS2 hS4 d1 hyz hy
          go_wp2_with (at_builtin;refine IntS.wpList_app rfl _ _ rfl rfl HO.out rfl HY.out (by have := HS4.out;omega) hszr ?_;intro v9 w9 ho9 hg9 hx9)
          have HO9 := Lib.hid ho9
          have b9 := RCk.app_below hbr hszr HO.out hg9
          clear ho9 hg9 hx9
          go_roundw
          case rel => exact ⟨j + 1, v9, by go_num, rfl, by omega, b9, by rw [HS2.out];exact HO9⟩
          case measure => simp [intOf];omega
        · obtain rfl : n = j := by omega
          have hO := HO.out
          rw [List.take_of_length_le (by rw [List.length_map, ← HN.out];exact Nat.le_refl _), ← HR.out] at hO
          have HO9 := Lib.hid hO
          clear hO HO
          go_wp2
          go_ret
          exact ⟨_, rfl, HO9.out, hbr⟩
theorem low (n : Int) (w : World) : Calls Tryz.prog 30 #[.int .i64 n] w fun e w' => e = .returned (.bool (decide (n < 1))) ∧ w = w' := by
  by_cases h : n < 1
  · rw [decide_eq_true h]
    go_enter Tryz.func30, Tryz.ntmps30
    go_wp2
    go_ret
    exact ⟨rfl, rfl⟩
  · rw [decide_eq_false h]
    have h1 : 1 ≤ n := by omega
    go_enter Tryz.func30, Tryz.ntmps30
    go_wp2
    go_ret
    exact ⟨rfl, rfl⟩
set_option maxRecDepth 100000 in
set_option maxHeartbeats 3200000 in
theorem Index {w : World} {v : Value} {L : List Int} (h : HoldsI w v L) :
    Calls Tryz.prog 67 #[v, .func (.func 30) #[] #[]] w fun e w' => ∃ i : Int, e = .returned (.int .i64 i) ∧ I64 i ∧ decide (0 ≤ i) = !(L.all fun n => decide ((1 : Int) ≤ n)) ∧ w = w' := by
  have l1 := h.len
  obtain ⟨p, cap, rfl, hp⟩ := HoldsG.pkI h
  obtain ⟨n, hn⟩ : ∃ n, n = L.length := ⟨_, rfl⟩
  obtain ⟨B, hB⟩ : ∃ b, b = L.all fun n => decide ((1 : Int) ≤ n) := ⟨_, rfl⟩
  rw [← hn] at l1 ⊢
  rw [← hB]
  have HN := Lib.hid hn;have HP := Lib.hid hp;have HB := Lib.hid hB
  clear hn hp h hB
  have eg : ∀ args w, (callFunc 30 args).run Tryz.prog w = .ok (.enter 30 args) w := enters_of Tryz.func30 (by kernel_rfl) rfl
  go_enter Tryz.func67, Tryz.ntmps67
  go_wp2
  go_loop [8, 5] (fun i s => ∃ k : Nat, i = .int .i64 k ∧ k ≤ n ∧ Hid ((L.take k).all (fun n => decide ((1 : Int) ≤ n)) = true)) (fun i _ => n - (intOf i).toNat)
  case atStart => exact ⟨0, rfl, Nat.zero_le _, rfl⟩
  case round =>
    obtain ⟨k, rfl, hk, HS⟩ := hrel
    by_cases hlt : k < n
    · obtain ⟨m, hm⟩ : ∃ m, L[k]? = some m := ⟨_, List.getElem?_eq_getElem (by rw [← HN.out];exact hlt)⟩
      obtain ⟨g1, o1, rfl, hg1, d1⟩ := HP.out k m hm
      have q1 : (k : Int) < (n : Int) := by omega
      have HM := Lib.hid hm
      have hc := low m w
      clear hm
      by_cases h1 : m < 1
      · rw [decide_eq_true h1] at hc
        have HE : Hid (B = false) := by rw [HB.out];exact Eqs.not_all (p := fun n => decide ((1 : Int) ≤ n)) HM.out (decide_eq_false (by omega))
        clear h1
        go_wp2_with (go_at_fn 30;refine hc.mono ?_;rintro e w' ⟨rfl, rfl⟩)
        go_ret
        exact ⟨k, rfl, by unfold I64;omega, by rw [HE.out, decide_eq_true (by omega)];rfl, rfl⟩
      · have HE := Lib.hid (Eqs.take_all HM.out HS.out (decide_eq_true (show (1 : Int) ≤ m by omega)))
        rw [decide_eq_false h1] at hc
        clear h1
        go_wp2_with (go_at_fn 30;refine hc.mono ?_;rintro e w' ⟨rfl, rfl⟩)
        go_round
        case rel => exact ⟨k + 1, by go_num, by omega, HE⟩
        case measure => simp [intOf];omega
    · obtain rfl : n = k := by omega
      have hS := HS.out
      rw [List.take_of_length_le (by rw [← HN.out];exact Nat.le_refl _), ← HB.out] at hS
      have HE := Lib.hid hS
      clear hS HS
      go_wp2
      go_ret
      exact ⟨-1, rfl, by unfold I64;omega, by rw [HE.out];rfl, rfl⟩
theorem Contains {w : World} {v : Value} {L : List Int} (h : HoldsI w v L) :
    Calls Tryz.prog 29 #[v, .func (.func 30) #[] #[]] w fun e w' => e = .returned (.bool (!(L.all fun n => decide ((1 : Int) ≤ n)))) ∧ w = w' := by
  have hc := Index h
  obtain ⟨B, hB⟩ : ∃ b, b = L.all fun n => decide ((1 : Int) ≤ n) := ⟨_, rfl⟩
  rw [← hB] at hc ⊢
  clear hB
  go_enter Tryz.func29, Tryz.ntmps29
  go_wp2_with (go_at_call 67;refine hc.mono ?_;rintro e w' ⟨i, rfl, hi, hd, rfl⟩)
  all_goals
    go_ret
    refine ⟨?_, rfl⟩
    simp_all
end CkW
end Go.Proofs.YtcfmchpoclkpgaaGreatDoor
namespace Go.Proofs.YtcfmchpoclkpgaaGreatDoor
open Go.RowKit NB
namespace CkW
open Ck
theorem infoIS : (Tryz.prog.info? 27).map (fun i => (i.zero, i.size, i.bytes)) = some (some (.slice none 0 0), 1, 24) := by kernel_rfl
theorem appR {w : World} {base : Nat} {v x : Value} {cs : List Value} {M : List RowN} (ho : w.ownsRow base 27 1 v cs.length cs) (hx : HoldsG 1 RowN.cells w x M) (h1 : ∀ y ∈ M, y.v.oneCell' = true) (hl : cs.length + M.length ≤ 1000000) (hb : base ≤ w.heap.size) (ty : TypeId) :
    ∃ v' w', (Builtin.append_ #[28, 28] ty #[v, x]).run Tryz.prog w = .ok v' w' ∧ w'.ownsRow base 27 1 v' (cs.length + M.length) (cs ++ M.flatMap RowN.cells) ∧ w.grownBy w' v.ownBlock := by
  obtain ⟨i0, hi, hz0, hz1, hz2⟩ := info_parts infoIS
  have big : cs.length + M.length ≤ maxLen := by unfold maxLen;omega
  have hML : (M.flatMap RowN.cells).length = M.length * 1 := flatG_len (k := 1) (fun _ => rfl) M
  rcases hx.lies with ⟨p, cap, rfl, rfl⟩|⟨b, off, cap, rfl, hlt, hc⟩
  · cases p with
    | none =>
      refine ⟨v, w, ?_, by simpa using ho, World.grownBy.refl _ _⟩
      rcases ho.2 with ⟨rfl, _⟩|⟨g, c, cur, rfl, _, _, hnc, _⟩
      · simp [Builtin.append_, run_underlying Tryz.underlying28, sizeOf, typeInfo, hi, Builtin.lenOf, Builtin.firstCells]
      · simp [Builtin.append_, run_underlying Tryz.underlying28, sizeOf, typeInfo, hi, Builtin.lenOf, Builtin.firstCells, hnc, storeCells]
    | some ad =>
      obtain ⟨v', w', hr, h2, h3, _, h5⟩ := run_append_own_at (P := Tryz.prog) w base 28 ty 27 i0 _ 1 24 Tryz.underlying28 hi hz0 hz1 hz2 rfl (by decide) v cs.length cs ho ad 0 cap [] rfl (by simp) (by simp) (by simpa using big) (by simp at hl;omega) hb
      exact ⟨v', w', hr, by simpa using h2, h3⟩
  · obtain ⟨v', w', hr, h2, h3, _, h5⟩ := run_append_own_at (P := Tryz.prog) w base 28 ty 27 i0 _ 1 24 Tryz.underlying28 hi hz0 hz1 hz2 rfl (by decide) v cs.length cs ho ⟨b, off, none⟩ M.length cap (M.flatMap RowN.cells) hML (fun j u hu => by
        have hj : j < M.length := by have := (List.getElem?_eq_some_iff.1 hu).1;rw [hML] at this;omega
        have he : (⟨b, off, none⟩ : Addr).add j = ⟨b, off + j, none⟩ := by unfold Addr.add;split <;> simp_all
        rw [he]
        have hm : (M.map RowN.cells)[j]? = some (M[j]).cells := by rw [List.getElem?_map, List.getElem?_eq_getElem hj];rfl
        have h0 := hc j 0 (M[j]).cells (M[j]).v hm rfl
        have h6 := flatG_at (k := 1) (f := RowN.cells) (fun _ => rfl) M j 0 M[j] (M[j]).v (List.getElem?_eq_getElem hj) rfl
        simp only [Nat.mul_one, Nat.add_zero] at h0 h6
        rw [h6] at hu
        cases hu
        exact h0) (fun u hu => by
          obtain ⟨y, hy, hu⟩ := List.mem_flatMap.1 hu
          unfold RowN.cells at hu
          simp only [List.mem_singleton] at hu
          rw [hu]
          exact h1 y hy) big (by omega) hb
    exact ⟨v', w', hr, h2, h3⟩
theorem wpList_appR {w : World} {ops : Array Oper} {rest : List Oper} {o : Oper} {a : Act} {Q : Exit → Act → World → Prop} (hgd : o.guard = none) (s x : Operand)
    (ho : o.op = .call { callee := .builtin .append, args := #[s, x], argTypes := #[28, 28] }) {base : Nat} {v xv : Value} {cs : List Value} {M : List RowN} (hs : a.eval s = v) (hown : w.ownsRow base 27 1 v cs.length cs) (hx : a.eval x = xv) (hM : HoldsG 1 RowN.cells w xv M)
    (h1 : ∀ y ∈ M, y.v.oneCell' = true) (hl : cs.length + M.length ≤ 1000000) (hb : base ≤ w.heap.size)
    (h : ∀ v' w', w'.ownsRow base 27 1 v' (cs.length + M.length) (cs ++ M.flatMap RowN.cells) → w.grownBy w' v.ownBlock → wpList Tryz.prog ops Q rest (a.put o.dst v') w') : wpList Tryz.prog ops Q (o :: rest) a w := by
  refine wpList_plain hgd fun K hK => ?_
  obtain ⟨v', w', hr, h2, h3⟩ := appR hown hM h1 hl hb o.type
  unfold Oper.wp execOp
  simp only [ho, resolve, invoke, builtin, Sem.run_bind, Sem.run_pure, Result.andThen_ok, List.map_toArray, List.map_cons, List.map_nil, hs, hx, hr]
  exact hK _ _ (h v' w' h2 h3)
theorem rows_mk {w : World} {base : Nat} {v a b : Value} {xr xl : List Int} {xe : List RowN} (ho : w.ownsRow base 27 1 v ([a, b].length + xe.length) ([a, b] ++ xe.flatMap RowN.cells)) : HoldsG 1 RowN.cells w v (⟨a, xr⟩ :: ⟨b, xl⟩ :: xe) := by
  refine HoldsG.of_own (k := 1) (f := RowN.cells) (base := base) (fun _ => rfl) (e := 27) ?_
  have e1 : (⟨a, xr⟩ :: ⟨b, xl⟩ :: xe : List RowN).length = [a, b].length + xe.length := by simp;omega
  rw [e1]
  exact ho
set_option maxRecDepth 100000 in
set_option maxHeartbeats 6400000 in
theorem Where {w : World} {t : TabV} {x : WhV} (h : HoldsT w t) (hx : HoldsW w x) (hzl : t.zs.length ≤ 100) (hel : ∀ z ∈ t.zs, z.es.length ≤ 1000) (hrl : x.rs.length ≤ 100) (hll : x.ls.length ≤ 100) (hyl : ∀ y ∈ x.es, y.ns.length ≤ 100) (ht : Tab w) :
    Calls Tryz.prog 10 #[.agg #[t.rv, t.zv, t.lv], .agg #[x.rv, x.ev, x.lv]] w fun e w' => e = .returned (.bool (Ck.whereB t.rs.length t.zs t.ls.length x.rs (x.es.map RowN.ns) x.ls)) ∧ Below w.heap.size w w' := by
  obtain ⟨rv, zv, lv, rs, zs, ls⟩ := t
  obtain ⟨xrv, xev, xlv, xr, xe, xl⟩ := x
  have hzf := h.zf;have hef := hx.ef
  have hxr := hx.r;have hxl := hx.l;have hxe := hx.e
  have hr := h.r
  obtain ⟨pr, cr, e1⟩ := h.r.form
  obtain ⟨pz, cz, e2, hpz⟩ := h.z.pk
  obtain ⟨pl, cl, e3⟩ := h.l.form
  obtain ⟨px, cx, e4⟩ := hx.r.form
  obtain ⟨pe, ce, e5, hpe⟩ := hx.e.pk
  obtain ⟨py, cy, e6⟩ := hx.l.form
  dsimp only at e1 e2 e3 e4 e5 e6 hpz hpe hzf hef hzl hel hrl hll hyl hxr hxl hxe hr ⊢
  subst e1 e2 e3 e4 e5 e6
  clear h hx
  obtain ⟨R, hR⟩ : ∃ r, r = Ck.whereB rs.length zs ls.length xr (xe.map RowN.ns) xl := ⟨_, rfl⟩
  rw [← hR]
  obtain ⟨nr, hnr⟩ : ∃ n, n = rs.length := ⟨_, rfl⟩
  obtain ⟨nz, hnz⟩ : ∃ n, n = zs.length := ⟨_, rfl⟩
  obtain ⟨nl, hnl⟩ : ∃ n, n = ls.length := ⟨_, rfl⟩
  obtain ⟨mr, hmr⟩ : ∃ n, n = xr.length := ⟨_, rfl⟩
  obtain ⟨mz, hmz⟩ : ∃ n, n = xe.length := ⟨_, rfl⟩
  obtain ⟨ml, hml⟩ : ∃ n, n = xl.length := ⟨_, rfl⟩
  rw [← hmr, ← hmz, ← hml, ← hnr, ← hnz, ← hnl]
  rw [← hnz] at hzl
  rw [← hmr] at hrl
  rw [← hml] at hll
  rw [← hmr] at hxr
  rw [← hml] at hxl
  rw [← hmz] at hxe
  rw [← hnr] at hr
  have cends := fun (X : World) (hX : Below w.heap.size w X) (k : Nat) (z : ZoneV) (hz : zs[k]? = some z) => Zn.Ends (hr.later hX) ((hzf z (List.mem_of_getElem? hz)).later hX).e z.name (by have := hel z (List.mem_of_getElem? hz);omega) (ht.later hX)
  have CE := Lib.hid cends
  have HPZ := Lib.hid hpz;have HPE := Lib.hid hpe;have HZF := Lib.hid hzf;have HEF := Lib.hid hef;have HXR := Lib.hid hxr;have HXL := Lib.hid hxl;have HXE := Lib.hid hxe;have HEL := Lib.hid hel;have HYL := Lib.hid hyl
  have HNR := Lib.hid hnr;have HNZ := Lib.hid hnz;have HNL := Lib.hid hnl;have HMR := Lib.hid hmr;have HMZ := Lib.hid hmz;have HML := Lib.hid hml
  have HR := Lib.hid hR
  clear cends hpz hpe hzf hef hxr hxl hxe hr ht hel hyl hnr hnz hnl hmr hmz hml hR
  by_cases h1 : mr = nr
  case neg =>
    have e1 : ((mr : Int) != (nr : Int)) = true := RCk.lens_ok.2 h1
    have HE : Hid (R = false) := by rw [HR.out];unfold whereB;rw [← HMR.out, ← HNR.out, decide_eq_false h1];exact rfl
    clear h1
    go_enter Tryz.func10, Tryz.ntmps10
    go_wp2
    go_ret
    exact ⟨by rw [HE.out];rfl, by repeat (first|(with_reducible exact Below.refl _ _)|(with_reducible assumption)|(with_reducible refine ba ?_)|(with_reducible refine bd ?_)|(with_reducible refine bdn ?_ _)|(with_reducible refine bset ?_ (by first|exact Nat.le_refl _|omega|(simp;done)|(simp;omega)))|(with_reducible refine bt ?_ (by with_reducible assumption)))⟩
  by_cases h2 : mz = nz
  case neg =>
    have e1 : ((mr : Int) != (nr : Int)) = false := by simp [h1]
    have e2 : ((mz : Int) != (nz : Int)) = true := RCk.lens_ok.2 h2
    have HE : Hid (R = false) := by rw [HR.out];unfold whereB;rw [List.length_map, ← HMZ.out, ← HNZ.out, decide_eq_false h2, Bool.false_and, Bool.and_false];exact rfl
    clear h1 h2
    go_enter Tryz.func10, Tryz.ntmps10
    go_wp2
    go_ret
    exact ⟨by rw [HE.out];rfl, by repeat (first|(with_reducible exact Below.refl _ _)|(with_reducible assumption)|(with_reducible refine ba ?_)|(with_reducible refine bd ?_)|(with_reducible refine bdn ?_ _)|(with_reducible refine bset ?_ (by first|exact Nat.le_refl _|omega|(simp;done)|(simp;omega)))|(with_reducible refine bt ?_ (by with_reducible assumption)))⟩
  by_cases h3 : ml = nl
  case neg =>
    have e1 : ((mr : Int) != (nr : Int)) = false := by simp [h1]
    have e2 : ((mz : Int) != (nz : Int)) = false := by simp [h2]
    have e3 : ((ml : Int) != (nl : Int)) = true := RCk.lens_ok.2 h3
    have HE : Hid (R = false) := by rw [HR.out];unfold whereB;rw [← HML.out, ← HNL.out, decide_eq_false h3, Bool.false_and, Bool.and_false, Bool.and_false];exact rfl
    clear h1 h2 h3
    go_enter Tryz.func10, Tryz.ntmps10
    go_wp2
    go_ret
    exact ⟨by rw [HE.out];rfl, by repeat (first|(with_reducible exact Below.refl _ _)|(with_reducible assumption)|(with_reducible refine ba ?_)|(with_reducible refine bd ?_)|(with_reducible refine bdn ?_ _)|(with_reducible refine bset ?_ (by first|exact Nat.le_refl _|omega|(simp;done)|(simp;omega)))|(with_reducible refine bt ?_ (by with_reducible assumption)))⟩
  subst h1 h2 h3
  obtain ⟨V, hV⟩ : ∃ V, V = ((w.alloc (.cells #[.slice pr mr cr, .slice pz mz cz, .slice pl ml cl] 26)).alloc (.cells #[.slice px mr cx, .slice pe mz ce, .slice py ml cy] 30)) := ⟨_, rfl⟩
  have hbV : Below w.heap.size w V := by rw [hV];repeat (first|(with_reducible exact Below.refl _ _)|(with_reducible assumption)|(with_reducible refine ba ?_)|(with_reducible refine bd ?_)|(with_reducible refine bdn ?_ _)|(with_reducible refine bset ?_ (by first|exact Nat.le_refl _|omega|(simp;done)|(simp;omega)))|(with_reducible refine bt ?_ (by with_reducible assumption)))
  have hbT : Box V w.heap.size #[.slice pr mr cr, .slice pz mz cz, .slice pl ml cl] 26 := by rw [hV];exact (Box.new w _ _).old
  have hbW : Box V (w.heap.size + 1) #[.slice px mr cx, .slice pe mz ce, .slice py ml cy] 30 := by
    rw [hV]
    have := Box.new (w.alloc (.cells #[.slice pr mr cr, .slice pz mz cz, .slice pl ml cl] 26)) #[.slice px mr cx, .slice pe mz ce, .slice py ml cy] 30
    simpa using this
  have hsV : w.heap.size + 1 < V.heap.size := hbW.lt
  have HV := Lib.hid hV;have HBT := Lib.hid hbT;have HBW := Lib.hid hbW
  clear hV
  have hV1 : ∀ X, Below V.heap.size V X → Below w.heap.size w X := fun X hX => hbV.trans (hX.mono hbV.size)
  obtain ⟨V1, hV1e⟩ : ∃ V1, V1 = V.alloc (.cells #[.slice px mr cx, .slice py ml cy] 27) := ⟨_, rfl⟩
  have hbV1 : Below V.heap.size V V1 := by rw [hV1e];repeat (first|(with_reducible exact Below.refl _ _)|(with_reducible assumption)|(with_reducible refine ba ?_)|(with_reducible refine bd ?_)|(with_reducible refine bdn ?_ _)|(with_reducible refine bset ?_ (by first|exact Nat.le_refl _|omega|(simp;done)|(simp;omega)))|(with_reducible refine bt ?_ (by with_reducible assumption)))
  have hVs : V.heap.size = w.heap.size + 1 + 1 := by rw [HV.out];simp
  have ho1 : V1.ownsRow (w.heap.size + 1 + 1) 27 1 (.slice (some ⟨w.heap.size + 1 + 1, 0, none⟩) 2 2) 2 [.slice px mr cx, .slice py ml cy] := by
    rw [hV1e, ← hVs]
    exact ⟨rfl, .inr ⟨V.heap.size, 2, _, rfl, Nat.le_refl _, heap_alloc_new V _, Nat.le_refl _, by decide, rfl, rfl⟩⟩
  have HO1 := Lib.hid ho1;have HV1 := Lib.hid hV1e;have HBV1 := Lib.hid hbV1;have HVW := Lib.hid hV1
  have c1 := hbT.cell
  have c2 := hbW.cell
  have hs8 : w.heap.size < V.heap.size := by omega
  have hxm : ∀ y ∈ xe, y.v.oneCell' = true := fun y hy => by
    obtain ⟨p, c, e⟩ := (HEF.out y hy).h.form
    rw [e]
    rfl
  have HXM := Lib.hid hxm
  have hfl : (xe.map RowN.ns).flatten.length ≤ 100 * mz := by
    have := RCk.flat_len (xe.map RowN.ns) (fun y hy => by
      obtain ⟨u, hu, rfl⟩ := List.mem_map.1 hy
      exact HYL.out u hu)
    rwa [List.length_map, ← HMZ.out] at this
  have hrws : ∀ X, Below V.heap.size V X → ∀ y ∈ (⟨.slice px mr cx, xr⟩ :: ⟨.slice py ml cy, xl⟩ :: xe : List RowN), HoldsI X y.v y.ns := fun X hX y hy => by
    have hX2 := hV1 X hX
    rcases List.mem_cons.1 hy with rfl|hy
    · exact HXR.out.later hX2
    · rcases List.mem_cons.1 hy with rfl|hy
      · exact HXL.out.later hX2
      · exact HoldsG.later (HEF.out y hy).h hX2
  have HRWS := Lib.hid hrws
  have HRL : Hid ((⟨.slice px mr cx, xr⟩ :: ⟨.slice py ml cy, xl⟩ :: xe : List RowN).length ≤ 1000) := by
    rw [List.length_cons, List.length_cons, ← HMZ.out]
    exact (show mz + 1 + 1 ≤ 1000 by omega)
  have HRF : Hid (((⟨.slice px mr cx, xr⟩ :: ⟨.slice py ml cy, xl⟩ :: xe : List RowN).map RowN.ns).flatten.length ≤ 100000) := by
    rw [List.map_cons, List.map_cons, List.flatten_cons, List.flatten_cons, List.length_append, List.length_append]
    show xr.length + (xl.length + _) ≤ 100000
    rw [← HMR.out, ← HML.out]
    omega
  have hb2 : ∀ {X : World}, V1.grownBy X (Value.slice (some ⟨w.heap.size + 1 + 1, 0, none⟩) 2 2).ownBlock → Below V.heap.size V X := fun hg => HBV1.out.grown hg HBV1.out.size (fun j hj => by cases hj;exact Nat.le_of_eq hVs)
  clear ho1 hV1e hbV1 hV1 hxm hfl hrws
  go_enter Tryz.func10, Tryz.ntmps10
  go_wp2_with (first
    | (at_builtin;rw [← HV.out, ← HV1.out];refine wpList_appR rfl _ _ rfl rfl HO1.out rfl (HXE.out.later (HVW.out _ HBV1.out)) HXM.out (by rw [← HMZ.out];show 2 + mz ≤ _;omega) (Nat.le_trans (Nat.le_of_eq hVs.symm) HBV1.out.size) ?_;intro v2 w2 ho2 hg2)
    | (go_at_call 27;refine (Concat (rows_mk (xr := xr) (xl := xl) ho2) (HRWS.out w2 (hb2 hg2)) HRL.out HRF.out).mono ?_;rintro e w5 ⟨v5, rfl, ho5, hb5⟩;have b5 := (hb2 hg2).trans (hb5.mono (hb2 hg2).size);have cT5 := (hbT.later b5).cell;have HO5 := Lib.hid ho5;clear ho5 ho2 hb5))
  have hbw5 : Below w.heap.size w w5 := hbV.trans (b5.mono hbV.size)
  have hT5 := hbT.later b5
  have hW5 := hbW.later b5
  have hs5 := b5.size
  clear cT5 c1 c2 hg2 hb2 b5
  go_loopw [47] (fun i wr => ∃ k : Nat, i = .int .i64 k ∧ k ≤ mz ∧ Below w5.heap.size w5 wr ∧ Hid (((zs.zip (xe.map RowN.ns)).take k).all zoneOk = true)) (fun i _ => mz - (intOf i).toNat)
  case atStart => exact ⟨0, rfl, Nat.zero_le _, Below.refl _ _, rfl⟩
  case round =>
    obtain ⟨k, rfl, hk, hbr, HZ⟩ := hrel
    have hbw : Below w.heap.size w wr := hbw5.trans (hbr.mono hbw5.size)
    have hsz := hbr.size
    have hs8 : w.heap.size < wr.heap.size := by omega
    have hs9 : w.heap.size + 1 < wr.heap.size := by omega
    have hT := hT5.later hbr
    have hW := hW5.later hbr
    have cT := hT.cell
    have cW := hW.cell
    by_cases hlt : k < mz
    · obtain ⟨z, hz⟩ : ∃ z, zs[k]? = some z := ⟨_, List.getElem?_eq_getElem (by rw [← HNZ.out];exact hlt)⟩
      obtain ⟨y, hy⟩ : ∃ y, xe[k]? = some y := ⟨_, List.getElem?_eq_getElem (by rw [← HMZ.out];exact hlt)⟩
      obtain ⟨g1, o1, rfl, hg1, d1⟩ := HPZ.out k z hz
      have z0 := (hbw.cell (p := ⟨g1, o1 + k * 2 + 0, none⟩) hg1).trans (d1 0 _ rfl)
      have z1 := (hbw.cell (p := ⟨g1, o1 + k * 2 + 1, none⟩) hg1).trans (d1 1 _ rfl)
      rw [Nat.add_zero] at z0
      obtain ⟨g2, o2, rfl, hg2, d2⟩ := HPE.out k y hy
      have y0 := (hbw.cell (p := ⟨g2, o2 + k * 1 + 0, none⟩) hg2).trans (d2 0 _ rfl)
      rw [Nat.mul_one, Nat.add_zero] at y0
      have cz := CE.out wr hbw k z hz
      have hyf := HEF.out y (List.mem_of_getElem? hy)
      have hzf := HZF.out z (List.mem_of_getElem? hz)
      obtain ⟨pp, cc, hv⟩ := hzf.e.form
      obtain ⟨pq, cq, hv2⟩ := hyf.h.form
      have hyr := hyf.h
      rw [hv2] at y0 hyr
      rw [hv] at z1
      have hyl := HYL.out y (List.mem_of_getElem? hy)
      have hyz : (xe.map RowN.ns)[k]? = some y.ns := by rw [List.getElem?_map, hy];rfl
      have hzip := RCk.zip_at hz hyz
      have HYR := Lib.hid hyr;have HZIP := Lib.hid hzip
      have cz2 := fun (X : World) (hX : Below w.heap.size w X) => CE.out X hX k z hz
      rw [hv] at cz2
      have CZ := Lib.hid cz2
      obtain ⟨zl, hzl2⟩ : ∃ n, n = z.es.length := ⟨_, rfl⟩
      obtain ⟨yl, hyl2⟩ : ∃ n, n = y.ns.length := ⟨_, rfl⟩
      rw [← hzl2] at z1 CZ
      rw [← hyl2] at y0 hyl HYR
      have HZL := Lib.hid hzl2;have HYL2 := Lib.hid hyl2
      obtain ⟨E, hE⟩ : ∃ E, E = Zn.endsE z.es := ⟨_, rfl⟩
      unfold Zn.EndsPost at CZ
      rw [← hE] at CZ
      unfold Zn.endsE at hE
      have q1 : (k : Int) < (mz : Int) := by omega
      clear d1 d2 cz cz2 hyf hzf hv hv2 hyr hzip hz hy hyz hzl2 hyl2
      have b7 : ∀ X, Below wr.heap.size wr X → Below w5.heap.size w5 X := fun X hX => hbr.trans (hX.mono hbr.size)
      have B7 := Lib.hid b7
      clear b7
      have hZ7 : Box (wr.alloc (.cells #[.string z.name, .slice pp zl cc] 42)) wr.heap.size #[.string z.name, .slice pp zl cc] 42 := Box.new _ _ _
      have hg3 : g2 < (wr.alloc (.cells #[.string z.name, .slice pp zl cc] 42)).heap.size := by rw [World.size_alloc];omega
      have y8 := (World.cell?_alloc_lt wr (.cells #[.string z.name, .slice pp zl cc] 42) ⟨g2, o2 + k, none⟩ (show g2 < wr.heap.size by omega)).trans y0
      cases hzb : Zn.zoneB z.es with
      | false =>
        have HE : Hid (R = false) := by rw [HR.out];exact RCk.where_bad HZIP.out (by unfold zoneOk;dsimp only;rw [hzb];rfl)
        rw [hzb] at hE
        simp only [Bool.false_eq_true, if_false] at hE
        subst hE
        clear hzb
        go_wp2_with (go_at_call 28;refine (CZ.out _ ?_).mono ?_;(· repeat (first|(with_reducible exact Below.refl _ _)|(with_reducible assumption)|(with_reducible refine ba ?_)|(with_reducible refine bd ?_)|(with_reducible refine bdn ?_ _)|(with_reducible refine bset ?_ (by first|exact Nat.le_refl _|omega|(simp;done)|(simp;omega)))|(with_reducible refine bt ?_ (by with_reducible assumption))));rintro e w3 ⟨v3, rfl, _, hb3⟩)
        (refine region_later (by kernel_rfl) (by kernel_rfl) ?_;(repeat (go_big_quiet_step (first|fail)));refine wpQuiet_nil ?_;rintro u8 ⟨xU, eU⟩;have hu8 := xU.h;rw [← eU] at hu8;clear eU xU)
        go_wp2
        go_ret
        exact ⟨by rw [HE.out];rfl, by repeat (first|(with_reducible exact Below.refl _ _)|(with_reducible assumption)|(with_reducible refine ba ?_)|(with_reducible refine bd ?_)|(with_reducible refine bdn ?_ _)|(with_reducible refine bset ?_ (by first|exact Nat.le_refl _|omega|(simp;done)|(simp;omega)))|(with_reducible refine bt ?_ (by with_reducible assumption)))⟩
      | true =>
        rw [hzb] at hE
        simp only [if_true] at hE
        subst hE
        by_cases hle : yl = zl
        case neg =>
          have HE : Hid (R = false) := by rw [HR.out];exact RCk.where_bad HZIP.out (by unfold zoneOk;dsimp only;rw [hzb, ← HYL2.out, ← HZL.out, decide_eq_false hle];rfl)
          have e5 : ((yl : Int) != (zl : Int)) = true := RCk.lens_ok.2 hle
          clear hzb hle
          go_wp2_with (go_at_call 28;refine (CZ.out _ ?_).mono ?_;(· repeat (first|(with_reducible exact Below.refl _ _)|(with_reducible assumption)|(with_reducible refine ba ?_)|(with_reducible refine bd ?_)|(with_reducible refine bdn ?_ _)|(with_reducible refine bset ?_ (by first|exact Nat.le_refl _|omega|(simp;done)|(simp;omega)))|(with_reducible refine bt ?_ (by with_reducible assumption))));rintro e w3 ⟨v3, rfl, _, hb3⟩;have c7 := (hZ7.later hb3).cell;have d7 := (Box.cell (show Box w3 (w.heap.size + 1) _ _ from (hW.old).later hb3));have hs7 := hb3.size;rw [World.size_alloc] at hs7;have s71 : w.heap.size + 1 < w3.heap.size := (by omega);have s72 : wr.heap.size < w3.heap.size := (by omega);have s73 : g2 < w3.heap.size := (by omega);clear hs7;have y7 := (hb3.cell (p := ⟨g2, o2 + k, none⟩) hg3).trans y8)
          (refine region_later (by kernel_rfl) (by kernel_rfl) ?_;(repeat (go_big_quiet_step (first|fail)));refine wpQuiet_nil ?_;rintro u8 ⟨xU, eU⟩;have hu8 := xU.h;rw [← eU] at hu8;clear eU xU)
          go_wp2
          go_ret
          exact ⟨by rw [HE.out];rfl, by repeat (first|(with_reducible exact Below.refl _ _)|(with_reducible assumption)|(with_reducible refine ba ?_)|(with_reducible refine bd ?_)|(with_reducible refine bdn ?_ _)|(with_reducible refine bset ?_ (by first|exact Nat.le_refl _|omega|(simp;done)|(simp;omega)))|(with_reducible refine bt ?_ (by with_reducible assumption)))⟩
        case pos =>
          have HE : Hid (zoneOk (z, y.ns) = true) := by unfold zoneOk;dsimp only;rw [hzb, ← HYL2.out, ← HZL.out, decide_eq_true hle];rfl
          subst hle
          clear hzb
          go_wp2_with (go_at_call 28;refine (CZ.out _ ?_).mono ?_;(· repeat (first|(with_reducible exact Below.refl _ _)|(with_reducible assumption)|(with_reducible refine ba ?_)|(with_reducible refine bd ?_)|(with_reducible refine bdn ?_ _)|(with_reducible refine bset ?_ (by first|exact Nat.le_refl _|omega|(simp;done)|(simp;omega)))|(with_reducible refine bt ?_ (by with_reducible assumption))));rintro e w3 ⟨v3, rfl, _, hb3⟩;have c7 := (hZ7.later hb3).cell;have d7 := (Box.cell (show Box w3 (w.heap.size + 1) _ _ from (hW.old).later hb3));have hs7 := hb3.size;rw [World.size_alloc] at hs7;have s71 : w.heap.size + 1 < w3.heap.size := (by omega);have s72 : wr.heap.size < w3.heap.size := (by omega);have s73 : g2 < w3.heap.size := (by omega);clear hs7;have y7 := (hb3.cell (p := ⟨g2, o2 + k, none⟩) hg3).trans y8)
          (refine region_later (by kernel_rfl) (by kernel_rfl) ?_;(repeat (go_big_quiet_step (first|fail)));refine wpQuiet_nil ?_;rintro u8 ⟨xU, eU⟩;have hu8 := xU.h;rw [← eU] at hu8;clear eU xU)
          have b38 : Below wr.heap.size wr u8 := by repeat (first|(with_reducible exact Below.refl _ _)|(with_reducible assumption)|(with_reducible refine ba ?_)|(with_reducible refine bd ?_)|(with_reducible refine bdn ?_ _)|(with_reducible refine bset ?_ (by first|exact Nat.le_refl _|omega|(simp;done)|(simp;omega)))|(with_reducible refine bt ?_ (by with_reducible assumption)))
          have bV8 := B7.out u8 b38
          clear hb3 hu8 c7 d7 y7 y8 hZ7 cT cW hT hW y0 z0 z1 b38 hg3
          go_wp2
          go_roundw
          case rel => exact ⟨k + 1, by go_num, by omega, bV8, Eqs.take_all HZIP.out HZ.out HE.out⟩
          case measure => simp [intOf];omega
    · obtain rfl : mz = k := by omega
      have hZ := HZ.out
      rw [List.take_of_length_le (by rw [List.length_zip, List.length_map, ← HNZ.out, ← HMZ.out];omega)] at hZ
      have HC := Lib.hid (HoldsI.of_own (RBk.own_lat HO5.out hbr))
      have HE : Hid (R = !!((RowN.ns ⟨.slice px mr cx, xr⟩ :: RowN.ns ⟨.slice py ml cy, xl⟩ :: xe.map RowN.ns).flatten.all fun n => decide ((1 : Int) ≤ n))) := by
        rw [HR.out, Bool.not_not]
        unfold whereB
        rw [hZ, ← HMR.out, ← HNR.out, List.length_map, ← HMZ.out, ← HNZ.out, ← HML.out, ← HNL.out, decide_eq_true rfl, decide_eq_true rfl, decide_eq_true rfl]
        simp only [Bool.true_and]
        unfold lines
        simp [List.append_assoc]
        exact trivial
      obtain ⟨Q, hQ⟩ : ∃ b, b = ((RowN.ns ⟨.slice px mr cx, xr⟩ :: RowN.ns ⟨.slice py ml cy, xl⟩ :: xe.map RowN.ns).flatten.all fun n => decide ((1 : Int) ≤ n)) := ⟨_, rfl⟩
      have hcc := Contains HC.out
      rw [show (List.map RowN.ns (⟨.slice px mr cx, xr⟩ :: ⟨.slice py ml cy, xl⟩ :: xe)).flatten.all (fun n => decide ((1 : Int) ≤ n)) = Q from hQ.symm] at hcc
      rw [← hQ] at HE
      clear hQ hZ HZ HC
      cases Q with
      | true =>
        go_wp2_with (go_at_call 29;refine hcc.mono ?_;rintro e w' ⟨rfl, rfl⟩)
        go_ret
        exact ⟨by rw [HE.out];rfl, by repeat (first|(with_reducible exact Below.refl _ _)|(with_reducible assumption)|(with_reducible refine ba ?_)|(with_reducible refine bd ?_)|(with_reducible refine bdn ?_ _)|(with_reducible refine bset ?_ (by first|exact Nat.le_refl _|omega|(simp;done)|(simp;omega)))|(with_reducible refine bt ?_ (by with_reducible assumption)))⟩
      | false =>
        go_wp2_with (go_at_call 29;refine hcc.mono ?_;rintro e w' ⟨rfl, rfl⟩)
        go_ret
        exact ⟨by rw [HE.out];rfl, by repeat (first|(with_reducible exact Below.refl _ _)|(with_reducible assumption)|(with_reducible refine ba ?_)|(with_reducible refine bd ?_)|(with_reducible refine bdn ?_ _)|(with_reducible refine bset ?_ (by first|exact Nat.le_refl _|omega|(simp;done)|(simp;omega)))|(with_reducible refine bt ?_ (by with_reducible assumption)))⟩
end CkW
end Go.Proofs.YtcfmchpoclkpgaaGreatDoor
