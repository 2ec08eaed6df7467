import Derived.Test.YtcfmchpoclkpgaaGreatDoorCkWh
namespace Go.Proofs.YtcfmchpoclkpgaaGreatDoor
open Go.RowKit NB
namespace RCk
open Ck
theorem own_ne {w : World} {B1 B2 : Nat} {e1 e2 : TypeId} {s1 s2 : Nat} {v u : Value} {n m : Nat} {xs ys : List Value} (h : w.ownsRow B1 e1 s1 v n xs) (h2 : w.ownsRow B2 e2 s2 u m ys) (he : e1 ≠ e2) : v.ownBlock = none ∨ v.ownBlock ≠ u.ownBlock := by
  rcases h.2 with ⟨rfl, _⟩|⟨g, c, cur, rfl, _, hg, _⟩
  · exact .inl rfl
  · refine .inr (fun hq => ?_)
    rcases h2.2 with ⟨rfl, _⟩|⟨g2, c2, cur2, rfl, _, hg2, _⟩
    · cases hq
    · have e : g = g2 := by simpa [Value.ownBlock] using hq
      subst e
      rw [hg] at hg2
      simp only [Option.some.injEq, Obj.cells.injEq] at hg2
      exact he hg2.2.1
theorem own_solo {W U : World} {X base : Nat} {e : TypeId} {sz : Nat} {v : Value} {n : Nat} {xs : List Value} (h : W.ownsRow base e sz v n xs) (h2 : CkW.Solo W U X) (hX : X < base) : U.ownsRow base e sz v n xs :=
  h.kept (row := some X) ⟨h2.os, h2.tape, h2.output, h2.size, fun k hk hne => h2.block k hk (fun e => hne (by rw [e])) (fun e => hne (by rw [e]))⟩ (.inr (fun e => by have := (h.lt X e).1;omega))
theorem solo_set {V W : World} {X j : Nat} {v : Value} (h : CkW.Solo V W X) : CkW.Solo V (W.setCell ⟨X, j, none⟩ v) X :=
  ⟨h.os, h.tape, h.output, by simpa using h.size, fun k hk h1 h2 => (Below.heap_setCell W ⟨X, j, none⟩ v k (show k ≠ X from h1)).trans (h.block k hk h1 h2)⟩
theorem solo_self (W : World) (X j : Nat) (v : Value) : CkW.Solo W (W.setCell ⟨X, j, none⟩ v) X := solo_set (BkN.Far.refl _ _ _)
theorem solo_app {V W U : World} {X : Nat} {e : TypeId} {v : Value} {n : Nat} {xs : List Value} (h : CkW.Solo V W X) (ho : W.ownsRow V.heap.size e 1 v n xs) (hg : W.grownBy U v.ownBlock) : CkW.Solo V U X :=
  h.grown hg (fun r hr => .inr (.inr (ho.lt r hr).1))
theorem one_int {W : World} {b c : Nat} {n : Int} {t : TypeId} (h : Box W b #[.int .i64 n] t) : HoldsI W (.slice (some ⟨b, 0, none⟩) 1 c) [n] := by
  refine ⟨.inr ⟨b, 0, c, rfl, h.lt, fun i j cs v hi hj => ?_⟩, by simp⟩
  match i, hi with
  | 0, hi =>
    simp only [List.map_cons, List.getElem?_cons_zero, Option.some.injEq] at hi
    subst hi
    match j, hj with
    | 0, hj =>
      cases hj
      exact h.cell 0
theorem one_row {W : World} {b c : Nat} {y : RowN} {t : TypeId} (h : Box W b #[y.v] t) : HoldsG 1 RowN.cells W (.slice (some ⟨b, 0, none⟩) 1 c) [y] := by
  refine ⟨.inr ⟨b, 0, c, rfl, h.lt, fun i j cs v hi hj => ?_⟩, by simp⟩
  match i, hi with
  | 0, hi =>
    simp only [List.map_cons, List.getElem?_cons_zero, Option.some.injEq] at hi
    subst hi
    match j, hj with
    | 0, hj =>
      cases hj
      exact h.cell 0
theorem box_app {W U : World} {X B : Nat} {cs : Array Value} {t e : TypeId} {v : Value} {n : Nat} {xs : List Value} (hX : Box W X cs t) (ho : W.ownsRow B e 1 v n xs) (hXB : X < B) (hg : W.grownBy U v.ownBlock) : Box U X cs t := (hg.block X hX.lt (fun e => by have := (ho.lt X e.symm).1;omega)).trans hX
theorem own_form {w : World} {base : Nat} {e : TypeId} {sz : Nat} {v : Value} {n : Nat} {xs : List Value} (h : w.ownsRow base e sz v n xs) : ∃ p m c, v = .slice p m c := by
  rcases h.2 with ⟨rfl, _⟩|⟨g, c, cur, rfl, _⟩
  · exact ⟨_, _, _, rfl⟩
  · exact ⟨_, _, _, rfl⟩
theorem rows_len (l : List RowN) : (l.flatMap RowN.cells).length = l.length := by
  have := flatG_len (k := 1) (f := RowN.cells) (fun _ => rfl) l
  omega
def PlainPost (w : World) (t : TabV) (e : Ending) (w' : World) : Prop :=
  ∃ x : WhV, e = .returned (.agg #[x.rv, x.ev, x.lv]) ∧ HoldsW w' x ∧ Below w.heap.size w w' ∧ x.rs = up 0 t.rs.length ∧ x.es.map RowN.ns = upE t.rs.length t.zs ∧ x.ls = up (t.rs.length + sumE t.zs) t.ls.length
theorem up_i64 {m n : Nat} (h : m + n ≤ 1000000) : ∀ x ∈ up m n, I64 x := fun x hx => by
  have := up_mem hx
  unfold I64
  omega
theorem sumE_le : ∀ (zs : List ZoneV), (∀ z ∈ zs, z.es.length ≤ 1000) → sumE zs ≤ 1000 * zs.length
  | [], _ => by simp [sumE]
  | z :: zs, h => by
    have h1 := h z (by simp)
    have h2 := sumE_le zs (fun y hy => h y (by simp [hy]))
    show z.es.length + sumE zs ≤ 1000 * (zs.length + 1)
    omega
theorem sumE_take {zs : List ZoneV} {k : Nat} {z : ZoneV} (hz : zs[k]? = some z) : sumE (zs.take (k + 1)) = sumE (zs.take k) + z.es.length := by
  rw [List.take_add_one, hz]
  exact sumE_snoc _ _
theorem upE_take {m : Nat} {zs : List ZoneV} {k : Nat} {z : ZoneV} (hz : zs[k]? = some z) : upE m (zs.take (k + 1)) = upE m (zs.take k) ++ [up (m + sumE (zs.take k)) z.es.length] := by
  rw [List.take_add_one, hz]
  exact upE_snoc _ _ _
set_option maxRecDepth 100000 in
set_option maxHeartbeats 12800000 in
theorem Plain {w : World} {t : TabV} (h : HoldsT w t) (hrs : t.rs.length ≤ 1000) (hzl : t.zs.length ≤ 100) (hel : ∀ z ∈ t.zs, z.es.length ≤ 1000) (hkl : t.ls.length ≤ 1000) :
    Calls Tryz.prog 14 #[.agg #[t.rv, t.zv, t.lv]] w (PlainPost w t) := by
  have hzf := h.zf
  obtain ⟨rv, zv, lv, rs, zs, ls⟩ := t
  obtain ⟨pr, cr, e1⟩ := h.r.form
  obtain ⟨pz, cz, e2, hpz⟩ := h.z.pk
  obtain ⟨pl, cl, e3⟩ := h.l.form
  dsimp only at e1 e2 e3 hpz hzf hrs hzl hel hkl ⊢
  subst e1 e2 e3
  unfold PlainPost
  dsimp only
  have hse := sumE_le zs hel
  obtain ⟨nr, hnr⟩ : ∃ n, n = rs.length := ⟨_, rfl⟩
  obtain ⟨nz, hnz⟩ : ∃ n, n = zs.length := ⟨_, rfl⟩
  obtain ⟨nl, hnl⟩ : ∃ n, n = ls.length := ⟨_, rfl⟩
  rw [← hnz] at hzl hse ⊢
  rw [← hnr] at hrs ⊢
  rw [← hnl] at hkl ⊢
  have HPZ := Lib.hid hpz;have HZF := Lib.hid hzf;have HNZ := Lib.hid hnz;have HEL := Lib.hid hel;have HSE := Lib.hid hse
  clear hpz hzf hnr hnz hnl hel h hse
  obtain ⟨V, hV⟩ : ∃ V, V = (((w.alloc (.cells #[.slice pr nr cr, .slice pz nz cz, .slice pl nl cl] 26)).alloc (.cells #[.slice none 0 0, .slice none 0 0, .slice none 0 0] 30)).alloc (.cells #[.slice none 0 0, .slice none 0 0, .slice none 0 0] 30)) := ⟨_, rfl⟩
  have hbV : Below w.heap.size w V := by rw [hV];repeat (first|(with_reducible exact Below.refl _ _)|(with_reducible assumption)|(with_reducible refine ba ?_)|(with_reducible refine bd ?_)|(with_reducible refine bdn ?_ _)|(with_reducible refine bset ?_ (by first|exact Nat.le_refl _|omega|(simp;done)|(simp;omega)))|(with_reducible refine bt ?_ (by with_reducible assumption)))
  have hbT : Box V w.heap.size #[.slice pr nr cr, .slice pz nz cz, .slice pl nl cl] 26 := by rw [hV];exact (Box.new w _ _).old.old
  have hbR : Box V (w.heap.size + 1) #[.slice none 0 0, .slice none 0 0, .slice none 0 0] 30 := by
    rw [hV]
    have := (Box.new (w.alloc (.cells #[.slice pr nr cr, .slice pz nz cz, .slice pl nl cl] 26)) #[.slice none 0 0, .slice none 0 0, .slice none 0 0] 30).old (o := .cells #[.slice none 0 0, .slice none 0 0, .slice none 0 0] 30)
    simpa using this
  have hbX : Box V (w.heap.size + 1 + 1) #[.slice none 0 0, .slice none 0 0, .slice none 0 0] 30 := by
    rw [hV]
    have := Box.new ((w.alloc (.cells #[.slice pr nr cr, .slice pz nz cz, .slice pl nl cl] 26)).alloc (.cells #[.slice none 0 0, .slice none 0 0, .slice none 0 0] 30)) #[.slice none 0 0, .slice none 0 0, .slice none 0 0] 30
    simpa using this
  have hsV := hbX.lt
  have HV := Lib.hid hV
  clear hV
  go_enter Tryz.func14, Tryz.ntmps14
  go_wp2_with (first|fail)
  rw [← HV.out]
  obtain ⟨X, hXe⟩ : ∃ X, X = w.heap.size + 1 + 1 := ⟨_, rfl⟩
  rw [← hXe] at hbX hsV ⊢
  have hTX : w.heap.size ≠ X := by omega
  have hRX : w.heap.size + 1 ≠ X := by omega
  have hXw : w.heap.size ≤ X := by omega
  have HBX := Lib.hid hbX
  have hBw : ∀ U, CkW.Solo V U X → Below w.heap.size w U := fun U hU => CkW.solo_below hbV hU hXw hbV.size
  have HBW := Lib.hid hBw;have HXE := Lib.hid hXe
  clear hbX hBw hXe
  go_loopw [12, 4] (fun i n wr => ∃ (k : Nat) (v : Value), i = .int .i64 k ∧ n = .int .i64 k ∧ k ≤ nr ∧ CkW.Solo V wr X ∧ Hid (Box wr X #[v, .slice none 0 0, .slice none 0 0] 30) ∧ Hid (OwnI wr V.heap.size v (up 0 k))) (fun i _ _ => nr - (intOf i).toNat)
  case atStart => exact ⟨0, _, rfl, rfl, Nat.zero_le _, BkN.Far.refl _ _ _, HBX, World.ownsRow_nil _ _ _ _⟩
  case round =>
    obtain ⟨k, v, rfl, rfl, hk, hsolo, HX, HO⟩ := hrel
    have hsz := hsolo.size
    have hXs : X < wr.heap.size := HX.out.lt
    have cX := HX.out.cell
    by_cases hlt : k < nr
    · have hX1 := Lib.hid (HX.out.old (o := .cells #[.int .i64 ((k : Int) + 1)] 3))
      have hOa := Lib.hid (HO.out.alloc (.cells #[.int .i64 ((k : Int) + 1)] 3))
      have hsa : CkW.Solo V (wr.alloc (.cells #[.int .i64 ((k : Int) + 1)] 3)) X := CkW.far_lat hsolo (by repeat (first|(with_reducible exact Below.refl _ _)|(with_reducible assumption)|(with_reducible refine ba ?_)|(with_reducible refine bd ?_)|(with_reducible refine bdn ?_ _)|(with_reducible refine bset ?_ (by first|exact Nat.le_refl _|omega|(simp;done)|(simp;omega)))|(with_reducible refine bt ?_ (by with_reducible assumption))))
      have hM := Lib.hid (one_int (c := 1) (Box.new wr #[.int .i64 ((k : Int) + 1)] 3))
      have q1 : (k : Int) < (nr : Int) := by omega
      clear hsolo HO HX
      go_wp2_with (at_builtin;refine IntS.wpList_app rfl _ _ rfl rfl hOa.out rfl hM.out (by rw [up_len];simp;omega) hsa.size ?_;intro v9 w9 ho9 hg9 hx9;obtain ⟨p9, m9, c9, rfl⟩ := own_form ho9;have hs9 := solo_app hsa hOa.out hg9;have hX9 := Lib.hid (box_app hX1.out hOa.out hsV hg9);have cX9 := hX9.out.cell;have fX9 := hX9.out.free;have HO9 := Lib.hid ho9;clear ho9 hg9 hx9)
      have HX2 := Lib.hid (show Box (w9.setCell ⟨X, 0, none⟩ (.slice p9 m9 c9)) X #[(.slice p9 m9 c9), .slice none 0 0, .slice none 0 0] _ from hX9.out.set (j := 0) (v := (.slice p9 m9 c9)))
      have HO2 := Lib.hid (own_solo HO9.out (solo_self w9 X 0 (.slice p9 m9 c9)) hsV)
      have hs2 := solo_set (j := 0) (v := (.slice p9 m9 c9)) hs9
      have HO3 : Hid (OwnI (w9.setCell ⟨X, 0, none⟩ (.slice p9 m9 c9)) V.heap.size (.slice p9 m9 c9) (up 0 (k + 1))) := by
        rw [up_succ, show (((0 + k + 1 : Nat)) : Int) = (k : Int) + 1 by omega]
        exact HO2.out
      clear cX9 fX9 hX9 HO9 hs9 HO2 hX1 hOa hM hsa
      go_roundw
      case rel => exact ⟨k + 1, (.slice p9 m9 c9), by go_num, by go_num, by omega, hs2, HX2, HO3⟩
      case measure => simp [intOf];omega
    · obtain rfl : nr = k := by omega
      obtain ⟨S1, hS1⟩ : ∃ S : World, S = wr := ⟨_, rfl⟩
      rw [← hS1] at hsolo HX HO hsz hXs ⊢
      clear hS1 cX
      have cT := (hsolo.box hbT hTX hTX).cell
      have hXB1 : X < S1.heap.size := hXs
      have HO1 := HO;have HX1 := HX;have hsolo1 := hsolo
      clear HO HX hsolo
      go_wp2_with (first|fail)
      clear cT
      go_loopw [26, 4] (fun i n wr => ∃ (k N : Nat) (e : Value) (rows : List RowN), i = .int .i64 k ∧ n = .int .i64 N ∧ k ≤ nz ∧ N ≤ 1000 + 1000 * k ∧ Hid (N = nr + sumE (zs.take k)) ∧ CkW.Solo S1 wr X ∧ Hid (Box wr X #[v, e, .slice none 0 0] 30) ∧ Hid (wr.ownsRow S1.heap.size 27 1 e rows.length (rows.flatMap RowN.cells)) ∧ Hid (∀ y ∈ rows, OwnI wr S1.heap.size y.v y.ns) ∧ Hid (rows.map RowN.ns = upE nr (zs.take k))) (fun i _ _ => nz - (intOf i).toNat)
      case atStart => exact ⟨0, nr, _, [], rfl, rfl, Nat.zero_le _, by omega, rfl, BkN.Far.refl _ _ _, HX1, World.ownsRow_nil _ _ _ _, (fun y hy => by cases hy), rfl⟩
      case round =>
        clear HX1
        obtain ⟨k, N, e, rows, rfl, rfl, hk, hN, HN, hsolo, HX, HOe, HOy, HMap⟩ := hrel
        have hsz2 := hsolo.size
        have hbw := HBW.out _ (CkW.far_solo hsolo1 hsolo)
        have hXs2 : X < wr.heap.size := HX.out.lt
        by_cases hlt : k < nz
        · obtain ⟨z, hz⟩ : ∃ z, zs[k]? = some z := ⟨_, List.getElem?_eq_getElem (by rw [← HNZ.out];exact hlt)⟩
          obtain ⟨g1, o1, rfl, hg1, d1⟩ := HPZ.out k z hz
          have z0 := (hbw.cell (p := ⟨g1, o1 + k * 2 + 0, none⟩) hg1).trans (d1 0 _ rfl)
          have z1 := (hbw.cell (p := ⟨g1, o1 + k * 2 + 1, none⟩) hg1).trans (d1 1 _ rfl)
          rw [Nat.add_zero] at z0
          obtain ⟨pp, cc, hv⟩ := (HZF.out z (List.mem_of_getElem? hz)).e.form
          rw [hv] at z1
          obtain ⟨ne, hne⟩ : ∃ n, n = z.es.length := ⟨_, rfl⟩
          rw [← hne] at z1
          have hnel : ne ≤ 1000 := by rw [hne];exact HEL.out z (List.mem_of_getElem? hz)
          have hsum := sumE_take hz
          have hupE := upE_take (m := nr) hz
          rw [← hne] at hsum hupE
          rw [← HN.out] at hupE
          have hrl : rows.length ≤ 100 := by
            have := congrArg List.length HMap.out
            rw [List.length_map, upE_len, List.length_take] at this
            omega
          obtain ⟨w7, hw7⟩ : ∃ w7, w7 = wr.alloc (.cells #[.string z.name, .slice pp ne cc] 42) := ⟨_, rfl⟩
          have hb7 : Below wr.heap.size wr w7 := by rw [hw7];repeat (first|(with_reducible exact Below.refl _ _)|(with_reducible assumption)|(with_reducible refine ba ?_)|(with_reducible refine bd ?_)|(with_reducible refine bdn ?_ _)|(with_reducible refine bset ?_ (by first|exact Nat.le_refl _|omega|(simp;done)|(simp;omega)))|(with_reducible refine bt ?_ (by with_reducible assumption)))
          have HW7 := Lib.hid hw7;have HSUM := Lib.hid hsum;have HUPE := Lib.hid hupE;have HB7 := Lib.hid hb7
          have q1 : (k : Int) < (nz : Int) := by omega
          clear d1 hv hne hz hw7 hsum hupE hbw hb7
          go_wp2_with (first|fail)
          rw [← HW7.out]
          go_loopw [33, 4, 7] (fun i n s7 wr => ∃ (i9 : Nat) (l9 : Value), i = .int .i64 i9 ∧ n = .int .i64 ((N + i9 : Nat) : Int) ∧ s7 = l9 ∧ i9 ≤ ne ∧ Below w7.heap.size w7 wr ∧ Hid (OwnI wr w7.heap.size l9 (up N i9))) (fun i _ _ _ => ne - (intOf i).toNat)
          case atStart => exact ⟨0, _, rfl, rfl, rfl, Nat.zero_le _, Below.refl _ _, World.ownsRow_nil _ _ _ _⟩
          case round =>
            obtain ⟨i, l, rfl, rfl, hl7, hi, hbr, HL⟩ := hrel
            obtain ⟨p7, m7, c7, hq7⟩ := own_form HL.out
            subst hq7
            subst hl7
            by_cases hlt2 : i < ne
            · have hLa := Lib.hid (HL.out.alloc (.cells #[.int .i64 (((N + i : Nat) : Int) + 1)] 3))
              have hba : Below w7.heap.size w7 (wr.alloc (.cells #[.int .i64 (((N + i : Nat) : Int) + 1)] 3)) := hbr.alloc hbr.size _
              have hM := Lib.hid (one_int (c := 1) (Box.new wr #[.int .i64 (((N + i : Nat) : Int) + 1)] 3))
              have q2 : (i : Int) < (ne : Int) := by omega
              have q3 : ((N + i : Nat) : Int) ≤ 200000 := by omega
              obtain ⟨Q, hQ⟩ : ∃ Q : Nat, Q = N + i := ⟨_, rfl⟩
              rw [← hQ] at hLa hba hM q3 ⊢
              have HQ := Lib.hid hQ
              clear HL hbr hQ
              go_wp2_with (at_builtin;refine IntS.wpList_app rfl _ _ rfl rfl hLa.out rfl hM.out (by rw [up_len];simp;omega) hba.size ?_;intro v9 w9 ho9 hg9 hx9)
              have hb9 := app_below hba hba.size hLa.out hg9
              have HO3 : Hid (OwnI w9 w7.heap.size v9 (up N (i + 1))) := by
                rw [up_succ, show (((N + i + 1 : Nat)) : Int) = (Q : Int) + 1 by rw [HQ.out];omega]
                exact ho9
              clear ho9 hg9 hx9 hLa hM hba
              go_roundw
              case rel => exact ⟨i + 1, v9, by go_num, by rw [show ((N + (i + 1) : Nat) : Int) = (Q : Int) + 1 by rw [HQ.out];omega], rfl, by omega, hb9, HO3⟩
              case measure => simp [intOf];omega
            · obtain rfl : ne = i := by omega
              have hbr7 : Below _ _ wr := HB7.out.trans (hbr.mono HB7.out.size)
              have hXr := HX.out.later hbr7
              have hOer := RBk.own_lat HOe.out hbr7
              have hOyr := fun y (hy : y ∈ rows) => RBk.own_lat (HOy.out y hy) hbr7
              have hsr := CkW.far_lat hsolo hbr7
              have cX := hXr.cell
              have hXs3 : X < wr.heap.size := hXr.lt
              have hXa := Lib.hid (hXr.old (o := .cells #[.slice p7 m7 c7] 27))
              have hOea := hOer.alloc (.cells #[.slice p7 m7 c7] 27)
              rw [← rows_len] at hOea
              have HOEA := Lib.hid hOea
              have hOya := Lib.hid (fun y (hy : y ∈ rows) => (hOyr y hy).alloc (.cells #[.slice p7 m7 c7] 27))
              have hLa := Lib.hid ((RBk.own_lower HL.out (show S1.heap.size ≤ w7.heap.size from Nat.le_trans hsz2 HB7.out.size)).alloc (.cells #[.slice p7 m7 c7] 27))
              have hsa := CkW.far_lat hsr (show Below wr.heap.size wr (wr.alloc (.cells #[.slice p7 m7 c7] 27)) by repeat (first|(with_reducible exact Below.refl _ _)|(with_reducible assumption)|(with_reducible refine ba ?_)|(with_reducible refine bd ?_)|(with_reducible refine bdn ?_ _)|(with_reducible refine bset ?_ (by first|exact Nat.le_refl _|omega|(simp;done)|(simp;omega)))|(with_reducible refine bt ?_ (by with_reducible assumption))))
              have hM := Lib.hid (one_row (c := 1) (y := ⟨.slice p7 m7 c7, up N ne⟩) (Box.new wr #[.slice p7 m7 c7] 27))
              have hl1 : ∀ y ∈ ([⟨.slice p7 m7 c7, up N ne⟩] : List RowN), y.v.oneCell' = true := fun y hy => by
                simp only [List.mem_singleton] at hy
                subst hy
                rfl
              have HL1 := Lib.hid hl1
              obtain ⟨Q, hQ⟩ : ∃ Q : Nat, Q = N + ne := ⟨_, rfl⟩
              rw [← hQ]
              have HQ := Lib.hid hQ
              clear hbr7 hXr hOer hOyr hsr hl1 hOea hQ hbr
              go_wp2_with (at_builtin;refine CkW.wpList_appR rfl _ _ rfl rfl HOEA.out rfl hM.out HL1.out (by rw [rows_len];simp;omega) hsa.size ?_;intro v9 w9 ho9 hg9;obtain ⟨p9, m9, c9, rfl⟩ := own_form ho9;have hs9 := solo_app hsa HOEA.out hg9;have hX9 := Lib.hid (box_app hXa.out HOEA.out hXB1 hg9);have cX9 := hX9.out.cell;have fX9 := hX9.out.free;have HO9 := Lib.hid ho9;have hy9 := Lib.hid (fun y (hy : y ∈ rows) => (hOya.out y hy).kept hg9 (own_ne (hOya.out y hy) HOEA.out (by decide)));have hL9 := Lib.hid (hLa.out.kept hg9 (own_ne hLa.out HOEA.out (by decide)));clear ho9 hg9)
              have HX2 := Lib.hid (show Box (w9.setCell ⟨X, 1, none⟩ (.slice p9 m9 c9)) X #[v, (.slice p9 m9 c9), .slice none 0 0] _ from hX9.out.set (j := 1) (v := (.slice p9 m9 c9)))
              have HOe2 : Hid ((w9.setCell ⟨X, 1, none⟩ (.slice p9 m9 c9)).ownsRow S1.heap.size 27 1 (.slice p9 m9 c9) (rows ++ [(⟨.slice p7 m7 c7, up N ne⟩ : RowN)]).length ((rows ++ [(⟨.slice p7 m7 c7, up N ne⟩ : RowN)]).flatMap RowN.cells)) := by
                have := own_solo HO9.out (solo_self w9 X 1 (.slice p9 m9 c9)) hXB1
                rw [rows_len] at this
                rw [List.length_append, List.flatMap_append]
                exact this
              have HOy2 : Hid (∀ y ∈ rows ++ [(⟨.slice p7 m7 c7, up N ne⟩ : RowN)], OwnI (w9.setCell ⟨X, 1, none⟩ (.slice p9 m9 c9)) S1.heap.size y.v y.ns) := fun y hy => by
                rcases List.mem_append.1 hy with hy|hy
                · exact own_solo (hy9.out y hy) (solo_self w9 X 1 (.slice p9 m9 c9)) hXB1
                · simp only [List.mem_singleton] at hy
                  subst hy
                  exact own_solo hL9.out (solo_self w9 X 1 (.slice p9 m9 c9)) hXB1
              have hs2 := solo_set (j := 1) (v := (.slice p9 m9 c9)) hs9
              have HMap2 : Hid ((rows ++ [(⟨.slice p7 m7 c7, up N ne⟩ : RowN)]).map RowN.ns = upE nr (zs.take (k + 1))) := by
                rw [List.map_append, HMap.out, HUPE.out]
                exact rfl
              have HN2 : Hid (Q = nr + sumE (zs.take (k + 1))) := by
                have h1 := HQ.out
                have h2 := HSUM.out
                have h3 := HN.out
                exact (show Q = nr + sumE (zs.take (k + 1)) by omega)
              have hQl : Q ≤ 1000 + 1000 * (k + 1) := by have := HQ.out;omega
              clear cX9 fX9 hX9 HO9 hs9 hy9 hL9 hXa HOEA hOya hLa hsa hM cX
              go_roundw
              case rel => exact ⟨k + 1, Q, (.slice p9 m9 c9), rows ++ [(⟨.slice p7 m7 c7, up N ne⟩ : RowN)], by go_num, rfl, by omega, hQl, HN2, hs2, HX2, HOe2, HOy2, HMap2⟩
              case measure => simp [intOf];omega
        · obtain rfl : nz = k := by omega
          obtain ⟨S2, hS2⟩ : ∃ S : World, S = wr := ⟨_, rfl⟩
          rw [← hS2] at hsolo HX HOe HOy hsz2 hXs2 hbw ⊢
          clear hS2
          have hn := HN.out
          rw [List.take_of_length_le (by rw [← HNZ.out];exact Nat.le_refl _)] at hn
          have hmap := HMap.out
          rw [List.take_of_length_le (by rw [← HNZ.out];exact Nat.le_refl _)] at hmap
          have HN2 := Lib.hid hn;have HMap2 := Lib.hid hmap
          obtain ⟨pe, me, ce, hqe⟩ := own_form HOe.out
          subst hqe
          obtain ⟨pv, mv, cv, hqv⟩ := own_form HO1.out
          subst hqv
          have HO2 := Lib.hid (own_solo HO1.out hsolo hsV)
          have hsolo2 := CkW.far_solo hsolo1 hsolo
          have cT := (hsolo2.box hbT hTX hTX).cell
          have HX2 := HX
          have hVS : V.heap.size ≤ S2.heap.size := hsolo2.size
          clear hn hmap HN HMap HX hsolo HO1 hsolo1 hbw
          go_wp2_with (first|fail)
          clear cT
          go_loopw [52, 4] (fun i n wr => ∃ (k : Nat) (v : Value), i = .int .i64 k ∧ n = .int .i64 ((N + k : Nat) : Int) ∧ k ≤ nl ∧ CkW.Solo S2 wr X ∧ Hid (Box wr X #[.slice pv mv cv, .slice pe me ce, v] 30) ∧ Hid (OwnI wr S2.heap.size v (up N k))) (fun i _ _ => nl - (intOf i).toNat)
          case atStart => exact ⟨0, _, rfl, rfl, Nat.zero_le _, BkN.Far.refl _ _ _, HX2, World.ownsRow_nil _ _ _ _⟩
          case round =>
            clear HX2
            obtain ⟨k, v, rfl, rfl, hk, hsolo, HX, HO⟩ := hrel
            have hsz3 := hsolo.size
            have hXs3 : X < wr.heap.size := HX.out.lt
            have cX := HX.out.cell
            by_cases hlt : k < nl
            · obtain ⟨Q, hQ⟩ : ∃ Q : Nat, Q = N + k := ⟨_, rfl⟩
              have q3 : ((N + k : Nat) : Int) ≤ 200000 := by omega
              rw [← hQ] at q3 ⊢
              have HQ := Lib.hid hQ
              clear hQ
              have hX1 := Lib.hid (HX.out.old (o := .cells #[.int .i64 ((Q : Int) + 1)] 3))
              have hOa := Lib.hid (HO.out.alloc (.cells #[.int .i64 ((Q : Int) + 1)] 3))
              have hsa : CkW.Solo S2 (wr.alloc (.cells #[.int .i64 ((Q : Int) + 1)] 3)) X := CkW.far_lat hsolo (by repeat (first|(with_reducible exact Below.refl _ _)|(with_reducible assumption)|(with_reducible refine ba ?_)|(with_reducible refine bd ?_)|(with_reducible refine bdn ?_ _)|(with_reducible refine bset ?_ (by first|exact Nat.le_refl _|omega|(simp;done)|(simp;omega)))|(with_reducible refine bt ?_ (by with_reducible assumption))))
              have hM := Lib.hid (one_int (c := 1) (Box.new wr #[.int .i64 ((Q : Int) + 1)] 3))
              have q1 : (k : Int) < (nl : Int) := by omega
              clear hsolo HO HX
              go_wp2_with (at_builtin;refine IntS.wpList_app rfl _ _ rfl rfl hOa.out rfl hM.out (by rw [up_len];simp;omega) hsa.size ?_;intro v9 w9 ho9 hg9 hx9;obtain ⟨p9, m9, c9, rfl⟩ := own_form ho9;have hs9 := solo_app hsa hOa.out hg9;have hX9 := Lib.hid (box_app hX1.out hOa.out hXs2 hg9);have cX9 := hX9.out.cell;have fX9 := hX9.out.free;have HO9 := Lib.hid ho9;clear ho9 hg9 hx9)
              have HX2 := Lib.hid (show Box (w9.setCell ⟨X, 2, none⟩ (.slice p9 m9 c9)) X #[.slice pv mv cv, .slice pe me ce, .slice p9 m9 c9] _ from hX9.out.set (j := 2) (v := (.slice p9 m9 c9)))
              have HO4 := Lib.hid (own_solo HO9.out (solo_self w9 X 2 (.slice p9 m9 c9)) hXs2)
              have hs2 := solo_set (j := 2) (v := (.slice p9 m9 c9)) hs9
              have HO3 : Hid (OwnI (w9.setCell ⟨X, 2, none⟩ (.slice p9 m9 c9)) S2.heap.size (.slice p9 m9 c9) (up N (k + 1))) := by
                rw [up_succ, show (((N + k + 1 : Nat)) : Int) = (Q : Int) + 1 by rw [HQ.out];omega]
                exact HO4.out
              clear cX9 fX9 hX9 HO9 hs9 HO4 hX1 hOa hM hsa
              go_roundw
              case rel => exact ⟨k + 1, _, by go_num, by rw [show ((N + (k + 1) : Nat) : Int) = (Q : Int) + 1 by rw [HQ.out];omega], by omega, hs2, HX2, HO3⟩
              case measure => simp [intOf];omega
            · obtain rfl : nl = k := by omega
              obtain ⟨pc, mc, cc, hqc⟩ := own_form HO.out
              subst hqc
              have hfin := CkW.far_solo hsolo2 hsolo
              have hbw := HBW.out _ hfin
              have hR := hfin.box hbR hRX hRX
              have cR := hR.cell
              have fR := hR.free
              have ha := own_solo HO2.out hsolo hsV
              have he := own_solo HOe.out hsolo hXB1
              have hy := fun y (hy : y ∈ rows) => own_solo (HOy.out y hy) hsolo hXB1
              have hc := HO.out
              have hRV : w.heap.size + 1 < V.heap.size := hbR.lt
              have HA := Lib.hid ha;have HE := Lib.hid he;have HY := Lib.hid hy;have HC := Lib.hid hc;have HR := Lib.hid hR;have HBWF := Lib.hid hbw
              clear ha he hy hc hsolo
              go_wp2
              have hfs : ∀ (W : World) (v0 v1 v2 : Value), CkW.Solo W (((W.setCell ⟨w.heap.size + 1, 0, none⟩ v0).setCell ⟨w.heap.size + 1, 1, none⟩ v1).setCell ⟨w.heap.size + 1, 2, none⟩ v2) (w.heap.size + 1) := fun W v0 v1 v2 => solo_set (solo_set (solo_self _ _ _ _))
              refine bodyPost_ret (v := .agg #[.slice pv mv cv, .slice pe me ce, .slice pc mc cc]) ?_ rfl ⟨⟨.slice pv mv cv, .slice pe me ce, .slice pc mc cc, up 0 nr, rows, up N nl⟩, rfl, ?_, ?_, rfl, HMap2.out, by rw [HN2.out]⟩
              · have c1 := (HR.out.set3 (x' := .slice pv mv cv) (y' := .slice pe me ce) (z' := .slice pc mc cc))
                have c2 := c1.cell
                simp only [results, Tryz.results14]
                go_simp
              · have hu : ∀ y ∈ rows, ∀ n ∈ y.ns, I64 n := fun y hy n hn => by
                  have hm : n ∈ (upE nr zs).flatten := by
                    rw [← HMap2.out]
                    exact List.mem_flatten.2 ⟨y.ns, List.mem_map.2 ⟨y, hy, rfl⟩, hn⟩
                  have h1 := upE_mem hm
                  have h2 := HSE.out
                  unfold I64
                  omega
                refine ⟨HoldsI.of_own (own_solo HA.out (hfs _ _ _ _) hRV), up_i64 (by omega), HoldsG.of_own (k := 1) (f := RowN.cells) (fun _ => rfl) (own_solo HE.out (hfs _ _ _ _) (by omega)), fun y hy => ⟨HoldsI.of_own (own_solo (HY.out y hy) (hfs _ _ _ _) (by omega)), hu y hy⟩, HoldsI.of_own (own_solo HC.out (hfs _ _ _ _) (by omega)), up_i64 (by omega)⟩
              · have hbl := HBWF.out
                repeat (first|(with_reducible exact Below.refl _ _)|(with_reducible assumption)|(with_reducible refine ba ?_)|(with_reducible refine bd ?_)|(with_reducible refine bdn ?_ _)|(with_reducible refine bset ?_ (by first|exact Nat.le_refl _|omega|(simp;done)|(simp;omega)))|(with_reducible refine bt ?_ (by with_reducible assumption)))
end RCk
end Go.Proofs.YtcfmchpoclkpgaaGreatDoor
