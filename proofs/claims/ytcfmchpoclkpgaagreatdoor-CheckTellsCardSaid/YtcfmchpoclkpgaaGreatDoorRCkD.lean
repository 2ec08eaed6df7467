import Derived.Test.YtcfmchpoclkpgaaGreatDoorG27
import Derived.Test.YtcfmchpoclkpgaaGreatDoorG23
namespace Go.Proofs.YtcfmchpoclkpgaaGreatDoor
open Go.RowKit NB
namespace RCk
open Ck
set_option maxRecDepth 100000 in
set_option maxHeartbeats 3200000 in
theorem rule {w : World} {t : TabV} (h : HoldsT w t) (hc : Capd t.rv) {i : Nat} (hi : i < t.rs.length) (hr : t.rs.length ≤ 12) :
    Calls Tryz.prog 37 #[.agg #[t.rv, t.zv, t.lv], .int .i64 i] w fun x w' => x = .returned (.int .i64 (Ck.ruleF t.rs i)) ∧ Below w.heap.size w w' := by
  unfold ruleF
  obtain ⟨U, hU⟩ : ∃ u, u = Chk.check (t.rs.take (i + 1)) := ⟨_, rfl⟩
  obtain ⟨rv, zv, lv, rs, zs, ls⟩ := t
  obtain ⟨pr, cr, e1⟩ := h.r.form
  obtain ⟨pl, cl, e3⟩ := h.l.form
  obtain ⟨pz, cz, e2⟩ := h.z.form
  dsimp only at e1 e2 e3 hi hr hc hU ⊢
  subst e1 e2 e3
  obtain ⟨hc1, hc2⟩ := hc _ _ _ rfl
  have cu := fun (X : World) (hX : Below w.heap.size w X) => R27.CheckH ((h.r.later hX).take (m := i + 1) (show i + 1 ≤ rs.length by omega))
  dsimp only at cu
  rw [← hU] at cu ⊢
  obtain ⟨U1, U2⟩ := U
  dsimp only at cu ⊢
  have CU := Lib.hid cu
  clear cu h hU
  generalize rs.length = nr at *
  generalize ls.length = nl at *
  generalize zs.length = nz at *
  have hc3 : cr ≤ 9223372036854775807 := hc2
  clear hc2
  have q1 : (i : Int) + 1 ≤ (cr : Int) := by omega
  by_cases h3 : U1 = i
  · rw [if_pos h3]
    subst h3
    go_enter Tryz.func37, Tryz.ntmps37
    go_wp2_with (go_at_call 74;(with_reducible refine (CU.out _ ?_).mono ?_);(· repeat (first|(with_reducible exact Below.refl _ _)|(with_reducible assumption)|(with_reducible refine ba ?_)|(with_reducible refine bd ?_)|(with_reducible refine bdn ?_ _)|(with_reducible refine bset ?_ (by first|exact Nat.le_refl _|omega|(simp;done)|(simp;omega)))|(with_reducible refine bt ?_ (by with_reducible assumption))));rintro e w8 ⟨rfl, hb8⟩;obtain ⟨hc8, hf8⟩ := bcell hb8)
    go_ret
    exact ⟨rfl, by repeat (first|(with_reducible exact Below.refl _ _)|(with_reducible assumption)|(with_reducible refine ba ?_)|(with_reducible refine bd ?_)|(with_reducible refine bdn ?_ _)|(with_reducible refine bset ?_ (by first|exact Nat.le_refl _|omega|(simp;done)|(simp;omega)))|(with_reducible refine bt ?_ (by with_reducible assumption)))⟩
  · rw [if_neg h3]
    have e3 : (U1 == (i : Int)) = false := by simp [h3]
    go_enter Tryz.func37, Tryz.ntmps37
    go_wp2_with (go_at_call 74;(with_reducible refine (CU.out _ ?_).mono ?_);(· repeat (first|(with_reducible exact Below.refl _ _)|(with_reducible assumption)|(with_reducible refine ba ?_)|(with_reducible refine bd ?_)|(with_reducible refine bdn ?_ _)|(with_reducible refine bset ?_ (by first|exact Nat.le_refl _|omega|(simp;done)|(simp;omega)))|(with_reducible refine bt ?_ (by with_reducible assumption))));rintro e w8 ⟨rfl, hb8⟩;obtain ⟨hc8, hf8⟩ := bcell hb8)
    go_ret
    exact ⟨rfl, by repeat (first|(with_reducible exact Below.refl _ _)|(with_reducible assumption)|(with_reducible refine ba ?_)|(with_reducible refine bd ?_)|(with_reducible refine bdn ?_ _)|(with_reducible refine bset ?_ (by first|exact Nat.le_refl _|omega|(simp;done)|(simp;omega)))|(with_reducible refine bt ?_ (by with_reducible assumption)))⟩
set_option maxRecDepth 100000 in
set_option maxHeartbeats 6400000 in
theorem link {w : World} {t : TabV} (h : HoldsT w t) (hc : Capd t.lv) {i : Nat} {x : LinkV} (hx : t.ls[i]? = some x) (hz : t.zs.length ≤ 1000) (hl : t.ls.length ≤ 1000) :
    Calls Tryz.prog 38 #[.agg #[t.rv, t.zv, t.lv], .int .i64 i] w fun y w' => y = .returned (.int .i64 (Ck.linkF (t.zs.map ZoneV.name) t.ls i x)) ∧ Below w.heap.size w w' := by
  obtain ⟨U, hU⟩ : ∃ u, u = RBk.findR t x.name := ⟨_, rfl⟩
  have cf := fun (X : World) (hX : Below w.heap.size w X) => RBk.Find (h.later hX) (by omega) x.name
  rw [← hU] at cf
  unfold RBk.findR RBk.zn at hU
  unfold linkF
  rw [← hU]
  clear hU
  have hzf := h.zf
  obtain ⟨rv, zv, lv, rs, zs, ls⟩ := t
  obtain ⟨U1, U2⟩ := U
  unfold RBk.pairV at cf
  obtain ⟨pr, cr, e1⟩ := h.r.form
  obtain ⟨pz, cz, e2, hpz⟩ := h.z.pk
  obtain ⟨pl, cl, e3, hpl⟩ := h.l.pk
  dsimp only at e1 e2 e3 hpz hpl hx hz hl hc cf hzf ⊢
  subst e1 e2 e3
  obtain ⟨hc1, hc2⟩ := hc _ _ _ rfl
  obtain ⟨g1, o1, rfl, hg1, d1⟩ := hpl i x hx
  have x0 := d1 0 _ rfl
  have x1 := d1 1 _ rfl
  rw [Nat.add_zero] at x0
  obtain ⟨nl, hnl⟩ : ∃ n, n = ls.length := ⟨_, rfl⟩
  obtain ⟨nz, hnz⟩ : ∃ n, n = zs.length := ⟨_, rfl⟩
  have hil : i < nl := by rw [hnl];exact (List.getElem?_eq_some_iff.1 hx).1
  rw [← hnl] at hl hc1 cf ⊢
  rw [← hnz] at hz cf ⊢
  have HPZ := Lib.hid hpz;have HPL := Lib.hid hpl;have HNL := Lib.hid hnl;have HNZ := Lib.hid hnz;have CF := Lib.hid cf;have HX := Lib.hid hx;have HZF := Lib.hid hzf
  clear hpz hpl hnl hnz cf hx h d1 hc hzf
  generalize rs.length = nr at *
  have hc3 : cl ≤ 9223372036854775807 := hc2
  clear hc2
  have q1 : (i : Int) < (nl : Int) := by omega
  obtain ⟨R, hR⟩ : ∃ r, r = (if ((zs.map ZoneV.name ++ (ls.take i).map LinkV.name).any fun a => decide (a = x.name)) = true then (11 : Int) else U2) := ⟨_, rfl⟩
  rw [← hR]
  have HR := Lib.hid hR
  clear hR
  have hb0 := Box.new w #[.slice pr nr cr, .slice pz nz cz, .slice (some ⟨g1, o1, none⟩) nl cl] 26
  obtain ⟨V, hV⟩ : ∃ V, V = w.alloc (.cells #[.slice pr nr cr, .slice pz nz cz, .slice (some ⟨g1, o1, none⟩) nl cl] 26) := ⟨_, rfl⟩
  have hbV : Below w.heap.size w V := by rw [hV];repeat (first|(with_reducible exact Below.refl _ _)|(with_reducible assumption)|(with_reducible refine ba ?_)|(with_reducible refine bd ?_)|(with_reducible refine bdn ?_ _)|(with_reducible refine bset ?_ (by first|exact Nat.le_refl _|omega|(simp;done)|(simp;omega)))|(with_reducible refine bt ?_ (by with_reducible assumption)))
  have hsV : w.heap.size < V.heap.size := by rw [hV];simp
  rw [← hV] at hb0
  have HV := Lib.hid hV
  clear hV
  go_enter Tryz.func38, Tryz.ntmps38
  go_wp2_with (first|fail)
  rw [← HV.out]
  go_loopw [21] (fun j wr => ∃ k : Nat, j = .int .i64 k ∧ k ≤ nz ∧ Below V.heap.size V wr ∧ Hid (∀ j z, j < k → zs[j]? = some z → z.name ≠ x.name)) (fun j _ => nz - (intOf j).toNat)
  case atStart => exact ⟨0, rfl, Nat.zero_le _, Below.refl _ _, fun j _ hj => absurd hj (Nat.not_lt_zero _)⟩
  case round =>
    obtain ⟨k, rfl, hk, hbr, HS⟩ := hrel
    have hbw : Below w.heap.size w wr := hbV.trans (hbr.mono hbV.size)
    by_cases hlt : k < nz
    · obtain ⟨z, hz2⟩ : ∃ z, zs[k]? = some z := ⟨_, List.getElem?_eq_getElem (by rw [← HNZ.out];exact hlt)⟩
      obtain ⟨g2, o2, rfl, hg2, d2⟩ := HPZ.out k z hz2
      have z0 := (hbw.cell (p := ⟨g2, o2 + k * 2 + 0, none⟩) hg2).trans (d2 0 _ rfl)
      have z1 := (hbw.cell (p := ⟨g2, o2 + k * 2 + 1, none⟩) hg2).trans (d2 1 _ rfl)
      rw [Nat.add_zero] at z0
      obtain ⟨q2, c2, hv2⟩ := (HZF.out z (List.mem_of_getElem? hz2)).e.form
      rw [hv2] at z1
      clear hv2
      generalize z.es.length = m2 at z1
      clear d2
      have q1 : (k : Int) < (nz : Int) := by omega
      have HZ2 := Lib.hid hz2
      clear hz2
      by_cases he : z.name = x.name
      · have e0 := str_eq he
        have HE : Hid (((zs.map ZoneV.name ++ (ls.take i).map LinkV.name).any fun a => decide (a = x.name)) = true) := Ck.any_name.2 (List.mem_append.2 (.inl (by rw [← he];exact List.mem_map.2 ⟨z, List.mem_of_getElem? HZ2.out, rfl⟩)))
        clear he
        go_wp2
        go_ret
        exact ⟨by rw [HR.out, if_pos HE.out];rfl, by repeat (first|(with_reducible exact Below.refl _ _)|(with_reducible assumption)|(with_reducible refine ba ?_)|(with_reducible refine bd ?_)|(with_reducible refine bdn ?_ _)|(with_reducible refine bset ?_ (by first|exact Nat.le_refl _|omega|(simp;done)|(simp;omega)))|(with_reducible refine bt ?_ (by with_reducible assumption)))⟩
      · have e0 := str_ne he
        have HE := Lib.hid he
        clear he
        go_wp2
        go_roundw
        case rel =>
          refine ⟨k + 1, by go_num, by omega, by repeat (first|(with_reducible exact Below.refl _ _)|(with_reducible assumption)|(with_reducible refine ba ?_)|(with_reducible refine bd ?_)|(with_reducible refine bdn ?_ _)|(with_reducible refine bset ?_ (by first|exact Nat.le_refl _|omega|(simp;done)|(simp;omega)))|(with_reducible refine bt ?_ (by with_reducible assumption))), fun j u hj hy => ?_⟩
          by_cases hjk : j = k
          · subst hjk
            rw [HZ2.out] at hy
            cases hy
            exact HE.out
          · exact HS.out j u (by omega) hy
        case measure => simp [intOf];omega
    · obtain rfl : k = nz := by omega
      have HZ : Hid (x.name ∉ zs.map ZoneV.name) := fun hm => by
        obtain ⟨z, hz2, e⟩ := List.mem_map.1 hm
        obtain ⟨j, hj⟩ := List.mem_iff_getElem?.1 hz2
        exact HS.out j z (by rw [HNZ.out];exact (List.getElem?_eq_some_iff.1 hj).1) hj e
      obtain ⟨w2, hw2⟩ : ∃ w2 : World, w2 = wr := ⟨_, rfl⟩
      rw [← hw2] at hbr hbw ⊢
      clear hw2 HS
      have hb2 := hb0.later hbr
      have c2 := hb2.cell
      have hs2 := hbr.size
      go_wp2_with (first|fail)
      go_loopw [35] (fun j wr => ∃ k : Nat, j = .int .i64 k ∧ k ≤ i ∧ Below w2.heap.size w2 wr ∧ Hid (∀ j z, j < k → ls[j]? = some z → z.name ≠ x.name)) (fun j _ => i - (intOf j).toNat)
      case atStart => exact ⟨0, rfl, Nat.zero_le _, Below.refl _ _, fun j _ hj => absurd hj (Nat.not_lt_zero _)⟩
      case round =>
        obtain ⟨k, rfl, hk, hbr3, HS⟩ := hrel
        have hbw3 : Below w.heap.size w wr := hbw.trans (hbr3.mono hbw.size)
        by_cases hlt3 : k < i
        · obtain ⟨z, hz2⟩ : ∃ z, ls[k]? = some z := ⟨_, List.getElem?_eq_getElem (by rw [← HNL.out];omega)⟩
          obtain ⟨g2, o2, hge, hg2, d2⟩ := HPL.out k z hz2
          obtain ⟨rfl, rfl, _⟩ : g1 = g2 ∧ o1 = o2 ∧ True := by simpa using hge
          have z0 := (hbw3.cell (p := ⟨g1, o1 + k * 2 + 0, none⟩) hg1).trans (d2 0 _ rfl)
          have z1 := (hbw3.cell (p := ⟨g1, o1 + k * 2 + 1, none⟩) hg1).trans (d2 1 _ rfl)
          rw [Nat.add_zero] at z0
          clear d2 hge
          have q3 : (k : Int) < (i : Int) := by omega
          have HZ2 := Lib.hid hz2
          clear hz2
          by_cases he : z.name = x.name
          · have e0 := str_eq he
            have HE : Hid (((zs.map ZoneV.name ++ (ls.take i).map LinkV.name).any fun a => decide (a = x.name)) = true) := by
              refine Ck.any_name.2 (List.mem_append.2 (.inr ?_))
              rw [← he]
              refine List.mem_map.2 ⟨z, List.mem_of_getElem? (i := k) ?_, rfl⟩
              rw [List.getElem?_take, if_pos hlt3]
              exact HZ2.out
            clear he
            go_wp2
            go_ret
            exact ⟨by rw [HR.out, if_pos HE.out];rfl, by repeat (first|(with_reducible exact Below.refl _ _)|(with_reducible assumption)|(with_reducible refine ba ?_)|(with_reducible refine bd ?_)|(with_reducible refine bdn ?_ _)|(with_reducible refine bset ?_ (by first|exact Nat.le_refl _|omega|(simp;done)|(simp;omega)))|(with_reducible refine bt ?_ (by with_reducible assumption)))⟩
          · have e0 := str_ne he
            have HE := Lib.hid he
            clear he
            go_wp2
            go_roundw
            case rel =>
              refine ⟨k + 1, by go_num, by omega, by repeat (first|(with_reducible exact Below.refl _ _)|(with_reducible assumption)|(with_reducible refine ba ?_)|(with_reducible refine bd ?_)|(with_reducible refine bdn ?_ _)|(with_reducible refine bset ?_ (by first|exact Nat.le_refl _|omega|(simp;done)|(simp;omega)))|(with_reducible refine bt ?_ (by with_reducible assumption))), fun j u hj hy => ?_⟩
              by_cases hjk : j = k
              · subst hjk
                rw [HZ2.out] at hy
                cases hy
                exact HE.out
              · exact HS.out j u (by omega) hy
            case measure => simp [intOf];omega
        · obtain rfl : k = i := by omega
          have HE : Hid (¬ ((zs.map ZoneV.name ++ (ls.take k).map LinkV.name).any fun a => decide (a = x.name)) = true) := fun hm => by
            rcases List.mem_append.1 (Ck.any_name.1 hm) with h1|h1
            · exact HZ.out h1
            · obtain ⟨z, hz2, e⟩ := List.mem_map.1 h1
              obtain ⟨j, hj⟩ := List.mem_iff_getElem?.1 hz2
              rw [List.getElem?_take] at hj
              split at hj
              · exact HS.out j z (by omega) hj e
              · cases hj
          clear HS
          have c3 := (hb2.later hbr3).cell
          go_wp2_with (go_at_call 75;(with_reducible refine (CF.out _ ?_).mono ?_);(· repeat (first|(with_reducible exact Below.refl _ _)|(with_reducible assumption)|(with_reducible refine ba ?_)|(with_reducible refine bd ?_)|(with_reducible refine bdn ?_ _)|(with_reducible refine bset ?_ (by first|exact Nat.le_refl _|omega|(simp;done)|(simp;omega)))|(with_reducible refine bt ?_ (by with_reducible assumption))));rintro e w8 ⟨rfl, hb8⟩;obtain ⟨hc8, hf8⟩ := bcell hb8)
          go_ret
          exact ⟨by rw [HR.out, if_neg HE.out];rfl, by repeat (first|(with_reducible exact Below.refl _ _)|(with_reducible assumption)|(with_reducible refine ba ?_)|(with_reducible refine bd ?_)|(with_reducible refine bdn ?_ _)|(with_reducible refine bset ?_ (by first|exact Nat.le_refl _|omega|(simp;done)|(simp;omega)))|(with_reducible refine bt ?_ (by with_reducible assumption)))⟩
end RCk
end Go.Proofs.YtcfmchpoclkpgaaGreatDoor
