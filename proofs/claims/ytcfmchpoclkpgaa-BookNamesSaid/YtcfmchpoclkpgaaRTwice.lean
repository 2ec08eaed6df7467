/-
  noontideref29.Twice.
-/
import Derived.Test.YtcfmchpoclkpgaaRAlias
namespace Go.Proofs.Ytcfmchpoclkpgaa
open Go.RowKit NB
namespace RBk
open Eqs
def twiceV (zs : List ByteArray) (ls : List LinkV) : Value := .tuple #[.int .i64 (Bk.twice [] zs), .int .i64 (Bk.twice zs (ls.map LinkV.name))]
set_option maxRecDepth 100000 in
set_option maxHeartbeats 6400000 in
theorem Twice {w : World} {t : TabV} (h : HoldsT w t) (hzs : t.zs.length ≤ 16) (hls : t.ls.length ≤ 16) :
    Calls Try.prog 24 #[.agg #[t.rv, t.zv, t.lv]] w fun e w' => e = .returned (twiceV (zn t) t.ls) ∧ Below w.heap.size w w' := by
  obtain ⟨i0, hi, hz0, hz1, hz2⟩ := info_parts infoS
  obtain ⟨R, hR⟩ : ∃ R, R = twiceV (zn t) t.ls := ⟨_, rfl⟩
  rw [← hR]
  obtain ⟨Z, hZ⟩ : ∃ Z, Z = zn t := ⟨_, rfl⟩
  rw [← hZ] at hR
  have hz := h.z
  have hl := h.l
  have hzf := h.zf
  obtain ⟨rv, zv, lv, rs, zs, ls⟩ := t
  unfold zn at hZ
  dsimp only at *
  obtain ⟨p, cap, rfl, hp⟩ := hz.pk
  obtain ⟨q, cap', rfl, hq⟩ := hl.pk
  obtain ⟨pr, cr, e1⟩ := h.r.form
  dsimp only at e1
  subst e1
  obtain ⟨n, hn⟩ : ∃ n, n = zs.length := ⟨_, rfl⟩
  obtain ⟨n', hn'⟩ : ∃ n', n' = ls.length := ⟨_, rfl⟩
  rw [← hn] at hzs ⊢
  rw [← hn'] at hls ⊢
  have HN := Lib.hid hn; have HP := Lib.hid hp
  have HN' := Lib.hid hn'; have HP' := Lib.hid hq
  have HZF := Lib.hid hzf; have HR := Lib.hid hR; have HZ := Lib.hid hZ
  have HI := Lib.hid hi; have HZ0 := Lib.hid hz0; have HZ1 := Lib.hid hz1; have HZ2 := Lib.hid hz2
  clear hn hp hz h hzf hR hZ hi hz0 hz1 hz2 hn' hq hl
  generalize rs.length = nr at *
  have hb0 := Box.new w #[.slice pr nr cr, .slice p n cap, .slice q n' cap'] 26
  go_enter Try.func24, Try.ntmps24
  go_wp2
  obtain ⟨w1, hw1⟩ : ∃ w1, w1 = w.alloc (.cells #[.slice pr nr cr, .slice p n cap, .slice q n' cap'] 26) := ⟨_, rfl⟩
  rw [← hw1] at hb0 ⊢
  have hbw1 : Below w.heap.size w w1 := by rw [hw1]; repeat (first | (with_reducible exact Below.refl _ _) | (with_reducible assumption) | (with_reducible refine ba ?_) | (with_reducible refine bd ?_) | (with_reducible refine bdn ?_ _) | (with_reducible refine bset ?_ (by first | exact Nat.le_refl _ | omega | (simp; done) | (simp; omega))) | (with_reducible refine bt ?_ (by with_reducible assumption)))
  have hs1 : w.heap.size < w1.heap.size := hb0.lt
  clear hw1
  go_loopw [14, 6, 4] (fun i o a wy => ∃ (j : Nat) (v : Value) (A : Int), i = .int .i64 j ∧ o = v ∧ a = .int .i64 A ∧ j ≤ n ∧ Below w1.heap.size w1 wy ∧ Hid (OwnR wy w1.heap.size v (0 + j) ([] ++ (zs.take j).map ZoneV.name)) ∧ Hid (A = Bk.twice [] ((zs.map ZoneV.name).take j)) ∧ Int.negSucc 0 ≤ A ∧ A ≤ n) (fun i _ _ _ => n - (intOf i).toNat)
  case atStart => exact ⟨0, _, -1, rfl, rfl, rfl, Nat.zero_le _, Below.refl _ _, World.ownsRow_nil _ _ _ _, rfl, by decide, by omega⟩
  case round =>
    obtain ⟨j, v, A, rfl, rfl, rfl, hj, hbr, HO, HA, ha1, ha2⟩ := hrel
    have hsz := hbr.size
    by_cases hlt : j < n
    · obtain ⟨y, hy⟩ : ∃ y, zs[j]? = some y := ⟨_, List.getElem?_eq_getElem (by rw [← HN.out]; exact hlt)⟩
      obtain ⟨g1, o1, rfl, hg1, d1⟩ := HP.out j y hy
      replace d1 := fun i u hu => (hbr.cell (p := ⟨g1, o1 + j * 2 + i, none⟩) (by show g1 < _; omega)).trans ((hbw1.cell (p := ⟨g1, o1 + j * 2 + i, none⟩) hg1).trans (d1 i u hu))
      have x0 := d1 0 _ rfl
      have x1 := d1 1 _ rfl
      rw [Nat.add_zero] at x0
      obtain ⟨q2, c2, hv2⟩ := (HZF.out y (List.mem_of_getElem? hy)).e.form
      rw [hv2] at x1
      clear hv2
      generalize y.es.length = m2 at x1
      have q1 : (j : Int) < (n : Int) := by omega
      have hyn : (zs.map ZoneV.name)[j]? = some y.name := by rw [List.getElem?_map, hy]; rfl
      have hst := Bk.twice_succ (done := []) (by rw [List.length_map, ← HN.out]; exact hlt) hyn
      have hmem : RBk.mem y.name ([] ++ (zs.take j).map ZoneV.name) = (([] ++ (zs.map ZoneV.name).take j).any fun z => decide (z = y.name)) := by rw [← List.map_take]; rfl
      obtain ⟨MB, hMB⟩ : ∃ MB, MB = RBk.mem y.name ([] ++ (zs.take j).map ZoneV.name) := ⟨_, rfl⟩
      rw [← HA.out, ← hmem, ← hMB] at hst
      have hh := fun W (hW : Below wr.heap.size wr W) => has (HoldsS.of_own (OwnR.s (own_lat HO.out hW))) y.name
      rw [← hMB] at hh
      have HH := Lib.hid hh
      have HY := Lib.hid hy
      clear hh hy hyn hmem hMB d1 HA
      have hrow : ∀ (v' : Value) (W : World), W.ownsRow w1.heap.size 9 1 v' (0 + j + 1) (([] ++ (zs.take j).map ZoneV.name).flatMap strc ++ [.string y.name]) → OwnR W w1.heap.size v' (0 + (j + 1)) ([] ++ (zs.take (j + 1)).map ZoneV.name) := fun v' W h => by
        have := OwnR.snoc h
        rw [List.take_add_one, HY.out, List.map_append, ← List.append_assoc]
        exact this
      have HROW := Lib.hid hrow
      clear hrow
      have HST : ∀ (b : Int), Hid ((if A < 0 ∧ MB = true then (j : Int) else A) = b → Bk.twice [] ((zs.map ZoneV.name).take (j + 1)) = b) := fun b e => hst.trans e
      clear hst
      cases MB with
      | false =>
        have H1 := Lib.hid ((HST A).out (by simp)).symm
        clear HST
        go_wp2_with (first
          | (go_at_call 66; refine (HH.out _ (by repeat (first | (with_reducible exact Below.refl _ _) | (with_reducible assumption) | (with_reducible refine ba ?_) | (with_reducible refine bd ?_) | (with_reducible refine bdn ?_ _) | (with_reducible refine bset ?_ (by first | exact Nat.le_refl _ | omega | (simp; done) | (simp; omega))) | (with_reducible refine bt ?_ (by with_reducible assumption))))).mono ?_; rintro e w4 ⟨rfl, hb4⟩; have hbx4 : Below wr.heap.size wr w4 := (by repeat (first | (with_reducible exact Below.refl _ _) | (with_reducible assumption) | (with_reducible refine ba ?_) | (with_reducible refine bd ?_) | (with_reducible refine bdn ?_ _) | (with_reducible refine bset ?_ (by first | exact Nat.le_refl _ | omega | (simp; done) | (simp; omega))) | (with_reducible refine bt ?_ (by with_reducible assumption)))); have hsz4 := hbx4.size; have cx := ((Box.new wr #[.string y.name, .slice q2 m2 c2] 56).later hb4).cell; clear hb4)
          | (at_builtin; refine wpList_append_own _ rfl _ _ 48 rfl (w1.heap.size) 9 i0 _ 1 16 Try.underlying48 HI.out HZ0.out HZ1.out HZ2.out rfl (by decide) _ _ _ rfl (World.ownsRow.alloc (own_lat HO.out hbx4) _) ⟨_, 0, none⟩ 1 1 [.string y.name] rfl rfl (cell_one_at (by simp)) (by simp [Value.oneCell']) (by unfold maxLen; omega) (by omega) (by simp; omega) ?_; intro v5 w5 hown5 hgrow5 _))
        have HR1 := Lib.hid (HROW.out _ _ hown5)
        have hb5 : Below w1.heap.size w1 w5 := Below.grown (ba (bt hbr hbx4)) hgrow5 (by have := hbx4.size; simp; omega) (fun j hj => (HO.out.lt j hj).1)
        clear hown5 hgrow5 hbx4
        go_roundw
        case rel => exact ⟨j + 1, v5, A, by go_num, rfl, rfl, by omega, hb5, HR1, H1, ha1, ha2⟩
        case measure => simp [intOf]; omega
      | true =>
        by_cases hA : A < 0
        · have H1 := Lib.hid ((HST j).out (by simp [hA])).symm
          clear HST
          go_wp2_with (first
            | (go_at_call 66; refine (HH.out _ (by repeat (first | (with_reducible exact Below.refl _ _) | (with_reducible assumption) | (with_reducible refine ba ?_) | (with_reducible refine bd ?_) | (with_reducible refine bdn ?_ _) | (with_reducible refine bset ?_ (by first | exact Nat.le_refl _ | omega | (simp; done) | (simp; omega))) | (with_reducible refine bt ?_ (by with_reducible assumption))))).mono ?_; rintro e w4 ⟨rfl, hb4⟩; have hbx4 : Below wr.heap.size wr w4 := (by repeat (first | (with_reducible exact Below.refl _ _) | (with_reducible assumption) | (with_reducible refine ba ?_) | (with_reducible refine bd ?_) | (with_reducible refine bdn ?_ _) | (with_reducible refine bset ?_ (by first | exact Nat.le_refl _ | omega | (simp; done) | (simp; omega))) | (with_reducible refine bt ?_ (by with_reducible assumption)))); have hsz4 := hbx4.size; have cx := ((Box.new wr #[.string y.name, .slice q2 m2 c2] 56).later hb4).cell; clear hb4)
            | (at_builtin; refine wpList_append_own _ rfl _ _ 48 rfl (w1.heap.size) 9 i0 _ 1 16 Try.underlying48 HI.out HZ0.out HZ1.out HZ2.out rfl (by decide) _ _ _ rfl (World.ownsRow.alloc (own_lat HO.out hbx4) _) ⟨_, 0, none⟩ 1 1 [.string y.name] rfl rfl (cell_one_at (by simp)) (by simp [Value.oneCell']) (by unfold maxLen; omega) (by omega) (by simp; omega) ?_; intro v5 w5 hown5 hgrow5 _))
          have HR1 := Lib.hid (HROW.out _ _ hown5)
          have hb5 : Below w1.heap.size w1 w5 := Below.grown (ba (bt hbr hbx4)) hgrow5 (by have := hbx4.size; simp; omega) (fun j hj => (HO.out.lt j hj).1)
          clear hown5 hgrow5 hbx4
          go_roundw
          case rel => exact ⟨j + 1, v5, (j : Int), by go_num, rfl, rfl, by omega, hb5, HR1, H1, by omega, by omega⟩
          case measure => simp [intOf]; omega
        · have H1 := Lib.hid ((HST A).out (by simp [hA])).symm
          clear HST
          go_wp2_with (first
            | (go_at_call 66; refine (HH.out _ (by repeat (first | (with_reducible exact Below.refl _ _) | (with_reducible assumption) | (with_reducible refine ba ?_) | (with_reducible refine bd ?_) | (with_reducible refine bdn ?_ _) | (with_reducible refine bset ?_ (by first | exact Nat.le_refl _ | omega | (simp; done) | (simp; omega))) | (with_reducible refine bt ?_ (by with_reducible assumption))))).mono ?_; rintro e w4 ⟨rfl, hb4⟩; have hbx4 : Below wr.heap.size wr w4 := (by repeat (first | (with_reducible exact Below.refl _ _) | (with_reducible assumption) | (with_reducible refine ba ?_) | (with_reducible refine bd ?_) | (with_reducible refine bdn ?_ _) | (with_reducible refine bset ?_ (by first | exact Nat.le_refl _ | omega | (simp; done) | (simp; omega))) | (with_reducible refine bt ?_ (by with_reducible assumption)))); have hsz4 := hbx4.size; have cx := ((Box.new wr #[.string y.name, .slice q2 m2 c2] 56).later hb4).cell; clear hb4)
            | (at_builtin; refine wpList_append_own _ rfl _ _ 48 rfl (w1.heap.size) 9 i0 _ 1 16 Try.underlying48 HI.out HZ0.out HZ1.out HZ2.out rfl (by decide) _ _ _ rfl (World.ownsRow.alloc (own_lat HO.out hbx4) _) ⟨_, 0, none⟩ 1 1 [.string y.name] rfl rfl (cell_one_at (by simp)) (by simp [Value.oneCell']) (by unfold maxLen; omega) (by omega) (by simp; omega) ?_; intro v5 w5 hown5 hgrow5 _))
          have HR1 := Lib.hid (HROW.out _ _ hown5)
          have hb5 : Below w1.heap.size w1 w5 := Below.grown (ba (bt hbr hbx4)) hgrow5 (by have := hbx4.size; simp; omega) (fun j hj => (HO.out.lt j hj).1)
          clear hown5 hgrow5 hbx4
          go_roundw
          case rel => exact ⟨j + 1, v5, A, by go_num, rfl, rfl, by omega, hb5, HR1, H1, ha1, ha2⟩
          case measure => simp [intOf]; omega
    · obtain rfl : j = n := by omega
      have hO := HO.out
      have hA := HA.out
      rw [List.take_of_length_le (by rw [← HN.out]; exact Nat.le_refl _)] at hO
      rw [List.take_of_length_le (by rw [List.length_map, ← HN.out]; exact Nat.le_refl _)] at hA

      rw [List.nil_append, ← HZ.out] at hO
      rw [← HZ.out] at hA
      obtain ⟨w2, hw2⟩ : ∃ V, V = wr := ⟨_, rfl⟩
      subst hw2
      have c0 := (hb0.later hbr).cell
      obtain ⟨B, hB⟩ : ∃ B, B = A := ⟨_, rfl⟩
      rw [← hB] at hA ha1 ha2 ⊢
      obtain ⟨k, hk⟩ : ∃ k, k = j := ⟨_, rfl⟩
      have HB := Lib.hid hA
      rw [Nat.zero_add] at hO
      rw [← hk] at hO
      have HO1 := Lib.hid hO
      have HB2 := Lib.hid hbr
      have hkb : k ≤ 16 := by omega
      clear hA hB hk hO HO HA hbr
      go_wp2
      clear c0
      go_loopw [37, 6, 5] (fun i o a wy => ∃ (j : Nat) (v : Value) (A : Int), i = .int .i64 j ∧ o = v ∧ a = .int .i64 A ∧ j ≤ n' ∧ Below w1.heap.size w1 wy ∧ Hid (OwnR wy w1.heap.size v (k + j) (Z ++ (ls.take j).map LinkV.name)) ∧ Hid (A = Bk.twice Z ((ls.map LinkV.name).take j)) ∧ Int.negSucc 0 ≤ A ∧ A ≤ n') (fun i _ _ _ => n' - (intOf i).toNat)
      case atStart => exact ⟨0, _, -1, rfl, rfl, rfl, Nat.zero_le _, HB2.out, by rw [List.take_zero, List.map_nil, List.append_nil]; exact HO1.out, rfl, by decide, by omega⟩
      case round =>
        obtain ⟨j, v, A, rfl, rfl, rfl, hj, hbr, HO, HA, ha1, ha2⟩ := hrel
        have hsz := hbr.size
        by_cases hlt : j < n'
        · obtain ⟨y, hy⟩ : ∃ y, ls[j]? = some y := ⟨_, List.getElem?_eq_getElem (by rw [← HN'.out]; exact hlt)⟩
          obtain ⟨g1, o1, rfl, hg1, d1⟩ := HP'.out j y hy
          replace d1 := fun i u hu => (hbr.cell (p := ⟨g1, o1 + j * 2 + i, none⟩) (by show g1 < _; omega)).trans ((hbw1.cell (p := ⟨g1, o1 + j * 2 + i, none⟩) hg1).trans (d1 i u hu))
          have x0 := d1 0 _ rfl
          have x1 := d1 1 _ rfl
          rw [Nat.add_zero] at x0
          have q0 : True := trivial
          have q1 : (j : Int) < (n' : Int) := by omega
          have hyn : (ls.map LinkV.name)[j]? = some y.name := by rw [List.getElem?_map, hy]; rfl
          have hst := Bk.twice_succ (done := Z) (by rw [List.length_map, ← HN'.out]; exact hlt) hyn
          have hmem : RBk.mem y.name (Z ++ (ls.take j).map LinkV.name) = ((Z ++ (ls.map LinkV.name).take j).any fun z => decide (z = y.name)) := by rw [← List.map_take]; rfl
          obtain ⟨MB, hMB⟩ : ∃ MB, MB = RBk.mem y.name (Z ++ (ls.take j).map LinkV.name) := ⟨_, rfl⟩
          rw [← HA.out, ← hmem, ← hMB] at hst
          have hh := fun W (hW : Below wr.heap.size wr W) => has (HoldsS.of_own (OwnR.s (own_lat HO.out hW))) y.name
          rw [← hMB] at hh
          have HH := Lib.hid hh
          have HY := Lib.hid hy
          clear hh hy hyn hmem hMB d1 HA
          have hrow : ∀ (v' : Value) (W : World), W.ownsRow w1.heap.size 9 1 v' (k + j + 1) ((Z ++ (ls.take j).map LinkV.name).flatMap strc ++ [.string y.name]) → OwnR W w1.heap.size v' (k + (j + 1)) (Z ++ (ls.take (j + 1)).map LinkV.name) := fun v' W h => by
            have := OwnR.snoc h
            rw [List.take_add_one, HY.out, List.map_append, ← List.append_assoc]
            exact this
          have HROW := Lib.hid hrow
          clear hrow
          have HST : ∀ (b : Int), Hid ((if A < 0 ∧ MB = true then (j : Int) else A) = b → Bk.twice Z ((ls.map LinkV.name).take (j + 1)) = b) := fun b e => hst.trans e
          clear hst
          cases MB with
          | false =>
            have H1 := Lib.hid ((HST A).out (by simp)).symm
            clear HST
            go_wp2_with (first
              | (go_at_call 66; refine (HH.out _ (by repeat (first | (with_reducible exact Below.refl _ _) | (with_reducible assumption) | (with_reducible refine ba ?_) | (with_reducible refine bd ?_) | (with_reducible refine bdn ?_ _) | (with_reducible refine bset ?_ (by first | exact Nat.le_refl _ | omega | (simp; done) | (simp; omega))) | (with_reducible refine bt ?_ (by with_reducible assumption))))).mono ?_; rintro e w4 ⟨rfl, hb4⟩; have hbx4 : Below wr.heap.size wr w4 := (by repeat (first | (with_reducible exact Below.refl _ _) | (with_reducible assumption) | (with_reducible refine ba ?_) | (with_reducible refine bd ?_) | (with_reducible refine bdn ?_ _) | (with_reducible refine bset ?_ (by first | exact Nat.le_refl _ | omega | (simp; done) | (simp; omega))) | (with_reducible refine bt ?_ (by with_reducible assumption)))); have hsz4 := hbx4.size; have cx := ((Box.new wr #[.string y.target, .string y.name] 58).later hb4).cell; clear hb4)
              | (at_builtin; refine wpList_append_own _ rfl _ _ 48 rfl (w1.heap.size) 9 i0 _ 1 16 Try.underlying48 HI.out HZ0.out HZ1.out HZ2.out rfl (by decide) _ _ _ rfl (World.ownsRow.alloc (own_lat HO.out hbx4) _) ⟨_, 0, none⟩ 1 1 [.string y.name] rfl rfl (cell_one_at (by simp)) (by simp [Value.oneCell']) (by unfold maxLen; omega) (by omega) (by simp; omega) ?_; intro v5 w5 hown5 hgrow5 _))
            have HR1 := Lib.hid (HROW.out _ _ hown5)
            have hb5 : Below w1.heap.size w1 w5 := Below.grown (ba (bt hbr hbx4)) hgrow5 (by have := hbx4.size; simp; omega) (fun j hj => (HO.out.lt j hj).1)
            clear hown5 hgrow5 hbx4
            go_roundw
            case rel => exact ⟨j + 1, v5, A, by go_num, rfl, rfl, by omega, hb5, HR1, H1, ha1, ha2⟩
            case measure => simp [intOf]; omega
          | true =>
            by_cases hA : A < 0
            · have H1 := Lib.hid ((HST j).out (by simp [hA])).symm
              clear HST
              go_wp2_with (first
                | (go_at_call 66; refine (HH.out _ (by repeat (first | (with_reducible exact Below.refl _ _) | (with_reducible assumption) | (with_reducible refine ba ?_) | (with_reducible refine bd ?_) | (with_reducible refine bdn ?_ _) | (with_reducible refine bset ?_ (by first | exact Nat.le_refl _ | omega | (simp; done) | (simp; omega))) | (with_reducible refine bt ?_ (by with_reducible assumption))))).mono ?_; rintro e w4 ⟨rfl, hb4⟩; have hbx4 : Below wr.heap.size wr w4 := (by repeat (first | (with_reducible exact Below.refl _ _) | (with_reducible assumption) | (with_reducible refine ba ?_) | (with_reducible refine bd ?_) | (with_reducible refine bdn ?_ _) | (with_reducible refine bset ?_ (by first | exact Nat.le_refl _ | omega | (simp; done) | (simp; omega))) | (with_reducible refine bt ?_ (by with_reducible assumption)))); have hsz4 := hbx4.size; have cx := ((Box.new wr #[.string y.target, .string y.name] 58).later hb4).cell; clear hb4)
                | (at_builtin; refine wpList_append_own _ rfl _ _ 48 rfl (w1.heap.size) 9 i0 _ 1 16 Try.underlying48 HI.out HZ0.out HZ1.out HZ2.out rfl (by decide) _ _ _ rfl (World.ownsRow.alloc (own_lat HO.out hbx4) _) ⟨_, 0, none⟩ 1 1 [.string y.name] rfl rfl (cell_one_at (by simp)) (by simp [Value.oneCell']) (by unfold maxLen; omega) (by omega) (by simp; omega) ?_; intro v5 w5 hown5 hgrow5 _))
              have HR1 := Lib.hid (HROW.out _ _ hown5)
              have hb5 : Below w1.heap.size w1 w5 := Below.grown (ba (bt hbr hbx4)) hgrow5 (by have := hbx4.size; simp; omega) (fun j hj => (HO.out.lt j hj).1)
              clear hown5 hgrow5 hbx4
              go_roundw
              case rel => exact ⟨j + 1, v5, (j : Int), by go_num, rfl, rfl, by omega, hb5, HR1, H1, by omega, by omega⟩
              case measure => simp [intOf]; omega
            · have H1 := Lib.hid ((HST A).out (by simp [hA])).symm
              clear HST
              go_wp2_with (first
                | (go_at_call 66; refine (HH.out _ (by repeat (first | (with_reducible exact Below.refl _ _) | (with_reducible assumption) | (with_reducible refine ba ?_) | (with_reducible refine bd ?_) | (with_reducible refine bdn ?_ _) | (with_reducible refine bset ?_ (by first | exact Nat.le_refl _ | omega | (simp; done) | (simp; omega))) | (with_reducible refine bt ?_ (by with_reducible assumption))))).mono ?_; rintro e w4 ⟨rfl, hb4⟩; have hbx4 : Below wr.heap.size wr w4 := (by repeat (first | (with_reducible exact Below.refl _ _) | (with_reducible assumption) | (with_reducible refine ba ?_) | (with_reducible refine bd ?_) | (with_reducible refine bdn ?_ _) | (with_reducible refine bset ?_ (by first | exact Nat.le_refl _ | omega | (simp; done) | (simp; omega))) | (with_reducible refine bt ?_ (by with_reducible assumption)))); have hsz4 := hbx4.size; have cx := ((Box.new wr #[.string y.target, .string y.name] 58).later hb4).cell; clear hb4)
                | (at_builtin; refine wpList_append_own _ rfl _ _ 48 rfl (w1.heap.size) 9 i0 _ 1 16 Try.underlying48 HI.out HZ0.out HZ1.out HZ2.out rfl (by decide) _ _ _ rfl (World.ownsRow.alloc (own_lat HO.out hbx4) _) ⟨_, 0, none⟩ 1 1 [.string y.name] rfl rfl (cell_one_at (by simp)) (by simp [Value.oneCell']) (by unfold maxLen; omega) (by omega) (by simp; omega) ?_; intro v5 w5 hown5 hgrow5 _))
              have HR1 := Lib.hid (HROW.out _ _ hown5)
              have hb5 : Below w1.heap.size w1 w5 := Below.grown (ba (bt hbr hbx4)) hgrow5 (by have := hbx4.size; simp; omega) (fun j hj => (HO.out.lt j hj).1)
              clear hown5 hgrow5 hbx4
              go_roundw
              case rel => exact ⟨j + 1, v5, A, by go_num, rfl, rfl, by omega, hb5, HR1, H1, ha1, ha2⟩
              case measure => simp [intOf]; omega
        · obtain rfl : j = n' := by omega
          have hO := HO.out
          have hA := HA.out
          rw [List.take_of_length_le (by rw [← HN'.out]; exact Nat.le_refl _)] at hO
          rw [List.take_of_length_le (by rw [List.length_map, ← HN'.out]; exact Nat.le_refl _)] at hA

          have HR2 : Hid (R = .tuple #[.int .i64 B, .int .i64 A]) := by rw [HR.out, HB.out, hA]; rfl
          clear hO hA HO HA
          go_wp2
          go_ret2
          exact ⟨by rw [HR2.out]; rfl, hbw1.trans (hbr.mono (by omega))⟩

end RBk
end Go.Proofs.Ytcfmchpoclkpgaa
