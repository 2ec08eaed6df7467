/-
  noontideref29.Names and Alias.
-/
import Derived.Test.YtcfmchpoclkpgaaRPut
namespace Go.Proofs.Ytcfmchpoclkpgaa
open Go.RowKit NB
namespace Bk
def okN (zs : List S) (ls : List LinkV) (s : S) : Bool := decide ((find zs ls s).2 = 0)
def rnames (zs : List S) (ls : List LinkV) : List S := ((zs ++ ls.map LinkV.name).filter (okN zs ls)).foldl rput []
def ralias (zs : List S) (ls : List LinkV) (z : Int) : List S := (rnames zs ls).filter fun s => decide ((find zs ls s).1 = z)
theorem rput_len (l : List S) (s : S) : (rput l s).length ≤ l.length + 1 := by
  have h : ∀ (l : List S) (st : List S × Bool) (k : Nat), st.1.length ≤ k + (if st.2 then 1 else 0) → (l.foldl (putStep s) st).1.length ≤ k + l.length + (if (l.foldl (putStep s) st).2 then 1 else 0) := by
    intro l
    induction l with
    | nil => intro st k h; exact h
    | cons x r ih =>
      intro st k h
      rw [List.foldl_cons]
      have h2 : (putStep s st x).1.length ≤ k + 1 + (if (putStep s st x).2 then 1 else 0) := by
        obtain ⟨L, b⟩ := st
        unfold putStep
        cases b <;> cases ltb s x <;> simp at h ⊢ <;> (try split) <;> omega
      have := ih (putStep s st x) (k + 1) h2
      simp only [List.length_cons]
      omega
  have := h l ([], false) 0 (by simp)
  unfold rput
  unfold putL
  split
  · rename_i hb
    rw [hb] at this
    simp at this
    omega
  · rename_i hb
    have hb' : (l.foldl (putStep s) ([], false)).2 = false := by simpa using hb
    rw [hb'] at this
    simp at this
    simp
    exact this
end Bk
namespace RBk
open Eqs
/-- the texts that lead somewhere, of the first k -/
def out (zs : List ByteArray) (ls : List LinkV) (l : List ByteArray) : List ByteArray := (l.filter (Bk.okN zs ls)).foldl Bk.rput []
theorem out_yes {zs : List ByteArray} {ls : List LinkV} {l : List ByteArray} {k : Nat} {x : ByteArray} (hx : l[k]? = some x) (h : (Bk.find zs ls x).2 = 0) : out zs ls (l.take (k + 1)) = Bk.rput (out zs ls (l.take k)) x := by
  unfold out
  rw [List.take_add_one, hx, List.filter_append, List.foldl_append]
  have : Bk.okN zs ls x = true := decide_eq_true h
  simp [this]
theorem out_no {zs : List ByteArray} {ls : List LinkV} {l : List ByteArray} {k : Nat} {x : ByteArray} (hx : l[k]? = some x) (h : ¬ (Bk.find zs ls x).2 = 0) : out zs ls (l.take (k + 1)) = out zs ls (l.take k) := by
  unfold out
  rw [List.take_add_one, hx, List.filter_append, List.foldl_append]
  have : Bk.okN zs ls x = false := decide_eq_false h
  simp [this]
theorem out_len (zs : List ByteArray) (ls : List LinkV) (l : List ByteArray) : (out zs ls l).length ≤ l.length := by
  have h : ∀ (l : List ByteArray) (o : List ByteArray), (l.foldl Bk.rput o).length ≤ o.length + l.length := by
    intro l
    induction l with
    | nil => intro o; simp
    | cons x r ih =>
      intro o
      have h1 := ih (Bk.rput o x)
      have h2 := Bk.rput_len o x
      rw [List.foldl_cons, List.length_cons]
      omega
  have h1 := h (l.filter (Bk.okN zs ls)) []
  have h2 := List.length_filter_le (Bk.okN zs ls) l
  unfold out
  simp at h1
  omega
set_option maxRecDepth 100000 in
set_option maxHeartbeats 6400000 in
theorem Names {w : World} {t : TabV} (h : HoldsT w t) (hzs : t.zs.length ≤ 16) (hls : t.ls.length ≤ 16) :
    Calls Try.prog 27 #[.agg #[t.rv, t.zv, t.lv]] w fun e w' => ∃ v', e = .returned v' ∧ OwnS w' w.heap.size v' (Bk.rnames (zn t) t.ls) ∧ Below w.heap.size w w' := by
  obtain ⟨i0, hi, hz0, hz1, hz2⟩ := info_parts infoS
  obtain ⟨R, hR⟩ : ∃ R, R = Bk.rnames (zn t) t.ls := ⟨_, rfl⟩
  rw [← hR]
  have hfind : ∀ (W : World) (s : ByteArray), Below w.heap.size w W → Calls Try.prog 22 #[.agg #[t.rv, t.zv, t.lv], .string s] W fun e w' => e = .returned (pairV (Bk.find (zn t) t.ls s)) ∧ Below W.heap.size W w' :=
    fun W s hW => Find (h.later hW) (by omega) s
  obtain ⟨Z, hZ⟩ : ∃ Z, Z = zn t := ⟨_, rfl⟩
  rw [← hZ] at hR hfind
  have hz := h.z
  have hl := h.l
  have hzf := h.zf
  obtain ⟨rv, zv, lv, rs, zs, ls⟩ := t
  unfold zn at hZ
  dsimp only at *
  have l1 := hz.len
  obtain ⟨p, cap, rfl, hp⟩ := hz.pk
  obtain ⟨q, cap', rfl, hq⟩ := hl.pk
  obtain ⟨pr, cr, e1⟩ := h.r.form
  dsimp only at e1
  subst e1
  obtain ⟨n, hn⟩ : ∃ n, n = zs.length := ⟨_, rfl⟩
  obtain ⟨n', hn'⟩ : ∃ n', n' = ls.length := ⟨_, rfl⟩
  rw [← hn] at l1 hzs hfind ⊢
  rw [← hn'] at hls hfind ⊢
  have HN := Lib.hid hn; have HP := Lib.hid hp
  have HN' := Lib.hid hn'; have HP' := Lib.hid hq
  have HZF := Lib.hid hzf; have HF := Lib.hid hfind; have HR := Lib.hid hR; have HZ := Lib.hid hZ
  have HI := Lib.hid hi; have HZ0 := Lib.hid hz0; have HZ1 := Lib.hid hz1; have HZ2 := Lib.hid hz2
  clear hn hp hz h hzf hfind hR hZ hi hz0 hz1 hz2 hn' hq hl l1
  generalize rs.length = nr at *
  have hb0 := Box.new w #[.slice pr nr cr, .slice p n cap, .slice q n' cap'] 26
  go_enter Try.func27, Try.ntmps27
  go_wp2
  obtain ⟨w1, hw1⟩ : ∃ w1, w1 = w.alloc (.cells #[.slice pr nr cr, .slice p n cap, .slice q n' cap'] 26) := ⟨_, rfl⟩
  rw [← hw1] at hb0 ⊢
  have hbw1 : Below w.heap.size w w1 := by rw [hw1]; repeat (first | (with_reducible exact Below.refl _ _) | (with_reducible assumption) | (with_reducible refine ba ?_) | (with_reducible refine bd ?_) | (with_reducible refine bdn ?_ _) | (with_reducible refine bset ?_ (by first | exact Nat.le_refl _ | omega | (simp; done) | (simp; omega))) | (with_reducible refine bt ?_ (by with_reducible assumption)))
  have hs1 : w.heap.size < w1.heap.size := hb0.lt
  clear hw1
  go_loopw [16, 3] (fun i o wr => ∃ (k : Nat) (v : Value), i = .int .i64 k ∧ o = v ∧ k ≤ n ∧ Below w1.heap.size w1 wr ∧ Hid (OwnR wr w1.heap.size v k ((zs.take k).map ZoneV.name))) (fun i _ _ => n - (intOf i).toNat)
  case atStart => exact ⟨0, _, rfl, rfl, Nat.zero_le _, Below.refl _ _, World.ownsRow_nil _ _ _ _⟩
  case round =>
    obtain ⟨k, v, rfl, rfl, hk, hbr, HO⟩ := hrel
    have hsz := hbr.size
    by_cases hlt : k < n
    · obtain ⟨y, hy⟩ : ∃ y, zs[k]? = some y := ⟨_, List.getElem?_eq_getElem (by rw [← HN.out]; exact hlt)⟩
      obtain ⟨g1, o1, rfl, hg1, d1⟩ := HP.out k y hy
      replace d1 := fun j u hu => (hbr.cell (p := ⟨g1, o1 + k * 2 + j, none⟩) (by show g1 < _; omega)).trans ((hbw1.cell (p := ⟨g1, o1 + k * 2 + j, none⟩) hg1).trans (d1 j u hu))
      have x0 := d1 0 _ rfl
      have x1 := d1 1 _ rfl
      rw [Nat.add_zero] at x0
      obtain ⟨q2, c2, hv2⟩ := (HZF.out y (List.mem_of_getElem? hy)).e.form
      rw [hv2] at x1
      clear hv2 d1
      generalize y.es.length = m2 at x1
      have q1 : (k : Int) < (n : Int) := by omega
      have HY := Lib.hid hy
      clear hy
      go_wp2_with (at_builtin; refine wpList_append_own _ rfl _ _ 48 rfl (w1.heap.size) 9 i0 _ 1 16 Try.underlying48 HI.out HZ0.out HZ1.out HZ2.out rfl (by decide) _ _ _ rfl (World.ownsRow.alloc (World.ownsRow.alloc HO.out _) _) ⟨_, 0, none⟩ 1 1 [.string y.name] rfl rfl (cell_one_at (by simp)) (by simp [Value.oneCell']) (by unfold maxLen; omega) (by omega) (by simp; omega) ?_; intro v2 w2 hown2 hgrow2 _)
      have HR1 : Hid (OwnR w2 w1.heap.size v2 (k + 1) ((zs.take (k + 1)).map ZoneV.name)) := by
        have := OwnR.snoc hown2
        rw [List.take_add_one, HY.out, List.map_append]
        exact this
      have hb2 : Below w1.heap.size w1 w2 := Below.grown (ba (ba hbr)) hgrow2 (by simp; omega) (fun j hj => (HO.out.lt j hj).1)
      clear hown2 hgrow2
      go_roundw
      case rel => exact ⟨k + 1, v2, by go_num, rfl, by omega, hb2, HR1⟩
      case measure => simp [intOf]; omega
    · obtain rfl : k = n := by omega
      have hO := HO.out
      rw [List.take_of_length_le (by rw [← HN.out]; exact Nat.le_refl _), ← HZ.out] at hO
      obtain ⟨w2, hw2⟩ : ∃ V, V = wr := ⟨_, rfl⟩
      subst hw2
      have c0 := (hb0.later hbr).cell
      have HO1 := Lib.hid hO
      have HB2 := Lib.hid hbr
      clear hO HO hbr
      go_wp2
      clear c0
      go_loopw [29, 3] (fun i o wy => ∃ (j : Nat) (v : Value), i = .int .i64 j ∧ o = v ∧ j ≤ n' ∧ Below w1.heap.size w1 wy ∧ Hid (OwnR wy w1.heap.size v (k + j) (Z ++ (ls.take j).map LinkV.name))) (fun i _ _ => n' - (intOf i).toNat)
      case atStart => exact ⟨0, _, rfl, rfl, Nat.zero_le _, HB2.out, by rw [List.take_zero, List.map_nil, List.append_nil]; exact HO1.out⟩
      case round =>
        obtain ⟨j, v, rfl, rfl, hj, hbr, HO⟩ := hrel
        have hsz' := hbr.size
        by_cases hltj : j < n'
        · obtain ⟨y, hy⟩ : ∃ y, ls[j]? = some y := ⟨_, List.getElem?_eq_getElem (by rw [← HN'.out]; exact hltj)⟩
          obtain ⟨g1, o1, rfl, hg1, d1⟩ := HP'.out j y hy
          replace d1 := fun i u hu => (hbr.cell (p := ⟨g1, o1 + j * 2 + i, none⟩) (by show g1 < _; omega)).trans ((hbw1.cell (p := ⟨g1, o1 + j * 2 + i, none⟩) hg1).trans (d1 i u hu))
          have x0 := d1 0 _ rfl
          have x1 := d1 1 _ rfl
          rw [Nat.add_zero] at x0
          have q1 : (j : Int) < (n' : Int) := by omega
          have HY := Lib.hid hy
          clear hy d1
          go_wp2_with (at_builtin; refine wpList_append_own _ rfl _ _ 48 rfl (w1.heap.size) 9 i0 _ 1 16 Try.underlying48 HI.out HZ0.out HZ1.out HZ2.out rfl (by decide) _ _ _ rfl (World.ownsRow.alloc (World.ownsRow.alloc HO.out _) _) ⟨_, 0, none⟩ 1 1 [.string y.name] rfl rfl (cell_one_at (by simp)) (by simp [Value.oneCell']) (by unfold maxLen; omega) (by omega) (by simp; omega) ?_; intro v3 w3 hown3 hgrow3 _)
          have HR1 : Hid (OwnR w3 w1.heap.size v3 (k + (j + 1)) (Z ++ (ls.take (j + 1)).map LinkV.name)) := by
            have := OwnR.snoc hown3
            rw [List.take_add_one, HY.out, List.map_append, ← List.append_assoc]
            exact this
          have hb2 : Below w1.heap.size w1 w3 := Below.grown (ba (ba hbr)) hgrow3 (by simp; omega) (fun i hi => (HO.out.lt i hi).1)
          clear hown3 hgrow3
          go_roundw
          case rel => exact ⟨j + 1, v3, by go_num, rfl, by omega, hb2, HR1⟩
          case measure => simp [intOf]; omega
        · obtain rfl : j = n' := by omega
          obtain ⟨wA, hwA⟩ : ∃ V, V = wr := ⟨_, rfl⟩
          subst hwA
          have hO := HO.out
          rw [List.take_of_length_le (by rw [← HN'.out]; exact Nat.le_refl _)] at hO
          obtain ⟨ALL, hALL⟩ : ∃ L, L = Z ++ ls.map LinkV.name := ⟨_, rfl⟩
          rw [← hALL] at hO
          have hlen := OwnR.len hO
          obtain ⟨qa, capa, rfl⟩ := Grp.own_form hO
          have hpk := (HoldsS.of_own (OwnR.s hO)).pk1
          obtain ⟨pa, ca, e2, hpa⟩ := hpk
          rw [hlen] at e2
          cases e2
          have hba := (hb0.later hbr)
          have hbwA : Below w.heap.size w wA := hbw1.trans (hbr.mono (by omega))
          have hRR : R = out Z ls ALL := by rw [HR.out, hALL]; rfl
          obtain ⟨N, hN⟩ : ∃ N, N = k + j := ⟨_, rfl⟩
          rw [← hN] at hlen ⊢
          have hNb : N ≤ 32 := by omega
          have HPA := Lib.hid hpa; have HLEN := Lib.hid hlen; have HRR := Lib.hid hRR; have HBA := Lib.hid hbwA
          have hszA : w.heap.size < wA.heap.size := by omega
          clear hO HO hbr hALL hpa hlen hRR hN hb0
          go_wp2
          go_loopw [41, 4] (fun i o wy => ∃ (j m : Nat) (v : Value), i = .int .i64 j ∧ o = v ∧ j ≤ N ∧ Below wA.heap.size wA wy ∧ Hid (OwnR wy wA.heap.size v m (out Z ls (ALL.take j)))) (fun i _ _ => N - (intOf i).toNat)
          case atStart => exact ⟨0, 0, _, rfl, rfl, Nat.zero_le _, Below.refl _ _, World.ownsRow_nil _ _ _ _⟩
          case round =>
            obtain ⟨i, m, v, rfl, rfl, hi, hbr, HO⟩ := hrel
            have hb1 := (hba.later hbr)
            have hm1 := hb1.lt
            have c0 := hb1.cell
            by_cases hlti : i < N
            · obtain ⟨x, hx⟩ : ∃ x, ALL[i]? = some x := ⟨_, List.getElem?_eq_getElem (by rw [HLEN.out]; exact hlti)⟩
              obtain ⟨g1, o1, rfl, hg1, d1⟩ := HPA.out i x hx
              replace d1 := (hbr.cell (p := ⟨g1, o1 + i, none⟩) hg1).trans d1
              have q1 : (i : Int) < (N : Int) := by omega
              have hf := HF.out wr x (HBA.out.trans (hbr.mono (by omega)))
              have hms := OwnR.len HO.out
              have hml := out_len Z ls (ALL.take i)
              have hmb : m ≤ 32 := by
                rw [hms, List.length_take] at hml
                omega
              obtain ⟨f, hfe⟩ : ∃ f, f = Bk.find Z ls x := ⟨_, rfl⟩
              rw [← hfe] at hf
              unfold pairV at hf
              obtain ⟨f1, f2⟩ := f
              dsimp only at hf
              have HMS := Lib.hid hms
              clear hms hml
              by_cases h0 : f2 = 0
              · have HX : Hid (out Z ls (ALL.take (i + 1)) = Bk.rput (out Z ls (ALL.take i)) x) := out_yes hx (by rw [← hfe]; exact h0)
                subst h0
                clear hfe hx
                go_wp2_with (first
                  | (go_at_call 22; refine hf.mono ?_; rintro e w4 ⟨rfl, hb4⟩)
                  | (go_at_call 69; refine (put (HoldsS.of_own (OwnR.s (own_lat HO.out hb4))) (by rw [HMS.out]; omega) x).mono ?_; rintro e w5 ⟨v5, rfl, hown5, hb5⟩))
                have hb6 : Below wA.heap.size wA w5 := by repeat (first | (with_reducible exact Below.refl _ _) | (with_reducible assumption) | (with_reducible refine ba ?_) | (with_reducible refine bd ?_) | (with_reducible refine bdn ?_ _) | (with_reducible refine bset ?_ (by first | exact Nat.le_refl _ | omega | (simp; done) | (simp; omega))) | (with_reducible refine bt ?_ (by with_reducible assumption)))
                have hsz6 : wA.heap.size ≤ w4.heap.size := by have := hb4.size; have := hbr.size; omega
                have HX2 : Hid (OwnR w5 wA.heap.size v5 (out Z ls (ALL.take (i + 1))).length (out Z ls (ALL.take (i + 1)))) := by
                  rw [HX.out]
                  exact own_lower hown5 hsz6
                clear hown5 hb5 hb4
                go_roundw
                case rel => exact ⟨i + 1, _, v5, by go_num, rfl, by omega, hb6, HX2⟩
                case measure => simp [intOf]; omega
              · have HX : Hid (out Z ls (ALL.take (i + 1)) = out Z ls (ALL.take i)) := out_no hx (by rw [← hfe]; exact h0)
                clear hfe hx
                go_wp2_with (go_at_call 22; refine hf.mono ?_; rintro e w4 ⟨rfl, hb4⟩)
                go_roundw
                case rel => exact ⟨i + 1, m, _, by go_num, rfl, by omega, by repeat (first | (with_reducible exact Below.refl _ _) | (with_reducible assumption) | (with_reducible refine ba ?_) | (with_reducible refine bd ?_) | (with_reducible refine bdn ?_ _) | (with_reducible refine bset ?_ (by first | exact Nat.le_refl _ | omega | (simp; done) | (simp; omega))) | (with_reducible refine bt ?_ (by with_reducible assumption))), by rw [HX.out]; exact own_lat HO.out hb4⟩
                case measure => simp [intOf]; omega
            · obtain rfl : i = N := by omega
              have hO := HO.out
              rw [List.take_of_length_le (by rw [HLEN.out]; exact Nat.le_refl _), ← HRR.out] at hO
              have HO2 := Lib.hid hO
              clear hO HO
              go_wp2
              go_ret
              exact ⟨_, rfl, own_lower (OwnR.s HO2.out) (by omega), HBA.out.trans (hbr.mono (by omega))⟩
end RBk
end Go.Proofs.Ytcfmchpoclkpgaa
