/-
  noontidelaw26.ChainAround: the walk.
-/
import Derived.Test.YtopdjebnfhfpcaaDoorLive26
import Derived.Test.YtopdjebnfhfpcaaDoorIn
import Derived.Test.YtopdjebnfhfpcaaDoorOpenO

namespace Go.Proofs.YtopdjebnfhfpcaaDoor
open Go.RowKit NB Nxt
namespace L26
set_option maxRecDepth 100000 in
set_option maxHeartbeats 1600000 in
theorem around0 {w : World} {v : Value} {l : List RuleV} (h : Holds w v l) (name : ByteArray) (off t : Int) (hl : Lgt.light l = false ∨ 1099511627776 < t ∨ t < -1099511627776 ∨ off < -54000 ∨ 54000 < off) :
    Calls Tryd.prog 9 #[v, .string name, .int .i64 off, .int .i64 t] w fun e w' => e = .returned (.bool true) ∧ Below w.heap.size w w' := by
  have clv := fun W => lives W
  have cl := fun W (h : Holds W v l) => Lgt.LightH h
  have HH := Lib.hid h
  have Clv := Lib.hid clv
  clear h clv
  cases hL : Lgt.light l
  · rw [hL] at cl
    have Cl := Lib.hid cl
    clear cl hl hL
    go_enter Tryd.func9, Tryd.ntmps9
    go_wp2_with (first
      | (go_at_call 25; (with_reducible refine (Clv.out _).mono ?_); rintro e w1 ⟨rfl, hb1⟩; obtain ⟨hc1, hf1⟩ := bcell hb1)
      | (go_at_call 10; (with_reducible refine (Cl.out _ ?_).mono ?_); (· exact HH.out.later (by repeat (first | (with_reducible exact Below.refl _ _) | (with_reducible assumption) | (with_reducible refine ba ?_) | (with_reducible refine bd ?_) | (with_reducible refine bdn ?_ _) | (with_reducible refine bset ?_ (by first | exact Nat.le_refl _ | omega | (simp; done) | (simp; omega))) | (with_reducible refine bt ?_ (by with_reducible assumption))))); rintro e w2 ⟨rfl, hb2⟩; obtain ⟨hc2, hf2⟩ := bcell hb2))
    go_ret
    exact ⟨rfl, by repeat (first | (with_reducible exact Below.refl _ _) | (with_reducible assumption) | (with_reducible refine ba ?_) | (with_reducible refine bd ?_) | (with_reducible refine bdn ?_ _) | (with_reducible refine bset ?_ (by first | exact Nat.le_refl _ | omega | (simp; done) | (simp; omega))) | (with_reducible refine bt ?_ (by with_reducible assumption)))⟩
  · rw [hL] at cl hl
    have Cl := Lib.hid cl
    clear cl hL
    rcases hl with hl | hl | hl | hl | hl
    · cases hl
    all_goals
      go_enter Tryd.func9, Tryd.ntmps9
      go_wp2_with (first
        | (go_at_call 25; (with_reducible refine (Clv.out _).mono ?_); rintro e w1 ⟨rfl, hb1⟩; obtain ⟨hc1, hf1⟩ := bcell hb1)
        | (go_at_call 10; (with_reducible refine (Cl.out _ ?_).mono ?_); (· exact HH.out.later (by repeat (first | (with_reducible exact Below.refl _ _) | (with_reducible assumption) | (with_reducible refine ba ?_) | (with_reducible refine bd ?_) | (with_reducible refine bdn ?_ _) | (with_reducible refine bset ?_ (by first | exact Nat.le_refl _ | omega | (simp; done) | (simp; omega))) | (with_reducible refine bt ?_ (by with_reducible assumption))))); rintro e w2 ⟨rfl, hb2⟩; obtain ⟨hc2, hf2⟩ := bcell hb2))
      all_goals
        go_ret
        exact ⟨rfl, by repeat (first | (with_reducible exact Below.refl _ _) | (with_reducible assumption) | (with_reducible refine ba ?_) | (with_reducible refine bd ?_) | (with_reducible refine bdn ?_ _) | (with_reducible refine bset ?_ (by first | exact Nat.le_refl _ | omega | (simp; done) | (simp; omega))) | (with_reducible refine bt ?_ (by with_reducible assumption)))⟩
/-- what Last told, if it told one -/
structure LastA (l : List RuleV) (name : ByteArray) (off t : Int) (K : Bool) (o : OccV) : Prop where
  val : optV (Chn.lastO l name off t) = .tuple #[.agg #[.int .i64 o.rule, .int .i64 o.year, .int .i64 o.nom], .bool K]
  is : K = true → Chn.lastO l name off t = some o
theorem last_a (l : List RuleV) (name : ByteArray) (off t : Int) : ∃ K o, LastA l name off t K o := by
  cases hk : Chn.lastO l name off t with
  | none => exact ⟨false, Nxt.occ0, ⟨by rw [hk]; rfl, fun h => absurd h (by decide)⟩⟩
  | some o => exact ⟨true, o, ⟨by rw [hk]; rfl, fun _ => hk⟩⟩
set_option maxRecDepth 100000 in
set_option maxHeartbeats 6400000 in
theorem around1 {w : World} {v : Value} {l : List RuleV} (h : Holds w v l) (name : ByteArray) (off t : Int) (hl : Lgt.light l = true) (t0 : -1099511627776 ≤ t) (t1 : t ≤ 1099511627776) (f0 : -54000 ≤ off) (f1 : off ≤ 54000) :
    Calls Tryd.prog 9 #[v, .string name, .int .i64 off, .int .i64 t] w fun e w' => e = .returned (.bool true) ∧ Below w.heap.size w w' := by
  have hm : Chn.may off = true := Chn.may_iff.2 ⟨f0, f1⟩
  obtain ⟨K, o, hF⟩ := last_a l name off t
  have han := fun hs (hk : K = true) => Chn.after_next hm t0 t1 hs (hF.is hk)
  have hif := fun hs (i : Nat) (a b : OccV) ha hb => Chn.inst_far (l := l) (name := name) (t := t) (i := i) (a := a) (b := b) hm hs ha hb
  have clv := fun W => lives W
  have cl := fun W (h : Holds W v l) => Lgt.LightH h
  have cn := fun W (h : Holds W v l) => All.In h name (t - 1036800) (t + 1036800) 20 (by decide)
  have ca := fun W (h : Holds W v l) => ChW.Last h name off t
  have cb := fun W (h : Holds W v l) => ChW.After h name off t
  have cx := fun W (h : Holds W v l) => NxH.Next h name o
  have ci := fun (o : OccV) W (h : Holds W v l) => ChW.Instant h name off o
  rw [show All.inO l name (t - 1036800) (t + 1036800) 20 = Chn.around l name t by unfold All.inO Chn.around; rw [if_pos (by omega)]; rfl] at cn
  obtain ⟨L, hL⟩ : ∃ L, L = Chn.around l name t := ⟨_, rfl⟩
  rw [← hL] at cn han hif
  obtain ⟨i1, y1, n1, eB, _⟩ := All.opt_parts (Chn.afterO l name off t)
  obtain ⟨M, hM⟩ : ∃ g, g = (Chn.afterO l name off t).isSome := ⟨_, rfl⟩
  rw [← hM] at eB
  have hbd : ∀ x ∈ L, -2000000000000 ≤ x.nom ∧ x.nom ≤ 2000000000000 := by
    intro x hx
    rw [hL] at hx
    have := Occ.all_bd (Occ.inL_all hx).1
    exact ⟨this.1, this.2.1⟩
  have hib : ∀ x ∈ L, -2000000064800 ≤ Chn.inst l name off x ∧ Chn.inst l name off x ≤ 2000000064800 := by
    intro x hx
    have := hbd x hx
    have := Chn.inst_bd (l := l) (name := name) hm x
    omega
  rw [hl] at cl
  rw [hF.val] at ca
  rw [eB] at cb
  have cx1 : Chn.Spaced L → K = true → ∀ W, Holds W v l → Calls Tryd.prog 20 #[v, .string name, .agg o.cells.toArray] W fun e w' => e = .returned (.tuple #[.agg #[.int .i64 i1, .int .i64 y1, .int .i64 n1], .bool M]) ∧ Below W.heap.size W w' := by
    intro hs hk W hW
    have := cx W hW
    rwa [han hs hk, eB] at this
  have hlen : L.length ≤ 20 := by rw [hL]; exact Occ.inL_len _ _ _ _ _
  clear cx
  obtain ⟨q, cap, rfl⟩ := h.form
  unfold OccV.cells at *
  have HH := Lib.hid h
  have Clv := Lib.hid clv
  have Cl := Lib.hid cl
  have Cn := Lib.hid cn
  have Ca := Lib.hid ca
  have Cb := Lib.hid cb
  have Cx := Lib.hid cx1
  have Ci := Lib.hid ci
  have Hif := Lib.hid hif
  have Hbd := Lib.hid hbd
  have Hib := Lib.hid hib
  clear h clv cl ca cb cx1 ci cn hif hbd hib hl hF hL eB hM hm han
  generalize l.length = n at *
  go_enter Tryd.func9, Tryd.ntmps9
  go_upto_region 7 with (first
    | (go_at_call 25; (with_reducible refine (Clv.out _).mono ?_); rintro e w1 ⟨rfl, hb1⟩; obtain ⟨hc1, hf1⟩ := bcell hb1)
    | (go_at_call 10; (with_reducible refine (Cl.out _ ?_).mono ?_); (· exact HH.out.later (by repeat (first | (with_reducible exact Below.refl _ _) | (with_reducible assumption) | (with_reducible refine ba ?_) | (with_reducible refine bd ?_) | (with_reducible refine bdn ?_ _) | (with_reducible refine bset ?_ (by first | exact Nat.le_refl _ | omega | (simp; done) | (simp; omega))) | (with_reducible refine bt ?_ (by with_reducible assumption))))); rintro e w2 ⟨rfl, hb2⟩; obtain ⟨hc2, hf2⟩ := bcell hb2)
    | (go_at_call 30; (with_reducible refine (Cn.out _ ?_).mono ?_); (· exact HH.out.later (by repeat (first | (with_reducible exact Below.refl _ _) | (with_reducible assumption) | (with_reducible refine ba ?_) | (with_reducible refine bd ?_) | (with_reducible refine bdn ?_ _) | (with_reducible refine bset ?_ (by first | exact Nat.le_refl _ | omega | (simp; done) | (simp; omega))) | (with_reducible refine bt ?_ (by with_reducible assumption))))); rintro e W0 ⟨rv, rfl, hrow, hb3⟩; obtain ⟨rq, rc, hrv⟩ := Grp.own_form hrow; subst hrv))
  have hW0 : Below w.heap.size w W0 := by repeat (first | (with_reducible exact Below.refl _ _) | (with_reducible assumption) | (with_reducible refine ba ?_) | (with_reducible refine bd ?_) | (with_reducible refine bdn ?_ _) | (with_reducible refine bset ?_ (by first | exact Nat.le_refl _ | omega | (simp; done) | (simp; omega))) | (with_reducible refine bt ?_ (by with_reducible assumption)))
  obtain ⟨m, hmL⟩ : ∃ m, m = L.length := ⟨_, rfl⟩
  rw [← hmL] at hrow hlen ⊢
  have hcell : 0 < m → ∃ g, rq = some ⟨g, 0, none⟩ ∧ g < W0.heap.size ∧ ∀ (j : Nat) (x : OccV), L[j]? = some x → ∀ u, Below W0.heap.size W0 u → u.cell? ⟨g, j * 3, none⟩ = some (.int .i64 x.rule) ∧ u.cell? ⟨g, j * 3 + 1, none⟩ = some (.int .i64 x.year) ∧ u.cell? ⟨g, j * 3 + 2, none⟩ = some (.int .i64 x.nom) := by
    intro h0
    obtain ⟨g, ⟨c1, hq⟩, _, l1, r1⟩ := Grp.own_cell (j := 0) hrow h0
    simp only [Value.slice.injEq] at hq
    refine ⟨g, hq.1, l1, fun j x hx u hu => ⟨?_, ?_, ?_⟩⟩
    · exact (hu.cell (p := ⟨g, j * 3, none⟩) l1).trans (r1 _ _ (Grp.flat_at (f := OccV.cells) (sz := 3) (fun _ => rfl) L j 0 x _ hx rfl))
    · exact (hu.cell (p := ⟨g, j * 3 + 1, none⟩) l1).trans (r1 _ _ (Grp.flat_at (f := OccV.cells) (sz := 3) (fun _ => rfl) L j 1 x _ hx rfl))
    · exact (hu.cell (p := ⟨g, j * 3 + 2, none⟩) l1).trans (r1 _ _ (Grp.flat_at (f := OccV.cells) (sz := 3) (fun _ => rfl) L j 2 x _ hx rfl))
  have HB0 := Lib.hid hW0
  have HG := Lib.hid hcell
  have HM := Lib.hid hmL
  clear hW0 hcell hrow hmL hb1 hc1 hf1 hb2 hc2 hf2 hb3
  go_loopw [53] (fun i wr => ∃ k : Nat, i = .int .i64 k ∧ k ≤ m ∧ (∀ (j : Nat) (a b : OccV), j + 1 < k → L[j]? = some a → L[j + 1]? = some b → a.nom + 345600 ≤ b.nom) ∧ Below W0.heap.size W0 wr) (fun i _ => m - (intOf i).toNat)
  case atStart => exact ⟨0, rfl, Nat.zero_le _, fun j a b hj => absurd hj (by omega), Below.refl _ _⟩
  case round =>
    obtain ⟨k, rfl, hk, hsp, hbel⟩ := hrel
    have Hsp := Lib.hid hsp
    clear hsp
    by_cases hlt : k < m
    · obtain ⟨g, rfl, hgl, hgc⟩ := HG.out (by omega)
      obtain ⟨x, hx⟩ : ∃ x, L[k]? = some x := ⟨L[k]'(by rw [← HM.out]; exact hlt), by simp⟩
      have bx := Hbd.out x (List.mem_of_getElem? hx)
      cases k with
      | zero =>
        have Hbel := Lib.hid hbel
        clear hbel hgc
        go_wp2
        go_quiet (fail)
        go_wp2
        have hbel := Hbel.out
        go_roundw
        case rel => exact ⟨1, rfl, by omega, fun j a b hj => absurd hj (by omega), by repeat (first | (with_reducible exact Below.refl _ _) | (with_reducible assumption) | (with_reducible refine ba ?_) | (with_reducible refine bd ?_) | (with_reducible refine bdn ?_ _) | (with_reducible refine bset ?_ (by first | exact Nat.le_refl _ | omega | (simp; done) | (simp; omega))) | (with_reducible refine bt ?_ (by with_reducible assumption)))⟩
        case measure => simp [intOf]; omega
      | succ k =>
        obtain ⟨y, hy⟩ : ∃ y, L[k]? = some y := ⟨L[k]'(by rw [← HM.out]; omega), by simp⟩
        have by' := Hbd.out y (List.mem_of_getElem? hy)
        obtain ⟨_, _, gx⟩ := hgc (k + 1) x hx wr hbel
        obtain ⟨_, _, gy⟩ := hgc k y hy wr hbel
        have hk1 : ((k + 1 : Nat) : Int) - 1 = (k : Int) := by omega
        have Hbel := Lib.hid hbel
        have Hx := Lib.hid hx
        have Hy := Lib.hid hy
        clear hbel hgc hx hy
        by_cases hd : y.nom + 345600 ≤ x.nom
        · go_wp2
          go_quiet (fail)
          go_wp2
          have hbel := Hbel.out
          go_roundw
          case rel =>
            refine ⟨k + 2, by go_num, by omega, fun j a b hj ha hb => ?_, by repeat (first | (with_reducible exact Below.refl _ _) | (with_reducible assumption) | (with_reducible refine ba ?_) | (with_reducible refine bd ?_) | (with_reducible refine bdn ?_ _) | (with_reducible refine bset ?_ (by first | exact Nat.le_refl _ | omega | (simp; done) | (simp; omega))) | (with_reducible refine bt ?_ (by with_reducible assumption)))⟩
            rcases (by omega : j + 1 < k + 1 ∨ j = k) with hj | rfl
            · exact Hsp.out j a b hj ha hb
            · rw [Hx.out] at hb
              rw [Hy.out] at ha
              cases ha
              cases hb
              exact hd
          case measure => simp [intOf]; omega
        · go_wp2
          go_quiet (fail)
          go_wp2
          have hbel := Hbel.out
          have hB0 := HB0.out
          go_ret
          exact ⟨rfl, by repeat (first | (with_reducible exact Below.refl _ _) | (with_reducible assumption) | (with_reducible refine ba ?_) | (with_reducible refine bd ?_) | (with_reducible refine bdn ?_ _) | (with_reducible refine bset ?_ (by first | exact Nat.le_refl _ | omega | (simp; done) | (simp; omega))) | (with_reducible refine bt ?_ (by with_reducible assumption)))⟩
    · have hkm : k = m := by omega
      have hs : Chn.Spaced L := by
        intro i a b ha hb
        refine Hsp.out i a b ?_ ha hb
        have := (List.getElem?_eq_some_iff.1 hb).1
        have := HM.out
        omega
      have hif2 := Hif.out hs
      have Hif2 := Lib.hid hif2
      have hbel' := HB0.out.trans (hbel.mono HB0.out.size)
      have HbeX := Lib.hid hbel'
      have Hbel := Lib.hid hbel
      have hwr := hbel.size
      clear hbel hif2 hbel'
      cases K
      · clear Cx hs
        go_wp2_with (first
          | (go_at_call 26; (with_reducible refine (Ca.out _ ?_).mono ?_); (· exact HH.out.later (bt HbeX.out (by repeat (first | (with_reducible exact Below.refl _ _) | (with_reducible assumption) | (with_reducible refine ba ?_) | (with_reducible refine bd ?_) | (with_reducible refine bdn ?_ _) | (with_reducible refine bset ?_ (by first | exact Nat.le_refl _ | omega | (simp; done) | (simp; omega))) | (with_reducible refine bt ?_ (by with_reducible assumption)))))); rintro e w4 ⟨rfl, hb4⟩; obtain ⟨hc4, hf4⟩ := bcell hb4)
          | (go_at_call 28; (with_reducible refine (Cb.out _ ?_).mono ?_); (· exact HH.out.later (bt HbeX.out (by repeat (first | (with_reducible exact Below.refl _ _) | (with_reducible assumption) | (with_reducible refine ba ?_) | (with_reducible refine bd ?_) | (with_reducible refine bdn ?_ _) | (with_reducible refine bset ?_ (by first | exact Nat.le_refl _ | omega | (simp; done) | (simp; omega))) | (with_reducible refine bt ?_ (by with_reducible assumption)))))); rintro e w5 ⟨rfl, hb5⟩; obtain ⟨hc5, hf5⟩ := bcell hb5))
        obtain ⟨X, hX⟩ : ∃ X, X = w5.alloc (.cells #[.int .i64 i1, .int .i64 y1, .int .i64 n1] 41) := ⟨_, rfl⟩
        have hBX : Below W0.heap.size W0 X := by rw [hX]; have hbel := Hbel.out; repeat (first | (with_reducible exact Below.refl _ _) | (with_reducible assumption) | (with_reducible refine ba ?_) | (with_reducible refine bd ?_) | (with_reducible refine bdn ?_ _) | (with_reducible refine bset ?_ (by first | exact Nat.le_refl _ | omega | (simp; done) | (simp; omega))) | (with_reducible refine bt ?_ (by with_reducible assumption)))
        rw [← hX]
        clear hb4 hb5 hc4 hf4 hc5 hf5 hX
        go_loopw [111] (fun i wr => ∃ k : Nat, i = .int .i64 k ∧ k ≤ m ∧ Below W0.heap.size W0 wr) (fun i _ => m - (intOf i).toNat)
        case atStart => exact ⟨0, rfl, Nat.zero_le _, hBX⟩
        case round =>
          clear hBX
          obtain ⟨k2, rfl, hk2, hbel⟩ := hrel
          have hz2 := hbel.size
          by_cases hlt2 : k2 < m
          · obtain ⟨g, rfl, hgl, hgc⟩ := HG.out (by omega)
            obtain ⟨x, hx⟩ : ∃ x, L[k2]? = some x := ⟨L[k2]'(by rw [← HM.out]; exact hlt2), by simp⟩
            cases k2 with
            | zero =>
              have Hb2 := Lib.hid hbel
              clear hbel hgc
              go_wp2
              have hb2 := Hb2.out
              go_roundw
              case rel => exact ⟨1, rfl, by omega, by repeat (first | (with_reducible exact Below.refl _ _) | (with_reducible assumption) | (with_reducible refine ba ?_) | (with_reducible refine bd ?_) | (with_reducible refine bdn ?_ _) | (with_reducible refine bset ?_ (by first | exact Nat.le_refl _ | omega | (simp; done) | (simp; omega))) | (with_reducible refine bt ?_ (by with_reducible assumption)))⟩
              case measure => simp [intOf]; omega
            | succ k2 =>
              obtain ⟨y, hy⟩ : ∃ y, L[k2]? = some y := ⟨L[k2]'(by rw [← HM.out]; omega), by simp⟩
              obtain ⟨x0, x1, x2⟩ := hgc (k2 + 1) x hx wr hbel
              obtain ⟨y0, y1', y2⟩ := hgc k2 y hy wr hbel
              obtain ⟨ey, ex, hd⟩ := Hif2.out k2 y x hy hx
              have ci1 := fun W h => Ci.out y W h
              have ci2 := fun W h => Ci.out x W h
              rw [ey] at ci1
              rw [ex] at ci2
              have hi1 := Hib.out y (List.mem_of_getElem? hy)
              have hi2 := Hib.out x (List.mem_of_getElem? hx)
              have hk1 : ((k2 + 1 : Nat) : Int) - 1 = (k2 : Int) := by omega
              generalize Chn.inst l name off y = ay at *
              generalize Chn.inst l name off x = ax at *
              simp only at ci1 ci2
              have Ci1 := Lib.hid ci1
              have Ci2 := Lib.hid ci2
              have hgw : g < wr.heap.size := by omega
              have HbY := Lib.hid (HB0.out.trans (hbel.mono HB0.out.size))
              have Hb2 := Lib.hid hbel
              clear ci1 ci2 hbel hgc hx hy ex ey
              go_wp2_with (first
                | (go_at_call 27; (with_reducible refine (Ci1.out _ ?_).mono ?_); (· exact HH.out.later (bt HbY.out (by repeat (first | (with_reducible exact Below.refl _ _) | (with_reducible assumption) | (with_reducible refine ba ?_) | (with_reducible refine bd ?_) | (with_reducible refine bdn ?_ _) | (with_reducible refine bset ?_ (by first | exact Nat.le_refl _ | omega | (simp; done) | (simp; omega))) | (with_reducible refine bt ?_ (by with_reducible assumption)))))); rintro e w7 ⟨rfl, hb7⟩; obtain ⟨hc7, hf7⟩ := bcell hb7; have hc7_0 := fun o => hc7 (g) o (by first | assumption | omega | (simp; done) | (simp; omega)); have hf7_0 := fun o => hf7 (g) o (by first | assumption | omega | (simp; done) | (simp; omega)); clear hc7 hf7; have hz7_0 : g < w7.heap.size := (by first | exact sz1 hb7 | exact sz2 hb7 | exact sz3 hb7 | (have := hb7.size; (try simp only [World.size_alloc, World.size_drew] at this); omega)))
                | (go_at_call 27; (with_reducible refine (Ci2.out _ ?_).mono ?_); (· exact HH.out.later (bt HbY.out (by repeat (first | (with_reducible exact Below.refl _ _) | (with_reducible assumption) | (with_reducible refine ba ?_) | (with_reducible refine bd ?_) | (with_reducible refine bdn ?_ _) | (with_reducible refine bset ?_ (by first | exact Nat.le_refl _ | omega | (simp; done) | (simp; omega))) | (with_reducible refine bt ?_ (by with_reducible assumption)))))); rintro e w8 ⟨rfl, hb8⟩; obtain ⟨hc8, hf8⟩ := bcell hb8))
              have hb2 := Hb2.out
              go_roundw
              case rel => exact ⟨k2 + 2, by go_num, by omega, by repeat (first | (with_reducible exact Below.refl _ _) | (with_reducible assumption) | (with_reducible refine ba ?_) | (with_reducible refine bd ?_) | (with_reducible refine bdn ?_ _) | (with_reducible refine bset ?_ (by first | exact Nat.le_refl _ | omega | (simp; done) | (simp; omega))) | (with_reducible refine bt ?_ (by with_reducible assumption)))⟩
              case measure => simp [intOf]; omega
          · have Hb2 := Lib.hid hbel
            clear hbel
            go_wp2
            have hb2 := Hb2.out
            have hB0 := HB0.out
            go_ret
            exact ⟨rfl, by repeat (first | (with_reducible exact Below.refl _ _) | (with_reducible assumption) | (with_reducible refine ba ?_) | (with_reducible refine bd ?_) | (with_reducible refine bdn ?_ _) | (with_reducible refine bset ?_ (by first | exact Nat.le_refl _ | omega | (simp; done) | (simp; omega))) | (with_reducible refine bt ?_ (by with_reducible assumption)))⟩
      · have Cy := Lib.hid (Cx.out hs rfl)
        clear Cx hs
        cases M
        all_goals
          go_wp2_with (first
            | (go_at_call 26; (with_reducible refine (Ca.out _ ?_).mono ?_); (· exact HH.out.later (bt HbeX.out (by repeat (first | (with_reducible exact Below.refl _ _) | (with_reducible assumption) | (with_reducible refine ba ?_) | (with_reducible refine bd ?_) | (with_reducible refine bdn ?_ _) | (with_reducible refine bset ?_ (by first | exact Nat.le_refl _ | omega | (simp; done) | (simp; omega))) | (with_reducible refine bt ?_ (by with_reducible assumption)))))); rintro e w4 ⟨rfl, hb4⟩; obtain ⟨hc4, hf4⟩ := bcell hb4)
            | (go_at_call 28; (with_reducible refine (Cb.out _ ?_).mono ?_); (· exact HH.out.later (bt HbeX.out (by repeat (first | (with_reducible exact Below.refl _ _) | (with_reducible assumption) | (with_reducible refine ba ?_) | (with_reducible refine bd ?_) | (with_reducible refine bdn ?_ _) | (with_reducible refine bset ?_ (by first | exact Nat.le_refl _ | omega | (simp; done) | (simp; omega))) | (with_reducible refine bt ?_ (by with_reducible assumption)))))); rintro e w5 ⟨rfl, hb5⟩; obtain ⟨hc5, hf5⟩ := bcell hb5; have hc5_0 := fun o => hc5 (w4.heap.size) o (by first | assumption | omega | (simp; done) | (simp; omega)); have hf5_0 := fun o => hf5 (w4.heap.size) o (by first | assumption | omega | (simp; done) | (simp; omega)); clear hc5 hf5; have hz5_0 : w4.heap.size < w5.heap.size := (by first | exact sz1 hb5 | exact sz2 hb5 | exact sz3 hb5 | (have := hb5.size; (try simp only [World.size_alloc, World.size_drew] at this); omega)))
            | (go_at_call 20; (with_reducible refine (Cy.out _ ?_).mono ?_); (· exact HH.out.later (bt HbeX.out (by repeat (first | (with_reducible exact Below.refl _ _) | (with_reducible assumption) | (with_reducible refine ba ?_) | (with_reducible refine bd ?_) | (with_reducible refine bdn ?_ _) | (with_reducible refine bset ?_ (by first | exact Nat.le_refl _ | omega | (simp; done) | (simp; omega))) | (with_reducible refine bt ?_ (by with_reducible assumption)))))); rintro e w6 ⟨rfl, hb6⟩; obtain ⟨hc6, hf6⟩ := bcell hb6; have hc6_0 := fun o => hc6 (w5.heap.size) o (by first | assumption | omega | (simp; done) | (simp; omega)); have hf6_0 := fun o => hf6 (w5.heap.size) o (by first | assumption | omega | (simp; done) | (simp; omega)); clear hc6 hf6; have hz6_0 : w5.heap.size < w6.heap.size := (by first | exact sz1 hb6 | exact sz2 hb6 | exact sz3 hb6 | (have := hb6.size; (try simp only [World.size_alloc, World.size_drew] at this); omega))))
          obtain ⟨X, hX⟩ : ∃ X, X = w6.alloc (.cells #[.int .i64 i1, .int .i64 y1, .int .i64 n1] 41) := ⟨_, rfl⟩
          have hBX : Below W0.heap.size W0 X := by rw [hX]; have hbel := Hbel.out; repeat (first | (with_reducible exact Below.refl _ _) | (with_reducible assumption) | (with_reducible refine ba ?_) | (with_reducible refine bd ?_) | (with_reducible refine bdn ?_ _) | (with_reducible refine bset ?_ (by first | exact Nat.le_refl _ | omega | (simp; done) | (simp; omega))) | (with_reducible refine bt ?_ (by with_reducible assumption)))
          rw [← hX]
          clear hb4 hb5 hb6 hc4 hf4 hc5_0 hf5_0 hc6_0 hf6_0 hz5_0 hz6_0 hX
          go_loopw [111] (fun i wr => ∃ k : Nat, i = .int .i64 k ∧ k ≤ m ∧ Below W0.heap.size W0 wr) (fun i _ => m - (intOf i).toNat)
          case atStart => exact ⟨0, rfl, Nat.zero_le _, hBX⟩
          case round =>
            clear hBX
            obtain ⟨k2, rfl, hk2, hbel⟩ := hrel
            have hz2 := hbel.size
            by_cases hlt2 : k2 < m
            · obtain ⟨g, rfl, hgl, hgc⟩ := HG.out (by omega)
              obtain ⟨x, hx⟩ : ∃ x, L[k2]? = some x := ⟨L[k2]'(by rw [← HM.out]; exact hlt2), by simp⟩
              cases k2 with
              | zero =>
                have Hb2 := Lib.hid hbel
                clear hbel hgc
                go_wp2
                have hb2 := Hb2.out
                go_roundw
                case rel => exact ⟨1, rfl, by omega, by repeat (first | (with_reducible exact Below.refl _ _) | (with_reducible assumption) | (with_reducible refine ba ?_) | (with_reducible refine bd ?_) | (with_reducible refine bdn ?_ _) | (with_reducible refine bset ?_ (by first | exact Nat.le_refl _ | omega | (simp; done) | (simp; omega))) | (with_reducible refine bt ?_ (by with_reducible assumption)))⟩
                case measure => simp [intOf]; omega
              | succ k2 =>
                obtain ⟨y, hy⟩ : ∃ y, L[k2]? = some y := ⟨L[k2]'(by rw [← HM.out]; omega), by simp⟩
                obtain ⟨x0, x1, x2⟩ := hgc (k2 + 1) x hx wr hbel
                obtain ⟨y0, y1', y2⟩ := hgc k2 y hy wr hbel
                obtain ⟨ey, ex, hd⟩ := Hif2.out k2 y x hy hx
                have ci1 := fun W h => Ci.out y W h
                have ci2 := fun W h => Ci.out x W h
                rw [ey] at ci1
                rw [ex] at ci2
                have hi1 := Hib.out y (List.mem_of_getElem? hy)
                have hi2 := Hib.out x (List.mem_of_getElem? hx)
                have hk1 : ((k2 + 1 : Nat) : Int) - 1 = (k2 : Int) := by omega
                generalize Chn.inst l name off y = ay at *
                generalize Chn.inst l name off x = ax at *
                simp only at ci1 ci2
                have Ci1 := Lib.hid ci1
                have Ci2 := Lib.hid ci2
                have hgw : g < wr.heap.size := by omega
                have HbY := Lib.hid (HB0.out.trans (hbel.mono HB0.out.size))
                have Hb2 := Lib.hid hbel
                clear ci1 ci2 hbel hgc hx hy ex ey
                go_wp2_with (first
                  | (go_at_call 27; (with_reducible refine (Ci1.out _ ?_).mono ?_); (· exact HH.out.later (bt HbY.out (by repeat (first | (with_reducible exact Below.refl _ _) | (with_reducible assumption) | (with_reducible refine ba ?_) | (with_reducible refine bd ?_) | (with_reducible refine bdn ?_ _) | (with_reducible refine bset ?_ (by first | exact Nat.le_refl _ | omega | (simp; done) | (simp; omega))) | (with_reducible refine bt ?_ (by with_reducible assumption)))))); rintro e w7 ⟨rfl, hb7⟩; obtain ⟨hc7, hf7⟩ := bcell hb7; have hc7_0 := fun o => hc7 (g) o (by first | assumption | omega | (simp; done) | (simp; omega)); have hf7_0 := fun o => hf7 (g) o (by first | assumption | omega | (simp; done) | (simp; omega)); clear hc7 hf7; have hz7_0 : g < w7.heap.size := (by first | exact sz1 hb7 | exact sz2 hb7 | exact sz3 hb7 | (have := hb7.size; (try simp only [World.size_alloc, World.size_drew] at this); omega)))
                  | (go_at_call 27; (with_reducible refine (Ci2.out _ ?_).mono ?_); (· exact HH.out.later (bt HbY.out (by repeat (first | (with_reducible exact Below.refl _ _) | (with_reducible assumption) | (with_reducible refine ba ?_) | (with_reducible refine bd ?_) | (with_reducible refine bdn ?_ _) | (with_reducible refine bset ?_ (by first | exact Nat.le_refl _ | omega | (simp; done) | (simp; omega))) | (with_reducible refine bt ?_ (by with_reducible assumption)))))); rintro e w8 ⟨rfl, hb8⟩; obtain ⟨hc8, hf8⟩ := bcell hb8))
                have hb2 := Hb2.out
                go_roundw
                case rel => exact ⟨k2 + 2, by go_num, by omega, by repeat (first | (with_reducible exact Below.refl _ _) | (with_reducible assumption) | (with_reducible refine ba ?_) | (with_reducible refine bd ?_) | (with_reducible refine bdn ?_ _) | (with_reducible refine bset ?_ (by first | exact Nat.le_refl _ | omega | (simp; done) | (simp; omega))) | (with_reducible refine bt ?_ (by with_reducible assumption)))⟩
                case measure => simp [intOf]; omega
            · have Hb2 := Lib.hid hbel
              clear hbel
              go_wp2
              have hb2 := Hb2.out
              have hB0 := HB0.out
              go_ret
              exact ⟨rfl, by repeat (first | (with_reducible exact Below.refl _ _) | (with_reducible assumption) | (with_reducible refine ba ?_) | (with_reducible refine bd ?_) | (with_reducible refine bdn ?_ _) | (with_reducible refine bset ?_ (by first | exact Nat.le_refl _ | omega | (simp; done) | (simp; omega))) | (with_reducible refine bt ?_ (by with_reducible assumption)))⟩
theorem around {w : World} {v : Value} {l : List RuleV} (h : Holds w v l) (name : ByteArray) (off t : Int) :
    Calls Tryd.prog 9 #[v, .string name, .int .i64 off, .int .i64 t] w fun e w' => e = .returned (.bool true) ∧ Below w.heap.size w w' := by
  cases hl : Lgt.light l
  · exact around0 h name off t (.inl hl)
  by_cases t1 : 1099511627776 < t
  · exact around0 h name off t (.inr (.inl t1))
  by_cases t0 : t < -1099511627776
  · exact around0 h name off t (.inr (.inr (.inl t0)))
  by_cases f0 : off < -54000
  · exact around0 h name off t (.inr (.inr (.inr (.inl f0))))
  by_cases f1 : 54000 < off
  · exact around0 h name off t (.inr (.inr (.inr (.inr f1))))
  exact around1 h name off t hl (by omega) (by omega) (by omega) (by omega)
theorem aroundW (v : Value) (l : List RuleV) (name : ByteArray) (off t : Int) (w : World) (h : Holds w v l) (_ : name.size ≤ 9223372036854775807) (_ : I64 off) (_ : I64 t) :
    Calls Tryd.prog 9 #[v, .string name, .int .i64 off, .int .i64 t] w fun e w' => e = .returned (.bool true) ∧ Below w.heap.size w w' := around h name off t
end L26
end Go.Proofs.YtopdjebnfhfpcaaDoor
