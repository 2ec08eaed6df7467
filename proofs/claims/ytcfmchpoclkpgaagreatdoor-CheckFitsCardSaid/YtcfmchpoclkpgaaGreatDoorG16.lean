import Derived.Test.YtcfmchpoclkpgaaGreatDoorG15
import Derived.Deep.DeepCutAuto
import Derived.Deep.RegionHeld3
import Derived.Test.YtcfmchpoclkpgaaGreatDoorG6
namespace Go.Proofs.YtcfmchpoclkpgaaGreatDoor
open Go.RowKit NB
namespace Apt
def meetB (a b : RuleV) (n : Int) : Bool := decide (a.fr + n ≤ b.to) && decide (b.fr ≤ a.to + n)
def Yr (r : RuleV) : Prop := (-100000 ≤ r.fr ∧ r.fr ≤ 100000) ∧ (-100000 ≤ r.to ∧ r.to ≤ 100000)
theorem meet (a b : RuleV) (n : Int) (ha : Yr a) (hb : Yr b) (hn : 0 ≤ n) (hn1 : n ≤ 1) (w : World) :
    Calls Tryz.prog 133 #[.agg a.cells.toArray, .agg b.cells.toArray, .int .i64 n] w fun e w' => e = .returned (.bool (meetB a b n)) ∧ Below w.heap.size w w' := by
  obtain ⟨⟨a1, a2⟩, a3, a4⟩ := ha
  obtain ⟨⟨b1, b2⟩, b3, b4⟩ := hb
  unfold RuleV.cells
  go_enter Tryz.func133, Tryz.ntmps133
  go_wp2
  all_goals
    go_ret
    refine ⟨ret_bool ?_, (((Below.refl _ _).alloc (Nat.le_refl _) _).alloc (by simp) _)⟩
    simp [meetB, *]
    try omega
def clearB (h l n : Int) : Bool := decide (345600 ≤ l + n - h)
def Sm (n : Int) : Prop := -1000000000000 ≤ n ∧ n ≤ 1000000000000
theorem clear (l1 h1 l2 h2 n : Int) (s1 : Sm h1) (s2 : Sm l2) (hn : 0 ≤ n) (hn1 : n ≤ 31536000) (w : World) :
    Calls Tryz.prog 134 #[.agg #[.int .i64 l1, .int .i64 h1], .agg #[.int .i64 l2, .int .i64 h2], .int .i64 n] w fun e w' => e = .returned (.bool (clearB h1 l2 n)) ∧ Below w.heap.size w w' := by
  obtain ⟨a1, a2⟩ := s1
  obtain ⟨b1, b2⟩ := s2
  unfold clearB
  go_enter Tryz.func134, Tryz.ntmps134
  go_wp2
  go_ret
  exact ⟨rfl, (((Below.refl _ _).alloc (Nat.le_refl _) _).alloc (by simp) _)⟩
structure Ok (r : RuleV) : Prop where
  f : Day.fits r.kind r.week r.day r.month = true
  s0 : 0 ≤ r.sec
  s1 : r.sec ≤ 172800
  y : Yr r
theorem win_sm {r : RuleV} (h : Ok r) : Sm (wLow r) ∧ Sm (wHigh r) := by
  obtain ⟨m1, m2, _, _⟩ := Day.fits_spec h.f
  obtain ⟨b1, b2, b3, b4⟩ := win_bd h.f
  have hc1 := Cal.cum_bd 2001 r.month m1 m2
  have hlp := Cal.lp_01 2001
  have hlen := Cal.len_bd 2001 r.month m1 m2
  have := h.s0
  have := h.s1
  unfold Sm wLow wHigh
  omega
def nearB (a b : RuleV) : Bool := (meetB a b 0 && !clearB (wHigh a) (wLow b) 0 && !clearB (wHigh b) (wLow a) 0) || (meetB a b 1 && !clearB (wHigh a) (wLow b) 31536000) || (meetB b a 1 && !clearB (wHigh b) (wLow a) 31536000)

set_option maxHeartbeats 12000000 in
theorem near (a b : RuleV) (ha : Ok a) (hb : Ok b) (w : World) :
    Calls Tryz.prog 77 #[.agg a.cells.toArray, .agg b.cells.toArray] w fun e w' => e = .returned (.bool (nearB a b)) ∧ Below w.heap.size w w' := by
  have ca := fun W => of a ha.f ha.s0 ha.s1 W
  have cb := fun W => of b hb.f hb.s0 hb.s1 W
  have cm0 := fun W => meet a b 0 ha.y hb.y (by decide) (by decide) W
  have cm1 := fun W => meet a b 1 ha.y hb.y (by decide) (by decide) W
  have cm2 := fun W => meet b a 1 hb.y ha.y (by decide) (by decide) W
  have cc0 := fun W => clear (wLow a) (wHigh a) (wLow b) (wHigh b) 0 (win_sm ha).2 (win_sm hb).1 (by decide) (by decide) W
  have cc1 := fun W => clear (wLow b) (wHigh b) (wLow a) (wHigh a) 0 (win_sm hb).2 (win_sm ha).1 (by decide) (by decide) W
  have cc2 := fun W => clear (wLow a) (wHigh a) (wLow b) (wHigh b) 31536000 (win_sm ha).2 (win_sm hb).1 (by decide) (by decide) W
  have cc3 := fun W => clear (wLow b) (wHigh b) (wLow a) (wHigh a) 31536000 (win_sm hb).2 (win_sm ha).1 (by decide) (by decide) W
  have Ca := Lib.hid ca
  have Cb := Lib.hid cb
  have Cm0 := Lib.hid cm0
  have Cm1 := Lib.hid cm1
  have Cm2 := Lib.hid cm2
  have Cc0 := Lib.hid cc0
  have Cc1 := Lib.hid cc1
  have Cc2 := Lib.hid cc2
  have Cc3 := Lib.hid cc3
  clear ca cb cm0 cm1 cm2 cc0 cc1 cc2 cc3 ha hb
  unfold nearB
  generalize wLow a = la at *
  generalize wHigh a = ga at *
  generalize wLow b = lb at *
  generalize wHigh b = gb at *
  generalize hm0 : meetB a b 0 = m0 at *
  generalize hm1 : meetB a b 1 = m1 at *
  generalize hm2 : meetB b a 1 = m2 at *
  generalize clearB ga lb 0 = k0 at *
  generalize clearB gb la 0 = k1 at *
  generalize clearB ga lb 31536000 = k2 at *
  generalize clearB gb la 31536000 = k3 at *
  clear hm0 hm1 hm2
  unfold RuleV.cells at *
  go_enter Tryz.func77, Tryz.ntmps77
  go_upto_region 1 with fail
  obtain ⟨W, hW, h1, h2, hsz⟩ : ∃ W : World, W = ((w.alloc (Obj.cells #[.string a.name, .int .i64 a.fr, .int .i64 a.to, .int .i64 a.month, .int .i64 a.kind, .int .i64 a.week, .int .i64 a.day, .int .i64 a.sec, .int .i64 a.base, .int .i64 a.save, .string a.letter] 63)).alloc (Obj.cells #[.string b.name, .int .i64 b.fr, .int .i64 b.to, .int .i64 b.month, .int .i64 b.kind, .int .i64 b.week, .int .i64 b.day, .int .i64 b.sec, .int .i64 b.base, .int .i64 b.save, .string b.letter] 63)) ∧
      (∀ o, W.cell? ⟨w.heap.size, o, none⟩ = (#[.string a.name, .int .i64 a.fr, .int .i64 a.to, .int .i64 a.month, .int .i64 a.kind, .int .i64 a.week, .int .i64 a.day, .int .i64 a.sec, .int .i64 a.base, .int .i64 a.save, .string a.letter] : Array Value)[o]?) ∧ (∀ o, W.cell? ⟨w.heap.size + 1, o, none⟩ = (#[.string b.name, .int .i64 b.fr, .int .i64 b.to, .int .i64 b.month, .int .i64 b.kind, .int .i64 b.week, .int .i64 b.day, .int .i64 b.sec, .int .i64 b.base, .int .i64 b.save, .string b.letter] : Array Value)[o]?) ∧ W.heap.size = w.heap.size + 2 :=
    ⟨_, rfl, fun o => cell_of_row _ _ _ _ _ _ (heap_alloc2_old w _ _), fun o => cell_of_row _ _ _ _ _ _ (heap_alloc2_new w _ _), by simp⟩
  have hBW : Below w.heap.size w W := by rw [hW];exact ((Below.refl _ _).alloc (Nat.le_refl _) _).alloc (by simp) _
  rw [← hW]
  clear hW
  have hsz1 : w.heap.size < W.heap.size := by omega
  have hsz2 : w.heap.size + 1 < W.heap.size := by omega
  have HSZ := Lib.hid hsz
  clear hsz
  have HBW := Lib.hid hBW
  clear hBW
  go_cut [5, 6] (fun s5 s6 wx => ∃ p q : Nat, s5 = .pointer (some ⟨p, 0, none⟩) ∧ s6 = .pointer (some ⟨q, 0, none⟩) ∧ wx.cell? ⟨p, 0, none⟩ = some (.int .i64 la) ∧ wx.cell? ⟨p, 1, none⟩ = some (.int .i64 ga) ∧ wx.cell? ⟨q, 0, none⟩ = some (.int .i64 lb) ∧ wx.cell? ⟨q, 1, none⟩ = some (.int .i64 gb) ∧ Below W.heap.size W wx)
  case first =>
    have hS : ∀ u : World, Below W.heap.size W u → (∀ o, u.cell? ⟨w.heap.size, o, none⟩ = (#[.string a.name, .int .i64 a.fr, .int .i64 a.to, .int .i64 a.month, .int .i64 a.kind, .int .i64 a.week, .int .i64 a.day, .int .i64 a.sec, .int .i64 a.base, .int .i64 a.save, .string a.letter] : Array Value)[o]?) ∧ (∀ o, u.cell? ⟨w.heap.size + 1, o, none⟩ = (#[.string b.name, .int .i64 b.fr, .int .i64 b.to, .int .i64 b.month, .int .i64 b.kind, .int .i64 b.week, .int .i64 b.day, .int .i64 b.sec, .int .i64 b.base, .int .i64 b.save, .string b.letter] : Array Value)[o]?) ∧ Below W.heap.size W u :=
      fun u hu => ⟨fun o => (hu.cell (p := ⟨w.heap.size, o, none⟩) hsz1).trans (h1 o), fun o => (hu.cell (p := ⟨w.heap.size + 1, o, none⟩) hsz2).trans (h2 o), hu⟩
    have HS := Lib.hid hS
    clear hS
    go_region_held3 (fun w' => (∀ o, w'.cell? ⟨w.heap.size, o, none⟩ = (#[.string a.name, .int .i64 a.fr, .int .i64 a.to, .int .i64 a.month, .int .i64 a.kind, .int .i64 a.week, .int .i64 a.day, .int .i64 a.sec, .int .i64 a.base, .int .i64 a.save, .string a.letter] : Array Value)[o]?) ∧ (∀ o, w'.cell? ⟨w.heap.size + 1, o, none⟩ = (#[.string b.name, .int .i64 b.fr, .int .i64 b.to, .int .i64 b.month, .int .i64 b.kind, .int .i64 b.week, .int .i64 b.day, .int .i64 b.sec, .int .i64 b.base, .int .i64 b.save, .string b.letter] : Array Value)[o]?) ∧ Below W.heap.size W w')
      ((apply HS.out
        repeat (first
          | exact hBb
          | exact hBa
          | exact Below.refl _ _
          | refine Below.drew ?_
          | (refine Below.alloc ?_ (by first|exact Nat.le_refl _|exact hBb.size|exact hBa.size|(simp;done)|(simp;have := hBb.size;omega)|(simp;have := hBa.size;omega)) _)
          | (refine Below.setCell ?_ (by first|exact Nat.le_refl _|exact hBb.size|exact hBa.size|(simp;done)|(simp;have := hBa.size;omega)) _))))
      (first
        | (go_at_call_of 132 (a.name);refine (Ca.out _).mono ?_;rintro e wa ⟨rfl, hbc⟩;rename_i hH _ _;have hBa : Below W.heap.size W wa := hH.2.2.trans (hbc.mono hH.2.2.size);obtain ⟨hca, hfa⟩ := bcell hbc;first|(have z0 := szd2 hbc;have z1 := Nat.lt_of_succ_lt z0)|(have z1 := szd1 hbc)|skip)
        | (go_at_call_of 132 (b.name);refine (Cb.out _).mono ?_;rintro e wb ⟨rfl, hbd⟩;rename_i hH _ _;have hBb : Below W.heap.size W wb := hH.2.2.trans (hbd.mono hH.2.2.size);obtain ⟨hcb, hfb⟩ := bcell hbd;first|(have y0 := sz2 hbd;have y1 := Nat.lt_of_succ_lt y0)|(have y1 := sz1 hbd)|skip;have q1 := hbd.size;first|(simp only [World.size_alloc] at q1)|skip;first|(have x1 : W.heap.size < wb.heap.size := (by omega))|skip;first|(have x0 : W.heap.size + 1 < wb.heap.size := (by omega))|skip))
    all_goals
      rename_i hH
      go_wp2_with fail
      go_meet
      refine ⟨_, _, rfl, rfl, ?_, ?_, ?_, ?_, hH.2.2⟩ <;> first|(go_simp;done)|(go_simp;apply World.cell?_setCell_same (u := .int .i64 0);go_simp)
  case rest =>
    obtain ⟨p, q, rfl, rfl, c1, c2, c3, c4, hB⟩ := hcut
    have hp := World.block_lt_of_cell? wc _ c1
    have hq := World.block_lt_of_cell? wc _ c3
    have hF : ∀ u : World, Below wc.heap.size wc u → (∀ o, u.cell? ⟨w.heap.size, o, none⟩ = (#[.string a.name, .int .i64 a.fr, .int .i64 a.to, .int .i64 a.month, .int .i64 a.kind, .int .i64 a.week, .int .i64 a.day, .int .i64 a.sec, .int .i64 a.base, .int .i64 a.save, .string a.letter] : Array Value)[o]?) ∧ (∀ o, u.cell? ⟨w.heap.size + 1, o, none⟩ = (#[.string b.name, .int .i64 b.fr, .int .i64 b.to, .int .i64 b.month, .int .i64 b.kind, .int .i64 b.week, .int .i64 b.day, .int .i64 b.sec, .int .i64 b.base, .int .i64 b.save, .string b.letter] : Array Value)[o]?) ∧
        u.cell? ⟨p, 0, none⟩ = some (.int .i64 la) ∧ u.cell? ⟨p, 1, none⟩ = some (.int .i64 ga) ∧ u.cell? ⟨q, 0, none⟩ = some (.int .i64 lb) ∧ u.cell? ⟨q, 1, none⟩ = some (.int .i64 gb) :=
      fun u hu => ⟨fun o => (hu.cell (p := ⟨w.heap.size, o, none⟩) (Nat.lt_of_lt_of_le hsz1 hB.size)).trans ((hB.cell (p := ⟨w.heap.size, o, none⟩) hsz1).trans (h1 o)), fun o => (hu.cell (p := ⟨w.heap.size + 1, o, none⟩) (Nat.lt_of_lt_of_le hsz2 hB.size)).trans ((hB.cell (p := ⟨w.heap.size + 1, o, none⟩) hsz2).trans (h2 o)),
        (hu.cell (p := ⟨p, 0, none⟩) hp).trans c1, (hu.cell (p := ⟨p, 1, none⟩) hp).trans c2, (hu.cell (p := ⟨q, 0, none⟩) hq).trans c3, (hu.cell (p := ⟨q, 1, none⟩) hq).trans c4⟩
    have HF := Lib.hid hF
    have hfin : Below w.heap.size w wc := HBW.out.trans (hB.mono (by omega))
    have Hfin := Lib.hid hfin
    have hI : Below wc.heap.size wc wc := Below.refl _ _
    clear hF hfin hB hp hq c1 c2 c3 c4 h1 h2
    obtain ⟨f1, f2, f3, f4, f5, f6⟩ := HF.out _ hI
    go_wp2_with (first
      | (go_at_call_of 133 (Value.int .i64 0);refine (Cm0.out _).mono ?_;rintro e wn ⟨rfl, hbn⟩;replace hI := hI.trans (hbn.mono hI.size);clear f1 f2 f3 f4 f5 f6 hbn;obtain ⟨f1, f2, f3, f4, f5, f6⟩ := HF.out _ hI)
      | (go_at_call 133;(with_reducible first|refine (Cm1.out _).mono ?_|refine (Cm2.out _).mono ?_);rintro e wn ⟨rfl, hbn⟩;replace hI := hI.trans (hbn.mono hI.size);clear f1 f2 f3 f4 f5 f6 hbn;obtain ⟨f1, f2, f3, f4, f5, f6⟩ := HF.out _ hI)
      | (go_at_call 134;(with_reducible first|refine (Cc0.out _).mono ?_|refine (Cc1.out _).mono ?_|refine (Cc2.out _).mono ?_|refine (Cc3.out _).mono ?_);rintro e wn ⟨rfl, hbn⟩;replace hI := hI.trans (hbn.mono hI.size);clear f1 f2 f3 f4 f5 f6 hbn;obtain ⟨f1, f2, f3, f4, f5, f6⟩ := HF.out _ hI))
    all_goals
      go_ret
      refine ⟨ret_bool ?_, Hfin.out.trans (hI.mono Hfin.out.size)⟩
      simp [*]
end Apt
end Go.Proofs.YtcfmchpoclkpgaaGreatDoor
namespace Go.Proofs.YtcfmchpoclkpgaaGreatDoor
open Go.RowKit NB
namespace Apt
theorem ok_of {r : RuleV} (h : Rul.right r = true) : Ok r := by
  obtain ⟨h1, h2, h3, _⟩ := Rul.right_spec h
  refine ⟨h2, h3.2.2.1, h3.2.2.2, ?_⟩
  unfold Yr
  omega
def pairE (a b : RuleV) : Int := if Rul.right a && Rul.right b then (if nearB a b then 15 else 0) else 4
set_option maxHeartbeats 1600000 in
theorem Pair (a b : RuleV) (ha : a.Fit) (hb : b.Fit) (w : World) :
    Calls Tryz.prog 42 #[.agg a.cells.toArray, .agg b.cells.toArray] w fun e w' => e = .returned (.int .i64 (pairE a b)) ∧ Below w.heap.size w w' := by
  have ca := fun W => Rul.Right a ha W
  have cb := fun W => Rul.Right b hb W
  have cn := fun (h1 : Rul.right a = true) (h2 : Rul.right b = true) W => near a b (ok_of h1) (ok_of h2) W
  have Ca := Lib.hid ca
  have Cb := Lib.hid cb
  have Cn := Lib.hid cn
  clear ca cb cn ha hb
  unfold pairE
  cases h1 : Rul.right a
  · have H1 := Lib.hid h1;clear h1
    have hf : (if (false && Rul.right b) = true then (if nearB a b then (15 : Int) else 0) else 4) = 4 := rfl
    rw [hf]
    clear hf
    unfold RuleV.cells at *
    go_enter Tryz.func42, Tryz.ntmps42
    go_wp2_with (go_at_call 76;refine (Ca.out _).mono ?_;rw [H1.out];rintro e w1 ⟨rfl, hb1⟩)
    go_ret
    exact ⟨rfl, ((((Below.refl _ _).alloc (Nat.le_refl _) _).alloc (by simp) _).trans (hb1.mono (by simp;omega)))⟩
  · cases h2 : Rul.right b
    · have H1 := Lib.hid h1;clear h1
      have H2 := Lib.hid h2;clear h2
      have hf : (if (true && false) = true then (if nearB a b then (15 : Int) else 0) else 4) = 4 := rfl
      rw [hf]
      clear hf
      unfold RuleV.cells at *
      go_enter Tryz.func42, Tryz.ntmps42
      go_wp2_with (first
        | (go_at_call_of 76 (a.name);refine (Ca.out _).mono ?_;rw [H1.out];rintro e w1 ⟨rfl, hb1⟩;obtain ⟨hc1, hf1⟩ := bcell hb1;have hz1 : w.heap.size + 1 < w1.heap.size := sz2 hb1;have hy1 : w.heap.size < w1.heap.size := (by omega))
        | (go_at_call_of 76 (b.name);refine (Cb.out _).mono ?_;rw [H2.out];rintro e w2 ⟨rfl, hb2⟩))
      go_ret
      exact ⟨rfl, (((((Below.refl _ _).alloc (Nat.le_refl _) _).alloc (by simp) _).trans (hb1.mono (by simp;omega))).trans (hb2.mono (by omega)))⟩
    · have C := Lib.hid (Cn.out h1 h2)
      have H1 := Lib.hid h1;clear h1
      have H2 := Lib.hid h2;clear h2
      have hf : (if (true && true) = true then (if nearB a b then (15 : Int) else 0) else 4) = if nearB a b then 15 else 0 := rfl
      rw [hf]
      clear hf Cn
      cases hn : nearB a b
      all_goals
        have Hn := Lib.hid hn;clear hn
        first
          | rw [if_pos rfl]
          | rw [if_neg (by decide)]
        unfold RuleV.cells at *
        go_enter Tryz.func42, Tryz.ntmps42
        go_wp2_with (first
          | (go_at_call 77;refine (C.out _).mono ?_;rw [Hn.out];rintro e w3 ⟨rfl, hb3⟩)
          | (go_at_call_of 76 (a.name);refine (Ca.out _).mono ?_;rw [H1.out];rintro e w1 ⟨rfl, hb1⟩;obtain ⟨hc1, hf1⟩ := bcell hb1;have hz1 : w.heap.size + 1 < w1.heap.size := sz2 hb1;have hy1 : w.heap.size < w1.heap.size := (by omega))
          | (go_at_call_of 76 (b.name);refine (Cb.out _).mono ?_;rw [H2.out];rintro e w2 ⟨rfl, hb2⟩;obtain ⟨hc2, hf2⟩ := bcell hb2;have hz2 : w.heap.size + 1 < w2.heap.size := Nat.lt_of_lt_of_le hz1 hb2.size;have hy2 : w.heap.size < w2.heap.size := (by omega)))
        go_ret
        exact ⟨rfl, ((((((Below.refl _ _).alloc (Nat.le_refl _) _).alloc (by simp) _).trans (hb1.mono (by simp;omega))).trans (hb2.mono (by omega))).trans (hb3.mono (by omega)))⟩

end Apt
end Go.Proofs.YtcfmchpoclkpgaaGreatDoor
