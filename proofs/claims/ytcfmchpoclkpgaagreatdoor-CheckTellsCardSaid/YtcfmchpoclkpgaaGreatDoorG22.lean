import Derived.Test.YtcfmchpoclkpgaaGreatDoorG20
import Derived.Test.YtcfmchpoclkpgaaGreatDoorBNew
import Derived.Great.Walk
import Derived.Test.YtcfmchpoclkpgaaGreatDoorRRule
import Derived.Test.YtcfmchpoclkpgaaGreatDoorG16
namespace Go.Proofs.YtcfmchpoclkpgaaGreatDoor
open Go.RowKit NB
namespace CkW
open Ck
def fc (t : TabV) (x : WhV) (f : Fault) : Array Value := #[t.rv, t.zv, t.lv, x.rv, x.ev, x.lv, .int .i64 f.1, .int .i64 f.2]
abbrev Solo (V W : World) (F : Nat) : Prop := BkN.Far V W F F
theorem tell {W : World} {F : Nat} {a b c d e g : Value} {f : Fault} (h : Box W F #[a, b, c, d, e, g, .int .i64 f.1, .int .i64 f.2] 86) (n y : Int) :
    Calls Tryz.prog 70 #[.pointer (some ⟨F, 0, none⟩), .int .i64 n, .int .i64 y] W fun x w' => x = .returned (.tuple #[]) ∧ Box w' F #[a, b, c, d, e, g, .int .i64 (less f (n, y)).1, .int .i64 (less f (n, y)).2] 86 ∧ Solo W w' F := by
  obtain ⟨fl, fe⟩ := f
  have c0 := h.cell
  have hlt := h.lt
  unfold less
  dsimp only at c0 ⊢
  have f0 := h.free
  have hb6 : Box ((W.setCell ⟨F, 6, none⟩ (.int .i64 n)).setCell ⟨F, 7, none⟩ (.int .i64 y)) F #[a, b, c, d, e, g, .int .i64 n, .int .i64 y] 86 := (h.set (j := 6) (v := .int .i64 n)).set (j := 7) (v := .int .i64 y)
  have hs : Solo W ((W.setCell ⟨F, 6, none⟩ (.int .i64 n)).setCell ⟨F, 7, none⟩ (.int .i64 y)) F := by
    refine ⟨rfl, rfl, rfl, by simp, fun k hk h1 _ => ?_⟩
    rw [Below.heap_setCell _ ⟨F, 7, none⟩ _ k h1, Below.heap_setCell _ ⟨F, 6, none⟩ _ k h1]
  have HB6 := Lib.hid hb6;have HS := Lib.hid hs;have HH := Lib.hid h
  clear hb6 hs h
  by_cases h1 : y = 0
  · rw [if_neg (fun q => q.1 h1)]
    have e1 : (y != 0) = false := by simp [h1]
    clear h1
    go_enter Tryz.func70, Tryz.ntmps70
    go_wp2
    exact Go.Great.bodyPost_end0 rfl rfl ⟨rfl, HH.out, BkN.Far.refl _ _ _⟩
  · have e1 : (y != 0) = true := by simpa using h1
    by_cases h2 : fe = 0
    · rw [if_pos ⟨h1, .inl h2⟩]
      subst h2
      clear h1
      go_enter Tryz.func70, Tryz.ntmps70
      go_wp2
      exact Go.Great.bodyPost_end0 rfl rfl ⟨rfl, HB6.out, HS.out⟩
    · have e2 : (fe == 0) = false := by simpa using h2
      by_cases h3 : n < fl
      · rw [if_pos ⟨h1, .inr h3⟩]
        clear h1 h2
        go_enter Tryz.func70, Tryz.ntmps70
        go_wp2
        exact Go.Great.bodyPost_end0 rfl rfl ⟨rfl, HB6.out, HS.out⟩
      · rw [if_neg (fun h => h.2.elim h2 h3)]
        have e3 : fl ≤ n := by omega
        clear h1 h2 h3
        go_enter Tryz.func70, Tryz.ntmps70
        go_wp2
        exact Go.Great.bodyPost_end0 rfl rfl ⟨rfl, HH.out, BkN.Far.refl _ _ _⟩
end CkW
end Go.Proofs.YtcfmchpoclkpgaaGreatDoor
namespace Go.Proofs.YtcfmchpoclkpgaaGreatDoor
open Go.RowKit NB
namespace R27
theorem wLow_eq (r : RuleV) : Apt.wLow r = (Cal.cum 2001 r.month + Day.winLow r.kind r.day r.month - 1) * 86400 + r.sec := by unfold Apt.wLow;omega
theorem wHigh_eq (r : RuleV) : Apt.wHigh r = (Cal.cum 2001 r.month + Day.winHigh r.kind r.day r.month - 1) * 86400 + r.sec := by unfold Apt.wHigh;omega
def winV (r : RuleV) : Value := if Rul.right r then .tuple #[.int .i64 (Apt.wLow r), .int .i64 (Apt.wHigh r), .int .i64 0] else .tuple #[.int .i64 0, .int .i64 0, .int .i64 4]
set_option maxHeartbeats 3200000 in
theorem Window (r : RuleV) (hr : r.Fit) (w : World) : Calls Tryz.prog 185 #[.agg r.cells.toArray] w fun e w' => e = .returned (winV r) ∧ Below w.heap.size w w' := by
  have cr := RRule.Right r hr
  unfold winV
  cases hR : Rul.right r
  · rw [hR] at cr
    rw [if_neg (by decide)]
    unfold RuleV.cells at *
    have Cr := Lib.hid cr
    clear cr hR
    go_enter Tryz.func185, Tryz.ntmps185
    go_wp2_with (go_at_call 204;(with_reducible refine (Cr.out _).mono ?_);rintro e w1 ⟨rfl, hb1⟩;obtain ⟨hc1, hf1⟩ := bcell hb1;have hc1_0 := fun o => hc1 (w.heap.size) o (by first|assumption|omega|(simp;done)|(simp;omega));have hf1_0 := fun o => hf1 (w.heap.size) o (by first|assumption|omega|(simp;done)|(simp;omega));clear hc1 hf1;have hz1_0 : w.heap.size < w1.heap.size := (by first|exact sz1 hb1|exact sz2 hb1|exact sz3 hb1|(have := hb1.size;(try simp only [World.size_alloc, World.size_drew] at this);omega)))
    go_ret3
    exact ⟨rfl, by repeat (first|(with_reducible exact Below.refl _ _)|(with_reducible assumption)|(with_reducible refine ba ?_)|(with_reducible refine bd ?_)|(with_reducible refine bdn ?_ _)|(with_reducible refine bset ?_ (by first|exact Nat.le_refl _|omega|(simp;done)|(simp;omega)))|(with_reducible refine bt ?_ (by with_reducible assumption)))⟩
  · rw [hR] at cr
    rw [if_pos rfl, wLow_eq, wHigh_eq]
    obtain ⟨_, hf, ⟨_, _, s0, s1⟩, _⟩ := Rul.right_spec hR
    obtain ⟨m0, m1, _, _⟩ := Day.fits_spec hf
    obtain ⟨l0, l1, h0, h1⟩ := Apt.win_bd hf
    have cw := RDay.Window r.kind r.week r.day r.month
    rw [hf, if_pos rfl] at cw
    generalize Day.winLow r.kind r.day r.month = lo at *
    generalize Day.winHigh r.kind r.day r.month = hi at *
    obtain ⟨M, hM⟩ : ∃ M, M = r.month := ⟨_, rfl⟩
    have cb : 0 ≤ Cal.cum 2001 r.month ∧ Cal.cum 2001 r.month ≤ 366 := by
      have := Cal.cum_bd 2001 r.month m0 m1
      have := Cal.len_le 2001 r.month
      have := Cal.lp_01 2001
      omega
    unfold RuleV.cells at *
    have Cr := Lib.hid cr
    have Cw := Lib.hid cw
    have hf0 : True := trivial
    clear cr hR hf cw hM M hf0
    go_enter Tryz.func185, Tryz.ntmps185
    go_wp2_with (go_at_call 204;(with_reducible refine (Cr.out _).mono ?_);rintro e w1 ⟨rfl, hb1⟩;obtain ⟨hc1, hf1⟩ := bcell hb1;have hc1_0 := fun o => hc1 (w.heap.size) o (by first|assumption|omega|(simp;done)|(simp;omega));have hf1_0 := fun o => hf1 (w.heap.size) o (by first|assumption|omega|(simp;done)|(simp;omega));clear hc1 hf1;have hz1_0 : w.heap.size < w1.heap.size := (by first|exact sz1 hb1|exact sz2 hb1|exact sz3 hb1|(have := hb1.size;(try simp only [World.size_alloc, World.size_drew] at this);omega)))
    have hbx : Box w1 w.heap.size #[.string r.name, .int .i64 r.fr, .int .i64 r.to, .int .i64 r.month, .int .i64 r.kind, .int .i64 r.week, .int .i64 r.day, .int .i64 r.sec, .int .i64 r.base, .int .i64 r.save, .string r.letter] 63 := by repeat (first|(with_reducible assumption)|(with_reducible exact Box.new _ _ _)|(with_reducible refine Box.old ?_)|(with_reducible refine Box.drew ?_)|(with_reducible refine Box.drewN ?_ _)|(with_reducible refine Box.other ?_ (by first|assumption|omega|(simp;omega)))|(with_reducible refine Box.later ?_ (by with_reducible assumption)))
    have hB : Below w.heap.size w w1 := by repeat (first|(with_reducible exact Below.refl _ _)|(with_reducible assumption)|(with_reducible refine ba ?_)|(with_reducible refine bd ?_)|(with_reducible refine bdn ?_ _)|(with_reducible refine bset ?_ (by first|exact Nat.le_refl _|omega|(simp;done)|(simp;omega)))|(with_reducible refine bt ?_ (by with_reducible assumption)))
    clear hb1 hc1_0 hf1_0
    go_loopw [5, 6] (fun s i wr => ∃ k : Int, s = .int .i64 (Cal.cum 2001 k) ∧ i = .int .i64 k ∧ 1 ≤ k ∧ k ≤ r.month ∧ (0 ≤ Cal.cum 2001 k ∧ Cal.cum 2001 k ≤ 366) ∧ Below w.heap.size w wr ∧ Box wr w.heap.size #[.string r.name, .int .i64 r.fr, .int .i64 r.to, .int .i64 r.month, .int .i64 r.kind, .int .i64 r.week, .int .i64 r.day, .int .i64 r.sec, .int .i64 r.base, .int .i64 r.save, .string r.letter] 63) (fun _ i _ => (r.month - intOf i).toNat)
    case atStart => exact ⟨1, by rw [RCiv.cum_one], rfl, by omega, by omega, by rw [RCiv.cum_one];omega, hB, hbx⟩
    case round =>
      obtain ⟨k, rfl, rfl, hk1, hkm, hcb, hbel, hbx⟩ := hrel
      have u0 := hbx.lt
      have f0 := hbx.cell
      by_cases hlt : k < r.month
      · have hcs := Cal.cum_succ 2001 k (by omega) (by omega)
        have hcb1 := Cal.cum_bd 2001 (k + 1) (by omega) (by omega)
        have hl0 := Cal.len_le 2001 (k + 1)
        have hlp := Cal.lp_01 2001
        have hlk := Cal.len_le 2001 k
        have cl := RCiv.Len 2001 k
        generalize Cal.len 2001 k = lk at *
        generalize Cal.cum 2001 k = ck at *
        have Hcs := Lib.hid hcs
        have Cl := Lib.hid cl
        have Hcb1 : 0 ≤ Cal.cum 2001 (k + 1) ∧ Cal.cum 2001 (k + 1) ≤ 366 := by omega
        clear hcs cl hcb1 hl0 hlp
        go_wp2_with (go_at_call 240;(with_reducible refine (Cl.out _).mono ?_);rintro e w2 ⟨rfl, hb2⟩;obtain ⟨hc2, hf2⟩ := bcell hb2;have hc2_0 := fun o => hc2 (w.heap.size) o (by first|assumption|omega|(simp;done)|(simp;omega));have hf2_0 := fun o => hf2 (w.heap.size) o (by first|assumption|omega|(simp;done)|(simp;omega));clear hc2 hf2;have hz2_0 : w.heap.size < w2.heap.size := (by first|exact sz1 hb2|exact sz2 hb2|exact sz3 hb2|(have := hb2.size;(try simp only [World.size_alloc, World.size_drew] at this);omega)))
        go_roundw
        case rel => exact ⟨k + 1, by rw [Hcs.out], rfl, by omega, by omega, Hcb1, by repeat (first|(with_reducible exact Below.refl _ _)|(with_reducible assumption)|(with_reducible refine ba ?_)|(with_reducible refine bd ?_)|(with_reducible refine bdn ?_ _)|(with_reducible refine bset ?_ (by first|exact Nat.le_refl _|omega|(simp;done)|(simp;omega)))|(with_reducible refine bt ?_ (by with_reducible assumption))), by repeat (first|(with_reducible assumption)|(with_reducible exact Box.new _ _ _)|(with_reducible refine Box.old ?_)|(with_reducible refine Box.drew ?_)|(with_reducible refine Box.drewN ?_ _)|(with_reducible refine Box.other ?_ (by first|assumption|omega|(simp;omega)))|(with_reducible refine Box.later ?_ (by with_reducible assumption)))⟩
        case measure => simp [intOf];omega
      · have hkk : k = r.month := by omega
        subst hkk
        go_wp2_with (go_at_call 249;(with_reducible refine (Cw.out _).mono ?_);rintro e w2 ⟨rfl, hb2⟩;obtain ⟨hc2, hf2⟩ := bcell hb2;have hc2_0 := fun o => hc2 (w.heap.size) o (by first|assumption|omega|(simp;done)|(simp;omega));have hf2_0 := fun o => hf2 (w.heap.size) o (by first|assumption|omega|(simp;done)|(simp;omega));clear hc2 hf2;have hz2_0 : w.heap.size < w2.heap.size := (by first|exact sz1 hb2|exact sz2 hb2|exact sz3 hb2|(have := hb2.size;(try simp only [World.size_alloc, World.size_drew] at this);omega)))
        go_quiet (fail)
        go_wp2
        go_ret3
        exact ⟨rfl, by repeat (first|(with_reducible exact Below.refl _ _)|(with_reducible assumption)|(with_reducible refine ba ?_)|(with_reducible refine bd ?_)|(with_reducible refine bdn ?_ _)|(with_reducible refine bset ?_ (by first|exact Nat.le_refl _|omega|(simp;done)|(simp;omega)))|(with_reducible refine bt ?_ (by with_reducible assumption)))⟩
def folB (a b : RuleV) : Bool := decide (max (a.fr + 1) b.fr ≤ min (a.to + 1) b.to)
theorem follows (a b : RuleV) (ha : -32767 ≤ a.fr ∧ a.fr ≤ a.to ∧ a.to ≤ 32767) (w : World) : Calls Tryz.prog 186 #[.agg a.cells.toArray, .agg b.cells.toArray] w fun e w' => e = .returned (.bool (folB a b)) ∧ Below w.heap.size w w' := by
  unfold folB RuleV.cells
  go_enter Tryz.func186, Tryz.ntmps186
  go_wp2
  go_ret
  exact ⟨rfl, by repeat (first|(with_reducible exact Below.refl _ _)|(with_reducible assumption)|(with_reducible refine ba ?_)|(with_reducible refine bd ?_)|(with_reducible refine bdn ?_ _)|(with_reducible refine bset ?_ (by first|exact Nat.le_refl _|omega|(simp;done)|(simp;omega)))|(with_reducible refine bt ?_ (by with_reducible assumption)))⟩
theorem fol_meet {a b : RuleV} (ha : a.fr ≤ a.to) (hb : b.fr ≤ b.to) : folB a b = Apt.meetB a b 1 := by
  unfold folB Apt.meetB
  rw [Bool.eq_iff_iff]
  simp only [decide_eq_true_eq, Bool.and_eq_true]
  omega
def togB (a b : RuleV) : Bool := decide (max a.fr b.fr ≤ min a.to b.to)
theorem tog_meet {a b : RuleV} (ha : a.fr ≤ a.to) (hb : b.fr ≤ b.to) : togB a b = Apt.meetB a b 0 := by
  unfold togB Apt.meetB
  rw [Bool.eq_iff_iff]
  simp only [decide_eq_true_eq, Bool.and_eq_true]
  omega
theorem near_eq {a b : RuleV} (ha : a.fr ≤ a.to) (hb : b.fr ≤ b.to) : Apt.nearB a b = ((togB a b && decide (Apt.wLow b - Apt.wHigh a < 345600) && decide (Apt.wLow a - Apt.wHigh b < 345600)) || (folB a b && decide (31536000 + Apt.wLow b - Apt.wHigh a < 345600)) || (folB b a && decide (31536000 + Apt.wLow a - Apt.wHigh b < 345600))) := by
  unfold Apt.nearB
  rw [tog_meet ha hb, fol_meet ha hb, fol_meet hb ha]
  have c : ∀ h l n : Int, (!Apt.clearB h l n) = decide (n + l - h < 345600) := by
    intro h l n
    unfold Apt.clearB
    rw [Bool.eq_iff_iff]
    simp
    omega
  rw [c, c, c, c, Int.zero_add, Int.zero_add]
set_option maxHeartbeats 6400000 in
theorem Pair (a b : RuleV) (ha : a.Fit) (hb : b.Fit) (w : World) : Calls Tryz.prog 124 #[.agg a.cells.toArray, .agg b.cells.toArray] w fun e w' => e = .returned (.int .i64 (Apt.pairE a b)) ∧ Below w.heap.size w w' := by
  have ca := Window a ha
  have cb := Window b hb
  unfold Apt.pairE
  unfold winV at ca cb
  cases hA : Rul.right a
  case false =>
    rw [hA] at ca
    cases hB : Rul.right b
    all_goals
      rw [hB] at cb
      simp only [Bool.false_eq_true, if_false, if_true, Bool.false_and, Bool.and_false] at ca cb ⊢
      unfold RuleV.cells at *
      have Ca := Lib.hid ca
      have Cb := Lib.hid cb
      clear ca cb hA hB
      go_enter Tryz.func124, Tryz.ntmps124
      go_upto_region 2 with (go_at_call 185;(with_reducible refine (Ca.out _).mono ?_);rintro e w1 ⟨rfl, hb1⟩;obtain ⟨hc1, hf1⟩ := bcell hb1;have hc1_0 := fun o => hc1 (w.heap.size) o (by first|assumption|omega|(simp;done)|(simp;omega));have hf1_0 := fun o => hf1 (w.heap.size) o (by first|assumption|omega|(simp;done)|(simp;omega));have hc1_1 := fun o => hc1 (w.heap.size + 1) o (by first|assumption|omega|(simp;done)|(simp;omega));have hf1_1 := fun o => hf1 (w.heap.size + 1) o (by first|assumption|omega|(simp;done)|(simp;omega));clear hc1 hf1;have hz1_0 : w.heap.size < w1.heap.size := (by first|exact sz1 hb1|exact sz2 hb1|exact sz3 hb1|(have := hb1.size;(try simp only [World.size_alloc] at this);omega));have hz1_1 : w.heap.size + 1 < w1.heap.size := (by first|exact sz1 hb1|exact sz2 hb1|exact sz3 hb1|(have := hb1.size;(try simp only [World.size_alloc, World.size_drew] at this);omega)))
      go_wp2_with (go_at_call 185;(with_reducible refine (Cb.out _).mono ?_);rintro e w2 ⟨rfl, hb2⟩;obtain ⟨hc2, hf2⟩ := bcell hb2;have hc2_0 := fun o => hc2 (w.heap.size) o (by first|assumption|omega|(simp;done)|(simp;omega));have hf2_0 := fun o => hf2 (w.heap.size) o (by first|assumption|omega|(simp;done)|(simp;omega));have hc2_1 := fun o => hc2 (w.heap.size + 1) o (by first|assumption|omega|(simp;done)|(simp;omega));have hf2_1 := fun o => hf2 (w.heap.size + 1) o (by first|assumption|omega|(simp;done)|(simp;omega));clear hc2 hf2;have hz2_0 : w.heap.size < w2.heap.size := (by first|exact sz1 hb2|exact sz2 hb2|exact sz3 hb2|(have := hb2.size;(try simp only [World.size_alloc, World.size_drew] at this);omega));have hz2_1 : w.heap.size + 1 < w2.heap.size := (by first|exact sz1 hb2|exact sz2 hb2|exact sz3 hb2|(have := hb2.size;(try simp only [World.size_alloc, World.size_drew] at this);omega)))
      go_ret
      exact ⟨rfl, by repeat (first|(with_reducible exact Below.refl _ _)|(with_reducible assumption)|(with_reducible refine ba ?_)|(with_reducible refine bd ?_)|(with_reducible refine bdn ?_ _)|(with_reducible refine bset ?_ (by first|exact Nat.le_refl _|omega|(simp;done)|(simp;omega)))|(with_reducible refine bt ?_ (by with_reducible assumption)))⟩
  case true =>
    rw [hA] at ca
    cases hB : Rul.right b
    case false =>
      rw [hB] at cb
      simp only [Bool.false_eq_true, if_false, if_true, Bool.and_false] at ca cb ⊢
      unfold RuleV.cells at *
      have Ca := Lib.hid ca
      have Cb := Lib.hid cb
      clear ca cb hA hB
      go_enter Tryz.func124, Tryz.ntmps124
      go_upto_region 2 with (go_at_call 185;(with_reducible refine (Ca.out _).mono ?_);rintro e w1 ⟨rfl, hb1⟩;obtain ⟨hc1, hf1⟩ := bcell hb1;have hc1_0 := fun o => hc1 (w.heap.size) o (by first|assumption|omega|(simp;done)|(simp;omega));have hf1_0 := fun o => hf1 (w.heap.size) o (by first|assumption|omega|(simp;done)|(simp;omega));have hc1_1 := fun o => hc1 (w.heap.size + 1) o (by first|assumption|omega|(simp;done)|(simp;omega));have hf1_1 := fun o => hf1 (w.heap.size + 1) o (by first|assumption|omega|(simp;done)|(simp;omega));clear hc1 hf1;have hz1_0 : w.heap.size < w1.heap.size := (by first|exact sz1 hb1|exact sz2 hb1|exact sz3 hb1|(have := hb1.size;(try simp only [World.size_alloc] at this);omega));have hz1_1 : w.heap.size + 1 < w1.heap.size := (by first|exact sz1 hb1|exact sz2 hb1|exact sz3 hb1|(have := hb1.size;(try simp only [World.size_alloc, World.size_drew] at this);omega)))
      go_wp2_with (go_at_call 185;(with_reducible refine (Cb.out _).mono ?_);rintro e w2 ⟨rfl, hb2⟩;obtain ⟨hc2, hf2⟩ := bcell hb2;have hc2_0 := fun o => hc2 (w.heap.size) o (by first|assumption|omega|(simp;done)|(simp;omega));have hf2_0 := fun o => hf2 (w.heap.size) o (by first|assumption|omega|(simp;done)|(simp;omega));have hc2_1 := fun o => hc2 (w.heap.size + 1) o (by first|assumption|omega|(simp;done)|(simp;omega));have hf2_1 := fun o => hf2 (w.heap.size + 1) o (by first|assumption|omega|(simp;done)|(simp;omega));clear hc2 hf2;have hz2_0 : w.heap.size < w2.heap.size := (by first|exact sz1 hb2|exact sz2 hb2|exact sz3 hb2|(have := hb2.size;(try simp only [World.size_alloc, World.size_drew] at this);omega));have hz2_1 : w.heap.size + 1 < w2.heap.size := (by first|exact sz1 hb2|exact sz2 hb2|exact sz3 hb2|(have := hb2.size;(try simp only [World.size_alloc, World.size_drew] at this);omega)))
      go_ret
      exact ⟨rfl, by repeat (first|(with_reducible exact Below.refl _ _)|(with_reducible assumption)|(with_reducible refine ba ?_)|(with_reducible refine bd ?_)|(with_reducible refine bdn ?_ _)|(with_reducible refine bset ?_ (by first|exact Nat.le_refl _|omega|(simp;done)|(simp;omega)))|(with_reducible refine bt ?_ (by with_reducible assumption)))⟩
    case true =>
      rw [hB] at cb
      obtain ⟨ya, _⟩ := Rul.right_spec hA
      obtain ⟨yb, _⟩ := Rul.right_spec hB
      obtain ⟨sa1, sa2⟩ := Apt.win_sm (Apt.ok_of hA)
      obtain ⟨sb1, sb2⟩ := Apt.win_sm (Apt.ok_of hB)
      unfold Apt.Sm at sa1 sa2 sb1 sb2
      have cab := fun W => follows a b ya W
      have cba := fun W => follows b a yb W
      have ht : togB a b = decide (max a.fr b.fr ≤ min a.to b.to) := rfl
      obtain ⟨pe, hpe⟩ : ∃ pe : Int, pe = (if (true && true) = true then (if Apt.nearB a b = true then 15 else 0) else 4) := ⟨_, rfl⟩
      rw [← hpe]
      rw [near_eq ya.2.1 yb.2.1] at hpe
      generalize Apt.wLow a = la at *
      generalize Apt.wHigh a = ha' at *
      generalize Apt.wLow b = lb at *
      generalize Apt.wHigh b = hb' at *
      cases hT : togB a b <;> cases hF : folB a b <;> cases hG : folB b a
      all_goals
        rw [hT] at ht
        rw [hF] at cab
        rw [hG] at cba
        rw [hT, hF, hG] at hpe
        simp only [Bool.false_eq_true, if_false, if_true, Bool.false_and, Bool.true_and, Bool.false_or, Bool.or_false, Bool.and_self] at ca cb hpe
        have ht' := ht.symm
        unfold RuleV.cells at *
        have Ca := Lib.hid ca
        have Cb := Lib.hid cb
        have Cab := Lib.hid cab
        have Cba := Lib.hid cba
        have Hpe := Lib.hid hpe
        clear ca cb hA hB cab cba ht hT hF hG hpe
        go_enter Tryz.func124, Tryz.ntmps124
        go_upto_region 2 with (go_at_call 185;(with_reducible refine (Ca.out _).mono ?_);rintro e w1 ⟨rfl, hb1⟩;obtain ⟨hc1, hf1⟩ := bcell hb1;have hc1_0 := fun o => hc1 (w.heap.size) o (by first|assumption|omega|(simp;done)|(simp;omega));have hf1_0 := fun o => hf1 (w.heap.size) o (by first|assumption|omega|(simp;done)|(simp;omega));have hc1_1 := fun o => hc1 (w.heap.size + 1) o (by first|assumption|omega|(simp;done)|(simp;omega));have hf1_1 := fun o => hf1 (w.heap.size + 1) o (by first|assumption|omega|(simp;done)|(simp;omega));clear hc1 hf1;have hz1_0 : w.heap.size < w1.heap.size := (by first|exact sz1 hb1|exact sz2 hb1|exact sz3 hb1|(have := hb1.size;(try simp only [World.size_alloc] at this);omega));have hz1_1 : w.heap.size + 1 < w1.heap.size := (by first|exact sz1 hb1|exact sz2 hb1|exact sz3 hb1|(have := hb1.size;(try simp only [World.size_alloc, World.size_drew] at this);omega)))
        go_wp2_with (first|(go_at_call 185;(with_reducible refine (Cb.out _).mono ?_);rintro e w2 ⟨rfl, hb2⟩;obtain ⟨hc2, hf2⟩ := bcell hb2;have hc2_0 := fun o => hc2 (w.heap.size) o (by first|assumption|omega|(simp;done)|(simp;omega));have hf2_0 := fun o => hf2 (w.heap.size) o (by first|assumption|omega|(simp;done)|(simp;omega));have hc2_1 := fun o => hc2 (w.heap.size + 1) o (by first|assumption|omega|(simp;done)|(simp;omega));have hf2_1 := fun o => hf2 (w.heap.size + 1) o (by first|assumption|omega|(simp;done)|(simp;omega));clear hc2 hf2;have hz2_0 : w.heap.size < w2.heap.size := (by first|exact sz1 hb2|exact sz2 hb2|exact sz3 hb2|(have := hb2.size;(try simp only [World.size_alloc, World.size_drew] at this);omega));have hz2_1 : w.heap.size + 1 < w2.heap.size := (by first|exact sz1 hb2|exact sz2 hb2|exact sz3 hb2|(have := hb2.size;(try simp only [World.size_alloc, World.size_drew] at this);omega)))|(go_at_call 186;(with_reducible refine (Cab.out _).mono ?_);rintro e w3 ⟨rfl, hb3⟩;obtain ⟨hc3, hf3⟩ := bcell hb3;have hc3_0 := fun o => hc3 (w.heap.size) o (by first|assumption|omega|(simp;done)|(simp;omega));have hf3_0 := fun o => hf3 (w.heap.size) o (by first|assumption|omega|(simp;done)|(simp;omega));have hc3_1 := fun o => hc3 (w.heap.size + 1) o (by first|assumption|omega|(simp;done)|(simp;omega));have hf3_1 := fun o => hf3 (w.heap.size + 1) o (by first|assumption|omega|(simp;done)|(simp;omega));clear hc3 hf3;have hz3_0 : w.heap.size < w3.heap.size := (by first|exact sz1 hb3|exact sz2 hb3|exact sz3 hb3|(have := hb3.size;(try simp only [World.size_alloc, World.size_drew] at this);omega));have hz3_1 : w.heap.size + 1 < w3.heap.size := (by first|exact sz1 hb3|exact sz2 hb3|exact sz3 hb3|(have := hb3.size;(try simp only [World.size_alloc, World.size_drew] at this);omega)))|(go_at_call 186;(with_reducible refine (Cba.out _).mono ?_);rintro e w4 ⟨rfl, hb4⟩;obtain ⟨hc4, hf4⟩ := bcell hb4;have hc4_0 := fun o => hc4 (w.heap.size) o (by first|assumption|omega|(simp;done)|(simp;omega));have hf4_0 := fun o => hf4 (w.heap.size) o (by first|assumption|omega|(simp;done)|(simp;omega));have hc4_1 := fun o => hc4 (w.heap.size + 1) o (by first|assumption|omega|(simp;done)|(simp;omega));have hf4_1 := fun o => hf4 (w.heap.size + 1) o (by first|assumption|omega|(simp;done)|(simp;omega));clear hc4 hf4;have hz4_0 : w.heap.size < w4.heap.size := (by first|exact sz1 hb4|exact sz2 hb4|exact sz3 hb4|(have := hb4.size;(try simp only [World.size_alloc, World.size_drew] at this);omega));have hz4_1 : w.heap.size + 1 < w4.heap.size := (by first|exact sz1 hb4|exact sz2 hb4|exact sz3 hb4|(have := hb4.size;(try simp only [World.size_alloc, World.size_drew] at this);omega))))
        all_goals
          go_ret
          refine ⟨ret_int ?_, by repeat (first|(with_reducible exact Below.refl _ _)|(with_reducible assumption)|(with_reducible refine ba ?_)|(with_reducible refine bd ?_)|(with_reducible refine bdn ?_ _)|(with_reducible refine bset ?_ (by first|exact Nat.le_refl _|omega|(simp;done)|(simp;omega)))|(with_reducible refine bt ?_ (by with_reducible assumption)))⟩
          rw [Hpe.out]
          all_goals first
            | rfl
            | (split <;> rename_i hh <;> first|rfl|(exfalso;revert hh;simp only [Bool.or_eq_true, Bool.and_eq_true, decide_eq_true_eq];omega))
end R27
end Go.Proofs.YtcfmchpoclkpgaaGreatDoor
