/-
  apart: windows, and which rules are too close, as the program runs them.
-/
import Derived.Test.YtopdjebnfhfpcaaDoorRule
namespace Go.Proofs.YtopdjebnfhfpcaaDoor
open Go.RowKit NB
namespace Apt
set_option maxHeartbeats 800000 in
theorem YearDay (m : Int) (h1 : 1 ≤ m) (h2 : m ≤ 12) (w : World) :
    Calls Tryd.prog 66 #[.agg #[.int .i64 2001, .int .i64 m, .int .i64 1]] w fun e w' => e = .returned (.tuple #[.int .i64 (Cal.cum 2001 m + 1), .int .i64 0]) ∧ Below w.heap.size w w' := by
  have hr : Civ.right 2001 m 1 = true := Day.right_first (by decide) (by decide) h1 h2
  have e1 := Cal.number_eq 2001 m 1 h1 h2
  have e2 := Cal.number_eq 2001 1 1 (by decide) (by decide)
  have hc1 := Cal.cum_bd 2001 m h1 h2
  have hlp := Cal.lp_01 2001
  have hlen := Cal.len_bd 2001 m h1 h2
  have hd : Cal.number 2001 m 1 - Cal.number 2001 1 1 = Cal.cum 2001 m := by
    rw [e1, e2]; unfold Cal.days
    have : Cal.cum 2001 1 = 0 := by decide
    omega
  have ha := Cal.ahead_bd 2001 (by decide) (by decide)
  have n1 : -20000000 ≤ Cal.number 2001 m 1 := by rw [e1]; unfold Cal.days; omega
  have n2 : Cal.number 2001 m 1 ≤ 20000000 := by rw [e1]; unfold Cal.days; omega
  have n3 : -20000000 ≤ Cal.number 2001 1 1 := by rw [e2]; unfold Cal.days; have : Cal.cum 2001 1 = 0 := by decide
                                                  omega
  have n4 : Cal.number 2001 1 1 ≤ 20000000 := by rw [e2]; unfold Cal.days; have : Cal.cum 2001 1 = 0 := by decide
                                                 omega
  rw [← hd]
  have Hr := Lib.hid hr
  clear hr e1 e2 hc1 hlp hlen hd ha
  go_enter Tryd.func66, Tryd.ntmps66
  go_wp2_with (go_at_call 55; refine (Civ.Right _ _ _ _).mono ?_; rw [Hr.out]; rintro e w1 ⟨rfl, hb⟩; obtain ⟨hc, hf⟩ := bcell hb; have hz : w.heap.size < w1.heap.size := by (have := hb.size; simp at this; omega))
  refine region_later (by kernel_rfl) (by kernel_rfl) ?_
  repeat (go_big_quiet_step (first
    | (go_at_call_of 56 (Value.int .i64 m); rename_i xL; exact calls_later xL (Nat.le_refl _) (Civ.number _ _ _ (by decide) (by decide) h1 h2 (by decide) (by decide) _))
    | (go_at_call 56; rename_i xL; exact calls_later xL (Nat.le_refl _) (Civ.number _ _ _ (by decide) (by decide) (by decide) (by decide) (by decide) (by decide) _))))
  refine wpQuiet_nil ?_
  rintro _ ⟨⟨u, hu⟩, rfl⟩
  go_wp2
  go_ret2
  exact ⟨rfl, (((Below.refl _ _).alloc (Nat.le_refl _) _).trans (hb.mono (by simp))).trans (hu.mono (by omega))⟩
def wLow (r : RuleV) : Int := (Cal.cum 2001 r.month + 1 + Day.winLow r.kind r.day r.month - 2) * 86400 + r.sec
def wHigh (r : RuleV) : Int := (Cal.cum 2001 r.month + 1 + Day.winHigh r.kind r.day r.month - 2) * 86400 + r.sec
theorem win_bd {k wk d m : Int} (h : Day.fits k wk d m = true) : -10 ≤ Day.winLow k d m ∧ Day.winLow k d m ≤ 40 ∧ -10 ≤ Day.winHigh k d m ∧ Day.winHigh k d m ≤ 40 := by
  obtain ⟨_, _, _, _⟩ := Day.days31 h
  have h1 := Cal.len_le 1 m
  have h4 := Cal.len_le 4 m
  obtain ⟨h1m, h2m, _, _⟩ := Day.fits_spec h
  have h5 := Cal.len_bd 1 m h1m h2m
  unfold Day.winLow Day.winHigh
  repeat' split
  all_goals omega

theorem of1 (d n sec : Int) (bn br : Nat) (w : World) (hd0 : -1000 ≤ d) (hd1 : d ≤ 1000) (hn0 : -1000 ≤ n) (hn1 : n ≤ 1000) (hs0 : -1000000 ≤ sec) (hs1 : sec ≤ 1000000)
    (hn : w.cell? ⟨bn, 0, none⟩ = some (.int .i64 n)) (hs : w.cell? ⟨br, 7, none⟩ = some (.int .i64 sec)) :
    Calls Tryd.prog 68 #[.int .i64 d, .pointer (some ⟨bn, 0, none⟩), .pointer (some ⟨br, 0, none⟩)] w fun e w' => e = .returned (.int .i64 ((n + d - 2) * 86400 + sec)) ∧ w = w' := by
  go_enter Tryd.func68, Tryd.ntmps68
  go_wp2
  go_ret
  exact ⟨rfl, rfl⟩

set_option maxHeartbeats 1600000 in
theorem of (r : RuleV) (hf : Day.fits r.kind r.week r.day r.month = true) (hs0 : 0 ≤ r.sec) (hs1 : r.sec ≤ 172800) (w : World) :
    Calls Tryd.prog 33 #[.agg r.cells.toArray] w fun e w' => e = .returned (.agg #[.int .i64 (wLow r), .int .i64 (wHigh r)]) ∧ Below w.heap.size w w' := by
  obtain ⟨m1, m2, _, _⟩ := Day.fits_spec hf
  obtain ⟨b1, b2, b3, b4⟩ := win_bd hf
  have hc1 := Cal.cum_bd 2001 r.month m1 m2
  have hlp := Cal.lp_01 2001
  have hlen := Cal.len_bd 2001 r.month m1 m2
  have c1 : 0 ≤ Cal.cum 2001 r.month := by omega
  have c2 : Cal.cum 2001 r.month ≤ 366 := by omega
  have Hf := Lib.hid hf
  clear hf hc1 hlp hlen
  unfold RuleV.cells wLow wHigh
  go_enter Tryd.func33, Tryd.ntmps33
  go_wp2_with (first
    | (go_at_call 66; refine (YearDay _ m1 m2 _).mono ?_; rintro e w1 ⟨rfl, hb1⟩; obtain ⟨hc1, hf1⟩ := bcell hb1; have hz1 : w.heap.size + 1 < w1.heap.size := sz2 hb1; have hy1 : w.heap.size < w1.heap.size := by omega)
    | (go_at_call 67; refine (Day.Window _ _ _ _ _).mono ?_; rw [Hf.out, if_pos rfl]; rintro e w2 ⟨rfl, hb2⟩; obtain ⟨hc2, hf2⟩ := bcell hb2; have hz2 : w1.heap.size < w2.heap.size := sz1 hb2; have hy2 : w.heap.size + 1 < w2.heap.size := (by omega); have hx2 : w.heap.size < w2.heap.size := (by omega); have n2 : w2.cell? ⟨w1.heap.size, 0, none⟩ = some (.int .i64 (Cal.cum 2001 r.month + 1)) := (by go_simp); have s2 : w2.cell? ⟨w.heap.size, 7, none⟩ = some (.int .i64 r.sec) := (by go_simp))
    | (go_at_call 68; refine (of1 _ _ _ _ _ _ (by omega) (by omega) (by omega) (by omega) (by omega) (by omega) n2 s2).mono ?_; rintro e w3 ⟨rfl, rfl⟩))
  refine bodyPost_ret (v := .agg #[.int .i64 ((Cal.cum 2001 r.month + 1 + Day.winLow r.kind r.day r.month - 2) * 86400 + r.sec), .int .i64 ((Cal.cum 2001 r.month + 1 + Day.winHigh r.kind r.day r.month - 2) * 86400 + r.sec)]) ?_ rfl ⟨rfl, ?_⟩
  · simp only [results, Tryd.results33]
    go_simp
  · exact (((((((Below.refl _ _).alloc (Nat.le_refl _) _).alloc (by simp) _).trans (hb1.mono (by simp; omega))).alloc (by omega) _).trans (hb2.mono (by simp; omega))).setCell (by simp) _).setCell (by simp) _
end Apt
end Go.Proofs.YtopdjebnfhfpcaaDoor
