/-
  apart: Window and Pair; the rules that the statements name; Light.
-/
import Derived.Test.YtopdjebnfhfpcaaDoorApartB
import Derived.Test.YtopdjebnfhfpcaaDoorRuleS
namespace Go.Proofs.YtopdjebnfhfpcaaDoor
open Go.RowKit NB
namespace Apt
theorem ok_of {r : RuleV} (h : Rul.right r = true) : Ok r := by
  obtain ⟨h1, h2, h3, _⟩ := Rul.right_spec h
  refine ⟨h2, h3.2.2.1, h3.2.2.2, ?_⟩
  unfold Yr
  omega
def pairE (a b : RuleV) : Int := if Rul.right a && Rul.right b then (if nearB a b then 15 else 0) else 4
set_option maxHeartbeats 1600000 in
theorem Pair (a b : RuleV) (ha : a.Fit) (hb : b.Fit) (w : World) :
    Calls Tryd.prog 16 #[.agg a.cells.toArray, .agg b.cells.toArray] w fun e w' => e = .returned (.int .i64 (pairE a b)) ∧ Below w.heap.size w w' := by
  have ca := fun W => Rul.Right a ha W
  have cb := fun W => Rul.Right b hb W
  have cn := fun (h1 : Rul.right a = true) (h2 : Rul.right b = true) W => near a b (ok_of h1) (ok_of h2) W
  have Ca := Lib.hid ca
  have Cb := Lib.hid cb
  have Cn := Lib.hid cn
  clear ca cb cn ha hb
  unfold pairE
  cases h1 : Rul.right a
  · have H1 := Lib.hid h1; clear h1
    have hf : (if (false && Rul.right b) = true then (if nearB a b then (15 : Int) else 0) else 4) = 4 := rfl
    rw [hf]
    clear hf
    unfold RuleV.cells at *
    go_enter Tryd.func16, Tryd.ntmps16
    go_wp2_with (go_at_call 18; refine (Ca.out _).mono ?_; rw [H1.out]; rintro e w1 ⟨rfl, hb1⟩)
    go_ret
    exact ⟨rfl, ((((Below.refl _ _).alloc (Nat.le_refl _) _).alloc (by simp) _).trans (hb1.mono (by simp; omega)))⟩
  · cases h2 : Rul.right b
    · have H1 := Lib.hid h1; clear h1
      have H2 := Lib.hid h2; clear h2
      have hf : (if (true && false) = true then (if nearB a b then (15 : Int) else 0) else 4) = 4 := rfl
      rw [hf]
      clear hf
      unfold RuleV.cells at *
      go_enter Tryd.func16, Tryd.ntmps16
      go_wp2_with (first
        | (go_at_call_of 18 (a.name); refine (Ca.out _).mono ?_; rw [H1.out]; rintro e w1 ⟨rfl, hb1⟩; obtain ⟨hc1, hf1⟩ := bcell hb1; have hz1 : w.heap.size + 1 < w1.heap.size := sz2 hb1; have hy1 : w.heap.size < w1.heap.size := (by omega))
        | (go_at_call_of 18 (b.name); refine (Cb.out _).mono ?_; rw [H2.out]; rintro e w2 ⟨rfl, hb2⟩))
      go_ret
      exact ⟨rfl, (((((Below.refl _ _).alloc (Nat.le_refl _) _).alloc (by simp) _).trans (hb1.mono (by simp; omega))).trans (hb2.mono (by omega)))⟩
    · have C := Lib.hid (Cn.out h1 h2)
      have H1 := Lib.hid h1; clear h1
      have H2 := Lib.hid h2; clear h2
      have hf : (if (true && true) = true then (if nearB a b then (15 : Int) else 0) else 4) = if nearB a b then 15 else 0 := rfl
      rw [hf]
      clear hf Cn
      cases hn : nearB a b
      all_goals
        have Hn := Lib.hid hn; clear hn
        first
          | rw [if_pos rfl]
          | rw [if_neg (by decide)]
        unfold RuleV.cells at *
        go_enter Tryd.func16, Tryd.ntmps16
        go_wp2_with (first
          | (go_at_call 37; refine (C.out _).mono ?_; rw [Hn.out]; rintro e w3 ⟨rfl, hb3⟩)
          | (go_at_call_of 18 (a.name); refine (Ca.out _).mono ?_; rw [H1.out]; rintro e w1 ⟨rfl, hb1⟩; obtain ⟨hc1, hf1⟩ := bcell hb1; have hz1 : w.heap.size + 1 < w1.heap.size := sz2 hb1; have hy1 : w.heap.size < w1.heap.size := (by omega))
          | (go_at_call_of 18 (b.name); refine (Cb.out _).mono ?_; rw [H2.out]; rintro e w2 ⟨rfl, hb2⟩; obtain ⟨hc2, hf2⟩ := bcell hb2; have hz2 : w.heap.size + 1 < w2.heap.size := Nat.lt_of_lt_of_le hz1 hb2.size; have hy2 : w.heap.size < w2.heap.size := (by omega)))
        go_ret
        exact ⟨rfl, ((((((Below.refl _ _).alloc (Nat.le_refl _) _).alloc (by simp) _).trans (hb1.mono (by simp; omega))).trans (hb2.mono (by omega))).trans (hb3.mono (by omega)))⟩

set_option maxHeartbeats 1600000 in
theorem Window (r : RuleV) (hr : r.Fit) (w : World) :
    Calls Tryd.prog 12 #[.agg r.cells.toArray] w fun e w' => e = .returned (if Rul.right r then .tuple #[.int .i64 (wLow r), .int .i64 (wHigh r), .int .i64 0] else .tuple #[.int .i64 0, .int .i64 0, .int .i64 4]) ∧ Below w.heap.size w w' := by
  have Cr := Lib.hid (fun W => Rul.Right r hr W)
  clear hr
  cases h1 : Rul.right r
  · have H1 := Lib.hid h1; clear h1
    rw [if_neg (by decide)]
    unfold RuleV.cells at *
    go_enter Tryd.func12, Tryd.ntmps12
    go_wp2_with (go_at_call 18; refine (Cr.out _).mono ?_; rw [H1.out]; rintro e w1 ⟨rfl, hb1⟩)
    go_ret3
    exact ⟨rfl, (((Below.refl _ _).alloc (Nat.le_refl _) _).trans (hb1.mono (by simp)))⟩
  · have hk := ok_of h1
    have Co := Lib.hid (fun W => of r hk.f hk.s0 hk.s1 W)
    have H1 := Lib.hid h1; clear h1 hk
    rw [if_pos rfl]
    generalize wLow r = lo at *
    generalize wHigh r = hi at *
    unfold RuleV.cells at *
    go_enter Tryd.func12, Tryd.ntmps12
    go_wp2_with (first
      | (go_at_call 18; refine (Cr.out _).mono ?_; rw [H1.out]; rintro e w1 ⟨rfl, hb1⟩; obtain ⟨hc1, hf1⟩ := bcell hb1; have hz1 : w.heap.size < w1.heap.size := sz1 hb1)
      | (go_at_call 33; refine (Co.out _).mono ?_; rintro e w2 ⟨rfl, hb2⟩))
    go_quiet (fail)
    go_wp2
    go_ret3
    exact ⟨rfl, below_drewN (((((Below.refl _ _).alloc (Nat.le_refl _) _).trans (hb1.mono (by simp))).trans (hb2.mono (by omega))).alloc (by have := hb1.size; have := hb2.size; simp at *; omega) _) _⟩
end Apt
end Go.Proofs.YtopdjebnfhfpcaaDoor
