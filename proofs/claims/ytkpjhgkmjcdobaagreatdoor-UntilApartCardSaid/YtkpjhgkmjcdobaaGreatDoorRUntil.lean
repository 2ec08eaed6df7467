import Derived.Test.YtkpjhgkmjcdobaaGreatDoorUntil
import Derived.Test.YtkpjhgkmjcdobaaGreatDoorG12
import Derived.Test.YtkpjhgkmjcdobaaGreatDoorRChain
/-
  noontideref28: Nom and Instant, as the program runs them.
-/
namespace Go.Proofs.YtkpjhgkmjcdobaaGreatDoor
open Go.RowKit NB Nxt
namespace RUnt
open Unt
set_option maxHeartbeats 1600000 in
theorem Nom (u : UntilV) (_hu : u.Fit) (w : World) : Calls Tryz.prog 13 #[.agg u.cells.toArray] w fun x w' => x = .returned (.tuple #[.int .i64 (nomU u).1, .int .i64 (nomU u).2]) ∧ Below w.heap.size w w' := by
  have cr := fun W => REr.End u W
  have cd := fun W => RDay.Days u.kind u.week u.day u.year u.month W
  unfold nomU UntilV.cells
  unfold UntilV.cells at cr
  cases hh : u.has
  · rw [if_neg (by decide)]
    clear cr cd hh
    go_enter Tryz.func13, Tryz.ntmps13
    go_wp2
    go_ret2
    exact ⟨rfl, by repeat (first | (with_reducible exact Below.refl _ _) | (with_reducible assumption) | (with_reducible refine ba ?_) | (with_reducible refine bd ?_) | (with_reducible refine bdn ?_ _) | (with_reducible refine bset ?_ (by first | exact Nat.le_refl _ | omega | (simp; done) | (simp; omega))) | (with_reducible refine bt ?_ (by with_reducible assumption)))⟩
  rw [hh] at cr
  rw [if_pos rfl]
  cases he : Er.endB u
  · rw [if_neg (by decide)]
    rw [he] at cr
    have Cr := Lib.hid cr
    clear cr cd hh he
    go_enter Tryz.func13, Tryz.ntmps13
    go_wp2_with (go_at_call 40; (with_reducible refine (Cr.out _).mono ?_); rintro e w1 ⟨rfl, hb1⟩; obtain ⟨hc1, hf1⟩ := bcell hb1; have hc1_0 := fun o => hc1 (w.heap.size) o (by first | assumption | omega | (simp; done) | (simp; omega)); have hf1_0 := fun o => hf1 (w.heap.size) o (by first | assumption | omega | (simp; done) | (simp; omega)); clear hc1 hf1; have hz1_0 : w.heap.size < w1.heap.size := (by first | exact sz1 hb1 | exact sz2 hb1 | exact sz3 hb1 | (have := hb1.size; (try simp only [World.size_alloc, World.size_drew] at this); omega)))
    go_ret2
    exact ⟨rfl, by repeat (first | (with_reducible exact Below.refl _ _) | (with_reducible assumption) | (with_reducible refine ba ?_) | (with_reducible refine bd ?_) | (with_reducible refine bdn ?_ _) | (with_reducible refine bset ?_ (by first | exact Nat.le_refl _ | omega | (simp; done) | (simp; omega))) | (with_reducible refine bt ?_ (by with_reducible assumption)))⟩
  · rw [if_pos rfl]
    obtain ⟨s1, s2, s3, s4, s5, s6⟩ := end_spec hh he
    rw [he] at cr
    rw [s2, if_pos rfl, if_pos (by omega)] at cd
    unfold nomV at *
    generalize Day.dayI u.kind u.week u.day u.year u.month = d at *
    have Cr := Lib.hid cr
    have Cd := Lib.hid cd
    clear cr cd hh he s2
    go_enter Tryz.func13, Tryz.ntmps13
    go_wp2_with (first
      | (go_at_call 40; (with_reducible refine (Cr.out _).mono ?_); rintro e w1 ⟨rfl, hb1⟩; obtain ⟨hc1, hf1⟩ := bcell hb1; have hc1_0 := fun o => hc1 (w.heap.size) o (by first | assumption | omega | (simp; done) | (simp; omega)); have hf1_0 := fun o => hf1 (w.heap.size) o (by first | assumption | omega | (simp; done) | (simp; omega)); clear hc1 hf1; have hz1_0 : w.heap.size < w1.heap.size := (by first | exact sz1 hb1 | exact sz2 hb1 | exact sz3 hb1 | (have := hb1.size; (try simp only [World.size_alloc, World.size_drew] at this); omega)))
      | (go_at_call 41; (with_reducible refine (Cd.out _).mono ?_); rintro e w2 ⟨rfl, hb2⟩; obtain ⟨hc2, hf2⟩ := bcell hb2; have hc2_0 := fun o => hc2 (w.heap.size) o (by first | assumption | omega | (simp; done) | (simp; omega)); have hf2_0 := fun o => hf2 (w.heap.size) o (by first | assumption | omega | (simp; done) | (simp; omega)); clear hc2 hf2; have hz2_0 : w.heap.size < w2.heap.size := (by first | exact sz1 hb2 | exact sz2 hb2 | exact sz3 hb2 | (have := hb2.size; (try simp only [World.size_alloc, World.size_drew] at this); omega))))
    go_ret2
    exact ⟨rfl, by repeat (first | (with_reducible exact Below.refl _ _) | (with_reducible assumption) | (with_reducible refine ba ?_) | (with_reducible refine bd ?_) | (with_reducible refine bdn ?_ _) | (with_reducible refine bset ?_ (by first | exact Nat.le_refl _ | omega | (simp; done) | (simp; omega))) | (with_reducible refine bt ?_ (by with_reducible assumption)))⟩
set_option maxRecDepth 100000 in
set_option maxHeartbeats 3200000 in
theorem Instant {w : World} {v : Value} {l : List RuleV} (h : Holds w v l) (e : EraV) (he : e.Fit) : Calls Tryz.prog 15 #[v, .agg e.cells.toArray] w fun x w' => x = .returned (.tuple #[.int .i64 (instU l e).1, .int .i64 (instU l e).2]) ∧ Below w.heap.size w w' := by
  have cr := fun W => REr.Right e he W
  have cn := fun W => Nom e.u he.u W
  have ck := fun W (h : Holds W v l) => RCh.Saved h e.rules ⟨-1, 0, nomV e.u⟩
  unfold instU
  cases hR : Er.rightB e
  · rw [hR] at cr
    rw [if_neg (by decide)]
    unfold EraV.cells at *
    have Cr := Lib.hid cr
    obtain ⟨q, cap, rfl⟩ := h.form
    clear cr cn ck h hR
    generalize l.length = n at *
    go_enter Tryz.func15, Tryz.ntmps15
    go_wp2_with (go_at_call 43; (with_reducible refine (Cr.out _).mono ?_); rintro e w1 ⟨rfl, hb1⟩; obtain ⟨hc1, hf1⟩ := bcell hb1; have hc1_0 := fun o => hc1 (w.heap.size) o (by first | assumption | omega | (simp; done) | (simp; omega)); have hf1_0 := fun o => hf1 (w.heap.size) o (by first | assumption | omega | (simp; done) | (simp; omega)); clear hc1 hf1; have hz1_0 : w.heap.size < w1.heap.size := (by first | exact sz1 hb1 | exact sz2 hb1 | exact sz3 hb1 | (have := hb1.size; (try simp only [World.size_alloc, World.size_drew] at this); omega)))
    go_ret2
    exact ⟨rfl, by repeat (first | (with_reducible exact Below.refl _ _) | (with_reducible assumption) | (with_reducible refine ba ?_) | (with_reducible refine bd ?_) | (with_reducible refine bdn ?_ _) | (with_reducible refine bset ?_ (by first | exact Nat.le_refl _ | omega | (simp; done) | (simp; omega))) | (with_reducible refine bt ?_ (by with_reducible assumption)))⟩
  obtain ⟨r1, r2, r3, r4⟩ := right_spec hR
  have sb := saved_bd (l := l) hR (nomV e.u)
  rw [hR] at cr
  rw [if_pos rfl]
  unfold nomU at cn
  obtain ⟨q, cap, rfl⟩ := h.form
  obtain ⟨off, kind, save, rules, format, u⟩ := e
  simp only at *
  unfold EraV.cells at *
  unfold UntilV.cells at *
  simp only at *
  cases hh : u.has
  · rw [hh] at cr cn
    rw [if_neg (by decide)] at cn ⊢
    have Cr := Lib.hid cr
    have Cn := Lib.hid cn
    clear cr cn ck h hR he
    generalize l.length = n at *
    go_enter Tryz.func15, Tryz.ntmps15
    go_wp2_with (first
      | (go_at_call 43; (with_reducible refine (Cr.out _).mono ?_); rintro e w1 ⟨rfl, hb1⟩; obtain ⟨hc1, hf1⟩ := bcell hb1; have hc1_0 := fun o => hc1 (w.heap.size) o (by first | assumption | omega | (simp; done) | (simp; omega)); have hf1_0 := fun o => hf1 (w.heap.size) o (by first | assumption | omega | (simp; done) | (simp; omega)); clear hc1 hf1; have hz1_0 : w.heap.size < w1.heap.size := (by first | exact sz1 hb1 | exact sz2 hb1 | exact sz3 hb1 | (have := hb1.size; (try simp only [World.size_alloc, World.size_drew] at this); omega)))
      | (go_at_call 13; (with_reducible refine (Cn.out _).mono ?_); rintro e w2 ⟨rfl, hb2⟩; obtain ⟨hc2, hf2⟩ := bcell hb2; have hc2_0 := fun o => hc2 (w.heap.size) o (by first | assumption | omega | (simp; done) | (simp; omega)); have hf2_0 := fun o => hf2 (w.heap.size) o (by first | assumption | omega | (simp; done) | (simp; omega)); clear hc2 hf2; have hz2_0 : w.heap.size < w2.heap.size := (by first | exact sz1 hb2 | exact sz2 hb2 | exact sz3 hb2 | (have := hb2.size; (try simp only [World.size_alloc, World.size_drew] at this); omega))))
    go_ret2
    exact ⟨rfl, by repeat (first | (with_reducible exact Below.refl _ _) | (with_reducible assumption) | (with_reducible refine ba ?_) | (with_reducible refine bd ?_) | (with_reducible refine bdn ?_ _) | (with_reducible refine bset ?_ (by first | exact Nat.le_refl _ | omega | (simp; done) | (simp; omega))) | (with_reducible refine bt ?_ (by with_reducible assumption)))⟩
  obtain ⟨s1, s2, s3, s4, s5, s6⟩ := end_spec hh r2
  rw [hh] at cr cn
  rw [if_pos rfl, if_pos r2] at cn
  rw [if_pos rfl]
  unfold savedE at *
  simp only at *
  generalize nomV u = n at *
  by_cases hk : kind = 2
  · subst hk
    rw [if_pos rfl] at sb ⊢
    have ck1 := fun W h => ck W h (by unfold I64; omega)
    unfold OccV.cells at ck1
    generalize Chn.saved l rules ⟨-1, 0, n⟩ = s at *
    simp only at ck1
    unfold Chn.shift
    have HH := Lib.hid h
    have Cr := Lib.hid cr
    have Cn := Lib.hid cn
    have Ck := Lib.hid ck1
    clear cr cn ck ck1 h hR he r2 s2 hh
    generalize l.length = m at *
    have hb : u.base = 0 ∨ u.base = 1 ∨ u.base = 2 := by omega
    obtain ⟨has, year, month, uk, week, day, sec, base⟩ := u
    simp only at *
    rcases hb with rfl | rfl | rfl
    all_goals
      go_enter Tryz.func15, Tryz.ntmps15
      go_wp2_with (first
        | (go_at_call 43; (with_reducible refine (Cr.out _).mono ?_); rintro e w1 ⟨rfl, hb1⟩; obtain ⟨hc1, hf1⟩ := bcell hb1; have hc1_0 := fun o => hc1 (w.heap.size) o (by first | assumption | omega | (simp; done) | (simp; omega)); have hf1_0 := fun o => hf1 (w.heap.size) o (by first | assumption | omega | (simp; done) | (simp; omega)); clear hc1 hf1; have hz1_0 : w.heap.size < w1.heap.size := (by first | exact sz1 hb1 | exact sz2 hb1 | exact sz3 hb1 | (have := hb1.size; (try simp only [World.size_alloc, World.size_drew] at this); omega)))
        | (go_at_call 13; (with_reducible refine (Cn.out _).mono ?_); rintro e w2 ⟨rfl, hb2⟩; obtain ⟨hc2, hf2⟩ := bcell hb2; have hc2_0 := fun o => hc2 (w.heap.size) o (by first | assumption | omega | (simp; done) | (simp; omega)); have hf2_0 := fun o => hf2 (w.heap.size) o (by first | assumption | omega | (simp; done) | (simp; omega)); clear hc2 hf2; have hz2_0 : w.heap.size < w2.heap.size := (by first | exact sz1 hb2 | exact sz2 hb2 | exact sz3 hb2 | (have := hb2.size; (try simp only [World.size_alloc, World.size_drew] at this); omega)))
        | (go_at_call 44; (with_reducible refine (Ck.out _ ?_).mono ?_); (· exact HH.out.later (by repeat (first | (with_reducible exact Below.refl _ _) | (with_reducible assumption) | (with_reducible refine ba ?_) | (with_reducible refine bd ?_) | (with_reducible refine bdn ?_ _) | (with_reducible refine bset ?_ (by first | exact Nat.le_refl _ | omega | (simp; done) | (simp; omega))) | (with_reducible refine bt ?_ (by with_reducible assumption))))); rintro e w3 ⟨rfl, hb3⟩; obtain ⟨hc3, hf3⟩ := bcell hb3; have hc3_0 := fun o => hc3 (w.heap.size) o (by first | assumption | omega | (simp; done) | (simp; omega)); have hf3_0 := fun o => hf3 (w.heap.size) o (by first | assumption | omega | (simp; done) | (simp; omega)); clear hc3 hf3; have hz3_0 : w.heap.size < w3.heap.size := (by first | exact sz1 hb3 | exact sz2 hb3 | exact sz3 hb3 | (have := hb3.size; (try simp only [World.size_alloc, World.size_drew] at this); omega))))
      go_ret2
      exact ⟨ret_ii (by first | rfl | omega | (simp; done) | (simp; omega)) rfl, by repeat (first | (with_reducible exact Below.refl _ _) | (with_reducible assumption) | (with_reducible refine ba ?_) | (with_reducible refine bd ?_) | (with_reducible refine bdn ?_ _) | (with_reducible refine bset ?_ (by first | exact Nat.le_refl _ | omega | (simp; done) | (simp; omega))) | (with_reducible refine bt ?_ (by with_reducible assumption)))⟩
  · rw [if_neg hk] at sb ⊢
    unfold Chn.shift
    have Cr := Lib.hid cr
    have Cn := Lib.hid cn
    clear cr cn ck h hR he r2 s2 hh
    generalize l.length = m at *
    have hb : u.base = 0 ∨ u.base = 1 ∨ u.base = 2 := by omega
    obtain ⟨has, year, month, uk, week, day, sec, base⟩ := u
    simp only at *
    rcases hb with rfl | rfl | rfl
    all_goals
      go_enter Tryz.func15, Tryz.ntmps15
      go_wp2_with (first
        | (go_at_call 43; (with_reducible refine (Cr.out _).mono ?_); rintro e w1 ⟨rfl, hb1⟩; obtain ⟨hc1, hf1⟩ := bcell hb1; have hc1_0 := fun o => hc1 (w.heap.size) o (by first | assumption | omega | (simp; done) | (simp; omega)); have hf1_0 := fun o => hf1 (w.heap.size) o (by first | assumption | omega | (simp; done) | (simp; omega)); clear hc1 hf1; have hz1_0 : w.heap.size < w1.heap.size := (by first | exact sz1 hb1 | exact sz2 hb1 | exact sz3 hb1 | (have := hb1.size; (try simp only [World.size_alloc, World.size_drew] at this); omega)))
        | (go_at_call 13; (with_reducible refine (Cn.out _).mono ?_); rintro e w2 ⟨rfl, hb2⟩; obtain ⟨hc2, hf2⟩ := bcell hb2; have hc2_0 := fun o => hc2 (w.heap.size) o (by first | assumption | omega | (simp; done) | (simp; omega)); have hf2_0 := fun o => hf2 (w.heap.size) o (by first | assumption | omega | (simp; done) | (simp; omega)); clear hc2 hf2; have hz2_0 : w.heap.size < w2.heap.size := (by first | exact sz1 hb2 | exact sz2 hb2 | exact sz3 hb2 | (have := hb2.size; (try simp only [World.size_alloc, World.size_drew] at this); omega))))
      go_ret2
      exact ⟨ret_ii (by first | rfl | omega | (simp; done) | (simp; omega)) rfl, by repeat (first | (with_reducible exact Below.refl _ _) | (with_reducible assumption) | (with_reducible refine ba ?_) | (with_reducible refine bd ?_) | (with_reducible refine bdn ?_ _) | (with_reducible refine bset ?_ (by first | exact Nat.le_refl _ | omega | (simp; done) | (simp; omega))) | (with_reducible refine bt ?_ (by with_reducible assumption)))⟩
end RUnt
end Go.Proofs.YtkpjhgkmjcdobaaGreatDoor
