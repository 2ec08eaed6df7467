import Derived.Test.YtkpjhgkmjcdobaaGreatDoorG24
import Derived.Test.YtkpjhgkmjcdobaaGreatDoorG20
import Derived.Test.YtkpjhgkmjcdobaaGreatDoorFBetwP
/-
  noontidelaw33.ForceBetween: the walk.
-/
namespace Go.Proofs.YtkpjhgkmjcdobaaGreatDoor
open Go.RowKit NB Nxt
namespace L33
open Frc
theorem ne_ways {x v : ValV} (h : x ≠ v) : x.off ≠ v.off ∨ (x.off = v.off ∧ x.save ≠ v.save) ∨ (x.off = v.off ∧ x.save = v.save ∧ x.abbr ≠ v.abbr) := by
  obtain ⟨yo, ys, ya⟩ := x
  obtain ⟨vo, vs, va⟩ := v
  simp only [ne_eq, ValV.mk.injEq, not_and] at h ⊢
  by_cases h1 : yo = vo
  · by_cases h2 : ys = vs
    · exact .inr (.inr ⟨h1, h2, h h1 h2⟩)
    · exact .inr (.inl ⟨h1, h2⟩)
  · exact .inl h1
set_option maxRecDepth 100000 in
set_option maxHeartbeats 3200000 in
theorem betw0 {w : World} {r : Value} {l : List RuleV} (hr : Holds w r l) (e : EraV) (he : e.Fit) (t other : Int) (ht : Tab w) (hst : Sta w) (h : fitsB l e = false ∨ (fitsB l e = true ∧ ¬ (-1096193779200 ≤ t ∧ t ≤ 971890963199 ∧ -1096193779200 ≤ other ∧ other ≤ 971890963199))) :
    Calls Tryz.prog 6 #[r, .agg e.cells.toArray, .int .i64 t, .int .i64 other] w fun x w' => x = .returned (.bool true) ∧ Below w.heap.size w w' := by
  have cf := fun W (h : Holds W r l) => fits h e he
  have HH := Lib.hid hr
  have HT := Lib.hid ht
  have HS := Lib.hid hst
  have Cl := Lib.hid lives
  unfold EraV.cells at *
  rcases h with hF | ⟨hF, hq⟩
  · rw [hF] at cf
    have Cf := Lib.hid cf
    clear cf hr ht hst hF
    go_enter Tryz.func6, Tryz.ntmps6
    go_wp2_with (first
      | (go_at_call 24; (with_reducible refine (Cl.out _ ?_ ?_).mono ?_); (· exact HT.out.later (by with_reducible repeat (first | exact Below.refl _ _ | assumption | refine ba ?_ | refine bd ?_ | refine bdn ?_ _ | refine bset ?_ (by omega) | refine bt ?_ (by assumption)))); (· exact HS.out.later (by with_reducible repeat (first | exact Below.refl _ _ | assumption | refine ba ?_ | refine bd ?_ | refine bdn ?_ _ | refine bset ?_ (by omega) | refine bt ?_ (by assumption)))); rintro e w1 ⟨rfl, hb1⟩; obtain ⟨hc1, hf1⟩ := bcell hb1; have hc1_0 := fun o => hc1 (w.heap.size) o (by first | assumption | omega | (simp; done) | (simp; omega)); have hf1_0 := fun o => hf1 (w.heap.size) o (by first | assumption | omega | (simp; done) | (simp; omega)); clear hc1 hf1; have hz1_0 : w.heap.size < w1.heap.size := (by first | exact sz1 hb1 | exact sz2 hb1 | exact sz3 hb1 | (have := hb1.size; (try simp only [World.size_alloc, World.size_drew] at this); omega)))
      | (go_at_call 23; (with_reducible refine (Cf.out _ ?_).mono ?_); (· exact HH.out.later (by with_reducible repeat (first | exact Below.refl _ _ | assumption | refine ba ?_ | refine bd ?_ | refine bdn ?_ _ | refine bset ?_ (by omega) | refine bt ?_ (by assumption)))); rintro e w2 ⟨rfl, hb2⟩; obtain ⟨hc2, hf2⟩ := bcell hb2; have hc2_0 := fun o => hc2 (w.heap.size) o (by first | assumption | omega | (simp; done) | (simp; omega)); have hf2_0 := fun o => hf2 (w.heap.size) o (by first | assumption | omega | (simp; done) | (simp; omega)); clear hc2 hf2; have hz2_0 : w.heap.size < w2.heap.size := (by first | exact sz1 hb2 | exact sz2 hb2 | exact sz3 hb2 | (have := hb2.size; (try simp only [World.size_alloc, World.size_drew] at this); omega))))
    go_ret
    exact ⟨rfl, by with_reducible repeat (first | exact Below.refl _ _ | assumption | refine ba ?_ | refine bd ?_ | refine bdn ?_ _ | refine bset ?_ (by omega) | refine bt ?_ (by assumption))⟩
  · rw [hF] at cf
    have Cf := Lib.hid cf
    clear cf hr ht hst hF
    by_cases h1 : t < -1096193779200
    · clear hq
      go_enter Tryz.func6, Tryz.ntmps6
      go_wp2_with (first
        | (go_at_call 24; (with_reducible refine (Cl.out _ ?_ ?_).mono ?_); (· exact HT.out.later (by with_reducible repeat (first | exact Below.refl _ _ | assumption | refine ba ?_ | refine bd ?_ | refine bdn ?_ _ | refine bset ?_ (by omega) | refine bt ?_ (by assumption)))); (· exact HS.out.later (by with_reducible repeat (first | exact Below.refl _ _ | assumption | refine ba ?_ | refine bd ?_ | refine bdn ?_ _ | refine bset ?_ (by omega) | refine bt ?_ (by assumption)))); rintro e w1 ⟨rfl, hb1⟩; obtain ⟨hc1, hf1⟩ := bcell hb1; have hc1_0 := fun o => hc1 (w.heap.size) o (by first | assumption | omega | (simp; done) | (simp; omega)); have hf1_0 := fun o => hf1 (w.heap.size) o (by first | assumption | omega | (simp; done) | (simp; omega)); clear hc1 hf1; have hz1_0 : w.heap.size < w1.heap.size := (by first | exact sz1 hb1 | exact sz2 hb1 | exact sz3 hb1 | (have := hb1.size; (try simp only [World.size_alloc, World.size_drew] at this); omega)))
        | (go_at_call 23; (with_reducible refine (Cf.out _ ?_).mono ?_); (· exact HH.out.later (by with_reducible repeat (first | exact Below.refl _ _ | assumption | refine ba ?_ | refine bd ?_ | refine bdn ?_ _ | refine bset ?_ (by omega) | refine bt ?_ (by assumption)))); rintro e w2 ⟨rfl, hb2⟩; obtain ⟨hc2, hf2⟩ := bcell hb2; have hc2_0 := fun o => hc2 (w.heap.size) o (by first | assumption | omega | (simp; done) | (simp; omega)); have hf2_0 := fun o => hf2 (w.heap.size) o (by first | assumption | omega | (simp; done) | (simp; omega)); clear hc2 hf2; have hz2_0 : w.heap.size < w2.heap.size := (by first | exact sz1 hb2 | exact sz2 hb2 | exact sz3 hb2 | (have := hb2.size; (try simp only [World.size_alloc, World.size_drew] at this); omega))))
      go_ret
      exact ⟨rfl, by with_reducible repeat (first | exact Below.refl _ _ | assumption | refine ba ?_ | refine bd ?_ | refine bdn ?_ _ | refine bset ?_ (by omega) | refine bt ?_ (by assumption))⟩
    by_cases h2 : 971890963199 < t
    · clear hq
      go_enter Tryz.func6, Tryz.ntmps6
      go_wp2_with (first
        | (go_at_call 24; (with_reducible refine (Cl.out _ ?_ ?_).mono ?_); (· exact HT.out.later (by with_reducible repeat (first | exact Below.refl _ _ | assumption | refine ba ?_ | refine bd ?_ | refine bdn ?_ _ | refine bset ?_ (by omega) | refine bt ?_ (by assumption)))); (· exact HS.out.later (by with_reducible repeat (first | exact Below.refl _ _ | assumption | refine ba ?_ | refine bd ?_ | refine bdn ?_ _ | refine bset ?_ (by omega) | refine bt ?_ (by assumption)))); rintro e w1 ⟨rfl, hb1⟩; obtain ⟨hc1, hf1⟩ := bcell hb1; have hc1_0 := fun o => hc1 (w.heap.size) o (by first | assumption | omega | (simp; done) | (simp; omega)); have hf1_0 := fun o => hf1 (w.heap.size) o (by first | assumption | omega | (simp; done) | (simp; omega)); clear hc1 hf1; have hz1_0 : w.heap.size < w1.heap.size := (by first | exact sz1 hb1 | exact sz2 hb1 | exact sz3 hb1 | (have := hb1.size; (try simp only [World.size_alloc, World.size_drew] at this); omega)))
        | (go_at_call 23; (with_reducible refine (Cf.out _ ?_).mono ?_); (· exact HH.out.later (by with_reducible repeat (first | exact Below.refl _ _ | assumption | refine ba ?_ | refine bd ?_ | refine bdn ?_ _ | refine bset ?_ (by omega) | refine bt ?_ (by assumption)))); rintro e w2 ⟨rfl, hb2⟩; obtain ⟨hc2, hf2⟩ := bcell hb2; have hc2_0 := fun o => hc2 (w.heap.size) o (by first | assumption | omega | (simp; done) | (simp; omega)); have hf2_0 := fun o => hf2 (w.heap.size) o (by first | assumption | omega | (simp; done) | (simp; omega)); clear hc2 hf2; have hz2_0 : w.heap.size < w2.heap.size := (by first | exact sz1 hb2 | exact sz2 hb2 | exact sz3 hb2 | (have := hb2.size; (try simp only [World.size_alloc, World.size_drew] at this); omega))))
      go_ret
      exact ⟨rfl, by with_reducible repeat (first | exact Below.refl _ _ | assumption | refine ba ?_ | refine bd ?_ | refine bdn ?_ _ | refine bset ?_ (by omega) | refine bt ?_ (by assumption))⟩
    by_cases h3 : other < -1096193779200
    · clear hq
      go_enter Tryz.func6, Tryz.ntmps6
      go_wp2_with (first
        | (go_at_call 24; (with_reducible refine (Cl.out _ ?_ ?_).mono ?_); (· exact HT.out.later (by with_reducible repeat (first | exact Below.refl _ _ | assumption | refine ba ?_ | refine bd ?_ | refine bdn ?_ _ | refine bset ?_ (by omega) | refine bt ?_ (by assumption)))); (· exact HS.out.later (by with_reducible repeat (first | exact Below.refl _ _ | assumption | refine ba ?_ | refine bd ?_ | refine bdn ?_ _ | refine bset ?_ (by omega) | refine bt ?_ (by assumption)))); rintro e w1 ⟨rfl, hb1⟩; obtain ⟨hc1, hf1⟩ := bcell hb1; have hc1_0 := fun o => hc1 (w.heap.size) o (by first | assumption | omega | (simp; done) | (simp; omega)); have hf1_0 := fun o => hf1 (w.heap.size) o (by first | assumption | omega | (simp; done) | (simp; omega)); clear hc1 hf1; have hz1_0 : w.heap.size < w1.heap.size := (by first | exact sz1 hb1 | exact sz2 hb1 | exact sz3 hb1 | (have := hb1.size; (try simp only [World.size_alloc, World.size_drew] at this); omega)))
        | (go_at_call 23; (with_reducible refine (Cf.out _ ?_).mono ?_); (· exact HH.out.later (by with_reducible repeat (first | exact Below.refl _ _ | assumption | refine ba ?_ | refine bd ?_ | refine bdn ?_ _ | refine bset ?_ (by omega) | refine bt ?_ (by assumption)))); rintro e w2 ⟨rfl, hb2⟩; obtain ⟨hc2, hf2⟩ := bcell hb2; have hc2_0 := fun o => hc2 (w.heap.size) o (by first | assumption | omega | (simp; done) | (simp; omega)); have hf2_0 := fun o => hf2 (w.heap.size) o (by first | assumption | omega | (simp; done) | (simp; omega)); clear hc2 hf2; have hz2_0 : w.heap.size < w2.heap.size := (by first | exact sz1 hb2 | exact sz2 hb2 | exact sz3 hb2 | (have := hb2.size; (try simp only [World.size_alloc, World.size_drew] at this); omega))))
      go_ret
      exact ⟨rfl, by with_reducible repeat (first | exact Below.refl _ _ | assumption | refine ba ?_ | refine bd ?_ | refine bdn ?_ _ | refine bset ?_ (by omega) | refine bt ?_ (by assumption))⟩
    have h4 : 971890963199 < other := by omega
    clear hq
    go_enter Tryz.func6, Tryz.ntmps6
    go_wp2_with (first
      | (go_at_call 24; (with_reducible refine (Cl.out _ ?_ ?_).mono ?_); (· exact HT.out.later (by with_reducible repeat (first | exact Below.refl _ _ | assumption | refine ba ?_ | refine bd ?_ | refine bdn ?_ _ | refine bset ?_ (by omega) | refine bt ?_ (by assumption)))); (· exact HS.out.later (by with_reducible repeat (first | exact Below.refl _ _ | assumption | refine ba ?_ | refine bd ?_ | refine bdn ?_ _ | refine bset ?_ (by omega) | refine bt ?_ (by assumption)))); rintro e w1 ⟨rfl, hb1⟩; obtain ⟨hc1, hf1⟩ := bcell hb1; have hc1_0 := fun o => hc1 (w.heap.size) o (by first | assumption | omega | (simp; done) | (simp; omega)); have hf1_0 := fun o => hf1 (w.heap.size) o (by first | assumption | omega | (simp; done) | (simp; omega)); clear hc1 hf1; have hz1_0 : w.heap.size < w1.heap.size := (by first | exact sz1 hb1 | exact sz2 hb1 | exact sz3 hb1 | (have := hb1.size; (try simp only [World.size_alloc, World.size_drew] at this); omega)))
      | (go_at_call 23; (with_reducible refine (Cf.out _ ?_).mono ?_); (· exact HH.out.later (by with_reducible repeat (first | exact Below.refl _ _ | assumption | refine ba ?_ | refine bd ?_ | refine bdn ?_ _ | refine bset ?_ (by omega) | refine bt ?_ (by assumption)))); rintro e w2 ⟨rfl, hb2⟩; obtain ⟨hc2, hf2⟩ := bcell hb2; have hc2_0 := fun o => hc2 (w.heap.size) o (by first | assumption | omega | (simp; done) | (simp; omega)); have hf2_0 := fun o => hf2 (w.heap.size) o (by first | assumption | omega | (simp; done) | (simp; omega)); clear hc2 hf2; have hz2_0 : w.heap.size < w2.heap.size := (by first | exact sz1 hb2 | exact sz2 hb2 | exact sz3 hb2 | (have := hb2.size; (try simp only [World.size_alloc, World.size_drew] at this); omega))))
    go_ret
    exact ⟨rfl, by with_reducible repeat (first | exact Below.refl _ _ | assumption | refine ba ?_ | refine bd ?_ | refine bdn ?_ _ | refine bset ?_ (by omega) | refine bt ?_ (by assumption))⟩
set_option maxRecDepth 100000 in
set_option maxHeartbeats 12800000 in
theorem betw1 {w : World} {r : Value} {l : List RuleV} (hr : Holds w r l) (e : EraV) (he : e.Fit) (t other : Int) (ht : Tab w) (hst : Sta w) (hF : fitsB l e = true) (h1 : ¬ t < -1096193779200) (h2 : ¬ 971890963199 < t) (h3 : ¬ other < -1096193779200) (h4 : ¬ 971890963199 < other) (hR : Er.rightB e = false) :
    Calls Tryz.prog 6 #[r, .agg e.cells.toArray, .int .i64 t, .int .i64 other] w fun x w' => x = .returned (.bool true) ∧ Below w.heap.size w w' := by
  have cf := fun W (h : Holds W r l) => fits h e he
  have HH := Lib.hid hr
  have HT := Lib.hid ht
  have HS := Lib.hid hst
  have Cl := Lib.hid lives
  obtain ⟨hs, hl, hc⟩ := fits_facts hF
  rw [hF] at cf
  unfold EraV.cells at cf
  have Cf := Lib.hid cf
  obtain ⟨g1, g2, g3⟩ := at_wrong (l := l) hR t
  have c1 := fun W (h : Holds W r l) (ht : Tab W) => Frc.At h e he t ht hs hl
  have c3 := fun W (h : Holds W r l) (ht : Tab W) (hst : Sta W) => Frc.Next h e he t ht hst hs hl
  have c5 := fun W (h : Holds W r l) (ht : Tab W) (hst : Sta W) => Frc.Prev h e he t ht hst hs hl
  rw [g1] at c1
  rw [g2] at c3
  rw [g3] at c5
  generalize (atV l e t).1 = a at *
  unfold EraV.cells ValV.cells at *
  simp only at c1 c3 c5
  obtain ⟨p0, cap, rfl⟩ := hr.form
  have C1 := Lib.hid c1
  have C3 := Lib.hid c3
  have C5 := Lib.hid c5
  clear cf c1 c3 c5 hr ht hst hF hs hl hc hR g1 g2 g3
  generalize l.length = n0 at *
  go_enter Tryz.func6, Tryz.ntmps6
  go_wp2_with (first
    | (go_at_call 24; (with_reducible refine (Cl.out _ ?_ ?_).mono ?_); (· exact HT.out.later (by with_reducible repeat (first | exact Below.refl _ _ | assumption | refine ba ?_ | refine bd ?_ | refine bdn ?_ _ | refine bset ?_ (by omega) | refine bt ?_ (by assumption)))); (· exact HS.out.later (by with_reducible repeat (first | exact Below.refl _ _ | assumption | refine ba ?_ | refine bd ?_ | refine bdn ?_ _ | refine bset ?_ (by omega) | refine bt ?_ (by assumption)))); rintro e w1 ⟨rfl, hb1⟩; obtain ⟨hc1, hf1⟩ := bcell hb1; have hc1_0 := fun o => hc1 (w.heap.size) o (by first | assumption | omega | (simp; done) | (simp; omega)); have hf1_0 := fun o => hf1 (w.heap.size) o (by first | assumption | omega | (simp; done) | (simp; omega)); clear hc1 hf1; have hz1_0 : w.heap.size < w1.heap.size := (by first | exact sz1 hb1 | exact sz2 hb1 | exact sz3 hb1 | (have := hb1.size; (try simp only [World.size_alloc, World.size_drew] at this); omega)))
    | (go_at_call 23; (with_reducible refine (Cf.out _ ?_).mono ?_); (· exact HH.out.later (by with_reducible repeat (first | exact Below.refl _ _ | assumption | refine ba ?_ | refine bd ?_ | refine bdn ?_ _ | refine bset ?_ (by omega) | refine bt ?_ (by assumption)))); rintro e w2 ⟨rfl, hb2⟩; obtain ⟨hc2, hf2⟩ := bcell hb2; have hc2_0 := fun o => hc2 (w.heap.size) o (by first | assumption | omega | (simp; done) | (simp; omega)); have hf2_0 := fun o => hf2 (w.heap.size) o (by first | assumption | omega | (simp; done) | (simp; omega)); clear hc2 hf2; have hz2_0 : w.heap.size < w2.heap.size := (by first | exact sz1 hb2 | exact sz2 hb2 | exact sz3 hb2 | (have := hb2.size; (try simp only [World.size_alloc, World.size_drew] at this); omega)))
    | (go_at_call 25; (with_reducible refine (C1.out _ ?_ ?_).mono ?_); (· exact HH.out.later (by with_reducible repeat (first | exact Below.refl _ _ | assumption | refine ba ?_ | refine bd ?_ | refine bdn ?_ _ | refine bset ?_ (by omega) | refine bt ?_ (by assumption)))); (· exact HT.out.later (by with_reducible repeat (first | exact Below.refl _ _ | assumption | refine ba ?_ | refine bd ?_ | refine bdn ?_ _ | refine bset ?_ (by omega) | refine bt ?_ (by assumption)))); rintro e w3 ⟨rfl, hb3⟩; obtain ⟨hc3, hf3⟩ := bcell hb3; have hc3_0 := fun o => hc3 (w.heap.size) o (by first | assumption | omega | (simp; done) | (simp; omega)); have hf3_0 := fun o => hf3 (w.heap.size) o (by first | assumption | omega | (simp; done) | (simp; omega)); clear hc3 hf3; have hz3_0 : w.heap.size < w3.heap.size := (by first | exact sz1 hb3 | exact sz2 hb3 | exact sz3 hb3 | (have := hb3.size; (try simp only [World.size_alloc, World.size_drew] at this); omega)))
    | (go_at_call 27; (with_reducible refine (C3.out _ ?_ ?_ ?_).mono ?_); (· exact HH.out.later (by with_reducible repeat (first | exact Below.refl _ _ | assumption | refine ba ?_ | refine bd ?_ | refine bdn ?_ _ | refine bset ?_ (by omega) | refine bt ?_ (by assumption)))); (· exact HT.out.later (by with_reducible repeat (first | exact Below.refl _ _ | assumption | refine ba ?_ | refine bd ?_ | refine bdn ?_ _ | refine bset ?_ (by omega) | refine bt ?_ (by assumption)))); (· exact HS.out.later (by with_reducible repeat (first | exact Below.refl _ _ | assumption | refine ba ?_ | refine bd ?_ | refine bdn ?_ _ | refine bset ?_ (by omega) | refine bt ?_ (by assumption)))); rintro e w4 ⟨rfl, hb4⟩; obtain ⟨hc4, hf4⟩ := bcell hb4; have hc4_0 := fun o => hc4 (w.heap.size) o (by first | assumption | omega | (simp; done) | (simp; omega)); have hf4_0 := fun o => hf4 (w.heap.size) o (by first | assumption | omega | (simp; done) | (simp; omega)); clear hc4 hf4; have hz4_0 : w.heap.size < w4.heap.size := (by first | exact sz1 hb4 | exact sz2 hb4 | exact sz3 hb4 | (have := hb4.size; (try simp only [World.size_alloc] at this); omega)))
    | (go_at_call 29; (with_reducible refine (C5.out _ ?_ ?_ ?_).mono ?_); (· exact HH.out.later (by with_reducible repeat (first | exact Below.refl _ _ | assumption | refine ba ?_ | refine bd ?_ | refine bdn ?_ _ | refine bset ?_ (by omega) | refine bt ?_ (by assumption)))); (· exact HT.out.later (by with_reducible repeat (first | exact Below.refl _ _ | assumption | refine ba ?_ | refine bd ?_ | refine bdn ?_ _ | refine bset ?_ (by omega) | refine bt ?_ (by assumption)))); (· exact HS.out.later (by with_reducible repeat (first | exact Below.refl _ _ | assumption | refine ba ?_ | refine bd ?_ | refine bdn ?_ _ | refine bset ?_ (by omega) | refine bt ?_ (by assumption)))); rintro e w5 ⟨rfl, hb5⟩; obtain ⟨hc5, hf5⟩ := bcell hb5; have hc5_0 := fun o => hc5 (w.heap.size) o (by first | assumption | omega | (simp; done) | (simp; omega)); have hf5_0 := fun o => hf5 (w.heap.size) o (by first | assumption | omega | (simp; done) | (simp; omega)); clear hc5 hf5; have hz5_0 : w.heap.size < w5.heap.size := (by first | exact sz1 hb5 | exact sz2 hb5 | exact sz3 hb5 | (have := hb5.size; (try simp only [World.size_alloc, World.size_drew] at this); omega))))
  go_ret
  exact ⟨rfl, by with_reducible repeat (first | exact Below.refl _ _ | assumption | refine ba ?_ | refine bd ?_ | refine bdn ?_ _ | refine bset ?_ (by omega) | refine bt ?_ (by assumption))⟩
set_option maxRecDepth 100000 in
set_option maxHeartbeats 12800000 in
theorem betw_ff {w : World} {r : Value} {l : List RuleV} (hr : Holds w r l) (e : EraV) (he : e.Fit) (t other : Int) (ht : Tab w) (hst : Sta w) (hF : fitsB l e = true) (h1 : ¬ t < -1096193779200) (h2 : ¬ 971890963199 < t) (h3 : ¬ other < -1096193779200) (h4 : ¬ 971890963199 < other) (hR : Er.rightB e = true) (n p : Int) (hN : nextV l e t = (n, false)) (hP : prevV l e t = (p, false)) :
    Calls Tryz.prog 6 #[r, .agg e.cells.toArray, .int .i64 t, .int .i64 other] w fun x w' => x = .returned (.bool true) ∧ Below w.heap.size w w' := by
  have cf := fun W (h : Holds W r l) => fits h e he
  have HH := Lib.hid hr
  have HT := Lib.hid ht
  have HS := Lib.hid hst
  have Cl := Lib.hid lives
  obtain ⟨hs, hl, hc⟩ := fits_facts hF
  rw [hF] at cf
  unfold EraV.cells at cf
  have Cf := Lib.hid cf
  have cA : ∀ s v, AV l e s = v → ∀ W, Holds W r l → Tab W → Calls Tryz.prog 25 #[r, .agg #[.int .i64 e.off, .int .i64 e.kind, .int .i64 e.save, .string e.rules, .string e.format, .bool e.u.has, .int .i64 e.u.year, .int .i64 e.u.month, .int .i64 e.u.kind, .int .i64 e.u.week, .int .i64 e.u.day, .int .i64 e.u.sec, .int .i64 e.u.base], .int .i64 s] W fun z w' => z = .returned (.tuple #[.agg #[.int .i64 v.off, .int .i64 v.save, .string v.abbr], .int .i64 0]) ∧ Below W.heap.size W w' := fun s v hv W h ht => by
    have := Frc.At h e he s ht hs hl
    rw [at_right hR, hv] at this
    exact this
  have cN : ∀ s n k, nextV l e s = (n, k) → ∀ W, Holds W r l → Tab W → Sta W → Calls Tryz.prog 27 #[r, .agg #[.int .i64 e.off, .int .i64 e.kind, .int .i64 e.save, .string e.rules, .string e.format, .bool e.u.has, .int .i64 e.u.year, .int .i64 e.u.month, .int .i64 e.u.kind, .int .i64 e.u.week, .int .i64 e.u.day, .int .i64 e.u.sec, .int .i64 e.u.base], .int .i64 s] W fun z w' => z = .returned (.tuple #[.int .i64 n, .bool k]) ∧ Below W.heap.size W w' := fun s n k hv W h ht hst => by
    have := Frc.Next h e he s ht hst hs hl
    rw [hv] at this
    exact this
  have cP : ∀ s n k, prevV l e s = (n, k) → ∀ W, Holds W r l → Tab W → Sta W → Calls Tryz.prog 29 #[r, .agg #[.int .i64 e.off, .int .i64 e.kind, .int .i64 e.save, .string e.rules, .string e.format, .bool e.u.has, .int .i64 e.u.year, .int .i64 e.u.month, .int .i64 e.u.kind, .int .i64 e.u.week, .int .i64 e.u.day, .int .i64 e.u.sec, .int .i64 e.u.base], .int .i64 s] W fun z w' => z = .returned (.tuple #[.int .i64 n, .bool k]) ∧ Below W.heap.size W w' := fun s n k hv W h ht hst => by
    have := Frc.Prev h e he s ht hst hs hl
    rw [hv] at this
    exact this
  obtain ⟨v, hv⟩ : ∃ v, AV l e t = v := ⟨_, rfl⟩
  obtain ⟨u, hu⟩ : ∃ u, AV l e other = u := ⟨_, rfl⟩
  have hE : u = v := by
    rw [← hu, ← hv]
    exact elseB hc hR (by omega) (by omega) (by omega) (by omega) (fun n' hn => by rw [hN] at hn; cases hn) (fun p' hn => by rw [hP] at hn; cases hn)
  obtain ⟨p0, cap, rfl⟩ := hr.form
  have c1 : ∀ W, Holds W (.slice p0 l.length cap) l → Tab W → Calls Tryz.prog 25 #[.slice p0 l.length cap, .agg #[.int .i64 e.off, .int .i64 e.kind, .int .i64 e.save, .string e.rules, .string e.format, .bool e.u.has, .int .i64 e.u.year, .int .i64 e.u.month, .int .i64 e.u.kind, .int .i64 e.u.week, .int .i64 e.u.day, .int .i64 e.u.sec, .int .i64 e.u.base], .int .i64 t] W fun z w' => z = .returned (.tuple #[.agg #[.int .i64 v.off, .int .i64 v.save, .string v.abbr], .int .i64 0]) ∧ Below W.heap.size W w' := fun W h ht => cA t v hv W h ht
  have c2 : ∀ W, Holds W (.slice p0 l.length cap) l → Tab W → Sta W → Calls Tryz.prog 27 #[.slice p0 l.length cap, .agg #[.int .i64 e.off, .int .i64 e.kind, .int .i64 e.save, .string e.rules, .string e.format, .bool e.u.has, .int .i64 e.u.year, .int .i64 e.u.month, .int .i64 e.u.kind, .int .i64 e.u.week, .int .i64 e.u.day, .int .i64 e.u.sec, .int .i64 e.u.base], .int .i64 t] W fun z w' => z = .returned (.tuple #[.int .i64 n, .bool false]) ∧ Below W.heap.size W w' := fun W h ht hst => cN t n false hN W h ht hst
  have c3 : ∀ W, Holds W (.slice p0 l.length cap) l → Tab W → Sta W → Calls Tryz.prog 29 #[.slice p0 l.length cap, .agg #[.int .i64 e.off, .int .i64 e.kind, .int .i64 e.save, .string e.rules, .string e.format, .bool e.u.has, .int .i64 e.u.year, .int .i64 e.u.month, .int .i64 e.u.kind, .int .i64 e.u.week, .int .i64 e.u.day, .int .i64 e.u.sec, .int .i64 e.u.base], .int .i64 t] W fun z w' => z = .returned (.tuple #[.int .i64 p, .bool false]) ∧ Below W.heap.size W w' := fun W h ht hst => cP t p false hP W h ht hst
  have c4 : ∀ W, Holds W (.slice p0 l.length cap) l → Tab W → Calls Tryz.prog 25 #[.slice p0 l.length cap, .agg #[.int .i64 e.off, .int .i64 e.kind, .int .i64 e.save, .string e.rules, .string e.format, .bool e.u.has, .int .i64 e.u.year, .int .i64 e.u.month, .int .i64 e.u.kind, .int .i64 e.u.week, .int .i64 e.u.day, .int .i64 e.u.sec, .int .i64 e.u.base], .int .i64 other] W fun z w' => z = .returned (.tuple #[.agg #[.int .i64 u.off, .int .i64 u.save, .string u.abbr], .int .i64 0]) ∧ Below W.heap.size W w' := fun W h ht => cA other u hu W h ht
  have C1 := Lib.hid c1
  have C2 := Lib.hid c2
  have C3 := Lib.hid c3
  have C4 := Lib.hid c4
  have HE := Lib.hid hE
  clear cf cA cN cP hr ht hst hF hs hl hc hR hN hP hv hu hE c1 c2 c3 c4
  unfold EraV.cells
  generalize l.length = n0 at *
  go_enter Tryz.func6, Tryz.ntmps6
  go_upto_region 13 with (first
    | (go_at_call 24; (with_reducible refine (Cl.out _ ?_ ?_).mono ?_); (· exact HT.out.later (by with_reducible repeat (first | exact Below.refl _ _ | assumption | refine ba ?_ | refine bd ?_ | refine bdn ?_ _ | refine bset ?_ (by omega) | refine bt ?_ (by assumption)))); (· exact HS.out.later (by with_reducible repeat (first | exact Below.refl _ _ | assumption | refine ba ?_ | refine bd ?_ | refine bdn ?_ _ | refine bset ?_ (by omega) | refine bt ?_ (by assumption)))); rintro e w1 ⟨rfl, hb1⟩; obtain ⟨hc1, hf1⟩ := bcell hb1; have hc1_0 := fun o => hc1 (w.heap.size) o (by first | assumption | omega | (simp; done) | (simp; omega)); have hf1_0 := fun o => hf1 (w.heap.size) o (by first | assumption | omega | (simp; done) | (simp; omega)); clear hc1 hf1; have hz1_0 : w.heap.size < w1.heap.size := (by first | exact sz1 hb1 | exact sz2 hb1 | exact sz3 hb1 | (have := hb1.size; (try simp only [World.size_alloc, World.size_drew] at this); omega)))
    | (go_at_call 23; (with_reducible refine (Cf.out _ ?_).mono ?_); (· exact HH.out.later (by with_reducible repeat (first | exact Below.refl _ _ | assumption | refine ba ?_ | refine bd ?_ | refine bdn ?_ _ | refine bset ?_ (by omega) | refine bt ?_ (by assumption)))); rintro e w2 ⟨rfl, hb2⟩; obtain ⟨hc2, hf2⟩ := bcell hb2; have hc2_0 := fun o => hc2 (w.heap.size) o (by first | assumption | omega | (simp; done) | (simp; omega)); have hf2_0 := fun o => hf2 (w.heap.size) o (by first | assumption | omega | (simp; done) | (simp; omega)); clear hc2 hf2; have hz2_0 : w.heap.size < w2.heap.size := (by first | exact sz1 hb2 | exact sz2 hb2 | exact sz3 hb2 | (have := hb2.size; (try simp only [World.size_alloc, World.size_drew] at this); omega)))
    | (go_at_call 25; (with_reducible refine (C1.out _ ?_ ?_).mono ?_); (· exact HH.out.later (by with_reducible repeat (first | exact Below.refl _ _ | assumption | refine ba ?_ | refine bd ?_ | refine bdn ?_ _ | refine bset ?_ (by omega) | refine bt ?_ (by assumption)))); (· exact HT.out.later (by with_reducible repeat (first | exact Below.refl _ _ | assumption | refine ba ?_ | refine bd ?_ | refine bdn ?_ _ | refine bset ?_ (by omega) | refine bt ?_ (by assumption)))); rintro e w3 ⟨rfl, hb3⟩; obtain ⟨hc3, hf3⟩ := bcell hb3; have hc3_0 := fun o => hc3 (w.heap.size) o (by first | assumption | omega | (simp; done) | (simp; omega)); have hf3_0 := fun o => hf3 (w.heap.size) o (by first | assumption | omega | (simp; done) | (simp; omega)); clear hc3 hf3; have hz3_0 : w.heap.size < w3.heap.size := (by first | exact sz1 hb3 | exact sz2 hb3 | exact sz3 hb3 | (have := hb3.size; (try simp only [World.size_alloc, World.size_drew] at this); omega)))
    | (go_at_call 27; (with_reducible refine (C2.out _ ?_ ?_ ?_).mono ?_); (· exact HH.out.later (by with_reducible repeat (first | exact Below.refl _ _ | assumption | refine ba ?_ | refine bd ?_ | refine bdn ?_ _ | refine bset ?_ (by omega) | refine bt ?_ (by assumption)))); (· exact HT.out.later (by with_reducible repeat (first | exact Below.refl _ _ | assumption | refine ba ?_ | refine bd ?_ | refine bdn ?_ _ | refine bset ?_ (by omega) | refine bt ?_ (by assumption)))); (· exact HS.out.later (by with_reducible repeat (first | exact Below.refl _ _ | assumption | refine ba ?_ | refine bd ?_ | refine bdn ?_ _ | refine bset ?_ (by omega) | refine bt ?_ (by assumption)))); rintro e w4 ⟨rfl, hb4⟩; obtain ⟨hc4, hf4⟩ := bcell hb4; have hc4_0 := fun o => hc4 (w.heap.size) o (by first | assumption | omega | (simp; done) | (simp; omega)); have hf4_0 := fun o => hf4 (w.heap.size) o (by first | assumption | omega | (simp; done) | (simp; omega)); have hc4_1 := fun o => hc4 (w3.heap.size) o (by first | assumption | omega | (simp; done) | (simp; omega)); have hf4_1 := fun o => hf4 (w3.heap.size) o (by first | assumption | omega | (simp; done) | (simp; omega)); clear hc4 hf4; have hz4_0 : w.heap.size < w4.heap.size := (by first | exact sz1 hb4 | exact sz2 hb4 | exact sz3 hb4 | (have := hb4.size; (try simp only [World.size_alloc] at this); omega)); have hz4_1 : w3.heap.size < w4.heap.size := (by first | exact sz1 hb4 | exact sz2 hb4 | exact sz3 hb4 | (have := hb4.size; (try simp only [World.size_alloc, World.size_drew] at this); omega)))
    | (go_at_call 29; (with_reducible refine (C3.out _ ?_ ?_ ?_).mono ?_); (· exact HH.out.later (by with_reducible repeat (first | exact Below.refl _ _ | assumption | refine ba ?_ | refine bd ?_ | refine bdn ?_ _ | refine bset ?_ (by omega) | refine bt ?_ (by assumption)))); (· exact HT.out.later (by with_reducible repeat (first | exact Below.refl _ _ | assumption | refine ba ?_ | refine bd ?_ | refine bdn ?_ _ | refine bset ?_ (by omega) | refine bt ?_ (by assumption)))); (· exact HS.out.later (by with_reducible repeat (first | exact Below.refl _ _ | assumption | refine ba ?_ | refine bd ?_ | refine bdn ?_ _ | refine bset ?_ (by omega) | refine bt ?_ (by assumption)))); rintro e w5 ⟨rfl, hb5⟩; obtain ⟨hc5, hf5⟩ := bcell hb5; have hc5_0 := fun o => hc5 (w.heap.size) o (by first | assumption | omega | (simp; done) | (simp; omega)); have hf5_0 := fun o => hf5 (w.heap.size) o (by first | assumption | omega | (simp; done) | (simp; omega)); have hc5_1 := fun o => hc5 (w3.heap.size) o (by first | assumption | omega | (simp; done) | (simp; omega)); have hf5_1 := fun o => hf5 (w3.heap.size) o (by first | assumption | omega | (simp; done) | (simp; omega)); clear hc5 hf5; have hz5_0 : w.heap.size < w5.heap.size := (by first | exact sz1 hb5 | exact sz2 hb5 | exact sz3 hb5 | (have := hb5.size; (try simp only [World.size_alloc, World.size_drew] at this); omega)); have hz5_1 : w3.heap.size < w5.heap.size := (by first | exact sz1 hb5 | exact sz2 hb5 | exact sz3 hb5 | (have := hb5.size; (try simp only [World.size_alloc, World.size_drew] at this); omega)))
    | (go_at_call 25; (with_reducible refine (C4.out _ ?_ ?_).mono ?_); (· exact HH.out.later (by with_reducible repeat (first | exact Below.refl _ _ | assumption | refine ba ?_ | refine bd ?_ | refine bdn ?_ _ | refine bset ?_ (by omega) | refine bt ?_ (by assumption)))); (· exact HT.out.later (by with_reducible repeat (first | exact Below.refl _ _ | assumption | refine ba ?_ | refine bd ?_ | refine bdn ?_ _ | refine bset ?_ (by omega) | refine bt ?_ (by assumption)))); rintro e w6 ⟨rfl, hb6⟩; obtain ⟨hc6, hf6⟩ := bcell hb6; have hc6_0 := fun o => hc6 (w.heap.size) o (by first | assumption | omega | (simp; done) | (simp; omega)); have hf6_0 := fun o => hf6 (w.heap.size) o (by first | assumption | omega | (simp; done) | (simp; omega)); have hc6_1 := fun o => hc6 (w3.heap.size) o (by first | assumption | omega | (simp; done) | (simp; omega)); have hf6_1 := fun o => hf6 (w3.heap.size) o (by first | assumption | omega | (simp; done) | (simp; omega)); clear hc6 hf6; have hz6_0 : w.heap.size < w6.heap.size := (by first | exact sz1 hb6 | exact sz2 hb6 | exact sz3 hb6 | (have := hb6.size; (try simp only [World.size_alloc, World.size_drew] at this); omega)); have hz6_1 : w3.heap.size < w6.heap.size := (by first | exact sz1 hb6 | exact sz2 hb6 | exact sz3 hb6 | (have := hb6.size; (try simp only [World.size_alloc, World.size_drew] at this); omega))))
  go_cut [121] from 101 to 121 (fun s wx => s = .bool false ∧ wx = (w6.alloc (.cells #[.int .i64 u.off, .int .i64 u.save, .string u.abbr] 58)))
  case first =>
    have hu := HE.out
    subst hu
    go_wp2
    go_meet
    exact ⟨rfl, rfl⟩
  case rest =>
    obtain ⟨rfl, rfl⟩ := hcut
    go_wp2
    go_ret
    exact ⟨rfl, by with_reducible repeat (first | exact Below.refl _ _ | assumption | refine ba ?_ | refine bd ?_ | refine bdn ?_ _ | refine bset ?_ (by omega) | refine bt ?_ (by assumption))⟩
set_option maxRecDepth 100000 in
set_option maxHeartbeats 12800000 in
theorem betw_ft {w : World} {r : Value} {l : List RuleV} (hr : Holds w r l) (e : EraV) (he : e.Fit) (t other : Int) (ht : Tab w) (hst : Sta w) (hF : fitsB l e = true) (h1 : ¬ t < -1096193779200) (h2 : ¬ 971890963199 < t) (h3 : ¬ other < -1096193779200) (h4 : ¬ 971890963199 < other) (hR : Er.rightB e = true) (n p : Int) (hN : nextV l e t = (n, false)) (hP : prevV l e t = (p, true)) :
    Calls Tryz.prog 6 #[r, .agg e.cells.toArray, .int .i64 t, .int .i64 other] w fun x w' => x = .returned (.bool true) ∧ Below w.heap.size w w' := by
  have cf := fun W (h : Holds W r l) => fits h e he
  have HH := Lib.hid hr
  have HT := Lib.hid ht
  have HS := Lib.hid hst
  have Cl := Lib.hid lives
  obtain ⟨hs, hl, hc⟩ := fits_facts hF
  rw [hF] at cf
  unfold EraV.cells at cf
  have Cf := Lib.hid cf
  have cA : ∀ s v, AV l e s = v → ∀ W, Holds W r l → Tab W → Calls Tryz.prog 25 #[r, .agg #[.int .i64 e.off, .int .i64 e.kind, .int .i64 e.save, .string e.rules, .string e.format, .bool e.u.has, .int .i64 e.u.year, .int .i64 e.u.month, .int .i64 e.u.kind, .int .i64 e.u.week, .int .i64 e.u.day, .int .i64 e.u.sec, .int .i64 e.u.base], .int .i64 s] W fun z w' => z = .returned (.tuple #[.agg #[.int .i64 v.off, .int .i64 v.save, .string v.abbr], .int .i64 0]) ∧ Below W.heap.size W w' := fun s v hv W h ht => by
    have := Frc.At h e he s ht hs hl
    rw [at_right hR, hv] at this
    exact this
  have cN : ∀ s n k, nextV l e s = (n, k) → ∀ W, Holds W r l → Tab W → Sta W → Calls Tryz.prog 27 #[r, .agg #[.int .i64 e.off, .int .i64 e.kind, .int .i64 e.save, .string e.rules, .string e.format, .bool e.u.has, .int .i64 e.u.year, .int .i64 e.u.month, .int .i64 e.u.kind, .int .i64 e.u.week, .int .i64 e.u.day, .int .i64 e.u.sec, .int .i64 e.u.base], .int .i64 s] W fun z w' => z = .returned (.tuple #[.int .i64 n, .bool k]) ∧ Below W.heap.size W w' := fun s n k hv W h ht hst => by
    have := Frc.Next h e he s ht hst hs hl
    rw [hv] at this
    exact this
  have cP : ∀ s n k, prevV l e s = (n, k) → ∀ W, Holds W r l → Tab W → Sta W → Calls Tryz.prog 29 #[r, .agg #[.int .i64 e.off, .int .i64 e.kind, .int .i64 e.save, .string e.rules, .string e.format, .bool e.u.has, .int .i64 e.u.year, .int .i64 e.u.month, .int .i64 e.u.kind, .int .i64 e.u.week, .int .i64 e.u.day, .int .i64 e.u.sec, .int .i64 e.u.base], .int .i64 s] W fun z w' => z = .returned (.tuple #[.int .i64 n, .bool k]) ∧ Below W.heap.size W w' := fun s n k hv W h ht hst => by
    have := Frc.Prev h e he s ht hst hs hl
    rw [hv] at this
    exact this
  obtain ⟨v, hv⟩ : ∃ v, AV l e t = v := ⟨_, rfl⟩
  obtain ⟨u, hu⟩ : ∃ u, AV l e other = u := ⟨_, rfl⟩
  have hE : p ≤ other → u = v := fun hp => by
    rw [← hu, ← hv]
    exact elseB hc hR (by omega) (by omega) (by omega) (by omega) (fun n' hn => by rw [hN] at hn; cases hn) (fun p' hn => by rw [hP] at hn; cases hn; exact hp)
  obtain ⟨p0, cap, rfl⟩ := hr.form
  have c1 : ∀ W, Holds W (.slice p0 l.length cap) l → Tab W → Calls Tryz.prog 25 #[.slice p0 l.length cap, .agg #[.int .i64 e.off, .int .i64 e.kind, .int .i64 e.save, .string e.rules, .string e.format, .bool e.u.has, .int .i64 e.u.year, .int .i64 e.u.month, .int .i64 e.u.kind, .int .i64 e.u.week, .int .i64 e.u.day, .int .i64 e.u.sec, .int .i64 e.u.base], .int .i64 t] W fun z w' => z = .returned (.tuple #[.agg #[.int .i64 v.off, .int .i64 v.save, .string v.abbr], .int .i64 0]) ∧ Below W.heap.size W w' := fun W h ht => cA t v hv W h ht
  have c2 : ∀ W, Holds W (.slice p0 l.length cap) l → Tab W → Sta W → Calls Tryz.prog 27 #[.slice p0 l.length cap, .agg #[.int .i64 e.off, .int .i64 e.kind, .int .i64 e.save, .string e.rules, .string e.format, .bool e.u.has, .int .i64 e.u.year, .int .i64 e.u.month, .int .i64 e.u.kind, .int .i64 e.u.week, .int .i64 e.u.day, .int .i64 e.u.sec, .int .i64 e.u.base], .int .i64 t] W fun z w' => z = .returned (.tuple #[.int .i64 n, .bool false]) ∧ Below W.heap.size W w' := fun W h ht hst => cN t n false hN W h ht hst
  have c3 : ∀ W, Holds W (.slice p0 l.length cap) l → Tab W → Sta W → Calls Tryz.prog 29 #[.slice p0 l.length cap, .agg #[.int .i64 e.off, .int .i64 e.kind, .int .i64 e.save, .string e.rules, .string e.format, .bool e.u.has, .int .i64 e.u.year, .int .i64 e.u.month, .int .i64 e.u.kind, .int .i64 e.u.week, .int .i64 e.u.day, .int .i64 e.u.sec, .int .i64 e.u.base], .int .i64 t] W fun z w' => z = .returned (.tuple #[.int .i64 p, .bool true]) ∧ Below W.heap.size W w' := fun W h ht hst => cP t p true hP W h ht hst
  have c4 : ∀ W, Holds W (.slice p0 l.length cap) l → Tab W → Calls Tryz.prog 25 #[.slice p0 l.length cap, .agg #[.int .i64 e.off, .int .i64 e.kind, .int .i64 e.save, .string e.rules, .string e.format, .bool e.u.has, .int .i64 e.u.year, .int .i64 e.u.month, .int .i64 e.u.kind, .int .i64 e.u.week, .int .i64 e.u.day, .int .i64 e.u.sec, .int .i64 e.u.base], .int .i64 other] W fun z w' => z = .returned (.tuple #[.agg #[.int .i64 u.off, .int .i64 u.save, .string u.abbr], .int .i64 0]) ∧ Below W.heap.size W w' := fun W h ht => cA other u hu W h ht
  obtain ⟨qr, q1, q2, q3, q4⟩ := prevB hc hR (by omega) (by omega) hP
  obtain ⟨y, hy⟩ : ∃ y, AV l e (p - 1) = y := ⟨_, rfl⟩
  rw [hy, hv] at q2
  rw [hv] at q3
  have hy2 := ne_ways q2
  have hw2 : wrap64 (p - 1) = p - 1 := by unfold wrap64; omega
  have hpt : ¬ t < p := by omega
  have c8 : ∀ W, Holds W (.slice p0 l.length cap) l → Tab W → Calls Tryz.prog 25 #[.slice p0 l.length cap, .agg #[.int .i64 e.off, .int .i64 e.kind, .int .i64 e.save, .string e.rules, .string e.format, .bool e.u.has, .int .i64 e.u.year, .int .i64 e.u.month, .int .i64 e.u.kind, .int .i64 e.u.week, .int .i64 e.u.day, .int .i64 e.u.sec, .int .i64 e.u.base], .int .i64 (p - 1)] W fun z w' => z = .returned (.tuple #[.agg #[.int .i64 y.off, .int .i64 y.save, .string y.abbr], .int .i64 0]) ∧ Below W.heap.size W w' := fun W h ht => cA (p - 1) y hy W h ht
  have c9 : ∀ W, Holds W (.slice p0 l.length cap) l → Tab W → Calls Tryz.prog 25 #[.slice p0 l.length cap, .agg #[.int .i64 e.off, .int .i64 e.kind, .int .i64 e.save, .string e.rules, .string e.format, .bool e.u.has, .int .i64 e.u.year, .int .i64 e.u.month, .int .i64 e.u.kind, .int .i64 e.u.week, .int .i64 e.u.day, .int .i64 e.u.sec, .int .i64 e.u.base], .int .i64 p] W fun z w' => z = .returned (.tuple #[.agg #[.int .i64 v.off, .int .i64 v.save, .string v.abbr], .int .i64 0]) ∧ Below W.heap.size W w' := fun W h ht => cA p v q3 W h ht
  have c10 : ∀ W, Holds W (.slice p0 l.length cap) l → Tab W → Sta W → Calls Tryz.prog 27 #[.slice p0 l.length cap, .agg #[.int .i64 e.off, .int .i64 e.kind, .int .i64 e.save, .string e.rules, .string e.format, .bool e.u.has, .int .i64 e.u.year, .int .i64 e.u.month, .int .i64 e.u.kind, .int .i64 e.u.week, .int .i64 e.u.day, .int .i64 e.u.sec, .int .i64 e.u.base], .int .i64 (p - 1)] W fun z w' => z = .returned (.tuple #[.int .i64 p, .bool true]) ∧ Below W.heap.size W w' := fun W h ht hst => cN (p - 1) p true q4 W h ht hst
  have C1 := Lib.hid c1
  have C2 := Lib.hid c2
  have C3 := Lib.hid c3
  have C4 := Lib.hid c4
  have C8 := Lib.hid c8
  have C9 := Lib.hid c9
  have C10 := Lib.hid c10
  have HE := Lib.hid hE
  have HY2 := Lib.hid hy2
  clear cf cA cN cP hr ht hst hF hs hl hc hR hN hP hv hu hE c1 c2 c3 c4 c8 c9 c10 hy2 qr q1 q2 q3 q4 hy
  unfold EraV.cells
  generalize l.length = n0 at *
  go_enter Tryz.func6, Tryz.ntmps6
  go_upto_region 13 with (first
    | (go_at_call 24; (with_reducible refine (Cl.out _ ?_ ?_).mono ?_); (· exact HT.out.later (by with_reducible repeat (first | exact Below.refl _ _ | assumption | refine ba ?_ | refine bd ?_ | refine bdn ?_ _ | refine bset ?_ (by omega) | refine bt ?_ (by assumption)))); (· exact HS.out.later (by with_reducible repeat (first | exact Below.refl _ _ | assumption | refine ba ?_ | refine bd ?_ | refine bdn ?_ _ | refine bset ?_ (by omega) | refine bt ?_ (by assumption)))); rintro e w1 ⟨rfl, hb1⟩; obtain ⟨hc1, hf1⟩ := bcell hb1; have hc1_0 := fun o => hc1 (w.heap.size) o (by first | assumption | omega | (simp; done) | (simp; omega)); have hf1_0 := fun o => hf1 (w.heap.size) o (by first | assumption | omega | (simp; done) | (simp; omega)); clear hc1 hf1; have hz1_0 : w.heap.size < w1.heap.size := (by first | exact sz1 hb1 | exact sz2 hb1 | exact sz3 hb1 | (have := hb1.size; (try simp only [World.size_alloc, World.size_drew] at this); omega)))
    | (go_at_call 23; (with_reducible refine (Cf.out _ ?_).mono ?_); (· exact HH.out.later (by with_reducible repeat (first | exact Below.refl _ _ | assumption | refine ba ?_ | refine bd ?_ | refine bdn ?_ _ | refine bset ?_ (by omega) | refine bt ?_ (by assumption)))); rintro e w2 ⟨rfl, hb2⟩; obtain ⟨hc2, hf2⟩ := bcell hb2; have hc2_0 := fun o => hc2 (w.heap.size) o (by first | assumption | omega | (simp; done) | (simp; omega)); have hf2_0 := fun o => hf2 (w.heap.size) o (by first | assumption | omega | (simp; done) | (simp; omega)); clear hc2 hf2; have hz2_0 : w.heap.size < w2.heap.size := (by first | exact sz1 hb2 | exact sz2 hb2 | exact sz3 hb2 | (have := hb2.size; (try simp only [World.size_alloc, World.size_drew] at this); omega)))
    | (go_at_call 25; (with_reducible refine (C1.out _ ?_ ?_).mono ?_); (· exact HH.out.later (by with_reducible repeat (first | exact Below.refl _ _ | assumption | refine ba ?_ | refine bd ?_ | refine bdn ?_ _ | refine bset ?_ (by omega) | refine bt ?_ (by assumption)))); (· exact HT.out.later (by with_reducible repeat (first | exact Below.refl _ _ | assumption | refine ba ?_ | refine bd ?_ | refine bdn ?_ _ | refine bset ?_ (by omega) | refine bt ?_ (by assumption)))); rintro e w3 ⟨rfl, hb3⟩; obtain ⟨hc3, hf3⟩ := bcell hb3; have hc3_0 := fun o => hc3 (w.heap.size) o (by first | assumption | omega | (simp; done) | (simp; omega)); have hf3_0 := fun o => hf3 (w.heap.size) o (by first | assumption | omega | (simp; done) | (simp; omega)); clear hc3 hf3; have hz3_0 : w.heap.size < w3.heap.size := (by first | exact sz1 hb3 | exact sz2 hb3 | exact sz3 hb3 | (have := hb3.size; (try simp only [World.size_alloc, World.size_drew] at this); omega)))
    | (go_at_call 27; (with_reducible refine (C2.out _ ?_ ?_ ?_).mono ?_); (· exact HH.out.later (by with_reducible repeat (first | exact Below.refl _ _ | assumption | refine ba ?_ | refine bd ?_ | refine bdn ?_ _ | refine bset ?_ (by omega) | refine bt ?_ (by assumption)))); (· exact HT.out.later (by with_reducible repeat (first | exact Below.refl _ _ | assumption | refine ba ?_ | refine bd ?_ | refine bdn ?_ _ | refine bset ?_ (by omega) | refine bt ?_ (by assumption)))); (· exact HS.out.later (by with_reducible repeat (first | exact Below.refl _ _ | assumption | refine ba ?_ | refine bd ?_ | refine bdn ?_ _ | refine bset ?_ (by omega) | refine bt ?_ (by assumption)))); rintro e w4 ⟨rfl, hb4⟩; obtain ⟨hc4, hf4⟩ := bcell hb4; have hc4_0 := fun o => hc4 (w.heap.size) o (by first | assumption | omega | (simp; done) | (simp; omega)); have hf4_0 := fun o => hf4 (w.heap.size) o (by first | assumption | omega | (simp; done) | (simp; omega)); have hc4_1 := fun o => hc4 (w3.heap.size) o (by first | assumption | omega | (simp; done) | (simp; omega)); have hf4_1 := fun o => hf4 (w3.heap.size) o (by first | assumption | omega | (simp; done) | (simp; omega)); clear hc4 hf4; have hz4_0 : w.heap.size < w4.heap.size := (by first | exact sz1 hb4 | exact sz2 hb4 | exact sz3 hb4 | (have := hb4.size; (try simp only [World.size_alloc] at this); omega)); have hz4_1 : w3.heap.size < w4.heap.size := (by first | exact sz1 hb4 | exact sz2 hb4 | exact sz3 hb4 | (have := hb4.size; (try simp only [World.size_alloc, World.size_drew] at this); omega)))
    | (go_at_call 29; (with_reducible refine (C3.out _ ?_ ?_ ?_).mono ?_); (· exact HH.out.later (by with_reducible repeat (first | exact Below.refl _ _ | assumption | refine ba ?_ | refine bd ?_ | refine bdn ?_ _ | refine bset ?_ (by omega) | refine bt ?_ (by assumption)))); (· exact HT.out.later (by with_reducible repeat (first | exact Below.refl _ _ | assumption | refine ba ?_ | refine bd ?_ | refine bdn ?_ _ | refine bset ?_ (by omega) | refine bt ?_ (by assumption)))); (· exact HS.out.later (by with_reducible repeat (first | exact Below.refl _ _ | assumption | refine ba ?_ | refine bd ?_ | refine bdn ?_ _ | refine bset ?_ (by omega) | refine bt ?_ (by assumption)))); rintro e w5 ⟨rfl, hb5⟩; obtain ⟨hc5, hf5⟩ := bcell hb5; have hc5_0 := fun o => hc5 (w.heap.size) o (by first | assumption | omega | (simp; done) | (simp; omega)); have hf5_0 := fun o => hf5 (w.heap.size) o (by first | assumption | omega | (simp; done) | (simp; omega)); have hc5_1 := fun o => hc5 (w3.heap.size) o (by first | assumption | omega | (simp; done) | (simp; omega)); have hf5_1 := fun o => hf5 (w3.heap.size) o (by first | assumption | omega | (simp; done) | (simp; omega)); clear hc5 hf5; have hz5_0 : w.heap.size < w5.heap.size := (by first | exact sz1 hb5 | exact sz2 hb5 | exact sz3 hb5 | (have := hb5.size; (try simp only [World.size_alloc, World.size_drew] at this); omega)); have hz5_1 : w3.heap.size < w5.heap.size := (by first | exact sz1 hb5 | exact sz2 hb5 | exact sz3 hb5 | (have := hb5.size; (try simp only [World.size_alloc, World.size_drew] at this); omega)))
    | (go_at_call 25; (with_reducible refine (C4.out _ ?_ ?_).mono ?_); (· exact HH.out.later (by with_reducible repeat (first | exact Below.refl _ _ | assumption | refine ba ?_ | refine bd ?_ | refine bdn ?_ _ | refine bset ?_ (by omega) | refine bt ?_ (by assumption)))); (· exact HT.out.later (by with_reducible repeat (first | exact Below.refl _ _ | assumption | refine ba ?_ | refine bd ?_ | refine bdn ?_ _ | refine bset ?_ (by omega) | refine bt ?_ (by assumption)))); rintro e w6 ⟨rfl, hb6⟩; obtain ⟨hc6, hf6⟩ := bcell hb6; have hc6_0 := fun o => hc6 (w.heap.size) o (by first | assumption | omega | (simp; done) | (simp; omega)); have hf6_0 := fun o => hf6 (w.heap.size) o (by first | assumption | omega | (simp; done) | (simp; omega)); have hc6_1 := fun o => hc6 (w3.heap.size) o (by first | assumption | omega | (simp; done) | (simp; omega)); have hf6_1 := fun o => hf6 (w3.heap.size) o (by first | assumption | omega | (simp; done) | (simp; omega)); clear hc6 hf6; have hz6_0 : w.heap.size < w6.heap.size := (by first | exact sz1 hb6 | exact sz2 hb6 | exact sz3 hb6 | (have := hb6.size; (try simp only [World.size_alloc, World.size_drew] at this); omega)); have hz6_1 : w3.heap.size < w6.heap.size := (by first | exact sz1 hb6 | exact sz2 hb6 | exact sz3 hb6 | (have := hb6.size; (try simp only [World.size_alloc, World.size_drew] at this); omega))))
  go_cut [121] from 101 to 121 (fun s wx => s = .bool false ∧ wx = (w6.alloc (.cells #[.int .i64 u.off, .int .i64 u.save, .string u.abbr] 58)))
  case first =>
    by_cases ho : p ≤ other
    · have hu := HE.out ho
      subst hu
      go_wp2
      go_meet
      exact ⟨rfl, rfl⟩
    · go_wp2
      go_meet
      exact ⟨rfl, rfl⟩
  case rest =>
    obtain ⟨rfl, rfl⟩ := hcut
    go_upto_region 25 with (first
      | (go_at_call 25; (with_reducible refine (C8.out _ ?_ ?_).mono ?_); (· exact HH.out.later (by with_reducible repeat (first | exact Below.refl _ _ | assumption | refine ba ?_ | refine bd ?_ | refine bdn ?_ _ | refine bset ?_ (by omega) | refine bt ?_ (by assumption)))); (· exact HT.out.later (by with_reducible repeat (first | exact Below.refl _ _ | assumption | refine ba ?_ | refine bd ?_ | refine bdn ?_ _ | refine bset ?_ (by omega) | refine bt ?_ (by assumption)))); rintro e w10 ⟨rfl, hb10⟩; obtain ⟨hc10, hf10⟩ := bcell hb10; have hc10_0 := fun o => hc10 (w.heap.size) o (by first | assumption | omega | (simp; done) | (simp; omega)); have hf10_0 := fun o => hf10 (w.heap.size) o (by first | assumption | omega | (simp; done) | (simp; omega)); have hc10_1 := fun o => hc10 (w3.heap.size) o (by first | assumption | omega | (simp; done) | (simp; omega)); have hf10_1 := fun o => hf10 (w3.heap.size) o (by first | assumption | omega | (simp; done) | (simp; omega)); clear hc10 hf10; have hz10_0 : w.heap.size < w10.heap.size := (by first | exact sz1 hb10 | exact sz2 hb10 | exact sz3 hb10 | (have := hb10.size; (try simp only [World.size_alloc] at this); omega)); have hz10_1 : w3.heap.size < w10.heap.size := (by first | exact sz1 hb10 | exact sz2 hb10 | exact sz3 hb10 | (have := hb10.size; (try simp only [World.size_alloc] at this); omega)))
      | (go_at_call 25; (with_reducible refine (C9.out _ ?_ ?_).mono ?_); (· exact HH.out.later (by with_reducible repeat (first | exact Below.refl _ _ | assumption | refine ba ?_ | refine bd ?_ | refine bdn ?_ _ | refine bset ?_ (by omega) | refine bt ?_ (by assumption)))); (· exact HT.out.later (by with_reducible repeat (first | exact Below.refl _ _ | assumption | refine ba ?_ | refine bd ?_ | refine bdn ?_ _ | refine bset ?_ (by omega) | refine bt ?_ (by assumption)))); rintro e w11 ⟨rfl, hb11⟩; obtain ⟨hc11, hf11⟩ := bcell hb11; have hc11_0 := fun o => hc11 (w.heap.size) o (by first | assumption | omega | (simp; done) | (simp; omega)); have hf11_0 := fun o => hf11 (w.heap.size) o (by first | assumption | omega | (simp; done) | (simp; omega)); have hc11_1 := fun o => hc11 (w3.heap.size) o (by first | assumption | omega | (simp; done) | (simp; omega)); have hf11_1 := fun o => hf11 (w3.heap.size) o (by first | assumption | omega | (simp; done) | (simp; omega)); have hc11_2 := fun o => hc11 (w10.heap.size) o (by first | assumption | omega | (simp; done) | (simp; omega)); have hf11_2 := fun o => hf11 (w10.heap.size) o (by first | assumption | omega | (simp; done) | (simp; omega)); clear hc11 hf11; have hz11_0 : w.heap.size < w11.heap.size := (by first | exact sz1 hb11 | exact sz2 hb11 | exact sz3 hb11 | (have := hb11.size; (try simp only [World.size_alloc] at this); omega)); have hz11_1 : w3.heap.size < w11.heap.size := (by first | exact sz1 hb11 | exact sz2 hb11 | exact sz3 hb11 | (have := hb11.size; (try simp only [World.size_alloc] at this); omega)); have hz11_2 : w10.heap.size < w11.heap.size := (by first | exact sz1 hb11 | exact sz2 hb11 | exact sz3 hb11 | (have := hb11.size; (try simp only [World.size_alloc, World.size_drew] at this); omega)))
      | (go_at_call 27; (with_reducible refine (C10.out _ ?_ ?_ ?_).mono ?_); (· exact HH.out.later (by with_reducible repeat (first | exact Below.refl _ _ | assumption | refine ba ?_ | refine bd ?_ | refine bdn ?_ _ | refine bset ?_ (by omega) | refine bt ?_ (by assumption)))); (· exact HT.out.later (by with_reducible repeat (first | exact Below.refl _ _ | assumption | refine ba ?_ | refine bd ?_ | refine bdn ?_ _ | refine bset ?_ (by omega) | refine bt ?_ (by assumption)))); (· exact HS.out.later (by with_reducible repeat (first | exact Below.refl _ _ | assumption | refine ba ?_ | refine bd ?_ | refine bdn ?_ _ | refine bset ?_ (by omega) | refine bt ?_ (by assumption)))); rintro e w12 ⟨rfl, hb12⟩; obtain ⟨hc12, hf12⟩ := bcell hb12; have hc12_0 := fun o => hc12 (w.heap.size) o (by first | assumption | omega | (simp; done) | (simp; omega)); have hf12_0 := fun o => hf12 (w.heap.size) o (by first | assumption | omega | (simp; done) | (simp; omega)); have hc12_1 := fun o => hc12 (w3.heap.size) o (by first | assumption | omega | (simp; done) | (simp; omega)); have hf12_1 := fun o => hf12 (w3.heap.size) o (by first | assumption | omega | (simp; done) | (simp; omega)); have hc12_2 := fun o => hc12 (w10.heap.size) o (by first | assumption | omega | (simp; done) | (simp; omega)); have hf12_2 := fun o => hf12 (w10.heap.size) o (by first | assumption | omega | (simp; done) | (simp; omega)); have hc12_3 := fun o => hc12 (w11.heap.size) o (by first | assumption | omega | (simp; done) | (simp; omega)); have hf12_3 := fun o => hf12 (w11.heap.size) o (by first | assumption | omega | (simp; done) | (simp; omega)); clear hc12 hf12; have hz12_0 : w.heap.size < w12.heap.size := (by first | exact sz1 hb12 | exact sz2 hb12 | exact sz3 hb12 | (have := hb12.size; (try simp only [World.size_alloc] at this); omega)); have hz12_1 : w3.heap.size < w12.heap.size := (by first | exact sz1 hb12 | exact sz2 hb12 | exact sz3 hb12 | (have := hb12.size; (try simp only [World.size_alloc] at this); omega)); have hz12_2 : w10.heap.size < w12.heap.size := (by first | exact sz1 hb12 | exact sz2 hb12 | exact sz3 hb12 | (have := hb12.size; (try simp only [World.size_alloc] at this); omega)); have hz12_3 : w11.heap.size < w12.heap.size := (by first | exact sz1 hb12 | exact sz2 hb12 | exact sz3 hb12 | (have := hb12.size; (try simp only [World.size_alloc, World.size_drew] at this); omega))))
    go_cut [202] from 186 to 202 (fun s wx => s = .bool false ∧ wx = w12)
    case first =>
      rcases HY2.out with h1 | ⟨h1, h2⟩ | ⟨h1, h2, h3⟩
      · have e1 : (y.off == v.off) = false := by simpa using h1
        clear h1
        go_wp2
        go_meet
        exact ⟨rfl, rfl⟩
      · have e0 : (y.off == v.off) = true := by simpa using h1
        have e1 : (y.save == v.save) = false := by simpa using h2
        clear h1 h2
        go_wp2
        go_meet
        exact ⟨rfl, rfl⟩
      · have e0 : (y.off == v.off) = true := by simpa using h1
        have e2 : (y.save == v.save) = true := by simpa using h2
        have e1 := str_ne h3
        clear h1 h2 h3
        go_wp2
        go_meet
        exact ⟨rfl, rfl⟩
    case rest =>
      obtain ⟨rfl, rfl⟩ := hcut
      go_wp2
      go_ret
      exact ⟨rfl, by with_reducible repeat (first | exact Below.refl _ _ | assumption | refine ba ?_ | refine bd ?_ | refine bdn ?_ _ | refine bset ?_ (by omega) | refine bt ?_ (by assumption))⟩
set_option maxRecDepth 100000 in
set_option maxHeartbeats 12800000 in
theorem betw_tf {w : World} {r : Value} {l : List RuleV} (hr : Holds w r l) (e : EraV) (he : e.Fit) (t other : Int) (ht : Tab w) (hst : Sta w) (hF : fitsB l e = true) (h1 : ¬ t < -1096193779200) (h2 : ¬ 971890963199 < t) (h3 : ¬ other < -1096193779200) (h4 : ¬ 971890963199 < other) (hR : Er.rightB e = true) (n p : Int) (hN : nextV l e t = (n, true)) (hP : prevV l e t = (p, false)) :
    Calls Tryz.prog 6 #[r, .agg e.cells.toArray, .int .i64 t, .int .i64 other] w fun x w' => x = .returned (.bool true) ∧ Below w.heap.size w w' := by
  have cf := fun W (h : Holds W r l) => fits h e he
  have HH := Lib.hid hr
  have HT := Lib.hid ht
  have HS := Lib.hid hst
  have Cl := Lib.hid lives
  obtain ⟨hs, hl, hc⟩ := fits_facts hF
  rw [hF] at cf
  unfold EraV.cells at cf
  have Cf := Lib.hid cf
  have cA : ∀ s v, AV l e s = v → ∀ W, Holds W r l → Tab W → Calls Tryz.prog 25 #[r, .agg #[.int .i64 e.off, .int .i64 e.kind, .int .i64 e.save, .string e.rules, .string e.format, .bool e.u.has, .int .i64 e.u.year, .int .i64 e.u.month, .int .i64 e.u.kind, .int .i64 e.u.week, .int .i64 e.u.day, .int .i64 e.u.sec, .int .i64 e.u.base], .int .i64 s] W fun z w' => z = .returned (.tuple #[.agg #[.int .i64 v.off, .int .i64 v.save, .string v.abbr], .int .i64 0]) ∧ Below W.heap.size W w' := fun s v hv W h ht => by
    have := Frc.At h e he s ht hs hl
    rw [at_right hR, hv] at this
    exact this
  have cN : ∀ s n k, nextV l e s = (n, k) → ∀ W, Holds W r l → Tab W → Sta W → Calls Tryz.prog 27 #[r, .agg #[.int .i64 e.off, .int .i64 e.kind, .int .i64 e.save, .string e.rules, .string e.format, .bool e.u.has, .int .i64 e.u.year, .int .i64 e.u.month, .int .i64 e.u.kind, .int .i64 e.u.week, .int .i64 e.u.day, .int .i64 e.u.sec, .int .i64 e.u.base], .int .i64 s] W fun z w' => z = .returned (.tuple #[.int .i64 n, .bool k]) ∧ Below W.heap.size W w' := fun s n k hv W h ht hst => by
    have := Frc.Next h e he s ht hst hs hl
    rw [hv] at this
    exact this
  have cP : ∀ s n k, prevV l e s = (n, k) → ∀ W, Holds W r l → Tab W → Sta W → Calls Tryz.prog 29 #[r, .agg #[.int .i64 e.off, .int .i64 e.kind, .int .i64 e.save, .string e.rules, .string e.format, .bool e.u.has, .int .i64 e.u.year, .int .i64 e.u.month, .int .i64 e.u.kind, .int .i64 e.u.week, .int .i64 e.u.day, .int .i64 e.u.sec, .int .i64 e.u.base], .int .i64 s] W fun z w' => z = .returned (.tuple #[.int .i64 n, .bool k]) ∧ Below W.heap.size W w' := fun s n k hv W h ht hst => by
    have := Frc.Prev h e he s ht hst hs hl
    rw [hv] at this
    exact this
  obtain ⟨v, hv⟩ : ∃ v, AV l e t = v := ⟨_, rfl⟩
  obtain ⟨u, hu⟩ : ∃ u, AV l e other = u := ⟨_, rfl⟩
  have hE : other < n → u = v := fun ho => by
    rw [← hu, ← hv]
    exact elseB hc hR (by omega) (by omega) (by omega) (by omega) (fun n' hn => by rw [hN] at hn; cases hn; exact ho) (fun p' hn => by rw [hP] at hn; cases hn)
  obtain ⟨p0, cap, rfl⟩ := hr.form
  have c1 : ∀ W, Holds W (.slice p0 l.length cap) l → Tab W → Calls Tryz.prog 25 #[.slice p0 l.length cap, .agg #[.int .i64 e.off, .int .i64 e.kind, .int .i64 e.save, .string e.rules, .string e.format, .bool e.u.has, .int .i64 e.u.year, .int .i64 e.u.month, .int .i64 e.u.kind, .int .i64 e.u.week, .int .i64 e.u.day, .int .i64 e.u.sec, .int .i64 e.u.base], .int .i64 t] W fun z w' => z = .returned (.tuple #[.agg #[.int .i64 v.off, .int .i64 v.save, .string v.abbr], .int .i64 0]) ∧ Below W.heap.size W w' := fun W h ht => cA t v hv W h ht
  have c2 : ∀ W, Holds W (.slice p0 l.length cap) l → Tab W → Sta W → Calls Tryz.prog 27 #[.slice p0 l.length cap, .agg #[.int .i64 e.off, .int .i64 e.kind, .int .i64 e.save, .string e.rules, .string e.format, .bool e.u.has, .int .i64 e.u.year, .int .i64 e.u.month, .int .i64 e.u.kind, .int .i64 e.u.week, .int .i64 e.u.day, .int .i64 e.u.sec, .int .i64 e.u.base], .int .i64 t] W fun z w' => z = .returned (.tuple #[.int .i64 n, .bool true]) ∧ Below W.heap.size W w' := fun W h ht hst => cN t n true hN W h ht hst
  have c3 : ∀ W, Holds W (.slice p0 l.length cap) l → Tab W → Sta W → Calls Tryz.prog 29 #[.slice p0 l.length cap, .agg #[.int .i64 e.off, .int .i64 e.kind, .int .i64 e.save, .string e.rules, .string e.format, .bool e.u.has, .int .i64 e.u.year, .int .i64 e.u.month, .int .i64 e.u.kind, .int .i64 e.u.week, .int .i64 e.u.day, .int .i64 e.u.sec, .int .i64 e.u.base], .int .i64 t] W fun z w' => z = .returned (.tuple #[.int .i64 p, .bool false]) ∧ Below W.heap.size W w' := fun W h ht hst => cP t p false hP W h ht hst
  have c4 : ∀ W, Holds W (.slice p0 l.length cap) l → Tab W → Calls Tryz.prog 25 #[.slice p0 l.length cap, .agg #[.int .i64 e.off, .int .i64 e.kind, .int .i64 e.save, .string e.rules, .string e.format, .bool e.u.has, .int .i64 e.u.year, .int .i64 e.u.month, .int .i64 e.u.kind, .int .i64 e.u.week, .int .i64 e.u.day, .int .i64 e.u.sec, .int .i64 e.u.base], .int .i64 other] W fun z w' => z = .returned (.tuple #[.agg #[.int .i64 u.off, .int .i64 u.save, .string u.abbr], .int .i64 0]) ∧ Below W.heap.size W w' := fun W h ht => cA other u hu W h ht
  obtain ⟨gr, g1, g2, g3, g4⟩ := nextB hc hR (by omega) (by omega) hN
  obtain ⟨x, hx⟩ : ∃ x, AV l e n = x := ⟨_, rfl⟩
  rw [hx, hv] at g2
  rw [hv] at g3
  have hx2 := ne_ways g2
  have hw1 : wrap64 (n - 1) = n - 1 := by unfold wrap64; omega
  have hnt : ¬ n ≤ t := by omega
  have c5 : ∀ W, Holds W (.slice p0 l.length cap) l → Tab W → Calls Tryz.prog 25 #[.slice p0 l.length cap, .agg #[.int .i64 e.off, .int .i64 e.kind, .int .i64 e.save, .string e.rules, .string e.format, .bool e.u.has, .int .i64 e.u.year, .int .i64 e.u.month, .int .i64 e.u.kind, .int .i64 e.u.week, .int .i64 e.u.day, .int .i64 e.u.sec, .int .i64 e.u.base], .int .i64 n] W fun z w' => z = .returned (.tuple #[.agg #[.int .i64 x.off, .int .i64 x.save, .string x.abbr], .int .i64 0]) ∧ Below W.heap.size W w' := fun W h ht => cA n x hx W h ht
  have c6 : ∀ W, Holds W (.slice p0 l.length cap) l → Tab W → Calls Tryz.prog 25 #[.slice p0 l.length cap, .agg #[.int .i64 e.off, .int .i64 e.kind, .int .i64 e.save, .string e.rules, .string e.format, .bool e.u.has, .int .i64 e.u.year, .int .i64 e.u.month, .int .i64 e.u.kind, .int .i64 e.u.week, .int .i64 e.u.day, .int .i64 e.u.sec, .int .i64 e.u.base], .int .i64 (n - 1)] W fun z w' => z = .returned (.tuple #[.agg #[.int .i64 v.off, .int .i64 v.save, .string v.abbr], .int .i64 0]) ∧ Below W.heap.size W w' := fun W h ht => cA (n - 1) v g3 W h ht
  have c7 : ∀ W, Holds W (.slice p0 l.length cap) l → Tab W → Sta W → Calls Tryz.prog 29 #[.slice p0 l.length cap, .agg #[.int .i64 e.off, .int .i64 e.kind, .int .i64 e.save, .string e.rules, .string e.format, .bool e.u.has, .int .i64 e.u.year, .int .i64 e.u.month, .int .i64 e.u.kind, .int .i64 e.u.week, .int .i64 e.u.day, .int .i64 e.u.sec, .int .i64 e.u.base], .int .i64 n] W fun z w' => z = .returned (.tuple #[.int .i64 n, .bool true]) ∧ Below W.heap.size W w' := fun W h ht hst => cP n n true g4 W h ht hst
  have C1 := Lib.hid c1
  have C2 := Lib.hid c2
  have C3 := Lib.hid c3
  have C4 := Lib.hid c4
  have C5 := Lib.hid c5
  have C6 := Lib.hid c6
  have C7 := Lib.hid c7
  have HE := Lib.hid hE
  have HX2 := Lib.hid hx2
  clear cf cA cN cP hr ht hst hF hs hl hc hR hN hP hv hu hE c1 c2 c3 c4 c5 c6 c7 hx2 gr g1 g2 g3 g4 hx
  unfold EraV.cells
  generalize l.length = n0 at *
  go_enter Tryz.func6, Tryz.ntmps6
  go_upto_region 13 with (first
    | (go_at_call 24; (with_reducible refine (Cl.out _ ?_ ?_).mono ?_); (· exact HT.out.later (by with_reducible repeat (first | exact Below.refl _ _ | assumption | refine ba ?_ | refine bd ?_ | refine bdn ?_ _ | refine bset ?_ (by omega) | refine bt ?_ (by assumption)))); (· exact HS.out.later (by with_reducible repeat (first | exact Below.refl _ _ | assumption | refine ba ?_ | refine bd ?_ | refine bdn ?_ _ | refine bset ?_ (by omega) | refine bt ?_ (by assumption)))); rintro e w1 ⟨rfl, hb1⟩; obtain ⟨hc1, hf1⟩ := bcell hb1; have hc1_0 := fun o => hc1 (w.heap.size) o (by first | assumption | omega | (simp; done) | (simp; omega)); have hf1_0 := fun o => hf1 (w.heap.size) o (by first | assumption | omega | (simp; done) | (simp; omega)); clear hc1 hf1; have hz1_0 : w.heap.size < w1.heap.size := (by first | exact sz1 hb1 | exact sz2 hb1 | exact sz3 hb1 | (have := hb1.size; (try simp only [World.size_alloc, World.size_drew] at this); omega)))
    | (go_at_call 23; (with_reducible refine (Cf.out _ ?_).mono ?_); (· exact HH.out.later (by with_reducible repeat (first | exact Below.refl _ _ | assumption | refine ba ?_ | refine bd ?_ | refine bdn ?_ _ | refine bset ?_ (by omega) | refine bt ?_ (by assumption)))); rintro e w2 ⟨rfl, hb2⟩; obtain ⟨hc2, hf2⟩ := bcell hb2; have hc2_0 := fun o => hc2 (w.heap.size) o (by first | assumption | omega | (simp; done) | (simp; omega)); have hf2_0 := fun o => hf2 (w.heap.size) o (by first | assumption | omega | (simp; done) | (simp; omega)); clear hc2 hf2; have hz2_0 : w.heap.size < w2.heap.size := (by first | exact sz1 hb2 | exact sz2 hb2 | exact sz3 hb2 | (have := hb2.size; (try simp only [World.size_alloc, World.size_drew] at this); omega)))
    | (go_at_call 25; (with_reducible refine (C1.out _ ?_ ?_).mono ?_); (· exact HH.out.later (by with_reducible repeat (first | exact Below.refl _ _ | assumption | refine ba ?_ | refine bd ?_ | refine bdn ?_ _ | refine bset ?_ (by omega) | refine bt ?_ (by assumption)))); (· exact HT.out.later (by with_reducible repeat (first | exact Below.refl _ _ | assumption | refine ba ?_ | refine bd ?_ | refine bdn ?_ _ | refine bset ?_ (by omega) | refine bt ?_ (by assumption)))); rintro e w3 ⟨rfl, hb3⟩; obtain ⟨hc3, hf3⟩ := bcell hb3; have hc3_0 := fun o => hc3 (w.heap.size) o (by first | assumption | omega | (simp; done) | (simp; omega)); have hf3_0 := fun o => hf3 (w.heap.size) o (by first | assumption | omega | (simp; done) | (simp; omega)); clear hc3 hf3; have hz3_0 : w.heap.size < w3.heap.size := (by first | exact sz1 hb3 | exact sz2 hb3 | exact sz3 hb3 | (have := hb3.size; (try simp only [World.size_alloc, World.size_drew] at this); omega)))
    | (go_at_call 27; (with_reducible refine (C2.out _ ?_ ?_ ?_).mono ?_); (· exact HH.out.later (by with_reducible repeat (first | exact Below.refl _ _ | assumption | refine ba ?_ | refine bd ?_ | refine bdn ?_ _ | refine bset ?_ (by omega) | refine bt ?_ (by assumption)))); (· exact HT.out.later (by with_reducible repeat (first | exact Below.refl _ _ | assumption | refine ba ?_ | refine bd ?_ | refine bdn ?_ _ | refine bset ?_ (by omega) | refine bt ?_ (by assumption)))); (· exact HS.out.later (by with_reducible repeat (first | exact Below.refl _ _ | assumption | refine ba ?_ | refine bd ?_ | refine bdn ?_ _ | refine bset ?_ (by omega) | refine bt ?_ (by assumption)))); rintro e w4 ⟨rfl, hb4⟩; obtain ⟨hc4, hf4⟩ := bcell hb4; have hc4_0 := fun o => hc4 (w.heap.size) o (by first | assumption | omega | (simp; done) | (simp; omega)); have hf4_0 := fun o => hf4 (w.heap.size) o (by first | assumption | omega | (simp; done) | (simp; omega)); have hc4_1 := fun o => hc4 (w3.heap.size) o (by first | assumption | omega | (simp; done) | (simp; omega)); have hf4_1 := fun o => hf4 (w3.heap.size) o (by first | assumption | omega | (simp; done) | (simp; omega)); clear hc4 hf4; have hz4_0 : w.heap.size < w4.heap.size := (by first | exact sz1 hb4 | exact sz2 hb4 | exact sz3 hb4 | (have := hb4.size; (try simp only [World.size_alloc] at this); omega)); have hz4_1 : w3.heap.size < w4.heap.size := (by first | exact sz1 hb4 | exact sz2 hb4 | exact sz3 hb4 | (have := hb4.size; (try simp only [World.size_alloc, World.size_drew] at this); omega)))
    | (go_at_call 29; (with_reducible refine (C3.out _ ?_ ?_ ?_).mono ?_); (· exact HH.out.later (by with_reducible repeat (first | exact Below.refl _ _ | assumption | refine ba ?_ | refine bd ?_ | refine bdn ?_ _ | refine bset ?_ (by omega) | refine bt ?_ (by assumption)))); (· exact HT.out.later (by with_reducible repeat (first | exact Below.refl _ _ | assumption | refine ba ?_ | refine bd ?_ | refine bdn ?_ _ | refine bset ?_ (by omega) | refine bt ?_ (by assumption)))); (· exact HS.out.later (by with_reducible repeat (first | exact Below.refl _ _ | assumption | refine ba ?_ | refine bd ?_ | refine bdn ?_ _ | refine bset ?_ (by omega) | refine bt ?_ (by assumption)))); rintro e w5 ⟨rfl, hb5⟩; obtain ⟨hc5, hf5⟩ := bcell hb5; have hc5_0 := fun o => hc5 (w.heap.size) o (by first | assumption | omega | (simp; done) | (simp; omega)); have hf5_0 := fun o => hf5 (w.heap.size) o (by first | assumption | omega | (simp; done) | (simp; omega)); have hc5_1 := fun o => hc5 (w3.heap.size) o (by first | assumption | omega | (simp; done) | (simp; omega)); have hf5_1 := fun o => hf5 (w3.heap.size) o (by first | assumption | omega | (simp; done) | (simp; omega)); clear hc5 hf5; have hz5_0 : w.heap.size < w5.heap.size := (by first | exact sz1 hb5 | exact sz2 hb5 | exact sz3 hb5 | (have := hb5.size; (try simp only [World.size_alloc, World.size_drew] at this); omega)); have hz5_1 : w3.heap.size < w5.heap.size := (by first | exact sz1 hb5 | exact sz2 hb5 | exact sz3 hb5 | (have := hb5.size; (try simp only [World.size_alloc, World.size_drew] at this); omega)))
    | (go_at_call 25; (with_reducible refine (C4.out _ ?_ ?_).mono ?_); (· exact HH.out.later (by with_reducible repeat (first | exact Below.refl _ _ | assumption | refine ba ?_ | refine bd ?_ | refine bdn ?_ _ | refine bset ?_ (by omega) | refine bt ?_ (by assumption)))); (· exact HT.out.later (by with_reducible repeat (first | exact Below.refl _ _ | assumption | refine ba ?_ | refine bd ?_ | refine bdn ?_ _ | refine bset ?_ (by omega) | refine bt ?_ (by assumption)))); rintro e w6 ⟨rfl, hb6⟩; obtain ⟨hc6, hf6⟩ := bcell hb6; have hc6_0 := fun o => hc6 (w.heap.size) o (by first | assumption | omega | (simp; done) | (simp; omega)); have hf6_0 := fun o => hf6 (w.heap.size) o (by first | assumption | omega | (simp; done) | (simp; omega)); have hc6_1 := fun o => hc6 (w3.heap.size) o (by first | assumption | omega | (simp; done) | (simp; omega)); have hf6_1 := fun o => hf6 (w3.heap.size) o (by first | assumption | omega | (simp; done) | (simp; omega)); clear hc6 hf6; have hz6_0 : w.heap.size < w6.heap.size := (by first | exact sz1 hb6 | exact sz2 hb6 | exact sz3 hb6 | (have := hb6.size; (try simp only [World.size_alloc, World.size_drew] at this); omega)); have hz6_1 : w3.heap.size < w6.heap.size := (by first | exact sz1 hb6 | exact sz2 hb6 | exact sz3 hb6 | (have := hb6.size; (try simp only [World.size_alloc, World.size_drew] at this); omega))))
  go_cut [121] from 101 to 121 (fun s wx => s = .bool false ∧ wx = (w6.alloc (.cells #[.int .i64 u.off, .int .i64 u.save, .string u.abbr] 58)))
  case first =>
    by_cases ho : other < n
    · have hu := HE.out ho
      subst hu
      go_wp2
      go_meet
      exact ⟨rfl, rfl⟩
    · go_wp2
      go_meet
      exact ⟨rfl, rfl⟩
  case rest =>
    obtain ⟨rfl, rfl⟩ := hcut
    go_upto_region 19 with (first
      | (go_at_call 25; (with_reducible refine (C5.out _ ?_ ?_).mono ?_); (· exact HH.out.later (by with_reducible repeat (first | exact Below.refl _ _ | assumption | refine ba ?_ | refine bd ?_ | refine bdn ?_ _ | refine bset ?_ (by omega) | refine bt ?_ (by assumption)))); (· exact HT.out.later (by with_reducible repeat (first | exact Below.refl _ _ | assumption | refine ba ?_ | refine bd ?_ | refine bdn ?_ _ | refine bset ?_ (by omega) | refine bt ?_ (by assumption)))); rintro e w7 ⟨rfl, hb7⟩; obtain ⟨hc7, hf7⟩ := bcell hb7; have hc7_0 := fun o => hc7 (w.heap.size) o (by first | assumption | omega | (simp; done) | (simp; omega)); have hf7_0 := fun o => hf7 (w.heap.size) o (by first | assumption | omega | (simp; done) | (simp; omega)); have hc7_1 := fun o => hc7 (w3.heap.size) o (by first | assumption | omega | (simp; done) | (simp; omega)); have hf7_1 := fun o => hf7 (w3.heap.size) o (by first | assumption | omega | (simp; done) | (simp; omega)); clear hc7 hf7; have hz7_0 : w.heap.size < w7.heap.size := (by first | exact sz1 hb7 | exact sz2 hb7 | exact sz3 hb7 | (have := hb7.size; (try simp only [World.size_alloc] at this); omega)); have hz7_1 : w3.heap.size < w7.heap.size := (by first | exact sz1 hb7 | exact sz2 hb7 | exact sz3 hb7 | (have := hb7.size; (try simp only [World.size_alloc] at this); omega)))
      | (go_at_call 25; (with_reducible refine (C6.out _ ?_ ?_).mono ?_); (· exact HH.out.later (by with_reducible repeat (first | exact Below.refl _ _ | assumption | refine ba ?_ | refine bd ?_ | refine bdn ?_ _ | refine bset ?_ (by omega) | refine bt ?_ (by assumption)))); (· exact HT.out.later (by with_reducible repeat (first | exact Below.refl _ _ | assumption | refine ba ?_ | refine bd ?_ | refine bdn ?_ _ | refine bset ?_ (by omega) | refine bt ?_ (by assumption)))); rintro e w8 ⟨rfl, hb8⟩; obtain ⟨hc8, hf8⟩ := bcell hb8; have hc8_0 := fun o => hc8 (w.heap.size) o (by first | assumption | omega | (simp; done) | (simp; omega)); have hf8_0 := fun o => hf8 (w.heap.size) o (by first | assumption | omega | (simp; done) | (simp; omega)); have hc8_1 := fun o => hc8 (w3.heap.size) o (by first | assumption | omega | (simp; done) | (simp; omega)); have hf8_1 := fun o => hf8 (w3.heap.size) o (by first | assumption | omega | (simp; done) | (simp; omega)); have hc8_2 := fun o => hc8 (w7.heap.size) o (by first | assumption | omega | (simp; done) | (simp; omega)); have hf8_2 := fun o => hf8 (w7.heap.size) o (by first | assumption | omega | (simp; done) | (simp; omega)); clear hc8 hf8; have hz8_0 : w.heap.size < w8.heap.size := (by first | exact sz1 hb8 | exact sz2 hb8 | exact sz3 hb8 | (have := hb8.size; (try simp only [World.size_alloc] at this); omega)); have hz8_1 : w3.heap.size < w8.heap.size := (by first | exact sz1 hb8 | exact sz2 hb8 | exact sz3 hb8 | (have := hb8.size; (try simp only [World.size_alloc] at this); omega)); have hz8_2 : w7.heap.size < w8.heap.size := (by first | exact sz1 hb8 | exact sz2 hb8 | exact sz3 hb8 | (have := hb8.size; (try simp only [World.size_alloc, World.size_drew] at this); omega)))
      | (go_at_call 29; (with_reducible refine (C7.out _ ?_ ?_ ?_).mono ?_); (· exact HH.out.later (by with_reducible repeat (first | exact Below.refl _ _ | assumption | refine ba ?_ | refine bd ?_ | refine bdn ?_ _ | refine bset ?_ (by omega) | refine bt ?_ (by assumption)))); (· exact HT.out.later (by with_reducible repeat (first | exact Below.refl _ _ | assumption | refine ba ?_ | refine bd ?_ | refine bdn ?_ _ | refine bset ?_ (by omega) | refine bt ?_ (by assumption)))); (· exact HS.out.later (by with_reducible repeat (first | exact Below.refl _ _ | assumption | refine ba ?_ | refine bd ?_ | refine bdn ?_ _ | refine bset ?_ (by omega) | refine bt ?_ (by assumption)))); rintro e w9 ⟨rfl, hb9⟩; obtain ⟨hc9, hf9⟩ := bcell hb9; have hc9_0 := fun o => hc9 (w.heap.size) o (by first | assumption | omega | (simp; done) | (simp; omega)); have hf9_0 := fun o => hf9 (w.heap.size) o (by first | assumption | omega | (simp; done) | (simp; omega)); have hc9_1 := fun o => hc9 (w3.heap.size) o (by first | assumption | omega | (simp; done) | (simp; omega)); have hf9_1 := fun o => hf9 (w3.heap.size) o (by first | assumption | omega | (simp; done) | (simp; omega)); have hc9_2 := fun o => hc9 (w7.heap.size) o (by first | assumption | omega | (simp; done) | (simp; omega)); have hf9_2 := fun o => hf9 (w7.heap.size) o (by first | assumption | omega | (simp; done) | (simp; omega)); have hc9_3 := fun o => hc9 (w8.heap.size) o (by first | assumption | omega | (simp; done) | (simp; omega)); have hf9_3 := fun o => hf9 (w8.heap.size) o (by first | assumption | omega | (simp; done) | (simp; omega)); clear hc9 hf9; have hz9_0 : w.heap.size < w9.heap.size := (by first | exact sz1 hb9 | exact sz2 hb9 | exact sz3 hb9 | (have := hb9.size; (try simp only [World.size_alloc] at this); omega)); have hz9_1 : w3.heap.size < w9.heap.size := (by first | exact sz1 hb9 | exact sz2 hb9 | exact sz3 hb9 | (have := hb9.size; (try simp only [World.size_alloc] at this); omega)); have hz9_2 : w7.heap.size < w9.heap.size := (by first | exact sz1 hb9 | exact sz2 hb9 | exact sz3 hb9 | (have := hb9.size; (try simp only [World.size_alloc] at this); omega)); have hz9_3 : w8.heap.size < w9.heap.size := (by first | exact sz1 hb9 | exact sz2 hb9 | exact sz3 hb9 | (have := hb9.size; (try simp only [World.size_alloc, World.size_drew] at this); omega))))
    go_cut [161] from 145 to 161 (fun s wx => s = .bool false ∧ wx = w9)
    case first =>
      rcases HX2.out with h1 | ⟨h1, h2⟩ | ⟨h1, h2, h3⟩
      · have e1 : (x.off == v.off) = false := by simpa using h1
        clear h1
        go_wp2
        go_meet
        exact ⟨rfl, rfl⟩
      · have e0 : (x.off == v.off) = true := by simpa using h1
        have e1 : (x.save == v.save) = false := by simpa using h2
        clear h1 h2
        go_wp2
        go_meet
        exact ⟨rfl, rfl⟩
      · have e0 : (x.off == v.off) = true := by simpa using h1
        have e2 : (x.save == v.save) = true := by simpa using h2
        have e1 := str_ne h3
        clear h1 h2 h3
        go_wp2
        go_meet
        exact ⟨rfl, rfl⟩
    case rest =>
      obtain ⟨rfl, rfl⟩ := hcut
      go_wp2
      go_ret
      exact ⟨rfl, by with_reducible repeat (first | exact Below.refl _ _ | assumption | refine ba ?_ | refine bd ?_ | refine bdn ?_ _ | refine bset ?_ (by omega) | refine bt ?_ (by assumption))⟩
set_option maxRecDepth 100000 in
set_option maxHeartbeats 12800000 in
theorem betw_tt {w : World} {r : Value} {l : List RuleV} (hr : Holds w r l) (e : EraV) (he : e.Fit) (t other : Int) (ht : Tab w) (hst : Sta w) (hF : fitsB l e = true) (h1 : ¬ t < -1096193779200) (h2 : ¬ 971890963199 < t) (h3 : ¬ other < -1096193779200) (h4 : ¬ 971890963199 < other) (hR : Er.rightB e = true) (n p : Int) (hN : nextV l e t = (n, true)) (hP : prevV l e t = (p, true)) :
    Calls Tryz.prog 6 #[r, .agg e.cells.toArray, .int .i64 t, .int .i64 other] w fun x w' => x = .returned (.bool true) ∧ Below w.heap.size w w' := by
  have cf := fun W (h : Holds W r l) => fits h e he
  have HH := Lib.hid hr
  have HT := Lib.hid ht
  have HS := Lib.hid hst
  have Cl := Lib.hid lives
  obtain ⟨hs, hl, hc⟩ := fits_facts hF
  rw [hF] at cf
  unfold EraV.cells at cf
  have Cf := Lib.hid cf
  have cA : ∀ s v, AV l e s = v → ∀ W, Holds W r l → Tab W → Calls Tryz.prog 25 #[r, .agg #[.int .i64 e.off, .int .i64 e.kind, .int .i64 e.save, .string e.rules, .string e.format, .bool e.u.has, .int .i64 e.u.year, .int .i64 e.u.month, .int .i64 e.u.kind, .int .i64 e.u.week, .int .i64 e.u.day, .int .i64 e.u.sec, .int .i64 e.u.base], .int .i64 s] W fun z w' => z = .returned (.tuple #[.agg #[.int .i64 v.off, .int .i64 v.save, .string v.abbr], .int .i64 0]) ∧ Below W.heap.size W w' := fun s v hv W h ht => by
    have := Frc.At h e he s ht hs hl
    rw [at_right hR, hv] at this
    exact this
  have cN : ∀ s n k, nextV l e s = (n, k) → ∀ W, Holds W r l → Tab W → Sta W → Calls Tryz.prog 27 #[r, .agg #[.int .i64 e.off, .int .i64 e.kind, .int .i64 e.save, .string e.rules, .string e.format, .bool e.u.has, .int .i64 e.u.year, .int .i64 e.u.month, .int .i64 e.u.kind, .int .i64 e.u.week, .int .i64 e.u.day, .int .i64 e.u.sec, .int .i64 e.u.base], .int .i64 s] W fun z w' => z = .returned (.tuple #[.int .i64 n, .bool k]) ∧ Below W.heap.size W w' := fun s n k hv W h ht hst => by
    have := Frc.Next h e he s ht hst hs hl
    rw [hv] at this
    exact this
  have cP : ∀ s n k, prevV l e s = (n, k) → ∀ W, Holds W r l → Tab W → Sta W → Calls Tryz.prog 29 #[r, .agg #[.int .i64 e.off, .int .i64 e.kind, .int .i64 e.save, .string e.rules, .string e.format, .bool e.u.has, .int .i64 e.u.year, .int .i64 e.u.month, .int .i64 e.u.kind, .int .i64 e.u.week, .int .i64 e.u.day, .int .i64 e.u.sec, .int .i64 e.u.base], .int .i64 s] W fun z w' => z = .returned (.tuple #[.int .i64 n, .bool k]) ∧ Below W.heap.size W w' := fun s n k hv W h ht hst => by
    have := Frc.Prev h e he s ht hst hs hl
    rw [hv] at this
    exact this
  obtain ⟨v, hv⟩ : ∃ v, AV l e t = v := ⟨_, rfl⟩
  obtain ⟨u, hu⟩ : ∃ u, AV l e other = u := ⟨_, rfl⟩
  have hE : other < n → p ≤ other → u = v := fun ho hp => by
    rw [← hu, ← hv]
    exact elseB hc hR (by omega) (by omega) (by omega) (by omega) (fun n' hn => by rw [hN] at hn; cases hn; exact ho) (fun p' hn => by rw [hP] at hn; cases hn; exact hp)
  obtain ⟨p0, cap, rfl⟩ := hr.form
  have c1 : ∀ W, Holds W (.slice p0 l.length cap) l → Tab W → Calls Tryz.prog 25 #[.slice p0 l.length cap, .agg #[.int .i64 e.off, .int .i64 e.kind, .int .i64 e.save, .string e.rules, .string e.format, .bool e.u.has, .int .i64 e.u.year, .int .i64 e.u.month, .int .i64 e.u.kind, .int .i64 e.u.week, .int .i64 e.u.day, .int .i64 e.u.sec, .int .i64 e.u.base], .int .i64 t] W fun z w' => z = .returned (.tuple #[.agg #[.int .i64 v.off, .int .i64 v.save, .string v.abbr], .int .i64 0]) ∧ Below W.heap.size W w' := fun W h ht => cA t v hv W h ht
  have c2 : ∀ W, Holds W (.slice p0 l.length cap) l → Tab W → Sta W → Calls Tryz.prog 27 #[.slice p0 l.length cap, .agg #[.int .i64 e.off, .int .i64 e.kind, .int .i64 e.save, .string e.rules, .string e.format, .bool e.u.has, .int .i64 e.u.year, .int .i64 e.u.month, .int .i64 e.u.kind, .int .i64 e.u.week, .int .i64 e.u.day, .int .i64 e.u.sec, .int .i64 e.u.base], .int .i64 t] W fun z w' => z = .returned (.tuple #[.int .i64 n, .bool true]) ∧ Below W.heap.size W w' := fun W h ht hst => cN t n true hN W h ht hst
  have c3 : ∀ W, Holds W (.slice p0 l.length cap) l → Tab W → Sta W → Calls Tryz.prog 29 #[.slice p0 l.length cap, .agg #[.int .i64 e.off, .int .i64 e.kind, .int .i64 e.save, .string e.rules, .string e.format, .bool e.u.has, .int .i64 e.u.year, .int .i64 e.u.month, .int .i64 e.u.kind, .int .i64 e.u.week, .int .i64 e.u.day, .int .i64 e.u.sec, .int .i64 e.u.base], .int .i64 t] W fun z w' => z = .returned (.tuple #[.int .i64 p, .bool true]) ∧ Below W.heap.size W w' := fun W h ht hst => cP t p true hP W h ht hst
  have c4 : ∀ W, Holds W (.slice p0 l.length cap) l → Tab W → Calls Tryz.prog 25 #[.slice p0 l.length cap, .agg #[.int .i64 e.off, .int .i64 e.kind, .int .i64 e.save, .string e.rules, .string e.format, .bool e.u.has, .int .i64 e.u.year, .int .i64 e.u.month, .int .i64 e.u.kind, .int .i64 e.u.week, .int .i64 e.u.day, .int .i64 e.u.sec, .int .i64 e.u.base], .int .i64 other] W fun z w' => z = .returned (.tuple #[.agg #[.int .i64 u.off, .int .i64 u.save, .string u.abbr], .int .i64 0]) ∧ Below W.heap.size W w' := fun W h ht => cA other u hu W h ht
  obtain ⟨gr, g1, g2, g3, g4⟩ := nextB hc hR (by omega) (by omega) hN
  obtain ⟨x, hx⟩ : ∃ x, AV l e n = x := ⟨_, rfl⟩
  rw [hx, hv] at g2
  rw [hv] at g3
  have hx2 := ne_ways g2
  have hw1 : wrap64 (n - 1) = n - 1 := by unfold wrap64; omega
  have hnt : ¬ n ≤ t := by omega
  have c5 : ∀ W, Holds W (.slice p0 l.length cap) l → Tab W → Calls Tryz.prog 25 #[.slice p0 l.length cap, .agg #[.int .i64 e.off, .int .i64 e.kind, .int .i64 e.save, .string e.rules, .string e.format, .bool e.u.has, .int .i64 e.u.year, .int .i64 e.u.month, .int .i64 e.u.kind, .int .i64 e.u.week, .int .i64 e.u.day, .int .i64 e.u.sec, .int .i64 e.u.base], .int .i64 n] W fun z w' => z = .returned (.tuple #[.agg #[.int .i64 x.off, .int .i64 x.save, .string x.abbr], .int .i64 0]) ∧ Below W.heap.size W w' := fun W h ht => cA n x hx W h ht
  have c6 : ∀ W, Holds W (.slice p0 l.length cap) l → Tab W → Calls Tryz.prog 25 #[.slice p0 l.length cap, .agg #[.int .i64 e.off, .int .i64 e.kind, .int .i64 e.save, .string e.rules, .string e.format, .bool e.u.has, .int .i64 e.u.year, .int .i64 e.u.month, .int .i64 e.u.kind, .int .i64 e.u.week, .int .i64 e.u.day, .int .i64 e.u.sec, .int .i64 e.u.base], .int .i64 (n - 1)] W fun z w' => z = .returned (.tuple #[.agg #[.int .i64 v.off, .int .i64 v.save, .string v.abbr], .int .i64 0]) ∧ Below W.heap.size W w' := fun W h ht => cA (n - 1) v g3 W h ht
  have c7 : ∀ W, Holds W (.slice p0 l.length cap) l → Tab W → Sta W → Calls Tryz.prog 29 #[.slice p0 l.length cap, .agg #[.int .i64 e.off, .int .i64 e.kind, .int .i64 e.save, .string e.rules, .string e.format, .bool e.u.has, .int .i64 e.u.year, .int .i64 e.u.month, .int .i64 e.u.kind, .int .i64 e.u.week, .int .i64 e.u.day, .int .i64 e.u.sec, .int .i64 e.u.base], .int .i64 n] W fun z w' => z = .returned (.tuple #[.int .i64 n, .bool true]) ∧ Below W.heap.size W w' := fun W h ht hst => cP n n true g4 W h ht hst
  obtain ⟨qr, q1, q2, q3, q4⟩ := prevB hc hR (by omega) (by omega) hP
  obtain ⟨y, hy⟩ : ∃ y, AV l e (p - 1) = y := ⟨_, rfl⟩
  rw [hy, hv] at q2
  rw [hv] at q3
  have hy2 := ne_ways q2
  have hw2 : wrap64 (p - 1) = p - 1 := by unfold wrap64; omega
  have hpt : ¬ t < p := by omega
  have c8 : ∀ W, Holds W (.slice p0 l.length cap) l → Tab W → Calls Tryz.prog 25 #[.slice p0 l.length cap, .agg #[.int .i64 e.off, .int .i64 e.kind, .int .i64 e.save, .string e.rules, .string e.format, .bool e.u.has, .int .i64 e.u.year, .int .i64 e.u.month, .int .i64 e.u.kind, .int .i64 e.u.week, .int .i64 e.u.day, .int .i64 e.u.sec, .int .i64 e.u.base], .int .i64 (p - 1)] W fun z w' => z = .returned (.tuple #[.agg #[.int .i64 y.off, .int .i64 y.save, .string y.abbr], .int .i64 0]) ∧ Below W.heap.size W w' := fun W h ht => cA (p - 1) y hy W h ht
  have c9 : ∀ W, Holds W (.slice p0 l.length cap) l → Tab W → Calls Tryz.prog 25 #[.slice p0 l.length cap, .agg #[.int .i64 e.off, .int .i64 e.kind, .int .i64 e.save, .string e.rules, .string e.format, .bool e.u.has, .int .i64 e.u.year, .int .i64 e.u.month, .int .i64 e.u.kind, .int .i64 e.u.week, .int .i64 e.u.day, .int .i64 e.u.sec, .int .i64 e.u.base], .int .i64 p] W fun z w' => z = .returned (.tuple #[.agg #[.int .i64 v.off, .int .i64 v.save, .string v.abbr], .int .i64 0]) ∧ Below W.heap.size W w' := fun W h ht => cA p v q3 W h ht
  have c10 : ∀ W, Holds W (.slice p0 l.length cap) l → Tab W → Sta W → Calls Tryz.prog 27 #[.slice p0 l.length cap, .agg #[.int .i64 e.off, .int .i64 e.kind, .int .i64 e.save, .string e.rules, .string e.format, .bool e.u.has, .int .i64 e.u.year, .int .i64 e.u.month, .int .i64 e.u.kind, .int .i64 e.u.week, .int .i64 e.u.day, .int .i64 e.u.sec, .int .i64 e.u.base], .int .i64 (p - 1)] W fun z w' => z = .returned (.tuple #[.int .i64 p, .bool true]) ∧ Below W.heap.size W w' := fun W h ht hst => cN (p - 1) p true q4 W h ht hst
  have C1 := Lib.hid c1
  have C2 := Lib.hid c2
  have C3 := Lib.hid c3
  have C4 := Lib.hid c4
  have C5 := Lib.hid c5
  have C6 := Lib.hid c6
  have C7 := Lib.hid c7
  have C8 := Lib.hid c8
  have C9 := Lib.hid c9
  have C10 := Lib.hid c10
  have HE := Lib.hid hE
  have HX2 := Lib.hid hx2
  have HY2 := Lib.hid hy2
  clear cf cA cN cP hr ht hst hF hs hl hc hR hN hP hv hu hE c1 c2 c3 c4 c5 c6 c7 c8 c9 c10 hx2 gr g1 g2 g3 g4 hx hy2 qr q1 q2 q3 q4 hy
  unfold EraV.cells
  generalize l.length = n0 at *
  go_enter Tryz.func6, Tryz.ntmps6
  go_upto_region 13 with (first
    | (go_at_call 24; (with_reducible refine (Cl.out _ ?_ ?_).mono ?_); (· exact HT.out.later (by with_reducible repeat (first | exact Below.refl _ _ | assumption | refine ba ?_ | refine bd ?_ | refine bdn ?_ _ | refine bset ?_ (by omega) | refine bt ?_ (by assumption)))); (· exact HS.out.later (by with_reducible repeat (first | exact Below.refl _ _ | assumption | refine ba ?_ | refine bd ?_ | refine bdn ?_ _ | refine bset ?_ (by omega) | refine bt ?_ (by assumption)))); rintro e w1 ⟨rfl, hb1⟩; obtain ⟨hc1, hf1⟩ := bcell hb1; have hc1_0 := fun o => hc1 (w.heap.size) o (by first | assumption | omega | (simp; done) | (simp; omega)); have hf1_0 := fun o => hf1 (w.heap.size) o (by first | assumption | omega | (simp; done) | (simp; omega)); clear hc1 hf1; have hz1_0 : w.heap.size < w1.heap.size := (by first | exact sz1 hb1 | exact sz2 hb1 | exact sz3 hb1 | (have := hb1.size; (try simp only [World.size_alloc, World.size_drew] at this); omega)))
    | (go_at_call 23; (with_reducible refine (Cf.out _ ?_).mono ?_); (· exact HH.out.later (by with_reducible repeat (first | exact Below.refl _ _ | assumption | refine ba ?_ | refine bd ?_ | refine bdn ?_ _ | refine bset ?_ (by omega) | refine bt ?_ (by assumption)))); rintro e w2 ⟨rfl, hb2⟩; obtain ⟨hc2, hf2⟩ := bcell hb2; have hc2_0 := fun o => hc2 (w.heap.size) o (by first | assumption | omega | (simp; done) | (simp; omega)); have hf2_0 := fun o => hf2 (w.heap.size) o (by first | assumption | omega | (simp; done) | (simp; omega)); clear hc2 hf2; have hz2_0 : w.heap.size < w2.heap.size := (by first | exact sz1 hb2 | exact sz2 hb2 | exact sz3 hb2 | (have := hb2.size; (try simp only [World.size_alloc, World.size_drew] at this); omega)))
    | (go_at_call 25; (with_reducible refine (C1.out _ ?_ ?_).mono ?_); (· exact HH.out.later (by with_reducible repeat (first | exact Below.refl _ _ | assumption | refine ba ?_ | refine bd ?_ | refine bdn ?_ _ | refine bset ?_ (by omega) | refine bt ?_ (by assumption)))); (· exact HT.out.later (by with_reducible repeat (first | exact Below.refl _ _ | assumption | refine ba ?_ | refine bd ?_ | refine bdn ?_ _ | refine bset ?_ (by omega) | refine bt ?_ (by assumption)))); rintro e w3 ⟨rfl, hb3⟩; obtain ⟨hc3, hf3⟩ := bcell hb3; have hc3_0 := fun o => hc3 (w.heap.size) o (by first | assumption | omega | (simp; done) | (simp; omega)); have hf3_0 := fun o => hf3 (w.heap.size) o (by first | assumption | omega | (simp; done) | (simp; omega)); clear hc3 hf3; have hz3_0 : w.heap.size < w3.heap.size := (by first | exact sz1 hb3 | exact sz2 hb3 | exact sz3 hb3 | (have := hb3.size; (try simp only [World.size_alloc, World.size_drew] at this); omega)))
    | (go_at_call 27; (with_reducible refine (C2.out _ ?_ ?_ ?_).mono ?_); (· exact HH.out.later (by with_reducible repeat (first | exact Below.refl _ _ | assumption | refine ba ?_ | refine bd ?_ | refine bdn ?_ _ | refine bset ?_ (by omega) | refine bt ?_ (by assumption)))); (· exact HT.out.later (by with_reducible repeat (first | exact Below.refl _ _ | assumption | refine ba ?_ | refine bd ?_ | refine bdn ?_ _ | refine bset ?_ (by omega) | refine bt ?_ (by assumption)))); (· exact HS.out.later (by with_reducible repeat (first | exact Below.refl _ _ | assumption | refine ba ?_ | refine bd ?_ | refine bdn ?_ _ | refine bset ?_ (by omega) | refine bt ?_ (by assumption)))); rintro e w4 ⟨rfl, hb4⟩; obtain ⟨hc4, hf4⟩ := bcell hb4; have hc4_0 := fun o => hc4 (w.heap.size) o (by first | assumption | omega | (simp; done) | (simp; omega)); have hf4_0 := fun o => hf4 (w.heap.size) o (by first | assumption | omega | (simp; done) | (simp; omega)); have hc4_1 := fun o => hc4 (w3.heap.size) o (by first | assumption | omega | (simp; done) | (simp; omega)); have hf4_1 := fun o => hf4 (w3.heap.size) o (by first | assumption | omega | (simp; done) | (simp; omega)); clear hc4 hf4; have hz4_0 : w.heap.size < w4.heap.size := (by first | exact sz1 hb4 | exact sz2 hb4 | exact sz3 hb4 | (have := hb4.size; (try simp only [World.size_alloc] at this); omega)); have hz4_1 : w3.heap.size < w4.heap.size := (by first | exact sz1 hb4 | exact sz2 hb4 | exact sz3 hb4 | (have := hb4.size; (try simp only [World.size_alloc, World.size_drew] at this); omega)))
    | (go_at_call 29; (with_reducible refine (C3.out _ ?_ ?_ ?_).mono ?_); (· exact HH.out.later (by with_reducible repeat (first | exact Below.refl _ _ | assumption | refine ba ?_ | refine bd ?_ | refine bdn ?_ _ | refine bset ?_ (by omega) | refine bt ?_ (by assumption)))); (· exact HT.out.later (by with_reducible repeat (first | exact Below.refl _ _ | assumption | refine ba ?_ | refine bd ?_ | refine bdn ?_ _ | refine bset ?_ (by omega) | refine bt ?_ (by assumption)))); (· exact HS.out.later (by with_reducible repeat (first | exact Below.refl _ _ | assumption | refine ba ?_ | refine bd ?_ | refine bdn ?_ _ | refine bset ?_ (by omega) | refine bt ?_ (by assumption)))); rintro e w5 ⟨rfl, hb5⟩; obtain ⟨hc5, hf5⟩ := bcell hb5; have hc5_0 := fun o => hc5 (w.heap.size) o (by first | assumption | omega | (simp; done) | (simp; omega)); have hf5_0 := fun o => hf5 (w.heap.size) o (by first | assumption | omega | (simp; done) | (simp; omega)); have hc5_1 := fun o => hc5 (w3.heap.size) o (by first | assumption | omega | (simp; done) | (simp; omega)); have hf5_1 := fun o => hf5 (w3.heap.size) o (by first | assumption | omega | (simp; done) | (simp; omega)); clear hc5 hf5; have hz5_0 : w.heap.size < w5.heap.size := (by first | exact sz1 hb5 | exact sz2 hb5 | exact sz3 hb5 | (have := hb5.size; (try simp only [World.size_alloc, World.size_drew] at this); omega)); have hz5_1 : w3.heap.size < w5.heap.size := (by first | exact sz1 hb5 | exact sz2 hb5 | exact sz3 hb5 | (have := hb5.size; (try simp only [World.size_alloc, World.size_drew] at this); omega)))
    | (go_at_call 25; (with_reducible refine (C4.out _ ?_ ?_).mono ?_); (· exact HH.out.later (by with_reducible repeat (first | exact Below.refl _ _ | assumption | refine ba ?_ | refine bd ?_ | refine bdn ?_ _ | refine bset ?_ (by omega) | refine bt ?_ (by assumption)))); (· exact HT.out.later (by with_reducible repeat (first | exact Below.refl _ _ | assumption | refine ba ?_ | refine bd ?_ | refine bdn ?_ _ | refine bset ?_ (by omega) | refine bt ?_ (by assumption)))); rintro e w6 ⟨rfl, hb6⟩; obtain ⟨hc6, hf6⟩ := bcell hb6; have hc6_0 := fun o => hc6 (w.heap.size) o (by first | assumption | omega | (simp; done) | (simp; omega)); have hf6_0 := fun o => hf6 (w.heap.size) o (by first | assumption | omega | (simp; done) | (simp; omega)); have hc6_1 := fun o => hc6 (w3.heap.size) o (by first | assumption | omega | (simp; done) | (simp; omega)); have hf6_1 := fun o => hf6 (w3.heap.size) o (by first | assumption | omega | (simp; done) | (simp; omega)); clear hc6 hf6; have hz6_0 : w.heap.size < w6.heap.size := (by first | exact sz1 hb6 | exact sz2 hb6 | exact sz3 hb6 | (have := hb6.size; (try simp only [World.size_alloc, World.size_drew] at this); omega)); have hz6_1 : w3.heap.size < w6.heap.size := (by first | exact sz1 hb6 | exact sz2 hb6 | exact sz3 hb6 | (have := hb6.size; (try simp only [World.size_alloc, World.size_drew] at this); omega))))
  go_cut [121] from 101 to 121 (fun s wx => s = .bool false ∧ wx = (w6.alloc (.cells #[.int .i64 u.off, .int .i64 u.save, .string u.abbr] 58)))
  case first =>
    by_cases ho : other < n
    · by_cases hp : p ≤ other
      · have hu := HE.out ho hp
        subst hu
        go_wp2
        go_meet
        exact ⟨rfl, rfl⟩
      · go_wp2
        go_meet
        exact ⟨rfl, rfl⟩
    · go_wp2
      go_meet
      exact ⟨rfl, rfl⟩
  case rest =>
    obtain ⟨rfl, rfl⟩ := hcut
    go_upto_region 19 with (first
      | (go_at_call 25; (with_reducible refine (C5.out _ ?_ ?_).mono ?_); (· exact HH.out.later (by with_reducible repeat (first | exact Below.refl _ _ | assumption | refine ba ?_ | refine bd ?_ | refine bdn ?_ _ | refine bset ?_ (by omega) | refine bt ?_ (by assumption)))); (· exact HT.out.later (by with_reducible repeat (first | exact Below.refl _ _ | assumption | refine ba ?_ | refine bd ?_ | refine bdn ?_ _ | refine bset ?_ (by omega) | refine bt ?_ (by assumption)))); rintro e w7 ⟨rfl, hb7⟩; obtain ⟨hc7, hf7⟩ := bcell hb7; have hc7_0 := fun o => hc7 (w.heap.size) o (by first | assumption | omega | (simp; done) | (simp; omega)); have hf7_0 := fun o => hf7 (w.heap.size) o (by first | assumption | omega | (simp; done) | (simp; omega)); have hc7_1 := fun o => hc7 (w3.heap.size) o (by first | assumption | omega | (simp; done) | (simp; omega)); have hf7_1 := fun o => hf7 (w3.heap.size) o (by first | assumption | omega | (simp; done) | (simp; omega)); clear hc7 hf7; have hz7_0 : w.heap.size < w7.heap.size := (by first | exact sz1 hb7 | exact sz2 hb7 | exact sz3 hb7 | (have := hb7.size; (try simp only [World.size_alloc] at this); omega)); have hz7_1 : w3.heap.size < w7.heap.size := (by first | exact sz1 hb7 | exact sz2 hb7 | exact sz3 hb7 | (have := hb7.size; (try simp only [World.size_alloc] at this); omega)))
      | (go_at_call 25; (with_reducible refine (C6.out _ ?_ ?_).mono ?_); (· exact HH.out.later (by with_reducible repeat (first | exact Below.refl _ _ | assumption | refine ba ?_ | refine bd ?_ | refine bdn ?_ _ | refine bset ?_ (by omega) | refine bt ?_ (by assumption)))); (· exact HT.out.later (by with_reducible repeat (first | exact Below.refl _ _ | assumption | refine ba ?_ | refine bd ?_ | refine bdn ?_ _ | refine bset ?_ (by omega) | refine bt ?_ (by assumption)))); rintro e w8 ⟨rfl, hb8⟩; obtain ⟨hc8, hf8⟩ := bcell hb8; have hc8_0 := fun o => hc8 (w.heap.size) o (by first | assumption | omega | (simp; done) | (simp; omega)); have hf8_0 := fun o => hf8 (w.heap.size) o (by first | assumption | omega | (simp; done) | (simp; omega)); have hc8_1 := fun o => hc8 (w3.heap.size) o (by first | assumption | omega | (simp; done) | (simp; omega)); have hf8_1 := fun o => hf8 (w3.heap.size) o (by first | assumption | omega | (simp; done) | (simp; omega)); have hc8_2 := fun o => hc8 (w7.heap.size) o (by first | assumption | omega | (simp; done) | (simp; omega)); have hf8_2 := fun o => hf8 (w7.heap.size) o (by first | assumption | omega | (simp; done) | (simp; omega)); clear hc8 hf8; have hz8_0 : w.heap.size < w8.heap.size := (by first | exact sz1 hb8 | exact sz2 hb8 | exact sz3 hb8 | (have := hb8.size; (try simp only [World.size_alloc] at this); omega)); have hz8_1 : w3.heap.size < w8.heap.size := (by first | exact sz1 hb8 | exact sz2 hb8 | exact sz3 hb8 | (have := hb8.size; (try simp only [World.size_alloc] at this); omega)); have hz8_2 : w7.heap.size < w8.heap.size := (by first | exact sz1 hb8 | exact sz2 hb8 | exact sz3 hb8 | (have := hb8.size; (try simp only [World.size_alloc, World.size_drew] at this); omega)))
      | (go_at_call 29; (with_reducible refine (C7.out _ ?_ ?_ ?_).mono ?_); (· exact HH.out.later (by with_reducible repeat (first | exact Below.refl _ _ | assumption | refine ba ?_ | refine bd ?_ | refine bdn ?_ _ | refine bset ?_ (by omega) | refine bt ?_ (by assumption)))); (· exact HT.out.later (by with_reducible repeat (first | exact Below.refl _ _ | assumption | refine ba ?_ | refine bd ?_ | refine bdn ?_ _ | refine bset ?_ (by omega) | refine bt ?_ (by assumption)))); (· exact HS.out.later (by with_reducible repeat (first | exact Below.refl _ _ | assumption | refine ba ?_ | refine bd ?_ | refine bdn ?_ _ | refine bset ?_ (by omega) | refine bt ?_ (by assumption)))); rintro e w9 ⟨rfl, hb9⟩; obtain ⟨hc9, hf9⟩ := bcell hb9; have hc9_0 := fun o => hc9 (w.heap.size) o (by first | assumption | omega | (simp; done) | (simp; omega)); have hf9_0 := fun o => hf9 (w.heap.size) o (by first | assumption | omega | (simp; done) | (simp; omega)); have hc9_1 := fun o => hc9 (w3.heap.size) o (by first | assumption | omega | (simp; done) | (simp; omega)); have hf9_1 := fun o => hf9 (w3.heap.size) o (by first | assumption | omega | (simp; done) | (simp; omega)); have hc9_2 := fun o => hc9 (w7.heap.size) o (by first | assumption | omega | (simp; done) | (simp; omega)); have hf9_2 := fun o => hf9 (w7.heap.size) o (by first | assumption | omega | (simp; done) | (simp; omega)); have hc9_3 := fun o => hc9 (w8.heap.size) o (by first | assumption | omega | (simp; done) | (simp; omega)); have hf9_3 := fun o => hf9 (w8.heap.size) o (by first | assumption | omega | (simp; done) | (simp; omega)); clear hc9 hf9; have hz9_0 : w.heap.size < w9.heap.size := (by first | exact sz1 hb9 | exact sz2 hb9 | exact sz3 hb9 | (have := hb9.size; (try simp only [World.size_alloc] at this); omega)); have hz9_1 : w3.heap.size < w9.heap.size := (by first | exact sz1 hb9 | exact sz2 hb9 | exact sz3 hb9 | (have := hb9.size; (try simp only [World.size_alloc] at this); omega)); have hz9_2 : w7.heap.size < w9.heap.size := (by first | exact sz1 hb9 | exact sz2 hb9 | exact sz3 hb9 | (have := hb9.size; (try simp only [World.size_alloc] at this); omega)); have hz9_3 : w8.heap.size < w9.heap.size := (by first | exact sz1 hb9 | exact sz2 hb9 | exact sz3 hb9 | (have := hb9.size; (try simp only [World.size_alloc, World.size_drew] at this); omega))))
    go_cut [161] from 145 to 161 (fun s wx => s = .bool false ∧ wx = w9)
    case first =>
      rcases HX2.out with h1 | ⟨h1, h2⟩ | ⟨h1, h2, h3⟩
      · have e1 : (x.off == v.off) = false := by simpa using h1
        clear h1
        go_wp2
        go_meet
        exact ⟨rfl, rfl⟩
      · have e0 : (x.off == v.off) = true := by simpa using h1
        have e1 : (x.save == v.save) = false := by simpa using h2
        clear h1 h2
        go_wp2
        go_meet
        exact ⟨rfl, rfl⟩
      · have e0 : (x.off == v.off) = true := by simpa using h1
        have e2 : (x.save == v.save) = true := by simpa using h2
        have e1 := str_ne h3
        clear h1 h2 h3
        go_wp2
        go_meet
        exact ⟨rfl, rfl⟩
    case rest =>
      obtain ⟨rfl, rfl⟩ := hcut
      go_upto_region 25 with (first
        | (go_at_call 25; (with_reducible refine (C8.out _ ?_ ?_).mono ?_); (· exact HH.out.later (by with_reducible repeat (first | exact Below.refl _ _ | assumption | refine ba ?_ | refine bd ?_ | refine bdn ?_ _ | refine bset ?_ (by omega) | refine bt ?_ (by assumption)))); (· exact HT.out.later (by with_reducible repeat (first | exact Below.refl _ _ | assumption | refine ba ?_ | refine bd ?_ | refine bdn ?_ _ | refine bset ?_ (by omega) | refine bt ?_ (by assumption)))); rintro e w10 ⟨rfl, hb10⟩; obtain ⟨hc10, hf10⟩ := bcell hb10; have hc10_0 := fun o => hc10 (w.heap.size) o (by first | assumption | omega | (simp; done) | (simp; omega)); have hf10_0 := fun o => hf10 (w.heap.size) o (by first | assumption | omega | (simp; done) | (simp; omega)); have hc10_1 := fun o => hc10 (w3.heap.size) o (by first | assumption | omega | (simp; done) | (simp; omega)); have hf10_1 := fun o => hf10 (w3.heap.size) o (by first | assumption | omega | (simp; done) | (simp; omega)); clear hc10 hf10; have hz10_0 : w.heap.size < w10.heap.size := (by first | exact sz1 hb10 | exact sz2 hb10 | exact sz3 hb10 | (have := hb10.size; (try simp only [World.size_alloc, World.size_drew] at this); omega)); have hz10_1 : w3.heap.size < w10.heap.size := (by first | exact sz1 hb10 | exact sz2 hb10 | exact sz3 hb10 | (have := hb10.size; (try simp only [World.size_alloc, World.size_drew] at this); omega)))
        | (go_at_call 25; (with_reducible refine (C9.out _ ?_ ?_).mono ?_); (· exact HH.out.later (by with_reducible repeat (first | exact Below.refl _ _ | assumption | refine ba ?_ | refine bd ?_ | refine bdn ?_ _ | refine bset ?_ (by omega) | refine bt ?_ (by assumption)))); (· exact HT.out.later (by with_reducible repeat (first | exact Below.refl _ _ | assumption | refine ba ?_ | refine bd ?_ | refine bdn ?_ _ | refine bset ?_ (by omega) | refine bt ?_ (by assumption)))); rintro e w11 ⟨rfl, hb11⟩; obtain ⟨hc11, hf11⟩ := bcell hb11; have hc11_0 := fun o => hc11 (w.heap.size) o (by first | assumption | omega | (simp; done) | (simp; omega)); have hf11_0 := fun o => hf11 (w.heap.size) o (by first | assumption | omega | (simp; done) | (simp; omega)); have hc11_1 := fun o => hc11 (w3.heap.size) o (by first | assumption | omega | (simp; done) | (simp; omega)); have hf11_1 := fun o => hf11 (w3.heap.size) o (by first | assumption | omega | (simp; done) | (simp; omega)); have hc11_2 := fun o => hc11 (w10.heap.size) o (by first | assumption | omega | (simp; done) | (simp; omega)); have hf11_2 := fun o => hf11 (w10.heap.size) o (by first | assumption | omega | (simp; done) | (simp; omega)); clear hc11 hf11; have hz11_0 : w.heap.size < w11.heap.size := (by first | exact sz1 hb11 | exact sz2 hb11 | exact sz3 hb11 | (have := hb11.size; (try simp only [World.size_alloc] at this); omega)); have hz11_1 : w3.heap.size < w11.heap.size := (by first | exact sz1 hb11 | exact sz2 hb11 | exact sz3 hb11 | (have := hb11.size; (try simp only [World.size_alloc] at this); omega)); have hz11_2 : w10.heap.size < w11.heap.size := (by first | exact sz1 hb11 | exact sz2 hb11 | exact sz3 hb11 | (have := hb11.size; (try simp only [World.size_alloc, World.size_drew] at this); omega)))
        | (go_at_call 27; (with_reducible refine (C10.out _ ?_ ?_ ?_).mono ?_); (· exact HH.out.later (by with_reducible repeat (first | exact Below.refl _ _ | assumption | refine ba ?_ | refine bd ?_ | refine bdn ?_ _ | refine bset ?_ (by omega) | refine bt ?_ (by assumption)))); (· exact HT.out.later (by with_reducible repeat (first | exact Below.refl _ _ | assumption | refine ba ?_ | refine bd ?_ | refine bdn ?_ _ | refine bset ?_ (by omega) | refine bt ?_ (by assumption)))); (· exact HS.out.later (by with_reducible repeat (first | exact Below.refl _ _ | assumption | refine ba ?_ | refine bd ?_ | refine bdn ?_ _ | refine bset ?_ (by omega) | refine bt ?_ (by assumption)))); rintro e w12 ⟨rfl, hb12⟩; obtain ⟨hc12, hf12⟩ := bcell hb12; have hc12_0 := fun o => hc12 (w.heap.size) o (by first | assumption | omega | (simp; done) | (simp; omega)); have hf12_0 := fun o => hf12 (w.heap.size) o (by first | assumption | omega | (simp; done) | (simp; omega)); have hc12_1 := fun o => hc12 (w3.heap.size) o (by first | assumption | omega | (simp; done) | (simp; omega)); have hf12_1 := fun o => hf12 (w3.heap.size) o (by first | assumption | omega | (simp; done) | (simp; omega)); have hc12_2 := fun o => hc12 (w10.heap.size) o (by first | assumption | omega | (simp; done) | (simp; omega)); have hf12_2 := fun o => hf12 (w10.heap.size) o (by first | assumption | omega | (simp; done) | (simp; omega)); have hc12_3 := fun o => hc12 (w11.heap.size) o (by first | assumption | omega | (simp; done) | (simp; omega)); have hf12_3 := fun o => hf12 (w11.heap.size) o (by first | assumption | omega | (simp; done) | (simp; omega)); clear hc12 hf12; have hz12_0 : w.heap.size < w12.heap.size := (by first | exact sz1 hb12 | exact sz2 hb12 | exact sz3 hb12 | (have := hb12.size; (try simp only [World.size_alloc] at this); omega)); have hz12_1 : w3.heap.size < w12.heap.size := (by first | exact sz1 hb12 | exact sz2 hb12 | exact sz3 hb12 | (have := hb12.size; (try simp only [World.size_alloc] at this); omega)); have hz12_2 : w10.heap.size < w12.heap.size := (by first | exact sz1 hb12 | exact sz2 hb12 | exact sz3 hb12 | (have := hb12.size; (try simp only [World.size_alloc] at this); omega)); have hz12_3 : w11.heap.size < w12.heap.size := (by first | exact sz1 hb12 | exact sz2 hb12 | exact sz3 hb12 | (have := hb12.size; (try simp only [World.size_alloc, World.size_drew] at this); omega))))
      go_cut [202] from 186 to 202 (fun s wx => s = .bool false ∧ wx = w12)
      case first =>
        rcases HY2.out with h1 | ⟨h1, h2⟩ | ⟨h1, h2, h3⟩
        · have e1 : (y.off == v.off) = false := by simpa using h1
          clear h1
          go_wp2
          go_meet
          exact ⟨rfl, rfl⟩
        · have e0 : (y.off == v.off) = true := by simpa using h1
          have e1 : (y.save == v.save) = false := by simpa using h2
          clear h1 h2
          go_wp2
          go_meet
          exact ⟨rfl, rfl⟩
        · have e0 : (y.off == v.off) = true := by simpa using h1
          have e2 : (y.save == v.save) = true := by simpa using h2
          have e1 := str_ne h3
          clear h1 h2 h3
          go_wp2
          go_meet
          exact ⟨rfl, rfl⟩
      case rest =>
        obtain ⟨rfl, rfl⟩ := hcut
        go_wp2
        go_ret
        exact ⟨rfl, by with_reducible repeat (first | exact Below.refl _ _ | assumption | refine ba ?_ | refine bd ?_ | refine bdn ?_ _ | refine bset ?_ (by omega) | refine bt ?_ (by assumption))⟩
theorem between {w : World} {r : Value} {l : List RuleV} (hr : Holds w r l) (e : EraV) (he : e.Fit) (t other : Int) (ht : Tab w) (hst : Sta w) :
    Calls Tryz.prog 6 #[r, .agg e.cells.toArray, .int .i64 t, .int .i64 other] w fun x w' => x = .returned (.bool true) ∧ Below w.heap.size w w' := by
  cases hF : fitsB l e
  · exact betw0 hr e he t other ht hst (.inl hF)
  by_cases hq : -1096193779200 ≤ t ∧ t ≤ 971890963199 ∧ -1096193779200 ≤ other ∧ other ≤ 971890963199
  · cases hR : Er.rightB e
    · exact betw1 hr e he t other ht hst hF (by omega) (by omega) (by omega) (by omega) hR
    · obtain ⟨⟨n, k⟩, hN⟩ : ∃ q, nextV l e t = q := ⟨_, rfl⟩
      obtain ⟨⟨p, m⟩, hP⟩ : ∃ q, prevV l e t = q := ⟨_, rfl⟩
      cases k <;> cases m
      · exact betw_ff hr e he t other ht hst hF (by omega) (by omega) (by omega) (by omega) hR n p hN hP
      · exact betw_ft hr e he t other ht hst hF (by omega) (by omega) (by omega) (by omega) hR n p hN hP
      · exact betw_tf hr e he t other ht hst hF (by omega) (by omega) (by omega) (by omega) hR n p hN hP
      · exact betw_tt hr e he t other ht hst hF (by omega) (by omega) (by omega) (by omega) hR n p hN hP
  · exact betw0 hr e he t other ht hst (.inr ⟨hF, hq⟩)
theorem betweenW (v : Value) (l : List RuleV) (e : EraV) (t other : Int) (w : World) (hr : Holds w v l) (he : e.Fit) (_ : I64 t) (_ : I64 other) (ht : Tab w) (hst : Sta w) :
    Calls Tryz.prog 6 #[v, .agg e.cells.toArray, .int .i64 t, .int .i64 other] w fun x w' => x = .returned (.bool true) ∧ Below w.heap.size w w' := between hr e he t other ht hst
end L33
end Go.Proofs.YtkpjhgkmjcdobaaGreatDoor
