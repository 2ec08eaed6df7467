import Derived.Test.YtkpjhgkmjcdobaaGreatDoorUApartP
import Derived.Test.YtkpjhgkmjcdobaaGreatDoorULiveW
/-
  noontidelaw28.UntilApart: the walk.
-/
namespace Go.Proofs.YtkpjhgkmjcdobaaGreatDoor
open Go.RowKit NB Nxt
namespace L28
open Unt
set_option maxRecDepth 100000 in
set_option maxHeartbeats 6400000 in
theorem apart0 {w : World} {r v : Value} {l : List RuleV} {es : List EraV} (hr : Holds w r l) (name : ByteArray) (hnm : name.size ≤ 9223372036854775807) (h : HoldsE w v es) (ht : Tab w) (hq : Lgt.light l = false ∨ Zn.lightZ name es = false) :
    Calls Tryz.prog 4 #[r, .agg #[.string name, v]] w fun x w' => x = .returned (.bool true) ∧ Below w.heap.size w w' := by
  have c1 := fun W (h : Holds W r l) => Lgt.LightH h
  have c2 := fun W (h : HoldsE W v es) => Zn.LightZ h name hnm
  have clv := fun W h => L28.lives W h
  have HH := Lib.hid hr
  have HE := Lib.hid h
  have HT := Lib.hid ht
  have Clv := Lib.hid clv
  cases h1 : Lgt.light l
  all_goals
    rw [h1] at c1
    have C1 := Lib.hid c1
  · clear c1 c2 clv hr h ht h1 hq
    go_enter Tryz.func4, Tryz.ntmps4
    go_wp2_with (first
      | (go_at_call 11; (with_reducible refine (Clv.out _ ?_).mono ?_); (· exact HT.out.later (by repeat (first | (with_reducible exact Below.refl _ _) | (with_reducible assumption) | (with_reducible refine ba ?_) | (with_reducible refine bd ?_) | (with_reducible refine bdn ?_ _) | (with_reducible refine bset ?_ (by first | exact Nat.le_refl _ | omega | (simp; done) | (simp; omega))) | (with_reducible refine bt ?_ (by with_reducible assumption))))); rintro e w2 ⟨rfl, hb2⟩; obtain ⟨hc2, hf2⟩ := bcell hb2)
      | (go_at_call 9; (with_reducible refine (C1.out _ ?_).mono ?_); (· exact HH.out.later (by repeat (first | (with_reducible exact Below.refl _ _) | (with_reducible assumption) | (with_reducible refine ba ?_) | (with_reducible refine bd ?_) | (with_reducible refine bdn ?_ _) | (with_reducible refine bset ?_ (by first | exact Nat.le_refl _ | omega | (simp; done) | (simp; omega))) | (with_reducible refine bt ?_ (by with_reducible assumption))))); rintro e w1 ⟨rfl, hb1⟩; obtain ⟨hc1, hf1⟩ := bcell hb1))
    go_ret
    exact ⟨rfl, by repeat (first | (with_reducible exact Below.refl _ _) | (with_reducible assumption) | (with_reducible refine ba ?_) | (with_reducible refine bd ?_) | (with_reducible refine bdn ?_ _) | (with_reducible refine bset ?_ (by first | exact Nat.le_refl _ | omega | (simp; done) | (simp; omega))) | (with_reducible refine bt ?_ (by with_reducible assumption)))⟩
  · have h2 : Zn.lightZ name es = false := by
      rcases hq with hq | hq
      · rw [h1] at hq; cases hq
      · exact hq
    rw [h2] at c2
    have C2 := Lib.hid c2
    obtain ⟨p, cap, rfl⟩ := h.form
    clear c1 c2 clv hr h ht h1 hq h2
    generalize es.length = n at *
    go_enter Tryz.func4, Tryz.ntmps4
    go_wp2_with (first
      | (go_at_call 11; (with_reducible refine (Clv.out _ ?_).mono ?_); (· exact HT.out.later (by repeat (first | (with_reducible exact Below.refl _ _) | (with_reducible assumption) | (with_reducible refine ba ?_) | (with_reducible refine bd ?_) | (with_reducible refine bdn ?_ _) | (with_reducible refine bset ?_ (by first | exact Nat.le_refl _ | omega | (simp; done) | (simp; omega))) | (with_reducible refine bt ?_ (by with_reducible assumption))))); rintro e w2 ⟨rfl, hb2⟩; obtain ⟨hc2, hf2⟩ := bcell hb2; have hc2_0 := fun o => hc2 (w.heap.size) o (by first | assumption | omega | (simp; done) | (simp; omega)); have hf2_0 := fun o => hf2 (w.heap.size) o (by first | assumption | omega | (simp; done) | (simp; omega)); clear hc2 hf2; have hz2_0 : w.heap.size < w2.heap.size := (by first | exact sz1 hb2 | exact sz2 hb2 | exact sz3 hb2 | (have := hb2.size; (try simp only [World.size_alloc, World.size_drew] at this); omega)))
      | (go_at_call 9; (with_reducible refine (C1.out _ ?_).mono ?_); (· exact HH.out.later (by repeat (first | (with_reducible exact Below.refl _ _) | (with_reducible assumption) | (with_reducible refine ba ?_) | (with_reducible refine bd ?_) | (with_reducible refine bdn ?_ _) | (with_reducible refine bset ?_ (by first | exact Nat.le_refl _ | omega | (simp; done) | (simp; omega))) | (with_reducible refine bt ?_ (by with_reducible assumption))))); rintro e w1 ⟨rfl, hb1⟩; obtain ⟨hc1, hf1⟩ := bcell hb1; have hc1_0 := fun o => hc1 (w.heap.size) o (by first | assumption | omega | (simp; done) | (simp; omega)); have hf1_0 := fun o => hf1 (w.heap.size) o (by first | assumption | omega | (simp; done) | (simp; omega)); clear hc1 hf1; have hz1_0 : w.heap.size < w1.heap.size := (by first | exact sz1 hb1 | exact sz2 hb1 | exact sz3 hb1 | (have := hb1.size; (try simp only [World.size_alloc, World.size_drew] at this); omega)))
      | (go_at_call 10; (with_reducible refine (C2.out _ ?_).mono ?_); (· exact HE.out.later (by repeat (first | (with_reducible exact Below.refl _ _) | (with_reducible assumption) | (with_reducible refine ba ?_) | (with_reducible refine bd ?_) | (with_reducible refine bdn ?_ _) | (with_reducible refine bset ?_ (by first | exact Nat.le_refl _ | omega | (simp; done) | (simp; omega))) | (with_reducible refine bt ?_ (by with_reducible assumption))))); rintro e w3 ⟨rfl, hb3⟩; obtain ⟨hc3, hf3⟩ := bcell hb3))
    go_ret
    exact ⟨rfl, by repeat (first | (with_reducible exact Below.refl _ _) | (with_reducible assumption) | (with_reducible refine ba ?_) | (with_reducible refine bd ?_) | (with_reducible refine bdn ?_ _) | (with_reducible refine bset ?_ (by first | exact Nat.le_refl _ | omega | (simp; done) | (simp; omega))) | (with_reducible refine bt ?_ (by with_reducible assumption)))⟩
set_option maxRecDepth 100000 in
set_option maxHeartbeats 6400000 in
theorem apart1 {w : World} {r v : Value} {l : List RuleV} {es : List EraV} (hr : Holds w r l) (name : ByteArray) (hnm : name.size ≤ 9223372036854775807) (h : HoldsE w v es) (ht : Tab w) (h1 : Lgt.light l = true) (h2 : Zn.lightZ name es = true) (hc : (checkU l es).2 ≠ 0) :
    Calls Tryz.prog 4 #[r, .agg #[.string name, v]] w fun x w' => x = .returned (.bool true) ∧ Below w.heap.size w w' := by
  have hlen := lightZ_len h2
  have c1 := fun W (h : Holds W r l) => Lgt.LightH h
  have c2 := fun W (h : HoldsE W v es) => Zn.LightZ h name hnm
  have clv := fun W h => L28.lives W h
  have ce := fun W (h1 : Holds W r l) (h : HoldsE W v es) (ht : Tab W) => Zn.Ends h1 h name (by omega) ht
  have cc := fun W (h1 : Holds W r l) (h : HoldsE W v es) (ht : Tab W) => Unt.Check h1 h name (by omega) ht
  rw [h1] at c1
  rw [h2] at c2
  unfold Zn.EndsPost at ce
  obtain ⟨e1, s1, L, he, hcu, hD⟩ : ∃ (e1 s1 : Int) (L : List Int), Zn.endsR l es = L ∧ checkU l es = (e1, s1) ∧ ((e1 = -1 ∧ s1 = 4 ∧ Zn.endsE es = 4) ∨ ((s1 = 14 ∨ s1 = 15) ∧ 0 ≤ e1 ∧ e1 < (L.length : Int))) := by
    cases hz : Zn.zoneB es
    · obtain ⟨a, b, c⟩ := check_form (l := l) hz
      exact ⟨_, _, _, rfl, a, .inl ⟨rfl, rfl, b⟩⟩
    · obtain ⟨a, b, c⟩ := check_zone (l := l) hz
      rcases c with ⟨c, _⟩ | ⟨j, s, c, d, e⟩
      · rw [c] at hc; exact absurd rfl hc
      · exact ⟨_, _, _, b, c, .inr ⟨d, by omega, by omega⟩⟩
  rw [he] at ce
  rw [hcu] at cc
  simp only at cc
  generalize Zn.endsE es = ee at *
  obtain ⟨p, cap, rfl⟩ := h.form
  have HH := Lib.hid hr
  have HE := Lib.hid h
  have HT := Lib.hid ht
  have Clv := Lib.hid clv
  have C1 := Lib.hid c1
  have C2 := Lib.hid c2
  have Ce := Lib.hid ce
  have Cc := Lib.hid cc
  clear c1 c2 clv hr h ht h1 h2 hc ce cc he hcu
  generalize es.length = n at *
  rcases hD with ⟨rfl, rfl, rfl⟩ | ⟨hs, h0, h3⟩
  · go_enter Tryz.func4, Tryz.ntmps4
    go_wp2_with (first
      | (go_at_call 11; (with_reducible refine (Clv.out _ ?_).mono ?_); (· exact HT.out.later (by repeat (first | (with_reducible exact Below.refl _ _) | (with_reducible assumption) | (with_reducible refine ba ?_) | (with_reducible refine bd ?_) | (with_reducible refine bdn ?_ _) | (with_reducible refine bset ?_ (by first | exact Nat.le_refl _ | omega | (simp; done) | (simp; omega))) | (with_reducible refine bt ?_ (by with_reducible assumption))))); rintro e w2 ⟨rfl, hb2⟩; obtain ⟨hc2, hf2⟩ := bcell hb2; have hc2_0 := fun o => hc2 (w.heap.size) o (by first | assumption | omega | (simp; done) | (simp; omega)); have hf2_0 := fun o => hf2 (w.heap.size) o (by first | assumption | omega | (simp; done) | (simp; omega)); clear hc2 hf2; have hz2_0 : w.heap.size < w2.heap.size := (by first | exact sz1 hb2 | exact sz2 hb2 | exact sz3 hb2 | (have := hb2.size; (try simp only [World.size_alloc, World.size_drew] at this); omega)))
      | (go_at_call 9; (with_reducible refine (C1.out _ ?_).mono ?_); (· exact HH.out.later (by repeat (first | (with_reducible exact Below.refl _ _) | (with_reducible assumption) | (with_reducible refine ba ?_) | (with_reducible refine bd ?_) | (with_reducible refine bdn ?_ _) | (with_reducible refine bset ?_ (by first | exact Nat.le_refl _ | omega | (simp; done) | (simp; omega))) | (with_reducible refine bt ?_ (by with_reducible assumption))))); rintro e w1 ⟨rfl, hb1⟩; obtain ⟨hc1, hf1⟩ := bcell hb1; have hc1_0 := fun o => hc1 (w.heap.size) o (by first | assumption | omega | (simp; done) | (simp; omega)); have hf1_0 := fun o => hf1 (w.heap.size) o (by first | assumption | omega | (simp; done) | (simp; omega)); clear hc1 hf1; have hz1_0 : w.heap.size < w1.heap.size := (by first | exact sz1 hb1 | exact sz2 hb1 | exact sz3 hb1 | (have := hb1.size; (try simp only [World.size_alloc, World.size_drew] at this); omega)))
      | (go_at_call 10; (with_reducible refine (C2.out _ ?_).mono ?_); (· exact HE.out.later (by repeat (first | (with_reducible exact Below.refl _ _) | (with_reducible assumption) | (with_reducible refine ba ?_) | (with_reducible refine bd ?_) | (with_reducible refine bdn ?_ _) | (with_reducible refine bset ?_ (by first | exact Nat.le_refl _ | omega | (simp; done) | (simp; omega))) | (with_reducible refine bt ?_ (by with_reducible assumption))))); rintro e w3 ⟨rfl, hb3⟩; obtain ⟨hc3, hf3⟩ := bcell hb3; have hc3_0 := fun o => hc3 (w.heap.size) o (by first | assumption | omega | (simp; done) | (simp; omega)); have hf3_0 := fun o => hf3 (w.heap.size) o (by first | assumption | omega | (simp; done) | (simp; omega)); clear hc3 hf3; have hz3_0 : w.heap.size < w3.heap.size := (by first | exact sz1 hb3 | exact sz2 hb3 | exact sz3 hb3 | (have := hb3.size; (try simp only [World.size_alloc, World.size_drew] at this); omega)))
      | (go_at_call 16; (with_reducible refine (Ce.out _ ?_ ?_ ?_).mono ?_); (· exact HH.out.later (by repeat (first | (with_reducible exact Below.refl _ _) | (with_reducible assumption) | (with_reducible refine ba ?_) | (with_reducible refine bd ?_) | (with_reducible refine bdn ?_ _) | (with_reducible refine bset ?_ (by first | exact Nat.le_refl _ | omega | (simp; done) | (simp; omega))) | (with_reducible refine bt ?_ (by with_reducible assumption))))); (· exact HE.out.later (by repeat (first | (with_reducible exact Below.refl _ _) | (with_reducible assumption) | (with_reducible refine ba ?_) | (with_reducible refine bd ?_) | (with_reducible refine bdn ?_ _) | (with_reducible refine bset ?_ (by first | exact Nat.le_refl _ | omega | (simp; done) | (simp; omega))) | (with_reducible refine bt ?_ (by with_reducible assumption))))); (· exact HT.out.later (by repeat (first | (with_reducible exact Below.refl _ _) | (with_reducible assumption) | (with_reducible refine ba ?_) | (with_reducible refine bd ?_) | (with_reducible refine bdn ?_ _) | (with_reducible refine bset ?_ (by first | exact Nat.le_refl _ | omega | (simp; done) | (simp; omega))) | (with_reducible refine bt ?_ (by with_reducible assumption))))); rintro x w4 ⟨ev, rfl, hrow, hb4⟩; obtain ⟨hc4, hf4⟩ := bcell hb4; have hc4_0 := fun o => hc4 (w.heap.size) o (by first | assumption | omega | (simp; done) | (simp; omega)); have hf4_0 := fun o => hf4 (w.heap.size) o (by first | assumption | omega | (simp; done) | (simp; omega)); clear hc4 hf4; have hz4_0 : w.heap.size < w4.heap.size := (by first | exact sz1 hb4 | exact sz2 hb4 | exact sz3 hb4 | (have := hb4.size; (try simp only [World.size_alloc, World.size_drew] at this); omega)))
      | (go_at_call 18; (with_reducible refine (Cc.out _ ?_ ?_ ?_).mono ?_); (· exact HH.out.later (by repeat (first | (with_reducible exact Below.refl _ _) | (with_reducible assumption) | (with_reducible refine ba ?_) | (with_reducible refine bd ?_) | (with_reducible refine bdn ?_ _) | (with_reducible refine bset ?_ (by first | exact Nat.le_refl _ | omega | (simp; done) | (simp; omega))) | (with_reducible refine bt ?_ (by with_reducible assumption))))); (· exact HE.out.later (by repeat (first | (with_reducible exact Below.refl _ _) | (with_reducible assumption) | (with_reducible refine ba ?_) | (with_reducible refine bd ?_) | (with_reducible refine bdn ?_ _) | (with_reducible refine bset ?_ (by first | exact Nat.le_refl _ | omega | (simp; done) | (simp; omega))) | (with_reducible refine bt ?_ (by with_reducible assumption))))); (· exact HT.out.later (by repeat (first | (with_reducible exact Below.refl _ _) | (with_reducible assumption) | (with_reducible refine ba ?_) | (with_reducible refine bd ?_) | (with_reducible refine bdn ?_ _) | (with_reducible refine bset ?_ (by first | exact Nat.le_refl _ | omega | (simp; done) | (simp; omega))) | (with_reducible refine bt ?_ (by with_reducible assumption))))); rintro x w5 ⟨rfl, hb5⟩))
    go_ret
    exact ⟨rfl, by repeat (first | (with_reducible exact Below.refl _ _) | (with_reducible assumption) | (with_reducible refine ba ?_) | (with_reducible refine bd ?_) | (with_reducible refine bdn ?_ _) | (with_reducible refine bset ?_ (by first | exact Nat.le_refl _ | omega | (simp; done) | (simp; omega))) | (with_reducible refine bt ?_ (by with_reducible assumption)))⟩
  · generalize hm : L.length = m at *
    rcases hs with rfl | rfl
    all_goals
      go_enter Tryz.func4, Tryz.ntmps4
      go_wp2_with (first
        | (go_at_call 11; (with_reducible refine (Clv.out _ ?_).mono ?_); (· exact HT.out.later (by repeat (first | (with_reducible exact Below.refl _ _) | (with_reducible assumption) | (with_reducible refine ba ?_) | (with_reducible refine bd ?_) | (with_reducible refine bdn ?_ _) | (with_reducible refine bset ?_ (by first | exact Nat.le_refl _ | omega | (simp; done) | (simp; omega))) | (with_reducible refine bt ?_ (by with_reducible assumption))))); rintro e w2 ⟨rfl, hb2⟩; obtain ⟨hc2, hf2⟩ := bcell hb2; have hc2_0 := fun o => hc2 (w.heap.size) o (by first | assumption | omega | (simp; done) | (simp; omega)); have hf2_0 := fun o => hf2 (w.heap.size) o (by first | assumption | omega | (simp; done) | (simp; omega)); clear hc2 hf2; have hz2_0 : w.heap.size < w2.heap.size := (by first | exact sz1 hb2 | exact sz2 hb2 | exact sz3 hb2 | (have := hb2.size; (try simp only [World.size_alloc, World.size_drew] at this); omega)))
        | (go_at_call 9; (with_reducible refine (C1.out _ ?_).mono ?_); (· exact HH.out.later (by repeat (first | (with_reducible exact Below.refl _ _) | (with_reducible assumption) | (with_reducible refine ba ?_) | (with_reducible refine bd ?_) | (with_reducible refine bdn ?_ _) | (with_reducible refine bset ?_ (by first | exact Nat.le_refl _ | omega | (simp; done) | (simp; omega))) | (with_reducible refine bt ?_ (by with_reducible assumption))))); rintro e w1 ⟨rfl, hb1⟩; obtain ⟨hc1, hf1⟩ := bcell hb1; have hc1_0 := fun o => hc1 (w.heap.size) o (by first | assumption | omega | (simp; done) | (simp; omega)); have hf1_0 := fun o => hf1 (w.heap.size) o (by first | assumption | omega | (simp; done) | (simp; omega)); clear hc1 hf1; have hz1_0 : w.heap.size < w1.heap.size := (by first | exact sz1 hb1 | exact sz2 hb1 | exact sz3 hb1 | (have := hb1.size; (try simp only [World.size_alloc, World.size_drew] at this); omega)))
        | (go_at_call 10; (with_reducible refine (C2.out _ ?_).mono ?_); (· exact HE.out.later (by repeat (first | (with_reducible exact Below.refl _ _) | (with_reducible assumption) | (with_reducible refine ba ?_) | (with_reducible refine bd ?_) | (with_reducible refine bdn ?_ _) | (with_reducible refine bset ?_ (by first | exact Nat.le_refl _ | omega | (simp; done) | (simp; omega))) | (with_reducible refine bt ?_ (by with_reducible assumption))))); rintro e w3 ⟨rfl, hb3⟩; obtain ⟨hc3, hf3⟩ := bcell hb3; have hc3_0 := fun o => hc3 (w.heap.size) o (by first | assumption | omega | (simp; done) | (simp; omega)); have hf3_0 := fun o => hf3 (w.heap.size) o (by first | assumption | omega | (simp; done) | (simp; omega)); clear hc3 hf3; have hz3_0 : w.heap.size < w3.heap.size := (by first | exact sz1 hb3 | exact sz2 hb3 | exact sz3 hb3 | (have := hb3.size; (try simp only [World.size_alloc, World.size_drew] at this); omega)))
        | (go_at_call 16; (with_reducible refine (Ce.out _ ?_ ?_ ?_).mono ?_); (· exact HH.out.later (by repeat (first | (with_reducible exact Below.refl _ _) | (with_reducible assumption) | (with_reducible refine ba ?_) | (with_reducible refine bd ?_) | (with_reducible refine bdn ?_ _) | (with_reducible refine bset ?_ (by first | exact Nat.le_refl _ | omega | (simp; done) | (simp; omega))) | (with_reducible refine bt ?_ (by with_reducible assumption))))); (· exact HE.out.later (by repeat (first | (with_reducible exact Below.refl _ _) | (with_reducible assumption) | (with_reducible refine ba ?_) | (with_reducible refine bd ?_) | (with_reducible refine bdn ?_ _) | (with_reducible refine bset ?_ (by first | exact Nat.le_refl _ | omega | (simp; done) | (simp; omega))) | (with_reducible refine bt ?_ (by with_reducible assumption))))); (· exact HT.out.later (by repeat (first | (with_reducible exact Below.refl _ _) | (with_reducible assumption) | (with_reducible refine ba ?_) | (with_reducible refine bd ?_) | (with_reducible refine bdn ?_ _) | (with_reducible refine bset ?_ (by first | exact Nat.le_refl _ | omega | (simp; done) | (simp; omega))) | (with_reducible refine bt ?_ (by with_reducible assumption))))); rintro x w4 ⟨ev, rfl, hrow, hb4⟩; obtain ⟨rq, rcc, hrv⟩ := Grp.own_form hrow; subst hrv; obtain ⟨hc4, hf4⟩ := bcell hb4; have hc4_0 := fun o => hc4 (w.heap.size) o (by first | assumption | omega | (simp; done) | (simp; omega)); have hf4_0 := fun o => hf4 (w.heap.size) o (by first | assumption | omega | (simp; done) | (simp; omega)); clear hc4 hf4; have hz4_0 : w.heap.size < w4.heap.size := (by first | exact sz1 hb4 | exact sz2 hb4 | exact sz3 hb4 | (have := hb4.size; (try simp only [World.size_alloc, World.size_drew] at this); omega)))
        | (go_at_call 18; (with_reducible refine (Cc.out _ ?_ ?_ ?_).mono ?_); (· exact HH.out.later (by repeat (first | (with_reducible exact Below.refl _ _) | (with_reducible assumption) | (with_reducible refine ba ?_) | (with_reducible refine bd ?_) | (with_reducible refine bdn ?_ _) | (with_reducible refine bset ?_ (by first | exact Nat.le_refl _ | omega | (simp; done) | (simp; omega))) | (with_reducible refine bt ?_ (by with_reducible assumption))))); (· exact HE.out.later (by repeat (first | (with_reducible exact Below.refl _ _) | (with_reducible assumption) | (with_reducible refine ba ?_) | (with_reducible refine bd ?_) | (with_reducible refine bdn ?_ _) | (with_reducible refine bset ?_ (by first | exact Nat.le_refl _ | omega | (simp; done) | (simp; omega))) | (with_reducible refine bt ?_ (by with_reducible assumption))))); (· exact HT.out.later (by repeat (first | (with_reducible exact Below.refl _ _) | (with_reducible assumption) | (with_reducible refine ba ?_) | (with_reducible refine bd ?_) | (with_reducible refine bdn ?_ _) | (with_reducible refine bset ?_ (by first | exact Nat.le_refl _ | omega | (simp; done) | (simp; omega))) | (with_reducible refine bt ?_ (by with_reducible assumption))))); rintro x w5 ⟨rfl, hb5⟩))
      go_ret
      exact ⟨rfl, by repeat (first | (with_reducible exact Below.refl _ _) | (with_reducible assumption) | (with_reducible refine ba ?_) | (with_reducible refine bd ?_) | (with_reducible refine bdn ?_ _) | (with_reducible refine bset ?_ (by first | exact Nat.le_refl _ | omega | (simp; done) | (simp; omega))) | (with_reducible refine bt ?_ (by with_reducible assumption)))⟩
set_option maxRecDepth 100000 in
set_option maxHeartbeats 12800000 in
theorem apart2 {w : World} {r v : Value} {l : List RuleV} {es : List EraV} (hr : Holds w r l) (name : ByteArray) (hnm : name.size ≤ 9223372036854775807) (h : HoldsE w v es) (ht : Tab w) (h1 : Lgt.light l = true) (h2 : Zn.lightZ name es = true) (hc : (checkU l es).2 = 0) :
    Calls Tryz.prog 4 #[r, .agg #[.string name, v]] w fun x w' => x = .returned (.bool true) ∧ Below w.heap.size w w' := by
  have hlen := lightZ_len h2
  have hat := fun (k : Nat) (e : EraV) (he : es[k]? = some e) => h.at he
  have c1 := fun W (h : Holds W r l) => Lgt.LightH h
  have c2 := fun W (h : HoldsE W v es) => Zn.LightZ h name hnm
  have clv := fun W h => L28.lives W h
  have ce := fun W (h1 : Holds W r l) (h : HoldsE W v es) (ht : Tab W) => Zn.Ends h1 h name (by omega) ht
  have cc := fun W (h1 : Holds W r l) (h : HoldsE W v es) (ht : Tab W) => Unt.Check h1 h name (by omega) ht
  rw [h1] at c1
  rw [h2] at c2
  unfold Zn.EndsPost at ce
  cases hz : Zn.zoneB es
  · rw [(check_form (l := l) hz).1] at hc; cases hc
  obtain ⟨a1, a2, a3⟩ := check_zone (l := l) hz
  rcases a3 with ⟨hcu, hbad⟩ | ⟨j, s, c, d, _⟩
  rotate_left
  · rw [c] at hc; simp only at hc; omega
  rw [a1, a2] at ce
  rw [hcu] at cc
  simp only at cc
  have hel := ends_len (l := l) hz
  have hea := fun (i : Nat) (t : Int) ht => end_at (l := l) (i := i) (t := t) hz ht
  obtain ⟨L, hLL⟩ : ∃ L, L = Zn.endsL l es := ⟨_, rfl⟩
  rw [← hLL] at ce hel hea hbad
  -- what holds at each end
  have hend : ∀ (k : Nat) (t : Int), L[k]? = some t → (-3000000000000 ≤ t ∧ t ≤ 3000000000000) ∧ (0 < k → ∃ q, L[k - 1]? = some q ∧ 345600 ≤ t - q ∧ -3000000000000 ≤ q ∧ q ≤ 3000000000000) ∧ ∀ d : Nat, d < 2 → ∃ e, es[k + d]? = some e ∧ (e.kind = 2 → ∀ o ∈ All.inO l e.rules (t - 259200) (t + 259200) 20, Chn.instE l e.rules e.off o = (Chn.inst l e.rules e.off o, 0) ∧ (d = 0 → ¬ (t - 172800 < Chn.inst l e.rules e.off o ∧ Chn.inst l e.rules e.off o < t)) ∧ (d = 1 → ¬ (t < Chn.inst l e.rules e.off o ∧ Chn.inst l e.rules e.off o < t + 172800))) := by
    intro k t hk
    obtain ⟨e, f, he, hf, hRe, hRf, -, t0, t1⟩ := hea k t hk
    have hkl := (List.getElem?_eq_some_iff.1 hk).1
    obtain ⟨b1, b2, b3⟩ := ok_end (hbad k hkl) hk he hf
    refine ⟨⟨t0, t1⟩, fun h0 => ?_, fun d hd => ?_⟩
    · obtain ⟨q, hq⟩ : ∃ q, L[k - 1]? = some q := ⟨L[k - 1]'(by omega), by simp⟩
      obtain ⟨-, -, -, -, -, -, -, q0, q1⟩ := hea (k - 1) q hq
      exact ⟨q, hq, b1 h0 q hq, q0, q1⟩
    · rcases (by omega : d = 0 ∨ d = 1) with rfl | rfl
      · refine ⟨e, he, fun hk o ho => ?_⟩
        have := ok_occ hRe hk b2 ho
        exact ⟨this.1, fun _ => this.2, fun h => by cases h⟩
      · refine ⟨f, hf, fun hk o ho => ?_⟩
        have := ok_occ hRf hk b3 ho
        exact ⟨this.1, fun h => (by cases h), fun _ => this.2⟩
  obtain ⟨m, hm⟩ : ∃ m, m = L.length := ⟨_, rfl⟩
  rw [← hm] at ce hel
  have ci := fun W (h : Holds W r l) (rules : ByteArray) (t : Int) => All.In h rules (t - 259200) (t + 259200) 20 (by decide)
  have cn := fun W (h : Holds W r l) (rules : ByteArray) (off : Int) (o : OccV) => ChW.Instant h rules off o
  have hlo := fun (rules : ByteArray) (t : Int) => show (All.inO l rules (t - 259200) (t + 259200) 20).length ≤ 20 by
    unfold All.inO
    split
    · exact Occ.inL_len _ _ _ _ _
    · simp
  unfold All.RowPost at ci
  obtain ⟨p, cap, rfl⟩ := h.form
  obtain ⟨rp, rc, rfl⟩ := hr.form
  have HH := Lib.hid hr
  have HE := Lib.hid h
  have HT := Lib.hid ht
  have Clv := Lib.hid clv
  have C1 := Lib.hid c1
  have C2 := Lib.hid c2
  have Ce := Lib.hid ce
  have Cc := Lib.hid cc
  have Ci := Lib.hid ci
  have Cn := Lib.hid cn
  have Hlo := Lib.hid hlo
  have Hend := Lib.hid hend
  have Hat := Lib.hid hat
  have HM := Lib.hid hm
  have hmb : m ≤ 12 := by omega
  clear c1 c2 clv hr h ht h1 h2 hc ce cc hcu hbad hea hend hz hat a1 a2 hLL hm ci cn hlo
  generalize es.length = n at *
  obtain rfl : n = m + 1 := hel.symm
  clear hel
  generalize l.length = ln at *
  go_enter Tryz.func4, Tryz.ntmps4
  go_upto_region 12 with (first
    | (go_at_call 11; (with_reducible refine (Clv.out _ ?_).mono ?_); (· exact HT.out.later (by repeat (first | (with_reducible exact Below.refl _ _) | (with_reducible assumption) | (with_reducible refine ba ?_) | (with_reducible refine bd ?_) | (with_reducible refine bdn ?_ _) | (with_reducible refine bset ?_ (by first | exact Nat.le_refl _ | omega | (simp; done) | (simp; omega))) | (with_reducible refine bt ?_ (by with_reducible assumption))))); rintro e w2 ⟨rfl, hb2⟩; obtain ⟨hc2, hf2⟩ := bcell hb2; have hc2_0 := fun o => hc2 (w.heap.size) o (by first | assumption | omega | (simp; done) | (simp; omega)); have hf2_0 := fun o => hf2 (w.heap.size) o (by first | assumption | omega | (simp; done) | (simp; omega)); clear hc2 hf2; have hz2_0 : w.heap.size < w2.heap.size := (by first | exact sz1 hb2 | exact sz2 hb2 | exact sz3 hb2 | (have := hb2.size; (try simp only [World.size_alloc, World.size_drew] at this); omega)))
    | (go_at_call 9; (with_reducible refine (C1.out _ ?_).mono ?_); (· exact HH.out.later (by repeat (first | (with_reducible exact Below.refl _ _) | (with_reducible assumption) | (with_reducible refine ba ?_) | (with_reducible refine bd ?_) | (with_reducible refine bdn ?_ _) | (with_reducible refine bset ?_ (by first | exact Nat.le_refl _ | omega | (simp; done) | (simp; omega))) | (with_reducible refine bt ?_ (by with_reducible assumption))))); rintro e w1 ⟨rfl, hb1⟩; obtain ⟨hc1, hf1⟩ := bcell hb1; have hc1_0 := fun o => hc1 (w.heap.size) o (by first | assumption | omega | (simp; done) | (simp; omega)); have hf1_0 := fun o => hf1 (w.heap.size) o (by first | assumption | omega | (simp; done) | (simp; omega)); clear hc1 hf1; have hz1_0 : w.heap.size < w1.heap.size := (by first | exact sz1 hb1 | exact sz2 hb1 | exact sz3 hb1 | (have := hb1.size; (try simp only [World.size_alloc, World.size_drew] at this); omega)))
    | (go_at_call 10; (with_reducible refine (C2.out _ ?_).mono ?_); (· exact HE.out.later (by repeat (first | (with_reducible exact Below.refl _ _) | (with_reducible assumption) | (with_reducible refine ba ?_) | (with_reducible refine bd ?_) | (with_reducible refine bdn ?_ _) | (with_reducible refine bset ?_ (by first | exact Nat.le_refl _ | omega | (simp; done) | (simp; omega))) | (with_reducible refine bt ?_ (by with_reducible assumption))))); rintro e w3 ⟨rfl, hb3⟩; obtain ⟨hc3, hf3⟩ := bcell hb3; have hc3_0 := fun o => hc3 (w.heap.size) o (by first | assumption | omega | (simp; done) | (simp; omega)); have hf3_0 := fun o => hf3 (w.heap.size) o (by first | assumption | omega | (simp; done) | (simp; omega)); clear hc3 hf3; have hz3_0 : w.heap.size < w3.heap.size := (by first | exact sz1 hb3 | exact sz2 hb3 | exact sz3 hb3 | (have := hb3.size; (try simp only [World.size_alloc, World.size_drew] at this); omega)))
    | (go_at_call 16; (with_reducible refine (Ce.out _ ?_ ?_ ?_).mono ?_); (· exact HH.out.later (by repeat (first | (with_reducible exact Below.refl _ _) | (with_reducible assumption) | (with_reducible refine ba ?_) | (with_reducible refine bd ?_) | (with_reducible refine bdn ?_ _) | (with_reducible refine bset ?_ (by first | exact Nat.le_refl _ | omega | (simp; done) | (simp; omega))) | (with_reducible refine bt ?_ (by with_reducible assumption))))); (· exact HE.out.later (by repeat (first | (with_reducible exact Below.refl _ _) | (with_reducible assumption) | (with_reducible refine ba ?_) | (with_reducible refine bd ?_) | (with_reducible refine bdn ?_ _) | (with_reducible refine bset ?_ (by first | exact Nat.le_refl _ | omega | (simp; done) | (simp; omega))) | (with_reducible refine bt ?_ (by with_reducible assumption))))); (· exact HT.out.later (by repeat (first | (with_reducible exact Below.refl _ _) | (with_reducible assumption) | (with_reducible refine ba ?_) | (with_reducible refine bd ?_) | (with_reducible refine bdn ?_ _) | (with_reducible refine bset ?_ (by first | exact Nat.le_refl _ | omega | (simp; done) | (simp; omega))) | (with_reducible refine bt ?_ (by with_reducible assumption))))); rintro x w4 ⟨ev, rfl, hrow, hb4⟩; obtain ⟨rq, rcc, hrv⟩ := Grp.own_form hrow; subst hrv; obtain ⟨hc4, hf4⟩ := bcell hb4; have hc4_0 := fun o => hc4 (w.heap.size) o (by first | assumption | omega | (simp; done) | (simp; omega)); have hf4_0 := fun o => hf4 (w.heap.size) o (by first | assumption | omega | (simp; done) | (simp; omega)); clear hc4 hf4; have hz4_0 : w.heap.size < w4.heap.size := (by first | exact sz1 hb4 | exact sz2 hb4 | exact sz3 hb4 | (have := hb4.size; (try simp only [World.size_alloc, World.size_drew] at this); omega)))
    | (go_at_call 18; (with_reducible refine (Cc.out _ ?_ ?_ ?_).mono ?_); (· exact HH.out.later (by repeat (first | (with_reducible exact Below.refl _ _) | (with_reducible assumption) | (with_reducible refine ba ?_) | (with_reducible refine bd ?_) | (with_reducible refine bdn ?_ _) | (with_reducible refine bset ?_ (by first | exact Nat.le_refl _ | omega | (simp; done) | (simp; omega))) | (with_reducible refine bt ?_ (by with_reducible assumption))))); (· exact HE.out.later (by repeat (first | (with_reducible exact Below.refl _ _) | (with_reducible assumption) | (with_reducible refine ba ?_) | (with_reducible refine bd ?_) | (with_reducible refine bdn ?_ _) | (with_reducible refine bset ?_ (by first | exact Nat.le_refl _ | omega | (simp; done) | (simp; omega))) | (with_reducible refine bt ?_ (by with_reducible assumption))))); (· exact HT.out.later (by repeat (first | (with_reducible exact Below.refl _ _) | (with_reducible assumption) | (with_reducible refine ba ?_) | (with_reducible refine bd ?_) | (with_reducible refine bdn ?_ _) | (with_reducible refine bset ?_ (by first | exact Nat.le_refl _ | omega | (simp; done) | (simp; omega))) | (with_reducible refine bt ?_ (by with_reducible assumption))))); rintro x w5 ⟨rfl, hb5⟩; obtain ⟨hc5, hf5⟩ := bcell hb5; have hc5_0 := fun o => hc5 (w.heap.size) o (by first | assumption | omega | (simp; done) | (simp; omega)); have hf5_0 := fun o => hf5 (w.heap.size) o (by first | assumption | omega | (simp; done) | (simp; omega)); clear hc5 hf5; have hz5_0 : w.heap.size < w5.heap.size := (by first | exact sz1 hb5 | exact sz2 hb5 | exact sz3 hb5 | (have := hb5.size; (try simp only [World.size_alloc, World.size_drew] at this); omega))))
  -- LOOPS
  have kR : Box w5 w.heap.size #[.string name, .slice p (m + 1) cap] 33 := by repeat (first | (with_reducible assumption) | (with_reducible exact Box.new _ _ _) | (with_reducible refine Box.old ?_) | (with_reducible refine Box.drew ?_) | (with_reducible refine Box.drewN ?_ _) | (with_reducible refine Box.other ?_ (by first | assumption | omega | (simp; omega))) | (with_reducible refine Box.later ?_ (by with_reducible assumption)))
  have hW0 : Below w.heap.size w w5 := by repeat (first | (with_reducible exact Below.refl _ _) | (with_reducible assumption) | (with_reducible refine ba ?_) | (with_reducible refine bd ?_) | (with_reducible refine bdn ?_ _) | (with_reducible refine bset ?_ (by first | exact Nat.le_refl _ | omega | (simp; done) | (simp; omega))) | (with_reducible refine bt ?_ (by with_reducible assumption)))
  have hrow5 := Zn.own_later hrow hb5
  have hcell : 0 < m → ∃ g, rq = some ⟨g, 0, none⟩ ∧ g < w5.heap.size ∧ ∀ (j : Nat) (t : Int), L[j]? = some t → ∀ u, Below w5.heap.size w5 u → u.cell? ⟨g, j, none⟩ = some (.int .i64 t) := by
    intro h0
    obtain ⟨g, ⟨c1, hq⟩, _, l1, r1⟩ := Grp.own_cell (j := 0) hrow5 h0
    simp only [Value.slice.injEq] at hq
    exact ⟨g, hq.1, l1, fun j t ht u hu => (hu.cell (p := ⟨g, j, none⟩) l1).trans (r1 _ _ (by unfold Zn.ints; rw [List.getElem?_map, ht]; rfl))⟩
  have HB0 := Lib.hid hW0
  have HG := Lib.hid hcell
  have HK := Lib.hid kR
  clear hW0 hcell hrow hrow5 hb1 hb2 hb3 hb4 hb5 kR hc1_0 hf1_0 hc2_0 hf2_0 hc3_0 hf3_0 hc4_0 hf4_0 hc5_0 hf5_0
  go_loopw [86] (fun i wr => ∃ k : Nat, i = .int .i64 k ∧ k ≤ m ∧ Below w5.heap.size w5 wr) (fun i _ => m - (intOf i).toNat)
  case atStart => exact ⟨0, rfl, Nat.zero_le _, Below.refl _ _⟩
  case round =>
    obtain ⟨k, rfl, hk, hbel⟩ := hrel
    obtain ⟨V, rfl⟩ : ∃ V, V = wr := ⟨_, rfl⟩
    have hbx := HK.out.later hbel
    have z0 := hbx.cell
    have z1 := hbx.lt
    have HKV := Lib.hid hbx
    have HbVw := Lib.hid (HB0.out.trans (hbel.mono HB0.out.size))
    have Hbel := Lib.hid hbel
    clear hbx
    by_cases hlt : k < m
    · obtain ⟨g, rfl, hgl, hgc⟩ := HG.out (by omega)
      obtain ⟨t, ht⟩ : ∃ t, L[k]? = some t := ⟨L[k]'(by rw [← HM.out]; exact hlt), by simp⟩
      obtain ⟨⟨t0, t1⟩, hprev, hdd⟩ := Hend.out k t ht
      have x0 := hgc k t ht V hbel
      have hgV : g < V.heap.size := Nat.lt_of_lt_of_le hgl hbel.size
      have Hdd := Lib.hid hdd
      have hup : (0 < k ∧ ∃ q, V.cell? ⟨g, k - 1, none⟩ = some (.int .i64 q) ∧ 345600 ≤ t - q ∧ -3000000000000 ≤ q ∧ q ≤ 3000000000000) ∨ ¬ 0 < k := by
        by_cases h0 : 0 < k
        · obtain ⟨q, hq, b1, b2, b3⟩ := hprev h0
          exact .inl ⟨h0, q, hgc (k - 1) q hq V hbel, b1, b2, b3⟩
        · exact .inr h0
      clear hdd hprev hgc hbel ht
      have hmid : True := trivial
      rcases hup with ⟨h0, q, xq, b1, b2, b3⟩ | h0
      all_goals
        first
          | (have hkk : (0 : Int) < (k : Int) := by omega
             have hk1 : (k : Int) - 1 = ((k - 1 : Nat) : Int) := by omega)
          | have hkk : ¬ (0 : Int) < (k : Int) := by omega
        go_upto_region 17 with fail
        have y0 := x0
        have y1 := hgV
        go_loopw [11] (fun z wr => (z = .int .i64 (k : Int) ∨ z = .int .i64 ((k : Int) + 1) ∨ z = .int .i64 ((k : Int) + 2)) ∧ Below V.heap.size V wr) (fun z _ => ((k : Int) + 2 - intOf z).toNat)
        case atStart => exact ⟨.inl rfl, Below.refl _ _⟩
        case round =>
        obtain ⟨hz, hbel2⟩ := hrel
        obtain ⟨U, rfl⟩ : ∃ U, U = wr := ⟨_, rfl⟩
        have hbx := HKV.out.later hbel2
        replace z0 := hbx.cell
        replace z1 := hbx.lt
        have HbU := Lib.hid (HbVw.out.trans (hbel2.mono HbVw.out.size))
        have HbV := Lib.hid hbel2
        clear hbx
        rcases hz with rfl | rfl | rfl
        · -- the era 0
          obtain ⟨e, he, hee⟩ := Hdd.out 0 (by decide)
          replace he : es[k]? = some e := he
          obtain ⟨b, eo, cap', hq, hb, hcl⟩ := Hat.out k e he
          simp only [Value.slice.injEq] at hq
          obtain ⟨rfl, -, rfl⟩ := hq
          have hd : ∀ (j : Nat) (u : Value), e.cells[j]? = some u → U.cell? ⟨b, eo + k * 13 + j, none⟩ = some u := fun j u hu => (HbU.out.cell (p := ⟨b, eo + k * 13 + j, none⟩) hb).trans (hcl j u hu)
          have hbU : b < U.heap.size := Nat.lt_of_lt_of_le hb HbU.out.size
          obtain ⟨off, kind, save, rules, format, u⟩ := e
          unfold EraV.cells at hd
          simp only at hd hee
          have d0 := hd 0 _ rfl
          have d1 := hd 1 _ rfl
          have d2 := hd 2 _ rfl
          have d3 := hd 3 _ rfl
          have d4 := hd 4 _ rfl
          have d5 := hd 5 _ rfl
          have d6 := hd 6 _ rfl
          have d7 := hd 7 _ rfl
          have d8 := hd 8 _ rfl
          have d9 := hd 9 _ rfl
          have d10 := hd 10 _ rfl
          have d11 := hd 11 _ rfl
          have d12 := hd 12 _ rfl
          simp only [Nat.add_zero] at d0
          have Hee := Lib.hid hee
          clear hd hcl hee he hbel2
          by_cases hk2 : kind = 2
          · subst hk2
            have hee := Hee.out rfl
            have hlo := Hlo.out rules t
            have ci := fun W h => Ci.out W h rules t
            generalize All.inO l rules (t - 259200) (t + 259200) 20 = O at *
            have Ci1 := Lib.hid ci
            have Hee1 := Lib.hid hee
            clear ci hee Hee
            go_upto_region 22 with (go_at_call 21; (with_reducible refine (Ci1.out _ ?_).mono ?_); (· exact HH.out.later (bt HbU.out (by repeat (first | (with_reducible exact Below.refl _ _) | (with_reducible assumption) | (with_reducible refine ba ?_) | (with_reducible refine bd ?_) | (with_reducible refine bdn ?_ _) | (with_reducible refine bset ?_ (by first | exact Nat.le_refl _ | omega | (simp; done) | (simp; omega))) | (with_reducible refine bt ?_ (by with_reducible assumption)))))); rintro x W3 ⟨rv, rfl, hrow3, hb3⟩; obtain ⟨rq3, rc3, hrv3⟩ := Grp.own_form hrow3; subst hrv3)
            have kE : Box W3 U.heap.size #[.int .i64 off, .int .i64 2, .int .i64 save, .string rules, .string format, .bool u.has, .int .i64 u.year, .int .i64 u.month, .int .i64 u.kind, .int .i64 u.week, .int .i64 u.day, .int .i64 u.sec, .int .i64 u.base] 30 := (Box.new U _ _).later hb3
            have hW3 : Below V.heap.size V W3 := by have h := HbV.out; repeat (first | (with_reducible exact Below.refl _ _) | (with_reducible assumption) | (with_reducible refine ba ?_) | (with_reducible refine bd ?_) | (with_reducible refine bdn ?_ _) | (with_reducible refine bset ?_ (by first | exact Nat.le_refl _ | omega | (simp; done) | (simp; omega))) | (with_reducible refine bt ?_ (by with_reducible assumption)))
            obtain ⟨M, hM⟩ : ∃ M, M = O.length := ⟨_, rfl⟩
            rw [← hM] at hrow3 hlo ⊢
            have hcell3 : 0 < M → ∃ g, rq3 = some ⟨g, 0, none⟩ ∧ g < W3.heap.size ∧ ∀ (j : Nat) (x : OccV), O[j]? = some x → ∀ u, Below W3.heap.size W3 u → u.cell? ⟨g, j * 3, none⟩ = some (.int .i64 x.rule) ∧ u.cell? ⟨g, j * 3 + 1, none⟩ = some (.int .i64 x.year) ∧ u.cell? ⟨g, j * 3 + 2, none⟩ = some (.int .i64 x.nom) := by
              intro h0
              obtain ⟨g, ⟨c1, hq⟩, _, l1, r1⟩ := Grp.own_cell (j := 0) hrow3 h0
              simp only [Value.slice.injEq] at hq
              refine ⟨g, hq.1, l1, fun j x hx u hu => ⟨?_, ?_, ?_⟩⟩
              · exact (hu.cell (p := ⟨g, j * 3, none⟩) l1).trans (r1 _ _ (Grp.flat_at (f := OccV.cells) (sz := 3) (fun _ => rfl) O j 0 x _ hx rfl))
              · exact (hu.cell (p := ⟨g, j * 3 + 1, none⟩) l1).trans (r1 _ _ (Grp.flat_at (f := OccV.cells) (sz := 3) (fun _ => rfl) O j 1 x _ hx rfl))
              · exact (hu.cell (p := ⟨g, j * 3 + 2, none⟩) l1).trans (r1 _ _ (Grp.flat_at (f := OccV.cells) (sz := 3) (fun _ => rfl) O j 2 x _ hx rfl))
            have HV3 := Lib.hid hW3
            have HW3 := Lib.hid (HbVw.out.trans (hW3.mono HbVw.out.size))
            have HG3 := Lib.hid hcell3
            have HM3 := Lib.hid hM
            have HK3 := Lib.hid kE
            clear hW3 hcell3 hrow3 hM hb3 kE d0 d1 d2 d3 d4 d5 d6 d7 d8 d9 d10 d11 d12 hb hbU z0 z1 y0 y1
            go_loopw [128] (fun i wr => ∃ j : Nat, i = .int .i64 j ∧ j ≤ M ∧ Below W3.heap.size W3 wr) (fun i _ => M - (intOf i).toNat)
            case atStart => exact ⟨0, rfl, Nat.zero_le _, Below.refl _ _⟩
            case round =>
              obtain ⟨j, rfl, hj, hbel3⟩ := hrel
              have hbx := HK3.out.later hbel3
              have r0 := hbx.cell
              have u0 := hbx.lt
              have Hb3 := Lib.hid hbel3
              have HX3 := Lib.hid (HW3.out.trans (hbel3.mono HW3.out.size))
              have HY3 := Lib.hid (HV3.out.trans (hbel3.mono HV3.out.size))
              clear hbx
              by_cases hlt3 : j < M
              · obtain ⟨g3, rfl, hgl3, hgc3⟩ := HG3.out (by omega)
                obtain ⟨o, ho⟩ : ∃ o, O[j]? = some o := ⟨O[j]'(by rw [← HM3.out]; exact hlt3), by simp⟩
                obtain ⟨x0, x1, x2⟩ := hgc3 j o ho wr hbel3
                obtain ⟨hi1, hi2, hi3⟩ := Hee1.out o (List.mem_of_getElem? ho)
                have cn := fun W h => Cn.out W h rules off o
                rw [hi1] at cn
                simp only at cn
                generalize Chn.inst l rules off o = x at *
                unfold OccV.cells at cn
                have Cn1 := Lib.hid cn
                have hx : t ≤ x ∨ (x < t ∧ x ≤ t - 172800) := by have := hi2 trivial; omega
                clear cn hgc3 hbel3 ho hi1 hi2 hi3
                rcases hx with hx | ⟨hx, hx'⟩
                all_goals
                  go_wp2_with (first
                    | (go_at_call 22; (with_reducible refine (Cn1.out _ ?_).mono ?_); (· exact HH.out.later (bt HX3.out (by repeat (first | (with_reducible exact Below.refl _ _) | (with_reducible assumption) | (with_reducible refine ba ?_) | (with_reducible refine bd ?_) | (with_reducible refine bdn ?_ _) | (with_reducible refine bset ?_ (by first | exact Nat.le_refl _ | omega | (simp; done) | (simp; omega))) | (with_reducible refine bt ?_ (by with_reducible assumption)))))); rintro e w2 ⟨rfl, hb2⟩; obtain ⟨hc2, hf2⟩ := bcell hb2))
                  have hbel := Hb3.out
                  go_roundw
                  case rel => exact ⟨j + 1, by go_num, hlt3, by repeat (first | (with_reducible exact Below.refl _ _) | (with_reducible assumption) | (with_reducible refine ba ?_) | (with_reducible refine bd ?_) | (with_reducible refine bdn ?_ _) | (with_reducible refine bset ?_ (by first | exact Nat.le_refl _ | omega | (simp; done) | (simp; omega))) | (with_reducible refine bt ?_ (by with_reducible assumption)))⟩
                  case measure => simp [intOf]; omega
              · clear hbel3
                go_wp2
                have hbel := HY3.out
                go_roundw
                case rel => exact ⟨.inr (.inl rfl), by repeat (first | (with_reducible exact Below.refl _ _) | (with_reducible assumption) | (with_reducible refine ba ?_) | (with_reducible refine bd ?_) | (with_reducible refine bdn ?_ _) | (with_reducible refine bset ?_ (by first | exact Nat.le_refl _ | omega | (simp; done) | (simp; omega))) | (with_reducible refine bt ?_ (by with_reducible assumption)))⟩
                case measure => simp [intOf]; omega
          · go_wp2
            have hbel := HbV.out
            go_roundw
            case rel => exact ⟨.inr (.inl rfl), by repeat (first | (with_reducible exact Below.refl _ _) | (with_reducible assumption) | (with_reducible refine ba ?_) | (with_reducible refine bd ?_) | (with_reducible refine bdn ?_ _) | (with_reducible refine bset ?_ (by first | exact Nat.le_refl _ | omega | (simp; done) | (simp; omega))) | (with_reducible refine bt ?_ (by with_reducible assumption)))⟩
            case measure => simp [intOf]; omega
        · -- the era 1
          obtain ⟨e, he, hee⟩ := Hdd.out 1 (by decide)
          replace he : es[(k + 1)]? = some e := he
          obtain ⟨b, eo, cap', hq, hb, hcl⟩ := Hat.out (k + 1) e he
          simp only [Value.slice.injEq] at hq
          obtain ⟨rfl, -, rfl⟩ := hq
          have hd : ∀ (j : Nat) (u : Value), e.cells[j]? = some u → U.cell? ⟨b, eo + (k + 1) * 13 + j, none⟩ = some u := fun j u hu => (HbU.out.cell (p := ⟨b, eo + (k + 1) * 13 + j, none⟩) hb).trans (hcl j u hu)
          have hbU : b < U.heap.size := Nat.lt_of_lt_of_le hb HbU.out.size
          obtain ⟨off, kind, save, rules, format, u⟩ := e
          unfold EraV.cells at hd
          simp only at hd hee
          have d0 := hd 0 _ rfl
          have d1 := hd 1 _ rfl
          have d2 := hd 2 _ rfl
          have d3 := hd 3 _ rfl
          have d4 := hd 4 _ rfl
          have d5 := hd 5 _ rfl
          have d6 := hd 6 _ rfl
          have d7 := hd 7 _ rfl
          have d8 := hd 8 _ rfl
          have d9 := hd 9 _ rfl
          have d10 := hd 10 _ rfl
          have d11 := hd 11 _ rfl
          have d12 := hd 12 _ rfl
          simp only [Nat.add_zero] at d0
          have Hee := Lib.hid hee
          clear hd hcl hee he hbel2
          have q1 : ((k : Int) + 1 == (k : Int)) = false := by simp; omega
          have q2 : (k : Int) < (k : Int) + 1 := by omega
          by_cases hk2 : kind = 2
          · subst hk2
            have hee := Hee.out rfl
            have hlo := Hlo.out rules t
            have ci := fun W h => Ci.out W h rules t
            generalize All.inO l rules (t - 259200) (t + 259200) 20 = O at *
            have Ci1 := Lib.hid ci
            have Hee1 := Lib.hid hee
            clear ci hee Hee
            go_upto_region 22 with (go_at_call 21; (with_reducible refine (Ci1.out _ ?_).mono ?_); (· exact HH.out.later (bt HbU.out (by repeat (first | (with_reducible exact Below.refl _ _) | (with_reducible assumption) | (with_reducible refine ba ?_) | (with_reducible refine bd ?_) | (with_reducible refine bdn ?_ _) | (with_reducible refine bset ?_ (by first | exact Nat.le_refl _ | omega | (simp; done) | (simp; omega))) | (with_reducible refine bt ?_ (by with_reducible assumption)))))); rintro x W3 ⟨rv, rfl, hrow3, hb3⟩; obtain ⟨rq3, rc3, hrv3⟩ := Grp.own_form hrow3; subst hrv3)
            have kE : Box W3 U.heap.size #[.int .i64 off, .int .i64 2, .int .i64 save, .string rules, .string format, .bool u.has, .int .i64 u.year, .int .i64 u.month, .int .i64 u.kind, .int .i64 u.week, .int .i64 u.day, .int .i64 u.sec, .int .i64 u.base] 30 := (Box.new U _ _).later hb3
            have hW3 : Below V.heap.size V W3 := by have h := HbV.out; repeat (first | (with_reducible exact Below.refl _ _) | (with_reducible assumption) | (with_reducible refine ba ?_) | (with_reducible refine bd ?_) | (with_reducible refine bdn ?_ _) | (with_reducible refine bset ?_ (by first | exact Nat.le_refl _ | omega | (simp; done) | (simp; omega))) | (with_reducible refine bt ?_ (by with_reducible assumption)))
            obtain ⟨M, hM⟩ : ∃ M, M = O.length := ⟨_, rfl⟩
            rw [← hM] at hrow3 hlo ⊢
            have hcell3 : 0 < M → ∃ g, rq3 = some ⟨g, 0, none⟩ ∧ g < W3.heap.size ∧ ∀ (j : Nat) (x : OccV), O[j]? = some x → ∀ u, Below W3.heap.size W3 u → u.cell? ⟨g, j * 3, none⟩ = some (.int .i64 x.rule) ∧ u.cell? ⟨g, j * 3 + 1, none⟩ = some (.int .i64 x.year) ∧ u.cell? ⟨g, j * 3 + 2, none⟩ = some (.int .i64 x.nom) := by
              intro h0
              obtain ⟨g, ⟨c1, hq⟩, _, l1, r1⟩ := Grp.own_cell (j := 0) hrow3 h0
              simp only [Value.slice.injEq] at hq
              refine ⟨g, hq.1, l1, fun j x hx u hu => ⟨?_, ?_, ?_⟩⟩
              · exact (hu.cell (p := ⟨g, j * 3, none⟩) l1).trans (r1 _ _ (Grp.flat_at (f := OccV.cells) (sz := 3) (fun _ => rfl) O j 0 x _ hx rfl))
              · exact (hu.cell (p := ⟨g, j * 3 + 1, none⟩) l1).trans (r1 _ _ (Grp.flat_at (f := OccV.cells) (sz := 3) (fun _ => rfl) O j 1 x _ hx rfl))
              · exact (hu.cell (p := ⟨g, j * 3 + 2, none⟩) l1).trans (r1 _ _ (Grp.flat_at (f := OccV.cells) (sz := 3) (fun _ => rfl) O j 2 x _ hx rfl))
            have HV3 := Lib.hid hW3
            have HW3 := Lib.hid (HbVw.out.trans (hW3.mono HbVw.out.size))
            have HG3 := Lib.hid hcell3
            have HM3 := Lib.hid hM
            have HK3 := Lib.hid kE
            clear hW3 hcell3 hrow3 hM hb3 kE d0 d1 d2 d3 d4 d5 d6 d7 d8 d9 d10 d11 d12 hb hbU z0 z1 y0 y1
            go_loopw [128] (fun i wr => ∃ j : Nat, i = .int .i64 j ∧ j ≤ M ∧ Below W3.heap.size W3 wr) (fun i _ => M - (intOf i).toNat)
            case atStart => exact ⟨0, rfl, Nat.zero_le _, Below.refl _ _⟩
            case round =>
              obtain ⟨j, rfl, hj, hbel3⟩ := hrel
              have hbx := HK3.out.later hbel3
              have r0 := hbx.cell
              have u0 := hbx.lt
              have Hb3 := Lib.hid hbel3
              have HX3 := Lib.hid (HW3.out.trans (hbel3.mono HW3.out.size))
              have HY3 := Lib.hid (HV3.out.trans (hbel3.mono HV3.out.size))
              clear hbx
              by_cases hlt3 : j < M
              · obtain ⟨g3, rfl, hgl3, hgc3⟩ := HG3.out (by omega)
                obtain ⟨o, ho⟩ : ∃ o, O[j]? = some o := ⟨O[j]'(by rw [← HM3.out]; exact hlt3), by simp⟩
                obtain ⟨x0, x1, x2⟩ := hgc3 j o ho wr hbel3
                obtain ⟨hi1, hi2, hi3⟩ := Hee1.out o (List.mem_of_getElem? ho)
                have cn := fun W h => Cn.out W h rules off o
                rw [hi1] at cn
                simp only at cn
                generalize Chn.inst l rules off o = x at *
                unfold OccV.cells at cn
                have Cn1 := Lib.hid cn
                have hx : x ≤ t ∨ (t < x ∧ t + 172800 ≤ x) := by have := hi3 trivial; omega
                clear cn hgc3 hbel3 ho hi1 hi2 hi3
                rcases hx with hx | ⟨hx, hx'⟩
                all_goals
                  go_wp2_with (first
                    | (go_at_call 22; (with_reducible refine (Cn1.out _ ?_).mono ?_); (· exact HH.out.later (bt HX3.out (by repeat (first | (with_reducible exact Below.refl _ _) | (with_reducible assumption) | (with_reducible refine ba ?_) | (with_reducible refine bd ?_) | (with_reducible refine bdn ?_ _) | (with_reducible refine bset ?_ (by first | exact Nat.le_refl _ | omega | (simp; done) | (simp; omega))) | (with_reducible refine bt ?_ (by with_reducible assumption)))))); rintro e w2 ⟨rfl, hb2⟩; obtain ⟨hc2, hf2⟩ := bcell hb2))
                  have hbel := Hb3.out
                  go_roundw
                  case rel => exact ⟨j + 1, by go_num, hlt3, by repeat (first | (with_reducible exact Below.refl _ _) | (with_reducible assumption) | (with_reducible refine ba ?_) | (with_reducible refine bd ?_) | (with_reducible refine bdn ?_ _) | (with_reducible refine bset ?_ (by first | exact Nat.le_refl _ | omega | (simp; done) | (simp; omega))) | (with_reducible refine bt ?_ (by with_reducible assumption)))⟩
                  case measure => simp [intOf]; omega
              · clear hbel3
                go_wp2
                have hbel := HY3.out
                go_roundw
                case rel => exact ⟨.inr (.inr (by go_num)), by repeat (first | (with_reducible exact Below.refl _ _) | (with_reducible assumption) | (with_reducible refine ba ?_) | (with_reducible refine bd ?_) | (with_reducible refine bdn ?_ _) | (with_reducible refine bset ?_ (by first | exact Nat.le_refl _ | omega | (simp; done) | (simp; omega))) | (with_reducible refine bt ?_ (by with_reducible assumption)))⟩
                case measure => simp [intOf]; omega
          · go_wp2
            have hbel := HbV.out
            go_roundw
            case rel => exact ⟨.inr (.inr (by go_num)), by repeat (first | (with_reducible exact Below.refl _ _) | (with_reducible assumption) | (with_reducible refine ba ?_) | (with_reducible refine bd ?_) | (with_reducible refine bdn ?_ _) | (with_reducible refine bset ?_ (by first | exact Nat.le_refl _ | omega | (simp; done) | (simp; omega))) | (with_reducible refine bt ?_ (by with_reducible assumption)))⟩
            case measure => simp [intOf]; omega
        · clear hbel2
          go_wp2
          have hbel := Hbel.out.trans (HbV.out.mono Hbel.out.size)
          go_roundw
          case rel => exact ⟨k + 1, by go_num, hlt, hbel⟩
          case measure => simp [intOf]; omega
    · clear hbel
      go_wp2
      have hbel := HbVw.out
      go_ret
      exact ⟨rfl, by repeat (first | (with_reducible exact Below.refl _ _) | (with_reducible assumption) | (with_reducible refine ba ?_) | (with_reducible refine bd ?_) | (with_reducible refine bdn ?_ _) | (with_reducible refine bset ?_ (by first | exact Nat.le_refl _ | omega | (simp; done) | (simp; omega))) | (with_reducible refine bt ?_ (by with_reducible assumption)))⟩
theorem apartW (r : Value) (l : List RuleV) (name : ByteArray) (v : Value) (es : List EraV) (w : World) (hr : Holds w r l) (h : HoldsE w v es) (hnm : name.size ≤ 9223372036854775807) (ht : Tab w) :
    Calls Tryz.prog 4 #[r, .agg #[.string name, v]] w fun x w' => x = .returned (.bool true) ∧ Below w.heap.size w w' := by
  cases h1 : Lgt.light l
  · exact apart0 hr name hnm h ht (.inl h1)
  cases h2 : Zn.lightZ name es
  · exact apart0 hr name hnm h ht (.inr h2)
  by_cases hc : (checkU l es).2 = 0
  · exact apart2 hr name hnm h ht h1 h2 hc
  · exact apart1 hr name hnm h ht h1 h2 hc
end L28
end Go.Proofs.YtkpjhgkmjcdobaaGreatDoor
