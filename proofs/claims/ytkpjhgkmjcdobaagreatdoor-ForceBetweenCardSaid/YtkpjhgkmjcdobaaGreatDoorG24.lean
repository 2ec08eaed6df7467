import Derived.Test.YtkpjhgkmjcdobaaGreatDoorForceX
import Derived.Test.YtkpjhgkmjcdobaaGreatDoorG21
import Derived.Test.YtkpjhgkmjcdobaaGreatDoorG23
import Derived.Test.YtkpjhgkmjcdobaaGreatDoorRForceY
import Derived.Test.YtkpjhgkmjcdobaaGreatDoorG20
/-
  noontidelaw33.fits.
-/
namespace Go.Proofs.YtkpjhgkmjcdobaaGreatDoor
open Go.RowKit NB Nxt
namespace L33
open Frc
def fitsB (l : List RuleV) (e : EraV) : Bool := Lgt.light l && (Zn.lightZ ⟨#[]⟩ [e] && (decide ((Chk.check l).1 < 0) && decide ((Chk.check l).2 = 0)))
theorem fits_facts {l : List RuleV} {e : EraV} (h : fitsB l e = true) : (∀ x ∈ l, x.letter.size ≤ 1000000) ∧ l.length ≤ 100000 ∧ (Chk.check l).2 = 0 := by
  unfold fitsB Lgt.light at h
  simp only [Bool.and_eq_true, decide_eq_true_eq, List.all_eq_true] at h
  obtain ⟨⟨h1, h2⟩, _, _, h3⟩ := h
  refine ⟨fun x hx => ?_, by omega, h3⟩
  have := h2 x hx
  unfold Lgt.lightR at this
  simp only [Bool.and_eq_true, decide_eq_true_eq] at this
  omega
theorem newE (X : World) (e : EraV) (he : e.Fit) (b : Nat) (hb : b = X.heap.size) : HoldsE (X.alloc (.cells e.cells.toArray 30)) (.slice (some ⟨b, 0, none⟩) 1 1) [e] := by
  refine ⟨.inr ⟨b, 0, 1, rfl, by rw [hb]; simp, ?_⟩, fun x hx => by rw [List.mem_singleton] at hx; subst hx; exact he, by simp⟩
  intro i j cs v hi hj
  cases i with
  | zero =>
    simp at hi
    subst hi
    rw [hb, show 0 + 0 * 13 + j = j by omega, new_cell]
    simpa using hj
  | succ i => simp at hi
set_option maxRecDepth 100000 in
set_option maxHeartbeats 3200000 in
theorem fits {w : World} {r : Value} {l : List RuleV} (hr : Holds w r l) (e : EraV) (he : e.Fit) :
    Calls Tryz.prog 23 #[r, .agg e.cells.toArray] w fun x w' => x = .returned (.bool (fitsB l e)) ∧ Below w.heap.size w w' := by
  have c1 := fun W (h : Holds W r l) => R27.CheckH h
  have c2 := fun W (h : Holds W r l) => Lgt.LightH h
  have c3 := fun (X : World) (b : Nat) (hb : b = X.heap.size) => Zn.LightZ (newE X e he b hb) ⟨#[]⟩ (by decide)
  have HH := Lib.hid hr
  unfold fitsB
  generalize Lgt.light l = b1 at *
  generalize Zn.lightZ ⟨#[]⟩ [e] = b2 at *
  generalize Chk.check l = ck at *
  obtain ⟨ck1, ck2⟩ := ck
  obtain ⟨p, cap, rfl⟩ := hr.form
  unfold EraV.cells at *
  simp only at c1
  generalize l.length = n at *
  have C1 := Lib.hid c1
  cases b1
  · have C2 := Lib.hid c2
    clear c1 c2 c3 hr
    go_enter Tryz.func23, Tryz.ntmps23
    go_wp2_with (first
      | (go_at_call 53; (with_reducible refine (C1.out _ ?_).mono ?_); (· exact HH.out.later (by repeat (first | (with_reducible exact Below.refl _ _) | (with_reducible assumption) | (with_reducible refine ba ?_) | (with_reducible refine bd ?_) | (with_reducible refine bdn ?_ _) | (with_reducible refine bset ?_ (by first | exact Nat.le_refl _ | omega | (simp; done) | (simp; omega))) | (with_reducible refine bt ?_ (by with_reducible assumption))))); rintro e w1 ⟨rfl, hb1⟩; obtain ⟨hc1, hf1⟩ := bcell hb1; have hc1_0 := fun o => hc1 (w.heap.size) o (by first | assumption | omega | (simp; done) | (simp; omega)); have hf1_0 := fun o => hf1 (w.heap.size) o (by first | assumption | omega | (simp; done) | (simp; omega)); clear hc1 hf1; have hz1_0 : w.heap.size < w1.heap.size := (by first | exact sz1 hb1 | exact sz2 hb1 | exact sz3 hb1 | (have := hb1.size; (try simp only [World.size_alloc, World.size_drew] at this); omega)))
      | (go_at_call 9; (with_reducible refine (C2.out _ ?_).mono ?_); (· exact HH.out.later (by repeat (first | (with_reducible exact Below.refl _ _) | (with_reducible assumption) | (with_reducible refine ba ?_) | (with_reducible refine bd ?_) | (with_reducible refine bdn ?_ _) | (with_reducible refine bset ?_ (by first | exact Nat.le_refl _ | omega | (simp; done) | (simp; omega))) | (with_reducible refine bt ?_ (by with_reducible assumption))))); rintro e w2 ⟨rfl, hb2⟩; obtain ⟨hc2, hf2⟩ := bcell hb2; have hc2_0 := fun o => hc2 (w.heap.size) o (by first | assumption | omega | (simp; done) | (simp; omega)); have hf2_0 := fun o => hf2 (w.heap.size) o (by first | assumption | omega | (simp; done) | (simp; omega)); clear hc2 hf2; have hz2_0 : w.heap.size < w2.heap.size := (by first | exact sz1 hb2 | exact sz2 hb2 | exact sz3 hb2 | (have := hb2.size; (try simp only [World.size_alloc, World.size_drew] at this); omega))))
    go_ret
    exact ⟨rfl, by repeat (first | (with_reducible exact Below.refl _ _) | (with_reducible assumption) | (with_reducible refine ba ?_) | (with_reducible refine bd ?_) | (with_reducible refine bdn ?_ _) | (with_reducible refine bset ?_ (by first | exact Nat.le_refl _ | omega | (simp; done) | (simp; omega))) | (with_reducible refine bt ?_ (by with_reducible assumption)))⟩
  cases b2
  · have C2 := Lib.hid c2
    have C3 := Lib.hid c3
    clear c1 c2 c3 hr
    go_enter Tryz.func23, Tryz.ntmps23
    go_wp2_with (first
      | (go_at_call 53; (with_reducible refine (C1.out _ ?_).mono ?_); (· exact HH.out.later (by repeat (first | (with_reducible exact Below.refl _ _) | (with_reducible assumption) | (with_reducible refine ba ?_) | (with_reducible refine bd ?_) | (with_reducible refine bdn ?_ _) | (with_reducible refine bset ?_ (by first | exact Nat.le_refl _ | omega | (simp; done) | (simp; omega))) | (with_reducible refine bt ?_ (by with_reducible assumption))))); rintro e w1 ⟨rfl, hb1⟩; obtain ⟨hc1, hf1⟩ := bcell hb1; have hc1_0 := fun o => hc1 (w.heap.size) o (by first | assumption | omega | (simp; done) | (simp; omega)); have hf1_0 := fun o => hf1 (w.heap.size) o (by first | assumption | omega | (simp; done) | (simp; omega)); clear hc1 hf1; have hz1_0 : w.heap.size < w1.heap.size := (by first | exact sz1 hb1 | exact sz2 hb1 | exact sz3 hb1 | (have := hb1.size; (try simp only [World.size_alloc, World.size_drew] at this); omega)))
      | (go_at_call 9; (with_reducible refine (C2.out _ ?_).mono ?_); (· exact HH.out.later (by repeat (first | (with_reducible exact Below.refl _ _) | (with_reducible assumption) | (with_reducible refine ba ?_) | (with_reducible refine bd ?_) | (with_reducible refine bdn ?_ _) | (with_reducible refine bset ?_ (by first | exact Nat.le_refl _ | omega | (simp; done) | (simp; omega))) | (with_reducible refine bt ?_ (by with_reducible assumption))))); rintro e w2 ⟨rfl, hb2⟩; obtain ⟨hc2, hf2⟩ := bcell hb2; have hc2_0 := fun o => hc2 (w.heap.size) o (by first | assumption | omega | (simp; done) | (simp; omega)); have hf2_0 := fun o => hf2 (w.heap.size) o (by first | assumption | omega | (simp; done) | (simp; omega)); clear hc2 hf2; have hz2_0 : w.heap.size < w2.heap.size := (by first | exact sz1 hb2 | exact sz2 hb2 | exact sz3 hb2 | (have := hb2.size; (try simp only [World.size_alloc, World.size_drew] at this); omega)))
      | (go_at_call 10; (with_reducible refine (C3.out _ _ rfl).mono ?_); rintro x w4 ⟨rfl, hb4⟩))
    go_ret
    exact ⟨rfl, by repeat (first | (with_reducible exact Below.refl _ _) | (with_reducible assumption) | (with_reducible refine ba ?_) | (with_reducible refine bd ?_) | (with_reducible refine bdn ?_ _) | (with_reducible refine bset ?_ (by first | exact Nat.le_refl _ | omega | (simp; done) | (simp; omega))) | (with_reducible refine bt ?_ (by with_reducible assumption)))⟩
  have C2 := Lib.hid c2
  have C3 := Lib.hid c3
  clear c1 c2 c3 hr
  by_cases h1 : ck1 < 0
  · by_cases h2 : ck2 = 0
    · go_enter Tryz.func23, Tryz.ntmps23
      go_wp2_with (first
        | (go_at_call 53; (with_reducible refine (C1.out _ ?_).mono ?_); (· exact HH.out.later (by repeat (first | (with_reducible exact Below.refl _ _) | (with_reducible assumption) | (with_reducible refine ba ?_) | (with_reducible refine bd ?_) | (with_reducible refine bdn ?_ _) | (with_reducible refine bset ?_ (by first | exact Nat.le_refl _ | omega | (simp; done) | (simp; omega))) | (with_reducible refine bt ?_ (by with_reducible assumption))))); rintro e w1 ⟨rfl, hb1⟩; obtain ⟨hc1, hf1⟩ := bcell hb1; have hc1_0 := fun o => hc1 (w.heap.size) o (by first | assumption | omega | (simp; done) | (simp; omega)); have hf1_0 := fun o => hf1 (w.heap.size) o (by first | assumption | omega | (simp; done) | (simp; omega)); clear hc1 hf1; have hz1_0 : w.heap.size < w1.heap.size := (by first | exact sz1 hb1 | exact sz2 hb1 | exact sz3 hb1 | (have := hb1.size; (try simp only [World.size_alloc, World.size_drew] at this); omega)))
        | (go_at_call 9; (with_reducible refine (C2.out _ ?_).mono ?_); (· exact HH.out.later (by repeat (first | (with_reducible exact Below.refl _ _) | (with_reducible assumption) | (with_reducible refine ba ?_) | (with_reducible refine bd ?_) | (with_reducible refine bdn ?_ _) | (with_reducible refine bset ?_ (by first | exact Nat.le_refl _ | omega | (simp; done) | (simp; omega))) | (with_reducible refine bt ?_ (by with_reducible assumption))))); rintro e w2 ⟨rfl, hb2⟩; obtain ⟨hc2, hf2⟩ := bcell hb2; have hc2_0 := fun o => hc2 (w.heap.size) o (by first | assumption | omega | (simp; done) | (simp; omega)); have hf2_0 := fun o => hf2 (w.heap.size) o (by first | assumption | omega | (simp; done) | (simp; omega)); clear hc2 hf2; have hz2_0 : w.heap.size < w2.heap.size := (by first | exact sz1 hb2 | exact sz2 hb2 | exact sz3 hb2 | (have := hb2.size; (try simp only [World.size_alloc, World.size_drew] at this); omega)))
        | (go_at_call 10; (with_reducible refine (C3.out _ _ rfl).mono ?_); rintro x w4 ⟨rfl, hb4⟩))
      go_ret
      exact ⟨by simp [h1, h2], by repeat (first | (with_reducible exact Below.refl _ _) | (with_reducible assumption) | (with_reducible refine ba ?_) | (with_reducible refine bd ?_) | (with_reducible refine bdn ?_ _) | (with_reducible refine bset ?_ (by first | exact Nat.le_refl _ | omega | (simp; done) | (simp; omega))) | (with_reducible refine bt ?_ (by with_reducible assumption)))⟩
    · go_enter Tryz.func23, Tryz.ntmps23
      go_wp2_with (first
        | (go_at_call 53; (with_reducible refine (C1.out _ ?_).mono ?_); (· exact HH.out.later (by repeat (first | (with_reducible exact Below.refl _ _) | (with_reducible assumption) | (with_reducible refine ba ?_) | (with_reducible refine bd ?_) | (with_reducible refine bdn ?_ _) | (with_reducible refine bset ?_ (by first | exact Nat.le_refl _ | omega | (simp; done) | (simp; omega))) | (with_reducible refine bt ?_ (by with_reducible assumption))))); rintro e w1 ⟨rfl, hb1⟩; obtain ⟨hc1, hf1⟩ := bcell hb1; have hc1_0 := fun o => hc1 (w.heap.size) o (by first | assumption | omega | (simp; done) | (simp; omega)); have hf1_0 := fun o => hf1 (w.heap.size) o (by first | assumption | omega | (simp; done) | (simp; omega)); clear hc1 hf1; have hz1_0 : w.heap.size < w1.heap.size := (by first | exact sz1 hb1 | exact sz2 hb1 | exact sz3 hb1 | (have := hb1.size; (try simp only [World.size_alloc, World.size_drew] at this); omega)))
        | (go_at_call 9; (with_reducible refine (C2.out _ ?_).mono ?_); (· exact HH.out.later (by repeat (first | (with_reducible exact Below.refl _ _) | (with_reducible assumption) | (with_reducible refine ba ?_) | (with_reducible refine bd ?_) | (with_reducible refine bdn ?_ _) | (with_reducible refine bset ?_ (by first | exact Nat.le_refl _ | omega | (simp; done) | (simp; omega))) | (with_reducible refine bt ?_ (by with_reducible assumption))))); rintro e w2 ⟨rfl, hb2⟩; obtain ⟨hc2, hf2⟩ := bcell hb2; have hc2_0 := fun o => hc2 (w.heap.size) o (by first | assumption | omega | (simp; done) | (simp; omega)); have hf2_0 := fun o => hf2 (w.heap.size) o (by first | assumption | omega | (simp; done) | (simp; omega)); clear hc2 hf2; have hz2_0 : w.heap.size < w2.heap.size := (by first | exact sz1 hb2 | exact sz2 hb2 | exact sz3 hb2 | (have := hb2.size; (try simp only [World.size_alloc, World.size_drew] at this); omega)))
        | (go_at_call 10; (with_reducible refine (C3.out _ _ rfl).mono ?_); rintro x w4 ⟨rfl, hb4⟩))
      go_ret
      exact ⟨by simp [h1, h2], by repeat (first | (with_reducible exact Below.refl _ _) | (with_reducible assumption) | (with_reducible refine ba ?_) | (with_reducible refine bd ?_) | (with_reducible refine bdn ?_ _) | (with_reducible refine bset ?_ (by first | exact Nat.le_refl _ | omega | (simp; done) | (simp; omega))) | (with_reducible refine bt ?_ (by with_reducible assumption)))⟩
  · go_enter Tryz.func23, Tryz.ntmps23
    go_wp2_with (first
      | (go_at_call 53; (with_reducible refine (C1.out _ ?_).mono ?_); (· exact HH.out.later (by repeat (first | (with_reducible exact Below.refl _ _) | (with_reducible assumption) | (with_reducible refine ba ?_) | (with_reducible refine bd ?_) | (with_reducible refine bdn ?_ _) | (with_reducible refine bset ?_ (by first | exact Nat.le_refl _ | omega | (simp; done) | (simp; omega))) | (with_reducible refine bt ?_ (by with_reducible assumption))))); rintro e w1 ⟨rfl, hb1⟩; obtain ⟨hc1, hf1⟩ := bcell hb1; have hc1_0 := fun o => hc1 (w.heap.size) o (by first | assumption | omega | (simp; done) | (simp; omega)); have hf1_0 := fun o => hf1 (w.heap.size) o (by first | assumption | omega | (simp; done) | (simp; omega)); clear hc1 hf1; have hz1_0 : w.heap.size < w1.heap.size := (by first | exact sz1 hb1 | exact sz2 hb1 | exact sz3 hb1 | (have := hb1.size; (try simp only [World.size_alloc, World.size_drew] at this); omega)))
      | (go_at_call 9; (with_reducible refine (C2.out _ ?_).mono ?_); (· exact HH.out.later (by repeat (first | (with_reducible exact Below.refl _ _) | (with_reducible assumption) | (with_reducible refine ba ?_) | (with_reducible refine bd ?_) | (with_reducible refine bdn ?_ _) | (with_reducible refine bset ?_ (by first | exact Nat.le_refl _ | omega | (simp; done) | (simp; omega))) | (with_reducible refine bt ?_ (by with_reducible assumption))))); rintro e w2 ⟨rfl, hb2⟩; obtain ⟨hc2, hf2⟩ := bcell hb2; have hc2_0 := fun o => hc2 (w.heap.size) o (by first | assumption | omega | (simp; done) | (simp; omega)); have hf2_0 := fun o => hf2 (w.heap.size) o (by first | assumption | omega | (simp; done) | (simp; omega)); clear hc2 hf2; have hz2_0 : w.heap.size < w2.heap.size := (by first | exact sz1 hb2 | exact sz2 hb2 | exact sz3 hb2 | (have := hb2.size; (try simp only [World.size_alloc, World.size_drew] at this); omega)))
      | (go_at_call 10; (with_reducible refine (C3.out _ _ rfl).mono ?_); rintro x w4 ⟨rfl, hb4⟩))
    go_ret
    exact ⟨by simp; omega, by repeat (first | (with_reducible exact Below.refl _ _) | (with_reducible assumption) | (with_reducible refine ba ?_) | (with_reducible refine bd ?_) | (with_reducible refine bdn ?_ _) | (with_reducible refine bset ?_ (by first | exact Nat.le_refl _ | omega | (simp; done) | (simp; omega))) | (with_reducible refine bt ?_ (by with_reducible assumption)))⟩
end L33
end Go.Proofs.YtkpjhgkmjcdobaaGreatDoor
/-
  noontidelaw33.ForceTells: the walk.
-/
namespace Go.Proofs.YtkpjhgkmjcdobaaGreatDoor
open Go.RowKit NB Nxt
namespace L33
open Frc
set_option maxRecDepth 100000 in
set_option maxHeartbeats 6400000 in
theorem tells {w : World} {r : Value} {l : List RuleV} (hr : Holds w r l) (e : EraV) (he : e.Fit) (t : Int) (ht : Tab w) (hst : Sta w) :
    Calls Tryz.prog 5 #[r, .agg e.cells.toArray, .int .i64 t] w fun x w' => x = .returned (.bool true) ∧ Below w.heap.size w w' := by
  have cf := fun W (h : Holds W r l) => fits h e he
  have HH := Lib.hid hr
  have HT := Lib.hid ht
  have HS := Lib.hid hst
  have Cl := Lib.hid lives
  cases hF : fitsB l e
  · rw [hF] at cf
    have Cf := Lib.hid cf
    clear cf hr ht hst hF
    unfold EraV.cells at *
    go_enter Tryz.func5, Tryz.ntmps5
    go_wp2_with (first
      | (go_at_call 23; (with_reducible refine (Cf.out _ ?_).mono ?_); (· exact HH.out.later (by repeat (first | (with_reducible exact Below.refl _ _) | (with_reducible assumption) | (with_reducible refine ba ?_) | (with_reducible refine bd ?_) | (with_reducible refine bdn ?_ _) | (with_reducible refine bset ?_ (by first | exact Nat.le_refl _ | omega | (simp; done) | (simp; omega))) | (with_reducible refine bt ?_ (by with_reducible assumption))))); rintro e w1 ⟨rfl, hb1⟩; obtain ⟨hc1, hf1⟩ := bcell hb1; have hc1_0 := fun o => hc1 (w.heap.size) o (by first | assumption | omega | (simp; done) | (simp; omega)); have hf1_0 := fun o => hf1 (w.heap.size) o (by first | assumption | omega | (simp; done) | (simp; omega)); clear hc1 hf1; have hz1_0 : w.heap.size < w1.heap.size := (by first | exact sz1 hb1 | exact sz2 hb1 | exact sz3 hb1 | (have := hb1.size; (try simp only [World.size_alloc, World.size_drew] at this); omega)))
      | (go_at_call 24; (with_reducible refine (Cl.out _ ?_ ?_).mono ?_); (· exact HT.out.later (by repeat (first | (with_reducible exact Below.refl _ _) | (with_reducible assumption) | (with_reducible refine ba ?_) | (with_reducible refine bd ?_) | (with_reducible refine bdn ?_ _) | (with_reducible refine bset ?_ (by first | exact Nat.le_refl _ | omega | (simp; done) | (simp; omega))) | (with_reducible refine bt ?_ (by with_reducible assumption))))); (· exact HS.out.later (by repeat (first | (with_reducible exact Below.refl _ _) | (with_reducible assumption) | (with_reducible refine ba ?_) | (with_reducible refine bd ?_) | (with_reducible refine bdn ?_ _) | (with_reducible refine bset ?_ (by first | exact Nat.le_refl _ | omega | (simp; done) | (simp; omega))) | (with_reducible refine bt ?_ (by with_reducible assumption))))); rintro e w2 ⟨rfl, hb2⟩; obtain ⟨hc2, hf2⟩ := bcell hb2; have hc2_0 := fun o => hc2 (w.heap.size) o (by first | assumption | omega | (simp; done) | (simp; omega)); have hf2_0 := fun o => hf2 (w.heap.size) o (by first | assumption | omega | (simp; done) | (simp; omega)); clear hc2 hf2; have hz2_0 : w.heap.size < w2.heap.size := (by first | exact sz1 hb2 | exact sz2 hb2 | exact sz3 hb2 | (have := hb2.size; (try simp only [World.size_alloc, World.size_drew] at this); omega))))
    go_ret
    exact ⟨rfl, by repeat (first | (with_reducible exact Below.refl _ _) | (with_reducible assumption) | (with_reducible refine ba ?_) | (with_reducible refine bd ?_) | (with_reducible refine bdn ?_ _) | (with_reducible refine bset ?_ (by first | exact Nat.le_refl _ | omega | (simp; done) | (simp; omega))) | (with_reducible refine bt ?_ (by with_reducible assumption)))⟩
  obtain ⟨hs, hn, _⟩ := fits_facts hF
  rw [hF] at cf
  have c1 := fun W (h : Holds W r l) (ht : Tab W) => Frc.At h e he t ht hs hn
  have c2 := fun W (h : Holds W r l) => RFrc.At h e he t hs hn
  have c3 := fun W (h : Holds W r l) (ht : Tab W) (hst : Sta W) => Frc.Next h e he t ht hst hs hn
  have c4 := fun W (h : Holds W r l) => RFrc.Next h e he t hs hn
  have c5 := fun W (h : Holds W r l) (ht : Tab W) (hst : Sta W) => Frc.Prev h e he t ht hst hs hn
  have c6 := fun W (h : Holds W r l) => RFrc.Prev h e he t hs hn
  generalize atV l e t = av at *
  generalize nextV l e t = nv at *
  generalize prevV l e t = pv at *
  obtain ⟨⟨a1, a2, a3⟩, a4⟩ := av
  obtain ⟨n1, n2⟩ := nv
  obtain ⟨p1, p2⟩ := pv
  unfold EraV.cells ValV.cells at *
  simp only at c1 c2 c3 c4 c5 c6
  obtain ⟨p, cap, rfl⟩ := hr.form
  have Cf := Lib.hid cf
  have C1 := Lib.hid c1
  have C2 := Lib.hid c2
  have C3 := Lib.hid c3
  have C4 := Lib.hid c4
  have C5 := Lib.hid c5
  have C6 := Lib.hid c6
  clear cf c1 c2 c3 c4 c5 c6 hr ht hst hF hs hn
  generalize l.length = n at *
  go_enter Tryz.func5, Tryz.ntmps5
  go_wp2_with (first
    | (go_at_call 23; (with_reducible refine (Cf.out _ ?_).mono ?_); (· exact HH.out.later (by repeat (first | (with_reducible exact Below.refl _ _) | (with_reducible assumption) | (with_reducible refine ba ?_) | (with_reducible refine bd ?_) | (with_reducible refine bdn ?_ _) | (with_reducible refine bset ?_ (by first | exact Nat.le_refl _ | omega | (simp; done) | (simp; omega))) | (with_reducible refine bt ?_ (by with_reducible assumption))))); rintro e w1 ⟨rfl, hb1⟩; obtain ⟨hc1, hf1⟩ := bcell hb1; have hc1_0 := fun o => hc1 (w.heap.size) o (by first | assumption | omega | (simp; done) | (simp; omega)); have hf1_0 := fun o => hf1 (w.heap.size) o (by first | assumption | omega | (simp; done) | (simp; omega)); clear hc1 hf1; have hz1_0 : w.heap.size < w1.heap.size := (by first | exact sz1 hb1 | exact sz2 hb1 | exact sz3 hb1 | (have := hb1.size; (try simp only [World.size_alloc, World.size_drew] at this); omega)))
    | (go_at_call 25; (with_reducible refine (C1.out _ ?_ ?_).mono ?_); (· exact HH.out.later (by repeat (first | (with_reducible exact Below.refl _ _) | (with_reducible assumption) | (with_reducible refine ba ?_) | (with_reducible refine bd ?_) | (with_reducible refine bdn ?_ _) | (with_reducible refine bset ?_ (by first | exact Nat.le_refl _ | omega | (simp; done) | (simp; omega))) | (with_reducible refine bt ?_ (by with_reducible assumption))))); (· exact HT.out.later (by repeat (first | (with_reducible exact Below.refl _ _) | (with_reducible assumption) | (with_reducible refine ba ?_) | (with_reducible refine bd ?_) | (with_reducible refine bdn ?_ _) | (with_reducible refine bset ?_ (by first | exact Nat.le_refl _ | omega | (simp; done) | (simp; omega))) | (with_reducible refine bt ?_ (by with_reducible assumption))))); rintro e w2 ⟨rfl, hb2⟩; obtain ⟨hc2, hf2⟩ := bcell hb2; have hc2_0 := fun o => hc2 (w.heap.size) o (by first | assumption | omega | (simp; done) | (simp; omega)); have hf2_0 := fun o => hf2 (w.heap.size) o (by first | assumption | omega | (simp; done) | (simp; omega)); clear hc2 hf2; have hz2_0 : w.heap.size < w2.heap.size := (by first | exact sz1 hb2 | exact sz2 hb2 | exact sz3 hb2 | (have := hb2.size; (try simp only [World.size_alloc, World.size_drew] at this); omega)))
    | (go_at_call 26; (with_reducible refine (C2.out _ ?_).mono ?_); (· exact HH.out.later (by repeat (first | (with_reducible exact Below.refl _ _) | (with_reducible assumption) | (with_reducible refine ba ?_) | (with_reducible refine bd ?_) | (with_reducible refine bdn ?_ _) | (with_reducible refine bset ?_ (by first | exact Nat.le_refl _ | omega | (simp; done) | (simp; omega))) | (with_reducible refine bt ?_ (by with_reducible assumption))))); rintro e w3 ⟨rfl, hb3⟩; obtain ⟨hc3, hf3⟩ := bcell hb3; have hc3_0 := fun o => hc3 (w.heap.size) o (by first | assumption | omega | (simp; done) | (simp; omega)); have hf3_0 := fun o => hf3 (w.heap.size) o (by first | assumption | omega | (simp; done) | (simp; omega)); have hc3_1 := fun o => hc3 (w2.heap.size) o (by first | assumption | omega | (simp; done) | (simp; omega)); have hf3_1 := fun o => hf3 (w2.heap.size) o (by first | assumption | omega | (simp; done) | (simp; omega)); clear hc3 hf3; have hz3_0 : w.heap.size < w3.heap.size := (by first | exact sz1 hb3 | exact sz2 hb3 | exact sz3 hb3 | (have := hb3.size; (try simp only [World.size_alloc] at this); omega)); have hz3_1 : w2.heap.size < w3.heap.size := (by first | exact sz1 hb3 | exact sz2 hb3 | exact sz3 hb3 | (have := hb3.size; (try simp only [World.size_alloc, World.size_drew] at this); omega)))
    | (go_at_call 27; (with_reducible refine (C3.out _ ?_ ?_ ?_).mono ?_); (· exact HH.out.later (by repeat (first | (with_reducible exact Below.refl _ _) | (with_reducible assumption) | (with_reducible refine ba ?_) | (with_reducible refine bd ?_) | (with_reducible refine bdn ?_ _) | (with_reducible refine bset ?_ (by first | exact Nat.le_refl _ | omega | (simp; done) | (simp; omega))) | (with_reducible refine bt ?_ (by with_reducible assumption))))); (· exact HT.out.later (by repeat (first | (with_reducible exact Below.refl _ _) | (with_reducible assumption) | (with_reducible refine ba ?_) | (with_reducible refine bd ?_) | (with_reducible refine bdn ?_ _) | (with_reducible refine bset ?_ (by first | exact Nat.le_refl _ | omega | (simp; done) | (simp; omega))) | (with_reducible refine bt ?_ (by with_reducible assumption))))); (· exact HS.out.later (by repeat (first | (with_reducible exact Below.refl _ _) | (with_reducible assumption) | (with_reducible refine ba ?_) | (with_reducible refine bd ?_) | (with_reducible refine bdn ?_ _) | (with_reducible refine bset ?_ (by first | exact Nat.le_refl _ | omega | (simp; done) | (simp; omega))) | (with_reducible refine bt ?_ (by with_reducible assumption))))); rintro e w4 ⟨rfl, hb4⟩; obtain ⟨hc4, hf4⟩ := bcell hb4; have hc4_0 := fun o => hc4 (w.heap.size) o (by first | assumption | omega | (simp; done) | (simp; omega)); have hf4_0 := fun o => hf4 (w.heap.size) o (by first | assumption | omega | (simp; done) | (simp; omega)); have hc4_1 := fun o => hc4 (w2.heap.size) o (by first | assumption | omega | (simp; done) | (simp; omega)); have hf4_1 := fun o => hf4 (w2.heap.size) o (by first | assumption | omega | (simp; done) | (simp; omega)); have hc4_2 := fun o => hc4 (w3.heap.size) o (by first | assumption | omega | (simp; done) | (simp; omega)); have hf4_2 := fun o => hf4 (w3.heap.size) o (by first | assumption | omega | (simp; done) | (simp; omega)); clear hc4 hf4; have hz4_0 : w.heap.size < w4.heap.size := (by first | exact sz1 hb4 | exact sz2 hb4 | exact sz3 hb4 | (have := hb4.size; (try simp only [World.size_alloc] at this); omega)); have hz4_1 : w2.heap.size < w4.heap.size := (by first | exact sz1 hb4 | exact sz2 hb4 | exact sz3 hb4 | (have := hb4.size; (try simp only [World.size_alloc] at this); omega)); have hz4_2 : w3.heap.size < w4.heap.size := (by first | exact sz1 hb4 | exact sz2 hb4 | exact sz3 hb4 | (have := hb4.size; (try simp only [World.size_alloc, World.size_drew] at this); omega)))
    | (go_at_call 28; (with_reducible refine (C4.out _ ?_).mono ?_); (· exact HH.out.later (by repeat (first | (with_reducible exact Below.refl _ _) | (with_reducible assumption) | (with_reducible refine ba ?_) | (with_reducible refine bd ?_) | (with_reducible refine bdn ?_ _) | (with_reducible refine bset ?_ (by first | exact Nat.le_refl _ | omega | (simp; done) | (simp; omega))) | (with_reducible refine bt ?_ (by with_reducible assumption))))); rintro e w5 ⟨rfl, hb5⟩; obtain ⟨hc5, hf5⟩ := bcell hb5; have hc5_0 := fun o => hc5 (w.heap.size) o (by first | assumption | omega | (simp; done) | (simp; omega)); have hf5_0 := fun o => hf5 (w.heap.size) o (by first | assumption | omega | (simp; done) | (simp; omega)); have hc5_1 := fun o => hc5 (w2.heap.size) o (by first | assumption | omega | (simp; done) | (simp; omega)); have hf5_1 := fun o => hf5 (w2.heap.size) o (by first | assumption | omega | (simp; done) | (simp; omega)); have hc5_2 := fun o => hc5 (w3.heap.size) o (by first | assumption | omega | (simp; done) | (simp; omega)); have hf5_2 := fun o => hf5 (w3.heap.size) o (by first | assumption | omega | (simp; done) | (simp; omega)); clear hc5 hf5; have hz5_0 : w.heap.size < w5.heap.size := (by first | exact sz1 hb5 | exact sz2 hb5 | exact sz3 hb5 | (have := hb5.size; (try simp only [World.size_alloc, World.size_drew] at this); omega)); have hz5_1 : w2.heap.size < w5.heap.size := (by first | exact sz1 hb5 | exact sz2 hb5 | exact sz3 hb5 | (have := hb5.size; (try simp only [World.size_alloc, World.size_drew] at this); omega)); have hz5_2 : w3.heap.size < w5.heap.size := (by first | exact sz1 hb5 | exact sz2 hb5 | exact sz3 hb5 | (have := hb5.size; (try simp only [World.size_alloc, World.size_drew] at this); omega)))
    | (go_at_call 29; (with_reducible refine (C5.out _ ?_ ?_ ?_).mono ?_); (· exact HH.out.later (by repeat (first | (with_reducible exact Below.refl _ _) | (with_reducible assumption) | (with_reducible refine ba ?_) | (with_reducible refine bd ?_) | (with_reducible refine bdn ?_ _) | (with_reducible refine bset ?_ (by first | exact Nat.le_refl _ | omega | (simp; done) | (simp; omega))) | (with_reducible refine bt ?_ (by with_reducible assumption))))); (· exact HT.out.later (by repeat (first | (with_reducible exact Below.refl _ _) | (with_reducible assumption) | (with_reducible refine ba ?_) | (with_reducible refine bd ?_) | (with_reducible refine bdn ?_ _) | (with_reducible refine bset ?_ (by first | exact Nat.le_refl _ | omega | (simp; done) | (simp; omega))) | (with_reducible refine bt ?_ (by with_reducible assumption))))); (· exact HS.out.later (by repeat (first | (with_reducible exact Below.refl _ _) | (with_reducible assumption) | (with_reducible refine ba ?_) | (with_reducible refine bd ?_) | (with_reducible refine bdn ?_ _) | (with_reducible refine bset ?_ (by first | exact Nat.le_refl _ | omega | (simp; done) | (simp; omega))) | (with_reducible refine bt ?_ (by with_reducible assumption))))); rintro e w6 ⟨rfl, hb6⟩; obtain ⟨hc6, hf6⟩ := bcell hb6; have hc6_0 := fun o => hc6 (w.heap.size) o (by first | assumption | omega | (simp; done) | (simp; omega)); have hf6_0 := fun o => hf6 (w.heap.size) o (by first | assumption | omega | (simp; done) | (simp; omega)); have hc6_1 := fun o => hc6 (w2.heap.size) o (by first | assumption | omega | (simp; done) | (simp; omega)); have hf6_1 := fun o => hf6 (w2.heap.size) o (by first | assumption | omega | (simp; done) | (simp; omega)); have hc6_2 := fun o => hc6 (w3.heap.size) o (by first | assumption | omega | (simp; done) | (simp; omega)); have hf6_2 := fun o => hf6 (w3.heap.size) o (by first | assumption | omega | (simp; done) | (simp; omega)); clear hc6 hf6; have hz6_0 : w.heap.size < w6.heap.size := (by first | exact sz1 hb6 | exact sz2 hb6 | exact sz3 hb6 | (have := hb6.size; (try simp only [World.size_alloc, World.size_drew] at this); omega)); have hz6_1 : w2.heap.size < w6.heap.size := (by first | exact sz1 hb6 | exact sz2 hb6 | exact sz3 hb6 | (have := hb6.size; (try simp only [World.size_alloc, World.size_drew] at this); omega)); have hz6_2 : w3.heap.size < w6.heap.size := (by first | exact sz1 hb6 | exact sz2 hb6 | exact sz3 hb6 | (have := hb6.size; (try simp only [World.size_alloc, World.size_drew] at this); omega)))
    | (go_at_call 30; (with_reducible refine (C6.out _ ?_).mono ?_); (· exact HH.out.later (by repeat (first | (with_reducible exact Below.refl _ _) | (with_reducible assumption) | (with_reducible refine ba ?_) | (with_reducible refine bd ?_) | (with_reducible refine bdn ?_ _) | (with_reducible refine bset ?_ (by first | exact Nat.le_refl _ | omega | (simp; done) | (simp; omega))) | (with_reducible refine bt ?_ (by with_reducible assumption))))); rintro e w7 ⟨rfl, hb7⟩; obtain ⟨hc7, hf7⟩ := bcell hb7; have hc7_0 := fun o => hc7 (w.heap.size) o (by first | assumption | omega | (simp; done) | (simp; omega)); have hf7_0 := fun o => hf7 (w.heap.size) o (by first | assumption | omega | (simp; done) | (simp; omega)); have hc7_1 := fun o => hc7 (w2.heap.size) o (by first | assumption | omega | (simp; done) | (simp; omega)); have hf7_1 := fun o => hf7 (w2.heap.size) o (by first | assumption | omega | (simp; done) | (simp; omega)); have hc7_2 := fun o => hc7 (w3.heap.size) o (by first | assumption | omega | (simp; done) | (simp; omega)); have hf7_2 := fun o => hf7 (w3.heap.size) o (by first | assumption | omega | (simp; done) | (simp; omega)); clear hc7 hf7; have hz7_0 : w.heap.size < w7.heap.size := (by first | exact sz1 hb7 | exact sz2 hb7 | exact sz3 hb7 | (have := hb7.size; (try simp only [World.size_alloc, World.size_drew] at this); omega)); have hz7_1 : w2.heap.size < w7.heap.size := (by first | exact sz1 hb7 | exact sz2 hb7 | exact sz3 hb7 | (have := hb7.size; (try simp only [World.size_alloc, World.size_drew] at this); omega)); have hz7_2 : w3.heap.size < w7.heap.size := (by first | exact sz1 hb7 | exact sz2 hb7 | exact sz3 hb7 | (have := hb7.size; (try simp only [World.size_alloc, World.size_drew] at this); omega)))
    | (go_at_call 24; (with_reducible refine (Cl.out _ ?_ ?_).mono ?_); (· exact HT.out.later (by repeat (first | (with_reducible exact Below.refl _ _) | (with_reducible assumption) | (with_reducible refine ba ?_) | (with_reducible refine bd ?_) | (with_reducible refine bdn ?_ _) | (with_reducible refine bset ?_ (by first | exact Nat.le_refl _ | omega | (simp; done) | (simp; omega))) | (with_reducible refine bt ?_ (by with_reducible assumption))))); (· exact HS.out.later (by repeat (first | (with_reducible exact Below.refl _ _) | (with_reducible assumption) | (with_reducible refine ba ?_) | (with_reducible refine bd ?_) | (with_reducible refine bdn ?_ _) | (with_reducible refine bset ?_ (by first | exact Nat.le_refl _ | omega | (simp; done) | (simp; omega))) | (with_reducible refine bt ?_ (by with_reducible assumption))))); rintro e w8 ⟨rfl, hb8⟩; obtain ⟨hc8, hf8⟩ := bcell hb8; have hc8_0 := fun o => hc8 (w.heap.size) o (by first | assumption | omega | (simp; done) | (simp; omega)); have hf8_0 := fun o => hf8 (w.heap.size) o (by first | assumption | omega | (simp; done) | (simp; omega)); clear hc8 hf8; have hz8_0 : w.heap.size < w8.heap.size := (by first | exact sz1 hb8 | exact sz2 hb8 | exact sz3 hb8 | (have := hb8.size; (try simp only [World.size_alloc, World.size_drew] at this); omega))))
  go_ret
  exact ⟨rfl, by repeat (first | (with_reducible exact Below.refl _ _) | (with_reducible assumption) | (with_reducible refine ba ?_) | (with_reducible refine bd ?_) | (with_reducible refine bdn ?_ _) | (with_reducible refine bset ?_ (by first | exact Nat.le_refl _ | omega | (simp; done) | (simp; omega))) | (with_reducible refine bt ?_ (by with_reducible assumption)))⟩
theorem tellsW (v : Value) (l : List RuleV) (e : EraV) (t : Int) (w : World) (hr : Holds w v l) (he : e.Fit) (_ : I64 t) (ht : Tab w) (hst : Sta w) :
    Calls Tryz.prog 5 #[v, .agg e.cells.toArray, .int .i64 t] w fun x w' => x = .returned (.bool true) ∧ Below w.heap.size w w' := tells hr e he t ht hst
end L33
end Go.Proofs.YtkpjhgkmjcdobaaGreatDoor
