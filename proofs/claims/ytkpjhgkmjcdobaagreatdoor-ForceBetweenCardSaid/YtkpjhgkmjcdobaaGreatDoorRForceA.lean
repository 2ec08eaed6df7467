import Derived.Test.YtkpjhgkmjcdobaaGreatDoorG19
/-
  noontideref33.At.
-/
namespace Go.Proofs.YtkpjhgkmjcdobaaGreatDoor
open Go.RowKit NB Nxt
namespace RFrc
open Frc
set_option maxHeartbeats 3200000 in
set_option maxRecDepth 100000 in
theorem At {w : World} {r : Value} {l : List RuleV} (hr : Holds w r l) (e : EraV) (he : e.Fit) (t : Int) (hs : ∀ x ∈ l, x.letter.size ≤ 1000000) (hn : l.length ≤ 100000) :
    Calls Tryz.prog 26 #[r, .agg e.cells.toArray, .int .i64 t] w fun x w' => x = .returned (.tuple #[.agg (atV l e t).1.cells.toArray, .int .i64 (atV l e t).2]) ∧ Below w.heap.size w w' := by
  have cr := fun W => REr.Right e he W
  have cval := fun W (save : Int) (letter : ByteArray) hl => value e he.f save letter hl W
  have HH := Lib.hid hr
  unfold atV
  cases hR : Er.rightB e
  · rw [hR] at cr
    rw [if_neg (by decide)]
    obtain ⟨rp, rc, rfl⟩ := hr.form
    unfold EraV.cells ValV.cells at *
    have Cr := Lib.hid cr
    clear cr cval hr hs
    go_enter Tryz.func26, Tryz.ntmps26
    go_wp2_with (go_at_call 43; (with_reducible refine (Cr.out _).mono ?_); rintro e w1 ⟨rfl, hb1⟩; obtain ⟨hc1, hf1⟩ := bcell hb1; have hc1_0 := fun o => hc1 (w.heap.size) o (by first | assumption | omega | (simp; done) | (simp; omega)); have hf1_0 := fun o => hf1 (w.heap.size) o (by first | assumption | omega | (simp; done) | (simp; omega)); have hc1_1 := fun o => hc1 (w.heap.size + 1) o (by first | assumption | omega | (simp; done) | (simp; omega)); have hf1_1 := fun o => hf1 (w.heap.size + 1) o (by first | assumption | omega | (simp; done) | (simp; omega)); clear hc1 hf1; have hz1_0 : w.heap.size < w1.heap.size := (by first | exact sz1 hb1 | exact sz2 hb1 | exact sz3 hb1 | (have := hb1.size; (try simp only [World.size_alloc] at this); omega)); have hz1_1 : w.heap.size + 1 < w1.heap.size := (by first | exact sz1 hb1 | exact sz2 hb1 | exact sz3 hb1 | (have := hb1.size; (try simp only [World.size_alloc, World.size_drew] at this); omega)))
    refine bodyPost_ret (v := .tuple #[.agg #[.int .i64 0, .int .i64 0, .string ⟨#[]⟩], .int .i64 4]) ?_ rfl ⟨rfl, ?_⟩
    · simp only [results, Tryz.results26]
      go_simp
    · repeat (first | (with_reducible exact Below.refl _ _) | (with_reducible assumption) | (with_reducible refine ba ?_) | (with_reducible refine bd ?_) | (with_reducible refine bdn ?_ _) | (with_reducible refine bset ?_ (by first | exact Nat.le_refl _ | omega | (simp; done) | (simp; omega))) | (with_reducible refine bt ?_ (by with_reducible assumption)))
  · rw [hR] at cr
    rw [if_pos rfl]
    by_cases hk : e.kind = 2
    rotate_left
    · rw [if_neg hk]
      obtain ⟨y, hy⟩ : ∃ y, y = valR e e.save ⟨#[]⟩ := ⟨_, rfl⟩
      have cv : ∀ W, Calls Tryz.prog 57 #[.agg #[.int .i64 e.off, .int .i64 e.kind, .int .i64 e.save, .string e.rules, .string e.format, .bool e.u.has, .int .i64 e.u.year, .int .i64 e.u.month, .int .i64 e.u.kind, .int .i64 e.u.week, .int .i64 e.u.day, .int .i64 e.u.sec, .int .i64 e.u.base], .int .i64 e.save, .string ⟨#[]⟩] W fun z w' => z = .returned (.agg #[.int .i64 y.off, .int .i64 y.save, .string y.abbr]) ∧ Below W.heap.size W w' := fun W => by rw [hy]; exact cval W e.save ⟨#[]⟩ (by decide)
      rw [← hy]
      obtain ⟨rp, rc, rfl⟩ := hr.form
      unfold EraV.cells ValV.cells at *
      have Cr := Lib.hid cr
      have Cv := Lib.hid cv
      clear cr cv cval hr hs hy
      simp only
      go_enter Tryz.func26, Tryz.ntmps26
      go_wp2_with (first
        | (go_at_call 43; (with_reducible refine (Cr.out _).mono ?_); rintro e w1 ⟨rfl, hb1⟩; obtain ⟨hc1, hf1⟩ := bcell hb1; have hc1_0 := fun o => hc1 (w.heap.size) o (by first | assumption | omega | (simp; done) | (simp; omega)); have hf1_0 := fun o => hf1 (w.heap.size) o (by first | assumption | omega | (simp; done) | (simp; omega)); have hc1_1 := fun o => hc1 (w.heap.size + 1) o (by first | assumption | omega | (simp; done) | (simp; omega)); have hf1_1 := fun o => hf1 (w.heap.size + 1) o (by first | assumption | omega | (simp; done) | (simp; omega)); clear hc1 hf1; have hz1_0 : w.heap.size < w1.heap.size := (by first | exact sz1 hb1 | exact sz2 hb1 | exact sz3 hb1 | (have := hb1.size; (try simp only [World.size_alloc] at this); omega)); have hz1_1 : w.heap.size + 1 < w1.heap.size := (by first | exact sz1 hb1 | exact sz2 hb1 | exact sz3 hb1 | (have := hb1.size; (try simp only [World.size_alloc, World.size_drew] at this); omega)))
        | (go_at_call 57; (with_reducible refine (Cv.out _).mono ?_); rintro e w2 ⟨rfl, hb2⟩; obtain ⟨hc2, hf2⟩ := bcell hb2; have hc2_0 := fun o => hc2 (w.heap.size) o (by first | assumption | omega | (simp; done) | (simp; omega)); have hf2_0 := fun o => hf2 (w.heap.size) o (by first | assumption | omega | (simp; done) | (simp; omega)); have hc2_1 := fun o => hc2 (w.heap.size + 1) o (by first | assumption | omega | (simp; done) | (simp; omega)); have hf2_1 := fun o => hf2 (w.heap.size + 1) o (by first | assumption | omega | (simp; done) | (simp; omega)); clear hc2 hf2; have hz2_0 : w.heap.size < w2.heap.size := (by first | exact sz1 hb2 | exact sz2 hb2 | exact sz3 hb2 | (have := hb2.size; (try simp only [World.size_alloc, World.size_drew] at this); omega)); have hz2_1 : w.heap.size + 1 < w2.heap.size := (by first | exact sz1 hb2 | exact sz2 hb2 | exact sz3 hb2 | (have := hb2.size; (try simp only [World.size_alloc, World.size_drew] at this); omega))))
      refine bodyPost_ret (v := .tuple #[.agg #[.int .i64 y.off, .int .i64 y.save, .string y.abbr], .int .i64 0]) ?_ rfl ⟨rfl, ?_⟩
      · simp only [results, Tryz.results26]
        go_simp
      · repeat (first | (with_reducible exact Below.refl _ _) | (with_reducible assumption) | (with_reducible refine ba ?_) | (with_reducible refine bd ?_) | (with_reducible refine bdn ?_ _) | (with_reducible refine bset ?_ (by first | exact Nat.le_refl _ | omega | (simp; done) | (simp; omega))) | (with_reducible refine bt ?_ (by with_reducible assumption)))
    rw [if_pos hk]
    obtain ⟨y, hy⟩ : ∃ y, y = stateV l e t := ⟨_, rfl⟩
    rw [← hy]
    have cl := fun W (h : Holds W r l) => RCh.Last h e.rules e.off t
    have hlp : lastP l e t = Chn.lastO l e.rules e.off t := rfl
    rw [← hlp] at cl
    cases hl : lastP l e t with
    | none =>
      rw [hl] at cl
      have hyf : y = firstV l e := by rw [hy]; unfold stateV; rw [hl]
      have cf : ∀ W, Holds W r l → Calls Tryz.prog 59 #[r, .agg #[.int .i64 e.off, .int .i64 2, .int .i64 e.save, .string e.rules, .string e.format, .bool e.u.has, .int .i64 e.u.year, .int .i64 e.u.month, .int .i64 e.u.kind, .int .i64 e.u.week, .int .i64 e.u.day, .int .i64 e.u.sec, .int .i64 e.u.base]] W fun z w' => z = .returned (.agg #[.int .i64 y.off, .int .i64 y.save, .string y.abbr]) ∧ Below W.heap.size W w' := fun W h => by rw [hyf, ← hk]; exact first h e he hs hn
      unfold optV at cl
      obtain ⟨rp, rc, rfl⟩ := hr.form
      unfold EraV.cells ValV.cells at *
      rw [hk] at cr
      have Cr := Lib.hid cr
      have Cl := Lib.hid cl
      have Cf := Lib.hid cf
      clear cr cl cf cval hr hs hy hyf hl hlp
      generalize l.length = n at *
      rw [hk]
      simp only
      go_enter Tryz.func26, Tryz.ntmps26
      go_wp2_with (first
        | (go_at_call 43; (with_reducible refine (Cr.out _).mono ?_); rintro e w1 ⟨rfl, hb1⟩; obtain ⟨hc1, hf1⟩ := bcell hb1; have hc1_0 := fun o => hc1 (w.heap.size) o (by first | assumption | omega | (simp; done) | (simp; omega)); have hf1_0 := fun o => hf1 (w.heap.size) o (by first | assumption | omega | (simp; done) | (simp; omega)); have hc1_1 := fun o => hc1 (w.heap.size + 1) o (by first | assumption | omega | (simp; done) | (simp; omega)); have hf1_1 := fun o => hf1 (w.heap.size + 1) o (by first | assumption | omega | (simp; done) | (simp; omega)); clear hc1 hf1; have hz1_0 : w.heap.size < w1.heap.size := (by first | exact sz1 hb1 | exact sz2 hb1 | exact sz3 hb1 | (have := hb1.size; (try simp only [World.size_alloc] at this); omega)); have hz1_1 : w.heap.size + 1 < w1.heap.size := (by first | exact sz1 hb1 | exact sz2 hb1 | exact sz3 hb1 | (have := hb1.size; (try simp only [World.size_alloc, World.size_drew] at this); omega)))
        | (go_at_call 58; (with_reducible refine (Cl.out _ ?_).mono ?_); (· exact HH.out.later (by repeat (first | (with_reducible exact Below.refl _ _) | (with_reducible assumption) | (with_reducible refine ba ?_) | (with_reducible refine bd ?_) | (with_reducible refine bdn ?_ _) | (with_reducible refine bset ?_ (by first | exact Nat.le_refl _ | omega | (simp; done) | (simp; omega))) | (with_reducible refine bt ?_ (by with_reducible assumption))))); rintro e w2 ⟨rfl, hb2⟩; obtain ⟨hc2, hf2⟩ := bcell hb2; have hc2_0 := fun o => hc2 (w.heap.size) o (by first | assumption | omega | (simp; done) | (simp; omega)); have hf2_0 := fun o => hf2 (w.heap.size) o (by first | assumption | omega | (simp; done) | (simp; omega)); have hc2_1 := fun o => hc2 (w.heap.size + 1) o (by first | assumption | omega | (simp; done) | (simp; omega)); have hf2_1 := fun o => hf2 (w.heap.size + 1) o (by first | assumption | omega | (simp; done) | (simp; omega)); clear hc2 hf2; have hz2_0 : w.heap.size < w2.heap.size := (by first | exact sz1 hb2 | exact sz2 hb2 | exact sz3 hb2 | (have := hb2.size; (try simp only [World.size_alloc, World.size_drew] at this); omega)); have hz2_1 : w.heap.size + 1 < w2.heap.size := (by first | exact sz1 hb2 | exact sz2 hb2 | exact sz3 hb2 | (have := hb2.size; (try simp only [World.size_alloc, World.size_drew] at this); omega)))
        | (go_at_call 59; (with_reducible refine (Cf.out _ ?_).mono ?_); (· exact HH.out.later (by repeat (first | (with_reducible exact Below.refl _ _) | (with_reducible assumption) | (with_reducible refine ba ?_) | (with_reducible refine bd ?_) | (with_reducible refine bdn ?_ _) | (with_reducible refine bset ?_ (by first | exact Nat.le_refl _ | omega | (simp; done) | (simp; omega))) | (with_reducible refine bt ?_ (by with_reducible assumption))))); rintro e w3 ⟨rfl, hb3⟩; obtain ⟨hc3, hf3⟩ := bcell hb3; have hc3_0 := fun o => hc3 (w.heap.size) o (by first | assumption | omega | (simp; done) | (simp; omega)); have hf3_0 := fun o => hf3 (w.heap.size) o (by first | assumption | omega | (simp; done) | (simp; omega)); have hc3_1 := fun o => hc3 (w.heap.size + 1) o (by first | assumption | omega | (simp; done) | (simp; omega)); have hf3_1 := fun o => hf3 (w.heap.size + 1) o (by first | assumption | omega | (simp; done) | (simp; omega)); clear hc3 hf3; have hz3_0 : w.heap.size < w3.heap.size := (by first | exact sz1 hb3 | exact sz2 hb3 | exact sz3 hb3 | (have := hb3.size; (try simp only [World.size_alloc] at this); omega)); have hz3_1 : w.heap.size + 1 < w3.heap.size := (by first | exact sz1 hb3 | exact sz2 hb3 | exact sz3 hb3 | (have := hb3.size; (try simp only [World.size_alloc] at this); omega))))
      refine bodyPost_ret (v := .tuple #[.agg #[.int .i64 y.off, .int .i64 y.save, .string y.abbr], .int .i64 0]) ?_ rfl ⟨rfl, ?_⟩
      · simp only [results, Tryz.results26]
        go_simp
      · repeat (first | (with_reducible exact Below.refl _ _) | (with_reducible assumption) | (with_reducible refine ba ?_) | (with_reducible refine bd ?_) | (with_reducible refine bdn ?_ _) | (with_reducible refine bset ?_ (by first | exact Nat.le_refl _ | omega | (simp; done) | (simp; omega))) | (with_reducible refine bt ?_ (by with_reducible assumption)))
    | some o =>
      rw [hl] at cl
      obtain ⟨i, x, hoi, hil, hxi, hxn, _⟩ := rule_of (last_all hl)
      have hyx : y = valR e x.save x.letter := by
        rw [hy]
        unfold stateV
        rw [hl]
        show valAt l e o.rule = _
        rw [hoi, val_rule hxi]
        rfl
      have cv : ∀ W, Calls Tryz.prog 57 #[.agg #[.int .i64 e.off, .int .i64 2, .int .i64 e.save, .string e.rules, .string e.format, .bool e.u.has, .int .i64 e.u.year, .int .i64 e.u.month, .int .i64 e.u.kind, .int .i64 e.u.week, .int .i64 e.u.day, .int .i64 e.u.sec, .int .i64 e.u.base], .int .i64 x.save, .string x.letter] W fun z w' => z = .returned (.agg #[.int .i64 y.off, .int .i64 y.save, .string y.abbr]) ∧ Below W.heap.size W w' := fun W => by rw [hyx, ← hk]; exact cval W x.save x.letter (hs x (List.mem_of_getElem? hxi))
      obtain ⟨rb, off, cap, hq, hb, hcl⟩ := hat hr hxi
      obtain ⟨orl, oyr, onm⟩ := o
      simp only at hoi
      subst hoi
      unfold optV OccV.cells at cl
      unfold EraV.cells ValV.cells at *
      rw [hk] at cr
      rw [hq] at cl HH ⊢
      have d9 := hcl 9 _ rfl
      have d10 := hcl 10 _ rfl
      have Cr := Lib.hid cr
      have Cl := Lib.hid cl
      have Cv := Lib.hid cv
      clear cr cl cv cval hr hs hy hyx hl hlp hcl hxi hxn hq
      generalize l.length = n at *
      rw [hk]
      simp only
      go_enter Tryz.func26, Tryz.ntmps26
      go_upto_region 8 with (first
        | (go_at_call 43; (with_reducible refine (Cr.out _).mono ?_); rintro e w1 ⟨rfl, hb1⟩; obtain ⟨hc1, hf1⟩ := bcell hb1; have hc1_0 := fun o => hc1 (w.heap.size) o (by first | assumption | omega | (simp; done) | (simp; omega)); have hf1_0 := fun o => hf1 (w.heap.size) o (by first | assumption | omega | (simp; done) | (simp; omega)); have hc1_1 := fun o => hc1 (w.heap.size + 1) o (by first | assumption | omega | (simp; done) | (simp; omega)); have hf1_1 := fun o => hf1 (w.heap.size + 1) o (by first | assumption | omega | (simp; done) | (simp; omega)); have hc1_2 := fun o => hc1 (rb) o (by first | assumption | omega | (simp; done) | (simp; omega)); have hf1_2 := fun o => hf1 (rb) o (by first | assumption | omega | (simp; done) | (simp; omega)); clear hc1 hf1; have hz1_0 : w.heap.size < w1.heap.size := (by first | exact sz1 hb1 | exact sz2 hb1 | exact sz3 hb1 | (have := hb1.size; (try simp only [World.size_alloc] at this); omega)); have hz1_1 : w.heap.size + 1 < w1.heap.size := (by first | exact sz1 hb1 | exact sz2 hb1 | exact sz3 hb1 | (have := hb1.size; (try simp only [World.size_alloc, World.size_drew] at this); omega)); have hz1_2 : rb < w1.heap.size := (by first | exact sz1 hb1 | exact sz2 hb1 | exact sz3 hb1 | (have := hb1.size; (try simp only [World.size_alloc] at this); omega)))
        | (go_at_call 58; (with_reducible refine (Cl.out _ ?_).mono ?_); (· exact HH.out.later (by repeat (first | (with_reducible exact Below.refl _ _) | (with_reducible assumption) | (with_reducible refine ba ?_) | (with_reducible refine bd ?_) | (with_reducible refine bdn ?_ _) | (with_reducible refine bset ?_ (by first | exact Nat.le_refl _ | omega | (simp; done) | (simp; omega))) | (with_reducible refine bt ?_ (by with_reducible assumption))))); rintro e w2 ⟨rfl, hb2⟩; obtain ⟨hc2, hf2⟩ := bcell hb2; have hc2_0 := fun o => hc2 (w.heap.size) o (by first | assumption | omega | (simp; done) | (simp; omega)); have hf2_0 := fun o => hf2 (w.heap.size) o (by first | assumption | omega | (simp; done) | (simp; omega)); have hc2_1 := fun o => hc2 (w.heap.size + 1) o (by first | assumption | omega | (simp; done) | (simp; omega)); have hf2_1 := fun o => hf2 (w.heap.size + 1) o (by first | assumption | omega | (simp; done) | (simp; omega)); have hc2_2 := fun o => hc2 (rb) o (by first | assumption | omega | (simp; done) | (simp; omega)); have hf2_2 := fun o => hf2 (rb) o (by first | assumption | omega | (simp; done) | (simp; omega)); clear hc2 hf2; have hz2_0 : w.heap.size < w2.heap.size := (by first | exact sz1 hb2 | exact sz2 hb2 | exact sz3 hb2 | (have := hb2.size; (try simp only [World.size_alloc, World.size_drew] at this); omega)); have hz2_1 : w.heap.size + 1 < w2.heap.size := (by first | exact sz1 hb2 | exact sz2 hb2 | exact sz3 hb2 | (have := hb2.size; (try simp only [World.size_alloc, World.size_drew] at this); omega)); have hz2_2 : rb < w2.heap.size := (by first | exact sz1 hb2 | exact sz2 hb2 | exact sz3 hb2 | (have := hb2.size; (try simp only [World.size_alloc, World.size_drew] at this); omega))))
      go_region_with ((go_at_call 57; (with_reducible refine (Cv.out _).mono ?_); rintro e w3 ⟨rfl, hb3⟩; obtain ⟨hc3, hf3⟩ := bcell hb3; have hc3_0 := fun o => hc3 (w.heap.size) o (by first | assumption | omega | (simp; done) | (simp; omega)); have hf3_0 := fun o => hf3 (w.heap.size) o (by first | assumption | omega | (simp; done) | (simp; omega)); have hc3_1 := fun o => hc3 (w.heap.size + 1) o (by first | assumption | omega | (simp; done) | (simp; omega)); have hf3_1 := fun o => hf3 (w.heap.size + 1) o (by first | assumption | omega | (simp; done) | (simp; omega)); clear hc3 hf3; have hz3_0 : w.heap.size < w3.heap.size := (by first | exact sz1 hb3 | exact sz2 hb3 | exact sz3 hb3 | (have := hb3.size; (try simp only [World.size_alloc, World.size_drew] at this); omega)); have hz3_1 : w.heap.size + 1 < w3.heap.size := (by first | exact sz1 hb3 | exact sz2 hb3 | exact sz3 hb3 | (have := hb3.size; (try simp only [World.size_alloc, World.size_drew] at this); omega))))
      all_goals
        go_wp2
        refine bodyPost_ret (v := .tuple #[.agg #[.int .i64 y.off, .int .i64 y.save, .string y.abbr], .int .i64 0]) ?_ rfl ⟨rfl, ?_⟩
        · simp only [results, Tryz.results26]
          go_simp
        · repeat (first | (with_reducible exact Below.refl _ _) | (with_reducible assumption) | (with_reducible refine ba ?_) | (with_reducible refine bd ?_) | (with_reducible refine bdn ?_ _) | (with_reducible refine bset ?_ (by first | exact Nat.le_refl _ | omega | (simp; done) | (simp; omega))) | (with_reducible refine bt ?_ (by with_reducible assumption)))
end RFrc
end Go.Proofs.YtkpjhgkmjcdobaaGreatDoor
