import Derived.Test.YtkpjhgkmjcdobaaGreatDoorRForceX
import Derived.Test.YtkpjhgkmjcdobaaGreatDoorForceY
/-
  noontideref33.Prev.
-/
namespace Go.Proofs.YtkpjhgkmjcdobaaGreatDoor
open Go.RowKit NB Nxt
namespace RFrc
open Frc
set_option maxHeartbeats 3200000 in
set_option maxRecDepth 100000 in
theorem prev0 {w : World} {r : Value} {l : List RuleV} (hr : Holds w r l) (e : EraV) (he : e.Fit) (t : Int) (hs : ∀ x ∈ l, x.letter.size ≤ 1000000) (hn : l.length ≤ 100000) (h : ¬ (Er.rightB e = true ∧ e.kind = 2)) :
    Calls Tryz.prog 30 #[r, .agg e.cells.toArray, .int .i64 t] w fun x w' => x = .returned (.tuple #[.int .i64 0, .bool false]) ∧ Below w.heap.size w w' := by
  have ca := fun W (h : Holds W r l) => At h e he t hs hn
  have HH := Lib.hid hr
  obtain ⟨y, s, hys, hc⟩ : ∃ y s, atV l e t = (y, s) ∧ (¬ s = 0 ∨ (s = 0 ∧ ¬ e.kind = 2)) := by
    unfold atV
    cases hR : Er.rightB e
    · exact ⟨_, _, rfl, .inl (by decide)⟩
    · have hk : ¬ e.kind = 2 := fun hk => h ⟨hR, hk⟩
      rw [if_pos rfl, if_neg hk]
      exact ⟨_, _, rfl, .inr ⟨rfl, hk⟩⟩
  rw [hys] at ca
  obtain ⟨rp, rc, rfl⟩ := hr.form
  unfold EraV.cells ValV.cells at *
  simp only at ca
  have Ca := Lib.hid ca
  clear ca hr hs hys h
  rcases hc with hs0 | ⟨rfl, hk⟩
  all_goals
    go_enter Tryz.func30, Tryz.ntmps30
    go_wp2_with (go_at_call 26; (with_reducible refine (Ca.out _ ?_).mono ?_); (· exact HH.out.later (by repeat (first | (with_reducible exact Below.refl _ _) | (with_reducible assumption) | (with_reducible refine ba ?_) | (with_reducible refine bd ?_) | (with_reducible refine bdn ?_ _) | (with_reducible refine bset ?_ (by first | exact Nat.le_refl _ | omega | (simp; done) | (simp; omega))) | (with_reducible refine bt ?_ (by with_reducible assumption))))); rintro e w1 ⟨rfl, hb1⟩; obtain ⟨hc1, hf1⟩ := bcell hb1; have hc1_0 := fun o => hc1 (w.heap.size) o (by first | assumption | omega | (simp; done) | (simp; omega)); have hf1_0 := fun o => hf1 (w.heap.size) o (by first | assumption | omega | (simp; done) | (simp; omega)); clear hc1 hf1; have hz1_0 : w.heap.size < w1.heap.size := (by first | exact sz1 hb1 | exact sz2 hb1 | exact sz3 hb1 | (have := hb1.size; (try simp only [World.size_alloc, World.size_drew] at this); omega)))
    go_ret2
    exact ⟨rfl, by repeat (first | (with_reducible exact Below.refl _ _) | (with_reducible assumption) | (with_reducible refine ba ?_) | (with_reducible refine bd ?_) | (with_reducible refine bdn ?_ _) | (with_reducible refine bset ?_ (by first | exact Nat.le_refl _ | omega | (simp; done) | (simp; omega))) | (with_reducible refine bt ?_ (by with_reducible assumption)))⟩
set_option maxHeartbeats 3200000 in
set_option maxRecDepth 100000 in
theorem prev1 {w : World} {r : Value} {l : List RuleV} (hr : Holds w r l) (e : EraV) (he : e.Fit) (t : Int) (hs : ∀ x ∈ l, x.letter.size ≤ 1000000) (hn : l.length ≤ 100000) (hR : Er.rightB e = true) (hk : e.kind = 2) :
    Calls Tryz.prog 30 #[r, .agg e.cells.toArray, .int .i64 t] w fun x w' => x = .returned (.tuple #[.int .i64 (tell l e (prevF l e t)).1, .bool (tell l e (prevF l e t)).2]) ∧ Below w.heap.size w w' := by
  have hne := rules_ne hR hk
  have hm : Chn.may e.off = true := Chn.may_iff.2 (Unt.right_spec hR).1
  obtain ⟨v, hv⟩ : ∃ v, v = stateV l e t := ⟨_, rfl⟩
  have ca : ∀ W, Holds W r l → Calls Tryz.prog 26 #[r, .agg #[.int .i64 e.off, .int .i64 2, .int .i64 e.save, .string e.rules, .string e.format, .bool e.u.has, .int .i64 e.u.year, .int .i64 e.u.month, .int .i64 e.u.kind, .int .i64 e.u.week, .int .i64 e.u.day, .int .i64 e.u.sec, .int .i64 e.u.base], .int .i64 t] W fun z w' => z = .returned (.tuple #[.agg #[.int .i64 v.off, .int .i64 v.save, .string v.abbr], .int .i64 0]) ∧ Below W.heap.size W w' := fun W h => by
    have := At h e he t hs hn
    rw [show atV l e t = (v, 0) by unfold atV; rw [if_pos hR, if_pos hk, hv]] at this
    unfold EraV.cells at this
    rw [hk] at this
    exact this
  have cq : ∀ W, Holds W r l → Calls Tryz.prog 64 #[r, .agg #[.int .i64 e.off, .int .i64 2, .int .i64 e.save, .string e.rules, .string e.format, .bool e.u.has, .int .i64 e.u.year, .int .i64 e.u.month, .int .i64 e.u.kind, .int .i64 e.u.week, .int .i64 e.u.day, .int .i64 e.u.sec, .int .i64 e.u.base], .agg #[.int .i64 v.off, .int .i64 v.save, .string v.abbr]] W fun z w' => ∃ v', z = .returned v' ∧ Holds w' v' (othV l e v) ∧ Below W.heap.size W w' := fun W h => by
    have := others h e he v hs hn
    unfold EraV.cells at this
    rw [hk] at this
    exact this
  have cl := fun W (h : Holds W r l) => RCh.Last h e.rules e.off t
  rw [show Chn.lastO l e.rules e.off t = lastP l e t from rfl] at cl
  obtain ⟨F, hF⟩ : ∃ F, F = firstV l e := ⟨_, rfl⟩
  have cf : ∀ W, Holds W r l → Calls Tryz.prog 59 #[r, .agg #[.int .i64 e.off, .int .i64 2, .int .i64 e.save, .string e.rules, .string e.format, .bool e.u.has, .int .i64 e.u.year, .int .i64 e.u.month, .int .i64 e.u.kind, .int .i64 e.u.week, .int .i64 e.u.day, .int .i64 e.u.sec, .int .i64 e.u.base]] W fun z w' => z = .returned (.agg #[.int .i64 F.off, .int .i64 F.save, .string F.abbr]) ∧ Below W.heap.size W w' := fun W h => by
    have := first h e he hs hn
    unfold EraV.cells at this
    rw [hk, ← hF] at this
    exact this
  obtain ⟨R, hRR⟩ : ∃ R, R = prevF l e t := ⟨_, rfl⟩
  rw [← hRR]
  unfold prevF at hRR
  rw [← hv, ← hF] at hRR
  have cx := fun W (h : Holds W r l) fr hf => RNxH.Next h e.rules fr hf
  have ci : ∀ W o, Holds W r l → Occ.All l e.rules l.length o → Calls Tryz.prog 65 #[r, .string e.rules, .int .i64 e.off, .agg #[.int .i64 o.rule, .int .i64 o.year, .int .i64 o.nom]] W fun z w' => z = .returned (.tuple #[.int .i64 (Chn.inst l e.rules e.off o), .int .i64 0]) ∧ Below W.heap.size W w' := fun W o h ho => by
    have := RCh.Instant h e.rules e.off o
    rw [Chn.instE_all hm ho] at this
    exact this
  have HH := Lib.hid hr
  cases hlp : lastP l e t with
  | none =>
    rw [hlp] at hRR cl
    replace hRR : R = none := hRR
    subst hRR
    unfold optV at cl
    obtain ⟨rp, rc, rfl⟩ := hr.form
    unfold EraV.cells
    have Ca := Lib.hid ca
    have Cl := Lib.hid cl
    clear ca cl cq cf cx ci hr hs hv hF hne hm hlp
    generalize hnl : l.length = n at *
    clear hnl
    rw [hk]
    simp only at Cl
    go_enter Tryz.func30, Tryz.ntmps30
    go_wp2_with (first
      | (go_at_call 26; (with_reducible refine (Ca.out _ ?_).mono ?_); (· exact HH.out.later (by repeat (first | (with_reducible exact Below.refl _ _) | (with_reducible assumption) | (with_reducible refine ba ?_) | (with_reducible refine bd ?_) | (with_reducible refine bdn ?_ _) | (with_reducible refine bset ?_ (by first | exact Nat.le_refl _ | omega | (simp; done) | (simp; omega))) | (with_reducible refine bt ?_ (by with_reducible assumption))))); rintro e w1 ⟨rfl, hb1⟩; obtain ⟨hc1, hf1⟩ := bcell hb1; have hc1_0 := fun o => hc1 (w.heap.size) o (by first | assumption | omega | (simp; done) | (simp; omega)); have hf1_0 := fun o => hf1 (w.heap.size) o (by first | assumption | omega | (simp; done) | (simp; omega)); clear hc1 hf1; have hz1_0 : w.heap.size < w1.heap.size := (by first | exact sz1 hb1 | exact sz2 hb1 | exact sz3 hb1 | (have := hb1.size; (try simp only [World.size_alloc, World.size_drew] at this); omega)))
      | (go_at_call 58; (with_reducible refine (Cl.out _ ?_).mono ?_); (· exact HH.out.later (by repeat (first | (with_reducible exact Below.refl _ _) | (with_reducible assumption) | (with_reducible refine ba ?_) | (with_reducible refine bd ?_) | (with_reducible refine bdn ?_ _) | (with_reducible refine bset ?_ (by first | exact Nat.le_refl _ | omega | (simp; done) | (simp; omega))) | (with_reducible refine bt ?_ (by with_reducible assumption))))); rintro e w2 ⟨rfl, hb2⟩; obtain ⟨hc2, hf2⟩ := bcell hb2; have hc2_0 := fun o => hc2 (w.heap.size) o (by first | assumption | omega | (simp; done) | (simp; omega)); have hf2_0 := fun o => hf2 (w.heap.size) o (by first | assumption | omega | (simp; done) | (simp; omega)); have hc2_1 := fun o => hc2 (w1.heap.size) o (by first | assumption | omega | (simp; done) | (simp; omega)); have hf2_1 := fun o => hf2 (w1.heap.size) o (by first | assumption | omega | (simp; done) | (simp; omega)); clear hc2 hf2; have hz2_0 : w.heap.size < w2.heap.size := (by first | exact sz1 hb2 | exact sz2 hb2 | exact sz3 hb2 | (have := hb2.size; (try simp only [World.size_alloc] at this); omega)); have hz2_1 : w1.heap.size < w2.heap.size := (by first | exact sz1 hb2 | exact sz2 hb2 | exact sz3 hb2 | (have := hb2.size; (try simp only [World.size_alloc, World.size_drew] at this); omega))))
    go_ret2
    exact ⟨rfl, by repeat (first | (with_reducible exact Below.refl _ _) | (with_reducible assumption) | (with_reducible refine ba ?_) | (with_reducible refine bd ?_) | (with_reducible refine bdn ?_ _) | (with_reducible refine bset ?_ (by first | exact Nat.le_refl _ | omega | (simp; done) | (simp; omega))) | (with_reducible refine bt ?_ (by with_reducible assumption)))⟩
  | some fr =>
    rw [hlp] at hRR cl
    have hfA := last_all hlp
    have hfn : I64 fr.nom := by have := Chn.all_range hfA; unfold I64; omega
    obtain ⟨P, hP⟩ : ∃ P, P = Occ.prevO (othV l e v) e.rules fr := ⟨_, rfl⟩
    have cp := fun W u (h : Holds W u (othV l e v)) => RNxH.Prev h e.rules fr hfn
    rw [← hP] at cp
    replace hRR : R = prevR l e F v P := by rw [hP]; exact hRR
    have hbp := Occ.best_prev (othV l e v) e.rules fr
    rw [oth_len, ← hP] at hbp
    obtain ⟨src, hsrc, hsn⟩ : ∃ src : OccV, ((P = none ∧ F = v) ∨ (∃ o, prevR l e F v P = some o ∧ Occ.nextO l e.rules src = some o ∧ Occ.All l e.rules l.length o)) ∧ I64 src.nom ∧ ((P = none ∧ src = startR) ∨ P = some src) := by
      cases P with
      | none =>
        refine ⟨startR, ?_, by show I64 (-2000000000000); unfold I64; decide, .inl ⟨rfl, rfl⟩⟩
        by_cases hf : F = v
        · exact .inl ⟨rfl, hf⟩
        · refine .inr ?_
          have hb := Occ.best_next l e.rules startO
          rw [show prevR l e F v none = Occ.nextO l e.rules startO by unfold prevR; rw [if_neg hf], start_same]
          cases hy : Occ.nextO l e.rules startO with
          | none =>
            rw [hy] at hb
            have := hb fr hfA
            rw [Occ.less_iff.2 (.inl (by have := Chn.all_range hfA; show (-2192387558400 : Int) < fr.nom; omega))] at this
            cases this
          | some y => rw [hy] at hb; exact ⟨y, rfl, rfl, hb.1⟩
      | some x =>
        obtain ⟨g1, g2, _⟩ := hbp
        have gA := ((all_oth hne).1 g1).1
        refine ⟨x, .inr ?_, by have := Chn.all_range gA; unfold I64; omega, .inr rfl⟩
        have hb := Occ.best_next l e.rules x
        show ∃ o, Occ.nextO l e.rules x = some o ∧ _
        cases hy : Occ.nextO l e.rules x with
        | none =>
          rw [hy] at hb
          have := hb fr hfA
          rw [show Occ.less x fr = true from g2] at this
          cases this
        | some y => rw [hy] at hb; exact ⟨y, rfl, rfl, hb.1⟩
    rw [← hRR] at hsrc
    unfold optV OccV.cells at *
    obtain ⟨rp, rc, rfl⟩ := hr.form
    unfold EraV.cells
    have Ca := Lib.hid ca
    have Cl := Lib.hid cl
    have Cq := Lib.hid cq
    have Cf := Lib.hid cf
    have Cx := Lib.hid cx
    have Cp := Lib.hid cp
    have Ci := Lib.hid ci
    have Hsrc := Lib.hid hsrc
    have Hsn := Lib.hid hsn
    clear ca cl cq cf cx cp ci hr hs hv hF hne hm hlp hsrc hsn hbp hfA hfn hP
    generalize hnl : l.length = n at *
    clear hnl
    rw [hk]
    simp only at Cl
    go_enter Tryz.func30, Tryz.ntmps30
    go_upto_region 7 with (first
      | (go_at_call 26; (with_reducible refine (Ca.out _ ?_).mono ?_); (· exact HH.out.later (by repeat (first | (with_reducible exact Below.refl _ _) | (with_reducible assumption) | (with_reducible refine ba ?_) | (with_reducible refine bd ?_) | (with_reducible refine bdn ?_ _) | (with_reducible refine bset ?_ (by first | exact Nat.le_refl _ | omega | (simp; done) | (simp; omega))) | (with_reducible refine bt ?_ (by with_reducible assumption))))); rintro e w1 ⟨rfl, hb1⟩; obtain ⟨hc1, hf1⟩ := bcell hb1; have hc1_0 := fun o => hc1 (w.heap.size) o (by first | assumption | omega | (simp; done) | (simp; omega)); have hf1_0 := fun o => hf1 (w.heap.size) o (by first | assumption | omega | (simp; done) | (simp; omega)); clear hc1 hf1; have hz1_0 : w.heap.size < w1.heap.size := (by first | exact sz1 hb1 | exact sz2 hb1 | exact sz3 hb1 | (have := hb1.size; (try simp only [World.size_alloc, World.size_drew] at this); omega)))
      | (go_at_call 58; (with_reducible refine (Cl.out _ ?_).mono ?_); (· exact HH.out.later (by repeat (first | (with_reducible exact Below.refl _ _) | (with_reducible assumption) | (with_reducible refine ba ?_) | (with_reducible refine bd ?_) | (with_reducible refine bdn ?_ _) | (with_reducible refine bset ?_ (by first | exact Nat.le_refl _ | omega | (simp; done) | (simp; omega))) | (with_reducible refine bt ?_ (by with_reducible assumption))))); rintro e w2 ⟨rfl, hb2⟩; obtain ⟨hc2, hf2⟩ := bcell hb2; have hc2_0 := fun o => hc2 (w.heap.size) o (by first | assumption | omega | (simp; done) | (simp; omega)); have hf2_0 := fun o => hf2 (w.heap.size) o (by first | assumption | omega | (simp; done) | (simp; omega)); have hc2_1 := fun o => hc2 (w1.heap.size) o (by first | assumption | omega | (simp; done) | (simp; omega)); have hf2_1 := fun o => hf2 (w1.heap.size) o (by first | assumption | omega | (simp; done) | (simp; omega)); clear hc2 hf2; have hz2_0 : w.heap.size < w2.heap.size := (by first | exact sz1 hb2 | exact sz2 hb2 | exact sz3 hb2 | (have := hb2.size; (try simp only [World.size_alloc] at this); omega)); have hz2_1 : w1.heap.size < w2.heap.size := (by first | exact sz1 hb2 | exact sz2 hb2 | exact sz3 hb2 | (have := hb2.size; (try simp only [World.size_alloc, World.size_drew] at this); omega))))
    have b4 : Box (w2.alloc (.cells #[.int .i64 fr.rule, .int .i64 fr.year, .int .i64 fr.nom] 53)) w.heap.size #[.int .i64 e.off, .int .i64 2, .int .i64 e.save, .string e.rules, .string e.format, .bool e.u.has, .int .i64 e.u.year, .int .i64 e.u.month, .int .i64 e.u.kind, .int .i64 e.u.week, .int .i64 e.u.day, .int .i64 e.u.sec, .int .i64 e.u.base] 30 := by repeat (first | (with_reducible assumption) | (with_reducible exact Box.new _ _ _) | (with_reducible refine Box.old ?_) | (with_reducible refine Box.drew ?_) | (with_reducible refine Box.drewN ?_ _) | (with_reducible refine Box.other ?_ (by first | assumption | omega | (simp; omega))) | (with_reducible refine Box.later ?_ (by with_reducible assumption)))
    have b8 : Box (w2.alloc (.cells #[.int .i64 fr.rule, .int .i64 fr.year, .int .i64 fr.nom] 53)) w1.heap.size #[.int .i64 v.off, .int .i64 v.save, .string v.abbr] 58 := by repeat (first | (with_reducible assumption) | (with_reducible exact Box.new _ _ _) | (with_reducible refine Box.old ?_) | (with_reducible refine Box.drew ?_) | (with_reducible refine Box.drewN ?_ _) | (with_reducible refine Box.other ?_ (by first | assumption | omega | (simp; omega))) | (with_reducible refine Box.later ?_ (by with_reducible assumption)))
    have b10 : Box (w2.alloc (.cells #[.int .i64 fr.rule, .int .i64 fr.year, .int .i64 fr.nom] 53)) w2.heap.size #[.int .i64 fr.rule, .int .i64 fr.year, .int .i64 fr.nom] 53 := Box.new _ _ _
    have hX : Below w.heap.size w (w2.alloc (.cells #[.int .i64 fr.rule, .int .i64 fr.year, .int .i64 fr.nom] 53)) := by repeat (first | (with_reducible exact Below.refl _ _) | (with_reducible assumption) | (with_reducible refine ba ?_) | (with_reducible refine bd ?_) | (with_reducible refine bdn ?_ _) | (with_reducible refine bset ?_ (by first | exact Nat.le_refl _ | omega | (simp; done) | (simp; omega))) | (with_reducible refine bt ?_ (by with_reducible assumption)))
    generalize (w2.alloc (.cells #[.int .i64 fr.rule, .int .i64 fr.year, .int .i64 fr.nom] 53)) = X at *
    obtain ⟨p8, hp8⟩ : ∃ p, p = w1.heap.size := ⟨_, rfl⟩
    obtain ⟨p10, hp10⟩ : ∃ p, p = w2.heap.size := ⟨_, rfl⟩
    rw [← hp8] at b8 ⊢
    rw [← hp10] at b10 ⊢
    have hSF : ∀ u : World, Below X.heap.size X u → (∀ o, u.cell? ⟨w.heap.size, o, none⟩ = (#[.int .i64 e.off, .int .i64 2, .int .i64 e.save, .string e.rules, .string e.format, .bool e.u.has, .int .i64 e.u.year, .int .i64 e.u.month, .int .i64 e.u.kind, .int .i64 e.u.week, .int .i64 e.u.day, .int .i64 e.u.sec, .int .i64 e.u.base] : Array Value)[o]?) ∧ (∀ o, u.cell? ⟨p8, o, none⟩ = (#[.int .i64 v.off, .int .i64 v.save, .string v.abbr] : Array Value)[o]?) ∧ (∀ o, u.cell? ⟨p10, o, none⟩ = (#[.int .i64 fr.rule, .int .i64 fr.year, .int .i64 fr.nom] : Array Value)[o]?) := fun u hu => ⟨(b4.later hu).cell, (b8.later hu).cell, (b10.later hu).cell⟩
    have HSF := Lib.hid hSF
    have HHX := Lib.hid (HH.out.later hX)
    have HX := Lib.hid hX
    have H4 := Lib.hid b4
    have H8 := Lib.hid b8
    have l4 := b4.lt
    have l8 := b8.lt
    clear b4 b8 b10 hX hp8 hp10 hSF hb1 hb2 hc1_0 hf1_0 hc2_0 hf2_0 hc2_1 hf2_1 hz1_0 hz2_0 hz2_1
    rcases P with _ | x
    case' none =>
      have cp : ∀ W u, Holds W u (othV l e v) → Calls Tryz.prog 68 #[u, .string e.rules, .agg #[.int .i64 fr.rule, .int .i64 fr.year, .int .i64 fr.nom]] W fun z w' => z = .returned (.tuple #[.agg #[.int .i64 0, .int .i64 0, .int .i64 0], .bool false]) ∧ Below W.heap.size W w' := fun W u h => Cp.out W u h
      obtain ⟨oo, g, hoo⟩ : ∃ (oo : OccV) (g : Bool), oo = ⟨0, 0, 0⟩ ∧ g = false := ⟨_, _, rfl, rfl⟩
    case' some =>
      have cp : ∀ W u, Holds W u (othV l e v) → Calls Tryz.prog 68 #[u, .string e.rules, .agg #[.int .i64 fr.rule, .int .i64 fr.year, .int .i64 fr.nom]] W fun z w' => z = .returned (.tuple #[.agg #[.int .i64 x.rule, .int .i64 x.year, .int .i64 x.nom], .bool true]) ∧ Below W.heap.size W w' := fun W u h => Cp.out W u h
      obtain ⟨oo, g, hoo⟩ : ∃ (oo : OccV) (g : Bool), oo = x ∧ g = true := ⟨_, _, rfl, rfl⟩
    all_goals
      have CP := Lib.hid cp
      clear cp Cp
      obtain ⟨hoo, hg⟩ := hoo
      have HOO := Lib.hid hoo
      have HG := Lib.hid hg
      clear hoo hg
      go_cut [12, 13] from 42 to 52 (fun s12 s13 wx => ∃ p12 : Nat, s12 = .pointer (some ⟨p12, 0, none⟩) ∧ s13 = .bool g ∧ X.heap.size ≤ p12 ∧ Box wx p12 #[.int .i64 oo.rule, .int .i64 oo.year, .int .i64 oo.nom] 53 ∧ Box wx w.heap.size #[.int .i64 e.off, .int .i64 2, .int .i64 e.save, .string e.rules, .string e.format, .bool e.u.has, .int .i64 e.u.year, .int .i64 e.u.month, .int .i64 e.u.kind, .int .i64 e.u.week, .int .i64 e.u.day, .int .i64 e.u.sec, .int .i64 e.u.base] 30 ∧ Box wx p8 #[.int .i64 v.off, .int .i64 v.save, .string v.abbr] 58 ∧ Below X.heap.size X wx)
      case first =>
        go_region_held3 (fun w' => (∀ o, w'.cell? ⟨w.heap.size, o, none⟩ = (#[.int .i64 e.off, .int .i64 2, .int .i64 e.save, .string e.rules, .string e.format, .bool e.u.has, .int .i64 e.u.year, .int .i64 e.u.month, .int .i64 e.u.kind, .int .i64 e.u.week, .int .i64 e.u.day, .int .i64 e.u.sec, .int .i64 e.u.base] : Array Value)[o]?) ∧ (∀ o, w'.cell? ⟨p8, o, none⟩ = (#[.int .i64 v.off, .int .i64 v.save, .string v.abbr] : Array Value)[o]?) ∧ (∀ o, w'.cell? ⟨p10, o, none⟩ = (#[.int .i64 fr.rule, .int .i64 fr.year, .int .i64 fr.nom] : Array Value)[o]?)) ((refine HSF.out _ ?_; repeat (first | (with_reducible exact Below.refl _ _) | (with_reducible assumption) | (with_reducible refine ba ?_) | (with_reducible refine bd ?_) | (with_reducible refine bdn ?_ _) | (with_reducible refine bset ?_ (by first | exact Nat.le_refl _ | omega | (simp; done) | (simp; omega))) | (with_reducible refine bt ?_ (by with_reducible assumption))))) (first
          | (go_at_call 64; (with_reducible refine (Cq.out _ ?_).mono ?_); (· exact HHX.out.later (by repeat (first | (with_reducible exact Below.refl _ _) | (with_reducible assumption) | (with_reducible refine ba ?_) | (with_reducible refine bd ?_) | (with_reducible refine bdn ?_ _) | (with_reducible refine bset ?_ (by first | exact Nat.le_refl _ | omega | (simp; done) | (simp; omega))) | (with_reducible refine bt ?_ (by with_reducible assumption))))); rintro z w4 ⟨u4, rfl, hvo, hb4⟩; obtain ⟨hcq4, hfq4⟩ := bcell hb4; (try have hc4_t0 := fun o => hcq4 (X.heap.size) o (by first | assumption | omega | (simp; done) | (simp; omega))); (try have hf4_t0 := fun o => hfq4 (X.heap.size) o (by first | assumption | omega | (simp; done) | (simp; omega))); clear hcq4 hfq4; (try have hs4' : X.heap.size < w4.heap.size := (by have := hb4.size; (try simp only [World.size_drew] at this); (try simp only [World.size_alloc] at this); (try simp only [World.size_drew] at this); omega)); have hs4 : X.heap.size ≤ w4.heap.size := (by have := hb4.size; (try simp only [World.size_drew] at this); (try simp only [World.size_alloc] at this); (try simp only [World.size_drew] at this); omega))
          | (go_at_call 68; (with_reducible refine (CP.out _ _ ?_).mono ?_); (· exact hvo.later (by repeat (first | (with_reducible exact Below.refl _ _) | (with_reducible assumption) | (with_reducible refine ba ?_) | (with_reducible refine bd ?_) | (with_reducible refine bdn ?_ _) | (with_reducible refine bset ?_ (by first | exact Nat.le_refl _ | omega | (simp; done) | (simp; omega))) | (with_reducible refine bt ?_ (by with_reducible assumption))))); rintro z w5 ⟨rfl, hb5⟩; obtain ⟨hcq5, hfq5⟩ := bcell hb5; (try have hc5_t0 := fun o => hcq5 (X.heap.size) o (by first | assumption | omega | (simp; done) | (simp; omega))); (try have hf5_t0 := fun o => hfq5 (X.heap.size) o (by first | assumption | omega | (simp; done) | (simp; omega))); (try have hc5_t1 := fun o => hcq5 (w4.heap.size) o (by first | assumption | omega | (simp; done) | (simp; omega))); (try have hf5_t1 := fun o => hfq5 (w4.heap.size) o (by first | assumption | omega | (simp; done) | (simp; omega))); clear hcq5 hfq5; have hs5 : w4.heap.size ≤ w5.heap.size := (by have := hb5.size; (try simp only [World.size_drew] at this); (try simp only [World.size_alloc] at this); (try simp only [World.size_drew] at this); omega)))
        all_goals
          go_wp2
          go_meet
          have hoo := HOO.out
          have hg := HG.out
          subst hoo
          subst hg
          have b4 := H4.out
          have b8 := H8.out
          refine ⟨_, rfl, rfl, by omega, ?_, ?_, ?_, ?_⟩
          · first
              | with_reducible exact Box.new _ _ _
              | (with_reducible refine Box.set3 (x := .int .i64 0) (y := .int .i64 0) (z := .int .i64 0) ?_
                 repeat (first | with_reducible exact Box.new _ _ _ | with_reducible refine Box.drew ?_ | with_reducible refine Box.later ?_ hb5 | with_reducible refine Box.later ?_ hb4))
          · repeat (first | (with_reducible assumption) | (with_reducible exact Box.new _ _ _) | (with_reducible refine Box.old ?_) | (with_reducible refine Box.drew ?_) | (with_reducible refine Box.drewN ?_ _) | (with_reducible refine Box.other ?_ (by first | assumption | omega | (simp; omega))) | (with_reducible refine Box.later ?_ (by with_reducible assumption)))
          · repeat (first | (with_reducible assumption) | (with_reducible exact Box.new _ _ _) | (with_reducible refine Box.old ?_) | (with_reducible refine Box.drew ?_) | (with_reducible refine Box.drewN ?_ _) | (with_reducible refine Box.other ?_ (by first | assumption | omega | (simp; omega))) | (with_reducible refine Box.later ?_ (by with_reducible assumption)))
          · repeat (first | (with_reducible exact Below.refl _ _) | (with_reducible assumption) | (with_reducible refine ba ?_) | (with_reducible refine bd ?_) | (with_reducible refine bdn ?_ _) | (with_reducible refine bset ?_ (by first | exact Nat.le_refl _ | omega | (simp; done) | (simp; omega))) | (with_reducible refine bt ?_ (by with_reducible assumption)))
    · obtain ⟨p12, rfl, rfl, hp12, b12, b4, b8, hbel⟩ := hcut
      have hoo := HOO.out
      have hg := HG.out
      subst hoo
      subst hg
      have hsr : src = oo := by
        rcases Hsn.out.2 with h | h
        · cases h.1
        · cases h
          rfl
      subst hsr
      obtain ⟨o, hRo, hNx, hAo⟩ : ∃ o, R = some o ∧ Occ.nextO l e.rules src = some o ∧ Occ.All l e.rules n o := by
        rcases Hsrc.out with ⟨h, _⟩ | h
        · cases h
        · exact h
      clear hRR
      subst hRo
      obtain ⟨io, hio⟩ : ∃ io, io = Chn.inst l e.rules e.off o := ⟨_, rfl⟩
      have cx : ∀ W, Holds W (.slice rp n rc) l → Calls Tryz.prog 63 #[.slice rp n rc, .string e.rules, .agg #[.int .i64 src.rule, .int .i64 src.year, .int .i64 src.nom]] W fun z w' => z = .returned (.tuple #[.agg #[.int .i64 o.rule, .int .i64 o.year, .int .i64 o.nom], .bool true]) ∧ Below W.heap.size W w' := fun W h => by have := Cx.out W h src Hsn.out.1; rw [hNx] at this; exact this
      have ci : ∀ W, Holds W (.slice rp n rc) l → Calls Tryz.prog 65 #[.slice rp n rc, .string e.rules, .int .i64 e.off, .agg #[.int .i64 o.rule, .int .i64 o.year, .int .i64 o.nom]] W fun z w' => z = .returned (.tuple #[.int .i64 io, .int .i64 0]) ∧ Below W.heap.size W w' := fun W h => by rw [hio]; exact Ci.out W o h hAo
      have HIO := Lib.hid hio
      have CX := Lib.hid cx
      have CI := Lib.hid ci
      clear hio cx ci Cx Ci hNx hAo Hsrc Hsn
      have k4 := b4.cell
      have l4c := b4.lt
      have k8 := b8.cell
      have l8c := b8.lt
      have k12 := b12.cell
      have l12 := b12.lt
      have f12 := b12.free
      have H12 := Lib.hid b12
      have H4c := Lib.hid b4
      clear b12 b4 b8
      go_upto_region 8 with fail
      go_quiet (fail)
      have b12 := H12.out
      have b4 := H4c.out
      generalize hY : wc.drewN _ = Y
      replace b12 : Box Y p12 #[.int .i64 src.rule, .int .i64 src.year, .int .i64 src.nom] 53 := by rw [← hY]; exact Box.drewN b12 _
      replace b4 : Box Y w.heap.size #[.int .i64 e.off, .int .i64 2, .int .i64 e.save, .string e.rules, .string e.format, .bool e.u.has, .int .i64 e.u.year, .int .i64 e.u.month, .int .i64 e.u.kind, .int .i64 e.u.week, .int .i64 e.u.day, .int .i64 e.u.sec, .int .i64 e.u.base] 30 := by rw [← hY]; exact Box.drewN b4 _
      replace hbel : Below X.heap.size X Y := by rw [← hY]; exact bdn hbel _
      clear hY H12 H4c k4 l4c k8 l8c k12 l12 f12
      have k4 := b4.cell
      have l4c := b4.lt
      have k12 := b12.cell
      have l12 := b12.lt
      have f12 := b12.free
      clear b12 b4
      go_wp2_with (first
        | (go_at_call 63; (with_reducible refine (CX.out _ ?_).mono ?_); (· exact HHX.out.later (by repeat (first | (with_reducible exact Below.refl _ _) | (with_reducible assumption) | (with_reducible refine ba ?_) | (with_reducible refine bd ?_) | (with_reducible refine bdn ?_ _) | (with_reducible refine bset ?_ (by first | exact Nat.le_refl _ | omega | (simp; done) | (simp; omega))) | (with_reducible refine bt ?_ (by with_reducible assumption))))); rintro e w7 ⟨rfl, hb7⟩; obtain ⟨hc7, hf7⟩ := bcell hb7; have hc7_0 := fun o => hc7 (w.heap.size) o (by first | assumption | omega | (simp; done) | (simp; omega)); have hf7_0 := fun o => hf7 (w.heap.size) o (by first | assumption | omega | (simp; done) | (simp; omega)); have hc7_1 := fun o => hc7 (p12) o (by first | assumption | omega | (simp; done) | (simp; omega)); have hf7_1 := fun o => hf7 (p12) o (by first | assumption | omega | (simp; done) | (simp; omega)); clear hc7 hf7; have hz7_0 : w.heap.size < w7.heap.size := (by first | exact sz1 hb7 | exact sz2 hb7 | exact sz3 hb7 | (have := hb7.size; (try simp only [World.size_alloc, World.size_drew] at this); omega)); have hz7_1 : p12 < w7.heap.size := (by first | exact sz1 hb7 | exact sz2 hb7 | exact sz3 hb7 | (have := hb7.size; (try simp only [World.size_alloc, World.size_drew] at this); omega)))
        | (go_at_call 65; (with_reducible refine (CI.out _ ?_).mono ?_); (· exact HHX.out.later (by repeat (first | (with_reducible exact Below.refl _ _) | (with_reducible assumption) | (with_reducible refine ba ?_) | (with_reducible refine bd ?_) | (with_reducible refine bdn ?_ _) | (with_reducible refine bset ?_ (by first | exact Nat.le_refl _ | omega | (simp; done) | (simp; omega))) | (with_reducible refine bt ?_ (by with_reducible assumption))))); rintro z w8 ⟨rfl, hb8⟩))
      have hX := HX.out.trans (hbel.mono HX.out.size)
      have hp12w : w.heap.size ≤ p12 := by have := HX.out.size; omega
      clear hbel
      go_ret2
      exact ⟨by rw [HIO.out]; rfl, by repeat (first | (with_reducible exact Below.refl _ _) | (with_reducible assumption) | (with_reducible refine ba ?_) | (with_reducible refine bd ?_) | (with_reducible refine bdn ?_ _) | (with_reducible refine bset ?_ (by first | exact Nat.le_refl _ | omega | (simp; done) | (simp; omega))) | (with_reducible refine bt ?_ (by with_reducible assumption)))⟩
    · obtain ⟨p12, rfl, rfl, hp12, b12, b4, b8, hbel⟩ := hcut
      have hoo := HOO.out
      have hg := HG.out
      subst hoo
      subst hg
      have hsr : src = startR := by
        rcases Hsn.out.2 with h | h
        · exact h.2
        · cases h
      subst hsr
      have H12 := Lib.hid b12
      have H4c := Lib.hid b4
      have k4 := b4.cell
      have l4c := b4.lt
      have k8 := b8.cell
      have l8c := b8.lt
      have k12 := b12.cell
      have l12 := b12.lt
      have f12 := b12.free
      clear b12 b4 b8
      by_cases hF : F = v
      · rw [show prevR l e F v none = none by unfold prevR; rw [if_pos hF]] at hRR
        subst hRR
        subst hF
        have cf : ∀ W, Holds W (.slice rp n rc) l → Calls Tryz.prog 59 #[.slice rp n rc, .agg #[.int .i64 e.off, .int .i64 2, .int .i64 e.save, .string e.rules, .string e.format, .bool e.u.has, .int .i64 e.u.year, .int .i64 e.u.month, .int .i64 e.u.kind, .int .i64 e.u.week, .int .i64 e.u.day, .int .i64 e.u.sec, .int .i64 e.u.base]] W fun z w' => z = .returned (.agg #[.int .i64 F.off, .int .i64 F.save, .string F.abbr]) ∧ Below W.heap.size W w' := fun W h => Cf.out W h
        have CF := Lib.hid cf
        clear cf Cf
        go_upto_region 8 with fail
        (refine region_later (by kernel_rfl) (by kernel_rfl) ?_; (repeat (go_big_quiet_step (first | (go_at_call 59; rename_i xL; apply calls_later xL (Nat.le_refl _); exact (CF.out _ (HHX.out.later (bt hbel xL.h))))))); refine wpQuiet_nil ?_; rintro _ ⟨⟨u6, hu6⟩, rfl⟩)
        have hX := HX.out.trans (hbel.mono HX.out.size)
        clear hbel
        go_wp2
        go_ret2
        exact ⟨rfl, by repeat (first | (with_reducible exact Below.refl _ _) | (with_reducible assumption) | (with_reducible refine ba ?_) | (with_reducible refine bd ?_) | (with_reducible refine bdn ?_ _) | (with_reducible refine bset ?_ (by first | exact Nat.le_refl _ | omega | (simp; done) | (simp; omega))) | (with_reducible refine bt ?_ (by with_reducible assumption)))⟩
      · have hcs : F.off ≠ v.off ∨ (F.off = v.off ∧ F.save ≠ v.save) ∨ (F.off = v.off ∧ F.save = v.save ∧ F.abbr ≠ v.abbr) := by
          obtain ⟨yo, ys, ya⟩ := F
          obtain ⟨vo, vs, va⟩ := v
          simp only [ValV.mk.injEq, not_and] at hF ⊢
          by_cases h1 : yo = vo
          · by_cases h2 : ys = vs
            · exact .inr (.inr ⟨h1, h2, hF h1 h2⟩)
            · exact .inr (.inl ⟨h1, h2⟩)
          · exact .inl h1
        obtain ⟨o, hRo, hNx, hAo⟩ : ∃ o, R = some o ∧ Occ.nextO l e.rules startR = some o ∧ Occ.All l e.rules n o := by
          rcases Hsrc.out with ⟨_, h⟩ | h
          · exact absurd h hF
          · exact h
        clear hRR
        subst hRo
        obtain ⟨io, hio⟩ : ∃ io, io = Chn.inst l e.rules e.off o := ⟨_, rfl⟩
        have cx : ∀ W, Holds W (.slice rp n rc) l → Calls Tryz.prog 63 #[.slice rp n rc, .string e.rules, .agg #[.int .i64 (-1), .int .i64 0, .int .i64 (-2000000000000)]] W fun z w' => z = .returned (.tuple #[.agg #[.int .i64 o.rule, .int .i64 o.year, .int .i64 o.nom], .bool true]) ∧ Below W.heap.size W w' := fun W h => by have := Cx.out W h startR Hsn.out.1; rw [hNx] at this; exact this
        have ci : ∀ W, Holds W (.slice rp n rc) l → Calls Tryz.prog 65 #[.slice rp n rc, .string e.rules, .int .i64 e.off, .agg #[.int .i64 o.rule, .int .i64 o.year, .int .i64 o.nom]] W fun z w' => z = .returned (.tuple #[.int .i64 io, .int .i64 0]) ∧ Below W.heap.size W w' := fun W h => by rw [hio]; exact Ci.out W o h hAo
        have HIO := Lib.hid hio
        have CX := Lib.hid cx
        have CI := Lib.hid ci
        clear hio cx ci Cx Ci hNx hAo Hsrc Hsn
        have cf : ∀ W, Holds W (.slice rp n rc) l → Calls Tryz.prog 59 #[.slice rp n rc, .agg #[.int .i64 e.off, .int .i64 2, .int .i64 e.save, .string e.rules, .string e.format, .bool e.u.has, .int .i64 e.u.year, .int .i64 e.u.month, .int .i64 e.u.kind, .int .i64 e.u.week, .int .i64 e.u.day, .int .i64 e.u.sec, .int .i64 e.u.base]] W fun z w' => z = .returned (.agg #[.int .i64 F.off, .int .i64 F.save, .string F.abbr]) ∧ Below W.heap.size W w' := fun W h => Cf.out W h
        have CF := Lib.hid cf
        clear cf Cf hF
        go_upto_region 8 with fail
        rcases hcs with h1 | ⟨h1, h2⟩ | ⟨h1, h2, h3⟩
        all_goals
          first
            | (have e1 := str_ne h3; rw [h1, h2] at CF; clear h1 h2 h3)
            | (have e1 : (F.save == v.save) = false := (by simpa using h2); rw [h1] at CF; clear h1 h2)
            | (have e1 : (F.off == v.off) = false := by simpa using h1)
          (refine region_later (by kernel_rfl) (by kernel_rfl) ?_; (repeat (go_big_quiet_step (first | (go_at_call 59; rename_i xL; apply calls_later xL (Nat.le_refl _); exact (CF.out _ (HHX.out.later (bt hbel xL.h))))))); refine wpQuiet_nil ?_; rintro _ ⟨⟨u6, hu6⟩, rfl⟩)
          have b12 := H12.out.later hu6
          have b4 := H4c.out.later hu6
          clear k4 l4c k8 l8c k12 l12 f12
          have k4 := b4.cell
          have l4c := b4.lt
          have k12 := b12.cell
          have l12 := b12.lt
          have f12 := b12.free
          clear b12 b4
          go_upto_region 12 with fail
          have b12 := H12.out.later hu6
          have b4 := H4c.out.later hu6
          have hlp : w.heap.size < p12 := by have := H4.out.lt; omega
          generalize hY : World.setCell _ _ _ = Y
          replace b12 : Box Y p12 #[.int .i64 (-1), .int .i64 0, .int .i64 (-2000000000000)] 53 := by rw [← hY]; exact Box.set3 b12
          replace b4 : Box Y w.heap.size #[.int .i64 e.off, .int .i64 2, .int .i64 e.save, .string e.rules, .string e.format, .bool e.u.has, .int .i64 e.u.year, .int .i64 e.u.month, .int .i64 e.u.kind, .int .i64 e.u.week, .int .i64 e.u.day, .int .i64 e.u.sec, .int .i64 e.u.base] 30 := by rw [← hY]; exact Box.other (Box.other (Box.other b4 (by omega)) (by omega)) (by omega)
          have hbel2 : Below X.heap.size X Y := by
            rw [← hY]
            repeat (first | (with_reducible exact Below.refl _ _) | (with_reducible assumption) | (with_reducible refine ba ?_) | (with_reducible refine bd ?_) | (with_reducible refine bdn ?_ _) | (with_reducible refine bset ?_ (by first | exact Nat.le_refl _ | omega | (simp; done) | (simp; omega))) | (with_reducible refine bt ?_ (by with_reducible assumption)))
          have hbel := hbel2
          clear hY H12 H4c k4 l4c k12 l12 f12 hu6 hbel2
          have k4 := b4.cell
          have l4c := b4.lt
          have k12 := b12.cell
          have l12 := b12.lt
          have f12 := b12.free
          clear b12 b4 CF
          go_wp2_with (first
            | (go_at_call 63; (with_reducible refine (CX.out _ ?_).mono ?_); (· exact HHX.out.later (by repeat (first | (with_reducible exact Below.refl _ _) | (with_reducible assumption) | (with_reducible refine ba ?_) | (with_reducible refine bd ?_) | (with_reducible refine bdn ?_ _) | (with_reducible refine bset ?_ (by first | exact Nat.le_refl _ | omega | (simp; done) | (simp; omega))) | (with_reducible refine bt ?_ (by with_reducible assumption))))); rintro e w7 ⟨rfl, hb7⟩; obtain ⟨hc7, hf7⟩ := bcell hb7; have hc7_0 := fun o => hc7 (w.heap.size) o (by first | assumption | omega | (simp; done) | (simp; omega)); have hf7_0 := fun o => hf7 (w.heap.size) o (by first | assumption | omega | (simp; done) | (simp; omega)); have hc7_1 := fun o => hc7 (p12) o (by first | assumption | omega | (simp; done) | (simp; omega)); have hf7_1 := fun o => hf7 (p12) o (by first | assumption | omega | (simp; done) | (simp; omega)); clear hc7 hf7; have hz7_0 : w.heap.size < w7.heap.size := (by first | exact sz1 hb7 | exact sz2 hb7 | exact sz3 hb7 | (have := hb7.size; (try simp only [World.size_alloc, World.size_drew] at this); omega)); have hz7_1 : p12 < w7.heap.size := (by first | exact sz1 hb7 | exact sz2 hb7 | exact sz3 hb7 | (have := hb7.size; (try simp only [World.size_alloc, World.size_drew] at this); omega)))
            | (go_at_call 65; (with_reducible refine (CI.out _ ?_).mono ?_); (· exact HHX.out.later (by repeat (first | (with_reducible exact Below.refl _ _) | (with_reducible assumption) | (with_reducible refine ba ?_) | (with_reducible refine bd ?_) | (with_reducible refine bdn ?_ _) | (with_reducible refine bset ?_ (by first | exact Nat.le_refl _ | omega | (simp; done) | (simp; omega))) | (with_reducible refine bt ?_ (by with_reducible assumption))))); rintro z w8 ⟨rfl, hb8⟩))
          have hX := HX.out.trans (hbel.mono HX.out.size)
          have hp12w : w.heap.size ≤ p12 := by have := HX.out.size; omega
          clear hbel
          go_ret2
          exact ⟨by rw [HIO.out]; rfl, by repeat (first | (with_reducible exact Below.refl _ _) | (with_reducible assumption) | (with_reducible refine ba ?_) | (with_reducible refine bd ?_) | (with_reducible refine bdn ?_ _) | (with_reducible refine bset ?_ (by first | exact Nat.le_refl _ | omega | (simp; done) | (simp; omega))) | (with_reducible refine bt ?_ (by with_reducible assumption)))⟩
theorem Prev {w : World} {r : Value} {l : List RuleV} (hr : Holds w r l) (e : EraV) (he : e.Fit) (t : Int) (hs : ∀ x ∈ l, x.letter.size ≤ 1000000) (hn : l.length ≤ 100000) :
    Calls Tryz.prog 30 #[r, .agg e.cells.toArray, .int .i64 t] w fun x w' => x = .returned (.tuple #[.int .i64 (prevV l e t).1, .bool (prevV l e t).2]) ∧ Below w.heap.size w w' := by
  unfold prevV
  by_cases h : Er.rightB e = true ∧ e.kind = 2
  · rw [if_pos h]
    exact RFrc.prev1 hr e he t hs hn h.1 h.2
  · rw [if_neg h]
    exact RFrc.prev0 hr e he t hs hn h
end RFrc
end Go.Proofs.YtkpjhgkmjcdobaaGreatDoor
