import Derived.Test.YtkpjhgkmjcdobaaGreatDoorForceG
import Derived.Test.YtkpjhgkmjcdobaaGreatDoorG17
/-
  force.At.
-/
namespace Go.Proofs.YtkpjhgkmjcdobaaGreatDoor
open Go.RowKit NB Nxt
namespace Frc
set_option maxHeartbeats 3200000 in
set_option maxRecDepth 100000 in
theorem others0 {w : World} {b g : Nat} {e : EraV} {r : Value} (hv : View w b [] e r g) (v : ValV) :
    Calls Tryz.prog 62 #[.pointer (some ⟨b, 0, none⟩), .agg v.cells.toArray] w fun x w' => ∃ v', x = .returned v' ∧ Holds w' v' [] ∧ Below w.heap.size w w' := by
  have cc := fun W (h : Holds W r []) => CloneR h (by simp)
  unfold ValV.cells
  have Cc := Lib.hid cc
  have HV := Lib.hid hv
  have bV := hv.box
  unfold viewC at bV
  have cV := bV.cell
  have lV := bV.lt
  clear cc hv bV
  go_enter Tryz.func62, Tryz.ntmps62
  go_upto_region 3 with (go_at_call 109; (with_reducible refine (Cc.out _ ?_).mono ?_); (· exact HV.out.rules.later (by repeat (first | (with_reducible exact Below.refl _ _) | (with_reducible assumption) | (with_reducible refine ba ?_) | (with_reducible refine bd ?_) | (with_reducible refine bdn ?_ _) | (with_reducible refine bset ?_ (by first | exact Nat.le_refl _ | omega | (simp; done) | (simp; omega))) | (with_reducible refine bt ?_ (by with_reducible assumption))))); rintro x w2 ⟨v', rfl, hrow, hb2⟩; obtain ⟨q, c, hv'⟩ := Grp.own_form hrow; subst hv'; obtain ⟨hc2, hf2⟩ := bcell hb2; have hc2_0 := fun o => hc2 (w.heap.size) o (by first | assumption | omega | (simp; done) | (simp; omega)); have hf2_0 := fun o => hf2 (w.heap.size) o (by first | assumption | omega | (simp; done) | (simp; omega)); have hc2_1 := fun o => hc2 (b) o (by first | assumption | omega | (simp; done) | (simp; omega)); have hf2_1 := fun o => hf2 (b) o (by first | assumption | omega | (simp; done) | (simp; omega)); clear hc2 hf2; have hz2_0 : w.heap.size < w2.heap.size := (by first | exact sz1 hb2 | exact sz2 hb2 | exact sz3 hb2 | (have := hb2.size; (try simp only [World.size_alloc, World.size_drew] at this); omega)); have hz2_1 : b < w2.heap.size := (by first | exact sz1 hb2 | exact sz2 hb2 | exact sz3 hb2 | (have := hb2.size; (try simp only [World.size_alloc] at this); omega)))
  have hbel : Below w.heap.size w w2 := by repeat (first | (with_reducible exact Below.refl _ _) | (with_reducible assumption) | (with_reducible refine ba ?_) | (with_reducible refine bd ?_) | (with_reducible refine bdn ?_ _) | (with_reducible refine bset ?_ (by first | exact Nat.le_refl _ | omega | (simp; done) | (simp; omega))) | (with_reducible refine bt ?_ (by with_reducible assumption)))
  have HbW := Lib.hid hbel
  simp only [List.length_nil] at *
  clear hrow hb2 hc2_0 hf2_0 hc2_1 hf2_1 cV hbel
  go_loopw [14] (fun i wr => i = .int .i64 0 ∧ wr = w2) (fun i _ => 0)
  case atStart => exact ⟨rfl, rfl⟩
  case round =>
    obtain ⟨rfl, rfl⟩ := hrel
    go_wp2
    go_ret
    exact ⟨_, rfl, ⟨.inl ⟨_, _, rfl, rfl⟩, by simp, by simp⟩, HbW.out⟩
theorem others {w : World} {b g : Nat} {l : List RuleV} {e : EraV} {r : Value} (hv : View w b l e r g) (hn : l.length ≤ 100000) (v : ValV) :
    Calls Tryz.prog 62 #[.pointer (some ⟨b, 0, none⟩), .agg v.cells.toArray] w fun x w' => ∃ v', x = .returned v' ∧ Holds w' v' (othX l e v) ∧ Below w.heap.size w w' := by
  by_cases h0 : 0 < l.length
  · exact others1 hv hn v h0
  · have : l = [] := List.eq_nil_of_length_eq_zero (by omega)
    subst this
    exact others0 hv v
theorem all_othX {l : List RuleV} {e : EraV} {v : ValV} {n : Nat} {o : OccV} (hn : e.rules ≠ ⟨#[]⟩) : Occ.All (othX l e v) e.rules n o ↔ Occ.All l e.rules n o ∧ valAt l e o.rule ≠ v := by
  constructor
  · rintro ⟨i, r, hi, hr, hnm, hR, hof⟩
    unfold othX at hr
    rw [List.getElem?_map] at hr
    cases h0 : l[i]? with
    | none => rw [h0] at hr; cases hr
    | some r0 =>
      rw [h0] at hr
      simp only [Option.map_some, Option.some.injEq] at hr
      unfold ox at hr
      by_cases hc : valX e r0 = v
      · rw [if_pos hc] at hr
        subst hr
        exact absurd hnm.symm hn
      · rw [if_neg hc] at hr
        subst hr
        refine ⟨⟨i, r0, hi, h0, hnm, hR, hof⟩, fun hv => hc ?_⟩
        rw [show o.rule = (i : Int) by rw [hof.2.2]; rfl, val_rule h0] at hv
        unfold valX
        rw [if_pos hnm]
        exact hv
  · rintro ⟨⟨i, r, hi, hr, hnm, hR, hof⟩, hv⟩
    rw [show o.rule = (i : Int) by rw [hof.2.2]; rfl, val_rule hr] at hv
    refine ⟨i, r, hi, ?_, hnm, hR, hof⟩
    rw [othX_at hr]
    unfold ox valX
    rw [if_pos hnm, if_neg hv]
theorem othX_len (l : List RuleV) (e : EraV) (v : ValV) : (othX l e v).length = l.length := by unfold othX; simp
theorem next_othX {l : List RuleV} {e : EraV} {v : ValV} (hn : e.rules ≠ ⟨#[]⟩) (fr : OccV) : Occ.nextO (othX l e v) e.rules fr = Occ.nextO (othV l e v) e.rules fr := by
  have h1 := Occ.best_next (othX l e v) e.rules fr
  have h2 := Occ.best_next (othV l e v) e.rules fr
  rw [othX_len] at h1
  rw [oth_len] at h2
  exact Occ.Best.unique Occ.weak_less (h1.congr fun o => (all_othX hn).trans (all_oth hn).symm) h2
theorem prev_othX {l : List RuleV} {e : EraV} {v : ValV} (hn : e.rules ≠ ⟨#[]⟩) (fr : OccV) : Occ.prevO (othX l e v) e.rules fr = Occ.prevO (othV l e v) e.rules fr := by
  have h1 := Occ.best_prev (othX l e v) e.rules fr
  have h2 := Occ.best_prev (othV l e v) e.rules fr
  rw [othX_len] at h1
  rw [oth_len] at h2
  exact Occ.Best.unique Occ.weak_more (h1.congr fun o => (all_othX hn).trans (all_oth hn).symm) h2
noncomputable def atR (l : List RuleV) (e : EraV) (t : Int) : ValV × OccV × Bool := if e.kind = 2 then (stateV l e t, (lastP l e t).getD ⟨0, 0, 0⟩, (lastP l e t).isSome) else (valR e e.save ⟨#[]⟩, ⟨0, 0, 0⟩, false)
theorem atW {w : World} {b g : Nat} {l : List RuleV} {e : EraV} {r : Value} (hv : View w b l e r g) (he : e.Fit) (ht : Tab w) (t : Int) (hn : l.length ≤ 100000) :
    Calls Tryz.prog 56 #[.pointer (some ⟨b, 0, none⟩), .int .i64 t] w fun x w' => x = .returned (.tuple #[.agg (atR l e t).1.cells.toArray, .agg (atR l e t).2.1.cells.toArray, .bool (atR l e t).2.2]) ∧ Below w.heap.size w w' := by
  unfold atR
  by_cases hk : e.kind = 2
  · rw [if_pos hk]
    cases hl : lastP l e t with
    | none => exact atN hv he ht t hk hn hl
    | some o => exact atS hv he ht t hk hn o hl
  · rw [if_neg hk]
    exact atK hv he ht t hk
set_option maxHeartbeats 3200000 in
set_option maxRecDepth 100000 in
theorem At {w : World} {r : Value} {l : List RuleV} (hr : Holds w r l) (e : EraV) (he : e.Fit) (t : Int) (ht : Tab w) (hs : ∀ x ∈ l, x.letter.size ≤ 1000000) (hn : l.length ≤ 100000) :
    Calls Tryz.prog 25 #[r, .agg e.cells.toArray, .int .i64 t] w fun x w' => x = .returned (.tuple #[.agg (atV l e t).1.cells.toArray, .int .i64 (atV l e t).2]) ∧ Below w.heap.size w w' := by
  have cr := fun W (h : Tab W) => Er.Right e he W h
  have co := fun W (h : Holds W r l) (ht : Tab W) => of1 e he h ht hs hn
  have HH := Lib.hid hr
  have HT := Lib.hid ht
  unfold atV
  cases hR : Er.rightB e
  · rw [hR] at cr
    rw [if_neg (by decide)]
    unfold EraV.cells ValV.cells at *
    have Cr := Lib.hid cr
    clear cr co hr ht hs
    go_enter Tryz.func25, Tryz.ntmps25
    go_wp2_with (go_at_call 38; (with_reducible refine (Cr.out _ ?_).mono ?_); (· exact HT.out.later (by repeat (first | (with_reducible exact Below.refl _ _) | (with_reducible assumption) | (with_reducible refine ba ?_) | (with_reducible refine bd ?_) | (with_reducible refine bdn ?_ _) | (with_reducible refine bset ?_ (by first | exact Nat.le_refl _ | omega | (simp; done) | (simp; omega))) | (with_reducible refine bt ?_ (by with_reducible assumption))))); rintro e w1 ⟨rfl, hb1⟩; obtain ⟨hc1, hf1⟩ := bcell hb1; have hc1_0 := fun o => hc1 (w.heap.size) o (by first | assumption | omega | (simp; done) | (simp; omega)); have hf1_0 := fun o => hf1 (w.heap.size) o (by first | assumption | omega | (simp; done) | (simp; omega)); have hc1_1 := fun o => hc1 (w.heap.size + 1) o (by first | assumption | omega | (simp; done) | (simp; omega)); have hf1_1 := fun o => hf1 (w.heap.size + 1) o (by first | assumption | omega | (simp; done) | (simp; omega)); clear hc1 hf1; have hz1_0 : w.heap.size < w1.heap.size := (by first | exact sz1 hb1 | exact sz2 hb1 | exact sz3 hb1 | (have := hb1.size; (try simp only [World.size_alloc] at this); omega)); have hz1_1 : w.heap.size + 1 < w1.heap.size := (by first | exact sz1 hb1 | exact sz2 hb1 | exact sz3 hb1 | (have := hb1.size; (try simp only [World.size_alloc, World.size_drew] at this); omega)))
    refine bodyPost_ret (v := .tuple #[.agg #[.int .i64 0, .int .i64 0, .string ⟨#[]⟩], .int .i64 4]) ?_ rfl ⟨rfl, ?_⟩
    · simp only [results, Tryz.results25]
      go_simp
    · repeat (first | (with_reducible exact Below.refl _ _) | (with_reducible assumption) | (with_reducible refine ba ?_) | (with_reducible refine bd ?_) | (with_reducible refine bdn ?_ _) | (with_reducible refine bset ?_ (by first | exact Nat.le_refl _ | omega | (simp; done) | (simp; omega))) | (with_reducible refine bt ?_ (by with_reducible assumption)))
  · rw [hR] at cr
    rw [if_pos rfl]
    have ca := fun W b g (h : View W b l e r g) (h' : Tab W) => atW h he h' t hn
    obtain ⟨y, hy⟩ : ∃ y, y = (atR l e t).1 := ⟨_, rfl⟩
    have hy' : y = (if e.kind = 2 then (stateV l e t, (0 : Int)) else (valR e e.save ⟨#[]⟩, 0)).1 := by rw [hy]; unfold atR; split <;> rfl
    have hy2 : (if e.kind = 2 then (stateV l e t, (0 : Int)) else (valR e e.save ⟨#[]⟩, 0)) = (y, 0) := by rw [hy']; split <;> rfl
    rw [hy2]
    rw [← hy] at ca
    obtain ⟨o, ho⟩ : ∃ o, o = (atR l e t).2.1 := ⟨_, rfl⟩
    obtain ⟨f, hf⟩ : ∃ f, f = (atR l e t).2.2 := ⟨_, rfl⟩
    rw [← ho, ← hf] at ca
    simp only
    unfold EraV.cells ValV.cells OccV.cells at *
    have Cr := Lib.hid cr
    have Co := Lib.hid co
    have Ca := Lib.hid ca
    clear cr co ca hr ht hs hy hy' hy2 ho hf
    go_enter Tryz.func25, Tryz.ntmps25
    go_wp2_with (first
      | (go_at_call 38; (with_reducible refine (Cr.out _ ?_).mono ?_); (· exact HT.out.later (by repeat (first | (with_reducible exact Below.refl _ _) | (with_reducible assumption) | (with_reducible refine ba ?_) | (with_reducible refine bd ?_) | (with_reducible refine bdn ?_ _) | (with_reducible refine bset ?_ (by first | exact Nat.le_refl _ | omega | (simp; done) | (simp; omega))) | (with_reducible refine bt ?_ (by with_reducible assumption))))); rintro e w1 ⟨rfl, hb1⟩; obtain ⟨hc1, hf1⟩ := bcell hb1; have hc1_0 := fun o => hc1 (w.heap.size) o (by first | assumption | omega | (simp; done) | (simp; omega)); have hf1_0 := fun o => hf1 (w.heap.size) o (by first | assumption | omega | (simp; done) | (simp; omega)); have hc1_1 := fun o => hc1 (w.heap.size + 1) o (by first | assumption | omega | (simp; done) | (simp; omega)); have hf1_1 := fun o => hf1 (w.heap.size + 1) o (by first | assumption | omega | (simp; done) | (simp; omega)); clear hc1 hf1; have hz1_0 : w.heap.size < w1.heap.size := (by first | exact sz1 hb1 | exact sz2 hb1 | exact sz3 hb1 | (have := hb1.size; (try simp only [World.size_alloc] at this); omega)); have hz1_1 : w.heap.size + 1 < w1.heap.size := (by first | exact sz1 hb1 | exact sz2 hb1 | exact sz3 hb1 | (have := hb1.size; (try simp only [World.size_alloc, World.size_drew] at this); omega)))
      | (go_at_call 55; (with_reducible refine (Co.out _ ?_ ?_).mono ?_); (· exact HH.out.later (by repeat (first | (with_reducible exact Below.refl _ _) | (with_reducible assumption) | (with_reducible refine ba ?_) | (with_reducible refine bd ?_) | (with_reducible refine bdn ?_ _) | (with_reducible refine bset ?_ (by first | exact Nat.le_refl _ | omega | (simp; done) | (simp; omega))) | (with_reducible refine bt ?_ (by with_reducible assumption))))); (· exact HT.out.later (by repeat (first | (with_reducible exact Below.refl _ _) | (with_reducible assumption) | (with_reducible refine ba ?_) | (with_reducible refine bd ?_) | (with_reducible refine bdn ?_ _) | (with_reducible refine bset ?_ (by first | exact Nat.le_refl _ | omega | (simp; done) | (simp; omega))) | (with_reducible refine bt ?_ (by with_reducible assumption))))); rintro z w2 ⟨b, g, rfl, hvw, hb2⟩; obtain ⟨hc2, hf2⟩ := bcell hb2; have hc2_0 := fun o => hc2 (w.heap.size) o (by first | assumption | omega | (simp; done) | (simp; omega)); have hf2_0 := fun o => hf2 (w.heap.size) o (by first | assumption | omega | (simp; done) | (simp; omega)); have hc2_1 := fun o => hc2 (w.heap.size + 1) o (by first | assumption | omega | (simp; done) | (simp; omega)); have hf2_1 := fun o => hf2 (w.heap.size + 1) o (by first | assumption | omega | (simp; done) | (simp; omega)); clear hc2 hf2; have hz2_0 : w.heap.size < w2.heap.size := (by first | exact sz1 hb2 | exact sz2 hb2 | exact sz3 hb2 | (have := hb2.size; (try simp only [World.size_alloc, World.size_drew] at this); omega)); have hz2_1 : w.heap.size + 1 < w2.heap.size := (by first | exact sz1 hb2 | exact sz2 hb2 | exact sz3 hb2 | (have := hb2.size; (try simp only [World.size_alloc, World.size_drew] at this); omega)))
      | (go_at_call 56; (with_reducible refine (Ca.out _ _ _ hvw ?_).mono ?_); (· exact HT.out.later (by repeat (first | (with_reducible exact Below.refl _ _) | (with_reducible assumption) | (with_reducible refine ba ?_) | (with_reducible refine bd ?_) | (with_reducible refine bdn ?_ _) | (with_reducible refine bset ?_ (by first | exact Nat.le_refl _ | omega | (simp; done) | (simp; omega))) | (with_reducible refine bt ?_ (by with_reducible assumption))))); rintro z w3 ⟨rfl, hb3⟩; obtain ⟨hc3, hf3⟩ := bcell hb3; have hc3_0 := fun o => hc3 (w.heap.size) o (by first | assumption | omega | (simp; done) | (simp; omega)); have hf3_0 := fun o => hf3 (w.heap.size) o (by first | assumption | omega | (simp; done) | (simp; omega)); have hc3_1 := fun o => hc3 (w.heap.size + 1) o (by first | assumption | omega | (simp; done) | (simp; omega)); have hf3_1 := fun o => hf3 (w.heap.size + 1) o (by first | assumption | omega | (simp; done) | (simp; omega)); clear hc3 hf3; have hz3_0 : w.heap.size < w3.heap.size := (by first | exact sz1 hb3 | exact sz2 hb3 | exact sz3 hb3 | (have := hb3.size; (try simp only [World.size_alloc, World.size_drew] at this); omega)); have hz3_1 : w.heap.size + 1 < w3.heap.size := (by first | exact sz1 hb3 | exact sz2 hb3 | exact sz3 hb3 | (have := hb3.size; (try simp only [World.size_alloc, World.size_drew] at this); omega))))
    refine bodyPost_ret (v := .tuple #[.agg #[.int .i64 y.off, .int .i64 y.save, .string y.abbr], .int .i64 0]) ?_ rfl ⟨rfl, ?_⟩
    · simp only [results, Tryz.results25]
      go_simp
    · repeat (first | (with_reducible exact Below.refl _ _) | (with_reducible assumption) | (with_reducible refine ba ?_) | (with_reducible refine bd ?_) | (with_reducible refine bdn ?_ _) | (with_reducible refine bset ?_ (by first | exact Nat.le_refl _ | omega | (simp; done) | (simp; omega))) | (with_reducible refine bt ?_ (by with_reducible assumption)))
end Frc
end Go.Proofs.YtkpjhgkmjcdobaaGreatDoor
