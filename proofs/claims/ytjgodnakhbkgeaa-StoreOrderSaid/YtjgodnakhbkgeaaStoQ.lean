/-
  store.Put: what is put.
-/
import Derived.Test.YtjgodnakhbkgeaaStoP
import Derived.Deep.RegionHeld3
import Derived.Deep.DrawnRows
namespace Go.Proofs.Ytjgodnakhbkgeaa
open Go.RowKit NB OW
namespace Sto
attribute [local go_sem ↓] eqlL neqL
attribute [local go_sem ↓] Go.wp_at_zero Go.wp_at_succ
/-- what slices.Insert does in Put -/
def InsC (w : World) (base q n : Nat) (v : Value) (l : List InfoV) (i : InfoV) : Prop :=
  ∀ (W : World) (vb : Nat), Onl (fun _ => False) w W → w.heap.size ≤ vb → Box W vb #[.int .i64 i.fr, .int .i64 i.th, .int .i64 i.off, .int .i64 i.save, .string i.abbr] 50 →
    Calls Try.prog 60 #[v, .int .i64 q, .slice (some ⟨vb, 0, none⟩) 1 1] W fun e w' => ∃ v', e = .returned v' ∧ w'.ownsRow base 50 5 v' (n + 1) ((l.take q ++ i :: l.drop q).flatMap InfoV.cells) ∧ W.grownBy w' v.ownBlock ∧ (v'.ownBlock = v.ownBlock ∨ v'.ownBlock = some W.heap.size)
theorem InsC.use {w : World} {base q n : Nat} {v : Value} {l : List InfoV} {i : InfoV} (h : InsC w base q n v l i) (W : World) (vb : Nat) (h1 : Below w.heap.size w W) (h2 : w.heap.size ≤ vb) (h3 : Box W vb #[.int .i64 i.fr, .int .i64 i.th, .int .i64 i.off, .int .i64 i.save, .string i.abbr] 50) :
    Calls Try.prog 60 #[v, .int .i64 q, .slice (some ⟨vb, 0, none⟩) 1 1] W fun e w' => ∃ v', e = .returned v' ∧ w'.ownsRow base 50 5 v' (n + 1) ((l.take q ++ i :: l.drop q).flatMap InfoV.cells) ∧ W.grownBy w' v.ownBlock ∧ (v'.ownBlock = v.ownBlock ∨ v'.ownBlock = some W.heap.size) := h W vb (Onl.of_below h1) h2 h3
theorem insC {w : World} {base b : Nat} {room : Int} {v : Value} {l : List InfoV} (h : SS w base b room v l) (hb : base ≤ w.heap.size) (i : InfoV) (q : Nat) (hq : q ≤ l.length) : InsC w base q l.length v l i := by
  intro W vb hW hvb hbx
  have h1 := h.keep hW (fun e => e) (fun _ _ e => e)
  have := SlI.Insert h1.own (Nat.le_trans hb hW.size) (flat_one l) q hq vb i.cells rfl (SlI.info_one i) hbx (fun e => by have := (h.own.lt vb e).2; omega) (by have := h.n; omega)
  rwa [flat_put] at this
/-- the store behind slices.Insert -/
theorem put_left {w X w' : World} {base b q : Nat} {room : Int} {v v' : Value} {l : List InfoV} (h : SS w base b room v l) (i : InfoV) (hX : Onl (fun _ => False) w X) (hl : (l.length : Int) < room)
    (hord : Ord (l.take q ++ i :: l.drop q)) (hq : q ≤ l.length) (ho : w'.ownsRow base 50 5 v' (l.length + 1) ((l.take q ++ i :: l.drop q).flatMap InfoV.cells)) (hg : X.grownBy w' v.ownBlock) (hat : v'.ownBlock = v.ownBlock ∨ v'.ownBlock = some X.heap.size) :
    Left w base b room v (l.take q ++ i :: l.drop q) (w'.setCell ⟨b, 1, none⟩ v') := by
  have hne := h.ne
  have h1 := h.keep hX (fun e => e) (fun _ _ e => e)
  have hN := Onl.of_grown (S := fun j => v.ownBlock = some j) hg (fun g h => h)
  have hbx := hN.box h1.box (fun e => hne e)
  have hlen : (l.take q ++ i :: l.drop q).length = l.length + 1 := by
    rw [List.length_append, List.length_take, List.length_cons, List.length_drop]; omega
  refine ⟨v', ⟨hbx.set, ?_, h.bb, hord, by rw [hlen]; omega, h.r0, h.r1⟩, ?_, ?_⟩
  · have := (Onl.of_below (S := fun j => j = b) (Below.refl w'.heap.size w')).setCell (b := b) (o := 1) (v := v') (.inl rfl)
    rw [hlen]
    refine this.own ho (fun g hg' e => ?_)
    subst e
    rcases hat with e | e
    · rw [e] at hg'; exact hne hg'
    · rw [e] at hg'
      have : X.heap.size = g := Option.some.inj hg'
      have := h.box.lt
      have := hX.size
      omega
  · refine Onl.setCell ?_ (.inl (.inl rfl))
    exact (hX.mono (fun _ _ e => e.elim)).trans hN (fun j _ e => .inr e)
  · rcases hat with e | e
    · exact .inl e
    · exact .inr ⟨_, e, hX.size⟩
set_option maxRecDepth 100000 in
set_option maxHeartbeats 3200000 in
theorem put0n {w : World} {base b : Nat} {room : Int} {v : Value} {l : List InfoV} (h : SS w base b room v l) (hbw : base ≤ w.heap.size) (i : InfoV) (hi : i.fr < i.th) (hx : l[place l i.fr]? = none) (hr : ¬ (l.length : Int) = room) (hord : Ord (l.take (place l i.fr) ++ i :: l.drop (place l i.fr))) :
    Calls Try.prog 22 #[.pointer (some ⟨b, 0, none⟩), .agg i.cells.toArray] w fun e w' => e = .returned (.int .i64 0) ∧ Left w base b room v (l.take (place l i.fr) ++ i :: l.drop (place l i.fr)) w' := by
  have c := fun W => right i.fr i.th W
  rw [decide_eq_true hi] at c
  have cp := fun W (hb : Below w.heap.size w W) => placeW (h.later hb) i.fr
  have ci := insC h hbw i (place l i.fr) (place_le _ _)
  have CI := Lib.hid ci
  have C := Lib.hid c
  have CP := Lib.hid cp
  have H := Lib.hid h
  have l0 := h.box.lt
  have k0 := h.box.cell 1
  have k1 := h.box.cell 0
  have f0 := h.box.free 1
  have n0 := h.n
  have hlr := h.len
  have ho := h.own
  have hp : place l i.fr = l.length := by
    have := place_le l i.fr
    have := List.getElem?_eq_none_iff.1 hx
    omega
  obtain ⟨p, cap, rfl⟩ := own_form ho
  have b1 : decide (place l i.fr < l.length) = false := decide_eq_false (by omega)
  have hpl := place_le l i.fr
  have HORD := Lib.hid hord
  generalize place l i.fr = q at *
  have HP := Lib.hid hpl
  have e1 : ((l.length : Int) == room) = false := by simpa using hr
  clear ho hx hp h c cp ci hord hpl
  have HL := Lib.hid hlr
  unfold InfoV.cells
  go_enter Try.func22, Try.ntmps22
  go_wp2_with (first
    | (go_at_call 58; (with_reducible refine (C.out _).mono ?_); rintro e w1 ⟨rfl, hb1⟩; obtain ⟨hc1, hf1⟩ := bcell hb1; have hc1_0 := fun o => hc1 (b) o (by first | assumption | omega | (simp; done) | (simp; omega)); have hf1_0 := fun o => hf1 (b) o (by first | assumption | omega | (simp; done) | (simp; omega)); have hc1_1 := fun o => hc1 (w.heap.size) o (by first | assumption | omega | (simp; done) | (simp; omega)); have hf1_1 := fun o => hf1 (w.heap.size) o (by first | assumption | omega | (simp; done) | (simp; omega)); clear hc1 hf1; have hz1_0 : b < w1.heap.size := (by first | exact sz1 hb1 | exact sz2 hb1 | exact sz3 hb1 | (have := hb1.size; (try simp only [World.size_alloc, World.size_drew] at this); omega)); have hz1_1 : w.heap.size < w1.heap.size := (by first | exact sz1 hb1 | exact sz2 hb1 | exact sz3 hb1 | (have := hb1.size; (try simp only [World.size_alloc, World.size_drew] at this); omega)))
    | (go_at_call 59; (with_reducible refine (CP.out _ ?_).mono ?_); (· repeat (first | (with_reducible exact Below.refl _ _) | (with_reducible assumption) | (with_reducible refine ba ?_) | (with_reducible refine bd ?_) | (with_reducible refine bdn ?_ _) | (with_reducible refine bset ?_ (by first | exact Nat.le_refl _ | omega | (simp; done) | (simp; omega))) | (with_reducible refine bt ?_ (by with_reducible assumption)))); rintro e w2 ⟨rfl, hb2⟩; obtain ⟨hc2, hf2⟩ := bcell hb2; have hc2_0 := fun o => hc2 (b) o (by first | assumption | omega | (simp; done) | (simp; omega)); have hf2_0 := fun o => hf2 (b) o (by first | assumption | omega | (simp; done) | (simp; omega)); have hc2_1 := fun o => hc2 (w.heap.size) o (by first | assumption | omega | (simp; done) | (simp; omega)); have hf2_1 := fun o => hf2 (w.heap.size) o (by first | assumption | omega | (simp; done) | (simp; omega)); clear hc2 hf2; have hz2_0 : b < w2.heap.size := (by first | exact sz1 hb2 | exact sz2 hb2 | exact sz3 hb2 | (have := hb2.size; (try simp only [World.size_alloc, World.size_drew] at this); omega)); have hz2_1 : w.heap.size < w2.heap.size := (by first | exact sz1 hb2 | exact sz2 hb2 | exact sz3 hb2 | (have := hb2.size; (try simp only [World.size_alloc, World.size_drew] at this); omega))))
  go_quiet (fail)
  go_wp2
  go_quiet (fail)
  go_wp2
  go_quiet (fail)
  go_wp2
  have bX : Below w.heap.size w w2 := by repeat (first | (with_reducible exact Below.refl _ _) | (with_reducible assumption) | (with_reducible refine ba ?_) | (with_reducible refine bd ?_) | (with_reducible refine bdn ?_ _) | (with_reducible refine bset ?_ (by first | exact Nat.le_refl _ | omega | (simp; done) | (simp; omega))) | (with_reducible refine bt ?_ (by with_reducible assumption)))
  have hne := H.out.ne
  have hal : ∀ (k : Nat) (O : Obj) (o : Nat), ((w2.drewN k).alloc O).cell? ⟨b, o, none⟩ = w2.cell? ⟨b, o, none⟩ := fun k O o => World.cell?_alloc_lt (w2.drewN k) O _ hz2_0
  go_region_with (first
    | (go_at_call 60; (with_reducible refine (CI.out.use _ _ ?_ ?_ ?_).mono ?_); (· repeat (first | (with_reducible exact Below.refl _ _) | (with_reducible assumption) | (with_reducible refine ba ?_) | (with_reducible refine bd ?_) | (with_reducible refine bdn ?_ _) | (with_reducible refine bset ?_ (by first | exact Nat.le_refl _ | omega | (simp; done) | (simp; omega))) | (with_reducible refine bt ?_ (by with_reducible assumption)))); (· omega); (· exact Box.new _ _ _); rintro e w5 ⟨v5, rfl, ho5, hg5, hat5⟩; obtain ⟨p5, cap5, rfl⟩ := own_form ho5; have k5 : w5.cell? ⟨b, 1, none⟩ = some (.slice p l.length cap) := (hg5.cell_far ⟨b, 1, none⟩ (by simp; omega) (fun e => hne e.symm)).trans ((Below.cell (B := w.heap.size) (w := w) (p := ⟨b, 1, none⟩) (by repeat (first | (with_reducible exact Below.refl _ _) | (with_reducible assumption) | (with_reducible refine ba ?_) | (with_reducible refine bd ?_) | (with_reducible refine bdn ?_ _) | (with_reducible refine bset ?_ (by first | exact Nat.le_refl _ | omega | (simp; done) | (simp; omega))) | (with_reducible refine bt ?_ (by with_reducible assumption)))) l0).trans k0); have f5 : w5.frozen? ⟨b, 1, none⟩ = false := (hg5.frozen_far ⟨b, 1, none⟩ (by simp; omega) (fun e => hne e.symm)).trans ((Below.frozen (B := w.heap.size) (w := w) (p := ⟨b, 1, none⟩) (by repeat (first | (with_reducible exact Below.refl _ _) | (with_reducible assumption) | (with_reducible refine ba ?_) | (with_reducible refine bd ?_) | (with_reducible refine bdn ?_ _) | (with_reducible refine bset ?_ (by first | exact Nat.le_refl _ | omega | (simp; done) | (simp; omega))) | (with_reducible refine bt ?_ (by with_reducible assumption)))) l0).trans f0)))
  all_goals
    go_wp2
    go_ret
    exact ⟨rfl, put_left H.out i (Onl.of_below (by repeat (first | (with_reducible exact Below.refl _ _) | (with_reducible assumption) | (with_reducible refine ba ?_) | (with_reducible refine bd ?_) | (with_reducible refine bdn ?_ _) | (with_reducible refine bset ?_ (by first | exact Nat.le_refl _ | omega | (simp; done) | (simp; omega))) | (with_reducible refine bt ?_ (by with_reducible assumption))))) (by omega) HORD.out HP.out ho5 hg5 hat5⟩
set_option maxRecDepth 100000 in
set_option maxHeartbeats 3200000 in
theorem put0s {w : World} {base b : Nat} {room : Int} {v : Value} {l : List InfoV} (h : SS w base b room v l) (hbw : base ≤ w.heap.size) (i : InfoV) (hi : i.fr < i.th) (x : InfoV) (hx : l[place l i.fr]? = some x) (hxi : ¬ x = i) (hlt : ¬ x.fr < i.th) (hr : ¬ (l.length : Int) = room) (hord : Ord (l.take (place l i.fr) ++ i :: l.drop (place l i.fr))) :
    Calls Try.prog 22 #[.pointer (some ⟨b, 0, none⟩), .agg i.cells.toArray] w fun e w' => e = .returned (.int .i64 0) ∧ Left w base b room v (l.take (place l i.fr) ++ i :: l.drop (place l i.fr)) w' := by
  have c := fun W => right i.fr i.th W
  rw [decide_eq_true hi] at c
  have cp := fun W (hb : Below w.heap.size w W) => placeW (h.later hb) i.fr
  have ci := insC h hbw i (place l i.fr) (place_le _ _)
  have CI := Lib.hid ci
  have C := Lib.hid c
  have CP := Lib.hid cp
  have H := Lib.hid h
  have l0 := h.box.lt
  have k0 := h.box.cell 1
  have k1 := h.box.cell 0
  have f0 := h.box.free 1
  have n0 := h.n
  have hlr := h.len
  have ho := h.own
  have hp := (List.getElem?_eq_some_iff.1 hx).1
  rcases ho.2 with ⟨rfl, hn0⟩ | ⟨g, cap, cur, rfl, hbg, hg, hnc, hcm, hsz, htk⟩
  · omega
  obtain ⟨c0, c1, c2, c3, c4⟩ := own_cells ho hx
  have lg : g < w.heap.size := (Array.getElem?_eq_some_iff.1 hg).1
  have b1 : ((place l i.fr : Nat) : Int) < (l.length : Int) := by omega
  have e0 : eqI ⟨x.fr, x.th, x.off, x.save, x.abbr⟩ ⟨i.fr, i.th, i.off, i.save, i.abbr⟩ = false := decide_eq_false hxi
  have b2 : decide (x.fr < i.th) = false := decide_eq_false hlt
  have hpl := place_le l i.fr
  have HORD := Lib.hid hord
  generalize place l i.fr = q at *
  have HP := Lib.hid hpl
  have e1 : ((l.length : Int) == room) = false := by simpa using hr
  clear ho hx hp h c cp ci hord hpl hxi hg hsz htk hnc hcm hbg
  have HL := Lib.hid hlr
  unfold InfoV.cells
  go_enter Try.func22, Try.ntmps22
  go_wp2_with (first
    | (go_at_call 58; (with_reducible refine (C.out _).mono ?_); rintro e w1 ⟨rfl, hb1⟩; obtain ⟨hc1, hf1⟩ := bcell hb1; have hc1_0 := fun o => hc1 (b) o (by first | assumption | omega | (simp; done) | (simp; omega)); have hf1_0 := fun o => hf1 (b) o (by first | assumption | omega | (simp; done) | (simp; omega)); have hc1_1 := fun o => hc1 (w.heap.size) o (by first | assumption | omega | (simp; done) | (simp; omega)); have hf1_1 := fun o => hf1 (w.heap.size) o (by first | assumption | omega | (simp; done) | (simp; omega)); have hc1_2 := fun o => hc1 (g) o (by first | assumption | omega | (simp; done) | (simp; omega)); have hf1_2 := fun o => hf1 (g) o (by first | assumption | omega | (simp; done) | (simp; omega)); clear hc1 hf1; have hz1_0 : b < w1.heap.size := (by first | exact sz1 hb1 | exact sz2 hb1 | exact sz3 hb1 | (have := hb1.size; (try simp only [World.size_alloc, World.size_drew] at this); omega)); have hz1_1 : w.heap.size < w1.heap.size := (by first | exact sz1 hb1 | exact sz2 hb1 | exact sz3 hb1 | (have := hb1.size; (try simp only [World.size_alloc, World.size_drew] at this); omega)); have hz1_2 : g < w1.heap.size := (by first | exact sz1 hb1 | exact sz2 hb1 | exact sz3 hb1 | (have := hb1.size; (try simp only [World.size_alloc, World.size_drew] at this); omega)))
    | (go_at_call 59; (with_reducible refine (CP.out _ ?_).mono ?_); (· repeat (first | (with_reducible exact Below.refl _ _) | (with_reducible assumption) | (with_reducible refine ba ?_) | (with_reducible refine bd ?_) | (with_reducible refine bdn ?_ _) | (with_reducible refine bset ?_ (by first | exact Nat.le_refl _ | omega | (simp; done) | (simp; omega))) | (with_reducible refine bt ?_ (by with_reducible assumption)))); rintro e w2 ⟨rfl, hb2⟩; obtain ⟨hc2, hf2⟩ := bcell hb2; have hc2_0 := fun o => hc2 (b) o (by first | assumption | omega | (simp; done) | (simp; omega)); have hf2_0 := fun o => hf2 (b) o (by first | assumption | omega | (simp; done) | (simp; omega)); have hc2_1 := fun o => hc2 (w.heap.size) o (by first | assumption | omega | (simp; done) | (simp; omega)); have hf2_1 := fun o => hf2 (w.heap.size) o (by first | assumption | omega | (simp; done) | (simp; omega)); have hc2_2 := fun o => hc2 (g) o (by first | assumption | omega | (simp; done) | (simp; omega)); have hf2_2 := fun o => hf2 (g) o (by first | assumption | omega | (simp; done) | (simp; omega)); clear hc2 hf2; have hz2_0 : b < w2.heap.size := (by first | exact sz1 hb2 | exact sz2 hb2 | exact sz3 hb2 | (have := hb2.size; (try simp only [World.size_alloc, World.size_drew] at this); omega)); have hz2_1 : w.heap.size < w2.heap.size := (by first | exact sz1 hb2 | exact sz2 hb2 | exact sz3 hb2 | (have := hb2.size; (try simp only [World.size_alloc, World.size_drew] at this); omega)); have hz2_2 : g < w2.heap.size := (by first | exact sz1 hb2 | exact sz2 hb2 | exact sz3 hb2 | (have := hb2.size; (try simp only [World.size_alloc, World.size_drew] at this); omega))))
  go_quiet (fail)
  go_wp2
  go_quiet (fail)
  go_wp2
  go_quiet (fail)
  go_wp2
  have bX : Below w.heap.size w w2 := by repeat (first | (with_reducible exact Below.refl _ _) | (with_reducible assumption) | (with_reducible refine ba ?_) | (with_reducible refine bd ?_) | (with_reducible refine bdn ?_ _) | (with_reducible refine bset ?_ (by first | exact Nat.le_refl _ | omega | (simp; done) | (simp; omega))) | (with_reducible refine bt ?_ (by with_reducible assumption)))
  have hne := H.out.ne
  have hal : ∀ (k : Nat) (O : Obj) (o : Nat), ((w2.drewN k).alloc O).cell? ⟨b, o, none⟩ = w2.cell? ⟨b, o, none⟩ := fun k O o => World.cell?_alloc_lt (w2.drewN k) O _ hz2_0
  go_region_with (first
    | (go_at_call 60; (with_reducible refine (CI.out.use _ _ ?_ ?_ ?_).mono ?_); (· repeat (first | (with_reducible exact Below.refl _ _) | (with_reducible assumption) | (with_reducible refine ba ?_) | (with_reducible refine bd ?_) | (with_reducible refine bdn ?_ _) | (with_reducible refine bset ?_ (by first | exact Nat.le_refl _ | omega | (simp; done) | (simp; omega))) | (with_reducible refine bt ?_ (by with_reducible assumption)))); (· omega); (· exact Box.new _ _ _); rintro e w5 ⟨v5, rfl, ho5, hg5, hat5⟩; obtain ⟨p5, cap5, rfl⟩ := own_form ho5; have k5 : w5.cell? ⟨b, 1, none⟩ = some (.slice (some ⟨g, 0, none⟩) l.length cap) := (hg5.cell_far ⟨b, 1, none⟩ (by simp; omega) (fun e => hne e.symm)).trans ((Below.cell (B := w.heap.size) (w := w) (p := ⟨b, 1, none⟩) (by repeat (first | (with_reducible exact Below.refl _ _) | (with_reducible assumption) | (with_reducible refine ba ?_) | (with_reducible refine bd ?_) | (with_reducible refine bdn ?_ _) | (with_reducible refine bset ?_ (by first | exact Nat.le_refl _ | omega | (simp; done) | (simp; omega))) | (with_reducible refine bt ?_ (by with_reducible assumption)))) l0).trans k0); have f5 : w5.frozen? ⟨b, 1, none⟩ = false := (hg5.frozen_far ⟨b, 1, none⟩ (by simp; omega) (fun e => hne e.symm)).trans ((Below.frozen (B := w.heap.size) (w := w) (p := ⟨b, 1, none⟩) (by repeat (first | (with_reducible exact Below.refl _ _) | (with_reducible assumption) | (with_reducible refine ba ?_) | (with_reducible refine bd ?_) | (with_reducible refine bdn ?_ _) | (with_reducible refine bset ?_ (by first | exact Nat.le_refl _ | omega | (simp; done) | (simp; omega))) | (with_reducible refine bt ?_ (by with_reducible assumption)))) l0).trans f0)))
  all_goals
    go_wp2
    go_ret
    exact ⟨rfl, put_left H.out i (Onl.of_below (by repeat (first | (with_reducible exact Below.refl _ _) | (with_reducible assumption) | (with_reducible refine ba ?_) | (with_reducible refine bd ?_) | (with_reducible refine bdn ?_ _) | (with_reducible refine bset ?_ (by first | exact Nat.le_refl _ | omega | (simp; done) | (simp; omega))) | (with_reducible refine bt ?_ (by with_reducible assumption))))) (by omega) HORD.out HP.out ho5 hg5 hat5⟩
/-- store.Put -/
theorem Put {w : World} {base b : Nat} {room : Int} {v : Value} {l : List InfoV} (h : SS w base b room v l) (hb : base ≤ w.heap.size) (i : InfoV) :
    Calls Try.prog 22 #[.pointer (some ⟨b, 0, none⟩), .agg i.cells.toArray] w fun e w' => e = .returned (.int .i64 (putP room l i).1) ∧ Left w base b room v (putP room l i).2 w' := by
  rcases put_ways room l i h.ord with ⟨h1, e⟩ | ⟨h1, h2, e⟩ | ⟨x, h1, h2, h3, h4, e⟩ | ⟨x, h1, h2, h3, h4, ⟨h5, e⟩ | ⟨h5, h6, e⟩⟩ | ⟨h1, h2, ⟨h5, e⟩ | ⟨h5, h6, e⟩⟩
  · rw [e]; exact put4 h i h1
  · rw [e]; exact put11 h i h1 h2
  · rw [e]; exact put21 h i h1 x h2 h3 h4
  · rw [e]; exact put17s h i h1 x h2 h3 h4 h5
  · rw [e]; exact put0s h hb i h1 x h2 h3 h4 h5 h6
  · rw [e]; exact put17n h i h1 h2 h5
  · rw [e]; exact put0n h hb i h1 h2 h5 h6
end Sto
end Go.Proofs.Ytjgodnakhbkgeaa
